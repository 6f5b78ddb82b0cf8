/-
  strconv.Quote: what is quoted ends by itself, and tells what was quoted (the plain law).
-/
import Derived.Lib.QuoteLoop
namespace Go.Proofs.YtloplmaekonenaaGreatDoor
set_option maxRecDepth 20000
open Go.Lib
def bI (l : List UInt8) : List Int := l.map fun b => (b.toNat : Int)
theorem bI_append (a b : List UInt8) : bI (a ++ b) = bI a ++ bI b := List.map_append
theorem bI_inj {a b : List UInt8} (h : bI a = bI b) : a = b := by
  induction a generalizing b with
  | nil => cases b with
    | nil => rfl
    | cons c l => simp [bI] at h
  | cons x l ih =>
    cases b with
    | nil => simp [bI] at h
    | cons y m =>
      simp only [bI, List.map_cons, List.cons.injEq] at h
      have h1 : x = y := UInt8.toNat_inj.1 (by omega)
      rw [h1, ih (b := m) h.2]
theorem qget_at (s : ByteArray) (i : Nat) : s.get! i = s.data.toList.getD i 0 := by
  show s.data[i]! = _
  rw [List.getD_eq_getElem?_getD, Array.getElem?_toList, getElem!_def]
  cases s.data[i]? <;> rfl
theorem extract_list (s : ByteArray) (k : Nat) : (s.extract k s.size).data.toList = s.data.toList.drop k := by
  have : (s.extract k s.size).data = s.data.extract k s.size := by rw [ByteArray.data_extract]
  rw [this, Array.toList_extract, List.extract_eq_take_drop]
  exact List.take_of_length_le (by rw [List.length_drop, Array.length_toList]; exact Nat.le_refl _)
theorem len4 {b0 : UInt8} {l : List UInt8} (h : 3 < (b0 :: l).length) : ∃ b1 b2 b3 m, l = b1 :: b2 :: b3 :: m := by
  match l, h with
  | b1 :: b2 :: b3 :: m, _ => exact ⟨b1, b2, b3, m, rfl⟩
  | [_, _], h => simp at h
  | [_], h => simp at h
  | [], h => simp at h
theorem two_eq {a b c d : Int} (h : a = c) (i : b = d) : [a, b] = [c, d] := by rw [h, i]
theorem three_eq {a b c d e f : Int} (h : a = d) (i : b = e) (j : c = f) : [a, b, c] = [d, e, f] := by rw [h, i, j]
theorem four_eq {a b c d e f g k : Int} (h : a = e) (i : b = f) (j : c = g) (l : d = k) : [a, b, c, d] = [e, f, g, k] := by rw [h, i, j, l]
set_option maxRecDepth 20000 in
/-- What was decoded is the first bytes. -/
theorem dec_enc (s : ByteArray) (h0 : 0 < s.size) (hg : ¬ ((Utf8.decode s 0).2 = 1 ∧ (Utf8.decode s 0).1 = 65533)) :
    bI s.data.toList = encodeRuneZ ((Utf8.decode s 0).1 : Int) ++ bI (s.extract (Utf8.decode s 0).2 s.size).data.toList := by
  rw [extract_list]
  rw [decode_at] at hg ⊢
  simp only [qget_at, Nat.zero_add] at hg ⊢
  have hsz : s.size = s.data.toList.length := by show s.data.size = _; rw [Array.length_toList]
  rw [hsz] at hg h0 ⊢
  generalize s.data.toList = L at hg h0 ⊢
  match L, h0 with
  | b0 :: l, _ =>
    have t0 := b0.toNat_lt
    simp only [List.getD_cons_zero, List.getD_cons_succ, Nat.sub_zero] at hg ⊢
    unfold decodeN at hg ⊢
    by_cases c1 : b0.toNat < 128
    · rw [if_pos c1]
      simp only
      rw [encodeRuneZ_one (by omega) (by omega)]
      rfl
    rw [if_neg c1] at hg ⊢
    by_cases c2 : b0.toNat / 32 = 6 ∧ (1 < (b0 :: l).length ∧ (l.getD 0 0).toNat / 64 = 2)
    · rw [if_pos c2] at hg ⊢
      split at hg
      · rename_i c3
        rw [if_pos c3]
        match l, c2 with
        | b1 :: m, c2 =>
          simp only [List.getD_cons_zero] at c2 c3 ⊢
          have t1 := b1.toNat_lt
          rw [encodeRuneZ_two (by omega) (by omega)]
          rw [show bI (b0 :: b1 :: m) = [(b0.toNat : Int), b1.toNat] ++ bI m from rfl, show List.drop 2 (b0 :: b1 :: m) = m from rfl]
          refine congrArg (· ++ bI m) (two_eq ?_ ?_) <;> omega
        | [], c2 => simp at c2
      · exact absurd ⟨rfl, rfl⟩ hg
    rw [if_neg c2] at hg ⊢
    by_cases c3 : b0.toNat / 16 = 14 ∧ (1 < (b0 :: l).length ∧ (l.getD 0 0).toNat / 64 = 2) ∧ (2 < (b0 :: l).length ∧ (l.getD 1 0).toNat / 64 = 2)
    · rw [if_pos c3] at hg ⊢
      split at hg
      · rename_i c4
        rw [if_pos c4]
        match l, c3 with
        | b1 :: b2 :: m, c3 =>
          simp only [List.getD_cons_zero, List.getD_cons_succ] at c3 c4 ⊢
          have t1 := b1.toNat_lt
          have t2 := b2.toNat_lt
          rw [encodeRuneZ_three (by omega)]
          rw [show bI (b0 :: b1 :: b2 :: m) = [(b0.toNat : Int), b1.toNat, b2.toNat] ++ bI m from rfl, show List.drop 3 (b0 :: b1 :: b2 :: m) = m from rfl]
          refine congrArg (· ++ bI m) (three_eq ?_ ?_ ?_) <;> omega
        | [_], c3 => simp at c3
        | [], c3 => simp at c3
      · exact absurd ⟨rfl, rfl⟩ hg
    rw [if_neg c3] at hg ⊢
    by_cases c4 : b0.toNat / 8 = 30 ∧ (1 < (b0 :: l).length ∧ (l.getD 0 0).toNat / 64 = 2) ∧ (2 < (b0 :: l).length ∧ (l.getD 1 0).toNat / 64 = 2) ∧ (3 < (b0 :: l).length ∧ (l.getD 2 0).toNat / 64 = 2)
    · rw [if_pos c4] at hg ⊢
      split at hg
      · rename_i c5
        rw [if_pos c5]
        obtain ⟨b1, b2, b3, m, rfl⟩ := len4 c4.2.2.2.1
        · simp only [List.getD_cons_zero, List.getD_cons_succ] at c4 c5 ⊢
          have t1 := b1.toNat_lt
          have t2 := b2.toNat_lt
          have t3 := b3.toNat_lt
          rw [encodeRuneZ_four (by omega) (by omega)]
          rw [show bI (b0 :: b1 :: b2 :: b3 :: m) = [(b0.toNat : Int), b1.toNat, b2.toNat, b3.toNat] ++ bI m from rfl, show List.drop 4 (b0 :: b1 :: b2 :: b3 :: m) = m from rfl]
          refine congrArg (· ++ bI m) (four_eq ?_ ?_ ?_ ?_) <;> omega
      · exact absurd ⟨rfl, rfl⟩ hg
    rw [if_neg c4] at hg
    exact absurd ⟨rfl, rfl⟩ hg

def unhex (x : Int) : Int := if x < 60 then x - 48 else x - 87
theorem unhex_hex (x : Nat) (h : x < 16) : unhex (hexDigit x) = x := by
  unfold unhex hexDigit
  split
  · rw [if_pos (by omega)]; omega
  · rw [if_neg (by omega)]; omega
def unhexs (l : List Int) : Int := l.foldl (fun a x => 16 * a + unhex x) 0
theorem unhexs4 (r : Nat) (h : r < 65536) : unhexs (hexDigits r 4) = r := by
  simp only [unhexs, hexDigits, List.foldl_cons, List.foldl_nil, unhex_hex _ (Nat.mod_lt _ (show 0 < 16 by decide))]
  omega
theorem unhexs8 (r : Nat) (h : r < 4294967296) : unhexs (hexDigits r 8) = r := by
  simp only [unhexs, hexDigits, List.foldl_cons, List.foldl_nil, unhex_hex _ (Nat.mod_lt _ (show 0 < 16 by decide))]
  omega
def unesc (x : Int) : Int := if x = 97 then 7 else if x = 98 then 8 else if x = 102 then 12 else if x = 110 then 10 else if x = 114 then 13 else if x = 116 then 9 else if x = 118 then 11 else x
/-- A piece's bytes, and its length. -/
def dPiece (l : List Int) : List Int × Nat :=
  if l.getD 0 0 = 92 then
    if l.getD 1 0 = 120 then ([unhexs ((l.drop 2).take 2)], 4)
    else if l.getD 1 0 = 117 then (encodeRuneZ (unhexs ((l.drop 2).take 4)), 6)
    else if l.getD 1 0 = 85 then (encodeRuneZ (unhexs ((l.drop 2).take 8)), 10)
    else ([unesc (l.getD 1 0)], 2)
  else if l.getD 0 0 < 128 then (l.take 1, 1)
  else if l.getD 0 0 < 224 then (l.take 2, 2)
  else if l.getD 0 0 < 240 then (l.take 3, 3)
  else (l.take 4, 4)
theorem d_enc (r : Int) (h : 0 ≤ r) (h1 : r ≤ 1114111) (hv : r < 55296 ∨ 57343 < r) (n1 : r ≠ 92) (rest : List Int) : dPiece (encodeRuneZ r ++ rest) = (encodeRuneZ r, (encodeRuneZ r).length) := by
  by_cases a1 : r ≤ 127
  · rw [encodeRuneZ_one h a1]
    unfold dPiece
    rw [if_neg (by simpa using n1), if_pos (by show r < 128; omega)]
    rfl
  by_cases a2 : r ≤ 2047
  · rw [encodeRuneZ_two (by omega) a2]
    unfold dPiece
    rw [if_neg (by show ¬ 192 + r / 64 = 92; omega), if_neg (by show ¬ 192 + r / 64 < 128; omega), if_pos (by show 192 + r / 64 < 224; omega)]
    rfl
  by_cases a3 : r ≤ 65535
  · rw [encodeRuneZ_three (by omega)]
    unfold dPiece
    rw [if_neg (by show ¬ 224 + r / 4096 = 92; omega), if_neg (by show ¬ 224 + r / 4096 < 128; omega), if_neg (by show ¬ 224 + r / 4096 < 224; omega), if_pos (by show 224 + r / 4096 < 240; omega)]
    rfl
  · rw [encodeRuneZ_four (by omega) h1]
    unfold dPiece
    rw [if_neg (by show ¬ 240 + r / 262144 = 92; omega), if_neg (by show ¬ 240 + r / 262144 < 128; omega), if_neg (by show ¬ 240 + r / 262144 < 224; omega), if_neg (by show ¬ 240 + r / 262144 < 240; omega)]
    rfl
theorem d_esc (T : PrintTabs) (r : Nat) (h1 : (r : Int) ≤ 1114111) (hv : (r : Int) < 55296 ∨ 57343 < (r : Int)) (rest : List Int) : dPiece (escRune T r ++ rest) = (encodeRuneZ r, (escRune T r).length) ∧ (escRune T r).getD 0 0 ≠ 34 ∧ 0 < (escRune T r).length := by
  have hvr : validRune (r : Int) = true := by
    simp only [validRune, decide_eq_true_eq]; omega
  have e1 : ∀ k : Nat, k ≤ 127 → (r : Int) = k → encodeRuneZ (r : Int) = [(k : Int)] := fun k hk e => by rw [e]; exact encodeRuneZ_one (by omega) (by omega)
  unfold escRune
  by_cases c0 : (r : Int) = 34 ∨ (r : Int) = 92
  · rw [if_pos c0]
    rcases c0 with c | c
    · rw [e1 34 (by omega) c, c]; exact ⟨rfl, by decide, by decide⟩
    · rw [e1 92 (by omega) c, c]; exact ⟨rfl, by decide, by decide⟩
  rw [if_neg c0]
  by_cases c1 : isPrintR T r = true
  · rw [if_pos c1]
    refine ⟨d_enc r (by omega) h1 hv (fun e => c0 (.inr e)) rest, ?_, (encodeRuneZ_length r).1⟩
    unfold encodeRuneZ
    split
    · show ¬ (r : Int) = 34; exact fun e => c0 (.inl e)
    split
    · show ¬ 192 + (r : Int) / 64 = 34; omega
    split
    · show ¬ 224 + (r : Int) / 4096 = 34; omega
    split
    · show ¬ 240 + (r : Int) / 262144 = 34; omega
    · decide
  rw [if_neg c1]
  by_cases c2 : (r : Int) = 7
  · rw [if_pos c2, e1 7 (by omega) c2]; exact ⟨rfl, by decide, by decide⟩
  rw [if_neg c2]
  by_cases c3 : (r : Int) = 8
  · rw [if_pos c3, e1 8 (by omega) c3]; exact ⟨rfl, by decide, by decide⟩
  rw [if_neg c3]
  by_cases c4 : (r : Int) = 12
  · rw [if_pos c4, e1 12 (by omega) c4]; exact ⟨rfl, by decide, by decide⟩
  rw [if_neg c4]
  by_cases c5 : (r : Int) = 10
  · rw [if_pos c5, e1 10 (by omega) c5]; exact ⟨rfl, by decide, by decide⟩
  rw [if_neg c5]
  by_cases c6 : (r : Int) = 13
  · rw [if_pos c6, e1 13 (by omega) c6]; exact ⟨rfl, by decide, by decide⟩
  rw [if_neg c6]
  by_cases c7 : (r : Int) = 9
  · rw [if_pos c7, e1 9 (by omega) c7]; exact ⟨rfl, by decide, by decide⟩
  rw [if_neg c7]
  by_cases c8 : (r : Int) = 11
  · rw [if_pos c8, e1 11 (by omega) c8]; exact ⟨rfl, by decide, by decide⟩
  rw [if_neg c8]
  by_cases c9 : (r : Int) < 32 ∨ (r : Int) = 127
  · rw [if_pos c9, e1 r (by omega) rfl, Int.toNat_natCast]
    refine ⟨?_, by show (92 : Int) ≠ 34; omega, Nat.succ_pos _⟩
    show ([unhexs [hexDigit (r / 16), hexDigit (r % 16)]], 4) = _
    simp only [unhexs, List.foldl_cons, List.foldl_nil, unhex_hex _ (show r / 16 < 16 by omega), unhex_hex _ (show r % 16 < 16 by omega)]
    refine Prod.ext ?_ rfl
    show [16 * (16 * 0 + ((r / 16 : Nat) : Int)) + ((r % 16 : Nat) : Int)] = [(r : Int)]
    exact congrArg (fun x : Int => [x]) (by omega)
  rw [if_neg c9, if_neg (by rw [hvr]; decide)]
  by_cases c10 : (r : Int) < 65536
  · rw [if_pos c10, Int.toNat_natCast]
    refine ⟨?_, by show (92 : Int) ≠ 34; omega, Nat.succ_pos _⟩
    have e : dPiece (92 :: 117 :: hexDigits r 4 ++ rest) = (encodeRuneZ (unhexs (hexDigits r 4)), 6) := rfl
    rw [e, unhexs4 r (by omega)]
    rfl
  · rw [if_neg c10, Int.toNat_natCast]
    refine ⟨?_, by show (92 : Int) ≠ 34; omega, Nat.succ_pos _⟩
    have e : dPiece (92 :: 85 :: hexDigits r 8 ++ rest) = (encodeRuneZ (unhexs (hexDigits r 8)), 10) := rfl
    rw [e, unhexs8 r (by omega)]
    rfl

/-- A step tells what it is of, and where it ends. -/
theorem d_step (T : PrintTabs) (s : ByteArray) (h0 : 0 < s.size) (rest : List Int) : ∃ l, bI s.data.toList = l ++ bI (s.extract (Utf8.decode s 0).2 s.size).data.toList ∧ dPiece (quoteStep T s ++ rest) = (l, (quoteStep T s).length) ∧ (quoteStep T s).getD 0 0 ≠ 34 ∧ 0 < (quoteStep T s).length := by
  by_cases hg : (Utf8.decode s 0).2 = 1 ∧ (Utf8.decode s 0).1 = 65533
  · have e : quoteStep T s = [92, 120, hexDigit ((s.get! 0).toNat / 16), hexDigit ((s.get! 0).toNat % 16)] := by unfold quoteStep; rw [if_pos hg]
    rw [e, hg.1]
    have t := (s.get! 0).toNat_lt
    refine ⟨[((s.get! 0).toNat : Int)], ?_, ?_, by show (92 : Int) ≠ 34; omega, Nat.succ_pos _⟩
    · rw [extract_list, qget_at]
      have hsz : s.size = s.data.toList.length := by show s.data.size = _; rw [Array.length_toList]
      rw [hsz] at h0
      generalize s.data.toList = L at h0
      cases L with
      | nil => simp at h0
      | cons a l => rfl
    · show ([unhexs [hexDigit ((s.get! 0).toNat / 16), hexDigit ((s.get! 0).toNat % 16)]], 4) = _
      simp only [unhexs, List.foldl_cons, List.foldl_nil, unhex_hex _ (show (s.get! 0).toNat / 16 < 16 by omega), unhex_hex _ (show (s.get! 0).toNat % 16 < 16 by omega)]
      refine Prod.ext ?_ rfl
      show [16 * (16 * 0 + (((s.get! 0).toNat / 16 : Nat) : Int)) + (((s.get! 0).toNat % 16 : Nat) : Int)] = [((s.get! 0).toNat : Int)]
      congr 1; omega
  · rw [quoteStep_good T s hg]
    have hv := rune_valid s
    simp only [validRune, decide_eq_true_eq] at hv
    obtain ⟨a, b, c⟩ := d_esc T (Utf8.decode s 0).1 (by omega) (by omega) rest
    exact ⟨_, dec_enc s h0 hg, a, b, c⟩

/-- Quoted texts end by themselves, and tell what was quoted. -/
theorem quote_inj (T : PrintTabs) : ∀ (n f g : Nat) (s t : ByteArray) (r q : List Int), s.size ≤ n → s.size ≤ f → t.size ≤ g → quoteFrom T f s ++ 34 :: r = quoteFrom T g t ++ 34 :: q → s = t ∧ r = q := by
  intro n
  induction n with
  | zero =>
    intro f g s t r q hn hf hg h
    have hs : ¬ 0 < s.size := by omega
    rw [quoteFrom_end T f s hs] at h
    by_cases ht : 0 < t.size
    · rw [quoteFrom_step T g t ht hg, List.append_assoc] at h
      obtain ⟨l, -, -, h3, h4⟩ := d_step T t ht []
      cases hq : quoteStep T t with
      | nil => rw [hq] at h4; simp at h4
      | cons a m =>
        rw [hq] at h h3
        simp at h h3
        exact absurd h.1.symm h3
    · rw [quoteFrom_end T g t ht] at h
      refine ⟨?_, by simpa using h⟩
      apply ByteArray.ext
      have a : s.data.size = 0 := by show s.size = 0; omega
      have b : t.data.size = 0 := by show t.size = 0; omega
      rw [Array.eq_empty_of_size_eq_zero a, Array.eq_empty_of_size_eq_zero b]
  | succ n ih =>
    intro f g s t r q hn hf hg h
    by_cases hs : 0 < s.size
    · rw [quoteFrom_step T f s hs hf, List.append_assoc] at h
      by_cases ht : 0 < t.size
      · rw [quoteFrom_step T g t ht hg, List.append_assoc] at h
        obtain ⟨l, a1, a2, -, -⟩ := d_step T s hs (quoteFrom T (f - 1) (s.extract (Utf8.decode s 0).2 s.size) ++ 34 :: r)
        obtain ⟨m, b1, b2, -, -⟩ := d_step T t ht (quoteFrom T (g - 1) (t.extract (Utf8.decode t 0).2 t.size) ++ 34 :: q)
        rw [← h, a2] at b2
        have e1 : l = m := congrArg Prod.fst b2
        have e2 : (quoteStep T s).length = (quoteStep T t).length := congrArg Prod.snd b2
        obtain ⟨-, h5⟩ := List.append_inj h e2
        have w1 := width_pos s 0
        have w2 := width_pos t 0
        have w3 := width_le s hs
        have w4 := width_le t ht
        obtain ⟨i1, i2⟩ := ih (f - 1) (g - 1) _ _ r q (by rw [size_rest]; omega) (by rw [size_rest]; omega) (by rw [size_rest]; omega) h5
        refine ⟨?_, i2⟩
        rw [i1, e1, ← b1] at a1
        have := bI_inj a1
        apply ByteArray.ext
        exact Array.toList_inj.1 this
      · rw [quoteFrom_end T g t ht] at h
        obtain ⟨l, -, -, h3, h4⟩ := d_step T s hs []
        cases hq : quoteStep T s with
        | nil => rw [hq] at h4; simp at h4
        | cons a m =>
          rw [hq] at h h3
          simp at h h3
          exact absurd h.1 h3
    · exact ih f g s t r q (by omega) hf hg h

/-- What is quoted ends by itself. -/
theorem quoteZ_inj (T : PrintTabs) (s t : ByteArray) (r q : List Int) (h : quoteZ T s ++ r = quoteZ T t ++ q) : s = t ∧ r = q := by
  have h2 : 34 :: (quoteFrom T s.size s ++ 34 :: r) = 34 :: (quoteFrom T t.size t ++ 34 :: q) := by
    have a : ∀ (u : ByteArray) (x : List Int), quoteZ T u ++ x = 34 :: (quoteFrom T u.size u ++ 34 :: x) := fun u x => by unfold quoteZ; rw [List.cons_append, List.append_assoc, List.singleton_append]
    rw [← a, ← a]; exact h
  exact quote_inj T s.size s.size t.size s t r q (Nat.le_refl _) (Nat.le_refl _) (Nat.le_refl _) (List.cons.inj h2).2
theorem hex_byte (x : Nat) (h : x < 16) : 0 ≤ hexDigit x ∧ hexDigit x < 256 := by unfold hexDigit; split <;> omega
theorem hexs_byte (r n : Nat) : ∀ x ∈ hexDigits r n, 0 ≤ x ∧ x < 256 := by
  induction n with
  | zero => intro x hx; simp [hexDigits] at hx
  | succ n ih =>
    intro x hx
    rcases List.mem_cons.1 hx with rfl | hx
    · exact hex_byte _ (Nat.mod_lt _ (by decide))
    · exact ih x hx
def Byt (l : List Int) : Prop := ∀ x ∈ l, 0 ≤ x ∧ x < 256
theorem byt_ite {c : Prop} [Decidable c] {a b : List Int} (h : c → Byt a) (k : ¬ c → Byt b) : Byt (if c then a else b) := by
  by_cases hc : c
  · rw [if_pos hc]; exact h hc
  · rw [if_neg hc]; exact k hc
theorem byt_cons {a : Int} {l : List Int} (h : 0 ≤ a ∧ a < 256) (k : Byt l) : Byt (a :: l) := fun x hx => by
  rcases List.mem_cons.1 hx with rfl | hx
  · exact h
  · exact k x hx
theorem byt_nil : Byt [] := fun x hx => by cases hx
theorem esc_byte (T : PrintTabs) (r : Nat) : Byt (escRune T r) := by
  have lit : ∀ a : Int, 0 ≤ a ∧ a < 256 → Byt [92, a] := fun a h => byt_cons (by omega) (byt_cons h byt_nil)
  unfold escRune
  refine byt_ite (fun c => lit _ (by omega)) fun _ => ?_
  refine byt_ite (fun c => encodeRuneZ_byte r) fun _ => ?_
  refine byt_ite (fun c => lit _ (by omega)) fun _ => ?_
  refine byt_ite (fun c => lit _ (by omega)) fun _ => ?_
  refine byt_ite (fun c => lit _ (by omega)) fun _ => ?_
  refine byt_ite (fun c => lit _ (by omega)) fun _ => ?_
  refine byt_ite (fun c => lit _ (by omega)) fun _ => ?_
  refine byt_ite (fun c => lit _ (by omega)) fun _ => ?_
  refine byt_ite (fun c => lit _ (by omega)) fun _ => ?_
  refine byt_ite (fun c => byt_cons (by omega) (byt_cons (by omega) (byt_cons (hex_byte _ (by omega)) (byt_cons (hex_byte _ (by omega)) byt_nil)))) fun _ => ?_
  refine byt_ite (fun c => byt_cons (by omega) (byt_cons (by omega) (hexs_byte _ _))) fun _ => ?_
  exact byt_ite (fun c => byt_cons (by omega) (byt_cons (by omega) (hexs_byte _ _))) fun _ => byt_cons (by omega) (byt_cons (by omega) (hexs_byte _ _))
theorem quote_byte (T : PrintTabs) : ∀ (f : Nat) (s : ByteArray), ∀ x ∈ quoteFrom T f s, 0 ≤ x ∧ x < 256 := by
  intro f
  induction f with
  | zero => intro s x hx; simp [quoteFrom] at hx
  | succ f ih =>
    intro s x hx
    unfold quoteFrom at hx
    split at hx
    · rcases List.mem_append.1 hx with hx | hx
      · unfold quoteStep at hx
        split at hx
        · have t := (s.get! 0).toNat_lt
          have a := hex_byte ((s.get! 0).toNat / 16) (by omega)
          have b := hex_byte ((s.get! 0).toNat % 16) (by omega)
          simp only [List.mem_cons, List.not_mem_nil, or_false] at hx
          rcases hx with rfl | rfl | rfl | rfl
          · omega
          · omega
          · exact a
          · exact b
        · exact esc_byte T _ x hx
      · exact ih _ x hx
    · simp at hx
theorem quoteZ_byte (T : PrintTabs) (s : ByteArray) : ∀ x ∈ quoteZ T s, 0 ≤ x ∧ x < 256 := by
  intro x hx
  unfold quoteZ at hx
  rcases List.mem_cons.1 hx with rfl | hx
  · omega
  rcases List.mem_append.1 hx with hx | hx
  · exact quote_byte T _ s x hx
  · rw [List.mem_singleton.1 hx]; omega
/-- strconv.Quote's bytes. -/
def quoT (T : PrintTabs) (s : ByteArray) : List UInt8 := (quoteZ T s).map fun n => UInt8.ofNat n.toNat
theorem bI_quoT (T : PrintTabs) (s : ByteArray) : bI (quoT T s) = quoteZ T s := by
  unfold quoT bI
  rw [List.map_map]
  conv => rhs; rw [← List.map_id (quoteZ T s)]
  refine List.map_congr_left fun x hx => ?_
  have := quoteZ_byte T s x hx
  show (((UInt8.ofNat x.toNat).toNat : Nat) : Int) = x
  have e : (UInt8.ofNat x.toNat).toNat = x.toNat % 256 := rfl
  rw [e]; omega
theorem quoT_inj (T : PrintTabs) (s t : ByteArray) (r q : List UInt8) (h : quoT T s ++ r = quoT T t ++ q) : s = t ∧ r = q := by
  have h2 := congrArg bI h
  rw [bI_append, bI_append, bI_quoT, bI_quoT] at h2
  obtain ⟨a, b⟩ := quoteZ_inj T s t _ _ h2
  exact ⟨a, bI_inj b⟩
theorem quoT_head (T : PrintTabs) (s : ByteArray) : ∃ r, quoT T s = 34 :: r := ⟨_, rfl⟩
theorem quoT_len (T : PrintTabs) (s : ByteArray) : (quoT T s).length ≤ 10 * s.size + 2 := by
  unfold quoT
  rw [List.length_map]
  exact quoteZ_length_le T s
end Go.Proofs.YtloplmaekonenaaGreatDoor
