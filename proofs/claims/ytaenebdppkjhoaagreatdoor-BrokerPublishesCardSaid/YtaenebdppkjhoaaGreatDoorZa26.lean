/-
  The texts of numbers as package value writes them: unlike for unlike numbers (the plain law).
  strconv.Quote: what is quoted ends by itself, and tells what was quoted (the plain law).
  The texts of values, conditions and filters: unlike for unlike ones (the plain law).
  The Reader's Value.
  The Writer's Event.
  The Reader's Event.
  What was read, written: the bytes that were read.
-/
import Derived.Test.YtaenebdppkjhoaaGreatDoorZa22
import Derived.Lib.QuoteLoop
import Derived.Test.YtaenebdppkjhoaaGreatDoorZa2
import Derived.Test.YtaenebdppkjhoaaGreatDoorZa7
import Derived.Lib.PrintData
import Derived.Test.YtaenebdppkjhoaaGreatDoorZa25
import Derived.Test.YtaenebdppkjhoaaGreatDoorZa3
import Derived.Test.YtaenebdppkjhoaaGreatDoorZa4
namespace Go.Proofs.YtaenebdppkjhoaaGreatDoor
set_option maxRecDepth 20000
/-- Is one of ".eIN" there? -/
def spec (l : List UInt8) : Bool := l.any fun c => c == 46 || c == 101 || c == 73 || c == 78
/-- A number's text: what strconv gives, and ".0" where nothing shows that it is one. -/
def numT (b : Nat) : List UInt8 := if spec (fltT b) then fltT b else fltT b ++ [46, 48]
/-- The characters of numbers. -/
def isTok (c : UInt8) : Prop := 43 ≤ c.toNat ∧ c.toNat ≤ 110
theorem tok_dig {c : UInt8} (h : isDig c) : isTok c := ⟨by have := h.1; omega, by have := h.2; omega⟩
theorem exps_tok (e : Nat) (h : e ≤ 999) : ∀ c ∈ exps e, isDig c := by
  intro c hc
  have hd : ∀ k, k < 10 → isDig (UInt8.ofNat (48 + k)) := fun k hk => by
    have e : (UInt8.ofNat (48 + k)).toNat = (48 + k) % 256 := rfl
    unfold isDig; rw [e]; omega
  unfold exps at hc
  split at hc
  · simp only [List.mem_cons, List.not_mem_nil, or_false] at hc
    rcases hc with rfl | rfl
    · exact hd _ (by omega)
    · exact hd _ (by omega)
  · simp only [List.mem_cons, List.not_mem_nil, or_false] at hc
    rcases hc with rfl | rfl | rfl
    · exact hd _ (by omega)
    · exact hd _ (by omega)
    · exact hd _ (by omega)
theorem body_tok {ds : List UInt8} {dp : Int} (h : Clean ds) (hr : -400 ≤ dp ∧ dp ≤ 400) : ∀ c ∈ bodyT ds dp, isTok c := by
  have one : ∀ k : UInt8, isTok k → ∀ c ∈ [k], isTok c := fun k hk c hc => by rw [List.mem_singleton.1 hc]; exact hk
  have app : ∀ {a b : List UInt8}, (∀ c ∈ a, isTok c) → (∀ c ∈ b, isTok c) → ∀ c ∈ a ++ b, isTok c := fun ha hb c hc => (List.mem_append.1 hc).elim (ha c) (hb c)
  have dd : ∀ c ∈ ds, isTok c := fun c hc => tok_dig (h.dig c hc)
  have t48 : isTok 48 := by unfold isTok; decide
  have t46 : isTok 46 := by unfold isTok; decide
  have t101 : isTok 101 := by unfold isTok; decide
  have t45 : isTok 45 := by unfold isTok; decide
  have t43 : isTok 43 := by unfold isTok; decide
  have zz : ∀ n, ∀ c ∈ zeros n, isTok c := fun n c hc => tok_dig (zeros_dig n c hc)
  have cons : ∀ {k : UInt8} {l : List UInt8}, isTok k → (∀ c ∈ l, isTok c) → ∀ c ∈ k :: l, isTok c := fun hk hl => app (one _ hk) hl
  unfold bodyT efgT
  simp only [sgnT, Bool.false_eq_true, if_false, List.nil_append]
  split
  · exact one _ t48
  split
  · refine app (app (app (fun c hc => dd c (List.mem_of_mem_take hc)) ?_) (one _ t101)) ?_
    · unfold frac
      split
      · intro c hc; cases hc
      · exact cons t46 (fun c hc => dd c (List.mem_of_mem_drop hc))
    · unfold expT
      split
      · exact cons t45 fun c hc => tok_dig (exps_tok _ (by omega) c hc)
      · exact cons t43 fun c hc => tok_dig (exps_tok _ (by omega) c hc)
  split
  · exact app (app (cons t48 (one _ t46)) (zz _)) dd
  split
  · exact app (app (fun c hc => dd c (List.mem_of_mem_take hc)) (one _ t46)) (fun c hc => dd c (List.mem_of_mem_drop hc))
  · exact app dd (zz _)

/-- decT, and where ".0" was put behind. -/
def decN (t : List UInt8) : List UInt8 × Int := if (decT t).1 = [] then ([], 0) else decT t
theorem spec_false {l : List UInt8} (h : spec l = false) : ∀ c ∈ l, c ≠ 46 ∧ c ≠ 101 ∧ c ≠ 73 ∧ c ≠ 78 := by
  intro c hc
  have := List.any_eq_false.1 h c hc
  simp only [Bool.or_eq_true, beq_iff_eq, not_or] at this
  exact ⟨this.1.1.1, this.1.1.2, this.1.2, this.2⟩
theorem decN_body {ds : List UInt8} {dp : Int} (h : Clean ds) (hd : ds = [] → dp = 0) (hr : -400 ≤ dp ∧ dp ≤ 400) : decN (bodyT ds dp) = (ds, dp) := by
  unfold decN
  rw [decT_body h hd hr]
  split
  · rename_i e
    simp only at e
    rw [e, hd e]
  · rfl
/-- Without a point or an exponent: digits, and zeros. -/
theorem body_plain {ds : List UInt8} {dp : Int} (hne : ds ≠ []) (hs : spec (bodyT ds dp) = false) : 0 < dp ∧ (ds.length : Int) ≤ dp ∧ bodyT ds dp = ds ++ zeros (dp.toNat - ds.length) := by
  have hsp := spec_false hs
  unfold bodyT efgT at hsp ⊢
  rw [if_neg hne] at hsp ⊢
  simp only [sgnT, Bool.false_eq_true, if_false, List.nil_append] at hsp ⊢
  by_cases h1 : dp - 1 < -4 ∨ 6 ≤ dp - 1
  · rw [if_pos h1] at hsp
    exact absurd rfl (hsp 101 (by simp)).2.1
  rw [if_neg h1] at hsp ⊢
  by_cases h2 : dp ≤ 0
  · rw [if_pos h2] at hsp
    exact absurd rfl (hsp 46 (by simp)).1
  rw [if_neg h2] at hsp ⊢
  by_cases h3 : dp < ds.length
  · rw [if_pos h3] at hsp
    exact absurd rfl (hsp 46 (by simp)).1
  rw [if_neg h3]
  exact ⟨by omega, by omega, rfl⟩
theorem decN_point {ds : List UInt8} {dp : Int} (h : Clean ds) (hd : ds = [] → dp = 0) (hs : spec (bodyT ds dp) = false) : decN (bodyT ds dp ++ [46, 48]) = (ds, dp) := by
  by_cases hne : ds = []
  · subst hne
    rw [hd rfl]
    decide
  obtain ⟨h1, h2, h3⟩ := body_plain hne hs
  have e101 : (101 : UInt8) = 101 ∨ (101 : UInt8) = 46 ∨ (101 : UInt8) = 45 := .inl rfl
  have e46 : (46 : UInt8) = 101 ∨ (46 : UInt8) = 46 ∨ (46 : UInt8) = 45 := .inr (.inl rfl)
  have hdz : ∀ c ∈ ds ++ zeros (dp.toNat - ds.length), isDig c := fun c hc => by
    rcases List.mem_append.1 hc with hc | hc
    · exact h.dig c hc
    · exact zeros_dig _ c hc
  have key : decT (bodyT ds dp ++ [46, 48]) = (ds, dp) := by
    rw [h3]
    unfold decT
    simp only
    rw [tw_all 101 e101 hdz, dw_all 101 e101 hdz]
    have t1 : ([46, 48] : List UInt8).takeWhile (· != 101) = [46, 48] := rfl
    have t2 : ([46, 48] : List UInt8).dropWhile (· != 101) = [] := rfl
    rw [t1, t2, tw_all 46 e46 hdz, dw_all 46 e46 hdz]
    have t3 : ([46, 48] : List UInt8).takeWhile (· != 46) = [] := rfl
    have t4 : (([46, 48] : List UInt8).dropWhile (· != 46)).drop 1 = [48] := rfl
    rw [t3, t4]
    have a1 : ds ++ zeros (dp.toNat - ds.length) ++ [] ++ [48] = ds ++ zeros (dp.toNat - ds.length + 1) := by
      unfold zeros; rw [List.append_nil, List.append_assoc, List.replicate_succ']
    rw [a1]
    have sc := strip_clean h hne 0 (dp.toNat - ds.length + 1)
    simp only [show zeros 0 = [] from rfl, List.nil_append] at sc
    rw [sc.1, sc.2]
    simp only [List.drop_nil, List.append_nil, decE, List.length_append, zeros, List.length_replicate]
    congr 1
    omega
  unfold decN
  rw [key, if_neg hne]
theorem spec_cons {c : UInt8} {l : List UInt8} (h : spec (c :: l) = false) : spec l = false := by
  unfold spec at h ⊢
  rw [List.any_cons, Bool.or_eq_false_iff] at h
  exact h.2
/-- A number's text, of a finite one. -/
theorem numT_fin {b : Nat} {ds : List UInt8} {dp : Int} (hc : Clean ds) (h0 : ds = [] → dp = 0) (hr : -400 ≤ dp ∧ dp ≤ 400) (h : fltT b = efgT (decide (b / 2 ^ 63 ≠ 0)) ds dp) :
    ∃ t, numT b = sgnT (decide (b / 2 ^ 63 ≠ 0)) ++ t ∧ decN t = (ds, dp) ∧ (∃ c r, t = c :: r ∧ isDig c) ∧ (∀ c ∈ t, isTok c) := by
  obtain ⟨c, r, hb, hdg⟩ := body_head (dp := dp) hc
  have hbt := body_tok (dp := dp) hc hr
  unfold numT
  rw [h, efg_sgn]
  split
  · exact ⟨_, rfl, decN_body hc h0 hr, ⟨c, r, hb, hdg⟩, hbt⟩
  · rename_i hs
    have hs2 : spec (bodyT ds dp) = false := by
      have hs : spec (sgnT (decide (b / 2 ^ 63 ≠ 0)) ++ bodyT ds dp) = false := by simpa using hs
      unfold sgnT at hs
      split at hs
      · exact spec_cons hs
      · exact hs
    refine ⟨bodyT ds dp ++ [46, 48], by rw [List.append_assoc], decN_point hc h0 hs2, ⟨c, r ++ [46, 48], by rw [hb]; rfl, hdg⟩, fun c hc => ?_⟩
    rcases List.mem_append.1 hc with hc | hc
    · exact hbt c hc
    · simp only [List.mem_cons, List.not_mem_nil, or_false] at hc
      rcases hc with rfl | rfl <;> (unfold isTok; decide)
theorem numT_nan {b : Nat} (h : fltT b = [78, 97, 78]) : numT b = [78, 97, 78] := by unfold numT; rw [h]; rfl
theorem numT_minf {b : Nat} (h : fltT b = [45, 73, 110, 102]) : numT b = [45, 73, 110, 102] := by unfold numT; rw [h]; rfl
theorem numT_pinf {b : Nat} (h : fltT b = [43, 73, 110, 102]) : numT b = [43, 73, 110, 102] := by unfold numT; rw [h]; rfl

theorem numT_tok (b : Nat) : (∃ c r, numT b = c :: r) ∧ (∀ c ∈ numT b, isTok c) ∧ (∀ r, numT b ≠ 110 :: r) ∧ spec (numT b) = true := by
  rcases way_of b with ⟨b1, b2, bt⟩ | ⟨b1, b2, b3, bt⟩ | ⟨b1, b2, b3, bt⟩ | ⟨b1, es, ep, bc, bz, b0, br, bv, bt⟩
  · rw [numT_nan bt]
    refine ⟨⟨_, _, rfl⟩, fun c hc => ?_, fun r h => by simp at h, rfl⟩
    simp only [List.mem_cons, List.not_mem_nil, or_false] at hc
    rcases hc with rfl | rfl | rfl <;> (unfold isTok; decide)
  · rw [numT_minf bt]
    refine ⟨⟨_, _, rfl⟩, fun c hc => ?_, fun r h => by simp at h, rfl⟩
    simp only [List.mem_cons, List.not_mem_nil, or_false] at hc
    rcases hc with rfl | rfl | rfl | rfl <;> (unfold isTok; decide)
  · rw [numT_pinf bt]
    refine ⟨⟨_, _, rfl⟩, fun c hc => ?_, fun r h => by simp at h, rfl⟩
    simp only [List.mem_cons, List.not_mem_nil, or_false] at hc
    rcases hc with rfl | rfl | rfl | rfl <;> (unfold isTok; decide)
  · obtain ⟨t, h1, -, ⟨c, r, h3, h4⟩, h5⟩ := numT_fin bc b0 br bt
    have hsp : spec (numT b) = true := by
      unfold numT
      split
      · assumption
      · unfold spec; rw [List.any_append]; simp
    rw [h1] at hsp ⊢
    rw [h3] at hsp ⊢
    rw [h3] at h5
    have n110 : c ≠ 110 := by
      rintro rfl
      have := h4.2
      revert this; decide
    refine ⟨?_, ?_, ?_, hsp⟩
    · cases decide (b / 2 ^ 63 ≠ 0)
      · exact ⟨_, _, rfl⟩
      · exact ⟨_, _, rfl⟩
    · intro x hx
      rcases List.mem_append.1 hx with hx | hx
      · unfold sgnT at hx
        split at hx
        · rw [List.mem_singleton.1 hx]; unfold isTok; decide
        · cases hx
      · exact h5 x hx
    · intro r h
      generalize decide (b / 2 ^ 63 ≠ 0) = ng at h
      cases ng
      · simp [sgnT] at h; exact n110 h.1
      · simp [sgnT] at h
end Go.Proofs.YtaenebdppkjhoaaGreatDoor

namespace Go.Proofs.YtaenebdppkjhoaaGreatDoor
set_option maxRecDepth 20000
open Go.Lib
/-- strconv.Quote's bytes. -/
def quoT (T : PrintTabs) (s : ByteArray) : List UInt8 := (quoteZ T s).map fun n => UInt8.ofNat n.toNat
theorem quoT_len (T : PrintTabs) (s : ByteArray) : (quoT T s).length ≤ 10 * s.size + 2 := by
  unfold quoT
  rw [List.length_map]
  exact quoteZ_length_le T s
end Go.Proofs.YtaenebdppkjhoaaGreatDoor

namespace Go.Proofs.YtaenebdppkjhoaaGreatDoor
set_option maxRecDepth 20000
/-- A value's text. -/
def V.prt (v : V) : List UInt8 :=
  if v.kind = 0 then Lib.itoa v.int else if v.kind = 1 then numT (canonB v.num) else if v.kind = 2 then quoT Lib.goPrintTabs v.text else if v.yes then [121, 101, 115] else [110, 111]
/-- An op's word. -/
def wordT (op : Int) : List UInt8 :=
  if op = 0 then [61] else if op = 1 then [33, 61] else if op = 2 then [60] else if op = 3 then [60, 61] else if op = 4 then [62] else if op = 5 then [62, 61] else if op = 6 then [94] else if op = 7 then [104, 97, 115] else []
/-- A condition's text. -/
def Cnd.prt (c : Cnd) : List UInt8 := if c.op = 7 then [104, 97, 115, 32] ++ c.name.data.toList else c.name.data.toList ++ [32] ++ wordT c.op ++ [32] ++ c.v.prt
/-- The conditions behind the first one. -/
def tailT : List Cnd → List UInt8
  | [] => []
  | c :: l => [32, 38, 32] ++ c.prt ++ tailT l
/-- What stands behind a scope and its colon. -/
def bodyF : List Cnd → List UInt8
  | [] => []
  | c :: l => [32] ++ c.prt ++ tailT l
/-- A filter's text. -/
def filPrt (sc : ByteArray) (l : List Cnd) : List UInt8 := sc.data.toList ++ [58] ++ bodyF l
/-- Conditions as they are brought to. -/
def Cnd.norm (c : Cnd) : Cnd := if c.op = 7 then ⟨c.name, 7, V.zero⟩ else ⟨c.name, c.op, c.v.canon⟩
structure Cnd.fine (c : Cnd) : Prop where
  name : isName c.name = true
  op : 0 ≤ c.op ∧ c.op ≤ 7
  v : c.v.right = true
  num : c.v.num < 2 ^ 64
  is : c.norm = c

end Go.Proofs.YtaenebdppkjhoaaGreatDoor

namespace Go.Proofs.YtaenebdppkjhoaaGreatDoor
set_option maxRecDepth 20000
open Go.RowKit

/-- The value that bytes begin with. -/
def readV : List UInt8 → Option (V × List UInt8)
  | [] => none
  | k :: t =>
    if k.toNat = 0 then (if 8 ≤ t.length then some ({ V.zero with kind := 0, int := wrap64 (longOf (t.take 8) : Nat) }, t.drop 8) else none)
    else if k.toNat = 1 then (if 8 ≤ t.length ∧ (backB (longOf (t.take 8))).2 = true then some ({ V.zero with kind := 1, num := (backB (longOf (t.take 8))).1 }, t.drop 8) else none)
    else if k.toNat = 2 then (match t with | [] => none | n :: t => if n.toNat ≤ t.length ∧ n.toNat ≤ 40 then some ({ V.zero with kind := 2, text := str (t.take n.toNat) }, t.drop n.toNat) else none)
    else if k.toNat = 3 then (match t with | [] => none | n :: t => if n.toNat ≤ 1 then some ({ V.zero with kind := 3, yes := n.toNat == 1 }, t) else none)
    else none

/-- Blocks that are newer play no part. -/
theorem Mod.on {F G : Nat → Prop} {w w' w'' : World} (h : Mod F w w') (k : Mod G w' w'') (hG : ∀ b, G b → F b ∨ w.heap.size ≤ b) : Mod F w w'' :=
  h.trans k fun b hb hg => (hG b hg).elim id fun h => by omega

end Go.Proofs.YtaenebdppkjhoaaGreatDoor

namespace Go.Proofs.YtaenebdppkjhoaaGreatDoor
set_option maxRecDepth 20000
open Go.RowKit

theorem Wrote.after {w w0 w' : World} {p : Nat} {v v' : Value} (hal : Mod (fun _ => False) w w0) (h : Wrote w0 p v w' v') : Wrote w p v w' v' :=
  ⟨(hal.mono (fun _ _ h => h.elim)).trans h.mod (fun _ _ h => h), fun k hk => (h.new k hk).imp id (fun h => by have := hal.size; omega)⟩

end Go.Proofs.YtaenebdppkjhoaaGreatDoor

namespace Go.Proofs.YtaenebdppkjhoaaGreatDoor
set_option maxRecDepth 20000
open Go.RowKit

/-- The text that bytes begin with. -/
def readT : List UInt8 → Option (ByteArray × List UInt8)
  | [] => none
  | x :: t => if x.toNat ≤ t.length then some (str (t.take x.toNat), t.drop x.toNat) else none
/-- So many attributes. -/
def readAtts : Nat → List UInt8 → Option (List Att × List UInt8)
  | 0, bs => some ([], bs)
  | n + 1, bs => (readT bs).bind fun p => (readV p.2).bind fun q => (readAtts n q.2).map fun z => (⟨p.1, q.1⟩ :: z.1, z.2)
theorem readAtts_zero (bs : List UInt8) : readAtts 0 bs = some ([], bs) := rfl
theorem readAtts_succ (n : Nat) (bs : List UInt8) : readAtts (n + 1) bs = (readT bs).bind fun p => (readV p.2).bind fun q => (readAtts n q.2).map fun z => (⟨p.1, q.1⟩ :: z.1, z.2) := rfl
/-- What reading so many more comes to. -/
def Went (l : List Att) (t bs : List UInt8) (k : Nat) : Prop := ∀ m, readAtts (k + m) bs = (readAtts m t).map fun z => (l ++ z.1, z.2)
theorem Went.start (bs : List UInt8) : Went [] bs bs 0 := fun m => by rw [Nat.zero_add]; cases readAtts m bs <;> simp
theorem Went.next {l : List Att} {t bs : List UInt8} {k : Nat} (h : Went l t bs k) {s : ByteArray} {t1 t2 : List UInt8} {v : V} (h1 : readT t = some (s, t1)) (h2 : readV t1 = some (v, t2)) : Went (l ++ [⟨s, v⟩]) t2 bs (k + 1) := fun m => by
  rw [Nat.add_assoc, h (1 + m), Nat.add_comm 1 m, readAtts_succ, h1]
  simp only [Option.bind_some, h2]
  cases readAtts m t2 <;> simp
theorem Went.none {l : List Att} {t bs : List UInt8} {k n : Nat} (h : Went l t bs k) (hk : k < n) (hr : ∀ m, readAtts (m + 1) t = none) : readAtts n bs = none := by
  have := h (n - k - 1 + 1)
  rw [hr, show k + (n - k - 1 + 1) = n by omega] at this
  simpa using this
theorem Went.done {l : List Att} {t bs : List UInt8} {k : Nat} (h : Went l t bs k) : readAtts k bs = some (l, t) := by
  have := h 0
  rw [Nat.add_zero, readAtts_zero] at this
  simpa using this
end Go.Proofs.YtaenebdppkjhoaaGreatDoor

namespace Go.Proofs.YtaenebdppkjhoaaGreatDoor
set_option maxRecDepth 20000
open Go.RowKit

theorem str_size (bs : List UInt8) : (str bs).size = bs.length := by
  show (str bs).data.size = bs.length
  simp [str]

end Go.Proofs.YtaenebdppkjhoaaGreatDoor
