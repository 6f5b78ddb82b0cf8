/-
  Package codec, the Reader: bytes that lie anywhere, read from the front.
-/
import Derived.Test.YtmlnklbjjnjplaaProg
import Derived.Test.YtmlnklbjjnjplaaMem
import Derived.WalkSpells
import Derived.Handy
import Derived.WalkLawsBesides
import Derived.BigRegion
import Derived.BigQuiet
import Derived.Lib.Hide
import Derived.Laws.BytesArg
import Derived.Laws.Bits128
namespace Go.Proofs.Ytmlnklbjjnjplaa
open Go.RowKit

/-- Bytes as cells. -/
def u8s (bs : List UInt8) : List Value := bs.map fun b => .int .u8 (b.toNat : Int)
theorem u8s_length (bs : List UInt8) : (u8s bs).length = bs.length := by simp [u8s]

/-- v reads as these bytes, in block G where there are any. -/
structure BytesAt (w : World) (G : Nat) (v : Value) (bs : List UInt8) : Prop where
  ex : ∃ a cap, v = .slice a bs.length cap ∧ bs.length ≤ cap ∧ (a = none → cap = 0) ∧ ∀ b, a = some b → ∃ off, b = ⟨G, off, none⟩ ∧ G < w.heap.size ∧ ∀ j (u : UInt8), bs[j]? = some u → w.cell? ⟨G, off + j, none⟩ = some (.int .u8 (u.toNat : Int))

/-- A reader. -/
structure Rdr (w : World) (r G : Nat) (bs : List UInt8) : Prop where
  ne : G ≠ r
  ex : ∃ v, w.heap[r]? = some (.cells #[v] 58 (0, 0)) ∧ BytesAt w G v bs

section
variable {w w' : World} {r G : Nat} {bs : List UInt8} {v : Value}
theorem BytesAt.mod {F : Nat → Prop} (h : BytesAt w G v bs) (hm : Mod F w w') (hG : G < w.heap.size → ¬ F G) : BytesAt w' G v bs := by
  obtain ⟨a, cap, h1, h2, h3, h4⟩ := h.ex
  refine ⟨a, cap, h1, h2, h3, fun b hb => ?_⟩
  obtain ⟨off, h5, h6, h7⟩ := h4 b hb
  exact ⟨off, h5, Nat.lt_of_lt_of_le h6 hm.size, fun j u hu => hm.cell (h7 j u hu) (hG h6)⟩
theorem Rdr.mod {F : Nat → Prop} (h : Rdr w r G bs) (hm : Mod F w w') (hr : ¬ F r) (hG : G < w.heap.size → ¬ F G) : Rdr w' r G bs := by
  obtain ⟨v, h1, h2⟩ := h.ex
  exact ⟨h.ne, v, hm.heap h1 hr, h2.mod hm hG⟩

theorem Rdr.lt (h : Rdr w r G bs) : r < w.heap.size := by
  obtain ⟨v, h1, -⟩ := h.ex
  exact (Array.getElem?_eq_some_iff.1 h1).1
/-- Blocks that are newer than the reader play no part. -/
theorem Rdr.new {F : Nat → Prop} {B : Nat} (h : Rdr w r G bs) (hm : Mod F w w') (hr : r < B) (hG : G < B) (hF : ∀ k, F k → B ≤ k) : Rdr w' r G bs :=
  h.mod hm (fun hk => by have := hF r hk; omega) (fun _ hk => by have := hF G hk; omega)

/-- Without its first n bytes. -/
theorem BytesAt.drop {a : Option Addr} {cap : Nat} (h : BytesAt w G (.slice a bs.length cap) bs) {n : Nat} (hn : n ≤ bs.length) {off : Nat} (ha : a = some ⟨G, off, none⟩) :
    BytesAt w G (.slice (some ⟨G, if cap = n then off else off + n, none⟩) (bs.length - n) (cap - n)) (bs.drop n) := by
  obtain ⟨a', cap', h1, h2, h3, h4⟩ := h.ex
  cases h1
  subst ha
  refine ⟨_, cap - n, by rw [List.length_drop], by rw [List.length_drop]; omega, fun h => (by cases h), fun b hb => ?_⟩
  obtain ⟨off', h5, h6, h7⟩ := h4 _ rfl
  cases h5
  cases hb
  refine ⟨_, rfl, h6, fun j u hu => ?_⟩
  rw [List.getElem?_drop] at hu
  have hj := (List.getElem?_eq_some_iff.1 hu).1
  rw [if_neg (by omega), Nat.add_assoc]
  exact h7 _ _ hu
end

/-- What is thrown. -/
def short : List PanicEntry := [{ v := .iface 60 (.agg #[]), recovered := false }]

theorem Rdr.next {w : World} {r G : Nat} {bs : List UInt8} (h : Rdr w r G bs) {off cap : Nat} (hr : w.heap[r]? = some (.cells #[.slice (some ⟨G, off, none⟩) bs.length cap] 58 (0, 0))) {n : Nat} (hn : n ≤ bs.length) :
    Rdr (w.setCell ⟨r, 0, none⟩ (.slice (some ⟨G, if cap = n then off else off + n, none⟩) (bs.length - n) (cap - n))) r G (bs.drop n) ∧ Mod (fun k => k = r) w (w.setCell ⟨r, 0, none⟩ (.slice (some ⟨G, if cap = n then off else off + n, none⟩) (bs.length - n) (cap - n))) := by
  obtain ⟨v, hr', hb⟩ := h.ex
  rw [hr] at hr'
  cases hr'
  have hm : Mod (fun k => k = r) w (w.setCell ⟨r, 0, none⟩ (.slice (some ⟨G, if cap = n then off else off + n, none⟩) (bs.length - n) (cap - n))) := (Mod.refl (fun k => k = r) w).setCell (fun _ => rfl) _
  exact ⟨⟨h.ne, _, heap_set hr, (hb.drop hn rfl).mod hm (fun _ => h.ne)⟩, hm⟩

set_option maxHeartbeats 400000 in
theorem rd_byte (w : World) (r G : Nat) (bs : List UInt8) (h : Rdr w r G bs) :
    Calls Try.prog 18 #[.pointer (some ⟨r, 0, none⟩)] w fun e w' =>
      (bs = [] ∧ e = .panicked short ∧ w' = w) ∨ (∃ x t, bs = x :: t ∧ e = .returned (.int .i64 (x.toNat : Int)) ∧ Rdr w' r G t ∧ Mod (fun k => k = r) w w') := by
  obtain ⟨v, hr, hb⟩ := h.ex
  obtain ⟨a, cap, rfl, h2, h3, h4⟩ := hb.ex
  have f0 : w.frozen? ⟨r, 0, none⟩ = false := fr_of hr
  cases bs with
  | nil =>
    have c0 : w.cell? ⟨r, 0, none⟩ = some (.slice a 0 cap) := cell_of hr rfl
    go_enter Try.func18, Try.ntmps18
    go_wp2
    exact ⟨rfl, .inl ⟨trivial, rfl, rfl⟩⟩
  | cons x t =>
    have c0 : w.cell? ⟨r, 0, none⟩ = some (.slice a (t.length + 1) cap) := cell_of hr rfl
    obtain ⟨b, rfl⟩ : ∃ b, a = some b := by
      cases a with
      | none => have := h3 rfl; simp at h2; omega
      | some b => exact ⟨b, rfl⟩
    obtain ⟨off, rfl, hG, h7⟩ := h4 b rfl
    have c1 : w.cell? ⟨G, off, none⟩ = some (.int .u8 (x.toNat : Int)) := h7 0 x rfl
    have hx : (x.toNat : Int) ≤ 255 := by have := x.toNat_lt; omega
    have h2' : ((t.length : Int) + 1) ≤ cap := by simp at h2; omega
    have hnx := h.next hr (n := 1) (by simp)
    have Hn := Lib.hid hnx
    clear hr hb h7 h4 hnx h h2 h3
    by_cases hcap : cap = 1
    · go_enter Try.func18, Try.ntmps18
      go_wp2
      go_ret
      have := Hn.out
      simp only [hcap, if_true, List.drop_succ_cons, List.drop_zero, List.length_cons, Nat.add_sub_cancel, Nat.sub_self] at this
      exact .inr ⟨x, t, rfl, rfl, this⟩
    · go_enter Try.func18, Try.ntmps18
      go_wp2
      go_ret
      have := Hn.out
      simp only [hcap, if_false, List.drop_succ_cons, List.drop_zero, List.length_cons, Nat.add_sub_cancel] at this
      exact .inr ⟨x, t, rfl, rfl, this⟩

/-- Eight bytes as a number, the highest first. -/
def longOf (l : List UInt8) : Nat := l.foldl (fun x b => x * 256 + b.toNat) 0
theorem longOf_snoc (l : List UInt8) (b : UInt8) : longOf (l ++ [b]) = longOf l * 256 + b.toNat := by simp [longOf]
theorem longOf_from (l : List UInt8) : ∀ x : Nat, l.foldl (fun x b => x * 256 + b.toNat) x < (x + 1) * 256 ^ l.length := by
  induction l with
  | nil => intro x; simp
  | cons b l ih =>
    intro x
    have h := ih (x * 256 + b.toNat)
    have hb := b.toNat_lt
    rw [List.foldl_cons, List.length_cons, Nat.pow_succ]
    have : (x * 256 + b.toNat + 1) * 256 ^ l.length ≤ ((x + 1) * 256) * 256 ^ l.length := Nat.mul_le_mul_right _ (by omega)
    rw [Nat.mul_comm (256 ^ l.length) 256, ← Nat.mul_assoc]
    omega
theorem longOf_lt (l : List UInt8) : longOf l < 256 ^ l.length := by
  have := longOf_from l 0
  simpa [longOf] using this

theorem u64_or (X y : Nat) (hX : X < 256 ^ 7) (hy : y < 256) : bits .or .u64 ((X : Int) * 256) (y : Int) = ((X * 256 + y : Nat) : Int) := by
  have h1 : (BitVec.ofInt 64 ((X : Int) * 256)).toNat = 2 ^ 8 * X := by rw [BitVec.toNat_ofInt]; omega
  have h2 : (BitVec.ofInt 64 (y : Int)).toNat = y := by rw [BitVec.toNat_ofInt]; omega
  have key : (BitVec.ofInt 64 ((X : Int) * 256) ||| BitVec.ofInt 64 (y : Int)).toNat = 2 ^ 8 * X + y := by
    rw [BitVec.toNat_or, h1, h2, Nat.two_pow_add_eq_or_of_lt hy]
  show IntKind.u64.wrap ((BitVec.ofInt 64 ((X : Int) * 256) ||| BitVec.ofInt 64 (y : Int)).toNat : Nat) = _
  rw [key, IntKind.wrap_u64]
  omega

set_option maxHeartbeats 1000000 in
theorem rd_long (w : World) (r G : Nat) (bs : List UInt8) (h : Rdr w r G bs) :
    Calls Try.prog 35 #[.pointer (some ⟨r, 0, none⟩)] w fun e w' =>
      (bs.length < 8 ∧ e = .panicked short ∧ Mod (fun k => k = r) w w') ∨ (8 ≤ bs.length ∧ e = .returned (.int .u64 (longOf (bs.take 8) : Nat)) ∧ Rdr w' r G (bs.drop 8) ∧ Mod (fun k => k = r) w w') := by
  have H := Lib.hid h
  clear h
  go_enter Try.func35, Try.ntmps35
  go_wp2_with fail
  go_loopw [3, 4] (fun x i wr => ∃ k : Nat, k ≤ 8 ∧ k ≤ bs.length ∧ i = .int .i64 k ∧ x = .int .u64 (longOf (bs.take k) : Nat) ∧ Rdr wr r G (bs.drop k) ∧ Mod (fun k => k = r) w wr) (fun _ i _ => 8 - (intOf i).toNat)
  case atStart => exact ⟨0, by omega, by omega, rfl, rfl, H.out, Mod.refl _ w⟩
  case round =>
    obtain ⟨k, hk, hkb, rfl, rfl, hr, hm⟩ := hrel
    by_cases hlt : k < 8
    · have hb := rd_byte wr r G _ hr
      have Hm := Lib.hid hm
      by_cases hkl : k < bs.length
      · have hd := List.drop_eq_getElem_cons hkl
        obtain ⟨y, hy⟩ : ∃ y, bs[k] = y := ⟨_, rfl⟩
        rw [hy] at hd
        rw [hd] at hb
        have htk : bs.take (k + 1) = bs.take k ++ [y] := by rw [List.take_succ_eq_append_getElem hkl, hy]
        have hlo := longOf_lt (bs.take k)
        rw [List.length_take, Nat.min_eq_left (by omega)] at hlo
        have hl2 : longOf (bs.take k) < 256 ^ 7 := Nat.lt_of_lt_of_le hlo (Nat.pow_le_pow_right (by decide) (by omega))
        obtain ⟨X, hX⟩ : ∃ X, longOf (bs.take k) = X := ⟨_, rfl⟩
        have htl : longOf (bs.take (k + 1)) = X * 256 + y.toNat := by rw [htk, longOf_snoc, hX]
        rw [hX] at hl2 ⊢
        have hy1 := y.toNat_lt
        have Hd := Lib.hid hd
        have Hb := Lib.hid hb
        have Htl := Lib.hid htl
        clear hb hd hy htk hlo hX hr hm htl
        go_wp2_with fail
        refine Hb.out.mono ?_
        rintro e w2 (⟨h, -⟩ | ⟨x, t, h, rfl, hr2, hm2⟩)
        · cases h
        cases h
        have Hr2 := Lib.hid hr2
        have Hm2 := Lib.hid hm2
        clear hr2 hm2
        go_wp2
        go_roundw
        case rel => exact ⟨k + 1, by omega, by omega, by go_num, by rw [u64_or X _ hl2 hy1, Htl.out], by rw [← List.drop_drop]; rw [Hd.out]; exact Hr2.out, Hm.out.trans Hm2.out (fun _ _ h => h)⟩
        case measure => simp [intOf]; omega
      · have hd : bs.drop k = [] := List.drop_of_length_le (by omega)
        rw [hd] at hb
        have Hb := Lib.hid hb
        clear hb hd hr hm
        go_wp2_with fail
        refine Hb.out.mono ?_
        rintro e w2 (⟨-, rfl, rfl⟩ | ⟨x, t, h, -⟩)
        rotate_left
        · cases h
        exact ⟨rfl, .inl ⟨by omega, rfl, Hm.out⟩⟩
    · obtain rfl : k = 8 := by omega
      have Hr := Lib.hid hr
      have Hm := Lib.hid hm
      clear hr hm
      go_wp2
      go_ret
      exact .inr ⟨hkb, rfl, Hr.out, Hm.out⟩

/-- Bytes as a text. -/
def str (bs : List UInt8) : ByteArray := ⟨bs.toArray⟩
theorem str_nums (bs : List UInt8) : strOfNums (bs.map fun b => (b.toNat : Int)) = str bs := by
  unfold strOfNums str
  congr 1
  apply congrArg
  rw [List.map_map]
  conv => rhs; rw [← List.map_id bs]
  exact List.map_congr_left fun b _ => by simp

theorem conv_bytes {w : World} {G off n cap : Nat} {bs : List UInt8} (hn : bs.length = n) (hc : ∀ j (u : UInt8), bs[j]? = some u → w.cell? ⟨G, off + j, none⟩ = some (.int .u8 (u.toNat : Int))) :
    (convert 22 9 (.slice (some ⟨G, off, none⟩) n cap)).run Try.prog w = .ok (.string (str bs)) w := by
  rw [← str_nums]
  refine run_convert_bytes_arg w 22 5 Try.underlying22 Try.underlying5 G off n cap _ (by simpa using hn) (fun i hi => ?_) 9 Try.underlying9
  have hb : bs[i]? = some bs[i] := List.getElem?_eq_getElem (by omega)
  rw [hc i _ hb]
  simp [List.getD, hb]
theorem conv_nil {w : World} {n cap : Nat} : (convert 22 9 (.slice none n cap)).run Try.prog w = .ok (.string (str [])) w :=
  run_convert_bytes_nil w 22 5 Try.underlying22 Try.underlying5 n cap 9 Try.underlying9

set_option maxRecDepth 100000 in
set_option maxHeartbeats 1000000 in
theorem rd_text (w : World) (r G : Nat) (bs : List UInt8) (h : Rdr w r G bs) :
    Calls Try.prog 20 #[.pointer (some ⟨r, 0, none⟩)] w fun e w' =>
      ((∀ x t, bs = x :: t → t.length < x.toNat) ∧ e = .panicked short ∧ Mod (fun k => k = r) w w') ∨
      (∃ x t, bs = x :: t ∧ x.toNat ≤ t.length ∧ e = .returned (.string (str (t.take x.toNat))) ∧ Rdr w' r G (t.drop x.toNat) ∧ Mod (fun k => k = r) w w') := by
  have Hb := Lib.hid (rd_byte w r G bs h)
  clear h
  go_enter Try.func20, Try.ntmps20
  go_wp2_with fail
  refine Hb.out.mono ?_
  rintro e w2 (⟨h0, rfl, rfl⟩ | ⟨x, t, rfl, rfl, hr2, hm2⟩)
  · exact ⟨rfl, .inl ⟨fun x t h => (by rw [h0] at h; cases h), rfl, Mod.refl _ _⟩⟩
  obtain ⟨v, hr, hb⟩ := hr2.ex
  obtain ⟨a, cap, rfl, h2, h3, h4⟩ := hb.ex
  have c0 : w2.cell? ⟨r, 0, none⟩ = some (.slice a t.length cap) := cell_of hr rfl
  have f0 : w2.frozen? ⟨r, 0, none⟩ = false := fr_of hr
  have hx := x.toNat_lt
  obtain ⟨n, hn⟩ : ∃ n, x.toNat = n := ⟨_, rfl⟩
  have Hm2 := Lib.hid hm2
  clear hm2 Hb
  by_cases hlt : t.length < x.toNat
  · have hlt' : (t.length : Int) < n := by omega
    rw [hn]
    have Hlt := Lib.hid hlt
    clear hr hb h2 h3 h4 hlt
    go_wp2
    exact ⟨rfl, .inl ⟨fun x' t' h => by simp only [List.cons.injEq] at h; obtain ⟨rfl, rfl⟩ := h; exact Hlt.out, rfl, Hm2.out⟩⟩
  · have hle : n ≤ t.length := by omega
    rw [hn]
    have hle' : (n : Int) ≤ t.length := by omega
    have hcap' : (n : Int) ≤ cap := by omega
    cases a with
    | none =>
      obtain rfl := h3 rfl
      obtain rfl : t = [] := List.eq_nil_of_length_eq_zero (by omega)
      obtain rfl : n = 0 := by simp at hle; omega
      have hcv : (convert 22 9 (.slice none 0 0)).run Try.prog w2 = .ok (.string (str [])) w2 := conv_nil
      have hm : Mod (fun k => k = r) w2 (w2.setCell ⟨r, 0, none⟩ (.slice none 0 0)) := (Mod.refl (fun k => k = r) w2).setCell (fun _ => rfl) _
      have hnx : Rdr (w2.setCell ⟨r, 0, none⟩ (.slice none 0 0)) r G [] := ⟨hr2.ne, .slice none 0 0, heap_set hr, ⟨none, 0, rfl, Nat.le_refl _, fun _ => rfl, fun b hb => (by cases hb)⟩⟩
      have Hn := Lib.hid hnx
      have HM := Lib.hid hm
      have Hne := Lib.hid hn
      clear hr hb h4 hnx h3 hr2 hlt hle hn h2 hm
      have c0 : w2.cell? ⟨r, 0, none⟩ = some (.slice none 0 0) := c0
      go_wp2
      go_ret
      refine .inr ⟨x, [], rfl, by rw [Hne.out]; exact Nat.le_refl _, by rw [Hne.out]; rfl, ?_, Hm2.out.trans HM.out (fun _ _ h => h)⟩
      rw [Hne.out]
      exact Hn.out
    | some b =>
      obtain ⟨off, rfl, hG, h7⟩ := h4 b rfl
      have hcv : (convert 22 9 (.slice (some ⟨G, off, none⟩) n cap)).run Try.prog w2 = .ok (.string (str (t.take n))) w2 :=
        conv_bytes (by rw [List.length_take]; omega) (fun j u hu => h7 j u (by rw [List.getElem?_take] at hu; split at hu; exact hu; cases hu))
      have hnx := hr2.next hr hle
      have Hle := Lib.hid hle
      have Hne := Lib.hid hn
      by_cases hcap : cap = n
      · subst hcap
        rw [if_pos rfl] at hnx
        have Hn := Lib.hid hnx
        clear hr hb h7 h4 hnx h3 hr2 hlt hle hn h2
        go_wp2
        go_ret
        have h := Hn.out
        simp only [Nat.sub_self] at h
        refine .inr ⟨x, t, rfl, by rw [Hne.out]; exact Hle.out, by rw [Hne.out]; rfl, by rw [Hne.out]; exact h.1, Hm2.out.trans h.2 (fun _ _ h => h)⟩
      · rw [if_neg hcap] at hnx
        have Hn := Lib.hid hnx
        clear hr hb h7 h4 hnx h3 hr2 hlt hle hn h2
        go_wp2
        go_ret
        refine .inr ⟨x, t, rfl, by rw [Hne.out]; exact Hle.out, by rw [Hne.out]; rfl, by rw [Hne.out]; exact Hn.out.1, Hm2.out.trans Hn.out.2 (fun _ _ h => h)⟩
end Go.Proofs.Ytmlnklbjjnjplaa
