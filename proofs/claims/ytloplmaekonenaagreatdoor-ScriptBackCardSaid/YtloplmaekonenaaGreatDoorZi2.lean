/-
  Package codec, the Reader: bytes that lie anywhere, read from the front.
  Package order over the bits of floats.
  Structs in whole rows: a store into a row, a result that lies in a variable.
  Package value: Right, Canon, Void, Same.
-/
import Derived.Test.YtloplmaekonenaaGreatDoorProg
import Derived.Test.YtloplmaekonenaaGreatDoorZi1
import Derived.WalkSpells
import Derived.Handy
import Derived.WalkLawsBesides
import Derived.BigRegion
import Derived.BigQuiet
import Derived.Lib.Hide
import Derived.Laws.BytesArg
import Derived.Laws.Bits128
import Derived.Laws.Externs
import Derived.WalkKit
import Derived.Laws.Tables
namespace Go.Proofs.YtloplmaekonenaaGreatDoor
set_option maxRecDepth 20000
open Go.RowKit
def u8s (bs : List UInt8) : List Value := bs.map fun b => .int .u8 (b.toNat : Int)
theorem u8s_length (bs : List UInt8) : (u8s bs).length = bs.length := by simp [u8s]
structure BytesAt (w : World) (G : Nat) (v : Value) (bs : List UInt8) : Prop where
  ex : ∃ a cap, v = .slice a bs.length cap ∧ bs.length ≤ cap ∧ (a = none → cap = 0) ∧ ∀ b, a = some b → ∃ off, b = ⟨G, off, none⟩ ∧ G < w.heap.size ∧ ∀ j (u : UInt8), bs[j]? = some u → w.cell? ⟨G, off + j, none⟩ = some (.int .u8 (u.toNat : Int))
structure Rdr (w : World) (r G : Nat) (bs : List UInt8) : Prop where
  ne : G ≠ r
  ex : ∃ v, w.heap[r]? = some (.cells #[v] 163 (0, 0)) ∧ BytesAt w G v bs
section
variable {w w' : World} {r G : Nat} {bs : List UInt8} {v : Value}
theorem BytesAt.mod {F : Nat → Prop} (h : BytesAt w G v bs) (hm : Mod F w w') (hG : G < w.heap.size → ¬ F G) : BytesAt w' G v bs := by
  obtain ⟨a, cap, h1, h2, h3, h4⟩ := h.ex
  refine ⟨a, cap, h1, h2, h3, fun b hb => ?_⟩
  obtain ⟨off, h5, h6, h7⟩ := h4 b hb
  exact ⟨off, h5, Nat.lt_of_lt_of_le h6 hm.size, fun j u hu => hm.cell (h7 j u hu) (hG h6)⟩
theorem Rdr.mod {F : Nat → Prop} (h : Rdr w r G bs) (hm : Mod F w w') (hr : ¬ F r) (hG : G < w.heap.size → ¬ F G) : Rdr w' r G bs := by
  obtain ⟨v, h1, h2⟩ := h.ex
  exact ⟨h.ne, v, hm.heap h1 hr, h2.mod hm hG⟩
theorem Rdr.lt (h : Rdr w r G bs) : r < w.heap.size := by
  obtain ⟨v, h1, -⟩ := h.ex
  exact (Array.getElem?_eq_some_iff.1 h1).1
theorem Rdr.new {F : Nat → Prop} {B : Nat} (h : Rdr w r G bs) (hm : Mod F w w') (hr : r < B) (hG : G < B) (hF : ∀ k, F k → B ≤ k) : Rdr w' r G bs :=
  h.mod hm (fun hk => by have := hF r hk; omega) (fun _ hk => by have := hF G hk; omega)
theorem BytesAt.drop {a : Option Addr} {cap : Nat} (h : BytesAt w G (.slice a bs.length cap) bs) {n : Nat} (hn : n ≤ bs.length) {off : Nat} (ha : a = some ⟨G, off, none⟩) :
    BytesAt w G (.slice (some ⟨G, if cap = n then off else off + n, none⟩) (bs.length - n) (cap - n)) (bs.drop n) := by
  obtain ⟨a', cap', h1, h2, h3, h4⟩ := h.ex
  cases h1
  subst ha
  refine ⟨_, cap - n, by rw [List.length_drop], by rw [List.length_drop]; omega, fun h => (by cases h), fun b hb => ?_⟩
  obtain ⟨off', h5, h6, h7⟩ := h4 _ rfl
  cases h5
  cases hb
  refine ⟨_, rfl, h6, fun j u hu => ?_⟩
  rw [List.getElem?_drop] at hu
  have hj := (List.getElem?_eq_some_iff.1 hu).1
  rw [if_neg (by omega), Nat.add_assoc]
  exact h7 _ _ hu
end
def short : List PanicEntry := [{ v := .iface 165 (.agg #[]), recovered := false }]
theorem Rdr.next {w : World} {r G : Nat} {bs : List UInt8} (h : Rdr w r G bs) {off cap : Nat} (hr : w.heap[r]? = some (.cells #[.slice (some ⟨G, off, none⟩) bs.length cap] 163 (0, 0))) {n : Nat} (hn : n ≤ bs.length) :
    Rdr (w.setCell ⟨r, 0, none⟩ (.slice (some ⟨G, if cap = n then off else off + n, none⟩) (bs.length - n) (cap - n))) r G (bs.drop n) ∧ Mod (fun k => k = r) w (w.setCell ⟨r, 0, none⟩ (.slice (some ⟨G, if cap = n then off else off + n, none⟩) (bs.length - n) (cap - n))) := by
  obtain ⟨v, hr', hb⟩ := h.ex
  rw [hr] at hr'
  cases hr'
  have hm : Mod (fun k => k = r) w (w.setCell ⟨r, 0, none⟩ (.slice (some ⟨G, if cap = n then off else off + n, none⟩) (bs.length - n) (cap - n))) := (Mod.refl (fun k => k = r) w).setCell (fun _ => rfl) _
  exact ⟨⟨h.ne, _, heap_set hr, (hb.drop hn rfl).mod hm (fun _ => h.ne)⟩, hm⟩
set_option maxHeartbeats 400000 in
theorem rd_byte (w : World) (r G : Nat) (bs : List UInt8) (h : Rdr w r G bs) :
    Calls Tryz.prog 113 #[.pointer (some ⟨r, 0, none⟩)] w fun e w' =>
      (bs = [] ∧ e = .panicked short ∧ w' = w) ∨ (∃ x t, bs = x :: t ∧ e = .returned (.int .i64 (x.toNat : Int)) ∧ Rdr w' r G t ∧ Mod (fun k => k = r) w w') := by
  obtain ⟨v, hr, hb⟩ := h.ex
  obtain ⟨a, cap, rfl, h2, h3, h4⟩ := hb.ex
  have f0 : w.frozen? ⟨r, 0, none⟩ = false := fr_of hr
  cases bs with
  | nil =>
    have c0 : w.cell? ⟨r, 0, none⟩ = some (.slice a 0 cap) := cell_of hr rfl
    go_enter Tryz.func113, Tryz.ntmps113
    go_wp2
    exact ⟨rfl, .inl ⟨trivial, rfl, rfl⟩⟩
  | cons x t =>
    have c0 : w.cell? ⟨r, 0, none⟩ = some (.slice a (t.length + 1) cap) := cell_of hr rfl
    obtain ⟨b, rfl⟩ : ∃ b, a = some b := by
      cases a with
      | none => have := h3 rfl; simp at h2; omega
      | some b => exact ⟨b, rfl⟩
    obtain ⟨off, rfl, hG, h7⟩ := h4 b rfl
    have c1 : w.cell? ⟨G, off, none⟩ = some (.int .u8 (x.toNat : Int)) := h7 0 x rfl
    have hx : (x.toNat : Int) ≤ 255 := by have := x.toNat_lt; omega
    have h2' : ((t.length : Int) + 1) ≤ cap := by simp at h2; omega
    have hnx := h.next hr (n := 1) (by simp)
    have Hn := Lib.hid hnx
    clear hr hb h7 h4 hnx h h2 h3
    by_cases hcap : cap = 1
    · go_enter Tryz.func113, Tryz.ntmps113
      go_wp2
      go_ret
      have := Hn.out
      simp only [hcap, if_true, List.drop_succ_cons, List.drop_zero, List.length_cons, Nat.add_sub_cancel, Nat.sub_self] at this
      exact .inr ⟨x, t, rfl, rfl, this⟩
    · go_enter Tryz.func113, Tryz.ntmps113
      go_wp2
      go_ret
      have := Hn.out
      simp only [hcap, if_false, List.drop_succ_cons, List.drop_zero, List.length_cons, Nat.add_sub_cancel] at this
      exact .inr ⟨x, t, rfl, rfl, this⟩
def longOf (l : List UInt8) : Nat := l.foldl (fun x b => x * 256 + b.toNat) 0
theorem longOf_snoc (l : List UInt8) (b : UInt8) : longOf (l ++ [b]) = longOf l * 256 + b.toNat := by simp [longOf]
theorem longOf_from (l : List UInt8) : ∀ x : Nat, l.foldl (fun x b => x * 256 + b.toNat) x < (x + 1) * 256 ^ l.length := by
  induction l with
  | nil => intro x; simp
  | cons b l ih =>
    intro x
    have h := ih (x * 256 + b.toNat)
    have hb := b.toNat_lt
    rw [List.foldl_cons, List.length_cons, Nat.pow_succ]
    have : (x * 256 + b.toNat + 1) * 256 ^ l.length ≤ ((x + 1) * 256) * 256 ^ l.length := Nat.mul_le_mul_right _ (by omega)
    rw [Nat.mul_comm (256 ^ l.length) 256, ← Nat.mul_assoc]
    omega
theorem longOf_lt (l : List UInt8) : longOf l < 256 ^ l.length := by
  have := longOf_from l 0
  simpa [longOf] using this
theorem u64_or (X y : Nat) (hX : X < 256 ^ 7) (hy : y < 256) : bits .or .u64 ((X : Int) * 256) (y : Int) = ((X * 256 + y : Nat) : Int) := by
  have h1 : (BitVec.ofInt 64 ((X : Int) * 256)).toNat = 2 ^ 8 * X := by rw [BitVec.toNat_ofInt]; omega
  have h2 : (BitVec.ofInt 64 (y : Int)).toNat = y := by rw [BitVec.toNat_ofInt]; omega
  have key : (BitVec.ofInt 64 ((X : Int) * 256) ||| BitVec.ofInt 64 (y : Int)).toNat = 2 ^ 8 * X + y := by
    rw [BitVec.toNat_or, h1, h2, Nat.two_pow_add_eq_or_of_lt hy]
  show IntKind.u64.wrap ((BitVec.ofInt 64 ((X : Int) * 256) ||| BitVec.ofInt 64 (y : Int)).toNat : Nat) = _
  rw [key, IntKind.wrap_u64]
  omega
set_option maxHeartbeats 1000000 in
theorem rd_long (w : World) (r G : Nat) (bs : List UInt8) (h : Rdr w r G bs) :
    Calls Tryz.prog 184 #[.pointer (some ⟨r, 0, none⟩)] w fun e w' =>
      (bs.length < 8 ∧ e = .panicked short ∧ Mod (fun k => k = r) w w') ∨ (8 ≤ bs.length ∧ e = .returned (.int .u64 (longOf (bs.take 8) : Nat)) ∧ Rdr w' r G (bs.drop 8) ∧ Mod (fun k => k = r) w w') := by
  have H := Lib.hid h
  clear h
  go_enter Tryz.func184, Tryz.ntmps184
  go_wp2_with fail
  go_loopw [3, 4] (fun x i wr => ∃ k : Nat, k ≤ 8 ∧ k ≤ bs.length ∧ i = .int .i64 k ∧ x = .int .u64 (longOf (bs.take k) : Nat) ∧ Rdr wr r G (bs.drop k) ∧ Mod (fun k => k = r) w wr) (fun _ i _ => 8 - (intOf i).toNat)
  case atStart => exact ⟨0, by omega, by omega, rfl, rfl, H.out, Mod.refl _ w⟩
  case round =>
    obtain ⟨k, hk, hkb, rfl, rfl, hr, hm⟩ := hrel
    by_cases hlt : k < 8
    · have hb := rd_byte wr r G _ hr
      have Hm := Lib.hid hm
      by_cases hkl : k < bs.length
      · have hd := List.drop_eq_getElem_cons hkl
        obtain ⟨y, hy⟩ : ∃ y, bs[k] = y := ⟨_, rfl⟩
        rw [hy] at hd
        rw [hd] at hb
        have htk : bs.take (k + 1) = bs.take k ++ [y] := by rw [List.take_succ_eq_append_getElem hkl, hy]
        have hlo := longOf_lt (bs.take k)
        rw [List.length_take, Nat.min_eq_left (by omega)] at hlo
        have hl2 : longOf (bs.take k) < 256 ^ 7 := Nat.lt_of_lt_of_le hlo (Nat.pow_le_pow_right (by decide) (by omega))
        obtain ⟨X, hX⟩ : ∃ X, longOf (bs.take k) = X := ⟨_, rfl⟩
        have htl : longOf (bs.take (k + 1)) = X * 256 + y.toNat := by rw [htk, longOf_snoc, hX]
        rw [hX] at hl2 ⊢
        have hy1 := y.toNat_lt
        have Hd := Lib.hid hd
        have Hb := Lib.hid hb
        have Htl := Lib.hid htl
        clear hb hd hy htk hlo hX hr hm htl
        go_wp2_with fail
        refine Hb.out.mono ?_
        rintro e w2 (⟨h, -⟩ | ⟨x, t, h, rfl, hr2, hm2⟩)
        · cases h
        cases h
        have Hr2 := Lib.hid hr2
        have Hm2 := Lib.hid hm2
        clear hr2 hm2
        go_wp2
        go_roundw
        case rel => exact ⟨k + 1, by omega, by omega, by go_num, by rw [u64_or X _ hl2 hy1, Htl.out], by rw [← List.drop_drop]; rw [Hd.out]; exact Hr2.out, Hm.out.trans Hm2.out (fun _ _ h => h)⟩
        case measure => simp [intOf]; omega
      · have hd : bs.drop k = [] := List.drop_of_length_le (by omega)
        rw [hd] at hb
        have Hb := Lib.hid hb
        clear hb hd hr hm
        go_wp2_with fail
        refine Hb.out.mono ?_
        rintro e w2 (⟨-, rfl, rfl⟩ | ⟨x, t, h, -⟩)
        rotate_left
        · cases h
        exact ⟨rfl, .inl ⟨by omega, rfl, Hm.out⟩⟩
    · obtain rfl : k = 8 := by omega
      have Hr := Lib.hid hr
      have Hm := Lib.hid hm
      clear hr hm
      go_wp2
      go_ret
      exact .inr ⟨hkb, rfl, Hr.out, Hm.out⟩
def str (bs : List UInt8) : ByteArray := ⟨bs.toArray⟩
theorem str_nums (bs : List UInt8) : strOfNums (bs.map fun b => (b.toNat : Int)) = str bs := by
  unfold strOfNums str
  congr 1
  apply congrArg
  rw [List.map_map]
  conv => rhs; rw [← List.map_id bs]
  exact List.map_congr_left fun b _ => by simp
theorem conv_bytes {w : World} {G off n cap : Nat} {bs : List UInt8} (hn : bs.length = n) (hc : ∀ j (u : UInt8), bs[j]? = some u → w.cell? ⟨G, off + j, none⟩ = some (.int .u8 (u.toNat : Int))) :
    (convert 69 9 (.slice (some ⟨G, off, none⟩) n cap)).run Tryz.prog w = .ok (.string (str bs)) w := by
  rw [← str_nums]
  refine run_convert_bytes_arg w 69 5 Tryz.underlying69 Tryz.underlying5 G off n cap _ (by simpa using hn) (fun i hi => ?_) 9 Tryz.underlying9
  have hb : bs[i]? = some bs[i] := List.getElem?_eq_getElem (by omega)
  rw [hc i _ hb]
  simp [List.getD, hb]
theorem conv_nil {w : World} {n cap : Nat} : (convert 69 9 (.slice none n cap)).run Tryz.prog w = .ok (.string (str [])) w :=
  run_convert_bytes_nil w 69 5 Tryz.underlying69 Tryz.underlying5 n cap 9 Tryz.underlying9
set_option maxRecDepth 100000 in
set_option maxHeartbeats 1000000 in
theorem rd_text (w : World) (r G : Nat) (bs : List UInt8) (h : Rdr w r G bs) :
    Calls Tryz.prog 114 #[.pointer (some ⟨r, 0, none⟩)] w fun e w' =>
      ((∀ x t, bs = x :: t → t.length < x.toNat) ∧ e = .panicked short ∧ Mod (fun k => k = r) w w') ∨
      (∃ x t, bs = x :: t ∧ x.toNat ≤ t.length ∧ e = .returned (.string (str (t.take x.toNat))) ∧ Rdr w' r G (t.drop x.toNat) ∧ Mod (fun k => k = r) w w') := by
  have Hb := Lib.hid (rd_byte w r G bs h)
  clear h
  go_enter Tryz.func114, Tryz.ntmps114
  go_wp2_with fail
  refine Hb.out.mono ?_
  rintro e w2 (⟨h0, rfl, rfl⟩ | ⟨x, t, rfl, rfl, hr2, hm2⟩)
  · exact ⟨rfl, .inl ⟨fun x t h => (by rw [h0] at h; cases h), rfl, Mod.refl _ _⟩⟩
  obtain ⟨v, hr, hb⟩ := hr2.ex
  obtain ⟨a, cap, rfl, h2, h3, h4⟩ := hb.ex
  have c0 : w2.cell? ⟨r, 0, none⟩ = some (.slice a t.length cap) := cell_of hr rfl
  have f0 : w2.frozen? ⟨r, 0, none⟩ = false := fr_of hr
  have hx := x.toNat_lt
  obtain ⟨n, hn⟩ : ∃ n, x.toNat = n := ⟨_, rfl⟩
  have Hm2 := Lib.hid hm2
  clear hm2 Hb
  by_cases hlt : t.length < x.toNat
  · have hlt' : (t.length : Int) < n := by omega
    rw [hn]
    have Hlt := Lib.hid hlt
    clear hr hb h2 h3 h4 hlt
    go_wp2
    exact ⟨rfl, .inl ⟨fun x' t' h => by simp only [List.cons.injEq] at h; obtain ⟨rfl, rfl⟩ := h; exact Hlt.out, rfl, Hm2.out⟩⟩
  · have hle : n ≤ t.length := by omega
    rw [hn]
    have hle' : (n : Int) ≤ t.length := by omega
    have hcap' : (n : Int) ≤ cap := by omega
    cases a with
    | none =>
      obtain rfl := h3 rfl
      obtain rfl : t = [] := List.eq_nil_of_length_eq_zero (by omega)
      obtain rfl : n = 0 := by simp at hle; omega
      have hcv : (convert 69 9 (.slice none 0 0)).run Tryz.prog w2 = .ok (.string (str [])) w2 := conv_nil
      have hm : Mod (fun k => k = r) w2 (w2.setCell ⟨r, 0, none⟩ (.slice none 0 0)) := (Mod.refl (fun k => k = r) w2).setCell (fun _ => rfl) _
      have hnx : Rdr (w2.setCell ⟨r, 0, none⟩ (.slice none 0 0)) r G [] := ⟨hr2.ne, .slice none 0 0, heap_set hr, ⟨none, 0, rfl, Nat.le_refl _, fun _ => rfl, fun b hb => (by cases hb)⟩⟩
      have Hn := Lib.hid hnx
      have HM := Lib.hid hm
      have Hne := Lib.hid hn
      clear hr hb h4 hnx h3 hr2 hlt hle hn h2 hm
      have c0 : w2.cell? ⟨r, 0, none⟩ = some (.slice none 0 0) := c0
      go_wp2
      go_ret
      refine .inr ⟨x, [], rfl, by rw [Hne.out]; exact Nat.le_refl _, by rw [Hne.out]; rfl, ?_, Hm2.out.trans HM.out (fun _ _ h => h)⟩
      rw [Hne.out]
      exact Hn.out
    | some b =>
      obtain ⟨off, rfl, hG, h7⟩ := h4 b rfl
      have hcv : (convert 69 9 (.slice (some ⟨G, off, none⟩) n cap)).run Tryz.prog w2 = .ok (.string (str (t.take n))) w2 :=
        conv_bytes (by rw [List.length_take]; omega) (fun j u hu => h7 j u (by rw [List.getElem?_take] at hu; split at hu; exact hu; cases hu))
      have hnx := hr2.next hr hle
      have Hle := Lib.hid hle
      have Hne := Lib.hid hn
      by_cases hcap : cap = n
      · subst hcap
        rw [if_pos rfl] at hnx
        have Hn := Lib.hid hnx
        clear hr hb h7 h4 hnx h3 hr2 hlt hle hn h2
        go_wp2
        go_ret
        have h := Hn.out
        simp only [Nat.sub_self] at h
        refine .inr ⟨x, t, rfl, by rw [Hne.out]; exact Hle.out, by rw [Hne.out]; rfl, by rw [Hne.out]; exact h.1, Hm2.out.trans h.2 (fun _ _ h => h)⟩
      · rw [if_neg hcap] at hnx
        have Hn := Lib.hid hnx
        clear hr hb h7 h4 hnx h3 hr2 hlt hle hn h2
        go_wp2
        go_ret
        refine .inr ⟨x, t, rfl, by rw [Hne.out]; exact Hle.out, by rw [Hne.out]; rfl, by rw [Hne.out]; exact Hn.out.1, Hm2.out.trans Hn.out.2 (fun _ _ h => h)⟩
end Go.Proofs.YtloplmaekonenaaGreatDoor
namespace Go.Proofs.YtloplmaekonenaaGreatDoor
set_option maxRecDepth 20000
open Go.RowKit
def fEq (x y : Nat) : Bool := FloatKind.f64.format.order x y == some .eq
def fLt (x y : Nat) : Bool := FloatKind.f64.format.order x y == some .lt
def nanB : Nat := 9221120237041090561
def canonB (x : Nat) : Nat := if fEq x x then (if fEq x 0 then 0 else x) else nanB
def keyB (x : Nat) : Nat := if fEq (canonB x) (canonB x) then (if canonB x < 2 ^ 63 then canonB x + 2 ^ 63 else 2 ^ 64 - 1 - canonB x) else 2 ^ 64 - 1
def unkeyB (k : Nat) : Nat := if k < 2 ^ 63 then 2 ^ 64 - 1 - k else k - 2 ^ 63
def backB (k : Nat) : Nat × Bool := if k = 2 ^ 64 - 1 then (nanB, true) else if fEq (unkeyB k) (unkeyB k) && keyB (unkeyB k) == k then (unkeyB k, true) else (0, false)
theorem float_neq (t : TypeId) (x y : Nat) (w : World) : (binOp .neq t (.float .f64 x) (.float .f64 y)).run Tryz.prog w = .ok (.bool (!fEq x y)) w := by
  simp [binOp, Op.floatCmp, fEq, bne]
@[go_sem high] theorem shr63 (x : Int) : Op.shift .shr .u64 x .u64 63 = pure (.int .u64 (x / 9223372036854775808)) := by
  have h : (2 : Int) ^ min (63 : Int).toNat IntKind.u64.bits = 9223372036854775808 := by decide
  rw [shift_shr_any _ _ _ _ (by decide), h]
@[go_sem high] theorem not64 (n : Int) : Op.unary .xor (.int .u64 n) = pure (.int .u64 (bits .xor .u64 18446744073709551615 n)) := by
  rw [unary_xor]
  rfl
theorem ofInt64 {a : Nat} (h : a < 2 ^ 64) : (BitVec.ofInt 64 (a : Int)).toNat = a := by rw [BitVec.toNat_ofInt]; omega
theorem u64_not {a : Nat} (ha : a < 2 ^ 64) : bits .xor .u64 18446744073709551615 (a : Int) = ((2 ^ 64 - 1 - a : Nat) : Int) := by
  show IntKind.u64.wrap ((BitVec.ofInt 64 18446744073709551615 ^^^ BitVec.ofInt 64 (a : Int)).toNat : Int) = _
  have h1 : BitVec.ofInt 64 18446744073709551615 = BitVec.allOnes 64 := by decide
  rw [h1, BitVec.allOnes_xor, BitVec.toNat_not, ofInt64 ha, IntKind.wrap_u64]
  omega
theorem u64_or63 {a : Nat} (ha : a < 2 ^ 63) : bits .or .u64 (a : Int) 9223372036854775808 = ((a + 2 ^ 63 : Nat) : Int) := by
  have h2 : (BitVec.ofInt 64 9223372036854775808).toNat = 2 ^ 63 * 1 := by decide
  have key : (BitVec.ofInt 64 (a : Int) ||| BitVec.ofInt 64 9223372036854775808).toNat = a + 2 ^ 63 := by
    rw [BitVec.toNat_or, h2, ofInt64 (by omega), Nat.or_comm, ← Nat.two_pow_add_eq_or_of_lt ha]
    omega
  show IntKind.u64.wrap ((BitVec.ofInt 64 (a : Int) ||| BitVec.ofInt 64 9223372036854775808).toNat : Int) = _
  rw [key, IntKind.wrap_u64]
  omega
theorem u64_clear63 {a : Nat} (ha : a < 2 ^ 64) : bits .andNot .u64 (a : Int) 9223372036854775808 = ((a % 2 ^ 63 : Nat) : Int) := by
  have h2 : ~~~ BitVec.ofInt 64 9223372036854775808 = BitVec.ofInt 64 9223372036854775807 := by decide
  have h3 : (BitVec.ofInt 64 9223372036854775807).toNat = 2 ^ 63 - 1 := by decide
  have key : (BitVec.ofInt 64 (a : Int) &&& ~~~ BitVec.ofInt 64 9223372036854775808).toNat = a % 2 ^ 63 := by
    rw [h2, BitVec.toNat_and, h3, ofInt64 ha, Nat.and_two_pow_sub_one_eq_mod]
  show IntKind.u64.wrap ((BitVec.ofInt 64 (a : Int) &&& ~~~ BitVec.ofInt 64 9223372036854775808).toNat : Int) = _
  rw [key, IntKind.wrap_u64]
  omega
theorem call_frombits (n : Int) (w : World) : (callFunc 190 #[.int .u64 n]).run Tryz.prog w = .ok (.value (.float .f64 n.toNat)) w := by
  rw [run_callFunc_extern Tryz.func190 (by kernel_rfl) (by kernel_rfl) (by kernel_rfl) (e := Extern.MathFloatBits.float64frombits) (by kernel_rfl) _ w]
  rfl
theorem call_bits (x : Nat) (w : World) : (callFunc 215 #[.float .f64 x]).run Tryz.prog w = .ok (.value (.int .u64 x)) w := by
  rw [run_callFunc_extern Tryz.func215 (by kernel_rfl) (by kernel_rfl) (by kernel_rfl) (e := Extern.MathFloatBits.float64bits) (by kernel_rfl) _ w]
  rfl
theorem nan_at (w : World) : Calls Tryz.prog 147 #[] w fun e w' => e = .returned (.float .f64 nanB) ∧ w' = w := by
  have h := call_frombits 9221120237041090561 w
  go_enter Tryz.func147, Tryz.ntmps147
  go_wp2
  go_ret
  exact ⟨rfl, rfl⟩
theorem none_at (x : Nat) (w : World) : Calls Tryz.prog 149 #[.float .f64 x] w fun e w' => e = .returned (.bool (!fEq x x)) ∧ w' = w := by
  have h1 := float_neq 77 x x
  go_enter Tryz.func149, Tryz.ntmps149
  go_wp2
  go_ret
  exact ⟨rfl, rfl⟩
theorem less_at (x y : Nat) (w : World) : Calls Tryz.prog 125 #[.float .f64 x, .float .f64 y] w fun e w' => e = .returned (.bool (fLt x y)) ∧ w' = w := by
  go_enter Tryz.func125, Tryz.ntmps125
  go_wp2
  go_ret
  exact ⟨rfl, rfl⟩
theorem canon_at (x : Nat) (w : World) : Calls Tryz.prog 118 #[.float .f64 x] w fun e w' => e = .returned (.float .f64 (canonB x)) ∧ w' = w := by
  have Hn := Lib.hid (nan_at w)
  unfold canonB fEq
  cases hx : FloatKind.f64.format.order x x == some .eq with
  | false =>
    have hx' : (FloatKind.f64.format.order x x != some .eq) = true := by rw [bne, hx]; rfl
    go_enter Tryz.func118, Tryz.ntmps118
    go_wp2_with fail
    refine Hn.out.mono ?_
    rintro e w1 ⟨rfl, rfl⟩
    go_wp2
    go_ret
    exact ⟨rfl, rfl⟩
  | true =>
    have hx' : (FloatKind.f64.format.order x x != some .eq) = false := by rw [bne, hx]; rfl
    cases h0 : FloatKind.f64.format.order x 0 == some .eq with
    | false =>
      go_enter Tryz.func118, Tryz.ntmps118
      go_wp2
      go_ret
      exact ⟨rfl, rfl⟩
    | true =>
      go_enter Tryz.func118, Tryz.ntmps118
      go_wp2
      go_ret
      exact ⟨rfl, rfl⟩
theorem canonB_lt {x : Nat} (h : x < 2 ^ 64) : canonB x < 2 ^ 64 := by
  unfold canonB nanB
  split <;> (try split) <;> omega
theorem key_at (x : Nat) (hx : x < 2 ^ 64) (w : World) : Calls Tryz.prog 183 #[.float .f64 x] w fun e w' => e = .returned (.int .u64 (keyB x : Nat)) ∧ w' = w := by
  have Hc := Lib.hid (canon_at x w)
  have hc := canonB_lt hx
  have hK : keyB x = keyB x := rfl
  conv at hK => rhs; unfold keyB
  unfold fEq at hK
  generalize keyB x = K at *
  generalize canonB x = c at *
  have Hb := Lib.hid (call_bits c w)
  cases hcc : FloatKind.f64.format.order c c == some .eq with
  | false =>
    rw [hcc] at hK
    have HK := Lib.hid hK
    clear hK
    have hx' : (FloatKind.f64.format.order c c != some .eq) = true := by rw [bne, hcc]; rfl
    go_enter Tryz.func183, Tryz.ntmps183
    go_wp2_with fail
    refine Hc.out.mono ?_
    rintro e w1 ⟨rfl, rfl⟩
    go_wp2
    go_ret
    exact ⟨by rw [HK.out]; rfl, rfl⟩
  | true =>
    rw [hcc, if_pos rfl] at hK
    have HK := Lib.hid hK
    clear hK
    have hx' : (FloatKind.f64.format.order c c != some .eq) = false := by rw [bne, hcc]; rfl
    have hc0 : (c : Int) < 18446744073709551616 := by omega
    by_cases h63 : c < 2 ^ 63
    · have he : ((c : Int) / 9223372036854775808 == 1) = false := by rw [beq_eq_false_iff_ne]; omega
      have H0 := Lib.hid hc0
      clear hc0
      have H63 := Lib.hid h63
      have HC := Lib.hid hc
      clear h63 hc hx
      go_enter Tryz.func183, Tryz.ntmps183
      go_wp2_with fail
      refine Hc.out.mono ?_
      rintro e w1 ⟨rfl, rfl⟩
      have hb := Hb.out
      go_wp2
      go_ret
      rw [if_pos H63.out] at HK
      exact ⟨by rw [HK.out]; exact congrArg (fun z => Ending.returned (.int .u64 z)) (u64_or63 H63.out), rfl⟩
    · have he : ((c : Int) / 9223372036854775808 == 1) = true := by rw [beq_iff_eq]; omega
      have H0 := Lib.hid hc0
      clear hc0
      have H63 := Lib.hid h63
      have HC := Lib.hid hc
      clear h63 hc hx
      go_enter Tryz.func183, Tryz.ntmps183
      go_wp2_with fail
      refine Hc.out.mono ?_
      rintro e w1 ⟨rfl, rfl⟩
      have hb := Hb.out
      go_wp2
      go_ret
      rw [if_neg H63.out] at HK
      exact ⟨by rw [HK.out]; exact congrArg (fun z => Ending.returned (.int .u64 z)) (u64_not HC.out), rfl⟩
theorem unkeyB_lt {k : Nat} (h : k < 2 ^ 64) : unkeyB k < 2 ^ 64 := by unfold unkeyB; split <;> omega
theorem back_at (k : Nat) (hk : k < 2 ^ 64) (w : World) : Calls Tryz.prog 185 #[.int .u64 (k : Nat)] w fun e w' => e = .returned (.tuple #[.float .f64 (backB k).1, .bool (backB k).2]) ∧ w' = w := by
  obtain ⟨b, hb⟩ : ∃ b, unkeyB k = b := ⟨_, rfl⟩
  have hbl : b < 2 ^ 64 := hb ▸ unkeyB_lt hk
  have Hkey := Lib.hid (key_at b hbl w)
  have hfb := call_frombits (b : Int) w
  have Hn := Lib.hid (nan_at w)
  rw [show ((b : Int)).toNat = b by omega] at hfb
  have hcl : bits .andNot .u64 (k : Int) 9223372036854775808 = ((k % 2 ^ 63 : Nat) : Int) := u64_clear63 hk
  have hnt : bits .xor .u64 18446744073709551615 (k : Int) = ((2 ^ 64 - 1 - k : Nat) : Int) := u64_not hk
  obtain ⟨c1, hc1⟩ : ∃ c1, k % 2 ^ 63 = c1 := ⟨_, rfl⟩
  obtain ⟨c2, hc2⟩ : ∃ c2, 2 ^ 64 - 1 - k = c2 := ⟨_, rfl⟩
  rw [hc1] at hcl
  rw [hc2] at hnt
  obtain ⟨R, hR⟩ : ∃ R, backB k = R := ⟨_, rfl⟩
  rw [hR]
  unfold backB fEq at hR
  rw [hb] at hR
  have HR := Lib.hid hR
  clear hR
  have hbk : (k < 2 ^ 63 ∧ b = c2) ∨ (2 ^ 63 ≤ k ∧ b = c1) := by unfold unkeyB at hb; split at hb <;> omega
  have hk0 : ((k : Int) / 9223372036854775808 == 0) = decide (k < 2 ^ 63) := by
    rw [Bool.eq_iff_iff, beq_iff_eq, decide_eq_true_iff]; omega
  have hkm : ((k : Int) == 18446744073709551615) = decide (k = 2 ^ 64 - 1) := by
    rw [Bool.eq_iff_iff, beq_iff_eq, decide_eq_true_iff]; omega
  rcases hbk with ⟨h63, rfl⟩ | ⟨h63, rfl⟩
  · rw [decide_eq_true h63] at hk0
    rw [decide_eq_false (by omega)] at hkm
    have Hne : Hid (¬ k = 2 ^ 64 - 1) := Lib.hid (by omega)
    clear hk hbl h63 hc1 hc2 hb
    cases hbb : FloatKind.f64.format.order b b == some .eq with
    | false =>
      have hx' : (FloatKind.f64.format.order b b != some .eq) = true := by rw [bne, hbb]; rfl
      go_enter Tryz.func185, Tryz.ntmps185
      go_wp2
      go_ret2
      have h := HR.out
      rw [if_neg Hne.out, hbb, Bool.false_and, if_neg (by decide)] at h
      subst h
      exact ⟨rfl, rfl⟩
    | true =>
      have hx' : (FloatKind.f64.format.order b b != some .eq) = false := by rw [bne, hbb]; rfl
      cases hkk : keyB b == k with
      | false =>
        have hk1 : (((keyB b : Nat) : Int) != (k : Int)) = true := by rw [bne_iff_ne]; intro h; rw [beq_eq_false_iff_ne] at hkk; exact hkk (Int.ofNat_inj.1 h)
        have Hkk := Lib.hid hkk
        clear hkk
        go_enter Tryz.func185, Tryz.ntmps185
        go_wp2_with fail
        refine Hkey.out.mono ?_
        rintro e w1 ⟨rfl, rfl⟩
        go_wp2
        go_ret2
        have h := HR.out
        rw [if_neg Hne.out, hbb, Hkk.out, if_neg (by decide)] at h
        subst h
        exact ⟨rfl, rfl⟩
      | true =>
        have hk1 : (((keyB b : Nat) : Int) != (k : Int)) = false := by rw [beq_iff_eq] at hkk; rw [hkk]; simp
        have Hkk := Lib.hid hkk
        clear hkk
        go_enter Tryz.func185, Tryz.ntmps185
        go_wp2_with fail
        refine Hkey.out.mono ?_
        rintro e w1 ⟨rfl, rfl⟩
        go_wp2
        go_ret2
        have h := HR.out
        rw [if_neg Hne.out, hbb, Hkk.out, if_pos (by decide)] at h
        subst h
        exact ⟨rfl, rfl⟩
  · rw [decide_eq_false (by omega)] at hk0
    by_cases hm : k = 2 ^ 64 - 1
    · rw [decide_eq_true hm] at hkm
      have Hne := Lib.hid hm
      clear hk hbl h63 hc1 hc2 hb hm
      go_enter Tryz.func185, Tryz.ntmps185
      go_wp2_with fail
      refine Hn.out.mono ?_
      rintro e w1 ⟨rfl, rfl⟩
      go_wp2
      go_ret2
      have h := HR.out
      rw [if_pos Hne.out] at h
      subst h
      exact ⟨rfl, rfl⟩
    · rw [decide_eq_false hm] at hkm
      have Hne := Lib.hid hm
      clear hk hbl h63 hc1 hc2 hb hm
      cases hbb : FloatKind.f64.format.order b b == some .eq with
      | false =>
        have hx' : (FloatKind.f64.format.order b b != some .eq) = true := by rw [bne, hbb]; rfl
        go_enter Tryz.func185, Tryz.ntmps185
        go_wp2
        go_ret2
        have h := HR.out
        rw [if_neg Hne.out, hbb, Bool.false_and, if_neg (by decide)] at h
        subst h
        exact ⟨rfl, rfl⟩
      | true =>
        have hx' : (FloatKind.f64.format.order b b != some .eq) = false := by rw [bne, hbb]; rfl
        cases hkk : keyB b == k with
        | false =>
          have hk1 : (((keyB b : Nat) : Int) != (k : Int)) = true := by rw [bne_iff_ne]; intro h; rw [beq_eq_false_iff_ne] at hkk; exact hkk (Int.ofNat_inj.1 h)
          have Hkk := Lib.hid hkk
          clear hkk
          go_enter Tryz.func185, Tryz.ntmps185
          go_wp2_with fail
          refine Hkey.out.mono ?_
          rintro e w1 ⟨rfl, rfl⟩
          go_wp2
          go_ret2
          have h := HR.out
          rw [if_neg Hne.out, hbb, Hkk.out, if_neg (by decide)] at h
          subst h
          exact ⟨rfl, rfl⟩
        | true =>
          have hk1 : (((keyB b : Nat) : Int) != (k : Int)) = false := by rw [beq_iff_eq] at hkk; rw [hkk]; simp
          have Hkk := Lib.hid hkk
          clear hkk
          go_enter Tryz.func185, Tryz.ntmps185
          go_wp2_with fail
          refine Hkey.out.mono ?_
          rintro e w1 ⟨rfl, rfl⟩
          go_wp2
          go_ret2
          have h := HR.out
          rw [if_neg Hne.out, hbb, Hkk.out, if_pos (by decide)] at h
          subst h
          exact ⟨rfl, rfl⟩
end Go.Proofs.YtloplmaekonenaaGreatDoor
namespace Go.Proofs.YtloplmaekonenaaGreatDoor
set_option maxRecDepth 20000
open Go.RowKit
theorem heap_alloc2 (w : World) (A B : Obj) : ((w.alloc A).alloc B).heap[w.heap.size + 1]? = some B := by
  have h := heap_alloc_new (w.alloc A) B
  have e : (w.alloc A).heap.size = w.heap.size + 1 := by simp
  rwa [e] at h
@[go_sem] theorem run_store_float {P : Program} {w : World} {a : Addr} {m : Mode} (k : FloatKind) (b : Nat) : (store a (.float k b) m).run P w = stored P w a (.float k b) m := run_store P w a _ m rfl
section
variable {P : Program} {w : World}
theorem wp_store_row {o : Oper} {a : Act} {K : Act → World → Prop} {Q : Exit → Act → World → Prop} (ty : TypeId) (x y : Operand) (ho : o.op = .store ty x y) (g : Nat)
    (hx : a.eval x = .pointer (some ⟨g, 0, none⟩)) (cur : Array Value) (t : TypeId) (hg : w.heap[g]? = some (.cells cur t (0, 0))) (cs : List Value) (hy : a.eval y = .agg cs.toArray) (hl : cs.length = cur.size)
    (hi : (P.info? ty).map (·.size) = some cs.length) (h1 : ∀ u ∈ cs, u.oneCell' = true)
    (h : K (a.put o.dst undef) (w.setRow g cs.toArray)) : o.wp P a w K Q := by
  have hr := run_storeVar_row (P := P) (w := w) ty g cur t cs hg hl hi h1
  unfold Oper.wp execOp
  simp only [ho, hx, hy, Instr.storeAt, Instr.sureAddr, Sem.run_bind, Sem.run_pure, Result.andThen_ok, hr]
  exact h
theorem wpList_store_row {ops : Array Oper} {rest : List Oper} {o : Oper} {a : Act} {Q : Exit → Act → World → Prop} (hgd : o.guard = none) (ty : TypeId) (x y : Operand) (ho : o.op = .store ty x y) (g : Nat)
    (hx : a.eval x = .pointer (some ⟨g, 0, none⟩)) (cur : Array Value) (t : TypeId) (hg : w.heap[g]? = some (.cells cur t (0, 0))) (cs : List Value) (hy : a.eval y = .agg cs.toArray) (n : Nat) (hl : cs.length = n) (hl' : cur.size = n)
    (hi : (P.info? ty).map (·.size) = some n) (h1 : cs.all (·.oneCell') = true)
    (h : ∀ w', w'.heap[g]? = some (.cells cs.toArray t (0, 0)) → Mod (fun k => k = g) w w' → wpList P ops Q rest (a.put o.dst undef) w') : wpList P ops Q (o :: rest) a w := by
  refine wpList_plain hgd fun _ hK => wp_store_row ty x y ho g hx cur t hg cs hy (hl.trans hl'.symm) (by rw [hi, hl]) (fun u hu => List.all_eq_true.1 h1 u hu) (hK _ _ (h _ (setRow_heap w g cur cs.toArray t (0, 0) hg) ?_))
  exact (Mod.refl (fun k => k = g) w).setRow (fun _ => rfl) _
theorem results_cell1 {fn : Func} {p : Tmp} {ty : TypeId} (h : fn.results = #[.cell p ty]) (tmps : Array Value) : (results fn tmps).run P w = ((asAddr (tmps.getD p undef)).run P w).andThen fun a w₁ => (loadVar ty a).run P w₁ := by
  simp only [results, h]
  simp [Sem.run_bind, Result.andThen]
theorem bodyPost_cell {fn : Func} {R : Ending → World → Prop} {a : Act} {p : Tmp} {ty : TypeId} (h : fn.results = #[.cell p ty]) (g : Nat) (hp : a.tmps.getD p undef = .pointer (some ⟨g, 0, none⟩)) (cs : List Value) (hc : CellsAt w g 0 cs)
    (hu : (match P.underlying ty with | some (.struct _) => true | some (.array _ _) => true | _ => false) = true) (hi : (P.info? ty).map (·.size) = some cs.length) (hd : a.defers = []) (hR : R (.returned (.agg cs.toArray)) w) : bodyPost P fn R .ret a w := by
  refine bodyPost_ret (v := .agg cs.toArray) ?_ hd hR
  rw [results_cell1 h, hp]
  simp only [asAddr, Sem.run_pure, Result.andThen_ok]
  exact run_loadVar_cells ty g 0 cs hc hu hi
end
end Go.Proofs.YtloplmaekonenaaGreatDoor
namespace Go.Proofs.YtloplmaekonenaaGreatDoor
set_option maxRecDepth 20000
open Go.RowKit
structure V where
  kind : Int
  int : Int
  num : Nat
  text : ByteArray
  yes : Bool
def V.cells (v : V) : List Value := [.int .i64 v.kind, .int .i64 v.int, .float .f64 v.num, .string v.text, .bool v.yes]
def V.zero : V := ⟨0, 0, 0, ⟨#[]⟩, false⟩
def V.right (v : V) : Bool := decide (0 ≤ v.kind) && (decide (v.kind ≤ 3) && decide (v.text.size ≤ 40))
def V.canon (v : V) : V :=
  if v.kind = 0 then { V.zero with kind := 0, int := v.int } else if v.kind = 1 then { V.zero with kind := 1, num := canonB v.num } else
  if v.kind = 2 then { V.zero with kind := 2, text := v.text } else if v.kind = 3 then { V.zero with kind := 3, yes := v.yes } else V.zero
def V.void (v : V) : Bool := v.kind == 1 && !fEq v.num v.num
theorem value_right (v : V) (w : World) : Calls Tryz.prog 80 #[.agg v.cells.toArray] w fun e w' => e = .returned (.bool v.right) ∧ Mod (fun _ => False) w w' := by
  obtain ⟨kind, int, num, text, yes⟩ := v
  unfold V.right V.cells
  by_cases h0 : 0 ≤ kind
  · by_cases h3 : kind ≤ 3
    · by_cases ht : text.size ≤ 40
      · have ht' : (text.size : Int) ≤ 40 := by omega
        rw [decide_eq_true h0, decide_eq_true h3, decide_eq_true ht]
        go_enter Tryz.func80, Tryz.ntmps80
        go_wp2
        go_ret
        exact ⟨rfl, (Mod.refl _ w).alloc _⟩
      · have ht' : (40 : Int) < text.size := by omega
        rw [decide_eq_true h0, decide_eq_true h3, decide_eq_false ht]
        go_enter Tryz.func80, Tryz.ntmps80
        go_wp2
        go_ret
        exact ⟨congrArg (fun b => Ending.returned (.bool b)) (decide_eq_false (by omega)), (Mod.refl _ w).alloc _⟩
    · have h3' : 3 < kind := by omega
      rw [decide_eq_true h0, decide_eq_false h3]
      go_enter Tryz.func80, Tryz.ntmps80
      go_wp2
      go_ret
      exact ⟨rfl, (Mod.refl _ w).alloc _⟩
  · have h0' : kind < 0 := by omega
    rw [decide_eq_false h0]
    go_enter Tryz.func80, Tryz.ntmps80
    go_wp2
    go_ret
    exact ⟨rfl, (Mod.refl _ w).alloc _⟩
theorem value_void (v : V) (w : World) : Calls Tryz.prog 123 #[.agg v.cells.toArray] w fun e w' => e = .returned (.bool v.void) ∧ Mod (fun _ => False) w w' := by
  obtain ⟨kind, int, num, text, yes⟩ := v
  unfold V.void V.cells
  have Hn := Lib.hid fun w => none_at num w
  by_cases h1 : kind = 1
  · have h1b : (kind == 1) = true := by rw [h1]; rfl
    rw [h1b]
    subst h1
    go_enter Tryz.func123, Tryz.ntmps123
    go_wp2_with fail
    refine (Hn.out _).mono ?_
    rintro e w1 ⟨rfl, rfl⟩
    go_wp2
    go_ret
    exact ⟨rfl, (Mod.refl _ w).alloc _⟩
  · have h1b : (kind == 1) = false := by rw [beq_eq_false_iff_ne]; exact h1
    rw [h1b]
    go_enter Tryz.func123, Tryz.ntmps123
    go_wp2
    go_ret
    exact ⟨rfl, (Mod.refl _ w).alloc _⟩
theorem value_canon (v : V) (w : World) : Calls Tryz.prog 77 #[.agg v.cells.toArray] w fun e w' => e = .returned (.agg v.canon.cells.toArray) ∧ Mod (fun _ => False) w w' := by
  obtain ⟨kind, int, num, text, yes⟩ := v
  have Hc := Lib.hid fun w => canon_at num w
  have hm0 : ∀ (A B : Obj) (w' : World), Mod (fun k => k = w.heap.size + 1) ((w.alloc A).alloc B) w' → Mod (fun _ => False) w w' := fun A B w' h =>
    (((Mod.refl (fun _ => False) w).alloc A).alloc B).trans h (fun b hb h => by omega)
  have Hm0 := Lib.hid hm0
  clear hm0
  by_cases h0 : kind = 0
  · have hv : (V.canon ⟨kind, int, num, text, yes⟩).cells = [.int .i64 0, .int .i64 int, .float .f64 0, .string ⟨#[]⟩, .bool false] := by unfold V.canon; rw [if_pos h0]; rfl
    rw [hv]
    unfold V.cells
    subst h0
    clear hv
    go_enter Tryz.func77, Tryz.ntmps77
    go_wp2_with (refine wpList_store_row rfl 79 (.tmp 2) (.tmp 9) rfl (w.heap.size + 1) rfl _ 79 (heap_alloc2 w _ _) [.int .i64 0, .int .i64 int, .float .f64 0, .string ⟨#[]⟩, .bool false] rfl 5 rfl rfl (by kernel_rfl) rfl ?_; intro w2 h2 hm2; have H2 := Lib.hid h2; have Hm2 := Lib.hid hm2; clear h2 hm2)
    exact bodyPost_cell rfl (w.heap.size + 1) rfl _ (CellsAt.row H2.out) (by kernel_rfl) (by kernel_rfl) rfl ⟨rfl, Hm0.out _ _ _ Hm2.out⟩
  by_cases h1 : kind = 1
  · have hv : (V.canon ⟨kind, int, num, text, yes⟩).cells = [.int .i64 1, .int .i64 0, .float .f64 (canonB num), .string ⟨#[]⟩, .bool false] := by unfold V.canon; rw [if_neg h0, if_pos h1]; rfl
    rw [hv]
    unfold V.cells
    subst h1
    clear hv h0
    go_enter Tryz.func77, Tryz.ntmps77
    go_wp2_with fail
    refine (Hc.out _).mono ?_
    rintro e w1 ⟨rfl, rfl⟩
    go_wp2_with (refine wpList_store_row rfl 79 (.tmp 2) (.tmp 15) rfl (w.heap.size + 1) rfl _ 79 (heap_alloc2 w _ _) [.int .i64 1, .int .i64 0, .float .f64 (canonB num), .string ⟨#[]⟩, .bool false] rfl 5 rfl rfl (by kernel_rfl) rfl ?_; intro w2 h2 hm2; have H2 := Lib.hid h2; have Hm2 := Lib.hid hm2; clear h2 hm2)
    exact bodyPost_cell rfl (w.heap.size + 1) rfl _ (CellsAt.row H2.out) (by kernel_rfl) (by kernel_rfl) rfl ⟨rfl, Hm0.out _ _ _ Hm2.out⟩
  by_cases h2 : kind = 2
  · have hv : (V.canon ⟨kind, int, num, text, yes⟩).cells = [.int .i64 2, .int .i64 0, .float .f64 0, .string text, .bool false] := by unfold V.canon; rw [if_neg h0, if_neg h1, if_pos h2]; rfl
    rw [hv]
    unfold V.cells
    subst h2
    clear hv h0 h1
    go_enter Tryz.func77, Tryz.ntmps77
    go_wp2_with (refine wpList_store_row rfl 79 (.tmp 2) (.tmp 20) rfl (w.heap.size + 1) rfl _ 79 (heap_alloc2 w _ _) [.int .i64 2, .int .i64 0, .float .f64 0, .string text, .bool false] rfl 5 rfl rfl (by kernel_rfl) rfl ?_; intro w2 h2 hm2; have H2 := Lib.hid h2; have Hm2 := Lib.hid hm2; clear h2 hm2)
    exact bodyPost_cell rfl (w.heap.size + 1) rfl _ (CellsAt.row H2.out) (by kernel_rfl) (by kernel_rfl) rfl ⟨rfl, Hm0.out _ _ _ Hm2.out⟩
  by_cases h3 : kind = 3
  · have hv : (V.canon ⟨kind, int, num, text, yes⟩).cells = [.int .i64 3, .int .i64 0, .float .f64 0, .string ⟨#[]⟩, .bool yes] := by unfold V.canon; rw [if_neg h0, if_neg h1, if_neg h2, if_pos h3]; rfl
    rw [hv]
    unfold V.cells
    subst h3
    clear hv h0 h1 h2
    go_enter Tryz.func77, Tryz.ntmps77
    go_wp2_with (refine wpList_store_row rfl 79 (.tmp 2) (.tmp 25) rfl (w.heap.size + 1) rfl _ 79 (heap_alloc2 w _ _) [.int .i64 3, .int .i64 0, .float .f64 0, .string ⟨#[]⟩, .bool yes] rfl 5 rfl rfl (by kernel_rfl) rfl ?_; intro w2 h2 hm2; have H2 := Lib.hid h2; have Hm2 := Lib.hid hm2; clear h2 hm2)
    exact bodyPost_cell rfl (w.heap.size + 1) rfl _ (CellsAt.row H2.out) (by kernel_rfl) (by kernel_rfl) rfl ⟨rfl, Hm0.out _ _ _ Hm2.out⟩
  have hv : (V.canon ⟨kind, int, num, text, yes⟩).cells = [.int .i64 0, .int .i64 0, .float .f64 0, .string ⟨#[]⟩, .bool false] := by unfold V.canon; rw [if_neg h0, if_neg h1, if_neg h2, if_neg h3]; rfl
  rw [hv]
  unfold V.cells
  clear hv
  go_enter Tryz.func77, Tryz.ntmps77
  go_wp2_with (refine wpList_store_row rfl 79 (.tmp 2) (.tmp 26) rfl (w.heap.size + 1) rfl _ 79 (heap_alloc2 w _ _) [.int .i64 0, .int .i64 0, .float .f64 0, .string ⟨#[]⟩, .bool false] rfl 5 rfl rfl (by kernel_rfl) rfl ?_; intro w2 h2 hm2; have H2 := Lib.hid h2; have Hm2 := Lib.hid hm2; clear h2 hm2)
  exact bodyPost_cell rfl (w.heap.size + 1) rfl _ (CellsAt.row H2.out) (by kernel_rfl) (by kernel_rfl) rfl ⟨rfl, Hm0.out _ _ _ Hm2.out⟩
end Go.Proofs.YtloplmaekonenaaGreatDoor
