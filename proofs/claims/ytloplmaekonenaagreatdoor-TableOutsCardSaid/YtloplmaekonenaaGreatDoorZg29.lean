/-
  slices.DeleteFunc at the index's places.
  Package index: Remove.
  Package index: Match.
  The document's answer for conditions: void, texts, Compare, begins, Holds, Void, Implies.
-/
import Derived.Test.YtloplmaekonenaaGreatDoorZg25
import Derived.Test.YtloplmaekonenaaGreatDoorZg10
import Derived.Test.YtloplmaekonenaaGreatDoorZg20
import Derived.Test.YtloplmaekonenaaGreatDoorZg19
import Derived.Test.YtloplmaekonenaaGreatDoorZg18
import Derived.Test.YtloplmaekonenaaGreatDoorZg14
namespace Go.Proofs.YtloplmaekonenaaGreatDoor
set_option maxRecDepth 20000
open Go.RowKit

/-- The cells of a list of things, by place. -/
theorem flat_at {α : Type} {f : α → List Value} {sz : Nat} (hf : ∀ a, (f a).length = sz) (l : List α) {k j : Nat} {a : α} {u : Value} (h : l[k]? = some a) (hj : (f a)[j]? = some u) : (l.flatMap f)[k * sz + j]? = some u := by
  induction l generalizing k with
  | nil => simp at h
  | cons b l ih =>
    rw [List.flatMap_cons]
    have hl := (List.getElem?_eq_some_iff.1 hj).1
    cases k with
    | zero =>
      simp only [List.getElem?_cons_zero, Option.some.injEq] at h
      subst h
      rw [List.getElem?_append_left (by omega), Nat.zero_mul, Nat.zero_add, hj]
    | succ k =>
      rw [List.getElem?_cons_succ] at h
      rw [List.getElem?_append_right (by rw [hf, Nat.add_mul]; omega), hf, show (k + 1) * sz + j - sz = k * sz + j by rw [Nat.add_mul]; omega]
      exact ih h
theorem rd_el {α : Type} {f : α → List Value} {sz : Nat} (hf : ∀ a, (f a).length = sz) {w : World} {a : Option Addr} {cap : Nat} {l : List α} {j : Nat} {x : α} (h : RdSl w sz (.slice a l.length cap) l.length (l.flatMap f)) (hx : l[j]? = some x) : ∃ g off, a = some ⟨g, off, none⟩ ∧ CellsAt w g (off + j * sz) (f x) := by
  obtain ⟨-, a', c', h1, -, h3, h4⟩ := h
  cases h1
  cases a with
  | none => have := (List.getElem?_eq_some_iff.1 hx).1; exact absurd (h3 rfl) (by omega)
  | some b =>
    obtain ⟨g', off', h5, h6⟩ := h4 _ rfl (by have := (List.getElem?_eq_some_iff.1 hx).1; omega)
    refine ⟨g', off', by rw [h5], fun i u hu => ?_⟩
    have := h6 (j * sz + i) u (flat_at hf _ hx hu)
    rw [Nat.add_assoc]
    exact this
theorem pl_struct : (match Tryz.prog.underlying 85 with | some (.struct _) => true | some (.array _ _) => true | _ => false) = true := by kernel_rfl
theorem pl_size : (Tryz.prog.info? 85).map (·.size) = some 8 := by kernel_rfl
theorem run_load_pl {ρ : Operand → Value} {dst : Option Tmp} {x : Operand} {type : TypeId} {pos : String} {after : Array Edge} {guard : Option (Nat × Bool)} {w : World} (h : AllV w (ρ x) 8) :
    Sem.run Tryz.prog (execOp ρ ⟨dst, .load 85 x, type, pos, after, guard⟩) w = .ok (.value (.agg (cellsV w (ρ x) 8))) w := run_load_all pl_struct pl_size h

attribute [local go_sem ↓] run_load_pl
end Go.Proofs.YtloplmaekonenaaGreatDoor

namespace Go.Proofs.YtloplmaekonenaaGreatDoor
set_option maxRecDepth 20000
open Go.RowKit

/-- Without a number. -/
def idxD (I : List (Int × Fil)) (id : Int) : List (Int × Fil) := I.filter fun p => !(p.1 == id)
theorem idxF_del (I : List (Int × Fil)) (id x : Int) : idxF (idxD I id) x = if x = id then none else idxF I x := by
  unfold idxF idxD
  induction I with
  | nil => simp
  | cons p I ih =>
    rw [List.filter_cons, List.find?_cons]
    by_cases hp : p.1 = id
    · have h1 : (!(p.1 == id)) = false := by rw [hp]; simp
      rw [h1, if_neg (by decide), ih]
      by_cases hx : x = id
      · rw [if_pos hx, if_pos hx]
      · have h2 : (p.1 == x) = false := by rw [beq_eq_false_iff_ne]; exact fun e => hx (e ▸ hp)
        rw [if_neg hx, if_neg hx, h2]
    · have h1 : (!(p.1 == id)) = true := by simp [hp]
      rw [h1, if_pos rfl, List.find?_cons]
      cases h3 : p.1 == x with
      | true =>
        rw [beq_iff_eq] at h3
        rw [if_neg (fun e => hp (h3.trans e))]
      | false => exact ih
theorem FMap.del {w w4 : World} {m1 : Nat} {own C : Nat → Prop} {I : List (Int × Fil)} {f : Lit → Option Value} {id : Int} (h2 : ∀ id : Int, FilIs w own C (f (.int .i64 id)) (idxF I id)) (h6 : MapR w4 3 m1 (idxD I id).length (delF f (.int .i64 id))) (hm : Mod (fun k => k = m1) w w4) (hm1 : own m1) : FMap w4 m1 own C (idxD I id) := by
  refine ⟨_, h6, fun x => ?_⟩
  rw [idxF_del]
  unfold delF
  by_cases e : x = id
  · rw [if_pos e, if_pos (by rw [e])]; trivial
  · rw [if_neg e, if_neg (fun h => e (Lit.int.inj h).2)]
    exact (h2 x).mod hm (fun k _ e => e ▸ hm1)
/-- What Remove reads first. -/
def RemS (b m1 cb n : Nat) (id : Int) (f : Lit → Option Value) (r : Value) (y : World) : Prop :=
  y.cell? ⟨b, 0, none⟩ = some (.map (some m1)) ∧ y.cell? ⟨cb, 0, none⟩ = some (.int .i64 id) ∧ MapR y 3 m1 n f ∧ (Instr.lookup 26 (.map (some m1)) (.int .i64 id) true).run Tryz.prog y = .ok r y
theorem RemS.mod {b m1 cb n : Nat} {id : Int} {f : Lit → Option Value} {r : Value} {y z : World} {F : Nat → Prop} (h : RemS b m1 cb n id f r y) (hid : (Lit.int .i64 id).wf = true) (hr : r = .tuple #[(f (.int .i64 id)).getD (.agg #[.string ⟨#[]⟩, .slice none 0 0]), .bool (f (.int .i64 id)).isSome])
    (hm : Mod F y z) (h1 : ¬ F b) (h2 : ¬ F cb) (h3 : ¬ F m1) : RemS b m1 cb n id f r z := by
  refine ⟨hm.cell h.1 h1, hm.cell h.2.1 h2, h.2.2.1.mod hm h3, ?_⟩
  rw [hr]
  exact (h.2.2.1.mod hm h3).look_ok keyed_i Tryz.underlying26 (zero_fil z) (Maps.keyOf_int_mk Tryz.underlying3 hid)

attribute [local go_sem ↓] run_load_cd
end Go.Proofs.YtloplmaekonenaaGreatDoor

namespace Go.Proofs.YtloplmaekonenaaGreatDoor
set_option maxRecDepth 20000
open Go.RowKit

/-- The map of counts. -/
def CntR (w : World) (mc K : Nat) (g : Int → Nat) : Prop := ∃ n f, MapR w 3 mc n f ∧ n ≤ K ∧ (∀ id : Int, (f (.int .i64 id)).getD (.int .i64 0) = .int .i64 (g id)) ∧ ∀ id, g id ≤ K
theorem CntR.mod {w w' : World} {mc K : Nat} {g : Int → Nat} {F : Nat → Prop} (h : CntR w mc K g) (hm : Mod F w w') (hF : ¬ F mc) : CntR w' mc K g := by
  obtain ⟨n, f, h1, h2⟩ := h
  exact ⟨n, f, h1.mod hm hF, h2⟩
theorem CntR.cong {w : World} {mc K K' : Nat} {g g' : Int → Nat} (h : CntR w mc K g) (hK : K ≤ K') (hg : ∀ id, g' id = g id) : CntR w mc K' g' := by
  obtain ⟨n, f, h1, h2, h3, h4⟩ := h
  exact ⟨n, f, h1, Nat.le_trans h2 hK, fun id => by rw [hg]; exact h3 id, fun id => by rw [hg]; exact Nat.le_trans (h4 id) hK⟩
theorem CellsAt.part {w : World} {g off : Nat} {l m : List Value} (h : CellsAt w g off (l ++ m)) {n : Nat} (hn : l.length = n) : CellsAt w g (off + n) m := fun j u hu => by
  have := h (n + j) u (by rw [List.getElem?_append_right (by omega), ← hn, Nat.add_sub_cancel_left]; exact hu)
  rwa [← Nat.add_assoc] at this
attribute [local go_sem ↓] run_load_cd
end Go.Proofs.YtloplmaekonenaaGreatDoor

namespace Go.Proofs.YtloplmaekonenaaGreatDoor
set_option maxRecDepth 20000
open Go.RowKit

theorem rvoid_at (v : V) (w : World) : Calls Tryz.prog 100 #[.agg v.cells.toArray] w fun e w' => e = .returned (.bool v.void) ∧ Mod (fun _ => False) w w' := by
  obtain ⟨kind, int, num, text, yes⟩ := v
  unfold V.void V.cells
  have h1 := float_neq 77 num num
  cases hk : kind == 1 with
  | true =>
    go_enter Tryz.func100, Tryz.ntmps100
    go_wp2
    go_ret
    exact ⟨rfl, (Mod.refl _ w).alloc _⟩
  | false =>
    go_enter Tryz.func100, Tryz.ntmps100
    go_wp2
    go_ret
    exact ⟨rfl, (Mod.refl _ w).alloc _⟩

theorem cmp_drop : ∀ (k : Nat) (a b : List UInt8), a.take k = b.take k → Lib.compareBytes a b = Lib.compareBytes (a.drop k) (b.drop k)
  | 0, _, _, _ => rfl
  | k + 1, [], [], _ => rfl
  | k + 1, [], b :: t, h => by simp at h
  | k + 1, a :: s, [], h => by simp at h
  | k + 1, a :: s, b :: t, h => by
    simp only [List.take_succ_cons, List.cons.injEq] at h
    obtain ⟨rfl, h⟩ := h
    have hlt : ¬ a < a := by
      show ¬ a.toNat < a.toNat
      omega
    rw [cmp_cons, if_neg hlt, if_neg hlt, cmp_drop k s t h, List.drop_succ_cons, List.drop_succ_cons]
theorem cmp_here {a b : List UInt8} {k : Nat} {x y : UInt8} (h : a.take k = b.take k) (hx : a[k]? = some x) (hy : b[k]? = some y) (hne : x ≠ y) : Lib.compareBytes a b = if x < y then -1 else 1 := by
  rw [cmp_drop k a b h]
  obtain ⟨h1, rfl⟩ := List.getElem?_eq_some_iff.1 hx
  obtain ⟨h2, rfl⟩ := List.getElem?_eq_some_iff.1 hy
  rw [List.drop_eq_getElem_cons h1, List.drop_eq_getElem_cons h2, cmp_cons]
  by_cases hl : a[k] < b[k]
  · rw [if_pos hl, if_pos hl]
  · rw [if_neg hl, if_neg hl, if_pos]
    have hn : ¬ a[k].toNat < b[k].toNat := hl
    have hd : a[k].toNat ≠ b[k].toNat := fun h => hne (UInt8.toNat.inj h)
    show b[k].toNat < a[k].toNat
    omega
theorem cmp_end {a b : List UInt8} {k : Nat} (h : a.take k = b.take k) (hk : a.length ≤ k ∨ b.length ≤ k) : Lib.compareBytes a b = if a.length < b.length then -1 else if b.length < a.length then 1 else 0 := by
  rw [cmp_drop k a b h]
  have hl := congrArg List.length h
  rw [List.length_take, List.length_take] at hl
  cases hA : a.drop k with
  | nil =>
    have hA' : a.length ≤ k := by simpa using hA
    cases hB : b.drop k with
    | nil =>
      have hB' : b.length ≤ k := by simpa using hB
      rw [if_neg (by omega), if_neg (by omega)]
      rfl
    | cons y t =>
      have hB' : ¬ b.length ≤ k := fun h => by rw [List.drop_eq_nil_of_le h] at hB; cases hB
      rw [if_pos (by omega)]
      rfl
  | cons x s =>
    have hA' : ¬ a.length ≤ k := fun h => by rw [List.drop_eq_nil_of_le h] at hA; cases hA
    have hB' : b.length ≤ k := by omega
    rw [List.drop_eq_nil_of_le hB', if_neg (by omega), if_pos (by omega)]
    rfl

set_option maxHeartbeats 2000000 in
theorem rtexts_at (a b : ByteArray) (ha : a.size ≤ 9223372036854775807) (hb : b.size ≤ 9223372036854775807) (w : World) :
    Calls Tryz.prog 130 #[.string a, .string b] w fun e w' => e = .returned (.int .i64 (Lib.compareBytes a.data.toList b.data.toList)) ∧ Mod (fun _ => False) w w' := by
  obtain ⟨R, hR⟩ : ∃ R, Lib.compareBytes a.data.toList b.data.toList = R := ⟨_, rfl⟩
  rw [hR]
  have ha' : (a.size : Int) ≤ 9223372036854775807 := by omega
  have hb' : (b.size : Int) ≤ 9223372036854775807 := by omega
  have HR := Lib.hid hR
  clear hR
  go_enter Tryz.func130, Tryz.ntmps130
  go_wp2_with fail
  go_loopw [5] (fun i wr => ∃ k : Nat, i = .int .i64 k ∧ k ≤ a.size ∧ k ≤ b.size ∧ a.data.toList.take k = b.data.toList.take k ∧ Mod (fun _ => False) w wr) (fun i _ => a.size - (intOf i).toNat)
  case atStart => exact ⟨0, rfl, Nat.zero_le _, Nat.zero_le _, rfl, Mod.refl _ _⟩
  case round =>
    obtain ⟨k, rfl, hka, hkb, htk, hmr⟩ := hrel
    have Htk := Lib.hid htk
    have Hmr := Lib.hid hmr
    clear htk hmr
    by_cases hla : k < a.size
    · have hla' : (k : Int) < a.size := by omega
      by_cases hlb : k < b.size
      · have hlb' : (k : Int) < b.size := by omega
        have hx : a.data.toList[k]? = some a[k] := List.getElem?_eq_getElem hla
        have hy : b.data.toList[k]? = some b[k] := List.getElem?_eq_getElem hlb
        by_cases he : a[k] = b[k]
        · have he1 : ((a[k].toNat : Int) == (b[k].toNat : Int)) = true := by rw [he]; exact beq_self_eq_true _
          have he2 : (a[k].toNat == b[k].toNat) = true := by rw [he]; exact beq_self_eq_true _
          have htk2 : a.data.toList.take (k + 1) = b.data.toList.take (k + 1) := by rw [List.take_add_one, List.take_add_one, hx, hy, he, Htk.out]
          have Htk2 := Lib.hid htk2
          clear htk2 hx hy he
          go_wp2_with fail
          go_quiet (fail)
          go_wp2_with fail
          go_roundw
          case rel => exact ⟨k + 1, by go_num, hla, hlb, Htk2.out, Hmr.out.drewN _⟩
          case measure => simp [intOf]; omega
        · have he1 : ((a[k].toNat : Int) == (b[k].toNat : Int)) = false := by
            rw [beq_eq_false_iff_ne]
            intro h
            exact he (UInt8.toNat.inj (by omega))
          have he2 : (a[k].toNat == b[k].toNat) = false := by
            rw [beq_eq_false_iff_ne]
            intro h
            exact he (UInt8.toNat.inj h)
          have hc := cmp_here Htk.out hx hy he
          by_cases hl : a[k] < b[k]
          · have hc2 := HR.out.symm.trans (hc.trans (if_pos hl))
            have hl1 : (a[k].toNat : Int) < b[k].toNat := by have : a[k].toNat < b[k].toNat := hl; omega
            have Hc2 := Lib.hid hc2
            clear hc2 hc hx hy he hl
            go_wp2_with fail
            go_quiet (fail)
            go_wp2_with fail
            go_quiet (fail)
            go_wp2_with fail
            go_ret
            exact ⟨by rw [Hc2.out]; rfl, (Hmr.out.drewN _).drewN _⟩
          · have hc2 := HR.out.symm.trans (hc.trans (if_neg hl))
            have hl1 : (b[k].toNat : Int) ≤ a[k].toNat := by have : ¬ a[k].toNat < b[k].toNat := hl; omega
            have Hc2 := Lib.hid hc2
            clear hc2 hc hx hy he hl
            go_wp2_with fail
            go_quiet (fail)
            go_wp2_with fail
            go_quiet (fail)
            go_wp2_with fail
            go_ret
            exact ⟨by rw [Hc2.out]; rfl, (Hmr.out.drewN _).drewN _⟩
      · have hc := cmp_end Htk.out (.inr (by show b.size ≤ k; omega))
        have hlb' : (b.size : Int) ≤ k := by omega
        have hd1 : decide (a.size < b.size) = false := decide_eq_false (by omega)
        have hc2 : R = 1 := by rw [← HR.out, hc, if_neg (by show ¬ a.size < b.size; omega), if_pos (by show b.size < a.size; omega)]
        have hd3 : b.size < a.size := by omega
        have Hc2 := Lib.hid hc2
        clear hc2 hc
        go_wp2_with fail
        go_ret
        exact ⟨by rw [Hc2.out]; rfl, Hmr.out⟩
    · have hc := cmp_end Htk.out (.inl (by show a.size ≤ k; omega))
      have hla' : (a.size : Int) ≤ k := by omega
      by_cases hl : a.size < b.size
      · have hc2 : R = -1 := by rw [← HR.out, hc, if_pos (by show a.size < b.size; omega)]
        have Hc2 := Lib.hid hc2
        clear hc2 hc
        go_wp2_with fail
        go_ret
        exact ⟨by rw [Hc2.out]; rfl, Hmr.out⟩
      · have hc2 : R = 0 := by rw [← HR.out, hc, if_neg (by show ¬ a.size < b.size; omega), if_neg (by show ¬ b.size < a.size; omega)]
        have hd1 : decide (a.size < b.size) = false := decide_eq_false (by omega)
        have hd2 : decide (b.size < a.size) = false := decide_eq_false (by omega)
        have Hc2 := Lib.hid hc2
        clear hc2 hc hl
        go_wp2_with fail
        go_ret
        exact ⟨by rw [Hc2.out]; rfl, Hmr.out⟩

theorem rbegins_at (s p : ByteArray) (hs : s.size ≤ 9223372036854775807) (hp : p.size ≤ 9223372036854775807) (w : World) : Calls Tryz.prog 88 #[.string s, .string p] w fun e w' => e = .returned (.bool (prefB s p)) ∧ w' = w := by
  have hs' : (s.size : Int) ≤ 9223372036854775807 := by omega
  have hp' : (p.size : Int) ≤ 9223372036854775807 := by omega
  by_cases h : p.size ≤ s.size
  · have h' : (p.size : Int) ≤ s.size := by omega
    rw [← prefix_take]
    clear hs hp
    go_enter Tryz.func88, Tryz.ntmps88
    go_wp2
    go_ret
    exact ⟨rfl, rfl⟩
  · have h' : (s.size : Int) < p.size := by omega
    rw [prefix_short (by omega)]
    clear hs hp h
    go_enter Tryz.func88, Tryz.ntmps88
    go_wp2
    go_ret
    exact ⟨rfl, rfl⟩

set_option maxHeartbeats 4000000 in
theorem rcompare_at (a b : V) (ha : a.text.size ≤ 9223372036854775807) (hb : b.text.size ≤ 9223372036854775807) (w : World) : Calls Tryz.prog 87 #[.agg a.cells.toArray, .agg b.cells.toArray] w fun e w' =>
    e = .returned (.tuple #[.int .i64 (cmpV a b).1, .bool (cmpV a b).2]) ∧ Mod (fun _ => False) w w' := by
  obtain ⟨wa, hwa⟩ : ∃ wa : World, w.alloc (.cells a.cells.toArray 79) = wa := ⟨_, rfl⟩
  have hmwa : Mod (fun _ => False) w wa := hwa ▸ (Mod.refl (fun _ => False) w).alloc _
  have hgwa := heap_alloc_new w (.cells a.cells.toArray 79)
  rw [hwa] at hgwa
  have hzwa : wa.heap.size = w.heap.size + 1 := by rw [← hwa]; simp
  obtain ⟨wb, hwb⟩ : ∃ wb : World, wa.alloc (.cells b.cells.toArray 79) = wb := ⟨_, rfl⟩
  have hmwb : Mod (fun _ => False) wa wb := hwb ▸ (Mod.refl (fun _ => False) wa).alloc _
  have hgwb := heap_alloc_new wa (.cells b.cells.toArray 79)
  rw [hwb] at hgwb
  have hzwb : wb.heap.size = wa.heap.size + 1 := by rw [← hwb]; simp
  have hmb := hmwa.trans hmwb (fun _ _ h => h)
  have hgA := hmwb.heap hgwa (fun h => h)
  have c0 : wb.cell? ⟨w.heap.size, 0, none⟩ = some (.int .i64 a.kind) := cell_of hgA rfl
  have c1 : wb.cell? ⟨w.heap.size, 1, none⟩ = some (.int .i64 a.int) := cell_of hgA rfl
  have c2 : wb.cell? ⟨w.heap.size, 2, none⟩ = some (.float .f64 a.num) := cell_of hgA rfl
  have c3 : wb.cell? ⟨w.heap.size, 3, none⟩ = some (.string a.text) := cell_of hgA rfl
  have c4 : wb.cell? ⟨w.heap.size, 4, none⟩ = some (.bool a.yes) := cell_of hgA rfl
  have d0 : wb.cell? ⟨wa.heap.size, 0, none⟩ = some (.int .i64 b.kind) := cell_of hgwb rfl
  have d1 : wb.cell? ⟨wa.heap.size, 1, none⟩ = some (.int .i64 b.int) := cell_of hgwb rfl
  have d2 : wb.cell? ⟨wa.heap.size, 2, none⟩ = some (.float .f64 b.num) := cell_of hgwb rfl
  have d3 : wb.cell? ⟨wa.heap.size, 3, none⟩ = some (.string b.text) := cell_of hgwb rfl
  have d4 : wb.cell? ⟨wa.heap.size, 4, none⟩ = some (.bool b.yes) := cell_of hgwb rfl
  have hlz : w.heap.size < wa.heap.size := by omega
  have hva := rvoid_at a wb
  have hvb := rvoid_at b
  have htx := rtexts_at a.text b.text ha hb
  have Hwa := Lib.hid hwa
  have Hwb := Lib.hid hwb
  have Hmb := Lib.hid hmb
  have Hva := Lib.hid hva
  have Hvb := Lib.hid hvb
  have HgA := Lib.hid hgA
  have Hgwb := Lib.hid hgwb
  have Htx := Lib.hid htx
  clear hwa hwb hmb hva hvb hgA hgwb htx hmwa hmwb hgwa hzwa hzwb ha hb
  cases hk : a.kind == b.kind with
  | false =>
    have E := Lib.hid (show cmpV a b = (0, false) by unfold cmpV V.alike; rw [hk]; rfl)
    have hkn : (a.kind != b.kind) = true := by simp [bne, hk]
    go_enter Tryz.func87, Tryz.ntmps87
    go_wp2_with (first | (rw [show w.alloc _ = wa from Hwa.out]) | (rw [show wa.alloc _ = wb from Hwb.out]) | fail)
    go_ret2
    exact ⟨by rw [E.out]; rfl, Hmb.out⟩
  | true =>
  have hkn : (a.kind != b.kind) = false := by simp [bne, hk]
  go_enter Tryz.func87, Tryz.ntmps87
  go_wp2_with (first | (rw [show w.alloc _ = wa from Hwa.out]) | (rw [show wa.alloc _ = wb from Hwb.out]) | fail)
  refine Hva.out.mono ?_
  rintro e w2 ⟨rfl, hm2⟩
  have hA2 := hm2.heap HgA.out (fun h => h)
  have hB2 := hm2.heap Hgwb.out (fun h => h)
  have hm02 := Hmb.out.trans hm2 (fun _ _ h => h)
  have Hk := Lib.hid hk
  have HA2 := Lib.hid hA2
  have HB2 := Lib.hid hB2
  have Hm02 := Lib.hid hm02
  clear hA2 hB2 hm02 hm2 c0 c1 c2 c3 c4 d0 d1 d2 d3 d4 hk hkn Hva HgA Hgwb Hmb
  have c0 : w2.cell? ⟨w.heap.size, 0, none⟩ = some (.int .i64 a.kind) := cell_of HA2.out rfl
  have c1 : w2.cell? ⟨w.heap.size, 1, none⟩ = some (.int .i64 a.int) := cell_of HA2.out rfl
  have c2 : w2.cell? ⟨w.heap.size, 2, none⟩ = some (.float .f64 a.num) := cell_of HA2.out rfl
  have c3 : w2.cell? ⟨w.heap.size, 3, none⟩ = some (.string a.text) := cell_of HA2.out rfl
  have c4 : w2.cell? ⟨w.heap.size, 4, none⟩ = some (.bool a.yes) := cell_of HA2.out rfl
  have d0 : w2.cell? ⟨wa.heap.size, 0, none⟩ = some (.int .i64 b.kind) := cell_of HB2.out rfl
  have d1 : w2.cell? ⟨wa.heap.size, 1, none⟩ = some (.int .i64 b.int) := cell_of HB2.out rfl
  have d2 : w2.cell? ⟨wa.heap.size, 2, none⟩ = some (.float .f64 b.num) := cell_of HB2.out rfl
  have d3 : w2.cell? ⟨wa.heap.size, 3, none⟩ = some (.string b.text) := cell_of HB2.out rfl
  have d4 : w2.cell? ⟨wa.heap.size, 4, none⟩ = some (.bool b.yes) := cell_of HB2.out rfl
  obtain ⟨va, hva⟩ : ∃ x, a.void = x := ⟨_, rfl⟩
  obtain ⟨vb, hvb⟩ : ∃ x, b.void = x := ⟨_, rfl⟩
  rw [hva]
  have Hvb2 := Lib.hid (Hvb.out w2)
  rw [hvb] at Hvb2
  have Hva := Lib.hid hva
  clear hva Hvb
  have Hvb := Lib.hid hvb
  clear hvb
  cases va with
  | true =>
    have E := Lib.hid (show cmpV a b = (0, false) by unfold cmpV V.alike; rw [Hk.out, Hva.out]; rfl)
    go_wp2
    go_ret2
    exact ⟨by rw [E.out]; rfl, Hm02.out⟩
  | false =>
  go_wp2_with fail
  refine Hvb2.out.mono ?_
  rintro e w3 ⟨rfl, hm3⟩
  have hA3 := hm3.heap HA2.out (fun h => h)
  have hB3 := hm3.heap HB2.out (fun h => h)
  have hm03 := Hm02.out.trans hm3 (fun _ _ h => h)
  have HA3 := Lib.hid hA3
  have HB3 := Lib.hid hB3
  have Hm03 := Lib.hid hm03
  clear hA3 hB3 hm03 hm3 c0 c1 c2 c3 c4 d0 d1 d2 d3 d4 Hvb2 HA2 HB2 Hm02
  have c0 : w3.cell? ⟨w.heap.size, 0, none⟩ = some (.int .i64 a.kind) := cell_of HA3.out rfl
  have c1 : w3.cell? ⟨w.heap.size, 1, none⟩ = some (.int .i64 a.int) := cell_of HA3.out rfl
  have c2 : w3.cell? ⟨w.heap.size, 2, none⟩ = some (.float .f64 a.num) := cell_of HA3.out rfl
  have c3 : w3.cell? ⟨w.heap.size, 3, none⟩ = some (.string a.text) := cell_of HA3.out rfl
  have c4 : w3.cell? ⟨w.heap.size, 4, none⟩ = some (.bool a.yes) := cell_of HA3.out rfl
  have d0 : w3.cell? ⟨wa.heap.size, 0, none⟩ = some (.int .i64 b.kind) := cell_of HB3.out rfl
  have d1 : w3.cell? ⟨wa.heap.size, 1, none⟩ = some (.int .i64 b.int) := cell_of HB3.out rfl
  have d2 : w3.cell? ⟨wa.heap.size, 2, none⟩ = some (.float .f64 b.num) := cell_of HB3.out rfl
  have d3 : w3.cell? ⟨wa.heap.size, 3, none⟩ = some (.string b.text) := cell_of HB3.out rfl
  have d4 : w3.cell? ⟨wa.heap.size, 4, none⟩ = some (.bool b.yes) := cell_of HB3.out rfl
  cases vb with
  | true =>
    have E := Lib.hid (show cmpV a b = (0, false) by unfold cmpV V.alike; rw [Hk.out, Hva.out, Hvb.out]; rfl)
    go_wp2
    go_ret2
    exact ⟨by rw [E.out]; rfl, Hm03.out⟩
  | false =>
  have E := Lib.hid (show cmpV a b = (V.cmp a b, true) by unfold cmpV V.alike; rw [Hk.out, Hva.out, Hvb.out]; rfl)
  have ec : V.cmp a b = _ := rfl
  conv at ec => rhs; unfold V.cmp
  have Ec := Lib.hid ec
  clear ec Hva Hvb Hk
  cases h0 : a.kind == 0 with
  | true =>
    have E2 := Lib.hid (Ec.out.trans (if_pos (beq_iff_eq.1 h0)))
    go_wp2
    all_goals (go_ret2; exact ⟨by rw [E.out, E2.out]; first | (simp [sgn, *]; done) | (rw [show sgn (decide (a.int < b.int)) (decide (b.int < a.int)) = 0 from by unfold sgn; rw [decide_eq_false (by omega), decide_eq_false (by omega)]; rfl]; rfl) | (rw [show sgn (decide (a.int < b.int)) (decide (b.int < a.int)) = 1 from by unfold sgn; rw [decide_eq_false (by omega), decide_eq_true (by omega)]; rfl]; rfl), Hm03.out⟩)
  | false =>
  have h0' : ¬ a.kind = 0 := by simpa using h0
  have E0 := Lib.hid (Ec.out.trans (if_neg h0'))
  clear h0' Ec
  cases h1 : a.kind == 1 with
  | true =>
    have E2 := Lib.hid (E0.out.trans (if_pos (beq_iff_eq.1 h1)))
    obtain ⟨l1, hl1⟩ : ∃ x, fLt a.num b.num = x := ⟨_, rfl⟩
    obtain ⟨l2, hl2⟩ : ∃ x, fLt b.num a.num = x := ⟨_, rfl⟩
    have h3 : (FloatKind.f64.format.order a.num b.num == some Ordering.lt) = l1 := hl1
    have h4 : (FloatKind.f64.format.order a.num b.num == some Ordering.gt) = l2 := (gt_lt _ _).trans hl2
    rw [hl1] at E2
    rw [hl2] at E2
    clear hl1 hl2
    cases l1 <;> cases l2
    all_goals
      go_wp2
      go_ret2
      exact ⟨by rw [E.out, E2.out]; rfl, Hm03.out⟩
  | false =>
  have h1' : ¬ a.kind = 1 := by simpa using h1
  have E1 := Lib.hid (E0.out.trans (if_neg h1'))
  clear h1' E0
  cases h2 : a.kind == 2 with
  | true =>
    have E2 := Lib.hid (E1.out.trans (if_pos (beq_iff_eq.1 h2)))
    go_wp2_with fail
    refine (Htx.out w3).mono ?_
    rintro e w4 ⟨rfl, hm4⟩
    have Hm4 := Lib.hid (Hm03.out.trans hm4 (fun _ _ h => h))
    clear hm4
    go_wp2
    go_ret2
    exact ⟨by rw [E.out, E2.out]; rfl, Hm4.out⟩
  | false =>
    have h2' : ¬ a.kind = 2 := by simpa using h2
    have E2 := Lib.hid (E1.out.trans (if_neg h2'))
    clear h2' E1
    obtain ⟨ya, hya⟩ : ∃ x, a.yes = x := ⟨_, rfl⟩
    obtain ⟨yb, hyb⟩ : ∃ x, b.yes = x := ⟨_, rfl⟩
    rw [hya] at E2 c4
    rw [hyb] at E2 d4
    clear hya hyb
    cases ya <;> cases yb
    all_goals
      go_wp2
      go_ret2
      exact ⟨by rw [E.out, E2.out]; rfl, Hm03.out⟩

set_option maxHeartbeats 8000000 in
theorem rholds_at (c : Cnd) (v : V) (hc : c.v.text.size ≤ 9223372036854775807) (hv : v.text.size ≤ 9223372036854775807) (w : World) :
    Calls Tryz.prog 51 #[.agg c.cells.toArray, .agg v.cells.toArray] w fun e w' => e = .returned (.bool (c.holds v)) ∧ Mod (fun _ => False) w w' := by
  obtain ⟨wa, hwa⟩ : ∃ wa : World, w.alloc (.cells c.cells.toArray 81) = wa := ⟨_, rfl⟩
  have hmwa : Mod (fun _ => False) w wa := hwa ▸ (Mod.refl (fun _ => False) w).alloc _
  have hgwa := heap_alloc_new w (.cells c.cells.toArray 81)
  rw [hwa] at hgwa
  have hzwa : wa.heap.size = w.heap.size + 1 := by rw [← hwa]; simp
  obtain ⟨wb, hwb⟩ : ∃ wb : World, wa.alloc (.cells v.cells.toArray 79) = wb := ⟨_, rfl⟩
  have hmwb : Mod (fun _ => False) wa wb := hwb ▸ (Mod.refl (fun _ => False) wa).alloc _
  have hgwb := heap_alloc_new wa (.cells v.cells.toArray 79)
  rw [hwb] at hgwb
  have hzwb : wb.heap.size = wa.heap.size + 1 := by rw [← hwb]; simp
  have hmb := hmwa.trans hmwb (fun _ _ h => h)
  have hgA := hmwb.heap hgwa (fun h => h)
  have hcm := rcompare_at v c.v hv hc wb
  obtain ⟨R, hR⟩ : ∃ R, c.holds v = R := ⟨_, rfl⟩
  rw [hR]
  unfold Cnd.holds at hR
  obtain ⟨⟨n, ok⟩, hn⟩ : ∃ p, cmpV v c.v = p := ⟨_, rfl⟩
  rw [hn] at hcm hR
  simp only at hcm hR
  have hpf := fun wx => rbegins_at v.text c.v.text hv hc wx
  have hlz : w.heap.size < wa.heap.size := by omega
  have c0 : wb.cell? ⟨w.heap.size, 0, none⟩ = some (.string c.name) := cell_of hgA rfl
  have c1 : wb.cell? ⟨w.heap.size, 1, none⟩ = some (.int .i64 c.op) := cell_of hgA rfl
  have c2 : wb.cell? ⟨w.heap.size, 2, none⟩ = some (.int .i64 c.v.kind) := cell_of hgA rfl
  have c3 : wb.cell? ⟨w.heap.size, 3, none⟩ = some (.int .i64 c.v.int) := cell_of hgA rfl
  have c4 : wb.cell? ⟨w.heap.size, 4, none⟩ = some (.float .f64 c.v.num) := cell_of hgA rfl
  have c5 : wb.cell? ⟨w.heap.size, 5, none⟩ = some (.string c.v.text) := cell_of hgA rfl
  have c6 : wb.cell? ⟨w.heap.size, 6, none⟩ = some (.bool c.v.yes) := cell_of hgA rfl
  have d0 : wb.cell? ⟨wa.heap.size, 0, none⟩ = some (.int .i64 v.kind) := cell_of hgwb rfl
  have d1 : wb.cell? ⟨wa.heap.size, 1, none⟩ = some (.int .i64 v.int) := cell_of hgwb rfl
  have d2 : wb.cell? ⟨wa.heap.size, 2, none⟩ = some (.float .f64 v.num) := cell_of hgwb rfl
  have d3 : wb.cell? ⟨wa.heap.size, 3, none⟩ = some (.string v.text) := cell_of hgwb rfl
  have d4 : wb.cell? ⟨wa.heap.size, 4, none⟩ = some (.bool v.yes) := cell_of hgwb rfl
  have Hwa := Lib.hid hwa
  have Hwb := Lib.hid hwb
  have Hmb := Lib.hid hmb
  have HgA := Lib.hid hgA
  have Hgwb := Lib.hid hgwb
  have Hcm := Lib.hid hcm
  have HR := Lib.hid hR
  have Hn := Lib.hid hn
  have Hpf := Lib.hid hpf
  clear hwa hwb hmb hgA hgwb hcm hR hn hpf hmwa hmwb hgwa hzwa hzwb hc hv
  cases h7 : c.op == 7 with
  | true =>
    go_enter Tryz.func51, Tryz.ntmps51
    go_wp2_with (first | (rw [show w.alloc _ = wa from Hwa.out]) | (rw [show wa.alloc _ = wb from Hwb.out]) | fail)
    go_ret
    exact ⟨ret_bool (HR.out.symm.trans (by simp_all)), Hmb.out⟩
  | false =>
  go_enter Tryz.func51, Tryz.ntmps51
  go_wp2_with (first | (rw [show w.alloc _ = wa from Hwa.out]) | (rw [show wa.alloc _ = wb from Hwb.out]) | fail)
  refine Hcm.out.mono ?_
  rintro e w2 ⟨rfl, hm2⟩
  have hA2 := hm2.heap HgA.out (fun h => h)
  have hB2 := hm2.heap Hgwb.out (fun h => h)
  have hm02 := Hmb.out.trans hm2 (fun _ _ h => h)
  have hpf2 := Hpf.out w2
  have Hm02 := Lib.hid hm02
  have Hpf2 := Lib.hid hpf2
  clear hm02 hpf2 hm2 Hcm HgA Hgwb Hpf Hwa Hwb Hmb c0 c1 c2 c3 c4 c5 c6 d0 d1 d2 d3 d4
  have c0 : w2.cell? ⟨w.heap.size, 0, none⟩ = some (.string c.name) := cell_of hA2 rfl
  have c1 : w2.cell? ⟨w.heap.size, 1, none⟩ = some (.int .i64 c.op) := cell_of hA2 rfl
  have c2 : w2.cell? ⟨w.heap.size, 2, none⟩ = some (.int .i64 c.v.kind) := cell_of hA2 rfl
  have c3 : w2.cell? ⟨w.heap.size, 3, none⟩ = some (.int .i64 c.v.int) := cell_of hA2 rfl
  have c4 : w2.cell? ⟨w.heap.size, 4, none⟩ = some (.float .f64 c.v.num) := cell_of hA2 rfl
  have c5 : w2.cell? ⟨w.heap.size, 5, none⟩ = some (.string c.v.text) := cell_of hA2 rfl
  have c6 : w2.cell? ⟨w.heap.size, 6, none⟩ = some (.bool c.v.yes) := cell_of hA2 rfl
  have d0 : w2.cell? ⟨wa.heap.size, 0, none⟩ = some (.int .i64 v.kind) := cell_of hB2 rfl
  have d1 : w2.cell? ⟨wa.heap.size, 1, none⟩ = some (.int .i64 v.int) := cell_of hB2 rfl
  have d2 : w2.cell? ⟨wa.heap.size, 2, none⟩ = some (.float .f64 v.num) := cell_of hB2 rfl
  have d3 : w2.cell? ⟨wa.heap.size, 3, none⟩ = some (.string v.text) := cell_of hB2 rfl
  have d4 : w2.cell? ⟨wa.heap.size, 4, none⟩ = some (.bool v.yes) := cell_of hB2 rfl
  clear hA2 hB2
  cases ok with
  | false =>
    go_wp2
    all_goals (go_ret; refine ⟨ret_bool (HR.out.symm.trans (by (try simp only [beq_eq_false_iff_ne, ne_eq] at *); simp [*])), Hm02.out⟩)
  | true =>
    cases hvk : v.kind == 2 with
    | false =>
      go_wp2
      all_goals (go_ret; refine ⟨ret_bool (HR.out.symm.trans (by (try simp only [beq_iff_eq, beq_eq_false_iff_ne, ne_eq] at *); simp [*])), Hm02.out⟩)
    | true =>
      go_wp2_with (refine Hpf2.out.mono ?_; rintro e w3 ⟨rfl, rfl⟩)
      all_goals (go_ret; refine ⟨ret_bool (HR.out.symm.trans (by (try simp only [beq_iff_eq, beq_eq_false_iff_ne, ne_eq] at *); simp [*])), Hm02.out⟩)

set_option maxHeartbeats 2000000 in
theorem rcvoid_at (c : Cnd) (w : World) : Calls Tryz.prog 61 #[.agg c.cells.toArray] w fun e w' => e = .returned (.bool c.voidB) ∧ Mod (fun _ => False) w w' := by
  obtain ⟨wa, hwa⟩ : ∃ wa : World, w.alloc (.cells c.cells.toArray 81) = wa := ⟨_, rfl⟩
  have hmwa : Mod (fun _ => False) w wa := hwa ▸ (Mod.refl (fun _ => False) w).alloc _
  have hgwa := heap_alloc_new w (.cells c.cells.toArray 81)
  rw [hwa] at hgwa
  have hzwa : wa.heap.size = w.heap.size + 1 := by rw [← hwa]; simp
  have c0 : wa.cell? ⟨w.heap.size, 0, none⟩ = some (.string c.name) := cell_of hgwa rfl
  have c1 : wa.cell? ⟨w.heap.size, 1, none⟩ = some (.int .i64 c.op) := cell_of hgwa rfl
  have c2 : wa.cell? ⟨w.heap.size, 2, none⟩ = some (.int .i64 c.v.kind) := cell_of hgwa rfl
  have c3 : wa.cell? ⟨w.heap.size, 3, none⟩ = some (.int .i64 c.v.int) := cell_of hgwa rfl
  have c4 : wa.cell? ⟨w.heap.size, 4, none⟩ = some (.float .f64 c.v.num) := cell_of hgwa rfl
  have c5 : wa.cell? ⟨w.heap.size, 5, none⟩ = some (.string c.v.text) := cell_of hgwa rfl
  have c6 : wa.cell? ⟨w.heap.size, 6, none⟩ = some (.bool c.v.yes) := cell_of hgwa rfl
  have hvv := rvoid_at c.v wa
  obtain ⟨R, hR⟩ : ∃ R, c.voidB = R := ⟨_, rfl⟩
  rw [hR]
  unfold Cnd.voidB at hR
  obtain ⟨vd, hvd⟩ : ∃ b, c.v.void = b := ⟨_, rfl⟩
  rw [hvd] at hvv hR
  have Hwa := Lib.hid hwa
  have Hmwa := Lib.hid hmwa
  have Hgwa := Lib.hid hgwa
  have Hvv := Lib.hid hvv
  have HR := Lib.hid hR
  clear hwa hmwa hgwa hvv hR hvd hzwa
  cases h7 : c.op == 7 with
  | true =>
    have h7n : (c.op != 7) = false := by simp [bne, h7]
    have h6 : (c.op == 6) = false := by rw [beq_iff_eq] at h7; rw [h7]; rfl
    go_enter Tryz.func61, Tryz.ntmps61
    go_wp2_with (first | (rw [show w.alloc _ = wa from Hwa.out]) | fail)
    go_ret
    exact ⟨ret_bool (HR.out.symm.trans (by simp [*])), Hmwa.out⟩
  | false =>
    have h7n : (c.op != 7) = true := by simp [bne, h7]
    go_enter Tryz.func61, Tryz.ntmps61
    go_wp2_with (first | (rw [show w.alloc _ = wa from Hwa.out]) | fail)
    refine Hvv.out.mono ?_
    rintro e w2 ⟨rfl, hm2⟩
    have hg2 := hm2.heap Hgwa.out (fun h => h)
    have d1 : w2.cell? ⟨w.heap.size, 1, none⟩ = some (.int .i64 c.op) := cell_of hg2 rfl
    have d2 : w2.cell? ⟨w.heap.size, 2, none⟩ = some (.int .i64 c.v.kind) := cell_of hg2 rfl
    have Hm2 := Lib.hid (Hmwa.out.trans hm2 (fun _ _ h => h))
    clear hm2 hg2 c0 c1 c2 c3 c4 c5 c6
    cases vd with
    | true =>
      go_wp2
      go_ret
      exact ⟨ret_bool (HR.out.symm.trans (by simp [*])), Hm2.out⟩
    | false =>
      cases h6 : c.op == 6 with
      | true =>
        go_wp2
        go_ret
        exact ⟨ret_bool (HR.out.symm.trans (by simp [*])), Hm2.out⟩
      | false =>
        go_wp2
        go_ret
        exact ⟨ret_bool (HR.out.symm.trans (by simp [*])), Hm2.out⟩
end Go.Proofs.YtloplmaekonenaaGreatDoor
