/-
  slices.DeleteFunc at the index's places.
-/
import Derived.Test.YtloplmaekonenaaGreatDoorZb28
import Derived.Test.YtloplmaekonenaaGreatDoorZb14
import Derived.Test.YtloplmaekonenaaGreatDoorZb24
namespace Go.Proofs.YtloplmaekonenaaGreatDoor
set_option maxRecDepth 20000
open Go.RowKit

theorem pcell_length (p : Int × Cnd) : (pcell p).length = 8 := rfl
/-- The cells of a list of things, by place. -/
theorem flat_at {α : Type} {f : α → List Value} {sz : Nat} (hf : ∀ a, (f a).length = sz) (l : List α) {k j : Nat} {a : α} {u : Value} (h : l[k]? = some a) (hj : (f a)[j]? = some u) : (l.flatMap f)[k * sz + j]? = some u := by
  induction l generalizing k with
  | nil => simp at h
  | cons b l ih =>
    rw [List.flatMap_cons]
    have hl := (List.getElem?_eq_some_iff.1 hj).1
    cases k with
    | zero =>
      simp only [List.getElem?_cons_zero, Option.some.injEq] at h
      subst h
      rw [List.getElem?_append_left (by omega), Nat.zero_mul, Nat.zero_add, hj]
    | succ k =>
      rw [List.getElem?_cons_succ] at h
      rw [List.getElem?_append_right (by rw [hf, Nat.add_mul]; omega), hf, show (k + 1) * sz + j - sz = k * sz + j by rw [Nat.add_mul]; omega]
      exact ih h
theorem rd_el {α : Type} {f : α → List Value} {sz : Nat} (hf : ∀ a, (f a).length = sz) {w : World} {a : Option Addr} {cap : Nat} {l : List α} {j : Nat} {x : α} (h : RdSl w sz (.slice a l.length cap) l.length (l.flatMap f)) (hx : l[j]? = some x) : ∃ g off, a = some ⟨g, off, none⟩ ∧ CellsAt w g (off + j * sz) (f x) := by
  obtain ⟨-, a', c', h1, -, h3, h4⟩ := h
  cases h1
  cases a with
  | none => have := (List.getElem?_eq_some_iff.1 hx).1; exact absurd (h3 rfl) (by omega)
  | some b =>
    obtain ⟨g', off', h5, h6⟩ := h4 _ rfl (by have := (List.getElem?_eq_some_iff.1 hx).1; omega)
    refine ⟨g', off', by rw [h5], fun i u hu => ?_⟩
    have := h6 (j * sz + i) u (flat_at hf _ hx hu)
    rw [Nat.add_assoc]
    exact this
theorem pl_struct : (match Tryz.prog.underlying 85 with | some (.struct _) => true | some (.array _ _) => true | _ => false) = true := by kernel_rfl
theorem pl_size : (Tryz.prog.info? 85).map (·.size) = some 8 := by kernel_rfl
theorem run_load_pl {ρ : Operand → Value} {dst : Option Tmp} {x : Operand} {type : TypeId} {pos : String} {after : Array Edge} {guard : Option (Nat × Bool)} {w : World} (h : AllV w (ρ x) 8) :
    Sem.run Tryz.prog (execOp ρ ⟨dst, .load 85 x, type, pos, after, guard⟩) w = .ok (.value (.agg (cellsV w (ρ x) 8))) w := run_load_all pl_struct pl_size h

theorem zero_place (w : World) : (zeroValue 85).run Tryz.prog w = .ok (.agg #[.int .i64 0, .string ⟨#[]⟩, .int .i64 0, .int .i64 0, .int .i64 0, .float .f64 0, .string ⟨#[]⟩, .bool false]) w := by kernel_rfl

set_option maxHeartbeats 1000000 in
theorem rem1_at (w : World) (p : Int × Cnd) (g : Nat) (id : Int) (hg : w.cell? ⟨g, 0, none⟩ = some (.int .i64 id)) : Calls Tryz.prog 42 #[.agg (pcell p).toArray, .pointer (some ⟨g, 0, none⟩)] w fun e w' => e = .returned (.bool (p.1 == id)) ∧ Mod (fun _ => False) w w' := by
  obtain ⟨wa, hwa⟩ : ∃ wa : World, w.alloc (.cells (pcell p).toArray 85) = wa := ⟨_, rfl⟩
  have hmwa : Mod (fun _ => False) w wa := hwa ▸ (Mod.refl (fun _ => False) w).alloc _
  have hgwa := heap_alloc_new w (.cells (pcell p).toArray 85)
  rw [hwa] at hgwa
  have hzwa : wa.heap.size = w.heap.size + 1 := by rw [← hwa]; simp
  have c0 : wa.cell? ⟨w.heap.size, 0, none⟩ = some (.int .i64 p.1) := cell_of hgwa rfl
  have c1 : wa.cell? ⟨g, 0, none⟩ = some (.int .i64 id) := hmwa.cell hg (fun h => h)
  have Hwa := Lib.hid hwa
  have Hmwa := Lib.hid hmwa
  have Hgwa := Lib.hid hgwa
  clear hwa hmwa hgwa hzwa hg
  go_enter Tryz.func42, Tryz.ntmps42
  go_wp2_with (first | (rw [show w.alloc _ = wa from Hwa.out]) | fail)
  go_ret
  exact ⟨rfl, Hmwa.out⟩

/-- What IndexFunc returns. -/
def IxpPost (w : World) (ps : List (Int × Cnd)) (id : Int) (e : Ending) (w' : World) : Prop := Mod (fun _ => False) w w' ∧
  ((e = .returned (.int .i64 (-1)) ∧ ∀ p ∈ ps, p.1 ≠ id) ∨ ∃ i : Nat, e = .returned (.int .i64 i) ∧ i < ps.length ∧ (∀ p ∈ ps.take i, p.1 ≠ id) ∧ ∃ p, ps[i]? = some p ∧ p.1 = id)
attribute [local go_sem ↓] run_load_pl
set_option maxHeartbeats 4000000 in
theorem idxp_at (w : World) (v : Value) (ps : List (Int × Cnd)) (hv : RdSl w 8 v ps.length (pls ps)) (hn : ps.length ≤ 1000000) (g : Nat) (id : Int) (hg : w.cell? ⟨g, 0, none⟩ = some (.int .i64 id)) :
    Calls Tryz.prog 74 #[v, .func (.func 42) #[] #[.pointer (some ⟨g, 0, none⟩)]] w (IxpPost w ps id) := by
  obtain ⟨a, cap, rfl⟩ : ∃ a c, v = .slice a ps.length c := by obtain ⟨-, a, c, h, -⟩ := hv; exact ⟨a, c, h⟩
  have Hv := Lib.hid hv
  have Hg := Lib.hid hg
  clear hv hg
  go_enter Tryz.func74, Tryz.ntmps74
  go_wp2_with fail
  go_loopw [8] (fun i wr => ∃ j : Nat, i = .int .i64 j ∧ j ≤ ps.length ∧ (∀ p ∈ ps.take j, p.1 ≠ id) ∧ Mod (fun _ => False) w wr) (fun i _ => ps.length - (intOf i).toNat)
  case atStart => exact ⟨0, rfl, Nat.zero_le _, fun p h => by simp at h, Mod.refl _ _⟩
  case round =>
    obtain ⟨j, rfl, hj, hp, hmr⟩ := hrel
    by_cases hlt : j < ps.length
    · have hlt' : (j : Int) < ps.length := by omega
      obtain ⟨x, hxj⟩ : ∃ x, ps[j]? = some x := ⟨_, List.getElem?_eq_getElem hlt⟩
      obtain ⟨bg, off, rfl, hf⟩ : ∃ bg off, a = some ⟨bg, off, none⟩ ∧ CellsAt wr bg (off + j * 8) (pcell x) := rd_el pcell_length (Hv.out.mod hmr (fun _ _ h => h)) hxj
      have ha := hf.all (pcell_length x)
      have hc := hf.is (pcell_length x)
      have hr := rem1_at wr x g id (hmr.cell Hg.out (fun h => h))
      have Hf := Lib.hid hf
      have Hxj := Lib.hid hxj
      have Hp := Lib.hid hp
      have Hmr := Lib.hid hmr
      have Hr := Lib.hid hr
      clear hf hxj hp hmr hr
      go_wp2_with fail
      refine Hr.out.mono ?_
      rintro e w2 ⟨rfl, hm2⟩
      have hmw2 := Hmr.out.trans hm2 (fun _ _ h => h)
      cases he : x.1 == id with
      | true =>
        have Hm2 := Lib.hid hm2
        have Hmw2 := Lib.hid hmw2
        have He := Lib.hid he
        clear hm2 hmw2 he
        go_wp2_with fail
        go_ret
        exact ⟨Hmw2.out, .inr ⟨j, rfl, hlt, Hp.out, x, Hxj.out, beq_iff_eq.1 He.out⟩⟩
      | false =>
        have Hm2 := Lib.hid hm2
        have Hmw2 := Lib.hid hmw2
        have He := Lib.hid he
        clear hm2 hmw2 he
        go_wp2_with fail
        go_roundw
        case rel =>
          refine ⟨j + 1, by go_num, hlt, fun p h => ?_, Hmw2.out⟩
          rw [List.take_add_one, Hxj.out] at h
          rcases List.mem_append.1 h with h | h
          · exact Hp.out p h
          · obtain rfl : p = x := by simpa using h
            exact beq_eq_false_iff_ne.1 He.out
        case measure => simp [intOf]; omega
    · obtain rfl : j = ps.length := by omega
      rw [List.take_length] at hp
      have Hp := Lib.hid hp
      have Hmr := Lib.hid hmr
      clear hp hmr
      go_wp2_with fail
      go_ret
      exact ⟨Hmr.out, .inl ⟨rfl, Hp.out⟩⟩

theorem wpList_store_el_lit {P : Program} {w : World} {ops : Array Oper} {rest : List Oper} {a : Act} {Q : Exit → Act → World → Prop} {d : Option Tmp} {tp : TypeId} {pos : String} {af : Array Edge} (ty : TypeId) (x y : Operand)
    (h : ∃ (g off : Nat) (cur : Array Value) (t : TypeId) (cs : List Value), a.eval x = .pointer (some ⟨g, off, none⟩) ∧ w.heap[g]? = some (.cells cur t (0, 0)) ∧ a.eval y = .agg cs.toArray ∧ off + cs.length ≤ cur.size ∧ (P.info? ty).map (·.size) = some cs.length ∧ (∀ u ∈ cs, u.oneCell' = true) ∧
      ∀ w', w' = w.setRow g (cur.toList.take off ++ cs ++ cur.toList.drop (off + cs.length)).toArray → wpList P ops Q rest (a.put d undef) w') :
    wpList P ops Q (⟨d, .store ty x y, tp, pos, af, none⟩ :: rest) a w := by
  obtain ⟨g, off, cur, t, cs, hx, hg, hy, hl, hi, h1, hK⟩ := h
  exact wpList_plain rfl fun K' hK' => wp_store_el ty x y rfl g off hx cur t hg cs hy hl hi h1 (hK' _ _ (hK _ rfl))

def zpl : List Value := [.int .i64 0, .string ⟨#[]⟩, .int .i64 0, .int .i64 0, .int .i64 0, .float .f64 0, .string ⟨#[]⟩, .bool false]
theorem zpl_one (n : Nat) : ∀ u ∈ (Builtin.zeroCells zpl.toArray n).toList, u.oneCell' = true := fun u hu => by
  unfold Builtin.zeroCells at hu
  simp only [Array.toList_map, List.mem_map] at hu
  obtain ⟨i, -, rfl⟩ := hu
  have hlt : i % 8 < 8 := Nat.mod_lt _ (by decide)
  have all : ∀ r, r < 8 → (zpl.toArray[r]!).oneCell' = true := by decide
  exact all _ hlt
/-- What is past i is made zero. -/
theorem own_clear {w : World} {g off N cap i : Nat} {xs : List Value} (h : OwnSl w 85 8 (.slice (some ⟨g, off, none⟩) N cap) N xs) (hi : i < N) :
    ∃ w', (∀ ty, (Builtin.clear_ #[82] ty #[.slice (some ⟨g, off + i * 8, none⟩) (N - i) (cap - i)]).run Tryz.prog w = .ok (.tuple #[]) w') ∧
      OwnSl w' 85 8 (.slice (some ⟨g, off, none⟩) i cap) i (xs.take (i * 8)) ∧ Mod (fun k => k = g) w w' := by
  obtain ⟨hlen, h⟩ := h
  rcases h with ⟨h, -⟩ | ⟨g', off', cap', cur, hv, hg, hn, hc, hs, ht⟩
  · cases h
  cases hv
  have hzl : (Builtin.zeroCells zpl.toArray (N - i)).toList.length = (N - i) * 8 := by unfold Builtin.zeroCells; simp [zpl]
  have hN : i * 8 + (N - i) * 8 = N * 8 := by omega
  have hNc : N * 8 ≤ cap * 8 := Nat.mul_le_mul_right _ hn
  have hst := run_storeCells_at Tryz.prog g (off + i * 8) 85 (Builtin.zeroCells zpl.toArray (N - i)).toList 0 cur w hg (by rw [hzl]; omega) (zpl_one _)
  simp only [Nat.add_zero] at hst
  obtain ⟨row, hrow⟩ : ∃ row, (cur.toList.take (off + i * 8) ++ (Builtin.zeroCells zpl.toArray (N - i)).toList ++ cur.toList.drop (off + i * 8 + (Builtin.zeroCells zpl.toArray (N - i)).toList.length)).toArray = row := ⟨_, rfl⟩
  rw [hrow] at hst
  refine ⟨w.setRow g row, fun ty => ?_, ⟨by rw [List.length_take, hlen]; omega, .inr ⟨g, off, cap, row, rfl, setRow_heap w g cur row _ _ hg, by omega, hc, ?_, ?_⟩⟩, (Mod.refl (fun k => k = g) w).setRow (fun _ => rfl) row⟩
  rotate_left 1
  · rw [← hrow]
    simp only [List.size_toArray, List.length_append, List.length_take, List.length_drop, Array.length_toList, hzl]
    omega
  · rw [← ht, List.take_take, Nat.min_eq_left (by omega), ← hrow]
    apply List.ext_getElem?
    intro k
    rw [List.getElem?_take, List.getElem?_take]
    split
    · rw [List.getElem?_drop, List.getElem?_drop, List.append_assoc, List.getElem?_append_left (by rw [List.length_take, Array.length_toList]; omega), List.getElem?_take, if_pos (by omega)]
    · rfl
  · obtain ⟨m, hm⟩ : ∃ m, N - i = m + 1 := ⟨N - i - 1, by omega⟩
    have hz := zero_place w
    rw [hm] at hst ⊢
    have he : (Value.agg #[.int .i64 0, .string ⟨#[]⟩, .int .i64 0, .int .i64 0, .int .i64 0, .float .f64 0, .string ⟨#[]⟩, .bool false]).cells = zpl.toArray := rfl
    simp [Builtin.clear_, run_underlying Tryz.underlying82, hz, he, hst]

/-- What DeleteFunc leaves. -/
def DelPost (w : World) (v : Value) (ps : List (Int × Cnd)) (id : Int) (e : Ending) (w' : World) : Prop :=
  ∃ v' ps', e = .returned v' ∧ ps' = ps.filter (fun p => !(p.1 == id)) ∧ OwnSl w' 85 8 v' ps'.length (pls ps') ∧ v'.ownBlock = v.ownBlock ∧ Mod (inBlock v) w w'
def DelRel (w : World) (v : Value) (ps : List (Int × Cnd)) (id : Int) (iv jv : Value) (wr : World) : Prop :=
  ∃ (i j : Nat) (L : List (Int × Cnd)), iv = .int .i64 i ∧ jv = .int .i64 j ∧ i < j ∧ j ≤ ps.length ∧ L.length = ps.length ∧ OwnSl wr 85 8 v L.length (pls L) ∧ L.take i = (ps.take j).filter (fun p => !(p.1 == id)) ∧ L.drop j = ps.drop j ∧ Mod (inBlock v) w wr
theorem sizeOf_pl (w : World) : (Go.sizeOf 85).run Tryz.prog w = .ok 8 w := by kernel_rfl

set_option maxHeartbeats 8000000 in
theorem delp_at (w : World) (v : Value) (ps : List (Int × Cnd)) (hv : OwnSl w 85 8 v ps.length (pls ps)) (hn : ps.length ≤ 1000000) (g : Nat) (id : Int) (hg : w.cell? ⟨g, 0, none⟩ = some (.int .i64 id)) (hgv : ¬ inBlock v g) :
    Calls Tryz.prog 41 #[v, .func (.func 42) #[] #[.pointer (some ⟨g, 0, none⟩)]] w (DelPost w v ps id) := by
  obtain ⟨a, cap, rfl, hcap⟩ := hv.shape
  have hix := idxp_at w (.slice a ps.length cap) ps hv.rd hn g id hg
  have Hv := Lib.hid hv
  have Hg := Lib.hid hg
  have Hgv := Lib.hid hgv
  have Hix := Lib.hid hix
  clear hv hg hgv hix
  go_enter Tryz.func41, Tryz.ntmps41
  go_wp2_with fail
  refine Hix.out.mono ?_
  rintro e w2 ⟨hm2, ⟨rfl, hno⟩ | ⟨i, rfl, hi, hb, x, hx, hxi⟩⟩
  · have hf : ps.filter (fun p => !(p.1 == id)) = ps := List.filter_eq_self.2 (fun p hp => by have := hno p hp; simp [this])
    have hv2 := Hv.out.mod hm2 (fun _ _ h => h)
    have Hm2 := Lib.hid hm2
    have Hf := Lib.hid hf
    have Hv2 := Lib.hid hv2
    have Hno := Lib.hid hno
    clear hm2 hf hv2 hno
    go_wp2_with fail
    go_ret
    exact ⟨_, _, rfl, rfl, by rw [Hf.out]; exact Hv2.out, rfl, Hm2.out.mono (fun _ _ h => h.elim)⟩
  · have hv2 := Hv.out.mod hm2 (fun _ _ h => h)
    have hi' : (i : Int) < ps.length := by omega
    have hin : ((i : Int) == -1) = false := by rw [beq_eq_false_iff_ne]; omega
    have hst : DelRel w (.slice a ps.length cap) ps id (.int .i64 i) (.int .i64 ((i + 1 : Nat) : Int)) w2 := by
      refine ⟨i, i + 1, ps, rfl, rfl, by omega, hi, rfl, hv2, ?_, rfl, hm2.mono (fun _ _ h => h.elim)⟩
      rw [List.take_add_one, hx, List.filter_append, List.filter_eq_self.2 (fun p hp => by have := hb p hp; simp [this])]
      simp [hxi]
    obtain ⟨bg, off, rfl, -⟩ : ∃ bg off, a = some ⟨bg, off, none⟩ ∧ CellsAt w2 bg (off + i * 8) (pcell x) := rd_el pcell_length hv2.rd hx
    have Hm2 := Lib.hid hm2
    have Hv2 := Lib.hid hv2
    have Hb := Lib.hid hb
    have Hx := Lib.hid hx
    have Hst := Lib.hid hst
    clear hm2 hv2 hb hx hst
    go_wp2_with fail
    go_loopw [5, 6] (fun iv jv wr => DelRel w (.slice (some ⟨bg, off, none⟩) ps.length cap) ps id iv jv wr) (fun _ jv _ => ps.length - (intOf jv).toNat)
    case atStart => exact Hst.out
    case round =>
      obtain ⟨i, j, L, rfl, rfl, hij, hj, hLl, hL, hT, hD, hmr⟩ := hrel
      by_cases hlt : j < ps.length
      · have hlt' : (j : Int) < ps.length := by omega
        obtain ⟨y, hy⟩ : ∃ y, ps[j]? = some y := ⟨_, List.getElem?_eq_getElem hlt⟩
        have hLy : L[j]? = some y := by
          have := congrArg (fun l : List (Int × Cnd) => l[0]?) hD
          simp only [List.getElem?_drop, Nat.add_zero] at this
          rw [this, hy]
        obtain ⟨bg', off', hbe, hf⟩ := rd_el pcell_length (hLl ▸ hL.rd : RdSl wr 8 (.slice (some ⟨bg, off, none⟩) L.length cap) L.length (pls L)) hLy
        cases hbe
        have ha := hf.all (pcell_length y)
        have hc := hf.is (pcell_length y)
        obtain ⟨wz, hwz⟩ : ∃ wz : World, wr.alloc (.cells (pcell y).toArray 85) = wz := ⟨_, rfl⟩
        have hmwz : Mod (fun _ => False) wr wz := hwz ▸ (Mod.refl (fun _ => False) wr).alloc _
        have hgwz := heap_alloc_new wr (.cells (pcell y).toArray 85)
        rw [hwz] at hgwz
        have hzwz : wz.heap.size = wr.heap.size + 1 := by rw [← hwz]; simp
        have haz := (CellsAt.row hgwz).all (pcell_length y)
        have hcz := (CellsAt.row hgwz).is (pcell_length y)
        have hr := rem1_at wz y g id ((hmr.trans (hmwz.mono (fun _ _ h => h.elim)) (fun _ _ h => h)).cell Hg.out Hgv.out)
        have hTx : L.take i = (ps.take j).filter (fun p => !(p.1 == id)) := hT
        have hnx : (ps.take (j + 1)).filter (fun p => !(p.1 == id)) = L.take i ++ if (y.1 == id) = true then [] else [y] := by
          rw [List.take_add_one, hy, List.filter_append, ← hT]
          congr 1
          cases hyi : y.1 == id <;> simp [hyi]
        have hDn : L.drop (j + 1) = ps.drop (j + 1) := by rw [← List.drop_drop, ← List.drop_drop, hD]
        have Hy := Lib.hid hy
        have HLy := Lib.hid hLy
        have HL := Lib.hid hL
        have HT := Lib.hid hT
        have HTx := Lib.hid hTx
        have Hnx := Lib.hid hnx
        have HD := Lib.hid hD
        have HDn := Lib.hid hDn
        have Hmr := Lib.hid hmr
        have Hf := Lib.hid hf
        have Hwz := Lib.hid hwz
        have Hmwz := Lib.hid hmwz
        have Hgwz := Lib.hid hgwz
        have Hr := Lib.hid hr
        clear hy hLy hL hT hTx hnx hD hDn hmr hf hwz hmwz hgwz hr hzwz
        go_wp2_with (first | ((with_reducible refine wpList_store_lit 85 (.tmp 7) (.tmp 25) ?_); refine ⟨rfl, pcell y, rfl, rfl, by kernel_rfl, rfl, ?_⟩; rw [Hwz.out]) | fail)
        refine Hr.out.mono ?_
        rintro e w3 ⟨rfl, hm3⟩
        have hm3z := Hmwz.out.trans hm3 (fun _ _ h => h)
        have hL3 := HL.out.mod hm3z (fun _ _ h => h)
        have hmr3 := Hmr.out.trans hm3z (fun _ _ h => h.elim)
        have haw := ((CellsAt.row Hgwz.out).mod hm3 (fun h => h)).all (pcell_length y)
        have hcw := ((CellsAt.row Hgwz.out).mod hm3 (fun h => h)).is (pcell_length y)
        cases he : y.1 == id with
        | true =>
          have hnx' := Hnx.out
          rw [he, if_pos rfl, List.append_nil] at hnx'
          have Hm3 := Lib.hid hm3
          have Hm3z := Lib.hid hm3z
          have HL3 := Lib.hid hL3
          have Hmr3 := Lib.hid hmr3
          have He := Lib.hid he
          have Hnx' := Lib.hid hnx'
          clear hm3 hm3z hL3 hmr3 he hnx'
          go_wp2_with fail
          go_roundw
          case rel => exact ⟨i, j + 1, L, rfl, by go_num, by omega, hlt, hLl, HL3.out, Hnx'.out.symm, HDn.out, Hmr3.out⟩
          case measure => simp [intOf]; omega
        | false =>
          have hnx' := Hnx.out
          rw [he, if_neg (by decide)] at hnx'
          obtain ⟨g1, off1, cap1, cur, q1, q2, q3, q4, q5⟩ := own_el (f := pcell) (fun _ => rfl) (j := i) hL3 (by omega) y
          rw [hLl] at q1
          cases q1
          have hi2 : (i : Int) < ps.length := by omega
          have Hm3 := Lib.hid hm3
          have Hm3z := Lib.hid hm3z
          have HL3 := Lib.hid hL3
          have Hmr3 := Lib.hid hmr3
          have He := Lib.hid he
          have Hnx' := Lib.hid hnx'
          have Q2 := Lib.hid q2
          have Q3 := Lib.hid q3
          have Q4 := Lib.hid q4
          have Q5 := Lib.hid q5
          clear hm3 hm3z hL3 hmr3 he hnx' q2 q3 q4 q5
          go_wp2_with (first | ((with_reducible refine wpList_store_el_lit 85 (.tmp 33) (.tmp 32) ?_); refine ⟨bg, off + i * 8, cur, 85, pcell y, rfl, Q2.out, rfl, Q3.out, by kernel_rfl, fun u hu => List.all_eq_true.1 (show (pcell y).all (·.oneCell') = true from rfl) u hu, ?_⟩; intro w4 hw4; have Hw4 := Lib.hid hw4; clear hw4) | fail)
          have hm4 : Mod (inBlock (.slice (some ⟨bg, off, none⟩) ps.length cap)) w w4 := Hw4.out ▸ Hmr3.out.setRow (fun _ => rfl) _
          have hL4 : OwnSl w4 85 8 (.slice (some ⟨bg, off, none⟩) ps.length cap) L.length (pls (L.set i y)) := Hw4.out ▸ Q5.out
          refine ⟨⟨i + 1, j + 1, L.set i y, by go_num, by go_num, by omega, hlt, by rw [List.length_set]; exact hLl, by rw [List.length_set]; exact hL4, ?_, ?_, hm4⟩, by simp [intOf]; omega⟩
          · rw [Hnx'.out, List.take_add_one, List.take_set, List.getElem?_set_self (by omega)]
            rw [List.set_eq_of_length_le (by rw [List.length_take]; omega)]
            rfl
          · rw [List.drop_set_of_lt (by omega)]; exact HDn.out
      · obtain rfl : j = ps.length := by omega
        rw [List.take_length] at hT
        have hip : (i : Int) < ps.length := by omega
        have hic : (i : Int) ≤ cap := by omega
        rw [hLl] at hL
        obtain ⟨w5, hcl, ho5, hm5⟩ := own_clear (w := wr) hL hij
        have hmw5 : Mod (inBlock (.slice (some ⟨bg, off, none⟩) ps.length cap)) w w5 := hmr.trans (hm5.mono (G := inBlock (.slice (some ⟨bg, off, none⟩) ps.length cap)) (fun k _ h => by rw [h]; rfl)) (fun _ _ h => h)
        have hne : ¬ cap = i := by omega
        have hs1 : ∀ W, (Instr.slice 82 (.slice (some ⟨bg, off, none⟩) ps.length cap) (some (.int .i64 i)) none none).run Tryz.prog W = .ok (.slice (some ⟨bg, off + i * 8, none⟩) (ps.length - i) (cap - i)) W := fun W => by
          rw [run_slice_l W 82 _ _ _ (by kernel_rfl) .i64 _ (by omega) (by omega), show Tryz.prog.elem 82 = 85 from by kernel_rfl, sizeOf_pl]
          simp [Result.andThen, sliced, hne, addr_add]
        have hs2 : ∀ W, (Instr.slice 82 (.slice (some ⟨bg, off, none⟩) ps.length cap) none (some (.int .i64 i)) none).run Tryz.prog W = .ok (.slice (some ⟨bg, off, none⟩) i cap) W := fun W => by
          rw [run_slice_h W 82 _ _ _ (by kernel_rfl) .i64 _ (by omega) (by omega), show Tryz.prog.elem 82 = 85 from by kernel_rfl, sizeOf_pl]
          simp [Result.andThen, sliced, addr_add]
        have hfl : (ps.filter (fun p => !(p.1 == id))).length = i := by rw [← hT, List.length_take]; omega
        have hpl : (pls L).take (i * 8) = pls (ps.filter (fun p => !(p.1 == id))) := by
          rw [← hT]
          conv => lhs; rw [← List.take_append_drop i L, pls_append]
          rw [show i * 8 = (pls (L.take i)).length by rw [pls_length, List.length_take]; omega, List.take_left]
        rw [hpl] at ho5
        have HL := Lib.hid hL
        have HT := Lib.hid hT
        have HD := Lib.hid hD
        have Hmr := Lib.hid hmr
        have Ho5 := Lib.hid ho5
        have Hm5 := Lib.hid hm5
        have Hmw5 := Lib.hid hmw5
        have Hfl := Lib.hid hfl
        have Hpl := Lib.hid hpl
        clear hL hT hD hmr ho5 hm5 hmw5 hfl hpl
        go_wp2_with fail
        go_ret
        exact ⟨_, _, rfl, rfl, by rw [Hfl.out]; exact Ho5.out, rfl, Hmw5.out⟩
end Go.Proofs.YtloplmaekonenaaGreatDoor
