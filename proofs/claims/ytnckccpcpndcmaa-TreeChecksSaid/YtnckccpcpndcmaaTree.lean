/-
  Trees in memory: while they are made, and when they are read.
-/
import Derived.Test.YtnckccpcpndcmaaTr0
import Derived.Test.YtnckccpcpndcmaaLit
import Derived.Test.YtnckccpcpndcmaaPlan6
namespace Go.Proofs.Ytnckccpcpndcmaa
open Go.RowKit

def ints (l : List Int) : List Value := l.map (Value.int .i64)
theorem ints_length (l : List Int) : (ints l).length = l.length := by simp [ints]
theorem ints_append (l m : List Int) : ints (l ++ m) = ints l ++ ints m := by simp [ints]
theorem ints_at {l : List Int} {k : Nat} {x : Int} (h : l[k]? = some x) : (ints l)[k]? = some (.int .i64 x) := by simp [ints, h]
theorem ints_one (l : List Int) : ∀ u ∈ ints l, u.oneCell' = true := fun u hu => by
  obtain ⟨x, -, rfl⟩ := List.mem_map.1 hu
  rfl

theorem set_at {α : Type} {l : List α} {i j : Nat} {v u : α} (h : (l.set i v)[j]? = some u) : (i = j ∧ u = v ∧ i < l.length) ∨ (i ≠ j ∧ l[j]? = some u) := by
  by_cases hij : i = j
  · subst hij
    have hl := (List.getElem?_eq_some_iff.1 h).1
    rw [List.length_set] at hl
    rw [List.getElem?_set_self hl] at h
    exact .inl ⟨rfl, (Option.some.inj h).symm, hl⟩
  · rw [List.getElem?_set_ne hij] at h
    exact .inr ⟨hij, h⟩

/-- A tree that is being made: t: its struct, g: the row of its neighbours' slices (gs: as it lies there; vs: what will stand there), r: the roots. All else of it lies from block base on. -/
structure TB (w : World) (base t g r n : Nat) (gs vs : List Value) (near : List (List Int)) (root : List Int) : Prop where
  ht : w.heap[t]? = some (.cells #[.slice (some ⟨g, 0, none⟩) n n] 43 (0, 0))
  hg : w.heap[g]? = some (.cells gs.toArray 22 (0, 0))
  hr : w.heap[r]? = some (.cells (ints root).toArray 3 (0, 0))
  sz : base ≤ w.heap.size
  lg : gs.length = n
  lv : vs.length = n
  ln : near.length = n
  lr : root.length = n
  lt : t < base ∧ g < base ∧ r < base ∧ t ≠ g ∧ t ≠ r ∧ g ≠ r
  own : ∀ (i : Nat) (v : Value) (l : List Int), vs[i]? = some v → near[i]? = some l → OwnSl w 3 1 v l.length (ints l)
  fresh : ∀ (i : Nat) (v : Value) (b : Nat), vs[i]? = some v → v.ownBlock = some b → base ≤ b
  apart : ∀ (i j : Nat) (v u : Value) (b : Nat), i ≠ j → vs[i]? = some v → vs[j]? = some u → v.ownBlock = some b → u.ownBlock ≠ some b

section
variable {w w' : World} {base t g r n : Nat} {gs vs : List Value} {near : List (List Int)} {root : List Int}
theorem TB.mod (h : TB w base t g r n gs vs near root) (hm : Mod (fun _ => False) w w') : TB w' base t g r n gs vs near root :=
  ⟨hm.heap h.ht (fun h => h), hm.heap h.hg (fun h => h), hm.heap h.hr (fun h => h), Nat.le_trans h.sz hm.size, h.lg, h.lv, h.ln, h.lr, h.lt, fun i v l h1 h2 => (h.own i v l h1 h2).mod hm (fun _ _ h => h), h.fresh, h.apart⟩
theorem TB.app (h : TB w base t g r n gs vs near root) {i : Nat} {v v' : Value} {l : List Int} {x : Int} (hv : vs[i]? = some v)
    (hA : Appended w 3 1 v (l.length + 1) (ints l ++ [.int .i64 x]) v' w') : TB w' base t g r n gs (vs.set i v') (near.set i (l ++ [x])) root := by
  obtain ⟨h1, h2, h3⟩ := hA
  have hb := h.sz
  have hi : i < vs.length := (List.getElem?_eq_some_iff.1 hv).1
  have hne : ∀ k, k < base → ¬ inBlock v k := fun k hk hin => by have := h.fresh i v k hv hin; omega
  have hlt := h.lt
  have hnew : ∀ b, v'.ownBlock = some b → v.ownBlock = some b ∨ w.heap.size ≤ b := fun b hb' => by
    rcases h3 with e | ⟨k, e, hk⟩
    · exact .inl (by rw [← e]; exact hb')
    · rw [e] at hb'; cases hb'; exact .inr hk
  have hold : ∀ j u b, j ≠ i → vs[j]? = some u → u.ownBlock = some b → v'.ownBlock ≠ some b := fun j u b hj hu hub hvb => by
    rcases hnew b hvb with e | e
    · exact h.apart j i u v b hj hu hv hub e
    · cases hq : near[j]? with
      | none => have := List.getElem?_eq_none_iff.1 hq; have := (List.getElem?_eq_some_iff.1 hu).1; have := h.lv; have := h.ln; omega
      | some q => have := (h.own j u q hu hq).lt b hub; omega
  refine ⟨h2.heap h.ht (hne _ hlt.1), h2.heap h.hg (hne _ hlt.2.1), h2.heap h.hr (hne _ hlt.2.2.1), Nat.le_trans h.sz h2.size, h.lg, by rw [List.length_set]; exact h.lv, by rw [List.length_set]; exact h.ln, h.lr, hlt, fun j u q hu hq => ?_, fun j u b hu hub => ?_, fun j k u y b hjk hu hy hub hyb => ?_⟩
  · rcases set_at hu with ⟨rfl, rfl, -⟩ | ⟨hij, hu⟩
    · rcases set_at hq with ⟨-, rfl, -⟩ | ⟨hij, -⟩
      · rw [List.length_append, ints_append]
        exact h1
      · exact absurd rfl hij
    · rcases set_at hq with ⟨e, -, -⟩ | ⟨-, hq⟩
      · exact absurd e hij
      · refine (h.own j u q hu hq).mod h2 (fun b hb hin => ?_)
        exact h.apart j i u v b (fun e => hij e.symm) hu hv hb hin
  · rcases set_at hu with ⟨rfl, rfl, -⟩ | ⟨-, hu⟩
    · rcases hnew b hub with e | e
      · exact h.fresh _ _ b hv e
      · omega
    · exact h.fresh j u b hu hub
  · rcases set_at hu with ⟨e1, e2, -⟩ | ⟨-, hu2⟩
    · rcases set_at hy with ⟨e, -, -⟩ | ⟨-, hy2⟩
      · exact hjk (e1 ▸ e)
      · exact hold k y b (fun e => hjk (e1 ▸ e.symm)) hy2 hyb (e2 ▸ hub)
    · rcases set_at hy with ⟨e1, e2, -⟩ | ⟨-, hy2⟩
      · exact hold j u b (fun e => hjk (e.trans e1)) hu2 hub (e2 ▸ hyb)
      · exact h.apart j k u y b hjk hu2 hy2 hub hyb
theorem set_row (l : List Value) (i : Nat) (v : Value) : l.toArray.setIfInBounds i v = (l.set i v).toArray := by simp
theorem TB.store (h : TB w base t g r n gs vs near root) (i : Nat) (v : Value) : TB (w.setCell ⟨g, i, none⟩ v) base t g r n (gs.set i v) vs near root := by
  have hlt := h.lt
  refine ⟨(heap_setCell_other w _ _ v (by show t ≠ g; omega)).trans h.ht, by have := heap_set (i := i) (v := v) h.hg; rw [set_row] at this; exact this, (heap_setCell_other w _ _ v (by show r ≠ g; omega)).trans h.hr, by simpa using h.sz, by rw [List.length_set]; exact h.lg, h.lv, h.ln, h.lr, hlt, fun j u q hu hq => ?_, h.fresh, h.apart⟩
  exact (h.own j u q hu hq).setCell (fun hin => by have := h.fresh j u g hu hin; omega) v
theorem TB.rootSet (h : TB w base t g r n gs vs near root) (i : Nat) (x : Int) : TB (w.setCell ⟨r, i, none⟩ (.int .i64 x)) base t g r n gs vs near (root.set i x) := by
  have hlt := h.lt
  refine ⟨(heap_setCell_other w _ _ _ (by show t ≠ r; omega)).trans h.ht, (heap_setCell_other w _ _ _ (by show g ≠ r; omega)).trans h.hg, ?_, by simpa using h.sz, h.lg, h.lv, h.ln, by rw [List.length_set]; exact h.lr, hlt, fun j u q hu hq => ?_, h.fresh, h.apart⟩
  · have := heap_set (i := i) (v := .int .i64 x) h.hr
    rw [set_row] at this
    rw [this]
    unfold ints
    rw [List.map_set]
  · exact (h.own j u q hu hq).setCell (fun hin => by have := h.fresh j u r hu hin; omega) _
end

theorem TB.put {w w' : World} {base t g r n : Nat} {gs vs : List Value} {near : List (List Int)} {root : List Int} (h : TB w base t g r n gs vs near root) {i : Nat} {v : Value} {l : List Int} (hv : vs[i]? = some v)
    (ho : OwnSl w' 3 1 v l.length (ints l)) (hm : Mod (inBlock v) w w') : TB w' base t g r n gs vs (near.set i l) root := by
  have hb := h.sz
  have hne : ∀ k, k < base → ¬ inBlock v k := fun k hk hin => by have := h.fresh i v k hv hin; omega
  have hlt := h.lt
  refine ⟨hm.heap h.ht (hne _ hlt.1), hm.heap h.hg (hne _ hlt.2.1), hm.heap h.hr (hne _ hlt.2.2.1), Nat.le_trans h.sz hm.size, h.lg, h.lv, by rw [List.length_set]; exact h.ln, h.lr, hlt, fun j u q hu hq => ?_, h.fresh, h.apart⟩
  rcases set_at hq with ⟨rfl, rfl, -⟩ | ⟨hij, hq⟩
  · rw [hv] at hu
    cases hu
    exact ho
  · exact (h.own j u q hu hq).mod hm (fun b hb hin => h.apart j i u v b (fun e => hij e.symm) hu hv hb hin)

/-- append as one operation, in whatever region. -/
theorem wp_append_sl {P : Program} {o : Oper} {a : Act} {w : World} {K : Act → World → Prop} {Q : Exit → Act → World → Prop} (s y : Operand) (t : TypeId) (hop : o.op = Op.call { callee := Callee.builtin Builtin.append, args := #[s, y], argTypes := #[t, t] })
    (e : TypeId) (sz bytes : Nat) (hT : SliceT P t e sz bytes) (v : Value) (n : Nat) (xs : List Value) (hs : a.eval s = v) (hown : OwnSl w e sz v n xs) (x : Value) (m : Nat) (news : List Value) (hy : a.eval y = x) (hx : RdSl w sz x m news) (h1 : ∀ u ∈ news, u.oneCell' = true)
    (hbytes : (n + m) * bytes ≤ 140737488355328) (hmax : n + m ≤ maxLen)
    (hK : ∀ ad cap w', Appended w e sz v (n + m) (xs ++ news) (.slice ad (n + m) cap) w' → K (a.put o.dst (.slice ad (n + m) cap)) w') : o.wp P a w K Q := by
  obtain ⟨ht, i0, z, hi, hz0, hz1, hz2, hzs⟩ := hT
  obtain ⟨v', w', hrun, r1, r2, r3⟩ := run_append_sl (P := P) w t o.type e i0 z sz bytes ht hi hz0 hz1 hz2 hzs v n xs hown x m news hx h1 hbytes hmax
  unfold Oper.wp
  simp [execOp, hop, resolve, invoke, builtin, hs, hy, hrun, Result.andThen]
  obtain ⟨ad, cap, rfl, _⟩ := r1.shape
  exact hK ad cap w' ⟨r1, r2, r3⟩
theorem ints_T : SliceT Try.prog 22 3 1 8 := sliceT (by kernel_rfl) (by kernel_rfl)

/-- The first k, turned. -/
def part {α : Type} (f : α → α) (k : Nat) (l : List α) : List α := (l.take k).map f ++ l.drop k
theorem part_zero {α : Type} (f : α → α) (l : List α) : part f 0 l = l := by simp [part]
theorem part_all {α : Type} (f : α → α) (l : List α) : part f l.length l = l.map f := by simp [part]
theorem part_length {α : Type} (f : α → α) (k : Nat) (l : List α) : (part f k l).length = l.length := by simp [part]; omega
theorem part_at {α : Type} {f : α → α} {k : Nat} {l : List α} {x : α} (h : l[k]? = some x) : (part f k l)[k]? = some x := by
  have hk := (List.getElem?_eq_some_iff.1 h).1
  unfold part
  rw [List.getElem?_append_right (by simp; omega)]
  simp
  rw [← h]
  congr 1
  omega
theorem part_set {α : Type} {f : α → α} {k : Nat} {l : List α} {x : α} (h : l[k]? = some x) : (part f k l).set k (f x) = part f (k + 1) l := by
  have hk := (List.getElem?_eq_some_iff.1 h).1
  unfold part
  have hl : ((l.take k).map f).length = k := by simp; omega
  rw [List.set_append_right _ _ (by omega), hl, Nat.sub_self, List.drop_eq_getElem_cons hk, List.set_cons_zero, List.take_add_one, h, List.map_append]
  simp
theorem part_next {α : Type} {f : α → α} {k : Nat} {l : List α} {x : α} (h : l[k]? = some x) (hf : f x = x) : part f k l = part f (k + 1) l := by
  rw [← part_set h, hf]
  have := part_at (f := f) h
  obtain ⟨h1, h2⟩ := List.getElem?_eq_some_iff.1 this
  conv => rhs; rw [← h2]
  rw [List.set_getElem_self]

/-- A tree that is read. -/
structure TreeAt (w : World) (t : Nat) (N : List (List Int)) : Prop where
  rd : ∃ (g : Nat) (vs : List Value), w.heap[t]? = some (.cells #[.slice (some ⟨g, 0, none⟩) N.length N.length] 43 (0, 0)) ∧ w.heap[g]? = some (.cells vs.toArray 22 (0, 0)) ∧ vs.length = N.length ∧
    ∀ (i : Nat) (v : Value) (l : List Int), vs[i]? = some v → N[i]? = some l → OwnSl w 3 1 v l.length (ints l)
theorem TreeAt.mod {w w' : World} {t : Nat} {N : List (List Int)} (h : TreeAt w t N) (hm : Mod (fun _ => False) w w') : TreeAt w' t N := by
  obtain ⟨g, vs, h1, h2, h3, h4⟩ := h.rd
  exact ⟨g, vs, hm.heap h1 (fun h => h), hm.heap h2 (fun h => h), h3, fun i v l a b => (h4 i v l a b).mod hm (fun _ _ h => h)⟩
theorem TB.tree {w : World} {base t g r n : Nat} {gs : List Value} {near : List (List Int)} {root : List Int} (h : TB w base t g r n gs gs near root) : TreeAt w t near :=
  ⟨⟨g, gs, by rw [h.ln]; exact h.ht, h.hg, by rw [h.lg, h.ln], h.own⟩⟩
end Go.Proofs.Ytnckccpcpndcmaa
