/-
  Arguments opened; what is weighed gives the sizes of their texts.
-/
import Derived.Test.YtaenebdppkjhoaaGreatDoorZa12
import Derived.Test.YtaenebdppkjhoaaGreatDoorZa8
namespace Go.Proofs.YtaenebdppkjhoaaGreatDoor
set_option maxRecDepth 20000
open Go.ChangeShapes Go.WideShapes Go.ChangeAt Go.RowKit

section
variable {H : Type} {enc : TypeId × Value → H} {W : World}
theorem weightsAll_mem {e : TypeId} : ∀ {l : List (DataW H)} {d : DataW H} {n : Nat}, d ∈ l → n ∈ DataW.weights Tryz.prog e d → n ∈ DataW.weightsAll Tryz.prog e l
  | a :: l, d, n, hd, hn => by
    unfold DataW.weightsAll
    rcases List.mem_cons.1 hd with rfl | hd
    · exact List.mem_append_left _ hn
    · exact List.mem_append_right _ (weightsAll_mem hd hn)
theorem weightsEach_mem : ∀ {ts : List TypeId} {l : List (DataW H)} {i : Nat} {t : TypeId} {d : DataW H} {n : Nat}, ts[i]? = some t → l[i]? = some d → n ∈ DataW.weights Tryz.prog t d → n ∈ DataW.weightsEach Tryz.prog ts l
  | [], _, _, _, _, _, h, _, _ => by simp at h
  | _ :: _, [], _, _, _, _, _, h, _ => by simp at h
  | a :: ts, b :: l, 0, t, d, n, h1, h2, hn => by
    unfold DataW.weightsEach
    simp only [List.getElem?_cons_zero, Option.some.injEq] at h1 h2
    subst h1 h2
    exact List.mem_append_left _ hn
  | a :: ts, b :: l, i + 1, t, d, n, h1, h2, hn => by
    unfold DataW.weightsEach
    rw [List.getElem?_cons_succ] at h1 h2
    exact List.mem_append_right _ (weightsEach_mem h1 h2 hn)
theorem weights_part {ty : TypeId} {fs : Array Field} (ht : Tryz.prog.underlying ty = some (.struct fs)) {l : List (DataW H)} {i : Nat} {t : TypeId} {d : DataW H} {n : Nat} (h1 : (fs.toList.map (·.type))[i]? = some t) (h2 : l[i]? = some d) (hn : n ∈ DataW.weights Tryz.prog t d) :
    n ∈ DataW.weights Tryz.prog ty (.agg l : DataW H) := by
  unfold DataW.weights
  rw [ht]
  exact weightsEach_mem h1 h2 hn
theorem weights_elem {ty e : TypeId} (ht : Tryz.prog.underlying ty = some (.slice e)) {l r : List (DataW H)} {d : DataW H} {n : Nat} (hd : d ∈ l) (hn : n ∈ DataW.weights Tryz.prog e d) : n ∈ DataW.weights Tryz.prog ty (.slice l r : DataW H) := by
  unfold DataW.weights
  rw [ht]
  exact List.mem_cons_of_mem _ (List.mem_append_left _ (weightsAll_mem hd hn))
theorem open_roww {α : Type} {t e : TypeId} {sz : Nat} (cells : α → List Value) (hlen : ∀ x, (cells x).length = sz) (hsz : 0 < sz) (ht : Tryz.prog.underlying t = some (.slice e)) (he : Tryz.prog.cellsOf e = sz) (x0 : α) (p : α → Prop)
    (hone : ∀ (fuel : Nat) (cs : List Value) (y : DataW H × List MemPlace), DataW.trod enc Tryz.prog W 0 (fun _ => true) true fuel e cs = some y → (∀ n ∈ DataW.weights Tryz.prog e y.1, n ≤ reachBytes) → ∃ x, cs = cells x ∧ p x)
    {fuel : Nat} {v : Value} {y : DataW H × List MemPlace} (h : DataW.trod enc Tryz.prog W 0 (fun _ => true) true fuel t [v] = some y) (hw : ∀ n ∈ DataW.weights Tryz.prog t y.1, n ≤ reachBytes) :
    ∃ l : List α, RdSl W sz v l.length (l.flatMap cells) ∧ l.length ≤ maxLen ∧ ∀ x ∈ l, p x := by
  rcases Go.Deep.open_slice ht h with ⟨hcs, -⟩ | ⟨a, len, cap', m', k, D, Pl, hcs, -, hlc, hcm, hmm, hyd, hcell⟩
  · have hcs : v = Value.slice none 0 0 := by simpa using hcs
    subst hcs
    exact ⟨[], ⟨by simp, none, 0, rfl, Nat.le_refl _, fun _ => rfl, fun b hb _ => (by cases hb)⟩, Nat.zero_le _, fun x hx => (by cases hx)⟩
  · have hcs : v = Value.slice (some a) len cap' := by simpa using hcs
    subst hcs
    simp only [if_true] at hmm
    subst hmm
    rw [he] at hcell
    have hall : ∀ i, i < len → ∃ x : α, (∀ q u, (cells x)[q]? = some u → W.cell? ((a.add (i * sz)).add q) = some u) ∧ p x := fun i hi => by
      obtain ⟨cs, h1, h2⟩ := hcell i (by omega)
      obtain ⟨x, rfl, h3⟩ := hone _ _ _ h2 (fun n hn => hw n (by rw [hyd]; exact weights_elem ht (List.mem_map.2 ⟨i, List.mem_range.2 hi, rfl⟩) hn))
      obtain ⟨-, h5, h6⟩ := World.cells?_some h1
      refine ⟨x, fun q u hq => ?_, h3⟩
      have := h6 q (by have := (List.getElem?_eq_some_iff.1 hq).1; rw [hlen] at this; exact this)
      rw [hq] at this
      exact this
    obtain ⟨F, hF⟩ : ∃ F : Nat → α, ∀ i, i < len → (∀ q u, (cells (F i))[q]? = some u → W.cell? ((a.add (i * sz)).add q) = some u) ∧ p (F i) :=
      ⟨fun i => if h : i < len then (hall i h).choose else x0, fun i hi => by simp only [dif_pos hi]; exact (hall i hi).choose_spec⟩
    have hl : ((List.range len).map F).length = len := by simp
    have hfl : ∀ l : List α, (l.flatMap cells).length = l.length * sz := fun l => by
      induction l with
      | nil => simp
      | cons b l ih => rw [List.flatMap_cons, List.length_append, ih, hlen, List.length_cons, Nat.add_mul]; omega
    have hget : ∀ (l : List α) (j : Nat) (u : Value), (l.flatMap cells)[j]? = some u → ∃ x, l[j / sz]? = some x ∧ (cells x)[j % sz]? = some u := fun l => by
      induction l with
      | nil => intro j u h; simp at h
      | cons b l ih =>
        intro j u h
        rw [List.flatMap_cons] at h
        rcases Nat.lt_or_ge j sz with hj | hj
        · rw [List.getElem?_append_left (by rw [hlen]; exact hj)] at h
          exact ⟨b, by rw [Nat.div_eq_of_lt hj]; rfl, by rw [Nat.mod_eq_of_lt hj]; exact h⟩
        · rw [List.getElem?_append_right (by rw [hlen]; exact hj), hlen] at h
          obtain ⟨x, h1, h2⟩ := ih _ _ h
          have e1 : j / sz = (j - sz) / sz + 1 := by
            rw [Nat.div_eq j sz, if_pos ⟨hsz, hj⟩]
          have e2 : j % sz = (j - sz) % sz := Nat.mod_eq_sub_mod hj
          exact ⟨x, by rw [e1, List.getElem?_cons_succ]; exact h1, by rw [e2]; exact h2⟩
    refine ⟨(List.range len).map F, ⟨by rw [hfl], some a, m', by rw [hl], by rw [hl]; exact hlc, (fun h => by cases h), fun b hb hn => ?_⟩, by rw [hl]; omega, fun x hx => ?_⟩
    · cases hb
      rw [hl] at hn
      have hsp : a.spot = none := by
        have h0 := (hF 0 hn).1 0
        cases hc : (cells (F 0))[0]? with
        | none =>
          have := List.getElem?_eq_none_iff.1 hc
          rw [hlen] at this
          omega
        | some u =>
          have := h0 u hc
          rw [Nat.zero_mul] at this
          exact spot_none this
      obtain ⟨g, off, spot⟩ := a
      have hsp : spot = none := hsp
      subst hsp
      refine ⟨g, off, rfl, fun j u hu => ?_⟩
      obtain ⟨x, hx1, hx2⟩ := hget _ _ _ hu
      rw [List.getElem?_map] at hx1
      by_cases hj : j / sz < len
      · rw [List.getElem?_range hj] at hx1
        simp only [Option.map_some, Option.some.injEq] at hx1
        subst hx1
        have := (hF _ hj).1 _ _ hx2
        rw [addr_add, addr_add] at this
        have e := Nat.div_add_mod j sz
        rw [Nat.mul_comm] at e
        rw [show off + j = off + j / sz * sz + j % sz by omega]
        exact this
      · rw [List.getElem?_eq_none (by simpa using hj)] at hx1
        cases hx1
    · obtain ⟨i, hi, rfl⟩ := List.mem_map.1 hx
      exact (hF i (List.mem_range.1 hi)).2

/-- A value that came in. -/
structure V.inn (v : V) : Prop where
  int : -9223372036854775808 ≤ v.int ∧ v.int ≤ 9223372036854775807
  num : v.num < 2 ^ 64
  text : v.text.size ≤ reachBytes
/-- A condition that came in. -/
structure Cnd.inn (c : Cnd) : Prop where
  name : c.name.size ≤ reachBytes
  v : c.v.inn
/-- A filter that came in. -/
structure FilIn (W : World) (sc : ByteArray) (a : Option Addr) (cap : Nat) (cs : List Cnd) : Prop where
  rd : RdSl W 7 (.slice a cs.length cap) cs.length (cnds cs)
  sc : sc.size ≤ reachBytes
  len : cs.length ≤ maxLen
  cs : ∀ c ∈ cs, c.inn
/-- A rule that came in. -/
structure Ru.inn (W : World) (r : Ru) : Prop where
  who : r.who.size ≤ reachBytes
  name : r.name.size ≤ reachBytes
  fil : FilIn W r.sc r.ca r.cc r.cs
theorem open_valw {fuel : Nat} {cs : List Value} {x : DataW H × List MemPlace} (h : DataW.trod enc Tryz.prog W 0 (fun _ => true) true fuel 68 cs = some x) (hw : ∀ n ∈ DataW.weights Tryz.prog 68 x.1, n ≤ reachBytes) : ∃ v : V, cs = v.cells ∧ v.inn := by
  obtain ⟨xs, n1, -, hxd, hlen, hxs, hf⟩ := DataW.trod_struct Tryz.underlying68 h
  rw [show Tryz.prog.cellsOf 68 = 5 by kernel_rfl] at hlen
  have hx : ∀ i, i < 5 → ∃ y, xs[i]? = some y := fun i hi => by
    simp at hxs
    exact ⟨_, List.getElem?_eq_getElem (by omega)⟩
  rw [hxd] at hw
  have hw : ∀ n ∈ DataW.weights Tryz.prog 68 (.agg (xs.map (·.1)) : DataW H), n ≤ reachBytes := hw
  match cs, hlen with
  | [c0, c1, c2, c3, c4], _ =>
    obtain ⟨y0, h0⟩ := hx 0 (by omega)
    have f0 : DataW.trod enc Tryz.prog W 0 (fun _ => true) true n1 3 (([c0, c1, c2, c3, c4].drop 0).take (Tryz.prog.cellsOf 3)) = xs[0]? := hf 0 _ rfl
    rw [h0, show Tryz.prog.cellsOf 3 = 1 by kernel_rfl] at f0
    obtain ⟨z0, e0, -, w0⟩ := DataW.trod_int Tryz.underlying3 f0
    have e0 : [c0] = [.int .i64 z0] := e0
    have g0 : -9223372036854775808 ≤ z0 ∧ z0 ≤ 9223372036854775807 := by simpa [Lit.wf, IntKind.min, IntKind.max, IntKind.signed, IntKind.bits] using w0
    obtain ⟨y1, h1⟩ := hx 1 (by omega)
    have f1 : DataW.trod enc Tryz.prog W 0 (fun _ => true) true n1 2 (([c0, c1, c2, c3, c4].drop 1).take (Tryz.prog.cellsOf 2)) = xs[1]? := hf 1 _ rfl
    rw [h1, show Tryz.prog.cellsOf 2 = 1 by kernel_rfl] at f1
    obtain ⟨z1, e1, -, w1⟩ := DataW.trod_int Tryz.underlying2 f1
    have e1 : [c1] = [.int .i64 z1] := e1
    have g1 : -9223372036854775808 ≤ z1 ∧ z1 ≤ 9223372036854775807 := by simpa [Lit.wf, IntKind.min, IntKind.max, IntKind.signed, IntKind.bits] using w1
    obtain ⟨y2, h2⟩ := hx 2 (by omega)
    have f2 : DataW.trod enc Tryz.prog W 0 (fun _ => true) true n1 66 (([c0, c1, c2, c3, c4].drop 2).take (Tryz.prog.cellsOf 66)) = xs[2]? := hf 2 _ rfl
    rw [h2, show Tryz.prog.cellsOf 66 = 1 by kernel_rfl] at f2
    obtain ⟨z2, e2, w2⟩ := trod_f64 Tryz.underlying66 f2
    have e2 : [c2] = [.float .f64 z2] := e2
    obtain ⟨y3, h3⟩ := hx 3 (by omega)
    have f3 : DataW.trod enc Tryz.prog W 0 (fun _ => true) true n1 9 (([c0, c1, c2, c3, c4].drop 3).take (Tryz.prog.cellsOf 9)) = xs[3]? := hf 3 _ rfl
    rw [h3, show Tryz.prog.cellsOf 9 = 1 by kernel_rfl] at f3
    obtain ⟨z3, e3, u3, -⟩ := DataW.trod_string Tryz.underlying9 f3
    have e3 : [c3] = [.string z3] := e3
    have g3 : z3.size ≤ reachBytes := hw _ (weights_part Tryz.underlying68 (i := 3) (t := 9) rfl (by rw [List.getElem?_map, h3]; rfl) (by rw [u3]; simp [DataW.weights]))
    obtain ⟨y4, h4⟩ := hx 4 (by omega)
    have f4 : DataW.trod enc Tryz.prog W 0 (fun _ => true) true n1 4 (([c0, c1, c2, c3, c4].drop 4).take (Tryz.prog.cellsOf 4)) = xs[4]? := hf 4 _ rfl
    rw [h4, show Tryz.prog.cellsOf 4 = 1 by kernel_rfl] at f4
    obtain ⟨z4, e4, -⟩ := DataW.trod_bool Tryz.underlying4 f4
    have e4 : [c4] = [.bool z4] := e4
    cases e0
    cases e1
    cases e2
    cases e3
    cases e4
    exact ⟨⟨z0, z1, z2, z3, z4⟩, rfl, g1, w2, g3⟩
theorem open_cndw {fuel : Nat} {cs : List Value} {x : DataW H × List MemPlace} (h : DataW.trod enc Tryz.prog W 0 (fun _ => true) true fuel 132 cs = some x) (hw : ∀ n ∈ DataW.weights Tryz.prog 132 x.1, n ≤ reachBytes) : ∃ c : Cnd, cs = c.cells ∧ c.inn := by
  obtain ⟨xs, n1, -, hxd, hlen, hxs, hf⟩ := DataW.trod_struct Tryz.underlying132 h
  rw [show Tryz.prog.cellsOf 132 = 7 by kernel_rfl] at hlen
  have hx : ∀ i, i < 3 → ∃ y, xs[i]? = some y := fun i hi => by
    simp at hxs
    exact ⟨_, List.getElem?_eq_getElem (by omega)⟩
  rw [hxd] at hw
  have hw : ∀ n ∈ DataW.weights Tryz.prog 132 (.agg (xs.map (·.1)) : DataW H), n ≤ reachBytes := hw
  match cs, hlen with
  | [c0, c1, c2, c3, c4, c5, c6], _ =>
    obtain ⟨y0, h0⟩ := hx 0 (by omega)
    have f0 : DataW.trod enc Tryz.prog W 0 (fun _ => true) true n1 9 (([c0, c1, c2, c3, c4, c5, c6].drop 0).take (Tryz.prog.cellsOf 9)) = xs[0]? := hf 0 _ rfl
    rw [h0, show Tryz.prog.cellsOf 9 = 1 by kernel_rfl] at f0
    obtain ⟨z0, e0, u0, -⟩ := DataW.trod_string Tryz.underlying9 f0
    have e0 : [c0] = [.string z0] := e0
    have g0 : z0.size ≤ reachBytes := hw _ (weights_part Tryz.underlying132 (i := 0) (t := 9) rfl (by rw [List.getElem?_map, h0]; rfl) (by rw [u0]; simp [DataW.weights]))
    obtain ⟨y1, h1⟩ := hx 1 (by omega)
    have f1 : DataW.trod enc Tryz.prog W 0 (fun _ => true) true n1 3 (([c0, c1, c2, c3, c4, c5, c6].drop 1).take (Tryz.prog.cellsOf 3)) = xs[1]? := hf 1 _ rfl
    rw [h1, show Tryz.prog.cellsOf 3 = 1 by kernel_rfl] at f1
    obtain ⟨z1, e1, -, w1⟩ := DataW.trod_int Tryz.underlying3 f1
    have e1 : [c1] = [.int .i64 z1] := e1
    have g1 : -9223372036854775808 ≤ z1 ∧ z1 ≤ 9223372036854775807 := by simpa [Lit.wf, IntKind.min, IntKind.max, IntKind.signed, IntKind.bits] using w1
    obtain ⟨y2, h2⟩ := hx 2 (by omega)
    have f2 : DataW.trod enc Tryz.prog W 0 (fun _ => true) true n1 68 (([c0, c1, c2, c3, c4, c5, c6].drop 2).take (Tryz.prog.cellsOf 68)) = xs[2]? := hf 2 _ rfl
    rw [h2, show Tryz.prog.cellsOf 68 = 5 by kernel_rfl] at f2
    obtain ⟨z2, e2, g2⟩ := open_valw f2 (fun n hn => hw n (weights_part Tryz.underlying132 (i := 2) (t := 68) rfl (by rw [List.getElem?_map, h2]; rfl) hn))
    have e2 : [c2, c3, c4, c5, c6] = [.int .i64 z2.kind, .int .i64 z2.int, .float .f64 z2.num, .string z2.text, .bool z2.yes] := e2
    cases e0
    cases e1
    cases e2
    exact ⟨⟨z0, z1, z2⟩, rfl, g0, g2⟩
theorem open_filw {fuel : Nat} {cs : List Value} {x : DataW H × List MemPlace} (h : DataW.trod enc Tryz.prog W 0 (fun _ => true) true fuel 33 cs = some x) (hw : ∀ n ∈ DataW.weights Tryz.prog 33 x.1, n ≤ reachBytes) : ∃ (sc : ByteArray) (a : Option Addr) (cap : Nat) (l : List Cnd), cs = [.string sc, .slice a l.length cap] ∧ FilIn W sc a cap l := by
  obtain ⟨xs, n1, -, hxd, hlen, hxs, hf⟩ := DataW.trod_struct Tryz.underlying33 h
  rw [show Tryz.prog.cellsOf 33 = 2 by kernel_rfl] at hlen
  have hx : ∀ i, i < 2 → ∃ y, xs[i]? = some y := fun i hi => by
    simp at hxs
    exact ⟨_, List.getElem?_eq_getElem (by omega)⟩
  rw [hxd] at hw
  have hw : ∀ n ∈ DataW.weights Tryz.prog 33 (.agg (xs.map (·.1)) : DataW H), n ≤ reachBytes := hw
  match cs, hlen with
  | [c0, c1], _ =>
    obtain ⟨y0, h0⟩ := hx 0 (by omega)
    have f0 : DataW.trod enc Tryz.prog W 0 (fun _ => true) true n1 9 (([c0, c1].drop 0).take (Tryz.prog.cellsOf 9)) = xs[0]? := hf 0 _ rfl
    rw [h0, show Tryz.prog.cellsOf 9 = 1 by kernel_rfl] at f0
    obtain ⟨z0, e0, u0, -⟩ := DataW.trod_string Tryz.underlying9 f0
    have e0 : [c0] = [.string z0] := e0
    have g0 : z0.size ≤ reachBytes := hw _ (weights_part Tryz.underlying33 (i := 0) (t := 9) rfl (by rw [List.getElem?_map, h0]; rfl) (by rw [u0]; simp [DataW.weights]))
    obtain ⟨y1, h1⟩ := hx 1 (by omega)
    have f1 : DataW.trod enc Tryz.prog W 0 (fun _ => true) true n1 31 (([c0, c1].drop 1).take (Tryz.prog.cellsOf 31)) = xs[1]? := hf 1 _ rfl
    rw [h1, show Tryz.prog.cellsOf 31 = 1 by kernel_rfl] at f1
    have f1 : DataW.trod enc Tryz.prog W 0 (fun _ => true) true n1 31 [c1] = some y1 := f1
    obtain ⟨l1, k1, m1, p1⟩ := open_roww (W := W) (v := c1) (sz := 7) Cnd.cells Cnd.cells_length (by decide) Tryz.underlying31 (by kernel_rfl) ⟨⟨#[]⟩, 0, V.zero⟩ Cnd.inn (fun _ _ _ h hw => open_cndw h hw) f1 (fun n hn => hw n (weights_part Tryz.underlying33 (i := 1) (t := 31) rfl (by rw [List.getElem?_map, h1]; rfl) hn))
    obtain ⟨a1, cap1, rfl⟩ : ∃ A cap, c1 = .slice A l1.length cap := by
      obtain ⟨-, a', c', k5, -⟩ := k1
      exact ⟨a', c', k5⟩
    cases e0
    exact ⟨z0, a1, cap1, l1, rfl, k1, g0, m1, p1⟩
theorem open_rulew {fuel : Nat} {cs : List Value} {x : DataW H × List MemPlace} (h : DataW.trod enc Tryz.prog W 0 (fun _ => true) true fuel 35 cs = some x) (hw : ∀ n ∈ DataW.weights Tryz.prog 35 x.1, n ≤ reachBytes) : ∃ r : Ru, cs = r.cells ∧ r.inn W := by
  obtain ⟨xs, n1, -, hxd, hlen, hxs, hf⟩ := DataW.trod_struct Tryz.underlying35 h
  rw [show Tryz.prog.cellsOf 35 = 8 by kernel_rfl] at hlen
  have hx : ∀ i, i < 7 → ∃ y, xs[i]? = some y := fun i hi => by
    simp at hxs
    exact ⟨_, List.getElem?_eq_getElem (by omega)⟩
  rw [hxd] at hw
  have hw : ∀ n ∈ DataW.weights Tryz.prog 35 (.agg (xs.map (·.1)) : DataW H), n ≤ reachBytes := hw
  match cs, hlen with
  | [c0, c1, c2, c3, c4, c5, c6, c7], _ =>
    obtain ⟨y0, h0⟩ := hx 0 (by omega)
    have f0 : DataW.trod enc Tryz.prog W 0 (fun _ => true) true n1 3 (([c0, c1, c2, c3, c4, c5, c6, c7].drop 0).take (Tryz.prog.cellsOf 3)) = xs[0]? := hf 0 _ rfl
    rw [h0, show Tryz.prog.cellsOf 3 = 1 by kernel_rfl] at f0
    obtain ⟨z0, e0, -, w0⟩ := DataW.trod_int Tryz.underlying3 f0
    have e0 : [c0] = [.int .i64 z0] := e0
    have g0 : -9223372036854775808 ≤ z0 ∧ z0 ≤ 9223372036854775807 := by simpa [Lit.wf, IntKind.min, IntKind.max, IntKind.signed, IntKind.bits] using w0
    obtain ⟨y1, h1⟩ := hx 1 (by omega)
    have f1 : DataW.trod enc Tryz.prog W 0 (fun _ => true) true n1 3 (([c0, c1, c2, c3, c4, c5, c6, c7].drop 1).take (Tryz.prog.cellsOf 3)) = xs[1]? := hf 1 _ rfl
    rw [h1, show Tryz.prog.cellsOf 3 = 1 by kernel_rfl] at f1
    obtain ⟨z1, e1, -, w1⟩ := DataW.trod_int Tryz.underlying3 f1
    have e1 : [c1] = [.int .i64 z1] := e1
    have g1 : -9223372036854775808 ≤ z1 ∧ z1 ≤ 9223372036854775807 := by simpa [Lit.wf, IntKind.min, IntKind.max, IntKind.signed, IntKind.bits] using w1
    obtain ⟨y2, h2⟩ := hx 2 (by omega)
    have f2 : DataW.trod enc Tryz.prog W 0 (fun _ => true) true n1 9 (([c0, c1, c2, c3, c4, c5, c6, c7].drop 2).take (Tryz.prog.cellsOf 9)) = xs[2]? := hf 2 _ rfl
    rw [h2, show Tryz.prog.cellsOf 9 = 1 by kernel_rfl] at f2
    obtain ⟨z2, e2, u2, -⟩ := DataW.trod_string Tryz.underlying9 f2
    have e2 : [c2] = [.string z2] := e2
    have g2 : z2.size ≤ reachBytes := hw _ (weights_part Tryz.underlying35 (i := 2) (t := 9) rfl (by rw [List.getElem?_map, h2]; rfl) (by rw [u2]; simp [DataW.weights]))
    obtain ⟨y3, h3⟩ := hx 3 (by omega)
    have f3 : DataW.trod enc Tryz.prog W 0 (fun _ => true) true n1 3 (([c0, c1, c2, c3, c4, c5, c6, c7].drop 3).take (Tryz.prog.cellsOf 3)) = xs[3]? := hf 3 _ rfl
    rw [h3, show Tryz.prog.cellsOf 3 = 1 by kernel_rfl] at f3
    obtain ⟨z3, e3, -, w3⟩ := DataW.trod_int Tryz.underlying3 f3
    have e3 : [c3] = [.int .i64 z3] := e3
    have g3 : -9223372036854775808 ≤ z3 ∧ z3 ≤ 9223372036854775807 := by simpa [Lit.wf, IntKind.min, IntKind.max, IntKind.signed, IntKind.bits] using w3
    obtain ⟨y4, h4⟩ := hx 4 (by omega)
    have f4 : DataW.trod enc Tryz.prog W 0 (fun _ => true) true n1 33 (([c0, c1, c2, c3, c4, c5, c6, c7].drop 4).take (Tryz.prog.cellsOf 33)) = xs[4]? := hf 4 _ rfl
    rw [h4, show Tryz.prog.cellsOf 33 = 2 by kernel_rfl] at f4
    obtain ⟨s4, a4, k4, l4, e4, g4⟩ := open_filw f4 (fun n hn => hw n (weights_part Tryz.underlying35 (i := 4) (t := 33) rfl (by rw [List.getElem?_map, h4]; rfl) hn))
    have e4 : [c4, c5] = [.string s4, .slice a4 l4.length k4] := e4
    obtain ⟨y5, h5⟩ := hx 5 (by omega)
    have f5 : DataW.trod enc Tryz.prog W 0 (fun _ => true) true n1 9 (([c0, c1, c2, c3, c4, c5, c6, c7].drop 6).take (Tryz.prog.cellsOf 9)) = xs[5]? := hf 5 _ rfl
    rw [h5, show Tryz.prog.cellsOf 9 = 1 by kernel_rfl] at f5
    obtain ⟨z5, e5, u5, -⟩ := DataW.trod_string Tryz.underlying9 f5
    have e5 : [c6] = [.string z5] := e5
    have g5 : z5.size ≤ reachBytes := hw _ (weights_part Tryz.underlying35 (i := 5) (t := 9) rfl (by rw [List.getElem?_map, h5]; rfl) (by rw [u5]; simp [DataW.weights]))
    obtain ⟨y6, h6⟩ := hx 6 (by omega)
    have f6 : DataW.trod enc Tryz.prog W 0 (fun _ => true) true n1 3 (([c0, c1, c2, c3, c4, c5, c6, c7].drop 7).take (Tryz.prog.cellsOf 3)) = xs[6]? := hf 6 _ rfl
    rw [h6, show Tryz.prog.cellsOf 3 = 1 by kernel_rfl] at f6
    obtain ⟨z6, e6, -, w6⟩ := DataW.trod_int Tryz.underlying3 f6
    have e6 : [c7] = [.int .i64 z6] := e6
    have g6 : -9223372036854775808 ≤ z6 ∧ z6 ≤ 9223372036854775807 := by simpa [Lit.wf, IntKind.min, IntKind.max, IntKind.signed, IntKind.bits] using w6
    cases e0
    cases e1
    cases e2
    cases e3
    cases e4
    cases e5
    cases e6
    exact ⟨⟨z0, z1, z2, z3, s4, a4, k4, z5, z6, l4⟩, rfl, g2, g5, g4⟩
theorem open_rulesw {base : Nat} {v : Value} {d : DataW H} {p : List MemPlace} (hok : Value.okWide Tryz.prog W .any base 22 v)
    (h : DataW.Trod enc Tryz.prog W 0 (fun _ => true) true 22 v d p) (hw : ∀ n ∈ DataW.weights Tryz.prog 22 d, n ≤ reachBytes) : ∃ l : List Ru, RdSl W 8 v l.length (rus l) ∧ l.length ≤ maxLen ∧ ∀ r ∈ l, r.inn W := by
  obtain ⟨m, hm⟩ := h
  obtain ⟨A, n, cap, rfl⟩ := okWide_slice Tryz.underlying22 hok
  obtain ⟨l, h1, h2, h3⟩ := open_roww (W := W) (v := .slice A n cap) (sz := 8) Ru.cells Ru.cells_length (by decide) Tryz.underlying22 (by kernel_rfl) ⟨0, 0, ⟨#[]⟩, 0, ⟨#[]⟩, none, 0, ⟨#[]⟩, 0, []⟩ (fun r => r.inn W) (fun _ _ _ h hw => open_rulew h hw) hm hw
  exact ⟨l, h1, h2, h3⟩
theorem open_intsw {base : Nat} {v : Value} {d : DataW H} {p : List MemPlace} (hok : Value.okWide Tryz.prog W .any base 23 v)
    (h : DataW.Trod enc Tryz.prog W 0 (fun _ => true) true 23 v d p) (hw : ∀ n ∈ DataW.weights Tryz.prog 23 d, n ≤ reachBytes) : ∃ l : List Int, RdSl W 1 v l.length (l.map (Value.int .i64)) ∧ l.length ≤ maxLen := by
  obtain ⟨m, hm⟩ := h
  obtain ⟨A, n, cap, rfl⟩ := okWide_slice Tryz.underlying23 hok
  obtain ⟨l, h1, h2, -⟩ := open_roww (W := W) (v := .slice A n cap) (sz := 1) (fun x : Int => [.int .i64 x]) (fun _ => rfl) (by decide) Tryz.underlying23 (by kernel_rfl) 0 (fun _ => True) (fun _ _ _ h _ => by
    obtain ⟨z, hz, -⟩ := DataW.trod_int Tryz.underlying3 h
    exact ⟨z, hz, trivial⟩) hm hw
  refine ⟨l, ?_, h2⟩
  rw [List.map_eq_flatMap]
  exact h1
end
end Go.Proofs.YtaenebdppkjhoaaGreatDoor
