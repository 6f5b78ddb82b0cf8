/-
  An argument of attributes, opened.
-/
import Derived.Test.YtfpghpicknnfgaaIns
import Derived.Test.YtfpghpicknnfgaaRow
import Derived.Deep.Grids
namespace Go.Proofs.Ytfpghpicknnfgaa
open Go.ChangeShapes Go.WideShapes Go.ChangeAt Go.RowKit

theorem trod_f64 {H : Type} {enc : TypeId × Value → H} {W : World} {base : Nat} {spare : Nat → Bool} {held : Bool} {fuel : Nat} {t : TypeId} {cs : List Value} {x : DataW H × List MemPlace} (ht : Try.prog.underlying t = some (.float .f64))
    (h : DataW.trod enc Try.prog W base spare held fuel t cs = some x) : ∃ b, cs = [.float .f64 b] ∧ b < 2 ^ 64 := by
  cases fuel with
  | zero => simp [DataW.trod] at h
  | succ n =>
    unfold DataW.trod at h
    rw [ht] at h
    split at h
    all_goals first
      | (simp_all; done)
      | (rename_i k k' b heq
         simp only [Option.some.injEq, TypeDesc.float.injEq] at heq
         subst heq
         split at h
         · rename_i hc
           obtain ⟨rfl, hw⟩ := hc
           simp only [Lit.wf, decide_eq_true_eq] at hw
           exact ⟨_, rfl, hw⟩
         · cases h)

theorem open_valt {H : Type} {enc : TypeId × Value → H} {W : World} {base : Nat} {spare : Nat → Bool} {held : Bool} {fuel : Nat} {cs : List Value} {x : DataW H × List MemPlace}
    (h : DataW.trod enc Try.prog W base spare held fuel 55 cs = some x) : ∃ v : V, cs = v.cells ∧ (-9223372036854775808 ≤ v.int ∧ v.int ≤ 9223372036854775807) ∧ v.num < 2 ^ 64 ∧ v.text.size ≤ maxLen := by
  obtain ⟨xs, n1, -, -, hlen, hxs, hf⟩ := DataW.trod_struct Try.underlying55 h
  rw [show Try.prog.cellsOf 55 = 5 by kernel_rfl] at hlen
  have hx : ∀ i, i < 5 → ∃ y, xs[i]? = some y := fun i hi => by
    simp at hxs
    exact ⟨_, List.getElem?_eq_getElem (by omega)⟩
  match cs, hlen with
  | [c0, c1, c2, c3, c4], _ =>
    obtain ⟨y0, h0⟩ := hx 0 (by omega)
    obtain ⟨y1, h1⟩ := hx 1 (by omega)
    obtain ⟨y2, h2⟩ := hx 2 (by omega)
    obtain ⟨y3, h3⟩ := hx 3 (by omega)
    obtain ⟨y4, h4⟩ := hx 4 (by omega)
    have f0 : DataW.trod enc Try.prog W base spare held n1 3 (([c0, c1, c2, c3, c4].drop 0).take (Try.prog.cellsOf 3)) = xs[0]? := hf 0 _ rfl
    have f1 : DataW.trod enc Try.prog W base spare held n1 2 (([c0, c1, c2, c3, c4].drop 1).take (Try.prog.cellsOf 2)) = xs[1]? := hf 1 _ rfl
    have f2 : DataW.trod enc Try.prog W base spare held n1 49 (([c0, c1, c2, c3, c4].drop 2).take (Try.prog.cellsOf 49)) = xs[2]? := hf 2 _ rfl
    have f3 : DataW.trod enc Try.prog W base spare held n1 9 (([c0, c1, c2, c3, c4].drop 3).take (Try.prog.cellsOf 9)) = xs[3]? := hf 3 _ rfl
    have f4 : DataW.trod enc Try.prog W base spare held n1 4 (([c0, c1, c2, c3, c4].drop 4).take (Try.prog.cellsOf 4)) = xs[4]? := hf 4 _ rfl
    rw [h0] at f0
    rw [h1] at f1
    rw [h2] at f2
    rw [h3] at f3
    rw [h4] at f4
    rw [show Try.prog.cellsOf 3 = 1 by kernel_rfl] at f0
    rw [show Try.prog.cellsOf 2 = 1 by kernel_rfl] at f1
    rw [show Try.prog.cellsOf 49 = 1 by kernel_rfl] at f2
    rw [show Try.prog.cellsOf 9 = 1 by kernel_rfl] at f3
    rw [show Try.prog.cellsOf 4 = 1 by kernel_rfl] at f4
    obtain ⟨z0, e0, -⟩ := DataW.trod_int Try.underlying3 f0
    obtain ⟨z1, e1, -, w1⟩ := DataW.trod_int Try.underlying2 f1
    obtain ⟨z2, e2, w2⟩ := trod_f64 Try.underlying49 f2
    obtain ⟨z3, e3, -, w3⟩ := DataW.trod_string Try.underlying9 f3
    obtain ⟨z4, e4, -⟩ := DataW.trod_bool Try.underlying4 f4
    have e0 : [c0] = [.int .i64 z0] := e0
    have e1 : [c1] = [.int .i64 z1] := e1
    have e2 : [c2] = [.float .f64 z2] := e2
    have e3 : [c3] = [.string z3] := e3
    have e4 : [c4] = [.bool z4] := e4
    cases e0
    cases e1
    cases e2
    cases e3
    cases e4
    simp only [Lit.wf, Bool.and_eq_true, decide_eq_true_eq] at w1
    exact ⟨⟨z0, z1, z2, z3, z4⟩, rfl, ⟨w1.1, w1.2⟩, w2, w3⟩

theorem open_att {H : Type} {enc : TypeId × Value → H} {W : World} {base : Nat} {spare : Nat → Bool} {held : Bool} {fuel : Nat} {cs : List Value} {x : DataW H × List MemPlace}
    (h : DataW.trod enc Try.prog W base spare held fuel 80 cs = some x) : ∃ c : Att, cs = c.cells ∧ c.name.size ≤ maxLen ∧ c.v.text.size ≤ maxLen ∧ (-9223372036854775808 ≤ c.v.int ∧ c.v.int ≤ 9223372036854775807) ∧ c.v.num < 2 ^ 64 := by
  obtain ⟨xs, n1, -, -, hlen, hxs, hf⟩ := DataW.trod_struct Try.underlying80 h
  rw [show Try.prog.cellsOf 80 = 6 by kernel_rfl] at hlen
  have hx : ∀ i, i < 2 → ∃ y, xs[i]? = some y := fun i hi => by
    simp at hxs
    exact ⟨_, List.getElem?_eq_getElem (by omega)⟩
  match cs, hlen with
  | [c0, c2, c3, c4, c5, c6], _ =>
    obtain ⟨y0, h0⟩ := hx 0 (by omega)
    obtain ⟨y2, h2⟩ := hx 1 (by omega)
    have f0 : DataW.trod enc Try.prog W base spare held n1 9 (([c0, c2, c3, c4, c5, c6].drop 0).take (Try.prog.cellsOf 9)) = xs[0]? := hf 0 _ rfl
    have f2 : DataW.trod enc Try.prog W base spare held n1 55 (([c0, c2, c3, c4, c5, c6].drop 1).take (Try.prog.cellsOf 55)) = xs[1]? := hf 1 _ rfl
    rw [h0, show Try.prog.cellsOf 9 = 1 by kernel_rfl] at f0
    rw [h2, show Try.prog.cellsOf 55 = 5 by kernel_rfl] at f2
    obtain ⟨z0, e0, -, l0⟩ := DataW.trod_string Try.underlying9 f0
    obtain ⟨z2, e2, w2, n2, l2⟩ := open_valt f2
    have e0 : [c0] = [.string z0] := e0
    have e2 : [c2, c3, c4, c5, c6] = z2.cells := e2
    cases e0
    exact ⟨⟨z0, z2⟩, (by show _ = Value.string z0 :: z2.cells; rw [← e2]; rfl), l0, l2, w2, n2⟩

theorem atts_get {l : List Att} {j : Nat} {u : Value} (h : (atts l)[j]? = some u) : ∃ x, l[j / 6]? = some x ∧ x.cells[j % 6]? = some u := by
  have hl : (atts l).length = l.length * 6 := by
    clear h
    induction l with
    | nil => rfl
    | cons a l ih =>
      show (a.cells ++ atts l).length = _
      rw [List.length_append, ih, Att.cells_length, List.length_cons]
      omega
  have hj := (List.getElem?_eq_some_iff.1 h).1
  have hk : j / 6 < l.length := by omega
  obtain ⟨x, hx⟩ : ∃ x, l[j / 6]? = some x := ⟨_, List.getElem?_eq_getElem hk⟩
  obtain ⟨y, hy⟩ : ∃ y, x.cells[j % 6]? = some y := ⟨_, List.getElem?_eq_getElem (by rw [Att.cells_length]; omega)⟩
  have := atts_at l hx hy
  rw [show 6 * (j / 6) + j % 6 = j by omega, h] at this
  exact ⟨x, hx, by rw [hy]; exact this.symm⟩

theorem open_atts {H : Type} {enc : TypeId × Value → H} {W : World} {base : Nat} {v : Value} {d : DataW H} {p : List MemPlace} (hok : Value.okWide Try.prog W .any base 24 v)
    (h : DataW.Trod enc Try.prog W 0 (fun _ => true) true 24 v d p) : ∃ l : List Att, RdSl W 6 v l.length (atts l) ∧ l.length ≤ maxLen ∧ ∀ x ∈ l, x.name.size ≤ maxLen ∧ x.v.text.size ≤ maxLen ∧ (-9223372036854775808 ≤ x.v.int ∧ x.v.int ≤ 9223372036854775807) ∧ x.v.num < 2 ^ 64 := by
  obtain ⟨A, n, cap, rfl⟩ := okWide_slice Try.underlying24 hok
  obtain ⟨m, hm⟩ := h
  rcases Go.Deep.open_slice Try.underlying24 hm with ⟨hcs, -⟩ | ⟨a, len, cap', m', k, D, Pl, hcs, -, hlc, hcm, hmm, -, hcell⟩
  · have hcs : [Value.slice A n cap] = _ := hcs
    simp only [List.cons.injEq, and_true, Value.slice.injEq] at hcs
    obtain ⟨rfl, rfl, rfl⟩ := hcs
    exact ⟨[], ⟨rfl, none, 0, rfl, Nat.le_refl _, fun _ => rfl, fun b hb => (by cases hb)⟩, Nat.zero_le _, fun x hx => (by cases hx)⟩
  · have hcs : [Value.slice A n cap] = _ := hcs
    simp only [List.cons.injEq, and_true, Value.slice.injEq] at hcs
    obtain ⟨rfl, rfl, rfl⟩ := hcs
    simp only [if_true] at hmm
    subst hmm
    have hsp : a.spot = none := by
      simp only [Value.okWide, Try.underlying24, Cell.okWide, Cell.ok, World.has] at hok
      exact hok.2.2.2.1
    clear hm hcs hok
    obtain ⟨g, off, spot⟩ := a
    have hsp : spot = none := hsp
    subst hsp
    rw [show Try.prog.cellsOf 80 = 6 by kernel_rfl] at hcell
    have hall : ∀ i, i < n → ∃ x : Att, (∀ q u, x.cells[q]? = some u → W.cell? ⟨g, off + (i * 6 + q), none⟩ = some u) ∧ x.name.size ≤ maxLen ∧ x.v.text.size ≤ maxLen ∧ (-9223372036854775808 ≤ x.v.int ∧ x.v.int ≤ 9223372036854775807) ∧ x.v.num < 2 ^ 64 := fun i hi => by
      obtain ⟨cs, h1, h2⟩ := hcell i (by omega)
      obtain ⟨x, rfl, h3⟩ := open_att h2
      obtain ⟨-, h5, h6⟩ := World.cells?_some h1
      refine ⟨x, fun q u hq => ?_, h3⟩
      have := h6 q (by have := (List.getElem?_eq_some_iff.1 hq).1; rw [Att.cells_length] at this; exact this)
      rw [addr_add, addr_add, hq] at this
      rw [← Nat.add_assoc]
      exact this
    obtain ⟨F, hF⟩ : ∃ F : Nat → Att, ∀ i, i < n → (∀ q u, (F i).cells[q]? = some u → W.cell? ⟨g, off + (i * 6 + q), none⟩ = some u) ∧ (F i).name.size ≤ maxLen ∧ (F i).v.text.size ≤ maxLen ∧ (-9223372036854775808 ≤ (F i).v.int ∧ (F i).v.int ≤ 9223372036854775807) ∧ (F i).v.num < 2 ^ 64 :=
      ⟨fun i => if h : i < n then (hall i h).choose else ⟨⟨#[]⟩, V.zero⟩, fun i hi => by simp only [dif_pos hi]; exact (hall i hi).choose_spec⟩
    have hlen : ((List.range n).map F).length = n := by simp
    refine ⟨(List.range n).map F, ⟨?_, some ⟨g, off, none⟩, m', by rw [hlen], by rw [hlen]; exact hlc, (fun h => by cases h), fun b hb => ⟨g, off, (by cases hb; rfl), fun j u hu => ?_⟩⟩, by rw [hlen]; omega, fun x hx => ?_⟩
    · clear hF hall hcell
      induction (List.range n).map F with
      | nil => rfl
      | cons a l ih =>
        show (a.cells ++ atts l).length = _
        rw [List.length_append, ih, Att.cells_length, List.length_cons]
        omega
    · obtain ⟨x, hx1, hx2⟩ := atts_get hu
      rw [List.getElem?_map] at hx1
      by_cases hj : j / 6 < n
      · rw [List.getElem?_range hj] at hx1
        simp only [Option.map_some, Option.some.injEq] at hx1
        subst hx1
        have := (hF _ hj).1 _ _ hx2
        rw [show j / 6 * 6 + j % 6 = j by omega] at this
        exact this
      · rw [List.getElem?_eq_none (by simpa using hj)] at hx1
        cases hx1
    · obtain ⟨i, hi, rfl⟩ := List.mem_map.1 hx
      exact (hF i (List.mem_range.1 hi)).2

end Go.Proofs.Ytfpghpicknnfgaa
