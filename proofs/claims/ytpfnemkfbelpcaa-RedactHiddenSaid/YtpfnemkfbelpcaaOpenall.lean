/-
  An argument that is a rule, opened.
  Arguments that are slices of rules, pairs of ints, filters, opened.
  An argument that is an event, opened.
-/
import Derived.Test.YtpfnemkfbelpcaaRule
import Derived.Test.YtpfnemkfbelpcaaField
import Derived.Deep.Grids
import Derived.Lib.SmallJoins
import Derived.Test.YtpfnemkfbelpcaaMask
import Derived.Test.YtpfnemkfbelpcaaRight
namespace Go.Proofs.Ytpfnemkfbelpcaa
set_option maxRecDepth 20000
open Go.ChangeShapes Go.WideShapes Go.ChangeAt Go.RowKit

theorem trod_f64 {H : Type} {enc : TypeId × Value → H} {W : World} {base : Nat} {spare : Nat → Bool} {held : Bool} {fuel : Nat} {t : TypeId} {cs : List Value} {x : DataW H × List MemPlace} (ht : Try.prog.underlying t = some (.float .f64))
    (h : DataW.trod enc Try.prog W base spare held fuel t cs = some x) : ∃ b, cs = [.float .f64 b] ∧ b < 2 ^ 64 := by
  cases fuel with
  | zero => simp [DataW.trod] at h
  | succ n =>
    unfold DataW.trod at h
    rw [ht] at h
    split at h
    all_goals first
      | (simp_all; done)
      | (rename_i k k' b heq
         simp only [Option.some.injEq, TypeDesc.float.injEq] at heq
         subst heq
         split at h
         · rename_i hc
           obtain ⟨rfl, hw⟩ := hc
           simp only [Lit.wf, decide_eq_true_eq] at hw
           exact ⟨_, rfl, hw⟩
         · cases h)

theorem open_valt {H : Type} {enc : TypeId × Value → H} {W : World} {base : Nat} {spare : Nat → Bool} {held : Bool} {fuel : Nat} {cs : List Value} {x : DataW H × List MemPlace}
    (h : DataW.trod enc Try.prog W base spare held fuel 46 cs = some x) : ∃ v : V, cs = v.cells ∧ (-9223372036854775808 ≤ v.int ∧ v.int ≤ 9223372036854775807) ∧ v.num < 2 ^ 64 ∧ v.text.size ≤ maxLen := by
  obtain ⟨xs, n1, -, -, hlen, hxs, hf⟩ := DataW.trod_struct Try.underlying46 h
  rw [show Try.prog.cellsOf 46 = 5 by kernel_rfl] at hlen
  have hx : ∀ i, i < 5 → ∃ y, xs[i]? = some y := fun i hi => by
    simp at hxs
    exact ⟨_, List.getElem?_eq_getElem (by omega)⟩
  match cs, hlen with
  | [c0, c1, c2, c3, c4], _ =>
    obtain ⟨y0, h0⟩ := hx 0 (by omega)
    obtain ⟨y1, h1⟩ := hx 1 (by omega)
    obtain ⟨y2, h2⟩ := hx 2 (by omega)
    obtain ⟨y3, h3⟩ := hx 3 (by omega)
    obtain ⟨y4, h4⟩ := hx 4 (by omega)
    have f0 : DataW.trod enc Try.prog W base spare held n1 3 (([c0, c1, c2, c3, c4].drop 0).take (Try.prog.cellsOf 3)) = xs[0]? := hf 0 _ rfl
    have f1 : DataW.trod enc Try.prog W base spare held n1 2 (([c0, c1, c2, c3, c4].drop 1).take (Try.prog.cellsOf 2)) = xs[1]? := hf 1 _ rfl
    have f2 : DataW.trod enc Try.prog W base spare held n1 44 (([c0, c1, c2, c3, c4].drop 2).take (Try.prog.cellsOf 44)) = xs[2]? := hf 2 _ rfl
    have f3 : DataW.trod enc Try.prog W base spare held n1 9 (([c0, c1, c2, c3, c4].drop 3).take (Try.prog.cellsOf 9)) = xs[3]? := hf 3 _ rfl
    have f4 : DataW.trod enc Try.prog W base spare held n1 4 (([c0, c1, c2, c3, c4].drop 4).take (Try.prog.cellsOf 4)) = xs[4]? := hf 4 _ rfl
    rw [h0] at f0
    rw [h1] at f1
    rw [h2] at f2
    rw [h3] at f3
    rw [h4] at f4
    rw [show Try.prog.cellsOf 3 = 1 by kernel_rfl] at f0
    rw [show Try.prog.cellsOf 2 = 1 by kernel_rfl] at f1
    rw [show Try.prog.cellsOf 44 = 1 by kernel_rfl] at f2
    rw [show Try.prog.cellsOf 9 = 1 by kernel_rfl] at f3
    rw [show Try.prog.cellsOf 4 = 1 by kernel_rfl] at f4
    obtain ⟨z0, e0, -⟩ := DataW.trod_int Try.underlying3 f0
    obtain ⟨z1, e1, -, w1⟩ := DataW.trod_int Try.underlying2 f1
    obtain ⟨z2, e2, w2⟩ := trod_f64 Try.underlying44 f2
    obtain ⟨z3, e3, -, w3⟩ := DataW.trod_string Try.underlying9 f3
    obtain ⟨z4, e4, -⟩ := DataW.trod_bool Try.underlying4 f4
    have e0 : [c0] = [.int .i64 z0] := e0
    have e1 : [c1] = [.int .i64 z1] := e1
    have e2 : [c2] = [.float .f64 z2] := e2
    have e3 : [c3] = [.string z3] := e3
    have e4 : [c4] = [.bool z4] := e4
    cases e0
    cases e1
    cases e2
    cases e3
    cases e4
    simp only [Lit.wf, Bool.and_eq_true, decide_eq_true_eq] at w1
    exact ⟨⟨z0, z1, z2, z3, z4⟩, rfl, ⟨w1.1, w1.2⟩, w2, w3⟩

theorem open_cnd {H : Type} {enc : TypeId × Value → H} {W : World} {base : Nat} {spare : Nat → Bool} {held : Bool} {fuel : Nat} {cs : List Value} {x : DataW H × List MemPlace}
    (h : DataW.trod enc Try.prog W base spare held fuel 68 cs = some x) : ∃ c : Cnd, cs = c.cells ∧ c.name.size ≤ maxLen ∧ c.v.text.size ≤ maxLen ∧ (-9223372036854775808 ≤ c.v.int ∧ c.v.int ≤ 9223372036854775807) ∧ c.v.num < 2 ^ 64 := by
  obtain ⟨xs, n1, -, -, hlen, hxs, hf⟩ := DataW.trod_struct Try.underlying68 h
  rw [show Try.prog.cellsOf 68 = 7 by kernel_rfl] at hlen
  have hx : ∀ i, i < 3 → ∃ y, xs[i]? = some y := fun i hi => by
    simp at hxs
    exact ⟨_, List.getElem?_eq_getElem (by omega)⟩
  match cs, hlen with
  | [c0, c1, c2, c3, c4, c5, c6], _ =>
    obtain ⟨y0, h0⟩ := hx 0 (by omega)
    obtain ⟨y1, h1⟩ := hx 1 (by omega)
    obtain ⟨y2, h2⟩ := hx 2 (by omega)
    have f0 : DataW.trod enc Try.prog W base spare held n1 9 (([c0, c1, c2, c3, c4, c5, c6].drop 0).take (Try.prog.cellsOf 9)) = xs[0]? := hf 0 _ rfl
    have f1 : DataW.trod enc Try.prog W base spare held n1 3 (([c0, c1, c2, c3, c4, c5, c6].drop 1).take (Try.prog.cellsOf 3)) = xs[1]? := hf 1 _ rfl
    have f2 : DataW.trod enc Try.prog W base spare held n1 46 (([c0, c1, c2, c3, c4, c5, c6].drop 2).take (Try.prog.cellsOf 46)) = xs[2]? := hf 2 _ rfl
    rw [h0, show Try.prog.cellsOf 9 = 1 by kernel_rfl] at f0
    rw [h1, show Try.prog.cellsOf 3 = 1 by kernel_rfl] at f1
    rw [h2, show Try.prog.cellsOf 46 = 5 by kernel_rfl] at f2
    obtain ⟨z0, e0, -, l0⟩ := DataW.trod_string Try.underlying9 f0
    obtain ⟨z1, e1, -⟩ := DataW.trod_int Try.underlying3 f1
    obtain ⟨z2, e2, w2, n2, l2⟩ := open_valt f2
    have e0 : [c0] = [.string z0] := e0
    have e1 : [c1] = [.int .i64 z1] := e1
    have e2 : [c2, c3, c4, c5, c6] = z2.cells := e2
    cases e0
    cases e1
    exact ⟨⟨z0, z1, z2⟩, (by show _ = Value.string z0 :: Value.int .i64 z1 :: z2.cells; rw [← e2]; rfl), l0, l2, w2, n2⟩

theorem cnds_get {l : List Cnd} {j : Nat} {u : Value} (h : (cnds l)[j]? = some u) : ∃ x, l[j / 7]? = some x ∧ x.cells[j % 7]? = some u := by
  have hl : (cnds l).length = l.length * 7 := by
    clear h
    induction l with
    | nil => rfl
    | cons a l ih =>
      show (a.cells ++ cnds l).length = _
      rw [List.length_append, ih, Cnd.cells_length, List.length_cons]
      omega
  have hj := (List.getElem?_eq_some_iff.1 h).1
  have hk : j / 7 < l.length := by omega
  obtain ⟨x, hx⟩ : ∃ x, l[j / 7]? = some x := ⟨_, List.getElem?_eq_getElem hk⟩
  obtain ⟨y, hy⟩ : ∃ y, x.cells[j % 7]? = some y := ⟨_, List.getElem?_eq_getElem (by rw [Cnd.cells_length]; omega)⟩
  have := cnds_at l hx hy
  rw [show 7 * (j / 7) + j % 7 = j by omega, h] at this
  exact ⟨x, hx, by rw [hy]; exact this.symm⟩

theorem open_cnds {H : Type} {enc : TypeId × Value → H} {W : World} {base : Nat} {v : Value} {d : DataW H} {p : List MemPlace} (hok : Value.okWide Try.prog W .any base 31 v)
    (h : DataW.Trod enc Try.prog W 0 (fun _ => true) true 31 v d p) : ∃ l : List Cnd, RdSl W 7 v l.length (cnds l) ∧ l.length ≤ maxLen ∧ ∀ x ∈ l, x.name.size ≤ maxLen ∧ x.v.text.size ≤ maxLen ∧ (-9223372036854775808 ≤ x.v.int ∧ x.v.int ≤ 9223372036854775807) ∧ x.v.num < 2 ^ 64 := by
  obtain ⟨A, n, cap, rfl⟩ := okWide_slice Try.underlying31 hok
  obtain ⟨m, hm⟩ := h
  rcases Go.Deep.open_slice Try.underlying31 hm with ⟨hcs, -⟩ | ⟨a, len, cap', m', k, D, Pl, hcs, -, hlc, hcm, hmm, -, hcell⟩
  · have hcs : [Value.slice A n cap] = _ := hcs
    simp only [List.cons.injEq, and_true, Value.slice.injEq] at hcs
    obtain ⟨rfl, rfl, rfl⟩ := hcs
    exact ⟨[], ⟨rfl, none, 0, rfl, Nat.le_refl _, fun _ => rfl, fun b hb _ => (by cases hb)⟩, Nat.zero_le _, fun x hx => (by cases hx)⟩
  · have hcs : [Value.slice A n cap] = _ := hcs
    simp only [List.cons.injEq, and_true, Value.slice.injEq] at hcs
    obtain ⟨rfl, rfl, rfl⟩ := hcs
    simp only [if_true] at hmm
    subst hmm
    have hsp : a.spot = none := by
      simp only [Value.okWide, Try.underlying31, Cell.okWide, Cell.ok, World.has] at hok
      exact hok.2.2.2.1
    clear hm hcs hok
    obtain ⟨g, off, spot⟩ := a
    have hsp : spot = none := hsp
    subst hsp
    rw [show Try.prog.cellsOf 68 = 7 by kernel_rfl] at hcell
    have hall : ∀ i, i < n → ∃ x : Cnd, (∀ q u, x.cells[q]? = some u → W.cell? ⟨g, off + (i * 7 + q), none⟩ = some u) ∧ x.name.size ≤ maxLen ∧ x.v.text.size ≤ maxLen ∧ (-9223372036854775808 ≤ x.v.int ∧ x.v.int ≤ 9223372036854775807) ∧ x.v.num < 2 ^ 64 := fun i hi => by
      obtain ⟨cs, h1, h2⟩ := hcell i (by omega)
      obtain ⟨x, rfl, h3⟩ := open_cnd h2
      obtain ⟨-, h5, h6⟩ := World.cells?_some h1
      refine ⟨x, fun q u hq => ?_, h3⟩
      have := h6 q (by have := (List.getElem?_eq_some_iff.1 hq).1; rw [Cnd.cells_length] at this; exact this)
      rw [addr_add, addr_add, hq] at this
      rw [← Nat.add_assoc]
      exact this
    obtain ⟨F, hF⟩ : ∃ F : Nat → Cnd, ∀ i, i < n → (∀ q u, (F i).cells[q]? = some u → W.cell? ⟨g, off + (i * 7 + q), none⟩ = some u) ∧ (F i).name.size ≤ maxLen ∧ (F i).v.text.size ≤ maxLen ∧ (-9223372036854775808 ≤ (F i).v.int ∧ (F i).v.int ≤ 9223372036854775807) ∧ (F i).v.num < 2 ^ 64 :=
      ⟨fun i => if h : i < n then (hall i h).choose else ⟨⟨#[]⟩, 0, V.zero⟩, fun i hi => by simp only [dif_pos hi]; exact (hall i hi).choose_spec⟩
    have hlen : ((List.range n).map F).length = n := by simp
    refine ⟨(List.range n).map F, ⟨?_, some ⟨g, off, none⟩, m', by rw [hlen], by rw [hlen]; exact hlc, (fun h => by cases h), fun b hb _ => ⟨g, off, (by cases hb; rfl), fun j u hu => ?_⟩⟩, by rw [hlen]; omega, fun x hx => ?_⟩
    · clear hF hall hcell
      induction (List.range n).map F with
      | nil => rfl
      | cons a l ih =>
        show (a.cells ++ cnds l).length = _
        rw [List.length_append, ih, Cnd.cells_length, List.length_cons]
        omega
    · obtain ⟨x, hx1, hx2⟩ := cnds_get hu
      rw [List.getElem?_map] at hx1
      by_cases hj : j / 7 < n
      · rw [List.getElem?_range hj] at hx1
        simp only [Option.map_some, Option.some.injEq] at hx1
        subst hx1
        have := (hF _ hj).1 _ _ hx2
        rw [show j / 7 * 7 + j % 7 = j by omega] at this
        exact this
      · rw [List.getElem?_eq_none (by simpa using hj)] at hx1
        cases hx1
    · obtain ⟨i, hi, rfl⟩ := List.mem_map.1 hx
      exact (hF i (List.mem_range.1 hi)).2


/-- A rule's cells, opened: its conditions apart. -/
theorem open_rcells {H : Type} {enc : TypeId × Value → H} {W : World} {base : Nat} {fuel : Nat} {cs : List Value} {x : DataW H × List MemPlace}
    (hok : ∀ (i : Nat) (v : Value) (u : TypeId), cs[i]? = some v → ([3, 3, 9, 3, 9, 31, 9, 3] : List TypeId)[i]? = some u → Cell.okWide Try.prog W .any base u v)
    (h : DataW.trod enc Try.prog W 0 (fun _ => true) true fuel 35 cs = some x) : ∃ r : Ru, cs = r.cells ∧ r.ok W ∧ ∀ c ∈ r.cs, (-9223372036854775808 ≤ c.v.int ∧ c.v.int ≤ 9223372036854775807) ∧ c.v.num < 2 ^ 64 := by
  obtain ⟨xs, n1, -, -, hlen, hxs, hf⟩ := DataW.trod_struct Try.underlying35 h
  rw [show Try.prog.cellsOf 35 = 8 by kernel_rfl] at hlen
  have hx : ∀ i, i < 7 → ∃ y, xs[i]? = some y := fun i hi => by
    simp at hxs
    exact ⟨_, List.getElem?_eq_getElem (by omega)⟩
  match cs, hlen with
  | [c0, c1, c2, c3, c4, c5, c6, c7], _ =>
    obtain ⟨y0, h0⟩ := hx 0 (by omega)
    obtain ⟨y1, h1⟩ := hx 1 (by omega)
    obtain ⟨y2, h2⟩ := hx 2 (by omega)
    obtain ⟨y3, h3⟩ := hx 3 (by omega)
    obtain ⟨y4, h4⟩ := hx 4 (by omega)
    obtain ⟨y5, h5⟩ := hx 5 (by omega)
    obtain ⟨y6, h6⟩ := hx 6 (by omega)
    have f0 : DataW.trod enc Try.prog W 0 (fun _ => true) true n1 3 (([c0, c1, c2, c3, c4, c5, c6, c7].drop 0).take (Try.prog.cellsOf 3)) = xs[0]? := hf 0 _ rfl
    have f1 : DataW.trod enc Try.prog W 0 (fun _ => true) true n1 3 (([c0, c1, c2, c3, c4, c5, c6, c7].drop 1).take (Try.prog.cellsOf 3)) = xs[1]? := hf 1 _ rfl
    have f2 : DataW.trod enc Try.prog W 0 (fun _ => true) true n1 9 (([c0, c1, c2, c3, c4, c5, c6, c7].drop 2).take (Try.prog.cellsOf 9)) = xs[2]? := hf 2 _ rfl
    have f3 : DataW.trod enc Try.prog W 0 (fun _ => true) true n1 3 (([c0, c1, c2, c3, c4, c5, c6, c7].drop 3).take (Try.prog.cellsOf 3)) = xs[3]? := hf 3 _ rfl
    have f4 : DataW.trod enc Try.prog W 0 (fun _ => true) true n1 33 (([c0, c1, c2, c3, c4, c5, c6, c7].drop 4).take (Try.prog.cellsOf 33)) = xs[4]? := hf 4 _ rfl
    have f5 : DataW.trod enc Try.prog W 0 (fun _ => true) true n1 9 (([c0, c1, c2, c3, c4, c5, c6, c7].drop 6).take (Try.prog.cellsOf 9)) = xs[5]? := hf 5 _ rfl
    have f6 : DataW.trod enc Try.prog W 0 (fun _ => true) true n1 3 (([c0, c1, c2, c3, c4, c5, c6, c7].drop 7).take (Try.prog.cellsOf 3)) = xs[6]? := hf 6 _ rfl
    rw [h0, show Try.prog.cellsOf 3 = 1 by kernel_rfl] at f0
    rw [h1, show Try.prog.cellsOf 3 = 1 by kernel_rfl] at f1
    rw [h2, show Try.prog.cellsOf 9 = 1 by kernel_rfl] at f2
    rw [h3, show Try.prog.cellsOf 3 = 1 by kernel_rfl] at f3
    rw [h4, show Try.prog.cellsOf 33 = 2 by kernel_rfl] at f4
    rw [h5, show Try.prog.cellsOf 9 = 1 by kernel_rfl] at f5
    rw [h6, show Try.prog.cellsOf 3 = 1 by kernel_rfl] at f6
    obtain ⟨z0, e0, -⟩ := DataW.trod_int Try.underlying3 f0
    obtain ⟨z1, e1, -⟩ := DataW.trod_int Try.underlying3 f1
    obtain ⟨z2, e2, -, l2⟩ := DataW.trod_string Try.underlying9 f2
    obtain ⟨z3, e3, -⟩ := DataW.trod_int Try.underlying3 f3
    obtain ⟨z6, e6, -, l6⟩ := DataW.trod_string Try.underlying9 f5
    obtain ⟨z7, e7, -⟩ := DataW.trod_int Try.underlying3 f6
    obtain ⟨ys0, ys1, n2, -, -, g0, g1⟩ := trod_struct2 Try.underlying33 f4
    have g0 : DataW.trod enc Try.prog W 0 (fun _ => true) true n2 9 (([c4, c5].drop 0).take (Try.prog.cellsOf 9)) = some ys0 := g0
    have g1 : DataW.trod enc Try.prog W 0 (fun _ => true) true n2 31 (([c4, c5].drop 1).take (Try.prog.cellsOf 31)) = some ys1 := g1
    rw [show Try.prog.cellsOf 9 = 1 by kernel_rfl] at g0
    rw [show Try.prog.cellsOf 31 = 1 by kernel_rfl] at g1
    obtain ⟨z4, e4, -, l4⟩ := DataW.trod_string Try.underlying9 g0
    have e0 : [c0] = [.int .i64 z0] := e0
    have e1 : [c1] = [.int .i64 z1] := e1
    have e2 : [c2] = [.string z2] := e2
    have e3 : [c3] = [.int .i64 z3] := e3
    have e4 : [c4] = [.string z4] := e4
    have e6 : [c6] = [.string z6] := e6
    have e7 : [c7] = [.int .i64 z7] := e7
    cases e0
    cases e1
    cases e2
    cases e3
    cases e4
    cases e6
    cases e7
    have hc := hok 5 c5 31 rfl rfl
    have hs := okWide_slice_cell Try.underlying31 hc
    obtain ⟨A, n, cap, rfl⟩ := okWide_slice Try.underlying31 hs
    obtain ⟨l, k1, k2, k3⟩ := open_cnds hs (show DataW.Trod enc Try.prog W 0 (fun _ => true) true 31 (.slice A n cap) ys1.1 ys1.2 from ⟨n2, g1⟩)
    obtain rfl : n = l.length := by
      obtain ⟨k4, a', c', k5, -⟩ := k1
      cases k5
      rfl
    have km : ∀ m : Nat, m ≤ maxLen → m ≤ 9223372036854775807 := fun m h => by simp only [maxLen] at h; omega
    exact ⟨⟨z0, z1, z2, z3, z4, A, cap, z6, z7, l⟩, rfl, ⟨k1, km _ k2, km _ l2, km _ l4, km _ l6, fun c hc => ⟨km _ (k3 c hc).1, km _ (k3 c hc).2.1⟩⟩, fun c hc => (k3 c hc).2.2⟩

theorem open_rule {H : Type} {enc : TypeId × Value → H} {W : World} {base : Nat} {v : Value} {d : DataW H} {p : List MemPlace} (hok : Value.okWide Try.prog W .any base 35 v)
    (h : DataW.Trod enc Try.prog W 0 (fun _ => true) true 35 v d p) : ∃ r : Ru, v = .agg r.cells.toArray ∧ r.ok W := by
  obtain ⟨cs, rfl, hsz⟩ := okWide_struct Try.underlying35 hok
  obtain ⟨m, hm⟩ := h
  obtain ⟨r, h1, h2, -⟩ := open_rcells (cs := cs.toList) (fun i v u hi hu => by
    refine okWide_cell (ts := [3, 3, 9, 3, 9, 31, 9, 3]) Try.underlying35 (by kernel_rfl) hok (i := i) (by simpa using hi) ?_
    have hlt : i < 8 := (List.getElem?_eq_some_iff.1 hu).1
    rw [show ([3, 3, 9, 3, 9, 31, 9, 3] : List TypeId).length = 8 from rfl, Nat.mod_eq_of_lt hlt]
    exact hu) hm
  exact ⟨r, by rw [← h1], h2⟩
end Go.Proofs.Ytpfnemkfbelpcaa

namespace Go.Proofs.Ytpfnemkfbelpcaa
set_option maxRecDepth 20000
open Go.ChangeShapes Go.WideShapes Go.ChangeAt Go.RowKit

section
variable {H : Type} {enc : TypeId × Value → H} {W : World}

theorem spot_none {w : World} {a : Addr} {v : Value} (h : w.cell? a = some v) : a.spot = none := by
  unfold World.cell? at h
  split at h
  · split at h
    · cases h
    · rename_i hs; simpa using hs
  · cases h

/-- A slice of structs of so many cells, opened: F tells what an element is. -/
theorem open_row {α : Type} {t e : TypeId} {sz : Nat} (cells : α → List Value) (hlen : ∀ x, (cells x).length = sz) (hsz : 0 < sz) (ht : Try.prog.underlying t = some (.slice e)) (he : Try.prog.cellsOf e = sz) (x0 : α) (p : α → Prop)
    (hone : ∀ (fuel : Nat) (cs : List Value) (y : DataW H × List MemPlace), DataW.trod enc Try.prog W 0 (fun _ => true) true fuel e cs = some y → ∃ x, cs = cells x ∧ p x)
    {fuel : Nat} {v : Value} {y : DataW H × List MemPlace} (h : DataW.trod enc Try.prog W 0 (fun _ => true) true fuel t [v] = some y) :
    ∃ l : List α, RdSl W sz v l.length (l.flatMap cells) ∧ l.length ≤ maxLen ∧ ∀ x ∈ l, p x := by
  rcases Go.Deep.open_slice ht h with ⟨hcs, -⟩ | ⟨a, len, cap', m', k, D, Pl, hcs, -, hlc, hcm, hmm, -, hcell⟩
  · have hcs : v = Value.slice none 0 0 := by simpa using hcs
    subst hcs
    exact ⟨[], ⟨by simp, none, 0, rfl, Nat.le_refl _, fun _ => rfl, fun b hb _ => (by cases hb)⟩, Nat.zero_le _, fun x hx => (by cases hx)⟩
  · have hcs : v = Value.slice (some a) len cap' := by simpa using hcs
    subst hcs
    simp only [if_true] at hmm
    subst hmm
    rw [he] at hcell
    have hall : ∀ i, i < len → ∃ x : α, (∀ q u, (cells x)[q]? = some u → W.cell? ((a.add (i * sz)).add q) = some u) ∧ p x := fun i hi => by
      obtain ⟨cs, h1, h2⟩ := hcell i (by omega)
      obtain ⟨x, rfl, h3⟩ := hone _ _ _ h2
      obtain ⟨-, h5, h6⟩ := World.cells?_some h1
      refine ⟨x, fun q u hq => ?_, h3⟩
      have := h6 q (by have := (List.getElem?_eq_some_iff.1 hq).1; rw [hlen] at this; exact this)
      rw [hq] at this
      exact this
    obtain ⟨F, hF⟩ : ∃ F : Nat → α, ∀ i, i < len → (∀ q u, (cells (F i))[q]? = some u → W.cell? ((a.add (i * sz)).add q) = some u) ∧ p (F i) :=
      ⟨fun i => if h : i < len then (hall i h).choose else x0, fun i hi => by simp only [dif_pos hi]; exact (hall i hi).choose_spec⟩
    have hl : ((List.range len).map F).length = len := by simp
    have hfl : ∀ l : List α, (l.flatMap cells).length = l.length * sz := fun l => by
      induction l with
      | nil => simp
      | cons b l ih => rw [List.flatMap_cons, List.length_append, ih, hlen, List.length_cons, Nat.add_mul]; omega
    have hget : ∀ (l : List α) (j : Nat) (u : Value), (l.flatMap cells)[j]? = some u → ∃ x, l[j / sz]? = some x ∧ (cells x)[j % sz]? = some u := fun l => by
      induction l with
      | nil => intro j u h; simp at h
      | cons b l ih =>
        intro j u h
        rw [List.flatMap_cons] at h
        rcases Nat.lt_or_ge j sz with hj | hj
        · rw [List.getElem?_append_left (by rw [hlen]; exact hj)] at h
          exact ⟨b, by rw [Nat.div_eq_of_lt hj]; rfl, by rw [Nat.mod_eq_of_lt hj]; exact h⟩
        · rw [List.getElem?_append_right (by rw [hlen]; exact hj), hlen] at h
          obtain ⟨x, h1, h2⟩ := ih _ _ h
          have e1 : j / sz = (j - sz) / sz + 1 := by
            rw [Nat.div_eq j sz, if_pos ⟨hsz, hj⟩]
          have e2 : j % sz = (j - sz) % sz := Nat.mod_eq_sub_mod hj
          exact ⟨x, by rw [e1, List.getElem?_cons_succ]; exact h1, by rw [e2]; exact h2⟩
    refine ⟨(List.range len).map F, ⟨by rw [hfl], some a, m', by rw [hl], by rw [hl]; exact hlc, (fun h => by cases h), fun b hb hn => ?_⟩, by rw [hl]; omega, fun x hx => ?_⟩
    · cases hb
      rw [hl] at hn
      have hsp : a.spot = none := by
        have h0 := (hF 0 hn).1 0
        cases hc : (cells (F 0))[0]? with
        | none =>
          have := List.getElem?_eq_none_iff.1 hc
          rw [hlen] at this
          omega
        | some u =>
          have := h0 u hc
          rw [Nat.zero_mul] at this
          exact spot_none this
      obtain ⟨g, off, spot⟩ := a
      have hsp : spot = none := hsp
      subst hsp
      refine ⟨g, off, rfl, fun j u hu => ?_⟩
      obtain ⟨x, hx1, hx2⟩ := hget _ _ _ hu
      rw [List.getElem?_map] at hx1
      by_cases hj : j / sz < len
      · rw [List.getElem?_range hj] at hx1
        simp only [Option.map_some, Option.some.injEq] at hx1
        subst hx1
        have := (hF _ hj).1 _ _ hx2
        rw [addr_add, addr_add] at this
        have e := Nat.div_add_mod j sz
        rw [Nat.mul_comm] at e
        rw [show off + j = off + j / sz * sz + j % sz by omega]
        exact this
      · rw [List.getElem?_eq_none (by simpa using hj)] at hx1
        cases hx1
    · obtain ⟨i, hi, rfl⟩ := List.mem_map.1 hx
      exact (hF i (List.mem_range.1 hi)).2

theorem open_cnds0 {fuel : Nat} {v : Value} {y : DataW H × List MemPlace} (h : DataW.trod enc Try.prog W 0 (fun _ => true) true fuel 31 [v] = some y) :
    ∃ l : List Cnd, RdSl W 7 v l.length (cnds l) ∧ l.length ≤ maxLen ∧ ∀ x ∈ l, x.name.size ≤ maxLen ∧ x.v.text.size ≤ maxLen ∧ (-9223372036854775808 ≤ x.v.int ∧ x.v.int ≤ 9223372036854775807) ∧ x.v.num < 2 ^ 64 :=
  open_row Cnd.cells Cnd.cells_length (by decide) Try.underlying31 (by kernel_rfl) ⟨⟨#[]⟩, 0, V.zero⟩ _ (fun _ _ _ h => by
    obtain ⟨c, h1, h2⟩ := open_cnd h
    exact ⟨c, h1, h2⟩) h

/-- A rule's cells, opened. -/
theorem open_rcells0 {fuel : Nat} {cs : List Value} {x : DataW H × List MemPlace}
    (h : DataW.trod enc Try.prog W 0 (fun _ => true) true fuel 35 cs = some x) : ∃ r : Ru, cs = r.cells ∧ (r.ok W ∧ ∀ c ∈ r.cs, c.v.num < 2 ^ 64) := by
  obtain ⟨xs, n1, -, -, hlen, hxs, hf⟩ := DataW.trod_struct Try.underlying35 h
  rw [show Try.prog.cellsOf 35 = 8 by kernel_rfl] at hlen
  have hx : ∀ i, i < 7 → ∃ y, xs[i]? = some y := fun i hi => by
    simp at hxs
    exact ⟨_, List.getElem?_eq_getElem (by omega)⟩
  match cs, hlen with
  | [c0, c1, c2, c3, c4, c5, c6, c7], _ =>
    obtain ⟨y0, h0⟩ := hx 0 (by omega)
    obtain ⟨y1, h1⟩ := hx 1 (by omega)
    obtain ⟨y2, h2⟩ := hx 2 (by omega)
    obtain ⟨y3, h3⟩ := hx 3 (by omega)
    obtain ⟨y4, h4⟩ := hx 4 (by omega)
    obtain ⟨y5, h5⟩ := hx 5 (by omega)
    obtain ⟨y6, h6⟩ := hx 6 (by omega)
    have f0 : DataW.trod enc Try.prog W 0 (fun _ => true) true n1 3 (([c0, c1, c2, c3, c4, c5, c6, c7].drop 0).take (Try.prog.cellsOf 3)) = xs[0]? := hf 0 _ rfl
    have f1 : DataW.trod enc Try.prog W 0 (fun _ => true) true n1 3 (([c0, c1, c2, c3, c4, c5, c6, c7].drop 1).take (Try.prog.cellsOf 3)) = xs[1]? := hf 1 _ rfl
    have f2 : DataW.trod enc Try.prog W 0 (fun _ => true) true n1 9 (([c0, c1, c2, c3, c4, c5, c6, c7].drop 2).take (Try.prog.cellsOf 9)) = xs[2]? := hf 2 _ rfl
    have f3 : DataW.trod enc Try.prog W 0 (fun _ => true) true n1 3 (([c0, c1, c2, c3, c4, c5, c6, c7].drop 3).take (Try.prog.cellsOf 3)) = xs[3]? := hf 3 _ rfl
    have f4 : DataW.trod enc Try.prog W 0 (fun _ => true) true n1 33 (([c0, c1, c2, c3, c4, c5, c6, c7].drop 4).take (Try.prog.cellsOf 33)) = xs[4]? := hf 4 _ rfl
    have f5 : DataW.trod enc Try.prog W 0 (fun _ => true) true n1 9 (([c0, c1, c2, c3, c4, c5, c6, c7].drop 6).take (Try.prog.cellsOf 9)) = xs[5]? := hf 5 _ rfl
    have f6 : DataW.trod enc Try.prog W 0 (fun _ => true) true n1 3 (([c0, c1, c2, c3, c4, c5, c6, c7].drop 7).take (Try.prog.cellsOf 3)) = xs[6]? := hf 6 _ rfl
    rw [h0, show Try.prog.cellsOf 3 = 1 by kernel_rfl] at f0
    rw [h1, show Try.prog.cellsOf 3 = 1 by kernel_rfl] at f1
    rw [h2, show Try.prog.cellsOf 9 = 1 by kernel_rfl] at f2
    rw [h3, show Try.prog.cellsOf 3 = 1 by kernel_rfl] at f3
    rw [h4, show Try.prog.cellsOf 33 = 2 by kernel_rfl] at f4
    rw [h5, show Try.prog.cellsOf 9 = 1 by kernel_rfl] at f5
    rw [h6, show Try.prog.cellsOf 3 = 1 by kernel_rfl] at f6
    obtain ⟨z0, e0, -⟩ := DataW.trod_int Try.underlying3 f0
    obtain ⟨z1, e1, -⟩ := DataW.trod_int Try.underlying3 f1
    obtain ⟨z2, e2, -, l2⟩ := DataW.trod_string Try.underlying9 f2
    obtain ⟨z3, e3, -⟩ := DataW.trod_int Try.underlying3 f3
    obtain ⟨z6, e6, -, l6⟩ := DataW.trod_string Try.underlying9 f5
    obtain ⟨z7, e7, -⟩ := DataW.trod_int Try.underlying3 f6
    obtain ⟨ys0, ys1, n2, -, -, g0, g1⟩ := trod_struct2 Try.underlying33 f4
    have g0 : DataW.trod enc Try.prog W 0 (fun _ => true) true n2 9 (([c4, c5].drop 0).take (Try.prog.cellsOf 9)) = some ys0 := g0
    have g1 : DataW.trod enc Try.prog W 0 (fun _ => true) true n2 31 (([c4, c5].drop 1).take (Try.prog.cellsOf 31)) = some ys1 := g1
    rw [show Try.prog.cellsOf 9 = 1 by kernel_rfl] at g0
    rw [show Try.prog.cellsOf 31 = 1 by kernel_rfl] at g1
    obtain ⟨z4, e4, -, l4⟩ := DataW.trod_string Try.underlying9 g0
    have e0 : [c0] = [.int .i64 z0] := e0
    have e1 : [c1] = [.int .i64 z1] := e1
    have e2 : [c2] = [.string z2] := e2
    have e3 : [c3] = [.int .i64 z3] := e3
    have e4 : [c4] = [.string z4] := e4
    have e6 : [c6] = [.string z6] := e6
    have e7 : [c7] = [.int .i64 z7] := e7
    cases e0
    cases e1
    cases e2
    cases e3
    cases e4
    cases e6
    cases e7
    obtain ⟨l, k1, k2, k3⟩ := open_cnds0 (v := c5) g1
    obtain ⟨A, cap, rfl⟩ : ∃ A cap, c5 = .slice A l.length cap := by
      obtain ⟨-, a', c', k5, -⟩ := k1
      exact ⟨a', c', k5⟩
    have km : ∀ m : Nat, m ≤ maxLen → m ≤ 9223372036854775807 := fun m h => by simp only [maxLen] at h; omega
    exact ⟨⟨z0, z1, z2, z3, z4, A, cap, z6, z7, l⟩, rfl, ⟨k1, km _ k2, km _ l2, km _ l4, km _ l6, fun c hc => ⟨km _ (k3 c hc).1, km _ (k3 c hc).2.1⟩⟩, fun c hc => (k3 c hc).2.2.2⟩

theorem open_rules {base : Nat} {v : Value} {d : DataW H} {p : List MemPlace} (hok : Value.okWide Try.prog W .any base 22 v)
    (h : DataW.Trod enc Try.prog W 0 (fun _ => true) true 22 v d p) : ∃ l : List Ru, RuSl W v l ∧ l.length ≤ maxLen ∧ RuNum l := by
  obtain ⟨m, hm⟩ := h
  obtain ⟨A, n, cap, rfl⟩ := okWide_slice Try.underlying22 hok
  obtain ⟨l, h1, h2, h3⟩ := open_row (W := W) (v := .slice A n cap) Ru.cells Ru.cells_length (by decide) Try.underlying22 (by kernel_rfl) ⟨0, 0, ⟨#[]⟩, 0, ⟨#[]⟩, none, 0, ⟨#[]⟩, 0, []⟩ (fun r => r.ok W ∧ ∀ c ∈ r.cs, c.v.num < 2 ^ 64) (fun _ _ _ h => open_rcells0 h) hm
  exact ⟨l, ⟨h1, fun r hr => (h3 r hr).1⟩, h2, fun r hr => (h3 r hr).2⟩

theorem trod_array2 {base : Nat} {spare : Nat → Bool} {held : Bool} {t e : TypeId} {fuel : Nat} {c0 c1 : Value} {x : DataW H × List MemPlace} (ht : Try.prog.underlying t = some (.array 2 e)) (hce : Try.prog.cellsOf e = 1)
    (h : DataW.trod enc Try.prog W base spare held fuel t [c0, c1] = some x) : ∃ y0 y1 n, DataW.trod enc Try.prog W base spare held n e [c0] = some y0 ∧ DataW.trod enc Try.prog W base spare held n e [c1] = some y1 := by
  cases fuel with
  | zero => simp [DataW.trod] at h
  | succ n =>
    unfold DataW.trod at h
    rw [ht] at h
    have r2 : List.range 2 = [0, 1] := rfl
    simp [r2, hce] at h
    obtain ⟨_, h⟩ := h
    cases h0 : DataW.trod enc Try.prog W base spare held n e [c0] with
    | none => simp [h0] at h
    | some y0 =>
      cases h1 : DataW.trod enc Try.prog W base spare held n e [c1] with
      | none => simp [h0, h1] at h
      | some y1 => exact ⟨y0, y1, n, h0, h1⟩
theorem open_ids {base : Nat} {v : Value} {d : DataW H} {p : List MemPlace} (hok : Value.okWide Try.prog W .any base 23 v) (h : DataW.Trod enc Try.prog W 0 (fun _ => true) true 23 v d p) :
    ∃ x y : Int, v = .agg #[.int .i64 x, .int .i64 y] := by
  simp only [Value.okWide, Try.underlying23] at hok
  obtain ⟨cs, rfl, hsz, -⟩ := hok
  rw [show Try.prog.cellsOf 23 = 2 by kernel_rfl] at hsz
  obtain ⟨m, hm⟩ := h
  obtain ⟨l⟩ := cs
  match l, hsz with
  | [c0, c1], _ =>
    obtain ⟨y0, y1, n, h0, h1⟩ := trod_array2 (c0 := c0) (c1 := c1) Try.underlying23 (by kernel_rfl) hm
    obtain ⟨z0, e0, -⟩ := DataW.trod_int Try.underlying3 h0
    obtain ⟨z1, e1, -⟩ := DataW.trod_int Try.underlying3 h1
    cases e0
    cases e1
    exact ⟨z0, z1, rfl⟩

theorem open_fil {base : Nat} {v : Value} {d : DataW H} {p : List MemPlace} (hok : Value.okWide Try.prog W .any base 33 v)
    (h : DataW.Trod enc Try.prog W 0 (fun _ => true) true 33 v d p) : ∃ (sc : ByteArray) (av : Value) (l : List Cnd), v = .agg #[.string sc, av] ∧ sc.size ≤ maxLen ∧ RdSl W 7 av l.length (cnds l) ∧ l.length ≤ maxLen ∧
      ∀ x ∈ l, x.name.size ≤ maxLen ∧ x.v.text.size ≤ maxLen ∧ (-9223372036854775808 ≤ x.v.int ∧ x.v.int ≤ 9223372036854775807) ∧ x.v.num < 2 ^ 64 := by
  obtain ⟨c0, c1, y0, y1, m, rfl, rfl, rfl, hy0, hy1⟩ := Joins.open_agg2 Try.underlying33 (by kernel_rfl) (by kernel_rfl) hok h
  obtain ⟨sc, e0, -, l0⟩ := DataW.trod_string Try.underlying9 hy0
  cases e0
  obtain ⟨l, h1, h2, h3⟩ := open_cnds0 (v := c1) hy1
  exact ⟨sc, c1, l, rfl, l0, h1, h2, h3⟩
end
theorem le63 {n : Nat} (h : n ≤ maxLen) : n ≤ 9223372036854775807 := by simp only [maxLen] at h; omega
end Go.Proofs.Ytpfnemkfbelpcaa

namespace Go.Proofs.Ytpfnemkfbelpcaa
set_option maxRecDepth 20000
open Go.ChangeShapes Go.WideShapes Go.ChangeAt Go.RowKit

theorem open_att {H : Type} {enc : TypeId × Value → H} {W : World} {base : Nat} {spare : Nat → Bool} {held : Bool} {fuel : Nat} {cs : List Value} {x : DataW H × List MemPlace}
    (h : DataW.trod enc Try.prog W base spare held fuel 48 cs = some x) : ∃ c : Att, cs = c.cells ∧ c.name.size ≤ maxLen ∧ c.v.text.size ≤ maxLen ∧ (-9223372036854775808 ≤ c.v.int ∧ c.v.int ≤ 9223372036854775807) ∧ c.v.num < 2 ^ 64 := by
  obtain ⟨xs, n1, -, -, hlen, hxs, hf⟩ := DataW.trod_struct Try.underlying48 h
  rw [show Try.prog.cellsOf 48 = 6 by kernel_rfl] at hlen
  have hx : ∀ i, i < 2 → ∃ y, xs[i]? = some y := fun i hi => by
    simp at hxs
    exact ⟨_, List.getElem?_eq_getElem (by omega)⟩
  match cs, hlen with
  | [c0, c2, c3, c4, c5, c6], _ =>
    obtain ⟨y0, h0⟩ := hx 0 (by omega)
    obtain ⟨y2, h2⟩ := hx 1 (by omega)
    have f0 : DataW.trod enc Try.prog W base spare held n1 9 (([c0, c2, c3, c4, c5, c6].drop 0).take (Try.prog.cellsOf 9)) = xs[0]? := hf 0 _ rfl
    have f2 : DataW.trod enc Try.prog W base spare held n1 46 (([c0, c2, c3, c4, c5, c6].drop 1).take (Try.prog.cellsOf 46)) = xs[1]? := hf 1 _ rfl
    rw [h0, show Try.prog.cellsOf 9 = 1 by kernel_rfl] at f0
    rw [h2, show Try.prog.cellsOf 46 = 5 by kernel_rfl] at f2
    obtain ⟨z0, e0, -, l0⟩ := DataW.trod_string Try.underlying9 f0
    obtain ⟨z2, e2, w2, n2, l2⟩ := open_valt f2
    have e0 : [c0] = [.string z0] := e0
    have e2 : [c2, c3, c4, c5, c6] = z2.cells := e2
    cases e0
    exact ⟨⟨z0, z2⟩, (by show _ = Value.string z0 :: z2.cells; rw [← e2]; rfl), l0, l2, w2, n2⟩

theorem open_atts0 {H : Type} {enc : TypeId × Value → H} {W : World} {fuel : Nat} {v : Value} {y : DataW H × List MemPlace} (h : DataW.trod enc Try.prog W 0 (fun _ => true) true fuel 38 [v] = some y) :
    ∃ l : List Att, RdSl W 6 v l.length (atts l) ∧ l.length ≤ maxLen ∧ ∀ x ∈ l, x.name.size ≤ maxLen ∧ x.v.text.size ≤ maxLen ∧ (-9223372036854775808 ≤ x.v.int ∧ x.v.int ≤ 9223372036854775807) ∧ x.v.num < 2 ^ 64 :=
  open_row Att.cells Att.cells_length (by decide) Try.underlying38 (by kernel_rfl) ⟨⟨#[]⟩, V.zero⟩ _ (fun _ _ _ h => by
    obtain ⟨c, h1, h2⟩ := open_att h
    exact ⟨c, h1, h2⟩) h

theorem open_ev {H : Type} {enc : TypeId × Value → H} {W : World} {base : Nat} {v : Value} {d : DataW H} {p : List MemPlace} (hok : Value.okWide Try.prog W .any base 40 v)
    (h : DataW.Trod enc Try.prog W 0 (fun _ => true) true 40 v d p) : ∃ (sc : ByteArray) (av : Value) (l : List Att), v = .agg #[.string sc, av] ∧ sc.size ≤ maxLen ∧ RdSl W 6 av l.length (atts l) ∧ l.length ≤ maxLen ∧
      ∀ x ∈ l, x.name.size ≤ maxLen ∧ x.v.text.size ≤ maxLen ∧ (-9223372036854775808 ≤ x.v.int ∧ x.v.int ≤ 9223372036854775807) ∧ x.v.num < 2 ^ 64 := by
  obtain ⟨c0, c1, y0, y1, m, rfl, rfl, rfl, hy0, hy1⟩ := Joins.open_agg2 Try.underlying40 (by kernel_rfl) (by kernel_rfl) hok h
  obtain ⟨sc, e0, -, l0⟩ := DataW.trod_string Try.underlying9 hy0
  cases e0
  obtain ⟨l, h1, h2, h3⟩ := open_atts0 (v := c1) hy1
  exact ⟨sc, c1, l, rfl, l0, h1, h2, h3⟩
end Go.Proofs.Ytpfnemkfbelpcaa
