/-
  An argument that is a rule, opened.
  The document's answer for filters: Covers.
  Masks; what covers what; the laws' tenant and principal.
  Arguments that are slices of rules, pairs of ints, filters, opened.
  An argument that is an event, opened.
  Arguments that are filters, opened.
  Plain: what all attributes have, those of a new event have.
  gazettelaw13.IndexRuns.
-/
import Derived.Test.YtloplmaekonenaaGreatDoorZf18
import Derived.Test.YtloplmaekonenaaGreatDoorZf37
import Derived.Deep.Grids
import Derived.Lib.SmallJoins
import Derived.Test.YtloplmaekonenaaGreatDoorZf31
import Derived.Test.YtloplmaekonenaaGreatDoorZf36
import Derived.Test.YtloplmaekonenaaGreatDoorZf28
import Derived.Test.YtloplmaekonenaaGreatDoorZf3
import Derived.Test.YtloplmaekonenaaGreatDoorZf19
import Derived.Test.YtloplmaekonenaaGreatDoorZf33
import Derived.Test.YtloplmaekonenaaGreatDoorZf35
import Derived.Test.YtloplmaekonenaaGreatDoorZf26
namespace Go.Proofs.YtloplmaekonenaaGreatDoor
set_option maxRecDepth 20000
open Go.ChangeShapes Go.WideShapes Go.ChangeAt Go.RowKit

theorem trod_f64 {H : Type} {enc : TypeId × Value → H} {W : World} {base : Nat} {spare : Nat → Bool} {held : Bool} {fuel : Nat} {t : TypeId} {cs : List Value} {x : DataW H × List MemPlace} (ht : Tryz.prog.underlying t = some (.float .f64))
    (h : DataW.trod enc Tryz.prog W base spare held fuel t cs = some x) : ∃ b, cs = [.float .f64 b] ∧ b < 2 ^ 64 := by
  cases fuel with
  | zero => simp [DataW.trod] at h
  | succ n =>
    unfold DataW.trod at h
    rw [ht] at h
    split at h
    all_goals first
      | (simp_all; done)
      | (rename_i k k' b heq
         simp only [Option.some.injEq, TypeDesc.float.injEq] at heq
         subst heq
         split at h
         · rename_i hc
           obtain ⟨rfl, hw⟩ := hc
           simp only [Lit.wf, decide_eq_true_eq] at hw
           exact ⟨_, rfl, hw⟩
         · cases h)

theorem open_valt {H : Type} {enc : TypeId × Value → H} {W : World} {base : Nat} {spare : Nat → Bool} {held : Bool} {fuel : Nat} {cs : List Value} {x : DataW H × List MemPlace}
    (h : DataW.trod enc Tryz.prog W base spare held fuel 79 cs = some x) : ∃ v : V, cs = v.cells ∧ (-9223372036854775808 ≤ v.int ∧ v.int ≤ 9223372036854775807) ∧ v.num < 2 ^ 64 ∧ v.text.size ≤ maxLen := by
  obtain ⟨xs, n1, -, -, hlen, hxs, hf⟩ := DataW.trod_struct Tryz.underlying79 h
  rw [show Tryz.prog.cellsOf 79 = 5 by kernel_rfl] at hlen
  have hx : ∀ i, i < 5 → ∃ y, xs[i]? = some y := fun i hi => by
    simp at hxs
    exact ⟨_, List.getElem?_eq_getElem (by omega)⟩
  match cs, hlen with
  | [c0, c1, c2, c3, c4], _ =>
    obtain ⟨y0, h0⟩ := hx 0 (by omega)
    obtain ⟨y1, h1⟩ := hx 1 (by omega)
    obtain ⟨y2, h2⟩ := hx 2 (by omega)
    obtain ⟨y3, h3⟩ := hx 3 (by omega)
    obtain ⟨y4, h4⟩ := hx 4 (by omega)
    have f0 : DataW.trod enc Tryz.prog W base spare held n1 3 (([c0, c1, c2, c3, c4].drop 0).take (Tryz.prog.cellsOf 3)) = xs[0]? := hf 0 _ rfl
    have f1 : DataW.trod enc Tryz.prog W base spare held n1 2 (([c0, c1, c2, c3, c4].drop 1).take (Tryz.prog.cellsOf 2)) = xs[1]? := hf 1 _ rfl
    have f2 : DataW.trod enc Tryz.prog W base spare held n1 77 (([c0, c1, c2, c3, c4].drop 2).take (Tryz.prog.cellsOf 77)) = xs[2]? := hf 2 _ rfl
    have f3 : DataW.trod enc Tryz.prog W base spare held n1 9 (([c0, c1, c2, c3, c4].drop 3).take (Tryz.prog.cellsOf 9)) = xs[3]? := hf 3 _ rfl
    have f4 : DataW.trod enc Tryz.prog W base spare held n1 4 (([c0, c1, c2, c3, c4].drop 4).take (Tryz.prog.cellsOf 4)) = xs[4]? := hf 4 _ rfl
    rw [h0] at f0
    rw [h1] at f1
    rw [h2] at f2
    rw [h3] at f3
    rw [h4] at f4
    rw [show Tryz.prog.cellsOf 3 = 1 by kernel_rfl] at f0
    rw [show Tryz.prog.cellsOf 2 = 1 by kernel_rfl] at f1
    rw [show Tryz.prog.cellsOf 77 = 1 by kernel_rfl] at f2
    rw [show Tryz.prog.cellsOf 9 = 1 by kernel_rfl] at f3
    rw [show Tryz.prog.cellsOf 4 = 1 by kernel_rfl] at f4
    obtain ⟨z0, e0, -⟩ := DataW.trod_int Tryz.underlying3 f0
    obtain ⟨z1, e1, -, w1⟩ := DataW.trod_int Tryz.underlying2 f1
    obtain ⟨z2, e2, w2⟩ := trod_f64 Tryz.underlying77 f2
    obtain ⟨z3, e3, -, w3⟩ := DataW.trod_string Tryz.underlying9 f3
    obtain ⟨z4, e4, -⟩ := DataW.trod_bool Tryz.underlying4 f4
    have e0 : [c0] = [.int .i64 z0] := e0
    have e1 : [c1] = [.int .i64 z1] := e1
    have e2 : [c2] = [.float .f64 z2] := e2
    have e3 : [c3] = [.string z3] := e3
    have e4 : [c4] = [.bool z4] := e4
    cases e0
    cases e1
    cases e2
    cases e3
    cases e4
    simp only [Lit.wf, Bool.and_eq_true, decide_eq_true_eq] at w1
    exact ⟨⟨z0, z1, z2, z3, z4⟩, rfl, ⟨w1.1, w1.2⟩, w2, w3⟩

theorem open_cnd {H : Type} {enc : TypeId × Value → H} {W : World} {base : Nat} {spare : Nat → Bool} {held : Bool} {fuel : Nat} {cs : List Value} {x : DataW H × List MemPlace}
    (h : DataW.trod enc Tryz.prog W base spare held fuel 81 cs = some x) : ∃ c : Cnd, cs = c.cells ∧ c.name.size ≤ maxLen ∧ c.v.text.size ≤ maxLen ∧ (-9223372036854775808 ≤ c.v.int ∧ c.v.int ≤ 9223372036854775807) ∧ c.v.num < 2 ^ 64 := by
  obtain ⟨xs, n1, -, -, hlen, hxs, hf⟩ := DataW.trod_struct Tryz.underlying81 h
  rw [show Tryz.prog.cellsOf 81 = 7 by kernel_rfl] at hlen
  have hx : ∀ i, i < 3 → ∃ y, xs[i]? = some y := fun i hi => by
    simp at hxs
    exact ⟨_, List.getElem?_eq_getElem (by omega)⟩
  match cs, hlen with
  | [c0, c1, c2, c3, c4, c5, c6], _ =>
    obtain ⟨y0, h0⟩ := hx 0 (by omega)
    obtain ⟨y1, h1⟩ := hx 1 (by omega)
    obtain ⟨y2, h2⟩ := hx 2 (by omega)
    have f0 : DataW.trod enc Tryz.prog W base spare held n1 9 (([c0, c1, c2, c3, c4, c5, c6].drop 0).take (Tryz.prog.cellsOf 9)) = xs[0]? := hf 0 _ rfl
    have f1 : DataW.trod enc Tryz.prog W base spare held n1 3 (([c0, c1, c2, c3, c4, c5, c6].drop 1).take (Tryz.prog.cellsOf 3)) = xs[1]? := hf 1 _ rfl
    have f2 : DataW.trod enc Tryz.prog W base spare held n1 79 (([c0, c1, c2, c3, c4, c5, c6].drop 2).take (Tryz.prog.cellsOf 79)) = xs[2]? := hf 2 _ rfl
    rw [h0, show Tryz.prog.cellsOf 9 = 1 by kernel_rfl] at f0
    rw [h1, show Tryz.prog.cellsOf 3 = 1 by kernel_rfl] at f1
    rw [h2, show Tryz.prog.cellsOf 79 = 5 by kernel_rfl] at f2
    obtain ⟨z0, e0, -, l0⟩ := DataW.trod_string Tryz.underlying9 f0
    obtain ⟨z1, e1, -⟩ := DataW.trod_int Tryz.underlying3 f1
    obtain ⟨z2, e2, w2, n2, l2⟩ := open_valt f2
    have e0 : [c0] = [.string z0] := e0
    have e1 : [c1] = [.int .i64 z1] := e1
    have e2 : [c2, c3, c4, c5, c6] = z2.cells := e2
    cases e0
    cases e1
    exact ⟨⟨z0, z1, z2⟩, (by show _ = Value.string z0 :: Value.int .i64 z1 :: z2.cells; rw [← e2]; rfl), l0, l2, w2, n2⟩

end Go.Proofs.YtloplmaekonenaaGreatDoor

namespace Go.Proofs.YtloplmaekonenaaGreatDoor
set_option maxRecDepth 20000
open Go.RowKit
attribute [local go_sem ↓] run_load_cnd

end Go.Proofs.YtloplmaekonenaaGreatDoor

namespace Go.Proofs.YtloplmaekonenaaGreatDoor
set_option maxRecDepth 20000
open Go.RowKit

/-- Rules, as they are handed to a law: their conditions' numbers are words. -/
def RuNum (l : List Ru) : Prop := ∀ r ∈ l, ∀ c ∈ r.cs, c.v.num < 2 ^ 64
theorem RuNum.filter {l : List Ru} {p : Ru → Bool} (h : RuNum l) : RuNum (l.filter p) := fun r hr => h r (List.mem_filter.1 hr).1

end Go.Proofs.YtloplmaekonenaaGreatDoor

namespace Go.Proofs.YtloplmaekonenaaGreatDoor
set_option maxRecDepth 20000
open Go.ChangeShapes Go.WideShapes Go.ChangeAt Go.RowKit

section
variable {H : Type} {enc : TypeId × Value → H} {W : World}

theorem spot_none {w : World} {a : Addr} {v : Value} (h : w.cell? a = some v) : a.spot = none := by
  unfold World.cell? at h
  split at h
  · split at h
    · cases h
    · rename_i hs; simpa using hs
  · cases h

/-- A slice of structs of so many cells, opened: F tells what an element is. -/
theorem open_row {α : Type} {t e : TypeId} {sz : Nat} (cells : α → List Value) (hlen : ∀ x, (cells x).length = sz) (hsz : 0 < sz) (ht : Tryz.prog.underlying t = some (.slice e)) (he : Tryz.prog.cellsOf e = sz) (x0 : α) (p : α → Prop)
    (hone : ∀ (fuel : Nat) (cs : List Value) (y : DataW H × List MemPlace), DataW.trod enc Tryz.prog W 0 (fun _ => true) true fuel e cs = some y → ∃ x, cs = cells x ∧ p x)
    {fuel : Nat} {v : Value} {y : DataW H × List MemPlace} (h : DataW.trod enc Tryz.prog W 0 (fun _ => true) true fuel t [v] = some y) :
    ∃ l : List α, RdSl W sz v l.length (l.flatMap cells) ∧ l.length ≤ maxLen ∧ ∀ x ∈ l, p x := by
  rcases Go.Deep.open_slice ht h with ⟨hcs, -⟩ | ⟨a, len, cap', m', k, D, Pl, hcs, -, hlc, hcm, hmm, -, hcell⟩
  · have hcs : v = Value.slice none 0 0 := by simpa using hcs
    subst hcs
    exact ⟨[], ⟨by simp, none, 0, rfl, Nat.le_refl _, fun _ => rfl, fun b hb _ => (by cases hb)⟩, Nat.zero_le _, fun x hx => (by cases hx)⟩
  · have hcs : v = Value.slice (some a) len cap' := by simpa using hcs
    subst hcs
    simp only [if_true] at hmm
    subst hmm
    rw [he] at hcell
    have hall : ∀ i, i < len → ∃ x : α, (∀ q u, (cells x)[q]? = some u → W.cell? ((a.add (i * sz)).add q) = some u) ∧ p x := fun i hi => by
      obtain ⟨cs, h1, h2⟩ := hcell i (by omega)
      obtain ⟨x, rfl, h3⟩ := hone _ _ _ h2
      obtain ⟨-, h5, h6⟩ := World.cells?_some h1
      refine ⟨x, fun q u hq => ?_, h3⟩
      have := h6 q (by have := (List.getElem?_eq_some_iff.1 hq).1; rw [hlen] at this; exact this)
      rw [hq] at this
      exact this
    obtain ⟨F, hF⟩ : ∃ F : Nat → α, ∀ i, i < len → (∀ q u, (cells (F i))[q]? = some u → W.cell? ((a.add (i * sz)).add q) = some u) ∧ p (F i) :=
      ⟨fun i => if h : i < len then (hall i h).choose else x0, fun i hi => by simp only [dif_pos hi]; exact (hall i hi).choose_spec⟩
    have hl : ((List.range len).map F).length = len := by simp
    have hfl : ∀ l : List α, (l.flatMap cells).length = l.length * sz := fun l => by
      induction l with
      | nil => simp
      | cons b l ih => rw [List.flatMap_cons, List.length_append, ih, hlen, List.length_cons, Nat.add_mul]; omega
    have hget : ∀ (l : List α) (j : Nat) (u : Value), (l.flatMap cells)[j]? = some u → ∃ x, l[j / sz]? = some x ∧ (cells x)[j % sz]? = some u := fun l => by
      induction l with
      | nil => intro j u h; simp at h
      | cons b l ih =>
        intro j u h
        rw [List.flatMap_cons] at h
        rcases Nat.lt_or_ge j sz with hj | hj
        · rw [List.getElem?_append_left (by rw [hlen]; exact hj)] at h
          exact ⟨b, by rw [Nat.div_eq_of_lt hj]; rfl, by rw [Nat.mod_eq_of_lt hj]; exact h⟩
        · rw [List.getElem?_append_right (by rw [hlen]; exact hj), hlen] at h
          obtain ⟨x, h1, h2⟩ := ih _ _ h
          have e1 : j / sz = (j - sz) / sz + 1 := by
            rw [Nat.div_eq j sz, if_pos ⟨hsz, hj⟩]
          have e2 : j % sz = (j - sz) % sz := Nat.mod_eq_sub_mod hj
          exact ⟨x, by rw [e1, List.getElem?_cons_succ]; exact h1, by rw [e2]; exact h2⟩
    refine ⟨(List.range len).map F, ⟨by rw [hfl], some a, m', by rw [hl], by rw [hl]; exact hlc, (fun h => by cases h), fun b hb hn => ?_⟩, by rw [hl]; omega, fun x hx => ?_⟩
    · cases hb
      rw [hl] at hn
      have hsp : a.spot = none := by
        have h0 := (hF 0 hn).1 0
        cases hc : (cells (F 0))[0]? with
        | none =>
          have := List.getElem?_eq_none_iff.1 hc
          rw [hlen] at this
          omega
        | some u =>
          have := h0 u hc
          rw [Nat.zero_mul] at this
          exact spot_none this
      obtain ⟨g, off, spot⟩ := a
      have hsp : spot = none := hsp
      subst hsp
      refine ⟨g, off, rfl, fun j u hu => ?_⟩
      obtain ⟨x, hx1, hx2⟩ := hget _ _ _ hu
      rw [List.getElem?_map] at hx1
      by_cases hj : j / sz < len
      · rw [List.getElem?_range hj] at hx1
        simp only [Option.map_some, Option.some.injEq] at hx1
        subst hx1
        have := (hF _ hj).1 _ _ hx2
        rw [addr_add, addr_add] at this
        have e := Nat.div_add_mod j sz
        rw [Nat.mul_comm] at e
        rw [show off + j = off + j / sz * sz + j % sz by omega]
        exact this
      · rw [List.getElem?_eq_none (by simpa using hj)] at hx1
        cases hx1
    · obtain ⟨i, hi, rfl⟩ := List.mem_map.1 hx
      exact (hF i (List.mem_range.1 hi)).2

theorem open_cnds0 {fuel : Nat} {v : Value} {y : DataW H × List MemPlace} (h : DataW.trod enc Tryz.prog W 0 (fun _ => true) true fuel 27 [v] = some y) :
    ∃ l : List Cnd, RdSl W 7 v l.length (cnds l) ∧ l.length ≤ maxLen ∧ ∀ x ∈ l, x.name.size ≤ maxLen ∧ x.v.text.size ≤ maxLen ∧ (-9223372036854775808 ≤ x.v.int ∧ x.v.int ≤ 9223372036854775807) ∧ x.v.num < 2 ^ 64 :=
  open_row Cnd.cells Cnd.cells_length (by decide) Tryz.underlying27 (by kernel_rfl) ⟨⟨#[]⟩, 0, V.zero⟩ _ (fun _ _ _ h => by
    obtain ⟨c, h1, h2⟩ := open_cnd h
    exact ⟨c, h1, h2⟩) h

end
theorem le63 {n : Nat} (h : n ≤ maxLen) : n ≤ 9223372036854775807 := by simp only [maxLen] at h; omega
end Go.Proofs.YtloplmaekonenaaGreatDoor

namespace Go.Proofs.YtloplmaekonenaaGreatDoor
set_option maxRecDepth 20000
open Go.ChangeShapes Go.WideShapes Go.ChangeAt Go.RowKit

theorem open_att {H : Type} {enc : TypeId × Value → H} {W : World} {base : Nat} {spare : Nat → Bool} {held : Bool} {fuel : Nat} {cs : List Value} {x : DataW H × List MemPlace}
    (h : DataW.trod enc Tryz.prog W base spare held fuel 90 cs = some x) : ∃ c : Att, cs = c.cells ∧ c.name.size ≤ maxLen ∧ c.v.text.size ≤ maxLen ∧ (-9223372036854775808 ≤ c.v.int ∧ c.v.int ≤ 9223372036854775807) ∧ c.v.num < 2 ^ 64 := by
  obtain ⟨xs, n1, -, -, hlen, hxs, hf⟩ := DataW.trod_struct Tryz.underlying90 h
  rw [show Tryz.prog.cellsOf 90 = 6 by kernel_rfl] at hlen
  have hx : ∀ i, i < 2 → ∃ y, xs[i]? = some y := fun i hi => by
    simp at hxs
    exact ⟨_, List.getElem?_eq_getElem (by omega)⟩
  match cs, hlen with
  | [c0, c2, c3, c4, c5, c6], _ =>
    obtain ⟨y0, h0⟩ := hx 0 (by omega)
    obtain ⟨y2, h2⟩ := hx 1 (by omega)
    have f0 : DataW.trod enc Tryz.prog W base spare held n1 9 (([c0, c2, c3, c4, c5, c6].drop 0).take (Tryz.prog.cellsOf 9)) = xs[0]? := hf 0 _ rfl
    have f2 : DataW.trod enc Tryz.prog W base spare held n1 79 (([c0, c2, c3, c4, c5, c6].drop 1).take (Tryz.prog.cellsOf 79)) = xs[1]? := hf 1 _ rfl
    rw [h0, show Tryz.prog.cellsOf 9 = 1 by kernel_rfl] at f0
    rw [h2, show Tryz.prog.cellsOf 79 = 5 by kernel_rfl] at f2
    obtain ⟨z0, e0, -, l0⟩ := DataW.trod_string Tryz.underlying9 f0
    obtain ⟨z2, e2, w2, n2, l2⟩ := open_valt f2
    have e0 : [c0] = [.string z0] := e0
    have e2 : [c2, c3, c4, c5, c6] = z2.cells := e2
    cases e0
    exact ⟨⟨z0, z2⟩, (by show _ = Value.string z0 :: z2.cells; rw [← e2]; rfl), l0, l2, w2, n2⟩

theorem open_atts0 {H : Type} {enc : TypeId × Value → H} {W : World} {fuel : Nat} {v : Value} {y : DataW H × List MemPlace} (h : DataW.trod enc Tryz.prog W 0 (fun _ => true) true fuel 30 [v] = some y) :
    ∃ l : List Att, RdSl W 6 v l.length (atts l) ∧ l.length ≤ maxLen ∧ ∀ x ∈ l, x.name.size ≤ maxLen ∧ x.v.text.size ≤ maxLen ∧ (-9223372036854775808 ≤ x.v.int ∧ x.v.int ≤ 9223372036854775807) ∧ x.v.num < 2 ^ 64 :=
  open_row Att.cells Att.cells_length (by decide) Tryz.underlying30 (by kernel_rfl) ⟨⟨#[]⟩, V.zero⟩ _ (fun _ _ _ h => by
    obtain ⟨c, h1, h2⟩ := open_att h
    exact ⟨c, h1, h2⟩) h

theorem open_ev {H : Type} {enc : TypeId × Value → H} {W : World} {base : Nat} {v : Value} {d : DataW H} {p : List MemPlace} (hok : Value.okWide Tryz.prog W .any base 32 v)
    (h : DataW.Trod enc Tryz.prog W 0 (fun _ => true) true 32 v d p) : ∃ (sc : ByteArray) (av : Value) (l : List Att), v = .agg #[.string sc, av] ∧ sc.size ≤ maxLen ∧ RdSl W 6 av l.length (atts l) ∧ l.length ≤ maxLen ∧
      ∀ x ∈ l, x.name.size ≤ maxLen ∧ x.v.text.size ≤ maxLen ∧ (-9223372036854775808 ≤ x.v.int ∧ x.v.int ≤ 9223372036854775807) ∧ x.v.num < 2 ^ 64 := by
  obtain ⟨c0, c1, y0, y1, m, rfl, rfl, rfl, hy0, hy1⟩ := Joins.open_agg2 Tryz.underlying32 (by kernel_rfl) (by kernel_rfl) hok h
  obtain ⟨sc, e0, -, l0⟩ := DataW.trod_string Tryz.underlying9 hy0
  cases e0
  obtain ⟨l, h1, h2, h3⟩ := open_atts0 (v := c1) hy1
  exact ⟨sc, c1, l, rfl, l0, h1, h2, h3⟩
end Go.Proofs.YtloplmaekonenaaGreatDoor

namespace Go.Proofs.YtloplmaekonenaaGreatDoor
set_option maxRecDepth 20000
open Go.ChangeShapes Go.WideShapes Go.ChangeAt Go.RowKit

section
variable {H : Type} {enc : TypeId × Value → H} {W : World}
/-- What is known of a filter that was opened. -/
structure Fr.ok (W : World) (f : Fr) : Prop where
  cs : RdSl W 7 (.slice f.a f.cs.length f.c) f.cs.length (cnds f.cs)
  sc : f.sc.size ≤ 9223372036854775807 ∧ f.cs.length ≤ 9223372036854775807
  nm : ∀ c ∈ f.cs, c.name.size ≤ 9223372036854775807 ∧ (-9223372036854775808 ≤ c.v.int ∧ c.v.int ≤ 9223372036854775807) ∧ c.v.num < 2 ^ 64
theorem open_frc {fuel : Nat} {cs : List Value} {x : DataW H × List MemPlace} (h : DataW.trod enc Tryz.prog W 0 (fun _ => true) true fuel 29 cs = some x) : ∃ f : Fr, cs = f.cells ∧ f.ok W := by
  obtain ⟨xs, n1, -, -, hlen, -, -⟩ := DataW.trod_struct Tryz.underlying29 h
  rw [show Tryz.prog.cellsOf 29 = 2 by kernel_rfl] at hlen
  match cs, hlen with
  | [c4, c5], _ =>
    obtain ⟨ys0, ys1, n2, -, -, g0, g1⟩ := trod_struct2 Tryz.underlying29 h
    have g0 : DataW.trod enc Tryz.prog W 0 (fun _ => true) true n2 9 (([c4, c5].drop 0).take (Tryz.prog.cellsOf 9)) = some ys0 := g0
    have g1 : DataW.trod enc Tryz.prog W 0 (fun _ => true) true n2 27 (([c4, c5].drop 1).take (Tryz.prog.cellsOf 27)) = some ys1 := g1
    rw [show Tryz.prog.cellsOf 9 = 1 by kernel_rfl] at g0
    rw [show Tryz.prog.cellsOf 27 = 1 by kernel_rfl] at g1
    obtain ⟨z4, e4, -, l4⟩ := DataW.trod_string Tryz.underlying9 g0
    have e4 : [c4] = [.string z4] := e4
    cases e4
    obtain ⟨l, k1, k2, k3⟩ := open_cnds0 (v := c5) g1
    obtain ⟨A, cap, rfl⟩ : ∃ A cap, c5 = .slice A l.length cap := by
      obtain ⟨-, a', c', k5, -⟩ := k1
      exact ⟨a', c', k5⟩
    exact ⟨⟨z4, A, cap, l⟩, rfl, k1, ⟨le63 l4, le63 k2⟩, fun c hc => ⟨le63 (k3 c hc).1, (k3 c hc).2.2.1, (k3 c hc).2.2.2⟩⟩
end
end Go.Proofs.YtloplmaekonenaaGreatDoor

namespace Go.Proofs.YtloplmaekonenaaGreatDoor
set_option maxRecDepth 20000
open Go.RowKit

/-- What all attributes have, those of a new event have, as they are kept. -/
theorem newL_memb {p : Att → Prop} (l : List Att) (h : ∀ a ∈ l, p a.canon) : ∀ a ∈ newL l, p a := by
  unfold newL
  suffices ∀ (l acc : List Att), (∀ a ∈ l, p a.canon) → (∀ a ∈ acc, p a) → ∀ a ∈ l.foldl (fun acc a => putA acc a.canon) acc, p a from this l [] h (by simp)
  intro l
  induction l with
  | nil => intro acc _ h; exact h
  | cons a l ih =>
    intro acc h1 h2
    refine ih _ (fun b hb => h1 b (by simp [hb])) fun b hb => ?_
    have ha := h1 a (by simp)
    have hb : b ∈ putA acc a.canon := hb
    unfold putA at hb
    split at hb
    · rcases List.mem_append.1 hb with hb | hb
      · exact h2 b (List.mem_of_mem_take hb)
      · rcases List.mem_cons.1 hb with rfl | hb
        · exact ha
        · exact h2 b (List.mem_of_mem_drop hb)
    · rcases List.mem_append.1 hb with hb | hb
      · exact h2 b (List.mem_of_mem_take hb)
      · rcases List.mem_cons.1 hb with rfl | hb
        · exact ha
        · exact h2 b (List.mem_of_mem_drop hb)
theorem newL_bound {l : List Att} {K : Nat} {x : Att} (hx : x ∈ newL l) (h : ∀ a ∈ l, a.name.size ≤ K) : x.name.size ≤ K := newL_memb (p := fun a => a.name.size ≤ K) l (fun a ha => h a ha) x hx
end Go.Proofs.YtloplmaekonenaaGreatDoor

namespace Go.Proofs.YtloplmaekonenaaGreatDoor
set_option maxRecDepth 20000
open Go.RowKit

/-- A call in memory. -/
structure Cl where
  kind : Int
  id : Int
  f : Fr
  es : ByteArray
  ea : Option Addr
  ec : Nat
  L : List Att
def Cl.cells (c : Cl) : List Value := [.int .i64 c.kind, .int .i64 c.id, .string c.f.sc, .slice c.f.a c.f.cs.length c.f.c, .string c.es, .slice c.ea c.L.length c.ec]
structure Cl.ok (w : World) (c : Cl) : Prop where
  f : c.f.ok w
  rd : RdSl w 6 (.slice c.ea c.L.length c.ec) c.L.length (atts c.L)
  id : -9223372036854775808 ≤ c.id ∧ c.id ≤ 9223372036854775807
  es : c.es.size ≤ 9223372036854775807 ∧ c.L.length ≤ 9223372036854775807
  nm : ∀ a ∈ c.L, a.name.size ≤ 9223372036854775807
theorem Fr.ok.mod {w w' : World} {f : Fr} (h : f.ok w) (hm : Mod (fun _ => False) w w') : f.ok w' := ⟨h.cs.mod hm (fun _ _ h => h), h.sc, h.nm⟩
theorem Cl.ok.mod {w w' : World} {c : Cl} (h : c.ok w) (hm : Mod (fun _ => False) w w') : c.ok w' := ⟨h.f.mod hm, h.rd.mod hm (fun _ _ h => h), h.id, h.es, h.nm⟩
/-- What a filter is in the map. -/
def Fr.val (f : Fr) : Value := .agg #[.string f.sc, .slice f.a f.cs.length f.c]
/-- The index and the map, side by side. -/
structure Runs (w0 wb w : World) (b mb : Nat) (own C : Nat → Prop) (M : List (Int × Fr)) (T : Nat) : Prop where
  ix : Idx w b own C (runI M) T
  mp : ∃ fm, MapR w 3 mb M.length fm ∧ ∀ id : Int, fm (.int .i64 id) = (asF M id).map Fr.val
  nd : (M.map Prod.fst).Nodup
  ok : ∀ p ∈ M, p.2.ok w0 ∧ filRight p.2.sc p.2.cs = true ∧ (-9223372036854775808 ≤ p.1 ∧ p.1 ≤ 9223372036854775807)
  o : ∀ k, own k → wb.heap.size ≤ k ∧ k ≠ mb
  c : ∀ k, C k → wb.heap.size ≤ k ∧ k ≠ mb
  m : wb.heap.size ≤ mb
theorem Runs.mod {w0 wb w w' : World} {b mb : Nat} {own C : Nat → Prop} {M : List (Int × Fr)} {T : Nat} (h : Runs w0 wb w b mb own C M T) (hm : Mod (fun _ => False) w w') : Runs w0 wb w' b mb own C M T := by
  obtain ⟨fm, h1, h2⟩ := h.mp
  exact ⟨h.ix.mod hm (fun _ _ h => h), ⟨fm, h1.mod hm (fun h => h), h2⟩, h.nd, h.ok, h.o, h.c, h.m⟩
theorem Runs.new {w0 wb w : World} {b mb : Nat} {own : Nat → Prop} (h : Idx w b own (fun _ => False) [] 0) (hm : MapR w 3 mb 0 (fun _ => none)) (ho : ∀ k, own k → wb.heap.size ≤ k ∧ k ≠ mb) (h1 : wb.heap.size ≤ mb) : Runs w0 wb w b mb own (fun _ => False) [] 0 :=
  ⟨h, ⟨_, hm, fun _ => rfl⟩, List.nodup_nil, fun p hp => (by cases hp), ho, fun _ h => h.elim, h1⟩
theorem id_wf {n : Int} (h : -9223372036854775808 ≤ n ∧ n ≤ 9223372036854775807) : (Lit.int .i64 n).wf = true := by
  simp only [Lit.wf, Bool.and_eq_true, decide_eq_true_eq]
  exact ⟨show (-9223372036854775808 : Int) ≤ n from h.1, show n ≤ (9223372036854775807 : Int) from h.2⟩
theorem Runs.look {w0 wb w : World} {b mb : Nat} {own C : Nat → Prop} {M : List (Int × Fr)} {T : Nat} (h : Runs w0 wb w b mb own C M T) {id : Int} (hid : -9223372036854775808 ≤ id ∧ id ≤ 9223372036854775807) :
    ∃ s a n c, (Instr.lookup 26 (.map (some mb)) (.int .i64 id) true).run Tryz.prog w = .ok (.tuple #[.agg #[.string s, .slice a n c], .bool (asF M id).isSome]) w ∧ ∀ f, asF M id = some f → s = f.sc ∧ a = f.a ∧ n = f.cs.length ∧ c = f.c := by
  obtain ⟨fm, h1, h2⟩ := h.mp
  have h3 := h1.look_ok keyed_i Tryz.underlying26 (zero_fil w) (Maps.keyOf_int_mk Tryz.underlying3 (id_wf hid))
  rw [h2] at h3
  cases hf : asF M id with
  | none =>
    rw [hf] at h3
    exact ⟨_, _, _, _, h3, fun f h => by cases h⟩
  | some f =>
    rw [hf] at h3
    exact ⟨_, _, _, _, h3, fun f' h => by cases h; exact ⟨rfl, rfl, rfl, rfl⟩⟩
theorem asD_none {α : Type} {M : List (Int × α)} {id : Int} (h : asF M id = none) : asD M id = M := by
  unfold asD
  refine List.filter_eq_self.2 fun p hp => ?_
  have : p.1 ≠ id := fun e => asF_none h (e ▸ List.mem_map_of_mem (f := Prod.fst) hp)
  simp [this]
/-- One entry less in the map, and in the index. -/
theorem Runs.del {w0 wb w w4 w5 : World} {b mb n5 : Nat} {own C : Nat → Prop} {M : List (Int × Fr)} {T : Nat} {id : Int} {fm : Lit → Option Value} (h : Runs w0 wb w b mb own C M T) (h2 : ∀ x : Int, fm (.int .i64 x) = (asF M x).map Fr.val) (hix : Idx w4 b own C (runI (asD M id)) T)
    (h5 : MapR w5 3 mb n5 (delF fm (.int .i64 id))) (hn : n5 = if (asF M id).isSome then M.length - 1 else M.length) (hm : Mod (fun k => k = mb) w4 w5) : Runs w0 wb w5 b mb own C (asD M id) T := by
  refine ⟨hix.mod2 hm (fun k _ hk => ⟨fun ho => (h.o k ho).2 hk, fun hc => (h.c k hc).2 hk⟩), ⟨delF fm (.int .i64 id), ?_, fun x => ?_⟩, asD_nodup h.nd id, fun p hp => h.ok p (List.mem_filter.1 hp).1, h.o, h.c, h.m⟩
  · have e : (asD M id).length = n5 := by
      rw [hn]
      cases hf : asF M id with
      | none => rw [asD_none hf]; rfl
      | some f =>
        have := asD_len h.nd (id := id) (by rw [hf]; exact fun h => by cases h)
        simp only [Option.isSome_some, if_true]
        omega
    rw [e]
    exact h5
  · rw [asF_del]
    unfold delF
    by_cases e : x = id
    · rw [if_pos (by rw [e]), if_pos e]; rfl
    · rw [if_neg (fun h => e (by cases h; rfl)), if_neg e, h2]
/-- One entry more in the map, and in the index. -/
theorem Runs.put {w0 wb w w4 w5 : World} {b mb n5 : Nat} {own C own' C' : Nat → Prop} {M : List (Int × Fr)} {T : Nat} {id : Int} {f : Fr} {fm : Lit → Option Value} (h : Runs w0 wb w b mb own C M T) (hq : asF M id = none) (h2 : ∀ x : Int, fm (.int .i64 x) = (asF M x).map Fr.val)
    (hix : Idx w4 b own' C' (runI M ++ [(id, (f.sc, normC f.cs))]) (T + 20)) (ho : ∀ k, own' k → own k ∨ w.heap.size ≤ k) (hC : ∀ k, C' k → C k ∨ w.heap.size ≤ k) (hf : f.ok w0) (hr : filRight f.sc f.cs = true) (hid : -9223372036854775808 ≤ id ∧ id ≤ 9223372036854775807)
    (h5 : MapR w5 3 mb n5 (putF fm (.int .i64 id) f.val)) (hn : n5 = M.length + 1) (hm : Mod (fun k => k = mb) w4 w5) (hb : wb.heap.size ≤ w.heap.size) : Runs w0 wb w5 b mb own' C' (M ++ [(id, f)]) (T + 20) := by
  obtain ⟨fm0, h1, -⟩ := h.mp
  have hlt := h1.lt
  have ho' : ∀ k, own' k → wb.heap.size ≤ k ∧ k ≠ mb := fun k hk => (ho k hk).elim (h.o k) (fun h => ⟨by omega, by omega⟩)
  have hC' : ∀ k, C' k → wb.heap.size ≤ k ∧ k ≠ mb := fun k hk => (hC k hk).elim (h.c k) (fun h => ⟨by omega, by omega⟩)
  rw [← runI_put] at hix
  refine ⟨hix.mod2 hm (fun k _ hk => ⟨fun h => (ho' k h).2 hk, fun h => (hC' k h).2 hk⟩), ⟨putF fm (.int .i64 id) f.val, ?_, fun x => ?_⟩, as_nodup h.nd hq, fun p hp => ?_, ho', hC', h.m⟩
  · rw [List.length_append, List.length_singleton, ← hn]
    exact h5
  · rw [asF_new hq]
    unfold putF
    by_cases e : x = id
    · rw [if_pos (by rw [e]), if_pos e]; rfl
    · rw [if_neg (fun h => e (by cases h; rfl)), if_neg e, h2]
  · rcases List.mem_append.1 hp with hp | hp
    · exact h.ok p hp
    · obtain rfl : p = (id, f) := by simpa using hp
      exact ⟨hf, hr, hid⟩
theorem Runs.none {w0 wb w : World} {b mb : Nat} {own C : Nat → Prop} {M : List (Int × Fr)} {T : Nat} (_ : Runs w0 wb w b mb own C M T) {id : Int} : idxF (runI M) id = none ↔ asF M id = none := by
  rw [runI_F]
  cases asF M id <;> simp

theorem rm_at (w : World) (f : Fr) (hf : f.ok w) (hr : filRight f.sc f.cs = true) (S : ByteArray) (hS : S.size ≤ 52) (av : Value) (E : List Att) (hv : RdSl w 6 av E.length (atts E)) (hE : E.length ≤ 8) (hEs : ∀ a ∈ E, a.name.size ≤ 12 ∧ a.v.text.size ≤ 40) :
    Calls Tryz.prog 19 #[.agg #[.string f.sc, .slice f.a f.cs.length f.c], .agg #[.string S, av]] w fun e w' => e = .returned (.bool (rMatF f.fil S E)) ∧ Mod (fun _ => False) w w' :=
  rmatch_at w f.sc _ f.cs hf.cs hf.sc.2 hf.sc.1 (fun c hc => by have := ((fil_bounds hr).2.2 c hc).2.2.2; omega) S av E hv (by omega) (by omega) (fun a ha => by have := (hEs a ha).2; omega)

end Go.Proofs.YtloplmaekonenaaGreatDoor
