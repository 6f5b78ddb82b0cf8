/-
  The last step of every law: new blocks alone, true, the arguments as they were.
  An argument that is a rule, opened.
  The document's answer for filters: Covers.
  Masks; what covers what; the laws' tenant and principal.
  Arguments that are slices of rules, pairs of ints, filters, opened.
  An argument that is an event, opened.
  gazettelaw13.IndexGoes.
  Arguments that are filters, opened.
  An event within a struct, opened.
-/
import Derived.Test.YtloplmaekonenaaGreatDoorRows
import Derived.WalkKit
import Derived.ProofKit
import Derived.OpenShut
import Derived.Carry
import Derived.Test.YtloplmaekonenaaGreatDoorZi11
import Derived.Deep.Grids
import Derived.Lib.SmallJoins
import Derived.Test.YtloplmaekonenaaGreatDoorZi30
import Derived.Test.YtloplmaekonenaaGreatDoorZi25
import Derived.Test.YtloplmaekonenaaGreatDoorZi15
import Derived.Test.YtloplmaekonenaaGreatDoorZi4
import Derived.Test.YtloplmaekonenaaGreatDoorZi16
namespace Go.Proofs.YtloplmaekonenaaGreatDoor
set_option maxRecDepth 20000
open Go.ChangeShapes Go.WideShapes Go.ChangeAt Go.RowKit
theorem own_knob : ownKnob Tryz.prog.godebug = none := by kernel_rfl
theorem laidOut : laidOutB Tryz.prog = true := by kernel_rfl
theorem trodAll_same {H : Type} {enc : TypeId × Value → H} {P : Program} (hl : laidOutB P = true) {W W' : World} (hb : Below W.heap.size W W') : ∀ {ts : List TypeId} {vs : List Value} {ds : List (DataW H)} {ps : List MemPlace}
    (_ : ts.all (fun t => P.readableRec t && decide (t < P.types.size)) = true) (_ : DataW.TrodAll enc P W 0 (fun _ => true) true ts vs ds ps) (_ : ∀ x ∈ ps, x.block < W.heap.size), DataW.TrodAll enc P W' 0 (fun b => decide (b < W.heap.size)) true ts vs ds ps
  | [], vs, ds, ps, _, h, _ => by
    obtain ⟨rfl, rfl, rfl⟩ := trodAll_nil h
    exact trodAll_mk0
  | t :: ts, vs, ds, ps, hr, h, hlt => by
    obtain ⟨v, vs', d, ds', p, q, rfl, rfl, rfl, h1, h2⟩ := trodAll_cons h
    simp only [List.all_cons, Bool.and_eq_true, decide_eq_true_eq] at hr
    exact trodAll_cons_mk (Below.trod hl hr.1.1 hr.1.2 h1 hb (fun x hx => hlt x (List.mem_append_left _ hx))) (trodAll_same hl hb hr.2 h2 (fun x hx => hlt x (List.mem_append_right _ hx)))
theorem post_same {H : Type} {enc : TypeId × Value → H} {f : Func} {s : ChangeSpec} {apart fresh handsOn : Bool} {W W' : World} {args : Array Value} {v : Value} {ds gs : List (DataW H)} {before : List MemPlace}
    (hW : DataW.Whole enc Tryz.prog f.params.toList s.vars apart W args.toList ds gs before)
    (hA : DataW.TrodAll enc Tryz.prog W 0 (fun _ => true) true f.params.toList args.toList ds before)
    (hr : f.params.toList.all (fun t => Tryz.prog.readableRec t && decide (t < Tryz.prog.types.size)) = true) (hds : (s.fn H (ds ++ gs)).args = ds)
    (hres : ∀ (b : Nat) (sp : Nat → Bool) (hd : Bool), DataW.TrodAll enc Tryz.prog W' b sp hd f.resultTypes.toList (v.resultList f.resultTypes.size) (s.fn H (ds ++ gs)).results [])
    (hvars : ∀ sp : Nat → Bool, DataW.TrodVars enc Tryz.prog W' sp s.vars (s.fn H (ds ++ gs)).vars [])
    (hb : Below W.heap.size W W') : s.post enc Tryz.prog f apart fresh handsOn false W args v W' := by
  have hold : ∀ p ∈ before, p.block < W.heap.size := fun p hp => by simpa using hW.lt p hp
  have hargs := trodAll_same laidOut hb hr hA hold
  refine ⟨ds, gs, before, [], before, [], hW, hres _ _ _, ?_, hvars _, World.keptBut_mono (fun p hp => ⟨hp, by simpa using hp⟩) (hb.frame (· ∈ before)), fun h => by cases h⟩
  rw [hds]
  exact hargs
end Go.Proofs.YtloplmaekonenaaGreatDoor
namespace Go.Proofs.YtloplmaekonenaaGreatDoor
set_option maxRecDepth 20000
open Go.ChangeShapes Go.WideShapes Go.ChangeAt Go.RowKit
theorem trod_f64 {H : Type} {enc : TypeId × Value → H} {W : World} {base : Nat} {spare : Nat → Bool} {held : Bool} {fuel : Nat} {t : TypeId} {cs : List Value} {x : DataW H × List MemPlace} (ht : Tryz.prog.underlying t = some (.float .f64))
    (h : DataW.trod enc Tryz.prog W base spare held fuel t cs = some x) : ∃ b, cs = [.float .f64 b] ∧ b < 2 ^ 64 := by
  cases fuel with
  | zero => simp [DataW.trod] at h
  | succ n =>
    unfold DataW.trod at h
    rw [ht] at h
    split at h
    all_goals first
      | (simp_all; done)
      | (rename_i k k' b heq
         simp only [Option.some.injEq, TypeDesc.float.injEq] at heq
         subst heq
         split at h
         · rename_i hc
           obtain ⟨rfl, hw⟩ := hc
           simp only [Lit.wf, decide_eq_true_eq] at hw
           exact ⟨_, rfl, hw⟩
         · cases h)
theorem open_valt {H : Type} {enc : TypeId × Value → H} {W : World} {base : Nat} {spare : Nat → Bool} {held : Bool} {fuel : Nat} {cs : List Value} {x : DataW H × List MemPlace}
    (h : DataW.trod enc Tryz.prog W base spare held fuel 79 cs = some x) : ∃ v : V, cs = v.cells ∧ (-9223372036854775808 ≤ v.int ∧ v.int ≤ 9223372036854775807) ∧ v.num < 2 ^ 64 ∧ v.text.size ≤ maxLen := by
  obtain ⟨xs, n1, -, -, hlen, hxs, hf⟩ := DataW.trod_struct Tryz.underlying79 h
  rw [show Tryz.prog.cellsOf 79 = 5 by kernel_rfl] at hlen
  have hx : ∀ i, i < 5 → ∃ y, xs[i]? = some y := fun i hi => by
    simp at hxs
    exact ⟨_, List.getElem?_eq_getElem (by omega)⟩
  match cs, hlen with
  | [c0, c1, c2, c3, c4], _ =>
    obtain ⟨y0, h0⟩ := hx 0 (by omega)
    obtain ⟨y1, h1⟩ := hx 1 (by omega)
    obtain ⟨y2, h2⟩ := hx 2 (by omega)
    obtain ⟨y3, h3⟩ := hx 3 (by omega)
    obtain ⟨y4, h4⟩ := hx 4 (by omega)
    have f0 : DataW.trod enc Tryz.prog W base spare held n1 3 (([c0, c1, c2, c3, c4].drop 0).take (Tryz.prog.cellsOf 3)) = xs[0]? := hf 0 _ rfl
    have f1 : DataW.trod enc Tryz.prog W base spare held n1 2 (([c0, c1, c2, c3, c4].drop 1).take (Tryz.prog.cellsOf 2)) = xs[1]? := hf 1 _ rfl
    have f2 : DataW.trod enc Tryz.prog W base spare held n1 77 (([c0, c1, c2, c3, c4].drop 2).take (Tryz.prog.cellsOf 77)) = xs[2]? := hf 2 _ rfl
    have f3 : DataW.trod enc Tryz.prog W base spare held n1 9 (([c0, c1, c2, c3, c4].drop 3).take (Tryz.prog.cellsOf 9)) = xs[3]? := hf 3 _ rfl
    have f4 : DataW.trod enc Tryz.prog W base spare held n1 4 (([c0, c1, c2, c3, c4].drop 4).take (Tryz.prog.cellsOf 4)) = xs[4]? := hf 4 _ rfl
    rw [h0] at f0
    rw [h1] at f1
    rw [h2] at f2
    rw [h3] at f3
    rw [h4] at f4
    rw [show Tryz.prog.cellsOf 3 = 1 by kernel_rfl] at f0
    rw [show Tryz.prog.cellsOf 2 = 1 by kernel_rfl] at f1
    rw [show Tryz.prog.cellsOf 77 = 1 by kernel_rfl] at f2
    rw [show Tryz.prog.cellsOf 9 = 1 by kernel_rfl] at f3
    rw [show Tryz.prog.cellsOf 4 = 1 by kernel_rfl] at f4
    obtain ⟨z0, e0, -⟩ := DataW.trod_int Tryz.underlying3 f0
    obtain ⟨z1, e1, -, w1⟩ := DataW.trod_int Tryz.underlying2 f1
    obtain ⟨z2, e2, w2⟩ := trod_f64 Tryz.underlying77 f2
    obtain ⟨z3, e3, -, w3⟩ := DataW.trod_string Tryz.underlying9 f3
    obtain ⟨z4, e4, -⟩ := DataW.trod_bool Tryz.underlying4 f4
    have e0 : [c0] = [.int .i64 z0] := e0
    have e1 : [c1] = [.int .i64 z1] := e1
    have e2 : [c2] = [.float .f64 z2] := e2
    have e3 : [c3] = [.string z3] := e3
    have e4 : [c4] = [.bool z4] := e4
    cases e0
    cases e1
    cases e2
    cases e3
    cases e4
    simp only [Lit.wf, Bool.and_eq_true, decide_eq_true_eq] at w1
    exact ⟨⟨z0, z1, z2, z3, z4⟩, rfl, ⟨w1.1, w1.2⟩, w2, w3⟩
theorem open_cnd {H : Type} {enc : TypeId × Value → H} {W : World} {base : Nat} {spare : Nat → Bool} {held : Bool} {fuel : Nat} {cs : List Value} {x : DataW H × List MemPlace}
    (h : DataW.trod enc Tryz.prog W base spare held fuel 81 cs = some x) : ∃ c : Cnd, cs = c.cells ∧ c.name.size ≤ maxLen ∧ c.v.text.size ≤ maxLen ∧ (-9223372036854775808 ≤ c.v.int ∧ c.v.int ≤ 9223372036854775807) ∧ c.v.num < 2 ^ 64 := by
  obtain ⟨xs, n1, -, -, hlen, hxs, hf⟩ := DataW.trod_struct Tryz.underlying81 h
  rw [show Tryz.prog.cellsOf 81 = 7 by kernel_rfl] at hlen
  have hx : ∀ i, i < 3 → ∃ y, xs[i]? = some y := fun i hi => by
    simp at hxs
    exact ⟨_, List.getElem?_eq_getElem (by omega)⟩
  match cs, hlen with
  | [c0, c1, c2, c3, c4, c5, c6], _ =>
    obtain ⟨y0, h0⟩ := hx 0 (by omega)
    obtain ⟨y1, h1⟩ := hx 1 (by omega)
    obtain ⟨y2, h2⟩ := hx 2 (by omega)
    have f0 : DataW.trod enc Tryz.prog W base spare held n1 9 (([c0, c1, c2, c3, c4, c5, c6].drop 0).take (Tryz.prog.cellsOf 9)) = xs[0]? := hf 0 _ rfl
    have f1 : DataW.trod enc Tryz.prog W base spare held n1 3 (([c0, c1, c2, c3, c4, c5, c6].drop 1).take (Tryz.prog.cellsOf 3)) = xs[1]? := hf 1 _ rfl
    have f2 : DataW.trod enc Tryz.prog W base spare held n1 79 (([c0, c1, c2, c3, c4, c5, c6].drop 2).take (Tryz.prog.cellsOf 79)) = xs[2]? := hf 2 _ rfl
    rw [h0, show Tryz.prog.cellsOf 9 = 1 by kernel_rfl] at f0
    rw [h1, show Tryz.prog.cellsOf 3 = 1 by kernel_rfl] at f1
    rw [h2, show Tryz.prog.cellsOf 79 = 5 by kernel_rfl] at f2
    obtain ⟨z0, e0, -, l0⟩ := DataW.trod_string Tryz.underlying9 f0
    obtain ⟨z1, e1, -⟩ := DataW.trod_int Tryz.underlying3 f1
    obtain ⟨z2, e2, w2, n2, l2⟩ := open_valt f2
    have e0 : [c0] = [.string z0] := e0
    have e1 : [c1] = [.int .i64 z1] := e1
    have e2 : [c2, c3, c4, c5, c6] = z2.cells := e2
    cases e0
    cases e1
    exact ⟨⟨z0, z1, z2⟩, (by show _ = Value.string z0 :: Value.int .i64 z1 :: z2.cells; rw [← e2]; rfl), l0, l2, w2, n2⟩
end Go.Proofs.YtloplmaekonenaaGreatDoor
namespace Go.Proofs.YtloplmaekonenaaGreatDoor
set_option maxRecDepth 20000
open Go.RowKit
attribute [local go_sem ↓] run_load_cnd
end Go.Proofs.YtloplmaekonenaaGreatDoor
namespace Go.Proofs.YtloplmaekonenaaGreatDoor
set_option maxRecDepth 20000
open Go.RowKit
def RuNum (l : List Ru) : Prop := ∀ r ∈ l, ∀ c ∈ r.cs, c.v.num < 2 ^ 64
theorem RuNum.filter {l : List Ru} {p : Ru → Bool} (h : RuNum l) : RuNum (l.filter p) := fun r hr => h r (List.mem_filter.1 hr).1
end Go.Proofs.YtloplmaekonenaaGreatDoor
namespace Go.Proofs.YtloplmaekonenaaGreatDoor
set_option maxRecDepth 20000
open Go.ChangeShapes Go.WideShapes Go.ChangeAt Go.RowKit
section
variable {H : Type} {enc : TypeId × Value → H} {W : World}
theorem spot_none {w : World} {a : Addr} {v : Value} (h : w.cell? a = some v) : a.spot = none := by
  unfold World.cell? at h
  split at h
  · split at h
    · cases h
    · rename_i hs; simpa using hs
  · cases h
theorem open_row {α : Type} {t e : TypeId} {sz : Nat} (cells : α → List Value) (hlen : ∀ x, (cells x).length = sz) (hsz : 0 < sz) (ht : Tryz.prog.underlying t = some (.slice e)) (he : Tryz.prog.cellsOf e = sz) (x0 : α) (p : α → Prop)
    (hone : ∀ (fuel : Nat) (cs : List Value) (y : DataW H × List MemPlace), DataW.trod enc Tryz.prog W 0 (fun _ => true) true fuel e cs = some y → ∃ x, cs = cells x ∧ p x)
    {fuel : Nat} {v : Value} {y : DataW H × List MemPlace} (h : DataW.trod enc Tryz.prog W 0 (fun _ => true) true fuel t [v] = some y) :
    ∃ l : List α, RdSl W sz v l.length (l.flatMap cells) ∧ l.length ≤ maxLen ∧ ∀ x ∈ l, p x := by
  rcases Go.Deep.open_slice ht h with ⟨hcs, -⟩ | ⟨a, len, cap', m', k, D, Pl, hcs, -, hlc, hcm, hmm, -, hcell⟩
  · have hcs : v = Value.slice none 0 0 := by simpa using hcs
    subst hcs
    exact ⟨[], ⟨by simp, none, 0, rfl, Nat.le_refl _, fun _ => rfl, fun b hb _ => (by cases hb)⟩, Nat.zero_le _, fun x hx => (by cases hx)⟩
  · have hcs : v = Value.slice (some a) len cap' := by simpa using hcs
    subst hcs
    simp only [if_true] at hmm
    subst hmm
    rw [he] at hcell
    have hall : ∀ i, i < len → ∃ x : α, (∀ q u, (cells x)[q]? = some u → W.cell? ((a.add (i * sz)).add q) = some u) ∧ p x := fun i hi => by
      obtain ⟨cs, h1, h2⟩ := hcell i (by omega)
      obtain ⟨x, rfl, h3⟩ := hone _ _ _ h2
      obtain ⟨-, h5, h6⟩ := World.cells?_some h1
      refine ⟨x, fun q u hq => ?_, h3⟩
      have := h6 q (by have := (List.getElem?_eq_some_iff.1 hq).1; rw [hlen] at this; exact this)
      rw [hq] at this
      exact this
    obtain ⟨F, hF⟩ : ∃ F : Nat → α, ∀ i, i < len → (∀ q u, (cells (F i))[q]? = some u → W.cell? ((a.add (i * sz)).add q) = some u) ∧ p (F i) :=
      ⟨fun i => if h : i < len then (hall i h).choose else x0, fun i hi => by simp only [dif_pos hi]; exact (hall i hi).choose_spec⟩
    have hl : ((List.range len).map F).length = len := by simp
    have hfl : ∀ l : List α, (l.flatMap cells).length = l.length * sz := fun l => by
      induction l with
      | nil => simp
      | cons b l ih => rw [List.flatMap_cons, List.length_append, ih, hlen, List.length_cons, Nat.add_mul]; omega
    have hget : ∀ (l : List α) (j : Nat) (u : Value), (l.flatMap cells)[j]? = some u → ∃ x, l[j / sz]? = some x ∧ (cells x)[j % sz]? = some u := fun l => by
      induction l with
      | nil => intro j u h; simp at h
      | cons b l ih =>
        intro j u h
        rw [List.flatMap_cons] at h
        rcases Nat.lt_or_ge j sz with hj | hj
        · rw [List.getElem?_append_left (by rw [hlen]; exact hj)] at h
          exact ⟨b, by rw [Nat.div_eq_of_lt hj]; rfl, by rw [Nat.mod_eq_of_lt hj]; exact h⟩
        · rw [List.getElem?_append_right (by rw [hlen]; exact hj), hlen] at h
          obtain ⟨x, h1, h2⟩ := ih _ _ h
          have e1 : j / sz = (j - sz) / sz + 1 := by
            rw [Nat.div_eq j sz, if_pos ⟨hsz, hj⟩]
          have e2 : j % sz = (j - sz) % sz := Nat.mod_eq_sub_mod hj
          exact ⟨x, by rw [e1, List.getElem?_cons_succ]; exact h1, by rw [e2]; exact h2⟩
    refine ⟨(List.range len).map F, ⟨by rw [hfl], some a, m', by rw [hl], by rw [hl]; exact hlc, (fun h => by cases h), fun b hb hn => ?_⟩, by rw [hl]; omega, fun x hx => ?_⟩
    · cases hb
      rw [hl] at hn
      have hsp : a.spot = none := by
        have h0 := (hF 0 hn).1 0
        cases hc : (cells (F 0))[0]? with
        | none =>
          have := List.getElem?_eq_none_iff.1 hc
          rw [hlen] at this
          omega
        | some u =>
          have := h0 u hc
          rw [Nat.zero_mul] at this
          exact spot_none this
      obtain ⟨g, off, spot⟩ := a
      have hsp : spot = none := hsp
      subst hsp
      refine ⟨g, off, rfl, fun j u hu => ?_⟩
      obtain ⟨x, hx1, hx2⟩ := hget _ _ _ hu
      rw [List.getElem?_map] at hx1
      by_cases hj : j / sz < len
      · rw [List.getElem?_range hj] at hx1
        simp only [Option.map_some, Option.some.injEq] at hx1
        subst hx1
        have := (hF _ hj).1 _ _ hx2
        rw [addr_add, addr_add] at this
        have e := Nat.div_add_mod j sz
        rw [Nat.mul_comm] at e
        rw [show off + j = off + j / sz * sz + j % sz by omega]
        exact this
      · rw [List.getElem?_eq_none (by simpa using hj)] at hx1
        cases hx1
    · obtain ⟨i, hi, rfl⟩ := List.mem_map.1 hx
      exact (hF i (List.mem_range.1 hi)).2
theorem open_cnds0 {fuel : Nat} {v : Value} {y : DataW H × List MemPlace} (h : DataW.trod enc Tryz.prog W 0 (fun _ => true) true fuel 27 [v] = some y) :
    ∃ l : List Cnd, RdSl W 7 v l.length (cnds l) ∧ l.length ≤ maxLen ∧ ∀ x ∈ l, x.name.size ≤ maxLen ∧ x.v.text.size ≤ maxLen ∧ (-9223372036854775808 ≤ x.v.int ∧ x.v.int ≤ 9223372036854775807) ∧ x.v.num < 2 ^ 64 :=
  open_row Cnd.cells Cnd.cells_length (by decide) Tryz.underlying27 (by kernel_rfl) ⟨⟨#[]⟩, 0, V.zero⟩ _ (fun _ _ _ h => by
    obtain ⟨c, h1, h2⟩ := open_cnd h
    exact ⟨c, h1, h2⟩) h
end
theorem le63 {n : Nat} (h : n ≤ maxLen) : n ≤ 9223372036854775807 := by simp only [maxLen] at h; omega
end Go.Proofs.YtloplmaekonenaaGreatDoor
namespace Go.Proofs.YtloplmaekonenaaGreatDoor
set_option maxRecDepth 20000
open Go.ChangeShapes Go.WideShapes Go.ChangeAt Go.RowKit
theorem open_att {H : Type} {enc : TypeId × Value → H} {W : World} {base : Nat} {spare : Nat → Bool} {held : Bool} {fuel : Nat} {cs : List Value} {x : DataW H × List MemPlace}
    (h : DataW.trod enc Tryz.prog W base spare held fuel 90 cs = some x) : ∃ c : Att, cs = c.cells ∧ c.name.size ≤ maxLen ∧ c.v.text.size ≤ maxLen ∧ (-9223372036854775808 ≤ c.v.int ∧ c.v.int ≤ 9223372036854775807) ∧ c.v.num < 2 ^ 64 := by
  obtain ⟨xs, n1, -, -, hlen, hxs, hf⟩ := DataW.trod_struct Tryz.underlying90 h
  rw [show Tryz.prog.cellsOf 90 = 6 by kernel_rfl] at hlen
  have hx : ∀ i, i < 2 → ∃ y, xs[i]? = some y := fun i hi => by
    simp at hxs
    exact ⟨_, List.getElem?_eq_getElem (by omega)⟩
  match cs, hlen with
  | [c0, c2, c3, c4, c5, c6], _ =>
    obtain ⟨y0, h0⟩ := hx 0 (by omega)
    obtain ⟨y2, h2⟩ := hx 1 (by omega)
    have f0 : DataW.trod enc Tryz.prog W base spare held n1 9 (([c0, c2, c3, c4, c5, c6].drop 0).take (Tryz.prog.cellsOf 9)) = xs[0]? := hf 0 _ rfl
    have f2 : DataW.trod enc Tryz.prog W base spare held n1 79 (([c0, c2, c3, c4, c5, c6].drop 1).take (Tryz.prog.cellsOf 79)) = xs[1]? := hf 1 _ rfl
    rw [h0, show Tryz.prog.cellsOf 9 = 1 by kernel_rfl] at f0
    rw [h2, show Tryz.prog.cellsOf 79 = 5 by kernel_rfl] at f2
    obtain ⟨z0, e0, -, l0⟩ := DataW.trod_string Tryz.underlying9 f0
    obtain ⟨z2, e2, w2, n2, l2⟩ := open_valt f2
    have e0 : [c0] = [.string z0] := e0
    have e2 : [c2, c3, c4, c5, c6] = z2.cells := e2
    cases e0
    exact ⟨⟨z0, z2⟩, (by show _ = Value.string z0 :: z2.cells; rw [← e2]; rfl), l0, l2, w2, n2⟩
theorem open_atts0 {H : Type} {enc : TypeId × Value → H} {W : World} {fuel : Nat} {v : Value} {y : DataW H × List MemPlace} (h : DataW.trod enc Tryz.prog W 0 (fun _ => true) true fuel 30 [v] = some y) :
    ∃ l : List Att, RdSl W 6 v l.length (atts l) ∧ l.length ≤ maxLen ∧ ∀ x ∈ l, x.name.size ≤ maxLen ∧ x.v.text.size ≤ maxLen ∧ (-9223372036854775808 ≤ x.v.int ∧ x.v.int ≤ 9223372036854775807) ∧ x.v.num < 2 ^ 64 :=
  open_row Att.cells Att.cells_length (by decide) Tryz.underlying30 (by kernel_rfl) ⟨⟨#[]⟩, V.zero⟩ _ (fun _ _ _ h => by
    obtain ⟨c, h1, h2⟩ := open_att h
    exact ⟨c, h1, h2⟩) h
end Go.Proofs.YtloplmaekonenaaGreatDoor
namespace Go.Proofs.YtloplmaekonenaaGreatDoor
set_option maxRecDepth 20000
open Go.RowKit
structure Fr where
  sc : ByteArray
  a : Option Addr
  c : Nat
  cs : List Cnd
def Fr.cells (f : Fr) : List Value := [.string f.sc, .slice f.a f.cs.length f.c]
structure FrsAt (w : World) (v : Value) (l : List Fr) : Prop where
  rd : RdSl w 2 v l.length (l.flatMap Fr.cells)
  cs : ∀ f ∈ l, RdSl w 7 (.slice f.a f.cs.length f.c) f.cs.length (cnds f.cs)
  sc : ∀ f ∈ l, f.sc.size ≤ 9223372036854775807 ∧ f.cs.length ≤ 9223372036854775807
  nm : ∀ f ∈ l, ∀ c ∈ f.cs, c.name.size ≤ 9223372036854775807 ∧ (-9223372036854775808 ≤ c.v.int ∧ c.v.int ≤ 9223372036854775807) ∧ c.v.num < 2 ^ 64
theorem FrsAt.mod {w w' : World} {v : Value} {l : List Fr} (h : FrsAt w v l) (hm : Mod (fun _ => False) w w') : FrsAt w' v l := ⟨h.rd.mod hm (fun _ _ h => h), fun f hf => (h.cs f hf).mod hm (fun _ _ h => h), h.sc, h.nm⟩
end Go.Proofs.YtloplmaekonenaaGreatDoor
namespace Go.Proofs.YtloplmaekonenaaGreatDoor
set_option maxRecDepth 20000
open Go.ChangeShapes Go.WideShapes Go.ChangeAt Go.RowKit
section
variable {H : Type} {enc : TypeId × Value → H} {W : World}
structure Fr.ok (W : World) (f : Fr) : Prop where
  cs : RdSl W 7 (.slice f.a f.cs.length f.c) f.cs.length (cnds f.cs)
  sc : f.sc.size ≤ 9223372036854775807 ∧ f.cs.length ≤ 9223372036854775807
  nm : ∀ c ∈ f.cs, c.name.size ≤ 9223372036854775807 ∧ (-9223372036854775808 ≤ c.v.int ∧ c.v.int ≤ 9223372036854775807) ∧ c.v.num < 2 ^ 64
theorem int_rng {n : Int} (h : (Lit.int .i64 n).wf = true) : -9223372036854775808 ≤ n ∧ n ≤ 9223372036854775807 := by
  simp only [Lit.wf, Bool.and_eq_true, decide_eq_true_eq] at h
  exact ⟨show (-9223372036854775808 : Int) ≤ n from h.1, show n ≤ (9223372036854775807 : Int) from h.2⟩
end
end Go.Proofs.YtloplmaekonenaaGreatDoor
namespace Go.Proofs.YtloplmaekonenaaGreatDoor
set_option maxRecDepth 20000
open Go.ChangeShapes Go.WideShapes Go.ChangeAt Go.RowKit
structure Evv where
  es : ByteArray
  ea : Option Addr
  ec : Nat
  L : List Att
structure Evv.ok (W : World) (e : Evv) : Prop where
  es : e.es.size ≤ maxLen
  rd : RdSl W 6 (.slice e.ea e.L.length e.ec) e.L.length (atts e.L)
  ln : e.L.length ≤ maxLen
  nm : ∀ x ∈ e.L, x.name.size ≤ maxLen ∧ x.v.text.size ≤ maxLen ∧ (-9223372036854775808 ≤ x.v.int ∧ x.v.int ≤ 9223372036854775807) ∧ x.v.num < 2 ^ 64
section
variable {H : Type} {enc : TypeId × Value → H} {W : World}
theorem open_evc {fuel : Nat} {cs : List Value} {x : DataW H × List MemPlace} (h : DataW.trod enc Tryz.prog W 0 (fun _ => true) true fuel 32 cs = some x) : ∃ e : Evv, cs = [.string e.es, .slice e.ea e.L.length e.ec] ∧ e.ok W := by
  obtain ⟨xs, n1, -, -, hlen, -, -⟩ := DataW.trod_struct Tryz.underlying32 h
  rw [show Tryz.prog.cellsOf 32 = 2 by kernel_rfl] at hlen
  match cs, hlen with
  | [c4, c5], _ =>
    obtain ⟨ys0, ys1, n2, -, -, g0, g1⟩ := trod_struct2 Tryz.underlying32 h
    have g0 : DataW.trod enc Tryz.prog W 0 (fun _ => true) true n2 9 (([c4, c5].drop 0).take (Tryz.prog.cellsOf 9)) = some ys0 := g0
    have g1 : DataW.trod enc Tryz.prog W 0 (fun _ => true) true n2 30 (([c4, c5].drop 1).take (Tryz.prog.cellsOf 30)) = some ys1 := g1
    rw [show Tryz.prog.cellsOf 9 = 1 by kernel_rfl] at g0
    rw [show Tryz.prog.cellsOf 30 = 1 by kernel_rfl] at g1
    obtain ⟨z4, e4, -, l4⟩ := DataW.trod_string Tryz.underlying9 g0
    have e4 : [c4] = [.string z4] := e4
    cases e4
    obtain ⟨l, k1, k2, k3⟩ := open_atts0 (v := c5) g1
    obtain ⟨A, cap, rfl⟩ : ∃ A cap, c5 = .slice A l.length cap := by
      obtain ⟨-, a', c', k5, -⟩ := k1
      exact ⟨a', c', k5⟩
    exact ⟨⟨z4, A, cap, l⟩, rfl, l4, k1, k2, k3⟩
end
end Go.Proofs.YtloplmaekonenaaGreatDoor
