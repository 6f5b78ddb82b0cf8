/-
  Rules in memory; package acl: of, Home, Right.
  The last step of every law: new blocks alone, true, the arguments as they were.
  An argument that is a rule, opened.
  strings.HasPrefix; package scope: Under.
-/
import Derived.Test.YtloplmaekonenaaGreatDoorZa8
import Derived.Test.YtloplmaekonenaaGreatDoorRows
import Derived.WalkKit
import Derived.ProofKit
import Derived.OpenShut
import Derived.Carry
import Derived.Deep.Grids
import Derived.Lib.SmallJoins
import Derived.Lib.Strings
namespace Go.Proofs.YtloplmaekonenaaGreatDoor
set_option maxRecDepth 20000
open Go.RowKit

/-- A rule, as it lies there, and the conditions of its filter. -/
structure Ru where
  kind : Int
  tenant : Int
  who : ByteArray
  broker : Int
  sc : ByteArray
  ca : Option Addr
  cc : Nat
  name : ByteArray
  at_ : Int
  cs : List Cnd
def Ru.cv (r : Ru) : Value := .slice r.ca r.cs.length r.cc
def Ru.cells (r : Ru) : List Value := [.int .i64 r.kind, .int .i64 r.tenant, .string r.who, .int .i64 r.broker, .string r.sc, .slice r.ca r.cs.length r.cc, .string r.name, .int .i64 r.at_]
theorem Ru.cells_length (a : Ru) : a.cells.length = 8 := rfl
def rus (l : List Ru) : List Value := l.flatMap Ru.cells
/-- A rule's conditions lie where it says. -/
structure Ru.ok (w : World) (r : Ru) : Prop where
  rd : RdSl w 7 r.cv r.cs.length (cnds r.cs)
  len : r.cs.length ≤ 9223372036854775807
  who : r.who.size ≤ 9223372036854775807
  sc : r.sc.size ≤ 9223372036854775807
  name : r.name.size ≤ 9223372036854775807
  cname : ∀ c ∈ r.cs, c.name.size ≤ 9223372036854775807 ∧ c.v.text.size ≤ 9223372036854775807
theorem Ru.ok.mod {w w' : World} {r : Ru} (h : r.ok w) (hm : Mod (fun _ => False) w w') : r.ok w' := ⟨h.rd.mod hm (fun _ _ h => h), h.len, h.who, h.sc, h.name, h.cname⟩

/-- What reads as rules. -/
structure RuSl (w : World) (v : Value) (l : List Ru) : Prop where
  rd : RdSl w 8 v l.length (rus l)
  ok : ∀ r ∈ l, r.ok w
theorem RuSl.mod {w w' : World} {v : Value} {l : List Ru} (h : RuSl w v l) (hm : Mod (fun _ => False) w w') : RuSl w' v l := ⟨h.rd.mod hm (fun _ _ h => h), fun r hr => (h.ok r hr).mod hm⟩
/-- Is it of that kind, and one principal's? -/
def Ru.of (r : Ru) (kind tenant : Int) (who : ByteArray) : Bool := r.kind == kind && (r.tenant == tenant && r.who.toList == who.toList)

end Go.Proofs.YtloplmaekonenaaGreatDoor

namespace Go.Proofs.YtloplmaekonenaaGreatDoor
set_option maxRecDepth 20000
open Go.ChangeShapes Go.WideShapes Go.ChangeAt Go.RowKit

theorem own_knob : ownKnob Tryz.prog.godebug = none := by kernel_rfl

theorem laidOut : laidOutB Tryz.prog = true := by kernel_rfl

/-- All arguments read as they did, where nothing that was there has been written. -/
theorem trodAll_same {H : Type} {enc : TypeId × Value → H} {P : Program} (hl : laidOutB P = true) {W W' : World} (hb : Below W.heap.size W W') : ∀ {ts : List TypeId} {vs : List Value} {ds : List (DataW H)} {ps : List MemPlace}
    (_ : ts.all (fun t => P.readableRec t && decide (t < P.types.size)) = true) (_ : DataW.TrodAll enc P W 0 (fun _ => true) true ts vs ds ps) (_ : ∀ x ∈ ps, x.block < W.heap.size), DataW.TrodAll enc P W' 0 (fun b => decide (b < W.heap.size)) true ts vs ds ps
  | [], vs, ds, ps, _, h, _ => by
    obtain ⟨rfl, rfl, rfl⟩ := trodAll_nil h
    exact trodAll_mk0
  | t :: ts, vs, ds, ps, hr, h, hlt => by
    obtain ⟨v, vs', d, ds', p, q, rfl, rfl, rfl, h1, h2⟩ := trodAll_cons h
    simp only [List.all_cons, Bool.and_eq_true, decide_eq_true_eq] at hr
    exact trodAll_cons_mk (Below.trod hl hr.1.1 hr.1.2 h1 hb (fun x hx => hlt x (List.mem_append_left _ hx))) (trodAll_same hl hb hr.2 h2 (fun x hx => hlt x (List.mem_append_right _ hx)))

/-- The post of a law that returns true, where nothing that was there has been written. -/
theorem post_same {H : Type} {enc : TypeId × Value → H} {f : Func} {s : ChangeSpec} {apart fresh handsOn : Bool} {W W' : World} {args : Array Value} {v : Value} {ds gs : List (DataW H)} {before : List MemPlace}
    (hW : DataW.Whole enc Tryz.prog f.params.toList s.vars apart W args.toList ds gs before)
    (hA : DataW.TrodAll enc Tryz.prog W 0 (fun _ => true) true f.params.toList args.toList ds before)
    (hr : f.params.toList.all (fun t => Tryz.prog.readableRec t && decide (t < Tryz.prog.types.size)) = true) (hds : (s.fn H (ds ++ gs)).args = ds)
    (hres : ∀ (b : Nat) (sp : Nat → Bool) (hd : Bool), DataW.TrodAll enc Tryz.prog W' b sp hd f.resultTypes.toList (v.resultList f.resultTypes.size) (s.fn H (ds ++ gs)).results [])
    (hvars : ∀ sp : Nat → Bool, DataW.TrodVars enc Tryz.prog W' sp s.vars (s.fn H (ds ++ gs)).vars [])
    (hb : Below W.heap.size W W') : s.post enc Tryz.prog f apart fresh handsOn false W args v W' := by
  have hold : ∀ p ∈ before, p.block < W.heap.size := fun p hp => by simpa using hW.lt p hp
  have hargs := trodAll_same laidOut hb hr hA hold
  refine ⟨ds, gs, before, [], before, [], hW, hres _ _ _, ?_, hvars _, World.keptBut_mono (fun p hp => ⟨hp, by simpa using hp⟩) (hb.frame (· ∈ before)), fun h => by cases h⟩
  rw [hds]
  exact hargs
end Go.Proofs.YtloplmaekonenaaGreatDoor

namespace Go.Proofs.YtloplmaekonenaaGreatDoor
set_option maxRecDepth 20000
open Go.ChangeShapes Go.WideShapes Go.ChangeAt Go.RowKit

theorem trod_f64 {H : Type} {enc : TypeId × Value → H} {W : World} {base : Nat} {spare : Nat → Bool} {held : Bool} {fuel : Nat} {t : TypeId} {cs : List Value} {x : DataW H × List MemPlace} (ht : Tryz.prog.underlying t = some (.float .f64))
    (h : DataW.trod enc Tryz.prog W base spare held fuel t cs = some x) : ∃ b, cs = [.float .f64 b] ∧ b < 2 ^ 64 := by
  cases fuel with
  | zero => simp [DataW.trod] at h
  | succ n =>
    unfold DataW.trod at h
    rw [ht] at h
    split at h
    all_goals first
      | (simp_all; done)
      | (rename_i k k' b heq
         simp only [Option.some.injEq, TypeDesc.float.injEq] at heq
         subst heq
         split at h
         · rename_i hc
           obtain ⟨rfl, hw⟩ := hc
           simp only [Lit.wf, decide_eq_true_eq] at hw
           exact ⟨_, rfl, hw⟩
         · cases h)

theorem open_valt {H : Type} {enc : TypeId × Value → H} {W : World} {base : Nat} {spare : Nat → Bool} {held : Bool} {fuel : Nat} {cs : List Value} {x : DataW H × List MemPlace}
    (h : DataW.trod enc Tryz.prog W base spare held fuel 79 cs = some x) : ∃ v : V, cs = v.cells ∧ (-9223372036854775808 ≤ v.int ∧ v.int ≤ 9223372036854775807) ∧ v.num < 2 ^ 64 ∧ v.text.size ≤ maxLen := by
  obtain ⟨xs, n1, -, -, hlen, hxs, hf⟩ := DataW.trod_struct Tryz.underlying79 h
  rw [show Tryz.prog.cellsOf 79 = 5 by kernel_rfl] at hlen
  have hx : ∀ i, i < 5 → ∃ y, xs[i]? = some y := fun i hi => by
    simp at hxs
    exact ⟨_, List.getElem?_eq_getElem (by omega)⟩
  match cs, hlen with
  | [c0, c1, c2, c3, c4], _ =>
    obtain ⟨y0, h0⟩ := hx 0 (by omega)
    obtain ⟨y1, h1⟩ := hx 1 (by omega)
    obtain ⟨y2, h2⟩ := hx 2 (by omega)
    obtain ⟨y3, h3⟩ := hx 3 (by omega)
    obtain ⟨y4, h4⟩ := hx 4 (by omega)
    have f0 : DataW.trod enc Tryz.prog W base spare held n1 3 (([c0, c1, c2, c3, c4].drop 0).take (Tryz.prog.cellsOf 3)) = xs[0]? := hf 0 _ rfl
    have f1 : DataW.trod enc Tryz.prog W base spare held n1 2 (([c0, c1, c2, c3, c4].drop 1).take (Tryz.prog.cellsOf 2)) = xs[1]? := hf 1 _ rfl
    have f2 : DataW.trod enc Tryz.prog W base spare held n1 77 (([c0, c1, c2, c3, c4].drop 2).take (Tryz.prog.cellsOf 77)) = xs[2]? := hf 2 _ rfl
    have f3 : DataW.trod enc Tryz.prog W base spare held n1 9 (([c0, c1, c2, c3, c4].drop 3).take (Tryz.prog.cellsOf 9)) = xs[3]? := hf 3 _ rfl
    have f4 : DataW.trod enc Tryz.prog W base spare held n1 4 (([c0, c1, c2, c3, c4].drop 4).take (Tryz.prog.cellsOf 4)) = xs[4]? := hf 4 _ rfl
    rw [h0] at f0
    rw [h1] at f1
    rw [h2] at f2
    rw [h3] at f3
    rw [h4] at f4
    rw [show Tryz.prog.cellsOf 3 = 1 by kernel_rfl] at f0
    rw [show Tryz.prog.cellsOf 2 = 1 by kernel_rfl] at f1
    rw [show Tryz.prog.cellsOf 77 = 1 by kernel_rfl] at f2
    rw [show Tryz.prog.cellsOf 9 = 1 by kernel_rfl] at f3
    rw [show Tryz.prog.cellsOf 4 = 1 by kernel_rfl] at f4
    obtain ⟨z0, e0, -⟩ := DataW.trod_int Tryz.underlying3 f0
    obtain ⟨z1, e1, -, w1⟩ := DataW.trod_int Tryz.underlying2 f1
    obtain ⟨z2, e2, w2⟩ := trod_f64 Tryz.underlying77 f2
    obtain ⟨z3, e3, -, w3⟩ := DataW.trod_string Tryz.underlying9 f3
    obtain ⟨z4, e4, -⟩ := DataW.trod_bool Tryz.underlying4 f4
    have e0 : [c0] = [.int .i64 z0] := e0
    have e1 : [c1] = [.int .i64 z1] := e1
    have e2 : [c2] = [.float .f64 z2] := e2
    have e3 : [c3] = [.string z3] := e3
    have e4 : [c4] = [.bool z4] := e4
    cases e0
    cases e1
    cases e2
    cases e3
    cases e4
    simp only [Lit.wf, Bool.and_eq_true, decide_eq_true_eq] at w1
    exact ⟨⟨z0, z1, z2, z3, z4⟩, rfl, ⟨w1.1, w1.2⟩, w2, w3⟩

theorem open_cnd {H : Type} {enc : TypeId × Value → H} {W : World} {base : Nat} {spare : Nat → Bool} {held : Bool} {fuel : Nat} {cs : List Value} {x : DataW H × List MemPlace}
    (h : DataW.trod enc Tryz.prog W base spare held fuel 81 cs = some x) : ∃ c : Cnd, cs = c.cells ∧ c.name.size ≤ maxLen ∧ c.v.text.size ≤ maxLen ∧ (-9223372036854775808 ≤ c.v.int ∧ c.v.int ≤ 9223372036854775807) ∧ c.v.num < 2 ^ 64 := by
  obtain ⟨xs, n1, -, -, hlen, hxs, hf⟩ := DataW.trod_struct Tryz.underlying81 h
  rw [show Tryz.prog.cellsOf 81 = 7 by kernel_rfl] at hlen
  have hx : ∀ i, i < 3 → ∃ y, xs[i]? = some y := fun i hi => by
    simp at hxs
    exact ⟨_, List.getElem?_eq_getElem (by omega)⟩
  match cs, hlen with
  | [c0, c1, c2, c3, c4, c5, c6], _ =>
    obtain ⟨y0, h0⟩ := hx 0 (by omega)
    obtain ⟨y1, h1⟩ := hx 1 (by omega)
    obtain ⟨y2, h2⟩ := hx 2 (by omega)
    have f0 : DataW.trod enc Tryz.prog W base spare held n1 9 (([c0, c1, c2, c3, c4, c5, c6].drop 0).take (Tryz.prog.cellsOf 9)) = xs[0]? := hf 0 _ rfl
    have f1 : DataW.trod enc Tryz.prog W base spare held n1 3 (([c0, c1, c2, c3, c4, c5, c6].drop 1).take (Tryz.prog.cellsOf 3)) = xs[1]? := hf 1 _ rfl
    have f2 : DataW.trod enc Tryz.prog W base spare held n1 79 (([c0, c1, c2, c3, c4, c5, c6].drop 2).take (Tryz.prog.cellsOf 79)) = xs[2]? := hf 2 _ rfl
    rw [h0, show Tryz.prog.cellsOf 9 = 1 by kernel_rfl] at f0
    rw [h1, show Tryz.prog.cellsOf 3 = 1 by kernel_rfl] at f1
    rw [h2, show Tryz.prog.cellsOf 79 = 5 by kernel_rfl] at f2
    obtain ⟨z0, e0, -, l0⟩ := DataW.trod_string Tryz.underlying9 f0
    obtain ⟨z1, e1, -⟩ := DataW.trod_int Tryz.underlying3 f1
    obtain ⟨z2, e2, w2, n2, l2⟩ := open_valt f2
    have e0 : [c0] = [.string z0] := e0
    have e1 : [c1] = [.int .i64 z1] := e1
    have e2 : [c2, c3, c4, c5, c6] = z2.cells := e2
    cases e0
    cases e1
    exact ⟨⟨z0, z1, z2⟩, (by show _ = Value.string z0 :: Value.int .i64 z1 :: z2.cells; rw [← e2]; rfl), l0, l2, w2, n2⟩

end Go.Proofs.YtloplmaekonenaaGreatDoor

namespace Go.Proofs.YtloplmaekonenaaGreatDoor
set_option maxRecDepth 20000
open Go.RowKit

def prefB (s p : ByteArray) : Bool := p.data.toList.isPrefixOf s.data.toList
theorem prefix_short {s p : ByteArray} (h : s.size < p.size) : prefB s p = false := by
  unfold prefB
  rw [Bool.eq_false_iff]
  intro hp
  have := (List.isPrefixOf_iff_prefix.1 hp).length_le
  have h1 : p.data.toList.length = p.size := rfl
  have h2 : s.data.toList.length = s.size := rfl
  omega
theorem prefix_take {s p : ByteArray} : ((s.extract 0 p.size).toList == p.toList) = prefB s p := by
  unfold prefB
  rw [ByteArray.toList_eq, ByteArray.toList_eq, Bool.eq_iff_iff, beq_iff_eq, List.isPrefixOf_iff_prefix, List.prefix_iff_eq_take]
  have h1 : (s.extract 0 p.size).data.toList = s.data.toList.take p.size := by
    rw [ByteArray.data_extract, Array.toList_extract]
    simp
  rw [h1]
  have h2 : p.data.toList.length = p.size := rfl
  rw [h2]
  exact ⟨fun h => h.symm, fun h => h.symm⟩

theorem prefixl_at (s p : ByteArray) (hs : s.size ≤ 9223372036854775807) (hp : p.size ≤ 9223372036854775807) (w : World) : Calls Tryz.prog 126 #[.string s, .string p] w fun e w' => e = .returned (.bool (prefB s p)) ∧ w' = w := by
  have hs' : (s.size : Int) ≤ 9223372036854775807 := by omega
  have hp' : (p.size : Int) ≤ 9223372036854775807 := by omega
  by_cases h : p.size ≤ s.size
  · have h' : (p.size : Int) ≤ s.size := by omega
    rw [← prefix_take]
    clear hs hp
    go_enter Tryz.func126, Tryz.ntmps126
    go_wp2
    go_ret
    exact ⟨rfl, rfl⟩
  · have h' : (s.size : Int) < p.size := by omega
    rw [prefix_short (by omega)]
    clear hs hp h
    go_enter Tryz.func126, Tryz.ntmps126
    go_wp2
    go_ret
    exact ⟨rfl, rfl⟩
theorem prefix_at (s p : ByteArray) (hs : s.size ≤ 9223372036854775807) (hp : p.size ≤ 9223372036854775807) (w : World) : Calls Tryz.prog 83 #[.string s, .string p] w fun e w' => e = .returned (.bool (prefB s p)) ∧ w' = w := by
  have Hc := Lib.hid (prefixl_at s p hs hp w)
  clear hs hp
  go_enter Tryz.func83, Tryz.ntmps83
  go_wp2_with fail
  refine Hc.out.mono ?_
  rintro e w' ⟨rfl, rfl⟩
  go_wp2
  go_ret
  exact ⟨rfl, rfl⟩

/-- Is a scope another one, or below it? -/
def underB (s top : ByteArray) : Bool := top.toList.isEmpty || (s.toList == top.toList || (prefB s top && s.data.toList[top.size]? == some 47))

set_option maxHeartbeats 1000000 in
theorem under_at (s top : ByteArray) (hs : s.size ≤ 9223372036854775807) (hp : top.size ≤ 9223372036854775807) (w : World) : Calls Tryz.prog 49 #[.string s, .string top] w fun e w' => e = .returned (.bool (underB s top)) ∧ w' = w := by
  have hc := prefix_at s top hs hp w
  cases h1 : top.toList.isEmpty with
  | true =>
    rw [show underB s top = true by unfold underB; rw [h1]; rfl]
    clear hc hs hp
    go_enter Tryz.func49, Tryz.ntmps49
    go_wp2
    go_ret
    exact ⟨rfl, rfl⟩
  | false =>
  cases h2 : s.toList == top.toList with
  | true =>
    rw [show underB s top = true by unfold underB; rw [h1, h2]; rfl]
    clear hc hs hp
    go_enter Tryz.func49, Tryz.ntmps49
    go_wp2
    go_ret
    exact ⟨rfl, rfl⟩
  | false =>
  have hu : underB s top = (prefB s top && s.data.toList[top.size]? == some 47) := by unfold underB; rw [h1, h2]; rfl
  rw [hu]
  cases h3 : prefB s top with
  | false =>
    rw [h3] at hc
    have Hc := Lib.hid hc
    rw [Bool.false_and]
    clear hc hs hp hu h3
    go_enter Tryz.func49, Tryz.ntmps49
    go_wp2_with fail
    refine Hc.out.mono ?_
    rintro e w' ⟨rfl, rfl⟩
    go_wp2
    go_ret
    exact ⟨rfl, rfl⟩
  | true =>
    rw [h3] at hc
    have hlt : top.size < s.size := by
      have h4 := List.isPrefixOf_iff_prefix.1 (show top.data.toList.isPrefixOf s.data.toList = true from h3)
      rcases Nat.lt_or_eq_of_le h4.length_le with h5 | h5
      · exact h5
      · have := h4.eq_of_length h5
        rw [ByteArray.toList_eq, ByteArray.toList_eq, this, beq_self_eq_true] at h2
        cases h2
    have hlt' : (top.size : Int) < s.size := by omega
    have htop' : (top.size : Int) ≤ 9223372036854775807 := by omega
    have hs' : (s.size : Int) ≤ 9223372036854775807 := by omega
    have hg : s.data.toList[top.size]? = some s[top.size] := List.getElem?_eq_getElem hlt
    have hb : (s.data.toList[top.size]? == some 47) = ((s[top.size].toNat : Int) == 47) := by
      rw [hg, Bool.eq_iff_iff, beq_iff_eq, beq_iff_eq]
      constructor
      · intro h
        have h := Option.some.inj h
        rw [h]
        rfl
      · intro h
        congr 1
        exact UInt8.toNat.inj (by have : (47 : UInt8).toNat = 47 := rfl; omega)
    rw [Bool.true_and, hb]
    have Hc := Lib.hid hc
    clear hc hs hp hu h3 hg hb
    go_enter Tryz.func49, Tryz.ntmps49
    go_wp2_with fail
    refine Hc.out.mono ?_
    rintro e w' ⟨rfl, rfl⟩
    go_wp2
    go_ret
    exact ⟨rfl, rfl⟩
end Go.Proofs.YtloplmaekonenaaGreatDoor
