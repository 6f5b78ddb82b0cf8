/-
  Rules in memory; package acl: of, Home, Right.
  The last step of every law: new blocks alone, true, the arguments as they were.
  An argument that is a rule, opened.
  strings.HasPrefix; package scope: Under.
-/
import Derived.Test.YtaenebdppkjhoaaGreatDoorZa7
import Derived.Test.YtaenebdppkjhoaaGreatDoorRows
import Derived.WalkKit
import Derived.ProofKit
import Derived.OpenShut
import Derived.Carry
import Derived.Deep.Grids
import Derived.Lib.SmallJoins
import Derived.Lib.Strings
namespace Go.Proofs.YtaenebdppkjhoaaGreatDoor
set_option maxRecDepth 20000
open Go.RowKit

/-- A rule, as it lies there, and the conditions of its filter. -/
structure Ru where
  kind : Int
  tenant : Int
  who : ByteArray
  broker : Int
  sc : ByteArray
  ca : Option Addr
  cc : Nat
  name : ByteArray
  at_ : Int
  cs : List Cnd
def Ru.cv (r : Ru) : Value := .slice r.ca r.cs.length r.cc
def Ru.cells (r : Ru) : List Value := [.int .i64 r.kind, .int .i64 r.tenant, .string r.who, .int .i64 r.broker, .string r.sc, .slice r.ca r.cs.length r.cc, .string r.name, .int .i64 r.at_]
theorem Ru.cells_length (a : Ru) : a.cells.length = 8 := rfl
def rus (l : List Ru) : List Value := l.flatMap Ru.cells
theorem rus_at (l : List Ru) {k j : Nat} {a : Ru} {u : Value} (h : l[k]? = some a) (hj : a.cells[j]? = some u) : (rus l)[8 * k + j]? = some u := by
  induction l generalizing k with
  | nil => simp at h
  | cons b l ih =>
    unfold rus at ih ⊢
    rw [List.flatMap_cons]
    cases k with
    | zero =>
      simp only [List.getElem?_cons_zero, Option.some.injEq] at h
      subst h
      have := (List.getElem?_eq_some_iff.1 hj).1
      rw [List.getElem?_append_left (by omega), Nat.mul_zero, Nat.zero_add, hj]
    | succ k =>
      rw [List.getElem?_cons_succ] at h
      rw [List.getElem?_append_right (by rw [Ru.cells_length]; omega), Ru.cells_length, show 8 * (k + 1) + j - 8 = 8 * k + j by omega]
      exact ih h
theorem rus_length (l : List Ru) : (rus l).length = l.length * 8 := by
  induction l with
  | nil => rfl
  | cons a l ih =>
    show (a.cells ++ rus l).length = _
    rw [List.length_append, ih, Ru.cells_length, List.length_cons]
    omega
theorem rus_append (l m : List Ru) : rus (l ++ m) = rus l ++ rus m := by unfold rus; simp
theorem rus_cons (a : Ru) (l : List Ru) : rus (a :: l) = a.cells ++ rus l := by unfold rus; simp
/-- A rule's conditions lie where it says. -/
structure Ru.ok (w : World) (r : Ru) : Prop where
  rd : RdSl w 7 r.cv r.cs.length (cnds r.cs)
  len : r.cs.length ≤ 9223372036854775807
  who : r.who.size ≤ 9223372036854775807
  sc : r.sc.size ≤ 9223372036854775807
  name : r.name.size ≤ 9223372036854775807
  cname : ∀ c ∈ r.cs, c.name.size ≤ 9223372036854775807 ∧ c.v.text.size ≤ 9223372036854775807
theorem Ru.ok.mod {w w' : World} {r : Ru} (h : r.ok w) (hm : Mod (fun _ => False) w w') : r.ok w' := ⟨h.rd.mod hm (fun _ _ h => h), h.len, h.who, h.sc, h.name, h.cname⟩

/-- What reads as rules. -/
structure RuSl (w : World) (v : Value) (l : List Ru) : Prop where
  rd : RdSl w 8 v l.length (rus l)
  ok : ∀ r ∈ l, r.ok w
theorem RuSl.mod {w w' : World} {v : Value} {l : List Ru} (h : RuSl w v l) (hm : Mod (fun _ => False) w w') : RuSl w' v l := ⟨h.rd.mod hm (fun _ _ h => h), fun r hr => (h.ok r hr).mod hm⟩
theorem rd_rule {w : World} {a : Option Addr} {cap : Nat} {l : List Ru} {j : Nat} {x : Ru} (h : RuSl w (.slice a l.length cap) l) (hx : l[j]? = some x) : ∃ g off, a = some ⟨g, off, none⟩ ∧ CellsAt w g (off + j * 8) x.cells := by
  obtain ⟨-, a', c', h1, -, h3, h4⟩ := h.rd
  cases h1
  cases a with
  | none => have := (List.getElem?_eq_some_iff.1 hx).1; exact absurd (h3 rfl) (by omega)
  | some b =>
    obtain ⟨g', off', h5, h6⟩ := h4 _ rfl (by have := (List.getElem?_eq_some_iff.1 hx).1; omega)
    refine ⟨g', off', by rw [h5], fun i u hu => ?_⟩
    have := h6 (8 * j + i) u (rus_at _ hx hu)
    rw [show off' + j * 8 + i = off' + (8 * j + i) by omega]
    exact this

/-- Is it of that kind, and one principal's? -/
def Ru.of (r : Ru) (kind tenant : Int) (who : ByteArray) : Bool := r.kind == kind && (r.tenant == tenant && r.who.toList == who.toList)

set_option maxHeartbeats 1000000 in
theorem of_at (r : Ru) (kind tenant : Int) (who : ByteArray) (w : World) : Calls Tryz.prog 90 #[.agg r.cells.toArray, .int .i64 kind, .int .i64 tenant, .string who] w fun e w' => e = .returned (.bool (r.of kind tenant who)) ∧ Mod (fun _ => False) w w' := by
  obtain ⟨wa, hwa⟩ : ∃ wa : World, w.alloc (.cells r.cells.toArray 35) = wa := ⟨_, rfl⟩
  have hmwa : Mod (fun _ => False) w wa := hwa ▸ (Mod.refl (fun _ => False) w).alloc _
  have hgwa := heap_alloc_new w (.cells r.cells.toArray 35)
  rw [hwa] at hgwa
  have hzwa : wa.heap.size = w.heap.size + 1 := by rw [← hwa]; simp
  have c0 : wa.cell? ⟨w.heap.size, 0, none⟩ = some (.int .i64 r.kind) := cell_of hgwa rfl
  have c1 : wa.cell? ⟨w.heap.size, 1, none⟩ = some (.int .i64 r.tenant) := cell_of hgwa rfl
  have c2 : wa.cell? ⟨w.heap.size, 2, none⟩ = some (.string r.who) := cell_of hgwa rfl
  have Hwa := Lib.hid hwa
  have Hmwa := Lib.hid hmwa
  clear hwa hmwa hgwa hzwa
  cases h1 : r.kind == kind with
  | false =>
    rw [show r.of kind tenant who = false by unfold Ru.of; rw [h1]; rfl]
    go_enter Tryz.func90, Tryz.ntmps90
    go_wp2_with (first | (rw [show w.alloc _ = wa from Hwa.out]) | fail)
    go_ret
    exact ⟨rfl, Hmwa.out⟩
  | true =>
    cases h2 : r.tenant == tenant with
    | false =>
      rw [show r.of kind tenant who = false by unfold Ru.of; rw [h1, h2]; rfl]
      go_enter Tryz.func90, Tryz.ntmps90
      go_wp2_with (first | (rw [show w.alloc _ = wa from Hwa.out]) | fail)
      go_ret
      exact ⟨rfl, Hmwa.out⟩
    | true =>
      rw [show r.of kind tenant who = (r.who.toList == who.toList) by unfold Ru.of; rw [h1, h2]; rfl]
      go_enter Tryz.func90, Tryz.ntmps90
      go_wp2_with (first | (rw [show w.alloc _ = wa from Hwa.out]) | fail)
      go_ret
      exact ⟨rfl, Hmwa.out⟩
end Go.Proofs.YtaenebdppkjhoaaGreatDoor

namespace Go.Proofs.YtaenebdppkjhoaaGreatDoor
set_option maxRecDepth 20000
open Go.ChangeShapes Go.WideShapes Go.ChangeAt Go.RowKit

theorem own_knob : ownKnob Tryz.prog.godebug = none := by kernel_rfl

theorem laidOut : laidOutB Tryz.prog = true := by kernel_rfl

/-- All arguments read as they did, where nothing that was there has been written. -/
theorem trodAll_same {H : Type} {enc : TypeId × Value → H} {P : Program} (hl : laidOutB P = true) {W W' : World} (hb : Below W.heap.size W W') : ∀ {ts : List TypeId} {vs : List Value} {ds : List (DataW H)} {ps : List MemPlace}
    (_ : ts.all (fun t => P.readableRec t && decide (t < P.types.size)) = true) (_ : DataW.TrodAll enc P W 0 (fun _ => true) true ts vs ds ps) (_ : ∀ x ∈ ps, x.block < W.heap.size), DataW.TrodAll enc P W' 0 (fun b => decide (b < W.heap.size)) true ts vs ds ps
  | [], vs, ds, ps, _, h, _ => by
    obtain ⟨rfl, rfl, rfl⟩ := trodAll_nil h
    exact trodAll_mk0
  | t :: ts, vs, ds, ps, hr, h, hlt => by
    obtain ⟨v, vs', d, ds', p, q, rfl, rfl, rfl, h1, h2⟩ := trodAll_cons h
    simp only [List.all_cons, Bool.and_eq_true, decide_eq_true_eq] at hr
    exact trodAll_cons_mk (Below.trod hl hr.1.1 hr.1.2 h1 hb (fun x hx => hlt x (List.mem_append_left _ hx))) (trodAll_same hl hb hr.2 h2 (fun x hx => hlt x (List.mem_append_right _ hx)))

/-- The post of a law that returns true, where nothing that was there has been written. -/
theorem post_same {H : Type} {enc : TypeId × Value → H} {f : Func} {s : ChangeSpec} {apart fresh handsOn : Bool} {W W' : World} {args : Array Value} {v : Value} {ds gs : List (DataW H)} {before : List MemPlace}
    (hW : DataW.Whole enc Tryz.prog f.params.toList s.vars apart W args.toList ds gs before)
    (hA : DataW.TrodAll enc Tryz.prog W 0 (fun _ => true) true f.params.toList args.toList ds before)
    (hr : f.params.toList.all (fun t => Tryz.prog.readableRec t && decide (t < Tryz.prog.types.size)) = true) (hds : (s.fn H (ds ++ gs)).args = ds)
    (hres : ∀ (b : Nat) (sp : Nat → Bool) (hd : Bool), DataW.TrodAll enc Tryz.prog W' b sp hd f.resultTypes.toList (v.resultList f.resultTypes.size) (s.fn H (ds ++ gs)).results [])
    (hvars : ∀ sp : Nat → Bool, DataW.TrodVars enc Tryz.prog W' sp s.vars (s.fn H (ds ++ gs)).vars [])
    (hb : Below W.heap.size W W') : s.post enc Tryz.prog f apart fresh handsOn false W args v W' := by
  have hold : ∀ p ∈ before, p.block < W.heap.size := fun p hp => by simpa using hW.lt p hp
  have hargs := trodAll_same laidOut hb hr hA hold
  refine ⟨ds, gs, before, [], before, [], hW, hres _ _ _, ?_, hvars _, World.keptBut_mono (fun p hp => ⟨hp, by simpa using hp⟩) (hb.frame (· ∈ before)), fun h => by cases h⟩
  rw [hds]
  exact hargs
end Go.Proofs.YtaenebdppkjhoaaGreatDoor

namespace Go.Proofs.YtaenebdppkjhoaaGreatDoor
set_option maxRecDepth 20000
open Go.ChangeShapes Go.WideShapes Go.ChangeAt Go.RowKit

theorem trod_f64 {H : Type} {enc : TypeId × Value → H} {W : World} {base : Nat} {spare : Nat → Bool} {held : Bool} {fuel : Nat} {t : TypeId} {cs : List Value} {x : DataW H × List MemPlace} (ht : Tryz.prog.underlying t = some (.float .f64))
    (h : DataW.trod enc Tryz.prog W base spare held fuel t cs = some x) : ∃ b, cs = [.float .f64 b] ∧ b < 2 ^ 64 := by
  cases fuel with
  | zero => simp [DataW.trod] at h
  | succ n =>
    unfold DataW.trod at h
    rw [ht] at h
    split at h
    all_goals first
      | (simp_all; done)
      | (rename_i k k' b heq
         simp only [Option.some.injEq, TypeDesc.float.injEq] at heq
         subst heq
         split at h
         · rename_i hc
           obtain ⟨rfl, hw⟩ := hc
           simp only [Lit.wf, decide_eq_true_eq] at hw
           exact ⟨_, rfl, hw⟩
         · cases h)

end Go.Proofs.YtaenebdppkjhoaaGreatDoor

namespace Go.Proofs.YtaenebdppkjhoaaGreatDoor
set_option maxRecDepth 20000
open Go.RowKit

def prefB (s p : ByteArray) : Bool := p.data.toList.isPrefixOf s.data.toList
theorem prefix_short {s p : ByteArray} (h : s.size < p.size) : prefB s p = false := by
  unfold prefB
  rw [Bool.eq_false_iff]
  intro hp
  have := (List.isPrefixOf_iff_prefix.1 hp).length_le
  have h1 : p.data.toList.length = p.size := rfl
  have h2 : s.data.toList.length = s.size := rfl
  omega
theorem prefix_take {s p : ByteArray} : ((s.extract 0 p.size).toList == p.toList) = prefB s p := by
  unfold prefB
  rw [ByteArray.toList_eq, ByteArray.toList_eq, Bool.eq_iff_iff, beq_iff_eq, List.isPrefixOf_iff_prefix, List.prefix_iff_eq_take]
  have h1 : (s.extract 0 p.size).data.toList = s.data.toList.take p.size := by
    rw [ByteArray.data_extract, Array.toList_extract]
    simp
  rw [h1]
  have h2 : p.data.toList.length = p.size := rfl
  rw [h2]
  exact ⟨fun h => h.symm, fun h => h.symm⟩

theorem prefixl_at (s p : ByteArray) (hs : s.size ≤ 9223372036854775807) (hp : p.size ≤ 9223372036854775807) (w : World) : Calls Tryz.prog 152 #[.string s, .string p] w fun e w' => e = .returned (.bool (prefB s p)) ∧ w' = w := by
  have hs' : (s.size : Int) ≤ 9223372036854775807 := by omega
  have hp' : (p.size : Int) ≤ 9223372036854775807 := by omega
  by_cases h : p.size ≤ s.size
  · have h' : (p.size : Int) ≤ s.size := by omega
    rw [← prefix_take]
    clear hs hp
    go_enter Tryz.func152, Tryz.ntmps152
    go_wp2
    go_ret
    exact ⟨rfl, rfl⟩
  · have h' : (s.size : Int) < p.size := by omega
    rw [prefix_short (by omega)]
    clear hs hp h
    go_enter Tryz.func152, Tryz.ntmps152
    go_wp2
    go_ret
    exact ⟨rfl, rfl⟩
theorem prefix_at (s p : ByteArray) (hs : s.size ≤ 9223372036854775807) (hp : p.size ≤ 9223372036854775807) (w : World) : Calls Tryz.prog 114 #[.string s, .string p] w fun e w' => e = .returned (.bool (prefB s p)) ∧ w' = w := by
  have Hc := Lib.hid (prefixl_at s p hs hp w)
  clear hs hp
  go_enter Tryz.func114, Tryz.ntmps114
  go_wp2_with fail
  refine Hc.out.mono ?_
  rintro e w' ⟨rfl, rfl⟩
  go_wp2
  go_ret
  exact ⟨rfl, rfl⟩

/-- Is a scope another one, or below it? -/
def underB (s top : ByteArray) : Bool := top.toList.isEmpty || (s.toList == top.toList || (prefB s top && s.data.toList[top.size]? == some 47))

set_option maxHeartbeats 1000000 in
theorem under_at (s top : ByteArray) (hs : s.size ≤ 9223372036854775807) (hp : top.size ≤ 9223372036854775807) (w : World) : Calls Tryz.prog 81 #[.string s, .string top] w fun e w' => e = .returned (.bool (underB s top)) ∧ w' = w := by
  have hc := prefix_at s top hs hp w
  cases h1 : top.toList.isEmpty with
  | true =>
    rw [show underB s top = true by unfold underB; rw [h1]; rfl]
    clear hc hs hp
    go_enter Tryz.func81, Tryz.ntmps81
    go_wp2
    go_ret
    exact ⟨rfl, rfl⟩
  | false =>
  cases h2 : s.toList == top.toList with
  | true =>
    rw [show underB s top = true by unfold underB; rw [h1, h2]; rfl]
    clear hc hs hp
    go_enter Tryz.func81, Tryz.ntmps81
    go_wp2
    go_ret
    exact ⟨rfl, rfl⟩
  | false =>
  have hu : underB s top = (prefB s top && s.data.toList[top.size]? == some 47) := by unfold underB; rw [h1, h2]; rfl
  rw [hu]
  cases h3 : prefB s top with
  | false =>
    rw [h3] at hc
    have Hc := Lib.hid hc
    rw [Bool.false_and]
    clear hc hs hp hu h3
    go_enter Tryz.func81, Tryz.ntmps81
    go_wp2_with fail
    refine Hc.out.mono ?_
    rintro e w' ⟨rfl, rfl⟩
    go_wp2
    go_ret
    exact ⟨rfl, rfl⟩
  | true =>
    rw [h3] at hc
    have hlt : top.size < s.size := by
      have h4 := List.isPrefixOf_iff_prefix.1 (show top.data.toList.isPrefixOf s.data.toList = true from h3)
      rcases Nat.lt_or_eq_of_le h4.length_le with h5 | h5
      · exact h5
      · have := h4.eq_of_length h5
        rw [ByteArray.toList_eq, ByteArray.toList_eq, this, beq_self_eq_true] at h2
        cases h2
    have hlt' : (top.size : Int) < s.size := by omega
    have htop' : (top.size : Int) ≤ 9223372036854775807 := by omega
    have hs' : (s.size : Int) ≤ 9223372036854775807 := by omega
    have hg : s.data.toList[top.size]? = some s[top.size] := List.getElem?_eq_getElem hlt
    have hb : (s.data.toList[top.size]? == some 47) = ((s[top.size].toNat : Int) == 47) := by
      rw [hg, Bool.eq_iff_iff, beq_iff_eq, beq_iff_eq]
      constructor
      · intro h
        have h := Option.some.inj h
        rw [h]
        rfl
      · intro h
        congr 1
        exact UInt8.toNat.inj (by have : (47 : UInt8).toNat = 47 := rfl; omega)
    rw [Bool.true_and, hb]
    have Hc := Lib.hid hc
    clear hc hs hp hu h3 hg hb
    go_enter Tryz.func81, Tryz.ntmps81
    go_wp2_with fail
    refine Hc.out.mono ?_
    rintro e w' ⟨rfl, rfl⟩
    go_wp2
    go_ret
    exact ⟨rfl, rfl⟩
end Go.Proofs.YtaenebdppkjhoaaGreatDoor
