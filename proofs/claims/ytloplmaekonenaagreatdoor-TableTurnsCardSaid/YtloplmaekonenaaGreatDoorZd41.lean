/-
  Calls of a table in memory; gazettelaw14.light; the plain law of what a table holds.
  gazettelaw13.IndexOrders.
  A region that draws its order, walked step by step: what only reads comes first, wherever it stands; where two operations are ready, each of them may be next.
-/
import Derived.Test.YtloplmaekonenaaGreatDoorZd38
import Derived.Test.YtloplmaekonenaaGreatDoorZd34
import Derived.Test.YtloplmaekonenaaGreatDoorZd40
import Derived.Test.YtloplmaekonenaaGreatDoorZd13
namespace Go.Proofs.YtloplmaekonenaaGreatDoor
set_option maxRecDepth 20000
open Go.RowKit Go.Sort

/-- A call in memory. -/
structure Tc where
  kind : Int
  id : Int
  f : Fr
def Tc.cells (c : Tc) : List Value := [.int .i64 c.kind, .int .i64 c.id, .string c.f.sc, .slice c.f.a c.f.cs.length c.f.c]
structure TcsAt (w : World) (v : Value) (l : List Tc) : Prop where
  rd : RdSl w 4 v l.length (l.flatMap Tc.cells)
  ok : ∀ c ∈ l, c.f.ok w ∧ (-9223372036854775808 ≤ c.id ∧ c.id ≤ 9223372036854775807)
theorem TcsAt.mod {w w' : World} {v : Value} {l : List Tc} (h : TcsAt w v l) (hm : Mod (fun _ => False) w w') : TcsAt w' v l := ⟨h.rd.mod hm (fun _ _ h => h), fun c hc => ⟨(h.ok c hc).1.mod hm, (h.ok c hc).2⟩⟩
/-- What a call adds. -/
def Tc.ent (c : Tc) : Int × Fil := (c.id, (c.f.sc, normC c.f.cs))
def Tc.right (c : Tc) : Bool := filRight c.f.sc c.f.cs
theorem Tc.fits {w : World} {c : Tc} (h : c.f.ok w) (hr : c.right = true) : (c.f.cs.length < 20 ∧ c.f.sc.size ≤ 1000000) ∧ ∀ d ∈ c.f.cs, d.fits := by
  have hb := fil_bounds (show filRight c.f.sc c.f.cs = true from hr)
  exact ⟨⟨by omega, by omega⟩, fun d hd => ⟨⟨(h.nm d hd).2.1, (h.nm d hd).2.2, by have := (hb.2.2 d hd).2.2.2; omega⟩, by have := (hb.2.2 d hd).1; omega⟩⟩
theorem ent_inj {w : World} {c d : Tc} (hc : c.f.ok w) (hd : d.f.ok w) (rc : c.right = true) (rd : d.right = true) (h : keyF c.ent.2 = keyF d.ent.2) : c.ent.2 = d.ent.2 :=
  keyF_inj rc rd (fun x hx => (hc.nm x hx).2.2) (fun x hx => (hd.nm x hx).2.2) h

/-- A round of light. -/
def Lt14 (w : World) (l : List Tc) (i : Value) (wr : World) : Prop := ∃ j : Nat, i = .int .i64 j ∧ j ≤ l.length ∧ Mod (fun _ => False) w wr
set_option maxHeartbeats 4000000 in
theorem light14_at (w : World) (v : Value) (l : List Tc) (hv : TcsAt w v l) (hll : l.length ≤ 9223372036854775807) :
    Calls Tryz.prog 24 #[v] w fun e w' => ∃ t, e = .returned (.bool t) ∧ (t = true → l.length ≤ 60) ∧ Mod (fun _ => False) w w' := by
  obtain ⟨va, vc, rfl, hvc⟩ : ∃ a c, v = .slice a l.length c ∧ l.length ≤ c := by obtain ⟨-, a, c, h, h2, -⟩ := hv.rd; exact ⟨a, c, h, h2⟩
  have Hv := Lib.hid hv
  clear hv
  go_enter Tryz.func24, Tryz.ntmps24
  go_wp2_with fail
  go_loopw [7] (fun i wr => Lt14 w l i wr) (fun i _ => l.length - (intOf i).toNat)
  case atStart => exact ⟨0, rfl, Nat.zero_le _, Mod.refl _ _⟩
  case round =>
    revert wr
    intro wq hrel
    obtain ⟨j, rfl, hj, hmr⟩ := hrel
    by_cases hlt : j < l.length
    · have hlt' : (j : Int) < l.length := by omega
      obtain ⟨x, hxj⟩ : ∃ x, l[j]? = some x := ⟨_, List.getElem?_eq_getElem hlt⟩
      have hxm := List.mem_of_getElem? hxj
      obtain ⟨g, off, rfl, hf0⟩ : ∃ g off, va = some ⟨g, off, none⟩ ∧ CellsAt w g (off + j * 4) x.cells := rd_el (f := Tc.cells) (fun _ => rfl) Hv.out.rd hxj
      have hf := hf0.mod hmr (fun h => h)
      obtain ⟨wz, hwz⟩ : ∃ wz : World, wq.alloc (.cells x.cells.toArray 52) = wz := ⟨_, rfl⟩
      have hmwz : Mod (fun _ => False) wq wz := hwz ▸ (Mod.refl (fun _ => False) wq).alloc _
      have hgwz := heap_alloc_new wq (.cells x.cells.toArray 52)
      rw [hwz] at hgwz
      have hzwz : wz.heap.size = wq.heap.size + 1 := by rw [← hwz]; simp
      have hmz := hmr.trans hmwz (fun _ _ h => h)
      have hok := (Hv.out.ok x hxm).1.mod hmz
      have hlt7 := light07_at wz x.f.sc (.slice x.f.a x.f.cs.length x.f.c) x.f.cs hok.cs hok.sc.2
      have k2 : wz.cell? ⟨wq.heap.size, 2, none⟩ = some (.string x.f.sc) := cell_of hgwz rfl
      have k3 : wz.cell? ⟨wq.heap.size, 3, none⟩ = some (.slice x.f.a x.f.cs.length x.f.c) := cell_of hgwz rfl
      have Hxj := Lib.hid hxj
      have Hxm := Lib.hid hxm
      have Hf0 := Lib.hid hf0
      have Hf := Lib.hid hf
      have Hwz := Lib.hid hwz
      have Hmwz := Lib.hid hmwz
      have Hgwz := Lib.hid hgwz
      have Hmz := Lib.hid hmz
      have Hok := Lib.hid hok
      have Hlt7 := Lib.hid hlt7
      have Hmr := Lib.hid hmr
      clear hxj hxm hf0 hf hwz hmwz hgwz hmz hok hlt7 hmr hzwz
      go_wp2_with (first | ((with_reducible refine wpList_load_lit 52 (.tmp 9) ?_); refine ⟨g, off + j * 4, rfl, x.cells, Hf.out, by kernel_rfl, by kernel_rfl, ?_⟩) | ((with_reducible refine wpList_store_lit 52 (.tmp 4) (.tmp 10) ?_); refine ⟨rfl, x.cells, rfl, rfl, by kernel_rfl, rfl, ?_⟩; rw [Hwz.out]) | fail)
      refine Hlt7.out.mono ?_
      rintro e wA ⟨t, rfl, hmA⟩
      have hm0A := Hmz.out.trans hmA (fun _ _ h => h)
      have HmA := Lib.hid hmA
      have Hm0A := Lib.hid hm0A
      clear hmA hm0A
      cases t with
      | false =>
        go_wp2_with fail
        go_ret
        exact ⟨_, rfl, fun h => (by cases h), Hm0A.out⟩
      | true =>
        go_wp2_with fail
        go_roundw
        case rel => exact ⟨j + 1, by go_num, hlt, Hm0A.out⟩
        case measure => simp [intOf]; omega
    · obtain rfl : j = l.length := by omega
      have Hmr := Lib.hid hmr
      clear hmr
      go_wp2_with fail
      go_ret
      exact ⟨_, rfl, fun h => by have := of_decide_eq_true h; omega, Hmr.out⟩

/-! ### What is told hangs on what there is alone -/
theorem allF_cong {M M' : List (Int × Fil)} (hinj : ∀ p ∈ M, ∀ q ∈ M, keyF p.2 = keyF q.2 → p.2 = q.2) (h : ∀ p, p ∈ M ↔ p ∈ M') (td : Int) (k : List UInt8) : allF M td k = allF M' td k := by
  cases h1 : allF M td k with
  | some q =>
    obtain ⟨hk, x, hx, hm⟩ := allF_some h1
    obtain ⟨r, hr⟩ := allF_has ((h _).1 hm) hx
    rw [hk] at hr
    obtain ⟨hk2, y, hy, hm2⟩ := allF_some hr
    have e : q = r := hinj _ hm _ ((h _).2 hm2) (hk.trans hk2.symm)
    rw [hr, e]
  | none =>
    cases h2 : allF M' td k with
    | none => rfl
    | some q =>
      obtain ⟨hk, x, hx, hm⟩ := allF_some h2
      obtain ⟨r, hr⟩ := allF_has ((h _).2 hm) hx
      rw [hk, h1] at hr
      cases hr
theorem lt_lists {K K' : List (List UInt8)} (h1 : K.Pairwise (· < ·)) (h2 : K'.Pairwise (· < ·)) (h : ∀ k, k ∈ K ↔ k ∈ K') : K = K' := by
  have n1 : K.Nodup := h1.imp fun {a b} h e => by subst e; exact List.lt_irrefl _ h
  have n2 : K'.Nodup := h2.imp fun {a b} h e => by subst e; exact List.lt_irrefl _ h
  exact List.Perm.eq_of_pairwise (le := fun a b => a < b) (fun a b _ _ h3 h4 => absurd h4 (List.lt_asymm h3)) h1 h2 ((List.perm_ext_iff_of_nodup n1 n2).2 h)
theorem outL_cong {M M' : List (Int × Fil)} (hinj : ∀ p ∈ M, ∀ q ∈ M, keyF p.2 = keyF q.2 → p.2 = q.2) (h : ∀ p, p ∈ M ↔ p ∈ M') (td : Int) : outL M td = outL M' td := by
  have hf : allF M td = allF M' td := funext (allF_cong hinj h td)
  have hk : allK M td = allK M' td := lt_lists (allK_lt M td) (allK_lt M' td) fun k => by rw [allK_mem, allK_mem, hf]
  unfold outL
  rw [hf, hk]
theorem tabD_last {M : List (Int × Fil)} {x : Int} {q : Fil} (h : tabF M x (keyF q) = none) : tabD (M ++ [(x, q)]) x (keyF q) = M := by
  unfold tabD
  rw [List.filter_append]
  have h1 : M.filter (fun p => !(p.1 == x && keyF p.2 == keyF q)) = M := List.filter_eq_self.2 fun p hp => by
    obtain ⟨y, r⟩ := p
    have : ¬ (y = x ∧ keyF r = keyF q) := fun e => by
      obtain ⟨rfl, e2⟩ := e
      exact tabF_none h r hp e2
    simp only [Bool.not_eq_true', Bool.and_eq_false_iff, beq_eq_false_iff_ne]
    exact Classical.byContradiction fun h3 => this (by
      simp only [not_or, Classical.not_not] at h3
      exact h3)
  rw [h1]
  simp
end Go.Proofs.YtloplmaekonenaaGreatDoor

namespace Go.Proofs.YtloplmaekonenaaGreatDoor
set_option maxRecDepth 20000
open Go.RowKit

/-- Two indices in one memory. -/
structure Two (w : World) (bx bz : Nat) (ox Cx oz Cz : Nat → Prop) (I J : List (Int × Fil)) (T U : Nat) : Prop where
  x : Idx w bx ox Cx I T
  z : Idx w bz oz Cz J U
  d1 : ∀ k, ox k → ¬ oz k ∧ ¬ Cz k
  d2 : ∀ k, oz k → ¬ Cx k
theorem Two.symm {w : World} {bx bz : Nat} {ox Cx oz Cz : Nat → Prop} {I J : List (Int × Fil)} {T U : Nat} (h : Two w bx bz ox Cx oz Cz I J T U) : Two w bz bx oz Cz ox Cx J I U T :=
  ⟨h.z, h.x, fun k hk => ⟨fun h2 => (h.d1 k h2).1 hk, h.d2 k hk⟩, fun k hk => (h.d1 k hk).2⟩
theorem Two.step {w w' : World} {bx bz : Nat} {ox Cx oz Cz ox' Cx' : Nat → Prop} {I J I' : List (Int × Fil)} {T U T' : Nat} (h : Two w bx bz ox Cx oz Cz I J T U) (hx : Idx w' bx ox' Cx' I' T') (h1 : ∀ k, ox' k → ox k ∨ w.heap.size ≤ k)
    (h2 : ∀ k, Cx' k → Cx k ∨ w.heap.size ≤ k) (hm : Mod ox w w') : Two w' bx bz ox' Cx' oz Cz I' J T' U := by
  refine ⟨hx, h.z.mod2 hm (fun k _ hk => h.d1 k hk), fun k hk => ?_, fun k hk hc => ?_⟩
  · rcases h1 k hk with h3 | h3
    · exact h.d1 k h3
    · exact ⟨fun h4 => by have := h.z.low.1 k h4; omega, fun h4 => by have := h.z.low.2 k h4; omega⟩
  · rcases h2 k hc with h3 | h3
    · exact h.d2 k hk h3
    · have := h.z.low.1 k hk
      omega
theorem Two.mod {w w' : World} {bx bz : Nat} {ox Cx oz Cz : Nat → Prop} {I J : List (Int × Fil)} {T U : Nat} (h : Two w bx bz ox Cx oz Cz I J T U) (hm : Mod (fun _ => False) w w') : Two w' bx bz ox Cx oz Cz I J T U :=
  ⟨h.x.mod hm (fun _ _ h => h), h.z.mod hm (fun _ _ h => h), h.d1, h.d2⟩
end Go.Proofs.YtloplmaekonenaaGreatDoor

namespace Go.Proofs.YtloplmaekonenaaGreatDoor
set_option maxRecDepth 20000
open Go.RowKit

section
variable {P : Program} {ops : Array Oper} {Q : Exit → Act → World → Prop} {md : Region.Mode} {S : World → Prop} {T : Nat → Bool}

/-- Whatever order is picked from here on. -/
structure AN (P : Program) (md : Region.Mode) (ops : Array Oper) (Q : Exit → Act → World → Prop) (S : World → Prop) (T : Nat → Bool) (fuel : Nat) (listed : Array Bool) (a : Act) (w : World) : Prop where
  out : Region.noSelect ops = true → (∀ (c : List PanicEntry) (a : Act) (d : Option Tmp) (v : Value) (w : World), Q (.panic c) (a.put d v) w → Q (.panic c) a w) → ClosedL md ops listed → wpAnyG P md ops Q S T fuel listed a w

theorem wp_region_any6 {id : Nat} {a : Act} {w : World} {l : List Oper} (ks : List Nat) (S : World → Prop) (hm : P.follows .mixedOrders = true) (hsel : Region.noSelect l.toArray = true)
    (hQ : ∀ (c : List PanicEntry) (a : Act) (d : Option Tmp) (v : Value) (w : World), Q (.panic c) (a.put d v) w → Q (.panic c) a w)
    (h : AN P .any l.toArray Q S (fun j => ks.contains j) l.length (Array.replicate l.toArray.size false) a w.drew) : (Code.region id l.toArray true).wp P Q a w := by
  have hcl : ClosedL .any l.toArray (Array.replicate l.toArray.size false) := fun j oj _ hl => by
    exfalso
    rcases Nat.lt_or_ge j l.toArray.size with h' | h' <;> simp_all
  refine wp_region_any hm (wpAny_of_G (S := S) (T := fun j => ks.contains j) _ _ _ _ ?_)
  have key := h.out hsel hQ hcl
  simpa using key

def rdOk (md : Region.Mode) (ops : Array Oper) (T : Nat → Bool) (i : Nat) (listed : Array Bool) : Bool :=
  decide (i < ops.size) && Region.free md ops listed i && (Region.ready md ops listed).contains i &&
      (((ops[i]?).map (fun o => pureOp o.op)).getD false || (List.range ops.size).all fun j => j == i || listed.getD j true || reachB md ops ops.size j i || T j)

theorem an_rd {i fuel : Nat} {listed : Array Bool} {o : Oper} {a : Act} {w : World} (hok : rdOk md ops T i listed = true) (ho : ops[i]? = some o) (hw : Region.wanted o (yielded ops a.tmps) = true) (hSw : pureOp o.op = false → S w) (v : Value)
    (hy : ∀ w, (pureOp o.op = false → S w) → (execOp a.eval o).run P w = .ok (.value v) w)
    (h : ∀ K : Act → Prop, (∀ a', AN P md ops Q S T fuel (listed.setIfInBounds i true) a' w → K a') → K (a.put o.dst v)) : AN P md ops Q S T (fuel + 1) listed a w := by
  refine ⟨fun hsel hQ hc => ?_⟩
  unfold rdOk at hok
  simp only [Bool.and_eq_true, decide_eq_true_eq] at hok
  obtain ⟨⟨⟨hi, hf⟩, hr⟩, hp⟩ := hok
  have hri : i ∈ Region.ready md ops listed := by simpa using hr
  have h' := (h _ fun _ h => h).out hsel hQ (hc.set hri)
  exact wpAnyG_first (S := S) (T := T) (S' := fun w => pureOp o.op = false → S w) ho (Region.noSelect_spec hsel) (fun c a w => hQ c a o.dst v w) fuel listed a w hc (Region.free_spec ho hf)
    (fun j hj hji hun hre w w' hT h hpf => by
      simp only [ho, Option.map_some, Option.getD_some, hpf, Bool.false_or, List.all_eq_true, List.mem_range, Bool.or_eq_true, beq_iff_eq] at hp
      rcases hp j hj with ((h1 | h1) | h1) | h1
      · exact absurd h1 hji
      · rw [hun] at h1; cases h1
      · rw [hre] at h1; cases h1
      · exact hT h1 (h hpf))
    hri (.inl ⟨hw, hy⟩) hSw h'

theorem an_one {i fuel : Nat} {listed : Array Bool} {a : Act} {w : World} (hr : (Region.ready md ops listed == [i]) = true) (h : GO P ops Q S T i (fun a' w' => AN P md ops Q S T fuel (listed.setIfInBounds i true) a' w') a w) : AN P md ops Q S T (fuel + 1) listed a w := by
  refine ⟨fun hsel hQ hc => ?_⟩
  have hr : Region.ready md ops listed = [i] := by simpa using hr
  refine ⟨fun h0 => (by rw [hr] at h0; cases h0), fun j hj => ?_⟩
  have hj' : j ∈ Region.ready md ops listed := hj
  rw [hr] at hj
  obtain rfl : j = i := by simpa using hj
  exact wpOp_mono (fun a' w' h' => ⟨h'.1, h'.2.out hsel hQ (hc.set hj')⟩) h.out

theorem an_two {i j fuel : Nat} {listed : Array Bool} {a : Act} {w : World} (hr : (Region.ready md ops listed == [i, j]) = true) (h1 : GO P ops Q S T i (fun a' w' => AN P md ops Q S T fuel (listed.setIfInBounds i true) a' w') a w)
    (h2 : GO P ops Q S T j (fun a' w' => AN P md ops Q S T fuel (listed.setIfInBounds j true) a' w') a w) : AN P md ops Q S T (fuel + 1) listed a w := by
  refine ⟨fun hsel hQ hc => ?_⟩
  have hr : Region.ready md ops listed = [i, j] := by simpa using hr
  refine ⟨fun h0 => (by rw [hr] at h0; cases h0), fun k hk => ?_⟩
  have hk' : k ∈ Region.ready md ops listed := hk
  rw [hr] at hk
  have hk2 : k = i ∨ k = j := by simpa using hk
  rcases hk2 with rfl | rfl
  · exact wpOp_mono (fun a' w' h' => ⟨h'.1, h'.2.out hsel hQ (hc.set hk')⟩) h1.out
  · exact wpOp_mono (fun a' w' h' => ⟨h'.1, h'.2.out hsel hQ (hc.set hk')⟩) h2.out

theorem an_nil {listed : Array Bool} {a : Act} {w : World} (hr : (Region.ready md ops listed).isEmpty = true) (h : Q .normal a w) : AN P md ops Q S T 0 listed a w :=
  ⟨fun _ _ _ => ⟨by simpa using hr, h⟩⟩
end
end Go.Proofs.YtloplmaekonenaaGreatDoor
