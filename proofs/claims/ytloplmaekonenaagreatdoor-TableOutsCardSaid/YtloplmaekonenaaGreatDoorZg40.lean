/-
  gazettelaw14.Fill: a table behind calls, and the map beside it.
-/
import Derived.Test.YtloplmaekonenaaGreatDoorZg39
import Derived.Deep.DeepCutAuto
import Derived.Deep.CutBlock
namespace Go.Proofs.YtloplmaekonenaaGreatDoor
set_option maxRecDepth 20000
open Go.RowKit Go.Sort

/-- The table and the map. -/
structure FillAt (w0 w1 w : World) (b mm : Nat) (own C om : Nat → Prop) (R : List (Int × Fr)) (N N2 n : Nat) (f : Lit → Option Value) : Prop where
  t : Tab w b own C (refM R) N
  r : RefAt w mm om R N2 n f
  ok : RefOk w0 R
  o : ∀ k, own k → w1.heap.size ≤ k ∧ ¬ om k
  m : ∀ k, om k → w1.heap.size ≤ k ∧ ¬ C k
  c : ∀ k, C k → w1.heap.size ≤ k
theorem FillAt.mod {w0 w1 w w' : World} {b mm : Nat} {own C om : Nat → Prop} {R : List (Int × Fr)} {N N2 n : Nat} {f : Lit → Option Value} (h : FillAt w0 w1 w b mm own C om R N N2 n f) (hm : Mod (fun _ => False) w w') : FillAt w0 w1 w' b mm own C om R N N2 n f :=
  ⟨h.t.mod0 hm (fun _ _ h => h), h.r.mod hm (fun _ h => h.elim), h.ok, h.o, h.m, h.c⟩
/-- A round. -/
def FillRel (w0 w1 : World) (b mm : Nat) (l : List Tc) (i : Value) (wr : World) : Prop :=
  ∃ (j N N2 n : Nat) (own C om : Nat → Prop) (R : List (Int × Fr)) (f : Lit → Option Value), i = .int .i64 j ∧ j ≤ l.length ∧ FillAt w0 w1 wr b mm own C om R N N2 n f ∧ N ≤ j ∧ N2 ≤ 2 * j ∧ Mod (fun _ => False) w1 wr
/-- Behind the first look: the place has a map. -/
def SeenAt (w0 w1 w5 w : World) (b mm : Nat) (own C om : Nat → Prop) (R : List (Int × Fr)) (N N2 cb : Nat) (id : Int) : Prop :=
  ∃ (om' : Nat → Prop) (n : Nat) (f : Lit → Option Value) (mi : Nat), FillAt w0 w1 w b mm own C om' R N (N2 + 1) n f ∧ f (.int .i64 id) = some (.map (some mi)) ∧ ¬ om' cb ∧ Mod om w5 w
theorem RefAt.more {w : World} {mm N n : Nat} {om : Nat → Prop} {R : List (Int × Fr)} {f : Lit → Option Value} (h : RefAt w mm om R N n f) : RefAt w mm om R (N + 1) n f := ⟨h.mp, Nat.le_succ_of_le h.n, h.at_, h.inj, h.ob, h.low⟩
theorem seen_new {w0 w1 w5 w6 wB : World} {b mm N N2 n cb nB : Nat} {own C om : Nat → Prop} {R : List (Int × Fr)} {f : Lit → Option Value} {id : Int} (h : FillAt w0 w1 w5 b mm own C om R N N2 n f) (hf : f (.int .i64 id) = none) (hR : ∀ k, refF R id k = none) (hm6 : Mod (fun _ => False) w5 w6)
    (hI : MapR w6 9 w5.heap.size 0 (fun _ => none)) (hB : MapR wB 3 mm nB (putF f (.int .i64 id) (.map (some w5.heap.size)))) (hmB : Mod (fun k => k = mm) w6 wB) (hcb : ¬ om cb) (hcl : cb < w5.heap.size) (hn : nB ≤ N2 + 1) (h1 : w1.heap.size ≤ w5.heap.size) : SeenAt w0 w1 w5 wB b mm own C om R N N2 cb id := by
  have hm5 : Mod (fun k => k = mm) w5 wB := (hm6.mono (fun _ _ h => h.elim)).trans hmB (fun _ _ h => h)
  have hmm := h.r.low _ h.r.ob
  refine ⟨fun k => om k ∨ k = w5.heap.size, nB, putF f (.int .i64 id) (.map (some w5.heap.size)), w5.heap.size, ⟨h.t.mod hm5 (fun k _ hk => ⟨fun ho => (h.o k ho).2 (by rw [show k = mm from hk]; exact h.r.ob), fun hc => (h.m mm h.r.ob).2 (by rw [← show k = mm from hk]; exact hc)⟩), ?_, h.ok, fun k hk => ⟨(h.o k hk).1, fun ho => ho.elim (h.o k hk).2 (fun e => by have := h.t.low.1 k hk; omega)⟩, fun k hk => ?_, h.c⟩, by unfold putF; rw [if_pos rfl], fun ho => ho.elim hcb (fun e => by omega), hm5.mono (fun k _ hk => by rw [show k = mm from hk]; exact h.r.ob)⟩
  · refine h.r.set (mi := w5.heap.size) (R' := R) (hm5.mono (fun _ _ h => .inr h)) hB hn (by unfold putF; rw [if_pos rfl]) (fun x hx => by unfold putF; rw [if_neg (fun h => hx (by cases h; rfl))]) ⟨.inr rfl, by omega⟩ (fun x _ hx => ?_) (fun _ => .inl) (fun _ h => h) ⟨0, _, hI.mod hmB (fun e => by have e : w5.heap.size = mm := e; omega), fun k => by rw [hR k]; rfl⟩ (fun _ _ _ => rfl)
    have h2 := h.r.at_ x
    rw [hx] at h2
    obtain ⟨mi, e, -, -, h3⟩ := h2
    cases e
    exact absurd h3.lt (Nat.lt_irrefl _)
  · rcases hk with hk | hk
    · exact h.m k hk
    · exact ⟨by omega, fun hc => by have := h.t.low.2 k hc; omega⟩
theorem refD_none {R : List (Int × Fr)} {id : Int} {k : List UInt8} (h : refF R id k = none) : refD R id k = R := by
  unfold refD
  refine List.filter_eq_self.2 fun p hp => ?_
  obtain ⟨y, q⟩ := p
  have : ¬ (y = id ∧ keyR q = k) := fun e => by
    obtain ⟨rfl, e2⟩ := e
    exact refF_none h q hp e2
  simp only [Bool.not_eq_true', Bool.and_eq_false_iff, beq_eq_false_iff_ne]
  exact Classical.byContradiction fun h3 => this (by
    simp only [not_or, Classical.not_not] at h3
    exact h3)
theorem RefOk.sub {w0 : World} {R R' : List (Int × Fr)} (h : RefOk w0 R) (hs : ∀ p ∈ R', p ∈ R) : RefOk w0 R' := fun p hp => h p (hs p hp)
/-- The last step of a round that touches the table first, and then the map of one place. -/
theorem fill_put {w0 w1 wC wD wE : World} {b mm N N' N2 n mi : Nat} {own own' C C' om : Nat → Prop} {R R' : List (Int × Fr)} {f : Lit → Option Value} {id : Int} (h : FillAt w0 w1 wC b mm own C om R N N2 n f) (ht : Tab wD b own' C' (refM R') N') (hmD : Mod own wC wD) (ho : ∀ k, own' k → own k ∨ wC.heap.size ≤ k)
    (hC : ∀ k, C' k → C k ∨ wC.heap.size ≤ k) (hmE : Mod (fun k => k = mi) wD wE) (hfid : f (.int .i64 id) = some (.map (some mi))) (hin : RIn wE (refF R' id) mi) (hR : ∀ x, x ≠ id → ∀ k, refF R' x k = refF R x k) (hok : RefOk w0 R') (h1 : w1.heap.size ≤ wC.heap.size) (hmi : om mi) :
    FillAt w0 w1 wE b mm own' C' om R' N' N2 n f := by
  have ho' : ∀ k, own' k → w1.heap.size ≤ k ∧ ¬ om k := fun k hk => (ho k hk).elim (h.o k) fun h2 => ⟨by omega, fun h3 => by have := h.r.low k h3; omega⟩
  have hm' : ∀ k, om k → w1.heap.size ≤ k ∧ ¬ C' k := fun k hk => ⟨(h.m k hk).1, fun h2 => (hC k h2).elim (h.m k hk).2 fun h3 => by have := h.r.low k hk; omega⟩
  refine ⟨ht.mod hmE (fun k _ hk => ⟨fun h2 => (ho' k h2).2 (by rw [show k = mi from hk]; exact hmi), fun h2 => (hm' mi hmi).2 (by rw [← show k = mi from hk]; exact h2)⟩), ?_, hok, ho', hm', fun k hk => (hC k hk).elim (h.c k) fun h3 => by omega⟩
  exact (h.r.mod hmD (fun k hk h2 => (h.o k hk).2 h2)).put hmE hfid hin hR
/-- A place that begins anew. -/
theorem fill_drop {w0 w1 wC wD w6 wE : World} {b mm N N2 n nB : Nat} {own C om : Nat → Prop} {R : List (Int × Fr)} {f : Lit → Option Value} {id : Int} (h : FillAt w0 w1 wC b mm own C om R N N2 n f) (ht : Tab wD b own C (tabX (refM R) id) N) (hmD : Mod own wC wD) (hm6 : Mod (fun _ => False) wD w6)
    (hI : MapR w6 9 wD.heap.size 0 (fun _ => none)) (hB : MapR wE 3 mm nB (putF f (.int .i64 id) (.map (some wD.heap.size)))) (hmB : Mod (fun k => k = mm) w6 wE) (hn : nB ≤ N2 + 1) (h1 : w1.heap.size ≤ wC.heap.size) :
    FillAt w0 w1 wE b mm own C (fun k => om k ∨ k = wD.heap.size) (refX R id) N (N2 + 1) nB (putF f (.int .i64 id) (.map (some wD.heap.size))) := by
  have hm5 : Mod (fun k => k = mm) wD wE := (hm6.mono (fun _ _ h => h.elim)).trans hmB (fun _ _ h => h)
  have hrD := h.r.mod hmD (fun k hk h2 => (h.o k hk).2 h2)
  have hmm := hrD.low _ h.r.ob
  have hsz := hmD.size
  rw [← refM_X] at ht
  refine ⟨ht.mod hm5 (fun k _ hk => ⟨fun ho => (h.o k ho).2 (by rw [show k = mm from hk]; exact h.r.ob), fun hc => (h.m mm h.r.ob).2 (by rw [← show k = mm from hk]; exact hc)⟩), ?_, h.ok.sub fun p hp => (List.mem_filter.1 hp).1, fun k hk => ⟨(h.o k hk).1, fun ho => ho.elim (h.o k hk).2 (fun e => by have := ht.low.1 k hk; omega)⟩, fun k hk => ?_, h.c⟩
  · refine hrD.set (mi := wD.heap.size) (R' := refX R id) (hm5.mono (fun _ _ h => .inr h)) hB hn (by unfold putF; rw [if_pos rfl]) (fun x hx => by unfold putF; rw [if_neg (fun h => hx (by cases h; rfl))]) ⟨.inr rfl, by omega⟩ (fun x _ hx => ?_) (fun _ => .inl) (fun _ h => h) ⟨0, _, hI.mod hmB (fun e => by have e : wD.heap.size = mm := e; omega), fun k => by rw [refF_drop, if_pos rfl]; rfl⟩ (fun x hx k => by rw [refF_drop, if_neg hx])
    have h2 := hrD.at_ x
    rw [hx] at h2
    obtain ⟨mi, e, -, -, h3⟩ := h2
    cases e
    exact absurd h3.lt (Nat.lt_irrefl _)
  · rcases hk with hk | hk
    · exact h.m k hk
    · exact ⟨by omega, fun hc => by have := ht.low.2 k hc; omega⟩
/-- What Fill leaves. -/
def FillPost (w0 w : World) (l : List Tc) (e : Ending) (w' : World) : Prop :=
  ∃ (b mm N N2 n : Nat) (own C om : Nat → Prop) (R : List (Int × Fr)) (f : Lit → Option Value), e = .returned (.tuple #[.pointer (some ⟨b, 0, none⟩), .map (some mm), .bool true]) ∧ FillAt w0 w w' b mm own C om R N N2 n f ∧ N ≤ l.length ∧ N2 ≤ 2 * l.length ∧ Mod (fun _ => False) w w'
theorem kind_cases (k : Int) : ∃ r : Int, k.tmod 4 = r ∧ -3 ≤ r ∧ r ≤ 3 ∧ ∃ K : Nat, (r + 4).tmod 4 = (K : Int) ∧ K < 4 := by
  refine ⟨_, rfl, ?_, ?_, ((k.tmod 4 + 4).tmod 4).toNat, ?_, ?_⟩
  all_goals
    have h1 := Int.tmod_lt_of_pos k (b := 4) (by decide)
    have h2 := Int.lt_tmod_of_pos k (b := 4) (by decide)
  · omega
  · omega
  · rw [Int.tmod_eq_emod_of_nonneg (by omega)]
    omega
  · rw [Int.tmod_eq_emod_of_nonneg (by omega)]
    omega
theorem fkm_some (bm : Nat) (w : World) : (binOp .eql 61 (.map (some bm)) (.map none)).run Tryz.prog w = .ok (.bool false) w := by kernel_rfl
theorem fkm_nil (w : World) : (binOp .eql 61 (.map none) (.map none)).run Tryz.prog w = .ok (.bool true) w := by kernel_rfl
attribute [local go_sem] fkm_some fkm_nil

set_option maxHeartbeats 16000000 in
theorem fill_at (w0 w : World) (hl : Laid w0 w) (v : Value) (l : List Tc) (hv : TcsAt w0 v l) (hm00 : Mod (fun _ => False) w0 w) (hll : l.length ≤ 60) :
    Calls Tryz.prog 30 #[v] w (FillPost w0 w l) := by
  obtain ⟨va, vc, rfl, hvc⟩ : ∃ a c, v = .slice a l.length c ∧ l.length ≤ c := by obtain ⟨-, a, c, h, h2, -⟩ := hv.rd; exact ⟨a, c, h, h2⟩
  have hnew := tnew_at w
  have Hl := Lib.hid hl
  have Hv := Lib.hid hv
  have Hm00 := Lib.hid hm00
  have Hnew := Lib.hid hnew
  clear hl hv hm00 hnew
  go_enter Tryz.func30, Tryz.ntmps30
  go_wp2_with fail
  refine Hnew.out.mono ?_
  rintro e w2 ⟨b, own0, rfl, ht2, hown0, hm2⟩
  obtain ⟨w3, hw3⟩ : ∃ w3 : World, w2.alloc (.map #[] 0) = w3 := ⟨_, rfl⟩
  have hmw3 : Mod (fun _ => False) w2 w3 := hw3 ▸ (Mod.refl (fun _ => False) w2).alloc _
  have hgw3 := heap_alloc_new w2 (.map #[] 0)
  rw [hw3] at hgw3
  have hzw3 : w3.heap.size = w2.heap.size + 1 := by rw [← hw3]; simp
  have hmb : MapR w3 3 w2.heap.size 0 (fun _ => none) := hw3 ▸ MapR.made w2 3
  have hm13 : Mod (fun _ => False) w w3 := hm2.trans hmw3 (fun _ _ h => h)
  have hfa : FillAt w0 w w3 b w2.heap.size own0 (fun _ => False) (fun k => k = w2.heap.size) [] 0 0 0 (fun _ => none) :=
    ⟨ht2.mod0 hmw3 (fun _ _ h => h), ⟨hmb, Nat.le_refl _, fun _ _ => rfl, fun x y m h => (by cases h), rfl, fun k hk => by have h1 : k = w2.heap.size := hk; omega⟩, fun p hp => (by cases hp), fun k hk => ⟨hown0 k hk, fun h => by have h1 : k = w2.heap.size := h; have := ht2.low.1 k hk; omega⟩, fun k hk => ⟨by have h1 : k = w2.heap.size := hk; have := hm2.size; omega, fun h => h⟩, fun k h => h.elim⟩
  have hrel0 : FillRel w0 w b w2.heap.size l (.int .i64 ((0 : Nat) : Int)) w3 := ⟨0, 0, 0, 0, _, _, _, _, _, rfl, Nat.zero_le _, hfa, Nat.le_refl _, Nat.le_refl _, hm13⟩
  obtain ⟨mm, hmmz⟩ : ∃ mm, w2.heap.size = mm := ⟨_, rfl⟩
  rw [hmmz] at hrel0
  have Ht2 := Lib.hid ht2
  have Hown0 := Lib.hid hown0
  have Hm2 := Lib.hid hm2
  have Hw3 := Lib.hid hw3
  have Hmw3 := Lib.hid hmw3
  have Hgw3 := Lib.hid hgw3
  have Hmb := Lib.hid hmb
  have Hm13 := Lib.hid hm13
  have Hfa := Lib.hid hfa
  have Hrel0 := Lib.hid hrel0
  clear ht2 hown0 hm2 hw3 hmw3 hgw3 hmb hm13 hfa hrel0 hzw3
  go_wp2_with (first | ((rw [show w2.alloc _ = w3 from Hw3.out])) | fail)
  try rw [hmmz]
  clear hmmz
  go_loopw [16] (fun i wr => FillRel w0 w b mm l i wr) (fun i _ => l.length - (intOf i).toNat)
  case atStart => exact Hrel0.out
  case round =>
    revert wr
    intro wq hrel
    obtain ⟨j, N, N2, n, own, C, om, R, f, rfl, hj, hfa, hN, hN2, hmr⟩ := hrel
    have hmwq := Hm00.out.trans hmr (fun _ _ h => h)
    by_cases hlt : j < l.length
    · have hlt' : (j : Int) < l.length := by omega
      obtain ⟨x, hxj⟩ : ∃ x, l[j]? = some x := ⟨_, List.getElem?_eq_getElem hlt⟩
      have hxm := List.mem_of_getElem? hxj
      obtain ⟨g, off, rfl, hf0⟩ : ∃ g off, va = some ⟨g, off, none⟩ ∧ CellsAt w0 g (off + j * 4) x.cells := rd_el (f := Tc.cells) (fun _ => rfl) Hv.out.rd hxj
      have hf := hf0.mod hmwq (fun h => h)
      obtain ⟨wz, hwz⟩ : ∃ wz : World, wq.alloc (.cells x.cells.toArray 52) = wz := ⟨_, rfl⟩
      have hmwz : Mod (fun _ => False) wq wz := hwz ▸ (Mod.refl (fun _ => False) wq).alloc _
      have hgwz := heap_alloc_new wq (.cells x.cells.toArray 52)
      rw [hwz] at hgwz
      have hzwz : wz.heap.size = wq.heap.size + 1 := by rw [← hwz]; simp
      have hmz := hmwq.trans hmwz (fun _ _ h => h)
      have hok := (Hv.out.ok x hxm).1.mod hmz
      have hfr := filter_right wz x.f.sc (.slice x.f.a x.f.cs.length x.f.c) x.f.cs hok.cs hok.sc.2 hok.sc.1 (fun c hc => (hok.nm c hc).1)
      obtain ⟨u, hu⟩ : ∃ u, filRight x.f.sc x.f.cs = u := ⟨_, rfl⟩
      rw [hu] at hfr
      have k2 : wz.cell? ⟨wq.heap.size, 2, none⟩ = some (.string x.f.sc) := cell_of hgwz rfl
      have k3 : wz.cell? ⟨wq.heap.size, 3, none⟩ = some (.slice x.f.a x.f.cs.length x.f.c) := cell_of hgwz rfl
      have Hxj := Lib.hid hxj
      have Hxm := Lib.hid hxm
      have Hf0 := Lib.hid hf0
      have Hf := Lib.hid hf
      have Hwz := Lib.hid hwz
      have Hmwz := Lib.hid hmwz
      have Hgwz := Lib.hid hgwz
      have Hmz := Lib.hid hmz
      have Hok := Lib.hid hok
      have Hfr := Lib.hid hfr
      have Hu := Lib.hid hu
      have Hfa := Lib.hid hfa
      have Hmr := Lib.hid hmr
      have Hmwq := Lib.hid hmwq
      clear hxj hxm hf0 hf hwz hmwz hgwz hmz hok hfr hu hfa hmr hmwq hzwz
      go_wp2_with (first | ((with_reducible refine wpList_load_lit 52 (.tmp 18) ?_); refine ⟨g, off + j * 4, rfl, x.cells, Hf.out, by kernel_rfl, by kernel_rfl, ?_⟩) | ((with_reducible refine wpList_store_lit 52 (.tmp 8) (.tmp 19) ?_); refine ⟨rfl, x.cells, rfl, rfl, by kernel_rfl, rfl, ?_⟩; rw [Hwz.out]) | fail)
      refine Hfr.out.mono ?_
      rintro e w4 ⟨rfl, hm4⟩
      have hq4 := Hmwz.out.trans hm4 (fun _ _ h => h)
      have hm14 := Hmr.out.trans hq4 (fun _ _ h => h)
      cases u with
      | false =>
        have hfa4 := Hfa.out.mod hq4
        have Hm4 := Lib.hid hm4
        have Hq4 := Lib.hid hq4
        have Hm14 := Lib.hid hm14
        have Hfa4 := Lib.hid hfa4
        clear hm4 hq4 hm14 hfa4
        go_wp2_with fail
        go_roundw
        case rel => exact ⟨j + 1, N, N2, n, own, C, om, R, f, by go_num, hlt, Hfa4.out, by omega, by omega, Hm14.out⟩
        case measure => simp [intOf]; omega
      | true =>
        have hxr : x.right = true := Hu.out
        have hxf := Tc.fits (Hv.out.ok x Hxm.out).1 hxr
        have hm04 := Hm00.out.trans hm14 (fun _ _ h => h)
        have hg4 := hm4.heap Hgwz.out (fun h => h)
        have l2 : w4.cell? ⟨wq.heap.size, 2, none⟩ = some (.string x.f.sc) := cell_of hg4 rfl
        have l3 : w4.cell? ⟨wq.heap.size, 3, none⟩ = some (.slice x.f.a x.f.cs.length x.f.c) := cell_of hg4 rfl
        have hky := fkey_at w0 w4 ((Hl.out.mod0 hm14)) x.f.sc (.slice x.f.a x.f.cs.length x.f.c) x.f.cs ((Hv.out.ok x Hxm.out).1.cs.mod hm04 (fun _ _ h => h)) hxf.1.1 hxf.2 hxf.1.2
        have hkl0 := filPrt_len x.f.sc (normC x.f.cs) (normC_fits hxf.2)
        have hnlen : (normC x.f.cs).length < 20 := Nat.lt_of_le_of_lt (normC_len x.f.cs) hxf.1.1
        obtain ⟨key, hkey⟩ : ∃ key, keyF (x.f.sc, normC x.f.cs) = key := ⟨_, rfl⟩
        rw [hkey] at hky
        have hkl : key.length ≤ maxLen := by rw [show filPrt x.f.sc (normC x.f.cs) = key from hkey] at hkl0; have := hxf.1.2; unfold maxLen; omega
        have Hm4 := Lib.hid hm4
        have Hq4 := Lib.hid hq4
        have Hm14 := Lib.hid hm14
        have Hm04 := Lib.hid hm04
        have Hg4 := Lib.hid hg4
        have Hky := Lib.hid hky
        have Hkey := Lib.hid hkey
        have Hxr := Lib.hid hxr
        have Hxf := Lib.hid hxf
        clear hm4 hq4 hm14 hm04 hg4 hky hkey hxr hxf hkl0
        go_wp2_with fail
        refine Hky.out.mono ?_
        rintro e w5 ⟨rfl, hm5⟩
        have hq5 := Hq4.out.trans hm5 (fun _ _ h => h)
        have hg5 := hm5.heap Hg4.out (fun h => h)
        have m1 : w5.cell? ⟨wq.heap.size, 1, none⟩ = some (.int .i64 x.id) := cell_of hg5 rfl
        have hfa5 := Hfa.out.mod hq5
        have hkx := Maps.keyOf_int_mk Tryz.underlying3 (id_wf (Hv.out.ok x Hxm.out).2)
        have hlk5 := hfa5.r.mp.look keyed_i Tryz.underlying56 (zero_mm w5) hkx
        have hat5 := hfa5.r.at_ x.id
        have hcbo : ¬ own wq.heap.size := fun h => by have := Hfa.out.t.low.1 _ h; omega
        have hcbm : ¬ om wq.heap.size := fun h => by have := Hfa.out.r.low _ h; omega
        have hm15 := Hmr.out.trans hq5 (fun _ _ h => h)
        have hn60 : n ≤ 200 := by have := hfa5.r.n; omega
        have hin0 : ∀ vv, f (.int .i64 x.id) = some vv → ∃ mi, vv = .map (some mi) := fun vv h => by
          rw [h] at hat5
          obtain ⟨mi, e, -⟩ := hat5
          exact ⟨mi, e⟩
        obtain ⟨qo, hvv⟩ : ∃ qo, (f (.int .i64 x.id)).getD (.map none) = .map qo := by
          cases hfv : f (.int .i64 x.id) with
          | none => exact ⟨none, rfl⟩
          | some v => obtain ⟨mi, rfl⟩ := hin0 v hfv; exact ⟨some mi, rfl⟩
        rw [hvv] at hlk5
        obtain ⟨isn, hev, hisn⟩ : ∃ isn, (∀ wx, (binOp .eql 61 (.map qo) (.map none)).run Tryz.prog wx = .ok (.bool isn) wx) ∧ ((isn = true ∧ qo = none) ∨ (isn = false ∧ ∃ mi, qo = some mi)) := by
          cases qo with
          | none => exact ⟨_, fun wx => fkm_nil wx, .inl ⟨rfl, rfl⟩⟩
          | some mi => exact ⟨_, fun wx => fkm_some mi wx, .inr ⟨rfl, mi, rfl⟩⟩
        have Hm5 := Lib.hid hm5
        have Hq5 := Lib.hid hq5
        have Hg5 := Lib.hid hg5
        have Hfa5 := Lib.hid hfa5
        have Hkx := Lib.hid hkx
        have Hat5 := Lib.hid hat5
        have Hcbo := Lib.hid hcbo
        have Hcbm := Lib.hid hcbm
        have Hm15 := Lib.hid hm15
        have Hin0 := Lib.hid hin0
        have Hvv := Lib.hid hvv
        have Hisn := Lib.hid hisn
        clear hm5 hq5 hg5 hfa5 hkx hat5 hcbo hcbm hm15 hin0 hvv hisn
        go_upto_if 31 with (first | (fail) | fail)
        go_cut [32, 33, 34, 35] (fun _ _ _ _ wx => SeenAt w0 w w5 wx b mm own C om R N N2 wq.heap.size x.id)
        case first =>
          cases isn with
          | true =>
            have hfn : f (.int .i64 x.id) = none := by
              rcases Hisn.out with ⟨-, h⟩ | ⟨h, -⟩
              · cases hfv : f (.int .i64 x.id) with
                | none => rfl
                | some v =>
                  obtain ⟨mi, rfl⟩ := Hin0.out v hfv
                  have h2 := Hvv.out
                  rw [hfv, h] at h2
                  cases h2
              · cases h
            have hrn : ∀ k, refF R x.id k = none := by have := Hat5.out; rw [hfn] at this; exact this
            obtain ⟨w6, hw6⟩ : ∃ w6 : World, w5.alloc (.map #[] 0) = w6 := ⟨_, rfl⟩
            have hmw6 : Mod (fun _ => False) w5 w6 := hw6 ▸ (Mod.refl (fun _ => False) w5).alloc _
            have hgw6 := heap_alloc_new w5 (.map #[] 0)
            rw [hw6] at hgw6
            have hzw6 : w6.heap.size = w5.heap.size + 1 := by rw [← hw6]; simp
            have hI6 : MapR w6 9 w5.heap.size 0 (fun _ => none) := hw6 ▸ MapR.made w5 9
            have hO6 := Hfa5.out.r.mp.mod hmw6 (fun h => h)
            have m1 : w6.cell? ⟨wq.heap.size, 1, none⟩ = some (.int .i64 x.id) := hmw6.cell m1 (fun h => h)
            have Hfn := Lib.hid hfn
            have Hrn := Lib.hid hrn
            have Hw6 := Lib.hid hw6
            have Hmw6 := Lib.hid hmw6
            have Hgw6 := Lib.hid hgw6
            have HI6 := Lib.hid hI6
            have HO6 := Lib.hid hO6
            clear hfn hrn hw6 hmw6 hgw6 hI6 hO6 hzw6
            go_wp2_with (first | (rw [show w5.alloc _ = w6 from Hw6.out]) | ((with_reducible refine wpList_mput_lit 56 (.tmp 32) (.tmp 34) (.tmp 35) ?_); refine ⟨3, 61, mm, n, f, .int .i64 x.id, HO6.out, keyed_i, Tryz.underlying56, by unfold maxLen; omega, rfl, Hkx.out, ?_⟩; intro wB hMB hmB; have HMB := Lib.hid hMB; have HmB := Lib.hid hmB; clear hMB hmB) | fail)
            go_meet
            case rel => exact seen_new Hfa5.out Hfn.out Hrn.out Hmw6.out HI6.out HMB.out HmB.out Hcbm.out (Array.getElem?_eq_some_iff.1 Hg5.out).1 (by have := Hfa5.out.r.n; split <;> omega) Hm15.out.size
          | false =>
            obtain ⟨mi, rfl⟩ : ∃ mi, qo = some mi := by
              rcases Hisn.out with ⟨h, -⟩ | ⟨-, h⟩
              · cases h
              · exact h
            have hfs : f (.int .i64 x.id) = some (.map (some mi)) := by
              cases hfv : f (.int .i64 x.id) with
              | none => have h2 := Hvv.out; rw [hfv] at h2; cases h2
              | some v => have h2 := Hvv.out; rw [hfv] at h2; exact congrArg some h2
            have Hfs := Lib.hid hfs
            clear hfs
            go_wp2_with fail
            go_meet
            case rel => exact ⟨om, n, f, mi, ⟨Hfa5.out.t, Hfa5.out.r.more, Hfa5.out.ok, Hfa5.out.o, Hfa5.out.m, Hfa5.out.c⟩, Hfs.out, Hcbm.out, Mod.refl _ _⟩
        case rest =>
          obtain ⟨om2, n2, f2, mi, hfaB, hfid, hcb2, hm5B⟩ := hcut
          obtain ⟨wB, rfl⟩ : ∃ wB : World, wB = wc := ⟨_, rfl⟩
          have hgB := hm5B.heap Hg5.out Hcbm.out
          have n1 : wB.cell? ⟨wq.heap.size, 1, none⟩ = some (.int .i64 x.id) := cell_of hgB rfl
          have hlkB := hfaB.r.mp.look keyed_i Tryz.underlying56 (zero_mm wB) Hkx.out
          rw [hfid] at hlkB
          have hlkB' : (Instr.lookup 56 (.map (some mm)) (.int .i64 x.id) false).run Tryz.prog wB = .ok (.map (some mi)) wB := hlkB
          have hinB : RIn wB (refF R x.id) mi := by
            have h1 := hfaB.r.at_ x.id
            rw [hfid] at h1
            obtain ⟨mi', e, -, -, h2⟩ := h1
            cases e
            exact h2
          obtain ⟨s, fa, fn, fc, hlkI, -⟩ := hinB.look hkl
          obtain ⟨th, hth⟩ : ∃ th, (refF R x.id key).isSome = th := ⟨_, rfl⟩
          rw [hth] at hlkI
          obtain ⟨wC, hwC⟩ : ∃ wC : World, wB.alloc (.cells #[.string s, .slice fa fn fc] 29) = wC := ⟨_, rfl⟩
          have hmwC : Mod (fun _ => False) wB wC := hwC ▸ (Mod.refl (fun _ => False) wB).alloc _
          have hgwC := heap_alloc_new wB (.cells #[.string s, .slice fa fn fc] 29)
          rw [hwC] at hgwC
          have hzwC : wC.heap.size = wB.heap.size + 1 := by rw [← hwC]; simp
          have hfaC := hfaB.mod hmwC
          have hgC := hmwC.heap hgB (fun h => h)
          have p0 : wC.cell? ⟨wq.heap.size, 0, none⟩ = some (.int .i64 x.kind) := cell_of hgC rfl
          have p1 : wC.cell? ⟨wq.heap.size, 1, none⟩ = some (.int .i64 x.id) := cell_of hgC rfl
          have p2 : wC.cell? ⟨wq.heap.size, 2, none⟩ = some (.string x.f.sc) := cell_of hgC rfl
          have p3 : wC.cell? ⟨wq.heap.size, 3, none⟩ = some (.slice x.f.a x.f.cs.length x.f.c) := cell_of hgC rfl
          have hom : ∀ k, om k → w.heap.size ≤ k := fun k hk => (Hfa.out.m k hk).1
          have hm1B : Mod (fun _ => False) w wB := Hm15.out.upon hm5B (fun k hk => .inr (hom k hk))
          have hm1C := hm1B.trans hmwC (fun _ _ h => h)
          have hm0C := Hm00.out.trans hm1C (fun _ _ h => h)
          have hrd := (Hv.out.ok x Hxm.out).1.cs.mod hm0C (fun _ _ h => h)
          obtain ⟨r, hr4, hr6, hr7, K, hK, hK4⟩ := kind_cases x.kind
          have htf : tabF (refM R) x.id key = (refF R x.id key).map fun f => (f.sc, normC f.cs) := refM_F R x.id key
          have hn2 : n2 ≤ 200 := by have := hfaB.r.n; omega
          have hmiB : om2 mi := by
            have h1 := hfaB.r.at_ x.id
            rw [hfid] at h1
            obtain ⟨mi', e, h2, -⟩ := h1
            cases e
            exact h2
          have HfaB := Lib.hid hfaB
          have Hfid := Lib.hid hfid
          have Hcb2 := Lib.hid hcb2
          have Hm5B := Lib.hid hm5B
          have HgB := Lib.hid hgB
          have HlkB := Lib.hid hlkB
          have HinB := Lib.hid hinB
          have Hth := Lib.hid hth
          have HwC := Lib.hid hwC
          have HmwC := Lib.hid hmwC
          have HgwC := Lib.hid hgwC
          have HfaC := Lib.hid hfaC
          have HgC := Lib.hid hgC
          have Hom := Lib.hid hom
          have Hm1B := Lib.hid hm1B
          have Hm1C := Lib.hid hm1C
          have Hm0C := Lib.hid hm0C
          have Hrd := Lib.hid hrd
          have Htf := Lib.hid htf
          have HmiB := Lib.hid hmiB
          clear hfaB hfid hcb2 hm5B hgB hlkB hinB hth hwC hmwC hgwC hfaC hgC hom hm1B hm1C hm0C hrd htf hmiB hzwC
          by_cases hk2 : (K : Int) = 2
          · have hrem := trem_at w0 wC (Hl.out.mod0 Hm1C.out) b own C (refM R) N HfaC.out.t (by omega) x.id (id_wf (Hv.out.ok x Hxm.out).2) x.f.sc (.slice x.f.a x.f.cs.length x.f.c) x.f.cs Hrd.out Hxf.out.1.1 Hxf.out.2 Hxf.out.1.2
            rw [Hkey.out] at hrem
            have Hrem := Lib.hid hrem
            clear hrem
            go_wp2_with (first | ((with_reducible refine wpList_store_lit 29 (.tmp 10) (.tmp 43) ?_); refine ⟨rfl, [.string s, .slice fa fn fc], rfl, rfl, by kernel_rfl, rfl, ?_⟩; rw [HwC.out]) | fail)
            refine Hrem.out.mono ?_
            rintro e wD hpost
            obtain ⟨hee, htD, hmD⟩ : e = .returned (.bool th) ∧ Tab wD b own C (refM (refD R x.id key)) N ∧ Mod own wC wD := by
              rcases hpost with ⟨h, rfl, hm⟩ | ⟨h, rfl, ht, hm⟩
              · have h2 : refF R x.id key = none := by
                  rw [Htf.out] at h
                  cases hq : refF R x.id key with
                  | none => rfl
                  | some q => rw [hq] at h; cases h
                refine ⟨by rw [← Hth.out, h2]; rfl, ?_, hm.mono (fun _ _ h => h.elim)⟩
                rw [refD_none h2]
                exact HfaC.out.t.mod0 hm (fun _ _ h => h)
              · have h2 : refF R x.id key ≠ none := fun h2 => h (by rw [Htf.out, h2]; rfl)
                refine ⟨?_, by rw [refM_D]; exact ht, hm⟩
                rw [← Hth.out]
                cases hq : refF R x.id key with
                | none => exact absurd hq h2
                | some q => rfl
            subst hee
            have hlkD := (HfaC.out.r.mp.mod hmD (fun h => (HfaC.out.o _ h).2 HfaC.out.r.ob)).look keyed_i Tryz.underlying56 (zero_mm wD) Hkx.out
            rw [Hfid.out] at hlkD
            have hlkD' : (Instr.lookup 56 (.map (some mm)) (.int .i64 x.id) false).run Tryz.prog wD = .ok (.map (some mi)) wD := hlkD
            have hncb : ¬ own wq.heap.size := Hcbo.out
            have q1 : wD.cell? ⟨wq.heap.size, 1, none⟩ = some (.int .i64 x.id) := hmD.cell p1 hncb
            obtain ⟨ni, fi, hi1, hi2⟩ := (HinB.out.mod HmwC.out (fun h => h)).mod hmD (fun h => (HfaC.out.o _ h).2 HmiB.out)
            obtain ⟨wE, hd1, hd2, hd3⟩ := hi1.del keyed_s Tryz.underlying61 (key_s key hkl) 0
            have hinE : RIn wE (refF (refD R x.id key) x.id) mi := ⟨_, _, hd2, fun k => by
              rw [refF_del]
              unfold delF
              by_cases e : k = key
              · rw [if_pos (by rw [e]), if_pos ⟨rfl, e⟩]; rfl
              · rw [if_neg (fun h => e (Lit.string.inj h)), if_neg (fun h => e h.2), hi2]⟩
            have hfaE := fill_put HfaC.out htD hmD (fun k h => .inl h) (fun k h => .inl h) hd3 Hfid.out hinE (fun y hy k => by rw [refF_del, if_neg (fun h => hy h.1)]) (HfaC.out.ok.sub fun p hp => (List.mem_filter.1 hp).1) Hm1C.out.size HmiB.out
            have hm1E : Mod (fun _ => False) w wE := (Hm1C.out.upon hmD (fun k hk => .inr (HfaC.out.o k hk).1)).upon hd3 (fun k hk => .inr (by rw [show k = mi from hk]; exact (HfaC.out.m mi HmiB.out).1))
            have HtD := Lib.hid htD
            have HmD := Lib.hid hmD
            have HlkD := Lib.hid hlkD
            have Hncb := Lib.hid hncb
            have Hi1 := Lib.hid hi1
            have Hi2 := Lib.hid hi2
            have Hd2 := Lib.hid hd2
            have Hd3 := Lib.hid hd3
            have HinE := Lib.hid hinE
            have HfaE := Lib.hid hfaE
            have Hm1E := Lib.hid hm1E
            clear htD hmD hlkD hncb hi1 hi2 hd2 hd3 hinE hfaE hm1E
            go_wp2_with fail
            go_roundw
            case rel => exact ⟨j + 1, N, N2 + 1, n2, own, C, om2, _, f2, by go_num, hlt, HfaE.out, by omega, by omega, Hm1E.out⟩
            case measure => simp [intOf]; omega
          by_cases hk3 : (K : Int) = 3
          · have hdr := tdrop_at wC b own C (refM R) N HfaC.out.t x.id (id_wf (Hv.out.ok x Hxm.out).2)
            have Hdr := Lib.hid hdr
            clear hdr
            go_wp2_with (first | ((with_reducible refine wpList_store_lit 29 (.tmp 10) (.tmp 43) ?_); refine ⟨rfl, [.string s, .slice fa fn fc], rfl, rfl, by kernel_rfl, rfl, ?_⟩; rw [HwC.out]) | fail)
            refine Hdr.out.mono ?_
            rintro e wD ⟨rfl, htD, hmD⟩
            have hmpD := HfaC.out.r.mp.mod hmD (fun h => (HfaC.out.o _ h).2 HfaC.out.r.ob)
            have hncb : ¬ own wq.heap.size := Hcbo.out
            have q1 : wD.cell? ⟨wq.heap.size, 1, none⟩ = some (.int .i64 x.id) := hmD.cell p1 hncb
            obtain ⟨wD2, hwD2⟩ : ∃ wD2 : World, wD.alloc (.map #[] 0) = wD2 := ⟨_, rfl⟩
            have hmwD2 : Mod (fun _ => False) wD wD2 := hwD2 ▸ (Mod.refl (fun _ => False) wD).alloc _
            have hgwD2 := heap_alloc_new wD (.map #[] 0)
            rw [hwD2] at hgwD2
            have hzwD2 : wD2.heap.size = wD.heap.size + 1 := by rw [← hwD2]; simp
            have hI6 : MapR wD2 9 wD.heap.size 0 (fun _ => none) := hwD2 ▸ MapR.made wD 9
            have hO6 := hmpD.mod hmwD2 (fun h => h)
            have HtD := Lib.hid htD
            have HmD := Lib.hid hmD
            have HmpD := Lib.hid hmpD
            have Hncb := Lib.hid hncb
            have HwD2 := Lib.hid hwD2
            have HmwD2 := Lib.hid hmwD2
            have HgwD2 := Lib.hid hgwD2
            have HI6 := Lib.hid hI6
            have HO6 := Lib.hid hO6
            clear htD hmD hmpD hncb hwD2 hmwD2 hgwD2 hI6 hO6 hzwD2
            go_wp2_with (first | (rw [show wD.alloc _ = wD2 from HwD2.out]) | ((with_reducible refine wpList_mput_lit 56 (.tmp 86) (.tmp 88) (.tmp 89) ?_); refine ⟨3, 61, mm, n2, f2, .int .i64 x.id, HO6.out, keyed_i, Tryz.underlying56, by unfold maxLen; omega, rfl, Hkx.out, ?_⟩; intro wE hMB hmB; have HMB := Lib.hid hMB; have HmB := Lib.hid hmB; clear hMB hmB) | fail)
            have hdd := fill_drop HfaC.out HtD.out HmD.out HmwD2.out HI6.out HMB.out HmB.out (by have := HfaC.out.r.n; split <;> omega) Hm1C.out.size
            have hm1E : Mod (fun _ => False) w wE := ((Hm1C.out.upon HmD.out (fun k hk => .inr (HfaC.out.o k hk).1)).trans HmwD2.out (fun _ _ h => h)).upon HmB.out (fun k hk => .inr (by rw [show k = mm from hk]; exact (HfaC.out.m mm HfaC.out.r.ob).1))
            have Hdd := Lib.hid hdd
            have Hm1E := Lib.hid hm1E
            clear hdd hm1E
            go_roundw
            case rel => exact ⟨j + 1, N, N2 + 1 + 1, _, own, C, _, _, _, by go_num, hlt, Hdd.out, by omega, by omega, Hm1E.out⟩
            case measure => simp [intOf]; omega
          have hadd := tadd_at w0 wC (Hl.out.mod0 Hm1C.out) b own C (refM R) N HfaC.out.t (by omega) (fun k hk => Nat.le_trans Hm00.out.size (HfaC.out.o k hk).1) x.id (id_wf (Hv.out.ok x Hxm.out).2) x.f.sc (.slice x.f.a x.f.cs.length x.f.c) x.f.cs Hrd.out Hxf.out.1.1 Hxf.out.2 Hxf.out.1.2
          have Hadd := Lib.hid hadd
          clear hadd
          go_wp2_with (first | ((with_reducible refine wpList_store_lit 29 (.tmp 10) (.tmp 43) ?_); refine ⟨rfl, [.string s, .slice fa fn fc], rfl, rfl, by kernel_rfl, rfl, ?_⟩; rw [HwC.out]) | fail)
          refine Hadd.out.mono ?_
          rintro e wD (⟨h, rfl, hmD⟩ | ⟨h, rfl, own', C', ht0, ho1, ho2, ho3, hmD⟩)
          · have h2 : refF R x.id key ≠ none := fun h2 => h (by rw [show keyF (x.f.sc, normC x.f.cs) = key from Hkey.out, Htf.out, h2]; rfl)
            obtain rfl : th = true := by
              rw [← Hth.out]
              cases hq : refF R x.id key with
              | none => exact absurd hq h2
              | some q => rfl
            have h2' : refF R x.id (keyR x.f) ≠ none := by rw [show keyR x.f = key from Hkey.out]; exact h2
            have hmD0 := hmD
            have hmD := hmD0.mono (G := own) (fun _ _ h => h.elim)
            have hmpD := HfaC.out.r.mp.mod hmD (fun h => (HfaC.out.o _ h).2 HfaC.out.r.ob)
            have hlkD := hmpD.look keyed_i Tryz.underlying56 (zero_mm wD) Hkx.out
            rw [Hfid.out] at hlkD
            have hlkD' : (Instr.lookup 56 (.map (some mm)) (.int .i64 x.id) false).run Tryz.prog wD = .ok (.map (some mi)) wD := hlkD
            have hncb : ¬ own wq.heap.size := Hcbo.out
            have q1 : wD.cell? ⟨wq.heap.size, 1, none⟩ = some (.int .i64 x.id) := hmD.cell p1 hncb
            have q2 : wD.cell? ⟨wq.heap.size, 2, none⟩ = some (.string x.f.sc) := hmD.cell p2 hncb
            have q3 : wD.cell? ⟨wq.heap.size, 3, none⟩ = some (.slice x.f.a x.f.cs.length x.f.c) := hmD.cell p3 hncb
            obtain ⟨ni, fi, hi1, hi2⟩ := (HinB.out.mod HmwC.out (fun h => h)).mod hmD (fun h => (HfaC.out.o _ h).2 HmiB.out)
            have hni : ni ≤ 200 := by
              have h1 := hi1.count keyed_s Tryz.underlying9 (L := keysL (refM R) x.id) (keysL_nodup (by obtain ⟨mo, h⟩ := HfaC.out.t; exact h.nd) x.id) (fun k => by rw [keysL_mem, refM_F, hi2]; cases refF R x.id k <;> rfl)
              have h2 := keysL_len (refM R) x.id
              obtain ⟨mo, h3⟩ := HfaC.out.t
              have := h3.low
              omega
            have hks := key_s key hkl
            have htD : Tab wD b own C (refM (refP R x.id x.f)) N := by
              rw [refM_P HfaC.out.ok (Hv.out.ok x Hxm.out).1 Hxr.out]
              exact HfaC.out.t.mod0 hmD0 (fun _ _ h => h)
            have H2' := Lib.hid h2'
            have H2 := Lib.hid h2
            clear h2' h2
            have HtD := Lib.hid htD
            have HmD := Lib.hid hmD
            have HmpD := Lib.hid hmpD
            have HlkD := Lib.hid hlkD
            have Hncb := Lib.hid hncb
            have Hi1 := Lib.hid hi1
            have Hi2 := Lib.hid hi2
            have Hks := Lib.hid hks
            clear htD hmD hmpD hlkD hncb hi1 hi2 hks
            go_wp2_with (first | ((with_reducible refine wpList_mput_lit 61 (.tmp 61) (.tmp 62) (.tmp 64) ?_); refine ⟨9, 29, mi, ni, fi, .string key, Hi1.out, keyed_s, Tryz.underlying61, by unfold maxLen; omega, rfl, Hks.out, ?_⟩; intro wE hMB hmB; have HMB := Lib.hid hMB; have HmB := Lib.hid hmB; clear hMB hmB) | fail)
            have hinE : RIn wE (refF (refP R x.id x.f) x.id) mi := ⟨_, _, HMB.out, fun k => by
              rw [refP_F H2'.out]
              unfold putF
              by_cases e : k = key
              · rw [if_pos (by rw [e]), if_pos ⟨rfl, e.trans Hkey.out.symm⟩]; rfl
              · rw [if_neg (fun h => e (Lit.string.inj h)), if_neg (fun h => e (h.2.trans Hkey.out)), Hi2.out]⟩
            have hfaE := fill_put HfaC.out HtD.out HmD.out (fun k h => .inl h) (fun k h => .inl h) HmB.out Hfid.out hinE (fun y hy k => by rw [refP_F H2'.out, if_neg (fun h => hy h.1)]) (refP_ok HfaC.out.ok (Hv.out.ok x Hxm.out).1 Hxr.out (Hv.out.ok x Hxm.out).2) Hm1C.out.size HmiB.out
            have hm1E : Mod (fun _ => False) w wE := (Hm1C.out.upon HmD.out (fun k hk => .inr (HfaC.out.o k hk).1)).upon HmB.out (fun k hk => .inr (by rw [show k = mi from hk]; exact (HfaC.out.m mi HmiB.out).1))
            have HinE := Lib.hid hinE
            have HfaE := Lib.hid hfaE
            have Hm1E := Lib.hid hm1E
            clear hinE hfaE hm1E
            go_roundw
            case rel => exact ⟨j + 1, N, N2 + 1, n2, own, C, om2, _, f2, by go_num, hlt, HfaE.out, by omega, by omega, Hm1E.out⟩
            case measure => simp [intOf]; omega
          · have h2 : refF R x.id (keyR x.f) = none := by
              rw [show keyF (x.f.sc, normC x.f.cs) = key from Hkey.out, Htf.out] at h
              rw [show keyR x.f = key from Hkey.out]
              cases hq : refF R x.id key with
              | none => rfl
              | some q => rw [hq] at h; cases h
            obtain rfl : th = false := by
              rw [← Hth.out, show key = keyR x.f from Hkey.out.symm, h2]
              rfl
            have hmpD := HfaC.out.r.mp.mod hmD (fun h => (HfaC.out.o _ h).2 HfaC.out.r.ob)
            have hlkD := hmpD.look keyed_i Tryz.underlying56 (zero_mm wD) Hkx.out
            rw [Hfid.out] at hlkD
            have hlkD' : (Instr.lookup 56 (.map (some mm)) (.int .i64 x.id) false).run Tryz.prog wD = .ok (.map (some mi)) wD := hlkD
            have hncb : ¬ own wq.heap.size := Hcbo.out
            have q1 : wD.cell? ⟨wq.heap.size, 1, none⟩ = some (.int .i64 x.id) := hmD.cell p1 hncb
            have q2 : wD.cell? ⟨wq.heap.size, 2, none⟩ = some (.string x.f.sc) := hmD.cell p2 hncb
            have q3 : wD.cell? ⟨wq.heap.size, 3, none⟩ = some (.slice x.f.a x.f.cs.length x.f.c) := hmD.cell p3 hncb
            obtain ⟨ni, fi, hi1, hi2⟩ := (HinB.out.mod HmwC.out (fun h => h)).mod hmD (fun h => (HfaC.out.o _ h).2 HmiB.out)
            have hni : ni ≤ 200 := by
              have h1 := hi1.count keyed_s Tryz.underlying9 (L := keysL (refM R) x.id) (keysL_nodup (by obtain ⟨mo, h⟩ := HfaC.out.t; exact h.nd) x.id) (fun k => by rw [keysL_mem, refM_F, hi2]; cases refF R x.id k <;> rfl)
              have h2 := keysL_len (refM R) x.id
              obtain ⟨mo, h3⟩ := HfaC.out.t
              have := h3.low
              omega
            have hks := key_s key hkl
            have htD : Tab wD b own' C' (refM (R ++ [(x.id, x.f)])) (N + 1) := by
              rw [refM_snoc]
              exact ht0
            have H2 := Lib.hid h2
            have Ho2 := Lib.hid ho2
            have Ho3 := Lib.hid ho3
            clear h2 ho2 ho3
            have HtD := Lib.hid htD
            have HmD := Lib.hid hmD
            have HmpD := Lib.hid hmpD
            have HlkD := Lib.hid hlkD
            have Hncb := Lib.hid hncb
            have Hi1 := Lib.hid hi1
            have Hi2 := Lib.hid hi2
            have Hks := Lib.hid hks
            clear htD hmD hmpD hlkD hncb hi1 hi2 hks
            go_wp2_with (first | ((with_reducible refine wpList_mput_lit 61 (.tmp 61) (.tmp 62) (.tmp 64) ?_); refine ⟨9, 29, mi, ni, fi, .string key, Hi1.out, keyed_s, Tryz.underlying61, by unfold maxLen; omega, rfl, Hks.out, ?_⟩; intro wE hMB hmB; have HMB := Lib.hid hMB; have HmB := Lib.hid hmB; clear hMB hmB) | fail)
            have hinE : RIn wE (refF (R ++ [(x.id, x.f)]) x.id) mi := ⟨_, _, HMB.out, fun k => by
              rw [refF_new H2.out]
              unfold putF
              by_cases e : k = key
              · rw [if_pos (by rw [e]), if_pos ⟨rfl, e.trans Hkey.out.symm⟩]; rfl
              · rw [if_neg (fun h => e (Lit.string.inj h)), if_neg (fun h => e (h.2.trans Hkey.out)), Hi2.out]⟩
            have hfaE := fill_put HfaC.out HtD.out HmD.out Ho2.out Ho3.out HmB.out Hfid.out hinE (fun y hy k => by rw [refF_new H2.out, if_neg (fun h => hy h.1)]) (fun p hp => by
              rcases List.mem_append.1 hp with hp | hp
              · exact HfaC.out.ok p hp
              · obtain rfl : p = (x.id, x.f) := by simpa using hp
                exact ⟨(Hv.out.ok x Hxm.out).1, Hxr.out, (Hv.out.ok x Hxm.out).2⟩) Hm1C.out.size HmiB.out
            have hm1E : Mod (fun _ => False) w wE := (Hm1C.out.upon HmD.out (fun k hk => .inr (HfaC.out.o k hk).1)).upon HmB.out (fun k hk => .inr (by rw [show k = mi from hk]; exact (HfaC.out.m mi HmiB.out).1))
            have HinE := Lib.hid hinE
            have HfaE := Lib.hid hfaE
            have Hm1E := Lib.hid hm1E
            clear hinE hfaE hm1E
            go_roundw
            case rel => exact ⟨j + 1, N + 1, N2 + 1, n2, own', C', om2, _, f2, by go_num, hlt, HfaE.out, by omega, by omega, Hm1E.out⟩
            case measure => simp [intOf]; omega
    · obtain rfl : j = l.length := by omega
      have Hfa := Lib.hid hfa
      have Hmr := Lib.hid hmr
      have Hmwq := Lib.hid hmwq
      clear hfa hmr hmwq
      go_wp2_with fail
      refine bodyPost_ret (v := .tuple #[.pointer (some ⟨b, 0, none⟩), .map (some mm), .bool true]) (by simp [results, Tryz.results30, Result.andThen]) rfl ?_
      exact ⟨b, mm, N, N2, n, own, C, om, R, f, rfl, Hfa.out, by omega, by omega, Hmr.out⟩
end Go.Proofs.YtloplmaekonenaaGreatDoor
