/-
  gazettelaw13.IndexRuns.
-/
import Derived.Test.YtloplmaekonenaaGreatDoorZb40
import Derived.Test.YtloplmaekonenaaGreatDoorZb41
import Derived.Test.YtloplmaekonenaaGreatDoorZb35
namespace Go.Proofs.YtloplmaekonenaaGreatDoor
set_option maxRecDepth 20000
open Go.RowKit

/-- A call in memory. -/
structure Cl where
  kind : Int
  id : Int
  f : Fr
  es : ByteArray
  ea : Option Addr
  ec : Nat
  L : List Att
def Cl.cells (c : Cl) : List Value := [.int .i64 c.kind, .int .i64 c.id, .string c.f.sc, .slice c.f.a c.f.cs.length c.f.c, .string c.es, .slice c.ea c.L.length c.ec]
structure Cl.ok (w : World) (c : Cl) : Prop where
  f : c.f.ok w
  rd : RdSl w 6 (.slice c.ea c.L.length c.ec) c.L.length (atts c.L)
  id : -9223372036854775808 ≤ c.id ∧ c.id ≤ 9223372036854775807
  es : c.es.size ≤ 9223372036854775807 ∧ c.L.length ≤ 9223372036854775807
  nm : ∀ a ∈ c.L, a.name.size ≤ 9223372036854775807
/-- Calls in memory. -/
structure ClsAt (w : World) (v : Value) (l : List Cl) : Prop where
  rd : RdSl w 6 v l.length (l.flatMap Cl.cells)
  ok : ∀ c ∈ l, c.ok w
theorem Fr.ok.mod {w w' : World} {f : Fr} (h : f.ok w) (hm : Mod (fun _ => False) w w') : f.ok w' := ⟨h.cs.mod hm (fun _ _ h => h), h.sc, h.nm⟩
theorem Cl.ok.mod {w w' : World} {c : Cl} (h : c.ok w) (hm : Mod (fun _ => False) w w') : c.ok w' := ⟨h.f.mod hm, h.rd.mod hm (fun _ _ h => h), h.id, h.es, h.nm⟩
/-- What a filter is in the map. -/
def Fr.val (f : Fr) : Value := .agg #[.string f.sc, .slice f.a f.cs.length f.c]
/-- The index and the map, side by side. -/
structure Runs (w0 wb w : World) (b mb : Nat) (own C : Nat → Prop) (M : List (Int × Fr)) (T : Nat) : Prop where
  ix : Idx w b own C (runI M) T
  mp : ∃ fm, MapR w 3 mb M.length fm ∧ ∀ id : Int, fm (.int .i64 id) = (asF M id).map Fr.val
  nd : (M.map Prod.fst).Nodup
  ok : ∀ p ∈ M, p.2.ok w0 ∧ filRight p.2.sc p.2.cs = true ∧ (-9223372036854775808 ≤ p.1 ∧ p.1 ≤ 9223372036854775807)
  o : ∀ k, own k → wb.heap.size ≤ k ∧ k ≠ mb
  c : ∀ k, C k → wb.heap.size ≤ k ∧ k ≠ mb
  m : wb.heap.size ≤ mb
theorem Runs.mod {w0 wb w w' : World} {b mb : Nat} {own C : Nat → Prop} {M : List (Int × Fr)} {T : Nat} (h : Runs w0 wb w b mb own C M T) (hm : Mod (fun _ => False) w w') : Runs w0 wb w' b mb own C M T := by
  obtain ⟨fm, h1, h2⟩ := h.mp
  exact ⟨h.ix.mod hm (fun _ _ h => h), ⟨fm, h1.mod hm (fun h => h), h2⟩, h.nd, h.ok, h.o, h.c, h.m⟩
theorem Runs.new {w0 wb w : World} {b mb : Nat} {own : Nat → Prop} (h : Idx w b own (fun _ => False) [] 0) (hm : MapR w 3 mb 0 (fun _ => none)) (ho : ∀ k, own k → wb.heap.size ≤ k ∧ k ≠ mb) (h1 : wb.heap.size ≤ mb) : Runs w0 wb w b mb own (fun _ => False) [] 0 :=
  ⟨h, ⟨_, hm, fun _ => rfl⟩, List.nodup_nil, fun p hp => (by cases hp), ho, fun _ h => h.elim, h1⟩
theorem id_wf {n : Int} (h : -9223372036854775808 ≤ n ∧ n ≤ 9223372036854775807) : (Lit.int .i64 n).wf = true := by
  simp only [Lit.wf, Bool.and_eq_true, decide_eq_true_eq]
  exact ⟨show (-9223372036854775808 : Int) ≤ n from h.1, show n ≤ (9223372036854775807 : Int) from h.2⟩
theorem Runs.look {w0 wb w : World} {b mb : Nat} {own C : Nat → Prop} {M : List (Int × Fr)} {T : Nat} (h : Runs w0 wb w b mb own C M T) {id : Int} (hid : -9223372036854775808 ≤ id ∧ id ≤ 9223372036854775807) :
    ∃ s a n c, (Instr.lookup 26 (.map (some mb)) (.int .i64 id) true).run Tryz.prog w = .ok (.tuple #[.agg #[.string s, .slice a n c], .bool (asF M id).isSome]) w ∧ ∀ f, asF M id = some f → s = f.sc ∧ a = f.a ∧ n = f.cs.length ∧ c = f.c := by
  obtain ⟨fm, h1, h2⟩ := h.mp
  have h3 := h1.look_ok keyed_i Tryz.underlying26 (zero_fil w) (Maps.keyOf_int_mk Tryz.underlying3 (id_wf hid))
  rw [h2] at h3
  cases hf : asF M id with
  | none =>
    rw [hf] at h3
    exact ⟨_, _, _, _, h3, fun f h => by cases h⟩
  | some f =>
    rw [hf] at h3
    exact ⟨_, _, _, _, h3, fun f' h => by cases h; exact ⟨rfl, rfl, rfl, rfl⟩⟩
theorem asD_none {α : Type} {M : List (Int × α)} {id : Int} (h : asF M id = none) : asD M id = M := by
  unfold asD
  refine List.filter_eq_self.2 fun p hp => ?_
  have : p.1 ≠ id := fun e => asF_none h (e ▸ List.mem_map_of_mem (f := Prod.fst) hp)
  simp [this]
/-- One entry less in the map, and in the index. -/
theorem Runs.del {w0 wb w w4 w5 : World} {b mb n5 : Nat} {own C : Nat → Prop} {M : List (Int × Fr)} {T : Nat} {id : Int} {fm : Lit → Option Value} (h : Runs w0 wb w b mb own C M T) (h2 : ∀ x : Int, fm (.int .i64 x) = (asF M x).map Fr.val) (hix : Idx w4 b own C (runI (asD M id)) T)
    (h5 : MapR w5 3 mb n5 (delF fm (.int .i64 id))) (hn : n5 = if (asF M id).isSome then M.length - 1 else M.length) (hm : Mod (fun k => k = mb) w4 w5) : Runs w0 wb w5 b mb own C (asD M id) T := by
  refine ⟨hix.mod2 hm (fun k _ hk => ⟨fun ho => (h.o k ho).2 hk, fun hc => (h.c k hc).2 hk⟩), ⟨delF fm (.int .i64 id), ?_, fun x => ?_⟩, asD_nodup h.nd id, fun p hp => h.ok p (List.mem_filter.1 hp).1, h.o, h.c, h.m⟩
  · have e : (asD M id).length = n5 := by
      rw [hn]
      cases hf : asF M id with
      | none => rw [asD_none hf]; rfl
      | some f =>
        have := asD_len h.nd (id := id) (by rw [hf]; exact fun h => by cases h)
        simp only [Option.isSome_some, if_true]
        omega
    rw [e]
    exact h5
  · rw [asF_del]
    unfold delF
    by_cases e : x = id
    · rw [if_pos (by rw [e]), if_pos e]; rfl
    · rw [if_neg (fun h => e (by cases h; rfl)), if_neg e, h2]
/-- One entry more in the map, and in the index. -/
theorem Runs.put {w0 wb w w4 w5 : World} {b mb n5 : Nat} {own C own' C' : Nat → Prop} {M : List (Int × Fr)} {T : Nat} {id : Int} {f : Fr} {fm : Lit → Option Value} (h : Runs w0 wb w b mb own C M T) (hq : asF M id = none) (h2 : ∀ x : Int, fm (.int .i64 x) = (asF M x).map Fr.val)
    (hix : Idx w4 b own' C' (runI M ++ [(id, (f.sc, normC f.cs))]) (T + 20)) (ho : ∀ k, own' k → own k ∨ w.heap.size ≤ k) (hC : ∀ k, C' k → C k ∨ w.heap.size ≤ k) (hf : f.ok w0) (hr : filRight f.sc f.cs = true) (hid : -9223372036854775808 ≤ id ∧ id ≤ 9223372036854775807)
    (h5 : MapR w5 3 mb n5 (putF fm (.int .i64 id) f.val)) (hn : n5 = M.length + 1) (hm : Mod (fun k => k = mb) w4 w5) (hb : wb.heap.size ≤ w.heap.size) : Runs w0 wb w5 b mb own' C' (M ++ [(id, f)]) (T + 20) := by
  obtain ⟨fm0, h1, -⟩ := h.mp
  have hlt := h1.lt
  have ho' : ∀ k, own' k → wb.heap.size ≤ k ∧ k ≠ mb := fun k hk => (ho k hk).elim (h.o k) (fun h => ⟨by omega, by omega⟩)
  have hC' : ∀ k, C' k → wb.heap.size ≤ k ∧ k ≠ mb := fun k hk => (hC k hk).elim (h.c k) (fun h => ⟨by omega, by omega⟩)
  rw [← runI_put] at hix
  refine ⟨hix.mod2 hm (fun k _ hk => ⟨fun h => (ho' k h).2 hk, fun h => (hC' k h).2 hk⟩), ⟨putF fm (.int .i64 id) f.val, ?_, fun x => ?_⟩, as_nodup h.nd hq, fun p hp => ?_, ho', hC', h.m⟩
  · rw [List.length_append, List.length_singleton, ← hn]
    exact h5
  · rw [asF_new hq]
    unfold putF
    by_cases e : x = id
    · rw [if_pos (by rw [e]), if_pos e]; rfl
    · rw [if_neg (fun h => e (by cases h; rfl)), if_neg e, h2]
  · rcases List.mem_append.1 hp with hp | hp
    · exact h.ok p hp
    · obtain rfl : p = (id, f) := by simpa using hp
      exact ⟨hf, hr, hid⟩
/-- A round. -/
def RunRel (w0 wb : World) (b mb : Nat) (l : List Cl) (i : Value) (wr : World) : Prop :=
  ∃ (j T : Nat) (own C : Nat → Prop) (M : List (Int × Fr)), i = .int .i64 j ∧ j ≤ l.length ∧ M.length ≤ j ∧ T ≤ 20 * j ∧ Runs w0 wb wr b mb own C M T ∧ Mod (fun _ => False) wb wr
theorem Idx.nodup {w : World} {b : Nat} {own C : Nat → Prop} {I : List (Int × Fil)} {T : Nat} (h : Idx w b own C I T) : (I.map Prod.fst).Nodup := by
  obtain ⟨m1, m2, h⟩ := h
  exact h.nd
theorem runI_len (M : List (Int × Fr)) : (runI M).length = M.length := by unfold runI; rw [List.length_map]
theorem Runs.none {w0 wb w : World} {b mb : Nat} {own C : Nat → Prop} {M : List (Int × Fr)} {T : Nat} (_ : Runs w0 wb w b mb own C M T) {id : Int} : idxF (runI M) id = none ↔ asF M id = none := by
  rw [runI_F]
  cases asF M id <;> simp

/-- A round of the loop that counts. -/
def RunCnt (w : World) (r mb : Nat) (fm : Lit → Option Value) (M : List (Int × Fr)) (S : ByteArray) (E : List Att) (nv : Value) (wr : World) : Prop :=
  ∃ (n : Nat) (left : Lit → Bool) (cnt : Nat), nv = .int .i64 n ∧ RngR wr 3 mb r fm left cnt ∧ n = (M.filter fun p => frM S E p && !left (.int .i64 p.1)).length ∧ Mod (fun _ => False) w wr
theorem rm_at (w : World) (f : Fr) (hf : f.ok w) (hr : filRight f.sc f.cs = true) (S : ByteArray) (hS : S.size ≤ 52) (av : Value) (E : List Att) (hv : RdSl w 6 av E.length (atts E)) (hE : E.length ≤ 8) (hEs : ∀ a ∈ E, a.name.size ≤ 12 ∧ a.v.text.size ≤ 40) :
    Calls Tryz.prog 19 #[.agg #[.string f.sc, .slice f.a f.cs.length f.c], .agg #[.string S, av]] w fun e w' => e = .returned (.bool (rMatF f.fil S E)) ∧ Mod (fun _ => False) w w' :=
  rmatch_at w f.sc _ f.cs hf.cs hf.sc.2 hf.sc.1 (fun c hc => by have := ((fil_bounds hr).2.2 c hc).2.2.2; omega) S av E hv (by omega) (by omega) (fun a ha => by have := (hEs a ha).2; omega)

set_option maxHeartbeats 8000000 in
theorem iruns_walk (w : World) (hl : LaidAt w) (hn : 16 ≤ w.heap.size) (v : Value) (l : List Cl) (hv : ClsAt w v l) :
    Calls Tryz.prog 3 #[v] w fun e w' => e = .returned (.bool true) ∧ Mod (fun _ => False) w w' := by
  obtain ⟨va, vc, rfl, hvc⟩ : ∃ a c, v = .slice a l.length c ∧ l.length ≤ c := by obtain ⟨-, a, c, h, h2, -⟩ := hv.rd; exact ⟨a, c, h, h2⟩
  have hl0 : Laid w w := ⟨hl, hn, ⟨rfl, rfl, rfl, Nat.le_refl _, fun _ _ => rfl⟩⟩
  have hfit := fit13_at w w hl0
  have Hl := Lib.hid hl
  have Hv := Lib.hid hv
  have Hl0 := Lib.hid hl0
  have Hfit := Lib.hid hfit
  clear hl hv hl0 hfit
  go_enter Tryz.func3, Tryz.ntmps3
  go_wp2_with fail
  refine Hfit.out.mono ?_
  rintro e w1 ⟨rfl, hm1⟩
  by_cases z1 : 150 < l.length
  · have z1' : (150 : Int) < ((l.length : Nat) : Int) := by omega
    have Hm1 := Lib.hid hm1
    clear hm1
    go_wp2_with fail
    go_ret
    exact ⟨rfl, Hm1.out⟩
  have z1' : ((l.length : Nat) : Int) ≤ 150 := by omega
  have hnew := inew_at w1
  have Hm1 := Lib.hid hm1
  have Hnew := Lib.hid hnew
  clear hm1 hnew
  go_wp2_with fail
  refine Hnew.out.mono ?_
  rintro e w2 ⟨b, own0, rfl, hix, hown0, hm2⟩
  obtain ⟨w3, hw3⟩ : ∃ w3 : World, w2.alloc (.map #[] 0) = w3 := ⟨_, rfl⟩
  have hmw3 : Mod (fun _ => False) w2 w3 := hw3 ▸ (Mod.refl (fun _ => False) w2).alloc _
  have hgw3 := heap_alloc_new w2 (.map #[] 0)
  rw [hw3] at hgw3
  have hzw3 : w3.heap.size = w2.heap.size + 1 := by rw [← hw3]; simp
  have hmb : MapR w3 3 w2.heap.size 0 (fun _ => none) := hw3 ▸ MapR.made w2 3
  have hm13 : Mod (fun _ => False) w1 w3 := hm2.trans hmw3 (fun _ _ h => h)
  have hrel0 : RunRel w w1 b w2.heap.size l (.int .i64 ((0 : Nat) : Int)) w3 := ⟨0, 0, own0, _, [], rfl, Nat.zero_le _, Nat.le_refl _, Nat.le_refl _, Runs.new (hix.mod hmw3 (fun _ _ h => h)) hmb (fun k hk => ⟨(hown0 k hk).1, by have := (hown0 k hk).2; omega⟩) hm2.size, hm13⟩
  obtain ⟨mb, hmbz⟩ : ∃ mb, w2.heap.size = mb := ⟨_, rfl⟩
  rw [hmbz] at hrel0
  have Hix := Lib.hid hix
  have Hown0 := Lib.hid hown0
  have Hm2 := Lib.hid hm2
  have Hw3 := Lib.hid hw3
  have Hmw3 := Lib.hid hmw3
  have Hgw3 := Lib.hid hgw3
  have Hmb := Lib.hid hmb
  have Hm13 := Lib.hid hm13
  have Hrel0 := Lib.hid hrel0
  clear hix hown0 hm2 hw3 hmw3 hgw3 hmb hm13 hrel0 hzw3
  go_wp2_with (first | ((rw [show w2.alloc _ = w3 from Hw3.out])) | fail)
  try rw [hmbz]
  clear hmbz
  go_loopw [27] (fun i wr => RunRel w w1 b mb l i wr) (fun i _ => l.length - (intOf i).toNat)
  case atStart => exact Hrel0.out
  case round =>
    revert wr
    intro wq hrel
    obtain ⟨j, T, own, C, M, rfl, hj, hMj, hTj, hr, hmr⟩ := hrel
    have hm0 := Hm1.out.trans hmr (fun _ _ h => h)
    by_cases hlt : j < l.length
    · have hlt' : (j : Int) < l.length := by omega
      obtain ⟨x, hxj⟩ : ∃ x, l[j]? = some x := ⟨_, List.getElem?_eq_getElem hlt⟩
      have hxm := List.mem_of_getElem? hxj
      obtain ⟨g, off, rfl, hf0⟩ : ∃ g off, va = some ⟨g, off, none⟩ ∧ CellsAt w g (off + j * 6) x.cells := rd_el (f := Cl.cells) (fun _ => rfl) Hv.out.rd hxj
      have hf := hf0.mod hm0 (fun h => h)
      obtain ⟨wz, hwz⟩ : ∃ wz : World, wq.alloc (.cells x.cells.toArray 34) = wz := ⟨_, rfl⟩
      have hmwz : Mod (fun _ => False) wq wz := hwz ▸ (Mod.refl (fun _ => False) wq).alloc _
      have hgwz := heap_alloc_new wq (.cells x.cells.toArray 34)
      rw [hwz] at hgwz
      have hzwz : wz.heap.size = wq.heap.size + 1 := by rw [← hwz]; simp
      have hmz := hm0.trans hmwz (fun _ _ h => h)
      have hok := (Hv.out.ok x hxm).mod hmz
      have hlt7 := light07_at wz x.f.sc (.slice x.f.a x.f.cs.length x.f.c) x.f.cs hok.f.cs hok.f.sc.2
      have k0 : wz.cell? ⟨wq.heap.size, 0, none⟩ = some (.int .i64 x.kind) := cell_of hgwz rfl
      have k1 : wz.cell? ⟨wq.heap.size, 1, none⟩ = some (.int .i64 x.id) := cell_of hgwz rfl
      have k2 : wz.cell? ⟨wq.heap.size, 2, none⟩ = some (.string x.f.sc) := cell_of hgwz rfl
      have k3 : wz.cell? ⟨wq.heap.size, 3, none⟩ = some (.slice x.f.a x.f.cs.length x.f.c) := cell_of hgwz rfl
      have Hxj := Lib.hid hxj
      have Hxm := Lib.hid hxm
      have Hf0 := Lib.hid hf0
      have Hf := Lib.hid hf
      have Hwz := Lib.hid hwz
      have Hmwz := Lib.hid hmwz
      have Hgwz := Lib.hid hgwz
      have Hmz := Lib.hid hmz
      have Hok := Lib.hid hok
      have Hlt7 := Lib.hid hlt7
      have Hr := Lib.hid hr
      have Hmr := Lib.hid hmr
      have Hm0 := Lib.hid hm0
      clear hxj hxm hf0 hf hwz hmwz hgwz hmz hok hlt7 hr hmr hm0 hzwz
      go_wp2_with (first | ((with_reducible refine wpList_load_lit 34 (.tmp 29) ?_); refine ⟨g, off + j * 6, rfl, x.cells, Hf.out, by kernel_rfl, by kernel_rfl, ?_⟩) | ((with_reducible refine wpList_store_lit 34 (.tmp 6) (.tmp 30) ?_); refine ⟨rfl, x.cells, rfl, rfl, by kernel_rfl, rfl, ?_⟩; rw [Hwz.out]) | fail)
      refine Hlt7.out.mono ?_
      rintro e wA ⟨t, rfl, hmA⟩
      have hm0A := Hmz.out.trans hmA (fun _ _ h => h)
      cases t with
      | false =>
        have HmA := Lib.hid hmA
        have Hm0A := Lib.hid hm0A
        clear hmA hm0A
        go_wp2_with fail
        go_ret
        exact ⟨rfl, Hm0A.out⟩
      | true =>
        have hgA := hmA.heap Hgwz.out (fun h => h)
        have e0 : wA.cell? ⟨wq.heap.size, 0, none⟩ = some (.int .i64 x.kind) := cell_of hgA rfl
        have e1 : wA.cell? ⟨wq.heap.size, 1, none⟩ = some (.int .i64 x.id) := cell_of hgA rfl
        have e4 : wA.cell? ⟨wq.heap.size, 4, none⟩ = some (.string x.es) := cell_of hgA rfl
        have e5 : wA.cell? ⟨wq.heap.size, 5, none⟩ = some (.slice x.ea x.L.length x.ec) := cell_of hgA rfl
        by_cases z3 : 60 < x.es.size
        · have z3' : (60 : Int) < ((x.es.size : Nat) : Int) := by omega
          have HmA := Lib.hid hmA
          have Hm0A := Lib.hid hm0A
          have HgA := Lib.hid hgA
          clear hmA hm0A hgA k0 k1 k2 k3
          go_wp2_with fail
          go_ret
          exact ⟨rfl, Hm0A.out⟩
        have z3' : ((x.es.size : Nat) : Int) ≤ 60 := by omega
        by_cases z4 : 20 < x.L.length
        · have z4' : (20 : Int) < ((x.L.length : Nat) : Int) := by omega
          have HmA := Lib.hid hmA
          have Hm0A := Lib.hid hm0A
          have HgA := Lib.hid hgA
          clear hmA hm0A hgA k0 k1 k2 k3
          go_wp2_with fail
          go_ret
          exact ⟨rfl, Hm0A.out⟩
        have z4' : ((x.L.length : Nat) : Int) ≤ 20 := by omega
        have hrA := Hr.out.mod (Hmwz.out.trans hmA (fun _ _ h => h))
        obtain ⟨s, fa, fn, fc, hlk, -⟩ := hrA.look Hok.out.id
        obtain ⟨th, hth⟩ : ∃ th, (asF M x.id).isSome = th := ⟨_, rfl⟩
        rw [hth] at hlk
        obtain ⟨wB, hwB⟩ : ∃ wB : World, wA.alloc (.cells #[.string s, .slice fa fn fc] 29) = wB := ⟨_, rfl⟩
        have hmwB : Mod (fun _ => False) wA wB := hwB ▸ (Mod.refl (fun _ => False) wA).alloc _
        have hgwB := heap_alloc_new wA (.cells #[.string s, .slice fa fn fc] 29)
        rw [hwB] at hgwB
        have hzwB : wB.heap.size = wA.heap.size + 1 := by rw [← hwB]; simp
        have hrB := hrA.mod hmwB
        have hmAB := hmA.trans hmwB (fun _ _ h => h)
        have hm0B := Hmz.out.trans hmAB (fun _ _ h => h)
        have hgB := hmAB.heap Hgwz.out (fun h => h)
        have b0 : wB.cell? ⟨wq.heap.size, 0, none⟩ = some (.int .i64 x.kind) := cell_of hgB rfl
        have b1 : wB.cell? ⟨wq.heap.size, 1, none⟩ = some (.int .i64 x.id) := cell_of hgB rfl
        have b2 : wB.cell? ⟨wq.heap.size, 2, none⟩ = some (.string x.f.sc) := cell_of hgB rfl
        have b3 : wB.cell? ⟨wq.heap.size, 3, none⟩ = some (.slice x.f.a x.f.cs.length x.f.c) := cell_of hgB rfl
        have b4 : wB.cell? ⟨wq.heap.size, 4, none⟩ = some (.string x.es) := cell_of hgB rfl
        have b5 : wB.cell? ⟨wq.heap.size, 5, none⟩ = some (.slice x.ea x.L.length x.ec) := cell_of hgB rfl
        obtain ⟨r, hr4⟩ : ∃ r, x.kind.tmod 4 = r := ⟨_, rfl⟩
        have hr5 : -3 ≤ r ∧ r ≤ 3 := by
          have h1 := Int.tmod_lt_of_pos x.kind (b := 4) (by decide)
          have h2 := Int.lt_tmod_of_pos x.kind (b := 4) (by decide)
          omega
        obtain ⟨K, hK, hK4⟩ : ∃ K : Nat, (r + 4).tmod 4 = (K : Int) ∧ K < 4 := by
          refine ⟨((r + 4).tmod 4).toNat, ?_, ?_⟩
          · rw [Int.tmod_eq_emod_of_nonneg (by omega)]
            omega
          · rw [Int.tmod_eq_emod_of_nonneg (by omega)]
            omega
        obtain ⟨hr6, hr7⟩ := hr5
        have zd3 : decide ((60 : Int) < ((x.es.size : Nat) : Int)) = false := decide_eq_false (by omega)
        have zd4 : decide ((20 : Int) < ((x.L.length : Nat) : Int)) = false := decide_eq_false (by omega)
        have HmA := Lib.hid hmA
        have Hm0A := Lib.hid hm0A
        have HgA := Lib.hid hgA
        have HrA := Lib.hid hrA
        have HrB := Lib.hid hrB
        have Hth := Lib.hid hth
        have HwB := Lib.hid hwB
        have HmwB := Lib.hid hmwB
        have HgwB := Lib.hid hgwB
        have HmAB := Lib.hid hmAB
        have Hm0B := Lib.hid hm0B
        have HgB := Lib.hid hgB
        clear hmA hm0A hgA hrA hrB hth hwB hmwB hgwB hmAB hm0B hgB k0 k1 k2 k3 hzwB
        by_cases hk2 : (K : Int) = 2
        · have hrem := irem_at wB b own C _ T HrB.out.ix (by omega) x.id (id_wf Hok.out.id)
          have Hrem := Lib.hid hrem
          clear hrem
          go_wp2_with (first | ((with_reducible refine wpList_store_lit 29 (.tmp 7) (.tmp 54) ?_); refine ⟨rfl, [.string s, .slice fa fn fc], rfl, rfl, by kernel_rfl, rfl, ?_⟩; rw [HwB.out]) | fail)
          refine Hrem.out.mono ?_
          rintro e wC hpost
          obtain ⟨hee, hixC, hmC, hmC0⟩ : e = .returned (.bool th) ∧ Idx wC b own C (runI (asD M x.id)) T ∧ Mod own wB wC ∧ Mod (fun _ => False) w1 wC := by
            rcases hpost with ⟨h, rfl, hm⟩ | ⟨h, rfl, hix, hm⟩
            · have h1 := HrB.out.none.1 h
              have h2 : th = false := by rw [← Hth.out, h1]; rfl
              refine ⟨by rw [h2], ?_, hm.mono (fun _ _ h => h.elim), (Hmr.out.trans (Hmwz.out.trans HmAB.out (fun _ _ h => h)) (fun _ _ h => h)).trans hm (fun _ _ h => h)⟩
              rw [asD_none h1]
              exact HrB.out.ix.mod hm (fun _ _ h => h)
            · have h2 : th = true := by
                rw [← Hth.out]
                cases hf : asF M x.id with
                | none => exact absurd (HrB.out.none.2 hf) h
                | some f => rfl
              refine ⟨by rw [h2], ?_, hm, (Hmr.out.trans (Hmwz.out.trans HmAB.out (fun _ _ h => h)) (fun _ _ h => h)).upon hm (fun k hk => .inr (HrB.out.o k hk).1)⟩
              rw [← runI_del]
              exact hix
          subst hee
          obtain ⟨fm, hm1, hm2⟩ := HrB.out.mp
          have hmC1 := hm1.mod hmC (fun h => (HrB.out.o _ h).2 rfl)
          obtain ⟨wD, hd1, hd2, hd3⟩ := hmC1.del keyed_i Tryz.underlying26 (Maps.keyOf_int_mk Tryz.underlying3 (id_wf Hok.out.id)) 0
          have hrD : Runs w w1 wD b mb own C (asD M x.id) T := Runs.del HrB.out hm2 hixC hd2 (by rw [hm2]; cases asF M x.id <;> rfl) hd3
          have hmD : Mod (fun _ => False) w1 wD := hmC0.upon hd3 (fun k hk => .inr (by have h1 : k = mb := hk; rw [h1]; exact HrB.out.m))
          have hwq : wq.heap.size < wB.heap.size := (Array.getElem?_eq_some_iff.1 HgB.out).1
          have hnq : ¬ own wq.heap.size := fun h => by have := Hr.out.ix.low.1 _ h; omega
          have d1 : wC.cell? ⟨wq.heap.size, 1, none⟩ = some (.int .i64 x.id) := hmC.cell b1 hnq
          have hAl : (asD M x.id).length ≤ j + 1 := Nat.le_trans (List.length_filter_le _ _) (by omega)
          have HrD := Lib.hid hrD
          have HmD := Lib.hid hmD
          have HmC := Lib.hid hmC
          have Hm1 := Lib.hid hm1
          have Hm2 := Lib.hid hm2
          have Hd2 := Lib.hid hd2
          have Hd3 := Lib.hid hd3
          have HixC := Lib.hid hixC
          have HmC0 := Lib.hid hmC0
          have HmC1 := Lib.hid hmC1
          have Hnq := Lib.hid hnq
          have HAl := Lib.hid hAl
          clear hrD hmD hmC hm1 hm2 hd2 hd3 hixC hmC0 hmC1 hnq hAl
          go_wp2_with fail
          have hl1 := ilen_at wD b _ _ _ _ HrD.out.ix
          obtain ⟨fm2, hq1, hq2⟩ := HrD.out.mp
          have hl2 := fun ty => hq1.len Tryz.underlying26 ty
          rw [runI_len] at hl1
          have Hl1 := Lib.hid hl1
          have Hq1 := Lib.hid hq1
          have Hq2 := Lib.hid hq2
          clear hl1 hq1 hq2
          go_wp2_with fail
          refine Hl1.out.mono ?_
          rintro e wx ⟨rfl, hwx⟩
          obtain rfl := hwx.symm
          go_wp2_with fail
          go_roundw
          case rel => exact ⟨j + 1, T, own, C, _, by go_num, hlt, HAl.out, by omega, HrD.out, HmD.out⟩
          case measure => simp [intOf]; omega
        by_cases hk3 : (K : Int) = 3
        · have hxo := Hok.out.mod HmAB.out
          have hevt := ev7_at wB x.es (.slice x.ea x.L.length x.ec) x.L hxo.rd (by omega) hxo.es.1 (fun y hy => newL_bound hy hxo.nm)
          have Hevt := Lib.hid hevt
          have Hxo := Lib.hid hxo
          clear hevt hxo
          go_wp2_with (first | ((with_reducible refine wpList_store_lit 29 (.tmp 7) (.tmp 54) ?_); refine ⟨rfl, [.string s, .slice fa fn fc], rfl, rfl, by kernel_rfl, rfl, ?_⟩; rw [HwB.out]) | fail)
          refine Hevt.out.mono ?_
          rintro e wC ⟨av, rfl, hoa, hfa, hmC⟩
          obtain ⟨na, nc, rfl, hnc⟩ := hoa.shape
          obtain ⟨E, hE⟩ : ∃ E, ev7L x.L = E := ⟨_, rfl⟩
          rw [hE] at hoa hfa hnc ⊢
          obtain ⟨wD, hwD⟩ : ∃ wD : World, wC.alloc (.cells #[.string (ev7S x.es), .slice na E.length nc] 32) = wD := ⟨_, rfl⟩
          have hmwD : Mod (fun _ => False) wC wD := hwD ▸ (Mod.refl (fun _ => False) wC).alloc _
          have hgwD := heap_alloc_new wC (.cells #[.string (ev7S x.es), .slice na E.length nc] 32)
          rw [hwD] at hgwD
          have hzwD : wD.heap.size = wC.heap.size + 1 := by rw [← hwD]; simp
          have hmBD := hmC.trans hmwD (fun _ _ h => h)
          have hm1D : Mod (fun _ => False) w1 wD := (Hmr.out.trans (Hmwz.out.trans HmAB.out (fun _ _ h => h)) (fun _ _ h => h)).trans hmBD (fun _ _ h => h)
          have hrD := HrB.out.mod hmBD
          have hEl : E.length ≤ 8 := by rw [← hE]; exact ev7_len x.L
          have hEs : ∀ a ∈ E, a.name.size ≤ 12 ∧ a.v.text.size ≤ 40 := fun a ha => by rw [← hE] at ha; exact ev7_small ha
          have hEn : (E.map fun a => a.name.data.toList).Nodup := by rw [← hE]; exact ev7_unlike x.L
          have hrd := (hoa.mod hmwD (fun _ _ h => h)).rd
          have hez := ev7S_size (s := x.es)
          obtain ⟨S, hS⟩ : ∃ S, ev7S x.es = S := ⟨_, rfl⟩
          rw [hS] at hwD hgwD hez ⊢
          have q0 : wD.cell? ⟨wC.heap.size, 0, none⟩ = some (.string S) := cell_of hgwD rfl
          have q1 : wD.cell? ⟨wC.heap.size, 1, none⟩ = some (.slice na E.length nc) := cell_of hgwD rfl
          have hwh : ∀ p ∈ M, ∀ c ∈ p.2.cs, c.whole := fun p hp c hc => by
            have h1 := hrD.ok p hp
            have h2 := (fil_bounds h1.2.1).2.2 c hc
            exact ⟨h2.2.1, h2.2.2.1, (h1.1.nm c hc).2.2⟩
          have hcnt := run_count hrD.nd hwh hEn S
          have hmem := fun id h => run_mem hrD.nd hwh hEn (es := S) (id := id) h
          have hlts := run_lt hrD.ix.nodup S E
          have hmat := imatch_at wD b own C _ T hrD.ix (by omega) S (by omega) (.slice na E.length nc) E hrd (by omega) (fun a ha => by have := hEs a ha; omega)
          obtain ⟨G, hG⟩ : ∃ G, matL (runI M) S E = G := ⟨_, rfl⟩
          rw [hG] at hcnt hmem hlts
          have hGl : G.length ≤ 150 := by rw [hcnt]; exact Nat.le_trans (List.length_filter_le _ _) (by omega)
          have HmC := Lib.hid hmC
          have HmwD := Lib.hid hmwD
          have HmBD := Lib.hid hmBD
          have Hm1D := Lib.hid hm1D
          have HrD := Lib.hid hrD
          have HEs := Lib.hid hEs
          have HEn := Lib.hid hEn
          have Hrd := Lib.hid hrd
          have HwD := Lib.hid hwD
          have HgwD := Lib.hid hgwD
          have HS := Lib.hid hS
          have HE := Lib.hid hE
          have Hwh := Lib.hid hwh
          have Hcnt := Lib.hid hcnt
          have Hmem := Lib.hid hmem
          have Hlts := Lib.hid hlts
          have Hmat := Lib.hid hmat
          have HG := Lib.hid hG
          clear hmC hmwD hmBD hm1D hrD hEs hEn hrd hwD hgwD hS hE hwh hcnt hmem hlts hmat hG hoa hfa hnc hzwD
          go_wp2_with (first | ((with_reducible refine wpList_store_lit 32 (.tmp 9) (.tmp 99) ?_); refine ⟨rfl, [.string S, .slice na E.length nc], rfl, rfl, by kernel_rfl, rfl, ?_⟩; rw [HwD.out]) | fail)
          refine Hmat.out.mono ?_
          rintro e wE ⟨gv, rfl, hog, hfg, hmE⟩
          rw [HG.out] at hog
          obtain ⟨ga, gc, rfl, -⟩ := hog.shape
          have hrE := HrD.out.mod hmE
          obtain ⟨fm, hf1, hf2⟩ := hrE.mp
          have hgE := hmE.heap HgwD.out (fun h => h)
          have hrdE := Hrd.out.mod hmE (fun _ _ h => h)
          have hm1E := Hm1D.out.trans hmE (fun _ _ h => h)
          have Hog := Lib.hid hog
          have Hfg := Lib.hid hfg
          have HmE := Lib.hid hmE
          have HrE := Lib.hid hrE
          have Hf1 := Lib.hid hf1
          have Hf2 := Lib.hid hf2
          have HgE := Lib.hid hgE
          have HrdE := Lib.hid hrdE
          have Hm1E := Lib.hid hm1E
          clear hog hfg hmE hrE hf1 hf2 hgE hrdE hm1E
          go_wp2_with (first | ((at_range; refine wpList_range_R rfl _ 26 rfl 3 29 keyed_i Tryz.underlying26 mb M.length fm rfl Hf1.out ?_; intro wF hrg hmF hzF)) | fail)
          have hrel1 : RunCnt wE wE.heap.size mb fm M S E (.int .i64 ((0 : Nat) : Int)) wF := ⟨0, _, _, rfl, hrg, by
            rw [List.filter_eq_nil_iff.2]
            · rfl
            · intro p hp
              rw [Hf2.out, (asF_iff HrE.out.nd).2 hp]
              simp, hmF⟩
          have Hrel1 := Lib.hid hrel1
          have Hrg := Lib.hid hrg
          have HmF := Lib.hid hmF
          clear hrel1 hrg hmF hzF
          go_frame
          go_loopw [11] (fun nv wr => RunCnt wE wE.heap.size mb fm M S E nv wr) (fun _ wr => wr.rangeLeft mb wE.heap.size)
          case atStart => exact Hrel1.out
          case round =>
            revert wr
            intro wl hrel
            obtain ⟨n, left, cnt, rfl, hrg, hnn, hmr2⟩ := hrel
            have hn150 : n ≤ 150 := by rw [hnn]; exact Nat.le_trans (List.length_filter_le _ _) (by omega)
            have Hnn := Lib.hid hnn
            have Hmr2 := Lib.hid hmr2
            clear hnn hmr2
            go_wp2_with (first | ((at_next; refine wpList_next_R rfl _ rfl 3 keyed_i (Value.int .i64) (Lit.int .i64) (inv_i _ Tryz.underlying3) (in_i _ Tryz.underlying3) mb wE.heap.size fm left cnt rfl hrg ?_ ?_)) | fail)
            · intro hl0
              have hnG : n = G.length := by
                rw [Hnn.out, Hcnt.out]
                congr 1
                refine List.filter_congr fun p _ => ?_
                rw [hl0]
                simp
              subst hnG
              have hm1r := Hm1E.out.trans Hmr2.out (fun _ _ h => h)
              have Hrg := Lib.hid hrg
              have Hl0 := Lib.hid hl0
              have Hm1r := Lib.hid hm1r
              clear hrg hl0 hm1r
              go_wp2_with fail
              have hogl := (Hog.out.mod Hmr2.out (fun _ _ h => h)).rd
              have hrl := HrE.out.mod Hmr2.out
              have Hogl := Lib.hid hogl
              have Hrl := Lib.hid hrl
              clear hogl hrl
              go_loopw [116] (fun i wr => ∃ i' : Nat, i = .int .i64 i' ∧ i' ≤ G.length ∧ Mod (fun _ => False) wl wr) (fun i _ => G.length - (intOf i).toNat)
              case atStart => exact ⟨0, rfl, Nat.zero_le _, Mod.refl _ _⟩
              case round =>
                revert wr
                intro wm hrel
                obtain ⟨i, rfl, hi, hmm⟩ := hrel
                have hrm0 := Hrl.out.mod hmm
                have hm1m := Hm1r.out.trans hmm (fun _ _ h => h)
                by_cases hig : i < G.length
                · have hig' : (i : Int) < G.length := by omega
                  obtain ⟨id, hidi⟩ : ∃ id, G[i]? = some id := ⟨_, List.getElem?_eq_getElem hig⟩
                  obtain ⟨f, haf, hrf⟩ := Hmem.out id (List.mem_of_getElem? hidi)
                  have hfo := hrm0.ok _ (asF_some haf)
                  obtain ⟨sg, soff, rfl, cid⟩ := rd_int (Hogl.out.mod hmm (fun _ _ h => h)) hidi
                  obtain ⟨s2, fa2, fn2, fc2, hlk0, hlf2⟩ := hrm0.look hfo.2.2
                  obtain ⟨rfl, rfl, rfl, rfl⟩ := hlf2 f haf
                  have hlk2 : (Instr.lookup 26 (.map (some mb)) (.int .i64 id) true).run Tryz.prog wm = .ok (.tuple #[.agg #[.string f.sc, .slice f.a f.cs.length f.c], .bool true]) wm := by
                    rw [hlk0, haf]
                    rfl
                  obtain ⟨wv, hwv⟩ : ∃ wv : World, wm.alloc (.cells #[.string f.sc, .slice f.a f.cs.length f.c] 29) = wv := ⟨_, rfl⟩
                  have hmwv : Mod (fun _ => False) wm wv := hwv ▸ (Mod.refl (fun _ => False) wm).alloc _
                  have hgwv := heap_alloc_new wm (.cells #[.string f.sc, .slice f.a f.cs.length f.c] 29)
                  rw [hwv] at hgwv
                  have hzwv : wv.heap.size = wm.heap.size + 1 := by rw [← hwv]; simp
                  have hmmv := hmm.trans hmwv (fun _ _ h => h)
                  have hmEv := Hmr2.out.trans hmmv (fun _ _ h => h)
                  have hm0v := (Hm1.out.trans (Hm1E.out.trans hmEv (fun _ _ h => h)) (fun _ _ h => h))
                  have hgv := hmEv.heap HgE.out (fun h => h)
                  have v0 : wv.cell? ⟨wC.heap.size, 0, none⟩ = some (.string S) := cell_of hgv rfl
                  have v1 : wv.cell? ⟨wC.heap.size, 1, none⟩ = some (.slice na E.length nc) := cell_of hgv rfl
                  have v2 : wv.cell? ⟨wm.heap.size, 0, none⟩ = some (.string f.sc) := cell_of hgwv rfl
                  have v3 : wv.cell? ⟨wm.heap.size, 1, none⟩ = some (.slice f.a f.cs.length f.c) := cell_of hgwv rfl
                  have hrm := rm_at wv f (hfo.1.mod hm0v) hfo.2.1 S hez (.slice na E.length nc) E (HrdE.out.mod hmEv (fun _ _ h => h)) hEl HEs.out
                  rw [hrf] at hrm
                  have Haf := Lib.hid haf
                  have Hrf := Lib.hid hrf
                  have Hfo := Lib.hid hfo
                  have Hlf2 := Lib.hid hlf2
                  have Hlk0 := Lib.hid hlk0
                  have HmEv := Lib.hid hmEv
                  have Hm0v := Lib.hid hm0v
                  have Hgv := Lib.hid hgv
                  have Hrm := Lib.hid hrm
                  have Hwv := Lib.hid hwv
                  have Hmwv := Lib.hid hmwv
                  have Hgwv := Lib.hid hgwv
                  have Hmmv := Lib.hid hmmv
                  have Hmm := Lib.hid hmm
                  have Hrm0 := Lib.hid hrm0
                  have Hm1m := Lib.hid hm1m
                  clear haf hrf hfo hlf2 hlk0 hmEv hm0v hgv hrm hwv hmwv hgwv hmmv hmm hrm0 hm1m hzwv
                  by_cases hi0 : i = 0
                  · subst hi0
                    have cid' : wm.cell? ⟨sg, soff, none⟩ = some (.int .i64 id) := by simpa using cid
                    have Hidi := Lib.hid hidi
                    clear hidi
                    go_wp2_with (first | ((with_reducible refine wpList_store_lit 29 (.tmp 16) (.tmp 125) ?_); refine ⟨rfl, [.string f.sc, .slice f.a f.cs.length f.c], rfl, rfl, by kernel_rfl, rfl, ?_⟩; rw [Hwv.out]) | fail)
                    refine Hrm.out.mono ?_
                    rintro e wy ⟨rfl, hmy⟩
                    have hmmy := Hmmv.out.trans hmy (fun _ _ h => h)
                    have Hmy := Lib.hid hmy
                    have Hmmy := Lib.hid hmmy
                    clear hmy hmmy
                    go_wp2_with fail
                    go_roundw
                    case rel => exact ⟨1, by go_num, by omega, Hmmy.out⟩
                    case measure => simp [intOf]; omega
                  · obtain ⟨k, rfl⟩ : ∃ k, i = k + 1 := ⟨i - 1, by omega⟩
                    obtain ⟨id0, hid0⟩ : ∃ id0, G[k]? = some id0 := ⟨_, List.getElem?_eq_getElem (by omega)⟩
                    have hlt3 : id0 < id := by
                      obtain ⟨h1, rfl⟩ := List.getElem?_eq_some_iff.1 hid0
                      obtain ⟨h2, rfl⟩ := List.getElem?_eq_some_iff.1 hidi
                      exact List.pairwise_iff_getElem.1 Hlts.out k (k + 1) h1 h2 (by omega)
                    have hk1 : ((k + 1 : Nat) : Int) - 1 = k := by omega
                    obtain ⟨sg', soff', e', cid0⟩ := rd_int Hogl.out hid0
                    cases e'
                    have cid1 := Hmmv.out.cell cid0 (fun h => h)
                    have Hidi := Lib.hid hidi
                    have Hid0 := Lib.hid hid0
                    clear hidi hid0 cid0
                    go_wp2_with (first | ((with_reducible refine wpList_store_lit 29 (.tmp 16) (.tmp 125) ?_); refine ⟨rfl, [.string f.sc, .slice f.a f.cs.length f.c], rfl, rfl, by kernel_rfl, rfl, ?_⟩; rw [Hwv.out]) | fail)
                    refine Hrm.out.mono ?_
                    rintro e wy ⟨rfl, hmy⟩
                    have hmmy := Hmmv.out.trans hmy (fun _ _ h => h)
                    have cid2 := hmy.cell cid1 (fun h => h)
                    have Hmy := Lib.hid hmy
                    have Hmmy := Lib.hid hmmy
                    clear hmy hmmy
                    go_wp2_with fail
                    go_roundw
                    case rel => exact ⟨k + 1 + 1, by go_num, by omega, Hmmy.out⟩
                    case measure => simp [intOf]; omega
                · obtain rfl : i = G.length := by omega
                  have Hmm := Lib.hid hmm
                  have Hrm0 := Lib.hid hrm0
                  have Hm1m := Lib.hid hm1m
                  clear hmm hrm0 hm1m
                  go_wp2_with fail
                  have hl1 := ilen_at wm b _ _ _ _ Hrm0.out.ix
                  obtain ⟨fm2, hq1, hq2⟩ := Hrm0.out.mp
                  have hl2 := fun ty => hq1.len Tryz.underlying26 ty
                  rw [runI_len] at hl1
                  have Hl1 := Lib.hid hl1
                  have Hq1 := Lib.hid hq1
                  have Hq2 := Lib.hid hq2
                  clear hl1 hq1 hq2
                  go_wp2_with fail
                  refine Hl1.out.mono ?_
                  rintro e wx ⟨rfl, hwx⟩
                  obtain rfl := hwx.symm
                  go_wp2_with fail
                  go_roundw
                  case rel => exact ⟨j + 1, T, own, C, M, by go_num, hlt, by omega, by omega, Hrm0.out, Hm1m.out⟩
                  case measure => simp [intOf]; omega
            · intro id c wu cnt' hkey hlk hfc hrg' hlt2 hmu hzu hen
              obtain ⟨f, haf, rfl⟩ : ∃ f, asF M id = some f ∧ c = .agg #[.string f.sc, .slice f.a f.cs.length f.c] := by
                rw [Hf2.out] at hfc
                cases hf : asF M id with
                | none => rw [hf] at hfc; cases hfc
                | some f => rw [hf] at hfc; exact ⟨f, rfl, (Option.some.inj hfc).symm⟩
              obtain ⟨wv, hwv⟩ : ∃ wv : World, wu.alloc (.cells #[.string f.sc, .slice f.a f.cs.length f.c] 29) = wv := ⟨_, rfl⟩
              have hmwv : Mod (fun _ => False) wu wv := hwv ▸ (Mod.refl (fun _ => False) wu).alloc _
              have hgwv := heap_alloc_new wu (.cells #[.string f.sc, .slice f.a f.cs.length f.c] 29)
              rw [hwv] at hgwv
              have hzwv : wv.heap.size = wu.heap.size + 1 := by rw [← hwv]; simp
              have hmEu : Mod (fun _ => False) wE wu := Hmr2.out.upon hmu (fun k hk => .inr (Nat.le_of_eq (Eq.symm hk)))
              have hmEv := hmEu.trans hmwv (fun _ _ h => h)
              have hfo := HrE.out.ok _ (asF_some haf)
              have hm0v := (Hm1.out.trans (Hm1E.out.trans hmEv (fun _ _ h => h)) (fun _ _ h => h))
              have hgv := hmEv.heap HgE.out (fun h => h)
              have v0 : wv.cell? ⟨wC.heap.size, 0, none⟩ = some (.string S) := cell_of hgv rfl
              have v1 : wv.cell? ⟨wC.heap.size, 1, none⟩ = some (.slice na E.length nc) := cell_of hgv rfl
              have v2 : wv.cell? ⟨wu.heap.size, 0, none⟩ = some (.string f.sc) := cell_of hgwv rfl
              have v3 : wv.cell? ⟨wu.heap.size, 1, none⟩ = some (.slice f.a f.cs.length f.c) := cell_of hgwv rfl
              have hrm := rm_at wv f (hfo.1.mod hm0v) hfo.2.1 S hez (.slice na E.length nc) E (HrdE.out.mod hmEv (fun _ _ h => h)) hEl HEs.out
              obtain ⟨t, ht⟩ : ∃ t, rMatF f.fil S E = t := ⟨_, rfl⟩
              rw [ht] at hrm
              have hst := cnt_step HrE.out.nd (asF_some haf) (frM S E) (left := fun y => left (.int .i64 y)) (left' := fun y => left (.int .i64 y) && !(Lit.int .i64 y).sameKey (.int .i64 id)) hlk (fun y => by rw [same_i])
              have hrgv := (hrg'.mod hmwv (fun h => h) (fun h => h))
              have Hrg := Lib.hid hrg
              have Hkey := Lib.hid hkey
              have Hlk := Lib.hid hlk
              have Hfc := Lib.hid hfc
              have Hrg' := Lib.hid hrg'
              have Hmu := Lib.hid hmu
              have Hzu := Lib.hid hzu
              have Haf := Lib.hid haf
              have HmEu := Lib.hid hmEu
              have HmEv := Lib.hid hmEv
              have Hm0v := Lib.hid hm0v
              have Hgv := Lib.hid hgv
              have Hrm := Lib.hid hrm
              have Ht := Lib.hid ht
              have Hst := Lib.hid hst
              have Hwv := Lib.hid hwv
              have Hmwv := Lib.hid hmwv
              have Hgwv := Lib.hid hgwv
              have Hfo := Lib.hid hfo
              have Hrgv := Lib.hid hrgv
              clear hrg hkey hlk hfc hrg' hmu hzu haf hmEu hmEv hm0v hgv hrm ht hst hwv hmwv hgwv hfo hrgv
              go_wp2_with (first | ((with_reducible refine wpList_store_lit 29 (.tmp 13) (.tmp 108) ?_); refine ⟨rfl, [.string f.sc, .slice f.a f.cs.length f.c], rfl, rfl, by kernel_rfl, rfl, ?_⟩; rw [Hwv.out]) | fail)
              refine Hrm.out.mono ?_
              rintro e wy ⟨rfl, hmy⟩
              have hmEy := HmEv.out.trans hmy (fun _ _ h => h)
              have hrgy := Hrgv.out.mod hmy (fun h => h) (fun h => h)
              cases t with
              | false =>
                have HmEy := Lib.hid hmEy
                have Hrgy := Lib.hid hrgy
                have Hmy := Lib.hid hmy
                clear hmEy hrgy hmy
                go_wp2_with fail
                go_roundw
                case rel =>
                  refine ⟨n, _, cnt', rfl, Hrgy.out, ?_, HmEy.out⟩
                  rw [Hst.out, ← Hnn.out, show frM S E (id, f) = false from Ht.out]
                  rfl
                case measure => rw [Hrgy.out.left_eq, Hrg.out.left_eq]; exact hlt2
              | true =>
                have HmEy := Lib.hid hmEy
                have Hrgy := Lib.hid hrgy
                have Hmy := Lib.hid hmy
                clear hmEy hrgy hmy
                go_wp2_with fail
                go_roundw
                case rel =>
                  refine ⟨n + 1, _, cnt', by go_num, Hrgy.out, ?_, HmEy.out⟩
                  rw [Hst.out, ← Hnn.out, show frM S E (id, f) = true from Ht.out]
                  rfl
                case measure => rw [Hrgy.out.left_eq, Hrg.out.left_eq]; exact hlt2
        have hxo := Hok.out.mod HmAB.out
        have hfr := filter_right wB x.f.sc (.slice x.f.a x.f.cs.length x.f.c) x.f.cs hxo.f.cs hxo.f.sc.2 hxo.f.sc.1 (fun c hc => (hxo.f.nm c hc).1)
        obtain ⟨u, hu⟩ : ∃ u, filRight x.f.sc x.f.cs = u := ⟨_, rfl⟩
        rw [hu] at hfr
        have Hfr := Lib.hid hfr
        have Hu := Lib.hid hu
        have Hxo := Lib.hid hxo
        clear hfr hu hxo
        go_wp2_with (first | ((with_reducible refine wpList_store_lit 29 (.tmp 7) (.tmp 54) ?_); refine ⟨rfl, [.string s, .slice fa fn fc], rfl, rfl, by kernel_rfl, rfl, ?_⟩; rw [HwB.out]) | fail)
        refine Hfr.out.mono ?_
        rintro e wC ⟨rfl, hmC⟩
        have hm1C : Mod (fun _ => False) w1 wC := (Hmr.out.trans (Hmwz.out.trans HmAB.out (fun _ _ h => h)) (fun _ _ h => h)).trans hmC (fun _ _ h => h)
        have hrC := HrB.out.mod hmC
        cases u with
        | false =>
          have HmC := Lib.hid hmC
          have Hm1C := Lib.hid hm1C
          have HrC := Lib.hid hrC
          clear hmC hm1C hrC
          go_wp2_with fail
          go_roundw
          case rel => exact ⟨j + 1, T, own, C, M, by go_num, hlt, by omega, by omega, HrC.out, Hm1C.out⟩
          case measure => simp [intOf]; omega
        | true =>
          have c1 : wC.cell? ⟨wq.heap.size, 1, none⟩ = some (.int .i64 x.id) := hmC.cell b1 (fun h => h)
          have c2 : wC.cell? ⟨wq.heap.size, 2, none⟩ = some (.string x.f.sc) := hmC.cell b2 (fun h => h)
          have c3 : wC.cell? ⟨wq.heap.size, 3, none⟩ = some (.slice x.f.a x.f.cs.length x.f.c) := hmC.cell b3 (fun h => h)
          have hb := fil_bounds Hu.out
          have hcx : ∀ c ∈ x.f.cs, c.fits := fun c hc => ⟨⟨(Hxo.out.f.nm c hc).2.1, (Hxo.out.f.nm c hc).2.2, by have := (hb.2.2 c hc).2.2.2; omega⟩, by have := (hb.2.2 c hc).1; omega⟩
          have hadd := iadd_at w wC (Hl0.out.mod0 (Hm1.out.trans hm1C (fun _ _ h => h))) b own C _ T hrC.ix (by omega) (fun k hk => Nat.le_trans Hm1.out.size (hrC.o k hk).1) x.id (id_wf Hok.out.id) x.f.sc (.slice x.f.a x.f.cs.length x.f.c) x.f.cs (Hxo.out.f.cs.mod hmC (fun _ _ h => h)) (by omega) hcx (by omega)
          have hwq : wq.heap.size < wB.heap.size := (Array.getElem?_eq_some_iff.1 HgB.out).1
          have hnq : ¬ own wq.heap.size := fun h => by have := Hr.out.ix.low.1 _ h; omega
          have HmC := Lib.hid hmC
          have Hm1C := Lib.hid hm1C
          have HrC := Lib.hid hrC
          have Hb := Lib.hid hb
          have Hcx := Lib.hid hcx
          have Hadd := Lib.hid hadd
          have Hnq := Lib.hid hnq
          clear hmC hm1C hrC hb hcx hadd hnq
          go_wp2_with fail
          refine Hadd.out.mono ?_
          rintro e wD (⟨h, rfl, hmD⟩ | ⟨h, rfl, own', C', hixD, ho1, ho2, ho3, hmD⟩)
          · have h2 : th = true := by
              rw [← Hth.out]
              cases hf : asF M x.id with
              | none => exact absurd (HrB.out.none.2 hf) h
              | some f => rfl
            subst h2
            have hrD := HrC.out.mod hmD
            have hm1D := Hm1C.out.trans hmD (fun _ _ h => h)
            have HmD := Lib.hid hmD
            have HrD := Lib.hid hrD
            have Hm1D := Lib.hid hm1D
            clear hmD hrD hm1D
            go_wp2_with fail
            have hl1 := ilen_at wD b _ _ _ _ HrD.out.ix
            obtain ⟨fm2, hq1, hq2⟩ := HrD.out.mp
            have hl2 := fun ty => hq1.len Tryz.underlying26 ty
            rw [runI_len] at hl1
            have Hl1 := Lib.hid hl1
            have Hq1 := Lib.hid hq1
            have Hq2 := Lib.hid hq2
            clear hl1 hq1 hq2
            go_wp2_with fail
            refine Hl1.out.mono ?_
            rintro e wx ⟨rfl, hwx⟩
            obtain rfl := hwx.symm
            go_wp2_with fail
            go_roundw
            case rel => exact ⟨j + 1, T, own, C, M, by go_num, hlt, by omega, by omega, HrD.out, Hm1D.out⟩
            case measure => simp [intOf]; omega
          · have h1 := HrB.out.none.1 h
            have h2 : th = false := by rw [← Hth.out, h1]; rfl
            subst h2
            have d1 : wD.cell? ⟨wq.heap.size, 1, none⟩ = some (.int .i64 x.id) := hmD.cell c1 Hnq.out
            have d2 : wD.cell? ⟨wq.heap.size, 2, none⟩ = some (.string x.f.sc) := hmD.cell c2 Hnq.out
            have d3 : wD.cell? ⟨wq.heap.size, 3, none⟩ = some (.slice x.f.a x.f.cs.length x.f.c) := hmD.cell c3 Hnq.out
            obtain ⟨fm, hf1, hf2⟩ := HrC.out.mp
            have hfD := hf1.mod hmD (fun h => (HrC.out.o _ h).2 rfl)
            have hkx := Maps.keyOf_int_mk Tryz.underlying3 (id_wf Hok.out.id)
            have hm1D : Mod (fun _ => False) w1 wD := Hm1C.out.upon hmD (fun k hk => .inr (HrC.out.o k hk).1)
            have HmD := Lib.hid hmD
            have Hf2 := Lib.hid hf2
            have HfD := Lib.hid hfD
            have Hkx := Lib.hid hkx
            have Hm1D := Lib.hid hm1D
            have H1 := Lib.hid h1
            have HixD := Lib.hid hixD
            have Ho1 := Lib.hid ho1
            have Ho2 := Lib.hid ho2
            have Ho3 := Lib.hid ho3
            clear hmD hf2 hfD hkx hm1D h1 hixD ho1 ho2 ho3 hf1
            go_wp2_with (first | ((with_reducible refine wpList_mput_lit 26 (.tmp 75) (.tmp 77) (.tmp 79) ?_); refine ⟨3, 29, mb, M.length, fm, .int .i64 x.id, HfD.out, keyed_i, Tryz.underlying26, by unfold maxLen; omega, rfl, Hkx.out, ?_⟩; intro wE hM' hm'; have HM' := Lib.hid hM'; have Hm' := Lib.hid hm'; clear hM' hm') | fail)
            have hrE : Runs w w1 wE b mb own' C' (M ++ [(x.id, x.f)]) (T + 20) := Runs.put HrC.out H1.out Hf2.out HixD.out Ho2.out Ho3.out (Hv.out.ok x Hxm.out).f Hu.out Hok.out.id HM'.out (by rw [Hf2.out, H1.out]; rfl) Hm'.out Hm1C.out.size
            have hm1E : Mod (fun _ => False) w1 wE := Hm1D.out.upon Hm'.out (fun k hk => .inr (by have h1 : k = mb := hk; rw [h1]; exact HrC.out.m))
            have HrE := Lib.hid hrE
            have Hm1E := Lib.hid hm1E
            clear hrE hm1E
            have hl1 := ilen_at wE b _ _ _ _ HrE.out.ix
            obtain ⟨fm2, hq1, hq2⟩ := HrE.out.mp
            have hl2 := fun ty => hq1.len Tryz.underlying26 ty
            rw [runI_len] at hl1
            have Hl1 := Lib.hid hl1
            have Hq1 := Lib.hid hq1
            have Hq2 := Lib.hid hq2
            clear hl1 hq1 hq2
            go_wp2_with fail
            refine Hl1.out.mono ?_
            rintro e wx ⟨rfl, hwx⟩
            obtain rfl := hwx.symm
            go_wp2_with fail
            go_roundw
            case rel => exact ⟨j + 1, T + 20, own', C', _, by go_num, hlt, by rw [List.length_append, List.length_singleton]; omega, by omega, HrE.out, Hm1E.out⟩
            case measure => simp [intOf]; omega
    · obtain rfl : j = l.length := by omega
      have Hr := Lib.hid hr
      have Hmr := Lib.hid hmr
      have Hm0 := Lib.hid hm0
      clear hr hmr hm0
      go_wp2_with fail
      go_ret
      exact ⟨rfl, Hm0.out⟩
end Go.Proofs.YtloplmaekonenaaGreatDoor
