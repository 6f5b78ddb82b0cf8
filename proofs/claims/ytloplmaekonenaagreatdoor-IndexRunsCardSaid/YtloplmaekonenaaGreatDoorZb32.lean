/-
  Package index: Match.
-/
import Derived.Test.YtloplmaekonenaaGreatDoorZb31
import Derived.Test.YtloplmaekonenaaGreatDoorZb28
import Derived.Test.YtloplmaekonenaaGreatDoorZb22
namespace Go.Proofs.YtloplmaekonenaaGreatDoor
set_option maxRecDepth 20000
open Go.RowKit

/-- How many of a filter's conditions attributes do for. -/
def cntA (I : List (Int × Fil)) (L : List Att) (id : Int) : Nat := (L.map fun a => ((ofName (idxF I id) a.name).filter fun c => c.holds a.v).length).sum
theorem cntA_snoc (I : List (Int × Fil)) (L : List Att) (a : Att) (id : Int) : cntA I (L ++ [a]) id = cntA I L id + ((ofName (idxF I id) a.name).filter fun c => c.holds a.v).length := by
  unfold cntA
  rw [List.map_append, List.sum_append]
  simp
/-- The map of counts. -/
def CntR (w : World) (mc K : Nat) (g : Int → Nat) : Prop := ∃ n f, MapR w 3 mc n f ∧ n ≤ K ∧ (∀ id : Int, (f (.int .i64 id)).getD (.int .i64 0) = .int .i64 (g id)) ∧ ∀ id, g id ≤ K
theorem CntR.mod {w w' : World} {mc K : Nat} {g : Int → Nat} {F : Nat → Prop} (h : CntR w mc K g) (hm : Mod F w w') (hF : ¬ F mc) : CntR w' mc K g := by
  obtain ⟨n, f, h1, h2⟩ := h
  exact ⟨n, f, h1.mod hm hF, h2⟩
theorem CntR.cong {w : World} {mc K K' : Nat} {g g' : Int → Nat} (h : CntR w mc K g) (hK : K ≤ K') (hg : ∀ id, g' id = g id) : CntR w mc K' g' := by
  obtain ⟨n, f, h1, h2, h3, h4⟩ := h
  exact ⟨n, f, h1, Nat.le_trans h2 hK, fun id => by rw [hg]; exact h3 id, fun id => by rw [hg]; exact Nat.le_trans (h4 id) hK⟩
theorem CntR.inc {w' : World} {mc n K : Nat} {g g' : Int → Nat} {f : Lit → Option Value} {id : Int} {c : Nat} (h2 : n ≤ K) (h3 : ∀ id : Int, (f (.int .i64 id)).getD (.int .i64 0) = .int .i64 (g id)) (h4 : ∀ id, g id ≤ K) (hc : g id = c)
    (h : MapR w' 3 mc (if (f (.int .i64 id)).isSome then n else n + 1) (putF f (.int .i64 id) (.int .i64 (c + 1)))) (hg : ∀ x, g' x = g x + if id = x then 1 else 0) : CntR w' mc (K + 1) g' := by
  refine ⟨_, _, h, by split <;> omega, fun x => ?_, fun x => by rw [hg]; have := h4 x; split <;> omega⟩
  rw [hg]
  unfold putF
  by_cases e : x = id
  · rw [if_pos (by rw [e]), if_pos e.symm, e, hc]
    simp
  · rw [if_neg (fun h => e (Lit.int.inj h).2), if_neg (fun h => e h.symm)]
    exact h3 x
theorem zero_int (w : World) : (zeroValue 3).run Tryz.prog w = .ok (.int .i64 0) w := by kernel_rfl

/-- A round of the loop over the attributes. -/
def MRelA (wb : World) (mc T : Nat) (I : List (Int × Fil)) (L : List Att) (i : Value) (wr : World) : Prop :=
  ∃ j : Nat, i = .int .i64 j ∧ j ≤ L.length ∧ CntR wr mc (j * T) (cntA I (L.take j)) ∧ Mod (fun k => k = mc) wb wr
/-- A round of the loop over the places. -/
def MRelB (wb : World) (mc K : Nat) (g : Int → Nat) (x : Att) (ps : List (Int × Cnd)) (i : Value) (wr : World) : Prop :=
  ∃ j : Nat, i = .int .i64 j ∧ j ≤ ps.length ∧ CntR wr mc (K + j) (fun id => g id + ((ps.take j).filter fun p => p.1 == id && p.2.holds x.v).length) ∧ Mod (fun k => k = mc) wb wr

/-- Does a number's filter do for an event? -/
def matB (I : List (Int × Fil)) (es : ByteArray) (L : List Att) (id : Int) : Bool := match idxF I id with
  | some q => cntA I L id == q.2.length && underB es q.1
  | none => false
/-- The numbers whose filters have an event. -/
def matL (I : List (Int × Fil)) (es : ByteArray) (L : List Att) : List Int := (riseI (I.map Prod.fst)).filter (matB I es L)
/-- A round of the loop over the numbers. -/
def MRelC (w4 : World) (I : List (Int × Fil)) (es : ByteArray) (L : List Att) (ov i : Value) (wr : World) : Prop :=
  ∃ (j : Nat) (o : List Int) (oa : Option Addr) (oc : Nat), i = .int .i64 j ∧ j ≤ (riseI (I.map Prod.fst)).length ∧ o = ((riseI (I.map Prod.fst)).take j).filter (matB I es L) ∧ ov = .slice oa o.length oc ∧ OwnSl wr 3 1 ov o.length (o.map (Value.int .i64)) ∧ (∀ k, ov.ownBlock = some k → w4.heap.size ≤ k) ∧ Mod (fun _ => False) w4 wr
/-- What Match leaves. -/
def IMatPost (w : World) (I : List (Int × Fil)) (es : ByteArray) (L : List Att) (e : Ending) (w' : World) : Prop :=
  ∃ v, e = .returned v ∧ OwnSl w' 3 1 v (matL I es L).length ((matL I es L).map (Value.int .i64)) ∧ (∀ k, v.ownBlock = some k → w.heap.size ≤ k) ∧ Mod (fun _ => False) w w'
theorem riseI_mem {L : List Int} {x : Int} : x ∈ riseI L ↔ x ∈ L := (List.mergeSort_perm L leI).mem_iff
theorem idxF_mem {I : List (Int × Fil)} {id : Int} (h : id ∈ I.map Prod.fst) : ∃ q, idxF I id = some q := by
  cases hq : idxF I id with
  | some q => exact ⟨q, rfl⟩
  | none => exact absurd h (idxF_none hq)

theorem rd_int {w : World} {a : Option Addr} {n cap : Nat} {l : List Int} {j : Nat} {x : Int} (h : RdSl w 1 (.slice a n cap) n (l.map (Value.int .i64))) (hx : l[j]? = some x) : ∃ g off, a = some ⟨g, off, none⟩ ∧ w.cell? ⟨g, off + j, none⟩ = some (.int .i64 x) := by
  obtain ⟨h0, a', c', h1, -, h3, h4⟩ := h
  cases h1
  have hj := (List.getElem?_eq_some_iff.1 hx).1
  have hn : n = l.length := by rw [List.length_map] at h0; omega
  cases a with
  | none => exact absurd (h3 rfl) (by omega)
  | some b =>
    obtain ⟨g', off', h5, h6⟩ := h4 _ rfl (by omega)
    exact ⟨g', off', by rw [h5], h6 j _ (by rw [List.getElem?_map, hx]; rfl)⟩

/-- What Match reads of an attribute. -/
def MatS (b m2 cb : Nat) (v : Value) (x : Att) (y : World) : Prop :=
  y.cell? ⟨b, 1, none⟩ = some (.map (some m2)) ∧ y.cell? ⟨cb, 0, none⟩ = some (.string x.name) ∧ (Instr.lookup 74 (.map (some m2)) (.string x.name) false).run Tryz.prog y = .ok v y

theorem CellsAt.part {w : World} {g off : Nat} {l m : List Value} (h : CellsAt w g off (l ++ m)) {n : Nat} (hn : l.length = n) : CellsAt w g (off + n) m := fun j u hu => by
  have := h (n + j) u (by rw [List.getElem?_append_right (by omega), ← hn, Nat.add_sub_cancel_left]; exact hu)
  rwa [← Nat.add_assoc] at this
attribute [local go_sem ↓] run_load_cd
set_option maxHeartbeats 8000000 in
theorem imatch_at (w : World) (b : Nat) (own C : Nat → Prop) (I : List (Int × Fil)) (T : Nat) (h : Idx w b own C I T) (hT : T ≤ 100000) (es : ByteArray) (hes : es.size ≤ 1000000) (ev : Value) (L : List Att)
    (hv : RdSl w 6 ev L.length (atts L)) (hL : L.length ≤ 1000) (hLf : ∀ a ∈ L, a.name.size ≤ 1000000 ∧ a.v.text.size ≤ 1000000) :
    Calls Tryz.prog 18 #[.pointer (some ⟨b, 0, none⟩), .agg #[.string es, ev]] w (IMatPost w I es L) := by
  obtain ⟨m1, m2, h⟩ := h
  obtain ⟨a, cap, rfl⟩ : ∃ a c, ev = .slice a L.length c := by obtain ⟨-, a, c, h, -⟩ := hv; exact ⟨a, c, h⟩
  obtain ⟨wa, hwa⟩ : ∃ wa : World, w.alloc (.cells #[.string es, .slice a L.length cap] 32) = wa := ⟨_, rfl⟩
  have hmwa : Mod (fun _ => False) w wa := hwa ▸ (Mod.refl (fun _ => False) w).alloc _
  have hgwa := heap_alloc_new w (.cells #[.string es, .slice a L.length cap] 32)
  rw [hwa] at hgwa
  have hzwa : wa.heap.size = w.heap.size + 1 := by rw [← hwa]; simp
  obtain ⟨wb, hwb⟩ : ∃ wb : World, wa.alloc (.map #[] 0) = wb := ⟨_, rfl⟩
  have hmwb : Mod (fun _ => False) wa wb := hwb ▸ (Mod.refl (fun _ => False) wa).alloc _
  have hgwb := heap_alloc_new wa (.map #[] 0)
  rw [hwb] at hgwb
  have hzwb : wb.heap.size = wa.heap.size + 1 := by rw [← hwb]; simp
  have hm2 := hmwa.trans hmwb (fun _ _ h => h)
  have hib := h.mod hm2 (fun _ _ h => h)
  have hbz : b < w.heap.size := h.olow _ h.ob.1
  have hmz : m1 < w.heap.size := h.olow _ h.ob.2.1
  have hmz2 : m2 < w.heap.size := h.olow _ h.ob.2.2
  have hsz : w.heap.size < wa.heap.size := by rw [← hwa]; exact Nat.lt_of_lt_of_eq (Nat.lt_succ_self _) (Array.size_push _).symm
  have hmc : MapR wb 3 wa.heap.size 0 (fun _ => none) := hwb ▸ MapR.made wa 3
  have c1 : wb.cell? ⟨w.heap.size, 1, none⟩ = some (.slice a L.length cap) := cell_of (hmwb.heap hgwa (fun h => h)) rfl
  have hvb := hv.mod hm2 (fun _ _ h => h)
  have hrel0 : MRelA wb wa.heap.size T I L (.int .i64 ((0 : Nat) : Int)) wb := ⟨0, rfl, Nat.zero_le _, ⟨0, _, hmc, Nat.zero_le _, fun id => rfl, fun id => by simp [cntA]⟩, Mod.refl _ _⟩
  have hge := hmwb.heap hgwa (fun h => h)
  have H := Lib.hid h
  have Hv := Lib.hid hv
  have Hwa := Lib.hid hwa
  have Hmwa := Lib.hid hmwa
  have Hgwa := Lib.hid hgwa
  have Hwb := Lib.hid hwb
  have Hmwb := Lib.hid hmwb
  have Hgwb := Lib.hid hgwb
  have Hm2 := Lib.hid hm2
  have Hib := Lib.hid hib
  have Hmc := Lib.hid hmc
  have Hvb := Lib.hid hvb
  have Hrel0 := Lib.hid hrel0
  have Hge := Lib.hid hge
  clear h hv hwa hmwa hgwa hwb hmwb hgwb hm2 hib hmc hvb hrel0 hge hzwa hzwb
  go_enter Tryz.func18, Tryz.ntmps18
  go_wp2_with (first | (rw [show w.alloc _ = wa from Hwa.out]) | (rw [show wa.alloc _ = wb from Hwb.out]) | fail)
  go_loopw [18] (fun i wr => MRelA wb wa.heap.size T I L i wr) (fun i _ => L.length - (intOf i).toNat)
  case atStart => exact Hrel0.out
  case round =>
    revert wr; intro wA hrel
    obtain ⟨j, rfl, hj, hcn, hmr⟩ := hrel
    by_cases hlt : j < L.length
    · have hlt' : (j : Int) < L.length := by omega
      obtain ⟨x, hxj⟩ : ∃ x, L[j]? = some x := ⟨_, List.getElem?_eq_getElem hlt⟩
      have hxf := hLf x (List.mem_of_getElem? hxj)
      obtain ⟨g, off, rfl, hf0⟩ : ∃ g off, a = some ⟨g, off, none⟩ ∧ CellsAt w g (off + j * 6) x.cells := rd_el Att.cells_length Hv.out hxj
      have hgl : g < w.heap.size := World.block_lt_of_cell? w _ (hf0 0 _ rfl)
      have hf : CellsAt wA g (off + j * 6) x.cells := (hf0.mod Hm2.out (fun h => h)).mod hmr (fun h => by have h' : g = wa.heap.size := h; omega)
      obtain ⟨wz, hwz⟩ : ∃ wz : World, wA.alloc (.cells x.cells.toArray 90) = wz := ⟨_, rfl⟩
      have hmwz : Mod (fun _ => False) wA wz := hwz ▸ (Mod.refl (fun _ => False) wA).alloc _
      have hgwz := heap_alloc_new wA (.cells x.cells.toArray 90)
      rw [hwz] at hgwz
      have hzwz : wz.heap.size = wA.heap.size + 1 := by rw [← hwz]; simp
      have hmbz := hmr.trans (hmwz.mono (G := fun k => k = wa.heap.size) (fun _ _ h => h.elim)) (fun _ _ h => h)
      have hib2 : IdxAt w b m1 m2 own C I T := H.out
      obtain ⟨n2, f2, g1, g2, g3, g4, g5⟩ := Hib.out.pm
      obtain ⟨v, hvv⟩ : ∃ v, (f2 (Lit.str x.name)).getD nilS = v := ⟨_, rfl⟩
      obtain ⟨ps, p1, p2, p3, p4⟩ := g3 x.name
      rw [hvv] at p1 p3
      obtain ⟨va, vc, rfl, hvc⟩ := p1.shape
      have hvo : ∀ k, (Value.slice va ps.length vc).ownBlock = some k → k < w.heap.size := fun k hk => H.out.olow k (p3 k hk)
      have hpr : ∀ y F, Mod F wb y → (∀ k, F k → w.heap.size ≤ k) → RdSl y 8 (.slice va ps.length vc) ps.length (pls ps) := fun y F hy hF => p1.rd.mod hy (fun k hk h => by have h1 := hvo k hk; have h2 := hF k h; omega)
      have hSb : MatS b m2 wA.heap.size (.slice va ps.length vc) x wz.drew := by
        have hg2 : MapR wz.drew 9 m2 n2 f2 := (g1.mod hmbz (fun h => by have h' : m2 = wa.heap.size := h; omega)).mod ((Mod.refl (fun _ => False) wz).drew) (fun h => h)
        refine ⟨cell_of (hmbz.heap Hib.out.row (fun h => by have h' : b = wa.heap.size := h; omega)) rfl, cell_of hgwz rfl, ?_⟩
        rw [← hvv]
        exact hg2.look keyed_s Tryz.underlying74 (zero_pl _) (WideMaps.keyOf_string_mk Tryz.underlying9 (by unfold maxLen; omega))
      have hpf : ∀ p ∈ ps, p.2.fits ∧ (Lit.int .i64 p.1).wf = true := fun p hp => by
        have h1 : p.2 ∈ ofName (idxF I p.1) x.name := by rw [← p4 p.1]; exact List.mem_map_of_mem (List.mem_filter.2 ⟨hp, by simp⟩)
        cases hq : idxF I p.1 with
        | none => rw [hq] at h1; cases h1
        | some q =>
          rw [hq] at h1
          exact ⟨(H.out.wf _ (idxF_some hq)).2.2 _ (List.mem_filter.1 h1).1, (H.out.wf _ (idxF_some hq)).1⟩
      have hcz := hcn.mod hmwz (fun h => h)
      have hz0 : wa.heap.size < wA.heap.size := by
        have h1 := hmr.size
        have h2 := (Array.getElem?_eq_some_iff.1 Hgwb.out).1
        omega
      have Hxj := Lib.hid hxj
      have Hcn := Lib.hid hcn
      have Hmr := Lib.hid hmr
      have Hf0 := Lib.hid hf0
      have Hf := Lib.hid hf
      have Hwz := Lib.hid hwz
      have Hmwz := Lib.hid hmwz
      have Hgwz := Lib.hid hgwz
      have Hmbz := Lib.hid hmbz
      have G1 := Lib.hid g1
      have G2 := Lib.hid g2
      have G3 := Lib.hid g3
      have G4 := Lib.hid g4
      have G5 := Lib.hid g5
      have Hvv := Lib.hid hvv
      have P1 := Lib.hid p1
      have P3 := Lib.hid p3
      have P4 := Lib.hid p4
      have Hvo := Lib.hid hvo
      have Hpr := Lib.hid hpr
      have Hpf := Lib.hid hpf
      have Hcz := Lib.hid hcz
      have Hib2 := Lib.hid hib2
      clear hxj hcn hmr hf0 hf hwz hmwz hgwz hmbz g1 g2 g3 g4 g5 hvv p1 p3 p4 hvo hpr hpf hcz hib2 hzwz
      go_wp2_with (first | ((with_reducible refine wpList_load_lit 90 (.tmp 20) ?_); refine ⟨g, off + j * 6, rfl, x.cells, Hf.out, by kernel_rfl, by kernel_rfl, ?_⟩) | ((with_reducible refine wpList_store_lit 90 (.tmp 7) (.tmp 21) ?_); refine ⟨rfl, x.cells, rfl, rfl, by kernel_rfl, rfl, ?_⟩; rw [Hwz.out]) | fail)
      have hS := hSb
      refine wp_region_script [.rd 0, .rd 1, .rd 2, .rd 3, .rd 4, .rd 5, .rd 6, .rd 7, .rd 8] [0, 1, 2, 3, 4, 5, 6, 7, 8] (MatS b m2 wA.heap.size (.slice va ps.length vc) x) (by kernel_rfl) (by kernel_rfl) (fun _ _ d _ _ h => (by cases d <;> exact h)) ?_
      refine walk_rd rfl ?_ (fun _ => hS) ?_ (fun w0 h0 => ?_) (fun K hK => ?_)
      · (try simp only [List.getElem_toArray]); (try simp only [List.getElem_cons_succ]); (try simp only [List.getElem_cons_zero])
        go_simp; done
      rotate_left
      · (try simp only [List.getElem_toArray]); (try simp only [List.getElem_cons_succ]); (try simp only [List.getElem_cons_zero])
        first
          | (obtain ⟨f0, f1, f2⟩ := h0 rfl; clear h0; go_simp; with_reducible rfl)
          | (clear h0; go_simp; with_reducible rfl)
      (try simp only [List.getElem_toArray]); (try simp only [List.getElem_cons_succ]); (try simp only [List.getElem_cons_zero])
      go_simp; refine hK _ ?_; clear hK K
      refine walk_rd rfl ?_ (fun _ => hS) ?_ (fun w0 h0 => ?_) (fun K hK => ?_)
      · (try simp only [List.getElem_toArray]); (try simp only [List.getElem_cons_succ]); (try simp only [List.getElem_cons_zero])
        go_simp; done
      rotate_left
      · (try simp only [List.getElem_toArray]); (try simp only [List.getElem_cons_succ]); (try simp only [List.getElem_cons_zero])
        first
          | (obtain ⟨f0, f1, f2⟩ := h0 rfl; clear h0; go_simp; with_reducible rfl)
          | (clear h0; go_simp; with_reducible rfl)
      (try simp only [List.getElem_toArray]); (try simp only [List.getElem_cons_succ]); (try simp only [List.getElem_cons_zero])
      go_simp; refine hK _ ?_; clear hK K
      refine walk_rd rfl ?_ (fun _ => hS) ?_ (fun w0 h0 => ?_) (fun K hK => ?_)
      · (try simp only [List.getElem_toArray]); (try simp only [List.getElem_cons_succ]); (try simp only [List.getElem_cons_zero])
        go_simp; done
      rotate_left
      · (try simp only [List.getElem_toArray]); (try simp only [List.getElem_cons_succ]); (try simp only [List.getElem_cons_zero])
        first
          | (obtain ⟨f0, f1, f2⟩ := h0 rfl; clear h0; go_simp; with_reducible rfl)
          | (clear h0; go_simp; with_reducible rfl)
      (try simp only [List.getElem_toArray]); (try simp only [List.getElem_cons_succ]); (try simp only [List.getElem_cons_zero])
      go_simp; refine hK _ ?_; clear hK K
      refine walk_rd rfl ?_ (fun _ => hS) ?_ (fun w0 h0 => ?_) (fun K hK => ?_)
      · (try simp only [List.getElem_toArray]); (try simp only [List.getElem_cons_succ]); (try simp only [List.getElem_cons_zero])
        go_simp; done
      rotate_left
      · (try simp only [List.getElem_toArray]); (try simp only [List.getElem_cons_succ]); (try simp only [List.getElem_cons_zero])
        first
          | (obtain ⟨f0, f1, f2⟩ := h0 rfl; clear h0; go_simp; with_reducible rfl)
          | (clear h0; go_simp; with_reducible rfl)
      (try simp only [List.getElem_toArray]); (try simp only [List.getElem_cons_succ]); (try simp only [List.getElem_cons_zero])
      go_simp; refine hK _ ?_; clear hK K
      refine walk_rd rfl ?_ (fun _ => hS) ?_ (fun w0 h0 => ?_) (fun K hK => ?_)
      · (try simp only [List.getElem_toArray]); (try simp only [List.getElem_cons_succ]); (try simp only [List.getElem_cons_zero])
        go_simp; done
      rotate_left
      · (try simp only [List.getElem_toArray]); (try simp only [List.getElem_cons_succ]); (try simp only [List.getElem_cons_zero])
        first
          | (obtain ⟨f0, f1, f2⟩ := h0 rfl; clear h0; go_simp; with_reducible rfl)
          | (clear h0; go_simp; with_reducible rfl)
      (try simp only [List.getElem_toArray]); (try simp only [List.getElem_cons_succ]); (try simp only [List.getElem_cons_zero])
      go_simp; refine hK _ ?_; clear hK K
      refine walk_rd rfl ?_ (fun _ => hS) ?_ (fun w0 h0 => ?_) (fun K hK => ?_)
      · (try simp only [List.getElem_toArray]); (try simp only [List.getElem_cons_succ]); (try simp only [List.getElem_cons_zero])
        go_simp; done
      rotate_left
      · (try simp only [List.getElem_toArray]); (try simp only [List.getElem_cons_succ]); (try simp only [List.getElem_cons_zero])
        first
          | (obtain ⟨f0, f1, f2⟩ := h0 rfl; clear h0; go_simp; with_reducible rfl)
          | (clear h0; go_simp; with_reducible rfl)
      (try simp only [List.getElem_toArray]); (try simp only [List.getElem_cons_succ]); (try simp only [List.getElem_cons_zero])
      go_simp; refine hK _ ?_; clear hK K
      refine walk_rd rfl ?_ (fun _ => hS) ?_ (fun w0 h0 => ?_) (fun K hK => ?_)
      · (try simp only [List.getElem_toArray]); (try simp only [List.getElem_cons_succ]); (try simp only [List.getElem_cons_zero])
        go_simp; done
      rotate_left
      · (try simp only [List.getElem_toArray]); (try simp only [List.getElem_cons_succ]); (try simp only [List.getElem_cons_zero])
        first
          | (obtain ⟨f0, f1, f2⟩ := h0 rfl; clear h0; go_simp; with_reducible rfl)
          | (clear h0; go_simp; with_reducible rfl)
      (try simp only [List.getElem_toArray]); (try simp only [List.getElem_cons_succ]); (try simp only [List.getElem_cons_zero])
      go_simp; refine hK _ ?_; clear hK K
      refine walk_rd rfl ?_ (fun _ => hS) ?_ (fun w0 h0 => ?_) (fun K hK => ?_)
      · (try simp only [List.getElem_toArray]); (try simp only [List.getElem_cons_succ]); (try simp only [List.getElem_cons_zero])
        go_simp; done
      rotate_left
      · (try simp only [List.getElem_toArray]); (try simp only [List.getElem_cons_succ]); (try simp only [List.getElem_cons_zero])
        first
          | (obtain ⟨f0, f1, f2⟩ := h0 rfl; clear h0; go_simp; with_reducible rfl)
          | (clear h0; go_simp; with_reducible rfl)
      (try simp only [List.getElem_toArray]); (try simp only [List.getElem_cons_succ]); (try simp only [List.getElem_cons_zero])
      go_simp; refine hK _ ?_; clear hK K
      refine walk_rd rfl ?_ (fun _ => hS) ?_ (fun w0 h0 => ?_) (fun K hK => ?_)
      · (try simp only [List.getElem_toArray]); (try simp only [List.getElem_cons_succ]); (try simp only [List.getElem_cons_zero])
        go_simp; done
      rotate_left
      · (try simp only [List.getElem_toArray]); (try simp only [List.getElem_cons_succ]); (try simp only [List.getElem_cons_zero])
        first
          | (obtain ⟨f0, f1, f2⟩ := h0 rfl; clear h0; go_simp; with_reducible rfl)
          | (clear h0; go_simp; with_reducible rfl)
      (try simp only [List.getElem_toArray]); (try simp only [List.getElem_cons_succ]); (try simp only [List.getElem_cons_zero])
      go_simp; refine hK _ ?_; clear hK K
      refine walk_nil ?_
      have hrelB : MRelB wz.drew wa.heap.size (j * T) (cntA I (L.take j)) x ps (.int .i64 ((0 : Nat) : Int)) wz.drew :=
        ⟨0, rfl, Nat.zero_le _, ((Hcz.out.mod ((Mod.refl (fun _ => False) wz).drew) (fun h => h))).cong (by omega) (fun id => by simp), Mod.refl _ _⟩
      have HrelB := Lib.hid hrelB
      have HSb := Lib.hid hSb
      clear hrelB hSb hS
      go_wp2_with fail
      go_loopw [30] (fun i wr => MRelB wz.drew wa.heap.size (j * T) (cntA I (L.take j)) x ps i wr) (fun i _ => ps.length - (intOf i).toNat)
      case atStart => exact HrelB.out
      case round =>
        obtain ⟨k, rfl, hk, hcn2, hmr2⟩ := hrel
        by_cases hlt2 : k < ps.length
        · have hlt2' : (k : Int) < ps.length := by omega
          obtain ⟨y, hyk⟩ : ∃ y, ps[k]? = some y := ⟨_, List.getElem?_eq_getElem hlt2⟩
          have hyf := (Hpf.out y (List.mem_of_getElem? hyk)).1.v.text
          have hyw := Maps.keyOf_int_mk (P := Tryz.prog) Tryz.underlying3 (Hpf.out y (List.mem_of_getElem? hyk)).2
          obtain ⟨pg, poff, rfl, hpc⟩ : ∃ pg poff, va = some ⟨pg, poff, none⟩ ∧ CellsAt wr pg (poff + k * 8) (pcell y) := rd_el pcell_length (Hpr.out wr (fun k => k = wa.heap.size) (Hmbz.out.drew.trans hmr2 (fun _ _ h => h)) (fun k hk => by omega)) hyk
          obtain ⟨wp, hwp⟩ : ∃ wp : World, wr.alloc (.cells (pcell y).toArray 85) = wp := ⟨_, rfl⟩
          have hmwp : Mod (fun _ => False) wr wp := hwp ▸ (Mod.refl (fun _ => False) wr).alloc _
          have hgwp := heap_alloc_new wr (.cells (pcell y).toArray 85)
          rw [hwp] at hgwp
          have hzwp : wp.heap.size = wr.heap.size + 1 := by rw [← hwp]; simp
          have hmz2p : Mod (fun k => k = wa.heap.size) wz wp := (((Mod.refl (fun k => k = wa.heap.size) wz).drew).trans hmr2 (fun _ _ h => h)).trans (hmwp.mono (fun _ _ h => h.elim)) (fun _ _ h => h)
          have hga : CellsAt wp wA.heap.size 0 x.cells := (CellsAt.row Hgwz.out).mod hmz2p (fun h => by have h' : wA.heap.size = wa.heap.size := h; omega)
          have hga1 : CellsAt wp wA.heap.size 1 x.v.cells := CellsAt.part (l := [.string x.name]) (n := 1) hga rfl
          have hgp : CellsAt wp wr.heap.size 0 (pcell y) := CellsAt.row hgwp
          have hgp1 : CellsAt wp wr.heap.size 1 y.2.cells := CellsAt.part (l := [.int .i64 y.1]) (n := 1) hgp rfl
          have e1 := hga1.all (show x.v.cells.length = 5 from rfl)
          have e2 := hga1.is (show x.v.cells.length = 5 from rfl)
          have e3 := hgp1.all (Cnd.cells_length y.2)
          have e4 := hgp1.is (Cnd.cells_length y.2)
          have hho := holds_at y.2 x.v (by omega) (by omega) wp
          obtain ⟨hv, hhv⟩ : ∃ hv, y.2.holds x.v = hv := ⟨_, rfl⟩
          rw [hhv] at hho
          have Hyk := Lib.hid hyk
          have Hpc := Lib.hid hpc
          have Hwp := Lib.hid hwp
          have Hmwp := Lib.hid hmwp
          have Hgwp := Lib.hid hgwp
          have Hmz2p := Lib.hid hmz2p
          have Hga := Lib.hid hga
          have Hga1 := Lib.hid hga1
          have Hgp := Lib.hid hgp
          have Hgp1 := Lib.hid hgp1
          have Hho := Lib.hid hho
          have Hhv := Lib.hid hhv
          have Hcn2 := Lib.hid hcn2
          have Hmr2 := Lib.hid hmr2
          have Hyw := Lib.hid hyw
          clear hyk hpc hwp hmwp hgwp hmz2p hga hga1 hgp hgp1 hho hhv hcn2 hmr2 hyw hzwp
          go_wp2_with (first | ((with_reducible refine wpList_load_lit 85 (.tmp 32) ?_); refine ⟨pg, poff + k * 8, rfl, pcell y, Hpc.out, by kernel_rfl, by kernel_rfl, ?_⟩) | ((with_reducible refine wpList_store_lit 85 (.tmp 9) (.tmp 33) ?_); refine ⟨rfl, pcell y, rfl, rfl, by kernel_rfl, rfl, ?_⟩; rw [Hwp.out]) | fail)
          refine Hho.out.mono ?_
          rintro e w3 ⟨rfl, hm3⟩
          obtain ⟨n, f, q1, q2, q3, q4⟩ := Hcn2.out
          obtain ⟨G, hG⟩ : ∃ G : Int → Nat, G = fun id => cntA I (L.take j) id + ((ps.take k).filter fun p => p.1 == id && p.2.holds x.v).length := ⟨_, rfl⟩
          rw [← hG] at q3 q4
          have hm23 : Mod (fun k => k = wa.heap.size) wz.drew w3 := (Hmr2.out.trans (Hmwp.out.mono (fun _ _ h => h.elim)) (fun _ _ h => h)).trans (hm3.mono (fun _ _ h => h.elim)) (fun _ _ h => h)
          have hmp3 := Hmwp.out.trans hm3 (fun _ _ h => h)
          have q13 := q1.mod hmp3 (fun h => h)
          have hstp : ∀ id, (cntA I (L.take j) id + ((ps.take (k + 1)).filter fun p => p.1 == id && p.2.holds x.v).length) = G id + if y.1 = id ∧ hv = true then 1 else 0 := fun id => by
            rw [hG]
            simp only []
            rw [List.take_add_one, Hyk.out, List.filter_append, List.length_append, Option.toList_some, List.filter_cons, Hhv.out, List.filter_nil, Nat.add_assoc]
            congr 1
            congr 1
            by_cases e : y.1 = id
            · rw [beq_iff_eq.2 e]; cases hv <;> simp [e]
            · rw [beq_eq_false_iff_ne.2 e]; simp [e]
          cases hv with
          | false =>
            have HG := Lib.hid hG
            have Q1 := Lib.hid q1
            have Q2 := Lib.hid q2
            have Q3 := Lib.hid q3
            have Q4 := Lib.hid q4
            have Hm23 := Lib.hid hm23
            have Hmp3 := Lib.hid hmp3
            have Q13 := Lib.hid q13
            have Hstp := Lib.hid hstp
            have Hm3 := Lib.hid hm3
            clear hG q1 q2 q3 q4 hm23 hmp3 q13 hstp hm3
            go_wp2_with fail
            go_roundw
            case rel =>
              refine ⟨k + 1, by go_num, hlt2, ?_, Hm23.out⟩
              exact (CntR.cong ⟨n, f, Q13.out, Q2.out, Q3.out, Q4.out⟩ (by omega) (fun id => by rw [Hstp.out]; simp))
            case measure => simp [intOf]; omega
          | true =>
            obtain ⟨c, hc⟩ : ∃ c, G y.1 = c := ⟨_, rfl⟩
            have hcb : c ≤ 100000 * 1000 + 100000 := by
              rw [← hc]
              have h1 := q4 y.1
              have h2 : j * T ≤ 1000 * 100000 := Nat.mul_le_mul (by omega) hT
              omega
            have hnb : n < maxLen := by
              have h2 : j * T ≤ 1000 * 100000 := Nat.mul_le_mul (by omega) hT
              unfold maxLen
              omega
            have hlk : (Instr.lookup 92 (.map (some wa.heap.size)) (.int .i64 y.1) false).run Tryz.prog w3 = .ok (.int .i64 c) w3 := by
              rw [q13.look keyed_i Tryz.underlying92 (zero_int w3) Hyw.out, q3, hc]
            have c9 : w3.cell? ⟨wr.heap.size, 0, none⟩ = some (.int .i64 y.1) := hm3.cell (Hgp.out 0 _ rfl) (fun h => h)
            have hz3 : wa.heap.size < w3.heap.size := by have h1 := hm23.size; have h2 : wz.drew.heap.size = wz.heap.size := rfl; have h3 := Hmwz.out.size; omega
            have HG := Lib.hid hG
            have Q1 := Lib.hid q1
            have Q2 := Lib.hid q2
            have Q3 := Lib.hid q3
            have Q4 := Lib.hid q4
            have Hm23 := Lib.hid hm23
            have Hmp3 := Lib.hid hmp3
            have Q13 := Lib.hid q13
            have Hstp := Lib.hid hstp
            have Hm3 := Lib.hid hm3
            have Hc := Lib.hid hc
            have Hnb := Lib.hid hnb
            clear hG q1 q2 q3 q4 hm23 hmp3 q13 hstp hm3 hc hnb
            go_wp2_with (first | ((with_reducible refine wpList_mput_lit 92 (.tmp 39) (.tmp 41) (.tmp 43) ?_); refine ⟨3, 3, wa.heap.size, n, f, .int .i64 y.1, Q13.out, keyed_i, Tryz.underlying92, Hnb.out, rfl, Hyw.out, ?_⟩; intro w5 hM' hm'; have HM' := Lib.hid hM'; have Hm' := Lib.hid hm'; clear hM' hm') | fail)
            go_roundw
            case rel =>
              refine ⟨k + 1, by go_num, hlt2, ?_, Hm23.out.trans Hm'.out (fun _ _ h => h)⟩
              exact CntR.inc Q2.out Q3.out Q4.out Hc.out HM'.out (fun id => by rw [Hstp.out]; simp)
            case measure => simp [intOf]; omega
        · obtain rfl : k = ps.length := by omega
          rw [List.take_length] at hcn2
          have hcA : CntR wr wa.heap.size ((j + 1) * T) (cntA I (L.take (j + 1))) := hcn2.cong (by rw [Nat.add_mul, Nat.one_mul]; exact Nat.add_le_add_left p2 _) (fun id => by
            rw [List.take_add_one, Hxj.out, Option.toList_some, cntA_snoc, ← P4.out id, List.filter_map, List.length_map, List.filter_filter]
            congr 2
            congr 1
            funext p
            exact Bool.and_comm _ _)
          have hmA := Hmbz.out.drew.trans hmr2 (fun _ _ h => h)
          have Hcn2 := Lib.hid hcn2
          have HcA := Lib.hid hcA
          have HmA := Lib.hid hmA
          have Hmr2 := Lib.hid hmr2
          clear hcn2 hcA hmA hmr2
          go_wp2_with fail
          go_roundw
          case rel => exact ⟨j + 1, by go_num, hlt, HcA.out, HmA.out⟩
          case measure => simp [intOf]; omega
    · obtain rfl : j = L.length := by omega
      rw [List.take_length] at hcn
      obtain ⟨ff, hf1, hf2⟩ := Hib.out.fm
      have hfA := hf1.mod hmr (fun h => by have h' : m1 = wa.heap.size := h; omega)
      have hlow := H.out.low
      have hso := fsorted_at hfA (by omega) H.out.nd (fun x => by
        have h1 := hf2 x
        constructor
        · intro hx
          obtain ⟨q, hq⟩ := idxF_mem hx
          rw [hq] at h1
          cases hv : ff (.int .i64 x) with
          | some v => rfl
          | none => rw [hv] at h1; exact h1.elim
        · intro hx
          cases hq : idxF I x with
          | some q => exact List.mem_map_of_mem (idxF_some hq)
          | none =>
            rw [hq] at h1
            cases hv : ff (.int .i64 x) with
            | none => rw [hv] at hx; cases hx
            | some v => rw [hv] at h1; exact h1.elim)
      have cA : wA.cell? ⟨b, 0, none⟩ = some (.map (some m1)) := cell_of (hmr.heap Hib.out.row (fun h => by have h' : b = wa.heap.size := h; omega)) rfl
      have Hcn := Lib.hid hcn
      have Hf1 := Lib.hid hf1
      have Hf2 := Lib.hid hf2
      have HfA := Lib.hid hfA
      have Hso := Lib.hid hso
      have Hmr := Lib.hid hmr
      clear hcn hf1 hf2 hfA hso hmr
      go_wp2_with fail
      refine (fkeys_at (some m1) wA).mono ?_
      rintro e wK ⟨rfl, rfl⟩
      go_wp2_with fail
      refine Hso.out.mono ?_
      rintro e w4 ⟨sv, rfl, hso4, hsf, hm4⟩
      obtain ⟨ids, hids⟩ : ∃ ids, riseI (I.map Prod.fst) = ids := ⟨_, rfl⟩
      rw [hids, List.length_map] at hso4
      obtain ⟨sa, sc, rfl, hsc⟩ := hso4.shape
      have hm4' : Mod (fun k => k = wa.heap.size) wb w4 := (Hmr.out.alloc _).trans (hm4.mono (fun _ _ h => h.elim)) (fun _ _ h => h)
      have hcn4 := (Hcn.out.mod ((Mod.refl (fun _ => False) wA).alloc _) (fun h => h)).mod hm4 (fun h => h)
      have hf4 := (HfA.out.mod ((Mod.refl (fun _ => False) wA).alloc _) (fun h => h)).mod hm4 (fun h => h)
      have hrow4 := hm4'.heap Hib.out.row (fun h => by have h' : b = wa.heap.size := h; omega)
      have hge4 := hm4'.heap Hge.out (fun h => by have h' : w.heap.size = wa.heap.size := h; omega)
      have hidl : ids.length ≤ 100000 := by
        rw [← hids, show (riseI (I.map Prod.fst)).length = (I.map Prod.fst).length from (List.mergeSort_perm _ leI).length_eq, List.length_map]
        omega
      have hrelC : MRelC w4 I es L (.slice none 0 0) (.int .i64 ((0 : Nat) : Int)) w4 := ⟨0, [], none, 0, rfl, Nat.zero_le _, rfl, rfl, OwnSl.nil _ _ _, fun k hk => by simp [Value.ownBlock] at hk, Mod.refl _ _⟩
      have hz4 : wb.heap.size ≤ w4.heap.size := hm4'.size
      have Hso4 := Lib.hid hso4
      have Hsf := Lib.hid hsf
      have Hm4 := Lib.hid hm4
      have Hm4' := Lib.hid hm4'
      have Hcn4 := Lib.hid hcn4
      have Hf4 := Lib.hid hf4
      have Hrow4 := Lib.hid hrow4
      have Hge4 := Lib.hid hge4
      have Hids := Lib.hid hids
      have HrelC := Lib.hid hrelC
      clear hso4 hsf hm4 hm4' hcn4 hf4 hrow4 hge4 hids hrelC
      go_wp2_with fail
      go_loopw [10, 53] (fun ov i wr => MRelC w4 I es L ov i wr) (fun _ i _ => ids.length - (intOf i).toNat)
      case atStart => exact HrelC.out
      case round =>
        obtain ⟨j, o, oa, oc, rfl, hj, ho, rfl, hown, hof, hmr2⟩ := hrel
        rw [Hids.out] at hj ho
        by_cases hlt : j < ids.length
        · have hlt' : (j : Int) < ids.length := by omega
          obtain ⟨id, hidj⟩ : ∃ id, ids[j]? = some id := ⟨_, List.getElem?_eq_getElem hlt⟩
          have hidm : id ∈ I.map Prod.fst := by
            rw [← riseI_mem, Hids.out]
            exact List.mem_of_getElem? hidj
          obtain ⟨q, hq⟩ := idxF_mem hidm
          have hqm := idxF_some hq
          have hkey : keyOf Tryz.prog 3 (.int .i64 id) = some (.int .i64 id) := Maps.keyOf_int_mk Tryz.underlying3 (H.out.wf _ hqm).1
          have hfi := Hf2.out id
          rw [hq] at hfi
          cases hfv : ff (.int .i64 id) with
          | none => rw [hfv] at hfi; exact hfi.elim
          | some fv =>
            rw [hfv] at hfi
            obtain ⟨qa, qc, rfl, -, -⟩ := hfi
            obtain ⟨sg, soff, rfl, cid⟩ : ∃ g off, sa = some ⟨g, off, none⟩ ∧ wr.cell? ⟨g, off + j, none⟩ = some (.int .i64 id) := rd_int (Hso4.out.rd.mod hmr2 (fun _ _ h => h)) hidj
            have cb : wr.cell? ⟨b, 0, none⟩ = some (.map (some m1)) := cell_of (hmr2.heap Hrow4.out (fun h => h)) rfl
            have hl1 : (Instr.lookup 26 (.map (some m1)) (.int .i64 id) false).run Tryz.prog wr = .ok (.agg #[.string q.1, .slice qa q.2.length qc]) wr := by
              rw [(Hf4.out.mod hmr2 (fun h => h)).look keyed_i Tryz.underlying26 (zero_fil wr) hkey, hfv]
              rfl
            obtain ⟨wz, hwz⟩ : ∃ wz : World, wr.alloc (.cells #[.string q.1, .slice qa q.2.length qc] 29) = wz := ⟨_, rfl⟩
            have hmwz : Mod (fun _ => False) wr wz := hwz ▸ (Mod.refl (fun _ => False) wr).alloc _
            have hgwz := heap_alloc_new wr (.cells #[.string q.1, .slice qa q.2.length qc] 29)
            rw [hwz] at hgwz
            have hzwz : wz.heap.size = wr.heap.size + 1 := by rw [← hwz]; simp
            obtain ⟨n, f, q1, q2, q3, q4⟩ := (Hcn4.out.mod hmr2 (fun h => h)).mod hmwz (fun h => h)
            obtain ⟨c, hc⟩ : ∃ c, cntA I L id = c := ⟨_, rfl⟩
            have hl2 : (Instr.lookup 92 (.map (some wa.heap.size)) (.int .i64 id) false).run Tryz.prog wz = .ok (.int .i64 c) wz := by
              rw [q1.look keyed_i Tryz.underlying92 (zero_int wz) hkey, q3, hc]
            have ce : wz.cell? ⟨w.heap.size, 0, none⟩ = some (.string es) := cell_of ((hmr2.trans hmwz (fun _ _ h => h)).heap Hge4.out (fun h => h)) rfl
            have cf0 : wz.cell? ⟨wr.heap.size, 0, none⟩ = some (.string q.1) := cell_of hgwz rfl
            have cf1 : wz.cell? ⟨wr.heap.size, 1, none⟩ = some (.slice qa q.2.length qc) := cell_of hgwz rfl
            obtain ⟨t, ht⟩ : ∃ t, ((c : Int) == (q.2.length : Int)) = t := ⟨_, rfl⟩
            have hmb : matB I es L id = (t && underB es q.1) := by
              unfold matB
              rw [hq]
              simp only []
              rw [hc, ← ht]
              congr 1
              rw [Bool.eq_iff_iff, beq_iff_eq, beq_iff_eq]
              omega
            have hnx : (ids.take (j + 1)).filter (matB I es L) = o ++ if (t && underB es q.1) = true then [id] else [] := by
              rw [List.take_add_one, hidj, List.filter_append, ← ho, Option.toList_some, List.filter_cons, hmb, List.filter_nil]
            have hun := under_at es q.1 (by omega) (Nat.le_trans (H.out.sc _ hqm) (by decide)) wz
            obtain ⟨u, hu⟩ : ∃ u, underB es q.1 = u := ⟨_, rfl⟩
            rw [hu] at hun hnx
            have hol : o.length ≤ 100000 := by rw [ho]; exact Nat.le_trans (List.length_filter_le _ _) (by rw [List.length_take]; omega)
            have hmz2 := hmr2.trans hmwz (fun _ _ h => h)
            have hoz := hown.mod hmwz (fun _ _ h => h)
            have Ho := Lib.hid ho
            have Hown := Lib.hid hown
            have Hof := Lib.hid hof
            have Hmr2 := Lib.hid hmr2
            have Hidj := Lib.hid hidj
            have Hidm := Lib.hid hidm
            have Hq := Lib.hid hq
            have Hqm := Lib.hid hqm
            have Hkey := Lib.hid hkey
            have Hfv := Lib.hid hfv
            have Hwz := Lib.hid hwz
            have Hmwz := Lib.hid hmwz
            have Hgwz := Lib.hid hgwz
            have Q1 := Lib.hid q1
            have Q2 := Lib.hid q2
            have Q3 := Lib.hid q3
            have Q4 := Lib.hid q4
            have Hc := Lib.hid hc
            have Hmb := Lib.hid hmb
            have Hnx := Lib.hid hnx
            have Hun := Lib.hid hun
            have Hmz2 := Lib.hid hmz2
            have Hoz := Lib.hid hoz
            clear ho hown hof hmr2 hidj hidm hq hqm hkey hfv hwz hmwz hgwz q1 q2 q3 q4 hc hmb hnx hun hmz2 hoz hzwz
            cases t with
            | false =>
              have hnx' : (ids.take (j + 1)).filter (matB I es L) = o := by rw [Hnx.out]; simp
              have Hnx' := Lib.hid hnx'
              clear hnx'
              go_wp2_with (first | ((with_reducible refine wpList_store_lit 29 (.tmp 13) (.tmp 62) ?_); refine ⟨rfl, [.string q.1, .slice qa q.2.length qc], rfl, rfl, by kernel_rfl, rfl, ?_⟩; rw [Hwz.out]) | fail)
              go_roundw
              case rel => exact ⟨j + 1, o, oa, oc, by go_num, by rw [Hids.out]; exact hlt, by rw [Hids.out]; exact Hnx'.out.symm, rfl, Hoz.out, Hof.out, Hmz2.out⟩
              case measure => simp [intOf]; omega
            | true =>
              go_wp2_with (first | ((with_reducible refine wpList_store_lit 29 (.tmp 13) (.tmp 62) ?_); refine ⟨rfl, [.string q.1, .slice qa q.2.length qc], rfl, rfl, by kernel_rfl, rfl, ?_⟩; rw [Hwz.out]) | fail)
              refine Hun.out.mono ?_
              rintro e w5 ⟨rfl, hw5⟩
              obtain rfl := hw5.symm
              cases u with
              | false =>
                have hnx' : (ids.take (j + 1)).filter (matB I es L) = o := by rw [Hnx.out]; simp
                have Hnx' := Lib.hid hnx'
                clear hnx'
                go_wp2_with fail
                go_roundw
                case rel => exact ⟨j + 1, o, oa, oc, by go_num, by rw [Hids.out]; exact hlt, by rw [Hids.out]; exact Hnx'.out.symm, rfl, Hoz.out, Hof.out, Hmz2.out⟩
                case measure => simp [intOf]; omega
              | true =>
                have hnx' : (ids.take (j + 1)).filter (matB I es L) = o ++ [id] := by rw [Hnx.out]; simp
                obtain ⟨wq, hwq⟩ : ∃ wq : World, wz.alloc (.cells #[.int .i64 id] 3) = wq := ⟨_, rfl⟩
                have hmwq : Mod (fun _ => False) wz wq := hwq ▸ (Mod.refl (fun _ => False) wz).alloc _
                have hgwq := heap_alloc_new wz (.cells #[.int .i64 id] 3)
                rw [hwq] at hgwq
                have hzwq : wq.heap.size = wz.heap.size + 1 := by rw [← hwq]; simp
                have hrq : RdSl wq 1 (.slice (some ⟨wz.heap.size, 0, none⟩) 1 1) 1 [.int .i64 id] := hwq ▸ RdSl.one wz [.int .i64 id] 3 rfl
                have hone : ∀ v ∈ ([.int .i64 id] : List Value), v.oneCell' = true := fun v hv => List.all_eq_true.1 (show ([.int .i64 id] : List Value).all (·.oneCell') = true from rfl) v hv
                have hoq := Hoz.out.mod hmwq (fun _ _ h => h)
                have hm4q := Hmz2.out.trans hmwq (fun _ _ h => h)
                have Hnx' := Lib.hid hnx'
                have Hwq := Lib.hid hwq
                have Hmwq := Lib.hid hmwq
                have Hrq := Lib.hid hrq
                have Hone := Lib.hid hone
                have Hoq := Lib.hid hoq
                have Hm4q := Lib.hid hm4q
                clear hnx' hwq hmwq hrq hone hoq hm4q hgwq hzwq
                go_wp2_with (first | (rw [show wz.alloc _ = wq from Hwq.out]) | ((with_reducible refine wpList_append_lit (.tmp 77) (.tmp 79) 39 ?_); refine ⟨rfl, 3, 1, 8, ints_T, .slice oa o.length oc, o.length, o.map (Value.int .i64), rfl, Hoq.out, _, 1, [.int .i64 id], rfl, Hrq.out, Hone.out, by omega, by unfold maxLen; omega, ?_⟩; intro ad cap5 w5 hA; have HA := Lib.hid hA; clear hA) | fail)
                go_roundw
                case rel =>
                  refine ⟨j + 1, o ++ [id], ad, cap5, by go_num, by rw [Hids.out]; exact hlt, by rw [Hids.out]; exact Hnx'.out.symm, by rw [List.length_append]; rfl, ?_, ?_, ?_⟩
                  · rw [List.length_append, List.map_append]; exact HA.out.1
                  · intro k hk
                    rcases HA.out.2.2 with h3 | ⟨k', h3, h4⟩
                    · exact Hof.out k (h3 ▸ hk)
                    · rw [h3] at hk
                      cases hk
                      have := Hm4q.out.size
                      omega
                  · exact Hm4q.out.upon HA.out.2.1 (fun k hk => .inr (Hof.out k hk))
                case measure => simp [intOf]; omega
        · obtain rfl : j = ids.length := by omega
          rw [List.take_length] at ho
          have hom : matL I es L = o := by unfold matL; rw [Hids.out, ho]
          have hmE : Mod (fun _ => False) w wr := (Hm2.out.upon Hm4'.out (fun k hk => .inr (by have h' : k = wa.heap.size := hk; omega))).trans hmr2 (fun _ _ h => h)
          have Ho := Lib.hid ho
          have Hown := Lib.hid hown
          have Hof := Lib.hid hof
          have Hmr2 := Lib.hid hmr2
          have Hom := Lib.hid hom
          have HmE := Lib.hid hmE
          clear ho hown hof hmr2 hom hmE
          go_wp2_with fail
          go_ret
          exact ⟨_, rfl, by rw [Hom.out]; exact Hown.out, fun k hk => by have h1 := Hof.out k hk; have h2 := Hm2.out.size; omega, HmE.out⟩
end Go.Proofs.YtloplmaekonenaaGreatDoor
