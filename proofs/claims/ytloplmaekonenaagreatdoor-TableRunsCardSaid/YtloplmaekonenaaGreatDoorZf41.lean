/-
  The reference's look through the attributes is the program's.
  slices.IndexFunc and ContainsFunc of filters over any call; table.Wants.
  What All gives beside the law's map: plain laws for gazettelaw14.TableRuns.
-/
import Derived.Test.YtloplmaekonenaaGreatDoorZf31
import Derived.Test.YtloplmaekonenaaGreatDoorZf34
import Derived.Test.YtloplmaekonenaaGreatDoorZf40
namespace Go.Proofs.YtloplmaekonenaaGreatDoor
set_option maxRecDepth 20000
open Go.RowKit

theorem there_is {l : List Att} {s : ByteArray} (h : there l s = true) : ∃ x, l[pos l s]? = some x ∧ (x.name.toList == s.toList) = true := by
  unfold there at h
  split at h
  · rename_i a ha
    refine ⟨a, ha, ?_⟩
    rw [ByteArray.toList_eq, ByteArray.toList_eq]
    exact h
  · cases h
/-- An attribute of that name stands in its place. -/
theorem at_pos {l : List Att} (hr : rises l) {s : ByteArray} {k : Nat} {x : Att} (hx : l[k]? = some x) (hn : (x.name.toList == s.toList) = true) : pos l s = k := by
  rw [beq_iff_eq, ByteArray.toList_eq, ByteArray.toList_eq] at hn
  rcases Nat.lt_trichotomy k (pos l s) with h | h | h
  · have := pos_less h hx
    rw [hn, less_irrefl] at this
    cases this
  · exact h.symm
  · obtain ⟨y, hy⟩ : ∃ y, l[pos l s]? = some y := ⟨_, List.getElem?_eq_getElem (by have := (List.getElem?_eq_some_iff.1 hx).1; omega)⟩
    have h1 := hr _ _ y x h hy hx
    rw [hn] at h1
    have h2 := pos_not hr (Nat.le_refl _) hy
    rw [h1] at h2
    cases h2
theorem rmatch_eq {l : List Att} (hr : rises l) (c : Cnd) : rMatchC c l = c.matchB l := by
  unfold rMatchC Cnd.matchB getV
  cases ht : there l c.name with
  | true =>
    obtain ⟨x, hx, hn⟩ := there_is ht
    rw [if_pos rfl, hx]
    show _ = (true && c.holds x.v)
    rw [Bool.true_and, Bool.eq_iff_iff, List.any_eq_true]
    constructor
    · rintro ⟨y, hy, h⟩
      rw [Bool.and_eq_true] at h
      obtain ⟨k, hk⟩ := List.mem_iff_getElem?.1 hy
      have hp := at_pos hr hk h.1
      rw [hp, hk] at hx
      cases hx
      exact h.2
    · intro h
      exact ⟨x, List.mem_of_getElem? hx, by rw [hn, h]; rfl⟩
  | false =>
    rw [if_neg (by decide)]
    show _ = (false && _)
    rw [Bool.false_and, List.any_eq_false]
    intro y hy h
    rw [Bool.and_eq_true] at h
    obtain ⟨k, hk⟩ := List.mem_iff_getElem?.1 hy
    have hp := at_pos hr hk h.1
    have : there l c.name = true := by
      unfold there
      rw [hp, hk]
      have := h.1
      rw [ByteArray.toList_eq, ByteArray.toList_eq] at this
      exact this
    rw [ht] at this
    cases this
end Go.Proofs.YtloplmaekonenaaGreatDoor

namespace Go.Proofs.YtloplmaekonenaaGreatDoor
set_option maxRecDepth 20000
open Go.RowKit Go.Sort

set_option maxHeartbeats 2000000 in
theorem indexr_at (F : FuncId) (cap : Array Value) (hF : ∀ args w, (callFunc F args).run Tryz.prog w = .ok (.enter F args) w) (p : Fr → Bool) (w : World) (v : Value) (l : List Fr) (hv : RdSl w 2 v l.length (l.flatMap Fr.cells)) (hll : l.length ≤ 9223372036854775807)
    (hp : ∀ c ∈ l, ∀ wx, Mod (fun _ => False) w wx → Calls Tryz.prog F (#[.agg c.cells.toArray] ++ cap) wx fun e w' => e = .returned (.bool (p c)) ∧ Mod (fun _ => False) wx w') :
    Calls Tryz.prog 103 #[v, .func (.func F) #[] cap] w fun e w' => ∃ n : Int, e = .returned (.int .i64 n) ∧ (decide (0 ≤ n) = l.any p) ∧ Mod (fun _ => False) w w' := by
  obtain ⟨a, ca, rfl, hcap⟩ : ∃ a c, v = .slice a l.length c ∧ l.length ≤ c := by obtain ⟨-, a, c, h, h2, -⟩ := hv; exact ⟨a, c, h, h2⟩
  have hll' : (l.length : Int) ≤ 9223372036854775807 := by omega
  have hcap' : (l.length : Int) ≤ ca := by omega
  obtain ⟨R, hR⟩ : ∃ R, l.any p = R := ⟨_, rfl⟩
  rw [hR]
  have Hv := Lib.hid hv
  have Hp := Lib.hid hp
  have HR := Lib.hid hR
  have HF := Lib.hid hF
  clear hv hp hR hF hll
  go_enter Tryz.func103, Tryz.ntmps103
  go_wp2_with fail
  go_loopw [8] (fun i wr => ∃ j : Nat, i = .int .i64 j ∧ j ≤ l.length ∧ Mod (fun _ => False) w wr ∧ (∀ (k : Nat) (x : Fr), k < j → l[k]? = some x → p x = false)) (fun i _ => l.length - (intOf i).toNat)
  case atStart => exact ⟨0, rfl, Nat.zero_le _, Mod.refl _ _, fun k x hk => by omega⟩
  case round =>
    obtain ⟨j, rfl, hj, hmr, hall⟩ := hrel
    by_cases hlt : j < l.length
    · have hlt' : (j : Int) < l.length := by omega
      obtain ⟨x, hxj⟩ : ∃ x, l[j]? = some x := ⟨_, List.getElem?_eq_getElem hlt⟩
      have hxm := List.mem_of_getElem? hxj
      obtain ⟨g, off, rfl, hf⟩ : ∃ g off, a = some ⟨g, off, none⟩ ∧ CellsAt wr g (off + j * 2) x.cells := rd_el (f := Fr.cells) (sz := 2) (fun _ => rfl) (Hv.out.mod hmr (fun _ _ h => h)) hxj
      have hpx := Hp.out x hxm wr hmr
      have Hmr := Lib.hid hmr
      have Hall := Lib.hid hall
      have Hxj := Lib.hid hxj
      have Hxm := Lib.hid hxm
      have Hf := Lib.hid hf
      have Hpx := Lib.hid hpx
      clear hmr hall hxj hxm hf hpx
      have hF2 := HF.out
      go_wp2_with (first | ((with_reducible refine wpList_load_lit 29 (.tmp 14) ?_); refine ⟨g, off + j * 2, rfl, x.cells, Hf.out, by kernel_rfl, by kernel_rfl, ?_⟩) | fail)
      refine Hpx.out.mono ?_
      rintro e w3 ⟨rfl, hm3⟩
      have Hm3 := Lib.hid (Hmr.out.trans hm3 (fun _ _ h => h))
      clear hm3 hF2
      cases hs : p x with
      | false =>
        have Hs := Lib.hid hs
        clear hs
        go_wp2_with fail
        go_roundw
        case rel =>
          refine ⟨j + 1, by go_num, hlt, Hm3.out, fun k x' hk hx' => ?_⟩
          rcases Nat.lt_succ_iff_lt_or_eq.1 hk with hk | rfl
          · exact Hall.out k x' hk hx'
          · rw [Hxj.out] at hx'; cases hx'; exact Hs.out
        case measure => simp [intOf]; omega
      | true =>
        have Hs := Lib.hid hs
        clear hs
        go_wp2
        go_ret
        refine ⟨(j : Int), rfl, ?_, Hm3.out⟩
        rw [← HR.out, List.any_eq_true.2 ⟨x, Hxm.out, Hs.out⟩]
        exact decide_eq_true (by omega)
    · obtain rfl : j = l.length := by omega
      have Hmr := Lib.hid hmr
      have Hall := Lib.hid hall
      clear hmr hall
      go_wp2
      go_ret
      refine ⟨-1, rfl, ?_, Hmr.out⟩
      rw [← HR.out, List.any_eq_false.2 fun x hx => by
        obtain ⟨k, hk⟩ := List.mem_iff_getElem?.1 hx
        rw [Hall.out k x (List.getElem?_eq_some_iff.1 hk).1 hk]
        decide]
      rfl

theorem containsr_at (F : FuncId) (cap : Array Value) (hF : ∀ args w, (callFunc F args).run Tryz.prog w = .ok (.enter F args) w) (p : Fr → Bool) (w : World) (v : Value) (l : List Fr) (hv : RdSl w 2 v l.length (l.flatMap Fr.cells)) (hll : l.length ≤ 9223372036854775807)
    (hp : ∀ c ∈ l, ∀ wx, Mod (fun _ => False) w wx → Calls Tryz.prog F (#[.agg c.cells.toArray] ++ cap) wx fun e w' => e = .returned (.bool (p c)) ∧ Mod (fun _ => False) wx w') :
    Calls Tryz.prog 64 #[v, .func (.func F) #[] cap] w fun e w' => e = .returned (.bool (l.any p)) ∧ Mod (fun _ => False) w w' := by
  have Hi := Lib.hid (indexr_at F cap hF p w v l hv hll hp)
  obtain ⟨R, hR⟩ : ∃ R, l.any p = R := ⟨_, rfl⟩
  rw [hR] at Hi ⊢
  clear hF hv hp hR
  go_enter Tryz.func64, Tryz.ntmps64
  go_wp2_with fail
  refine Hi.out.mono ?_
  rintro e w3 ⟨n, rfl, hn, hm3⟩
  have Hn := Lib.hid hn
  have Hm3 := Lib.hid hm3
  clear hn hm3
  go_wp2
  go_ret
  exact ⟨ret_bool Hn.out.symm, Hm3.out⟩

/-- filter.Match at an event of the law. -/
theorem fm_at (w : World) (f : Fr) (hc : RdSl w 7 (.slice f.a f.cs.length f.c) f.cs.length (cnds f.cs)) (ho : okQ f.fil) (S : ByteArray) (hS : S.size ≤ 52) (av : Value) (E : List Att) (hv : RdSl w 6 av E.length (atts E)) (hE : E.length ≤ 8) (hr : rises E) (hEs : ∀ a ∈ E, a.name.size ≤ 12 ∧ a.v.text.size ≤ 40) :
    Calls Tryz.prog 34 #[.agg #[.string f.sc, .slice f.a f.cs.length f.c], .agg #[.string S, av]] w fun e w' => e = .returned (.bool (rMatF f.fil S E)) ∧ Mod (fun _ => False) w w' := by
  have e : rMatF f.fil S E = filMatch f.sc f.cs S E := by
    unfold rMatF filMatch
    rw [Bool.and_comm]
    have : (fun c => rMatchC c E) = fun c : Cnd => c.matchB E := funext fun c => rmatch_eq hr c
    rw [this]
    rfl
  rw [e]
  have h1 : f.cs.length ≤ 19 := ho.1
  have h2 : f.sc.size ≤ 1000000 := ho.2.2
  exact filter_match w f.sc _ f.cs hc (by omega) (by omega) (fun c hc => by have := (ho.2.1 c hc).v.text; omega) S av E hv (by omega) hr (by omega) (fun a ha => by have := (hEs a ha).2; omega)

theorem want1_at (w : World) (b : Nat) (S : ByteArray) (na : Option Addr) (nc : Nat) (E : List Att) (hb : w.heap[b]? = some (.cells #[.string S, .slice na E.length nc] 32)) (f : Fr) (hc : RdSl w 7 (.slice f.a f.cs.length f.c) f.cs.length (cnds f.cs)) (ho : okQ f.fil) (hS : S.size ≤ 52) (hv : RdSl w 6 (.slice na E.length nc) E.length (atts E)) (hE : E.length ≤ 8) (hr : rises E) (hEs : ∀ a ∈ E, a.name.size ≤ 12 ∧ a.v.text.size ≤ 40) :
    Calls Tryz.prog 65 (#[.agg f.cells.toArray] ++ #[.pointer (some ⟨b, 0, none⟩)]) w fun e w' => e = .returned (.bool (rMatF f.fil S E)) ∧ Mod (fun _ => False) w w' := by
  show Calls Tryz.prog _ #[.agg #[.string f.sc, .slice f.a f.cs.length f.c], .pointer (some ⟨b, 0, none⟩)] w _
  obtain ⟨wa, hwa⟩ : ∃ wa : World, w.alloc (.cells #[.string f.sc, .slice f.a f.cs.length f.c] 29) = wa := ⟨_, rfl⟩
  have hmwa : Mod (fun _ => False) w wa := hwa ▸ (Mod.refl (fun _ => False) w).alloc _
  have hgwa := heap_alloc_new w (.cells #[.string f.sc, .slice f.a f.cs.length f.c] 29)
  rw [hwa] at hgwa
  have hzwa : wa.heap.size = w.heap.size + 1 := by rw [← hwa]; simp
  have hba := hmwa.heap hb (fun h => h)
  have c0 : wa.cell? ⟨w.heap.size, 0, none⟩ = some (.string f.sc) := cell_of hgwa rfl
  have c1 : wa.cell? ⟨w.heap.size, 1, none⟩ = some (.slice f.a f.cs.length f.c) := cell_of hgwa rfl
  have d0 : wa.cell? ⟨b, 0, none⟩ = some (.string S) := cell_of hba rfl
  have d1 : wa.cell? ⟨b, 1, none⟩ = some (.slice na E.length nc) := cell_of hba rfl
  have hfm := fm_at wa f (hc.mod hmwa (fun _ _ h => h)) ho S hS _ E (hv.mod hmwa (fun _ _ h => h)) hE hr hEs
  have Hwa := Lib.hid hwa
  have Hmwa := Lib.hid hmwa
  have Hgwa := Lib.hid hgwa
  have Hfm := Lib.hid hfm
  have Hba := Lib.hid hba
  have Hb := Lib.hid hb
  have Hc := Lib.hid hc
  have Ho := Lib.hid ho
  have Hv := Lib.hid hv
  have Hr := Lib.hid hr
  have HEs := Lib.hid hEs
  clear hwa hmwa hgwa hfm hba hb hc ho hv hr hEs hzwa
  go_enter Tryz.func65, Tryz.ntmps65
  go_wp2_with (first | (rw [show w.alloc _ = wa from Hwa.out]) | fail)
  refine Hfm.out.mono ?_
  rintro e w3 ⟨rfl, hm3⟩
  have hm03 := Hmwa.out.trans hm3 (fun _ _ h => h)
  have Hm3 := Lib.hid hm3
  have Hm03 := Lib.hid hm03
  clear hm3 hm03
  go_wp2
  go_ret
  exact ⟨rfl, Hm03.out⟩
theorem callWant : ∀ (args : Array Value) (W : World), Sem.run Tryz.prog (callFunc 65 args) W = .ok (.enter 65 args) W := fun args w => by simp [go_sem]
theorem allQ_mem {M : List (Int × Fil)} {id : Int} {q : Fil} (h : q ∈ allQ M id) : (id, q) ∈ M := by
  obtain ⟨k, -, h2⟩ := List.mem_filterMap.1 h
  exact (tabF_some h2).1

theorem allQ_len {w : World} {b N : Nat} {own C : Nat → Prop} {M : List (Int × Fil)} (h : Tab w b own C M N) (id : Int) : (allQ M id).length ≤ N := by
  obtain ⟨mo, h⟩ := h
  unfold allQ
  refine Nat.le_trans (List.length_filterMap_le _ _) ?_
  unfold riseS
  rw [List.length_mergeSort]
  exact Nat.le_trans (keysL_len M id) h.low

set_option maxHeartbeats 4000000 in
theorem twants_at (w : World) (b : Nat) (own C : Nat → Prop) (M : List (Int × Fil)) (N : Nat) (h : Tab w b own C M N) (hN : N ≤ 100000) (hok : ∀ p ∈ M, okQ p.2) (id : Int) (hid : (Lit.int .i64 id).wf = true) (S : ByteArray) (na : Option Addr) (nc : Nat) (E : List Att) (hS : S.size ≤ 52) (hv : RdSl w 6 (.slice na E.length nc) E.length (atts E)) (hE : E.length ≤ 8) (hr : rises E) (hEs : ∀ a ∈ E, a.name.size ≤ 12 ∧ a.v.text.size ≤ 40) :
    Calls Tryz.prog 35 #[.pointer (some ⟨b, 0, none⟩), .int .i64 id, .agg #[.string S, .slice na E.length nc]] w fun e w' => e = .returned (.bool ((allQ M id).any fun q => rMatF q S E)) ∧ Mod (fun _ => False) w w' := by
  obtain ⟨wa, hwa⟩ : ∃ wa : World, w.alloc (.cells #[.string S, .slice na E.length nc] 32) = wa := ⟨_, rfl⟩
  have hmwa : Mod (fun _ => False) w wa := hwa ▸ (Mod.refl (fun _ => False) w).alloc _
  have hgwa := heap_alloc_new w (.cells #[.string S, .slice na E.length nc] 32)
  rw [hwa] at hgwa
  have hzwa : wa.heap.size = w.heap.size + 1 := by rw [← hwa]; simp
  have hall := tall_at wa b own C M N (h.mod0 hmwa (fun _ _ h => h)) hN id hid
  have hva := hv.mod hmwa (fun _ _ h => h)
  have hh := h
  have Hwa := Lib.hid hwa
  have Hmwa := Lib.hid hmwa
  have Hgwa := Lib.hid hgwa
  have Hall := Lib.hid hall
  have Hva := Lib.hid hva
  have H := Lib.hid h
  have Hh := Lib.hid hh
  have Hok := Lib.hid hok
  have Hv := Lib.hid hv
  have Hr := Lib.hid hr
  have HEs := Lib.hid hEs
  clear hwa hmwa hgwa hall hva h hh hok hv hr hEs hzwa
  go_enter Tryz.func35, Tryz.ntmps35
  go_wp2_with (first | (rw [show w.alloc _ = wa from Hwa.out]) | fail)
  refine Hall.out.mono ?_
  rintro e w1 ⟨v, l, rfl, hv1, -, hl, hfc, hm1⟩
  have hm01 := Hmwa.out.trans hm1 (fun _ _ h => h)
  have hll : l.length ≤ 9223372036854775807 := by
    have h1 : l.length = (allQ M id).length := by rw [← hl, List.length_map]
    have h2 := allQ_len Hh.out id
    omega
  have hcon := containsr_at 65 #[.pointer (some ⟨w.heap.size, 0, none⟩)] callWant (fun f => rMatF f.fil S E) w1 v l hv1.rd hll (fun f hf wx hwx => by
    have hq : okQ f.fil := Hok.out (id, f.fil) (allQ_mem (by rw [← hl]; exact List.mem_map_of_mem (f := Fr.fil) hf))
    exact want1_at wx w.heap.size S na nc E (hwx.heap (hm1.heap Hgwa.out (fun h => h)) (fun h => h)) f ((hfc f hf).1.rd.mod hwx (fun _ _ h => h)) hq hS (Hva.out.mod (hm1.trans hwx (fun _ _ h => h)) (fun _ _ h => h)) hE Hr.out HEs.out)
  have e2 : (l.any fun f => rMatF f.fil S E) = (allQ M id).any fun q => rMatF q S E := by
    rw [← hl, List.any_map]
    rfl
  rw [e2] at hcon
  have Hcon := Lib.hid hcon
  have Hv1 := Lib.hid hv1
  have Hl := Lib.hid hl
  have Hfc := Lib.hid hfc
  have Hm1 := Lib.hid hm1
  have Hm01 := Lib.hid hm01
  have E2 := Lib.hid e2
  clear hcon hv1 hl hfc hm1 hm01 e2
  go_wp2_with fail
  refine Hcon.out.mono ?_
  rintro e w2 ⟨rfl, hm2⟩
  have hm02 := Hm01.out.trans hm2 (fun _ _ h => h)
  have Hm2 := Lib.hid hm2
  have Hm02 := Lib.hid hm02
  clear hm2 hm02
  go_wp2
  go_ret
  exact ⟨rfl, Hm02.out⟩
end Go.Proofs.YtloplmaekonenaaGreatDoor

namespace Go.Proofs.YtloplmaekonenaaGreatDoor
set_option maxRecDepth 20000
open Go.RowKit Go.Sort

theorem fm_keys {g : List UInt8 → Option Fil} (hk : ∀ k q, g k = some q → keyF q = k) (L : List (List UInt8)) (hs : ∀ k ∈ L, (g k).isSome = true) : (L.filterMap g).map keyF = L := by
  induction L with
  | nil => rfl
  | cons a r ih =>
    have h1 := hs a (List.mem_cons_self ..)
    cases hq : g a with
    | none => rw [hq] at h1; cases h1
    | some q =>
      rw [List.filterMap_cons, hq, List.map_cons, hk a q hq, ih fun k hk => hs k (List.mem_cons_of_mem _ hk)]
theorem allQ_keys (M : List (Int × Fil)) (id : Int) : (allQ M id).map keyF = riseS (keysL M id) :=
  fm_keys (fun k q h => (tabF_some h).2) _ (fun k hk => by rw [riseS_mem] at hk; exact keysL_mem.1 hk)
theorem allQ_count (M : List (Int × Fil)) (id : Int) : (allQ M id).length = (keysL M id).length := by
  have h := congrArg List.length (allQ_keys M id)
  rw [List.length_map] at h
  rw [h]
  unfold riseS
  exact List.length_mergeSort _
theorem allQ_lt {w : World} {b N : Nat} {own C : Nat → Prop} {M : List (Int × Fil)} (h : Tab w b own C M N) (id : Int) : (allQ M id).Pairwise fun a b => keyF a < keyF b := by
  obtain ⟨mo, h⟩ := h
  have h1 := riseS_lt (keysL_nodup h.nd id)
  rw [← allQ_keys, List.pairwise_map] at h1
  exact h1
/-- Each has its like in the map. -/
theorem allQ_ref {R : List (Int × Fr)} {id : Int} {q : Fil} (h : q ∈ allQ (refM R) id) : ∃ g, refF R id (keyF q) = some g ∧ (id, g) ∈ R ∧ q = (g.sc, normC g.cs) := by
  obtain ⟨k, -, h2⟩ := List.mem_filterMap.1 h
  have h3 := (tabF_some h2).2
  rw [refM_F] at h2
  cases hg : refF R id k with
  | none => rw [hg] at h2; cases h2
  | some g =>
    rw [hg] at h2
    exact ⟨g, by rw [h3]; exact hg, (refF_some hg).1, (Option.some.inj h2).symm⟩
/-- The map of a place has as many as All gives. -/
theorem rin_len {w w2 : World} {b N : Nat} {own C : Nat → Prop} {R : List (Int × Fr)} (h : Tab w b own C (refM R) N) {id : Int} {n mi : Nat} {f : Lit → Option Value} (hm : MapR w2 9 mi n f) (hf : ∀ k, f (.string k) = (refF R id k).map Fr.val) : n = (allQ (refM R) id).length := by
  obtain ⟨mo, h⟩ := h
  rw [allQ_count]
  refine hm.count keyed_s Tryz.underlying9 (keysL_nodup h.nd id) (fun k => ?_)
  rw [keysL_mem, refM_F, hf]
  cases refF R id k <;> exact Iff.rfl
theorem allQ_none {R : List (Int × Fr)} {id : Int} (h : ∀ k, refF R id k = none) : allQ (refM R) id = [] := by
  refine List.eq_nil_iff_forall_not_mem.2 fun q hq => ?_
  obtain ⟨g, h1, -⟩ := allQ_ref hq
  rw [h] at h1
  cases h1
/-- Matching does not hang on the form. -/
theorem ref_mat {w0 : World} {R : List (Int × Fr)} (hok : RefOk w0 R) {id : Int} {g : Fr} (h : (id, g) ∈ R) (S : ByteArray) (E : List Att) : rMatF (g.sc, normC g.cs) S E = rMatF g.fil S E := by
  have h1 := hok _ h
  exact normC_mat (fun c hc => by
    have h2 := (fil_bounds h1.2.1).2.2 c hc
    exact ⟨h2.2.1, h2.2.2.1, (h1.1.nm c hc).2.2⟩) S E
theorem refM_okQ {w0 : World} {R : List (Int × Fr)} (hok : RefOk w0 R) : ∀ p ∈ refM R, okQ p.2 := fun p hp => by
  obtain ⟨a, ha, rfl⟩ := List.mem_map.1 hp
  have h1 := hok _ ha
  have hb := fil_bounds h1.2.1
  refine ⟨Nat.le_trans (normC_len _) (by omega), normC_fits fun c hc => ⟨⟨(h1.1.nm c hc).2.1, (h1.1.nm c hc).2.2, by have := (hb.2.2 c hc).2.2.2; omega⟩, by have := (hb.2.2 c hc).1; omega⟩, by have := hb.1; show a.2.sc.size ≤ 1000000; omega⟩
end Go.Proofs.YtloplmaekonenaaGreatDoor
