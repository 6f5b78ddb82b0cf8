/-
  gazettelaw14.fit.
  The plain law of a run: an index beside the map that it should be.
  The last step of every law: new blocks alone, true, the arguments as they were.
  An argument that is a rule, opened.
-/
import Derived.Test.YtloplmaekonenaaGreatDoorZg36
import Derived.Test.YtloplmaekonenaaGreatDoorZg34
import Derived.Test.YtloplmaekonenaaGreatDoorZg31
import Derived.Test.YtloplmaekonenaaGreatDoorRows
import Derived.WalkKit
import Derived.ProofKit
import Derived.OpenShut
import Derived.Carry
import Derived.Test.YtloplmaekonenaaGreatDoorZg18
import Derived.Deep.Grids
import Derived.Lib.SmallJoins
namespace Go.Proofs.YtloplmaekonenaaGreatDoor
set_option maxRecDepth 20000
open Go.RowKit

instance decV : DecidableEq V := fun a b => decidable_of_iff (a.kind = b.kind ∧ a.int = b.int ∧ a.num = b.num ∧ a.text = b.text ∧ a.yes = b.yes) ⟨fun h => by cases a; cases b; simp_all, fun h => by cases h; simp⟩
instance decC : DecidableEq Cnd := fun a b => decidable_of_iff (a.name = b.name ∧ a.op = b.op ∧ a.v = b.v) ⟨fun h => by cases a; cases b; simp_all, fun h => by cases h; simp⟩
def cX (n : Int) : Cnd := ⟨⟨#[120]⟩, 4, ⟨0, n, 0, ⟨#[]⟩, false⟩⟩
def fitM : List (Int × Fil) := [(1, (⟨#[]⟩, [cX 3])), (2, (⟨#[]⟩, [cX 5]))]
theorem fit14_n3 : normC [cX 3] = [cX 3] := by decide +kernel
theorem fit14_n5 : normC [cX 5] = [cX 5] := by decide +kernel
theorem riseS_of {L : List (List UInt8)} (h : L.Pairwise fun a b => leB a b = true) : riseS L = L := List.mergeSort_of_pairwise h
theorem fit14_k0 : allK fitM 0 = [keyF (⟨#[]⟩, [cX 3]), keyF (⟨#[]⟩, [cX 5])] := by
  unfold allK
  rw [show onceS ((fitM.filter fun p => !(p.1 == 0)).map fun p => keyF p.2) = [keyF (⟨#[]⟩, [cX 3]), keyF (⟨#[]⟩, [cX 5])] by decide +kernel]
  exact riseS_of (by decide +kernel)
theorem fit14_o0 : outL fitM 0 = [(⟨#[]⟩, [cX 3])] := by
  unfold outL
  rw [fit14_k0]
  decide +kernel
theorem fit14_k1 : allK fitM 1 = [keyF (⟨#[]⟩, [cX 5])] := by
  unfold allK
  rw [show onceS ((fitM.filter fun p => !(p.1 == 1)).map fun p => keyF p.2) = [keyF (⟨#[]⟩, [cX 5])] by decide +kernel]
  exact riseS_of (by decide +kernel)
theorem fit14_o1 : (outL fitM 1).length = 1 := by
  unfold outL
  rw [fit14_k1]
  decide +kernel
theorem fit14_t1 : tabF [(1, (⟨#[]⟩, [cX 3]))] 2 (keyF (⟨#[]⟩, [cX 5])) = none := by decide +kernel
theorem fit14_inj : ∀ p ∈ fitM, ∀ q ∈ fitM, keyF p.2 = keyF q.2 → p.2 = q.2 := by decide +kernel
theorem fit14_p : keyF (⟨#[]⟩, [cX 3]) = [58, 32, 120, 32, 62, 32, 51] := by decide +kernel
theorem cX_fits {n : Int} (h : 0 ≤ n ∧ n ≤ 5) : ∀ c ∈ [cX n], c.fits := fun c hc => by
  obtain rfl : c = cX n := by simpa using hc
  exact ⟨⟨⟨show (-9223372036854775808 : Int) ≤ n by omega, show n ≤ (9223372036854775807 : Int) by omega⟩, (by decide : (0 : Nat) < 2 ^ 64), (by decide : (0 : Nat) ≤ 1000000)⟩, (by decide : (1 : Nat) ≤ 1000000)⟩
/-- What the literal gives. -/
def FitX (w : World) (n : Int) (e : Ending) (w' : World) : Prop := ∃ v, e = .returned (.agg #[.string ⟨#[]⟩, v]) ∧ RdSl w' 7 v 1 (cnds [cX n]) ∧ Mod (fun _ => False) w w'
set_option maxHeartbeats 4000000 in
theorem fitx_at (w : World) (n : Int) : Calls Tryz.prog 54 #[.int .i64 n] w (FitX w n) := by
  obtain ⟨wa, hwa⟩ : ∃ wa : World, w.alloc (.cells #[.string ⟨#[]⟩, .slice none 0 0] 29) = wa := ⟨_, rfl⟩
  have hmwa : Mod (fun _ => False) w wa := hwa ▸ (Mod.refl (fun _ => False) w).alloc _
  have hgwa := heap_alloc_new w (.cells #[.string ⟨#[]⟩, .slice none 0 0] 29)
  rw [hwa] at hgwa
  have hzwa : wa.heap.size = w.heap.size + 1 := by rw [← hwa]; simp
  obtain ⟨wb, hwb⟩ : ∃ wb : World, wa.alloc (.cells (cX n).cells.toArray 81) = wb := ⟨_, rfl⟩
  have hmwb : Mod (fun _ => False) wa wb := hwb ▸ (Mod.refl (fun _ => False) wa).alloc _
  have hgwb := heap_alloc_new wa (.cells (cX n).cells.toArray 81)
  rw [hwb] at hgwb
  have hzwb : wb.heap.size = wa.heap.size + 1 := by rw [← hwb]; simp
  have hrz : RdSl wb 7 (.slice (some ⟨wa.heap.size, 0, none⟩) 1 1) 1 (cX n).cells := hwb ▸ RdSl.one wa (cX n).cells 81 rfl
  have hgab := hmwb.heap hgwa (fun h => h)
  have Hwa := Lib.hid hwa
  have Hmwa := Lib.hid hmwa
  have Hgwa := Lib.hid hgwa
  have Hwb := Lib.hid hwb
  have Hmwb := Lib.hid hmwb
  have Hgwb := Lib.hid hgwb
  have Hrz := Lib.hid hrz
  have Hgab := Lib.hid hgab
  clear hwa hmwa hgwa hwb hmwb hgwb hrz hgab hzwa hzwb
  go_enter Tryz.func54, Tryz.ntmps54
  go_wp2_with (first | (rw [show w.alloc _ = wa from Hwa.out]) | ((with_reducible refine wpList_build_one_lit 27 (.tmp 5) ?_); refine ⟨81, 7, Tryz.underlying27, by kernel_rfl, by kernel_rfl, by decide, by decide, (cX n).cells, rfl, rfl, ?_⟩; rw [Hwb.out]) | ((with_reducible refine wpList_store_row_lit 29 (.tmp 2) (.tmp 7) ?_); refine ⟨w.heap.size, rfl, _, _, Hgab.out, [.string ⟨#[]⟩, .slice (some ⟨wa.heap.size, 0, none⟩) 1 1], rfl, rfl, by kernel_rfl, rfl, ?_⟩; intro w4 h4 hm4; have f0 : w4.cell? ⟨w.heap.size, 0, none⟩ = some (.string ⟨#[]⟩) := cell_of h4 rfl; have f1 : w4.cell? ⟨w.heap.size, 1, none⟩ = some (.slice (some ⟨wa.heap.size, 0, none⟩) 1 1) := cell_of h4 rfl; have H4 := Lib.hid h4; have Hm4 := Lib.hid hm4; clear h4 hm4) | fail)
  have hm24 : Mod (fun _ => False) w w4 := ((Hmwa.out.trans Hmwb.out (fun _ _ h => h)).upon Hm4.out (fun k hk => .inr (Nat.le_of_eq (Eq.symm hk))))
  have hr4 : RdSl w4 7 (.slice (some ⟨wa.heap.size, 0, none⟩) 1 1) 1 (cX n).cells := Hrz.out.mod Hm4.out (fun k hk h => by
    have h1 : k = w.heap.size := h
    have h2 : wa.heap.size = k := Option.some.inj hk
    have h3 := (Array.getElem?_eq_some_iff.1 Hgwa.out).1
    omega)
  have Hm24 := Lib.hid hm24
  have Hr4 := Lib.hid hr4
  clear hm24 hr4
  refine bodyPost_cell rfl w.heap.size rfl [.string ⟨#[]⟩, .slice (some ⟨wa.heap.size, 0, none⟩) 1 1] (CellsAt.row H4.out) (by kernel_rfl) (by kernel_rfl) rfl ⟨_, rfl, Hr4.out, Hm24.out⟩

theorem one_of {l : List Fr} {q : Fil} (h : l.map Fr.fil = [q]) : ∃ fr, l = [fr] ∧ fr.fil = q := by
  cases l with
  | nil => cases h
  | cons a l =>
    cases l with
    | nil => exact ⟨a, rfl, by simpa using h⟩
    | cons b l => simp at h
set_option maxHeartbeats 8000000 in
theorem fit14_at (w0 w : World) (hl : Laid w0 w) : Calls Tryz.prog 23 #[] w fun e w' => e = .returned (.bool true) ∧ Mod (fun _ => False) w w' := by
  have hnew := tnew_at w
  have Hl := Lib.hid hl
  have Hnew := Lib.hid hnew
  clear hl hnew
  go_enter Tryz.func23, Tryz.ntmps23
  go_wp2_with fail
  refine Hnew.out.mono ?_
  rintro e w1 ⟨b, own, rfl, ht, hown, hm1⟩
  have hx1 := fitx_at w1 3
  have Ht := Lib.hid ht
  have Hown := Lib.hid hown
  have Hm1 := Lib.hid hm1
  have Hx1 := Lib.hid hx1
  clear ht hown hm1 hx1
  go_wp2_with fail
  refine Hx1.out.mono ?_
  rintro e w2 ⟨v2, rfl, hr2, hm2⟩
  have hm02 := Hm1.out.trans hm2 (fun _ _ h => h)
  have hadd := tadd_at w0 w2 (Hl.out.mod0 hm02) b own _ [] 0 (Ht.out.mod0 hm2 (fun _ _ h => h)) (by decide) (fun k hk => Nat.le_trans Hl.out.size (Hown.out k hk)) 1 (by decide) ⟨#[]⟩ v2 [cX 3] hr2 (by decide) (cX_fits (by decide)) (by decide)
  have Hr2 := Lib.hid hr2
  have Hm2 := Lib.hid hm2
  have Hm02 := Lib.hid hm02
  have Hadd := Lib.hid hadd
  clear hr2 hm2 hm02 hadd
  go_wp2_with fail
  refine Hadd.out.mono ?_
  rintro e w3 (⟨h, -⟩ | ⟨-, rfl, own3, C3, ht3, ho1, ho2, ho3, hm3⟩)
  · exact absurd rfl h
  rw [fit14_n3] at ht3
  have hm03 : Mod (fun _ => False) w w3 := Hm02.out.upon hm3 (fun k hk => .inr (Hown.out k hk))
  have hown3 : ∀ k, own3 k → w.heap.size ≤ k := fun k hk => (ho2 k hk).elim (Hown.out k) (fun h => Nat.le_trans Hm02.out.size h)
  have hx2 := fitx_at w3 5
  have Ht3 := Lib.hid ht3
  have Ho1 := Lib.hid ho1
  have Ho2 := Lib.hid ho2
  have Ho3 := Lib.hid ho3
  have Hm3 := Lib.hid hm3
  have Hm03 := Lib.hid hm03
  have Hown3 := Lib.hid hown3
  have Hx2 := Lib.hid hx2
  clear ht3 ho1 ho2 ho3 hm3 hm03 hown3 hx2
  go_wp2_with fail
  refine Hx2.out.mono ?_
  rintro e w4 ⟨v4, rfl, hr4, hm4⟩
  have hm04 := Hm03.out.trans hm4 (fun _ _ h => h)
  have hadd2 := tadd_at w0 w4 (Hl.out.mod0 hm04) b own3 C3 _ 1 (Ht3.out.mod0 hm4 (fun _ _ h => h)) (by decide) (fun k hk => Nat.le_trans Hl.out.size (Hown3.out k hk)) 2 (by decide) ⟨#[]⟩ v4 [cX 5] hr4 (by decide) (cX_fits (by decide)) (by decide)
  have Hr4 := Lib.hid hr4
  have Hm4 := Lib.hid hm4
  have Hm04 := Lib.hid hm04
  have Hadd2 := Lib.hid hadd2
  clear hr4 hm4 hm04 hadd2
  go_wp2_with fail
  refine Hadd2.out.mono ?_
  rintro e w5 (⟨h, -⟩ | ⟨-, rfl, own5, C5, ht5, ho1, ho2, ho3, hm5⟩)
  · exact absurd (by rw [fit14_n5]; exact fit14_t1) h
  rw [fit14_n5] at ht5
  have ht5' : Tab w5 b own5 C5 fitM 2 := ht5
  have hm05 : Mod (fun _ => False) w w5 := Hm04.out.upon hm5 (fun k hk => .inr (Hown3.out k hk))
  have hout := tout_at w5 b own5 C5 fitM 2 ht5' (by decide) fit14_inj 0 (by decide)
  rw [fit14_o0] at hout
  have Ht5 := Lib.hid ht5
  have Ht5' := Lib.hid ht5'
  have Ho1 := Lib.hid ho1
  have Ho2 := Lib.hid ho2
  have Ho3 := Lib.hid ho3
  have Hm5 := Lib.hid hm5
  have Hm05 := Lib.hid hm05
  have Hout := Lib.hid hout
  clear ht5 ht5' ho1 ho2 ho3 hm5 hm05 hout
  go_wp2_with fail
  refine Hout.out.mono ?_
  rintro e w6 ⟨v6, l6, rfl, hv6, hb6, hl6, hf6, hm6⟩
  obtain ⟨fr, rfl, hfr⟩ := one_of hl6
  obtain ⟨sc, fa, fc, cs⟩ := fr
  obtain ⟨rfl, rfl⟩ : sc = ⟨#[]⟩ ∧ cs = [cX 3] := ⟨congrArg Prod.fst hfr, congrArg Prod.snd hfr⟩
  obtain ⟨a6, c6, rfl, -⟩ := hv6.shape
  obtain ⟨g6, o6, rfl, hc6⟩ := rd_el (f := Fr.cells) (sz := 2) (fun _ => rfl) hv6.rd (j := 0) (x := ⟨⟨#[]⟩, fa, fc, [cX 3]⟩) rfl
  have hrf := (hf6 _ (List.mem_singleton.2 rfl)).1.rd
  have hm06 := Hm05.out.trans hm6 (fun _ _ h => h)
  have hpr := fprint_at w0 w6 (Hl.out.mod0 hm06) ⟨#[]⟩ (.slice fa 1 fc) [cX 3] hrf (by decide) (by decide) (cX_fits (by decide))
  rw [show filPrt ⟨#[]⟩ [cX 3] = [58, 32, 120, 32, 62, 32, 51] from fit14_p, show str [58, 32, 120, 32, 62, 32, 51] = ⟨#[58, 32, 120, 32, 62, 32, 51]⟩ from rfl] at hpr
  have c0 : w6.cell? ⟨g6, o6, none⟩ = some (.string ⟨#[]⟩) := by have := hc6 0 _ rfl; simpa using this
  have c1 : w6.cell? ⟨g6, o6 + 1, none⟩ = some (.slice fa 1 fc) := by have := hc6 1 _ rfl; simpa using this
  have Hv6 := Lib.hid hv6
  have Hb6 := Lib.hid hb6
  have Hl6 := Lib.hid hl6
  have Hf6 := Lib.hid hf6
  have Hm6 := Lib.hid hm6
  have Hrf := Lib.hid hrf
  have Hm06 := Lib.hid hm06
  have Hpr := Lib.hid hpr
  have Hc6 := Lib.hid hc6
  have Hfr := Lib.hid hfr
  clear hv6 hb6 hl6 hf6 hm6 hrf hm06 hpr hc6 hfr
  go_wp2_with fail
  refine Hpr.out.mono ?_
  rintro e w7 ⟨rfl, hm7⟩
  have hm07 := Hm06.out.trans hm7 (fun _ _ h => h)
  have hout2 := tout_at w7 b own5 C5 fitM 2 (Ht5'.out.mod0 (Hm6.out.trans hm7 (fun _ _ h => h)) (fun _ _ h => h)) (by decide) fit14_inj 1 (by decide)
  have Hm7 := Lib.hid hm7
  have Hm07 := Lib.hid hm07
  have Hout2 := Lib.hid hout2
  clear hm7 hm07 hout2
  go_wp2_with fail
  refine Hout2.out.mono ?_
  rintro e w8 ⟨v8, l8, rfl, hv8, -, hl8, -, hm8⟩
  have hm08 := Hm07.out.trans hm8 (fun _ _ h => h)
  have hll : l8.length = 1 := by
    have h1 := congrArg List.length hl8
    rw [List.length_map, fit14_o1] at h1
    exact h1
  obtain ⟨a8, c8, rfl, -⟩ := hv8.shape
  rw [hll]
  have Hv8 := Lib.hid hv8
  have Hl8 := Lib.hid hl8
  have Hm8 := Lib.hid hm8
  have Hm08 := Lib.hid hm08
  have Hll := Lib.hid hll
  clear hv8 hl8 hm8 hm08 hll
  go_wp2_with fail
  go_ret
  exact ⟨rfl, Hm08.out⟩
end Go.Proofs.YtloplmaekonenaaGreatDoor

namespace Go.Proofs.YtloplmaekonenaaGreatDoor
set_option maxRecDepth 20000
open Go.RowKit

/-- What a list has under a number. -/
def asF {α : Type} (M : List (Int × α)) (id : Int) : Option α := (M.find? fun p => p.1 == id).map Prod.snd
/-- Without a number. -/
def asD {α : Type} (M : List (Int × α)) (id : Int) : List (Int × α) := M.filter fun p => !(p.1 == id)
theorem asF_some {α : Type} {M : List (Int × α)} {id : Int} {q : α} (h : asF M id = some q) : (id, q) ∈ M := by
  unfold asF at h
  obtain ⟨p, h1, rfl⟩ := Option.map_eq_some_iff.1 h
  have h2 := List.find?_some h1
  simp only [beq_iff_eq] at h2
  subst h2
  exact List.mem_of_find?_eq_some h1
theorem asF_none {α : Type} {M : List (Int × α)} {id : Int} (h : asF M id = none) : id ∉ M.map Prod.fst := fun hm => by
  obtain ⟨p, hp, rfl⟩ := List.mem_map.1 hm
  unfold asF at h
  rw [Option.map_eq_none_iff, List.find?_eq_none] at h
  simpa using h p hp
theorem asF_new {α : Type} {M : List (Int × α)} {id : Int} {q : α} (h : asF M id = none) (x : Int) : asF (M ++ [(id, q)]) x = if x = id then some q else asF M x := by
  unfold asF at h ⊢
  rw [List.find?_append]
  by_cases e : x = id
  · subst e
    rw [Option.map_eq_none_iff] at h
    rw [h, if_pos rfl]
    simp
  · rw [if_neg e]
    have : (id == x) = false := by rw [beq_eq_false_iff_ne]; exact fun h => e h.symm
    cases M.find? fun p => p.1 == x <;> simp [this]
theorem asF_del {α : Type} (M : List (Int × α)) (id x : Int) : asF (asD M id) x = if x = id then none else asF M x := by
  unfold asF asD
  rw [List.find?_filter]
  by_cases e : x = id
  · subst e
    rw [if_pos rfl, Option.map_eq_none_iff, List.find?_eq_none]
    intro p _
    cases (p.1 == x) <;> simp
  · rw [if_neg e]
    congr 2
    funext p
    by_cases h : p.1 = x
    · have : (p.1 == id) = false := by rw [beq_eq_false_iff_ne]; exact fun h2 => e (h.symm.trans h2)
      rw [this]
      cases (p.1 == x) <;> rfl
    · have : (p.1 == x) = false := by rw [beq_eq_false_iff_ne]; exact h
      rw [this]
      cases (!(p.1 == id)) <;> rfl
theorem asD_fst {α : Type} (M : List (Int × α)) (id : Int) : (asD M id).map Prod.fst = (M.map Prod.fst).filter fun x => !(x == id) := by
  unfold asD
  rw [List.filter_map]
  rfl
theorem asD_nodup {α : Type} {M : List (Int × α)} (h : (M.map Prod.fst).Nodup) (id : Int) : ((asD M id).map Prod.fst).Nodup := by
  rw [asD_fst]
  exact h.filter _
theorem as_nodup {α : Type} {M : List (Int × α)} (h : (M.map Prod.fst).Nodup) {id : Int} {q : α} (hq : asF M id = none) : ((M ++ [(id, q)]).map Prod.fst).Nodup := by
  rw [List.map_append, List.nodup_append]
  refine ⟨h, by simp, fun a ha b hb e => ?_⟩
  obtain rfl : b = id := by simpa using hb
  subst e
  exact asF_none hq ha
theorem asD_len {α : Type} {M : List (Int × α)} (h : (M.map Prod.fst).Nodup) {id : Int} (hq : asF M id ≠ none) : (asD M id).length + 1 = M.length := by
  have h1 : ∀ (l : List Int), l.Nodup → id ∈ l → (l.filter fun x => !(x == id)).length + 1 = l.length := fun l => by
    induction l with
    | nil => intro _ h; cases h
    | cons a l ih =>
      intro hn hm
      rw [List.nodup_cons] at hn
      rw [List.filter_cons]
      by_cases e : a = id
      · subst e
        have h2 : l.filter (fun x => !(x == a)) = l := List.filter_eq_self.2 fun x hx => by
          have : x ≠ a := fun e => hn.1 (e ▸ hx)
          simp [this]
        simp [h2]
      · have h3 : id ∈ l := (List.mem_cons.1 hm).resolve_left fun h => e h.symm
        have : (!(a == id)) = true := by simp [e]
        rw [if_pos this, List.length_cons, List.length_cons, ih hn.2 h3]
  have h2 : id ∈ M.map Prod.fst := by
    cases hf : asF M id with
    | none => exact absurd hf hq
    | some q => exact List.mem_map_of_mem (f := Prod.fst) (asF_some hf)
  have h3 := h1 _ h h2
  rw [← asD_fst, List.length_map, List.length_map] at h3
  exact h3
/-- The index of what the map has. -/
def runI (M : List (Int × Fr)) : List (Int × Fil) := M.map fun p => (p.1, (p.2.sc, normC p.2.cs))
theorem runI_F (M : List (Int × Fr)) (id : Int) : idxF (runI M) id = (asF M id).map fun x => (x.sc, normC x.cs) := by
  unfold idxF runI asF
  rw [List.find?_map, Option.map_map, Option.map_map]
  rfl
theorem runI_put (M : List (Int × Fr)) (id : Int) (x : Fr) : runI (M ++ [(id, x)]) = runI M ++ [(id, (x.sc, normC x.cs))] := by
  unfold runI
  rw [List.map_append]
  rfl
end Go.Proofs.YtloplmaekonenaaGreatDoor

namespace Go.Proofs.YtloplmaekonenaaGreatDoor
set_option maxRecDepth 20000
open Go.ChangeShapes Go.WideShapes Go.ChangeAt Go.RowKit

theorem own_knob : ownKnob Tryz.prog.godebug = none := by kernel_rfl

theorem laidOut : laidOutB Tryz.prog = true := by kernel_rfl

/-- All arguments read as they did, where nothing that was there has been written. -/
theorem trodAll_same {H : Type} {enc : TypeId × Value → H} {P : Program} (hl : laidOutB P = true) {W W' : World} (hb : Below W.heap.size W W') : ∀ {ts : List TypeId} {vs : List Value} {ds : List (DataW H)} {ps : List MemPlace}
    (_ : ts.all (fun t => P.readableRec t && decide (t < P.types.size)) = true) (_ : DataW.TrodAll enc P W 0 (fun _ => true) true ts vs ds ps) (_ : ∀ x ∈ ps, x.block < W.heap.size), DataW.TrodAll enc P W' 0 (fun b => decide (b < W.heap.size)) true ts vs ds ps
  | [], vs, ds, ps, _, h, _ => by
    obtain ⟨rfl, rfl, rfl⟩ := trodAll_nil h
    exact trodAll_mk0
  | t :: ts, vs, ds, ps, hr, h, hlt => by
    obtain ⟨v, vs', d, ds', p, q, rfl, rfl, rfl, h1, h2⟩ := trodAll_cons h
    simp only [List.all_cons, Bool.and_eq_true, decide_eq_true_eq] at hr
    exact trodAll_cons_mk (Below.trod hl hr.1.1 hr.1.2 h1 hb (fun x hx => hlt x (List.mem_append_left _ hx))) (trodAll_same hl hb hr.2 h2 (fun x hx => hlt x (List.mem_append_right _ hx)))

/-- The post of a law that returns true, where nothing that was there has been written. -/
theorem post_same {H : Type} {enc : TypeId × Value → H} {f : Func} {s : ChangeSpec} {apart fresh handsOn : Bool} {W W' : World} {args : Array Value} {v : Value} {ds gs : List (DataW H)} {before : List MemPlace}
    (hW : DataW.Whole enc Tryz.prog f.params.toList s.vars apart W args.toList ds gs before)
    (hA : DataW.TrodAll enc Tryz.prog W 0 (fun _ => true) true f.params.toList args.toList ds before)
    (hr : f.params.toList.all (fun t => Tryz.prog.readableRec t && decide (t < Tryz.prog.types.size)) = true) (hds : (s.fn H (ds ++ gs)).args = ds)
    (hres : ∀ (b : Nat) (sp : Nat → Bool) (hd : Bool), DataW.TrodAll enc Tryz.prog W' b sp hd f.resultTypes.toList (v.resultList f.resultTypes.size) (s.fn H (ds ++ gs)).results [])
    (hvars : ∀ sp : Nat → Bool, DataW.TrodVars enc Tryz.prog W' sp s.vars (s.fn H (ds ++ gs)).vars [])
    (hb : Below W.heap.size W W') : s.post enc Tryz.prog f apart fresh handsOn false W args v W' := by
  have hold : ∀ p ∈ before, p.block < W.heap.size := fun p hp => by simpa using hW.lt p hp
  have hargs := trodAll_same laidOut hb hr hA hold
  refine ⟨ds, gs, before, [], before, [], hW, hres _ _ _, ?_, hvars _, World.keptBut_mono (fun p hp => ⟨hp, by simpa using hp⟩) (hb.frame (· ∈ before)), fun h => by cases h⟩
  rw [hds]
  exact hargs
end Go.Proofs.YtloplmaekonenaaGreatDoor

namespace Go.Proofs.YtloplmaekonenaaGreatDoor
set_option maxRecDepth 20000
open Go.ChangeShapes Go.WideShapes Go.ChangeAt Go.RowKit

theorem trod_f64 {H : Type} {enc : TypeId × Value → H} {W : World} {base : Nat} {spare : Nat → Bool} {held : Bool} {fuel : Nat} {t : TypeId} {cs : List Value} {x : DataW H × List MemPlace} (ht : Tryz.prog.underlying t = some (.float .f64))
    (h : DataW.trod enc Tryz.prog W base spare held fuel t cs = some x) : ∃ b, cs = [.float .f64 b] ∧ b < 2 ^ 64 := by
  cases fuel with
  | zero => simp [DataW.trod] at h
  | succ n =>
    unfold DataW.trod at h
    rw [ht] at h
    split at h
    all_goals first
      | (simp_all; done)
      | (rename_i k k' b heq
         simp only [Option.some.injEq, TypeDesc.float.injEq] at heq
         subst heq
         split at h
         · rename_i hc
           obtain ⟨rfl, hw⟩ := hc
           simp only [Lit.wf, decide_eq_true_eq] at hw
           exact ⟨_, rfl, hw⟩
         · cases h)

theorem open_valt {H : Type} {enc : TypeId × Value → H} {W : World} {base : Nat} {spare : Nat → Bool} {held : Bool} {fuel : Nat} {cs : List Value} {x : DataW H × List MemPlace}
    (h : DataW.trod enc Tryz.prog W base spare held fuel 79 cs = some x) : ∃ v : V, cs = v.cells ∧ (-9223372036854775808 ≤ v.int ∧ v.int ≤ 9223372036854775807) ∧ v.num < 2 ^ 64 ∧ v.text.size ≤ maxLen := by
  obtain ⟨xs, n1, -, -, hlen, hxs, hf⟩ := DataW.trod_struct Tryz.underlying79 h
  rw [show Tryz.prog.cellsOf 79 = 5 by kernel_rfl] at hlen
  have hx : ∀ i, i < 5 → ∃ y, xs[i]? = some y := fun i hi => by
    simp at hxs
    exact ⟨_, List.getElem?_eq_getElem (by omega)⟩
  match cs, hlen with
  | [c0, c1, c2, c3, c4], _ =>
    obtain ⟨y0, h0⟩ := hx 0 (by omega)
    obtain ⟨y1, h1⟩ := hx 1 (by omega)
    obtain ⟨y2, h2⟩ := hx 2 (by omega)
    obtain ⟨y3, h3⟩ := hx 3 (by omega)
    obtain ⟨y4, h4⟩ := hx 4 (by omega)
    have f0 : DataW.trod enc Tryz.prog W base spare held n1 3 (([c0, c1, c2, c3, c4].drop 0).take (Tryz.prog.cellsOf 3)) = xs[0]? := hf 0 _ rfl
    have f1 : DataW.trod enc Tryz.prog W base spare held n1 2 (([c0, c1, c2, c3, c4].drop 1).take (Tryz.prog.cellsOf 2)) = xs[1]? := hf 1 _ rfl
    have f2 : DataW.trod enc Tryz.prog W base spare held n1 77 (([c0, c1, c2, c3, c4].drop 2).take (Tryz.prog.cellsOf 77)) = xs[2]? := hf 2 _ rfl
    have f3 : DataW.trod enc Tryz.prog W base spare held n1 9 (([c0, c1, c2, c3, c4].drop 3).take (Tryz.prog.cellsOf 9)) = xs[3]? := hf 3 _ rfl
    have f4 : DataW.trod enc Tryz.prog W base spare held n1 4 (([c0, c1, c2, c3, c4].drop 4).take (Tryz.prog.cellsOf 4)) = xs[4]? := hf 4 _ rfl
    rw [h0] at f0
    rw [h1] at f1
    rw [h2] at f2
    rw [h3] at f3
    rw [h4] at f4
    rw [show Tryz.prog.cellsOf 3 = 1 by kernel_rfl] at f0
    rw [show Tryz.prog.cellsOf 2 = 1 by kernel_rfl] at f1
    rw [show Tryz.prog.cellsOf 77 = 1 by kernel_rfl] at f2
    rw [show Tryz.prog.cellsOf 9 = 1 by kernel_rfl] at f3
    rw [show Tryz.prog.cellsOf 4 = 1 by kernel_rfl] at f4
    obtain ⟨z0, e0, -⟩ := DataW.trod_int Tryz.underlying3 f0
    obtain ⟨z1, e1, -, w1⟩ := DataW.trod_int Tryz.underlying2 f1
    obtain ⟨z2, e2, w2⟩ := trod_f64 Tryz.underlying77 f2
    obtain ⟨z3, e3, -, w3⟩ := DataW.trod_string Tryz.underlying9 f3
    obtain ⟨z4, e4, -⟩ := DataW.trod_bool Tryz.underlying4 f4
    have e0 : [c0] = [.int .i64 z0] := e0
    have e1 : [c1] = [.int .i64 z1] := e1
    have e2 : [c2] = [.float .f64 z2] := e2
    have e3 : [c3] = [.string z3] := e3
    have e4 : [c4] = [.bool z4] := e4
    cases e0
    cases e1
    cases e2
    cases e3
    cases e4
    simp only [Lit.wf, Bool.and_eq_true, decide_eq_true_eq] at w1
    exact ⟨⟨z0, z1, z2, z3, z4⟩, rfl, ⟨w1.1, w1.2⟩, w2, w3⟩

theorem open_cnd {H : Type} {enc : TypeId × Value → H} {W : World} {base : Nat} {spare : Nat → Bool} {held : Bool} {fuel : Nat} {cs : List Value} {x : DataW H × List MemPlace}
    (h : DataW.trod enc Tryz.prog W base spare held fuel 81 cs = some x) : ∃ c : Cnd, cs = c.cells ∧ c.name.size ≤ maxLen ∧ c.v.text.size ≤ maxLen ∧ (-9223372036854775808 ≤ c.v.int ∧ c.v.int ≤ 9223372036854775807) ∧ c.v.num < 2 ^ 64 := by
  obtain ⟨xs, n1, -, -, hlen, hxs, hf⟩ := DataW.trod_struct Tryz.underlying81 h
  rw [show Tryz.prog.cellsOf 81 = 7 by kernel_rfl] at hlen
  have hx : ∀ i, i < 3 → ∃ y, xs[i]? = some y := fun i hi => by
    simp at hxs
    exact ⟨_, List.getElem?_eq_getElem (by omega)⟩
  match cs, hlen with
  | [c0, c1, c2, c3, c4, c5, c6], _ =>
    obtain ⟨y0, h0⟩ := hx 0 (by omega)
    obtain ⟨y1, h1⟩ := hx 1 (by omega)
    obtain ⟨y2, h2⟩ := hx 2 (by omega)
    have f0 : DataW.trod enc Tryz.prog W base spare held n1 9 (([c0, c1, c2, c3, c4, c5, c6].drop 0).take (Tryz.prog.cellsOf 9)) = xs[0]? := hf 0 _ rfl
    have f1 : DataW.trod enc Tryz.prog W base spare held n1 3 (([c0, c1, c2, c3, c4, c5, c6].drop 1).take (Tryz.prog.cellsOf 3)) = xs[1]? := hf 1 _ rfl
    have f2 : DataW.trod enc Tryz.prog W base spare held n1 79 (([c0, c1, c2, c3, c4, c5, c6].drop 2).take (Tryz.prog.cellsOf 79)) = xs[2]? := hf 2 _ rfl
    rw [h0, show Tryz.prog.cellsOf 9 = 1 by kernel_rfl] at f0
    rw [h1, show Tryz.prog.cellsOf 3 = 1 by kernel_rfl] at f1
    rw [h2, show Tryz.prog.cellsOf 79 = 5 by kernel_rfl] at f2
    obtain ⟨z0, e0, -, l0⟩ := DataW.trod_string Tryz.underlying9 f0
    obtain ⟨z1, e1, -⟩ := DataW.trod_int Tryz.underlying3 f1
    obtain ⟨z2, e2, w2, n2, l2⟩ := open_valt f2
    have e0 : [c0] = [.string z0] := e0
    have e1 : [c1] = [.int .i64 z1] := e1
    have e2 : [c2, c3, c4, c5, c6] = z2.cells := e2
    cases e0
    cases e1
    exact ⟨⟨z0, z1, z2⟩, (by show _ = Value.string z0 :: Value.int .i64 z1 :: z2.cells; rw [← e2]; rfl), l0, l2, w2, n2⟩

end Go.Proofs.YtloplmaekonenaaGreatDoor
