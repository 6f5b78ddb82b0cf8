/-
  The reference's look through the attributes is the program's.
  What All gives beside the law's map: plain laws for gazettelaw14.TableRuns.
  What a table tells, beside the reference: plain laws, and gazetteref07.Covers.
  A guarded operation whose guard stands is walked as one without.
  gazettelaw14.TableRuns.
-/
import Derived.Test.YtloplmaekonenaaGreatDoorZg31
import Derived.Test.YtloplmaekonenaaGreatDoorZg34
import Derived.Test.YtloplmaekonenaaGreatDoorZg40
import Derived.Test.YtloplmaekonenaaGreatDoorZg38
import Derived.Test.YtloplmaekonenaaGreatDoorZg30
import Derived.Test.YtloplmaekonenaaGreatDoorZg20
import Derived.Test.YtloplmaekonenaaGreatDoorZg10
import Derived.BigQuiet
namespace Go.Proofs.YtloplmaekonenaaGreatDoor
set_option maxRecDepth 20000
open Go.RowKit

theorem there_is {l : List Att} {s : ByteArray} (h : there l s = true) : ∃ x, l[pos l s]? = some x ∧ (x.name.toList == s.toList) = true := by
  unfold there at h
  split at h
  · rename_i a ha
    refine ⟨a, ha, ?_⟩
    rw [ByteArray.toList_eq, ByteArray.toList_eq]
    exact h
  · cases h
/-- An attribute of that name stands in its place. -/
theorem at_pos {l : List Att} (hr : rises l) {s : ByteArray} {k : Nat} {x : Att} (hx : l[k]? = some x) (hn : (x.name.toList == s.toList) = true) : pos l s = k := by
  rw [beq_iff_eq, ByteArray.toList_eq, ByteArray.toList_eq] at hn
  rcases Nat.lt_trichotomy k (pos l s) with h | h | h
  · have := pos_less h hx
    rw [hn, less_irrefl] at this
    cases this
  · exact h.symm
  · obtain ⟨y, hy⟩ : ∃ y, l[pos l s]? = some y := ⟨_, List.getElem?_eq_getElem (by have := (List.getElem?_eq_some_iff.1 hx).1; omega)⟩
    have h1 := hr _ _ y x h hy hx
    rw [hn] at h1
    have h2 := pos_not hr (Nat.le_refl _) hy
    rw [h1] at h2
    cases h2
theorem rmatch_eq {l : List Att} (hr : rises l) (c : Cnd) : rMatchC c l = c.matchB l := by
  unfold rMatchC Cnd.matchB getV
  cases ht : there l c.name with
  | true =>
    obtain ⟨x, hx, hn⟩ := there_is ht
    rw [if_pos rfl, hx]
    show _ = (true && c.holds x.v)
    rw [Bool.true_and, Bool.eq_iff_iff, List.any_eq_true]
    constructor
    · rintro ⟨y, hy, h⟩
      rw [Bool.and_eq_true] at h
      obtain ⟨k, hk⟩ := List.mem_iff_getElem?.1 hy
      have hp := at_pos hr hk h.1
      rw [hp, hk] at hx
      cases hx
      exact h.2
    · intro h
      exact ⟨x, List.mem_of_getElem? hx, by rw [hn, h]; rfl⟩
  | false =>
    rw [if_neg (by decide)]
    show _ = (false && _)
    rw [Bool.false_and, List.any_eq_false]
    intro y hy h
    rw [Bool.and_eq_true] at h
    obtain ⟨k, hk⟩ := List.mem_iff_getElem?.1 hy
    have hp := at_pos hr hk h.1
    have : there l c.name = true := by
      unfold there
      rw [hp, hk]
      have := h.1
      rw [ByteArray.toList_eq, ByteArray.toList_eq] at this
      exact this
    rw [ht] at this
    cases this
end Go.Proofs.YtloplmaekonenaaGreatDoor

namespace Go.Proofs.YtloplmaekonenaaGreatDoor
set_option maxRecDepth 20000
open Go.RowKit Go.Sort

theorem refM_okQ {w0 : World} {R : List (Int × Fr)} (hok : RefOk w0 R) : ∀ p ∈ refM R, okQ p.2 := fun p hp => by
  obtain ⟨a, ha, rfl⟩ := List.mem_map.1 hp
  have h1 := hok _ ha
  have hb := fil_bounds h1.2.1
  refine ⟨Nat.le_trans (normC_len _) (by omega), normC_fits fun c hc => ⟨⟨(h1.1.nm c hc).2.1, (h1.1.nm c hc).2.2, by have := (hb.2.2 c hc).2.2.2; omega⟩, by have := (hb.2.2 c hc).1; omega⟩, by have := hb.1; show a.2.sc.size ≤ 1000000; omega⟩
end Go.Proofs.YtloplmaekonenaaGreatDoor

namespace Go.Proofs.YtloplmaekonenaaGreatDoor
set_option maxRecDepth 20000
open Go.RowKit Go.Sort

/-- A condition asks what its own form asks. -/
theorem imp_norm {d : Cnd} (h : d.whole) : impB d d.norm = true := by
  have ho := whole_ok h
  rw [imp_iff d d.norm ho.1.1 ho.2.1 ho.1.2 ho.2.2]
  refine ⟨(norm_name d).symm, ?_⟩
  by_cases hv : d.voidB = true
  · exact .inl hv
  by_cases h7 : d.op = 7
  · exact .inr (.inl (by rw [norm_op]; exact h7))
  have la := live_of h.op h7 (by simpa using hv)
  have en : d.norm = ⟨d.name, d.op, d.v.canon⟩ := by unfold Cnd.norm; rw [if_neg h7]
  have lb : d.norm.live := by
    rw [en]
    exact ⟨la.op, by show d.v.canon.void = false; rw [canon_void h.kind]; exact la.v, fun e => by show d.v.canon.kind = 2; rw [canon_kind h.kind]; exact la.six e⟩
  refine .inr (.inr ⟨la, lb, by rw [en]; exact (canon_kind h.kind).symm, ?_⟩)
  have hz : V.cmp d.v d.v = 0 := by
    have := cmp_anti rfl la.v la.v
    omega
  have hz2 : V.cmp d.v d.norm.v = 0 := by
    rw [en]
    show V.cmp d.v d.v.canon = 0
    rw [cmp_canon h.kind rfl la.v la.v h.num]; exact hz
  have ho := la.op
  have eo := norm_op d
  unfold impP
  have : d.op = 0 ∨ d.op = 1 ∨ d.op = 2 ∨ d.op = 3 ∨ d.op = 4 ∨ d.op = 5 ∨ d.op = 6 := by omega
  rcases this with e | e | e | e | e | e | e
  · refine .inl ⟨e, ?_⟩
    rw [norm_holds h.kind h.num, holds_iff d d.v h.op]
    exact .inr ⟨⟨rfl, la.v, la.v⟩, .inr (.inl ⟨e, hz⟩)⟩
  · omega
  · omega
  · omega
  · omega
  · omega
  · refine .inr (.inr (.inl ⟨e, .inl ⟨by omega, ?_⟩⟩))
    rw [en]
    show prefB d.v.text d.v.canon.text = true
    have hk := la.six e
    have et : d.v.canon.text = d.v.text := by
      unfold V.canon
      rw [if_neg (by omega), if_neg (by omega), if_pos hk]
    rw [et]
    exact prefB_refl _
theorem covF_norm {s : ByteArray} {m : List Cnd} (h : ∀ c ∈ m, c.whole) : covF s (normC m) s m = true := by
  unfold covF
  rw [Bool.or_eq_true, Bool.and_eq_true]
  refine .inr ⟨List.all_eq_true.2 fun c hc => ?_, underB_refl s⟩
  obtain ⟨d, hd, rfl⟩ := sortC_mem (normC_mem hc)
  exact List.any_eq_true.2 ⟨d, hd, imp_norm (h d hd)⟩

theorem ref_whole {w0 : World} {R : List (Int × Fr)} (hok : RefOk w0 R) {id : Int} {g : Fr} (h : (id, g) ∈ R) : ∀ c ∈ g.cs, c.whole := fun c hc => by
  have h1 := hok _ h
  have h2 := (fil_bounds h1.2.1).2.2 c hc
  exact ⟨h2.2.1, h2.2.2.1, (h1.1.nm c hc).2.2⟩
theorem ref_okQ {w0 : World} {R : List (Int × Fr)} (hok : RefOk w0 R) {id : Int} {g : Fr} (h : (id, g) ∈ R) : okQ g.fil := by
  have h1 := hok _ h
  have hb := fil_bounds h1.2.1
  exact ⟨by have h2 : g.cs.length ≤ 6 := hb.2.1; show g.cs.length ≤ 19; omega, fun c hc => ⟨⟨(h1.1.nm c hc).2.1, (h1.1.nm c hc).2.2, by have := (hb.2.2 c hc).2.2.2; omega⟩, by have := (hb.2.2 c hc).1; omega⟩, by have h2 : g.sc.size ≤ 52 := hb.1; show g.sc.size ≤ 1000000; omega⟩
theorem ref_okCs {w0 : World} {R : List (Int × Fr)} (hok : RefOk w0 R) {id : Int} {g : Fr} (h : (id, g) ∈ R) : okCs g.cs := fun c hc => (whole_ok (ref_whole hok h c hc)).1
theorem refM_tabOk {w0 : World} {R : List (Int × Fr)} (hok : RefOk w0 R) : TabOk (refM R) := fun p hp c hc => by
  obtain ⟨a, ha, rfl⟩ := List.mem_map.1 hp
  obtain ⟨d, hd, rfl⟩ := sortC_mem (normC_mem hc)
  exact (whole_ok (ref_whole hok ha d hd)).2

/-- What is told of a key is what some other place has. -/
theorem out_ref {R : List (Int × Fr)} {td : Int} {q : Fil} (h : q ∈ outL (refM R) td) : ∃ x g, x ≠ td ∧ (x, g) ∈ R ∧ q = (g.sc, normC g.cs) ∧ keyR g = keyF q := by
  obtain ⟨-, x, h2, h3⟩ := allF_some (outL_mem h).1
  obtain ⟨a, ha, e⟩ := List.mem_map.1 h3
  obtain ⟨rfl, rfl⟩ := Prod.mk.inj e
  exact ⟨a.1, a.2, h2, ha, rfl, rfl⟩
theorem out_mem {R : List (Int × Fr)} {td : Int} {q : Fil} (h : q ∈ outL (refM R) td) : ∃ x, (x, q) ∈ refM R := by
  obtain ⟨-, x, -, h3⟩ := allF_some (outL_mem h).1
  exact ⟨x, h3⟩
/-- What another place has is covered by one that is told. -/
theorem out_cov {w0 : World} {R : List (Int × Fr)} (hok : RefOk w0 R) {td x : Int} {g : Fr} (h : (x, g) ∈ R) (hx : x ≠ td) : ∃ o ∈ outL (refM R) td, covQ o g.fil = true := by
  have hm : (x, ((g.sc, normC g.cs) : Fil)) ∈ refM R := List.mem_map.2 ⟨_, h, rfl⟩
  obtain ⟨r, hr⟩ := allF_has hm hx
  obtain ⟨h1, y, -, h2⟩ := allF_some hr
  obtain rfl : r = (g.sc, normC g.cs) := hok.inj _ h2 _ hm h1
  obtain ⟨o, ho, hc⟩ := outL_cover (refM_tabOk hok) _ _ _ hr (Nat.le_refl _)
  obtain ⟨z, hz⟩ := out_mem ho
  exact ⟨o, ho, covQ_trans (refM_tabOk hok _ hz) (refM_tabOk hok _ hm) (ref_okCs hok h) hc (covF_norm (ref_whole hok h))⟩
theorem outL_len (M : List (Int × Fil)) (td : Int) : (outL M td).length ≤ M.length := by
  have ho : ∀ l : List (List UInt8), (onceS l).length ≤ l.length := fun l => by
    induction l with
    | nil => exact Nat.le_refl _
    | cons a l ih =>
      unfold onceS
      split
      · exact Nat.le_trans ih (Nat.le_succ _)
      · exact Nat.succ_le_succ ih
  unfold outL
  refine Nat.le_trans (List.length_filterMap_le _ _) ?_
  unfold allK riseS
  rw [List.length_mergeSort]
  refine Nat.le_trans (ho _) ?_
  rw [List.length_map]
  exact List.length_filter_le _ _
theorem refF_has {R : List (Int × Fr)} {x : Int} {g : Fr} {k : List UInt8} (h : (x, g) ∈ R) (hk : keyR g = k) : (refF R x k).isSome = true := by
  cases h1 : refF R x k with
  | some r => rfl
  | none => exact absurd hk (refF_none h1 g h)
/-- gazetteref07.Match at filters. -/
theorem rMat_fil {q : Fil} {S : ByteArray} {E : List Att} (hr : rises E) : rMatF q S E = filMatch q.1 q.2 S E := by
  unfold rMatF filMatch
  rw [Bool.and_comm]
  have : (fun c => rMatchC c E) = fun c : Cnd => c.matchB E := funext fun c => rmatch_eq hr c
  rw [this]
/-- What covers a filter matches what it matches. -/
theorem cov_mat {o g : Fil} {S : ByteArray} {E : List Att} (hr : rises E) (oo : okCs o.2) (og : okCs g.2) (hc : covQ o g = true) (hm : rMatF g S E = true) : rMatF o S E = true := by
  rw [rMat_fil hr] at hm ⊢
  exact covF_sound oo og hc hm
theorem out_tells {w0 : World} {R : List (Int × Fr)} (hok : RefOk w0 R) {td x : Int} {g : Fr} (h : (x, g) ∈ R) (hx : x ≠ td) {S : ByteArray} {E : List Att} (hr : rises E) (hm : rMatF g.fil S E = true) : ((outL (refM R) td).any fun q => rMatF q S E) = true := by
  obtain ⟨o, ho, hc⟩ := out_cov hok h hx
  obtain ⟨z, hz⟩ := out_mem ho
  exact List.any_eq_true.2 ⟨o, ho, cov_mat hr (refM_tabOk hok _ hz) (ref_okCs hok h) hc hm⟩

/-- gazetteref07.Match at a filter of a table. -/
theorem rmq_at (w : World) (f : Fr) (hc : RdSl w 7 (.slice f.a f.cs.length f.c) f.cs.length (cnds f.cs)) (ho : okQ f.fil) (S : ByteArray) (hS : S.size ≤ 52) (av : Value) (E : List Att) (hv : RdSl w 6 av E.length (atts E)) (hE : E.length ≤ 8) (hEs : ∀ a ∈ E, a.name.size ≤ 12 ∧ a.v.text.size ≤ 40) :
    Calls Tryz.prog 19 #[.agg #[.string f.sc, .slice f.a f.cs.length f.c], .agg #[.string S, av]] w fun e w' => e = .returned (.bool (rMatF f.fil S E)) ∧ Mod (fun _ => False) w w' := by
  have h1 : f.cs.length ≤ 19 := ho.1
  have h2 : f.sc.size ≤ 1000000 := ho.2.2
  exact rmatch_at w f.sc _ f.cs hc (by omega) (by omega) (fun c hc => by have := (ho.2.1 c hc).v.text; omega) S av E hv (by omega) (by omega) (fun a ha => by have := (hEs a ha).2; omega)

/-! What was gathered of the other places. -/
structure Gath (w : World) (ma : Nat) (R : List (Int × Fr)) (td : Int) (A : List UInt8 → Option Fr) : Prop where
  m : RIn w A ma
  a : ∀ k g, A k = some g → ∃ x, x ≠ td ∧ refF R x k = some g
theorem Gath.mod {w w' : World} {ma : Nat} {R : List (Int × Fr)} {td : Int} {A : List UInt8 → Option Fr} {F : Nat → Prop} (h : Gath w ma R td A) (hm : Mod F w w') (h1 : ¬ F ma) : Gath w' ma R td A := ⟨h.m.mod hm h1, h.a⟩
theorem Gath.low {w : World} {ma : Nat} {R : List (Int × Fr)} {td : Int} {A : List UInt8 → Option Fr} (h : Gath w ma R td A) {n : Nat} {f : Lit → Option Value} (hm : MapR w 9 ma n f) (hf : ∀ k, f (.string k) = (A k).map Fr.val) : n ≤ R.length := by
  have hnd : ((onceS (R.map fun p => keyR p.2)).filter fun k => (A k).isSome).Nodup := (onceS_nodup _).filter _
  have h1 := hm.count keyed_s Tryz.underlying9 hnd (fun k => by
    rw [List.mem_filter, onceS_mem, hf]
    constructor
    · intro h2
      rw [Option.isSome_map]
      exact h2.2
    · intro h2
      rw [Option.isSome_map] at h2
      refine ⟨?_, h2⟩
      obtain ⟨g, hg⟩ := Option.isSome_iff_exists.1 h2
      obtain ⟨x, -, h3⟩ := h.a k g hg
      obtain ⟨h4, rfl⟩ := refF_some h3
      exact List.mem_map.2 ⟨_, h4, rfl⟩)
  have ho : ∀ l : List (List UInt8), (onceS l).length ≤ l.length := fun l => by
    induction l with
    | nil => exact Nat.le_refl _
    | cons a l ih =>
      unfold onceS
      split
      · exact Nat.le_trans ih (Nat.le_succ _)
      · exact Nat.succ_le_succ ih
  rw [h1]
  refine Nat.le_trans (List.length_filter_le _ _) (Nat.le_trans (ho _) ?_)
  rw [List.length_map]
  exact Nat.le_refl _
theorem Gath.put {w : World} {ma : Nat} {R : List (Int × Fr)} {td : Int} {A : List UInt8 → Option Fr} (h : Gath w ma R td A) {x : Int} {k : List UInt8} {g : Fr} (hx : x ≠ td) (hg : refF R x k = some g) :
    ∃ n f, MapR w 9 ma n f ∧ n ≤ R.length ∧ ∀ w' m, MapR w' 9 ma m (putF f (.string k) (.agg #[.string g.sc, .slice g.a g.cs.length g.c])) → Gath w' ma R td (fun j => if j = k then some g else A j) := by
  obtain ⟨n, f, h1, h2⟩ := h.m
  refine ⟨n, f, h1, h.low h1 h2, fun w' m hm => ⟨⟨m, _, hm, fun j => ?_⟩, fun j q hq => ?_⟩⟩
  · unfold putF
    by_cases e : j = k
    · subst e
      rw [if_pos rfl]
      show _ = Option.map Fr.val (if j = j then some g else A j)
      rw [if_pos rfl]
      rfl
    · rw [if_neg (fun h => e (Lit.string.inj h))]
      show _ = Option.map Fr.val (if j = k then some g else A j)
      rw [if_neg e]
      exact h2 j
  · have hq : (if j = k then some g else A j) = some q := hq
    by_cases e : j = k
    · subst e
      rw [if_pos rfl] at hq
      cases hq
      exact ⟨x, hx, hg⟩
    · rw [if_neg e] at hq
      exact h.a j q hq
theorem Gath.new {w : World} {ma : Nat} {R : List (Int × Fr)} {td : Int} {n : Nat} (h : MapR w 9 ma n (fun _ => none)) : Gath w ma R td (fun _ => none) := ⟨⟨n, _, h, fun _ => rfl⟩, fun k g h => by cases h⟩
/-- gazetteref07.Covers is what filter.Covers is. -/
theorem rcov_at (w : World) (x y : Fr) (hx : RdSl w 7 (.slice x.a x.cs.length x.c) x.cs.length (cnds x.cs)) (hy : RdSl w 7 (.slice y.a y.cs.length y.c) y.cs.length (cnds y.cs)) (hxo : okQ x.fil) (hyo : okQ y.fil) (cx : okCs x.cs) (cy : okCs y.cs) :
    Calls Tryz.prog 33 #[.agg #[.string x.sc, .slice x.a x.cs.length x.c], .agg #[.string y.sc, .slice y.a y.cs.length y.c]] w fun e w' => e = .returned (.bool (covQ x.fil y.fil)) ∧ Mod (fun _ => False) w w' := by
  have h1 : x.cs.length ≤ 19 := hxo.1
  have h2 : y.cs.length ≤ 19 := hyo.1
  have h3 : x.sc.size ≤ 1000000 := hxo.2.2
  have h4 : y.sc.size ≤ 1000000 := hyo.2.2
  have e : covQ x.fil y.fil = (y.cs.any Cnd.voidB || (x.cs.all (fun c => y.cs.any fun d => rimpB d c) && underB y.sc x.sc)) := by
    show (y.cs.any Cnd.voidB || (x.cs.all (fun c => y.cs.any fun d => impB d c) && underB y.sc x.sc)) = _
    have e2 : (x.cs.all fun c => y.cs.any fun d => impB d c) = (x.cs.all fun c => y.cs.any fun d => rimpB d c) := by
      rw [Bool.eq_iff_iff, List.all_eq_true, List.all_eq_true]
      refine forall_congr' fun c => forall_congr' fun hc => ?_
      rw [List.any_eq_true, List.any_eq_true]
      refine exists_congr fun d => and_congr_right fun hd => ?_
      rw [rimp_imp (cy d hd).2 (cx c hc).2 (cy d hd).1.1 (cy d hd).1.2]
    rw [e2]
  rw [e]
  exact rcovers_at w x.sc _ x.cs hx (by omega) (by omega) (fun c hc => by have := (hxo.2.1 c hc).v.text; omega) y.sc _ y.cs hy (by omega) (by omega) (fun c hc => by have := (hyo.2.1 c hc).v.text; omega)
end Go.Proofs.YtloplmaekonenaaGreatDoor

namespace Go.Proofs.YtloplmaekonenaaGreatDoor
set_option maxRecDepth 20000
open Go.RowKit

section
variable {P : Program} {w : World} {ops : Array Oper} {rest : List Oper} {a : Act} {Q : Exit → Act → World → Prop} {d : Option Tmp} {tp : TypeId} {pos : String} {af : Array Edge} {g : Nat × Bool}
theorem wpList_yes_load (t : TypeId) (x : Operand) (hg : Region.wanted ⟨d, .load t x, tp, pos, af, some g⟩ (yielded ops a.tmps) = true) (h : wpList P ops Q (⟨d, .load t x, tp, pos, af, none⟩ :: rest) a w) : wpList P ops Q (⟨d, .load t x, tp, pos, af, some g⟩ :: rest) a w := by
  unfold wpList at h ⊢
  rw [if_pos hg]
  rw [if_pos (show Region.wanted _ _ = true from rfl)] at h
  exact h
end
end Go.Proofs.YtloplmaekonenaaGreatDoor

namespace Go.Proofs.YtloplmaekonenaaGreatDoor
set_option maxRecDepth 20000
open Go.RowKit Go.Sort

theorem any_step {Q : List Fil} {j : Nat} {x : Fil} (h : Q[j]? = some x) (p : Fil → Bool) : (Q.take (j + 1)).any p = ((Q.take j).any p || p x) := by
  rw [List.take_add_one, h, List.any_append]
  simp

/-- A block from before is written. -/
theorem FillAt.upon {w0 w1 w w' : World} {b mm g : Nat} {own C om : Nat → Prop} {R : List (Int × Fr)} {N N2 n : Nat} {f : Lit → Option Value} (h : FillAt w0 w1 w b mm own C om R N N2 n f) (hm : Mod (fun k => k = g) w w') (hg : g < w1.heap.size) : FillAt w0 w1 w' b mm own C om R N N2 n f :=
  ⟨h.t.mod hm (fun k _ hk => ⟨fun h1 => by have h1 := (h.o k h1).1; have h2 : k = g := hk; omega, fun h1 => by have h1 := h.c k h1; have h2 : k = g := hk; omega⟩), h.r.mod hm (fun k hk h1 => by have h1 := (h.m k h1).1; have h2 : k = g := hk; omega), h.ok, h.o, h.m, h.c⟩

end Go.Proofs.YtloplmaekonenaaGreatDoor
