/-
  Package index: Remove.
-/
import Derived.Test.YtloplmaekonenaaGreatDoorZb29
import Derived.Test.YtloplmaekonenaaGreatDoorZb30
namespace Go.Proofs.YtloplmaekonenaaGreatDoor
set_option maxRecDepth 20000
open Go.RowKit

/-- Without a number. -/
def idxD (I : List (Int × Fil)) (id : Int) : List (Int × Fil) := I.filter fun p => !(p.1 == id)
theorem idxF_del (I : List (Int × Fil)) (id x : Int) : idxF (idxD I id) x = if x = id then none else idxF I x := by
  unfold idxF idxD
  induction I with
  | nil => simp
  | cons p I ih =>
    rw [List.filter_cons, List.find?_cons]
    by_cases hp : p.1 = id
    · have h1 : (!(p.1 == id)) = false := by rw [hp]; simp
      rw [h1, if_neg (by decide), ih]
      by_cases hx : x = id
      · rw [if_pos hx, if_pos hx]
      · have h2 : (p.1 == x) = false := by rw [beq_eq_false_iff_ne]; exact fun e => hx (e ▸ hp)
        rw [if_neg hx, if_neg hx, h2]
    · have h1 : (!(p.1 == id)) = true := by simp [hp]
      rw [h1, if_pos rfl, List.find?_cons]
      cases h3 : p.1 == x with
      | true =>
        rw [beq_iff_eq] at h3
        rw [if_neg (fun e => hp (h3.trans e))]
      | false => exact ih
theorem FMap.del {w w4 : World} {m1 : Nat} {own C : Nat → Prop} {I : List (Int × Fil)} {f : Lit → Option Value} {id : Int} (h2 : ∀ id : Int, FilIs w own C (f (.int .i64 id)) (idxF I id)) (h6 : MapR w4 3 m1 (idxD I id).length (delF f (.int .i64 id))) (hm : Mod (fun k => k = m1) w w4) (hm1 : own m1) : FMap w4 m1 own C (idxD I id) := by
  refine ⟨_, h6, fun x => ?_⟩
  rw [idxF_del]
  unfold delF
  by_cases e : x = id
  · rw [if_pos e, if_pos (by rw [e])]; trivial
  · rw [if_neg e, if_neg (fun h => e (Lit.int.inj h).2)]
    exact (h2 x).mod hm (fun k _ e => e ▸ hm1)
theorem idxD_len {I : List (Int × Fil)} {id : Int} (hn : (I.map Prod.fst).Nodup) (h : idxF I id ≠ none) : (idxD I id).length + 1 = I.length := by
  unfold idxD
  induction I with
  | nil => exact absurd rfl h
  | cons p I ih =>
    rw [List.map_cons, List.nodup_cons] at hn
    rw [List.filter_cons]
    by_cases hp : p.1 = id
    · have h1 : (!(p.1 == id)) = false := by rw [hp]; simp
      rw [h1, if_neg (by decide), List.filter_eq_self.2 (fun q hq => by
        have : q.1 ≠ id := fun e => hn.1 (by rw [hp, ← e]; exact List.mem_map_of_mem hq)
        simp [this]), List.length_cons]
    · have h1 : (!(p.1 == id)) = true := by simp [hp]
      rw [h1, if_pos rfl, List.length_cons, List.length_cons, ih hn.2 (by
        unfold idxF at h ⊢
        rw [List.find?_cons] at h
        have h2 : (p.1 == id) = false := by rw [beq_eq_false_iff_ne]; exact hp
        rwa [h2] at h)]

/-- The map of names, told by its law. -/
def PMapF (w : World) (b m1 m2 : Nat) (own : Nat → Prop) (I : List (Int × Fil)) (T n : Nat) (f : Lit → Option Value) : Prop :=
  MapR w 9 m2 n f ∧ n ≤ T ∧ (∀ nm : ByteArray, Plac w own I T nm ((f (Lit.str nm)).getD nilS)) ∧
    (∀ nm k, ((f (Lit.str nm)).getD nilS).ownBlock = some k → k ≠ b ∧ k ≠ m1 ∧ k ≠ m2) ∧ ∀ nm nm' k, ((f (Lit.str nm)).getD nilS).ownBlock = some k → ((f (Lit.str nm')).getD nilS).ownBlock = some k → nm = nm'

/-- Under one name the places are others. -/
theorem pmap_cut {wr wz w5 w6 : World} {b m1 m2 n T : Nat} {ownL : Nat → Prop} {I I' : List (Int × Fil)} {f : Lit → Option Value} {nm0 : ByteArray} {v v' : Value} {ps' : List (Int × Cnd)}
    (h : PMapF wr b m1 m2 ownL I T n f) (hv : (f (Lit.str nm0)).getD nilS = v)
    (hz : Mod (fun _ => False) wr wz) (ha : OwnSl w5 85 8 v' ps'.length (pls ps')) (ha2 : v'.ownBlock = v.ownBlock) (ha3 : Mod (inBlock v) wz w5) (hlen : ps'.length ≤ T)
    (h6 : MapR w6 9 m2 n (putF f (Lit.str nm0) v')) (hm6 : Mod (fun k => k = m2) w5 w6)
    (hI : ∀ id' nm', nm' ≠ nm0 → ofName (idxF I' id') nm' = ofName (idxF I id') nm') (hI0 : ∀ id', (ps'.filter fun p => p.1 == id').map Prod.snd = ofName (idxF I' id') nm0) : PMapF w6 b m1 m2 ownL I' T n (putF f (Lit.str nm0) v') := by
  obtain ⟨-, h2, h3, h4, h5⟩ := h
  have look : ∀ nm, (putF f (Lit.str nm0) v' (Lit.str nm)).getD nilS = if nm = nm0 then v' else (f (Lit.str nm)).getD nilS := fun nm => by
    unfold putF
    by_cases e : nm = nm0
    · rw [if_pos e, if_pos (by rw [e])]; rfl
    · rw [if_neg e, if_neg (fun e' => e (str_inj e'))]
  have hb : ∀ nm k, (if nm = nm0 then v' else (f (Lit.str nm)).getD nilS).ownBlock = some k → ((f (Lit.str nm)).getD nilS).ownBlock = some k := fun nm k hk => by
    by_cases e : nm = nm0
    · rw [if_pos e, ha2] at hk; rw [e, hv]; exact hk
    · rwa [if_neg e] at hk
  refine ⟨h6, h2, fun nm => ?_, fun nm k hk => ?_, fun nm nm' k hk hk' => ?_⟩
  · rw [look]
    by_cases e : nm = nm0
    · rw [if_pos e, e]
      obtain ⟨ps, p1, p2, p3, p4⟩ := h3 nm0
      rw [hv] at p3
      refine ⟨ps', ha.mod hm6 (fun k hk e' => ?_), hlen, fun k hk => p3 k (ha2 ▸ hk), hI0⟩
      have := h4 nm0 k (by rw [hv, ← ha2]; exact hk)
      exact this.2.2 e'
    · rw [if_neg e]
      obtain ⟨qs, r1, r2, r3, r4⟩ := h3 nm
      refine ⟨qs, ((r1.mod hz (fun _ _ h => h)).mod ha3 (fun k hk hi => ?_)).mod hm6 (fun k hk e' => (h4 nm k hk).2.2 e'), r2, r3, fun id' => by rw [hI id' nm e]; exact r4 id'⟩
      exact e (h5 nm nm0 k hk (by rw [hv]; exact hi))
  · rw [look] at hk
    exact h4 nm k (hb nm k hk)
  · rw [look] at hk hk'
    exact h5 nm nm' k (hb nm k hk) (hb nm' k hk')

/-- What still stands of a filter under the names that have not come up. -/
def lefts (q : List Cnd) (j : Nat) : List Cnd := q.filter fun c => !(((q.take j).map fun d => d.name.data.toList).contains c.name.data.toList)
theorem lefts_zero (q : List Cnd) : lefts q 0 = q := List.filter_eq_self.2 (fun c _ => by simp)
theorem lefts_succ {q : List Cnd} {j : Nat} {x : Cnd} (h : q[j]? = some x) : lefts q (j + 1) = (lefts q j).filter fun c => !(c.name.data.toList == x.name.data.toList) := by
  unfold lefts
  rw [List.filter_filter, List.take_add_one, h]
  congr 1
  funext c
  rw [List.map_append, Option.toList_some, List.map_cons, List.map_nil, List.contains_eq_any_beq, List.contains_eq_any_beq, List.any_append, Bool.not_or, Bool.and_comm]
  simp
theorem lefts_all (q : List Cnd) : lefts q q.length = [] := by
  unfold lefts
  rw [List.take_length, List.filter_eq_nil_iff]
  intro c hc
  simp
  exact ⟨c, hc, rfl⟩
theorem ofName_lefts {q : List Cnd} {j : Nat} {x : Cnd} (h : q[j]? = some x) (qs nm : ByteArray) : ofName (some (qs, lefts q (j + 1))) nm = if nm = x.name then [] else ofName (some (qs, lefts q j)) nm := by
  unfold ofName
  simp only [lefts_succ h, List.filter_filter]
  by_cases e : nm = x.name
  · rw [if_pos e, e, List.filter_eq_nil_iff]
    intro c _
    cases hc : c.name.data.toList == x.name.data.toList <;> simp
  · rw [if_neg e]
    congr 1
    funext c
    cases hc : c.name.data.toList == nm.data.toList with
    | false => rfl
    | true =>
      rw [beq_iff_eq] at hc
      rw [hc]
      have : (nm.data.toList == x.name.data.toList) = false := by rw [beq_eq_false_iff_ne]; exact fun h => e (ByteArray.ext (Array.toList_inj.1 h))
      rw [this]
      rfl
/-- The loop over the conditions. -/
def IRemRel (w3 : World) (b m1 m2 : Nat) (own : Nat → Prop) (I : List (Int × Fil)) (T : Nat) (id : Int) (qs : ByteArray) (q : List Cnd) (i : Value) (wr : World) : Prop :=
  ∃ (j n : Nat) (f : Lit → Option Value), i = .int .i64 j ∧ j ≤ q.length ∧ PMapF wr b m1 m2 own (idxD I id ++ [(id, (qs, lefts q j))]) T n f ∧ (∀ c ∈ q, (f (Lit.str c.name)).isSome = true) ∧ Mod (fun k => own k ∧ k ≠ m1 ∧ k ≠ b) w3 wr

/-- What Remove leaves. -/
def IRemPost (w : World) (b : Nat) (own C : Nat → Prop) (I : List (Int × Fil)) (T : Nat) (id : Int) (e : Ending) (w' : World) : Prop :=
  (idxF I id = none ∧ e = .returned (.bool false) ∧ Mod (fun _ => False) w w') ∨
  (idxF I id ≠ none ∧ e = .returned (.bool true) ∧ Idx w' b own C (idxD I id) T ∧ Mod own w w')
/-- What Remove reads first. -/
def RemS (b m1 cb n : Nat) (id : Int) (f : Lit → Option Value) (r : Value) (y : World) : Prop :=
  y.cell? ⟨b, 0, none⟩ = some (.map (some m1)) ∧ y.cell? ⟨cb, 0, none⟩ = some (.int .i64 id) ∧ MapR y 3 m1 n f ∧ (Instr.lookup 26 (.map (some m1)) (.int .i64 id) true).run Tryz.prog y = .ok r y
theorem RemS.mod {b m1 cb n : Nat} {id : Int} {f : Lit → Option Value} {r : Value} {y z : World} {F : Nat → Prop} (h : RemS b m1 cb n id f r y) (hid : (Lit.int .i64 id).wf = true) (hr : r = .tuple #[(f (.int .i64 id)).getD (.agg #[.string ⟨#[]⟩, .slice none 0 0]), .bool (f (.int .i64 id)).isSome])
    (hm : Mod F y z) (h1 : ¬ F b) (h2 : ¬ F cb) (h3 : ¬ F m1) : RemS b m1 cb n id f r z := by
  refine ⟨hm.cell h.1 h1, hm.cell h.2.1 h2, h.2.2.1.mod hm h3, ?_⟩
  rw [hr]
  exact (h.2.2.1.mod hm h3).look_ok keyed_i Tryz.underlying26 (zero_fil z) (Maps.keyOf_int_mk Tryz.underlying3 hid)

attribute [local go_sem ↓] run_load_cd
set_option maxHeartbeats 8000000 in
theorem irem_at (w : World) (b : Nat) (own C : Nat → Prop) (I : List (Int × Fil)) (T : Nat) (h : Idx w b own C I T) (hT : T ≤ 100000) (id : Int) (hid : (Lit.int .i64 id).wf = true) :
    Calls Tryz.prog 16 #[.pointer (some ⟨b, 0, none⟩), .int .i64 id] w (IRemPost w b own C I T id) := by
  obtain ⟨m1, m2, h⟩ := h
  obtain ⟨wa, hwa⟩ : ∃ wa : World, w.alloc (.cells #[.int .i64 id] 3) = wa := ⟨_, rfl⟩
  have hmwa : Mod (fun _ => False) w wa := hwa ▸ (Mod.refl (fun _ => False) w).alloc _
  have hgwa := heap_alloc_new w (.cells #[.int .i64 id] 3)
  rw [hwa] at hgwa
  have hzwa : wa.heap.size = w.heap.size + 1 := by rw [← hwa]; simp
  have hia := h.mod hmwa (fun _ _ h => h)
  obtain ⟨f, hf1, hf2⟩ := hia.fm
  have hkey : keyOf Tryz.prog 3 (.int .i64 id) = some (.int .i64 id) := Maps.keyOf_int_mk Tryz.underlying3 hid
  have hbz : b < w.heap.size := h.olow _ h.ob.1
  have hmz : m1 < w.heap.size := h.olow _ h.ob.2.1
  have hmz2 : m2 < w.heap.size := h.olow _ h.ob.2.2
  obtain ⟨qs, qa, qn, qc, ok, hr, hok⟩ : ∃ qs qa qn qc ok, (.tuple #[(f (.int .i64 id)).getD (.agg #[.string ⟨#[]⟩, .slice none 0 0]), .bool (f (.int .i64 id)).isSome] : Value) = .tuple #[.agg #[.string qs, .slice qa qn qc], .bool ok] ∧
      ((ok = false ∧ idxF I id = none) ∨ (ok = true ∧ ∃ q, idxF I id = some (qs, q) ∧ qn = q.length ∧ (f (.int .i64 id)).isSome = true ∧ RdSl wa 7 (.slice qa qn qc) qn (cnds q) ∧ ∀ k, (Value.slice qa qn qc).ownBlock = some k → k < wa.heap.size ∧ ¬ own k)) := by
    have h1 := hf2 id
    cases hq : idxF I id <;> cases hfv : f (.int .i64 id) <;> rw [hq, hfv] at h1
    · exact ⟨_, _, _, _, _, rfl, .inl ⟨rfl, rfl⟩⟩
    · exact h1.elim
    · exact h1.elim
    · rename_i q v
      obtain ⟨qa, qc, rfl, h2, h3⟩ := h1
      exact ⟨_, _, _, _, _, rfl, .inr ⟨rfl, q.2, rfl, rfl, rfl, h2.rd, fun k hk => ⟨(h3 k hk).1, (h3 k hk).2.1⟩⟩⟩
  have hSb : RemS b m1 w.heap.size I.length id f (.tuple #[.agg #[.string qs, .slice qa qn qc], .bool ok]) wa.drew := by
    refine ⟨cell_of hia.row rfl, cell_of hgwa rfl, hf1.mod ((Mod.refl (fun _ => False) wa).drew) (fun h => h), ?_⟩
    rw [← hr]
    exact (hf1.mod ((Mod.refl (fun _ => False) wa).drew) (fun h => h)).look_ok keyed_i Tryz.underlying26 (zero_fil _) hkey
  have H := Lib.hid h
  have Hia := Lib.hid hia
  have Hf1 := Lib.hid hf1
  have Hf2 := Lib.hid hf2
  have Hkey := Lib.hid hkey
  have Hr := Lib.hid hr
  have Hok := Lib.hid hok
  have Hwa := Lib.hid hwa
  have Hmwa := Lib.hid hmwa
  have Hgwa := Lib.hid hgwa
  have Hid := Lib.hid hid
  clear h hia hf1 hf2 hkey hr hok hwa hmwa hgwa hid hzwa
  go_enter Tryz.func16, Tryz.ntmps16
  go_wp2_with (first | (rw [show w.alloc _ = wa from Hwa.out]) | fail)
  have hS := hSb
  refine wp_region_script [.rd 0, .rd 1, .rd 2, .rd 3, .rd 4, .rd 5, .rd 6, .rd 7, .rd 8, .go 9, .go 10, .rd 11] [0, 1, 2, 3, 4, 5, 6, 7, 8, 9, 10] (RemS b m1 w.heap.size I.length id f (.tuple #[.agg #[.string qs, .slice qa qn qc], .bool ok])) (by kernel_rfl) (by kernel_rfl) (fun _ _ d _ _ h => (by cases d <;> exact h)) ?_
  refine walk_rd rfl ?_ (fun _ => hS) ?_ (fun w0 h0 => ?_) (fun K hK => ?_)
  · (try simp only [List.getElem_toArray]); (try simp only [List.getElem_cons_succ]); (try simp only [List.getElem_cons_zero])
    go_simp; done
  rotate_left
  · (try simp only [List.getElem_toArray]); (try simp only [List.getElem_cons_succ]); (try simp only [List.getElem_cons_zero])
    first
      | (obtain ⟨f0, f1, -, f2⟩ := h0 rfl; clear h0; go_simp; with_reducible rfl)
      | (clear h0; go_simp; with_reducible rfl)
  (try simp only [List.getElem_toArray]); (try simp only [List.getElem_cons_succ]); (try simp only [List.getElem_cons_zero])
  go_simp; refine hK _ ?_; clear hK K
  refine walk_rd rfl ?_ (fun _ => hS) ?_ (fun w0 h0 => ?_) (fun K hK => ?_)
  · (try simp only [List.getElem_toArray]); (try simp only [List.getElem_cons_succ]); (try simp only [List.getElem_cons_zero])
    go_simp; done
  rotate_left
  · (try simp only [List.getElem_toArray]); (try simp only [List.getElem_cons_succ]); (try simp only [List.getElem_cons_zero])
    first
      | (obtain ⟨f0, f1, -, f2⟩ := h0 rfl; clear h0; go_simp; with_reducible rfl)
      | (clear h0; go_simp; with_reducible rfl)
  (try simp only [List.getElem_toArray]); (try simp only [List.getElem_cons_succ]); (try simp only [List.getElem_cons_zero])
  go_simp; refine hK _ ?_; clear hK K
  refine walk_rd rfl ?_ (fun _ => hS) ?_ (fun w0 h0 => ?_) (fun K hK => ?_)
  · (try simp only [List.getElem_toArray]); (try simp only [List.getElem_cons_succ]); (try simp only [List.getElem_cons_zero])
    go_simp; done
  rotate_left
  · (try simp only [List.getElem_toArray]); (try simp only [List.getElem_cons_succ]); (try simp only [List.getElem_cons_zero])
    first
      | (obtain ⟨f0, f1, -, f2⟩ := h0 rfl; clear h0; go_simp; with_reducible rfl)
      | (clear h0; go_simp; with_reducible rfl)
  (try simp only [List.getElem_toArray]); (try simp only [List.getElem_cons_succ]); (try simp only [List.getElem_cons_zero])
  go_simp; refine hK _ ?_; clear hK K
  refine walk_rd rfl ?_ (fun _ => hS) ?_ (fun w0 h0 => ?_) (fun K hK => ?_)
  · (try simp only [List.getElem_toArray]); (try simp only [List.getElem_cons_succ]); (try simp only [List.getElem_cons_zero])
    go_simp; done
  rotate_left
  · (try simp only [List.getElem_toArray]); (try simp only [List.getElem_cons_succ]); (try simp only [List.getElem_cons_zero])
    first
      | (obtain ⟨f0, f1, -, f2⟩ := h0 rfl; clear h0; go_simp; with_reducible rfl)
      | (clear h0; go_simp; with_reducible rfl)
  (try simp only [List.getElem_toArray]); (try simp only [List.getElem_cons_succ]); (try simp only [List.getElem_cons_zero])
  go_simp; refine hK _ ?_; clear hK K
  refine walk_rd rfl ?_ (fun _ => hS) ?_ (fun w0 h0 => ?_) (fun K hK => ?_)
  · (try simp only [List.getElem_toArray]); (try simp only [List.getElem_cons_succ]); (try simp only [List.getElem_cons_zero])
    go_simp; done
  rotate_left
  · (try simp only [List.getElem_toArray]); (try simp only [List.getElem_cons_succ]); (try simp only [List.getElem_cons_zero])
    first
      | (obtain ⟨f0, f1, -, f2⟩ := h0 rfl; clear h0; go_simp; with_reducible rfl)
      | (clear h0; go_simp; with_reducible rfl)
  (try simp only [List.getElem_toArray]); (try simp only [List.getElem_cons_succ]); (try simp only [List.getElem_cons_zero])
  go_simp; refine hK _ ?_; clear hK K
  refine walk_rd rfl ?_ (fun _ => hS) ?_ (fun w0 h0 => ?_) (fun K hK => ?_)
  · (try simp only [List.getElem_toArray]); (try simp only [List.getElem_cons_succ]); (try simp only [List.getElem_cons_zero])
    go_simp; done
  rotate_left
  · (try simp only [List.getElem_toArray]); (try simp only [List.getElem_cons_succ]); (try simp only [List.getElem_cons_zero])
    first
      | (obtain ⟨f0, f1, -, f2⟩ := h0 rfl; clear h0; go_simp; with_reducible rfl)
      | (clear h0; go_simp; with_reducible rfl)
  (try simp only [List.getElem_toArray]); (try simp only [List.getElem_cons_succ]); (try simp only [List.getElem_cons_zero])
  go_simp; refine hK _ ?_; clear hK K
  refine walk_rd rfl ?_ (fun _ => hS) ?_ (fun w0 h0 => ?_) (fun K hK => ?_)
  · (try simp only [List.getElem_toArray]); (try simp only [List.getElem_cons_succ]); (try simp only [List.getElem_cons_zero])
    go_simp; done
  rotate_left
  · (try simp only [List.getElem_toArray]); (try simp only [List.getElem_cons_succ]); (try simp only [List.getElem_cons_zero])
    first
      | (obtain ⟨f0, f1, -, f2⟩ := h0 rfl; clear h0; go_simp; with_reducible rfl)
      | (clear h0; go_simp; with_reducible rfl)
  (try simp only [List.getElem_toArray]); (try simp only [List.getElem_cons_succ]); (try simp only [List.getElem_cons_zero])
  go_simp; refine hK _ ?_; clear hK K
  refine walk_rd rfl ?_ (fun _ => hS) ?_ (fun w0 h0 => ?_) (fun K hK => ?_)
  · (try simp only [List.getElem_toArray]); (try simp only [List.getElem_cons_succ]); (try simp only [List.getElem_cons_zero])
    go_simp; done
  rotate_left
  · (try simp only [List.getElem_toArray]); (try simp only [List.getElem_cons_succ]); (try simp only [List.getElem_cons_zero])
    first
      | (obtain ⟨f0, f1, -, f2⟩ := h0 rfl; clear h0; go_simp; with_reducible rfl)
      | (clear h0; go_simp; with_reducible rfl)
  (try simp only [List.getElem_toArray]); (try simp only [List.getElem_cons_succ]); (try simp only [List.getElem_cons_zero])
  go_simp; refine hK _ ?_; clear hK K
  refine walk_rd rfl ?_ (fun _ => hS) ?_ (fun w0 h0 => ?_) (fun K hK => ?_)
  · (try simp only [List.getElem_toArray]); (try simp only [List.getElem_cons_succ]); (try simp only [List.getElem_cons_zero])
    go_simp; done
  rotate_left
  · (try simp only [List.getElem_toArray]); (try simp only [List.getElem_cons_succ]); (try simp only [List.getElem_cons_zero])
    first
      | (obtain ⟨f0, f1, -, f2⟩ := h0 rfl; clear h0; go_simp; with_reducible rfl)
      | (clear h0; go_simp; with_reducible rfl)
  (try simp only [List.getElem_toArray]); (try simp only [List.getElem_cons_succ]); (try simp only [List.getElem_cons_zero])
  go_simp; refine hK _ ?_; clear hK K
  refine walk_one (go_yes rfl ?_ (fun K hK => ?_))
  · (try simp only [List.getElem_toArray]); (try simp only [List.getElem_cons_succ]); (try simp only [List.getElem_cons_zero])
    go_simp; done
  (try simp only [List.getElem_toArray]); (try simp only [List.getElem_cons_succ]); (try simp only [List.getElem_cons_zero])
  obtain ⟨wT, hwT⟩ : ∃ wT : World, wa.drew.alloc (.cells #[.string ⟨#[]⟩, .slice none 0 0] 29) = wT := ⟨_, rfl⟩
  have hmwT : Mod (fun _ => False) wa.drew wT := hwT ▸ (Mod.refl (fun _ => False) wa.drew).alloc _
  have hgwT := heap_alloc_new wa.drew (.cells #[.string ⟨#[]⟩, .slice none 0 0] 29)
  rw [hwT] at hgwT
  have hzwT : wT.heap.size = wa.drew.heap.size + 1 := by rw [← hwT]; simp
  go_simp
  refine hK _ _ (fun _ h => h.mod Hid.out Hr.out.symm hmwT (fun h => h) (fun h => h) (fun h => h)) ?_
  clear hK K hS
  have hsz : wa.heap.size = w.heap.size + 1 := by
    rw [← Hwa.out]
    exact Array.size_push _
  have hS := RemS.mod hSb Hid.out Hr.out.symm hmwT (fun h => h) (fun h => h) (fun h => h)
  refine walk_one (go_yes rfl ?_ (fun K hK => ?_))
  · (try simp only [List.getElem_toArray]); (try simp only [List.getElem_cons_succ]); (try simp only [List.getElem_cons_zero])
    go_simp; done
  (try simp only [List.getElem_toArray]); (try simp only [List.getElem_cons_succ]); (try simp only [List.getElem_cons_zero])
  obtain ⟨w3, hw3⟩ : ∃ w3, wT.setRow wa.heap.size ([.string qs, .slice qa qn qc] : List Value).toArray = w3 := ⟨_, rfl⟩
  refine wp_store_row 29 (.tmp 5) (.tmp 16) rfl wa.heap.size rfl #[.string ⟨#[]⟩, .slice none 0 0] 29 hgwT [.string qs, .slice qa qn qc] rfl rfl (by kernel_rfl) (fun u hu => List.all_eq_true.1 (show ([.string qs, .slice qa qn qc] : List Value).all (·.oneCell') = true from rfl) u hu) ?_
  rw [hw3]
  have hg3 : w3.heap[wa.heap.size]? = some (.cells #[.string qs, .slice qa qn qc] 29 (0, 0)) := by rw [← hw3]; exact setRow_heap wT wa.heap.size _ _ _ _ hgwT
  have hm3 : Mod (fun k => k = wa.heap.size) wT w3 := hw3 ▸ (Mod.refl (fun k => k = wa.heap.size) wT).setRow (fun _ => rfl) _
  have hS3 := hS.mod Hid.out Hr.out.symm hm3 (fun h => by have h' : b = wa.heap.size := h; omega) (fun h => by have h' : w.heap.size = wa.heap.size := h; omega) (fun h => by have h' : m1 = wa.heap.size := h; omega)
  refine hK _ _ (fun _ _ => hS3) ?_
  clear hK K hS
  have hma3 : Mod (fun _ => False) wa w3 := ((((Mod.refl (fun _ => False) wa).drew).trans hmwT (fun _ _ h => h)).upon hm3 (fun k hk => .inr (by omega)))
  have hm03 := Hmwa.out.trans hma3 (fun _ _ h => h)
  have hS := hS3
  have c0 : w3.cell? ⟨w.heap.size, 0, none⟩ = some (.int .i64 id) := hS3.2.1
  have cb : w3.cell? ⟨b, 0, none⟩ = some (.map (some m1)) := hS3.1
  have Hg3 := Lib.hid hg3
  have Hm3 := Lib.hid hm3
  have Hma3 := Lib.hid hma3
  have Hm03 := Lib.hid hm03
  have Hw3 := Lib.hid hw3
  have HSb := Lib.hid hSb
  have HS3 := Lib.hid hS3
  clear hg3 hm3 hma3 hm03 hw3 hSb hS3 hmwT hgwT hzwT hwT
  refine walk_rd rfl ?_ (fun _ => hS) ?_ (fun w0 h0 => ?_) (fun K hK => ?_)
  · (try simp only [List.getElem_toArray]); (try simp only [List.getElem_cons_succ]); (try simp only [List.getElem_cons_zero])
    go_simp; done
  rotate_left
  · (try simp only [List.getElem_toArray]); (try simp only [List.getElem_cons_succ]); (try simp only [List.getElem_cons_zero])
    first
      | (obtain ⟨-, -, -, -⟩ := h0 rfl; clear h0; go_simp; with_reducible rfl)
      | (clear h0; go_simp; with_reducible rfl)
  (try simp only [List.getElem_toArray]); (try simp only [List.getElem_cons_succ]); (try simp only [List.getElem_cons_zero])
  go_simp; refine hK _ ?_; clear hK K
  refine walk_nil ?_
  cases ok with
  | false =>
    rcases Hok.out with ⟨-, hno⟩ | ⟨h, -⟩
    rotate_left
    · cases h
    have Hno := Lib.hid hno
    clear hno
    go_wp2_with fail
    go_ret
    exact .inl ⟨Hno.out, rfl, Hm03.out⟩
  | true =>
    rcases Hok.out with ⟨h, -⟩ | ⟨-, q, hq, rfl, hfs, hrq, hqb⟩
    · cases h
    have Hq := Lib.hid hq
    have Hfs := Lib.hid hfs
    have Hrq := Lib.hid hrq
    have Hqb := Lib.hid hqb
    clear hq hfs hrq hqb
    go_wp2_with fail
    obtain ⟨w4, hd1, hd2, hd3⟩ := (hS.2.2.1.mod ((Mod.refl (fun _ => False) w3).drew) (fun h => h)).del keyed_i Tryz.underlying26 Hkey.out 0
    have hS4 : RemS b m1 w.heap.size I.length id f (.tuple #[.agg #[.string qs, .slice qa q.length qc], .bool true]) w3.drew := hS.mod Hid.out Hr.out.symm ((Mod.refl (fun _ => False) w3).drew) (fun h => h) (fun h => h) (fun h => h)
    clear hS
    have hS := hS4
    refine wp_region_script [.rd 0, .rd 1, .rd 2, .rd 3, .rd 4, .go 5] [0, 1, 2, 3, 4] (RemS b m1 w.heap.size I.length id f (.tuple #[.agg #[.string qs, .slice qa q.length qc], .bool true])) (by kernel_rfl) (by kernel_rfl) (fun _ _ d _ _ h => (by cases d <;> exact h)) ?_
    refine walk_rd rfl ?_ (fun _ => hS) ?_ (fun w0 h0 => ?_) (fun K hK => ?_)
    · (try simp only [List.getElem_toArray]); (try simp only [List.getElem_cons_succ]); (try simp only [List.getElem_cons_zero])
      go_simp; done
    rotate_left
    · (try simp only [List.getElem_toArray]); (try simp only [List.getElem_cons_succ]); (try simp only [List.getElem_cons_zero])
      first
        | (obtain ⟨f0, f1, -, f2⟩ := h0 rfl; clear h0; go_simp; with_reducible rfl)
        | (clear h0; go_simp; with_reducible rfl)
    (try simp only [List.getElem_toArray]); (try simp only [List.getElem_cons_succ]); (try simp only [List.getElem_cons_zero])
    go_simp; refine hK _ ?_; clear hK K
    refine walk_rd rfl ?_ (fun _ => hS) ?_ (fun w0 h0 => ?_) (fun K hK => ?_)
    · (try simp only [List.getElem_toArray]); (try simp only [List.getElem_cons_succ]); (try simp only [List.getElem_cons_zero])
      go_simp; done
    rotate_left
    · (try simp only [List.getElem_toArray]); (try simp only [List.getElem_cons_succ]); (try simp only [List.getElem_cons_zero])
      first
        | (obtain ⟨f0, f1, -, f2⟩ := h0 rfl; clear h0; go_simp; with_reducible rfl)
        | (clear h0; go_simp; with_reducible rfl)
    (try simp only [List.getElem_toArray]); (try simp only [List.getElem_cons_succ]); (try simp only [List.getElem_cons_zero])
    go_simp; refine hK _ ?_; clear hK K
    refine walk_rd rfl ?_ (fun _ => hS) ?_ (fun w0 h0 => ?_) (fun K hK => ?_)
    · (try simp only [List.getElem_toArray]); (try simp only [List.getElem_cons_succ]); (try simp only [List.getElem_cons_zero])
      go_simp; done
    rotate_left
    · (try simp only [List.getElem_toArray]); (try simp only [List.getElem_cons_succ]); (try simp only [List.getElem_cons_zero])
      first
        | (obtain ⟨f0, f1, -, f2⟩ := h0 rfl; clear h0; go_simp; with_reducible rfl)
        | (clear h0; go_simp; with_reducible rfl)
    (try simp only [List.getElem_toArray]); (try simp only [List.getElem_cons_succ]); (try simp only [List.getElem_cons_zero])
    go_simp; refine hK _ ?_; clear hK K
    refine walk_rd rfl ?_ (fun _ => hS) ?_ (fun w0 h0 => ?_) (fun K hK => ?_)
    · (try simp only [List.getElem_toArray]); (try simp only [List.getElem_cons_succ]); (try simp only [List.getElem_cons_zero])
      go_simp; done
    rotate_left
    · (try simp only [List.getElem_toArray]); (try simp only [List.getElem_cons_succ]); (try simp only [List.getElem_cons_zero])
      first
        | (obtain ⟨f0, f1, -, f2⟩ := h0 rfl; clear h0; go_simp; with_reducible rfl)
        | (clear h0; go_simp; with_reducible rfl)
    (try simp only [List.getElem_toArray]); (try simp only [List.getElem_cons_succ]); (try simp only [List.getElem_cons_zero])
    go_simp; refine hK _ ?_; clear hK K
    refine walk_rd rfl ?_ (fun _ => hS) ?_ (fun w0 h0 => ?_) (fun K hK => ?_)
    · (try simp only [List.getElem_toArray]); (try simp only [List.getElem_cons_succ]); (try simp only [List.getElem_cons_zero])
      go_simp; done
    rotate_left
    · (try simp only [List.getElem_toArray]); (try simp only [List.getElem_cons_succ]); (try simp only [List.getElem_cons_zero])
      first
        | (obtain ⟨f0, f1, -, f2⟩ := h0 rfl; clear h0; go_simp; with_reducible rfl)
        | (clear h0; go_simp; with_reducible rfl)
    (try simp only [List.getElem_toArray]); (try simp only [List.getElem_cons_succ]); (try simp only [List.getElem_cons_zero])
    go_simp; refine hK _ ?_; clear hK K
    refine walk_one (go_yes rfl ?_ (fun K hK => ?_))
    · (try simp only [List.getElem_toArray]); (try simp only [List.getElem_cons_succ]); (try simp only [List.getElem_cons_zero])
      go_simp; done
    (try simp only [List.getElem_toArray]); (try simp only [List.getElem_cons_succ]); (try simp only [List.getElem_cons_zero])
    go_simp
    refine hK _ _ (fun h => absurd h (by decide)) ?_
    clear hK K hS
    refine walk_nil ?_
    have hx4 : Mod (fun k => k = m1) w w4 := ((Hm03.out.mono (G := fun k => k = m1) (fun _ _ h => h.elim)).drew).trans hd3 (fun _ _ h => h)
    have hne := H.out.ne
    have hqm : (id, (qs, q)) ∈ I := idxF_some Hq.out
    have hql : q.length < 20 := Nat.lt_succ_of_le (H.out.wf _ hqm).2.1
    have hqf : ∀ c ∈ q, c.fits := (H.out.wf _ hqm).2.2
    have hg4 : w4.heap[b]? = some (.cells #[.map (some m1), .map (some m2)] 76 (0, 0)) := hx4.heap H.out.row hne.1
    have e1 : w4.cell? ⟨w.heap.size + 1, 1, none⟩ = some (.slice qa q.length qc) := by
      rw [← hsz]
      exact hd3.cell (show w3.drew.cell? _ = _ from cell_of Hg3.out rfl) (fun h => by have h' : wa.heap.size = m1 := h; omega)
    have hr4 : RdSl w4 7 (.slice qa q.length qc) q.length (cnds q) := (Hrq.out.mod Hma3.out.drew (fun _ _ h => h)).mod hd3 (fun k hk (h : k = m1) => (Hqb.out k hk).2 (h ▸ H.out.ob.2.1))
    have hfm : FMap w4 m1 own C (idxD I id) := by
      refine FMap.del (w := w3.drew) (f := f) (fun x => (Hf2.out x).mod (Hma3.out.drew) (fun _ _ h => h.elim)) ?_ hd3 H.out.ob.2.1
      have h1 := idxD_len H.out.nd (by rw [Hq.out]; intro h; cases h)
      have h2 := hd2
      rw [if_pos Hfs.out] at h2
      rw [show (idxD I id).length = I.length - 1 by omega]
      exact h2
    obtain ⟨n2, f2, hp⟩ : ∃ n f, PMapF w4 b m1 m2 own (idxD I id ++ [(id, (qs, lefts q 0))]) T n f :=
      (H.out.pm.mod hx4 (fun h => hne.2.2 h.symm) (fun k _ _ h3 _ _ h5 => h3 h5)).cong (own' := own) (fun _ _ h => h) (fun id' nm => by
        rw [idxF_new (by rw [idxF_del, if_pos rfl])]
        by_cases e : id' = id
        · rw [if_pos e, e, Hq.out, lefts_zero]
        · rw [if_neg e, idxF_del, if_neg e]) (Nat.le_refl T)
    have hkeys : ∀ c ∈ q, (f2 (Lit.str c.name)).isSome = true := fun c hc => by
      obtain ⟨ps, p1, -, -, p4⟩ := hp.2.2.1 c.name
      cases hf : f2 (Lit.str c.name) with
      | some v => rfl
      | none =>
        rw [hf] at p1
        have h0 : ps = [] := by
          rcases p1.2 with ⟨-, h⟩ | ⟨g, off, cap, cur, h, -⟩
          · exact List.length_eq_zero_iff.1 h
          · cases h
        have h1 := p4 id
        rw [h0, idxF_new (by rw [idxF_del, if_pos rfl]), if_pos rfl] at h1
        have h2 : c ∈ ofName (some (qs, lefts q 0)) c.name := List.mem_filter.2 ⟨List.mem_filter.2 ⟨hc, by simp⟩, by simp⟩
        rw [← h1] at h2
        cases h2
    have hrel0 : IRemRel w4 b m1 m2 own I T id qs q (.int .i64 ((0 : Nat) : Int)) w4 := ⟨0, n2, f2, rfl, Nat.zero_le _, hp, hkeys, Mod.refl _ _⟩
    have cid : w4.cell? ⟨w.heap.size, 0, none⟩ = some (.int .i64 id) := hd3.cell (show w3.drew.cell? _ = _ from c0) (fun h => by have h' : w.heap.size = m1 := h; omega)
    have Hx4 := Lib.hid hx4
    have Hg4 := Lib.hid hg4
    have Hr4 := Lib.hid hr4
    have Hfm := Lib.hid hfm
    have Hp := Lib.hid hp
    have Hkeys := Lib.hid hkeys
    have Hrel0 := Lib.hid hrel0
    have Hd1 := Lib.hid hd1
    have Hd2 := Lib.hid hd2
    have Hd3 := Lib.hid hd3
    have Hqm := Lib.hid hqm
    have Hqf := Lib.hid hqf
    have Cid := Lib.hid cid
    clear hx4 hg4 hr4 hfm hp hkeys hrel0 hd1 hd2 hd3 hqm hqf cid hS4 c0 cb
    go_wp2_with fail
    go_loopw [28] (fun i wr => IRemRel w4 b m1 m2 own I T id qs q i wr) (fun i _ => q.length - (intOf i).toNat)
    case atStart => exact Hrel0.out
    case round =>
      obtain ⟨j, n, f3, rfl, hj, hp, hkeys, hmr⟩ := hrel
      by_cases hlt : j < q.length
      · have hlt' : (j : Int) < q.length := by omega
        obtain ⟨x, hxj⟩ : ∃ x, q[j]? = some x := ⟨_, List.getElem?_eq_getElem hlt⟩
        have hxq := List.mem_of_getElem? hxj
        have hxf : x.fits := Hqf.out x hxq
        have hrr : RdSl wr 7 (.slice qa q.length qc) q.length (cnds q) := Hr4.out.mod hmr (fun k hk h => (Hqb.out k hk).2 h.1)
        obtain ⟨g, off, rfl, hf⟩ : ∃ g off, qa = some ⟨g, off, none⟩ ∧ CellsAt wr g (off + j * 7) x.cells := rd_cnd hrr hxj
        obtain ⟨wz, hwz⟩ : ∃ wz : World, wr.alloc (.cells x.cells.toArray 81) = wz := ⟨_, rfl⟩
        have hmwz : Mod (fun _ => False) wr wz := hwz ▸ (Mod.refl (fun _ => False) wr).alloc _
        have hgwz := heap_alloc_new wr (.cells x.cells.toArray 81)
        rw [hwz] at hgwz
        have hzwz : wz.heap.size = wr.heap.size + 1 := by rw [← hwz]; simp
        obtain ⟨v, hv⟩ : ∃ v, (f3 (Lit.str x.name)).getD nilS = v := ⟨_, rfl⟩
        obtain ⟨ps, p1, p2, p3, p4⟩ := hp.2.2.1 x.name
        rw [hv] at p1 p3
        have hvb := hp.2.2.2.1 x.name
        rw [hv] at hvb
        have hgr : wr.heap[b]? = some (.cells #[.map (some m1), .map (some m2)] 76 (0, 0)) := hmr.heap Hg4.out (fun h => h.2.2 rfl)
        have hsr : w4.heap.size ≤ wr.heap.size := hmr.size
        have hs4 : w.heap.size < w4.heap.size := by have h1 := Hd3.out.size; have h2 := Hma3.out.size; have h3 : w3.drew.heap.size = w3.heap.size := rfl; omega
        have hadd : ∀ y, Mod (inBlock v) wz y → AddS b m2 wr.heap.size n f3 v x y := fun y hy => by
          refine AddS.at (hy.heap (hmwz.heap hgr (fun h => h)) (fun h => (hvb _ h).1 rfl)) (hy.heap hgwz (fun h => ?_)) ((hp.1.mod hmwz (fun h => h)).mod hy (fun h => (hvb _ h).2.2 rfl)) hv hxf.name
          have := p1.lt _ h
          omega
        have hvo : ∀ k, v.ownBlock = some k → k < w.heap.size := fun k hk => H.out.olow k (p3 k hk)
        have hidr : wr.cell? ⟨w.heap.size, 0, none⟩ = some (.int .i64 id) := hmr.cell Cid.out (fun h => by have := H.out.olow _ h.1; exact Nat.lt_irrefl _ this)
        have hdl := delp_at wz.drew v ps ((p1.mod hmwz (fun _ _ h => h)).drew) (by omega) w.heap.size id (hmwz.cell hidr (fun h => h)) (fun h => by have := hvo _ h; omega)
        have Hxj := Lib.hid hxj
        have Hxq := Lib.hid hxq
        have Hxf := Lib.hid hxf
        have Hrr := Lib.hid hrr
        have Hf := Lib.hid hf
        have Hwz := Lib.hid hwz
        have Hmwz := Lib.hid hmwz
        have Hgwz := Lib.hid hgwz
        have Hp := Lib.hid hp
        have Hkeys := Lib.hid hkeys
        have Hv := Lib.hid hv
        have P1 := Lib.hid p1
        have P3 := Lib.hid p3
        have P4 := Lib.hid p4
        have Hvb := Lib.hid hvb
        have Hgr := Lib.hid hgr
        have Hadd := Lib.hid hadd
        have Hmr := Lib.hid hmr
        have Hvo := Lib.hid hvo
        have Hidr := Lib.hid hidr
        have Hdl := Lib.hid hdl
        clear hxj hxq hxf hrr hf hwz hmwz hgwz hp hkeys hv p1 p3 p4 hvb hgr hadd hmr hvo hidr hdl hzwz
        go_wp2_with (first | ((with_reducible refine wpList_load_lit 81 (.tmp 30) ?_); refine ⟨g, off + j * 7, rfl, x.cells, Hf.out, by kernel_rfl, by kernel_rfl, ?_⟩) | ((with_reducible refine wpList_store_lit 81 (.tmp 8) (.tmp 31) ?_); refine ⟨rfl, x.cells, rfl, rfl, by kernel_rfl, rfl, ?_⟩; rw [Hwz.out]) | fail)
        have hS : AddS b m2 wr.heap.size n f3 v x wz.drew := Hadd.out _ ((Mod.refl _ wz).drew)
        refine wp_region_script [.rd 0, .rd 1, .rd 2, .rd 3, .rd 4, .rd 5, .rd 6, .rd 7, .rd 8, .rd 9, .rd 10, .rd 11, .rd 12, .rd 13, .go 14, .go 15] [0, 1, 2, 3, 4, 5, 6, 7, 8, 9, 10, 11, 12, 13, 14] (AddS b m2 wr.heap.size n f3 v x) (by kernel_rfl) (by kernel_rfl) (fun _ _ d _ _ h => (by cases d <;> exact h)) ?_
        refine walk_rd rfl ?_ (fun _ => hS) ?_ (fun w0 h0 => ?_) (fun K hK => ?_)
        · (try simp only [List.getElem_toArray]); (try simp only [List.getElem_cons_succ]); (try simp only [List.getElem_cons_zero])
          go_simp; done
        rotate_left
        · (try simp only [List.getElem_toArray]); (try simp only [List.getElem_cons_succ]); (try simp only [List.getElem_cons_zero])
          first
            | (obtain ⟨f0, f1, f2, f3, -, f4⟩ := h0 rfl; clear h0; go_simp; with_reducible rfl)
            | (clear h0; go_simp; with_reducible rfl)
        (try simp only [List.getElem_toArray]); (try simp only [List.getElem_cons_succ]); (try simp only [List.getElem_cons_zero])
        go_simp; refine hK _ ?_; clear hK K
        refine walk_rd rfl ?_ (fun _ => hS) ?_ (fun w0 h0 => ?_) (fun K hK => ?_)
        · (try simp only [List.getElem_toArray]); (try simp only [List.getElem_cons_succ]); (try simp only [List.getElem_cons_zero])
          go_simp; done
        rotate_left
        · (try simp only [List.getElem_toArray]); (try simp only [List.getElem_cons_succ]); (try simp only [List.getElem_cons_zero])
          first
            | (obtain ⟨f0, f1, f2, f3, -, f4⟩ := h0 rfl; clear h0; go_simp; with_reducible rfl)
            | (clear h0; go_simp; with_reducible rfl)
        (try simp only [List.getElem_toArray]); (try simp only [List.getElem_cons_succ]); (try simp only [List.getElem_cons_zero])
        go_simp; refine hK _ ?_; clear hK K
        refine walk_rd rfl ?_ (fun _ => hS) ?_ (fun w0 h0 => ?_) (fun K hK => ?_)
        · (try simp only [List.getElem_toArray]); (try simp only [List.getElem_cons_succ]); (try simp only [List.getElem_cons_zero])
          go_simp; done
        rotate_left
        · (try simp only [List.getElem_toArray]); (try simp only [List.getElem_cons_succ]); (try simp only [List.getElem_cons_zero])
          first
            | (obtain ⟨f0, f1, f2, f3, -, f4⟩ := h0 rfl; clear h0; go_simp; with_reducible rfl)
            | (clear h0; go_simp; with_reducible rfl)
        (try simp only [List.getElem_toArray]); (try simp only [List.getElem_cons_succ]); (try simp only [List.getElem_cons_zero])
        go_simp; refine hK _ ?_; clear hK K
        refine walk_rd rfl ?_ (fun _ => hS) ?_ (fun w0 h0 => ?_) (fun K hK => ?_)
        · (try simp only [List.getElem_toArray]); (try simp only [List.getElem_cons_succ]); (try simp only [List.getElem_cons_zero])
          go_simp; done
        rotate_left
        · (try simp only [List.getElem_toArray]); (try simp only [List.getElem_cons_succ]); (try simp only [List.getElem_cons_zero])
          first
            | (obtain ⟨f0, f1, f2, f3, -, f4⟩ := h0 rfl; clear h0; go_simp; with_reducible rfl)
            | (clear h0; go_simp; with_reducible rfl)
        (try simp only [List.getElem_toArray]); (try simp only [List.getElem_cons_succ]); (try simp only [List.getElem_cons_zero])
        go_simp; refine hK _ ?_; clear hK K
        refine walk_rd rfl ?_ (fun _ => hS) ?_ (fun w0 h0 => ?_) (fun K hK => ?_)
        · (try simp only [List.getElem_toArray]); (try simp only [List.getElem_cons_succ]); (try simp only [List.getElem_cons_zero])
          go_simp; done
        rotate_left
        · (try simp only [List.getElem_toArray]); (try simp only [List.getElem_cons_succ]); (try simp only [List.getElem_cons_zero])
          first
            | (obtain ⟨f0, f1, f2, f3, -, f4⟩ := h0 rfl; clear h0; go_simp; with_reducible rfl)
            | (clear h0; go_simp; with_reducible rfl)
        (try simp only [List.getElem_toArray]); (try simp only [List.getElem_cons_succ]); (try simp only [List.getElem_cons_zero])
        go_simp; refine hK _ ?_; clear hK K
        refine walk_rd rfl ?_ (fun _ => hS) ?_ (fun w0 h0 => ?_) (fun K hK => ?_)
        · (try simp only [List.getElem_toArray]); (try simp only [List.getElem_cons_succ]); (try simp only [List.getElem_cons_zero])
          go_simp; done
        rotate_left
        · (try simp only [List.getElem_toArray]); (try simp only [List.getElem_cons_succ]); (try simp only [List.getElem_cons_zero])
          first
            | (obtain ⟨f0, f1, f2, f3, -, f4⟩ := h0 rfl; clear h0; go_simp; with_reducible rfl)
            | (clear h0; go_simp; with_reducible rfl)
        (try simp only [List.getElem_toArray]); (try simp only [List.getElem_cons_succ]); (try simp only [List.getElem_cons_zero])
        go_simp; refine hK _ ?_; clear hK K
        refine walk_rd rfl ?_ (fun _ => hS) ?_ (fun w0 h0 => ?_) (fun K hK => ?_)
        · (try simp only [List.getElem_toArray]); (try simp only [List.getElem_cons_succ]); (try simp only [List.getElem_cons_zero])
          go_simp; done
        rotate_left
        · (try simp only [List.getElem_toArray]); (try simp only [List.getElem_cons_succ]); (try simp only [List.getElem_cons_zero])
          first
            | (obtain ⟨f0, f1, f2, f3, -, f4⟩ := h0 rfl; clear h0; go_simp; with_reducible rfl)
            | (clear h0; go_simp; with_reducible rfl)
        (try simp only [List.getElem_toArray]); (try simp only [List.getElem_cons_succ]); (try simp only [List.getElem_cons_zero])
        go_simp; refine hK _ ?_; clear hK K
        refine walk_rd rfl ?_ (fun _ => hS) ?_ (fun w0 h0 => ?_) (fun K hK => ?_)
        · (try simp only [List.getElem_toArray]); (try simp only [List.getElem_cons_succ]); (try simp only [List.getElem_cons_zero])
          go_simp; done
        rotate_left
        · (try simp only [List.getElem_toArray]); (try simp only [List.getElem_cons_succ]); (try simp only [List.getElem_cons_zero])
          first
            | (obtain ⟨f0, f1, f2, f3, -, f4⟩ := h0 rfl; clear h0; go_simp; with_reducible rfl)
            | (clear h0; go_simp; with_reducible rfl)
        (try simp only [List.getElem_toArray]); (try simp only [List.getElem_cons_succ]); (try simp only [List.getElem_cons_zero])
        go_simp; refine hK _ ?_; clear hK K
        refine walk_rd rfl ?_ (fun _ => hS) ?_ (fun w0 h0 => ?_) (fun K hK => ?_)
        · (try simp only [List.getElem_toArray]); (try simp only [List.getElem_cons_succ]); (try simp only [List.getElem_cons_zero])
          go_simp; done
        rotate_left
        · (try simp only [List.getElem_toArray]); (try simp only [List.getElem_cons_succ]); (try simp only [List.getElem_cons_zero])
          first
            | (obtain ⟨f0, f1, f2, f3, -, f4⟩ := h0 rfl; clear h0; go_simp; with_reducible rfl)
            | (clear h0; go_simp; with_reducible rfl)
        (try simp only [List.getElem_toArray]); (try simp only [List.getElem_cons_succ]); (try simp only [List.getElem_cons_zero])
        go_simp; refine hK _ ?_; clear hK K
        refine walk_rd rfl ?_ (fun _ => hS) ?_ (fun w0 h0 => ?_) (fun K hK => ?_)
        · (try simp only [List.getElem_toArray]); (try simp only [List.getElem_cons_succ]); (try simp only [List.getElem_cons_zero])
          go_simp; done
        rotate_left
        · (try simp only [List.getElem_toArray]); (try simp only [List.getElem_cons_succ]); (try simp only [List.getElem_cons_zero])
          first
            | (obtain ⟨f0, f1, f2, f3, -, f4⟩ := h0 rfl; clear h0; go_simp; with_reducible rfl)
            | (clear h0; go_simp; with_reducible rfl)
        (try simp only [List.getElem_toArray]); (try simp only [List.getElem_cons_succ]); (try simp only [List.getElem_cons_zero])
        go_simp; refine hK _ ?_; clear hK K
        refine walk_rd rfl ?_ (fun _ => hS) ?_ (fun w0 h0 => ?_) (fun K hK => ?_)
        · (try simp only [List.getElem_toArray]); (try simp only [List.getElem_cons_succ]); (try simp only [List.getElem_cons_zero])
          go_simp; done
        rotate_left
        · (try simp only [List.getElem_toArray]); (try simp only [List.getElem_cons_succ]); (try simp only [List.getElem_cons_zero])
          first
            | (obtain ⟨f0, f1, f2, f3, -, f4⟩ := h0 rfl; clear h0; go_simp; with_reducible rfl)
            | (clear h0; go_simp; with_reducible rfl)
        (try simp only [List.getElem_toArray]); (try simp only [List.getElem_cons_succ]); (try simp only [List.getElem_cons_zero])
        go_simp; refine hK _ ?_; clear hK K
        refine walk_rd rfl ?_ (fun _ => hS) ?_ (fun w0 h0 => ?_) (fun K hK => ?_)
        · (try simp only [List.getElem_toArray]); (try simp only [List.getElem_cons_succ]); (try simp only [List.getElem_cons_zero])
          go_simp; done
        rotate_left
        · (try simp only [List.getElem_toArray]); (try simp only [List.getElem_cons_succ]); (try simp only [List.getElem_cons_zero])
          first
            | (obtain ⟨f0, f1, f2, f3, -, f4⟩ := h0 rfl; clear h0; go_simp; with_reducible rfl)
            | (clear h0; go_simp; with_reducible rfl)
        (try simp only [List.getElem_toArray]); (try simp only [List.getElem_cons_succ]); (try simp only [List.getElem_cons_zero])
        go_simp; refine hK _ ?_; clear hK K
        refine walk_rd rfl ?_ (fun _ => hS) ?_ (fun w0 h0 => ?_) (fun K hK => ?_)
        · (try simp only [List.getElem_toArray]); (try simp only [List.getElem_cons_succ]); (try simp only [List.getElem_cons_zero])
          go_simp; done
        rotate_left
        · (try simp only [List.getElem_toArray]); (try simp only [List.getElem_cons_succ]); (try simp only [List.getElem_cons_zero])
          first
            | (obtain ⟨f0, f1, f2, f3, -, f4⟩ := h0 rfl; clear h0; go_simp; with_reducible rfl)
            | (clear h0; go_simp; with_reducible rfl)
        (try simp only [List.getElem_toArray]); (try simp only [List.getElem_cons_succ]); (try simp only [List.getElem_cons_zero])
        go_simp; refine hK _ ?_; clear hK K
        refine walk_rd rfl ?_ (fun _ => hS) ?_ (fun w0 h0 => ?_) (fun K hK => ?_)
        · (try simp only [List.getElem_toArray]); (try simp only [List.getElem_cons_succ]); (try simp only [List.getElem_cons_zero])
          go_simp; done
        rotate_left
        · (try simp only [List.getElem_toArray]); (try simp only [List.getElem_cons_succ]); (try simp only [List.getElem_cons_zero])
          first
            | (obtain ⟨f0, f1, f2, f3, -, f4⟩ := h0 rfl; clear h0; go_simp; with_reducible rfl)
            | (clear h0; go_simp; with_reducible rfl)
        (try simp only [List.getElem_toArray]); (try simp only [List.getElem_cons_succ]); (try simp only [List.getElem_cons_zero])
        go_simp; refine hK _ ?_; clear hK K
        refine walk_one (go_yes rfl ?_ (fun K hK => ?_))
        · (try simp only [List.getElem_toArray]); (try simp only [List.getElem_cons_succ]); (try simp only [List.getElem_cons_zero])
          go_simp; done
        (try simp only [List.getElem_toArray]); (try simp only [List.getElem_cons_succ]); (try simp only [List.getElem_cons_zero])
        go_wp2_with fail
        refine Hdl.out.mono ?_
        rintro e w5 ⟨v', ps', rfl, hps, ho5, hvb5, hm5⟩
        have hmz5 : Mod (inBlock v) wz w5 := ((Mod.refl (inBlock v) wz).drew).trans hm5 (fun _ _ h => h)
        refine hK _ _ (fun _ _ => Hadd.out _ hmz5) ?_
        clear hK K hS
        have h5m : MapR w5 9 m2 n f3 := (Hp.out.1.mod Hmwz.out (fun h => h)).mod hmz5 (fun h => (Hvb.out _ h).2.2 rfl)
        refine walk_one (go_yes rfl ?_ (fun K hK => ?_))
        · (try simp only [List.getElem_toArray]); (try simp only [List.getElem_cons_succ]); (try simp only [List.getElem_cons_zero])
          go_simp; done
        (try simp only [List.getElem_toArray]); (try simp only [List.getElem_cons_succ]); (try simp only [List.getElem_cons_zero])
        refine wp_mput 74 _ _ _ rfl ?_
        refine ⟨9, 82, m2, n, f3, Lit.str x.name, h5m, keyed_s, Tryz.underlying74, by have := Hp.out.2.1; unfold maxLen; omega, rfl, WideMaps.keyOf_string_mk Tryz.underlying9 (by have := Hxf.out.name; unfold maxLen; omega), fun w6 hV1 hV2 => ?_⟩
        have hV : MapR w6 9 m2 n (putF f3 (Lit.str x.name) v') := by
          have h1 := hV1
          rw [if_pos (Hkeys.out x Hxq.out)] at h1
          exact h1
        refine hK _ _ (fun h => absurd h (by decide)) ?_
        clear hK K hV1
        refine walk_nil ?_
        have hdn : ∀ y, idxF (idxD I id) y = if y = id then none else idxF I y := idxF_del I id
        have hst := pmap_cut (I' := idxD I id ++ [(id, (qs, lefts q (j + 1)))]) Hp.out Hv.out Hmwz.out ho5 hvb5 hmz5 (by rw [hps]; exact Nat.le_trans (List.length_filter_le _ _) p2) hV hV2 (fun id' nm' hn => by
          rw [idxF_new (by rw [hdn, if_pos rfl]), idxF_new (by rw [hdn, if_pos rfl])]
          by_cases e : id' = id
          · rw [if_pos e, if_pos e, ofName_lefts Hxj.out, if_neg hn]
          · rw [if_neg e, if_neg e]) (fun id' => by
          have h1 := P4.out id'
          rw [idxF_new (by rw [hdn, if_pos rfl])] at h1 ⊢
          rw [hps, List.filter_filter]
          by_cases e : id' = id
          · rw [if_pos e, ofName_lefts Hxj.out, if_pos rfl, e, List.filter_eq_nil_iff.2 (fun p _ => by cases p.1 == id <;> simp)]
            rfl
          · rw [if_neg e] at h1 ⊢
            rw [← h1]
            congr 1
            congr 1
            funext p
            cases hp : p.1 == id' with
            | false => rfl
            | true =>
              rw [beq_iff_eq] at hp
              have : (p.1 == id) = false := by rw [beq_eq_false_iff_ne, hp]; exact e
              rw [this]
              rfl)
        have hm46 : Mod (fun k => own k ∧ k ≠ m1 ∧ k ≠ b) w4 w6 := ((Hmr.out.trans Hmwz.out (fun _ _ h => h.elim)).upon hmz5 (fun k hk => .inl ⟨P3.out k hk, (Hvb.out k hk).2.1, (Hvb.out k hk).1⟩)).upon hV2 (fun k hk => .inl (by
          subst hk
          exact ⟨H.out.ob.2.2, fun e => hne.2.2 e.symm, fun e => hne.2.1 e.symm⟩))
        have hkk : ∀ c ∈ q, (putF f3 (Lit.str x.name) v' (Lit.str c.name)).isSome = true := fun c hc => by
          unfold putF
          split
          · rfl
          · exact Hkeys.out c hc
        have Hst := Lib.hid hst
        have Hm46 := Lib.hid hm46
        have HV := Lib.hid hV
        have HV2 := Lib.hid hV2
        have Hkk := Lib.hid hkk
        have Ho5 := Lib.hid ho5
        have Hm5 := Lib.hid hm5
        have Hmz5 := Lib.hid hmz5
        have H5m := Lib.hid h5m
        have Hps := Lib.hid hps
        have Hvb5 := Lib.hid hvb5
        have Hdn := Lib.hid hdn
        clear hst hm46 hV hV2 hkk ho5 hm5 hmz5 h5m hps hvb5 hdn
        go_wp2_with fail
        go_roundw
        case rel => exact ⟨j + 1, n, _, by go_num, hlt, Hst.out, Hkk.out, Hm46.out⟩
        case measure => simp [intOf]; omega
      · obtain rfl : j = q.length := by omega
        have hix : IdxAt wr b m1 m2 own C (idxD I id) T := by
          have hlw : ∀ k, own k → k < wr.heap.size := fun k hk => by have h1 := H.out.olow k hk; have h2 := Hx4.out.size; have h3 := hmr.size; omega
          refine ⟨hmr.heap Hg4.out (fun h => h.2.2 rfl), ?_, H.out.ob, hne, Hfm.out.mod hmr (fun h => h.2.1 rfl) (fun k _ h => h.1), ?_, ?_, hlw, fun k hk => by have h1 := H.out.clow k hk; have h2 := Hx4.out.size; have h3 := hmr.size; omega, fun p hp' => H.out.wf p (List.mem_filter.1 hp').1, fun p hp' => H.out.sc p (List.mem_filter.1 hp').1⟩
          · exact (H.out.nd).sublist (List.Sublist.map _ List.filter_sublist)
          · refine PMap.cong (I := idxD I id ++ [(id, (qs, lefts q q.length))]) ⟨n, f3, hp⟩ (fun _ _ h => h) (fun id' nm => ?_) (Nat.le_refl T)
            rw [idxF_new (by rw [idxF_del, if_pos rfl]), idxF_del, lefts_all]
            by_cases e : id' = id
            · rw [if_pos e, if_pos e]; rfl
            · rw [if_neg e, if_neg e]
          · exact Nat.le_trans (List.length_filter_le _ _) H.out.low
        have hmw : Mod own w wr := (Hx4.out.mono (G := own) (fun k _ h => h ▸ H.out.ob.2.1)).upon hmr (fun k hk => .inl hk.1)
        have Hix := Lib.hid hix
        have Hmw := Lib.hid hmw
        have Hmr := Lib.hid hmr
        have Hp := Lib.hid hp
        have Hkeys := Lib.hid hkeys
        clear hix hmw hmr hp hkeys
        go_wp2_with fail
        go_ret
        have hqn : idxF I id ≠ none := by
          rw [Hq.out]
          intro h
          cases h
        exact .inr ⟨hqn, rfl, ⟨m1, m2, Hix.out⟩, Hmw.out⟩
end Go.Proofs.YtloplmaekonenaaGreatDoor
