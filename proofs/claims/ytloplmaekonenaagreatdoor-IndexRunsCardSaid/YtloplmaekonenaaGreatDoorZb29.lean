/-
  Package index: Add.
-/
import Derived.Test.YtloplmaekonenaaGreatDoorZb28
import Derived.Test.YtloplmaekonenaaGreatDoorZb14
namespace Go.Proofs.YtloplmaekonenaaGreatDoor
set_option maxRecDepth 20000
open Go.RowKit

theorem idxF_new {I : List (Int × Fil)} {id : Int} {q : Fil} (h : idxF I id = none) (x : Int) : idxF (I ++ [(id, q)]) x = if x = id then some q else idxF I x := by
  unfold idxF at *
  rw [List.find?_append]
  by_cases hx : x = id
  · subst hx
    rw [if_pos rfl]
    have : I.find? (fun p => p.1 == x) = none := by
      cases hf : I.find? (fun p => p.1 == x) with
      | none => rfl
      | some p => rw [hf] at h; cases h
    rw [this]
    simp
  · rw [if_neg hx]
    cases hf : I.find? (fun p => p.1 == x) with
    | some p => rfl
    | none =>
      have : (id == x) = false := by rw [beq_eq_false_iff_ne]; exact fun e => hx e.symm
      simp [this]
theorem idxF_some {I : List (Int × Fil)} {id : Int} {q : Fil} (h : idxF I id = some q) : (id, q) ∈ I := by
  unfold idxF at h
  cases hf : I.find? (fun p => p.1 == id) with
  | none => rw [hf] at h; cases h
  | some p =>
    rw [hf] at h
    cases h
    have h1 := List.find?_some hf
    have h2 := List.mem_of_find?_eq_some hf
    rw [beq_iff_eq] at h1
    rw [← h1]
    exact h2
theorem idxF_none {I : List (Int × Fil)} {id : Int} (h : idxF I id = none) : id ∉ I.map Prod.fst := by
  intro hm
  obtain ⟨p, hp, rfl⟩ := List.mem_map.1 hm
  unfold idxF at h
  cases hf : I.find? (fun q => q.1 == p.1) with
  | none =>
    have := List.find?_eq_none.1 hf p hp
    simp at this
  | some q => rw [hf] at h; cases h

theorem normC_mem {l : List Cnd} {c : Cnd} (h : c ∈ normC l) : c ∈ sortC l := by
  unfold normC keepC at h
  obtain ⟨⟨d, i⟩, h1, h2⟩ := List.mem_filterMap.1 h
  have h3 := (List.mem_zipIdx h1).2.2
  rw [h3] at h2
  simp only at h2
  split at h2
  · cases h2
  · cases h2
    exact List.mem_of_mem_take (List.getElem_mem _)
theorem normC_len (l : List Cnd) : (normC l).length ≤ l.length := by
  unfold normC
  exact keepC_len _ _
theorem normC_fits {l : List Cnd} (hl : ∀ c ∈ l, c.fits) : ∀ c ∈ normC l, c.fits := fun c hc => by
  obtain ⟨d, hd, rfl⟩ := sortC_mem (normC_mem hc)
  exact norm_fits (hl d hd)
theorem zero_pl (w : World) : (zeroValue 82).run Tryz.prog w = .ok nilS w := by kernel_rfl
/-- What a round of Add reads. -/
def AddS (b m2 cb : Nat) (n : Nat) (f : Lit → Option Value) (v : Value) (x : Cnd) (y : World) : Prop :=
  y.cell? ⟨b, 1, none⟩ = some (.map (some m2)) ∧ y.cell? ⟨cb, 0, none⟩ = some (.string x.name) ∧ AllCells y cb 0 7 ∧ cellsOf y cb 0 7 = #[.string x.name, .int .i64 x.op, .int .i64 x.v.kind, .int .i64 x.v.int, .float .f64 x.v.num, .string x.v.text, .bool x.v.yes] ∧
    MapR y 9 m2 n f ∧ (Instr.lookup 74 (.map (some m2)) (.string x.name) false).run Tryz.prog y = .ok v y
theorem AddS.at {y : World} {b m1 m2 cb n : Nat} {f : Lit → Option Value} {v : Value} {x : Cnd} (h1 : y.heap[b]? = some (.cells #[.map (some m1), .map (some m2)] 76 (0, 0))) (h2 : y.heap[cb]? = some (.cells x.cells.toArray 81 (0, 0)))
    (h3 : MapR y 9 m2 n f) (hv : (f (Lit.str x.name)).getD nilS = v) (hx : x.name.size ≤ 1000000) : AddS b m2 cb n f v x y := by
  refine ⟨cell_of h1 rfl, cell_of h2 rfl, (CellsAt.row h2).all rfl, (CellsAt.row h2).is rfl, h3, ?_⟩
  rw [← hv]
  exact h3.look keyed_s Tryz.underlying74 (zero_pl y) (WideMaps.keyOf_string_mk Tryz.underlying9 (by unfold maxLen; omega))

/-- The loop over the conditions. -/
def IAddRel (w4 : World) (b m1 m2 : Nat) (own : Nat → Prop) (I : List (Int × Fil)) (T : Nat) (id : Int) (sc : ByteArray) (nl : List Cnd) (i : Value) (wr : World) : Prop :=
  ∃ j : Nat, i = .int .i64 j ∧ j ≤ nl.length ∧ PMap wr b m1 m2 (fun k => own k ∨ w4.heap.size ≤ k) (I ++ [(id, (sc, nl.take j))]) (T + j) ∧ Mod (fun k => own k ∧ k ≠ m1 ∧ k ≠ b) w4 wr

/-- What Add leaves. -/
def IAddPost (w : World) (b : Nat) (own C : Nat → Prop) (I : List (Int × Fil)) (T : Nat) (id : Int) (sc : ByteArray) (l : List Cnd) (e : Ending) (w' : World) : Prop :=
  (idxF I id ≠ none ∧ e = .returned (.bool false) ∧ Mod (fun _ => False) w w') ∨
  (idxF I id = none ∧ e = .returned (.bool true) ∧ ∃ own' C', Idx w' b own' C' (I ++ [(id, (sc, normC l))]) (T + 20) ∧ (∀ k, own k → own' k) ∧ (∀ k, own' k → own k ∨ w.heap.size ≤ k) ∧ (∀ k, C' k → C k ∨ w.heap.size ≤ k) ∧ Mod own w w')

theorem zero_fil (w : World) : (zeroValue 29).run Tryz.prog w = .ok (.agg #[.string ⟨#[]⟩, .slice none 0 0]) w := by kernel_rfl
theorem places_T : SliceT Tryz.prog 82 85 8 80 := sliceT (by kernel_rfl) (by kernel_rfl)

theorem str_inj {a b : ByteArray} (h : Lit.str a = Lit.str b) : a = b := by
  unfold Lit.str at h
  exact ByteArray.ext (Array.toList_inj.1 (Lit.string.inj h))
/-- One condition more stands under its name. -/
theorem pmap_step {wr wz w5 w6 : World} {b m1 m2 n T : Nat} {ownL : Nat → Prop} {I I' : List (Int × Fil)} {f : Lit → Option Value} {x : Cnd} {id : Int} {v v' : Value} {ps : List (Int × Cnd)}
    (h2 : n ≤ T) (h3 : ∀ nm : ByteArray, Plac wr ownL I T nm ((f (Lit.str nm)).getD nilS)) (h4 : ∀ nm k, ((f (Lit.str nm)).getD nilS).ownBlock = some k → k ≠ b ∧ k ≠ m1 ∧ k ≠ m2)
    (h5 : ∀ nm nm' k, ((f (Lit.str nm)).getD nilS).ownBlock = some k → ((f (Lit.str nm')).getD nilS).ownBlock = some k → nm = nm') (hv : (f (Lit.str x.name)).getD nilS = v)
    (hpT : ps.length ≤ T) (hpi : ∀ id, (ps.filter fun p => p.1 == id).map Prod.snd = ofName (idxF I id) x.name)
    (hz : Mod (fun _ => False) wr wz) (ha : Appended wz 85 8 v (ps.length + 1) (pls ps ++ pcell (id, x)) v' w5)
    (h6 : MapR w6 9 m2 (if (f (Lit.str x.name)).isSome then n else n + 1) (putF f (Lit.str x.name) v')) (hm6 : Mod (fun k => k = m2) w5 w6) (hL : ∀ k, wr.heap.size ≤ k → ownL k) (hb : b < wr.heap.size ∧ m1 < wr.heap.size ∧ m2 < wr.heap.size)
    (hI : ∀ id' nm', ofName (idxF I' id') nm' = ofName (idxF I id') nm' ++ if id' = id ∧ nm' = x.name then [x] else []) : PMap w6 b m1 m2 ownL I' (T + 1) := by
  obtain ⟨a1, a2, a3⟩ := ha
  have hvb := h4 x.name
  rw [hv] at hvb
  -- the new slice's block
  have hnew : ∀ k, v'.ownBlock = some k → (v.ownBlock = some k) ∨ wr.heap.size ≤ k := fun k hk => by
    rcases a3 with a3 | ⟨k', a3, a4⟩
    · exact .inl (a3 ▸ hk)
    · rw [a3] at hk; cases hk; exact .inr (Nat.le_trans hz.size a4)
  obtain ⟨ps0, q1, q2, q3, q4⟩ := h3 x.name
  rw [hv] at q1 q3
  have look : ∀ nm, (putF f (Lit.str x.name) v' (Lit.str nm)).getD nilS = if nm = x.name then v' else (f (Lit.str nm)).getD nilS := fun nm => by
    unfold putF
    by_cases e : nm = x.name
    · rw [if_pos e, if_pos (by rw [e])]; rfl
    · rw [if_neg e, if_neg (fun e' => e (str_inj e'))]
  refine ⟨_, _, h6, by split <;> omega, fun nm => ?_, fun nm k hk => ?_, fun nm nm' k hk hk' => ?_⟩
  · rw [look]
    by_cases e : nm = x.name
    · rw [if_pos e]
      subst e
      refine ⟨ps ++ [(id, x)], ?_, by rw [List.length_append]; simp; omega, fun k hk => ?_, fun id' => ?_⟩
      · rw [pls_append, List.length_append, show pls [(id, x)] = pcell (id, x) from List.append_nil _]
        refine a1.mod hm6 fun k hk e => ?_
        rcases hnew k hk with h | h
        · exact (hvb k h).2.2 e
        · omega
      · rcases hnew k hk with h | h
        · exact q3 k h
        · exact hL k h
      · rw [hI, List.filter_append, List.map_append, hpi]
        congr 1
        by_cases e : id' = id
        · subst e
          rw [if_pos ⟨rfl, rfl⟩]
          simp
        · rw [if_neg (fun h => e h.1)]
          have : (id == id') = false := by rw [beq_eq_false_iff_ne]; exact fun h => e h.symm
          simp [this]
    · rw [if_neg e]
      obtain ⟨qs, r1, r2, r3, r4⟩ := h3 nm
      refine ⟨qs, ?_, by omega, r3, fun id' => ?_⟩
      · refine ((r1.mod hz (fun _ _ h => h)).mod a2 (fun k hk hi => ?_)).mod hm6 (fun k hk e' => (h4 nm k hk).2.2 e')
        exact e (h5 nm x.name k hk (by rw [hv]; exact hi))
      · rw [hI, if_neg (fun h => e h.2), List.append_nil]; exact r4 id'
  · rw [look] at hk
    by_cases e : nm = x.name
    · rw [if_pos e] at hk
      rcases hnew k hk with h | h
      · exact hvb k h
      · omega
    · rw [if_neg e] at hk
      exact h4 nm k hk
  · rw [look] at hk hk'
    have lt : ∀ nm k, ((f (Lit.str nm)).getD nilS).ownBlock = some k → k < wr.heap.size := fun nm k hk => by
      obtain ⟨qs, r1, -⟩ := h3 nm
      exact r1.lt k hk
    by_cases e : nm = x.name <;> by_cases e' : nm' = x.name
    · rw [e, e']
    · rw [if_pos e] at hk
      rw [if_neg e'] at hk'
      rcases hnew k hk with h | h
      · rw [e]; exact h5 x.name nm' k (by rw [hv]; exact h) hk'
      · have := lt nm' k hk'; omega
    · rw [if_neg e] at hk
      rw [if_pos e'] at hk'
      rcases hnew k hk' with h | h
      · rw [e']; exact h5 nm x.name k hk (by rw [hv]; exact h)
      · have := lt nm k hk; omega
    · rw [if_neg e] at hk
      rw [if_neg e'] at hk'
      exact h5 nm nm' k hk hk'

theorem wp_mput {o : Oper} {a : Act} {w : World} {K : Act → World → Prop} {Q : Exit → Act → World → Prop} (t : TypeId) (m x v : Operand) (ho : o.op = .mapUpdate t m x v)
    (h : ∃ (kt e : TypeId) (b n : Nat) (f : Lit → Option Value) (kl : Lit), MapR w kt b n f ∧ Maps.Keyed Tryz.prog kt ∧ Tryz.prog.underlying t = some (.map kt e) ∧ n < maxLen ∧ a.eval m = .map (some b) ∧ keyOf Tryz.prog kt (a.eval x) = some kl ∧
      ∀ w', MapR w' kt b (if (f kl).isSome then n else n + 1) (putF f kl (a.eval v)) → Mod (fun k => k = b) w w' → K (a.put o.dst undef) w') : o.wp Tryz.prog a w K Q := by
  obtain ⟨kt, e, b, n, f, kl, h1, K1, ht, hn, hm, hkey, hK⟩ := h
  obtain ⟨w', hrun, r1, r2⟩ := h1.put K1 ht hn hkey (a.eval v)
  unfold Oper.wp
  simp [execOp, ho, hm, hrun, Result.andThen]
  exact hK w' r1 r2

theorem FMap.anti {w : World} {m1 : Nat} {own own' C : Nat → Prop} {I : List (Int × Fil)} (h : FMap w m1 own C I) (ho : ∀ k, own' k → own k) : FMap w m1 own' C I := by
  obtain ⟨f, h1, h2⟩ := h
  refine ⟨f, h1, fun id => ?_⟩
  have h3 := h2 id
  cases hf : f (.int .i64 id) <;> cases hi : idxF I id <;> rw [hf, hi] at h3
  · trivial
  · exact h3
  · exact h3
  · obtain ⟨a, cap, e1, e2, e3⟩ := h3
    exact ⟨a, cap, e1, e2, fun k hk => ⟨(e3 k hk).1, fun h => (e3 k hk).2.1 (ho k h), (e3 k hk).2.2⟩⟩
theorem FMap.put {w w6 : World} {m1 : Nat} {own own' C C' : Nat → Prop} {I : List (Int × Fil)} {f : Lit → Option Value} {id : Int} {v : Value} {q : Fil} (h2 : ∀ id : Int, FilIs w own C (f (.int .i64 id)) (idxF I id)) (hn : idxF I id = none) (h6 : MapR w6 3 m1 (I.length + 1) (putF f (.int .i64 id) v))
    (hm : Mod (fun k => k = m1) w w6) (hm1 : own m1) (hq : FilIs w6 own' C' (some v) (some q)) (ho : ∀ k, k < w.heap.size → own' k → own k) (hC : ∀ k, C k → C' k) : FMap w6 m1 own' C' (I ++ [(id, q)]) := by
  refine ⟨_, by rw [List.length_append]; exact h6, fun x => ?_⟩
  rw [idxF_new hn]
  unfold putF
  by_cases e : x = id
  · rw [if_pos e, if_pos (by rw [e])]; exact hq
  · rw [if_neg e, if_neg (fun h => e (Lit.int.inj h).2)]
    have h3 := (h2 x).mod hm (fun k _ e => e ▸ hm1)
    cases hf : f (.int .i64 x) <;> cases hi : idxF I x <;> rw [hf, hi] at h3
    · trivial
    · exact h3
    · exact h3
    · have h4 := h2 x
      rw [hf, hi] at h4
      obtain ⟨a, cap, e1, -, e3⟩ := h4
      obtain ⟨a', cap', e1', h5, h6⟩ := h3
      rw [e1] at e1'
      cases e1'
      exact ⟨a, cap, e1, h5, fun k hk => ⟨(h6 k hk).1, fun h => (e3 k hk).2.1 (ho k (e3 k hk).1 h), hC k (e3 k hk).2.2⟩⟩

attribute [local go_sem ↓] run_load_cd
set_option maxHeartbeats 8000000 in
theorem iadd_at (w0 w : World) (hl : Laid w0 w) (b : Nat) (own C : Nat → Prop) (I : List (Int × Fil)) (T : Nat) (h : Idx w b own C I T) (hT : T ≤ 100000) (hown : ∀ k, own k → w0.heap.size ≤ k) (id : Int) (hid : (Lit.int .i64 id).wf = true)
    (sc : ByteArray) (cv : Value) (l : List Cnd) (hv : RdSl w 7 cv l.length (cnds l)) (hll : l.length < 20) (hcs : ∀ c ∈ l, c.fits) (hsc : sc.size ≤ 1000000) :
    Calls Tryz.prog 21 #[.pointer (some ⟨b, 0, none⟩), .int .i64 id, .agg #[.string sc, cv]] w (IAddPost w b own C I T id sc l) := by
  obtain ⟨m1, m2, h⟩ := h
  obtain ⟨a, cap, rfl, hcap⟩ : ∃ a c, cv = .slice a l.length c ∧ l.length ≤ c := by obtain ⟨-, a, c, h, h2, -⟩ := hv; exact ⟨a, c, h, h2⟩
  obtain ⟨wa, hwa⟩ : ∃ wa : World, w.alloc (.cells #[.string sc, .slice a l.length cap] 29) = wa := ⟨_, rfl⟩
  have hmwa : Mod (fun _ => False) w wa := hwa ▸ (Mod.refl (fun _ => False) w).alloc _
  have hgwa := heap_alloc_new w (.cells #[.string sc, .slice a l.length cap] 29)
  rw [hwa] at hgwa
  have hzwa : wa.heap.size = w.heap.size + 1 := by rw [← hwa]; simp
  have hva := hv.mod hmwa (fun _ _ h => h)
  have hia := h.mod hmwa (fun _ _ h => h)
  obtain ⟨f, hf1, hf2⟩ := hia.fm
  have hkey : keyOf Tryz.prog 3 (.int .i64 id) = some (.int .i64 id) := Maps.keyOf_int_mk Tryz.underlying3 hid
  have hlk := hf1.look_ok keyed_i Tryz.underlying26 (zero_fil wa) hkey
  have c0 : wa.cell? ⟨b, 0, none⟩ = some (.map (some m1)) := cell_of hia.row rfl
  have hfi := hf2 id
  cases hq : idxF I id with
  | some q =>
    rw [hq] at hfi
    cases hfv : f (.int .i64 id) with
    | none => rw [hfv] at hfi; exact hfi.elim
    | some v =>
      rw [hfv] at hfi hlk
      obtain ⟨qa, qc, rfl, -⟩ := hfi
      simp only [Option.getD_some, Option.isSome_some] at hlk
      have hqn : idxF I id ≠ none := by rw [hq]; intro h; cases h
      have Hv := Lib.hid hv
      have Hl := Lib.hid hl
      have H := Lib.hid h
      have Hva := Lib.hid hva
      have Hia := Lib.hid hia
      have Hf1 := Lib.hid hf1
      have Hf2 := Lib.hid hf2
      have Hq := Lib.hid hq
      have Hfv := Lib.hid hfv
      have Hqn := Lib.hid hqn
      have Hcs := Lib.hid hcs
      have Hwa := Lib.hid hwa
      have Hgwa := Lib.hid hgwa
      have Hmwa := Lib.hid hmwa
      have Hown := Lib.hid hown
      have Hid := Lib.hid hid
      have Hkey := Lib.hid hkey
      clear hv hl h hva hia hf1 hf2 hq hfv hqn hcs hwa hgwa hmwa hown hid hkey hzwa
      go_enter Tryz.func21, Tryz.ntmps21
      go_wp2_with (first | (rw [show w.alloc _ = wa from Hwa.out]) | fail)
      go_ret
      exact .inl ⟨Hqn.out, rfl, Hmwa.out.alloc _⟩
  | none =>
    rw [hq] at hfi
    cases hfv : f (.int .i64 id) with
    | some v => rw [hfv] at hfi; exact hfi.elim
    | none =>
      rw [hfv] at hlk
      simp only [Option.getD_none, Option.isSome_none] at hlk
      obtain ⟨wb, hwb⟩ : ∃ wb : World, wa.alloc (.cells #[.string ⟨#[]⟩, .slice none 0 0] 29) = wb := ⟨_, rfl⟩
      have hmwb : Mod (fun _ => False) wa wb := hwb ▸ (Mod.refl (fun _ => False) wa).alloc _
      have hgwb := heap_alloc_new wa (.cells #[.string ⟨#[]⟩, .slice none 0 0] 29)
      rw [hwb] at hgwb
      have hzwb : wb.heap.size = wa.heap.size + 1 := by rw [← hwb]; simp
      have hm2 := hmwa.trans hmwb (fun _ _ h => h)
      have hnm := norm_at w0 wb (hl.mod0 hm2) sc (.slice a l.length cap) l (hva.mod hmwb (fun _ _ h => h)) hll hcs
      have hib := hia.mod hmwb (fun _ _ h => h)
      have hgb := hmwb.heap hgwa (fun h => h)
      have d0 : wb.cell? ⟨w.heap.size, 0, none⟩ = some (.string sc) := cell_of hgb rfl
      have d1 : wb.cell? ⟨w.heap.size, 1, none⟩ = some (.slice a l.length cap) := cell_of hgb rfl
      have hbz : b < w.heap.size := h.olow _ h.ob.1
      have Hv := Lib.hid hv
      have Hl := Lib.hid hl
      have H := Lib.hid h
      have Hva := Lib.hid hva
      have Hia := Lib.hid hia
      have Hf1 := Lib.hid hf1
      have Hf2 := Lib.hid hf2
      have Hq := Lib.hid hq
      have Hfv := Lib.hid hfv
      have Hcs := Lib.hid hcs
      have Hwa := Lib.hid hwa
      have Hgwa := Lib.hid hgwa
      have Hmwa := Lib.hid hmwa
      have Hown := Lib.hid hown
      have Hid := Lib.hid hid
      have Hkey := Lib.hid hkey
      have Hwb := Lib.hid hwb
      have Hgwb := Lib.hid hgwb
      have Hmwb := Lib.hid hmwb
      have Hm2 := Lib.hid hm2
      have Hnm := Lib.hid hnm
      have Hib := Lib.hid hib
      have Hgb := Lib.hid hgb
      clear hv hl h hva hia hf1 hf2 hq hfv hcs hwa hgwa hmwa hown hid hkey hwb hgwb hmwb hm2 hnm hib hgb hzwa hzwb
      go_enter Tryz.func21, Tryz.ntmps21
      go_wp2_with (first | (rw [show w.alloc _ = wa from Hwa.out]) | ((with_reducible refine wpList_store_lit 29 (.tmp 7) (.tmp 18) ?_); refine ⟨rfl, [.string ⟨#[]⟩, .slice none 0 0], rfl, rfl, by kernel_rfl, rfl, ?_⟩; rw [Hwb.out]) | fail)
      refine Hnm.out.mono ?_
      rintro e w2 ⟨na, nc, rfl, hno, hnf, hm3⟩
      have hg2 := hm3.heap Hgb.out (fun h => h)
      have hi2 := Hib.out.mod hm3 (fun _ _ h => h)
      obtain ⟨nl, hnl⟩ : ∃ nl, normC l = nl := ⟨_, rfl⟩
      rw [hnl] at hno hnf ⊢
      have hnlen : nl.length < 20 := by rw [← hnl]; exact Nat.lt_of_le_of_lt (normC_len l) hll
      have hm02 := Hm2.out.trans hm3 (fun _ _ h => h)
      have Hg2 := Lib.hid hg2
      have Hi2 := Lib.hid hi2
      have Hnl := Lib.hid hnl
      have Hno := Lib.hid hno
      have Hnf := Lib.hid hnf
      have Hm3 := Lib.hid hm3
      have Hm02 := Lib.hid hm02
      clear hg2 hi2 hnl hno hnf hm3 hm02 hlk c0 d0 d1
      go_wp2_with (first | ((with_reducible refine wpList_store_row_lit 29 (.tmp 5) (.tmp 22) ?_); refine ⟨w.heap.size, rfl, _, _, Hg2.out, [.string sc, .slice na nl.length nc], rfl, rfl, by kernel_rfl, rfl, ?_⟩; intro w3 hg3 hmw3; have Hg3 := Lib.hid hg3; have Hmw3 := Lib.hid hmw3; clear hg3 hmw3) | fail)
      have hgz := (Hmw3.out).heap Hi2.out.row (fun h => by omega)
      have hSb : (fun y : World => y.cell? ⟨b, 0, none⟩ = some (.map (some m1)) ∧ y.cell? ⟨w.heap.size, 0, none⟩ = some (.string sc) ∧ y.cell? ⟨w.heap.size, 1, none⟩ = some (.slice na nl.length nc)) w3.drew :=
        ⟨cell_of hgz rfl, cell_of Hg3.out rfl, cell_of Hg3.out rfl⟩
      obtain ⟨fz, hz1, hz2⟩ := H.out.fm
      have hm03 : Mod (fun k => k = w.heap.size) w w3.drew := (Hm02.out.mono (fun _ _ h => h.elim)).trans Hmw3.out.drew (fun _ _ h => h)
      have hzm := hz1.mod hm03 (fun h => by have := H.out.olow _ H.out.ob.2.1; omega)
      have Hgz := Lib.hid hgz
      have Hz1 := Lib.hid hz1
      have Hz2 := Lib.hid hz2
      have Hzm := Lib.hid hzm
      have Hm03 := Lib.hid hm03
      clear hgz hz1 hz2 hzm hm03
      have hS := hSb
      refine wp_region_script [.rd 0, .rd 1, .rd 2, .rd 3, .rd 4, .rd 5, .go 6] [0, 1, 2, 3, 4, 5] (fun y : World => y.cell? ⟨b, 0, none⟩ = some (.map (some m1)) ∧ y.cell? ⟨w.heap.size, 0, none⟩ = some (.string sc) ∧ y.cell? ⟨w.heap.size, 1, none⟩ = some (.slice na nl.length nc)) (by kernel_rfl) (by kernel_rfl) (fun _ _ d _ _ h => (by cases d <;> exact h)) ?_
      refine walk_rd rfl ?_ (fun _ => hS) ?_ (fun w0 h0 => ?_) (fun K hK => ?_)
      · (try simp only [List.getElem_toArray]); (try simp only [List.getElem_cons_succ]); (try simp only [List.getElem_cons_zero])
        go_simp; done
      rotate_left
      · (try simp only [List.getElem_toArray]); (try simp only [List.getElem_cons_succ]); (try simp only [List.getElem_cons_zero])
        first
          | (obtain ⟨f0, f1, f2⟩ := h0 rfl; clear h0; go_simp; with_reducible rfl)
          | (clear h0; go_simp; with_reducible rfl)
      (try simp only [List.getElem_toArray]); (try simp only [List.getElem_cons_succ]); (try simp only [List.getElem_cons_zero])
      go_simp; refine hK _ ?_; clear hK K
      refine walk_rd rfl ?_ (fun _ => hS) ?_ (fun w0 h0 => ?_) (fun K hK => ?_)
      · (try simp only [List.getElem_toArray]); (try simp only [List.getElem_cons_succ]); (try simp only [List.getElem_cons_zero])
        go_simp; done
      rotate_left
      · (try simp only [List.getElem_toArray]); (try simp only [List.getElem_cons_succ]); (try simp only [List.getElem_cons_zero])
        first
          | (obtain ⟨f0, f1, f2⟩ := h0 rfl; clear h0; go_simp; with_reducible rfl)
          | (clear h0; go_simp; with_reducible rfl)
      (try simp only [List.getElem_toArray]); (try simp only [List.getElem_cons_succ]); (try simp only [List.getElem_cons_zero])
      go_simp; refine hK _ ?_; clear hK K
      refine walk_rd rfl ?_ (fun _ => hS) ?_ (fun w0 h0 => ?_) (fun K hK => ?_)
      · (try simp only [List.getElem_toArray]); (try simp only [List.getElem_cons_succ]); (try simp only [List.getElem_cons_zero])
        go_simp; done
      rotate_left
      · (try simp only [List.getElem_toArray]); (try simp only [List.getElem_cons_succ]); (try simp only [List.getElem_cons_zero])
        first
          | (obtain ⟨f0, f1, f2⟩ := h0 rfl; clear h0; go_simp; with_reducible rfl)
          | (clear h0; go_simp; with_reducible rfl)
      (try simp only [List.getElem_toArray]); (try simp only [List.getElem_cons_succ]); (try simp only [List.getElem_cons_zero])
      go_simp; refine hK _ ?_; clear hK K
      refine walk_rd rfl ?_ (fun _ => hS) ?_ (fun w0 h0 => ?_) (fun K hK => ?_)
      · (try simp only [List.getElem_toArray]); (try simp only [List.getElem_cons_succ]); (try simp only [List.getElem_cons_zero])
        go_simp; done
      rotate_left
      · (try simp only [List.getElem_toArray]); (try simp only [List.getElem_cons_succ]); (try simp only [List.getElem_cons_zero])
        first
          | (obtain ⟨f0, f1, f2⟩ := h0 rfl; clear h0; go_simp; with_reducible rfl)
          | (clear h0; go_simp; with_reducible rfl)
      (try simp only [List.getElem_toArray]); (try simp only [List.getElem_cons_succ]); (try simp only [List.getElem_cons_zero])
      go_simp; refine hK _ ?_; clear hK K
      refine walk_rd rfl ?_ (fun _ => hS) ?_ (fun w0 h0 => ?_) (fun K hK => ?_)
      · (try simp only [List.getElem_toArray]); (try simp only [List.getElem_cons_succ]); (try simp only [List.getElem_cons_zero])
        go_simp; done
      rotate_left
      · (try simp only [List.getElem_toArray]); (try simp only [List.getElem_cons_succ]); (try simp only [List.getElem_cons_zero])
        first
          | (obtain ⟨f0, f1, f2⟩ := h0 rfl; clear h0; go_simp; with_reducible rfl)
          | (clear h0; go_simp; with_reducible rfl)
      (try simp only [List.getElem_toArray]); (try simp only [List.getElem_cons_succ]); (try simp only [List.getElem_cons_zero])
      go_simp; refine hK _ ?_; clear hK K
      refine walk_rd rfl ?_ (fun _ => hS) ?_ (fun w0 h0 => ?_) (fun K hK => ?_)
      · (try simp only [List.getElem_toArray]); (try simp only [List.getElem_cons_succ]); (try simp only [List.getElem_cons_zero])
        go_simp; done
      rotate_left
      · (try simp only [List.getElem_toArray]); (try simp only [List.getElem_cons_succ]); (try simp only [List.getElem_cons_zero])
        first
          | (obtain ⟨f0, f1, f2⟩ := h0 rfl; clear h0; go_simp; with_reducible rfl)
          | (clear h0; go_simp; with_reducible rfl)
      (try simp only [List.getElem_toArray]); (try simp only [List.getElem_cons_succ]); (try simp only [List.getElem_cons_zero])
      go_simp; refine hK _ ?_; clear hK K
      refine walk_one (go_yes rfl ?_ (fun K hK => ?_))
      · (try simp only [List.getElem_toArray]); (try simp only [List.getElem_cons_succ]); (try simp only [List.getElem_cons_zero])
        go_simp; done
      (try simp only [List.getElem_toArray]); (try simp only [List.getElem_cons_succ]); (try simp only [List.getElem_cons_zero])
      refine wp_mput 26 _ _ _ rfl ?_
      refine ⟨3, 29, m1, I.length, fz, .int .i64 id, Hzm.out, keyed_i, Tryz.underlying26, by have := H.out.low; unfold maxLen; omega, rfl, Hkey.out, fun w4 hU1 hU2 => ?_⟩
      refine hK _ _ (fun h => absurd h (by decide)) ?_
      clear hK K
      refine walk_nil ?_
      have hfz : fz (.int .i64 id) = none := by
        have h1 := Hz2.out id
        rw [Hq.out] at h1
        cases h2 : fz (.int .i64 id) with
        | none => rfl
        | some v => rw [h2] at h1; exact h1.elim
      have hu : MapR w4 3 m1 (I.length + 1) (putF fz (.int .i64 id) (.agg #[.string sc, .slice na nl.length nc])) := by
        have h1 := hU1
        rw [hfz] at h1
        exact h1
      have hm24 : Mod (fun k => k = w.heap.size ∨ k = m1) w2 w4 := (Hmw3.out.drew.mono (fun _ _ h => .inl h)).trans (hU2.mono (G := fun k => k = w.heap.size ∨ k = m1) (fun _ _ h => .inr h)) (fun _ _ h => h)
      have hmlt : m1 < w.heap.size := H.out.olow _ H.out.ob.2.1
      have hm2lt : m2 < w.heap.size := H.out.olow _ H.out.ob.2.2
      have hsz : w.heap.size < w2.heap.size := by have h1 := Hmwb.out.size; have h2 := Hm3.out.size; have h3 := (Array.getElem?_eq_some_iff.1 Hgwa.out).1; omega
      have hs24 : w2.heap.size ≤ w4.heap.size := hm24.size
      have hnb : ∀ k, (Value.slice na nl.length nc).ownBlock = some k → k ≠ w.heap.size ∧ ¬ own k ∧ k < w2.heap.size := fun k hk => by
        have h1 := Hnf.out k hk
        have h2 := (Array.getElem?_eq_some_iff.1 Hgb.out).1
        exact ⟨by omega, fun h => by have := H.out.olow _ h; omega, Hno.out.lt k hk⟩
      have ho4 : OwnSl w4 81 7 (.slice na nl.length nc) nl.length (cnds nl) := Hno.out.mod hm24 (fun k hk h => by
        rcases h with h | h
        · exact (hnb k hk).1 h
        · exact (hnb k hk).2.1 (h ▸ H.out.ob.2.1))
      have hr4 := ho4.rd
      have hp4 : PMap w4 b m1 m2 (fun k => own k ∨ w4.heap.size ≤ k) (I ++ [(id, (sc, nl.take 0))]) (T + 0) := (Hi2.out.pm.mod hm24 (by intro h; have := H.out.ne; omega) (fun k h1 h2 h3 h4 _ h5 => by have := H.out.olow _ h1; omega)).cong (fun k _ h => .inl h) (fun id' nm => by
        rw [idxF_new Hq.out]
        by_cases e : id' = id
        · rw [if_pos e, e, Hq.out]; rfl
        · rw [if_neg e]) (Nat.le_refl _)
      have hq4 : FMap w4 m1 (fun k => own k ∨ w4.heap.size ≤ k) (fun k => C k ∨ (Value.slice na nl.length nc).ownBlock = some k) (I ++ [(id, (sc, nl))]) := by
        refine FMap.put (w := w3.drew) (own := own) (fun x => (Hz2.out x).mod Hm03.out (fun k hk h => by omega)) Hq.out hu hU2 H.out.ob.2.1 ⟨na, nc, rfl, ho4, fun k hk => ?_⟩ (fun k hk h => ?_) (fun _ => .inl)
        · have h1 := hnb k hk
          exact ⟨by omega, fun h => h.elim h1.2.1 (fun h => by omega), .inr hk⟩
        · have h3 : k < w3.heap.size := hk
          have h4 : w3.heap.size ≤ w4.heap.size := hU2.size
          exact h.elim (fun h => h) (fun h => by omega)
      have e1 : w4.cell? ⟨w.heap.size, 1, none⟩ = some (.slice na nl.length nc) := (hU2.cell (show w3.drew.cell? _ = _ from cell_of Hg3.out rfl) (fun h => by have h' : w.heap.size = m1 := h; omega))
      have hg4 : w4.heap[b]? = some (.cells #[.map (some m1), .map (some m2)] 76 (0, 0)) := hU2.heap Hgz.out H.out.ne.1
      have HU1 := Lib.hid hU1
      have HU2 := Lib.hid hU2
      have Hfz := Lib.hid hfz
      have Hu := Lib.hid hu
      have Hm24 := Lib.hid hm24
      have Hnb := Lib.hid hnb
      have Ho4 := Lib.hid ho4
      have Hr4 := Lib.hid hr4
      have Hp4 := Lib.hid hp4
      have Hq4 := Lib.hid hq4
      have Hg4 := Lib.hid hg4
      clear hU1 hU2 hfz hu hm24 hnb ho4 hr4 hp4 hq4 hg4 hS hSb
      go_wp2_with fail
      go_loopw [32] (fun i wr => IAddRel w4 b m1 m2 own I T id sc nl i wr) (fun i _ => nl.length - (intOf i).toNat)
      case atStart => exact ⟨0, rfl, Nat.zero_le _, Hp4.out, Mod.refl _ _⟩
      case round =>
        obtain ⟨j, rfl, hj, hp, hmr⟩ := hrel
        by_cases hlt : j < nl.length
        · have hlt' : (j : Int) < nl.length := by omega
          obtain ⟨x, hxj⟩ : ∃ x, nl[j]? = some x := ⟨_, List.getElem?_eq_getElem hlt⟩
          have hxf : x.fits := normC_fits Hcs.out x (by rw [Hnl.out]; exact List.mem_of_getElem? hxj)
          have hrr : RdSl wr 7 (.slice na nl.length nc) nl.length (cnds nl) := Hr4.out.mod hmr (fun k hk h => (Hnb.out k hk).2.1 h.1)
          obtain ⟨g, off, rfl, hf⟩ : ∃ g off, na = some ⟨g, off, none⟩ ∧ CellsAt wr g (off + j * 7) x.cells := rd_cnd hrr hxj
          obtain ⟨wz, hwz⟩ : ∃ wz : World, wr.alloc (.cells x.cells.toArray 81) = wz := ⟨_, rfl⟩
          have hmwz : Mod (fun _ => False) wr wz := hwz ▸ (Mod.refl (fun _ => False) wr).alloc _
          have hgwz := heap_alloc_new wr (.cells x.cells.toArray 81)
          rw [hwz] at hgwz
          have hzwz : wz.heap.size = wr.heap.size + 1 := by rw [← hwz]; simp
          obtain ⟨n, f2, g1, g2, g3, g4, g5⟩ := hp
          obtain ⟨v, hv⟩ : ∃ v, (f2 (Lit.str x.name)).getD nilS = v := ⟨_, rfl⟩
          obtain ⟨ps, p1, p2, p3, p4⟩ := g3 x.name
          rw [hv] at p1 p3
          have hvb := g4 x.name
          rw [hv] at hvb
          have hgr : wr.heap[b]? = some (.cells #[.map (some m1), .map (some m2)] 76 (0, 0)) := hmr.heap Hg4.out (fun h => h.2.2 rfl)
          have hsr : w4.heap.size ≤ wr.heap.size := hmr.size
          have hadd : ∀ y, Mod (inBlock v) wz y → AddS b m2 wr.heap.size n f2 v x y := fun y hy => by
            refine AddS.at (hy.heap (hmwz.heap hgr (fun h => h)) (fun h => (hvb _ h).1 rfl)) (hy.heap hgwz (fun h => ?_)) ((g1.mod hmwz (fun h => h)).mod hy (fun h => (hvb _ h).2.2 rfl)) hv hxf.name
            have := p1.lt _ h
            omega
          have Hxj := Lib.hid hxj
          have Hxf := Lib.hid hxf
          have Hrr := Lib.hid hrr
          have Hf := Lib.hid hf
          have Hwz := Lib.hid hwz
          have Hmwz := Lib.hid hmwz
          have Hgwz := Lib.hid hgwz
          have G1 := Lib.hid g1
          have G2 := Lib.hid g2
          have G3 := Lib.hid g3
          have G4 := Lib.hid g4
          have G5 := Lib.hid g5
          have Hv := Lib.hid hv
          have P1 := Lib.hid p1
          have P3 := Lib.hid p3
          have P4 := Lib.hid p4
          have Hvb := Lib.hid hvb
          have Hgr := Lib.hid hgr
          have Hadd := Lib.hid hadd
          have Hmr := Lib.hid hmr
          clear hxj hxf hrr hf hwz hmwz hgwz g1 g2 g3 g4 g5 hv p1 p3 p4 hvb hgr hadd hmr hzwz
          go_wp2_with (first | ((with_reducible refine wpList_load_lit 81 (.tmp 34) ?_); refine ⟨g, off + j * 7, rfl, x.cells, Hf.out, by kernel_rfl, by kernel_rfl, ?_⟩) | ((with_reducible refine wpList_store_lit 81 (.tmp 10) (.tmp 35) ?_); refine ⟨rfl, x.cells, rfl, rfl, by kernel_rfl, rfl, ?_⟩; rw [Hwz.out]) | fail)
          have hS : AddS b m2 wr.heap.size n f2 v x wz.drew := Hadd.out _ ((Mod.refl _ wz).drew)
          refine wp_region_script [.rd 0, .rd 1, .rd 2, .rd 3, .rd 4, .rd 5, .rd 6, .rd 7, .rd 8, .rd 9, .rd 10, .rd 11, .rd 12, .rd 13, .rd 14, .rd 15, .go 16, .go 17, .go 18] [0, 1, 2, 3, 4, 5, 6, 7, 8, 9, 10, 11, 12, 13, 14, 15, 16, 17] (AddS b m2 wr.heap.size n f2 v x) (by kernel_rfl) (by kernel_rfl) (fun _ _ d _ _ h => (by cases d <;> exact h)) ?_
          refine walk_rd rfl ?_ (fun _ => hS) ?_ (fun w0 h0 => ?_) (fun K hK => ?_)
          · (try simp only [List.getElem_toArray]); (try simp only [List.getElem_cons_succ]); (try simp only [List.getElem_cons_zero])
            go_simp; done
          rotate_left
          · (try simp only [List.getElem_toArray]); (try simp only [List.getElem_cons_succ]); (try simp only [List.getElem_cons_zero])
            first
              | (obtain ⟨f0, f1, f2, f3, -, f4⟩ := h0 rfl; clear h0; go_simp; with_reducible rfl)
              | (clear h0; go_simp; with_reducible rfl)
          (try simp only [List.getElem_toArray]); (try simp only [List.getElem_cons_succ]); (try simp only [List.getElem_cons_zero])
          go_simp; refine hK _ ?_; clear hK K
          refine walk_rd rfl ?_ (fun _ => hS) ?_ (fun w0 h0 => ?_) (fun K hK => ?_)
          · (try simp only [List.getElem_toArray]); (try simp only [List.getElem_cons_succ]); (try simp only [List.getElem_cons_zero])
            go_simp; done
          rotate_left
          · (try simp only [List.getElem_toArray]); (try simp only [List.getElem_cons_succ]); (try simp only [List.getElem_cons_zero])
            first
              | (obtain ⟨f0, f1, f2, f3, -, f4⟩ := h0 rfl; clear h0; go_simp; with_reducible rfl)
              | (clear h0; go_simp; with_reducible rfl)
          (try simp only [List.getElem_toArray]); (try simp only [List.getElem_cons_succ]); (try simp only [List.getElem_cons_zero])
          go_simp; refine hK _ ?_; clear hK K
          refine walk_rd rfl ?_ (fun _ => hS) ?_ (fun w0 h0 => ?_) (fun K hK => ?_)
          · (try simp only [List.getElem_toArray]); (try simp only [List.getElem_cons_succ]); (try simp only [List.getElem_cons_zero])
            go_simp; done
          rotate_left
          · (try simp only [List.getElem_toArray]); (try simp only [List.getElem_cons_succ]); (try simp only [List.getElem_cons_zero])
            first
              | (obtain ⟨f0, f1, f2, f3, -, f4⟩ := h0 rfl; clear h0; go_simp; with_reducible rfl)
              | (clear h0; go_simp; with_reducible rfl)
          (try simp only [List.getElem_toArray]); (try simp only [List.getElem_cons_succ]); (try simp only [List.getElem_cons_zero])
          go_simp; refine hK _ ?_; clear hK K
          refine walk_rd rfl ?_ (fun _ => hS) ?_ (fun w0 h0 => ?_) (fun K hK => ?_)
          · (try simp only [List.getElem_toArray]); (try simp only [List.getElem_cons_succ]); (try simp only [List.getElem_cons_zero])
            go_simp; done
          rotate_left
          · (try simp only [List.getElem_toArray]); (try simp only [List.getElem_cons_succ]); (try simp only [List.getElem_cons_zero])
            first
              | (obtain ⟨f0, f1, f2, f3, -, f4⟩ := h0 rfl; clear h0; go_simp; with_reducible rfl)
              | (clear h0; go_simp; with_reducible rfl)
          (try simp only [List.getElem_toArray]); (try simp only [List.getElem_cons_succ]); (try simp only [List.getElem_cons_zero])
          go_simp; refine hK _ ?_; clear hK K
          refine walk_rd rfl ?_ (fun _ => hS) ?_ (fun w0 h0 => ?_) (fun K hK => ?_)
          · (try simp only [List.getElem_toArray]); (try simp only [List.getElem_cons_succ]); (try simp only [List.getElem_cons_zero])
            go_simp; done
          rotate_left
          · (try simp only [List.getElem_toArray]); (try simp only [List.getElem_cons_succ]); (try simp only [List.getElem_cons_zero])
            first
              | (obtain ⟨f0, f1, f2, f3, -, f4⟩ := h0 rfl; clear h0; go_simp; with_reducible rfl)
              | (clear h0; go_simp; with_reducible rfl)
          (try simp only [List.getElem_toArray]); (try simp only [List.getElem_cons_succ]); (try simp only [List.getElem_cons_zero])
          go_simp; refine hK _ ?_; clear hK K
          refine walk_rd rfl ?_ (fun _ => hS) ?_ (fun w0 h0 => ?_) (fun K hK => ?_)
          · (try simp only [List.getElem_toArray]); (try simp only [List.getElem_cons_succ]); (try simp only [List.getElem_cons_zero])
            go_simp; done
          rotate_left
          · (try simp only [List.getElem_toArray]); (try simp only [List.getElem_cons_succ]); (try simp only [List.getElem_cons_zero])
            first
              | (obtain ⟨f0, f1, f2, f3, -, f4⟩ := h0 rfl; clear h0; go_simp; with_reducible rfl)
              | (clear h0; go_simp; with_reducible rfl)
          (try simp only [List.getElem_toArray]); (try simp only [List.getElem_cons_succ]); (try simp only [List.getElem_cons_zero])
          go_simp; refine hK _ ?_; clear hK K
          refine walk_rd rfl ?_ (fun _ => hS) ?_ (fun w0 h0 => ?_) (fun K hK => ?_)
          · (try simp only [List.getElem_toArray]); (try simp only [List.getElem_cons_succ]); (try simp only [List.getElem_cons_zero])
            go_simp; done
          rotate_left
          · (try simp only [List.getElem_toArray]); (try simp only [List.getElem_cons_succ]); (try simp only [List.getElem_cons_zero])
            first
              | (obtain ⟨f0, f1, f2, f3, -, f4⟩ := h0 rfl; clear h0; go_simp; with_reducible rfl)
              | (clear h0; go_simp; with_reducible rfl)
          (try simp only [List.getElem_toArray]); (try simp only [List.getElem_cons_succ]); (try simp only [List.getElem_cons_zero])
          go_simp; refine hK _ ?_; clear hK K
          refine walk_rd rfl ?_ (fun _ => hS) ?_ (fun w0 h0 => ?_) (fun K hK => ?_)
          · (try simp only [List.getElem_toArray]); (try simp only [List.getElem_cons_succ]); (try simp only [List.getElem_cons_zero])
            go_simp; done
          rotate_left
          · (try simp only [List.getElem_toArray]); (try simp only [List.getElem_cons_succ]); (try simp only [List.getElem_cons_zero])
            first
              | (obtain ⟨f0, f1, f2, f3, -, f4⟩ := h0 rfl; clear h0; go_simp; with_reducible rfl)
              | (clear h0; go_simp; with_reducible rfl)
          (try simp only [List.getElem_toArray]); (try simp only [List.getElem_cons_succ]); (try simp only [List.getElem_cons_zero])
          go_simp; refine hK _ ?_; clear hK K
          refine walk_rd rfl ?_ (fun _ => hS) ?_ (fun w0 h0 => ?_) (fun K hK => ?_)
          · (try simp only [List.getElem_toArray]); (try simp only [List.getElem_cons_succ]); (try simp only [List.getElem_cons_zero])
            go_simp; done
          rotate_left
          · (try simp only [List.getElem_toArray]); (try simp only [List.getElem_cons_succ]); (try simp only [List.getElem_cons_zero])
            first
              | (obtain ⟨f0, f1, f2, f3, -, f4⟩ := h0 rfl; clear h0; go_simp; with_reducible rfl)
              | (clear h0; go_simp; with_reducible rfl)
          (try simp only [List.getElem_toArray]); (try simp only [List.getElem_cons_succ]); (try simp only [List.getElem_cons_zero])
          go_simp; refine hK _ ?_; clear hK K
          refine walk_rd rfl ?_ (fun _ => hS) ?_ (fun w0 h0 => ?_) (fun K hK => ?_)
          · (try simp only [List.getElem_toArray]); (try simp only [List.getElem_cons_succ]); (try simp only [List.getElem_cons_zero])
            go_simp; done
          rotate_left
          · (try simp only [List.getElem_toArray]); (try simp only [List.getElem_cons_succ]); (try simp only [List.getElem_cons_zero])
            first
              | (obtain ⟨f0, f1, f2, f3, -, f4⟩ := h0 rfl; clear h0; go_simp; with_reducible rfl)
              | (clear h0; go_simp; with_reducible rfl)
          (try simp only [List.getElem_toArray]); (try simp only [List.getElem_cons_succ]); (try simp only [List.getElem_cons_zero])
          go_simp; refine hK _ ?_; clear hK K
          refine walk_rd rfl ?_ (fun _ => hS) ?_ (fun w0 h0 => ?_) (fun K hK => ?_)
          · (try simp only [List.getElem_toArray]); (try simp only [List.getElem_cons_succ]); (try simp only [List.getElem_cons_zero])
            go_simp; done
          rotate_left
          · (try simp only [List.getElem_toArray]); (try simp only [List.getElem_cons_succ]); (try simp only [List.getElem_cons_zero])
            first
              | (obtain ⟨f0, f1, f2, f3, -, f4⟩ := h0 rfl; clear h0; go_simp; with_reducible rfl)
              | (clear h0; go_simp; with_reducible rfl)
          (try simp only [List.getElem_toArray]); (try simp only [List.getElem_cons_succ]); (try simp only [List.getElem_cons_zero])
          go_simp; refine hK _ ?_; clear hK K
          refine walk_rd rfl ?_ (fun _ => hS) ?_ (fun w0 h0 => ?_) (fun K hK => ?_)
          · (try simp only [List.getElem_toArray]); (try simp only [List.getElem_cons_succ]); (try simp only [List.getElem_cons_zero])
            go_simp; done
          rotate_left
          · (try simp only [List.getElem_toArray]); (try simp only [List.getElem_cons_succ]); (try simp only [List.getElem_cons_zero])
            first
              | (obtain ⟨f0, f1, f2, f3, -, f4⟩ := h0 rfl; clear h0; go_simp; with_reducible rfl)
              | (clear h0; go_simp; with_reducible rfl)
          (try simp only [List.getElem_toArray]); (try simp only [List.getElem_cons_succ]); (try simp only [List.getElem_cons_zero])
          go_simp; refine hK _ ?_; clear hK K
          refine walk_rd rfl ?_ (fun _ => hS) ?_ (fun w0 h0 => ?_) (fun K hK => ?_)
          · (try simp only [List.getElem_toArray]); (try simp only [List.getElem_cons_succ]); (try simp only [List.getElem_cons_zero])
            go_simp; done
          rotate_left
          · (try simp only [List.getElem_toArray]); (try simp only [List.getElem_cons_succ]); (try simp only [List.getElem_cons_zero])
            first
              | (obtain ⟨f0, f1, f2, f3, -, f4⟩ := h0 rfl; clear h0; go_simp; with_reducible rfl)
              | (clear h0; go_simp; with_reducible rfl)
          (try simp only [List.getElem_toArray]); (try simp only [List.getElem_cons_succ]); (try simp only [List.getElem_cons_zero])
          go_simp; refine hK _ ?_; clear hK K
          refine walk_rd rfl ?_ (fun _ => hS) ?_ (fun w0 h0 => ?_) (fun K hK => ?_)
          · (try simp only [List.getElem_toArray]); (try simp only [List.getElem_cons_succ]); (try simp only [List.getElem_cons_zero])
            go_simp; done
          rotate_left
          · (try simp only [List.getElem_toArray]); (try simp only [List.getElem_cons_succ]); (try simp only [List.getElem_cons_zero])
            first
              | (obtain ⟨f0, f1, f2, f3, -, f4⟩ := h0 rfl; clear h0; go_simp; with_reducible rfl)
              | (clear h0; go_simp; with_reducible rfl)
          (try simp only [List.getElem_toArray]); (try simp only [List.getElem_cons_succ]); (try simp only [List.getElem_cons_zero])
          go_simp; refine hK _ ?_; clear hK K
          refine walk_rd rfl ?_ (fun _ => hS) ?_ (fun w0 h0 => ?_) (fun K hK => ?_)
          · (try simp only [List.getElem_toArray]); (try simp only [List.getElem_cons_succ]); (try simp only [List.getElem_cons_zero])
            go_simp; done
          rotate_left
          · (try simp only [List.getElem_toArray]); (try simp only [List.getElem_cons_succ]); (try simp only [List.getElem_cons_zero])
            first
              | (obtain ⟨f0, f1, f2, f3, -, f4⟩ := h0 rfl; clear h0; go_simp; with_reducible rfl)
              | (clear h0; go_simp; with_reducible rfl)
          (try simp only [List.getElem_toArray]); (try simp only [List.getElem_cons_succ]); (try simp only [List.getElem_cons_zero])
          go_simp; refine hK _ ?_; clear hK K
          refine walk_rd rfl ?_ (fun _ => hS) ?_ (fun w0 h0 => ?_) (fun K hK => ?_)
          · (try simp only [List.getElem_toArray]); (try simp only [List.getElem_cons_succ]); (try simp only [List.getElem_cons_zero])
            go_simp; done
          rotate_left
          · (try simp only [List.getElem_toArray]); (try simp only [List.getElem_cons_succ]); (try simp only [List.getElem_cons_zero])
            first
              | (obtain ⟨f0, f1, f2, f3, -, f4⟩ := h0 rfl; clear h0; go_simp; with_reducible rfl)
              | (clear h0; go_simp; with_reducible rfl)
          (try simp only [List.getElem_toArray]); (try simp only [List.getElem_cons_succ]); (try simp only [List.getElem_cons_zero])
          go_simp; refine hK _ ?_; clear hK K
          refine walk_one (go_yes rfl ?_ (fun K hK => ?_))
          · (try simp only [List.getElem_toArray]); (try simp only [List.getElem_cons_succ]); (try simp only [List.getElem_cons_zero])
            go_simp; done
          (try simp only [List.getElem_toArray]); (try simp only [List.getElem_cons_succ]); (try simp only [List.getElem_cons_zero])
          obtain ⟨wT, hwT⟩ : ∃ wT : World, wz.drew.alloc (.cells (pcell (id, x)).toArray 85) = wT := ⟨_, rfl⟩
          have hmwT : Mod (fun _ => False) wz.drew wT := hwT ▸ (Mod.refl (fun _ => False) wz.drew).alloc _
          have hgwT := heap_alloc_new wz.drew (.cells (pcell (id, x)).toArray 85)
          rw [hwT] at hgwT
          have hzwT : wT.heap.size = wz.drew.heap.size + 1 := by rw [← hwT]; simp
          have hwT' : wz.drew.alloc (.cells #[.int .i64 id, .string x.name, .int .i64 x.op, .int .i64 x.v.kind, .int .i64 x.v.int, .float .f64 x.v.num, .string x.v.text, .bool x.v.yes] 85) = wT := hwT
          have hmzT : Mod (fun _ => False) wz wT := ((Mod.refl (fun _ => False) wz).drew).trans hmwT (fun _ _ h => h)
          have hmrT : Mod (fun _ => False) wr wT := Hmwz.out.trans hmzT (fun _ _ h => h)
          go_simp
          refine hK _ _ (fun _ _ => Hadd.out _ (hmzT.mono (fun _ _ h => h.elim))) ?_
          clear hK K hS
          have hrdT : RdSl wT 8 (.slice (some ⟨wz.heap.size, 0, none⟩) 1 1) 1 (pcell (id, x)) := hwT ▸ RdSl.one wz.drew (pcell (id, x)) 85 rfl
          have hone : ∀ u ∈ pcell (id, x), u.oneCell' = true := fun u hu => List.all_eq_true.1 (show (pcell (id, x)).all (·.oneCell') = true from rfl) u hu
          have hownT := P1.out.mod hmrT (fun _ _ h => h)
          obtain ⟨va, vc, rfl, hvc⟩ := hownT.shape
          have hpT : ps.length ≤ 100020 := by have h1 := normC_len l; rw [Hnl.out] at h1; omega
          refine walk_one (go_yes rfl ?_ (fun K hK => ?_))
          · (try simp only [List.getElem_toArray]); (try simp only [List.getElem_cons_succ]); (try simp only [List.getElem_cons_zero])
            go_simp; done
          (try simp only [List.getElem_toArray]); (try simp only [List.getElem_cons_succ]); (try simp only [List.getElem_cons_zero])
          refine wp_append_sl (.tmp 48) (.tmp 52) 82 rfl 85 8 80 places_T (.slice va ps.length vc) ps.length (pls ps) rfl hownT (.slice (some ⟨wz.heap.size, 0, none⟩) 1 1) 1 (pcell (id, x)) rfl hrdT hone (by omega) (by unfold maxLen; omega) (fun ad cap2 w5 hA => ?_)
          refine hK _ _ (fun _ _ => Hadd.out _ ((hmzT.mono (fun _ _ h => h.elim)).trans hA.2.1 (fun _ _ h => h))) ?_
          clear hK K
          have h5m : MapR w5 9 m2 n f2 := (G1.out.mod hmrT (fun h => h)).mod hA.2.1 (fun h => (Hvb.out _ h).2.2 rfl)
          refine walk_one (go_yes rfl ?_ (fun K hK => ?_))
          · (try simp only [List.getElem_toArray]); (try simp only [List.getElem_cons_succ]); (try simp only [List.getElem_cons_zero])
            go_simp; done
          (try simp only [List.getElem_toArray]); (try simp only [List.getElem_cons_succ]); (try simp only [List.getElem_cons_zero])
          refine wp_mput 74 _ _ _ rfl ?_
          refine ⟨9, 82, m2, n, f2, Lit.str x.name, h5m, keyed_s, Tryz.underlying74, by have := normC_len l; rw [Hnl.out] at this; have := G2.out; unfold maxLen; omega, rfl, WideMaps.keyOf_string_mk Tryz.underlying9 (by have := Hxf.out.name; unfold maxLen; omega), fun w6 hV1 hV2 => ?_⟩
          have hV : MapR w6 9 m2 (if (f2 (Lit.str x.name)).isSome then n else n + 1) (putF f2 (Lit.str x.name) (.slice ad (ps.length + 1) cap2)) := hV1
          refine hK _ _ (fun h => absurd h (by decide)) ?_
          clear hK K hV1
          refine walk_nil ?_
          have hst := pmap_step (b := b) (m1 := m1) (I' := I ++ [(id, (sc, nl.take (j + 1)))]) G2.out G3.out G4.out G5.out Hv.out p2 P4.out hmrT hA hV hV2 (fun k hk => .inr (Nat.le_trans hsr hk)) (by omega) (fun id' nm' => by
            rw [idxF_new Hq.out, idxF_new Hq.out]
            by_cases e : id' = id
            · rw [if_pos e, if_pos e, List.take_add_one, Hxj.out]
              unfold ofName
              simp only [Option.toList_some, List.filter_append]
              congr 1
              by_cases e2 : nm' = x.name
              · rw [if_pos ⟨e, e2⟩, e2]; simp
              · rw [if_neg (fun h => e2 h.2)]
                have : (x.name.data.toList == nm'.data.toList) = false := by rw [beq_eq_false_iff_ne]; exact fun h => e2 (ByteArray.ext (Array.toList_inj.1 h)).symm
                simp only [List.filter_cons, this, List.filter_nil, if_false, Bool.false_eq_true]
            · rw [if_neg e, if_neg e, if_neg (fun h => e h.1), List.append_nil])
          have hm46 : Mod (fun k => own k ∧ k ≠ m1 ∧ k ≠ b) w4 w6 := ((Hmr.out.trans hmrT (fun _ _ h => h.elim)).upon hA.2.1 (fun k hk => by
            have h1 := P3.out k hk
            have h2 := Hvb.out k hk
            rcases h1 with h1 | h1
            · exact .inl ⟨h1, h2.2.1, h2.1⟩
            · exact .inr h1)).upon hV2 (fun k hk => .inl (by
            have h1 := H.out.ne
            subst hk
            exact ⟨H.out.ob.2.2, fun e => h1.2.2 e.symm, fun e => h1.2.1 e.symm⟩))
          have Hst := Lib.hid hst
          have Hm46 := Lib.hid hm46
          have HV := Lib.hid hV
          have HV2 := Lib.hid hV2
          have HA := Lib.hid hA
          have HownT := Lib.hid hownT
          have HrdT := Lib.hid hrdT
          have Hone := Lib.hid hone
          have HmrT := Lib.hid hmrT
          have HmzT := Lib.hid hmzT
          have HwT := Lib.hid hwT
          have HwT' := Lib.hid hwT'
          have H5m := Lib.hid h5m
          clear hst hm46 hV hV2 hA hownT hrdT hone hmrT hmzT hwT hwT' h5m hmwT hgwT hzwT
          go_wp2_with fail
          go_roundw
          case rel => exact ⟨j + 1, by go_num, hlt, Hst.out, Hm46.out⟩
          case measure => simp [intOf]; omega
        · obtain rfl : j = nl.length := by omega
          rw [List.take_length] at hp
          have hsr : w4.heap.size ≤ wr.heap.size := hmr.size
          have hix : IdxAt wr b m1 m2 (fun k => (own k ∨ w4.heap.size ≤ k) ∧ k < wr.heap.size) (fun k => C k ∨ (Value.slice na nl.length nc).ownBlock = some k) (I ++ [(id, (sc, nl))]) (T + 20) := by
            have hlw : ∀ k, own k → k < wr.heap.size := fun k hk => by have := H.out.olow k hk; omega
            have h1 := H.out.ne
            have h2 := H.out.ob
            refine ⟨hmr.heap Hg4.out (fun h => h.2.2 rfl), ?_, ⟨⟨.inl h2.1, hlw _ h2.1⟩, ⟨.inl h2.2.1, hlw _ h2.2.1⟩, ⟨.inl h2.2.2, hlw _ h2.2.2⟩⟩, h1, (Hq4.out.mod hmr (fun h => h.2.1 rfl) (fun k _ h => .inl h.1)).anti (fun k h => h.1), hp.cong (fun k h3 h4 => ⟨h4, h3⟩) (fun _ _ => rfl) (by omega), ?_, fun k h => h.2, fun k h => h.elim (fun h => by have := H.out.clow k h; omega) (fun h => by have := (Hnb.out k h).2.2; omega), fun p hp' => ?_, fun p hp' => ?_⟩
            · rw [List.map_append, List.nodup_append]
              refine ⟨H.out.nd, by simp, fun x hx y hy e => ?_⟩
              have : y = id := by simpa using hy
              exact idxF_none Hq.out (this ▸ e ▸ hx)
            · rw [List.length_append]
              have := H.out.low
              simp
              omega
            · rcases List.mem_append.1 hp' with hp' | hp'
              · exact H.out.wf p hp'
              · obtain rfl : p = (id, (sc, nl)) := by simpa using hp'
                exact ⟨Hid.out, by show nl.length ≤ 19; omega, fun c hc => normC_fits Hcs.out c (by rw [Hnl.out]; exact hc)⟩
            · rcases List.mem_append.1 hp' with hp' | hp'
              · exact H.out.sc p hp'
              · obtain rfl : p = (id, (sc, nl)) := by simpa using hp'
                exact hsc
          have hmw : Mod own w wr := ((Hm02.out.mono (G := own) (fun _ _ h => h.elim)).upon Hm24.out (fun k hk => hk.elim (fun h => .inr (by omega)) (fun h => .inl (h ▸ H.out.ob.2.1)))).upon hmr (fun k hk => .inl hk.1)
          have hgx : ∀ k, (own k ∨ w4.heap.size ≤ k) ∧ k < wr.heap.size → own k ∨ w.heap.size ≤ k := fun k h => h.1.elim .inl (fun h => .inr (by omega))
          have hsx : ∀ k, own k → (own k ∨ w4.heap.size ≤ k) ∧ k < wr.heap.size := fun k h => ⟨.inl h, by have := H.out.olow k h; omega⟩
          have Hix := Lib.hid hix
          have Hmw := Lib.hid hmw
          have Hgx := Lib.hid hgx
          have Hsx := Lib.hid hsx
          have Hmr := Lib.hid hmr
          have Hp := Lib.hid hp
          clear hix hmw hgx hsx hmr hp
          go_wp2_with fail
          go_ret
          exact .inr ⟨Hq.out, rfl, _, (fun k => C k ∨ (Value.slice na nl.length nc).ownBlock = some k), ⟨m1, m2, by rw [Hnl.out]; exact Hix.out⟩, Hsx.out, Hgx.out, fun k h => h.elim .inl (fun h => .inr (by have := Hnf.out k h; have := Hm2.out.size; omega)), Hmw.out⟩
end Go.Proofs.YtloplmaekonenaaGreatDoor
