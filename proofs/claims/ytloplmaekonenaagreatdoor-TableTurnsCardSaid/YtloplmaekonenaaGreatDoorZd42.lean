/-
  gazettelaw14.TableTurns.
-/
import Derived.Test.YtloplmaekonenaaGreatDoorZd41
import Derived.Test.YtloplmaekonenaaGreatDoorZd34
namespace Go.Proofs.YtloplmaekonenaaGreatDoor
set_option maxRecDepth 20000
open Go.RowKit Go.Sort

/-- A pair of tables in one memory. -/
structure TwoT (w : World) (ba bb : Nat) (oa Ca ob Cb : Nat → Prop) (M M' : List (Int × Fil)) (N N' : Nat) : Prop where
  a : Tab w ba oa Ca M N
  b : Tab w bb ob Cb M' N'
  d1 : ∀ k, oa k → ¬ ob k ∧ ¬ Cb k
  d2 : ∀ k, ob k → ¬ Ca k
theorem TwoT.symm {w : World} {ba bb : Nat} {oa Ca ob Cb : Nat → Prop} {M M' : List (Int × Fil)} {N N' : Nat} (h : TwoT w ba bb oa Ca ob Cb M M' N N') : TwoT w bb ba ob Cb oa Ca M' M N' N :=
  ⟨h.b, h.a, fun k hk => ⟨fun h2 => (h.d1 k h2).1 hk, h.d2 k hk⟩, fun k hk => (h.d1 k hk).2⟩
theorem TwoT.step {w w' : World} {ba bb : Nat} {oa Ca ob Cb oa' Ca' : Nat → Prop} {M M' M2 : List (Int × Fil)} {N N' N2 : Nat} (h : TwoT w ba bb oa Ca ob Cb M M' N N') (ha : Tab w' ba oa' Ca' M2 N2) (h1 : ∀ k, oa' k → oa k ∨ w.heap.size ≤ k)
    (h2 : ∀ k, Ca' k → Ca k ∨ w.heap.size ≤ k) (hm : Mod oa w w') : TwoT w' ba bb oa' Ca' ob Cb M2 M' N2 N' := by
  refine ⟨ha, h.b.mod hm (fun k _ hk => h.d1 k hk), fun k hk => ?_, fun k hk hc => ?_⟩
  · rcases h1 k hk with h3 | h3
    · exact h.d1 k h3
    · exact ⟨fun h4 => by have := h.b.low.1 k h4; omega, fun h4 => by have := h.b.low.2 k h4; omega⟩
  · rcases h2 k hc with h3 | h3
    · exact h.d2 k hk h3
    · have := h.b.low.1 k hk
      omega
theorem TwoT.mod {w w' : World} {ba bb : Nat} {oa Ca ob Cb : Nat → Prop} {M M' : List (Int × Fil)} {N N' : Nat} (h : TwoT w ba bb oa Ca ob Cb M M' N N') (hm : Mod (fun _ => False) w w') : TwoT w' ba bb oa Ca ob Cb M M' N N' :=
  ⟨h.a.mod0 hm (fun _ _ h => h), h.b.mod0 hm (fun _ _ h => h), h.d1, h.d2⟩
/-- M holds what the first j of the places g 0, g 1, .. add. -/
def Holds (l : List Tc) (g : Nat → Nat) (j : Nat) (M : List (Int × Fil)) : Prop := ∀ p, p ∈ M ↔ ∃ i c, i < j ∧ l[g i]? = some c ∧ c.ent = p
theorem Holds.zero (l : List Tc) (g : Nat → Nat) : Holds l g 0 [] := fun p => ⟨fun h => (by cases h), fun ⟨i, _, h, _⟩ => (by omega)⟩
theorem Holds.there {l : List Tc} {g : Nat → Nat} {j : Nat} {M : List (Int × Fil)} {c : Tc} (h : Holds l g j M) (hc : l[g j]? = some c) (hm : c.ent ∈ M) : Holds l g (j + 1) M := fun p => by
  constructor
  · intro hp
    obtain ⟨i, d, h1, h2⟩ := (h p).1 hp
    exact ⟨i, d, by omega, h2⟩
  · rintro ⟨i, d, h1, h2, rfl⟩
    by_cases e : i = j
    · subst e
      rw [hc] at h2
      cases h2
      exact hm
    · exact (h _).2 ⟨i, d, by omega, h2, rfl⟩
theorem Holds.add {l : List Tc} {g : Nat → Nat} {j : Nat} {M : List (Int × Fil)} {c : Tc} (h : Holds l g j M) (hc : l[g j]? = some c) : Holds l g (j + 1) (M ++ [c.ent]) := fun p => by
  rw [List.mem_append, List.mem_singleton]
  constructor
  · rintro (hp | rfl)
    · obtain ⟨i, d, h1, h2⟩ := (h p).1 hp
      exact ⟨i, d, by omega, h2⟩
    · exact ⟨j, c, by omega, hc, rfl⟩
  · rintro ⟨i, d, h1, h2, rfl⟩
    by_cases e : i = j
    · subst e
      rw [hc] at h2
      cases h2
      exact .inr rfl
    · exact .inl ((h _).2 ⟨i, d, by omega, h2, rfl⟩)
/-- Entries are those of calls that may be. -/
def AllR (_w0 : World) (l : List Tc) (M : List (Int × Fil)) : Prop := ∀ p ∈ M, ∃ c, c ∈ l ∧ c.right = true ∧ c.ent = p
theorem AllR.inj {w0 : World} {l : List Tc} {M M' : List (Int × Fil)} (hl : ∀ c ∈ l, c.f.ok w0) (h : AllR w0 l M) (h' : AllR w0 l M') : ∀ p ∈ M, ∀ q ∈ M', keyF p.2 = keyF q.2 → p.2 = q.2 := fun p hp q hq e => by
  obtain ⟨c, h1, h2, rfl⟩ := h p hp
  obtain ⟨d, h3, h4, rfl⟩ := h' q hq
  exact ent_inj (hl c h1) (hl d h3) h2 h4 e
theorem AllR.add {w0 : World} {l : List Tc} {M : List (Int × Fil)} {c : Tc} (h : AllR w0 l M) (hc : c ∈ l) (hr : c.right = true) : AllR w0 l (M ++ [c.ent]) := fun p hp => by
  rcases List.mem_append.1 hp with hp | hp
  · exact h p hp
  · obtain rfl : p = c.ent := by simpa using hp
    exact ⟨c, hc, hr, rfl⟩
/-- What has that key there is the call's own entry. -/
theorem AllR.same {w0 : World} {l : List Tc} {M : List (Int × Fil)} {c : Tc} (hl : ∀ c ∈ l, c.f.ok w0) (h : AllR w0 l M) (hc : c ∈ l) (hr : c.right = true) (ht : tabF M c.id (keyF c.ent.2) ≠ none) : c.ent ∈ M := by
  cases hq : tabF M c.id (keyF c.ent.2) with
  | none => exact absurd hq ht
  | some q =>
    obtain ⟨h1, h2⟩ := tabF_some hq
    obtain ⟨d, hd, hdr, e⟩ := h _ h1
    have h3 : q = c.ent.2 := by
      have h4 := ent_inj (hl d hd) (hl c hc) hdr hr (by rw [e]; exact h2)
      rw [e] at h4
      exact h4
    have h5 : (c.id, q) = c.ent := by rw [h3]; rfl
    rw [← h5]
    exact h1
theorem filterMap_len {α β : Type} (f : α → Option β) (l : List α) : (l.filterMap f).length ≤ l.length := List.length_filterMap_le f l
theorem outL_len (M : List (Int × Fil)) (td : Int) : (outL M td).length ≤ M.length := by
  unfold outL
  refine Nat.le_trans (filterMap_len _ _) ?_
  unfold allK riseS
  rw [List.length_mergeSort]
  have h1 : ∀ l : List (List UInt8), (onceS l).length ≤ l.length := fun l => by
    induction l with
    | nil => exact Nat.le_refl _
    | cons a l ih =>
      unfold onceS
      split
      · exact Nat.le_trans ih (Nat.le_succ _)
      · exact Nat.succ_le_succ ih
  refine Nat.le_trans (h1 _) ?_
  rw [List.length_map]
  exact List.length_filter_le _ _
/-- A round. -/
def TrnRel (w w1 : World) (ba bb t : Nat) (l : List Tc) (i : Value) (wr : World) : Prop :=
  ∃ (j N N' : Nat) (oa Ca ob Cb : Nat → Prop) (M M' : List (Int × Fil)), i = .int .i64 j ∧ j ≤ l.length ∧ TwoT wr ba bb oa Ca ob Cb M M' N N' ∧ N ≤ 2 * j ∧ N' ≤ 2 * j ∧ (∀ k, oa k → w1.heap.size ≤ k) ∧ (∀ k, ob k → w1.heap.size ≤ k) ∧
    Holds l (fun i => i) j M ∧ Holds l (fun i => (i + t) % l.length) j M' ∧ AllR w l M ∧ AllR w l M' ∧ Mod (fun _ => False) w1 wr

set_option maxHeartbeats 8000000 in
theorem trn_walk (w : World) (hl : LaidAt w) (hn : 16 ≤ w.heap.size) (v : Value) (l : List Tc) (hv : TcsAt w v l) (hll : l.length ≤ 9223372036854775807) (turn td : Int) (htd : -9223372036854775808 ≤ td ∧ td ≤ 9223372036854775807) :
    Calls Tryz.prog 6 #[v, .int .i64 turn, .int .i64 td] w fun e w' => e = .returned (.bool true) ∧ Mod (fun _ => False) w w' := by
  obtain ⟨va, vc, rfl, hvc⟩ : ∃ a c, v = .slice a l.length c ∧ l.length ≤ c := by obtain ⟨-, a, c, h, h2, -⟩ := hv.rd; exact ⟨a, c, h, h2⟩
  have hl0 : Laid w w := ⟨hl, hn, ⟨rfl, rfl, rfl, Nat.le_refl _, fun _ _ => rfl⟩⟩
  have hfit := fit14_at w w hl0
  have Hl := Lib.hid hl
  have Hv := Lib.hid hv
  have Hl0 := Lib.hid hl0
  have Hfit := Lib.hid hfit
  clear hl hv hl0 hfit
  go_enter Tryz.func6, Tryz.ntmps6
  go_wp2_with fail
  refine Hfit.out.mono ?_
  rintro e w0 ⟨rfl, hm0⟩
  have hlt := light14_at w0 (.slice va l.length vc) l (Hv.out.mod hm0) hll
  have Hm0 := Lib.hid hm0
  have Hlt := Lib.hid hlt
  clear hm0 hlt
  go_wp2_with fail
  refine Hlt.out.mono ?_
  rintro e w1 ⟨t, rfl, ht, hm1⟩
  have hmw1 := Hm0.out.trans hm1 (fun _ _ h => h)
  cases t with
  | false =>
    have Hm1 := Lib.hid hm1
    have Hmw1 := Lib.hid hmw1
    have Ht := Lib.hid ht
    clear hm1 hmw1 ht
    go_wp2_with fail
    go_ret
    exact ⟨rfl, Hmw1.out⟩
  | true =>
    have hl60 := ht rfl
    by_cases z1 : l.length = 0
    · have z1' : ((l.length : Nat) : Int) = 0 := by omega
      have Hm1 := Lib.hid hm1
      have Hmw1 := Lib.hid hmw1
      have Ht := Lib.hid ht
      clear hm1 hmw1 ht
      go_wp2_with fail
      go_ret
      exact ⟨rfl, Hmw1.out⟩
    have z1' : ¬ ((l.length : Nat) : Int) = 0 := by omega
    obtain ⟨G, hG1, hG2⟩ : ∃ G : Nat, G < l.length ∧ (bits BinOp.and IntKind.i64 turn 65535).tmod (l.length : Int) = G := by
      obtain ⟨t, ht, -⟩ := andp16 turn
      exact ⟨t % l.length, Nat.mod_lt _ (by omega), by rw [ht]; rfl⟩
    have hn1 := tnew_at w1
    have Hm1 := Lib.hid hm1
    have Hmw1 := Lib.hid hmw1
    have Ht := Lib.hid ht
    have Hn1 := Lib.hid hn1
    clear hm1 hmw1 ht hn1
    go_wp2_with fail
    refine Hn1.out.mono ?_
    rintro e w2 ⟨ba, oa, rfl, ha2, ho2, hm2⟩
    have hn2 := tnew_at w2
    have Ha2 := Lib.hid ha2
    have Ho2 := Lib.hid ho2
    have Hm2 := Lib.hid hm2
    have Hn2 := Lib.hid hn2
    clear ha2 ho2 hm2 hn2
    go_wp2_with fail
    refine Hn2.out.mono ?_
    rintro e w3 ⟨bb, ob, rfl, hb3, ho3, hm3⟩
    have hm13 : Mod (fun _ => False) w1 w3 := Hm2.out.trans hm3 (fun _ _ h => h)
    have htwo : TwoT w3 ba bb oa (fun _ => False) ob (fun _ => False) [] [] 0 0 := ⟨Ha2.out.mod0 hm3 (fun _ _ h => h), hb3, fun k hk => ⟨fun h2 => by have h3 := Ha2.out.low.1 k hk; have h4 := ho3 k h2; omega, fun h => h⟩, fun _ _ h => h⟩
    have hrel0 : TrnRel w w1 ba bb G l (.int .i64 ((0 : Nat) : Int)) w3 := ⟨0, 0, 0, oa, _, ob, _, [], [], rfl, Nat.zero_le _, htwo, Nat.le_refl _, Nat.le_refl _, fun k hk => Ho2.out k hk, fun k hk => Nat.le_trans Hm2.out.size (ho3 k hk), Holds.zero _ _, Holds.zero _ _, fun p hp => (by cases hp), fun p hp => (by cases hp), hm13⟩
    have Hb3 := Lib.hid hb3
    have Ho3 := Lib.hid ho3
    have Hm3 := Lib.hid hm3
    have Hm13 := Lib.hid hm13
    have Htwo := Lib.hid htwo
    have Hrel0 := Lib.hid hrel0
    clear hb3 ho3 hm3 hm13 htwo hrel0
    go_wp2_with fail
    go_loopw [34] (fun i wr => TrnRel w w1 ba bb G l i wr) (fun i _ => l.length - (intOf i).toNat)
    case atStart => exact Hrel0.out
    case round =>
      revert wr
      intro wq hrel
      obtain ⟨j, N, N', oa, Ca, ob, Cb, M, M', rfl, hj, htw, hN, hN', hoa, hob, hH, hH', hR, hR', hmr⟩ := hrel
      have hmwq := Hmw1.out.trans hmr (fun _ _ h => h)
      by_cases hlt : j < l.length
      · have hlt' : (j : Int) < l.length := by omega
        obtain ⟨x, hxj⟩ : ∃ x, l[j]? = some x := ⟨_, List.getElem?_eq_getElem hlt⟩
        obtain ⟨K, hK⟩ : ∃ K, (j + G) % l.length = K := ⟨_, rfl⟩
        have hKl : K < l.length := by rw [← hK]; exact Nat.mod_lt _ (by omega)
        have hKl' : (K : Int) < l.length := by omega
        have hKi : ((j : Int) + (G : Int)).tmod (l.length : Int) = (K : Int) := by
          rw [← hK, Int.tmod_eq_emod_of_nonneg (by omega)]
          rfl
        obtain ⟨y, hyj⟩ : ∃ y, l[K]? = some y := ⟨_, List.getElem?_eq_getElem hKl⟩
        have hxm := List.mem_of_getElem? hxj
        have hym := List.mem_of_getElem? hyj
        obtain ⟨g, off, rfl, hf0⟩ : ∃ g off, va = some ⟨g, off, none⟩ ∧ CellsAt w g (off + j * 4) x.cells := rd_el (f := Tc.cells) (fun _ => rfl) Hv.out.rd hxj
        have hf0y : CellsAt w g (off + K * 4) y.cells := by
          obtain ⟨g', off', e, h⟩ := rd_el (f := Tc.cells) (fun _ => rfl) Hv.out.rd hyj
          cases e
          exact h
        have hG3 : (G : Int) ≤ 60 := by omega
        have hj60 : (j : Int) ≤ 60 := by omega
        have Hxj := Lib.hid hxj
        have Hyj := Lib.hid hyj
        have HK := Lib.hid hK
        have Hxm := Lib.hid hxm
        have Hym := Lib.hid hym
        have Hf0 := Lib.hid hf0
        have Hf0y := Lib.hid hf0y
        have Htw := Lib.hid htw
        have Hoa := Lib.hid hoa
        have Hob := Lib.hid hob
        have HH := Lib.hid hH
        have HH' := Lib.hid hH'
        have HR := Lib.hid hR
        have HR' := Lib.hid hR'
        have Hmr := Lib.hid hmr
        have Hmwq := Lib.hid hmwq
        clear hxj hyj hK hxm hym hf0 hf0y htw hoa hob hH hH' hR hR' hmr hmwq
        go_wp2_with fail
        have hSx : ∀ z : World, Mod (fun _ => False) w z → (fun z : World => z.cell? ⟨g, off + j * 4, none⟩ = some (.int .i64 x.kind) ∧ z.cell? ⟨g, off + j * 4 + 1, none⟩ = some (.int .i64 x.id) ∧ z.cell? ⟨g, off + j * 4 + 2, none⟩ = some (.string x.f.sc) ∧ z.cell? ⟨g, off + j * 4 + 3, none⟩ = some (.slice x.f.a x.f.cs.length x.f.c) ∧ z.cell? ⟨g, off + K * 4, none⟩ = some (.int .i64 y.kind) ∧ z.cell? ⟨g, off + K * 4 + 1, none⟩ = some (.int .i64 y.id) ∧ z.cell? ⟨g, off + K * 4 + 2, none⟩ = some (.string y.f.sc) ∧ z.cell? ⟨g, off + K * 4 + 3, none⟩ = some (.slice y.f.a y.f.cs.length y.f.c)) z := fun z hz => by
          have h1 := Hf0.out.mod hz (fun h => h)
          have h2 := Hf0y.out.mod hz (fun h => h)
          exact ⟨h1 0 _ rfl, h1 1 _ rfl, h1 2 _ rfl, h1 3 _ rfl, h2 0 _ rfl, h2 1 _ rfl, h2 2 _ rfl, h2 3 _ rfl⟩
        have hS := hSx wq.drew Hmwq.out.drew
        refine wp_region_any6 [0, 1, 2, 3, 4, 5, 6, 7, 8, 9, 10, 11, 12, 13, 14, 15, 16] (fun z : World => z.cell? ⟨g, off + j * 4, none⟩ = some (.int .i64 x.kind) ∧ z.cell? ⟨g, off + j * 4 + 1, none⟩ = some (.int .i64 x.id) ∧ z.cell? ⟨g, off + j * 4 + 2, none⟩ = some (.string x.f.sc) ∧ z.cell? ⟨g, off + j * 4 + 3, none⟩ = some (.slice x.f.a x.f.cs.length x.f.c) ∧ z.cell? ⟨g, off + K * 4, none⟩ = some (.int .i64 y.kind) ∧ z.cell? ⟨g, off + K * 4 + 1, none⟩ = some (.int .i64 y.id) ∧ z.cell? ⟨g, off + K * 4 + 2, none⟩ = some (.string y.f.sc) ∧ z.cell? ⟨g, off + K * 4 + 3, none⟩ = some (.slice y.f.a y.f.cs.length y.f.c)) (by kernel_rfl) (by kernel_rfl) (fun _ _ d _ _ h => (by cases d <;> exact h)) ?_
        have hKw : (IntKind.i64.wrap ((j : Int) + (G : Int))).tmod (l.length : Int) = (K : Int) := by
          rw [show IntKind.i64.wrap ((j : Int) + (G : Int)) = (j : Int) + (G : Int) by
            simp only [IntKind.wrap, IntKind.signed, IntKind.bits]
            first | omega | (simp; omega) | (split <;> omega)]
          exact hKi
        have hK0 : (0 : Int) ≤ (K : Int) := by omega
        refine an_rd (i := 0) (by kernel_rfl) rfl ?_ (fun _ => hS) ?_ (fun w0 h0 => ?_) (fun K hK => ?_)
        · (try simp only [List.getElem_toArray]); (try simp only [List.getElem_cons_succ]); (try simp only [List.getElem_cons_zero])
          go_simp; done
        rotate_left
        · (try simp only [List.getElem_toArray]); (try simp only [List.getElem_cons_succ]); (try simp only [List.getElem_cons_zero])
          first
            | (obtain ⟨x0, x1, x2, x3, y0, y1, y2, y3⟩ := h0 rfl; clear h0; go_simp; with_reducible rfl)
            | (clear h0; go_simp; with_reducible rfl)
        (try simp only [List.getElem_toArray]); (try simp only [List.getElem_cons_succ]); (try simp only [List.getElem_cons_zero])
        go_simp; refine hK _ ?_; clear hK K
        refine an_rd (i := 1) (by kernel_rfl) rfl ?_ (fun _ => hS) ?_ (fun w0 h0 => ?_) (fun K hK => ?_)
        · (try simp only [List.getElem_toArray]); (try simp only [List.getElem_cons_succ]); (try simp only [List.getElem_cons_zero])
          go_simp; done
        rotate_left
        · (try simp only [List.getElem_toArray]); (try simp only [List.getElem_cons_succ]); (try simp only [List.getElem_cons_zero])
          first
            | (obtain ⟨x0, x1, x2, x3, y0, y1, y2, y3⟩ := h0 rfl; clear h0; go_simp; with_reducible rfl)
            | (clear h0; go_simp; with_reducible rfl)
        (try simp only [List.getElem_toArray]); (try simp only [List.getElem_cons_succ]); (try simp only [List.getElem_cons_zero])
        go_simp; refine hK _ ?_; clear hK K
        refine an_rd (i := 2) (by kernel_rfl) rfl ?_ (fun _ => hS) ?_ (fun w0 h0 => ?_) (fun K hK => ?_)
        · (try simp only [List.getElem_toArray]); (try simp only [List.getElem_cons_succ]); (try simp only [List.getElem_cons_zero])
          go_simp; done
        rotate_left
        · (try simp only [List.getElem_toArray]); (try simp only [List.getElem_cons_succ]); (try simp only [List.getElem_cons_zero])
          first
            | (obtain ⟨x0, x1, x2, x3, y0, y1, y2, y3⟩ := h0 rfl; clear h0; go_simp; with_reducible rfl)
            | (clear h0; go_simp; with_reducible rfl)
        (try simp only [List.getElem_toArray]); (try simp only [List.getElem_cons_succ]); (try simp only [List.getElem_cons_zero])
        go_simp; refine hK _ ?_; clear hK K
        refine an_rd (i := 3) (by kernel_rfl) rfl ?_ (fun _ => hS) ?_ (fun w0 h0 => ?_) (fun K hK => ?_)
        · (try simp only [List.getElem_toArray]); (try simp only [List.getElem_cons_succ]); (try simp only [List.getElem_cons_zero])
          go_simp; done
        rotate_left
        · (try simp only [List.getElem_toArray]); (try simp only [List.getElem_cons_succ]); (try simp only [List.getElem_cons_zero])
          first
            | (obtain ⟨x0, x1, x2, x3, y0, y1, y2, y3⟩ := h0 rfl; clear h0; go_simp; with_reducible rfl)
            | (clear h0; go_simp; with_reducible rfl)
        (try simp only [List.getElem_toArray]); (try simp only [List.getElem_cons_succ]); (try simp only [List.getElem_cons_zero])
        go_simp; refine hK _ ?_; clear hK K
        refine an_rd (i := 4) (by kernel_rfl) rfl ?_ (fun _ => hS) ?_ (fun w0 h0 => ?_) (fun K hK => ?_)
        · (try simp only [List.getElem_toArray]); (try simp only [List.getElem_cons_succ]); (try simp only [List.getElem_cons_zero])
          go_simp; done
        rotate_left
        · (try simp only [List.getElem_toArray]); (try simp only [List.getElem_cons_succ]); (try simp only [List.getElem_cons_zero])
          first
            | (obtain ⟨x0, x1, x2, x3, y0, y1, y2, y3⟩ := h0 rfl; clear h0; go_simp; with_reducible rfl)
            | (clear h0; go_simp; with_reducible rfl)
        (try simp only [List.getElem_toArray]); (try simp only [List.getElem_cons_succ]); (try simp only [List.getElem_cons_zero])
        go_simp; refine hK _ ?_; clear hK K
        refine an_rd (i := 5) (by kernel_rfl) rfl ?_ (fun _ => hS) ?_ (fun w0 h0 => ?_) (fun K hK => ?_)
        · (try simp only [List.getElem_toArray]); (try simp only [List.getElem_cons_succ]); (try simp only [List.getElem_cons_zero])
          go_simp; done
        rotate_left
        · (try simp only [List.getElem_toArray]); (try simp only [List.getElem_cons_succ]); (try simp only [List.getElem_cons_zero])
          first
            | (obtain ⟨x0, x1, x2, x3, y0, y1, y2, y3⟩ := h0 rfl; clear h0; go_simp; with_reducible rfl)
            | (clear h0; go_simp; with_reducible rfl)
        (try simp only [List.getElem_toArray]); (try simp only [List.getElem_cons_succ]); (try simp only [List.getElem_cons_zero])
        go_simp; refine hK _ ?_; clear hK K
        refine an_rd (i := 6) (by kernel_rfl) rfl ?_ (fun _ => hS) ?_ (fun w0 h0 => ?_) (fun K hK => ?_)
        · (try simp only [List.getElem_toArray]); (try simp only [List.getElem_cons_succ]); (try simp only [List.getElem_cons_zero])
          go_simp; done
        rotate_left
        · (try simp only [List.getElem_toArray]); (try simp only [List.getElem_cons_succ]); (try simp only [List.getElem_cons_zero])
          first
            | (obtain ⟨x0, x1, x2, x3, y0, y1, y2, y3⟩ := h0 rfl; clear h0; go_simp; with_reducible rfl)
            | (clear h0; go_simp; with_reducible rfl)
        (try simp only [List.getElem_toArray]); (try simp only [List.getElem_cons_succ]); (try simp only [List.getElem_cons_zero])
        go_simp; refine hK _ ?_; clear hK K
        refine an_rd (i := 7) (by kernel_rfl) rfl ?_ (fun _ => hS) ?_ (fun w0 h0 => ?_) (fun K hK => ?_)
        · (try simp only [List.getElem_toArray]); (try simp only [List.getElem_cons_succ]); (try simp only [List.getElem_cons_zero])
          go_simp; done
        rotate_left
        · (try simp only [List.getElem_toArray]); (try simp only [List.getElem_cons_succ]); (try simp only [List.getElem_cons_zero])
          first
            | (obtain ⟨x0, x1, x2, x3, y0, y1, y2, y3⟩ := h0 rfl; clear h0; go_simp; with_reducible rfl)
            | (clear h0; go_simp; with_reducible rfl)
        (try simp only [List.getElem_toArray]); (try simp only [List.getElem_cons_succ]); (try simp only [List.getElem_cons_zero])
        go_simp; refine hK _ ?_; clear hK K
        refine an_rd (i := 8) (by kernel_rfl) rfl ?_ (fun _ => hS) ?_ (fun w0 h0 => ?_) (fun K hK => ?_)
        · (try simp only [List.getElem_toArray]); (try simp only [List.getElem_cons_succ]); (try simp only [List.getElem_cons_zero])
          go_simp; done
        rotate_left
        · (try simp only [List.getElem_toArray]); (try simp only [List.getElem_cons_succ]); (try simp only [List.getElem_cons_zero])
          first
            | (obtain ⟨x0, x1, x2, x3, y0, y1, y2, y3⟩ := h0 rfl; clear h0; go_simp; with_reducible rfl)
            | (clear h0; go_simp; with_reducible rfl)
        (try simp only [List.getElem_toArray]); (try simp only [List.getElem_cons_succ]); (try simp only [List.getElem_cons_zero])
        go_simp; refine hK _ ?_; clear hK K
        refine an_rd (i := 9) (by kernel_rfl) rfl ?_ (fun _ => hS) ?_ (fun w0 h0 => ?_) (fun K hK => ?_)
        · (try simp only [List.getElem_toArray]); (try simp only [List.getElem_cons_succ]); (try simp only [List.getElem_cons_zero])
          go_simp; done
        rotate_left
        · (try simp only [List.getElem_toArray]); (try simp only [List.getElem_cons_succ]); (try simp only [List.getElem_cons_zero])
          first
            | (obtain ⟨x0, x1, x2, x3, y0, y1, y2, y3⟩ := h0 rfl; clear h0; go_simp; with_reducible rfl)
            | (clear h0; go_simp; with_reducible rfl)
        (try simp only [List.getElem_toArray]); (try simp only [List.getElem_cons_succ]); (try simp only [List.getElem_cons_zero])
        go_simp; refine hK _ ?_; clear hK K
        refine an_rd (i := 10) (by kernel_rfl) rfl ?_ (fun _ => hS) ?_ (fun w0 h0 => ?_) (fun K hK => ?_)
        · (try simp only [List.getElem_toArray]); (try simp only [List.getElem_cons_succ]); (try simp only [List.getElem_cons_zero])
          go_simp; done
        rotate_left
        · (try simp only [List.getElem_toArray]); (try simp only [List.getElem_cons_succ]); (try simp only [List.getElem_cons_zero])
          first
            | (obtain ⟨x0, x1, x2, x3, y0, y1, y2, y3⟩ := h0 rfl; clear h0; go_simp; with_reducible rfl)
            | (clear h0; go_simp; with_reducible rfl)
        (try simp only [List.getElem_toArray]); (try simp only [List.getElem_cons_succ]); (try simp only [List.getElem_cons_zero])
        go_simp; refine hK _ ?_; clear hK K
        refine an_rd (i := 11) (by kernel_rfl) rfl ?_ (fun _ => hS) ?_ (fun w0 h0 => ?_) (fun K hK => ?_)
        · (try simp only [List.getElem_toArray]); (try simp only [List.getElem_cons_succ]); (try simp only [List.getElem_cons_zero])
          go_simp; done
        rotate_left
        · (try simp only [List.getElem_toArray]); (try simp only [List.getElem_cons_succ]); (try simp only [List.getElem_cons_zero])
          first
            | (obtain ⟨x0, x1, x2, x3, y0, y1, y2, y3⟩ := h0 rfl; clear h0; go_simp; with_reducible rfl)
            | (clear h0; go_simp; with_reducible rfl)
        (try simp only [List.getElem_toArray]); (try simp only [List.getElem_cons_succ]); (try simp only [List.getElem_cons_zero])
        go_simp; refine hK _ ?_; clear hK K
        refine an_rd (i := 12) (by kernel_rfl) rfl ?_ (fun _ => hS) ?_ (fun w0 h0 => ?_) (fun K hK => ?_)
        · (try simp only [List.getElem_toArray]); (try simp only [List.getElem_cons_succ]); (try simp only [List.getElem_cons_zero])
          go_simp; done
        rotate_left
        · (try simp only [List.getElem_toArray]); (try simp only [List.getElem_cons_succ]); (try simp only [List.getElem_cons_zero])
          first
            | (obtain ⟨x0, x1, x2, x3, y0, y1, y2, y3⟩ := h0 rfl; clear h0; go_simp; with_reducible rfl)
            | (clear h0; go_simp; with_reducible rfl)
        (try simp only [List.getElem_toArray]); (try simp only [List.getElem_cons_succ]); (try simp only [List.getElem_cons_zero])
        go_simp; refine hK _ ?_; clear hK K
        refine an_two (i := 13) (j := 14) (by kernel_rfl) (go_yes rfl ?_ (fun K hK => ?_)) (go_yes rfl ?_ (fun K hK => ?_))
        · (try simp only [List.getElem_toArray]); (try simp only [List.getElem_cons_succ]); (try simp only [List.getElem_cons_zero])
          go_simp; done
        · (try simp only [List.getElem_toArray]); (try simp only [List.getElem_cons_succ]); (try simp only [List.getElem_cons_zero])
          obtain ⟨wX, hwX⟩ : ∃ wX : World, wq.drew.alloc (.cells #[.int .i64 0, .int .i64 0, .string ⟨#[]⟩, .slice none 0 0] 52) = wX := ⟨_, rfl⟩
          have hmwX : Mod (fun _ => False) wq.drew wX := hwX ▸ (Mod.refl (fun _ => False) wq.drew).alloc _
          have hgwX := heap_alloc_new wq.drew (.cells #[.int .i64 0, .int .i64 0, .string ⟨#[]⟩, .slice none 0 0] 52)
          rw [hwX] at hgwX
          have hzwX : wX.heap.size = wq.drew.heap.size + 1 := by rw [← hwX]; simp
          go_simp
          have hmqX : Mod (fun _ => False) w wX := Hmwq.out.drew.trans hmwX (fun _ _ h => h)
          refine hK _ _ (fun _ _ => hSx _ hmqX) ?_
          clear hK K hS
          refine an_one (i := 14) (by kernel_rfl) (go_yes rfl ?_ (fun K hK => ?_))
          · (try simp only [List.getElem_toArray]); (try simp only [List.getElem_cons_succ]); (try simp only [List.getElem_cons_zero])
            go_simp; done
          (try simp only [List.getElem_toArray]); (try simp only [List.getElem_cons_succ]); (try simp only [List.getElem_cons_zero])
          obtain ⟨wY, hwY⟩ : ∃ wY : World, wX.alloc (.cells #[.int .i64 0, .int .i64 0, .string ⟨#[]⟩, .slice none 0 0] 52) = wY := ⟨_, rfl⟩
          have hmwY : Mod (fun _ => False) wX wY := hwY ▸ (Mod.refl (fun _ => False) wX).alloc _
          have hgwY := heap_alloc_new wX (.cells #[.int .i64 0, .int .i64 0, .string ⟨#[]⟩, .slice none 0 0] 52)
          rw [hwY] at hgwY
          have hzwY : wY.heap.size = wX.heap.size + 1 := by rw [← hwY]; simp
          go_simp
          have hmqY : Mod (fun _ => False) w wY := hmqX.trans hmwY (fun _ _ h => h)
          refine hK _ _ (fun _ _ => hSx _ hmqY) ?_
          clear hK K
          have hgX : wX.heap[wq.heap.size]? = some (.cells #[.int .i64 0, .int .i64 0, .string ⟨#[]⟩, .slice none 0 0] 52 (0, 0)) := hgwX
          refine an_one (i := 15) (by kernel_rfl) (go_yes rfl ?_ (fun K hK => ?_))
          · (try simp only [List.getElem_toArray]); (try simp only [List.getElem_cons_succ]); (try simp only [List.getElem_cons_zero])
            go_simp; done
          (try simp only [List.getElem_toArray]); (try simp only [List.getElem_cons_succ]); (try simp only [List.getElem_cons_zero])
          have hsX : wX.heap.size = wq.heap.size + 1 := hzwX
          have hrc : wY.heap[wq.heap.size]? = some (.cells #[.int .i64 0, .int .i64 0, .string ⟨#[]⟩, .slice none 0 0] 52 (0, 0)) := (hmwY.heap hgX (fun h => h))
          have hrd0 : wY.heap[(wq.heap.size + 1)]? = some (.cells #[.int .i64 0, .int .i64 0, .string ⟨#[]⟩, .slice none 0 0] 52 (0, 0)) := hsX ▸ hgwY
          have hne : (wq.heap.size + 1) ≠ wq.heap.size := by omega
          obtain ⟨wU, hwU⟩ : ∃ q, wY.setRow wq.heap.size ([.int .i64 x.kind, .int .i64 x.id, .string x.f.sc, .slice x.f.a x.f.cs.length x.f.c] : List Value).toArray = q := ⟨_, rfl⟩
          refine wp_store_row 52 (.tmp 10) (.tmp 40) rfl wq.heap.size rfl #[.int .i64 0, .int .i64 0, .string ⟨#[]⟩, .slice none 0 0] 52 hrc ([.int .i64 x.kind, .int .i64 x.id, .string x.f.sc, .slice x.f.a x.f.cs.length x.f.c]) rfl rfl (by kernel_rfl) (fun u hu => List.all_eq_true.1 (show ([.int .i64 x.kind, .int .i64 x.id, .string x.f.sc, .slice x.f.a x.f.cs.length x.f.c] : List Value).all (·.oneCell') = true from rfl) u hu) ?_
          rw [hwU]
          have hgc : wU.heap[wq.heap.size]? = some (.cells ([.int .i64 x.kind, .int .i64 x.id, .string x.f.sc, .slice x.f.a x.f.cs.length x.f.c] : List Value).toArray 52 (0, 0)) := by rw [← hwU]; exact setRow_heap wY wq.heap.size _ _ _ _ hrc
          have hmwU : Mod (fun k => k = wq.heap.size) wY wU := hwU ▸ (Mod.refl (fun k => k = wq.heap.size) wY).setRow (fun _ => rfl) _
          have hmqU : Mod (fun _ => False) w wU := hmqY.upon hmwU (fun k hk => .inr (by have h1 : k = wq.heap.size := hk; have := Hmwq.out.size; omega))
          refine hK _ _ (fun _ _ => hSx _ hmqU) ?_
          clear hK K
          have hrd : wU.heap[(wq.heap.size + 1)]? = some (.cells #[.int .i64 0, .int .i64 0, .string ⟨#[]⟩, .slice none 0 0] 52 (0, 0)) := hmwU.heap hrd0 (fun h => hne h)
          refine an_one (i := 16) (by kernel_rfl) (go_yes rfl ?_ (fun K hK => ?_))
          · (try simp only [List.getElem_toArray]); (try simp only [List.getElem_cons_succ]); (try simp only [List.getElem_cons_zero])
            go_simp; done
          (try simp only [List.getElem_toArray]); (try simp only [List.getElem_cons_succ]); (try simp only [List.getElem_cons_zero])
          obtain ⟨wV, hwV⟩ : ∃ q, wU.setRow (wq.heap.size + 1) ([.int .i64 y.kind, .int .i64 y.id, .string y.f.sc, .slice y.f.a y.f.cs.length y.f.c] : List Value).toArray = q := ⟨_, rfl⟩
          refine wp_store_row 52 (.tmp 11) (.tmp 49) rfl (wq.heap.size + 1) rfl #[.int .i64 0, .int .i64 0, .string ⟨#[]⟩, .slice none 0 0] 52 hrd ([.int .i64 y.kind, .int .i64 y.id, .string y.f.sc, .slice y.f.a y.f.cs.length y.f.c]) rfl rfl (by kernel_rfl) (fun u hu => List.all_eq_true.1 (show ([.int .i64 y.kind, .int .i64 y.id, .string y.f.sc, .slice y.f.a y.f.cs.length y.f.c] : List Value).all (·.oneCell') = true from rfl) u hu) ?_
          rw [hwV]
          have hgd : wV.heap[(wq.heap.size + 1)]? = some (.cells ([.int .i64 y.kind, .int .i64 y.id, .string y.f.sc, .slice y.f.a y.f.cs.length y.f.c] : List Value).toArray 52 (0, 0)) := by rw [← hwV]; exact setRow_heap wU (wq.heap.size + 1) _ _ _ _ hrd
          have hmwV : Mod (fun k => k = (wq.heap.size + 1)) wU wV := hwV ▸ (Mod.refl (fun k => k = (wq.heap.size + 1)) wU).setRow (fun _ => rfl) _
          have hmqV : Mod (fun _ => False) w wV := hmqU.upon hmwV (fun k hk => .inr (by have h1 : k = (wq.heap.size + 1) := hk; have := Hmwq.out.size; omega))
          refine hK _ _ (fun _ _ => hSx _ hmqV) ?_
          clear hK K
          refine an_nil (by kernel_rfl) ?_
          have hgcV := hmwV.heap hgc (fun h => hne h.symm)
          have hqV : Mod (fun _ => False) wq wV := ((((Mod.refl (fun _ => False) wq).drew.trans hmwX (fun _ _ h => h)).trans hmwY (fun _ _ h => h)).upon hmwU (fun k hk => .inr (by have h1 : k = wq.heap.size := hk; omega))).upon hmwV (fun k hk => .inr (by have h1 : k = (wq.heap.size + 1) := hk; omega))
          obtain ⟨cb, hcb⟩ : ∃ q, wq.heap.size = q := ⟨_, rfl⟩
          obtain ⟨db, hdb⟩ : ∃ q, (wq.heap.size + 1) = q := ⟨_, rfl⟩
          rw [hcb] at hgcV
          rw [hdb] at hgd
          have hcq : wq.heap.size ≤ cb := by omega
          have hdq : wq.heap.size ≤ db := by omega
          have HgcV := Lib.hid hgcV
          have Hgd := Lib.hid hgd
          have HqV := Lib.hid hqV
          have HmqV := Lib.hid hmqV
          clear hgcV hgd hqV hmqV hmwV hmwU hmwX hmwY hgwX hgwY hzwX hzwY hwX hwY hwU hwV hmqU hmqX hmqY hrd hrd0 hrc hgc hgX hsX hne
          try rw [hdb]
          try rw [hcb]
          clear hcb hdb
          have c1 : wV.cell? ⟨cb, 1, none⟩ = some (.int .i64 x.id) := cell_of HgcV.out rfl
          have c2 : wV.cell? ⟨cb, 2, none⟩ = some (.string x.f.sc) := cell_of HgcV.out rfl
          have c3 : wV.cell? ⟨cb, 3, none⟩ = some (.slice x.f.a x.f.cs.length x.f.c) := cell_of HgcV.out rfl
          have hxo := (Hv.out.ok x Hxm.out).1.mod HmqV.out
          have hfr := filter_right wV x.f.sc (.slice x.f.a x.f.cs.length x.f.c) x.f.cs hxo.cs hxo.sc.2 hxo.sc.1 (fun c hc => (hxo.nm c hc).1)
          obtain ⟨u, hu⟩ : ∃ u, filRight x.f.sc x.f.cs = u := ⟨_, rfl⟩
          rw [hu] at hfr
          have Hfr := Lib.hid hfr
          have Hu := Lib.hid hu
          have Hxo := Lib.hid hxo
          clear hfr hu hxo
          go_wp2_with fail
          refine Hfr.out.mono ?_
          rintro e w4 ⟨rfl, hm4⟩
          have hmw4 := HmqV.out.trans hm4 (fun _ _ h => h)
          cases u with
          | false =>
            have Hm4 := Lib.hid hm4
            have Hmw4 := Lib.hid hmw4
            clear hm4 hmw4
            go_wp2_with fail
            go_ret
            exact ⟨rfl, Hmw4.out⟩
          | true =>
            have hgd4 := hm4.heap Hgd.out (fun h => h)
            have hgc4 := hm4.heap HgcV.out (fun h => h)
            have d2 : w4.cell? ⟨db, 2, none⟩ = some (.string y.f.sc) := cell_of hgd4 rfl
            have d3 : w4.cell? ⟨db, 3, none⟩ = some (.slice y.f.a y.f.cs.length y.f.c) := cell_of hgd4 rfl
            have hyo := (Hv.out.ok y Hym.out).1.mod hmw4
            have hfr2 := filter_right w4 y.f.sc (.slice y.f.a y.f.cs.length y.f.c) y.f.cs hyo.cs hyo.sc.2 hyo.sc.1 (fun c hc => (hyo.nm c hc).1)
            obtain ⟨u2, hu2⟩ : ∃ u, filRight y.f.sc y.f.cs = u := ⟨_, rfl⟩
            rw [hu2] at hfr2
            have Hm4 := Lib.hid hm4
            have Hmw4 := Lib.hid hmw4
            have Hgd4 := Lib.hid hgd4
            have Hgc4 := Lib.hid hgc4
            have Hyo := Lib.hid hyo
            have Hfr2 := Lib.hid hfr2
            have Hu2 := Lib.hid hu2
            clear hm4 hmw4 hgd4 hgc4 hyo hfr2 hu2
            go_wp2_with fail
            refine Hfr2.out.mono ?_
            rintro e w5 ⟨rfl, hm5⟩
            have hmw5 := Hmw4.out.trans hm5 (fun _ _ h => h)
            cases u2 with
            | false =>
              have Hm5 := Lib.hid hm5
              have Hmw5 := Lib.hid hmw5
              clear hm5 hmw5
              go_wp2_with fail
              go_ret
              exact ⟨rfl, Hmw5.out⟩
            | true =>
              have hxr : x.right = true := Hu.out
              have hyr : y.right = true := Hu2.out
              have hgc5 := hm5.heap Hgc4.out (fun h => h)
              have hgd5 := hm5.heap Hgd4.out (fun h => h)
              have a1 : w5.cell? ⟨cb, 1, none⟩ = some (.int .i64 x.id) := cell_of hgc5 rfl
              have a2 : w5.cell? ⟨cb, 2, none⟩ = some (.string x.f.sc) := cell_of hgc5 rfl
              have a3 : w5.cell? ⟨cb, 3, none⟩ = some (.slice x.f.a x.f.cs.length x.f.c) := cell_of hgc5 rfl
              have hq5 : Mod (fun _ => False) wq w5 := (HqV.out.trans Hm4.out (fun _ _ h => h)).trans hm5 (fun _ _ h => h)
              have ht5 := Htw.out.mod hq5
              have hxf := Tc.fits (Hv.out.ok x Hxm.out).1 hxr
              have hyf := Tc.fits (Hv.out.ok y Hym.out).1 hyr
              have hm15 := Hmr.out.trans hq5 (fun _ _ h => h)
              have hadd := tadd_at w w5 (Hl0.out.mod0 hmw5) ba oa Ca M N ht5.a (by omega) (fun k hk => Nat.le_trans Hmw1.out.size (Hoa.out k hk)) x.id (id_wf (Hv.out.ok x Hxm.out).2) x.f.sc (.slice x.f.a x.f.cs.length x.f.c) x.f.cs (Hxo.out.cs.mod ((Hm4.out.trans hm5 (fun _ _ h => h))) (fun _ _ h => h)) hxf.1.1 hxf.2 hxf.1.2
              have hoaq : ∀ k, oa k → k < wq.heap.size := Htw.out.a.low.1
              have Hm5 := Lib.hid hm5
              have Hmw5 := Lib.hid hmw5
              have Hgc5 := Lib.hid hgc5
              have Hgd5 := Lib.hid hgd5
              have Hq5 := Lib.hid hq5
              have Ht5 := Lib.hid ht5
              have Hxf := Lib.hid hxf
              have Hyf := Lib.hid hyf
              have Hm15 := Lib.hid hm15
              have Hadd := Lib.hid hadd
              have Hxr := Lib.hid hxr
              have Hyr := Lib.hid hyr
              have Hoaq := Lib.hid hoaq
              clear hm5 hmw5 hgc5 hgd5 hq5 ht5 hxf hyf hm15 hadd hxr hyr hoaq
              go_wp2_with fail
              refine Hadd.out.mono ?_
              rintro e w6 hpost
              obtain ⟨t6, hte, oa2, Ca2, M2, N2, ht6, hN2, hoa2, hH2, hR2, hm56⟩ : ∃ t6 : Bool, e = .returned (.bool t6) ∧ ∃ (oa2 Ca2 : Nat → Prop) (M2 : List (Int × Fil)) (N2 : Nat), TwoT w6 ba bb oa2 Ca2 ob Cb M2 M' N2 N' ∧ N2 ≤ 2 * (j + 1) ∧ (∀ k, oa2 k → w1.heap.size ≤ k) ∧ Holds l (fun i => i) (j + 1) M2 ∧ AllR w l M2 ∧ Mod oa w5 w6 := by
                rcases hpost with ⟨h, rfl, hm⟩ | ⟨h, rfl, oa2, Ca2, ha, h1, h2, h3, hm⟩
                · exact ⟨_, rfl, oa, Ca, M, N, Ht5.out.mod hm, by omega, Hoa.out, HH.out.there Hxj.out (HR.out.same (fun c hc => (Hv.out.ok c hc).1) Hxm.out Hxr.out h), HR.out, hm.mono (fun _ _ h => h.elim)⟩
                · refine ⟨_, rfl, oa2, Ca2, _, _, Ht5.out.step ha h2 h3 hm, by omega, fun k hk => (h2 k hk).elim (Hoa.out k) (fun h => Nat.le_trans Hm15.out.size h), HH.out.add Hxj.out, HR.out.add Hxm.out Hxr.out, hm⟩
              subst hte
              have hncb : ¬ oa cb := fun h => by have := Hoaq.out cb h; omega
              have hndb : ¬ oa db := fun h => by have := Hoaq.out db h; omega
              have hgd6 := hm56.heap Hgd5.out hndb
              have b1 : w6.cell? ⟨db, 1, none⟩ = some (.int .i64 y.id) := cell_of hgd6 rfl
              have b2 : w6.cell? ⟨db, 2, none⟩ = some (.string y.f.sc) := cell_of hgd6 rfl
              have b3 : w6.cell? ⟨db, 3, none⟩ = some (.slice y.f.a y.f.cs.length y.f.c) := cell_of hgd6 rfl
              have hmw6 : Mod (fun _ => False) w w6 := Hmw5.out.upon hm56 (fun k hk => .inr (Nat.le_trans Hmw1.out.size (Hoa.out k hk)))
              have hm16 : Mod (fun _ => False) w1 w6 := Hm15.out.upon hm56 (fun k hk => .inr (Hoa.out k hk))
              have hadd2 := tadd_at w w6 (Hl0.out.mod0 hmw6) bb ob Cb M' N' ht6.b (by omega) (fun k hk => Nat.le_trans Hmw1.out.size (Hob.out k hk)) y.id (id_wf (Hv.out.ok y Hym.out).2) y.f.sc (.slice y.f.a y.f.cs.length y.f.c) y.f.cs ((Hv.out.ok y Hym.out).1.cs.mod hmw6 (fun _ _ h => h)) Hyf.out.1.1 Hyf.out.2 Hyf.out.1.2
              have hobq : ∀ k, ob k → k < wq.heap.size := Htw.out.b.low.1
              have hndb2 : ¬ ob db := fun h => by have := hobq db h; omega
              have Hgd6 := Lib.hid hgd6
              have Hmw6 := Lib.hid hmw6
              have Hm16 := Lib.hid hm16
              have Hadd2 := Lib.hid hadd2
              have Ht6 := Lib.hid ht6
              have Hoa2 := Lib.hid hoa2
              have HH2 := Lib.hid hH2
              have HR2 := Lib.hid hR2
              have Hm56 := Lib.hid hm56
              have Hncb := Lib.hid hncb
              have Hndb := Lib.hid hndb
              have Hobq := Lib.hid hobq
              have Hndb2 := Lib.hid hndb2
              clear hgd6 hmw6 hm16 hadd2 ht6 hoa2 hH2 hR2 hm56 hncb hndb hobq hndb2
              go_wp2_with fail
              refine Hadd2.out.mono ?_
              rintro e w7 (⟨h, rfl, hm7⟩ | ⟨h, rfl, ob2, Cb2, hb7, h1, h2, h3, hm7⟩)
              · have ht7 := Ht6.out.mod hm7
                have hm17 := Hm16.out.trans hm7 (fun _ _ h => h)
                have hHb := HH'.out.there (c := y) (by rw [HK.out]; exact Hyj.out) (HR'.out.same (fun c hc => (Hv.out.ok c hc).1) Hym.out Hyr.out h)
                have Ht7 := Lib.hid ht7
                have Hm17 := Lib.hid hm17
                have HHb := Lib.hid hHb
                have Hm7 := Lib.hid hm7
                clear ht7 hm17 hHb hm7
                go_wp2_with fail
                go_roundw
                case rel => exact ⟨j + 1, N2, N', oa2, Ca2, ob, Cb, M2, M', by go_num, hlt, Ht7.out, by omega, by omega, Hoa2.out, Hob.out, HH2.out, HHb.out, HR2.out, HR'.out, Hm17.out⟩
                case measure => simp [intOf]; omega
              · have ht7 := Ht6.out.symm.step hb7 h2 h3 hm7
                have hm17 : Mod (fun _ => False) w1 w7 := Hm16.out.upon hm7 (fun k hk => .inr (Hob.out k hk))
                have hmw7 : Mod (fun _ => False) w w7 := Hmw6.out.upon hm7 (fun k hk => .inr (Nat.le_trans Hmw1.out.size (Hob.out k hk)))
                have hgd7 := hm7.heap Hgd6.out Hndb2.out
                have e1 : w7.cell? ⟨db, 1, none⟩ = some (.int .i64 y.id) := cell_of hgd7 rfl
                have e2 : w7.cell? ⟨db, 2, none⟩ = some (.string y.f.sc) := cell_of hgd7 rfl
                have e3 : w7.cell? ⟨db, 3, none⟩ = some (.slice y.f.a y.f.cs.length y.f.c) := cell_of hgd7 rfl
                have hob2 : ∀ k, ob2 k → w1.heap.size ≤ k ∧ k ≠ db := fun k hk => by
                  rcases h2 k hk with h4 | h4
                  · exact ⟨Hob.out k h4, fun e => Hndb2.out (e ▸ h4)⟩
                  · have h5 := (Array.getElem?_eq_some_iff.1 Hgd6.out).1
                    exact ⟨Nat.le_trans Hm16.out.size h4, by omega⟩
                have hrem := trem_at w w7 (Hl0.out.mod0 hmw7) bb ob2 Cb2 _ (N' + 1) ht7.a (by omega) y.id (id_wf (Hv.out.ok y Hym.out).2) y.f.sc (.slice y.f.a y.f.cs.length y.f.c) y.f.cs ((Hv.out.ok y Hym.out).1.cs.mod hmw7 (fun _ _ h => h)) Hyf.out.1.1 Hyf.out.2 Hyf.out.1.2
                have Ht7 := Lib.hid ht7
                have Hm17 := Lib.hid hm17
                have Hmw7 := Lib.hid hmw7
                have Hgd7 := Lib.hid hgd7
                have Hob2 := Lib.hid hob2
                have Hrem := Lib.hid hrem
                have Hb7 := Lib.hid hb7
                have H1 := Lib.hid h1
                have H2 := Lib.hid h2
                have H3 := Lib.hid h3
                have Hm7 := Lib.hid hm7
                have H := Lib.hid h
                clear ht7 hm17 hmw7 hgd7 hob2 hrem hb7 h1 h2 h3 hm7 h
                go_wp2_with fail
                refine Hrem.out.mono ?_
                rintro e w8 (⟨h, -⟩ | ⟨-, rfl, hb8, hm8⟩)
                · rw [tabF_new H.out, if_pos ⟨rfl, rfl⟩] at h
                  cases h
                rw [tabD_last H.out] at hb8
                have ht8 := Ht7.out.step hb8 (fun k h => .inl h) (fun k h => .inl h) hm8
                have hm18 : Mod (fun _ => False) w1 w8 := Hm17.out.upon hm8 (fun k hk => .inr (Hob2.out k hk).1)
                have hmw8 : Mod (fun _ => False) w w8 := Hmw7.out.upon hm8 (fun k hk => .inr (Nat.le_trans Hmw1.out.size (Hob2.out k hk).1))
                have hgd8 := hm8.heap Hgd7.out (fun h => (Hob2.out _ h).2 rfl)
                have f1 : w8.cell? ⟨db, 1, none⟩ = some (.int .i64 y.id) := cell_of hgd8 rfl
                have f2 : w8.cell? ⟨db, 2, none⟩ = some (.string y.f.sc) := cell_of hgd8 rfl
                have f3 : w8.cell? ⟨db, 3, none⟩ = some (.slice y.f.a y.f.cs.length y.f.c) := cell_of hgd8 rfl
                have hadd3 := tadd_at w w8 (Hl0.out.mod0 hmw8) bb ob2 Cb2 M' (N' + 1) ht8.a (by omega) (fun k hk => Nat.le_trans Hmw1.out.size (Hob2.out k hk).1) y.id (id_wf (Hv.out.ok y Hym.out).2) y.f.sc (.slice y.f.a y.f.cs.length y.f.c) y.f.cs ((Hv.out.ok y Hym.out).1.cs.mod hmw8 (fun _ _ h => h)) Hyf.out.1.1 Hyf.out.2 Hyf.out.1.2
                have Ht8 := Lib.hid ht8
                have Hm18 := Lib.hid hm18
                have Hmw8 := Lib.hid hmw8
                have Hgd8 := Lib.hid hgd8
                have Hadd3 := Lib.hid hadd3
                have Hb8 := Lib.hid hb8
                have Hm8 := Lib.hid hm8
                clear ht8 hm18 hmw8 hgd8 hadd3 hb8 hm8
                go_wp2_with fail
                refine Hadd3.out.mono ?_
                rintro e w9 (⟨h, -⟩ | ⟨-, rfl, ob3, Cb3, hb9, h1, h2, h3, hm9⟩)
                · exact absurd H.out h
                have ht9 := (Ht8.out.step hb9 h2 h3 hm9).symm
                have hm19 : Mod (fun _ => False) w1 w9 := Hm18.out.upon hm9 (fun k hk => .inr (Hob2.out k hk).1)
                have hob3 : ∀ k, ob3 k → w1.heap.size ≤ k := fun k hk => (h2 k hk).elim (fun h => (Hob2.out k h).1) (fun h => Nat.le_trans Hm18.out.size h)
                have hHb := HH'.out.add (c := y) (by rw [HK.out]; exact Hyj.out)
                have hRb := HR'.out.add Hym.out Hyr.out
                have Ht9 := Lib.hid ht9
                have Hm19 := Lib.hid hm19
                have Hob3 := Lib.hid hob3
                have HHb := Lib.hid hHb
                have HRb := Lib.hid hRb
                have Hb9 := Lib.hid hb9
                have H1 := Lib.hid h1
                have H2 := Lib.hid h2
                have H3 := Lib.hid h3
                have Hm9 := Lib.hid hm9
                clear ht9 hm19 hob3 hHb hRb hb9 h1 h2 h3 hm9
                go_wp2_with fail
                go_roundw
                case rel => exact ⟨j + 1, N2, N' + 1 + 1, oa2, Ca2, ob3, Cb3, M2, _, by go_num, hlt, Ht9.out, by omega, by omega, Hoa2.out, Hob3.out, HH2.out, HHb.out, HR2.out, HRb.out, Hm19.out⟩
                case measure => simp [intOf]; omega
        · (try simp only [List.getElem_toArray]); (try simp only [List.getElem_cons_succ]); (try simp only [List.getElem_cons_zero])
          go_simp; done
        · (try simp only [List.getElem_toArray]); (try simp only [List.getElem_cons_succ]); (try simp only [List.getElem_cons_zero])
          obtain ⟨wX, hwX⟩ : ∃ wX : World, wq.drew.alloc (.cells #[.int .i64 0, .int .i64 0, .string ⟨#[]⟩, .slice none 0 0] 52) = wX := ⟨_, rfl⟩
          have hmwX : Mod (fun _ => False) wq.drew wX := hwX ▸ (Mod.refl (fun _ => False) wq.drew).alloc _
          have hgwX := heap_alloc_new wq.drew (.cells #[.int .i64 0, .int .i64 0, .string ⟨#[]⟩, .slice none 0 0] 52)
          rw [hwX] at hgwX
          have hzwX : wX.heap.size = wq.drew.heap.size + 1 := by rw [← hwX]; simp
          go_simp
          have hmqX : Mod (fun _ => False) w wX := Hmwq.out.drew.trans hmwX (fun _ _ h => h)
          refine hK _ _ (fun _ _ => hSx _ hmqX) ?_
          clear hK K hS
          refine an_one (i := 13) (by kernel_rfl) (go_yes rfl ?_ (fun K hK => ?_))
          · (try simp only [List.getElem_toArray]); (try simp only [List.getElem_cons_succ]); (try simp only [List.getElem_cons_zero])
            go_simp; done
          (try simp only [List.getElem_toArray]); (try simp only [List.getElem_cons_succ]); (try simp only [List.getElem_cons_zero])
          obtain ⟨wY, hwY⟩ : ∃ wY : World, wX.alloc (.cells #[.int .i64 0, .int .i64 0, .string ⟨#[]⟩, .slice none 0 0] 52) = wY := ⟨_, rfl⟩
          have hmwY : Mod (fun _ => False) wX wY := hwY ▸ (Mod.refl (fun _ => False) wX).alloc _
          have hgwY := heap_alloc_new wX (.cells #[.int .i64 0, .int .i64 0, .string ⟨#[]⟩, .slice none 0 0] 52)
          rw [hwY] at hgwY
          have hzwY : wY.heap.size = wX.heap.size + 1 := by rw [← hwY]; simp
          go_simp
          have hmqY : Mod (fun _ => False) w wY := hmqX.trans hmwY (fun _ _ h => h)
          refine hK _ _ (fun _ _ => hSx _ hmqY) ?_
          clear hK K
          have hgX : wX.heap[wq.heap.size]? = some (.cells #[.int .i64 0, .int .i64 0, .string ⟨#[]⟩, .slice none 0 0] 52 (0, 0)) := hgwX
          refine an_one (i := 15) (by kernel_rfl) (go_yes rfl ?_ (fun K hK => ?_))
          · (try simp only [List.getElem_toArray]); (try simp only [List.getElem_cons_succ]); (try simp only [List.getElem_cons_zero])
            go_simp; done
          (try simp only [List.getElem_toArray]); (try simp only [List.getElem_cons_succ]); (try simp only [List.getElem_cons_zero])
          have hsX : wX.heap.size = wq.heap.size + 1 := hzwX
          have hrc : wY.heap[(wq.heap.size + 1)]? = some (.cells #[.int .i64 0, .int .i64 0, .string ⟨#[]⟩, .slice none 0 0] 52 (0, 0)) := hsX ▸ hgwY
          have hrd0 : wY.heap[wq.heap.size]? = some (.cells #[.int .i64 0, .int .i64 0, .string ⟨#[]⟩, .slice none 0 0] 52 (0, 0)) := (hmwY.heap hgX (fun h => h))
          have hne : wq.heap.size ≠ (wq.heap.size + 1) := by omega
          obtain ⟨wU, hwU⟩ : ∃ q, wY.setRow (wq.heap.size + 1) ([.int .i64 x.kind, .int .i64 x.id, .string x.f.sc, .slice x.f.a x.f.cs.length x.f.c] : List Value).toArray = q := ⟨_, rfl⟩
          refine wp_store_row 52 (.tmp 10) (.tmp 40) rfl (wq.heap.size + 1) rfl #[.int .i64 0, .int .i64 0, .string ⟨#[]⟩, .slice none 0 0] 52 hrc ([.int .i64 x.kind, .int .i64 x.id, .string x.f.sc, .slice x.f.a x.f.cs.length x.f.c]) rfl rfl (by kernel_rfl) (fun u hu => List.all_eq_true.1 (show ([.int .i64 x.kind, .int .i64 x.id, .string x.f.sc, .slice x.f.a x.f.cs.length x.f.c] : List Value).all (·.oneCell') = true from rfl) u hu) ?_
          rw [hwU]
          have hgc : wU.heap[(wq.heap.size + 1)]? = some (.cells ([.int .i64 x.kind, .int .i64 x.id, .string x.f.sc, .slice x.f.a x.f.cs.length x.f.c] : List Value).toArray 52 (0, 0)) := by rw [← hwU]; exact setRow_heap wY (wq.heap.size + 1) _ _ _ _ hrc
          have hmwU : Mod (fun k => k = (wq.heap.size + 1)) wY wU := hwU ▸ (Mod.refl (fun k => k = (wq.heap.size + 1)) wY).setRow (fun _ => rfl) _
          have hmqU : Mod (fun _ => False) w wU := hmqY.upon hmwU (fun k hk => .inr (by have h1 : k = (wq.heap.size + 1) := hk; have := Hmwq.out.size; omega))
          refine hK _ _ (fun _ _ => hSx _ hmqU) ?_
          clear hK K
          have hrd : wU.heap[wq.heap.size]? = some (.cells #[.int .i64 0, .int .i64 0, .string ⟨#[]⟩, .slice none 0 0] 52 (0, 0)) := hmwU.heap hrd0 (fun h => hne h)
          refine an_one (i := 16) (by kernel_rfl) (go_yes rfl ?_ (fun K hK => ?_))
          · (try simp only [List.getElem_toArray]); (try simp only [List.getElem_cons_succ]); (try simp only [List.getElem_cons_zero])
            go_simp; done
          (try simp only [List.getElem_toArray]); (try simp only [List.getElem_cons_succ]); (try simp only [List.getElem_cons_zero])
          obtain ⟨wV, hwV⟩ : ∃ q, wU.setRow wq.heap.size ([.int .i64 y.kind, .int .i64 y.id, .string y.f.sc, .slice y.f.a y.f.cs.length y.f.c] : List Value).toArray = q := ⟨_, rfl⟩
          refine wp_store_row 52 (.tmp 11) (.tmp 49) rfl wq.heap.size rfl #[.int .i64 0, .int .i64 0, .string ⟨#[]⟩, .slice none 0 0] 52 hrd ([.int .i64 y.kind, .int .i64 y.id, .string y.f.sc, .slice y.f.a y.f.cs.length y.f.c]) rfl rfl (by kernel_rfl) (fun u hu => List.all_eq_true.1 (show ([.int .i64 y.kind, .int .i64 y.id, .string y.f.sc, .slice y.f.a y.f.cs.length y.f.c] : List Value).all (·.oneCell') = true from rfl) u hu) ?_
          rw [hwV]
          have hgd : wV.heap[wq.heap.size]? = some (.cells ([.int .i64 y.kind, .int .i64 y.id, .string y.f.sc, .slice y.f.a y.f.cs.length y.f.c] : List Value).toArray 52 (0, 0)) := by rw [← hwV]; exact setRow_heap wU wq.heap.size _ _ _ _ hrd
          have hmwV : Mod (fun k => k = wq.heap.size) wU wV := hwV ▸ (Mod.refl (fun k => k = wq.heap.size) wU).setRow (fun _ => rfl) _
          have hmqV : Mod (fun _ => False) w wV := hmqU.upon hmwV (fun k hk => .inr (by have h1 : k = wq.heap.size := hk; have := Hmwq.out.size; omega))
          refine hK _ _ (fun _ _ => hSx _ hmqV) ?_
          clear hK K
          refine an_nil (by kernel_rfl) ?_
          have hgcV := hmwV.heap hgc (fun h => hne h.symm)
          have hqV : Mod (fun _ => False) wq wV := ((((Mod.refl (fun _ => False) wq).drew.trans hmwX (fun _ _ h => h)).trans hmwY (fun _ _ h => h)).upon hmwU (fun k hk => .inr (by have h1 : k = (wq.heap.size + 1) := hk; omega))).upon hmwV (fun k hk => .inr (by have h1 : k = wq.heap.size := hk; omega))
          obtain ⟨cb, hcb⟩ : ∃ q, (wq.heap.size + 1) = q := ⟨_, rfl⟩
          obtain ⟨db, hdb⟩ : ∃ q, wq.heap.size = q := ⟨_, rfl⟩
          rw [hcb] at hgcV
          rw [hdb] at hgd
          have hcq : wq.heap.size ≤ cb := by omega
          have hdq : wq.heap.size ≤ db := by omega
          have HgcV := Lib.hid hgcV
          have Hgd := Lib.hid hgd
          have HqV := Lib.hid hqV
          have HmqV := Lib.hid hmqV
          clear hgcV hgd hqV hmqV hmwV hmwU hmwX hmwY hgwX hgwY hzwX hzwY hwX hwY hwU hwV hmqU hmqX hmqY hrd hrd0 hrc hgc hgX hsX hne
          try rw [hcb]
          try rw [hdb]
          clear hcb hdb
          have c1 : wV.cell? ⟨cb, 1, none⟩ = some (.int .i64 x.id) := cell_of HgcV.out rfl
          have c2 : wV.cell? ⟨cb, 2, none⟩ = some (.string x.f.sc) := cell_of HgcV.out rfl
          have c3 : wV.cell? ⟨cb, 3, none⟩ = some (.slice x.f.a x.f.cs.length x.f.c) := cell_of HgcV.out rfl
          have hxo := (Hv.out.ok x Hxm.out).1.mod HmqV.out
          have hfr := filter_right wV x.f.sc (.slice x.f.a x.f.cs.length x.f.c) x.f.cs hxo.cs hxo.sc.2 hxo.sc.1 (fun c hc => (hxo.nm c hc).1)
          obtain ⟨u, hu⟩ : ∃ u, filRight x.f.sc x.f.cs = u := ⟨_, rfl⟩
          rw [hu] at hfr
          have Hfr := Lib.hid hfr
          have Hu := Lib.hid hu
          have Hxo := Lib.hid hxo
          clear hfr hu hxo
          go_wp2_with fail
          refine Hfr.out.mono ?_
          rintro e w4 ⟨rfl, hm4⟩
          have hmw4 := HmqV.out.trans hm4 (fun _ _ h => h)
          cases u with
          | false =>
            have Hm4 := Lib.hid hm4
            have Hmw4 := Lib.hid hmw4
            clear hm4 hmw4
            go_wp2_with fail
            go_ret
            exact ⟨rfl, Hmw4.out⟩
          | true =>
            have hgd4 := hm4.heap Hgd.out (fun h => h)
            have hgc4 := hm4.heap HgcV.out (fun h => h)
            have d2 : w4.cell? ⟨db, 2, none⟩ = some (.string y.f.sc) := cell_of hgd4 rfl
            have d3 : w4.cell? ⟨db, 3, none⟩ = some (.slice y.f.a y.f.cs.length y.f.c) := cell_of hgd4 rfl
            have hyo := (Hv.out.ok y Hym.out).1.mod hmw4
            have hfr2 := filter_right w4 y.f.sc (.slice y.f.a y.f.cs.length y.f.c) y.f.cs hyo.cs hyo.sc.2 hyo.sc.1 (fun c hc => (hyo.nm c hc).1)
            obtain ⟨u2, hu2⟩ : ∃ u, filRight y.f.sc y.f.cs = u := ⟨_, rfl⟩
            rw [hu2] at hfr2
            have Hm4 := Lib.hid hm4
            have Hmw4 := Lib.hid hmw4
            have Hgd4 := Lib.hid hgd4
            have Hgc4 := Lib.hid hgc4
            have Hyo := Lib.hid hyo
            have Hfr2 := Lib.hid hfr2
            have Hu2 := Lib.hid hu2
            clear hm4 hmw4 hgd4 hgc4 hyo hfr2 hu2
            go_wp2_with fail
            refine Hfr2.out.mono ?_
            rintro e w5 ⟨rfl, hm5⟩
            have hmw5 := Hmw4.out.trans hm5 (fun _ _ h => h)
            cases u2 with
            | false =>
              have Hm5 := Lib.hid hm5
              have Hmw5 := Lib.hid hmw5
              clear hm5 hmw5
              go_wp2_with fail
              go_ret
              exact ⟨rfl, Hmw5.out⟩
            | true =>
              have hxr : x.right = true := Hu.out
              have hyr : y.right = true := Hu2.out
              have hgc5 := hm5.heap Hgc4.out (fun h => h)
              have hgd5 := hm5.heap Hgd4.out (fun h => h)
              have a1 : w5.cell? ⟨cb, 1, none⟩ = some (.int .i64 x.id) := cell_of hgc5 rfl
              have a2 : w5.cell? ⟨cb, 2, none⟩ = some (.string x.f.sc) := cell_of hgc5 rfl
              have a3 : w5.cell? ⟨cb, 3, none⟩ = some (.slice x.f.a x.f.cs.length x.f.c) := cell_of hgc5 rfl
              have hq5 : Mod (fun _ => False) wq w5 := (HqV.out.trans Hm4.out (fun _ _ h => h)).trans hm5 (fun _ _ h => h)
              have ht5 := Htw.out.mod hq5
              have hxf := Tc.fits (Hv.out.ok x Hxm.out).1 hxr
              have hyf := Tc.fits (Hv.out.ok y Hym.out).1 hyr
              have hm15 := Hmr.out.trans hq5 (fun _ _ h => h)
              have hadd := tadd_at w w5 (Hl0.out.mod0 hmw5) ba oa Ca M N ht5.a (by omega) (fun k hk => Nat.le_trans Hmw1.out.size (Hoa.out k hk)) x.id (id_wf (Hv.out.ok x Hxm.out).2) x.f.sc (.slice x.f.a x.f.cs.length x.f.c) x.f.cs (Hxo.out.cs.mod ((Hm4.out.trans hm5 (fun _ _ h => h))) (fun _ _ h => h)) hxf.1.1 hxf.2 hxf.1.2
              have hoaq : ∀ k, oa k → k < wq.heap.size := Htw.out.a.low.1
              have Hm5 := Lib.hid hm5
              have Hmw5 := Lib.hid hmw5
              have Hgc5 := Lib.hid hgc5
              have Hgd5 := Lib.hid hgd5
              have Hq5 := Lib.hid hq5
              have Ht5 := Lib.hid ht5
              have Hxf := Lib.hid hxf
              have Hyf := Lib.hid hyf
              have Hm15 := Lib.hid hm15
              have Hadd := Lib.hid hadd
              have Hxr := Lib.hid hxr
              have Hyr := Lib.hid hyr
              have Hoaq := Lib.hid hoaq
              clear hm5 hmw5 hgc5 hgd5 hq5 ht5 hxf hyf hm15 hadd hxr hyr hoaq
              go_wp2_with fail
              refine Hadd.out.mono ?_
              rintro e w6 hpost
              obtain ⟨t6, hte, oa2, Ca2, M2, N2, ht6, hN2, hoa2, hH2, hR2, hm56⟩ : ∃ t6 : Bool, e = .returned (.bool t6) ∧ ∃ (oa2 Ca2 : Nat → Prop) (M2 : List (Int × Fil)) (N2 : Nat), TwoT w6 ba bb oa2 Ca2 ob Cb M2 M' N2 N' ∧ N2 ≤ 2 * (j + 1) ∧ (∀ k, oa2 k → w1.heap.size ≤ k) ∧ Holds l (fun i => i) (j + 1) M2 ∧ AllR w l M2 ∧ Mod oa w5 w6 := by
                rcases hpost with ⟨h, rfl, hm⟩ | ⟨h, rfl, oa2, Ca2, ha, h1, h2, h3, hm⟩
                · exact ⟨_, rfl, oa, Ca, M, N, Ht5.out.mod hm, by omega, Hoa.out, HH.out.there Hxj.out (HR.out.same (fun c hc => (Hv.out.ok c hc).1) Hxm.out Hxr.out h), HR.out, hm.mono (fun _ _ h => h.elim)⟩
                · refine ⟨_, rfl, oa2, Ca2, _, _, Ht5.out.step ha h2 h3 hm, by omega, fun k hk => (h2 k hk).elim (Hoa.out k) (fun h => Nat.le_trans Hm15.out.size h), HH.out.add Hxj.out, HR.out.add Hxm.out Hxr.out, hm⟩
              subst hte
              have hncb : ¬ oa cb := fun h => by have := Hoaq.out cb h; omega
              have hndb : ¬ oa db := fun h => by have := Hoaq.out db h; omega
              have hgd6 := hm56.heap Hgd5.out hndb
              have b1 : w6.cell? ⟨db, 1, none⟩ = some (.int .i64 y.id) := cell_of hgd6 rfl
              have b2 : w6.cell? ⟨db, 2, none⟩ = some (.string y.f.sc) := cell_of hgd6 rfl
              have b3 : w6.cell? ⟨db, 3, none⟩ = some (.slice y.f.a y.f.cs.length y.f.c) := cell_of hgd6 rfl
              have hmw6 : Mod (fun _ => False) w w6 := Hmw5.out.upon hm56 (fun k hk => .inr (Nat.le_trans Hmw1.out.size (Hoa.out k hk)))
              have hm16 : Mod (fun _ => False) w1 w6 := Hm15.out.upon hm56 (fun k hk => .inr (Hoa.out k hk))
              have hadd2 := tadd_at w w6 (Hl0.out.mod0 hmw6) bb ob Cb M' N' ht6.b (by omega) (fun k hk => Nat.le_trans Hmw1.out.size (Hob.out k hk)) y.id (id_wf (Hv.out.ok y Hym.out).2) y.f.sc (.slice y.f.a y.f.cs.length y.f.c) y.f.cs ((Hv.out.ok y Hym.out).1.cs.mod hmw6 (fun _ _ h => h)) Hyf.out.1.1 Hyf.out.2 Hyf.out.1.2
              have hobq : ∀ k, ob k → k < wq.heap.size := Htw.out.b.low.1
              have hndb2 : ¬ ob db := fun h => by have := hobq db h; omega
              have Hgd6 := Lib.hid hgd6
              have Hmw6 := Lib.hid hmw6
              have Hm16 := Lib.hid hm16
              have Hadd2 := Lib.hid hadd2
              have Ht6 := Lib.hid ht6
              have Hoa2 := Lib.hid hoa2
              have HH2 := Lib.hid hH2
              have HR2 := Lib.hid hR2
              have Hm56 := Lib.hid hm56
              have Hncb := Lib.hid hncb
              have Hndb := Lib.hid hndb
              have Hobq := Lib.hid hobq
              have Hndb2 := Lib.hid hndb2
              clear hgd6 hmw6 hm16 hadd2 ht6 hoa2 hH2 hR2 hm56 hncb hndb hobq hndb2
              go_wp2_with fail
              refine Hadd2.out.mono ?_
              rintro e w7 (⟨h, rfl, hm7⟩ | ⟨h, rfl, ob2, Cb2, hb7, h1, h2, h3, hm7⟩)
              · have ht7 := Ht6.out.mod hm7
                have hm17 := Hm16.out.trans hm7 (fun _ _ h => h)
                have hHb := HH'.out.there (c := y) (by rw [HK.out]; exact Hyj.out) (HR'.out.same (fun c hc => (Hv.out.ok c hc).1) Hym.out Hyr.out h)
                have Ht7 := Lib.hid ht7
                have Hm17 := Lib.hid hm17
                have HHb := Lib.hid hHb
                have Hm7 := Lib.hid hm7
                clear ht7 hm17 hHb hm7
                go_wp2_with fail
                go_roundw
                case rel => exact ⟨j + 1, N2, N', oa2, Ca2, ob, Cb, M2, M', by go_num, hlt, Ht7.out, by omega, by omega, Hoa2.out, Hob.out, HH2.out, HHb.out, HR2.out, HR'.out, Hm17.out⟩
                case measure => simp [intOf]; omega
              · have ht7 := Ht6.out.symm.step hb7 h2 h3 hm7
                have hm17 : Mod (fun _ => False) w1 w7 := Hm16.out.upon hm7 (fun k hk => .inr (Hob.out k hk))
                have hmw7 : Mod (fun _ => False) w w7 := Hmw6.out.upon hm7 (fun k hk => .inr (Nat.le_trans Hmw1.out.size (Hob.out k hk)))
                have hgd7 := hm7.heap Hgd6.out Hndb2.out
                have e1 : w7.cell? ⟨db, 1, none⟩ = some (.int .i64 y.id) := cell_of hgd7 rfl
                have e2 : w7.cell? ⟨db, 2, none⟩ = some (.string y.f.sc) := cell_of hgd7 rfl
                have e3 : w7.cell? ⟨db, 3, none⟩ = some (.slice y.f.a y.f.cs.length y.f.c) := cell_of hgd7 rfl
                have hob2 : ∀ k, ob2 k → w1.heap.size ≤ k ∧ k ≠ db := fun k hk => by
                  rcases h2 k hk with h4 | h4
                  · exact ⟨Hob.out k h4, fun e => Hndb2.out (e ▸ h4)⟩
                  · have h5 := (Array.getElem?_eq_some_iff.1 Hgd6.out).1
                    exact ⟨Nat.le_trans Hm16.out.size h4, by omega⟩
                have hrem := trem_at w w7 (Hl0.out.mod0 hmw7) bb ob2 Cb2 _ (N' + 1) ht7.a (by omega) y.id (id_wf (Hv.out.ok y Hym.out).2) y.f.sc (.slice y.f.a y.f.cs.length y.f.c) y.f.cs ((Hv.out.ok y Hym.out).1.cs.mod hmw7 (fun _ _ h => h)) Hyf.out.1.1 Hyf.out.2 Hyf.out.1.2
                have Ht7 := Lib.hid ht7
                have Hm17 := Lib.hid hm17
                have Hmw7 := Lib.hid hmw7
                have Hgd7 := Lib.hid hgd7
                have Hob2 := Lib.hid hob2
                have Hrem := Lib.hid hrem
                have Hb7 := Lib.hid hb7
                have H1 := Lib.hid h1
                have H2 := Lib.hid h2
                have H3 := Lib.hid h3
                have Hm7 := Lib.hid hm7
                have H := Lib.hid h
                clear ht7 hm17 hmw7 hgd7 hob2 hrem hb7 h1 h2 h3 hm7 h
                go_wp2_with fail
                refine Hrem.out.mono ?_
                rintro e w8 (⟨h, -⟩ | ⟨-, rfl, hb8, hm8⟩)
                · rw [tabF_new H.out, if_pos ⟨rfl, rfl⟩] at h
                  cases h
                rw [tabD_last H.out] at hb8
                have ht8 := Ht7.out.step hb8 (fun k h => .inl h) (fun k h => .inl h) hm8
                have hm18 : Mod (fun _ => False) w1 w8 := Hm17.out.upon hm8 (fun k hk => .inr (Hob2.out k hk).1)
                have hmw8 : Mod (fun _ => False) w w8 := Hmw7.out.upon hm8 (fun k hk => .inr (Nat.le_trans Hmw1.out.size (Hob2.out k hk).1))
                have hgd8 := hm8.heap Hgd7.out (fun h => (Hob2.out _ h).2 rfl)
                have f1 : w8.cell? ⟨db, 1, none⟩ = some (.int .i64 y.id) := cell_of hgd8 rfl
                have f2 : w8.cell? ⟨db, 2, none⟩ = some (.string y.f.sc) := cell_of hgd8 rfl
                have f3 : w8.cell? ⟨db, 3, none⟩ = some (.slice y.f.a y.f.cs.length y.f.c) := cell_of hgd8 rfl
                have hadd3 := tadd_at w w8 (Hl0.out.mod0 hmw8) bb ob2 Cb2 M' (N' + 1) ht8.a (by omega) (fun k hk => Nat.le_trans Hmw1.out.size (Hob2.out k hk).1) y.id (id_wf (Hv.out.ok y Hym.out).2) y.f.sc (.slice y.f.a y.f.cs.length y.f.c) y.f.cs ((Hv.out.ok y Hym.out).1.cs.mod hmw8 (fun _ _ h => h)) Hyf.out.1.1 Hyf.out.2 Hyf.out.1.2
                have Ht8 := Lib.hid ht8
                have Hm18 := Lib.hid hm18
                have Hmw8 := Lib.hid hmw8
                have Hgd8 := Lib.hid hgd8
                have Hadd3 := Lib.hid hadd3
                have Hb8 := Lib.hid hb8
                have Hm8 := Lib.hid hm8
                clear ht8 hm18 hmw8 hgd8 hadd3 hb8 hm8
                go_wp2_with fail
                refine Hadd3.out.mono ?_
                rintro e w9 (⟨h, -⟩ | ⟨-, rfl, ob3, Cb3, hb9, h1, h2, h3, hm9⟩)
                · exact absurd H.out h
                have ht9 := (Ht8.out.step hb9 h2 h3 hm9).symm
                have hm19 : Mod (fun _ => False) w1 w9 := Hm18.out.upon hm9 (fun k hk => .inr (Hob2.out k hk).1)
                have hob3 : ∀ k, ob3 k → w1.heap.size ≤ k := fun k hk => (h2 k hk).elim (fun h => (Hob2.out k h).1) (fun h => Nat.le_trans Hm18.out.size h)
                have hHb := HH'.out.add (c := y) (by rw [HK.out]; exact Hyj.out)
                have hRb := HR'.out.add Hym.out Hyr.out
                have Ht9 := Lib.hid ht9
                have Hm19 := Lib.hid hm19
                have Hob3 := Lib.hid hob3
                have HHb := Lib.hid hHb
                have HRb := Lib.hid hRb
                have Hb9 := Lib.hid hb9
                have H1 := Lib.hid h1
                have H2 := Lib.hid h2
                have H3 := Lib.hid h3
                have Hm9 := Lib.hid hm9
                clear ht9 hm19 hob3 hHb hRb hb9 h1 h2 h3 hm9
                go_wp2_with fail
                go_roundw
                case rel => exact ⟨j + 1, N2, N' + 1 + 1, oa2, Ca2, ob3, Cb3, M2, _, by go_num, hlt, Ht9.out, by omega, by omega, Hoa2.out, Hob3.out, HH2.out, HHb.out, HR2.out, HRb.out, Hm19.out⟩
                case measure => simp [intOf]; omega
      · obtain rfl : j = l.length := by omega
        have hok1 : ∀ c ∈ l, c.f.ok w := fun c hc => (Hv.out.ok c hc).1
        have hinjA := hR.inj hok1 hR
        have hinjB := hR'.inj hok1 hR'
        have hsame : ∀ p, p ∈ M ↔ p ∈ M' := fun p => by
          constructor
          · intro hp
            obtain ⟨i, c, h1, h2, h3⟩ := (hH p).1 hp
            by_cases hi : G ≤ i
            · refine (hH' p).2 ⟨i - G, c, by omega, ?_, h3⟩
              show l[(i - G + G) % l.length]? = some c
              rw [show i - G + G = i by omega, Nat.mod_eq_of_lt h1]
              exact h2
            · refine (hH' p).2 ⟨i + (l.length - G), c, by omega, ?_, h3⟩
              show l[(i + (l.length - G) + G) % l.length]? = some c
              rw [show i + (l.length - G) + G = i + l.length by omega, Nat.add_mod_right, Nat.mod_eq_of_lt h1]
              exact h2
          · intro hp
            obtain ⟨i, c, h1, h2, h3⟩ := (hH' p).1 hp
            exact (hH p).2 ⟨(i + G) % l.length, c, Nat.mod_lt _ (by omega), h2, h3⟩
        have hoe := outL_cong hinjA hsame td
        obtain ⟨O, hO⟩ : ∃ O, outL M td = O := ⟨_, rfl⟩
        rw [hO] at hoe
        have ho1 := tout_at wq ba oa Ca M N htw.a (by omega) hinjA td (id_wf htd)
        rw [hO] at ho1
        have hOk : ∀ q ∈ O, okQ q := fun q hq => by
          rw [← hO] at hq
          obtain ⟨h1, -⟩ := outL_mem hq
          obtain ⟨-, y, -, h2⟩ := allF_some h1
          obtain ⟨mo, h3⟩ := htw.a
          exact ⟨(h3.wf _ h2).2.1, (h3.wf _ h2).2.2, h3.sc _ h2⟩
        have hOl : O.length ≤ 1000 := by
          rw [← hO]
          obtain ⟨mo, h3⟩ := htw.a
          have h4 := h3.low
          refine Nat.le_trans (outL_len M td) (by omega)
        have Htw := Lib.hid htw
        have Hoa := Lib.hid hoa
        have Hob := Lib.hid hob
        have HH := Lib.hid hH
        have HH' := Lib.hid hH'
        have HR := Lib.hid hR
        have HR' := Lib.hid hR'
        have Hmr := Lib.hid hmr
        have Hmwq := Lib.hid hmwq
        have Hok1 := Lib.hid hok1
        have HinjA := Lib.hid hinjA
        have HinjB := Lib.hid hinjB
        have Hsame := Lib.hid hsame
        have Hoe := Lib.hid hoe
        have HO := Lib.hid hO
        have Ho1 := Lib.hid ho1
        have HOk := Lib.hid hOk
        clear htw hoa hob hH hH' hR hR' hmr hmwq hok1 hinjA hinjB hsame hoe hO ho1 hOk
        go_wp2_with fail
        refine Ho1.out.mono ?_
        rintro e w4 ⟨v4, l4, rfl, hv4, hb4, hl4, hf4, hm4⟩
        obtain ⟨a4, c4, rfl, -⟩ := hv4.shape
        have ho2 := tout_at w4 bb ob Cb M' N' (Htw.out.mod hm4).b (by omega) HinjB.out td (id_wf htd)
        rw [← Hoe.out] at ho2
        have Hv4 := Lib.hid hv4
        have Hb4 := Lib.hid hb4
        have Hl4 := Lib.hid hl4
        have Hf4 := Lib.hid hf4
        have Hm4 := Lib.hid hm4
        have Ho2 := Lib.hid ho2
        clear hv4 hb4 hl4 hf4 hm4 ho2
        go_wp2_with fail
        refine Ho2.out.mono ?_
        rintro e w5 ⟨v5, l5, rfl, hv5, hb5, hl5, hf5, hm5⟩
        obtain ⟨a5, c5, rfl, -⟩ := hv5.shape
        have e4 : l4.length = O.length := by rw [← Hl4.out, List.length_map]
        have e5 : l5.length = O.length := by rw [← hl5, List.length_map]
        have hv45 := (Hv4.out.mod hm5 (fun _ _ h => h)).rd
        have hv55 := hv5.rd
        have hmw5 := (Hmwq.out.trans Hm4.out (fun _ _ h => h)).trans hm5 (fun _ _ h => h)
        have hf45 : ∀ f ∈ l4, FrC w5 Ca f := fun f hf => (Hf4.out f hf).mod hm5 (fun _ _ h => h.elim)
        rw [e4] at hv45
        rw [e5] at hv55
        rw [e4, e5]
        have Hv5 := Lib.hid hv5
        have Hb5 := Lib.hid hb5
        have Hl5 := Lib.hid hl5
        have Hf5 := Lib.hid hf5
        have Hm5 := Lib.hid hm5
        have Hv45 := Lib.hid hv45
        have Hv55 := Lib.hid hv55
        have Hmw5 := Lib.hid hmw5
        have Hf45 := Lib.hid hf45
        have E4 := Lib.hid e4
        have E5 := Lib.hid e5
        clear hv5 hb5 hl5 hf5 hm5 hv45 hv55 hmw5 hf45 e4 e5
        go_wp2_with fail
        go_loopw [98] (fun i wr => ∃ j : Nat, i = .int .i64 j ∧ j ≤ O.length ∧ Mod (fun _ => False) w5 wr) (fun i _ => O.length - (intOf i).toNat)
        case atStart => exact ⟨0, rfl, Nat.zero_le _, Mod.refl _ _⟩
        case round =>
          revert wr
          intro wu hrel
          obtain ⟨j, rfl, hj2, hmu⟩ := hrel
          have hmwu := Hmw5.out.trans hmu (fun _ _ h => h)
          by_cases hlt : j < O.length
          · have hlt' : (j : Int) < O.length := by omega
            have hlt4 : j < l4.length := by rw [E4.out]; exact hlt
            have hlt5 : j < l5.length := by rw [E5.out]; exact hlt
            obtain ⟨f4, hf4j⟩ : ∃ f, l4[j]? = some f := ⟨_, List.getElem?_eq_getElem hlt4⟩
            obtain ⟨f5, hf5j⟩ : ∃ f, l5[j]? = some f := ⟨_, List.getElem?_eq_getElem hlt5⟩
            have hq4 : O[j]? = some f4.fil := by rw [← Hl4.out, List.getElem?_map, hf4j]; rfl
            have hq5 : O[j]? = some f5.fil := by rw [← Hl5.out, List.getElem?_map, hf5j]; rfl
            have hqe : f5.fil = f4.fil := by rw [hq4] at hq5; exact (Option.some.inj hq5).symm
            have hqo := HOk.out _ (List.mem_of_getElem? hq4)
            obtain ⟨g4, o4, rfl, hc4⟩ := rd_el (f := Fr.cells) (sz := 2) (fun _ => rfl) (E4.out ▸ Hv45.out : RdSl w5 2 (.slice a4 l4.length c4) l4.length (l4.flatMap Fr.cells)) hf4j
            obtain ⟨g5, o5, rfl, hc5⟩ := rd_el (f := Fr.cells) (sz := 2) (fun _ => rfl) (E5.out ▸ Hv55.out : RdSl w5 2 (.slice a5 l5.length c5) l5.length (l5.flatMap Fr.cells)) hf5j
            have hr4 := (Hf45.out f4 (List.mem_of_getElem? hf4j)).1.rd
            have hr5 := (Hf5.out f5 (List.mem_of_getElem? hf5j)).1.rd
            obtain ⟨key, hkey⟩ : ∃ key, keyF f4.fil = key := ⟨_, rfl⟩
            have hp4 : ∀ wx, Mod (fun _ => False) wu wx → Calls Tryz.prog 29 #[.agg #[.string f4.sc, .slice f4.a f4.cs.length f4.c]] wx fun e w' => e = .returned (.string (str key)) ∧ Mod (fun _ => False) wu w' := fun wx hx => by
              have h1 := fprint_at w wx (Hl0.out.mod0 (hmwu.trans hx (fun _ _ h => h))) f4.sc (.slice f4.a f4.cs.length f4.c) f4.cs (hr4.mod (hmu.trans hx (fun _ _ h => h)) (fun _ _ h => h)) (by have h := hqo.1; rw [show f4.fil.2 = f4.cs from rfl] at h; omega) hqo.2.2 hqo.2.1
              rw [show filPrt f4.sc f4.cs = key from hkey] at h1
              exact h1.mono fun e w' ⟨he, hm⟩ => ⟨he, hx.trans hm (fun _ _ h => h)⟩
            have hqo5 : okQ f5.fil := by rw [hqe]; exact hqo
            have hp5 : ∀ wx, Mod (fun _ => False) wu wx → Calls Tryz.prog 29 #[.agg #[.string f5.sc, .slice f5.a f5.cs.length f5.c]] wx fun e w' => e = .returned (.string (str key)) ∧ Mod (fun _ => False) wu w' := fun wx hx => by
              have h1 := fprint_at w wx (Hl0.out.mod0 (hmwu.trans hx (fun _ _ h => h))) f5.sc (.slice f5.a f5.cs.length f5.c) f5.cs (hr5.mod (hmu.trans hx (fun _ _ h => h)) (fun _ _ h => h)) (by have h := hqo5.1; rw [show f5.fil.2 = f5.cs from rfl] at h; omega) hqo5.2.2 hqo5.2.1
              rw [show filPrt f5.sc f5.cs = key by rw [← hkey, ← hqe]; rfl] at h1
              exact h1.mono fun e w' ⟨he, hm⟩ => ⟨he, hx.trans hm (fun _ _ h => h)⟩
            have hF : ∀ wx, Mod (fun _ => False) wu wx → wx.cell? ⟨g4, o4 + j * 2, none⟩ = some (.string f4.sc) ∧ wx.cell? ⟨g4, o4 + j * 2 + 1, none⟩ = some (.slice f4.a f4.cs.length f4.c) ∧ wx.cell? ⟨g5, o5 + j * 2, none⟩ = some (.string f5.sc) ∧ wx.cell? ⟨g5, o5 + j * 2 + 1, none⟩ = some (.slice f5.a f5.cs.length f5.c) := fun wx hx => by
              have h4 := hc4.mod (hmu.trans hx (fun _ _ h => h)) (fun h => h)
              have h5 := hc5.mod (hmu.trans hx (fun _ _ h => h)) (fun h => h)
              exact ⟨h4 0 _ rfl, h4 1 _ rfl, h5 0 _ rfl, h5 1 _ rfl⟩
            have Hmu := Lib.hid hmu
            have Hmwu := Lib.hid hmwu
            have Hf4j := Lib.hid hf4j
            have Hf5j := Lib.hid hf5j
            have Hq4 := Lib.hid hq4
            have Hq5 := Lib.hid hq5
            have Hqe := Lib.hid hqe
            have Hqo := Lib.hid hqo
            have Hqo5 := Lib.hid hqo5
            have Hc4 := Lib.hid hc4
            have Hc5 := Lib.hid hc5
            have Hr4 := Lib.hid hr4
            have Hr5 := Lib.hid hr5
            have Hkey := Lib.hid hkey
            have Hp4 := Lib.hid hp4
            have Hp5 := Lib.hid hp5
            have HF := Lib.hid hF
            clear hmu hmwu hf4j hf5j hq4 hq5 hqe hqo hqo5 hc4 hc5 hr4 hr5 hkey hp4 hp5 hF
            go_wp2_with fail
            refine wp_region_news (by kernel_rfl) (by kernel_rfl) ?_
            iterate 11 (first
              | (refine quiet_skip ?_ (fun K hK => ?_)
                 · first | (go_simp; done) | (go_simp; simp [undef]; done)
                 go_simp; refine hK _ ?_; clear hK K)
              | (refine quiet_do ?_ ?_ (fun w' hw' => ?_) (fun K hK => ?_)
                 · first | (go_simp; done) | (go_simp; simp [undef]; done)
                 rotate_left
                 · obtain ⟨f0, f1, f2, f3⟩ := HF.out w' hw'
                   go_simp
                   rfl
                 go_simp; refine hK _ ?_; clear hK K)
              | (refine quiet_in ?_ ?_ ?_ ?_ (fun w' hw' => ?_) ?_ (fun K hK => ?_)
                 · first | (go_simp; done) | (go_simp; simp [undef]; done)
                 rotate_left 3
                 · obtain ⟨f0, f1, f2, f3⟩ := HF.out w' hw'
                   go_simp
                   constructor <;> rfl
                 · first | with_reducible exact Hp4.out | with_reducible exact Hp5.out
                 go_simp; refine hK _ ?_; clear hK K))
            refine quiet_end (fun w' hw' => ?_)
            have hmn := Hmu.out.trans hw' (fun _ _ h => h)
            have Hmn := Lib.hid hmn
            have Hw' := Lib.hid hw'
            clear hmn hw'
            go_wp2_with fail
            go_roundw
            case rel => exact ⟨j + 1, by go_num, hlt, Hmn.out⟩
            case measure => simp [intOf]; omega
          · obtain rfl : j = O.length := by omega
            have Hmu := Lib.hid hmu
            have Hmwu := Lib.hid hmwu
            clear hmu hmwu
            go_wp2_with fail
            go_ret
            exact ⟨rfl, Hmwu.out⟩
end Go.Proofs.YtloplmaekonenaaGreatDoor
