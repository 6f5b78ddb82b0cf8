/-
  The index's law, in the plain: what Norm leaves asks for the same.
  gazettelaw13.fit.
-/
import Derived.Test.YtloplmaekonenaaGreatDoorZb32
import Derived.Test.YtloplmaekonenaaGreatDoorZb33
import Derived.Test.YtloplmaekonenaaGreatDoorZb35
namespace Go.Proofs.YtloplmaekonenaaGreatDoor
set_option maxRecDepth 20000
open Go.RowKit

theorem fRank_zero : fRank 0 = 0 := by decide +kernel
theorem fRank_canon {x : Nat} (hx : x < 2 ^ 64) (hn : isNum x) : fRank (canonB x) = fRank x := by
  rw [canon_num2 hx hn]
  by_cases h : rungB x = 0
  · rw [if_pos h, fRank_zero]
    unfold fRank
    rw [h]
    split <;> rfl
  · rw [if_neg h]
theorem fEq_nan : fEq nanB nanB = false := by decide +kernel
theorem fEq_00 : fEq 0 0 = true := by decide +kernel
theorem fEq_canon (x : Nat) : fEq (canonB x) (canonB x) = fEq x x := by
  unfold canonB
  cases h : fEq x x with
  | false => rw [if_neg (by decide)]; exact fEq_nan
  | true =>
    rw [if_pos rfl]
    split
    · exact fEq_00
    · exact h
theorem canon_kind {v : V} (h : 0 ≤ v.kind ∧ v.kind ≤ 3) : v.canon.kind = v.kind := by
  unfold V.canon
  split
  · rename_i h; exact h.symm
  · split
    · rename_i h; exact h.symm
    · split
      · rename_i h; exact h.symm
      · split
        · rename_i h; exact h.symm
        · omega
theorem canon_void {v : V} (h : 0 ≤ v.kind ∧ v.kind ≤ 3) : v.canon.void = v.void := by
  unfold V.void
  rw [canon_kind h]
  by_cases h1 : v.kind = 1
  · have : v.canon.num = canonB v.num := by unfold V.canon; rw [if_neg (by omega), if_pos h1]
    rw [this, fEq_canon]
  · rw [beq_eq_false_iff_ne.2 h1]; rfl
theorem cmp_canon {a v : V} (h : 0 ≤ v.kind ∧ v.kind ≤ 3) (hk : a.kind = v.kind) (ha : a.void = false) (hv : v.void = false) (hn : v.num < 2 ^ 64) : V.cmp a v.canon = V.cmp a v := by
  unfold V.cmp
  by_cases h0 : a.kind = 0
  · rw [if_pos h0, if_pos h0]
    have : v.canon.int = v.int := by unfold V.canon; rw [if_pos (hk ▸ h0)]
    rw [this]
  · rw [if_neg h0, if_neg h0]
    by_cases h1 : a.kind = 1
    · rw [if_pos h1, if_pos h1]
      have e : v.canon.num = canonB v.num := by unfold V.canon; rw [if_neg (by omega), if_pos (hk ▸ h1)]
      have na := nvoid ha h1
      have nv := nvoid hv (hk ▸ h1)
      have nc := nvoid (a := v.canon) (by rw [canon_void h]; exact hv) (by rw [canon_kind h]; omega)
      rw [e] at nc ⊢
      rw [fLt_dec na nc, fLt_dec nc na, fLt_dec na nv, fLt_dec nv na, fRank_canon hn nv]
    · rw [if_neg h1, if_neg h1]
      by_cases h2 : a.kind = 2
      · rw [if_pos h2, if_pos h2]
        have : v.canon.text = v.text := by unfold V.canon; rw [if_neg (by omega), if_neg (by omega), if_pos (by omega)]
        rw [this]
      · rw [if_neg h2, if_neg h2]
        have : v.canon.yes = v.yes := by unfold V.canon; rw [if_neg (by omega), if_neg (by omega), if_neg (by omega), if_pos (by omega)]
        rw [this]
theorem cmpV_canon {a v : V} (h : 0 ≤ v.kind ∧ v.kind ≤ 3) (hn : v.num < 2 ^ 64) : cmpV a v.canon = cmpV a v := by
  by_cases hq : a.kind = v.kind ∧ a.void = false ∧ v.void = false
  · rw [cmpV_alike hq.1 hq.2.1 hq.2.2, cmpV_alike (by rw [canon_kind h]; exact hq.1) hq.2.1 (by rw [canon_void h]; exact hq.2.2), cmp_canon h hq.1 hq.2.1 hq.2.2 hn]
  · rw [cmpV_no hq, cmpV_no (by rw [canon_kind h, canon_void h]; exact hq)]
/-- A condition as it is kept does for the same values. -/
theorem norm_holds {c : Cnd} (h : 0 ≤ c.v.kind ∧ c.v.kind ≤ 3) (hn : c.v.num < 2 ^ 64) (v : V) : c.norm.holds v = c.holds v := by
  unfold Cnd.norm
  by_cases h7 : c.op = 7
  · rw [if_pos h7]
    unfold Cnd.holds
    rw [if_pos rfl, if_pos h7]
  · rw [if_neg h7]
    unfold Cnd.holds
    simp only []
    rw [cmpV_canon h hn]
    by_cases h6 : c.op = 6
    · rw [if_neg h7, if_neg h7, if_pos h6, if_pos h6]
      by_cases hq : v.kind = c.v.kind ∧ v.void = false ∧ c.v.void = false
      · by_cases h2 : v.kind = 2
        · have : c.v.canon.text = c.v.text := by unfold V.canon; rw [if_neg (by omega), if_neg (by omega), if_pos (by omega)]
          rw [this]
        · rw [beq_eq_false_iff_ne.2 h2]; simp
      · rw [cmpV_no hq]; rfl
    · rw [if_neg h7, if_neg h7, if_neg h6, if_neg h6]
theorem norm_name (c : Cnd) : c.norm.name = c.name := by unfold Cnd.norm; split <;> rfl
theorem norm_op (c : Cnd) : c.norm.op = c.op := by
  unfold Cnd.norm
  split
  · rename_i h; exact h.symm
  · rfl

/-! What is needless: each condition of a list follows from one that is kept. -/
def okC (c : Cnd) : Prop := (0 ≤ c.op ∧ c.op ≤ 7) ∧ c.v.num < 2 ^ 64
theorem need_trans {a b c : Cnd} {i j k : Nat} (ha : okC a) (hb : okC b) (hc : okC c) (hik : i = k → a = c) (h1 : needAt b j i a = true) (h2 : needAt c k j b = true) : needAt c k i a = true := by
  unfold needAt at *
  simp only [Bool.and_eq_true, Bool.or_eq_true, decide_eq_true_eq, Bool.not_eq_true'] at *
  obtain ⟨n1, p1, q1⟩ := h1
  obtain ⟨n2, p2, q2⟩ := h2
  have hac := imp_trans ha.1 hb.1 hc.1 ha.2 hb.2 hc.2 p1 p2
  have key : impB c a = true → i < k := fun h => by
    have h3 : impB b a = true := imp_trans hb.1 hc.1 ha.1 hb.2 hc.2 ha.2 p2 h
    have h4 : impB c b = true := imp_trans hc.1 ha.1 hb.1 hc.2 ha.2 hb.2 h p1
    rcases q1 with q1 | q1
    · rcases q2 with q2 | q2
      · omega
      · rw [h4] at q2; cases q2
    · rw [h3] at q1; cases q1
  by_cases hca : impB c a = true
  · have := key hca
    exact ⟨by omega, hac, .inl this⟩
  · exact ⟨fun e => hca (by rw [hik e]; exact imp_refl hc.1 hc.2), hac, .inr (by rw [Bool.eq_false_iff]; exact hca)⟩
theorem filter_lt {α : Type} {p q : α → Bool} {l : List α} (h : ∀ x ∈ l, p x = true → q x = true) {x : α} (hx : x ∈ l) (hq : q x = true) (hp : p x = false) : (l.filter p).length < (l.filter q).length := by
  induction l with
  | nil => cases hx
  | cons y l ih =>
    have hle : (l.filter p).length ≤ (l.filter q).length := by
      clear ih hx
      have h' : ∀ x ∈ l, p x = true → q x = true := fun x hx => h x (List.mem_cons_of_mem _ hx)
      clear h
      induction l with
      | nil => exact Nat.le_refl _
      | cons z l ih2 =>
        have := ih2 (fun x hx => h' x (List.mem_cons_of_mem _ hx))
        rw [List.filter_cons, List.filter_cons]
        have hz := h' z (List.mem_cons_self ..)
        cases hpz : p z <;> cases hqz : q z
        · simpa using this
        · simp; omega
        · rw [hz hpz] at hqz; cases hqz
        · simpa using this
    rw [List.filter_cons, List.filter_cons]
    rcases List.mem_cons.1 hx with rfl | hx
    · rw [hp, hq]; simp; omega
    · have h1 := ih (fun x hx => h x (List.mem_cons_of_mem _ hx)) hx
      have hy := h y (List.mem_cons_self ..)
      cases hpy : p y <;> cases hqy : q y
      · simpa using h1
      · simp; omega
      · rw [hy hpy] at hqy; cases hqy
      · simpa using h1
/-- What is needless follows from something that is not. -/
theorem need_min (s : List Cnd) (hs : ∀ c ∈ s, okC c) : ∀ (n i : Nat) (c : Cnd), s[i]? = some c → (s.zipIdx.filter fun p => needAt c i p.2 p.1).length ≤ n → ∃ k d, s[k]? = some d ∧ needB s k d = false ∧ impB d c = true
  | n, i, c, hc, hn => by
    have oc := hs c (List.mem_of_getElem? hc)
    cases hb : needB s i c with
    | false => exact ⟨i, c, hc, hb, imp_refl oc.1 oc.2⟩
    | true =>
      unfold needB at hb
      obtain ⟨⟨a, k⟩, hm, hna⟩ := List.any_eq_true.1 hb
      have hk := List.mem_zipIdx_iff_getElem?.1 hm
      simp only at hk hna
      have oa := hs a (List.mem_of_getElem? hk)
      have hlt := filter_lt (p := fun p => needAt a k p.2 p.1) (q := fun p => needAt c i p.2 p.1) (l := s.zipIdx) (fun x hx hp => by
        have hxk := List.mem_zipIdx_iff_getElem?.1 hx
        refine need_trans (hs _ (List.mem_of_getElem? hxk)) oa oc (fun e => ?_) hp hna
        rw [e, hc] at hxk
        exact (Option.some.inj hxk).symm) hm hna (by unfold needAt; simp)
      match n, hn with
      | 0, hn => omega
      | n + 1, hn =>
        obtain ⟨k', d, h1, h2, h3⟩ := need_min s hs n k a hk (by omega)
        have hac : impB a c = true := by
          unfold needAt at hna
          simp only [Bool.and_eq_true] at hna
          exact hna.2.1
        have od := hs d (List.mem_of_getElem? h1)
        exact ⟨k', d, h1, h2, imp_trans od.1 oa.1 oc.1 od.2 oa.2 oc.2 h3 hac⟩
theorem keepC_mem {s : List Cnd} {k : Nat} {d : Cnd} (h : s[k]? = some d) (hn : needB s k d = false) : d ∈ keepC s s.length := by
  unfold keepC
  rw [List.take_length]
  exact List.mem_filterMap.2 ⟨(d, k), List.mem_zipIdx_iff_getElem?.2 h, by simp [hn]⟩
/-- What Norm leaves asks for the same. -/
theorem normC_all {l : List Cnd} (hl : ∀ c ∈ l, okC c) (M : Cnd → Bool) (hm : ∀ a b, okC a → okC b → impB a b = true → M a = true → M b = true) (hn : ∀ c ∈ l, M c.norm = M c) (ho : ∀ c ∈ l, okC c.norm) : (normC l).all M = l.all M := by
  rw [Bool.eq_iff_iff, List.all_eq_true, List.all_eq_true]
  have os : ∀ c ∈ sortC l, okC c := fun c hc => by
    obtain ⟨d, hd, rfl⟩ := sortC_mem hc
    exact ho d hd
  constructor
  · intro h c hc
    rw [← hn c hc]
    have hcs : c.norm ∈ sortC l := (isort_perm ltC _).mem_iff.2 (List.mem_map_of_mem hc)
    obtain ⟨i, hi⟩ := List.mem_iff_getElem?.1 hcs
    obtain ⟨k, d, h1, h2, h3⟩ := need_min (sortC l) os _ i c.norm hi (Nat.le_refl _)
    have hd : d ∈ normC l := by
      unfold normC
      rw [← sortC_len]
      exact keepC_mem h1 h2
    exact hm d c.norm (os d (List.mem_of_getElem? h1)) (ho c hc) h3 (h d hd)
  · intro h c hc
    obtain ⟨d, hd, rfl⟩ := sortC_mem (normC_mem hc)
    rw [hn d hd]
    exact h d hd

/-! Counting: of unlike names a condition is met at most once. -/
def hitB (a : Att) (c : Cnd) : Bool := c.name.data.toList == a.name.data.toList && c.holds a.v
def cntQ (q : List Cnd) (L : List Att) : Nat := (L.map fun a => (q.filter (hitB a)).length).sum
theorem cntQ_nil (L : List Att) : cntQ [] L = 0 := by
  unfold cntQ
  induction L with
  | nil => rfl
  | cons a L ih => rw [List.map_cons, List.sum_cons, ih]; rfl
theorem cntQ_cons (c : Cnd) (q : List Cnd) (L : List Att) : cntQ (c :: q) L = (L.filter fun a => hitB a c).length + cntQ q L := by
  unfold cntQ
  induction L with
  | nil => rfl
  | cons a L ih =>
    rw [List.map_cons, List.sum_cons, List.map_cons, List.sum_cons, ih, List.filter_cons, List.filter_cons]
    cases hitB a c <;> simp <;> omega
theorem hit_one {L : List Att} (hL : (L.map fun a => a.name.data.toList).Nodup) (c : Cnd) : (L.filter fun a => hitB a c).length = if rMatchC c L = true then 1 else 0 := by
  have hit : ∀ a : Att, (a.name.toList == c.name.toList && c.holds a.v) = hitB a c := fun a => by
    unfold hitB
    rw [ByteArray.toList_eq, ByteArray.toList_eq, Bool.beq_comm]
  unfold rMatchC
  simp only [hit]
  induction L with
  | nil => rfl
  | cons a L ih =>
    rw [List.map_cons, List.nodup_cons] at hL
    rw [List.filter_cons, List.any_cons]
    cases h : hitB a c with
    | false =>
      rw [if_neg (by decide), Bool.false_or]
      exact ih hL.2
    | true =>
      rw [if_pos rfl, Bool.true_or, if_pos rfl, List.length_cons]
      have : L.filter (fun a => hitB a c) = [] := by
        rw [List.filter_eq_nil_iff]
        intro b hb hbc
        unfold hitB at h hbc
        rw [Bool.and_eq_true, beq_iff_eq] at h hbc
        exact hL.1 (by rw [← h.1, hbc.1]; exact List.mem_map_of_mem hb)
      rw [this]
      rfl
theorem cntQ_le {L : List Att} (hL : (L.map fun a => a.name.data.toList).Nodup) (q : List Cnd) : cntQ q L ≤ q.length ∧ (cntQ q L = q.length ↔ ∀ c ∈ q, rMatchC c L = true) := by
  induction q with
  | nil => rw [cntQ_nil]; simp
  | cons c q ih =>
    rw [cntQ_cons, hit_one hL, List.length_cons]
    obtain ⟨h1, h2⟩ := ih
    cases h : rMatchC c L with
    | false =>
      refine ⟨by simp; omega, ⟨fun e => ?_, fun e => ?_⟩⟩
      · simp at e; omega
      · have := e c (List.mem_cons_self ..); rw [h] at this; cases this
    | true =>
      refine ⟨by simp; omega, ⟨fun e => ?_, fun e => ?_⟩⟩
      · intro d hd
        rcases List.mem_cons.1 hd with rfl | hd
        · exact h
        · exact h2.1 (by simp at e; omega) d hd
      · have := h2.2 (fun d hd => e d (List.mem_cons_of_mem _ hd))
        simp
        omega
theorem cntA_Q {I : List (Int × Fil)} {id : Int} {q : Fil} (h : idxF I id = some q) (L : List Att) : cntA I L id = cntQ q.2 L := by
  unfold cntA cntQ
  rw [h]
  congr 1
  congr 1
  funext a
  unfold ofName
  simp only [List.filter_filter]
  congr 1
  congr 1
  funext c
  unfold hitB
  exact Bool.and_comm _ _
/-- gazetteref07.Match. -/
def rMatF (f : Fil) (es : ByteArray) (L : List Att) : Bool := underB es f.1 && f.2.all fun c => rMatchC c L
theorem matB_some {I : List (Int × Fil)} {id : Int} {q : Fil} (h : idxF I id = some q) {L : List Att} (hL : (L.map fun a => a.name.data.toList).Nodup) (es : ByteArray) : matB I es L id = rMatF q es L := by
  unfold matB rMatF
  rw [h]
  simp only []
  rw [cntA_Q h, Bool.and_comm]
  congr 1
  rw [Bool.eq_iff_iff, beq_iff_eq, List.all_eq_true]
  exact (cntQ_le hL q.2).2
theorem rMatch_imp {a b : Cnd} (ha : okC a) (hb : okC b) (h : impB a b = true) (L : List Att) (hm : rMatchC a L = true) : rMatchC b L = true := by
  have hn := ((imp_iff a b ha.1 hb.1 ha.2 hb.2).1 h).1
  unfold rMatchC at *
  obtain ⟨x, hx, h1⟩ := List.any_eq_true.1 hm
  rw [Bool.and_eq_true] at h1
  refine List.any_eq_true.2 ⟨x, hx, ?_⟩
  rw [Bool.and_eq_true, ← hn]
  exact ⟨h1.1, imp_sound ha.1 hb.1 ha.2 hb.2 h h1.2⟩
/-- What a condition must be like. -/
structure Cnd.whole (c : Cnd) : Prop where
  op : 0 ≤ c.op ∧ c.op ≤ 7
  kind : 0 ≤ c.v.kind ∧ c.v.kind ≤ 3
  num : c.v.num < 2 ^ 64
theorem whole_ok {c : Cnd} (h : c.whole) : okC c ∧ okC c.norm := by
  refine ⟨⟨h.op, h.num⟩, ⟨by rw [norm_op]; exact h.op, ?_⟩⟩
  unfold Cnd.norm
  split
  · exact (by decide : (0 : Nat) < 2 ^ 64)
  · show c.v.canon.num < 2 ^ 64
    unfold V.canon
    split
    · exact (by decide : (0 : Nat) < 2 ^ 64)
    · split
      · exact canonB_lt h.num
      · split
        · exact (by decide : (0 : Nat) < 2 ^ 64)
        · split <;> exact (by decide : (0 : Nat) < 2 ^ 64)
/-- Norm keeps what a filter asks. -/
theorem normC_mat {sc : ByteArray} {l : List Cnd} (hl : ∀ c ∈ l, c.whole) (es : ByteArray) (L : List Att) : rMatF (sc, normC l) es L = rMatF (sc, l) es L := by
  unfold rMatF
  simp only []
  rw [normC_all (fun c hc => (whole_ok (hl c hc)).1) (fun c => rMatchC c L) (fun a b ha hb h hm => rMatch_imp ha hb h L hm) (fun c hc => by
    unfold rMatchC
    rw [norm_name]
    congr 1
    funext a
    rw [norm_holds (hl c hc).kind (hl c hc).num]) (fun c hc => (whole_ok (hl c hc)).2)]
end Go.Proofs.YtloplmaekonenaaGreatDoor

namespace Go.Proofs.YtloplmaekonenaaGreatDoor
set_option maxRecDepth 20000
open Go.RowKit

def fitI : List (Int × Fil) := [(7, (⟨#[97]⟩, []))]
theorem fit_mat : matL fitI ⟨#[97, 47, 98]⟩ [] = [7] := by decide +kernel
theorem fit_right : filRight ⟨#[]⟩ [] = true := by decide +kernel
theorem normC_nil : normC [] = [] := by decide +kernel
set_option maxHeartbeats 8000000 in
theorem fit13_at (w0 w : World) (hl : Laid w0 w) : Calls Tryz.prog 13 #[] w fun e w' => e = .returned (.bool true) ∧ Mod (fun _ => False) w w' := by
  have hnew := inew_at w
  have Hl := Lib.hid hl
  have Hnew := Lib.hid hnew
  clear hl hnew
  go_enter Tryz.func13, Tryz.ntmps13
  go_wp2_with fail
  refine Hnew.out.mono ?_
  rintro e w1 ⟨b, own, rfl, hix, hown, hm1⟩
  have hadd := iadd_at w0 w1 (Hl.out.mod0 hm1) b own _ [] 0 hix (by decide) (fun k hk => Nat.le_trans Hl.out.size (hown k hk).1) 7 (by decide) ⟨#[97]⟩ (.slice none 0 0) [] (OwnSl.nil w1 0 7).rd (by decide) (fun c hc => (by cases hc)) (by decide)
  have Hix := Lib.hid hix
  have Hown := Lib.hid hown
  have Hm1 := Lib.hid hm1
  have Hadd := Lib.hid hadd
  clear hix hown hm1 hadd
  go_wp2_with fail
  refine Hadd.out.mono ?_
  rintro e w2 (⟨h, -⟩ | ⟨-, rfl, own', C', hix2, ho1, ho2, -, hm2⟩)
  · exact absurd rfl h
  rw [normC_nil] at hix2
  have hix2' : Idx w2 b own' C' fitI 20 := hix2
  have hmw2 : Mod (fun _ => False) w w2 := Hm1.out.upon hm2 (fun k hk => .inr (Hown.out k hk).1)
  have hmat := imatch_at w2 b own' C' fitI 20 hix2' (by decide) ⟨#[97, 47, 98]⟩ (by decide) (.slice none 0 0) [] (OwnSl.nil w2 0 6).rd (by decide) (fun c hc => (by cases hc))
  unfold IMatPost at hmat
  rw [fit_mat] at hmat
  have Hix2 := Lib.hid hix2
  have Hix2' := Lib.hid hix2'
  have Ho1 := Lib.hid ho1
  have Ho2 := Lib.hid ho2
  have Hm2 := Lib.hid hm2
  have Hmw2 := Lib.hid hmw2
  have Hmat := Lib.hid hmat
  clear hix2 hix2' ho1 ho2 hm2 hmw2 hmat
  go_wp2_with fail
  refine Hmat.out.mono ?_
  rintro e w3 ⟨v, rfl, hvo, -, hm3⟩
  obtain ⟨va, vc, hva, hvc⟩ := hvo.shape
  obtain rfl : v = .slice va 1 vc := hva
  obtain ⟨vg, vf, rfl, hcell⟩ := rd_int (l := [7]) (j := 0) hvo.rd rfl
  rw [Nat.add_zero] at hcell
  have hln := ilen_at w3 b own' C' fitI 20 (Hix2'.out.mod hm3 (fun _ _ h => h))
  have hfr := filter_right w3 ⟨#[]⟩ (.slice none 0 0) [] (OwnSl.nil w3 0 7).rd (by decide) (by decide) (fun c hc => (by cases hc))
  rw [fit_right] at hfr
  have Hvo := Lib.hid hvo
  have Hm3 := Lib.hid hm3
  have Hln := Lib.hid hln
  have Hfr := Lib.hid hfr
  clear hvo hm3 hln hfr
  go_wp2_with fail
  refine Hln.out.mono ?_
  rintro e w4 ⟨rfl, hw4⟩
  obtain rfl := hw4
  rw [show ((fitI.length : Nat) : Int) = 1 from rfl]
  go_wp2_with fail
  refine Hfr.out.mono ?_
  rintro e w5 ⟨rfl, hm5⟩
  have Hm5 := Lib.hid hm5
  clear hm5
  go_wp2_with fail
  go_ret
  exact ⟨rfl, (Hmw2.out.trans Hm3.out (fun _ _ h => h)).trans Hm5.out (fun _ _ h => h)⟩
end Go.Proofs.YtloplmaekonenaaGreatDoor
