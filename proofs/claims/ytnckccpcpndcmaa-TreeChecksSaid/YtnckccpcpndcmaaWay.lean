/-
  The way from one to another.
-/
import Derived.Test.YtnckccpcpndcmaaTget
namespace Go.Proofs.Ytnckccpcpndcmaa
open Go.RowKit

/-- The first neighbour from which there is a way. -/
def wayL (W : Int → Option (List Int)) (a : Int) : List Int → Option (List Int)
  | [] => some []
  | n :: l => match W n with
    | none => none
    | some [] => wayL W a l
    | some (x :: r) => some (a :: x :: r)
/-- The way, no deeper than k. -/
def wayF (N : List (List Int)) : Nat → Int → Int → Int → Option (List Int)
  | 0, _, _, _ => none
  | k + 1, a, b, f => if a < 0 ∨ (N.length : Int) ≤ a then none else if a = b then some [a] else wayL (fun n => if n = f then some [] else wayF N k n b a) a (nearF N a)
def pathF (N : List (List Int)) (k : Nat) (a b : Int) : Option (List Int) := if a < 0 ∨ b < 0 ∨ (N.length : Int) ≤ a ∨ (N.length : Int) ≤ b then some [] else wayF N k a b (-1)
theorem wayL_len {W : Int → Option (List Int)} {a : Int} {k : Nat} (hW : ∀ n R, W n = some R → R.length ≤ k) : ∀ (l : List Int) (R : List Int), wayL W a l = some R → R.length ≤ k + 1
  | [], R, h => by cases h; exact Nat.zero_le _
  | n :: l, R, h => by
    unfold wayL at h
    split at h
    · cases h
    · exact wayL_len hW l R h
    · rename_i x r hx
      cases h
      have := hW n _ hx
      simp only [List.length_cons] at this ⊢
      omega
theorem wayF_len {N : List (List Int)} : ∀ (k : Nat) (a b f : Int) (R : List Int), wayF N k a b f = some R → R.length ≤ k
  | 0, _, _, _, _, h => by cases h
  | k + 1, a, b, f, R, h => by
    unfold wayF at h
    split at h
    · cases h
    · split at h
      · cases h; simp
      · refine wayL_len (fun n R' h' => ?_) _ _ h
        split at h'
        · cases h'; exact Nat.zero_le _
        · exact wayF_len k _ _ _ _ h'

/-- A row that is handed back: nil, if there is nothing in it. -/
def WayPost (w : World) (R : List Int) (e : Ending) (w' : World) : Prop :=
  ∃ v', e = .returned v' ∧ RdSl w' 1 v' R.length (ints R) ∧ (R = [] → v' = .slice none 0 0) ∧ (R ≠ [] → ∃ g off cap, v' = .slice (some ⟨g, off, none⟩) R.length cap) ∧ Mod (fun _ => False) w w'
theorem RdSl.nil1 (w : World) (sz : Nat) : RdSl w sz (.slice none 0 0) 0 [] := ⟨by simp, none, 0, rfl, Nat.le_refl _, fun _ => rfl, fun b hb _ => (by cases hb)⟩

set_option maxHeartbeats 4000000 in
theorem way_at (t : Nat) (N : List (List Int)) (hN : N.length ≤ 1000) (hl : ∀ l ∈ N, l.length ≤ 1000000) : ∀ (k : Nat) (a b f : Int) (w : World) (R : List Int), k ≤ 1000000 → wayF N k a b f = some R → TreeAt w t N →
    Calls Try.prog 16 #[.pointer (some ⟨t, 0, none⟩), .int .i64 a, .int .i64 b, .int .i64 f] w (WayPost w R) := by
  intro k
  induction k with
  | zero => intro a b f w R _ h; cases h
  | succ k ih =>
    intro a b f w R hk hR hT
    unfold wayF at hR
    split at hR
    · cases hR
    rename_i hab
    obtain ⟨a, rfl⟩ : ∃ n : Nat, a = n := ⟨a.toNat, by omega⟩
    have han : (a : Int) < N.length := by omega
    have hN' : (N.length : Int) ≤ 1000 := by omega
    split at hR
    · rename_i hq
      subst hq
      cases hR
      obtain ⟨wz, hwz⟩ : ∃ wz : World, w.alloc (.cells #[.int .i64 a] 3) = wz := ⟨_, rfl⟩
      have hmwz : Mod (fun _ => False) w wz := hwz ▸ (Mod.refl (fun _ => False) w).alloc _
      have hgwz := heap_alloc_new w (.cells #[.int .i64 a] 3)
      rw [hwz] at hgwz
      have hzwz : wz.heap.size = w.heap.size + 1 := by rw [← hwz]; simp
      have hrz : RdSl wz 1 (.slice (some ⟨w.heap.size, 0, none⟩) 1 1) 1 [.int .i64 a] := hwz ▸ RdSl.one w [.int .i64 a] 3 rfl
      have ht : ((a : Int) == (a : Int)) = true := beq_self_eq_true _
      have Hrz := Lib.hid hrz
      have Hmwz := Lib.hid hmwz
      have Hwz := Lib.hid hwz
      clear hrz hmwz hwz hgwz hzwz hab hT ih hl
      go_enter Try.func16, Try.ntmps16
      go_wp2_with (first | (rw [show w.alloc _ = wz from Hwz.out]) | fail)
      go_ret
      exact ⟨_, rfl, Hrz.out, fun h => absurd h (by simp), fun _ => ⟨_, _, _, rfl⟩, Hmwz.out⟩
    rename_i hq
    obtain ⟨g, vs, ht, hg, hv, ho⟩ := hT.rd
    obtain ⟨v, hva⟩ : ∃ v, vs[a]? = some v := ⟨_, List.getElem?_eq_getElem (by omega)⟩
    obtain ⟨l, hla⟩ : ∃ v, N[a]? = some v := ⟨_, List.getElem?_eq_getElem (by omega)⟩
    have hown := ho a v l hva hla
    rw [nearF_at hla] at hR
    have hll := hl l (List.mem_of_getElem? hla)
    have hll' : (l.length : Int) ≤ 1000000 := by omega
    obtain ⟨va, vc, rfl, hvc⟩ := hown.shape
    have hvc' : (l.length : Int) ≤ vc := by omega
    have ct : w.cell? ⟨t, 0, none⟩ = some (.slice (some ⟨g, 0, none⟩) N.length N.length) := cell_of ht rfl
    have c : w.cell? ⟨g, a, none⟩ = some (.slice va l.length vc) := (cell_of_row w g a _ _ _ hg).trans (by simpa using hva)
    have hqb : ((a : Int) == b) = false := by rw [beq_eq_false_iff_ne]; exact hq
    have hrd := hown.rd
    obtain ⟨W, hW⟩ : ∃ W : Int → Option (List Int), W = fun n => if n = f then some [] else wayF N k n b a := ⟨_, rfl⟩
    rw [← hW] at hR
    have Hrd := Lib.hid hrd
    have HR := Lib.hid hR
    have HT := Lib.hid hT
    have Ih := Lib.hid ih
    have Hl := Lib.hid hl
    have HW := Lib.hid hW
    clear hrd hR hT ih hl hW ht hg hv ho hva hla hown hll hvc hab hq
    go_enter Try.func16, Try.ntmps16
    go_wp2_with fail
    clear ct c
    go_loopw [25] (fun i wr => ∃ j : Nat, i = .int .i64 j ∧ j ≤ l.length ∧ wayL W a (l.drop j) = some R ∧ Mod (fun _ => False) w wr) (fun i _ => l.length - (intOf i).toNat)
    case atStart => exact ⟨0, rfl, Nat.zero_le _, HR.out, Mod.refl _ _⟩
    case round =>
      obtain ⟨j, rfl, hj, hwl, hmr⟩ := hrel
      by_cases hlt : j < l.length
      · have hlt' : (j : Int) < l.length := by omega
        obtain ⟨n, hnj⟩ : ∃ n, l[j]? = some n := ⟨_, List.getElem?_eq_getElem hlt⟩
        obtain ⟨vg, voff, rfl, cn⟩ := rd_int (Hrd.out.mod hmr (fun _ _ h => h)) hnj
        have hdr : l.drop j = n :: l.drop (j + 1) := by
          rw [List.drop_eq_getElem_cons hlt]
          congr 1
          have := List.getElem?_eq_getElem hlt
          rw [hnj] at this
          exact (Option.some.inj this).symm
        rw [hdr] at hwl
        unfold wayL at hwl
        by_cases hnf : n = f
        · have hWn : W n = some [] := by rw [HW.out]; exact if_pos hnf
          rw [hWn] at hwl
          have hbf : (n == f) = true := by rw [hnf]; exact beq_self_eq_true _
          have Hwl := Lib.hid hwl
          have Hmr := Lib.hid hmr
          clear hwl hmr hdr hWn hnj
          go_wp2_with fail
          go_roundw
          case rel => exact ⟨j + 1, by go_num, hlt, Hwl.out, Hmr.out⟩
          case measure => simp [intOf]; omega
        · have hWn : W n = wayF N k n b a := by rw [HW.out]; exact if_neg hnf
          have hbf : (n == f) = false := by rw [beq_eq_false_iff_ne]; exact hnf
          cases hwn : wayF N k n b a with
          | none => rw [hWn, hwn] at hwl; cases hwl
          | some S =>
            rw [hWn, hwn] at hwl
            have hcall := Ih.out n b a wr S (by omega) hwn (HT.out.mod hmr)
            have hSl := wayF_len k _ _ _ _ hwn
            cases S with
            | nil =>
              simp only at hwl
              have Hwl := Lib.hid hwl
              have Hmr := Lib.hid hmr
              have Hcall := Lib.hid hcall
              clear hwl hmr hcall hdr hWn hnj hwn hSl hnf
              go_wp2_with fail
              refine Hcall.out.mono ?_
              rintro e w2 ⟨v', rfl, -, hnil, -, hm2⟩
              obtain rfl := hnil rfl
              have hm02 := Hmr.out.trans hm2 (fun _ _ h => h)
              have Hm02 := Lib.hid hm02
              clear hm02 hnil hm2 Hcall
              go_wp2_with fail
              go_roundw
              case rel => exact ⟨j + 1, by go_num, hlt, Hwl.out, Hm02.out⟩
              case measure => simp [intOf]; omega
            | cons x r =>
              simp only [Option.some.injEq] at hwl
              subst hwl
              have Hmr := Lib.hid hmr
              have Hcall := Lib.hid hcall
              have HSl := Lib.hid hSl
              clear hmr hcall hSl hdr hWn hnj hwn hnf
              go_wp2_with fail
              refine Hcall.out.mono ?_
              rintro e w2 ⟨v', rfl, hrd2, -, hsh, hm2⟩
              obtain ⟨g2, o2, c2, rfl⟩ := hsh (by simp)
              have hm02 := Hmr.out.trans hm2 (fun _ _ h => h)
              obtain ⟨wz, hwz⟩ : ∃ wz : World, w2.alloc (.cells #[.int .i64 a] 3) = wz := ⟨_, rfl⟩
              have hmwz : Mod (fun _ => False) w2 wz := hwz ▸ (Mod.refl (fun _ => False) w2).alloc _
              have hgwz := heap_alloc_new w2 (.cells #[.int .i64 a] 3)
              rw [hwz] at hgwz
              have hzwz : wz.heap.size = w2.heap.size + 1 := by rw [← hwz]; simp
              have hownZ : OwnSl wz 3 1 (.slice (some ⟨w2.heap.size, 0, none⟩) 1 1) 1 [.int .i64 a] := ⟨rfl, .inr ⟨w2.heap.size, 0, 1, _, rfl, hgwz, Nat.le_refl _, by unfold maxLen; omega, by simp, by simp⟩⟩
              have hrd3 := hrd2.mod hmwz (fun _ _ h => h)
              have hone := ints_one (x :: r)
              have hmz := hm02.trans hmwz (fun _ _ h => h)
              have hw2z : w.heap.size ≤ w2.heap.size := hm02.size
              have hsl2 := HSl.out
              have Hwz := Lib.hid hwz
              have HownZ := Lib.hid hownZ
              have Hrd3 := Lib.hid hrd3
              have Hone := Lib.hid hone
              have Hmz := Lib.hid hmz
              clear hwz hownZ hrd3 hone hmz hgwz hmwz hzwz hrd2 hsh hm2 hm02 Hcall Hmr HSl
              go_wp2_with (first | (rw [show w2.alloc _ = wz from Hwz.out]) | ((with_reducible refine wpList_append_lit (.tmp 40) (.tmp 41) 22 ?_); refine ⟨rfl, 3, 1, 8, ints_T, .slice (some ⟨w2.heap.size, 0, none⟩) 1 1, 1, [.int .i64 a], rfl, HownZ.out, _, (x :: r).length, ints (x :: r), rfl, Hrd3.out, Hone.out, by omega, by unfold maxLen; omega, ?_⟩; intro ad cap2 w4 hA; have HAp := Lib.hid hA; clear hA) | fail)
              go_ret
              obtain ⟨h1, h2, -⟩ := HAp.out
              have h3 := h1.rd
              have hlen : ((a : Int) :: x :: r).length = 1 + (x :: r).length := by simp only [List.length_cons]; omega
              refine ⟨_, rfl, by rw [hlen]; exact h3, fun h => absurd h (by simp), fun _ => ?_, Hmz.out.upon h2 (fun b hb => .inr (by cases hb; exact hw2z))⟩
              rcases h1.2 with ⟨-, h⟩ | ⟨g', off', cap', cur', h, -⟩
              · omega
              · cases h
                exact ⟨_, _, _, by rw [hlen]; rfl⟩
      · obtain rfl : l.length = j := by omega
        rw [List.drop_length] at hwl
        unfold wayL at hwl
        cases hwl
        have Hmr := Lib.hid hmr
        clear hmr
        go_wp2
        go_ret
        exact ⟨_, rfl, RdSl.nil1 _ _, fun _ => rfl, fun h => absurd rfl h, Hmr.out⟩

set_option maxHeartbeats 2000000 in
theorem path_at (w : World) (t : Nat) (N : List (List Int)) (a b : Int) (k : Nat) (R : List Int) (hk : k ≤ 1000000) (hR : pathF N k a b = some R) (h : TreeAt w t N) (hN : N.length ≤ 1000) (hl : ∀ l ∈ N, l.length ≤ 1000000) :
    Calls Try.prog 10 #[.pointer (some ⟨t, 0, none⟩), .int .i64 a, .int .i64 b] w (WayPost w R) := by
  obtain ⟨g, vs, ht, hg, hv, ho⟩ := h.rd
  have ct : w.cell? ⟨t, 0, none⟩ = some (.slice (some ⟨g, 0, none⟩) N.length N.length) := cell_of ht rfl
  have hN' : (N.length : Int) ≤ 1000 := by omega
  unfold pathF at hR
  split at hR
  · rename_i hb
    cases hR
    clear ht ho h hg hl
    by_cases b1 : a < 0
    · go_enter Try.func10, Try.ntmps10
      go_wp2
      go_ret
      exact ⟨_, rfl, RdSl.nil1 _ _, fun _ => rfl, fun h => absurd rfl h, Mod.refl _ _⟩
    by_cases b2 : b < 0
    · go_enter Try.func10, Try.ntmps10
      go_wp2
      go_ret
      exact ⟨_, rfl, RdSl.nil1 _ _, fun _ => rfl, fun h => absurd rfl h, Mod.refl _ _⟩
    by_cases b3 : (N.length : Int) ≤ a
    · go_enter Try.func10, Try.ntmps10
      go_wp2
      go_ret
      exact ⟨_, rfl, RdSl.nil1 _ _, fun _ => rfl, fun h => absurd rfl h, Mod.refl _ _⟩
    have b4 : (N.length : Int) ≤ b := by omega
    go_enter Try.func10, Try.ntmps10
    go_wp2
    go_ret
    exact ⟨_, rfl, RdSl.nil1 _ _, fun _ => rfl, fun h => absurd rfl h, Mod.refl _ _⟩
  · rename_i hb
    have b1 : ¬ a < 0 := by omega
    have b2 : ¬ b < 0 := by omega
    have b3 : ¬ (N.length : Int) ≤ a := by omega
    have b4 : ¬ (N.length : Int) ≤ b := by omega
    have hw := way_at t N hN hl k a b (-1) w R hk hR h
    have Hw := Lib.hid hw
    clear hw ht ho h hg hl hb hR
    go_enter Try.func10, Try.ntmps10
    go_wp2_with fail
    refine Hw.out.mono ?_
    rintro e w2 ⟨v', rfl, h1, h2, h3, h4⟩
    have H1 := Lib.hid h1
    have H2 := Lib.hid h2
    have H3 := Lib.hid h3
    have H4 := Lib.hid h4
    clear h1 h2 h3 h4 Hw
    go_wp2
    go_ret
    exact ⟨_, rfl, H1.out, H2.out, H3.out, H4.out⟩
end Go.Proofs.Ytnckccpcpndcmaa
