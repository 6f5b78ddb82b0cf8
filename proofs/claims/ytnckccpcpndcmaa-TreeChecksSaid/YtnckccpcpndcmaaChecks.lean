/-
  TreeChecks.
-/
import Derived.Test.YtnckccpcpndcmaaReach
import Derived.Test.YtnckccpcpndcmaaPairs
import Derived.Test.YtnckccpcpndcmaaPlan5
import Derived.BigQuiet
namespace Go.Proofs.Ytnckccpcpndcmaa
open Go.RowKit

/-- What the loop over pairs holds. -/
def CkRel (G : Nat) (w : World) (n : Nat) (ps : List (Int × Int)) (i : Value) (wr : World) : Prop :=
  ∃ (j : Nat) (M : List Bool) (s : TS), i = .int .i64 j ∧ j ≤ ps.length ∧ goT n (ps.take j) (startT n) = (0, s) ∧ CkInv n M s ∧ wr.heap[G]? = some (.cells (bls M).toArray 34 (0, 0)) ∧ Mod (fun _ => False) w wr
theorem newT_in {n : Nat} (h1 : 1 ≤ n) (h6 : n ≤ 6) (ps : List (Int × Int)) : newT n ps = (if (goT n ps (startT n)).1 = 0 then (if (ps.length : Int) = n - 1 then (0, (goT n ps (startT n)).2.near.map sortI) else (1, [])) else ((goT n ps (startT n)).1, [])) := by
  unfold newT
  rw [if_neg (by omega), Int.toNat_natCast]

set_option maxRecDepth 20000 in
set_option maxHeartbeats 8000000 in
theorem checks_walk (w : World) (n : Int) (pv : Value) (ps : List (Int × Int)) (hp : RdSl w 2 pv ps.length (prs ps)) (hpl : ps.length ≤ 9223372036854775807) :
    Calls Try.prog 4 #[.int .i64 n, pv] w fun e w' => e = .returned (.bool true) ∧ Mod (fun _ => False) w w' := by
  obtain ⟨pa, pc, rfl, hpc⟩ : ∃ a c, pv = .slice a ps.length c ∧ ps.length ≤ c := by obtain ⟨-, a, c, h, h2, -⟩ := hp; exact ⟨a, c, h, h2⟩
  have hf := fit09_at w
  have hpl' : (ps.length : Int) ≤ 9223372036854775807 := by omega
  have hpc' : (ps.length : Int) ≤ pc := by omega
  have Hf := Lib.hid hf
  have Hp := Lib.hid hp
  clear hf hp
  go_enter Try.func4, Try.ntmps4
  go_wp2_with fail
  refine Hf.out.mono ?_
  rintro e w1 ⟨rfl, hm1⟩
  have Hm1 := Lib.hid hm1
  clear hm1 Hf
  by_cases h30 : 30 < ps.length
  · have h30' : (30 : Int) < ps.length := by omega
    go_wp2
    all_goals (go_ret; exact ⟨rfl, Hm1.out⟩)
  have h30' : ¬ (30 : Int) < ps.length := by omega
  have hn1 := new_at n (.slice pa ps.length pc) ps w1 (Hp.out.mod Hm1.out (fun _ _ h => h)) (by omega)
  obtain ⟨c, N, hR⟩ : ∃ c N, newT n ps = (c, N) := ⟨_, _, rfl⟩
  rw [hR] at hn1
  have Hn1 := Lib.hid hn1
  have HR := Lib.hid hR
  clear hn1 hR
  go_wp2_with fail
  refine Hn1.out.mono ?_
  rintro e w2 ⟨p, rfl, hnil, htree, hm2⟩
  have hm02 := Hm1.out.trans hm2 (fun _ _ h => h)
  have hnil : c ≠ 0 → p = .pointer none := hnil
  have htree : c = 0 → ∃ t, p = .pointer (some ⟨t, 0, none⟩) ∧ w1.heap.size ≤ t ∧ TreeAt w2 t N := htree
  have Hm02 := Lib.hid hm02
  have Htree := Lib.hid htree
  clear hm02 htree hm2 Hn1
  by_cases hout : n < 1 ∨ 6 < n
  · have hR := HR.out
    unfold newT at hR
    rw [if_pos hout] at hR
    cases hR
    obtain rfl := hnil (by decide)
    rcases hout with h | h
    · go_wp2
      all_goals (go_ret; exact ⟨rfl, Hm02.out⟩)
    · have h2 : ¬ n < 1 := by omega
      go_wp2
      all_goals (go_ret; exact ⟨rfl, Hm02.out⟩)
  have hn1 : ¬ n < 1 := fun h => hout (.inl h)
  have hn6 : ¬ 6 < n := fun h => hout (.inr h)
  obtain ⟨m, rfl⟩ : ∃ m : Nat, n = m := ⟨n.toNat, by omega⟩
  have hm1 : (1 : Int) ≤ m := by omega
  have hm6 : (m : Int) ≤ 6 := by omega
  have hnt := newT_in (n := m) (by omega) (by omega) ps
  rw [HR.out] at hnt
  obtain ⟨wg, hwg⟩ : ∃ wg : World, w2.alloc (.cells #[.bool false, .bool false, .bool false, .bool false, .bool false, .bool false, .bool false, .bool false, .bool false, .bool false, .bool false, .bool false, .bool false, .bool false, .bool false, .bool false, .bool false, .bool false, .bool false, .bool false, .bool false, .bool false, .bool false, .bool false, .bool false, .bool false, .bool false, .bool false, .bool false, .bool false, .bool false, .bool false, .bool false, .bool false, .bool false, .bool false] 34) = wg := ⟨_, rfl⟩
  have hmwg : Mod (fun _ => False) w2 wg := hwg ▸ (Mod.refl (fun _ => False) w2).alloc _
  have hgwg := heap_alloc_new w2 (.cells #[.bool false, .bool false, .bool false, .bool false, .bool false, .bool false, .bool false, .bool false, .bool false, .bool false, .bool false, .bool false, .bool false, .bool false, .bool false, .bool false, .bool false, .bool false, .bool false, .bool false, .bool false, .bool false, .bool false, .bool false, .bool false, .bool false, .bool false, .bool false, .bool false, .bool false, .bool false, .bool false, .bool false, .bool false, .bool false, .bool false] 34)
  rw [hwg] at hgwg
  have hzwg : wg.heap.size = w2.heap.size + 1 := by rw [← hwg]; simp
  have hgwg : wg.heap[w2.heap.size]? = some (.cells (bls (List.replicate 36 false)).toArray 34 (0, 0)) := hgwg
  have Hwg := Lib.hid hwg
  have Hgwg := Lib.hid hgwg
  have Hmwg := Lib.hid hmwg
  have Hnt := Lib.hid hnt
  have Hnil := Lib.hid hnil
  clear hwg hgwg hmwg hnt hnil hzwg hout hn1 hn6
  go_wp2_with fail
  rw [show w2.alloc _ = wg from Hwg.out]
  go_loopw [42] (fun i wr => CkRel w2.heap.size w2 m ps i wr) (fun i _ => ps.length - (intOf i).toNat)
  case atStart => exact ⟨0, _, _, rfl, Nat.zero_le _, rfl, CkInv.start (by omega), Hgwg.out, Hmwg.out⟩
  case round =>
    obtain ⟨j, M, s, rfl, hj, hgo, hck, hG, hmr⟩ := hrel
    by_cases hlt : j < ps.length
    · have hlt' : (j : Int) < ps.length := by omega
      obtain ⟨q, hpj⟩ : ∃ q, ps[j]? = some q := ⟨_, List.getElem?_eq_getElem hlt⟩
      obtain ⟨pg, poff, rfl, hf⟩ := rd_pair (Hp.out.mod (Hm02.out.trans hmr (fun _ _ h => h)) (fun _ _ h => h)) hpj
      have hstop := goT_take hgo hpj
      obtain ⟨x, y⟩ := q
      rw [goT_cons] at hstop
      simp only at hstop hf
      have hnt2 : (goT m (ps.take (j + 1)) (startT m)).1 ≠ 0 → (c, N) = ((goT m (ps.take (j + 1)) (startT m)).1, []) := fun h => by
        rw [Hnt.out, goT_stop h, if_neg h]
      obtain ⟨wz, hwz⟩ : ∃ wz : World, wr.alloc (.cells #[.int .i64 x, .int .i64 y] 25) = wz := ⟨_, rfl⟩
      have hmwz : Mod (fun _ => False) wr wz := hwz ▸ (Mod.refl (fun _ => False) wr).alloc _
      have hgwz := heap_alloc_new wr (.cells #[.int .i64 x, .int .i64 y] 25)
      rw [hwz] at hgwz
      have hzwz : wz.heap.size = wr.heap.size + 1 := by rw [← hwz]; simp
      have hmz := hmr.trans hmwz (fun _ _ h => h)
      have hGz := hmwz.heap hG (fun h => h)
      have hGP := (Array.getElem?_eq_some_iff.1 hG).1
      have d0 : wz.cell? ⟨wr.heap.size, 0, none⟩ = some (.int .i64 x) := cell_of hgwz rfl
      have d1 : wz.cell? ⟨wr.heap.size, 1, none⟩ = some (.int .i64 y) := cell_of hgwz rfl
      have Hf := Lib.hid hf
      have Hwz := Lib.hid hwz
      have Hgwz := Lib.hid hgwz
      have Hmz := Lib.hid hmz
      have HGz := Lib.hid hGz
      have Hstop := Lib.hid hstop
      have Hnt2 := Lib.hid hnt2
      have Hpj := Lib.hid hpj
      have Hgo := Lib.hid hgo
      have Hck := Lib.hid hck
      clear hf hwz hgwz hmz hGz hstop hnt2 hpj hgo hck hzwz hmwz hG hmr
      by_cases hbad : x < 0 ∨ y < 0 ∨ (m : Int) ≤ x ∨ (m : Int) ≤ y ∨ x = y
      · have hs2 := Hstop.out
        rw [if_pos hbad] at hs2
        have hn3 : (c, N) = (3, []) := by rw [Hnt2.out (by rw [hs2]; exact (by decide : (3 : Int) ≠ 0)), hs2]
        cases hn3
        obtain rfl := Hnil.out (by decide)
        clear hs2
        rcases hbad with h | h | h | h | h
        · go_wp2_with (first | ((with_reducible refine wpList_load_lit 25 (.tmp 44) ?_); refine ⟨pg, poff + j * 2, rfl, [.int .i64 x, .int .i64 y], Hf.out, by kernel_rfl, by kernel_rfl, ?_⟩) | ((with_reducible refine wpList_store_lit 25 (.tmp 10) (.tmp 45) ?_); refine ⟨rfl, [.int .i64 x, .int .i64 y], rfl, rfl, by kernel_rfl, rfl, ?_⟩; rw [Hwz.out]) | fail)
          all_goals (go_ret; exact ⟨rfl, Hm02.out.trans Hmz.out (fun _ _ h => h)⟩)
        · go_wp2_with (first | ((with_reducible refine wpList_load_lit 25 (.tmp 44) ?_); refine ⟨pg, poff + j * 2, rfl, [.int .i64 x, .int .i64 y], Hf.out, by kernel_rfl, by kernel_rfl, ?_⟩) | ((with_reducible refine wpList_store_lit 25 (.tmp 10) (.tmp 45) ?_); refine ⟨rfl, [.int .i64 x, .int .i64 y], rfl, rfl, by kernel_rfl, rfl, ?_⟩; rw [Hwz.out]) | fail)
          all_goals (go_ret; exact ⟨rfl, Hm02.out.trans Hmz.out (fun _ _ h => h)⟩)
        · go_wp2_with (first | ((with_reducible refine wpList_load_lit 25 (.tmp 44) ?_); refine ⟨pg, poff + j * 2, rfl, [.int .i64 x, .int .i64 y], Hf.out, by kernel_rfl, by kernel_rfl, ?_⟩) | ((with_reducible refine wpList_store_lit 25 (.tmp 10) (.tmp 45) ?_); refine ⟨rfl, [.int .i64 x, .int .i64 y], rfl, rfl, by kernel_rfl, rfl, ?_⟩; rw [Hwz.out]) | fail)
          all_goals (go_ret; exact ⟨rfl, Hm02.out.trans Hmz.out (fun _ _ h => h)⟩)
        · go_wp2_with (first | ((with_reducible refine wpList_load_lit 25 (.tmp 44) ?_); refine ⟨pg, poff + j * 2, rfl, [.int .i64 x, .int .i64 y], Hf.out, by kernel_rfl, by kernel_rfl, ?_⟩) | ((with_reducible refine wpList_store_lit 25 (.tmp 10) (.tmp 45) ?_); refine ⟨rfl, [.int .i64 x, .int .i64 y], rfl, rfl, by kernel_rfl, rfl, ?_⟩; rw [Hwz.out]) | fail)
          all_goals (go_ret; exact ⟨rfl, Hm02.out.trans Hmz.out (fun _ _ h => h)⟩)
        · have h5 : (x == y) = true := by rw [h]; exact beq_self_eq_true _
          clear h
          go_wp2_with (first | ((with_reducible refine wpList_load_lit 25 (.tmp 44) ?_); refine ⟨pg, poff + j * 2, rfl, [.int .i64 x, .int .i64 y], Hf.out, by kernel_rfl, by kernel_rfl, ?_⟩) | ((with_reducible refine wpList_store_lit 25 (.tmp 10) (.tmp 45) ?_); refine ⟨rfl, [.int .i64 x, .int .i64 y], rfl, rfl, by kernel_rfl, rfl, ?_⟩; rw [Hwz.out]) | fail)
          all_goals (go_ret; exact ⟨rfl, Hm02.out.trans Hmz.out (fun _ _ h => h)⟩)
      have h1 : 0 ≤ x := by omega
      have h2 : 0 ≤ y := by omega
      have h3 : x < m := by omega
      have h4 : y < m := by omega
      have h5 : (x == y) = false := by rw [beq_eq_false_iff_ne]; omega
      have hs2 := Hstop.out
      rw [if_neg hbad] at hs2
      obtain ⟨a, rfl⟩ : ∃ a : Nat, x = a := ⟨x.toNat, by omega⟩
      obtain ⟨b, rfl⟩ : ∃ b : Nat, y = b := ⟨y.toNat, by omega⟩
      rw [Int.toNat_natCast, Int.toNat_natCast] at hs2
      have hab : a ≠ b := by omega
      have hre := reach_at wz w2.heap.size a b M Hck.out.lm HGz.out (by omega) (by omega)
      rw [Hck.out.reach (by omega) (by omega)] at hre
      have Hs2 := Lib.hid hs2
      have Hre := Lib.hid hre
      clear hs2 hre hbad Hstop
      go_wp2_with (first | ((with_reducible refine wpList_load_lit 25 (.tmp 44) ?_); refine ⟨pg, poff + j * 2, rfl, [.int .i64 a, .int .i64 b], Hf.out, by kernel_rfl, by kernel_rfl, ?_⟩) | ((with_reducible refine wpList_store_lit 25 (.tmp 10) (.tmp 45) ?_); refine ⟨rfl, [.int .i64 a, .int .i64 b], rfl, rfl, by kernel_rfl, rfl, ?_⟩; rw [Hwz.out]) | fail)
      refine Hre.out.mono ?_
      rintro e wf ⟨rfl, hm3⟩
      have hmf := Hmz.out.trans hm3 (fun _ _ h => h)
      have hGf := hm3.heap HGz.out (fun h => h)
      have hPf := hm3.heap Hgwz.out (fun h => h)
      by_cases hxy : s.root.getD a 0 = s.root.getD b 0
      · have hs3 := Hs2.out
        rw [if_pos hxy] at hs3
        have hn3 : (c, N) = (1, []) := by rw [Hnt2.out (by rw [hs3]; exact (by decide : (1 : Int) ≠ 0)), hs3]
        cases hn3
        obtain rfl := Hnil.out (by decide)
        rw [decide_eq_true hxy]
        have Hmf := Lib.hid hmf
        clear hmf hs3 hxy hGf hPf hm3 Hre
        go_wp2
        all_goals (go_ret; exact ⟨rfl, Hm02.out.trans Hmf.out (fun _ _ h => h)⟩)
      · have hs3 := Hs2.out
        rw [if_neg hxy] at hs3
        rw [decide_eq_false hxy]
        have hck2 := Hck.out.step (a := a) (b := b) (by omega) (by omega) hab hxy
        have hlM := Hck.out.lm
        have hgo2 : goT m (ps.take (j + 1)) (startT m) = (0, s.step a b) := hs3
        have e0 : wf.cell? ⟨wr.heap.size, 0, none⟩ = some (.int .i64 a) := cell_of hPf rfl
        have e1 : wf.cell? ⟨wr.heap.size, 1, none⟩ = some (.int .i64 b) := cell_of hPf rfl
        have Hmf := Lib.hid hmf
        have HGf := Lib.hid hGf
        have HPf := Lib.hid hPf
        have Hck2 := Lib.hid hck2
        have HlM := Lib.hid hlM
        have Hgo2 := Lib.hid hgo2
        clear hmf hGf hPf hck2 hlM hgo2 hs3 hxy hm3 Hre d0 d1
        have ha6 : (a : Int) < 6 := by omega
        have hb6 : (b : Int) < 6 := by omega
        go_wp2_with fail
        have hS : wf.drew.cell? ⟨wr.heap.size, 0, none⟩ = some (.int .i64 a) ∧ wf.drew.cell? ⟨wr.heap.size, 1, none⟩ = some (.int .i64 b) := ⟨e0, e1⟩
        refine wp_region_script [.rd 0, .rd 1, .rd 2, .rd 3, .rd 4, .rd 5, .rd 6, .rd 7, .rd 8, .rd 9, .rd 11, .go 10, .rd 12, .go 13] [0, 1, 2, 3, 4, 5, 6, 7, 8, 9, 10, 11, 12, 13] (fun y => y.cell? ⟨wr.heap.size, 0, none⟩ = some (.int .i64 a) ∧ y.cell? ⟨wr.heap.size, 1, none⟩ = some (.int .i64 b)) (by kernel_rfl) (by kernel_rfl) (fun _ _ d _ _ h => (by cases d <;> exact h)) ?_
        iterate 11
          refine walk_rd rfl ?_ (fun _ => hS) ?_ (fun w0 h0 => ?_) (fun K hK => ?_)
          · (try simp only [List.getElem_toArray]); (try simp only [List.getElem_cons_succ]); (try simp only [List.getElem_cons_zero])
            go_simp; done
          rotate_left
          · (try simp only [List.getElem_toArray]); (try simp only [List.getElem_cons_succ]); (try simp only [List.getElem_cons_zero])
            first
              | (obtain ⟨f0, f1⟩ := h0 rfl; clear h0; go_simp; with_reducible rfl)
              | (clear h0; go_simp; with_reducible rfl)
          (try simp only [List.getElem_toArray]); (try simp only [List.getElem_cons_succ]); (try simp only [List.getElem_cons_zero])
          go_simp; refine hK _ ?_; clear hK K
        refine walk_one (go_yes rfl ?_ (fun K hK => ?_))
        · (try simp only [List.getElem_toArray]); (try simp only [List.getElem_cons_succ]); (try simp only [List.getElem_cons_zero])
          go_simp; done
        obtain ⟨u0, hu0⟩ : ∃ q, wf.drew = q := ⟨_, rfl⟩
        have hG0 : u0.heap[w2.heap.size]? = some (.cells (bls M).toArray 34 (0, 0)) := hu0 ▸ HGf.out
        have hm0 : Mod (fun _ => False) w2 u0 := hu0 ▸ Hmf.out.drew
        rw [hu0]
        have c1 : u0.cell? ⟨w2.heap.size, a * 6 + b, none⟩ = _ := bls_at hG0 (show a * 6 + b < M.length by rw [HlM.out]; omega)
        have z1 : u0.frozen? ⟨w2.heap.size, a * 6 + b, none⟩ = false := frozen_of_row u0 _ _ _ _ hG0
        have hG1 := bls_set hG0 (a * 6 + b) true
        have hm1 : Mod (fun _ => False) w2 (u0.setCell ⟨w2.heap.size, a * 6 + b, none⟩ (.bool true)) := hm0.setCell (fun h => absurd h (by show ¬ w2.heap.size < w2.heap.size; omega)) _
        go_simp
        obtain ⟨u1, hu1⟩ : ∃ q, u0.setCell ⟨w2.heap.size, a * 6 + b, none⟩ (.bool true) = q := ⟨_, rfl⟩
        rw [hu1] at hG1 hm1 ⊢
        have hS1 : u1.cell? ⟨wr.heap.size, 0, none⟩ = some (.int .i64 a) ∧ u1.cell? ⟨wr.heap.size, 1, none⟩ = some (.int .i64 b) := hu1 ▸ ⟨(World.cell?_setCell_other _ _ _ _ (fun e => by have e := congrArg Addr.block e; simp only at e; omega)).trans (hu0 ▸ hS.1), (World.cell?_setCell_other _ _ _ _ (fun e => by have e := congrArg Addr.block e; simp only at e; omega)).trans (hu0 ▸ hS.2)⟩
        refine hK _ _ (fun _ _ => hS1) ?_
        clear hK K hu1 c1 z1 hS
        have hS := hS1
        refine walk_rd rfl ?_ (fun _ => hS) ?_ (fun w0 h0 => ?_) (fun K hK => ?_)
        · (try simp only [List.getElem_toArray]); (try simp only [List.getElem_cons_succ]); (try simp only [List.getElem_cons_zero])
          go_simp; done
        rotate_left
        · (try simp only [List.getElem_toArray]); (try simp only [List.getElem_cons_succ]); (try simp only [List.getElem_cons_zero])
          first
            | (obtain ⟨f0, f1⟩ := h0 rfl; clear h0; go_simp; with_reducible rfl)
            | (clear h0; go_simp; with_reducible rfl)
        (try simp only [List.getElem_toArray]); (try simp only [List.getElem_cons_succ]); (try simp only [List.getElem_cons_zero])
        go_simp; refine hK _ ?_; clear hK K
        refine walk_one (go_yes rfl ?_ (fun K hK => ?_))
        · (try simp only [List.getElem_toArray]); (try simp only [List.getElem_cons_succ]); (try simp only [List.getElem_cons_zero])
          go_simp; done
        have c2 : u1.cell? ⟨w2.heap.size, b * 6 + a, none⟩ = _ := bls_at hG1 (show b * 6 + a < _ by rw [List.length_set, HlM.out]; omega)
        have z2 : u1.frozen? ⟨w2.heap.size, b * 6 + a, none⟩ = false := frozen_of_row u1 _ _ _ _ hG1
        have hG2 := bls_set hG1 (b * 6 + a) true
        have hm2 : Mod (fun _ => False) w2 (u1.setCell ⟨w2.heap.size, b * 6 + a, none⟩ (.bool true)) := hm1.setCell (fun h => absurd h (by show ¬ w2.heap.size < w2.heap.size; omega)) _
        go_simp
        refine hK _ _ (fun _ h => ⟨(World.cell?_setCell_other _ _ _ _ (fun e => by have e := congrArg Addr.block e; simp only at e; omega)).trans h.1, (World.cell?_setCell_other _ _ _ _ (fun e => by have e := congrArg Addr.block e; simp only at e; omega)).trans h.2⟩) ?_
        clear hK K c2 z2
        obtain ⟨u2, hu2⟩ : ∃ q, u1.setCell ⟨w2.heap.size, b * 6 + a, none⟩ (.bool true) = q := ⟨_, rfl⟩
        rw [hu2] at hG2 hm2 ⊢
        have hG3 : u2.heap[w2.heap.size]? = some (.cells (bls (ckSet M a b)).toArray 34 (0, 0)) := by unfold ckSet; rw [Nat.mul_comm 6 a, Nat.mul_comm 6 b]; exact hG2
        refine walk_nil ?_
        have HG3 := Lib.hid hG3
        have Hm2 := Lib.hid hm2
        clear hG3 hm2 hu2 hG2 hG1 hm1 hG0 hm0
        go_wp2_with fail
        go_roundw
        case rel => exact ⟨j + 1, _, _, by go_num, hlt, Hgo2.out, Hck2.out, HG3.out, Hm2.out⟩
        case measure => simp [intOf]; omega
    · obtain rfl : ps.length = j := by omega
      rw [List.take_length] at hgo
      have hnt := Hnt.out
      rw [hgo] at hnt
      rw [if_pos (show (0 : Int) = 0 from rfl)] at hnt
      have hm0r := Hm02.out.trans hmr (fun _ _ h => h)
      by_cases hlen : (ps.length : Int) = m - 1
      · rw [if_pos hlen] at hnt
        obtain ⟨rfl, hN⟩ : c = 0 ∧ N = s.near.map sortI := by cases hnt; exact ⟨rfl, rfl⟩
        obtain ⟨t, rfl, -, hT⟩ := htree rfl
        have hT3 := hT.mod hmr
        have hNl : N.length = m := by rw [hN, List.length_map]; exact hck.ln
        have hNm : (N.length : Int) = m := by omega
        have hNr : ∀ l ∈ N, l.length ≤ 6 := hN ▸ hck.rows
        have hrow := fun i hi => hck.row (i := i) hi
        have hlk := fun i j hi hj => hck.linked (i := i) (j := j) hi hj
        have houts := hck.outs
        have hlM := hck.lm
        rw [← hN] at hrow hlk houts
        have hln := len_at wr t N hT3
        rw [hNl] at hln
        have Hln := Lib.hid hln
        have HT3 := Lib.hid hT3
        have HNr := Lib.hid hNr
        have Hrow := Lib.hid hrow
        have Hlk := Lib.hid hlk
        have Houts := Lib.hid houts
        have HG := Lib.hid hG
        have Hm0r := Lib.hid hm0r
        have HlM := Lib.hid hlM
        clear hln hT3 hNr hrow hlk houts hG hm0r hlM hT hN hck hnt hgo hmr hnil htree
        go_wp2_with fail
        refine Hln.out.mono ?_
        rintro e w3 ⟨rfl, rfl⟩
        go_wp2_with fail
        go_loopw [128] (fun i wr => ∃ k : Nat, i = .int .i64 k ∧ k ≤ m ∧ Mod (fun _ => False) w3 wr) (fun i _ => m - (intOf i).toNat)
        case atStart => exact ⟨0, rfl, Nat.zero_le _, Mod.refl _ _⟩
        case round =>
          obtain ⟨i, rfl, hi, hmr⟩ := hrel
          obtain ⟨wo, rfl⟩ : ∃ wo : World, wo = wr := ⟨_, rfl⟩
          have hTr := HT3.out.mod hmr
          by_cases hlt : i < m
          · have hlt' : (i : Int) < m := by omega
            have hlti6 : (i : Int) < 6 := by omega
            obtain ⟨l, hl, hl6, hlc, hinc⟩ := Hrow.out i hlt
            have hn1 := near_at wo t N i hTr (by omega) (fun l hl => Nat.le_trans (HNr.out l hl) (by omega))
            rw [hl] at hn1
            have hl6' : (l.length : Int) ≤ 6 := by omega
            have Hn1 := Lib.hid hn1
            have HTr := Lib.hid hTr
            have Hmr := Lib.hid hmr
            have Hinc := Lib.hid hinc
            have Hlc := Lib.hid hlc
            clear hn1 hTr hmr hinc hlc hl
            go_wp2_with fail
            refine Hn1.out.mono ?_
            rintro e ws ⟨v1, rfl, ho1, hms⟩
            obtain ⟨a1, c1, rfl, hac1⟩ := ho1.shape
            have ho1 := ho1.rd
            have hac1' : (l.length : Int) ≤ c1 := by omega
            have hmrs := Hmr.out.trans hms (fun _ _ h => h)
            have Ho1 := Lib.hid ho1
            have Hmrs := Lib.hid hmrs
            clear ho1 hmrs hms Hn1 HTr Hmr hac1
            go_wp2_with fail
            go_loopw [13] (fun i wr => ∃ k d : Nat, i = .int .i64 k ∧ 1 ≤ k ∧ (k = 1 ∨ k ≤ l.length) ∧ wr = ws.drewN d) (fun i _ => l.length - (intOf i).toNat)
            case atStart => exact ⟨1, 0, rfl, Nat.le_refl _, .inl rfl, rfl⟩
            case round =>
              obtain ⟨k, d, rfl, hk1, hk, rfl⟩ := hrel
              by_cases hkl : k < l.length
              · have hkl' : (k : Int) < l.length := by omega
                have hk1' : (1 : Int) ≤ k := by omega
                obtain ⟨j, rfl⟩ : ∃ j, k = j + 1 := ⟨k - 1, by omega⟩
                obtain ⟨x, hx⟩ : ∃ x, l[j]? = some x := ⟨_, List.getElem?_eq_getElem (by omega)⟩
                obtain ⟨y, hy⟩ : ∃ x, l[j + 1]? = some x := ⟨_, List.getElem?_eq_getElem hkl⟩
                have hxy := Hinc.out j x y hx hy
                have hxy' : ¬ y ≤ x := by omega
                obtain ⟨g1, o1, rfl, d1⟩ := rd_int Ho1.out hx
                have d2 : ws.cell? ⟨g1, o1 + (j + 1), none⟩ = some (.int .i64 y) := by
                  obtain ⟨g1', o1', h, d⟩ := rd_int Ho1.out hy
                  cases h; exact d
                have hj1 : ((j + 1 : Nat) : Int) - 1 = j := by omega
                go_wp2_with fail
                go_quiet (fail)
                go_wp2_with fail
                go_roundw
                case rel => exact ⟨j + 1 + 1, _, by go_num, by omega, .inr hkl, rfl⟩
                case measure => simp [intOf]; omega
              · have hkl' : (l.length : Int) ≤ k := by omega
                have hmd := Hmrs.out.drewN d
                obtain ⟨wt, hwt⟩ : ∃ q, ws.drewN d = q := ⟨_, rfl⟩
                rw [hwt] at hmd ⊢
                have Hmd := Lib.hid hmd
                clear hmd hwt
                go_wp2_with fail
                go_loopw [151, 14] (fun jv q wr => ∃ j : Nat, jv = .int .i64 j ∧ q = .int .i64 (cntM M i j : Nat) ∧ j ≤ m ∧ Mod (fun _ => False) w3 wr) (fun i _ _ => m - (intOf i).toNat)
                case atStart => exact ⟨0, rfl, rfl, Nat.zero_le _, Hmd.out⟩
                case round =>
                  obtain ⟨j, rfl, rfl, hj, hmr⟩ := hrel
                  by_cases hjm : j < m
                  · have hjm' : (j : Int) < m := by omega
                    have hj6 : (j : Int) < 6 := by omega
                    have hcl := cntM_le M i j
                    have hcn := cntM_next M i j
                    have hTj := HT3.out.mod hmr
                    have hGj := hmr.heap HG.out (fun h => h)
                    have hli := linked_at wr.drew t N i j (hTj.mod (Mod.refl _ wr).drew) (by omega) (fun l hl => Nat.le_trans (HNr.out l hl) (by omega))
                    rw [Hlk.out i j hlt hjm] at hli
                    obtain ⟨q, hq⟩ : ∃ q, cntM M i j = q := ⟨_, rfl⟩
                    rw [hq] at hcl hcn ⊢
                    have hq6 : (q : Int) ≤ 6 := by omega
                    have cm := bls_at hGj (show i * 6 + j < M.length by rw [HlM.out]; omega)
                    have hmgij : M.getD (i * 6 + j) false = mg M i j := by unfold mg; rw [Nat.mul_comm 6 i]
                    rw [hmgij] at cm
                    obtain ⟨B, hB⟩ : ∃ B, mg M i j = B := ⟨_, rfl⟩
                    rw [hB] at cm hcn hli
                    have Hmr := Lib.hid hmr
                    have HTj := Lib.hid hTj
                    have HGj := Lib.hid hGj
                    have Hcn := Lib.hid hcn
                    have Hli := Lib.hid hli
                    clear hmr hTj hGj hcn hli hq hB hmgij hcl
                    go_wp2_with fail
                    refine wp_region_news2 [.rd 0, .rd 1, .rd 2, .rd 4, .rd 5, .rd 6, .rd 7, .rd 8, .go 3, .rd 9] [0, 1, 2, 3, 4, 5, 6, 7, 8, 9] (by kernel_rfl) (by kernel_rfl) (fun _ _ d _ _ h => (by cases d <;> exact h)) ?_
                    refine news_pure rfl ?_ ?_ (fun w0 => ?_) (fun K hK => ?_)
                    · (try simp only [List.getElem_toArray]); (try simp only [List.getElem_cons_succ]); (try simp only [List.getElem_cons_zero])
                      go_simp; done
                    rotate_left
                    · (try simp only [List.getElem_toArray]); (try simp only [List.getElem_cons_succ]); (try simp only [List.getElem_cons_zero])
                      go_simp; with_reducible rfl
                    (try simp only [List.getElem_toArray]); (try simp only [List.getElem_cons_succ]); (try simp only [List.getElem_cons_zero])
                    go_simp; refine hK _ ?_; clear hK K
                    refine news_pure rfl ?_ ?_ (fun w0 => ?_) (fun K hK => ?_)
                    · (try simp only [List.getElem_toArray]); (try simp only [List.getElem_cons_succ]); (try simp only [List.getElem_cons_zero])
                      go_simp; done
                    rotate_left
                    · (try simp only [List.getElem_toArray]); (try simp only [List.getElem_cons_succ]); (try simp only [List.getElem_cons_zero])
                      go_simp; with_reducible rfl
                    (try simp only [List.getElem_toArray]); (try simp only [List.getElem_cons_succ]); (try simp only [List.getElem_cons_zero])
                    go_simp; refine hK _ ?_; clear hK K
                    refine news_pure rfl ?_ ?_ (fun w0 => ?_) (fun K hK => ?_)
                    · (try simp only [List.getElem_toArray]); (try simp only [List.getElem_cons_succ]); (try simp only [List.getElem_cons_zero])
                      go_simp; done
                    rotate_left
                    · (try simp only [List.getElem_toArray]); (try simp only [List.getElem_cons_succ]); (try simp only [List.getElem_cons_zero])
                      go_simp; with_reducible rfl
                    (try simp only [List.getElem_toArray]); (try simp only [List.getElem_cons_succ]); (try simp only [List.getElem_cons_zero])
                    go_simp; refine hK _ ?_; clear hK K
                    refine news_pure rfl ?_ ?_ (fun w0 => ?_) (fun K hK => ?_)
                    · (try simp only [List.getElem_toArray]); (try simp only [List.getElem_cons_succ]); (try simp only [List.getElem_cons_zero])
                      go_simp; done
                    rotate_left
                    · (try simp only [List.getElem_toArray]); (try simp only [List.getElem_cons_succ]); (try simp only [List.getElem_cons_zero])
                      go_simp; with_reducible rfl
                    (try simp only [List.getElem_toArray]); (try simp only [List.getElem_cons_succ]); (try simp only [List.getElem_cons_zero])
                    go_simp; refine hK _ ?_; clear hK K
                    refine news_pure rfl ?_ ?_ (fun w0 => ?_) (fun K hK => ?_)
                    · (try simp only [List.getElem_toArray]); (try simp only [List.getElem_cons_succ]); (try simp only [List.getElem_cons_zero])
                      go_simp; done
                    rotate_left
                    · (try simp only [List.getElem_toArray]); (try simp only [List.getElem_cons_succ]); (try simp only [List.getElem_cons_zero])
                      go_simp; with_reducible rfl
                    (try simp only [List.getElem_toArray]); (try simp only [List.getElem_cons_succ]); (try simp only [List.getElem_cons_zero])
                    go_simp; refine hK _ ?_; clear hK K
                    refine news_pure rfl ?_ ?_ (fun w0 => ?_) (fun K hK => ?_)
                    · (try simp only [List.getElem_toArray]); (try simp only [List.getElem_cons_succ]); (try simp only [List.getElem_cons_zero])
                      go_simp; done
                    rotate_left
                    · (try simp only [List.getElem_toArray]); (try simp only [List.getElem_cons_succ]); (try simp only [List.getElem_cons_zero])
                      go_simp; with_reducible rfl
                    (try simp only [List.getElem_toArray]); (try simp only [List.getElem_cons_succ]); (try simp only [List.getElem_cons_zero])
                    go_simp; refine hK _ ?_; clear hK K
                    refine news_pure rfl ?_ ?_ (fun w0 => ?_) (fun K hK => ?_)
                    · (try simp only [List.getElem_toArray]); (try simp only [List.getElem_cons_succ]); (try simp only [List.getElem_cons_zero])
                      go_simp; done
                    rotate_left
                    · (try simp only [List.getElem_toArray]); (try simp only [List.getElem_cons_succ]); (try simp only [List.getElem_cons_zero])
                      go_simp; with_reducible rfl
                    (try simp only [List.getElem_toArray]); (try simp only [List.getElem_cons_succ]); (try simp only [List.getElem_cons_zero])
                    go_simp; refine hK _ ?_; clear hK K
                    refine news_rd rfl rfl ?_ ((fun y : World => y.cell? ⟨w2.heap.size, i * 6 + j, none⟩ = some (.bool B))) ((fun _ _ m h => m.cell h (fun h => h))) (cm) ?_ (fun w0 h0 => ?_) (fun K hK => ?_)
                    · (try simp only [List.getElem_toArray]); (try simp only [List.getElem_cons_succ]); (try simp only [List.getElem_cons_zero])
                      go_simp; done
                    rotate_left
                    · (try simp only [List.getElem_toArray]); (try simp only [List.getElem_cons_succ]); (try simp only [List.getElem_cons_zero])
                      go_simp; with_reducible rfl
                    (try simp only [List.getElem_toArray]); (try simp only [List.getElem_cons_succ]); (try simp only [List.getElem_cons_zero])
                    go_simp; refine hK _ ?_; clear hK K
                    refine news_one (newsgo_yes rfl ?_ (fun K hK => ?_))
                    · (try simp only [List.getElem_toArray]); (try simp only [List.getElem_cons_succ]); (try simp only [List.getElem_cons_zero])
                      go_simp; done
                    go_wp2_with fail
                    refine Hli.out.mono ?_
                    rintro e wu ⟨rfl, hmu⟩
                    refine hK _ _ (fun _ => hmu) ?_
                    clear hK K
                    refine news_pure rfl ?_ ?_ (fun w0 => ?_) (fun K hK => ?_)
                    · (try simp only [List.getElem_toArray]); (try simp only [List.getElem_cons_succ]); (try simp only [List.getElem_cons_zero])
                      go_simp; done
                    rotate_left
                    · (try simp only [List.getElem_toArray]); (try simp only [List.getElem_cons_succ]); (try simp only [List.getElem_cons_zero])
                      go_simp; with_reducible rfl
                    (try simp only [List.getElem_toArray]); (try simp only [List.getElem_cons_succ]); (try simp only [List.getElem_cons_zero])
                    go_simp; refine hK _ ?_; clear hK K
                    refine news_nil ?_
                    have hmu2 : Mod (fun _ => False) w3 wu := (Hmr.out.drew).trans hmu (fun _ _ h => h)
                    have cu : wu.cell? ⟨w2.heap.size, i * 6 + j, none⟩ = some (.bool B) := hmu.cell (show wr.drew.cell? _ = _ from cm) (fun h => h)
                    have Hmu2 := Lib.hid hmu2
                    clear hmu2 hmu cm Hli HTj Hmr HGj
                    cases B
                    · go_wp2_with fail
                      go_roundw
                      case rel => exact ⟨j + 1, by go_num, by rw [Hcn.out, if_neg (by decide), Nat.add_zero], hjm, Hmu2.out⟩
                      case measure => simp [intOf]; omega
                    · go_wp2_with fail
                      go_roundw
                      case rel => exact ⟨j + 1, by go_num, by rw [Hcn.out, if_pos rfl]; go_num, hjm, Hmu2.out⟩
                      case measure => simp [intOf]; omega
                  · obtain rfl : m = j := by omega
                    rw [← Hlc.out]
                    have Hmr := Lib.hid hmr
                    clear hmr
                    go_wp2_with fail
                    go_roundw
                    case rel => exact ⟨i + 1, by go_num, hlt, Hmr.out⟩
                    case measure => simp [intOf]; omega
          · obtain rfl : m = i := by omega
            obtain ⟨e1, e2, e3⟩ := Houts.out
            have hn1 := near_at wo t N m hTr (by omega) (fun l hl => Nat.le_trans (HNr.out l hl) (by omega))
            rw [e1] at hn1
            have Hn1 := Lib.hid hn1
            have HTr := Lib.hid hTr
            have Hmr := Lib.hid hmr
            have E2 := Lib.hid e2
            have E3 := Lib.hid e3
            clear hn1 hTr hmr e2 e3 e1
            go_wp2_with fail
            refine Hn1.out.mono ?_
            rintro e ws ⟨v1, rfl, ho1, hms⟩
            obtain ⟨a1, c1, rfl, -⟩ := ho1.shape
            have hTs := HTr.out.mod hms
            have hms2 := Hmr.out.trans hms (fun _ _ h => h)
            have hn2 := near_at ws t N (-1) hTs (by omega) (fun l hl => Nat.le_trans (HNr.out l hl) (by omega))
            rw [E2.out] at hn2
            have Hn2 := Lib.hid hn2
            have HTs := Lib.hid hTs
            have Hms2 := Lib.hid hms2
            clear hn2 hTs hms2 ho1 hms Hn1 HTr Hmr
            go_wp2_with fail
            refine Hn2.out.mono ?_
            rintro e wt ⟨v1, rfl, ho1, hmt⟩
            obtain ⟨a2, c2, rfl, -⟩ := ho1.shape
            have hmt2 := Hms2.out.trans hmt (fun _ _ h => h)
            have hli := linked_at wt t N (-1) 0 (HTs.out.mod hmt) (by omega) (fun l hl => Nat.le_trans (HNr.out l hl) (by omega))
            rw [E3.out] at hli
            have Hli := Lib.hid hli
            have Hmt2 := Lib.hid hmt2
            clear hli hmt2 ho1 hmt Hn2 HTs Hms2
            go_wp2_with fail
            refine Hli.out.mono ?_
            rintro e wv ⟨rfl, hmv⟩
            have hmv2 := Hmt2.out.trans hmv (fun _ _ h => h)
            have Hmv2 := Lib.hid hmv2
            clear hmv2 hmv Hli Hmt2
            go_wp2_with fail
            go_ret
            exact ⟨rfl, Hm0r.out.trans Hmv2.out (fun _ _ h => h)⟩
      · rw [if_neg hlen] at hnt
        cases hnt
        obtain rfl := Hnil.out (by decide)
        have Hm0r := Lib.hid hm0r
        clear hm0r hgo hck hG hmr
        go_wp2
        all_goals (go_ret; exact ⟨rfl, Hm0r.out⟩)
end Go.Proofs.Ytnckccpcpndcmaa
