/-
  LinkRuns: the walk.
-/
import Derived.Test.YtdlmadjlhiblmaaRunst
import Derived.Deep.Cut
import Derived.Deep.CutRange
import Derived.Deep.CutBlock
import Derived.Deep.QuietTactic
import Derived.BigQuiet
namespace Go.Proofs.Ytdlmadjlhiblmaa
open Go.RowKit

/-- What holds behind k calls. -/
def St (w1 : World) (b c k : Nat) (pv n ep lo : Value) (w : World) : Prop := ∃ (a : LS) (P T : List Int) (N : Nat), Two w1 w b c a P T pv ∧ Inv a P T ∧ n = .int .i64 N ∧ ep = .int .i64 a.epoch ∧ lo = .int .i64 a.lost ∧ N ≤ k ∧ a.epoch ≤ k ∧ a.lost ≤ k ∧ P.length ≤ k

theorem two_new (w : World) : Two w ((w.alloc (.cells #[.int .i64 0, .slice none 0 0, .int .i64 0, .slice none 0 0, .slice none 0 0, .int .i64 0, .int .i64 0] 27)).alloc (.cells #[.slice none 0 0] 47)) w.heap.size (w.heap.size + 1) LS.zero [] [] (.slice none 0 0) := by
  have e : (w.alloc (.cells #[.int .i64 0, .slice none 0 0, .int .i64 0, .slice none 0 0, .slice none 0 0, .int .i64 0, .int .i64 0] 27)).heap.size = w.heap.size + 1 := by simp
  refine ⟨(own_new w).new ((Mod.refl _ _).alloc _), ⟨.slice none 0 0, ?_, OwnSl.nil _ _ _, fun k hk => (by simp [inBlock, Value.ownBlock] at hk)⟩, OwnSl.nil _ _ _, fun k hk => (by simp [inBlock, Value.ownBlock] at hk), by omega⟩
  rw [← e]
  exact heap_alloc_new _ _

set_option maxRecDepth 100000 in
set_option maxHeartbeats 4000000 in
theorem runs_walk (A : Option Addr) (n cap : Nat) (hn : n ≤ maxLen) (Z : Nat → Int) (w : World) (hZ : ∀ i, i < n → ∃ a : Addr, A = some a ∧ w.cell? (a.add i) = some (.int .i64 (Z i)) ∧ -9223372036854775808 ≤ Z i ∧ Z i ≤ 9223372036854775807) :
    Calls Try.prog 7 #[.slice A n cap] w fun e w' => e = .returned (.bool true) ∧ Below w.heap.size w w' := by
  have hn' : (n : Int) ≤ 9223372036854775807 := by simp [maxLen] at hn; omega
  go_enter Try.func7, Try.ntmps7
  go_wp2_with fail
  refine (fit_true w).mono ?_
  rintro e w1 ⟨rfl, hb1⟩
  have Hb1 := Lib.hid hb1
  have H0 := Lib.hid (two_new w1)
  have HZ := Lib.hid hZ
  clear hb1 hZ
  by_cases h300 : 300 < n
  · have h300' : (300 : Int) < n := by omega
    go_wp2
    go_ret
    exact ⟨rfl, Hb1.out⟩
  have h300' : (n : Int) ≤ 300 := by omega
  go_wp2_with fail
  go_loopw [4, 6, 7, 8, 27] (fun pv n' ep lo i wr => ∃ k : Nat, k ≤ n ∧ i = .int .i64 k ∧ St w1 w1.heap.size (w1.heap.size + 1) k pv n' ep lo wr) (fun _ _ _ _ i _ => n - (intOf i).toNat)
  case atStart => exact ⟨0, Nat.zero_le _, rfl, LS.zero, [], [], 0, H0.out, ⟨rfl, rfl, Nat.le_refl _⟩, rfl, rfl, rfl, Nat.le_refl _, Nat.le_refl _, Nat.le_refl _, Nat.le_refl _⟩
  case round =>
    obtain ⟨k, hk, rfl, hst⟩ := hrel
    by_cases hlt : k < n
    · obtain ⟨a, rfl, hcell, hz1, hz2⟩ := HZ.out k hlt
      obtain ⟨a0, P, T, N, htwo, hinv, rfl, rfl, rfl, hN, hep, hlo, hP⟩ := hst
      obtain ⟨pa, pcap, rfl, -⟩ := htwo.pushed.shape
      have hql : a0.q.length ≤ 1000 := by have := hinv.len; omega
      have hbs : a0.base ≤ 1000 := by have := hinv.2.2; omega
      have hbl : (a.add k).block < w.heap.size := block_lt_of_cell hcell
      have hcell' : wr.cell? (a.add k) = some (.int .i64 (Z k)) := by
        rw [htwo.own.below.cell (p := a.add k) (by have := Hb1.out.size; omega), Hb1.out.cell (p := a.add k) hbl]
        exact hcell
      have Htwo := Lib.hid htwo
      have Hinv := Lib.hid hinv
      clear htwo hinv hcell
      obtain ⟨r, hr, hr1, hr2⟩ : ∃ r : Int, (Z k).tmod 8 = r ∧ -8 < r ∧ r < 8 := ⟨_, rfl, Int.lt_tmod_of_pos _ (by decide), Int.tmod_lt_of_pos _ (by decide)⟩
      obtain ⟨d, hd, hd1, hd2⟩ : ∃ d : Int, (r + 8).tmod 8 = d ∧ 0 ≤ d ∧ d ≤ 7 := ⟨_, rfl, by rw [Int.tmod_eq_emod_of_nonneg (by omega)]; omega, by rw [Int.tmod_eq_emod_of_nonneg (by omega)]; omega⟩
      go_upto_block 2 with fail
      obtain ⟨wx, hwx⟩ : ∃ wx : World, wx = wr.alloc (Obj.cells #[Value.int IntKind.i64 (Z k)] 49) := ⟨_, rfl⟩
      have htx := Htwo.out.new ((Mod.refl (fun _ => False) wr).alloc (Obj.cells #[Value.int IntKind.i64 (Z k)] 49))
      have hcx : (wr.alloc (Obj.cells #[Value.int IntKind.i64 (Z k)] 49)).cell? ⟨wr.heap.size, 0, none⟩ = some (.int .i64 (Z k)) := cell_of (heap_alloc_new wr _) rfl
      have hlx : wr.heap.size < (wr.alloc (Obj.cells #[Value.int IntKind.i64 (Z k)] 49)).heap.size := by simp
      rw [← hwx] at htx hcx hlx ⊢
      have Hx := Lib.hid hwx
      have Htx := Lib.hid htx
      have hN' : (N : Int) ≤ 300 := by omega
      have hep' : (a0.epoch : Int) ≤ 300 := by omega
      have hlo' : (a0.lost : Int) ≤ 300 := by omega
      clear hwx htx hcell'
      go_cut [4, 6, 7, 8] from 29 to 138 (fun pv n' ep lo wx => St w1 w1.heap.size (w1.heap.size + 1) (k + 1) pv n' ep lo wx)
      case first =>
        rcases (by omega : d = 0 ∨ d = 1 ∨ (2 ≤ d ∧ d ≤ 4) ∨ d = 5 ∨ d = 6 ∨ d = 7) with rfl | rfl | ⟨hd2, hd4⟩ | rfl | rfl | rfl
        · have hp := push_two Htx.out (zmsg 3 ((N : Int) + 1)) (zmsg_ok (by decide) (by omega)) (by omega) (by omega)
          have Hp := Lib.hid hp
          clear hp
          go_wp2_with (first | (refine wpList_store_new rfl 38 (.tmp 11) (.tmp 48) rfl rfl _ 38 (zmsg 1 ((N : Int) + 1)).cells rfl rfl (by kernel_rfl) (fun u hu => List.all_eq_true.1 (show (zmsg 1 ((N : Int) + 1)).cells.all (·.oneCell') = true from rfl) u hu) ?_) | (refine wpList_load_cells rfl 38 (.tmp 11) rfl wx.heap.size 0 rfl (zmsg 3 ((N : Int) + 1)).cells (CellsAt.new wx (zmsg 3 ((N : Int) + 1)).cells 38) (by kernel_rfl) (by kernel_rfl) ?_))
          refine Hp.out.mono ?_
          rintro e w2 (⟨-, rfl, ht2⟩ | ⟨h6, rfl, ht2, hm2⟩)
          · have Ht2 := Lib.hid ht2
            clear ht2
            go_wp2_with ((refine wpList_append_sl rfl (.tmp 58) (.tmp 60) 47 rfl 3 1 8 ints_T (.slice pa P.length pcap) P.length (ints P) rfl (Ht2.out.pushed.alloc _) _ 1 [.int .i64 ((N : Int) + 1)] rfl (RdSl.one w2 [.int .i64 ((N : Int) + 1)] 3 rfl) (by simp [Value.oneCell']) (by omega) (by unfold maxLen; omega) ?_; intro ad cap w3 hA; have HA := Lib.hid hA; clear hA))
            go_meet
            case rel => exact ⟨_, _, T, N + 1, (Ht2.out.new ((Mod.refl _ w2).alloc _)).append HA.out, Hinv.out.push Htx.out.own.good (zmsg 3 ((N : Int) + 1)), by go_num, rfl, rfl, by omega, by show a0.epoch ≤ _; omega, by show a0.lost ≤ _; omega, by simp; omega⟩
          · have c2 : w2.cell? ⟨wx.heap.size, 0, none⟩ = some (.int .i64 3) := cell_of hm2 rfl
            have Ht2 := Lib.hid ht2
            clear ht2 hm2
            go_wp2
            go_meet
            case rel => exact ⟨_, P, T, N + 1, Ht2.out, Hinv.out, by go_num, rfl, by go_num, by omega, by show a0.epoch ≤ _; omega, by show a0.lost + 1 ≤ _; omega, by omega⟩
        · have hp := push_two Htx.out (zmsg 1 ((N : Int) + 1)) (zmsg_ok (by decide) (by omega)) (by omega) (by omega)
          have Hp := Lib.hid hp
          clear hp
          go_wp2_with (first | (refine wpList_store_new rfl 38 (.tmp 11) (.tmp 48) rfl rfl _ 38 (zmsg 1 ((N : Int) + 1)).cells rfl rfl (by kernel_rfl) (fun u hu => List.all_eq_true.1 (show (zmsg 1 ((N : Int) + 1)).cells.all (·.oneCell') = true from rfl) u hu) ?_) | (refine wpList_load_cells rfl 38 (.tmp 11) rfl wx.heap.size 0 rfl (zmsg 1 ((N : Int) + 1)).cells (CellsAt.new wx (zmsg 1 ((N : Int) + 1)).cells 38) (by kernel_rfl) (by kernel_rfl) ?_))
          refine Hp.out.mono ?_
          rintro e w2 (⟨-, rfl, ht2⟩ | ⟨h6, rfl, ht2, hm2⟩)
          · have Ht2 := Lib.hid ht2
            clear ht2
            go_wp2_with ((refine wpList_append_sl rfl (.tmp 58) (.tmp 60) 47 rfl 3 1 8 ints_T (.slice pa P.length pcap) P.length (ints P) rfl (Ht2.out.pushed.alloc _) _ 1 [.int .i64 ((N : Int) + 1)] rfl (RdSl.one w2 [.int .i64 ((N : Int) + 1)] 3 rfl) (by simp [Value.oneCell']) (by omega) (by unfold maxLen; omega) ?_; intro ad cap w3 hA; have HA := Lib.hid hA; clear hA))
            go_meet
            case rel => exact ⟨_, _, T, N + 1, (Ht2.out.new ((Mod.refl _ w2).alloc _)).append HA.out, Hinv.out.push Htx.out.own.good (zmsg 1 ((N : Int) + 1)), by go_num, rfl, rfl, by omega, by show a0.epoch ≤ _; omega, by show a0.lost ≤ _; omega, by simp; omega⟩
          · simp [zmsg] at h6
        · have hid := idle_own _ _ _ _ Htx.out.own
          have hst := fun nq => step_two (Htx.out.drewN nq) Hinv.out hbs (by omega) 25 callFunc25 takes25
          obtain ⟨z, hz⟩ : ∃ z, a0.q.isEmpty = z := ⟨_, rfl⟩
          rw [hz] at hid
          simp only [hz] at hst
          have hnx := a0.next_same
          have Hid' := Lib.hid hid
          have Hst := Lib.hid hst
          have Hnx := Lib.hid hnx
          have hd5 : d ≠ 5 := by omega
          have hd6 : d ≠ 6 := by omega
          have hd7 : d ≠ 7 := by omega
          have hd0 : d ≠ 0 := by omega
          have hd9 : d ≠ 1 := by omega
          clear hid hst hz hnx
          go_wp2_with fail
          refine Hid'.out.mono ?_
          rintro e w2 ⟨rfl, nq, rfl⟩
          cases z
          · go_wp2_with fail
            refine (Hst.out nq).mono ?_
            rintro e w3 ⟨rfl, T', ht3, hi3⟩
            have Ht3 := Lib.hid ht3
            have Hi3 := Lib.hid hi3
            clear ht3 hi3
            go_wp2
            go_meet
            case rel => exact ⟨_, P, T', N, Ht3.out, Hi3.out, rfl, by rw [Hnx.out.1], by rw [Hnx.out.2], by omega, by rw [Hnx.out.1]; omega, by rw [Hnx.out.2]; omega, by omega⟩
          · go_wp2_with fail
            refine (Hst.out nq).mono ?_
            rintro e w3 ⟨rfl, T', ht3, hi3⟩
            have Ht3 := Lib.hid ht3
            have Hi3 := Lib.hid hi3
            clear ht3 hi3
            go_wp2
            go_meet
            case rel => exact ⟨_, P, T', N, Ht3.out, Hi3.out, rfl, by rw [Hnx.out.1], by rw [Hnx.out.2], by omega, by rw [Hnx.out.1]; omega, by rw [Hnx.out.2]; omega, by omega⟩
        · have hfl := flight_own _ _ _ _ Htx.out.own
          have hls := fun nq => lose_own _ _ _ _ (Htx.out.own.drewN nq)
          have hf0 : ∀ (w : World), Own w1 w w1.heap.size a0.lose → Calls Try.prog 15 #[.pointer (some ⟨w1.heap.size, 0, none⟩)] w fun e w' => e = .returned (.int .i64 0) ∧ ∃ n, w' = w.drewN n := fun w h => flight_own _ _ _ _ h
          by_cases hw : a0.ph = .wait
          · rw [if_pos hw] at hfl
            rw [decide_eq_false (by simpa using hw)] at hls
            have Hfl := Lib.hid hfl
            have Hls := Lib.hid hls
            have Hf0 := Lib.hid hf0
            clear hfl hls hf0 hw
            go_wp2_with fail
            refine Hfl.out.mono ?_
            rintro e w2 ⟨rfl, nq, rfl⟩
            go_wp2_with fail
            refine (Hls.out nq).mono ?_
            rintro e w3 ⟨rfl, ho3, hk3⟩
            have Ht3 := Lib.hid ((Htx.out.drewN nq).link ho3 hk3)
            clear hk3
            have Hf := Lib.hid (Hf0.out _ ho3)
            clear ho3
            go_wp2_with fail
            refine Hf.out.mono ?_
            rintro e w4 ⟨rfl, nq2, rfl⟩
            go_wp2
            go_meet
            case rel => exact ⟨a0.lose, P, T, N, Ht3.out.drewN nq2, Hinv.out, rfl, rfl, rfl, by omega, by show a0.epoch ≤ _; omega, by show a0.lost ≤ _; omega, by omega⟩
          · rw [if_neg hw] at hfl
            rw [decide_eq_true (by simpa using hw)] at hls
            have Hfl := Lib.hid hfl
            have Hls := Lib.hid hls
            have Hf0 := Lib.hid hf0
            clear hfl hls hf0 hw
            go_wp2_with fail
            refine Hfl.out.mono ?_
            rintro e w2 ⟨rfl, nq, rfl⟩
            go_wp2_with fail
            refine (Hls.out nq).mono ?_
            rintro e w3 ⟨rfl, ho3, hk3⟩
            have Ht3 := Lib.hid ((Htx.out.drewN nq).link ho3 hk3)
            clear hk3
            have Hf := Lib.hid (Hf0.out _ ho3)
            clear ho3
            go_wp2_with fail
            refine Hf.out.mono ?_
            rintro e w4 ⟨rfl, nq2, rfl⟩
            go_wp2
            go_meet
            case rel => exact ⟨a0.lose, P, T, N, Ht3.out.drewN nq2, Hinv.out, rfl, rfl, rfl, by omega, by show a0.epoch ≤ _; omega, by show a0.lost ≤ _; omega, by omega⟩
        · have hrs := reset_own _ _ _ _ Htx.out.own (by omega)
          have Hrs := Lib.hid hrs
          clear hrs
          go_wp2_with fail
          refine Hrs.out.mono ?_
          rintro e w2 ⟨rfl, ho2, hk2⟩
          have ht2 := Htx.out.link ho2 hk2
          obtain ⟨ta, tcap, c2, f2, hl2, -⟩ := ht2.var
          have Ht2 := Lib.hid ht2
          clear ho2 hk2 ht2
          go_wp2
          go_meet
          case rel => exact ⟨_, [], [], N, Ht2.out.clear, ⟨rfl, rfl, Nat.le_refl _⟩, rfl, by go_num, rfl, by omega, by show a0.epoch + 1 ≤ _; omega, by show a0.lost ≤ _; omega, by simp⟩
        · have hsn := step_no Htx.out Hinv.out hbs 24 callFunc24 runs_no
          have hTl : (T.length : Int) ≤ 1000 := by have := (Hinv.out.taken Htx.out.own.good).2; omega
          obtain ⟨ta, tcap, c1, f1, hl1, -⟩ := Htx.out.var
          have Hsn := Lib.hid hsn
          clear hsn
          go_wp2_with fail
          refine Hsn.out.mono ?_
          rintro e w2 ⟨rb, a', rfl, ht2, hi2, he2, hl2⟩
          obtain ⟨ta2, tcap2, c2, f2, hl2', -⟩ := ht2.var
          have Ht2 := Lib.hid ht2
          have Hi2 := Lib.hid hi2
          have He2 := Lib.hid he2
          have Hl2 := Lib.hid hl2
          clear ht2 hi2 he2 hl2
          go_wp2
          go_meet
          case rel => exact ⟨a', P, T, N, Ht2.out, Hi2.out, rfl, by rw [He2.out], by rw [Hl2.out], by omega, by rw [He2.out]; omega, by rw [Hl2.out]; omega, by omega⟩
      case rest =>
        clear Htwo Hinv Htx Hx hcx hlx hr hd hN' hep' hlo' hql hbs hP hN hep hlo
        obtain ⟨a1, P1, T1, N1, htwo, hinv, rfl, rfl, rfl, hN, hep, hlo, hP⟩ := hcut
        obtain ⟨pa1, pcap1, rfl, -⟩ := htwo.pushed.shape
        obtain ⟨ta1, tcap1, c2, f2, hl2, hsl2⟩ := htwo.var
        have ht := hinv.taken htwo.own.good
        have hlen := hinv.len
        have hPi : (P1.length : Int) ≤ 301 := by omega
        have hTi : (T1.length : Int) ≤ P1.length := by omega
        have hg1 : decide ((P1.length : Int) < (T1.length : Int)) = false := decide_eq_false (by omega)
        have hg1' : decide (P1.length < T1.length) = false := decide_eq_false (by omega)
        have hg2 : decide ((P1.length : Int) - (T1.length : Int) + 1 < (a1.q.length : Int)) = false := decide_eq_false (by rcases ht with ⟨h1, h2⟩; split at h1 <;> omega)
        have He := Lib.hid fun m => (epoch_own _ _ _ _ (htwo.own.drewN m)).mono fun e w' ⟨h1, h2⟩ => (⟨h1, h2.symm⟩ : e = _ ∧ w' = _)
        have Hl := Lib.hid fun m => (lost_own _ _ _ _ (htwo.own.drewN m)).mono fun e w' ⟨h1, h2⟩ => (⟨h1, h2.symm⟩ : e = _ ∧ w' = _)
        have Hn := Lib.hid fun m => (len_own _ _ _ _ (htwo.own.drewN m)).mono fun e w' ⟨h1, h2⟩ => (⟨h1, h2.symm⟩ : e = _ ∧ w' = _)
        obtain ⟨fl, hfl⟩ : ∃ fl : Int, (if a1.ph = .wait then 0 else 1) = fl := ⟨_, rfl⟩
        have hg3 : decide (1 < fl) = false := decide_eq_false (by rw [← hfl]; split <;> omega)
        have hf := fun m => flight_own _ _ _ _ (htwo.own.drewN m)
        simp only [hfl] at hf
        have Hf := Lib.hid hf
        have Htwo := Lib.hid htwo
        have Hinv := Lib.hid hinv
        have Hsl := Lib.hid hsl2
        clear htwo hinv hsl2 ht hlen hf hfl
        go_wp2_with fail
        go_quiet (first | (go_at_call 22; exact Calls.quiet_of_same (He.out _)) | (go_at_call 13; exact Calls.quiet_of_same (Hl.out _)) | (go_at_call 17; exact Calls.quiet_of_same (Hn.out _)) | (go_at_call 15; exact Calls.quiet_of (Hf.out _)))
        obtain ⟨wd, hwd⟩ : ∃ wd : World, wd = wc.drewN nq := ⟨_, rfl⟩
        have htd := Htwo.out.drewN nq
        have hcd : (wc.drewN nq).cell? ⟨w1.heap.size + 1, 0, none⟩ = some (.slice ta1 T1.length tcap1) := c2
        have hsd : OwnSl (wc.drewN nq) 3 1 (.slice ta1 T1.length tcap1) T1.length (ints T1) := Hsl.out
        rw [← hwd] at htd hcd hsd ⊢
        have Hwd := Lib.hid hwd
        have Htd := Lib.hid htd
        have Hsd := Lib.hid hsd
        clear hwd htd hsd c2 f2 hl2 He Hl Hn Hf hg1 hg1' hg2 hg3 Htwo Hsl
        go_wp2_with fail
        go_loopw [126] (fun i wx => ∃ j : Nat, j ≤ T1.length ∧ i = .int .i64 j ∧ wx = wd) (fun i _ => T1.length - (intOf i).toNat)
        case atStart => exact ⟨0, Nat.zero_le _, rfl, rfl⟩
        case round =>
          obtain ⟨j, hj, rfl, hw⟩ := hrel
          subst hw
          by_cases hjl : j < T1.length
          · have hx : T1[j]? = some T1[j] := List.getElem?_eq_getElem hjl
            obtain ⟨x, hx'⟩ : ∃ x, T1[j] = x := ⟨_, rfl⟩
            rw [hx'] at hx
            have hPx : P1[j]? = some x := (Hinv.out.get hjl).trans hx
            have hjP : j < P1.length := (List.getElem?_eq_some_iff.1 hPx).1
            obtain ⟨ad, rfl, hcT⟩ := ints_at Hsd.out hx
            obtain ⟨pd, rfl, hcP⟩ := ints_at Htd.out.pushed hPx
            clear hx hx' hPx
            have hjl' : (j : Int) < T1.length := by omega
            have hjP' : (j : Int) < P1.length := by omega
            go_wp2
            go_roundw
            case rel => exact ⟨j + 1, by omega, by go_num, trivial⟩
            case measure => simp [intOf]; omega
          · obtain rfl : j = T1.length := by omega
            go_wp2
            go_roundw
            case rel => exact ⟨k + 1, by omega, by go_num, a1, P1, T1, N1, Htd.out, Hinv.out, rfl, rfl, rfl, hN, hep, hlo, hP⟩
            case measure => simp [intOf]; omega
    · obtain rfl : k = n := by omega
      obtain ⟨a0, P, T, N, htwo, hinv, rfl, rfl, rfl, hN, hep, hlo, hP⟩ := hst
      obtain ⟨pa, pcap, rfl, -⟩ := htwo.pushed.shape
      have hPi : (P.length : Int) ≤ 300 := by omega
      have htodo : a0.todo ≤ 3 * P.length - 0 := by have := hinv.len; unfold LS.todo; omega
      have Htwo := Lib.hid htwo
      have Hinv := Lib.hid hinv
      have Htodo := Lib.hid htodo
      clear htwo hinv htodo
      go_wp2_with fail
      go_loopw [143] (fun i wx => ∃ (j : Nat) (a : LS) (T : List Int), j ≤ 4 * (P.length + 2) ∧ i = .int .i64 j ∧ Two w1 wx w1.heap.size (w1.heap.size + 1) a P T (.slice pa P.length pcap) ∧ Inv a P T ∧ a.todo ≤ 3 * P.length - j) (fun i _ => 4 * (P.length + 2) - (intOf i).toNat)
      case atStart => exact ⟨0, a0, T, Nat.zero_le _, rfl, Htwo.out, Hinv.out, Htodo.out⟩
      case round =>
        obtain ⟨j, a1, T1, hj, rfl, ht1, hi1, hd1⟩ := hrel
        by_cases hjl : j < 4 * (P.length + 2)
        · have hst := step_two ht1 hi1 (by have := hi1.2.2; omega) (by omega) 26 callFunc26 takes26
          have htn := LS.todo_next ht1.own.good
          have Hst := Lib.hid hst
          have Htn := Lib.hid htn
          have Hd1 := Lib.hid hd1
          clear hst htn hd1 ht1 hi1
          have hjl' : (j : Int) < 4 * ((P.length : Int) + 2) := by omega
          go_wp2_with fail
          refine Hst.out.mono ?_
          rintro e w2 ⟨rfl, T', ht2, hi2⟩
          have Ht2 := Lib.hid ht2
          have Hi2 := Lib.hid hi2
          clear ht2 hi2
          go_wp2
          go_roundw
          case rel => exact ⟨j + 1, _, T', by omega, by go_num, Ht2.out, Hi2.out, by rw [Htn.out]; have := Hd1.out; omega⟩
          case measure => simp [intOf]; omega
        · obtain rfl : j = 4 * (P.length + 2) := by omega
          obtain ⟨hq, rfl⟩ := hi1.done ht1.own.good (by omega)
          obtain ⟨ta1, tcap1, c2, f2, hl2, hsl2⟩ := ht1.var
          have hid := idle_own _ _ _ _ ht1.own
          rw [hq] at hid
          have Hid' := Lib.hid hid
          have Ht1 := Lib.hid ht1
          have Hi1 := Lib.hid hi1
          have Hsl := Lib.hid hsl2
          clear hid ht1 hi1 hsl2 hd1 hq
          have hje : (((4 * (T1.length + 2) : Nat)) : Int) = 4 * ((T1.length : Int) + 2) := by omega
          go_wp2_with fail
          refine Hid'.out.mono ?_
          rintro e w2 ⟨rfl, nq, rfl⟩
          obtain ⟨wd, hwd⟩ : ∃ wd : World, wd = wr.drewN nq := ⟨_, rfl⟩
          have htd := Ht1.out.drewN nq
          have hcd : (wr.drewN nq).cell? ⟨w1.heap.size + 1, 0, none⟩ = some (.slice ta1 T1.length tcap1) := c2
          have hsd : OwnSl (wr.drewN nq) 3 1 (.slice ta1 T1.length tcap1) T1.length (ints T1) := Hsl.out
          rw [← hwd] at htd hcd hsd ⊢
          have Hwd := Lib.hid hwd
          have Htd := Lib.hid htd
          have Hsd := Lib.hid hsd
          clear hwd htd hsd c2 f2 hl2 Hid' Ht1 Hsl
          go_wp2_with fail
          go_loopw [159] (fun i wx => ∃ j : Nat, j ≤ T1.length ∧ i = .int .i64 j ∧ wx = wd) (fun i _ => T1.length - (intOf i).toNat)
          case atStart => exact ⟨0, Nat.zero_le _, rfl, rfl⟩
          case round =>
            obtain ⟨j, hj, rfl, hw⟩ := hrel
            subst hw
            by_cases hjl : j < T1.length
            · have hx : T1[j]? = some T1[j] := List.getElem?_eq_getElem hjl
              obtain ⟨x, hx'⟩ : ∃ x, T1[j] = x := ⟨_, rfl⟩
              rw [hx'] at hx
              obtain ⟨ad, rfl, hcT⟩ := ints_at Hsd.out hx
              obtain ⟨pd, rfl, hcP⟩ := ints_at Htd.out.pushed hx
              clear hx hx'
              have hjl' : (j : Int) < T1.length := by omega
              go_wp2
              go_roundw
              case rel => exact ⟨j + 1, by omega, by go_num, trivial⟩
              case measure => simp [intOf]; omega
            · obtain rfl : j = T1.length := by omega
              go_wp2
              go_ret
              exact ⟨rfl, Hb1.out.trans (Htd.out.own.below.mono Hb1.out.size)⟩
end Go.Proofs.Ytdlmadjlhiblmaa
