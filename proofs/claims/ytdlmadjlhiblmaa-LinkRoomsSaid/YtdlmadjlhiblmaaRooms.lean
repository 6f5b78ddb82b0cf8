/-
  LinkRooms: the walk.
-/
import Derived.Test.YtdlmadjlhiblmaaDrain
namespace Go.Proofs.Ytdlmadjlhiblmaa
open Go.RowKit

theorem evCount_snoc (q : List LMsg) (m : LMsg) : evCount (q ++ [m]) = evCount q + if m.kind = 3 then 1 else 0 := by
  by_cases h : m.kind = 3 <;> simp [evCount, List.filter_append, h]

set_option maxRecDepth 100000 in
set_option maxHeartbeats 2000000 in
theorem rooms_walk (A : Option Addr) (n cap : Nat) (hn : n ≤ maxLen) (Z : Nat → Bool) (w : World) (hZ : ∀ i, i < n → ∃ a : Addr, A = some a ∧ w.cell? (a.add i) = some (.bool (Z i))) :
    Calls Try.prog 5 #[.slice A n cap] w fun e w' => e = .returned (.bool true) ∧ Below w.heap.size w w' := by
  have hn' : (n : Int) ≤ 9223372036854775807 := by simp [maxLen] at hn; omega
  go_enter Try.func5, Try.ntmps5
  go_wp2_with fail
  refine (fit_true w).mono ?_
  rintro e w1 ⟨rfl, hb1⟩
  have h0 := own_new w1
  have Hb1 := Lib.hid hb1
  have H0 := Lib.hid h0
  have HZ := Lib.hid hZ
  clear hb1 h0 hZ
  by_cases h100 : 100 < n
  · have h100' : (100 : Int) < n := by omega
    go_wp2
    go_ret
    exact ⟨rfl, Hb1.out⟩
  have h100' : (n : Int) ≤ 100 := by omega
  go_wp2_with fail
  go_loopw [4, 5, 17] (fun e l i wr => ∃ (k ev lo : Nat) (q : List LMsg), k ≤ n ∧ i = .int .i64 k ∧ e = .int .i64 ev ∧ l = .int .i64 lo ∧ Own w1 wr w1.heap.size ⟨0, q, .wait, false, 0, lo⟩ ∧ q.length + lo = k ∧ ev = evCount q ∧ ev ≤ 6 ∧ (lo = 0 ∨ ev = 6)) (fun _ _ i _ => n - (intOf i).toNat)
  case atStart => exact ⟨0, 0, 0, [], Nat.zero_le _, rfl, rfl, rfl, H0.out, rfl, rfl, by omega, .inl rfl⟩
  case round =>
    obtain ⟨k, ev, lo, q, hk, rfl, rfl, rfl, ho, hlen, hev, hev6, hlo⟩ := hrel
    have hev' : (ev : Int) ≤ 6 := by omega
    have hlo' : (lo : Int) ≤ 100 := by omega
    by_cases hlt : k < n
    · obtain ⟨a, rfl, hcell⟩ := HZ.out k hlt
      have hbl : (a.add k).block < w.heap.size := block_lt_of_cell hcell
      have hcell' : wr.cell? (a.add k) = some (.bool (Z k)) := by
        rw [ho.below.cell (p := a.add k) (by have := Hb1.out.size; omega), Hb1.out.cell (p := a.add k) hbl]
        exact hcell
      cases hZk : Z k with
      | false =>
        rw [hZk] at hcell'
        have hp := push_own w1 w1.heap.size _ (zmsg 2 0) _ ho (zmsg_ok (by decide) (by decide)) (by simp; omega) (by simp; omega)
        rw [zmsg_arr] at hp
        have Hp := Lib.hid hp
        have Hlen := Lib.hid hlen
        have Hev := Lib.hid hev
        clear hp ho hcell hZk hlen hev
        go_wp2_with fail
        refine Hp.out.mono ?_
        rintro e w2 (⟨-, rfl, ho2, -⟩ | ⟨⟨hk, -⟩, -⟩)
        rotate_left
        · simp [zmsg] at hk
        have Ho2 := Lib.hid ho2
        clear ho2
        go_wp2
        go_roundw
        case rel => exact ⟨k + 1, ev, lo, _, by omega, by go_num, rfl, rfl, Ho2.out, by have := Hlen.out; simp; omega, by rw [evCount_snoc]; have := Hev.out; simpa [zmsg] using this, hev6, hlo⟩
        case measure => simp [intOf]; omega
      | true =>
        rw [hZk] at hcell'
        have hp := push_own w1 w1.heap.size _ (zmsg 3 0) _ ho (zmsg_ok (by decide) (by decide)) (by simp; omega) (by simp; omega)
        rw [zmsg_arr] at hp
        have Hp := Lib.hid hp
        have Hlen := Lib.hid hlen
        have Hev := Lib.hid hev
        clear hp ho hcell hZk hlen hev
        by_cases h6 : ev < 6
        · have h6' : (ev : Int) < 6 := by omega
          go_wp2_with fail
          refine Hp.out.mono ?_
          rintro e w2 (⟨-, rfl, ho2, -⟩ | ⟨⟨-, hk⟩, -⟩)
          rotate_left
          · have := Hev.out
            have hk' : 6 ≤ evCount q := hk
            omega
          have Ho2 := Lib.hid ho2
          clear ho2
          go_wp2
          go_roundw
          case rel => exact ⟨k + 1, ev + 1, lo, _, by omega, by go_num, by go_num, rfl, Ho2.out, by have := Hlen.out; simp; omega, by rw [evCount_snoc]; have := Hev.out; simp [zmsg]; omega, by omega, by omega⟩
          case measure => simp [intOf]; omega
        · have h6' : (6 : Int) ≤ ev := by omega
          go_wp2_with fail
          refine Hp.out.mono ?_
          rintro e w2 (⟨hk, -⟩ | ⟨-, rfl, ho2, -⟩)
          · exfalso; apply hk; have := Hev.out; simp [zmsg]; omega
          have Ho2 := Lib.hid ho2
          clear ho2
          go_wp2
          go_roundw
          case rel => exact ⟨k + 1, ev, lo + 1, q, by omega, by go_num, rfl, by go_num, Ho2.out, by have := Hlen.out; omega, Hev.out, hev6, by omega⟩
          case measure => simp [intOf]; omega
    · obtain rfl : k = n := by omega
      have hql : ((q.length : Nat) : Int) = k - lo := by omega
      have hem : q.isEmpty = decide ((k : Int) = 0) := by
        cases q with
        | nil => simp [evCount] at hev hlen; simp; omega
        | cons m q => simp at hlen; simp; omega
      have Hl := Lib.hid (len_own _ _ _ _ ho)
      have Hlost := Lib.hid (lost_own _ _ _ _ ho)
      have Hf := Lib.hid (flight_own _ _ _ _ ho)
      have Ho := Lib.hid ho
      have Hem := Lib.hid hem
      have Hql := Lib.hid hql
      clear ho hlen hev hem hql
      go_wp2_with fail
      refine Hl.out.mono ?_
      rintro e w2 ⟨rfl, rfl⟩
      rw [show (({ epoch := 0, q := q, ph := .wait, got := false, base := 0, lost := lo } : LS).q.length : Int) = k - lo from Hql.out]
      go_wp2_with fail
      refine Hlost.out.mono ?_
      rintro e w2 ⟨rfl, rfl⟩
      go_wp2_with fail
      refine Hf.out.mono ?_
      rintro e w2 ⟨rfl, nq, rfl⟩
      have Hid := Lib.hid (idle_own _ _ _ _ (Ho.out.drewN nq))
      go_wp2_with fail
      refine Hid.out.mono ?_
      rintro e w2 ⟨rfl, nq2, rfl⟩
      have Hls := Lib.hid (lose_own _ _ _ _ (Ho.out.drewN (nq + nq2)))
      rw [show ({ epoch := 0, q := q, ph := .wait, got := false, base := 0, lost := lo } : LS).q.isEmpty = decide ((k : Int) = 0) from Hem.out]
      by_cases hz : (k : Int) = 0
      · rw [decide_eq_true hz]
        go_wp2_with fail
        refine Hls.out.mono ?_
        rintro e w2 ⟨rfl, ho2, -⟩
        have Ho2 := Lib.hid ho2
        clear ho2
        go_wp2
        go_ret
        exact ⟨rfl, Hb1.out.trans (Ho2.out.below.mono Hb1.out.size)⟩
      · rw [decide_eq_false hz]
        go_wp2_with fail
        refine Hls.out.mono ?_
        rintro e w2 ⟨rfl, ho2, -⟩
        have Ho2 := Lib.hid ho2
        clear ho2
        go_wp2
        go_ret
        have hzb : ((k : Int) == 0) = false := by simpa using hz
        exact ⟨by simp [hzb], Hb1.out.trans (Ho2.out.below.mono Hb1.out.size)⟩
end Go.Proofs.Ytdlmadjlhiblmaa
