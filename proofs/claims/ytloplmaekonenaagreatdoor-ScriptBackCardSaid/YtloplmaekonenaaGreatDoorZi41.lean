/-
  ScriptBack.
-/
import Derived.Test.YtloplmaekonenaaGreatDoorZi40
import Derived.Test.YtloplmaekonenaaGreatDoorZi38
namespace Go.Proofs.YtloplmaekonenaaGreatDoor
set_option maxRecDepth 20000
open Go.RowKit
theorem encB_take (X : List (PO × Lie)) (n : Nat) : (encB (X.take n)).length ≤ (encB X).length := encB_len X n
theorem enc_take {w : World} {B : Nat} {xa : Option Addr} {xc : Nat} {X : List (PO × Lie)} (hX : OpsAt w B (.slice xa X.length xc) X) (hT : ∀ p ∈ X, Tamed p.1) (hl : X.length ≤ 80) {m : Nat} (hm : m ≤ X.length) :
    Calls Tryz.prog 39 #[.slice xa m xc] w fun e w' => ∃ v', e = .returned v' ∧ OwnSl w' 5 1 v' (encB (X.take m)).length (u8s (encB (X.take m))) ∧ (∀ b, v'.ownBlock = some b → w.heap.size ≤ b) ∧ Mod (fun _ => False) w w' := by
  have h1 := encB_le hT
  have h2 := encB_take X m
  have h3 : (X.take m).length = m := by rw [List.length_take, Nat.min_eq_left hm]
  have h := encode_rd w (.slice xa (X.take m).length xc) (X.take m) B (ops_take hX.own.rd hm) (fun b hb => hX.own.lt b (by cases xa <;> exact hb)) (fun q hq => hX.ops q (List.mem_of_mem_take hq)) (fun p hp => (hT p (List.mem_of_mem_take hp)).fit) (by omega) (by omega)
  rw [h3] at h
  exact h
theorem cut_tame {m : List (PO × Lie)} (h : ∀ p ∈ m, Tamed p.1) {n c : Nat} (hn : n ≤ m.length) (h1 : (encB (m.take n)).length ≤ c) (h2 : n < m.length → c < (encB (m.take (n + 1))).length) (hc : c ≤ (encB m).length) {l : List (PO × Lie)} {t : List UInt8}
    (hd : Dec ((encB m).take c) (l.map Prod.fst) t) (he : DecEnd t) : l.length = n ∧ encB l = encB (m.take n) ∧ ∀ p ∈ l, p.1.fit := by
  have h3 : ∀ o ∈ m.map Prod.fst, o.tells := fun o ho => by
    obtain ⟨p, hp, rfl⟩ := List.mem_map.1 ho
    exact (h p hp).tells
  have ht : ∀ k, (m.map Prod.fst).take k = (m.take k).map Prod.fst := fun k => by rw [List.map_take]
  have e1 := dec_cut (n := n) (c := c) h3 (by rw [List.length_map]; exact hn) (by rw [ht]; exact h1) (by rw [List.length_map, ht]; exact h2) hc hd he
  have h4 := hd.back.2.1
  refine ⟨?_, ?_, fun p hp => h4 _ (List.mem_map.2 ⟨p, hp, rfl⟩)⟩
  · have := congrArg List.length e1
    rw [List.length_map, List.length_map, List.length_take, List.length_map, Nat.min_eq_left hn] at this
    exact this
  · unfold encB
    rw [e1, ht, back_flat]
    intro o ho
    rw [← ht] at ho
    exact h3 o (List.mem_of_mem_take ho)
def SbRel (wB : World) (X : List (PO × Lie)) (c : Nat) (v : Value) (wr : World) : Prop := ∃ n : Nat, v = .int .i64 n ∧ n ≤ X.length ∧ (encB (X.take n)).length ≤ c ∧ Mod (fun _ => False) wB wr
set_option maxRecDepth 20000 in
set_option maxHeartbeats 16000000 in
theorem sback_walk (w : World) (hl : LaidAt w) (hn : 16 ≤ w.heap.size) (va : Value) (A : List (PO × Lie)) (hA : OpsArg w va A) (y : Int) (hy : -9223372036854775808 ≤ y ∧ y ≤ 9223372036854775807) :
    Calls Tryz.prog 11 #[va, .int .i64 y] w fun e w' => e = .returned (.bool true) ∧ Mod (fun _ => False) w w' := by
  have hl0 : Laid w w := ⟨hl, hn, ⟨rfl, rfl, rfl, Nat.le_refl _, fun _ _ => rfl⟩⟩
  have hf := fit19_at w
  have Hf := Lib.hid hf
  have Hl0 := Lib.hid hl0
  have HA := Lib.hid hA
  have Hl := Lib.hid hl
  clear hf hl0 hA hl
  go_enter Tryz.func11, Tryz.ntmps11
  go_wp2_with fail
  refine Hf.out.mono ?_
  rintro e w1 ⟨rfl, hm1, hs1⟩
  have hr1 := right19_at w1 va A (HA.out.mod hm1).rd (HA.out.mod hm1).ops HA.out.len
  have Hm1 := Lib.hid hm1
  have Hr1 := Lib.hid hr1
  clear hm1 hr1
  go_wp2_with fail
  refine Hr1.out.mono ?_
  rintro e w2 ⟨b, rfl, hb, hm2⟩
  have hm02 := Hm1.out.trans hm2 (fun _ _ h => h)
  cases b with
  | false =>
    have Hb := Lib.hid hb
    have Hm2 := Lib.hid hm2
    have Hm02 := Lib.hid hm02
    clear hb hm2 hm02
    go_wp2_with fail
    go_ret
    exact ⟨rfl, Hm02.out⟩
  | true =>
    have hbA := hb rfl
    have hta := tame_at w w2 (Hl0.out.mod0 hm02) va A (HA.out.mod hm02).rd (HA.out.mod hm02).ops hbA.1 hbA.2
    have hA80 := hbA.2
    have Hb := Lib.hid hb
    have Hm2 := Lib.hid hm2
    have Hm02 := Lib.hid hm02
    have HbA := Lib.hid hbA
    have Hta := Lib.hid hta
    clear hb hm2 hm02 hbA hta
    go_wp2_with fail
    refine Hta.out.mono ?_
    rintro e w4 ⟨vx, X, rfl, hX, hXl, hXt, hm4⟩
    have hm04 := Hm02.out.trans hm4 (fun _ _ h => h)
    obtain ⟨xa, xc, rfl, hxc⟩ := hX.own.shape
    have heX := encB_le hXt
    have hX80 : X.length ≤ 80 := by omega
    have hex := encode_at w4 _ X _ hX (fun p hp => (hXt p hp).fit) (by omega) (by omega)
    have HX := Lib.hid hX
    have HXt := Lib.hid hXt
    have Hm4 := Lib.hid hm4
    have Hm04 := Lib.hid hm04
    have Hex := Lib.hid hex
    clear hX hXt hm4 hm04 hex
    go_wp2_with fail
    refine Hex.out.mono ?_
    rintro e w5 ⟨v5, rfl, ho5, hbl5, hm5⟩
    obtain ⟨a5, c5, rfl, hc5⟩ := ho5.shape
    have hm05 := Hm04.out.trans hm5 (fun _ _ h => h)
    obtain ⟨G, hG1, hG2⟩ := own_at ho5 (by have := hm05.size; omega)
    have hdm := decode_at w5 _ G (encB X) hG1 hG2 (by omega)
    have Ho5 := Lib.hid ho5
    have Hbl5 := Lib.hid hbl5
    have Hm5 := Lib.hid hm5
    have Hm05 := Lib.hid hm05
    have Hdm := Lib.hid hdm
    have HG1 := Lib.hid hG1
    clear ho5 hbl5 hm5 hm05 hdm hG1
    go_wp2_with fail
    refine Hdm.out.mono ?_
    rintro e w8 ⟨M, t, v8, rfl, hdec, hend, hops8, hm8⟩
    obtain ⟨hml, hme, hmf⟩ := dec_tame HXt.out hdec hend
    obtain ⟨ma, mc, rfl, hmc⟩ := hops8.own.shape
    have hm08 := Hm05.out.trans hm8 (fun _ _ h => h)
    have hG8 : G < w8.heap.size := Nat.lt_of_lt_of_le hG2 hm8.size
    have hX8 := HX.out.mod (Hm5.out.trans hm8 (fun _ _ h => h)) (fun _ h => h.elim)
    have hb8 := HG1.out.mod hm8 (fun _ h => h)
    have ho8 := Ho5.out.mod hm8 (fun _ _ h => h)
    have hE1 : ∀ w', Mod (fun _ => False) w8 w' → Calls Tryz.prog 39 #[.slice ma X.length mc] w' fun e w'' => ∃ v', e = .returned v' ∧ OwnSl w'' 5 1 v' (encB X).length (u8s (encB X)) ∧ (∀ b, v'.ownBlock = some b → w'.heap.size ≤ b) ∧ Mod (fun _ => False) w' w'' := fun w' h => by
      have h1 := encode_at w' _ M _ (hops8.mod h (fun _ h => h.elim)) hmf (by rw [hme]; omega) (by omega)
      rw [hml, hme] at h1
      exact h1
    have hcv2 : ∀ (y : World) (m : List (PO × Lie)) (a c), OwnSl y 5 1 (.slice a (encB m).length c) (encB m).length (u8s (encB m)) → (convert 69 9 (.slice a (encB m).length c)).run Tryz.prog y = .ok (.string (str (encB m))) y := fun y m a c hy => conv_own hy
    rw [hml]
    have Hdec := Lib.hid hdec
    have Hend := Lib.hid hend
    have Hops8 := Lib.hid hops8
    have Hm8 := Lib.hid hm8
    have Hm08 := Lib.hid hm08
    have HX8 := Lib.hid hX8
    have Hb8 := Lib.hid hb8
    have Ho8 := Lib.hid ho8
    have HE1 := Lib.hid hE1
    have Hcv2 := Lib.hid hcv2
    have Hme := Lib.hid hme
    have Hmf := Lib.hid hmf
    clear hdec hend hops8 hm8 hm08 hX8 hb8 ho8 hE1 hcv2 hme hmf hml
    go_wp2_with fail
    have hd8 : Mod (fun _ => False) w8 w8.drew := (Mod.refl _ _).drew
    refine wp_region_news2 [.rd 0, .rd 1, .rd 2, .rd 3, .rd 4, .rd 5, .rd 6, .rd 9, .rd 10, .go 7, .rd 8, .rd 11, .rd 12] [0, 1, 2, 3, 4, 5, 6, 7, 8, 9, 10, 11, 12] (by kernel_rfl) (by kernel_rfl) (fun _ _ d _ _ h => (by cases d <;> exact h)) ?_
    refine news_pure rfl ?_ ?_ (fun w0 => ?_) (fun K hK => ?_)
    · (try simp only [List.getElem_toArray]); (try simp only [List.getElem_cons_succ]); (try simp only [List.getElem_cons_zero])
      go_simp; done
    rotate_left
    · (try simp only [List.getElem_toArray]); (try simp only [List.getElem_cons_succ]); (try simp only [List.getElem_cons_zero])
      go_simp; with_reducible rfl
    (try simp only [List.getElem_toArray]); (try simp only [List.getElem_cons_succ]); (try simp only [List.getElem_cons_zero])
    go_simp; refine hK _ ?_; clear hK K
    refine news_pure rfl ?_ ?_ (fun w0 => ?_) (fun K hK => ?_)
    · (try simp only [List.getElem_toArray]); (try simp only [List.getElem_cons_succ]); (try simp only [List.getElem_cons_zero])
      go_simp; done
    rotate_left
    · (try simp only [List.getElem_toArray]); (try simp only [List.getElem_cons_succ]); (try simp only [List.getElem_cons_zero])
      go_simp; with_reducible rfl
    (try simp only [List.getElem_toArray]); (try simp only [List.getElem_cons_succ]); (try simp only [List.getElem_cons_zero])
    go_simp; refine hK _ ?_; clear hK K
    refine news_pure rfl ?_ ?_ (fun w0 => ?_) (fun K hK => ?_)
    · (try simp only [List.getElem_toArray]); (try simp only [List.getElem_cons_succ]); (try simp only [List.getElem_cons_zero])
      go_simp; done
    rotate_left
    · (try simp only [List.getElem_toArray]); (try simp only [List.getElem_cons_succ]); (try simp only [List.getElem_cons_zero])
      go_simp; with_reducible rfl
    (try simp only [List.getElem_toArray]); (try simp only [List.getElem_cons_succ]); (try simp only [List.getElem_cons_zero])
    go_simp; refine hK _ ?_; clear hK K
    refine news_pure rfl ?_ ?_ (fun w0 => ?_) (fun K hK => ?_)
    · (try simp only [List.getElem_toArray]); (try simp only [List.getElem_cons_succ]); (try simp only [List.getElem_cons_zero])
      go_simp; done
    rotate_left
    · (try simp only [List.getElem_toArray]); (try simp only [List.getElem_cons_succ]); (try simp only [List.getElem_cons_zero])
      go_simp; with_reducible rfl
    (try simp only [List.getElem_toArray]); (try simp only [List.getElem_cons_succ]); (try simp only [List.getElem_cons_zero])
    go_simp; refine hK _ ?_; clear hK K
    refine news_pure rfl ?_ ?_ (fun w0 => ?_) (fun K hK => ?_)
    · (try simp only [List.getElem_toArray]); (try simp only [List.getElem_cons_succ]); (try simp only [List.getElem_cons_zero])
      go_simp; done
    rotate_left
    · (try simp only [List.getElem_toArray]); (try simp only [List.getElem_cons_succ]); (try simp only [List.getElem_cons_zero])
      go_simp; with_reducible rfl
    (try simp only [List.getElem_toArray]); (try simp only [List.getElem_cons_succ]); (try simp only [List.getElem_cons_zero])
    go_simp; refine hK _ ?_; clear hK K
    refine news_pure rfl ?_ ?_ (fun w0 => ?_) (fun K hK => ?_)
    · (try simp only [List.getElem_toArray]); (try simp only [List.getElem_cons_succ]); (try simp only [List.getElem_cons_zero])
      go_simp; done
    rotate_left
    · (try simp only [List.getElem_toArray]); (try simp only [List.getElem_cons_succ]); (try simp only [List.getElem_cons_zero])
      go_simp; with_reducible rfl
    (try simp only [List.getElem_toArray]); (try simp only [List.getElem_cons_succ]); (try simp only [List.getElem_cons_zero])
    go_simp; refine hK _ ?_; clear hK K
    refine news_pure rfl ?_ ?_ (fun w0 => ?_) (fun K hK => ?_)
    · (try simp only [List.getElem_toArray]); (try simp only [List.getElem_cons_succ]); (try simp only [List.getElem_cons_zero])
      go_simp; done
    rotate_left
    · (try simp only [List.getElem_toArray]); (try simp only [List.getElem_cons_succ]); (try simp only [List.getElem_cons_zero])
      go_simp; with_reducible rfl
    (try simp only [List.getElem_toArray]); (try simp only [List.getElem_cons_succ]); (try simp only [List.getElem_cons_zero])
    go_simp; refine hK _ ?_; clear hK K
    refine news_pure rfl ?_ ?_ (fun w0 => ?_) (fun K hK => ?_)
    · (try simp only [List.getElem_toArray]); (try simp only [List.getElem_cons_succ]); (try simp only [List.getElem_cons_zero])
      go_simp; done
    rotate_left
    · (try simp only [List.getElem_toArray]); (try simp only [List.getElem_cons_succ]); (try simp only [List.getElem_cons_zero])
      go_simp; with_reducible rfl
    (try simp only [List.getElem_toArray]); (try simp only [List.getElem_cons_succ]); (try simp only [List.getElem_cons_zero])
    go_simp; refine hK _ ?_; clear hK K
    refine news_rd rfl rfl ?_ ((fun y : World => OwnSl y 5 1 (.slice a5 (encB X).length c5) (encB X).length (u8s (encB X)))) ((fun _ _ m h => h.mod m (fun _ _ h => h))) (Ho8.out.mod hd8 (fun _ _ h => h)) ?_ (fun w0 h0 => ?_) (fun K hK => ?_)
    · (try simp only [List.getElem_toArray]); (try simp only [List.getElem_cons_succ]); (try simp only [List.getElem_cons_zero])
      go_simp; done
    rotate_left
    · (try simp only [List.getElem_toArray]); (try simp only [List.getElem_cons_succ]); (try simp only [List.getElem_cons_zero])
      have q0 := Hcv2.out _ _ _ _ h0; clear h0; go_simp; with_reducible rfl
    (try simp only [List.getElem_toArray]); (try simp only [List.getElem_cons_succ]); (try simp only [List.getElem_cons_zero])
    go_simp; refine hK _ ?_; clear hK K
    refine news_one (newsgo_yes rfl ?_ (fun K hK => ?_))
    · (try simp only [List.getElem_toArray]); (try simp only [List.getElem_cons_succ]); (try simp only [List.getElem_cons_zero])
      go_simp; done
    go_wp2_with fail
    refine (HE1.out _ hd8).mono ?_
    rintro e wa ⟨u1, rfl, ho1, -, hma⟩
    obtain ⟨p1, q1, rfl, -⟩ := ho1.shape
    refine hK _ _ (fun _ => hma) ?_
    clear hK K
    refine news_rd rfl rfl ?_ ((fun y : World => OwnSl y 5 1 (.slice p1 (encB X).length q1) (encB X).length (u8s (encB X)))) ((fun _ _ m h => h.mod m (fun _ _ h => h))) (ho1) ?_ (fun w0 h0 => ?_) (fun K hK => ?_)
    · (try simp only [List.getElem_toArray]); (try simp only [List.getElem_cons_succ]); (try simp only [List.getElem_cons_zero])
      go_simp; done
    rotate_left
    · (try simp only [List.getElem_toArray]); (try simp only [List.getElem_cons_succ]); (try simp only [List.getElem_cons_zero])
      have q0 := Hcv2.out _ _ _ _ h0; clear h0; go_simp; with_reducible rfl
    (try simp only [List.getElem_toArray]); (try simp only [List.getElem_cons_succ]); (try simp only [List.getElem_cons_zero])
    go_simp; refine hK _ ?_; clear hK K
    refine news_pure rfl ?_ ?_ (fun w0 => ?_) (fun K hK => ?_)
    · (try simp only [List.getElem_toArray]); (try simp only [List.getElem_cons_succ]); (try simp only [List.getElem_cons_zero])
      go_simp; done
    rotate_left
    · (try simp only [List.getElem_toArray]); (try simp only [List.getElem_cons_succ]); (try simp only [List.getElem_cons_zero])
      go_simp; with_reducible rfl
    (try simp only [List.getElem_toArray]); (try simp only [List.getElem_cons_succ]); (try simp only [List.getElem_cons_zero])
    go_simp; refine hK _ ?_; clear hK K
    refine news_pure rfl ?_ ?_ (fun w0 => ?_) (fun K hK => ?_)
    · (try simp only [List.getElem_toArray]); (try simp only [List.getElem_cons_succ]); (try simp only [List.getElem_cons_zero])
      go_simp; done
    rotate_left
    · (try simp only [List.getElem_toArray]); (try simp only [List.getElem_cons_succ]); (try simp only [List.getElem_cons_zero])
      go_simp; with_reducible rfl
    (try simp only [List.getElem_toArray]); (try simp only [List.getElem_cons_succ]); (try simp only [List.getElem_cons_zero])
    go_simp; refine hK _ ?_; clear hK K
    refine news_nil ?_
    have hm8a := hd8.trans hma (fun _ _ h => h)
    have Hm8a := Lib.hid hm8a
    clear hm8a hd8 hma ho1
    obtain ⟨L, hL⟩ : ∃ L, (encB X).length = L := ⟨_, rfl⟩
    obtain ⟨r, hr, hr1, hr2⟩ : ∃ r : Int, y.tmod (((encB X).length : Int) + 1) = r ∧ -((encB X).length : Int) ≤ r ∧ r ≤ (encB X).length := by
      have h0 : (0 : Int) < ((encB X).length : Int) + 1 := by omega
      have h1 := Int.tmod_lt_of_pos y h0
      have h2 := Int.tmod_lt_of_pos (-y) h0
      rw [Int.neg_tmod] at h2
      exact ⟨_, rfl, by omega, by omega⟩
    obtain ⟨c, hc, hcl⟩ : ∃ c : Nat, (r + ((encB X).length : Int) + 1).tmod (((encB X).length : Int) + 1) = c ∧ c ≤ (encB X).length := by
      have h0 : (0 : Int) < ((encB X).length : Int) + 1 := by omega
      have h1 := Int.tmod_lt_of_pos (r + ((encB X).length : Int) + 1) h0
      have h2 := Int.tmod_nonneg (((encB X).length : Int) + 1) (show 0 ≤ r + ((encB X).length : Int) + 1 by omega)
      exact ⟨((r + ((encB X).length : Int) + 1).tmod (((encB X).length : Int) + 1)).toNat, by omega, by omega⟩
    clear hL L
    have hrel0 : SbRel wa X c (.int .i64 ((0 : Nat) : Int)) wa := ⟨0, rfl, Nat.zero_le _, Nat.zero_le _, Mod.refl _ _⟩
    have hLb : ((encB X).length : Int) ≤ 80000 := by omega
    have Hrel0 := Lib.hid hrel0
    clear hrel0
    go_wp2_with fail
    go_loopw [7] (fun v wr => SbRel wa X c v wr) (fun v _ => X.length - (intOf v).toNat)
    case atStart => exact Hrel0.out
    case round =>
      revert wr
      intro wr hrel
      obtain ⟨n, rfl, hn, hle, hmr⟩ := hrel
      have hm8r := Hm8a.out.trans hmr (fun _ _ h => h)
      have hb5 := Hb8.out.mod hm8r (fun _ h => h)
      by_cases hlt : n < X.length
      · have hlt' : (n : Int) < X.length := by omega
        have hen := enc_take (HX8.out.mod hm8r (fun _ h => h.elim)) HXt.out hX80 (show n + 1 ≤ X.length by omega)
        have hn1 : (n : Int) + 1 ≤ xc := by omega
        have Hmr := Lib.hid hmr
        have Hm8r := Lib.hid hm8r
        have Hb5 := Lib.hid hb5
        have Hen := Lib.hid hen
        clear hmr hm8r hb5 hen
        go_wp2_with fail
        refine Hen.out.mono ?_
        rintro e wr2 ⟨u, rfl, hou, hub, hmu⟩
        obtain ⟨pu, qu, rfl, -⟩ := hou.shape
        by_cases hcc : (encB (X.take (n + 1))).length ≤ c
        · have hcc' : ((encB (X.take (n + 1))).length : Int) ≤ c := by omega
          have hmr2 := Hmr.out.trans hmu (fun _ _ h => h)
          have Hou := Lib.hid hou
          have Hub := Lib.hid hub
          have Hmu := Lib.hid hmu
          have Hmr2 := Lib.hid hmr2
          clear hou hub hmu hmr2
          go_wp2_with fail
          go_roundw
          case rel => exact ⟨n + 1, by go_num, hlt, hcc, Hmr2.out⟩
          case measure => simp [intOf]; omega
        · have hcc' : (c : Int) < ((encB (X.take (n + 1))).length : Int) := by omega
          have hgt : n < X.length → c < (encB (X.take (n + 1))).length := fun _ => by omega
          have hm8r := Hm8r.out.trans hmu (fun _ _ h => h)
          have hb5 := Hb5.out.mod hmu (fun _ h => h)
          clear Hmr Hm8r Hb5 Hen hou hub hmu
          rename_i wr0
          clear hcc
          obtain ⟨wr, hwr⟩ : ∃ wr, wr2 = wr := ⟨_, rfl⟩
          subst hwr
          have Hm8r := Lib.hid hm8r
          have hbt := hb5.take (n := c) (by omega)
          have hdk := decode_at wr2 _ G ((encB X).take c) hbt (by have := hm8r.size; omega) (by rw [List.length_take]; omega)
          have Hdk := Lib.hid hdk
          clear hdk hbt
          go_wp2_with fail
          refine Hdk.out.mono ?_
          rintro e wk ⟨Kk, tk, vk, rfl, hdeck, hendk, hopsk, hmk⟩
          obtain ⟨hkl, hke, hkf⟩ := cut_tame HXt.out hn hle hgt (by omega) hdeck hendk
          obtain ⟨ka, kc, rfl, hkc⟩ := hopsk.own.shape
          have hm8k := Hm8r.out.trans hmk (fun _ _ h => h)
          have hm0k := Hm08.out.trans hm8k (fun _ _ h => h)
          have hk80 : (encB Kk).length ≤ 200000 := by rw [hke]; have := encB_take X n; omega
          have hE1 : ∀ w', Mod (fun _ => False) wk w' → Calls Tryz.prog 39 #[.slice ka n kc] w' fun e w'' => ∃ v', e = .returned v' ∧ OwnSl w'' 5 1 v' (encB (X.take n)).length (u8s (encB (X.take n))) ∧ (∀ b, v'.ownBlock = some b → w'.heap.size ≤ b) ∧ Mod (fun _ => False) w' w'' := fun w' h => by
            have h1 := encode_at w' _ Kk _ (hopsk.mod h (fun _ h => h.elim)) hkf (by omega) (by omega)
            rw [hkl, hke] at h1
            exact h1
          have hE2 : ∀ w', Mod (fun _ => False) wk w' → Calls Tryz.prog 39 #[.slice xa n xc] w' fun e w'' => ∃ v', e = .returned v' ∧ OwnSl w'' 5 1 v' (encB (X.take n)).length (u8s (encB (X.take n))) ∧ (∀ b, v'.ownBlock = some b → w'.heap.size ≤ b) ∧ Mod (fun _ => False) w' w'' := fun w' h =>
            enc_take (HX8.out.mod (hm8k.trans h (fun _ _ h => h)) (fun _ h => h.elim)) HXt.out hX80 hn
          rw [hkl]
          have hnc : (n : Int) ≤ xc := by omega
          have Hdeck := Lib.hid hdeck
          have Hendk := Lib.hid hendk
          have Hopsk := Lib.hid hopsk
          have Hmk := Lib.hid hmk
          have Hm8k := Lib.hid hm8k
          have Hm0k := Lib.hid hm0k
          have HE1 := Lib.hid hE1
          have HE2 := Lib.hid hE2
          have Hke := Lib.hid hke
          have Hkf := Lib.hid hkf
          clear hdeck hendk hopsk hmk hm8k hm0k hE1 hE2 hke hkf hkl hk80
          go_wp2_with fail
          have hdk : Mod (fun _ => False) wk wk.drew := (Mod.refl _ _).drew
          refine wp_region_news2 [.rd 0, .rd 1, .rd 2, .rd 3, .rd 4, .rd 5, .rd 8, .rd 9, .rd 10, .go 6, .rd 7, .go 11, .rd 12, .rd 13, .rd 14, .rd 15] [0, 1, 2, 3, 4, 5, 6, 7, 8, 9, 10, 11, 12, 13, 14, 15] (by kernel_rfl) (by kernel_rfl) (fun _ _ d _ _ h => (by cases d <;> exact h)) ?_
          refine news_pure rfl ?_ ?_ (fun w0 => ?_) (fun K hK => ?_)
          · (try simp only [List.getElem_toArray]); (try simp only [List.getElem_cons_succ]); (try simp only [List.getElem_cons_zero])
            go_simp; done
          rotate_left
          · (try simp only [List.getElem_toArray]); (try simp only [List.getElem_cons_succ]); (try simp only [List.getElem_cons_zero])
            go_simp; with_reducible rfl
          (try simp only [List.getElem_toArray]); (try simp only [List.getElem_cons_succ]); (try simp only [List.getElem_cons_zero])
          go_simp; refine hK _ ?_; clear hK K
          refine news_pure rfl ?_ ?_ (fun w0 => ?_) (fun K hK => ?_)
          · (try simp only [List.getElem_toArray]); (try simp only [List.getElem_cons_succ]); (try simp only [List.getElem_cons_zero])
            go_simp; done
          rotate_left
          · (try simp only [List.getElem_toArray]); (try simp only [List.getElem_cons_succ]); (try simp only [List.getElem_cons_zero])
            go_simp; with_reducible rfl
          (try simp only [List.getElem_toArray]); (try simp only [List.getElem_cons_succ]); (try simp only [List.getElem_cons_zero])
          go_simp; refine hK _ ?_; clear hK K
          refine news_pure rfl ?_ ?_ (fun w0 => ?_) (fun K hK => ?_)
          · (try simp only [List.getElem_toArray]); (try simp only [List.getElem_cons_succ]); (try simp only [List.getElem_cons_zero])
            go_simp; done
          rotate_left
          · (try simp only [List.getElem_toArray]); (try simp only [List.getElem_cons_succ]); (try simp only [List.getElem_cons_zero])
            go_simp; with_reducible rfl
          (try simp only [List.getElem_toArray]); (try simp only [List.getElem_cons_succ]); (try simp only [List.getElem_cons_zero])
          go_simp; refine hK _ ?_; clear hK K
          refine news_pure rfl ?_ ?_ (fun w0 => ?_) (fun K hK => ?_)
          · (try simp only [List.getElem_toArray]); (try simp only [List.getElem_cons_succ]); (try simp only [List.getElem_cons_zero])
            go_simp; done
          rotate_left
          · (try simp only [List.getElem_toArray]); (try simp only [List.getElem_cons_succ]); (try simp only [List.getElem_cons_zero])
            go_simp; with_reducible rfl
          (try simp only [List.getElem_toArray]); (try simp only [List.getElem_cons_succ]); (try simp only [List.getElem_cons_zero])
          go_simp; refine hK _ ?_; clear hK K
          refine news_pure rfl ?_ ?_ (fun w0 => ?_) (fun K hK => ?_)
          · (try simp only [List.getElem_toArray]); (try simp only [List.getElem_cons_succ]); (try simp only [List.getElem_cons_zero])
            go_simp; done
          rotate_left
          · (try simp only [List.getElem_toArray]); (try simp only [List.getElem_cons_succ]); (try simp only [List.getElem_cons_zero])
            go_simp; with_reducible rfl
          (try simp only [List.getElem_toArray]); (try simp only [List.getElem_cons_succ]); (try simp only [List.getElem_cons_zero])
          go_simp; refine hK _ ?_; clear hK K
          refine news_pure rfl ?_ ?_ (fun w0 => ?_) (fun K hK => ?_)
          · (try simp only [List.getElem_toArray]); (try simp only [List.getElem_cons_succ]); (try simp only [List.getElem_cons_zero])
            go_simp; done
          rotate_left
          · (try simp only [List.getElem_toArray]); (try simp only [List.getElem_cons_succ]); (try simp only [List.getElem_cons_zero])
            go_simp; with_reducible rfl
          (try simp only [List.getElem_toArray]); (try simp only [List.getElem_cons_succ]); (try simp only [List.getElem_cons_zero])
          go_simp; refine hK _ ?_; clear hK K
          refine news_pure rfl ?_ ?_ (fun w0 => ?_) (fun K hK => ?_)
          · (try simp only [List.getElem_toArray]); (try simp only [List.getElem_cons_succ]); (try simp only [List.getElem_cons_zero])
            go_simp; done
          rotate_left
          · (try simp only [List.getElem_toArray]); (try simp only [List.getElem_cons_succ]); (try simp only [List.getElem_cons_zero])
            go_simp; with_reducible rfl
          (try simp only [List.getElem_toArray]); (try simp only [List.getElem_cons_succ]); (try simp only [List.getElem_cons_zero])
          go_simp; refine hK _ ?_; clear hK K
          refine news_pure rfl ?_ ?_ (fun w0 => ?_) (fun K hK => ?_)
          · (try simp only [List.getElem_toArray]); (try simp only [List.getElem_cons_succ]); (try simp only [List.getElem_cons_zero])
            go_simp; done
          rotate_left
          · (try simp only [List.getElem_toArray]); (try simp only [List.getElem_cons_succ]); (try simp only [List.getElem_cons_zero])
            go_simp; with_reducible rfl
          (try simp only [List.getElem_toArray]); (try simp only [List.getElem_cons_succ]); (try simp only [List.getElem_cons_zero])
          go_simp; refine hK _ ?_; clear hK K
          refine news_pure rfl ?_ ?_ (fun w0 => ?_) (fun K hK => ?_)
          · (try simp only [List.getElem_toArray]); (try simp only [List.getElem_cons_succ]); (try simp only [List.getElem_cons_zero])
            go_simp; done
          rotate_left
          · (try simp only [List.getElem_toArray]); (try simp only [List.getElem_cons_succ]); (try simp only [List.getElem_cons_zero])
            go_simp; with_reducible rfl
          (try simp only [List.getElem_toArray]); (try simp only [List.getElem_cons_succ]); (try simp only [List.getElem_cons_zero])
          go_simp; refine hK _ ?_; clear hK K
          refine news_one (newsgo_yes rfl ?_ (fun K hK => ?_))
          · (try simp only [List.getElem_toArray]); (try simp only [List.getElem_cons_succ]); (try simp only [List.getElem_cons_zero])
            go_simp; done
          go_wp2_with fail
          refine (HE1.out _ hdk).mono ?_
          rintro e wa ⟨u1, rfl, ho1, -, hma⟩
          obtain ⟨p1, q1, rfl, -⟩ := ho1.shape
          refine hK _ _ (fun _ => hma) ?_
          clear hK K
          refine news_rd rfl rfl ?_ ((fun y : World => OwnSl y 5 1 (.slice p1 (encB (X.take n)).length q1) (encB (X.take n)).length (u8s (encB (X.take n))))) ((fun _ _ m h => h.mod m (fun _ _ h => h))) (ho1) ?_ (fun w0 h0 => ?_) (fun K hK => ?_)
          · (try simp only [List.getElem_toArray]); (try simp only [List.getElem_cons_succ]); (try simp only [List.getElem_cons_zero])
            go_simp; done
          rotate_left
          · (try simp only [List.getElem_toArray]); (try simp only [List.getElem_cons_succ]); (try simp only [List.getElem_cons_zero])
            have q0 := Hcv2.out _ _ _ _ h0; clear h0; go_simp; with_reducible rfl
          (try simp only [List.getElem_toArray]); (try simp only [List.getElem_cons_succ]); (try simp only [List.getElem_cons_zero])
          go_simp; refine hK _ ?_; clear hK K
          have hda := hdk.trans hma (fun _ _ h => h)
          refine news_one (newsgo_yes rfl ?_ (fun K hK => ?_))
          · (try simp only [List.getElem_toArray]); (try simp only [List.getElem_cons_succ]); (try simp only [List.getElem_cons_zero])
            go_simp; done
          go_wp2_with fail
          refine (HE2.out _ hda).mono ?_
          rintro e wb ⟨u2, rfl, ho2, -, hmb⟩
          obtain ⟨p2, q2, rfl, -⟩ := ho2.shape
          refine hK _ _ (fun _ => hmb) ?_
          clear hK K
          refine news_rd rfl rfl ?_ ((fun y : World => OwnSl y 5 1 (.slice p2 (encB (X.take n)).length q2) (encB (X.take n)).length (u8s (encB (X.take n))))) ((fun _ _ m h => h.mod m (fun _ _ h => h))) (ho2) ?_ (fun w0 h0 => ?_) (fun K hK => ?_)
          · (try simp only [List.getElem_toArray]); (try simp only [List.getElem_cons_succ]); (try simp only [List.getElem_cons_zero])
            go_simp; done
          rotate_left
          · (try simp only [List.getElem_toArray]); (try simp only [List.getElem_cons_succ]); (try simp only [List.getElem_cons_zero])
            have q0 := Hcv2.out _ _ _ _ h0; clear h0; go_simp; with_reducible rfl
          (try simp only [List.getElem_toArray]); (try simp only [List.getElem_cons_succ]); (try simp only [List.getElem_cons_zero])
          go_simp; refine hK _ ?_; clear hK K
          refine news_pure rfl ?_ ?_ (fun w0 => ?_) (fun K hK => ?_)
          · (try simp only [List.getElem_toArray]); (try simp only [List.getElem_cons_succ]); (try simp only [List.getElem_cons_zero])
            go_simp; done
          rotate_left
          · (try simp only [List.getElem_toArray]); (try simp only [List.getElem_cons_succ]); (try simp only [List.getElem_cons_zero])
            go_simp; with_reducible rfl
          (try simp only [List.getElem_toArray]); (try simp only [List.getElem_cons_succ]); (try simp only [List.getElem_cons_zero])
          go_simp; refine hK _ ?_; clear hK K
          refine news_pure rfl ?_ ?_ (fun w0 => ?_) (fun K hK => ?_)
          · (try simp only [List.getElem_toArray]); (try simp only [List.getElem_cons_succ]); (try simp only [List.getElem_cons_zero])
            go_simp; done
          rotate_left
          · (try simp only [List.getElem_toArray]); (try simp only [List.getElem_cons_succ]); (try simp only [List.getElem_cons_zero])
            go_simp; with_reducible rfl
          (try simp only [List.getElem_toArray]); (try simp only [List.getElem_cons_succ]); (try simp only [List.getElem_cons_zero])
          go_simp; refine hK _ ?_; clear hK K
          refine news_pure rfl ?_ ?_ (fun w0 => ?_) (fun K hK => ?_)
          · (try simp only [List.getElem_toArray]); (try simp only [List.getElem_cons_succ]); (try simp only [List.getElem_cons_zero])
            go_simp; done
          rotate_left
          · (try simp only [List.getElem_toArray]); (try simp only [List.getElem_cons_succ]); (try simp only [List.getElem_cons_zero])
            go_simp; with_reducible rfl
          (try simp only [List.getElem_toArray]); (try simp only [List.getElem_cons_succ]); (try simp only [List.getElem_cons_zero])
          go_simp; refine hK _ ?_; clear hK K
          refine news_nil ?_
          have hmE := Hm0k.out.trans (hda.trans hmb (fun _ _ h => h)) (fun _ _ h => h)
          have HmE := Lib.hid hmE
          clear hmE hdk hda hma hmb ho1 ho2
          go_wp2_with fail
          go_ret
          exact ⟨rfl, HmE.out⟩
      · have hgt : n < X.length → c < (encB (X.take (n + 1))).length := fun h => absurd h hlt
        obtain hnX : X.length = n := by omega
        clear hmr
        have Hm8r := Lib.hid hm8r
        have hbt := hb5.take (n := c) (by omega)
        have hdk := decode_at wr _ G ((encB X).take c) hbt (by have := hm8r.size; omega) (by rw [List.length_take]; omega)
        have Hdk := Lib.hid hdk
        clear hdk hbt
        go_wp2_with fail
        refine Hdk.out.mono ?_
        rintro e wk ⟨Kk, tk, vk, rfl, hdeck, hendk, hopsk, hmk⟩
        obtain ⟨hkl, hke, hkf⟩ := cut_tame HXt.out hn hle hgt (by omega) hdeck hendk
        obtain ⟨ka, kc, rfl, hkc⟩ := hopsk.own.shape
        have hm8k := Hm8r.out.trans hmk (fun _ _ h => h)
        have hm0k := Hm08.out.trans hm8k (fun _ _ h => h)
        have hk80 : (encB Kk).length ≤ 200000 := by rw [hke]; have := encB_take X n; omega
        have hE1 : ∀ w', Mod (fun _ => False) wk w' → Calls Tryz.prog 39 #[.slice ka n kc] w' fun e w'' => ∃ v', e = .returned v' ∧ OwnSl w'' 5 1 v' (encB (X.take n)).length (u8s (encB (X.take n))) ∧ (∀ b, v'.ownBlock = some b → w'.heap.size ≤ b) ∧ Mod (fun _ => False) w' w'' := fun w' h => by
          have h1 := encode_at w' _ Kk _ (hopsk.mod h (fun _ h => h.elim)) hkf (by omega) (by omega)
          rw [hkl, hke] at h1
          exact h1
        have hE2 : ∀ w', Mod (fun _ => False) wk w' → Calls Tryz.prog 39 #[.slice xa n xc] w' fun e w'' => ∃ v', e = .returned v' ∧ OwnSl w'' 5 1 v' (encB (X.take n)).length (u8s (encB (X.take n))) ∧ (∀ b, v'.ownBlock = some b → w'.heap.size ≤ b) ∧ Mod (fun _ => False) w' w'' := fun w' h =>
          enc_take (HX8.out.mod (hm8k.trans h (fun _ _ h => h)) (fun _ h => h.elim)) HXt.out hX80 hn
        rw [hkl]
        have hnc : (n : Int) ≤ xc := by omega
        have Hdeck := Lib.hid hdeck
        have Hendk := Lib.hid hendk
        have Hopsk := Lib.hid hopsk
        have Hmk := Lib.hid hmk
        have Hm8k := Lib.hid hm8k
        have Hm0k := Lib.hid hm0k
        have HE1 := Lib.hid hE1
        have HE2 := Lib.hid hE2
        have Hke := Lib.hid hke
        have Hkf := Lib.hid hkf
        clear hdeck hendk hopsk hmk hm8k hm0k hE1 hE2 hke hkf hkl hk80
        go_wp2_with fail
        have hdk : Mod (fun _ => False) wk wk.drew := (Mod.refl _ _).drew
        refine wp_region_news2 [.rd 0, .rd 1, .rd 2, .rd 3, .rd 4, .rd 5, .rd 8, .rd 9, .rd 10, .go 6, .rd 7, .go 11, .rd 12, .rd 13, .rd 14, .rd 15] [0, 1, 2, 3, 4, 5, 6, 7, 8, 9, 10, 11, 12, 13, 14, 15] (by kernel_rfl) (by kernel_rfl) (fun _ _ d _ _ h => (by cases d <;> exact h)) ?_
        refine news_pure rfl ?_ ?_ (fun w0 => ?_) (fun K hK => ?_)
        · (try simp only [List.getElem_toArray]); (try simp only [List.getElem_cons_succ]); (try simp only [List.getElem_cons_zero])
          go_simp; done
        rotate_left
        · (try simp only [List.getElem_toArray]); (try simp only [List.getElem_cons_succ]); (try simp only [List.getElem_cons_zero])
          go_simp; with_reducible rfl
        (try simp only [List.getElem_toArray]); (try simp only [List.getElem_cons_succ]); (try simp only [List.getElem_cons_zero])
        go_simp; refine hK _ ?_; clear hK K
        refine news_pure rfl ?_ ?_ (fun w0 => ?_) (fun K hK => ?_)
        · (try simp only [List.getElem_toArray]); (try simp only [List.getElem_cons_succ]); (try simp only [List.getElem_cons_zero])
          go_simp; done
        rotate_left
        · (try simp only [List.getElem_toArray]); (try simp only [List.getElem_cons_succ]); (try simp only [List.getElem_cons_zero])
          go_simp; with_reducible rfl
        (try simp only [List.getElem_toArray]); (try simp only [List.getElem_cons_succ]); (try simp only [List.getElem_cons_zero])
        go_simp; refine hK _ ?_; clear hK K
        refine news_pure rfl ?_ ?_ (fun w0 => ?_) (fun K hK => ?_)
        · (try simp only [List.getElem_toArray]); (try simp only [List.getElem_cons_succ]); (try simp only [List.getElem_cons_zero])
          go_simp; done
        rotate_left
        · (try simp only [List.getElem_toArray]); (try simp only [List.getElem_cons_succ]); (try simp only [List.getElem_cons_zero])
          go_simp; with_reducible rfl
        (try simp only [List.getElem_toArray]); (try simp only [List.getElem_cons_succ]); (try simp only [List.getElem_cons_zero])
        go_simp; refine hK _ ?_; clear hK K
        refine news_pure rfl ?_ ?_ (fun w0 => ?_) (fun K hK => ?_)
        · (try simp only [List.getElem_toArray]); (try simp only [List.getElem_cons_succ]); (try simp only [List.getElem_cons_zero])
          go_simp; done
        rotate_left
        · (try simp only [List.getElem_toArray]); (try simp only [List.getElem_cons_succ]); (try simp only [List.getElem_cons_zero])
          go_simp; with_reducible rfl
        (try simp only [List.getElem_toArray]); (try simp only [List.getElem_cons_succ]); (try simp only [List.getElem_cons_zero])
        go_simp; refine hK _ ?_; clear hK K
        refine news_pure rfl ?_ ?_ (fun w0 => ?_) (fun K hK => ?_)
        · (try simp only [List.getElem_toArray]); (try simp only [List.getElem_cons_succ]); (try simp only [List.getElem_cons_zero])
          go_simp; done
        rotate_left
        · (try simp only [List.getElem_toArray]); (try simp only [List.getElem_cons_succ]); (try simp only [List.getElem_cons_zero])
          go_simp; with_reducible rfl
        (try simp only [List.getElem_toArray]); (try simp only [List.getElem_cons_succ]); (try simp only [List.getElem_cons_zero])
        go_simp; refine hK _ ?_; clear hK K
        refine news_pure rfl ?_ ?_ (fun w0 => ?_) (fun K hK => ?_)
        · (try simp only [List.getElem_toArray]); (try simp only [List.getElem_cons_succ]); (try simp only [List.getElem_cons_zero])
          go_simp; done
        rotate_left
        · (try simp only [List.getElem_toArray]); (try simp only [List.getElem_cons_succ]); (try simp only [List.getElem_cons_zero])
          go_simp; with_reducible rfl
        (try simp only [List.getElem_toArray]); (try simp only [List.getElem_cons_succ]); (try simp only [List.getElem_cons_zero])
        go_simp; refine hK _ ?_; clear hK K
        refine news_pure rfl ?_ ?_ (fun w0 => ?_) (fun K hK => ?_)
        · (try simp only [List.getElem_toArray]); (try simp only [List.getElem_cons_succ]); (try simp only [List.getElem_cons_zero])
          go_simp; done
        rotate_left
        · (try simp only [List.getElem_toArray]); (try simp only [List.getElem_cons_succ]); (try simp only [List.getElem_cons_zero])
          go_simp; with_reducible rfl
        (try simp only [List.getElem_toArray]); (try simp only [List.getElem_cons_succ]); (try simp only [List.getElem_cons_zero])
        go_simp; refine hK _ ?_; clear hK K
        refine news_pure rfl ?_ ?_ (fun w0 => ?_) (fun K hK => ?_)
        · (try simp only [List.getElem_toArray]); (try simp only [List.getElem_cons_succ]); (try simp only [List.getElem_cons_zero])
          go_simp; done
        rotate_left
        · (try simp only [List.getElem_toArray]); (try simp only [List.getElem_cons_succ]); (try simp only [List.getElem_cons_zero])
          go_simp; with_reducible rfl
        (try simp only [List.getElem_toArray]); (try simp only [List.getElem_cons_succ]); (try simp only [List.getElem_cons_zero])
        go_simp; refine hK _ ?_; clear hK K
        refine news_pure rfl ?_ ?_ (fun w0 => ?_) (fun K hK => ?_)
        · (try simp only [List.getElem_toArray]); (try simp only [List.getElem_cons_succ]); (try simp only [List.getElem_cons_zero])
          go_simp; done
        rotate_left
        · (try simp only [List.getElem_toArray]); (try simp only [List.getElem_cons_succ]); (try simp only [List.getElem_cons_zero])
          go_simp; with_reducible rfl
        (try simp only [List.getElem_toArray]); (try simp only [List.getElem_cons_succ]); (try simp only [List.getElem_cons_zero])
        go_simp; refine hK _ ?_; clear hK K
        refine news_one (newsgo_yes rfl ?_ (fun K hK => ?_))
        · (try simp only [List.getElem_toArray]); (try simp only [List.getElem_cons_succ]); (try simp only [List.getElem_cons_zero])
          go_simp; done
        go_wp2_with fail
        refine (HE1.out _ hdk).mono ?_
        rintro e wa ⟨u1, rfl, ho1, -, hma⟩
        obtain ⟨p1, q1, rfl, -⟩ := ho1.shape
        refine hK _ _ (fun _ => hma) ?_
        clear hK K
        refine news_rd rfl rfl ?_ ((fun y : World => OwnSl y 5 1 (.slice p1 (encB (X.take n)).length q1) (encB (X.take n)).length (u8s (encB (X.take n))))) ((fun _ _ m h => h.mod m (fun _ _ h => h))) (ho1) ?_ (fun w0 h0 => ?_) (fun K hK => ?_)
        · (try simp only [List.getElem_toArray]); (try simp only [List.getElem_cons_succ]); (try simp only [List.getElem_cons_zero])
          go_simp; done
        rotate_left
        · (try simp only [List.getElem_toArray]); (try simp only [List.getElem_cons_succ]); (try simp only [List.getElem_cons_zero])
          have q0 := Hcv2.out _ _ _ _ h0; clear h0; go_simp; with_reducible rfl
        (try simp only [List.getElem_toArray]); (try simp only [List.getElem_cons_succ]); (try simp only [List.getElem_cons_zero])
        go_simp; refine hK _ ?_; clear hK K
        have hda := hdk.trans hma (fun _ _ h => h)
        refine news_one (newsgo_yes rfl ?_ (fun K hK => ?_))
        · (try simp only [List.getElem_toArray]); (try simp only [List.getElem_cons_succ]); (try simp only [List.getElem_cons_zero])
          go_simp; done
        go_wp2_with fail
        refine (HE2.out _ hda).mono ?_
        rintro e wb ⟨u2, rfl, ho2, -, hmb⟩
        obtain ⟨p2, q2, rfl, -⟩ := ho2.shape
        refine hK _ _ (fun _ => hmb) ?_
        clear hK K
        refine news_rd rfl rfl ?_ ((fun y : World => OwnSl y 5 1 (.slice p2 (encB (X.take n)).length q2) (encB (X.take n)).length (u8s (encB (X.take n))))) ((fun _ _ m h => h.mod m (fun _ _ h => h))) (ho2) ?_ (fun w0 h0 => ?_) (fun K hK => ?_)
        · (try simp only [List.getElem_toArray]); (try simp only [List.getElem_cons_succ]); (try simp only [List.getElem_cons_zero])
          go_simp; done
        rotate_left
        · (try simp only [List.getElem_toArray]); (try simp only [List.getElem_cons_succ]); (try simp only [List.getElem_cons_zero])
          have q0 := Hcv2.out _ _ _ _ h0; clear h0; go_simp; with_reducible rfl
        (try simp only [List.getElem_toArray]); (try simp only [List.getElem_cons_succ]); (try simp only [List.getElem_cons_zero])
        go_simp; refine hK _ ?_; clear hK K
        refine news_pure rfl ?_ ?_ (fun w0 => ?_) (fun K hK => ?_)
        · (try simp only [List.getElem_toArray]); (try simp only [List.getElem_cons_succ]); (try simp only [List.getElem_cons_zero])
          go_simp; done
        rotate_left
        · (try simp only [List.getElem_toArray]); (try simp only [List.getElem_cons_succ]); (try simp only [List.getElem_cons_zero])
          go_simp; with_reducible rfl
        (try simp only [List.getElem_toArray]); (try simp only [List.getElem_cons_succ]); (try simp only [List.getElem_cons_zero])
        go_simp; refine hK _ ?_; clear hK K
        refine news_pure rfl ?_ ?_ (fun w0 => ?_) (fun K hK => ?_)
        · (try simp only [List.getElem_toArray]); (try simp only [List.getElem_cons_succ]); (try simp only [List.getElem_cons_zero])
          go_simp; done
        rotate_left
        · (try simp only [List.getElem_toArray]); (try simp only [List.getElem_cons_succ]); (try simp only [List.getElem_cons_zero])
          go_simp; with_reducible rfl
        (try simp only [List.getElem_toArray]); (try simp only [List.getElem_cons_succ]); (try simp only [List.getElem_cons_zero])
        go_simp; refine hK _ ?_; clear hK K
        refine news_pure rfl ?_ ?_ (fun w0 => ?_) (fun K hK => ?_)
        · (try simp only [List.getElem_toArray]); (try simp only [List.getElem_cons_succ]); (try simp only [List.getElem_cons_zero])
          go_simp; done
        rotate_left
        · (try simp only [List.getElem_toArray]); (try simp only [List.getElem_cons_succ]); (try simp only [List.getElem_cons_zero])
          go_simp; with_reducible rfl
        (try simp only [List.getElem_toArray]); (try simp only [List.getElem_cons_succ]); (try simp only [List.getElem_cons_zero])
        go_simp; refine hK _ ?_; clear hK K
        refine news_nil ?_
        have hmE := Hm0k.out.trans (hda.trans hmb (fun _ _ h => h)) (fun _ _ h => h)
        have HmE := Lib.hid hmE
        clear hmE hdk hda hma hmb ho1 ho2
        go_wp2_with fail
        go_ret
        exact ⟨rfl, HmE.out⟩
end Go.Proofs.YtloplmaekonenaaGreatDoor
