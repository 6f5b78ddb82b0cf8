/-
  ScriptAny.
-/
import Derived.Test.YtmlnklbjjnjplaaFits
namespace Go.Proofs.Ytmlnklbjjnjplaa
open Go.RowKit

set_option maxRecDepth 20000 in
set_option maxHeartbeats 4000000 in
theorem sany_walk (v : Value) (G : Nat) (bs : List UInt8) (w : World) (hb : BytesAt w G v bs) (hG : G ≤ w.heap.size) (hmx : bs.length ≤ maxLen) :
    Calls Try.prog 3 #[v] w fun e w' => e = .returned (.bool true) ∧ Mod (fun _ => False) w w' := by
  obtain ⟨a, c, rfl, hac, ha0, hcells⟩ := hb.ex
  have hmx' : (bs.length : Int) ≤ 9223372036854775807 := by simp only [maxLen] at hmx; omega
  have hac' : (bs.length : Int) ≤ c := by omega
  have hf := fit19_at w
  have Hf := Lib.hid hf
  have Hb := Lib.hid hb
  clear hf hb hcells ha0 hmx
  go_enter Try.func3, Try.ntmps3
  go_wp2_with fail
  refine Hf.out.mono ?_
  rintro e w1 ⟨rfl, hm1, hs1⟩
  by_cases hbig : bs.length ≤ 2000
  rotate_left
  · have hbig' : (2000 : Int) < bs.length := by omega
    have Hm1 := Lib.hid hm1
    clear hm1
    go_wp2
    all_goals (go_ret; exact ⟨rfl, Hm1.out⟩)
  have hbig' : (bs.length : Int) ≤ 2000 := by omega
  have hd := decode_at w1 _ G bs (Hb.out.mod hm1 (fun _ h => h)) (by omega) hbig
  have Hm1 := Lib.hid hm1
  have Hd := Lib.hid hd
  clear hm1 hd Hf
  go_wp2_with fail
  refine Hd.out.mono ?_
  rintro e w2 ⟨l, t, v2, rfl, hdec, hend, hops, hm2⟩
  obtain ⟨hbk, hfit, hlen⟩ := hdec.back
  rw [List.length_map] at hlen
  have hencl : (encB l).length ≤ bs.length := by
    have := congrArg List.length hbk
    rw [List.length_append] at this
    unfold encB
    omega
  have he := encode_at w2 v2 l _ hops (fun p hp => hfit _ (List.mem_map.2 ⟨p, hp, rfl⟩)) (by omega) (by omega)
  have hpre : bs.take (encB l).length = encB l := by
    rw [hbk]
    exact List.take_left
  obtain ⟨va, vc, rfl, hvc⟩ := hops.own.shape
  have hll : (l.length : Int) ≤ bs.length := by omega
  have hm02 := Hm1.out.trans hm2 (fun _ _ h => h)
  have He := Lib.hid he
  have Hm02 := Lib.hid hm02
  have Hpre := Lib.hid hpre
  clear he hm02 hpre hm2 hdec hend hops hbk hfit hlen Hd Hm1 hvc
  go_wp2_with fail
  refine He.out.mono ?_
  rintro e w3 ⟨v3, rfl, ho3, hm3⟩
  obtain ⟨ca, cc, rfl, hcc⟩ := ho3.shape
  have hm03 := Hm02.out.trans hm3 (fun _ _ h => h)
  obtain ⟨n, hn⟩ : ∃ n, (encB l).length = n := ⟨_, rfl⟩
  rw [hn] at hencl ho3 hcc ⊢
  have hn' : (n : Int) ≤ bs.length := by omega
  have hnc : n ≤ c := by omega
  have hb3 := Hb.out.mod hm03 (fun _ h => h)
  have hbt := hb3.take hencl
  have hpr := Hpre.out
  rw [hn] at hpr
  rw [hpr] at hbt
  have hcv2 : ∀ y : World, OwnSl y 5 1 (.slice ca n cc) n (u8s (encB l)) → (convert 22 9 (.slice ca n cc)).run Try.prog y = .ok (.string (str (encB l))) y := fun y hy => conv_own (bs := encB l) (by rw [hn]; exact hy)
  have hcv1 : ∀ y : World, BytesAt y G (.slice a n c) (encB l) → (convert 22 9 (.slice a n c)).run Try.prog y = .ok (.string (str (encB l))) y := fun y hy => by have := conv_at (bs := encB l) (by rw [hn]; exact hy); rw [hn] at this; exact this
  have hse : ((str (encB l)).toList == (str (encB l)).toList) = true := beq_self_eq_true _
  have Hm03 := Lib.hid hm03
  have Ho3 := Lib.hid ho3
  have Hbt := Lib.hid hbt
  have Hcv1 := Lib.hid hcv1
  have Hcv2 := Lib.hid hcv2
  clear hm03 ho3 hbt hcv1 hcv2 hm3 He Hm02 Hpre hb3 hpr
  go_wp2_with fail
  have hS : BytesAt w3.drew G (.slice a n c) (encB l) ∧ OwnSl w3.drew 5 1 (.slice ca n cc) n (u8s (encB l)) := ⟨Hbt.out.mod (Mod.refl (fun _ => False) w3).drew (fun _ h => h), Ho3.out.drew⟩
  refine wp_region_script [.rd 0, .rd 1, .rd 2, .rd 3, .rd 4, .rd 5, .rd 6, .rd 7, .rd 8, .rd 9, .rd 10, .rd 11, .rd 12, .rd 13, .rd 14, .rd 15, .rd 16, .rd 17, .rd 18, .rd 19, .rd 20, .rd 21, .rd 22] [0, 1, 2, 3, 4, 5, 6, 7, 8, 9, 10, 11, 12, 13, 14, 15, 16, 17, 18, 19, 20, 21, 22] (fun y : World => BytesAt y G (.slice a n c) (encB l) ∧ OwnSl y 5 1 (.slice ca n cc) n (u8s (encB l))) (by kernel_rfl) (by kernel_rfl) (fun _ _ d _ _ h => (by cases d <;> exact h)) ?_
  iterate 23
    refine walk_rd rfl ?_ (fun _ => hS) ?_ (fun w0 h0 => ?_) (fun K hK => ?_)
    · (try simp only [List.getElem_toArray]); (try simp only [List.getElem_cons_succ]); (try simp only [List.getElem_cons_zero])
      go_simp; done
    rotate_left
    · (try simp only [List.getElem_toArray]); (try simp only [List.getElem_cons_succ]); (try simp only [List.getElem_cons_zero])
      first
        | (obtain ⟨h1, h2⟩ := h0 rfl; have q1 := Hcv1.out _ h1; have q2 := Hcv2.out _ h2; clear h0 h1 h2; go_simp; with_reducible rfl)
        | (clear h0; go_simp; with_reducible rfl)
    (try simp only [List.getElem_toArray]); (try simp only [List.getElem_cons_succ]); (try simp only [List.getElem_cons_zero])
    go_simp; refine hK _ ?_; clear hK K
  refine walk_nil ?_
  go_wp2_with fail
  go_ret
  exact ⟨rfl, Hm03.out.drew⟩
end Go.Proofs.Ytmlnklbjjnjplaa
