/-
  The index's law, in the plain: what Norm leaves asks for the same.
  gazettelaw13.fit.
-/
import Derived.Test.YtloplmaekonenaaGreatDoorZa37
import Derived.Test.YtloplmaekonenaaGreatDoorZa13
import Derived.Test.YtloplmaekonenaaGreatDoorZa14
import Derived.Test.YtloplmaekonenaaGreatDoorZa2
import Derived.Test.YtloplmaekonenaaGreatDoorZa5
namespace Go.Proofs.YtloplmaekonenaaGreatDoor
set_option maxRecDepth 20000
open Go.RowKit

/-! What is needless: each condition of a list follows from one that is kept. -/
/-! Counting: of unlike names a condition is met at most once. -/
/-- What a condition must be like. -/
structure Cnd.whole (c : Cnd) : Prop where
  op : 0 ≤ c.op ∧ c.op ≤ 7
  kind : 0 ≤ c.v.kind ∧ c.v.kind ≤ 3
  num : c.v.num < 2 ^ 64
end Go.Proofs.YtloplmaekonenaaGreatDoor

namespace Go.Proofs.YtloplmaekonenaaGreatDoor
set_option maxRecDepth 20000
open Go.RowKit

def fitI : List (Int × Fil) := [(7, (⟨#[97]⟩, []))]
theorem fit_mat : matL fitI ⟨#[97, 47, 98]⟩ [] = [7] := by decide +kernel
theorem fit_right : filRight ⟨#[]⟩ [] = true := by decide +kernel
theorem normC_nil : normC [] = [] := by decide +kernel
set_option maxHeartbeats 8000000 in
theorem fit13_at (w0 w : World) (hl : Laid w0 w) : Calls Tryz.prog 13 #[] w fun e w' => e = .returned (.bool true) ∧ Mod (fun _ => False) w w' := by
  have hnew := inew_at w
  have Hl := Lib.hid hl
  have Hnew := Lib.hid hnew
  clear hl hnew
  go_enter Tryz.func13, Tryz.ntmps13
  go_wp2_with fail
  refine Hnew.out.mono ?_
  rintro e w1 ⟨b, own, rfl, hix, hown, hm1⟩
  have hadd := iadd_at w0 w1 (Hl.out.mod0 hm1) b own _ [] 0 hix (by decide) (fun k hk => Nat.le_trans Hl.out.size (hown k hk).1) 7 (by decide) ⟨#[97]⟩ (.slice none 0 0) [] (OwnSl.nil w1 0 7).rd (by decide) (fun c hc => (by cases hc)) (by decide)
  have Hix := Lib.hid hix
  have Hown := Lib.hid hown
  have Hm1 := Lib.hid hm1
  have Hadd := Lib.hid hadd
  clear hix hown hm1 hadd
  go_wp2_with fail
  refine Hadd.out.mono ?_
  rintro e w2 (⟨h, -⟩ | ⟨-, rfl, own', C', hix2, ho1, ho2, -, hm2⟩)
  · exact absurd rfl h
  rw [normC_nil] at hix2
  have hix2' : Idx w2 b own' C' fitI 20 := hix2
  have hmw2 : Mod (fun _ => False) w w2 := Hm1.out.upon hm2 (fun k hk => .inr (Hown.out k hk).1)
  have hmat := imatch_at w2 b own' C' fitI 20 hix2' (by decide) ⟨#[97, 47, 98]⟩ (by decide) (.slice none 0 0) [] (OwnSl.nil w2 0 6).rd (by decide) (fun c hc => (by cases hc))
  unfold IMatPost at hmat
  rw [fit_mat] at hmat
  have Hix2 := Lib.hid hix2
  have Hix2' := Lib.hid hix2'
  have Ho1 := Lib.hid ho1
  have Ho2 := Lib.hid ho2
  have Hm2 := Lib.hid hm2
  have Hmw2 := Lib.hid hmw2
  have Hmat := Lib.hid hmat
  clear hix2 hix2' ho1 ho2 hm2 hmw2 hmat
  go_wp2_with fail
  refine Hmat.out.mono ?_
  rintro e w3 ⟨v, rfl, hvo, -, hm3⟩
  obtain ⟨va, vc, hva, hvc⟩ := hvo.shape
  obtain rfl : v = .slice va 1 vc := hva
  obtain ⟨vg, vf, rfl, hcell⟩ := rd_int (l := [7]) (j := 0) hvo.rd rfl
  rw [Nat.add_zero] at hcell
  have hln := ilen_at w3 b own' C' fitI 20 (Hix2'.out.mod hm3 (fun _ _ h => h))
  have hfr := filter_right w3 ⟨#[]⟩ (.slice none 0 0) [] (OwnSl.nil w3 0 7).rd (by decide) (by decide) (fun c hc => (by cases hc))
  rw [fit_right] at hfr
  have Hvo := Lib.hid hvo
  have Hm3 := Lib.hid hm3
  have Hln := Lib.hid hln
  have Hfr := Lib.hid hfr
  clear hvo hm3 hln hfr
  go_wp2_with fail
  refine Hln.out.mono ?_
  rintro e w4 ⟨rfl, hw4⟩
  obtain rfl := hw4
  rw [show ((fitI.length : Nat) : Int) = 1 from rfl]
  go_wp2_with fail
  refine Hfr.out.mono ?_
  rintro e w5 ⟨rfl, hm5⟩
  have Hm5 := Lib.hid hm5
  clear hm5
  go_wp2_with fail
  go_ret
  exact ⟨rfl, (Hmw2.out.trans Hm3.out (fun _ _ h => h)).trans Hm5.out (fun _ _ h => h)⟩
end Go.Proofs.YtloplmaekonenaaGreatDoor
