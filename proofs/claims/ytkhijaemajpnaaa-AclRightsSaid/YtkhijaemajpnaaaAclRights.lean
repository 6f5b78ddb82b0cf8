/-
  AclRights: a rule may be just as the document says.
-/
import Derived.Test.YtkhijaemajpnaaaAclr
import Derived.Test.YtkhijaemajpnaaaAcll
import Derived.Test.YtkhijaemajpnaaaAclfit
import Derived.Deep.DeepCutAuto
import Derived.Deep.CutBlock
namespace Go.Proofs.Ytkhijaemajpnaaa
open Go.RowKit

def Ru.whoB (r : Ru) : Bool := decide (0 ≤ r.tenant) && (decide (r.tenant < 4) && isName r.who)
def Ru.wantB (r : Ru) : Bool :=
  if r.kind = 0 then r.whoB && (decide (0 ≤ r.broker) && decide (r.broker < 6)) else if r.kind = 1 ∨ r.kind = 2 then r.whoB && filRight r.sc r.cs else
  if r.kind = 3 then r.whoB && (isName r.name && scRight r.sc) else if r.kind = 4 then decide (0 ≤ r.at_) else false
theorem Ru.right_want (r : Ru) : r.rightB = r.wantB := by
  unfold Ru.rightB Ru.wantB Ru.whoB
  by_cases h4 : r.kind = 4
  · rw [if_pos h4, if_neg (by omega), if_neg (by omega), if_neg (by omega), if_pos h4]
  rw [if_neg h4]
  by_cases hw : r.tenant < 0 ∨ 4 ≤ r.tenant ∨ isName r.who = false
  · rw [if_pos (.inr (.inr hw))]
    have : (decide (0 ≤ r.tenant) && (decide (r.tenant < 4) && isName r.who)) = false := by
      rcases hw with h | h | h
      · rw [decide_eq_false (by omega), Bool.false_and]
      · rw [decide_eq_false (p := r.tenant < 4) (by omega), Bool.false_and, Bool.and_false]
      · rw [h, Bool.and_false, Bool.and_false]
    rw [this]
    simp only [Bool.false_and]
    split
    · rfl
    · split
      · rfl
      · split
        · rfl
        · rfl
  · have h1 : 0 ≤ r.tenant := by omega
    have h2 : r.tenant < 4 := by omega
    have h3 : isName r.who = true := by
      cases h : isName r.who with
      | true => rfl
      | false => exact absurd (.inr (.inr h)) hw
    have : (decide (0 ≤ r.tenant) && (decide (r.tenant < 4) && isName r.who)) = true := by rw [decide_eq_true h1, decide_eq_true h2, h3]; rfl
    rw [this]
    simp only [Bool.true_and]
    by_cases hk : r.kind < 0 ∨ 4 < r.kind
    · rw [if_pos (hk.elim .inl (fun h => .inr (.inl h))), if_neg (by omega), if_neg (by omega), if_neg (by omega), if_neg h4]
    · have hn : ¬ (r.kind < 0 ∨ 4 < r.kind ∨ r.tenant < 0 ∨ 4 ≤ r.tenant ∨ isName r.who = false) := by
        rintro (h | h | h)
        · exact hk (.inl h)
        · exact hk (.inr h)
        · exact hw h
      rw [if_neg hn]
      by_cases h0 : r.kind = 0
      · rw [if_pos h0, if_pos h0]
      · rw [if_neg h0, if_neg h0]
        by_cases h3 : r.kind = 3
        · rw [if_pos h3, if_neg (by omega), if_pos h3]
        · rw [if_neg h3, if_pos (by omega)]

theorem aclw (r : Ru) : (r.rightB == r.wantB) = true := by rw [Ru.right_want]; exact beq_self_eq_true _

set_option maxRecDepth 20000 in
set_option maxHeartbeats 8000000 in
theorem acl_rights_walk (r : Ru) (w : World) (h : r.ok w) : Calls Try.prog 3 #[.agg r.cells.toArray] w fun e w' => e = .returned (.bool true) ∧ Mod (fun _ => False) w w' := by
  obtain ⟨wa, hwa⟩ : ∃ wa : World, w.alloc (.cells r.cells.toArray 26) = wa := ⟨_, rfl⟩
  have hmwa : Mod (fun _ => False) w wa := hwa ▸ (Mod.refl (fun _ => False) w).alloc _
  have hgwa := heap_alloc_new w (.cells r.cells.toArray 26)
  rw [hwa] at hgwa
  have hzwa : wa.heap.size = w.heap.size + 1 := by rw [← hwa]; simp
  have hft := fit10_at wa
  have Hwa := Lib.hid hwa
  have Hmwa := Lib.hid hmwa
  have Hgwa := Lib.hid hgwa
  have H := Lib.hid h
  have Hft := Lib.hid hft
  clear hwa hmwa hgwa h hft hzwa
  go_enter Try.func3, Try.ntmps3
  go_wp2_with (first | (rw [show w.alloc _ = wa from Hwa.out]) | fail)
  refine Hft.out.mono ?_
  rintro e w1 ⟨rfl, hm1⟩
  have hg1 := hm1.heap Hgwa.out (fun h => h)
  obtain ⟨wb, hwb⟩ : ∃ wb : World, w1.alloc (.cells r.cells.toArray 26) = wb := ⟨_, rfl⟩
  have hmwb : Mod (fun _ => False) w1 wb := hwb ▸ (Mod.refl (fun _ => False) w1).alloc _
  have hgwb := heap_alloc_new w1 (.cells r.cells.toArray 26)
  rw [hwb] at hgwb
  have hzwb : wb.heap.size = w1.heap.size + 1 := by rw [← hwb]; simp
  have hwb' : w1.alloc (.cells #[.int .i64 r.kind, .int .i64 r.tenant, .string r.who, .int .i64 r.broker, .string r.sc, .slice r.ca r.cs.length r.cc, .string r.name, .int .i64 r.at_] 26) = wb := hwb
  have hm0b := (Hmwa.out.trans hm1 (fun _ _ h => h)).trans hmwb (fun _ _ h => h)
  have hgb := hmwb.heap hg1 (fun h => h)
  have hsl : RuSl wb (.slice (some ⟨w1.heap.size, 0, none⟩) 1 1) [r] := ⟨⟨rfl, _, _, rfl, Nat.le_refl _, (fun h => by cases h), fun b hb => ⟨_, 0, (by cases hb; rfl), fun j u hu => by
    rw [Nat.zero_add]
    have h2 : (rus [r])[j]? = some u := hu
    exact cell_of hgwb (by simpa [rus] using h2)⟩⟩, fun r' hr => by
      have : r' = r := by simpa using hr
      rw [this]; exact H.out.mod hm0b⟩
  have hli := light10_at wb _ [r] hsl (by show (1 : Nat) ≤ _; decide)
  have Hg1 := Lib.hid hg1
  have Hwb' := Lib.hid hwb'
  have Hm0b := Lib.hid hm0b
  have Hgb := Lib.hid hgb
  have Hli := Lib.hid hli
  clear hg1 hwb' hm0b hgb hli hwb hmwb hgwb hzwb hsl hm1 Hft
  go_wp2_with (first | ((with_reducible refine wpList_load_lit 26 (.tmp 1) ?_); refine ⟨w.heap.size, 0, rfl, [.int .i64 r.kind, .int .i64 r.tenant, .string r.who, .int .i64 r.broker, .string r.sc, .slice r.ca r.cs.length r.cc, .string r.name, .int .i64 r.at_], CellsAt.row Hg1.out, by kernel_rfl, by kernel_rfl, ?_⟩) | (rw [Hwb'.out]) | fail)
  refine Hli.out.mono ?_
  rintro e w2 ⟨b, rfl, -, hm2⟩
  have hm02 := Hm0b.out.trans hm2 (fun _ _ h => h)
  have hg2 := hm2.heap Hgb.out (fun h => h)
  have Hm02 := Lib.hid hm02
  have Hg2 := Lib.hid hg2
  clear hm02 hg2 hm2 Hli
  cases b with
  | false =>
    go_wp2
    go_ret
    exact ⟨rfl, Hm02.out⟩
  | true =>
  have c0 : w2.cell? ⟨w.heap.size, 0, none⟩ = some (.int .i64 r.kind) := cell_of Hg2.out rfl
  have c1 : w2.cell? ⟨w.heap.size, 1, none⟩ = some (.int .i64 r.tenant) := cell_of Hg2.out rfl
  have c2 : w2.cell? ⟨w.heap.size, 2, none⟩ = some (.string r.who) := cell_of Hg2.out rfl
  go_upto_region 5 with fail
  have hnw := fun wx => name_at r.who (by have := H.out.who; omega) wx
  have Hnw := Lib.hid hnw
  clear hnw
  go_cut [3] (fun s3 wx => s3 = .bool r.whoB ∧ wx = w2)
  case first =>
    by_cases h1 : 0 ≤ r.tenant
    · by_cases h2 : r.tenant < 4
      · have e : r.whoB = isName r.who := by unfold Ru.whoB; rw [decide_eq_true h1, decide_eq_true h2]; rfl
        have E := Lib.hid e
        clear e
        go_wp2_with fail
        refine (Hnw.out w2).mono ?_
        rintro e w' ⟨rfl, rfl⟩
        go_wp2_with fail
        go_meet
        case rel => exact ⟨by rw [E.out], rfl⟩
      · have h2' : 4 ≤ r.tenant := by omega
        have e : r.whoB = false := by unfold Ru.whoB; rw [decide_eq_false h2, Bool.false_and, Bool.and_false]
        have E := Lib.hid e
        clear e h2
        go_wp2_with fail
        go_meet
        case rel => exact ⟨by rw [E.out], rfl⟩
    · have h1' : r.tenant < 0 := by omega
      have e : r.whoB = false := by unfold Ru.whoB; rw [decide_eq_false h1, Bool.false_and]
      have E := Lib.hid e
      clear e h1
      go_wp2_with fail
      go_meet
      case rel => exact ⟨by rw [E.out], rfl⟩
  case rest =>
    obtain ⟨rfl, rfl⟩ := hcut
    obtain ⟨wk, rfl⟩ : ∃ wk : World, wk = wc := ⟨_, rfl⟩
    have c3 : wk.cell? ⟨w.heap.size, 3, none⟩ = some (.int .i64 r.broker) := cell_of Hg2.out rfl
    have c4 : wk.cell? ⟨w.heap.size, 4, none⟩ = some (.string r.sc) := cell_of Hg2.out rfl
    have c5 : wk.cell? ⟨w.heap.size, 5, none⟩ = some (.slice r.ca r.cs.length r.cc) := cell_of Hg2.out rfl
    have c6 : wk.cell? ⟨w.heap.size, 6, none⟩ = some (.string r.name) := cell_of Hg2.out rfl
    have c7 : wk.cell? ⟨w.heap.size, 7, none⟩ = some (.int .i64 r.at_) := cell_of Hg2.out rfl
    obtain ⟨W, hW⟩ : ∃ W, r.whoB = W := ⟨_, rfl⟩
    rw [hW]
    have HW := Lib.hid hW
    clear hW
    go_upto_block 0 with fail
    go_cut [4, 26, 39, 48, 62] (fun s4 _ _ _ _ wx => s4 = .bool r.wantB ∧ Mod (fun _ => False) wk wx)
    case first =>
      have hnn := name_at r.name (by have := H.out.name; omega) wk
      have hsr := scope_right r.sc (by have := H.out.sc; omega) wk
      have hokc := H.out.mod Hm02.out
      have hfr := filter_right wk r.sc r.cv r.cs hokc.rd (by have := hokc.len; omega) (by have := hokc.sc; omega) (fun c hc => by have := (hokc.cname c hc).1; omega)
      have hfr : Calls Try.prog 11 #[.agg #[.string r.sc, .slice r.ca r.cs.length r.cc]] wk fun e w' => e = .returned (.bool (filRight r.sc r.cs)) ∧ Mod (fun _ => False) wk w' := hfr
      have hwant : r.wantB = _ := rfl
      conv at hwant => rhs; unfold Ru.wantB
      rw [HW.out] at hwant
      have Hnn := Lib.hid hnn
      have Hsr := Lib.hid hsr
      have Hfr := Lib.hid hfr
      have Hwant := Lib.hid hwant
      clear hnn hsr hfr hwant hokc
      cases hk0 : r.kind == 0 with
      | true =>
        have e : r.wantB = _ := Hwant.out.trans (if_pos (beq_iff_eq.1 hk0))
        have E := Lib.hid e
        clear e
        cases W with
        | false =>
          go_wp2_with fail
          go_meet
          case rel => exact ⟨by rw [E.out]; rfl, Mod.refl _ _⟩
        | true =>
          by_cases hb : 0 ≤ r.broker
          · have E2 := Lib.hid (show r.wantB = decide (r.broker < 6) by rw [E.out, decide_eq_true hb]; rfl)
            go_wp2_with fail
            go_meet
            case rel => exact ⟨by rw [E2.out], Mod.refl _ _⟩
          · have E2 := Lib.hid (show r.wantB = false by rw [E.out, decide_eq_false hb]; rfl)
            have hb' : r.broker < 0 := by omega
            clear hb
            go_wp2_with fail
            go_meet
            case rel => exact ⟨by rw [E2.out], Mod.refl _ _⟩
      | false =>
      have hk0' : ¬ r.kind = 0 := by simpa using hk0
      have e1 : r.wantB = _ := Hwant.out.trans (if_neg hk0')
      have E1 := Lib.hid e1
      clear e1
      cases hk1 : r.kind == 1 with
      | true =>
        have e : r.wantB = _ := E1.out.trans (if_pos (.inl (beq_iff_eq.1 hk1)))
        have E := Lib.hid e
        clear e hk0'
        cases W with
        | false =>
          go_wp2_with fail
          go_meet
          case rel => exact ⟨by rw [E.out]; rfl, Mod.refl _ _⟩
        | true =>
          go_wp2_with fail
          refine Hfr.out.mono ?_
          rintro e w' ⟨rfl, hm⟩
          have Hm := Lib.hid hm
          clear hm
          go_wp2_with fail
          go_meet
          case rel => exact ⟨by rw [E.out]; rfl, Hm.out⟩
      | false =>
      cases hk2 : r.kind == 2 with
      | true =>
        have e : r.wantB = _ := E1.out.trans (if_pos (.inr (beq_iff_eq.1 hk2)))
        have E := Lib.hid e
        clear e hk0'
        cases W with
        | false =>
          go_wp2_with fail
          go_meet
          case rel => exact ⟨by rw [E.out]; rfl, Mod.refl _ _⟩
        | true =>
          go_wp2_with fail
          refine Hfr.out.mono ?_
          rintro e w' ⟨rfl, hm⟩
          have Hm := Lib.hid hm
          clear hm
          go_wp2_with fail
          go_meet
          case rel => exact ⟨by rw [E.out]; rfl, Hm.out⟩
      | false =>
      have hk12 : ¬ (r.kind = 1 ∨ r.kind = 2) := by
        rintro (h | h)
        · rw [h] at hk1; cases hk1
        · rw [h] at hk2; cases hk2
      have e2 : r.wantB = _ := E1.out.trans (if_neg hk12)
      have E2 := Lib.hid e2
      clear e2 hk12 hk0'
      cases hk3 : r.kind == 3 with
      | true =>
        have e : r.wantB = _ := E2.out.trans (if_pos (beq_iff_eq.1 hk3))
        have E := Lib.hid e
        clear e
        cases W with
        | false =>
          go_wp2_with fail
          go_meet
          case rel => exact ⟨by rw [E.out]; rfl, Mod.refl _ _⟩
        | true =>
          cases hn : isName r.name with
          | false =>
            have E3 := Lib.hid (show r.wantB = false by rw [E.out, hn]; rfl)
            rw [hn] at Hnn
            clear hn
            go_wp2_with fail
            refine Hnn.out.mono ?_
            rintro e w' ⟨rfl, rfl⟩
            go_wp2_with fail
            go_meet
            case rel => exact ⟨by rw [E3.out], Mod.refl _ _⟩
          | true =>
            have E3 := Lib.hid (show r.wantB = scRight r.sc by rw [E.out, hn]; rfl)
            rw [hn] at Hnn
            clear hn
            go_wp2_with fail
            refine Hnn.out.mono ?_
            rintro e w' ⟨rfl, rfl⟩
            go_wp2_with fail
            refine Hsr.out.mono ?_
            rintro e w' ⟨rfl, hm⟩
            have Hm := Lib.hid hm
            clear hm
            go_wp2_with fail
            go_meet
            case rel => exact ⟨by rw [E3.out], Hm.out⟩
      | false =>
      have hk3' : ¬ r.kind = 3 := by simpa using hk3
      have e3 : r.wantB = _ := E2.out.trans (if_neg hk3')
      have E3 := Lib.hid e3
      clear e3 hk3'
      cases hk4 : r.kind == 4 with
      | true =>
        have e : r.wantB = _ := E3.out.trans (if_pos (beq_iff_eq.1 hk4))
        have E := Lib.hid e
        clear e
        go_wp2_with fail
        go_meet
        case rel => exact ⟨by rw [E.out], Mod.refl _ _⟩
      | false =>
        have hk4' : ¬ r.kind = 4 := by simpa using hk4
        have e : r.wantB = _ := E3.out.trans (if_neg hk4')
        have E := Lib.hid e
        clear e hk4'
        go_wp2_with fail
        go_meet
        case rel => exact ⟨by rw [E.out], Mod.refl _ _⟩
    case rest =>
      obtain ⟨rfl, hm⟩ := hcut
      have hg3 := hm.heap Hg2.out (fun h => h)
      have hm3 := Hm02.out.trans hm (fun _ _ h => h)
      have hac := acl_right r wc (H.out.mod hm3)
      have Haw := Lib.hid (aclw r)
      have Hg3 := Lib.hid hg3
      have Hm3 := Lib.hid hm3
      have Hac := Lib.hid hac
      clear hg3 hm3 hac hm c0 c1 c2 c3 c4 c5 c6 c7
      go_wp2_with (first | ((with_reducible refine wpList_load_lit 26 (.tmp 1) ?_); refine ⟨w.heap.size, 0, rfl, r.cells, CellsAt.row Hg3.out, by kernel_rfl, by kernel_rfl, ?_⟩) | fail)
      refine Hac.out.mono ?_
      rintro e w5 ⟨rfl, hm5⟩
      have Hm5 := Lib.hid (Hm3.out.trans hm5 (fun _ _ h => h))
      clear hm5
      go_wp2
      go_ret
      refine ⟨?_, Hm5.out⟩
      show Ending.returned (.bool (r.rightB == r.wantB)) = _
      rw [Haw.out]
end Go.Proofs.Ytkhijaemajpnaaa
