/-
  Package event: Name.
-/
import Derived.Test.YtpfnemkfbelpcaaValue
namespace Go.Proofs.Ytpfnemkfbelpcaa
set_option maxRecDepth 20000
open Go.RowKit

/-- May byte number i be one of a name? -/
def nameAt (i : Nat) (b : UInt8) : Bool := (decide (97 ≤ b.toNat) && decide (b.toNat ≤ 122)) || (decide (0 < i) && decide (48 ≤ b.toNat) && decide (b.toNat ≤ 57))
def isName (s : ByteArray) : Bool := (s.data.toList.zipIdx.all fun x => nameAt x.2 x.1) && (decide (s.size ≠ 0) && decide (s.size ≤ 12))

theorem isName_no {s : ByteArray} {k : Nat} {b : UInt8} (h : s.data.toList[k]? = some b) (hb : nameAt k b = false) : isName s = false := by
  unfold isName
  have : (s.data.toList.zipIdx.all fun x => nameAt x.2 x.1) = false := by
    rw [List.all_eq_false]
    exact ⟨(b, k), List.mem_zipIdx_iff_getElem?.2 h, by simp [hb]⟩
  rw [this, Bool.false_and]
theorem isName_all {s : ByteArray} (h : ∀ j b, j < s.size → s.data.toList[j]? = some b → nameAt j b = true) : isName s = (decide (s.size ≠ 0) && decide (s.size ≤ 12)) := by
  unfold isName
  have : (s.data.toList.zipIdx.all fun x => nameAt x.2 x.1) = true := by
    rw [List.all_eq_true]
    rintro ⟨b, k⟩ hm
    have hb := List.mem_zipIdx_iff_getElem?.1 hm
    have hk := (List.getElem?_eq_some_iff.1 hb).1
    exact h k b hk hb
  rw [this, Bool.true_and]

theorem name_at (s : ByteArray) (hs : s.size ≤ 9223372036854775807) (w : World) : Calls Try.prog 25 #[.string s] w fun e w' => e = .returned (.bool (isName s)) ∧ w' = w := by
  have hs' : (s.size : Int) ≤ 9223372036854775807 := by omega
  have Hs := Lib.hid hs
  clear hs
  obtain ⟨R, hR⟩ : ∃ R, isName s = R := ⟨_, rfl⟩
  rw [hR]
  have HR := Lib.hid hR
  clear hR
  go_enter Try.func25, Try.ntmps25
  go_wp2_with fail
  go_loopw [6] (fun i wr => ∃ k : Nat, k ≤ s.size ∧ i = .int .i64 k ∧ wr = w ∧ (∀ j b, j < k → s.data.toList[j]? = some b → nameAt j b = true)) (fun i _ => s.size - (intOf i).toNat)
  case atStart => exact ⟨0, Nat.zero_le _, rfl, rfl, fun j b hj => by omega⟩
  case round =>
    obtain ⟨k, hk, rfl, hw, hall⟩ := hrel
    subst hw
    by_cases hlt : k < s.size
    · have hlt' : (k : Int) < s.size := by omega
      have Hall := Lib.hid hall
      clear hall
      have hsk : s.data.toList[k]? = some s[k] := by
        rw [List.getElem?_eq_getElem (show k < s.data.toList.length from hlt)]
        rfl
      have Hsk := Lib.hid hsk
      clear hsk
      have hcase : ((97 : Int) ≤ (s[k].toNat : Int) ∧ (s[k].toNat : Int) ≤ 122) ∨ (((s[k].toNat : Int) < 97 ∨ (122 : Int) < (s[k].toNat : Int)) ∧ 0 < k ∧ (48 : Int) ≤ (s[k].toNat : Int) ∧ (s[k].toNat : Int) ≤ 57) ∨ ((s[k].toNat : Int) < 97 ∧ k = 0) ∨ ((122 : Int) < (s[k].toNat : Int) ∧ k = 0) ∨ (0 < k ∧ (s[k].toNat : Int) < 48) ∨ (0 < k ∧ (57 : Int) < (s[k].toNat : Int) ∧ (s[k].toNat : Int) < 97) ∨ (0 < k ∧ (122 : Int) < (s[k].toNat : Int)) := by omega
      rcases hcase with ⟨h1, h2⟩ | ⟨h1, h2, h3, h4⟩ | ⟨h1, h2⟩ | ⟨h1, h2⟩ | ⟨h1, h2⟩ | ⟨h1, h2, h3⟩ | ⟨h1, h2⟩
      · go_wp2
        go_roundw
        case rel =>
          refine ⟨k + 1, by omega, by go_num, trivial, fun j b hj hb => ?_⟩
          rcases Nat.lt_succ_iff_lt_or_eq.1 hj with hj | hj
          · exact Hall.out j b hj hb
          · subst hj
            rw [Hsk.out] at hb
            cases hb
            unfold nameAt
            simp only [Bool.or_eq_true, Bool.and_eq_true, decide_eq_true_eq]
            omega
        case measure => simp [intOf]; omega
      · have h0' : (0 : Int) < k := by omega
        have h5 : (s[k].toNat : Int) < 97 := by omega
        clear h1
        go_wp2
        go_roundw
        case rel =>
          refine ⟨k + 1, by omega, by go_num, trivial, fun j b hj hb => ?_⟩
          rcases Nat.lt_succ_iff_lt_or_eq.1 hj with hj | hj
          · exact Hall.out j b hj hb
          · subst hj
            rw [Hsk.out] at hb
            cases hb
            unfold nameAt
            simp only [Bool.or_eq_true, Bool.and_eq_true, decide_eq_true_eq]
            omega
        case measure => simp [intOf]; omega
      · subst h2
        go_wp2
        all_goals first
          | (exfalso; omega)
          | (go_ret
             refine ⟨congrArg (fun b => Ending.returned (.bool b)) (((HR.out).symm.trans (isName_no Hsk.out ?_)).symm), rfl⟩
             unfold nameAt
             simp only [Bool.or_eq_false_iff, Bool.and_eq_false_iff, decide_eq_false_iff_not]
             omega)
      · subst h2
        have h5 : (97 : Int) ≤ (s[0].toNat : Int) := by omega
        have hd122 : decide ((s[0].toNat : Int) ≤ 122) = false := decide_eq_false (by omega)
        go_wp2
        all_goals first
          | (exfalso; omega)
          | (go_ret
             refine ⟨congrArg (fun b => Ending.returned (.bool b)) (((HR.out).symm.trans (isName_no Hsk.out ?_)).symm), rfl⟩
             unfold nameAt
             simp only [Bool.or_eq_false_iff, Bool.and_eq_false_iff, decide_eq_false_iff_not]
             omega)
      · have h0' : (0 : Int) < k := by omega
        have h5 : (s[k].toNat : Int) < 97 := by omega
        go_wp2
        all_goals first
          | (exfalso; omega)
          | (go_ret
             refine ⟨congrArg (fun b => Ending.returned (.bool b)) (((HR.out).symm.trans (isName_no Hsk.out ?_)).symm), rfl⟩
             unfold nameAt
             simp only [Bool.or_eq_false_iff, Bool.and_eq_false_iff, decide_eq_false_iff_not]
             omega)
      · have h0' : (0 : Int) < k := by omega
        have h5 : (48 : Int) ≤ (s[k].toNat : Int) := by omega
        have hd57 : decide ((s[k].toNat : Int) ≤ 57) = false := decide_eq_false (by omega)
        go_wp2
        all_goals first
          | (exfalso; omega)
          | (go_ret
             refine ⟨congrArg (fun b => Ending.returned (.bool b)) (((HR.out).symm.trans (isName_no Hsk.out ?_)).symm), rfl⟩
             unfold nameAt
             simp only [Bool.or_eq_false_iff, Bool.and_eq_false_iff, decide_eq_false_iff_not]
             omega)
      · have h0' : (0 : Int) < k := by omega
        have h5 : (97 : Int) ≤ (s[k].toNat : Int) := by omega
        have h6 : (48 : Int) ≤ (s[k].toNat : Int) := by omega
        have h7 : (57 : Int) < (s[k].toNat : Int) := by omega
        have hd57 : decide ((s[k].toNat : Int) ≤ 57) = false := decide_eq_false (by omega)
        have hd122 : decide ((s[k].toNat : Int) ≤ 122) = false := decide_eq_false (by omega)
        go_wp2
        all_goals first
          | (exfalso; omega)
          | (go_ret
             refine ⟨congrArg (fun b => Ending.returned (.bool b)) (((HR.out).symm.trans (isName_no Hsk.out ?_)).symm), rfl⟩
             unfold nameAt
             simp only [Bool.or_eq_false_iff, Bool.and_eq_false_iff, decide_eq_false_iff_not]
             omega)
    · obtain rfl : k = s.size := by omega
      have hn := isName_all hall
      rw [HR.out] at hn
      clear hall
      have hse : s.toList.isEmpty = decide (s.size = 0) := by
        rw [ByteArray.toList_eq]
        show s.data.toList.isEmpty = decide (s.data.toList.length = 0)
        cases s.data.toList <;> simp
      have hd : ((s.size : Int) ≤ 12) = (s.size ≤ 12) := by apply propext; omega
      by_cases h0 : s.size = 0
      · rw [decide_eq_true h0] at hse
        rw [decide_eq_false (by simp [h0]), Bool.false_and] at hn
        have HN := Lib.hid hn
        clear hn h0 hd
        go_wp2
        go_ret
        exact ⟨by rw [HN.out]; rfl, rfl⟩
      · rw [decide_eq_false h0] at hse
        rw [decide_eq_true h0, Bool.true_and] at hn
        have HN := Lib.hid hn
        have HD := Lib.hid hd
        clear hn h0 hd
        go_wp2
        go_ret
        refine ⟨?_, rfl⟩
        rw [HN.out]
        exact congrArg (fun b => Ending.returned (.bool b)) (by simp only [HD.out])
end Go.Proofs.Ytpfnemkfbelpcaa
