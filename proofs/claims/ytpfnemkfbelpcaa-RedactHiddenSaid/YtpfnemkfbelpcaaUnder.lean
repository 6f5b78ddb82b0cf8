/-
  strings.HasPrefix; package scope: Under.
-/
import Derived.Test.YtpfnemkfbelpcaaRule
import Derived.Lib.Strings
namespace Go.Proofs.Ytpfnemkfbelpcaa
set_option maxRecDepth 20000
open Go.RowKit

def prefB (s p : ByteArray) : Bool := p.data.toList.isPrefixOf s.data.toList
theorem prefix_short {s p : ByteArray} (h : s.size < p.size) : prefB s p = false := by
  unfold prefB
  rw [Bool.eq_false_iff]
  intro hp
  have := (List.isPrefixOf_iff_prefix.1 hp).length_le
  have h1 : p.data.toList.length = p.size := rfl
  have h2 : s.data.toList.length = s.size := rfl
  omega
theorem prefix_take {s p : ByteArray} : ((s.extract 0 p.size).toList == p.toList) = prefB s p := by
  unfold prefB
  rw [ByteArray.toList_eq, ByteArray.toList_eq, Bool.eq_iff_iff, beq_iff_eq, List.isPrefixOf_iff_prefix, List.prefix_iff_eq_take]
  have h1 : (s.extract 0 p.size).data.toList = s.data.toList.take p.size := by
    rw [ByteArray.data_extract, Array.toList_extract]
    simp
  rw [h1]
  have h2 : p.data.toList.length = p.size := rfl
  rw [h2]
  exact ⟨fun h => h.symm, fun h => h.symm⟩

theorem prefixl_at (s p : ByteArray) (hs : s.size ≤ 9223372036854775807) (hp : p.size ≤ 9223372036854775807) (w : World) : Calls Try.prog 57 #[.string s, .string p] w fun e w' => e = .returned (.bool (prefB s p)) ∧ w' = w := by
  have hs' : (s.size : Int) ≤ 9223372036854775807 := by omega
  have hp' : (p.size : Int) ≤ 9223372036854775807 := by omega
  by_cases h : p.size ≤ s.size
  · have h' : (p.size : Int) ≤ s.size := by omega
    rw [← prefix_take]
    clear hs hp
    go_enter Try.func57, Try.ntmps57
    go_wp2
    go_ret
    exact ⟨rfl, rfl⟩
  · have h' : (s.size : Int) < p.size := by omega
    rw [prefix_short (by omega)]
    clear hs hp h
    go_enter Try.func57, Try.ntmps57
    go_wp2
    go_ret
    exact ⟨rfl, rfl⟩
theorem prefix_at (s p : ByteArray) (hs : s.size ≤ 9223372036854775807) (hp : p.size ≤ 9223372036854775807) (w : World) : Calls Try.prog 38 #[.string s, .string p] w fun e w' => e = .returned (.bool (prefB s p)) ∧ w' = w := by
  have Hc := Lib.hid (prefixl_at s p hs hp w)
  clear hs hp
  go_enter Try.func38, Try.ntmps38
  go_wp2_with fail
  refine Hc.out.mono ?_
  rintro e w' ⟨rfl, rfl⟩
  go_wp2
  go_ret
  exact ⟨rfl, rfl⟩

/-- Is a scope another one, or below it? -/
def underB (s top : ByteArray) : Bool := top.toList.isEmpty || (s.toList == top.toList || (prefB s top && s.data.toList[top.size]? == some 47))

set_option maxHeartbeats 1000000 in
theorem under_at (s top : ByteArray) (hs : s.size ≤ 9223372036854775807) (hp : top.size ≤ 9223372036854775807) (w : World) : Calls Try.prog 16 #[.string s, .string top] w fun e w' => e = .returned (.bool (underB s top)) ∧ w' = w := by
  have hc := prefix_at s top hs hp w
  cases h1 : top.toList.isEmpty with
  | true =>
    rw [show underB s top = true by unfold underB; rw [h1]; rfl]
    clear hc hs hp
    go_enter Try.func16, Try.ntmps16
    go_wp2
    go_ret
    exact ⟨rfl, rfl⟩
  | false =>
  cases h2 : s.toList == top.toList with
  | true =>
    rw [show underB s top = true by unfold underB; rw [h1, h2]; rfl]
    clear hc hs hp
    go_enter Try.func16, Try.ntmps16
    go_wp2
    go_ret
    exact ⟨rfl, rfl⟩
  | false =>
  have hu : underB s top = (prefB s top && s.data.toList[top.size]? == some 47) := by unfold underB; rw [h1, h2]; rfl
  rw [hu]
  cases h3 : prefB s top with
  | false =>
    rw [h3] at hc
    have Hc := Lib.hid hc
    rw [Bool.false_and]
    clear hc hs hp hu h3
    go_enter Try.func16, Try.ntmps16
    go_wp2_with fail
    refine Hc.out.mono ?_
    rintro e w' ⟨rfl, rfl⟩
    go_wp2
    go_ret
    exact ⟨rfl, rfl⟩
  | true =>
    rw [h3] at hc
    have hlt : top.size < s.size := by
      have h4 := List.isPrefixOf_iff_prefix.1 (show top.data.toList.isPrefixOf s.data.toList = true from h3)
      rcases Nat.lt_or_eq_of_le h4.length_le with h5 | h5
      · exact h5
      · have := h4.eq_of_length h5
        rw [ByteArray.toList_eq, ByteArray.toList_eq, this, beq_self_eq_true] at h2
        cases h2
    have hlt' : (top.size : Int) < s.size := by omega
    have htop' : (top.size : Int) ≤ 9223372036854775807 := by omega
    have hs' : (s.size : Int) ≤ 9223372036854775807 := by omega
    have hg : s.data.toList[top.size]? = some s[top.size] := List.getElem?_eq_getElem hlt
    have hb : (s.data.toList[top.size]? == some 47) = ((s[top.size].toNat : Int) == 47) := by
      rw [hg, Bool.eq_iff_iff, beq_iff_eq, beq_iff_eq]
      constructor
      · intro h
        have h := Option.some.inj h
        rw [h]
        rfl
      · intro h
        congr 1
        exact UInt8.toNat.inj (by have : (47 : UInt8).toNat = 47 := rfl; omega)
    rw [Bool.true_and, hb]
    have Hc := Lib.hid hc
    clear hc hs hp hu h3 hg hb
    go_enter Try.func16, Try.ntmps16
    go_wp2_with fail
    refine Hc.out.mono ?_
    rintro e w' ⟨rfl, rfl⟩
    go_wp2
    go_ret
    exact ⟨rfl, rfl⟩
end Go.Proofs.Ytpfnemkfbelpcaa
