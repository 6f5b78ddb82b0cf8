/-
  The document's answer for filters: Under, Match, Covers.
  The document's answer for filters: Covers.
  The document's answer for rules: Home, MayPublish, MayObserve over whatever Match and Covers answer.
  Package acl: Right.
  The law's Rights: those rules that may be.
  Masks; what covers what; the laws' tenant and principal.
  Arguments that are slices of rules, pairs of ints, filters, opened.
-/
import Derived.Test.YtaenebdppkjhoaaGreatDoorZa11
import Derived.Test.YtaenebdppkjhoaaGreatDoorZa2
import Derived.Test.YtaenebdppkjhoaaGreatDoorZa10
import Derived.Test.YtaenebdppkjhoaaGreatDoorZa3
import Derived.Test.YtaenebdppkjhoaaGreatDoorZa8
import Derived.Test.YtaenebdppkjhoaaGreatDoorZa4
import Derived.Test.YtaenebdppkjhoaaGreatDoorZa1
namespace Go.Proofs.YtaenebdppkjhoaaGreatDoor
set_option maxRecDepth 20000
open Go.RowKit

theorem cond_struct : (match Tryz.prog.underlying 132 with | some (.struct _) => true | some (.array _ _) => true | _ => false) = true := by kernel_rfl
theorem run_load_cnd {ρ : Operand → Value} {dst : Option Tmp} {x : Operand} {type : TypeId} {pos : String} {after : Array Edge} {guard : Option (Nat × Bool)} {w : World} (h : AllV w (ρ x) 7) :
    Sem.run Tryz.prog (execOp ρ ⟨dst, .load 132 x, type, pos, after, guard⟩) w = .ok (.value (.agg (cellsV w (ρ x) 7))) w := run_load_all cond_struct cnd_size h

attribute [local go_sem ↓] run_load_cnd

end Go.Proofs.YtaenebdppkjhoaaGreatDoor

namespace Go.Proofs.YtaenebdppkjhoaaGreatDoor
set_option maxRecDepth 20000
open Go.RowKit
attribute [local go_sem ↓] run_load_cnd

end Go.Proofs.YtaenebdppkjhoaaGreatDoor

namespace Go.Proofs.YtaenebdppkjhoaaGreatDoor
set_option maxRecDepth 20000
open Go.RowKit

theorem of_cases {p : Prop} (r : Ru) (k tenant : Int) (who : ByteArray) (h1 : (r.kind == k) = false → r.of k tenant who = false → p) (h2 : (r.kind == k) = true → (r.tenant == tenant) = false → r.of k tenant who = false → p)
    (h3 : (r.kind == k) = true → (r.tenant == tenant) = true → (r.who.toList == who.toList) = false → r.of k tenant who = false → p)
    (h4 : (r.kind == k) = true → (r.tenant == tenant) = true → (r.who.toList == who.toList) = true → r.of k tenant who = true → p) : p := by
  cases a1 : r.kind == k
  · exact h1 a1 (by unfold Ru.of; rw [a1]; rfl)
  cases a2 : r.tenant == tenant
  · exact h2 a1 a2 (by unfold Ru.of; rw [a1, a2]; rfl)
  cases a3 : r.who.toList == who.toList
  · exact h3 a1 a2 a3 (by unfold Ru.of; rw [a1, a2, a3]; rfl)
  · exact h4 a1 a2 a3 (by unfold Ru.of; rw [a1, a2, a3]; rfl)

end Go.Proofs.YtaenebdppkjhoaaGreatDoor

namespace Go.Proofs.YtaenebdppkjhoaaGreatDoor
set_option maxRecDepth 20000
open Go.RowKit

/-- May it be a rule, as far as it tells by itself? -/
def Ru.rightB (r : Ru) : Bool :=
  if r.kind = 4 then decide (0 ≤ r.at_) else
  if r.kind < 0 ∨ 4 < r.kind ∨ r.tenant < 0 ∨ 4 ≤ r.tenant ∨ isName r.who = false then false else
  if r.kind = 0 then decide (0 ≤ r.broker) && decide (r.broker < 6) else
  if r.kind = 3 then isName r.name && scRight r.sc else filRight r.sc r.cs

set_option maxHeartbeats 4000000 in
theorem acl_right (r : Ru) (w : World) (h : r.ok w) : Calls Tryz.prog 84 #[.agg r.cells.toArray] w fun e w' => e = .returned (.bool r.rightB) ∧ Mod (fun _ => False) w w' := by
  obtain ⟨wa, hwa⟩ : ∃ wa : World, w.alloc (.cells r.cells.toArray 35) = wa := ⟨_, rfl⟩
  have hmwa : Mod (fun _ => False) w wa := hwa ▸ (Mod.refl (fun _ => False) w).alloc _
  have hgwa := heap_alloc_new w (.cells r.cells.toArray 35)
  rw [hwa] at hgwa
  have hzwa : wa.heap.size = w.heap.size + 1 := by rw [← hwa]; simp
  have c0 : wa.cell? ⟨w.heap.size, 0, none⟩ = some (.int .i64 r.kind) := cell_of hgwa rfl
  have c1 : wa.cell? ⟨w.heap.size, 1, none⟩ = some (.int .i64 r.tenant) := cell_of hgwa rfl
  have c2 : wa.cell? ⟨w.heap.size, 2, none⟩ = some (.string r.who) := cell_of hgwa rfl
  have c3 : wa.cell? ⟨w.heap.size, 3, none⟩ = some (.int .i64 r.broker) := cell_of hgwa rfl
  have c4 : wa.cell? ⟨w.heap.size, 4, none⟩ = some (.string r.sc) := cell_of hgwa rfl
  have c5 : wa.cell? ⟨w.heap.size, 5, none⟩ = some (.slice r.ca r.cs.length r.cc) := cell_of hgwa rfl
  have c6 : wa.cell? ⟨w.heap.size, 6, none⟩ = some (.string r.name) := cell_of hgwa rfl
  have c7 : wa.cell? ⟨w.heap.size, 7, none⟩ = some (.int .i64 r.at_) := cell_of hgwa rfl
  have hnw := name_at r.who (by have := h.who; omega) wa
  have hnn := name_at r.name (by have := h.name; omega) wa
  have hsr := scope_right r.sc (by have := h.sc; omega) wa
  have hfr := filter_right wa r.sc r.cv r.cs (h.rd.mod hmwa (fun _ _ h => h)) (by have := h.len; omega) (by have := h.sc; omega) (fun c hc => by have := (h.cname c hc).1; omega)
  have hRd : r.rightB = r.rightB := rfl
  conv at hRd => rhs; unfold Ru.rightB
  obtain ⟨R, hR⟩ : ∃ R, r.rightB = R := ⟨_, rfl⟩
  rw [hR] at hRd ⊢
  have Hwa := Lib.hid hwa
  have Hmwa := Lib.hid hmwa
  have Hnw := Lib.hid hnw
  have Hnn := Lib.hid hnn
  have Hsr := Lib.hid hsr
  have Hfr := Lib.hid hfr
  have HRd := Lib.hid hRd
  clear hwa hmwa hnw hnn hsr hfr hRd hgwa hzwa h hR
  cases hk4 : r.kind == 4 with
  | true =>
    have e : R = decide (0 ≤ r.at_) := by rw [HRd.out, if_pos (beq_iff_eq.1 hk4)]
    rw [e]
    go_enter Tryz.func84, Tryz.ntmps84
    go_wp2_with (first | (rw [show w.alloc _ = wa from Hwa.out]) | fail)
    go_ret
    exact ⟨rfl, Hmwa.out⟩
  | false =>
  have hk4' : ¬ r.kind = 4 := by simpa using hk4
  have e4 : R = _ := HRd.out.trans (if_neg hk4')
  have E4 := Lib.hid e4
  clear e4 hk4'
  by_cases h1 : r.kind < 0
  · have e : R = false := by rw [E4.out, if_pos (.inl h1)]
    rw [e]
    go_enter Tryz.func84, Tryz.ntmps84
    go_wp2_with (first | (rw [show w.alloc _ = wa from Hwa.out]) | fail)
    go_ret
    exact ⟨rfl, Hmwa.out⟩
  by_cases h2 : 4 < r.kind
  · have e : R = false := by rw [E4.out, if_pos (.inr (.inl h2))]
    rw [e]
    go_enter Tryz.func84, Tryz.ntmps84
    go_wp2_with (first | (rw [show w.alloc _ = wa from Hwa.out]) | fail)
    go_ret
    exact ⟨rfl, Hmwa.out⟩
  by_cases h3 : r.tenant < 0
  · have e : R = false := by rw [E4.out, if_pos (.inr (.inr (.inl h3)))]
    rw [e]
    go_enter Tryz.func84, Tryz.ntmps84
    go_wp2_with (first | (rw [show w.alloc _ = wa from Hwa.out]) | fail)
    go_ret
    exact ⟨rfl, Hmwa.out⟩
  by_cases h4 : 4 ≤ r.tenant
  · have e : R = false := by rw [E4.out, if_pos (.inr (.inr (.inr (.inl h4))))]
    rw [e]
    go_enter Tryz.func84, Tryz.ntmps84
    go_wp2_with (first | (rw [show w.alloc _ = wa from Hwa.out]) | fail)
    go_ret
    exact ⟨rfl, Hmwa.out⟩
  have h1' : 0 ≤ r.kind := by omega
  have h2' : r.kind ≤ 4 := by omega
  have h3' : 0 ≤ r.tenant := by omega
  have h4' : r.tenant < 4 := by omega
  cases hn : isName r.who with
  | false =>
    have e : R = false := by rw [E4.out, if_pos (.inr (.inr (.inr (.inr hn))))]
    rw [e]
    rw [hn] at Hnw
    clear hn h1 h2 h3 h4 e
    go_enter Tryz.func84, Tryz.ntmps84
    go_wp2_with (first | (rw [show w.alloc _ = wa from Hwa.out]) | fail)
    refine Hnw.out.mono ?_
    rintro e w' ⟨rfl, rfl⟩
    go_wp2
    go_ret
    exact ⟨rfl, Hmwa.out⟩
  | true =>
  have hno : ¬ (r.kind < 0 ∨ 4 < r.kind ∨ r.tenant < 0 ∨ 4 ≤ r.tenant ∨ isName r.who = false) := by
    rintro (h | h | h | h | h)
    · exact h1 h
    · exact h2 h
    · exact h3 h
    · exact h4 h
    · rw [hn] at h; cases h
  have e5 : R = _ := E4.out.trans (if_neg hno)
  rw [hn] at Hnw
  have E5 := Lib.hid e5
  clear hn e5 hno h1 h2 h3 h4
  cases hk0 : r.kind == 0 with
  | true =>
    have e : R = (decide (0 ≤ r.broker) && decide (r.broker < 6)) := by rw [E5.out, if_pos (beq_iff_eq.1 hk0)]
    rw [e]
    clear e
    by_cases hb : 0 ≤ r.broker
    · rw [decide_eq_true hb, Bool.true_and]
      go_enter Tryz.func84, Tryz.ntmps84
      go_wp2_with (first | (rw [show w.alloc _ = wa from Hwa.out]) | fail)
      refine Hnw.out.mono ?_
      rintro e w' ⟨rfl, rfl⟩
      go_wp2
      go_ret
      exact ⟨rfl, Hmwa.out⟩
    · have hb' : r.broker < 0 := by omega
      rw [decide_eq_false hb, Bool.false_and]
      clear hb
      go_enter Tryz.func84, Tryz.ntmps84
      go_wp2_with (first | (rw [show w.alloc _ = wa from Hwa.out]) | fail)
      refine Hnw.out.mono ?_
      rintro e w' ⟨rfl, rfl⟩
      go_wp2
      go_ret
      exact ⟨rfl, Hmwa.out⟩
  | false =>
  have hk0' : ¬ r.kind = 0 := by simpa using hk0
  have e6 : R = _ := E5.out.trans (if_neg hk0')
  have E6 := Lib.hid e6
  clear e6 hk0'
  cases hk3 : r.kind == 3 with
  | true =>
    have e : R = (isName r.name && scRight r.sc) := by rw [E6.out, if_pos (beq_iff_eq.1 hk3)]
    rw [e]
    clear e
    cases hn : isName r.name with
    | false =>
      rw [hn] at Hnn
      rw [Bool.false_and]
      clear hn
      go_enter Tryz.func84, Tryz.ntmps84
      go_wp2_with (first | (rw [show w.alloc _ = wa from Hwa.out]) | fail)
      refine Hnw.out.mono ?_
      rintro e w' ⟨rfl, rfl⟩
      go_wp2_with fail
      refine Hnn.out.mono ?_
      rintro e w' ⟨rfl, rfl⟩
      go_wp2
      go_ret
      exact ⟨rfl, Hmwa.out⟩
    | true =>
      rw [hn] at Hnn
      rw [Bool.true_and]
      clear hn
      go_enter Tryz.func84, Tryz.ntmps84
      go_wp2_with (first | (rw [show w.alloc _ = wa from Hwa.out]) | fail)
      refine Hnw.out.mono ?_
      rintro e w' ⟨rfl, rfl⟩
      go_wp2_with fail
      refine Hnn.out.mono ?_
      rintro e w' ⟨rfl, rfl⟩
      go_wp2_with fail
      refine Hsr.out.mono ?_
      rintro e w2 ⟨rfl, hm2⟩
      have Hm2 := Lib.hid (Hmwa.out.trans hm2 (fun _ _ h => h))
      clear hm2
      go_wp2
      go_ret
      exact ⟨rfl, Hm2.out⟩
  | false =>
    have hk3' : ¬ r.kind = 3 := by simpa using hk3
    have e : R = filRight r.sc r.cs := by rw [E6.out, if_neg hk3']
    rw [e]
    clear e hk3'
    go_enter Tryz.func84, Tryz.ntmps84
    go_wp2_with (first | (rw [show w.alloc _ = wa from Hwa.out]) | fail)
    refine Hnw.out.mono ?_
    rintro e w' ⟨rfl, rfl⟩
    go_wp2_with fail
    refine Hfr.out.mono ?_
    rintro e w2 ⟨rfl, hm2⟩
    have Hm2 := Lib.hid (Hmwa.out.trans hm2 (fun _ _ h => h))
    clear hm2
    go_wp2
    go_ret
    exact ⟨rfl, Hm2.out⟩
end Go.Proofs.YtaenebdppkjhoaaGreatDoor

namespace Go.Proofs.YtaenebdppkjhoaaGreatDoor
set_option maxRecDepth 20000
open Go.RowKit

theorem filter_take {α : Type} (p : α → Bool) {l : List α} {j : Nat} {x : α} (h : l[j]? = some x) : (l.take (j + 1)).filter p = (l.take j).filter p ++ (if p x = true then [x] else []) := by
  rw [List.take_add_one, List.filter_append, h]
  congr 1
  simp only [Option.toList, List.filter_cons, List.filter_nil]

end Go.Proofs.YtaenebdppkjhoaaGreatDoor

namespace Go.Proofs.YtaenebdppkjhoaaGreatDoor
set_option maxRecDepth 20000
open Go.RowKit

theorem and_pow (n : Int) (k : Nat) (hk : k < 63) : bits .and .i64 n ((2 ^ k - 1 : Nat) : Int) = n % ((2 ^ k : Nat) : Int) := by
  have hp : 2 ^ k < 2 ^ 63 := Nat.pow_lt_pow_right (by decide) hk
  have hp0 : 0 < 2 ^ k := Nat.two_pow_pos k
  have h127 : (BitVec.ofInt 64 ((2 ^ k - 1 : Nat) : Int)).toNat = 2 ^ k - 1 := by
    rw [BitVec.toNat_ofInt]
    omega
  have key : (BitVec.ofInt 64 n &&& BitVec.ofInt 64 ((2 ^ k - 1 : Nat) : Int)).toNat = (n % ((2 ^ 64 : Nat) : Int)).toNat % 2 ^ k := by
    rw [BitVec.toNat_and, BitVec.toNat_ofInt, h127, Nat.and_two_pow_sub_one_eq_mod]
  show IntKind.i64.wrap ((BitVec.ofInt 64 n &&& BitVec.ofInt 64 ((2 ^ k - 1 : Nat) : Int)).toNat : Nat) = n % ((2 ^ k : Nat) : Int)
  rw [key, IntKind.wrap_i64]
  have h1 : (n % ((2 ^ 64 : Nat) : Int)).toNat % 2 ^ k < 2 ^ k := Nat.mod_lt _ hp0
  have h2 : (((n % ((2 ^ 64 : Nat) : Int)).toNat % 2 ^ k : Nat) : Int) = n % ((2 ^ k : Nat) : Int) := by
    rw [Int.natCast_emod, Int.toNat_of_nonneg (Int.emod_nonneg _ (by decide))]
    exact Int.emod_emod_of_dvd n (by exact_mod_cast Nat.pow_dvd_pow 2 (by omega))
  rw [← h2]
  generalize (n % ((2 ^ 64 : Nat) : Int)).toNat % 2 ^ k = q at *
  omega
theorem and3 (n : Int) : ∃ t : Nat, bits .and .i64 n 3 = t ∧ t < 4 := ⟨(n % 4).toNat, by
  have := and_pow n 2 (by decide)
  have e : bits .and .i64 n 3 = n % 4 := this
  rw [e]
  omega, by omega⟩

/-- Rules, as they are handed to a law: their conditions' numbers are words. -/
def RuNum (l : List Ru) : Prop := ∀ r ∈ l, ∀ c ∈ r.cs, c.v.num < 2 ^ 64
theorem RuNum.filter {l : List Ru} {p : Ru → Bool} (h : RuNum l) : RuNum (l.filter p) := fun r hr => h r (List.mem_filter.1 hr).1

end Go.Proofs.YtaenebdppkjhoaaGreatDoor

namespace Go.Proofs.YtaenebdppkjhoaaGreatDoor
set_option maxRecDepth 20000
open Go.ChangeShapes Go.WideShapes Go.ChangeAt Go.RowKit

section
variable {H : Type} {enc : TypeId × Value → H} {W : World}

theorem spot_none {w : World} {a : Addr} {v : Value} (h : w.cell? a = some v) : a.spot = none := by
  unfold World.cell? at h
  split at h
  · split at h
    · cases h
    · rename_i hs; simpa using hs
  · cases h

end
theorem le63 {n : Nat} (h : n ≤ maxLen) : n ≤ 9223372036854775807 := by simp only [maxLen] at h; omega
end Go.Proofs.YtaenebdppkjhoaaGreatDoor
