/-
  Masks; what covers what; the laws' tenant and principal.
-/
import Derived.Test.YtpfnemkfbelpcaaCovers
import Derived.Test.YtpfnemkfbelpcaaRef7c
import Derived.Test.YtpfnemkfbelpcaaRef10
import Derived.Test.YtpfnemkfbelpcaaRights
import Derived.Test.YtpfnemkfbelpcaaAcll
import Derived.Test.YtpfnemkfbelpcaaAclfit
import Derived.Test.YtpfnemkfbelpcaaPlan5
namespace Go.Proofs.Ytpfnemkfbelpcaa
set_option maxRecDepth 20000
open Go.RowKit

theorem and_pow (n : Int) (k : Nat) (hk : k < 63) : bits .and .i64 n ((2 ^ k - 1 : Nat) : Int) = n % ((2 ^ k : Nat) : Int) := by
  have hp : 2 ^ k < 2 ^ 63 := Nat.pow_lt_pow_right (by decide) hk
  have hp0 : 0 < 2 ^ k := Nat.two_pow_pos k
  have h127 : (BitVec.ofInt 64 ((2 ^ k - 1 : Nat) : Int)).toNat = 2 ^ k - 1 := by
    rw [BitVec.toNat_ofInt]
    omega
  have key : (BitVec.ofInt 64 n &&& BitVec.ofInt 64 ((2 ^ k - 1 : Nat) : Int)).toNat = (n % ((2 ^ 64 : Nat) : Int)).toNat % 2 ^ k := by
    rw [BitVec.toNat_and, BitVec.toNat_ofInt, h127, Nat.and_two_pow_sub_one_eq_mod]
  show IntKind.i64.wrap ((BitVec.ofInt 64 n &&& BitVec.ofInt 64 ((2 ^ k - 1 : Nat) : Int)).toNat : Nat) = n % ((2 ^ k : Nat) : Int)
  rw [key, IntKind.wrap_i64]
  have h1 : (n % ((2 ^ 64 : Nat) : Int)).toNat % 2 ^ k < 2 ^ k := Nat.mod_lt _ hp0
  have h2 : (((n % ((2 ^ 64 : Nat) : Int)).toNat % 2 ^ k : Nat) : Int) = n % ((2 ^ k : Nat) : Int) := by
    rw [Int.natCast_emod, Int.toNat_of_nonneg (Int.emod_nonneg _ (by decide))]
    exact Int.emod_emod_of_dvd n (by exact_mod_cast Nat.pow_dvd_pow 2 (by omega))
  rw [← h2]
  generalize (n % ((2 ^ 64 : Nat) : Int)).toNat % 2 ^ k = q at *
  omega
theorem and1 (n : Int) : ∃ t : Nat, bits .and .i64 n 1 = t ∧ t < 2 := ⟨(n % 2).toNat, by
  have := and_pow n 1 (by decide)
  have e : bits .and .i64 n 1 = n % 2 := this
  rw [e]
  omega, by omega⟩
theorem and3 (n : Int) : ∃ t : Nat, bits .and .i64 n 3 = t ∧ t < 4 := ⟨(n % 4).toNat, by
  have := and_pow n 2 (by decide)
  have e : bits .and .i64 n 3 = n % 4 := this
  rw [e]
  omega, by omega⟩

/-- Does a rule's filter cover one? -/
def covB (gs : ByteArray) (m : List Cnd) (r : Ru) : Bool := m.any Cnd.voidB || (r.cs.all (fun c => m.any fun d => impB d c) && underB gs r.sc)
theorem rcov_eq {gs : ByteArray} {m : List Cnd} {r : Ru} (hm : ∀ d ∈ m, d.v.num < 2 ^ 64 ∧ 0 ≤ d.op ∧ d.op ≤ 7) (hr : ∀ c ∈ r.cs, c.v.num < 2 ^ 64) : (m.any Cnd.voidB || (r.cs.all (fun c => m.any fun d => rimpB d c) && underB gs r.sc)) = covB gs m r := by
  unfold covB
  congr 2
  have h1 : ∀ c ∈ r.cs, (m.any fun d => rimpB d c) = (m.any fun d => impB d c) := fun c hc => by
    rw [Bool.eq_iff_iff, List.any_eq_true, List.any_eq_true]
    constructor
    · rintro ⟨d, hd, h⟩
      exact ⟨d, hd, by rw [← rimp_imp (hm d hd).1 (hr c hc) (hm d hd).2.1 (hm d hd).2.2]; exact h⟩
    · rintro ⟨d, hd, h⟩
      exact ⟨d, hd, by rw [rimp_imp (hm d hd).1 (hr c hc) (hm d hd).2.1 (hm d hd).2.2]; exact h⟩
  rw [Bool.eq_iff_iff, List.all_eq_true, List.all_eq_true]
  constructor
  · intro h c hc; rw [← h1 c hc]; exact h c hc
  · intro h c hc; rw [h1 c hc]; exact h c hc

theorem fil_right_ops {sc : ByteArray} {m : List Cnd} (h : filRight sc m = true) : m.length ≤ 6 ∧ ∀ d ∈ m, 0 ≤ d.op ∧ d.op ≤ 7 := by
  unfold filRight at h
  simp only [Bool.and_eq_true, List.all_eq_true, decide_eq_true_eq] at h
  refine ⟨h.2.2, fun d hd => ?_⟩
  have := h.1 d hd
  unfold Cnd.rightB at this
  simp only [Bool.and_eq_true, decide_eq_true_eq] at this
  exact ⟨this.2.1, this.2.2.1⟩
/-- What is right of a rule. -/
theorem Ru.right_is {r : Ru} (h : r.rightB = true) : (r.kind = 0 → 0 ≤ r.broker) ∧ (r.kind = 1 ∨ r.kind = 2 → filRight r.sc r.cs = true) := by
  unfold Ru.rightB at h
  by_cases h4 : r.kind = 4
  · exact ⟨fun hk => by omega, fun hk => by omega⟩
  rw [if_neg h4] at h
  by_cases hw : r.kind < 0 ∨ 4 < r.kind ∨ r.tenant < 0 ∨ 4 ≤ r.tenant ∨ isName r.who = false
  · rw [if_pos hw] at h
    cases h
  rw [if_neg hw] at h
  constructor
  · intro hk
    rw [if_pos hk] at h
    simp only [Bool.and_eq_true, decide_eq_true_eq] at h
    exact h.1
  · intro hk
    have h0 : ¬ r.kind = 0 := by omega
    have h3 : ¬ r.kind = 3 := by omega
    rw [if_neg h0, if_neg h3] at h
    exact h
theorem Ru.of_kind {r : Ru} {k t : Int} {who : ByteArray} (h : r.of k t who = true) : r.kind = k := by
  unfold Ru.of at h
  simp only [Bool.and_eq_true, beq_iff_eq] at h
  exact h.1

/-- Rules, as they are handed to a law: their conditions' numbers are words. -/
def RuNum (l : List Ru) : Prop := ∀ r ∈ l, ∀ c ∈ r.cs, c.v.num < 2 ^ 64
theorem RuNum.filter {l : List Ru} {p : Ru → Bool} (h : RuNum l) : RuNum (l.filter p) := fun r hr => h r (List.mem_filter.1 hr).1

/-- filter.Covers of a rule's filter. -/
theorem covers_at (w : World) (r : Ru) (hr : r.ok w) (hrn : ∀ c ∈ r.cs, c.v.num < 2 ^ 64) (gs : ByteArray) (gv : Value) (m : List Cnd) (hg : RdSl w 7 gv m.length (cnds m)) (hml : m.length ≤ 9223372036854775807) (hgs : gs.size ≤ 9223372036854775807)
    (hm : ∀ d ∈ m, d.v.text.size ≤ 9223372036854775807 ∧ d.v.num < 2 ^ 64) :
    Calls Try.prog 50 #[.agg #[.string r.sc, r.cv], .agg #[.string gs, gv]] w fun e w' => e = .returned (.bool (covB gs m r)) ∧ Mod (fun _ => False) w w' :=
  covers_over impB w r.sc r.cv r.cs hr.rd hr.len hr.sc gs gv m hg hml hgs (fun d hd c hc wx _ => implies_at d c (hm d hd).1 (hr.cname c hc).2 (hm d hd).2 (hrn c hc) wx)
/-- gazetteref07.Covers of a rule's filter that may be, of a filter that may be. -/
theorem rcovers_rule (w : World) (r : Ru) (hr : r.ok w) (hrn : ∀ c ∈ r.cs, c.v.num < 2 ^ 64) (hrr : filRight r.sc r.cs = true) (gs : ByteArray) (gv : Value) (m : List Cnd) (hg : RdSl w 7 gv m.length (cnds m)) (hgr : filRight gs m = true) (hgs : gs.size ≤ 9223372036854775807)
    (hm : ∀ d ∈ m, d.v.text.size ≤ 9223372036854775807 ∧ d.v.num < 2 ^ 64) :
    Calls Try.prog 30 #[.agg #[.string r.sc, r.cv], .agg #[.string gs, gv]] w fun e w' => e = .returned (.bool (covB gs m r)) ∧ Mod (fun _ => False) w w' := by
  have h := rcovers_at w r.sc r.cv r.cs hr.rd (by have := (fil_right_ops hrr).1; omega) hr.sc (fun c hc => (hr.cname c hc).2) gs gv m hg (by have := (fil_right_ops hgr).1; omega) hgs (fun d hd => (hm d hd).1)
  rw [rcov_eq (fun d hd => ⟨(hm d hd).2, (fil_right_ops hgr).2 d hd⟩) hrn] at h
  exact h

/-- A rule, as the right ones lie there. -/
theorem rights_sl {w w' : World} {v ov : Value} {l : List Ru} (hv : RuSl w v l) (hown : OwnSl w' 35 8 ov (l.filter Ru.rightB).length (rus (l.filter Ru.rightB))) (hm : Mod (fun _ => False) w w') : RuSl w' ov (l.filter Ru.rightB) :=
  ⟨hown.rd, fun r hr => (hv.ok r (List.mem_filter.1 hr).1).mod hm⟩
theorem rights_broker {l : List Ru} {t : Int} {who : ByteArray} : ∀ r ∈ l.filter Ru.rightB, r.of 0 t who = true → 0 ≤ r.broker := fun r hr ho => (Ru.right_is (List.mem_filter.1 hr).2).1 (Ru.of_kind ho)
theorem who_at {u : Nat} (h : u < 4) : ∃ W : ByteArray, (#[.string ⟨#[97]⟩, .string ⟨#[98]⟩, .string ⟨#[99]⟩, .string ⟨#[100]⟩] : Array Value)[u]? = some (.string W) ∧ W.size = 1 := by
  rcases (by omega : u = 0 ∨ u = 1 ∨ u = 2 ∨ u = 3) with rfl | rfl | rfl | rfl
  · exact ⟨_, rfl, rfl⟩
  · exact ⟨_, rfl, rfl⟩
  · exact ⟨_, rfl, rfl⟩
  · exact ⟨_, rfl, rfl⟩
end Go.Proofs.Ytpfnemkfbelpcaa
