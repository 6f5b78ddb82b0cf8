/-
  Maps that the call made, of values as they are: what is looked up, put, struck out and counted.
-/
import Derived.Test.YtpfnemkfbelpcaaMem
import Derived.Test.YtpfnemkfbelpcaaChecked
import Derived.Maps.OwnSet
import Derived.Maps.Own
import Derived.Carry
namespace Go.Proofs.Ytpfnemkfbelpcaa
set_option maxRecDepth 20000
open Go.RowKit

def rawR : Value → Option (DataW Value × List MemPlace) := fun v => some (.held v, [])
/-- Block b is a map with n entries; what is in it is said by f. -/
def MapR (w : World) (kt : TypeId) (b n : Nat) (f : Lit → Option Value) : Prop :=
  ∃ D : DataW Value, w.ownsMap Try.prog kt rawR b n D ∧ Maps.size D = n ∧ (∀ kl z, D.atKey kl (.held z) = .held ((f kl).getD z)) ∧ ∀ kl, Maps.has D kl = (f kl).isSome
open Classical in
noncomputable def putF (f : Lit → Option Value) (kl : Lit) (v : Value) : Lit → Option Value := fun k => if k = kl then some v else f k
open Classical in
noncomputable def delF (f : Lit → Option Value) (kl : Lit) : Lit → Option Value := fun k => if k = kl then none else f k

@[go_sem] theorem run_makeMap_raw (t : TypeId) (w : World) : (Instr.makeMap t none).run Try.prog w = .ok (.map (some w.heap.size)) (w.alloc (.map #[] 0)) := rfl
theorem ownsMap_tight {w : World} {kt : TypeId} {b n : Nat} {D : DataW Value} (h : w.ownsMap Try.prog kt rawR b n D) : w.ownsMap Try.prog kt rawR b (Maps.size D) D := by
  obtain ⟨es, clock, h1, h2, -, rfl⟩ := h
  exact ⟨es, clock, h1, h2, by simp [Maps.size, length_sorted], rfl⟩
theorem MapR.made (w : World) (kt : TypeId) : MapR (w.alloc (.map #[] 0)) kt w.heap.size 0 (fun _ => none) :=
  ⟨.map [], World.ownsMap_made _ _ _ _, rfl, fun _ _ => rfl, fun _ => rfl⟩
theorem MapR.mod {w w' : World} {kt : TypeId} {b n : Nat} {f : Lit → Option Value} {F : Nat → Prop} (h : MapR w kt b n f) (hm : Mod F w w') (hF : ¬ F b) : MapR w' kt b n f := by
  obtain ⟨D, ⟨es, clock, h1, h2⟩, h3⟩ := h
  exact ⟨D, ⟨es, clock, hm.heap h1 hF, h2⟩, h3⟩
theorem MapR.lt {w : World} {kt : TypeId} {b n : Nat} {f : Lit → Option Value} (h : MapR w kt b n f) : b < w.heap.size := by
  obtain ⟨D, h1, -⟩ := h
  exact h1.lt
theorem MapR.look {w : World} {kt t e : TypeId} {b n : Nat} {f : Lit → Option Value} (h : MapR w kt b n f) (K : Maps.Keyed Try.prog kt) (ht : Try.prog.underlying t = some (.map kt e)) {z : Value} (hz : (zeroValue e).run Try.prog w = .ok z w) {key : Value} {kl : Lit} (hkey : keyOf Try.prog kt key = some kl) :
    (Instr.lookup t (.map (some b)) key false).run Try.prog w = .ok ((f kl).getD z) w := by
  obtain ⟨D, h1, -, h3, -⟩ := h
  obtain ⟨v, ps, hrun, hv⟩ := h1.lookup K ht hz (zd := .held z) (zp := []) rfl hkey
  rw [h3] at hv
  simp only [rawR, Option.some.injEq, Prod.mk.injEq, DataW.held.injEq] at hv
  rw [hrun, hv.1]
theorem MapR.look_ok {w : World} {kt t e : TypeId} {b n : Nat} {f : Lit → Option Value} (h : MapR w kt b n f) (K : Maps.Keyed Try.prog kt) (ht : Try.prog.underlying t = some (.map kt e)) {z : Value} (hz : (zeroValue e).run Try.prog w = .ok z w) {key : Value} {kl : Lit} (hkey : keyOf Try.prog kt key = some kl) :
    (Instr.lookup t (.map (some b)) key true).run Try.prog w = .ok (.tuple #[(f kl).getD z, .bool (f kl).isSome]) w := by
  obtain ⟨D, h1, -, h3, h4⟩ := h
  obtain ⟨v, ps, hrun, hv⟩ := h1.look_ok K ht hz (zd := .held z) (zp := []) rfl hkey
  rw [h3] at hv
  simp only [rawR, Option.some.injEq, Prod.mk.injEq, DataW.held.injEq] at hv
  rw [hrun, hv.1, h4]
theorem MapR.len {w : World} {kt t e : TypeId} {b n : Nat} {f : Lit → Option Value} (h : MapR w kt b n f) (ht : Try.prog.underlying t = some (.map kt e)) (ty : TypeId) :
    (Builtin.len_ #[t] ty #[.map (some b)]).run Try.prog w = .ok (.int .i64 n) w := by
  obtain ⟨D, h1, h2, -⟩ := h
  rw [h1.len ht ty, h2]
theorem grown_mod {w w' : World} {b : Nat} (h : w.grownBy w' (some b)) : Mod (fun k => k = b) w w' := ⟨h.os, h.tape, h.output, h.size, fun k hk hn => h.block k hk (fun e => hn (Option.some.inj e))⟩
theorem MapR.put {w : World} {kt t e : TypeId} {b n : Nat} {f : Lit → Option Value} (h : MapR w kt b n f) (K : Maps.Keyed Try.prog kt) (ht : Try.prog.underlying t = some (.map kt e)) (hn : n < maxLen) {key : Value} {kl : Lit} (hkey : keyOf Try.prog kt key = some kl) (v : Value) :
    ∃ w', (Instr.mapUpdate t (.map (some b)) key v).run Try.prog w = .ok () w' ∧ MapR w' kt b (if (f kl).isSome then n else n + 1) (putF f kl v) ∧ Mod (fun k => k = b) w w' := by
  obtain ⟨D, h1, h2, h3, h4⟩ := h
  obtain ⟨w', hrun, r1, r2⟩ := h1.update K ht hn hkey (val := v) (d := .held v) (ps := []) rfl
  have hs := Maps.size_put (k := kl) (h1.tidy K) (.held v)
  rw [h2, h4] at hs
  refine ⟨w', hrun, ⟨D.put kl (.held v), ?_, hs, fun k z => ?_, fun k => ?_⟩, grown_mod r2⟩
  · rw [← hs]; exact ownsMap_tight r1
  · unfold putF
    by_cases e : k = kl
    · subst e; rw [if_pos rfl, Maps.atKey_put_same h1.isMap (K.key hkey)]; rfl
    · rw [if_neg e, Maps.atKey_put_other e, h3]
  · unfold putF
    by_cases e : k = kl
    · subst e; rw [if_pos rfl, Maps.has_put_same h1.isMap (K.key hkey)]; rfl
    · rw [if_neg e, Maps.has_put_other e, h4]
theorem MapR.del {w : World} {kt t e : TypeId} {b n : Nat} {f : Lit → Option Value} (h : MapR w kt b n f) (K : Maps.Keyed Try.prog kt) (ht : Try.prog.underlying t = some (.map kt e)) {key : Value} {kl : Lit} (hkey : keyOf Try.prog kt key = some kl) (ty : TypeId) :
    ∃ w', (Builtin.delete_ #[t, kt] ty #[.map (some b), key]).run Try.prog w = .ok (.tuple #[]) w' ∧ MapR w' kt b (if (f kl).isSome then n - 1 else n) (delF f kl) ∧ Mod (fun k => k = b) w w' := by
  obtain ⟨D, h1, h2, h3, h4⟩ := h
  obtain ⟨w', hrun, r1, r2⟩ := h1.drop K ht hkey ty
  have hs := Maps.size_del (k := kl) (h1.tidy K)
  rw [h2, h4] at hs
  have hs2 : Maps.size (D.del kl) = if (f kl).isSome then n - 1 else n := by split at hs <;> simp_all <;> omega
  refine ⟨w', hrun, ⟨D.del kl, ?_, hs2, fun k z => ?_, fun k => ?_⟩, grown_mod r2.grown⟩
  · rw [← hs2]; exact ownsMap_tight r1
  · unfold delF
    by_cases e : k = kl
    · subst e; rw [if_pos rfl, Maps.atKey_del_same]; rfl
    · rw [if_neg e, Maps.atKey_del_other e, h3]
  · unfold delF
    by_cases e : k = kl
    · subst e; rw [if_pos rfl, Maps.has_del_same]; rfl
    · rw [if_neg e, Maps.has_del_other e, h4]

theorem wpList_mput_lit {w : World} {ops : Array Oper} {rest : List Oper} {a : Act} {Q : Exit → Act → World → Prop} {d : Option Tmp} {tp : TypeId} {pos : String} {af : Array Edge} (t : TypeId) (m x v : Operand)
    (h : ∃ (kt e : TypeId) (b n : Nat) (f : Lit → Option Value) (kl : Lit), MapR w kt b n f ∧ Maps.Keyed Try.prog kt ∧ Try.prog.underlying t = some (.map kt e) ∧ n < maxLen ∧ a.eval m = .map (some b) ∧ keyOf Try.prog kt (a.eval x) = some kl ∧
      ∀ w', MapR w' kt b (if (f kl).isSome then n else n + 1) (putF f kl (a.eval v)) → Mod (fun k => k = b) w w' → wpList Try.prog ops Q rest (a.put d undef) w') :
    wpList Try.prog ops Q (⟨d, .mapUpdate t m x v, tp, pos, af, none⟩ :: rest) a w := by
  obtain ⟨kt, e, b, n, f, kl, h1, K, ht, hn, hm, hkey, hK⟩ := h
  refine wpList_plain rfl fun K' hK' => ?_
  obtain ⟨w', hrun, r1, r2⟩ := h1.put K ht hn hkey (a.eval v)
  unfold Oper.wp
  simp [execOp, hm, hrun, Result.andThen]
  exact hK' _ _ (hK w' r1 r2)
end Go.Proofs.Ytpfnemkfbelpcaa
