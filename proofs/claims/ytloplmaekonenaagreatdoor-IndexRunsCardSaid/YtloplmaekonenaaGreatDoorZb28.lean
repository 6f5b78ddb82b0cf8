/-
  Maps that the call made, of values as they are: what is looked up, put, struck out and counted.
  DERIVED: THE SHELF's CONTRACTS AT THIS DUMP, IN PLAIN WORDS (tools/lay-plain.mjs out of 'TryzIter.lean', which tools/lay-shelf.mjs wrote): THE SAME DECLARATIONS UNDER THE SAME NAMES: 'import', 'namespace', 'open', 'def', 'theorem' AND NOTHING ELSE: no command of the shelf's: FOR A HAND-IN. Each laying: the table of numbers ('.._ren') and one theorem, a field a fact of the dump's own or the kernel's comparison; each contract: ONE APPLICATION.
  The keys of a map that the call made, sorted; ranges over such maps.
  Package index in memory; New, Len.
-/
import Derived.Test.YtloplmaekonenaaGreatDoorZb2
import Derived.Test.YtloplmaekonenaaGreatDoorChecked
import Derived.Maps.OwnSet
import Derived.Maps.Own
import Derived.Carry
import Derived.Shelf.SlIter.Nil
import Derived.Shelf.SlIterI.Nil
import Derived.Shelf.SortM.Plain
import Derived.Shelf.SortM.SortNone
import Derived.Test.YtloplmaekonenaaGreatDoorProg
import Derived.Maps.RangeWalk
import Derived.Test.YtloplmaekonenaaGreatDoorZb27
namespace Go.Proofs.YtloplmaekonenaaGreatDoor
set_option maxRecDepth 20000
open Go.RowKit

def rawR : Value → Option (DataW Value × List MemPlace) := fun v => some (.held v, [])
/-- Block b is a map with n entries; what is in it is said by f. -/
def MapR (w : World) (kt : TypeId) (b n : Nat) (f : Lit → Option Value) : Prop :=
  ∃ D : DataW Value, w.ownsMap Tryz.prog kt rawR b n D ∧ Maps.size D = n ∧ (∀ kl z, D.atKey kl (.held z) = .held ((f kl).getD z)) ∧ ∀ kl, Maps.has D kl = (f kl).isSome
open Classical in
noncomputable def putF (f : Lit → Option Value) (kl : Lit) (v : Value) : Lit → Option Value := fun k => if k = kl then some v else f k
open Classical in
noncomputable def delF (f : Lit → Option Value) (kl : Lit) : Lit → Option Value := fun k => if k = kl then none else f k

@[go_sem] theorem run_makeMap_raw (t : TypeId) (w : World) : (Instr.makeMap t none).run Tryz.prog w = .ok (.map (some w.heap.size)) (w.alloc (.map #[] 0)) := rfl
theorem ownsMap_tight {w : World} {kt : TypeId} {b n : Nat} {D : DataW Value} (h : w.ownsMap Tryz.prog kt rawR b n D) : w.ownsMap Tryz.prog kt rawR b (Maps.size D) D := by
  obtain ⟨es, clock, h1, h2, -, rfl⟩ := h
  exact ⟨es, clock, h1, h2, by simp [Maps.size, length_sorted], rfl⟩
theorem MapR.made (w : World) (kt : TypeId) : MapR (w.alloc (.map #[] 0)) kt w.heap.size 0 (fun _ => none) :=
  ⟨.map [], World.ownsMap_made _ _ _ _, rfl, fun _ _ => rfl, fun _ => rfl⟩
theorem MapR.mod {w w' : World} {kt : TypeId} {b n : Nat} {f : Lit → Option Value} {F : Nat → Prop} (h : MapR w kt b n f) (hm : Mod F w w') (hF : ¬ F b) : MapR w' kt b n f := by
  obtain ⟨D, ⟨es, clock, h1, h2⟩, h3⟩ := h
  exact ⟨D, ⟨es, clock, hm.heap h1 hF, h2⟩, h3⟩
theorem MapR.lt {w : World} {kt : TypeId} {b n : Nat} {f : Lit → Option Value} (h : MapR w kt b n f) : b < w.heap.size := by
  obtain ⟨D, h1, -⟩ := h
  exact h1.lt
theorem MapR.look {w : World} {kt t e : TypeId} {b n : Nat} {f : Lit → Option Value} (h : MapR w kt b n f) (K : Maps.Keyed Tryz.prog kt) (ht : Tryz.prog.underlying t = some (.map kt e)) {z : Value} (hz : (zeroValue e).run Tryz.prog w = .ok z w) {key : Value} {kl : Lit} (hkey : keyOf Tryz.prog kt key = some kl) :
    (Instr.lookup t (.map (some b)) key false).run Tryz.prog w = .ok ((f kl).getD z) w := by
  obtain ⟨D, h1, -, h3, -⟩ := h
  obtain ⟨v, ps, hrun, hv⟩ := h1.lookup K ht hz (zd := .held z) (zp := []) rfl hkey
  rw [h3] at hv
  simp only [rawR, Option.some.injEq, Prod.mk.injEq, DataW.held.injEq] at hv
  rw [hrun, hv.1]
theorem MapR.look_ok {w : World} {kt t e : TypeId} {b n : Nat} {f : Lit → Option Value} (h : MapR w kt b n f) (K : Maps.Keyed Tryz.prog kt) (ht : Tryz.prog.underlying t = some (.map kt e)) {z : Value} (hz : (zeroValue e).run Tryz.prog w = .ok z w) {key : Value} {kl : Lit} (hkey : keyOf Tryz.prog kt key = some kl) :
    (Instr.lookup t (.map (some b)) key true).run Tryz.prog w = .ok (.tuple #[(f kl).getD z, .bool (f kl).isSome]) w := by
  obtain ⟨D, h1, -, h3, h4⟩ := h
  obtain ⟨v, ps, hrun, hv⟩ := h1.look_ok K ht hz (zd := .held z) (zp := []) rfl hkey
  rw [h3] at hv
  simp only [rawR, Option.some.injEq, Prod.mk.injEq, DataW.held.injEq] at hv
  rw [hrun, hv.1, h4]
theorem MapR.len {w : World} {kt t e : TypeId} {b n : Nat} {f : Lit → Option Value} (h : MapR w kt b n f) (ht : Tryz.prog.underlying t = some (.map kt e)) (ty : TypeId) :
    (Builtin.len_ #[t] ty #[.map (some b)]).run Tryz.prog w = .ok (.int .i64 n) w := by
  obtain ⟨D, h1, h2, -⟩ := h
  rw [h1.len ht ty, h2]
theorem grown_mod {w w' : World} {b : Nat} (h : w.grownBy w' (some b)) : Mod (fun k => k = b) w w' := ⟨h.os, h.tape, h.output, h.size, fun k hk hn => h.block k hk (fun e => hn (Option.some.inj e))⟩
theorem MapR.put {w : World} {kt t e : TypeId} {b n : Nat} {f : Lit → Option Value} (h : MapR w kt b n f) (K : Maps.Keyed Tryz.prog kt) (ht : Tryz.prog.underlying t = some (.map kt e)) (hn : n < maxLen) {key : Value} {kl : Lit} (hkey : keyOf Tryz.prog kt key = some kl) (v : Value) :
    ∃ w', (Instr.mapUpdate t (.map (some b)) key v).run Tryz.prog w = .ok () w' ∧ MapR w' kt b (if (f kl).isSome then n else n + 1) (putF f kl v) ∧ Mod (fun k => k = b) w w' := by
  obtain ⟨D, h1, h2, h3, h4⟩ := h
  obtain ⟨w', hrun, r1, r2⟩ := h1.update K ht hn hkey (val := v) (d := .held v) (ps := []) rfl
  have hs := Maps.size_put (k := kl) (h1.tidy K) (.held v)
  rw [h2, h4] at hs
  refine ⟨w', hrun, ⟨D.put kl (.held v), ?_, hs, fun k z => ?_, fun k => ?_⟩, grown_mod r2⟩
  · rw [← hs]; exact ownsMap_tight r1
  · unfold putF
    by_cases e : k = kl
    · subst e; rw [if_pos rfl, Maps.atKey_put_same h1.isMap (K.key hkey)]; rfl
    · rw [if_neg e, Maps.atKey_put_other e, h3]
  · unfold putF
    by_cases e : k = kl
    · subst e; rw [if_pos rfl, Maps.has_put_same h1.isMap (K.key hkey)]; rfl
    · rw [if_neg e, Maps.has_put_other e, h4]
theorem MapR.del {w : World} {kt t e : TypeId} {b n : Nat} {f : Lit → Option Value} (h : MapR w kt b n f) (K : Maps.Keyed Tryz.prog kt) (ht : Tryz.prog.underlying t = some (.map kt e)) {key : Value} {kl : Lit} (hkey : keyOf Tryz.prog kt key = some kl) (ty : TypeId) :
    ∃ w', (Builtin.delete_ #[t, kt] ty #[.map (some b), key]).run Tryz.prog w = .ok (.tuple #[]) w' ∧ MapR w' kt b (if (f kl).isSome then n - 1 else n) (delF f kl) ∧ Mod (fun k => k = b) w w' := by
  obtain ⟨D, h1, h2, h3, h4⟩ := h
  obtain ⟨w', hrun, r1, r2⟩ := h1.drop K ht hkey ty
  have hs := Maps.size_del (k := kl) (h1.tidy K)
  rw [h2, h4] at hs
  have hs2 : Maps.size (D.del kl) = if (f kl).isSome then n - 1 else n := by split at hs <;> simp_all <;> omega
  refine ⟨w', hrun, ⟨D.del kl, ?_, hs2, fun k z => ?_, fun k => ?_⟩, grown_mod r2.grown⟩
  · rw [← hs2]; exact ownsMap_tight r1
  · unfold delF
    by_cases e : k = kl
    · subst e; rw [if_pos rfl, Maps.atKey_del_same]; rfl
    · rw [if_neg e, Maps.atKey_del_other e, h3]
  · unfold delF
    by_cases e : k = kl
    · subst e; rw [if_pos rfl, Maps.has_del_same]; rfl
    · rw [if_neg e, Maps.has_del_other e, h4]

theorem wpList_mput_lit {w : World} {ops : Array Oper} {rest : List Oper} {a : Act} {Q : Exit → Act → World → Prop} {d : Option Tmp} {tp : TypeId} {pos : String} {af : Array Edge} (t : TypeId) (m x v : Operand)
    (h : ∃ (kt e : TypeId) (b n : Nat) (f : Lit → Option Value) (kl : Lit), MapR w kt b n f ∧ Maps.Keyed Tryz.prog kt ∧ Tryz.prog.underlying t = some (.map kt e) ∧ n < maxLen ∧ a.eval m = .map (some b) ∧ keyOf Tryz.prog kt (a.eval x) = some kl ∧
      ∀ w', MapR w' kt b (if (f kl).isSome then n else n + 1) (putF f kl (a.eval v)) → Mod (fun k => k = b) w w' → wpList Tryz.prog ops Q rest (a.put d undef) w') :
    wpList Tryz.prog ops Q (⟨d, .mapUpdate t m x v, tp, pos, af, none⟩ :: rest) a w := by
  obtain ⟨kt, e, b, n, f, kl, h1, K, ht, hn, hm, hkey, hK⟩ := h
  refine wpList_plain rfl fun K' hK' => ?_
  obtain ⟨w', hrun, r1, r2⟩ := h1.put K ht hn hkey (a.eval v)
  unfold Oper.wp
  simp [execOp, hm, hrun, Result.andThen]
  exact hK' _ _ (hK w' r1 r2)
end Go.Proofs.YtloplmaekonenaaGreatDoor

namespace Go.Proofs
open Go.Shelf
def Tryz.isorted47_ren : Go.Shelf.Ren := ⟨fun | 6 => 47 | 8 => 84 | 9 => 85 | 11 => 127 | 13 => 129 | 12 => 128 | 23 => 159 | 24 => 160 | 14 => 150 | 15 => 151 | 16 => 152 | 17 => 153 | 18 => 154 | 19 => 155 | 20 => 156 | 21 => 157 | 22 => 158 | 25 => 192 | 26 => 193 | 27 => 194 | 28 => 195 | 29 => 196 | 30 => 197 | 31 => 218 | n => n, fun | 26 => 3 | 28 => 96 | 24 => 39 | 0 => 0 | 3 => 3 | 37 => 179 | 48 => 202 | 50 => 204 | 4 => 4 | 40 => 195 | 39 => 194 | 45 => 137 | 5 => 5 | 9 => 9 | 51 => 226 | 55 => 229 | 57 => 249 | 58 => 250 | 33 => 37 | n => n, fun | n => n⟩
theorem Tryz.isorted47 : Go.Proofs.SlLaysZI.n6 Tryz.prog Tryz.isorted47_ren := {
  mixed := by kernel_rfl
  f6 := ⟨Tryz.f47.name, by decide, Tryz.func47.trans (congrArg some (by kernel_rfl))⟩
  f8 := ⟨Tryz.f84.name, by decide, Tryz.func84.trans (congrArg some (by kernel_rfl))⟩
  f11 := ⟨Tryz.f127.name, by decide, Tryz.func127.trans (congrArg some (by kernel_rfl))⟩
  t0 := Tryz.underlying0
  a0 := Tryz.isAgg0
  z0 := Tryz.sizeOf0
  v0 := Tryz.zeroValue0
  t24 := Tryz.underlying39
  a24 := Tryz.isAgg39
  z24 := Tryz.sizeOf39
  v24 := Tryz.zeroValue39
  t26 := Tryz.underlying3
  a26 := Tryz.isAgg3
  z26 := Tryz.sizeOf3
  v26 := Tryz.zeroValue3
  t28 := Tryz.underlying96
  a28 := Tryz.isAgg96
  z28 := Tryz.sizeOf96
  v28 := Tryz.zeroValue96
  i26 := by kernel_rfl }
def Tryz.isort85_ren : Go.Shelf.Ren := ⟨fun | 5 => 85 | 8 => 129 | 7 => 128 | 19 => 159 | 20 => 160 | 10 => 150 | 11 => 151 | 12 => 152 | 13 => 153 | 14 => 154 | 15 => 155 | 16 => 156 | 17 => 157 | 18 => 158 | 30 => 192 | 31 => 193 | 32 => 194 | 33 => 195 | 34 => 196 | 35 => 197 | 40 => 218 | n => n, fun | 23 => 39 | 25 => 3 | 3 => 3 | 32 => 179 | 22 => 39 | 0 => 0 | 44 => 202 | 46 => 204 | 4 => 4 | 36 => 195 | 35 => 194 | 41 => 137 | 5 => 5 | 9 => 9 | 53 => 226 | 57 => 229 | 63 => 249 | 64 => 250 | n => n, fun | n => n⟩
theorem Tryz.isort85 : Go.Proofs.SlLaysM.n5 Tryz.prog Tryz.isort85_ren := {
  mixed := by kernel_rfl
  f5 := ⟨Tryz.f85.name, by decide, Tryz.func85.trans (congrArg some (by kernel_rfl))⟩
  f7 := ⟨Tryz.f128.name, by decide, Tryz.func128.trans (congrArg some (by kernel_rfl))⟩
  f8 := Tryz.func129.trans (congrArg some (by kernel_rfl))
  f10 := ⟨Tryz.f150.name, by decide, Tryz.func150.trans (congrArg some (by kernel_rfl))⟩
  f11 := ⟨Tryz.f151.name, by decide, Tryz.func151.trans (congrArg some (by kernel_rfl))⟩
  f12 := ⟨Tryz.f152.name, by decide, Tryz.func152.trans (congrArg some (by kernel_rfl))⟩
  f13 := ⟨Tryz.f153.name, by decide, Tryz.func153.trans (congrArg some (by kernel_rfl))⟩
  f14 := ⟨Tryz.f154.name, by decide, Tryz.func154.trans (congrArg some (by kernel_rfl))⟩
  f15 := ⟨Tryz.f155.name, by decide, Tryz.func155.trans (congrArg some (by kernel_rfl))⟩
  f16 := ⟨Tryz.f156.name, by decide, Tryz.func156.trans (congrArg some (by kernel_rfl))⟩
  f17 := ⟨Tryz.f157.name, by decide, Tryz.func157.trans (congrArg some (by kernel_rfl))⟩
  f18 := ⟨Tryz.f158.name, by decide, Tryz.func158.trans (congrArg some (by kernel_rfl))⟩
  f19 := Tryz.func159.trans (congrArg some (by kernel_rfl))
  f20 := Tryz.func160.trans (congrArg some (by kernel_rfl))
  f30 := ⟨Tryz.f192.name, by decide, Tryz.func192.trans (congrArg some (by kernel_rfl))⟩
  f31 := Tryz.func193.trans (congrArg some (by kernel_rfl))
  f32 := Tryz.func194.trans (congrArg some (by kernel_rfl))
  f33 := ⟨Tryz.f195.name, by decide, Tryz.func195.trans (congrArg some (by kernel_rfl))⟩
  f34 := ⟨Tryz.f196.name, by decide, Tryz.func196.trans (congrArg some (by kernel_rfl))⟩
  f35 := ⟨Tryz.f197.name, by decide, Tryz.func197.trans (congrArg some (by kernel_rfl))⟩
  f40 := ⟨Tryz.f218.name, by decide, Tryz.func218.trans (congrArg some (by kernel_rfl))⟩
  t0 := Tryz.underlying0
  a0 := Tryz.isAgg0
  z0 := Tryz.sizeOf0
  v0 := Tryz.zeroValue0
  t3 := Tryz.underlying3
  a3 := Tryz.isAgg3
  z3 := Tryz.sizeOf3
  v3 := Tryz.zeroValue3
  t4 := Tryz.underlying4
  a4 := Tryz.isAgg4
  z4 := Tryz.sizeOf4
  v4 := Tryz.zeroValue4
  t5 := Tryz.underlying5
  a5 := Tryz.isAgg5
  z5 := Tryz.sizeOf5
  v5 := Tryz.zeroValue5
  t9 := Tryz.underlying9
  a9 := Tryz.isAgg9
  z9 := Tryz.sizeOf9
  v9 := Tryz.zeroValue9
  t22 := Tryz.underlying39
  a22 := Tryz.isAgg39
  z22 := Tryz.sizeOf39
  v22 := Tryz.zeroValue39
  t23 := Tryz.underlying39
  a23 := Tryz.isAgg39
  z23 := Tryz.sizeOf39
  v23 := Tryz.zeroValue39
  t25 := Tryz.underlying3
  a25 := Tryz.isAgg3
  z25 := Tryz.sizeOf3
  v25 := Tryz.zeroValue3
  t32 := Tryz.underlying179
  a32 := Tryz.isAgg179
  z32 := Tryz.sizeOf179
  v32 := Tryz.zeroValue179
  t35 := Tryz.underlying194
  a35 := Tryz.isAgg194
  z35 := Tryz.sizeOf194
  v35 := Tryz.zeroValue194
  t36 := Tryz.underlying195
  a36 := Tryz.isAgg195
  z36 := Tryz.sizeOf195
  v36 := Tryz.zeroValue195
  t41 := Tryz.underlying137
  a41 := Tryz.isAgg137
  z41 := Tryz.sizeOf137
  v41 := Tryz.zeroValue137
  t44 := Tryz.underlying202
  a44 := Tryz.isAgg202
  z44 := Tryz.sizeOf202
  v44 := Tryz.zeroValue202
  t46 := Tryz.underlying204
  a46 := Tryz.isAgg204
  z46 := Tryz.sizeOf204
  v46 := Tryz.zeroValue204
  t53 := Tryz.underlying226
  a53 := Tryz.isAgg226
  z53 := Tryz.sizeOf226
  v53 := Tryz.zeroValue226
  t57 := Tryz.underlying229
  a57 := Tryz.isAgg229
  z57 := Tryz.sizeOf229
  v57 := Tryz.zeroValue229
  t63 := Tryz.underlying249
  a63 := Tryz.isAgg249
  z63 := Tryz.sizeOf249
  v63 := Tryz.zeroValue249
  t64 := Tryz.underlying250
  a64 := Tryz.isAgg250
  z64 := Tryz.sizeOf250
  v64 := Tryz.zeroValue250 }
def Tryz.ikeys48_ren : Go.Shelf.Ren := ⟨fun | 7 => 48 | 10 => 86 | n => n, fun | 23 => 26 | 26 => 3 | 3 => 29 | 28 => 96 | 0 => 0 | 27 => 95 | 33 => 37 | 4 => 4 | n => n, fun | n => n⟩
theorem Tryz.ikeys48 : Go.Proofs.SlLaysZI.n7 Tryz.prog Tryz.ikeys48_ren := {
  mixed := by kernel_rfl
  f7 := ⟨Tryz.f48.name, by decide, Tryz.func48.trans (congrArg some (by kernel_rfl))⟩
  f10 := ⟨Tryz.f86.name, by decide, Tryz.func86.trans (congrArg some (by kernel_rfl))⟩
  t0 := Tryz.underlying0
  a0 := Tryz.isAgg0
  z0 := Tryz.sizeOf0
  v0 := Tryz.zeroValue0
  t4 := Tryz.underlying4
  a4 := Tryz.isAgg4
  z4 := Tryz.sizeOf4
  v4 := Tryz.zeroValue4
  t23 := Tryz.underlying26
  a23 := Tryz.isAgg26
  z23 := Tryz.sizeOf26
  v23 := Tryz.zeroValue26
  t26 := Tryz.underlying3
  a26 := Tryz.isAgg3
  z26 := Tryz.sizeOf3
  v26 := Tryz.zeroValue3
  t27 := Tryz.underlying95
  a27 := Tryz.isAgg95
  z27 := Tryz.sizeOf95
  v27 := Tryz.zeroValue95
  t28 := Tryz.underlying96
  a28 := Tryz.isAgg96
  z28 := Tryz.sizeOf96
  v28 := Tryz.zeroValue96
  t33 := Tryz.underlying37
  a33 := Tryz.isAgg37
  z33 := Tryz.sizeOf37
  v33 := Tryz.zeroValue37 }
open Go.RowKit Go.Maps Go.Sort in
/-- laid -/
theorem Tryz.isorts48 (m : Nat) : AnyZI.SortsIn Tryz.prog Tryz.isorted47_ren Fence.wide m :=
  ⟨fun blk off cap ss W hH hblk hsz => callsIn_wide.2 (AnyM.slices_Sort_int Tryz.isort85 blk off cap ss W hH hblk hsz),
   fun p cap W => callsIn_wide.2 (AnyM.slices_Sort_int_none Tryz.isort85 p cap W)⟩
open Go.RowKit Go.Maps Go.Sort in
/-- laid -/
theorem Tryz.maps_Keys_48 (mb : Option Nat) (W : World) : Calls Tryz.prog 48 #[.map mb] W fun e w' => e = .returned (.func (.func 86) #[] #[.pointer (some ⟨W.heap.size, 0, none⟩)]) ∧ w' = W.alloc (.cells #[.map mb] 26) :=
  (callsIn_wide (n := 5)).1 (AnyZI.keys_in Tryz.ikeys48 Fence.wide 5 trivial rfl mb W)
open Go.RowKit Go.Maps Go.Sort in
/-- laid -/
theorem Tryz.slices_Sorted_48 {H : Type} (b nn : Nat) (D0 : DataW H) (R : Value → Option (DataW H × List MemPlace)) (w : World) (hown : w.ownsMap Tryz.prog 3 R b nn D0) (hmax : Maps.size D0 ≤ maxLen) (hbytes : Maps.size D0 * 8 ≤ 140737488355328) :
    Calls Tryz.prog 47 #[.func (.func 86) #[] #[.pointer (some ⟨w.heap.size, 0, none⟩)]] (w.alloc (.cells #[.map (some b)] 26)) fun e w' => ∃ (v : Value) (ss : List Int), e = .returned v ∧ ss.Perm (intKeys D0) ∧
      w'.ownsRow (w.alloc (.cells #[.map (some b)] 26)).heap.size 3 1 v ss.length ((ss.mergeSort (fun x y => decide (x ≤ y))).map encZ) ∧ (v = .slice none 0 0 ↔ ss = []) ∧ Below (w.alloc (.cells #[.map (some b)] 26)).heap.size (w.alloc (.cells #[.map (some b)] 26)) w' := by
  have hbl := hown.lt
  have hseq : SeqGives Fence.wide 2 Tryz.prog 86 #[.pointer (some ⟨w.heap.size, 0, none⟩)] encZ (fun ss => ss.Perm (intKeys D0)) (Maps.size D0) (w.alloc (.cells #[.map (some b)] 26)) :=
    AnyZI.keys_gives (ρ := Tryz.ikeys48_ren) { Tryz.ikeys48 with } Fence.wide _ trivial rfl (by omega) w.heap.size b nn D0 _ (by simp) (by simp) (by
      obtain ⟨es, clock, hb, Ft, hs, hD⟩ := hown
      exact ⟨es, clock, (Below.heap_alloc _ _ b hbl).trans hb, Ft, hs, hD⟩)
  exact (callsIn_wide (n := 5)).1 (AnyZI.sorted_in Tryz.isorted47 Fence.wide 5 trivial trivial trivial trivial rfl (by omega) (Tryz.isorts48 _) (enters_of Tryz.func85 (by kernel_rfl) rfl) 86 #[.pointer (some ⟨w.heap.size, 0, none⟩)] trivial (enters_of Tryz.func86 (by kernel_rfl) rfl) _ _ hmax hbytes _ hseq)
end Go.Proofs

namespace Go.Proofs.YtloplmaekonenaaGreatDoor
set_option maxRecDepth 20000
open Go.RowKit Go.Maps Go.Sort

theorem own_row' {w : World} {B sz n : Nat} {e : TypeId} {v : Value} {xs : List Value} (h : w.ownsRow B e sz v n xs) : OwnSl w e sz v n xs ∧ ∀ k, v.ownBlock = some k → B ≤ k := by
  obtain ⟨h1, h2⟩ := h
  rcases h2 with ⟨rfl, rfl⟩ | ⟨g, cap, cur, rfl, h2, h3, h4, h5, h6, h7⟩
  · exact ⟨⟨h1, .inl ⟨rfl, rfl⟩⟩, fun k hk => by simp [Value.ownBlock] at hk⟩
  · exact ⟨⟨h1, .inr ⟨g, 0, cap, cur, rfl, h3, h4, h5, by omega, by simpa using h7⟩⟩, fun k hk => by simp [Value.ownBlock] at hk; subst hk; exact h2⟩
theorem MapR.keysI {w : World} {kt : TypeId} {b n : Nat} {f : Lit → Option Value} (h : MapR w kt b n f) (K : Maps.Keyed Tryz.prog kt) (hk : Tryz.prog.underlying kt = some (.int .i64)) {L : List Int} (hnd : L.Nodup) (hm : ∀ x, x ∈ L ↔ (f (.int .i64 x)).isSome = true) :
    ∃ D : DataW Value, w.ownsMap Tryz.prog kt rawR b n D ∧ L.Perm (intKeys D) ∧ Maps.size D = n := by
  obtain ⟨D, h1, h2, -, h4⟩ := h
  refine ⟨D, h1, ?_, h2⟩
  obtain ⟨es, hD, hpw, _⟩ := h1.entries K
  obtain ⟨es', hD', hko⟩ := h1.keysOf
  obtain rfl : es = es' := by rw [hD] at hD'; simpa using hD'
  subst hD
  exact perm_intKeys hpw (fun p hp => by obtain ⟨v, hv⟩ := hko p hp; obtain ⟨x, _, hx, _⟩ := Maps.keyOf_i64 hk hv; exact ⟨x, hx⟩) hnd (fun x => by rw [hm x, h4])
/-- Numbers, rising. -/
def riseI (L : List Int) : List Int := L.mergeSort leI
theorem keyed_i : Maps.Keyed Tryz.prog 3 := Maps.int_keyed Tryz.underlying3
theorem keyed_s : Maps.Keyed Tryz.prog 9 := Maps.string_keyed Tryz.underlying9

/-- What slices.Sorted hands back of a map's keys. -/
def SortedPost (w : World) (e : TypeId) (xs : List Value) (x : Ending) (w' : World) : Prop :=
  ∃ v, x = .returned v ∧ OwnSl w' e 1 v xs.length xs ∧ (∀ k, v.ownBlock = some k → w.heap.size ≤ k) ∧ Mod (fun _ => False) w w'
theorem fkeys_at (mb : Option Nat) (w : World) : Calls Tryz.prog 48 #[.map mb] w fun e w' => e = .returned (.func (.func 86) #[] #[.pointer (some ⟨w.heap.size, 0, none⟩)]) ∧ w' = w.alloc (.cells #[.map mb] 26) :=
  Tryz.maps_Keys_48 mb w
theorem fsorted_at {w : World} {b n : Nat} {f : Lit → Option Value} (h : MapR w 3 b n f) (hn : n ≤ 1000000) {L : List Int} (hnd : L.Nodup) (hm : ∀ x, x ∈ L ↔ (f (.int .i64 x)).isSome = true) :
    Calls Tryz.prog 47 #[.func (.func 86) #[] #[.pointer (some ⟨w.heap.size, 0, none⟩)]] (w.alloc (.cells #[.map (some b)] 26)) (SortedPost (w.alloc (.cells #[.map (some b)] 26)) 3 ((riseI L).map (Value.int .i64))) := by
  obtain ⟨D, h1, h2, h3⟩ := h.keysI keyed_i Tryz.underlying3 hnd hm
  refine (Tryz.slices_Sorted_48 b n D rawR w h1 (by rw [h3]; unfold maxLen; omega) (by rw [h3]; omega)).mono ?_
  rintro e w' ⟨v, ss, rfl, hp, hrow, -, hb⟩
  obtain ⟨r1, r2⟩ := own_row' hrow
  have hs : ss.mergeSort (fun x y => decide (x ≤ y)) = riseI L := mergeSort_of_perm_i (hp.trans h2.symm)
  have hl : ss.length = (riseI L).length := by rw [← hs, List.length_mergeSort]
  rw [hs, hl] at r1
  exact ⟨v, rfl, by rw [List.length_map]; exact r1, r2, ⟨hb.os, hb.tape, hb.output, hb.size, fun k hk _ => hb.block k hk⟩⟩
end Go.Proofs.YtloplmaekonenaaGreatDoor

namespace Go.Proofs.YtloplmaekonenaaGreatDoor
set_option maxRecDepth 20000
open Go.RowKit

/-- A condition, and whose. -/
def pcell (p : Int × Cnd) : List Value := .int .i64 p.1 :: p.2.cells
def pls (l : List (Int × Cnd)) : List Value := l.flatMap pcell
theorem pls_append (l m : List (Int × Cnd)) : pls (l ++ m) = pls l ++ pls m := by unfold pls; rw [List.flatMap_append]
theorem pls_length (l : List (Int × Cnd)) : (pls l).length = l.length * 8 := flat_length (f := pcell) (sz := 8) (fun _ => rfl) l
/-- A filter: its scope, its conditions. -/
abbrev Fil := ByteArray × List Cnd
/-- The filter of a number. -/
def idxF (I : List (Int × Fil)) (id : Int) : Option Fil := (I.find? fun p => p.1 == id).map Prod.snd
/-- A map's value is a filter, whose conditions nobody writes. -/
def FilIs (w : World) (own C : Nat → Prop) : Option Value → Option Fil → Prop
  | none, none => True
  | some v, some q => ∃ a cap, v = .agg #[.string q.1, .slice a q.2.length cap] ∧ OwnSl w 81 7 (.slice a q.2.length cap) q.2.length (cnds q.2) ∧ ∀ k, (Value.slice a q.2.length cap).ownBlock = some k → k < w.heap.size ∧ ¬ own k ∧ C k
  | _, _ => False
/-- The conditions of that name. -/
def ofName (q : Option Fil) (nm : ByteArray) : List Cnd := match q with | some q => q.2.filter fun c => c.name.data.toList == nm.data.toList | none => []
/-- What stands under a name. -/
def Plac (w : World) (own : Nat → Prop) (I : List (Int × Fil)) (T : Nat) (nm : ByteArray) (v : Value) : Prop :=
  ∃ ps : List (Int × Cnd), OwnSl w 85 8 v ps.length (pls ps) ∧ ps.length ≤ T ∧ (∀ k, v.ownBlock = some k → own k) ∧ ∀ id, (ps.filter fun p => p.1 == id).map Prod.snd = ofName (idxF I id) nm
def Lit.str (nm : ByteArray) : Lit := .string nm.data.toList
def nilS : Value := .slice none 0 0
/-- The map of names. -/
def PMap (w : World) (b m1 m2 : Nat) (own : Nat → Prop) (I : List (Int × Fil)) (T : Nat) : Prop :=
  ∃ n f, MapR w 9 m2 n f ∧ n ≤ T ∧ (∀ nm : ByteArray, Plac w own I T nm ((f (Lit.str nm)).getD nilS)) ∧
    (∀ nm k, ((f (Lit.str nm)).getD nilS).ownBlock = some k → k ≠ b ∧ k ≠ m1 ∧ k ≠ m2) ∧ ∀ nm nm' k, ((f (Lit.str nm)).getD nilS).ownBlock = some k → ((f (Lit.str nm')).getD nilS).ownBlock = some k → nm = nm'
/-- The map of filters. -/
def FMap (w : World) (m1 : Nat) (own C : Nat → Prop) (I : List (Int × Fil)) : Prop := ∃ f, MapR w 3 m1 I.length f ∧ ∀ id : Int, FilIs w own C (f (.int .i64 id)) (idxF I id)
/-- An index in memory: its own blocks are those of 'own'; 'T' bounds what it ever held. -/
structure IdxAt (w : World) (b m1 m2 : Nat) (own C : Nat → Prop) (I : List (Int × Fil)) (T : Nat) : Prop where
  row : w.heap[b]? = some (.cells #[.map (some m1), .map (some m2)] 76 (0, 0))
  nd : (I.map Prod.fst).Nodup
  ob : own b ∧ own m1 ∧ own m2
  ne : b ≠ m1 ∧ b ≠ m2 ∧ m1 ≠ m2
  fm : FMap w m1 own C I
  pm : PMap w b m1 m2 own I T
  low : I.length ≤ T
  olow : ∀ k, own k → k < w.heap.size
  clow : ∀ k, C k → k < w.heap.size
  wf : ∀ p ∈ I, (Lit.int .i64 p.1).wf = true ∧ p.2.2.length ≤ 19 ∧ ∀ c ∈ p.2.2, c.fits
  sc : ∀ p ∈ I, p.2.1.size ≤ 1000000
/-- An index. -/
def Idx (w : World) (b : Nat) (own C : Nat → Prop) (I : List (Int × Fil)) (T : Nat) : Prop := ∃ m1 m2, IdxAt w b m1 m2 own C I T

theorem FilIs.mod {w w' : World} {F own C : Nat → Prop} {v : Option Value} {q : Option Fil} (h : FilIs w own C v q) (hm : Mod F w w') (hF : ∀ k, k < w.heap.size → F k → own k) : FilIs w' own C v q := by
  cases v <;> cases q
  · trivial
  · exact h
  · exact h
  · obtain ⟨a, cap, h1, h2, h3⟩ := h
    exact ⟨a, cap, h1, h2.mod hm (fun k hk hf => (h3 k hk).2.1 (hF k (h3 k hk).1 hf)), fun k hk => ⟨Nat.lt_of_lt_of_le (h3 k hk).1 hm.size, (h3 k hk).2⟩⟩
theorem FMap.mod {w w' : World} {m1 : Nat} {F own C : Nat → Prop} {I : List (Int × Fil)} (h : FMap w m1 own C I) (hm : Mod F w w') (h1 : ¬ F m1) (hF : ∀ k, k < w.heap.size → F k → own k) : FMap w' m1 own C I := by
  obtain ⟨f, h2, h3⟩ := h
  exact ⟨f, h2.mod hm h1, fun id => (h3 id).mod hm hF⟩
theorem PMap.mod {w w' : World} {b m1 m2 : Nat} {F own : Nat → Prop} {I : List (Int × Fil)} {T : Nat} (h : PMap w b m1 m2 own I T) (hm : Mod F w w') (h2 : ¬ F m2) (hF : ∀ k, own k → k ≠ b → k ≠ m1 → k ≠ m2 → k < w.heap.size → ¬ F k) : PMap w' b m1 m2 own I T := by
  obtain ⟨n, f2, g1, g2, g3, g4, g5⟩ := h
  refine ⟨n, f2, g1.mod hm h2, g2, fun nm => ?_, g4, g5⟩
  obtain ⟨ps, p1, p2, p3, p4⟩ := g3 nm
  exact ⟨ps, p1.mod hm (fun k hk => hF k (p3 k hk) (g4 nm k hk).1 (g4 nm k hk).2.1 (g4 nm k hk).2.2 (p1.lt k hk)), p2, p3, p4⟩
theorem PMap.cong {w : World} {b m1 m2 : Nat} {own own' : Nat → Prop} {I I' : List (Int × Fil)} {T T' : Nat} (h : PMap w b m1 m2 own I T) (ho : ∀ k, k < w.heap.size → own k → own' k) (hI : ∀ id nm, ofName (idxF I' id) nm = ofName (idxF I id) nm) (hT : T ≤ T') : PMap w b m1 m2 own' I' T' := by
  obtain ⟨n, f2, g1, g2, g3, g4, g5⟩ := h
  refine ⟨n, f2, g1, Nat.le_trans g2 hT, fun nm => ?_, g4, g5⟩
  obtain ⟨ps, p1, p2, p3, p4⟩ := g3 nm
  exact ⟨ps, p1, Nat.le_trans p2 hT, fun k hk => ho k (p1.lt k hk) (p3 k hk), fun id => by rw [hI]; exact p4 id⟩
/-- What is not written stays. -/
theorem IdxAt.mod2 {w w' : World} {b m1 m2 : Nat} {own C F : Nat → Prop} {I : List (Int × Fil)} {T : Nat} (h : IdxAt w b m1 m2 own C I T) (hm : Mod F w w') (hF : ∀ k, k < w.heap.size → F k → ¬ own k ∧ ¬ C k) : IdxAt w' b m1 m2 own C I T := by
  have hn : ∀ k, own k → ¬ F k := fun k hk hf => (hF k (h.olow k hk) hf).1 hk
  refine ⟨hm.heap h.row (hn _ h.ob.1), h.nd, h.ob, h.ne, ?_, h.pm.mod hm (hn _ h.ob.2.2) (fun k hk _ _ _ _ => hn k hk), h.low, fun k hk => Nat.lt_of_lt_of_le (h.olow k hk) hm.size, fun k hk => Nat.lt_of_lt_of_le (h.clow k hk) hm.size, h.wf, h.sc⟩
  obtain ⟨f, h1, h2⟩ := h.fm
  refine ⟨f, h1.mod hm (hn _ h.ob.2.1), fun id => ?_⟩
  have h3 := h2 id
  cases hf : f (.int .i64 id) <;> cases hi : idxF I id <;> rw [hf, hi] at h3
  · trivial
  · exact h3
  · exact h3
  · obtain ⟨a, cap, e1, e2, e3⟩ := h3
    exact ⟨a, cap, e1, e2.mod hm (fun k hk hf => (hF k (e3 k hk).1 hf).2 (e3 k hk).2.2), fun k hk => ⟨Nat.lt_of_lt_of_le (e3 k hk).1 hm.size, (e3 k hk).2⟩⟩
theorem Idx.mod2 {w w' : World} {b : Nat} {own C F : Nat → Prop} {I : List (Int × Fil)} {T : Nat} (h : Idx w b own C I T) (hm : Mod F w w') (hF : ∀ k, k < w.heap.size → F k → ¬ own k ∧ ¬ C k) : Idx w' b own C I T := by
  obtain ⟨m1, m2, h⟩ := h
  exact ⟨m1, m2, h.mod2 hm hF⟩
theorem IdxAt.mod {w w' : World} {b m1 m2 : Nat} {own C F : Nat → Prop} {I : List (Int × Fil)} {T : Nat} (h : IdxAt w b m1 m2 own C I T) (hm : Mod F w w') (hF : ∀ k, k < w.heap.size → ¬ F k) : IdxAt w' b m1 m2 own C I T := h.mod2 hm (fun k hk hf => absurd hf (hF k hk))
theorem Idx.mod {w w' : World} {b : Nat} {own C F : Nat → Prop} {I : List (Int × Fil)} {T : Nat} (h : Idx w b own C I T) (hm : Mod F w w') (hF : ∀ k, k < w.heap.size → ¬ F k) : Idx w' b own C I T := h.mod2 hm (fun k hk hf => absurd hf (hF k hk))
theorem Idx.low {w : World} {b : Nat} {own C : Nat → Prop} {I : List (Int × Fil)} {T : Nat} (h : Idx w b own C I T) : (∀ k, own k → k < w.heap.size) ∧ ∀ k, C k → k < w.heap.size := by
  obtain ⟨m1, m2, h⟩ := h
  exact ⟨h.olow, h.clow⟩

/-- What New leaves. -/
def INewPost (w : World) (e : Ending) (w' : World) : Prop := ∃ b own, e = .returned (.pointer (some ⟨b, 0, none⟩)) ∧ Idx w' b own (fun _ => False) [] 0 ∧ (∀ k, own k → w.heap.size ≤ k ∧ k < w'.heap.size) ∧ Mod (fun _ => False) w w'
set_option maxHeartbeats 1000000 in
theorem inew_at (w : World) : Calls Tryz.prog 14 #[] w (INewPost w) := by
  obtain ⟨wa, hwa⟩ : ∃ wa : World, w.alloc (.map #[] 0) = wa := ⟨_, rfl⟩
  have hmwa : Mod (fun _ => False) w wa := hwa ▸ (Mod.refl (fun _ => False) w).alloc _
  have hgwa := heap_alloc_new w (.map #[] 0)
  rw [hwa] at hgwa
  have hzwa : wa.heap.size = w.heap.size + 1 := by rw [← hwa]; simp
  obtain ⟨wb, hwb⟩ : ∃ wb : World, wa.alloc (.map #[] 0) = wb := ⟨_, rfl⟩
  have hmwb : Mod (fun _ => False) wa wb := hwb ▸ (Mod.refl (fun _ => False) wa).alloc _
  have hgwb := heap_alloc_new wa (.map #[] 0)
  rw [hwb] at hgwb
  have hzwb : wb.heap.size = wa.heap.size + 1 := by rw [← hwb]; simp
  obtain ⟨wc, hwc⟩ : ∃ wc : World, wb.alloc (.cells #[.map (some w.heap.size), .map (some wa.heap.size)] 76) = wc := ⟨_, rfl⟩
  have hmwc : Mod (fun _ => False) wb wc := hwc ▸ (Mod.refl (fun _ => False) wb).alloc _
  have hgwc := heap_alloc_new wb (.cells #[.map (some w.heap.size), .map (some wa.heap.size)] 76)
  rw [hwc] at hgwc
  have hzwc : wc.heap.size = wb.heap.size + 1 := by rw [← hwc]; simp
  have h1 : MapR wc 3 w.heap.size 0 (fun _ => none) := ((hwa ▸ MapR.made w 3 : MapR wa 3 w.heap.size 0 (fun _ => none)).mod hmwb (fun h => h)).mod hmwc (fun h => h)
  have h2 : MapR wc 9 wa.heap.size 0 (fun _ => none) := (hwb ▸ MapR.made wa 9 : MapR wb 9 wa.heap.size 0 (fun _ => none)).mod hmwc (fun h => h)
  have hi : IdxAt wc wb.heap.size w.heap.size wa.heap.size (fun k => k = w.heap.size ∨ k = wa.heap.size ∨ k = wb.heap.size) (fun _ => False) [] 0 :=
    ⟨hgwc, List.nodup_nil, ⟨.inr (.inr rfl), .inl rfl, .inr (.inl rfl)⟩, by omega, ⟨_, h1, fun _ => trivial⟩, ⟨0, _, h2, Nat.le_refl _, fun nm => ⟨[], OwnSl.nil _ _ _, Nat.le_refl _, fun k hk => by simp [nilS, Value.ownBlock] at hk, fun _ => rfl⟩,
      fun nm k hk => by simp [nilS, Value.ownBlock] at hk, fun nm nm' k hk => by simp [nilS, Value.ownBlock] at hk⟩, Nat.le_refl _, fun k hk => by omega, fun _ h => h.elim, fun p hp => (by cases hp), fun p hp => (by cases hp)⟩
  have hm : Mod (fun _ => False) w wc := (hmwa.trans hmwb (fun _ _ h => h)).trans hmwc (fun _ _ h => h)
  have hz : wb.heap.size = w.heap.size + 2 ∧ wa.heap.size = w.heap.size + 1 ∧ wc.heap.size = w.heap.size + 3 := by omega
  have Hwa := Lib.hid hwa
  have Hwb := Lib.hid hwb
  have Hwc := Lib.hid hwc
  have H1 := Lib.hid h1
  have H2 := Lib.hid h2
  have Hi := Lib.hid hi
  have Hm := Lib.hid hm
  have Hgwc := Lib.hid hgwc
  have Hgwa := Lib.hid hgwa
  have Hgwb := Lib.hid hgwb
  have Hz := Lib.hid hz
  clear hwa hwb hwc h1 h2 hi hm hgwc hgwa hgwb hz hmwa hmwb hmwc hzwa hzwb hzwc
  go_enter Tryz.func14, Tryz.ntmps14
  go_wp2_with (first | (rw [show w.alloc _ = wa from Hwa.out]) | (rw [show wa.alloc _ = wb from Hwb.out]) | (rw [show wb.alloc _ = wc from Hwc.out]) | fail)
  go_ret
  refine ⟨wb.heap.size, _, rfl, ⟨_, _, Hi.out⟩, fun k hk => ?_, Hm.out⟩
  have := Hz.out
  rcases hk with rfl | rfl | rfl <;> omega

theorem ilen_at (w : World) (b : Nat) (own C : Nat → Prop) (I : List (Int × Fil)) (T : Nat) (h : Idx w b own C I T) : Calls Tryz.prog 22 #[.pointer (some ⟨b, 0, none⟩)] w fun e w' => e = .returned (.int .i64 I.length) ∧ w = w' := by
  obtain ⟨m1, m2, h⟩ := h
  obtain ⟨f, h1, -⟩ := h.fm
  have c0 : w.cell? ⟨b, 0, none⟩ = some (.map (some m1)) := cell_of h.row rfl
  have hl := fun ty => h1.len Tryz.underlying26 ty
  have H := Lib.hid h
  have H1 := Lib.hid h1
  clear h h1
  go_enter Tryz.func22, Tryz.ntmps22
  go_wp2
  go_ret
  exact ⟨rfl, rfl⟩
end Go.Proofs.YtloplmaekonenaaGreatDoor
