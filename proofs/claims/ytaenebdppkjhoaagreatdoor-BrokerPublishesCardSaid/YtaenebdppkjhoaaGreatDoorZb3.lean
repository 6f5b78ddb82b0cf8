/- Lemmas of this claim. -/
import Derived.Test.YtaenebdppkjhoaaGreatDoorZa1
import Derived.Test.YtaenebdppkjhoaaGreatDoorZa10
import Derived.Test.YtaenebdppkjhoaaGreatDoorZa11
import Derived.Test.YtaenebdppkjhoaaGreatDoorZa12
import Derived.Test.YtaenebdppkjhoaaGreatDoorZa13
import Derived.Test.YtaenebdppkjhoaaGreatDoorZa14
import Derived.Test.YtaenebdppkjhoaaGreatDoorZa15
import Derived.Test.YtaenebdppkjhoaaGreatDoorZa16
import Derived.Test.YtaenebdppkjhoaaGreatDoorZa17
import Derived.Test.YtaenebdppkjhoaaGreatDoorZa18
import Derived.Test.YtaenebdppkjhoaaGreatDoorZa19
import Derived.Test.YtaenebdppkjhoaaGreatDoorZa2
import Derived.Test.YtaenebdppkjhoaaGreatDoorZa20
import Derived.Test.YtaenebdppkjhoaaGreatDoorZa21
import Derived.Test.YtaenebdppkjhoaaGreatDoorZa22
import Derived.Test.YtaenebdppkjhoaaGreatDoorZa23
import Derived.Test.YtaenebdppkjhoaaGreatDoorZa24
import Derived.Test.YtaenebdppkjhoaaGreatDoorZa25
import Derived.Test.YtaenebdppkjhoaaGreatDoorZa26
import Derived.Test.YtaenebdppkjhoaaGreatDoorZa27
import Derived.Test.YtaenebdppkjhoaaGreatDoorZa28
import Derived.Test.YtaenebdppkjhoaaGreatDoorZa29
import Derived.Test.YtaenebdppkjhoaaGreatDoorZa3
import Derived.Test.YtaenebdppkjhoaaGreatDoorZa30
import Derived.Test.YtaenebdppkjhoaaGreatDoorZa31
import Derived.Test.YtaenebdppkjhoaaGreatDoorZa32
import Derived.Test.YtaenebdppkjhoaaGreatDoorZa33
import Derived.Test.YtaenebdppkjhoaaGreatDoorZa34
import Derived.Test.YtaenebdppkjhoaaGreatDoorZa35
import Derived.Test.YtaenebdppkjhoaaGreatDoorZa36
import Derived.Test.YtaenebdppkjhoaaGreatDoorZa37
import Derived.Test.YtaenebdppkjhoaaGreatDoorZa38
import Derived.Test.YtaenebdppkjhoaaGreatDoorZa39
import Derived.Test.YtaenebdppkjhoaaGreatDoorZa4
import Derived.Test.YtaenebdppkjhoaaGreatDoorZa40
import Derived.Test.YtaenebdppkjhoaaGreatDoorZa41
import Derived.Test.YtaenebdppkjhoaaGreatDoorZa42
import Derived.Test.YtaenebdppkjhoaaGreatDoorZa43
import Derived.Test.YtaenebdppkjhoaaGreatDoorZa44
import Derived.Test.YtaenebdppkjhoaaGreatDoorZa45
import Derived.Test.YtaenebdppkjhoaaGreatDoorZa46
import Derived.Test.YtaenebdppkjhoaaGreatDoorZa47
import Derived.Test.YtaenebdppkjhoaaGreatDoorZa5
import Derived.Test.YtaenebdppkjhoaaGreatDoorZa6
import Derived.Test.YtaenebdppkjhoaaGreatDoorZa7
import Derived.Test.YtaenebdppkjhoaaGreatDoorZa8
import Derived.Test.YtaenebdppkjhoaaGreatDoorZa9
import Derived.Shelf.SlIter.Nil
import Derived.Shelf.SlIterI.Nil
import Derived.Shelf.SortM.Plain
import Derived.Shelf.SortM.SortNone
import Derived.Test.YtaenebdppkjhoaaGreatDoorProg
import Derived.Test.YtaenebdppkjhoaaGreatDoorZb2
import Derived.Maps.RangeWalk
import Derived.Test.YtaenebdppkjhoaaGreatDoorZb1
namespace Go.Proofs
open Go.Shelf
def Tryz.isorted96_ren : Go.Shelf.Ren := ⟨fun | 6 => 96 | 8 => 129 | 9 => 82 | 11 => 175 | 13 => 116 | 12 => 115 | 23 => 162 | 24 => 163 | 14 => 153 | 15 => 154 | 16 => 155 | 17 => 156 | 18 => 157 | 19 => 158 | 20 => 159 | 21 => 160 | 22 => 161 | 25 => 186 | 26 => 187 | 27 => 188 | 28 => 189 | 29 => 190 | 30 => 191 | 31 => 211 | n => n, fun | 26 => 9 | 28 => 177 | 24 => 74 | 0 => 0 | 3 => 3 | 37 => 194 | 48 => 231 | 50 => 221 | 4 => 4 | 40 => 225 | 39 => 224 | 45 => 166 | 5 => 5 | 9 => 9 | 51 => 244 | 55 => 248 | 57 => 271 | 58 => 272 | 33 => 76 | n => n, fun | n => n⟩
theorem Tryz.isorted96 : Go.Proofs.SlLaysZ.n6 Tryz.prog Tryz.isorted96_ren := {
 mixed := by kernel_rfl
 f6 := ⟨Tryz.f96.name, by decide, Tryz.func96.trans (congrArg some (by kernel_rfl))⟩
 f8 := ⟨Tryz.f129.name, by decide, Tryz.func129.trans (congrArg some (by kernel_rfl))⟩
 f11 := ⟨Tryz.f175.name, by decide, Tryz.func175.trans (congrArg some (by kernel_rfl))⟩
 t0 := Tryz.underlying0
 a0 := Tryz.isAgg0
 z0 := Tryz.sizeOf0
 v0 := Tryz.zeroValue0
 t24 := Tryz.underlying74
 a24 := Tryz.isAgg74
 z24 := Tryz.sizeOf74
 v24 := Tryz.zeroValue74
 t26 := Tryz.underlying9
 a26 := Tryz.isAgg9
 z26 := Tryz.sizeOf9
 v26 := Tryz.zeroValue9
 t28 := Tryz.underlying177
 a28 := Tryz.isAgg177
 z28 := Tryz.sizeOf177
 v28 := Tryz.zeroValue177
 i26 := by kernel_rfl }
def Tryz.isort82_ren : Go.Shelf.Ren := ⟨fun | 6 => 82 | 8 => 116 | 9 => 115 | 19 => 162 | 20 => 163 | 21 => 153 | 22 => 154 | 23 => 155 | 24 => 156 | 25 => 157 | 26 => 158 | 27 => 159 | 28 => 160 | 29 => 161 | 36 => 186 | 31 => 187 | 32 => 188 | 37 => 189 | 38 => 190 | 39 => 191 | 41 => 211 | n => n, fun | 27 => 74 | 29 => 9 | 3 => 3 | 32 => 194 | 26 => 74 | 0 => 0 | 44 => 231 | 46 => 221 | 4 => 4 | 36 => 225 | 35 => 224 | 41 => 166 | 5 => 5 | 9 => 9 | 53 => 244 | 57 => 248 | 63 => 271 | 64 => 272 | n => n, fun | n => n⟩
theorem Tryz.isort82 : Go.Proofs.SlLaysM.n6 Tryz.prog Tryz.isort82_ren := {
 mixed := by kernel_rfl
 f6 := ⟨Tryz.f82.name, by decide, Tryz.func82.trans (congrArg some (by kernel_rfl))⟩
 f8 := Tryz.func116.trans (congrArg some (by kernel_rfl))
 f9 := ⟨Tryz.f115.name, by decide, Tryz.func115.trans (congrArg some (by kernel_rfl))⟩
 f19 := Tryz.func162.trans (congrArg some (by kernel_rfl))
 f20 := Tryz.func163.trans (congrArg some (by kernel_rfl))
 f21 := ⟨Tryz.f153.name, by decide, Tryz.func153.trans (congrArg some (by kernel_rfl))⟩
 f22 := ⟨Tryz.f154.name, by decide, Tryz.func154.trans (congrArg some (by kernel_rfl))⟩
 f23 := ⟨Tryz.f155.name, by decide, Tryz.func155.trans (congrArg some (by kernel_rfl))⟩
 f24 := ⟨Tryz.f156.name, by decide, Tryz.func156.trans (congrArg some (by kernel_rfl))⟩
 f25 := ⟨Tryz.f157.name, by decide, Tryz.func157.trans (congrArg some (by kernel_rfl))⟩
 f26 := ⟨Tryz.f158.name, by decide, Tryz.func158.trans (congrArg some (by kernel_rfl))⟩
 f27 := ⟨Tryz.f159.name, by decide, Tryz.func159.trans (congrArg some (by kernel_rfl))⟩
 f28 := ⟨Tryz.f160.name, by decide, Tryz.func160.trans (congrArg some (by kernel_rfl))⟩
 f29 := ⟨Tryz.f161.name, by decide, Tryz.func161.trans (congrArg some (by kernel_rfl))⟩
 f31 := Tryz.func187.trans (congrArg some (by kernel_rfl))
 f32 := Tryz.func188.trans (congrArg some (by kernel_rfl))
 f36 := ⟨Tryz.f186.name, by decide, Tryz.func186.trans (congrArg some (by kernel_rfl))⟩
 f37 := ⟨Tryz.f189.name, by decide, Tryz.func189.trans (congrArg some (by kernel_rfl))⟩
 f38 := ⟨Tryz.f190.name, by decide, Tryz.func190.trans (congrArg some (by kernel_rfl))⟩
 f39 := ⟨Tryz.f191.name, by decide, Tryz.func191.trans (congrArg some (by kernel_rfl))⟩
 f41 := ⟨Tryz.f211.name, by decide, Tryz.func211.trans (congrArg some (by kernel_rfl))⟩
 t0 := Tryz.underlying0
 a0 := Tryz.isAgg0
 z0 := Tryz.sizeOf0
 v0 := Tryz.zeroValue0
 t3 := Tryz.underlying3
 a3 := Tryz.isAgg3
 z3 := Tryz.sizeOf3
 v3 := Tryz.zeroValue3
 t4 := Tryz.underlying4
 a4 := Tryz.isAgg4
 z4 := Tryz.sizeOf4
 v4 := Tryz.zeroValue4
 t5 := Tryz.underlying5
 a5 := Tryz.isAgg5
 z5 := Tryz.sizeOf5
 v5 := Tryz.zeroValue5
 t9 := Tryz.underlying9
 a9 := Tryz.isAgg9
 z9 := Tryz.sizeOf9
 v9 := Tryz.zeroValue9
 t26 := Tryz.underlying74
 a26 := Tryz.isAgg74
 z26 := Tryz.sizeOf74
 v26 := Tryz.zeroValue74
 t27 := Tryz.underlying74
 a27 := Tryz.isAgg74
 z27 := Tryz.sizeOf74
 v27 := Tryz.zeroValue74
 t29 := Tryz.underlying9
 a29 := Tryz.isAgg9
 z29 := Tryz.sizeOf9
 v29 := Tryz.zeroValue9
 t32 := Tryz.underlying194
 a32 := Tryz.isAgg194
 z32 := Tryz.sizeOf194
 v32 := Tryz.zeroValue194
 t35 := Tryz.underlying224
 a35 := Tryz.isAgg224
 z35 := Tryz.sizeOf224
 v35 := Tryz.zeroValue224
 t36 := Tryz.underlying225
 a36 := Tryz.isAgg225
 z36 := Tryz.sizeOf225
 v36 := Tryz.zeroValue225
 t41 := Tryz.underlying166
 a41 := Tryz.isAgg166
 z41 := Tryz.sizeOf166
 v41 := Tryz.zeroValue166
 t44 := Tryz.underlying231
 a44 := Tryz.isAgg231
 z44 := Tryz.sizeOf231
 v44 := Tryz.zeroValue231
 t46 := Tryz.underlying221
 a46 := Tryz.isAgg221
 z46 := Tryz.sizeOf221
 v46 := Tryz.zeroValue221
 t53 := Tryz.underlying244
 a53 := Tryz.isAgg244
 z53 := Tryz.sizeOf244
 v53 := Tryz.zeroValue244
 t57 := Tryz.underlying248
 a57 := Tryz.isAgg248
 z57 := Tryz.sizeOf248
 v57 := Tryz.zeroValue248
 t63 := Tryz.underlying271
 a63 := Tryz.isAgg271
 z63 := Tryz.sizeOf271
 v63 := Tryz.zeroValue271
 t64 := Tryz.underlying272
 a64 := Tryz.isAgg272
 z64 := Tryz.sizeOf272
 v64 := Tryz.zeroValue272 }
def Tryz.ikeys97_ren : Go.Shelf.Ren := ⟨fun | 7 => 97 | 10 => 130 | n => n, fun | 23 => 174 | 26 => 9 | 3 => 33 | 28 => 177 | 0 => 0 | 27 => 176 | 33 => 76 | 4 => 4 | n => n, fun | n => n⟩
theorem Tryz.ikeys97 : Go.Proofs.SlLaysZ.n7 Tryz.prog Tryz.ikeys97_ren := {
 mixed := by kernel_rfl
 f7 := ⟨Tryz.f97.name, by decide, Tryz.func97.trans (congrArg some (by kernel_rfl))⟩
 f10 := ⟨Tryz.f130.name, by decide, Tryz.func130.trans (congrArg some (by kernel_rfl))⟩
 t0 := Tryz.underlying0
 a0 := Tryz.isAgg0
 z0 := Tryz.sizeOf0
 v0 := Tryz.zeroValue0
 t4 := Tryz.underlying4
 a4 := Tryz.isAgg4
 z4 := Tryz.sizeOf4
 v4 := Tryz.zeroValue4
 t23 := Tryz.underlying174
 a23 := Tryz.isAgg174
 z23 := Tryz.sizeOf174
 v23 := Tryz.zeroValue174
 t26 := Tryz.underlying9
 a26 := Tryz.isAgg9
 z26 := Tryz.sizeOf9
 v26 := Tryz.zeroValue9
 t27 := Tryz.underlying176
 a27 := Tryz.isAgg176
 z27 := Tryz.sizeOf176
 v27 := Tryz.zeroValue176
 t28 := Tryz.underlying177
 a28 := Tryz.isAgg177
 z28 := Tryz.sizeOf177
 v28 := Tryz.zeroValue177
 t33 := Tryz.underlying76
 a33 := Tryz.isAgg76
 z33 := Tryz.sizeOf76
 v33 := Tryz.zeroValue76 }
open Go.RowKit Go.Maps Go.Sort in
theorem Tryz.isorts97 (m : Nat) : AnyZ.SortsIn Tryz.prog Tryz.isorted96_ren Fence.wide m :=
 ⟨fun blk off cap ss W hH hblk hsz => callsIn_wide.2 (AnyM.slices_Sort_string Tryz.isort82 blk off cap ss W hH hblk hsz),
  fun p cap W => callsIn_wide.2 (AnyM.slices_Sort_string_none Tryz.isort82 p cap W)⟩
open Go.RowKit Go.Maps Go.Sort in
theorem Tryz.maps_Keys_97 (mb : Option Nat) (W : World) : Calls Tryz.prog 97 #[.map mb] W fun e w' => e = .returned (.func (.func 130) #[] #[.pointer (some ⟨W.heap.size, 0, none⟩)]) ∧ w' = W.alloc (.cells #[.map mb] 174) :=
 (callsIn_wide (n := 5)).1 (AnyZ.keys_in Tryz.ikeys97 Fence.wide 5 trivial rfl mb W)
open Go.RowKit Go.Maps Go.Sort in
theorem Tryz.slices_Sorted_97 {H : Type} (b nn : Nat) (D0 : DataW H) (R : Value → Option (DataW H × List MemPlace)) (w : World) (hown : w.ownsMap Tryz.prog 9 R b nn D0) (hmax : Maps.size D0 ≤ maxLen) (hbytes : Maps.size D0 * 16 ≤ 140737488355328) :
 Calls Tryz.prog 96 #[.func (.func 130) #[] #[.pointer (some ⟨w.heap.size, 0, none⟩)]] (w.alloc (.cells #[.map (some b)] 174)) fun e w' => ∃ (v : Value) (ss : List (List UInt8)), e = .returned v ∧ ss.Perm (strKeys D0) ∧
  w'.ownsRow (w.alloc (.cells #[.map (some b)] 174)).heap.size 9 1 v ss.length ((ss.mergeSort (fun x y => decide (x ≤ y))).map encStr) ∧ (v = .slice none 0 0 ↔ ss = []) ∧ Below (w.alloc (.cells #[.map (some b)] 174)).heap.size (w.alloc (.cells #[.map (some b)] 174)) w' := by
 have hbl := hown.lt
 have hseq : SeqGives Fence.wide 2 Tryz.prog 130 #[.pointer (some ⟨w.heap.size, 0, none⟩)] encStr (fun ss => ss.Perm (strKeys D0)) (Maps.size D0) (w.alloc (.cells #[.map (some b)] 174)) :=
  AnyZ.keys_gives (ρ := Tryz.ikeys97_ren) { Tryz.ikeys97 with } Fence.wide _ trivial rfl (by omega) w.heap.size b nn D0 _ (by simp) (by simp) (by
   obtain ⟨es, clock, hb, Ft, hs, hD⟩ := hown
   exact ⟨es, clock, (Below.heap_alloc _ _ b hbl).trans hb, Ft, hs, hD⟩)
 exact (callsIn_wide (n := 5)).1 (AnyZ.sorted_in Tryz.isorted96 Fence.wide 5 trivial trivial trivial trivial rfl (by omega) (Tryz.isorts97 _) (enters_of Tryz.func82 (by kernel_rfl) rfl) 130 #[.pointer (some ⟨w.heap.size, 0, none⟩)] trivial (enters_of Tryz.func130 (by kernel_rfl) rfl) _ _ hmax hbytes _ hseq)
open Go.RowKit Go.Maps Go.Sort in
theorem Tryz.slices_Sorted_nil_97 (w : World) :
 Calls Tryz.prog 96 #[.func (.func 130) #[] #[.pointer (some ⟨w.heap.size, 0, none⟩)]] (w.alloc (.cells #[.map none] 174)) fun e w' => e = .returned (.slice none 0 0) ∧ Below (w.alloc (.cells #[.map none] 174)).heap.size (w.alloc (.cells #[.map none] 174)) w' := by
 have hseq : SeqGives Fence.wide 2 Tryz.prog 130 #[.pointer (some ⟨w.heap.size, 0, none⟩)] encStr (fun ss : List (List UInt8) => ss = []) 0 (w.alloc (.cells #[.map none] 174)) :=
  AnyZ.keys_gives_nil (ρ := Tryz.ikeys97_ren) { Tryz.ikeys97 with } Fence.wide _ trivial rfl w.heap.size _ (by simp) (by simp)
 refine ((callsIn_wide (n := 5)).1 (AnyZ.sorted_in Tryz.isorted96 Fence.wide 5 trivial trivial trivial trivial rfl (by omega) (Tryz.isorts97 _) (enters_of Tryz.func82 (by kernel_rfl) rfl) 130 #[.pointer (some ⟨w.heap.size, 0, none⟩)] trivial (enters_of Tryz.func130 (by kernel_rfl) rfl) _ 0 (Nat.zero_le _) (by omega) _ hseq)).mono ?_
 rintro e w' ⟨v, ss, rfl, rfl, hrow, hnil, hb⟩
 obtain rfl : v = .slice none 0 0 := hnil.2 rfl
 exact ⟨rfl, hb⟩
def Tryz.isorted122_ren : Go.Shelf.Ren := ⟨fun | 6 => 122 | 8 => 170 | 9 => 171 | 11 => 195 | 13 => 116 | 12 => 196 | 23 => 162 | 24 => 163 | 14 => 212 | 15 => 213 | 16 => 214 | 17 => 215 | 18 => 216 | 19 => 217 | 20 => 218 | 21 => 219 | 22 => 220 | 25 => 241 | 26 => 187 | 27 => 188 | 28 => 242 | 29 => 243 | 30 => 244 | 31 => 270 | n => n, fun | 26 => 3 | 28 => 201 | 24 => 23 | 0 => 0 | 3 => 3 | 37 => 194 | 48 => 231 | 50 => 221 | 4 => 4 | 40 => 225 | 39 => 224 | 45 => 166 | 5 => 5 | 9 => 9 | 51 => 244 | 55 => 248 | 57 => 271 | 58 => 272 | 33 => 146 | n => n, fun | n => n⟩
theorem Tryz.isorted122 : Go.Proofs.SlLaysZI.n6 Tryz.prog Tryz.isorted122_ren := {
 mixed := by kernel_rfl
 f6 := ⟨Tryz.f122.name, by decide, Tryz.func122.trans (congrArg some (by kernel_rfl))⟩
 f8 := ⟨Tryz.f170.name, by decide, Tryz.func170.trans (congrArg some (by kernel_rfl))⟩
 f11 := ⟨Tryz.f195.name, by decide, Tryz.func195.trans (congrArg some (by kernel_rfl))⟩
 t0 := Tryz.underlying0
 a0 := Tryz.isAgg0
 z0 := Tryz.sizeOf0
 v0 := Tryz.zeroValue0
 t24 := Tryz.underlying23
 a24 := Tryz.isAgg23
 z24 := Tryz.sizeOf23
 v24 := Tryz.zeroValue23
 t26 := Tryz.underlying3
 a26 := Tryz.isAgg3
 z26 := Tryz.sizeOf3
 v26 := Tryz.zeroValue3
 t28 := Tryz.underlying201
 a28 := Tryz.isAgg201
 z28 := Tryz.sizeOf201
 v28 := Tryz.zeroValue201
 i26 := by kernel_rfl }
def Tryz.isort171_ren : Go.Shelf.Ren := ⟨fun | 5 => 171 | 8 => 116 | 7 => 196 | 19 => 162 | 20 => 163 | 10 => 212 | 11 => 213 | 12 => 214 | 13 => 215 | 14 => 216 | 15 => 217 | 16 => 218 | 17 => 219 | 18 => 220 | 30 => 241 | 31 => 187 | 32 => 188 | 33 => 242 | 34 => 243 | 35 => 244 | 40 => 270 | n => n, fun | 23 => 23 | 25 => 3 | 3 => 3 | 32 => 194 | 22 => 23 | 0 => 0 | 44 => 231 | 46 => 221 | 4 => 4 | 36 => 225 | 35 => 224 | 41 => 166 | 5 => 5 | 9 => 9 | 53 => 244 | 57 => 248 | 63 => 271 | 64 => 272 | n => n, fun | n => n⟩
theorem Tryz.isort171 : Go.Proofs.SlLaysM.n5 Tryz.prog Tryz.isort171_ren := {
 mixed := by kernel_rfl
 f5 := ⟨Tryz.f171.name, by decide, Tryz.func171.trans (congrArg some (by kernel_rfl))⟩
 f7 := ⟨Tryz.f196.name, by decide, Tryz.func196.trans (congrArg some (by kernel_rfl))⟩
 f8 := Tryz.func116.trans (congrArg some (by kernel_rfl))
 f10 := ⟨Tryz.f212.name, by decide, Tryz.func212.trans (congrArg some (by kernel_rfl))⟩
 f11 := ⟨Tryz.f213.name, by decide, Tryz.func213.trans (congrArg some (by kernel_rfl))⟩
 f12 := ⟨Tryz.f214.name, by decide, Tryz.func214.trans (congrArg some (by kernel_rfl))⟩
 f13 := ⟨Tryz.f215.name, by decide, Tryz.func215.trans (congrArg some (by kernel_rfl))⟩
 f14 := ⟨Tryz.f216.name, by decide, Tryz.func216.trans (congrArg some (by kernel_rfl))⟩
 f15 := ⟨Tryz.f217.name, by decide, Tryz.func217.trans (congrArg some (by kernel_rfl))⟩
 f16 := ⟨Tryz.f218.name, by decide, Tryz.func218.trans (congrArg some (by kernel_rfl))⟩
 f17 := ⟨Tryz.f219.name, by decide, Tryz.func219.trans (congrArg some (by kernel_rfl))⟩
 f18 := ⟨Tryz.f220.name, by decide, Tryz.func220.trans (congrArg some (by kernel_rfl))⟩
 f19 := Tryz.func162.trans (congrArg some (by kernel_rfl))
 f20 := Tryz.func163.trans (congrArg some (by kernel_rfl))
 f30 := ⟨Tryz.f241.name, by decide, Tryz.func241.trans (congrArg some (by kernel_rfl))⟩
 f31 := Tryz.func187.trans (congrArg some (by kernel_rfl))
 f32 := Tryz.func188.trans (congrArg some (by kernel_rfl))
 f33 := ⟨Tryz.f242.name, by decide, Tryz.func242.trans (congrArg some (by kernel_rfl))⟩
 f34 := ⟨Tryz.f243.name, by decide, Tryz.func243.trans (congrArg some (by kernel_rfl))⟩
 f35 := ⟨Tryz.f244.name, by decide, Tryz.func244.trans (congrArg some (by kernel_rfl))⟩
 f40 := ⟨Tryz.f270.name, by decide, Tryz.func270.trans (congrArg some (by kernel_rfl))⟩
 t0 := Tryz.underlying0
 a0 := Tryz.isAgg0
 z0 := Tryz.sizeOf0
 v0 := Tryz.zeroValue0
 t3 := Tryz.underlying3
 a3 := Tryz.isAgg3
 z3 := Tryz.sizeOf3
 v3 := Tryz.zeroValue3
 t4 := Tryz.underlying4
 a4 := Tryz.isAgg4
 z4 := Tryz.sizeOf4
 v4 := Tryz.zeroValue4
 t5 := Tryz.underlying5
 a5 := Tryz.isAgg5
 z5 := Tryz.sizeOf5
 v5 := Tryz.zeroValue5
 t9 := Tryz.underlying9
 a9 := Tryz.isAgg9
 z9 := Tryz.sizeOf9
 v9 := Tryz.zeroValue9
 t22 := Tryz.underlying23
 a22 := Tryz.isAgg23
 z22 := Tryz.sizeOf23
 v22 := Tryz.zeroValue23
 t23 := Tryz.underlying23
 a23 := Tryz.isAgg23
 z23 := Tryz.sizeOf23
 v23 := Tryz.zeroValue23
 t25 := Tryz.underlying3
 a25 := Tryz.isAgg3
 z25 := Tryz.sizeOf3
 v25 := Tryz.zeroValue3
 t32 := Tryz.underlying194
 a32 := Tryz.isAgg194
 z32 := Tryz.sizeOf194
 v32 := Tryz.zeroValue194
 t35 := Tryz.underlying224
 a35 := Tryz.isAgg224
 z35 := Tryz.sizeOf224
 v35 := Tryz.zeroValue224
 t36 := Tryz.underlying225
 a36 := Tryz.isAgg225
 z36 := Tryz.sizeOf225
 v36 := Tryz.zeroValue225
 t41 := Tryz.underlying166
 a41 := Tryz.isAgg166
 z41 := Tryz.sizeOf166
 v41 := Tryz.zeroValue166
 t44 := Tryz.underlying231
 a44 := Tryz.isAgg231
 z44 := Tryz.sizeOf231
 v44 := Tryz.zeroValue231
 t46 := Tryz.underlying221
 a46 := Tryz.isAgg221
 z46 := Tryz.sizeOf221
 v46 := Tryz.zeroValue221
 t53 := Tryz.underlying244
 a53 := Tryz.isAgg244
 z53 := Tryz.sizeOf244
 v53 := Tryz.zeroValue244
 t57 := Tryz.underlying248
 a57 := Tryz.isAgg248
 z57 := Tryz.sizeOf248
 v57 := Tryz.zeroValue248
 t63 := Tryz.underlying271
 a63 := Tryz.isAgg271
 z63 := Tryz.sizeOf271
 v63 := Tryz.zeroValue271
 t64 := Tryz.underlying272
 a64 := Tryz.isAgg272
 z64 := Tryz.sizeOf272
 v64 := Tryz.zeroValue272 }
def Tryz.ikeys123_ren : Go.Shelf.Ren := ⟨fun | 7 => 123 | 10 => 172 | n => n, fun | 23 => 157 | 26 => 3 | 3 => 33 | 28 => 201 | 0 => 0 | 27 => 200 | 33 => 146 | 4 => 4 | n => n, fun | n => n⟩
theorem Tryz.ikeys123 : Go.Proofs.SlLaysZI.n7 Tryz.prog Tryz.ikeys123_ren := {
 mixed := by kernel_rfl
 f7 := ⟨Tryz.f123.name, by decide, Tryz.func123.trans (congrArg some (by kernel_rfl))⟩
 f10 := ⟨Tryz.f172.name, by decide, Tryz.func172.trans (congrArg some (by kernel_rfl))⟩
 t0 := Tryz.underlying0
 a0 := Tryz.isAgg0
 z0 := Tryz.sizeOf0
 v0 := Tryz.zeroValue0
 t4 := Tryz.underlying4
 a4 := Tryz.isAgg4
 z4 := Tryz.sizeOf4
 v4 := Tryz.zeroValue4
 t23 := Tryz.underlying157
 a23 := Tryz.isAgg157
 z23 := Tryz.sizeOf157
 v23 := Tryz.zeroValue157
 t26 := Tryz.underlying3
 a26 := Tryz.isAgg3
 z26 := Tryz.sizeOf3
 v26 := Tryz.zeroValue3
 t27 := Tryz.underlying200
 a27 := Tryz.isAgg200
 z27 := Tryz.sizeOf200
 v27 := Tryz.zeroValue200
 t28 := Tryz.underlying201
 a28 := Tryz.isAgg201
 z28 := Tryz.sizeOf201
 v28 := Tryz.zeroValue201
 t33 := Tryz.underlying146
 a33 := Tryz.isAgg146
 z33 := Tryz.sizeOf146
 v33 := Tryz.zeroValue146 }
open Go.RowKit Go.Maps Go.Sort in
theorem Tryz.isorts123 (m : Nat) : AnyZI.SortsIn Tryz.prog Tryz.isorted122_ren Fence.wide m :=
 ⟨fun blk off cap ss W hH hblk hsz => callsIn_wide.2 (AnyM.slices_Sort_int Tryz.isort171 blk off cap ss W hH hblk hsz),
  fun p cap W => callsIn_wide.2 (AnyM.slices_Sort_int_none Tryz.isort171 p cap W)⟩
open Go.RowKit Go.Maps Go.Sort in
theorem Tryz.maps_Keys_123 (mb : Option Nat) (W : World) : Calls Tryz.prog 123 #[.map mb] W fun e w' => e = .returned (.func (.func 172) #[] #[.pointer (some ⟨W.heap.size, 0, none⟩)]) ∧ w' = W.alloc (.cells #[.map mb] 157) :=
 (callsIn_wide (n := 5)).1 (AnyZI.keys_in Tryz.ikeys123 Fence.wide 5 trivial rfl mb W)
open Go.RowKit Go.Maps Go.Sort in
theorem Tryz.slices_Sorted_123 {H : Type} (b nn : Nat) (D0 : DataW H) (R : Value → Option (DataW H × List MemPlace)) (w : World) (hown : w.ownsMap Tryz.prog 3 R b nn D0) (hmax : Maps.size D0 ≤ maxLen) (hbytes : Maps.size D0 * 8 ≤ 140737488355328) :
 Calls Tryz.prog 122 #[.func (.func 172) #[] #[.pointer (some ⟨w.heap.size, 0, none⟩)]] (w.alloc (.cells #[.map (some b)] 157)) fun e w' => ∃ (v : Value) (ss : List Int), e = .returned v ∧ ss.Perm (intKeys D0) ∧
  w'.ownsRow (w.alloc (.cells #[.map (some b)] 157)).heap.size 3 1 v ss.length ((ss.mergeSort (fun x y => decide (x ≤ y))).map encZ) ∧ (v = .slice none 0 0 ↔ ss = []) ∧ Below (w.alloc (.cells #[.map (some b)] 157)).heap.size (w.alloc (.cells #[.map (some b)] 157)) w' := by
 have hbl := hown.lt
 have hseq : SeqGives Fence.wide 2 Tryz.prog 172 #[.pointer (some ⟨w.heap.size, 0, none⟩)] encZ (fun ss => ss.Perm (intKeys D0)) (Maps.size D0) (w.alloc (.cells #[.map (some b)] 157)) :=
  AnyZI.keys_gives (ρ := Tryz.ikeys123_ren) { Tryz.ikeys123 with } Fence.wide _ trivial rfl (by omega) w.heap.size b nn D0 _ (by simp) (by simp) (by
   obtain ⟨es, clock, hb, Ft, hs, hD⟩ := hown
   exact ⟨es, clock, (Below.heap_alloc _ _ b hbl).trans hb, Ft, hs, hD⟩)
 exact (callsIn_wide (n := 5)).1 (AnyZI.sorted_in Tryz.isorted122 Fence.wide 5 trivial trivial trivial trivial rfl (by omega) (Tryz.isorts123 _) (enters_of Tryz.func171 (by kernel_rfl) rfl) 172 #[.pointer (some ⟨w.heap.size, 0, none⟩)] trivial (enters_of Tryz.func172 (by kernel_rfl) rfl) _ _ hmax hbytes _ hseq)
end Go.Proofs
namespace Go.Proofs.YtaenebdppkjhoaaGreatDoor
set_option maxRecDepth 20000
open Go.RowKit Go.Maps Go.Sort
theorem own_row' {w : World} {B sz n : Nat} {e : TypeId} {v : Value} {xs : List Value} (h : w.ownsRow B e sz v n xs) : OwnSl w e sz v n xs ∧ ∀ k, v.ownBlock = some k → B ≤ k := by
 obtain ⟨h1, h2⟩ := h
 rcases h2 with ⟨rfl, rfl⟩ | ⟨g, cap, cur, rfl, h2, h3, h4, h5, h6, h7⟩
 ·exact ⟨⟨h1, .inl ⟨rfl, rfl⟩⟩, fun k hk => by simp [Value.ownBlock] at hk⟩
 ·exact ⟨⟨h1, .inr ⟨g, 0, cap, cur, rfl, h3, h4, h5, by omega, by simpa using h7⟩⟩, fun k hk => by simp [Value.ownBlock] at hk; subst hk; exact h2⟩
theorem MapR.keysI {w : World} {kt : TypeId} {b n : Nat} {f : Lit → Option Value} (h : MapR w kt b n f) (K : Maps.Keyed Tryz.prog kt) (hk : Tryz.prog.underlying kt = some (.int .i64)) {L : List Int} (hnd : L.Nodup) (hm : ∀ x, x ∈ L ↔ (f (.int .i64 x)).isSome = true) :
 ∃ D : DataW Value, w.ownsMap Tryz.prog kt rawR b n D ∧ L.Perm (intKeys D) ∧ Maps.size D = n := by
 obtain ⟨D, h1, h2, -, h4⟩ := h
 refine ⟨D, h1, ?_, h2⟩
 obtain ⟨es, hD, hpw, _⟩ := h1.entries K
 obtain ⟨es', hD', hko⟩ := h1.keysOf
 obtain rfl : es = es' := by rw [hD] at hD'; simpa using hD'
 subst hD
 exact perm_intKeys hpw (fun p hp => by obtain ⟨v, hv⟩ := hko p hp; obtain ⟨x, _, hx, _⟩ := Maps.keyOf_i64 hk hv; exact ⟨x, hx⟩) hnd (fun x => by rw [hm x, h4])
theorem MapR.keysS {w : World} {kt : TypeId} {b n : Nat} {f : Lit → Option Value} (h : MapR w kt b n f) (K : Maps.Keyed Tryz.prog kt) (hk : Tryz.prog.underlying kt = some .string) {L : List (List UInt8)} (hnd : L.Nodup) (hm : ∀ x, x ∈ L ↔ (f (.string x)).isSome = true) :
 ∃ D : DataW Value, w.ownsMap Tryz.prog kt rawR b n D ∧ L.Perm (strKeys D) ∧ Maps.size D = n := by
 obtain ⟨D, h1, h2, -, h4⟩ := h
 refine ⟨D, h1, ?_, h2⟩
 obtain ⟨es, hD, hpw, _⟩ := h1.entries K
 obtain ⟨es', hD', hko⟩ := h1.keysOf
 obtain rfl : es = es' := by rw [hD] at hD'; simpa using hD'
 subst hD
 exact perm_strKeys hpw (fun p hp => by obtain ⟨v, hv⟩ := hko p hp; obtain ⟨x, _, hx, _⟩ := Maps.keyOf_str hk hv; exact ⟨x, hx⟩) hnd (fun x => by rw [hm x, h4])
def riseI (L : List Int) : List Int := L.mergeSort leI
def riseS (L : List (List UInt8)) : List (List UInt8) := L.mergeSort leB
def SortedPost (w : World) (e : TypeId) (xs : List Value) (x : Ending) (w' : World) : Prop :=
 ∃ v, x = .returned v ∧ OwnSl w' e 1 v xs.length xs ∧ (∀ k, v.ownBlock = some k → w.heap.size ≤ k) ∧ Mod (fun _ => False) w w'
theorem fkeys_at (mb : Option Nat) (w : World) : Calls Tryz.prog 123 #[.map mb] w fun e w' => e = .returned (.func (.func 172) #[] #[.pointer (some ⟨w.heap.size, 0, none⟩)]) ∧ w' = w.alloc (.cells #[.map mb] 157) :=
 Tryz.maps_Keys_123 mb w
theorem fsorted_at {w : World} {b n : Nat} {f : Lit → Option Value} (h : MapR w 3 b n f) (hn : n ≤ 1000000) {L : List Int} (hnd : L.Nodup) (hm : ∀ x, x ∈ L ↔ (f (.int .i64 x)).isSome = true) :
 Calls Tryz.prog 122 #[.func (.func 172) #[] #[.pointer (some ⟨w.heap.size, 0, none⟩)]] (w.alloc (.cells #[.map (some b)] 157)) (SortedPost (w.alloc (.cells #[.map (some b)] 157)) 3 ((riseI L).map (Value.int .i64))) := by
 obtain ⟨D, h1, h2, h3⟩ := h.keysI keyed_i Tryz.underlying3 hnd hm
 refine (Tryz.slices_Sorted_123 b n D rawR w h1 (by rw [h3]; unfold maxLen; omega) (by rw [h3]; omega)).mono ?_
 rintro e w' ⟨v, ss, rfl, hp, hrow, -, hb⟩
 obtain ⟨r1, r2⟩ := own_row' hrow
 have hs : ss.mergeSort (fun x y => decide (x ≤ y)) = riseI L := mergeSort_of_perm_i (hp.trans h2.symm)
 have hl : ss.length = (riseI L).length := by rw [← hs, List.length_mergeSort]
 rw [hs, hl] at r1
 exact ⟨v, rfl, by rw [List.length_map]; exact r1, r2, ⟨hb.os, hb.tape, hb.output, hb.size, fun k hk _ => hb.block k hk⟩⟩
end Go.Proofs.YtaenebdppkjhoaaGreatDoor
namespace Go.Proofs.YtaenebdppkjhoaaGreatDoor
set_option maxRecDepth 20000
open Go.RowKit
theorem idxF_some {I : List (Int × Fil)} {id : Int} {q : Fil} (h : idxF I id = some q) : (id, q) ∈ I := by
 unfold idxF at h
 cases hf : I.find? (fun p => p.1 == id) with
 | none => rw [hf] at h; cases h
 | some p =>
  rw [hf] at h
  cases h
  have h1 := List.find?_some hf
  have h2 := List.mem_of_find?_eq_some hf
  rw [beq_iff_eq] at h1
  rw [← h1]
  exact h2
theorem idxF_none {I : List (Int × Fil)} {id : Int} (h : idxF I id = none) : id ∉ I.map Prod.fst := by
 intro hm
 obtain ⟨p, hp, rfl⟩ := List.mem_map.1 hm
 unfold idxF at h
 cases hf : I.find? (fun q => q.1 == p.1) with
 | none =>
  have := List.find?_eq_none.1 hf p hp
  simp at this
 | some q => rw [hf] at h; cases h
attribute [local go_sem ↓] run_load_cd
end Go.Proofs.YtaenebdppkjhoaaGreatDoor
namespace Go.Proofs.YtaenebdppkjhoaaGreatDoor
set_option maxRecDepth 20000
open Go.RowKit
theorem tabF_some {M : List (Int × Fil)} {id : Int} {k : List UInt8} {q : Fil} (h : tabF M id k = some q) : (id, q) ∈ M ∧ keyF q = k := by
 unfold tabF at h
 obtain ⟨p, h1, rfl⟩ := Option.map_eq_some_iff.1 h
 have h2 := List.find?_some h1
 simp only [Bool.and_eq_true, beq_iff_eq] at h2
 obtain ⟨x, q⟩ := p
 obtain ⟨rfl, h3⟩ := h2
 exact ⟨List.mem_of_find?_eq_some h1, h3⟩
theorem tabF_none {M : List (Int × Fil)} {id : Int} {k : List UInt8} (h : tabF M id k = none) : ∀ q, (id, q) ∈ M → keyF q ≠ k := fun q hq e => by
 unfold tabF at h
 rw [Option.map_eq_none_iff, List.find?_eq_none] at h
 have := h _ hq
 simp [e] at this
end Go.Proofs.YtaenebdppkjhoaaGreatDoor
namespace Go.Proofs.YtaenebdppkjhoaaGreatDoor
set_option maxRecDepth 20000
open Go.RowKit
theorem pcell_length (p : Int × Cnd) : (pcell p).length = 8 := rfl
theorem flat_at {α : Type} {f : α → List Value} {sz : Nat} (hf : ∀ a, (f a).length = sz) (l : List α) {k j : Nat} {a : α} {u : Value} (h : l[k]? = some a) (hj : (f a)[j]? = some u) : (l.flatMap f)[k * sz + j]? = some u := by
 induction l generalizing k with
 | nil => simp at h
 | cons b l ih =>
  rw [List.flatMap_cons]
  have hl := (List.getElem?_eq_some_iff.1 hj).1
  cases k with
  | zero =>
   simp only [List.getElem?_cons_zero, Option.some.injEq] at h
   subst h
   rw [List.getElem?_append_left (by omega), Nat.zero_mul, Nat.zero_add, hj]
  | succ k =>
   rw [List.getElem?_cons_succ] at h
   rw [List.getElem?_append_right (by rw [hf, Nat.add_mul]; omega), hf, show (k + 1) * sz + j - sz = k * sz + j by rw [Nat.add_mul]; omega]
   exact ih h
theorem rd_el {α : Type} {f : α → List Value} {sz : Nat} (hf : ∀ a, (f a).length = sz) {w : World} {a : Option Addr} {cap : Nat} {l : List α} {j : Nat} {x : α} (h : RdSl w sz (.slice a l.length cap) l.length (l.flatMap f)) (hx : l[j]? = some x) : ∃ g off, a = some ⟨g, off, none⟩ ∧ CellsAt w g (off + j * sz) (f x) := by
 obtain ⟨-, a', c', h1, -, h3, h4⟩ := h
 cases h1
 cases a with
 | none => have := (List.getElem?_eq_some_iff.1 hx).1; exact absurd (h3 rfl) (by omega)
 | some b =>
  obtain ⟨g', off', h5, h6⟩ := h4 _ rfl (by have := (List.getElem?_eq_some_iff.1 hx).1; omega)
  refine ⟨g', off', by rw [h5], fun i u hu => ?_⟩
  have := h6 (j * sz + i) u (flat_at hf _ hx hu)
  rw [Nat.add_assoc]
  exact this
attribute [local go_sem ↓] run_load_pl
end Go.Proofs.YtaenebdppkjhoaaGreatDoor
namespace Go.Proofs.YtaenebdppkjhoaaGreatDoor
set_option maxRecDepth 20000
open Go.RowKit
attribute [local go_sem ↓] run_load_cd
end Go.Proofs.YtaenebdppkjhoaaGreatDoor
namespace Go.Proofs.YtaenebdppkjhoaaGreatDoor
set_option maxRecDepth 20000
open Go.RowKit
def cntA (I : List (Int × Fil)) (L : List Att) (id : Int) : Nat := (L.map fun a => ((ofName (idxF I id) a.name).filter fun c => c.holds a.v).length).sum
theorem cntA_snoc (I : List (Int × Fil)) (L : List Att) (a : Att) (id : Int) : cntA I (L ++ [a]) id = cntA I L id + ((ofName (idxF I id) a.name).filter fun c => c.holds a.v).length := by
 unfold cntA
 rw [List.map_append, List.sum_append]
 simp
theorem CntR.inc {w' : World} {mc n K : Nat} {g g' : Int → Nat} {f : Lit → Option Value} {id : Int} {c : Nat} (h2 : n ≤ K) (h3 : ∀ id : Int, (f (.int .i64 id)).getD (.int .i64 0) = .int .i64 (g id)) (h4 : ∀ id, g id ≤ K) (hc : g id = c)
 (h : MapR w' 3 mc (if (f (.int .i64 id)).isSome then n else n + 1) (putF f (.int .i64 id) (.int .i64 (c + 1)))) (hg : ∀ x, g' x = g x + if id = x then 1 else 0) : CntR w' mc (K + 1) g' := by
 refine ⟨_, _, h, by split <;> omega, fun x => ?_, fun x => by rw [hg]; have := h4 x; split <;> omega⟩
 rw [hg]
 unfold putF
 by_cases e : x = id
 ·rw [if_pos (by rw [e]), if_pos e.symm, e, hc]
  simp
 ·rw [if_neg (fun h => e (Lit.int.inj h).2), if_neg (fun h => e h.symm)]
  exact h3 x
theorem zero_int (w : World) : (zeroValue 3).run Tryz.prog w = .ok (.int .i64 0) w := by kernel_rfl
def MRelA (wb : World) (mc T : Nat) (I : List (Int × Fil)) (L : List Att) (i : Value) (wr : World) : Prop :=
 ∃ j : Nat, i = .int .i64 j ∧ j ≤ L.length ∧ CntR wr mc (j * T) (cntA I (L.take j)) ∧ Mod (fun k => k = mc) wb wr
def MRelB (wb : World) (mc K : Nat) (g : Int → Nat) (x : Att) (ps : List (Int × Cnd)) (i : Value) (wr : World) : Prop :=
 ∃ j : Nat, i = .int .i64 j ∧ j ≤ ps.length ∧ CntR wr mc (K + j) (fun id => g id + ((ps.take j).filter fun p => p.1 == id && p.2.holds x.v).length) ∧ Mod (fun k => k = mc) wb wr
def matB (I : List (Int × Fil)) (es : ByteArray) (L : List Att) (id : Int) : Bool := match idxF I id with
 | some q => cntA I L id == q.2.length && underB es q.1
 | none => false
def matL (I : List (Int × Fil)) (es : ByteArray) (L : List Att) : List Int := (riseI (I.map Prod.fst)).filter (matB I es L)
def MRelC (w4 : World) (I : List (Int × Fil)) (es : ByteArray) (L : List Att) (ov i : Value) (wr : World) : Prop :=
 ∃ (j : Nat) (o : List Int) (oa : Option Addr) (oc : Nat), i = .int .i64 j ∧ j ≤ (riseI (I.map Prod.fst)).length ∧ o = ((riseI (I.map Prod.fst)).take j).filter (matB I es L) ∧ ov = .slice oa o.length oc ∧ OwnSl wr 3 1 ov o.length (o.map (Value.int .i64)) ∧ (∀ k, ov.ownBlock = some k → w4.heap.size ≤ k) ∧ Mod (fun _ => False) w4 wr
def IMatPost (w : World) (I : List (Int × Fil)) (es : ByteArray) (L : List Att) (e : Ending) (w' : World) : Prop :=
 ∃ v, e = .returned v ∧ OwnSl w' 3 1 v (matL I es L).length ((matL I es L).map (Value.int .i64)) ∧ (∀ k, v.ownBlock = some k → w.heap.size ≤ k) ∧ Mod (fun _ => False) w w'
theorem riseI_mem {L : List Int} {x : Int} : x ∈ riseI L ↔ x ∈ L := (List.mergeSort_perm L leI).mem_iff
theorem idxF_mem {I : List (Int × Fil)} {id : Int} (h : id ∈ I.map Prod.fst) : ∃ q, idxF I id = some q := by
 cases hq : idxF I id with
 | some q => exact ⟨q, rfl⟩
 | none => exact absurd h (idxF_none hq)
def MatS (b m2 cb : Nat) (v : Value) (x : Att) (y : World) : Prop :=
 y.cell? ⟨b, 1, none⟩ = some (.map (some m2)) ∧ y.cell? ⟨cb, 0, none⟩ = some (.string x.name) ∧ (Instr.lookup 158 (.map (some m2)) (.string x.name) false).run Tryz.prog y = .ok v y
attribute [local go_sem ↓] run_load_cd
set_option maxHeartbeats 8000000 in
theorem imatch_at (w : World) (b : Nat) (own C : Nat → Prop) (I : List (Int × Fil)) (T : Nat) (h : Idx w b own C I T) (hT : T ≤ 100000) (es : ByteArray) (hes : es.size ≤ 1000000) (ev : Value) (L : List Att)
 (hv : RdSl w 6 ev L.length (atts L)) (hL : L.length ≤ 1000) (hLf : ∀ a ∈ L, a.name.size ≤ 1000000 ∧ a.v.text.size ≤ 1000000) :
 Calls Tryz.prog 92 #[.pointer (some ⟨b, 0, none⟩), .agg #[.string es, ev]] w (IMatPost w I es L) := by
 obtain ⟨m1, m2, h⟩ := h
 obtain ⟨a, cap, rfl⟩ : ∃ a c, ev = .slice a L.length c := by obtain ⟨-, a, c, h, -⟩ := hv; exact ⟨a, c, h⟩
 obtain ⟨wa, hwa⟩ : ∃ wa : World, w.alloc (.cells #[.string es, .slice a L.length cap] 46) = wa := ⟨_, rfl⟩
 have hmwa : Mod (fun _ => False) w wa := hwa ▸ (Mod.refl (fun _ => False) w).alloc _
 have hgwa := heap_alloc_new w (.cells #[.string es, .slice a L.length cap] 46)
 rw [hwa] at hgwa
 have hzwa : wa.heap.size = w.heap.size + 1 := by rw [← hwa]; simp
 obtain ⟨wb, hwb⟩ : ∃ wb : World, wa.alloc (.map #[] 0) = wb := ⟨_, rfl⟩
 have hmwb : Mod (fun _ => False) wa wb := hwb ▸ (Mod.refl (fun _ => False) wa).alloc _
 have hgwb := heap_alloc_new wa (.map #[] 0)
 rw [hwb] at hgwb
 have hzwb : wb.heap.size = wa.heap.size + 1 := by rw [← hwb]; simp
 have hm2 := hmwa.trans hmwb (fun _ _ h => h)
 have hib := h.mod hm2 (fun _ _ h => h)
 have hbz : b < w.heap.size := h.olow _ h.ob.1
 have hmz : m1 < w.heap.size := h.olow _ h.ob.2.1
 have hmz2 : m2 < w.heap.size := h.olow _ h.ob.2.2
 have hsz : w.heap.size < wa.heap.size := by rw [← hwa]; exact Nat.lt_of_lt_of_eq (Nat.lt_succ_self _) (Array.size_push _).symm
 have hmc : MapR wb 3 wa.heap.size 0 (fun _ => none) := hwb ▸ MapR.made wa 3
 have c1 : wb.cell? ⟨w.heap.size, 1, none⟩ = some (.slice a L.length cap) := cell_of (hmwb.heap hgwa (fun h => h)) rfl
 have hvb := hv.mod hm2 (fun _ _ h => h)
 have hrel0 : MRelA wb wa.heap.size T I L (.int .i64 ((0 : Nat) : Int)) wb := ⟨0, rfl, Nat.zero_le _, ⟨0, _, hmc, Nat.zero_le _, fun id => rfl, fun id => by simp [cntA]⟩, Mod.refl _ _⟩
 have hge := hmwb.heap hgwa (fun h => h)
 have H := Lib.hid h
 have Hv := Lib.hid hv
 have Hwa := Lib.hid hwa
 have Hmwa := Lib.hid hmwa
 have Hgwa := Lib.hid hgwa
 have Hwb := Lib.hid hwb
 have Hmwb := Lib.hid hmwb
 have Hgwb := Lib.hid hgwb
 have Hm2 := Lib.hid hm2
 have Hib := Lib.hid hib
 have Hmc := Lib.hid hmc
 have Hvb := Lib.hid hvb
 have Hrel0 := Lib.hid hrel0
 have Hge := Lib.hid hge
 clear h hv hwa hmwa hgwa hwb hmwb hgwb hm2 hib hmc hvb hrel0 hge hzwa hzwb
 go_enter Tryz.func92, Tryz.ntmps92
 go_wp2_with (first | (rw [show w.alloc _ = wa from Hwa.out]) | (rw [show wa.alloc _ = wb from Hwb.out]) | fail)
 go_loopw [18] (fun i wr => MRelA wb wa.heap.size T I L i wr) (fun i _ => L.length - (intOf i).toNat)
 case atStart => exact Hrel0.out
 case round =>
  revert wr; intro wA hrel
  obtain ⟨j, rfl, hj, hcn, hmr⟩ := hrel
  by_cases hlt : j < L.length
  ·have hlt' : (j : Int) < L.length := by omega
   obtain ⟨x, hxj⟩ : ∃ x, L[j]? = some x := ⟨_, List.getElem?_eq_getElem hlt⟩
   have hxf := hLf x (List.mem_of_getElem? hxj)
   obtain ⟨g, off, rfl, hf0⟩ : ∃ g off, a = some ⟨g, off, none⟩ ∧ CellsAt w g (off + j * 6) x.cells := rd_el Att.cells_length Hv.out hxj
   have hgl : g < w.heap.size := World.block_lt_of_cell? w _ (hf0 0 _ rfl)
   have hf : CellsAt wA g (off + j * 6) x.cells := (hf0.mod Hm2.out (fun h => h)).mod hmr (fun h => by have h' : g = wa.heap.size := h; omega)
   obtain ⟨wz, hwz⟩ : ∃ wz : World, wA.alloc (.cells x.cells.toArray 70) = wz := ⟨_, rfl⟩
   have hmwz : Mod (fun _ => False) wA wz := hwz ▸ (Mod.refl (fun _ => False) wA).alloc _
   have hgwz := heap_alloc_new wA (.cells x.cells.toArray 70)
   rw [hwz] at hgwz
   have hzwz : wz.heap.size = wA.heap.size + 1 := by rw [← hwz]; simp
   have hmbz := hmr.trans (hmwz.mono (G := fun k => k = wa.heap.size) (fun _ _ h => h.elim)) (fun _ _ h => h)
   have hib2 : IdxAt w b m1 m2 own C I T := H.out
   obtain ⟨n2, f2, g1, g2, g3, g4, g5⟩ := Hib.out.pm
   obtain ⟨v, hvv⟩ : ∃ v, (f2 (Lit.str x.name)).getD nilS = v := ⟨_, rfl⟩
   obtain ⟨ps, p1, p2, p3, p4⟩ := g3 x.name
   rw [hvv] at p1 p3
   obtain ⟨va, vc, rfl, hvc⟩ := p1.shape
   have hvo : ∀ k, (Value.slice va ps.length vc).ownBlock = some k → k < w.heap.size := fun k hk => H.out.olow k (p3 k hk)
   have hpr : ∀ y F, Mod F wb y → (∀ k, F k → w.heap.size ≤ k) → RdSl y 8 (.slice va ps.length vc) ps.length (pls ps) := fun y F hy hF => p1.rd.mod hy (fun k hk h => by have h1 := hvo k hk; have h2 := hF k h; omega)
   have hSb : MatS b m2 wA.heap.size (.slice va ps.length vc) x wz.drew := by
    have hg2 : MapR wz.drew 9 m2 n2 f2 := (g1.mod hmbz (fun h => by have h' : m2 = wa.heap.size := h; omega)).mod ((Mod.refl (fun _ => False) wz).drew) (fun h => h)
    refine ⟨cell_of (hmbz.heap Hib.out.row (fun h => by have h' : b = wa.heap.size := h; omega)) rfl, cell_of hgwz rfl, ?_⟩
    rw [← hvv]
    exact hg2.look keyed_s Tryz.underlying158 (zero_pl _) (WideMaps.keyOf_string_mk Tryz.underlying9 (by unfold maxLen; omega))
   have hpf : ∀ p ∈ ps, p.2.fits ∧ (Lit.int .i64 p.1).wf = true := fun p hp => by
    have h1 : p.2 ∈ ofName (idxF I p.1) x.name := by rw [← p4 p.1]; exact List.mem_map_of_mem (List.mem_filter.2 ⟨hp, by simp⟩)
    cases hq : idxF I p.1 with
    | none => rw [hq] at h1; cases h1
    | some q =>
     rw [hq] at h1
     exact ⟨(H.out.wf _ (idxF_some hq)).2.2 _ (List.mem_filter.1 h1).1, (H.out.wf _ (idxF_some hq)).1⟩
   have hcz := hcn.mod hmwz (fun h => h)
   have hz0 : wa.heap.size < wA.heap.size := by
    have h1 := hmr.size
    have h2 := (Array.getElem?_eq_some_iff.1 Hgwb.out).1
    omega
   have Hxj := Lib.hid hxj
   have Hcn := Lib.hid hcn
   have Hmr := Lib.hid hmr
   have Hf0 := Lib.hid hf0
   have Hf := Lib.hid hf
   have Hwz := Lib.hid hwz
   have Hmwz := Lib.hid hmwz
   have Hgwz := Lib.hid hgwz
   have Hmbz := Lib.hid hmbz
   have G1 := Lib.hid g1
   have G2 := Lib.hid g2
   have G3 := Lib.hid g3
   have G4 := Lib.hid g4
   have G5 := Lib.hid g5
   have Hvv := Lib.hid hvv
   have P1 := Lib.hid p1
   have P3 := Lib.hid p3
   have P4 := Lib.hid p4
   have Hvo := Lib.hid hvo
   have Hpr := Lib.hid hpr
   have Hpf := Lib.hid hpf
   have Hcz := Lib.hid hcz
   have Hib2 := Lib.hid hib2
   clear hxj hcn hmr hf0 hf hwz hmwz hgwz hmbz g1 g2 g3 g4 g5 hvv p1 p3 p4 hvo hpr hpf hcz hib2 hzwz
   go_wp2_with (first | ((with_reducible refine wpList_load_lit 70 (.tmp 20) ?_); refine ⟨g, off + j * 6, rfl, x.cells, Hf.out, by kernel_rfl, by kernel_rfl, ?_⟩) | ((with_reducible refine wpList_store_lit 70 (.tmp 7) (.tmp 21) ?_); refine ⟨rfl, x.cells, rfl, rfl, by kernel_rfl, rfl, ?_⟩; rw [Hwz.out]) | fail)
   have hS := hSb
   refine wp_region_script [.rd 0, .rd 1, .rd 2, .rd 3, .rd 4, .rd 5, .rd 6, .rd 7, .rd 8] [0, 1, 2, 3, 4, 5, 6, 7, 8] (MatS b m2 wA.heap.size (.slice va ps.length vc) x) (by kernel_rfl) (by kernel_rfl) (fun _ _ d _ _ h => (by cases d <;> exact h)) ?_
   refine walk_rd rfl ?_ (fun _ => hS) ?_ (fun w0 h0 => ?_) (fun K hK => ?_)
   ·(try simp only [List.getElem_toArray]); (try simp only [List.getElem_cons_succ]); (try simp only [List.getElem_cons_zero])
    go_simp; done
   rotate_left
   ·(try simp only [List.getElem_toArray]); (try simp only [List.getElem_cons_succ]); (try simp only [List.getElem_cons_zero])
    first
     | (obtain ⟨f0, f1, f2⟩ := h0 rfl; clear h0; go_simp; with_reducible rfl)
     | (clear h0; go_simp; with_reducible rfl)
   (try simp only [List.getElem_toArray]); (try simp only [List.getElem_cons_succ]); (try simp only [List.getElem_cons_zero])
   go_simp; refine hK _ ?_; clear hK K
   refine walk_rd rfl ?_ (fun _ => hS) ?_ (fun w0 h0 => ?_) (fun K hK => ?_)
   ·(try simp only [List.getElem_toArray]); (try simp only [List.getElem_cons_succ]); (try simp only [List.getElem_cons_zero])
    go_simp; done
   rotate_left
   ·(try simp only [List.getElem_toArray]); (try simp only [List.getElem_cons_succ]); (try simp only [List.getElem_cons_zero])
    first
     | (obtain ⟨f0, f1, f2⟩ := h0 rfl; clear h0; go_simp; with_reducible rfl)
     | (clear h0; go_simp; with_reducible rfl)
   (try simp only [List.getElem_toArray]); (try simp only [List.getElem_cons_succ]); (try simp only [List.getElem_cons_zero])
   go_simp; refine hK _ ?_; clear hK K
   refine walk_rd rfl ?_ (fun _ => hS) ?_ (fun w0 h0 => ?_) (fun K hK => ?_)
   ·(try simp only [List.getElem_toArray]); (try simp only [List.getElem_cons_succ]); (try simp only [List.getElem_cons_zero])
    go_simp; done
   rotate_left
   ·(try simp only [List.getElem_toArray]); (try simp only [List.getElem_cons_succ]); (try simp only [List.getElem_cons_zero])
    first
     | (obtain ⟨f0, f1, f2⟩ := h0 rfl; clear h0; go_simp; with_reducible rfl)
     | (clear h0; go_simp; with_reducible rfl)
   (try simp only [List.getElem_toArray]); (try simp only [List.getElem_cons_succ]); (try simp only [List.getElem_cons_zero])
   go_simp; refine hK _ ?_; clear hK K
   refine walk_rd rfl ?_ (fun _ => hS) ?_ (fun w0 h0 => ?_) (fun K hK => ?_)
   ·(try simp only [List.getElem_toArray]); (try simp only [List.getElem_cons_succ]); (try simp only [List.getElem_cons_zero])
    go_simp; done
   rotate_left
   ·(try simp only [List.getElem_toArray]); (try simp only [List.getElem_cons_succ]); (try simp only [List.getElem_cons_zero])
    first
     | (obtain ⟨f0, f1, f2⟩ := h0 rfl; clear h0; go_simp; with_reducible rfl)
     | (clear h0; go_simp; with_reducible rfl)
   (try simp only [List.getElem_toArray]); (try simp only [List.getElem_cons_succ]); (try simp only [List.getElem_cons_zero])
   go_simp; refine hK _ ?_; clear hK K
   refine walk_rd rfl ?_ (fun _ => hS) ?_ (fun w0 h0 => ?_) (fun K hK => ?_)
   ·(try simp only [List.getElem_toArray]); (try simp only [List.getElem_cons_succ]); (try simp only [List.getElem_cons_zero])
    go_simp; done
   rotate_left
   ·(try simp only [List.getElem_toArray]); (try simp only [List.getElem_cons_succ]); (try simp only [List.getElem_cons_zero])
    first
     | (obtain ⟨f0, f1, f2⟩ := h0 rfl; clear h0; go_simp; with_reducible rfl)
     | (clear h0; go_simp; with_reducible rfl)
   (try simp only [List.getElem_toArray]); (try simp only [List.getElem_cons_succ]); (try simp only [List.getElem_cons_zero])
   go_simp; refine hK _ ?_; clear hK K
   refine walk_rd rfl ?_ (fun _ => hS) ?_ (fun w0 h0 => ?_) (fun K hK => ?_)
   ·(try simp only [List.getElem_toArray]); (try simp only [List.getElem_cons_succ]); (try simp only [List.getElem_cons_zero])
    go_simp; done
   rotate_left
   ·(try simp only [List.getElem_toArray]); (try simp only [List.getElem_cons_succ]); (try simp only [List.getElem_cons_zero])
    first
     | (obtain ⟨f0, f1, f2⟩ := h0 rfl; clear h0; go_simp; with_reducible rfl)
     | (clear h0; go_simp; with_reducible rfl)
   (try simp only [List.getElem_toArray]); (try simp only [List.getElem_cons_succ]); (try simp only [List.getElem_cons_zero])
   go_simp; refine hK _ ?_; clear hK K
   refine walk_rd rfl ?_ (fun _ => hS) ?_ (fun w0 h0 => ?_) (fun K hK => ?_)
   ·(try simp only [List.getElem_toArray]); (try simp only [List.getElem_cons_succ]); (try simp only [List.getElem_cons_zero])
    go_simp; done
   rotate_left
   ·(try simp only [List.getElem_toArray]); (try simp only [List.getElem_cons_succ]); (try simp only [List.getElem_cons_zero])
    first
     | (obtain ⟨f0, f1, f2⟩ := h0 rfl; clear h0; go_simp; with_reducible rfl)
     | (clear h0; go_simp; with_reducible rfl)
   (try simp only [List.getElem_toArray]); (try simp only [List.getElem_cons_succ]); (try simp only [List.getElem_cons_zero])
   go_simp; refine hK _ ?_; clear hK K
   refine walk_rd rfl ?_ (fun _ => hS) ?_ (fun w0 h0 => ?_) (fun K hK => ?_)
   ·(try simp only [List.getElem_toArray]); (try simp only [List.getElem_cons_succ]); (try simp only [List.getElem_cons_zero])
    go_simp; done
   rotate_left
   ·(try simp only [List.getElem_toArray]); (try simp only [List.getElem_cons_succ]); (try simp only [List.getElem_cons_zero])
    first
     | (obtain ⟨f0, f1, f2⟩ := h0 rfl; clear h0; go_simp; with_reducible rfl)
     | (clear h0; go_simp; with_reducible rfl)
   (try simp only [List.getElem_toArray]); (try simp only [List.getElem_cons_succ]); (try simp only [List.getElem_cons_zero])
   go_simp; refine hK _ ?_; clear hK K
   refine walk_rd rfl ?_ (fun _ => hS) ?_ (fun w0 h0 => ?_) (fun K hK => ?_)
   ·(try simp only [List.getElem_toArray]); (try simp only [List.getElem_cons_succ]); (try simp only [List.getElem_cons_zero])
    go_simp; done
   rotate_left
   ·(try simp only [List.getElem_toArray]); (try simp only [List.getElem_cons_succ]); (try simp only [List.getElem_cons_zero])
    first
     | (obtain ⟨f0, f1, f2⟩ := h0 rfl; clear h0; go_simp; with_reducible rfl)
     | (clear h0; go_simp; with_reducible rfl)
   (try simp only [List.getElem_toArray]); (try simp only [List.getElem_cons_succ]); (try simp only [List.getElem_cons_zero])
   go_simp; refine hK _ ?_; clear hK K
   refine walk_nil ?_
   have hrelB : MRelB wz.drew wa.heap.size (j * T) (cntA I (L.take j)) x ps (.int .i64 ((0 : Nat) : Int)) wz.drew :=
    ⟨0, rfl, Nat.zero_le _, ((Hcz.out.mod ((Mod.refl (fun _ => False) wz).drew) (fun h => h))).cong (by omega) (fun id => by simp), Mod.refl _ _⟩
   have HrelB := Lib.hid hrelB
   have HSb := Lib.hid hSb
   clear hrelB hSb hS
   go_wp2_with fail
   go_loopw [30] (fun i wr => MRelB wz.drew wa.heap.size (j * T) (cntA I (L.take j)) x ps i wr) (fun i _ => ps.length - (intOf i).toNat)
   case atStart => exact HrelB.out
   case round =>
    obtain ⟨k, rfl, hk, hcn2, hmr2⟩ := hrel
    by_cases hlt2 : k < ps.length
    ·have hlt2' : (k : Int) < ps.length := by omega
     obtain ⟨y, hyk⟩ : ∃ y, ps[k]? = some y := ⟨_, List.getElem?_eq_getElem hlt2⟩
     have hyf := (Hpf.out y (List.mem_of_getElem? hyk)).1.v.text
     have hyw := Maps.keyOf_int_mk (P := Tryz.prog) Tryz.underlying3 (Hpf.out y (List.mem_of_getElem? hyk)).2
     obtain ⟨pg, poff, rfl, hpc⟩ : ∃ pg poff, va = some ⟨pg, poff, none⟩ ∧ CellsAt wr pg (poff + k * 8) (pcell y) := rd_el pcell_length (Hpr.out wr (fun k => k = wa.heap.size) (Hmbz.out.drew.trans hmr2 (fun _ _ h => h)) (fun k hk => by omega)) hyk
     obtain ⟨wp, hwp⟩ : ∃ wp : World, wr.alloc (.cells (pcell y).toArray 181) = wp := ⟨_, rfl⟩
     have hmwp : Mod (fun _ => False) wr wp := hwp ▸ (Mod.refl (fun _ => False) wr).alloc _
     have hgwp := heap_alloc_new wr (.cells (pcell y).toArray 181)
     rw [hwp] at hgwp
     have hzwp : wp.heap.size = wr.heap.size + 1 := by rw [← hwp]; simp
     have hmz2p : Mod (fun k => k = wa.heap.size) wz wp := (((Mod.refl (fun k => k = wa.heap.size) wz).drew).trans hmr2 (fun _ _ h => h)).trans (hmwp.mono (fun _ _ h => h.elim)) (fun _ _ h => h)
     have hga : CellsAt wp wA.heap.size 0 x.cells := (CellsAt.row Hgwz.out).mod hmz2p (fun h => by have h' : wA.heap.size = wa.heap.size := h; omega)
     have hga1 : CellsAt wp wA.heap.size 1 x.v.cells := CellsAt.part (l := [.string x.name]) (n := 1) hga rfl
     have hgp : CellsAt wp wr.heap.size 0 (pcell y) := CellsAt.row hgwp
     have hgp1 : CellsAt wp wr.heap.size 1 y.2.cells := CellsAt.part (l := [.int .i64 y.1]) (n := 1) hgp rfl
     have e1 := hga1.all (show x.v.cells.length = 5 from rfl)
     have e2 := hga1.is (show x.v.cells.length = 5 from rfl)
     have e3 := hgp1.all (Cnd.cells_length y.2)
     have e4 := hgp1.is (Cnd.cells_length y.2)
     have hho := holds_at y.2 x.v (by omega) (by omega) wp
     obtain ⟨hv, hhv⟩ : ∃ hv, y.2.holds x.v = hv := ⟨_, rfl⟩
     rw [hhv] at hho
     have Hyk := Lib.hid hyk
     have Hpc := Lib.hid hpc
     have Hwp := Lib.hid hwp
     have Hmwp := Lib.hid hmwp
     have Hgwp := Lib.hid hgwp
     have Hmz2p := Lib.hid hmz2p
     have Hga := Lib.hid hga
     have Hga1 := Lib.hid hga1
     have Hgp := Lib.hid hgp
     have Hgp1 := Lib.hid hgp1
     have Hho := Lib.hid hho
     have Hhv := Lib.hid hhv
     have Hcn2 := Lib.hid hcn2
     have Hmr2 := Lib.hid hmr2
     have Hyw := Lib.hid hyw
     clear hyk hpc hwp hmwp hgwp hmz2p hga hga1 hgp hgp1 hho hhv hcn2 hmr2 hyw hzwp
     go_wp2_with (first | ((with_reducible refine wpList_load_lit 181 (.tmp 32) ?_); refine ⟨pg, poff + k * 8, rfl, pcell y, Hpc.out, by kernel_rfl, by kernel_rfl, ?_⟩) | ((with_reducible refine wpList_store_lit 181 (.tmp 9) (.tmp 33) ?_); refine ⟨rfl, pcell y, rfl, rfl, by kernel_rfl, rfl, ?_⟩; rw [Hwp.out]) | fail)
     refine Hho.out.mono ?_
     rintro e w3 ⟨rfl, hm3⟩
     obtain ⟨n, f, q1, q2, q3, q4⟩ := Hcn2.out
     obtain ⟨G, hG⟩ : ∃ G : Int → Nat, G = fun id => cntA I (L.take j) id + ((ps.take k).filter fun p => p.1 == id && p.2.holds x.v).length := ⟨_, rfl⟩
     rw [← hG] at q3 q4
     have hm23 : Mod (fun k => k = wa.heap.size) wz.drew w3 := (Hmr2.out.trans (Hmwp.out.mono (fun _ _ h => h.elim)) (fun _ _ h => h)).trans (hm3.mono (fun _ _ h => h.elim)) (fun _ _ h => h)
     have hmp3 := Hmwp.out.trans hm3 (fun _ _ h => h)
     have q13 := q1.mod hmp3 (fun h => h)
     have hstp : ∀ id, (cntA I (L.take j) id + ((ps.take (k + 1)).filter fun p => p.1 == id && p.2.holds x.v).length) = G id + if y.1 = id ∧ hv = true then 1 else 0 := fun id => by
      rw [hG]
      simp only []
      rw [List.take_add_one, Hyk.out, List.filter_append, List.length_append, Option.toList_some, List.filter_cons, Hhv.out, List.filter_nil, Nat.add_assoc]
      congr 1
      congr 1
      by_cases e : y.1 = id
      ·rw [beq_iff_eq.2 e]; cases hv <;> simp [e]
      ·rw [beq_eq_false_iff_ne.2 e]; simp [e]
     cases hv with
     | false =>
      have HG := Lib.hid hG
      have Q1 := Lib.hid q1
      have Q2 := Lib.hid q2
      have Q3 := Lib.hid q3
      have Q4 := Lib.hid q4
      have Hm23 := Lib.hid hm23
      have Hmp3 := Lib.hid hmp3
      have Q13 := Lib.hid q13
      have Hstp := Lib.hid hstp
      have Hm3 := Lib.hid hm3
      clear hG q1 q2 q3 q4 hm23 hmp3 q13 hstp hm3
      go_wp2_with fail
      go_roundw
      case rel =>
       refine ⟨k + 1, by go_num, hlt2, ?_, Hm23.out⟩
       exact (CntR.cong ⟨n, f, Q13.out, Q2.out, Q3.out, Q4.out⟩ (by omega) (fun id => by rw [Hstp.out]; simp))
      case measure => simp [intOf]; omega
     | true =>
      obtain ⟨c, hc⟩ : ∃ c, G y.1 = c := ⟨_, rfl⟩
      have hcb : c ≤ 100000 * 1000 + 100000 := by
       rw [← hc]
       have h1 := q4 y.1
       have h2 : j * T ≤ 1000 * 100000 := Nat.mul_le_mul (by omega) hT
       omega
      have hnb : n < maxLen := by
       have h2 : j * T ≤ 1000 * 100000 := Nat.mul_le_mul (by omega) hT
       unfold maxLen
       omega
      have hlk : (Instr.lookup 198 (.map (some wa.heap.size)) (.int .i64 y.1) false).run Tryz.prog w3 = .ok (.int .i64 c) w3 := by
       rw [q13.look keyed_i Tryz.underlying198 (zero_int w3) Hyw.out, q3, hc]
      have c9 : w3.cell? ⟨wr.heap.size, 0, none⟩ = some (.int .i64 y.1) := hm3.cell (Hgp.out 0 _ rfl) (fun h => h)
      have hz3 : wa.heap.size < w3.heap.size := by have h1 := hm23.size; have h2 : wz.drew.heap.size = wz.heap.size := rfl; have h3 := Hmwz.out.size; omega
      have HG := Lib.hid hG
      have Q1 := Lib.hid q1
      have Q2 := Lib.hid q2
      have Q3 := Lib.hid q3
      have Q4 := Lib.hid q4
      have Hm23 := Lib.hid hm23
      have Hmp3 := Lib.hid hmp3
      have Q13 := Lib.hid q13
      have Hstp := Lib.hid hstp
      have Hm3 := Lib.hid hm3
      have Hc := Lib.hid hc
      have Hnb := Lib.hid hnb
      clear hG q1 q2 q3 q4 hm23 hmp3 q13 hstp hm3 hc hnb
      go_wp2_with (first | ((with_reducible refine wpList_mput_lit 198 (.tmp 39) (.tmp 41) (.tmp 43) ?_); refine ⟨3, 3, wa.heap.size, n, f, .int .i64 y.1, Q13.out, keyed_i, Tryz.underlying198, Hnb.out, rfl, Hyw.out, ?_⟩; intro w5 hM' hm'; have HM' := Lib.hid hM'; have Hm' := Lib.hid hm'; clear hM' hm') | fail)
      go_roundw
      case rel =>
       refine ⟨k + 1, by go_num, hlt2, ?_, Hm23.out.trans Hm'.out (fun _ _ h => h)⟩
       exact CntR.inc Q2.out Q3.out Q4.out Hc.out HM'.out (fun id => by rw [Hstp.out]; simp)
      case measure => simp [intOf]; omega
    ·obtain rfl : k = ps.length := by omega
     rw [List.take_length] at hcn2
     have hcA : CntR wr wa.heap.size ((j + 1) * T) (cntA I (L.take (j + 1))) := hcn2.cong (by rw [Nat.add_mul, Nat.one_mul]; exact Nat.add_le_add_left p2 _) (fun id => by
      rw [List.take_add_one, Hxj.out, Option.toList_some, cntA_snoc, ← P4.out id, List.filter_map, List.length_map, List.filter_filter]
      congr 2
      congr 1
      funext p
      exact Bool.and_comm _ _)
     have hmA := Hmbz.out.drew.trans hmr2 (fun _ _ h => h)
     have Hcn2 := Lib.hid hcn2
     have HcA := Lib.hid hcA
     have HmA := Lib.hid hmA
     have Hmr2 := Lib.hid hmr2
     clear hcn2 hcA hmA hmr2
     go_wp2_with fail
     go_roundw
     case rel => exact ⟨j + 1, by go_num, hlt, HcA.out, HmA.out⟩
     case measure => simp [intOf]; omega
  ·obtain rfl : j = L.length := by omega
   rw [List.take_length] at hcn
   obtain ⟨ff, hf1, hf2⟩ := Hib.out.fm
   have hfA := hf1.mod hmr (fun h => by have h' : m1 = wa.heap.size := h; omega)
   have hlow := H.out.low
   have hso := fsorted_at hfA (by omega) H.out.nd (fun x => by
    have h1 := hf2 x
    constructor
    ·intro hx
     obtain ⟨q, hq⟩ := idxF_mem hx
     rw [hq] at h1
     cases hv : ff (.int .i64 x) with
     | some v => rfl
     | none => rw [hv] at h1; exact h1.elim
    ·intro hx
     cases hq : idxF I x with
     | some q => exact List.mem_map_of_mem (idxF_some hq)
     | none =>
      rw [hq] at h1
      cases hv : ff (.int .i64 x) with
      | none => rw [hv] at hx; cases hx
      | some v => rw [hv] at h1; exact h1.elim)
   have cA : wA.cell? ⟨b, 0, none⟩ = some (.map (some m1)) := cell_of (hmr.heap Hib.out.row (fun h => by have h' : b = wa.heap.size := h; omega)) rfl
   have Hcn := Lib.hid hcn
   have Hf1 := Lib.hid hf1
   have Hf2 := Lib.hid hf2
   have HfA := Lib.hid hfA
   have Hso := Lib.hid hso
   have Hmr := Lib.hid hmr
   clear hcn hf1 hf2 hfA hso hmr
   go_wp2_with fail
   refine (fkeys_at (some m1) wA).mono ?_
   rintro e wK ⟨rfl, rfl⟩
   go_wp2_with fail
   refine Hso.out.mono ?_
   rintro e w4 ⟨sv, rfl, hso4, hsf, hm4⟩
   obtain ⟨ids, hids⟩ : ∃ ids, riseI (I.map Prod.fst) = ids := ⟨_, rfl⟩
   rw [hids, List.length_map] at hso4
   obtain ⟨sa, sc, rfl, hsc⟩ := hso4.shape
   have hm4' : Mod (fun k => k = wa.heap.size) wb w4 := (Hmr.out.alloc _).trans (hm4.mono (fun _ _ h => h.elim)) (fun _ _ h => h)
   have hcn4 := (Hcn.out.mod ((Mod.refl (fun _ => False) wA).alloc _) (fun h => h)).mod hm4 (fun h => h)
   have hf4 := (HfA.out.mod ((Mod.refl (fun _ => False) wA).alloc _) (fun h => h)).mod hm4 (fun h => h)
   have hrow4 := hm4'.heap Hib.out.row (fun h => by have h' : b = wa.heap.size := h; omega)
   have hge4 := hm4'.heap Hge.out (fun h => by have h' : w.heap.size = wa.heap.size := h; omega)
   have hidl : ids.length ≤ 100000 := by
    rw [← hids, show (riseI (I.map Prod.fst)).length = (I.map Prod.fst).length from (List.mergeSort_perm _ leI).length_eq, List.length_map]
    omega
   have hrelC : MRelC w4 I es L (.slice none 0 0) (.int .i64 ((0 : Nat) : Int)) w4 := ⟨0, [], none, 0, rfl, Nat.zero_le _, rfl, rfl, OwnSl.nil _ _ _, fun k hk => by simp [Value.ownBlock] at hk, Mod.refl _ _⟩
   have hz4 : wb.heap.size ≤ w4.heap.size := hm4'.size
   have Hso4 := Lib.hid hso4
   have Hsf := Lib.hid hsf
   have Hm4 := Lib.hid hm4
   have Hm4' := Lib.hid hm4'
   have Hcn4 := Lib.hid hcn4
   have Hf4 := Lib.hid hf4
   have Hrow4 := Lib.hid hrow4
   have Hge4 := Lib.hid hge4
   have Hids := Lib.hid hids
   have HrelC := Lib.hid hrelC
   clear hso4 hsf hm4 hm4' hcn4 hf4 hrow4 hge4 hids hrelC
   go_wp2_with fail
   go_loopw [10, 53] (fun ov i wr => MRelC w4 I es L ov i wr) (fun _ i _ => ids.length - (intOf i).toNat)
   case atStart => exact HrelC.out
   case round =>
    obtain ⟨j, o, oa, oc, rfl, hj, ho, rfl, hown, hof, hmr2⟩ := hrel
    rw [Hids.out] at hj ho
    by_cases hlt : j < ids.length
    ·have hlt' : (j : Int) < ids.length := by omega
     obtain ⟨id, hidj⟩ : ∃ id, ids[j]? = some id := ⟨_, List.getElem?_eq_getElem hlt⟩
     have hidm : id ∈ I.map Prod.fst := by
      rw [← riseI_mem, Hids.out]
      exact List.mem_of_getElem? hidj
     obtain ⟨q, hq⟩ := idxF_mem hidm
     have hqm := idxF_some hq
     have hkey : keyOf Tryz.prog 3 (.int .i64 id) = some (.int .i64 id) := Maps.keyOf_int_mk Tryz.underlying3 (H.out.wf _ hqm).1
     have hfi := Hf2.out id
     rw [hq] at hfi
     cases hfv : ff (.int .i64 id) with
     | none => rw [hfv] at hfi; exact hfi.elim
     | some fv =>
      rw [hfv] at hfi
      obtain ⟨qa, qc, rfl, -, -⟩ := hfi
      obtain ⟨sg, soff, rfl, cid⟩ : ∃ g off, sa = some ⟨g, off, none⟩ ∧ wr.cell? ⟨g, off + j, none⟩ = some (.int .i64 id) := rd_int (Hso4.out.rd.mod hmr2 (fun _ _ h => h)) hidj
      have cb : wr.cell? ⟨b, 0, none⟩ = some (.map (some m1)) := cell_of (hmr2.heap Hrow4.out (fun h => h)) rfl
      have hl1 : (Instr.lookup 157 (.map (some m1)) (.int .i64 id) false).run Tryz.prog wr = .ok (.agg #[.string q.1, .slice qa q.2.length qc]) wr := by
       rw [(Hf4.out.mod hmr2 (fun h => h)).look keyed_i Tryz.underlying157 (zero_fil wr) hkey, hfv]
       rfl
      obtain ⟨wz, hwz⟩ : ∃ wz : World, wr.alloc (.cells #[.string q.1, .slice qa q.2.length qc] 33) = wz := ⟨_, rfl⟩
      have hmwz : Mod (fun _ => False) wr wz := hwz ▸ (Mod.refl (fun _ => False) wr).alloc _
      have hgwz := heap_alloc_new wr (.cells #[.string q.1, .slice qa q.2.length qc] 33)
      rw [hwz] at hgwz
      have hzwz : wz.heap.size = wr.heap.size + 1 := by rw [← hwz]; simp
      obtain ⟨n, f, q1, q2, q3, q4⟩ := (Hcn4.out.mod hmr2 (fun h => h)).mod hmwz (fun h => h)
      obtain ⟨c, hc⟩ : ∃ c, cntA I L id = c := ⟨_, rfl⟩
      have hl2 : (Instr.lookup 198 (.map (some wa.heap.size)) (.int .i64 id) false).run Tryz.prog wz = .ok (.int .i64 c) wz := by
       rw [q1.look keyed_i Tryz.underlying198 (zero_int wz) hkey, q3, hc]
      have ce : wz.cell? ⟨w.heap.size, 0, none⟩ = some (.string es) := cell_of ((hmr2.trans hmwz (fun _ _ h => h)).heap Hge4.out (fun h => h)) rfl
      have cf0 : wz.cell? ⟨wr.heap.size, 0, none⟩ = some (.string q.1) := cell_of hgwz rfl
      have cf1 : wz.cell? ⟨wr.heap.size, 1, none⟩ = some (.slice qa q.2.length qc) := cell_of hgwz rfl
      obtain ⟨t, ht⟩ : ∃ t, ((c : Int) == (q.2.length : Int)) = t := ⟨_, rfl⟩
      have hmb : matB I es L id = (t && underB es q.1) := by
       unfold matB
       rw [hq]
       simp only []
       rw [hc, ← ht]
       congr 1
       rw [Bool.eq_iff_iff, beq_iff_eq, beq_iff_eq]
       omega
      have hnx : (ids.take (j + 1)).filter (matB I es L) = o ++ if (t && underB es q.1) = true then [id] else [] := by
       rw [List.take_add_one, hidj, List.filter_append, ← ho, Option.toList_some, List.filter_cons, hmb, List.filter_nil]
      have hun := under_at es q.1 (by omega) (Nat.le_trans (H.out.sc _ hqm) (by decide)) wz
      obtain ⟨u, hu⟩ : ∃ u, underB es q.1 = u := ⟨_, rfl⟩
      rw [hu] at hun hnx
      have hol : o.length ≤ 100000 := by rw [ho]; exact Nat.le_trans (List.length_filter_le _ _) (by rw [List.length_take]; omega)
      have hmz2 := hmr2.trans hmwz (fun _ _ h => h)
      have hoz := hown.mod hmwz (fun _ _ h => h)
      have Ho := Lib.hid ho
      have Hown := Lib.hid hown
      have Hof := Lib.hid hof
      have Hmr2 := Lib.hid hmr2
      have Hidj := Lib.hid hidj
      have Hidm := Lib.hid hidm
      have Hq := Lib.hid hq
      have Hqm := Lib.hid hqm
      have Hkey := Lib.hid hkey
      have Hfv := Lib.hid hfv
      have Hwz := Lib.hid hwz
      have Hmwz := Lib.hid hmwz
      have Hgwz := Lib.hid hgwz
      have Q1 := Lib.hid q1
      have Q2 := Lib.hid q2
      have Q3 := Lib.hid q3
      have Q4 := Lib.hid q4
      have Hc := Lib.hid hc
      have Hmb := Lib.hid hmb
      have Hnx := Lib.hid hnx
      have Hun := Lib.hid hun
      have Hmz2 := Lib.hid hmz2
      have Hoz := Lib.hid hoz
      clear ho hown hof hmr2 hidj hidm hq hqm hkey hfv hwz hmwz hgwz q1 q2 q3 q4 hc hmb hnx hun hmz2 hoz hzwz
      cases t with
      | false =>
       have hnx' : (ids.take (j + 1)).filter (matB I es L) = o := by rw [Hnx.out]; simp
       have Hnx' := Lib.hid hnx'
       clear hnx'
       go_wp2_with (first | ((with_reducible refine wpList_store_lit 33 (.tmp 13) (.tmp 62) ?_); refine ⟨rfl, [.string q.1, .slice qa q.2.length qc], rfl, rfl, by kernel_rfl, rfl, ?_⟩; rw [Hwz.out]) | fail)
       go_roundw
       case rel => exact ⟨j + 1, o, oa, oc, by go_num, by rw [Hids.out]; exact hlt, by rw [Hids.out]; exact Hnx'.out.symm, rfl, Hoz.out, Hof.out, Hmz2.out⟩
       case measure => simp [intOf]; omega
      | true =>
       go_wp2_with (first | ((with_reducible refine wpList_store_lit 33 (.tmp 13) (.tmp 62) ?_); refine ⟨rfl, [.string q.1, .slice qa q.2.length qc], rfl, rfl, by kernel_rfl, rfl, ?_⟩; rw [Hwz.out]) | fail)
       refine Hun.out.mono ?_
       rintro e w5 ⟨rfl, hw5⟩
       obtain rfl := hw5.symm
       cases u with
       | false =>
        have hnx' : (ids.take (j + 1)).filter (matB I es L) = o := by rw [Hnx.out]; simp
        have Hnx' := Lib.hid hnx'
        clear hnx'
        go_wp2_with fail
        go_roundw
        case rel => exact ⟨j + 1, o, oa, oc, by go_num, by rw [Hids.out]; exact hlt, by rw [Hids.out]; exact Hnx'.out.symm, rfl, Hoz.out, Hof.out, Hmz2.out⟩
        case measure => simp [intOf]; omega
       | true =>
        have hnx' : (ids.take (j + 1)).filter (matB I es L) = o ++ [id] := by rw [Hnx.out]; simp
        obtain ⟨wq, hwq⟩ : ∃ wq : World, wz.alloc (.cells #[.int .i64 id] 3) = wq := ⟨_, rfl⟩
        have hmwq : Mod (fun _ => False) wz wq := hwq ▸ (Mod.refl (fun _ => False) wz).alloc _
        have hgwq := heap_alloc_new wz (.cells #[.int .i64 id] 3)
        rw [hwq] at hgwq
        have hzwq : wq.heap.size = wz.heap.size + 1 := by rw [← hwq]; simp
        have hrq : RdSl wq 1 (.slice (some ⟨wz.heap.size, 0, none⟩) 1 1) 1 [.int .i64 id] := hwq ▸ RdSl.one wz [.int .i64 id] 3 rfl
        have hone : ∀ v ∈ ([.int .i64 id] : List Value), v.oneCell' = true := fun v hv => List.all_eq_true.1 (show ([.int .i64 id] : List Value).all (·.oneCell') = true from rfl) v hv
        have hoq := Hoz.out.mod hmwq (fun _ _ h => h)
        have hm4q := Hmz2.out.trans hmwq (fun _ _ h => h)
        have Hnx' := Lib.hid hnx'
        have Hwq := Lib.hid hwq
        have Hmwq := Lib.hid hmwq
        have Hrq := Lib.hid hrq
        have Hone := Lib.hid hone
        have Hoq := Lib.hid hoq
        have Hm4q := Lib.hid hm4q
        clear hnx' hwq hmwq hrq hone hoq hm4q hgwq hzwq
        go_wp2_with (first | (rw [show wz.alloc _ = wq from Hwq.out]) | ((with_reducible refine wpList_append_lit (.tmp 77) (.tmp 79) 23 ?_); refine ⟨rfl, 3, 1, 8, ints_T, .slice oa o.length oc, o.length, o.map (Value.int .i64), rfl, Hoq.out, _, 1, [.int .i64 id], rfl, Hrq.out, Hone.out, by omega, by unfold maxLen; omega, ?_⟩; intro ad cap5 w5 hA; have HA := Lib.hid hA; clear hA) | fail)
        go_roundw
        case rel =>
         refine ⟨j + 1, o ++ [id], ad, cap5, by go_num, by rw [Hids.out]; exact hlt, by rw [Hids.out]; exact Hnx'.out.symm, by rw [List.length_append]; rfl, ?_, ?_, ?_⟩
         ·rw [List.length_append, List.map_append]; exact HA.out.1
         ·intro k hk
          rcases HA.out.2.2 with h3 | ⟨k', h3, h4⟩
          ·exact Hof.out k (h3 ▸ hk)
          ·rw [h3] at hk
           cases hk
           have := Hm4q.out.size
           omega
         ·exact Hm4q.out.upon HA.out.2.1 (fun k hk => .inr (Hof.out k hk))
        case measure => simp [intOf]; omega
    ·obtain rfl : j = ids.length := by omega
     rw [List.take_length] at ho
     have hom : matL I es L = o := by unfold matL; rw [Hids.out, ho]
     have hmE : Mod (fun _ => False) w wr := (Hm2.out.upon Hm4'.out (fun k hk => .inr (by have h' : k = wa.heap.size := hk; omega))).trans hmr2 (fun _ _ h => h)
     have Ho := Lib.hid ho
     have Hown := Lib.hid hown
     have Hof := Lib.hid hof
     have Hmr2 := Lib.hid hmr2
     have Hom := Lib.hid hom
     have HmE := Lib.hid hmE
     clear ho hown hof hmr2 hom hmE
     go_wp2_with fail
     go_ret
     exact ⟨_, rfl, by rw [Hom.out]; exact Hown.out, fun k hk => by have h1 := Hof.out k hk; have h2 := Hm2.out.size; omega, HmE.out⟩
end Go.Proofs.YtaenebdppkjhoaaGreatDoor
namespace Go.Proofs.YtaenebdppkjhoaaGreatDoor
set_option maxRecDepth 20000
open Go.RowKit
theorem norm_name (c : Cnd) : c.norm.name = c.name := by unfold Cnd.norm; split <;> rfl
theorem norm_op (c : Cnd) : c.norm.op = c.op := by
 unfold Cnd.norm
 split
 ·rename_i h; exact h.symm
 ·rfl
def rMatF (f : Fil) (es : ByteArray) (L : List Att) : Bool := underB es f.1 && f.2.all fun c => rMatchC c L
end Go.Proofs.YtaenebdppkjhoaaGreatDoor
namespace Go.Proofs.YtaenebdppkjhoaaGreatDoor
set_option maxRecDepth 20000
open Go.RowKit Go.Sort
theorem riseS_mem {L : List (List UInt8)} {x : List UInt8} : x ∈ riseS L ↔ x ∈ L := (List.mergeSort_perm L leB).mem_iff
end Go.Proofs.YtaenebdppkjhoaaGreatDoor
namespace Go.Proofs.YtaenebdppkjhoaaGreatDoor
set_option maxRecDepth 20000
open Go.RowKit
theorem zero_mm (w : World) : (zeroValue 174).run Tryz.prog w = .ok (.map none) w := by kernel_rfl
theorem key_s (k : List UInt8) (hk : k.length ≤ maxLen) : keyOf Tryz.prog 9 (.string (str k)) = some (.string k) := by
 have h := WideMaps.keyOf_string_mk (s := str k) Tryz.underlying9 (by simpa [str, ByteArray.size] using hk)
 simpa [str] using h
attribute [local go_sem] km_some km_nil
end Go.Proofs.YtaenebdppkjhoaaGreatDoor
namespace Go.Proofs.YtaenebdppkjhoaaGreatDoor
set_option maxRecDepth 20000
open Go.RowKit
theorem lr_pru (x : Lr) : x.ru.pru = x.1 := rfl
end Go.Proofs.YtaenebdppkjhoaaGreatDoor
namespace Go.Proofs.YtaenebdppkjhoaaGreatDoor
set_option maxRecDepth 20000
open Go.RowKit
theorem pos_less {l : List Att} {s : ByteArray} {k : Nat} {x : Att} (hk : k < pos l s) (hx : l[k]? = some x) : Op.bytesLess x.name.data.toList s.data.toList = true := by
 induction l generalizing k with
 | nil => simp at hx
 | cons a l ih =>
  by_cases ha : Op.bytesLess a.name.data.toList s.data.toList = true
  ·have hp : pos (a :: l) s = pos l s + 1 := by unfold pos; rw [List.takeWhile_cons, if_pos ha]; rfl
   cases k with
   | zero => cases hx; exact ha
   | succ k => exact ih (k := k) (by omega) (by simpa using hx)
  ·have hp : pos (a :: l) s = 0 := by unfold pos; rw [List.takeWhile_cons, if_neg ha]; rfl
   omega
theorem pos_not {l : List Att} (hr : rises l) {s : ByteArray} {k : Nat} {x : Att} (hk : pos l s ≤ k) (hx : l[k]? = some x) : Op.bytesLess x.name.data.toList s.data.toList = false := by
 obtain ⟨y, hy⟩ : ∃ y, l[pos l s]? = some y := ⟨_, List.getElem?_eq_getElem (by have := (List.getElem?_eq_some_iff.1 hx).1; omega)⟩
 have hyn : Op.bytesLess y.name.data.toList s.data.toList = false := by
  clear hk hx hr
  induction l with
  | nil => simp at hy
  | cons a l ih =>
   by_cases ha : Op.bytesLess a.name.data.toList s.data.toList = true
   ·have hp : pos (a :: l) s = pos l s + 1 := by unfold pos; rw [List.takeWhile_cons, if_pos ha]; rfl
    rw [hp, List.getElem?_cons_succ] at hy
    exact ih hy
   ·have hp : pos (a :: l) s = 0 := by unfold pos; rw [List.takeWhile_cons, if_neg ha]; rfl
    rw [hp, List.getElem?_cons_zero] at hy
    cases hy
    exact Bool.eq_false_iff.2 ha
 rcases Nat.lt_or_eq_of_le hk with h | rfl
 ·exact hr.more h hy hx hyn
 ·rw [hy] at hx; cases hx; exact hyn
end Go.Proofs.YtaenebdppkjhoaaGreatDoor
namespace Go.Proofs.YtaenebdppkjhoaaGreatDoor
set_option maxRecDepth 20000
open Go.RowKit
theorem ev_each {l : List Att} (h : evRight l = true) {a : Att} (ha : a ∈ l) : isName a.name = true ∧ a.v.right = true := by
 unfold evRight at h
 simp only [Bool.and_eq_true, List.all_eq_true, decide_eq_true_eq] at h
 obtain ⟨k, hk⟩ := List.mem_iff_getElem?.1 ha
 have := h.1 k (List.mem_range.2 (List.getElem?_eq_some_iff.1 hk).1)
 unfold okAt at this
 rw [hk] at this
 simp only [Bool.and_eq_true] at this
 exact ⟨this.1.1.1, this.1.1.2⟩
end Go.Proofs.YtaenebdppkjhoaaGreatDoor
namespace Go.Proofs.YtaenebdppkjhoaaGreatDoor
set_option maxRecDepth 20000
open Go.RowKit
theorem atR_mem {l : List Ru} {n : Nat} {r : Ru} (h : r ∈ atR l n) : r ∈ l := by
 unfold atR at h
 obtain ⟨q, h1, h2⟩ := List.mem_filterMap.1 h
 split at h2
 ·cases h2
 ·cases h2
  obtain ⟨i, h3⟩ := List.mem_iff_getElem?.1 h1
  rw [List.getElem?_zipIdx, Option.map_eq_some_iff] at h3
  obtain ⟨a, h4, h5⟩ := h3
  rw [← h5]
  exact List.mem_of_mem_take (List.mem_of_getElem? h4)
end Go.Proofs.YtaenebdppkjhoaaGreatDoor
namespace Go.Proofs.YtaenebdppkjhoaaGreatDoor
set_option maxRecDepth 20000
open Go.RowKit
structure RuIn (r : Ru) : Prop where
 who : r.who.size ≤ 140737488355328
 name : r.name.size ≤ 140737488355328
 sc : r.sc.size ≤ 140737488355328
 cs : ∀ c ∈ r.cs, (c.name.size ≤ 140737488355328 ∧ c.v.text.size ≤ 140737488355328) ∧ (-9223372036854775808 ≤ c.v.int ∧ c.v.int ≤ 9223372036854775807) ∧ c.v.num < 2 ^ 64
theorem RuIn.fine {r : Ru} (h : RuIn r) (hl : LightR r) : r.pru.fine := by
 have h1 := hl.who
 have h2 := hl.fil.sum
 have h3 := hl.fil.len
 refine ⟨by show r.who.size ≤ _; omega, by show r.sc.size ≤ _; omega, by show r.name.size ≤ _; omega, by show r.cs.length ≤ _; omega, fun c hc => ?_⟩
 have h4 := h.cs c hc
 have h5 := costC_mem (show c ∈ r.cs from hc)
 exact ⟨⟨h4.2.1, h4.2.2, by omega⟩, by omega⟩
end Go.Proofs.YtaenebdppkjhoaaGreatDoor
namespace Go.Proofs.YtaenebdppkjhoaaGreatDoor
set_option maxRecDepth 20000
open Go.RowKit
theorem reach47 : reachBytes ≤ 140737488355328 := by decide
theorem Ru.inn.ok {W : World} {r : Ru} (h : r.inn W) : r.ok W := by
 have hr := reach47
 have h1 := h.who
 have h2 := h.name
 have h3 := h.fil.sc
 refine ⟨h.fil.rd, ?_, by omega, by omega, by omega, fun c hc => ?_⟩
 ·exact le63 h.fil.len
 ·have h4 := (h.fil.cs c hc).name
  have h5 := (h.fil.cs c hc).v.text
  omega
theorem Ru.inn.rin {W : World} {r : Ru} (h : r.inn W) : RuIn r := by
 have hr := reach47
 refine ⟨Nat.le_trans h.who hr, Nat.le_trans h.name hr, Nat.le_trans h.fil.sc hr, fun c hc => ?_⟩
 have h4 := h.fil.cs c hc
 exact ⟨⟨Nat.le_trans h4.name hr, Nat.le_trans h4.v.text hr⟩, h4.v.int, h4.v.num⟩
theorem laid_refl {W : World} (hL : LaidAt W) (hN : 16 ≤ W.heap.size) : Laid W W := ⟨hL, hN, ⟨rfl, rfl, rfl, Nat.le_refl _, fun _ _ => rfl⟩⟩
end Go.Proofs.YtaenebdppkjhoaaGreatDoor
namespace Go.Proofs.YtaenebdppkjhoaaGreatDoor
set_option maxRecDepth 20000
open Go.RowKit
def learnP (l : List PRu) : List PRu := l.foldl addP []
theorem learnP_snoc (l : List PRu) (p : PRu) : learnP (l ++ [p]) = addP (learnP l) p := by unfold learnP; rw [List.foldl_append]; rfl
theorem learnP_forty (l : List PRu) : (learnP l).length ≤ 40 := by
 unfold learnP
 have h : ∀ (l : List PRu) (Q : List PRu), Q.length ≤ 40 → (l.foldl addP Q).length ≤ 40 := fun l => by
  induction l with
  | nil => exact fun Q h => h
  | cons a l ih => exact fun Q h => ih _ (addP_forty h a)
 exact h l [] (by decide)
theorem LogSl.app {w0 w wz w6 : World} {ow : Ow} {d g : Nat} {v v' : Value} {L : List Lr} {x : Lr} (_hw : Owd w0 w ow) (h2 : 2 ≤ d) (hg : g < w.heap.size) (h : LogSl w ow d g v L) (hz : Mod (fun _ => False) w wz) (hx : LrOk w ow x)
 (hA : Appended wz 35 8 v (L.length + 1) (rus (L.map Lr.ru) ++ x.ru.cells) v' w6) : ∃ ow', LogSl w6 ow' d g v' (L ++ [x]) ∧ Mov (fun t => t = d) w ow w6 ow' := by
 obtain ⟨hA1, hA2, hA3⟩ := hA
 have hzs := hz.size
 have hsz := hA2.size
 have hvb : ∀ b, v.ownBlock = some b → b < w.heap.size := fun b hb => h.sl.lt b hb
 have hmA : Mod (inBlock v) w w6 := (hz.mono (fun _ _ h => h.elim)).trans hA2 (fun b hb h => h)
 have hmF : Mod (fun k => ow k = d) w w6 := hmA.mono (fun k _ hk => (h.vb k hk).1)
 have hv'b : ∀ b, v'.ownBlock = some b → (v.ownBlock = some b ∧ b < w.heap.size) ∨ (wz.heap.size ≤ b ∧ b < w6.heap.size) := fun b hb => by
  rcases hA3 with e | ⟨k, e, hk⟩
  ·rw [e] at hb
   exact .inl ⟨hb, hvb b hb⟩
  ·have := hA1.lt b hb
   rw [hb] at e
   cases e
   exact .inr ⟨hk, by omega⟩
 have hmv : Mov (fun t => t = d) w ow w6 (tagNew w w6 ow (inBlock v') (fun _ => True) d) := Mov.tag rfl hmF
 refine ⟨_, ⟨?_, fun b hb => ⟨?_, ?_⟩, fun q hq => ?_⟩, hmv⟩
 ·rw [List.length_append, List.map_append, rus_append]
  have e : rus ([x].map Lr.ru) = x.ru.cells := by simp [rus]
  rw [e]
  exact hA1
 ·rcases hv'b b hb with h1 | h1
  ·rw [tagNew_old h1.2]; exact (h.vb b h1.1).1
  ·exact tagNew_own (by omega) h1.2 hb
 ·rcases hv'b b hb with h1 | h1
  ·exact (h.vb b h1.1).2
  ·omega
 ·rcases List.mem_append.1 hq with hq | hq
  ·exact (h.each q hq).mov hmv (by omega)
  ·rw [List.mem_singleton.1 hq]
   exact hx.mov hmv (by omega)
theorem laid_base {w0 w : World} (h : Laid w0 w) : Laid w w := ⟨h.at_, Nat.le_trans h.n64 h.size, ⟨rfl, rfl, rfl, Nat.le_refl _, fun _ _ => rfl⟩⟩
theorem Owd.loc {w0 w : World} {ow : Ow} (h : Owd w0 w ow) (o : Obj) : Mov (fun t => t = 1) w ow (w.alloc o) (tagOne ow w.heap.size 1) := Mov.alloc h o 1 (.inr (.inl rfl))
def LdRel (w : World) (l : List Ru) (g gl q : Nat) (vm i : Value) (wr : World) : Prop :=
 ∃ (j : Nat) (owr : Ow) (P : List PRu) (vL : Value) (L M : List Lr) (S : List Sd), i = .int .i64 j ∧ j ≤ l.length ∧ P = learnP ((l.take j).map Ru.pru) ∧ Owd w wr owr ∧ Bro wr owr 2 g 0 [1, 2] ⟨P, fun _ => RS.zero⟩ ∧ LogAt wr owr 60 60 gl [] 53 vL L ∧ L.map Prod.fst = P ∧
  LogSl wr owr 61 gl vm M ∧ M.map Prod.fst = P ∧ OtI wr owr 40 q S [] ∧ S.length ≤ 2 * j ∧ Mod (fun _ => False) w wr
def LearnedPost (w : World) (l : List Ru) (e : Ending) (w' : World) : Prop :=
 ∃ (ow' : Ow) (g gl : Nat) (vm : Value) (M : List Lr), e = .returned (.tuple #[.pointer (some ⟨g, 0, none⟩), vm]) ∧ Owd w w' ow' ∧ Bro w' ow' 2 g 0 [1, 2] ⟨learnP (l.map Ru.pru), fun _ => RS.zero⟩ ∧ LogSl w' ow' 61 gl vm M ∧ M.map Prod.fst = learnP (l.map Ru.pru) ∧ Mod (fun _ => False) w w'
set_option maxHeartbeats 16000000 in
theorem learned_at (w : World) (hl0 : Laid w w) (v : Value) (l : List Ru) (hv : RuSl w v l) (hl80 : l.length ≤ 80) (hfi : ∀ r ∈ l, r.pru.fine) : Calls Tryz.prog 17 #[v] w (LearnedPost w l) := by
 obtain ⟨a, cap, rfl, hcap⟩ : ∃ a c, v = .slice a l.length c ∧ l.length ≤ c := by obtain ⟨-, a, c, h, h2, -⟩ := hv.rd; exact ⟨a, c, h, h2⟩
 have hcap' : (l.length : Int) ≤ cap := by omega
 have hl80' : (l.length : Int) ≤ 80 := by omega
 obtain ⟨wa, hwa⟩ : ∃ wa : World, w.alloc (.cells #[.int .i64 1, .int .i64 2] 3) = wa := ⟨_, rfl⟩
 have hmwa : Mod (fun _ => False) w wa := hwa ▸ (Mod.refl (fun _ => False) w).alloc _
 have hgwa := heap_alloc_new w (.cells #[.int .i64 1, .int .i64 2] 3)
 rw [hwa] at hgwa
 have hzwa : wa.heap.size = w.heap.size + 1 := by rw [← hwa]; simp
 have hoa : Owd w wa (fun _ => 0) := ⟨fun k h => absurd rfl h, fun k h => absurd rfl h, hl0.mod0 hmwa⟩
 have hrd : RdSl wa 1 (.slice (some ⟨w.heap.size, 0, none⟩) 2 2) 2 [.int .i64 1, .int .i64 2] := ⟨rfl, _, _, rfl, Nat.le_refl _, (fun h => by cases h), fun b hb _ => ⟨_, 0, (by cases hb; rfl), fun j u hu => by rw [Nat.zero_add]; exact cell_of hgwa (by simpa using hu)⟩⟩
 have hnew := bnew_at w wa (fun _ => 0) 2 hoa (by omega) 0 (.slice (some ⟨w.heap.size, 0, none⟩) 2 2) [1, 2] hrd (by decide)
 have Hl0 := Lib.hid hl0
 have Hv := Lib.hid hv
 have Hfi := Lib.hid hfi
 have Hwa := Lib.hid hwa
 have Hmwa := Lib.hid hmwa
 have Hnew := Lib.hid hnew
 have Hoa := Lib.hid hoa
 clear hl0 hv hfi hwa hmwa hnew hoa hgwa hzwa hrd hcap
 go_enter Tryz.func17, Tryz.ntmps17
 go_wp2_with (first | (rw [show w.alloc _ = wa from Hwa.out]) | fail)
 refine Hnew.out.mono ?_
 rintro e w3 ⟨g, ow3, rfl, ho3, hb3, hm3⟩
 obtain ⟨hO4, hm4⟩ := OtI.new (c := 40) ho3
 obtain ⟨w4, hw4⟩ : ∃ w4 : World, w3.alloc (.cells #[.slice none 0 0, .slice none 0 0] 39) = w4 := ⟨_, rfl⟩
 rw [hw4] at hO4 hm4
 have hb4 := hb3.mov ho3 hm4 (by omega) (fun t e => by omega)
 have ho4 := hm4.owd ho3 (by omega)
 have hr3 : Mod (fun _ => False) w w3 := hm3.mod0 Hoa.out Hmwa.out (by omega)
 have hr4 := hm4.mod0 ho3 hr3 (by omega)
 have hrp := replay_at w w4 _ 60 ho4 (by omega)
 have hq3 : w3.heap.size < w4.heap.size := by rw [← hw4]; simp
 have Ho3 := Lib.hid ho3
 have Hb3 := Lib.hid hb3
 have Hm3 := Lib.hid hm3
 have HO4 := Lib.hid hO4
 have Hm4 := Lib.hid hm4
 have Hw4 := Lib.hid hw4
 have Hb4 := Lib.hid hb4
 have Ho4 := Lib.hid ho4
 have Hr3 := Lib.hid hr3
 have Hr4 := Lib.hid hr4
 have Hrp := Lib.hid hrp
 have Hq3 := Lib.hid hq3
 clear ho3 hb3 hm3 hO4 hm4 hw4 hb4 ho4 hr3 hr4 hrp hq3
 go_wp2_with (first | (rw [show w3.alloc _ = w4 from Hw4.out]) | fail)
 refine Hrp.out.mono ?_
 rintro e w5 ⟨gl, ow5, rfl, hlg, hm5, hm5'⟩
 have hb5 := Hb4.out.mov Ho4.out hm5 (by omega) (fun t e => by omega)
 have hO5 := HO4.out.mov hm5 (by omega) (by omega)
 have ho5 := hm5.owd Ho4.out (by omega)
 have hr5 := hm5.mod0 Ho4.out Hr4.out (by omega)
 have Hb5 := Lib.hid hb5
 have Ho5 := Lib.hid ho5
 have HO5 := Lib.hid hO5
 have Hr5 := Lib.hid hr5
 have Hlg := Lib.hid hlg
 have Hm5 := Lib.hid hm5
 clear hb5 ho5 hO5 hr5 hlg hm5 hm5'
 go_wp2_with fail
 go_loopw [6, 19] (fun vm i wr => LdRel w l g gl w3.heap.size vm i wr) (fun _ i _ => l.length - (intOf i).toNat)
 case atStart => exact ⟨0, ow5, [], .slice none 0 0, [], [], [], rfl, Nat.zero_le _, rfl, Ho5.out, Hb5.out, Hlg.out, rfl, ⟨OwnSl.nil _ _ _, fun b hb => (by cases hb), fun x hx => (by cases hx)⟩, rfl, HO5.out, Nat.zero_le _, Hr5.out⟩
 case round =>
  obtain ⟨j, owr, P, vL, L, M, S, rfl, hj, hPj, hor, hbr, hlr, hLP, hMr, hMP, hOr, hSl, hmr⟩ := hrel
  by_cases hlt : j < l.length
  ·have hlt' : (j : Int) < l.length := by omega
   obtain ⟨x, hxj⟩ : ∃ x, l[j]? = some x := ⟨_, List.getElem?_eq_getElem hlt⟩
   have hxm := List.mem_of_getElem? hxj
   obtain ⟨g2, off, rfl, hf⟩ : ∃ g2 off, a = some ⟨g2, off, none⟩ ∧ CellsAt wr g2 (off + j * 8) x.cells := rd_rule (Hv.out.mod hmr) hxj
   have hP40 : P.length ≤ 40 := by rw [hPj]; exact learnP_forty _
   have hPn : learnP ((l.take (j + 1)).map Ru.pru) = addP P x.pru := by rw [List.take_add_one, hxj, Option.toList_some, List.map_append, hPj]; exact learnP_snoc _ _
   have hMl : M.length = P.length := by rw [← hMP, List.length_map]
   obtain ⟨am, cm, rfl, -⟩ : ∃ a' cc, u6 = .slice a' M.length cc ∧ M.length ≤ cc := by obtain ⟨-, a, cc, h, h2, -⟩ := hMr.sl.rd; exact ⟨a, cc, h, h2⟩
   rw [show Value.slice am M.length cm = Value.slice am P.length cm by rw [hMl]] at hMr ⊢
   obtain ⟨wz, hwz⟩ : ∃ wz : World, wr.alloc (.cells x.cells.toArray 35) = wz := ⟨_, rfl⟩
   have hmwz : Mod (fun _ => False) wr wz := hwz ▸ (Mod.refl (fun _ => False) wr).alloc _
   have hgwz := heap_alloc_new wr (.cells x.cells.toArray 35)
   rw [hwz] at hgwz
   have hzwz : wz.heap.size = wr.heap.size + 1 := by rw [← hwz]; simp
   have hlz := hor.loc (.cells x.cells.toArray 35)
   rw [hwz] at hlz
   obtain ⟨oz, hozd⟩ : ∃ oz : Ow, tagOne owr wr.heap.size 1 = oz := ⟨_, rfl⟩
   rw [hozd] at hlz
   have hoz1 : oz wr.heap.size = 1 := by rw [← hozd]; exact tagOne_at _ _ _
   have hoz := hlz.owd hor (by omega)
   have hbz := hbr.mov hor hlz (by omega) (fun t e => by omega)
   have hLz := hlr.mov hlz (by omega) (by omega) (by omega)
   have hMz := hMr.mov hlz (by omega) (by omega)
   have hOz := hOr.mov hlz (by omega) (by omega)
   have hrz := hmr.trans hmwz (fun _ _ h => h)
   have hgz : wz.heap[wr.heap.size]? = some (.cells ([.int .i64 x.kind, .int .i64 x.tenant, .string x.who, .int .i64 x.broker, .string x.sc, .slice x.ca x.cs.length x.cc, .string x.name, .int .i64 x.at_] : List Value).toArray 35 (0, 0)) := hgwz
   have hxz : LrOk wz oz (x.pru, x.ca, x.cc) := ⟨ConSl.of_rd hoz (Hv.out.ok x hxm).rd (by omega), Hfi.out x hxm⟩
   have hgll := (Array.getElem?_eq_some_iff.1 hlr.row).1
   have hadd : Calls Tryz.prog 13 #[.pointer (some ⟨gl, 0, none⟩), .agg #[.int .i64 x.kind, .int .i64 x.tenant, .string x.who, .int .i64 x.broker, .string x.sc, .slice x.ca x.cs.length x.cc, .string x.name, .int .i64 x.at_]] wz (AddPost wz oz 60 60 gl [] 53 L x.pru) :=
    padd_at w wz oz 60 60 gl [] 53 vL L hoz ⟨by omega, by omega⟩ hLz (by have := congrArg List.length hLP; rw [List.length_map] at this; omega) x.pru x.ca x.cc hxz.cs.rd hxz.fine
   obtain ⟨R, hR⟩ : ∃ R, chkP P x.pru = R := ⟨_, rfl⟩
   have hP' : (P.length : Int) ≤ 40 := by omega
   have hj80 : j ≤ 80 := by omega
   have Hmr := Lib.hid hmr
   have Hor := Lib.hid hor
   have Hbr := Lib.hid hbr
   have Hlr := Lib.hid hlr
   have HMr := Lib.hid hMr
   have HMP := Lib.hid hMP
   have HOr := Lib.hid hOr
   have Hxj := Lib.hid hxj
   have Hxm := Lib.hid hxm
   have Hf := Lib.hid hf
   have Hwz := Lib.hid hwz
   have Hmwz := Lib.hid hmwz
   have Hgwz := Lib.hid hgwz
   have Hlz := Lib.hid hlz
   have Hozd := Lib.hid hozd
   have Hoz1 := Lib.hid hoz1
   have Hoz := Lib.hid hoz
   have Hbz := Lib.hid hbz
   have HLz := Lib.hid hLz
   have HMz := Lib.hid hMz
   have HOz := Lib.hid hOz
   have Hrz := Lib.hid hrz
   have Hgz := Lib.hid hgz
   have Hxz := Lib.hid hxz
   have Hadd := Lib.hid hadd
   have HR := Lib.hid hR
   have HLP := Lib.hid hLP
   have HPn := Lib.hid hPn
   have HPj := Lib.hid hPj
   have HMl := Lib.hid hMl
   have Hgll := Lib.hid hgll
   clear hmr hor hbr hlr hMr hMP hOr hxj hxm hf hwz hmwz hgwz hlz hozd hoz1 hoz hbz hLz hMz hOz hrz hgz hxz hadd hR hLP hPn hPj hMl hgll hzwz
   have hgz' := Hgz.out
   go_wp2_with (first | ((with_reducible refine wpList_load_lit 35 (.tmp 21) ?_); refine ⟨g2, off + j * 8, rfl, x.cells, Hf.out, by kernel_rfl, by kernel_rfl, ?_⟩) | ((with_reducible refine wpList_store_lit 35 (.tmp 10) (.tmp 22) ?_); refine ⟨rfl, x.cells, rfl, rfl, by kernel_rfl, rfl, ?_⟩; rw [Hwz.out]) | ((with_reducible refine wpList_load_lit 35 (.tmp 10) ?_); refine ⟨wr.heap.size, 0, rfl, [.int .i64 x.kind, .int .i64 x.tenant, .string x.who, .int .i64 x.broker, .string x.sc, .slice x.ca x.cs.length x.cc, .string x.name, .int .i64 x.at_], CellsAt.row Hgz.out, by kernel_rfl, by kernel_rfl, ?_⟩) | fail)
   refine Hadd.out.mono ?_
   rintro e w5 ⟨rfl, ow5, v5, L5, hl5, hp5, hm5⟩
   rw [HLP.out, HR.out]
   rw [HLP.out] at hp5
   have ho5 := hm5.owd Hoz.out (by omega)
   have hb5 := Hbz.out.mov Hoz.out hm5 (by omega) (fun t e => by omega)
   have hM5 := HMz.out.mov hm5 (by omega) (by omega)
   have hO5 := HOz.out.mov hm5 (by omega) (by omega)
   have hx5 := Hxz.out.mov hm5 (by omega)
   have hr5 := hm5.mod0 Hoz.out Hrz.out (by omega)
   have hg5 := hm5.md.heap Hgz.out (by rw [Hoz1.out]; omega)
   have ho51 : ow5 wr.heap.size = 1 := by rw [hm5.old _ (Array.getElem?_eq_some_iff.1 Hgz.out).1]; exact Hoz1.out
   clear hgz'
   by_cases hR0 : R = 0
   rotate_left
   ·have hb1 : (R == 0) = false := by simpa using hR0
    have hpk : addP P x.pru = P := by unfold addP; rw [HR.out, if_neg hR0]
    have Hl5 := Lib.hid hl5
    have Hp5 := Lib.hid hp5
    have Hm5 := Lib.hid hm5
    have Ho5 := Lib.hid ho5
    have Hb5 := Lib.hid hb5
    have HM5 := Lib.hid hM5
    have HO5 := Lib.hid hO5
    have Hx5 := Lib.hid hx5
    have Hr5 := Lib.hid hr5
    have Hg5 := Lib.hid hg5
    have Ho51 := Lib.hid ho51
    have Hpk := Lib.hid hpk
    clear hl5 hp5 hm5 ho5 hb5 hM5 hO5 hx5 hr5 hg5 ho51 hpk
    go_wp2_with fail
    go_roundw
    case rel => exact ⟨j + 1, ow5, P, _, _, M, S, by go_num, hlt, by rw [HPn.out, Hpk.out], Ho5.out, Hb5.out, Hl5.out, by rw [Hp5.out, Hpk.out], HM5.out, HMP.out, HO5.out, by omega, Hr5.out⟩
    case measure => simp [intOf]; omega
   ·subst hR0
    have hok : learnOk P P.length x.pru = true := by unfold learnOk; rw [HR.out, decide_eq_true rfl]; rfl
    have hpk : addP P x.pru = P ++ [x.pru.kept] := by unfold addP; rw [HR.out, if_pos rfl]
    have hle : Calls Tryz.prog 14 #[.pointer (some ⟨g, 0, none⟩), .iface 43 (.pointer (some ⟨w3.heap.size, 0, none⟩)), .int .i64 P.length, .agg #[.int .i64 x.kind, .int .i64 x.tenant, .string x.who, .int .i64 x.broker, .string x.sc, .slice x.ca x.cs.length x.cc, .string x.name, .int .i64 x.at_], .int .i64 1] w5 (LearnPost (out17 w w3.heap.size 40 (by omega)) w5 ow5 2 g 0 [1, 2] ⟨P, fun _ => RS.zero⟩ (S, []) P.length x.pru 1) :=
     learn_at w w5 ow5 2 g 0 [1, 2] _ ho5 hb5 hP40 w3.heap.size (out17 w w3.heap.size 40 (by omega)) (S, []) hO5 (fun t ht => by have h' : t = 40 := ht; omega) (show S.length + 0 + 2 ≤ 400000000000 by omega) (by decide) (fun _ _ => trivial) P.length x.pru x.ca x.cc hx5 1
    have hg5' := hg5
    have y0 : w5.cell? ⟨wr.heap.size, 0, none⟩ = some (.int .i64 x.kind) := cell_of hg5' rfl
    have y1 : w5.cell? ⟨wr.heap.size, 1, none⟩ = some (.int .i64 x.tenant) := cell_of hg5' rfl
    have y2 : w5.cell? ⟨wr.heap.size, 2, none⟩ = some (.string x.who) := cell_of hg5' rfl
    have y3 : w5.cell? ⟨wr.heap.size, 3, none⟩ = some (.int .i64 x.broker) := cell_of hg5' rfl
    have y4 : w5.cell? ⟨wr.heap.size, 4, none⟩ = some (.string x.sc) := cell_of hg5' rfl
    have y5 : w5.cell? ⟨wr.heap.size, 5, none⟩ = some (.slice x.ca x.cs.length x.cc) := cell_of hg5' rfl
    have y6 : w5.cell? ⟨wr.heap.size, 6, none⟩ = some (.string x.name) := cell_of hg5' rfl
    have y7 : w5.cell? ⟨wr.heap.size, 7, none⟩ = some (.int .i64 x.at_) := cell_of hg5' rfl
    clear hg5'
    have Hl5 := Lib.hid hl5
    have Hp5 := Lib.hid hp5
    have Hm5 := Lib.hid hm5
    have Ho5 := Lib.hid ho5
    have Hb5 := Lib.hid hb5
    have HM5 := Lib.hid hM5
    have HO5 := Lib.hid hO5
    have Hx5 := Lib.hid hx5
    have Hr5 := Lib.hid hr5
    have Hg5 := Lib.hid hg5
    have Ho51 := Lib.hid ho51
    have Hle := Lib.hid hle
    have Hpk := Lib.hid hpk
    clear hl5 hp5 hm5 ho5 hb5 hM5 hO5 hx5 hr5 hg5 ho51 hle hpk
    go_wp2_with fail
    refine Hle.out.mono ?_
    rintro e w6 ⟨rfl, ow6, hb6, hO6, hm6⟩
    clear y0 y1 y2 y3 y4 y5 y6 y7
    rw [show learnOk (⟨P, fun _ => RS.zero⟩ : BS).L (↑P.length) x.pru = true from hok] at hO6 ⊢
    rw [if_pos rfl, sends17] at hO6
    have hb6' : Bro w6 ow6 2 g 0 [1, 2] ⟨addP P x.pru, fun _ => RS.zero⟩ := by
     have := hb6
     unfold BS.learn at this
     rw [show learnOk (⟨P, fun _ => RS.zero⟩ : BS).L (↑P.length) x.pru = true from hok] at this
     exact this
    have hSn : (S ++ learnS [1, 2] 1 (P.length : Int) x.pru).length ≤ 2 * (j + 1) := by have := learnS_len [1, 2] 1 (P.length : Int) x.pru; rw [List.length_append]; have e : ([1, 2] : List Int).length = 2 := rfl; omega
    have ho6 := hm6.owd Ho5.out (by show ¬ ((0 = 2 ∨ 0 = 2 + 17) ∨ 0 = 40); omega)
    have hr6 := hm6.mod0 Ho5.out Hr5.out (by show ¬ ((0 = 2 ∨ 0 = 2 + 17) ∨ 0 = 40); omega)
    have hl6 := Hl5.out.mov hm6 (by show ¬ ((0 = 2 ∨ 0 = 2 + 17) ∨ 0 = 40); omega) (by show ¬ ((60 = 2 ∨ 60 = 2 + 17) ∨ 60 = 40); omega) (by show ¬ ((60 = 2 ∨ 60 = 2 + 17) ∨ 60 = 40); omega)
    have hM6 := HM5.out.mov hm6 (by show ¬ ((0 = 2 ∨ 0 = 2 + 17) ∨ 0 = 40); omega) (by show ¬ ((61 = 2 ∨ 61 = 2 + 17) ∨ 61 = 40); omega)
    have hx6 := Hx5.out.mov hm6 (by show ¬ ((0 = 2 ∨ 0 = 2 + 17) ∨ 0 = 40); omega)
    have hg6 := hm6.md.heap Hg5.out (by rw [Ho51.out]; show ¬ ((1 = 2 ∨ 1 = 2 + 17) ∨ 1 = 40); omega)
    have ho61 : ow6 wr.heap.size = 1 := by rw [hm6.old _ (Array.getElem?_eq_some_iff.1 Hg5.out).1]; exact Ho51.out
    have hfine := hx6.fine
    have hfr := filter_right w6 x.sc (.slice x.ca x.cs.length x.cc) x.cs hx6.cs.rd (by have h1 : x.cs.length ≤ 1000 := hfine.len; omega) (by have h1 : x.sc.size ≤ 1000000 := hfine.sc; omega) (fun c hc => by have := (hfine.cs c hc).name; omega)
    have e4 : w6.cell? ⟨wr.heap.size, 4, none⟩ = some (.string x.sc) := cell_of hg6 rfl
    have e5 : w6.cell? ⟨wr.heap.size, 5, none⟩ = some (.slice x.ca x.cs.length x.cc) := cell_of hg6 rfl
    have Hb6' := Lib.hid hb6'
    have Ho6 := Lib.hid ho6
    have Hr6 := Lib.hid hr6
    have Hl6 := Lib.hid hl6
    have HM6 := Lib.hid hM6
    have Hx6 := Lib.hid hx6
    have Hg6 := Lib.hid hg6
    have Ho61 := Lib.hid ho61
    have HO6 := Lib.hid hO6
    have Hfr := Lib.hid hfr
    have HSn := Lib.hid hSn
    have Hfine := Lib.hid hfine
    clear hb6' ho6 hr6 hl6 hM6 hx6 hg6 ho61 hO6 hfr hSn hfine hb6 hm6 hok
    go_wp2_with fail
    refine Hfr.out.mono ?_
    rintro e w7 ⟨rfl, hm7⟩
    have hv7 := Mov.of Ho6.out hm7 (fun _ => False)
    have ho7 := hv7.owd Ho6.out (fun h => h)
    have hb7 := Hb6'.out.mov Ho6.out hv7 (fun h => h) (fun _ h => h.elim)
    have hl7 := Hl6.out.mov hv7 (fun h => h) (fun h => h) (fun h => h)
    have hM7 := HM6.out.mov hv7 (fun h => h) (fun h => h)
    have hO7 := OtI.mov HO6.out hv7 (fun h => h) (fun h => h)
    have hx7 := Hx6.out.mov hv7 (fun h => h)
    have hg7 := hm7.heap Hg6.out (fun h => h)
    have hr7 := Hr6.out.trans hm7 (fun _ _ h => h)
    cases hfb : filRight x.sc x.cs with
    | false =>
     have hkk : x.pru.kept = x.pru := by unfold PRu.kept; rw [show filRight x.pru.sc x.pru.cs = false from hfb]; rfl
     have Ho7 := Lib.hid ho7
     have Hb7 := Lib.hid hb7
     have Hl7 := Lib.hid hl7
     have HM7 := Lib.hid hM7
     have HO7 := Lib.hid hO7
     have Hx7 := Lib.hid hx7
     have Hg7 := Lib.hid hg7
     have Hr7 := Lib.hid hr7
     have Hv7 := Lib.hid hv7
     have Hm7 := Lib.hid hm7
     have Hkk := Lib.hid hkk
     have Hfb := Lib.hid hfb
     clear ho7 hb7 hl7 hM7 hO7 hx7 hg7 hr7 hv7 hm7 hkk hfb
     clear e4 e5
     obtain ⟨wS, hwS⟩ : ∃ wS : World, w7.alloc (.cells (x.pru.lies x.ca x.cc).cells.toArray 35) = wS := ⟨_, rfl⟩
     have hmwS : Mod (fun _ => False) w7 wS := hwS ▸ (Mod.refl (fun _ => False) w7).alloc _
     have hgwS := heap_alloc_new w7 (.cells (x.pru.lies x.ca x.cc).cells.toArray 35)
     rw [hwS] at hgwS
     have hzwS : wS.heap.size = w7.heap.size + 1 := by rw [← hwS]; simp
     have hwS' : w7.alloc (.cells #[.int .i64 x.kind, .int .i64 x.tenant, .string x.who, .int .i64 x.broker, .string x.sc, .slice x.ca x.cs.length x.cc, .string x.name, .int .i64 x.at_] 35) = wS := hwS
     have hrdS : RdSl wS 8 (.slice (some ⟨w7.heap.size, 0, none⟩) 1 1) 1 (x.pru.lies x.ca x.cc).cells := hwS ▸ RdSl.one w7 (x.pru.lies x.ca x.cc).cells 35 rfl
     have hslS := HM7.out.sl.mod hmwS (fun _ _ h => h)
     have hone : ∀ u ∈ (x.pru.lies x.ca x.cc).cells, u.oneCell' = true := fun u hu => List.all_eq_true.1 (show (x.pru.lies x.ca x.cc).cells.all (·.oneCell') = true from rfl) u hu
     rw [HMl.out] at hslS
     have hglS : gl < w7.heap.size := (Array.getElem?_eq_some_iff.1 Hl7.out.row).1
     have HwS' := Lib.hid hwS'
     have HrdS := Lib.hid hrdS
     have HslS := Lib.hid hslS
     have Hone := Lib.hid hone
     have HmwS := Lib.hid hmwS
     have HglS := Lib.hid hglS
     clear hwS' hrdS hslS hone hmwS hglS hwS hgwS hzwS
     go_wp2_with (first | ((with_reducible refine wpList_load_lit 35 (.tmp 10) ?_); refine ⟨wr.heap.size, 0, rfl, [.int .i64 x.kind, .int .i64 x.tenant, .string x.who, .int .i64 x.broker, .string x.sc, .slice x.ca x.cs.length x.cc, .string x.name, .int .i64 x.at_], CellsAt.row Hg7.out, by kernel_rfl, by kernel_rfl, ?_⟩) | (rw [show w7.alloc _ = wS from HwS'.out]) | ((with_reducible refine wpList_append_lit (.tmp 42) (.tmp 44) 22 ?_); refine ⟨rfl, 35, 8, 104, rules_T2, .slice am P.length cm, P.length, rus (M.map Lr.ru), rfl, HslS.out, _, 1, (x.pru.lies x.ca x.cc).cells, rfl, HrdS.out, Hone.out, by omega, by unfold maxLen; omega, ?_⟩; intro ad cp2 w9 hA; have HA := Lib.hid hA; clear hA) | fail)
     have hA2 := HA.out
     rw [← HMl.out] at hA2
     obtain ⟨ow9, hM9, hv9⟩ := LogSl.app (d := 61) (v := .slice am M.length cm) (x := (x.pru, x.ca, x.cc)) Ho7.out (by omega) HglS.out (by rw [HMl.out]; exact HM7.out) HmwS.out Hx7.out hA2
     have ho9 := hv9.owd Ho7.out (by omega)
     have hb9 := Hb7.out.mov Ho7.out hv9 (by omega) (fun t e => by omega)
     have hl9 := Hl7.out.mov hv9 (by omega) (by omega) (by omega)
     have hO9 := OtI.mov HO7.out hv9 (by omega) (by omega)
     have hr9 := hv9.mod0 Ho7.out Hr7.out (by omega)
     rw [HMl.out] at hM9
     have hM9' : (M ++ [(x.pru, x.ca, x.cc)]).map Prod.fst = addP P x.pru := by rw [List.map_append, HMP.out, Hpk.out, Hkk.out]; rfl
     have HM9 := Lib.hid hM9
     have Hv9 := Lib.hid hv9
     have Ho9 := Lib.hid ho9
     have Hb9 := Lib.hid hb9
     have Hl9 := Lib.hid hl9
     have HO9 := Lib.hid hO9
     have Hr9 := Lib.hid hr9
     have HM9' := Lib.hid hM9'
     clear hM9 hv9 ho9 hb9 hl9 hO9 hr9 hM9' hA2
     clear HA
     go_roundw
     case rel => exact ⟨j + 1, ow9, _, _, _, _, _, by go_num, hlt, HPn.out.symm, Ho9.out, Hb9.out, Hl9.out, Hp5.out, HM9.out, HM9'.out, HO9.out, HSn.out, Hr9.out⟩
     case measure => simp [intOf]; omega
    | true =>
     have hfl := fil_bounds hfb
     have hkp : x.pru.kept = { x.pru with cs := normC x.cs } := by unfold PRu.kept; rw [if_pos (show filRight x.pru.sc x.pru.cs = true from hfb)]; rfl
     have hnr := norm_at w w7 ho7.laid x.sc (.slice x.ca x.cs.length x.cc) x.cs hx7.cs.rd (by have := hfl.2.1; omega) Hfine.out.cs
     obtain ⟨nl, hnl⟩ : ∃ nl, normC x.cs = nl := ⟨_, rfl⟩
     rw [hnl] at hnr hkp
     have e4 : w7.cell? ⟨wr.heap.size, 4, none⟩ = some (.string x.sc) := cell_of hg7 rfl
     have e5 : w7.cell? ⟨wr.heap.size, 5, none⟩ = some (.slice x.ca x.cs.length x.cc) := cell_of hg7 rfl
     have Ho7 := Lib.hid ho7
     have Hb7 := Lib.hid hb7
     have Hl7 := Lib.hid hl7
     have HM7 := Lib.hid hM7
     have HO7 := Lib.hid hO7
     have Hx7 := Lib.hid hx7
     have Hg7 := Lib.hid hg7
     have Hr7 := Lib.hid hr7
     have Hv7 := Lib.hid hv7
     have Hm7 := Lib.hid hm7
     have Hfl := Lib.hid hfl
     have Hkp := Lib.hid hkp
     have Hnr := Lib.hid hnr
     have Hnl := Lib.hid hnl
     have Hfb := Lib.hid hfb
     clear ho7 hb7 hl7 hM7 hO7 hx7 hg7 hr7 hv7 hm7 hfl hkp hnr hnl hfb
     go_wp2_with fail
     refine Hnr.out.mono ?_
     rintro e w8 ⟨na, nc, rfl, hno, hnb, hm8⟩
     have hv8 := Mov.of Ho7.out hm8 (fun _ => False)
     have ho8 := hv8.owd Ho7.out (fun h => h)
     have hg8 := hm8.heap Hg7.out (fun h => h)
     have hgl8 := (Array.getElem?_eq_some_iff.1 hg8).1
     have hgl7 := (Array.getElem?_eq_some_iff.1 Hg7.out).1
     have hkk : x.pru.kept = ({ x.pru with cs := nl } : PRu) := Hkp.out
     have hkf : ({ x.pru with cs := nl } : PRu).fine := by rw [← hkk]; exact Hfine.out.kept
     have hnb1 : ∀ b, (Value.slice am P.length cm).ownBlock = some b → b ≠ wr.heap.size := fun b hb e => by have h1 := (HM7.out.vb b hb).1; rw [e, Ho61.out] at h1; omega
     have hslY : ∀ (wy : World) (o : Obj), Mod (fun b => b = wr.heap.size) w8 wy → OwnSl (wy.alloc o) 35 8 (.slice am P.length cm) P.length (rus (M.map Lr.ru)) := fun wy o hmy => by
      have h1 := ((HM7.out.sl.mod hm8 (fun _ _ h => h)).mod hmy (fun b hb e => hnb1 b hb e)).alloc o
      rw [HMl.out] at h1
      exact h1
     have hone : ∀ u ∈ (({ x.pru with cs := nl } : PRu).lies na nc).cells, u.oneCell' = true := fun u hu => List.all_eq_true.1 (show (({ x.pru with cs := nl } : PRu).lies na nc).cells.all (·.oneCell') = true from rfl) u hu
     have Hno := Lib.hid hno
     have Hnb := Lib.hid hnb
     have Hm8 := Lib.hid hm8
     have Hv8 := Lib.hid hv8
     have Ho8 := Lib.hid ho8
     have Hg8 := Lib.hid hg8
     have Hkk := Lib.hid hkk
     have Hkf := Lib.hid hkf
     have HslY := Lib.hid hslY
     have Hone := Lib.hid hone
     clear hno hnb hm8 hv8 ho8 hg8 hkk hkf hslY hone
     go_wp2_with (first | ((with_reducible refine wpList_store_part_lit 33 (.tmp 41) (.tmp 40) ?_); refine ⟨wr.heap.size, 4, rfl, _, _, Hg8.out, [.string x.sc, .slice na nl.length nc], rfl, Nat.le_of_ble_eq_true rfl, by kernel_rfl, rfl, ?_⟩; intro wy hey hmy; have hgy : wy.heap[wr.heap.size]? = some (.cells ([.int .i64 x.kind, .int .i64 x.tenant, .string x.who, .int .i64 x.broker, .string x.sc, .slice na nl.length nc, .string x.name, .int .i64 x.at_] : List Value).toArray 35 (0, 0)) := hey ▸ setRow_heap w8 wr.heap.size _ _ _ _ Hg8.out; have Hgy := Lib.hid hgy; have Hmy := Lib.hid hmy; clear hey hgy hmy) | ((with_reducible refine wpList_load_lit 35 (.tmp 10) ?_); refine ⟨wr.heap.size, 0, rfl, [.int .i64 x.kind, .int .i64 x.tenant, .string x.who, .int .i64 x.broker, .string x.sc, .slice na nl.length nc, .string x.name, .int .i64 x.at_], CellsAt.row Hgy.out, by kernel_rfl, by kernel_rfl, ?_⟩) | ((with_reducible refine wpList_append_lit (.tmp 42) (.tmp 44) 22 ?_); refine ⟨rfl, 35, 8, 104, rules_T2, .slice am P.length cm, P.length, rus (M.map Lr.ru), rfl, HslY.out wy _ Hmy.out, _, 1, (({ x.pru with cs := nl } : PRu).lies na nc).cells, rfl, RdSl.one wy (({ x.pru with cs := nl } : PRu).lies na nc).cells 35 rfl, Hone.out, by omega, by unfold maxLen; omega, ?_⟩; intro ad cp2 w9 hA; have HA := Lib.hid hA; clear hA) | fail)
     have hvy : Mov (fun t => t = 1) w8 ow6 wy ow6 := Mov.wrote Ho8.out Hmy.out (fun b hb => by have hb' : b = wr.heap.size := hb; rw [hb']; exact Ho61.out)
     have hoy := hvy.owd Ho8.out (by omega)
     have hry := hvy.mod0 Ho8.out (Hr7.out.trans Hm8.out (fun _ _ h => h)) (by omega)
     have hby := (Hb7.out.mov Ho7.out Hv8.out (fun h => h) (fun _ h => h.elim)).mov Ho8.out hvy (by omega) (fun t e => by omega)
     have hly := (Hl7.out.mov Hv8.out (fun h => h) (fun h => h) (fun h => h)).mov hvy (by omega) (by omega) (by omega)
     have hMy := (HM7.out.mov Hv8.out (fun h => h) (fun h => h)).mov hvy (by omega) (by omega)
     have hOy := OtI.mov (OtI.mov HO7.out Hv8.out (fun h => h) (fun h => h)) hvy (by omega) (by omega)
     have hxy : LrOk wy ow6 (({ x.pru with cs := nl } : PRu), na, nc) := ⟨⟨(Hno.out.mod Hmy.out (fun b hb e => by have h1 := Hnb.out b hb; have h3 : b = wr.heap.size := e; have h4 := (Array.getElem?_eq_some_iff.1 Hg7.out).1; omega)).rd, fun _ b hb => Ho7.out.zero (Hnb.out b hb)⟩, Hkf.out⟩
     have hgly : gl < wy.heap.size := (Array.getElem?_eq_some_iff.1 hly.row).1
     have Hvy := Lib.hid hvy
     have Hoy := Lib.hid hoy
     have Hry := Lib.hid hry
     have Hby := Lib.hid hby
     have Hly := Lib.hid hly
     have HMy := Lib.hid hMy
     have HOy := Lib.hid hOy
     have Hxy := Lib.hid hxy
     have Hgly := Lib.hid hgly
     clear hvy hoy hry hby hly hMy hOy hxy hgly
     have hA2 := HA.out
     rw [← HMl.out] at hA2
     obtain ⟨ow9, hM9, hv9⟩ := LogSl.app (d := 61) (v := .slice am M.length cm) (x := (({ x.pru with cs := nl } : PRu), na, nc)) Hoy.out (by omega) Hgly.out (by rw [HMl.out]; exact HMy.out) ((Mod.refl (fun _ => False) wy).alloc _) Hxy.out hA2
     have ho9 := hv9.owd Hoy.out (by omega)
     have hb9 := Hby.out.mov Hoy.out hv9 (by omega) (fun t e => by omega)
     have hl9 := Hly.out.mov hv9 (by omega) (by omega) (by omega)
     have hO9 := OtI.mov HOy.out hv9 (by omega) (by omega)
     have hr9 := hv9.mod0 Hoy.out Hry.out (by omega)
     rw [HMl.out] at hM9
     have hM9' : (M ++ [(({ x.pru with cs := nl } : PRu), na, nc)]).map Prod.fst = addP P x.pru := by rw [List.map_append, HMP.out, Hpk.out, Hkk.out]; rfl
     have HM9 := Lib.hid hM9
     have Hv9 := Lib.hid hv9
     have Ho9 := Lib.hid ho9
     have Hb9 := Lib.hid hb9
     have Hl9 := Lib.hid hl9
     have HO9 := Lib.hid hO9
     have Hr9 := Lib.hid hr9
     have HM9' := Lib.hid hM9'
     clear hM9 hv9 ho9 hb9 hl9 hO9 hr9 hM9' hA2
     clear HA
     go_roundw
     case rel => exact ⟨j + 1, ow9, _, _, _, _, _, by go_num, hlt, HPn.out.symm, Ho9.out, Hb9.out, Hl9.out, Hp5.out, HM9.out, HM9'.out, HO9.out, HSn.out, Hr9.out⟩
     case measure => simp [intOf]; omega
  ·obtain rfl : j = l.length := by omega
   rw [List.take_length] at hPj
   have Hor := Lib.hid hor
   have Hbr := Lib.hid hbr
   have Hlr := Lib.hid hlr
   have HMr := Lib.hid hMr
   have HMP := Lib.hid hMP
   have HOr := Lib.hid hOr
   have Hmr := Lib.hid hmr
   have HPj := Lib.hid hPj
   clear hor hbr hlr hMr hMP hOr hmr hPj hLP hSl
   go_wp2
   go_ret2
   exact ⟨owr, g, gl, _, M, rfl, Hor.out, by rw [← HPj.out]; exact Hbr.out, HMr.out, by rw [← HPj.out]; exact HMP.out, Hmr.out⟩
end Go.Proofs.YtaenebdppkjhoaaGreatDoor
namespace Go.Proofs.YtaenebdppkjhoaaGreatDoor
set_option maxRecDepth 20000
open Go.RowKit
theorem BroA.logs {w : World} {ow : Ow} {c g : Nat} {id : Int} {near : List Int} {B : BS} {a : BAd} (h : BroA w ow c g id near B a) :
 ∃ (l : List Ru) (la : Option Addr) (lc : Nat), l.map Ru.pru = B.L ∧ l.length = B.L.length ∧ a.v = .slice la l.length lc ∧ w.cell? ⟨g, 0, none⟩ = some (.slice la l.length lc) ∧ RuSl w (.slice la l.length lc) l ∧ (∀ r ∈ l, r.pru.fine ∧ ConSl w ow 7 r.cv r.cs.length (cnds r.cs)) := by
 obtain ⟨L, hl, hL⟩ := h.log
 obtain ⟨la, lc, hv, -⟩ : ∃ a' cc, a.v = .slice a' L.length cc ∧ L.length ≤ cc := by obtain ⟨-, a, cc, h, h2, -⟩ := hl.sl.sl.rd; exact ⟨a, cc, h, h2⟩
 have hn : (L.map Lr.ru).length = L.length := List.length_map _
 refine ⟨L.map Lr.ru, la, lc, by rw [lrs_pru]; exact hL, by rw [hn, ← hL, List.length_map], by rw [hn]; exact hv, by rw [hn, ← hv]; exact cell_of hl.row rfl, ?_, fun r hr => ?_⟩
 ·have := hl.sl.ru
  rw [hn, ← hv]
  exact this
 ·obtain ⟨x, hx, rfl⟩ := List.mem_map.1 hr
  have h1 := hl.sl.each x hx
  exact ⟨by rw [lr_pru]; exact h1.fine, h1.cs⟩
theorem BroA.at_ {w : World} {ow : Ow} {c g : Nat} {id : Int} {near : List Int} {B : BS} {a : BAd} (h : BroA w ow c g id near B a) (hL : B.L.length ≤ 40) :
 ∃ l : List Ru, l.map Ru.pru = B.L ∧ (∀ r ∈ l, r.pru.fine ∧ ConSl w ow 7 r.cv r.cs.length (cnds r.cs)) ∧ (∀ wx, Mod (fun _ => False) w wx → Calls Tryz.prog 15 #[.pointer (some ⟨g, 0, none⟩)] wx fun e w' => e = .returned (.int .i64 B.L.length) ∧ wx = w') ∧
  ∀ wx (vr : Int), Mod (fun _ => False) w wx → Calls Tryz.prog 16 #[.pointer (some ⟨g, 0, none⟩), .int .i64 vr] wx fun e w' => ∃ v, e = .returned v ∧ RuSl w' v (atR l (clampV vr B.L.length)) ∧ (∀ b, v.ownBlock = some b → wx.heap.size ≤ b) ∧ Mod (fun _ => False) wx w' := by
 obtain ⟨l, la, lc, h1, h2, h3, h4, h5, h6⟩ := h.logs
 refine ⟨l, h1, h6, fun wx hx => ?_, fun wx vr hx => ?_⟩
 ·have := plen_at wx g la l.length lc (hx.cell h4 (fun h => h))
  rw [h2] at this
  exact this
 ·have hr := h5.mod hx
  have := pat_at wx g la lc l (hx.cell h4 (fun h => h)) hr (by omega) vr
  rw [h2] at this
  exact this.mono fun e w' ⟨v, he, ho, hb, hm⟩ => ⟨v, he, ⟨ho.rd, fun r hr' => (hr.ok r (atR_mem hr')).mod hm⟩, hb, hm⟩
theorem atR_len (l : List Ru) (n : Nat) : (atR l n).length ≤ l.length := by
 unfold atR
 refine Nat.le_trans (List.length_filterMap_le _ _) ?_
 rw [List.length_zipIdx, List.length_take]
 omega
def thereO (id : Int) : Option Int → Bool
 | some x => decide (x = id)
 | none => false
def BS.there (B : BS) (id : Int) (tenant : Int) (who : ByteArray) : Bool := thereO id (homeP (atP B.L B.L.length) tenant who)
theorem clamp_self (n : Nat) : clampV (n : Int) n = n := by unfold clampV; omega
set_option maxHeartbeats 4000000 in
theorem there_at (w : World) (ow : Ow) (c g : Nat) (id : Int) (near : List Int) (B : BS) (h : Bro w ow c g id near B) (hL : B.L.length ≤ 40) (tenant : Int) (who : ByteArray) :
 Calls Tryz.prog 54 #[.pointer (some ⟨g, 0, none⟩), .int .i64 tenant, .string who] w fun e w' => e = .returned (.bool (B.there id tenant who)) ∧ Mod (fun _ => False) w w' := by
 obtain ⟨a, h⟩ := h
 obtain ⟨l, hlB, -, hle, hat⟩ := h.at_ hL
 obtain ⟨L, hlog, -⟩ := h.log
 have c1 : w.cell? ⟨g, 1, none⟩ = some (.int .i64 id) := cell_of hlog.row rfl
 obtain ⟨R, hR⟩ : ∃ R, B.there id tenant who = R := ⟨_, rfl⟩
 rw [hR]
 have hS : (fun y : World => Mod (fun _ => False) w y) w.drew := (Mod.refl _ w).drew
 have hlen40 : (B.L.length : Int) ≤ 40 := by omega
 have H := Lib.hid h
 have Hle := Lib.hid hle
 have Hat := Lib.hid hat
 have HlB := Lib.hid hlB
 have HR := Lib.hid hR
 have Hlog := Lib.hid hlog
 clear h hle hat hlB hR hlog
 go_enter Tryz.func54, Tryz.ntmps54
 go_wp2_with fail
 refine wp_region_script [.rd 0, .rd 1, .rd 2, .rd 3, .rd 4, .rd 5, .rd 8, .rd 9, .go 6, .go 7, .go 10, .rd 11, .rd 12, .rd 13, .go 14, .go 15] [0, 1, 2, 3, 4, 5, 6, 7, 8, 9, 10, 11, 12, 13] (fun y : World => Mod (fun _ => False) w y) (by kernel_rfl) (by kernel_rfl) (fun _ _ d _ _ h => (by cases d <;> exact h)) ?_
 refine walk_rd rfl ?_ (fun _ => hS) ?_ (fun w0 h0 => ?_) (fun K hK => ?_)
 ·(try simp only [List.getElem_toArray]); (try simp only [List.getElem_cons_succ]); (try simp only [List.getElem_cons_zero])
  go_simp; done
 rotate_left
 ·(try simp only [List.getElem_toArray]); (try simp only [List.getElem_cons_succ]); (try simp only [List.getElem_cons_zero])
  first
   | (obtain h1 := h0 rfl; clear h0; go_simp; with_reducible rfl)
   | (clear h0; go_simp; with_reducible rfl)
 (try simp only [List.getElem_toArray]); (try simp only [List.getElem_cons_succ]); (try simp only [List.getElem_cons_zero])
 go_simp; refine hK _ ?_; clear hK K
 refine walk_rd rfl ?_ (fun _ => hS) ?_ (fun w0 h0 => ?_) (fun K hK => ?_)
 ·(try simp only [List.getElem_toArray]); (try simp only [List.getElem_cons_succ]); (try simp only [List.getElem_cons_zero])
  go_simp; done
 rotate_left
 ·(try simp only [List.getElem_toArray]); (try simp only [List.getElem_cons_succ]); (try simp only [List.getElem_cons_zero])
  first
   | (obtain h1 := h0 rfl; clear h0; go_simp; with_reducible rfl)
   | (clear h0; go_simp; with_reducible rfl)
 (try simp only [List.getElem_toArray]); (try simp only [List.getElem_cons_succ]); (try simp only [List.getElem_cons_zero])
 go_simp; refine hK _ ?_; clear hK K
 refine walk_rd rfl ?_ (fun _ => hS) ?_ (fun w0 h0 => ?_) (fun K hK => ?_)
 ·(try simp only [List.getElem_toArray]); (try simp only [List.getElem_cons_succ]); (try simp only [List.getElem_cons_zero])
  go_simp; done
 rotate_left
 ·(try simp only [List.getElem_toArray]); (try simp only [List.getElem_cons_succ]); (try simp only [List.getElem_cons_zero])
  first
   | (obtain h1 := h0 rfl; clear h0; go_simp; with_reducible rfl)
   | (clear h0; go_simp; with_reducible rfl)
 (try simp only [List.getElem_toArray]); (try simp only [List.getElem_cons_succ]); (try simp only [List.getElem_cons_zero])
 go_simp; refine hK _ ?_; clear hK K
 refine walk_rd rfl ?_ (fun _ => hS) ?_ (fun w0 h0 => ?_) (fun K hK => ?_)
 ·(try simp only [List.getElem_toArray]); (try simp only [List.getElem_cons_succ]); (try simp only [List.getElem_cons_zero])
  go_simp; done
 rotate_left
 ·(try simp only [List.getElem_toArray]); (try simp only [List.getElem_cons_succ]); (try simp only [List.getElem_cons_zero])
  first
   | (obtain h1 := h0 rfl; clear h0; go_simp; with_reducible rfl)
   | (clear h0; go_simp; with_reducible rfl)
 (try simp only [List.getElem_toArray]); (try simp only [List.getElem_cons_succ]); (try simp only [List.getElem_cons_zero])
 go_simp; refine hK _ ?_; clear hK K
 refine walk_rd rfl ?_ (fun _ => hS) ?_ (fun w0 h0 => ?_) (fun K hK => ?_)
 ·(try simp only [List.getElem_toArray]); (try simp only [List.getElem_cons_succ]); (try simp only [List.getElem_cons_zero])
  go_simp; done
 rotate_left
 ·(try simp only [List.getElem_toArray]); (try simp only [List.getElem_cons_succ]); (try simp only [List.getElem_cons_zero])
  first
   | (obtain h1 := h0 rfl; clear h0; go_simp; with_reducible rfl)
   | (clear h0; go_simp; with_reducible rfl)
 (try simp only [List.getElem_toArray]); (try simp only [List.getElem_cons_succ]); (try simp only [List.getElem_cons_zero])
 go_simp; refine hK _ ?_; clear hK K
 refine walk_rd rfl ?_ (fun _ => hS) ?_ (fun w0 h0 => ?_) (fun K hK => ?_)
 ·(try simp only [List.getElem_toArray]); (try simp only [List.getElem_cons_succ]); (try simp only [List.getElem_cons_zero])
  go_simp; done
 rotate_left
 ·(try simp only [List.getElem_toArray]); (try simp only [List.getElem_cons_succ]); (try simp only [List.getElem_cons_zero])
  first
   | (obtain h1 := h0 rfl; clear h0; go_simp; with_reducible rfl)
   | (clear h0; go_simp; with_reducible rfl)
 (try simp only [List.getElem_toArray]); (try simp only [List.getElem_cons_succ]); (try simp only [List.getElem_cons_zero])
 go_simp; refine hK _ ?_; clear hK K
 refine walk_rd rfl ?_ (fun _ => hS) ?_ (fun w0 h0 => ?_) (fun K hK => ?_)
 ·(try simp only [List.getElem_toArray]); (try simp only [List.getElem_cons_succ]); (try simp only [List.getElem_cons_zero])
  go_simp; done
 rotate_left
 ·(try simp only [List.getElem_toArray]); (try simp only [List.getElem_cons_succ]); (try simp only [List.getElem_cons_zero])
  first
   | (obtain h1 := h0 rfl; clear h0; go_simp; with_reducible rfl)
   | (clear h0; go_simp; with_reducible rfl)
 (try simp only [List.getElem_toArray]); (try simp only [List.getElem_cons_succ]); (try simp only [List.getElem_cons_zero])
 go_simp; refine hK _ ?_; clear hK K
 refine walk_rd rfl ?_ (fun _ => hS) ?_ (fun w0 h0 => ?_) (fun K hK => ?_)
 ·(try simp only [List.getElem_toArray]); (try simp only [List.getElem_cons_succ]); (try simp only [List.getElem_cons_zero])
  go_simp; done
 rotate_left
 ·(try simp only [List.getElem_toArray]); (try simp only [List.getElem_cons_succ]); (try simp only [List.getElem_cons_zero])
  first
   | (obtain h1 := h0 rfl; clear h0; go_simp; with_reducible rfl)
   | (clear h0; go_simp; with_reducible rfl)
 (try simp only [List.getElem_toArray]); (try simp only [List.getElem_cons_succ]); (try simp only [List.getElem_cons_zero])
 go_simp; refine hK _ ?_; clear hK K
 refine walk_one (go_yes rfl ?_ (fun K hK => ?_))
 ·(try simp only [List.getElem_toArray]); (try simp only [List.getElem_cons_succ]); (try simp only [List.getElem_cons_zero])
  go_simp; done
 go_wp2_with fail
 refine (Hle.out w.drew hS).mono ?_
 rintro e w1 ⟨rfl, rfl⟩
 refine hK _ _ (fun _ h => h) ?_
 clear hK K
 refine walk_one (go_yes rfl ?_ (fun K hK => ?_))
 ·(try simp only [List.getElem_toArray]); (try simp only [List.getElem_cons_succ]); (try simp only [List.getElem_cons_zero])
  go_simp; done
 go_wp2_with fail
 refine (Hat.out w.drew _ hS).mono ?_
 rintro e w2 ⟨v2, rfl, hru, -, hm2⟩
 rw [clamp_self] at hru
 have hS2 : Mod (fun _ => False) w w2 := hS.trans hm2 (fun _ _ h => h)
 refine hK _ _ (fun _ h => h.trans hm2 (fun _ _ h => h)) ?_
 clear hK K hS
 have hl40 : l.length ≤ 40 := by rw [← congrArg List.length HlB.out, List.length_map] at hL; exact hL
 have hho := home_at w2 v2 (atR l B.L.length) hru (by have := atR_len l B.L.length; omega) tenant who
 have hhe : homeOf (atR l B.L.length) tenant who = homeP (atP B.L B.L.length) tenant who := by rw [← homeP_ru, atR_pru, HlB.out]
 rw [hhe] at hho
 obtain ⟨O, hO⟩ : ∃ O, homeP (atP B.L B.L.length) tenant who = O := ⟨_, rfl⟩
 rw [hO] at hho
 have hRO : R = thereO id O := by rw [← HR.out]; unfold BS.there; rw [hO]
 have Hho := Lib.hid hho
 have HRO := Lib.hid hRO
 have Hru := Lib.hid hru
 have Hhe := Lib.hid hhe
 have HO := Lib.hid hO
 have HS2 := Lib.hid hS2
 clear hho hRO hru hhe hO hS2 hm2
 refine walk_one (go_yes rfl ?_ (fun K hK => ?_))
 ·(try simp only [List.getElem_toArray]); (try simp only [List.getElem_cons_succ]); (try simp only [List.getElem_cons_zero])
  go_simp; done
 go_wp2_with fail
 refine Hho.out.mono ?_
 rintro e w3 ⟨rfl, hm3⟩
 have hS : Mod (fun _ => False) w w3 := HS2.out.trans hm3 (fun _ _ h => h)
 refine hK _ _ (fun _ h => h.trans hm3 (fun _ _ h => h)) ?_
 clear hK K
 have c3 : w3.cell? ⟨g, 1, none⟩ = some (.int .i64 id) := hS.cell c1 (fun h => h)
 clear hm3
 refine walk_rd rfl ?_ (fun _ => hS) ?_ (fun w0 h0 => ?_) (fun K hK => ?_)
 ·(try simp only [List.getElem_toArray]); (try simp only [List.getElem_cons_succ]); (try simp only [List.getElem_cons_zero])
  go_simp; done
 rotate_left
 ·(try simp only [List.getElem_toArray]); (try simp only [List.getElem_cons_succ]); (try simp only [List.getElem_cons_zero])
  first
   | (obtain h1 := h0 rfl; clear h0; go_simp; with_reducible rfl)
   | (clear h0; go_simp; with_reducible rfl)
 (try simp only [List.getElem_toArray]); (try simp only [List.getElem_cons_succ]); (try simp only [List.getElem_cons_zero])
 go_simp; refine hK _ ?_; clear hK K
 refine walk_rd rfl ?_ (fun _ => hS) ?_ (fun w0 h0 => ?_) (fun K hK => ?_)
 ·(try simp only [List.getElem_toArray]); (try simp only [List.getElem_cons_succ]); (try simp only [List.getElem_cons_zero])
  go_simp; done
 rotate_left
 ·(try simp only [List.getElem_toArray]); (try simp only [List.getElem_cons_succ]); (try simp only [List.getElem_cons_zero])
  first
   | (obtain h1 := h0 rfl; clear h0; go_simp; with_reducible rfl)
   | (clear h0; go_simp; with_reducible rfl)
 (try simp only [List.getElem_toArray]); (try simp only [List.getElem_cons_succ]); (try simp only [List.getElem_cons_zero])
 go_simp; refine hK _ ?_; clear hK K
 refine walk_rd rfl ?_ (fun _ => hS) ?_ (fun w0 h0 => ?_) (fun K hK => ?_)
 ·(try simp only [List.getElem_toArray]); (try simp only [List.getElem_cons_succ]); (try simp only [List.getElem_cons_zero])
  go_simp; done
 rotate_left
 ·(try simp only [List.getElem_toArray]); (try simp only [List.getElem_cons_succ]); (try simp only [List.getElem_cons_zero])
  first
   | (obtain h1 := h0 rfl; clear h0; go_simp; with_reducible rfl)
   | (clear h0; go_simp; with_reducible rfl)
 (try simp only [List.getElem_toArray]); (try simp only [List.getElem_cons_succ]); (try simp only [List.getElem_cons_zero])
 go_simp; refine hK _ ?_; clear hK K
 refine walk_one (go_yes rfl ?_ (fun K hK => ?_))
 ·(try simp only [List.getElem_toArray]); (try simp only [List.getElem_cons_succ]); (try simp only [List.getElem_cons_zero])
  go_simp; done
 (try simp only [List.getElem_toArray]); (try simp only [List.getElem_cons_succ]); (try simp only [List.getElem_cons_zero])
 go_simp
 refine hK _ _ (fun h => absurd h (by decide)) ?_
 clear hK K
 refine walk_one (go_yes rfl ?_ (fun K hK => ?_))
 ·(try simp only [List.getElem_toArray]); (try simp only [List.getElem_cons_succ]); (try simp only [List.getElem_cons_zero])
  go_simp; done
 (try simp only [List.getElem_toArray]); (try simp only [List.getElem_cons_succ]); (try simp only [List.getElem_cons_zero])
 go_simp
 refine hK _ _ (fun h => absurd h (by decide)) ?_
 clear hK K
 refine walk_nil ?_
 have HS := Lib.hid hS
 clear hS
 cases O with
 | none =>
  go_wp2
  go_ret
  exact ⟨by rw [HRO.out]; rfl, HS.out⟩
 | some y =>
  go_wp2
  go_ret
  exact ⟨by rw [HRO.out]; rfl, HS.out⟩
end Go.Proofs.YtaenebdppkjhoaaGreatDoor
namespace Go.Proofs.YtaenebdppkjhoaaGreatDoor
set_option maxRecDepth 20000
open Go.RowKit
structure Fr where
 sc : ByteArray
 a : Option Addr
 c : Nat
 cs : List Cnd
def Fr.cells (f : Fr) : List Value := [.string f.sc, .slice f.a f.cs.length f.c]
def Fr.fil (f : Fr) : Fil := (f.sc, f.cs)
structure FrsAt (w : World) (v : Value) (l : List Fr) : Prop where
 rd : RdSl w 2 v l.length (l.flatMap Fr.cells)
 cs : ∀ f ∈ l, RdSl w 7 (.slice f.a f.cs.length f.c) f.cs.length (cnds f.cs)
 sc : ∀ f ∈ l, f.sc.size ≤ 9223372036854775807 ∧ f.cs.length ≤ 9223372036854775807
 nm : ∀ f ∈ l, ∀ c ∈ f.cs, c.name.size ≤ 9223372036854775807 ∧ (-9223372036854775808 ≤ c.v.int ∧ c.v.int ≤ 9223372036854775807) ∧ c.v.num < 2 ^ 64
theorem FrsAt.mod {w w' : World} {v : Value} {l : List Fr} (h : FrsAt w v l) (hm : Mod (fun _ => False) w w') : FrsAt w' v l := ⟨h.rd.mod hm (fun _ _ h => h), fun f hf => (h.cs f hf).mod hm (fun _ _ h => h), h.sc, h.nm⟩
end Go.Proofs.YtaenebdppkjhoaaGreatDoor
namespace Go.Proofs.YtaenebdppkjhoaaGreatDoor
set_option maxRecDepth 20000
open Go.RowKit Go.Sort
theorem skeys_at (mb : Option Nat) (w : World) : Calls Tryz.prog 97 #[.map mb] w fun e w' => e = .returned (.func (.func 130) #[] #[.pointer (some ⟨w.heap.size, 0, none⟩)]) ∧ w' = w.alloc (.cells #[.map mb] 174) :=
 Tryz.maps_Keys_97 mb w
theorem ssorted_at {w : World} {b n : Nat} {f : Lit → Option Value} (h : MapR w 9 b n f) (hn : n ≤ 1000000) {L : List (List UInt8)} (hnd : L.Nodup) (hm : ∀ x, x ∈ L ↔ (f (.string x)).isSome = true) :
 Calls Tryz.prog 96 #[.func (.func 130) #[] #[.pointer (some ⟨w.heap.size, 0, none⟩)]] (w.alloc (.cells #[.map (some b)] 174)) (SortedPost (w.alloc (.cells #[.map (some b)] 174)) 9 ((riseS L).map encStr)) := by
 obtain ⟨D, h1, h2, h3⟩ := h.keysS keyed_s Tryz.underlying9 hnd hm
 refine (Tryz.slices_Sorted_97 b n D rawR w h1 (by rw [h3]; unfold maxLen; omega) (by rw [h3]; omega)).mono ?_
 rintro e w' ⟨v, ss, rfl, hp, hrow, -, hb⟩
 obtain ⟨r1, r2⟩ := own_row' hrow
 have hs : ss.mergeSort (fun x y => decide (x ≤ y)) = riseS L := mergeSort_of_perm (hp.trans h2.symm)
 have hl : ss.length = (riseS L).length := by rw [← hs, List.length_mergeSort]
 rw [hs, hl] at r1
 exact ⟨v, rfl, by rw [List.length_map]; exact r1, r2, ⟨hb.os, hb.tape, hb.output, hb.size, fun k hk _ => hb.block k hk⟩⟩
theorem ssorted_nil (w : World) :
 Calls Tryz.prog 96 #[.func (.func 130) #[] #[.pointer (some ⟨w.heap.size, 0, none⟩)]] (w.alloc (.cells #[.map none] 174)) (SortedPost (w.alloc (.cells #[.map none] 174)) 9 []) := by
 refine (Tryz.slices_Sorted_nil_97 w).mono ?_
 rintro e w' ⟨rfl, hb⟩
 exact ⟨_, rfl, OwnSl.nil _ _ _, fun k hk => by simp [Value.ownBlock] at hk, ⟨hb.os, hb.tape, hb.output, hb.size, fun k hk _ => hb.block k hk⟩⟩
theorem rd_one {α : Type} {enc : α → Value} {w : World} {a : Option Addr} {n cap : Nat} {l : List α} {j : Nat} {x : α} (h : RdSl w 1 (.slice a n cap) n (l.map enc)) (hx : l[j]? = some x) : ∃ g off, a = some ⟨g, off, none⟩ ∧ w.cell? ⟨g, off + j, none⟩ = some (enc x) := by
 obtain ⟨h0, a', c', h1, -, h3, h4⟩ := h
 cases h1
 have hj := (List.getElem?_eq_some_iff.1 hx).1
 have hn : n = l.length := by rw [List.length_map] at h0; omega
 cases a with
 | none => exact absurd (h3 rfl) (by omega)
 | some ad =>
  obtain ⟨g, off, rfl, hc⟩ := h4 ad rfl (by omega)
  refine ⟨g, off, rfl, hc j (enc x) ?_⟩
  rw [List.getElem?_map, hx]
  rfl
def FrC (w : World) (C : Nat → Prop) (f : Fr) : Prop := OwnSl w 132 7 (.slice f.a f.cs.length f.c) f.cs.length (cnds f.cs) ∧ ∀ k, (Value.slice f.a f.cs.length f.c).ownBlock = some k → k < w.heap.size ∧ C k
theorem FrC.mod {w w' : World} {F C : Nat → Prop} {f : Fr} (h : FrC w C f) (hm : Mod F w w') (hF : ∀ k, k < w.heap.size → F k → ¬ C k) : FrC w' C f := ⟨h.1.mod hm (fun k hk hf => hF k (h.2 k hk).1 hf (h.2 k hk).2), fun k hk => ⟨Nat.lt_of_lt_of_le (h.2 k hk).1 hm.size, (h.2 k hk).2⟩⟩
theorem fil_fr {w : World} {own C : Nat → Prop} {v : Option Value} {q : Option Fil} (h : FilIs w own C v q) (hq : q ≠ none) : ∃ f : Fr, v = some (.agg #[.string f.sc, .slice f.a f.cs.length f.c]) ∧ q = some f.fil ∧ FrC w C f := by
 cases v <;> cases q
 ·exact absurd rfl hq
 ·exact h.elim
 ·exact h.elim
 ·rename_i v q
  obtain ⟨a, cap, rfl, h2, h3⟩ := h
  exact ⟨⟨q.1, a, cap, q.2⟩, rfl, rfl, h2, fun k hk => ⟨(h3 k hk).1, (h3 k hk).2.2⟩⟩
theorem filsT : SliceT Tryz.prog 89 33 2 40 := sliceT (by kernel_rfl) (by kernel_rfl)
def keysL (M : List (Int × Fil)) (id : Int) : List (List UInt8) := (M.filter fun p => p.1 == id).map fun p => keyF p.2
theorem keysL_mem {M : List (Int × Fil)} {id : Int} {k : List UInt8} : k ∈ keysL M id ↔ (tabF M id k).isSome = true := by
 unfold keysL
 constructor
 ·intro h
  obtain ⟨p, h0, rfl⟩ := List.mem_map.1 h
  obtain ⟨h1, h2⟩ := List.mem_filter.1 h0
  cases hf : tabF M id (keyF p.2) with
  | some q => rfl
  | none =>
   obtain ⟨x, q⟩ := p
   have e : x = id := by simpa using h2
   subst e
   exact absurd rfl (tabF_none hf q h1)
 ·intro h
  cases hf : tabF M id k with
  | none => rw [hf] at h; cases h
  | some q =>
   obtain ⟨h1, h2⟩ := tabF_some hf
   exact List.mem_map.2 ⟨(id, q), List.mem_filter.2 ⟨h1, by simp⟩, h2⟩
theorem keysL_nodup {M : List (Int × Fil)} (h : M.Pairwise fun p q => ¬ (p.1 = q.1 ∧ keyF p.2 = keyF q.2)) (id : Int) : (keysL M id).Nodup := by
 unfold keysL
 refine List.pairwise_map.2 ((h.filter _).imp_of_mem fun {a b} ha hb h e => h ⟨?_, e⟩)
 have h1 := (List.mem_filter.1 ha).2
 have h2 := (List.mem_filter.1 hb).2
 simp only [beq_iff_eq] at h1 h2
 rw [h1, h2]
theorem keysL_len (M : List (Int × Fil)) (id : Int) : (keysL M id).length ≤ M.length := by
 unfold keysL
 rw [List.length_map]
 exact List.length_filter_le _ _
def allQ (M : List (Int × Fil)) (id : Int) : List Fil := (riseS (keysL M id)).filterMap (tabF M id)
def TAllPost (w : World) (C : Nat → Prop) (L : List Fil) (e : Ending) (w' : World) : Prop :=
 ∃ v, ∃ l : List Fr, e = .returned v ∧ OwnSl w' 33 2 v l.length (l.flatMap Fr.cells) ∧ (∀ k, v.ownBlock = some k → w.heap.size ≤ k) ∧ l.map Fr.fil = L ∧ (∀ f ∈ l, FrC w' C f) ∧ Mod (fun _ => False) w w'
def AllRel (w1 : World) (C : Nat → Prop) (K : List (List UInt8)) (g : List UInt8 → Option Fil) (ov iv : Value) (wr : World) : Prop :=
 ∃ (j : Nat) (l : List Fr) (oa : Option Addr) (oc : Nat), iv = .int .i64 j ∧ j ≤ K.length ∧ l.length ≤ j ∧ ov = .slice oa l.length oc ∧ l.map Fr.fil = (K.take j).filterMap g ∧ OwnSl wr 33 2 ov l.length (l.flatMap Fr.cells) ∧ (∀ k, ov.ownBlock = some k → w1.heap.size ≤ k) ∧ (∀ f ∈ l, FrC wr C f) ∧ Mod (fun _ => False) w1 wr
set_option maxHeartbeats 8000000 in
theorem tall_at (w : World) (b : Nat) (own C : Nat → Prop) (M : List (Int × Fil)) (N : Nat) (h : Tab w b own C M N) (hN : N ≤ 100000) (id : Int) (hid : (Lit.int .i64 id).wf = true) :
 Calls Tryz.prog 64 #[.pointer (some ⟨b, 0, none⟩), .int .i64 id] w (TAllPost w C (allQ M id)) := by
 obtain ⟨mo, h⟩ := h
 have b0 : w.cell? ⟨b, 0, none⟩ = some (.map (some mo)) := cell_of h.row rfl
 obtain ⟨n, f, hf1, hf2, hf3, hf4⟩ := h.om
 have hkx := Maps.keyOf_int_mk Tryz.underlying3 hid
 have hlk := hf1.look keyed_i Tryz.underlying57 (zero_mm w) hkx
 have hval := (hf3 id).val
 obtain ⟨vv, hvv⟩ : ∃ vv, (f (.int .i64 id)).getD (.map none) = vv := ⟨_, rfl⟩
 rw [hvv] at hlk hval
 obtain ⟨mb, rfl, hsort⟩ : ∃ mb, vv = .map mb ∧ Calls Tryz.prog 96 #[.func (.func 130) #[] #[.pointer (some ⟨w.heap.size, 0, none⟩)]] (w.alloc (.cells #[.map mb] 174)) (SortedPost (w.alloc (.cells #[.map mb] 174)) 9 ((riseS (keysL M id)).map encStr)) := by
  rcases hval with ⟨-, rfl, hg⟩ | ⟨mi, -, rfl, -, -, -, hKA⟩
  ·have e : keysL M id = [] := List.eq_nil_iff_forall_not_mem.2 fun k hk => by rw [keysL_mem, hg k] at hk; cases hk
   refine ⟨none, rfl, ?_⟩
   rw [e, show riseS [] = [] from List.mergeSort_nil]
   exact ssorted_nil w
  ·obtain ⟨ni, fi, hi1, hi2, hi3⟩ := hKA
   refine ⟨some mi, rfl, ssorted_at hi1 (by omega) (keysL_nodup h.nd id) (fun k => ?_)⟩
   rw [keysL_mem]
   have h3 := hi3 k
   cases hk1 : fi (.string k) <;> cases hk2 : tabF M id k <;> rw [hk1, hk2] at h3
   ·exact Iff.rfl
   ·exact h3.elim
   ·exact h3.elim
   ·exact Iff.rfl
 have hkeys := skeys_at mb w
 obtain ⟨w1, hw1⟩ : ∃ w1 : World, w.alloc (.cells #[.map mb] 174) = w1 := ⟨_, rfl⟩
 have hm1 : Mod (fun _ => False) w w1 := hw1 ▸ (Mod.refl (fun _ => False) w).alloc _
 rw [hw1] at hsort hkeys
 obtain ⟨K, hK⟩ : ∃ K, riseS (keysL M id) = K := ⟨_, rfl⟩
 have hKl : K.length ≤ 100000 := by
  rw [← hK]
  unfold riseS
  rw [List.length_mergeSort]
  exact Nat.le_trans (keysL_len M id) (Nat.le_trans h.low hN)
 have hKs : ∀ k ∈ K, (tabF M id k).isSome = true := fun k hk => by rw [← hK, riseS_mem] at hk; exact keysL_mem.1 hk
 rw [hK] at hsort
 unfold allQ
 rw [hK]
 have H := Lib.hid h
 have Hf1 := Lib.hid hf1
 have Hf2 := Lib.hid hf2
 have Hf3 := Lib.hid hf3
 have Hf4 := Lib.hid hf4
 have Hkx := Lib.hid hkx
 have Hvv := Lib.hid hvv
 have Hval := Lib.hid hval
 have Hsort := Lib.hid hsort
 have Hkeys := Lib.hid hkeys
 have Hw1 := Lib.hid hw1
 have Hm1 := Lib.hid hm1
 have HK := Lib.hid hK
 have HKs := Lib.hid hKs
 clear h hf1 hf2 hf3 hf4 hkx hvv hval hsort hkeys hw1 hm1 hK hKs
 go_enter Tryz.func64, Tryz.ntmps64
 go_wp2_with fail
 refine Hkeys.out.mono ?_
 rintro e wx ⟨rfl, hwx⟩
 obtain rfl := hwx.symm
 go_wp2_with fail
 refine Hsort.out.mono ?_
 rintro e w2 ⟨sv, rfl, hso, hsb, hm2⟩
 obtain ⟨sa, sc, rfl, -⟩ := hso.shape
 rw [List.length_map] at hso ⊢
 have hm02 := Hm1.out.trans hm2 (fun _ _ h => h)
 have hrel0 : AllRel w2 C K (tabF M id) (.slice none 0 0) (.int .i64 ((0 : Nat) : Int)) w2 := ⟨0, [], none, 0, rfl, Nat.zero_le _, Nat.le_refl _, rfl, rfl, OwnSl.nil _ _ _, fun k hk => by simp [Value.ownBlock] at hk, fun f hf => (by cases hf), Mod.refl _ _⟩
 have Hso := Lib.hid hso
 have Hsb := Lib.hid hsb
 have Hm2 := Lib.hid hm2
 have Hm02 := Lib.hid hm02
 have Hrel0 := Lib.hid hrel0
 clear hso hsb hm2 hm02 hrel0
 go_wp2_with fail
 go_loopw [5, 17] (fun ov i wr => AllRel w2 C K (tabF M id) ov i wr) (fun _ i _ => K.length - (intOf i).toNat)
 case atStart => exact Hrel0.out
 case round =>
  revert wr
  intro wr hrel
  obtain ⟨j, l, oa, oc, rfl, hj, hlj, rfl, hlq, hown, hob, hfc, hmr⟩ := hrel
  have hm0r := Hm02.out.trans hmr (fun _ _ h => h)
  by_cases hlt : j < K.length
  ·have hlt' : (j : Int) < K.length := by omega
   obtain ⟨k, hkj⟩ : ∃ k, K[j]? = some k := ⟨_, List.getElem?_eq_getElem hlt⟩
   have hks := HKs.out k (List.mem_of_getElem? hkj)
   have hkw : k.length ≤ maxLen := by
    cases hq : tabF M id k with
    | none => rw [hq] at hks; cases hks
    | some q =>
     obtain ⟨h1, h2⟩ := tabF_some hq
     have h3 := H.out.wf _ h1
     have h4 := filPrt_len q.1 q.2 h3.2.2
     have h5 := H.out.sc _ h1
     rw [show filPrt q.1 q.2 = k from h2] at h4
     have h6 := h3.2.1
     simp only [] at h6 h5
     unfold maxLen
     omega
   obtain ⟨g, off, rfl, ck⟩ := rd_one (Hso.out.rd.mod hmr (fun _ _ h => h)) hkj
   have ck' : wr.cell? ⟨g, off + j, none⟩ = some (.string (str k)) := ck
   have ht := H.out.mod hm0r (fun _ _ h => h.elim)
   have br : wr.cell? ⟨b, 0, none⟩ = some (.map (some mo)) := cell_of ht.row rfl
   have hv := (Hf3.out id).mod hm0r (fun _ _ h => h) (fun _ _ h => h.elim)
   have hlr := (Hf1.out.mod hm0r (fun h => h)).look keyed_i Tryz.underlying57 (zero_mm wr) Hkx.out
   rw [Hvv.out] at hlr
   have hvl := hv.val
   rw [Hvv.out] at hvl
   rcases hvl with ⟨-, -, hg⟩ | ⟨mi, -, hmb, -, -, -, ni, fi, hi1, hi2, hi3⟩
   ·rw [hg k] at hks; cases hks
   cases hmb
   obtain ⟨fr, hfv, hfq, hfr⟩ := fil_fr (hi3 k) (fun h => by rw [h] at hks; cases hks)
   have hli := hi1.look keyed_s Tryz.underlying174 (zero_fil wr) (key_s k hkw)
   rw [hfv] at hli
   have hli' : (Instr.lookup 174 (.map (some mi)) (.string (str k)) false).run Tryz.prog wr = .ok (.agg #[.string fr.sc, .slice fr.a fr.cs.length fr.c]) wr := hli
   have hnx : (l ++ [fr]).map Fr.fil = (K.take (j + 1)).filterMap (tabF M id) := by
    rw [List.take_add_one, hkj, List.filterMap_append, ← hlq, List.map_append, Option.toList_some]
    congr 1
    rw [List.filterMap_cons, hfq]
    rfl
   obtain ⟨wz, hwz⟩ : ∃ wz : World, wr.alloc (.cells #[.string fr.sc, .slice fr.a fr.cs.length fr.c] 33) = wz := ⟨_, rfl⟩
   have hmwz : Mod (fun _ => False) wr wz := hwz ▸ (Mod.refl (fun _ => False) wr).alloc _
   have hgwz := heap_alloc_new wr (.cells #[.string fr.sc, .slice fr.a fr.cs.length fr.c] 33)
   rw [hwz] at hgwz
   have hzwz : wz.heap.size = wr.heap.size + 1 := by rw [← hwz]; simp
   have hrz : RdSl wz 2 (.slice (some ⟨wr.heap.size, 0, none⟩) 1 1) 1 [.string fr.sc, .slice fr.a fr.cs.length fr.c] := hwz ▸ RdSl.one wr [.string fr.sc, .slice fr.a fr.cs.length fr.c] 33 rfl
   have hone : ∀ u ∈ ([.string fr.sc, .slice fr.a fr.cs.length fr.c] : List Value), u.oneCell' = true := fun u hu => List.all_eq_true.1 (show ([.string fr.sc, .slice fr.a fr.cs.length fr.c] : List Value).all (·.oneCell') = true from rfl) u hu
   have hoz := hown.mod hmwz (fun _ _ h => h)
   have hm2z := hmr.trans hmwz (fun _ _ h => h)
   have hfcz : ∀ f ∈ l ++ [fr], FrC wz C f := fun f hf => by
    rcases List.mem_append.1 hf with hf | hf
    ·exact (hfc f hf).mod hmwz (fun _ _ h => h.elim)
    ·obtain rfl : f = fr := by simpa using hf
     exact hfr.mod hmwz (fun _ _ h => h.elim)
   have Hkj := Lib.hid hkj
   have Hks := Lib.hid hks
   have Ck := Lib.hid ck
   have Ht := Lib.hid ht
   have Hv := Lib.hid hv
   have Hi1 := Lib.hid hi1
   have Hi2 := Lib.hid hi2
   have Hi3 := Lib.hid hi3
   have Hfv := Lib.hid hfv
   have Hfq := Lib.hid hfq
   have Hfr := Lib.hid hfr
   have Hli := Lib.hid hli
   have Hnx := Lib.hid hnx
   have Hwz := Lib.hid hwz
   have Hmwz := Lib.hid hmwz
   have Hgwz := Lib.hid hgwz
   have Hrz := Lib.hid hrz
   have Hone := Lib.hid hone
   have Hoz := Lib.hid hoz
   have Hm2z := Lib.hid hm2z
   have Hfcz := Lib.hid hfcz
   have Hown := Lib.hid hown
   have Hob := Lib.hid hob
   have Hfc := Lib.hid hfc
   have Hmr := Lib.hid hmr
   have Hm0r := Lib.hid hm0r
   have Hlq := Lib.hid hlq
   have Hkw := Lib.hid hkw
   clear hkj hks ck ht hv hi1 hi2 hi3 hfv hfq hfr hli hnx hwz hmwz hgwz hrz hone hoz hm2z hfcz hown hob hfc hmr hm0r hlq hkw hzwz
   go_wp2_with (first | ((with_reducible refine wpList_build_one_lit 89 (.tmp 29) ?_); refine ⟨33, 2, Tryz.underlying89, by kernel_rfl, by kernel_rfl, by decide, by decide, [.string fr.sc, .slice fr.a fr.cs.length fr.c], rfl, rfl, ?_⟩; rw [Hwz.out]) | ((with_reducible refine wpList_append_lit (.tmp 21) (.tmp 30) 89 ?_); refine ⟨rfl, 33, 2, 40, filsT, .slice oa l.length oc, l.length, l.flatMap Fr.cells, rfl, Hoz.out, _, 1, [.string fr.sc, .slice fr.a fr.cs.length fr.c], rfl, Hrz.out, Hone.out, by omega, by unfold maxLen; omega, ?_⟩; intro ad cap5 w5 hA; have HA := Lib.hid hA; clear hA) | fail)
   go_roundw
   case rel =>
    refine ⟨j + 1, l ++ [fr], ad, cap5, by go_num, hlt, by rw [List.length_append, List.length_singleton]; omega, by rw [List.length_append]; rfl, Hnx.out, ?_, ?_, fun f hf => (Hfcz.out f hf).mod HA.out.2.1 (fun k hk h => ?_), Hm2z.out.upon HA.out.2.1 (fun k hk => .inr (Hob.out k hk))⟩
    ·rw [List.length_append, List.flatMap_append]; exact HA.out.1
    ·intro k hk
     rcases HA.out.2.2 with h3 | ⟨k', h3, h4⟩
     ·exact Hob.out k (h3 ▸ hk)
     ·rw [h3] at hk
      cases hk
      have := Hm2z.out.size
      omega
    ·intro hc
     have h1 := H.out.clow _ hc
     have h2 := Hob.out k h
     have h3 := Hm02.out.size
     omega
   case measure => simp [intOf]; omega
  ·obtain rfl : j = K.length := by omega
   rw [List.take_length] at hlq
   have Hlq := Lib.hid hlq
   have Hown := Lib.hid hown
   have Hob := Lib.hid hob
   have Hfc := Lib.hid hfc
   have Hmr := Lib.hid hmr
   have Hm0r := Lib.hid hm0r
   clear hlq hown hob hfc hmr hm0r
   go_wp2_with fail
   go_ret
   exact ⟨_, l, rfl, Hown.out, fun k hk => Nat.le_trans Hm02.out.size (Hob.out k hk), Hlq.out, Hfc.out, Hm0r.out⟩
end Go.Proofs.YtaenebdppkjhoaaGreatDoor
