/-
  The anchor of chapter 19.
  ScriptJoins.
-/
import Derived.Test.YtloplmaekonenaaGreatDoorZi36
import Derived.Test.YtloplmaekonenaaGreatDoorZi38
import Derived.Test.YtloplmaekonenaaGreatDoorZi24
import Derived.Test.YtloplmaekonenaaGreatDoorZi39
namespace Go.Proofs.YtloplmaekonenaaGreatDoor
set_option maxRecDepth 20000
open Go.RowKit
theorem dec_fit {l : List PO} {t : List UInt8} (h : Dec [4, 0, 0, 1] l t) (he : DecEnd t) : ∃ o, l = [o] ∧ o.kind = 4 ∧ o.ten = -1 ∧ o.to_ = 1 := by
  have h0 : readO [4, 0, 0, 1] = some ({ PO.mk0 4 (-1) with frm := 0, to_ := 1 }, true, []) := rfl
  cases h with
  | nil =>
    rcases he with he | ⟨o, t', he⟩
    · rw [h0] at he; cases he
    · rw [h0] at he; cases he
  | cons h k =>
    rw [h0] at h
    cases h
    cases k with
    | nil => exact ⟨_, rfl, rfl, rfl, rfl⟩
    | cons h k => cases h
theorem dec_fit2 {l : List (PO × Lie)} {t : List UInt8} (h : Dec [4, 0, 0, 1] (l.map Prod.fst) t) (he : DecEnd t) : ∃ o y, l = [(o, y)] ∧ o.kind = 4 ∧ o.ten = -1 ∧ o.to_ = 1 := by
  obtain ⟨o, hl, hk⟩ := dec_fit h he
  cases l with
  | nil => cases hl
  | cons a l =>
    cases l with
    | nil =>
      obtain ⟨a, y⟩ := a
      simp only [List.map_cons, List.map_nil, List.cons.injEq, and_true] at hl
      exact ⟨a, y, rfl, hl ▸ hk⟩
    | cons b l => simp at hl
theorem fil_right0 : filRight ⟨#[]⟩ [] = true := by decide +kernel
set_option maxHeartbeats 4000000 in
theorem rule0_at (w : World) : Calls Tryz.prog 66 #[.agg #[.int .i64 0, .int .i64 0, .string ⟨#[]⟩, .int .i64 0, .string ⟨#[]⟩, .slice none 0 0, .string ⟨#[]⟩, .int .i64 0]] w fun e w' =>
    ∃ v' n, e = .returned v' ∧ 0 < n ∧ n ≤ 1000 ∧ OwnSl w' 5 1 v' (ruBytes PRu.zero).length (u8s (ruBytes PRu.zero)) ∧ n = (ruBytes PRu.zero).length ∧ Mod (fun _ => False) w w' := by
  obtain ⟨wa, hwa⟩ : ∃ wa : World, w.alloc (.cells #[.int .i64 0, .int .i64 0, .string ⟨#[]⟩, .int .i64 0, .string ⟨#[]⟩, .slice none 0 0, .string ⟨#[]⟩, .int .i64 0] 117) = wa := ⟨_, rfl⟩
  have hmwa : Mod (fun _ => False) w wa := hwa ▸ (Mod.refl (fun _ => False) w).alloc _
  have hgwa := heap_alloc_new w (.cells #[.int .i64 0, .int .i64 0, .string ⟨#[]⟩, .int .i64 0, .string ⟨#[]⟩, .slice none 0 0, .string ⟨#[]⟩, .int .i64 0] 117)
  rw [hwa] at hgwa
  have hzwa : wa.heap.size = w.heap.size + 1 := by rw [← hwa]; simp
  obtain ⟨wb, hwb⟩ : ∃ wb : World, wa.alloc (.cells #[.slice none 0 0] 124) = wb := ⟨_, rfl⟩
  have hmwb : Mod (fun _ => False) wa wb := hwb ▸ (Mod.refl (fun _ => False) wa).alloc _
  have hgwb := heap_alloc_new wa (.cells #[.slice none 0 0] 124)
  rw [hwb] at hgwb
  have hzwb : wb.heap.size = wa.heap.size + 1 := by rw [← hwb]; simp
  rw [hzwa] at hgwb
  have hm0b := hmwa.trans hmwb (fun _ _ h => h)
  have hca := CellsAt.row (hmwb.heap hgwa (fun h => h))
  have hpr := put_rule wb (w.heap.size + 1) (.slice none 0 0) [] ⟨hgwb, OwnSl.nil _ _ _⟩ (by simp) PRu.zero PRu.zero_fit none 0 ⟨rfl, none, 0, rfl, Nat.le_refl _, fun _ => rfl, fun b hb => (by cases hb)⟩ (fun _ b hb => (by cases hb)) (fun _ b hb => (by cases hb))
  rw [show (PRu.zero.lies none 0).cells.toArray = #[.int .i64 0, .int .i64 0, .string ⟨#[]⟩, .int .i64 0, .string ⟨#[]⟩, .slice none 0 0, .string ⟨#[]⟩, .int .i64 0] from rfl] at hpr
  have hl : (ruBytes PRu.zero).length = 8 := by decide +kernel
  have Hpr := Lib.hid hpr
  have Hwa := Lib.hid hwa
  have Hwb := Lib.hid hwb
  have Hm0b := Lib.hid hm0b
  have Hca := Lib.hid hca
  clear hpr hwa hwb hm0b hca hgwa hgwb hmwa hmwb
  go_enter Tryz.func66, Tryz.ntmps66
  go_wp2_with (first | (rw [show w.alloc _ = wa from Hwa.out]) | (rw [show wa.alloc _ = wb from Hwb.out]) | ((with_reducible refine wpList_load_lit 117 (.tmp 1) ?_); refine ⟨w.heap.size, 0, rfl, [.int .i64 0, .int .i64 0, .string ⟨#[]⟩, .int .i64 0, .string ⟨#[]⟩, .slice none 0 0, .string ⟨#[]⟩, .int .i64 0], Hca.out, by kernel_rfl, by kernel_rfl, ?_⟩) | fail)
  refine Hpr.out.mono ?_
  rintro e w2 ⟨rfl, v2, hw2, hwr2⟩
  rw [List.nil_append] at hw2
  have hby := wr_bytes w2 _ v2 _ hw2 (by omega)
  have hm02 := Hm0b.out.upon hwr2.mod (fun b hb => hb.elim (fun e => .inr (by omega)) (fun e => by cases e))
  have Hby := Lib.hid hby
  have Hm02 := Lib.hid hm02
  clear hby hm02 hw2 hwr2 Hpr Hca
  go_wp2_with fail
  refine Hby.out.mono ?_
  rintro e w3 ⟨v3, rfl, ho3, -, hm3⟩
  have hm03 := Hm02.out.trans hm3 (fun _ _ h => h)
  have Ho3 := Lib.hid ho3
  have Hm03 := Lib.hid hm03
  clear ho3 hm03 hm3 Hby Hm02
  go_wp2_with fail
  go_ret
  exact ⟨_, 8, rfl, by omega, by omega, Ho3.out, hl.symm, Hm03.out⟩
set_option maxRecDepth 20000 in
set_option maxHeartbeats 4000000 in
theorem fit19_at (w : World) : Calls Tryz.prog 36 #[] w fun e w' => e = .returned (.bool true) ∧ Mod (fun _ => False) w w' ∧ w.heap.size < w'.heap.size := by
  obtain ⟨wz, hwz⟩ : ∃ wz : World, w.alloc (.cells #[.int .u8 4, .int .u8 0, .int .u8 0, .int .u8 1] 5) = wz := ⟨_, rfl⟩
  have hmwz : Mod (fun _ => False) w wz := hwz ▸ (Mod.refl (fun _ => False) w).alloc _
  have hgwz := heap_alloc_new w (.cells #[.int .u8 4, .int .u8 0, .int .u8 0, .int .u8 1] 5)
  rw [hwz] at hgwz
  have hzwz : wz.heap.size = w.heap.size + 1 := by rw [← hwz]; simp
  have hba : BytesAt wz w.heap.size (.slice (some ⟨w.heap.size, 0, none⟩) 4 4) [4, 0, 0, 1] := hwz ▸ BytesAt.new w [4, 0, 0, 1] 5
  have hd := decode_at wz _ w.heap.size [4, 0, 0, 1] hba (by omega) (by decide)
  have Hd := Lib.hid hd
  have Hwz := Lib.hid hwz
  have Hmwz := Lib.hid hmwz
  clear hd hwz hmwz hba hgwz
  go_enter Tryz.func36, Tryz.ntmps36
  go_wp2_with (first | (rw [show w.alloc _ = wz from Hwz.out]) | fail)
  refine Hd.out.mono ?_
  rintro e w2 ⟨l, t, v, rfl, hdec, hend, hops, hm⟩
  have hs2 : w.heap.size < w2.heap.size := by have := hm.size; omega
  obtain ⟨o, y, rfl, hk, ht, hto⟩ := dec_fit2 hdec hend
  obtain ⟨va, vc, rfl, hvc⟩ := hops.own.shape
  obtain ⟨g, off, rfl, hc⟩ := rd_op (l := [(o, y)]) (j := 0) hops.own.rd rfl
  rw [Nat.zero_mul, Nat.add_zero] at hc
  have c0 : w2.cell? ⟨g, off, none⟩ = some (.int .i64 4) := by have := hc 0 _ rfl; rw [hk] at this; exact this
  have c1 : w2.cell? ⟨g, off + 1, none⟩ = some (.int .i64 (-1)) := by have := hc 1 _ rfl; rw [ht] at this; exact this
  have c17 : w2.cell? ⟨g, off + 17, none⟩ = some (.int .i64 1) := by have := hc 17 _ rfl; rw [hto] at this; exact this
  have hm02 := Hmwz.out.trans hm (fun _ _ h => h)
  have hfr := filter_right w2 ⟨#[]⟩ (.slice none 0 0) [] ⟨rfl, none, 0, rfl, Nat.le_refl _, fun _ => rfl, fun b hb => (by cases hb)⟩ (by simp) (by decide) (fun c hc => by cases hc)
  rw [fil_right0] at hfr
  have Hm02 := Lib.hid hm02
  have Hfr := Lib.hid hfr
  clear hm02 hfr hm hops hc hdec hend hk ht hto Hd
  go_wp2_with fail
  refine Hfr.out.mono ?_
  rintro e w3 ⟨rfl, hm3⟩
  have hs3 : w.heap.size < w3.heap.size := by have := hm3.size; omega
  have hm03 := Hm02.out.trans hm3 (fun _ _ h => h)
  have hru := rule0_at w3
  have Hm03 := Lib.hid hm03
  have Hru := Lib.hid hru
  clear hm03 hru hm3 Hfr Hm02 c0 c1 c17
  go_wp2_with fail
  refine Hru.out.mono ?_
  rintro e w4 ⟨v4, n, rfl, h1, h2, ho, hn, hm4⟩
  obtain ⟨a4, c4, rfl, -⟩ := ho.shape
  rw [← hn]
  have h1' : (0 : Int) < n := by omega
  have hs4 : w.heap.size < w4.heap.size := by have := hm4.size; omega
  have hm04 := Hm03.out.trans hm4 (fun _ _ h => h)
  have Hm04 := Lib.hid hm04
  clear hm04 hm4 ho hn Hru Hm03
  go_wp2_with fail
  go_ret
  exact ⟨rfl, Hm04.out, hs4⟩
end Go.Proofs.YtloplmaekonenaaGreatDoor
namespace Go.Proofs.YtloplmaekonenaaGreatDoor
set_option maxRecDepth 20000
open Go.RowKit
structure OpsArg (w : World) (v : Value) (l : List (PO × Lie)) : Prop where
  rd : RdSl w 18 v l.length (opsCells l)
  ops : ∀ p ∈ l, OpArg w p
  len : l.length ≤ 9223372036854775807
theorem OpsArg.mod {w w' : World} {v : Value} {l : List (PO × Lie)} (h : OpsArg w v l) (hm : Mod (fun _ => False) w w') : OpsArg w' v l := ⟨h.rd.mod hm (fun _ _ h => h), fun p hp => (h.ops p hp).mod hm, h.len⟩
theorem encB_le : ∀ {m : List (PO × Lie)}, (∀ p ∈ m, Tamed p.1) → (encB m).length ≤ 1000 * m.length
  | [], _ => by simp [encB]
  | p :: m, h => by
    have ih := encB_le (m := m) (fun q hq => h q (by simp [hq]))
    have h1 := (h p (by simp)).len
    have e : encB (p :: m) = opBytes p.1 ++ encB m := by simp [encB]
    rw [e, List.length_append, List.length_cons]
    omega
theorem dec_tame {m : List (PO × Lie)} (h : ∀ p ∈ m, Tamed p.1) {l : List (PO × Lie)} {t : List UInt8} (hd : Dec (encB m) (l.map Prod.fst) t) (he : DecEnd t) : l.length = m.length ∧ encB l = encB m ∧ ∀ p ∈ l, p.1.fit := by
  have h1 : ∀ o ∈ m.map Prod.fst, o.tells := fun o ho => by
    obtain ⟨p, hp, rfl⟩ := List.mem_map.1 ho
    exact (h p hp).tells
  obtain ⟨e1, -⟩ := dec_all h1 hd he
  have h2 := hd.back.2.1
  refine ⟨?_, ?_, fun p hp => h2 _ (List.mem_map.2 ⟨p, hp, rfl⟩)⟩
  · have := congrArg List.length e1
    simpa using this
  · unfold encB
    rw [e1, back_flat h1]
end Go.Proofs.YtloplmaekonenaaGreatDoor
