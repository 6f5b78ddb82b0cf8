/-
  The anchor of chapter 19.
  ScriptJoins.
-/
import Derived.Test.YtloplmaekonenaaGreatDoorZh35
import Derived.Test.YtloplmaekonenaaGreatDoorZh37
import Derived.Test.YtloplmaekonenaaGreatDoorZh24
import Derived.Test.YtloplmaekonenaaGreatDoorZh38
namespace Go.Proofs.YtloplmaekonenaaGreatDoor
set_option maxRecDepth 20000
open Go.RowKit

theorem dec_fit {l : List PO} {t : List UInt8} (h : Dec [4, 0, 0, 1] l t) (he : DecEnd t) : ∃ o, l = [o] ∧ o.kind = 4 ∧ o.ten = -1 ∧ o.to_ = 1 := by
  have h0 : readO [4, 0, 0, 1] = some ({ PO.mk0 4 (-1) with frm := 0, to_ := 1 }, true, []) := rfl
  cases h with
  | nil =>
    rcases he with he | ⟨o, t', he⟩
    · rw [h0] at he; cases he
    · rw [h0] at he; cases he
  | cons h k =>
    rw [h0] at h
    cases h
    cases k with
    | nil => exact ⟨_, rfl, rfl, rfl, rfl⟩
    | cons h k => cases h
theorem dec_fit2 {l : List (PO × Lie)} {t : List UInt8} (h : Dec [4, 0, 0, 1] (l.map Prod.fst) t) (he : DecEnd t) : ∃ o y, l = [(o, y)] ∧ o.kind = 4 ∧ o.ten = -1 ∧ o.to_ = 1 := by
  obtain ⟨o, hl, hk⟩ := dec_fit h he
  cases l with
  | nil => cases hl
  | cons a l =>
    cases l with
    | nil =>
      obtain ⟨a, y⟩ := a
      simp only [List.map_cons, List.map_nil, List.cons.injEq, and_true] at hl
      exact ⟨a, y, rfl, hl ▸ hk⟩
    | cons b l => simp at hl
theorem fil_right0 : filRight ⟨#[]⟩ [] = true := by decide +kernel

set_option maxHeartbeats 4000000 in
theorem rule0_at (w : World) : Calls Tryz.prog 66 #[.agg #[.int .i64 0, .int .i64 0, .string ⟨#[]⟩, .int .i64 0, .string ⟨#[]⟩, .slice none 0 0, .string ⟨#[]⟩, .int .i64 0]] w fun e w' =>
    ∃ v' n, e = .returned v' ∧ 0 < n ∧ n ≤ 1000 ∧ OwnSl w' 5 1 v' (ruBytes PRu.zero).length (u8s (ruBytes PRu.zero)) ∧ n = (ruBytes PRu.zero).length ∧ Mod (fun _ => False) w w' := by
  obtain ⟨wa, hwa⟩ : ∃ wa : World, w.alloc (.cells #[.int .i64 0, .int .i64 0, .string ⟨#[]⟩, .int .i64 0, .string ⟨#[]⟩, .slice none 0 0, .string ⟨#[]⟩, .int .i64 0] 117) = wa := ⟨_, rfl⟩
  have hmwa : Mod (fun _ => False) w wa := hwa ▸ (Mod.refl (fun _ => False) w).alloc _
  have hgwa := heap_alloc_new w (.cells #[.int .i64 0, .int .i64 0, .string ⟨#[]⟩, .int .i64 0, .string ⟨#[]⟩, .slice none 0 0, .string ⟨#[]⟩, .int .i64 0] 117)
  rw [hwa] at hgwa
  have hzwa : wa.heap.size = w.heap.size + 1 := by rw [← hwa]; simp
  obtain ⟨wb, hwb⟩ : ∃ wb : World, wa.alloc (.cells #[.slice none 0 0] 124) = wb := ⟨_, rfl⟩
  have hmwb : Mod (fun _ => False) wa wb := hwb ▸ (Mod.refl (fun _ => False) wa).alloc _
  have hgwb := heap_alloc_new wa (.cells #[.slice none 0 0] 124)
  rw [hwb] at hgwb
  have hzwb : wb.heap.size = wa.heap.size + 1 := by rw [← hwb]; simp
  rw [hzwa] at hgwb
  have hm0b := hmwa.trans hmwb (fun _ _ h => h)
  have hca := CellsAt.row (hmwb.heap hgwa (fun h => h))
  have hpr := put_rule wb (w.heap.size + 1) (.slice none 0 0) [] ⟨hgwb, OwnSl.nil _ _ _⟩ (by simp) PRu.zero PRu.zero_fit none 0 ⟨rfl, none, 0, rfl, Nat.le_refl _, fun _ => rfl, fun b hb => (by cases hb)⟩ (fun _ b hb => (by cases hb)) (fun _ b hb => (by cases hb))
  rw [show (PRu.zero.lies none 0).cells.toArray = #[.int .i64 0, .int .i64 0, .string ⟨#[]⟩, .int .i64 0, .string ⟨#[]⟩, .slice none 0 0, .string ⟨#[]⟩, .int .i64 0] from rfl] at hpr
  have hl : (ruBytes PRu.zero).length = 8 := by decide +kernel
  have Hpr := Lib.hid hpr
  have Hwa := Lib.hid hwa
  have Hwb := Lib.hid hwb
  have Hm0b := Lib.hid hm0b
  have Hca := Lib.hid hca
  clear hpr hwa hwb hm0b hca hgwa hgwb hmwa hmwb
  go_enter Tryz.func66, Tryz.ntmps66
  go_wp2_with (first | (rw [show w.alloc _ = wa from Hwa.out]) | (rw [show wa.alloc _ = wb from Hwb.out]) | ((with_reducible refine wpList_load_lit 117 (.tmp 1) ?_); refine ⟨w.heap.size, 0, rfl, [.int .i64 0, .int .i64 0, .string ⟨#[]⟩, .int .i64 0, .string ⟨#[]⟩, .slice none 0 0, .string ⟨#[]⟩, .int .i64 0], Hca.out, by kernel_rfl, by kernel_rfl, ?_⟩) | fail)
  refine Hpr.out.mono ?_
  rintro e w2 ⟨rfl, v2, hw2, hwr2⟩
  rw [List.nil_append] at hw2
  have hby := wr_bytes w2 _ v2 _ hw2 (by omega)
  have hm02 := Hm0b.out.upon hwr2.mod (fun b hb => hb.elim (fun e => .inr (by omega)) (fun e => by cases e))
  have Hby := Lib.hid hby
  have Hm02 := Lib.hid hm02
  clear hby hm02 hw2 hwr2 Hpr Hca
  go_wp2_with fail
  refine Hby.out.mono ?_
  rintro e w3 ⟨v3, rfl, ho3, -, hm3⟩
  have hm03 := Hm02.out.trans hm3 (fun _ _ h => h)
  have Ho3 := Lib.hid ho3
  have Hm03 := Lib.hid hm03
  clear ho3 hm03 hm3 Hby Hm02
  go_wp2_with fail
  go_ret
  exact ⟨_, 8, rfl, by omega, by omega, Ho3.out, hl.symm, Hm03.out⟩

set_option maxRecDepth 20000 in
set_option maxHeartbeats 4000000 in
theorem fit19_at (w : World) : Calls Tryz.prog 36 #[] w fun e w' => e = .returned (.bool true) ∧ Mod (fun _ => False) w w' ∧ w.heap.size < w'.heap.size := by
  obtain ⟨wz, hwz⟩ : ∃ wz : World, w.alloc (.cells #[.int .u8 4, .int .u8 0, .int .u8 0, .int .u8 1] 5) = wz := ⟨_, rfl⟩
  have hmwz : Mod (fun _ => False) w wz := hwz ▸ (Mod.refl (fun _ => False) w).alloc _
  have hgwz := heap_alloc_new w (.cells #[.int .u8 4, .int .u8 0, .int .u8 0, .int .u8 1] 5)
  rw [hwz] at hgwz
  have hzwz : wz.heap.size = w.heap.size + 1 := by rw [← hwz]; simp
  have hba : BytesAt wz w.heap.size (.slice (some ⟨w.heap.size, 0, none⟩) 4 4) [4, 0, 0, 1] := hwz ▸ BytesAt.new w [4, 0, 0, 1] 5
  have hd := decode_at wz _ w.heap.size [4, 0, 0, 1] hba (by omega) (by decide)
  have Hd := Lib.hid hd
  have Hwz := Lib.hid hwz
  have Hmwz := Lib.hid hmwz
  clear hd hwz hmwz hba hgwz
  go_enter Tryz.func36, Tryz.ntmps36
  go_wp2_with (first | (rw [show w.alloc _ = wz from Hwz.out]) | fail)
  refine Hd.out.mono ?_
  rintro e w2 ⟨l, t, v, rfl, hdec, hend, hops, hm⟩
  have hs2 : w.heap.size < w2.heap.size := by have := hm.size; omega
  obtain ⟨o, y, rfl, hk, ht, hto⟩ := dec_fit2 hdec hend
  obtain ⟨va, vc, rfl, hvc⟩ := hops.own.shape
  obtain ⟨g, off, rfl, hc⟩ := rd_op (l := [(o, y)]) (j := 0) hops.own.rd rfl
  rw [Nat.zero_mul, Nat.add_zero] at hc
  have c0 : w2.cell? ⟨g, off, none⟩ = some (.int .i64 4) := by have := hc 0 _ rfl; rw [hk] at this; exact this
  have c1 : w2.cell? ⟨g, off + 1, none⟩ = some (.int .i64 (-1)) := by have := hc 1 _ rfl; rw [ht] at this; exact this
  have c17 : w2.cell? ⟨g, off + 17, none⟩ = some (.int .i64 1) := by have := hc 17 _ rfl; rw [hto] at this; exact this
  have hm02 := Hmwz.out.trans hm (fun _ _ h => h)
  have hfr := filter_right w2 ⟨#[]⟩ (.slice none 0 0) [] ⟨rfl, none, 0, rfl, Nat.le_refl _, fun _ => rfl, fun b hb => (by cases hb)⟩ (by simp) (by decide) (fun c hc => by cases hc)
  rw [fil_right0] at hfr
  have Hm02 := Lib.hid hm02
  have Hfr := Lib.hid hfr
  clear hm02 hfr hm hops hc hdec hend hk ht hto Hd
  go_wp2_with fail
  refine Hfr.out.mono ?_
  rintro e w3 ⟨rfl, hm3⟩
  have hs3 : w.heap.size < w3.heap.size := by have := hm3.size; omega
  have hm03 := Hm02.out.trans hm3 (fun _ _ h => h)
  have hru := rule0_at w3
  have Hm03 := Lib.hid hm03
  have Hru := Lib.hid hru
  clear hm03 hru hm3 Hfr Hm02 c0 c1 c17
  go_wp2_with fail
  refine Hru.out.mono ?_
  rintro e w4 ⟨v4, n, rfl, h1, h2, ho, hn, hm4⟩
  obtain ⟨a4, c4, rfl, -⟩ := ho.shape
  rw [← hn]
  have h1' : (0 : Int) < n := by omega
  have hs4 : w.heap.size < w4.heap.size := by have := hm4.size; omega
  have hm04 := Hm03.out.trans hm4 (fun _ _ h => h)
  have Hm04 := Lib.hid hm04
  clear hm04 hm4 ho hn Hru Hm03
  go_wp2_with fail
  go_ret
  exact ⟨rfl, Hm04.out, hs4⟩
end Go.Proofs.YtloplmaekonenaaGreatDoor

namespace Go.Proofs.YtloplmaekonenaaGreatDoor
set_option maxRecDepth 20000
open Go.RowKit

/-- Ops that were handed in. -/
structure OpsArg (w : World) (v : Value) (l : List (PO × Lie)) : Prop where
  rd : RdSl w 18 v l.length (opsCells l)
  ops : ∀ p ∈ l, OpArg w p
  len : l.length ≤ 9223372036854775807
theorem OpsArg.mod {w w' : World} {v : Value} {l : List (PO × Lie)} (h : OpsArg w v l) (hm : Mod (fun _ => False) w w') : OpsArg w' v l := ⟨h.rd.mod hm (fun _ _ h => h), fun p hp => (h.ops p hp).mod hm, h.len⟩
theorem encB_le : ∀ {m : List (PO × Lie)}, (∀ p ∈ m, Tamed p.1) → (encB m).length ≤ 1000 * m.length
  | [], _ => by simp [encB]
  | p :: m, h => by
    have ih := encB_le (m := m) (fun q hq => h q (by simp [hq]))
    have h1 := (h p (by simp)).len
    have e : encB (p :: m) = opBytes p.1 ++ encB m := by simp [encB]
    rw [e, List.length_append, List.length_cons]
    omega
theorem encB_app (l m : List (PO × Lie)) : encB (l ++ m) = encB l ++ encB m := by simp [encB]
/-- What is read of bytes that tame ops have. -/
theorem dec_tame {m : List (PO × Lie)} (h : ∀ p ∈ m, Tamed p.1) {l : List (PO × Lie)} {t : List UInt8} (hd : Dec (encB m) (l.map Prod.fst) t) (he : DecEnd t) : l.length = m.length ∧ encB l = encB m ∧ ∀ p ∈ l, p.1.fit := by
  have h1 : ∀ o ∈ m.map Prod.fst, o.tells := fun o ho => by
    obtain ⟨p, hp, rfl⟩ := List.mem_map.1 ho
    exact (h p hp).tells
  obtain ⟨e1, -⟩ := dec_all h1 hd he
  have h2 := hd.back.2.1
  refine ⟨?_, ?_, fun p hp => h2 _ (List.mem_map.2 ⟨p, hp, rfl⟩)⟩
  · have := congrArg List.length e1
    simpa using this
  · unfold encB
    rw [e1, back_flat h1]

set_option maxRecDepth 20000 in
set_option maxHeartbeats 16000000 in
theorem sjoins_walk (w : World) (hl : LaidAt w) (hn : 16 ≤ w.heap.size) (va : Value) (A : List (PO × Lie)) (hA : OpsArg w va A) (vb : Value) (B : List (PO × Lie)) (hB : OpsArg w vb B) :
    Calls Tryz.prog 12 #[va, vb] w fun e w' => e = .returned (.bool true) ∧ Mod (fun _ => False) w w' := by
  have hl0 : Laid w w := ⟨hl, hn, ⟨rfl, rfl, rfl, Nat.le_refl _, fun _ _ => rfl⟩⟩
  have hf := fit19_at w
  have Hf := Lib.hid hf
  have Hl0 := Lib.hid hl0
  have HA := Lib.hid hA
  have HB := Lib.hid hB
  have Hl := Lib.hid hl
  clear hf hl0 hA hB hl
  go_enter Tryz.func12, Tryz.ntmps12
  go_wp2_with fail
  refine Hf.out.mono ?_
  rintro e w1 ⟨rfl, hm1, hs1⟩
  have hr1 := right19_at w1 va A (HA.out.mod hm1).rd (HA.out.mod hm1).ops HA.out.len
  have Hm1 := Lib.hid hm1
  have Hr1 := Lib.hid hr1
  clear hm1 hr1
  go_wp2_with fail
  refine Hr1.out.mono ?_
  rintro e w2 ⟨b, rfl, hb, hm2⟩
  have hm02 := Hm1.out.trans hm2 (fun _ _ h => h)
  cases b with
  | false =>
    have Hb := Lib.hid hb
    have Hm2 := Lib.hid hm2
    have Hm02 := Lib.hid hm02
    clear hb hm2 hm02
    go_wp2_with fail
    go_ret
    exact ⟨rfl, Hm02.out⟩
  | true =>
    have hbA := hb rfl
    have hr2 := right19_at w2 vb B (HB.out.mod hm02).rd (HB.out.mod hm02).ops HB.out.len
    have Hb := Lib.hid hb
    have Hm2 := Lib.hid hm2
    have Hm02 := Lib.hid hm02
    have Hr2 := Lib.hid hr2
    have HbA := Lib.hid hbA
    clear hb hm2 hm02 hr2 hbA
    go_wp2_with fail
    refine Hr2.out.mono ?_
    rintro e w3 ⟨b2, rfl, hb2, hm3⟩
    have hm03 := Hm02.out.trans hm3 (fun _ _ h => h)
    cases b2 with
    | false =>
      have Hb2 := Lib.hid hb2
      have Hm3 := Lib.hid hm3
      have Hm03 := Lib.hid hm03
      clear hb2 hm3 hm03
      go_wp2_with fail
      go_ret
      exact ⟨rfl, Hm03.out⟩
    | true =>
      have hbB := hb2 rfl
      have hta := tame_at w w3 (Hl0.out.mod0 hm03) va A (HA.out.mod hm03).rd (HA.out.mod hm03).ops HbA.out.1 HbA.out.2
      have Hb2 := Lib.hid hb2
      have Hm3 := Lib.hid hm3
      have Hm03 := Lib.hid hm03
      have HbB := Lib.hid hbB
      have Hta := Lib.hid hta
      clear hb2 hm3 hm03 hbB hta
      go_wp2_with fail
      refine Hta.out.mono ?_
      rintro e w4 ⟨vx, X, rfl, hX, hXl, hXt, hm4⟩
      have hm04 := Hm03.out.trans hm4 (fun _ _ h => h)
      obtain ⟨xa, xc, rfl, hxc⟩ := hX.own.shape
      have htb := tame_at w w4 (Hl0.out.mod0 hm04) vb B (HB.out.mod hm04).rd (HB.out.mod hm04).ops HbB.out.1 HbB.out.2
      have HX := Lib.hid hX
      have HXt := Lib.hid hXt
      have Hm4 := Lib.hid hm4
      have Hm04 := Lib.hid hm04
      have Htb := Lib.hid htb
      clear hX hXt hm4 hm04 htb
      go_wp2_with fail
      refine Htb.out.mono ?_
      rintro e w5 ⟨vy, Y, rfl, hY, hYl, hYt, hm5⟩
      have hm05 := Hm04.out.trans hm5 (fun _ _ h => h)
      obtain ⟨ya, yc, rfl, hyc⟩ := hY.own.shape
      have hX5 := HX.out.mod hm5 (fun _ h => h.elim)
      have hA80 := HbA.out.2
      have hB80 := HbB.out.2
      have heX := encB_le HXt.out
      have heY := encB_le hYt
      have hex := encode_at w5 _ X _ hX5 (fun p hp => (HXt.out p hp).fit) (by omega) (by omega)
      have HY := Lib.hid hY
      have HYt := Lib.hid hYt
      have Hm5 := Lib.hid hm5
      have Hm05 := Lib.hid hm05
      have HX5 := Lib.hid hX5
      have Hex := Lib.hid hex
      clear hY hYt hm5 hm05 hX5 hex
      go_wp2_with fail
      refine Hex.out.mono ?_
      rintro e w6 ⟨v6, rfl, ho6, hb6, hm6⟩
      obtain ⟨a6, c6, rfl, hc6⟩ := ho6.shape
      have hY6 := HY.out.mod hm6 (fun _ h => h.elim)
      have hey := encode_at w6 _ Y _ hY6 (fun p hp => (HYt.out p hp).fit) (by omega) (by omega)
      have Ho6 := Lib.hid ho6
      have Hm6 := Lib.hid hm6
      have HY6 := Lib.hid hY6
      have Hey := Lib.hid hey
      have Hb6 := Lib.hid hb6
      clear ho6 hm6 hY6 hey hb6
      go_wp2_with fail
      refine Hey.out.mono ?_
      rintro e w7 ⟨v7, rfl, ho7, hb7, hm7⟩
      obtain ⟨a7, c7, rfl, hc7⟩ := ho7.shape
      have ho67 := Ho6.out.mod hm7 (fun _ _ h => h)
      have hm57 := Hm6.out.trans hm7 (fun _ _ h => h)
      have Ho7 := Lib.hid ho7
      have Hm7 := Lib.hid hm7
      have Ho67 := Lib.hid ho67
      have Hm57 := Lib.hid hm57
      have Hb7 := Lib.hid hb7
      clear ho7 hm7 ho67 hm57 hb7
      go_wp2_with (first | ((with_reducible refine wpList_append_lit (.tmp 23) (.tmp 25) 69 ?_); refine ⟨rfl, 5, 1, 1, bytes_T, .slice a6 (encB X).length c6, (encB X).length, u8s (encB X), rfl, Ho67.out, _, (encB Y).length, u8s (encB Y), rfl, Ho7.out.rd, u8s_one _, by omega, by unfold maxLen; omega, ?_⟩; intro ad cap8 w8 hA; have HAp := Lib.hid hA; clear hA) | fail)
      have hm58 : Mod (fun _ => False) w5 w8 := Hm57.out.upon HAp.out.2.1 (fun b hb => .inr (Hb6.out b hb))
      have hm08 := Hm05.out.trans hm58 (fun _ _ h => h)
      have hu8 : u8s (encB (X ++ Y)) = u8s (encB X) ++ u8s (encB Y) := by rw [encB_app]; simp [u8s]
      have hle8 : (encB (X ++ Y)).length = (encB X).length + (encB Y).length := by rw [encB_app, List.length_append]
      have hob : OwnSl w8 5 1 (.slice ad ((encB X).length + (encB Y).length) cap8) (encB (X ++ Y)).length (u8s (encB (X ++ Y))) := by
        rw [hu8, hle8]
        exact HAp.out.1
      obtain ⟨G, hG1, hG2⟩ := own_at hob (by have := hm08.size; omega)
      have hXY : ∀ p ∈ X ++ Y, Tamed p.1 := fun p hp => (List.mem_append.1 hp).elim (HXt.out p) (HYt.out p)
      have hdc := decode_at w8 _ G (encB (X ++ Y)) hG1 hG2 (by omega)
      have hX8 := HX5.out.mod hm58 (fun _ h => h.elim)
      have hY8 := HY.out.mod hm58 (fun _ h => h.elim)
      have Hm58 := Lib.hid hm58
      have Hm08 := Lib.hid hm08
      have Hdc := Lib.hid hdc
      have HXY := Lib.hid hXY
      have HX8 := Lib.hid hX8
      have HY8 := Lib.hid hY8
      clear hm58 hm08 hdc hXY hX8 hY8 hu8 hob hG1 hG2
      go_wp2_with fail
      refine Hdc.out.mono ?_
      rintro e w9 ⟨l, t, v9, rfl, hdec, hend, hops9, hm9⟩
      obtain ⟨hll, hel, hlf⟩ := dec_tame HXY.out hdec hend
      obtain ⟨la, lc, rfl, hlc⟩ := hops9.own.shape
      have hm09 := Hm08.out.trans hm9 (fun _ _ h => h)
      rw [List.length_append] at hll
      have hllI : (l.length : Int) = (X.length : Int) + (Y.length : Int) := by omega
      have hX80 : (X.length : Int) ≤ 80 := by omega
      have hY80 : (Y.length : Int) ≤ 80 := by omega
      have hwr : IntKind.i64.wrap ((X.length : Int) + (Y.length : Int)) = (X.length : Int) + (Y.length : Int) := by rw [IntKind.wrap_i64]; omega
      have hst : ∀ bs : List UInt8, (str bs).size = bs.length := fun bs => by simp [str, ByteArray.size]
      have hsz : ¬ 9223372036854775807 < (str (encB X)).size + (str (encB Y)).size := by rw [hst, hst]; omega
      have hel2 : (encB l).length ≤ 200000 := by rw [hel]; omega
      have hstr : str (encB l) = str (encB X) ++ str (encB Y) := by
        rw [hel, encB_app]
        apply ByteArray.ext
        apply Array.ext'
        simp [str]
      have hE1 : ∀ w', Mod (fun _ => False) w9 w' → Calls Tryz.prog 39 #[.slice la l.length lc] w' fun e w'' => ∃ v', e = .returned v' ∧ OwnSl w'' 5 1 v' (encB l).length (u8s (encB l)) ∧ (∀ b, v'.ownBlock = some b → w'.heap.size ≤ b) ∧ Mod (fun _ => False) w' w'' := fun w' h =>
        encode_at w' _ l _ (hops9.mod h (fun _ h => h.elim)) hlf (by omega) (by omega)
      have hE2 : ∀ w', Mod (fun _ => False) w9 w' → Calls Tryz.prog 39 #[.slice xa X.length xc] w' fun e w'' => ∃ v', e = .returned v' ∧ OwnSl w'' 5 1 v' (encB X).length (u8s (encB X)) ∧ (∀ b, v'.ownBlock = some b → w'.heap.size ≤ b) ∧ Mod (fun _ => False) w' w'' := fun w' h =>
        encode_at w' _ X _ (HX8.out.mod (hm9.trans h (fun _ _ h => h)) (fun _ h => h.elim)) (fun p hp => (HXt.out p hp).fit) (by omega) (by omega)
      have hE3 : ∀ w', Mod (fun _ => False) w9 w' → Calls Tryz.prog 39 #[.slice ya Y.length yc] w' fun e w'' => ∃ v', e = .returned v' ∧ OwnSl w'' 5 1 v' (encB Y).length (u8s (encB Y)) ∧ (∀ b, v'.ownBlock = some b → w'.heap.size ≤ b) ∧ Mod (fun _ => False) w' w'' := fun w' h =>
        encode_at w' _ Y _ (HY8.out.mod (hm9.trans h (fun _ _ h => h)) (fun _ h => h.elim)) (fun p hp => (HYt.out p hp).fit) (by omega) (by omega)
      have hE4 : ∀ w', Mod (fun _ => False) w9 w' → Calls Tryz.prog 40 #[.slice none 0 0] w' fun e w'' => ∃ v', e = .returned v' ∧ (∃ a c, v' = .slice a 0 c) ∧ Mod (fun _ => False) w' w'' := fun w' h =>
        (decode_at w' (.slice none 0 0) 0 [] ⟨none, 0, rfl, Nat.le_refl _, fun _ => rfl, fun b hb => by cases hb⟩ (by have := (hm09.trans h (fun _ _ h => h)).size; omega) (by decide)).mono fun e w'' hh => by
          obtain ⟨l0, t0, v0, rfl, h1, -, h3, h4⟩ := hh
          have h5 := h1.back.2.2
          have h6 : l0.length = 0 := by
            rw [List.length_map] at h5
            simp at h5
            omega
          obtain ⟨a0, c0, rfl, -⟩ := h3.own.shape
          rw [h6]
          exact ⟨_, rfl, ⟨_, _, rfl⟩, h4⟩
      have hcv1 : ∀ (y : World) (a c), OwnSl y 5 1 (.slice a (encB l).length c) (encB l).length (u8s (encB l)) → (convert 69 9 (.slice a (encB l).length c)).run Tryz.prog y = .ok (.string (str (encB X) ++ str (encB Y))) y := fun y a c hy => by rw [← hstr]; exact conv_own hy
      have hcv2 : ∀ (y : World) (m : List (PO × Lie)) (a c), OwnSl y 5 1 (.slice a (encB m).length c) (encB m).length (u8s (encB m)) → (convert 69 9 (.slice a (encB m).length c)).run Tryz.prog y = .ok (.string (str (encB m))) y := fun y m a c hy => conv_own hy
      have Hdec := Lib.hid hdec
      have Hend := Lib.hid hend
      have Hops9 := Lib.hid hops9
      have Hm9 := Lib.hid hm9
      have Hm09 := Lib.hid hm09
      have Hel := Lib.hid hel
      have Hlf := Lib.hid hlf
      have Hstr := Lib.hid hstr
      have HE1 := Lib.hid hE1
      have HE2 := Lib.hid hE2
      have HE3 := Lib.hid hE3
      have HE4 := Lib.hid hE4
      have Hcv1 := Lib.hid hcv1
      have Hcv2 := Lib.hid hcv2
      clear hdec hend hops9 hm9 hm09 hel hlf hstr hE1 hE2 hE3 hE4 hcv1 hcv2 hll hst
      go_wp2_with fail
      have hd9 : Mod (fun _ => False) w9 w9.drew := (Mod.refl _ _).drew
      refine wp_region_news2 [.rd 0, .rd 1, .rd 2, .rd 3, .rd 4, .rd 5, .rd 6, .rd 7, .rd 8, .rd 9, .rd 12, .rd 15, .go 10, .rd 11, .go 13, .rd 14, .go 16, .rd 17, .rd 18, .rd 19, .rd 20, .rd 21, .go 22, .rd 23, .rd 24, .rd 25, .rd 26] [0, 1, 2, 3, 4, 5, 6, 7, 8, 9, 10, 11, 12, 13, 14, 15, 16, 17, 18, 19, 20, 21, 22, 23, 24, 25, 26] (by kernel_rfl) (by kernel_rfl) (fun _ _ d _ _ h => (by cases d <;> exact h)) ?_
      refine news_pure rfl ?_ ?_ (fun w0 => ?_) (fun K hK => ?_)
      · (try simp only [List.getElem_toArray]); (try simp only [List.getElem_cons_succ]); (try simp only [List.getElem_cons_zero])
        go_simp; done
      rotate_left
      · (try simp only [List.getElem_toArray]); (try simp only [List.getElem_cons_succ]); (try simp only [List.getElem_cons_zero])
        go_simp; with_reducible rfl
      (try simp only [List.getElem_toArray]); (try simp only [List.getElem_cons_succ]); (try simp only [List.getElem_cons_zero])
      go_simp; refine hK _ ?_; clear hK K
      refine news_pure rfl ?_ ?_ (fun w0 => ?_) (fun K hK => ?_)
      · (try simp only [List.getElem_toArray]); (try simp only [List.getElem_cons_succ]); (try simp only [List.getElem_cons_zero])
        go_simp; done
      rotate_left
      · (try simp only [List.getElem_toArray]); (try simp only [List.getElem_cons_succ]); (try simp only [List.getElem_cons_zero])
        go_simp; with_reducible rfl
      (try simp only [List.getElem_toArray]); (try simp only [List.getElem_cons_succ]); (try simp only [List.getElem_cons_zero])
      go_simp; refine hK _ ?_; clear hK K
      refine news_pure rfl ?_ ?_ (fun w0 => ?_) (fun K hK => ?_)
      · (try simp only [List.getElem_toArray]); (try simp only [List.getElem_cons_succ]); (try simp only [List.getElem_cons_zero])
        go_simp; done
      rotate_left
      · (try simp only [List.getElem_toArray]); (try simp only [List.getElem_cons_succ]); (try simp only [List.getElem_cons_zero])
        go_simp; with_reducible rfl
      (try simp only [List.getElem_toArray]); (try simp only [List.getElem_cons_succ]); (try simp only [List.getElem_cons_zero])
      go_simp; refine hK _ ?_; clear hK K
      refine news_pure rfl ?_ ?_ (fun w0 => ?_) (fun K hK => ?_)
      · (try simp only [List.getElem_toArray]); (try simp only [List.getElem_cons_succ]); (try simp only [List.getElem_cons_zero])
        go_simp; done
      rotate_left
      · (try simp only [List.getElem_toArray]); (try simp only [List.getElem_cons_succ]); (try simp only [List.getElem_cons_zero])
        go_simp; with_reducible rfl
      (try simp only [List.getElem_toArray]); (try simp only [List.getElem_cons_succ]); (try simp only [List.getElem_cons_zero])
      go_simp; refine hK _ ?_; clear hK K
      refine news_pure rfl ?_ ?_ (fun w0 => ?_) (fun K hK => ?_)
      · (try simp only [List.getElem_toArray]); (try simp only [List.getElem_cons_succ]); (try simp only [List.getElem_cons_zero])
        go_simp; done
      rotate_left
      · (try simp only [List.getElem_toArray]); (try simp only [List.getElem_cons_succ]); (try simp only [List.getElem_cons_zero])
        go_simp; with_reducible rfl
      (try simp only [List.getElem_toArray]); (try simp only [List.getElem_cons_succ]); (try simp only [List.getElem_cons_zero])
      go_simp; refine hK _ ?_; clear hK K
      refine news_pure rfl ?_ ?_ (fun w0 => ?_) (fun K hK => ?_)
      · (try simp only [List.getElem_toArray]); (try simp only [List.getElem_cons_succ]); (try simp only [List.getElem_cons_zero])
        go_simp; done
      rotate_left
      · (try simp only [List.getElem_toArray]); (try simp only [List.getElem_cons_succ]); (try simp only [List.getElem_cons_zero])
        go_simp; with_reducible rfl
      (try simp only [List.getElem_toArray]); (try simp only [List.getElem_cons_succ]); (try simp only [List.getElem_cons_zero])
      go_simp; refine hK _ ?_; clear hK K
      refine news_pure rfl ?_ ?_ (fun w0 => ?_) (fun K hK => ?_)
      · (try simp only [List.getElem_toArray]); (try simp only [List.getElem_cons_succ]); (try simp only [List.getElem_cons_zero])
        go_simp; done
      rotate_left
      · (try simp only [List.getElem_toArray]); (try simp only [List.getElem_cons_succ]); (try simp only [List.getElem_cons_zero])
        go_simp; with_reducible rfl
      (try simp only [List.getElem_toArray]); (try simp only [List.getElem_cons_succ]); (try simp only [List.getElem_cons_zero])
      go_simp; refine hK _ ?_; clear hK K
      refine news_pure rfl ?_ ?_ (fun w0 => ?_) (fun K hK => ?_)
      · (try simp only [List.getElem_toArray]); (try simp only [List.getElem_cons_succ]); (try simp only [List.getElem_cons_zero])
        go_simp; done
      rotate_left
      · (try simp only [List.getElem_toArray]); (try simp only [List.getElem_cons_succ]); (try simp only [List.getElem_cons_zero])
        go_simp; with_reducible rfl
      (try simp only [List.getElem_toArray]); (try simp only [List.getElem_cons_succ]); (try simp only [List.getElem_cons_zero])
      go_simp; refine hK _ ?_; clear hK K
      refine news_pure rfl ?_ ?_ (fun w0 => ?_) (fun K hK => ?_)
      · (try simp only [List.getElem_toArray]); (try simp only [List.getElem_cons_succ]); (try simp only [List.getElem_cons_zero])
        go_simp; done
      rotate_left
      · (try simp only [List.getElem_toArray]); (try simp only [List.getElem_cons_succ]); (try simp only [List.getElem_cons_zero])
        go_simp; with_reducible rfl
      (try simp only [List.getElem_toArray]); (try simp only [List.getElem_cons_succ]); (try simp only [List.getElem_cons_zero])
      go_simp; refine hK _ ?_; clear hK K
      refine news_pure rfl ?_ ?_ (fun w0 => ?_) (fun K hK => ?_)
      · (try simp only [List.getElem_toArray]); (try simp only [List.getElem_cons_succ]); (try simp only [List.getElem_cons_zero])
        go_simp; done
      rotate_left
      · (try simp only [List.getElem_toArray]); (try simp only [List.getElem_cons_succ]); (try simp only [List.getElem_cons_zero])
        go_simp; with_reducible rfl
      (try simp only [List.getElem_toArray]); (try simp only [List.getElem_cons_succ]); (try simp only [List.getElem_cons_zero])
      go_simp; refine hK _ ?_; clear hK K
      refine news_pure rfl ?_ ?_ (fun w0 => ?_) (fun K hK => ?_)
      · (try simp only [List.getElem_toArray]); (try simp only [List.getElem_cons_succ]); (try simp only [List.getElem_cons_zero])
        go_simp; done
      rotate_left
      · (try simp only [List.getElem_toArray]); (try simp only [List.getElem_cons_succ]); (try simp only [List.getElem_cons_zero])
        go_simp; with_reducible rfl
      (try simp only [List.getElem_toArray]); (try simp only [List.getElem_cons_succ]); (try simp only [List.getElem_cons_zero])
      go_simp; refine hK _ ?_; clear hK K
      refine news_pure rfl ?_ ?_ (fun w0 => ?_) (fun K hK => ?_)
      · (try simp only [List.getElem_toArray]); (try simp only [List.getElem_cons_succ]); (try simp only [List.getElem_cons_zero])
        go_simp; done
      rotate_left
      · (try simp only [List.getElem_toArray]); (try simp only [List.getElem_cons_succ]); (try simp only [List.getElem_cons_zero])
        go_simp; with_reducible rfl
      (try simp only [List.getElem_toArray]); (try simp only [List.getElem_cons_succ]); (try simp only [List.getElem_cons_zero])
      go_simp; refine hK _ ?_; clear hK K
      refine news_one (newsgo_yes rfl ?_ (fun K hK => ?_))
      · (try simp only [List.getElem_toArray]); (try simp only [List.getElem_cons_succ]); (try simp only [List.getElem_cons_zero])
        go_simp; done
      go_wp2_with fail
      refine (HE1.out _ hd9).mono ?_
      rintro e wa ⟨u1, rfl, ho1, -, hma⟩
      obtain ⟨p1, q1, rfl, -⟩ := ho1.shape
      refine hK _ _ (fun _ => hma) ?_
      clear hK K
      refine news_rd rfl rfl ?_ ((fun y : World => OwnSl y 5 1 (.slice p1 (encB l).length q1) (encB l).length (u8s (encB l)))) ((fun _ _ m h => h.mod m (fun _ _ h => h))) (ho1) ?_ (fun w0 h0 => ?_) (fun K hK => ?_)
      · (try simp only [List.getElem_toArray]); (try simp only [List.getElem_cons_succ]); (try simp only [List.getElem_cons_zero])
        go_simp; done
      rotate_left
      · (try simp only [List.getElem_toArray]); (try simp only [List.getElem_cons_succ]); (try simp only [List.getElem_cons_zero])
        have q0 := Hcv1.out _ _ _ h0; clear h0; go_simp; with_reducible rfl
      (try simp only [List.getElem_toArray]); (try simp only [List.getElem_cons_succ]); (try simp only [List.getElem_cons_zero])
      go_simp; refine hK _ ?_; clear hK K
      have hda := hd9.trans hma (fun _ _ h => h)
      refine news_one (newsgo_yes rfl ?_ (fun K hK => ?_))
      · (try simp only [List.getElem_toArray]); (try simp only [List.getElem_cons_succ]); (try simp only [List.getElem_cons_zero])
        go_simp; done
      go_wp2_with fail
      refine (HE2.out _ hda).mono ?_
      rintro e wb ⟨u2, rfl, ho2, -, hmb⟩
      obtain ⟨p2, q2, rfl, -⟩ := ho2.shape
      refine hK _ _ (fun _ => hmb) ?_
      clear hK K
      refine news_rd rfl rfl ?_ ((fun y : World => OwnSl y 5 1 (.slice p2 (encB X).length q2) (encB X).length (u8s (encB X)))) ((fun _ _ m h => h.mod m (fun _ _ h => h))) (ho2) ?_ (fun w0 h0 => ?_) (fun K hK => ?_)
      · (try simp only [List.getElem_toArray]); (try simp only [List.getElem_cons_succ]); (try simp only [List.getElem_cons_zero])
        go_simp; done
      rotate_left
      · (try simp only [List.getElem_toArray]); (try simp only [List.getElem_cons_succ]); (try simp only [List.getElem_cons_zero])
        have q0 := Hcv2.out _ _ _ _ h0; clear h0; go_simp; with_reducible rfl
      (try simp only [List.getElem_toArray]); (try simp only [List.getElem_cons_succ]); (try simp only [List.getElem_cons_zero])
      go_simp; refine hK _ ?_; clear hK K
      have hdb := hda.trans hmb (fun _ _ h => h)
      refine news_one (newsgo_yes rfl ?_ (fun K hK => ?_))
      · (try simp only [List.getElem_toArray]); (try simp only [List.getElem_cons_succ]); (try simp only [List.getElem_cons_zero])
        go_simp; done
      go_wp2_with fail
      refine (HE3.out _ hdb).mono ?_
      rintro e wc ⟨u3, rfl, ho3, -, hmc⟩
      obtain ⟨p3, q3, rfl, -⟩ := ho3.shape
      refine hK _ _ (fun _ => hmc) ?_
      clear hK K
      refine news_rd rfl rfl ?_ ((fun y : World => OwnSl y 5 1 (.slice p3 (encB Y).length q3) (encB Y).length (u8s (encB Y)))) ((fun _ _ m h => h.mod m (fun _ _ h => h))) (ho3) ?_ (fun w0 h0 => ?_) (fun K hK => ?_)
      · (try simp only [List.getElem_toArray]); (try simp only [List.getElem_cons_succ]); (try simp only [List.getElem_cons_zero])
        go_simp; done
      rotate_left
      · (try simp only [List.getElem_toArray]); (try simp only [List.getElem_cons_succ]); (try simp only [List.getElem_cons_zero])
        have q0 := Hcv2.out _ _ _ _ h0; clear h0; go_simp; with_reducible rfl
      (try simp only [List.getElem_toArray]); (try simp only [List.getElem_cons_succ]); (try simp only [List.getElem_cons_zero])
      go_simp; refine hK _ ?_; clear hK K
      have hdc := hdb.trans hmc (fun _ _ h => h)
      refine news_pure rfl ?_ ?_ (fun w0 => ?_) (fun K hK => ?_)
      · (try simp only [List.getElem_toArray]); (try simp only [List.getElem_cons_succ]); (try simp only [List.getElem_cons_zero])
        go_simp; done
      rotate_left
      · (try simp only [List.getElem_toArray]); (try simp only [List.getElem_cons_succ]); (try simp only [List.getElem_cons_zero])
        go_simp; with_reducible rfl
      (try simp only [List.getElem_toArray]); (try simp only [List.getElem_cons_succ]); (try simp only [List.getElem_cons_zero])
      go_simp; refine hK _ ?_; clear hK K
      refine news_pure rfl ?_ ?_ (fun w0 => ?_) (fun K hK => ?_)
      · (try simp only [List.getElem_toArray]); (try simp only [List.getElem_cons_succ]); (try simp only [List.getElem_cons_zero])
        go_simp; done
      rotate_left
      · (try simp only [List.getElem_toArray]); (try simp only [List.getElem_cons_succ]); (try simp only [List.getElem_cons_zero])
        go_simp; with_reducible rfl
      (try simp only [List.getElem_toArray]); (try simp only [List.getElem_cons_succ]); (try simp only [List.getElem_cons_zero])
      go_simp; refine hK _ ?_; clear hK K
      refine news_pure rfl ?_ ?_ (fun w0 => ?_) (fun K hK => ?_)
      · (try simp only [List.getElem_toArray]); (try simp only [List.getElem_cons_succ]); (try simp only [List.getElem_cons_zero])
        go_simp; done
      rotate_left
      · (try simp only [List.getElem_toArray]); (try simp only [List.getElem_cons_succ]); (try simp only [List.getElem_cons_zero])
        go_simp; with_reducible rfl
      (try simp only [List.getElem_toArray]); (try simp only [List.getElem_cons_succ]); (try simp only [List.getElem_cons_zero])
      go_simp; refine hK _ ?_; clear hK K
      refine news_pure rfl ?_ ?_ (fun w0 => ?_) (fun K hK => ?_)
      · (try simp only [List.getElem_toArray]); (try simp only [List.getElem_cons_succ]); (try simp only [List.getElem_cons_zero])
        go_simp; done
      rotate_left
      · (try simp only [List.getElem_toArray]); (try simp only [List.getElem_cons_succ]); (try simp only [List.getElem_cons_zero])
        go_simp; with_reducible rfl
      (try simp only [List.getElem_toArray]); (try simp only [List.getElem_cons_succ]); (try simp only [List.getElem_cons_zero])
      go_simp; refine hK _ ?_; clear hK K
      refine news_one (newsgo_yes rfl ?_ (fun K hK => ?_))
      · (try simp only [List.getElem_toArray]); (try simp only [List.getElem_cons_succ]); (try simp only [List.getElem_cons_zero])
        go_simp; done
      go_wp2_with fail
      refine (HE4.out _ hdc).mono ?_
      rintro e wd ⟨u4, rfl, ⟨p4, q4, rfl⟩, hmd⟩
      refine hK _ _ (fun _ => hmd) ?_
      clear hK K
      refine news_pure rfl ?_ ?_ (fun w0 => ?_) (fun K hK => ?_)
      · (try simp only [List.getElem_toArray]); (try simp only [List.getElem_cons_succ]); (try simp only [List.getElem_cons_zero])
        go_simp; done
      rotate_left
      · (try simp only [List.getElem_toArray]); (try simp only [List.getElem_cons_succ]); (try simp only [List.getElem_cons_zero])
        go_simp; with_reducible rfl
      (try simp only [List.getElem_toArray]); (try simp only [List.getElem_cons_succ]); (try simp only [List.getElem_cons_zero])
      go_simp; refine hK _ ?_; clear hK K
      refine news_pure rfl ?_ ?_ (fun w0 => ?_) (fun K hK => ?_)
      · (try simp only [List.getElem_toArray]); (try simp only [List.getElem_cons_succ]); (try simp only [List.getElem_cons_zero])
        go_simp; done
      rotate_left
      · (try simp only [List.getElem_toArray]); (try simp only [List.getElem_cons_succ]); (try simp only [List.getElem_cons_zero])
        go_simp; with_reducible rfl
      (try simp only [List.getElem_toArray]); (try simp only [List.getElem_cons_succ]); (try simp only [List.getElem_cons_zero])
      go_simp; refine hK _ ?_; clear hK K
      refine news_pure rfl ?_ ?_ (fun w0 => ?_) (fun K hK => ?_)
      · (try simp only [List.getElem_toArray]); (try simp only [List.getElem_cons_succ]); (try simp only [List.getElem_cons_zero])
        go_simp; done
      rotate_left
      · (try simp only [List.getElem_toArray]); (try simp only [List.getElem_cons_succ]); (try simp only [List.getElem_cons_zero])
        go_simp; with_reducible rfl
      (try simp only [List.getElem_toArray]); (try simp only [List.getElem_cons_succ]); (try simp only [List.getElem_cons_zero])
      go_simp; refine hK _ ?_; clear hK K
      refine news_pure rfl ?_ ?_ (fun w0 => ?_) (fun K hK => ?_)
      · (try simp only [List.getElem_toArray]); (try simp only [List.getElem_cons_succ]); (try simp only [List.getElem_cons_zero])
        go_simp; done
      rotate_left
      · (try simp only [List.getElem_toArray]); (try simp only [List.getElem_cons_succ]); (try simp only [List.getElem_cons_zero])
        go_simp; with_reducible rfl
      (try simp only [List.getElem_toArray]); (try simp only [List.getElem_cons_succ]); (try simp only [List.getElem_cons_zero])
      go_simp; refine hK _ ?_; clear hK K
      refine news_nil ?_
      have hmE := Hm09.out.trans (hdc.trans hmd (fun _ _ h => h)) (fun _ _ h => h)
      have HmE := Lib.hid hmE
      clear hmE hd9 hda hdb hdc hma hmb hmc hmd ho1 ho2 ho3
      go_wp2_with fail
      go_ret
      exact ⟨rfl, HmE.out⟩
end Go.Proofs.YtloplmaekonenaaGreatDoor
