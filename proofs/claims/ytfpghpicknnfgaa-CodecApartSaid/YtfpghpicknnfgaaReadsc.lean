/-
  CodecReads: what its calls read.
-/
import Derived.Test.YtfpghpicknnfgaaRead
import Derived.Test.YtfpghpicknnfgaaBack
namespace Go.Proofs.Ytfpghpicknnfgaa
open Go.RowKit

theorem long_fwd (x : Nat) (hx : x < 2 ^ 64) : longOf (longBytes x) = x := by
  simp only [longBytes, List.range_succ, List.range_zero, List.nil_append, List.cons_append, List.map_cons, List.map_nil, longOf, List.foldl_cons, List.foldl_nil]
  simp only [Nat.zero_mul, Nat.zero_add, Nat.sub_self, Nat.pow_zero, Nat.div_one, Nat.reduceSub, Nat.reducePow]
  have key : ∀ N : Nat, (byteOf (N : Int)).toNat = N % 256 := fun N => by
    have := byteOf_toNat (N : Int)
    rw [IntKind.wrap_u8] at this
    omega
  simp only [key]
  omega
theorem readT_fwd (s : ByteArray) (t : List UInt8) (hs : s.size ≤ 255) : readT ((byteOf s.size :: txt s) ++ t) = some (s, t) := by
  have h1 : (byteOf (s.size : Int)).toNat = s.size := by
    have := byteOf_toNat (s.size : Int)
    rw [IntKind.wrap_u8] at this
    omega
  show (if (byteOf (s.size : Int)).toNat ≤ (txt s ++ t).length then some (str ((txt s ++ t).take (byteOf (s.size : Int)).toNat), (txt s ++ t).drop (byteOf (s.size : Int)).toNat) else none) = _
  rw [h1, if_pos (by rw [List.length_append, txt_length]; omega), ← txt_length s, List.take_left, List.drop_left]
  rfl

/-- The bytes of numbers, each behind its place, from place i on. -/
def numBytes : Nat → List Nat → List UInt8
  | _, [] => []
  | i, x :: l => (longBytes x ++ [byteOf i]) ++ numBytes (i + 1) l
/-- A row of numbers that lie anywhere. -/
def Nums (w : World) (v : Value) (xs : List Nat) : Prop := ∃ a cap, v = .slice a xs.length cap ∧ (a = none → xs = []) ∧ ∀ b, a = some b → ∀ j x, xs[j]? = some x → w.cell? (b.add j) = some (.int .u64 (x : Nat)) ∧ x < 2 ^ 64

set_option maxRecDepth 20000 in
set_option maxHeartbeats 2000000 in
/-- The second call. -/
theorem reads2 (w : World) (r G kl : Nat) (v : Value) (xs : List Nat) (s : ByteArray) (t : List UInt8) (h : Rdr w r G ((numBytes 0 xs ++ (byteOf s.size :: txt s)) ++ t)) (hs : s.size ≤ 255) (hx : xs.length ≤ 30) (hb : ∀ x ∈ xs, x < 2 ^ 64)
    (hv : ∃ a cap, v = .slice a xs.length cap) (hl : w.heap[kl]? = some (.cells #[v] 32 (0, 0))) :
    Calls Try.prog 24 #[.pointer (some ⟨r, 0, none⟩), .pointer (some ⟨kl, 0, none⟩)] w fun e w' => e = .returned (.tuple #[]) ∧ Rdr w' r G t ∧ Mod (fun k => k = r) w w' := by
  obtain ⟨a, cap, rfl⟩ := hv
  have cl : w.cell? ⟨kl, 0, none⟩ = some (.slice a xs.length cap) := cell_of hl rfl
  have hx' : (xs.length : Int) ≤ 30 := by omega
  have H := Lib.hid h
  have Hb := Lib.hid hb
  clear h hb hl
  go_enter Try.func24, Try.ntmps24
  go_wp2_with fail
  go_loopw [5] (fun i wr => ∃ j : Nat, i = .int .i64 j ∧ j ≤ xs.length ∧ Rdr wr r G ((numBytes j (xs.drop j) ++ (byteOf s.size :: txt s)) ++ t) ∧ Mod (fun k => k = r) w wr) (fun i _ => xs.length - (intOf i).toNat)
  case atStart => exact ⟨0, rfl, Nat.zero_le _, H.out, Mod.refl _ _⟩
  case round =>
    obtain ⟨j, rfl, hj, hr, hm⟩ := hrel
    have Hm := Lib.hid hm
    by_cases hlt : j < xs.length
    · have hlt' : (j : Int) < xs.length := by omega
      obtain ⟨x, hxj⟩ : ∃ x, xs[j]? = some x := ⟨_, List.getElem?_eq_getElem hlt⟩
      have hd : xs.drop j = x :: xs.drop (j + 1) := by
        rw [List.drop_eq_getElem_cons hlt]
        congr 1
        exact (List.getElem?_eq_some_iff.1 hxj).2
      rw [hd] at hr
      have hr' : Rdr wr r G (longBytes x ++ (byteOf j :: ((numBytes (j + 1) (xs.drop (j + 1)) ++ (byteOf s.size :: txt s)) ++ t))) := by
        have e : (numBytes j (x :: xs.drop (j + 1)) ++ (byteOf s.size :: txt s)) ++ t = longBytes x ++ (byteOf j :: ((numBytes (j + 1) (xs.drop (j + 1)) ++ (byteOf s.size :: txt s)) ++ t)) := by simp [numBytes]
        rw [← e]; exact hr
      have Hl := Lib.hid (rd_long wr r G _ hr')
      clear hr hr' hm hd
      go_wp2_with fail
      refine Hl.out.mono ?_
      rintro e w2 (⟨h8, -⟩ | ⟨-, rfl, hr2, hm2⟩)
      · rw [List.length_append, longBytes_length] at h8; omega
      rw [List.drop_append_of_le_length (by rw [longBytes_length]; exact Nat.le_refl _), List.drop_of_length_le (by rw [longBytes_length]; exact Nat.le_refl _), List.nil_append] at hr2
      have Hy := Lib.hid (rd_byte w2 r G _ hr2)
      have Hm2 := Lib.hid (Hm.out.trans hm2 (fun _ _ h => h))
      clear hr2 hm2 Hl
      go_wp2_with fail
      refine Hy.out.mono ?_
      rintro e w3 (⟨h0, -⟩ | ⟨y, t', h0, rfl, hr3, hm3⟩)
      · cases h0
      simp only [List.cons.injEq] at h0
      obtain ⟨rfl, rfl⟩ := h0
      have Hr3 := Lib.hid hr3
      have Hm3 := Lib.hid (Hm2.out.trans hm3 (fun _ _ h => h))
      clear hr3 hm3 Hy
      go_wp2
      go_roundw
      case rel => exact ⟨j + 1, by go_num, hlt, Hr3.out, Hm3.out⟩
      case measure => simp [intOf]; omega
    · obtain rfl : j = xs.length := by omega
      rw [List.drop_length] at hr
      have Ht := Lib.hid (rd_text2 wr r G _ hr)
      clear hr hm
      go_wp2_with fail
      refine Ht.out.mono ?_
      have hf := readT_fwd s t hs
      rintro e w2 (⟨h0, -⟩ | ⟨s', t', h0, -, rfl, hr2, hm2⟩)
      · rw [show numBytes xs.length [] ++ byteOf s.size :: txt s ++ t = (byteOf s.size :: txt s) ++ t from rfl, hf] at h0
        cases h0
      · rw [show numBytes xs.length [] ++ byteOf s.size :: txt s ++ t = (byteOf s.size :: txt s) ++ t from rfl, hf] at h0
        cases h0
        have Hr2 := Lib.hid hr2
        have Hm2 := Lib.hid (Hm.out.trans hm2 (fun _ _ h => h))
        clear hr2 hm2 Ht hf
        go_wp2
        exact ⟨rfl, .tuple #[], by simp [results, Try.results24], rfl, Hr2.out, Hm2.out⟩

set_option maxRecDepth 20000 in
set_option maxHeartbeats 2000000 in
/-- The first call. -/
theorem reads1 (w : World) (r G kl kg ks km ke : Nat) (v : Value) (xs : List Nat) (s : ByteArray) (M : Nat) (h : Rdr w r G (numBytes 0 xs ++ (byteOf s.size :: txt s))) (hs : s.size ≤ 255) (hx : xs.length ≤ 30) (hM : M ≤ 3)
    (hv : Nums w v xs) (hvr : ∀ b, v.ownBlock = some b → b ≠ r ∧ b ≠ kg) (hl : w.heap[kl]? = some (.cells #[v] 32 (0, 0)))
    (hg : w.heap[kg]? = some (.cells #[.bool true] 4 (0, 0))) (hks : w.heap[ks]? = some (.cells #[.string s] 9 (0, 0))) (hkm : w.heap[km]? = some (.cells #[.int .i64 M] 3 (0, 0))) (hke : w.heap[ke]? = some (.cells #[.bool false] 4 (0, 0)))
    (n1 : kg ≠ r) (n2 : ks ≠ r) (n3 : km ≠ r) (n4 : ke ≠ r) (n5 : kg ≠ ks) (n6 : kg ≠ km) (n7 : kg ≠ ke) (n8 : G ≠ kg) (n9 : G ≠ ke) :
    Calls Try.prog 20 #[.pointer (some ⟨r, 0, none⟩), .pointer (some ⟨kl, 0, none⟩), .pointer (some ⟨kg, 0, none⟩), .pointer (some ⟨ks, 0, none⟩), .pointer (some ⟨km, 0, none⟩), .pointer (some ⟨ke, 0, none⟩)] w fun e w' =>
      Mod (fun k => k = r ∨ k = kg ∨ k = ke) w w' ∧ w'.heap[kg]? = some (.cells #[.bool true] 4 (0, 0)) ∧
        ((M ≠ 0 ∧ e = .panicked short ∧ w'.heap[ke]? = some (.cells #[.bool false] 4 (0, 0))) ∨ (M = 0 ∧ e = .returned (.tuple #[]) ∧ Rdr w' r G [] ∧ w'.heap[ke]? = some (.cells #[.bool true] 4 (0, 0)))) := by
  obtain ⟨a, cap, rfl, ha, hc⟩ := hv
  have cl : w.cell? ⟨kl, 0, none⟩ = some (.slice a xs.length cap) := cell_of hl rfl
  have hx' : (xs.length : Int) ≤ 30 := by omega
  have H := Lib.hid h
  have Hg := Lib.hid hg
  have Hks := Lib.hid hks
  have Hkm := Lib.hid hkm
  have Hke := Lib.hid hke
  have Ha := Lib.hid ha
  have Hc := Lib.hid hc
  have Hvr := Lib.hid hvr
  clear h hg hks hkm hke ha hc hvr hl
  go_enter Try.func20, Try.ntmps20
  go_wp2_with fail
  go_loopw [11] (fun i wr => ∃ j : Nat, i = .int .i64 j ∧ j ≤ xs.length ∧ Rdr wr r G (numBytes j (xs.drop j) ++ (byteOf s.size :: txt s)) ∧ Mod (fun k => k = r ∨ k = kg) w wr ∧ wr.heap[kg]? = some (.cells #[.bool true] 4 (0, 0))) (fun i _ => xs.length - (intOf i).toNat)
  case atStart => exact ⟨0, rfl, Nat.zero_le _, H.out, Mod.refl _ _, Hg.out⟩
  case round =>
    obtain ⟨j, rfl, hj, hr, hm, hgr⟩ := hrel
    have Hm := Lib.hid hm
    have Hgr := Lib.hid hgr
    by_cases hlt : j < xs.length
    · have hlt' : (j : Int) < xs.length := by omega
      obtain ⟨x, hxj⟩ : ∃ x, xs[j]? = some x := ⟨_, List.getElem?_eq_getElem hlt⟩
      obtain ⟨b, hab⟩ : ∃ b, a = some b := by
        cases a with
        | none => have := Ha.out rfl; subst this; simp at hlt
        | some b => exact ⟨b, rfl⟩
      subst hab
      obtain ⟨hcx, hxl⟩ := Hc.out b rfl j x hxj
      have hbn := Hvr.out b.block (by simp [Value.ownBlock])
      have cx : wr.cell? (b.add j) = some (.int .u64 (x : Nat)) := hm.cell hcx (by
        have : (b.add j).block = b.block := by unfold Addr.add; split <;> rfl
        rw [this]
        exact fun h => h.elim hbn.1 hbn.2)
      have hd : xs.drop j = x :: xs.drop (j + 1) := by
        rw [List.drop_eq_getElem_cons hlt]
        congr 1
        exact (List.getElem?_eq_some_iff.1 hxj).2
      rw [hd] at hr
      have hr' : Rdr wr r G (longBytes x ++ (byteOf j :: (numBytes (j + 1) (xs.drop (j + 1)) ++ (byteOf s.size :: txt s)))) := by
        have e : numBytes j (x :: xs.drop (j + 1)) ++ (byteOf s.size :: txt s) = longBytes x ++ (byteOf j :: (numBytes (j + 1) (xs.drop (j + 1)) ++ (byteOf s.size :: txt s))) := by simp [numBytes]
        rw [← e]; exact hr
      have Hl := Lib.hid (rd_long wr r G _ hr')
      have hjb : ((byteOf (j : Int)).toNat : Int) = j := by rw [byteOf_toNat, IntKind.wrap_u8]; omega
      have cg : wr.cell? ⟨kg, 0, none⟩ = some (.bool true) := cell_of hgr rfl
      have hxf := long_fwd x hxl
      have hjb' : (j : Int) ≤ 30 := by omega
      clear hr hr' hm hgr hd hcx
      go_wp2_with fail
      refine Hl.out.mono ?_
      rintro e w2 (⟨h8, -⟩ | ⟨-, rfl, hr2, hm2⟩)
      · rw [List.length_append, longBytes_length] at h8; omega
      rw [List.drop_append_of_le_length (by rw [longBytes_length]; exact Nat.le_refl _), List.drop_of_length_le (by rw [longBytes_length]; exact Nat.le_refl _), List.nil_append] at hr2
      rw [List.take_append_of_le_length (by rw [longBytes_length]; exact Nat.le_refl _), List.take_of_length_le (by rw [longBytes_length]; exact Nat.le_refl _), hxf]
      have Hy := Lib.hid (rd_byte w2 r G _ hr2)
      have Hm2 := Lib.hid (Hm.out.trans hm2 (fun _ _ h => .inl h))
      have Hg2 := Lib.hid (hm2.heap Hgr.out n1)
      clear hr2 hm2 Hl
      go_wp2_with fail
      refine Hy.out.mono ?_
      rintro e w3 (⟨h0, -⟩ | ⟨y, t', h0, rfl, hr3, hm3⟩)
      · cases h0
      simp only [List.cons.injEq] at h0
      obtain ⟨rfl, rfl⟩ := h0
      rw [hjb]
      have Hr3 := Lib.hid hr3
      have Hm3 := Lib.hid (Hm2.out.trans hm3 (fun _ _ h => .inl h))
      have hg3 := hm3.heap Hg2.out n1
      have fg : w3.frozen? ⟨kg, 0, none⟩ = false := fr_of hg3
      have cg3 : w3.cell? ⟨kg, 0, none⟩ = some (.bool true) := cell_of hg3 rfl
      have Hg3 := Lib.hid hg3
      clear hr3 hm3 hg3 Hy
      go_wp2_with fail
      go_roundw
      case rel =>
        have hms : Mod (fun k => k = kg) w3 (w3.setCell ⟨kg, 0, none⟩ (.bool true)) := (Mod.refl (fun k => k = kg) w3).setCell (fun _ => rfl) _
        exact ⟨j + 1, by go_num, hlt, Hr3.out.mod hms (fun h => n1 h.symm) (fun _ => n8), Hm3.out.trans hms (fun _ _ h => .inr h), heap_set Hg3.out⟩
      case measure => simp [intOf]; omega
    · obtain rfl : j = xs.length := by omega
      rw [List.drop_length] at hr
      have hr' : Rdr wr.drew r G ((byteOf s.size :: txt s) ++ []) := by
        rw [List.append_nil]
        exact hr.mod ((Mod.refl (fun _ => False) wr).drew) (fun h => h) (fun _ h => h)
      have Ht := Lib.hid (rd_text2 wr.drew r G _ hr')
      have hf := readT_fwd s [] hs
      have cg : wr.drew.cell? ⟨kg, 0, none⟩ = some (.bool true) := cell_of (heap_drew_ hgr) rfl
      have cks : wr.drew.cell? ⟨ks, 0, none⟩ = some (.string s) := cell_of (heap_drew_ (hm.heap Hks.out (by omega))) rfl
      have hS : (fun y : World => y.cell? ⟨kg, 0, none⟩ = some (.bool true) ∧ y.cell? ⟨ks, 0, none⟩ = some (.string s)) wr.drew := ⟨cg, cks⟩
      clear hr hm hr' cg cks hgr
      go_wp2_with fail
      refine wp_region_script [.rd 0, .rd 1, .rd 2, .rd 4, .go 3, .go 5, .go 6, .go 7] [0, 1, 2, 3, 4] (fun y : World => y.cell? ⟨kg, 0, none⟩ = some (.bool true) ∧ y.cell? ⟨ks, 0, none⟩ = some (.string s)) (by kernel_rfl) (by kernel_rfl) (fun _ _ d _ _ h => (by cases d <;> exact h)) ?_
      refine walk_rd rfl ?_ (fun _ => hS) ?_ (fun w0 h0 => ?_) (fun K hK => ?_)
      · try simp only [List.getElem_toArray, List.getElem_cons_succ, List.getElem_cons_zero]
        go_simp; done
      rotate_left
      · try simp only [List.getElem_toArray, List.getElem_cons_succ, List.getElem_cons_zero]
        first
          | (obtain ⟨h1, h2⟩ := h0 rfl; clear h0; go_simp; with_reducible rfl)
          | (clear h0; go_simp; with_reducible rfl)
      try simp only [List.getElem_toArray, List.getElem_cons_succ, List.getElem_cons_zero]
      go_simp; refine hK _ ?_; clear hK K
      refine walk_rd rfl ?_ (fun _ => hS) ?_ (fun w0 h0 => ?_) (fun K hK => ?_)
      · try simp only [List.getElem_toArray, List.getElem_cons_succ, List.getElem_cons_zero]
        go_simp; done
      rotate_left
      · try simp only [List.getElem_toArray, List.getElem_cons_succ, List.getElem_cons_zero]
        first
          | (obtain ⟨h1, h2⟩ := h0 rfl; clear h0; go_simp; with_reducible rfl)
          | (clear h0; go_simp; with_reducible rfl)
      try simp only [List.getElem_toArray, List.getElem_cons_succ, List.getElem_cons_zero]
      go_simp; refine hK _ ?_; clear hK K
      refine walk_rd rfl ?_ (fun _ => hS) ?_ (fun w0 h0 => ?_) (fun K hK => ?_)
      · try simp only [List.getElem_toArray, List.getElem_cons_succ, List.getElem_cons_zero]
        go_simp; done
      rotate_left
      · try simp only [List.getElem_toArray, List.getElem_cons_succ, List.getElem_cons_zero]
        first
          | (obtain ⟨h1, h2⟩ := h0 rfl; clear h0; go_simp; with_reducible rfl)
          | (clear h0; go_simp; with_reducible rfl)
      try simp only [List.getElem_toArray, List.getElem_cons_succ, List.getElem_cons_zero]
      go_simp; refine hK _ ?_; clear hK K
      refine walk_rd rfl ?_ (fun _ => hS) ?_ (fun w0 h0 => ?_) (fun K hK => ?_)
      · try simp only [List.getElem_toArray, List.getElem_cons_succ, List.getElem_cons_zero]
        go_simp; done
      rotate_left
      · try simp only [List.getElem_toArray, List.getElem_cons_succ, List.getElem_cons_zero]
        first
          | (obtain ⟨h1, h2⟩ := h0 rfl; clear h0; go_simp; with_reducible rfl)
          | (clear h0; go_simp; with_reducible rfl)
      try simp only [List.getElem_toArray, List.getElem_cons_succ, List.getElem_cons_zero]
      go_simp; refine hK _ ?_; clear hK K
      refine walk_one (go_yes rfl ?_ (fun K hK => ?_))
      · try simp only [List.getElem_toArray, List.getElem_cons_succ, List.getElem_cons_zero]
        go_simp; done
      go_wp2_with fail
      refine Ht.out.mono ?_
      rintro e w2 (⟨h0, -⟩ | ⟨s', t', h0, -, rfl, hr2, hm2⟩)
      · rw [hf] at h0; cases h0
      rw [hf] at h0
      cases h0
      have hm02 : Mod (fun k => k = r ∨ k = kg) w w2 := Hm.out.trans ((Mod.refl _ wr).drew.trans hm2 (fun _ _ h => h)) (fun _ _ h => .inl h)
      have hg2 := hm2.heap (heap_drew_ Hgr.out) n1
      refine hK _ _ (fun _ _ => ⟨cell_of hg2 rfl, cell_of (hm02.heap Hks.out (by omega)) rfl⟩) ?_
      clear hK K hS
      have cg2 : w2.cell? ⟨kg, 0, none⟩ = some (.bool true) := cell_of hg2 rfl
      have fg2 : w2.frozen? ⟨kg, 0, none⟩ = false := fr_of hg2
      have Hr2 := Lib.hid hr2
      have Hm2 := Lib.hid hm02
      have Hg2 := Lib.hid hg2
      clear hr2 hm2 hm02 hg2 hf Ht
      refine walk_one (go_yes rfl ?_ (fun K hK => ?_))
      · try simp only [List.getElem_toArray, List.getElem_cons_succ, List.getElem_cons_zero]
        go_simp; done
      try simp only [List.getElem_toArray, List.getElem_cons_succ, List.getElem_cons_zero]
      go_simp
      refine hK _ _ (fun h => absurd h (by decide)) ?_
      clear hK K
      refine walk_one (go_yes rfl ?_ (fun K hK => ?_))
      · try simp only [List.getElem_toArray, List.getElem_cons_succ, List.getElem_cons_zero]
        go_simp; done
      try simp only [List.getElem_toArray, List.getElem_cons_succ, List.getElem_cons_zero]
      go_simp
      refine hK _ _ (fun h => absurd h (by decide)) ?_
      clear hK K
      refine walk_one (go_yes rfl ?_ (fun K hK => ?_))
      · try simp only [List.getElem_toArray, List.getElem_cons_succ, List.getElem_cons_zero]
        go_simp; done
      try simp only [List.getElem_toArray, List.getElem_cons_succ, List.getElem_cons_zero]
      go_simp
      refine hK _ _ (fun h => absurd h (by decide)) ?_
      clear hK K
      refine walk_nil ?_
      have hms : Mod (fun k => k = kg) w2 (w2.setCell ⟨kg, 0, none⟩ (.bool true)) := (Mod.refl (fun k => k = kg) w2).setCell (fun _ => rfl) _
      obtain ⟨w5, hw5⟩ : ∃ w5, w2.setCell ⟨kg, 0, none⟩ (.bool true) = w5 := ⟨_, rfl⟩
      have hg5 : w5.heap[kg]? = some (.cells #[.bool true] 4 (0, 0)) := hw5 ▸ heap_set Hg2.out
      rw [hw5] at hms
      have hm5 : Mod (fun k => k = r ∨ k = kg) w w5 := Hm2.out.trans hms (fun _ _ h => .inr h)
      have hr5 := Hr2.out.mod hms (fun h => n1 h.symm) (fun _ => n8)
      have hke5 := hm5.heap Hke.out (by omega)
      have cm : w5.cell? ⟨km, 0, none⟩ = some (.int .i64 M) := cell_of (hm5.heap Hkm.out (by omega)) rfl
      have Hg5 := Lib.hid hg5
      have Hm5 := Lib.hid hm5
      have Hr5 := Lib.hid hr5
      have Hke5 := Lib.hid hke5
      clear hg5 hm5 hr5 hke5 hms cg2 fg2
      go_wp2_with (first | (rw [hw5]) | fail)
      go_loopw [38] (fun i wr => i = .int .i64 0 ∧ wr = w5) (fun _ _ => 0)
      case atStart => exact ⟨rfl, rfl⟩
      case round =>
        obtain ⟨rfl, rfl⟩ := hrel
        rcases Nat.eq_zero_or_pos M with hM0 | hM0
        · subst hM0
          have ce : wr.cell? ⟨ke, 0, none⟩ = some (.bool false) := cell_of Hke5.out rfl
          have fe : wr.frozen? ⟨ke, 0, none⟩ = false := fr_of Hke5.out
          have hme : Mod (fun k => k = ke) wr (wr.setCell ⟨ke, 0, none⟩ (.bool true)) := (Mod.refl (fun k => k = ke) wr).setCell (fun _ => rfl) _
          have Hme := Lib.hid hme
          clear hme
          go_wp2
          exact ⟨rfl, .tuple #[], by simp [results, Try.results20], (Hm5.out.mono (fun _ _ h => h.imp id .inl)).trans Hme.out (fun _ _ h => .inr (.inr h)), Hme.out.heap Hg5.out n7, rfl, Hr5.out.mod Hme.out (fun h => n4 h.symm) (fun _ => n9), heap_set Hke5.out⟩
        · have hM' : (0 : Int) < M := by omega
          have Hy := Lib.hid (rd_byte wr r G [] Hr5.out)
          go_wp2_with fail
          refine Hy.out.mono ?_
          rintro e w6 (⟨-, rfl, rfl⟩ | ⟨y, t', h0, -⟩)
          rotate_left
          · cases h0
          exact ⟨rfl, Hm5.out.mono (fun _ _ h => h.imp id .inl), Hg5.out, .inl ⟨by omega, rfl, Hke5.out⟩⟩

/-- The third call. -/
theorem reads3 (w : World) (r : Nat) : Calls Try.prog 25 #[.pointer (some ⟨r, 0, none⟩)] w fun e w' => e = .returned (.tuple #[]) ∧ w' = w := by
  go_enter Try.func25, Try.ntmps25
  go_wp2
  exact ⟨rfl, .tuple #[], by simp [results, Try.results25], rfl, rfl⟩

theorem numBytes_snoc : ∀ (l : List Nat) (i x : Nat), numBytes i (l ++ [x]) = numBytes i l ++ (longBytes x ++ [byteOf ((i + l.length : Nat) : Int)])
  | [], i, x => by simp [numBytes]
  | y :: l, i, x => by
    rw [List.cons_append, numBytes, numBytes_snoc l (i + 1) x, numBytes]
    simp only [List.append_assoc, List.length_cons]
    rw [show i + 1 + l.length = i + (l.length + 1) by omega]
theorem numBytes_length : ∀ (l : List Nat) (i : Nat), (numBytes i l).length = 9 * l.length
  | [], i => rfl
  | x :: l, i => by
    rw [numBytes, List.length_append, List.length_append, longBytes_length, numBytes_length l (i + 1)]
    simp only [List.length_cons, List.length_nil]
    omega

/-- Bytes that are owned, where there are any. -/
theorem own_bytes {w : World} {v : Value} {bs : List UInt8} (h : OwnSl w 5 1 v bs.length (u8s bs)) (hne : bs ≠ []) : ∃ G, v.ownBlock = some G ∧ BytesAt w G v bs ∧ G < w.heap.size := by
  have hlt := h.lt
  have hrd := h.rd
  rcases h.2 with ⟨rfl, h0⟩ | ⟨g, off, cap, cur, hv, hg, hn, -⟩
  · exact absurd (List.eq_nil_of_length_eq_zero h0) hne
  · obtain ⟨-, a, c, h1, h2, h3, h4⟩ := hrd
    rw [hv] at h1
    cases h1
    obtain ⟨g', off', h5, h6⟩ := h4 _ rfl
    cases h5
    refine ⟨g, by rw [hv]; rfl, ⟨_, cap, hv, hn, (fun h => by cases h), fun b hb => ⟨off, (by cases hb; rfl), (Array.getElem?_eq_some_iff.1 hg).1, fun j u hu => h6 j _ (by simp [u8s, hu])⟩⟩, (Array.getElem?_eq_some_iff.1 hg).1⟩
end Go.Proofs.Ytfpghpicknnfgaa
