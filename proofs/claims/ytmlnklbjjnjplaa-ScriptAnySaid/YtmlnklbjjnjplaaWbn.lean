/-
  The Writer's Byte, of any numbers; its Bytes.
-/
import Derived.Test.YtmlnklbjjnjplaaWrite
namespace Go.Proofs.Ytmlnklbjjnjplaa
open Go.RowKit

def nums (l : List Int) : List Value := l.map (Value.int .i64)

set_option maxRecDepth 20000 in
set_option maxHeartbeats 1000000 in
theorem wr_byten (w : World) (p : Nat) (v : Value) (bs : List UInt8) (h : Wtr w p v bs) (hl : bs.length ≤ 9000000) (xs : List Int) (hx : xs.length ≤ 10) (g : Nat) (hg : CellsAt w g 0 (nums xs)) (hgp : g ≠ p) (hgv : ¬ inBlock v g) :
    Calls Try.prog 23 #[.pointer (some ⟨p, 0, none⟩), .slice (some ⟨g, 0, none⟩) xs.length xs.length] w fun e w' => e = .returned (.pointer (some ⟨p, 0, none⟩)) ∧ ∃ v', Wtr w' p v' (bs ++ xs.map byteOf) ∧ Wrote w p v w' v' := by
  have hx' : (xs.length : Int) ≤ 10 := by omega
  have H := Lib.hid h
  have Hl := Lib.hid hl
  have Hg := Lib.hid hg
  have Hgp := Lib.hid hgp
  have Hgv := Lib.hid hgv
  clear h hl hg hgp hgv
  go_enter Try.func23, Try.ntmps23
  go_wp2_with fail
  go_loopw [9] (fun i wr => ∃ (k : Nat) (v' : Value), i = .int .i64 k ∧ k ≤ xs.length ∧ Wtr wr p v' (bs ++ (xs.take k).map byteOf) ∧ Wrote w p v wr v') (fun i _ => xs.length - (intOf i).toNat)
  case atStart => exact ⟨0, v, rfl, Nat.zero_le _, by simpa using H.out, Wrote.refl _ _ _⟩
  case round =>
    obtain ⟨k, v2, rfl, hk, hw, hwr⟩ := hrel
    by_cases hlt : k < xs.length
    · have hlt' : (k : Int) < xs.length := by omega
      obtain ⟨x, hxk⟩ : ∃ x, xs[k]? = some x := ⟨_, List.getElem?_eq_getElem hlt⟩
      have cx : wr.cell? ⟨g, k, none⟩ = some (.int .i64 x) := by
        have := hwr.mod.cell (Hg.out k (.int .i64 x) (by simp [nums, hxk])) (fun hh => hh.elim Hgp.out Hgv.out)
        rw [Nat.zero_add] at this
        exact this
      have c0 : wr.cell? ⟨p, 0, none⟩ = some v2 := cell_of hw.row rfl
      obtain ⟨bs2, hbs2⟩ : ∃ b, bs ++ (xs.take k).map byteOf = b := ⟨_, rfl⟩
      rw [hbs2] at hw
      have hbl : bs2.length ≤ 9000010 := by rw [← hbs2, List.length_append, List.length_map, List.length_take]; have := Hl.out; omega
      have hnext : bs2 ++ [byteOf x] = bs ++ (xs.take (k + 1)).map byteOf := by rw [← hbs2, List.take_add_one, hxk]; simp
      have hone : ∀ u ∈ u8s [byteOf x], u.oneCell' = true := fun u hu => by
        simp only [u8s, List.map_cons, List.map_nil, List.mem_singleton] at hu
        subst hu; rfl
      have Hone := Lib.hid hone
      obtain ⟨z, hz⟩ : ∃ z, IntKind.u8.wrap x = z := ⟨_, rfl⟩
      have hcs : u8s [byteOf x] = [.int .u8 z] := by simp [u8s, byteOf_toNat, hz]
      have Hcs := Lib.hid hcs
      obtain ⟨va, vc, hv, -⟩ := hw.own.shape
      subst hv
      have Hw := Lib.hid hw
      have Hwr := Lib.hid hwr
      have Hbl := Lib.hid hbl
      have Hnext := Lib.hid hnext
      clear hone hcs hw hwr hbl hnext hbs2 hxk
      go_wp2_with (first | (refine wpList_append_sl rfl (.tmp 17) (.tmp 20) 22 rfl 5 1 1 bytes_T (.slice va bs2.length vc) bs2.length (u8s bs2) rfl (Hw.out.own.alloc _) _ 1 (u8s [byteOf x]) rfl (by rw [Hcs.out]; exact RdSl.one _ _ _ rfl) Hone.out (by have := Hbl.out; omega) (by have := Hbl.out; unfold maxLen; omega) ?_; intro ad cap w5 hA; have HAp := Lib.hid hA; have hp5 := hA.2.1.heap (heap_old Hw.out.row) (fun hb => Hw.out.ne p hb rfl); have k5 : w5.cell? ⟨p, 0, none⟩ = some (.slice va bs2.length vc) := cell_of hp5 rfl; have f5 : w5.frozen? ⟨p, 0, none⟩ = false := fr_of hp5; clear hA hp5) | fail)
      go_roundw
      case rel =>
        have hA := HAp.out
        have hap : u8s bs2 ++ u8s [byteOf x] = u8s (bs2 ++ [byteOf x]) := by simp [u8s]
        rw [hap] at hA
        obtain ⟨hw6, hwr6⟩ := Hw.out.put ((Mod.refl _ _).alloc _) (by simp) hA rfl
        exact ⟨k + 1, _, by go_num, hlt, Hnext.out ▸ hw6, Hwr.out.trans hwr6⟩
      case measure => simp [intOf]; omega
    · obtain rfl : xs.length = k := by omega
      rw [List.take_length] at hw
      have Hw := Lib.hid hw
      have Hwr := Lib.hid hwr
      clear hw hwr
      go_wp2
      go_ret
      exact ⟨rfl, v2, Hw.out, Hwr.out⟩
end Go.Proofs.Ytmlnklbjjnjplaa
