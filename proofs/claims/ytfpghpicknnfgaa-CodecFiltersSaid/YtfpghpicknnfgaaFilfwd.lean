/-
  A filter's bytes are read back: its conditions' values as they are kept.
-/
import Derived.Test.YtfpghpicknnfgaaRdfil
import Derived.Test.YtfpghpicknnfgaaFwd
namespace Go.Proofs.Ytfpghpicknnfgaa
open Go.RowKit

/-- A condition whose bytes tell it. -/
structure Cnd.tells (c : Cnd) : Prop where
  name : c.name.size ≤ 255
  op : 0 ≤ c.op ∧ c.op ≤ 255
  v : c.v.fits
def Cnd.canon (c : Cnd) : Cnd := ⟨c.name, c.op, c.v.canon⟩

theorem readCnds_fwd : ∀ (l : List Cnd) (t : List UInt8), (∀ c ∈ l, c.tells) → readCnds l.length (l.flatMap cndBytes ++ t) = some (l.map Cnd.canon, t)
  | [], t, _ => rfl
  | c :: l, t, h => by
    have hc := h c (by simp)
    have ih := readCnds_fwd l t (fun d hd => h d (by simp [hd]))
    rw [List.length_cons, readCnds_succ, List.flatMap_cons]
    have e : cndBytes c ++ l.flatMap cndBytes ++ t = (byteOf c.name.size :: txt c.name) ++ (byteOf c.op :: (valBytes c.v ++ (l.flatMap cndBytes ++ t))) := by simp [cndBytes]
    rw [e, readT_fwd c.name _ hc.name]
    simp only [Option.bind_some]
    rw [readV_fwd c.v _ hc.v]
    simp only [Option.bind_some]
    rw [ih]
    have ho : ((byteOf c.op).toNat : Int) = c.op := by
      rw [byteOf_toNat, IntKind.wrap_u8]
      have := hc.op
      omega
    simp only [Option.map_some, List.map_cons, ho]
    rfl

theorem readF_fwd (sc : ByteArray) (l : List Cnd) (t : List UInt8) (hs : sc.size ≤ 255) (hl : l.length ≤ 255) (h : ∀ c ∈ l, c.tells) : readF (filBytes sc l ++ t) = some ((sc, l.map Cnd.canon), t) := by
  have e : filBytes sc l ++ t = (byteOf sc.size :: txt sc) ++ (byteOf l.length :: (l.flatMap cndBytes ++ t)) := by simp [filBytes]
  unfold readF
  rw [e, readT_fwd sc _ hs]
  show ((readCnds (byteOf (l.length : Int)).toNat (l.flatMap cndBytes ++ t)).bind fun z => some ((sc, z.1), z.2)) = _
  rw [byteOf_nat l.length hl, readCnds_fwd l t h]
  rfl
end Go.Proofs.Ytfpghpicknnfgaa
