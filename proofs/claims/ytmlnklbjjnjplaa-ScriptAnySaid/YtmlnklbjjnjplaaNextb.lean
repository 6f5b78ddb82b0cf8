/-
  The next op of bytes.
-/
import Derived.Test.YtmlnklbjjnjplaaTake
import Derived.Test.YtmlnklbjjnjplaaCopy
namespace Go.Proofs.Ytmlnklbjjnjplaa
open Go.RowKit

/-- Where an op's lists lie. -/
structure Lie where
  ra : Option Addr
  rc : Nat
  ea : Option Addr
  ec : Nat
  fa : Option Addr
  fc : Nat
def opCells (o : PO) (y : Lie) : List Value :=
  [.int .i64 o.kind, .int .i64 o.ten, .string o.who] ++ (o.r.lies y.ra y.rc).cells ++ [.string o.esc, .slice y.ea o.es.length y.ec, .string o.fsc, .slice y.fa o.fs.length y.fc, .int .i64 o.sub, .int .i64 o.frm, .int .i64 o.to_]
theorem opCells_length (o : PO) (y : Lie) : (opCells o y).length = 18 := rfl
structure OpOwn (w : World) (B : Nat) (o : PO) (y : Lie) : Prop where
  r : OwnSl w 54 7 (.slice y.ra o.r.cs.length y.rc) o.r.cs.length (cnds o.r.cs)
  e : OwnSl w 77 6 (.slice y.ea o.es.length y.ec) o.es.length (atts o.es)
  f : OwnSl w 54 7 (.slice y.fa o.fs.length y.fc) o.fs.length (cnds o.fs)
  rb : ∀ b, (Value.slice y.ra o.r.cs.length y.rc).ownBlock = some b → B ≤ b
  eb : ∀ b, (Value.slice y.ea o.es.length y.ec).ownBlock = some b → B ≤ b
  fb : ∀ b, (Value.slice y.fa o.fs.length y.fc).ownBlock = some b → B ≤ b
theorem OpOwn.mod {w w' : World} {B : Nat} {F : Nat → Prop} {o : PO} {y : Lie} (h : OpOwn w B o y) (hm : Mod F w w') (hF : ∀ b, F b → b < B) : OpOwn w' B o y :=
  ⟨h.r.mod hm (fun b hb hf => by have := h.rb b hb; have := hF b hf; omega), h.e.mod hm (fun b hb hf => by have := h.eb b hb; have := hF b hf; omega), h.f.mod hm (fun b hb hf => by have := h.fb b hb; have := hF b hf; omega), h.rb, h.eb, h.fb⟩
theorem no_block (n c : Nat) : ∀ b, (Value.slice none n c).ownBlock = some b → False := fun b hb => by cases hb

/-- What next comes to. -/
def NextPost (w : World) (r G : Nat) (bs : List UInt8) (e : Ending) (w' : World) : Prop :=
  (readO bs = none ∧ e = .panicked short ∧ Mod (fun k => k = r) w w') ∨
  (∃ o ok t y, readO bs = some (o, ok, t) ∧ e = .returned (.tuple #[.agg (opCells o y).toArray, .bool ok]) ∧ OpOwn w' w.heap.size o y ∧ Rdr w' r G t ∧ Mod (fun k => k = r) w w')

end Go.Proofs.Ytmlnklbjjnjplaa
