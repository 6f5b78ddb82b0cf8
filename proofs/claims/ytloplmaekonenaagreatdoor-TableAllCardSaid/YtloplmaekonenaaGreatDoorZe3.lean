/-
  Package codec, the Reader: bytes that lie anywhere, read from the front.
  Package order over the bits of floats.
  Structs in whole rows: a store into a row, a result that lies in a variable.
-/
import Derived.Test.YtloplmaekonenaaGreatDoorProg
import Derived.Test.YtloplmaekonenaaGreatDoorZe2
import Derived.WalkSpells
import Derived.Handy
import Derived.WalkLawsBesides
import Derived.BigRegion
import Derived.BigQuiet
import Derived.Lib.Hide
import Derived.Laws.BytesArg
import Derived.Laws.Bits128
import Derived.Laws.Externs
import Derived.WalkKit
import Derived.Laws.Tables
namespace Go.Proofs.YtloplmaekonenaaGreatDoor
set_option maxRecDepth 20000
open Go.RowKit

/-- Bytes as cells. -/
def u8s (bs : List UInt8) : List Value := bs.map fun b => .int .u8 (b.toNat : Int)
theorem u8s_length (bs : List UInt8) : (u8s bs).length = bs.length := by simp [u8s]

/-- v reads as these bytes, in block G where there are any. -/
structure BytesAt (w : World) (G : Nat) (v : Value) (bs : List UInt8) : Prop where
  ex : ∃ a cap, v = .slice a bs.length cap ∧ bs.length ≤ cap ∧ (a = none → cap = 0) ∧ ∀ b, a = some b → ∃ off, b = ⟨G, off, none⟩ ∧ G < w.heap.size ∧ ∀ j (u : UInt8), bs[j]? = some u → w.cell? ⟨G, off + j, none⟩ = some (.int .u8 (u.toNat : Int))

/-- A reader. -/
structure Rdr (w : World) (r G : Nat) (bs : List UInt8) : Prop where
  ne : G ≠ r
  ex : ∃ v, w.heap[r]? = some (.cells #[v] 163 (0, 0)) ∧ BytesAt w G v bs

section
variable {w w' : World} {r G : Nat} {bs : List UInt8} {v : Value}
theorem BytesAt.mod {F : Nat → Prop} (h : BytesAt w G v bs) (hm : Mod F w w') (hG : G < w.heap.size → ¬ F G) : BytesAt w' G v bs := by
  obtain ⟨a, cap, h1, h2, h3, h4⟩ := h.ex
  refine ⟨a, cap, h1, h2, h3, fun b hb => ?_⟩
  obtain ⟨off, h5, h6, h7⟩ := h4 b hb
  exact ⟨off, h5, Nat.lt_of_lt_of_le h6 hm.size, fun j u hu => hm.cell (h7 j u hu) (hG h6)⟩
theorem Rdr.mod {F : Nat → Prop} (h : Rdr w r G bs) (hm : Mod F w w') (hr : ¬ F r) (hG : G < w.heap.size → ¬ F G) : Rdr w' r G bs := by
  obtain ⟨v, h1, h2⟩ := h.ex
  exact ⟨h.ne, v, hm.heap h1 hr, h2.mod hm hG⟩

theorem Rdr.lt (h : Rdr w r G bs) : r < w.heap.size := by
  obtain ⟨v, h1, -⟩ := h.ex
  exact (Array.getElem?_eq_some_iff.1 h1).1
/-- Blocks that are newer than the reader play no part. -/
theorem Rdr.new {F : Nat → Prop} {B : Nat} (h : Rdr w r G bs) (hm : Mod F w w') (hr : r < B) (hG : G < B) (hF : ∀ k, F k → B ≤ k) : Rdr w' r G bs :=
  h.mod hm (fun hk => by have := hF r hk; omega) (fun _ hk => by have := hF G hk; omega)

/-- Without its first n bytes. -/
theorem BytesAt.drop {a : Option Addr} {cap : Nat} (h : BytesAt w G (.slice a bs.length cap) bs) {n : Nat} (hn : n ≤ bs.length) {off : Nat} (ha : a = some ⟨G, off, none⟩) :
    BytesAt w G (.slice (some ⟨G, if cap = n then off else off + n, none⟩) (bs.length - n) (cap - n)) (bs.drop n) := by
  obtain ⟨a', cap', h1, h2, h3, h4⟩ := h.ex
  cases h1
  subst ha
  refine ⟨_, cap - n, by rw [List.length_drop], by rw [List.length_drop]; omega, fun h => (by cases h), fun b hb => ?_⟩
  obtain ⟨off', h5, h6, h7⟩ := h4 _ rfl
  cases h5
  cases hb
  refine ⟨_, rfl, h6, fun j u hu => ?_⟩
  rw [List.getElem?_drop] at hu
  have hj := (List.getElem?_eq_some_iff.1 hu).1
  rw [if_neg (by omega), Nat.add_assoc]
  exact h7 _ _ hu
end

theorem Rdr.next {w : World} {r G : Nat} {bs : List UInt8} (h : Rdr w r G bs) {off cap : Nat} (hr : w.heap[r]? = some (.cells #[.slice (some ⟨G, off, none⟩) bs.length cap] 163 (0, 0))) {n : Nat} (hn : n ≤ bs.length) :
    Rdr (w.setCell ⟨r, 0, none⟩ (.slice (some ⟨G, if cap = n then off else off + n, none⟩) (bs.length - n) (cap - n))) r G (bs.drop n) ∧ Mod (fun k => k = r) w (w.setCell ⟨r, 0, none⟩ (.slice (some ⟨G, if cap = n then off else off + n, none⟩) (bs.length - n) (cap - n))) := by
  obtain ⟨v, hr', hb⟩ := h.ex
  rw [hr] at hr'
  cases hr'
  have hm : Mod (fun k => k = r) w (w.setCell ⟨r, 0, none⟩ (.slice (some ⟨G, if cap = n then off else off + n, none⟩) (bs.length - n) (cap - n))) := (Mod.refl (fun k => k = r) w).setCell (fun _ => rfl) _
  exact ⟨⟨h.ne, _, heap_set hr, (hb.drop hn rfl).mod hm (fun _ => h.ne)⟩, hm⟩

/-- Eight bytes as a number, the highest first. -/
def longOf (l : List UInt8) : Nat := l.foldl (fun x b => x * 256 + b.toNat) 0
/-- Bytes as a text. -/
def str (bs : List UInt8) : ByteArray := ⟨bs.toArray⟩
theorem str_nums (bs : List UInt8) : strOfNums (bs.map fun b => (b.toNat : Int)) = str bs := by
  unfold strOfNums str
  congr 1
  apply congrArg
  rw [List.map_map]
  conv => rhs; rw [← List.map_id bs]
  exact List.map_congr_left fun b _ => by simp

theorem conv_bytes {w : World} {G off n cap : Nat} {bs : List UInt8} (hn : bs.length = n) (hc : ∀ j (u : UInt8), bs[j]? = some u → w.cell? ⟨G, off + j, none⟩ = some (.int .u8 (u.toNat : Int))) :
    (convert 69 9 (.slice (some ⟨G, off, none⟩) n cap)).run Tryz.prog w = .ok (.string (str bs)) w := by
  rw [← str_nums]
  refine run_convert_bytes_arg w 69 5 Tryz.underlying69 Tryz.underlying5 G off n cap _ (by simpa using hn) (fun i hi => ?_) 9 Tryz.underlying9
  have hb : bs[i]? = some bs[i] := List.getElem?_eq_getElem (by omega)
  rw [hc i _ hb]
  simp [List.getD, hb]
theorem conv_nil {w : World} {n cap : Nat} : (convert 69 9 (.slice none n cap)).run Tryz.prog w = .ok (.string (str [])) w :=
  run_convert_bytes_nil w 69 5 Tryz.underlying69 Tryz.underlying5 n cap 9 Tryz.underlying9

end Go.Proofs.YtloplmaekonenaaGreatDoor

namespace Go.Proofs.YtloplmaekonenaaGreatDoor
set_option maxRecDepth 20000
open Go.RowKit

/-- Of two words of eight bytes: are they equal as numbers? -/
def fEq (x y : Nat) : Bool := FloatKind.f64.format.order x y == some .eq
def fLt (x y : Nat) : Bool := FloatKind.f64.format.order x y == some .lt
def nanB : Nat := 9221120237041090561
def canonB (x : Nat) : Nat := if fEq x x then (if fEq x 0 then 0 else x) else nanB
def keyB (x : Nat) : Nat := if fEq (canonB x) (canonB x) then (if canonB x < 2 ^ 63 then canonB x + 2 ^ 63 else 2 ^ 64 - 1 - canonB x) else 2 ^ 64 - 1
def unkeyB (k : Nat) : Nat := if k < 2 ^ 63 then 2 ^ 64 - 1 - k else k - 2 ^ 63
/-- The number of a key, and whether there is one. -/
def backB (k : Nat) : Nat × Bool := if k = 2 ^ 64 - 1 then (nanB, true) else if fEq (unkeyB k) (unkeyB k) && keyB (unkeyB k) == k then (unkeyB k, true) else (0, false)

theorem float_neq (t : TypeId) (x y : Nat) (w : World) : (binOp .neq t (.float .f64 x) (.float .f64 y)).run Tryz.prog w = .ok (.bool (!fEq x y)) w := by
  simp [binOp, Op.floatCmp, fEq, bne]
@[go_sem high] theorem shr63 (x : Int) : Op.shift .shr .u64 x .u64 63 = pure (.int .u64 (x / 9223372036854775808)) := by
  have h : (2 : Int) ^ min (63 : Int).toNat IntKind.u64.bits = 9223372036854775808 := by decide
  rw [shift_shr_any _ _ _ _ (by decide), h]

@[go_sem high] theorem not64 (n : Int) : Op.unary .xor (.int .u64 n) = pure (.int .u64 (bits .xor .u64 18446744073709551615 n)) := by
  rw [unary_xor]
  rfl

theorem ofInt64 {a : Nat} (h : a < 2 ^ 64) : (BitVec.ofInt 64 (a : Int)).toNat = a := by rw [BitVec.toNat_ofInt]; omega
theorem u64_not {a : Nat} (ha : a < 2 ^ 64) : bits .xor .u64 18446744073709551615 (a : Int) = ((2 ^ 64 - 1 - a : Nat) : Int) := by
  show IntKind.u64.wrap ((BitVec.ofInt 64 18446744073709551615 ^^^ BitVec.ofInt 64 (a : Int)).toNat : Int) = _
  have h1 : BitVec.ofInt 64 18446744073709551615 = BitVec.allOnes 64 := by decide
  rw [h1, BitVec.allOnes_xor, BitVec.toNat_not, ofInt64 ha, IntKind.wrap_u64]
  omega
theorem u64_or63 {a : Nat} (ha : a < 2 ^ 63) : bits .or .u64 (a : Int) 9223372036854775808 = ((a + 2 ^ 63 : Nat) : Int) := by
  have h2 : (BitVec.ofInt 64 9223372036854775808).toNat = 2 ^ 63 * 1 := by decide
  have key : (BitVec.ofInt 64 (a : Int) ||| BitVec.ofInt 64 9223372036854775808).toNat = a + 2 ^ 63 := by
    rw [BitVec.toNat_or, h2, ofInt64 (by omega), Nat.or_comm, ← Nat.two_pow_add_eq_or_of_lt ha]
    omega
  show IntKind.u64.wrap ((BitVec.ofInt 64 (a : Int) ||| BitVec.ofInt 64 9223372036854775808).toNat : Int) = _
  rw [key, IntKind.wrap_u64]
  omega
theorem call_frombits (n : Int) (w : World) : (callFunc 190 #[.int .u64 n]).run Tryz.prog w = .ok (.value (.float .f64 n.toNat)) w := by
  rw [run_callFunc_extern Tryz.func190 (by kernel_rfl) (by kernel_rfl) (by kernel_rfl) (e := Extern.MathFloatBits.float64frombits) (by kernel_rfl) _ w]
  rfl
theorem call_bits (x : Nat) (w : World) : (callFunc 215 #[.float .f64 x]).run Tryz.prog w = .ok (.value (.int .u64 x)) w := by
  rw [run_callFunc_extern Tryz.func215 (by kernel_rfl) (by kernel_rfl) (by kernel_rfl) (e := Extern.MathFloatBits.float64bits) (by kernel_rfl) _ w]
  rfl

theorem nan_at (w : World) : Calls Tryz.prog 147 #[] w fun e w' => e = .returned (.float .f64 nanB) ∧ w' = w := by
  have h := call_frombits 9221120237041090561 w
  go_enter Tryz.func147, Tryz.ntmps147
  go_wp2
  go_ret
  exact ⟨rfl, rfl⟩

theorem none_at (x : Nat) (w : World) : Calls Tryz.prog 149 #[.float .f64 x] w fun e w' => e = .returned (.bool (!fEq x x)) ∧ w' = w := by
  have h1 := float_neq 77 x x
  go_enter Tryz.func149, Tryz.ntmps149
  go_wp2
  go_ret
  exact ⟨rfl, rfl⟩
theorem less_at (x y : Nat) (w : World) : Calls Tryz.prog 125 #[.float .f64 x, .float .f64 y] w fun e w' => e = .returned (.bool (fLt x y)) ∧ w' = w := by
  go_enter Tryz.func125, Tryz.ntmps125
  go_wp2
  go_ret
  exact ⟨rfl, rfl⟩

theorem canon_at (x : Nat) (w : World) : Calls Tryz.prog 118 #[.float .f64 x] w fun e w' => e = .returned (.float .f64 (canonB x)) ∧ w' = w := by
  have Hn := Lib.hid (nan_at w)
  unfold canonB fEq
  cases hx : FloatKind.f64.format.order x x == some .eq with
  | false =>
    have hx' : (FloatKind.f64.format.order x x != some .eq) = true := by rw [bne, hx]; rfl
    go_enter Tryz.func118, Tryz.ntmps118
    go_wp2_with fail
    refine Hn.out.mono ?_
    rintro e w1 ⟨rfl, rfl⟩
    go_wp2
    go_ret
    exact ⟨rfl, rfl⟩
  | true =>
    have hx' : (FloatKind.f64.format.order x x != some .eq) = false := by rw [bne, hx]; rfl
    cases h0 : FloatKind.f64.format.order x 0 == some .eq with
    | false =>
      go_enter Tryz.func118, Tryz.ntmps118
      go_wp2
      go_ret
      exact ⟨rfl, rfl⟩
    | true =>
      go_enter Tryz.func118, Tryz.ntmps118
      go_wp2
      go_ret
      exact ⟨rfl, rfl⟩

theorem canonB_lt {x : Nat} (h : x < 2 ^ 64) : canonB x < 2 ^ 64 := by
  unfold canonB nanB
  split <;> (try split) <;> omega

theorem key_at (x : Nat) (hx : x < 2 ^ 64) (w : World) : Calls Tryz.prog 183 #[.float .f64 x] w fun e w' => e = .returned (.int .u64 (keyB x : Nat)) ∧ w' = w := by
  have Hc := Lib.hid (canon_at x w)
  have hc := canonB_lt hx
  have hK : keyB x = keyB x := rfl
  conv at hK => rhs; unfold keyB
  unfold fEq at hK
  generalize keyB x = K at *
  generalize canonB x = c at *
  have Hb := Lib.hid (call_bits c w)
  cases hcc : FloatKind.f64.format.order c c == some .eq with
  | false =>
    rw [hcc] at hK
    have HK := Lib.hid hK
    clear hK
    have hx' : (FloatKind.f64.format.order c c != some .eq) = true := by rw [bne, hcc]; rfl
    go_enter Tryz.func183, Tryz.ntmps183
    go_wp2_with fail
    refine Hc.out.mono ?_
    rintro e w1 ⟨rfl, rfl⟩
    go_wp2
    go_ret
    exact ⟨by rw [HK.out]; rfl, rfl⟩
  | true =>
    rw [hcc, if_pos rfl] at hK
    have HK := Lib.hid hK
    clear hK
    have hx' : (FloatKind.f64.format.order c c != some .eq) = false := by rw [bne, hcc]; rfl
    have hc0 : (c : Int) < 18446744073709551616 := by omega
    by_cases h63 : c < 2 ^ 63
    · have he : ((c : Int) / 9223372036854775808 == 1) = false := by rw [beq_eq_false_iff_ne]; omega
      have H0 := Lib.hid hc0
      clear hc0
      have H63 := Lib.hid h63
      have HC := Lib.hid hc
      clear h63 hc hx
      go_enter Tryz.func183, Tryz.ntmps183
      go_wp2_with fail
      refine Hc.out.mono ?_
      rintro e w1 ⟨rfl, rfl⟩
      have hb := Hb.out
      go_wp2
      go_ret
      rw [if_pos H63.out] at HK
      exact ⟨by rw [HK.out]; exact congrArg (fun z => Ending.returned (.int .u64 z)) (u64_or63 H63.out), rfl⟩
    · have he : ((c : Int) / 9223372036854775808 == 1) = true := by rw [beq_iff_eq]; omega
      have H0 := Lib.hid hc0
      clear hc0
      have H63 := Lib.hid h63
      have HC := Lib.hid hc
      clear h63 hc hx
      go_enter Tryz.func183, Tryz.ntmps183
      go_wp2_with fail
      refine Hc.out.mono ?_
      rintro e w1 ⟨rfl, rfl⟩
      have hb := Hb.out
      go_wp2
      go_ret
      rw [if_neg H63.out] at HK
      exact ⟨by rw [HK.out]; exact congrArg (fun z => Ending.returned (.int .u64 z)) (u64_not HC.out), rfl⟩

end Go.Proofs.YtloplmaekonenaaGreatDoor

namespace Go.Proofs.YtloplmaekonenaaGreatDoor
set_option maxRecDepth 20000
open Go.RowKit

theorem heap_alloc2 (w : World) (A B : Obj) : ((w.alloc A).alloc B).heap[w.heap.size + 1]? = some B := by
  have h := heap_alloc_new (w.alloc A) B
  have e : (w.alloc A).heap.size = w.heap.size + 1 := by simp
  rwa [e] at h

/-- The kit's walk has such a rule for each kind of cell but floats. -/
@[go_sem] theorem run_store_float {P : Program} {w : World} {a : Addr} {m : Mode} (k : FloatKind) (b : Nat) : (store a (.float k b) m).run P w = stored P w a (.float k b) m := run_store P w a _ m rfl

section
variable {P : Program} {w : World}
theorem wp_store_row {o : Oper} {a : Act} {K : Act → World → Prop} {Q : Exit → Act → World → Prop} (ty : TypeId) (x y : Operand) (ho : o.op = .store ty x y) (g : Nat)
    (hx : a.eval x = .pointer (some ⟨g, 0, none⟩)) (cur : Array Value) (t : TypeId) (hg : w.heap[g]? = some (.cells cur t (0, 0))) (cs : List Value) (hy : a.eval y = .agg cs.toArray) (hl : cs.length = cur.size)
    (hi : (P.info? ty).map (·.size) = some cs.length) (h1 : ∀ u ∈ cs, u.oneCell' = true)
    (h : K (a.put o.dst undef) (w.setRow g cs.toArray)) : o.wp P a w K Q := by
  have hr := run_storeVar_row (P := P) (w := w) ty g cur t cs hg hl hi h1
  unfold Oper.wp execOp
  simp only [ho, hx, hy, Instr.storeAt, Instr.sureAddr, Sem.run_bind, Sem.run_pure, Result.andThen_ok, hr]
  exact h

/-- A struct is written into a block, whole: the world behind it is a variable, and what it is is told. -/
theorem wpList_store_row {ops : Array Oper} {rest : List Oper} {o : Oper} {a : Act} {Q : Exit → Act → World → Prop} (hgd : o.guard = none) (ty : TypeId) (x y : Operand) (ho : o.op = .store ty x y) (g : Nat)
    (hx : a.eval x = .pointer (some ⟨g, 0, none⟩)) (cur : Array Value) (t : TypeId) (hg : w.heap[g]? = some (.cells cur t (0, 0))) (cs : List Value) (hy : a.eval y = .agg cs.toArray) (n : Nat) (hl : cs.length = n) (hl' : cur.size = n)
    (hi : (P.info? ty).map (·.size) = some n) (h1 : cs.all (·.oneCell') = true)
    (h : ∀ w', w'.heap[g]? = some (.cells cs.toArray t (0, 0)) → Mod (fun k => k = g) w w' → wpList P ops Q rest (a.put o.dst undef) w') : wpList P ops Q (o :: rest) a w := by
  refine wpList_plain hgd fun _ hK => wp_store_row ty x y ho g hx cur t hg cs hy (hl.trans hl'.symm) (by rw [hi, hl]) (fun u hu => List.all_eq_true.1 h1 u hu) (hK _ _ (h _ (setRow_heap w g cur cs.toArray t (0, 0) hg) ?_))
  exact (Mod.refl (fun k => k = g) w).setRow (fun _ => rfl) _

/-- A result that lies in a variable. -/
theorem results_cell1 {fn : Func} {p : Tmp} {ty : TypeId} (h : fn.results = #[.cell p ty]) (tmps : Array Value) : (results fn tmps).run P w = ((asAddr (tmps.getD p undef)).run P w).andThen fun a w₁ => (loadVar ty a).run P w₁ := by
  simp only [results, h]
  simp [Sem.run_bind, Result.andThen]

theorem bodyPost_cell {fn : Func} {R : Ending → World → Prop} {a : Act} {p : Tmp} {ty : TypeId} (h : fn.results = #[.cell p ty]) (g : Nat) (hp : a.tmps.getD p undef = .pointer (some ⟨g, 0, none⟩)) (cs : List Value) (hc : CellsAt w g 0 cs)
    (hu : (match P.underlying ty with | some (.struct _) => true | some (.array _ _) => true | _ => false) = true) (hi : (P.info? ty).map (·.size) = some cs.length) (hd : a.defers = []) (hR : R (.returned (.agg cs.toArray)) w) : bodyPost P fn R .ret a w := by
  refine bodyPost_ret (v := .agg cs.toArray) ?_ hd hR
  rw [results_cell1 h, hp]
  simp only [asAddr, Sem.run_pure, Result.andThen_ok]
  exact run_loadVar_cells ty g 0 cs hc hu hi
end
end Go.Proofs.YtloplmaekonenaaGreatDoor
