/-
  Package codec, the Reader: bytes that lie anywhere, read from the front.
  Package order over the bits of floats.
  Structs in whole rows: a store into a row, a result that lies in a variable.
  Package value: Right, Canon, Void, Same.
  Package event: kept.
-/
import Derived.Test.YtaenebdppkjhoaaGreatDoorProg
import Derived.Test.YtaenebdppkjhoaaGreatDoorZa1
import Derived.WalkSpells
import Derived.Handy
import Derived.WalkLawsBesides
import Derived.BigRegion
import Derived.BigQuiet
import Derived.Lib.Hide
import Derived.Laws.BytesArg
import Derived.Laws.Bits128
import Derived.Laws.Externs
import Derived.WalkKit
import Derived.Laws.Tables
import Derived.Laws.StructEq
namespace Go.Proofs.YtaenebdppkjhoaaGreatDoor
set_option maxRecDepth 20000
open Go.RowKit

/-- Bytes as cells. -/
def u8s (bs : List UInt8) : List Value := bs.map fun b => .int .u8 (b.toNat : Int)
theorem u8s_length (bs : List UInt8) : (u8s bs).length = bs.length := by simp [u8s]

/-- v reads as these bytes, in block G where there are any. -/
structure BytesAt (w : World) (G : Nat) (v : Value) (bs : List UInt8) : Prop where
  ex : ∃ a cap, v = .slice a bs.length cap ∧ bs.length ≤ cap ∧ (a = none → cap = 0) ∧ ∀ b, a = some b → ∃ off, b = ⟨G, off, none⟩ ∧ G < w.heap.size ∧ ∀ j (u : UInt8), bs[j]? = some u → w.cell? ⟨G, off + j, none⟩ = some (.int .u8 (u.toNat : Int))

section
variable {w w' : World} {r G : Nat} {bs : List UInt8} {v : Value}
theorem BytesAt.mod {F : Nat → Prop} (h : BytesAt w G v bs) (hm : Mod F w w') (hG : G < w.heap.size → ¬ F G) : BytesAt w' G v bs := by
  obtain ⟨a, cap, h1, h2, h3, h4⟩ := h.ex
  refine ⟨a, cap, h1, h2, h3, fun b hb => ?_⟩
  obtain ⟨off, h5, h6, h7⟩ := h4 b hb
  exact ⟨off, h5, Nat.lt_of_lt_of_le h6 hm.size, fun j u hu => hm.cell (h7 j u hu) (hG h6)⟩
/-- Without its first n bytes. -/
theorem BytesAt.drop {a : Option Addr} {cap : Nat} (h : BytesAt w G (.slice a bs.length cap) bs) {n : Nat} (hn : n ≤ bs.length) {off : Nat} (ha : a = some ⟨G, off, none⟩) :
    BytesAt w G (.slice (some ⟨G, if cap = n then off else off + n, none⟩) (bs.length - n) (cap - n)) (bs.drop n) := by
  obtain ⟨a', cap', h1, h2, h3, h4⟩ := h.ex
  cases h1
  subst ha
  refine ⟨_, cap - n, by rw [List.length_drop], by rw [List.length_drop]; omega, fun h => (by cases h), fun b hb => ?_⟩
  obtain ⟨off', h5, h6, h7⟩ := h4 _ rfl
  cases h5
  cases hb
  refine ⟨_, rfl, h6, fun j u hu => ?_⟩
  rw [List.getElem?_drop] at hu
  have hj := (List.getElem?_eq_some_iff.1 hu).1
  rw [if_neg (by omega), Nat.add_assoc]
  exact h7 _ _ hu
end

/-- Eight bytes as a number, the highest first. -/
def longOf (l : List UInt8) : Nat := l.foldl (fun x b => x * 256 + b.toNat) 0
/-- Bytes as a text. -/
def str (bs : List UInt8) : ByteArray := ⟨bs.toArray⟩
theorem str_nums (bs : List UInt8) : strOfNums (bs.map fun b => (b.toNat : Int)) = str bs := by
  unfold strOfNums str
  congr 1
  apply congrArg
  rw [List.map_map]
  conv => rhs; rw [← List.map_id bs]
  exact List.map_congr_left fun b _ => by simp

theorem conv_bytes {w : World} {G off n cap : Nat} {bs : List UInt8} (hn : bs.length = n) (hc : ∀ j (u : UInt8), bs[j]? = some u → w.cell? ⟨G, off + j, none⟩ = some (.int .u8 (u.toNat : Int))) :
    (convert 97 9 (.slice (some ⟨G, off, none⟩) n cap)).run Tryz.prog w = .ok (.string (str bs)) w := by
  rw [← str_nums]
  refine run_convert_bytes_arg w 97 5 Tryz.underlying97 Tryz.underlying5 G off n cap _ (by simpa using hn) (fun i hi => ?_) 9 Tryz.underlying9
  have hb : bs[i]? = some bs[i] := List.getElem?_eq_getElem (by omega)
  rw [hc i _ hb]
  simp [List.getD, hb]
theorem conv_nil {w : World} {n cap : Nat} : (convert 97 9 (.slice none n cap)).run Tryz.prog w = .ok (.string (str [])) w :=
  run_convert_bytes_nil w 97 5 Tryz.underlying97 Tryz.underlying5 n cap 9 Tryz.underlying9

end Go.Proofs.YtaenebdppkjhoaaGreatDoor

namespace Go.Proofs.YtaenebdppkjhoaaGreatDoor
set_option maxRecDepth 20000
open Go.RowKit

/-- Of two words of eight bytes: are they equal as numbers? -/
def fEq (x y : Nat) : Bool := FloatKind.f64.format.order x y == some .eq
def fLt (x y : Nat) : Bool := FloatKind.f64.format.order x y == some .lt
def nanB : Nat := 9221120237041090561
def canonB (x : Nat) : Nat := if fEq x x then (if fEq x 0 then 0 else x) else nanB
def keyB (x : Nat) : Nat := if fEq (canonB x) (canonB x) then (if canonB x < 2 ^ 63 then canonB x + 2 ^ 63 else 2 ^ 64 - 1 - canonB x) else 2 ^ 64 - 1
def unkeyB (k : Nat) : Nat := if k < 2 ^ 63 then 2 ^ 64 - 1 - k else k - 2 ^ 63
/-- The number of a key, and whether there is one. -/
def backB (k : Nat) : Nat × Bool := if k = 2 ^ 64 - 1 then (nanB, true) else if fEq (unkeyB k) (unkeyB k) && keyB (unkeyB k) == k then (unkeyB k, true) else (0, false)

theorem float_neq (t : TypeId) (x y : Nat) (w : World) : (binOp .neq t (.float .f64 x) (.float .f64 y)).run Tryz.prog w = .ok (.bool (!fEq x y)) w := by
  simp [binOp, Op.floatCmp, fEq, bne]
@[go_sem high] theorem shr63 (x : Int) : Op.shift .shr .u64 x .u64 63 = pure (.int .u64 (x / 9223372036854775808)) := by
  have h : (2 : Int) ^ min (63 : Int).toNat IntKind.u64.bits = 9223372036854775808 := by decide
  rw [shift_shr_any _ _ _ _ (by decide), h]

@[go_sem high] theorem not64 (n : Int) : Op.unary .xor (.int .u64 n) = pure (.int .u64 (bits .xor .u64 18446744073709551615 n)) := by
  rw [unary_xor]
  rfl

theorem ofInt64 {a : Nat} (h : a < 2 ^ 64) : (BitVec.ofInt 64 (a : Int)).toNat = a := by rw [BitVec.toNat_ofInt]; omega
theorem u64_not {a : Nat} (ha : a < 2 ^ 64) : bits .xor .u64 18446744073709551615 (a : Int) = ((2 ^ 64 - 1 - a : Nat) : Int) := by
  show IntKind.u64.wrap ((BitVec.ofInt 64 18446744073709551615 ^^^ BitVec.ofInt 64 (a : Int)).toNat : Int) = _
  have h1 : BitVec.ofInt 64 18446744073709551615 = BitVec.allOnes 64 := by decide
  rw [h1, BitVec.allOnes_xor, BitVec.toNat_not, ofInt64 ha, IntKind.wrap_u64]
  omega
theorem u64_or63 {a : Nat} (ha : a < 2 ^ 63) : bits .or .u64 (a : Int) 9223372036854775808 = ((a + 2 ^ 63 : Nat) : Int) := by
  have h2 : (BitVec.ofInt 64 9223372036854775808).toNat = 2 ^ 63 * 1 := by decide
  have key : (BitVec.ofInt 64 (a : Int) ||| BitVec.ofInt 64 9223372036854775808).toNat = a + 2 ^ 63 := by
    rw [BitVec.toNat_or, h2, ofInt64 (by omega), Nat.or_comm, ← Nat.two_pow_add_eq_or_of_lt ha]
    omega
  show IntKind.u64.wrap ((BitVec.ofInt 64 (a : Int) ||| BitVec.ofInt 64 9223372036854775808).toNat : Int) = _
  rw [key, IntKind.wrap_u64]
  omega
theorem call_frombits (n : Int) (w : World) : (callFunc 192 #[.int .u64 n]).run Tryz.prog w = .ok (.value (.float .f64 n.toNat)) w := by
  rw [run_callFunc_extern Tryz.func192 (by kernel_rfl) (by kernel_rfl) (by kernel_rfl) (e := Extern.MathFloatBits.float64frombits) (by kernel_rfl) _ w]
  rfl
theorem call_bits (x : Nat) (w : World) : (callFunc 185 #[.float .f64 x]).run Tryz.prog w = .ok (.value (.int .u64 x)) w := by
  rw [run_callFunc_extern Tryz.func185 (by kernel_rfl) (by kernel_rfl) (by kernel_rfl) (e := Extern.MathFloatBits.float64bits) (by kernel_rfl) _ w]
  rfl

theorem nan_at (w : World) : Calls Tryz.prog 164 #[] w fun e w' => e = .returned (.float .f64 nanB) ∧ w' = w := by
  have h := call_frombits 9221120237041090561 w
  go_enter Tryz.func164, Tryz.ntmps164
  go_wp2
  go_ret
  exact ⟨rfl, rfl⟩

theorem none_at (x : Nat) (w : World) : Calls Tryz.prog 118 #[.float .f64 x] w fun e w' => e = .returned (.bool (!fEq x x)) ∧ w' = w := by
  have h1 := float_neq 66 x x
  go_enter Tryz.func118, Tryz.ntmps118
  go_wp2
  go_ret
  exact ⟨rfl, rfl⟩
theorem less_at (x y : Nat) (w : World) : Calls Tryz.prog 184 #[.float .f64 x, .float .f64 y] w fun e w' => e = .returned (.bool (fLt x y)) ∧ w' = w := by
  go_enter Tryz.func184, Tryz.ntmps184
  go_wp2
  go_ret
  exact ⟨rfl, rfl⟩

theorem canon_at (x : Nat) (w : World) : Calls Tryz.prog 117 #[.float .f64 x] w fun e w' => e = .returned (.float .f64 (canonB x)) ∧ w' = w := by
  have Hn := Lib.hid (nan_at w)
  unfold canonB fEq
  cases hx : FloatKind.f64.format.order x x == some .eq with
  | false =>
    have hx' : (FloatKind.f64.format.order x x != some .eq) = true := by rw [bne, hx]; rfl
    go_enter Tryz.func117, Tryz.ntmps117
    go_wp2_with fail
    refine Hn.out.mono ?_
    rintro e w1 ⟨rfl, rfl⟩
    go_wp2
    go_ret
    exact ⟨rfl, rfl⟩
  | true =>
    have hx' : (FloatKind.f64.format.order x x != some .eq) = false := by rw [bne, hx]; rfl
    cases h0 : FloatKind.f64.format.order x 0 == some .eq with
    | false =>
      go_enter Tryz.func117, Tryz.ntmps117
      go_wp2
      go_ret
      exact ⟨rfl, rfl⟩
    | true =>
      go_enter Tryz.func117, Tryz.ntmps117
      go_wp2
      go_ret
      exact ⟨rfl, rfl⟩

theorem canonB_lt {x : Nat} (h : x < 2 ^ 64) : canonB x < 2 ^ 64 := by
  unfold canonB nanB
  split <;> (try split) <;> omega

theorem key_at (x : Nat) (hx : x < 2 ^ 64) (w : World) : Calls Tryz.prog 151 #[.float .f64 x] w fun e w' => e = .returned (.int .u64 (keyB x : Nat)) ∧ w' = w := by
  have Hc := Lib.hid (canon_at x w)
  have hc := canonB_lt hx
  have hK : keyB x = keyB x := rfl
  conv at hK => rhs; unfold keyB
  unfold fEq at hK
  generalize keyB x = K at *
  generalize canonB x = c at *
  have Hb := Lib.hid (call_bits c w)
  cases hcc : FloatKind.f64.format.order c c == some .eq with
  | false =>
    rw [hcc] at hK
    have HK := Lib.hid hK
    clear hK
    have hx' : (FloatKind.f64.format.order c c != some .eq) = true := by rw [bne, hcc]; rfl
    go_enter Tryz.func151, Tryz.ntmps151
    go_wp2_with fail
    refine Hc.out.mono ?_
    rintro e w1 ⟨rfl, rfl⟩
    go_wp2
    go_ret
    exact ⟨by rw [HK.out]; rfl, rfl⟩
  | true =>
    rw [hcc, if_pos rfl] at hK
    have HK := Lib.hid hK
    clear hK
    have hx' : (FloatKind.f64.format.order c c != some .eq) = false := by rw [bne, hcc]; rfl
    have hc0 : (c : Int) < 18446744073709551616 := by omega
    by_cases h63 : c < 2 ^ 63
    · have he : ((c : Int) / 9223372036854775808 == 1) = false := by rw [beq_eq_false_iff_ne]; omega
      have H0 := Lib.hid hc0
      clear hc0
      have H63 := Lib.hid h63
      have HC := Lib.hid hc
      clear h63 hc hx
      go_enter Tryz.func151, Tryz.ntmps151
      go_wp2_with fail
      refine Hc.out.mono ?_
      rintro e w1 ⟨rfl, rfl⟩
      have hb := Hb.out
      go_wp2
      go_ret
      rw [if_pos H63.out] at HK
      exact ⟨by rw [HK.out]; exact congrArg (fun z => Ending.returned (.int .u64 z)) (u64_or63 H63.out), rfl⟩
    · have he : ((c : Int) / 9223372036854775808 == 1) = true := by rw [beq_iff_eq]; omega
      have H0 := Lib.hid hc0
      clear hc0
      have H63 := Lib.hid h63
      have HC := Lib.hid hc
      clear h63 hc hx
      go_enter Tryz.func151, Tryz.ntmps151
      go_wp2_with fail
      refine Hc.out.mono ?_
      rintro e w1 ⟨rfl, rfl⟩
      have hb := Hb.out
      go_wp2
      go_ret
      rw [if_neg H63.out] at HK
      exact ⟨by rw [HK.out]; exact congrArg (fun z => Ending.returned (.int .u64 z)) (u64_not HC.out), rfl⟩

end Go.Proofs.YtaenebdppkjhoaaGreatDoor

namespace Go.Proofs.YtaenebdppkjhoaaGreatDoor
set_option maxRecDepth 20000
open Go.RowKit

theorem heap_alloc2 (w : World) (A B : Obj) : ((w.alloc A).alloc B).heap[w.heap.size + 1]? = some B := by
  have h := heap_alloc_new (w.alloc A) B
  have e : (w.alloc A).heap.size = w.heap.size + 1 := by simp
  rwa [e] at h

/-- The kit's walk has such a rule for each kind of cell but floats. -/
@[go_sem] theorem run_store_float {P : Program} {w : World} {a : Addr} {m : Mode} (k : FloatKind) (b : Nat) : (store a (.float k b) m).run P w = stored P w a (.float k b) m := run_store P w a _ m rfl

section
variable {P : Program} {w : World}
theorem wp_store_row {o : Oper} {a : Act} {K : Act → World → Prop} {Q : Exit → Act → World → Prop} (ty : TypeId) (x y : Operand) (ho : o.op = .store ty x y) (g : Nat)
    (hx : a.eval x = .pointer (some ⟨g, 0, none⟩)) (cur : Array Value) (t : TypeId) (hg : w.heap[g]? = some (.cells cur t (0, 0))) (cs : List Value) (hy : a.eval y = .agg cs.toArray) (hl : cs.length = cur.size)
    (hi : (P.info? ty).map (·.size) = some cs.length) (h1 : ∀ u ∈ cs, u.oneCell' = true)
    (h : K (a.put o.dst undef) (w.setRow g cs.toArray)) : o.wp P a w K Q := by
  have hr := run_storeVar_row (P := P) (w := w) ty g cur t cs hg hl hi h1
  unfold Oper.wp execOp
  simp only [ho, hx, hy, Instr.storeAt, Instr.sureAddr, Sem.run_bind, Sem.run_pure, Result.andThen_ok, hr]
  exact h

/-- A struct is written into a block, whole: the world behind it is a variable, and what it is is told. -/
theorem wpList_store_row {ops : Array Oper} {rest : List Oper} {o : Oper} {a : Act} {Q : Exit → Act → World → Prop} (hgd : o.guard = none) (ty : TypeId) (x y : Operand) (ho : o.op = .store ty x y) (g : Nat)
    (hx : a.eval x = .pointer (some ⟨g, 0, none⟩)) (cur : Array Value) (t : TypeId) (hg : w.heap[g]? = some (.cells cur t (0, 0))) (cs : List Value) (hy : a.eval y = .agg cs.toArray) (n : Nat) (hl : cs.length = n) (hl' : cur.size = n)
    (hi : (P.info? ty).map (·.size) = some n) (h1 : cs.all (·.oneCell') = true)
    (h : ∀ w', w'.heap[g]? = some (.cells cs.toArray t (0, 0)) → Mod (fun k => k = g) w w' → wpList P ops Q rest (a.put o.dst undef) w') : wpList P ops Q (o :: rest) a w := by
  refine wpList_plain hgd fun _ hK => wp_store_row ty x y ho g hx cur t hg cs hy (hl.trans hl'.symm) (by rw [hi, hl]) (fun u hu => List.all_eq_true.1 h1 u hu) (hK _ _ (h _ (setRow_heap w g cur cs.toArray t (0, 0) hg) ?_))
  exact (Mod.refl (fun k => k = g) w).setRow (fun _ => rfl) _

/-- A result that lies in a variable. -/
theorem results_cell1 {fn : Func} {p : Tmp} {ty : TypeId} (h : fn.results = #[.cell p ty]) (tmps : Array Value) : (results fn tmps).run P w = ((asAddr (tmps.getD p undef)).run P w).andThen fun a w₁ => (loadVar ty a).run P w₁ := by
  simp only [results, h]
  simp [Sem.run_bind, Result.andThen]

theorem bodyPost_cell {fn : Func} {R : Ending → World → Prop} {a : Act} {p : Tmp} {ty : TypeId} (h : fn.results = #[.cell p ty]) (g : Nat) (hp : a.tmps.getD p undef = .pointer (some ⟨g, 0, none⟩)) (cs : List Value) (hc : CellsAt w g 0 cs)
    (hu : (match P.underlying ty with | some (.struct _) => true | some (.array _ _) => true | _ => false) = true) (hi : (P.info? ty).map (·.size) = some cs.length) (hd : a.defers = []) (hR : R (.returned (.agg cs.toArray)) w) : bodyPost P fn R .ret a w := by
  refine bodyPost_ret (v := .agg cs.toArray) ?_ hd hR
  rw [results_cell1 h, hp]
  simp only [asAddr, Sem.run_pure, Result.andThen_ok]
  exact run_loadVar_cells ty g 0 cs hc hu hi
end
end Go.Proofs.YtaenebdppkjhoaaGreatDoor

namespace Go.Proofs.YtaenebdppkjhoaaGreatDoor
set_option maxRecDepth 20000
open Go.RowKit

structure V where
  kind : Int
  int : Int
  num : Nat
  text : ByteArray
  yes : Bool

def V.cells (v : V) : List Value := [.int .i64 v.kind, .int .i64 v.int, .float .f64 v.num, .string v.text, .bool v.yes]
def V.zero : V := ⟨0, 0, 0, ⟨#[]⟩, false⟩

def V.right (v : V) : Bool := decide (0 ≤ v.kind) && (decide (v.kind ≤ 3) && decide (v.text.size ≤ 40))
def V.canon (v : V) : V :=
  if v.kind = 0 then { V.zero with kind := 0, int := v.int } else if v.kind = 1 then { V.zero with kind := 1, num := canonB v.num } else
  if v.kind = 2 then { V.zero with kind := 2, text := v.text } else if v.kind = 3 then { V.zero with kind := 3, yes := v.yes } else V.zero
def V.void (v : V) : Bool := v.kind == 1 && !fEq v.num v.num

theorem value_right (v : V) (w : World) : Calls Tryz.prog 51 #[.agg v.cells.toArray] w fun e w' => e = .returned (.bool v.right) ∧ Mod (fun _ => False) w w' := by
  obtain ⟨kind, int, num, text, yes⟩ := v
  unfold V.right V.cells
  by_cases h0 : 0 ≤ kind
  · by_cases h3 : kind ≤ 3
    · by_cases ht : text.size ≤ 40
      · have ht' : (text.size : Int) ≤ 40 := by omega
        rw [decide_eq_true h0, decide_eq_true h3, decide_eq_true ht]
        go_enter Tryz.func51, Tryz.ntmps51
        go_wp2
        go_ret
        exact ⟨rfl, (Mod.refl _ w).alloc _⟩
      · have ht' : (40 : Int) < text.size := by omega
        rw [decide_eq_true h0, decide_eq_true h3, decide_eq_false ht]
        go_enter Tryz.func51, Tryz.ntmps51
        go_wp2
        go_ret
        exact ⟨congrArg (fun b => Ending.returned (.bool b)) (decide_eq_false (by omega)), (Mod.refl _ w).alloc _⟩
    · have h3' : 3 < kind := by omega
      rw [decide_eq_true h0, decide_eq_false h3]
      go_enter Tryz.func51, Tryz.ntmps51
      go_wp2
      go_ret
      exact ⟨rfl, (Mod.refl _ w).alloc _⟩
  · have h0' : kind < 0 := by omega
    rw [decide_eq_false h0]
    go_enter Tryz.func51, Tryz.ntmps51
    go_wp2
    go_ret
    exact ⟨rfl, (Mod.refl _ w).alloc _⟩

theorem value_void (v : V) (w : World) : Calls Tryz.prog 88 #[.agg v.cells.toArray] w fun e w' => e = .returned (.bool v.void) ∧ Mod (fun _ => False) w w' := by
  obtain ⟨kind, int, num, text, yes⟩ := v
  unfold V.void V.cells
  have Hn := Lib.hid fun w => none_at num w
  by_cases h1 : kind = 1
  · have h1b : (kind == 1) = true := by rw [h1]; rfl
    rw [h1b]
    subst h1
    go_enter Tryz.func88, Tryz.ntmps88
    go_wp2_with fail
    refine (Hn.out _).mono ?_
    rintro e w1 ⟨rfl, rfl⟩
    go_wp2
    go_ret
    exact ⟨rfl, (Mod.refl _ w).alloc _⟩
  · have h1b : (kind == 1) = false := by rw [beq_eq_false_iff_ne]; exact h1
    rw [h1b]
    go_enter Tryz.func88, Tryz.ntmps88
    go_wp2
    go_ret
    exact ⟨rfl, (Mod.refl _ w).alloc _⟩

theorem value_canon (v : V) (w : World) : Calls Tryz.prog 87 #[.agg v.cells.toArray] w fun e w' => e = .returned (.agg v.canon.cells.toArray) ∧ Mod (fun _ => False) w w' := by
  obtain ⟨kind, int, num, text, yes⟩ := v
  have Hc := Lib.hid fun w => canon_at num w
  have hm0 : ∀ (A B : Obj) (w' : World), Mod (fun k => k = w.heap.size + 1) ((w.alloc A).alloc B) w' → Mod (fun _ => False) w w' := fun A B w' h =>
    (((Mod.refl (fun _ => False) w).alloc A).alloc B).trans h (fun b hb h => by omega)
  have Hm0 := Lib.hid hm0
  clear hm0
  by_cases h0 : kind = 0
  · have hv : (V.canon ⟨kind, int, num, text, yes⟩).cells = [.int .i64 0, .int .i64 int, .float .f64 0, .string ⟨#[]⟩, .bool false] := by unfold V.canon; rw [if_pos h0]; rfl
    rw [hv]
    unfold V.cells
    subst h0
    clear hv
    go_enter Tryz.func87, Tryz.ntmps87
    go_wp2_with (refine wpList_store_row rfl 68 (.tmp 2) (.tmp 9) rfl (w.heap.size + 1) rfl _ 68 (heap_alloc2 w _ _) [.int .i64 0, .int .i64 int, .float .f64 0, .string ⟨#[]⟩, .bool false] rfl 5 rfl rfl (by kernel_rfl) rfl ?_; intro w2 h2 hm2; have H2 := Lib.hid h2; have Hm2 := Lib.hid hm2; clear h2 hm2)
    exact bodyPost_cell rfl (w.heap.size + 1) rfl _ (CellsAt.row H2.out) (by kernel_rfl) (by kernel_rfl) rfl ⟨rfl, Hm0.out _ _ _ Hm2.out⟩
  by_cases h1 : kind = 1
  · have hv : (V.canon ⟨kind, int, num, text, yes⟩).cells = [.int .i64 1, .int .i64 0, .float .f64 (canonB num), .string ⟨#[]⟩, .bool false] := by unfold V.canon; rw [if_neg h0, if_pos h1]; rfl
    rw [hv]
    unfold V.cells
    subst h1
    clear hv h0
    go_enter Tryz.func87, Tryz.ntmps87
    go_wp2_with fail
    refine (Hc.out _).mono ?_
    rintro e w1 ⟨rfl, rfl⟩
    go_wp2_with (refine wpList_store_row rfl 68 (.tmp 2) (.tmp 15) rfl (w.heap.size + 1) rfl _ 68 (heap_alloc2 w _ _) [.int .i64 1, .int .i64 0, .float .f64 (canonB num), .string ⟨#[]⟩, .bool false] rfl 5 rfl rfl (by kernel_rfl) rfl ?_; intro w2 h2 hm2; have H2 := Lib.hid h2; have Hm2 := Lib.hid hm2; clear h2 hm2)
    exact bodyPost_cell rfl (w.heap.size + 1) rfl _ (CellsAt.row H2.out) (by kernel_rfl) (by kernel_rfl) rfl ⟨rfl, Hm0.out _ _ _ Hm2.out⟩
  by_cases h2 : kind = 2
  · have hv : (V.canon ⟨kind, int, num, text, yes⟩).cells = [.int .i64 2, .int .i64 0, .float .f64 0, .string text, .bool false] := by unfold V.canon; rw [if_neg h0, if_neg h1, if_pos h2]; rfl
    rw [hv]
    unfold V.cells
    subst h2
    clear hv h0 h1
    go_enter Tryz.func87, Tryz.ntmps87
    go_wp2_with (refine wpList_store_row rfl 68 (.tmp 2) (.tmp 20) rfl (w.heap.size + 1) rfl _ 68 (heap_alloc2 w _ _) [.int .i64 2, .int .i64 0, .float .f64 0, .string text, .bool false] rfl 5 rfl rfl (by kernel_rfl) rfl ?_; intro w2 h2 hm2; have H2 := Lib.hid h2; have Hm2 := Lib.hid hm2; clear h2 hm2)
    exact bodyPost_cell rfl (w.heap.size + 1) rfl _ (CellsAt.row H2.out) (by kernel_rfl) (by kernel_rfl) rfl ⟨rfl, Hm0.out _ _ _ Hm2.out⟩
  by_cases h3 : kind = 3
  · have hv : (V.canon ⟨kind, int, num, text, yes⟩).cells = [.int .i64 3, .int .i64 0, .float .f64 0, .string ⟨#[]⟩, .bool yes] := by unfold V.canon; rw [if_neg h0, if_neg h1, if_neg h2, if_pos h3]; rfl
    rw [hv]
    unfold V.cells
    subst h3
    clear hv h0 h1 h2
    go_enter Tryz.func87, Tryz.ntmps87
    go_wp2_with (refine wpList_store_row rfl 68 (.tmp 2) (.tmp 25) rfl (w.heap.size + 1) rfl _ 68 (heap_alloc2 w _ _) [.int .i64 3, .int .i64 0, .float .f64 0, .string ⟨#[]⟩, .bool yes] rfl 5 rfl rfl (by kernel_rfl) rfl ?_; intro w2 h2 hm2; have H2 := Lib.hid h2; have Hm2 := Lib.hid hm2; clear h2 hm2)
    exact bodyPost_cell rfl (w.heap.size + 1) rfl _ (CellsAt.row H2.out) (by kernel_rfl) (by kernel_rfl) rfl ⟨rfl, Hm0.out _ _ _ Hm2.out⟩
  have hv : (V.canon ⟨kind, int, num, text, yes⟩).cells = [.int .i64 0, .int .i64 0, .float .f64 0, .string ⟨#[]⟩, .bool false] := by unfold V.canon; rw [if_neg h0, if_neg h1, if_neg h2, if_neg h3]; rfl
  rw [hv]
  unfold V.cells
  clear hv
  go_enter Tryz.func87, Tryz.ntmps87
  go_wp2_with (refine wpList_store_row rfl 68 (.tmp 2) (.tmp 26) rfl (w.heap.size + 1) rfl _ 68 (heap_alloc2 w _ _) [.int .i64 0, .int .i64 0, .float .f64 0, .string ⟨#[]⟩, .bool false] rfl 5 rfl rfl (by kernel_rfl) rfl ?_; intro w2 h2 hm2; have H2 := Lib.hid h2; have Hm2 := Lib.hid hm2; clear h2 hm2)
  exact bodyPost_cell rfl (w.heap.size + 1) rfl _ (CellsAt.row H2.out) (by kernel_rfl) (by kernel_rfl) rfl ⟨rfl, Hm0.out _ _ _ Hm2.out⟩
end Go.Proofs.YtaenebdppkjhoaaGreatDoor

namespace Go.Proofs.YtaenebdppkjhoaaGreatDoor
set_option maxRecDepth 20000
open Go.RowKit

/-- '==' of values, field by field. -/
def V.eqG (a b : V) : Bool := a.kind == b.kind && (a.int == b.int && (fEq a.num b.num && (a.text.toList == b.text.toList && a.yes == b.yes)))

def V.kept (v : V) : Bool := if v.void then V.eqG { v.canon with num := 0 } { v with num := 0 } else V.eqG v.canon v

end Go.Proofs.YtaenebdppkjhoaaGreatDoor
