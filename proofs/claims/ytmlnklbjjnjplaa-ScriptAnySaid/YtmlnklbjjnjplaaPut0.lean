/-
  wire.PutRule: the states of its region.
-/
import Derived.Test.YtmlnklbjjnjplaaPlan7
import Derived.Test.YtmlnklbjjnjplaaWbn
import Derived.Test.YtmlnklbjjnjplaaSback
import Derived.Test.YtmlnklbjjnjplaaWrfil
namespace Go.Proofs.Ytmlnklbjjnjplaa
open Go.RowKit

/-- What has been laid behind so many calls. -/
def putPre (r : PRu) : Nat → List UInt8
  | 0 => []
  | 1 => [byteOf r.kind, byteOf r.tenant]
  | 2 => [byteOf r.kind, byteOf r.tenant] ++ txtBytes r.who
  | 3 => [byteOf r.kind, byteOf r.tenant] ++ (txtBytes r.who ++ [byteOf r.broker])
  | 4 => [byteOf r.kind, byteOf r.tenant] ++ (txtBytes r.who ++ ([byteOf r.broker] ++ filBytes r.sc r.cs))
  | 5 => [byteOf r.kind, byteOf r.tenant] ++ (txtBytes r.who ++ ([byteOf r.broker] ++ (filBytes r.sc r.cs ++ txtBytes r.name)))
  | _ => ruBytes r
theorem txtBytes_len (s : ByteArray) : (txtBytes s).length = s.size + 1 := by
  unfold txtBytes
  rw [List.length_cons, txt_length]
theorem filBytes_len (sc : ByteArray) (l : List Cnd) (hs : sc.size ≤ 255) (hl : l.length ≤ 255) (hf : ∀ a ∈ l, a.fit) : (filBytes sc l).length ≤ 160000 := by
  have hg : ∀ l : List Cnd, (∀ a ∈ l, a.fit) → (l.flatMap cndBytes).length ≤ 600 * l.length := fun l => by
    induction l with
    | nil => intro _; simp
    | cons x l ih =>
      intro hf
      rw [List.flatMap_cons, List.length_append, List.length_cons]
      have h1 := cndBytes_length x (hf x (by simp)).1 (hf x (by simp)).2.1
      have h2 := ih (fun a ha => hf a (by simp [ha]))
      omega
  have := hg l hf
  unfold filBytes
  rw [List.length_append, List.length_append, List.length_cons, txt_length]
  simp only [List.length_cons, List.length_nil]
  omega
theorem put_len (r : PRu) (hf : r.fit) : ∀ c, (putPre r c).length ≤ 200000 := fun c => by
  have h1 := hf.who
  have h2 := hf.name
  have h3 := filBytes_len r.sc r.cs hf.sc hf.len hf.cs
  match c with
  | 0 => simp [putPre]
  | 1 => simp [putPre]
  | 2 => simp only [putPre, List.length_append, List.length_cons, List.length_nil, txtBytes_len]; omega
  | 3 => simp only [putPre, List.length_append, List.length_cons, List.length_nil, txtBytes_len]; omega
  | 4 => simp only [putPre, List.length_append, List.length_cons, List.length_nil, txtBytes_len]; omega
  | 5 => simp only [putPre, List.length_append, List.length_cons, List.length_nil, txtBytes_len]; omega
  | c + 6 => simp only [putPre, ruBytes, List.length_append, List.length_cons, List.length_nil, txtBytes_len]; omega
/-- Numbers that wait in a block of their own. -/
structure Args (wB w : World) (p : Nat) (v : Value) (g : Nat) (l : List Int) : Prop where
  at_ : CellsAt w g 0 (nums l)
  ne : g ≠ p
  nb : ¬ inBlock v g
  lo : wB.heap.size ≤ g
  hi : g < w.heap.size
structure PutSt (wB : World) (p : Nat) (v0 : Value) (bs : List UInt8) (r : PRu) (c : Nat) (x5 x12 x22 : Option Nat) (w : World) (v : Value) : Prop where
  wtr : Wtr w p v (bs ++ putPre r c)
  wrote : Wrote wB p v0 w v
  a5 : ∀ g, x5 = some g → Args wB w p v g [r.kind, r.tenant]
  a12 : ∀ g, x12 = some g → Args wB w p v g [r.broker]
  a22 : ∀ g, x22 = some g → Args wB w p v g [r.at_]
section
variable {wB w w' : World} {p : Nat} {v0 v v' : Value} {bs : List UInt8} {r : PRu} {c : Nat} {x5 x12 x22 : Option Nat} {l : List Int} {g : Nat}
theorem Args.mod (h : Args wB w p v g l) (hm : Mod (fun _ => False) w w') : Args wB w' p v g l := ⟨fun j u hu => hm.cell (h.at_ j u hu) (fun h => h), h.ne, h.nb, h.lo, Nat.lt_of_lt_of_le h.hi hm.size⟩
theorem Args.wrote (h : Args wB w p v g l) (hw : Wrote w p v w' v') : Args wB w' p v' g l :=
  ⟨fun j u hu => hw.mod.cell (h.at_ j u hu) (fun hh => hh.elim h.ne h.nb), h.ne, fun hb => (hw.new g hb).elim h.nb (fun hh => by have := h.hi; omega), h.lo, Nat.lt_of_lt_of_le h.hi hw.mod.size⟩
theorem Args.new (hw : Wtr w p v bs) (hB : wB.heap.size ≤ w.heap.size) (t : TypeId) : Args wB (w.alloc (.cells (nums l).toArray t)) p v w.heap.size l :=
  ⟨CellsAt.new w _ t, fun e => by have := hw.lt; omega, fun hb => by have := hw.blt _ hb; omega, hB, by simp⟩
theorem PutSt.mod (h : PutSt wB p v0 bs r c x5 x12 x22 w v) (hm : Mod (fun _ => False) w w') : PutSt wB p v0 bs r c x5 x12 x22 w' v :=
  ⟨h.wtr.same hm, h.wrote.also hm (fun _ h => h.elim), fun g hg => (h.a5 g hg).mod hm, fun g hg => (h.a12 g hg).mod hm, fun g hg => (h.a22 g hg).mod hm⟩
theorem PutSt.b5 (h : PutSt wB p v0 bs r c none x12 x22 w v) (t : TypeId) : PutSt wB p v0 bs r c (some w.heap.size) x12 x22 (w.alloc (.cells (nums [r.kind, r.tenant]).toArray t)) v := by
  have k := h.mod ((Mod.refl (fun _ => False) w).alloc (.cells (nums [r.kind, r.tenant]).toArray t))
  exact ⟨k.wtr, k.wrote, fun g hg => by cases hg; exact Args.new h.wtr h.wrote.mod.size t, k.a12, k.a22⟩
theorem PutSt.b12 (h : PutSt wB p v0 bs r c x5 none x22 w v) (t : TypeId) : PutSt wB p v0 bs r c x5 (some w.heap.size) x22 (w.alloc (.cells (nums [r.broker]).toArray t)) v := by
  have k := h.mod ((Mod.refl (fun _ => False) w).alloc (.cells (nums [r.broker]).toArray t))
  exact ⟨k.wtr, k.wrote, k.a5, fun g hg => by cases hg; exact Args.new h.wtr h.wrote.mod.size t, k.a22⟩
theorem PutSt.b22 (h : PutSt wB p v0 bs r c x5 x12 none w v) (t : TypeId) : PutSt wB p v0 bs r c x5 x12 (some w.heap.size) (w.alloc (.cells (nums [r.at_]).toArray t)) v := by
  have k := h.mod ((Mod.refl (fun _ => False) w).alloc (.cells (nums [r.at_]).toArray t))
  exact ⟨k.wtr, k.wrote, k.a5, k.a12, fun g hg => by cases hg; exact Args.new h.wtr h.wrote.mod.size t⟩
theorem PutSt.call (h : PutSt wB p v0 bs r c x5 x12 x22 w v) {news : List UInt8} (hw : Wtr w' p v' ((bs ++ putPre r c) ++ news)) (hwr : Wrote w p v w' v') (he : putPre r c ++ news = putPre r (c + 1)) : PutSt wB p v0 bs r (c + 1) x5 x12 x22 w' v' :=
  ⟨by rw [← he, ← List.append_assoc]; exact hw, h.wrote.trans hwr, fun g hg => (h.a5 g hg).wrote hwr, fun g hg => (h.a12 g hg).wrote hwr, fun g hg => (h.a22 g hg).wrote hwr⟩
end
/-- A slot behind so many calls. -/
def pc (k c : Nat) (v : Value) : Value := if k ≤ c then v else undef
def px (n : Nat) : Option Nat → Value
  | none => undef
  | some g => .slice (some ⟨g, 0, none⟩) n n
/-- The frame. -/
def putA (p B : Nat) (r : PRu) (a : Option Addr) (cap : Nat) (c : Nat) (x5 x12 x22 : Option Nat) : Act :=
  ⟨#[.pointer (some ⟨p, 0, none⟩), .agg (r.lies a cap).cells.toArray, undef, .pointer (some ⟨B, 0, none⟩), .pointer (some ⟨p, 0, none⟩), .pointer (some ⟨B, 0, none⟩), .int .i64 r.kind, .pointer (some ⟨B, 1, none⟩), .int .i64 r.tenant, px 2 x5,
     pc 1 c (.pointer (some ⟨p, 0, none⟩)), .pointer (some ⟨B, 2, none⟩), .string r.who, pc 2 c (.pointer (some ⟨p, 0, none⟩)), .pointer (some ⟨B, 3, none⟩), .int .i64 r.broker, px 1 x12, pc 3 c (.pointer (some ⟨p, 0, none⟩)),
     .pointer (some ⟨B, 4, none⟩), .agg #[.string r.sc, .slice a r.cs.length cap], pc 4 c (.pointer (some ⟨p, 0, none⟩)), .pointer (some ⟨B, 6, none⟩), .string r.name, pc 5 c (.pointer (some ⟨p, 0, none⟩)), .pointer (some ⟨B, 7, none⟩), .int .i64 r.at_, px 1 x22, pc 6 c (.pointer (some ⟨p, 0, none⟩))], []⟩
/-- What has been done. -/
def putL (c : Nat) (x5 x12 x22 : Option Nat) : Array Bool :=
  #[true, true, true, true, true, x5.isSome, Nat.ble 1 c, true, true, Nat.ble 2 c, true, true, x12.isSome, Nat.ble 3 c, true, true, Nat.ble 4 c, true, true, Nat.ble 5 c, true, true, x22.isSome, Nat.ble 6 c]
/-- The rule's cells. -/
def RuCells (y : World) (B : Nat) (r : PRu) (a : Option Addr) (cap : Nat) : Prop :=
  y.cell? ⟨B, 0, none⟩ = some (.int .i64 r.kind) ∧ y.cell? ⟨B, 1, none⟩ = some (.int .i64 r.tenant) ∧ y.cell? ⟨B, 2, none⟩ = some (.string r.who) ∧ y.cell? ⟨B, 3, none⟩ = some (.int .i64 r.broker) ∧
    y.cell? ⟨B, 4, none⟩ = some (.string r.sc) ∧ y.cell? ⟨B, 5, none⟩ = some (.slice a r.cs.length cap) ∧ y.cell? ⟨B, 6, none⟩ = some (.string r.name) ∧ y.cell? ⟨B, 7, none⟩ = some (.int .i64 r.at_)
theorem RuCells.mod {y y' : World} {F : Nat → Prop} {B : Nat} {r : PRu} {a : Option Addr} {cap : Nat} (h : RuCells y B r a cap) (hm : Mod F y y') (hB : ¬ F B) : RuCells y' B r a cap :=
  ⟨hm.cell h.1 hB, hm.cell h.2.1 hB, hm.cell h.2.2.1 hB, hm.cell h.2.2.2.1 hB, hm.cell h.2.2.2.2.1 hB, hm.cell h.2.2.2.2.2.1 hB, hm.cell h.2.2.2.2.2.2.1 hB, hm.cell h.2.2.2.2.2.2.2 hB⟩
def cnt (x : Option Nat) : Nat := if x.isSome then 1 else 0
/-- The invariant. -/
def PutI (wB : World) (p B : Nat) (v0 : Value) (bs : List UInt8) (r : PRu) (a : Option Addr) (cap : Nat) (n : Nat) (listed : Array Bool) (A : Act) (w : World) : Prop :=
  ∃ (c : Nat) (x5 x12 x22 : Option Nat) (v : Value), c ≤ 6 ∧ n + c + cnt x5 + cnt x12 + cnt x22 = 9 ∧ (1 ≤ c → x5.isSome = true) ∧ (3 ≤ c → x12.isSome = true) ∧ (6 ≤ c → x22.isSome = true) ∧
    listed = putL c x5 x12 x22 ∧ A = putA p B r a cap c x5 x12 x22 ∧ PutSt wB p v0 bs r c x5 x12 x22 w v
end Go.Proofs.Ytmlnklbjjnjplaa
