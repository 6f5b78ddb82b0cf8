/-
  Package table in memory.
  slices.DeleteFunc at the index's places.
  Package index: Remove.
  Package index: Match.
  The index's law, in the plain: what Norm leaves asks for the same.
-/
import Derived.Test.YtaenebdppkjhoaaGreatDoorZa32
import Derived.Test.YtaenebdppkjhoaaGreatDoorZa4
import Derived.Test.YtaenebdppkjhoaaGreatDoorZa28
import Derived.Test.YtaenebdppkjhoaaGreatDoorZa10
import Derived.Test.YtaenebdppkjhoaaGreatDoorZa8
import Derived.Test.YtaenebdppkjhoaaGreatDoorZa11
import Derived.Test.YtaenebdppkjhoaaGreatDoorZa2
import Derived.Test.YtaenebdppkjhoaaGreatDoorZa3
import Derived.Test.YtaenebdppkjhoaaGreatDoorZa12
namespace Go.Proofs.YtaenebdppkjhoaaGreatDoor
set_option maxRecDepth 20000
open Go.RowKit

/-- A filter's key. -/
def keyF (q : Fil) : List UInt8 := filPrt q.1 q.2
/-- What a place has under a key. -/
def tabF (M : List (Int × Fil)) (id : Int) (k : List UInt8) : Option Fil := (M.find? fun p => p.1 == id && keyF p.2 == k).map Prod.snd

theorem FilIs.mod2 {w w' : World} {F own C : Nat → Prop} {v : Option Value} {q : Option Fil} (h : FilIs w own C v q) (hm : Mod F w w') (hF : ∀ k, k < w.heap.size → F k → ¬ C k) : FilIs w' own C v q := by
  cases v <;> cases q
  · trivial
  · exact h
  · exact h
  · obtain ⟨a, cap, h1, h2, h3⟩ := h
    exact ⟨a, cap, h1, h2.mod hm (fun k hk hf => hF k (h3 k hk).1 hf (h3 k hk).2.2), fun k hk => ⟨Nat.lt_of_lt_of_le (h3 k hk).1 hm.size, (h3 k hk).2⟩⟩
theorem FilIs.cong {w : World} {own own' C C' : Nat → Prop} {v : Option Value} {q : Option Fil} (h : FilIs w own C v q) (ho : ∀ k, k < w.heap.size → C k → own' k → own k) (hC : ∀ k, C k → C' k) : FilIs w own' C' v q := by
  cases v <;> cases q
  · trivial
  · exact h
  · exact h
  · obtain ⟨a, cap, h1, h2, h3⟩ := h
    exact ⟨a, cap, h1, h2, fun k hk => ⟨(h3 k hk).1, fun h => (h3 k hk).2.1 (ho k (h3 k hk).1 (h3 k hk).2.2 h), hC k (h3 k hk).2.2⟩⟩

/-- A map of filters by keys: g tells what it has. -/
def KAt (w : World) (own C : Nat → Prop) (mi N : Nat) (g : List UInt8 → Option Fil) : Prop :=
  ∃ n f, MapR w 9 mi n f ∧ n ≤ N ∧ ∀ k, FilIs w own C (f (.string k)) (g k)
theorem KAt.mod {w w' : World} {F own C : Nat → Prop} {mi N : Nat} {g : List UInt8 → Option Fil} (h : KAt w own C mi N g) (hm : Mod F w w') (h1 : ¬ F mi) (hF : ∀ k, k < w.heap.size → F k → ¬ C k) : KAt w' own C mi N g := by
  obtain ⟨n, f, h2, h3, h4⟩ := h
  exact ⟨n, f, h2.mod hm h1, h3, fun k => (h4 k).mod2 hm hF⟩
theorem KAt.cong {w : World} {own own' C C' : Nat → Prop} {mi N N' : Nat} {g g' : List UInt8 → Option Fil} (h : KAt w own C mi N g) (ho : ∀ k, k < w.heap.size → C k → own' k → own k) (hC : ∀ k, C k → C' k) (hN : N ≤ N') (hg : ∀ k, g' k = g k) : KAt w own' C' mi N' g' := by
  obtain ⟨n, f, h2, h3, h4⟩ := h
  exact ⟨n, f, h2, Nat.le_trans h3 hN, fun k => by rw [hg]; exact (h4 k).cong ho hC⟩
theorem KAt.lt {w : World} {own C : Nat → Prop} {mi N : Nat} {g : List UInt8 → Option Fil} (h : KAt w own C mi N g) : mi < w.heap.size := by
  obtain ⟨n, f, h2, -⟩ := h
  exact h2.lt
/-- What stands in the outer map at a place. -/
def InAt (w : World) (own C : Nat → Prop) (b mo N : Nat) (g : List UInt8 → Option Fil) : Option Value → Prop
  | none => ∀ k, g k = none
  | some v => ∃ mi, v = .map (some mi) ∧ own mi ∧ mi ≠ b ∧ mi ≠ mo ∧ KAt w own C mi N g
theorem InAt.mod {w w' : World} {F own C : Nat → Prop} {b mo N : Nat} {g : List UInt8 → Option Fil} {v : Option Value} (h : InAt w own C b mo N g v) (hm : Mod F w w') (h1 : ∀ mi, v = some (.map (some mi)) → ¬ F mi) (hF : ∀ k, k < w.heap.size → F k → ¬ C k) : InAt w' own C b mo N g v := by
  cases v with
  | none => exact h
  | some v =>
    obtain ⟨mi, rfl, h2, h3, h4, h5⟩ := h
    exact ⟨mi, rfl, h2, h3, h4, h5.mod hm (h1 mi rfl) hF⟩
theorem InAt.cong {w : World} {own own' C C' : Nat → Prop} {b mo N N' : Nat} {g g' : List UInt8 → Option Fil} {v : Option Value} (h : InAt w own C b mo N g v) (ho : ∀ k, k < w.heap.size → C k → own' k → own k) (ho2 : ∀ k, own k → own' k) (hC : ∀ k, C k → C' k) (hN : N ≤ N') (hg : ∀ k, g' k = g k) : InAt w own' C' b mo N' g' v := by
  cases v with
  | none => exact fun k => (hg k).trans (h k)
  | some v =>
    obtain ⟨mi, rfl, h2, h3, h4, h5⟩ := h
    exact ⟨mi, rfl, ho2 mi h2, h3, h4, h5.cong ho hC hN hg⟩
/-- The outer map. -/
def OMap (w : World) (own C : Nat → Prop) (b mo N : Nat) (M : List (Int × Fil)) : Prop :=
  ∃ n f, MapR w 3 mo n f ∧ n ≤ N ∧ (∀ id : Int, InAt w own C b mo N (tabF M id) (f (.int .i64 id))) ∧ ∀ (x y : Int) mi, f (.int .i64 x) = some (.map (some mi)) → f (.int .i64 y) = some (.map (some mi)) → x = y
/-- A table in memory: its own blocks are those of 'own', those of its filters' conditions of C; N bounds what was ever added. -/
structure TabAt (w : World) (b mo : Nat) (own C : Nat → Prop) (M : List (Int × Fil)) (N : Nat) : Prop where
  row : w.heap[b]? = some (.cells #[.map (some mo)] 162 (0, 0))
  ob : own b ∧ own mo
  ne : b ≠ mo
  om : OMap w own C b mo N M
  nd : M.Pairwise fun p q => ¬ (p.1 = q.1 ∧ keyF p.2 = keyF q.2)
  low : M.length ≤ N
  dis : ∀ k, own k → ¬ C k
  olow : ∀ k, own k → k < w.heap.size
  clow : ∀ k, C k → k < w.heap.size
  wf : ∀ p ∈ M, (Lit.int .i64 p.1).wf = true ∧ p.2.2.length ≤ 19 ∧ ∀ c ∈ p.2.2, c.fits
  sc : ∀ p ∈ M, p.2.1.size ≤ 1000000
/-- A table. -/
def Tab (w : World) (b : Nat) (own C : Nat → Prop) (M : List (Int × Fil)) (N : Nat) : Prop := ∃ mo, TabAt w b mo own C M N
theorem OMap.mod {w w' : World} {F own C : Nat → Prop} {b mo N : Nat} {M : List (Int × Fil)} (h : OMap w own C b mo N M) (hm : Mod F w w') (h1 : ¬ F mo) (hF : ∀ k, k < w.heap.size → F k → ¬ own k ∧ ¬ C k) : OMap w' own C b mo N M := by
  obtain ⟨n, f, h2, h3, h4, h5⟩ := h
  refine ⟨n, f, h2.mod hm h1, h3, fun id => (h4 id).mod hm (fun mi hmi hf => ?_) (fun k hk hf => (hF k hk hf).2), h5⟩
  have h6 := h4 id
  rw [hmi] at h6
  obtain ⟨mi', e, h7, -, -, h8⟩ := h6
  cases e
  exact (hF mi h8.lt hf).1 h7
theorem TabAt.mod {w w' : World} {b mo : Nat} {own C F : Nat → Prop} {M : List (Int × Fil)} {N : Nat} (h : TabAt w b mo own C M N) (hm : Mod F w w') (hF : ∀ k, k < w.heap.size → F k → ¬ own k ∧ ¬ C k) : TabAt w' b mo own C M N :=
  have hn : ∀ k, own k → ¬ F k := fun k hk hf => (hF k (h.olow k hk) hf).1 hk
  ⟨hm.heap h.row (hn _ h.ob.1), h.ob, h.ne, h.om.mod hm (hn _ h.ob.2) hF, h.nd, h.low, h.dis, fun k hk => Nat.lt_of_lt_of_le (h.olow k hk) hm.size, fun k hk => Nat.lt_of_lt_of_le (h.clow k hk) hm.size, h.wf, h.sc⟩
theorem Tab.mod {w w' : World} {b : Nat} {own C F : Nat → Prop} {M : List (Int × Fil)} {N : Nat} (h : Tab w b own C M N) (hm : Mod F w w') (hF : ∀ k, k < w.heap.size → F k → ¬ own k ∧ ¬ C k) : Tab w' b own C M N := by
  obtain ⟨mo, h⟩ := h
  exact ⟨mo, h.mod hm hF⟩
theorem Tab.mod0 {w w' : World} {b : Nat} {own C F : Nat → Prop} {M : List (Int × Fil)} {N : Nat} (h : Tab w b own C M N) (hm : Mod F w w') (hF : ∀ k, k < w.heap.size → ¬ F k) : Tab w' b own C M N := h.mod hm (fun k hk hf => absurd hf (hF k hk))
theorem Tab.low {w : World} {b : Nat} {own C : Nat → Prop} {M : List (Int × Fil)} {N : Nat} (h : Tab w b own C M N) : (∀ k, own k → k < w.heap.size) ∧ ∀ k, C k → k < w.heap.size := by
  obtain ⟨mo, h⟩ := h
  exact ⟨h.olow, h.clow⟩

/-! ### What is in a table -/
end Go.Proofs.YtaenebdppkjhoaaGreatDoor

namespace Go.Proofs.YtaenebdppkjhoaaGreatDoor
set_option maxRecDepth 20000
open Go.RowKit

theorem pl_struct : (match Tryz.prog.underlying 181 with | some (.struct _) => true | some (.array _ _) => true | _ => false) = true := by kernel_rfl
theorem pl_size : (Tryz.prog.info? 181).map (·.size) = some 8 := by kernel_rfl
theorem run_load_pl {ρ : Operand → Value} {dst : Option Tmp} {x : Operand} {type : TypeId} {pos : String} {after : Array Edge} {guard : Option (Nat × Bool)} {w : World} (h : AllV w (ρ x) 8) :
    Sem.run Tryz.prog (execOp ρ ⟨dst, .load 181 x, type, pos, after, guard⟩) w = .ok (.value (.agg (cellsV w (ρ x) 8))) w := run_load_all pl_struct pl_size h

attribute [local go_sem ↓] run_load_pl
end Go.Proofs.YtaenebdppkjhoaaGreatDoor

namespace Go.Proofs.YtaenebdppkjhoaaGreatDoor
set_option maxRecDepth 20000
open Go.RowKit

/-- What Remove reads first. -/
def RemS (b m1 cb n : Nat) (id : Int) (f : Lit → Option Value) (r : Value) (y : World) : Prop :=
  y.cell? ⟨b, 0, none⟩ = some (.map (some m1)) ∧ y.cell? ⟨cb, 0, none⟩ = some (.int .i64 id) ∧ MapR y 3 m1 n f ∧ (Instr.lookup 157 (.map (some m1)) (.int .i64 id) true).run Tryz.prog y = .ok r y
theorem RemS.mod {b m1 cb n : Nat} {id : Int} {f : Lit → Option Value} {r : Value} {y z : World} {F : Nat → Prop} (h : RemS b m1 cb n id f r y) (hid : (Lit.int .i64 id).wf = true) (hr : r = .tuple #[(f (.int .i64 id)).getD (.agg #[.string ⟨#[]⟩, .slice none 0 0]), .bool (f (.int .i64 id)).isSome])
    (hm : Mod F y z) (h1 : ¬ F b) (h2 : ¬ F cb) (h3 : ¬ F m1) : RemS b m1 cb n id f r z := by
  refine ⟨hm.cell h.1 h1, hm.cell h.2.1 h2, h.2.2.1.mod hm h3, ?_⟩
  rw [hr]
  exact (h.2.2.1.mod hm h3).look_ok keyed_i Tryz.underlying157 (zero_fil z) (Maps.keyOf_int_mk Tryz.underlying3 hid)

attribute [local go_sem ↓] run_load_cd
end Go.Proofs.YtaenebdppkjhoaaGreatDoor

namespace Go.Proofs.YtaenebdppkjhoaaGreatDoor
set_option maxRecDepth 20000
open Go.RowKit

/-- The map of counts. -/
def CntR (w : World) (mc K : Nat) (g : Int → Nat) : Prop := ∃ n f, MapR w 3 mc n f ∧ n ≤ K ∧ (∀ id : Int, (f (.int .i64 id)).getD (.int .i64 0) = .int .i64 (g id)) ∧ ∀ id, g id ≤ K
theorem CntR.mod {w w' : World} {mc K : Nat} {g : Int → Nat} {F : Nat → Prop} (h : CntR w mc K g) (hm : Mod F w w') (hF : ¬ F mc) : CntR w' mc K g := by
  obtain ⟨n, f, h1, h2⟩ := h
  exact ⟨n, f, h1.mod hm hF, h2⟩
theorem CntR.cong {w : World} {mc K K' : Nat} {g g' : Int → Nat} (h : CntR w mc K g) (hK : K ≤ K') (hg : ∀ id, g' id = g id) : CntR w mc K' g' := by
  obtain ⟨n, f, h1, h2, h3, h4⟩ := h
  exact ⟨n, f, h1, Nat.le_trans h2 hK, fun id => by rw [hg]; exact h3 id, fun id => by rw [hg]; exact Nat.le_trans (h4 id) hK⟩
theorem rd_int {w : World} {a : Option Addr} {n cap : Nat} {l : List Int} {j : Nat} {x : Int} (h : RdSl w 1 (.slice a n cap) n (l.map (Value.int .i64))) (hx : l[j]? = some x) : ∃ g off, a = some ⟨g, off, none⟩ ∧ w.cell? ⟨g, off + j, none⟩ = some (.int .i64 x) := by
  obtain ⟨h0, a', c', h1, -, h3, h4⟩ := h
  cases h1
  have hj := (List.getElem?_eq_some_iff.1 hx).1
  have hn : n = l.length := by rw [List.length_map] at h0; omega
  cases a with
  | none => exact absurd (h3 rfl) (by omega)
  | some b =>
    obtain ⟨g', off', h5, h6⟩ := h4 _ rfl (by omega)
    exact ⟨g', off', by rw [h5], h6 j _ (by rw [List.getElem?_map, hx]; rfl)⟩

theorem CellsAt.part {w : World} {g off : Nat} {l m : List Value} (h : CellsAt w g off (l ++ m)) {n : Nat} (hn : l.length = n) : CellsAt w g (off + n) m := fun j u hu => by
  have := h (n + j) u (by rw [List.getElem?_append_right (by omega), ← hn, Nat.add_sub_cancel_left]; exact hu)
  rwa [← Nat.add_assoc] at this
attribute [local go_sem ↓] run_load_cd
end Go.Proofs.YtaenebdppkjhoaaGreatDoor

namespace Go.Proofs.YtaenebdppkjhoaaGreatDoor
set_option maxRecDepth 20000
open Go.RowKit

/-! What is needless: each condition of a list follows from one that is kept. -/
/-! Counting: of unlike names a condition is met at most once. -/
/-- What a condition must be like. -/
structure Cnd.whole (c : Cnd) : Prop where
  op : 0 ≤ c.op ∧ c.op ≤ 7
  kind : 0 ≤ c.v.kind ∧ c.v.kind ≤ 3
  num : c.v.num < 2 ^ 64
end Go.Proofs.YtaenebdppkjhoaaGreatDoor
