/-
  A region that draws its order, walked step by step: what only reads comes first, wherever it stands; where two operations are ready, each of them may be next.
  A region that draws its order, by an invariant over its states.
  A guarded operation whose guard stands is walked as one without.
  Package broker: what Crash makes of a realm, step by step.
-/
import Derived.Test.YtaenebdppkjhoaaGreatDoorZa4
import Derived.Test.YtaenebdppkjhoaaGreatDoorZa28
import Derived.Test.YtaenebdppkjhoaaGreatDoorZa35
import Derived.Test.YtaenebdppkjhoaaGreatDoorZa32
namespace Go.Proofs.YtaenebdppkjhoaaGreatDoor
set_option maxRecDepth 20000
open Go.RowKit

section
variable {P : Program} {ops : Array Oper} {Q : Exit → Act → World → Prop} {md : Region.Mode} {S : World → Prop} {T : Nat → Bool}

/-- Whatever order is picked from here on. -/
structure AN (P : Program) (md : Region.Mode) (ops : Array Oper) (Q : Exit → Act → World → Prop) (S : World → Prop) (T : Nat → Bool) (fuel : Nat) (listed : Array Bool) (a : Act) (w : World) : Prop where
  out : Region.noSelect ops = true → (∀ (c : List PanicEntry) (a : Act) (d : Option Tmp) (v : Value) (w : World), Q (.panic c) (a.put d v) w → Q (.panic c) a w) → ClosedL md ops listed → wpAnyG P md ops Q S T fuel listed a w

theorem wp_region_any6 {id : Nat} {a : Act} {w : World} {l : List Oper} (ks : List Nat) (S : World → Prop) (hm : P.follows .mixedOrders = true) (hsel : Region.noSelect l.toArray = true)
    (hQ : ∀ (c : List PanicEntry) (a : Act) (d : Option Tmp) (v : Value) (w : World), Q (.panic c) (a.put d v) w → Q (.panic c) a w)
    (h : AN P .any l.toArray Q S (fun j => ks.contains j) l.length (Array.replicate l.toArray.size false) a w.drew) : (Code.region id l.toArray true).wp P Q a w := by
  have hcl : ClosedL .any l.toArray (Array.replicate l.toArray.size false) := fun j oj _ hl => by
    exfalso
    rcases Nat.lt_or_ge j l.toArray.size with h' | h' <;> simp_all
  refine wp_region_any hm (wpAny_of_G (S := S) (T := fun j => ks.contains j) _ _ _ _ ?_)
  have key := h.out hsel hQ hcl
  simpa using key

def rdOk (md : Region.Mode) (ops : Array Oper) (T : Nat → Bool) (i : Nat) (listed : Array Bool) : Bool :=
  decide (i < ops.size) && Region.free md ops listed i && (Region.ready md ops listed).contains i &&
      (((ops[i]?).map (fun o => pureOp o.op)).getD false || (List.range ops.size).all fun j => j == i || listed.getD j true || reachB md ops ops.size j i || T j)

theorem an_rd {i fuel : Nat} {listed : Array Bool} {o : Oper} {a : Act} {w : World} (hok : rdOk md ops T i listed = true) (ho : ops[i]? = some o) (hw : Region.wanted o (yielded ops a.tmps) = true) (hSw : pureOp o.op = false → S w) (v : Value)
    (hy : ∀ w, (pureOp o.op = false → S w) → (execOp a.eval o).run P w = .ok (.value v) w)
    (h : ∀ K : Act → Prop, (∀ a', AN P md ops Q S T fuel (listed.setIfInBounds i true) a' w → K a') → K (a.put o.dst v)) : AN P md ops Q S T (fuel + 1) listed a w := by
  refine ⟨fun hsel hQ hc => ?_⟩
  unfold rdOk at hok
  simp only [Bool.and_eq_true, decide_eq_true_eq] at hok
  obtain ⟨⟨⟨hi, hf⟩, hr⟩, hp⟩ := hok
  have hri : i ∈ Region.ready md ops listed := by simpa using hr
  have h' := (h _ fun _ h => h).out hsel hQ (hc.set hri)
  exact wpAnyG_first (S := S) (T := T) (S' := fun w => pureOp o.op = false → S w) ho (Region.noSelect_spec hsel) (fun c a w => hQ c a o.dst v w) fuel listed a w hc (Region.free_spec ho hf)
    (fun j hj hji hun hre w w' hT h hpf => by
      simp only [ho, Option.map_some, Option.getD_some, hpf, Bool.false_or, List.all_eq_true, List.mem_range, Bool.or_eq_true, beq_iff_eq] at hp
      rcases hp j hj with ((h1 | h1) | h1) | h1
      · exact absurd h1 hji
      · rw [hun] at h1; cases h1
      · rw [hre] at h1; cases h1
      · exact hT h1 (h hpf))
    hri (.inl ⟨hw, hy⟩) hSw h'

end
end Go.Proofs.YtaenebdppkjhoaaGreatDoor

namespace Go.Proofs.YtaenebdppkjhoaaGreatDoor
set_option maxRecDepth 20000
open Go.RowKit

theorem an_inv {P : Program} {md : Region.Mode} {ops : Array Oper} {Q : Exit → Act → World → Prop} {S : World → Prop} {T : Nat → Bool} (I : Nat → Array Bool → Act → World → Prop)
    (h0 : ∀ listed a w, I 0 listed a w → Region.ready md ops listed = [] ∧ Q .normal a w)
    (hs : ∀ n listed a w, I (n + 1) listed a w → ∃ js : List Nat, Region.ready md ops listed = js ∧ js ≠ [] ∧ ∀ i ∈ js, GO P ops Q S T i (fun a' w' => I n (listed.setIfInBounds i true) a' w') a w) :
    ∀ {n : Nat} {listed : Array Bool} {a : Act} {w : World}, I n listed a w → AN P md ops Q S T n listed a w
  | 0, listed, a, w, h => ⟨fun _ _ _ => h0 listed a w h⟩
  | n + 1, listed, a, w, h => by
    obtain ⟨js, hr, hne, hg⟩ := hs n listed a w h
    exact ⟨fun hsel hQ hc => ⟨fun e => absurd (hr.symm.trans e) hne, fun i hi => wpOp_mono (fun _ _ h' => ⟨h'.1, (an_inv I h0 hs h'.2).out hsel hQ (hc.set hi)⟩) (hg i (hr ▸ hi)).out⟩⟩
end Go.Proofs.YtaenebdppkjhoaaGreatDoor

namespace Go.Proofs.YtaenebdppkjhoaaGreatDoor
set_option maxRecDepth 20000
open Go.RowKit

section
variable {P : Program} {w : World} {ops : Array Oper} {rest : List Oper} {a : Act} {Q : Exit → Act → World → Prop} {d : Option Tmp} {tp : TypeId} {pos : String} {af : Array Edge} {g : Nat × Bool}
end
section
variable {P : Program} {w : World}
/-- A struct is written into a row, from some place on. -/
theorem run_storeVar_atG (ty : TypeId) (g off : Nat) (cur : Array Value) (t : TypeId) (cs : List Value) (hg : w.heap[g]? = some (.cells cur t (0, 0))) (hl : off + cs.length ≤ cur.size)
    (hi : (P.info? ty).map (·.size) = some cs.length) (h1 : ∀ u ∈ cs, u.oneCell' = true) :
    (storeVar ty ⟨g, off, none⟩ (.agg cs.toArray)).run P w = .ok () (w.setRow g (cur.toList.take off ++ cs ++ cur.toList.drop (off + cs.length)).toArray) := by
  have hst := run_storeCells_at P g off t cs 0 cur w hg (by omega) h1
  cases hq : P.info? ty with
  | none => simp [hq] at hi
  | some i =>
    have hs : i.size = cs.length := by simpa [hq] using hi
    simp only [Nat.add_zero] at hst
    simp [storeVar, Value.cells, sizeOf, typeInfo, hq, hs, hst]
theorem wp_store_atG {o : Oper} {a : Act} {K : Act → World → Prop} {Q : Exit → Act → World → Prop} (ty : TypeId) (x y : Operand) (ho : o.op = .store ty x y) (g off : Nat)
    (hx : a.eval x = .pointer (some ⟨g, off, none⟩)) (cur : Array Value) (t : TypeId) (hg : w.heap[g]? = some (.cells cur t (0, 0))) (cs : List Value) (hy : a.eval y = .agg cs.toArray) (hl : off + cs.length ≤ cur.size)
    (hi : (P.info? ty).map (·.size) = some cs.length) (h1 : ∀ u ∈ cs, u.oneCell' = true)
    (h : K (a.put o.dst undef) (w.setRow g (cur.toList.take off ++ cs ++ cur.toList.drop (off + cs.length)).toArray)) : o.wp P a w K Q := by
  have hr := run_storeVar_atG (P := P) (w := w) ty g off cur t cs hg hl hi h1
  unfold Oper.wp execOp
  simp only [ho, hx, hy, Instr.storeAt, Instr.sureAddr, Sem.run_bind, Sem.run_pure, Result.andThen_ok, hr]
  exact h
end
end Go.Proofs.YtaenebdppkjhoaaGreatDoor

namespace Go.Proofs.YtaenebdppkjhoaaGreatDoor
set_option maxRecDepth 20000
open Go.RowKit

/-- Whose blocks a round writes. -/
def CrF (c j t : Nat) : Prop := t = c ∨ t = c + 1 + j ∨ t = c + 5 + j ∨ t = c + 9 + j ∨ t = c + 13 + j
/-- What has been made of a realm so far. -/
structure CrSt (w0 wr : World) (owr : Ow) (c j : Nat) (x8 x9 x10 x11 : Option Nat) (y : World) (oy : Ow) : Prop where
  mv : Mov (CrF c j) wr owr y oy
  o : Owd w0 y oy
  f8 : ∀ b, x8 = some b → TabC y oy (c + 1 + j) b [] 0
  f9 : ∀ b, x9 = some b → IdxC y oy (c + 5 + j) b [] 0
  f10 : ∀ b, x10 = some b → SubsC y oy (c + 9 + j) b []
  f11 : ∀ b, x11 = some b → SentC y oy (c + 13 + j) b (fun _ => []) 0
section
variable {w0 wr y y' : World} {owr oy oy' : Ow} {c j : Nat} {x8 x9 x10 x11 : Option Nat}
/-- A step by one owner leaves the others' parts. -/
theorem CrSt.keep {t0 : Nat} (h : CrSt w0 wr owr c j x8 x9 x10 x11 y oy) (s : Mov (fun t => t = t0) y oy y' oy') (h2 : 2 ≤ c) (hj : j < 4) (ht : CrF c j t0) :
    Mov (CrF c j) wr owr y' oy' ∧ Owd w0 y' oy' ∧ (t0 ≠ c + 1 + j → ∀ b, x8 = some b → TabC y' oy' (c + 1 + j) b [] 0) ∧ (t0 ≠ c + 5 + j → ∀ b, x9 = some b → IdxC y' oy' (c + 5 + j) b [] 0) ∧
      (t0 ≠ c + 9 + j → ∀ b, x10 = some b → SubsC y' oy' (c + 9 + j) b []) ∧ (t0 ≠ c + 13 + j → ∀ b, x11 = some b → SentC y' oy' (c + 13 + j) b (fun _ => []) 0) := by
  have hn0 : ¬ (0 = t0) := by unfold CrF at ht; omega
  exact ⟨h.mv.trans (s.mono fun t e => e ▸ ht), s.owd h.o hn0, fun hn b hb => (h.f8 b hb).mov h.o s hn0 (fun e => hn e.symm) (by omega), fun hn b hb => (h.f9 b hb).mov h.o s hn0 (fun e => hn e.symm) (by omega),
    fun hn b hb => (h.f10 b hb).mov s hn0 (fun e => hn e.symm), fun hn b hb => (h.f11 b hb).mov s hn0 (fun e => hn e.symm)⟩
theorem CrSt.s8 {e : Ending} (h : CrSt w0 wr owr c j none x9 x10 x11 y oy) (h2 : 2 ≤ c) (hj : j < 4) (hp : TNewPost y e y') : ∃ b oy', e = .returned (ptr b) ∧ CrSt w0 wr owr c j (some b) x9 x10 x11 y' oy' ∧ Mov (fun t => t = c + 1 + j) y oy y' oy' := by
  obtain ⟨b, own, rfl, hT, ho, hm⟩ := hp
  have hmv : Mov (fun t => t = c + 1 + j) y oy y' (tagNew y y' oy own (fun _ => False) (c + 1 + j)) := Mov.tag rfl (hm.mono (fun _ _ h => h.elim))
  obtain ⟨a1, a2, a3, a4, a5, a6⟩ := h.keep hmv h2 hj (.inr (.inl rfl))
  refine ⟨b, _, rfl, ⟨a1, a2, fun b' hb => ?_, a4 (by omega), a5 (by omega), a6 (by omega)⟩, hmv⟩
  cases hb
  exact TabC.new h.o (by omega) hT (fun k hk => .inr (ho k hk)) (fun k hk => hk.elim) (hm.mono (fun _ _ h => h.elim))
theorem CrSt.s9 {e : Ending} (h : CrSt w0 wr owr c j x8 none x10 x11 y oy) (h2 : 2 ≤ c) (hj : j < 4) (hp : INewPost y e y') : ∃ b oy', e = .returned (ptr b) ∧ CrSt w0 wr owr c j x8 (some b) x10 x11 y' oy' ∧ Mov (fun t => t = c + 5 + j) y oy y' oy' := by
  obtain ⟨b, own, rfl, hT, ho, hm⟩ := hp
  have hmv : Mov (fun t => t = c + 5 + j) y oy y' (tagNew y y' oy own (fun _ => False) (c + 5 + j)) := Mov.tag rfl (hm.mono (fun _ _ h => h.elim))
  obtain ⟨a1, a2, a3, a4, a5, a6⟩ := h.keep hmv h2 hj (.inr (.inr (.inl rfl)))
  refine ⟨b, _, rfl, ⟨a1, a2, a3 (by omega), fun b' hb => ?_, a5 (by omega), a6 (by omega)⟩, hmv⟩
  cases hb
  exact IdxC.new h.o (by omega) hT (fun k hk => .inr (ho k hk).1) (fun k _ h => h) (fun k hk => hk.elim) (hm.mono (fun _ _ h => h.elim))
theorem CrSt.s10 (h : CrSt w0 wr owr c j x8 x9 none x11 y oy) (h2 : 2 ≤ c) (hj : j < 4) : ∃ oy', CrSt w0 wr owr c j x8 x9 (some y.heap.size) x11 (y.alloc (.map #[] 0)) oy' ∧ Mov (fun t => t = c + 9 + j) y oy (y.alloc (.map #[] 0)) oy' := by
  have hmv : Mov (fun t => t = c + 9 + j) y oy (y.alloc (.map #[] 0)) (tagOne oy y.heap.size (c + 9 + j)) := Mov.alloc h.o _ _ (.inr (.inr rfl))
  obtain ⟨a1, a2, a3, a4, a5, a6⟩ := h.keep hmv h2 hj (.inr (.inr (.inr (.inl rfl))))
  refine ⟨_, ⟨a1, a2, a3 (by omega), a4 (by omega), fun b' hb => ?_, a6 (by omega)⟩, hmv⟩
  cases hb
  exact ⟨tagOne_at _ _ _, List.nodup_nil, _, MapR.made y 3, fun id => trivial⟩
theorem CrSt.s11 (h : CrSt w0 wr owr c j x8 x9 x10 none y oy) (h2 : 2 ≤ c) (hj : j < 4) : ∃ oy', CrSt w0 wr owr c j x8 x9 x10 (some y.heap.size) (y.alloc (.map #[] 0)) oy' ∧ Mov (fun t => t = c + 13 + j) y oy (y.alloc (.map #[] 0)) oy' := by
  have hmv : Mov (fun t => t = c + 13 + j) y oy (y.alloc (.map #[] 0)) (tagOne oy y.heap.size (c + 13 + j)) := Mov.alloc h.o _ _ (.inr (.inr rfl))
  obtain ⟨a1, a2, a3, a4, a5, a6⟩ := h.keep hmv h2 hj (.inr (.inr (.inr (.inr rfl))))
  refine ⟨_, ⟨a1, a2, a3 (by omega), a4 (by omega), a5 (by omega), fun b' hb => ?_⟩, hmv⟩
  cases hb
  exact ⟨tagOne_at _ _ _, ⟨0, _, MapR.made y 3, Nat.le_refl _, fun id => rfl⟩, fun id => List.Pairwise.nil⟩
end
/-- What a slot holds: what has been made, or what it held. -/
def ov (u : Value) (f : Nat → Value) : Option Nat → Value
  | some b => f b
  | none => u
/-- How many steps are done: d of the last three. -/
def crN (x8 x9 x10 x11 : Option Nat) (d : Nat) : Nat := (if x8.isSome then 1 else 0) + (if x9.isSome then 1 else 0) + (if x10.isSome then 1 else 0) + (if x11.isSome then 1 else 0) + d
def crL (x8 x9 x10 x11 : Option Nat) (d : Nat) : Array Bool := #[true, true, x8.isSome, x9.isSome, x10.isSome, x11.isSome, Nat.ble 1 d, true, true, Nat.ble 2 d, Nat.ble 3 d]
def mapV (b : Nat) : Value := .map (some b)
/-- The slots. -/
def crA (g j : Nat) (u8 u9 u10 u11 u12 u15 u16 : Value) (x8 x9 x10 x11 : Option Nat) (d : Nat) : Act :=
  ⟨#[.pointer (some ⟨g, 0, none⟩), undef, .int .i64 j, .int .i64 j, .bool true, .int .i64 j, .pointer (some ⟨g, 0, none⟩), .int .i64 j, ov u8 ptr x8, ov u9 ptr x9, ov u10 mapV x10, ov u11 mapV x11,
     if Nat.ble 1 d then .agg #[ov u8 ptr x8, ov u9 ptr x9, ov u10 mapV x10, ov u11 mapV x11] else u12, .pointer (some ⟨g, 0, none⟩), .pointer (some ⟨g, 3, none⟩), if Nat.ble 2 d then .pointer (some ⟨g, 3 + 4 * j, none⟩) else u15, u16], []⟩
/-- The state of a round. -/
def CrI (w0 wr : World) (owr : Ow) (c g j : Nat) (row : List Value) (u8 u9 u10 u11 u12 u15 u16 : Value) (n : Nat) (listed : Array Bool) (A : Act) (y : World) : Prop :=
  ∃ (x8 x9 x10 x11 : Option Nat) (d : Nat) (oy : Ow), crN x8 x9 x10 x11 d + n = 7 ∧ (x9.isSome = true → x8.isSome = true) ∧ d ≤ 3 ∧ (0 < d → x9.isSome = true ∧ x10.isSome = true ∧ x11.isSome = true) ∧ listed = crL x8 x9 x10 x11 d ∧ A = crA g j u8 u9 u10 u11 u12 u15 u16 x8 x9 x10 x11 d ∧
    CrSt w0 wr owr c j x8 x9 x10 x11 y oy ∧ y.heap[g]? = some (.cells (if Nat.ble 3 d then row.take (3 + 4 * j) ++ [ov u8 ptr x8, ov u9 ptr x9, ov u10 mapV x10, ov u11 mapV x11] ++ row.drop (3 + 4 * j + 4) else row).toArray 62 (0, 0)) ∧ oy g = c
end Go.Proofs.YtaenebdppkjhoaaGreatDoor
