/-
  The order of texts, and strings.Compare.
  A region that draws its order, walked by a script: what only reads (rd), what stands alone (go), two that may come in either order (both).
  strings.Cut at '/'.
-/
import Derived.Test.YtloplmaekonenaaGreatDoorZi4
import Derived.Lib.Bytealg
import Derived.Test.YtloplmaekonenaaGreatDoorZi5
namespace Go.Proofs.YtloplmaekonenaaGreatDoor
set_option maxRecDepth 20000
open Go.RowKit
theorem less_cons (a b : UInt8) (s t : List UInt8) : Op.bytesLess (a :: s) (b :: t) = if a < b then true else if b < a then false else Op.bytesLess s t := by
  rw [Op.bytesLess]
  by_cases h1 : a < b
  · simp [h1]
  · by_cases h2 : b < a
    · have h3 : (a == b) = false := by
        rw [beq_eq_false_iff_ne]
        rintro rfl
        exact h1 h2
      simp [h1, h2, h3]
    · have h3 : a = b := UInt8.toNat.inj (by
        have h4 : ¬ a.toNat < b.toNat := h1
        have h5 : ¬ b.toNat < a.toNat := h2
        omega)
      simp [h3]
theorem cmp_cons (a b : UInt8) (s t : List UInt8) : Lib.compareBytes (a :: s) (b :: t) = if a < b then -1 else if b < a then 1 else Lib.compareBytes s t := by
  rw [Lib.compareBytes]
theorem cmp_less : ∀ a b : List UInt8, (Lib.compareBytes a b < 0) ↔ Op.bytesLess a b = true
  | [], [] => by decide
  | [], b :: t => by simp [Lib.compareBytes, Op.bytesLess]
  | a :: s, [] => by simp [Lib.compareBytes, Op.bytesLess]
  | a :: s, b :: t => by
    rw [less_cons, cmp_cons]
    split
    · simp
    · split
      · simp
      · exact cmp_less s t
theorem cmp_zero : ∀ a b : List UInt8, (Lib.compareBytes a b = 0) ↔ a = b
  | [], [] => by decide
  | [], b :: t => by simp [Lib.compareBytes]
  | a :: s, [] => by simp [Lib.compareBytes]
  | a :: s, b :: t => by
    rw [cmp_cons]
    split
    · rename_i h
      constructor
      · intro h'; cases h'
      · intro h'; cases h'; exact absurd h (by simp)
    · rename_i h
      split
      · rename_i h1
        constructor
        · intro h'; cases h'
        · intro h'; cases h'; exact absurd h1 h
      · rename_i h1
        have hab : a = b := by
          have h2 : ¬ a.toNat < b.toNat := h
          have h3 : ¬ b.toNat < a.toNat := h1
          exact UInt8.toNat.inj (by omega)
        subst hab
        rw [cmp_zero s t]
        simp
theorem less_trans : ∀ a b c : List UInt8, Op.bytesLess a b = true → Op.bytesLess b c = true → Op.bytesLess a c = true
  | _, [], [], _, h => by simp [Op.bytesLess] at h
  | [], [], _ :: _, h, _ => by simp [Op.bytesLess] at h
  | _ :: _, [], _ :: _, h, _ => by simp [Op.bytesLess] at h
  | _, _ :: _, [], _, h => by simp [Op.bytesLess] at h
  | [], _ :: _, _ :: _, _, _ => by simp [Op.bytesLess]
  | a :: s, b :: t, c :: u, h, k => by
    rw [less_cons] at h k ⊢
    have e : ∀ x y : UInt8, x < y ↔ x.toNat < y.toNat := fun _ _ => Iff.rfl
    by_cases h1 : a < b
    · by_cases k1 : b < c
      · rw [if_pos (by rw [e] at *; omega)]
      · by_cases k2 : c < b
        · rw [if_neg k1, if_pos k2] at k; cases k
        · rw [if_pos (by rw [e] at *; omega)]
    · by_cases h2 : b < a
      · rw [if_neg h1, if_pos h2] at h; cases h
      · rw [if_neg h1, if_neg h2] at h
        by_cases k1 : b < c
        · rw [if_pos (by rw [e] at *; omega)]
        · by_cases k2 : c < b
          · rw [if_neg k1, if_pos k2] at k; cases k
          · rw [if_neg k1, if_neg k2] at k
            rw [if_neg (by rw [e] at *; omega), if_neg (by rw [e] at *; omega)]
            exact less_trans s t u h k
theorem less_total (a b : List UInt8) (h : Op.bytesLess a b = false) (hne : a ≠ b) : Op.bytesLess b a = true := by
  induction a generalizing b with
  | nil => cases b with
    | nil => exact absurd rfl hne
    | cons b t => simp [Op.bytesLess] at h
  | cons a s ih => cases b with
    | nil => simp [Op.bytesLess]
    | cons b t =>
      rw [less_cons] at h ⊢
      by_cases h1 : a < b
      · rw [if_pos h1] at h; cases h
      · rw [if_neg h1] at h
        by_cases h2 : b < a
        · rw [if_pos h2]
        · rw [if_neg h2] at h
          rw [if_neg h2, if_neg h1]
          have hab : a = b := by
            have h2 : ¬ b.toNat < a.toNat := h2
            have h3 : ¬ a.toNat < b.toNat := h1
            exact UInt8.toNat.inj (by omega)
          subst hab
          exact ih t h (fun h => hne (by rw [h]))
theorem cmps_at (a b : ByteArray) (w : World) : Calls Tryz.prog 132 #[.string a, .string b] w fun e w' => e = .returned (.int .i64 (Lib.compareBytes a.data.toList b.data.toList)) ∧ w' = w := by
  go_enter Tryz.func132, Tryz.ntmps132
  go_wp2
  rw [run_callFunc_extern Tryz.func163 (by kernel_rfl) (by kernel_rfl) (by kernel_rfl) (e := Extern.BytealgCompare.compare) (by kernel_rfl), Lib.run_compareString]
  simp only [Result.andThen]
  rw [Oper.upon_value]
  go_wp2
  go_ret
  exact ⟨rfl, rfl⟩
theorem cmp_at (a b : ByteArray) (w : World) : Calls Tryz.prog 92 #[.string a, .string b] w fun e w' => e = .returned (.int .i64 (Lib.compareBytes a.data.toList b.data.toList)) ∧ w' = w := by
  go_enter Tryz.func92, Tryz.ntmps92
  go_wp2_with fail
  refine (cmps_at a b w).mono ?_
  rintro e w' ⟨rfl, rfl⟩
  go_wp2
  go_ret
  exact ⟨rfl, rfl⟩
end Go.Proofs.YtloplmaekonenaaGreatDoor
namespace Go.Proofs.YtloplmaekonenaaGreatDoor
set_option maxRecDepth 20000
open Go.RowKit
inductive Stp where
  | rd (i : Nat)
  | go (i : Nat)
  | both (i j : Nat)
section
variable {P : Program} {ops : Array Oper} {Q : Exit → Act → World → Prop} {md : Region.Mode} {S : World → Prop} {T : Nat → Bool}
def scriptOk (md : Region.Mode) (ops : Array Oper) (T : Nat → Bool) : List Stp → Array Bool → Bool
  | [], listed => (Region.ready md ops listed).isEmpty
  | .rd i :: r, listed => decide (i < ops.size) && Region.free md ops listed i && (Region.ready md ops listed).contains i &&
      (((ops[i]?).map (fun o => pureOp o.op)).getD false || (List.range ops.size).all fun j => j == i || listed.getD j true || reachB md ops ops.size j i || T j) &&
      scriptOk md ops T r (listed.setIfInBounds i true)
  | .go i :: r, listed => Region.ready md ops listed == [i] && scriptOk md ops T r (listed.setIfInBounds i true)
  | .both i j :: r, listed => decide (i ≠ j) && Region.ready md ops listed == [i, j] && Region.ready md ops (listed.setIfInBounds i true) == [j] && Region.ready md ops (listed.setIfInBounds j true) == [i] &&
      scriptOk md ops T r ((listed.setIfInBounds i true).setIfInBounds j true)
def count : List Stp → Nat
  | [] => 0
  | .rd _ :: r => count r + 1
  | .go _ :: r => count r + 1
  | .both _ _ :: r => count r + 2
def goOp (P : Program) (ops : Array Oper) (Q : Exit → Act → World → Prop) (S : World → Prop) (T : Nat → Bool) (i : Nat) (K : Act → World → Prop) (a : Act) (w : World) : Prop :=
  wpOp P ops Q i (fun a' w' => (T i = true → S w → S w') ∧ K a' w') a w
def walkM (P : Program) (ops : Array Oper) (Q : Exit → Act → World → Prop) (S : World → Prop) (T : Nat → Bool) : List Stp → Act → World → Prop
  | [], a, w => Q .normal a w
  | .rd i :: r, a, w => ∀ o, ops[i]? = some o → (pureOp o.op = false → S w) ∧ ∃ v, YieldsIf P ops (fun w => pureOp o.op = false → S w) o v a ∧ walkM P ops Q S T r (a.put o.dst v) w
  | .go i :: r, a, w => goOp P ops Q S T i (fun a' w' => walkM P ops Q S T r a' w') a w
  | .both i j :: r, a, w => goOp P ops Q S T i (goOp P ops Q S T j (fun a' w' => walkM P ops Q S T r a' w')) a w ∧ goOp P ops Q S T j (goOp P ops Q S T i (fun a' w' => walkM P ops Q S T r a' w')) a w
theorem goOp_mono {i : Nat} {K K' : Act → World → Prop} {a : Act} {w : World} (h : ∀ a w, K a w → K' a w) (hh : goOp P ops Q S T i K a w) : goOp P ops Q S T i K' a w :=
  wpOp_mono (fun a' w' h' => ⟨h'.1, h a' w' h'.2⟩) hh
theorem walk_all (hsel : Region.noSelect ops = true) (hQ : ∀ (c : List PanicEntry) (a : Act) (d : Option Tmp) (v : Value) (w : World), Q (.panic c) (a.put d v) w → Q (.panic c) a w) :
    ∀ (r : List Stp) (listed : Array Bool) (a : Act) (w : World), scriptOk md ops T r listed = true → ClosedL md ops listed → walkM P ops Q S T r a w → wpAnyG P md ops Q S T (count r) listed a w
  | [], listed, a, w, hok, _, h => by
    simp only [scriptOk, List.isEmpty_iff] at hok
    exact ⟨hok, h⟩
  | .rd i :: r, listed, a, w, hok, hc, h => by
    simp only [scriptOk, Bool.and_eq_true, decide_eq_true_eq] at hok
    obtain ⟨⟨⟨⟨hi, hf⟩, hr⟩, hp⟩, hok⟩ := hok
    obtain ⟨o, ho⟩ : ∃ o, ops[i]? = some o := ⟨_, Array.getElem?_eq_getElem hi⟩
    obtain ⟨hSw, v, hy, h⟩ := h o ho
    have hri : i ∈ Region.ready md ops listed := by simpa using hr
    exact wpAnyG_first (S := S) (T := T) (S' := fun w => pureOp o.op = false → S w) ho (Region.noSelect_spec hsel) (fun c a w => hQ c a o.dst v w) (count r) listed a w hc (Region.free_spec ho hf)
      (fun j hj hji hun hre w w' hT h hpf => by
        simp only [ho, Option.map_some, Option.getD_some, hpf, Bool.false_or, List.all_eq_true, List.mem_range, Bool.or_eq_true, beq_iff_eq] at hp
        rcases hp j hj with ((h1 | h1) | h1) | h1
        · exact absurd h1 hji
        · rw [hun] at h1; cases h1
        · rw [hre] at h1; cases h1
        · exact hT h1 (h hpf))
      hri hy hSw (walk_all hsel hQ r (listed.setIfInBounds i true) (a.put o.dst v) w hok (hc.set hri) h)
  | .go i :: r, listed, a, w, hok, hc, h => by
    simp only [scriptOk, Bool.and_eq_true, beq_iff_eq] at hok
    obtain ⟨hr, hok⟩ := hok
    have hri : i ∈ Region.ready md ops listed := by rw [hr]; simp
    refine ⟨fun h0 => (by rw [hr] at h0; cases h0), fun j hj => ?_⟩
    rw [hr] at hj
    obtain rfl : j = i := by simpa using hj
    have h : goOp P ops Q S T j (fun a' w' => walkM P ops Q S T r a' w') a w := h
    exact wpOp_mono (fun a' w' h' => ⟨h'.1, walk_all hsel hQ r _ a' w' hok (hc.set hri) h'.2⟩) h
  | .both i j :: r, listed, a, w, hok, hc, h => by
    simp only [scriptOk, Bool.and_eq_true, beq_iff_eq, decide_eq_true_eq] at hok
    obtain ⟨⟨⟨⟨hij, hr⟩, hr1⟩, hr2⟩, hok⟩ := hok
    have hri : i ∈ Region.ready md ops listed := by rw [hr]; simp
    have hrj : j ∈ Region.ready md ops listed := by rw [hr]; simp
    have hrj2 : j ∈ Region.ready md ops (listed.setIfInBounds i true) := by rw [hr1]; simp
    refine ⟨fun h0 => (by rw [hr] at h0; cases h0), fun k hk => ?_⟩
    rw [hr] at hk
    have hk' : k = i ∨ k = j := by simpa using hk
    have hA : goOp P ops Q S T i (goOp P ops Q S T j (fun a' w' => walkM P ops Q S T r a' w')) a w := h.1
    have hB : goOp P ops Q S T j (goOp P ops Q S T i (fun a' w' => walkM P ops Q S T r a' w')) a w := h.2
    rcases hk' with rfl | rfl
    · refine wpOp_mono (fun a' w' h' => ⟨h'.1, ?_⟩) hA
      refine ⟨fun h0 => (by rw [hr1] at h0; cases h0), fun k' hk' => ?_⟩
      rw [hr1] at hk'
      obtain rfl : k' = j := by simpa using hk'
      exact wpOp_mono (fun a' w' h' => ⟨h'.1, walk_all hsel hQ r _ a' w' hok ((hc.set hri).set hrj2) h'.2⟩) h'.2
    · refine wpOp_mono (fun a' w' h' => ⟨h'.1, ?_⟩) hB
      refine ⟨fun h0 => (by rw [hr2] at h0; cases h0), fun k' hk' => ?_⟩
      rw [hr2] at hk'
      obtain rfl : k' = i := by simpa using hk'
      rw [Array.setIfInBounds_comm _ _ hij.symm]
      exact wpOp_mono (fun a' w' h' => ⟨h'.1, walk_all hsel hQ r _ a' w' hok ((hc.set hri).set hrj2) h'.2⟩) h'.2
structure WM (P : Program) (ops : Array Oper) (Q : Exit → Act → World → Prop) (S : World → Prop) (T : Nat → Bool) (r : List Stp) (a : Act) (w : World) : Prop where
  out : walkM P ops Q S T r a w
structure GO (P : Program) (ops : Array Oper) (Q : Exit → Act → World → Prop) (S : World → Prop) (T : Nat → Bool) (i : Nat) (K : Act → World → Prop) (a : Act) (w : World) : Prop where
  out : goOp P ops Q S T i K a w
theorem wp_region_script {id : Nat} {a : Act} {w : World} {l : List Oper} (r : List Stp) (ks : List Nat) (S : World → Prop) (hm : P.follows .mixedOrders = true)
    (hB : (Region.noSelect l.toArray && (decide (count r = l.length) && scriptOk .any l.toArray (fun j => ks.contains j) r (Array.replicate l.toArray.size false))) = true)
    (hQ : ∀ (c : List PanicEntry) (a : Act) (d : Option Tmp) (v : Value) (w : World), Q (.panic c) (a.put d v) w → Q (.panic c) a w)
    (h : WM P l.toArray Q S (fun j => ks.contains j) r a w.drew) : (Code.region id l.toArray true).wp P Q a w := by
  simp only [Bool.and_eq_true, decide_eq_true_eq] at hB
  obtain ⟨hsel, hlen, hok⟩ := hB
  have hcl : ClosedL .any l.toArray (Array.replicate l.toArray.size false) := fun j oj _ hl => by
    exfalso
    rcases Nat.lt_or_ge j l.toArray.size with h' | h' <;> simp_all
  refine wp_region_any hm (wpAny_of_G (S := S) (T := fun j => ks.contains j) _ _ _ _ ?_)
  have key := walk_all (md := .any) (ops := l.toArray) (P := P) (Q := Q) (S := S) (T := fun j => ks.contains j) hsel hQ r (Array.replicate l.toArray.size false) a w.drew hok hcl h.out
  rw [hlen] at key
  simpa using key
theorem walk_nil {a : Act} {w : World} (h : Q .normal a w) : WM P ops Q S T [] a w := ⟨h⟩
theorem walk_rd {i : Nat} {r : List Stp} {o : Oper} {a : Act} {w : World} (ho : ops[i]? = some o) (hw : Region.wanted o (yielded ops a.tmps) = true) (hSw : pureOp o.op = false → S w) (v : Value)
    (hy : ∀ w, (pureOp o.op = false → S w) → (execOp a.eval o).run P w = .ok (.value v) w)
    (h : ∀ K : Act → Prop, (∀ a', WM P ops Q S T r a' w → K a') → K (a.put o.dst v)) : WM P ops Q S T (.rd i :: r) a w :=
  ⟨fun o' ho' => by
    obtain rfl : o = o' := Option.some.inj (ho.symm.trans ho')
    exact ⟨hSw, v, .inl ⟨hw, hy⟩, h _ fun _ h => h.out⟩⟩
theorem go_yes {i : Nat} {o : Oper} {K : Act → World → Prop} {a : Act} {w : World} (ho : ops[i]? = some o) (hw : Region.wanted o (yielded ops a.tmps) = true)
    (h : ∀ K' : Act → World → Prop, (∀ a' w', (T i = true → S w → S w') → K a' w' → K' a' w') → o.wp P a w K' Q) : GO P ops Q S T i K a w := by
  constructor
  unfold goOp wpOp
  simp only [ho]
  rw [if_pos hw]
  exact .inl (h _ fun _ _ h1 h2 => ⟨h1, h2⟩)
theorem walk_one {i : Nat} {r : List Stp} {a : Act} {w : World} (h : GO P ops Q S T i (fun a' w' => WM P ops Q S T r a' w') a w) : WM P ops Q S T (.go i :: r) a w := by
  constructor
  show goOp P ops Q S T i (fun a' w' => walkM P ops Q S T r a' w') a w
  exact goOp_mono (fun _ _ h' => h'.out) h.out
theorem walk_both {i j : Nat} {r : List Stp} {a : Act} {w : World} (h1 : GO P ops Q S T i (fun a1 w1 => GO P ops Q S T j (fun a' w' => WM P ops Q S T r a' w') a1 w1) a w)
    (h2 : GO P ops Q S T j (fun a1 w1 => GO P ops Q S T i (fun a' w' => WM P ops Q S T r a' w') a1 w1) a w) : WM P ops Q S T (.both i j :: r) a w := by
  constructor
  show goOp P ops Q S T i (goOp P ops Q S T j (fun a' w' => walkM P ops Q S T r a' w')) a w ∧ goOp P ops Q S T j (goOp P ops Q S T i (fun a' w' => walkM P ops Q S T r a' w')) a w
  exact ⟨goOp_mono (fun _ _ h' => goOp_mono (fun _ _ h'' => h''.out) h'.out) h1.out, goOp_mono (fun _ _ h' => goOp_mono (fun _ _ h'' => h''.out) h'.out) h2.out⟩
theorem walk_both_via {i j : Nat} {r : List Stp} {a : Act} {w : World} (di dj : Option Tmp) (R : Value → Value → World → Prop)
    (h1 : GO P ops Q S T i (fun a1 w1 => GO P ops Q S T j (fun a' w' => ∃ x y, a' = (a.put di x).put dj y ∧ R x y w') a1 w1) a w)
    (h2 : GO P ops Q S T j (fun a1 w1 => GO P ops Q S T i (fun a' w' => ∃ x y, a' = (a.put di x).put dj y ∧ R x y w') a1 w1) a w)
    (h : ∀ x y w', R x y w' → ∀ K : Act → World → Prop, (∀ a' w', WM P ops Q S T r a' w' → K a' w') → K ((a.put di x).put dj y) w') : WM P ops Q S T (.both i j :: r) a w := by
  have hh : ∀ a' w', (∃ x y, a' = (a.put di x).put dj y ∧ R x y w') → WM P ops Q S T r a' w' := by
    rintro _ w' ⟨x, y, rfl, hR⟩
    exact h x y w' hR (fun a' w' => WM P ops Q S T r a' w') (fun _ _ h => h)
  exact walk_both ⟨goOp_mono (fun _ _ h' => ⟨goOp_mono (fun _ _ h'' => hh _ _ h'') h'.out⟩) h1.out⟩ ⟨goOp_mono (fun _ _ h' => ⟨goOp_mono (fun _ _ h'' => hh _ _ h'') h'.out⟩) h2.out⟩
end
end Go.Proofs.YtloplmaekonenaaGreatDoor
namespace Go.Proofs.YtloplmaekonenaaGreatDoor
set_option maxRecDepth 20000
open Go.RowKit
theorem idxs_at (s : ByteArray) (w : World) : Calls Tryz.prog 186 #[.string s, .int .u8 47] w fun e w' => e = .returned (.int .i64 (Lib.indexByte s.data.toList 47)) ∧ w' = w := by
  go_enter Tryz.func186, Tryz.ntmps186
  go_wp2
  rw [run_callFunc_extern Tryz.func216 (by kernel_rfl) (by kernel_rfl) (by kernel_rfl) (e := Extern.BytealgIndexByte.indexByte) (by kernel_rfl), Lib.run_indexByteString]
  simp only [Result.andThen]
  rw [Oper.upon_value]
  go_wp2
  go_ret
  exact ⟨rfl, rfl⟩
set_option maxHeartbeats 1000000 in
set_option maxRecDepth 20000 in
theorem idx_at (s : ByteArray) (w : World) : Calls Tryz.prog 146 #[.string s, .string ⟨#[47]⟩] w fun e w' => e = .returned (.int .i64 (Lib.indexByte s.data.toList 47)) ∧ w' = w := by
  have hi := idxs_at s w
  obtain ⟨R, hR⟩ : ∃ R, Lib.indexByte s.data.toList 47 = R := ⟨_, rfl⟩
  rw [hR] at hi ⊢
  have Hi := Lib.hid hi
  have HR := Lib.hid hR
  clear hi hR
  cases he : ([47] : List UInt8) == s.toList with
  | true =>
    go_enter Tryz.func146, Tryz.ntmps146
    go_wp2_with fail
    go_ret
    refine ⟨?_, rfl⟩
    have hs : s.data.toList = [47] := by rw [← ByteArray.toList_eq]; exact (beq_iff_eq.1 he).symm
    have h0 : R = 0 := by rw [← HR.out, hs]; rfl
    rw [h0]
    rfl
  | false =>
    go_enter Tryz.func146, Tryz.ntmps146
    go_wp2_with fail
    refine Hi.out.mono ?_
    rintro e w' ⟨rfl, rfl⟩
    go_wp2
    go_ret
    exact ⟨rfl, rfl⟩
theorem indexByte_cases : ∀ (l : List UInt8) (c : UInt8), Lib.indexByte l c = -1 ∨ ∃ i : Nat, Lib.indexByte l c = i
  | [], c => .inl rfl
  | b :: l, c => by
    rw [Lib.indexByte]
    split
    · exact .inr ⟨0, rfl⟩
    · rcases indexByte_cases l c with h | ⟨i, h⟩
      · rw [h]; exact .inl rfl
      · rw [h]
        split
        · exact .inl rfl
        · exact .inr ⟨i + 1, by omega⟩
theorem indexByte_lt : ∀ {l : List UInt8} {c : UInt8} {i : Nat}, Lib.indexByte l c = i → i < l.length
  | [], c, i, h => by simp [Lib.indexByte] at h
  | b :: l, c, i, h => by
    rw [Lib.indexByte] at h
    rw [List.length_cons]
    split at h
    · omega
    · rcases indexByte_cases l c with h1 | ⟨k, h1⟩
      · rw [h1] at h
        have h : (-1 : Int) = i := h
        omega
      · have := indexByte_lt h1
        rw [h1] at h
        split at h <;> omega
set_option maxHeartbeats 1000000 in
theorem cuts_yes (s : ByteArray) (hs : s.size ≤ 9223372036854775807) (I : Nat) (hI : Lib.indexByte s.data.toList 47 = I) (w : World) :
    Calls Tryz.prog 117 #[.string s, .string ⟨#[47]⟩] w fun e w' => e = .returned (.tuple #[.string (s.extract 0 I), .string (s.extract (I + 1) s.size), .bool true]) ∧ Mod (fun _ => False) w w' := by
  have hi := idx_at s w
  rw [hI] at hi
  have hlt : I < s.size := indexByte_lt hI
  have hlt' : (I : Int) < s.size := by omega
  have hs' : (s.size : Int) ≤ 9223372036854775807 := by omega
  have Hi := Lib.hid hi
  clear hi hI hs
  go_enter Tryz.func117, Tryz.ntmps117
  go_wp2_with fail
  refine Hi.out.mono ?_
  rintro e w' ⟨rfl, rfl⟩
  go_wp2_with fail
  have hi2 : (I : Int) ≤ s.size := by omega
  have hi3 : (I : Int) + 1 ≤ s.size := by omega
  have hw3 : IntKind.i64.wrap ((I : Int) + 1) = (I : Int) + 1 := by rw [IntKind.wrap_i64]; omega
  have hb3 : (0 : Int) ≤ (I : Int) + 1 := by omega
  have htn2 : ((I : Int) + 1).toNat = I + 1 := by omega
  have hS : (fun _ : World => True) w'.drew := trivial
  refine wp_region_script [.rd 0, .rd 1, .rd 2, .rd 3, .rd 4, .rd 5, .rd 6, .rd 7, .rd 8, .rd 9, .rd 10, .rd 11] [] (fun _ : World => True) (by kernel_rfl) (by kernel_rfl) (fun _ _ d _ _ h => (by cases d <;> exact h)) ?_
  refine walk_rd rfl ?_ (fun _ => hS) ?_ (fun w0 h0 => ?_) (fun K hK => ?_)
  · (try simp only [List.getElem_toArray]); (try simp only [List.getElem_cons_succ]); (try simp only [List.getElem_cons_zero])
    go_simp; done
  rotate_left
  · (try simp only [List.getElem_toArray]); (try simp only [List.getElem_cons_succ]); (try simp only [List.getElem_cons_zero])
    first
      | (obtain - := h0 rfl; clear h0; go_simp; with_reducible rfl)
      | (clear h0; go_simp; with_reducible rfl)
  (try simp only [List.getElem_toArray]); (try simp only [List.getElem_cons_succ]); (try simp only [List.getElem_cons_zero])
  go_simp; refine hK _ ?_; clear hK K
  refine walk_rd rfl ?_ (fun _ => hS) ?_ (fun w0 h0 => ?_) (fun K hK => ?_)
  · (try simp only [List.getElem_toArray]); (try simp only [List.getElem_cons_succ]); (try simp only [List.getElem_cons_zero])
    go_simp; done
  rotate_left
  · (try simp only [List.getElem_toArray]); (try simp only [List.getElem_cons_succ]); (try simp only [List.getElem_cons_zero])
    first
      | (obtain - := h0 rfl; clear h0; go_simp; with_reducible rfl)
      | (clear h0; go_simp; with_reducible rfl)
  (try simp only [List.getElem_toArray]); (try simp only [List.getElem_cons_succ]); (try simp only [List.getElem_cons_zero])
  go_simp; refine hK _ ?_; clear hK K
  refine walk_rd rfl ?_ (fun _ => hS) ?_ (fun w0 h0 => ?_) (fun K hK => ?_)
  · (try simp only [List.getElem_toArray]); (try simp only [List.getElem_cons_succ]); (try simp only [List.getElem_cons_zero])
    go_simp; done
  rotate_left
  · (try simp only [List.getElem_toArray]); (try simp only [List.getElem_cons_succ]); (try simp only [List.getElem_cons_zero])
    first
      | (obtain - := h0 rfl; clear h0; go_simp; with_reducible rfl)
      | (clear h0; go_simp; with_reducible rfl)
  (try simp only [List.getElem_toArray]); (try simp only [List.getElem_cons_succ]); (try simp only [List.getElem_cons_zero])
  go_simp; refine hK _ ?_; clear hK K
  refine walk_rd rfl ?_ (fun _ => hS) ?_ (fun w0 h0 => ?_) (fun K hK => ?_)
  · (try simp only [List.getElem_toArray]); (try simp only [List.getElem_cons_succ]); (try simp only [List.getElem_cons_zero])
    go_simp; done
  rotate_left
  · (try simp only [List.getElem_toArray]); (try simp only [List.getElem_cons_succ]); (try simp only [List.getElem_cons_zero])
    first
      | (obtain - := h0 rfl; clear h0; go_simp; with_reducible rfl)
      | (clear h0; go_simp; with_reducible rfl)
  (try simp only [List.getElem_toArray]); (try simp only [List.getElem_cons_succ]); (try simp only [List.getElem_cons_zero])
  go_simp; refine hK _ ?_; clear hK K
  refine walk_rd rfl ?_ (fun _ => hS) ?_ (fun w0 h0 => ?_) (fun K hK => ?_)
  · (try simp only [List.getElem_toArray]); (try simp only [List.getElem_cons_succ]); (try simp only [List.getElem_cons_zero])
    go_simp; done
  rotate_left
  · (try simp only [List.getElem_toArray]); (try simp only [List.getElem_cons_succ]); (try simp only [List.getElem_cons_zero])
    first
      | (obtain - := h0 rfl; clear h0; go_simp; with_reducible rfl)
      | (clear h0; go_simp; with_reducible rfl)
  (try simp only [List.getElem_toArray]); (try simp only [List.getElem_cons_succ]); (try simp only [List.getElem_cons_zero])
  go_simp; refine hK _ ?_; clear hK K
  refine walk_rd rfl ?_ (fun _ => hS) ?_ (fun w0 h0 => ?_) (fun K hK => ?_)
  · (try simp only [List.getElem_toArray]); (try simp only [List.getElem_cons_succ]); (try simp only [List.getElem_cons_zero])
    go_simp; done
  rotate_left
  · (try simp only [List.getElem_toArray]); (try simp only [List.getElem_cons_succ]); (try simp only [List.getElem_cons_zero])
    first
      | (obtain - := h0 rfl; clear h0; go_simp; with_reducible rfl)
      | (clear h0; go_simp; with_reducible rfl)
  (try simp only [List.getElem_toArray]); (try simp only [List.getElem_cons_succ]); (try simp only [List.getElem_cons_zero])
  go_simp; refine hK _ ?_; clear hK K
  refine walk_rd rfl ?_ (fun _ => hS) ?_ (fun w0 h0 => ?_) (fun K hK => ?_)
  · (try simp only [List.getElem_toArray]); (try simp only [List.getElem_cons_succ]); (try simp only [List.getElem_cons_zero])
    go_simp; done
  rotate_left
  · (try simp only [List.getElem_toArray]); (try simp only [List.getElem_cons_succ]); (try simp only [List.getElem_cons_zero])
    first
      | (obtain - := h0 rfl; clear h0; go_simp; with_reducible rfl)
      | (clear h0; go_simp; with_reducible rfl)
  (try simp only [List.getElem_toArray]); (try simp only [List.getElem_cons_succ]); (try simp only [List.getElem_cons_zero])
  go_simp; refine hK _ ?_; clear hK K
  refine walk_rd rfl ?_ (fun _ => hS) ?_ (fun w0 h0 => ?_) (fun K hK => ?_)
  · (try simp only [List.getElem_toArray]); (try simp only [List.getElem_cons_succ]); (try simp only [List.getElem_cons_zero])
    go_simp; done
  rotate_left
  · (try simp only [List.getElem_toArray]); (try simp only [List.getElem_cons_succ]); (try simp only [List.getElem_cons_zero])
    first
      | (obtain - := h0 rfl; clear h0; go_simp; with_reducible rfl)
      | (clear h0; go_simp; with_reducible rfl)
  (try simp only [List.getElem_toArray]); (try simp only [List.getElem_cons_succ]); (try simp only [List.getElem_cons_zero])
  go_simp; refine hK _ ?_; clear hK K
  refine walk_rd rfl ?_ (fun _ => hS) ?_ (fun w0 h0 => ?_) (fun K hK => ?_)
  · (try simp only [List.getElem_toArray]); (try simp only [List.getElem_cons_succ]); (try simp only [List.getElem_cons_zero])
    go_simp; done
  rotate_left
  · (try simp only [List.getElem_toArray]); (try simp only [List.getElem_cons_succ]); (try simp only [List.getElem_cons_zero])
    first
      | (obtain - := h0 rfl; clear h0; go_simp; with_reducible rfl)
      | (clear h0; go_simp; with_reducible rfl)
  (try simp only [List.getElem_toArray]); (try simp only [List.getElem_cons_succ]); (try simp only [List.getElem_cons_zero])
  go_simp; refine hK _ ?_; clear hK K
  refine walk_rd rfl ?_ (fun _ => hS) ?_ (fun w0 h0 => ?_) (fun K hK => ?_)
  · (try simp only [List.getElem_toArray]); (try simp only [List.getElem_cons_succ]); (try simp only [List.getElem_cons_zero])
    go_simp; done
  rotate_left
  · (try simp only [List.getElem_toArray]); (try simp only [List.getElem_cons_succ]); (try simp only [List.getElem_cons_zero])
    first
      | (obtain - := h0 rfl; clear h0; go_simp; with_reducible rfl)
      | (clear h0; go_simp; with_reducible rfl)
  (try simp only [List.getElem_toArray]); (try simp only [List.getElem_cons_succ]); (try simp only [List.getElem_cons_zero])
  go_simp; refine hK _ ?_; clear hK K
  refine walk_rd rfl ?_ (fun _ => hS) ?_ (fun w0 h0 => ?_) (fun K hK => ?_)
  · (try simp only [List.getElem_toArray]); (try simp only [List.getElem_cons_succ]); (try simp only [List.getElem_cons_zero])
    go_simp; done
  rotate_left
  · (try simp only [List.getElem_toArray]); (try simp only [List.getElem_cons_succ]); (try simp only [List.getElem_cons_zero])
    first
      | (obtain - := h0 rfl; clear h0; go_simp; with_reducible rfl)
      | (clear h0; go_simp; with_reducible rfl)
  (try simp only [List.getElem_toArray]); (try simp only [List.getElem_cons_succ]); (try simp only [List.getElem_cons_zero])
  go_simp; refine hK _ ?_; clear hK K
  refine walk_rd rfl ?_ (fun _ => hS) ?_ (fun w0 h0 => ?_) (fun K hK => ?_)
  · (try simp only [List.getElem_toArray]); (try simp only [List.getElem_cons_succ]); (try simp only [List.getElem_cons_zero])
    go_simp; done
  rotate_left
  · (try simp only [List.getElem_toArray]); (try simp only [List.getElem_cons_succ]); (try simp only [List.getElem_cons_zero])
    first
      | (obtain - := h0 rfl; clear h0; go_simp; with_reducible rfl)
      | (clear h0; go_simp; with_reducible rfl)
  (try simp only [List.getElem_toArray]); (try simp only [List.getElem_cons_succ]); (try simp only [List.getElem_cons_zero])
  go_simp; refine hK _ ?_; clear hK K
  refine walk_nil ?_
  go_wp2
  go_ret3
  exact ⟨rfl, (Mod.refl _ _).drew⟩
set_option maxHeartbeats 1000000 in
theorem cuts_no (s : ByteArray) (hI : Lib.indexByte s.data.toList 47 = -1) (w : World) :
    Calls Tryz.prog 117 #[.string s, .string ⟨#[47]⟩] w fun e w' => e = .returned (.tuple #[.string s, .string ⟨#[]⟩, .bool false]) ∧ Mod (fun _ => False) w w' := by
  have hi := idx_at s w
  rw [hI] at hi
  have Hi := Lib.hid hi
  clear hi hI
  go_enter Tryz.func117, Tryz.ntmps117
  go_wp2_with fail
  refine Hi.out.mono ?_
  rintro e w' ⟨rfl, rfl⟩
  go_wp2
  go_ret3
  exact ⟨rfl, Mod.refl _ _⟩
def cutS (s : ByteArray) : ByteArray × ByteArray × Bool := if 0 ≤ Lib.indexByte s.data.toList 47 then (s.extract 0 (Lib.indexByte s.data.toList 47).toNat, s.extract ((Lib.indexByte s.data.toList 47).toNat + 1) s.size, true) else (s, ⟨#[]⟩, false)
theorem cut_at (s : ByteArray) (hs : s.size ≤ 9223372036854775807) (w : World) :
    Calls Tryz.prog 75 #[.string s, .string ⟨#[47]⟩] w fun e w' => e = .returned (.tuple #[.string (cutS s).1, .string (cutS s).2.1, .bool (cutS s).2.2]) ∧ Mod (fun _ => False) w w' := by
  have hc : Calls Tryz.prog 117 #[.string s, .string ⟨#[47]⟩] w fun e w' => e = .returned (.tuple #[.string (cutS s).1, .string (cutS s).2.1, .bool (cutS s).2.2]) ∧ Mod (fun _ => False) w w' := by
    rcases indexByte_cases s.data.toList 47 with h | ⟨I, h⟩
    · have e : cutS s = (s, ⟨#[]⟩, false) := by unfold cutS; rw [h]; rfl
      rw [e]
      exact cuts_no s h w
    · have e : cutS s = (s.extract 0 I, s.extract (I + 1) s.size, true) := by
        unfold cutS
        rw [h, if_pos (by omega)]
        rfl
      rw [e]
      exact cuts_yes s hs I h w
  generalize cutS s = C at hc ⊢
  have Hc := Lib.hid hc
  clear hc hs
  go_enter Tryz.func75, Tryz.ntmps75
  go_wp2_with fail
  refine Hc.out.mono ?_
  rintro e w' ⟨rfl, hm⟩
  have Hm := Lib.hid hm
  clear hm
  go_wp2
  go_ret3
  exact ⟨rfl, Hm.out⟩
theorem cut_rest {s : ByteArray} (h : (cutS s).2.2 = true) : (cutS s).2.1.size < s.size := by
  unfold cutS at h ⊢
  split at h
  · rename_i h0
    rw [if_pos h0]
    rcases indexByte_cases s.data.toList 47 with h1 | ⟨I, h1⟩
    · omega
    · have hlt : I < s.size := indexByte_lt h1
      rw [h1]
      show (s.extract (I + 1) s.size).size < s.size
      rw [ByteArray.size_extract]
      omega
  · cases h
theorem cut_sum {s : ByteArray} (h : (cutS s).2.2 = true) : (cutS s).1.size + 1 + (cutS s).2.1.size = s.size := by
  unfold cutS at h ⊢
  split at h
  · rename_i h0
    rw [if_pos h0]
    rcases indexByte_cases s.data.toList 47 with h1 | ⟨I, h1⟩
    · omega
    · have hlt : I < s.size := indexByte_lt h1
      rw [h1]
      show (s.extract 0 I).size + 1 + (s.extract (I + 1) s.size).size = s.size
      rw [ByteArray.size_extract, ByteArray.size_extract]
      omega
  · cases h
theorem cut_size (s : ByteArray) : (cutS s).1.size ≤ s.size ∧ (cutS s).2.1.size ≤ s.size := by
  unfold cutS
  split
  · constructor
    · show (s.extract _ _).size ≤ _
      rw [ByteArray.size_extract]
      omega
    · show (s.extract _ _).size ≤ _
      rw [ByteArray.size_extract]
      omega
  · exact ⟨Nat.le_refl _, Nat.zero_le _⟩
end Go.Proofs.YtloplmaekonenaaGreatDoor
