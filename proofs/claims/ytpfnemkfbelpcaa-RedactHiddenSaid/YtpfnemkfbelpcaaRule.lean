/-
  Rules in memory; package acl: of, Home, Right.
-/
import Derived.Test.YtpfnemkfbelpcaaCnd
namespace Go.Proofs.Ytpfnemkfbelpcaa
set_option maxRecDepth 20000
open Go.RowKit

/-- A rule, as it lies there, and the conditions of its filter. -/
structure Ru where
  kind : Int
  tenant : Int
  who : ByteArray
  broker : Int
  sc : ByteArray
  ca : Option Addr
  cc : Nat
  name : ByteArray
  at_ : Int
  cs : List Cnd
def Ru.cv (r : Ru) : Value := .slice r.ca r.cs.length r.cc
def Ru.cells (r : Ru) : List Value := [.int .i64 r.kind, .int .i64 r.tenant, .string r.who, .int .i64 r.broker, .string r.sc, .slice r.ca r.cs.length r.cc, .string r.name, .int .i64 r.at_]
theorem Ru.cells_length (a : Ru) : a.cells.length = 8 := rfl
def rus (l : List Ru) : List Value := l.flatMap Ru.cells
theorem rus_at (l : List Ru) {k j : Nat} {a : Ru} {u : Value} (h : l[k]? = some a) (hj : a.cells[j]? = some u) : (rus l)[8 * k + j]? = some u := by
  induction l generalizing k with
  | nil => simp at h
  | cons b l ih =>
    unfold rus at ih ⊢
    rw [List.flatMap_cons]
    cases k with
    | zero =>
      simp only [List.getElem?_cons_zero, Option.some.injEq] at h
      subst h
      have := (List.getElem?_eq_some_iff.1 hj).1
      rw [List.getElem?_append_left (by omega), Nat.mul_zero, Nat.zero_add, hj]
    | succ k =>
      rw [List.getElem?_cons_succ] at h
      rw [List.getElem?_append_right (by rw [Ru.cells_length]; omega), Ru.cells_length, show 8 * (k + 1) + j - 8 = 8 * k + j by omega]
      exact ih h
theorem rus_length (l : List Ru) : (rus l).length = l.length * 8 := by
  induction l with
  | nil => rfl
  | cons a l ih =>
    show (a.cells ++ rus l).length = _
    rw [List.length_append, ih, Ru.cells_length, List.length_cons]
    omega
theorem rus_append (l m : List Ru) : rus (l ++ m) = rus l ++ rus m := by unfold rus; simp
theorem rus_cons (a : Ru) (l : List Ru) : rus (a :: l) = a.cells ++ rus l := by unfold rus; simp
theorem rus_one (l : List Ru) : ∀ u ∈ rus l, u.oneCell' = true := fun u hu => by
  unfold rus at hu
  obtain ⟨x, -, hx⟩ := List.mem_flatMap.1 hu
  exact List.all_eq_true.1 (show x.cells.all (·.oneCell') = true from rfl) u hx

/-- A rule's conditions lie where it says. -/
structure Ru.ok (w : World) (r : Ru) : Prop where
  rd : RdSl w 7 r.cv r.cs.length (cnds r.cs)
  len : r.cs.length ≤ 9223372036854775807
  who : r.who.size ≤ 9223372036854775807
  sc : r.sc.size ≤ 9223372036854775807
  name : r.name.size ≤ 9223372036854775807
  cname : ∀ c ∈ r.cs, c.name.size ≤ 9223372036854775807 ∧ c.v.text.size ≤ 9223372036854775807
theorem Ru.ok.mod {w w' : World} {r : Ru} (h : r.ok w) (hm : Mod (fun _ => False) w w') : r.ok w' := ⟨h.rd.mod hm (fun _ _ h => h), h.len, h.who, h.sc, h.name, h.cname⟩

/-- What reads as rules. -/
structure RuSl (w : World) (v : Value) (l : List Ru) : Prop where
  rd : RdSl w 8 v l.length (rus l)
  ok : ∀ r ∈ l, r.ok w
theorem RuSl.mod {w w' : World} {v : Value} {l : List Ru} (h : RuSl w v l) (hm : Mod (fun _ => False) w w') : RuSl w' v l := ⟨h.rd.mod hm (fun _ _ h => h), fun r hr => (h.ok r hr).mod hm⟩
theorem rd_rule {w : World} {a : Option Addr} {cap : Nat} {l : List Ru} {j : Nat} {x : Ru} (h : RuSl w (.slice a l.length cap) l) (hx : l[j]? = some x) : ∃ g off, a = some ⟨g, off, none⟩ ∧ CellsAt w g (off + j * 8) x.cells := by
  obtain ⟨-, a', c', h1, -, h3, h4⟩ := h.rd
  cases h1
  cases a with
  | none => have := (List.getElem?_eq_some_iff.1 hx).1; exact absurd (h3 rfl) (by omega)
  | some b =>
    obtain ⟨g', off', h5, h6⟩ := h4 _ rfl (by have := (List.getElem?_eq_some_iff.1 hx).1; omega)
    refine ⟨g', off', by rw [h5], fun i u hu => ?_⟩
    have := h6 (8 * j + i) u (rus_at _ hx hu)
    rw [show off' + j * 8 + i = off' + (8 * j + i) by omega]
    exact this

/-- Is it of that kind, and one principal's? -/
def Ru.of (r : Ru) (kind tenant : Int) (who : ByteArray) : Bool := r.kind == kind && (r.tenant == tenant && r.who.toList == who.toList)

set_option maxHeartbeats 1000000 in
theorem of_at (r : Ru) (kind tenant : Int) (who : ByteArray) (w : World) : Calls Try.prog 49 #[.agg r.cells.toArray, .int .i64 kind, .int .i64 tenant, .string who] w fun e w' => e = .returned (.bool (r.of kind tenant who)) ∧ Mod (fun _ => False) w w' := by
  obtain ⟨wa, hwa⟩ : ∃ wa : World, w.alloc (.cells r.cells.toArray 35) = wa := ⟨_, rfl⟩
  have hmwa : Mod (fun _ => False) w wa := hwa ▸ (Mod.refl (fun _ => False) w).alloc _
  have hgwa := heap_alloc_new w (.cells r.cells.toArray 35)
  rw [hwa] at hgwa
  have hzwa : wa.heap.size = w.heap.size + 1 := by rw [← hwa]; simp
  have c0 : wa.cell? ⟨w.heap.size, 0, none⟩ = some (.int .i64 r.kind) := cell_of hgwa rfl
  have c1 : wa.cell? ⟨w.heap.size, 1, none⟩ = some (.int .i64 r.tenant) := cell_of hgwa rfl
  have c2 : wa.cell? ⟨w.heap.size, 2, none⟩ = some (.string r.who) := cell_of hgwa rfl
  have Hwa := Lib.hid hwa
  have Hmwa := Lib.hid hmwa
  clear hwa hmwa hgwa hzwa
  cases h1 : r.kind == kind with
  | false =>
    rw [show r.of kind tenant who = false by unfold Ru.of; rw [h1]; rfl]
    go_enter Try.func49, Try.ntmps49
    go_wp2_with (first | (rw [show w.alloc _ = wa from Hwa.out]) | fail)
    go_ret
    exact ⟨rfl, Hmwa.out⟩
  | true =>
    cases h2 : r.tenant == tenant with
    | false =>
      rw [show r.of kind tenant who = false by unfold Ru.of; rw [h1, h2]; rfl]
      go_enter Try.func49, Try.ntmps49
      go_wp2_with (first | (rw [show w.alloc _ = wa from Hwa.out]) | fail)
      go_ret
      exact ⟨rfl, Hmwa.out⟩
    | true =>
      rw [show r.of kind tenant who = (r.who.toList == who.toList) by unfold Ru.of; rw [h1, h2]; rfl]
      go_enter Try.func49, Try.ntmps49
      go_wp2_with (first | (rw [show w.alloc _ = wa from Hwa.out]) | fail)
      go_ret
      exact ⟨rfl, Hmwa.out⟩
end Go.Proofs.Ytpfnemkfbelpcaa
