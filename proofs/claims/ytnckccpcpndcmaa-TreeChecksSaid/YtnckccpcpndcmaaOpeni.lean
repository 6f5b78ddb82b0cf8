/-
  Arguments that are slices of plain rows, opened: ints, pairs of ints; a pair of ints.
-/
import Derived.Test.YtnckccpcpndcmaaRow
import Derived.Test.YtnckccpcpndcmaaTnew
import Derived.Deep.Grids
import Derived.Deep.Slices
namespace Go.Proofs.Ytnckccpcpndcmaa
open Go.ChangeShapes Go.WideShapes Go.ChangeAt Go.RowKit

section
variable {H : Type} {enc : TypeId × Value → H} {W : World}

theorem spot_none {w : World} {a : Addr} {v : Value} (h : w.cell? a = some v) : a.spot = none := by
  unfold World.cell? at h
  split at h
  · split at h
    · cases h
    · rename_i hs; simpa using hs
  · cases h

/-- A slice of structs of so many cells, opened: F tells what an element is. -/
theorem open_row {α : Type} {t e : TypeId} {sz : Nat} (cells : α → List Value) (hlen : ∀ x, (cells x).length = sz) (hsz : 0 < sz) (ht : Try.prog.underlying t = some (.slice e)) (he : Try.prog.cellsOf e = sz) (x0 : α) (p : α → Prop)
    (hone : ∀ (fuel : Nat) (cs : List Value) (y : DataW H × List MemPlace), DataW.trod enc Try.prog W 0 (fun _ => true) true fuel e cs = some y → ∃ x, cs = cells x ∧ p x)
    {fuel : Nat} {v : Value} {y : DataW H × List MemPlace} (h : DataW.trod enc Try.prog W 0 (fun _ => true) true fuel t [v] = some y) :
    ∃ l : List α, RdSl W sz v l.length (l.flatMap cells) ∧ l.length ≤ maxLen ∧ ∀ x ∈ l, p x := by
  rcases Go.Deep.open_slice ht h with ⟨hcs, -⟩ | ⟨a, len, cap', m', k, D, Pl, hcs, -, hlc, hcm, hmm, -, hcell⟩
  · have hcs : v = Value.slice none 0 0 := by simpa using hcs
    subst hcs
    exact ⟨[], ⟨by simp, none, 0, rfl, Nat.le_refl _, fun _ => rfl, fun b hb _ => (by cases hb)⟩, Nat.zero_le _, fun x hx => (by cases hx)⟩
  · have hcs : v = Value.slice (some a) len cap' := by simpa using hcs
    subst hcs
    simp only [if_true] at hmm
    subst hmm
    rw [he] at hcell
    have hall : ∀ i, i < len → ∃ x : α, (∀ q u, (cells x)[q]? = some u → W.cell? ((a.add (i * sz)).add q) = some u) ∧ p x := fun i hi => by
      obtain ⟨cs, h1, h2⟩ := hcell i (by omega)
      obtain ⟨x, rfl, h3⟩ := hone _ _ _ h2
      obtain ⟨-, h5, h6⟩ := World.cells?_some h1
      refine ⟨x, fun q u hq => ?_, h3⟩
      have := h6 q (by have := (List.getElem?_eq_some_iff.1 hq).1; rw [hlen] at this; exact this)
      rw [hq] at this
      exact this
    obtain ⟨F, hF⟩ : ∃ F : Nat → α, ∀ i, i < len → (∀ q u, (cells (F i))[q]? = some u → W.cell? ((a.add (i * sz)).add q) = some u) ∧ p (F i) :=
      ⟨fun i => if h : i < len then (hall i h).choose else x0, fun i hi => by simp only [dif_pos hi]; exact (hall i hi).choose_spec⟩
    have hl : ((List.range len).map F).length = len := by simp
    have hfl : ∀ l : List α, (l.flatMap cells).length = l.length * sz := fun l => by
      induction l with
      | nil => simp
      | cons b l ih => rw [List.flatMap_cons, List.length_append, ih, hlen, List.length_cons, Nat.add_mul]; omega
    have hget : ∀ (l : List α) (j : Nat) (u : Value), (l.flatMap cells)[j]? = some u → ∃ x, l[j / sz]? = some x ∧ (cells x)[j % sz]? = some u := fun l => by
      induction l with
      | nil => intro j u h; simp at h
      | cons b l ih =>
        intro j u h
        rw [List.flatMap_cons] at h
        rcases Nat.lt_or_ge j sz with hj | hj
        · rw [List.getElem?_append_left (by rw [hlen]; exact hj)] at h
          exact ⟨b, by rw [Nat.div_eq_of_lt hj]; rfl, by rw [Nat.mod_eq_of_lt hj]; exact h⟩
        · rw [List.getElem?_append_right (by rw [hlen]; exact hj), hlen] at h
          obtain ⟨x, h1, h2⟩ := ih _ _ h
          have e1 : j / sz = (j - sz) / sz + 1 := by
            rw [Nat.div_eq j sz, if_pos ⟨hsz, hj⟩]
          have e2 : j % sz = (j - sz) % sz := Nat.mod_eq_sub_mod hj
          exact ⟨x, by rw [e1, List.getElem?_cons_succ]; exact h1, by rw [e2]; exact h2⟩
    refine ⟨(List.range len).map F, ⟨by rw [hfl], some a, m', by rw [hl], by rw [hl]; exact hlc, (fun h => by cases h), fun b hb hn => ?_⟩, by rw [hl]; omega, fun x hx => ?_⟩
    · cases hb
      rw [hl] at hn
      have hsp : a.spot = none := by
        have h0 := (hF 0 hn).1 0
        cases hc : (cells (F 0))[0]? with
        | none =>
          have := List.getElem?_eq_none_iff.1 hc
          rw [hlen] at this
          omega
        | some u =>
          have := h0 u hc
          rw [Nat.zero_mul] at this
          exact spot_none this
      obtain ⟨g, off, spot⟩ := a
      have hsp : spot = none := hsp
      subst hsp
      refine ⟨g, off, rfl, fun j u hu => ?_⟩
      obtain ⟨x, hx1, hx2⟩ := hget _ _ _ hu
      rw [List.getElem?_map] at hx1
      by_cases hj : j / sz < len
      · rw [List.getElem?_range hj] at hx1
        simp only [Option.map_some, Option.some.injEq] at hx1
        subst hx1
        have := (hF _ hj).1 _ _ hx2
        rw [addr_add, addr_add] at this
        have e := Nat.div_add_mod j sz
        rw [Nat.mul_comm] at e
        rw [show off + j = off + j / sz * sz + j % sz by omega]
        exact this
      · rw [List.getElem?_eq_none (by simpa using hj)] at hx1
        cases hx1
    · obtain ⟨i, hi, rfl⟩ := List.mem_map.1 hx
      exact (hF i (List.mem_range.1 hi)).2

theorem open_ints {base : Nat} {v : Value} {d : DataW H} {p : List MemPlace} (hok : Value.okWide Try.prog W .any base 22 v)
    (h : DataW.Trod enc Try.prog W 0 (fun _ => true) true 22 v d p) : ∃ us : List Int, RdSl W 1 v us.length (ints us) ∧ us.length ≤ 9223372036854775807 := by
  obtain ⟨m, hm⟩ := h
  obtain ⟨A, n, cap, rfl⟩ := okWide_slice Try.underlying22 hok
  obtain ⟨l, h1, h2, -⟩ := open_row (W := W) (v := .slice A n cap) (fun x : Int => [.int .i64 x]) (fun _ => rfl) (by decide) Try.underlying22 (by kernel_rfl) 0 (fun _ => True) (fun _ _ _ h => by
    obtain ⟨z, hz, -⟩ := DataW.trod_int Try.underlying3 h
    exact ⟨z, hz, trivial⟩) hm
  refine ⟨l, ?_, by unfold maxLen at h2; omega⟩
  rw [show ints l = l.flatMap fun x => [.int .i64 x] by unfold ints; clear h1 h2 hm; induction l with | nil => rfl | cons a l ih => rw [List.flatMap_cons, ← ih]; rfl]
  exact h1

theorem trod_array2 {base : Nat} {spare : Nat → Bool} {held : Bool} {t e : TypeId} {fuel : Nat} {c0 c1 : Value} {x : DataW H × List MemPlace} (ht : Try.prog.underlying t = some (.array 2 e)) (hce : Try.prog.cellsOf e = 1)
    (h : DataW.trod enc Try.prog W base spare held fuel t [c0, c1] = some x) : ∃ y0 y1 n, DataW.trod enc Try.prog W base spare held n e [c0] = some y0 ∧ DataW.trod enc Try.prog W base spare held n e [c1] = some y1 := by
  cases fuel with
  | zero => simp [DataW.trod] at h
  | succ n =>
    unfold DataW.trod at h
    rw [ht] at h
    have r2 : List.range 2 = [0, 1] := rfl
    simp [r2, hce] at h
    obtain ⟨_, h⟩ := h
    cases h0 : DataW.trod enc Try.prog W base spare held n e [c0] with
    | none => simp [h0] at h
    | some y0 =>
      cases h1 : DataW.trod enc Try.prog W base spare held n e [c1] with
      | none => simp [h0, h1] at h
      | some y1 => exact ⟨y0, y1, n, h0, h1⟩
theorem trod_array_len {t e : TypeId} {fuel : Nat} {cs : List Value} {x : DataW H × List MemPlace} (ht : Try.prog.underlying t = some (.array 2 e)) (hce : Try.prog.cellsOf e = 1) (ht2 : Try.prog.cellsOf t = 2)
    (h : DataW.trod enc Try.prog W 0 (fun _ => true) true fuel t cs = some x) : cs.length = 2 := by
  cases fuel with
  | zero => simp [DataW.trod] at h
  | succ n =>
    unfold DataW.trod at h
    rw [ht] at h
    simp [hce] at h
    rw [h.1, ht2]
theorem open_ids {base : Nat} {v : Value} {d : DataW H} {p : List MemPlace} (hok : Value.okWide Try.prog W .any base 25 v) (h : DataW.Trod enc Try.prog W 0 (fun _ => true) true 25 v d p) :
    ∃ x y : Int, v = .agg #[.int .i64 x, .int .i64 y] := by
  simp only [Value.okWide, Try.underlying25] at hok
  obtain ⟨cs, rfl, hsz, -⟩ := hok
  rw [show Try.prog.cellsOf 25 = 2 by kernel_rfl] at hsz
  obtain ⟨m, hm⟩ := h
  obtain ⟨l⟩ := cs
  match l, hsz with
  | [c0, c1], _ =>
    obtain ⟨y0, y1, n, h0, h1⟩ := trod_array2 (c0 := c0) (c1 := c1) Try.underlying25 (by kernel_rfl) hm
    obtain ⟨z0, e0, -⟩ := DataW.trod_int Try.underlying3 h0
    obtain ⟨z1, e1, -⟩ := DataW.trod_int Try.underlying3 h1
    cases e0
    cases e1
    exact ⟨z0, z1, rfl⟩
theorem open_pairs {base : Nat} {v : Value} {d : DataW H} {p : List MemPlace} (hok : Value.okWide Try.prog W .any base 24 v)
    (h : DataW.Trod enc Try.prog W 0 (fun _ => true) true 24 v d p) : ∃ ps : List (Int × Int), RdSl W 2 v ps.length (prs ps) ∧ ps.length ≤ 9223372036854775807 := by
  obtain ⟨m, hm⟩ := h
  obtain ⟨A, n, cap, rfl⟩ := okWide_slice Try.underlying24 hok
  obtain ⟨l, h1, h2, -⟩ := open_row (W := W) (v := .slice A n cap) (sz := 2) (fun x : Int × Int => [.int .i64 x.1, .int .i64 x.2]) (fun _ => rfl) (by decide) Try.underlying24 (by kernel_rfl) (0, 0) (fun _ => True) (fun fuel cs y h => by
    have hlen := trod_array_len Try.underlying25 (by kernel_rfl) (by kernel_rfl) h
    match cs, hlen with
    | [c0, c1], _ =>
      obtain ⟨y0, y1, n, h0, h1⟩ := trod_array2 Try.underlying25 (by kernel_rfl) h
      obtain ⟨z0, e0, -⟩ := DataW.trod_int Try.underlying3 h0
      obtain ⟨z1, e1, -⟩ := DataW.trod_int Try.underlying3 h1
      have e0 : [c0] = [.int .i64 z0] := e0
      have e1 : [c1] = [.int .i64 z1] := e1
      cases e0
      cases e1
      exact ⟨(z0, z1), rfl, trivial⟩) hm
  exact ⟨l, h1, by unfold maxLen at h2; omega⟩
end
end Go.Proofs.Ytnckccpcpndcmaa
