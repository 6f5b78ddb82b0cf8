/-
  Reading a tree: Len, Near, Linked.
-/
import Derived.Test.YtnckccpcpndcmaaTree
import Derived.Test.YtnckccpcpndcmaaShelf
import Derived.Lib.Hide
import Derived.BigRegion
import Derived.BigQuiet
import Derived.WalkSpells
import Derived.Handy
import Derived.WalkLawsBesides
namespace Go.Proofs.Ytnckccpcpndcmaa
open Go.RowKit

theorem own_row {w : World} {B sz n : Nat} {e : TypeId} {v : Value} {xs : List Value} (h : w.ownsRow B e sz v n xs) : OwnSl w e sz v n xs := by
  obtain ⟨h1, h2⟩ := h
  refine ⟨h1, ?_⟩
  rcases h2 with h | ⟨g, cap, cur, h1, -, h3, h4, h5, h6, h7⟩
  · exact .inl h
  · exact .inr ⟨g, 0, cap, cur, h1, h3, h4, h5, by omega, by simpa using h7⟩
theorem mod_below {w w' : World} (h : Below w.heap.size w w') : Mod (fun _ => False) w w' := ⟨h.os, h.tape, h.output, h.size, fun k hk _ => h.block k hk⟩

theorem clone_at (w : World) (v : Value) (l : List Int) (h : OwnSl w 3 1 v l.length (ints l)) (hl : l.length ≤ 1000000) :
    Calls Try.prog 15 #[v] w fun e w' => ∃ v', e = .returned v' ∧ OwnSl w' 3 1 v' l.length (ints l) ∧ Mod (fun _ => False) w w' := by
  have hrd := h.rd
  rcases h.2 with ⟨rfl, h0⟩ | ⟨g, off, cap, cur, rfl, hg, hn, hc, hs, ht⟩
  · obtain rfl : l = [] := List.eq_nil_of_length_eq_zero h0
    refine (Try.slices_Clone_int_nil 0 0 w).mono fun e w' h => ?_
    obtain ⟨rfl, rfl⟩ := h
    exact ⟨_, rfl, OwnSl.nil _ _ _, Mod.refl _ _⟩
  · by_cases hp : 0 < l.length
    · refine (Try.slices_Clone_int g off l.length cap l w (Nat.le_refl _) (by omega) (fun j hj => ?_)).mono fun e w' h => ?_
      · obtain ⟨-, a, c, h1, -, -, h4⟩ := hrd
        cases h1
        obtain ⟨g', off', h5, h6⟩ := h4 _ rfl hp
        cases h5
        refine h6 j _ ?_
        rw [ints_at (List.getElem?_eq_getElem hj)]
        simp [List.getD, hj]
      · obtain ⟨v', rfl, h1, -, h3⟩ := h
        rw [List.take_length] at h1
        exact ⟨v', rfl, own_row h1, mod_below h3⟩
    · obtain rfl : l = [] := List.eq_nil_of_length_eq_zero (by omega)
      refine (Try.slices_Clone_int_zero _ cap w).mono fun e w' h => ?_
      obtain ⟨v', rfl, h1, -, h3⟩ := h
      exact ⟨v', rfl, own_row h1, mod_below h3⟩

/-- A broker's neighbours. -/
def nearF (N : List (List Int)) (b : Int) : List Int := if b < 0 then [] else N.getD b.toNat []
theorem nearF_at {N : List (List Int)} {b : Nat} {l : List Int} (h : N[b]? = some l) : nearF N b = l := by
  unfold nearF
  rw [if_neg (by omega), Int.toNat_natCast]
  simp [List.getD, h]

theorem len_at (w : World) (t : Nat) (N : List (List Int)) (h : TreeAt w t N) :
    Calls Try.prog 12 #[.pointer (some ⟨t, 0, none⟩)] w fun e w' => e = .returned (.int .i64 N.length) ∧ w' = w := by
  obtain ⟨g, vs, ht, hg, hv, ho⟩ := h.rd
  have ct : w.cell? ⟨t, 0, none⟩ = some (.slice (some ⟨g, 0, none⟩) N.length N.length) := cell_of ht rfl
  clear ht ho h
  go_enter Try.func12, Try.ntmps12
  go_wp2
  go_ret
  exact ⟨rfl, rfl⟩

set_option maxHeartbeats 2000000 in
theorem near_at (w : World) (t : Nat) (N : List (List Int)) (b : Int) (h : TreeAt w t N) (hN : N.length ≤ 1000) (hl : ∀ l ∈ N, l.length ≤ 1000000) :
    Calls Try.prog 9 #[.pointer (some ⟨t, 0, none⟩), .int .i64 b] w fun e w' => ∃ v', e = .returned v' ∧ OwnSl w' 3 1 v' (nearF N b).length (ints (nearF N b)) ∧ Mod (fun _ => False) w w' := by
  obtain ⟨g, vs, ht, hg, hv, ho⟩ := h.rd
  have ct : w.cell? ⟨t, 0, none⟩ = some (.slice (some ⟨g, 0, none⟩) N.length N.length) := cell_of ht rfl
  have hN' : (N.length : Int) ≤ 1000 := by omega
  by_cases hb : b < 0
  · have e : nearF N b = [] := by unfold nearF; rw [if_pos hb]
    rw [e]
    clear ht ho h hg e hl
    go_enter Try.func9, Try.ntmps9
    go_wp2
    go_ret
    exact ⟨_, rfl, OwnSl.nil _ _ _, Mod.refl _ _⟩
  obtain ⟨k, rfl⟩ : ∃ k : Nat, b = k := ⟨b.toNat, by omega⟩
  by_cases hk : k < N.length
  · have hk' : (k : Int) < N.length := by omega
    obtain ⟨v, hvk⟩ : ∃ v, vs[k]? = some v := ⟨_, List.getElem?_eq_getElem (by omega)⟩
    obtain ⟨l, hlk⟩ : ∃ v, N[k]? = some v := ⟨_, List.getElem?_eq_getElem (by omega)⟩
    rw [nearF_at hlk]
    have c : w.cell? ⟨g, k, none⟩ = some v := (cell_of_row w g k _ _ _ hg).trans (by simpa using hvk)
    have hcl := clone_at w v l (ho k v l hvk hlk) (hl l (List.mem_of_getElem? hlk))
    have Hcl := Lib.hid hcl
    clear hcl ht ho h hg hl hvk hlk hv
    go_enter Try.func9, Try.ntmps9
    go_wp2_with fail
    refine Hcl.out.mono ?_
    rintro e w2 ⟨v', rfl, h1, h2⟩
    have H1 := Lib.hid h1
    have H2 := Lib.hid h2
    clear h1 h2 Hcl
    go_wp2
    go_ret
    exact ⟨_, rfl, H1.out, H2.out⟩
  · have e : nearF N k = [] := by
      unfold nearF
      rw [if_neg hb, Int.toNat_natCast]
      simp [List.getD, List.getElem?_eq_none (Nat.le_of_not_lt hk)]
    rw [e]
    have hk' : (N.length : Int) ≤ k := by omega
    clear ht ho h hg e hl
    go_enter Try.func9, Try.ntmps9
    go_wp2
    go_ret
    exact ⟨_, rfl, OwnSl.nil _ _ _, Mod.refl _ _⟩

theorem rd_int {w : World} {a : Option Addr} {cap : Nat} {l : List Int} {j : Nat} {x : Int} (h : RdSl w 1 (.slice a l.length cap) l.length (ints l)) (hx : l[j]? = some x) : ∃ g off, a = some ⟨g, off, none⟩ ∧ w.cell? ⟨g, off + j, none⟩ = some (.int .i64 x) := by
  obtain ⟨-, a', c', h1, -, h3, h4⟩ := h
  cases h1
  cases a with
  | none => have := (List.getElem?_eq_some_iff.1 hx).1; exact absurd (h3 rfl) (by omega)
  | some b =>
    obtain ⟨g', off', h5, h6⟩ := h4 _ rfl (by have := (List.getElem?_eq_some_iff.1 hx).1; omega)
    exact ⟨g', off', by rw [h5], h6 j _ (ints_at hx)⟩

set_option maxHeartbeats 2000000 in
theorem index_at (w : World) (v : Value) (l : List Int) (y : Int) (hv : RdSl w 1 v l.length (ints l)) (hll : l.length ≤ 1000000) :
    Calls Try.prog 20 #[v, .int .i64 y] w fun e w' => ∃ n : Int, e = .returned (.int .i64 n) ∧ (decide (0 ≤ n) = l.any (· == y)) ∧ w' = w := by
  obtain ⟨a, ca, rfl, hcap⟩ : ∃ a c, v = .slice a l.length c ∧ l.length ≤ c := by obtain ⟨-, a, c, h, h2, -⟩ := hv; exact ⟨a, c, h, h2⟩
  have hll' : (l.length : Int) ≤ 1000000 := by omega
  have hcap' : (l.length : Int) ≤ ca := by omega
  obtain ⟨R, hR⟩ : ∃ R, l.any (· == y) = R := ⟨_, rfl⟩
  rw [hR]
  have Hv := Lib.hid hv
  have HR := Lib.hid hR
  clear hv hR hll
  go_enter Try.func20, Try.ntmps20
  go_wp2_with fail
  go_loopw [8] (fun i wr => ∃ j : Nat, i = .int .i64 j ∧ j ≤ l.length ∧ wr = w ∧ (∀ (k : Nat) (x : Int), k < j → l[k]? = some x → x ≠ y)) (fun i _ => l.length - (intOf i).toNat)
  case atStart => exact ⟨0, rfl, Nat.zero_le _, rfl, fun k x hk => by omega⟩
  case round =>
    obtain ⟨j, rfl, hj, rfl, hall⟩ := hrel
    have Hall := Lib.hid hall
    clear hall
    by_cases hlt : j < l.length
    · have hlt' : (j : Int) < l.length := by omega
      obtain ⟨x, hxj⟩ : ∃ x, l[j]? = some x := ⟨_, List.getElem?_eq_getElem hlt⟩
      obtain ⟨g, off, rfl, hf⟩ := rd_int Hv.out hxj
      cases hs : y == x with
      | false =>
        go_wp2_with fail
        go_roundw
        case rel =>
          refine ⟨j + 1, by go_num, hlt, by trivial, fun k x' hk hx' => ?_⟩
          rcases Nat.lt_succ_iff_lt_or_eq.1 hk with hk | rfl
          · exact Hall.out k x' hk hx'
          · rw [hxj] at hx'; cases hx'; intro e; rw [e] at hs; simp at hs
        case measure => simp [intOf]; omega
      | true =>
        go_wp2
        go_ret
        refine ⟨_, rfl, ?_, rfl⟩
        rw [← HR.out, decide_eq_true (by omega)]
        exact (List.any_eq_true.2 ⟨x, List.mem_of_getElem? hxj, by rw [eq_of_beq hs]; exact beq_self_eq_true _⟩).symm
    · go_wp2
      go_ret
      refine ⟨_, rfl, ?_, rfl⟩
      rw [← HR.out, decide_eq_false (by decide)]
      refine (List.any_eq_false.2 fun x hx => ?_).symm
      obtain ⟨k, hk, hxk⟩ := List.mem_iff_getElem.1 hx
      have := Hall.out k x (by omega) (by rw [List.getElem?_eq_getElem hk, hxk])
      simpa using this

theorem contains_at (w : World) (v : Value) (l : List Int) (y : Int) (hv : RdSl w 1 v l.length (ints l)) (hll : l.length ≤ 1000000) :
    Calls Try.prog 17 #[v, .int .i64 y] w fun e w' => e = .returned (.bool (l.any (· == y))) ∧ w' = w := by
  have hi := index_at w v l y hv hll
  obtain ⟨R, hR⟩ : ∃ R, l.any (· == y) = R := ⟨_, rfl⟩
  rw [hR] at hi ⊢
  obtain ⟨a, ca, rfl, hcap⟩ : ∃ a c, v = .slice a l.length c ∧ l.length ≤ c := by obtain ⟨-, a, c, h, h2, -⟩ := hv; exact ⟨a, c, h, h2⟩
  have Hi := Lib.hid hi
  clear hi hv hR hll hcap
  go_enter Try.func17, Try.ntmps17
  go_wp2_with fail
  refine Hi.out.mono ?_
  rintro e w2 ⟨n, rfl, h1, rfl⟩
  go_wp2
  go_ret
  exact ⟨rfl, rfl⟩

/-- Are they neighbours? -/
def linkedF (N : List (List Int)) (a b : Int) : Bool := (nearF N a).any (· == b)
theorem nearF_len {N : List (List Int)} {b : Int} (hl : ∀ l ∈ N, l.length ≤ 1000000) : (nearF N b).length ≤ 1000000 := by
  unfold nearF
  split
  · exact Nat.zero_le _
  · rw [List.getD]
    cases h : N[b.toNat]? with
    | none => exact Nat.zero_le _
    | some l => exact hl l (List.mem_of_getElem? h)

theorem linked_at (w : World) (t : Nat) (N : List (List Int)) (a b : Int) (h : TreeAt w t N) (hN : N.length ≤ 1000) (hl : ∀ l ∈ N, l.length ≤ 1000000) :
    Calls Try.prog 13 #[.pointer (some ⟨t, 0, none⟩), .int .i64 a, .int .i64 b] w fun e w' => e = .returned (.bool (linkedF N a b)) ∧ Mod (fun _ => False) w w' := by
  have hn := near_at w t N a h hN hl
  have hln := nearF_len (b := a) hl
  have Hn := Lib.hid hn
  have Hln := Lib.hid hln
  clear hn hln h hN hl
  go_enter Try.func13, Try.ntmps13
  go_wp2_with fail
  refine Hn.out.mono ?_
  rintro e w2 ⟨v', rfl, h1, h2⟩
  have hc := contains_at w2 v' _ b h1.rd Hln.out
  have H2 := Lib.hid h2
  have Hc := Lib.hid hc
  clear h2 hc h1 Hn
  go_wp2_with fail
  refine Hc.out.mono ?_
  rintro e w3 ⟨rfl, rfl⟩
  go_wp2
  go_ret
  exact ⟨rfl, H2.out⟩
end Go.Proofs.Ytnckccpcpndcmaa
