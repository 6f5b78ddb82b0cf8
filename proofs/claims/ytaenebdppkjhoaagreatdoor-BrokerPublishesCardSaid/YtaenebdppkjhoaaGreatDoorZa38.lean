/-
  slices.Clone of ints that are read.
  Where what a broker says goes, whatever it is: what is to be known of it.
  Package policy: what is read of a log.
  Package policy: Rule, check.
-/
import Derived.Test.YtaenebdppkjhoaaGreatDoorZa15
import Derived.Test.YtaenebdppkjhoaaGreatDoorZa1
import Derived.Lib.Hide
import Derived.Test.YtaenebdppkjhoaaGreatDoorZa35
import Derived.Test.YtaenebdppkjhoaaGreatDoorZa34
import Derived.Test.YtaenebdppkjhoaaGreatDoorZa10
import Derived.Test.YtaenebdppkjhoaaGreatDoorZa4
import Derived.Test.YtaenebdppkjhoaaGreatDoorZa6
namespace Go.Proofs.YtaenebdppkjhoaaGreatDoor
set_option maxRecDepth 20000
open Go.RowKit

theorem clone_own {w : World} {B sz n : Nat} {e : TypeId} {v : Value} {xs : List Value} (h : w.ownsRow B e sz v n xs) : OwnSl w e sz v n xs ∧ ∀ k, v.ownBlock = some k → B ≤ k := by
  obtain ⟨h1, h2⟩ := h
  rcases h2 with ⟨rfl, h⟩ | ⟨g, cap, cur, rfl, h2, h3, h4, h5, h6, h7⟩
  · exact ⟨⟨h1, .inl ⟨rfl, h⟩⟩, fun k hk => by cases hk⟩
  · exact ⟨⟨h1, .inr ⟨g, 0, cap, cur, rfl, h3, h4, h5, by omega, by simpa using h7⟩⟩, fun k hk => by cases hk; exact h2⟩
theorem clone_mod {w w' : World} (h : Below w.heap.size w w') : Mod (fun _ => False) w w' := ⟨h.os, h.tape, h.output, h.size, fun k hk _ => h.block k hk⟩
/-- What Clone leaves. -/
def ClonePost (w : World) (l : List Int) (e : Ending) (w' : World) : Prop :=
  ∃ v', e = .returned v' ∧ OwnSl w' 3 1 v' l.length (l.map (Value.int .i64)) ∧ (∀ k, v'.ownBlock = some k → w.heap.size ≤ k) ∧ Mod (fun _ => False) w w'
theorem clone_rd (w : World) (v : Value) (l : List Int) (h : RdSl w 1 v l.length (l.map (Value.int .i64))) (hl : l.length ≤ 1000000) : Calls Tryz.prog 47 #[v] w (ClonePost w l) := by
  obtain ⟨h1, a, cap, rfl, h3, h4, h5⟩ := h
  cases a with
  | none =>
    obtain rfl : l = [] := List.eq_nil_of_length_eq_zero (h4 rfl)
    refine (Tryz.slices_Clone_int_nil 0 cap w).mono fun e w' h => ?_
    obtain ⟨rfl, rfl⟩ := h
    exact ⟨_, rfl, OwnSl.nil _ _ _, (fun k hk => by cases hk), Mod.refl _ _⟩
  | some b =>
    by_cases hp : 0 < l.length
    · obtain ⟨g, off, rfl, h6⟩ := h5 b rfl hp
      refine (Tryz.slices_Clone_int g off l.length cap l w (Nat.le_refl _) (by omega) (fun j hj => ?_)).mono fun e w' h => ?_
      · refine h6 j _ ?_
        rw [List.getElem?_map, List.getElem?_eq_getElem hj]
        simp [List.getD, hj]
      · obtain ⟨v', rfl, h1, -, h3⟩ := h
        rw [List.take_length] at h1
        obtain ⟨h7, h8⟩ := clone_own h1
        exact ⟨v', rfl, h7, h8, clone_mod h3⟩
    · obtain rfl : l = [] := List.eq_nil_of_length_eq_zero (by omega)
      refine (Tryz.slices_Clone_int_zero b cap w).mono fun e w' h => ?_
      obtain ⟨v', rfl, h1, -, h3⟩ := h
      obtain ⟨h7, h8⟩ := clone_own h1
      exact ⟨v', rfl, h7, h8, clone_mod h3⟩
end Go.Proofs.YtaenebdppkjhoaaGreatDoor

namespace Go.Proofs.YtaenebdppkjhoaaGreatDoor
set_option maxRecDepth 20000
open Go.RowKit

/-- What was shown: of which tenant, to whom, what. -/
abbrev Hn := Int × ByteArray × Tg
/-- Where what a broker says goes: its states, what they are in memory, whose blocks it writes, what a sending and a showing do. -/
structure OutK (w0 : World) (q : Nat) where
  σ : Type
  inv : World → Ow → σ → Prop
  tg : Nat → Prop
  t2 : ∀ t, tg t → 2 ≤ t
  cnt : σ → Nat
  okTo : Int → Int → Prop
  send : σ → Int → Int → Mg → σ
  shw : σ → Int → ByteArray → Tg → σ
  csend : ∀ s td ten m, cnt (send s td ten m) ≤ cnt s + 1
  cshw : ∀ s ten who t, cnt (shw s ten who t) ≤ cnt s + 1
  mov : ∀ {F : Nat → Prop} {w w' : World} {ow ow' : Ow} {s : σ}, inv w ow s → Owd w0 w ow → Mov F w ow w' ow' → ¬ F 0 → (∀ t, F t → ¬ tg t) → inv w' ow' s
  hsend : ∀ {w : World} {ow : Ow} {s : σ} {td ten : Int} {x : Mv}, Owd w0 w ow → inv w ow s → cnt s ≤ 400000000000 → okTo td ten → MvOk w ow x →
    Calls Tryz.prog 294 #[.pointer (some ⟨q, 0, none⟩), .int .i64 td, .int .i64 ten, .agg x.cells.toArray] w fun e w' => e = .returned (.tuple #[]) ∧ ∃ ow', inv w' ow' (send s td ten x.m) ∧ Mov tg w ow w' ow'
  hshw : ∀ {w : World} {ow : Ow} {s : σ} {ten : Int} {who : ByteArray} {x : Tv}, Owd w0 w ow → inv w ow s → cnt s ≤ 400000000000 → 0 ≤ ten → ten ≤ 3 → TvOk w ow x →
    Calls Tryz.prog 295 #[.pointer (some ⟨q, 0, none⟩), .int .i64 ten, .string who, .agg x.cells.toArray] w fun e w' => e = .returned (.tuple #[]) ∧ ∃ ow', inv w' ow' (shw s ten who x.t) ∧ Mov tg w ow w' ow'
variable {w0 : World} {q : Nat}
/-- All of a list is sent. -/
def OutK.sends (O : OutK w0 q) (s : O.σ) (l : List Sd) : O.σ := l.foldl (fun s x => O.send s x.1 x.2.1 x.2.2) s
theorem OutK.sends_app (O : OutK w0 q) (s : O.σ) (l m : List Sd) : O.sends s (l ++ m) = O.sends (O.sends s l) m := List.foldl_append ..
theorem OutK.sends_one (O : OutK w0 q) (s : O.σ) (l : List Sd) (x : Sd) : O.sends s (l ++ [x]) = O.send (O.sends s l) x.1 x.2.1 x.2.2 := by rw [O.sends_app]; rfl
theorem OutK.sends_cnt (O : OutK w0 q) (s : O.σ) (l : List Sd) : O.cnt (O.sends s l) ≤ O.cnt s + l.length := by
  induction l generalizing s with
  | nil => exact Nat.le_refl _
  | cons x l ih =>
    have h1 := ih (O.send s x.1 x.2.1 x.2.2)
    have h2 := O.csend s x.1 x.2.1 x.2.2
    show O.cnt (O.sends (O.send s x.1 x.2.1 x.2.2) l) ≤ _
    rw [List.length_cons]
    omega
end Go.Proofs.YtaenebdppkjhoaaGreatDoor

namespace Go.Proofs.YtaenebdppkjhoaaGreatDoor
set_option maxRecDepth 20000
open Go.RowKit

/-- A rule without the place of its conditions. -/
def Ru.pru (r : Ru) : PRu := ⟨r.kind, r.tenant, r.who, r.broker, r.sc, r.cs, r.name, r.at_⟩
theorem lrs_pru (L : List Lr) : (L.map Lr.ru).map Ru.pru = L.map Prod.fst := by
  rw [List.map_map]
  rfl
theorem homeP_ru (l : List Ru) (tenant : Int) (who : ByteArray) : homeP (l.map Ru.pru) tenant who = homeOf l tenant who := by
  unfold homeP homeOf
  rw [List.map_map]
  have h : ∀ l : List Ru, ((l.map ((fun p : PRu => p.lies none 0) ∘ Ru.pru)).find? fun r => r.of 0 tenant who).map Ru.broker = (l.find? fun r => r.of 0 tenant who).map Ru.broker := fun l => by
    induction l with
    | nil => rfl
    | cons a l ih =>
      rw [List.map_cons, List.find?_cons, List.find?_cons]
      have e : (((fun p : PRu => p.lies none 0) ∘ Ru.pru) a).of 0 tenant who = a.of 0 tenant who := rfl
      rw [e]
      cases a.of 0 tenant who
      · exact ih
      · rfl
  rw [← List.map_reverse]
  exact h l.reverse
theorem rus_take (l : List Ru) (n : Nat) : rus (l.take n) = (rus l).take (n * 8) := by
  induction l generalizing n with
  | nil => rw [List.take_nil]; simp [rus]
  | cons a l ih =>
    cases n with
    | zero => rw [Nat.zero_mul, List.take_zero]; rfl
    | succ n =>
      rw [List.take_succ_cons, rus_cons, rus_cons, ih, Nat.add_mul, Nat.one_mul, Nat.add_comm, List.take_append]
      have e : a.cells.length = 8 := Ru.cells_length a
      rw [e, List.take_of_length_le (l := a.cells) (by omega), Nat.add_sub_cancel_left]
/-- The first rules of a slice. -/
theorem RuSl.take {w : World} {a : Option Addr} {cap : Nat} {l : List Ru} (h : RuSl w (.slice a l.length cap) l) {n : Nat} (hn : n ≤ l.length) : RuSl w (.slice a n cap) (l.take n) := by
  have hl : (l.take n).length = n := by rw [List.length_take]; omega
  obtain ⟨h1, a', cap', he, h3, h4, h5⟩ := h.rd
  cases he
  refine ⟨⟨by rw [rus_length], a, cap, by rw [hl], by omega, fun e => by have := h4 e; omega, fun b hb h0 => ?_⟩, fun r hr => h.ok r (List.mem_of_mem_take hr)⟩
  obtain ⟨g, off, e, h6⟩ := h5 b hb (by omega)
  refine ⟨g, off, e, fun j u hu => h6 j u ?_⟩
  rw [rus_take, List.getElem?_take] at hu
  split at hu
  · exact hu
  · cases hu

set_option maxHeartbeats 1000000 in
theorem plen_at (w : World) (g : Nat) (a : Option Addr) (n cap : Nat) (c0 : w.cell? ⟨g, 0, none⟩ = some (.slice a n cap)) :
    Calls Tryz.prog 15 #[.pointer (some ⟨g, 0, none⟩)] w fun e w' => e = .returned (.int .i64 n) ∧ w = w' := by
  go_enter Tryz.func15, Tryz.ntmps15
  go_wp2
  go_ret
  exact ⟨rfl, rfl⟩

set_option maxHeartbeats 2000000 in
theorem gone_at (w : World) (g : Nat) (a : Option Addr) (cap : Nat) (l : List Ru) (c0 : w.cell? ⟨g, 0, none⟩ = some (.slice a l.length cap)) (hv : RuSl w (.slice a l.length cap) l) (hll : l.length ≤ 1000) (i : Int) (n : Nat) (hn : n ≤ l.length) :
    Calls Tryz.prog 49 #[.pointer (some ⟨g, 0, none⟩), .int .i64 i, .int .i64 n] w fun e w' => e = .returned (.bool (goneP (l.map Ru.pru) i n)) ∧ Mod (fun _ => False) w w' := by
  have hcap : l.length ≤ cap := by obtain ⟨-, a', c', h, h2, -⟩ := hv.rd; cases h; exact h2
  have hcap' : (n : Int) ≤ cap := by omega
  have hn' : (n : Int) ≤ l.length := by omega
  have hn0 : (0 : Int) ≤ n := by omega
  have hv2 := hv.take hn
  have hl2 : (l.take n).length = n := by rw [List.length_take]; omega
  rw [show Value.slice a n cap = Value.slice a (l.take n).length cap by rw [hl2]] at hv2
  obtain ⟨R, hR⟩ : ∃ R, goneP (l.map Ru.pru) i n = R := ⟨_, rfl⟩
  rw [hR]
  have Hv := Lib.hid hv
  have Hv2 := Lib.hid hv2
  have HR := Lib.hid hR
  have Hl2 := Lib.hid hl2
  clear hv hv2 hR hl2 hcap hn
  go_enter Tryz.func49, Tryz.ntmps49
  go_wp2_with fail
  go_loopw [16] (fun i' wr => ∃ j : Nat, i' = .int .i64 j ∧ j ≤ n ∧ Mod (fun _ => False) w wr ∧ (∀ (k : Nat) (x : Ru), k < j → (l.take n)[k]? = some x → (decide (x.kind = 4) && decide (x.at_ = i)) = false)) (fun i' _ => n - (intOf i').toNat)
  case atStart => exact ⟨0, rfl, Nat.zero_le _, Mod.refl _ _, fun k x hk => by omega⟩
  case round =>
    obtain ⟨j, rfl, hj, hmr, hall⟩ := hrel
    by_cases hlt : j < n
    · have hlt' : (j : Int) < n := by omega
      obtain ⟨x, hxj⟩ : ∃ x, (l.take n)[j]? = some x := ⟨_, List.getElem?_eq_getElem (by rw [Hl2.out]; exact hlt)⟩
      obtain ⟨g2, off, rfl, hf⟩ : ∃ g2 off, a = some ⟨g2, off, none⟩ ∧ CellsAt wr g2 (off + j * 8) x.cells := rd_rule (Hv2.out.mod hmr) hxj
      obtain ⟨wz, hwz⟩ : ∃ wz : World, wr.alloc (.cells x.cells.toArray 35) = wz := ⟨_, rfl⟩
      have hmwz : Mod (fun _ => False) wr wz := hwz ▸ (Mod.refl (fun _ => False) wr).alloc _
      have hgwz := heap_alloc_new wr (.cells x.cells.toArray 35)
      rw [hwz] at hgwz
      have hzwz : wz.heap.size = wr.heap.size + 1 := by rw [← hwz]; simp
      have hmz := hmr.trans hmwz (fun _ _ h => h)
      have c0k : wz.cell? ⟨wr.heap.size, 0, none⟩ = some (.int .i64 x.kind) := cell_of hgwz rfl
      have c7k : wz.cell? ⟨wr.heap.size, 7, none⟩ = some (.int .i64 x.at_) := cell_of hgwz rfl
      have Hmr := Lib.hid hmr
      have Hall := Lib.hid hall
      have Hxj := Lib.hid hxj
      have Hf := Lib.hid hf
      have Hwz := Lib.hid hwz
      have Hmwz := Lib.hid hmwz
      have Hgwz := Lib.hid hgwz
      have Hmz := Lib.hid hmz
      clear hmr hall hxj hf hwz hmwz hgwz hmz hzwz
      by_cases hk4 : x.kind = 4
      · by_cases hat : x.at_ = i
        · go_wp2_with (first | ((with_reducible refine wpList_load_lit 35 (.tmp 18) ?_); refine ⟨g2, off + j * 8, rfl, x.cells, Hf.out, by kernel_rfl, by kernel_rfl, ?_⟩) | ((with_reducible refine wpList_store_lit 35 (.tmp 8) (.tmp 19) ?_); refine ⟨rfl, x.cells, rfl, rfl, by kernel_rfl, rfl, ?_⟩; rw [Hwz.out]) | fail)
          go_ret
          refine ⟨?_, Hmz.out⟩
          rw [← HR.out]
          have : goneP (l.map Ru.pru) i n = true := by
            unfold goneP
            rw [← List.map_take, List.any_eq_true]
            exact ⟨x.pru, List.mem_map.2 ⟨x, List.mem_of_getElem? Hxj.out, rfl⟩, by simp [Ru.pru, hk4, hat]⟩
          rw [this]
          rfl
        · go_wp2_with (first | ((with_reducible refine wpList_load_lit 35 (.tmp 18) ?_); refine ⟨g2, off + j * 8, rfl, x.cells, Hf.out, by kernel_rfl, by kernel_rfl, ?_⟩) | ((with_reducible refine wpList_store_lit 35 (.tmp 8) (.tmp 19) ?_); refine ⟨rfl, x.cells, rfl, rfl, by kernel_rfl, rfl, ?_⟩; rw [Hwz.out]) | fail)
          go_roundw
          case rel =>
            refine ⟨j + 1, by go_num, hlt, Hmz.out, fun k x' hk hx' => ?_⟩
            rcases Nat.lt_succ_iff_lt_or_eq.1 hk with hk | rfl
            · exact Hall.out k x' hk hx'
            · rw [Hxj.out] at hx'; cases hx'; simp [hat]
          case measure => simp [intOf]; omega
      · go_wp2_with (first | ((with_reducible refine wpList_load_lit 35 (.tmp 18) ?_); refine ⟨g2, off + j * 8, rfl, x.cells, Hf.out, by kernel_rfl, by kernel_rfl, ?_⟩) | ((with_reducible refine wpList_store_lit 35 (.tmp 8) (.tmp 19) ?_); refine ⟨rfl, x.cells, rfl, rfl, by kernel_rfl, rfl, ?_⟩; rw [Hwz.out]) | fail)
        go_roundw
        case rel =>
          refine ⟨j + 1, by go_num, hlt, Hmz.out, fun k x' hk hx' => ?_⟩
          rcases Nat.lt_succ_iff_lt_or_eq.1 hk with hk | rfl
          · exact Hall.out k x' hk hx'
          · rw [Hxj.out] at hx'; cases hx'; simp [hk4]
        case measure => simp [intOf]; omega
    · obtain rfl : j = n := by omega
      have Hmr := Lib.hid hmr
      have Hall := Lib.hid hall
      clear hmr hall
      go_wp2
      go_ret
      refine ⟨?_, Hmr.out⟩
      rw [← HR.out]
      have : goneP (l.map Ru.pru) i j = false := by
        unfold goneP
        rw [← List.map_take, List.any_eq_false]
        intro p hp
        obtain ⟨x, hx, rfl⟩ := List.mem_map.1 hp
        obtain ⟨k, hk⟩ := List.mem_iff_getElem?.1 hx
        have hkl := (List.getElem?_eq_some_iff.1 hk).1
        have h1 := Hall.out k x (by rw [Hl2.out] at hkl; exact hkl) hk
        intro h2
        have h3 : (decide (x.kind = 4) && decide (x.at_ = i)) = true := h2
        rw [h1] at h3
        cases h3
      rw [this]
      rfl

set_option maxHeartbeats 2000000 in
theorem people_at (w : World) (g : Nat) (a : Option Addr) (cap : Nat) (l : List Ru) (c0 : w.cell? ⟨g, 0, none⟩ = some (.slice a l.length cap)) (hv : RuSl w (.slice a l.length cap) l) (hll : l.length ≤ 1000) :
    Calls Tryz.prog 86 #[.pointer (some ⟨g, 0, none⟩)] w fun e w' => e = .returned (.int .i64 (peopleP (l.map Ru.pru))) ∧ Mod (fun _ => False) w w' := by
  have hll' : (l.length : Int) ≤ 1000 := by omega
  have hcap : l.length ≤ cap := by obtain ⟨-, a', c', h, h2, -⟩ := hv.rd; cases h; exact h2
  have hcap' : (l.length : Int) ≤ cap := by omega
  have Hv := Lib.hid hv
  clear hv hcap
  go_enter Tryz.func86, Tryz.ntmps86
  go_wp2_with fail
  go_loopw [3, 11] (fun n i wr => ∃ j : Nat, i = .int .i64 j ∧ j ≤ l.length ∧ n = .int .i64 (peopleP ((l.take j).map Ru.pru)) ∧ Mod (fun _ => False) w wr) (fun _ i _ => l.length - (intOf i).toNat)
  case atStart => exact ⟨0, rfl, Nat.zero_le _, rfl, Mod.refl _ _⟩
  case round =>
    obtain ⟨j, rfl, hj, rfl, hmr⟩ := hrel
    by_cases hlt : j < l.length
    · have hlt' : (j : Int) < l.length := by omega
      obtain ⟨x, hxj⟩ : ∃ x, l[j]? = some x := ⟨_, List.getElem?_eq_getElem hlt⟩
      obtain ⟨g2, off, rfl, hf⟩ : ∃ g2 off, a = some ⟨g2, off, none⟩ ∧ CellsAt wr g2 (off + j * 8) x.cells := rd_rule (Hv.out.mod hmr) hxj
      obtain ⟨wz, hwz⟩ : ∃ wz : World, wr.alloc (.cells x.cells.toArray 35) = wz := ⟨_, rfl⟩
      have hmwz : Mod (fun _ => False) wr wz := hwz ▸ (Mod.refl (fun _ => False) wr).alloc _
      have hgwz := heap_alloc_new wr (.cells x.cells.toArray 35)
      rw [hwz] at hgwz
      have hzwz : wz.heap.size = wr.heap.size + 1 := by rw [← hwz]; simp
      have hmz := hmr.trans hmwz (fun _ _ h => h)
      have c0k : wz.cell? ⟨wr.heap.size, 0, none⟩ = some (.int .i64 x.kind) := cell_of hgwz rfl
      have hp1 : peopleP ((l.take (j + 1)).map Ru.pru) = peopleP ((l.take j).map Ru.pru) + if x.kind = 0 then 1 else 0 := by
        rw [List.take_add_one, hxj, Option.toList_some, List.map_append]
        unfold peopleP
        rw [List.filter_append, List.length_append]
        congr 1
        show (List.filter _ [x.pru]).length = _
        by_cases h0 : x.kind = 0
        · rw [if_pos h0]; simp [Ru.pru, h0]
        · rw [if_neg h0]; simp [Ru.pru, h0]
      have hpj : peopleP ((l.take j).map Ru.pru) ≤ j := by
        unfold peopleP
        refine Nat.le_trans (List.length_filter_le _ _) ?_
        rw [List.length_map, List.length_take]
        omega
      obtain ⟨p, hp⟩ : ∃ p, peopleP ((l.take j).map Ru.pru) = p := ⟨_, rfl⟩
      rw [hp] at hp1 hpj ⊢
      have Hmr := Lib.hid hmr
      have Hxj := Lib.hid hxj
      have Hf := Lib.hid hf
      have Hwz := Lib.hid hwz
      have Hmwz := Lib.hid hmwz
      have Hgwz := Lib.hid hgwz
      have Hmz := Lib.hid hmz
      have Hp1 := Lib.hid hp1
      have Hp := Lib.hid hp
      clear hmr hxj hf hwz hmwz hgwz hmz hp1 hp hzwz
      by_cases hk : x.kind = 0
      · go_wp2_with (first | ((with_reducible refine wpList_load_lit 35 (.tmp 13) ?_); refine ⟨g2, off + j * 8, rfl, x.cells, Hf.out, by kernel_rfl, by kernel_rfl, ?_⟩) | ((with_reducible refine wpList_store_lit 35 (.tmp 5) (.tmp 14) ?_); refine ⟨rfl, x.cells, rfl, rfl, by kernel_rfl, rfl, ?_⟩; rw [Hwz.out]) | fail)
        go_roundw
        case rel =>
          refine ⟨j + 1, by go_num, hlt, ?_, Hmz.out⟩
          rw [Hp1.out, if_pos hk]
          go_num
        case measure => simp [intOf]; omega
      · go_wp2_with (first | ((with_reducible refine wpList_load_lit 35 (.tmp 13) ?_); refine ⟨g2, off + j * 8, rfl, x.cells, Hf.out, by kernel_rfl, by kernel_rfl, ?_⟩) | ((with_reducible refine wpList_store_lit 35 (.tmp 5) (.tmp 14) ?_); refine ⟨rfl, x.cells, rfl, rfl, by kernel_rfl, rfl, ?_⟩; rw [Hwz.out]) | fail)
        go_roundw
        case rel =>
          refine ⟨j + 1, by go_num, hlt, ?_, Hmz.out⟩
          rw [Hp1.out, if_neg hk]
          rfl
        case measure => simp [intOf]; omega
    · obtain rfl : j = l.length := by omega
      have Hmr := Lib.hid hmr
      clear hmr
      go_wp2
      go_ret
      refine ⟨?_, Hmr.out⟩
      rw [List.take_of_length_le (Nat.le_refl _)]
      rfl
end Go.Proofs.YtaenebdppkjhoaaGreatDoor

namespace Go.Proofs.YtaenebdppkjhoaaGreatDoor
set_option maxRecDepth 20000
open Go.RowKit

/-- What Rule gives. -/
def ruleR (l : List Ru) (i : Int) : Option Ru := if i < 0 then none else l[i.toNat]?
def zeroRu : Ru := PRu.zero.lies none 0
set_option maxHeartbeats 2000000 in
theorem rule_at (w : World) (g : Nat) (a : Option Addr) (cap : Nat) (l : List Ru) (c0 : w.cell? ⟨g, 0, none⟩ = some (.slice a l.length cap)) (hv : RuSl w (.slice a l.length cap) l) (hll : l.length ≤ 1000) (i : Int) :
    Calls Tryz.prog 65 #[.pointer (some ⟨g, 0, none⟩), .int .i64 i] w fun e w' => e = .returned (.tuple #[.agg ((ruleR l i).getD zeroRu).cells.toArray, .bool (ruleR l i).isSome]) ∧ Mod (fun _ => False) w w' := by
  have hll' : (l.length : Int) ≤ 1000 := by omega
  obtain ⟨wa, hwa⟩ : ∃ wa : World, w.alloc (.cells zeroRu.cells.toArray 35) = wa := ⟨_, rfl⟩
  have hmwa : Mod (fun _ => False) w wa := hwa ▸ (Mod.refl (fun _ => False) w).alloc _
  have hgwa := heap_alloc_new w (.cells zeroRu.cells.toArray 35)
  rw [hwa] at hgwa
  have hzwa : wa.heap.size = w.heap.size + 1 := by rw [← hwa]; simp
  have hgl : g < w.heap.size := World.block_lt_of_cell? w _ c0
  have c0a : wa.cell? ⟨g, 0, none⟩ = some (.slice a l.length cap) := hmwa.cell c0 (fun h => h)
  have hva := hv.mod hmwa
  have hwa' : w.alloc (.cells #[.int .i64 0, .int .i64 0, .string ⟨#[]⟩, .int .i64 0, .string ⟨#[]⟩, .slice none 0 0, .string ⟨#[]⟩, .int .i64 0] 35) = wa := hwa
  have Hv := Lib.hid hv
  have Hva := Lib.hid hva
  have Hwa' := Lib.hid hwa'
  have Hmwa := Lib.hid hmwa
  have Hgwa := Lib.hid hgwa
  clear hv hva hwa' hmwa hgwa hzwa hwa
  by_cases h0 : i < 0
  · have hr : ruleR l i = none := by unfold ruleR; rw [if_pos h0]
    rw [hr]
    go_enter Tryz.func65, Tryz.ntmps65
    go_wp2_with (first | (rw [show w.alloc _ = wa from Hwa'.out]) | ((with_reducible refine wpList_store_row_lit 35 (.tmp 4) (.tmp 17) ?_); refine ⟨w.heap.size, rfl, _, _, Hgwa.out, zeroRu.cells, rfl, rfl, by kernel_rfl, rfl, ?_⟩; intro w3 hg3 hm3; have Hg3 := Lib.hid hg3; have Hm3 := Lib.hid hm3; have q1 := (CellsAt.row hg3).all rfl; have q2 := (CellsAt.row hg3).is rfl; clear hg3 hm3) | fail)
    refine bodyPost_ret (v := .tuple #[.agg zeroRu.cells.toArray, .bool false]) ?_ rfl ⟨rfl, Hmwa.out.upon Hm3.out (fun k hk => .inr (Nat.le_of_eq (Eq.symm hk)))⟩
    have hl := run_loadVar_cells (P := Tryz.prog) 35 w.heap.size 0 zeroRu.cells (CellsAt.row Hg3.out) (by kernel_rfl) (by kernel_rfl)
    simp [results, Tryz.results65, Result.andThen, asAddr, hl]
  · by_cases h1 : (l.length : Int) ≤ i
    · have hr : ruleR l i = none := by unfold ruleR; rw [if_neg h0, List.getElem?_eq_none (by omega)]
      rw [hr]
      go_enter Tryz.func65, Tryz.ntmps65
      go_wp2_with (first | (rw [show w.alloc _ = wa from Hwa'.out]) | ((with_reducible refine wpList_store_row_lit 35 (.tmp 4) (.tmp 17) ?_); refine ⟨w.heap.size, rfl, _, _, Hgwa.out, zeroRu.cells, rfl, rfl, by kernel_rfl, rfl, ?_⟩; intro w3 hg3 hm3; have Hg3 := Lib.hid hg3; have Hm3 := Lib.hid hm3; have q1 := (CellsAt.row hg3).all rfl; have q2 := (CellsAt.row hg3).is rfl; clear hg3 hm3) | fail)
      refine bodyPost_ret (v := .tuple #[.agg zeroRu.cells.toArray, .bool false]) ?_ rfl ⟨rfl, Hmwa.out.upon Hm3.out (fun k hk => .inr (Nat.le_of_eq (Eq.symm hk)))⟩
      have hl := run_loadVar_cells (P := Tryz.prog) 35 w.heap.size 0 zeroRu.cells (CellsAt.row Hg3.out) (by kernel_rfl) (by kernel_rfl)
      simp [results, Tryz.results65, Result.andThen, asAddr, hl]
    · obtain ⟨j, rfl⟩ : ∃ j : Nat, i = j := ⟨i.toNat, by omega⟩
      have hlt : j < l.length := by omega
      obtain ⟨x, hxj⟩ : ∃ x, l[j]? = some x := ⟨_, List.getElem?_eq_getElem hlt⟩
      have hr : ruleR l j = some x := by unfold ruleR; rw [if_neg h0]; exact hxj
      obtain ⟨g2, off, rfl, hf⟩ : ∃ g2 off, a = some ⟨g2, off, none⟩ ∧ CellsAt wa g2 (off + j * 8) x.cells := rd_rule Hva.out hxj
      rw [hr]
      have Hr := Lib.hid hr
      have Hxj := Lib.hid hxj
      have Hf := Lib.hid hf
      clear hr hxj hf
      go_enter Tryz.func65, Tryz.ntmps65
      go_wp2_with (first | (rw [show w.alloc _ = wa from Hwa'.out]) | ((with_reducible refine wpList_load_lit 35 (.tmp 23) ?_); refine ⟨g2, off + j * 8, rfl, x.cells, Hf.out, by kernel_rfl, by kernel_rfl, ?_⟩) | ((with_reducible refine wpList_store_row_lit 35 (.tmp 4) (.tmp 24) ?_); refine ⟨w.heap.size, rfl, _, _, Hgwa.out, x.cells, rfl, rfl, by kernel_rfl, rfl, ?_⟩; intro w3 hg3 hm3; have Hg3 := Lib.hid hg3; have Hm3 := Lib.hid hm3; have q1 := (CellsAt.row hg3).all rfl; have q2 := (CellsAt.row hg3).is rfl; clear hg3 hm3) | fail)
      refine bodyPost_ret (v := .tuple #[.agg x.cells.toArray, .bool true]) ?_ rfl ⟨rfl, Hmwa.out.upon Hm3.out (fun k hk => .inr (Nat.le_of_eq (Eq.symm hk)))⟩
      have hl := run_loadVar_cells (P := Tryz.prog) 35 w.heap.size 0 x.cells (CellsAt.row Hg3.out) (by kernel_rfl) (by kernel_rfl)
      simp [results, Tryz.results65, Result.andThen, asAddr, hl]
end Go.Proofs.YtaenebdppkjhoaaGreatDoor
