/-
  Package policy: Add.
-/
import Derived.Test.YtaenebdppkjhoaaGreatDoorZa39
import Derived.Test.YtaenebdppkjhoaaGreatDoorZa25
namespace Go.Proofs.YtaenebdppkjhoaaGreatDoor
set_option maxRecDepth 20000
open Go.RowKit

theorem rules_T2 : SliceT Tryz.prog 22 35 8 104 := sliceT (by kernel_rfl) (by kernel_rfl)
theorem conds_T2 : SliceT Tryz.prog 31 132 7 72 := sliceT (by kernel_rfl) (by kernel_rfl)
/-- What Add comes to. -/
def AddPost (w : World) (ow : Ow) (c d g : Nat) (rest : List Value) (t : TypeId) (L : List Lr) (p : PRu) (e : Ending) (w' : World) : Prop :=
  e = .returned (.int .i64 (chkP (L.map Prod.fst) p)) ∧ ∃ (ow' : Ow) (v' : Value) (L' : List Lr), LogAt w' ow' c d g rest t v' L' ∧ L'.map Prod.fst = addP (L.map Prod.fst) p ∧ Mov (fun t => t = c ∨ t = d) w ow w' ow'
/-- One more rule. -/
theorem LogAt.app {w0 w wz w6 w7 : World} {ow : Ow} {c d g : Nat} {rest : List Value} {t : TypeId} {v v' : Value} {L : List Lr} {x : Lr} (_hw : Owd w0 w ow) (h2 : 2 ≤ c ∧ 2 ≤ d) (h : LogAt w ow c d g rest t v L) (hz : Mod (fun _ => False) w wz)
    (hxo : OwnSl wz 132 7 x.ru.cv x.1.cs.length (cnds x.1.cs)) (hxb : ∀ b, x.ru.cv.ownBlock = some b → w.heap.size ≤ b) (hxf : x.1.fine)
    (hA : Appended wz 35 8 v (L.length + 1) (rus (L.map Lr.ru) ++ x.ru.cells) v' w6) (h7 : w7.heap[g]? = some (.cells (v' :: rest).toArray t (0, 0))) (hm7 : Mod (fun k => k = g) w6 w7) :
    ∃ ow', LogAt w7 ow' c d g rest t v' (L ++ [x]) ∧ Mov (fun t => t = c ∨ t = d) w ow w7 ow' := by
  obtain ⟨hA1, hA2, hA3⟩ := hA
  have hgl := (Array.getElem?_eq_some_iff.1 h.row).1
  have hzs := hz.size
  have hsz := hA2.size
  have hs7 := hm7.size
  have hvb : ∀ b, v.ownBlock = some b → b < w.heap.size := fun b hb => h.sl.sl.lt b hb
  have hmA : Mod (inBlock v) w w6 := (hz.mono (fun _ _ h => h.elim)).trans hA2 (fun b hb h => h)
  have hmF : Mod (fun k => ow k = c ∨ ow k = d) w w7 := by
    refine (hmA.mono (fun k _ hk => .inr (h.sl.vb k hk).1)).trans hm7 (fun k _ hk => ?_)
    have hk' : k = g := hk
    rw [hk']
    exact .inl h.tag
  have hv'b : ∀ b, v'.ownBlock = some b → (v.ownBlock = some b ∧ b < w.heap.size) ∨ (wz.heap.size ≤ b ∧ b < w7.heap.size) := fun b hb => by
    rcases hA3 with e | ⟨k, e, hk⟩
    · rw [e] at hb
      exact .inl ⟨hb, hvb b hb⟩
    · have := hA1.lt b hb
      rw [hb] at e
      cases e
      exact .inr ⟨hk, by omega⟩
  have hmv : Mov (fun t => t = c ∨ t = d) w ow w7 (tagNew w w7 ow (inBlock v') (fun _ => True) d) := Mov.tag (.inr rfl) hmF
  have hv'g : ∀ b, v'.ownBlock = some b → b ≠ g := fun b hb => by
    rcases hv'b b hb with h1 | h1
    · exact (h.sl.vb b h1.1).2
    · omega
  refine ⟨_, ⟨h7, by rw [tagNew_old hgl]; exact h.tag, ?_, fun b hb => ⟨?_, hv'g b hb⟩, fun q hq => ?_⟩, hmv⟩
  · rw [List.length_append, List.map_append, rus_append]
    have e : rus ([x].map Lr.ru) = x.ru.cells := by simp [rus]
    rw [e]
    exact hA1.mod hm7 (fun k hk e => hv'g k hk e)
  · rcases hv'b b hb with h1 | h1
    · rw [tagNew_old h1.2]; exact (h.sl.vb b h1.1).1
    · exact tagNew_own (by omega) h1.2 hb
  · rcases List.mem_append.1 hq with hq | hq
    · exact (h.sl.each q hq).mov hmv (by omega)
    · obtain rfl := List.mem_singleton.1 hq
      have hlt := hxo.lt
      have hnv : ∀ b, q.ru.cv.ownBlock = some b → ¬ inBlock v b ∧ b ≠ g := fun b hb => ⟨fun h1 => by have := hvb b h1; have := hxb b hb; omega, by have := hxb b hb; omega⟩
      refine ⟨⟨((hxo.mod hA2 (fun b hb => (hnv b hb).1)).mod hm7 (fun b hb e => (hnv b hb).2 e)).rd, fun _ b hb => ?_⟩, hxf⟩
      refine tagNew_C (hxb b hb) (by have := hlt b hb; omega) (fun h1 => ?_) trivial
      rcases hv'b b h1 with h3 | h3
      · have := hxb b hb; omega
      · have := hlt b hb; omega

/-- What Add's last statement reads. -/
def PadS (g B : Nat) (s : Value) (k : PRu) (na : Option Addr) (nc : Nat) (y : World) : Prop :=
  y.cell? ⟨g, 0, none⟩ = some s ∧ y.cell? ⟨B, 0, none⟩ = some (.int .i64 k.kind) ∧ y.cell? ⟨B, 1, none⟩ = some (.int .i64 k.tenant) ∧ y.cell? ⟨B, 2, none⟩ = some (.string k.who) ∧ y.cell? ⟨B, 3, none⟩ = some (.int .i64 k.broker) ∧
    y.cell? ⟨B, 4, none⟩ = some (.string k.sc) ∧ y.cell? ⟨B, 5, none⟩ = some (.slice na k.cs.length nc) ∧ y.cell? ⟨B, 6, none⟩ = some (.string k.name) ∧ y.cell? ⟨B, 7, none⟩ = some (.int .i64 k.at_)
theorem PadS.mod {g B : Nat} {s : Value} {k : PRu} {na : Option Addr} {nc : Nat} {y z : World} {F : Nat → Prop} (h : PadS g B s k na nc y) (hm : Mod F y z) (h1 : ¬ F g) (h2 : ¬ F B) : PadS g B s k na nc z := by
  obtain ⟨a0, a1, a2, a3, a4, a5, a6, a7, a8⟩ := h
  exact ⟨hm.cell a0 h1, hm.cell a1 h2, hm.cell a2 h2, hm.cell a3 h2, hm.cell a4 h2, hm.cell a5 h2, hm.cell a6 h2, hm.cell a7 h2, hm.cell a8 h2⟩
theorem PadS.at {g B : Nat} {s : Value} {k : PRu} {na : Option Addr} {nc : Nat} {y : World} {t : TypeId} {cs : List Value} (h1 : y.heap[g]? = some (.cells (s :: cs).toArray t (0, 0))) (h2 : y.heap[B]? = some (.cells (k.lies na nc).cells.toArray 35 (0, 0))) : PadS g B s k na nc y :=
  ⟨cell_of h1 rfl, cell_of h2 rfl, cell_of h2 rfl, cell_of h2 rfl, cell_of h2 rfl, cell_of h2 rfl, cell_of h2 rfl, cell_of h2 rfl, cell_of h2 rfl⟩

set_option maxHeartbeats 8000000 in
theorem padd_at (w0 w : World) (ow : Ow) (c d g : Nat) (rest : List Value) (t : TypeId) (v : Value) (L : List Lr) (hw : Owd w0 w ow) (h2 : 2 ≤ c ∧ 2 ≤ d) (h : LogAt w ow c d g rest t v L) (hll : L.length ≤ 40) (p : PRu) (ra : Option Addr) (rc : Nat)
    (hx : RdSl w 7 (.slice ra p.cs.length rc) p.cs.length (cnds p.cs)) (hf : p.fine) :
    Calls Tryz.prog 13 #[.pointer (some ⟨g, 0, none⟩), .agg (p.lies ra rc).cells.toArray] w (AddPost w ow c d g rest t L p) := by
  obtain ⟨a, cap, rfl, hcap⟩ : ∃ a cc, v = .slice a L.length cc ∧ L.length ≤ cc := by obtain ⟨-, a, cc, h, h2, -⟩ := h.sl.sl.rd; exact ⟨a, cc, h, h2⟩
  have hru := h.sl.ru
  have hLl : (L.map Lr.ru).length = L.length := List.length_map _
  rw [← hLl] at hru
  obtain ⟨wa, hwa⟩ : ∃ wa : World, w.alloc (.cells (p.lies ra rc).cells.toArray 35) = wa := ⟨_, rfl⟩
  have hmwa : Mod (fun _ => False) w wa := hwa ▸ (Mod.refl (fun _ => False) w).alloc _
  have hgwa := heap_alloc_new w (.cells (p.lies ra rc).cells.toArray 35)
  rw [hwa] at hgwa
  have hzwa : wa.heap.size = w.heap.size + 1 := by rw [← hwa]; simp
  have hgl := (Array.getElem?_eq_some_iff.1 h.row).1
  have c0 : w.cell? ⟨g, 0, none⟩ = some (.slice a (L.map Lr.ru).length cap) := by rw [hLl]; exact cell_of h.row rfl
  have hch := check_at wa g a cap (L.map Lr.ru) (hmwa.cell c0 (fun h => h)) (hru.mod hmwa) (by omega) (p.lies ra rc) (hf.ok (hx.mod hmwa (fun _ _ h => h)))
  rw [lrs_pru, show (p.lies ra rc).pru = p from rfl] at hch
  obtain ⟨R, hR⟩ : ∃ R, chkP (L.map Prod.fst) p = R := ⟨_, rfl⟩
  unfold AddPost
  rw [hR] at hch ⊢
  have hnm := h.sl.sl
  have Hw := Lib.hid hw
  have H := Lib.hid h
  have Hru := Lib.hid hru
  have Hch := Lib.hid hch
  have HR := Lib.hid hR
  have Hwa := Lib.hid hwa
  have Hmwa := Lib.hid hmwa
  have Hgwa := Lib.hid hgwa
  have Hx := Lib.hid hx
  have Hf := Lib.hid hf
  clear hw h hru hch hR hwa hmwa hgwa hx hf hnm
  go_enter Tryz.func13, Tryz.ntmps13
  go_wp2_with (first | (rw [show w.alloc _ = wa from Hwa.out]) | ((with_reducible refine wpList_load_lit 35 (.tmp 3) ?_); refine ⟨w.heap.size, 0, rfl, (p.lies ra rc).cells, CellsAt.row Hgwa.out, by kernel_rfl, by kernel_rfl, ?_⟩) | fail)
  refine Hch.out.mono ?_
  rintro e w1 ⟨rfl, hm1⟩
  have hm01 := Hmwa.out.trans hm1 (fun _ _ h => h)
  have hg1 := hm1.heap Hgwa.out (fun h => h)
  by_cases hR0 : R = 0
  rotate_left
  · have hadd : addP (L.map Prod.fst) p = L.map Prod.fst := by unfold addP; rw [HR.out, if_neg hR0]
    have Hm01 := Lib.hid hm01
    have Hadd := Lib.hid hadd
    have Hg1 := Lib.hid hg1
    have Hm1 := Lib.hid hm1
    clear hm01 hadd hg1 hm1
    go_wp2
    go_ret
    exact ⟨rfl, ow, .slice a L.length cap, L, H.out.mov (Mov.of Hw.out Hm01.out (fun _ => False)) (fun h => h) (fun h => h) (fun h => h), Hadd.out.symm, Mov.of Hw.out Hm01.out _⟩
  have hadd : addP (L.map Prod.fst) p = L.map Prod.fst ++ [p.kept] := by unfold addP; rw [HR.out, if_pos hR0]
  subst hR0
  have e4 : w1.cell? ⟨w.heap.size, 4, none⟩ = some (.string p.sc) := cell_of hg1 rfl
  have e5 : w1.cell? ⟨w.heap.size, 5, none⟩ = some (.slice ra p.cs.length rc) := cell_of hg1 rfl
  have hx1 := Hx.out.mod hm01 (fun _ _ h => h)
  have hfr := filter_right w1 p.sc (.slice ra p.cs.length rc) p.cs hx1 (by have := Hf.out.len; omega) (by have := Hf.out.sc; omega) (fun q hq => by have := (Hf.out.cs q hq).name; omega)
  have hzw : w.heap.size < wa.heap.size := by omega
  have Hm01 := Lib.hid hm01
  have Hadd := Lib.hid hadd
  have Hg1 := Lib.hid hg1
  have Hm1 := Lib.hid hm1
  have Hx1 := Lib.hid hx1
  have Hfr := Lib.hid hfr
  clear hm01 hadd hg1 hm1 hx1 hfr hzwa
  go_wp2_with fail
  refine Hfr.out.mono ?_
  rintro e w2 ⟨rfl, hm2⟩
  have hm02 := Hm01.out.trans hm2 (fun _ _ h => h)
  have hg2 := hm2.heap Hg1.out (fun h => h)
  have hx2 := Hx1.out.mod hm2 (fun _ _ h => h)
  have e4 : w2.cell? ⟨w.heap.size, 4, none⟩ = some (.string p.sc) := cell_of hg2 rfl
  have e5 : w2.cell? ⟨w.heap.size, 5, none⟩ = some (.slice ra p.cs.length rc) := cell_of hg2 rfl
  cases hfb : filRight p.sc p.cs with
  | true =>
    have hfl := fil_bounds hfb
    have hkp : p.kept = { p with cs := normC p.cs } := by unfold PRu.kept; rw [if_pos hfb]
    have hnr := norm_at w0 w2 (Hw.out.laid.mod0 hm02) p.sc (.slice ra p.cs.length rc) p.cs hx2 (by omega) Hf.out.cs
    obtain ⟨nl, hnl⟩ : ∃ nl, normC p.cs = nl := ⟨_, rfl⟩
    rw [hnl] at hnr hkp
    have Hm02 := Lib.hid hm02
    have Hg2 := Lib.hid hg2
    have Hx2 := Lib.hid hx2
    have Hfl := Lib.hid hfl
    have Hkp := Lib.hid hkp
    have Hnr := Lib.hid hnr
    have Hnl := Lib.hid hnl
    have Hfb := Lib.hid hfb
    have Hm2 := Lib.hid hm2
    clear hm02 hg2 hx2 hfl hkp hnr hnl hfb hm2
    go_wp2_with fail
    refine Hnr.out.mono ?_
    rintro e w3 ⟨na, nc, rfl, hno, hnb, hm3⟩
    have hm03 := Hm02.out.trans hm3 (fun _ _ h => h)
    have hg3 := hm3.heap Hg2.out (fun h => h)
    have Hs2 := Lib.hid (Hm02.out.size)
    obtain ⟨k, hk⟩ : ∃ k : PRu, { p with cs := nl } = k := ⟨_, rfl⟩
    have hkk : p.kept = k := Hkp.out.trans hk
    have hfk : k.fine := by rw [← hkk]; exact Hf.out.kept
    have hkc : k.kind = p.kind ∧ k.tenant = p.tenant ∧ k.who = p.who ∧ k.broker = p.broker ∧ k.sc = p.sc ∧ k.cs = nl ∧ k.name = p.name ∧ k.at_ = p.at_ := by subst hk; exact ⟨rfl, rfl, rfl, rfl, rfl, rfl, rfl, rfl⟩
    have hno5' := hno
    have Hm03 := Lib.hid hm03
    have Hg3 := Lib.hid hg3
    have Hno := Lib.hid hno
    have Hnb := Lib.hid hnb
    have Hm3 := Lib.hid hm3
    have Hkk := Lib.hid hkk
    have Hfk := Lib.hid hfk
    have Hk := Lib.hid hk
    clear hm03 hg3 hno hnb hm3 hkk hfk hk
    go_wp2_with (first | ((with_reducible refine wpList_store_part_lit 33 (.tmp 18) (.tmp 17) ?_); refine ⟨w.heap.size, 4, rfl, _, _, Hg3.out, [.string p.sc, .slice na nl.length nc], rfl, Nat.le_of_ble_eq_true rfl, by kernel_rfl, rfl, ?_⟩; intro w5 he5 hm5; have hg5 : w5.heap[w.heap.size]? = some (.cells ([.int .i64 p.kind, .int .i64 p.tenant, .string p.who, .int .i64 p.broker, .string p.sc, .slice na nl.length nc, .string p.name, .int .i64 p.at_] : List Value).toArray 35 (0, 0)) := he5 ▸ setRow_heap w3 w.heap.size _ _ _ _ Hg3.out; have Hg5' := Lib.hid hg5; have Hm5 := Lib.hid hm5; clear he5 hg5 hm5) | fail)
    have hg5 : w5.heap[w.heap.size]? = some (.cells (k.lies na nc).cells.toArray 35 (0, 0)) := by rw [← Hk.out]; exact Hg5'.out
    have hm05 : Mod (fun _ => False) w w5 := Hm03.out.upon Hm5.out (fun b hb => .inr (Nat.le_of_eq (Eq.symm hb)))
    have hno5 : OwnSl w5 132 7 (.slice na k.cs.length nc) k.cs.length (cnds k.cs) := by
      rw [hkc.2.2.2.2.2.1]
      exact Hno.out.mod Hm5.out (fun b hb e => by have h1 := Hnb.out b hb; have h3 : b = w.heap.size := e; have h4 := (Array.getElem?_eq_some_iff.1 Hg2.out).1; omega)
    have hnb5 : ∀ b, (Value.slice na k.cs.length nc).ownBlock = some b → w.heap.size ≤ b := by
      rw [hkc.2.2.2.2.2.1]
      exact fun b hb => Nat.le_trans Hs2.out (Hnb.out b hb)
    have Hnb := Lib.hid hnb5
    have Hg5 := Lib.hid hg5
    have Hm05 := Lib.hid hm05
    have Hno5 := Lib.hid hno5
    clear hg5 hm05 hno5 hnb5 hkc
    clear Hg5'
    have hrow5 := Hm05.out.heap H.out.row (fun h => h)
    have hone : ∀ u ∈ (k.lies na nc).cells, u.oneCell' = true := fun u hu => List.all_eq_true.1 (show (k.lies na nc).cells.all (·.oneCell') = true from rfl) u hu
    have hsl5 := H.out.sl.sl.mod Hm05.out (fun _ _ h => h)
    have hlp : L.length ≤ 40 := hll
    have hS : PadS g w.heap.size (.slice a L.length cap) k na nc w5.drew := PadS.at (y := w5.drew) hrow5 Hg5.out
    have hs5 := Hm05.out.size
    have Hrow5 := Lib.hid hrow5
    have Hone := Lib.hid hone
    have Hsl5 := Lib.hid hsl5
    have Hs5 := Lib.hid hs5
    clear hrow5 hone hsl5 hs5
    refine wp_region_script [.rd 0, .rd 1, .rd 2, .rd 3, .rd 4, .rd 5, .go 6, .go 7, .go 8, .go 9, .go 10] [0, 1, 2, 3, 4, 5, 6] (PadS g w.heap.size (.slice a L.length cap) k na nc) (by kernel_rfl) (by kernel_rfl) (fun _ _ d _ _ h => (by cases d <;> exact h)) ?_
    refine walk_rd rfl ?_ (fun _ => hS) ?_ (fun w0 h0 => ?_) (fun K hK => ?_)
    · (try simp only [List.getElem_toArray]); (try simp only [List.getElem_cons_succ]); (try simp only [List.getElem_cons_zero])
      go_simp; done
    rotate_left
    · (try simp only [List.getElem_toArray]); (try simp only [List.getElem_cons_succ]); (try simp only [List.getElem_cons_zero])
      first
        | (obtain ⟨f0, f1, f2, f3, f4, f5, f6, f7, f8⟩ := h0 rfl; clear h0; go_simp; with_reducible rfl)
        | (clear h0; go_simp; with_reducible rfl)
    (try simp only [List.getElem_toArray]); (try simp only [List.getElem_cons_succ]); (try simp only [List.getElem_cons_zero])
    go_simp; refine hK _ ?_; clear hK K
    refine walk_rd rfl ?_ (fun _ => hS) ?_ (fun w0 h0 => ?_) (fun K hK => ?_)
    · (try simp only [List.getElem_toArray]); (try simp only [List.getElem_cons_succ]); (try simp only [List.getElem_cons_zero])
      go_simp; done
    rotate_left
    · (try simp only [List.getElem_toArray]); (try simp only [List.getElem_cons_succ]); (try simp only [List.getElem_cons_zero])
      first
        | (obtain ⟨f0, f1, f2, f3, f4, f5, f6, f7, f8⟩ := h0 rfl; clear h0; go_simp; with_reducible rfl)
        | (clear h0; go_simp; with_reducible rfl)
    (try simp only [List.getElem_toArray]); (try simp only [List.getElem_cons_succ]); (try simp only [List.getElem_cons_zero])
    go_simp; refine hK _ ?_; clear hK K
    refine walk_rd rfl ?_ (fun _ => hS) ?_ (fun w0 h0 => ?_) (fun K hK => ?_)
    · (try simp only [List.getElem_toArray]); (try simp only [List.getElem_cons_succ]); (try simp only [List.getElem_cons_zero])
      go_simp; done
    rotate_left
    · (try simp only [List.getElem_toArray]); (try simp only [List.getElem_cons_succ]); (try simp only [List.getElem_cons_zero])
      first
        | (obtain ⟨f0, f1, f2, f3, f4, f5, f6, f7, f8⟩ := h0 rfl; clear h0; go_simp; with_reducible rfl)
        | (clear h0; go_simp; with_reducible rfl)
    (try simp only [List.getElem_toArray]); (try simp only [List.getElem_cons_succ]); (try simp only [List.getElem_cons_zero])
    go_simp; refine hK _ ?_; clear hK K
    refine walk_rd rfl ?_ (fun _ => hS) ?_ (fun w0 h0 => ?_) (fun K hK => ?_)
    · (try simp only [List.getElem_toArray]); (try simp only [List.getElem_cons_succ]); (try simp only [List.getElem_cons_zero])
      go_simp; done
    rotate_left
    · (try simp only [List.getElem_toArray]); (try simp only [List.getElem_cons_succ]); (try simp only [List.getElem_cons_zero])
      first
        | (obtain ⟨f0, f1, f2, f3, f4, f5, f6, f7, f8⟩ := h0 rfl; clear h0; go_simp; with_reducible rfl)
        | (clear h0; go_simp; with_reducible rfl)
    (try simp only [List.getElem_toArray]); (try simp only [List.getElem_cons_succ]); (try simp only [List.getElem_cons_zero])
    go_simp; refine hK _ ?_; clear hK K
    refine walk_rd rfl ?_ (fun _ => hS) ?_ (fun w0 h0 => ?_) (fun K hK => ?_)
    · (try simp only [List.getElem_toArray]); (try simp only [List.getElem_cons_succ]); (try simp only [List.getElem_cons_zero])
      go_simp; done
    rotate_left
    · (try simp only [List.getElem_toArray]); (try simp only [List.getElem_cons_succ]); (try simp only [List.getElem_cons_zero])
      first
        | (obtain ⟨f0, f1, f2, f3, f4, f5, f6, f7, f8⟩ := h0 rfl; clear h0; go_simp; with_reducible rfl)
        | (clear h0; go_simp; with_reducible rfl)
    (try simp only [List.getElem_toArray]); (try simp only [List.getElem_cons_succ]); (try simp only [List.getElem_cons_zero])
    go_simp; refine hK _ ?_; clear hK K
    refine walk_rd rfl ?_ (fun _ => hS) ?_ (fun w0 h0 => ?_) (fun K hK => ?_)
    · (try simp only [List.getElem_toArray]); (try simp only [List.getElem_cons_succ]); (try simp only [List.getElem_cons_zero])
      go_simp; done
    rotate_left
    · (try simp only [List.getElem_toArray]); (try simp only [List.getElem_cons_succ]); (try simp only [List.getElem_cons_zero])
      first
        | (obtain ⟨f0, f1, f2, f3, f4, f5, f6, f7, f8⟩ := h0 rfl; clear h0; go_simp; with_reducible rfl)
        | (clear h0; go_simp; with_reducible rfl)
    (try simp only [List.getElem_toArray]); (try simp only [List.getElem_cons_succ]); (try simp only [List.getElem_cons_zero])
    go_simp; refine hK _ ?_; clear hK K
    refine walk_one (go_yes rfl ?_ (fun K hK => ?_))
    · (try simp only [List.getElem_toArray]); (try simp only [List.getElem_cons_succ]); (try simp only [List.getElem_cons_zero])
      go_simp; done
    (try simp only [List.getElem_toArray]); (try simp only [List.getElem_cons_succ]); (try simp only [List.getElem_cons_zero])
    obtain ⟨wT, hwT⟩ : ∃ wT : World, w5.drew.alloc (.cells (k.lies na nc).cells.toArray 35) = wT := ⟨_, rfl⟩
    have hmwT : Mod (fun _ => False) w5.drew wT := hwT ▸ (Mod.refl (fun _ => False) w5.drew).alloc _
    have hgwT := heap_alloc_new w5.drew (.cells (k.lies na nc).cells.toArray 35)
    rw [hwT] at hgwT
    have hzwT : wT.heap.size = w5.drew.heap.size + 1 := by rw [← hwT]; simp
    have hwT' : w5.drew.alloc (.cells #[.int .i64 k.kind, .int .i64 k.tenant, .string k.who, .int .i64 k.broker, .string k.sc, .slice na k.cs.length nc, .string k.name, .int .i64 k.at_] 35) = wT := hwT
    go_simp
    refine hK _ _ (fun _ h => h.mod hmwT (fun h => h) (fun h => h)) ?_
    clear hK K hS
    have hrdT : RdSl wT 8 (.slice (some ⟨w5.heap.size, 0, none⟩) 1 1) 1 (k.lies na nc).cells := hwT ▸ RdSl.one w5.drew (k.lies na nc).cells 35 rfl
    have hm5T : Mod (fun _ => False) w5 wT := ((Mod.refl (fun _ => False) w5).drew).trans hmwT (fun _ _ h => h)
    have hslT := Hsl5.out.mod hm5T (fun _ _ h => h)
    have hnoT := Hno5.out.mod hm5T (fun _ _ h => h)
    have hm0T := Hm05.out.trans hm5T (fun _ _ h => h)
    refine walk_one (go_yes rfl ?_ (fun K hK => ?_))
    · (try simp only [List.getElem_toArray]); (try simp only [List.getElem_cons_succ]); (try simp only [List.getElem_cons_zero])
      go_simp; done
    (try simp only [List.getElem_toArray]); (try simp only [List.getElem_cons_succ]); (try simp only [List.getElem_cons_zero])
    refine wp_append_sl (.tmp 29) (.tmp 31) 22 rfl 35 8 104 rules_T2 (.slice a L.length cap) L.length (rus (L.map Lr.ru)) rfl hslT (.slice (some ⟨w5.heap.size, 0, none⟩) 1 1) 1 (k.lies na nc).cells rfl hrdT Hone.out (by omega) (by unfold maxLen; omega) (fun ad cap2 w6 hA => ?_)
    refine hK _ _ (fun h => absurd h (by decide)) ?_
    clear hK K
    have hnvg : ¬ inBlock (.slice a L.length cap) g := fun h => (H.out.sl.vb g h).2 rfl
    have hg6 := hA.2.1.heap (hm5T.heap Hrow5.out (fun h => h)) hnvg
    have k6 : w6.cell? ⟨g, 0, none⟩ = some (.slice a L.length cap) := cell_of hg6 rfl
    have f6 : w6.frozen? ⟨g, 0, none⟩ = false := fr_of hg6
    have HA := Lib.hid hA
    have Hg6 := Lib.hid hg6
    have Hm5T := Lib.hid hm5T
    have HslT := Lib.hid hslT
    have HnoT := Lib.hid hnoT
    have Hm0T := Lib.hid hm0T
    have HrdT := Lib.hid hrdT
    have Hnvg := Lib.hid hnvg
    clear hA hg6 hm5T hslT hnoT hm0T hrdT hnvg hwT hmwT hgwT hwT' hzwT
    refine walk_one (go_yes rfl ?_ (fun K hK => ?_))
    · (try simp only [List.getElem_toArray]); (try simp only [List.getElem_cons_succ]); (try simp only [List.getElem_cons_zero])
      go_simp; done
    (try simp only [List.getElem_toArray]); (try simp only [List.getElem_cons_succ]); (try simp only [List.getElem_cons_zero])
    go_simp
    refine hK _ _ (fun h => absurd h (by decide)) ?_
    clear hK K
    refine walk_one (go_yes rfl ?_ (fun K hK => ?_))
    · (try simp only [List.getElem_toArray]); (try simp only [List.getElem_cons_succ]); (try simp only [List.getElem_cons_zero])
      go_simp; done
    (try simp only [List.getElem_toArray]); (try simp only [List.getElem_cons_succ]); (try simp only [List.getElem_cons_zero])
    go_simp
    refine hK _ _ (fun h => absurd h (by decide)) ?_
    clear hK K
    refine walk_one (go_yes rfl ?_ (fun K hK => ?_))
    · (try simp only [List.getElem_toArray]); (try simp only [List.getElem_cons_succ]); (try simp only [List.getElem_cons_zero])
      go_simp; done
    (try simp only [List.getElem_toArray]); (try simp only [List.getElem_cons_succ]); (try simp only [List.getElem_cons_zero])
    go_simp
    refine hK _ _ (fun h => absurd h (by decide)) ?_
    clear hK K
    refine walk_nil ?_
    obtain ⟨w7, hw7⟩ : ∃ w7 : World, w6.setCell ⟨g, 0, none⟩ (.slice ad (L.length + 1) cap2) = w7 := ⟨_, rfl⟩
    have hm7 : Mod (fun k => k = g) w6 w7 := hw7 ▸ (Mod.refl (fun k => k = g) w6).setCell (fun _ => rfl) _
    have hg7 : w7.heap[g]? = some (.cells (.slice ad (L.length + 1) cap2 :: rest).toArray t (0, 0)) := by
      rw [← hw7]
      have := heap_set (i := 0) (v := .slice ad (L.length + 1) cap2) Hg6.out
      simpa using this
    obtain ⟨ow', hlog, hmov⟩ := LogAt.app (x := (k, na, nc)) Hw.out h2 H.out Hm0T.out HnoT.out Hnb.out Hfk.out HA.out hg7 hm7
    rw [hw7]
    have Hm7 := Lib.hid hm7
    have Hg7 := Lib.hid hg7
    have Hlog := Lib.hid hlog
    have Hmov := Lib.hid hmov
    have Hw7 := Lib.hid hw7
    clear hm7 hg7 hlog hmov hw7
    go_wp2_with fail
    go_ret
    exact ⟨rfl, ow', _, _, Hlog.out, by rw [List.map_append, Hadd.out, Hkk.out]; rfl, Hmov.out⟩
  | false =>
    have hkk : p.kept = p := by unfold PRu.kept; rw [hfb]; rfl
    have hfk : p.fine := Hf.out
    have hlc := Hf.out.len
    have hcone := cnds_one p.cs
    have Hm02 := Lib.hid hm02
    have Hg2 := Lib.hid hg2
    have Hx2 := Lib.hid hx2
    have Hkk := Lib.hid hkk
    have Hfk := Lib.hid hfk
    have Hm2 := Lib.hid hm2
    have Hcone := Lib.hid hcone
    have Hfb := Lib.hid hfb
    clear hm02 hg2 hx2 hkk hfk hm2 hcone hfb
    go_wp2_with (first | ((with_reducible refine wpList_append_lit (.const (.slice none 0 0)) (.tmp 21) 31 ?_); refine ⟨rfl, 132, 7, 72, conds_T2, .slice none 0 0, 0, [], rfl, OwnSl.nil _ _ _, _, p.cs.length, cnds p.cs, rfl, Hx2.out, Hcone.out, by omega, by unfold maxLen; omega, ?_⟩; intro na nc w3 hA; rw [Nat.zero_add] at *; rw [List.nil_append] at hA; have hm23 : Mod (fun _ => False) w2 w3 := hA.2.1.mono (fun _ _ h => by cases h); have hg3 := hm23.heap Hg2.out (fun h => h); have k3 : w3.cell? ⟨w.heap.size, 5, none⟩ = some (.slice ra p.cs.length rc) := cell_of hg3 rfl; have f3 : w3.frozen? ⟨w.heap.size, 5, none⟩ = false := fr_of hg3; have HA3 := Lib.hid hA; have Hm23 := Lib.hid hm23; have Hg3 := Lib.hid hg3; clear hA hm23 hg3) | fail)
    obtain ⟨k, hk⟩ : ∃ k : PRu, p = k := ⟨_, rfl⟩
    obtain ⟨w5, hw5⟩ : ∃ w5 : World, w3.setCell ⟨w.heap.size, 5, none⟩ (.slice na p.cs.length nc) = w5 := ⟨_, rfl⟩
    have hm35 : Mod (fun k => k = w.heap.size) w3 w5 := hw5 ▸ (Mod.refl (fun k => k = w.heap.size) w3).setCell (fun _ => rfl) _
    have hm05 : Mod (fun _ => False) w w5 := (Hm02.out.trans Hm23.out (fun _ _ h => h)).upon hm35 (fun b hb => .inr (Nat.le_of_eq (Eq.symm hb)))
    have hg5 : w5.heap[w.heap.size]? = some (.cells (p.lies na nc).cells.toArray 35 (0, 0)) := by
      rw [← hw5]
      have := heap_set (i := 5) (v := .slice na p.cs.length nc) Hg3.out
      simpa [PRu.lies, Ru.cells] using this
    have hnb : ∀ b, (Value.slice na p.cs.length nc).ownBlock = some b → w2.heap.size ≤ b := fun b hb => by
      rcases HA3.out.2.2 with e | ⟨q, e, hq⟩
      · rw [e] at hb; cases hb
      · rw [e] at hb; cases hb; exact hq
    have hs2 := Hm02.out.size
    have hgl2 := (Array.getElem?_eq_some_iff.1 Hg2.out).1
    have hno5 : OwnSl w5 132 7 (.slice na p.cs.length nc) p.cs.length (cnds p.cs) := HA3.out.1.mod hm35 (fun b hb e => by have h1 := hnb b hb; have h3 : b = w.heap.size := e; omega)
    have Hnb := Lib.hid (show ∀ b, (Value.slice na p.cs.length nc).ownBlock = some b → w.heap.size ≤ b from fun b hb => Nat.le_trans hs2 (hnb b hb))
    rw [hw5]
    clear hk k hnb
    obtain ⟨k, rfl⟩ : ∃ k : PRu, k = p := ⟨_, rfl⟩
    have Hw5 := Lib.hid hw5
    have Hm35 := Lib.hid hm35
    have Hm05 := Lib.hid hm05
    have Hg5 := Lib.hid hg5
    have Hno5 := Lib.hid hno5
    have Hs2 := Lib.hid hs2
    clear hw5 hm35 hm05 hg5 hno5 hs2
    go_wp2_with fail
    have hrow5 := Hm05.out.heap H.out.row (fun h => h)
    have hone : ∀ u ∈ (k.lies na nc).cells, u.oneCell' = true := fun u hu => List.all_eq_true.1 (show (k.lies na nc).cells.all (·.oneCell') = true from rfl) u hu
    have hsl5 := H.out.sl.sl.mod Hm05.out (fun _ _ h => h)
    have hlp : L.length ≤ 40 := hll
    have hS : PadS g w.heap.size (.slice a L.length cap) k na nc w5.drew := PadS.at (y := w5.drew) hrow5 Hg5.out
    have hs5 := Hm05.out.size
    have Hrow5 := Lib.hid hrow5
    have Hone := Lib.hid hone
    have Hsl5 := Lib.hid hsl5
    have Hs5 := Lib.hid hs5
    clear hrow5 hone hsl5 hs5
    refine wp_region_script [.rd 0, .rd 1, .rd 2, .rd 3, .rd 4, .rd 5, .go 6, .go 7, .go 8, .go 9, .go 10] [0, 1, 2, 3, 4, 5, 6] (PadS g w.heap.size (.slice a L.length cap) k na nc) (by kernel_rfl) (by kernel_rfl) (fun _ _ d _ _ h => (by cases d <;> exact h)) ?_
    refine walk_rd rfl ?_ (fun _ => hS) ?_ (fun w0 h0 => ?_) (fun K hK => ?_)
    · (try simp only [List.getElem_toArray]); (try simp only [List.getElem_cons_succ]); (try simp only [List.getElem_cons_zero])
      go_simp; done
    rotate_left
    · (try simp only [List.getElem_toArray]); (try simp only [List.getElem_cons_succ]); (try simp only [List.getElem_cons_zero])
      first
        | (obtain ⟨f0, f1, f2, f3, f4, f5, f6, f7, f8⟩ := h0 rfl; clear h0; go_simp; with_reducible rfl)
        | (clear h0; go_simp; with_reducible rfl)
    (try simp only [List.getElem_toArray]); (try simp only [List.getElem_cons_succ]); (try simp only [List.getElem_cons_zero])
    go_simp; refine hK _ ?_; clear hK K
    refine walk_rd rfl ?_ (fun _ => hS) ?_ (fun w0 h0 => ?_) (fun K hK => ?_)
    · (try simp only [List.getElem_toArray]); (try simp only [List.getElem_cons_succ]); (try simp only [List.getElem_cons_zero])
      go_simp; done
    rotate_left
    · (try simp only [List.getElem_toArray]); (try simp only [List.getElem_cons_succ]); (try simp only [List.getElem_cons_zero])
      first
        | (obtain ⟨f0, f1, f2, f3, f4, f5, f6, f7, f8⟩ := h0 rfl; clear h0; go_simp; with_reducible rfl)
        | (clear h0; go_simp; with_reducible rfl)
    (try simp only [List.getElem_toArray]); (try simp only [List.getElem_cons_succ]); (try simp only [List.getElem_cons_zero])
    go_simp; refine hK _ ?_; clear hK K
    refine walk_rd rfl ?_ (fun _ => hS) ?_ (fun w0 h0 => ?_) (fun K hK => ?_)
    · (try simp only [List.getElem_toArray]); (try simp only [List.getElem_cons_succ]); (try simp only [List.getElem_cons_zero])
      go_simp; done
    rotate_left
    · (try simp only [List.getElem_toArray]); (try simp only [List.getElem_cons_succ]); (try simp only [List.getElem_cons_zero])
      first
        | (obtain ⟨f0, f1, f2, f3, f4, f5, f6, f7, f8⟩ := h0 rfl; clear h0; go_simp; with_reducible rfl)
        | (clear h0; go_simp; with_reducible rfl)
    (try simp only [List.getElem_toArray]); (try simp only [List.getElem_cons_succ]); (try simp only [List.getElem_cons_zero])
    go_simp; refine hK _ ?_; clear hK K
    refine walk_rd rfl ?_ (fun _ => hS) ?_ (fun w0 h0 => ?_) (fun K hK => ?_)
    · (try simp only [List.getElem_toArray]); (try simp only [List.getElem_cons_succ]); (try simp only [List.getElem_cons_zero])
      go_simp; done
    rotate_left
    · (try simp only [List.getElem_toArray]); (try simp only [List.getElem_cons_succ]); (try simp only [List.getElem_cons_zero])
      first
        | (obtain ⟨f0, f1, f2, f3, f4, f5, f6, f7, f8⟩ := h0 rfl; clear h0; go_simp; with_reducible rfl)
        | (clear h0; go_simp; with_reducible rfl)
    (try simp only [List.getElem_toArray]); (try simp only [List.getElem_cons_succ]); (try simp only [List.getElem_cons_zero])
    go_simp; refine hK _ ?_; clear hK K
    refine walk_rd rfl ?_ (fun _ => hS) ?_ (fun w0 h0 => ?_) (fun K hK => ?_)
    · (try simp only [List.getElem_toArray]); (try simp only [List.getElem_cons_succ]); (try simp only [List.getElem_cons_zero])
      go_simp; done
    rotate_left
    · (try simp only [List.getElem_toArray]); (try simp only [List.getElem_cons_succ]); (try simp only [List.getElem_cons_zero])
      first
        | (obtain ⟨f0, f1, f2, f3, f4, f5, f6, f7, f8⟩ := h0 rfl; clear h0; go_simp; with_reducible rfl)
        | (clear h0; go_simp; with_reducible rfl)
    (try simp only [List.getElem_toArray]); (try simp only [List.getElem_cons_succ]); (try simp only [List.getElem_cons_zero])
    go_simp; refine hK _ ?_; clear hK K
    refine walk_rd rfl ?_ (fun _ => hS) ?_ (fun w0 h0 => ?_) (fun K hK => ?_)
    · (try simp only [List.getElem_toArray]); (try simp only [List.getElem_cons_succ]); (try simp only [List.getElem_cons_zero])
      go_simp; done
    rotate_left
    · (try simp only [List.getElem_toArray]); (try simp only [List.getElem_cons_succ]); (try simp only [List.getElem_cons_zero])
      first
        | (obtain ⟨f0, f1, f2, f3, f4, f5, f6, f7, f8⟩ := h0 rfl; clear h0; go_simp; with_reducible rfl)
        | (clear h0; go_simp; with_reducible rfl)
    (try simp only [List.getElem_toArray]); (try simp only [List.getElem_cons_succ]); (try simp only [List.getElem_cons_zero])
    go_simp; refine hK _ ?_; clear hK K
    refine walk_one (go_yes rfl ?_ (fun K hK => ?_))
    · (try simp only [List.getElem_toArray]); (try simp only [List.getElem_cons_succ]); (try simp only [List.getElem_cons_zero])
      go_simp; done
    (try simp only [List.getElem_toArray]); (try simp only [List.getElem_cons_succ]); (try simp only [List.getElem_cons_zero])
    obtain ⟨wT, hwT⟩ : ∃ wT : World, w5.drew.alloc (.cells (k.lies na nc).cells.toArray 35) = wT := ⟨_, rfl⟩
    have hmwT : Mod (fun _ => False) w5.drew wT := hwT ▸ (Mod.refl (fun _ => False) w5.drew).alloc _
    have hgwT := heap_alloc_new w5.drew (.cells (k.lies na nc).cells.toArray 35)
    rw [hwT] at hgwT
    have hzwT : wT.heap.size = w5.drew.heap.size + 1 := by rw [← hwT]; simp
    have hwT' : w5.drew.alloc (.cells #[.int .i64 k.kind, .int .i64 k.tenant, .string k.who, .int .i64 k.broker, .string k.sc, .slice na k.cs.length nc, .string k.name, .int .i64 k.at_] 35) = wT := hwT
    go_simp
    refine hK _ _ (fun _ h => h.mod hmwT (fun h => h) (fun h => h)) ?_
    clear hK K hS
    have hrdT : RdSl wT 8 (.slice (some ⟨w5.heap.size, 0, none⟩) 1 1) 1 (k.lies na nc).cells := hwT ▸ RdSl.one w5.drew (k.lies na nc).cells 35 rfl
    have hm5T : Mod (fun _ => False) w5 wT := ((Mod.refl (fun _ => False) w5).drew).trans hmwT (fun _ _ h => h)
    have hslT := Hsl5.out.mod hm5T (fun _ _ h => h)
    have hnoT := Hno5.out.mod hm5T (fun _ _ h => h)
    have hm0T := Hm05.out.trans hm5T (fun _ _ h => h)
    refine walk_one (go_yes rfl ?_ (fun K hK => ?_))
    · (try simp only [List.getElem_toArray]); (try simp only [List.getElem_cons_succ]); (try simp only [List.getElem_cons_zero])
      go_simp; done
    (try simp only [List.getElem_toArray]); (try simp only [List.getElem_cons_succ]); (try simp only [List.getElem_cons_zero])
    refine wp_append_sl (.tmp 29) (.tmp 31) 22 rfl 35 8 104 rules_T2 (.slice a L.length cap) L.length (rus (L.map Lr.ru)) rfl hslT (.slice (some ⟨w5.heap.size, 0, none⟩) 1 1) 1 (k.lies na nc).cells rfl hrdT Hone.out (by omega) (by unfold maxLen; omega) (fun ad cap2 w6 hA => ?_)
    refine hK _ _ (fun h => absurd h (by decide)) ?_
    clear hK K
    have hnvg : ¬ inBlock (.slice a L.length cap) g := fun h => (H.out.sl.vb g h).2 rfl
    have hg6 := hA.2.1.heap (hm5T.heap Hrow5.out (fun h => h)) hnvg
    have k6 : w6.cell? ⟨g, 0, none⟩ = some (.slice a L.length cap) := cell_of hg6 rfl
    have f6 : w6.frozen? ⟨g, 0, none⟩ = false := fr_of hg6
    have HA := Lib.hid hA
    have Hg6 := Lib.hid hg6
    have Hm5T := Lib.hid hm5T
    have HslT := Lib.hid hslT
    have HnoT := Lib.hid hnoT
    have Hm0T := Lib.hid hm0T
    have HrdT := Lib.hid hrdT
    have Hnvg := Lib.hid hnvg
    clear hA hg6 hm5T hslT hnoT hm0T hrdT hnvg hwT hmwT hgwT hwT' hzwT
    refine walk_one (go_yes rfl ?_ (fun K hK => ?_))
    · (try simp only [List.getElem_toArray]); (try simp only [List.getElem_cons_succ]); (try simp only [List.getElem_cons_zero])
      go_simp; done
    (try simp only [List.getElem_toArray]); (try simp only [List.getElem_cons_succ]); (try simp only [List.getElem_cons_zero])
    go_simp
    refine hK _ _ (fun h => absurd h (by decide)) ?_
    clear hK K
    refine walk_one (go_yes rfl ?_ (fun K hK => ?_))
    · (try simp only [List.getElem_toArray]); (try simp only [List.getElem_cons_succ]); (try simp only [List.getElem_cons_zero])
      go_simp; done
    (try simp only [List.getElem_toArray]); (try simp only [List.getElem_cons_succ]); (try simp only [List.getElem_cons_zero])
    go_simp
    refine hK _ _ (fun h => absurd h (by decide)) ?_
    clear hK K
    refine walk_one (go_yes rfl ?_ (fun K hK => ?_))
    · (try simp only [List.getElem_toArray]); (try simp only [List.getElem_cons_succ]); (try simp only [List.getElem_cons_zero])
      go_simp; done
    (try simp only [List.getElem_toArray]); (try simp only [List.getElem_cons_succ]); (try simp only [List.getElem_cons_zero])
    go_simp
    refine hK _ _ (fun h => absurd h (by decide)) ?_
    clear hK K
    refine walk_nil ?_
    obtain ⟨w7, hw7⟩ : ∃ w7 : World, w6.setCell ⟨g, 0, none⟩ (.slice ad (L.length + 1) cap2) = w7 := ⟨_, rfl⟩
    have hm7 : Mod (fun k => k = g) w6 w7 := hw7 ▸ (Mod.refl (fun k => k = g) w6).setCell (fun _ => rfl) _
    have hg7 : w7.heap[g]? = some (.cells (.slice ad (L.length + 1) cap2 :: rest).toArray t (0, 0)) := by
      rw [← hw7]
      have := heap_set (i := 0) (v := .slice ad (L.length + 1) cap2) Hg6.out
      simpa using this
    obtain ⟨ow', hlog, hmov⟩ := LogAt.app (x := (k, na, nc)) Hw.out h2 H.out Hm0T.out HnoT.out Hnb.out Hfk.out HA.out hg7 hm7
    rw [hw7]
    have Hm7 := Lib.hid hm7
    have Hg7 := Lib.hid hg7
    have Hlog := Lib.hid hlog
    have Hmov := Lib.hid hmov
    have Hw7 := Lib.hid hw7
    clear hm7 hg7 hlog hmov hw7
    go_wp2_with fail
    go_ret
    exact ⟨rfl, ow', _, _, Hlog.out, by rw [List.map_append, Hadd.out, Hkk.out]; rfl, Hmov.out⟩
end Go.Proofs.YtaenebdppkjhoaaGreatDoor
