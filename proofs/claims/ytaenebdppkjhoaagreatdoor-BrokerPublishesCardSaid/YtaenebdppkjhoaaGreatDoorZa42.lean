/-
  Package broker: Learn.
-/
import Derived.Test.YtaenebdppkjhoaaGreatDoorZa38
import Derived.Test.YtaenebdppkjhoaaGreatDoorZa41
import Derived.Test.YtaenebdppkjhoaaGreatDoorZa33
import Derived.Handy
namespace Go.Proofs.YtaenebdppkjhoaaGreatDoor
set_option maxRecDepth 20000
open Go.RowKit

/-- A rule's cells, and the log's slice. -/
def LrnS (g B : Nat) (s : Value) (k : PRu) (na : Option Addr) (nc : Nat) (y : World) : Prop := PadS g B s k na nc y
def learnOk (L : List PRu) (at_ : Int) (p : PRu) : Bool := decide (at_ = L.length) && decide (chkP L p = 0)
/-- The broker's rules behind a learning. -/
def BS.learn (B : BS) (at_ : Int) (p : PRu) : BS := { B with L := if learnOk B.L at_ p then addP B.L p else B.L }
def LearnPost {w0 : World} {q : Nat} (O : OutK w0 q) (w : World) (ow : Ow) (c g : Nat) (id : Int) (near : List Int) (B : BS) (s : O.σ) (at_ : Int) (p : PRu) (frm : Int) (e : Ending) (w' : World) : Prop :=
  e = .returned (.bool (learnOk B.L at_ p)) ∧ ∃ ow', Bro w' ow' c g id near (B.learn at_ p) ∧ O.inv w' ow' (O.sends s (if learnOk B.L at_ p then learnS near frm at_ p else [])) ∧ Mov (fun t => (t = c ∨ t = c + 17) ∨ O.tg t) w ow w' ow'
/-- How many neighbours were told. -/
def LearnRel {w0 : World} {q : Nat} (O : OutK w0 q) (wa : World) (ow : Ow) (c g : Nat) (id : Int) (near : List Int) (B : BS) (a : BAd) (s : O.σ) (at_ : Int) (p : PRu) (frm : Int) (i : Value) (wr : World) : Prop :=
  ∃ (j : Nat) (owr : Ow), i = .int .i64 j ∧ j ≤ near.length ∧ BroA wr owr c g id near B a ∧ O.inv wr owr (O.sends s (learnS (near.take j) frm at_ p)) ∧ Mov (fun t => (t = c ∨ t = c + 17) ∨ O.tg t) wa ow wr owr ∧ Owd w0 wr owr
/-- Who is told of a rule, of the first so many. -/
theorem learnS_succ {near : List Int} {j : Nat} {n : Int} (h : near[j]? = some n) (frm i : Int) (p : PRu) : learnS (near.take (j + 1)) frm i p = learnS (near.take j) frm i p ++ if n == frm then [] else [(n, -1, Mg.pol i p)] := by
  unfold learnS
  rw [List.take_add_one, h, Option.toList_some, List.filter_append, List.map_append]
  congr 1
  by_cases e : n = frm
  · subst e; simp
  · have : (n == frm) = false := by simpa using e
    simp [this]
theorem learnS_len (near : List Int) (frm i : Int) (p : PRu) : (learnS near frm i p).length ≤ near.length := by
  unfold learnS
  rw [List.length_map]
  exact List.length_filter_le _ _
/-- Behind a change of its rules alone a broker is one still. -/
theorem BroA.logged {w0 w w' : World} {ow ow' : Ow} {c g : Nat} {id : Int} {near : List Int} {B : BS} {a : BAd} (h : BroA w ow c g id near B a) (hw : Owd w0 w ow) (s : Mov (fun t => t = c ∨ t = c + 17) w ow w' ow') {v' : Value} {L' : List Lr} {P : List PRu} (hl : LogAt w' ow' c (c + 17) g (a.rest id) 62 v' L') (hp : L'.map Prod.fst = P) : BroA w' ow' c g id near { B with L := P } { a with v := v' } := by
  have hc := h.c2
  exact ⟨h.c2, ⟨L', hl, hp⟩, h.near.mov s (by omega) (by omega), fun t ht => (h.rea t ht).mov hw s (by omega) ⟨by omega, by omega, by omega, by omega⟩ h.c2⟩

set_option maxHeartbeats 8000000 in
theorem learn_at (w0 w : World) (ow : Ow) (c g : Nat) (id : Int) (near : List Int) (B : BS) (hw : Owd w0 w ow) (h : Bro w ow c g id near B) (hL : B.L.length ≤ 40) (q : Nat) (O : OutK w0 q) (s : O.σ) (hO : O.inv w ow s) (hOt : ∀ t, O.tg t → t < c ∨ c + 18 ≤ t)
    (hcnt : O.cnt s + near.length ≤ 400000000000) (hnl : near.length ≤ 1000) (hto : ∀ n ∈ near, O.okTo n (-1)) (at_ : Int) (p : PRu) (ra : Option Addr) (rc : Nat) (hx : LrOk w ow (p, ra, rc)) (frm : Int) :
    Calls Tryz.prog 14 #[.pointer (some ⟨g, 0, none⟩), .iface 43 (.pointer (some ⟨q, 0, none⟩)), .int .i64 at_, .agg (p.lies ra rc).cells.toArray, .int .i64 frm] w (LearnPost O w ow c g id near B s at_ p frm) := by
  obtain ⟨a, h⟩ := h
  obtain ⟨L, hlog, hLB⟩ := h.log
  have hLl : L.length = B.L.length := by rw [← hLB, List.length_map]
  obtain ⟨av, acap, hav, hacap⟩ : ∃ a' cc, a.v = .slice a' L.length cc ∧ L.length ≤ cc := by obtain ⟨-, a, cc, h, h2, -⟩ := hlog.sl.sl.rd; exact ⟨a, cc, h, h2⟩
  rw [hav] at hlog
  obtain ⟨wa, hwa⟩ : ∃ wa : World, w.alloc (.cells (p.lies ra rc).cells.toArray 35) = wa := ⟨_, rfl⟩
  have hmwa : Mod (fun _ => False) w wa := hwa ▸ (Mod.refl (fun _ => False) w).alloc _
  have hgwa := heap_alloc_new w (.cells (p.lies ra rc).cells.toArray 35)
  rw [hwa] at hgwa
  have hzwa : wa.heap.size = w.heap.size + 1 := by rw [← hwa]; simp
  have hgl := (Array.getElem?_eq_some_iff.1 hlog.row).1
  have hgg := hmwa.heap hlog.row (fun h => h)
  have hwa0 : Mov (fun _ => False) w ow wa ow := Mov.of hw hmwa _
  have howa := hwa0.owd hw (fun h => h)
  have hba : BroA wa ow c g id near B a := h.mov hw hwa0 (fun h => h) (fun _ h => h.elim)
  have hloga := hlog.mov hwa0 (fun h => h) (fun h => h) (fun h => h)
  have hOa := O.mov hO hw hwa0 (fun h => h) (fun _ h => h.elim)
  have hxa := hx.mov hwa0 (fun h => h)
  have hlen := fun (wx : World) (hx : Mod (fun _ => False) wa wx) => plen_at wx g av L.length acap (hx.cell (cell_of hgg rfl) (fun h => h))
  have hzw : w.heap.size < wa.heap.size := by omega
  have hB0 : ow w.heap.size = 0 := hw.zero (Nat.le_refl _)
  have hc2 := h.c2
  have hO0 := hO
  have hadd : ∀ wx, Mod (fun _ => False) wa wx → Calls Tryz.prog 13 #[.pointer (some ⟨g, 0, none⟩), .agg (p.lies ra rc).cells.toArray] wx (AddPost wx ow c (c + 17) g (a.rest id) 62 L p) := fun wx hm => by
    have hmv := Mov.of howa hm (fun _ => False)
    exact padd_at w0 wx ow c (c + 17) g (a.rest id) 62 (.slice av L.length acap) L (hmv.owd howa (fun h => h)) ⟨hc2, by omega⟩ (hloga.mov hmv (fun h => h) (fun h => h) (fun h => h)) (by omega) p ra rc ((hxa.mov hmv (fun h => h)).cs.rd) hx.fine
  have hL40 : L.length ≤ 40 := by omega
  have Hw := Lib.hid hw
  have H := Lib.hid h
  have Hlog := Lib.hid hlog
  have Hav := Lib.hid hav
  have Hwa := Lib.hid hwa
  have Hmwa := Lib.hid hmwa
  have Hgwa := Lib.hid hgwa
  have Hgg := Lib.hid hgg
  have Hwa0 := Lib.hid hwa0
  have Hba := Lib.hid hba
  have Hloga := Lib.hid hloga
  have HOa := Lib.hid hOa
  have Hxa := Lib.hid hxa
  have Hlen := Lib.hid hlen
  have Howa := Lib.hid howa
  have HOt := Lib.hid hOt
  have HB0 := Lib.hid hB0
  have Hx := Lib.hid hx
  have HLB := Lib.hid hLB
  have Hto := Lib.hid hto
  have HO0 := Lib.hid hO0
  have Hadd := Lib.hid hadd
  have HLl := Lib.hid hLl
  clear hw h hlog hav hwa hmwa hgwa hgg hwa0 hba hloga hOa hxa hlen howa hOt hB0 hx hLB hto hO0 hadd hLl hzwa hO hacap hL
  by_cases hat : at_ = L.length
  rotate_left
  · have hok : learnOk B.L at_ p = false := by unfold learnOk; rw [decide_eq_false (by rw [← HLl.out]; exact hat), Bool.false_and]
    have hb1 : (at_ != (L.length : Int)) = true := by simpa using hat
    have hpl : ∀ wx, Mod (fun _ => False) wa wx → Calls Tryz.prog 15 #[.pointer (some ⟨g, 0, none⟩)] wx fun e w' => e = .returned (.int .i64 L.length) ∧ Mod (fun _ => False) wa w' := fun wx hx => (Hlen.out wx hx).mono fun e w' ⟨he, hm⟩ => ⟨he, hm ▸ hx⟩
    have Hok := Lib.hid hok
    have Hpl := Lib.hid hpl
    clear hok hpl
    go_enter Tryz.func14, Tryz.ntmps14
    go_wp2_with (first | (rw [show w.alloc _ = wa from Hwa.out]) | fail)
    refine wp_region_news (by kernel_rfl) (by kernel_rfl) ?_
    iterate 14 (first
      | (refine quiet_skip ?_ (fun K hK => ?_)
         · first | (go_simp; done) | (go_simp; simp [undef]; done)
         go_simp; refine hK _ ?_; clear hK K)
      | (refine quiet_do ?_ ?_ (fun w' hw' => ?_) (fun K hK => ?_)
         · first | (go_simp; done) | (go_simp; simp [undef]; done)
         rotate_left
         · skip
           go_simp
           rfl
         go_simp; refine hK _ ?_; clear hK K)
      | (refine quiet_in ?_ ?_ ?_ ?_ (fun w' hw' => ?_) ?_ (fun K hK => ?_)
         · first | (go_simp; done) | (go_simp; simp [undef]; done)
         rotate_left 3
         · skip
           go_simp
           constructor <;> rfl
         · first | with_reducible exact Hpl.out
         go_simp; refine hK _ ?_; clear hK K))
    refine quiet_end (fun w' hw' => ?_)
    have hmx : Mod (fun _ => False) w w' := Hmwa.out.trans hw' (fun _ _ h => h)
    have Hmx := Lib.hid hmx
    clear hmx hw'
    go_wp2
    go_ret
    refine ⟨by rw [Hok.out]; rfl, ow, ⟨a, ?_⟩, ?_, Mov.of Hw.out Hmx.out _⟩
    · unfold BS.learn
      rw [Hok.out]
      exact H.out.mov Hw.out (Mov.of Hw.out Hmx.out (fun _ => False)) (fun h => h) (fun _ h => h.elim)
    · rw [Hok.out]
      exact O.mov HO0.out Hw.out (Mov.of Hw.out Hmx.out (fun _ => False)) (fun h => h) (fun _ h => h.elim)
  · subst hat
    obtain ⟨R, hR⟩ : ∃ R, chkP B.L p = R := ⟨_, rfl⟩
    have hS : LrnS g w.heap.size (.slice av L.length acap) p ra rc wa.drew := PadS.at (y := wa.drew) Hgg.out Hgwa.out
    have HR := Lib.hid hR
    clear hR
    go_enter Tryz.func14, Tryz.ntmps14
    go_wp2_with (first | (rw [show w.alloc _ = wa from Hwa.out]) | fail)
    refine wp_region_script [.rd 0, .rd 1, .rd 2, .rd 3, .go 4, .rd 5, .rd 6, .rd 7, .rd 8, .rd 9, .rd 10, .go 11, .go 12, .go 13] [0, 1, 2, 3, 4, 5, 6, 7, 8, 9, 10] (LrnS g w.heap.size (.slice av L.length acap) p ra rc) (by kernel_rfl) (by kernel_rfl) (fun _ _ d _ _ h => (by cases d <;> exact h)) ?_
    refine walk_rd rfl ?_ (fun _ => hS) ?_ (fun w0 h0 => ?_) (fun K hK => ?_)
    · (try simp only [List.getElem_toArray]); (try simp only [List.getElem_cons_succ]); (try simp only [List.getElem_cons_zero])
      go_simp; done
    rotate_left
    · (try simp only [List.getElem_toArray]); (try simp only [List.getElem_cons_succ]); (try simp only [List.getElem_cons_zero])
      first
        | (obtain ⟨f0, f1, f2, f3, f4, f5, f6, f7, f8⟩ := h0 rfl; clear h0; go_simp; with_reducible rfl)
        | (clear h0; go_simp; with_reducible rfl)
    (try simp only [List.getElem_toArray]); (try simp only [List.getElem_cons_succ]); (try simp only [List.getElem_cons_zero])
    go_simp; refine hK _ ?_; clear hK K
    refine walk_rd rfl ?_ (fun _ => hS) ?_ (fun w0 h0 => ?_) (fun K hK => ?_)
    · (try simp only [List.getElem_toArray]); (try simp only [List.getElem_cons_succ]); (try simp only [List.getElem_cons_zero])
      go_simp; done
    rotate_left
    · (try simp only [List.getElem_toArray]); (try simp only [List.getElem_cons_succ]); (try simp only [List.getElem_cons_zero])
      first
        | (obtain ⟨f0, f1, f2, f3, f4, f5, f6, f7, f8⟩ := h0 rfl; clear h0; go_simp; with_reducible rfl)
        | (clear h0; go_simp; with_reducible rfl)
    (try simp only [List.getElem_toArray]); (try simp only [List.getElem_cons_succ]); (try simp only [List.getElem_cons_zero])
    go_simp; refine hK _ ?_; clear hK K
    refine walk_rd rfl ?_ (fun _ => hS) ?_ (fun w0 h0 => ?_) (fun K hK => ?_)
    · (try simp only [List.getElem_toArray]); (try simp only [List.getElem_cons_succ]); (try simp only [List.getElem_cons_zero])
      go_simp; done
    rotate_left
    · (try simp only [List.getElem_toArray]); (try simp only [List.getElem_cons_succ]); (try simp only [List.getElem_cons_zero])
      first
        | (obtain ⟨f0, f1, f2, f3, f4, f5, f6, f7, f8⟩ := h0 rfl; clear h0; go_simp; with_reducible rfl)
        | (clear h0; go_simp; with_reducible rfl)
    (try simp only [List.getElem_toArray]); (try simp only [List.getElem_cons_succ]); (try simp only [List.getElem_cons_zero])
    go_simp; refine hK _ ?_; clear hK K
    refine walk_rd rfl ?_ (fun _ => hS) ?_ (fun w0 h0 => ?_) (fun K hK => ?_)
    · (try simp only [List.getElem_toArray]); (try simp only [List.getElem_cons_succ]); (try simp only [List.getElem_cons_zero])
      go_simp; done
    rotate_left
    · (try simp only [List.getElem_toArray]); (try simp only [List.getElem_cons_succ]); (try simp only [List.getElem_cons_zero])
      first
        | (obtain ⟨f0, f1, f2, f3, f4, f5, f6, f7, f8⟩ := h0 rfl; clear h0; go_simp; with_reducible rfl)
        | (clear h0; go_simp; with_reducible rfl)
    (try simp only [List.getElem_toArray]); (try simp only [List.getElem_cons_succ]); (try simp only [List.getElem_cons_zero])
    go_simp; refine hK _ ?_; clear hK K
    refine walk_one (go_yes rfl ?_ (fun K hK => ?_))
    · (try simp only [List.getElem_toArray]); (try simp only [List.getElem_cons_succ]); (try simp only [List.getElem_cons_zero])
      go_simp; done
    go_wp2_with fail
    refine (Hlen.out wa.drew ((Mod.refl _ wa).drew)).mono ?_
    rintro e w1 ⟨rfl, rfl⟩
    refine hK _ _ (fun _ h => h) ?_
    clear hK K
    refine walk_rd rfl ?_ (fun _ => hS) ?_ (fun w0 h0 => ?_) (fun K hK => ?_)
    · (try simp only [List.getElem_toArray]); (try simp only [List.getElem_cons_succ]); (try simp only [List.getElem_cons_zero])
      go_simp; done
    rotate_left
    · (try simp only [List.getElem_toArray]); (try simp only [List.getElem_cons_succ]); (try simp only [List.getElem_cons_zero])
      first
        | (obtain ⟨f0, f1, f2, f3, f4, f5, f6, f7, f8⟩ := h0 rfl; clear h0; go_simp; with_reducible rfl)
        | (clear h0; go_simp; with_reducible rfl)
    (try simp only [List.getElem_toArray]); (try simp only [List.getElem_cons_succ]); (try simp only [List.getElem_cons_zero])
    go_simp; refine hK _ ?_; clear hK K
    refine walk_rd rfl ?_ (fun _ => hS) ?_ (fun w0 h0 => ?_) (fun K hK => ?_)
    · (try simp only [List.getElem_toArray]); (try simp only [List.getElem_cons_succ]); (try simp only [List.getElem_cons_zero])
      go_simp; done
    rotate_left
    · (try simp only [List.getElem_toArray]); (try simp only [List.getElem_cons_succ]); (try simp only [List.getElem_cons_zero])
      first
        | (obtain ⟨f0, f1, f2, f3, f4, f5, f6, f7, f8⟩ := h0 rfl; clear h0; go_simp; with_reducible rfl)
        | (clear h0; go_simp; with_reducible rfl)
    (try simp only [List.getElem_toArray]); (try simp only [List.getElem_cons_succ]); (try simp only [List.getElem_cons_zero])
    go_simp; refine hK _ ?_; clear hK K
    refine walk_rd rfl ?_ (fun _ => hS) ?_ (fun w0 h0 => ?_) (fun K hK => ?_)
    · (try simp only [List.getElem_toArray]); (try simp only [List.getElem_cons_succ]); (try simp only [List.getElem_cons_zero])
      go_simp; done
    rotate_left
    · (try simp only [List.getElem_toArray]); (try simp only [List.getElem_cons_succ]); (try simp only [List.getElem_cons_zero])
      first
        | (obtain ⟨f0, f1, f2, f3, f4, f5, f6, f7, f8⟩ := h0 rfl; clear h0; go_simp; with_reducible rfl)
        | (clear h0; go_simp; with_reducible rfl)
    (try simp only [List.getElem_toArray]); (try simp only [List.getElem_cons_succ]); (try simp only [List.getElem_cons_zero])
    go_simp; refine hK _ ?_; clear hK K
    refine walk_rd rfl ?_ (fun _ => hS) ?_ (fun w0 h0 => ?_) (fun K hK => ?_)
    · (try simp only [List.getElem_toArray]); (try simp only [List.getElem_cons_succ]); (try simp only [List.getElem_cons_zero])
      go_simp; done
    rotate_left
    · (try simp only [List.getElem_toArray]); (try simp only [List.getElem_cons_succ]); (try simp only [List.getElem_cons_zero])
      first
        | (obtain ⟨f0, f1, f2, f3, f4, f5, f6, f7, f8⟩ := h0 rfl; clear h0; go_simp; with_reducible rfl)
        | (clear h0; go_simp; with_reducible rfl)
    (try simp only [List.getElem_toArray]); (try simp only [List.getElem_cons_succ]); (try simp only [List.getElem_cons_zero])
    go_simp; refine hK _ ?_; clear hK K
    refine walk_rd rfl ?_ (fun _ => hS) ?_ (fun w0 h0 => ?_) (fun K hK => ?_)
    · (try simp only [List.getElem_toArray]); (try simp only [List.getElem_cons_succ]); (try simp only [List.getElem_cons_zero])
      go_simp; done
    rotate_left
    · (try simp only [List.getElem_toArray]); (try simp only [List.getElem_cons_succ]); (try simp only [List.getElem_cons_zero])
      first
        | (obtain ⟨f0, f1, f2, f3, f4, f5, f6, f7, f8⟩ := h0 rfl; clear h0; go_simp; with_reducible rfl)
        | (clear h0; go_simp; with_reducible rfl)
    (try simp only [List.getElem_toArray]); (try simp only [List.getElem_cons_succ]); (try simp only [List.getElem_cons_zero])
    go_simp; refine hK _ ?_; clear hK K
    refine walk_rd rfl ?_ (fun _ => hS) ?_ (fun w0 h0 => ?_) (fun K hK => ?_)
    · (try simp only [List.getElem_toArray]); (try simp only [List.getElem_cons_succ]); (try simp only [List.getElem_cons_zero])
      go_simp; done
    rotate_left
    · (try simp only [List.getElem_toArray]); (try simp only [List.getElem_cons_succ]); (try simp only [List.getElem_cons_zero])
      first
        | (obtain ⟨f0, f1, f2, f3, f4, f5, f6, f7, f8⟩ := h0 rfl; clear h0; go_simp; with_reducible rfl)
        | (clear h0; go_simp; with_reducible rfl)
    (try simp only [List.getElem_toArray]); (try simp only [List.getElem_cons_succ]); (try simp only [List.getElem_cons_zero])
    go_simp; refine hK _ ?_; clear hK K
    refine walk_one (go_yes rfl ?_ (fun K hK => ?_))
    · (try simp only [List.getElem_toArray]); (try simp only [List.getElem_cons_succ]); (try simp only [List.getElem_cons_zero])
      go_simp; done
    go_wp2_with fail
    refine (Hadd.out wa.drew ((Mod.refl _ wa).drew)).mono ?_
    rintro e w2 ⟨rfl, ow2, v2, L2, hl2, hp2, hm2⟩
    rw [HLB.out] at hp2
    rw [HLB.out, HR.out]
    have hma2 : Mov (fun t => t = c ∨ t = c + 17) wa ow w2 ow2 := ⟨((Mod.refl _ wa).drew).trans hm2.md (fun _ _ h => h), hm2.old, hm2.new, hm2.top⟩
    have hba2 := Hba.out.logged Howa.out hma2 hl2 hp2
    have hO2 := O.mov HOa.out Howa.out hma2 (by omega) (fun t e ht => by have := HOt.out t ht; omega)
    have how2 := hma2.owd Howa.out (by omega)
    have hmw2 : Mov (fun t => (t = c ∨ t = c + 17) ∨ O.tg t) w ow w2 ow2 := (Hwa0.out.mono (fun _ h => h.elim)).trans (hma2.mono (fun _ h => .inl h))
    refine hK _ _ (fun h => absurd h (by decide)) ?_
    clear hK K hS
    have Hl2 := Lib.hid hl2
    have Hp2 := Lib.hid hp2
    have Hm2 := Lib.hid hm2
    have Hma2 := Lib.hid hma2
    have Hba2 := Lib.hid hba2
    have HO2 := Lib.hid hO2
    have How2 := Lib.hid how2
    have Hmw2 := Lib.hid hmw2
    clear hl2 hp2 hm2 hma2 hba2 hO2 how2 hmw2
    by_cases hR0 : R = 0
    rotate_left
    · have hok : learnOk B.L L.length p = false := by unfold learnOk; rw [HR.out, decide_eq_false hR0, Bool.and_false]
      have hb1 : (R != 0) = true := by simpa using hR0
      have hpp : addP B.L p = B.L := by unfold addP; rw [HR.out, if_neg hR0]
      have Hok := Lib.hid hok
      have Hpp := Lib.hid hpp
      clear hok hpp
      refine walk_one (go_yes rfl ?_ (fun K hK => ?_))
      · (try simp only [List.getElem_toArray]); (try simp only [List.getElem_cons_succ]); (try simp only [List.getElem_cons_zero])
        go_simp; done
      (try simp only [List.getElem_toArray]); (try simp only [List.getElem_cons_succ]); (try simp only [List.getElem_cons_zero])
      go_simp
      refine hK _ _ (fun h => absurd h (by decide)) ?_
      clear hK K
      refine walk_one (go_yes rfl ?_ (fun K hK => ?_))
      · (try simp only [List.getElem_toArray]); (try simp only [List.getElem_cons_succ]); (try simp only [List.getElem_cons_zero])
        go_simp; done
      (try simp only [List.getElem_toArray]); (try simp only [List.getElem_cons_succ]); (try simp only [List.getElem_cons_zero])
      go_simp
      refine hK _ _ (fun h => absurd h (by decide)) ?_
      clear hK K
      refine walk_nil ?_
      go_wp2_with fail
      go_ret
      refine ⟨by rw [Hok.out]; rfl, ow2, ⟨{ a with v := v2 }, ?_⟩, ?_, Hmw2.out⟩
      · unfold BS.learn
        rw [Hok.out]
        have := Hba2.out
        rw [Hpp.out] at this
        exact this
      · rw [Hok.out]
        exact HO2.out
    · subst hR0
      have hb1 : ((0 : Int) != 0) = false := rfl
      have hok : learnOk B.L L.length p = true := by unfold learnOk; rw [HR.out, decide_eq_true (show ((L.length : Nat) : Int) = B.L.length by rw [HLl.out])]; rfl
      have hba3 := Hba2.out
      have hnear := hba3.near
      obtain ⟨na, nc, hnv, hnc⟩ : ∃ a' cc, a.nv = .slice a' near.length cc ∧ near.length ≤ cc := by obtain ⟨-, a, cc, h, h2, -⟩ := hnear.rd; exact ⟨a, cc, h, h2⟩
      obtain ⟨L3, hl3, -⟩ := hba3.log
      have c2n : w2.cell? ⟨g, 2, none⟩ = some (.slice na near.length nc) := by rw [← hnv]; exact cell_of hl3.row rfl
      have hnl' : (near.length : Int) ≤ 1000 := by omega
      have hnc' : (near.length : Int) ≤ nc := by omega
      have Hok := Lib.hid hok
      have Hba3 := Lib.hid hba3
      have Hnear := Lib.hid hnear
      have Hnv := Lib.hid hnv
      have Hl3 := Lib.hid hl3
      have Hnc := Lib.hid hnc
      clear hok hba3 hnear hnv hl3 hnc
      refine walk_one (go_yes rfl ?_ (fun K hK => ?_))
      · (try simp only [List.getElem_toArray]); (try simp only [List.getElem_cons_succ]); (try simp only [List.getElem_cons_zero])
        go_simp; done
      (try simp only [List.getElem_toArray]); (try simp only [List.getElem_cons_succ]); (try simp only [List.getElem_cons_zero])
      go_simp
      refine hK _ _ (fun h => absurd h (by decide)) ?_
      clear hK K
      refine walk_one (go_yes rfl ?_ (fun K hK => ?_))
      · (try simp only [List.getElem_toArray]); (try simp only [List.getElem_cons_succ]); (try simp only [List.getElem_cons_zero])
        go_simp; done
      (try simp only [List.getElem_toArray]); (try simp only [List.getElem_cons_succ]); (try simp only [List.getElem_cons_zero])
      go_simp
      refine hK _ _ (fun h => absurd h (by decide)) ?_
      clear hK K
      refine walk_nil ?_
      go_wp2_with fail
      go_loopw [32] (fun i wr => LearnRel O wa ow c g id near { B with L := addP B.L p } { a with v := v2 } s L.length p frm i wr) (fun i _ => near.length - (intOf i).toNat)
      case atStart => exact ⟨0, ow2, rfl, Nat.zero_le _, Hba2.out, HO2.out, Hma2.out.mono (fun _ h => .inl h), How2.out⟩
      case round =>
        obtain ⟨j, owr, rfl, hj, hbr, hOr, hmr, how⟩ := hrel
        have hnF0 : ¬ ((0 = c ∨ 0 = c + 17) ∨ O.tg 0) := fun h => by
          rcases h with h | h
          · omega
          · have := O.t2 0 h; omega
        by_cases hlt : j < near.length
        · have hlt' : (j : Int) < near.length := by omega
          obtain ⟨n, hnj⟩ : ∃ x, near[j]? = some x := ⟨_, List.getElem?_eq_getElem hlt⟩
          have hnm := List.mem_of_getElem? hnj
          have hrd := hbr.near.rd
          rw [show ({ a with v := v2 } : BAd).nv = .slice na near.length nc from Hnv.out] at hrd
          obtain ⟨gn, offn, rfl, hcn⟩ := rd_int hrd hnj
          have hsu := learnS_succ hnj frm L.length p
          by_cases hnf : n = frm
          · have hq : (n != frm) = false := by simpa using hnf
            rw [if_pos (by simpa using hnf), List.append_nil] at hsu
            have Hbr := Lib.hid hbr
            have HOr := Lib.hid hOr
            have Hmr := Lib.hid hmr
            have How := Lib.hid how
            have Hsu := Lib.hid hsu
            have Hnj := Lib.hid hnj
            have Hrd := Lib.hid hrd
            have Hnm := Lib.hid hnm
            clear hbr hOr hmr how hsu hnj hrd hnm hnF0
            go_wp2_with fail
            go_roundw
            case rel => exact ⟨j + 1, owr, by go_num, hlt, Hbr.out, by rw [Hsu.out]; exact HOr.out, Hmr.out, How.out⟩
            case measure => simp [intOf]; omega
          · have hq : (n != frm) = true := by simpa using hnf
            rw [if_neg (by simpa using hnf)] at hsu
            have hgr : wr.heap[w.heap.size]? = some (.cells ([.int .i64 p.kind, .int .i64 p.tenant, .string p.who, .int .i64 p.broker, .string p.sc, .slice ra p.cs.length rc, .string p.name, .int .i64 p.at_] : List Value).toArray 35 (0, 0)) := hmr.md.heap Hgwa.out (fun hf => hnF0 (by
              have hf' : (ow w.heap.size = c ∨ ow w.heap.size = c + 17) ∨ O.tg (ow w.heap.size) := hf
              rw [HB0.out] at hf'
              exact hf'))
            have hls : (learnS (near.take j) frm L.length p).length ≤ 1000 := Nat.le_trans (learnS_len _ _ _ _) (by rw [List.length_take]; omega)
            have hct := O.sends_cnt s (learnS (near.take j) frm L.length p)
            have hls2 : (learnS (near.take j) frm L.length p).length ≤ near.length := Nat.le_trans (learnS_len _ _ _ _) (by rw [List.length_take]; omega)
            have hmv : MvOk wr owr ⟨Mg.pol L.length p, ra, rc, none, 0, none, 0⟩ := ⟨Hxa.out.mov hmr hnF0, ConSl.nil _ _ _, ConSl.nil _ _ _⟩
            have hsend : Calls Tryz.prog 294 #[.pointer (some ⟨q, 0, none⟩), .int .i64 n, .int .i64 (-1), .agg #[.int .i64 0, .int .i64 L.length, .int .i64 p.kind, .int .i64 p.tenant, .string p.who, .int .i64 p.broker, .string p.sc, .slice ra p.cs.length rc, .string p.name, .int .i64 p.at_,
                .string ⟨#[]⟩, .slice none 0 0, .string ⟨#[]⟩, .slice none 0 0, .int .i64 0, .string ⟨#[]⟩, .int .i64 0]] wr fun e w' => e = .returned (.tuple #[]) ∧ ∃ ow', O.inv w' ow' (O.send (O.sends s (learnS (near.take j) frm L.length p)) n (-1) (Mg.pol L.length p)) ∧ Mov O.tg wr owr w' ow' :=
              O.hsend how hOr (by omega) (Hto.out n hnm) hmv
            have Hbr := Lib.hid hbr
            have HOr := Lib.hid hOr
            have Hmr := Lib.hid hmr
            have How := Lib.hid how
            have Hsu := Lib.hid hsu
            have Hnj := Lib.hid hnj
            have Hrd := Lib.hid hrd
            have Hnm := Lib.hid hnm
            have Hgr := Lib.hid hgr
            have Hsend := Lib.hid hsend
            have Hmv := Lib.hid hmv
            clear hbr hOr hmr how hsu hnj hrd hnm hgr hsend hmv hct hls hls2 hnF0
            go_wp2_with (first | ((with_reducible refine wpList_load_lit 35 (.tmp 8) ?_); refine ⟨w.heap.size, 0, rfl, [.int .i64 p.kind, .int .i64 p.tenant, .string p.who, .int .i64 p.broker, .string p.sc, .slice ra p.cs.length rc, .string p.name, .int .i64 p.at_], CellsAt.row Hgr.out, by kernel_rfl, by kernel_rfl, ?_⟩) | fail)
            refine Hsend.out.mono ?_
            rintro e w3 ⟨rfl, ow3, hO3, hm3⟩
            have ht0 : ¬ O.tg 0 := fun h => by have := O.t2 0 h; omega
            have hb3 := Hbr.out.mov How.out hm3 ht0 (fun t ht => HOt.out t ht)
            have how3 := hm3.owd How.out ht0
            have hmr3 := Hmr.out.trans (hm3.mono (fun _ h => .inr h))
            have HO3 := Lib.hid hO3
            have Hm3 := Lib.hid hm3
            have Hb3 := Lib.hid hb3
            have How3 := Lib.hid how3
            have Hmr3 := Lib.hid hmr3
            clear hO3 hm3 hb3 how3 hmr3 ht0
            go_wp2_with fail
            go_roundw
            case rel => exact ⟨j + 1, ow3, by go_num, hlt, Hb3.out, by rw [Hsu.out, O.sends_one]; exact HO3.out, Hmr3.out, How3.out⟩
            case measure => simp [intOf]; omega
        · obtain rfl : j = near.length := by omega
          rw [List.take_length] at hOr
          have hmr2 := (Hwa0.out.mono (G := fun t => (t = c ∨ t = c + 17) ∨ O.tg t) (fun _ h => h.elim)).trans hmr
          have Hbr := Lib.hid hbr
          have HOr := Lib.hid hOr
          have Hmr := Lib.hid hmr
          have How := Lib.hid how
          have Hmr2 := Lib.hid hmr2
          clear hbr hOr hmr how hmr2 hnF0
          go_wp2
          go_ret
          refine ⟨by rw [Hok.out]; rfl, owr, ⟨{ a with v := v2 }, ?_⟩, ?_, Hmr2.out⟩
          · unfold BS.learn
            rw [Hok.out]
            exact Hbr.out
          · rw [Hok.out]
            exact HOr.out
end Go.Proofs.YtaenebdppkjhoaaGreatDoor
