/-
  gazettelaw17.BrokerLearns.
-/
import Derived.Test.YtaenebdppkjhoaaGreatDoorZa46
import Derived.Test.YtaenebdppkjhoaaGreatDoorZa47
import Derived.Test.YtaenebdppkjhoaaGreatDoorZa12
namespace Go.Proofs.YtaenebdppkjhoaaGreatDoor
set_option maxRecDepth 20000
open Go.RowKit

/-- Rules that came in: their numbers are in range, their texts are no longer than what can be. -/
structure RuIn (r : Ru) : Prop where
  who : r.who.size ≤ 140737488355328
  name : r.name.size ≤ 140737488355328
  sc : r.sc.size ≤ 140737488355328
  cs : ∀ c ∈ r.cs, (c.name.size ≤ 140737488355328 ∧ c.v.text.size ≤ 140737488355328) ∧ (-9223372036854775808 ≤ c.v.int ∧ c.v.int ≤ 9223372036854775807) ∧ c.v.num < 2 ^ 64
theorem RuIn.fine {r : Ru} (h : RuIn r) (hl : LightR r) : r.pru.fine := by
  have h1 := hl.who
  have h2 := hl.fil.sum
  have h3 := hl.fil.len
  refine ⟨by show r.who.size ≤ _; omega, by show r.sc.size ≤ _; omega, by show r.name.size ≤ _; omega, by show r.cs.length ≤ _; omega, fun c hc => ?_⟩
  have h4 := h.cs c hc
  have h5 := costC_mem (show c ∈ r.cs from hc)
  exact ⟨⟨h4.2.1, h4.2.2, by omega⟩, by omega⟩
/-- The broker and the law's own log know the same rules. -/
def BlRel (w : World) (l : List Ru) (g gl : Nat) (n i : Value) (wr : World) : Prop :=
  ∃ (j : Nat) (owr : Ow) (P : List PRu) (vL : Value) (L : List Lr), i = .int .i64 j ∧ j ≤ l.length ∧ n = .int .i64 P.length ∧ P.length ≤ 40 ∧ Owd w wr owr ∧ Bro wr owr 2 g 3 [1, 2, 4] ⟨P, fun _ => RS.zero⟩ ∧ LogAt wr owr 60 60 gl [] 53 vL L ∧ L.map Prod.fst = P ∧ Mod (fun _ => False) w wr
theorem two_of {α : Type} {l : List α} (h : l.length = 2) : ∃ a b, l = [a, b] := by
  cases l with
  | nil => cases h
  | cons a l =>
    obtain ⟨b, rfl⟩ := List.length_eq_one_iff.1 (Nat.succ.inj h)
    exact ⟨a, b, rfl⟩
theorem bl_said (k : Int) (p : PRu) : learnS [1, 2, 4] 2 k p = [(1, -1, Mg.pol k p), (4, -1, Mg.pol k p)] := by unfold learnS; simp

set_option maxHeartbeats 16000000 in
theorem blearns_walk (w : World) (hl0 : Laid w w) (v : Value) (l : List Ru) (hv : RuSl w v l) (hll : l.length ≤ 9223372036854775807) (hin : ∀ r ∈ l, RuIn r) (v2 : Value) (at_ : List Int) (hat : RdSl w 1 v2 at_.length (at_.map (Value.int .i64))) (hal : at_.length ≤ 9223372036854775807) :
    Calls Tryz.prog 3 #[v, v2] w fun e w' => e = .returned (.bool true) ∧ Mod (fun _ => False) w w' := by
  obtain ⟨a, cap, rfl, hcap⟩ : ∃ a c, v = .slice a l.length c ∧ l.length ≤ c := by obtain ⟨-, a, c, h, h2, -⟩ := hv.rd; exact ⟨a, c, h, h2⟩
  obtain ⟨a2, cap2, rfl, hcap2⟩ : ∃ a c, v2 = .slice a at_.length c ∧ at_.length ≤ c := by obtain ⟨-, a, c, h, h2, -⟩ := hat; exact ⟨a, c, h, h2⟩
  have hcap' : (l.length : Int) ≤ cap := by omega
  have hcap2' : (at_.length : Int) ≤ cap2 := by omega
  have hft := fit17_at w w hl0
  have Hl0 := Lib.hid hl0
  have Hv := Lib.hid hv
  have Hin := Lib.hid hin
  have Hat := Lib.hid hat
  have Hft := Lib.hid hft
  clear hl0 hv hin hat hft hcap hcap2
  go_enter Tryz.func3, Tryz.ntmps3
  go_wp2_with fail
  refine Hft.out.mono ?_
  rintro e w1 ⟨rfl, hm1⟩
  have hli := light10f_at w1 (.slice a l.length cap) l (Hv.out.mod hm1) hll (fun r hr => ⟨(Hin.out r hr).who, (Hin.out r hr).name, (Hin.out r hr).sc, fun c hc => ((Hin.out r hr).cs c hc).1⟩)
  have Hli := Lib.hid hli
  have Hm1 := Lib.hid hm1
  clear hli hm1 Hft
  go_wp2_with fail
  refine Hli.out.mono ?_
  rintro e w2 ⟨b, rfl, hb, hm2⟩
  have hm02 := Hm1.out.trans hm2 (fun _ _ h => h)
  cases b with
  | false =>
    have Hm02 := Lib.hid hm02
    have Hm2 := Lib.hid hm2
    clear hm02 hm2 hb
    go_wp2
    go_ret
    exact ⟨rfl, Hm02.out⟩
  | true =>
  obtain ⟨hl80, hli2⟩ := hb rfl
  clear hb
  have hl80' : (l.length : Int) ≤ 80 := by omega
  by_cases ha80 : 80 < at_.length
  · have ha80' : (80 : Int) < at_.length := by omega
    have Hm02 := Lib.hid hm02
    have Hm2 := Lib.hid hm2
    have Hli2 := Lib.hid hli2
    clear hm02 hm2 hli2
    go_wp2
    go_ret
    exact ⟨rfl, Hm02.out⟩
  have ha80' : (at_.length : Int) ≤ 80 := by omega
  have ha80n : ¬ (80 : Int) < at_.length := by omega
  obtain ⟨wa, hwa⟩ : ∃ wa : World, w2.alloc (.cells #[.int .i64 1, .int .i64 2, .int .i64 4] 3) = wa := ⟨_, rfl⟩
  have hmwa : Mod (fun _ => False) w2 wa := hwa ▸ (Mod.refl (fun _ => False) w2).alloc _
  have hgwa := heap_alloc_new w2 (.cells #[.int .i64 1, .int .i64 2, .int .i64 4] 3)
  rw [hwa] at hgwa
  have hzwa : wa.heap.size = w2.heap.size + 1 := by rw [← hwa]; simp
  have hma := hm02.trans hmwa (fun _ _ h => h)
  have hoa : Owd w wa (fun _ => 0) := ⟨fun k h => absurd rfl h, fun k h => absurd rfl h, Hl0.out.mod0 hma⟩
  have hrd : RdSl wa 1 (.slice (some ⟨w2.heap.size, 0, none⟩) 3 3) 3 [.int .i64 1, .int .i64 2, .int .i64 4] := ⟨rfl, _, _, rfl, Nat.le_refl _, (fun h => by cases h), fun b hb _ => ⟨_, 0, (by cases hb; rfl), fun j u hu => by rw [Nat.zero_add]; exact cell_of hgwa (by simpa using hu)⟩⟩
  have hnew := bnew_at w wa (fun _ => 0) 2 hoa (by omega) 3 (.slice (some ⟨w2.heap.size, 0, none⟩) 3 3) [1, 2, 4] hrd (by decide)
  have hwm := hma.size
  have Hm02 := Lib.hid hm02
  have Hm2 := Lib.hid hm2
  have Hli2 := Lib.hid hli2
  have Hwa := Lib.hid hwa
  have Hma := Lib.hid hma
  have Hnew := Lib.hid hnew
  clear hm02 hm2 hli2 hwa hma hnew hmwa hgwa hzwa hoa hrd ha80
  go_wp2_with (first | (rw [show w2.alloc _ = wa from Hwa.out]) | fail)
  refine Hnew.out.mono ?_
  rintro e w3 ⟨g, ow3, rfl, ho3, hb3, hm3⟩
  have hrp := replay_at w w3 ow3 60 ho3 (by omega)
  have Ho3 := Lib.hid ho3
  have Hb3 := Lib.hid hb3
  have Hm3 := Lib.hid hm3
  have Hrp := Lib.hid hrp
  clear ho3 hb3 hm3 hrp
  go_wp2_with fail
  refine Hrp.out.mono ?_
  rintro e w4 ⟨gl, ow4, rfl, hlg, hm4, hm4'⟩
  have hb4 := Hb3.out.mov Ho3.out hm4 (by omega) (fun t e => by omega)
  have ho4 := hm4.owd Ho3.out (by omega)
  have hw3 : Mod (fun _ => False) w w3 := Hma.out.trans (Hm3.out.md.mono (fun k _ h => by have h' : 2 ≤ 0 ∧ 0 < 2 + 18 := h; omega)) (fun _ _ h => h)
  have hw4 := hw3.trans hm4' (fun _ _ h => h)
  have Hb4 := Lib.hid hb4
  have Ho4 := Lib.hid ho4
  have Hw3 := Lib.hid hw3
  have Hw4 := Lib.hid hw4
  have Hlg := Lib.hid hlg
  have Hm4 := Lib.hid hm4
  clear hb4 ho4 hw3 hw4 hlg hm4 hm4'
  go_wp2_with fail
  go_loopw [8, 32] (fun n i wr => BlRel w l g gl n i wr) (fun _ i _ => l.length - (intOf i).toNat)
  case atStart => exact ⟨0, ow4, [], .slice none 0 0, [], rfl, Nat.zero_le _, rfl, by decide, Ho4.out, Hb4.out, Hlg.out, rfl, Hw4.out⟩
  case round =>
    obtain ⟨j, owr, P, vL, L, rfl, hj, rfl, hP, hor, hbr, hlr, hLP, hmr⟩ := hrel
    by_cases hlt : j < l.length
    · have hlt' : (j : Int) < l.length := by omega
      obtain ⟨x, hxj⟩ : ∃ x, l[j]? = some x := ⟨_, List.getElem?_eq_getElem hlt⟩
      have hxm := List.mem_of_getElem? hxj
      obtain ⟨g2, off, rfl, hf⟩ : ∃ g2 off, a = some ⟨g2, off, none⟩ ∧ CellsAt wr g2 (off + j * 8) x.cells := rd_rule (Hv.out.mod hmr) hxj
      obtain ⟨wz, hwz⟩ : ∃ wz : World, wr.alloc (.cells x.cells.toArray 35) = wz := ⟨_, rfl⟩
      have hmwz : Mod (fun _ => False) wr wz := hwz ▸ (Mod.refl (fun _ => False) wr).alloc _
      have hgwz := heap_alloc_new wr (.cells x.cells.toArray 35)
      rw [hwz] at hgwz
      have hzwz : wz.heap.size = wr.heap.size + 1 := by rw [← hwz]; simp
      have hmz : Mov (fun _ => False) wr owr wz owr := Mov.of hor hmwz _
      have hoz := hmz.owd hor (fun h => h)
      have hrz := hmr.trans hmwz (fun _ _ h => h)
      obtain ⟨hOy, hmy⟩ := OtI.new (c := 40) hoz
      obtain ⟨wy, hwy⟩ : ∃ wy : World, wz.alloc (.cells #[.slice none 0 0, .slice none 0 0] 39) = wy := ⟨_, rfl⟩
      rw [hwy] at hOy hmy
      have hmzy : Mod (fun _ => False) wz wy := hwy ▸ (Mod.refl (fun _ => False) wz).alloc _
      have hoy := hmy.owd hoz (by omega)
      have hgy : wy.heap[wr.heap.size]? = some (.cells ([.int .i64 x.kind, .int .i64 x.tenant, .string x.who, .int .i64 x.broker, .string x.sc, .slice x.ca x.cs.length x.cc, .string x.name, .int .i64 x.at_] : List Value).toArray 35 (0, 0)) := hmzy.heap hgwz (fun h => h)
      have hby := (hbr.mov hor hmz (fun h => h) (fun _ h => h.elim)).mov hoz hmy (by omega) (fun t e => by omega)
      have hly := (hlr.mov hmz (fun h => h) (fun h => h) (fun h => h)).mov hmy (by omega) (by omega) (by omega)
      have hry := hrz.trans hmzy (fun _ _ h => h)
      obtain ⟨oy, hoyd⟩ : ∃ oy : Ow, tagOne owr wz.heap.size 40 = oy := ⟨_, rfl⟩
      rw [hoyd] at hOy hmy hoy hby hly
      have hxo : LrOk wy oy (x.pru, x.ca, x.cc) := ⟨ConSl.of_rd hoy (Hv.out.ok x hxm).rd (by omega), (Hin.out x hxm).fine (Hli2.out x hxm)⟩
      have hzry : wr.heap.size < wz.heap.size := by omega
      have hoyx : oy wr.heap.size = 0 := by rw [← hoyd, tagOne_ne _ _ (by omega)]; exact hor.zero (Nat.le_refl _)
      -- the law's own log
      have hadd : Calls Tryz.prog 13 #[.pointer (some ⟨gl, 0, none⟩), .agg #[.int .i64 x.kind, .int .i64 x.tenant, .string x.who, .int .i64 x.broker, .string x.sc, .slice x.ca x.cs.length x.cc, .string x.name, .int .i64 x.at_]] wy (AddPost wy oy 60 60 gl [] 53 L x.pru) :=
        padd_at w wy oy 60 60 gl [] 53 vL L hoy ⟨by omega, by omega⟩ hly (by have := congrArg List.length hLP; rw [List.length_map] at this; omega) x.pru x.ca x.cc hxo.cs.rd hxo.fine
      have hLen : ∀ (w5 : World) (ow5 : Ow) (K : Int), Owd w w5 ow5 → Bro w5 ow5 2 g 3 [1, 2, 4] ⟨P, fun _ => RS.zero⟩ → OtI w5 ow5 40 wz.heap.size [] [] → LrOk w5 ow5 (x.pru, x.ca, x.cc) →
          Calls Tryz.prog 14 #[.pointer (some ⟨g, 0, none⟩), .iface 43 (.pointer (some ⟨wz.heap.size, 0, none⟩)), .int .i64 K, .agg #[.int .i64 x.kind, .int .i64 x.tenant, .string x.who, .int .i64 x.broker, .string x.sc, .slice x.ca x.cs.length x.cc, .string x.name, .int .i64 x.at_], .int .i64 2] w5 (LearnPost (out17 w wz.heap.size 40 (by omega)) w5 ow5 2 g 3 [1, 2, 4] ⟨P, fun _ => RS.zero⟩ ([], []) K x.pru 2) :=
        fun w5 ow5 K h1 h3 h4 h5 => learn_at w w5 ow5 2 g 3 [1, 2, 4] _ h1 h3 hP wz.heap.size (out17 w wz.heap.size 40 (by omega)) ([], []) h4 (fun t ht => by have h' : t = 40 := ht; omega) (show 0 + 0 + 3 ≤ 400000000000 by decide) (by decide) (fun _ _ => trivial) K x.pru x.ca x.cc h5 2
      obtain ⟨R, hR⟩ : ∃ R, chkP P x.pru = R := ⟨_, rfl⟩
      have hP' : (P.length : Int) ≤ 40 := by omega
      have Hmr := Lib.hid hmr
      have Hor := Lib.hid hor
      have Hbr := Lib.hid hbr
      have Hlr := Lib.hid hlr
      have Hxj := Lib.hid hxj
      have Hxm := Lib.hid hxm
      have Hf := Lib.hid hf
      have Hwz := Lib.hid hwz
      have Hmwz := Lib.hid hmwz
      have Hgwz := Lib.hid hgwz
      have Hmz := Lib.hid hmz
      have Hoz := Lib.hid hoz
      have Hrz := Lib.hid hrz
      have HOy := Lib.hid hOy
      have Hmy := Lib.hid hmy
      have Hwy := Lib.hid hwy
      have Hmzy := Lib.hid hmzy
      have Hoy := Lib.hid hoy
      have Hgy := Lib.hid hgy
      have Hby := Lib.hid hby
      have Hly := Lib.hid hly
      have Hry := Lib.hid hry
      have Hxo := Lib.hid hxo
      have Hadd := Lib.hid hadd
      have HLen := Lib.hid hLen
      have HLP := Lib.hid hLP
      have Hoyx := Lib.hid hoyx
      have HR := Lib.hid hR
      have Hoyd := Lib.hid hoyd
      clear hmr hor hbr hlr hxj hxm hf hwz hmwz hgwz hmz hoz hrz hOy hmy hwy hmzy hoy hgy hby hly hry hxo hadd hLen hLP hoyx hR hoyd hzwz
      by_cases hja : j < at_.length
      · have hja' : (j : Int) < at_.length := by omega
        obtain ⟨A, hA0⟩ : ∃ x, at_[j]? = some x := ⟨_, List.getElem?_eq_getElem hja⟩
        obtain ⟨g3, o3, rfl, hc3⟩ := rd_int Hat.out hA0
        obtain ⟨t3, ht3, hlt3⟩ := and3 A
        have hy3 := Hry.out.cell hc3 (fun h => h)
        have htc : t3 = 1 ∨ t3 = 0 ∨ t3 = 2 ∨ t3 = 3 := by omega
        have HA0 := Lib.hid hA0
        clear hA0 hc3 hlt3
        rcases htc with rfl | rfl | rfl | rfl
        · have hgy' := Hgy.out
          have y0 : wy.cell? ⟨wr.heap.size, 0, none⟩ = some (.int .i64 x.kind) := cell_of hgy' rfl
          have y1 : wy.cell? ⟨wr.heap.size, 1, none⟩ = some (.int .i64 x.tenant) := cell_of hgy' rfl
          have y2 : wy.cell? ⟨wr.heap.size, 2, none⟩ = some (.string x.who) := cell_of hgy' rfl
          have y3 : wy.cell? ⟨wr.heap.size, 3, none⟩ = some (.int .i64 x.broker) := cell_of hgy' rfl
          have y4 : wy.cell? ⟨wr.heap.size, 4, none⟩ = some (.string x.sc) := cell_of hgy' rfl
          have y5 : wy.cell? ⟨wr.heap.size, 5, none⟩ = some (.slice x.ca x.cs.length x.cc) := cell_of hgy' rfl
          have y6 : wy.cell? ⟨wr.heap.size, 6, none⟩ = some (.string x.name) := cell_of hgy' rfl
          have y7 : wy.cell? ⟨wr.heap.size, 7, none⟩ = some (.int .i64 x.at_) := cell_of hgy' rfl
          clear hgy'
          go_wp2_with (first | ((with_reducible refine wpList_load_lit 35 (.tmp 35) ?_); refine ⟨g2, off + j * 8, rfl, x.cells, Hf.out, by kernel_rfl, by kernel_rfl, ?_⟩) | ((with_reducible refine wpList_store_lit 35 (.tmp 10) (.tmp 36) ?_); refine ⟨rfl, x.cells, rfl, rfl, by kernel_rfl, rfl, ?_⟩; rw [Hwz.out]) | (rw [show wz.alloc _ = wy from Hwy.out]) | ((with_reducible refine wpList_load_lit 35 (.tmp 10) ?_); refine ⟨wr.heap.size, 0, rfl, [.int .i64 x.kind, .int .i64 x.tenant, .string x.who, .int .i64 x.broker, .string x.sc, .slice x.ca x.cs.length x.cc, .string x.name, .int .i64 x.at_], CellsAt.row Hgy.out, by kernel_rfl, by kernel_rfl, ?_⟩) | fail)
          refine Hadd.out.mono ?_
          rintro e w5 ⟨rfl, ow5, v5, L5, hl5, hp5, hm5⟩
          rw [HLP.out, HR.out]
          rw [HLP.out] at hp5
          have ho5 := hm5.owd Hoy.out (by omega)
          have hb5 := Hby.out.mov Hoy.out hm5 (by omega) (fun t e => by omega)
          have hO5 := HOy.out.mov hm5 (by omega) (by omega)
          have hx5 := Hxo.out.mov hm5 (by omega)
          have hr5 := hm5.mod0 Hoy.out Hry.out (by omega)
          have hg5 := hm5.md.heap Hgy.out (by rw [Hoyx.out]; omega)
          have hle := HLen.out w5 ow5 P.length ho5 hb5 hO5 hx5
          have Hl5 := Lib.hid hl5
          have Hp5 := Lib.hid hp5
          have Hm5 := Lib.hid hm5
          have Ho5 := Lib.hid ho5
          have Hb5 := Lib.hid hb5
          have HO5 := Lib.hid hO5
          have Hx5 := Lib.hid hx5
          have Hr5 := Lib.hid hr5
          have Hg5 := Lib.hid hg5
          have Hle := Lib.hid hle
          clear hl5 hp5 hm5 ho5 hb5 hO5 hx5 hr5 hg5 hle
          clear y0 y1 y2 y3 y4 y5 y6 y7
          by_cases hR0 : R = 0
          · subst hR0
            have hok : learnOk P P.length x.pru = true := by unfold learnOk; rw [HR.out, decide_eq_true rfl]; rfl
            have hpk : addP P x.pru = P ++ [x.pru.kept] := by unfold addP; rw [HR.out, if_pos rfl]
            have hpl : (addP P x.pru).length = P.length + 1 := by rw [hpk, List.length_append, List.length_singleton]
            have hp40 := addP_forty hP x.pru
            have Hpk := Lib.hid hpk
            have Hpl := Lib.hid hpl
            have Hp40 := Lib.hid hp40
            clear hpk hpl hp40
            go_wp2_with (first | ((with_reducible refine wpList_load_lit 35 (.tmp 10) ?_); refine ⟨wr.heap.size, 0, rfl, [.int .i64 x.kind, .int .i64 x.tenant, .string x.who, .int .i64 x.broker, .string x.sc, .slice x.ca x.cs.length x.cc, .string x.name, .int .i64 x.at_], CellsAt.row Hg5.out, by kernel_rfl, by kernel_rfl, ?_⟩) | fail)
            refine Hle.out.mono ?_
            rintro e w6 ⟨rfl, ow6, hb6, hO6, hm6⟩
            rw [show learnOk (⟨P, fun _ => RS.zero⟩ : BS).L (↑P.length) x.pru = true from hok] at hO6 ⊢
            have hb6' : Bro w6 ow6 2 g 3 [1, 2, 4] ⟨addP P x.pru, fun _ => RS.zero⟩ := by
              have := hb6
              unfold BS.learn at this
              rw [show learnOk (⟨P, fun _ => RS.zero⟩ : BS).L (↑P.length) x.pru = true from hok] at this
              exact this
            have ho6 := hm6.owd Ho5.out (by show ¬ ((0 = 2 ∨ 0 = 2 + 17) ∨ 0 = 40); omega)
            have hr6 := hm6.mod0 Ho5.out Hr5.out (by show ¬ ((0 = 2 ∨ 0 = 2 + 17) ∨ 0 = 40); omega)
            have hl6 := Hl5.out.mov hm6 (by show ¬ ((0 = 2 ∨ 0 = 2 + 17) ∨ 0 = 40); omega) (by show ¬ ((60 = 2 ∨ 60 = 2 + 17) ∨ 60 = 40); omega) (by show ¬ ((60 = 2 ∨ 60 = 2 + 17) ∨ 60 = 40); omega)
            rw [if_pos rfl, sends17, bl_said] at hO6
            obtain ⟨v1, v2, S', H', hA, hS, hH⟩ := hO6
            have hS2 : S'.length = 2 := by have := congrArg List.length hS; simpa using this
            obtain ⟨s1, s2, rfl⟩ := two_of hS2
            obtain rfl : H' = [] := List.map_eq_nil_iff.1 hH
            have hs1 : s1.sd = (1, -1, Mg.pol P.length x.pru) := by have h := congrArg (·[0]?) hS; simpa using h
            have hs2 : s2.sd = (4, -1, Mg.pol P.length x.pru) := by have h := congrArg (·[1]?) hS; simpa using h
            have i1 : s1.1 = 1 := congrArg Prod.fst hs1
            have i2 : s2.1 = 4 := congrArg Prod.fst hs2
            have i3 : s1.2.1 = -1 := congrArg (fun q => q.2.1) hs1
            have i4 : s2.2.2.m.at_ = P.length := congrArg (fun q => q.2.2.at_) hs2
            have i5 : s1.2.2.m.kind = 0 := congrArg (fun q => q.2.2.kind) hs1
            obtain ⟨a1, cp1, rfl, hcp⟩ := hA.s1.shape
            obtain ⟨a3, cp3, rfl, -⟩ := hA.s2.shape
            obtain ⟨g1, o1, rfl, q0, q19, q1, q22, q2⟩ : ∃ g1 o1, a1 = some ⟨g1, o1, none⟩ ∧ w6.cell? ⟨g1, o1, none⟩ = some (.int .i64 1) ∧ w6.cell? ⟨g1, o1 + 19, none⟩ = some (.int .i64 4) ∧ w6.cell? ⟨g1, o1 + 1, none⟩ = some (.int .i64 (-1)) ∧ w6.cell? ⟨g1, o1 + 22, none⟩ = some (.int .i64 P.length) ∧ w6.cell? ⟨g1, o1 + 2, none⟩ = some (.int .i64 0) := by
              obtain ⟨-, a', c', he, -, h4, h5⟩ := hA.s1.rd
              cases he
              cases a1 with
              | none => exact absurd (h4 rfl) (by simp)
              | some b =>
                obtain ⟨g1, o1, rfl, h6⟩ := h5 b rfl (by simp)
                exact ⟨g1, o1, rfl, by rw [← i1]; exact h6 0 _ rfl, by rw [← i2]; exact h6 19 _ rfl, by rw [← i3]; exact h6 1 _ rfl, by rw [← i4]; exact h6 22 _ rfl, by rw [← i5]; exact h6 2 _ rfl⟩
            have c60 : w6.cell? ⟨wz.heap.size, 0, none⟩ = some (.slice (some ⟨g1, o1, none⟩) 2 cp1) := cell_of hA.row rfl
            have c61 : w6.cell? ⟨wz.heap.size, 1, none⟩ = some (.slice a3 0 cp3) := cell_of hA.row rfl
            have hcp' : (2 : Int) ≤ cp1 := by have : 2 ≤ cp1 := hcp; omega
            have Hb6' := Lib.hid hb6'
            have Ho6 := Lib.hid ho6
            have Hr6 := Lib.hid hr6
            have Hl6 := Lib.hid hl6
            clear hb6' ho6 hr6 hl6 hb6 hm6 hA hS hH hok hS2 hs1 hs2 i1 i2 i3 i4 i5 hcp
            go_wp2_with fail
            go_roundw
            case rel => exact ⟨j + 1, ow6, _, _, _, by go_num, hlt, by rw [Hpl.out]; go_num, Hp40.out, Ho6.out, Hb6'.out, Hl6.out, Hp5.out, Hr6.out⟩
            case measure => simp [intOf]; omega
          · have hok : learnOk P P.length x.pru = false := by unfold learnOk; rw [HR.out, decide_eq_false hR0, Bool.and_false]
            have hb1 : (R == 0) = false := by simpa using hR0
            have hpk : addP P x.pru = P := by unfold addP; rw [HR.out, if_neg hR0]
            have Hpk := Lib.hid hpk
            clear hpk
            go_wp2_with (first | ((with_reducible refine wpList_load_lit 35 (.tmp 10) ?_); refine ⟨wr.heap.size, 0, rfl, [.int .i64 x.kind, .int .i64 x.tenant, .string x.who, .int .i64 x.broker, .string x.sc, .slice x.ca x.cs.length x.cc, .string x.name, .int .i64 x.at_], CellsAt.row Hg5.out, by kernel_rfl, by kernel_rfl, ?_⟩) | fail)
            refine Hle.out.mono ?_
            rintro e w6 ⟨rfl, ow6, hb6, hO6, hm6⟩
            rw [show learnOk (⟨P, fun _ => RS.zero⟩ : BS).L (↑P.length) x.pru = false from hok] at hO6 ⊢
            have hb6' : Bro w6 ow6 2 g 3 [1, 2, 4] ⟨P, fun _ => RS.zero⟩ := by
              have := hb6
              unfold BS.learn at this
              rw [show learnOk (⟨P, fun _ => RS.zero⟩ : BS).L (↑P.length) x.pru = false from hok] at this
              exact this
            have ho6 := hm6.owd Ho5.out (by show ¬ ((0 = 2 ∨ 0 = 2 + 17) ∨ 0 = 40); omega)
            have hr6 := hm6.mod0 Ho5.out Hr5.out (by show ¬ ((0 = 2 ∨ 0 = 2 + 17) ∨ 0 = 40); omega)
            have hl6 := Hl5.out.mov hm6 (by show ¬ ((0 = 2 ∨ 0 = 2 + 17) ∨ 0 = 40); omega) (by show ¬ ((60 = 2 ∨ 60 = 2 + 17) ∨ 60 = 40); omega) (by show ¬ ((60 = 2 ∨ 60 = 2 + 17) ∨ 60 = 40); omega)
            rw [if_neg (by decide)] at hO6
            obtain ⟨v1, v2, S', H', hA, hS, hH⟩ := hO6
            obtain rfl : S' = [] := List.map_eq_nil_iff.1 hS
            obtain ⟨a1, cp1, rfl, -⟩ := hA.s1.shape
            have c60 : w6.cell? ⟨wz.heap.size, 0, none⟩ = some (.slice a1 0 cp1) := cell_of hA.row rfl
            have Hb6' := Lib.hid hb6'
            have Ho6 := Lib.hid ho6
            have Hr6 := Lib.hid hr6
            have Hl6 := Lib.hid hl6
            clear hb6' ho6 hr6 hl6 hb6 hm6 hA hS hH hok
            go_wp2_with fail
            go_roundw
            case rel => exact ⟨j + 1, ow6, _, _, _, by go_num, hlt, rfl, hP, Ho6.out, Hb6'.out, Hl6.out, by rw [Hp5.out, Hpk.out], Hr6.out⟩
            case measure => simp [intOf]; omega
        · have hok : learnOk P ((P.length : Int) - 1) x.pru = false := by unfold learnOk; rw [decide_eq_false (by omega), Bool.false_and]
          have hle := HLen.out wy oy ((P.length : Int) - 1) Hoy.out Hby.out HOy.out Hxo.out
          have Hle := Lib.hid hle
          clear hle
          go_wp2_with (first | ((with_reducible refine wpList_load_lit 35 (.tmp 35) ?_); refine ⟨g2, off + j * 8, rfl, x.cells, Hf.out, by kernel_rfl, by kernel_rfl, ?_⟩) | ((with_reducible refine wpList_store_lit 35 (.tmp 10) (.tmp 36) ?_); refine ⟨rfl, x.cells, rfl, rfl, by kernel_rfl, rfl, ?_⟩; rw [Hwz.out]) | (rw [show wz.alloc _ = wy from Hwy.out]) | ((with_reducible refine wpList_load_lit 35 (.tmp 10) ?_); refine ⟨wr.heap.size, 0, rfl, [.int .i64 x.kind, .int .i64 x.tenant, .string x.who, .int .i64 x.broker, .string x.sc, .slice x.ca x.cs.length x.cc, .string x.name, .int .i64 x.at_], CellsAt.row Hgy.out, by kernel_rfl, by kernel_rfl, ?_⟩) | fail)
          refine Hle.out.mono ?_
          rintro e w6 ⟨rfl, ow6, hb6, hO6, hm6⟩
          rw [show learnOk (⟨P, fun _ => RS.zero⟩ : BS).L ((P.length : Int) - 1) x.pru = false from hok] at hO6 ⊢
          have hb6' : Bro w6 ow6 2 g 3 [1, 2, 4] ⟨P, fun _ => RS.zero⟩ := by
            have := hb6
            unfold BS.learn at this
            rw [show learnOk (⟨P, fun _ => RS.zero⟩ : BS).L ((P.length : Int) - 1) x.pru = false from hok] at this
            exact this
          have ho6 := hm6.owd Hoy.out (by show ¬ ((0 = 2 ∨ 0 = 2 + 17) ∨ 0 = 40); omega)
          have hr6 := hm6.mod0 Hoy.out Hry.out (by show ¬ ((0 = 2 ∨ 0 = 2 + 17) ∨ 0 = 40); omega)
          have hl6 := Hly.out.mov hm6 (by show ¬ ((0 = 2 ∨ 0 = 2 + 17) ∨ 0 = 40); omega) (by show ¬ ((60 = 2 ∨ 60 = 2 + 17) ∨ 60 = 40); omega) (by show ¬ ((60 = 2 ∨ 60 = 2 + 17) ∨ 60 = 40); omega)
          rw [if_neg (by decide)] at hO6
          obtain ⟨v1, v2, S', H', hA, hS, hH⟩ := hO6
          obtain rfl : S' = [] := List.map_eq_nil_iff.1 hS
          obtain ⟨a1, cp1, rfl, -⟩ := hA.s1.shape
          have c60 : w6.cell? ⟨wz.heap.size, 0, none⟩ = some (.slice a1 0 cp1) := cell_of hA.row rfl
          have Hb6' := Lib.hid hb6'
          have Ho6 := Lib.hid ho6
          have Hr6 := Lib.hid hr6
          have Hl6 := Lib.hid hl6
          clear hb6' ho6 hr6 hl6 hb6 hm6 hA hS hH hok
          go_wp2_with fail
          go_roundw
          case rel => exact ⟨j + 1, ow6, _, _, _, by go_num, hlt, rfl, hP, Ho6.out, Hb6'.out, Hl6.out, HLP.out, Hr6.out⟩
          case measure => simp [intOf]; omega
        · have hok : learnOk P ((P.length : Int) + 1) x.pru = false := by unfold learnOk; rw [decide_eq_false (by omega), Bool.false_and]
          have hle := HLen.out wy oy ((P.length : Int) + 1) Hoy.out Hby.out HOy.out Hxo.out
          have Hle := Lib.hid hle
          clear hle
          go_wp2_with (first | ((with_reducible refine wpList_load_lit 35 (.tmp 35) ?_); refine ⟨g2, off + j * 8, rfl, x.cells, Hf.out, by kernel_rfl, by kernel_rfl, ?_⟩) | ((with_reducible refine wpList_store_lit 35 (.tmp 10) (.tmp 36) ?_); refine ⟨rfl, x.cells, rfl, rfl, by kernel_rfl, rfl, ?_⟩; rw [Hwz.out]) | (rw [show wz.alloc _ = wy from Hwy.out]) | ((with_reducible refine wpList_load_lit 35 (.tmp 10) ?_); refine ⟨wr.heap.size, 0, rfl, [.int .i64 x.kind, .int .i64 x.tenant, .string x.who, .int .i64 x.broker, .string x.sc, .slice x.ca x.cs.length x.cc, .string x.name, .int .i64 x.at_], CellsAt.row Hgy.out, by kernel_rfl, by kernel_rfl, ?_⟩) | fail)
          refine Hle.out.mono ?_
          rintro e w6 ⟨rfl, ow6, hb6, hO6, hm6⟩
          rw [show learnOk (⟨P, fun _ => RS.zero⟩ : BS).L ((P.length : Int) + 1) x.pru = false from hok] at hO6 ⊢
          have hb6' : Bro w6 ow6 2 g 3 [1, 2, 4] ⟨P, fun _ => RS.zero⟩ := by
            have := hb6
            unfold BS.learn at this
            rw [show learnOk (⟨P, fun _ => RS.zero⟩ : BS).L ((P.length : Int) + 1) x.pru = false from hok] at this
            exact this
          have ho6 := hm6.owd Hoy.out (by show ¬ ((0 = 2 ∨ 0 = 2 + 17) ∨ 0 = 40); omega)
          have hr6 := hm6.mod0 Hoy.out Hry.out (by show ¬ ((0 = 2 ∨ 0 = 2 + 17) ∨ 0 = 40); omega)
          have hl6 := Hly.out.mov hm6 (by show ¬ ((0 = 2 ∨ 0 = 2 + 17) ∨ 0 = 40); omega) (by show ¬ ((60 = 2 ∨ 60 = 2 + 17) ∨ 60 = 40); omega) (by show ¬ ((60 = 2 ∨ 60 = 2 + 17) ∨ 60 = 40); omega)
          rw [if_neg (by decide)] at hO6
          obtain ⟨v1, v2, S', H', hA, hS, hH⟩ := hO6
          obtain rfl : S' = [] := List.map_eq_nil_iff.1 hS
          obtain ⟨a1, cp1, rfl, -⟩ := hA.s1.shape
          have c60 : w6.cell? ⟨wz.heap.size, 0, none⟩ = some (.slice a1 0 cp1) := cell_of hA.row rfl
          have Hb6' := Lib.hid hb6'
          have Ho6 := Lib.hid ho6
          have Hr6 := Lib.hid hr6
          have Hl6 := Lib.hid hl6
          clear hb6' ho6 hr6 hl6 hb6 hm6 hA hS hH hok
          go_wp2_with fail
          go_roundw
          case rel => exact ⟨j + 1, ow6, _, _, _, by go_num, hlt, rfl, hP, Ho6.out, Hb6'.out, Hl6.out, HLP.out, Hr6.out⟩
          case measure => simp [intOf]; omega
        · have hok : learnOk P ((P.length : Int) + 2) x.pru = false := by unfold learnOk; rw [decide_eq_false (by omega), Bool.false_and]
          have hle := HLen.out wy oy ((P.length : Int) + 2) Hoy.out Hby.out HOy.out Hxo.out
          have Hle := Lib.hid hle
          clear hle
          go_wp2_with (first | ((with_reducible refine wpList_load_lit 35 (.tmp 35) ?_); refine ⟨g2, off + j * 8, rfl, x.cells, Hf.out, by kernel_rfl, by kernel_rfl, ?_⟩) | ((with_reducible refine wpList_store_lit 35 (.tmp 10) (.tmp 36) ?_); refine ⟨rfl, x.cells, rfl, rfl, by kernel_rfl, rfl, ?_⟩; rw [Hwz.out]) | (rw [show wz.alloc _ = wy from Hwy.out]) | ((with_reducible refine wpList_load_lit 35 (.tmp 10) ?_); refine ⟨wr.heap.size, 0, rfl, [.int .i64 x.kind, .int .i64 x.tenant, .string x.who, .int .i64 x.broker, .string x.sc, .slice x.ca x.cs.length x.cc, .string x.name, .int .i64 x.at_], CellsAt.row Hgy.out, by kernel_rfl, by kernel_rfl, ?_⟩) | fail)
          refine Hle.out.mono ?_
          rintro e w6 ⟨rfl, ow6, hb6, hO6, hm6⟩
          rw [show learnOk (⟨P, fun _ => RS.zero⟩ : BS).L ((P.length : Int) + 2) x.pru = false from hok] at hO6 ⊢
          have hb6' : Bro w6 ow6 2 g 3 [1, 2, 4] ⟨P, fun _ => RS.zero⟩ := by
            have := hb6
            unfold BS.learn at this
            rw [show learnOk (⟨P, fun _ => RS.zero⟩ : BS).L ((P.length : Int) + 2) x.pru = false from hok] at this
            exact this
          have ho6 := hm6.owd Hoy.out (by show ¬ ((0 = 2 ∨ 0 = 2 + 17) ∨ 0 = 40); omega)
          have hr6 := hm6.mod0 Hoy.out Hry.out (by show ¬ ((0 = 2 ∨ 0 = 2 + 17) ∨ 0 = 40); omega)
          have hl6 := Hly.out.mov hm6 (by show ¬ ((0 = 2 ∨ 0 = 2 + 17) ∨ 0 = 40); omega) (by show ¬ ((60 = 2 ∨ 60 = 2 + 17) ∨ 60 = 40); omega) (by show ¬ ((60 = 2 ∨ 60 = 2 + 17) ∨ 60 = 40); omega)
          rw [if_neg (by decide)] at hO6
          obtain ⟨v1, v2, S', H', hA, hS, hH⟩ := hO6
          obtain rfl : S' = [] := List.map_eq_nil_iff.1 hS
          obtain ⟨a1, cp1, rfl, -⟩ := hA.s1.shape
          have c60 : w6.cell? ⟨wz.heap.size, 0, none⟩ = some (.slice a1 0 cp1) := cell_of hA.row rfl
          have Hb6' := Lib.hid hb6'
          have Ho6 := Lib.hid ho6
          have Hr6 := Lib.hid hr6
          have Hl6 := Lib.hid hl6
          clear hb6' ho6 hr6 hl6 hb6 hm6 hA hS hH hok
          go_wp2_with fail
          go_roundw
          case rel => exact ⟨j + 1, ow6, _, _, _, by go_num, hlt, rfl, hP, Ho6.out, Hb6'.out, Hl6.out, HLP.out, Hr6.out⟩
          case measure => simp [intOf]; omega
      · have hja' : ¬ (j : Int) < at_.length := by omega
        have hgy' := Hgy.out
        have y0 : wy.cell? ⟨wr.heap.size, 0, none⟩ = some (.int .i64 x.kind) := cell_of hgy' rfl
        have y1 : wy.cell? ⟨wr.heap.size, 1, none⟩ = some (.int .i64 x.tenant) := cell_of hgy' rfl
        have y2 : wy.cell? ⟨wr.heap.size, 2, none⟩ = some (.string x.who) := cell_of hgy' rfl
        have y3 : wy.cell? ⟨wr.heap.size, 3, none⟩ = some (.int .i64 x.broker) := cell_of hgy' rfl
        have y4 : wy.cell? ⟨wr.heap.size, 4, none⟩ = some (.string x.sc) := cell_of hgy' rfl
        have y5 : wy.cell? ⟨wr.heap.size, 5, none⟩ = some (.slice x.ca x.cs.length x.cc) := cell_of hgy' rfl
        have y6 : wy.cell? ⟨wr.heap.size, 6, none⟩ = some (.string x.name) := cell_of hgy' rfl
        have y7 : wy.cell? ⟨wr.heap.size, 7, none⟩ = some (.int .i64 x.at_) := cell_of hgy' rfl
        clear hgy'
        go_wp2_with (first | ((with_reducible refine wpList_load_lit 35 (.tmp 35) ?_); refine ⟨g2, off + j * 8, rfl, x.cells, Hf.out, by kernel_rfl, by kernel_rfl, ?_⟩) | ((with_reducible refine wpList_store_lit 35 (.tmp 10) (.tmp 36) ?_); refine ⟨rfl, x.cells, rfl, rfl, by kernel_rfl, rfl, ?_⟩; rw [Hwz.out]) | (rw [show wz.alloc _ = wy from Hwy.out]) | ((with_reducible refine wpList_load_lit 35 (.tmp 10) ?_); refine ⟨wr.heap.size, 0, rfl, [.int .i64 x.kind, .int .i64 x.tenant, .string x.who, .int .i64 x.broker, .string x.sc, .slice x.ca x.cs.length x.cc, .string x.name, .int .i64 x.at_], CellsAt.row Hgy.out, by kernel_rfl, by kernel_rfl, ?_⟩) | fail)
        refine Hadd.out.mono ?_
        rintro e w5 ⟨rfl, ow5, v5, L5, hl5, hp5, hm5⟩
        rw [HLP.out, HR.out]
        rw [HLP.out] at hp5
        have ho5 := hm5.owd Hoy.out (by omega)
        have hb5 := Hby.out.mov Hoy.out hm5 (by omega) (fun t e => by omega)
        have hO5 := HOy.out.mov hm5 (by omega) (by omega)
        have hx5 := Hxo.out.mov hm5 (by omega)
        have hr5 := hm5.mod0 Hoy.out Hry.out (by omega)
        have hg5 := hm5.md.heap Hgy.out (by rw [Hoyx.out]; omega)
        have hle := HLen.out w5 ow5 P.length ho5 hb5 hO5 hx5
        have Hl5 := Lib.hid hl5
        have Hp5 := Lib.hid hp5
        have Hm5 := Lib.hid hm5
        have Ho5 := Lib.hid ho5
        have Hb5 := Lib.hid hb5
        have HO5 := Lib.hid hO5
        have Hx5 := Lib.hid hx5
        have Hr5 := Lib.hid hr5
        have Hg5 := Lib.hid hg5
        have Hle := Lib.hid hle
        clear hl5 hp5 hm5 ho5 hb5 hO5 hx5 hr5 hg5 hle
        clear y0 y1 y2 y3 y4 y5 y6 y7
        by_cases hR0 : R = 0
        · subst hR0
          have hok : learnOk P P.length x.pru = true := by unfold learnOk; rw [HR.out, decide_eq_true rfl]; rfl
          have hpk : addP P x.pru = P ++ [x.pru.kept] := by unfold addP; rw [HR.out, if_pos rfl]
          have hpl : (addP P x.pru).length = P.length + 1 := by rw [hpk, List.length_append, List.length_singleton]
          have hp40 := addP_forty hP x.pru
          have Hpk := Lib.hid hpk
          have Hpl := Lib.hid hpl
          have Hp40 := Lib.hid hp40
          clear hpk hpl hp40
          go_wp2_with (first | ((with_reducible refine wpList_load_lit 35 (.tmp 10) ?_); refine ⟨wr.heap.size, 0, rfl, [.int .i64 x.kind, .int .i64 x.tenant, .string x.who, .int .i64 x.broker, .string x.sc, .slice x.ca x.cs.length x.cc, .string x.name, .int .i64 x.at_], CellsAt.row Hg5.out, by kernel_rfl, by kernel_rfl, ?_⟩) | fail)
          refine Hle.out.mono ?_
          rintro e w6 ⟨rfl, ow6, hb6, hO6, hm6⟩
          rw [show learnOk (⟨P, fun _ => RS.zero⟩ : BS).L (↑P.length) x.pru = true from hok] at hO6 ⊢
          have hb6' : Bro w6 ow6 2 g 3 [1, 2, 4] ⟨addP P x.pru, fun _ => RS.zero⟩ := by
            have := hb6
            unfold BS.learn at this
            rw [show learnOk (⟨P, fun _ => RS.zero⟩ : BS).L (↑P.length) x.pru = true from hok] at this
            exact this
          have ho6 := hm6.owd Ho5.out (by show ¬ ((0 = 2 ∨ 0 = 2 + 17) ∨ 0 = 40); omega)
          have hr6 := hm6.mod0 Ho5.out Hr5.out (by show ¬ ((0 = 2 ∨ 0 = 2 + 17) ∨ 0 = 40); omega)
          have hl6 := Hl5.out.mov hm6 (by show ¬ ((0 = 2 ∨ 0 = 2 + 17) ∨ 0 = 40); omega) (by show ¬ ((60 = 2 ∨ 60 = 2 + 17) ∨ 60 = 40); omega) (by show ¬ ((60 = 2 ∨ 60 = 2 + 17) ∨ 60 = 40); omega)
          rw [if_pos rfl, sends17, bl_said] at hO6
          obtain ⟨v1, v2, S', H', hA, hS, hH⟩ := hO6
          have hS2 : S'.length = 2 := by have := congrArg List.length hS; simpa using this
          obtain ⟨s1, s2, rfl⟩ := two_of hS2
          obtain rfl : H' = [] := List.map_eq_nil_iff.1 hH
          have hs1 : s1.sd = (1, -1, Mg.pol P.length x.pru) := by have h := congrArg (·[0]?) hS; simpa using h
          have hs2 : s2.sd = (4, -1, Mg.pol P.length x.pru) := by have h := congrArg (·[1]?) hS; simpa using h
          have i1 : s1.1 = 1 := congrArg Prod.fst hs1
          have i2 : s2.1 = 4 := congrArg Prod.fst hs2
          have i3 : s1.2.1 = -1 := congrArg (fun q => q.2.1) hs1
          have i4 : s2.2.2.m.at_ = P.length := congrArg (fun q => q.2.2.at_) hs2
          have i5 : s1.2.2.m.kind = 0 := congrArg (fun q => q.2.2.kind) hs1
          obtain ⟨a1, cp1, rfl, hcp⟩ := hA.s1.shape
          obtain ⟨a3, cp3, rfl, -⟩ := hA.s2.shape
          obtain ⟨g1, o1, rfl, q0, q19, q1, q22, q2⟩ : ∃ g1 o1, a1 = some ⟨g1, o1, none⟩ ∧ w6.cell? ⟨g1, o1, none⟩ = some (.int .i64 1) ∧ w6.cell? ⟨g1, o1 + 19, none⟩ = some (.int .i64 4) ∧ w6.cell? ⟨g1, o1 + 1, none⟩ = some (.int .i64 (-1)) ∧ w6.cell? ⟨g1, o1 + 22, none⟩ = some (.int .i64 P.length) ∧ w6.cell? ⟨g1, o1 + 2, none⟩ = some (.int .i64 0) := by
            obtain ⟨-, a', c', he, -, h4, h5⟩ := hA.s1.rd
            cases he
            cases a1 with
            | none => exact absurd (h4 rfl) (by simp)
            | some b =>
              obtain ⟨g1, o1, rfl, h6⟩ := h5 b rfl (by simp)
              exact ⟨g1, o1, rfl, by rw [← i1]; exact h6 0 _ rfl, by rw [← i2]; exact h6 19 _ rfl, by rw [← i3]; exact h6 1 _ rfl, by rw [← i4]; exact h6 22 _ rfl, by rw [← i5]; exact h6 2 _ rfl⟩
          have c60 : w6.cell? ⟨wz.heap.size, 0, none⟩ = some (.slice (some ⟨g1, o1, none⟩) 2 cp1) := cell_of hA.row rfl
          have c61 : w6.cell? ⟨wz.heap.size, 1, none⟩ = some (.slice a3 0 cp3) := cell_of hA.row rfl
          have hcp' : (2 : Int) ≤ cp1 := by have : 2 ≤ cp1 := hcp; omega
          have Hb6' := Lib.hid hb6'
          have Ho6 := Lib.hid ho6
          have Hr6 := Lib.hid hr6
          have Hl6 := Lib.hid hl6
          clear hb6' ho6 hr6 hl6 hb6 hm6 hA hS hH hok hS2 hs1 hs2 i1 i2 i3 i4 i5 hcp
          go_wp2_with fail
          go_roundw
          case rel => exact ⟨j + 1, ow6, _, _, _, by go_num, hlt, by rw [Hpl.out]; go_num, Hp40.out, Ho6.out, Hb6'.out, Hl6.out, Hp5.out, Hr6.out⟩
          case measure => simp [intOf]; omega
        · have hok : learnOk P P.length x.pru = false := by unfold learnOk; rw [HR.out, decide_eq_false hR0, Bool.and_false]
          have hb1 : (R == 0) = false := by simpa using hR0
          have hpk : addP P x.pru = P := by unfold addP; rw [HR.out, if_neg hR0]
          have Hpk := Lib.hid hpk
          clear hpk
          go_wp2_with (first | ((with_reducible refine wpList_load_lit 35 (.tmp 10) ?_); refine ⟨wr.heap.size, 0, rfl, [.int .i64 x.kind, .int .i64 x.tenant, .string x.who, .int .i64 x.broker, .string x.sc, .slice x.ca x.cs.length x.cc, .string x.name, .int .i64 x.at_], CellsAt.row Hg5.out, by kernel_rfl, by kernel_rfl, ?_⟩) | fail)
          refine Hle.out.mono ?_
          rintro e w6 ⟨rfl, ow6, hb6, hO6, hm6⟩
          rw [show learnOk (⟨P, fun _ => RS.zero⟩ : BS).L (↑P.length) x.pru = false from hok] at hO6 ⊢
          have hb6' : Bro w6 ow6 2 g 3 [1, 2, 4] ⟨P, fun _ => RS.zero⟩ := by
            have := hb6
            unfold BS.learn at this
            rw [show learnOk (⟨P, fun _ => RS.zero⟩ : BS).L (↑P.length) x.pru = false from hok] at this
            exact this
          have ho6 := hm6.owd Ho5.out (by show ¬ ((0 = 2 ∨ 0 = 2 + 17) ∨ 0 = 40); omega)
          have hr6 := hm6.mod0 Ho5.out Hr5.out (by show ¬ ((0 = 2 ∨ 0 = 2 + 17) ∨ 0 = 40); omega)
          have hl6 := Hl5.out.mov hm6 (by show ¬ ((0 = 2 ∨ 0 = 2 + 17) ∨ 0 = 40); omega) (by show ¬ ((60 = 2 ∨ 60 = 2 + 17) ∨ 60 = 40); omega) (by show ¬ ((60 = 2 ∨ 60 = 2 + 17) ∨ 60 = 40); omega)
          rw [if_neg (by decide)] at hO6
          obtain ⟨v1, v2, S', H', hA, hS, hH⟩ := hO6
          obtain rfl : S' = [] := List.map_eq_nil_iff.1 hS
          obtain ⟨a1, cp1, rfl, -⟩ := hA.s1.shape
          have c60 : w6.cell? ⟨wz.heap.size, 0, none⟩ = some (.slice a1 0 cp1) := cell_of hA.row rfl
          have Hb6' := Lib.hid hb6'
          have Ho6 := Lib.hid ho6
          have Hr6 := Lib.hid hr6
          have Hl6 := Lib.hid hl6
          clear hb6' ho6 hr6 hl6 hb6 hm6 hA hS hH hok
          go_wp2_with fail
          go_roundw
          case rel => exact ⟨j + 1, ow6, _, _, _, by go_num, hlt, rfl, hP, Ho6.out, Hb6'.out, Hl6.out, by rw [Hp5.out, Hpk.out], Hr6.out⟩
          case measure => simp [intOf]; omega
    · obtain rfl : j = l.length := by omega
      obtain ⟨ba, hba⟩ := hbr
      obtain ⟨Lb, hlb, hLb⟩ := hba.log
      replace hLb : Lb.map Prod.fst = P := hLb
      have hlen1 : Lb.length = P.length := by rw [← hLb, List.length_map]
      have hlen2 : L.length = P.length := by rw [← hLP, List.length_map]
      obtain ⟨ab, cb, hab, -⟩ : ∃ a' cc, ba.v = .slice a' Lb.length cc ∧ Lb.length ≤ cc := by obtain ⟨-, a, cc, h, h2, -⟩ := hlb.sl.sl.rd; exact ⟨a, cc, h, h2⟩
      obtain ⟨al, cl, hall, -⟩ : ∃ a' cc, vL = .slice a' L.length cc ∧ L.length ≤ cc := by obtain ⟨-, a, cc, h, h2, -⟩ := hlr.sl.sl.rd; exact ⟨a, cc, h, h2⟩
      have hr1 := hlb.sl.ru
      have hr2 := hlr.sl.ru
      have hp1 : (Lb.map Lr.ru).map Ru.pru = P := by rw [lrs_pru]; exact hLb
      have hp2 : (L.map Lr.ru).map Ru.pru = P := by rw [lrs_pru]; exact hLP
      have hn1 : (Lb.map Lr.ru).length = P.length := by rw [List.length_map]; exact hlen1
      have hn2 : (L.map Lr.ru).length = P.length := by rw [List.length_map]; exact hlen2
      have e1 : wr.cell? ⟨g, 0, none⟩ = some (.slice ab P.length cb) := by rw [← hlen1, ← hab]; exact cell_of hlb.row rfl
      have e2 : wr.cell? ⟨gl, 0, none⟩ = some (.slice al P.length cl) := by rw [← hlen2, ← hall]; exact cell_of hlr.row rfl
      rw [hab, hlen1] at hr1
      rw [hall, hlen2] at hr2
      obtain ⟨l1, hl1⟩ : ∃ l1, Lb.map Lr.ru = l1 := ⟨_, rfl⟩
      obtain ⟨l2, hl2⟩ : ∃ l2, L.map Lr.ru = l2 := ⟨_, rfl⟩
      rw [hl1] at hr1 hp1 hn1
      rw [hl2] at hr2 hp2 hn2
      have hcv : clampV (P.length : Int) P.length = P.length := by unfold clampV; omega
      have hle := plen_at wr g ab P.length cb e1
      have hA1 := pat_at wr g ab cb l1 (by rw [hn1]; exact e1) (by rw [hn1]; exact hr1) (by omega) P.length
      have hA2 : ∀ wx, Mod (fun _ => False) wr wx → Calls Tryz.prog 16 #[.pointer (some ⟨gl, 0, none⟩), .int .i64 P.length] wx (AtPost wx l2 (clampV P.length l2.length)) := fun wx hx =>
        pat_at wx gl al cl l2 (by rw [hn2]; exact hx.cell e2 (fun h => h)) (by rw [hn2]; exact hr2.mod hx) (by omega) P.length
      rw [hn1, hcv] at hA1
      rw [hn2, hcv] at hA2
      have hq : (atR l1 P.length).length = (atR l2 P.length).length := by
        have h1 := congrArg List.length (atR_pru l1 P.length)
        have h2 := congrArg List.length (atR_pru l2 P.length)
        rw [List.length_map, hp1] at h1
        rw [List.length_map, hp2] at h2
        rw [h1, h2]
      have Hmr := Lib.hid hmr
      have Hle := Lib.hid hle
      have HA1 := Lib.hid hA1
      have HA2 := Lib.hid hA2
      have Hq := Lib.hid hq
      clear hmr hle hA1 hA2 hq hor hlr hLP hba hlb hLb hlen1 hlen2 hab hall hr1 hr2 hp1 hp2 hn1 hn2 e1 e2 hl1 hl2 hcv
      go_wp2_with fail
      refine Hle.out.mono ?_
      rintro e wr' ⟨rfl, rfl⟩
      go_wp2_with fail
      refine HA1.out.mono ?_
      rintro e w5 ⟨v5, rfl, ho5, -, hm5⟩
      obtain ⟨oa5, oc5, rfl, -⟩ := ho5.shape
      have hw5 := Hmr.out.trans hm5 (fun _ _ h => h)
      have hA3 := HA2.out w5 hm5
      obtain ⟨n5, hn5⟩ : ∃ n5, (atR l1 P.length).length = n5 := ⟨_, rfl⟩
      rw [hn5]
      have hq5 := Hq.out
      rw [hn5] at hq5
      have Hw5 := Lib.hid hw5
      have HA3 := Lib.hid hA3
      have Hq5 := Lib.hid hq5
      clear hw5 hA3 hq5 ho5 hm5 hn5
      go_wp2_with fail
      refine HA3.out.mono ?_
      rintro e w6 ⟨v6, rfl, ho6, -, hm6⟩
      obtain ⟨oa6, oc6, rfl, -⟩ := ho6.shape
      rw [← Hq5.out]
      have hw6 := Hw5.out.trans hm6 (fun _ _ h => h)
      have Hw6 := Lib.hid hw6
      clear hw6 ho6 hm6
      go_wp2_with fail
      go_ret
      exact ⟨rfl, Hw6.out⟩
end Go.Proofs.YtaenebdppkjhoaaGreatDoor
