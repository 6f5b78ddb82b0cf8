/-
  gazettelaw19.tame: ops that bytes can tell.
-/
import Derived.Test.YtloplmaekonenaaGreatDoorZi30
import Derived.Test.YtloplmaekonenaaGreatDoorZi38
import Derived.Test.YtloplmaekonenaaGreatDoorZi15
import Derived.Test.YtloplmaekonenaaGreatDoorZi34
namespace Go.Proofs.YtloplmaekonenaaGreatDoor
set_option maxRecDepth 20000
open Go.RowKit
def TameRel (w : World) (l : List (PO × Lie)) (v i : Value) (wr : World) : Prop :=
  ∃ (j : Nat) (m : List (PO × Lie)) (va : Option Addr) (vc : Nat), i = .int .i64 j ∧ j ≤ l.length ∧ v = .slice va m.length vc ∧ OpsAt wr w.heap.size v m ∧ m.length ≤ j ∧ (∀ p ∈ m, Tamed p.1) ∧ Mod (fun _ => False) w wr
def TamePost (w : World) (l : List (PO × Lie)) (e : Ending) (w' : World) : Prop :=
  ∃ (v : Value) (m : List (PO × Lie)), e = .returned v ∧ OpsAt w' w.heap.size v m ∧ m.length ≤ l.length ∧ (∀ p ∈ m, Tamed p.1) ∧ Mod (fun _ => False) w w'
theorem tame_tail {wq : World} {B : Nat} {va : Option Addr} {vc : Nat} {m : List (PO × Lie)} {O : PO} {Y : Lie} (hops : OpsAt wq B (.slice va m.length vc) m) (hown : OpOwn wq B O Y) :
    ∃ wr2 : World, wq.alloc (.cells (opCells O Y).toArray 119) = wr2 ∧ RdSl wr2 18 (.slice (some ⟨wq.heap.size, 0, none⟩) 1 1) 1 (opCells O Y) ∧ (∀ u ∈ opCells O Y, u.oneCell' = true) ∧ OpsAt wr2 B (.slice va m.length vc) m ∧ OpOwn wr2 B O Y ∧ Mod (fun _ => False) wq wr2 := by
  have hm : Mod (fun _ => False) wq (wq.alloc (.cells (opCells O Y).toArray 119)) := (Mod.refl (fun _ => False) wq).alloc _
  exact ⟨_, rfl, RdSl.one wq (opCells O Y) 119 rfl, fun u hu => List.all_eq_true.1 (show (opCells O Y).all (·.oneCell') = true from rfl) u hu, hops.mod hm (fun _ h => h.elim), hown.keep (p := (O, Y)) hm (fun _ _ h => h), hm⟩
theorem tmod5 (u : Nat) : (u : Int).tmod 5 = ((u % 5 : Nat) : Int) := rfl
set_option maxRecDepth 20000 in
set_option maxHeartbeats 16000000 in
theorem tame_at (w0 w : World) (hl : Laid w0 w) (v : Value) (l : List (PO × Lie)) (hv : RdSl w 18 v l.length (opsCells l)) (hop : ∀ p ∈ l, OpArg w p) (hlr : ∀ p ∈ l, OpLight p.1 ∧ OpRight p.1) (hll : l.length ≤ 80) :
    Calls Tryz.prog 38 #[v] w (TamePost w l) := by
  obtain ⟨a, cap, rfl, hcap⟩ : ∃ a c, v = .slice a l.length c ∧ l.length ≤ c := by obtain ⟨-, a, c, h, h2, -⟩ := hv; exact ⟨a, c, h, h2⟩
  have hll' : (l.length : Int) ≤ 80 := by omega
  have hcap' : (l.length : Int) ≤ cap := by omega
  have hrel0 : TameRel w l (.slice none 0 0) (.int .i64 ((0 : Nat) : Int)) w := ⟨0, [], none, 0, rfl, Nat.zero_le _, rfl, OpsAt.nil _ _, Nat.le_refl _, fun p hp => (by cases hp), Mod.refl _ _⟩
  have Hl := Lib.hid hl
  have Hv := Lib.hid hv
  have Hop := Lib.hid hop
  have Hlr := Lib.hid hlr
  have Hrel0 := Lib.hid hrel0
  clear hl hv hop hlr hrel0
  go_enter Tryz.func38, Tryz.ntmps38
  go_wp2_with fail
  go_loopw [3, 11] (fun v i wr => TameRel w l v i wr) (fun _ i _ => l.length - (intOf i).toNat)
  case atStart => exact Hrel0.out
  case round =>
    revert wr
    intro wr hrel
    obtain ⟨j, m, va, vc, rfl, hj, rfl, hops, hml, htall, hmr⟩ := hrel
    by_cases hlt : j < l.length
    · have hlt' : (j : Int) < l.length := by omega
      obtain ⟨⟨o, ⟨ra, rc, ea, ec, fa, fc⟩⟩, hxj⟩ : ∃ x, l[j]? = some x := ⟨_, List.getElem?_eq_getElem hlt⟩
      have hx := (Hop.out _ (List.mem_of_getElem? hxj)).mod hmr
      obtain ⟨hli, hrt⟩ := Hlr.out _ (List.mem_of_getElem? hxj)
      obtain ⟨g, off, rfl, hf⟩ : ∃ g off, a = some ⟨g, off, none⟩ ∧ CellsAt wr g (off + j * 18) (opCells o ⟨ra, rc, ea, ec, fa, fc⟩) := rd_op (Hv.out.mod hmr (fun _ _ h => h)) hxj
      obtain ⟨wz, hwz⟩ : ∃ wz : World, wr.alloc (.cells (opCells o ⟨ra, rc, ea, ec, fa, fc⟩).toArray 119) = wz := ⟨_, rfl⟩
      have hmwz : Mod (fun _ => False) wr wz := hwz ▸ (Mod.refl (fun _ => False) wr).alloc _
      have hgwz := heap_alloc_new wr (.cells (opCells o ⟨ra, rc, ea, ec, fa, fc⟩).toArray 119)
      rw [hwz] at hgwz
      have hzwz : wz.heap.size = wr.heap.size + 1 := by rw [← hwz]; simp
      obtain ⟨K, hK, hK0, hK8⟩ : ∃ K : Int, bits .and .i64 o.kind 7 = K ∧ 0 ≤ K ∧ K < 8 := by
        obtain ⟨t, ht, h8⟩ := and_7 o.kind
        exact ⟨t, ht, by omega, by omega⟩
      obtain ⟨u, hu, hu8⟩ := and_7 o.ten
      obtain ⟨s5, hs5, hs5l⟩ : ∃ s5 : Nat, (u : Int).tmod 5 = (s5 : Int) ∧ s5 < 5 := ⟨u % 5, tmod5 u, Nat.mod_lt _ (by decide)⟩
      obtain ⟨T, hT, hT1⟩ : ∃ T : Int, (s5 : Int) - 1 = T ∧ (-1 ≤ T ∧ T ≤ 3) := ⟨_, rfl, by omega⟩
      obtain ⟨wy, hwy⟩ : ∃ wy : World, wz.alloc (.cells #[.int .i64 K, .int .i64 T, .string ⟨#[]⟩, .int .i64 0, .int .i64 0, .string ⟨#[]⟩, .int .i64 0, .string ⟨#[]⟩, .slice none 0 0, .string ⟨#[]⟩, .int .i64 0, .string ⟨#[]⟩, .slice none 0 0, .string ⟨#[]⟩, .slice none 0 0, .int .i64 0, .int .i64 0, .int .i64 0] 119) = wy := ⟨_, rfl⟩
      have hmwy : Mod (fun _ => False) wz wy := hwy ▸ (Mod.refl (fun _ => False) wz).alloc _
      have hgwy := heap_alloc_new wz (.cells #[.int .i64 K, .int .i64 T, .string ⟨#[]⟩, .int .i64 0, .int .i64 0, .string ⟨#[]⟩, .int .i64 0, .string ⟨#[]⟩, .slice none 0 0, .string ⟨#[]⟩, .int .i64 0, .string ⟨#[]⟩, .slice none 0 0, .string ⟨#[]⟩, .slice none 0 0, .int .i64 0, .int .i64 0, .int .i64 0] 119)
      rw [hwy] at hgwy
      have hzwy : wy.heap.size = wz.heap.size + 1 := by rw [← hwy]; simp
      have hmz := hmr.trans hmwz (fun _ _ h => h)
      have hmy := hmz.trans hmwy (fun _ _ h => h)
      have hmry := hmwz.trans hmwy (fun _ _ h => h)
      have hxy := (hx.mod hmwz).mod hmwy
      have hopy := hops.mod hmry (fun _ h => h.elim)
      have hgo := hmwy.heap hgwz (fun h => h)
      have hvlt := hopy.own.lt
      have hwB : w.heap.size ≤ wr.heap.size := hmr.size
      have a0 : wz.cell? ⟨wr.heap.size, 0, none⟩ = some (.int .i64 o.kind) := cell_of hgwz rfl
      have a1 : wz.cell? ⟨wr.heap.size, 1, none⟩ = some (.int .i64 o.ten) := cell_of hgwz rfl
      have b0 : wy.cell? ⟨wz.heap.size, 0, none⟩ = some (.int .i64 K) := cell_of hgwy rfl
      have hdisB : ∀ b, (Value.slice va m.length vc).ownBlock = some b → b < wr.heap.size := hops.own.lt
      have hzz : wr.heap.size < wz.heap.size := by omega
      have hzy : wz.heap.size < wy.heap.size := by omega
      have Hops := Lib.hid hops
      have Htall := Lib.hid htall
      have Hmr := Lib.hid hmr
      have Hxj := Lib.hid hxj
      have Hx := Lib.hid hx
      have Hli := Lib.hid hli
      have Hrt := Lib.hid hrt
      have Hf := Lib.hid hf
      have Hwz := Lib.hid hwz
      have Hmwz := Lib.hid hmwz
      have Hgwz := Lib.hid hgwz
      have Hwy := Lib.hid hwy
      have Hmwy := Lib.hid hmwy
      have Hgwy := Lib.hid hgwy
      have Hmz := Lib.hid hmz
      have Hmy := Lib.hid hmy
      have Hmry := Lib.hid hmry
      have Hxy := Lib.hid hxy
      have Hopy := Lib.hid hopy
      have Hgo := Lib.hid hgo
      have Hvlt := Lib.hid hvlt
      have HdisB := Lib.hid hdisB
      have Hzwz := Lib.hid hzwz
      have Hzwy := Lib.hid hzwy
      clear hops htall hmr hxj hx hli hrt hf hwz hmwz hgwz hwy hmwy hgwy hmz hmy hmry hxy hopy hgo hvlt hdisB hzwz hzwy
      have hKc : K = 0 ∨ K = 1 ∨ K = 2 ∨ K = 3 ∨ 4 ≤ K := by omega
      rcases hKc with rfl | rfl | rfl | rfl | hK4
      · obtain ⟨k3, hk3, hk3l⟩ := and_7 o.r.kind
        obtain ⟨t3, ht3, ht3l⟩ := and_3 o.r.tenant
        obtain ⟨k7, hk7, hk7l⟩ := and_7 o.r.broker
        obtain ⟨k127, hk127, hk127l⟩ := and_127 o.r.at_
        have hrf : filRight o.r.sc o.r.cs = true := Hrt.out.2
        obtain ⟨bs1, bs2, bs3⟩ := fil_bounds hrf
        have hr2 : o.r.who.size + o.r.name.size ≤ 200 := Hli.out.r
        obtain ⟨r1, hr1⟩ : ∃ r1 : PRu, (⟨k3, t3, o.r.who, k7, o.r.sc, o.r.cs, o.r.name, k127⟩ : PRu) = r1 := ⟨_, rfl⟩
        have hf1 : r1.fit := hr1 ▸ ⟨by show o.r.who.size ≤ 255; omega, by show o.r.sc.size ≤ 255; omega, by show o.r.name.size ≤ 255; omega, by show o.r.cs.length ≤ 255; omega, fun c hc => ⟨by have := (bs3 c hc).1; omega, by have := (bs3 c hc).2.2.2; omega, (Hx.out.rs c hc).2.2⟩⟩
        have hrl : (ruBytes r1).length ≤ 900 := by
          rw [← hr1]
          have h1 := fil_len (sc := o.r.sc) (l := o.r.cs) (fun c hc => ⟨(bs3 c hc).1, (bs3 c hc).2.2.2⟩)
          have h2 := txt_len o.r.who
          have h3 := txt_len o.r.name
          unfold ruBytes
          simp only [List.length_append, List.length_cons, List.length_nil]
          omega
        have hru := wrule_at wy r1 hf1 ra rc (hr1 ▸ Hxy.out.r.rd)
        rw [show (r1.lies ra rc).cells.toArray = #[.int .i64 k3, .int .i64 t3, .string o.r.who, .int .i64 k7, .string o.r.sc, .slice ra o.r.cs.length rc, .string o.r.name, .int .i64 k127] by rw [← hr1]; rfl] at hru
        have e3 : wy.cell? ⟨wr.heap.size, 3, none⟩ = some (.int .i64 o.r.kind) := cell_of Hgo.out rfl
        have e4 : wy.cell? ⟨wr.heap.size, 4, none⟩ = some (.int .i64 o.r.tenant) := cell_of Hgo.out rfl
        have e5 : wy.cell? ⟨wr.heap.size, 5, none⟩ = some (.string o.r.who) := cell_of Hgo.out rfl
        have e6 : wy.cell? ⟨wr.heap.size, 6, none⟩ = some (.int .i64 o.r.broker) := cell_of Hgo.out rfl
        have e7 : wy.cell? ⟨wr.heap.size, 7, none⟩ = some (.string o.r.sc) := cell_of Hgo.out rfl
        have e8 : wy.cell? ⟨wr.heap.size, 8, none⟩ = some (.slice ra o.r.cs.length rc) := cell_of Hgo.out rfl
        have e9 : wy.cell? ⟨wr.heap.size, 9, none⟩ = some (.string o.r.name) := cell_of Hgo.out rfl
        have e10 : wy.cell? ⟨wr.heap.size, 10, none⟩ = some (.int .i64 o.r.at_) := cell_of Hgo.out rfl
        have Hru := Lib.hid hru
        have Hf1 := Lib.hid hf1
        have Bs3 := Lib.hid bs3
        have Hr1 := Lib.hid hr1
        have Hrf := Lib.hid hrf
        clear hru hf1 bs3 hr1 hrf
        go_wp2_with (first | ((with_reducible refine wpList_load_lit 119 (.tmp 13) ?_); refine ⟨g, off + j * 18, rfl, opCells o ⟨ra, rc, ea, ec, fa, fc⟩, Hf.out, by kernel_rfl, by kernel_rfl, ?_⟩) | ((with_reducible refine wpList_store_lit 119 (.tmp 5) (.tmp 14) ?_); refine ⟨rfl, opCells o ⟨ra, rc, ea, ec, fa, fc⟩, rfl, rfl, by kernel_rfl, rfl, ?_⟩; rw [Hwz.out]) | ((with_reducible refine wpList_store_lit 119 (.tmp 6) (.tmp 23) ?_); refine ⟨rfl, [.int .i64 0, .int .i64 T, .string ⟨#[]⟩, .int .i64 0, .int .i64 0, .string ⟨#[]⟩, .int .i64 0, .string ⟨#[]⟩, .slice none 0 0, .string ⟨#[]⟩, .int .i64 0, .string ⟨#[]⟩, .slice none 0 0, .string ⟨#[]⟩, .slice none 0 0, .int .i64 0, .int .i64 0, .int .i64 0], rfl, rfl, by kernel_rfl, rfl, ?_⟩; rw [Hwy.out]) | fail)
        refine Hru.out.mono ?_
        rintro e w3 ⟨v3, rfl, ho3, hb3, hm3⟩
        have hs3 := hm3.size
        obtain ⟨G, hG1, hG2⟩ := own_at ho3 (by omega)
        have hrr := readrule_at w3 v3 G (ruBytes r1) hG1 hG2
        have Hrr := Lib.hid hrr
        have Hm3 := Lib.hid hm3
        clear hrr hm3 ho3 hb3 hG1 hG2
        go_wp2_with fail
        refine Hrr.out.mono ?_
        rintro e w4 ⟨p, pa, pc, ok, rfl, hok, hown4, hob4, hm4⟩
        obtain ⟨w5, hw5⟩ : ∃ w5 : World, w4.alloc (.cells (p.lies pa pc).cells.toArray 117) = w5 := ⟨_, rfl⟩
        have hmw5 : Mod (fun _ => False) w4 w5 := hw5 ▸ (Mod.refl (fun _ => False) w4).alloc _
        have hgw5 := heap_alloc_new w4 (.cells (p.lies pa pc).cells.toArray 117)
        rw [hw5] at hgw5
        have hzw5 : w5.heap.size = w4.heap.size + 1 := by rw [← hw5]; simp
        have hmy5 := (Hm3.out.trans hm4 (fun _ _ h => h)).trans hmw5 (fun _ _ h => h)
        have hm05 := Hmy.out.trans hmy5 (fun _ _ h => h)
        have hops5 := Hopy.out.mod hmy5 (fun _ h => h.elim)
        have hown5 := hown4.mod hmw5 (fun _ _ h => h)
        have hg65 := hmy5.heap Hgwy.out (fun h => h)
        have hlw : ∀ b, (Value.slice pa p.cs.length pc).ownBlock = some b → wy.heap.size ≤ b := fun b hb => Nat.le_trans hs3 (hob4 b hb)
        cases ok with
        | false =>
          have Hok := Lib.hid hok
          have Hown4 := Lib.hid hown4
          have Hob4 := Lib.hid hob4
          have Hm4 := Lib.hid hm4
          have Hmw5 := Lib.hid hmw5
          have Hgw5 := Lib.hid hgw5
          have Hw5 := Lib.hid hw5
          have Hmy5 := Lib.hid hmy5
          have Hm05 := Lib.hid hm05
          have Hops5 := Lib.hid hops5
          have Hown5 := Lib.hid hown5
          have Hg65 := Lib.hid hg65
          have Hlw := Lib.hid hlw
          clear hok hown4 hob4 hm4 hmw5 hgw5 hw5 hmy5 hm05 hops5 hown5 hg65 hlw hzw5
          go_wp2_with (first | ((with_reducible refine wpList_store_lit 117 (.tmp 7) (.tmp 65) ?_); refine ⟨rfl, (p.lies pa pc).cells, rfl, rfl, by kernel_rfl, rfl, ?_⟩; rw [Hw5.out]) | fail)
          go_roundw
          case rel => exact ⟨j + 1, m, va, vc, by go_num, hlt, rfl, Hops5.out, by omega, Htall.out, Hm05.out⟩
          case measure => simp [intOf]; omega
        | true =>
          obtain ⟨ho1, ho2⟩ := hok rfl
          obtain ⟨hbk, hpf⟩ := readRu_back ho1
          rw [List.append_nil] at hbk
          rw [hbk] at ho1 hrl
          have Hown4 := Lib.hid hown4
          have Hob4 := Lib.hid hob4
          have Hm4 := Lib.hid hm4
          have Hmw5 := Lib.hid hmw5
          have Hgw5 := Lib.hid hgw5
          have Hw5 := Lib.hid hw5
          have Hmy5 := Lib.hid hmy5
          have Hm05 := Lib.hid hm05
          have Hops5 := Lib.hid hops5
          have Hown5 := Lib.hid hown5
          have Hg65 := Lib.hid hg65
          have Hlw := Lib.hid hlw
          have Ho1 := Lib.hid ho1
          have Ho2 := Lib.hid ho2
          have Hbk := Lib.hid hbk
          have Hpf := Lib.hid hpf
          clear hown4 hob4 hm4 hmw5 hgw5 hw5 hmy5 hm05 hops5 hown5 hg65 hlw ho1 ho2 hbk hpf hzw5 hok
          go_wp2_with (first | ((with_reducible refine wpList_store_lit 117 (.tmp 7) (.tmp 65) ?_); refine ⟨rfl, (p.lies pa pc).cells, rfl, rfl, by kernel_rfl, rfl, ?_⟩; rw [Hw5.out]) | ((with_reducible refine wpList_load_lit 117 (.tmp 7) ?_); refine ⟨w4.heap.size, 0, rfl, (p.lies pa pc).cells, CellsAt.row Hgw5.out, by kernel_rfl, by kernel_rfl, ?_⟩) | ((with_reducible refine wpList_store_part_lit 117 (.tmp 70) (.tmp 69) ?_); refine ⟨wz.heap.size, 3, rfl, _, _, Hg65.out, (p.lies pa pc).cells, rfl, Nat.le_of_ble_eq_true rfl, by kernel_rfl, rfl, ?_⟩; intro w6 he6 hm6; have hgq : w6.heap[wz.heap.size]? = some (.cells (opCells ({ PO.mk0 0 T with r := p } : PO) (⟨pa, pc, none, 0, none, 0⟩ : Lie)).toArray 119 (0, 0)) := he6 ▸ setRow_heap w5 wz.heap.size _ _ _ _ Hg65.out; have Hgq := Lib.hid hgq; have hmrq : Mod (fun _ => False) wr w6 := (Hmry.out.trans Hmy5.out (fun _ _ h => h)).upon hm6 (fun k hk => .inr (by have hk : k = wz.heap.size := hk; omega)); have hownq : OpOwn w6 w.heap.size ({ PO.mk0 0 T with r := p } : PO) (⟨pa, pc, none, 0, none, 0⟩ : Lie) := ⟨Hown5.out.mod hm6 (fun b hb (hk : b = wz.heap.size) => by have := Hlw.out b hb; omega), OwnSl.nil _ _ _, OwnSl.nil _ _ _, fun b hb => Nat.le_trans (by omega) (Hlw.out b hb), fun b hb => (by cases hb), fun b hb => (by cases hb)⟩; have Htm := Lib.hid (tamed_0 hT1 Ho1.out Ho2.out hrl : Tamed ({ PO.mk0 0 T with r := p } : PO)); obtain ⟨wr2, hwr2, hrz, hone, hopsr, hownr, hmr2⟩ := tame_tail (Hops.out.mod hmrq (fun _ h => h.elim)) hownq; have Hwr2 := Lib.hid hwr2; have Hrz := Lib.hid hrz; have Hone := Lib.hid hone; have Hopsr := Lib.hid hopsr; have Hownr := Lib.hid hownr; have Hmr2 := Lib.hid (Hmr.out.trans (hmrq.trans hmr2 (fun _ _ h => h)) (fun _ _ h => h)); clear hgq hmrq hownq hwr2 hrz hone hopsr hownr hmr2; clear he6 hm6) | ((with_reducible refine wpList_load_lit 119 (.tmp 6) ?_); refine ⟨wz.heap.size, 0, rfl, opCells ({ PO.mk0 0 T with r := p } : PO) (⟨pa, pc, none, 0, none, 0⟩ : Lie), CellsAt.row Hgq.out, by kernel_rfl, by kernel_rfl, ?_⟩) | ((with_reducible refine wpList_build_one_lit 66 (.tmp 103) ?_); refine ⟨119, 18, Tryz.underlying66, by kernel_rfl, by kernel_rfl, by decide, by decide, opCells ({ PO.mk0 0 T with r := p } : PO) (⟨pa, pc, none, 0, none, 0⟩ : Lie), rfl, rfl, ?_⟩; rw [Hwr2.out]) | ((with_reducible refine wpList_append_lit (.tmp 102) (.tmp 104) 66 ?_); refine ⟨rfl, 119, 18, 240, ops_T, .slice va m.length vc, m.length, opsCells m, rfl, Hopsr.out.own, _, 1, opCells ({ PO.mk0 0 T with r := p } : PO) (⟨pa, pc, none, 0, none, 0⟩ : Lie), rfl, Hrz.out, Hone.out, by omega, by unfold maxLen; omega, ?_⟩; intro ad cap9 w9 hA; have HA := Lib.hid hA; clear hA) | fail)
          go_roundw
          case rel =>
            have hap : ∀ b, (Value.slice va m.length vc).ownBlock = some b → ¬ OpBlk (({ PO.mk0 0 T with r := p } : PO), (⟨pa, pc, none, 0, none, 0⟩ : Lie)) b := fun b hb hq => by
              have h1 := HdisB.out b hb
              have h2 : wy.heap.size ≤ b := by rcases hq with hq | hq | hq; exact Hlw.out b hq; cases hq; cases hq
              omega
            have hops9 := Hopsr.out.app (p := (({ PO.mk0 0 T with r := p } : PO), (⟨pa, pc, none, 0, none, 0⟩ : Lie))) Hownr.out hap Hmr2.out.size HA.out
            refine ⟨j + 1, m ++ [(({ PO.mk0 0 T with r := p } : PO), (⟨pa, pc, none, 0, none, 0⟩ : Lie))], ad, cap9, by go_num, hlt, by rw [List.length_append]; rfl, hops9, by rw [List.length_append, List.length_singleton]; omega, fun p hp => ?_, Hmr2.out.upon HA.out.2.1 (fun b hb => .inr (Hopsr.out.vb b hb))⟩
            rcases List.mem_append.1 hp with hp | hp
            · exact Htall.out p hp
            · obtain rfl := List.mem_singleton.1 hp
              exact Htm.out
          case measure => simp [intOf]; omega
      · have hev := ev7_at wy.drew o.esc (.slice ea o.es.length ec) o.es ((Hxy.out.e).mod (Mod.refl (fun _ => False) wy).drew (fun _ _ h => h)) (by have h1 : o.es.length ≤ 12 := Hli.out.es; omega) (by have h1 : o.esc.size ≤ 60 := Hli.out.esc; omega) (fun x hx => newL_bound hx (fun a ha => by have h1 := (Hx.out.es a ha).1; unfold maxLen at h1; omega))
        have hwho : o.who.size ≤ 60 := Hli.out.who
        have Hev := Lib.hid hev
        clear hev
        go_wp2_with (first | ((with_reducible refine wpList_load_lit 119 (.tmp 13) ?_); refine ⟨g, off + j * 18, rfl, opCells o ⟨ra, rc, ea, ec, fa, fc⟩, Hf.out, by kernel_rfl, by kernel_rfl, ?_⟩) | ((with_reducible refine wpList_store_lit 119 (.tmp 5) (.tmp 14) ?_); refine ⟨rfl, opCells o ⟨ra, rc, ea, ec, fa, fc⟩, rfl, rfl, by kernel_rfl, rfl, ?_⟩; rw [Hwz.out]) | ((with_reducible refine wpList_store_lit 119 (.tmp 6) (.tmp 23) ?_); refine ⟨rfl, [.int .i64 1, .int .i64 T, .string ⟨#[]⟩, .int .i64 0, .int .i64 0, .string ⟨#[]⟩, .int .i64 0, .string ⟨#[]⟩, .slice none 0 0, .string ⟨#[]⟩, .int .i64 0, .string ⟨#[]⟩, .slice none 0 0, .string ⟨#[]⟩, .slice none 0 0, .int .i64 0, .int .i64 0, .int .i64 0], rfl, rfl, by kernel_rfl, rfl, ?_⟩; rw [Hwy.out]) | fail)
        have hS : (fun y : World => y.cell? ⟨wr.heap.size, 2, none⟩ = some (.string o.who) ∧ y.cell? ⟨wr.heap.size, 11, none⟩ = some (.string o.esc) ∧ y.cell? ⟨wr.heap.size, 12, none⟩ = some (.slice ea o.es.length ec)) wy.drew := ⟨cell_of (heap_drew_ Hgo.out) rfl, cell_of (heap_drew_ Hgo.out) rfl, cell_of (heap_drew_ Hgo.out) rfl⟩
        refine wp_region_script [.rd 0, .rd 1, .rd 2, .rd 3, .rd 4, .rd 5, .rd 6, .rd 7, .rd 9, .go 8, .go 10, .rd 11, .go 12] [0, 1, 2, 3, 4, 5, 6, 7, 8, 9] (fun y : World => y.cell? ⟨wr.heap.size, 2, none⟩ = some (.string o.who) ∧ y.cell? ⟨wr.heap.size, 11, none⟩ = some (.string o.esc) ∧ y.cell? ⟨wr.heap.size, 12, none⟩ = some (.slice ea o.es.length ec)) (by kernel_rfl) (by kernel_rfl) (fun _ _ d _ _ h => (by cases d <;> exact h)) ?_
        refine walk_rd rfl ?_ (fun _ => hS) ?_ (fun w0 h0 => ?_) (fun K hK => ?_)
        · (try simp only [List.getElem_toArray]); (try simp only [List.getElem_cons_succ]); (try simp only [List.getElem_cons_zero])
          go_simp; done
        rotate_left
        · (try simp only [List.getElem_toArray]); (try simp only [List.getElem_cons_succ]); (try simp only [List.getElem_cons_zero])
          first
            | (obtain ⟨f0, f1, f2⟩ := h0 rfl; clear h0; go_simp; with_reducible rfl)
            | (clear h0; go_simp; with_reducible rfl)
        (try simp only [List.getElem_toArray]); (try simp only [List.getElem_cons_succ]); (try simp only [List.getElem_cons_zero])
        go_simp; refine hK _ ?_; clear hK K
        refine walk_rd rfl ?_ (fun _ => hS) ?_ (fun w0 h0 => ?_) (fun K hK => ?_)
        · (try simp only [List.getElem_toArray]); (try simp only [List.getElem_cons_succ]); (try simp only [List.getElem_cons_zero])
          go_simp; done
        rotate_left
        · (try simp only [List.getElem_toArray]); (try simp only [List.getElem_cons_succ]); (try simp only [List.getElem_cons_zero])
          first
            | (obtain ⟨f0, f1, f2⟩ := h0 rfl; clear h0; go_simp; with_reducible rfl)
            | (clear h0; go_simp; with_reducible rfl)
        (try simp only [List.getElem_toArray]); (try simp only [List.getElem_cons_succ]); (try simp only [List.getElem_cons_zero])
        go_simp; refine hK _ ?_; clear hK K
        refine walk_rd rfl ?_ (fun _ => hS) ?_ (fun w0 h0 => ?_) (fun K hK => ?_)
        · (try simp only [List.getElem_toArray]); (try simp only [List.getElem_cons_succ]); (try simp only [List.getElem_cons_zero])
          go_simp; done
        rotate_left
        · (try simp only [List.getElem_toArray]); (try simp only [List.getElem_cons_succ]); (try simp only [List.getElem_cons_zero])
          first
            | (obtain ⟨f0, f1, f2⟩ := h0 rfl; clear h0; go_simp; with_reducible rfl)
            | (clear h0; go_simp; with_reducible rfl)
        (try simp only [List.getElem_toArray]); (try simp only [List.getElem_cons_succ]); (try simp only [List.getElem_cons_zero])
        go_simp; refine hK _ ?_; clear hK K
        refine walk_rd rfl ?_ (fun _ => hS) ?_ (fun w0 h0 => ?_) (fun K hK => ?_)
        · (try simp only [List.getElem_toArray]); (try simp only [List.getElem_cons_succ]); (try simp only [List.getElem_cons_zero])
          go_simp; done
        rotate_left
        · (try simp only [List.getElem_toArray]); (try simp only [List.getElem_cons_succ]); (try simp only [List.getElem_cons_zero])
          first
            | (obtain ⟨f0, f1, f2⟩ := h0 rfl; clear h0; go_simp; with_reducible rfl)
            | (clear h0; go_simp; with_reducible rfl)
        (try simp only [List.getElem_toArray]); (try simp only [List.getElem_cons_succ]); (try simp only [List.getElem_cons_zero])
        go_simp; refine hK _ ?_; clear hK K
        refine walk_rd rfl ?_ (fun _ => hS) ?_ (fun w0 h0 => ?_) (fun K hK => ?_)
        · (try simp only [List.getElem_toArray]); (try simp only [List.getElem_cons_succ]); (try simp only [List.getElem_cons_zero])
          go_simp; done
        rotate_left
        · (try simp only [List.getElem_toArray]); (try simp only [List.getElem_cons_succ]); (try simp only [List.getElem_cons_zero])
          first
            | (obtain ⟨f0, f1, f2⟩ := h0 rfl; clear h0; go_simp; with_reducible rfl)
            | (clear h0; go_simp; with_reducible rfl)
        (try simp only [List.getElem_toArray]); (try simp only [List.getElem_cons_succ]); (try simp only [List.getElem_cons_zero])
        go_simp; refine hK _ ?_; clear hK K
        refine walk_rd rfl ?_ (fun _ => hS) ?_ (fun w0 h0 => ?_) (fun K hK => ?_)
        · (try simp only [List.getElem_toArray]); (try simp only [List.getElem_cons_succ]); (try simp only [List.getElem_cons_zero])
          go_simp; done
        rotate_left
        · (try simp only [List.getElem_toArray]); (try simp only [List.getElem_cons_succ]); (try simp only [List.getElem_cons_zero])
          first
            | (obtain ⟨f0, f1, f2⟩ := h0 rfl; clear h0; go_simp; with_reducible rfl)
            | (clear h0; go_simp; with_reducible rfl)
        (try simp only [List.getElem_toArray]); (try simp only [List.getElem_cons_succ]); (try simp only [List.getElem_cons_zero])
        go_simp; refine hK _ ?_; clear hK K
        refine walk_rd rfl ?_ (fun _ => hS) ?_ (fun w0 h0 => ?_) (fun K hK => ?_)
        · (try simp only [List.getElem_toArray]); (try simp only [List.getElem_cons_succ]); (try simp only [List.getElem_cons_zero])
          go_simp; done
        rotate_left
        · (try simp only [List.getElem_toArray]); (try simp only [List.getElem_cons_succ]); (try simp only [List.getElem_cons_zero])
          first
            | (obtain ⟨f0, f1, f2⟩ := h0 rfl; clear h0; go_simp; with_reducible rfl)
            | (clear h0; go_simp; with_reducible rfl)
        (try simp only [List.getElem_toArray]); (try simp only [List.getElem_cons_succ]); (try simp only [List.getElem_cons_zero])
        go_simp; refine hK _ ?_; clear hK K
        refine walk_rd rfl ?_ (fun _ => hS) ?_ (fun w0 h0 => ?_) (fun K hK => ?_)
        · (try simp only [List.getElem_toArray]); (try simp only [List.getElem_cons_succ]); (try simp only [List.getElem_cons_zero])
          go_simp; done
        rotate_left
        · (try simp only [List.getElem_toArray]); (try simp only [List.getElem_cons_succ]); (try simp only [List.getElem_cons_zero])
          first
            | (obtain ⟨f0, f1, f2⟩ := h0 rfl; clear h0; go_simp; with_reducible rfl)
            | (clear h0; go_simp; with_reducible rfl)
        (try simp only [List.getElem_toArray]); (try simp only [List.getElem_cons_succ]); (try simp only [List.getElem_cons_zero])
        go_simp; refine hK _ ?_; clear hK K
        refine walk_rd rfl ?_ (fun h => absurd h (by decide)) ?_ (fun w0 h0 => ?_) (fun K hK => ?_)
        · (try simp only [List.getElem_toArray]); (try simp only [List.getElem_cons_succ]); (try simp only [List.getElem_cons_zero])
          go_simp; done
        rotate_left
        · (try simp only [List.getElem_toArray]); (try simp only [List.getElem_cons_succ]); (try simp only [List.getElem_cons_zero])
          (clear h0; go_simp; with_reducible rfl)
        (try simp only [List.getElem_toArray]); (try simp only [List.getElem_cons_succ]); (try simp only [List.getElem_cons_zero])
        go_simp; refine hK _ ?_; clear hK K
        refine walk_one (go_yes rfl ?_ (fun K hK => ?_))
        · (try simp only [List.getElem_toArray]); (try simp only [List.getElem_cons_succ]); (try simp only [List.getElem_cons_zero])
          go_simp; done
        go_wp2_with fail
        refine Hev.out.mono ?_
        rintro e w3 ⟨av, rfl, hoa, hob, hm3⟩
        refine hK _ _ (fun _ h => ⟨hm3.cell h.1 (fun h => h), hm3.cell h.2.1 (fun h => h), hm3.cell h.2.2 (fun h => h)⟩) ?_
        clear hK K hS
        obtain ⟨aa, ac, rfl, -⟩ := hoa.shape
        have hmy3 : Mod (fun _ => False) wy w3 := ((Mod.refl (fun _ => False) wy).drew).trans hm3 (fun _ _ h => h)
        have hg3 := hmy3.heap Hgwy.out (fun h => h)
        have x2 : w3.cell? ⟨wz.heap.size, 2, none⟩ = some (.string ⟨#[]⟩) := cell_of hg3 rfl
        have y2 : w3.frozen? ⟨wz.heap.size, 2, none⟩ = false := fr_of hg3
        have Hoa := Lib.hid hoa
        have Hob := Lib.hid hob
        have Hm3 := Lib.hid hm3
        have Hmy3 := Lib.hid hmy3
        have Hg3 := Lib.hid hg3
        clear hoa hob hm3 hmy3 hg3
        refine walk_one (go_yes rfl ?_ (fun K hK => ?_))
        · (try simp only [List.getElem_toArray]); (try simp only [List.getElem_cons_succ]); (try simp only [List.getElem_cons_zero])
          go_simp; done
        (try simp only [List.getElem_toArray]); (try simp only [List.getElem_cons_succ]); (try simp only [List.getElem_cons_zero])
        go_simp
        refine hK _ _ (fun h => absurd h (by decide)) ?_
        clear hK K x2 y2
        obtain ⟨w4, hw4⟩ : ∃ w4 : World, w3.setCell ⟨wz.heap.size, 2, none⟩ (.string o.who) = w4 := ⟨_, rfl⟩
        have hm4 : Mod (fun k => k = wz.heap.size) w3 w4 := hw4 ▸ (Mod.refl (fun k => k = wz.heap.size) w3).setCell (fun _ => rfl) _
        have hg4 : w4.heap[wz.heap.size]? = some (.cells (opCells ({ PO.mk0 1 T with who := o.who } : PO) ⟨none, 0, none, 0, none, 0⟩).toArray 119 (0, 0)) := hw4 ▸ heap_set Hg3.out
        rw [hw4]
        have Hm4 := Lib.hid hm4
        have Hg4 := Lib.hid hg4
        clear hm4 hg4 hw4
        refine walk_rd rfl ?_ (fun h => absurd h (by decide)) ?_ (fun w0 h0 => ?_) (fun K hK => ?_)
        · (try simp only [List.getElem_toArray]); (try simp only [List.getElem_cons_succ]); (try simp only [List.getElem_cons_zero])
          go_simp; done
        rotate_left
        · (try simp only [List.getElem_toArray]); (try simp only [List.getElem_cons_succ]); (try simp only [List.getElem_cons_zero])
          (clear h0; go_simp; with_reducible rfl)
        (try simp only [List.getElem_toArray]); (try simp only [List.getElem_cons_succ]); (try simp only [List.getElem_cons_zero])
        go_simp; refine hK _ ?_; clear hK K
        refine walk_one (go_yes rfl ?_ (fun K hK => ?_))
        · (try simp only [List.getElem_toArray]); (try simp only [List.getElem_cons_succ]); (try simp only [List.getElem_cons_zero])
          go_simp; done
        refine wp_store_atG 32 (.tmp 83) (.tmp 81) rfl wz.heap.size 11 rfl _ _ Hg4.out [.string (ev7S o.esc), .slice aa (ev7L o.es).length ac] rfl (Nat.le_of_ble_eq_true rfl) (by kernel_rfl) (fun u hu => List.all_eq_true.1 (show ([.string (ev7S o.esc), .slice aa (ev7L o.es).length ac] : List Value).all (·.oneCell') = true from rfl) u hu) ?_
        obtain ⟨w6, hw6⟩ : ∃ q, w4.setRow wz.heap.size (((opCells ({ PO.mk0 1 T with who := o.who } : PO) ⟨none, 0, none, 0, none, 0⟩).toArray.toList.take 11 ++ [Value.string (ev7S o.esc), Value.slice aa (ev7L o.es).length ac] ++ (opCells ({ PO.mk0 1 T with who := o.who } : PO) ⟨none, 0, none, 0, none, 0⟩).toArray.toList.drop (11 + [Value.string (ev7S o.esc), Value.slice aa (ev7L o.es).length ac].length)).toArray) = q := ⟨_, rfl⟩
        have hg6 : w6.heap[wz.heap.size]? = some (.cells (opCells ({ PO.mk0 1 T with who := o.who, esc := ev7S o.esc, es := ev7L o.es } : PO) (⟨none, 0, aa, ac, none, 0⟩ : Lie)).toArray 119 (0, 0)) := hw6 ▸ setRow_heap w4 wz.heap.size _ _ _ (0, 0) Hg4.out
        have hm6 : Mod (fun k => k = wz.heap.size) w4 w6 := hw6 ▸ (Mod.refl (fun k => k = wz.heap.size) w4).setRow (fun _ => rfl) _
        rw [hw6]
        refine hK _ _ (fun h => absurd h (by decide)) ?_
        clear hK K
        refine walk_nil ?_
        have hm36 := Hm4.out.trans hm6 (fun _ _ h => h)
        have ho6 := Hoa.out.mod hm36 (fun b hb (hk : b = wz.heap.size) => by have h1 := Hob.out b hb; have h2 : wy.drew.heap.size = wy.heap.size := rfl; omega)
        have hmr6 := (Hmry.out.trans Hmy3.out (fun _ _ h => h)).upon hm36 (fun k hk => .inr (by have hk : k = wz.heap.size := hk; omega))
        have hlw : ∀ b, (Value.slice aa (ev7L o.es).length ac).ownBlock = some b → wy.heap.size ≤ b := fun b hb => Hob.out b hb
        have hgq : w6.heap[wz.heap.size]? = some (.cells (opCells ({ PO.mk0 1 T with who := o.who, esc := ev7S o.esc, es := ev7L o.es } : PO) (⟨none, 0, aa, ac, none, 0⟩ : Lie)).toArray 119 (0, 0)) := hg6
        have Hgq := Lib.hid hgq
        have hmrq : Mod (fun _ => False) wr w6 := hmr6
        have hownq : OpOwn w6 w.heap.size ({ PO.mk0 1 T with who := o.who, esc := ev7S o.esc, es := ev7L o.es } : PO) (⟨none, 0, aa, ac, none, 0⟩ : Lie) := ⟨OwnSl.nil _ _ _, ho6, OwnSl.nil _ _ _, fun b hb => (by cases hb), fun b hb => Nat.le_trans (by omega) (hlw b hb), fun b hb => (by cases hb)⟩
        have Htm := Lib.hid (tamed_1 hT1 hwho o.esc o.es (fun a ha => (Hx.out.es a ha).2.2) : Tamed ({ PO.mk0 1 T with who := o.who, esc := ev7S o.esc, es := ev7L o.es } : PO))
        obtain ⟨wr2, hwr2, hrz, hone, hopsr, hownr, hmr2⟩ := tame_tail (Hops.out.mod hmrq (fun _ h => h.elim)) hownq
        have Hwr2 := Lib.hid hwr2
        have Hrz := Lib.hid hrz
        have Hone := Lib.hid hone
        have Hopsr := Lib.hid hopsr
        have Hownr := Lib.hid hownr
        have Hmr2 := Lib.hid (Hmr.out.trans (hmrq.trans hmr2 (fun _ _ h => h)) (fun _ _ h => h))
        clear hgq hmrq hownq hwr2 hrz hone hopsr hownr hmr2
        have Hlw := Lib.hid hlw
        clear hg6 hm6 hw6 hm36 ho6 hmr6 hlw
        go_wp2_with (first | ((with_reducible refine wpList_load_lit 119 (.tmp 6) ?_); refine ⟨wz.heap.size, 0, rfl, opCells ({ PO.mk0 1 T with who := o.who, esc := ev7S o.esc, es := ev7L o.es } : PO) (⟨none, 0, aa, ac, none, 0⟩ : Lie), CellsAt.row Hgq.out, by kernel_rfl, by kernel_rfl, ?_⟩) | ((with_reducible refine wpList_build_one_lit 66 (.tmp 103) ?_); refine ⟨119, 18, Tryz.underlying66, by kernel_rfl, by kernel_rfl, by decide, by decide, opCells ({ PO.mk0 1 T with who := o.who, esc := ev7S o.esc, es := ev7L o.es } : PO) (⟨none, 0, aa, ac, none, 0⟩ : Lie), rfl, rfl, ?_⟩; rw [Hwr2.out]) | ((with_reducible refine wpList_append_lit (.tmp 102) (.tmp 104) 66 ?_); refine ⟨rfl, 119, 18, 240, ops_T, .slice va m.length vc, m.length, opsCells m, rfl, Hopsr.out.own, _, 1, opCells ({ PO.mk0 1 T with who := o.who, esc := ev7S o.esc, es := ev7L o.es } : PO) (⟨none, 0, aa, ac, none, 0⟩ : Lie), rfl, Hrz.out, Hone.out, by omega, by unfold maxLen; omega, ?_⟩; intro ad cap9 w9 hA; have HA := Lib.hid hA; clear hA) | fail)
        go_roundw
        case rel =>
          have hap : ∀ b, (Value.slice va m.length vc).ownBlock = some b → ¬ OpBlk (({ PO.mk0 1 T with who := o.who, esc := ev7S o.esc, es := ev7L o.es } : PO), (⟨none, 0, aa, ac, none, 0⟩ : Lie)) b := fun b hb hq => by
            have h1 := HdisB.out b hb
            have h2 : wy.heap.size ≤ b := by rcases hq with hq | hq | hq; cases hq; exact Hlw.out b hq; cases hq
            omega
          have hops9 := Hopsr.out.app (p := (({ PO.mk0 1 T with who := o.who, esc := ev7S o.esc, es := ev7L o.es } : PO), (⟨none, 0, aa, ac, none, 0⟩ : Lie))) Hownr.out hap Hmr2.out.size HA.out
          refine ⟨j + 1, m ++ [(({ PO.mk0 1 T with who := o.who, esc := ev7S o.esc, es := ev7L o.es } : PO), (⟨none, 0, aa, ac, none, 0⟩ : Lie))], ad, cap9, by go_num, hlt, by rw [List.length_append]; rfl, hops9, by rw [List.length_append, List.length_singleton]; omega, fun p hp => ?_, Hmr2.out.upon HA.out.2.1 (fun b hb => .inr (Hopsr.out.vb b hb))⟩
          rcases List.mem_append.1 hp with hp | hp
          · exact Htall.out p hp
          · obtain rfl := List.mem_singleton.1 hp
            exact Htm.out
        case measure => simp [intOf]; omega
      · have hrf : filRight o.fsc o.fs = true := Hrt.out.1
        obtain ⟨bs1, bs2, bs3⟩ := fil_bounds hrf
        have hwho : o.who.size ≤ 60 := Hli.out.who
        have hno := norm_at w0 wy.drew (Hl.out.mod0 (Hmy.out.trans ((Mod.refl (fun _ => False) wy).drew) (fun _ _ h => h))) o.fsc (.slice fa o.fs.length fc) o.fs ((Hxy.out.f).mod (Mod.refl (fun _ => False) wy).drew (fun _ _ h => h)) (by omega) (fun c hc => ⟨⟨(Hx.out.fs c hc).2.1, (Hx.out.fs c hc).2.2, by have := (bs3 c hc).2.2.2; omega⟩, by have := (bs3 c hc).1; omega⟩)
        have Hno := Lib.hid hno
        have Hrf := Lib.hid hrf
        have Bs3 := Lib.hid bs3
        clear hno hrf bs3
        go_wp2_with (first | ((with_reducible refine wpList_load_lit 119 (.tmp 13) ?_); refine ⟨g, off + j * 18, rfl, opCells o ⟨ra, rc, ea, ec, fa, fc⟩, Hf.out, by kernel_rfl, by kernel_rfl, ?_⟩) | ((with_reducible refine wpList_store_lit 119 (.tmp 5) (.tmp 14) ?_); refine ⟨rfl, opCells o ⟨ra, rc, ea, ec, fa, fc⟩, rfl, rfl, by kernel_rfl, rfl, ?_⟩; rw [Hwz.out]) | ((with_reducible refine wpList_store_lit 119 (.tmp 6) (.tmp 23) ?_); refine ⟨rfl, [.int .i64 2, .int .i64 T, .string ⟨#[]⟩, .int .i64 0, .int .i64 0, .string ⟨#[]⟩, .int .i64 0, .string ⟨#[]⟩, .slice none 0 0, .string ⟨#[]⟩, .int .i64 0, .string ⟨#[]⟩, .slice none 0 0, .string ⟨#[]⟩, .slice none 0 0, .int .i64 0, .int .i64 0, .int .i64 0], rfl, rfl, by kernel_rfl, rfl, ?_⟩; rw [Hwy.out]) | fail)
        have hS : (fun y : World => y.cell? ⟨wr.heap.size, 2, none⟩ = some (.string o.who) ∧ y.cell? ⟨wr.heap.size, 13, none⟩ = some (.string o.fsc) ∧ y.cell? ⟨wr.heap.size, 14, none⟩ = some (.slice fa o.fs.length fc)) wy.drew := ⟨cell_of (heap_drew_ Hgo.out) rfl, cell_of (heap_drew_ Hgo.out) rfl, cell_of (heap_drew_ Hgo.out) rfl⟩
        refine wp_region_script [.rd 0, .rd 1, .rd 2, .rd 3, .rd 5, .go 4, .go 6, .rd 7, .go 8] [0, 1, 2, 3, 4, 5] (fun y : World => y.cell? ⟨wr.heap.size, 2, none⟩ = some (.string o.who) ∧ y.cell? ⟨wr.heap.size, 13, none⟩ = some (.string o.fsc) ∧ y.cell? ⟨wr.heap.size, 14, none⟩ = some (.slice fa o.fs.length fc)) (by kernel_rfl) (by kernel_rfl) (fun _ _ d _ _ h => (by cases d <;> exact h)) ?_
        refine walk_rd rfl ?_ (fun _ => hS) ?_ (fun w0 h0 => ?_) (fun K hK => ?_)
        · (try simp only [List.getElem_toArray]); (try simp only [List.getElem_cons_succ]); (try simp only [List.getElem_cons_zero])
          go_simp; done
        rotate_left
        · (try simp only [List.getElem_toArray]); (try simp only [List.getElem_cons_succ]); (try simp only [List.getElem_cons_zero])
          first
            | (obtain ⟨f0, f1, f2⟩ := h0 rfl; clear h0; go_simp; with_reducible rfl)
            | (clear h0; go_simp; with_reducible rfl)
        (try simp only [List.getElem_toArray]); (try simp only [List.getElem_cons_succ]); (try simp only [List.getElem_cons_zero])
        go_simp; refine hK _ ?_; clear hK K
        refine walk_rd rfl ?_ (fun _ => hS) ?_ (fun w0 h0 => ?_) (fun K hK => ?_)
        · (try simp only [List.getElem_toArray]); (try simp only [List.getElem_cons_succ]); (try simp only [List.getElem_cons_zero])
          go_simp; done
        rotate_left
        · (try simp only [List.getElem_toArray]); (try simp only [List.getElem_cons_succ]); (try simp only [List.getElem_cons_zero])
          first
            | (obtain ⟨f0, f1, f2⟩ := h0 rfl; clear h0; go_simp; with_reducible rfl)
            | (clear h0; go_simp; with_reducible rfl)
        (try simp only [List.getElem_toArray]); (try simp only [List.getElem_cons_succ]); (try simp only [List.getElem_cons_zero])
        go_simp; refine hK _ ?_; clear hK K
        refine walk_rd rfl ?_ (fun _ => hS) ?_ (fun w0 h0 => ?_) (fun K hK => ?_)
        · (try simp only [List.getElem_toArray]); (try simp only [List.getElem_cons_succ]); (try simp only [List.getElem_cons_zero])
          go_simp; done
        rotate_left
        · (try simp only [List.getElem_toArray]); (try simp only [List.getElem_cons_succ]); (try simp only [List.getElem_cons_zero])
          first
            | (obtain ⟨f0, f1, f2⟩ := h0 rfl; clear h0; go_simp; with_reducible rfl)
            | (clear h0; go_simp; with_reducible rfl)
        (try simp only [List.getElem_toArray]); (try simp only [List.getElem_cons_succ]); (try simp only [List.getElem_cons_zero])
        go_simp; refine hK _ ?_; clear hK K
        refine walk_rd rfl ?_ (fun _ => hS) ?_ (fun w0 h0 => ?_) (fun K hK => ?_)
        · (try simp only [List.getElem_toArray]); (try simp only [List.getElem_cons_succ]); (try simp only [List.getElem_cons_zero])
          go_simp; done
        rotate_left
        · (try simp only [List.getElem_toArray]); (try simp only [List.getElem_cons_succ]); (try simp only [List.getElem_cons_zero])
          first
            | (obtain ⟨f0, f1, f2⟩ := h0 rfl; clear h0; go_simp; with_reducible rfl)
            | (clear h0; go_simp; with_reducible rfl)
        (try simp only [List.getElem_toArray]); (try simp only [List.getElem_cons_succ]); (try simp only [List.getElem_cons_zero])
        go_simp; refine hK _ ?_; clear hK K
        refine walk_rd rfl ?_ (fun h => absurd h (by decide)) ?_ (fun w0 h0 => ?_) (fun K hK => ?_)
        · (try simp only [List.getElem_toArray]); (try simp only [List.getElem_cons_succ]); (try simp only [List.getElem_cons_zero])
          go_simp; done
        rotate_left
        · (try simp only [List.getElem_toArray]); (try simp only [List.getElem_cons_succ]); (try simp only [List.getElem_cons_zero])
          (clear h0; go_simp; with_reducible rfl)
        (try simp only [List.getElem_toArray]); (try simp only [List.getElem_cons_succ]); (try simp only [List.getElem_cons_zero])
        go_simp; refine hK _ ?_; clear hK K
        refine walk_one (go_yes rfl ?_ (fun K hK => ?_))
        · (try simp only [List.getElem_toArray]); (try simp only [List.getElem_cons_succ]); (try simp only [List.getElem_cons_zero])
          go_simp; done
        go_wp2_with fail
        refine Hno.out.mono ?_
        rintro e w3 ⟨na, nc, rfl, hoa, hob, hm3⟩
        refine hK _ _ (fun _ h => ⟨hm3.cell h.1 (fun h => h), hm3.cell h.2.1 (fun h => h), hm3.cell h.2.2 (fun h => h)⟩) ?_
        clear hK K hS
        have hmy3 : Mod (fun _ => False) wy w3 := ((Mod.refl (fun _ => False) wy).drew).trans hm3 (fun _ _ h => h)
        have hg3 := hmy3.heap Hgwy.out (fun h => h)
        have x2 : w3.cell? ⟨wz.heap.size, 2, none⟩ = some (.string ⟨#[]⟩) := cell_of hg3 rfl
        have y2 : w3.frozen? ⟨wz.heap.size, 2, none⟩ = false := fr_of hg3
        have Hoa := Lib.hid hoa
        have Hob := Lib.hid hob
        have Hm3 := Lib.hid hm3
        have Hmy3 := Lib.hid hmy3
        have Hg3 := Lib.hid hg3
        clear hoa hob hm3 hmy3 hg3
        refine walk_one (go_yes rfl ?_ (fun K hK => ?_))
        · (try simp only [List.getElem_toArray]); (try simp only [List.getElem_cons_succ]); (try simp only [List.getElem_cons_zero])
          go_simp; done
        (try simp only [List.getElem_toArray]); (try simp only [List.getElem_cons_succ]); (try simp only [List.getElem_cons_zero])
        go_simp
        refine hK _ _ (fun h => absurd h (by decide)) ?_
        clear hK K x2 y2
        obtain ⟨w4, hww4⟩ : ∃ q : World, w3.setCell ⟨wz.heap.size, 2, none⟩ (.string o.who) = q := ⟨_, rfl⟩
        have hmw4 : Mod (fun k => k = wz.heap.size) w3 w4 := hww4 ▸ (Mod.refl (fun k => k = wz.heap.size) w3).setCell (fun _ => rfl) _
        have hgw4 : w4.heap[wz.heap.size]? = some (.cells (opCells ({ PO.mk0 2 T with who := o.who } : PO) ⟨none, 0, none, 0, none, 0⟩).toArray 119 (0, 0)) := hww4 ▸ heap_set Hg3.out
        rw [hww4]
        have Hmw4 := Lib.hid hmw4
        have Hgw4 := Lib.hid hgw4
        clear hmw4 hgw4 hww4
        refine walk_rd rfl ?_ (fun h => absurd h (by decide)) ?_ (fun w0 h0 => ?_) (fun K hK => ?_)
        · (try simp only [List.getElem_toArray]); (try simp only [List.getElem_cons_succ]); (try simp only [List.getElem_cons_zero])
          go_simp; done
        rotate_left
        · (try simp only [List.getElem_toArray]); (try simp only [List.getElem_cons_succ]); (try simp only [List.getElem_cons_zero])
          (clear h0; go_simp; with_reducible rfl)
        (try simp only [List.getElem_toArray]); (try simp only [List.getElem_cons_succ]); (try simp only [List.getElem_cons_zero])
        go_simp; refine hK _ ?_; clear hK K
        refine walk_one (go_yes rfl ?_ (fun K hK => ?_))
        · (try simp only [List.getElem_toArray]); (try simp only [List.getElem_cons_succ]); (try simp only [List.getElem_cons_zero])
          go_simp; done
        refine wp_store_atG 29 (.tmp 92) (.tmp 90) rfl wz.heap.size 13 rfl _ _ Hgw4.out [.string o.fsc, .slice na (normC o.fs).length nc] rfl (Nat.le_of_ble_eq_true rfl) (by kernel_rfl) (fun u hu => List.all_eq_true.1 (show ([.string o.fsc, .slice na (normC o.fs).length nc] : List Value).all (·.oneCell') = true from rfl) u hu) ?_
        obtain ⟨w6, hw6⟩ : ∃ q, w4.setRow wz.heap.size (((opCells ({ PO.mk0 2 T with who := o.who } : PO) ⟨none, 0, none, 0, none, 0⟩).toArray.toList.take 13 ++ [Value.string o.fsc, Value.slice na (normC o.fs).length nc] ++ (opCells ({ PO.mk0 2 T with who := o.who } : PO) ⟨none, 0, none, 0, none, 0⟩).toArray.toList.drop (13 + [Value.string o.fsc, Value.slice na (normC o.fs).length nc].length)).toArray) = q := ⟨_, rfl⟩
        have hg6 : w6.heap[wz.heap.size]? = some (.cells (opCells ({ PO.mk0 2 T with who := o.who, fsc := o.fsc, fs := normC o.fs } : PO) (⟨none, 0, none, 0, na, nc⟩ : Lie)).toArray 119 (0, 0)) := hw6 ▸ setRow_heap w4 wz.heap.size _ _ _ (0, 0) Hgw4.out
        have hm6 : Mod (fun k => k = wz.heap.size) w4 w6 := hw6 ▸ (Mod.refl (fun k => k = wz.heap.size) w4).setRow (fun _ => rfl) _
        rw [hw6]
        refine hK _ _ (fun h => absurd h (by decide)) ?_
        clear hK K
        refine walk_nil ?_
        have hm36 := Hmw4.out.trans hm6 (fun _ _ h => h)
        have ho6 := Hoa.out.mod hm36 (fun b hb (hk : b = wz.heap.size) => by have h1 := Hob.out b hb; have h2 : wy.drew.heap.size = wy.heap.size := rfl; omega)
        have hmr6 := (Hmry.out.trans Hmy3.out (fun _ _ h => h)).upon hm36 (fun k hk => .inr (by have hk : k = wz.heap.size := hk; omega))
        have hlw : ∀ b, (Value.slice na (normC o.fs).length nc).ownBlock = some b → wy.heap.size ≤ b := fun b hb => Hob.out b hb
        have hgq : w6.heap[wz.heap.size]? = some (.cells (opCells ({ PO.mk0 2 T with who := o.who, fsc := o.fsc, fs := normC o.fs } : PO) (⟨none, 0, none, 0, na, nc⟩ : Lie)).toArray 119 (0, 0)) := hg6
        have Hgq := Lib.hid hgq
        have hmrq : Mod (fun _ => False) wr w6 := hmr6
        have hownq : OpOwn w6 w.heap.size ({ PO.mk0 2 T with who := o.who, fsc := o.fsc, fs := normC o.fs } : PO) (⟨none, 0, none, 0, na, nc⟩ : Lie) := ⟨OwnSl.nil _ _ _, OwnSl.nil _ _ _, ho6, fun b hb => (by cases hb), fun b hb => (by cases hb), fun b hb => Nat.le_trans (by omega) (hlw b hb)⟩
        have Htm := Lib.hid (tamed_2 hT1 hwho Hrf.out (fun c hc => (Hx.out.fs c hc).2) : Tamed ({ PO.mk0 2 T with who := o.who, fsc := o.fsc, fs := normC o.fs } : PO))
        obtain ⟨wr2, hwr2, hrz, hone, hopsr, hownr, hmr2⟩ := tame_tail (Hops.out.mod hmrq (fun _ h => h.elim)) hownq
        have Hwr2 := Lib.hid hwr2
        have Hrz := Lib.hid hrz
        have Hone := Lib.hid hone
        have Hopsr := Lib.hid hopsr
        have Hownr := Lib.hid hownr
        have Hmr2 := Lib.hid (Hmr.out.trans (hmrq.trans hmr2 (fun _ _ h => h)) (fun _ _ h => h))
        clear hgq hmrq hownq hwr2 hrz hone hopsr hownr hmr2
        have Hlw := Lib.hid hlw
        clear hg6 hm6 hw6 hm36 ho6 hmr6 hlw
        go_wp2_with (first | ((with_reducible refine wpList_load_lit 119 (.tmp 6) ?_); refine ⟨wz.heap.size, 0, rfl, opCells ({ PO.mk0 2 T with who := o.who, fsc := o.fsc, fs := normC o.fs } : PO) (⟨none, 0, none, 0, na, nc⟩ : Lie), CellsAt.row Hgq.out, by kernel_rfl, by kernel_rfl, ?_⟩) | ((with_reducible refine wpList_build_one_lit 66 (.tmp 103) ?_); refine ⟨119, 18, Tryz.underlying66, by kernel_rfl, by kernel_rfl, by decide, by decide, opCells ({ PO.mk0 2 T with who := o.who, fsc := o.fsc, fs := normC o.fs } : PO) (⟨none, 0, none, 0, na, nc⟩ : Lie), rfl, rfl, ?_⟩; rw [Hwr2.out]) | ((with_reducible refine wpList_append_lit (.tmp 102) (.tmp 104) 66 ?_); refine ⟨rfl, 119, 18, 240, ops_T, .slice va m.length vc, m.length, opsCells m, rfl, Hopsr.out.own, _, 1, opCells ({ PO.mk0 2 T with who := o.who, fsc := o.fsc, fs := normC o.fs } : PO) (⟨none, 0, none, 0, na, nc⟩ : Lie), rfl, Hrz.out, Hone.out, by omega, by unfold maxLen; omega, ?_⟩; intro ad cap9 w9 hA; have HA := Lib.hid hA; clear hA) | fail)
        go_roundw
        case rel =>
          have hap : ∀ b, (Value.slice va m.length vc).ownBlock = some b → ¬ OpBlk (({ PO.mk0 2 T with who := o.who, fsc := o.fsc, fs := normC o.fs } : PO), (⟨none, 0, none, 0, na, nc⟩ : Lie)) b := fun b hb hq => by
            have h1 := HdisB.out b hb
            have h2 : wy.heap.size ≤ b := by rcases hq with hq | hq | hq; cases hq; cases hq; exact Hlw.out b hq
            omega
          have hops9 := Hopsr.out.app (p := (({ PO.mk0 2 T with who := o.who, fsc := o.fsc, fs := normC o.fs } : PO), (⟨none, 0, none, 0, na, nc⟩ : Lie))) Hownr.out hap Hmr2.out.size HA.out
          refine ⟨j + 1, m ++ [(({ PO.mk0 2 T with who := o.who, fsc := o.fsc, fs := normC o.fs } : PO), (⟨none, 0, none, 0, na, nc⟩ : Lie))], ad, cap9, by go_num, hlt, by rw [List.length_append]; rfl, hops9, by rw [List.length_append, List.length_singleton]; omega, fun p hp => ?_, Hmr2.out.upon HA.out.2.1 (fun b hb => .inr (Hopsr.out.vb b hb))⟩
          rcases List.mem_append.1 hp with hp | hp
          · exact Htall.out p hp
          · obtain rfl := List.mem_singleton.1 hp
            exact Htm.out
        case measure => simp [intOf]; omega
      · obtain ⟨s, hs, hs8⟩ := and_255 o.sub
        have hwho : o.who.size ≤ 60 := Hli.out.who
        go_wp2_with (first | ((with_reducible refine wpList_load_lit 119 (.tmp 13) ?_); refine ⟨g, off + j * 18, rfl, opCells o ⟨ra, rc, ea, ec, fa, fc⟩, Hf.out, by kernel_rfl, by kernel_rfl, ?_⟩) | ((with_reducible refine wpList_store_lit 119 (.tmp 5) (.tmp 14) ?_); refine ⟨rfl, opCells o ⟨ra, rc, ea, ec, fa, fc⟩, rfl, rfl, by kernel_rfl, rfl, ?_⟩; rw [Hwz.out]) | ((with_reducible refine wpList_store_lit 119 (.tmp 6) (.tmp 23) ?_); refine ⟨rfl, [.int .i64 3, .int .i64 T, .string ⟨#[]⟩, .int .i64 0, .int .i64 0, .string ⟨#[]⟩, .int .i64 0, .string ⟨#[]⟩, .slice none 0 0, .string ⟨#[]⟩, .int .i64 0, .string ⟨#[]⟩, .slice none 0 0, .string ⟨#[]⟩, .slice none 0 0, .int .i64 0, .int .i64 0, .int .i64 0], rfl, rfl, by kernel_rfl, rfl, ?_⟩; rw [Hwy.out]) | fail)
        obtain ⟨wd, hwd⟩ : ∃ wd : World, wy.drew = wd := ⟨_, rfl⟩
        have hmd : Mod (fun _ => False) wy wd := hwd ▸ (Mod.refl (fun _ => False) wy).drew
        have hgod := hmd.heap Hgo.out (fun h => h)
        have hS : (fun y : World => y.cell? ⟨wr.heap.size, 2, none⟩ = some (.string o.who) ∧ y.cell? ⟨wr.heap.size, 15, none⟩ = some (.int .i64 o.sub)) wd := ⟨cell_of hgod rfl, cell_of hgod rfl⟩
        have hgd := hmd.heap Hgwy.out (fun h => h)
        have x2 : wd.cell? ⟨wz.heap.size, 2, none⟩ = some (.string ⟨#[]⟩) := cell_of hgd rfl
        have y2 : wd.frozen? ⟨wz.heap.size, 2, none⟩ = false := fr_of hgd
        have Hgd := Lib.hid hgd
        have Hgod := Lib.hid hgod
        have Hmd := Lib.hid hmd
        have Hwd := Lib.hid hwd
        clear hgd hgod hmd hwd
        refine wp_region_script [.rd 0, .rd 1, .rd 2, .rd 3, .rd 4, .rd 5, .go 6, .rd 7, .go 8] [0, 1, 2, 3, 4, 5, 6] (fun y : World => y.cell? ⟨wr.heap.size, 2, none⟩ = some (.string o.who) ∧ y.cell? ⟨wr.heap.size, 15, none⟩ = some (.int .i64 o.sub)) (by kernel_rfl) (by kernel_rfl) (fun _ _ d _ _ h => (by cases d <;> exact h)) ?_
        rw [Hwd.out]
        refine walk_rd rfl ?_ (fun _ => hS) ?_ (fun w0 h0 => ?_) (fun K hK => ?_)
        · (try simp only [List.getElem_toArray]); (try simp only [List.getElem_cons_succ]); (try simp only [List.getElem_cons_zero])
          go_simp; done
        rotate_left
        · (try simp only [List.getElem_toArray]); (try simp only [List.getElem_cons_succ]); (try simp only [List.getElem_cons_zero])
          first
            | (obtain ⟨f0, f1⟩ := h0 rfl; clear h0; go_simp; with_reducible rfl)
            | (clear h0; go_simp; with_reducible rfl)
        (try simp only [List.getElem_toArray]); (try simp only [List.getElem_cons_succ]); (try simp only [List.getElem_cons_zero])
        go_simp; refine hK _ ?_; clear hK K
        refine walk_rd rfl ?_ (fun _ => hS) ?_ (fun w0 h0 => ?_) (fun K hK => ?_)
        · (try simp only [List.getElem_toArray]); (try simp only [List.getElem_cons_succ]); (try simp only [List.getElem_cons_zero])
          go_simp; done
        rotate_left
        · (try simp only [List.getElem_toArray]); (try simp only [List.getElem_cons_succ]); (try simp only [List.getElem_cons_zero])
          first
            | (obtain ⟨f0, f1⟩ := h0 rfl; clear h0; go_simp; with_reducible rfl)
            | (clear h0; go_simp; with_reducible rfl)
        (try simp only [List.getElem_toArray]); (try simp only [List.getElem_cons_succ]); (try simp only [List.getElem_cons_zero])
        go_simp; refine hK _ ?_; clear hK K
        refine walk_rd rfl ?_ (fun _ => hS) ?_ (fun w0 h0 => ?_) (fun K hK => ?_)
        · (try simp only [List.getElem_toArray]); (try simp only [List.getElem_cons_succ]); (try simp only [List.getElem_cons_zero])
          go_simp; done
        rotate_left
        · (try simp only [List.getElem_toArray]); (try simp only [List.getElem_cons_succ]); (try simp only [List.getElem_cons_zero])
          first
            | (obtain ⟨f0, f1⟩ := h0 rfl; clear h0; go_simp; with_reducible rfl)
            | (clear h0; go_simp; with_reducible rfl)
        (try simp only [List.getElem_toArray]); (try simp only [List.getElem_cons_succ]); (try simp only [List.getElem_cons_zero])
        go_simp; refine hK _ ?_; clear hK K
        refine walk_rd rfl ?_ (fun _ => hS) ?_ (fun w0 h0 => ?_) (fun K hK => ?_)
        · (try simp only [List.getElem_toArray]); (try simp only [List.getElem_cons_succ]); (try simp only [List.getElem_cons_zero])
          go_simp; done
        rotate_left
        · (try simp only [List.getElem_toArray]); (try simp only [List.getElem_cons_succ]); (try simp only [List.getElem_cons_zero])
          first
            | (obtain ⟨f0, f1⟩ := h0 rfl; clear h0; go_simp; with_reducible rfl)
            | (clear h0; go_simp; with_reducible rfl)
        (try simp only [List.getElem_toArray]); (try simp only [List.getElem_cons_succ]); (try simp only [List.getElem_cons_zero])
        go_simp; refine hK _ ?_; clear hK K
        refine walk_rd rfl ?_ (fun h => absurd h (by decide)) ?_ (fun w0 h0 => ?_) (fun K hK => ?_)
        · (try simp only [List.getElem_toArray]); (try simp only [List.getElem_cons_succ]); (try simp only [List.getElem_cons_zero])
          go_simp; done
        rotate_left
        · (try simp only [List.getElem_toArray]); (try simp only [List.getElem_cons_succ]); (try simp only [List.getElem_cons_zero])
          (clear h0; go_simp; with_reducible rfl)
        (try simp only [List.getElem_toArray]); (try simp only [List.getElem_cons_succ]); (try simp only [List.getElem_cons_zero])
        go_simp; refine hK _ ?_; clear hK K
        refine walk_rd rfl ?_ (fun h => absurd h (by decide)) ?_ (fun w0 h0 => ?_) (fun K hK => ?_)
        · (try simp only [List.getElem_toArray]); (try simp only [List.getElem_cons_succ]); (try simp only [List.getElem_cons_zero])
          go_simp; done
        rotate_left
        · (try simp only [List.getElem_toArray]); (try simp only [List.getElem_cons_succ]); (try simp only [List.getElem_cons_zero])
          (clear h0; go_simp; with_reducible rfl)
        (try simp only [List.getElem_toArray]); (try simp only [List.getElem_cons_succ]); (try simp only [List.getElem_cons_zero])
        go_simp; refine hK _ ?_; clear hK K
        refine walk_one (go_yes rfl ?_ (fun K hK => ?_))
        · (try simp only [List.getElem_toArray]); (try simp only [List.getElem_cons_succ]); (try simp only [List.getElem_cons_zero])
          go_simp; done
        (try simp only [List.getElem_toArray]); (try simp only [List.getElem_cons_succ]); (try simp only [List.getElem_cons_zero])
        go_simp
        obtain ⟨w4, hww4⟩ : ∃ q : World, wd.setCell ⟨wz.heap.size, 2, none⟩ (.string o.who) = q := ⟨_, rfl⟩
        have hmw4 : Mod (fun k => k = wz.heap.size) wd w4 := hww4 ▸ (Mod.refl (fun k => k = wz.heap.size) wd).setCell (fun _ => rfl) _
        have hgw4 : w4.heap[wz.heap.size]? = some (.cells (opCells ({ PO.mk0 3 T with who := o.who } : PO) ⟨none, 0, none, 0, none, 0⟩).toArray 119 (0, 0)) := hww4 ▸ heap_set Hgd.out
        rw [hww4]
        have hgo4 := hmw4.heap Hgod.out (fun e => by have e : wr.heap.size = wz.heap.size := e; omega)
        refine hK _ _ (fun _ _ => ⟨cell_of hgo4 rfl, cell_of hgo4 rfl⟩) ?_
        clear hK K x2 y2 hS
        have x15 : w4.cell? ⟨wz.heap.size, 15, none⟩ = some (.int .i64 0) := cell_of hgw4 rfl
        have y15 : w4.frozen? ⟨wz.heap.size, 15, none⟩ = false := fr_of hgw4
        have Hmw4 := Lib.hid hmw4
        have Hgw4 := Lib.hid hgw4
        clear hmw4 hgw4 hww4 hgo4
        refine walk_rd rfl ?_ (fun h => absurd h (by decide)) ?_ (fun w0 h0 => ?_) (fun K hK => ?_)
        · (try simp only [List.getElem_toArray]); (try simp only [List.getElem_cons_succ]); (try simp only [List.getElem_cons_zero])
          go_simp; done
        rotate_left
        · (try simp only [List.getElem_toArray]); (try simp only [List.getElem_cons_succ]); (try simp only [List.getElem_cons_zero])
          (clear h0; go_simp; with_reducible rfl)
        (try simp only [List.getElem_toArray]); (try simp only [List.getElem_cons_succ]); (try simp only [List.getElem_cons_zero])
        go_simp; refine hK _ ?_; clear hK K
        refine walk_one (go_yes rfl ?_ (fun K hK => ?_))
        · (try simp only [List.getElem_toArray]); (try simp only [List.getElem_cons_succ]); (try simp only [List.getElem_cons_zero])
          go_simp; done
        (try simp only [List.getElem_toArray]); (try simp only [List.getElem_cons_succ]); (try simp only [List.getElem_cons_zero])
        go_simp
        obtain ⟨w6, hww6⟩ : ∃ q : World, w4.setCell ⟨wz.heap.size, 15, none⟩ (.int .i64 (s : Int)) = q := ⟨_, rfl⟩
        have hmw6 : Mod (fun k => k = wz.heap.size) w4 w6 := hww6 ▸ (Mod.refl (fun k => k = wz.heap.size) w4).setCell (fun _ => rfl) _
        have hgw6 : w6.heap[wz.heap.size]? = some (.cells (opCells ({ PO.mk0 3 T with who := o.who, sub := (s : Int) } : PO) ⟨none, 0, none, 0, none, 0⟩).toArray 119 (0, 0)) := hww6 ▸ heap_set Hgw4.out
        rw [hww6]
        refine hK _ _ (fun h => absurd h (by decide)) ?_
        clear hK K x15 y15
        refine walk_nil ?_
        have hm36 := Hmw4.out.trans hmw6 (fun _ _ h => h)
        have hmr6 := (Hmry.out.trans Hmd.out (fun _ _ h => h)).upon hm36 (fun k hk => .inr (by have hk : k = wz.heap.size := hk; omega))
        have hgq : w6.heap[wz.heap.size]? = some (.cells (opCells ({ PO.mk0 3 T with who := o.who, sub := (s : Int) } : PO) (⟨none, 0, none, 0, none, 0⟩ : Lie)).toArray 119 (0, 0)) := hgw6
        have Hgq := Lib.hid hgq
        have hmrq : Mod (fun _ => False) wr w6 := hmr6
        have hownq : OpOwn w6 w.heap.size ({ PO.mk0 3 T with who := o.who, sub := (s : Int) } : PO) (⟨none, 0, none, 0, none, 0⟩ : Lie) := ⟨OwnSl.nil _ _ _, OwnSl.nil _ _ _, OwnSl.nil _ _ _, fun b hb => (by cases hb), fun b hb => (by cases hb), fun b hb => (by cases hb)⟩
        have Htm := Lib.hid (tamed_3 hT1 hwho hs8 : Tamed ({ PO.mk0 3 T with who := o.who, sub := (s : Int) } : PO))
        obtain ⟨wr2, hwr2, hrz, hone, hopsr, hownr, hmr2⟩ := tame_tail (Hops.out.mod hmrq (fun _ h => h.elim)) hownq
        have Hwr2 := Lib.hid hwr2
        have Hrz := Lib.hid hrz
        have Hone := Lib.hid hone
        have Hopsr := Lib.hid hopsr
        have Hownr := Lib.hid hownr
        have Hmr2 := Lib.hid (Hmr.out.trans (hmrq.trans hmr2 (fun _ _ h => h)) (fun _ _ h => h))
        clear hgq hmrq hownq hwr2 hrz hone hopsr hownr hmr2
        clear hgw6 hmw6 hww6 hm36 hmr6
        go_wp2_with (first | ((with_reducible refine wpList_load_lit 119 (.tmp 6) ?_); refine ⟨wz.heap.size, 0, rfl, opCells ({ PO.mk0 3 T with who := o.who, sub := (s : Int) } : PO) (⟨none, 0, none, 0, none, 0⟩ : Lie), CellsAt.row Hgq.out, by kernel_rfl, by kernel_rfl, ?_⟩) | ((with_reducible refine wpList_build_one_lit 66 (.tmp 103) ?_); refine ⟨119, 18, Tryz.underlying66, by kernel_rfl, by kernel_rfl, by decide, by decide, opCells ({ PO.mk0 3 T with who := o.who, sub := (s : Int) } : PO) (⟨none, 0, none, 0, none, 0⟩ : Lie), rfl, rfl, ?_⟩; rw [Hwr2.out]) | ((with_reducible refine wpList_append_lit (.tmp 102) (.tmp 104) 66 ?_); refine ⟨rfl, 119, 18, 240, ops_T, .slice va m.length vc, m.length, opsCells m, rfl, Hopsr.out.own, _, 1, opCells ({ PO.mk0 3 T with who := o.who, sub := (s : Int) } : PO) (⟨none, 0, none, 0, none, 0⟩ : Lie), rfl, Hrz.out, Hone.out, by omega, by unfold maxLen; omega, ?_⟩; intro ad cap9 w9 hA; have HA := Lib.hid hA; clear hA) | fail)
        go_roundw
        case rel =>
          have hap : ∀ b, (Value.slice va m.length vc).ownBlock = some b → ¬ OpBlk (({ PO.mk0 3 T with who := o.who, sub := (s : Int) } : PO), (⟨none, 0, none, 0, none, 0⟩ : Lie)) b := fun b hb hq => by
            have h1 := HdisB.out b hb
            have h2 : wy.heap.size ≤ b := by rcases hq with hq | hq | hq; cases hq; cases hq; cases hq
            omega
          have hops9 := Hopsr.out.app (p := (({ PO.mk0 3 T with who := o.who, sub := (s : Int) } : PO), (⟨none, 0, none, 0, none, 0⟩ : Lie))) Hownr.out hap Hmr2.out.size HA.out
          refine ⟨j + 1, m ++ [(({ PO.mk0 3 T with who := o.who, sub := (s : Int) } : PO), (⟨none, 0, none, 0, none, 0⟩ : Lie))], ad, cap9, by go_num, hlt, by rw [List.length_append]; rfl, hops9, by rw [List.length_append, List.length_singleton]; omega, fun p hp => ?_, Hmr2.out.upon HA.out.2.1 (fun b hb => .inr (Hopsr.out.vb b hb))⟩
          rcases List.mem_append.1 hp with hp | hp
          · exact Htall.out p hp
          · obtain rfl := List.mem_singleton.1 hp
            exact Htm.out
        case measure => simp [intOf]; omega
      · obtain ⟨k, rfl⟩ : ∃ k : Nat, K = k := ⟨K.toNat, by omega⟩
        obtain ⟨x, hx8, hxl⟩ := and_255 o.frm
        obtain ⟨z, hz8, hzl⟩ := and_255 o.to_
        have n0 : ¬ (k : Int) = 0 := by omega
        have n1 : ¬ (k : Int) = 1 := by omega
        have n2 : ¬ (k : Int) = 2 := by omega
        have n3 : ¬ (k : Int) = 3 := by omega
        go_wp2_with (first | ((with_reducible refine wpList_load_lit 119 (.tmp 13) ?_); refine ⟨g, off + j * 18, rfl, opCells o ⟨ra, rc, ea, ec, fa, fc⟩, Hf.out, by kernel_rfl, by kernel_rfl, ?_⟩) | ((with_reducible refine wpList_store_lit 119 (.tmp 5) (.tmp 14) ?_); refine ⟨rfl, opCells o ⟨ra, rc, ea, ec, fa, fc⟩, rfl, rfl, by kernel_rfl, rfl, ?_⟩; rw [Hwz.out]) | ((with_reducible refine wpList_store_lit 119 (.tmp 6) (.tmp 23) ?_); refine ⟨rfl, [.int .i64 (k : Int), .int .i64 T, .string ⟨#[]⟩, .int .i64 0, .int .i64 0, .string ⟨#[]⟩, .int .i64 0, .string ⟨#[]⟩, .slice none 0 0, .string ⟨#[]⟩, .int .i64 0, .string ⟨#[]⟩, .slice none 0 0, .string ⟨#[]⟩, .slice none 0 0, .int .i64 0, .int .i64 0, .int .i64 0], rfl, rfl, by kernel_rfl, rfl, ?_⟩; rw [Hwy.out]) | fail)
        obtain ⟨wd, hwd⟩ : ∃ wd : World, wy.drew = wd := ⟨_, rfl⟩
        have hmd : Mod (fun _ => False) wy wd := hwd ▸ (Mod.refl (fun _ => False) wy).drew
        have hgod := hmd.heap Hgo.out (fun h => h)
        have hS : (fun y : World => y.cell? ⟨wr.heap.size, 16, none⟩ = some (.int .i64 o.frm) ∧ y.cell? ⟨wr.heap.size, 17, none⟩ = some (.int .i64 o.to_)) wd := ⟨cell_of hgod rfl, cell_of hgod rfl⟩
        have hgd := hmd.heap Hgwy.out (fun h => h)
        have x2 : wd.cell? ⟨wz.heap.size, 16, none⟩ = some (.int .i64 0) := cell_of hgd rfl
        have y2 : wd.frozen? ⟨wz.heap.size, 16, none⟩ = false := fr_of hgd
        have Hgd := Lib.hid hgd
        have Hgod := Lib.hid hgod
        have Hmd := Lib.hid hmd
        have Hwd := Lib.hid hwd
        clear hgd hgod hmd hwd
        refine wp_region_script [.rd 0, .rd 1, .rd 2, .rd 3, .rd 4, .rd 5, .rd 6, .go 7, .rd 8, .go 9] [0, 1, 2, 3, 4, 5, 6, 7] (fun y : World => y.cell? ⟨wr.heap.size, 16, none⟩ = some (.int .i64 o.frm) ∧ y.cell? ⟨wr.heap.size, 17, none⟩ = some (.int .i64 o.to_)) (by kernel_rfl) (by kernel_rfl) (fun _ _ d _ _ h => (by cases d <;> exact h)) ?_
        rw [Hwd.out]
        refine walk_rd rfl ?_ (fun _ => hS) ?_ (fun w0 h0 => ?_) (fun K hK => ?_)
        · (try simp only [List.getElem_toArray]); (try simp only [List.getElem_cons_succ]); (try simp only [List.getElem_cons_zero])
          go_simp; done
        rotate_left
        · (try simp only [List.getElem_toArray]); (try simp only [List.getElem_cons_succ]); (try simp only [List.getElem_cons_zero])
          first
            | (obtain ⟨f0, f1⟩ := h0 rfl; clear h0; go_simp; with_reducible rfl)
            | (clear h0; go_simp; with_reducible rfl)
        (try simp only [List.getElem_toArray]); (try simp only [List.getElem_cons_succ]); (try simp only [List.getElem_cons_zero])
        go_simp; refine hK _ ?_; clear hK K
        refine walk_rd rfl ?_ (fun _ => hS) ?_ (fun w0 h0 => ?_) (fun K hK => ?_)
        · (try simp only [List.getElem_toArray]); (try simp only [List.getElem_cons_succ]); (try simp only [List.getElem_cons_zero])
          go_simp; done
        rotate_left
        · (try simp only [List.getElem_toArray]); (try simp only [List.getElem_cons_succ]); (try simp only [List.getElem_cons_zero])
          first
            | (obtain ⟨f0, f1⟩ := h0 rfl; clear h0; go_simp; with_reducible rfl)
            | (clear h0; go_simp; with_reducible rfl)
        (try simp only [List.getElem_toArray]); (try simp only [List.getElem_cons_succ]); (try simp only [List.getElem_cons_zero])
        go_simp; refine hK _ ?_; clear hK K
        refine walk_rd rfl ?_ (fun h => absurd h (by decide)) ?_ (fun w0 h0 => ?_) (fun K hK => ?_)
        · (try simp only [List.getElem_toArray]); (try simp only [List.getElem_cons_succ]); (try simp only [List.getElem_cons_zero])
          go_simp; done
        rotate_left
        · (try simp only [List.getElem_toArray]); (try simp only [List.getElem_cons_succ]); (try simp only [List.getElem_cons_zero])
          (clear h0; go_simp; with_reducible rfl)
        (try simp only [List.getElem_toArray]); (try simp only [List.getElem_cons_succ]); (try simp only [List.getElem_cons_zero])
        go_simp; refine hK _ ?_; clear hK K
        refine walk_rd rfl ?_ (fun _ => hS) ?_ (fun w0 h0 => ?_) (fun K hK => ?_)
        · (try simp only [List.getElem_toArray]); (try simp only [List.getElem_cons_succ]); (try simp only [List.getElem_cons_zero])
          go_simp; done
        rotate_left
        · (try simp only [List.getElem_toArray]); (try simp only [List.getElem_cons_succ]); (try simp only [List.getElem_cons_zero])
          first
            | (obtain ⟨f0, f1⟩ := h0 rfl; clear h0; go_simp; with_reducible rfl)
            | (clear h0; go_simp; with_reducible rfl)
        (try simp only [List.getElem_toArray]); (try simp only [List.getElem_cons_succ]); (try simp only [List.getElem_cons_zero])
        go_simp; refine hK _ ?_; clear hK K
        refine walk_rd rfl ?_ (fun _ => hS) ?_ (fun w0 h0 => ?_) (fun K hK => ?_)
        · (try simp only [List.getElem_toArray]); (try simp only [List.getElem_cons_succ]); (try simp only [List.getElem_cons_zero])
          go_simp; done
        rotate_left
        · (try simp only [List.getElem_toArray]); (try simp only [List.getElem_cons_succ]); (try simp only [List.getElem_cons_zero])
          first
            | (obtain ⟨f0, f1⟩ := h0 rfl; clear h0; go_simp; with_reducible rfl)
            | (clear h0; go_simp; with_reducible rfl)
        (try simp only [List.getElem_toArray]); (try simp only [List.getElem_cons_succ]); (try simp only [List.getElem_cons_zero])
        go_simp; refine hK _ ?_; clear hK K
        refine walk_rd rfl ?_ (fun h => absurd h (by decide)) ?_ (fun w0 h0 => ?_) (fun K hK => ?_)
        · (try simp only [List.getElem_toArray]); (try simp only [List.getElem_cons_succ]); (try simp only [List.getElem_cons_zero])
          go_simp; done
        rotate_left
        · (try simp only [List.getElem_toArray]); (try simp only [List.getElem_cons_succ]); (try simp only [List.getElem_cons_zero])
          (clear h0; go_simp; with_reducible rfl)
        (try simp only [List.getElem_toArray]); (try simp only [List.getElem_cons_succ]); (try simp only [List.getElem_cons_zero])
        go_simp; refine hK _ ?_; clear hK K
        refine walk_rd rfl ?_ (fun h => absurd h (by decide)) ?_ (fun w0 h0 => ?_) (fun K hK => ?_)
        · (try simp only [List.getElem_toArray]); (try simp only [List.getElem_cons_succ]); (try simp only [List.getElem_cons_zero])
          go_simp; done
        rotate_left
        · (try simp only [List.getElem_toArray]); (try simp only [List.getElem_cons_succ]); (try simp only [List.getElem_cons_zero])
          (clear h0; go_simp; with_reducible rfl)
        (try simp only [List.getElem_toArray]); (try simp only [List.getElem_cons_succ]); (try simp only [List.getElem_cons_zero])
        go_simp; refine hK _ ?_; clear hK K
        refine walk_one (go_yes rfl ?_ (fun K hK => ?_))
        · (try simp only [List.getElem_toArray]); (try simp only [List.getElem_cons_succ]); (try simp only [List.getElem_cons_zero])
          go_simp; done
        (try simp only [List.getElem_toArray]); (try simp only [List.getElem_cons_succ]); (try simp only [List.getElem_cons_zero])
        go_simp
        obtain ⟨w4, hww4⟩ : ∃ q : World, wd.setCell ⟨wz.heap.size, 16, none⟩ (.int .i64 (x : Int)) = q := ⟨_, rfl⟩
        have hmw4 : Mod (fun k => k = wz.heap.size) wd w4 := hww4 ▸ (Mod.refl (fun k => k = wz.heap.size) wd).setCell (fun _ => rfl) _
        have hgw4 : w4.heap[wz.heap.size]? = some (.cells (opCells ({ PO.mk0 (k : Int) T with frm := (x : Int) } : PO) ⟨none, 0, none, 0, none, 0⟩).toArray 119 (0, 0)) := hww4 ▸ heap_set Hgd.out
        rw [hww4]
        have hgo4 := hmw4.heap Hgod.out (fun e => by have e : wr.heap.size = wz.heap.size := e; omega)
        refine hK _ _ (fun _ _ => ⟨cell_of hgo4 rfl, cell_of hgo4 rfl⟩) ?_
        clear hK K x2 y2 hS
        have x15 : w4.cell? ⟨wz.heap.size, 17, none⟩ = some (.int .i64 0) := cell_of hgw4 rfl
        have y15 : w4.frozen? ⟨wz.heap.size, 17, none⟩ = false := fr_of hgw4
        have Hmw4 := Lib.hid hmw4
        have Hgw4 := Lib.hid hgw4
        clear hmw4 hgw4 hww4 hgo4
        refine walk_rd rfl ?_ (fun h => absurd h (by decide)) ?_ (fun w0 h0 => ?_) (fun K hK => ?_)
        · (try simp only [List.getElem_toArray]); (try simp only [List.getElem_cons_succ]); (try simp only [List.getElem_cons_zero])
          go_simp; done
        rotate_left
        · (try simp only [List.getElem_toArray]); (try simp only [List.getElem_cons_succ]); (try simp only [List.getElem_cons_zero])
          (clear h0; go_simp; with_reducible rfl)
        (try simp only [List.getElem_toArray]); (try simp only [List.getElem_cons_succ]); (try simp only [List.getElem_cons_zero])
        go_simp; refine hK _ ?_; clear hK K
        refine walk_one (go_yes rfl ?_ (fun K hK => ?_))
        · (try simp only [List.getElem_toArray]); (try simp only [List.getElem_cons_succ]); (try simp only [List.getElem_cons_zero])
          go_simp; done
        (try simp only [List.getElem_toArray]); (try simp only [List.getElem_cons_succ]); (try simp only [List.getElem_cons_zero])
        go_simp
        obtain ⟨w6, hww6⟩ : ∃ q : World, w4.setCell ⟨wz.heap.size, 17, none⟩ (.int .i64 (z : Int)) = q := ⟨_, rfl⟩
        have hmw6 : Mod (fun k => k = wz.heap.size) w4 w6 := hww6 ▸ (Mod.refl (fun k => k = wz.heap.size) w4).setCell (fun _ => rfl) _
        have hgw6 : w6.heap[wz.heap.size]? = some (.cells (opCells ({ PO.mk0 (k : Int) T with frm := (x : Int), to_ := (z : Int) } : PO) ⟨none, 0, none, 0, none, 0⟩).toArray 119 (0, 0)) := hww6 ▸ heap_set Hgw4.out
        rw [hww6]
        refine hK _ _ (fun h => absurd h (by decide)) ?_
        clear hK K x15 y15
        refine walk_nil ?_
        have hm36 := Hmw4.out.trans hmw6 (fun _ _ h => h)
        have hmr6 := (Hmry.out.trans Hmd.out (fun _ _ h => h)).upon hm36 (fun k hk => .inr (by have hk : k = wz.heap.size := hk; omega))
        have hgq : w6.heap[wz.heap.size]? = some (.cells (opCells ({ PO.mk0 (k : Int) T with frm := (x : Int), to_ := (z : Int) } : PO) (⟨none, 0, none, 0, none, 0⟩ : Lie)).toArray 119 (0, 0)) := hgw6
        have Hgq := Lib.hid hgq
        have hmrq : Mod (fun _ => False) wr w6 := hmr6
        have hownq : OpOwn w6 w.heap.size ({ PO.mk0 (k : Int) T with frm := (x : Int), to_ := (z : Int) } : PO) (⟨none, 0, none, 0, none, 0⟩ : Lie) := ⟨OwnSl.nil _ _ _, OwnSl.nil _ _ _, OwnSl.nil _ _ _, fun b hb => (by cases hb), fun b hb => (by cases hb), fun b hb => (by cases hb)⟩
        have Htm := Lib.hid (tamed_4 hT1 ⟨(by omega), (by omega)⟩ hxl hzl : Tamed ({ PO.mk0 (k : Int) T with frm := (x : Int), to_ := (z : Int) } : PO))
        obtain ⟨wr2, hwr2, hrz, hone, hopsr, hownr, hmr2⟩ := tame_tail (Hops.out.mod hmrq (fun _ h => h.elim)) hownq
        have Hwr2 := Lib.hid hwr2
        have Hrz := Lib.hid hrz
        have Hone := Lib.hid hone
        have Hopsr := Lib.hid hopsr
        have Hownr := Lib.hid hownr
        have Hmr2 := Lib.hid (Hmr.out.trans (hmrq.trans hmr2 (fun _ _ h => h)) (fun _ _ h => h))
        clear hgq hmrq hownq hwr2 hrz hone hopsr hownr hmr2
        clear hgw6 hmw6 hww6 hm36 hmr6
        go_wp2_with (first | ((with_reducible refine wpList_load_lit 119 (.tmp 6) ?_); refine ⟨wz.heap.size, 0, rfl, opCells ({ PO.mk0 (k : Int) T with frm := (x : Int), to_ := (z : Int) } : PO) (⟨none, 0, none, 0, none, 0⟩ : Lie), CellsAt.row Hgq.out, by kernel_rfl, by kernel_rfl, ?_⟩) | ((with_reducible refine wpList_build_one_lit 66 (.tmp 103) ?_); refine ⟨119, 18, Tryz.underlying66, by kernel_rfl, by kernel_rfl, by decide, by decide, opCells ({ PO.mk0 (k : Int) T with frm := (x : Int), to_ := (z : Int) } : PO) (⟨none, 0, none, 0, none, 0⟩ : Lie), rfl, rfl, ?_⟩; rw [Hwr2.out]) | ((with_reducible refine wpList_append_lit (.tmp 102) (.tmp 104) 66 ?_); refine ⟨rfl, 119, 18, 240, ops_T, .slice va m.length vc, m.length, opsCells m, rfl, Hopsr.out.own, _, 1, opCells ({ PO.mk0 (k : Int) T with frm := (x : Int), to_ := (z : Int) } : PO) (⟨none, 0, none, 0, none, 0⟩ : Lie), rfl, Hrz.out, Hone.out, by omega, by unfold maxLen; omega, ?_⟩; intro ad cap9 w9 hA; have HA := Lib.hid hA; clear hA) | fail)
        go_roundw
        case rel =>
          have hap : ∀ b, (Value.slice va m.length vc).ownBlock = some b → ¬ OpBlk (({ PO.mk0 (k : Int) T with frm := (x : Int), to_ := (z : Int) } : PO), (⟨none, 0, none, 0, none, 0⟩ : Lie)) b := fun b hb hq => by
            have h1 := HdisB.out b hb
            have h2 : wy.heap.size ≤ b := by rcases hq with hq | hq | hq; cases hq; cases hq; cases hq
            omega
          have hops9 := Hopsr.out.app (p := (({ PO.mk0 (k : Int) T with frm := (x : Int), to_ := (z : Int) } : PO), (⟨none, 0, none, 0, none, 0⟩ : Lie))) Hownr.out hap Hmr2.out.size HA.out
          refine ⟨j + 1, m ++ [(({ PO.mk0 (k : Int) T with frm := (x : Int), to_ := (z : Int) } : PO), (⟨none, 0, none, 0, none, 0⟩ : Lie))], ad, cap9, by go_num, hlt, by rw [List.length_append]; rfl, hops9, by rw [List.length_append, List.length_singleton]; omega, fun p hp => ?_, Hmr2.out.upon HA.out.2.1 (fun b hb => .inr (Hopsr.out.vb b hb))⟩
          rcases List.mem_append.1 hp with hp | hp
          · exact Htall.out p hp
          · obtain rfl := List.mem_singleton.1 hp
            exact Htm.out
        case measure => simp [intOf]; omega
    · obtain rfl : j = l.length := by omega
      have Hops := Lib.hid hops
      have Htall := Lib.hid htall
      have Hmr := Lib.hid hmr
      clear hops htall hmr
      go_wp2_with fail
      go_ret
      exact ⟨_, m, rfl, Hops.out, hml, Htall.out, Hmr.out⟩
end Go.Proofs.YtloplmaekonenaaGreatDoor
