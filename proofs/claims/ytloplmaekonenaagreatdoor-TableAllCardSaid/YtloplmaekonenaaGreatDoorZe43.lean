/-
  gazettelaw14.TableAll.
  An event within a struct, opened.
  Arguments that are calls of a table, opened.
  From what a row lists of the package-level variables to what the walks ask.
-/
import Derived.Test.YtloplmaekonenaaGreatDoorZe42
import Derived.Test.YtloplmaekonenaaGreatDoorZe40
import Derived.Test.YtloplmaekonenaaGreatDoorZe41
import Derived.Test.YtloplmaekonenaaGreatDoorZe22
import Derived.Test.YtloplmaekonenaaGreatDoorRows
import Derived.PinnedBridge
import Derived.Lib.LaidU8T
import Derived.Lib.LaidTab
import Derived.Lib.LaidPrint
namespace Go.Proofs.YtloplmaekonenaaGreatDoor
set_option maxRecDepth 20000
open Go.RowKit Go.Sort

/-- The filter of all. -/
def topQ : Fil := (⟨#[]⟩, [])
theorem topQ_key : keyF topQ = [58] := by decide +kernel
theorem cov_top (q : Fil) : covQ topQ q = true := by
  unfold covQ covF topQ
  have h : underB q.1 ⟨#[]⟩ = true := underB_iff.2 (.inl rfl)
  simp [h]
/-- A text of another filter that may be is greater. -/
theorem top_lt {sc : ByteArray} {l : List Cnd} (h : scRight sc = true) (hne : keyF (sc, l) ≠ [58]) : [58] < keyF (sc, l) := by
  have rest : keyF (sc, l) = sc.data.toList ++ 58 :: bodyF l := by unfold keyF filPrt; simp
  rw [rest] at hne ⊢
  cases hs : sc.data.toList with
  | nil =>
    rw [hs, List.nil_append] at hne
    rw [List.nil_append]
    cases hb : bodyF l with
    | nil => rw [hb] at hne; exact absurd rfl hne
    | cons a r => exact List.cons_lt_cons_iff.2 (.inr ⟨rfl, List.nil_lt_cons a r⟩)
  | cons c r =>
    have hc : (58 : UInt8) < c := by
      unfold scRight at h
      rw [Bool.or_eq_true] at h
      rcases h with h | h
      · rw [List.isEmpty_iff, ByteArray.toList_eq, hs] at h; cases h
      · unfold scM at h
        cases h1 : scN (sc.size + 1) sc with
        | none => rw [h1] at h; cases h
        | some k =>
          rw [scN_succ] at h1
          by_cases hn : isName (cutS sc).1 = true
          · have h0 : sc.data.toList[0]? = some c := by rw [hs]; rfl
            have h2 : (cutS sc).1.data.toList[0]? = some c ∨ c = 47 := by
              unfold cutS
              split
              · rename_i h3
                obtain ⟨n, hn2⟩ : ∃ n, (Lib.indexByte sc.data.toList 47).toNat = n := ⟨_, rfl⟩
                have h4 := (Lib.indexByte_some (l := sc.data.toList) (c := 47) (o := n) (by omega)).1
                by_cases hz : n = 0
                · rw [hz, h0] at h4
                  exact .inr (Option.some.inj h4)
                · left
                  rw [hn2]
                  show (sc.extract 0 n).data.toList[0]? = some c
                  rw [ByteArray.data_extract, Array.toList_extract, List.extract_eq_take_drop, List.getElem?_take, if_pos (by omega), List.getElem?_drop]
                  exact h0
              · exact .inl h0
            rcases h2 with h2 | h2
            · cases hna : nameAt 0 c with
              | false => rw [isName_no h2 hna] at hn; cases hn
              | true =>
                unfold nameAt at hna
                simp only [Nat.lt_irrefl, decide_false, Bool.false_and, Bool.or_false, Bool.and_eq_true, decide_eq_true_eq] at hna
                rw [UInt8.lt_iff_toNat_lt]
                have : (58 : UInt8).toNat = 58 := rfl
                omega
            · exfalso
              -- a name ahead of a slash is empty
              have h5 : (cutS sc).1.size = 0 := by
                unfold cutS
                have h3 : Lib.indexByte sc.data.toList 47 = 0 := by
                  rw [hs, h2]
                  unfold Lib.indexByte
                  simp
                rw [if_pos (by omega), h3]
                show (sc.extract 0 0).size = 0
                rw [ByteArray.size_extract]
                omega
              have h6 := name_pos hn
              omega
          · rw [if_neg hn] at h1; cases h1
    exact List.cons_lt_cons_iff.2 (.inl hc)
/-- Where all are wanted from elsewhere, that alone is told. -/
theorem outL_top {M : List (Int × Fil)} {td x : Int} (hx : x ≠ td) (hm : (x, topQ) ∈ M) (hinj : ∀ p ∈ M, ∀ q ∈ M, keyF p.2 = keyF q.2 → p.2 = q.2) (hlt : ∀ p ∈ M, keyF p.2 ≠ [58] → [58] < keyF p.2) : outL M td = [topQ] := by
  have hft : allF M td [58] = some topQ := by
    obtain ⟨r, hr⟩ := allF_has hm hx
    rw [topQ_key] at hr
    obtain ⟨h1, y, hy, h2⟩ := allF_some hr
    have e : r = topQ := hinj _ h2 _ hm (by rw [topQ_key]; exact h1)
    rw [hr, e]
  have htop : ∀ f ∈ outL M td, f = topQ := fun f hf => by
    obtain ⟨h1, h2⟩ := outL_mem hf
    obtain ⟨-, y, hy, h3⟩ := allF_some h1
    by_cases e : keyF f = [58]
    · exact hinj _ h3 _ hm (by rw [topQ_key]; exact e)
    · have h4 := covd_no h2 (allK_mem.2 ⟨_, hft⟩) hft (fun e2 => e e2.symm) (cov_top f)
      exact absurd (hlt _ h3 e) h4.1
  have hmem : topQ ∈ outL M td := by
    unfold outL
    refine List.mem_filterMap.2 ⟨[58], allK_mem.2 ⟨_, hft⟩, Option.filter_eq_some_iff.2 ⟨hft, ?_⟩⟩
    have : covdF (allF M td) (allK M td) [58] topQ = false := by
      rw [covdF_J, List.any_eq_false]
      intro j hj
      obtain ⟨q, hq⟩ := allK_mem.1 hj
      obtain ⟨hk, y, hy, h3⟩ := allF_some hq
      unfold covJ
      rw [hq]
      by_cases e : j = [58]
      · simp [e]
      · have h4 := hlt _ h3 (by rw [show keyF q = j from hk]; exact e)
        rw [show keyF q = j from hk] at h4
        have h5 : ¬ j < [58] := List.lt_asymm h4
        simp only [cov_top q, Bool.not_true, Bool.or_false, decide_eq_false h5, Bool.and_false]
        exact Bool.false_ne_true
    simp [this]
  have hp := outL_lt M td
  cases hl : outL M td with
  | nil => rw [hl] at hmem; cases hmem
  | cons a r =>
    rw [hl] at htop hp
    have ha := htop a (List.mem_cons_self ..)
    cases r with
    | nil => rw [ha]
    | cons b r =>
      have hb := htop b (List.mem_cons_of_mem _ (List.mem_cons_self ..))
      have h1 := (List.pairwise_cons.1 hp).1 b (List.mem_cons_self ..)
      rw [ha, hb] at h1
      exact absurd h1 (List.lt_irrefl _)

set_option maxHeartbeats 8000000 in
theorem all14_walk (w : World) (hl : LaidAt w) (hn : 16 ≤ w.heap.size) (v : Value) (l : List Tc) (hv : TcsAt w v l) (hll : l.length ≤ 9223372036854775807) (td : Int) (htd : -9223372036854775808 ≤ td ∧ td ≤ 9223372036854775807) :
    Calls Tryz.prog 7 #[v, .int .i64 td] w fun e w' => e = .returned (.bool true) ∧ Mod (fun _ => False) w w' := by
  have hl0 : Laid w w := ⟨hl, hn, ⟨rfl, rfl, rfl, Nat.le_refl _, fun _ _ => rfl⟩⟩
  have hfit := fit14_at w w hl0
  have Hl := Lib.hid hl
  have Hv := Lib.hid hv
  have Hl0 := Lib.hid hl0
  have Hfit := Lib.hid hfit
  clear hl hv hl0 hfit
  go_enter Tryz.func7, Tryz.ntmps7
  go_wp2_with fail
  refine Hfit.out.mono ?_
  rintro e w0 ⟨rfl, hm0⟩
  have hlt := light14_at w0 v l (Hv.out.mod hm0) hll
  have Hm0 := Lib.hid hm0
  have Hlt := Lib.hid hlt
  clear hm0 hlt
  go_wp2_with fail
  refine Hlt.out.mono ?_
  rintro e w1 ⟨t, rfl, ht, hm1⟩
  have hmw1 := Hm0.out.trans hm1 (fun _ _ h => h)
  cases t with
  | false =>
    have Hm1 := Lib.hid hm1
    have Hmw1 := Lib.hid hmw1
    have Ht := Lib.hid ht
    clear hm1 hmw1 ht
    go_wp2_with fail
    go_ret
    exact ⟨rfl, Hmw1.out⟩
  | true =>
    have hl60 := ht rfl
    by_cases h99 : td = 99
    · have Hm1 := Lib.hid hm1
      have Hmw1 := Lib.hid hmw1
      have Ht := Lib.hid ht
      clear hm1 hmw1 ht
      go_wp2_with fail
      go_ret
      exact ⟨rfl, Hmw1.out⟩
    have hfill := fill_at w w1 (Hl0.out.mod0 hmw1) v l Hv.out hmw1 hl60
    have Hm1 := Lib.hid hm1
    have Hmw1 := Lib.hid hmw1
    have Ht := Lib.hid ht
    have Hfill := Lib.hid hfill
    clear hm1 hmw1 ht hfill
    go_wp2_with fail
    refine Hfill.out.mono ?_
    rintro e w2 ⟨b, mm, N, N2, n, own, C, om, R, f, rfl, hfa, hN, hN2, hm2⟩
    have hmw2 := Hmw1.out.trans hm2 (fun _ _ h => h)
    have hadd := tadd_at w w2 (Hl0.out.mod0 hmw2) b own C (refM R) N hfa.t (by omega) (fun k hk => Nat.le_trans Hmw1.out.size (hfa.o k hk).1) 99 (by decide) ⟨#[]⟩ (.slice none 0 0) [] (OwnSl.nil w2 0 7).rd (by decide) (fun c hc => (by cases hc)) (by decide)
    rw [normC_nil] at hadd
    have Hfa := Lib.hid hfa
    have Hm2 := Lib.hid hm2
    have Hmw2 := Lib.hid hmw2
    have Hadd := Lib.hid hadd
    clear hfa hm2 hmw2 hadd
    go_wp2_with fail
    refine Hadd.out.mono ?_
    rintro e w3 hpost
    have hlt : ∀ p ∈ refM R, keyF p.2 ≠ [58] → [58] < keyF p.2 := fun p hp hne => by
      obtain ⟨a, ha, rfl⟩ := List.mem_map.1 hp
      have h1 := (Hfa.out.ok a ha).2.1
      unfold filRight at h1
      rw [Bool.and_eq_true, Bool.and_eq_true] at h1
      exact top_lt h1.2.1 hne
    have htr : filRight ⟨#[]⟩ [] = true := fit_right
    have htopi : ∀ p ∈ refM R, keyF p.2 = keyF topQ → p.2 = topQ := fun p hp e => by
      obtain ⟨a, ha, rfl⟩ := List.mem_map.1 hp
      have h1 := keyF_inj (Hfa.out.ok a ha).2.1 htr (fun x hx => ((Hfa.out.ok a ha).1.nm x hx).2.2) (fun x hx => (by cases hx)) (by rw [normC_nil]; exact e)
      rw [normC_nil] at h1
      exact h1
    obtain ⟨t3, hte, own3, C3, M3, N3, ht3, hN3, hin3, hinj3, hlt3, hm3⟩ : ∃ t3 : Bool, e = .returned (.bool t3) ∧ ∃ (own3 C3 : Nat → Prop) (M3 : List (Int × Fil)) (N3 : Nat), Tab w3 b own3 C3 M3 N3 ∧ N3 ≤ 1000 ∧ ((99 : Int), topQ) ∈ M3 ∧ (∀ p ∈ M3, ∀ q ∈ M3, keyF p.2 = keyF q.2 → p.2 = q.2) ∧ (∀ p ∈ M3, keyF p.2 ≠ [58] → [58] < keyF p.2) ∧ Mod own w2 w3 := by
      rcases hpost with ⟨h, rfl, hm⟩ | ⟨h, rfl, own3, C3, ht, -, -, -, hm⟩
      · refine ⟨_, rfl, own, C, refM R, N, Hfa.out.t.mod0 hm (fun _ _ h => h), by omega, ?_, Hfa.out.ok.inj, hlt, hm.mono (fun _ _ h => h.elim)⟩
        cases hq : tabF (refM R) 99 (keyF topQ) with
        | none => exact absurd hq h
        | some q =>
          obtain ⟨h1, h2⟩ := tabF_some hq
          have e := htopi _ h1 h2
          rw [← show q = topQ from e]
          exact h1
      · refine ⟨_, rfl, own3, C3, _, _, ht, by omega, List.mem_append_right _ (List.mem_singleton.2 rfl), fun p hp q hq e => ?_, fun p hp hne => ?_, hm⟩
        · rcases List.mem_append.1 hp with hp | hp <;> rcases List.mem_append.1 hq with hq | hq
          · exact Hfa.out.ok.inj p hp q hq e
          · obtain rfl : q = ((99 : Int), topQ) := List.mem_singleton.1 hq
            exact htopi p hp e
          · obtain rfl : p = ((99 : Int), topQ) := List.mem_singleton.1 hp
            exact (htopi q hq e.symm).symm
          · obtain rfl : q = ((99 : Int), topQ) := List.mem_singleton.1 hq
            obtain rfl : p = ((99 : Int), topQ) := List.mem_singleton.1 hp
            rfl
        · rcases List.mem_append.1 hp with hp | hp
          · exact hlt p hp hne
          · obtain rfl : p = ((99 : Int), topQ) := List.mem_singleton.1 hp
            exact absurd topQ_key hne
    subst hte
    have hmw3 : Mod (fun _ => False) w w3 := Hmw2.out.upon hm3 (fun k hk => .inr (Nat.le_trans Hmw1.out.size (Hfa.out.o k hk).1))
    have hout := tout_at w3 b own3 C3 M3 N3 ht3 hN3 hinj3 td (id_wf htd)
    rw [outL_top (fun e => h99 e.symm) hin3 hinj3 hlt3] at hout
    have Hlt := Lib.hid hlt
    have Htopi := Lib.hid htopi
    have Ht3 := Lib.hid ht3
    have Hin3 := Lib.hid hin3
    have Hinj3 := Lib.hid hinj3
    have Hlt3 := Lib.hid hlt3
    have Hm3 := Lib.hid hm3
    have Hmw3 := Lib.hid hmw3
    have Hout := Lib.hid hout
    have Htr := Lib.hid htr
    clear hlt htopi ht3 hin3 hinj3 hlt3 hm3 hmw3 hout htr
    go_wp2_with fail
    refine Hout.out.mono ?_
    rintro e w6 ⟨v6, l6, rfl, hv6, hb6, hl6, hf6, hm6⟩
    obtain ⟨fr, rfl, hfr⟩ := one_of hl6
    obtain ⟨sc, fa, fc, cs⟩ := fr
    obtain ⟨rfl, rfl⟩ : sc = ⟨#[]⟩ ∧ cs = [] := ⟨congrArg Prod.fst hfr, congrArg Prod.snd hfr⟩
    obtain ⟨a6, c6, rfl, -⟩ := hv6.shape
    obtain ⟨g6, o6, rfl, hc6⟩ := rd_el (f := Fr.cells) (sz := 2) (fun _ => rfl) hv6.rd (j := 0) (x := ⟨⟨#[]⟩, fa, fc, []⟩) rfl
    have hrf := (hf6 _ (List.mem_singleton.2 rfl)).1.rd
    have hm06 := Hmw3.out.trans hm6 (fun _ _ h => h)
    have hpr := fprint_at w w6 (Hl0.out.mod0 hm06) ⟨#[]⟩ (.slice fa 0 fc) [] hrf (by decide) (by decide) (fun c hc => (by cases hc))
    rw [show filPrt ⟨#[]⟩ [] = [58] from topQ_key, show str [58] = ⟨#[58]⟩ from rfl] at hpr
    have c0 : w6.cell? ⟨g6, o6, none⟩ = some (.string ⟨#[]⟩) := by have := hc6 0 _ rfl; simpa using this
    have c1 : w6.cell? ⟨g6, o6 + 1, none⟩ = some (.slice fa 0 fc) := by have := hc6 1 _ rfl; simpa using this
    rw [show ([⟨⟨#[]⟩, fa, fc, []⟩] : List Fr).length = 1 from rfl]
    have Hv6 := Lib.hid hv6
    have Hb6 := Lib.hid hb6
    have Hl6 := Lib.hid hl6
    have Hf6 := Lib.hid hf6
    have Hm6 := Lib.hid hm6
    have Hrf := Lib.hid hrf
    have Hm06 := Lib.hid hm06
    have Hpr := Lib.hid hpr
    have Hc6 := Lib.hid hc6
    have Hfr := Lib.hid hfr
    clear hv6 hb6 hl6 hf6 hm6 hrf hm06 hpr hc6 hfr
    go_wp2_with fail
    refine Hpr.out.mono ?_
    rintro e w7 ⟨rfl, hm7⟩
    have hm07 := Hm06.out.trans hm7 (fun _ _ h => h)
    have Hm7 := Lib.hid hm7
    have Hm07 := Lib.hid hm07
    clear hm7 hm07
    go_wp2_with fail
    go_ret
    exact ⟨rfl, Hm07.out⟩
end Go.Proofs.YtloplmaekonenaaGreatDoor

namespace Go.Proofs.YtloplmaekonenaaGreatDoor
set_option maxRecDepth 20000
open Go.ChangeShapes Go.WideShapes Go.ChangeAt Go.RowKit

/-- An event in memory. -/
structure Evv where
  es : ByteArray
  ea : Option Addr
  ec : Nat
  L : List Att
structure Evv.ok (W : World) (e : Evv) : Prop where
  es : e.es.size ≤ maxLen
  rd : RdSl W 6 (.slice e.ea e.L.length e.ec) e.L.length (atts e.L)
  ln : e.L.length ≤ maxLen
  nm : ∀ x ∈ e.L, x.name.size ≤ maxLen ∧ x.v.text.size ≤ maxLen ∧ (-9223372036854775808 ≤ x.v.int ∧ x.v.int ≤ 9223372036854775807) ∧ x.v.num < 2 ^ 64
section
variable {H : Type} {enc : TypeId × Value → H} {W : World}
end
end Go.Proofs.YtloplmaekonenaaGreatDoor

namespace Go.Proofs.YtloplmaekonenaaGreatDoor
set_option maxRecDepth 20000
open Go.ChangeShapes Go.WideShapes Go.ChangeAt Go.RowKit

section
variable {H : Type} {enc : TypeId × Value → H} {W : World}
theorem open_tcc {fuel : Nat} {cs : List Value} {x : DataW H × List MemPlace} (h : DataW.trod enc Tryz.prog W 0 (fun _ => true) true fuel 52 cs = some x) : ∃ (z0 : Int) (z1 : Int) (z2 : Fr), cs = [.int .i64 z0, .int .i64 z1, .string z2.sc, .slice z2.a z2.cs.length z2.c] ∧ (-9223372036854775808 ≤ z0 ∧ z0 ≤ 9223372036854775807) ∧ (-9223372036854775808 ≤ z1 ∧ z1 ≤ 9223372036854775807) ∧ z2.ok W := by
  obtain ⟨xs, n1, -, -, hlen, hxs, hf⟩ := DataW.trod_struct Tryz.underlying52 h
  rw [show Tryz.prog.cellsOf 52 = 4 by kernel_rfl] at hlen
  have hx : ∀ i, i < 3 → ∃ y, xs[i]? = some y := fun i hi => by
    simp at hxs
    exact ⟨_, List.getElem?_eq_getElem (by omega)⟩
  match cs, hlen with
  | [c0, c1, c2, c3], _ =>
    obtain ⟨y0, h0⟩ := hx 0 (by omega)
    have f0 : DataW.trod enc Tryz.prog W 0 (fun _ => true) true n1 3 (([c0, c1, c2, c3].drop 0).take (Tryz.prog.cellsOf 3)) = xs[0]? := hf 0 _ rfl
    rw [h0, show Tryz.prog.cellsOf 3 = 1 by kernel_rfl] at f0
    obtain ⟨z0, e0, -, w0⟩ := DataW.trod_int Tryz.underlying3 f0
    have e0 : [c0] = [.int .i64 z0] := e0
    have g0 : -9223372036854775808 ≤ z0 ∧ z0 ≤ 9223372036854775807 := by simpa [Lit.wf, IntKind.min, IntKind.max, IntKind.signed, IntKind.bits] using w0
    obtain ⟨y1, h1⟩ := hx 1 (by omega)
    have f1 : DataW.trod enc Tryz.prog W 0 (fun _ => true) true n1 3 (([c0, c1, c2, c3].drop 1).take (Tryz.prog.cellsOf 3)) = xs[1]? := hf 1 _ rfl
    rw [h1, show Tryz.prog.cellsOf 3 = 1 by kernel_rfl] at f1
    obtain ⟨z1, e1, -, w1⟩ := DataW.trod_int Tryz.underlying3 f1
    have e1 : [c1] = [.int .i64 z1] := e1
    have g1 : -9223372036854775808 ≤ z1 ∧ z1 ≤ 9223372036854775807 := by simpa [Lit.wf, IntKind.min, IntKind.max, IntKind.signed, IntKind.bits] using w1
    obtain ⟨y2, h2⟩ := hx 2 (by omega)
    have f2 : DataW.trod enc Tryz.prog W 0 (fun _ => true) true n1 29 (([c0, c1, c2, c3].drop 2).take (Tryz.prog.cellsOf 29)) = xs[2]? := hf 2 _ rfl
    rw [h2, show Tryz.prog.cellsOf 29 = 2 by kernel_rfl] at f2
    obtain ⟨z2, e2, g2⟩ := open_frc f2
    have e2 : [c2, c3] = [.string z2.sc, .slice z2.a z2.cs.length z2.c] := e2
    cases e0
    cases e1
    cases e2
    exact ⟨z0, z1, z2, rfl, g0, g1, g2⟩

theorem open_tcs {base : Nat} {v : Value} {d : DataW H} {p : List MemPlace} (hok : Value.okWide Tryz.prog W .any base 47 v)
    (h : DataW.Trod enc Tryz.prog W 0 (fun _ => true) true 47 v d p) : ∃ l : List Tc, TcsAt W v l ∧ l.length ≤ 9223372036854775807 := by
  obtain ⟨m, hm⟩ := h
  obtain ⟨A, n, cap, rfl⟩ := okWide_slice Tryz.underlying47 hok
  obtain ⟨l, h1, h2, h3⟩ := open_row (W := W) (v := .slice A n cap) (sz := 4) Tc.cells (fun _ => rfl) (by decide) Tryz.underlying47 (by kernel_rfl) ⟨0, 0, ⟨⟨#[]⟩, none, 0, []⟩⟩ (fun c => c.f.ok W ∧ (-9223372036854775808 ≤ c.id ∧ c.id ≤ 9223372036854775807)) (fun _ _ _ h => by
    obtain ⟨z0, z1, z2, h1, g0, g1, g2⟩ := open_tcc h
    exact ⟨⟨z0, z1, z2⟩, h1, g2, g1⟩) hm
  exact ⟨l, ⟨h1, h3⟩, le63 h2⟩
end
end Go.Proofs.YtloplmaekonenaaGreatDoor

namespace Go.Proofs.YtloplmaekonenaaGreatDoor
set_option maxRecDepth 20000
open Go.RowKit Go.Lib

theorem and2 {a b : Bool} (h : a = true) (k : b = true) : (a && b) = true := by subst h; subst k; rfl
theorem u10_of {w : World} (h : VarReads Tryz.prog w "internal/strconv.uint64pow10" Rows.laid_internal_strconv_uint64pow10) : Lib.TabIs Tryz.prog w "internal/strconv.uint64pow10" .u64 Lib.pow10Tab := by
  obtain ⟨g, t, cs, fuel, p, hg, hty, hvar, hd⟩ := h
  obtain rfl := Option.some.inj ((show Tryz.prog.globalNamed "internal/strconv.uint64pow10" = some 3 by kernel_rfl).symm.trans hg)
  obtain rfl := Option.some.inj ((show (Tryz.prog.globals[(3 : Nat)]?).map (·.type) = some 254 by kernel_rfl).symm.trans hty)
  have e : (Rows.laid_internal_strconv_uint64pow10 : DataW Unit) = tabData .u64 Lib.pow10Tab := by kernel_rfl
  rw [e] at hd
  unfold TabIs
  rw [hvar, ← cells_of_tab Tryz.underlying254 Tryz.underlying204 (by kernel_rfl) (by kernel_rfl) hd]
theorem p10_len : Go.Pinned.pow10Rows.length = 696 := by kernel_rfl
theorem p10_of {w : World} (h : VarReads Tryz.prog w "internal/strconv.pow10Tab" Rows.laid_internal_strconv_pow10Tab) :
    ∀ i, i < 696 → w.cell? ⟨7, i * 2, none⟩ = some (.int .u64 ((pw i).1 : Int)) ∧ w.cell? ⟨7, i * 2 + 1, none⟩ = some (.int .u64 ((pw i).2 : Int)) := by
  obtain ⟨g, t, cs, fuel, p, hg, hty, hvar, hd⟩ := h
  obtain rfl := Option.some.inj ((show Tryz.prog.globalNamed "internal/strconv.pow10Tab" = some 7 by kernel_rfl).symm.trans hg)
  obtain rfl := Option.some.inj ((show (Tryz.prog.globals[(7 : Nat)]?).map (·.type) = some 293 by kernel_rfl).symm.trans hty)
  intro i hi
  obtain ⟨fuel', d, q, hdi, he⟩ := array_elem (ds := Go.Pinned.pow10Rows.map fun x => .agg [.lit (.int .u64 x.1), .lit (.int .u64 x.2)]) Tryz.underlying293 hd i hi
  have hpi : Go.Pinned.pow10Rows[i]? = some (pw i) := by
    have hl : i < Go.Pinned.pow10Rows.length := by rw [p10_len]; exact hi
    unfold pw
    rw [List.getD_eq_getElem?_getD, List.getElem?_eq_getElem hl]
    rfl
  rw [List.getElem?_map, hpi] at hdi
  obtain rfl := (Option.some.inj hdi).symm
  have hc2 : Tryz.prog.cellsOf 292 = 2 := by kernel_rfl
  have hc1 : Tryz.prog.cellsOf 204 = 1 := by kernel_rfl
  rw [hc2] at he
  have hcs := ints_of_struct (zs := [((pw i).1 : Int), ((pw i).2 : Int)]) Tryz.underlying292 (fun j f hj => by
    match j, hj with
    | 0, hj => simp at hj; subst hj; exact ⟨Tryz.underlying204, rfl, hc1⟩
    | 1, hj => simp at hj; subst hj; exact ⟨Tryz.underlying204, rfl, hc1⟩
    | j + 2, hj => simp at hj) (by rw [hc2]; rfl) he
  have e0 := congrArg (·[0]?) hcs
  have e1 := congrArg (·[1]?) hcs
  simp only [List.getElem?_take, List.getElem?_drop] at e0 e1
  constructor
  · rw [World.var?_cell hg hvar (i * 2), ← Array.getElem?_toList]
    simpa using e0
  · rw [World.var?_cell hg hvar (i * 2 + 1), ← Array.getElem?_toList]
    simpa using e1
theorem words_of {w : World} (h : VarReads Tryz.prog w "gazette/cond.words" Rows.laid_gazette_cond_words) : ∀ i s, wordsL[i]? = some s → w.cell? ⟨0, i, none⟩ = some (.string (str s)) := by
  obtain ⟨g, t, cs, fuel, p, hg, hty, hvar, hd⟩ := h
  obtain rfl := Option.some.inj ((show Tryz.prog.globalNamed "gazette/cond.words" = some 0 by kernel_rfl).symm.trans hg)
  obtain rfl := Option.some.inj ((show (Tryz.prog.globals[(0 : Nat)]?).map (·.type) = some 184 by kernel_rfl).symm.trans hty)
  have e : (Rows.laid_gazette_cond_words : DataW Unit) = .agg (wordsL.map fun s => .lit (.string s)) := rfl
  rw [e] at hd
  intro i s hs
  have hi : i < 8 := (List.getElem?_eq_some_iff.1 hs).1
  obtain ⟨fuel', d, q, hdi, he⟩ := array_elem (ds := wordsL.map fun s => .lit (.string s)) Tryz.underlying184 hd i hi
  rw [List.getElem?_map, hs] at hdi
  obtain rfl := (Option.some.inj hdi).symm
  obtain ⟨z, e1, e2, -⟩ := DataW.trod_string Tryz.underlying9 he
  have hc1 : Tryz.prog.cellsOf 9 = 1 := by kernel_rfl
  rw [hc1] at e1
  have e3 := congrArg (·[0]?) e1
  simp only [List.getElem?_take, List.getElem?_drop] at e3
  rw [World.var?_cell hg hvar i, ← Array.getElem?_toList]
  have e4 : z = str s := by
    have h1 := congrArg Prod.fst e2
    simp only [DataW.lit.injEq, Lit.string.injEq] at h1
    apply ByteArray.ext
    apply Array.toList_inj.1
    simpa [str] using h1.symm
  simpa [e4] using e3
theorem utf_of {w : World} (h3 : VarReads Tryz.prog w "unicode/utf8.first" Rows.laid_unicode_utf8_first) (h4 : VarReads Tryz.prog w "unicode/utf8.acceptRanges" Rows.laid_unicode_utf8_acceptRanges) : Lib.Utf8Tabs 9 10 w := by
  have e3 : (Rows.laid_unicode_utf8_first : DataW Unit) = tabData .u8 firstTab := Pinned.utf8First_eq
  have e4 : (Rows.laid_unicode_utf8_acceptRanges : DataW Unit) = acceptData := by kernel_rfl
  rw [e3] at h3
  rw [e4] at h4
  have hc5 : Tryz.prog.cellsOf 5 = 1 := by kernel_rfl
  refine ⟨fun c hc => ?_, fun i hi => ?_⟩
  · obtain ⟨g, t, cs, fuel, p, hg, hty, hvar, hd⟩ := h3
    obtain rfl := Option.some.inj ((show Tryz.prog.globalNamed "unicode/utf8.first" = some 9 by kernel_rfl).symm.trans hg)
    obtain rfl := Option.some.inj ((show (Tryz.prog.globals[(9 : Nat)]?).map (·.type) = some 302 by kernel_rfl).symm.trans hty)
    have hcs := cells_of_tab Tryz.underlying302 Tryz.underlying5 (by kernel_rfl) (by kernel_rfl) hd
    have := World.var?_cell hg hvar c
    rw [this, ← Array.getElem?_toList, hcs]
    simp [firstTab, hc]
  · obtain ⟨g, t, cs, fuel, p, hg, hty, hvar, hd⟩ := h4
    obtain rfl := Option.some.inj ((show Tryz.prog.globalNamed "unicode/utf8.acceptRanges" = some 10 by kernel_rfl).symm.trans hg)
    obtain rfl := Option.some.inj ((show (Tryz.prog.globals[(10 : Nat)]?).map (·.type) = some 305 by kernel_rfl).symm.trans hty)
    obtain ⟨fuel', d, q, hdi, he⟩ := array_elem Tryz.underlying305 hd i hi
    simp only [List.getElem?_map, List.getElem?_range hi, Option.map_some, Option.some.injEq] at hdi
    subst hdi
    have hc2 : Tryz.prog.cellsOf 304 = 2 := by kernel_rfl
    rw [hc2] at he
    have hcs := ints_of_struct Tryz.underlying304 (fun j f hj => by
      match j, hj with
      | 0, hj => simp at hj; subst hj; exact ⟨Tryz.underlying5, rfl, hc5⟩
      | 1, hj => simp at hj; subst hj; exact ⟨Tryz.underlying5, rfl, hc5⟩
      | j + 2, hj => simp at hj) (by rw [hc2]; rfl) he
    have e0 := congrArg (·[0]?) hcs
    have e1 := congrArg (·[1]?) hcs
    simp only [List.getElem?_take, List.getElem?_drop] at e0 e1
    constructor
    · rw [World.var?_cell hg hvar (2 * i), ← Array.getElem?_toList]
      simpa [Nat.mul_comm] using e0
    · rw [World.var?_cell hg hvar (2 * i + 1), ← Array.getElem?_toList]
      simpa [Nat.mul_comm] using e1
theorem prt_of {w : World} (h20 : VarReads Tryz.prog w "strconv.isPrint16" Rows.laid_strconv_isPrint16) (h21 : VarReads Tryz.prog w "strconv.isNotPrint16" Rows.laid_strconv_isNotPrint16)
    (h22 : VarReads Tryz.prog w "strconv.isPrint32" Rows.laid_strconv_isPrint32) (h23 : VarReads Tryz.prog w "strconv.isNotPrint32" Rows.laid_strconv_isNotPrint32) :
    Lib.PrintTabsAt 11 12 13 14 goPrintTabs w := by
  have e1 : (Rows.laid_strconv_isPrint16 : DataW Unit) = sliceData .u16 goPrintTabs.p16 := Pinned.isPrint16_eq
  have e2 : (Rows.laid_strconv_isNotPrint16 : DataW Unit) = sliceData .u16 goPrintTabs.n16 := Pinned.isNotPrint16_eq
  have e3 : (Rows.laid_strconv_isPrint32 : DataW Unit) = sliceData .u32 goPrintTabs.p32 := Pinned.isPrint32_eq
  have e4 : (Rows.laid_strconv_isNotPrint32 : DataW Unit) = sliceData .u16 goPrintTabs.n32 := Pinned.isNotPrint32_eq
  rw [e1] at h20
  rw [e2] at h21
  rw [e3] at h22
  rw [e4] at h23
  have hc16 : Tryz.prog.cellsOf 306 = 1 := by kernel_rfl
  have hc32 : Tryz.prog.cellsOf 202 = 1 := by kernel_rfl
  refine ⟨tabSlice_of_reads (by kernel_rfl) (by kernel_rfl) Tryz.underlying307 Tryz.underlying306 hc16 (by decide) h20, tabSlice_of_reads (by kernel_rfl) (by kernel_rfl) Tryz.underlying307 Tryz.underlying306 hc16 (by decide) h21,
    tabSlice_of_reads (by kernel_rfl) (by kernel_rfl) Tryz.underlying309 Tryz.underlying202 hc32 (by decide) h22, tabSlice_of_reads (by kernel_rfl) (by kernel_rfl) Tryz.underlying307 Tryz.underlying306 hc16 (by decide) h23, ?_, ?_, ?_⟩ <;> decide
/-- What the rows of this seat list. -/
def laidL : List (String × DataW Unit) := Rows.indexGoesRow.laid
theorem laid_of {w : World} (h : laidMet Tryz.prog laidL w) : LaidAt w where
  num := ⟨u10_of (laidMet.reads h (List.mem_of_getElem? (i := 3) rfl)), p10_of (laidMet.reads h (List.mem_of_getElem? (i := 7) rfl))⟩
  prt := prt_of (laidMet.reads h (List.mem_of_getElem? (i := 11) rfl)) (laidMet.reads h (List.mem_of_getElem? (i := 9) rfl)) (laidMet.reads h (List.mem_of_getElem? (i := 12) rfl)) (laidMet.reads h (List.mem_of_getElem? (i := 10) rfl))
  utf := utf_of (laidMet.reads h (List.mem_of_getElem? (i := 13) rfl)) (laidMet.reads h (List.mem_of_getElem? (i := 4) rfl))
  words := words_of (laidMet.reads h (List.mem_of_getElem? (i := 5) rfl))
theorem laid_size {w : World} (h : laidMet Tryz.prog laidL w) : 16 ≤ w.heap.size := by
  obtain ⟨g, t, cs, fuel, p, hg, hty, hvar, hd⟩ := laidMet.reads h (List.mem_of_getElem? (i := 8) rfl)
  obtain rfl := Option.some.inj ((show Tryz.prog.globalNamed "strconv.isGraphic" = some 15 by kernel_rfl).symm.trans hg)
  unfold World.var? at hvar
  rw [hg] at hvar
  simp only [Option.bind_some] at hvar
  cases hb : w.heap[(15 : Nat)]? with
  | none => rw [hb] at hvar; cases hvar
  | some o =>
    have := (Array.getElem?_eq_some_iff.1 hb).1
    omega
end Go.Proofs.YtloplmaekonenaaGreatDoor
