/-
  Package table: covered.
-/
import Derived.Test.YtloplmaekonenaaGreatDoorZe36
namespace Go.Proofs.YtloplmaekonenaaGreatDoor
set_option maxRecDepth 20000
open Go.RowKit

/-- What is known of a filter in a table. -/
def okQ (q : Fil) : Prop := q.2.length ≤ 19 ∧ (∀ c ∈ q.2, c.fits) ∧ q.1.size ≤ 1000000
theorem cov_at (w : World) (x y : Fr) (hx : RdSl w 7 (.slice x.a x.cs.length x.c) x.cs.length (cnds x.cs)) (hy : RdSl w 7 (.slice y.a y.cs.length y.c) y.cs.length (cnds y.cs)) (hxo : okQ x.fil) (hyo : okQ y.fil) :
    Calls Tryz.prog 97 #[.agg #[.string x.sc, .slice x.a x.cs.length x.c], .agg #[.string y.sc, .slice y.a y.cs.length y.c]] w fun e w' => e = .returned (.bool (covQ x.fil y.fil)) ∧ Mod (fun _ => False) w w' :=
  covers_over impB w x.sc _ x.cs hx (by have := hxo.1; have h : x.fil.2.length = x.cs.length := rfl; omega) (by have := hxo.2.2; have h : x.fil.1 = x.sc := rfl; rw [h] at this; omega) y.sc _ y.cs hy (by have := hyo.1; have h : y.fil.2.length = y.cs.length := rfl; omega) (by have := hyo.2.2; have h : y.fil.1 = y.sc := rfl; rw [h] at this; omega)
    (fun d hd c hc wx _ => by
      have h1 := hyo.2.1 d hd
      have h2 := hxo.2.1 c hc
      exact implies_at d c (by have := h1.1.text; omega) (by have := h2.1.text; omega) h1.1.num h2.1.num wx)
/-- Does that one cover it? -/
def covJ (g : List UInt8 → Option Fil) (k : List UInt8) (f : Fil) (j : List UInt8) : Bool := match g j with | some h => decide (j ≠ k) && (covQ h f && (decide (j < k) || !covQ f h)) | none => false
theorem covdF_J (g : List UInt8 → Option Fil) (ks : List (List UInt8)) (k : List UInt8) (f : Fil) : covdF g ks k f = ks.any (covJ g k f) := rfl
/-- A round. -/
def CovRel (w : World) (ma r : Nat) (fm : Lit → Option Value) (g : List UInt8 → Option Fil) (k : List UInt8) (f : Fil) (wr : World) : Prop :=
  ∃ (left : Lit → Bool) (cnt : Nat), RngR wr 9 ma r fm left cnt ∧ (∀ j, (g j).isSome = true → left (.string j) = false → covJ g k f j = false) ∧ Mod (fun _ => False) w wr

set_option maxHeartbeats 8000000 in
theorem covered_at (w : World) (own C : Nat → Prop) (ma n : Nat) (fm : Lit → Option Value) (g : List UInt8 → Option Fil) (hm : MapR w 9 ma n fm) (hv : ∀ x, FilIs w own C (fm (.string x)) (g x)) (hwf : ∀ x q, g x = some q → okQ q)
    (k : List UInt8) (hkl : k.length ≤ maxLen) (f : Fil) (hk : g k = some f) (ks : List (List UInt8)) (hks : ∀ x, x ∈ ks ↔ (g x).isSome = true) :
    Calls Tryz.prog 58 #[.map (some ma), .string (str k)] w fun e w' => e = .returned (.bool (covdF g ks k f)) ∧ Mod (fun _ => False) w w' := by
  obtain ⟨fr, hfv, hfq, hfr⟩ := fil_fr (hv k) (fun h => by rw [hk] at h; cases h)
  have hff : f = fr.fil := by rw [hk] at hfq; exact Option.some.inj hfq
  subst hff
  have hfo := hwf k _ hk
  have hks' := key_s k hkl
  rw [covdF_J]
  obtain ⟨B, hB⟩ : ∃ B, ks.any (covJ g k fr.fil) = B := ⟨_, rfl⟩
  rw [hB]
  have HB := Lib.hid hB
  have Hm := Lib.hid hm
  have Hv := Lib.hid hv
  have Hwf := Lib.hid hwf
  have Hk := Lib.hid hk
  have Hks := Lib.hid hks
  have Hfv := Lib.hid hfv
  have Hfq := Lib.hid hfq
  have Hfr := Lib.hid hfr
  have Hfo := Lib.hid hfo
  have Hks' := Lib.hid hks'
  clear hB hm hv hwf hk hks hfv hfq hfr hfo hks'
  go_enter Tryz.func58, Tryz.ntmps58
  go_wp2_with (first | ((at_range; refine wpList_range_R rfl _ 61 rfl 9 29 keyed_s Tryz.underlying61 ma n fm rfl Hm.out ?_; intro wF hrg hmF hzF)) | fail)
  have hrel0 : CovRel w ma w.heap.size fm g k fr.fil wF := ⟨_, _, hrg, fun j h1 h2 => (by
    have e := (Hv.out j).some
    rw [h1] at e
    have h3 : (fm (.string j)).isSome = false := h2
    rw [e] at h3
    cases h3), hmF⟩
  have Hrel0 := Lib.hid hrel0
  have Hrg := Lib.hid hrg
  have HmF := Lib.hid hmF
  clear hrel0 hrg hmF hzF
  go_frame
  go_loopw [9] (fun _ wr => CovRel w ma w.heap.size fm g k fr.fil wr) (fun _ wr => wr.rangeLeft ma w.heap.size)
  case atStart => exact Hrel0.out
  case round =>
    revert wr
    intro wl hrel
    obtain ⟨left, cnt, hrg, hno, hmr⟩ := hrel
    have Hno := Lib.hid hno
    have Hmr := Lib.hid hmr
    clear hno hmr
    go_wp2_with (first | ((at_next; refine wpList_next_R rfl _ rfl 9 keyed_s encStr Lit.string (inv_s _ Tryz.underlying9) (in_s _ Tryz.underlying9) ma w.heap.size fm left cnt rfl hrg ?_ ?_)) | fail)
    · intro hl0
      have hany : B = false := by
        rw [← HB.out, List.any_eq_false]
        intro j hj
        rw [Hno.out j ((Hks.out j).1 hj) (hl0 _)]
        exact Bool.false_ne_true
      subst hany
      have Hrg := Lib.hid hrg
      have Hl0 := Lib.hid hl0
      clear hrg hl0
      go_wp2_with fail
      go_ret
      exact ⟨rfl, Hmr.out⟩
    · intro x c wu cnt' hkey hlk hfc hrg' hlt2 hmu hzu hen
      obtain ⟨h, hhv, hhq, hhr⟩ := fil_fr (Hv.out x) (fun e => by have h1 := (Hv.out x).some; rw [hfc, e] at h1; cases h1)
      rw [hfc] at hhv
      obtain rfl := Option.some.inj hhv
      have hxk : x ∈ ks := (Hks.out x).2 (by rw [hhq]; rfl)
      obtain ⟨wv, hwv⟩ : ∃ wv : World, wu.alloc (.cells #[.string h.sc, .slice h.a h.cs.length h.c] 29) = wv := ⟨_, rfl⟩
      have hmwv : Mod (fun _ => False) wu wv := hwv ▸ (Mod.refl (fun _ => False) wu).alloc _
      have hgwv := heap_alloc_new wu (.cells #[.string h.sc, .slice h.a h.cs.length h.c] 29)
      rw [hwv] at hgwv
      have hzwv : wv.heap.size = wu.heap.size + 1 := by rw [← hwv]; simp
      have hm0v := (Hmr.out.upon hmu (fun k hk => .inr (Nat.le_of_eq (Eq.symm hk)))).trans hmwv (fun _ _ h => h)
      have v2 : wv.cell? ⟨wu.heap.size, 0, none⟩ = some (.string h.sc) := cell_of hgwv rfl
      have v3 : wv.cell? ⟨wu.heap.size, 1, none⟩ = some (.slice h.a h.cs.length h.c) := cell_of hgwv rfl
      have hrgv := hrg'.mod hmwv (fun h => h) (fun h => h)
      have hl1 := (Hm.out.mod hm0v (fun h => h)).look keyed_s Tryz.underlying61 (zero_fil wv) Hks'.out
      rw [Hfv.out] at hl1
      have hl1' : (Instr.lookup 61 (.map (some ma)) (.string (str k)) false).run Tryz.prog wv = .ok (.agg #[.string fr.sc, .slice fr.a fr.cs.length fr.c]) wv := hl1
      have hho := Hwf.out x _ hhq
      have hrh := (hhr.1.mod hm0v (fun _ _ h => h)).rd
      have hrf := (Hfr.out.1.mod hm0v (fun _ _ h => h)).rd
      have hc1 := cov_at wv h fr hrh hrf hho Hfo.out
      obtain ⟨t1, ht1⟩ : ∃ t, covQ h.fil fr.fil = t := ⟨_, rfl⟩
      rw [ht1] at hc1
      have Hrg := Lib.hid hrg
      have Hkey := Lib.hid hkey
      have Hlk := Lib.hid hlk
      have Hfc := Lib.hid hfc
      have Hrg' := Lib.hid hrg'
      have Hmu := Lib.hid hmu
      have Hzu := Lib.hid hzu
      have Hhq := Lib.hid hhq
      have Hhr := Lib.hid hhr
      have Hwv := Lib.hid hwv
      have Hmwv := Lib.hid hmwv
      have Hgwv := Lib.hid hgwv
      have Hrgv := Lib.hid hrgv
      have Hm0v := Lib.hid hm0v
      have Hl1 := Lib.hid hl1
      have Hho := Lib.hid hho
      have Hrh := Lib.hid hrh
      have Hrf := Lib.hid hrf
      have Hc1 := Lib.hid hc1
      have Ht1 := Lib.hid ht1
      have Hxk := Lib.hid hxk
      clear hrg hkey hlk hfc hrg' hmu hzu hhq hhr hwv hmwv hgwv hrgv hm0v hl1 hho hrh hrf hc1 ht1 hxk
      have hsl : (str k).toList = k := by rw [ByteArray.toList_eq]; simp [str]
      by_cases hxe : x = k
      · have hxf : covJ g k fr.fil x = false := by unfold covJ; rw [Hhq.out]; simp [hxe]
        have hsx : (str x).toList = x := by rw [hxe]; exact hsl
        have hno2 : ∀ j, (g j).isSome = true → (left (.string j) && !(Lit.string j).sameKey (.string x)) = false → covJ g k fr.fil j = false := fun j h1 h2 => by
          rw [same_s] at h2
          by_cases e : j = x
          · rw [e]; exact hxf
          · have e2 : (j == x) = false := by rw [beq_eq_false_iff_ne]; exact e
            rw [e2, Bool.not_false, Bool.and_true] at h2
            exact Hno.out j h1 h2
        have Hno2 := Lib.hid hno2
        have Hxf := Lib.hid hxf
        clear hno2 hxf
        go_wp2_with (first | ((with_reducible refine wpList_store_lit 29 (.tmp 6) (.tmp 13) ?_); refine ⟨rfl, [.string h.sc, .slice h.a h.cs.length h.c], rfl, rfl, by kernel_rfl, rfl, ?_⟩; rw [Hwv.out]) | fail)
        go_roundw
        case rel => exact ⟨_, cnt', Hrgv.out, Hno2.out, Hm0v.out⟩
        case measure => rw [Hrgv.out.left_eq, Hrg.out.left_eq]; exact hlt2
      · have hsx : (str x).toList = x := by rw [ByteArray.toList_eq]; simp [str]
        go_wp2_with (first | ((with_reducible refine wpList_store_lit 29 (.tmp 6) (.tmp 13) ?_); refine ⟨rfl, [.string h.sc, .slice h.a h.cs.length h.c], rfl, rfl, by kernel_rfl, rfl, ?_⟩; rw [Hwv.out]) | fail)
        all_goals first | (exfalso; exact absurd (by assumption) hxe) | skip
        refine Hc1.out.mono ?_
        rintro e w4 ⟨rfl, hm4⟩
        have hrg4 := Hrgv.out.mod hm4 (fun h => h) (fun h => h)
        have hm04 := Hm0v.out.trans hm4 (fun _ _ h => h)
        cases t1 with
        | false =>
          have hxf : covJ g k fr.fil x = false := by unfold covJ; rw [Hhq.out]; simp only []; rw [Ht1.out]; simp
          have hno2 : ∀ j, (g j).isSome = true → (left (.string j) && !(Lit.string j).sameKey (.string x)) = false → covJ g k fr.fil j = false := fun j h1 h2 => by
            rw [same_s] at h2
            by_cases e : j = x
            · rw [e]; exact hxf
            · have e2 : (j == x) = false := by rw [beq_eq_false_iff_ne]; exact e
              rw [e2, Bool.not_false, Bool.and_true] at h2
              exact Hno.out j h1 h2
          have Hno2 := Lib.hid hno2
          have Hxf := Lib.hid hxf
          have Hm4 := Lib.hid hm4
          have Hrg4 := Lib.hid hrg4
          have Hm04 := Lib.hid hm04
          clear hno2 hxf hm4 hrg4 hm04
          go_wp2_with fail
          go_roundw
          case rel => exact ⟨_, cnt', Hrg4.out, Hno2.out, Hm04.out⟩
          case measure => rw [Hrg4.out.left_eq, Hrg.out.left_eq]; exact hlt2
        | true =>
          have w2 : w4.cell? ⟨wu.heap.size, 0, none⟩ = some (.string h.sc) := hm4.cell v2 (fun h => h)
          have w3 : w4.cell? ⟨wu.heap.size, 1, none⟩ = some (.slice h.a h.cs.length h.c) := hm4.cell v3 (fun h => h)
          by_cases hxl : x < k
          · have hbl : Op.bytesLess x k = true := by rw [Go.Proofs.bytesLess_eq]; exact decide_eq_true hxl
            have hBt : B = true := by
              rw [← HB.out, List.any_eq_true]
              refine ⟨x, Hxk.out, ?_⟩
              unfold covJ
              rw [Hhq.out]
              simp only []
              rw [Ht1.out]
              simp [hxe, hxl]
            subst hBt
            have Hm4 := Lib.hid hm4
            have Hrg4 := Lib.hid hrg4
            have Hm04 := Lib.hid hm04
            clear hm4 hrg4 hm04
            go_wp2_with fail
            go_ret
            exact ⟨rfl, Hm04.out⟩
          · have hbl : Op.bytesLess x k = false := by rw [Go.Proofs.bytesLess_eq]; exact decide_eq_false hxl
            have hl4 := (Hm.out.mod hm04 (fun h => h)).look keyed_s Tryz.underlying61 (zero_fil w4) Hks'.out
            rw [Hfv.out] at hl4
            have hl4' : (Instr.lookup 61 (.map (some ma)) (.string (str k)) false).run Tryz.prog w4 = .ok (.agg #[.string fr.sc, .slice fr.a fr.cs.length fr.c]) w4 := hl4
            have hc2 := cov_at w4 fr h (Hrf.out.mod hm4 (fun _ _ h => h)) (Hrh.out.mod hm4 (fun _ _ h => h)) Hfo.out Hho.out
            obtain ⟨t2, ht2⟩ : ∃ t, covQ fr.fil h.fil = t := ⟨_, rfl⟩
            rw [ht2] at hc2
            have Hm4 := Lib.hid hm4
            have Hrg4 := Lib.hid hrg4
            have Hm04 := Lib.hid hm04
            have Hl4 := Lib.hid hl4
            have Hc2 := Lib.hid hc2
            have Ht2 := Lib.hid ht2
            clear hm4 hrg4 hm04 hl4 hc2 ht2
            go_wp2_with fail
            refine Hc2.out.mono ?_
            rintro e w5 ⟨rfl, hm5⟩
            have hrg5 := Hrg4.out.mod hm5 (fun h => h) (fun h => h)
            have hm05 := Hm04.out.trans hm5 (fun _ _ h => h)
            cases t2 with
            | true =>
              have hxf : covJ g k fr.fil x = false := by unfold covJ; rw [Hhq.out]; simp only []; rw [Ht1.out, Ht2.out]; simp [hxl]
              have hno2 : ∀ j, (g j).isSome = true → (left (.string j) && !(Lit.string j).sameKey (.string x)) = false → covJ g k fr.fil j = false := fun j h1 h2 => by
                rw [same_s] at h2
                by_cases e : j = x
                · rw [e]; exact hxf
                · have e2 : (j == x) = false := by rw [beq_eq_false_iff_ne]; exact e
                  rw [e2, Bool.not_false, Bool.and_true] at h2
                  exact Hno.out j h1 h2
              have Hno2 := Lib.hid hno2
              have Hxf := Lib.hid hxf
              have Hm5 := Lib.hid hm5
              have Hrg5 := Lib.hid hrg5
              have Hm05 := Lib.hid hm05
              clear hno2 hxf hm5 hrg5 hm05
              go_wp2_with fail
              go_roundw
              case rel => exact ⟨_, cnt', Hrg5.out, Hno2.out, Hm05.out⟩
              case measure => rw [Hrg5.out.left_eq, Hrg.out.left_eq]; exact hlt2
            | false =>
              have hBt : B = true := by
                rw [← HB.out, List.any_eq_true]
                refine ⟨x, Hxk.out, ?_⟩
                unfold covJ
                rw [Hhq.out]
                simp only []
                rw [Ht1.out, Ht2.out]
                simp [hxe]
              subst hBt
              have Hm5 := Lib.hid hm5
              have Hrg5 := Lib.hid hrg5
              have Hm05 := Lib.hid hm05
              clear hm5 hrg5 hm05
              go_wp2_with fail
              go_ret
              exact ⟨rfl, Hm05.out⟩
end Go.Proofs.YtloplmaekonenaaGreatDoor
