/-
  gazetteref10.Seen: what of an event a principal may see, by the document: the same as redact.Event.
-/
import Derived.Test.YtpfnemkfbelpcaaSeen
namespace Go.Proofs.Ytpfnemkfbelpcaa
set_option maxRecDepth 20000
open Go.RowKit

theorem wp_app {P : Program} {o : Oper} {a : Act} {w : World} {K : Act → World → Prop} {Q : Exit → Act → World → Prop} (s y : Operand) (t : TypeId) (hop : o.op = Op.call { callee := Callee.builtin Builtin.append, args := #[s, y], argTypes := #[t, t] })
    (e : TypeId) (sz bytes : Nat) (hT : SliceT P t e sz bytes) (v : Value) (n : Nat) (xs : List Value) (hs : a.eval s = v) (hown : OwnSl w e sz v n xs) (x : Value) (m : Nat) (news : List Value) (hy : a.eval y = x) (hx : RdSl w sz x m news) (h1 : ∀ u ∈ news, u.oneCell' = true)
    (hbytes : (n + m) * bytes ≤ 140737488355328) (hmax : n + m ≤ maxLen)
    (hK : ∀ ad cap w', Appended w e sz v (n + m) (xs ++ news) (.slice ad (n + m) cap) w' → K (a.put o.dst (.slice ad (n + m) cap)) w') : o.wp P a w K Q := by
  obtain ⟨ht, i0, z, hi, hz0, hz1, hz2, hzs⟩ := hT
  obtain ⟨v', w', hrun, r1, r2, r3⟩ := run_append_sl (P := P) w t o.type e i0 z sz bytes ht hi hz0 hz1 hz2 hzs v n xs hown x m news hx h1 hbytes hmax
  unfold Oper.wp
  simp [execOp, hop, resolve, invoke, builtin, hs, hy, hrun, Result.andThen]
  obtain ⟨ad, cap, rfl, _⟩ := r1.shape
  exact hK ad cap w' ⟨r1, r2, r3⟩

def hidesA (l : List Ru) (tenant : Int) (who es : ByteArray) (x : Att) : Bool := l.any fun r => r.of 3 tenant who && (r.name.toList == x.name.toList && underB es r.sc)
theorem hidesA_take {l : List Ru} {tenant : Int} {who es : ByteArray} {x : Att} {i : Nat} {r : Ru} (h : l[i]? = some r) :
    hidesA (l.take (i + 1)) tenant who es x = (hidesA (l.take i) tenant who es x || (r.of 3 tenant who && (r.name.toList == x.name.toList && underB es r.sc))) := by
  unfold hidesA
  rw [List.take_add_one, List.any_append, h]
  simp
theorem hidesA_hid (l : List Ru) (tenant : Int) (who es : ByteArray) (x : Att) : hidesA l tenant who es x = decide (x.name.data.toList ∈ hidL (hidR l tenant who es)) := by
  rw [Bool.eq_iff_iff, decide_eq_true_eq, hidL_mem]
  unfold hidesA hidR namesL
  rw [List.any_eq_true, List.mem_map]
  constructor
  · rintro ⟨r, hr, h⟩
    rw [Bool.and_eq_true, Bool.and_eq_true] at h
    refine ⟨r, List.mem_filter.2 ⟨hr, ?_⟩, by rw [(Lib.bytes_beq_iff _ _).1 h.2.1]⟩
    unfold Ru.hides
    rw [h.1, h.2.2]
    rfl
  · rintro ⟨r, hr, h⟩
    obtain ⟨hr, h2⟩ := List.mem_filter.1 hr
    unfold Ru.hides at h2
    rw [Bool.and_eq_true] at h2
    have hn : r.name = x.name := by
      have h3 : r.name.data = x.name.data := Array.ext' h
      cases hx : x.name; cases hq : r.name
      rw [hx, hq] at h3
      exact congrArg ByteArray.mk h3
    exact ⟨r, hr, by rw [h2.1, h2.2, (Lib.bytes_beq_iff _ _).2 hn]; rfl⟩
theorem seenA_hides (l : List Ru) (tenant : Int) (who es : ByteArray) (L : List Att) : seenA l tenant who es L = L.filter fun a => !hidesA l tenant who es a := by
  unfold seenA keepA
  congr 1
  funext a
  rw [hidesA_hid]

set_option maxHeartbeats 16000000 in
theorem rseen_at (w : World) (v : Value) (l : List Ru) (hv : RuSl w v l) (hll : l.length ≤ 1000000) (tenant : Int) (who es : ByteArray) (hs : es.size ≤ 9223372036854775807) (ea : Option Addr) (ec : Nat) (L : List Att) (hL : RdSl w 6 (.slice ea L.length ec) L.length (atts L)) (hLl : L.length ≤ 1000) :
    Calls Try.prog 22 #[v, .int .i64 tenant, .string who, .agg #[.string es, .slice ea L.length ec]] w fun e w' => ∃ av, e = .returned (.agg #[.string es, av]) ∧
      OwnSl w' 48 6 av (seenA l tenant who es L).length (atts (seenA l tenant who es L)) ∧ (∀ b, av.ownBlock = some b → w.heap.size ≤ b) ∧ Mod (fun _ => False) w w' := by
  obtain ⟨a, cap, rfl, hcap⟩ : ∃ a c, v = .slice a l.length c ∧ l.length ≤ c := by obtain ⟨-, a, c, h, h2, -⟩ := hv.rd; exact ⟨a, c, h, h2⟩
  obtain ⟨hec⟩ : L.length ≤ ec ∧ True := by obtain ⟨-, a, c, h, h2, -⟩ := hL; cases h; exact ⟨h2, trivial⟩
  obtain ⟨wa, hwa⟩ : ∃ wa : World, w.alloc (.cells #[.string es, .slice ea L.length ec] 40) = wa := ⟨_, rfl⟩
  have hmwa : Mod (fun _ => False) w wa := hwa ▸ (Mod.refl (fun _ => False) w).alloc _
  have hgwa := heap_alloc_new w (.cells #[.string es, .slice ea L.length ec] 40)
  rw [hwa] at hgwa
  have hzwa : wa.heap.size = w.heap.size + 1 := by rw [← hwa]; simp
  obtain ⟨wb, hwb⟩ : ∃ wb : World, wa.alloc (.cells #[.string ⟨#[]⟩, .slice none 0 0] 40) = wb := ⟨_, rfl⟩
  have hmwb : Mod (fun _ => False) wa wb := hwb ▸ (Mod.refl (fun _ => False) wa).alloc _
  have hgwb := heap_alloc_new wa (.cells #[.string ⟨#[]⟩, .slice none 0 0] 40)
  rw [hwb] at hgwb
  have hzwb : wb.heap.size = wa.heap.size + 1 := by rw [← hwb]; simp
  obtain ⟨w6, hw6⟩ : ∃ w6 : World, wb.alloc (.cells #[.string es, .slice none 0 0] 40) = w6 := ⟨_, rfl⟩
  have hmw6 : Mod (fun _ => False) wb w6 := hw6 ▸ (Mod.refl (fun _ => False) wb).alloc _
  have hgw6 := heap_alloc_new wb (.cells #[.string es, .slice none 0 0] 40)
  rw [hw6] at hgw6
  have hzw6 : w6.heap.size = wb.heap.size + 1 := by rw [← hw6]; simp
  have hm06 := hmwa.trans (hmwb.trans hmw6 (fun _ _ h => h)) (fun _ _ h => h)
  have hga := (hmwb.trans hmw6 (fun _ _ h => h)).heap hgwa (fun h => h)
  have hgb := hmw6.heap hgwb (fun h => h)
  have hvd := hv.mod hm06
  have hrd := hL.mod hm06 (fun _ _ h => h)
  have hgab := hmwb.heap hgwa (fun h => h)
  have c0 : wb.cell? ⟨w.heap.size, 0, none⟩ = some (.string es) := cell_of hgab rfl
  have hz1 : w.heap.size < wa.heap.size := by omega
  have hz2 : wa.heap.size < wb.heap.size := by omega
  have hz3 : wb.heap.size < w6.heap.size := by omega
  have hLl' : (L.length : Int) ≤ 1000 := by omega
  have hll' : (l.length : Int) ≤ 1000000 := by omega
  have hcap' : (l.length : Int) ≤ cap := by omega
  have hec' : (L.length : Int) ≤ ec := by omega
  have hav : ∀ b, (Value.slice ea L.length ec).ownBlock = some b → 0 < L.length → b < w.heap.size := fun b hb h0 => by
    obtain ⟨-, a', c', h1, -, -, h4⟩ := hL
    cases h1
    cases ea with
    | none => cases hb
    | some q =>
      obtain ⟨g, off, rfl, h5⟩ := h4 q rfl h0
      have h9 : 0 < (atts L).length := by rw [atts_length]; omega
      have h6 : (atts L)[0]? = some (atts L)[0] := List.getElem?_eq_getElem h9
      have h7 := World.block_lt_of_cell? w _ (h5 0 _ h6)
      have h8 : some g = some b := hb
      cases h8
      exact h7
  have hwk : ∀ b, (Value.slice a l.length cap).ownBlock = some b → 0 < l.length → b < w.heap.size := fun b hb h0 => by
    obtain ⟨-, a', c', h1, -, -, h4⟩ := hv.rd
    cases h1
    cases a with
    | none => cases hb
    | some q =>
      obtain ⟨g, off, rfl, h5⟩ := h4 q rfl h0
      have h9 : 0 < (rus l).length := by rw [rus_length]; omega
      have h6 : (rus l)[0]? = some (rus l)[0] := List.getElem?_eq_getElem h9
      have h7 := World.block_lt_of_cell? w _ (h5 0 _ h6)
      have h8 : some g = some b := hb
      cases h8
      exact h7
  have Hwa := Lib.hid hwa
  have Hwb := Lib.hid hwb
  have Hw6 := Lib.hid hw6
  have Hm06 := Lib.hid hm06
  have Hga := Lib.hid hga
  have Hgb := Lib.hid hgb
  have Hvd := Lib.hid hvd
  have Hrd := Lib.hid hrd
  have Hav := Lib.hid hav
  have Hwk := Lib.hid hwk
  have Hgw6 := Lib.hid hgw6
  have Hv := Lib.hid hv
  have HL := Lib.hid hL
  have Hs := Lib.hid hs
  clear hwa hwb hw6 hm06 hga hgb hvd hrd hav hwk hgw6 hv hL hs hmwa hmwb hmw6 hgwa hgwb hzwa hzwb hzw6 hgab
  go_enter Try.func22, Try.ntmps22
  go_wp2_with (first | (rw [show w.alloc _ = wa from Hwa.out]) | (rw [show wa.alloc _ = wb from Hwb.out]) | ((with_reducible refine wpList_store_lit 40 (.tmp 9) (.tmp 15) ?_); refine ⟨rfl, [.string es, .slice none 0 0], rfl, rfl, by kernel_rfl, rfl, ?_⟩; rw [Hw6.out]) | fail)
  clear c0
  go_loopw [10] (fun i wr => ∃ (j n : Nat) (oa : Option Addr) (oc : Nat), i = .int .i64 j ∧ j ≤ L.length ∧ n = (seenA l tenant who es (L.take j)).length ∧ wr.heap[wb.heap.size]? = some (.cells #[.string es, .slice oa n oc] 40 (0, 0)) ∧
    OwnSl wr 48 6 (.slice oa n oc) n (atts (seenA l tenant who es (L.take j))) ∧ (∀ b, (Value.slice oa n oc).ownBlock = some b → w6.heap.size ≤ b) ∧ Mod (fun k => k = wb.heap.size) w6 wr) (fun i _ => L.length - (intOf i).toNat)
  case atStart => exact ⟨0, 0, none, 0, rfl, Nat.zero_le _, rfl, Hgw6.out, OwnSl.nil _ _ _, fun b hb => (by cases hb), Mod.refl _ _⟩
  case round =>
    obtain ⟨j, n, oa, oc, rfl, hj, hn, hrow, hown, hfo, hmr⟩ := hrel
    have hgr := hmr.heap Hga.out (by omega)
    obtain ⟨wo, rfl⟩ : ∃ wo : World, wo = wr := ⟨_, rfl⟩
    by_cases hlt : j < L.length
    · have hlt' : (j : Int) < L.length := by omega
      obtain ⟨x, hxj⟩ : ∃ x, L[j]? = some x := ⟨_, List.getElem?_eq_getElem hlt⟩
      obtain ⟨ag, aoff, rfl, hf⟩ : ∃ g off, ea = some ⟨g, off, none⟩ ∧ CellsAt wo g (off + j * 6) x.cells := rd_att (Hrd.out.mod hmr (fun b hb => by have := Hav.out b hb (by omega); omega)) hxj
      have hnx : seenA l tenant who es (L.take (j + 1)) = seenA l tenant who es (L.take j) ++ (if (!hidesA l tenant who es x) = true then [x] else []) := by
        rw [seenA_hides, seenA_hides]
        exact keep_snoc (fun a : Att => !hidesA l tenant who es a) hxj
      obtain ⟨acc, hacc⟩ : ∃ q, seenA l tenant who es (L.take j) = q := ⟨_, rfl⟩
      have hle : acc.length ≤ j := by rw [← hacc]; exact Nat.le_trans (List.length_filter_le _ _) (List.length_take_le _ _)
      rw [hacc] at hn hown hnx
      obtain ⟨nx, hnx'⟩ : ∃ q, seenA l tenant who es (L.take (j + 1)) = q := ⟨_, rfl⟩
      rw [hnx'] at hnx
      have hn8' : (n : Int) ≤ 1000 := by omega
      have e1 : wo.cell? ⟨w.heap.size, 1, none⟩ = some (.slice (some ⟨ag, aoff, none⟩) L.length ec) := cell_of hgr rfl
      have hlr : wb.heap.size < wo.heap.size := (Array.getElem?_eq_some_iff.1 hrow).1
      have Hxj := Lib.hid hxj
      have Hf := Lib.hid hf
      have Hrow := Lib.hid hrow
      have Hown := Lib.hid hown
      have Hmr := Lib.hid hmr
      have Hn := Lib.hid hn
      have Hnx := Lib.hid hnx
      have Hnx' := Lib.hid hnx'
      have Hfo := Lib.hid hfo
      have Hgr := Lib.hid hgr
      clear hxj hf hrow hown hmr hn hnx hnx' hfo hgr hacc hle
      go_wp2_with fail
      go_loopw [11, 12] (fun hv iv wr => ∃ i : Nat, iv = .int .i64 i ∧ i ≤ l.length ∧ hv = .bool (hidesA (l.take i) tenant who es x) ∧ Mod (fun _ => False) wo wr) (fun _ iv _ => l.length - (intOf iv).toNat)
      case atStart => exact ⟨0, rfl, Nat.zero_le _, rfl, Mod.refl _ _⟩
      case round =>
        obtain ⟨i, rfl, hi, rfl, hmq⟩ := hrel
        by_cases hli : i < l.length
        · have hli' : (i : Int) < l.length := by omega
          obtain ⟨r, hri⟩ : ∃ r, l[i]? = some r := ⟨_, List.getElem?_eq_getElem hli⟩
          have hrm := List.mem_of_getElem? hri
          obtain ⟨g, off, rfl, hrc⟩ : ∃ g off, a = some ⟨g, off, none⟩ ∧ CellsAt wo g (off + i * 8) r.cells := by
            obtain ⟨g, off, ha, h0⟩ := rd_rule Hvd.out hri
            have hb := Hwk.out g (by rw [ha]; rfl) (by omega)
            exact ⟨g, off, ha, h0.mod Hmr.out (by omega)⟩
          have hst := hidesA_take (tenant := tenant) (who := who) (es := es) (x := x) hri
          have hun := runder_at es r.sc Hs.out (Hv.out.ok r hrm).sc
          have hfa : ∀ w', Mod (fun _ => False) wr w' → w'.cell? ⟨g, off + i * 8, none⟩ = some (.int .i64 r.kind) ∧ w'.cell? ⟨g, off + i * 8 + 1, none⟩ = some (.int .i64 r.tenant) ∧ w'.cell? ⟨g, off + i * 8 + 2, none⟩ = some (.string r.who) ∧
              w'.cell? ⟨g, off + i * 8 + 4, none⟩ = some (.string r.sc) ∧ w'.cell? ⟨g, off + i * 8 + 6, none⟩ = some (.string r.name) ∧ w'.cell? ⟨w.heap.size, 0, none⟩ = some (.string es) ∧
              w'.cell? ⟨w.heap.size, 1, none⟩ = some (.slice (some ⟨ag, aoff, none⟩) L.length ec) ∧ w'.cell? ⟨ag, aoff + j * 6, none⟩ = some (.string x.name) := fun w' hw' => by
            have h1 := hmq.trans hw' (fun _ _ h => h)
            have h2 := hrc.mod h1 (fun h => h)
            have h3 := h1.heap Hgr.out (fun h => h)
            exact ⟨h2 0 _ rfl, h2 1 _ rfl, h2 2 _ rfl, h2 4 _ rfl, h2 6 _ rfl, cell_of h3 rfl, cell_of h3 rfl, (Hf.out.mod h1 (fun h => h)) 0 _ rfl⟩
          obtain ⟨acc2, hacc2⟩ : ∃ q, hidesA (l.take i) tenant who es x = q := ⟨_, rfl⟩
          rw [hacc2] at hst ⊢
          obtain ⟨B, hB⟩ : ∃ B, underB es r.sc = B := ⟨_, rfl⟩
          rw [hB] at hst
          have hca : ∀ w', Mod (fun _ => False) wr w' → Calls Try.prog 41 #[.string es, .string r.sc] w' fun e w'' => e = .returned (.bool B) ∧ Mod (fun _ => False) wr w'' := fun w' hw' =>
            (hun w').mono fun e w'' h => by obtain ⟨rfl, rfl⟩ := h; exact ⟨by rw [hB], hw'⟩
          have Hmq := Lib.hid hmq
          have Hfa := Lib.hid hfa
          have Hst := Lib.hid hst
          have Hca := Lib.hid hca
          clear hmq hfa hst hca hri hrm hrc hun hacc2 hB
          clear e1
          refine of_cases r 3 tenant who (fun h1 h4 => ?_) (fun h1 h2 h4 => ?_) (fun h1 h2 h3 h4 => ?_) (fun h1 h2 h3 h4 => ?_)
          iterate 3 (
            have Hst := Lib.hid (show hidesA (l.take (i + 1)) tenant who es x = acc2 by rw [Hst.out, h4, Bool.false_and, Bool.or_false])
            clear h4 Hca
            go_wp2_with fail
            refine wp_region_news (by kernel_rfl) (by kernel_rfl) ?_
            iterate 49 (first
              | (refine quiet_skip ?_ (fun K hK => ?_)
                 · first | (go_simp; done) | (go_simp; simp [undef]; done)
                 go_simp; refine hK _ ?_; clear hK K)
              | (refine quiet_do ?_ ?_ (fun w' hw' => ?_) (fun K hK => ?_)
                 · first | (go_simp; done) | (go_simp; simp [undef]; done)
                 rotate_left
                 · obtain ⟨f1, f2, f3, f4, f5, f6, f7, f8⟩ := Hfa.out w' hw'
                   go_simp
                   rfl
                 go_simp; refine hK _ ?_; clear hK K))
            refine quiet_end (fun w' hw' => ?_)
            have Hw' := Lib.hid (Hmq.out.trans hw' (fun _ _ h => h))
            clear hw'
            go_wp2_with fail
            go_roundw
            case rel => exact ⟨i + 1, by go_num, hli, by rw [Hst.out], Hw'.out⟩
            case measure => simp [intOf]; omega)
          cases hnm : r.name.toList == x.name.toList with
          | false =>
            have Hst := Lib.hid (show hidesA (l.take (i + 1)) tenant who es x = acc2 by rw [Hst.out, h4, hnm, Bool.false_and, Bool.and_false, Bool.or_false])
            clear h4 Hca
            go_wp2_with fail
            refine wp_region_news (by kernel_rfl) (by kernel_rfl) ?_
            iterate 49 (first
              | (refine quiet_skip ?_ (fun K hK => ?_)
                 · first | (go_simp; done) | (go_simp; simp [undef]; done)
                 go_simp; refine hK _ ?_; clear hK K)
              | (refine quiet_do ?_ ?_ (fun w' hw' => ?_) (fun K hK => ?_)
                 · first | (go_simp; done) | (go_simp; simp [undef]; done)
                 rotate_left
                 · obtain ⟨f1, f2, f3, f4, f5, f6, f7, f8⟩ := Hfa.out w' hw'
                   go_simp
                   rfl
                 go_simp; refine hK _ ?_; clear hK K))
            refine quiet_end (fun w' hw' => ?_)
            have Hw' := Lib.hid (Hmq.out.trans hw' (fun _ _ h => h))
            clear hw' hnm
            go_wp2_with fail
            go_roundw
            case rel => exact ⟨i + 1, by go_num, hli, by rw [Hst.out], Hw'.out⟩
            case measure => simp [intOf]; omega
          | true =>
            have Hst := Lib.hid (show hidesA (l.take (i + 1)) tenant who es x = (acc2 || B) by rw [Hst.out, h4, hnm, Bool.true_and, Bool.true_and])
            clear h4
            cases B with
            | false =>
              have Hst := Lib.hid (show hidesA (l.take (i + 1)) tenant who es x = acc2 by rw [Hst.out, Bool.or_false])
              go_wp2_with fail
              refine wp_region_news (by kernel_rfl) (by kernel_rfl) ?_
              iterate 49 (first
                | (refine quiet_skip ?_ (fun K hK => ?_)
                   · first | (go_simp; done) | (go_simp; simp [undef]; done)
                   go_simp; refine hK _ ?_; clear hK K)
                | (refine quiet_do ?_ ?_ (fun w' hw' => ?_) (fun K hK => ?_)
                   · first | (go_simp; done) | (go_simp; simp [undef]; done)
                   rotate_left
                   · obtain ⟨f1, f2, f3, f4, f5, f6, f7, f8⟩ := Hfa.out w' hw'
                     go_simp
                     rfl
                   go_simp; refine hK _ ?_; clear hK K)
                | (refine quiet_in ?_ ?_ ?_ ?_ (fun w' hw' => ?_) ?_ (fun K hK => ?_)
                   · first | (go_simp; done) | (go_simp; simp [undef]; done)
                   rotate_left 3
                   · obtain ⟨f1, f2, f3, f4, f5, f6, f7, f8⟩ := Hfa.out w' hw'
                     go_simp
                     constructor <;> rfl
                   · first | exact Hca.out
                   go_simp; refine hK _ ?_; clear hK K))
              refine quiet_end (fun w' hw' => ?_)
              have Hw' := Lib.hid (Hmq.out.trans hw' (fun _ _ h => h))
              clear hw' hnm
              go_wp2_with fail
              go_roundw
              case rel => exact ⟨i + 1, by go_num, hli, by rw [Hst.out], Hw'.out⟩
              case measure => simp [intOf]; omega
            | true =>
              have Hst := Lib.hid (show hidesA (l.take (i + 1)) tenant who es x = true by rw [Hst.out, Bool.or_true])
              go_wp2_with fail
              refine wp_region_news (by kernel_rfl) (by kernel_rfl) ?_
              iterate 49 (first
                | (refine quiet_skip ?_ (fun K hK => ?_)
                   · first | (go_simp; done) | (go_simp; simp [undef]; done)
                   go_simp; refine hK _ ?_; clear hK K)
                | (refine quiet_do ?_ ?_ (fun w' hw' => ?_) (fun K hK => ?_)
                   · first | (go_simp; done) | (go_simp; simp [undef]; done)
                   rotate_left
                   · obtain ⟨f1, f2, f3, f4, f5, f6, f7, f8⟩ := Hfa.out w' hw'
                     go_simp
                     rfl
                   go_simp; refine hK _ ?_; clear hK K)
                | (refine quiet_in ?_ ?_ ?_ ?_ (fun w' hw' => ?_) ?_ (fun K hK => ?_)
                   · first | (go_simp; done) | (go_simp; simp [undef]; done)
                   rotate_left 3
                   · obtain ⟨f1, f2, f3, f4, f5, f6, f7, f8⟩ := Hfa.out w' hw'
                     go_simp
                     constructor <;> rfl
                   · first | exact Hca.out
                   go_simp; refine hK _ ?_; clear hK K))
              refine quiet_end (fun w' hw' => ?_)
              have Hw' := Lib.hid (Hmq.out.trans hw' (fun _ _ h => h))
              clear hw' hnm
              go_wp2_with fail
              go_roundw
              case rel => exact ⟨i + 1, by go_num, hli, by rw [Hst.out], Hw'.out⟩
              case measure => simp [intOf]; omega
        · obtain rfl : i = l.length := by omega
          rw [List.take_length]
          have hrow1 := hmq.heap Hrow.out (fun h => h)
          have hown1 := Hown.out.mod hmq (fun _ _ h => h)
          have hm1 : Mod (fun k => k = wb.heap.size) w6 wr := Hmr.out.trans hmq (fun _ _ h => h.elim)
          have hlr1 : wb.heap.size < wr.heap.size := (Array.getElem?_eq_some_iff.1 hrow1).1
          have hf1 := Hf.out.mod hmq (fun h => h)
          have hgr1 := hmq.heap Hgr.out (fun h => h)
          obtain ⟨B, hB⟩ : ∃ B, hidesA l tenant who es x = B := ⟨_, rfl⟩
          have hnx2 : nx = acc ++ (if (!B) = true then [x] else []) := by rw [← hB]; exact Hnx.out
          rw [hB]
          clear e1
          have Hrow1 := Lib.hid hrow1
          have Hown1 := Lib.hid hown1
          have Hm1 := Lib.hid hm1
          have Hnx2 := Lib.hid hnx2
          have Hf1 := Lib.hid hf1
          have Hgr1 := Lib.hid hgr1
          clear hrow1 hown1 hm1 hnx2 hf1 hgr1 hmq hB Hrow Hown Hmr Hnx Hf Hgr
          cases B with
          | true =>
            have hnx3 : nx = acc := by rw [Hnx2.out]; exact List.append_nil _
            have hown4 := Hown1.out
            rw [← hnx3, ← Hnx'.out] at hown4
            have hlen : n = (seenA l tenant who es (L.take (j + 1))).length := by rw [Hnx'.out, hnx3]; exact Hn.out
            have Hown4 := Lib.hid hown4
            have Hlen := Lib.hid hlen
            clear hown4 hlen hnx3
            go_wp2_with fail
            go_roundw
            case rel => exact ⟨j + 1, n, oa, oc, by go_num, hlt, Hlen.out, Hrow1.out, Hown4.out, Hfo.out, Hm1.out⟩
            case measure => simp [intOf]; omega
          | false =>
            have hnx3 : nx = acc ++ [x] := Hnx2.out
            have hone : ∀ u ∈ x.cells, u.oneCell' = true := fun u hu => List.all_eq_true.1 (show x.cells.all (·.oneCell') = true from rfl) u hu
            have hlen : n + 1 = (seenA l tenant who es (L.take (j + 1))).length := by rw [Hnx'.out, hnx3, List.length_append, ← Hn.out]; rfl
            have hatt : atts acc ++ x.cells = atts (seenA l tenant who es (L.take (j + 1))) := by rw [Hnx'.out, hnx3, atts_append]; simp [atts]
            have hfo' := Hfo.out
            have Hone := Lib.hid hone
            have Hlen := Lib.hid hlen
            have Hatt := Lib.hid hatt
            clear hone hlen hatt hnx3
            go_wp2_with fail
            have hS : (fun y : World => y.cell? ⟨wb.heap.size, 1, none⟩ = some (.slice oa n oc) ∧ y.cell? ⟨w.heap.size, 1, none⟩ = some (.slice (some ⟨ag, aoff, none⟩) L.length ec) ∧ AllCells y ag (aoff + j * 6) 6 ∧ cellsOf y ag (aoff + j * 6) 6 = #[.string x.name, .int .i64 x.v.kind, .int .i64 x.v.int, .float .f64 x.v.num, .string x.v.text, .bool x.v.yes]) wr.drew :=
              ⟨cell_of (heap_drew_ Hrow1.out) rfl, cell_of (heap_drew_ Hgr1.out) rfl, (Hf1.out.mod ((Mod.refl (fun _ => False) wr).drew) (fun h => h)).all rfl, (Hf1.out.mod ((Mod.refl (fun _ => False) wr).drew) (fun h => h)).is rfl⟩
            refine wp_region_script [.rd 0, .rd 1, .rd 2, .rd 3, .rd 4, .rd 5, .rd 6, .go 7, .go 8, .go 9, .go 10] [0, 1, 2, 3, 4, 5, 6, 7] (fun y : World => y.cell? ⟨wb.heap.size, 1, none⟩ = some (.slice oa n oc) ∧ y.cell? ⟨w.heap.size, 1, none⟩ = some (.slice (some ⟨ag, aoff, none⟩) L.length ec) ∧ AllCells y ag (aoff + j * 6) 6 ∧ cellsOf y ag (aoff + j * 6) 6 = #[.string x.name, .int .i64 x.v.kind, .int .i64 x.v.int, .float .f64 x.v.num, .string x.v.text, .bool x.v.yes]) (by kernel_rfl) (by kernel_rfl) (fun _ _ d _ _ h => (by cases d <;> exact h)) ?_
            refine walk_rd rfl ?_ (fun _ => hS) ?_ (fun w0 h0 => ?_) (fun K hK => ?_)
            · (try simp only [List.getElem_toArray]); (try simp only [List.getElem_cons_succ]); (try simp only [List.getElem_cons_zero])
              go_simp; done
            rotate_left
            · (try simp only [List.getElem_toArray]); (try simp only [List.getElem_cons_succ]); (try simp only [List.getElem_cons_zero])
              first
                | (obtain ⟨h1, h2, h3, h5⟩ := h0 rfl; clear h0; go_simp; with_reducible rfl)
                | (clear h0; go_simp; with_reducible rfl)
            (try simp only [List.getElem_toArray]); (try simp only [List.getElem_cons_succ]); (try simp only [List.getElem_cons_zero])
            go_simp; refine hK _ ?_; clear hK K
            refine walk_rd rfl ?_ (fun _ => hS) ?_ (fun w0 h0 => ?_) (fun K hK => ?_)
            · (try simp only [List.getElem_toArray]); (try simp only [List.getElem_cons_succ]); (try simp only [List.getElem_cons_zero])
              go_simp; done
            rotate_left
            · (try simp only [List.getElem_toArray]); (try simp only [List.getElem_cons_succ]); (try simp only [List.getElem_cons_zero])
              first
                | (obtain ⟨h1, h2, h3, h5⟩ := h0 rfl; clear h0; go_simp; with_reducible rfl)
                | (clear h0; go_simp; with_reducible rfl)
            (try simp only [List.getElem_toArray]); (try simp only [List.getElem_cons_succ]); (try simp only [List.getElem_cons_zero])
            go_simp; refine hK _ ?_; clear hK K
            refine walk_rd rfl ?_ (fun _ => hS) ?_ (fun w0 h0 => ?_) (fun K hK => ?_)
            · (try simp only [List.getElem_toArray]); (try simp only [List.getElem_cons_succ]); (try simp only [List.getElem_cons_zero])
              go_simp; done
            rotate_left
            · (try simp only [List.getElem_toArray]); (try simp only [List.getElem_cons_succ]); (try simp only [List.getElem_cons_zero])
              first
                | (obtain ⟨h1, h2, h3, h5⟩ := h0 rfl; clear h0; go_simp; with_reducible rfl)
                | (clear h0; go_simp; with_reducible rfl)
            (try simp only [List.getElem_toArray]); (try simp only [List.getElem_cons_succ]); (try simp only [List.getElem_cons_zero])
            go_simp; refine hK _ ?_; clear hK K
            refine walk_rd rfl ?_ (fun _ => hS) ?_ (fun w0 h0 => ?_) (fun K hK => ?_)
            · (try simp only [List.getElem_toArray]); (try simp only [List.getElem_cons_succ]); (try simp only [List.getElem_cons_zero])
              go_simp; done
            rotate_left
            · (try simp only [List.getElem_toArray]); (try simp only [List.getElem_cons_succ]); (try simp only [List.getElem_cons_zero])
              first
                | (obtain ⟨h1, h2, h3, h5⟩ := h0 rfl; clear h0; go_simp; with_reducible rfl)
                | (clear h0; go_simp; with_reducible rfl)
            (try simp only [List.getElem_toArray]); (try simp only [List.getElem_cons_succ]); (try simp only [List.getElem_cons_zero])
            go_simp; refine hK _ ?_; clear hK K
            refine walk_rd rfl ?_ (fun _ => hS) ?_ (fun w0 h0 => ?_) (fun K hK => ?_)
            · (try simp only [List.getElem_toArray]); (try simp only [List.getElem_cons_succ]); (try simp only [List.getElem_cons_zero])
              go_simp; done
            rotate_left
            · (try simp only [List.getElem_toArray]); (try simp only [List.getElem_cons_succ]); (try simp only [List.getElem_cons_zero])
              first
                | (obtain ⟨h1, h2, h3, h5⟩ := h0 rfl; clear h0; go_simp; with_reducible rfl)
                | (clear h0; go_simp; with_reducible rfl)
            (try simp only [List.getElem_toArray]); (try simp only [List.getElem_cons_succ]); (try simp only [List.getElem_cons_zero])
            go_simp; refine hK _ ?_; clear hK K
            refine walk_rd rfl ?_ (fun _ => hS) ?_ (fun w0 h0 => ?_) (fun K hK => ?_)
            · (try simp only [List.getElem_toArray]); (try simp only [List.getElem_cons_succ]); (try simp only [List.getElem_cons_zero])
              go_simp; done
            rotate_left
            · (try simp only [List.getElem_toArray]); (try simp only [List.getElem_cons_succ]); (try simp only [List.getElem_cons_zero])
              first
                | (obtain ⟨h1, h2, h3, h5⟩ := h0 rfl; clear h0; go_simp; with_reducible rfl)
                | (clear h0; go_simp; with_reducible rfl)
            (try simp only [List.getElem_toArray]); (try simp only [List.getElem_cons_succ]); (try simp only [List.getElem_cons_zero])
            go_simp; refine hK _ ?_; clear hK K
            refine walk_rd rfl ?_ (fun _ => hS) ?_ (fun w0 h0 => ?_) (fun K hK => ?_)
            · (try simp only [List.getElem_toArray]); (try simp only [List.getElem_cons_succ]); (try simp only [List.getElem_cons_zero])
              go_simp; done
            rotate_left
            · (try simp only [List.getElem_toArray]); (try simp only [List.getElem_cons_succ]); (try simp only [List.getElem_cons_zero])
              first
                | (obtain ⟨h1, h2, h3, h5⟩ := h0 rfl; clear h0; go_simp; with_reducible rfl)
                | (clear h0; go_simp; with_reducible rfl)
            (try simp only [List.getElem_toArray]); (try simp only [List.getElem_cons_succ]); (try simp only [List.getElem_cons_zero])
            go_simp; refine hK _ ?_; clear hK K
            refine walk_one (go_yes rfl ?_ (fun K hK => ?_))
            · (try simp only [List.getElem_toArray]); (try simp only [List.getElem_cons_succ]); (try simp only [List.getElem_cons_zero])
              go_simp; done
            (try simp only [List.getElem_toArray]); (try simp only [List.getElem_cons_succ]); (try simp only [List.getElem_cons_zero])
            obtain ⟨wT, hwT⟩ : ∃ wT : World, wr.drew.alloc (.cells x.cells.toArray 48) = wT := ⟨_, rfl⟩
            have hmwT : Mod (fun _ => False) wr.drew wT := hwT ▸ (Mod.refl (fun _ => False) wr.drew).alloc _
            have hgwT := heap_alloc_new wr.drew (.cells x.cells.toArray 48)
            rw [hwT] at hgwT
            have hzwT : wT.heap.size = wr.drew.heap.size + 1 := by rw [← hwT]; simp
            have hwT' : wr.drew.alloc (.cells #[.string x.name, .int .i64 x.v.kind, .int .i64 x.v.int, .float .f64 x.v.num, .string x.v.text, .bool x.v.yes] 48) = wT := hwT
            go_simp
            refine hK _ _ (fun _ h => ⟨hmwT.cell h.1 (fun h => h), hmwT.cell h.2.1 (fun h => h), ((h.2.2.1.at).mod hmwT (fun h => h)).all (cellsOf_length _ _ _ _), by rw [((h.2.2.1.at).mod hmwT (fun h => h)).is (cellsOf_length _ _ _ _)]; exact h.2.2.2⟩) ?_
            clear hK K hS
            have hrdT : RdSl wT 6 (.slice (some ⟨wr.heap.size, 0, none⟩) 1 1) 1 x.cells := hwT ▸ RdSl.one wr.drew x.cells 48 rfl
            have hmrT : Mod (fun _ => False) wr wT := ((Mod.refl (fun _ => False) wr).drew).trans hmwT (fun _ _ h => h)
            have hrowT := hmrT.heap Hrow1.out (fun h => h)
            have hownT := Hown1.out.mod hmrT (fun _ _ h => h)
            have hmT : Mod (fun k => k = wb.heap.size) w6 wT := Hm1.out.trans hmrT (fun _ _ h => h.elim)
            refine walk_one (go_yes rfl ?_ (fun K hK => ?_))
            · (try simp only [List.getElem_toArray]); (try simp only [List.getElem_cons_succ]); (try simp only [List.getElem_cons_zero])
              go_simp; done
            (try simp only [List.getElem_toArray]); (try simp only [List.getElem_cons_succ]); (try simp only [List.getElem_cons_zero])
            refine wp_app (.tmp 81) (.tmp 87) 38 rfl 48 6 64 atts_T' (.slice oa n oc) n (atts acc) rfl hownT (.slice (some ⟨wr.heap.size, 0, none⟩) 1 1) 1 x.cells rfl hrdT Hone.out (by omega) (by unfold maxLen; omega) (fun ad cap2 w4 hA => ?_)
            have hne4 : ¬ inBlock (.slice oa n oc) wb.heap.size := (fun h => by have := Hfo.out _ h; omega)
            have hrow4 := hA.2.1.heap hrowT hne4
            have f1 : w4.frozen? ⟨wb.heap.size, 1, none⟩ = false := fr_of hrow4
            have e1 : w4.cell? ⟨wb.heap.size, 1, none⟩ = some (.slice oa n oc) := cell_of hrow4 rfl
            refine hK _ _ (fun h => absurd h (by decide)) ?_
            clear hK K
            have hfr5 : ∀ b, (Value.slice ad (n + 1) cap2).ownBlock = some b → w6.heap.size ≤ b := fun b hb => by
              rcases hA.2.2 with h | ⟨k, h, hk⟩
              · exact Hfo.out b (by rw [← h]; exact hb)
              · rw [h] at hb; cases hb
                have := hmT.size
                omega
            have hm4 : Mod (fun k => k = wb.heap.size) w6 w4 := hmT.upon hA.2.1 (fun b hb => .inr (Hfo.out b hb))
            have hown4 := hA.1
            rw [Hatt.out] at hown4
            have Hfr5 := Lib.hid hfr5
            have Hm4 := Lib.hid hm4
            have Hown4 := Lib.hid hown4
            have Hrow4 := Lib.hid hrow4
            clear hfr5 hm4 hown4 hrow4 hA hmT hrowT hownT hrdT hmrT hwT hwT' hmwT hgwT hzwT hne4 hfo'
            refine walk_one (go_yes rfl ?_ (fun K hK => ?_))
            · (try simp only [List.getElem_toArray]); (try simp only [List.getElem_cons_succ]); (try simp only [List.getElem_cons_zero])
              go_simp; done
            (try simp only [List.getElem_toArray]); (try simp only [List.getElem_cons_succ]); (try simp only [List.getElem_cons_zero])
            go_simp
            refine hK _ _ (fun h => absurd h (by decide)) ?_
            clear hK K
            refine walk_one (go_yes rfl ?_ (fun K hK => ?_))
            · (try simp only [List.getElem_toArray]); (try simp only [List.getElem_cons_succ]); (try simp only [List.getElem_cons_zero])
              go_simp; done
            (try simp only [List.getElem_toArray]); (try simp only [List.getElem_cons_succ]); (try simp only [List.getElem_cons_zero])
            go_simp
            refine hK _ _ (fun h => absurd h (by decide)) ?_
            clear hK K
            refine walk_nil ?_
            go_wp2_with fail
            go_roundw
            case rel =>
              refine ⟨j + 1, n + 1, ad, cap2, by go_num, hlt, Hlen.out, heap_set Hrow4.out, Hown4.out.setCell (fun h => ?_) _, Hfr5.out, Hm4.out.setCell (fun _ => rfl) _⟩
              have := Hfr5.out _ h
              have h2 : w6.heap.size ≤ wb.heap.size := this
              omega
            case measure => simp [intOf]; omega
    · obtain rfl : j = L.length := by omega
      rw [List.take_length] at hn hown
      have hgr2 := hmr.heap Hgb.out (by omega)
      have hm0r : Mod (fun _ => False) w wo := Hm06.out.upon hmr (fun b hb => .inr (by omega))
      have e1 : wo.cell? ⟨w.heap.size, 1, none⟩ = some (.slice ea L.length ec) := cell_of hgr rfl
      have Hrow := Lib.hid hrow
      have Hown := Lib.hid hown
      have Hn := Lib.hid hn
      have Hgr2 := Lib.hid hgr2
      have Hm0r := Lib.hid hm0r
      have Hfo := Lib.hid hfo
      clear hrow hown hn hgr2 hm0r hfo hmr hgr
      go_wp2_with (first | ((with_reducible refine wpList_load_lit 40 (.tmp 9) ?_); refine ⟨wb.heap.size, 0, rfl, [.string es, .slice oa n oc], CellsAt.row Hrow.out, by kernel_rfl, by kernel_rfl, ?_⟩) | ((with_reducible refine wpList_store_row_lit 40 (.tmp 8) (.tmp 90) ?_); refine ⟨wa.heap.size, rfl, _, _, Hgr2.out, [.string es, .slice oa n oc], rfl, rfl, by kernel_rfl, rfl, ?_⟩; intro w9 hg9 hm9; have Hg9 := Lib.hid hg9; have Hm9 := Lib.hid hm9; clear hg9 hm9) | fail)
      refine bodyPost_cell rfl wa.heap.size rfl _ (CellsAt.row Hg9.out) (by kernel_rfl) (by kernel_rfl) rfl ⟨.slice oa n oc, rfl, ?_, ?_, ?_⟩
      · rw [← Hn.out]
        exact Hown.out.mod Hm9.out (fun b hb => by have := Hfo.out b hb; have := Hm06.out.size; omega)
      · exact fun b hb => by have := Hfo.out b hb; have := Hm06.out.size; omega
      · exact Hm0r.out.upon Hm9.out (fun b hb => .inr (by omega))
end Go.Proofs.Ytpfnemkfbelpcaa
