/-
  The document's answer for rules: Home, MayPublish, MayObserve over whatever Match and Covers answer.
-/
import Derived.Test.YtpfnemkfbelpcaaMayp
import Derived.Test.YtpfnemkfbelpcaaRight
import Derived.Test.YtpfnemkfbelpcaaHolds
namespace Go.Proofs.Ytpfnemkfbelpcaa
set_option maxRecDepth 20000
open Go.RowKit

theorem homeOf_take {l : List Ru} {tenant : Int} {who : ByteArray} {j : Nat} {x : Ru} (h : l[j]? = some x) : homeOf (l.take (j + 1)) tenant who = if x.of 0 tenant who = true then some x.broker else homeOf (l.take j) tenant who := by
  unfold homeOf
  rw [List.take_add_one, h]
  simp only [Option.toList, List.reverse_append, List.reverse_cons, List.reverse_nil, List.nil_append, List.cons_append, List.find?_cons]
  cases hx : x.of 0 tenant who <;> rfl
theorem of_cases {p : Prop} (r : Ru) (k tenant : Int) (who : ByteArray) (h1 : (r.kind == k) = false → r.of k tenant who = false → p) (h2 : (r.kind == k) = true → (r.tenant == tenant) = false → r.of k tenant who = false → p)
    (h3 : (r.kind == k) = true → (r.tenant == tenant) = true → (r.who.toList == who.toList) = false → r.of k tenant who = false → p)
    (h4 : (r.kind == k) = true → (r.tenant == tenant) = true → (r.who.toList == who.toList) = true → r.of k tenant who = true → p) : p := by
  cases a1 : r.kind == k
  · exact h1 a1 (by unfold Ru.of; rw [a1]; rfl)
  cases a2 : r.tenant == tenant
  · exact h2 a1 a2 (by unfold Ru.of; rw [a1, a2]; rfl)
  cases a3 : r.who.toList == who.toList
  · exact h3 a1 a2 a3 (by unfold Ru.of; rw [a1, a2, a3]; rfl)
  · exact h4 a1 a2 a3 (by unfold Ru.of; rw [a1, a2, a3]; rfl)

set_option maxHeartbeats 2000000 in
theorem rhome_at (w : World) (v : Value) (l : List Ru) (hv : RuSl w v l) (hll : l.length ≤ 1000000) (tenant : Int) (who : ByteArray) :
    Calls Try.prog 33 #[v, .int .i64 tenant, .string who] w fun e w' => e = .returned (.int .i64 ((homeOf l tenant who).getD (-1))) ∧ Mod (fun _ => False) w w' := by
  obtain ⟨a, cap, rfl, hcap⟩ : ∃ a c, v = .slice a l.length c ∧ l.length ≤ c := by obtain ⟨-, a, c, h, h2, -⟩ := hv.rd; exact ⟨a, c, h, h2⟩
  have hll' : (l.length : Int) ≤ 1000000 := by omega
  have hcap' : (l.length : Int) ≤ cap := by omega
  obtain ⟨R, hR⟩ : ∃ R, homeOf l tenant who = R := ⟨_, rfl⟩
  rw [hR]
  have Hv := Lib.hid hv
  have HR := Lib.hid hR
  clear hv hR hll
  go_enter Try.func33, Try.ntmps33
  go_wp2_with fail
  go_loopw [7, 8] (fun av i wr => ∃ j : Nat, i = .int .i64 j ∧ j ≤ l.length ∧ av = .int .i64 ((homeOf (l.take j) tenant who).getD (-1)) ∧ Mod (fun _ => False) w wr) (fun _ i _ => l.length - (intOf i).toNat)
  case atStart => exact ⟨0, rfl, Nat.zero_le _, rfl, Mod.refl _ _⟩
  case round =>
    obtain ⟨j, rfl, hj, rfl, hmr⟩ := hrel
    by_cases hlt : j < l.length
    · have hlt' : (j : Int) < l.length := by omega
      obtain ⟨x, hxj⟩ : ∃ x, l[j]? = some x := ⟨_, List.getElem?_eq_getElem hlt⟩
      obtain ⟨g, off, rfl, hf⟩ : ∃ g off, a = some ⟨g, off, none⟩ ∧ CellsAt wr g (off + j * 8) x.cells := rd_rule (Hv.out.mod hmr) hxj
      have c0 : wr.cell? ⟨g, off + j * 8, none⟩ = some (.int .i64 x.kind) := hf 0 _ rfl
      have c1 : wr.cell? ⟨g, off + j * 8 + 1, none⟩ = some (.int .i64 x.tenant) := hf 1 _ rfl
      have c2 : wr.cell? ⟨g, off + j * 8 + 2, none⟩ = some (.string x.who) := hf 2 _ rfl
      have c3 : wr.cell? ⟨g, off + j * 8 + 3, none⟩ = some (.int .i64 x.broker) := hf 3 _ rfl
      have hst := homeOf_take (tenant := tenant) (who := who) hxj
      obtain ⟨P, hP⟩ : ∃ P, homeOf (l.take j) tenant who = P := ⟨_, rfl⟩
      rw [hP] at hst ⊢
      have Hmr := Lib.hid hmr
      have Hxj := Lib.hid hxj
      have Hst := Lib.hid hst
      clear hmr hxj hst hP hf
      refine of_cases x 0 tenant who (fun h1 h4 => ?_) (fun h1 h2 h4 => ?_) (fun h1 h2 h3 h4 => ?_) (fun h1 h2 h3 h4 => ?_)
      all_goals
        have Hst := Lib.hid (show homeOf (l.take (j + 1)) tenant who = (if x.of 0 tenant who = true then some x.broker else P) from Hst.out)
        rw [h4] at Hst
        clear h4
        go_wp2_with fail
        go_roundw
        case rel => exact ⟨j + 1, by go_num, hlt, by rw [Hst.out]; rfl, Hmr.out⟩
        case measure => simp [intOf]; omega
    · obtain rfl : j = l.length := by omega
      rw [List.take_length, HR.out]
      have Hmr := Lib.hid hmr
      clear hmr
      go_wp2
      go_ret
      exact ⟨rfl, Hmr.out⟩

set_option maxRecDepth 20000 in
set_option maxHeartbeats 8000000 in
theorem rmay_publish (tenant : Int) (who : ByteArray) (m : Ru → Bool) (w : World) (v : Value) (l : List Ru) (hv : RuSl w v l) (hll : l.length ≤ 1000000) (hbr : ∀ r ∈ l, r.of 0 tenant who = true → 0 ≤ r.broker) (es : ByteArray) (ea : Option Addr) (en ec : Nat)
    (hm : ∀ r ∈ l, ∀ wx, Mod (fun _ => False) w wx → r.of 1 tenant who = true → Calls Try.prog 20 #[.agg #[.string r.sc, r.cv], .agg #[.string es, .slice ea en ec]] wx fun e w' => e = .returned (.bool (m r)) ∧ Mod (fun _ => False) wx w') :
    Calls Try.prog 34 #[v, .int .i64 tenant, .string who, .agg #[.string es, .slice ea en ec]] w fun e w' =>
      e = .returned (.bool ((homeOf l tenant who).isSome && l.any fun r => r.of 1 tenant who && m r)) ∧ Mod (fun _ => False) w w' := by
  obtain ⟨a, cap, rfl, hcap⟩ : ∃ a c, v = .slice a l.length c ∧ l.length ≤ c := by obtain ⟨-, a, c, h, h2, -⟩ := hv.rd; exact ⟨a, c, h, h2⟩
  have hll' : (l.length : Int) ≤ 1000000 := by omega
  have hcap' : (l.length : Int) ≤ cap := by omega
  obtain ⟨wa, hwa⟩ : ∃ wa : World, w.alloc (.cells #[.string es, .slice ea en ec] 40) = wa := ⟨_, rfl⟩
  have hmwa : Mod (fun _ => False) w wa := hwa ▸ (Mod.refl (fun _ => False) w).alloc _
  have hgwa := heap_alloc_new w (.cells #[.string es, .slice ea en ec] 40)
  rw [hwa] at hgwa
  have hzwa : wa.heap.size = w.heap.size + 1 := by rw [← hwa]; simp
  have hva := hv.mod hmwa
  have hho := rhome_at wa (.slice a l.length cap) l hva hll tenant who
  have hqz : w.heap.size < wa.heap.size := by omega
  have hnn : ∀ b, homeOf l tenant who = some b → 0 ≤ b := fun b hb => by
    unfold homeOf at hb
    cases hf : l.reverse.find? (fun r => r.of 0 tenant who) with
    | none => rw [hf] at hb; cases hb
    | some r =>
      rw [hf] at hb
      cases hb
      exact hbr r (List.mem_reverse.1 (List.mem_of_find?_eq_some hf)) (List.find?_some (p := fun r : Ru => r.of 0 tenant who) hf)
  obtain ⟨R, hR⟩ : ∃ R, ((homeOf l tenant who).isSome && l.any fun r => r.of 1 tenant who && m r) = R := ⟨_, rfl⟩
  rw [hR]
  have Hv := Lib.hid hv
  have Hm := Lib.hid hm
  have Hwa := Lib.hid hwa
  have Hmwa := Lib.hid hmwa
  have Hgwa := Lib.hid hgwa
  have Hva := Lib.hid hva
  have Hho := Lib.hid hho
  have HR := Lib.hid hR
  have Hbr := Lib.hid hbr
  have Hnn := Lib.hid hnn
  clear hv hm hwa hmwa hgwa hva hho hR hbr hnn hzwa hll
  go_enter Try.func34, Try.ntmps34
  go_wp2_with (first | (rw [show w.alloc _ = wa from Hwa.out]) | fail)
  refine Hho.out.mono ?_
  rintro e w1 ⟨rfl, hm1⟩
  have hm01 := Hmwa.out.trans hm1 (fun _ _ h => h)
  have hg1 := hm1.heap Hgwa.out (fun h => h)
  have Hm01 := Lib.hid hm01
  have Hg1 := Lib.hid hg1
  clear hm01 hg1 hm1 Hho
  cases hh : homeOf l tenant who with
  | none =>
    have Hh := Lib.hid hh
    clear hh
    go_wp2
    go_ret
    exact ⟨ret_bool (by rw [← HR.out, Hh.out]; rfl), Hm01.out⟩
  | some h0 =>
  have hR2 : (l.any fun r => r.of 1 tenant who && m r) = R := by rw [← HR.out, hh]; rfl
  have hh0 := Hnn.out h0 hh
  have hgd : (some h0).getD (-1) = h0 := rfl
  rw [hgd]
  have HR2 := Lib.hid hR2
  clear hR2 hh HR hgd Hnn
  go_wp2_with fail
  go_loopw [9] (fun i wr => ∃ j : Nat, i = .int .i64 j ∧ j ≤ l.length ∧ Mod (fun _ => False) w1 wr ∧ (∀ (k : Nat) (x : Ru), k < j → l[k]? = some x → (x.of 1 tenant who && m x) = false)) (fun i _ => l.length - (intOf i).toNat)
  case atStart => exact ⟨0, rfl, Nat.zero_le _, Mod.refl _ _, fun k x hk => by omega⟩
  case round =>
    obtain ⟨j, rfl, hj, hmr, hall⟩ := hrel
    by_cases hlt : j < l.length
    · have hlt' : (j : Int) < l.length := by omega
      obtain ⟨x, hxj⟩ : ∃ x, l[j]? = some x := ⟨_, List.getElem?_eq_getElem hlt⟩
      have hxm := List.mem_of_getElem? hxj
      have hm0r := Hm01.out.trans hmr (fun _ _ h => h)
      obtain ⟨g, off, rfl, hf⟩ : ∃ g off, a = some ⟨g, off, none⟩ ∧ CellsAt wr g (off + j * 8) x.cells := rd_rule (Hv.out.mod hm0r) hxj
      have hge := hmr.heap Hg1.out (fun h => h)
      have hfc : ∀ w', Mod (fun _ => False) wr w' → w'.cell? ⟨g, off + j * 8, none⟩ = some (.int .i64 x.kind) ∧ w'.cell? ⟨g, off + j * 8 + 1, none⟩ = some (.int .i64 x.tenant) ∧ w'.cell? ⟨g, off + j * 8 + 2, none⟩ = some (.string x.who) ∧
          w'.cell? ⟨g, off + j * 8 + 4, none⟩ = some (.string x.sc) ∧ w'.cell? ⟨g, off + j * 8 + 5, none⟩ = some (.slice x.ca x.cs.length x.cc) ∧ w'.cell? ⟨w.heap.size, 0, none⟩ = some (.string es) ∧ w'.cell? ⟨w.heap.size, 1, none⟩ = some (.slice ea en ec) := fun w' hw' => by
        have h2 := hf.mod hw' (fun h => h)
        have h3 := hw'.heap hge (fun h => h)
        exact ⟨h2 0 _ rfl, h2 1 _ rfl, h2 2 _ rfl, h2 4 _ rfl, h2 5 _ rfl, cell_of h3 rfl, cell_of h3 rfl⟩
      have hmt : x.of 1 tenant who = true → ∀ w', Mod (fun _ => False) wr w' → Calls Try.prog 20 #[.agg #[.string x.sc, .slice x.ca x.cs.length x.cc], .agg #[.string es, .slice ea en ec]] w' fun e w'' => e = .returned (.bool (m x)) ∧ Mod (fun _ => False) wr w'' :=
        fun ho w' hw' => (Hm.out x hxm w' (hm0r.trans hw' (fun _ _ h => h)) ho).mono fun e w'' h => ⟨h.1, hw'.trans h.2 (fun _ _ h => h)⟩
      obtain ⟨B, hB⟩ : ∃ B, m x = B := ⟨_, rfl⟩
      rw [hB] at hmt
      have Hmr := Lib.hid hmr
      have Hall := Lib.hid hall
      have Hxj := Lib.hid hxj
      have Hxm := Lib.hid hxm
      have Hf := Lib.hid hf
      have Hfc := Lib.hid hfc
      have Hmt := Lib.hid hmt
      have HB := Lib.hid hB
      clear hmr hall hxj hxm hf hfc hmt hB hge hm0r
      refine of_cases x 1 tenant who (fun h1 h4 => ?_) (fun h1 h2 h4 => ?_) (fun h1 h2 h3 h4 => ?_) (fun h1 h2 h3 h4 => ?_)
      iterate 3 (
        have Ho := Lib.hid h4
        clear h4 Hmt
        go_wp2_with fail
        refine wp_region_news (by kernel_rfl) (by kernel_rfl) ?_
        iterate 33 (first
          | (refine quiet_skip ?_ (fun K hK => ?_)
             · first | (go_simp; done) | (go_simp; simp [undef]; done)
             go_simp; refine hK _ ?_; clear hK K)
          | (refine quiet_do ?_ ?_ (fun w' hw' => ?_) (fun K hK => ?_)
             · first | (go_simp; done) | (go_simp; simp [undef]; done)
             rotate_left
             · obtain ⟨f1, f2, f3, f4, f5, f6, f7⟩ := Hfc.out w' hw'
               go_simp
               rfl
             go_simp; refine hK _ ?_; clear hK K))
        refine quiet_end (fun w' hw' => ?_)
        have Hw' := Lib.hid (Hmr.out.trans hw' (fun _ _ h => h))
        clear hw'
        go_wp2_with fail
        go_roundw
        case rel =>
          refine ⟨j + 1, by go_num, hlt, Hw'.out, fun k x' hk hx' => ?_⟩
          rcases Nat.lt_succ_iff_lt_or_eq.1 hk with hk | rfl
          · exact Hall.out k x' hk hx'
          · rw [Hxj.out] at hx'; cases hx'; rw [Ho.out]; rfl
        case measure => simp [intOf]; omega)
      have Ho := Lib.hid h4
      have Hmt := Lib.hid (Hmt.out h4)
      clear h4
      cases B with
      | false =>
        go_wp2_with fail
        refine wp_region_news (by kernel_rfl) (by kernel_rfl) ?_
        iterate 33 (first
          | (refine quiet_skip ?_ (fun K hK => ?_)
             · first | (go_simp; done) | (go_simp; simp [undef]; done)
             go_simp; refine hK _ ?_; clear hK K)
          | (refine quiet_do ?_ ?_ (fun w' hw' => ?_) (fun K hK => ?_)
             · first | (go_simp; done) | (go_simp; simp [undef]; done)
             rotate_left
             · obtain ⟨f1, f2, f3, f4, f5, f6, f7⟩ := Hfc.out w' hw'
               go_simp
               rfl
             go_simp; refine hK _ ?_; clear hK K)
          | (refine quiet_in ?_ ?_ ?_ ?_ (fun w' hw' => ?_) ?_ (fun K hK => ?_)
             · first | (go_simp; done) | (go_simp; simp [undef]; done)
             rotate_left 3
             · obtain ⟨f1, f2, f3, f4, f5, f6, f7⟩ := Hfc.out w' hw'
               go_simp
               constructor <;> rfl
             · first | exact Hmt.out
             go_simp; refine hK _ ?_; clear hK K))
        refine quiet_end (fun w' hw' => ?_)
        have Hw' := Lib.hid (Hmr.out.trans hw' (fun _ _ h => h))
        clear hw'
        go_wp2_with fail
        go_roundw
        case rel =>
          refine ⟨j + 1, by go_num, hlt, Hw'.out, fun k x' hk hx' => ?_⟩
          rcases Nat.lt_succ_iff_lt_or_eq.1 hk with hk | rfl
          · exact Hall.out k x' hk hx'
          · rw [Hxj.out] at hx'; cases hx'; rw [Ho.out, HB.out]; rfl
        case measure => simp [intOf]; omega
      | true =>
        go_wp2_with fail
        refine wp_region_news (by kernel_rfl) (by kernel_rfl) ?_
        iterate 33 (first
          | (refine quiet_skip ?_ (fun K hK => ?_)
             · first | (go_simp; done) | (go_simp; simp [undef]; done)
             go_simp; refine hK _ ?_; clear hK K)
          | (refine quiet_do ?_ ?_ (fun w' hw' => ?_) (fun K hK => ?_)
             · first | (go_simp; done) | (go_simp; simp [undef]; done)
             rotate_left
             · obtain ⟨f1, f2, f3, f4, f5, f6, f7⟩ := Hfc.out w' hw'
               go_simp
               rfl
             go_simp; refine hK _ ?_; clear hK K)
          | (refine quiet_in ?_ ?_ ?_ ?_ (fun w' hw' => ?_) ?_ (fun K hK => ?_)
             · first | (go_simp; done) | (go_simp; simp [undef]; done)
             rotate_left 3
             · obtain ⟨f1, f2, f3, f4, f5, f6, f7⟩ := Hfc.out w' hw'
               go_simp
               constructor <;> rfl
             · first | exact Hmt.out
             go_simp; refine hK _ ?_; clear hK K))
        refine quiet_end (fun w' hw' => ?_)
        have Hw' := Lib.hid (Hmr.out.trans hw' (fun _ _ h => h))
        clear hw'
        go_wp2
        go_ret
        exact ⟨ret_bool (by rw [← HR2.out, List.any_eq_true.2 ⟨x, Hxm.out, by rw [Ho.out, HB.out]; rfl⟩]), Hm01.out.trans Hw'.out (fun _ _ h => h)⟩
    · obtain rfl : j = l.length := by omega
      have hm0r := Hm01.out.trans hmr (fun _ _ h => h)
      have hf : R = false := by
        rw [← HR2.out, List.any_eq_false.2 fun x hx => by
          obtain ⟨k, hk⟩ := List.mem_iff_getElem?.1 hx
          rw [hall k x (List.getElem?_eq_some_iff.1 hk).1 hk]
          decide]
      have Hm0r := Lib.hid hm0r
      have Hf := Lib.hid hf
      clear hm0r hf hmr hall
      go_wp2
      go_ret
      exact ⟨ret_bool Hf.out, Hm0r.out⟩

set_option maxRecDepth 20000 in
set_option maxHeartbeats 8000000 in
theorem rmay_observe (tenant : Int) (who : ByteArray) (m : Ru → Bool) (w : World) (v : Value) (l : List Ru) (hv : RuSl w v l) (hll : l.length ≤ 1000000) (hbr : ∀ r ∈ l, r.of 0 tenant who = true → 0 ≤ r.broker) (es : ByteArray) (ea : Option Addr) (en ec : Nat)
    (hm : ∀ r ∈ l, ∀ wx, Mod (fun _ => False) w wx → r.of 2 tenant who = true → Calls Try.prog 30 #[.agg #[.string r.sc, r.cv], .agg #[.string es, .slice ea en ec]] wx fun e w' => e = .returned (.bool (m r)) ∧ Mod (fun _ => False) wx w') :
    Calls Try.prog 29 #[v, .int .i64 tenant, .string who, .agg #[.string es, .slice ea en ec]] w fun e w' =>
      e = .returned (.bool ((homeOf l tenant who).isSome && l.any fun r => r.of 2 tenant who && m r)) ∧ Mod (fun _ => False) w w' := by
  obtain ⟨a, cap, rfl, hcap⟩ : ∃ a c, v = .slice a l.length c ∧ l.length ≤ c := by obtain ⟨-, a, c, h, h2, -⟩ := hv.rd; exact ⟨a, c, h, h2⟩
  have hll' : (l.length : Int) ≤ 1000000 := by omega
  have hcap' : (l.length : Int) ≤ cap := by omega
  obtain ⟨wa, hwa⟩ : ∃ wa : World, w.alloc (.cells #[.string es, .slice ea en ec] 33) = wa := ⟨_, rfl⟩
  have hmwa : Mod (fun _ => False) w wa := hwa ▸ (Mod.refl (fun _ => False) w).alloc _
  have hgwa := heap_alloc_new w (.cells #[.string es, .slice ea en ec] 33)
  rw [hwa] at hgwa
  have hzwa : wa.heap.size = w.heap.size + 1 := by rw [← hwa]; simp
  have hva := hv.mod hmwa
  have hho := rhome_at wa (.slice a l.length cap) l hva hll tenant who
  have hqz : w.heap.size < wa.heap.size := by omega
  have hnn : ∀ b, homeOf l tenant who = some b → 0 ≤ b := fun b hb => by
    unfold homeOf at hb
    cases hf : l.reverse.find? (fun r => r.of 0 tenant who) with
    | none => rw [hf] at hb; cases hb
    | some r =>
      rw [hf] at hb
      cases hb
      exact hbr r (List.mem_reverse.1 (List.mem_of_find?_eq_some hf)) (List.find?_some (p := fun r : Ru => r.of 0 tenant who) hf)
  obtain ⟨R, hR⟩ : ∃ R, ((homeOf l tenant who).isSome && l.any fun r => r.of 2 tenant who && m r) = R := ⟨_, rfl⟩
  rw [hR]
  have Hv := Lib.hid hv
  have Hm := Lib.hid hm
  have Hwa := Lib.hid hwa
  have Hmwa := Lib.hid hmwa
  have Hgwa := Lib.hid hgwa
  have Hva := Lib.hid hva
  have Hho := Lib.hid hho
  have HR := Lib.hid hR
  have Hbr := Lib.hid hbr
  have Hnn := Lib.hid hnn
  clear hv hm hwa hmwa hgwa hva hho hR hbr hnn hzwa hll
  go_enter Try.func29, Try.ntmps29
  go_wp2_with (first | (rw [show w.alloc _ = wa from Hwa.out]) | fail)
  refine Hho.out.mono ?_
  rintro e w1 ⟨rfl, hm1⟩
  have hm01 := Hmwa.out.trans hm1 (fun _ _ h => h)
  have hg1 := hm1.heap Hgwa.out (fun h => h)
  have Hm01 := Lib.hid hm01
  have Hg1 := Lib.hid hg1
  clear hm01 hg1 hm1 Hho
  cases hh : homeOf l tenant who with
  | none =>
    have Hh := Lib.hid hh
    clear hh
    go_wp2
    go_ret
    exact ⟨ret_bool (by rw [← HR.out, Hh.out]; rfl), Hm01.out⟩
  | some h0 =>
  have hR2 : (l.any fun r => r.of 2 tenant who && m r) = R := by rw [← HR.out, hh]; rfl
  have hh0 := Hnn.out h0 hh
  have hgd : (some h0).getD (-1) = h0 := rfl
  rw [hgd]
  have HR2 := Lib.hid hR2
  clear hR2 hh HR hgd Hnn
  go_wp2_with fail
  go_loopw [9] (fun i wr => ∃ j : Nat, i = .int .i64 j ∧ j ≤ l.length ∧ Mod (fun _ => False) w1 wr ∧ (∀ (k : Nat) (x : Ru), k < j → l[k]? = some x → (x.of 2 tenant who && m x) = false)) (fun i _ => l.length - (intOf i).toNat)
  case atStart => exact ⟨0, rfl, Nat.zero_le _, Mod.refl _ _, fun k x hk => by omega⟩
  case round =>
    obtain ⟨j, rfl, hj, hmr, hall⟩ := hrel
    by_cases hlt : j < l.length
    · have hlt' : (j : Int) < l.length := by omega
      obtain ⟨x, hxj⟩ : ∃ x, l[j]? = some x := ⟨_, List.getElem?_eq_getElem hlt⟩
      have hxm := List.mem_of_getElem? hxj
      have hm0r := Hm01.out.trans hmr (fun _ _ h => h)
      obtain ⟨g, off, rfl, hf⟩ : ∃ g off, a = some ⟨g, off, none⟩ ∧ CellsAt wr g (off + j * 8) x.cells := rd_rule (Hv.out.mod hm0r) hxj
      have hge := hmr.heap Hg1.out (fun h => h)
      have hfc : ∀ w', Mod (fun _ => False) wr w' → w'.cell? ⟨g, off + j * 8, none⟩ = some (.int .i64 x.kind) ∧ w'.cell? ⟨g, off + j * 8 + 1, none⟩ = some (.int .i64 x.tenant) ∧ w'.cell? ⟨g, off + j * 8 + 2, none⟩ = some (.string x.who) ∧
          w'.cell? ⟨g, off + j * 8 + 4, none⟩ = some (.string x.sc) ∧ w'.cell? ⟨g, off + j * 8 + 5, none⟩ = some (.slice x.ca x.cs.length x.cc) ∧ w'.cell? ⟨w.heap.size, 0, none⟩ = some (.string es) ∧ w'.cell? ⟨w.heap.size, 1, none⟩ = some (.slice ea en ec) := fun w' hw' => by
        have h2 := hf.mod hw' (fun h => h)
        have h3 := hw'.heap hge (fun h => h)
        exact ⟨h2 0 _ rfl, h2 1 _ rfl, h2 2 _ rfl, h2 4 _ rfl, h2 5 _ rfl, cell_of h3 rfl, cell_of h3 rfl⟩
      have hmt : x.of 2 tenant who = true → ∀ w', Mod (fun _ => False) wr w' → Calls Try.prog 30 #[.agg #[.string x.sc, .slice x.ca x.cs.length x.cc], .agg #[.string es, .slice ea en ec]] w' fun e w'' => e = .returned (.bool (m x)) ∧ Mod (fun _ => False) wr w'' :=
        fun ho w' hw' => (Hm.out x hxm w' (hm0r.trans hw' (fun _ _ h => h)) ho).mono fun e w'' h => ⟨h.1, hw'.trans h.2 (fun _ _ h => h)⟩
      obtain ⟨B, hB⟩ : ∃ B, m x = B := ⟨_, rfl⟩
      rw [hB] at hmt
      have Hmr := Lib.hid hmr
      have Hall := Lib.hid hall
      have Hxj := Lib.hid hxj
      have Hxm := Lib.hid hxm
      have Hf := Lib.hid hf
      have Hfc := Lib.hid hfc
      have Hmt := Lib.hid hmt
      have HB := Lib.hid hB
      clear hmr hall hxj hxm hf hfc hmt hB hge hm0r
      refine of_cases x 2 tenant who (fun h1 h4 => ?_) (fun h1 h2 h4 => ?_) (fun h1 h2 h3 h4 => ?_) (fun h1 h2 h3 h4 => ?_)
      iterate 3 (
        have Ho := Lib.hid h4
        clear h4 Hmt
        go_wp2_with fail
        refine wp_region_news (by kernel_rfl) (by kernel_rfl) ?_
        iterate 33 (first
          | (refine quiet_skip ?_ (fun K hK => ?_)
             · first | (go_simp; done) | (go_simp; simp [undef]; done)
             go_simp; refine hK _ ?_; clear hK K)
          | (refine quiet_do ?_ ?_ (fun w' hw' => ?_) (fun K hK => ?_)
             · first | (go_simp; done) | (go_simp; simp [undef]; done)
             rotate_left
             · obtain ⟨f1, f2, f3, f4, f5, f6, f7⟩ := Hfc.out w' hw'
               go_simp
               rfl
             go_simp; refine hK _ ?_; clear hK K))
        refine quiet_end (fun w' hw' => ?_)
        have Hw' := Lib.hid (Hmr.out.trans hw' (fun _ _ h => h))
        clear hw'
        go_wp2_with fail
        go_roundw
        case rel =>
          refine ⟨j + 1, by go_num, hlt, Hw'.out, fun k x' hk hx' => ?_⟩
          rcases Nat.lt_succ_iff_lt_or_eq.1 hk with hk | rfl
          · exact Hall.out k x' hk hx'
          · rw [Hxj.out] at hx'; cases hx'; rw [Ho.out]; rfl
        case measure => simp [intOf]; omega)
      have Ho := Lib.hid h4
      have Hmt := Lib.hid (Hmt.out h4)
      clear h4
      cases B with
      | false =>
        go_wp2_with fail
        refine wp_region_news (by kernel_rfl) (by kernel_rfl) ?_
        iterate 33 (first
          | (refine quiet_skip ?_ (fun K hK => ?_)
             · first | (go_simp; done) | (go_simp; simp [undef]; done)
             go_simp; refine hK _ ?_; clear hK K)
          | (refine quiet_do ?_ ?_ (fun w' hw' => ?_) (fun K hK => ?_)
             · first | (go_simp; done) | (go_simp; simp [undef]; done)
             rotate_left
             · obtain ⟨f1, f2, f3, f4, f5, f6, f7⟩ := Hfc.out w' hw'
               go_simp
               rfl
             go_simp; refine hK _ ?_; clear hK K)
          | (refine quiet_in ?_ ?_ ?_ ?_ (fun w' hw' => ?_) ?_ (fun K hK => ?_)
             · first | (go_simp; done) | (go_simp; simp [undef]; done)
             rotate_left 3
             · obtain ⟨f1, f2, f3, f4, f5, f6, f7⟩ := Hfc.out w' hw'
               go_simp
               constructor <;> rfl
             · first | exact Hmt.out
             go_simp; refine hK _ ?_; clear hK K))
        refine quiet_end (fun w' hw' => ?_)
        have Hw' := Lib.hid (Hmr.out.trans hw' (fun _ _ h => h))
        clear hw'
        go_wp2_with fail
        go_roundw
        case rel =>
          refine ⟨j + 1, by go_num, hlt, Hw'.out, fun k x' hk hx' => ?_⟩
          rcases Nat.lt_succ_iff_lt_or_eq.1 hk with hk | rfl
          · exact Hall.out k x' hk hx'
          · rw [Hxj.out] at hx'; cases hx'; rw [Ho.out, HB.out]; rfl
        case measure => simp [intOf]; omega
      | true =>
        go_wp2_with fail
        refine wp_region_news (by kernel_rfl) (by kernel_rfl) ?_
        iterate 33 (first
          | (refine quiet_skip ?_ (fun K hK => ?_)
             · first | (go_simp; done) | (go_simp; simp [undef]; done)
             go_simp; refine hK _ ?_; clear hK K)
          | (refine quiet_do ?_ ?_ (fun w' hw' => ?_) (fun K hK => ?_)
             · first | (go_simp; done) | (go_simp; simp [undef]; done)
             rotate_left
             · obtain ⟨f1, f2, f3, f4, f5, f6, f7⟩ := Hfc.out w' hw'
               go_simp
               rfl
             go_simp; refine hK _ ?_; clear hK K)
          | (refine quiet_in ?_ ?_ ?_ ?_ (fun w' hw' => ?_) ?_ (fun K hK => ?_)
             · first | (go_simp; done) | (go_simp; simp [undef]; done)
             rotate_left 3
             · obtain ⟨f1, f2, f3, f4, f5, f6, f7⟩ := Hfc.out w' hw'
               go_simp
               constructor <;> rfl
             · first | exact Hmt.out
             go_simp; refine hK _ ?_; clear hK K))
        refine quiet_end (fun w' hw' => ?_)
        have Hw' := Lib.hid (Hmr.out.trans hw' (fun _ _ h => h))
        clear hw'
        go_wp2
        go_ret
        exact ⟨ret_bool (by rw [← HR2.out, List.any_eq_true.2 ⟨x, Hxm.out, by rw [Ho.out, HB.out]; rfl⟩]), Hm01.out.trans Hw'.out (fun _ _ h => h)⟩
    · obtain rfl : j = l.length := by omega
      have hm0r := Hm01.out.trans hmr (fun _ _ h => h)
      have hf : R = false := by
        rw [← HR2.out, List.any_eq_false.2 fun x hx => by
          obtain ⟨k, hk⟩ := List.mem_iff_getElem?.1 hx
          rw [hall k x (List.getElem?_eq_some_iff.1 hk).1 hk]
          decide]
      have Hm0r := Lib.hid hm0r
      have Hf := Lib.hid hf
      clear hm0r hf hmr hall
      go_wp2
      go_ret
      exact ⟨ret_bool Hf.out, Hm0r.out⟩
end Go.Proofs.Ytpfnemkfbelpcaa
