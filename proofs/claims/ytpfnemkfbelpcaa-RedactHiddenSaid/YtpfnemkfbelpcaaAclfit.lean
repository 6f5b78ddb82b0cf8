/-
  Chapter 10's anchor.
-/
import Derived.Test.YtpfnemkfbelpcaaMayp
import Derived.Test.YtpfnemkfbelpcaaPlan5
namespace Go.Proofs.Ytpfnemkfbelpcaa
set_option maxRecDepth 20000
open Go.RowKit

def ru0 : Ru := ⟨0, 0, ⟨#[97]⟩, 0, ⟨#[]⟩, none, 0, ⟨#[]⟩, 0, []⟩
def ru1 : Ru := ⟨1, 0, ⟨#[97]⟩, 0, ⟨#[]⟩, none, 0, ⟨#[]⟩, 0, []⟩
theorem ru_ok (w : World) (r : Ru) (h : r = ru0 ∨ r = ru1) : r.ok w := by
  rcases h with rfl | rfl <;> exact ⟨⟨rfl, none, 0, rfl, Nat.le_refl _, fun _ => rfl, fun b hb => by cases hb⟩, by decide, by decide, by decide, by decide, fun c hc => by cases hc⟩

theorem pub_yes : ((homeOf [ru0, ru1] 0 ⟨#[97]⟩).isSome && [ru0, ru1].any fun r => r.of 1 0 ⟨#[97]⟩ && underB ⟨#[120]⟩ r.sc) = true := by decide +kernel
theorem pub_no : ((homeOf [ru1] 0 ⟨#[97]⟩).isSome && [ru1].any fun r => r.of 1 0 ⟨#[97]⟩ && underB ⟨#[120]⟩ r.sc) = false := by decide +kernel
theorem scope_x : scRight ⟨#[120]⟩ = true := by decide +kernel
theorem fil_none : filRight ⟨#[]⟩ [] = true := by decide +kernel

/-- Rules without conditions. -/
theorem pub_at (w : World) (v : Value) (l : List Ru) (hv : RuSl w v l) (hl : ∀ r ∈ l, r = ru0 ∨ r = ru1) (hll : l.length ≤ 2) : Calls Try.prog 31 #[v, .int .i64 0, .string ⟨#[97]⟩, .agg #[.string ⟨#[120]⟩, .slice none 0 0]] w fun e w' =>
    e = .returned (.bool ((homeOf l 0 ⟨#[97]⟩).isSome && l.any fun r => r.of 1 0 ⟨#[97]⟩ && underB ⟨#[120]⟩ r.sc)) ∧ Mod (fun _ => False) w w' := by
  refine may_publish (fun r => underB ⟨#[120]⟩ r.sc) w v l hv (by omega) 0 ⟨#[97]⟩ ⟨#[120]⟩ none 0 0 fun r hr wx hwx => ?_
  have h := (hv.ok r hr).mod hwx
  have hc : r.cs = [] := by rcases hl r hr with rfl | rfl <;> rfl
  have := match_over (fun _ => true) wx r.sc r.cv r.cs ⟨#[120]⟩ (.slice none 0 0) none 0 0 rfl h.rd (by have := h.len; omega) (by have := h.sc; omega) (by decide) (fun c hc' => by rw [hc] at hc'; cases hc')
  rw [hc] at this
  exact this

set_option maxHeartbeats 4000000 in
theorem fit10_at (w : World) : Calls Try.prog 24 #[] w fun e w' => e = .returned (.bool true) ∧ Mod (fun _ => False) w w' := by
  obtain ⟨wa, hwa⟩ : ∃ wa : World, w.alloc (.cells (rus [ru0, ru1]).toArray 35) = wa := ⟨_, rfl⟩
  have hmwa : Mod (fun _ => False) w wa := hwa ▸ (Mod.refl (fun _ => False) w).alloc _
  have hgwa := heap_alloc_new w (.cells (rus [ru0, ru1]).toArray 35)
  rw [hwa] at hgwa
  have hzwa : wa.heap.size = w.heap.size + 1 := by rw [← hwa]; simp
  obtain ⟨wb, hwb⟩ : ∃ wb : World, wa.alloc (.cells #[.string ⟨#[120]⟩, .slice none 0 0] 40) = wb := ⟨_, rfl⟩
  have hmwb : Mod (fun _ => False) wa wb := hwb ▸ (Mod.refl (fun _ => False) wa).alloc _
  have hgwb := heap_alloc_new wa (.cells #[.string ⟨#[120]⟩, .slice none 0 0] 40)
  rw [hwb] at hgwb
  have hzwb : wb.heap.size = wa.heap.size + 1 := by rw [← hwb]; simp
  have hmb := hmwa.trans hmwb (fun _ _ h => h)
  have hg := hmwb.heap hgwa (fun h => h)
  have hv : RuSl wb (.slice (some ⟨w.heap.size, 0, none⟩) 2 2) [ru0, ru1] := ⟨⟨rfl, _, _, rfl, Nat.le_refl _, (fun h => by cases h), fun b hb _ => ⟨_, 0, (by cases hb; rfl), fun j u hu => by rw [Nat.zero_add]; exact cell_of hg (by simpa using hu)⟩⟩, fun r hr => ru_ok _ r (by simpa using hr)⟩
  have hv1 : RuSl wb (.slice (some ⟨w.heap.size, 8, none⟩) 1 1) [ru1] := ⟨⟨rfl, _, _, rfl, Nat.le_refl _, (fun h => by cases h), fun b hb _ => ⟨_, 8, (by cases hb; rfl), fun j u hu => cell_of hg (by
    have h2 : (rus [ru1])[j]? = some u := hu
    have h3 : (rus [ru0, ru1])[8 + j]? = some u := by rw [rus_cons, List.getElem?_append_right (by rw [Ru.cells_length]; omega), Ru.cells_length, Nat.add_sub_cancel_left]; exact h2
    simpa using h3)⟩⟩, fun r hr => ru_ok _ r (.inr (by simpa using hr))⟩
  have hwa' : w.alloc (.cells #[.int .i64 0, .int .i64 0, .string ⟨#[97]⟩, .int .i64 0, .string ⟨#[]⟩, .slice none 0 0, .string ⟨#[]⟩, .int .i64 0, .int .i64 1, .int .i64 0, .string ⟨#[97]⟩, .int .i64 0, .string ⟨#[]⟩, .slice none 0 0, .string ⟨#[]⟩, .int .i64 0] 35) = wa := hwa
  have Hmb := Lib.hid hmb
  have Hg := Lib.hid hg
  have Hv := Lib.hid hv
  have Hv1 := Lib.hid hv1
  have Hgwb := Lib.hid hgwb
  have Hwa' := Lib.hid hwa'
  have Hwb := Lib.hid hwb
  clear hmb hg hv hv1 hgwb hwa' hwb hwa hmwa hmwb hgwa hzwa hzwb
  go_enter Try.func24, Try.ntmps24
  go_wp2_with (first | (rw [Hwa'.out]) | (rw [Hwb.out]) | fail)
  refine wp_region_news2 [.rd 0, .rd 1, .go 2, .go 3, .rd 4, .rd 5, .rd 6, .go 7, .go 8, .go 9, .go 10, .go 11, .go 12, .go 13, .rd 14, .go 15, .go 16, .go 17, .go 18, .go 19, .go 20, .go 21] [0, 1, 2, 3, 4, 5, 6, 7, 8, 9, 10, 11, 12, 13, 14, 15, 16, 17, 18, 19, 20] (by kernel_rfl) (by kernel_rfl) (fun _ _ d _ _ h => (by cases d <;> exact h)) ?_
  refine news_pure rfl ?_ ?_ (fun w0 => ?_) (fun K hK => ?_)
  · (try simp only [List.getElem_toArray]); (try simp only [List.getElem_cons_succ]); (try simp only [List.getElem_cons_zero])
    go_simp; done
  rotate_left
  · (try simp only [List.getElem_toArray]); (try simp only [List.getElem_cons_succ]); (try simp only [List.getElem_cons_zero])
    go_simp; with_reducible rfl
  (try simp only [List.getElem_toArray]); (try simp only [List.getElem_cons_succ]); (try simp only [List.getElem_cons_zero])
  go_simp; refine hK _ ?_; clear hK K
  refine news_rd rfl rfl ?_ ((fun y : World => y.heap[wa.heap.size]? = some (.cells #[.string ⟨#[120]⟩, .slice none 0 0] 40 (0, 0)))) ((fun _ _ m h => m.heap h (fun h => h))) (heap_drew_ Hgwb.out) ?_ (fun w0 h0 => ?_) (fun K hK => ?_)
  · (try simp only [List.getElem_toArray]); (try simp only [List.getElem_cons_succ]); (try simp only [List.getElem_cons_zero])
    go_simp; done
  rotate_left
  · (try simp only [List.getElem_toArray]); (try simp only [List.getElem_cons_succ]); (try simp only [List.getElem_cons_zero])
    have f0 := cell_of (j := 0) h0 rfl; have f1 := cell_of (j := 1) h0 rfl; clear h0; go_simp; with_reducible rfl
  (try simp only [List.getElem_toArray]); (try simp only [List.getElem_cons_succ]); (try simp only [List.getElem_cons_zero])
  go_simp; refine hK _ ?_; clear hK K
  refine news_one (newsgo_yes rfl ?_ (fun K hK => ?_))
  · (try simp only [List.getElem_toArray]); (try simp only [List.getElem_cons_succ]); (try simp only [List.getElem_cons_zero])
    go_simp; done
  go_wp2_with fail
  have hp1 := pub_at wb.drew (.slice (some ⟨w.heap.size, 0, none⟩) 2 2) [ru0, ru1] (Hv.out.mod (Mod.refl _ _).drew) (fun r hr => by simpa using hr) (by decide)
  rw [pub_yes] at hp1
  refine hp1.mono ?_
  rintro e w1 ⟨rfl, hm1⟩
  have hb1 : Mod (fun _ => False) wb w1 := ((Mod.refl _ wb).drew).trans hm1 (fun _ _ h => h)
  refine hK _ _ (fun _ => hm1) ?_
  clear hK K hp1
  refine news_one (newsgo_yes rfl ?_ (fun K hK => ?_))
  · (try simp only [List.getElem_toArray]); (try simp only [List.getElem_cons_succ]); (try simp only [List.getElem_cons_zero])
    go_simp; done
  (try simp only [List.getElem_toArray]); (try simp only [List.getElem_cons_succ]); (try simp only [List.getElem_cons_zero])
  go_simp
  refine hK _ _ (fun _ => Mod.refl _ _) ?_
  clear hK K
  refine news_pure rfl ?_ ?_ (fun w0 => ?_) (fun K hK => ?_)
  · (try simp only [List.getElem_toArray]); (try simp only [List.getElem_cons_succ]); (try simp only [List.getElem_cons_zero])
    go_simp; done
  rotate_left
  · (try simp only [List.getElem_toArray]); (try simp only [List.getElem_cons_succ]); (try simp only [List.getElem_cons_zero])
    go_simp; with_reducible rfl
  (try simp only [List.getElem_toArray]); (try simp only [List.getElem_cons_succ]); (try simp only [List.getElem_cons_zero])
  go_simp; refine hK _ ?_; clear hK K
  refine news_pure rfl ?_ ?_ (fun w0 => ?_) (fun K hK => ?_)
  · (try simp only [List.getElem_toArray]); (try simp only [List.getElem_cons_succ]); (try simp only [List.getElem_cons_zero])
    go_simp; done
  rotate_left
  · (try simp only [List.getElem_toArray]); (try simp only [List.getElem_cons_succ]); (try simp only [List.getElem_cons_zero])
    go_simp; with_reducible rfl
  (try simp only [List.getElem_toArray]); (try simp only [List.getElem_cons_succ]); (try simp only [List.getElem_cons_zero])
  go_simp; refine hK _ ?_; clear hK K
  refine news_rd rfl rfl ?_ ((fun y : World => y.heap[wa.heap.size]? = some (.cells #[.string ⟨#[120]⟩, .slice none 0 0] 40 (0, 0)))) ((fun _ _ m h => m.heap h (fun h => h))) (hb1.heap Hgwb.out (fun h => h)) ?_ (fun w0 h0 => ?_) (fun K hK => ?_)
  · (try simp only [List.getElem_toArray]); (try simp only [List.getElem_cons_succ]); (try simp only [List.getElem_cons_zero])
    go_simp; done
  rotate_left
  · (try simp only [List.getElem_toArray]); (try simp only [List.getElem_cons_succ]); (try simp only [List.getElem_cons_zero])
    have f0 := cell_of (j := 0) h0 rfl; have f1 := cell_of (j := 1) h0 rfl; clear h0; go_simp; with_reducible rfl
  (try simp only [List.getElem_toArray]); (try simp only [List.getElem_cons_succ]); (try simp only [List.getElem_cons_zero])
  go_simp; refine hK _ ?_; clear hK K
  refine news_one (newsgo_yes rfl ?_ (fun K hK => ?_))
  · (try simp only [List.getElem_toArray]); (try simp only [List.getElem_cons_succ]); (try simp only [List.getElem_cons_zero])
    go_simp; done
  go_wp2_with fail
  have hp2 := pub_at w1 (.slice (some ⟨w.heap.size, 8, none⟩) 1 1) [ru1] (Hv1.out.mod hb1) (fun r hr => by simp at hr; exact .inr hr) (by decide)
  rw [pub_no] at hp2
  refine hp2.mono ?_
  rintro e w2 ⟨rfl, hm2⟩
  have hb2 := hb1.trans hm2 (fun _ _ h => h)
  refine hK _ _ (fun _ => hm2) ?_
  clear hK K hp2
  refine news_one (newsgo_yes rfl ?_ (fun K hK => ?_))
  · (try simp only [List.getElem_toArray]); (try simp only [List.getElem_cons_succ]); (try simp only [List.getElem_cons_zero])
    go_simp; done
  (try simp only [List.getElem_toArray]); (try simp only [List.getElem_cons_succ]); (try simp only [List.getElem_cons_zero])
  go_simp
  refine hK _ _ (fun _ => Mod.refl _ _) ?_
  clear hK K
  refine news_one (newsgo_yes rfl ?_ (fun K hK => ?_))
  · (try simp only [List.getElem_toArray]); (try simp only [List.getElem_cons_succ]); (try simp only [List.getElem_cons_zero])
    go_simp; done
  (try simp only [List.getElem_toArray]); (try simp only [List.getElem_cons_succ]); (try simp only [List.getElem_cons_zero])
  go_simp
  refine hK _ _ (fun _ => Mod.refl _ _) ?_
  clear hK K
  refine news_one (newsgo_yes rfl ?_ (fun K hK => ?_))
  · (try simp only [List.getElem_toArray]); (try simp only [List.getElem_cons_succ]); (try simp only [List.getElem_cons_zero])
    go_simp; done
  (try simp only [List.getElem_toArray]); (try simp only [List.getElem_cons_succ]); (try simp only [List.getElem_cons_zero])
  go_simp
  refine hK _ _ (fun _ => Mod.refl _ _) ?_
  clear hK K
  refine news_one (newsgo_yes rfl ?_ (fun K hK => ?_))
  · (try simp only [List.getElem_toArray]); (try simp only [List.getElem_cons_succ]); (try simp only [List.getElem_cons_zero])
    go_simp; done
  go_wp2_with fail
  have hp3 := scope_right ⟨#[120]⟩ (by decide) w2
  rw [scope_x] at hp3
  refine hp3.mono ?_
  rintro e w3 ⟨rfl, hm3⟩
  have hb3 := hb2.trans hm3 (fun _ _ h => h)
  refine hK _ _ (fun _ => hm3) ?_
  clear hK K hp3
  refine news_one (newsgo_yes rfl ?_ (fun K hK => ?_))
  · (try simp only [List.getElem_toArray]); (try simp only [List.getElem_cons_succ]); (try simp only [List.getElem_cons_zero])
    go_simp; done
  (try simp only [List.getElem_toArray]); (try simp only [List.getElem_cons_succ]); (try simp only [List.getElem_cons_zero])
  go_simp
  refine hK _ _ (fun _ => Mod.refl _ _) ?_
  clear hK K
  refine news_one (newsgo_yes rfl ?_ (fun K hK => ?_))
  · (try simp only [List.getElem_toArray]); (try simp only [List.getElem_cons_succ]); (try simp only [List.getElem_cons_zero])
    go_simp; done
  (try simp only [List.getElem_toArray]); (try simp only [List.getElem_cons_succ]); (try simp only [List.getElem_cons_zero])
  go_simp
  refine hK _ _ (fun _ => Mod.refl _ _) ?_
  clear hK K
  refine news_rd rfl rfl ?_ ((fun y : World => y.heap[wa.heap.size]? = some (.cells #[.string ⟨#[120]⟩, .slice none 0 0] 40 (0, 0)))) ((fun _ _ m h => m.heap h (fun h => h))) (hb3.heap Hgwb.out (fun h => h)) ?_ (fun w0 h0 => ?_) (fun K hK => ?_)
  · (try simp only [List.getElem_toArray]); (try simp only [List.getElem_cons_succ]); (try simp only [List.getElem_cons_zero])
    go_simp; done
  rotate_left
  · (try simp only [List.getElem_toArray]); (try simp only [List.getElem_cons_succ]); (try simp only [List.getElem_cons_zero])
    have f0 := cell_of (j := 0) h0 rfl; have f1 := cell_of (j := 1) h0 rfl; clear h0; go_simp; with_reducible rfl
  (try simp only [List.getElem_toArray]); (try simp only [List.getElem_cons_succ]); (try simp only [List.getElem_cons_zero])
  go_simp; refine hK _ ?_; clear hK K
  refine news_one (newsgo_yes rfl ?_ (fun K hK => ?_))
  · (try simp only [List.getElem_toArray]); (try simp only [List.getElem_cons_succ]); (try simp only [List.getElem_cons_zero])
    go_simp; done
  go_wp2_with fail
  have hp4 := right_at ⟨#[120]⟩ (.slice none 0 0) [] w3 ⟨rfl, none, 0, rfl, Nat.le_refl _, (fun _ => rfl), fun b hb => by cases hb⟩ (by decide) (fun x hx => by cases hx)
  rw [show evRight [] = true from rfl] at hp4
  refine hp4.mono ?_
  rintro e w4 ⟨rfl, hm4⟩
  have hb4 := hb3.trans hm4 (fun _ _ h => h)
  refine hK _ _ (fun _ => hm4) ?_
  clear hK K hp4
  refine news_one (newsgo_yes rfl ?_ (fun K hK => ?_))
  · (try simp only [List.getElem_toArray]); (try simp only [List.getElem_cons_succ]); (try simp only [List.getElem_cons_zero])
    go_simp; done
  (try simp only [List.getElem_toArray]); (try simp only [List.getElem_cons_succ]); (try simp only [List.getElem_cons_zero])
  go_simp
  refine hK _ _ (fun _ => Mod.refl _ _) ?_
  clear hK K
  refine news_one (newsgo_yes rfl ?_ (fun K hK => ?_))
  · (try simp only [List.getElem_toArray]); (try simp only [List.getElem_cons_succ]); (try simp only [List.getElem_cons_zero])
    go_simp; done
  (try simp only [List.getElem_toArray]); (try simp only [List.getElem_cons_succ]); (try simp only [List.getElem_cons_zero])
  go_simp
  refine hK _ _ (fun _ => Mod.refl _ _) ?_
  clear hK K
  refine news_one (newsgo_yes rfl ?_ (fun K hK => ?_))
  · (try simp only [List.getElem_toArray]); (try simp only [List.getElem_cons_succ]); (try simp only [List.getElem_cons_zero])
    go_simp; done
  (try simp only [List.getElem_toArray]); (try simp only [List.getElem_cons_succ]); (try simp only [List.getElem_cons_zero])
  go_simp
  refine hK _ _ (fun _ => Mod.refl _ _) ?_
  clear hK K
  refine news_one (newsgo_yes rfl ?_ (fun K hK => ?_))
  · (try simp only [List.getElem_toArray]); (try simp only [List.getElem_cons_succ]); (try simp only [List.getElem_cons_zero])
    go_simp; done
  go_wp2_with fail
  have hp5 := filter_right w4 ⟨#[]⟩ (.slice none 0 0) [] ⟨rfl, none, 0, rfl, Nat.le_refl _, (fun _ => rfl), fun b hb => by cases hb⟩ (by decide) (by decide) (fun x hx => by cases hx)
  rw [fil_none] at hp5
  refine hp5.mono ?_
  rintro e w5 ⟨rfl, hm5⟩
  have hb5 := Hmb.out.trans (hb4.trans hm5 (fun _ _ h => h)) (fun _ _ h => h)
  refine hK _ _ (fun _ => hm5) ?_
  clear hK K hp5
  have Hb5 := Lib.hid hb5
  clear hb1 hb2 hb3 hb4 hb5 hm1 hm2 hm3 hm4 hm5
  refine news_one (newsgo_yes rfl ?_ (fun K hK => ?_))
  · (try simp only [List.getElem_toArray]); (try simp only [List.getElem_cons_succ]); (try simp only [List.getElem_cons_zero])
    go_simp; done
  (try simp only [List.getElem_toArray]); (try simp only [List.getElem_cons_succ]); (try simp only [List.getElem_cons_zero])
  go_simp
  refine hK _ _ (fun _ => Mod.refl _ _) ?_
  clear hK K
  refine news_one (newsgo_yes rfl ?_ (fun K hK => ?_))
  · (try simp only [List.getElem_toArray]); (try simp only [List.getElem_cons_succ]); (try simp only [List.getElem_cons_zero])
    go_simp; done
  (try simp only [List.getElem_toArray]); (try simp only [List.getElem_cons_succ]); (try simp only [List.getElem_cons_zero])
  go_simp
  refine hK _ _ (fun h => absurd h (by decide)) ?_
  clear hK K
  refine news_nil ?_
  go_wp2
  go_ret
  exact ⟨rfl, Hb5.out⟩
end Go.Proofs.Ytpfnemkfbelpcaa
