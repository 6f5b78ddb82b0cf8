/-
  RedactHidden: what is hidden is told rising, each once; further down no less is hidden.
-/
import Derived.Test.YtpfnemkfbelpcaaFit11
import Derived.Test.YtpfnemkfbelpcaaMaps
import Derived.Test.YtpfnemkfbelpcaaMask
import Derived.Test.YtpfnemkfbelpcaaPubm
import Derived.StringKeys
namespace Go.Proofs.Ytpfnemkfbelpcaa
set_option maxRecDepth 20000
open Go.RowKit

theorem keyed_str : Maps.Keyed Try.prog 9 := Maps.string_keyed Try.underlying9
theorem zero_bool (w : World) : (zeroValue 4).run Try.prog w = .ok (.bool false) w := by kernel_rfl
def setF (S : List (List UInt8)) : Lit → Option Value
  | .string y => if y ∈ S then some (.bool true) else none
  | _ => none
theorem setF_nil : setF [] = fun _ => none := by
  funext k
  cases k <;> rfl
theorem setF_snoc (S : List (List UInt8)) (y : List UInt8) : putF (setF S) (.string y) (.bool true) = setF (S ++ [y]) := by
  funext k
  unfold putF
  by_cases e : k = .string y
  · subst e
    rw [if_pos rfl]
    simp [setF]
  · rw [if_neg e]
    cases k with
    | string x =>
      have hx : x ≠ y := fun h => e (by rw [h])
      simp [setF, hx]
    | _ => rfl
theorem setF_some (S : List (List UInt8)) (y : List UInt8) : (setF S (.string y)).isSome = decide (y ∈ S) := by
  unfold setF
  by_cases h : y ∈ S <;> simp [h]
theorem setF_get (S : List (List UInt8)) (y : List UInt8) : (setF S (.string y)).getD (.bool false) = .bool (decide (y ∈ S)) := by
  unfold setF
  by_cases h : y ∈ S <;> simp [h]
theorem hidL_nodup (S : List (List UInt8)) : (hidL S).Nodup := (hidL_rises S).imp fun {a b} h (e : a = b) => List.lt_irrefl b (e ▸ h)
theorem same_length {l m : List (List UInt8)} (hl : l.Nodup) (hm : m.Nodup) (h : ∀ x, x ∈ l ↔ x ∈ m) : l.length = m.length := ((List.perm_ext_iff_of_nodup hl hm).2 h).length_eq
theorem hidL_snoc (S : List (List UInt8)) (y : List UInt8) : (hidL (S ++ [y])).length = if y ∈ S then (hidL S).length else (hidL S).length + 1 := by
  by_cases h : y ∈ S
  · rw [if_pos h]
    refine same_length (hidL_nodup _) (hidL_nodup _) fun x => ?_
    rw [hidL_mem, hidL_mem, List.mem_append, List.mem_singleton]
    exact ⟨fun hx => hx.elim id (fun e => e ▸ h), .inl⟩
  · rw [if_neg h]
    refine same_length (m := y :: hidL S) (hidL_nodup _) (List.nodup_cons.2 ⟨fun hy => h (hidL_mem.1 hy), hidL_nodup _⟩) fun x => ?_
    rw [hidL_mem, List.mem_append, List.mem_singleton, List.mem_cons, hidL_mem]
    exact ⟨fun hx => hx.elim .inr .inl, fun hx => hx.elim .inr .inl⟩
/-- Further down no less is hidden. -/
theorem under_down {s top : ByteArray} (h : underB s top = true) : underB (s ++ ⟨#[47, 122]⟩) top = true := by
  have hd : (s ++ ⟨#[47, 122]⟩ : ByteArray).data.toList = s.data.toList ++ [47, 122] := by simp
  unfold underB at *
  rw [Bool.or_eq_true] at h ⊢
  rcases h with h | h
  · exact .inl h
  · refine .inr ?_
    rw [Bool.or_eq_true] at h ⊢
    refine .inr ?_
    rw [Bool.and_eq_true, hd]
    unfold prefB
    rw [hd]
    rcases h with h | h
    · obtain rfl := (Lib.bytes_beq_iff _ _).1 h
      refine ⟨List.isPrefixOf_iff_prefix.2 ⟨_, rfl⟩, ?_⟩
      rw [show s.size = s.data.toList.length from rfl, List.getElem?_append_right (Nat.le_refl _), Nat.sub_self]
      rfl
    · rw [Bool.and_eq_true] at h
      refine ⟨List.isPrefixOf_iff_prefix.2 ((List.isPrefixOf_iff_prefix.1 h.1).trans ⟨_, rfl⟩), ?_⟩
      have h2 := beq_iff_eq.1 h.2
      rw [List.getElem?_append_left (List.getElem?_eq_some_iff.1 h2).1, h2]
      rfl
theorem hidR_down {l : List Ru} {tenant : Int} {who s : ByteArray} {x : List UInt8} (h : x ∈ hidR l tenant who s) : x ∈ hidR l tenant who (s ++ ⟨#[47, 122]⟩) := by
  unfold hidR namesL at *
  obtain ⟨r, hr, rfl⟩ := List.mem_map.1 h
  obtain ⟨hr, h2⟩ := List.mem_filter.1 hr
  refine List.mem_map.2 ⟨r, List.mem_filter.2 ⟨hr, ?_⟩, rfl⟩
  unfold Ru.hides at *
  rw [Bool.and_eq_true] at h2 ⊢
  exact ⟨h2.1, under_down h2.2⟩
theorem hidL_kept (l : List Ru) (tenant : Int) (who s : ByteArray) : ((hidL (hidR l tenant who (s ++ ⟨#[47, 122]⟩))).filter fun x => decide (x ∈ hidR l tenant who s)).length = (hidL (hidR l tenant who s)).length :=
  same_length ((hidL_nodup _).filter _) (hidL_nodup _) fun x => by
    rw [List.mem_filter, hidL_mem, hidL_mem, decide_eq_true_eq]
    exact ⟨fun h => h.2, fun h => ⟨hidR_down h, h⟩⟩

set_option maxHeartbeats 8000000 in
theorem hidn_walk (w : World) (v : Value) (l : List Ru) (hv : RuSl w v l) (hll : l.length ≤ 9223372036854775807) (x y : Int) (s : ByteArray) (hs : s.size ≤ 9223372036854775807) :
    Calls Try.prog 3 #[v, .agg #[.int .i64 x, .int .i64 y], .string s] w fun e w' => e = .returned (.bool true) ∧ Mod (fun _ => False) w w' := by
  have hs' : (s.size : Int) ≤ 9223372036854775807 := by omega
  obtain ⟨wa, hwa⟩ : ∃ wa : World, w.alloc (.cells #[.int .i64 x, .int .i64 y] 23) = wa := ⟨_, rfl⟩
  have hmwa : Mod (fun _ => False) w wa := hwa ▸ (Mod.refl (fun _ => False) w).alloc _
  have hgwa := heap_alloc_new w (.cells #[.int .i64 x, .int .i64 y] 23)
  rw [hwa] at hgwa
  have hzwa : wa.heap.size = w.heap.size + 1 := by rw [← hwa]; simp
  have hft := fit11_at wa
  have Hwa := Lib.hid hwa
  have Hmwa := Lib.hid hmwa
  have Hgwa := Lib.hid hgwa
  have Hft := Lib.hid hft
  have Hv := Lib.hid hv
  have Hll := Lib.hid hll
  have Hs := Lib.hid hs
  clear hwa hmwa hgwa hft hv hll hs hzwa
  go_enter Try.func3, Try.ntmps3
  go_wp2_with (first | (rw [show w.alloc _ = wa from Hwa.out]) | fail)
  refine Hft.out.mono ?_
  rintro e w1 ⟨rfl, hm1⟩
  have hm01 := Hmwa.out.trans hm1 (fun _ _ h => h)
  have hI1 := hm1.heap Hgwa.out (fun h => h)
  have hli := light10_at w1 v l (Hv.out.mod hm01) Hll.out
  have Hm01 := Lib.hid hm01
  have HI1 := Lib.hid hI1
  have Hli := Lib.hid hli
  clear hm01 hI1 hli hm1 Hft Hgwa Hmwa
  go_wp2_with fail
  refine Hli.out.mono ?_
  rintro e w2 ⟨b, rfl, hb, hm2⟩
  have hm02 := Hm01.out.trans hm2 (fun _ _ h => h)
  have hI2 := hm2.heap HI1.out (fun h => h)
  cases b with
  | false =>
    have Hm02 := Lib.hid hm02
    clear hm02 hm2 hI2 hb
    go_wp2
    go_ret
    exact ⟨rfl, Hm02.out⟩
  | true =>
  have hl80 := hb rfl
  have Hm02 := Lib.hid hm02
  have HI2 := Lib.hid hI2
  clear hm02 hI2 hm2 hb HI1 Hli Hm01
  by_cases hs60 : s.size ≤ 60
  rotate_left
  · have hs60' : (60 : Int) < s.size := by omega
    go_wp2
    go_ret
    exact ⟨rfl, Hm02.out⟩
  have hs60' : (s.size : Int) ≤ 60 := by omega
  have hsr := scope_right s (by omega) w2
  have Hsr := Lib.hid hsr
  clear hsr
  go_wp2_with fail
  refine Hsr.out.mono ?_
  rintro e w3 ⟨rfl, hm3⟩
  have hm03 := Hm02.out.trans hm3 (fun _ _ h => h)
  have hI3 := hm3.heap HI2.out (fun h => h)
  have hri := rights_at w3 v l (Hv.out.mod hm03) (by omega)
  have Hm03 := Lib.hid hm03
  have HI3 := Lib.hid hI3
  have Hri := Lib.hid hri
  clear hm03 hI3 hri hm3 HI2 Hsr Hm02
  cases hsc : scRight s with
  | false =>
    clear hsc
    go_wp2
    go_ret
    exact ⟨rfl, Hm03.out⟩
  | true =>
  clear hsc
  go_wp2_with fail
  refine Hri.out.mono ?_
  rintro e w5 ⟨ov, rfl, hown, hfrL, hm5⟩
  have hm05 := Hm03.out.trans hm5 (fun _ _ h => h)
  have hI5 := hm5.heap HI3.out (fun h => h)
  have hL := rights_sl Hv.out hown hm05
  have hLl : (l.filter Ru.rightB).length ≤ 80 := Nat.le_trans (List.length_filter_le _ _) hl80
  obtain ⟨L, hLL⟩ : ∃ L, l.filter Ru.rightB = L := ⟨_, rfl⟩
  have HLL := Lib.hid hLL
  rw [hLL] at hown hL hLl
  have hLlt := hown.lt
  obtain ⟨oa, oc, rfl, -⟩ := hown.shape
  have HownL := Lib.hid hown
  obtain ⟨t, ht, ht2⟩ := and1 x
  obtain ⟨u, hu, hu2⟩ := and3 y
  have hu3 : (u : Int) < 4 := by omega
  have hu0 : (0 : Int) ≤ u := by omega
  obtain ⟨W, hW, -⟩ := who_at hu2
  have Hm05 := Lib.hid hm05
  have HI5 := Lib.hid hI5
  have HL := Lib.hid hL
  have HLlt := Lib.hid hLlt
  clear hm05 hI5 hL hLlt hm5 hown hfrL hLL HI3 Hri Hm03 hl80
  go_wp2_with fail
  refine wp_region_news2 [.rd 0, .rd 1, .rd 2, .rd 9, .rd 4, .rd 5, .rd 6, .go 3, .rd 7, .rd 8, .rd 10] [0, 1, 2, 3, 4, 5, 6, 7, 8, 9, 10] (by kernel_rfl) (by kernel_rfl) (fun _ _ d _ _ h => (by cases d <;> exact h)) ?_
  refine news_pure rfl ?_ ?_ (fun w0 => ?_) (fun K hK => ?_)
  · (try simp only [List.getElem_toArray]); (try simp only [List.getElem_cons_succ]); (try simp only [List.getElem_cons_zero])
    go_simp; done
  rotate_left
  · (try simp only [List.getElem_toArray]); (try simp only [List.getElem_cons_succ]); (try simp only [List.getElem_cons_zero])
    go_simp; with_reducible rfl
  (try simp only [List.getElem_toArray]); (try simp only [List.getElem_cons_succ]); (try simp only [List.getElem_cons_zero])
  go_simp; refine hK _ ?_; clear hK K
  refine news_rd rfl rfl ?_ ((fun y : World => y.cell? ⟨w.heap.size, 0, none⟩ = some (.int .i64 x))) ((fun _ _ m h => m.cell h (fun h => h))) ((cell_of HI5.out rfl)) ?_ (fun w0 h0 => ?_) (fun K hK => ?_)
  · (try simp only [List.getElem_toArray]); (try simp only [List.getElem_cons_succ]); (try simp only [List.getElem_cons_zero])
    go_simp; done
  rotate_left
  · (try simp only [List.getElem_toArray]); (try simp only [List.getElem_cons_succ]); (try simp only [List.getElem_cons_zero])
    go_simp; with_reducible rfl
  (try simp only [List.getElem_toArray]); (try simp only [List.getElem_cons_succ]); (try simp only [List.getElem_cons_zero])
  go_simp; refine hK _ ?_; clear hK K
  refine news_pure rfl ?_ ?_ (fun w0 => ?_) (fun K hK => ?_)
  · (try simp only [List.getElem_toArray]); (try simp only [List.getElem_cons_succ]); (try simp only [List.getElem_cons_zero])
    go_simp; done
  rotate_left
  · (try simp only [List.getElem_toArray]); (try simp only [List.getElem_cons_succ]); (try simp only [List.getElem_cons_zero])
    go_simp; with_reducible rfl
  (try simp only [List.getElem_toArray]); (try simp only [List.getElem_cons_succ]); (try simp only [List.getElem_cons_zero])
  go_simp; refine hK _ ?_; clear hK K
  refine news_pure rfl ?_ ?_ (fun w0 => ?_) (fun K hK => ?_)
  · (try simp only [List.getElem_toArray]); (try simp only [List.getElem_cons_succ]); (try simp only [List.getElem_cons_zero])
    go_simp; done
  rotate_left
  · (try simp only [List.getElem_toArray]); (try simp only [List.getElem_cons_succ]); (try simp only [List.getElem_cons_zero])
    go_simp; with_reducible rfl
  (try simp only [List.getElem_toArray]); (try simp only [List.getElem_cons_succ]); (try simp only [List.getElem_cons_zero])
  go_simp; refine hK _ ?_; clear hK K
  refine news_pure rfl ?_ ?_ (fun w0 => ?_) (fun K hK => ?_)
  · (try simp only [List.getElem_toArray]); (try simp only [List.getElem_cons_succ]); (try simp only [List.getElem_cons_zero])
    go_simp; done
  rotate_left
  · (try simp only [List.getElem_toArray]); (try simp only [List.getElem_cons_succ]); (try simp only [List.getElem_cons_zero])
    go_simp; with_reducible rfl
  (try simp only [List.getElem_toArray]); (try simp only [List.getElem_cons_succ]); (try simp only [List.getElem_cons_zero])
  go_simp; refine hK _ ?_; clear hK K
  refine news_rd rfl rfl ?_ ((fun z : World => z.cell? ⟨w.heap.size, 1, none⟩ = some (.int .i64 y))) ((fun _ _ m h => m.cell h (fun h => h))) ((cell_of HI5.out rfl)) ?_ (fun w0 h0 => ?_) (fun K hK => ?_)
  · (try simp only [List.getElem_toArray]); (try simp only [List.getElem_cons_succ]); (try simp only [List.getElem_cons_zero])
    go_simp; done
  rotate_left
  · (try simp only [List.getElem_toArray]); (try simp only [List.getElem_cons_succ]); (try simp only [List.getElem_cons_zero])
    go_simp; with_reducible rfl
  (try simp only [List.getElem_toArray]); (try simp only [List.getElem_cons_succ]); (try simp only [List.getElem_cons_zero])
  go_simp; refine hK _ ?_; clear hK K
  refine news_pure rfl ?_ ?_ (fun w0 => ?_) (fun K hK => ?_)
  · (try simp only [List.getElem_toArray]); (try simp only [List.getElem_cons_succ]); (try simp only [List.getElem_cons_zero])
    go_simp; done
  rotate_left
  · (try simp only [List.getElem_toArray]); (try simp only [List.getElem_cons_succ]); (try simp only [List.getElem_cons_zero])
    go_simp; with_reducible rfl
  (try simp only [List.getElem_toArray]); (try simp only [List.getElem_cons_succ]); (try simp only [List.getElem_cons_zero])
  go_simp; refine hK _ ?_; clear hK K
  refine news_one (newsgo_yes rfl ?_ (fun K hK => ?_))
  · (try simp only [List.getElem_toArray]); (try simp only [List.getElem_cons_succ]); (try simp only [List.getElem_cons_zero])
    go_simp; done
  obtain ⟨wj, hwj⟩ : ∃ wj : World, w5.alloc (.cells #[.string ⟨#[97]⟩, .string ⟨#[98]⟩, .string ⟨#[99]⟩, .string ⟨#[100]⟩] 9) = wj := ⟨_, rfl⟩
  have hmwj : Mod (fun _ => False) w5 wj := hwj ▸ (Mod.refl (fun _ => False) w5).alloc _
  have hgwj := heap_alloc_new w5 (.cells #[.string ⟨#[97]⟩, .string ⟨#[98]⟩, .string ⟨#[99]⟩, .string ⟨#[100]⟩] 9)
  rw [hwj] at hgwj
  have hzwj : wj.heap.size = w5.heap.size + 1 := by rw [← hwj]; simp
  go_simp
  refine hK _ _ (fun _ => ⟨hmwj.os, hmwj.tape, hmwj.output, hmwj.size, hmwj.block⟩) ?_
  clear hK K
  obtain ⟨wk, hwk⟩ : ∃ wk, wj.drew = wk := ⟨_, rfl⟩
  have hm5k : Mod (fun _ => False) w5 wk := hwk ▸ hmwj.drew
  have hkW : wk.cell? ⟨w5.heap.size, u, none⟩ = some (.string W) := hwk ▸ (cell_of_row wj w5.heap.size u _ _ _ hgwj).trans hW
  rw [hwk]
  refine news_pure rfl ?_ ?_ (fun w0 => ?_) (fun K hK => ?_)
  · (try simp only [List.getElem_toArray]); (try simp only [List.getElem_cons_succ]); (try simp only [List.getElem_cons_zero])
    go_simp; done
  rotate_left
  · (try simp only [List.getElem_toArray]); (try simp only [List.getElem_cons_succ]); (try simp only [List.getElem_cons_zero])
    go_simp; with_reducible rfl
  (try simp only [List.getElem_toArray]); (try simp only [List.getElem_cons_succ]); (try simp only [List.getElem_cons_zero])
  go_simp; refine hK _ ?_; clear hK K
  refine news_rd rfl rfl ?_ ((fun z : World => z.cell? ⟨w5.heap.size, u, none⟩ = some (.string W))) ((fun _ _ m h => m.cell h (fun h => h))) (hkW) ?_ (fun w0 h0 => ?_) (fun K hK => ?_)
  · (try simp only [List.getElem_toArray]); (try simp only [List.getElem_cons_succ]); (try simp only [List.getElem_cons_zero])
    go_simp; done
  rotate_left
  · (try simp only [List.getElem_toArray]); (try simp only [List.getElem_cons_succ]); (try simp only [List.getElem_cons_zero])
    go_simp; with_reducible rfl
  (try simp only [List.getElem_toArray]); (try simp only [List.getElem_cons_succ]); (try simp only [List.getElem_cons_zero])
  go_simp; refine hK _ ?_; clear hK K
  refine news_pure rfl ?_ ?_ (fun w0 => ?_) (fun K hK => ?_)
  · (try simp only [List.getElem_toArray]); (try simp only [List.getElem_cons_succ]); (try simp only [List.getElem_cons_zero])
    go_simp; done
  rotate_left
  · (try simp only [List.getElem_toArray]); (try simp only [List.getElem_cons_succ]); (try simp only [List.getElem_cons_zero])
    go_simp; with_reducible rfl
  (try simp only [List.getElem_toArray]); (try simp only [List.getElem_cons_succ]); (try simp only [List.getElem_cons_zero])
  go_simp; refine hK _ ?_; clear hK K
  refine news_nil ?_
  have hm0k := Hm05.out.trans hm5k (fun _ _ h => h)
  have hLk := HL.out.mod hm5k
  have hz5 : w5.heap.size ≤ wk.heap.size := hm5k.size
  have HmJ := Lib.hid hm5k
  have hhd := hidden_at wk (.slice oa L.length oc) L hLk (by omega) t W s (by omega)
  have hHl : (hidR L t W s).length ≤ L.length := by unfold hidR namesL; rw [List.length_map]; exact List.length_filter_le _ _
  have hHl2 : (hidL (hidR L t W s)).length ≤ 80 := Nat.le_trans (hidL_len _) (by omega)
  have hXp := hidL_rises (hidR L t W s)
  have hXz : ∀ z ∈ hidL (hidR L t W s), z.length ≤ maxLen := fun z hz => by
    have h1 := hidL_mem.1 hz
    unfold hidR namesL at h1
    obtain ⟨r, hr, rfl⟩ := List.mem_map.1 h1
    have := (hLk.ok r (List.mem_filter.1 hr).1).name
    have h3 : r.name.data.toList.length = r.name.size := rfl
    unfold maxLen
    omega
  obtain ⟨X, hX⟩ : ∃ X, hidL (hidR L t W s) = X := ⟨_, rfl⟩
  rw [hX] at hhd hHl2 hXp hXz
  have Hm0k := Lib.hid hm0k
  have HLk := Lib.hid hLk
  have Hhd := Lib.hid hhd
  have HX := Lib.hid hX
  have HXp := Lib.hid hXp
  have HXz := Lib.hid hXz
  clear hm0k hLk hhd hX hXp hXz hm5k hmwj hgwj hzwj hwj hkW hW hwk ht hu hu2 hu3 hu0 HI5 HL Hm05 hHl
  go_wp2_with fail
  refine Hhd.out.mono ?_
  rintro e w8 ⟨xv, rfl, hownX, -, hm8⟩
  have hm08 := Hm0k.out.trans hm8 (fun _ _ h => h)
  have hL8 := HLk.out.mod hm8
  obtain ⟨xa, xc, rfl, hxc⟩ := hownX.shape
  have hXl' : (X.length : Int) ≤ 80 := by omega
  have hLl' : (L.length : Int) ≤ 80 := by omega
  obtain ⟨w9, hw9⟩ : ∃ w9 : World, w8.alloc (.map #[] 0) = w9 := ⟨_, rfl⟩
  have hmw9 : Mod (fun _ => False) w8 w9 := hw9 ▸ (Mod.refl (fun _ => False) w8).alloc _
  have hgw9 := heap_alloc_new w8 (.map #[] 0)
  rw [hw9] at hgw9
  have hzw9 : w9.heap.size = w8.heap.size + 1 := by rw [← hw9]; simp
  have hm59 : Mod (fun _ => False) w5 w9 := HmJ.out.trans (hm8.trans hmw9 (fun _ _ h => h)) (fun _ _ h => h)
  have hownL9 := HownL.out.mod hm59 (fun _ _ h => h)
  have hM9 : MapR w9 9 w8.heap.size 0 (setF []) := by rw [setF_nil, ← hw9]; exact MapR.made w8 _
  have hm09 := hm08.trans hmw9 (fun _ _ h => h)
  have hL9 := hL8.mod hmw9
  have hX9 := hownX.mod hmw9 (fun _ _ h => h)
  have hzk : w.heap.size ≤ w8.heap.size := hm08.size
  have hLn : ∀ r ∈ L, r.name.size ≤ maxLen := fun r hr => by have := (hL9.ok r hr).name; unfold maxLen; omega
  have hXb : ∀ b, (Value.slice xa X.length xc).ownBlock = some b → b ≠ w8.heap.size := fun b hb e => by have := hownX.lt b hb; omega
  have hLb : ∀ b, (Value.slice oa L.length oc).ownBlock = some b → b ≠ w8.heap.size := fun b hb e => by have := HLlt.out b hb; have := hm8.size; omega
  have HM9 := Lib.hid hM9
  have Hm09 := Lib.hid hm09
  have HL9 := Lib.hid hL9
  have HX9 := Lib.hid hX9
  have Hw9 := Lib.hid hw9
  have HLn := Lib.hid hLn
  have HXb := Lib.hid hXb
  have HLb := Lib.hid hLb
  have HownL9 := Lib.hid hownL9
  clear hM9 hm09 hL9 hX9 hw9 hLn hXb hLb hownL9 hm59 hm08 hL8 hownX hm8 hmw9 hgw9 hzw9 HLk Hhd Hm0k
  go_wp2_with (first | (rw [show w8.alloc _ = w9 from Hw9.out]) | fail)
  go_loopw [54] (fun iv wr => ∃ (j n : Nat), iv = .int .i64 j ∧ j ≤ L.length ∧ n = (hidL (hidR (L.take j) t W s)).length ∧ MapR wr 9 w8.heap.size n (setF (hidR (L.take j) t W s)) ∧ Mod (fun k => k = w8.heap.size) w9 wr) (fun iv _ => L.length - (intOf iv).toNat)
  case atStart => exact ⟨0, 0, rfl, Nat.zero_le _, by rw [List.take_zero, show hidR [] (t : Int) W s = [] from rfl, hidL_nil]; rfl, HM9.out, Mod.refl _ _⟩
  case round =>
    obtain ⟨j, n, rfl, hj, hn, hM, hmr⟩ := hrel
    by_cases hlt : j < L.length
    · have hlt' : (j : Int) < L.length := by omega
      obtain ⟨x, hxj⟩ : ∃ x, L[j]? = some x := ⟨_, List.getElem?_eq_getElem hlt⟩
      have hxm := List.mem_of_getElem? hxj
      obtain ⟨g, off, rfl, hf⟩ : ∃ g off, oa = some ⟨g, off, none⟩ ∧ CellsAt wr g (off + j * 8) x.cells := by
        obtain ⟨g, off, ha, h0⟩ := rd_rule HL9.out hxj
        exact ⟨g, off, ha, h0.mod hmr (HLb.out g (by rw [ha]; rfl))⟩
      have hnx : hidR (L.take (j + 1)) t W s = hidR (L.take j) t W s ++ (if (x.of 3 t W && underB s x.sc) = true then [x.name.data.toList] else []) := by
        unfold hidR
        rw [filter_take (fun r : Ru => r.hides t W s) hxj, namesL_append]
        show _ = _ ++ (if x.hides t W s = true then [x.name.data.toList] else [])
        split <;> rfl
      have hle : (hidR (L.take j) t W s).length ≤ j := by unfold hidR namesL; rw [List.length_map]; exact Nat.le_trans (List.length_filter_le _ _) (List.length_take_le _ _)
      obtain ⟨S, hS⟩ : ∃ q, hidR (L.take j) t W s = q := ⟨_, rfl⟩
      rw [hS] at hn hM hnx hle
      have hn80 : n ≤ 80 := by rw [hn]; exact Nat.le_trans (hidL_len _) (by omega)
      obtain ⟨S', hS'⟩ : ∃ q, hidR (L.take (j + 1)) t W s = q := ⟨_, rfl⟩
      rw [hS'] at hnx
      obtain ⟨wz, hwz⟩ : ∃ wz : World, wr.alloc (.cells x.cells.toArray 35) = wz := ⟨_, rfl⟩
      have hmwz : Mod (fun _ => False) wr wz := hwz ▸ (Mod.refl (fun _ => False) wr).alloc _
      have hgwz := heap_alloc_new wr (.cells x.cells.toArray 35)
      rw [hwz] at hgwz
      have hzwz : wz.heap.size = wr.heap.size + 1 := by rw [← hwz]; simp
      have hmz : Mod (fun k => k = w8.heap.size) w9 wz := hmr.trans hmwz (fun _ _ h => h.elim)
      have hMz := hM.mod hmwz (fun h => h)
      have hun := under_at s x.sc (by omega) (HL9.out.ok x hxm).sc
      obtain ⟨B, hB⟩ : ∃ B, underB s x.sc = B := ⟨_, rfl⟩
      have hunz : Calls Try.prog 16 #[.string s, .string x.sc] wz fun e w' => e = .returned (.bool B) ∧ w' = wz := hB ▸ hun wz
      rw [hB] at hnx
      have hkx : keyOf Try.prog 9 (.string x.name) = some (.string x.name.data.toList) := WideMaps.keyOf_string_mk Try.underlying9 (HLn.out x hxm)
      have c0 : wz.cell? ⟨wr.heap.size, 0, none⟩ = some (.int .i64 x.kind) := cell_of hgwz rfl
      have c1 : wz.cell? ⟨wr.heap.size, 1, none⟩ = some (.int .i64 x.tenant) := cell_of hgwz rfl
      have c2 : wz.cell? ⟨wr.heap.size, 2, none⟩ = some (.string x.who) := cell_of hgwz rfl
      have c3 : wz.cell? ⟨wr.heap.size, 3, none⟩ = some (.int .i64 x.broker) := cell_of hgwz rfl
      have c4 : wz.cell? ⟨wr.heap.size, 4, none⟩ = some (.string x.sc) := cell_of hgwz rfl
      have c5 : wz.cell? ⟨wr.heap.size, 5, none⟩ = some (.slice x.ca x.cs.length x.cc) := cell_of hgwz rfl
      have c6 : wz.cell? ⟨wr.heap.size, 6, none⟩ = some (.string x.name) := cell_of hgwz rfl
      have Hxj := Lib.hid hxj
      have Hxm := Lib.hid hxm
      have Hf := Lib.hid hf
      have Hwz := Lib.hid hwz
      have Hmz := Lib.hid hmz
      have HMz := Lib.hid hMz
      have Hnx := Lib.hid hnx
      have HS' := Lib.hid hS'
      have Hunz := Lib.hid hunz
      have Hn := Lib.hid hn
      have Hkx := Lib.hid hkx
      clear hxj hxm hf hwz hmz hMz hnx hS' hunz hn hkx hzwz hmwz hM hmr hgwz hun hB hS
      refine of_cases x 3 t W (fun h1 h4 => ?_) (fun h1 h2 h4 => ?_) (fun h1 h2 h3 h4 => ?_) (fun h1 h2 h3 h4 => ?_)
      iterate 3 (
        have Hq := Lib.hid (show hidR (L.take (j + 1)) t W s = S from by rw [HS'.out, Hnx.out, h4]; exact List.append_nil _)
        clear h4 Hunz
        go_wp2_with (first | ((with_reducible refine wpList_load_lit 35 (.tmp 56) ?_); refine ⟨g, off + j * 8, rfl, x.cells, Hf.out, by kernel_rfl, by kernel_rfl, ?_⟩) | ((with_reducible refine wpList_store_lit 35 (.tmp 12) (.tmp 57) ?_); refine ⟨rfl, x.cells, rfl, rfl, by kernel_rfl, rfl, ?_⟩; rw [Hwz.out]) | fail)
        go_roundw
        case rel => exact ⟨j + 1, n, by go_num, hlt, by rw [Hq.out]; exact Hn.out, by rw [Hq.out]; exact HMz.out, Hmz.out⟩
        case measure => simp [intOf]; omega)
      have Hnx := Lib.hid (show S' = S ++ (if B = true then [x.name.data.toList] else []) from by have := Hnx.out; rw [h4] at this; exact this)
      clear h4
      go_wp2_with (first | ((with_reducible refine wpList_load_lit 35 (.tmp 56) ?_); refine ⟨g, off + j * 8, rfl, x.cells, Hf.out, by kernel_rfl, by kernel_rfl, ?_⟩) | ((with_reducible refine wpList_store_lit 35 (.tmp 12) (.tmp 57) ?_); refine ⟨rfl, x.cells, rfl, rfl, by kernel_rfl, rfl, ?_⟩; rw [Hwz.out]) | fail)
      refine Hunz.out.mono ?_
      rintro e wq ⟨rfl, rfl⟩
      clear Hunz
      cases B with
      | false =>
        have Hq := Lib.hid (show hidR (L.take (j + 1)) t W s = S from by rw [HS'.out, Hnx.out]; exact List.append_nil _)
        go_wp2_with fail
        go_roundw
        case rel => exact ⟨j + 1, n, by go_num, hlt, by rw [Hq.out]; exact Hn.out, by rw [Hq.out]; exact HMz.out, Hmz.out⟩
        case measure => simp [intOf]; omega
      | true =>
        have Hq := Lib.hid (show hidR (L.take (j + 1)) t W s = S ++ [x.name.data.toList] from by rw [HS'.out, Hnx.out]; rfl)
        go_wp2_with (first | ((with_reducible refine wpList_mput_lit 30 (.tmp 80) (.tmp 82) (.const (.bool true)) ?_); refine ⟨9, 4, w8.heap.size, n, setF S, .string x.name.data.toList, HMz.out, keyed_str, Try.underlying30, by unfold maxLen; omega, rfl, Hkx.out, ?_⟩; intro w' hM' hm'; have HM' := Lib.hid hM'; have Hm' := Lib.hid hm'; clear hM' hm') | fail)
        go_roundw
        case rel =>
          refine ⟨j + 1, if x.name.data.toList ∈ S then n else n + 1, by go_num, hlt, by rw [Hq.out, hidL_snoc, Hn.out], ?_, Hmz.out.trans Hm'.out (fun _ _ h => h)⟩
          have := HM'.out
          rw [setF_some] at this
          simp only [decide_eq_true_eq] at this
          rw [Hq.out, ← setF_snoc]
          exact this
        case measure => simp [intOf]; omega
    · obtain rfl : j = L.length := by omega
      obtain ⟨wM, rfl⟩ : ∃ wo : World, wo = wr := ⟨_, rfl⟩
      rw [List.take_length, HX.out] at hn
      rw [List.take_length] at hM
      subst hn
      have hm0r := Hm09.out.upon hmr (fun b hb => .inr (by omega))
      have hXr := HX9.out.mod hmr HXb.out
      have hownLr := HownL9.out.mod hmr HLb.out
      rw [← HLL.out] at hownLr
      have hLr := rights_sl Hv.out hownLr hm0r
      rw [HLL.out] at hLr
      have HM := Lib.hid hM
      have Hm0r := Lib.hid hm0r
      have HXr := Lib.hid hXr
      have HLr := Lib.hid hLr
      clear hM hm0r hXr hLr hmr hownLr
      go_wp2_with fail
      go_loopw [13, 14, 86] (fun _ _ iv wr => ∃ i : Nat, iv = .int .i64 i ∧ i ≤ X.length ∧ Mod (fun _ => False) wM wr) (fun _ _ iv _ => X.length - (intOf iv).toNat)
      case atStart => exact ⟨0, rfl, Nat.zero_le _, Mod.refl _ _⟩
      case round =>
        obtain ⟨i, rfl, hi, hmq⟩ := hrel
        by_cases hlt : i < X.length
        · have hlt' : (i : Int) < X.length := by omega
          obtain ⟨z, hzi⟩ : ∃ z, X[i]? = some z := ⟨_, List.getElem?_eq_getElem hlt⟩
          obtain ⟨g, off, rfl, hf⟩ := rd_str (HXr.out.mod hmq (fun _ _ h => h)).rd hzi
          have hc0 := hf i z hzi
          have hMq := HM.out.mod hmq (fun h => h)
          have hzm : z ∈ hidR L t W s := hidL_mem.1 (by rw [HX.out]; exact List.mem_of_getElem? hzi)
          have hzl : z.length ≤ maxLen := HXz.out z (List.mem_of_getElem? hzi)
          have hlk : (Instr.lookup 30 (.map (some w8.heap.size)) (.string ⟨z.toArray⟩) false).run Try.prog wr = .ok (.bool true) wr := by
            rw [hMq.look keyed_str Try.underlying30 (zero_bool _) (WideMaps.keyOf_string_mk Try.underlying9 (s := ⟨z.toArray⟩) hzl), setF_get, decide_eq_true hzm]
          have Hmq := Lib.hid hmq
          have Hzi := Lib.hid hzi
          have Hf := Lib.hid hf
          have HMq := Lib.hid hMq
          have Hzm := Lib.hid hzm
          clear hmq hzi hf hMq hzm
          by_cases hi0 : 0 < i
          · have hi0' : (0 : Int) < i := by omega
            obtain ⟨p, hpi⟩ : ∃ z, X[i - 1]? = some z := ⟨_, List.getElem?_eq_getElem (by omega)⟩
            have hc1 := Hf.out (i - 1) p hpi
            have hless : Op.bytesLess p z = true := by
              rw [bytesLess_eq, decide_eq_true_eq]
              have h1 := HXp.out
              have h2 := List.pairwise_iff_getElem.1 h1 (i - 1) i (by omega) hlt (by omega)
              rw [(List.getElem?_eq_some_iff.1 hpi).2, (List.getElem?_eq_some_iff.1 Hzi.out).2] at h2
              exact h2
            have Hpi := Lib.hid hpi
            clear hpi
            go_wp2_with fail
            go_roundw
            case rel => exact ⟨i + 1, by go_num, hlt, Hmq.out⟩
            case measure => simp [intOf]; omega
          · obtain rfl : i = 0 := by omega
            have hc00 : wr.cell? ⟨g, off, none⟩ = some (.string ⟨z.toArray⟩) := hc0
            clear hc0
            go_wp2_with fail
            go_roundw
            case rel => exact ⟨1, by go_num, hlt, Hmq.out⟩
            case measure => simp [intOf]; omega
        · obtain rfl : i = X.length := by omega
          have hMq := HM.out.mod hmq (fun h => h)
          have hm0q := Hm0r.out.trans hmq (fun _ _ h => h)
          have hLq := HLr.out.mod hmq
          have hml : ∀ ty, (Builtin.len_ #[30] ty #[.map (some w8.heap.size)]).run Try.prog wr = .ok (.int .i64 X.length) wr := fun ty => hMq.len Try.underlying30 ty
          have HMq := Lib.hid hMq
          have Hm0q := Lib.hid hm0q
          have HLq := Lib.hid hLq
          clear hMq hm0q hLq hmq
          have hts : (s ++ ⟨#[47, 122]⟩ : ByteArray).size ≤ 62 := by
            have h1 : (s ++ ⟨#[47, 122]⟩ : ByteArray).size = s.size + 2 := by rw [ByteArray.size_append]; rfl
            omega
          have hkp := hidL_kept L t W s
          obtain ⟨T, hT⟩ : ∃ T : ByteArray, s ++ ⟨#[47, 122]⟩ = T := ⟨_, rfl⟩
          rw [hT] at hts hkp
          rw [HX.out] at hkp
          have hsr := scope_right T (by omega) wr
          have Hkp := Lib.hid hkp
          have Hsr := Lib.hid hsr
          clear hkp hsr
          go_wp2_with (first | (rw [hT]) | fail)
          · go_ret
            exact ⟨rfl, Hm0q.out⟩
          refine Hsr.out.mono ?_
          rintro e wA ⟨rfl, hmA⟩
          have hMA := HMq.out.mod hmA (fun h => h)
          have hm0A := Hm0q.out.trans hmA (fun _ _ h => h)
          have hLA := HLq.out.mod hmA
          have hmlA : ∀ ty, (Builtin.len_ #[30] ty #[.map (some w8.heap.size)]).run Try.prog wA = .ok (.int .i64 X.length) wA := fun ty => hMA.len Try.underlying30 ty
          have hhy := hidden_at wA (.slice oa L.length oc) L hLA (by omega) t W T (by omega)
          have hYl : (hidL (hidR L t W T)).length ≤ 80 := Nat.le_trans (hidL_len _) (Nat.le_trans (by unfold hidR namesL; rw [List.length_map]; exact List.length_filter_le _ _) (by omega))
          have hYz : ∀ z ∈ hidL (hidR L t W T), z.length ≤ maxLen := fun z hz => by
            have h1 := hidL_mem.1 hz
            unfold hidR namesL at h1
            obtain ⟨r, hr, rfl⟩ := List.mem_map.1 h1
            have := (hLA.ok r (List.mem_filter.1 hr).1).name
            have h3 : r.name.data.toList.length = r.name.size := rfl
            unfold maxLen
            omega
          obtain ⟨Y, hY⟩ : ∃ Y, hidL (hidR L t W T) = Y := ⟨_, rfl⟩
          rw [hY] at hhy hYl hYz
          have hkq := Hkp.out
          rw [hY] at hkq
          obtain ⟨S, hS⟩ : ∃ S, hidR L t W s = S := ⟨_, rfl⟩
          rw [hS] at hMA hkq
          clear hml
          have HMA := Lib.hid hMA
          have Hm0A := Lib.hid hm0A
          have HLA := Lib.hid hLA
          have Hhy := Lib.hid hhy
          have HYz := Lib.hid hYz
          have Hkq := Lib.hid hkq
          have HS := Lib.hid hS
          clear hMA hm0A hLA hhy hYz hkq hS hmA HMq Hm0q HLq Hsr Hkp
          cases scRight T with
          | false =>
            go_wp2
            go_ret
            exact ⟨rfl, Hm0A.out⟩
          | true =>
          go_wp2_with fail
          rotate_left
          · go_ret
            exact ⟨rfl, Hm0A.out⟩
          clear hmlA
          refine Hhy.out.mono ?_
          rintro e wB ⟨yv, rfl, hownY, -, hmB⟩
          have hMB := HMA.out.mod hmB (fun h => h)
          have hm0B := Hm0A.out.trans hmB (fun _ _ h => h)
          obtain ⟨ya, yc, rfl, hyc⟩ := hownY.shape
          have hYl' : (Y.length : Int) ≤ 80 := by omega
          have HMB := Lib.hid hMB
          have Hm0B := Lib.hid hm0B
          have HownY := Lib.hid hownY
          clear hMB hm0B hownY hmB HMA Hm0A HLA Hhy
          go_wp2_with fail
          go_loopw [17, 19, 124] (fun kv _ iv wr => ∃ i : Nat, iv = .int .i64 i ∧ i ≤ Y.length ∧ kv = .int .i64 (((Y.take i).filter fun x => decide (x ∈ S)).length : Nat) ∧ Mod (fun _ => False) wB wr) (fun _ _ iv _ => Y.length - (intOf iv).toNat)
          case atStart => exact ⟨0, rfl, Nat.zero_le _, rfl, Mod.refl _ _⟩
          case round =>
            obtain ⟨i, rfl, hi, rfl, hmq⟩ := hrel
            have hMq := HMB.out.mod hmq (fun h => h)
            have hm0q := Hm0B.out.trans hmq (fun _ _ h => h)
            by_cases hlt : i < Y.length
            · have hlt' : (i : Int) < Y.length := by omega
              obtain ⟨z, hzi⟩ : ∃ z, Y[i]? = some z := ⟨_, List.getElem?_eq_getElem hlt⟩
              obtain ⟨g, off, rfl, hf⟩ := rd_str (HownY.out.mod hmq (fun _ _ h => h)).rd hzi
              have hc0 := hf i z hzi
              have hzl : z.length ≤ maxLen := HYz.out z (List.mem_of_getElem? hzi)
              have hst : ((Y.take (i + 1)).filter fun x => decide (x ∈ S)).length = ((Y.take i).filter fun x => decide (x ∈ S)).length + (if decide (z ∈ S) = true then 1 else 0) := by
                rw [List.take_add_one, hzi, List.filter_append, List.length_append]
                congr 1
                by_cases h : z ∈ S <;> simp [h]
              have hle : ((Y.take i).filter fun x => decide (x ∈ S)).length ≤ i := Nat.le_trans (List.length_filter_le _ _) (List.length_take_le _ _)
              obtain ⟨n, hn⟩ : ∃ n, ((Y.take i).filter fun x => decide (x ∈ S)).length = n := ⟨_, rfl⟩
              rw [hn] at hst hle ⊢
              have hle' : (n : Int) ≤ i := by omega
              obtain ⟨B, hB⟩ : ∃ B, decide (z ∈ S) = B := ⟨_, rfl⟩
              have hlk : (Instr.lookup 30 (.map (some w8.heap.size)) (.string ⟨z.toArray⟩) false).run Try.prog wr = .ok (.bool B) wr := by
                rw [hMq.look keyed_str Try.underlying30 (zero_bool _) (WideMaps.keyOf_string_mk Try.underlying9 (s := ⟨z.toArray⟩) hzl), setF_get, hB]
              rw [hB] at hst
              have Hmq := Lib.hid hmq
              have Hzi := Lib.hid hzi
              have Hf := Lib.hid hf
              have Hst := Lib.hid hst
              have HB := Lib.hid hB
              clear hmq hzi hf hst hB hMq hm0q hn
              cases B with
              | true =>
                go_wp2_with fail
                go_roundw
                case rel => exact ⟨i + 1, by go_num, hlt, by rw [Hst.out]; go_num, Hmq.out⟩
                case measure => simp [intOf]; omega
              | false =>
                go_wp2_with fail
                go_roundw
                case rel => exact ⟨i + 1, by go_num, hlt, by rw [Hst.out]; rfl, Hmq.out⟩
                case measure => simp [intOf]; omega
            · obtain rfl : i = Y.length := by omega
              rw [List.take_length, Hkq.out]
              have hml : ∀ ty, (Builtin.len_ #[30] ty #[.map (some w8.heap.size)]).run Try.prog wr = .ok (.int .i64 X.length) wr := fun ty => hMq.len Try.underlying30 ty
              have Hm0q := Lib.hid hm0q
              clear hm0q hMq hmq
              go_wp2_with fail
              go_ret
              exact ⟨rfl, Hm0q.out⟩
end Go.Proofs.Ytpfnemkfbelpcaa
