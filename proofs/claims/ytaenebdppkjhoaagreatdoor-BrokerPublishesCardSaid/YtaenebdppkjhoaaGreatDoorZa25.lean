/-
  append of a text's bytes.
  strconv's ftoa64 at what is no number; FormatFloat.
  The Writer's Byte, Long, Text.
  Bytes in memory: new, cut, turned to a text.
  strconv.FormatFloat(x, 'g', -1, 64).
-/
import Derived.Test.YtaenebdppkjhoaaGreatDoorZa2
import Derived.Test.YtaenebdppkjhoaaGreatDoorZa24
import Derived.Test.YtaenebdppkjhoaaGreatDoorZa4
namespace Go.Proofs.YtaenebdppkjhoaaGreatDoor
set_option maxRecDepth 20000
open Go.RowKit

/-- A text's bytes. -/
def txt (s : ByteArray) : List UInt8 := s.data.toList
theorem txt_length (s : ByteArray) : (txt s).length = s.size := rfl

theorem firstCells_str (P : Program) (w : World) (s : ByteArray) : (Builtin.firstCells 1 s.size (.string s)).run P w = .ok (u8s (txt s)).toArray w := by
  have h : (s.extract 0 s.size).data.map (fun b => Value.int IntKind.u8 (b.toNat : Int)) = (u8s (txt s)).toArray := by
    apply Array.ext'
    simp [u8s, txt]
  simp [Builtin.firstCells]
  simpa using h

theorem run_append_str {P : Program} (w : World) (t u ty e : TypeId) (i : TypeInfo) (z : Value) (ht : P.underlying t = some (.slice e)) (hu : P.underlying u = some .string) (hi : P.info? e = some i) (hz : i.zero = some z)
    (hsize : i.size = 1) (hby : i.bytes = 1) (hzs : z.cells.size = 1)
    (v : Value) (n : Nat) (xs : List Value) (hown : OwnSl w e 1 v n xs) (s : ByteArray) (hbytes : n + s.size ≤ 140737488355328) (hmax : n + s.size ≤ maxLen) :
    ∃ v' w', (Builtin.append_ #[t, u] ty #[v, .string s]).run P w = .ok v' w' ∧ OwnSl w' e 1 v' (n + s.size) (xs ++ u8s (txt s)) ∧ Mod (inBlock v) w w' ∧
      (v'.ownBlock = v.ownBlock ∨ ∃ k, v'.ownBlock = some k ∧ w.heap.size ≤ k) := by
  have hf := firstCells_str P w s
  have hfd := firstCells_str P w.drew s
  have hul : (u8s (txt s)).length = s.size := by rw [u8s_length, txt_length]
  have hlen : (xs ++ u8s (txt s)).length = (n + s.size) * 1 := by rw [List.length_append, hown.1, hul, Nat.add_mul, Nat.mul_one s.size]
  have h1 : ∀ u ∈ u8s (txt s), u.oneCell' = true := fun u hu => by
    simp only [u8s, List.mem_map] at hu
    obtain ⟨b, -, rfl⟩ := hu
    rfl
  have grown : ∀ old, ∃ w', w' = w.drew.alloc (.cells (xs.toArray ++ (u8s (txt s)).toArray ++ Builtin.zeroCells z.cells (grownCap w (n + s.size) old e - (n + s.size))) e) ∧
      OwnSl w' e 1 (.slice (some ⟨w.heap.size, 0, none⟩) (n + s.size) (grownCap w (n + s.size) old e)) (n + s.size) (xs ++ u8s (txt s)) ∧ Mod (inBlock v) w w' := by
    intro old
    have hge := grownCap_ge w (n + s.size) old e
    have hcm : grownCap w (n + s.size) old e ≤ maxLen := grownCap_le_maxLen w (n + s.size) old e hmax
    refine ⟨_, rfl, ⟨hlen, .inr ⟨w.heap.size, 0, _, _, rfl, heap_alloc_new w.drew _, hge, hcm, ?_, ?_⟩⟩, ((Mod.refl _ w).drew).alloc _⟩
    · simp only [Array.size_append, List.size_toArray, size_zeroCells, hzs, hown.1, hul]
      omega
    · simp only [Array.toList_append, List.append_assoc, List.drop_zero]
      rw [← List.append_assoc, ← hlen]
      exact List.take_left
  by_cases hroom : ∃ a cap, v = .slice a n cap ∧ n + s.size ≤ cap
  · obtain ⟨a, cap, hv, hroom⟩ := hroom
    rcases hown.2 with ⟨hv', rfl⟩ | ⟨g, off, cap', cur, hv', hg, hnc, hcm, hs, htk⟩
    · rw [hv'] at hv; cases hv
      have hm : s.size = 0 := by omega
      have hxs : xs = [] := List.eq_nil_of_length_eq_zero (by simpa using hown.1)
      have hns : u8s (txt s) = [] := List.eq_nil_of_length_eq_zero (by omega)
      subst hxs hv'
      refine ⟨.slice none 0 0, w, ?_, by rw [hns, hm]; exact OwnSl.nil w e 1, Mod.refl _ _, .inl rfl⟩
      rw [hm] at hf
      simp [Builtin.append_, run_underlying ht, run_underlying hu, sizeOf, typeInfo, hi, Builtin.lenOf, hm, hsize, hf]
    · rw [hv'] at hv; cases hv
      subst hv'
      have hfit : off + n + (u8s (txt s)).length ≤ cur.size := by
        rw [hul]; omega
      have hst := run_storeCells_at P g (off + n) e (u8s (txt s)) 0 cur w hg (by simpa using hfit) h1
      simp only [Nat.add_zero] at hst
      refine ⟨.slice (some ⟨g, off, none⟩) (n + s.size) cap, w.setRow g (cur.toList.take (off + n) ++ u8s (txt s) ++ cur.toList.drop (off + n + (u8s (txt s)).length)).toArray, ?_,
        ⟨hlen, .inr ⟨g, off, cap, _, rfl, setRow_heap w g cur _ e _ hg, hroom, hcm, ?_, ?_⟩⟩, (Mod.refl (inBlock (.slice (some ⟨g, off, none⟩) n cap)) w).setRow (g := g) (fun _ => by simp [inBlock, Value.ownBlock]) _, .inl rfl⟩
      · simp [Builtin.append_, run_underlying ht, run_underlying hu, sizeOf, typeInfo, hi, Builtin.lenOf, hroom, hsize, hf, addr_add, hst]
      · simp only [List.size_toArray, List.length_append, List.length_take, List.length_drop, Array.length_toList]
        omega
      · have hcl : off + n ≤ cur.toList.length := by rw [Array.length_toList]; omega
        have e1 : List.drop off (List.take (off + n) cur.toList) = xs := by
          rw [List.drop_take, show off + n - off = n * 1 from by omega]; exact htk
        rw [List.append_assoc, List.drop_append_of_le_length (by rw [List.length_take]; omega), e1, ← List.append_assoc, ← hlen]
        exact List.take_left
  · obtain ⟨a, cap, hv, hle⟩ := hown.shape
    have hcap : cap < n + s.size := by
      rcases Nat.lt_or_ge cap (n + s.size) with h | h
      · exact h
      · exact absurd ⟨a, cap, hv, h⟩ hroom
    have h0 : 0 < s.size := by omega
    obtain ⟨w'', hw'', h2, h3⟩ := grown cap
    refine ⟨_, w'', ?_, h2, h3, .inr ⟨w.heap.size, rfl, Nat.le_refl _⟩⟩
    subst hw''
    rcases hown.2 with ⟨hv', rfl⟩ | ⟨g', off', cap', cur, hv', hg, hnc, hcm, hs, htk⟩
    · rw [hv'] at hv; cases hv
      have hxs : xs = [] := List.eq_nil_of_length_eq_zero (by simpa using hown.1)
      subst hxs
      rw [hv']
      have hfx : (s.data.map (fun b => Value.int IntKind.u8 (b.toNat : Int))) = (u8s (txt s)).toArray := by
        apply Array.ext'
        simp [u8s, txt]
      have := run_append_nil_string (P := P) (w := w) t u ty e i z ht hu hi hz s h0 (by simp only [maxLen] at hmax; omega) (by rw [hby]; omega)
      rw [hfx] at this
      simpa only [Nat.zero_add, Array.empty_append] using this
    · rw [hv'] at hv; cases hv
      rw [hv']
      have hrd := hown.rd
      obtain ⟨_, a2, c2, hv2, _, _, hcc⟩ := hrd
      rw [hv'] at hv2; cases hv2
      have hcc : ∀ (j : Nat) (u : Value), xs[j]? = some u → w.cell? ⟨g', off' + j, none⟩ = some u := fun j u hu => by
        have hn0 : 0 < n := by have := (List.getElem?_eq_some_iff.1 hu).1; have := hown.1; omega
        obtain ⟨g2, off2, he, hcc⟩ := hcc _ rfl hn0
        cases he
        exact hcc j u hu
      have hfo := run_firstCells_some (P := P) w.drew 1 n ⟨g', off', none⟩ n cap xs hown.1 (fun j u hu => by rw [addr_add]; exact hcc j u hu)
      have hn : ¬ (n + s.size ≤ cap) := by omega
      have h63' : ¬ (9223372036854775807 < ((n : Int) + (s.size : Int))) := by simp only [maxLen] at hmax; omega
      have h48' : ¬ (281474976710656 < Builtin.nextslicecap (n + s.size) cap * i.bytes) := by have := growslice_fits (bytes := i.bytes) hcap (by rw [hby]; omega); omega
      simp [Builtin.append_, run_underlying ht, run_underlying hu, sizeOf, typeInfo, zeroValue, hi, hz, Builtin.lenOf, hn, h63', h48', Question.forced, hsize, hfd, hfo, newRow, grownCap, Array.append_assoc]
      congr 2
      apply Array.ext'
      simp [List.append_assoc]

/-- append of a text, as one operation of a list. -/
theorem wpList_append_str {P : Program} {ops : Array Oper} {rest : List Oper} {o : Oper} {a : Act} {w : World} {Q : Exit → Act → World → Prop}
    (hgd : o.guard = none) (s y : Operand) (t u : TypeId) (hop : o.op = Op.call { callee := Callee.builtin Builtin.append, args := #[s, y], argTypes := #[t, u] })
    (e : TypeId) (hT : SliceT P t e 1 1) (hu : P.underlying u = some .string)
    (v : Value) (n : Nat) (xs : List Value) (hs : a.eval s = v) (hown : OwnSl w e 1 v n xs) (x : ByteArray) (hy : a.eval y = .string x)
    (hbytes : n + x.size ≤ 140737488355328) (hmax : n + x.size ≤ maxLen)
    (hK : ∀ ad cap w', Appended w e 1 v (n + x.size) (xs ++ u8s (txt x)) (.slice ad (n + x.size) cap) w' → wpList P ops Q rest (a.put o.dst (.slice ad (n + x.size) cap)) w') : wpList P ops Q (o :: rest) a w := by
  refine wpList_plain hgd fun K hK' => ?_
  obtain ⟨ht, i0, z, hi, hz0, hz1, hz2, hzs⟩ := hT
  obtain ⟨v', w', hrun, r1, r2, r3⟩ := run_append_str (P := P) w t u o.type e i0 z ht hu hi hz0 hz1 hz2 hzs v n xs hown x hbytes hmax
  unfold Oper.wp execOp
  simp only [hop, resolve, invoke, builtin, Sem.run_bind, Sem.run_pure, Result.andThen_ok, List.map_toArray, List.map_cons, List.map_nil, hs, hy, hrun]
  obtain ⟨ad, cap, rfl, _⟩ := r1.shape
  exact hK' _ _ (hK ad cap w' ⟨r1, r2, r3⟩)
end Go.Proofs.YtaenebdppkjhoaaGreatDoor

namespace Go.Proofs.YtaenebdppkjhoaaGreatDoor
set_option maxRecDepth 20000
open Go.RowKit

theorem wpList_puts_str {w : World} {ops : Array Oper} {rest : List Oper} {a : Act} {Q : Exit → Act → World → Prop} {d : Option Tmp} {tp : TypeId} {pos : String} {af : Array Edge} {at1 : Array TypeId} (s : Operand) (x : Value)
    (h : at1 = #[97, 9] ∧ ∃ (F : Nat → Prop) (w0 : World) (v : Value) (bs : List UInt8) (z : ByteArray), Buf F w0 w v bs ∧ a.eval s = v ∧ x = .string z ∧ bs.length ≤ 1000000 ∧ z.size ≤ 1000000 ∧
      ∀ ad cap w', Buf F w0 w' (.slice ad (bs.length + z.size) cap) (bs ++ txt z) → wpList Tryz.prog ops Q rest (a.put d (.slice ad (bs.length + z.size) cap)) w') :
    wpList Tryz.prog ops Q (⟨d, .call { callee := .builtin .append, args := #[s, .const x], argTypes := at1 }, tp, pos, af, none⟩ :: rest) a w := by
  obtain ⟨rfl, F, w0, v, bs, z, hb, hs, rfl, h1, h2, hK⟩ := h
  refine wpList_append_str rfl s (.const (.string z)) 97 9 rfl 5 u8s_T (by kernel_rfl) v bs.length (u8s bs) hs hb.own z rfl (by omega) (by unfold maxLen; omega) fun ad cap w' ha => hK ad cap w' ?_
  have := hb.put (l := txt z) (m := z.size) rfl ha
  exact this

set_option maxHeartbeats 4000000 in
theorem ftoas_at (w : World) (F : Nat → Prop) (v : Value) (b : Nat) (hb64 : b < 18446744073709551616) (hfin : b / 4503599627370496 % 2048 = 2047) (hb : Buf F w w v []) :
    Calls Tryz.prog 203 #[v, .float .f64 b, .int .u8 103, .int .i64 (-1)] w (FtoaPost F w (fltT b)) := by
  obtain ⟨ad, cap, rfl, -⟩ := hb.own.shape
  have hs := call_sbits b w
  obtain ⟨mt, hmt⟩ : ∃ mt, b % 4503599627370496 = mt := ⟨_, rfl⟩
  have e1 : bits .and .i64 ((b : Int) / 4503599627370496) 2047 = 2047 := by
    have h := and_pow2 ((b : Int) / 4503599627370496) 11 (by decide)
    refine h.trans ?_
    show (b : Int) / 4503599627370496 % (2048 : Int) = _
    omega
  have e2 : bits .and .u64 (b : Int) 4503599627370495 = mt := by
    have h := and_u64 b 52 (by decide) hb64
    rw [← hmt]
    exact h
  have hmtl : mt < 4503599627370496 := by omega
  obtain ⟨t, htt⟩ : ∃ t, fltT b = t := ⟨_, rfl⟩
  rw [htt]
  have hr1 : b % 2 ^ 63 / 2 ^ 52 = 2047 := by omega
  have hr2 : b % 2 ^ 52 = mt := by omega
  have hb0 := fun n => hb.also ((Mod.refl (fun _ => False) w).drewN n)
  by_cases hm : mt = 0
  · have h0 : ((mt : Int) != 0) = false := by rw [hm]; rfl
    by_cases hn : b / 2 ^ 63 ≠ 0
    · have h1 : ((b : Int) / 9223372036854775808 != 0) = true := by rw [bne_iff_ne]; omega
      have h2 : t = [45, 73, 110, 102] := by rw [← htt]; unfold fltT; rw [if_pos hr1, if_neg (by omega), if_pos hn]
      have Hb := Lib.hid hb
      have Hmt := Lib.hid hmt
      have Htt := Lib.hid htt
      have Hr1 := Lib.hid hr1
      have Hr2 := Lib.hid hr2
      have Hm := Lib.hid hm
      have H2 := Lib.hid h2
      have Hb0 := Lib.hid hb0
      clear hb hmt htt hr1 hr2 hm h2 hb0 hn
      go_enter Tryz.func203, Tryz.ntmps203
      go_wp2_with fail
      go_quiet (fail)
      go_wp2_with (first | ((with_reducible refine wpList_puts_str (.tmp 73) _ ?_); (refine ⟨rfl, F, w, _, _, _, Hb0.out _, rfl, rfl, by decide, by decide, fun ad1 cap1 w1 hb1 => ?_⟩); have Hb1 := Lib.hid hb1; clear hb1) | fail)
      go_ret
      exact ⟨_, rfl, by rw [H2.out]; exact Hb1.out⟩
    · have h1 : ((b : Int) / 9223372036854775808 != 0) = false := by rw [bne_eq_false_iff_eq]; omega
      have h2 : t = [43, 73, 110, 102] := by rw [← htt]; unfold fltT; rw [if_pos hr1, if_neg (by omega), if_neg hn]
      have Hb := Lib.hid hb
      have Hmt := Lib.hid hmt
      have Htt := Lib.hid htt
      have Hr1 := Lib.hid hr1
      have Hr2 := Lib.hid hr2
      have Hm := Lib.hid hm
      have H2 := Lib.hid h2
      have Hb0 := Lib.hid hb0
      clear hb hmt htt hr1 hr2 hm h2 hb0 hn
      go_enter Tryz.func203, Tryz.ntmps203
      go_wp2_with fail
      go_quiet (fail)
      go_wp2_with (first | ((with_reducible refine wpList_puts_str (.tmp 75) _ ?_); (refine ⟨rfl, F, w, _, _, _, Hb0.out _, rfl, rfl, by decide, by decide, fun ad1 cap1 w1 hb1 => ?_⟩); have Hb1 := Lib.hid hb1; clear hb1) | fail)
      go_ret
      exact ⟨_, rfl, by rw [H2.out]; exact Hb1.out⟩
  · have h0 : ((mt : Int) != 0) = true := by rw [bne_iff_ne]; omega
    have h2 : t = [78, 97, 78] := by rw [← htt]; unfold fltT; rw [if_pos hr1, if_pos (by omega)]
    have Hb := Lib.hid hb
    have Hmt := Lib.hid hmt
    have Htt := Lib.hid htt
    have Hr1 := Lib.hid hr1
    have Hr2 := Lib.hid hr2
    have Hm := Lib.hid hm
    have H2 := Lib.hid h2
    have Hb0 := Lib.hid hb0
    clear hb hmt htt hr1 hr2 hm h2 hb0
    go_enter Tryz.func203, Tryz.ntmps203
    go_wp2_with fail
    go_quiet (fail)
    go_wp2_with (first | ((with_reducible refine wpList_puts_str (.tmp 70) _ ?_); (refine ⟨rfl, F, w, _, _, _, Hb0.out _, rfl, rfl, by decide, by decide, fun ad1 cap1 w1 hb1 => ?_⟩); have Hb1 := Lib.hid hb1; clear hb1) | fail)
    go_ret
    exact ⟨_, rfl, by rw [H2.out]; exact Hb1.out⟩
end Go.Proofs.YtaenebdppkjhoaaGreatDoor

namespace Go.Proofs.YtaenebdppkjhoaaGreatDoor
set_option maxRecDepth 20000
open Go.RowKit

theorem OwnSl.ne {w : World} {e : TypeId} {sz n : Nat} {v : Value} {xs : List Value} (h : OwnSl w e sz v n xs) {c : Array Value} {f : TypeId} {x : Nat × Nat} {j : Nat} (hj : w.heap[j]? = some (.cells c f x)) (hne : e ≠ f) : ∀ k, inBlock v k → k ≠ j := by
  rintro k hk rfl
  obtain ⟨cur, hc⟩ := h.elem k hk
  rw [hc] at hj
  cases hj
  exact hne rfl

/-- What writing has changed. -/
structure Wrote (w : World) (p : Nat) (v : Value) (w' : World) (v' : Value) : Prop where
  mod : Mod (fun k => k = p ∨ inBlock v k) w w'
  new : ∀ k, inBlock v' k → inBlock v k ∨ w.heap.size ≤ k

section
variable {w w' w'' : World} {p : Nat} {v v' v'' : Value} {bs : List UInt8}
theorem Wrote.refl (w : World) (p : Nat) (v : Value) : Wrote w p v w v := ⟨Mod.refl _ _, fun _ h => .inl h⟩
theorem Wrote.trans (h : Wrote w p v w' v') (k : Wrote w' p v' w'' v'') : Wrote w p v w'' v'' :=
  ⟨(h.mod.trans k.mod fun b hb hg => by
    rcases hg with hg | hg
    · exact .inl hg
    · rcases h.new b hg with h1 | h1
      · exact .inr h1
      · omega), fun b hb => by
    rcases k.new b hb with h1 | h1
    · exact h.new b h1
    · have := h.mod.size
      exact .inr (by omega)⟩
theorem Wrote.also {F : Nat → Prop} (h : Wrote w p v w' v') (k : Mod F w' w'') (hF : ∀ b, F b → w.heap.size ≤ b) : Wrote w p v w'' v' :=
  ⟨h.mod.trans k fun b hb hg => by have := hF b hg; omega, h.new⟩
end

/-- append as one operation. -/
theorem wp_append_sl {P : Program} {o : Oper} {a : Act} {w : World} {K : Act → World → Prop} {Q : Exit → Act → World → Prop}
    (s y : Operand) (t : TypeId) (hop : o.op = Op.call { callee := Callee.builtin Builtin.append, args := #[s, y], argTypes := #[t, t] })
    (e : TypeId) (sz bytes : Nat) (hT : SliceT P t e sz bytes)
    (v : Value) (n : Nat) (xs : List Value) (hs : a.eval s = v) (hown : OwnSl w e sz v n xs) (x : Value) (m : Nat) (news : List Value) (hy : a.eval y = x) (hx : RdSl w sz x m news) (h1 : ∀ u ∈ news, u.oneCell' = true)
    (hbytes : (n + m) * bytes ≤ 140737488355328) (hmax : n + m ≤ maxLen)
    (hK : ∀ ad cap w', Appended w e sz v (n + m) (xs ++ news) (.slice ad (n + m) cap) w' → K (a.put o.dst (.slice ad (n + m) cap)) w') : o.wp P a w K Q := by
  obtain ⟨ht, i0, z, hi, hz0, hz1, hz2, hzs⟩ := hT
  obtain ⟨v', w', hrun, r1, r2, r3⟩ := run_append_sl (P := P) w t o.type e i0 z sz bytes ht hi hz0 hz1 hz2 hzs v n xs hown x m news hx h1 hbytes hmax
  unfold Oper.wp execOp
  simp only [hop, resolve, invoke, builtin, Sem.run_bind, Sem.run_pure, Result.andThen_ok, List.map_toArray, List.map_cons, List.map_nil, hs, hy, hrun]
  obtain ⟨ad, cap, rfl, _⟩ := r1.shape
  exact hK ad cap w' ⟨r1, r2, r3⟩

end Go.Proofs.YtaenebdppkjhoaaGreatDoor

namespace Go.Proofs.YtaenebdppkjhoaaGreatDoor
set_option maxRecDepth 20000
open Go.RowKit

theorem conv_own {w : World} {v : Value} {bs : List UInt8} {e : TypeId} (h : OwnSl w e 1 v bs.length (u8s bs)) : (convert 97 9 v).run Tryz.prog w = .ok (.string (str bs)) w := by
  have hrd := h.rd
  rcases h.2 with ⟨rfl, h0⟩ | ⟨g, off, cap, cur, rfl, -⟩
  · obtain rfl : bs = [] := List.eq_nil_of_length_eq_zero h0
    exact conv_nil
  · obtain ⟨-, a, c, h1, -, -, h4⟩ := hrd
    cases h1
    refine conv_bytes rfl (fun j u hu => ?_)
    obtain ⟨g', off', h5, h6⟩ := h4 _ rfl (by have := (List.getElem?_eq_some_iff.1 hu).1; omega)
    cases h5
    exact h6 j _ (by simp [u8s, hu])
theorem BytesAt.new (w : World) (bs : List UInt8) (t : TypeId) : BytesAt (w.alloc (.cells (u8s bs).toArray t)) w.heap.size (.slice (some ⟨w.heap.size, 0, none⟩) bs.length bs.length) bs :=
  ⟨_, _, rfl, Nat.le_refl _, (fun h => by cases h), fun b hb => ⟨0, (by cases hb; rfl), (by simp), fun j u hu => by
    have := CellsAt.new w (u8s bs) t j (.int .u8 (u.toNat : Int)) (by simp [u8s, hu])
    exact this⟩⟩
theorem BytesAt.take {w : World} {G : Nat} {a : Option Addr} {cap : Nat} {bs : List UInt8} (h : BytesAt w G (.slice a bs.length cap) bs) {n : Nat} (hn : n ≤ bs.length) : BytesAt w G (.slice a n cap) (bs.take n) := by
  obtain ⟨a', c', h1, h2, h3, h4⟩ := h.ex
  cases h1
  have hl : (bs.take n).length = n := by rw [List.length_take]; omega
  refine ⟨a, cap, by rw [hl], by rw [hl]; omega, h3, fun b hb => ?_⟩
  obtain ⟨off, h5, h6, h7⟩ := h4 b hb
  refine ⟨off, h5, h6, fun j u hu => h7 j u ?_⟩
  rw [List.getElem?_take] at hu
  split at hu
  · exact hu
  · cases hu
end Go.Proofs.YtaenebdppkjhoaaGreatDoor

namespace Go.Proofs.YtaenebdppkjhoaaGreatDoor
set_option maxRecDepth 20000
open Go.RowKit

theorem mk_buf (w : World) : ∃ cur : Array Value, cur.size = 24 ∧ (Instr.makeSlice 97 (.int .i64 0) (.int .i64 24)).run Tryz.prog w = .ok (.slice (some ⟨w.heap.size, 0, none⟩) 0 24) (w.alloc (.cells cur 5)) := by
  obtain ⟨i, hi, h⟩ : ∃ i, Tryz.prog.info? 5 = some i ∧ (i.zero.map (·.cells), i.size, i.bytes) = (some #[.int .u8 0], 1, 1) := ⟨_, rfl, by kernel_rfl⟩
  simp only [Prod.mk.injEq] at h
  obtain ⟨h1, h2, h3⟩ := h
  cases hz : i.zero with
  | none => rw [hz] at h1; cases h1
  | some z =>
    have hr := run_make (P := Tryz.prog) w 97 5 i z (by kernel_rfl) hi hz .i64 .i64 0 24 (by omega) (by omega) (by rw [h3]; omega) (by omega)
    refine ⟨_, ?_, hr⟩
    rw [h2]
    simp [madeCells]

set_option maxHeartbeats 4000000 in
theorem fmtf_at (w : World) (hw : Lays w) (h64 : 16 ≤ w.heap.size) (b : Nat) (hb64 : b < 18446744073709551616) :
    Calls Tryz.prog 178 #[.float .f64 b, .int .u8 103, .int .i64 (-1), .int .i64 64] w fun e w' => e = .returned (.string (str (fltT b))) ∧ Mod (fun _ => False) w w' := by
  obtain ⟨cur, hc, hmk⟩ := mk_buf w
  obtain ⟨wa, hwa⟩ : ∃ wa : World, w.alloc (.cells cur 5) = wa := ⟨_, rfl⟩
  rw [hwa] at hmk
  have hma : Mod (fun _ => False) w wa := hwa ▸ (Mod.refl (fun _ => False) w).alloc _
  have hga : wa.heap[w.heap.size]? = some (.cells cur 5 (0, 0)) := hwa ▸ heap_alloc_new w _
  have hza : wa.heap.size = w.heap.size + 1 := by rw [← hwa]; simp
  have hbuf : Buf (fun k => k = w.heap.size) wa wa (.slice (some ⟨w.heap.size, 0, none⟩) 0 24) [] :=
    ⟨⟨rfl, .inr ⟨w.heap.size, 0, 24, cur, rfl, hga, by decide, by decide, by omega, rfl⟩⟩, fun k hk => .inl (Option.some.inj hk).symm, Mod.refl _ _⟩
  have hcall : Calls Tryz.prog 203 #[.slice (some ⟨w.heap.size, 0, none⟩) 0 24, .float .f64 b, .int .u8 103, .int .i64 (-1)] wa (FtoaPost (fun k => k = w.heap.size) wa (fltT b)) := by
    by_cases hf : b / 4503599627370496 % 2048 = 2047
    · exact ftoas_at wa _ _ b hb64 hf hbuf
    · exact ftoa_at wa (hw.mod0 hma) _ _ b hb64 (by omega) hbuf (fun g hg h => by omega) (fun g hg h => by omega)
  obtain ⟨t, ht⟩ : ∃ t, fltT b = t := ⟨_, rfl⟩
  rw [ht] at hcall ⊢
  have Hmk := Lib.hid hmk
  have Hwa := Lib.hid hwa
  have Hma := Lib.hid hma
  have Hga := Lib.hid hga
  have Hcall := Lib.hid hcall
  have Hw := Lib.hid hw
  have Ht := Lib.hid ht
  have Hbuf := Lib.hid hbuf
  clear hmk hwa hma hga hcall hw ht hbuf
  go_enter Tryz.func178, Tryz.ntmps178
  go_wp2_with fail
  rw [show (max 3 24 : Int) = 24 from rfl, Hmk.out]
  go_wp2_with fail
  refine Hcall.out.mono ?_
  rintro e w2 ⟨v2, rfl, hb2⟩
  have hcv := conv_own hb2.own
  have Hb2 := Lib.hid hb2
  clear hb2
  go_wp2
  go_ret
  refine ⟨rfl, ?_⟩
  refine Mod.trans Hma.out Hb2.out.mod (fun k hk h => ?_)
  omega
theorem fmtp_float_at (w : World) (hw : Lays w) (h64 : 16 ≤ w.heap.size) (b : Nat) (hb64 : b < 18446744073709551616) :
    Calls Tryz.prog 136 #[.float .f64 b, .int .u8 103, .int .i64 (-1), .int .i64 64] w fun e w' => e = .returned (.string (str (fltT b))) ∧ Mod (fun _ => False) w w' := by
  have hc := fmtf_at w hw h64 b hb64
  obtain ⟨t, ht⟩ : ∃ t, fltT b = t := ⟨_, rfl⟩
  rw [ht] at hc ⊢
  have Hc := Lib.hid hc
  have Ht := Lib.hid ht
  have Hw := Lib.hid hw
  clear hc ht hw
  go_enter Tryz.func136, Tryz.ntmps136
  go_wp2_with fail
  refine Hc.out.mono ?_
  rintro e w2 ⟨rfl, hm⟩
  go_wp2
  go_ret
  exact ⟨rfl, hm⟩
end Go.Proofs.YtaenebdppkjhoaaGreatDoor
