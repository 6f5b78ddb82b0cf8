/-
  strconv's ftoa64 at what is no number; FormatFloat.
  An event's bytes.
  Bytes in memory: new, cut, turned to a text.
  strconv.FormatFloat(x, 'g', -1, 64).
  The texts of numbers as package value writes them: unlike for unlike numbers (the plain law).
  strconv.Quote: what is quoted ends by itself, and tells what was quoted (the plain law).
  The texts of values, conditions and filters: unlike for unlike ones (the plain law).
-/
import Derived.Test.YtloplmaekonenaaGreatDoorZi23
import Derived.Test.YtloplmaekonenaaGreatDoorZi8
import Derived.Test.YtloplmaekonenaaGreatDoorZi9
import Derived.Test.YtloplmaekonenaaGreatDoorZi22
import Derived.Lib.QuoteLoop
import Derived.Test.YtloplmaekonenaaGreatDoorZi2
import Derived.Test.YtloplmaekonenaaGreatDoorZi7
import Derived.Lib.PrintData
namespace Go.Proofs.YtloplmaekonenaaGreatDoor
set_option maxRecDepth 20000
open Go.RowKit
theorem wpList_puts_str {w : World} {ops : Array Oper} {rest : List Oper} {a : Act} {Q : Exit → Act → World → Prop} {d : Option Tmp} {tp : TypeId} {pos : String} {af : Array Edge} {at1 : Array TypeId} (s : Operand) (x : Value)
    (h : at1 = #[69, 9] ∧ ∃ (F : Nat → Prop) (w0 : World) (v : Value) (bs : List UInt8) (z : ByteArray), Buf F w0 w v bs ∧ a.eval s = v ∧ x = .string z ∧ bs.length ≤ 1000000 ∧ z.size ≤ 1000000 ∧
      ∀ ad cap w', Buf F w0 w' (.slice ad (bs.length + z.size) cap) (bs ++ txt z) → wpList Tryz.prog ops Q rest (a.put d (.slice ad (bs.length + z.size) cap)) w') :
    wpList Tryz.prog ops Q (⟨d, .call { callee := .builtin .append, args := #[s, .const x], argTypes := at1 }, tp, pos, af, none⟩ :: rest) a w := by
  obtain ⟨rfl, F, w0, v, bs, z, hb, hs, rfl, h1, h2, hK⟩ := h
  refine wpList_append_str rfl s (.const (.string z)) 69 9 rfl 5 u8s_T (by kernel_rfl) v bs.length (u8s bs) hs hb.own z rfl (by omega) (by unfold maxLen; omega) fun ad cap w' ha => hK ad cap w' ?_
  have := hb.put (l := txt z) (m := z.size) rfl ha
  exact this
set_option maxHeartbeats 4000000 in
theorem ftoas_at (w : World) (F : Nat → Prop) (v : Value) (b : Nat) (hb64 : b < 18446744073709551616) (hfin : b / 4503599627370496 % 2048 = 2047) (hb : Buf F w w v []) :
    Calls Tryz.prog 209 #[v, .float .f64 b, .int .u8 103, .int .i64 (-1)] w (FtoaPost F w (fltT b)) := by
  obtain ⟨ad, cap, rfl, -⟩ := hb.own.shape
  have hs := call_sbits b w
  obtain ⟨mt, hmt⟩ : ∃ mt, b % 4503599627370496 = mt := ⟨_, rfl⟩
  have e1 : bits .and .i64 ((b : Int) / 4503599627370496) 2047 = 2047 := by
    have h := and_pow2 ((b : Int) / 4503599627370496) 11 (by decide)
    refine h.trans ?_
    show (b : Int) / 4503599627370496 % (2048 : Int) = _
    omega
  have e2 : bits .and .u64 (b : Int) 4503599627370495 = mt := by
    have h := and_u64 b 52 (by decide) hb64
    rw [← hmt]
    exact h
  have hmtl : mt < 4503599627370496 := by omega
  obtain ⟨t, htt⟩ : ∃ t, fltT b = t := ⟨_, rfl⟩
  rw [htt]
  have hr1 : b % 2 ^ 63 / 2 ^ 52 = 2047 := by omega
  have hr2 : b % 2 ^ 52 = mt := by omega
  have hb0 := fun n => hb.also ((Mod.refl (fun _ => False) w).drewN n)
  by_cases hm : mt = 0
  · have h0 : ((mt : Int) != 0) = false := by rw [hm]; rfl
    by_cases hn : b / 2 ^ 63 ≠ 0
    · have h1 : ((b : Int) / 9223372036854775808 != 0) = true := by rw [bne_iff_ne]; omega
      have h2 : t = [45, 73, 110, 102] := by rw [← htt]; unfold fltT; rw [if_pos hr1, if_neg (by omega), if_pos hn]
      have Hb := Lib.hid hb
      have Hmt := Lib.hid hmt
      have Htt := Lib.hid htt
      have Hr1 := Lib.hid hr1
      have Hr2 := Lib.hid hr2
      have Hm := Lib.hid hm
      have H2 := Lib.hid h2
      have Hb0 := Lib.hid hb0
      clear hb hmt htt hr1 hr2 hm h2 hb0 hn
      go_enter Tryz.func209, Tryz.ntmps209
      go_wp2_with fail
      go_quiet (fail)
      go_wp2_with (first | ((with_reducible refine wpList_puts_str (.tmp 73) _ ?_); (refine ⟨rfl, F, w, _, _, _, Hb0.out _, rfl, rfl, by decide, by decide, fun ad1 cap1 w1 hb1 => ?_⟩); have Hb1 := Lib.hid hb1; clear hb1) | fail)
      go_ret
      exact ⟨_, rfl, by rw [H2.out]; exact Hb1.out⟩
    · have h1 : ((b : Int) / 9223372036854775808 != 0) = false := by rw [bne_eq_false_iff_eq]; omega
      have h2 : t = [43, 73, 110, 102] := by rw [← htt]; unfold fltT; rw [if_pos hr1, if_neg (by omega), if_neg hn]
      have Hb := Lib.hid hb
      have Hmt := Lib.hid hmt
      have Htt := Lib.hid htt
      have Hr1 := Lib.hid hr1
      have Hr2 := Lib.hid hr2
      have Hm := Lib.hid hm
      have H2 := Lib.hid h2
      have Hb0 := Lib.hid hb0
      clear hb hmt htt hr1 hr2 hm h2 hb0 hn
      go_enter Tryz.func209, Tryz.ntmps209
      go_wp2_with fail
      go_quiet (fail)
      go_wp2_with (first | ((with_reducible refine wpList_puts_str (.tmp 75) _ ?_); (refine ⟨rfl, F, w, _, _, _, Hb0.out _, rfl, rfl, by decide, by decide, fun ad1 cap1 w1 hb1 => ?_⟩); have Hb1 := Lib.hid hb1; clear hb1) | fail)
      go_ret
      exact ⟨_, rfl, by rw [H2.out]; exact Hb1.out⟩
  · have h0 : ((mt : Int) != 0) = true := by rw [bne_iff_ne]; omega
    have h2 : t = [78, 97, 78] := by rw [← htt]; unfold fltT; rw [if_pos hr1, if_pos (by omega)]
    have Hb := Lib.hid hb
    have Hmt := Lib.hid hmt
    have Htt := Lib.hid htt
    have Hr1 := Lib.hid hr1
    have Hr2 := Lib.hid hr2
    have Hm := Lib.hid hm
    have H2 := Lib.hid h2
    have Hb0 := Lib.hid hb0
    clear hb hmt htt hr1 hr2 hm h2 hb0
    go_enter Tryz.func209, Tryz.ntmps209
    go_wp2_with fail
    go_quiet (fail)
    go_wp2_with (first | ((with_reducible refine wpList_puts_str (.tmp 70) _ ?_); (refine ⟨rfl, F, w, _, _, _, Hb0.out _, rfl, rfl, by decide, by decide, fun ad1 cap1 w1 hb1 => ?_⟩); have Hb1 := Lib.hid hb1; clear hb1) | fail)
    go_ret
    exact ⟨_, rfl, by rw [H2.out]; exact Hb1.out⟩
end Go.Proofs.YtloplmaekonenaaGreatDoor
namespace Go.Proofs.YtloplmaekonenaaGreatDoor
set_option maxRecDepth 20000
open Go.RowKit
theorem u8s_one (bs : List UInt8) : ∀ u ∈ u8s bs, u.oneCell' = true := fun u hu => by
  simp only [u8s, List.mem_map] at hu
  obtain ⟨b, -, rfl⟩ := hu
  rfl
theorem wr_bytes (w : World) (p : Nat) (v : Value) (bs : List UInt8) (h : Wtr w p v bs) (hl : bs.length ≤ 10000000) :
    Calls Tryz.prog 70 #[.pointer (some ⟨p, 0, none⟩)] w fun e w' => ∃ v', e = .returned v' ∧ OwnSl w' 5 1 v' bs.length (u8s bs) ∧ (∀ b, v'.ownBlock = some b → w.heap.size ≤ b) ∧ Mod (fun _ => False) w w' := by
  obtain ⟨va, vc, hv, -⟩ := h.own.shape
  subst hv
  have c0 : w.cell? ⟨p, 0, none⟩ = some (.slice va bs.length vc) := cell_of h.row rfl
  have H := Lib.hid h
  have Hl := Lib.hid hl
  clear h hl
  go_enter Tryz.func70, Tryz.ntmps70
  go_wp2_with (first | (refine wpList_append_sl rfl (.const (.slice none 0 0)) (.tmp 6) 69 rfl 5 1 1 bytes_T (.slice none 0 0) 0 [] rfl (OwnSl.nil _ _ _) _ bs.length (u8s bs) rfl H.out.own.rd (u8s_one bs) (by have := Hl.out; omega) (by have := Hl.out; unfold maxLen; omega) ?_; intro ad cap w5 hA; have HAp := Lib.hid hA; clear hA) | fail)
  go_ret
  obtain ⟨h1, h2, h3⟩ := HAp.out
  rw [List.nil_append] at h1
  rw [Nat.zero_add] at h1 h3
  refine ⟨.slice ad bs.length cap, rfl, h1, fun b hb => ?_, h2.mono (fun k _ hk => by cases hk)⟩
  rcases h3 with h | ⟨q, h, hq⟩
  · rw [h] at hb; cases hb
  · rw [h] at hb; cases hb; exact hq
end Go.Proofs.YtloplmaekonenaaGreatDoor
namespace Go.Proofs.YtloplmaekonenaaGreatDoor
set_option maxRecDepth 20000
open Go.RowKit
theorem conv_own {w : World} {v : Value} {bs : List UInt8} {e : TypeId} (h : OwnSl w e 1 v bs.length (u8s bs)) : (convert 69 9 v).run Tryz.prog w = .ok (.string (str bs)) w := by
  have hrd := h.rd
  rcases h.2 with ⟨rfl, h0⟩ | ⟨g, off, cap, cur, rfl, -⟩
  · obtain rfl : bs = [] := List.eq_nil_of_length_eq_zero h0
    exact conv_nil
  · obtain ⟨-, a, c, h1, -, -, h4⟩ := hrd
    cases h1
    refine conv_bytes rfl (fun j u hu => ?_)
    obtain ⟨g', off', h5, h6⟩ := h4 _ rfl (by have := (List.getElem?_eq_some_iff.1 hu).1; omega)
    cases h5
    exact h6 j _ (by simp [u8s, hu])
theorem BytesAt.new (w : World) (bs : List UInt8) (t : TypeId) : BytesAt (w.alloc (.cells (u8s bs).toArray t)) w.heap.size (.slice (some ⟨w.heap.size, 0, none⟩) bs.length bs.length) bs :=
  ⟨_, _, rfl, Nat.le_refl _, (fun h => by cases h), fun b hb => ⟨0, (by cases hb; rfl), (by simp), fun j u hu => by
    have := CellsAt.new w (u8s bs) t j (.int .u8 (u.toNat : Int)) (by simp [u8s, hu])
    exact this⟩⟩
theorem BytesAt.take {w : World} {G : Nat} {a : Option Addr} {cap : Nat} {bs : List UInt8} (h : BytesAt w G (.slice a bs.length cap) bs) {n : Nat} (hn : n ≤ bs.length) : BytesAt w G (.slice a n cap) (bs.take n) := by
  obtain ⟨a', c', h1, h2, h3, h4⟩ := h.ex
  cases h1
  have hl : (bs.take n).length = n := by rw [List.length_take]; omega
  refine ⟨a, cap, by rw [hl], by rw [hl]; omega, h3, fun b hb => ?_⟩
  obtain ⟨off, h5, h6, h7⟩ := h4 b hb
  refine ⟨off, h5, h6, fun j u hu => h7 j u ?_⟩
  rw [List.getElem?_take] at hu
  split at hu
  · exact hu
  · cases hu
end Go.Proofs.YtloplmaekonenaaGreatDoor
namespace Go.Proofs.YtloplmaekonenaaGreatDoor
set_option maxRecDepth 20000
open Go.RowKit
theorem mk_buf (w : World) : ∃ cur : Array Value, cur.size = 24 ∧ (Instr.makeSlice 69 (.int .i64 0) (.int .i64 24)).run Tryz.prog w = .ok (.slice (some ⟨w.heap.size, 0, none⟩) 0 24) (w.alloc (.cells cur 5)) := by
  obtain ⟨i, hi, h⟩ : ∃ i, Tryz.prog.info? 5 = some i ∧ (i.zero.map (·.cells), i.size, i.bytes) = (some #[.int .u8 0], 1, 1) := ⟨_, rfl, by kernel_rfl⟩
  simp only [Prod.mk.injEq] at h
  obtain ⟨h1, h2, h3⟩ := h
  cases hz : i.zero with
  | none => rw [hz] at h1; cases h1
  | some z =>
    have hr := run_make (P := Tryz.prog) w 69 5 i z (by kernel_rfl) hi hz .i64 .i64 0 24 (by omega) (by omega) (by rw [h3]; omega) (by omega)
    refine ⟨_, ?_, hr⟩
    rw [h2]
    simp [madeCells]
set_option maxHeartbeats 4000000 in
theorem fmtf_at (w : World) (hw : Lays w) (h64 : 16 ≤ w.heap.size) (b : Nat) (hb64 : b < 18446744073709551616) :
    Calls Tryz.prog 179 #[.float .f64 b, .int .u8 103, .int .i64 (-1), .int .i64 64] w fun e w' => e = .returned (.string (str (fltT b))) ∧ Mod (fun _ => False) w w' := by
  obtain ⟨cur, hc, hmk⟩ := mk_buf w
  obtain ⟨wa, hwa⟩ : ∃ wa : World, w.alloc (.cells cur 5) = wa := ⟨_, rfl⟩
  rw [hwa] at hmk
  have hma : Mod (fun _ => False) w wa := hwa ▸ (Mod.refl (fun _ => False) w).alloc _
  have hga : wa.heap[w.heap.size]? = some (.cells cur 5 (0, 0)) := hwa ▸ heap_alloc_new w _
  have hza : wa.heap.size = w.heap.size + 1 := by rw [← hwa]; simp
  have hbuf : Buf (fun k => k = w.heap.size) wa wa (.slice (some ⟨w.heap.size, 0, none⟩) 0 24) [] :=
    ⟨⟨rfl, .inr ⟨w.heap.size, 0, 24, cur, rfl, hga, by decide, by decide, by omega, rfl⟩⟩, fun k hk => .inl (Option.some.inj hk).symm, Mod.refl _ _⟩
  have hcall : Calls Tryz.prog 209 #[.slice (some ⟨w.heap.size, 0, none⟩) 0 24, .float .f64 b, .int .u8 103, .int .i64 (-1)] wa (FtoaPost (fun k => k = w.heap.size) wa (fltT b)) := by
    by_cases hf : b / 4503599627370496 % 2048 = 2047
    · exact ftoas_at wa _ _ b hb64 hf hbuf
    · exact ftoa_at wa (hw.mod0 hma) _ _ b hb64 (by omega) hbuf (fun g hg h => by omega) (fun g hg h => by omega)
  obtain ⟨t, ht⟩ : ∃ t, fltT b = t := ⟨_, rfl⟩
  rw [ht] at hcall ⊢
  have Hmk := Lib.hid hmk
  have Hwa := Lib.hid hwa
  have Hma := Lib.hid hma
  have Hga := Lib.hid hga
  have Hcall := Lib.hid hcall
  have Hw := Lib.hid hw
  have Ht := Lib.hid ht
  have Hbuf := Lib.hid hbuf
  clear hmk hwa hma hga hcall hw ht hbuf
  go_enter Tryz.func179, Tryz.ntmps179
  go_wp2_with fail
  rw [show (max 3 24 : Int) = 24 from rfl, Hmk.out]
  go_wp2_with fail
  refine Hcall.out.mono ?_
  rintro e w2 ⟨v2, rfl, hb2⟩
  have hcv := conv_own hb2.own
  have Hb2 := Lib.hid hb2
  clear hb2
  go_wp2
  go_ret
  refine ⟨rfl, ?_⟩
  refine Mod.trans Hma.out Hb2.out.mod (fun k hk h => ?_)
  omega
theorem fmtp_float_at (w : World) (hw : Lays w) (h64 : 16 ≤ w.heap.size) (b : Nat) (hb64 : b < 18446744073709551616) :
    Calls Tryz.prog 140 #[.float .f64 b, .int .u8 103, .int .i64 (-1), .int .i64 64] w fun e w' => e = .returned (.string (str (fltT b))) ∧ Mod (fun _ => False) w w' := by
  have hc := fmtf_at w hw h64 b hb64
  obtain ⟨t, ht⟩ : ∃ t, fltT b = t := ⟨_, rfl⟩
  rw [ht] at hc ⊢
  have Hc := Lib.hid hc
  have Ht := Lib.hid ht
  have Hw := Lib.hid hw
  clear hc ht hw
  go_enter Tryz.func140, Tryz.ntmps140
  go_wp2_with fail
  refine Hc.out.mono ?_
  rintro e w2 ⟨rfl, hm⟩
  go_wp2
  go_ret
  exact ⟨rfl, hm⟩
end Go.Proofs.YtloplmaekonenaaGreatDoor
namespace Go.Proofs.YtloplmaekonenaaGreatDoor
set_option maxRecDepth 20000
def spec (l : List UInt8) : Bool := l.any fun c => c == 46 || c == 101 || c == 73 || c == 78
def numT (b : Nat) : List UInt8 := if spec (fltT b) then fltT b else fltT b ++ [46, 48]
def isTok (c : UInt8) : Prop := 43 ≤ c.toNat ∧ c.toNat ≤ 110
theorem tok_dig {c : UInt8} (h : isDig c) : isTok c := ⟨by have := h.1; omega, by have := h.2; omega⟩
theorem exps_tok (e : Nat) (h : e ≤ 999) : ∀ c ∈ exps e, isDig c := by
  intro c hc
  have hd : ∀ k, k < 10 → isDig (UInt8.ofNat (48 + k)) := fun k hk => by
    have e : (UInt8.ofNat (48 + k)).toNat = (48 + k) % 256 := rfl
    unfold isDig; rw [e]; omega
  unfold exps at hc
  split at hc
  · simp only [List.mem_cons, List.not_mem_nil, or_false] at hc
    rcases hc with rfl | rfl
    · exact hd _ (by omega)
    · exact hd _ (by omega)
  · simp only [List.mem_cons, List.not_mem_nil, or_false] at hc
    rcases hc with rfl | rfl | rfl
    · exact hd _ (by omega)
    · exact hd _ (by omega)
    · exact hd _ (by omega)
theorem body_tok {ds : List UInt8} {dp : Int} (h : Clean ds) (hr : -400 ≤ dp ∧ dp ≤ 400) : ∀ c ∈ bodyT ds dp, isTok c := by
  have one : ∀ k : UInt8, isTok k → ∀ c ∈ [k], isTok c := fun k hk c hc => by rw [List.mem_singleton.1 hc]; exact hk
  have app : ∀ {a b : List UInt8}, (∀ c ∈ a, isTok c) → (∀ c ∈ b, isTok c) → ∀ c ∈ a ++ b, isTok c := fun ha hb c hc => (List.mem_append.1 hc).elim (ha c) (hb c)
  have dd : ∀ c ∈ ds, isTok c := fun c hc => tok_dig (h.dig c hc)
  have t48 : isTok 48 := by unfold isTok; decide
  have t46 : isTok 46 := by unfold isTok; decide
  have t101 : isTok 101 := by unfold isTok; decide
  have t45 : isTok 45 := by unfold isTok; decide
  have t43 : isTok 43 := by unfold isTok; decide
  have zz : ∀ n, ∀ c ∈ zeros n, isTok c := fun n c hc => tok_dig (zeros_dig n c hc)
  have cons : ∀ {k : UInt8} {l : List UInt8}, isTok k → (∀ c ∈ l, isTok c) → ∀ c ∈ k :: l, isTok c := fun hk hl => app (one _ hk) hl
  unfold bodyT efgT
  simp only [sgnT, Bool.false_eq_true, if_false, List.nil_append]
  split
  · exact one _ t48
  split
  · refine app (app (app (fun c hc => dd c (List.mem_of_mem_take hc)) ?_) (one _ t101)) ?_
    · unfold frac
      split
      · intro c hc; cases hc
      · exact cons t46 (fun c hc => dd c (List.mem_of_mem_drop hc))
    · unfold expT
      split
      · exact cons t45 fun c hc => tok_dig (exps_tok _ (by omega) c hc)
      · exact cons t43 fun c hc => tok_dig (exps_tok _ (by omega) c hc)
  split
  · exact app (app (cons t48 (one _ t46)) (zz _)) dd
  split
  · exact app (app (fun c hc => dd c (List.mem_of_mem_take hc)) (one _ t46)) (fun c hc => dd c (List.mem_of_mem_drop hc))
  · exact app dd (zz _)
def decN (t : List UInt8) : List UInt8 × Int := if (decT t).1 = [] then ([], 0) else decT t
theorem spec_false {l : List UInt8} (h : spec l = false) : ∀ c ∈ l, c ≠ 46 ∧ c ≠ 101 ∧ c ≠ 73 ∧ c ≠ 78 := by
  intro c hc
  have := List.any_eq_false.1 h c hc
  simp only [Bool.or_eq_true, beq_iff_eq, not_or] at this
  exact ⟨this.1.1.1, this.1.1.2, this.1.2, this.2⟩
theorem decN_body {ds : List UInt8} {dp : Int} (h : Clean ds) (hd : ds = [] → dp = 0) (hr : -400 ≤ dp ∧ dp ≤ 400) : decN (bodyT ds dp) = (ds, dp) := by
  unfold decN
  rw [decT_body h hd hr]
  split
  · rename_i e
    simp only at e
    rw [e, hd e]
  · rfl
theorem body_plain {ds : List UInt8} {dp : Int} (hne : ds ≠ []) (hs : spec (bodyT ds dp) = false) : 0 < dp ∧ (ds.length : Int) ≤ dp ∧ bodyT ds dp = ds ++ zeros (dp.toNat - ds.length) := by
  have hsp := spec_false hs
  unfold bodyT efgT at hsp ⊢
  rw [if_neg hne] at hsp ⊢
  simp only [sgnT, Bool.false_eq_true, if_false, List.nil_append] at hsp ⊢
  by_cases h1 : dp - 1 < -4 ∨ 6 ≤ dp - 1
  · rw [if_pos h1] at hsp
    exact absurd rfl (hsp 101 (by simp)).2.1
  rw [if_neg h1] at hsp ⊢
  by_cases h2 : dp ≤ 0
  · rw [if_pos h2] at hsp
    exact absurd rfl (hsp 46 (by simp)).1
  rw [if_neg h2] at hsp ⊢
  by_cases h3 : dp < ds.length
  · rw [if_pos h3] at hsp
    exact absurd rfl (hsp 46 (by simp)).1
  rw [if_neg h3]
  exact ⟨by omega, by omega, rfl⟩
theorem decN_point {ds : List UInt8} {dp : Int} (h : Clean ds) (hd : ds = [] → dp = 0) (hs : spec (bodyT ds dp) = false) : decN (bodyT ds dp ++ [46, 48]) = (ds, dp) := by
  by_cases hne : ds = []
  · subst hne
    rw [hd rfl]
    decide
  obtain ⟨h1, h2, h3⟩ := body_plain hne hs
  have e101 : (101 : UInt8) = 101 ∨ (101 : UInt8) = 46 ∨ (101 : UInt8) = 45 := .inl rfl
  have e46 : (46 : UInt8) = 101 ∨ (46 : UInt8) = 46 ∨ (46 : UInt8) = 45 := .inr (.inl rfl)
  have hdz : ∀ c ∈ ds ++ zeros (dp.toNat - ds.length), isDig c := fun c hc => by
    rcases List.mem_append.1 hc with hc | hc
    · exact h.dig c hc
    · exact zeros_dig _ c hc
  have key : decT (bodyT ds dp ++ [46, 48]) = (ds, dp) := by
    rw [h3]
    unfold decT
    simp only
    rw [tw_all 101 e101 hdz, dw_all 101 e101 hdz]
    have t1 : ([46, 48] : List UInt8).takeWhile (· != 101) = [46, 48] := rfl
    have t2 : ([46, 48] : List UInt8).dropWhile (· != 101) = [] := rfl
    rw [t1, t2, tw_all 46 e46 hdz, dw_all 46 e46 hdz]
    have t3 : ([46, 48] : List UInt8).takeWhile (· != 46) = [] := rfl
    have t4 : (([46, 48] : List UInt8).dropWhile (· != 46)).drop 1 = [48] := rfl
    rw [t3, t4]
    have a1 : ds ++ zeros (dp.toNat - ds.length) ++ [] ++ [48] = ds ++ zeros (dp.toNat - ds.length + 1) := by
      unfold zeros; rw [List.append_nil, List.append_assoc, List.replicate_succ']
    rw [a1]
    have sc := strip_clean h hne 0 (dp.toNat - ds.length + 1)
    simp only [show zeros 0 = [] from rfl, List.nil_append] at sc
    rw [sc.1, sc.2]
    simp only [List.drop_nil, List.append_nil, decE, List.length_append, zeros, List.length_replicate]
    congr 1
    omega
  unfold decN
  rw [key, if_neg hne]
theorem spec_cons {c : UInt8} {l : List UInt8} (h : spec (c :: l) = false) : spec l = false := by
  unfold spec at h ⊢
  rw [List.any_cons, Bool.or_eq_false_iff] at h
  exact h.2
theorem numT_fin {b : Nat} {ds : List UInt8} {dp : Int} (hc : Clean ds) (h0 : ds = [] → dp = 0) (hr : -400 ≤ dp ∧ dp ≤ 400) (h : fltT b = efgT (decide (b / 2 ^ 63 ≠ 0)) ds dp) :
    ∃ t, numT b = sgnT (decide (b / 2 ^ 63 ≠ 0)) ++ t ∧ decN t = (ds, dp) ∧ (∃ c r, t = c :: r ∧ isDig c) ∧ (∀ c ∈ t, isTok c) := by
  obtain ⟨c, r, hb, hdg⟩ := body_head (dp := dp) hc
  have hbt := body_tok (dp := dp) hc hr
  unfold numT
  rw [h, efg_sgn]
  split
  · exact ⟨_, rfl, decN_body hc h0 hr, ⟨c, r, hb, hdg⟩, hbt⟩
  · rename_i hs
    have hs2 : spec (bodyT ds dp) = false := by
      have hs : spec (sgnT (decide (b / 2 ^ 63 ≠ 0)) ++ bodyT ds dp) = false := by simpa using hs
      unfold sgnT at hs
      split at hs
      · exact spec_cons hs
      · exact hs
    refine ⟨bodyT ds dp ++ [46, 48], by rw [List.append_assoc], decN_point hc h0 hs2, ⟨c, r ++ [46, 48], by rw [hb]; rfl, hdg⟩, fun c hc => ?_⟩
    rcases List.mem_append.1 hc with hc | hc
    · exact hbt c hc
    · simp only [List.mem_cons, List.not_mem_nil, or_false] at hc
      rcases hc with rfl | rfl <;> (unfold isTok; decide)
theorem numT_nan {b : Nat} (h : fltT b = [78, 97, 78]) : numT b = [78, 97, 78] := by unfold numT; rw [h]; rfl
theorem numT_minf {b : Nat} (h : fltT b = [45, 73, 110, 102]) : numT b = [45, 73, 110, 102] := by unfold numT; rw [h]; rfl
theorem numT_pinf {b : Nat} (h : fltT b = [43, 73, 110, 102]) : numT b = [43, 73, 110, 102] := by unfold numT; rw [h]; rfl
theorem numT_tok (b : Nat) : (∃ c r, numT b = c :: r) ∧ (∀ c ∈ numT b, isTok c) ∧ (∀ r, numT b ≠ 110 :: r) ∧ spec (numT b) = true := by
  rcases way_of b with ⟨b1, b2, bt⟩ | ⟨b1, b2, b3, bt⟩ | ⟨b1, b2, b3, bt⟩ | ⟨b1, es, ep, bc, bz, b0, br, bv, bt⟩
  · rw [numT_nan bt]
    refine ⟨⟨_, _, rfl⟩, fun c hc => ?_, fun r h => by simp at h, rfl⟩
    simp only [List.mem_cons, List.not_mem_nil, or_false] at hc
    rcases hc with rfl | rfl | rfl <;> (unfold isTok; decide)
  · rw [numT_minf bt]
    refine ⟨⟨_, _, rfl⟩, fun c hc => ?_, fun r h => by simp at h, rfl⟩
    simp only [List.mem_cons, List.not_mem_nil, or_false] at hc
    rcases hc with rfl | rfl | rfl | rfl <;> (unfold isTok; decide)
  · rw [numT_pinf bt]
    refine ⟨⟨_, _, rfl⟩, fun c hc => ?_, fun r h => by simp at h, rfl⟩
    simp only [List.mem_cons, List.not_mem_nil, or_false] at hc
    rcases hc with rfl | rfl | rfl | rfl <;> (unfold isTok; decide)
  · obtain ⟨t, h1, -, ⟨c, r, h3, h4⟩, h5⟩ := numT_fin bc b0 br bt
    have hsp : spec (numT b) = true := by
      unfold numT
      split
      · assumption
      · unfold spec; rw [List.any_append]; simp
    rw [h1] at hsp ⊢
    rw [h3] at hsp ⊢
    rw [h3] at h5
    have n110 : c ≠ 110 := by
      rintro rfl
      have := h4.2
      revert this; decide
    refine ⟨?_, ?_, ?_, hsp⟩
    · cases decide (b / 2 ^ 63 ≠ 0)
      · exact ⟨_, _, rfl⟩
      · exact ⟨_, _, rfl⟩
    · intro x hx
      rcases List.mem_append.1 hx with hx | hx
      · unfold sgnT at hx
        split at hx
        · rw [List.mem_singleton.1 hx]; unfold isTok; decide
        · cases hx
      · exact h5 x hx
    · intro r h
      generalize decide (b / 2 ^ 63 ≠ 0) = ng at h
      cases ng
      · simp [sgnT] at h; exact n110 h.1
      · simp [sgnT] at h
end Go.Proofs.YtloplmaekonenaaGreatDoor
namespace Go.Proofs.YtloplmaekonenaaGreatDoor
set_option maxRecDepth 20000
open Go.Lib
def quoT (T : PrintTabs) (s : ByteArray) : List UInt8 := (quoteZ T s).map fun n => UInt8.ofNat n.toNat
theorem quoT_len (T : PrintTabs) (s : ByteArray) : (quoT T s).length ≤ 10 * s.size + 2 := by
  unfold quoT
  rw [List.length_map]
  exact quoteZ_length_le T s
end Go.Proofs.YtloplmaekonenaaGreatDoor
namespace Go.Proofs.YtloplmaekonenaaGreatDoor
set_option maxRecDepth 20000
def V.prt (v : V) : List UInt8 :=
  if v.kind = 0 then Lib.itoa v.int else if v.kind = 1 then numT (canonB v.num) else if v.kind = 2 then quoT Lib.goPrintTabs v.text else if v.yes then [121, 101, 115] else [110, 111]
def wordT (op : Int) : List UInt8 :=
  if op = 0 then [61] else if op = 1 then [33, 61] else if op = 2 then [60] else if op = 3 then [60, 61] else if op = 4 then [62] else if op = 5 then [62, 61] else if op = 6 then [94] else if op = 7 then [104, 97, 115] else []
def Cnd.prt (c : Cnd) : List UInt8 := if c.op = 7 then [104, 97, 115, 32] ++ c.name.data.toList else c.name.data.toList ++ [32] ++ wordT c.op ++ [32] ++ c.v.prt
def Cnd.norm (c : Cnd) : Cnd := if c.op = 7 then ⟨c.name, 7, V.zero⟩ else ⟨c.name, c.op, c.v.canon⟩
end Go.Proofs.YtloplmaekonenaaGreatDoor
