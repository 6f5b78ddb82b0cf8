/-
  Read: a call over a new Reader, its panics turned into false.
  CodecReads: what its calls read.
  What was written, read: the value as it is kept.
  Events and their bytes: the plain law.
-/
import Derived.Test.YtloplmaekonenaaGreatDoorZi5
import Derived.Defers
import Derived.Recover
import Derived.Test.YtloplmaekonenaaGreatDoorZi10
import Derived.Test.YtloplmaekonenaaGreatDoorZi13
namespace Go.Proofs.YtloplmaekonenaaGreatDoor
set_option maxRecDepth 20000
open Go.RowKit
set_option maxRecDepth 20000 in
theorem catch_short (k : Nat) (w : World) (hk : w.heap[k]? = some (.cells #[.bool false] 4 (0, 0))) :
    CallsD Tryz.prog 112 #[.pointer (some ⟨k, 0, none⟩)] (.panicking short) w fun e u' w' =>
      e = .returned (.tuple #[]) ∧ u' = .panicking [{ v := .iface 165 (.agg #[]), recovered := true }] ∧ Mod (fun j => j = k) w w' ∧ w'.heap[k]? = some (.cells #[.bool false] 4 (0, 0)) := by
  have hc : w.cell? ⟨k, 0, none⟩ = some (.bool false) := cell_of hk rfl
  have hf : w.frozen? ⟨k, 0, none⟩ = false := fr_of hk
  have hkl : k < w.heap.size := (Array.getElem?_eq_some_iff.1 hk).1
  have hkn : w.heap.size ≠ k := by omega
  have hmk : Mod (fun j => j = k) w ((w.setCell ⟨k, 0, none⟩ (.bool false)).alloc (.cells #[] 165)) := ((Mod.refl (fun j => j = k) w).setCell (fun _ => rfl) _).alloc _
  have hgk : ((w.setCell ⟨k, 0, none⟩ (.bool false)).alloc (.cells #[] 165)).heap[k]? = some (.cells #[.bool false] 4 (0, 0)) := heap_old (heap_set hk)
  have Hmk := Lib.hid hmk
  have Hgk := Lib.hid hgk
  have Hk := Lib.hid hk
  clear hmk hgk hk
  have hta : (Instr.typeAssert (.iface 165 (.agg #[])) 20 165 true).run Tryz.prog w = .ok (.tuple #[.agg #[], .bool true]) w := by simp [Instr.typeAssert, run_underlying Tryz.underlying165, go_sem, Result.andThen]
  refine callsD_of_wpS Tryz.func112 rfl fun c₀ cs hu => ?_
  apply wpS_seq
  apply wpS_region
  simp [wpOpsS, go_sem, recoverD, hu, short, Tryz.ntmps112, Exit.thenS]
  simp only [Array.replicate_succ, Array.replicate_zero, List.push_toArray, List.append_toArray, List.nil_append, List.cons_append, List.setIfInBounds_toArray, List.set_cons_zero, List.set_cons_succ]
  refine wpS_of_wp ?_
  go_wp2_with fail
  exact ⟨rfl, _, rfl, _, by simp [results, Tryz.results112], rfl, rfl, Hmk.out, Hgk.out⟩
theorem catch_none (k : Nat) (w : World) : CallsD Tryz.prog 112 #[.pointer (some ⟨k, 0, none⟩)] .returning w fun e u' w' => e = .returned (.tuple #[]) ∧ u' = .returning ∧ w' = w := by
  refine callsD_of_wpS Tryz.func112 rfl fun c₀ cs hu => ?_
  apply wpS_seq
  apply wpS_region
  simp [wpOpsS, go_sem, recoverD, hu, Tryz.ntmps112, Exit.thenS]
  simp only [Array.replicate_succ, Array.replicate_zero, List.push_toArray, List.append_toArray, List.nil_append, List.cons_append, List.setIfInBounds_toArray, List.set_cons_zero, List.set_cons_succ]
  refine wpS_of_wp ?_
  go_wp2_with fail
  cases c₀
  simp_all [bodyPostS, results, Tryz.results112]
theorem read_at (v : Value) (G : Nat) (bs : List UInt8) (F : FuncId) (cap : Array Value) (w : World) (hb : BytesAt w G v bs) (hG : G < w.heap.size) (hF : ∀ args w, (callFunc F args).run Tryz.prog w = .ok (.enter F args) w) (Good : Nat → Bool → World → Prop)
    (hcall : ∀ r k w1, Mod (fun _ => False) w w1 → w.heap.size ≤ k → w.heap.size ≤ r → k ≠ r → k < w1.heap.size → Rdr w1 r G bs → w1.heap[k]? = some (.cells #[.bool false] 4 (0, 0)) →
      Calls Tryz.prog F (#[.pointer (some ⟨r, 0, none⟩)] ++ cap) w1 fun e w2 => w2.heap[k]? = some (.cells #[.bool false] 4 (0, 0)) ∧
        ((e = .panicked short ∧ Good k false w2) ∨ (∃ t, e = .returned (.tuple #[]) ∧ Rdr w2 r G t ∧ Good k t.isEmpty w2))) :
    Calls Tryz.prog 71 #[v, .func (.func F) #[] cap] w fun e w' => ∃ ok w2 k, e = .returned (.bool ok) ∧ Good k ok w2 ∧ w.heap.size ≤ k ∧ Mod (fun j => j = k) w2 w' := by
  have hmf : ∀ (fn : Fn) (first cap : Array Value) (w : World), (Instr.makeFunc fn first cap).run Tryz.prog w = .ok (.func fn first cap) w := fun _ _ _ _ => rfl
  obtain ⟨a, c, rfl, -⟩ := hb.ex
  obtain ⟨wb, hwb⟩ : ∃ wb : World, wb = (w.alloc (.cells #[.bool false] 4)).alloc (.cells #[.slice a bs.length c] 163) := ⟨_, rfl⟩
  have hmb : Mod (fun _ => False) w wb := hwb ▸ ((Mod.refl (fun _ => False) w).alloc _).alloc _
  have hk : wb.heap[w.heap.size]? = some (.cells #[.bool false] 4 (0, 0)) := hwb ▸ heap_old (heap_alloc_new w _)
  have hr : wb.heap[w.heap.size + 1]? = some (.cells #[.slice a bs.length c] 163 (0, 0)) := hwb ▸ heap_alloc2 w _ _
  have hrd : Rdr wb (w.heap.size + 1) G bs := ⟨by omega, _, hr, hb.mod hmb (fun _ h => h)⟩
  have hc := hcall (w.heap.size + 1) w.heap.size wb hmb (Nat.le_refl _) (by omega) (by omega) (Array.getElem?_eq_some_iff.1 hk).1 hrd hk
  have Hc := Lib.hid hc
  have Hwb := Lib.hid hwb
  clear hc hcall hwb hrd hmb hk hr hb
  go_enter_defers Tryz.func71, Tryz.ntmps71
  go_wp2_with fail
  rw [← Hwb.out]
  refine Hc.out.mono ?_
  rintro e w2 ⟨hk2, ⟨rfl, hgood⟩ | ⟨t, rfl, hr2, hgood⟩⟩
  · refine leaves_cons (f := 112) (args := #[.pointer (some ⟨w.heap.size, 0, none⟩)]) (by simp) (by simp [go_sem]) ?_
    refine (catch_short w.heap.size w2 hk2).mono ?_
    rintro e u' w3 ⟨rfl, rfl, hm3, hk3⟩
    have hc3 : w3.cell? ⟨w.heap.size, 0, none⟩ = some (.bool false) := cell_of hk3 rfl
    simp [Leaves, settle, results, Tryz.results71, go_sem, hc3]
    exact ⟨w2, w.heap.size, hgood, Nat.le_refl _, hm3⟩
  · obtain ⟨E, hE⟩ : ∃ E, t.isEmpty = E := ⟨_, rfl⟩
    rw [hE] at hgood
    have HE := Lib.hid hE
    clear hE
    have Hgood := Lib.hid hgood
    obtain ⟨v2, hrr, hb2⟩ := hr2.ex
    obtain ⟨a2, c2, rfl, -⟩ := hb2.ex
    have cr : w2.cell? ⟨w.heap.size + 1, 0, none⟩ = some (.slice a2 t.length c2) := cell_of hrr rfl
    have ck : w2.cell? ⟨w.heap.size, 0, none⟩ = some (.bool false) := cell_of hk2 rfl
    have fk : w2.frozen? ⟨w.heap.size, 0, none⟩ = false := fr_of hk2
    have Hk2 := Lib.hid hk2
    clear hr2 hrr hb2 hgood hk2
    go_wp2_with fail
    refine leaves_cons (f := 112) (args := #[.pointer (some ⟨w.heap.size, 0, none⟩)]) (by simp) (by simp [go_sem]) ?_
    refine (catch_none w.heap.size _).mono ?_
    rintro e u' w3 ⟨rfl, rfl, rfl⟩
    have ht : ((t.length : Int) == 0) = E := by
      rw [← HE.out]
      cases t with
      | nil => rfl
      | cons x t => rw [List.length_cons]; exact beq_eq_false_iff_ne.2 (by omega)
    have hm : Mod (fun j => j = w.heap.size) w2 (w2.setCell ⟨w.heap.size, 0, none⟩ (.bool ((t.length : Int) == 0))) := (Mod.refl (fun j => j = w.heap.size) w2).setCell (fun _ => rfl) _
    have hc3 : (w2.setCell ⟨w.heap.size, 0, none⟩ (.bool ((t.length : Int) == 0))).cell? ⟨w.heap.size, 0, none⟩ = some (.bool E) := by
      rw [ht]; exact cell_of (heap_set Hk2.out) rfl
    have Hm := Lib.hid hm
    clear hm
    simp [Leaves, settle, results, Tryz.results71, go_sem, hc3]
    cases E with
    | false => exact .inl ⟨rfl, w2, w.heap.size, Hgood.out, Nat.le_refl _, Hm.out⟩
    | true => exact .inr ⟨rfl, w2, w.heap.size, Hgood.out, Nat.le_refl _, Hm.out⟩
end Go.Proofs.YtloplmaekonenaaGreatDoor
namespace Go.Proofs.YtloplmaekonenaaGreatDoor
set_option maxRecDepth 20000
open Go.RowKit
theorem long_fwd (x : Nat) (hx : x < 2 ^ 64) : longOf (longBytes x) = x := by
  simp only [longBytes, List.range_succ, List.range_zero, List.nil_append, List.cons_append, List.map_cons, List.map_nil, longOf, List.foldl_cons, List.foldl_nil]
  simp only [Nat.zero_mul, Nat.zero_add, Nat.sub_self, Nat.pow_zero, Nat.div_one, Nat.reduceSub, Nat.reducePow]
  have key : ∀ N : Nat, (byteOf (N : Int)).toNat = N % 256 := fun N => by
    have := byteOf_toNat (N : Int)
    rw [IntKind.wrap_u8] at this
    omega
  simp only [key]
  omega
theorem readT_fwd (s : ByteArray) (t : List UInt8) (hs : s.size ≤ 255) : readT ((byteOf s.size :: txt s) ++ t) = some (s, t) := by
  have h1 : (byteOf (s.size : Int)).toNat = s.size := by
    have := byteOf_toNat (s.size : Int)
    rw [IntKind.wrap_u8] at this
    omega
  show (if (byteOf (s.size : Int)).toNat ≤ (txt s ++ t).length then some (str ((txt s ++ t).take (byteOf (s.size : Int)).toNat), (txt s ++ t).drop (byteOf (s.size : Int)).toNat) else none) = _
  rw [h1, if_pos (by rw [List.length_append, txt_length]; omega), ← txt_length s, List.take_left, List.drop_left]
  rfl
theorem own_bytes {w : World} {v : Value} {bs : List UInt8} (h : OwnSl w 5 1 v bs.length (u8s bs)) (hne : bs ≠ []) : ∃ G, v.ownBlock = some G ∧ BytesAt w G v bs ∧ G < w.heap.size := by
  have hlt := h.lt
  have hrd := h.rd
  rcases h.2 with ⟨rfl, h0⟩ | ⟨g, off, cap, cur, hv, hg, hn, -⟩
  · exact absurd (List.eq_nil_of_length_eq_zero h0) hne
  · obtain ⟨-, a, c, h1, h2, h3, h4⟩ := hrd
    rw [hv] at h1
    cases h1
    obtain ⟨g', off', h5, h6⟩ := h4 _ rfl (List.length_pos_iff.2 hne)
    cases h5
    refine ⟨g, by rw [hv]; rfl, ⟨_, cap, hv, hn, (fun h => by cases h), fun b hb => ⟨off, (by cases hb; rfl), (Array.getElem?_eq_some_iff.1 hg).1, fun j u hu => h6 j _ (by simp [u8s, hu])⟩⟩, (Array.getElem?_eq_some_iff.1 hg).1⟩
end Go.Proofs.YtloplmaekonenaaGreatDoor
namespace Go.Proofs.YtloplmaekonenaaGreatDoor
set_option maxRecDepth 20000
open Go.RowKit
theorem fEq_0 : fEq 0 0 = true := by decide +kernel
theorem fEq_max : fEq (2 ^ 63 - 1) (2 ^ 63 - 1) = false := by decide +kernel
theorem canon_self {x : Nat} (h : fEq (canonB x) (canonB x) = true) : canonB (canonB x) = canonB x := by
  have hnan : fEq nanB nanB = false := by decide +kernel
  unfold canonB at h ⊢
  split at h
  · rename_i h1
    split at h
    · rename_i h2
      simp only [h1, h2, if_true, fEq_0]
    · rename_i h2
      simp only [h1, h2, if_true, if_false, Bool.false_eq_true]
  · rw [hnan] at h; cases h
theorem back_of_key {x : Nat} (hx : x < 2 ^ 64) : backB (keyB x) = (canonB x, true) := by
  have hc := canonB_lt hx
  cases hf : fEq (canonB x) (canonB x) with
  | false =>
    have hk : keyB x = 2 ^ 64 - 1 := by unfold keyB; rw [hf]; rfl
    unfold backB
    rw [if_pos hk]
    congr 1
    unfold canonB at hf ⊢
    split at hf
    · rename_i h1
      split at hf
      · rw [fEq_0] at hf; cases hf
      · rw [h1] at hf; cases hf
    · rename_i h1
      rw [if_neg h1]
  | true =>
    have hcs := canon_self hf
    obtain ⟨y, hy⟩ : ∃ y, canonB x = y := ⟨_, rfl⟩
    rw [hy] at hf hc hcs
    have hk : keyB x = if y < 2 ^ 63 then y + 2 ^ 63 else 2 ^ 64 - 1 - y := by unfold keyB; rw [hy, hf]; rfl
    have hky : keyB y = if y < 2 ^ 63 then y + 2 ^ 63 else 2 ^ 64 - 1 - y := by unfold keyB; rw [hcs, hf]; rfl
    have hmax : y ≠ 2 ^ 63 - 1 := fun h => by rw [h, fEq_max] at hf; cases hf
    have hne : keyB x ≠ 2 ^ 64 - 1 := by rw [hk]; split <;> omega
    have hun : unkeyB (keyB x) = y := by
      rw [hk]
      unfold unkeyB
      split
      · rename_i h; rw [if_neg (by omega)]; omega
      · rename_i h; rw [if_pos (by omega)]; omega
    unfold backB
    rw [if_neg hne, hun, hf, hky, ← hk, hy]
    simp
structure V.told (v : V) : Prop where
  right : v.right = true
  int : -9223372036854775808 ≤ v.int ∧ v.int ≤ 9223372036854775807
  num : v.num < 2 ^ 64
theorem byteOf_nat (k : Nat) (h : k ≤ 255) : (byteOf (k : Int)).toNat = k := by
  have := byteOf_toNat (k : Int)
  rw [IntKind.wrap_u8] at this
  omega
theorem readV_fwd (v : V) (t : List UInt8) (h : v.told) : readV (valBytes v ++ t) = some (v.canon, t) := by
  obtain ⟨hr, hi, hn⟩ := h
  obtain ⟨kind, int, num, text, yes⟩ := v
  unfold V.right at hr
  simp only [Bool.and_eq_true, decide_eq_true_eq] at hr
  obtain ⟨h0, h3, ht⟩ := hr
  obtain ⟨k, rfl⟩ : ∃ k : Nat, kind = k := ⟨kind.toNat, by omega⟩
  have hk := byteOf_nat k (by omega)
  unfold valBytes
  rw [List.cons_append, readV_cons, hk]
  have hk3 : k ≤ 3 := by omega
  rcases (by omega : k = 0 ∨ k = 1 ∨ k = 2 ∨ k = 3) with rfl | rfl | rfl | rfl
  · rw [if_pos rfl]
    show (if 8 ≤ (longBytes (int % 18446744073709551616).toNat ++ t).length then _ else none) = _
    have hl : (longBytes (int % 18446744073709551616).toNat).length = 8 := longBytes_length _
    rw [if_pos (by rw [List.length_append]; omega)]
    show some (({ V.zero with kind := 0, int := wrap64 (longOf ((longBytes (int % 18446744073709551616).toNat ++ t).take 8) : Nat) } : V), (longBytes (int % 18446744073709551616).toNat ++ t).drop 8) = _
    rw [List.take_append_of_le_length (by omega), List.take_of_length_le (by omega), List.drop_append_of_le_length (by omega), List.drop_of_length_le (by omega), List.nil_append, long_fwd _ (by omega)]
    have hw : wrap64 (((int % 18446744073709551616).toNat : Nat) : Int) = int := by unfold wrap64; simp only at hi; omega
    rw [hw]
    rfl
  · rw [if_neg (by omega), if_pos rfl]
    have hl : (longBytes (keyB num)).length = 8 := longBytes_length _
    have hkl := keyB_lt (x := num) hn
    show (if 8 ≤ (longBytes (keyB num) ++ t).length ∧ (backB (longOf ((longBytes (keyB num) ++ t).take 8))).2 = true then some (({ V.zero with kind := 1, num := (backB (longOf ((longBytes (keyB num) ++ t).take 8))).1 } : V), (longBytes (keyB num) ++ t).drop 8) else none) = _
    rw [List.take_append_of_le_length (by omega), List.take_of_length_le (by omega), List.drop_append_of_le_length (by omega), List.drop_of_length_le (by omega), List.nil_append, long_fwd _ hkl, back_of_key hn]
    rw [if_pos ⟨by rw [List.length_append]; omega, rfl⟩]
    rfl
  · rw [if_neg (by omega), if_neg (by omega), if_pos rfl]
    show (if (byteOf (text.size : Int)).toNat ≤ (txt text ++ t).length ∧ (byteOf (text.size : Int)).toNat ≤ 40 then some (({ V.zero with kind := 2, text := str ((txt text ++ t).take (byteOf (text.size : Int)).toNat) } : V), (txt text ++ t).drop (byteOf (text.size : Int)).toNat) else none) = _
    rw [byteOf_nat text.size (by omega), if_pos ⟨by rw [List.length_append, txt_length]; omega, ht⟩, ← txt_length text, List.take_left, List.drop_left]
    rfl
  · rw [if_neg (by omega), if_neg (by omega), if_neg (by omega), if_pos rfl]
    show (if (if yes = true then (1 : UInt8) else 0).toNat ≤ 1 then some (({ V.zero with kind := 3, yes := (if yes = true then (1 : UInt8) else 0).toNat == 1 } : V), t) else none) = _
    cases yes <;> rfl
end Go.Proofs.YtloplmaekonenaaGreatDoor
namespace Go.Proofs.YtloplmaekonenaaGreatDoor
set_option maxRecDepth 20000
open Go.RowKit
theorem readT_app {bs t : List UInt8} {s : ByteArray} (u : List UInt8) (h : readT bs = some (s, t)) : readT (bs ++ u) = some (s, t ++ u) := by
  cases bs with
  | nil => cases h
  | cons x b =>
    have h : (if x.toNat ≤ b.length then some (str (b.take x.toNat), b.drop x.toNat) else none) = some (s, t) := h
    show (if x.toNat ≤ (b ++ u).length then some (str ((b ++ u).take x.toNat), (b ++ u).drop x.toNat) else none) = _
    split at h
    · rename_i hl
      cases h
      rw [if_pos (by rw [List.length_append]; omega), List.take_append_of_le_length hl, List.drop_append_of_le_length hl]
    · cases h
theorem readV_app {bs t : List UInt8} {v : V} (u : List UInt8) (h : readV bs = some (v, t)) : readV (bs ++ u) = some (v, t ++ u) := by
  cases bs with
  | nil => cases h
  | cons k b =>
    rw [List.cons_append, readV_cons]
    rw [readV_cons] at h
    by_cases h0 : k.toNat = 0
    · rw [if_pos h0] at h ⊢
      split at h
      · rename_i hl
        cases h
        rw [if_pos (by rw [List.length_append]; omega), List.take_append_of_le_length hl, List.drop_append_of_le_length hl]
      · cases h
    · rw [if_neg h0] at h ⊢
      by_cases h1 : k.toNat = 1
      · rw [if_pos h1] at h ⊢
        split at h
        · rename_i hl
          cases h
          rw [List.take_append_of_le_length hl.1, if_pos ⟨by rw [List.length_append]; omega, hl.2⟩, List.drop_append_of_le_length hl.1]
        · cases h
      · rw [if_neg h1] at h ⊢
        by_cases h2 : k.toNat = 2
        · rw [if_pos h2] at h ⊢
          cases b with
          | nil => cases h
          | cons n b =>
            rw [List.cons_append]
            simp only at h ⊢
            split at h
            · rename_i hl
              cases h
              rw [if_pos ⟨by rw [List.length_append]; omega, hl.2⟩, List.take_append_of_le_length hl.1, List.drop_append_of_le_length hl.1]
            · cases h
        · rw [if_neg h2] at h ⊢
          by_cases h3 : k.toNat = 3
          · rw [if_pos h3] at h ⊢
            cases b with
            | nil => cases h
            | cons n b =>
              rw [List.cons_append]
              simp only at h ⊢
              split at h
              · rename_i hl
                cases h
                rw [if_pos hl]
              · cases h
          · rw [if_neg h3] at h; cases h
theorem readAtts_app : ∀ (n : Nat) {bs t : List UInt8} {l : List Att} (u : List UInt8), readAtts n bs = some (l, t) → readAtts n (bs ++ u) = some (l, t ++ u)
  | 0, bs, t, l, u, h => by cases h; rfl
  | n + 1, bs, t, l, u, h => by
    rw [readAtts_succ] at h ⊢
    cases h1 : readT bs with
    | none => rw [h1] at h; cases h
    | some p =>
      obtain ⟨s, t1⟩ := p
      rw [h1] at h
      rw [readT_app u h1]
      simp only [Option.bind_some] at h ⊢
      cases h2 : readV t1 with
      | none => rw [h2] at h; cases h
      | some q =>
        obtain ⟨v, t2⟩ := q
        rw [h2] at h
        rw [readV_app u h2]
        simp only [Option.bind_some] at h ⊢
        cases h3 : readAtts n t2 with
        | none => rw [h3] at h; cases h
        | some z =>
          obtain ⟨m, t3⟩ := z
          rw [h3] at h
          rw [readAtts_app n u h3]
          cases h
          rfl
theorem readE_app {bs t : List UInt8} {p : ByteArray × List Att} (u : List UInt8) (h : readE bs = some (p, t)) : readE (bs ++ u) = some (p, t ++ u) := by
  unfold readE at h ⊢
  cases h1 : readT bs with
  | none => rw [h1] at h; cases h
  | some q =>
    obtain ⟨s, t1⟩ := q
    rw [h1] at h
    rw [readT_app u h1]
    simp only [Option.bind_some] at h ⊢
    cases t1 with
    | nil => cases h
    | cons n t1 =>
      rw [List.cons_append]
      simp only at h ⊢
      cases h3 : readAtts n.toNat t1 with
      | none => rw [h3] at h; cases h
      | some z =>
        obtain ⟨m, t3⟩ := z
        rw [h3] at h
        rw [readAtts_app n.toNat u h3]
        simp only [Option.bind_some] at h ⊢
        split at h
        · rename_i hr
          rw [if_pos hr]
          cases h
          rfl
        · cases h
structure Att.tells (a : Att) : Prop where
  name : a.name.size ≤ 255
  v : a.v.told
  kept : a.v.canon = a.v
theorem readAtts_fwd : ∀ (l : List Att) (t : List UInt8), (∀ a ∈ l, a.tells) → readAtts l.length (l.flatMap attBytes ++ t) = some (l, t)
  | [], t, _ => rfl
  | a :: l, t, h => by
    have ha := h a (by simp)
    have ih := readAtts_fwd l t (fun d hd => h d (by simp [hd]))
    rw [List.length_cons, readAtts_succ, List.flatMap_cons]
    have e : attBytes a ++ l.flatMap attBytes ++ t = (byteOf a.name.size :: txt a.name) ++ (valBytes a.v ++ (l.flatMap attBytes ++ t)) := by simp [attBytes]
    rw [e, readT_fwd a.name _ ha.name]
    simp only [Option.bind_some]
    rw [readV_fwd a.v _ ha.v]
    simp only [Option.bind_some]
    rw [ih, ha.kept]
    rfl
theorem readE_fwd (sc : ByteArray) (l : List Att) (t : List UInt8) (hs : sc.size ≤ 255) (hr : evRight l = true) (h : ∀ a ∈ l, a.tells) : readE (evBytes sc l ++ t) = some ((sc, l), t) := by
  have hl : l.length ≤ 255 := by
    unfold evRight at hr
    simp only [Bool.and_eq_true, decide_eq_true_eq] at hr
    omega
  have e : evBytes sc l ++ t = (byteOf sc.size :: txt sc) ++ (byteOf l.length :: (l.flatMap attBytes ++ t)) := by simp [evBytes]
  unfold readE
  rw [e, readT_fwd sc _ hs]
  show ((readAtts (byteOf (l.length : Int)).toNat (l.flatMap attBytes ++ t)).bind fun z => if evRight z.1 then some ((sc, z.1), z.2) else none) = _
  rw [byteOf_nat l.length hl, readAtts_fwd l t h]
  simp only [Option.bind_some, hr, if_true]
theorem canonB_canon' (x : Nat) : canonB (canonB x) = canonB x := by
  cases h : fEq (canonB x) (canonB x) with
  | true => exact canon_self h
  | false =>
    have hn : canonB x = nanB := by
      unfold canonB at h ⊢
      split at h
      · rename_i h1
        split at h
        · rw [fEq_0] at h; cases h
        · rw [h1] at h; cases h
      · rename_i h1
        rw [if_neg h1]
    rw [hn]
    unfold canonB
    rw [if_neg (by decide +kernel)]
theorem V.canon_kept (v : V) : v.canon.canon = v.canon := by
  unfold V.canon
  split
  · rfl
  · split
    · simp [canonB_canon']
    · split
      · rfl
      · split
        · rfl
        · rfl
theorem canon_num' {v : V} (h : v.num < 2 ^ 64) : v.canon.num < 2 ^ 64 := by
  unfold V.canon
  split
  · show (0 : Nat) < 2 ^ 64; decide
  · split
    · exact canonB_lt h
    · split
      · show (0 : Nat) < 2 ^ 64; decide
      · split
        · show (0 : Nat) < 2 ^ 64; decide
        · show (0 : Nat) < 2 ^ 64; decide
theorem Att.tells_fit {a : Att} (h : a.tells) : a.fit := ⟨h.name, by
  have := h.v.right
  unfold V.right at this
  simp only [Bool.and_eq_true, decide_eq_true_eq] at this
  omega, h.v.num⟩
end Go.Proofs.YtloplmaekonenaaGreatDoor
