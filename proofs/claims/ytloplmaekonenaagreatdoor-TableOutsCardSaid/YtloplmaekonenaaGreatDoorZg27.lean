/-
  filter.Key; package table: Remove, Drop.
  event.Get; cond.Match; filter.Match.
-/
import Derived.Test.YtloplmaekonenaaGreatDoorZg26
import Derived.Test.YtloplmaekonenaaGreatDoorZg19
import Derived.Test.YtloplmaekonenaaGreatDoorZg18
namespace Go.Proofs.YtloplmaekonenaaGreatDoor
set_option maxRecDepth 20000
open Go.RowKit

set_option maxHeartbeats 4000000 in
theorem fkey_at (w0 w : World) (hl : Laid w0 w) (sc : ByteArray) (cv : Value) (l : List Cnd) (hv : RdSl w 7 cv l.length (cnds l)) (hll : l.length < 20) (hcs : ∀ c ∈ l, c.fits) (hsc : sc.size ≤ 1000000) :
    Calls Tryz.prog 32 #[.agg #[.string sc, cv]] w fun e w' => e = .returned (.string (str (keyF (sc, normC l)))) ∧ Mod (fun _ => False) w w' := by
  obtain ⟨wa, hwa⟩ : ∃ wa : World, w.alloc (.cells #[.string sc, cv] 29) = wa := ⟨_, rfl⟩
  have hmwa : Mod (fun _ => False) w wa := hwa ▸ (Mod.refl (fun _ => False) w).alloc _
  have hgwa := heap_alloc_new w (.cells #[.string sc, cv] 29)
  rw [hwa] at hgwa
  have hzwa : wa.heap.size = w.heap.size + 1 := by rw [← hwa]; simp
  have hnm := norm_at w0 wa (hl.mod0 hmwa) sc cv l (hv.mod hmwa (fun _ _ h => h)) hll hcs
  have c0 : wa.cell? ⟨w.heap.size, 0, none⟩ = some (.string sc) := cell_of hgwa rfl
  have c1 : wa.cell? ⟨w.heap.size, 1, none⟩ = some cv := cell_of hgwa rfl
  obtain ⟨nl, hnl⟩ : ∃ nl, normC l = nl := ⟨_, rfl⟩
  rw [hnl] at hnm ⊢
  have hnf : ∀ c ∈ nl, c.fits := by rw [← hnl]; exact normC_fits hcs
  have hlen : nl.length < 20 := by rw [← hnl]; exact Nat.lt_of_le_of_lt (normC_len l) hll
  have Hl := Lib.hid hl
  have Hv := Lib.hid hv
  have Hcs := Lib.hid hcs
  have Hnm := Lib.hid hnm
  have Hnl := Lib.hid hnl
  have Hnf := Lib.hid hnf
  have Hwa := Lib.hid hwa
  have Hmwa := Lib.hid hmwa
  have Hgwa := Lib.hid hgwa
  clear hl hv hcs hnm hnl hnf hwa hmwa hgwa hzwa
  go_enter Tryz.func32, Tryz.ntmps32
  go_wp2_with (first | (rw [show w.alloc _ = wa from Hwa.out]) | fail)
  refine Hnm.out.mono ?_
  rintro e w2 ⟨na, nc, rfl, hno, hnb, hm2⟩
  have hm02 := Hmwa.out.trans hm2 (fun _ _ h => h)
  have hpr := fprint_at w0 w2 (Hl.out.mod0 hm02) sc (.slice na nl.length nc) nl hno.rd (by omega) hsc Hnf.out
  have Hno := Lib.hid hno
  have Hnb := Lib.hid hnb
  have Hm2 := Lib.hid hm2
  have Hm02 := Lib.hid hm02
  have Hpr := Lib.hid hpr
  clear hno hnb hm2 hm02 hpr
  go_wp2_with fail
  refine Hpr.out.mono ?_
  rintro e w3 ⟨rfl, hm3⟩
  have hm := Hm02.out.trans hm3 (fun _ _ h => h)
  have Hm := Lib.hid hm
  clear hm
  go_wp2_with fail
  go_ret
  exact ⟨rfl, Hm.out⟩

theorem kat_del {w w6 : World} {own C : Nat → Prop} {mi N n6 : Nat} {g g' : List UInt8 → Option Fil} {fi : Lit → Option Value} {key : List UInt8} (h3 : ∀ k, FilIs w own C (fi (.string k)) (g k))
    (h6 : MapR w6 9 mi n6 (delF fi (.string key))) (hn : n6 ≤ N) (hm : Mod (fun k => k = mi) w w6) (hmi : ¬ C mi) (hg : ∀ k, g' k = if k = key then none else g k) : KAt w6 own C mi N g' := by
  refine ⟨_, _, h6, hn, fun k => ?_⟩
  rw [hg]
  unfold delF
  by_cases e : k = key
  · rw [if_pos e, if_pos (by rw [e])]; trivial
  · rw [if_neg e, if_neg (fun h => e (Lit.string.inj h))]
    exact (h3 k).mod2 hm (fun k _ e h => hmi (e ▸ h))
theorem tabD_sub {M : List (Int × Fil)} {p : Int × Fil} {id : Int} {k : List UInt8} (h : p ∈ tabD M id k) : p ∈ M := (List.mem_filter.1 h).1
/-- One entry less. -/
theorem tab_cut {w w8 : World} {b mo mi N n : Nat} {own C : Nat → Prop} {M : List (Int × Fil)} {f : Lit → Option Value} {id : Int} {key : List UInt8} (h : TabAt w b mo own C M N) (hO : MapR w 3 mo n f) (hn : n ≤ N)
    (hf1 : ∀ id : Int, InAt w own C b mo N (tabF M id) (f (.int .i64 id))) (hf2 : ∀ (x y : Int) mi, f (.int .i64 x) = some (.map (some mi)) → f (.int .i64 y) = some (.map (some mi)) → x = y)
    (hfid : f (.int .i64 id) = some (.map (some mi))) (hmi : own mi ∧ mi ≠ b ∧ mi ≠ mo) (hK : KAt w8 own C mi N (tabF (tabD M id key) id)) (hm : Mod (fun k => k = mi) w w8) : TabAt w8 b mo own C (tabD M id key) N := by
  refine ⟨hm.heap h.row (fun e => hmi.2.1 e.symm), h.ob, h.ne, ⟨n, f, hO.mod hm (fun e => hmi.2.2 e.symm), hn, fun x => ?_, hf2⟩, h.nd.sublist List.filter_sublist, Nat.le_trans (List.length_filter_le _ _) h.low, h.dis, fun k hk => Nat.lt_of_lt_of_le (h.olow k hk) hm.size, fun k hk => Nat.lt_of_lt_of_le (h.clow k hk) hm.size, fun p hp => h.wf p (tabD_sub hp), fun p hp => h.sc p (tabD_sub hp)⟩
  by_cases e : x = id
  · subst e
    rw [hfid]
    exact ⟨mi, rfl, hmi.1, hmi.2.1, hmi.2.2, hK⟩
  · have h1 := (hf1 x).mod hm (fun m hm' hf => e (hf2 x id mi (by rw [hm', hf]) hfid)) (fun k hk hf hc => h.dis k (hf ▸ hmi.1) hc)
    exact h1.cong (fun k _ _ h => h) (fun _ h => h) (fun _ h => h) (Nat.le_refl _) (fun k => by rw [tabF_del, if_neg (fun h => e h.1)])
/-- What Remove leaves. -/
def TRemPost (w : World) (b : Nat) (own C : Nat → Prop) (M : List (Int × Fil)) (N : Nat) (id : Int) (k : List UInt8) (e : Ending) (w' : World) : Prop :=
  (tabF M id k = none ∧ e = .returned (.bool false) ∧ Mod (fun _ => False) w w') ∨ (tabF M id k ≠ none ∧ e = .returned (.bool true) ∧ Tab w' b own C (tabD M id k) N ∧ Mod own w w')

set_option maxHeartbeats 8000000 in
theorem trem_at (w0 w : World) (hl : Laid w0 w) (b : Nat) (own C : Nat → Prop) (M : List (Int × Fil)) (N : Nat) (h : Tab w b own C M N) (hN : N ≤ 100000) (id : Int) (hid : (Lit.int .i64 id).wf = true)
    (sc : ByteArray) (cv : Value) (l : List Cnd) (hv : RdSl w 7 cv l.length (cnds l)) (hll : l.length < 20) (hcs : ∀ c ∈ l, c.fits) (hsc : sc.size ≤ 1000000) :
    Calls Tryz.prog 27 #[.pointer (some ⟨b, 0, none⟩), .int .i64 id, .agg #[.string sc, cv]] w (TRemPost w b own C M N id (keyF (sc, normC l))) := by
  obtain ⟨mo, h⟩ := h
  obtain ⟨a, cap, rfl, hcap⟩ : ∃ a c, cv = .slice a l.length c ∧ l.length ≤ c := by obtain ⟨-, a, c, h, h2, -⟩ := hv; exact ⟨a, c, h, h2⟩
  obtain ⟨wa, hwa⟩ : ∃ wa : World, w.alloc (.cells #[.string sc, .slice a l.length cap] 29) = wa := ⟨_, rfl⟩
  have hmwa : Mod (fun _ => False) w wa := hwa ▸ (Mod.refl (fun _ => False) w).alloc _
  have hgwa := heap_alloc_new w (.cells #[.string sc, .slice a l.length cap] 29)
  rw [hwa] at hgwa
  have hzwa : wa.heap.size = w.heap.size + 1 := by rw [← hwa]; simp
  have hk := fkey_at w0 wa (hl.mod0 hmwa) sc (.slice a l.length cap) l (hv.mod hmwa (fun _ _ h => h)) hll hcs hsc
  have hkl0 := filPrt_len sc (normC l) (normC_fits hcs)
  have hnlen : (normC l).length < 20 := Nat.lt_of_le_of_lt (normC_len l) hll
  obtain ⟨key, hkey⟩ : ∃ key, keyF (sc, normC l) = key := ⟨_, rfl⟩
  rw [hkey] at hk ⊢
  have hkl : key.length ≤ 1000000000 := by rw [show filPrt sc (normC l) = key from hkey] at hkl0; omega
  have c0 : wa.cell? ⟨w.heap.size, 0, none⟩ = some (.string sc) := cell_of hgwa rfl
  have c1 : wa.cell? ⟨w.heap.size, 1, none⟩ = some (.slice a l.length cap) := cell_of hgwa rfl
  have Hl := Lib.hid hl
  have H := Lib.hid h
  have Hv := Lib.hid hv
  have Hcs := Lib.hid hcs
  have Hwa := Lib.hid hwa
  have Hmwa := Lib.hid hmwa
  have Hgwa := Lib.hid hgwa
  have Hk := Lib.hid hk
  have Hid := Lib.hid hid
  have Hkey := Lib.hid hkey
  clear hl h hv hcs hwa hmwa hgwa hk hid hkey hzwa hkl0
  go_enter Tryz.func27, Tryz.ntmps27
  go_wp2_with (first | (rw [show w.alloc _ = wa from Hwa.out]) | fail)
  refine Hk.out.mono ?_
  rintro e w4 ⟨rfl, hm4⟩
  have hm04 := Hmwa.out.trans hm4 (fun _ _ h => h)
  have ht4 := H.out.mod hm04 (fun _ _ h => h.elim)
  obtain ⟨n, f, hf1, hf2, hf3, hf4⟩ := ht4.om
  have hlk := hf1.look keyed_i Tryz.underlying56 (zero_mm w4) (Maps.keyOf_int_mk Tryz.underlying3 Hid.out)
  obtain ⟨s, fa, fn, fc, hlk2⟩ := in_look (hf3 id) key (by unfold maxLen; omega)
  obtain ⟨ok, hok⟩ : ∃ ok, (tabF M id key).isSome = ok := ⟨_, rfl⟩
  rw [hok] at hlk2
  have b0 : w4.cell? ⟨b, 0, none⟩ = some (.map (some mo)) := cell_of ht4.row rfl
  obtain ⟨w5, hw5⟩ : ∃ w5 : World, w4.alloc (.cells #[.string s, .slice fa fn fc] 29) = w5 := ⟨_, rfl⟩
  have hmw5 : Mod (fun _ => False) w4 w5 := hw5 ▸ (Mod.refl (fun _ => False) w4).alloc _
  have hgw5 := heap_alloc_new w4 (.cells #[.string s, .slice fa fn fc] 29)
  rw [hw5] at hgw5
  have hzw5 : w5.heap.size = w4.heap.size + 1 := by rw [← hw5]; simp
  have ht5 := ht4.mod hmw5 (fun _ _ h => h.elim)
  have b5 : w5.cell? ⟨b, 0, none⟩ = some (.map (some mo)) := cell_of ht5.row rfl
  have hv5 := fun x => (hf3 x).mod hmw5 (fun _ _ h => h) (fun _ _ h => h.elim)
  have ho5 := hf1.mod hmw5 (fun h => h)
  have hlk5 := ho5.look keyed_i Tryz.underlying56 (zero_mm w5) (Maps.keyOf_int_mk Tryz.underlying3 Hid.out)
  have hval := (hv5 id).val
  obtain ⟨vv, hvv⟩ : ∃ vv, (f (.int .i64 id)).getD (.map none) = vv := ⟨_, rfl⟩
  rw [hvv] at hlk hlk2 hlk5 hval
  have hm05 := hm04.trans hmw5 (fun _ _ h => h)
  have Ht5 := Lib.hid ht5
  have Hv5 := Lib.hid hv5
  have Ho5 := Lib.hid ho5
  have Hval := Lib.hid hval
  have Hvv := Lib.hid hvv
  have Hm05 := Lib.hid hm05
  have Ht4 := Lib.hid ht4
  have Hf1 := Lib.hid hf1
  have Hf2 := Lib.hid hf2
  have Hf3 := Lib.hid hf3
  have Hf4 := Lib.hid hf4
  have Hm4 := Lib.hid hm4
  have Hm04 := Lib.hid hm04
  have Hmw5 := Lib.hid hmw5
  have Hgw5 := Lib.hid hgw5
  have Hw5 := Lib.hid hw5
  have Hok := Lib.hid hok
  clear ht5 hv5 ho5 hval hvv hm05 ht4 hf1 hf2 hf3 hf4 hm4 hm04 hmw5 hgw5 hw5 hok hzw5 c0 c1
  cases ok with
  | false =>
    go_wp2_with (first | ((with_reducible refine wpList_store_lit 29 (.tmp 8) (.tmp 21) ?_); refine ⟨rfl, [.string s, .slice fa fn fc], rfl, rfl, by kernel_rfl, rfl, ?_⟩; rw [Hw5.out]) | fail)
    go_ret
    refine .inl ⟨?_, rfl, Hm05.out⟩
    have h1 := Hok.out
    cases h2 : tabF M id key with
    | none => rfl
    | some q => rw [h2] at h1; cases h1
  | true =>
    have hqn : tabF M id key ≠ none := fun h => by have h1 := Hok.out; rw [h] at h1; cases h1
    rcases Hval.out with ⟨-, -, hgn⟩ | ⟨mi, hfn, rfl, homi, hmib, hmio, hKA⟩
    · exact absurd (hgn key) hqn
    · obtain ⟨ni, fi, hi1, hi2, hi3⟩ := hKA
      obtain ⟨w8, hd1, hd2, hd3⟩ := hi1.del keyed_s Tryz.underlying61 (key_s key (by unfold maxLen; omega)) 0
      have hK8 : KAt w8 own C mi N (tabF (tabD M id key) id) := kat_del hi3 hd2 (by split <;> omega) hd3 (H.out.dis _ homi) (fun k => by rw [tabF_del]; simp)
      have hT := tab_cut Ht5.out Ho5.out Hf2.out Hv5.out Hf4.out hfn ⟨homi, hmib, hmio⟩ hK8 hd3
      have hm08 : Mod own w w8 := (Hm05.out.mono (fun _ _ h => h.elim)).trans hd3 (fun k hk h => by
        have h2 : k = mi := h
        rw [h2]; exact homi)
      have Hqn := Lib.hid hqn
      have Hfn := Lib.hid hfn
      have Homi := Lib.hid homi
      have Hi1 := Lib.hid hi1
      have Hi2 := Lib.hid hi2
      have Hi3 := Lib.hid hi3
      have Hd2 := Lib.hid hd2
      have Hd3 := Lib.hid hd3
      have HK8 := Lib.hid hK8
      have HT := Lib.hid hT
      have Hm08 := Lib.hid hm08
      clear hqn hfn homi hi1 hi2 hi3 hd2 hd3 hK8 hT hm08
      go_wp2_with (first | ((with_reducible refine wpList_store_lit 29 (.tmp 8) (.tmp 21) ?_); refine ⟨rfl, [.string s, .slice fa fn fc], rfl, rfl, by kernel_rfl, rfl, ?_⟩; rw [Hw5.out]) | fail)
      go_ret
      exact .inr ⟨Hqn.out, rfl, ⟨mo, HT.out⟩, Hm08.out⟩

theorem tabX_sub {M : List (Int × Fil)} {p : Int × Fil} {id : Int} (h : p ∈ tabX M id) : p ∈ M := (List.mem_filter.1 h).1
/-- A place less. -/
theorem tab_drop {w w8 : World} {b mo N n8 : Nat} {own C : Nat → Prop} {M : List (Int × Fil)} {f : Lit → Option Value} {id : Int} (h : TabAt w b mo own C M N) (hO : MapR w8 3 mo n8 (delF f (.int .i64 id))) (hn : n8 ≤ N)
    (hf1 : ∀ id : Int, InAt w own C b mo N (tabF M id) (f (.int .i64 id))) (hf2 : ∀ (x y : Int) mi, f (.int .i64 x) = some (.map (some mi)) → f (.int .i64 y) = some (.map (some mi)) → x = y) (hm : Mod (fun k => k = mo) w w8) : TabAt w8 b mo own C (tabX M id) N := by
  have hd : ∀ x : Int, delF f (.int .i64 id) (.int .i64 x) = if x = id then none else f (.int .i64 x) := fun x => by
    unfold delF
    by_cases e : x = id
    · rw [if_pos (by rw [e]), if_pos e]
    · rw [if_neg (fun h => e (by cases h; rfl)), if_neg e]
  refine ⟨hm.heap h.row (fun e => h.ne e), h.ob, h.ne, ⟨n8, _, hO, hn, fun x => ?_, fun x y mi hx hy => ?_⟩, h.nd.sublist List.filter_sublist, Nat.le_trans (List.length_filter_le _ _) h.low, h.dis, fun k hk => Nat.lt_of_lt_of_le (h.olow k hk) hm.size, fun k hk => Nat.lt_of_lt_of_le (h.clow k hk) hm.size, fun p hp => h.wf p (tabX_sub hp), fun p hp => h.sc p (tabX_sub hp)⟩
  · rw [hd]
    by_cases e : x = id
    · rw [if_pos e]
      intro k
      rw [tabF_drop, if_pos e]
    · rw [if_neg e]
      have h1 := (hf1 x).mod hm (fun m hm' hf => by
        have h2 := hf1 x
        rw [hm'] at h2
        obtain ⟨m', e', -, -, h3, -⟩ := h2
        cases e'
        exact h3 hf) (fun k hk hf hc => h.dis k (hf ▸ h.ob.2) hc)
      exact h1.cong (fun k _ _ h => h) (fun _ h => h) (fun _ h => h) (Nat.le_refl _) (fun k => by rw [tabF_drop, if_neg e])
  · rw [hd] at hx hy
    split at hx
    · cases hx
    · split at hy
      · cases hy
      · exact hf2 x y mi hx hy
set_option maxHeartbeats 2000000 in
theorem tdrop_at (w : World) (b : Nat) (own C : Nat → Prop) (M : List (Int × Fil)) (N : Nat) (h : Tab w b own C M N) (id : Int) (hid : (Lit.int .i64 id).wf = true) :
    Calls Tryz.prog 60 #[.pointer (some ⟨b, 0, none⟩), .int .i64 id] w fun e w' => e = .returned (.tuple #[]) ∧ Tab w' b own C (tabX M id) N ∧ Mod own w w' := by
  obtain ⟨mo, h⟩ := h
  have b0 : w.cell? ⟨b, 0, none⟩ = some (.map (some mo)) := cell_of h.row rfl
  obtain ⟨n, f, hf1, hf2, hf3, hf4⟩ := h.om
  obtain ⟨w8, hd1, hd2, hd3⟩ := hf1.del keyed_i Tryz.underlying56 (Maps.keyOf_int_mk Tryz.underlying3 hid) 0
  have hT := tab_drop h hd2 (by split <;> omega) hf3 hf4 hd3
  have hm : Mod own w w8 := hd3.mono (fun k _ h2 => by rw [show k = mo from h2]; exact h.ob.2)
  have H := Lib.hid h
  have Hf1 := Lib.hid hf1
  have Hf2 := Lib.hid hf2
  have Hf3 := Lib.hid hf3
  have Hf4 := Lib.hid hf4
  have Hd2 := Lib.hid hd2
  have Hd3 := Lib.hid hd3
  have HT := Lib.hid hT
  have Hm := Lib.hid hm
  clear h hf1 hf2 hf3 hf4 hd2 hd3 hT hm
  go_enter Tryz.func60, Tryz.ntmps60
  go_wp2_with fail
  go_end0
  exact ⟨rfl, ⟨mo, HT.out⟩, Hm.out⟩
end Go.Proofs.YtloplmaekonenaaGreatDoor

namespace Go.Proofs.YtloplmaekonenaaGreatDoor
set_option maxRecDepth 20000
open Go.RowKit

/-- An element of what reads as attributes. -/
theorem rd_att {w : World} {a : Option Addr} {cap : Nat} {l : List Att} {j : Nat} {x : Att} (h : RdSl w 6 (.slice a l.length cap) l.length (atts l)) (hx : l[j]? = some x) : ∃ g off, a = some ⟨g, off, none⟩ ∧ CellsAt w g (off + j * 6) x.cells := by
  obtain ⟨-, a', c', h1, -, h3, h4⟩ := h
  cases h1
  cases a with
  | none => have := (List.getElem?_eq_some_iff.1 hx).1; exact absurd (h3 rfl) (by omega)
  | some b =>
    obtain ⟨g', off', h5, h6⟩ := h4 _ rfl (by have := (List.getElem?_eq_some_iff.1 hx).1; omega)
    refine ⟨g', off', by rw [h5], fun i u hu => ?_⟩
    have := h6 (6 * j + i) u (atts_at _ hx hu)
    rw [show off' + j * 6 + i = off' + (6 * j + i) by omega]
    exact this

/-- An attribute's value; whether there is one. -/
def getV (l : List Att) (s : ByteArray) : V × Bool := if there l s = true then (((l[pos l s]?).map Att.v).getD V.zero, true) else (V.zero, false)

/-- Has an event an attribute of that name whose value does? -/
def Cnd.matchB (c : Cnd) (l : List Att) : Bool := (getV l c.name).2 && c.holds (getV l c.name).1

/-- Does an event do? -/
def filMatch (sc : ByteArray) (cs : List Cnd) (es : ByteArray) (l : List Att) : Bool := cs.all (fun c => c.matchB l) && underB es sc

end Go.Proofs.YtloplmaekonenaaGreatDoor
