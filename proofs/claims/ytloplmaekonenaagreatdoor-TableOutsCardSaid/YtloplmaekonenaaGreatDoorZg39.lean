/-
  gazettelaw13.IndexRuns.
  Plain: right filters that are brought to their form have texts of their own.
  Calls of a table in memory; gazettelaw14.light; the plain law of what a table holds.
  What a table should have, by places and keys: the map that the law keeps beside it.
  The map that the law keeps beside a table, in memory.
-/
import Derived.Test.YtloplmaekonenaaGreatDoorZg37
import Derived.Test.YtloplmaekonenaaGreatDoorZg25
import Derived.Test.YtloplmaekonenaaGreatDoorZg38
import Derived.Test.YtloplmaekonenaaGreatDoorZg31
import Derived.Test.YtloplmaekonenaaGreatDoorZg34
import Derived.Lib.IndexLaws
namespace Go.Proofs.YtloplmaekonenaaGreatDoor
set_option maxRecDepth 20000
open Go.RowKit

/-- A call in memory. -/
structure Cl where
  kind : Int
  id : Int
  f : Fr
  es : ByteArray
  ea : Option Addr
  ec : Nat
  L : List Att
def Cl.cells (c : Cl) : List Value := [.int .i64 c.kind, .int .i64 c.id, .string c.f.sc, .slice c.f.a c.f.cs.length c.f.c, .string c.es, .slice c.ea c.L.length c.ec]
structure Cl.ok (w : World) (c : Cl) : Prop where
  f : c.f.ok w
  rd : RdSl w 6 (.slice c.ea c.L.length c.ec) c.L.length (atts c.L)
  id : -9223372036854775808 ≤ c.id ∧ c.id ≤ 9223372036854775807
  es : c.es.size ≤ 9223372036854775807 ∧ c.L.length ≤ 9223372036854775807
  nm : ∀ a ∈ c.L, a.name.size ≤ 9223372036854775807
theorem Fr.ok.mod {w w' : World} {f : Fr} (h : f.ok w) (hm : Mod (fun _ => False) w w') : f.ok w' := ⟨h.cs.mod hm (fun _ _ h => h), h.sc, h.nm⟩
theorem Cl.ok.mod {w w' : World} {c : Cl} (h : c.ok w) (hm : Mod (fun _ => False) w w') : c.ok w' := ⟨h.f.mod hm, h.rd.mod hm (fun _ _ h => h), h.id, h.es, h.nm⟩
/-- What a filter is in the map. -/
def Fr.val (f : Fr) : Value := .agg #[.string f.sc, .slice f.a f.cs.length f.c]
/-- The index and the map, side by side. -/
structure Runs (w0 wb w : World) (b mb : Nat) (own C : Nat → Prop) (M : List (Int × Fr)) (T : Nat) : Prop where
  ix : Idx w b own C (runI M) T
  mp : ∃ fm, MapR w 3 mb M.length fm ∧ ∀ id : Int, fm (.int .i64 id) = (asF M id).map Fr.val
  nd : (M.map Prod.fst).Nodup
  ok : ∀ p ∈ M, p.2.ok w0 ∧ filRight p.2.sc p.2.cs = true ∧ (-9223372036854775808 ≤ p.1 ∧ p.1 ≤ 9223372036854775807)
  o : ∀ k, own k → wb.heap.size ≤ k ∧ k ≠ mb
  c : ∀ k, C k → wb.heap.size ≤ k ∧ k ≠ mb
  m : wb.heap.size ≤ mb
theorem Runs.mod {w0 wb w w' : World} {b mb : Nat} {own C : Nat → Prop} {M : List (Int × Fr)} {T : Nat} (h : Runs w0 wb w b mb own C M T) (hm : Mod (fun _ => False) w w') : Runs w0 wb w' b mb own C M T := by
  obtain ⟨fm, h1, h2⟩ := h.mp
  exact ⟨h.ix.mod hm (fun _ _ h => h), ⟨fm, h1.mod hm (fun h => h), h2⟩, h.nd, h.ok, h.o, h.c, h.m⟩
theorem Runs.new {w0 wb w : World} {b mb : Nat} {own : Nat → Prop} (h : Idx w b own (fun _ => False) [] 0) (hm : MapR w 3 mb 0 (fun _ => none)) (ho : ∀ k, own k → wb.heap.size ≤ k ∧ k ≠ mb) (h1 : wb.heap.size ≤ mb) : Runs w0 wb w b mb own (fun _ => False) [] 0 :=
  ⟨h, ⟨_, hm, fun _ => rfl⟩, List.nodup_nil, fun p hp => (by cases hp), ho, fun _ h => h.elim, h1⟩
theorem id_wf {n : Int} (h : -9223372036854775808 ≤ n ∧ n ≤ 9223372036854775807) : (Lit.int .i64 n).wf = true := by
  simp only [Lit.wf, Bool.and_eq_true, decide_eq_true_eq]
  exact ⟨show (-9223372036854775808 : Int) ≤ n from h.1, show n ≤ (9223372036854775807 : Int) from h.2⟩
theorem Runs.look {w0 wb w : World} {b mb : Nat} {own C : Nat → Prop} {M : List (Int × Fr)} {T : Nat} (h : Runs w0 wb w b mb own C M T) {id : Int} (hid : -9223372036854775808 ≤ id ∧ id ≤ 9223372036854775807) :
    ∃ s a n c, (Instr.lookup 26 (.map (some mb)) (.int .i64 id) true).run Tryz.prog w = .ok (.tuple #[.agg #[.string s, .slice a n c], .bool (asF M id).isSome]) w ∧ ∀ f, asF M id = some f → s = f.sc ∧ a = f.a ∧ n = f.cs.length ∧ c = f.c := by
  obtain ⟨fm, h1, h2⟩ := h.mp
  have h3 := h1.look_ok keyed_i Tryz.underlying26 (zero_fil w) (Maps.keyOf_int_mk Tryz.underlying3 (id_wf hid))
  rw [h2] at h3
  cases hf : asF M id with
  | none =>
    rw [hf] at h3
    exact ⟨_, _, _, _, h3, fun f h => by cases h⟩
  | some f =>
    rw [hf] at h3
    exact ⟨_, _, _, _, h3, fun f' h => by cases h; exact ⟨rfl, rfl, rfl, rfl⟩⟩
theorem asD_none {α : Type} {M : List (Int × α)} {id : Int} (h : asF M id = none) : asD M id = M := by
  unfold asD
  refine List.filter_eq_self.2 fun p hp => ?_
  have : p.1 ≠ id := fun e => asF_none h (e ▸ List.mem_map_of_mem (f := Prod.fst) hp)
  simp [this]
/-- One entry less in the map, and in the index. -/
theorem Runs.del {w0 wb w w4 w5 : World} {b mb n5 : Nat} {own C : Nat → Prop} {M : List (Int × Fr)} {T : Nat} {id : Int} {fm : Lit → Option Value} (h : Runs w0 wb w b mb own C M T) (h2 : ∀ x : Int, fm (.int .i64 x) = (asF M x).map Fr.val) (hix : Idx w4 b own C (runI (asD M id)) T)
    (h5 : MapR w5 3 mb n5 (delF fm (.int .i64 id))) (hn : n5 = if (asF M id).isSome then M.length - 1 else M.length) (hm : Mod (fun k => k = mb) w4 w5) : Runs w0 wb w5 b mb own C (asD M id) T := by
  refine ⟨hix.mod2 hm (fun k _ hk => ⟨fun ho => (h.o k ho).2 hk, fun hc => (h.c k hc).2 hk⟩), ⟨delF fm (.int .i64 id), ?_, fun x => ?_⟩, asD_nodup h.nd id, fun p hp => h.ok p (List.mem_filter.1 hp).1, h.o, h.c, h.m⟩
  · have e : (asD M id).length = n5 := by
      rw [hn]
      cases hf : asF M id with
      | none => rw [asD_none hf]; rfl
      | some f =>
        have := asD_len h.nd (id := id) (by rw [hf]; exact fun h => by cases h)
        simp only [Option.isSome_some, if_true]
        omega
    rw [e]
    exact h5
  · rw [asF_del]
    unfold delF
    by_cases e : x = id
    · rw [if_pos (by rw [e]), if_pos e]; rfl
    · rw [if_neg (fun h => e (by cases h; rfl)), if_neg e, h2]
/-- One entry more in the map, and in the index. -/
theorem Runs.put {w0 wb w w4 w5 : World} {b mb n5 : Nat} {own C own' C' : Nat → Prop} {M : List (Int × Fr)} {T : Nat} {id : Int} {f : Fr} {fm : Lit → Option Value} (h : Runs w0 wb w b mb own C M T) (hq : asF M id = none) (h2 : ∀ x : Int, fm (.int .i64 x) = (asF M x).map Fr.val)
    (hix : Idx w4 b own' C' (runI M ++ [(id, (f.sc, normC f.cs))]) (T + 20)) (ho : ∀ k, own' k → own k ∨ w.heap.size ≤ k) (hC : ∀ k, C' k → C k ∨ w.heap.size ≤ k) (hf : f.ok w0) (hr : filRight f.sc f.cs = true) (hid : -9223372036854775808 ≤ id ∧ id ≤ 9223372036854775807)
    (h5 : MapR w5 3 mb n5 (putF fm (.int .i64 id) f.val)) (hn : n5 = M.length + 1) (hm : Mod (fun k => k = mb) w4 w5) (hb : wb.heap.size ≤ w.heap.size) : Runs w0 wb w5 b mb own' C' (M ++ [(id, f)]) (T + 20) := by
  obtain ⟨fm0, h1, -⟩ := h.mp
  have hlt := h1.lt
  have ho' : ∀ k, own' k → wb.heap.size ≤ k ∧ k ≠ mb := fun k hk => (ho k hk).elim (h.o k) (fun h => ⟨by omega, by omega⟩)
  have hC' : ∀ k, C' k → wb.heap.size ≤ k ∧ k ≠ mb := fun k hk => (hC k hk).elim (h.c k) (fun h => ⟨by omega, by omega⟩)
  rw [← runI_put] at hix
  refine ⟨hix.mod2 hm (fun k _ hk => ⟨fun h => (ho' k h).2 hk, fun h => (hC' k h).2 hk⟩), ⟨putF fm (.int .i64 id) f.val, ?_, fun x => ?_⟩, as_nodup h.nd hq, fun p hp => ?_, ho', hC', h.m⟩
  · rw [List.length_append, List.length_singleton, ← hn]
    exact h5
  · rw [asF_new hq]
    unfold putF
    by_cases e : x = id
    · rw [if_pos (by rw [e]), if_pos e]; rfl
    · rw [if_neg (fun h => e (by cases h; rfl)), if_neg e, h2]
  · rcases List.mem_append.1 hp with hp | hp
    · exact h.ok p hp
    · obtain rfl : p = (id, f) := by simpa using hp
      exact ⟨hf, hr, hid⟩
theorem Runs.none {w0 wb w : World} {b mb : Nat} {own C : Nat → Prop} {M : List (Int × Fr)} {T : Nat} (_ : Runs w0 wb w b mb own C M T) {id : Int} : idxF (runI M) id = none ↔ asF M id = none := by
  rw [runI_F]
  cases asF M id <;> simp

end Go.Proofs.YtloplmaekonenaaGreatDoor

namespace Go.Proofs.YtloplmaekonenaaGreatDoor
set_option maxRecDepth 20000
open Go.RowKit

theorem canonB_idem (x : Nat) : canonB (canonB x) = canonB x := by
  by_cases h1 : fEq x x = true
  · by_cases h2 : fEq x 0 = true
    · have e : canonB x = 0 := by unfold canonB; rw [if_pos h1, if_pos h2]
      rw [e]; decide +kernel
    · have e : canonB x = x := by unfold canonB; rw [if_pos h1, if_neg h2]
      rw [e, e]
  · have e : canonB x = nanB := by unfold canonB; rw [if_neg h1]
    rw [e]; decide +kernel
theorem vcanon_idem (v : V) : v.canon.canon = v.canon := by
  by_cases h0 : v.kind = 0
  · have e : v.canon = { V.zero with kind := 0, int := v.int } := by unfold V.canon; rw [if_pos h0]
    rw [e]; rfl
  · by_cases h1 : v.kind = 1
    · have e : v.canon = { V.zero with kind := 1, num := canonB v.num } := by unfold V.canon; rw [if_neg h0, if_pos h1]
      have e2 : ∀ n : Nat, ({ V.zero with kind := 1, num := n } : V).canon = { V.zero with kind := 1, num := canonB n } := fun n => rfl
      rw [e, e2, canonB_idem]
    · by_cases h2 : v.kind = 2
      · have e : v.canon = { V.zero with kind := 2, text := v.text } := by unfold V.canon; rw [if_neg h0, if_neg h1, if_pos h2]
        rw [e]; rfl
      · by_cases h3 : v.kind = 3
        · have e : v.canon = { V.zero with kind := 3, yes := v.yes } := by unfold V.canon; rw [if_neg h0, if_neg h1, if_neg h2, if_pos h3]
          rw [e]; rfl
        · have e : v.canon = V.zero := by unfold V.canon; rw [if_neg h0, if_neg h1, if_neg h2, if_neg h3]
          rw [e]; rfl
theorem norm_idem (c : Cnd) : c.norm.norm = c.norm := by
  by_cases h : c.op = 7
  · have e : c.norm = ⟨c.name, 7, V.zero⟩ := by unfold Cnd.norm; rw [if_pos h]
    rw [e]; rfl
  · have e : c.norm = ⟨c.name, c.op, c.v.canon⟩ := by unfold Cnd.norm; rw [if_neg h]
    have e2 : (⟨c.name, c.op, c.v.canon⟩ : Cnd).norm = ⟨c.name, c.op, c.v.canon.canon⟩ := by unfold Cnd.norm; rw [if_neg h]
    rw [e, e2, vcanon_idem]
theorem vcanon_right {v : V} (h : v.right = true) : v.canon.right = true := by
  unfold V.right at h
  simp only [Bool.and_eq_true, decide_eq_true_eq] at h
  unfold V.canon
  split
  · rfl
  · split
    · rfl
    · split
      · unfold V.right
        simp only [Bool.and_eq_true, decide_eq_true_eq]
        exact ⟨by decide, by decide, h.2.2⟩
      · split <;> rfl
theorem vcanon_num {v : V} (h : v.num < 2 ^ 64) : v.canon.num < 2 ^ 64 := by
  unfold V.canon
  split
  · exact (by decide : (0 : Nat) < 2 ^ 64)
  · split
    · exact canonB_lt h
    · split
      · exact (by decide : (0 : Nat) < 2 ^ 64)
      · split <;> exact (by decide : (0 : Nat) < 2 ^ 64)
theorem norm_fine {c : Cnd} (hr : c.rightB = true) (hn : c.v.num < 2 ^ 64) : c.norm.fine := by
  unfold Cnd.rightB at hr
  simp only [Bool.and_eq_true, decide_eq_true_eq] at hr
  obtain ⟨h1, h2, h3, h4⟩ := hr
  refine ⟨by rw [norm_name]; exact h1, by rw [norm_op]; exact ⟨h2, h3⟩, ?_, ?_, norm_idem c⟩
  · unfold Cnd.norm
    split
    · rfl
    · exact vcanon_right h4
  · unfold Cnd.norm
    split
    · exact (by decide : (0 : Nat) < 2 ^ 64)
    · exact vcanon_num hn
theorem normC_fine {l : List Cnd} {sc : ByteArray} (hr : filRight sc l = true) (hn : ∀ c ∈ l, c.v.num < 2 ^ 64) : ∀ c ∈ normC l, c.fine := fun c hc => by
  obtain ⟨d, hd, rfl⟩ := sortC_mem (normC_mem hc)
  unfold filRight at hr
  rw [Bool.and_eq_true, List.all_eq_true] at hr
  exact norm_fine (hr.1 d hd) (hn d hd)
theorem name_no58 {s : ByteArray} (h : isName s = true) : ∀ c ∈ s.data.toList, c ≠ 58 := fun c hc e => by
  subst e
  obtain ⟨k, hk⟩ := List.mem_iff_getElem?.1 hc
  rw [isName_no hk (by unfold nameAt; simp)] at h
  cases h
theorem ext_mem {s : ByteArray} {a b k : Nat} {c : UInt8} (hk : s.data.toList[k]? = some c) (h1 : a ≤ k) (h2 : k < b) : c ∈ (s.extract a b).data.toList := by
  rw [ByteArray.data_extract, Array.toList_extract]
  refine List.mem_iff_getElem?.2 ⟨k - a, ?_⟩
  rw [List.extract_eq_take_drop, List.getElem?_take, if_pos (by omega), List.getElem?_drop, show a + (k - a) = k by omega]
  exact hk
theorem cut_mem {s : ByteArray} {c : UInt8} (hc : c ∈ s.data.toList) (h47 : c ≠ 47) : c ∈ (cutS s).1.data.toList ∨ c ∈ (cutS s).2.1.data.toList := by
  unfold cutS
  split
  · rename_i h0
    obtain ⟨n, hn⟩ : ∃ n, (Lib.indexByte s.data.toList 47).toNat = n := ⟨_, rfl⟩
    have h1 := (Lib.indexByte_some (l := s.data.toList) (c := 47) (o := n) (by omega)).1
    obtain ⟨k, hk⟩ := List.mem_iff_getElem?.1 hc
    rw [hn]
    rcases Nat.lt_trichotomy k n with h | h | h
    · exact .inl (ext_mem hk (Nat.zero_le _) h)
    · subst h
      rw [h1] at hk
      exact absurd (Option.some.inj hk).symm h47
    · have h2 : k < s.size := by
        have := (List.getElem?_eq_some_iff.1 hk).1
        rwa [Array.length_toList] at this
      exact .inr (ext_mem hk h h2)
  · exact .inl hc
theorem scN_no58 : ∀ (f : Nat) (s : ByteArray) (k : Nat), scN f s = some k → ∀ c ∈ s.data.toList, c ≠ 58
  | 0, s, k, h => by cases h
  | f + 1, s, k, h => fun c hc e => by
    rw [scN_succ] at h
    by_cases h1 : isName (cutS s).1 = true
    · rw [if_pos h1] at h
      rcases cut_mem hc (by rw [e]; decide) with h2 | h2
      · exact name_no58 h1 c h2 e
      · by_cases h3 : (cutS s).2.2 = true
        · rw [if_pos h3] at h
          cases h4 : scN f (cutS s).2.1 with
          | none => rw [h4] at h; cases h
          | some k' => exact scN_no58 f _ k' h4 c h2 e
        · have h4 : (cutS s).2.1 = ⟨#[]⟩ := by
            unfold cutS at h3 ⊢
            split
            · rename_i h5; rw [if_pos h5] at h3; exact absurd rfl h3
            · rfl
          rw [h4] at h2
          cases h2
    · rw [if_neg h1] at h; cases h
theorem scRight_no58 {s : ByteArray} (h : scRight s = true) : ∀ c ∈ s.data.toList, c ≠ 58 := by
  unfold scRight at h
  rw [Bool.or_eq_true] at h
  rcases h with h | h
  · rw [List.isEmpty_iff, ByteArray.toList_eq] at h
    rw [h]
    intro c hc
    cases hc
  · unfold scM at h
    cases h1 : scN (s.size + 1) s with
    | none => rw [h1] at h; cases h
    | some k => exact scN_no58 _ _ _ h1
theorem keyF_inj {s t : ByteArray} {l m : List Cnd} (hs : filRight s l = true) (ht : filRight t m = true) (hl : ∀ c ∈ l, c.v.num < 2 ^ 64) (hm : ∀ c ∈ m, c.v.num < 2 ^ 64) (h : keyF (s, normC l) = keyF (t, normC m)) : ((s, normC l) : Fil) = (t, normC m) := by
  have sc : ∀ {s : ByteArray} {l : List Cnd}, filRight s l = true → scRight s = true := fun h => by
    unfold filRight at h
    rw [Bool.and_eq_true, Bool.and_eq_true] at h
    exact h.2.1
  obtain ⟨h1, h2⟩ := fil_inj (scRight_no58 (sc hs)) (scRight_no58 (sc ht)) (normC_fine hs hl) (normC_fine ht hm) h
  rw [h1, h2]
end Go.Proofs.YtloplmaekonenaaGreatDoor

namespace Go.Proofs.YtloplmaekonenaaGreatDoor
set_option maxRecDepth 20000
open Go.RowKit Go.Sort

/-- A call in memory. -/
structure Tc where
  kind : Int
  id : Int
  f : Fr
def Tc.cells (c : Tc) : List Value := [.int .i64 c.kind, .int .i64 c.id, .string c.f.sc, .slice c.f.a c.f.cs.length c.f.c]
structure TcsAt (w : World) (v : Value) (l : List Tc) : Prop where
  rd : RdSl w 4 v l.length (l.flatMap Tc.cells)
  ok : ∀ c ∈ l, c.f.ok w ∧ (-9223372036854775808 ≤ c.id ∧ c.id ≤ 9223372036854775807)
theorem TcsAt.mod {w w' : World} {v : Value} {l : List Tc} (h : TcsAt w v l) (hm : Mod (fun _ => False) w w') : TcsAt w' v l := ⟨h.rd.mod hm (fun _ _ h => h), fun c hc => ⟨(h.ok c hc).1.mod hm, (h.ok c hc).2⟩⟩
def Tc.right (c : Tc) : Bool := filRight c.f.sc c.f.cs
theorem Tc.fits {w : World} {c : Tc} (h : c.f.ok w) (hr : c.right = true) : (c.f.cs.length < 20 ∧ c.f.sc.size ≤ 1000000) ∧ ∀ d ∈ c.f.cs, d.fits := by
  have hb := fil_bounds (show filRight c.f.sc c.f.cs = true from hr)
  exact ⟨⟨by omega, by omega⟩, fun d hd => ⟨⟨(h.nm d hd).2.1, (h.nm d hd).2.2, by have := (hb.2.2 d hd).2.2.2; omega⟩, by have := (hb.2.2 d hd).1; omega⟩⟩
/-- A round of light. -/
def Lt14 (w : World) (l : List Tc) (i : Value) (wr : World) : Prop := ∃ j : Nat, i = .int .i64 j ∧ j ≤ l.length ∧ Mod (fun _ => False) w wr
set_option maxHeartbeats 4000000 in
theorem light14_at (w : World) (v : Value) (l : List Tc) (hv : TcsAt w v l) (hll : l.length ≤ 9223372036854775807) :
    Calls Tryz.prog 24 #[v] w fun e w' => ∃ t, e = .returned (.bool t) ∧ (t = true → l.length ≤ 60) ∧ Mod (fun _ => False) w w' := by
  obtain ⟨va, vc, rfl, hvc⟩ : ∃ a c, v = .slice a l.length c ∧ l.length ≤ c := by obtain ⟨-, a, c, h, h2, -⟩ := hv.rd; exact ⟨a, c, h, h2⟩
  have Hv := Lib.hid hv
  clear hv
  go_enter Tryz.func24, Tryz.ntmps24
  go_wp2_with fail
  go_loopw [7] (fun i wr => Lt14 w l i wr) (fun i _ => l.length - (intOf i).toNat)
  case atStart => exact ⟨0, rfl, Nat.zero_le _, Mod.refl _ _⟩
  case round =>
    revert wr
    intro wq hrel
    obtain ⟨j, rfl, hj, hmr⟩ := hrel
    by_cases hlt : j < l.length
    · have hlt' : (j : Int) < l.length := by omega
      obtain ⟨x, hxj⟩ : ∃ x, l[j]? = some x := ⟨_, List.getElem?_eq_getElem hlt⟩
      have hxm := List.mem_of_getElem? hxj
      obtain ⟨g, off, rfl, hf0⟩ : ∃ g off, va = some ⟨g, off, none⟩ ∧ CellsAt w g (off + j * 4) x.cells := rd_el (f := Tc.cells) (fun _ => rfl) Hv.out.rd hxj
      have hf := hf0.mod hmr (fun h => h)
      obtain ⟨wz, hwz⟩ : ∃ wz : World, wq.alloc (.cells x.cells.toArray 52) = wz := ⟨_, rfl⟩
      have hmwz : Mod (fun _ => False) wq wz := hwz ▸ (Mod.refl (fun _ => False) wq).alloc _
      have hgwz := heap_alloc_new wq (.cells x.cells.toArray 52)
      rw [hwz] at hgwz
      have hzwz : wz.heap.size = wq.heap.size + 1 := by rw [← hwz]; simp
      have hmz := hmr.trans hmwz (fun _ _ h => h)
      have hok := (Hv.out.ok x hxm).1.mod hmz
      have hlt7 := light07_at wz x.f.sc (.slice x.f.a x.f.cs.length x.f.c) x.f.cs hok.cs hok.sc.2
      have k2 : wz.cell? ⟨wq.heap.size, 2, none⟩ = some (.string x.f.sc) := cell_of hgwz rfl
      have k3 : wz.cell? ⟨wq.heap.size, 3, none⟩ = some (.slice x.f.a x.f.cs.length x.f.c) := cell_of hgwz rfl
      have Hxj := Lib.hid hxj
      have Hxm := Lib.hid hxm
      have Hf0 := Lib.hid hf0
      have Hf := Lib.hid hf
      have Hwz := Lib.hid hwz
      have Hmwz := Lib.hid hmwz
      have Hgwz := Lib.hid hgwz
      have Hmz := Lib.hid hmz
      have Hok := Lib.hid hok
      have Hlt7 := Lib.hid hlt7
      have Hmr := Lib.hid hmr
      clear hxj hxm hf0 hf hwz hmwz hgwz hmz hok hlt7 hmr hzwz
      go_wp2_with (first | ((with_reducible refine wpList_load_lit 52 (.tmp 9) ?_); refine ⟨g, off + j * 4, rfl, x.cells, Hf.out, by kernel_rfl, by kernel_rfl, ?_⟩) | ((with_reducible refine wpList_store_lit 52 (.tmp 4) (.tmp 10) ?_); refine ⟨rfl, x.cells, rfl, rfl, by kernel_rfl, rfl, ?_⟩; rw [Hwz.out]) | fail)
      refine Hlt7.out.mono ?_
      rintro e wA ⟨t, rfl, hmA⟩
      have hm0A := Hmz.out.trans hmA (fun _ _ h => h)
      have HmA := Lib.hid hmA
      have Hm0A := Lib.hid hm0A
      clear hmA hm0A
      cases t with
      | false =>
        go_wp2_with fail
        go_ret
        exact ⟨_, rfl, fun h => (by cases h), Hm0A.out⟩
      | true =>
        go_wp2_with fail
        go_roundw
        case rel => exact ⟨j + 1, by go_num, hlt, Hm0A.out⟩
        case measure => simp [intOf]; omega
    · obtain rfl : j = l.length := by omega
      have Hmr := Lib.hid hmr
      clear hmr
      go_wp2_with fail
      go_ret
      exact ⟨_, rfl, fun h => by have := of_decide_eq_true h; omega, Hmr.out⟩

/-! ### What is told hangs on what there is alone -/
end Go.Proofs.YtloplmaekonenaaGreatDoor

namespace Go.Proofs.YtloplmaekonenaaGreatDoor
set_option maxRecDepth 20000
open Go.RowKit Go.Sort

/-- The key of a filter as it came. -/
def keyR (f : Fr) : List UInt8 := keyF (f.sc, normC f.cs)
/-- What a place has under a key. -/
def refF (R : List (Int × Fr)) (id : Int) (k : List UInt8) : Option Fr := (R.find? fun p => p.1 == id && keyR p.2 == k).map Prod.snd
/-- The table of it. -/
def refM (R : List (Int × Fr)) : List (Int × Fil) := R.map fun p => (p.1, (p.2.sc, normC p.2.cs))
theorem refM_F (R : List (Int × Fr)) (id : Int) (k : List UInt8) : tabF (refM R) id k = (refF R id k).map fun f => (f.sc, normC f.cs) := by
  unfold tabF refM refF
  rw [List.find?_map, Option.map_map, Option.map_map]
  rfl
theorem refM_snoc (R : List (Int × Fr)) (id : Int) (f : Fr) : refM (R ++ [(id, f)]) = refM R ++ [(id, (f.sc, normC f.cs))] := by
  unfold refM
  rw [List.map_append]
  rfl
/-- Without a key. -/
def refD (R : List (Int × Fr)) (id : Int) (k : List UInt8) : List (Int × Fr) := R.filter fun p => !(p.1 == id && keyR p.2 == k)
def refX (R : List (Int × Fr)) (id : Int) : List (Int × Fr) := R.filter fun p => !(p.1 == id)
theorem refM_D (R : List (Int × Fr)) (id : Int) (k : List UInt8) : refM (refD R id k) = tabD (refM R) id k := by
  unfold refM refD tabD
  rw [List.filter_map]
  rfl
theorem refM_X (R : List (Int × Fr)) (id : Int) : refM (refX R id) = tabX (refM R) id := by
  unfold refM refX tabX
  rw [List.filter_map]
  rfl
theorem refF_some {R : List (Int × Fr)} {id : Int} {k : List UInt8} {f : Fr} (h : refF R id k = some f) : (id, f) ∈ R ∧ keyR f = k := by
  unfold refF at h
  obtain ⟨p, h1, rfl⟩ := Option.map_eq_some_iff.1 h
  have h2 := List.find?_some h1
  simp only [Bool.and_eq_true, beq_iff_eq] at h2
  obtain ⟨x, q⟩ := p
  obtain ⟨rfl, h3⟩ := h2
  exact ⟨List.mem_of_find?_eq_some h1, h3⟩
theorem refF_none {R : List (Int × Fr)} {id : Int} {k : List UInt8} (h : refF R id k = none) : ∀ f, (id, f) ∈ R → keyR f ≠ k := fun q hq e => by
  unfold refF at h
  rw [Option.map_eq_none_iff, List.find?_eq_none] at h
  have := h _ hq
  simp [e] at this
theorem refF_new {R : List (Int × Fr)} {id : Int} {f : Fr} (h : refF R id (keyR f) = none) (x : Int) (k : List UInt8) : refF (R ++ [(id, f)]) x k = if x = id ∧ k = keyR f then some f else refF R x k := by
  have h1 : refF (R ++ [(id, f)]) x k = (refF R x k).or (if x = id ∧ k = keyR f then some f else none) := by
    unfold refF
    rw [List.find?_append]
    cases R.find? fun p => p.1 == x && keyR p.2 == k with
    | some p => rfl
    | none =>
      rw [Option.none_or, Option.map_none, Option.none_or, List.find?_cons]
      by_cases e : x = id ∧ k = keyR f
      · obtain ⟨rfl, rfl⟩ := e
        simp
      · rw [if_neg e]
        have : (id == x && keyR f == k) = false := by
          rw [Bool.eq_false_iff]
          intro h
          simp only [Bool.and_eq_true, beq_iff_eq] at h
          exact e ⟨h.1.symm, h.2.symm⟩
        simp [this]
  rw [h1]
  by_cases e : x = id ∧ k = keyR f
  · obtain ⟨rfl, rfl⟩ := e
    rw [h, if_pos ⟨rfl, rfl⟩]; rfl
  · rw [if_neg e, if_neg e, Option.or_none]
theorem refF_del (R : List (Int × Fr)) (id : Int) (k : List UInt8) (x : Int) (y : List UInt8) : refF (refD R id k) x y = if x = id ∧ y = k then none else refF R x y := by
  unfold refF refD
  rw [find_filter]
  by_cases e : x = id ∧ y = k
  · obtain ⟨rfl, rfl⟩ := e
    rw [if_pos ⟨rfl, rfl⟩, Option.map_eq_none_iff, List.find?_eq_none]
    intro p _
    cases (p.1 == x && keyR p.2 == y) <;> simp
  · rw [if_neg e]
    congr 1
    refine find_cong fun p _ => ?_
    cases h : (p.1 == x && keyR p.2 == y) with
    | false => simp
    | true =>
      simp only [Bool.and_eq_true, beq_iff_eq] at h
      have : (p.1 == id && keyR p.2 == k) = false := by
        rw [Bool.eq_false_iff]
        intro h2
        simp only [Bool.and_eq_true, beq_iff_eq] at h2
        exact e ⟨h.1.symm.trans h2.1, h.2.symm.trans h2.2⟩
      simp [this]
theorem refF_drop (R : List (Int × Fr)) (id x : Int) (y : List UInt8) : refF (refX R id) x y = if x = id then none else refF R x y := by
  unfold refF refX
  rw [find_filter]
  by_cases e : x = id
  · subst e
    rw [if_pos rfl, Option.map_eq_none_iff, List.find?_eq_none]
    intro p _
    cases (p.1 == x) <;> simp
  · rw [if_neg e]
    congr 1
    refine find_cong fun p _ => ?_
    by_cases h : p.1 = x
    · have : (p.1 == id) = false := by rw [beq_eq_false_iff_ne]; exact fun h2 => e (h.symm.trans h2)
      simp [this]
    · have : (p.1 == x) = false := by rw [beq_eq_false_iff_ne]; exact h
      simp [this]
/-- A filter is laid in the place of the one of that key. -/
def refP (R : List (Int × Fr)) (id : Int) (f : Fr) : List (Int × Fr) := R.map fun p => if p.1 = id ∧ keyR p.2 = keyR f then (id, f) else p
theorem refP_F {R : List (Int × Fr)} {id : Int} {f : Fr} (h : refF R id (keyR f) ≠ none) (x : Int) (k : List UInt8) : refF (refP R id f) x k = if x = id ∧ k = keyR f then some f else refF R x k := by
  unfold refF refP
  rw [List.find?_map]
  have hp : ∀ p : Int × Fr, ((fun p : Int × Fr => p.1 == x && keyR p.2 == k) ∘ fun p => if p.1 = id ∧ keyR p.2 = keyR f then (id, f) else p) p = (p.1 == x && keyR p.2 == k) := fun p => by
    simp only [Function.comp]
    split
    · rename_i h; rw [h.1, h.2]
    · rfl
  rw [show ((fun p : Int × Fr => p.1 == x && keyR p.2 == k) ∘ fun p => if p.1 = id ∧ keyR p.2 = keyR f then (id, f) else p) = (fun p => p.1 == x && keyR p.2 == k) from funext hp]
  by_cases e : x = id ∧ k = keyR f
  · obtain ⟨rfl, rfl⟩ := e
    rw [if_pos ⟨rfl, rfl⟩]
    unfold refF at h
    cases hq : R.find? fun p => p.1 == x && keyR p.2 == keyR f with
    | none => rw [hq] at h; exact absurd rfl h
    | some p =>
      have h2 := List.find?_some hq
      simp only [Bool.and_eq_true, beq_iff_eq] at h2
      simp [h2]
  · rw [if_neg e]
    cases hq : R.find? fun p => p.1 == x && keyR p.2 == k with
    | none => rfl
    | some p =>
      have h2 := List.find?_some hq
      simp only [Bool.and_eq_true, beq_iff_eq] at h2
      have : ¬ (p.1 = id ∧ keyR p.2 = keyR f) := fun h3 => e ⟨h2.1.symm.trans h3.1, h2.2.symm.trans h3.2⟩
      simp [this]
/-- All of it are filters that may be. -/
def RefOk (w0 : World) (R : List (Int × Fr)) : Prop := ∀ p ∈ R, p.2.ok w0 ∧ filRight p.2.sc p.2.cs = true ∧ (-9223372036854775808 ≤ p.1 ∧ p.1 ≤ 9223372036854775807)
theorem RefOk.inj {w0 : World} {R : List (Int × Fr)} (h : RefOk w0 R) : ∀ p ∈ refM R, ∀ q ∈ refM R, keyF p.2 = keyF q.2 → p.2 = q.2 := fun p hp q hq e => by
  obtain ⟨a, ha, rfl⟩ := List.mem_map.1 hp
  obtain ⟨b, hb, rfl⟩ := List.mem_map.1 hq
  exact keyF_inj (h a ha).2.1 (h b hb).2.1 (fun x hx => ((h a ha).1.nm x hx).2.2) (fun x hx => ((h b hb).1.nm x hx).2.2) e
/-- The table is not another one for that. -/
theorem refM_P {w0 : World} {R : List (Int × Fr)} {id : Int} {f : Fr} (h : RefOk w0 R) (hf : f.ok w0) (hr : filRight f.sc f.cs = true) : refM (refP R id f) = refM R := by
  unfold refM refP
  rw [List.map_map]
  refine List.map_congr_left fun p hp => ?_
  simp only [Function.comp]
  split
  · rename_i e
    have h1 := keyF_inj hr (h p hp).2.1 (fun x hx => (hf.nm x hx).2.2) (fun x hx => ((h p hp).1.nm x hx).2.2) e.2.symm
    rw [h1, e.1]
  · rfl
theorem refP_ok {w0 : World} {R : List (Int × Fr)} {id : Int} {f : Fr} (h : RefOk w0 R) (hf : f.ok w0) (hr : filRight f.sc f.cs = true) (hid : -9223372036854775808 ≤ id ∧ id ≤ 9223372036854775807) : RefOk w0 (refP R id f) := fun p hp => by
  obtain ⟨q, hq, rfl⟩ := List.mem_map.1 hp
  split
  · exact ⟨hf, hr, hid⟩
  · exact h q hq
end Go.Proofs.YtloplmaekonenaaGreatDoor

namespace Go.Proofs.YtloplmaekonenaaGreatDoor
set_option maxRecDepth 20000
open Go.RowKit Go.Sort

theorem MapR.count {w : World} {kt : TypeId} {b n : Nat} {f : Lit → Option Value} (h : MapR w kt b n f) (K : Maps.Keyed Tryz.prog kt) (hk : Tryz.prog.underlying kt = some .string) {L : List (List UInt8)} (hnd : L.Nodup) (hm : ∀ x, x ∈ L ↔ (f (.string x)).isSome = true) : n = L.length := by
  obtain ⟨D, h1, h2, h3⟩ := h.keysS K hk hnd hm
  obtain ⟨es, rfl, -⟩ := h1.entries K
  have h4 := h2.length_eq
  rw [show (strKeys (.map es : DataW Value)).length = es.length from List.length_map _] at h4
  rw [← h3, Maps.size_eq, h4]
/-- A place's map. -/
def RIn (w : World) (g : List UInt8 → Option Fr) (mi : Nat) : Prop := ∃ n f, MapR w 9 mi n f ∧ ∀ k, f (.string k) = (g k).map Fr.val
theorem RIn.mod {w w' : World} {g : List UInt8 → Option Fr} {mi : Nat} {F : Nat → Prop} (h : RIn w g mi) (hm : Mod F w w') (h1 : ¬ F mi) : RIn w' g mi := by
  obtain ⟨n, f, h2, h3⟩ := h
  exact ⟨n, f, h2.mod hm h1, h3⟩
theorem RIn.lt {w : World} {g : List UInt8 → Option Fr} {mi : Nat} (h : RIn w g mi) : mi < w.heap.size := by
  obtain ⟨n, f, h2, -⟩ := h
  exact h2.lt
def RInAt (w : World) (om : Nat → Prop) (mm : Nat) (g : List UInt8 → Option Fr) : Option Value → Prop
  | none => ∀ k, g k = none
  | some v => ∃ mi, v = .map (some mi) ∧ om mi ∧ mi ≠ mm ∧ RIn w g mi
theorem RInAt.mod {w w' : World} {F om : Nat → Prop} {mm : Nat} {g : List UInt8 → Option Fr} {v : Option Value} (h : RInAt w om mm g v) (hm : Mod F w w') (h1 : ∀ mi, v = some (.map (some mi)) → ¬ F mi) : RInAt w' om mm g v := by
  cases v with
  | none => exact h
  | some v =>
    obtain ⟨mi, rfl, h2, h3, h4⟩ := h
    exact ⟨mi, rfl, h2, h3, h4.mod hm (h1 mi rfl)⟩
theorem RInAt.cong {w : World} {om om' : Nat → Prop} {mm : Nat} {g g' : List UInt8 → Option Fr} {v : Option Value} (h : RInAt w om mm g v) (ho : ∀ k, om k → om' k) (hg : ∀ k, g' k = g k) : RInAt w om' mm g' v := by
  cases v with
  | none => exact fun k => (hg k).trans (h k)
  | some v =>
    obtain ⟨mi, rfl, h2, h3, n, f, h4, h5⟩ := h
    exact ⟨mi, rfl, ho _ h2, h3, n, f, h4, fun k => by rw [hg]; exact h5 k⟩
/-- The whole map: its blocks are those of om. -/
structure RefAt (w : World) (mm : Nat) (om : Nat → Prop) (R : List (Int × Fr)) (N : Nat) (n : Nat) (f : Lit → Option Value) : Prop where
  mp : MapR w 3 mm n f
  n : n ≤ N
  at_ : ∀ id : Int, RInAt w om mm (refF R id) (f (.int .i64 id))
  inj : ∀ (x y : Int) mi, f (.int .i64 x) = some (.map (some mi)) → f (.int .i64 y) = some (.map (some mi)) → x = y
  ob : om mm
  low : ∀ k, om k → k < w.heap.size
theorem RefAt.mod {w w' : World} {mm N n : Nat} {om F : Nat → Prop} {R : List (Int × Fr)} {f : Lit → Option Value} (h : RefAt w mm om R N n f) (hm : Mod F w w') (hF : ∀ k, F k → ¬ om k) : RefAt w' mm om R N n f := by
  refine ⟨h.mp.mod hm (fun hf => hF _ hf h.ob), h.n, fun id => (h.at_ id).mod hm (fun mi hmi hf => ?_), h.inj, h.ob, fun k hk => Nat.lt_of_lt_of_le (h.low k hk) hm.size⟩
  have h1 := h.at_ id
  rw [hmi] at h1
  obtain ⟨mi', e, h2, -⟩ := h1
  cases e
  exact hF _ hf h2
/-- Another map for one place: w8 is the world in which it stands there. -/
theorem RefAt.set {w w8 : World} {mm N n n8 mi : Nat} {om om' : Nat → Prop} {R R' : List (Int × Fr)} {f f8 : Lit → Option Value} {id : Int} (h : RefAt w mm om R N n f) (hm : Mod (fun k => k = mi ∨ k = mm) w w8) (hp : MapR w8 3 mm n8 f8) (hn : n8 ≤ N + 1)
    (hfid : f8 (.int .i64 id) = some (.map (some mi))) (hfx : ∀ x : Int, x ≠ id → f8 (.int .i64 x) = f (.int .i64 x)) (hmi : om' mi ∧ mi ≠ mm) (hmx : ∀ x : Int, x ≠ id → f (.int .i64 x) ≠ some (.map (some mi)))
    (ho : ∀ k, om k → om' k) (ho2 : ∀ k, om' k → om k ∨ k = mi) (hin : RIn w8 (refF R' id) mi) (hR : ∀ x, x ≠ id → ∀ k, refF R' x k = refF R x k) : RefAt w8 mm om' R' (N + 1) n8 f8 := by
  refine ⟨hp, hn, fun x => ?_, fun x y m hx hy => ?_, ho _ h.ob, fun k hk => ?_⟩
  · by_cases e : x = id
    · subst e
      rw [hfid]
      exact ⟨mi, rfl, hmi.1, hmi.2, hin⟩
    · rw [hfx x e]
      refine ((h.at_ x).mod hm (fun m hm' hf => ?_)).cong ho (hR x e)
      rcases hf with hf | hf
      · subst hf; exact hmx x e hm'
      · subst hf
        have h1 := h.at_ x
        rw [hm'] at h1
        obtain ⟨m', e', -, h3, -⟩ := h1
        cases e'
        exact h3 rfl
  · by_cases ex : x = id <;> by_cases ey : y = id
    · rw [ex, ey]
    · subst ex
      rw [hfid] at hx
      cases hx
      rw [hfx y ey] at hy
      exact absurd hy (hmx y ey)
    · subst ey
      rw [hfid] at hy
      cases hy
      rw [hfx x ex] at hx
      exact absurd hx (hmx x ex)
    · rw [hfx x ex] at hx
      rw [hfx y ey] at hy
      exact h.inj x y m hx hy
  · rcases ho2 k hk with h1 | rfl
    · exact Nat.lt_of_lt_of_le (h.low k h1) hm.size
    · exact hin.lt
/-- A map of one place written anew. -/
theorem RefAt.put {w w8 : World} {mm N n mi : Nat} {om : Nat → Prop} {R R' : List (Int × Fr)} {f : Lit → Option Value} {id : Int} (h : RefAt w mm om R N n f) (hm : Mod (fun k => k = mi) w w8) (hfid : f (.int .i64 id) = some (.map (some mi)))
    (hin : RIn w8 (refF R' id) mi) (hR : ∀ x, x ≠ id → ∀ k, refF R' x k = refF R x k) : RefAt w8 mm om R' N n f := by
  have hmi : om mi ∧ mi ≠ mm := by
    have h1 := h.at_ id
    rw [hfid] at h1
    obtain ⟨m', e, h2, h3, -⟩ := h1
    cases e
    exact ⟨h2, h3⟩
  refine ⟨h.mp.mod hm (fun e => hmi.2 e.symm), h.n, fun x => ?_, h.inj, h.ob, fun k hk => Nat.lt_of_lt_of_le (h.low k hk) hm.size⟩
  by_cases e : x = id
  · subst e
    rw [hfid]
    exact ⟨mi, rfl, hmi.1, hmi.2, hin⟩
  · exact ((h.at_ x).mod hm (fun m hm' hf => e (h.inj x id mi (by rw [hm', hf]) hfid))).cong (fun _ h => h) (hR x e)
/-- What a look into a place's map gives. -/
theorem RIn.look {w : World} {g : List UInt8 → Option Fr} {mi : Nat} (h : RIn w g mi) {k : List UInt8} (hk : k.length ≤ maxLen) :
    ∃ s a n c, (Instr.lookup 61 (.map (some mi)) (.string (str k)) true).run Tryz.prog w = .ok (.tuple #[.agg #[.string s, .slice a n c], .bool (g k).isSome]) w ∧ ∀ f, g k = some f → s = f.sc ∧ a = f.a ∧ n = f.cs.length ∧ c = f.c := by
  obtain ⟨n, f, h1, h2⟩ := h
  have h3 := h1.look_ok keyed_s Tryz.underlying61 (zero_fil w) (key_s k hk)
  rw [h2] at h3
  cases hf : g k with
  | none => rw [hf] at h3; exact ⟨_, _, _, _, h3, fun f h => by cases h⟩
  | some f => rw [hf] at h3; exact ⟨_, _, _, _, h3, fun f' h => by cases h; exact ⟨rfl, rfl, rfl, rfl⟩⟩
end Go.Proofs.YtloplmaekonenaaGreatDoor
