/-
  gazettelaw13.IndexRuns.
  Plain: right filters that are brought to their form have texts of their own.
-/
import Derived.Test.YtloplmaekonenaaGreatDoorZd39
import Derived.Test.YtloplmaekonenaaGreatDoorZd30
import Derived.Test.YtloplmaekonenaaGreatDoorZd34
import Derived.Test.YtloplmaekonenaaGreatDoorZd31
import Derived.Lib.IndexLaws
namespace Go.Proofs.YtloplmaekonenaaGreatDoor
set_option maxRecDepth 20000
open Go.RowKit

/-- A call in memory. -/
structure Cl where
  kind : Int
  id : Int
  f : Fr
  es : ByteArray
  ea : Option Addr
  ec : Nat
  L : List Att
def Cl.cells (c : Cl) : List Value := [.int .i64 c.kind, .int .i64 c.id, .string c.f.sc, .slice c.f.a c.f.cs.length c.f.c, .string c.es, .slice c.ea c.L.length c.ec]
structure Cl.ok (w : World) (c : Cl) : Prop where
  f : c.f.ok w
  rd : RdSl w 6 (.slice c.ea c.L.length c.ec) c.L.length (atts c.L)
  id : -9223372036854775808 ≤ c.id ∧ c.id ≤ 9223372036854775807
  es : c.es.size ≤ 9223372036854775807 ∧ c.L.length ≤ 9223372036854775807
  nm : ∀ a ∈ c.L, a.name.size ≤ 9223372036854775807
theorem Fr.ok.mod {w w' : World} {f : Fr} (h : f.ok w) (hm : Mod (fun _ => False) w w') : f.ok w' := ⟨h.cs.mod hm (fun _ _ h => h), h.sc, h.nm⟩
theorem Cl.ok.mod {w w' : World} {c : Cl} (h : c.ok w) (hm : Mod (fun _ => False) w w') : c.ok w' := ⟨h.f.mod hm, h.rd.mod hm (fun _ _ h => h), h.id, h.es, h.nm⟩
/-- What a filter is in the map. -/
def Fr.val (f : Fr) : Value := .agg #[.string f.sc, .slice f.a f.cs.length f.c]
/-- The index and the map, side by side. -/
structure Runs (w0 wb w : World) (b mb : Nat) (own C : Nat → Prop) (M : List (Int × Fr)) (T : Nat) : Prop where
  ix : Idx w b own C (runI M) T
  mp : ∃ fm, MapR w 3 mb M.length fm ∧ ∀ id : Int, fm (.int .i64 id) = (asF M id).map Fr.val
  nd : (M.map Prod.fst).Nodup
  ok : ∀ p ∈ M, p.2.ok w0 ∧ filRight p.2.sc p.2.cs = true ∧ (-9223372036854775808 ≤ p.1 ∧ p.1 ≤ 9223372036854775807)
  o : ∀ k, own k → wb.heap.size ≤ k ∧ k ≠ mb
  c : ∀ k, C k → wb.heap.size ≤ k ∧ k ≠ mb
  m : wb.heap.size ≤ mb
theorem Runs.mod {w0 wb w w' : World} {b mb : Nat} {own C : Nat → Prop} {M : List (Int × Fr)} {T : Nat} (h : Runs w0 wb w b mb own C M T) (hm : Mod (fun _ => False) w w') : Runs w0 wb w' b mb own C M T := by
  obtain ⟨fm, h1, h2⟩ := h.mp
  exact ⟨h.ix.mod hm (fun _ _ h => h), ⟨fm, h1.mod hm (fun h => h), h2⟩, h.nd, h.ok, h.o, h.c, h.m⟩
theorem Runs.new {w0 wb w : World} {b mb : Nat} {own : Nat → Prop} (h : Idx w b own (fun _ => False) [] 0) (hm : MapR w 3 mb 0 (fun _ => none)) (ho : ∀ k, own k → wb.heap.size ≤ k ∧ k ≠ mb) (h1 : wb.heap.size ≤ mb) : Runs w0 wb w b mb own (fun _ => False) [] 0 :=
  ⟨h, ⟨_, hm, fun _ => rfl⟩, List.nodup_nil, fun p hp => (by cases hp), ho, fun _ h => h.elim, h1⟩
theorem id_wf {n : Int} (h : -9223372036854775808 ≤ n ∧ n ≤ 9223372036854775807) : (Lit.int .i64 n).wf = true := by
  simp only [Lit.wf, Bool.and_eq_true, decide_eq_true_eq]
  exact ⟨show (-9223372036854775808 : Int) ≤ n from h.1, show n ≤ (9223372036854775807 : Int) from h.2⟩
theorem Runs.look {w0 wb w : World} {b mb : Nat} {own C : Nat → Prop} {M : List (Int × Fr)} {T : Nat} (h : Runs w0 wb w b mb own C M T) {id : Int} (hid : -9223372036854775808 ≤ id ∧ id ≤ 9223372036854775807) :
    ∃ s a n c, (Instr.lookup 26 (.map (some mb)) (.int .i64 id) true).run Tryz.prog w = .ok (.tuple #[.agg #[.string s, .slice a n c], .bool (asF M id).isSome]) w ∧ ∀ f, asF M id = some f → s = f.sc ∧ a = f.a ∧ n = f.cs.length ∧ c = f.c := by
  obtain ⟨fm, h1, h2⟩ := h.mp
  have h3 := h1.look_ok keyed_i Tryz.underlying26 (zero_fil w) (Maps.keyOf_int_mk Tryz.underlying3 (id_wf hid))
  rw [h2] at h3
  cases hf : asF M id with
  | none =>
    rw [hf] at h3
    exact ⟨_, _, _, _, h3, fun f h => by cases h⟩
  | some f =>
    rw [hf] at h3
    exact ⟨_, _, _, _, h3, fun f' h => by cases h; exact ⟨rfl, rfl, rfl, rfl⟩⟩
theorem asD_none {α : Type} {M : List (Int × α)} {id : Int} (h : asF M id = none) : asD M id = M := by
  unfold asD
  refine List.filter_eq_self.2 fun p hp => ?_
  have : p.1 ≠ id := fun e => asF_none h (e ▸ List.mem_map_of_mem (f := Prod.fst) hp)
  simp [this]
/-- One entry less in the map, and in the index. -/
theorem Runs.del {w0 wb w w4 w5 : World} {b mb n5 : Nat} {own C : Nat → Prop} {M : List (Int × Fr)} {T : Nat} {id : Int} {fm : Lit → Option Value} (h : Runs w0 wb w b mb own C M T) (h2 : ∀ x : Int, fm (.int .i64 x) = (asF M x).map Fr.val) (hix : Idx w4 b own C (runI (asD M id)) T)
    (h5 : MapR w5 3 mb n5 (delF fm (.int .i64 id))) (hn : n5 = if (asF M id).isSome then M.length - 1 else M.length) (hm : Mod (fun k => k = mb) w4 w5) : Runs w0 wb w5 b mb own C (asD M id) T := by
  refine ⟨hix.mod2 hm (fun k _ hk => ⟨fun ho => (h.o k ho).2 hk, fun hc => (h.c k hc).2 hk⟩), ⟨delF fm (.int .i64 id), ?_, fun x => ?_⟩, asD_nodup h.nd id, fun p hp => h.ok p (List.mem_filter.1 hp).1, h.o, h.c, h.m⟩
  · have e : (asD M id).length = n5 := by
      rw [hn]
      cases hf : asF M id with
      | none => rw [asD_none hf]; rfl
      | some f =>
        have := asD_len h.nd (id := id) (by rw [hf]; exact fun h => by cases h)
        simp only [Option.isSome_some, if_true]
        omega
    rw [e]
    exact h5
  · rw [asF_del]
    unfold delF
    by_cases e : x = id
    · rw [if_pos (by rw [e]), if_pos e]; rfl
    · rw [if_neg (fun h => e (by cases h; rfl)), if_neg e, h2]
/-- One entry more in the map, and in the index. -/
theorem Runs.put {w0 wb w w4 w5 : World} {b mb n5 : Nat} {own C own' C' : Nat → Prop} {M : List (Int × Fr)} {T : Nat} {id : Int} {f : Fr} {fm : Lit → Option Value} (h : Runs w0 wb w b mb own C M T) (hq : asF M id = none) (h2 : ∀ x : Int, fm (.int .i64 x) = (asF M x).map Fr.val)
    (hix : Idx w4 b own' C' (runI M ++ [(id, (f.sc, normC f.cs))]) (T + 20)) (ho : ∀ k, own' k → own k ∨ w.heap.size ≤ k) (hC : ∀ k, C' k → C k ∨ w.heap.size ≤ k) (hf : f.ok w0) (hr : filRight f.sc f.cs = true) (hid : -9223372036854775808 ≤ id ∧ id ≤ 9223372036854775807)
    (h5 : MapR w5 3 mb n5 (putF fm (.int .i64 id) f.val)) (hn : n5 = M.length + 1) (hm : Mod (fun k => k = mb) w4 w5) (hb : wb.heap.size ≤ w.heap.size) : Runs w0 wb w5 b mb own' C' (M ++ [(id, f)]) (T + 20) := by
  obtain ⟨fm0, h1, -⟩ := h.mp
  have hlt := h1.lt
  have ho' : ∀ k, own' k → wb.heap.size ≤ k ∧ k ≠ mb := fun k hk => (ho k hk).elim (h.o k) (fun h => ⟨by omega, by omega⟩)
  have hC' : ∀ k, C' k → wb.heap.size ≤ k ∧ k ≠ mb := fun k hk => (hC k hk).elim (h.c k) (fun h => ⟨by omega, by omega⟩)
  rw [← runI_put] at hix
  refine ⟨hix.mod2 hm (fun k _ hk => ⟨fun h => (ho' k h).2 hk, fun h => (hC' k h).2 hk⟩), ⟨putF fm (.int .i64 id) f.val, ?_, fun x => ?_⟩, as_nodup h.nd hq, fun p hp => ?_, ho', hC', h.m⟩
  · rw [List.length_append, List.length_singleton, ← hn]
    exact h5
  · rw [asF_new hq]
    unfold putF
    by_cases e : x = id
    · rw [if_pos (by rw [e]), if_pos e]; rfl
    · rw [if_neg (fun h => e (by cases h; rfl)), if_neg e, h2]
  · rcases List.mem_append.1 hp with hp | hp
    · exact h.ok p hp
    · obtain rfl : p = (id, f) := by simpa using hp
      exact ⟨hf, hr, hid⟩
theorem Runs.none {w0 wb w : World} {b mb : Nat} {own C : Nat → Prop} {M : List (Int × Fr)} {T : Nat} (_ : Runs w0 wb w b mb own C M T) {id : Int} : idxF (runI M) id = none ↔ asF M id = none := by
  rw [runI_F]
  cases asF M id <;> simp

end Go.Proofs.YtloplmaekonenaaGreatDoor

namespace Go.Proofs.YtloplmaekonenaaGreatDoor
set_option maxRecDepth 20000
open Go.RowKit

theorem canonB_idem (x : Nat) : canonB (canonB x) = canonB x := by
  by_cases h1 : fEq x x = true
  · by_cases h2 : fEq x 0 = true
    · have e : canonB x = 0 := by unfold canonB; rw [if_pos h1, if_pos h2]
      rw [e]; decide +kernel
    · have e : canonB x = x := by unfold canonB; rw [if_pos h1, if_neg h2]
      rw [e, e]
  · have e : canonB x = nanB := by unfold canonB; rw [if_neg h1]
    rw [e]; decide +kernel
theorem vcanon_idem (v : V) : v.canon.canon = v.canon := by
  by_cases h0 : v.kind = 0
  · have e : v.canon = { V.zero with kind := 0, int := v.int } := by unfold V.canon; rw [if_pos h0]
    rw [e]; rfl
  · by_cases h1 : v.kind = 1
    · have e : v.canon = { V.zero with kind := 1, num := canonB v.num } := by unfold V.canon; rw [if_neg h0, if_pos h1]
      have e2 : ∀ n : Nat, ({ V.zero with kind := 1, num := n } : V).canon = { V.zero with kind := 1, num := canonB n } := fun n => rfl
      rw [e, e2, canonB_idem]
    · by_cases h2 : v.kind = 2
      · have e : v.canon = { V.zero with kind := 2, text := v.text } := by unfold V.canon; rw [if_neg h0, if_neg h1, if_pos h2]
        rw [e]; rfl
      · by_cases h3 : v.kind = 3
        · have e : v.canon = { V.zero with kind := 3, yes := v.yes } := by unfold V.canon; rw [if_neg h0, if_neg h1, if_neg h2, if_pos h3]
          rw [e]; rfl
        · have e : v.canon = V.zero := by unfold V.canon; rw [if_neg h0, if_neg h1, if_neg h2, if_neg h3]
          rw [e]; rfl
theorem norm_idem (c : Cnd) : c.norm.norm = c.norm := by
  by_cases h : c.op = 7
  · have e : c.norm = ⟨c.name, 7, V.zero⟩ := by unfold Cnd.norm; rw [if_pos h]
    rw [e]; rfl
  · have e : c.norm = ⟨c.name, c.op, c.v.canon⟩ := by unfold Cnd.norm; rw [if_neg h]
    have e2 : (⟨c.name, c.op, c.v.canon⟩ : Cnd).norm = ⟨c.name, c.op, c.v.canon.canon⟩ := by unfold Cnd.norm; rw [if_neg h]
    rw [e, e2, vcanon_idem]
theorem vcanon_right {v : V} (h : v.right = true) : v.canon.right = true := by
  unfold V.right at h
  simp only [Bool.and_eq_true, decide_eq_true_eq] at h
  unfold V.canon
  split
  · rfl
  · split
    · rfl
    · split
      · unfold V.right
        simp only [Bool.and_eq_true, decide_eq_true_eq]
        exact ⟨by decide, by decide, h.2.2⟩
      · split <;> rfl
theorem vcanon_num {v : V} (h : v.num < 2 ^ 64) : v.canon.num < 2 ^ 64 := by
  unfold V.canon
  split
  · exact (by decide : (0 : Nat) < 2 ^ 64)
  · split
    · exact canonB_lt h
    · split
      · exact (by decide : (0 : Nat) < 2 ^ 64)
      · split <;> exact (by decide : (0 : Nat) < 2 ^ 64)
theorem norm_fine {c : Cnd} (hr : c.rightB = true) (hn : c.v.num < 2 ^ 64) : c.norm.fine := by
  unfold Cnd.rightB at hr
  simp only [Bool.and_eq_true, decide_eq_true_eq] at hr
  obtain ⟨h1, h2, h3, h4⟩ := hr
  refine ⟨by rw [norm_name]; exact h1, by rw [norm_op]; exact ⟨h2, h3⟩, ?_, ?_, norm_idem c⟩
  · unfold Cnd.norm
    split
    · rfl
    · exact vcanon_right h4
  · unfold Cnd.norm
    split
    · exact (by decide : (0 : Nat) < 2 ^ 64)
    · exact vcanon_num hn
theorem normC_fine {l : List Cnd} {sc : ByteArray} (hr : filRight sc l = true) (hn : ∀ c ∈ l, c.v.num < 2 ^ 64) : ∀ c ∈ normC l, c.fine := fun c hc => by
  obtain ⟨d, hd, rfl⟩ := sortC_mem (normC_mem hc)
  unfold filRight at hr
  rw [Bool.and_eq_true, List.all_eq_true] at hr
  exact norm_fine (hr.1 d hd) (hn d hd)
theorem name_no58 {s : ByteArray} (h : isName s = true) : ∀ c ∈ s.data.toList, c ≠ 58 := fun c hc e => by
  subst e
  obtain ⟨k, hk⟩ := List.mem_iff_getElem?.1 hc
  rw [isName_no hk (by unfold nameAt; simp)] at h
  cases h
theorem ext_mem {s : ByteArray} {a b k : Nat} {c : UInt8} (hk : s.data.toList[k]? = some c) (h1 : a ≤ k) (h2 : k < b) : c ∈ (s.extract a b).data.toList := by
  rw [ByteArray.data_extract, Array.toList_extract]
  refine List.mem_iff_getElem?.2 ⟨k - a, ?_⟩
  rw [List.extract_eq_take_drop, List.getElem?_take, if_pos (by omega), List.getElem?_drop, show a + (k - a) = k by omega]
  exact hk
theorem cut_mem {s : ByteArray} {c : UInt8} (hc : c ∈ s.data.toList) (h47 : c ≠ 47) : c ∈ (cutS s).1.data.toList ∨ c ∈ (cutS s).2.1.data.toList := by
  unfold cutS
  split
  · rename_i h0
    obtain ⟨n, hn⟩ : ∃ n, (Lib.indexByte s.data.toList 47).toNat = n := ⟨_, rfl⟩
    have h1 := (Lib.indexByte_some (l := s.data.toList) (c := 47) (o := n) (by omega)).1
    obtain ⟨k, hk⟩ := List.mem_iff_getElem?.1 hc
    rw [hn]
    rcases Nat.lt_trichotomy k n with h | h | h
    · exact .inl (ext_mem hk (Nat.zero_le _) h)
    · subst h
      rw [h1] at hk
      exact absurd (Option.some.inj hk).symm h47
    · have h2 : k < s.size := by
        have := (List.getElem?_eq_some_iff.1 hk).1
        rwa [Array.length_toList] at this
      exact .inr (ext_mem hk h h2)
  · exact .inl hc
theorem scN_no58 : ∀ (f : Nat) (s : ByteArray) (k : Nat), scN f s = some k → ∀ c ∈ s.data.toList, c ≠ 58
  | 0, s, k, h => by cases h
  | f + 1, s, k, h => fun c hc e => by
    rw [scN_succ] at h
    by_cases h1 : isName (cutS s).1 = true
    · rw [if_pos h1] at h
      rcases cut_mem hc (by rw [e]; decide) with h2 | h2
      · exact name_no58 h1 c h2 e
      · by_cases h3 : (cutS s).2.2 = true
        · rw [if_pos h3] at h
          cases h4 : scN f (cutS s).2.1 with
          | none => rw [h4] at h; cases h
          | some k' => exact scN_no58 f _ k' h4 c h2 e
        · have h4 : (cutS s).2.1 = ⟨#[]⟩ := by
            unfold cutS at h3 ⊢
            split
            · rename_i h5; rw [if_pos h5] at h3; exact absurd rfl h3
            · rfl
          rw [h4] at h2
          cases h2
    · rw [if_neg h1] at h; cases h
theorem scRight_no58 {s : ByteArray} (h : scRight s = true) : ∀ c ∈ s.data.toList, c ≠ 58 := by
  unfold scRight at h
  rw [Bool.or_eq_true] at h
  rcases h with h | h
  · rw [List.isEmpty_iff, ByteArray.toList_eq] at h
    rw [h]
    intro c hc
    cases hc
  · unfold scM at h
    cases h1 : scN (s.size + 1) s with
    | none => rw [h1] at h; cases h
    | some k => exact scN_no58 _ _ _ h1
theorem keyF_inj {s t : ByteArray} {l m : List Cnd} (hs : filRight s l = true) (ht : filRight t m = true) (hl : ∀ c ∈ l, c.v.num < 2 ^ 64) (hm : ∀ c ∈ m, c.v.num < 2 ^ 64) (h : keyF (s, normC l) = keyF (t, normC m)) : ((s, normC l) : Fil) = (t, normC m) := by
  have sc : ∀ {s : ByteArray} {l : List Cnd}, filRight s l = true → scRight s = true := fun h => by
    unfold filRight at h
    rw [Bool.and_eq_true, Bool.and_eq_true] at h
    exact h.2.1
  obtain ⟨h1, h2⟩ := fil_inj (scRight_no58 (sc hs)) (scRight_no58 (sc ht)) (normC_fine hs hl) (normC_fine ht hm) h
  rw [h1, h2]
end Go.Proofs.YtloplmaekonenaaGreatDoor
