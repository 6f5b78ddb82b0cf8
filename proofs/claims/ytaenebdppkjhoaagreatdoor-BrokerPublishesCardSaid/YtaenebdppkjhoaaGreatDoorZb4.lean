/- Lemmas of this claim. -/
import Derived.Test.YtaenebdppkjhoaaGreatDoorZa1
import Derived.Test.YtaenebdppkjhoaaGreatDoorZa10
import Derived.Test.YtaenebdppkjhoaaGreatDoorZa11
import Derived.Test.YtaenebdppkjhoaaGreatDoorZa12
import Derived.Test.YtaenebdppkjhoaaGreatDoorZa13
import Derived.Test.YtaenebdppkjhoaaGreatDoorZa14
import Derived.Test.YtaenebdppkjhoaaGreatDoorZa15
import Derived.Test.YtaenebdppkjhoaaGreatDoorZa16
import Derived.Test.YtaenebdppkjhoaaGreatDoorZa17
import Derived.Test.YtaenebdppkjhoaaGreatDoorZa18
import Derived.Test.YtaenebdppkjhoaaGreatDoorZa19
import Derived.Test.YtaenebdppkjhoaaGreatDoorZa2
import Derived.Test.YtaenebdppkjhoaaGreatDoorZa20
import Derived.Test.YtaenebdppkjhoaaGreatDoorZa21
import Derived.Test.YtaenebdppkjhoaaGreatDoorZa22
import Derived.Test.YtaenebdppkjhoaaGreatDoorZa23
import Derived.Test.YtaenebdppkjhoaaGreatDoorZa24
import Derived.Test.YtaenebdppkjhoaaGreatDoorZa25
import Derived.Test.YtaenebdppkjhoaaGreatDoorZa26
import Derived.Test.YtaenebdppkjhoaaGreatDoorZa27
import Derived.Test.YtaenebdppkjhoaaGreatDoorZa28
import Derived.Test.YtaenebdppkjhoaaGreatDoorZa29
import Derived.Test.YtaenebdppkjhoaaGreatDoorZa3
import Derived.Test.YtaenebdppkjhoaaGreatDoorZa30
import Derived.Test.YtaenebdppkjhoaaGreatDoorZa31
import Derived.Test.YtaenebdppkjhoaaGreatDoorZa32
import Derived.Test.YtaenebdppkjhoaaGreatDoorZa33
import Derived.Test.YtaenebdppkjhoaaGreatDoorZa34
import Derived.Test.YtaenebdppkjhoaaGreatDoorZa35
import Derived.Test.YtaenebdppkjhoaaGreatDoorZa36
import Derived.Test.YtaenebdppkjhoaaGreatDoorZa37
import Derived.Test.YtaenebdppkjhoaaGreatDoorZa38
import Derived.Test.YtaenebdppkjhoaaGreatDoorZa39
import Derived.Test.YtaenebdppkjhoaaGreatDoorZa4
import Derived.Test.YtaenebdppkjhoaaGreatDoorZa40
import Derived.Test.YtaenebdppkjhoaaGreatDoorZa41
import Derived.Test.YtaenebdppkjhoaaGreatDoorZa42
import Derived.Test.YtaenebdppkjhoaaGreatDoorZa43
import Derived.Test.YtaenebdppkjhoaaGreatDoorZa44
import Derived.Test.YtaenebdppkjhoaaGreatDoorZa45
import Derived.Test.YtaenebdppkjhoaaGreatDoorZa46
import Derived.Test.YtaenebdppkjhoaaGreatDoorZa47
import Derived.Test.YtaenebdppkjhoaaGreatDoorZa5
import Derived.Test.YtaenebdppkjhoaaGreatDoorZa6
import Derived.Test.YtaenebdppkjhoaaGreatDoorZa7
import Derived.Test.YtaenebdppkjhoaaGreatDoorZa8
import Derived.Test.YtaenebdppkjhoaaGreatDoorZa9
import Derived.Test.YtaenebdppkjhoaaGreatDoorZb3
import Derived.Test.YtaenebdppkjhoaaGreatDoorZb1
import Derived.Test.YtaenebdppkjhoaaGreatDoorZb2
import Derived.Lib.IndexLaws
import Derived.Deep.DeepCutAuto
import Derived.Deep.CutBlock
import Derived.Test.YtaenebdppkjhoaaGreatDoorRows
import Derived.PinnedBridge
import Derived.Lib.LaidU8T
import Derived.Lib.LaidTab
import Derived.Lib.LaidPrint
namespace Go.Proofs.YtaenebdppkjhoaaGreatDoor
set_option maxRecDepth 20000
open Go.RowKit
theorem FilIs.some {w : World} {own C : Nat → Prop} {v : Option Value} {q : Option Fil} (h : FilIs w own C v q) : v.isSome = q.isSome := by
 cases v <;> cases q
 ·rfl
 ·exact h.elim
 ·exact h.elim
 ·rfl
end Go.Proofs.YtaenebdppkjhoaaGreatDoor
namespace Go.Proofs.YtaenebdppkjhoaaGreatDoor
set_option maxRecDepth 20000
open Go.RowKit
def okQ (q : Fil) : Prop := q.2.length ≤ 19 ∧ (∀ c ∈ q.2, c.fits) ∧ q.1.size ≤ 1000000
end Go.Proofs.YtaenebdppkjhoaaGreatDoor
namespace Go.Proofs.YtaenebdppkjhoaaGreatDoor
set_option maxRecDepth 20000
open Go.RowKit
instance decV : DecidableEq V := fun a b => decidable_of_iff (a.kind = b.kind ∧ a.int = b.int ∧ a.num = b.num ∧ a.text = b.text ∧ a.yes = b.yes) ⟨fun h => by cases a; cases b; simp_all, fun h => by cases h; simp⟩
instance decC : DecidableEq Cnd := fun a b => decidable_of_iff (a.name = b.name ∧ a.op = b.op ∧ a.v = b.v) ⟨fun h => by cases a; cases b; simp_all, fun h => by cases h; simp⟩
end Go.Proofs.YtaenebdppkjhoaaGreatDoor
namespace Go.Proofs.YtaenebdppkjhoaaGreatDoor
set_option maxRecDepth 20000
open Go.RowKit
def asF {α : Type} (M : List (Int × α)) (id : Int) : Option α := (M.find? fun p => p.1 == id).map Prod.snd
theorem asF_none {α : Type} {M : List (Int × α)} {id : Int} (h : asF M id = none) : id ∉ M.map Prod.fst := fun hm => by
 obtain ⟨p, hp, rfl⟩ := List.mem_map.1 hm
 unfold asF at h
 rw [Option.map_eq_none_iff, List.find?_eq_none] at h
 simpa using h p hp
theorem asF_new {α : Type} {M : List (Int × α)} {id : Int} {q : α} (h : asF M id = none) (x : Int) : asF (M ++ [(id, q)]) x = if x = id then some q else asF M x := by
 unfold asF at h ⊢
 rw [List.find?_append]
 by_cases e : x = id
 ·subst e
  rw [Option.map_eq_none_iff] at h
  rw [h, if_pos rfl]
  simp
 ·rw [if_neg e]
  have : (id == x) = false := by rw [beq_eq_false_iff_ne]; exact fun h => e h.symm
  cases M.find? fun p => p.1 == x <;> simp [this]
theorem as_nodup {α : Type} {M : List (Int × α)} (h : (M.map Prod.fst).Nodup) {id : Int} {q : α} (hq : asF M id = none) : ((M ++ [(id, q)]).map Prod.fst).Nodup := by
 rw [List.map_append, List.nodup_append]
 refine ⟨h, by simp, fun a ha b hb e => ?_⟩
 obtain rfl : b = id := by simpa using hb
 subst e
 exact asF_none hq ha
def runI (M : List (Int × Fr)) : List (Int × Fil) := M.map fun p => (p.1, (p.2.sc, normC p.2.cs))
theorem runI_F (M : List (Int × Fr)) (id : Int) : idxF (runI M) id = (asF M id).map fun x => (x.sc, normC x.cs) := by
 unfold idxF runI asF
 rw [List.find?_map, Option.map_map, Option.map_map]
 rfl
theorem runI_put (M : List (Int × Fr)) (id : Int) (x : Fr) : runI (M ++ [(id, x)]) = runI M ++ [(id, (x.sc, normC x.cs))] := by
 unfold runI
 rw [List.map_append]
 rfl
end Go.Proofs.YtaenebdppkjhoaaGreatDoor
namespace Go.Proofs.YtaenebdppkjhoaaGreatDoor
set_option maxRecDepth 20000
open Go.ChangeShapes Go.WideShapes Go.ChangeAt Go.RowKit
section
variable {H : Type} {enc : TypeId × Value → H} {W : World}
structure Fr.ok (W : World) (f : Fr) : Prop where
 cs : RdSl W 7 (.slice f.a f.cs.length f.c) f.cs.length (cnds f.cs)
 sc : f.sc.size ≤ 9223372036854775807 ∧ f.cs.length ≤ 9223372036854775807
 nm : ∀ c ∈ f.cs, c.name.size ≤ 9223372036854775807 ∧ (-9223372036854775808 ≤ c.v.int ∧ c.v.int ≤ 9223372036854775807) ∧ c.v.num < 2 ^ 64
end
end Go.Proofs.YtaenebdppkjhoaaGreatDoor
namespace Go.Proofs.YtaenebdppkjhoaaGreatDoor
set_option maxRecDepth 20000
open Go.RowKit
structure Cl where
 kind : Int
 id : Int
 f : Fr
 es : ByteArray
 ea : Option Addr
 ec : Nat
 L : List Att
def Cl.cells (c : Cl) : List Value := [.int .i64 c.kind, .int .i64 c.id, .string c.f.sc, .slice c.f.a c.f.cs.length c.f.c, .string c.es, .slice c.ea c.L.length c.ec]
structure Cl.ok (w : World) (c : Cl) : Prop where
 f : c.f.ok w
 rd : RdSl w 6 (.slice c.ea c.L.length c.ec) c.L.length (atts c.L)
 id : -9223372036854775808 ≤ c.id ∧ c.id ≤ 9223372036854775807
 es : c.es.size ≤ 9223372036854775807 ∧ c.L.length ≤ 9223372036854775807
 nm : ∀ a ∈ c.L, a.name.size ≤ 9223372036854775807
theorem Fr.ok.mod {w w' : World} {f : Fr} (h : f.ok w) (hm : Mod (fun _ => False) w w') : f.ok w' := ⟨h.cs.mod hm (fun _ _ h => h), h.sc, h.nm⟩
theorem Cl.ok.mod {w w' : World} {c : Cl} (h : c.ok w) (hm : Mod (fun _ => False) w w') : c.ok w' := ⟨h.f.mod hm, h.rd.mod hm (fun _ _ h => h), h.id, h.es, h.nm⟩
def Fr.val (f : Fr) : Value := .agg #[.string f.sc, .slice f.a f.cs.length f.c]
structure Runs (w0 wb w : World) (b mb : Nat) (own C : Nat → Prop) (M : List (Int × Fr)) (T : Nat) : Prop where
 ix : Idx w b own C (runI M) T
 mp : ∃ fm, MapR w 3 mb M.length fm ∧ ∀ id : Int, fm (.int .i64 id) = (asF M id).map Fr.val
 nd : (M.map Prod.fst).Nodup
 ok : ∀ p ∈ M, p.2.ok w0 ∧ filRight p.2.sc p.2.cs = true ∧ (-9223372036854775808 ≤ p.1 ∧ p.1 ≤ 9223372036854775807)
 o : ∀ k, own k → wb.heap.size ≤ k ∧ k ≠ mb
 c : ∀ k, C k → wb.heap.size ≤ k ∧ k ≠ mb
 m : wb.heap.size ≤ mb
theorem Runs.mod {w0 wb w w' : World} {b mb : Nat} {own C : Nat → Prop} {M : List (Int × Fr)} {T : Nat} (h : Runs w0 wb w b mb own C M T) (hm : Mod (fun _ => False) w w') : Runs w0 wb w' b mb own C M T := by
 obtain ⟨fm, h1, h2⟩ := h.mp
 exact ⟨h.ix.mod hm (fun _ _ h => h), ⟨fm, h1.mod hm (fun h => h), h2⟩, h.nd, h.ok, h.o, h.c, h.m⟩
theorem Runs.new {w0 wb w : World} {b mb : Nat} {own : Nat → Prop} (h : Idx w b own (fun _ => False) [] 0) (hm : MapR w 3 mb 0 (fun _ => none)) (ho : ∀ k, own k → wb.heap.size ≤ k ∧ k ≠ mb) (h1 : wb.heap.size ≤ mb) : Runs w0 wb w b mb own (fun _ => False) [] 0 :=
 ⟨h, ⟨_, hm, fun _ => rfl⟩, List.nodup_nil, fun p hp => (by cases hp), ho, fun _ h => h.elim, h1⟩
theorem id_wf {n : Int} (h : -9223372036854775808 ≤ n ∧ n ≤ 9223372036854775807) : (Lit.int .i64 n).wf = true := by
 simp only [Lit.wf, Bool.and_eq_true, decide_eq_true_eq]
 exact ⟨show (-9223372036854775808 : Int) ≤ n from h.1, show n ≤ (9223372036854775807 : Int) from h.2⟩
theorem Runs.look {w0 wb w : World} {b mb : Nat} {own C : Nat → Prop} {M : List (Int × Fr)} {T : Nat} (h : Runs w0 wb w b mb own C M T) {id : Int} (hid : -9223372036854775808 ≤ id ∧ id ≤ 9223372036854775807) :
 ∃ s a n c, (Instr.lookup 157 (.map (some mb)) (.int .i64 id) true).run Tryz.prog w = .ok (.tuple #[.agg #[.string s, .slice a n c], .bool (asF M id).isSome]) w ∧ ∀ f, asF M id = some f → s = f.sc ∧ a = f.a ∧ n = f.cs.length ∧ c = f.c := by
 obtain ⟨fm, h1, h2⟩ := h.mp
 have h3 := h1.look_ok keyed_i Tryz.underlying157 (zero_fil w) (Maps.keyOf_int_mk Tryz.underlying3 (id_wf hid))
 rw [h2] at h3
 cases hf : asF M id with
 | none =>
  rw [hf] at h3
  exact ⟨_, _, _, _, h3, fun f h => by cases h⟩
 | some f =>
  rw [hf] at h3
  exact ⟨_, _, _, _, h3, fun f' h => by cases h; exact ⟨rfl, rfl, rfl, rfl⟩⟩
theorem Runs.put {w0 wb w w4 w5 : World} {b mb n5 : Nat} {own C own' C' : Nat → Prop} {M : List (Int × Fr)} {T : Nat} {id : Int} {f : Fr} {fm : Lit → Option Value} (h : Runs w0 wb w b mb own C M T) (hq : asF M id = none) (h2 : ∀ x : Int, fm (.int .i64 x) = (asF M x).map Fr.val)
 (hix : Idx w4 b own' C' (runI M ++ [(id, (f.sc, normC f.cs))]) (T + 20)) (ho : ∀ k, own' k → own k ∨ w.heap.size ≤ k) (hC : ∀ k, C' k → C k ∨ w.heap.size ≤ k) (hf : f.ok w0) (hr : filRight f.sc f.cs = true) (hid : -9223372036854775808 ≤ id ∧ id ≤ 9223372036854775807)
 (h5 : MapR w5 3 mb n5 (putF fm (.int .i64 id) f.val)) (hn : n5 = M.length + 1) (hm : Mod (fun k => k = mb) w4 w5) (hb : wb.heap.size ≤ w.heap.size) : Runs w0 wb w5 b mb own' C' (M ++ [(id, f)]) (T + 20) := by
 obtain ⟨fm0, h1, -⟩ := h.mp
 have hlt := h1.lt
 have ho' : ∀ k, own' k → wb.heap.size ≤ k ∧ k ≠ mb := fun k hk => (ho k hk).elim (h.o k) (fun h => ⟨by omega, by omega⟩)
 have hC' : ∀ k, C' k → wb.heap.size ≤ k ∧ k ≠ mb := fun k hk => (hC k hk).elim (h.c k) (fun h => ⟨by omega, by omega⟩)
 rw [← runI_put] at hix
 refine ⟨hix.mod2 hm (fun k _ hk => ⟨fun h => (ho' k h).2 hk, fun h => (hC' k h).2 hk⟩), ⟨putF fm (.int .i64 id) f.val, ?_, fun x => ?_⟩, as_nodup h.nd hq, fun p hp => ?_, ho', hC', h.m⟩
 ·rw [List.length_append, List.length_singleton, ← hn]
  exact h5
 ·rw [asF_new hq]
  unfold putF
  by_cases e : x = id
  ·rw [if_pos (by rw [e]), if_pos e]; rfl
  ·rw [if_neg (fun h => e (by cases h; rfl)), if_neg e, h2]
 ·rcases List.mem_append.1 hp with hp | hp
  ·exact h.ok p hp
  ·obtain rfl : p = (id, f) := by simpa using hp
   exact ⟨hf, hr, hid⟩
theorem Runs.none {w0 wb w : World} {b mb : Nat} {own C : Nat → Prop} {M : List (Int × Fr)} {T : Nat} (_ : Runs w0 wb w b mb own C M T) {id : Int} : idxF (runI M) id = none ↔ asF M id = none := by
 rw [runI_F]
 cases asF M id <;> simp
end Go.Proofs.YtaenebdppkjhoaaGreatDoor
namespace Go.Proofs.YtaenebdppkjhoaaGreatDoor
set_option maxRecDepth 20000
open Go.RowKit
theorem canonB_idem (x : Nat) : canonB (canonB x) = canonB x := by
 by_cases h1 : fEq x x = true
 ·by_cases h2 : fEq x 0 = true
  ·have e : canonB x = 0 := by unfold canonB; rw [if_pos h1, if_pos h2]
   rw [e]; decide +kernel
  ·have e : canonB x = x := by unfold canonB; rw [if_pos h1, if_neg h2]
   rw [e, e]
 ·have e : canonB x = nanB := by unfold canonB; rw [if_neg h1]
  rw [e]; decide +kernel
theorem vcanon_idem (v : V) : v.canon.canon = v.canon := by
 by_cases h0 : v.kind = 0
 ·have e : v.canon = { V.zero with kind := 0, int := v.int } := by unfold V.canon; rw [if_pos h0]
  rw [e]; rfl
 ·by_cases h1 : v.kind = 1
  ·have e : v.canon = { V.zero with kind := 1, num := canonB v.num } := by unfold V.canon; rw [if_neg h0, if_pos h1]
   have e2 : ∀ n : Nat, ({ V.zero with kind := 1, num := n } : V).canon = { V.zero with kind := 1, num := canonB n } := fun n => rfl
   rw [e, e2, canonB_idem]
  ·by_cases h2 : v.kind = 2
   ·have e : v.canon = { V.zero with kind := 2, text := v.text } := by unfold V.canon; rw [if_neg h0, if_neg h1, if_pos h2]
    rw [e]; rfl
   ·by_cases h3 : v.kind = 3
    ·have e : v.canon = { V.zero with kind := 3, yes := v.yes } := by unfold V.canon; rw [if_neg h0, if_neg h1, if_neg h2, if_pos h3]
     rw [e]; rfl
    ·have e : v.canon = V.zero := by unfold V.canon; rw [if_neg h0, if_neg h1, if_neg h2, if_neg h3]
     rw [e]; rfl
theorem norm_idem (c : Cnd) : c.norm.norm = c.norm := by
 by_cases h : c.op = 7
 ·have e : c.norm = ⟨c.name, 7, V.zero⟩ := by unfold Cnd.norm; rw [if_pos h]
  rw [e]; rfl
 ·have e : c.norm = ⟨c.name, c.op, c.v.canon⟩ := by unfold Cnd.norm; rw [if_neg h]
  have e2 : (⟨c.name, c.op, c.v.canon⟩ : Cnd).norm = ⟨c.name, c.op, c.v.canon.canon⟩ := by unfold Cnd.norm; rw [if_neg h]
  rw [e, e2, vcanon_idem]
theorem vcanon_right {v : V} (h : v.right = true) : v.canon.right = true := by
 unfold V.right at h
 simp only [Bool.and_eq_true, decide_eq_true_eq] at h
 unfold V.canon
 split
 ·rfl
 ·split
  ·rfl
  ·split
   ·unfold V.right
    simp only [Bool.and_eq_true, decide_eq_true_eq]
    exact ⟨by decide, by decide, h.2.2⟩
   ·split <;> rfl
theorem vcanon_num {v : V} (h : v.num < 2 ^ 64) : v.canon.num < 2 ^ 64 := by
 unfold V.canon
 split
 ·exact (by decide : (0 : Nat) < 2 ^ 64)
 ·split
  ·exact canonB_lt h
  ·split
   ·exact (by decide : (0 : Nat) < 2 ^ 64)
   ·split <;> exact (by decide : (0 : Nat) < 2 ^ 64)
theorem norm_fine {c : Cnd} (hr : c.rightB = true) (hn : c.v.num < 2 ^ 64) : c.norm.fine := by
 unfold Cnd.rightB at hr
 simp only [Bool.and_eq_true, decide_eq_true_eq] at hr
 obtain ⟨h1, h2, h3, h4⟩ := hr
 refine ⟨by rw [norm_name]; exact h1, by rw [norm_op]; exact ⟨h2, h3⟩, ?_, ?_, norm_idem c⟩
 ·unfold Cnd.norm
  split
  ·rfl
  ·exact vcanon_right h4
 ·unfold Cnd.norm
  split
  ·exact (by decide : (0 : Nat) < 2 ^ 64)
  ·exact vcanon_num hn
theorem normC_fine {l : List Cnd} {sc : ByteArray} (hr : filRight sc l = true) (hn : ∀ c ∈ l, c.v.num < 2 ^ 64) : ∀ c ∈ normC l, c.fine := fun c hc => by
 obtain ⟨d, hd, rfl⟩ := sortC_mem (normC_mem hc)
 unfold filRight at hr
 rw [Bool.and_eq_true, List.all_eq_true] at hr
 exact norm_fine (hr.1 d hd) (hn d hd)
theorem name_no58 {s : ByteArray} (h : isName s = true) : ∀ c ∈ s.data.toList, c ≠ 58 := fun c hc e => by
 subst e
 obtain ⟨k, hk⟩ := List.mem_iff_getElem?.1 hc
 rw [isName_no hk (by unfold nameAt; simp)] at h
 cases h
theorem ext_mem {s : ByteArray} {a b k : Nat} {c : UInt8} (hk : s.data.toList[k]? = some c) (h1 : a ≤ k) (h2 : k < b) : c ∈ (s.extract a b).data.toList := by
 rw [ByteArray.data_extract, Array.toList_extract]
 refine List.mem_iff_getElem?.2 ⟨k - a, ?_⟩
 rw [List.extract_eq_take_drop, List.getElem?_take, if_pos (by omega), List.getElem?_drop, show a + (k - a) = k by omega]
 exact hk
theorem cut_mem {s : ByteArray} {c : UInt8} (hc : c ∈ s.data.toList) (h47 : c ≠ 47) : c ∈ (cutS s).1.data.toList ∨ c ∈ (cutS s).2.1.data.toList := by
 unfold cutS
 split
 ·rename_i h0
  obtain ⟨n, hn⟩ : ∃ n, (Lib.indexByte s.data.toList 47).toNat = n := ⟨_, rfl⟩
  have h1 := (Lib.indexByte_some (l := s.data.toList) (c := 47) (o := n) (by omega)).1
  obtain ⟨k, hk⟩ := List.mem_iff_getElem?.1 hc
  rw [hn]
  rcases Nat.lt_trichotomy k n with h | h | h
  ·exact .inl (ext_mem hk (Nat.zero_le _) h)
  ·subst h
   rw [h1] at hk
   exact absurd (Option.some.inj hk).symm h47
  ·have h2 : k < s.size := by
    have := (List.getElem?_eq_some_iff.1 hk).1
    rwa [Array.length_toList] at this
   exact .inr (ext_mem hk h h2)
 ·exact .inl hc
theorem scN_no58 : ∀ (f : Nat) (s : ByteArray) (k : Nat), scN f s = some k → ∀ c ∈ s.data.toList, c ≠ 58
 | 0, s, k, h => by cases h
 | f + 1, s, k, h => fun c hc e => by
  rw [scN_succ] at h
  by_cases h1 : isName (cutS s).1 = true
  ·rw [if_pos h1] at h
   rcases cut_mem hc (by rw [e]; decide) with h2 | h2
   ·exact name_no58 h1 c h2 e
   ·by_cases h3 : (cutS s).2.2 = true
    ·rw [if_pos h3] at h
     cases h4 : scN f (cutS s).2.1 with
     | none => rw [h4] at h; cases h
     | some k' => exact scN_no58 f _ k' h4 c h2 e
    ·have h4 : (cutS s).2.1 = ⟨#[]⟩ := by
      unfold cutS at h3 ⊢
      split
      ·rename_i h5; rw [if_pos h5] at h3; exact absurd rfl h3
      ·rfl
     rw [h4] at h2
     cases h2
  ·rw [if_neg h1] at h; cases h
theorem scRight_no58 {s : ByteArray} (h : scRight s = true) : ∀ c ∈ s.data.toList, c ≠ 58 := by
 unfold scRight at h
 rw [Bool.or_eq_true] at h
 rcases h with h | h
 ·rw [List.isEmpty_iff, ByteArray.toList_eq] at h
  rw [h]
  intro c hc
  cases hc
 ·unfold scM at h
  cases h1 : scN (s.size + 1) s with
  | none => rw [h1] at h; cases h
  | some k => exact scN_no58 _ _ _ h1
theorem keyF_inj {s t : ByteArray} {l m : List Cnd} (hs : filRight s l = true) (ht : filRight t m = true) (hl : ∀ c ∈ l, c.v.num < 2 ^ 64) (hm : ∀ c ∈ m, c.v.num < 2 ^ 64) (h : keyF (s, normC l) = keyF (t, normC m)) : ((s, normC l) : Fil) = (t, normC m) := by
 have sc : ∀ {s : ByteArray} {l : List Cnd}, filRight s l = true → scRight s = true := fun h => by
  unfold filRight at h
  rw [Bool.and_eq_true, Bool.and_eq_true] at h
  exact h.2.1
 obtain ⟨h1, h2⟩ := fil_inj (scRight_no58 (sc hs)) (scRight_no58 (sc ht)) (normC_fine hs hl) (normC_fine ht hm) h
 rw [h1, h2]
end Go.Proofs.YtaenebdppkjhoaaGreatDoor
namespace Go.Proofs.YtaenebdppkjhoaaGreatDoor
set_option maxRecDepth 20000
open Go.RowKit Go.Sort
structure Tc where
 kind : Int
 id : Int
 f : Fr
def Tc.cells (c : Tc) : List Value := [.int .i64 c.kind, .int .i64 c.id, .string c.f.sc, .slice c.f.a c.f.cs.length c.f.c]
structure TcsAt (w : World) (v : Value) (l : List Tc) : Prop where
 rd : RdSl w 4 v l.length (l.flatMap Tc.cells)
 ok : ∀ c ∈ l, c.f.ok w ∧ (-9223372036854775808 ≤ c.id ∧ c.id ≤ 9223372036854775807)
theorem TcsAt.mod {w w' : World} {v : Value} {l : List Tc} (h : TcsAt w v l) (hm : Mod (fun _ => False) w w') : TcsAt w' v l := ⟨h.rd.mod hm (fun _ _ h => h), fun c hc => ⟨(h.ok c hc).1.mod hm, (h.ok c hc).2⟩⟩
def Tc.right (c : Tc) : Bool := filRight c.f.sc c.f.cs
theorem Tc.fits {w : World} {c : Tc} (h : c.f.ok w) (hr : c.right = true) : (c.f.cs.length < 20 ∧ c.f.sc.size ≤ 1000000) ∧ ∀ d ∈ c.f.cs, d.fits := by
 have hb := fil_bounds (show filRight c.f.sc c.f.cs = true from hr)
 exact ⟨⟨by omega, by omega⟩, fun d hd => ⟨⟨(h.nm d hd).2.1, (h.nm d hd).2.2, by have := (hb.2.2 d hd).2.2.2; omega⟩, by have := (hb.2.2 d hd).1; omega⟩⟩
end Go.Proofs.YtaenebdppkjhoaaGreatDoor
namespace Go.Proofs.YtaenebdppkjhoaaGreatDoor
set_option maxRecDepth 20000
open Go.RowKit Go.Sort
def keyR (f : Fr) : List UInt8 := keyF (f.sc, normC f.cs)
def refF (R : List (Int × Fr)) (id : Int) (k : List UInt8) : Option Fr := (R.find? fun p => p.1 == id && keyR p.2 == k).map Prod.snd
def refM (R : List (Int × Fr)) : List (Int × Fil) := R.map fun p => (p.1, (p.2.sc, normC p.2.cs))
def RefOk (w0 : World) (R : List (Int × Fr)) : Prop := ∀ p ∈ R, p.2.ok w0 ∧ filRight p.2.sc p.2.cs = true ∧ (-9223372036854775808 ≤ p.1 ∧ p.1 ≤ 9223372036854775807)
theorem RefOk.inj {w0 : World} {R : List (Int × Fr)} (h : RefOk w0 R) : ∀ p ∈ refM R, ∀ q ∈ refM R, keyF p.2 = keyF q.2 → p.2 = q.2 := fun p hp q hq e => by
 obtain ⟨a, ha, rfl⟩ := List.mem_map.1 hp
 obtain ⟨b, hb, rfl⟩ := List.mem_map.1 hq
 exact keyF_inj (h a ha).2.1 (h b hb).2.1 (fun x hx => ((h a ha).1.nm x hx).2.2) (fun x hx => ((h b hb).1.nm x hx).2.2) e
end Go.Proofs.YtaenebdppkjhoaaGreatDoor
namespace Go.Proofs.YtaenebdppkjhoaaGreatDoor
set_option maxRecDepth 20000
open Go.RowKit Go.Sort
theorem MapR.count {w : World} {kt : TypeId} {b n : Nat} {f : Lit → Option Value} (h : MapR w kt b n f) (K : Maps.Keyed Tryz.prog kt) (hk : Tryz.prog.underlying kt = some .string) {L : List (List UInt8)} (hnd : L.Nodup) (hm : ∀ x, x ∈ L ↔ (f (.string x)).isSome = true) : n = L.length := by
 obtain ⟨D, h1, h2, h3⟩ := h.keysS K hk hnd hm
 obtain ⟨es, rfl, -⟩ := h1.entries K
 have h4 := h2.length_eq
 rw [show (strKeys (.map es : DataW Value)).length = es.length from List.length_map _] at h4
 rw [← h3, Maps.size_eq, h4]
def RIn (w : World) (g : List UInt8 → Option Fr) (mi : Nat) : Prop := ∃ n f, MapR w 9 mi n f ∧ ∀ k, f (.string k) = (g k).map Fr.val
theorem RIn.mod {w w' : World} {g : List UInt8 → Option Fr} {mi : Nat} {F : Nat → Prop} (h : RIn w g mi) (hm : Mod F w w') (h1 : ¬ F mi) : RIn w' g mi := by
 obtain ⟨n, f, h2, h3⟩ := h
 exact ⟨n, f, h2.mod hm h1, h3⟩
theorem RIn.lt {w : World} {g : List UInt8 → Option Fr} {mi : Nat} (h : RIn w g mi) : mi < w.heap.size := by
 obtain ⟨n, f, h2, -⟩ := h
 exact h2.lt
def RInAt (w : World) (om : Nat → Prop) (mm : Nat) (g : List UInt8 → Option Fr) : Option Value → Prop
 | none => ∀ k, g k = none
 | some v => ∃ mi, v = .map (some mi) ∧ om mi ∧ mi ≠ mm ∧ RIn w g mi
theorem RInAt.mod {w w' : World} {F om : Nat → Prop} {mm : Nat} {g : List UInt8 → Option Fr} {v : Option Value} (h : RInAt w om mm g v) (hm : Mod F w w') (h1 : ∀ mi, v = some (.map (some mi)) → ¬ F mi) : RInAt w' om mm g v := by
 cases v with
 | none => exact h
 | some v =>
  obtain ⟨mi, rfl, h2, h3, h4⟩ := h
  exact ⟨mi, rfl, h2, h3, h4.mod hm (h1 mi rfl)⟩
theorem RInAt.cong {w : World} {om om' : Nat → Prop} {mm : Nat} {g g' : List UInt8 → Option Fr} {v : Option Value} (h : RInAt w om mm g v) (ho : ∀ k, om k → om' k) (hg : ∀ k, g' k = g k) : RInAt w om' mm g' v := by
 cases v with
 | none => exact fun k => (hg k).trans (h k)
 | some v =>
  obtain ⟨mi, rfl, h2, h3, n, f, h4, h5⟩ := h
  exact ⟨mi, rfl, ho _ h2, h3, n, f, h4, fun k => by rw [hg]; exact h5 k⟩
structure RefAt (w : World) (mm : Nat) (om : Nat → Prop) (R : List (Int × Fr)) (N : Nat) (n : Nat) (f : Lit → Option Value) : Prop where
 mp : MapR w 3 mm n f
 n : n ≤ N
 at_ : ∀ id : Int, RInAt w om mm (refF R id) (f (.int .i64 id))
 inj : ∀ (x y : Int) mi, f (.int .i64 x) = some (.map (some mi)) → f (.int .i64 y) = some (.map (some mi)) → x = y
 ob : om mm
 low : ∀ k, om k → k < w.heap.size
theorem RefAt.mod {w w' : World} {mm N n : Nat} {om F : Nat → Prop} {R : List (Int × Fr)} {f : Lit → Option Value} (h : RefAt w mm om R N n f) (hm : Mod F w w') (hF : ∀ k, F k → ¬ om k) : RefAt w' mm om R N n f := by
 refine ⟨h.mp.mod hm (fun hf => hF _ hf h.ob), h.n, fun id => (h.at_ id).mod hm (fun mi hmi hf => ?_), h.inj, h.ob, fun k hk => Nat.lt_of_lt_of_le (h.low k hk) hm.size⟩
 have h1 := h.at_ id
 rw [hmi] at h1
 obtain ⟨mi', e, h2, -⟩ := h1
 cases e
 exact hF _ hf h2
theorem RefAt.set {w w8 : World} {mm N n n8 mi : Nat} {om om' : Nat → Prop} {R R' : List (Int × Fr)} {f f8 : Lit → Option Value} {id : Int} (h : RefAt w mm om R N n f) (hm : Mod (fun k => k = mi ∨ k = mm) w w8) (hp : MapR w8 3 mm n8 f8) (hn : n8 ≤ N + 1)
 (hfid : f8 (.int .i64 id) = some (.map (some mi))) (hfx : ∀ x : Int, x ≠ id → f8 (.int .i64 x) = f (.int .i64 x)) (hmi : om' mi ∧ mi ≠ mm) (hmx : ∀ x : Int, x ≠ id → f (.int .i64 x) ≠ some (.map (some mi)))
 (ho : ∀ k, om k → om' k) (ho2 : ∀ k, om' k → om k ∨ k = mi) (hin : RIn w8 (refF R' id) mi) (hR : ∀ x, x ≠ id → ∀ k, refF R' x k = refF R x k) : RefAt w8 mm om' R' (N + 1) n8 f8 := by
 refine ⟨hp, hn, fun x => ?_, fun x y m hx hy => ?_, ho _ h.ob, fun k hk => ?_⟩
 ·by_cases e : x = id
  ·subst e
   rw [hfid]
   exact ⟨mi, rfl, hmi.1, hmi.2, hin⟩
  ·rw [hfx x e]
   refine ((h.at_ x).mod hm (fun m hm' hf => ?_)).cong ho (hR x e)
   rcases hf with hf | hf
   ·subst hf; exact hmx x e hm'
   ·subst hf
    have h1 := h.at_ x
    rw [hm'] at h1
    obtain ⟨m', e', -, h3, -⟩ := h1
    cases e'
    exact h3 rfl
 ·by_cases ex : x = id <;> by_cases ey : y = id
  ·rw [ex, ey]
  ·subst ex
   rw [hfid] at hx
   cases hx
   rw [hfx y ey] at hy
   exact absurd hy (hmx y ey)
  ·subst ey
   rw [hfid] at hy
   cases hy
   rw [hfx x ex] at hx
   exact absurd hx (hmx x ex)
  ·rw [hfx x ex] at hx
   rw [hfx y ey] at hy
   exact h.inj x y m hx hy
 ·rcases ho2 k hk with h1 | rfl
  ·exact Nat.lt_of_lt_of_le (h.low k h1) hm.size
  ·exact hin.lt
theorem RefAt.put {w w8 : World} {mm N n mi : Nat} {om : Nat → Prop} {R R' : List (Int × Fr)} {f : Lit → Option Value} {id : Int} (h : RefAt w mm om R N n f) (hm : Mod (fun k => k = mi) w w8) (hfid : f (.int .i64 id) = some (.map (some mi)))
 (hin : RIn w8 (refF R' id) mi) (hR : ∀ x, x ≠ id → ∀ k, refF R' x k = refF R x k) : RefAt w8 mm om R' N n f := by
 have hmi : om mi ∧ mi ≠ mm := by
  have h1 := h.at_ id
  rw [hfid] at h1
  obtain ⟨m', e, h2, h3, -⟩ := h1
  cases e
  exact ⟨h2, h3⟩
 refine ⟨h.mp.mod hm (fun e => hmi.2 e.symm), h.n, fun x => ?_, h.inj, h.ob, fun k hk => Nat.lt_of_lt_of_le (h.low k hk) hm.size⟩
 by_cases e : x = id
 ·subst e
  rw [hfid]
  exact ⟨mi, rfl, hmi.1, hmi.2, hin⟩
 ·exact ((h.at_ x).mod hm (fun m hm' hf => e (h.inj x id mi (by rw [hm', hf]) hfid))).cong (fun _ h => h) (hR x e)
theorem RIn.look {w : World} {g : List UInt8 → Option Fr} {mi : Nat} (h : RIn w g mi) {k : List UInt8} (hk : k.length ≤ maxLen) :
 ∃ s a n c, (Instr.lookup 174 (.map (some mi)) (.string (str k)) true).run Tryz.prog w = .ok (.tuple #[.agg #[.string s, .slice a n c], .bool (g k).isSome]) w ∧ ∀ f, g k = some f → s = f.sc ∧ a = f.a ∧ n = f.cs.length ∧ c = f.c := by
 obtain ⟨n, f, h1, h2⟩ := h
 have h3 := h1.look_ok keyed_s Tryz.underlying174 (zero_fil w) (key_s k hk)
 rw [h2] at h3
 cases hf : g k with
 | none => rw [hf] at h3; exact ⟨_, _, _, _, h3, fun f h => by cases h⟩
 | some f => rw [hf] at h3; exact ⟨_, _, _, _, h3, fun f' h => by cases h; exact ⟨rfl, rfl, rfl, rfl⟩⟩
end Go.Proofs.YtaenebdppkjhoaaGreatDoor
namespace Go.Proofs.YtaenebdppkjhoaaGreatDoor
set_option maxRecDepth 20000
open Go.RowKit Go.Sort
structure FillAt (w0 w1 w : World) (b mm : Nat) (own C om : Nat → Prop) (R : List (Int × Fr)) (N N2 n : Nat) (f : Lit → Option Value) : Prop where
 t : Tab w b own C (refM R) N
 r : RefAt w mm om R N2 n f
 ok : RefOk w0 R
 o : ∀ k, own k → w1.heap.size ≤ k ∧ ¬ om k
 m : ∀ k, om k → w1.heap.size ≤ k ∧ ¬ C k
 c : ∀ k, C k → w1.heap.size ≤ k
theorem FillAt.mod {w0 w1 w w' : World} {b mm : Nat} {own C om : Nat → Prop} {R : List (Int × Fr)} {N N2 n : Nat} {f : Lit → Option Value} (h : FillAt w0 w1 w b mm own C om R N N2 n f) (hm : Mod (fun _ => False) w w') : FillAt w0 w1 w' b mm own C om R N N2 n f :=
 ⟨h.t.mod0 hm (fun _ _ h => h), h.r.mod hm (fun _ h => h.elim), h.ok, h.o, h.m, h.c⟩
theorem RefAt.more {w : World} {mm N n : Nat} {om : Nat → Prop} {R : List (Int × Fr)} {f : Lit → Option Value} (h : RefAt w mm om R N n f) : RefAt w mm om R (N + 1) n f := ⟨h.mp, Nat.le_succ_of_le h.n, h.at_, h.inj, h.ob, h.low⟩
theorem RefOk.sub {w0 : World} {R R' : List (Int × Fr)} (h : RefOk w0 R) (hs : ∀ p ∈ R', p ∈ R) : RefOk w0 R' := fun p hp => h p (hs p hp)
theorem fkm_some (bm : Nat) (w : World) : (binOp .eql 174 (.map (some bm)) (.map none)).run Tryz.prog w = .ok (.bool false) w := by kernel_rfl
theorem fkm_nil (w : World) : (binOp .eql 174 (.map none) (.map none)).run Tryz.prog w = .ok (.bool true) w := by kernel_rfl
attribute [local go_sem] fkm_some fkm_nil
end Go.Proofs.YtaenebdppkjhoaaGreatDoor
namespace Go.Proofs.YtaenebdppkjhoaaGreatDoor
set_option maxRecDepth 20000
open Go.RowKit
theorem there_is {l : List Att} {s : ByteArray} (h : there l s = true) : ∃ x, l[pos l s]? = some x ∧ (x.name.toList == s.toList) = true := by
 unfold there at h
 split at h
 ·rename_i a ha
  refine ⟨a, ha, ?_⟩
  rw [ByteArray.toList_eq, ByteArray.toList_eq]
  exact h
 ·cases h
theorem at_pos {l : List Att} (hr : rises l) {s : ByteArray} {k : Nat} {x : Att} (hx : l[k]? = some x) (hn : (x.name.toList == s.toList) = true) : pos l s = k := by
 rw [beq_iff_eq, ByteArray.toList_eq, ByteArray.toList_eq] at hn
 rcases Nat.lt_trichotomy k (pos l s) with h | h | h
 ·have := pos_less h hx
  rw [hn, less_irrefl] at this
  cases this
 ·exact h.symm
 ·obtain ⟨y, hy⟩ : ∃ y, l[pos l s]? = some y := ⟨_, List.getElem?_eq_getElem (by have := (List.getElem?_eq_some_iff.1 hx).1; omega)⟩
  have h1 := hr _ _ y x h hy hx
  rw [hn] at h1
  have h2 := pos_not hr (Nat.le_refl _) hy
  rw [h1] at h2
  cases h2
theorem rmatch_eq {l : List Att} (hr : rises l) (c : Cnd) : rMatchC c l = c.matchB l := by
 unfold rMatchC Cnd.matchB getV
 cases ht : there l c.name with
 | true =>
  obtain ⟨x, hx, hn⟩ := there_is ht
  rw [if_pos rfl, hx]
  show _ = (true && c.holds x.v)
  rw [Bool.true_and, Bool.eq_iff_iff, List.any_eq_true]
  constructor
  ·rintro ⟨y, hy, h⟩
   rw [Bool.and_eq_true] at h
   obtain ⟨k, hk⟩ := List.mem_iff_getElem?.1 hy
   have hp := at_pos hr hk h.1
   rw [hp, hk] at hx
   cases hx
   exact h.2
  ·intro h
   exact ⟨x, List.mem_of_getElem? hx, by rw [hn, h]; rfl⟩
 | false =>
  rw [if_neg (by decide)]
  show _ = (false && _)
  rw [Bool.false_and, List.any_eq_false]
  intro y hy h
  rw [Bool.and_eq_true] at h
  obtain ⟨k, hk⟩ := List.mem_iff_getElem?.1 hy
  have hp := at_pos hr hk h.1
  have : there l c.name = true := by
   unfold there
   rw [hp, hk]
   have := h.1
   rw [ByteArray.toList_eq, ByteArray.toList_eq] at this
   exact this
  rw [ht] at this
  cases this
end Go.Proofs.YtaenebdppkjhoaaGreatDoor
namespace Go.Proofs.YtaenebdppkjhoaaGreatDoor
set_option maxRecDepth 20000
open Go.RowKit Go.Sort
set_option maxHeartbeats 2000000 in
theorem indexr_at (F : FuncId) (cap : Array Value) (hF : ∀ args w, (callFunc F args).run Tryz.prog w = .ok (.enter F args) w) (p : Fr → Bool) (w : World) (v : Value) (l : List Fr) (hv : RdSl w 2 v l.length (l.flatMap Fr.cells)) (hll : l.length ≤ 9223372036854775807)
 (hp : ∀ c ∈ l, ∀ wx, Mod (fun _ => False) w wx → Calls Tryz.prog F (#[.agg c.cells.toArray] ++ cap) wx fun e w' => e = .returned (.bool (p c)) ∧ Mod (fun _ => False) wx w') :
 Calls Tryz.prog 174 #[v, .func (.func F) #[] cap] w fun e w' => ∃ n : Int, e = .returned (.int .i64 n) ∧ (decide (0 ≤ n) = l.any p) ∧ Mod (fun _ => False) w w' := by
 obtain ⟨a, ca, rfl, hcap⟩ : ∃ a c, v = .slice a l.length c ∧ l.length ≤ c := by obtain ⟨-, a, c, h, h2, -⟩ := hv; exact ⟨a, c, h, h2⟩
 have hll' : (l.length : Int) ≤ 9223372036854775807 := by omega
 have hcap' : (l.length : Int) ≤ ca := by omega
 obtain ⟨R, hR⟩ : ∃ R, l.any p = R := ⟨_, rfl⟩
 rw [hR]
 have Hv := Lib.hid hv
 have Hp := Lib.hid hp
 have HR := Lib.hid hR
 have HF := Lib.hid hF
 clear hv hp hR hF hll
 go_enter Tryz.func174, Tryz.ntmps174
 go_wp2_with fail
 go_loopw [8] (fun i wr => ∃ j : Nat, i = .int .i64 j ∧ j ≤ l.length ∧ Mod (fun _ => False) w wr ∧ (∀ (k : Nat) (x : Fr), k < j → l[k]? = some x → p x = false)) (fun i _ => l.length - (intOf i).toNat)
 case atStart => exact ⟨0, rfl, Nat.zero_le _, Mod.refl _ _, fun k x hk => by omega⟩
 case round =>
  obtain ⟨j, rfl, hj, hmr, hall⟩ := hrel
  by_cases hlt : j < l.length
  ·have hlt' : (j : Int) < l.length := by omega
   obtain ⟨x, hxj⟩ : ∃ x, l[j]? = some x := ⟨_, List.getElem?_eq_getElem hlt⟩
   have hxm := List.mem_of_getElem? hxj
   obtain ⟨g, off, rfl, hf⟩ : ∃ g off, a = some ⟨g, off, none⟩ ∧ CellsAt wr g (off + j * 2) x.cells := rd_el (f := Fr.cells) (sz := 2) (fun _ => rfl) (Hv.out.mod hmr (fun _ _ h => h)) hxj
   have hpx := Hp.out x hxm wr hmr
   have Hmr := Lib.hid hmr
   have Hall := Lib.hid hall
   have Hxj := Lib.hid hxj
   have Hxm := Lib.hid hxm
   have Hf := Lib.hid hf
   have Hpx := Lib.hid hpx
   clear hmr hall hxj hxm hf hpx
   have hF2 := HF.out
   go_wp2_with (first | ((with_reducible refine wpList_load_lit 33 (.tmp 14) ?_); refine ⟨g, off + j * 2, rfl, x.cells, Hf.out, by kernel_rfl, by kernel_rfl, ?_⟩) | fail)
   refine Hpx.out.mono ?_
   rintro e w3 ⟨rfl, hm3⟩
   have Hm3 := Lib.hid (Hmr.out.trans hm3 (fun _ _ h => h))
   clear hm3 hF2
   cases hs : p x with
   | false =>
    have Hs := Lib.hid hs
    clear hs
    go_wp2_with fail
    go_roundw
    case rel =>
     refine ⟨j + 1, by go_num, hlt, Hm3.out, fun k x' hk hx' => ?_⟩
     rcases Nat.lt_succ_iff_lt_or_eq.1 hk with hk | rfl
     ·exact Hall.out k x' hk hx'
     ·rw [Hxj.out] at hx'; cases hx'; exact Hs.out
    case measure => simp [intOf]; omega
   | true =>
    have Hs := Lib.hid hs
    clear hs
    go_wp2
    go_ret
    refine ⟨(j : Int), rfl, ?_, Hm3.out⟩
    rw [← HR.out, List.any_eq_true.2 ⟨x, Hxm.out, Hs.out⟩]
    exact decide_eq_true (by omega)
  ·obtain rfl : j = l.length := by omega
   have Hmr := Lib.hid hmr
   have Hall := Lib.hid hall
   clear hmr hall
   go_wp2
   go_ret
   refine ⟨-1, rfl, ?_, Hmr.out⟩
   rw [← HR.out, List.any_eq_false.2 fun x hx => by
    obtain ⟨k, hk⟩ := List.mem_iff_getElem?.1 hx
    rw [Hall.out k x (List.getElem?_eq_some_iff.1 hk).1 hk]
    decide]
   rfl
theorem containsr_at (F : FuncId) (cap : Array Value) (hF : ∀ args w, (callFunc F args).run Tryz.prog w = .ok (.enter F args) w) (p : Fr → Bool) (w : World) (v : Value) (l : List Fr) (hv : RdSl w 2 v l.length (l.flatMap Fr.cells)) (hll : l.length ≤ 9223372036854775807)
 (hp : ∀ c ∈ l, ∀ wx, Mod (fun _ => False) w wx → Calls Tryz.prog F (#[.agg c.cells.toArray] ++ cap) wx fun e w' => e = .returned (.bool (p c)) ∧ Mod (fun _ => False) wx w') :
 Calls Tryz.prog 125 #[v, .func (.func F) #[] cap] w fun e w' => e = .returned (.bool (l.any p)) ∧ Mod (fun _ => False) w w' := by
 have Hi := Lib.hid (indexr_at F cap hF p w v l hv hll hp)
 obtain ⟨R, hR⟩ : ∃ R, l.any p = R := ⟨_, rfl⟩
 rw [hR] at Hi ⊢
 clear hF hv hp hR
 go_enter Tryz.func125, Tryz.ntmps125
 go_wp2_with fail
 refine Hi.out.mono ?_
 rintro e w3 ⟨n, rfl, hn, hm3⟩
 have Hn := Lib.hid hn
 have Hm3 := Lib.hid hm3
 clear hn hm3
 go_wp2
 go_ret
 exact ⟨ret_bool Hn.out.symm, Hm3.out⟩
theorem fm_at (w : World) (f : Fr) (hc : RdSl w 7 (.slice f.a f.cs.length f.c) f.cs.length (cnds f.cs)) (ho : okQ f.fil) (S : ByteArray) (hS : S.size ≤ 52) (av : Value) (E : List Att) (hv : RdSl w 6 av E.length (atts E)) (hE : E.length ≤ 8) (hr : rises E) (hEs : ∀ a ∈ E, a.name.size ≤ 12 ∧ a.v.text.size ≤ 40) :
 Calls Tryz.prog 91 #[.agg #[.string f.sc, .slice f.a f.cs.length f.c], .agg #[.string S, av]] w fun e w' => e = .returned (.bool (rMatF f.fil S E)) ∧ Mod (fun _ => False) w w' := by
 have e : rMatF f.fil S E = filMatch f.sc f.cs S E := by
  unfold rMatF filMatch
  rw [Bool.and_comm]
  have : (fun c => rMatchC c E) = fun c : Cnd => c.matchB E := funext fun c => rmatch_eq hr c
  rw [this]
  rfl
 rw [e]
 have h1 : f.cs.length ≤ 19 := ho.1
 have h2 : f.sc.size ≤ 1000000 := ho.2.2
 exact filter_match w f.sc _ f.cs hc (by omega) (by omega) (fun c hc => by have := (ho.2.1 c hc).v.text; omega) S av E hv (by omega) hr (by omega) (fun a ha => by have := (hEs a ha).2; omega)
theorem want1_at (w : World) (b : Nat) (S : ByteArray) (na : Option Addr) (nc : Nat) (E : List Att) (hb : w.heap[b]? = some (.cells #[.string S, .slice na E.length nc] 46)) (f : Fr) (hc : RdSl w 7 (.slice f.a f.cs.length f.c) f.cs.length (cnds f.cs)) (ho : okQ f.fil) (hS : S.size ≤ 52) (hv : RdSl w 6 (.slice na E.length nc) E.length (atts E)) (hE : E.length ≤ 8) (hr : rises E) (hEs : ∀ a ∈ E, a.name.size ≤ 12 ∧ a.v.text.size ≤ 40) :
 Calls Tryz.prog 126 (#[.agg f.cells.toArray] ++ #[.pointer (some ⟨b, 0, none⟩)]) w fun e w' => e = .returned (.bool (rMatF f.fil S E)) ∧ Mod (fun _ => False) w w' := by
 show Calls Tryz.prog _ #[.agg #[.string f.sc, .slice f.a f.cs.length f.c], .pointer (some ⟨b, 0, none⟩)] w _
 obtain ⟨wa, hwa⟩ : ∃ wa : World, w.alloc (.cells #[.string f.sc, .slice f.a f.cs.length f.c] 33) = wa := ⟨_, rfl⟩
 have hmwa : Mod (fun _ => False) w wa := hwa ▸ (Mod.refl (fun _ => False) w).alloc _
 have hgwa := heap_alloc_new w (.cells #[.string f.sc, .slice f.a f.cs.length f.c] 33)
 rw [hwa] at hgwa
 have hzwa : wa.heap.size = w.heap.size + 1 := by rw [← hwa]; simp
 have hba := hmwa.heap hb (fun h => h)
 have c0 : wa.cell? ⟨w.heap.size, 0, none⟩ = some (.string f.sc) := cell_of hgwa rfl
 have c1 : wa.cell? ⟨w.heap.size, 1, none⟩ = some (.slice f.a f.cs.length f.c) := cell_of hgwa rfl
 have d0 : wa.cell? ⟨b, 0, none⟩ = some (.string S) := cell_of hba rfl
 have d1 : wa.cell? ⟨b, 1, none⟩ = some (.slice na E.length nc) := cell_of hba rfl
 have hfm := fm_at wa f (hc.mod hmwa (fun _ _ h => h)) ho S hS _ E (hv.mod hmwa (fun _ _ h => h)) hE hr hEs
 have Hwa := Lib.hid hwa
 have Hmwa := Lib.hid hmwa
 have Hgwa := Lib.hid hgwa
 have Hfm := Lib.hid hfm
 have Hba := Lib.hid hba
 have Hb := Lib.hid hb
 have Hc := Lib.hid hc
 have Ho := Lib.hid ho
 have Hv := Lib.hid hv
 have Hr := Lib.hid hr
 have HEs := Lib.hid hEs
 clear hwa hmwa hgwa hfm hba hb hc ho hv hr hEs hzwa
 go_enter Tryz.func126, Tryz.ntmps126
 go_wp2_with (first | (rw [show w.alloc _ = wa from Hwa.out]) | fail)
 refine Hfm.out.mono ?_
 rintro e w3 ⟨rfl, hm3⟩
 have hm03 := Hmwa.out.trans hm3 (fun _ _ h => h)
 have Hm3 := Lib.hid hm3
 have Hm03 := Lib.hid hm03
 clear hm3 hm03
 go_wp2
 go_ret
 exact ⟨rfl, Hm03.out⟩
theorem callWant : ∀ (args : Array Value) (W : World), Sem.run Tryz.prog (callFunc 126 args) W = .ok (.enter 126 args) W := fun args w => by simp [go_sem]
theorem allQ_mem {M : List (Int × Fil)} {id : Int} {q : Fil} (h : q ∈ allQ M id) : (id, q) ∈ M := by
 obtain ⟨k, -, h2⟩ := List.mem_filterMap.1 h
 exact (tabF_some h2).1
theorem allQ_len {w : World} {b N : Nat} {own C : Nat → Prop} {M : List (Int × Fil)} (h : Tab w b own C M N) (id : Int) : (allQ M id).length ≤ N := by
 obtain ⟨mo, h⟩ := h
 unfold allQ
 refine Nat.le_trans (List.length_filterMap_le _ _) ?_
 unfold riseS
 rw [List.length_mergeSort]
 exact Nat.le_trans (keysL_len M id) h.low
set_option maxHeartbeats 4000000 in
theorem twants_at (w : World) (b : Nat) (own C : Nat → Prop) (M : List (Int × Fil)) (N : Nat) (h : Tab w b own C M N) (hN : N ≤ 100000) (hok : ∀ p ∈ M, okQ p.2) (id : Int) (hid : (Lit.int .i64 id).wf = true) (S : ByteArray) (na : Option Addr) (nc : Nat) (E : List Att) (hS : S.size ≤ 52) (hv : RdSl w 6 (.slice na E.length nc) E.length (atts E)) (hE : E.length ≤ 8) (hr : rises E) (hEs : ∀ a ∈ E, a.name.size ≤ 12 ∧ a.v.text.size ≤ 40) :
 Calls Tryz.prog 94 #[.pointer (some ⟨b, 0, none⟩), .int .i64 id, .agg #[.string S, .slice na E.length nc]] w fun e w' => e = .returned (.bool ((allQ M id).any fun q => rMatF q S E)) ∧ Mod (fun _ => False) w w' := by
 obtain ⟨wa, hwa⟩ : ∃ wa : World, w.alloc (.cells #[.string S, .slice na E.length nc] 46) = wa := ⟨_, rfl⟩
 have hmwa : Mod (fun _ => False) w wa := hwa ▸ (Mod.refl (fun _ => False) w).alloc _
 have hgwa := heap_alloc_new w (.cells #[.string S, .slice na E.length nc] 46)
 rw [hwa] at hgwa
 have hzwa : wa.heap.size = w.heap.size + 1 := by rw [← hwa]; simp
 have hall := tall_at wa b own C M N (h.mod0 hmwa (fun _ _ h => h)) hN id hid
 have hva := hv.mod hmwa (fun _ _ h => h)
 have hh := h
 have Hwa := Lib.hid hwa
 have Hmwa := Lib.hid hmwa
 have Hgwa := Lib.hid hgwa
 have Hall := Lib.hid hall
 have Hva := Lib.hid hva
 have H := Lib.hid h
 have Hh := Lib.hid hh
 have Hok := Lib.hid hok
 have Hv := Lib.hid hv
 have Hr := Lib.hid hr
 have HEs := Lib.hid hEs
 clear hwa hmwa hgwa hall hva h hh hok hv hr hEs hzwa
 go_enter Tryz.func94, Tryz.ntmps94
 go_wp2_with (first | (rw [show w.alloc _ = wa from Hwa.out]) | fail)
 refine Hall.out.mono ?_
 rintro e w1 ⟨v, l, rfl, hv1, -, hl, hfc, hm1⟩
 have hm01 := Hmwa.out.trans hm1 (fun _ _ h => h)
 have hll : l.length ≤ 9223372036854775807 := by
  have h1 : l.length = (allQ M id).length := by rw [← hl, List.length_map]
  have h2 := allQ_len Hh.out id
  omega
 have hcon := containsr_at 126 #[.pointer (some ⟨w.heap.size, 0, none⟩)] callWant (fun f => rMatF f.fil S E) w1 v l hv1.rd hll (fun f hf wx hwx => by
  have hq : okQ f.fil := Hok.out (id, f.fil) (allQ_mem (by rw [← hl]; exact List.mem_map_of_mem (f := Fr.fil) hf))
  exact want1_at wx w.heap.size S na nc E (hwx.heap (hm1.heap Hgwa.out (fun h => h)) (fun h => h)) f ((hfc f hf).1.rd.mod hwx (fun _ _ h => h)) hq hS (Hva.out.mod (hm1.trans hwx (fun _ _ h => h)) (fun _ _ h => h)) hE Hr.out HEs.out)
 have e2 : (l.any fun f => rMatF f.fil S E) = (allQ M id).any fun q => rMatF q S E := by
  rw [← hl, List.any_map]
  rfl
 rw [e2] at hcon
 have Hcon := Lib.hid hcon
 have Hv1 := Lib.hid hv1
 have Hl := Lib.hid hl
 have Hfc := Lib.hid hfc
 have Hm1 := Lib.hid hm1
 have Hm01 := Lib.hid hm01
 have E2 := Lib.hid e2
 clear hcon hv1 hl hfc hm1 hm01 e2
 go_wp2_with fail
 refine Hcon.out.mono ?_
 rintro e w2 ⟨rfl, hm2⟩
 have hm02 := Hm01.out.trans hm2 (fun _ _ h => h)
 have Hm2 := Lib.hid hm2
 have Hm02 := Lib.hid hm02
 clear hm2 hm02
 go_wp2
 go_ret
 exact ⟨rfl, Hm02.out⟩
end Go.Proofs.YtaenebdppkjhoaaGreatDoor
namespace Go.Proofs.YtaenebdppkjhoaaGreatDoor
set_option maxRecDepth 20000
open Go.RowKit
theorem BroA.cells {w : World} {ow : Ow} {c g : Nat} {id : Int} {near : List Int} {B : BS} {a : BAd} (h : BroA w ow c g id near B a) {t : Nat} (ht : t < 4) :
 w.cell? ⟨g, 3 + t * 4, none⟩ = some (ptr (a.tb t)) ∧ w.cell? ⟨g, 3 + t * 4 + 1, none⟩ = some (ptr (a.ib t)) ∧ w.cell? ⟨g, 3 + t * 4 + 2, none⟩ = some (.map (some (a.sb t))) ∧ w.cell? ⟨g, 3 + t * 4 + 3, none⟩ = some (.map (some (a.mb t))) := by
 obtain ⟨L, hl, -⟩ := h.log
 have h4 : t = 0 ∨ t = 1 ∨ t = 2 ∨ t = 3 := by omega
 rcases h4 with rfl | rfl | rfl | rfl <;> exact ⟨cell_of hl.row rfl, cell_of hl.row rfl, cell_of hl.row rfl, cell_of hl.row rfl⟩
structure EvOk (es : ByteArray) (el : List Att) : Prop where
 es : es.size ≤ 52
 len : el.length ≤ 8
 ris : rises el
 each : ∀ a ∈ el, a.name.size ≤ 12 ∧ a.v.text.size ≤ 40
structure RtF (wa : World) (k g t tb ib : Nat) (x : Mv) (na : Option Addr) (n nc : Nat) (y : World) : Prop where
 r0 : y.cell? ⟨g, 3 + t * 4, none⟩ = some (.pointer (some ⟨tb, 0, none⟩))
 r1 : y.cell? ⟨g, 3 + t * 4 + 1, none⟩ = some (.pointer (some ⟨ib, 0, none⟩))
 e0 : y.cell? ⟨k, 12, none⟩ = some (.string x.m.es)
 e1 : y.cell? ⟨k, 13, none⟩ = some (.slice x.ea x.m.el.length x.ec)
 e2 : y.cell? ⟨k, 14, none⟩ = some (.int .i64 x.m.ver)
 nr : y.cell? ⟨g, 2, none⟩ = some (.slice na n nc)
 md : Mod (fun _ => False) wa y
set_option maxHeartbeats 8000000 in
theorem route_none (w : World) (ow : Ow) (c g : Nat) (id : Int) (near : List Int) (B : BS) (h : Bro w ow c g id near B) (hL : B.L.length ≤ 40) (hnl : near.length ≤ 1000) (hnw : ∀ n ∈ near, (Lit.int .i64 n).wf = true) (t : Nat) (ht : t < 4)
 (hI : (B.R t).I = []) (hM : (B.R t).M = []) (hT : (B.R t).T ≤ 100000) (hN : (B.R t).N ≤ 100000) (o : Value) (frm : Int) (x : Mv) (hx : RdSl w 6 (.slice x.ea x.m.el.length x.ec) x.m.el.length (atts x.m.el)) (he : EvOk x.m.es x.m.el) :
 Calls Tryz.prog 56 #[.pointer (some ⟨g, 0, none⟩), o, .int .i64 t, .int .i64 frm, .agg x.cells.toArray] w fun e w' => e = .returned (.tuple #[]) ∧ Mod (fun _ => False) w w' := by
 obtain ⟨a, h⟩ := h
 obtain ⟨l, hlB, -, hle, hat⟩ := h.at_ hL
 obtain ⟨q0, q1, -, -⟩ := h.cells ht
 obtain ⟨L, hlog, -⟩ := h.log
 obtain ⟨na, nc, hnv, hnc⟩ : ∃ a' cc, a.nv = .slice a' near.length cc ∧ near.length ≤ cc := by obtain ⟨-, a, cc, h, h2, -⟩ := h.near.rd; exact ⟨a, cc, h, h2⟩
 have c2 : w.cell? ⟨g, 2, none⟩ = some (.slice na near.length nc) := by rw [← hnv]; exact cell_of hlog.row rfl
 have hnr := h.near.rd
 rw [hnv] at hnr
 obtain ⟨wa, hwa⟩ : ∃ wa : World, w.alloc (.cells x.cells.toArray 48) = wa := ⟨_, rfl⟩
 have hmwa : Mod (fun _ => False) w wa := hwa ▸ (Mod.refl (fun _ => False) w).alloc _
 have hgwa := heap_alloc_new w (.cells x.cells.toArray 48)
 rw [hwa] at hgwa
 have hzwa : wa.heap.size = w.heap.size + 1 := by rw [← hwa]; simp
 have ht4 : (t : Int) < 4 := by omega
 have ht0 : (0 : Int) ≤ t := by omega
 have hnl' : (near.length : Int) ≤ 1000 := by omega
 have hnc' : (near.length : Int) ≤ nc := by omega
 have hrea := h.rea t ht
 obtain ⟨es, hes⟩ : ∃ es, x.m.es = es := ⟨_, rfl⟩
 have hF : ∀ wx, Mod (fun _ => False) wa wx → RtF wa w.heap.size g t (a.tb t) (a.ib t) x na near.length nc wx := fun wx hm =>
  ⟨hm.cell (hmwa.cell q0 (fun h => h)) (fun h => h), hm.cell (hmwa.cell q1 (fun h => h)) (fun h => h), hm.cell (cell_of hgwa rfl) (fun h => h), hm.cell (cell_of hgwa rfl) (fun h => h), hm.cell (cell_of hgwa rfl) (fun h => h), hm.cell (hmwa.cell c2 (fun h => h)) (fun h => h), hm⟩
 have him : ∀ wx, Mod (fun _ => False) wa wx → Calls Tryz.prog 92 #[.pointer (some ⟨a.ib t, 0, none⟩), .agg #[.string x.m.es, .slice x.ea x.m.el.length x.ec]] wx (fun e w' => ∃ (ia : Option Addr) (ic : Nat), e = .returned (.slice ia 0 ic) ∧ Mod (fun _ => False) wx w') := fun wx hm => by
  have h1 := imatch_at wx (a.ib t) _ _ (B.R t).I (B.R t).T (Idx.mod hrea.idx (hmwa.trans hm (fun _ _ h => h)) (fun _ _ h => h)) hT x.m.es (by have := he.es; omega) (.slice x.ea x.m.el.length x.ec) x.m.el (hx.mod (hmwa.trans hm (fun _ _ h => h)) (fun _ _ h => h)) (by have := he.len; omega) (fun q hq => by have := he.each q hq; omega)
  rw [hI] at h1
  refine h1.mono ?_
  rintro e w' ⟨v, rfl, ho, -, hm'⟩
  rw [show matL [] x.m.es x.m.el = [] from by unfold matL riseI; simp] at ho
  obtain ⟨-, ia, ic, rfl, -⟩ := ho.rd
  exact ⟨ia, ic, rfl, hm'⟩
 have hwn : ∀ (n : Int), n ∈ near → ∀ wx, Mod (fun _ => False) wa wx → Calls Tryz.prog 94 #[.pointer (some ⟨a.tb t, 0, none⟩), .int .i64 n, .agg #[.string x.m.es, .slice x.ea x.m.el.length x.ec]] wx fun e w' => e = .returned (.bool false) ∧ Mod (fun _ => False) wx w' := fun n hn wx hm => by
  have h1 := twants_at wx (a.tb t) _ _ (B.R t).M (B.R t).N (Tab.mod0 hrea.tab (hmwa.trans hm (fun _ _ h => h)) (fun _ _ h => h)) hN (fun p hp => by rw [hM] at hp; cases hp) n (hnw n hn) x.m.es x.ea x.ec x.m.el he.es (hx.mod (hmwa.trans hm (fun _ _ h => h)) (fun _ _ h => h)) he.len he.ris he.each
  rw [hM, show (allQ [] n).any (fun q => rMatF q x.m.es x.m.el) = false by unfold allQ keysL; simp [riseS]] at h1
  exact h1
 have H := Lib.hid h
 have Hat := Lib.hid hat
 have HlB := Lib.hid hlB
 have Hle := Lib.hid hle
 have Hlog := Lib.hid hlog
 have HF := Lib.hid hF
 have Him := Lib.hid him
 have Hwn := Lib.hid hwn
 have Hrea := Lib.hid hrea
 have Hx := Lib.hid hx
 have He := Lib.hid he
 have Hnr := Lib.hid hnr
 have Hnv := Lib.hid hnv
 have Hes := Lib.hid hes
 have Hwa := Lib.hid hwa
 have Hmwa := Lib.hid hmwa
 have Hgwa := Lib.hid hgwa
 have HI := Lib.hid hI
 have HM := Lib.hid hM
 clear h hat hlB hle hlog hF him hwn hrea hx he hnr hnv hes hwa hmwa hgwa hI hM hzwa
 go_enter Tryz.func56, Tryz.ntmps56
 go_wp2_with (first | (rw [show w.alloc _ = wa from Hwa.out]) | fail)
 have hS : RtF wa w.heap.size g t (a.tb t) (a.ib t) x na near.length nc wa.drew := HF.out _ ((Mod.refl _ wa).drew)
 refine wp_region_script [.rd 0, .rd 1, .rd 2, .rd 3, .rd 4, .go 5, .go 6] [0, 1, 2, 3, 4] (RtF wa w.heap.size g t (a.tb t) (a.ib t) x na near.length nc) (by kernel_rfl) (by kernel_rfl) (fun _ _ d _ _ h => (by cases d <;> exact h)) ?_
 refine walk_rd rfl ?_ (fun _ => hS) ?_ (fun w0 h0 => ?_) (fun K hK => ?_)
 ·(try simp only [List.getElem_toArray]); (try simp only [List.getElem_cons_succ]); (try simp only [List.getElem_cons_zero])
  go_simp; done
 rotate_left
 ·(try simp only [List.getElem_toArray]); (try simp only [List.getElem_cons_succ]); (try simp only [List.getElem_cons_zero])
  first
   | (obtain ⟨f0, f1, f2, f3, f4, f5, -⟩ := h0 rfl; clear h0; go_simp; with_reducible rfl)
   | (clear h0; go_simp; with_reducible rfl)
 (try simp only [List.getElem_toArray]); (try simp only [List.getElem_cons_succ]); (try simp only [List.getElem_cons_zero])
 go_simp; refine hK _ ?_; clear hK K
 refine walk_rd rfl ?_ (fun _ => hS) ?_ (fun w0 h0 => ?_) (fun K hK => ?_)
 ·(try simp only [List.getElem_toArray]); (try simp only [List.getElem_cons_succ]); (try simp only [List.getElem_cons_zero])
  go_simp; done
 rotate_left
 ·(try simp only [List.getElem_toArray]); (try simp only [List.getElem_cons_succ]); (try simp only [List.getElem_cons_zero])
  first
   | (obtain ⟨f0, f1, f2, f3, f4, f5, -⟩ := h0 rfl; clear h0; go_simp; with_reducible rfl)
   | (clear h0; go_simp; with_reducible rfl)
 (try simp only [List.getElem_toArray]); (try simp only [List.getElem_cons_succ]); (try simp only [List.getElem_cons_zero])
 go_simp; refine hK _ ?_; clear hK K
 refine walk_rd rfl ?_ (fun _ => hS) ?_ (fun w0 h0 => ?_) (fun K hK => ?_)
 ·(try simp only [List.getElem_toArray]); (try simp only [List.getElem_cons_succ]); (try simp only [List.getElem_cons_zero])
  go_simp; done
 rotate_left
 ·(try simp only [List.getElem_toArray]); (try simp only [List.getElem_cons_succ]); (try simp only [List.getElem_cons_zero])
  first
   | (obtain ⟨f0, f1, f2, f3, f4, f5, -⟩ := h0 rfl; clear h0; go_simp; with_reducible rfl)
   | (clear h0; go_simp; with_reducible rfl)
 (try simp only [List.getElem_toArray]); (try simp only [List.getElem_cons_succ]); (try simp only [List.getElem_cons_zero])
 go_simp; refine hK _ ?_; clear hK K
 refine walk_rd rfl ?_ (fun _ => hS) ?_ (fun w0 h0 => ?_) (fun K hK => ?_)
 ·(try simp only [List.getElem_toArray]); (try simp only [List.getElem_cons_succ]); (try simp only [List.getElem_cons_zero])
  go_simp; done
 rotate_left
 ·(try simp only [List.getElem_toArray]); (try simp only [List.getElem_cons_succ]); (try simp only [List.getElem_cons_zero])
  first
   | (obtain ⟨f0, f1, f2, f3, f4, f5, -⟩ := h0 rfl; clear h0; go_simp; with_reducible rfl)
   | (clear h0; go_simp; with_reducible rfl)
 (try simp only [List.getElem_toArray]); (try simp only [List.getElem_cons_succ]); (try simp only [List.getElem_cons_zero])
 go_simp; refine hK _ ?_; clear hK K
 refine walk_rd rfl ?_ (fun _ => hS) ?_ (fun w0 h0 => ?_) (fun K hK => ?_)
 ·(try simp only [List.getElem_toArray]); (try simp only [List.getElem_cons_succ]); (try simp only [List.getElem_cons_zero])
  go_simp; done
 rotate_left
 ·(try simp only [List.getElem_toArray]); (try simp only [List.getElem_cons_succ]); (try simp only [List.getElem_cons_zero])
  first
   | (obtain ⟨f0, f1, f2, f3, f4, f5, -⟩ := h0 rfl; clear h0; go_simp; with_reducible rfl)
   | (clear h0; go_simp; with_reducible rfl)
 (try simp only [List.getElem_toArray]); (try simp only [List.getElem_cons_succ]); (try simp only [List.getElem_cons_zero])
 go_simp; refine hK _ ?_; clear hK K
 refine walk_one (go_yes rfl ?_ (fun K hK => ?_))
 ·(try simp only [List.getElem_toArray]); (try simp only [List.getElem_cons_succ]); (try simp only [List.getElem_cons_zero])
  go_simp; done
 go_wp2_with fail
 refine (Hat.out _ _ (Hmwa.out.trans hS.md (fun _ _ h => h))).mono ?_
 rintro e w2 ⟨v2, rfl, hru, -, hm2⟩
 have hS2 := HF.out w2 (hS.md.trans hm2 (fun _ _ h => h))
 refine hK _ _ (fun _ h => HF.out _ (h.md.trans hm2 (fun _ _ h => h))) ?_
 clear hK K hS
 have HS2 := Lib.hid hS2
 have Hru := Lib.hid hru
 clear hS2 hru hm2
 refine walk_one (go_yes rfl ?_ (fun K hK => ?_))
 ·(try simp only [List.getElem_toArray]); (try simp only [List.getElem_cons_succ]); (try simp only [List.getElem_cons_zero])
  go_simp; done
 (try simp only [List.getElem_toArray]); (try simp only [List.getElem_cons_succ]); (try simp only [List.getElem_cons_zero])
 go_simp
 refine hK _ _ (fun h => absurd h (by decide)) ?_
 clear hK K
 refine walk_nil ?_
 go_wp2_with fail
 have hS := HF.out _ (HS2.out.md.drew)
 refine wp_region_script [.rd 0, .rd 1, .rd 2, .rd 3, .rd 4, .rd 5, .rd 8, .go 6, .rd 7] [0, 1, 2, 3, 4, 5, 7, 8] (RtF wa w.heap.size g t (a.tb t) (a.ib t) x na near.length nc) (by kernel_rfl) (by kernel_rfl) (fun _ _ d _ _ h => (by cases d <;> exact h)) ?_
 refine walk_rd rfl ?_ (fun _ => hS) ?_ (fun w0 h0 => ?_) (fun K hK => ?_)
 ·(try simp only [List.getElem_toArray]); (try simp only [List.getElem_cons_succ]); (try simp only [List.getElem_cons_zero])
  go_simp; done
 rotate_left
 ·(try simp only [List.getElem_toArray]); (try simp only [List.getElem_cons_succ]); (try simp only [List.getElem_cons_zero])
  first
   | (obtain ⟨f0, f1, f2, f3, f4, f5, -⟩ := h0 rfl; clear h0; go_simp; with_reducible rfl)
   | (clear h0; go_simp; with_reducible rfl)
 (try simp only [List.getElem_toArray]); (try simp only [List.getElem_cons_succ]); (try simp only [List.getElem_cons_zero])
 go_simp; refine hK _ ?_; clear hK K
 refine walk_rd rfl ?_ (fun _ => hS) ?_ (fun w0 h0 => ?_) (fun K hK => ?_)
 ·(try simp only [List.getElem_toArray]); (try simp only [List.getElem_cons_succ]); (try simp only [List.getElem_cons_zero])
  go_simp; done
 rotate_left
 ·(try simp only [List.getElem_toArray]); (try simp only [List.getElem_cons_succ]); (try simp only [List.getElem_cons_zero])
  first
   | (obtain ⟨f0, f1, f2, f3, f4, f5, -⟩ := h0 rfl; clear h0; go_simp; with_reducible rfl)
   | (clear h0; go_simp; with_reducible rfl)
 (try simp only [List.getElem_toArray]); (try simp only [List.getElem_cons_succ]); (try simp only [List.getElem_cons_zero])
 go_simp; refine hK _ ?_; clear hK K
 refine walk_rd rfl ?_ (fun _ => hS) ?_ (fun w0 h0 => ?_) (fun K hK => ?_)
 ·(try simp only [List.getElem_toArray]); (try simp only [List.getElem_cons_succ]); (try simp only [List.getElem_cons_zero])
  go_simp; done
 rotate_left
 ·(try simp only [List.getElem_toArray]); (try simp only [List.getElem_cons_succ]); (try simp only [List.getElem_cons_zero])
  first
   | (obtain ⟨f0, f1, f2, f3, f4, f5, -⟩ := h0 rfl; clear h0; go_simp; with_reducible rfl)
   | (clear h0; go_simp; with_reducible rfl)
 (try simp only [List.getElem_toArray]); (try simp only [List.getElem_cons_succ]); (try simp only [List.getElem_cons_zero])
 go_simp; refine hK _ ?_; clear hK K
 refine walk_rd rfl ?_ (fun _ => hS) ?_ (fun w0 h0 => ?_) (fun K hK => ?_)
 ·(try simp only [List.getElem_toArray]); (try simp only [List.getElem_cons_succ]); (try simp only [List.getElem_cons_zero])
  go_simp; done
 rotate_left
 ·(try simp only [List.getElem_toArray]); (try simp only [List.getElem_cons_succ]); (try simp only [List.getElem_cons_zero])
  first
   | (obtain ⟨f0, f1, f2, f3, f4, f5, -⟩ := h0 rfl; clear h0; go_simp; with_reducible rfl)
   | (clear h0; go_simp; with_reducible rfl)
 (try simp only [List.getElem_toArray]); (try simp only [List.getElem_cons_succ]); (try simp only [List.getElem_cons_zero])
 go_simp; refine hK _ ?_; clear hK K
 refine walk_rd rfl ?_ (fun _ => hS) ?_ (fun w0 h0 => ?_) (fun K hK => ?_)
 ·(try simp only [List.getElem_toArray]); (try simp only [List.getElem_cons_succ]); (try simp only [List.getElem_cons_zero])
  go_simp; done
 rotate_left
 ·(try simp only [List.getElem_toArray]); (try simp only [List.getElem_cons_succ]); (try simp only [List.getElem_cons_zero])
  first
   | (obtain ⟨f0, f1, f2, f3, f4, f5, -⟩ := h0 rfl; clear h0; go_simp; with_reducible rfl)
   | (clear h0; go_simp; with_reducible rfl)
 (try simp only [List.getElem_toArray]); (try simp only [List.getElem_cons_succ]); (try simp only [List.getElem_cons_zero])
 go_simp; refine hK _ ?_; clear hK K
 refine walk_rd rfl ?_ (fun _ => hS) ?_ (fun w0 h0 => ?_) (fun K hK => ?_)
 ·(try simp only [List.getElem_toArray]); (try simp only [List.getElem_cons_succ]); (try simp only [List.getElem_cons_zero])
  go_simp; done
 rotate_left
 ·(try simp only [List.getElem_toArray]); (try simp only [List.getElem_cons_succ]); (try simp only [List.getElem_cons_zero])
  first
   | (obtain ⟨f0, f1, f2, f3, f4, f5, -⟩ := h0 rfl; clear h0; go_simp; with_reducible rfl)
   | (clear h0; go_simp; with_reducible rfl)
 (try simp only [List.getElem_toArray]); (try simp only [List.getElem_cons_succ]); (try simp only [List.getElem_cons_zero])
 go_simp; refine hK _ ?_; clear hK K
 refine walk_rd rfl ?_ (fun _ => hS) ?_ (fun w0 h0 => ?_) (fun K hK => ?_)
 ·(try simp only [List.getElem_toArray]); (try simp only [List.getElem_cons_succ]); (try simp only [List.getElem_cons_zero])
  go_simp; done
 rotate_left
 ·(try simp only [List.getElem_toArray]); (try simp only [List.getElem_cons_succ]); (try simp only [List.getElem_cons_zero])
  first
   | (obtain ⟨f0, f1, f2, f3, f4, f5, -⟩ := h0 rfl; clear h0; go_simp; with_reducible rfl)
   | (clear h0; go_simp; with_reducible rfl)
 (try simp only [List.getElem_toArray]); (try simp only [List.getElem_cons_succ]); (try simp only [List.getElem_cons_zero])
 go_simp; refine hK _ ?_; clear hK K
 refine walk_one (go_yes rfl ?_ (fun K hK => ?_))
 ·(try simp only [List.getElem_toArray]); (try simp only [List.getElem_cons_succ]); (try simp only [List.getElem_cons_zero])
  go_simp; done
 go_wp2_with fail
 refine (Him.out _ hS.md).mono ?_
 rintro e w3 ⟨ia, ic, rfl, hm3⟩
 have hS := HF.out w3 (hS.md.trans hm3 (fun _ _ h => h))
 refine hK _ _ (fun _ h => HF.out _ (h.md.trans hm3 (fun _ _ h => h))) ?_
 clear hK K hm3
 refine walk_rd rfl ?_ (fun _ => hS) ?_ (fun w0 h0 => ?_) (fun K hK => ?_)
 ·(try simp only [List.getElem_toArray]); (try simp only [List.getElem_cons_succ]); (try simp only [List.getElem_cons_zero])
  go_simp; done
 rotate_left
 ·(try simp only [List.getElem_toArray]); (try simp only [List.getElem_cons_succ]); (try simp only [List.getElem_cons_zero])
  first
   | (obtain ⟨f0, f1, f2, f3, f4, f5, -⟩ := h0 rfl; clear h0; go_simp; with_reducible rfl)
   | (clear h0; go_simp; with_reducible rfl)
 (try simp only [List.getElem_toArray]); (try simp only [List.getElem_cons_succ]); (try simp only [List.getElem_cons_zero])
 go_simp; refine hK _ ?_; clear hK K
 refine walk_nil ?_
 have HS := Lib.hid hS
 clear hS
 go_wp2_with fail
 go_loopw [37] (fun i wr => i = .int .i64 0 ∧ RtF wa w.heap.size g t (a.tb t) (a.ib t) x na near.length nc wr) (fun _ _ => 0)
 case atStart => exact ⟨rfl, HS.out⟩
 case round =>
  obtain ⟨rfl, hr⟩ := hrel
  have HR := Lib.hid hr
  obtain ⟨f0, f1, f2, f3, f4, f5, -⟩ := hr
  go_wp2_with fail
  go_loopw [87] (fun i wr => ∃ j : Nat, i = .int .i64 j ∧ j ≤ near.length ∧ RtF wa w.heap.size g t (a.tb t) (a.ib t) x na near.length nc wr) (fun i _ => near.length - (intOf i).toNat)
  case atStart => exact ⟨0, rfl, Nat.zero_le _, HR.out⟩
  case round =>
   obtain ⟨j, rfl, hj, hr⟩ := hrel
   by_cases hlt : j < near.length
   ·have hlt' : (j : Int) < near.length := by omega
    obtain ⟨n, hnj⟩ : ∃ x, near[j]? = some x := ⟨_, List.getElem?_eq_getElem hlt⟩
    have hnm := List.mem_of_getElem? hnj
    have hrd := Hnr.out.mod (Hmwa.out.trans hr.md (fun _ _ h => h)) (fun _ _ h => h)
    have hff : ∀ wx, Mod (fun _ => False) wr wx → RtF wa w.heap.size g t (a.tb t) (a.ib t) x na near.length nc wx := fun wx h => HF.out wx (hr.md.trans h (fun _ _ h => h))
    obtain ⟨gn, offn, rfl, hcn⟩ := rd_int hrd hnj
    have hww : ∀ wx, Mod (fun _ => False) wr wx → Calls Tryz.prog 94 #[.pointer (some ⟨a.tb t, 0, none⟩), .int .i64 n, .agg #[.string x.m.es, .slice x.ea x.m.el.length x.ec]] wx fun e w' => e = .returned (.bool false) ∧ Mod (fun _ => False) wr w' := fun wx h =>
     (Hwn.out n hnm wx (hr.md.trans h (fun _ _ h => h))).mono fun e w' ⟨he, hm⟩ => ⟨he, h.trans hm (fun _ _ h => h)⟩
    by_cases hnf : n = frm
    ·have hq : (n != frm) = false := by simpa using hnf
     have Hr := Lib.hid hr
     have Hww := Lib.hid hww
     have Hff := Lib.hid hff
     have Hrd := Lib.hid hrd
     have Hnm := Lib.hid hnm
     have Hnj := Lib.hid hnj
     clear hr hww hff hrd hnm hnj
     go_wp2_with fail
     refine wp_region_news (by kernel_rfl) (by kernel_rfl) ?_
     iterate 13 (first
      | (refine quiet_skip ?_ (fun K hK => ?_)
         ·first | (go_simp; done) | (go_simp; simp [undef]; done)
         go_simp; refine hK _ ?_; clear hK K)
      | (refine quiet_do ?_ ?_ (fun w' hw' => ?_) (fun K hK => ?_)
         ·first | (go_simp; done) | (go_simp; simp [undef]; done)
         rotate_left
         ·skip
          go_simp
          rfl
         go_simp; refine hK _ ?_; clear hK K)
      | (refine quiet_in ?_ ?_ ?_ ?_ (fun w' hw' => ?_) ?_ (fun K hK => ?_)
         ·first | (go_simp; done) | (go_simp; simp [undef]; done)
         rotate_left 3
         ·skip
          go_simp
          constructor <;> rfl
         ·first | with_reducible exact Hww.out
         go_simp; refine hK _ ?_; clear hK K))
     refine quiet_end (fun w' hw' => ?_)
     have hf := Hff.out w' hw'
     have Hf := Lib.hid hf
     clear hf hw'
     go_wp2_with fail
     go_roundw
     case rel => exact ⟨j + 1, by go_num, hlt, Hf.out⟩
     case measure => simp [intOf]; omega
    ·have hq : (n != frm) = true := by simpa using hnf
     have Hr := Lib.hid hr
     have Hww := Lib.hid hww
     have Hff := Lib.hid hff
     have Hrd := Lib.hid hrd
     have Hnm := Lib.hid hnm
     have Hnj := Lib.hid hnj
     clear hr hww hff hrd hnm hnj
     go_wp2_with fail
     refine wp_region_news (by kernel_rfl) (by kernel_rfl) ?_
     iterate 13 (first
      | (refine quiet_skip ?_ (fun K hK => ?_)
         ·first | (go_simp; done) | (go_simp; simp [undef]; done)
         go_simp; refine hK _ ?_; clear hK K)
      | (refine quiet_do ?_ ?_ (fun w' hw' => ?_) (fun K hK => ?_)
         ·first | (go_simp; done) | (go_simp; simp [undef]; done)
         rotate_left
         ·obtain ⟨f0, f1, f2, f3, f4, f5, -⟩ := Hff.out w' hw'
          go_simp
          rfl
         go_simp; refine hK _ ?_; clear hK K)
      | (refine quiet_in ?_ ?_ ?_ ?_ (fun w' hw' => ?_) ?_ (fun K hK => ?_)
         ·first | (go_simp; done) | (go_simp; simp [undef]; done)
         rotate_left 3
         ·obtain ⟨f0, f1, f2, f3, f4, f5, -⟩ := Hff.out w' hw'
          go_simp
          constructor <;> rfl
         ·first | with_reducible exact Hww.out
         go_simp; refine hK _ ?_; clear hK K))
     refine quiet_end (fun w' hw' => ?_)
     have hf := Hff.out w' hw'
     have Hf := Lib.hid hf
     clear hf hw'
     go_wp2_with fail
     go_roundw
     case rel => exact ⟨j + 1, by go_num, hlt, Hf.out⟩
     case measure => simp [intOf]; omega
   ·obtain rfl : j = near.length := by omega
    have hm := Hmwa.out.trans hr.md (fun _ _ h => h)
    have Hm := Lib.hid hm
    have Hr := Lib.hid hr
    clear hm hr
    go_wp2
    go_end0
    exact ⟨rfl, Hm.out⟩
end Go.Proofs.YtaenebdppkjhoaaGreatDoor
namespace Go.Proofs.YtaenebdppkjhoaaGreatDoor
set_option maxRecDepth 20000
open Go.RowKit
def mayP (L : List PRu) (tenant : Int) (who : ByteArray) (es : ByteArray) (el : List Att) : Bool :=
 (homeP L tenant who).isSome && L.any fun p => (p.lies none 0).of 1 tenant who && filMatch p.sc p.cs es el
theorem mayP_ru (l : List Ru) (tenant : Int) (who : ByteArray) (es : ByteArray) (el : List Att) :
 mayP (l.map Ru.pru) tenant who es el = ((homeOf l tenant who).isSome && l.any fun r => r.of 1 tenant who && filMatch r.sc r.cs es el) := by
 unfold mayP
 rw [homeP_ru, List.any_map]
 rfl
def BS.pubE (B : BS) (id tenant : Int) (who : ByteArray) (es : ByteArray) (el : List Att) : Int :=
 if (evRight el && scRight es) = true then if B.there id tenant who = true then if mayP (atP B.L B.L.length) tenant who es el = true then 0 else 5 else 3 else 1
structure PbS (wa : World) (k : Nat) (es : ByteArray) (ea : Option Addr) (n ec : Nat) (y : World) : Prop where
 e0 : y.cell? ⟨k, 0, none⟩ = some (.string es)
 e1 : y.cell? ⟨k, 1, none⟩ = some (.slice ea n ec)
 md : Mod (fun _ => False) wa y
theorem evRight_rises {l : List Att} (h : evRight l = true) : rises l := by
 unfold evRight at h
 simp only [Bool.and_eq_true, List.all_eq_true, decide_eq_true_eq] at h
 have st : ∀ (k : Nat) (x y : Att), l[k]? = some x → l[k + 1]? = some y → Op.bytesLess x.name.data.toList y.name.data.toList = true := fun k x y hx hy => by
  have h1 := h.1 (k + 1) (List.mem_range.2 (List.getElem?_eq_some_iff.1 hy).1)
  rw [okAt_is hy (q := x) (by simpa using hx)] at h1
  simp only [Bool.and_eq_true, Bool.or_eq_true, decide_eq_true_eq] at h1
  have h2 := h1.1.2
  rw [ByteArray.toList_eq, ByteArray.toList_eq] at h2
  rcases h2 with h2 | h2
  ·omega
  ·exact h2
 suffices ∀ (d i : Nat) (x y : Att), l[i]? = some x → l[i + 1 + d]? = some y → Op.bytesLess x.name.data.toList y.name.data.toList = true from fun i j x y hij hx hy => this (j - i - 1) i x y hx (by rw [show i + 1 + (j - i - 1) = j by omega]; exact hy)
 intro d
 induction d with
 | zero => intro i x y hx hy; exact st i x y hx hy
 | succ d ih =>
  intro i x y hx hy
  obtain ⟨z, hz⟩ : ∃ z, l[i + 1 + d]? = some z := ⟨_, List.getElem?_eq_getElem (by have := (List.getElem?_eq_some_iff.1 hy).1; omega)⟩
  exact less_trans _ _ _ (ih i x z hx hz) (st (i + 1 + d) z y hz hy)
set_option maxHeartbeats 8000000 in
theorem publish_none (w0 w : World) (ow : Ow) (hw : Owd w0 w ow) (c g : Nat) (id : Int) (near : List Int) (B : BS) (h : Bro w ow c g id near B) (hL : B.L.length ≤ 40) (hnl : near.length ≤ 1000) (hnw : ∀ n ∈ near, (Lit.int .i64 n).wf = true) (t : Nat) (ht : t < 4)
 (hI : (B.R t).I = []) (hM : (B.R t).M = []) (hT : (B.R t).T ≤ 100000) (hN : (B.R t).N ≤ 100000) (o : Value) (who : ByteArray) (ser : Int) (es : ByteArray) (ea : Option Addr) (ec : Nat) (el : List Att) (hx : RdSl w 6 (.slice ea el.length ec) el.length (atts el)) (hes : es.size ≤ 1000) (hel : el.length ≤ 1000)
 (heq : ∀ a ∈ el, a.name.size ≤ 1000) :
 Calls Tryz.prog 23 #[.pointer (some ⟨g, 0, none⟩), o, .int .i64 t, .string who, .int .i64 ser, .agg #[.string es, .slice ea el.length ec]] w fun e w' => e = .returned (.int .i64 (B.pubE id t who es el)) ∧ Mod (fun _ => False) w w' := by
 obtain ⟨wa, hwa⟩ : ∃ wa : World, w.alloc (.cells #[.string es, .slice ea el.length ec] 46) = wa := ⟨_, rfl⟩
 have hmwa : Mod (fun _ => False) w wa := hwa ▸ (Mod.refl (fun _ => False) w).alloc _
 have hgwa := heap_alloc_new w (.cells #[.string es, .slice ea el.length ec] 46)
 rw [hwa] at hgwa
 have hzwa : wa.heap.size = w.heap.size + 1 := by rw [← hwa]; simp
 have hF : ∀ wx, Mod (fun _ => False) wa wx → PbS wa w.heap.size es ea el.length ec wx := fun wx hm =>
  ⟨hm.cell (cell_of hgwa rfl) (fun h => h), hm.cell (cell_of hgwa rfl) (fun h => h), hm⟩
 have hbr : ∀ wx, Mod (fun _ => False) w wx → Bro wx ow c g id near B := fun wx hm => h.mov hw (Mov.of hw hm (fun _ => False)) (fun h => h) (fun _ h => h.elim)
 have hx' : ∀ wx, Mod (fun _ => False) w wx → RdSl wx 6 (.slice ea el.length ec) el.length (atts el) := fun wx hm => hx.mod hm (fun _ _ h => h)
 have hri := fun wx (hm : Mod (fun _ => False) w wx) => right_at es (.slice ea el.length ec) el wx (hx' wx hm) (by omega) (fun a ha => by have := heq a ha; omega)
 have hsc := scope_right es (by omega)
 obtain ⟨R1, hR1⟩ : ∃ r, evRight el = r := ⟨_, rfl⟩
 obtain ⟨R2, hR2⟩ : ∃ r, scRight es = r := ⟨_, rfl⟩
 rw [hR1] at hri
 rw [hR2] at hsc
 have H := Lib.hid h
 have HF := Lib.hid hF
 have Hbr := Lib.hid hbr
 have Hx := Lib.hid hx
 have Hx' := Lib.hid hx'
 have Hri := Lib.hid hri
 have Hsc := Lib.hid hsc
 have HR1 := Lib.hid hR1
 have HR2 := Lib.hid hR2
 have Hwa := Lib.hid hwa
 have Hmwa := Lib.hid hmwa
 have Hgwa := Lib.hid hgwa
 have HI := Lib.hid hI
 have HM := Lib.hid hM
 have Hnw := Lib.hid hnw
 have Heq := Lib.hid heq
 clear h hF hbr hx hx' hri hsc hR1 hR2 hwa hmwa hgwa hI hM hnw heq hzwa
 have hR : B.pubE id t who es el = if (R1 && R2) = true then if B.there id t who = true then if mayP (atP B.L B.L.length) t who es el = true then 0 else 5 else 3 else 1 := by rw [← HR1.out, ← HR2.out]; rfl
 obtain ⟨E, hE⟩ : ∃ E, B.pubE id t who es el = E := ⟨_, rfl⟩
 rw [hE] at hR
 rw [hE]
 have HR := Lib.hid hR
 clear hR hE
 go_enter Tryz.func23, Tryz.ntmps23
 have hS := HF.out wa (Mod.refl _ wa)
 obtain ⟨f0, f1, -⟩ := hS
 go_wp2_with (first | (rw [show w.alloc _ = wa from Hwa.out]) | fail)
 refine (Hri.out wa Hmwa.out).mono ?_
 rintro e w1 ⟨rfl, hm1⟩
 have hS1 := HF.out w1 hm1
 obtain ⟨f0, f1, -⟩ := hS1
 cases R1 with
 | false =>
  have hm := Hmwa.out.trans hm1 (fun _ _ h => h)
  have Hm := Lib.hid hm
  clear hm hm1
  go_wp2
  go_ret
  exact ⟨by rw [HR.out]; rfl, Hm.out⟩
 | true =>
 go_wp2_with fail
 refine (Hsc.out _).mono ?_
 rintro e w2 ⟨rfl, hm2⟩
 have hm2 := hm1.trans hm2 (fun _ _ h => h)
 cases R2 with
 | false =>
  have hm := Hmwa.out.trans hm2 (fun _ _ h => h)
  have Hm := Lib.hid hm
  clear hm hm1 hm2
  go_wp2
  go_ret
  exact ⟨by rw [HR.out]; rfl, Hm.out⟩
 | true =>
 have hth := there_at w2 ow c g id near B (Hbr.out w2 (Hmwa.out.trans hm2 (fun _ _ h => h))) hL t who
 obtain ⟨R3, hR3⟩ : ∃ r, B.there id t who = r := ⟨_, rfl⟩
 rw [hR3] at hth
 have Hth := Lib.hid hth
 have HR3 := Lib.hid hR3
 have Hm2 := Lib.hid hm2
 clear hth hR3 hm2 hm1
 go_wp2_with fail
 refine Hth.out.mono ?_
 rintro e w3 ⟨rfl, hm3⟩
 have hm3 := Hm2.out.trans hm3 (fun _ _ h => h)
 cases R3 with
 | false =>
  have hm := Hmwa.out.trans hm3 (fun _ _ h => h)
  have Hm := Lib.hid hm
  clear hm hm3
  go_wp2
  go_ret
  exact ⟨by rw [HR.out, HR3.out]; rfl, Hm.out⟩
 | true =>
 have hwm3 := Hmwa.out.trans hm3 (fun _ _ h => h)
 obtain ⟨a, hb3⟩ := Hbr.out w3 hwm3
 obtain ⟨l, hlB, -, hle, hat⟩ := hb3.at_ hL
 have hll : l.length ≤ 40 := by rw [← congrArg List.length hlB, List.length_map] at hL; exact hL
 obtain ⟨R4, hR4⟩ : ∃ r, mayP (atP B.L B.L.length) t who es el = r := ⟨_, rfl⟩
 have hS := HF.out w3 hm3
 have hFS : ∀ wx, Mod (fun _ => False) w3 wx → PbS wa w.heap.size es ea el.length ec wx := fun wx hm => HF.out wx (hm3.trans hm (fun _ _ h => h))
 have hbL := hle
 have HR4 := Lib.hid hR4
 have Hb3 := Lib.hid hb3
 have HlB := Lib.hid hlB
 have HbL := Lib.hid hbL
 have Hat := Lib.hid hat
 have Hm3 := Lib.hid hm3
 have Hwm3 := Lib.hid hwm3
 have HFS := Lib.hid hFS
 clear hR4 hb3 hlB hbL hat hm3 hwm3 hFS hle
 go_wp2_with fail
 have hS : PbS wa w.heap.size es ea el.length ec w3.drew := HFS.out _ ((Mod.refl _ w3).drew)
 refine wp_region_script [.rd 0, .rd 1, .rd 2, .rd 3, .rd 4, .rd 5, .rd 8, .rd 9, .rd 10, .go 6, .go 7, .go 11, .go 12, .go 13] [0, 1, 2, 3, 4, 5, 6, 7, 8, 9, 10] (PbS wa w.heap.size es ea el.length ec) (by kernel_rfl) (by kernel_rfl) (fun _ _ d _ _ h => (by cases d <;> exact h)) ?_
 refine walk_rd rfl ?_ (fun _ => hS) ?_ (fun w0 h0 => ?_) (fun K hK => ?_)
 ·(try simp only [List.getElem_toArray]); (try simp only [List.getElem_cons_succ]); (try simp only [List.getElem_cons_zero])
  go_simp; done
 rotate_left
 ·(try simp only [List.getElem_toArray]); (try simp only [List.getElem_cons_succ]); (try simp only [List.getElem_cons_zero])
  first
   | (obtain ⟨f0, f1, -⟩ := h0 rfl; clear h0; go_simp; with_reducible rfl)
   | (clear h0; go_simp; with_reducible rfl)
 (try simp only [List.getElem_toArray]); (try simp only [List.getElem_cons_succ]); (try simp only [List.getElem_cons_zero])
 go_simp; refine hK _ ?_; clear hK K
 refine walk_rd rfl ?_ (fun _ => hS) ?_ (fun w0 h0 => ?_) (fun K hK => ?_)
 ·(try simp only [List.getElem_toArray]); (try simp only [List.getElem_cons_succ]); (try simp only [List.getElem_cons_zero])
  go_simp; done
 rotate_left
 ·(try simp only [List.getElem_toArray]); (try simp only [List.getElem_cons_succ]); (try simp only [List.getElem_cons_zero])
  first
   | (obtain ⟨f0, f1, -⟩ := h0 rfl; clear h0; go_simp; with_reducible rfl)
   | (clear h0; go_simp; with_reducible rfl)
 (try simp only [List.getElem_toArray]); (try simp only [List.getElem_cons_succ]); (try simp only [List.getElem_cons_zero])
 go_simp; refine hK _ ?_; clear hK K
 refine walk_rd rfl ?_ (fun _ => hS) ?_ (fun w0 h0 => ?_) (fun K hK => ?_)
 ·(try simp only [List.getElem_toArray]); (try simp only [List.getElem_cons_succ]); (try simp only [List.getElem_cons_zero])
  go_simp; done
 rotate_left
 ·(try simp only [List.getElem_toArray]); (try simp only [List.getElem_cons_succ]); (try simp only [List.getElem_cons_zero])
  first
   | (obtain ⟨f0, f1, -⟩ := h0 rfl; clear h0; go_simp; with_reducible rfl)
   | (clear h0; go_simp; with_reducible rfl)
 (try simp only [List.getElem_toArray]); (try simp only [List.getElem_cons_succ]); (try simp only [List.getElem_cons_zero])
 go_simp; refine hK _ ?_; clear hK K
 refine walk_rd rfl ?_ (fun _ => hS) ?_ (fun w0 h0 => ?_) (fun K hK => ?_)
 ·(try simp only [List.getElem_toArray]); (try simp only [List.getElem_cons_succ]); (try simp only [List.getElem_cons_zero])
  go_simp; done
 rotate_left
 ·(try simp only [List.getElem_toArray]); (try simp only [List.getElem_cons_succ]); (try simp only [List.getElem_cons_zero])
  first
   | (obtain ⟨f0, f1, -⟩ := h0 rfl; clear h0; go_simp; with_reducible rfl)
   | (clear h0; go_simp; with_reducible rfl)
 (try simp only [List.getElem_toArray]); (try simp only [List.getElem_cons_succ]); (try simp only [List.getElem_cons_zero])
 go_simp; refine hK _ ?_; clear hK K
 refine walk_rd rfl ?_ (fun _ => hS) ?_ (fun w0 h0 => ?_) (fun K hK => ?_)
 ·(try simp only [List.getElem_toArray]); (try simp only [List.getElem_cons_succ]); (try simp only [List.getElem_cons_zero])
  go_simp; done
 rotate_left
 ·(try simp only [List.getElem_toArray]); (try simp only [List.getElem_cons_succ]); (try simp only [List.getElem_cons_zero])
  first
   | (obtain ⟨f0, f1, -⟩ := h0 rfl; clear h0; go_simp; with_reducible rfl)
   | (clear h0; go_simp; with_reducible rfl)
 (try simp only [List.getElem_toArray]); (try simp only [List.getElem_cons_succ]); (try simp only [List.getElem_cons_zero])
 go_simp; refine hK _ ?_; clear hK K
 refine walk_rd rfl ?_ (fun _ => hS) ?_ (fun w0 h0 => ?_) (fun K hK => ?_)
 ·(try simp only [List.getElem_toArray]); (try simp only [List.getElem_cons_succ]); (try simp only [List.getElem_cons_zero])
  go_simp; done
 rotate_left
 ·(try simp only [List.getElem_toArray]); (try simp only [List.getElem_cons_succ]); (try simp only [List.getElem_cons_zero])
  first
   | (obtain ⟨f0, f1, -⟩ := h0 rfl; clear h0; go_simp; with_reducible rfl)
   | (clear h0; go_simp; with_reducible rfl)
 (try simp only [List.getElem_toArray]); (try simp only [List.getElem_cons_succ]); (try simp only [List.getElem_cons_zero])
 go_simp; refine hK _ ?_; clear hK K
 refine walk_rd rfl ?_ (fun _ => hS) ?_ (fun w0 h0 => ?_) (fun K hK => ?_)
 ·(try simp only [List.getElem_toArray]); (try simp only [List.getElem_cons_succ]); (try simp only [List.getElem_cons_zero])
  go_simp; done
 rotate_left
 ·(try simp only [List.getElem_toArray]); (try simp only [List.getElem_cons_succ]); (try simp only [List.getElem_cons_zero])
  first
   | (obtain ⟨f0, f1, -⟩ := h0 rfl; clear h0; go_simp; with_reducible rfl)
   | (clear h0; go_simp; with_reducible rfl)
 (try simp only [List.getElem_toArray]); (try simp only [List.getElem_cons_succ]); (try simp only [List.getElem_cons_zero])
 go_simp; refine hK _ ?_; clear hK K
 refine walk_rd rfl ?_ (fun _ => hS) ?_ (fun w0 h0 => ?_) (fun K hK => ?_)
 ·(try simp only [List.getElem_toArray]); (try simp only [List.getElem_cons_succ]); (try simp only [List.getElem_cons_zero])
  go_simp; done
 rotate_left
 ·(try simp only [List.getElem_toArray]); (try simp only [List.getElem_cons_succ]); (try simp only [List.getElem_cons_zero])
  first
   | (obtain ⟨f0, f1, -⟩ := h0 rfl; clear h0; go_simp; with_reducible rfl)
   | (clear h0; go_simp; with_reducible rfl)
 (try simp only [List.getElem_toArray]); (try simp only [List.getElem_cons_succ]); (try simp only [List.getElem_cons_zero])
 go_simp; refine hK _ ?_; clear hK K
 refine walk_rd rfl ?_ (fun _ => hS) ?_ (fun w0 h0 => ?_) (fun K hK => ?_)
 ·(try simp only [List.getElem_toArray]); (try simp only [List.getElem_cons_succ]); (try simp only [List.getElem_cons_zero])
  go_simp; done
 rotate_left
 ·(try simp only [List.getElem_toArray]); (try simp only [List.getElem_cons_succ]); (try simp only [List.getElem_cons_zero])
  first
   | (obtain ⟨f0, f1, -⟩ := h0 rfl; clear h0; go_simp; with_reducible rfl)
   | (clear h0; go_simp; with_reducible rfl)
 (try simp only [List.getElem_toArray]); (try simp only [List.getElem_cons_succ]); (try simp only [List.getElem_cons_zero])
 go_simp; refine hK _ ?_; clear hK K
 refine walk_one (go_yes rfl ?_ (fun K hK => ?_))
 ·(try simp only [List.getElem_toArray]); (try simp only [List.getElem_cons_succ]); (try simp only [List.getElem_cons_zero])
  go_simp; done
 go_wp2_with fail
 refine ((HbL.out w3.drew ((Mod.refl _ w3).drew))).mono ?_
 rintro e w4 ⟨rfl, rfl⟩
 refine hK _ _ (fun _ h => h) ?_
 clear hK K
 refine walk_one (go_yes rfl ?_ (fun K hK => ?_))
 ·(try simp only [List.getElem_toArray]); (try simp only [List.getElem_cons_succ]); (try simp only [List.getElem_cons_zero])
  go_simp; done
 go_wp2_with fail
 refine ((Hat.out w3.drew _ ((Mod.refl _ w3).drew))).mono ?_
 rintro e w4 ⟨v4, rfl, hru, -, hm4⟩
 rw [clamp_self] at hru
 have hm34 : Mod (fun _ => False) w3 w4 := ((Mod.refl _ w3).drew).trans hm4 (fun _ _ h => h)
 have hS4 := HFS.out w4 hm34
 refine hK _ _ (fun _ _ => hS4) ?_
 clear hK K hS
 have hmp := may_publish (fun r => filMatch r.sc r.cs es el) w4 v4 (atR l B.L.length) hru (by have := atR_len l B.L.length; omega) t who es ea el.length ec
  (fun r hr wx hwx => filter_match wx r.sc r.cv r.cs ((hru.ok r hr).mod hwx).rd (hru.ok r hr).len (hru.ok r hr).sc (fun c hc => ((hru.ok r hr).cname c hc).2) es (.slice ea el.length ec) el (Hx'.out wx (Hwm3.out.trans (hm34.trans hwx (fun _ _ h => h)) (fun _ _ h => h))) (by omega) (evRight_rises HR1.out) (by omega) (fun a ha => by
    have := (ev_each HR1.out ha).2
    unfold V.right at this
    simp only [Bool.and_eq_true, decide_eq_true_eq] at this
    omega))
 rw [← mayP_ru, atR_pru, HlB.out, HR4.out] at hmp
 have hwm4 := Hwm3.out.trans hm34 (fun _ _ h => h)
 have Hmp := Lib.hid hmp
 have Hru := Lib.hid hru
 have Hwm4 := Lib.hid hwm4
 have HS4 := Lib.hid hS4
 have Hm34 := Lib.hid hm34
 clear hmp hru hwm4 hS4 hm34 hm4
 refine walk_one (go_yes rfl ?_ (fun K hK => ?_))
 ·(try simp only [List.getElem_toArray]); (try simp only [List.getElem_cons_succ]); (try simp only [List.getElem_cons_zero])
  go_simp; done
 go_wp2_with fail
 refine Hmp.out.mono ?_
 rintro e w5 ⟨rfl, hm5⟩
 have hwm5 := Hwm4.out.trans hm5 (fun _ _ h => h)
 have hm35 := Hm34.out.trans hm5 (fun _ _ h => h)
 refine hK _ _ (fun h => absurd h (by decide)) ?_
 clear hK K hm5
 refine walk_one (go_yes rfl ?_ (fun K hK => ?_))
 ·(try simp only [List.getElem_toArray]); (try simp only [List.getElem_cons_succ]); (try simp only [List.getElem_cons_zero])
  go_simp; done
 (try simp only [List.getElem_toArray]); (try simp only [List.getElem_cons_succ]); (try simp only [List.getElem_cons_zero])
 go_simp
 refine hK _ _ (fun h => absurd h (by decide)) ?_
 clear hK K
 refine walk_one (go_yes rfl ?_ (fun K hK => ?_))
 ·(try simp only [List.getElem_toArray]); (try simp only [List.getElem_cons_succ]); (try simp only [List.getElem_cons_zero])
  go_simp; done
 (try simp only [List.getElem_toArray]); (try simp only [List.getElem_cons_succ]); (try simp only [List.getElem_cons_zero])
 go_simp
 refine hK _ _ (fun h => absurd h (by decide)) ?_
 clear hK K
 refine walk_nil ?_
 cases R4 with
 | false =>
  have Hwm5 := Lib.hid hwm5
  clear hwm5 hm35
  go_wp2
  go_ret
  exact ⟨by rw [HR.out, HR3.out, HR4.out]; rfl, Hwm5.out⟩
 | true =>
 have heo : EvOk es el := ⟨scRight_size HR2.out, by have := HR1.out; unfold evRight at this; simp only [Bool.and_eq_true, decide_eq_true_eq] at this; exact this.2, evRight_rises HR1.out, fun a ha => by
  have := ev_each HR1.out ha
  refine ⟨nm_size this.1, ?_⟩
  have h3 := this.2
  unfold V.right at h3
  simp only [Bool.and_eq_true, decide_eq_true_eq] at h3
  exact h3.2.2⟩
 have hFS5 : ∀ wx, Mod (fun _ => False) w5 wx → PbS wa w.heap.size es ea el.length ec wx := fun wx hm => HFS.out wx (hm35.trans hm (fun _ _ h => h))
 have hL5 : ∀ wx, Mod (fun _ => False) w5 wx → Calls Tryz.prog 15 #[.pointer (some ⟨g, 0, none⟩)] wx fun e w' => e = .returned (.int .i64 B.L.length) ∧ wx = w' := fun wx hm => HbL.out wx (hm35.trans hm (fun _ _ h => h))
 have hro : ∀ wx, Mod (fun _ => False) w5 wx → Calls Tryz.prog 56 #[.pointer (some ⟨g, 0, none⟩), o, .int .i64 t, .int .i64 (-1), .agg #[.int .i64 3, .int .i64 0, .int .i64 0, .int .i64 0, .string ⟨#[]⟩, .int .i64 0, .string ⟨#[]⟩, .slice none 0 0, .string ⟨#[]⟩, .int .i64 0,
  .string ⟨#[]⟩, .slice none 0 0, .string es, .slice ea el.length ec, .int .i64 B.L.length, .string who, .int .i64 ser]] wx fun e w' => e = .returned (.tuple #[]) ∧ Mod (fun _ => False) w w' := fun wx hm => by
  have hm5 := hwm5.trans hm (fun _ _ h => h)
  exact (route_none wx ow c g id near B (Hbr.out wx hm5) hL hnl Hnw.out t ht HI.out HM.out hT hN o (-1) ⟨⟨3, 0, PRu.zero, ⟨#[]⟩, [], es, el, B.L.length, who, ser⟩, none, 0, none, 0, ea, ec⟩ (Hx'.out wx hm5) heo).mono fun e w' ⟨he, hm'⟩ => ⟨he, hm5.trans hm' (fun _ _ h => h)⟩
 have Heo := Lib.hid heo
 have HFS5 := Lib.hid hFS5
 have HL5 := Lib.hid hL5
 have Hro := Lib.hid hro
 have Hwm5 := Lib.hid hwm5
 clear heo hFS5 hL5 hro hwm5 hm35
 go_wp2_with fail
 have hS : PbS wa w.heap.size es ea el.length ec w5.drew := HFS5.out _ ((Mod.refl _ w5).drew)
 refine wp_region_script [.rd 0, .rd 1, .rd 2, .rd 3, .rd 4, .rd 5, .rd 6, .rd 8, .rd 9, .go 7, .go 10, .go 11] [0, 1, 2, 3, 4, 5, 6, 7, 8, 9] (PbS wa w.heap.size es ea el.length ec) (by kernel_rfl) (by kernel_rfl) (fun _ _ d _ _ h => (by cases d <;> exact h)) ?_
 refine walk_rd rfl ?_ (fun _ => hS) ?_ (fun w0 h0 => ?_) (fun K hK => ?_)
 ·(try simp only [List.getElem_toArray]); (try simp only [List.getElem_cons_succ]); (try simp only [List.getElem_cons_zero])
  go_simp; done
 rotate_left
 ·(try simp only [List.getElem_toArray]); (try simp only [List.getElem_cons_succ]); (try simp only [List.getElem_cons_zero])
  first
   | (obtain ⟨f0, f1, -⟩ := h0 rfl; clear h0; go_simp; with_reducible rfl)
   | (clear h0; go_simp; with_reducible rfl)
 (try simp only [List.getElem_toArray]); (try simp only [List.getElem_cons_succ]); (try simp only [List.getElem_cons_zero])
 go_simp; refine hK _ ?_; clear hK K
 refine walk_rd rfl ?_ (fun _ => hS) ?_ (fun w0 h0 => ?_) (fun K hK => ?_)
 ·(try simp only [List.getElem_toArray]); (try simp only [List.getElem_cons_succ]); (try simp only [List.getElem_cons_zero])
  go_simp; done
 rotate_left
 ·(try simp only [List.getElem_toArray]); (try simp only [List.getElem_cons_succ]); (try simp only [List.getElem_cons_zero])
  first
   | (obtain ⟨f0, f1, -⟩ := h0 rfl; clear h0; go_simp; with_reducible rfl)
   | (clear h0; go_simp; with_reducible rfl)
 (try simp only [List.getElem_toArray]); (try simp only [List.getElem_cons_succ]); (try simp only [List.getElem_cons_zero])
 go_simp; refine hK _ ?_; clear hK K
 refine walk_rd rfl ?_ (fun _ => hS) ?_ (fun w0 h0 => ?_) (fun K hK => ?_)
 ·(try simp only [List.getElem_toArray]); (try simp only [List.getElem_cons_succ]); (try simp only [List.getElem_cons_zero])
  go_simp; done
 rotate_left
 ·(try simp only [List.getElem_toArray]); (try simp only [List.getElem_cons_succ]); (try simp only [List.getElem_cons_zero])
  first
   | (obtain ⟨f0, f1, -⟩ := h0 rfl; clear h0; go_simp; with_reducible rfl)
   | (clear h0; go_simp; with_reducible rfl)
 (try simp only [List.getElem_toArray]); (try simp only [List.getElem_cons_succ]); (try simp only [List.getElem_cons_zero])
 go_simp; refine hK _ ?_; clear hK K
 refine walk_rd rfl ?_ (fun _ => hS) ?_ (fun w0 h0 => ?_) (fun K hK => ?_)
 ·(try simp only [List.getElem_toArray]); (try simp only [List.getElem_cons_succ]); (try simp only [List.getElem_cons_zero])
  go_simp; done
 rotate_left
 ·(try simp only [List.getElem_toArray]); (try simp only [List.getElem_cons_succ]); (try simp only [List.getElem_cons_zero])
  first
   | (obtain ⟨f0, f1, -⟩ := h0 rfl; clear h0; go_simp; with_reducible rfl)
   | (clear h0; go_simp; with_reducible rfl)
 (try simp only [List.getElem_toArray]); (try simp only [List.getElem_cons_succ]); (try simp only [List.getElem_cons_zero])
 go_simp; refine hK _ ?_; clear hK K
 refine walk_rd rfl ?_ (fun _ => hS) ?_ (fun w0 h0 => ?_) (fun K hK => ?_)
 ·(try simp only [List.getElem_toArray]); (try simp only [List.getElem_cons_succ]); (try simp only [List.getElem_cons_zero])
  go_simp; done
 rotate_left
 ·(try simp only [List.getElem_toArray]); (try simp only [List.getElem_cons_succ]); (try simp only [List.getElem_cons_zero])
  first
   | (obtain ⟨f0, f1, -⟩ := h0 rfl; clear h0; go_simp; with_reducible rfl)
   | (clear h0; go_simp; with_reducible rfl)
 (try simp only [List.getElem_toArray]); (try simp only [List.getElem_cons_succ]); (try simp only [List.getElem_cons_zero])
 go_simp; refine hK _ ?_; clear hK K
 refine walk_rd rfl ?_ (fun _ => hS) ?_ (fun w0 h0 => ?_) (fun K hK => ?_)
 ·(try simp only [List.getElem_toArray]); (try simp only [List.getElem_cons_succ]); (try simp only [List.getElem_cons_zero])
  go_simp; done
 rotate_left
 ·(try simp only [List.getElem_toArray]); (try simp only [List.getElem_cons_succ]); (try simp only [List.getElem_cons_zero])
  first
   | (obtain ⟨f0, f1, -⟩ := h0 rfl; clear h0; go_simp; with_reducible rfl)
   | (clear h0; go_simp; with_reducible rfl)
 (try simp only [List.getElem_toArray]); (try simp only [List.getElem_cons_succ]); (try simp only [List.getElem_cons_zero])
 go_simp; refine hK _ ?_; clear hK K
 refine walk_rd rfl ?_ (fun _ => hS) ?_ (fun w0 h0 => ?_) (fun K hK => ?_)
 ·(try simp only [List.getElem_toArray]); (try simp only [List.getElem_cons_succ]); (try simp only [List.getElem_cons_zero])
  go_simp; done
 rotate_left
 ·(try simp only [List.getElem_toArray]); (try simp only [List.getElem_cons_succ]); (try simp only [List.getElem_cons_zero])
  first
   | (obtain ⟨f0, f1, -⟩ := h0 rfl; clear h0; go_simp; with_reducible rfl)
   | (clear h0; go_simp; with_reducible rfl)
 (try simp only [List.getElem_toArray]); (try simp only [List.getElem_cons_succ]); (try simp only [List.getElem_cons_zero])
 go_simp; refine hK _ ?_; clear hK K
 refine walk_rd rfl ?_ (fun _ => hS) ?_ (fun w0 h0 => ?_) (fun K hK => ?_)
 ·(try simp only [List.getElem_toArray]); (try simp only [List.getElem_cons_succ]); (try simp only [List.getElem_cons_zero])
  go_simp; done
 rotate_left
 ·(try simp only [List.getElem_toArray]); (try simp only [List.getElem_cons_succ]); (try simp only [List.getElem_cons_zero])
  first
   | (obtain ⟨f0, f1, -⟩ := h0 rfl; clear h0; go_simp; with_reducible rfl)
   | (clear h0; go_simp; with_reducible rfl)
 (try simp only [List.getElem_toArray]); (try simp only [List.getElem_cons_succ]); (try simp only [List.getElem_cons_zero])
 go_simp; refine hK _ ?_; clear hK K
 refine walk_rd rfl ?_ (fun _ => hS) ?_ (fun w0 h0 => ?_) (fun K hK => ?_)
 ·(try simp only [List.getElem_toArray]); (try simp only [List.getElem_cons_succ]); (try simp only [List.getElem_cons_zero])
  go_simp; done
 rotate_left
 ·(try simp only [List.getElem_toArray]); (try simp only [List.getElem_cons_succ]); (try simp only [List.getElem_cons_zero])
  first
   | (obtain ⟨f0, f1, -⟩ := h0 rfl; clear h0; go_simp; with_reducible rfl)
   | (clear h0; go_simp; with_reducible rfl)
 (try simp only [List.getElem_toArray]); (try simp only [List.getElem_cons_succ]); (try simp only [List.getElem_cons_zero])
 go_simp; refine hK _ ?_; clear hK K
 refine walk_one (go_yes rfl ?_ (fun K hK => ?_))
 ·(try simp only [List.getElem_toArray]); (try simp only [List.getElem_cons_succ]); (try simp only [List.getElem_cons_zero])
  go_simp; done
 go_wp2_with fail
 refine ((HL5.out w5.drew ((Mod.refl _ w5).drew))).mono ?_
 rintro e w6 ⟨rfl, rfl⟩
 refine hK _ _ (fun _ h => h) ?_
 clear hK K
 refine walk_one (go_yes rfl ?_ (fun K hK => ?_))
 ·(try simp only [List.getElem_toArray]); (try simp only [List.getElem_cons_succ]); (try simp only [List.getElem_cons_zero])
  go_simp; done
 (try simp only [List.getElem_toArray]); (try simp only [List.getElem_cons_succ]); (try simp only [List.getElem_cons_zero])
 go_simp
 refine hK _ _ (fun h => absurd h (by decide)) ?_
 clear hK K
 refine walk_one (go_yes rfl ?_ (fun K hK => ?_))
 ·(try simp only [List.getElem_toArray]); (try simp only [List.getElem_cons_succ]); (try simp only [List.getElem_cons_zero])
  go_simp; done
 go_wp2_with fail
 refine (Hro.out w5.drew ((Mod.refl _ w5).drew)).mono ?_
 rintro e w7 ⟨rfl, hm7⟩
 refine hK _ _ (fun h => absurd h (by decide)) ?_
 clear hK K hS
 refine walk_nil ?_
 have Hm7 := Lib.hid hm7
 clear hm7
 go_wp2
 go_ret
 exact ⟨by rw [HR.out, HR3.out, HR4.out]; rfl, Hm7.out⟩
end Go.Proofs.YtaenebdppkjhoaaGreatDoor
namespace Go.Proofs.YtaenebdppkjhoaaGreatDoor
set_option maxRecDepth 20000
open Go.RowKit
theorem goneP_succ {l : List Ru} {k : Nat} {y : Ru} (h : l[k]? = some y) (i : Int) : goneP (l.map Ru.pru) i (k + 1) = (goneP (l.map Ru.pru) i k || (decide (y.kind = 4) && decide (y.at_ = i))) := by
 unfold goneP
 rw [List.take_add_one, List.getElem?_map, h, List.any_append]
 simp [Ru.pru]
theorem goneP_zero (l : List PRu) (i : Int) : goneP l i 0 = false := rfl
set_option maxHeartbeats 4000000 in
theorem rat_at (w : World) (a : Option Addr) (cap : Nat) (l : List Ru) (hv : RuSl w (.slice a l.length cap) l) (hll : l.length ≤ 1000) :
 Calls Tryz.prog 18 #[.slice a l.length cap, .int .i64 l.length] w (AtPost w l l.length) := by
 have hcap : l.length ≤ cap := by obtain ⟨-, a', c', h, h2, -⟩ := hv.rd; cases h; exact h2
 obtain ⟨n, hn⟩ : ∃ n, l.length = n := ⟨_, rfl⟩
 have hcap' : (n : Int) ≤ cap := by omega
 have hn0 : (0 : Int) ≤ n := by omega
 have hn1000 : (n : Int) ≤ 1000 := by omega
 have htk : l.take n = l := by rw [← hn, List.take_length]
 have hv' : RuSl w (.slice a n cap) l := by rw [← hn]; exact hv
 rw [hn]
 have hv := hv'
 have Hv := Lib.hid hv
 have Hn := Lib.hid hn
 have Htk := Lib.hid htk
 clear hv hn htk hcap hv' hll
 go_enter Tryz.func18, Tryz.ntmps18
 go_wp2_with fail
 go_loopw [5, 6] (fun ov i wr => ∃ (j : Nat) (oa : Option Addr) (oc : Nat), i = .int .i64 j ∧ j ≤ n ∧ ov = .slice oa (atJ l n j).length oc ∧ OwnSl wr 35 8 (.slice oa (atJ l n j).length oc) (atJ l n j).length (rus (atJ l n j)) ∧ (∀ b, (Value.slice oa (atJ l n j).length oc).ownBlock = some b → w.heap.size ≤ b) ∧ Mod (fun _ => False) w wr) (fun _ i _ => n - (intOf i).toNat)
 case atStart => exact ⟨0, none, 0, rfl, Nat.zero_le _, rfl, OwnSl.nil _ _ _, fun b hb => (by cases hb), Mod.refl _ _⟩
 case round =>
  obtain ⟨j, oa, oc, rfl, hj, rfl, how, hob, hmr⟩ := hrel
  by_cases hlt : j < n
  ·have hlt' : (j : Int) < n := by omega
   obtain ⟨x, hxj⟩ : ∃ x, l[j]? = some x := ⟨_, List.getElem?_eq_getElem (by rw [Hn.out]; exact hlt)⟩
   have hvr := Hv.out.mod hmr
   have hvr2 : RuSl wr (.slice a l.length cap) l := by rw [Hn.out]; exact hvr
   obtain ⟨g2, off, rfl, hf⟩ : ∃ g2 off, a = some ⟨g2, off, none⟩ ∧ CellsAt wr g2 (off + j * 8) x.cells := rd_rule hvr2 hxj
   have c0 : wr.cell? ⟨g2, off + j * 8, none⟩ = some (.int .i64 x.kind) := hf 0 _ rfl
   have hsu := atJ_succ (n := n) (show (l.take n)[j]? = some x by rw [Htk.out]; exact hxj)
   have hjl := atJ_len l n j
   obtain ⟨acc, hacc⟩ : ∃ acc, atJ l n j = acc := ⟨_, rfl⟩
   obtain ⟨nx, hnx⟩ : ∃ nx, atJ l n (j + 1) = nx := ⟨_, rfl⟩
   obtain ⟨G, hG⟩ : ∃ G, goneP (l.map Ru.pru) j n = G := ⟨_, rfl⟩
   obtain ⟨k4, hk4⟩ : ∃ b, decide (x.kind = 4) = b := ⟨_, rfl⟩
   have hne4 : (x.kind != 4) = !k4 := by rw [← hk4]; by_cases h : x.kind = 4 <;> simp [h]
   rw [hacc] at how hob hsu hjl ⊢
   rw [hnx, hG, hk4] at hsu
   have Hmr := Lib.hid hmr
   have Hxj := Lib.hid hxj
   have Hf := Lib.hid hf
   have Hsu := Lib.hid hsu
   have How := Lib.hid how
   have Hob := Lib.hid hob
   have Hnx := Lib.hid hnx
   have Hacc := Lib.hid hacc
   have Hvr2 := Lib.hid hvr2
   have HG := Lib.hid hG
   have Hk4 := Lib.hid hk4
   clear hmr hxj hf hsu how hob hnx hacc hvr2 hG hk4 hvr
   go_wp2_with fail
   go_loopw [7, 8] (fun kv kk wi => ∃ k : Nat, kk = .int .i64 k ∧ k ≤ n ∧ kv = .bool (!(k4 || goneP (l.map Ru.pru) j k)) ∧ wi = wr) (fun _ kk _ => n - (intOf kk).toNat)
   case atStart => exact ⟨0, rfl, Nat.zero_le _, by rw [goneP_zero, Bool.or_false], rfl⟩
   case round =>
    obtain ⟨k, rfl, hk, rfl, rfl⟩ := hrel
    by_cases hkt : k < n
    ·have hkt' : (k : Int) < n := by omega
     obtain ⟨y, hyk⟩ : ∃ y, l[k]? = some y := ⟨_, List.getElem?_eq_getElem (by rw [Hn.out]; exact hkt)⟩
     obtain ⟨g3, off3, he3, hf3⟩ := rd_rule Hvr2.out hyk
     cases he3
     have d0 : wr.cell? ⟨g2, off + k * 8, none⟩ = some (.int .i64 y.kind) := hf3 0 _ rfl
     have d7 : wr.cell? ⟨g2, off + k * 8 + 7, none⟩ = some (.int .i64 y.at_) := hf3 7 _ rfl
     have hgs := goneP_succ hyk j
     have Hgs := Lib.hid hgs
     have Hyk := Lib.hid hyk
     clear hgs hyk hf3
     by_cases hy4 : y.kind = 4
     ·have e4 : (y.kind == 4) = true := by simp [hy4]
      by_cases hya : y.at_ = j
      ·have ea : (y.at_ == (j : Int)) = true := by simp [hya]
       have hgs2 : goneP (l.map Ru.pru) j (k + 1) = true := by rw [Hgs.out, decide_eq_true hy4, decide_eq_true hya]; simp
       have Hgs2 := Lib.hid hgs2
       clear hgs2 hy4 hya
       go_wp2_with fail
       go_roundw
       case rel => exact ⟨k + 1, by go_num, hkt, by rw [Hgs2.out, Bool.or_true]; rfl, trivial⟩
       case measure => simp [intOf]; omega
      ·have ea : (y.at_ == (j : Int)) = false := by simp [hya]
       have hgs2 : goneP (l.map Ru.pru) j (k + 1) = goneP (l.map Ru.pru) j k := by rw [Hgs.out, decide_eq_true hy4, decide_eq_false hya]; simp
       have Hgs2 := Lib.hid hgs2
       clear hgs2 hy4 hya
       go_wp2_with fail
       go_roundw
       case rel => exact ⟨k + 1, by go_num, hkt, by rw [Hgs2.out], trivial⟩
       case measure => simp [intOf]; omega
     ·have e4 : (y.kind == 4) = false := by simp [hy4]
      have hgs2 : goneP (l.map Ru.pru) j (k + 1) = goneP (l.map Ru.pru) j k := by rw [Hgs.out, decide_eq_false hy4]; simp
      have Hgs2 := Lib.hid hgs2
      clear hgs2 hy4
      go_wp2_with fail
      go_roundw
      case rel => exact ⟨k + 1, by go_num, hkt, by rw [Hgs2.out], trivial⟩
      case measure => simp [intOf]; omega
    ·obtain rfl : k = n := by omega
     obtain ⟨q, hq⟩ : ∃ q, (k4 || G) = q := ⟨_, rfl⟩
     rw [HG.out, hq]
     have hsu2 := Hsu.out
     rw [hq] at hsu2
     cases q with
     | true =>
      have hn2 : nx = acc := by rw [hsu2]; simp
      have Hn2 := Lib.hid hn2
      clear hn2 hsu2 hq
      go_wp2_with fail
      go_roundw
      case rel => exact ⟨j + 1, oa, oc, by go_num, hlt, by rw [Hnx.out, Hn2.out], by rw [Hnx.out, Hn2.out]; exact How.out, by rw [Hnx.out, Hn2.out]; exact Hob.out, Hmr.out⟩
      case measure => simp [intOf]; omega
     | false =>
      have hn2 : nx = acc ++ [x] := by rw [hsu2]; rfl
      obtain ⟨wS, hwS⟩ : ∃ wS : World, wr.alloc (.cells x.cells.toArray 35) = wS := ⟨_, rfl⟩
      have hmwS : Mod (fun _ => False) wr wS := hwS ▸ (Mod.refl (fun _ => False) wr).alloc _
      have hgwS := heap_alloc_new wr (.cells x.cells.toArray 35)
      rw [hwS] at hgwS
      have hzwS : wS.heap.size = wr.heap.size + 1 := by rw [← hwS]; simp
      have hrd : RdSl wS 8 (.slice (some ⟨wr.heap.size, 0, none⟩) 1 1) 1 x.cells := hwS ▸ RdSl.one wr x.cells 35 rfl
      have hwS' : wr.alloc (.cells #[.int .i64 x.kind, .int .i64 x.tenant, .string x.who, .int .i64 x.broker, .string x.sc, .slice x.ca x.cs.length x.cc, .string x.name, .int .i64 x.at_] 35) = wS := hwS
      have hownS := How.out.mod hmwS (fun _ _ h => h)
      have hm0S := Hmr.out.trans hmwS (fun _ _ h => h)
      have hone : ∀ u ∈ x.cells, u.oneCell' = true := fun u hu => List.all_eq_true.1 (show x.cells.all (·.oneCell') = true from rfl) u hu
      have hlen : nx.length = acc.length + 1 := by rw [hn2]; simp
      have hrus : rus acc ++ x.cells = rus nx := by rw [hn2, rus_append, rus_cons]; simp [rus]
      have Hrd := Lib.hid hrd
      have HwS' := Lib.hid hwS'
      have HownS := Lib.hid hownS
      have Hm0S := Lib.hid hm0S
      have Hone := Lib.hid hone
      have Hlen := Lib.hid hlen
      have Hrus := Lib.hid hrus
      clear hrd hwS' hownS hm0S hone hlen hrus hwS hmwS hgwS hzwS hn2 hsu2 hq
      go_wp2_with (first | ((with_reducible refine wpList_load_lit 35 (.tmp 56) ?_); refine ⟨g2, off + j * 8, rfl, [.int .i64 x.kind, .int .i64 x.tenant, .string x.who, .int .i64 x.broker, .string x.sc, .slice x.ca x.cs.length x.cc, .string x.name, .int .i64 x.at_], Hf.out, by kernel_rfl, by kernel_rfl, ?_⟩) | (rw [show wr.alloc _ = wS from HwS'.out]) | ((with_reducible refine wpList_append_lit (.tmp 53) (.tmp 58) 22 ?_); refine ⟨rfl, 35, 8, 104, rules_T2, .slice oa acc.length oc, acc.length, rus acc, rfl, HownS.out, _, 1, x.cells, rfl, Hrd.out, Hone.out, by omega, by unfold maxLen; omega, ?_⟩; intro ad cap2 w4 hA; have HA := Lib.hid hA; clear hA) | fail)
      have hown5 := HA.out.1
      rw [Hrus.out, ← Hlen.out] at hown5
      have hfr5 : ∀ b, (Value.slice ad nx.length cap2).ownBlock = some b → w.heap.size ≤ b := fun b hb => by
       rw [Hlen.out] at hb
       rcases HA.out.2.2 with h | ⟨k, h, hk⟩
       ·exact Hob.out b (by rw [← h]; exact hb)
       ·have h2 : (Value.slice ad (acc.length + 1) cap2).ownBlock = some b := hb
        rw [h] at h2; cases h2
        have := Hm0S.out.size
        omega
      have hm05 : Mod (fun _ => False) w w4 := Hm0S.out.upon HA.out.2.1 (fun b hb => .inr (Hob.out b hb))
      have Hown5 := Lib.hid hown5
      have Hfr5 := Lib.hid hfr5
      have Hm05 := Lib.hid hm05
      clear hown5 hfr5 hm05 HA
      go_wp2_with fail
      go_roundw
      case rel => exact ⟨j + 1, ad, cap2, by go_num, hlt, by rw [Hnx.out, Hlen.out], by rw [Hnx.out]; exact Hown5.out, by rw [Hnx.out]; exact Hfr5.out, Hm05.out⟩
      case measure => simp [intOf]; omega
  ·obtain rfl : j = n := by omega
   have he := atJ_all l (n := j) (by rw [Hn.out]; omega)
   rw [he] at how hob ⊢
   have How := Lib.hid how
   have Hob := Lib.hid hob
   have Hmr := Lib.hid hmr
   clear how hob hmr
   go_wp2
   go_ret
   exact ⟨_, rfl, How.out, Hob.out, Hmr.out⟩
end Go.Proofs.YtaenebdppkjhoaaGreatDoor
namespace Go.Proofs.YtaenebdppkjhoaaGreatDoor
set_option maxRecDepth 20000
open Go.RowKit
theorem addP_mem {L : List PRu} {q p : PRu} (h : p ∈ addP L q) : p ∈ L ∨ (p = q.kept ∧ q.rightB = true) := by
 unfold addP at h
 split at h
 ·rename_i hc
  rcases List.mem_append.1 h with h | h
  ·exact .inl h
  ·refine .inr ⟨List.mem_singleton.1 h, ?_⟩
   cases hq : q.rightB with
   | true => rfl
   | false => unfold chkP at hc; rw [if_pos hq] at hc; cases hc
 ·exact .inl h
theorem learnP_home (l : List PRu) : ∀ p ∈ learnP l, p.kind = 0 → 0 ≤ p.broker := by
 unfold learnP
 suffices ∀ (l L : List PRu), (∀ p ∈ L, p.kind = 0 → 0 ≤ p.broker) → ∀ p ∈ l.foldl addP L, p.kind = 0 → 0 ≤ p.broker from this l [] (fun p hp => by cases hp)
 intro l
 induction l with
 | nil => exact fun L h => h
 | cons q l ih =>
  intro L h
  refine ih (addP L q) fun p hp hk => ?_
  rcases addP_mem hp with hp | ⟨rfl, hr⟩
  ·exact h p hp hk
  ·have h1 : q.kept.kind = q.kind := by unfold PRu.kept; split <;> rfl
   have h2 : q.kept.broker = q.broker := by unfold PRu.kept; split <;> rfl
   rw [h2]
   exact (Ru.right_is hr).1 (h1.symm.trans hk)
theorem rmayp (w : World) (v : Value) (A : List Ru) (hv : RuSl w v A) (hA : A.length ≤ 1000) (hb : ∀ r ∈ A, r.kind = 0 → 0 ≤ r.broker) (t : Int) (W es : ByteArray) (ea : Option Addr) (ec : Nat) (el : List Att) (hx : RdSl w 6 (.slice ea el.length ec) el.length (atts el))
 (he : EvOk es el) : Calls Tryz.prog 22 #[v, .int .i64 t, .string W, .agg #[.string es, .slice ea el.length ec]] w fun e w' => e = .returned (.bool (mayP (A.map Ru.pru) t W es el)) ∧ Mod (fun _ => False) w w' := by
 rw [mayP_ru]
 refine rmay_publish t W (fun r => filMatch r.sc r.cs es el) w v A hv (by omega) (fun r hr ho => hb r hr (Ru.of_kind ho)) es ea el.length ec (fun r hr wx hwx ho => ?_)
 have hr2 := (hv.mod hwx).ok r hr
 have h := rmatch_at wx r.sc r.cv r.cs hr2.rd hr2.len hr2.sc (fun c hc => (hr2.cname c hc).2) es (.slice ea el.length ec) el (hx.mod hwx (fun _ _ h => h)) (by have := he.len; omega) (by have := he.es; omega) (fun a ha => by have := (he.each a ha).2; omega)
 have e : (underB es r.sc && r.cs.all fun c => rMatchC c el) = filMatch r.sc r.cs es el := by
  unfold filMatch
  rw [Bool.and_comm]
  congr 1
  have : (fun c => rMatchC c el) = fun c : Cnd => c.matchB el := funext fun c => rmatch_eq he.ris c
  rw [this]
 rw [e] at h
 exact h
theorem EvOk.of {es : ByteArray} {el : List Att} (h1 : evRight el = true) (h2 : scRight es = true) : EvOk es el :=
 ⟨scRight_size h2, by have := h1; unfold evRight at this; simp only [Bool.and_eq_true, decide_eq_true_eq] at this; exact this.2, evRight_rises h1, fun a ha => by
  have := ev_each h1 ha
  refine ⟨nm_size this.1, ?_⟩
  have h3 := this.2
  unfold V.right at h3
  simp only [Bool.and_eq_true, decide_eq_true_eq] at h3
  exact h3.2.2⟩
set_option maxRecDepth 20000 in
set_option maxHeartbeats 8000000 in
theorem bpublishes_walk (w : World) (hl0 : Laid w w) (v : Value) (l : List Ru) (hv : RuSl w v l) (hll : l.length ≤ 9223372036854775807) (hin : ∀ r ∈ l, RuIn r) (x y : Int) (es : ByteArray) (av : Value) (q : List Att) (hq : RdSl w 6 av q.length (atts q)) (hql : q.length ≤ 9223372036854775807)
 (hes : es.size ≤ 9223372036854775807) (hqn : ∀ a ∈ q, a.name.size ≤ 140737488355328 ∧ a.v.text.size ≤ 140737488355328) :
 Calls Tryz.prog 4 #[v, .agg #[.int .i64 x, .int .i64 y], .agg #[.string es, av]] w fun e w' => e = .returned (.bool true) ∧ Mod (fun _ => False) w w' := by
 obtain ⟨a, cap, rfl, hcap⟩ : ∃ a c, v = .slice a l.length c ∧ l.length ≤ c := by obtain ⟨-, a, c, h, h2, -⟩ := hv.rd; exact ⟨a, c, h, h2⟩
 obtain ⟨qa, qc, rfl, hqc⟩ : ∃ a c, av = .slice a q.length c ∧ q.length ≤ c := by obtain ⟨-, a, c, h, h2, -⟩ := hq; exact ⟨a, c, h, h2⟩
 have hes' : (es.size : Int) ≤ 9223372036854775807 := by omega
 have hql' : (q.length : Int) ≤ 9223372036854775807 := by omega
 have hqc' : (q.length : Int) ≤ qc := by omega
 obtain ⟨wa, hwa⟩ : ∃ wa : World, w.alloc (.cells #[.int .i64 x, .int .i64 y] 65) = wa := ⟨_, rfl⟩
 have hmwa : Mod (fun _ => False) w wa := hwa ▸ (Mod.refl (fun _ => False) w).alloc _
 have hgwa := heap_alloc_new w (.cells #[.int .i64 x, .int .i64 y] 65)
 rw [hwa] at hgwa
 have hzwa : wa.heap.size = w.heap.size + 1 := by rw [← hwa]; simp
 obtain ⟨wb, hwb⟩ : ∃ wb : World, wa.alloc (.cells #[.string es, .slice qa q.length qc] 46) = wb := ⟨_, rfl⟩
 have hmwb : Mod (fun _ => False) wa wb := hwb ▸ (Mod.refl (fun _ => False) wa).alloc _
 have hgwb := heap_alloc_new wa (.cells #[.string es, .slice qa q.length qc] 46)
 rw [hwb] at hgwb
 have hzwb : wb.heap.size = wa.heap.size + 1 := by rw [← hwb]; simp
 have hmb := hmwa.trans hmwb (fun _ _ h => h)
 have hI := hmwb.heap hgwa (fun h => h)
 have hft := fit17_at w wb (hl0.mod0 hmb)
 have hlz : w.heap.size < wa.heap.size := by omega
 have hlz2 : w.heap.size < w.heap.size + 1 := by omega
 have Hl0 := Lib.hid hl0
 have Hwa := Lib.hid hwa
 have Hwb := Lib.hid hwb
 have Hmb := Lib.hid hmb
 have HI := Lib.hid hI
 have Hgwb := Lib.hid hgwb
 have Hft := Lib.hid hft
 have Hv := Lib.hid hv
 have Hq := Lib.hid hq
 have Hqn := Lib.hid hqn
 have Hll := Lib.hid hll
 have Hql := Lib.hid hql
 have Hes := Lib.hid hes
 have Hin := Lib.hid hin
 clear hl0 hwa hwb hmb hI hgwb hft hv hq hqn hll hql hes hin hmwa hmwb hgwa hzwa hzwb hcap hqc
 go_enter Tryz.func4, Tryz.ntmps4
 go_wp2_with (first | (rw [show w.alloc _ = wa from Hwa.out]) | (rw [show wa.alloc _ = wb from Hwb.out]) | fail)
 refine Hft.out.mono ?_
 rintro e w1 ⟨rfl, hm1⟩
 have hm01 := Hmb.out.trans hm1 (fun _ _ h => h)
 have hI1 := hm1.heap HI.out (fun h => h)
 have hG1 := hm1.heap Hgwb.out (fun h => h)
 have hli := light10f_at w1 (.slice a l.length cap) l (Hv.out.mod hm01) Hll.out (fun r hr => ⟨(Hin.out r hr).who, (Hin.out r hr).name, (Hin.out r hr).sc, fun c hc => ((Hin.out r hr).cs c hc).1⟩)
 have Hm01 := Lib.hid hm01
 have HI1 := Lib.hid hI1
 have HG1 := Lib.hid hG1
 have Hli := Lib.hid hli
 clear hm01 hI1 hG1 hli hm1 Hft HI Hgwb Hmb
 go_wp2_with fail
 refine Hli.out.mono ?_
 rintro e w2 ⟨b, rfl, hb, hm2⟩
 have hm02 := Hm01.out.trans hm2 (fun _ _ h => h)
 have hI2 := hm2.heap HI1.out (fun h => h)
 have hG2 := hm2.heap HG1.out (fun h => h)
 have g0 : w2.cell? ⟨wa.heap.size, 0, none⟩ = some (.string es) := cell_of hG2 rfl
 have g1 : w2.cell? ⟨wa.heap.size, 1, none⟩ = some (.slice qa q.length qc) := cell_of hG2 rfl
 cases b with
 | false =>
  have Hm02 := Lib.hid hm02
  clear hm02 hm2 hI2 hG2 hb
  go_wp2
  go_ret
  exact ⟨rfl, Hm02.out⟩
 | true =>
 obtain ⟨hl80, hli2⟩ := hb rfl
 have Hm02 := Lib.hid hm02
 have HI2 := Lib.hid hI2
 have HG2 := Lib.hid hG2
 have Hli2 := Lib.hid hli2
 clear hm02 hI2 hG2 hli2 hm2 hb HI1 HG1 Hli Hm01
 by_cases hs60 : es.size ≤ 60
 rotate_left
 ·have hs60' : (60 : Int) < es.size := by omega
  go_wp2
  go_ret
  exact ⟨rfl, Hm02.out⟩
 have hs60' : (es.size : Int) ≤ 60 := by omega
 have hs60n : ¬ (60 : Int) < es.size := by omega
 by_cases hq12 : q.length ≤ 12
 rotate_left
 ·have hq12' : (12 : Int) < q.length := by omega
  go_wp2
  go_ret
  exact ⟨rfl, Hm02.out⟩
 have hq12' : (q.length : Int) ≤ 12 := by omega
 have hq12n : ¬ (12 : Int) < q.length := by omega
 go_wp2_with fail
 go_loopw [36] (fun i wr => ∃ j : Nat, i = .int .i64 j ∧ j ≤ q.length ∧ (∀ (k : Nat) (b : Att), k < j → q[k]? = some b → b.name.size + b.v.text.size ≤ 200) ∧ Mod (fun _ => False) w2 wr) (fun i _ => q.length - (intOf i).toNat)
 case atStart => exact ⟨0, rfl, Nat.zero_le _, fun k b h => by omega, Mod.refl _ _⟩
 case round =>
  obtain ⟨j, rfl, hj, hsm, hmr⟩ := hrel
  by_cases hlt : j < q.length
  ·have hlt' : (j : Int) < q.length := by omega
   obtain ⟨b, hbj⟩ : ∃ b, q[j]? = some b := ⟨_, List.getElem?_eq_getElem hlt⟩
   have hbs := Hqn.out b (List.mem_of_getElem? hbj)
   obtain ⟨g5, off, rfl, hf⟩ : ∃ g5 off, qa = some ⟨g5, off, none⟩ ∧ CellsAt wr g5 (off + j * 6) b.cells := rd_att (Hq.out.mod (Hm02.out.trans hmr (fun _ _ h => h)) (fun _ _ h => h)) hbj
   have hmw := Hm02.out.trans hmr (fun _ _ h => h)
   obtain ⟨wz, hwz⟩ : ∃ wz : World, wr.alloc (.cells b.cells.toArray 70) = wz := ⟨_, rfl⟩
   have hmwz : Mod (fun _ => False) wr wz := hwz ▸ (Mod.refl (fun _ => False) wr).alloc _
   have hgwz := heap_alloc_new wr (.cells b.cells.toArray 70)
   rw [hwz] at hgwz
   have hzwz : wz.heap.size = wr.heap.size + 1 := by rw [← hwz]; simp
   have hmz := hmr.trans hmwz (fun _ _ h => h)
   have hmwz' := hmw.trans hmwz (fun _ _ h => h)
   have hsz : (b.name.size : Int) ≤ 140737488355328 ∧ (b.v.text.size : Int) ≤ 140737488355328 := by omega
   obtain ⟨hz1, hz2⟩ := hsz
   have z0 : wz.cell? ⟨wr.heap.size, 0, none⟩ = some (.string b.name) := cell_of hgwz rfl
   have z4 : wz.cell? ⟨wr.heap.size, 4, none⟩ = some (.string b.v.text) := cell_of hgwz rfl
   have hwz' : wr.alloc (.cells #[.string b.name, .int .i64 b.v.kind, .int .i64 b.v.int, .float .f64 b.v.num, .string b.v.text, .bool b.v.yes] 70) = wz := hwz
   have Hmr := Lib.hid hmr
   have Hbj := Lib.hid hbj
   have Hf := Lib.hid hf
   have Hsm := Lib.hid hsm
   have Hwz' := Lib.hid hwz'
   have Hmz := Lib.hid hmz
   have Hmwz' := Lib.hid hmwz'
   clear hmr hbj hf hsm hwz' hmz hmwz' hmwz hgwz hzwz hwz hmw hbs
   by_cases h200 : b.name.size + b.v.text.size ≤ 200
   ·have hs1 : wrap64 ((b.name.size : Int) + b.v.text.size) = b.name.size + b.v.text.size := wrap64_of (by omega) (by omega)
    have h200' : (b.name.size : Int) + b.v.text.size ≤ 200 := by omega
    have H200 := Lib.hid h200
    clear h200
    go_wp2_with (first | ((with_reducible refine wpList_load_lit 70 (.tmp 38) ?_); refine ⟨g5, off + j * 6, rfl, [.string b.name, .int .i64 b.v.kind, .int .i64 b.v.int, .float .f64 b.v.num, .string b.v.text, .bool b.v.yes], Hf.out, by kernel_rfl, by kernel_rfl, ?_⟩) | ((with_reducible refine wpList_store_lit 70 (.tmp 8) (.tmp 39) ?_); refine ⟨rfl, [.string b.name, .int .i64 b.v.kind, .int .i64 b.v.int, .float .f64 b.v.num, .string b.v.text, .bool b.v.yes], rfl, rfl, by kernel_rfl, rfl, ?_⟩; rw [Hwz'.out]) | fail)
    go_roundw
    case rel =>
     refine ⟨j + 1, by go_num, hlt, fun k b2 hk hb2 => ?_, Hmz.out⟩
     rcases Nat.lt_succ_iff_lt_or_eq.1 hk with h | rfl
     ·exact Hsm.out k b2 h hb2
     ·rw [Hbj.out] at hb2
      cases hb2
      exact H200.out
    case measure => simp [intOf]; omega
   ·have hs1 : wrap64 ((b.name.size : Int) + b.v.text.size) = b.name.size + b.v.text.size := wrap64_of (by omega) (by omega)
    have h200' : (200 : Int) < (b.name.size : Int) + b.v.text.size := by omega
    have H200 := Lib.hid h200
    clear h200
    go_wp2_with (first | ((with_reducible refine wpList_load_lit 70 (.tmp 38) ?_); refine ⟨g5, off + j * 6, rfl, [.string b.name, .int .i64 b.v.kind, .int .i64 b.v.int, .float .f64 b.v.num, .string b.v.text, .bool b.v.yes], Hf.out, by kernel_rfl, by kernel_rfl, ?_⟩) | ((with_reducible refine wpList_store_lit 70 (.tmp 8) (.tmp 39) ?_); refine ⟨rfl, [.string b.name, .int .i64 b.v.kind, .int .i64 b.v.int, .float .f64 b.v.num, .string b.v.text, .bool b.v.yes], rfl, rfl, by kernel_rfl, rfl, ?_⟩; rw [Hwz'.out]) | fail)
    go_ret
    exact ⟨rfl, Hmwz'.out⟩
  ·obtain rfl : j = q.length := by omega
   have hsm2 : ∀ b ∈ q, b.name.size + b.v.text.size ≤ 200 := fun b hb => by
    obtain ⟨k, hk⟩ := List.mem_iff_getElem?.1 hb
    exact hsm k b (List.getElem?_eq_some_iff.1 hk).1 hk
   have hmw := Hm02.out.trans hmr (fun _ _ h => h)
   have hfi : ∀ r ∈ l, r.pru.fine := fun r hr => (Hin.out r hr).fine (Hli2.out r hr)
   have hlr := learned_at wr (laid_base (Hl0.out.mod0 hmw)) (.slice a l.length cap) l (Hv.out.mod hmw) hl80 hfi
   have hIr := hmr.heap HI2.out (fun h => h)
   have hGr := hmr.heap HG2.out (fun h => h)
   have hzr := hmr.size
   have Hmw := Lib.hid hmw
   have Hfi := Lib.hid hfi
   have Hlr := Lib.hid hlr
   have Hsm2 := Lib.hid hsm2
   have HIr := Lib.hid hIr
   have HGr := Lib.hid hGr
   have Hzr := Lib.hid hzr
   clear hmw hfi hlr hsm2 hIr hGr hzr hmr hsm
   go_wp2_with fail
   refine Hlr.out.mono ?_
   rintro e w3 ⟨ow, gb, gl, vm, M, rfl, ho3, hb3, hM3, hMP, hm3⟩
   obtain ⟨MR, hMR⟩ : ∃ MR, M.map Lr.ru = MR := ⟨_, rfl⟩
   obtain ⟨P, hP⟩ : ∃ P, learnP (l.map Ru.pru) = P := ⟨_, rfl⟩
   have hPl := learnP_forty (l.map Ru.pru)
   have hPh := learnP_home (l.map Ru.pru)
   rw [hP] at hPl hPh hb3 hMP
   have hMPr : MR.map Ru.pru = P := by rw [← hMR, lrs_pru]; exact hMP
   have hMl : M.length = MR.length := by rw [← hMR, List.length_map]
   have hMlP : MR.length = P.length := by rw [← hMPr, List.length_map]
   have hMru := hM3.ru
   rw [hMR] at hMru
   obtain ⟨va, vc, rfl, hvc⟩ : ∃ a c, vm = .slice a MR.length c ∧ MR.length ≤ c := by obtain ⟨-, a, c, h, h2, -⟩ := hM3.sl.rd; rw [hMl] at h h2; exact ⟨a, c, h, h2⟩
   have hat := rat_at w3 va vc MR hMru (by omega)
   have hm03 := Hmw.out.trans hm3 (fun _ _ h => h)
   have hI3 := hm3.heap HIr.out (fun h => h)
   have hG3 := hm3.heap HGr.out (fun h => h)
   have hMl40 : (MR.length : Int) ≤ 40 := by omega
   have hvc' : (MR.length : Int) ≤ vc := by omega
   have Ho3 := Lib.hid ho3
   have Hb3 := Lib.hid hb3
   have HMPr := Lib.hid hMPr
   have HMru := Lib.hid hMru
   have Hat := Lib.hid hat
   have Hm03 := Lib.hid hm03
   have HI3 := Lib.hid hI3
   have HG3 := Lib.hid hG3
   have HPh := Lib.hid hPh
   have HMlP := Lib.hid hMlP
   clear ho3 hb3 hMPr hMru hat hm03 hI3 hG3 hPh hMlP hM3 hMP hm3 hMl hvc Hlr HIr HGr hMR hP
   go_wp2_with fail
   refine Hat.out.mono ?_
   rintro e w4 ⟨v4, rfl, hA4, -, hm4⟩
   have hm04 := Hm03.out.trans hm4 (fun _ _ h => h)
   have hm34 := hm4
   have hI4 := hm4.heap HI3.out (fun h => h)
   have hG4 := hm4.heap HG3.out (fun h => h)
   have hru : RuSl w4 v4 (atR MR MR.length) := ⟨hA4.rd, fun r hr => (HMru.out.ok r (atR_mem hr)).mod hm4⟩
   have hAP : (atR MR MR.length).map Ru.pru = atP P P.length := by rw [atR_pru, HMPr.out, HMlP.out]
   have hAl : (atR MR MR.length).length ≤ 1000 := by have := atR_len MR MR.length; omega
   have hAb : ∀ r ∈ atR MR MR.length, r.kind = 0 → 0 ≤ r.broker := fun r hr hk => by
    have h1 : r.pru ∈ P := by rw [← HMPr.out]; exact List.mem_map_of_mem (atR_mem hr)
    exact HPh.out r.pru h1 hk
   obtain ⟨A, hA⟩ : ∃ A, atR MR MR.length = A := ⟨_, rfl⟩
   rw [hA] at hru hAP hAl hAb
   obtain ⟨t, ht, ht2⟩ := and3 x
   obtain ⟨u, hu, hu2⟩ := and3 y
   have hu3 : (u : Int) < 4 := by omega
   have hu0 : (0 : Int) ≤ u := by omega
   obtain ⟨W, hW, -⟩ := who_at hu2
   have Hm04 := Lib.hid hm04
   have Hm34 := Lib.hid hm34
   have HI4 := Lib.hid hI4
   have HG4 := Lib.hid hG4
   have Hru := Lib.hid hru
   have HAP := Lib.hid hAP
   have HAl := Lib.hid hAl
   have HAb := Lib.hid hAb
   clear hm04 hm34 hI4 hG4 hru hAP hAl hAb hm4 hA4 hA HI3 HG3 Hat Hm03 HMPr HMru HPh
   go_wp2_with fail
   refine wp_region_news2 [.rd 0, .rd 1, .rd 2, .rd 9, .rd 4, .rd 5, .rd 6, .go 3, .rd 7, .rd 8, .rd 10] [0, 1, 2, 3, 4, 5, 6, 7, 8, 9, 10] (by kernel_rfl) (by kernel_rfl) (fun _ _ d _ _ h => (by cases d <;> exact h)) ?_
   refine news_pure rfl ?_ ?_ (fun w0 => ?_) (fun K hK => ?_)
   ·(try simp only [List.getElem_toArray]); (try simp only [List.getElem_cons_succ]); (try simp only [List.getElem_cons_zero])
    go_simp; done
   rotate_left
   ·(try simp only [List.getElem_toArray]); (try simp only [List.getElem_cons_succ]); (try simp only [List.getElem_cons_zero])
    go_simp; with_reducible rfl
   (try simp only [List.getElem_toArray]); (try simp only [List.getElem_cons_succ]); (try simp only [List.getElem_cons_zero])
   go_simp; refine hK _ ?_; clear hK K
   refine news_rd rfl rfl ?_ ((fun y : World => y.cell? ⟨w.heap.size, 0, none⟩ = some (.int .i64 x))) ((fun _ _ m h => m.cell h (fun h => h))) ((cell_of HI4.out rfl)) ?_ (fun w0 h0 => ?_) (fun K hK => ?_)
   ·(try simp only [List.getElem_toArray]); (try simp only [List.getElem_cons_succ]); (try simp only [List.getElem_cons_zero])
    go_simp; done
   rotate_left
   ·(try simp only [List.getElem_toArray]); (try simp only [List.getElem_cons_succ]); (try simp only [List.getElem_cons_zero])
    go_simp; with_reducible rfl
   (try simp only [List.getElem_toArray]); (try simp only [List.getElem_cons_succ]); (try simp only [List.getElem_cons_zero])
   go_simp; refine hK _ ?_; clear hK K
   refine news_pure rfl ?_ ?_ (fun w0 => ?_) (fun K hK => ?_)
   ·(try simp only [List.getElem_toArray]); (try simp only [List.getElem_cons_succ]); (try simp only [List.getElem_cons_zero])
    go_simp; done
   rotate_left
   ·(try simp only [List.getElem_toArray]); (try simp only [List.getElem_cons_succ]); (try simp only [List.getElem_cons_zero])
    go_simp; with_reducible rfl
   (try simp only [List.getElem_toArray]); (try simp only [List.getElem_cons_succ]); (try simp only [List.getElem_cons_zero])
   go_simp; refine hK _ ?_; clear hK K
   refine news_pure rfl ?_ ?_ (fun w0 => ?_) (fun K hK => ?_)
   ·(try simp only [List.getElem_toArray]); (try simp only [List.getElem_cons_succ]); (try simp only [List.getElem_cons_zero])
    go_simp; done
   rotate_left
   ·(try simp only [List.getElem_toArray]); (try simp only [List.getElem_cons_succ]); (try simp only [List.getElem_cons_zero])
    go_simp; with_reducible rfl
   (try simp only [List.getElem_toArray]); (try simp only [List.getElem_cons_succ]); (try simp only [List.getElem_cons_zero])
   go_simp; refine hK _ ?_; clear hK K
   refine news_pure rfl ?_ ?_ (fun w0 => ?_) (fun K hK => ?_)
   ·(try simp only [List.getElem_toArray]); (try simp only [List.getElem_cons_succ]); (try simp only [List.getElem_cons_zero])
    go_simp; done
   rotate_left
   ·(try simp only [List.getElem_toArray]); (try simp only [List.getElem_cons_succ]); (try simp only [List.getElem_cons_zero])
    go_simp; with_reducible rfl
   (try simp only [List.getElem_toArray]); (try simp only [List.getElem_cons_succ]); (try simp only [List.getElem_cons_zero])
   go_simp; refine hK _ ?_; clear hK K
   refine news_rd rfl rfl ?_ ((fun z : World => z.cell? ⟨w.heap.size, 1, none⟩ = some (.int .i64 y))) ((fun _ _ m h => m.cell h (fun h => h))) ((cell_of HI4.out rfl)) ?_ (fun w0 h0 => ?_) (fun K hK => ?_)
   ·(try simp only [List.getElem_toArray]); (try simp only [List.getElem_cons_succ]); (try simp only [List.getElem_cons_zero])
    go_simp; done
   rotate_left
   ·(try simp only [List.getElem_toArray]); (try simp only [List.getElem_cons_succ]); (try simp only [List.getElem_cons_zero])
    go_simp; with_reducible rfl
   (try simp only [List.getElem_toArray]); (try simp only [List.getElem_cons_succ]); (try simp only [List.getElem_cons_zero])
   go_simp; refine hK _ ?_; clear hK K
   refine news_pure rfl ?_ ?_ (fun w0 => ?_) (fun K hK => ?_)
   ·(try simp only [List.getElem_toArray]); (try simp only [List.getElem_cons_succ]); (try simp only [List.getElem_cons_zero])
    go_simp; done
   rotate_left
   ·(try simp only [List.getElem_toArray]); (try simp only [List.getElem_cons_succ]); (try simp only [List.getElem_cons_zero])
    go_simp; with_reducible rfl
   (try simp only [List.getElem_toArray]); (try simp only [List.getElem_cons_succ]); (try simp only [List.getElem_cons_zero])
   go_simp; refine hK _ ?_; clear hK K
   refine news_one (newsgo_yes rfl ?_ (fun K hK => ?_))
   ·(try simp only [List.getElem_toArray]); (try simp only [List.getElem_cons_succ]); (try simp only [List.getElem_cons_zero])
    go_simp; done
   obtain ⟨wj, hwj⟩ : ∃ wj : World, w4.alloc (.cells #[.string ⟨#[97]⟩, .string ⟨#[98]⟩, .string ⟨#[99]⟩, .string ⟨#[100]⟩] 9) = wj := ⟨_, rfl⟩
   have hmwj : Mod (fun _ => False) w4 wj := hwj ▸ (Mod.refl (fun _ => False) w4).alloc _
   have hgwj := heap_alloc_new w4 (.cells #[.string ⟨#[97]⟩, .string ⟨#[98]⟩, .string ⟨#[99]⟩, .string ⟨#[100]⟩] 9)
   rw [hwj] at hgwj
   have hzwj : wj.heap.size = w4.heap.size + 1 := by rw [← hwj]; simp
   go_simp
   refine hK _ _ (fun _ => ⟨hmwj.os, hmwj.tape, hmwj.output, hmwj.size, hmwj.block⟩) ?_
   clear hK K
   obtain ⟨w5, hw5⟩ : ∃ w5, wj.drew = w5 := ⟨_, rfl⟩
   have hm45 : Mod (fun _ => False) w4 w5 := hw5 ▸ hmwj.drew
   have hkW : w5.cell? ⟨w4.heap.size, u, none⟩ = some (.string W) := hw5 ▸ (cell_of_row wj w4.heap.size u _ _ _ hgwj).trans hW
   rw [hw5]
   refine news_pure rfl ?_ ?_ (fun w0 => ?_) (fun K hK => ?_)
   ·(try simp only [List.getElem_toArray]); (try simp only [List.getElem_cons_succ]); (try simp only [List.getElem_cons_zero])
    go_simp; done
   rotate_left
   ·(try simp only [List.getElem_toArray]); (try simp only [List.getElem_cons_succ]); (try simp only [List.getElem_cons_zero])
    go_simp; with_reducible rfl
   (try simp only [List.getElem_toArray]); (try simp only [List.getElem_cons_succ]); (try simp only [List.getElem_cons_zero])
   go_simp; refine hK _ ?_; clear hK K
   refine news_rd rfl rfl ?_ ((fun z : World => z.cell? ⟨w4.heap.size, u, none⟩ = some (.string W))) ((fun _ _ m h => m.cell h (fun h => h))) (hkW) ?_ (fun w0 h0 => ?_) (fun K hK => ?_)
   ·(try simp only [List.getElem_toArray]); (try simp only [List.getElem_cons_succ]); (try simp only [List.getElem_cons_zero])
    go_simp; done
   rotate_left
   ·(try simp only [List.getElem_toArray]); (try simp only [List.getElem_cons_succ]); (try simp only [List.getElem_cons_zero])
    go_simp; with_reducible rfl
   (try simp only [List.getElem_toArray]); (try simp only [List.getElem_cons_succ]); (try simp only [List.getElem_cons_zero])
   go_simp; refine hK _ ?_; clear hK K
   refine news_pure rfl ?_ ?_ (fun w0 => ?_) (fun K hK => ?_)
   ·(try simp only [List.getElem_toArray]); (try simp only [List.getElem_cons_succ]); (try simp only [List.getElem_cons_zero])
    go_simp; done
   rotate_left
   ·(try simp only [List.getElem_toArray]); (try simp only [List.getElem_cons_succ]); (try simp only [List.getElem_cons_zero])
    go_simp; with_reducible rfl
   (try simp only [List.getElem_toArray]); (try simp only [List.getElem_cons_succ]); (try simp only [List.getElem_cons_zero])
   go_simp; refine hK _ ?_; clear hK K
   refine news_nil ?_
   have hm05 := Hm04.out.trans hm45 (fun _ _ h => h)
   have hm35 := Hm34.out.trans hm45 (fun _ _ h => h)
   have hG5 := hm45.heap HG4.out (fun h => h)
   have hru5 := Hru.out.mod hm45
   have hP40 : P.length ≤ 40 := hPl
   have hpb : ∀ wx, Mod (fun _ => False) w5 wx → ∀ o, Calls Tryz.prog 23 #[.pointer (some ⟨gb, 0, none⟩), o, .int .i64 t, .string W, .int .i64 5, .agg #[.string es, .slice qa q.length qc]] wx fun e w' => e = .returned (.int .i64 (BS.pubE ⟨P, fun _ => RS.zero⟩ 0 t W es q)) ∧ Mod (fun _ => False) wx w' := fun wx hx o =>
    have hm3x := hm35.trans hx (fun _ _ h => h)
    publish_none wr wx ow ((Mov.of Ho3.out hm3x (fun _ => False)).owd Ho3.out (fun h => h)) 2 gb 0 [1, 2] ⟨P, fun _ => RS.zero⟩ (Hb3.out.mov Ho3.out (Mov.of Ho3.out hm3x (fun _ => False)) (fun h => h) (fun _ h => h.elim)) hP40 (by decide) (fun n hn => by
     simp only [List.mem_cons, List.not_mem_nil, or_false] at hn
     rcases hn with rfl | rfl <;> rfl) t ht2 rfl rfl (show RS.zero.T ≤ 100000 by decide) (show RS.zero.N ≤ 100000 by decide) o W 5 es qa qc q (Hq.out.mod (hm05.trans hx (fun _ _ h => h)) (fun _ _ h => h)) (by omega) (by omega) (fun a ha => by have := Hsm2.out a ha; omega)
   have hri := right_at es (.slice qa q.length qc) q w5 (Hq.out.mod hm05 (fun _ _ h => h)) (by omega) (fun a ha => by have := Hsm2.out a ha; omega)
   have hsc := scope_right es (by omega)
   obtain ⟨R1, hR1⟩ : ∃ r, evRight q = r := ⟨_, rfl⟩
   obtain ⟨R2, hR2⟩ : ∃ r, scRight es = r := ⟨_, rfl⟩
   obtain ⟨O, hO⟩ : ∃ r, homeOf A t W = r := ⟨_, rfl⟩
   obtain ⟨R4, hR4⟩ : ∃ r, mayP (A.map Ru.pru) t W es q = r := ⟨_, rfl⟩
   obtain ⟨E, hE⟩ : ∃ r, BS.pubE ⟨P, fun _ => RS.zero⟩ 0 t W es q = r := ⟨_, rfl⟩
   have hEv : E = if (R1 && R2) = true then if thereO 0 O = true then if R4 = true then 0 else 5 else 3 else 1 := by
    rw [← hE, ← hR1, ← hR2, ← hO, ← hR4, HAP.out, ← homeP_ru, HAP.out]
    rfl
   rw [hE] at hpb
   rw [hR1] at hri
   rw [hR2] at hsc
   have f0 : w5.cell? ⟨wa.heap.size, 0, none⟩ = some (.string es) := cell_of hG5 rfl
   have f1 : w5.cell? ⟨wa.heap.size, 1, none⟩ = some (.slice qa q.length qc) := cell_of hG5 rfl
   have hmf5 := hm05
   have hru5' := hru5
   have Hpb := Lib.hid hpb
   have Hri := Lib.hid hri
   have Hsc := Lib.hid hsc
   have HR1 := Lib.hid hR1
   have HR2 := Lib.hid hR2
   have HO := Lib.hid hO
   have HR4 := Lib.hid hR4
   have HE := Lib.hid hE
   have HEv := Lib.hid hEv
   have Hmf5 := Lib.hid hmf5
   have HG5 := Lib.hid hG5
   have Hru5 := Lib.hid hru5
   clear hpb hri hsc hR1 hR2 hO hR4 hE hEv hmf5 hG5 hru5 hm45 hmwj hgwj hzwj hwj hkW hW hw5 ht hu hu2 hu3 hu0 HI4 HG4 Hru Hm04 hm05 hru5'
   go_wp2_with fail
   refine Hri.out.mono ?_
   rintro e w6 ⟨rfl, hm6⟩
   cases R1 with
   | false =>
    have hEe : E = 1 := by rw [HEv.out]; rfl
    obtain ⟨wo, hwo⟩ : ∃ wo : World, w6.alloc (.cells #[.slice none 0 0, .slice none 0 0] 39) = wo := ⟨_, rfl⟩
    have hmwo : Mod (fun _ => False) w6 wo := hwo ▸ (Mod.refl (fun _ => False) w6).alloc _
    have hgwo := heap_alloc_new w6 (.cells #[.slice none 0 0, .slice none 0 0] 39)
    rw [hwo] at hgwo
    have hzwo : wo.heap.size = w6.heap.size + 1 := by rw [← hwo]; simp
    have hmo := hm6.trans hmwo (fun _ _ h => h)
    have hp := Hpb.out wo hmo
    have hgo := Hmf5.out.trans hmo (fun _ _ h => h)
    have e0 : wo.cell? ⟨wa.heap.size, 0, none⟩ = some (.string es) := cell_of (hmo.heap HG5.out (fun h => h)) rfl
    have e1 : wo.cell? ⟨wa.heap.size, 1, none⟩ = some (.slice qa q.length qc) := cell_of (hmo.heap HG5.out (fun h => h)) rfl
    rw [show E = 1 from hEe] at hp
    have Hp := Lib.hid hp
    have Hgo := Lib.hid hgo
    have Hwo := Lib.hid hwo
    have Hgwo := Lib.hid hgwo
    clear hp hgo hwo hgwo hmo hmwo hzwo
    go_wp2_with (first | (rw [show w6.alloc _ = wo from Hwo.out]) | fail)
    refine (Hp.out _).mono ?_
    rintro e w9 ⟨rfl, hm9⟩
    have o0 : w9.cell? ⟨w6.heap.size, 0, none⟩ = some (.slice none 0 0) := cell_of (hm9.heap Hgwo.out (fun h => h)) rfl
    have o1 : w9.cell? ⟨w6.heap.size, 1, none⟩ = some (.slice none 0 0) := cell_of (hm9.heap Hgwo.out (fun h => h)) rfl
    have hmf := Hgo.out.trans hm9 (fun _ _ h => h)
    have Hmf := Lib.hid hmf
    clear hmf hm9
    go_wp2
    go_ret
    exact ⟨rfl, Hmf.out⟩
   | true =>
   have f0 : w6.cell? ⟨wa.heap.size, 0, none⟩ = some (.string es) := cell_of (hm6.heap HG5.out (fun h => h)) rfl
   go_wp2_with fail
   refine (Hsc.out _).mono ?_
   rintro e w7 ⟨rfl, hm7⟩
   have hm7 := hm6.trans hm7 (fun _ _ h => h)
   cases R2 with
   | false =>
    have hEe : E = 1 := by rw [HEv.out]; rfl
    obtain ⟨wo, hwo⟩ : ∃ wo : World, w7.alloc (.cells #[.slice none 0 0, .slice none 0 0] 39) = wo := ⟨_, rfl⟩
    have hmwo : Mod (fun _ => False) w7 wo := hwo ▸ (Mod.refl (fun _ => False) w7).alloc _
    have hgwo := heap_alloc_new w7 (.cells #[.slice none 0 0, .slice none 0 0] 39)
    rw [hwo] at hgwo
    have hzwo : wo.heap.size = w7.heap.size + 1 := by rw [← hwo]; simp
    have hmo := hm7.trans hmwo (fun _ _ h => h)
    have hp := Hpb.out wo hmo
    have hgo := Hmf5.out.trans hmo (fun _ _ h => h)
    have e0 : wo.cell? ⟨wa.heap.size, 0, none⟩ = some (.string es) := cell_of (hmo.heap HG5.out (fun h => h)) rfl
    have e1 : wo.cell? ⟨wa.heap.size, 1, none⟩ = some (.slice qa q.length qc) := cell_of (hmo.heap HG5.out (fun h => h)) rfl
    rw [show E = 1 from hEe] at hp
    have Hp := Lib.hid hp
    have Hgo := Lib.hid hgo
    have Hwo := Lib.hid hwo
    have Hgwo := Lib.hid hgwo
    clear hp hgo hwo hgwo hmo hmwo hzwo
    go_wp2_with (first | (rw [show w7.alloc _ = wo from Hwo.out]) | fail)
    refine (Hp.out _).mono ?_
    rintro e w9 ⟨rfl, hm9⟩
    have o0 : w9.cell? ⟨w7.heap.size, 0, none⟩ = some (.slice none 0 0) := cell_of (hm9.heap Hgwo.out (fun h => h)) rfl
    have o1 : w9.cell? ⟨w7.heap.size, 1, none⟩ = some (.slice none 0 0) := cell_of (hm9.heap Hgwo.out (fun h => h)) rfl
    have hmf := Hgo.out.trans hm9 (fun _ _ h => h)
    have Hmf := Lib.hid hmf
    clear hmf hm9
    go_wp2
    go_ret
    exact ⟨rfl, Hmf.out⟩
   | true =>
   have hho := rhome_at w7 v4 A (Hru5.out.mod hm7) (by have := HAl.out; omega) t W
   rw [HO.out] at hho
   have heo : EvOk es q := EvOk.of HR1.out HR2.out
   have Hho := Lib.hid hho
   have Heo := Lib.hid heo
   have Hm7 := Lib.hid hm7
   clear hho heo hm7 hm6
   go_wp2_with fail
   refine Hho.out.mono ?_
   rintro e w8 ⟨rfl, hm8⟩
   have hm8 := Hm7.out.trans hm8 (fun _ _ h => h)
   cases O with
   | none =>
    have hEe : E = 3 := by rw [HEv.out]; rfl
    obtain ⟨wo, hwo⟩ : ∃ wo : World, w8.alloc (.cells #[.slice none 0 0, .slice none 0 0] 39) = wo := ⟨_, rfl⟩
    have hmwo : Mod (fun _ => False) w8 wo := hwo ▸ (Mod.refl (fun _ => False) w8).alloc _
    have hgwo := heap_alloc_new w8 (.cells #[.slice none 0 0, .slice none 0 0] 39)
    rw [hwo] at hgwo
    have hzwo : wo.heap.size = w8.heap.size + 1 := by rw [← hwo]; simp
    have hmo := hm8.trans hmwo (fun _ _ h => h)
    have hp := Hpb.out wo hmo
    have hgo := Hmf5.out.trans hmo (fun _ _ h => h)
    have e0 : wo.cell? ⟨wa.heap.size, 0, none⟩ = some (.string es) := cell_of (hmo.heap HG5.out (fun h => h)) rfl
    have e1 : wo.cell? ⟨wa.heap.size, 1, none⟩ = some (.slice qa q.length qc) := cell_of (hmo.heap HG5.out (fun h => h)) rfl
    rw [show E = 3 from hEe] at hp
    have Hp := Lib.hid hp
    have Hgo := Lib.hid hgo
    have Hwo := Lib.hid hwo
    have Hgwo := Lib.hid hgwo
    clear hp hgo hwo hgwo hmo hmwo hzwo
    go_wp2_with (first | (rw [show w8.alloc _ = wo from Hwo.out]) | fail)
    refine (Hp.out _).mono ?_
    rintro e w9 ⟨rfl, hm9⟩
    have o0 : w9.cell? ⟨w8.heap.size, 0, none⟩ = some (.slice none 0 0) := cell_of (hm9.heap Hgwo.out (fun h => h)) rfl
    have o1 : w9.cell? ⟨w8.heap.size, 1, none⟩ = some (.slice none 0 0) := cell_of (hm9.heap Hgwo.out (fun h => h)) rfl
    have hmf := Hgo.out.trans hm9 (fun _ _ h => h)
    have Hmf := Lib.hid hmf
    clear hmf hm9
    go_wp2
    go_ret
    exact ⟨rfl, Hmf.out⟩
   | some yh =>
   by_cases hy0 : yh = 0
   rotate_left
   ·have hEe : E = 3 := by rw [HEv.out, show thereO 0 (some yh) = false from decide_eq_false hy0]; rfl
    have hyb : (yh != 0) = true := by simpa using hy0
    obtain ⟨wo, hwo⟩ : ∃ wo : World, w8.alloc (.cells #[.slice none 0 0, .slice none 0 0] 39) = wo := ⟨_, rfl⟩
    have hmwo : Mod (fun _ => False) w8 wo := hwo ▸ (Mod.refl (fun _ => False) w8).alloc _
    have hgwo := heap_alloc_new w8 (.cells #[.slice none 0 0, .slice none 0 0] 39)
    rw [hwo] at hgwo
    have hzwo : wo.heap.size = w8.heap.size + 1 := by rw [← hwo]; simp
    have hmo := hm8.trans hmwo (fun _ _ h => h)
    have hp := Hpb.out wo hmo
    have hgo := Hmf5.out.trans hmo (fun _ _ h => h)
    have e0 : wo.cell? ⟨wa.heap.size, 0, none⟩ = some (.string es) := cell_of (hmo.heap HG5.out (fun h => h)) rfl
    have e1 : wo.cell? ⟨wa.heap.size, 1, none⟩ = some (.slice qa q.length qc) := cell_of (hmo.heap HG5.out (fun h => h)) rfl
    rw [show E = 3 from hEe] at hp
    have Hp := Lib.hid hp
    have Hgo := Lib.hid hgo
    have Hwo := Lib.hid hwo
    have Hgwo := Lib.hid hgwo
    clear hp hgo hwo hgwo hmo hmwo hzwo
    go_wp2_with (first | (rw [show w8.alloc _ = wo from Hwo.out]) | fail)
    refine (Hp.out _).mono ?_
    rintro e w9 ⟨rfl, hm9⟩
    have o0 : w9.cell? ⟨w8.heap.size, 0, none⟩ = some (.slice none 0 0) := cell_of (hm9.heap Hgwo.out (fun h => h)) rfl
    have o1 : w9.cell? ⟨w8.heap.size, 1, none⟩ = some (.slice none 0 0) := cell_of (hm9.heap Hgwo.out (fun h => h)) rfl
    have hmf := Hgo.out.trans hm9 (fun _ _ h => h)
    have Hmf := Lib.hid hmf
    clear hmf hm9
    go_wp2
    go_ret
    exact ⟨rfl, Hmf.out⟩
   subst hy0
   have hmp := rmayp w8 v4 A (Hru5.out.mod hm8) HAl.out HAb.out t W es qa qc q (Hq.out.mod (Hmf5.out.trans hm8 (fun _ _ h => h)) (fun _ _ h => h)) Heo.out
   rw [HR4.out] at hmp
   have hm8' := hm8
   have f0 : w8.cell? ⟨wa.heap.size, 0, none⟩ = some (.string es) := cell_of (hm8.heap HG5.out (fun h => h)) rfl
   have f1 : w8.cell? ⟨wa.heap.size, 1, none⟩ = some (.slice qa q.length qc) := cell_of (hm8.heap HG5.out (fun h => h)) rfl
   have Hmp := Lib.hid hmp
   have Hm8' := Lib.hid hm8'
   clear hmp hm8' hm8
   go_wp2_with fail
   refine Hmp.out.mono ?_
   rintro e wy ⟨rfl, hmy⟩
   have hm9 := Hm8'.out.trans hmy (fun _ _ h => h)
   cases R4 with
   | false =>
    have hEe : E = 5 := by rw [HEv.out]; rfl
    obtain ⟨wo, hwo⟩ : ∃ wo : World, wy.alloc (.cells #[.slice none 0 0, .slice none 0 0] 39) = wo := ⟨_, rfl⟩
    have hmwo : Mod (fun _ => False) wy wo := hwo ▸ (Mod.refl (fun _ => False) wy).alloc _
    have hgwo := heap_alloc_new wy (.cells #[.slice none 0 0, .slice none 0 0] 39)
    rw [hwo] at hgwo
    have hzwo : wo.heap.size = wy.heap.size + 1 := by rw [← hwo]; simp
    have hmo := hm9.trans hmwo (fun _ _ h => h)
    have hp := Hpb.out wo hmo
    have hgo := Hmf5.out.trans hmo (fun _ _ h => h)
    have e0 : wo.cell? ⟨wa.heap.size, 0, none⟩ = some (.string es) := cell_of (hmo.heap HG5.out (fun h => h)) rfl
    have e1 : wo.cell? ⟨wa.heap.size, 1, none⟩ = some (.slice qa q.length qc) := cell_of (hmo.heap HG5.out (fun h => h)) rfl
    rw [show E = 5 from hEe] at hp
    have Hp := Lib.hid hp
    have Hgo := Lib.hid hgo
    have Hwo := Lib.hid hwo
    have Hgwo := Lib.hid hgwo
    clear hp hgo hwo hgwo hmo hmwo hzwo
    go_wp2_with (first | (rw [show wy.alloc _ = wo from Hwo.out]) | fail)
    refine (Hp.out _).mono ?_
    rintro e w9 ⟨rfl, hm9⟩
    have o0 : w9.cell? ⟨wy.heap.size, 0, none⟩ = some (.slice none 0 0) := cell_of (hm9.heap Hgwo.out (fun h => h)) rfl
    have o1 : w9.cell? ⟨wy.heap.size, 1, none⟩ = some (.slice none 0 0) := cell_of (hm9.heap Hgwo.out (fun h => h)) rfl
    have hmf := Hgo.out.trans hm9 (fun _ _ h => h)
    have Hmf := Lib.hid hmf
    clear hmf hm9
    go_wp2
    go_ret
    exact ⟨rfl, Hmf.out⟩
   | true =>
    have hEe : E = 0 := by rw [HEv.out]; rfl
    obtain ⟨wo, hwo⟩ : ∃ wo : World, wy.alloc (.cells #[.slice none 0 0, .slice none 0 0] 39) = wo := ⟨_, rfl⟩
    have hmwo : Mod (fun _ => False) wy wo := hwo ▸ (Mod.refl (fun _ => False) wy).alloc _
    have hgwo := heap_alloc_new wy (.cells #[.slice none 0 0, .slice none 0 0] 39)
    rw [hwo] at hgwo
    have hzwo : wo.heap.size = wy.heap.size + 1 := by rw [← hwo]; simp
    have hmo := hm9.trans hmwo (fun _ _ h => h)
    have hp := Hpb.out wo hmo
    have hgo := Hmf5.out.trans hmo (fun _ _ h => h)
    have e0 : wo.cell? ⟨wa.heap.size, 0, none⟩ = some (.string es) := cell_of (hmo.heap HG5.out (fun h => h)) rfl
    have e1 : wo.cell? ⟨wa.heap.size, 1, none⟩ = some (.slice qa q.length qc) := cell_of (hmo.heap HG5.out (fun h => h)) rfl
    rw [show E = 0 from hEe] at hp
    have Hp := Lib.hid hp
    have Hgo := Lib.hid hgo
    have Hwo := Lib.hid hwo
    have Hgwo := Lib.hid hgwo
    clear hp hgo hwo hgwo hmo hmwo hzwo
    go_wp2_with (first | (rw [show wy.alloc _ = wo from Hwo.out]) | fail)
    refine (Hp.out _).mono ?_
    rintro e w9 ⟨rfl, hm9⟩
    have o0 : w9.cell? ⟨wy.heap.size, 0, none⟩ = some (.slice none 0 0) := cell_of (hm9.heap Hgwo.out (fun h => h)) rfl
    have o1 : w9.cell? ⟨wy.heap.size, 1, none⟩ = some (.slice none 0 0) := cell_of (hm9.heap Hgwo.out (fun h => h)) rfl
    have hmf := Hgo.out.trans hm9 (fun _ _ h => h)
    have Hmf := Lib.hid hmf
    clear hmf hm9
    go_wp2
    go_ret
    exact ⟨rfl, Hmf.out⟩
end Go.Proofs.YtaenebdppkjhoaaGreatDoor
namespace Go.Proofs.YtaenebdppkjhoaaGreatDoor
set_option maxRecDepth 20000
open Go.ChangeShapes Go.WideShapes Go.ChangeAt Go.RowKit
section
variable {H : Type} {enc : TypeId × Value → H} {W : World}
theorem open_attw {fuel : Nat} {cs : List Value} {x : DataW H × List MemPlace} (h : DataW.trod enc Tryz.prog W 0 (fun _ => true) true fuel 70 cs = some x) (hw : ∀ n ∈ DataW.weights Tryz.prog 70 x.1, n ≤ reachBytes) : ∃ c : Att, cs = c.cells ∧ c.name.size ≤ reachBytes ∧ c.v.inn := by
 obtain ⟨xs, n1, -, hxd, hlen, hxs, hf⟩ := DataW.trod_struct Tryz.underlying70 h
 rw [show Tryz.prog.cellsOf 70 = 6 by kernel_rfl] at hlen
 have hx : ∀ i, i < 2 → ∃ y, xs[i]? = some y := fun i hi => by
  simp at hxs
  exact ⟨_, List.getElem?_eq_getElem (by omega)⟩
 rw [hxd] at hw
 have hw : ∀ n ∈ DataW.weights Tryz.prog 70 (.agg (xs.map (·.1)) : DataW H), n ≤ reachBytes := hw
 match cs, hlen with
 | [c0, c1, c2, c3, c4, c5], _ =>
  obtain ⟨y0, h0⟩ := hx 0 (by omega)
  have f0 : DataW.trod enc Tryz.prog W 0 (fun _ => true) true n1 9 (([c0, c1, c2, c3, c4, c5].drop 0).take (Tryz.prog.cellsOf 9)) = xs[0]? := hf 0 _ rfl
  rw [h0, show Tryz.prog.cellsOf 9 = 1 by kernel_rfl] at f0
  obtain ⟨z0, e0, u0, -⟩ := DataW.trod_string Tryz.underlying9 f0
  have e0 : [c0] = [.string z0] := e0
  have g0 : z0.size ≤ reachBytes := hw _ (weights_part Tryz.underlying70 (i := 0) (t := 9) rfl (by rw [List.getElem?_map, h0]; rfl) (by rw [u0]; simp [DataW.weights]))
  obtain ⟨y1, h1⟩ := hx 1 (by omega)
  have f1 : DataW.trod enc Tryz.prog W 0 (fun _ => true) true n1 68 (([c0, c1, c2, c3, c4, c5].drop 1).take (Tryz.prog.cellsOf 68)) = xs[1]? := hf 1 _ rfl
  rw [h1, show Tryz.prog.cellsOf 68 = 5 by kernel_rfl] at f1
  obtain ⟨z1, e1, g1⟩ := open_valw f1 (fun n hn => hw n (weights_part Tryz.underlying70 (i := 1) (t := 68) rfl (by rw [List.getElem?_map, h1]; rfl) hn))
  have e1 : [c1, c2, c3, c4, c5] = [.int .i64 z1.kind, .int .i64 z1.int, .float .f64 z1.num, .string z1.text, .bool z1.yes] := e1
  cases e0
  cases e1
  exact ⟨⟨z0, z1⟩, rfl, g0, g1⟩
theorem open_evw {base : Nat} {v : Value} {d : DataW H} {p : List MemPlace} (hok : Value.okWide Tryz.prog W .any base 46 v)
 (h : DataW.Trod enc Tryz.prog W 0 (fun _ => true) true 46 v d p) (hw : ∀ n ∈ DataW.weights Tryz.prog 46 d, n ≤ reachBytes) :
 ∃ (sc : ByteArray) (av : Value) (l : List Att), v = .agg #[.string sc, av] ∧ sc.size ≤ maxLen ∧ RdSl W 6 av l.length (atts l) ∧ l.length ≤ maxLen ∧ ∀ x ∈ l, x.name.size ≤ reachBytes ∧ x.v.inn := by
 obtain ⟨c0, c1, y0, y1, m, rfl, rfl, rfl, hy0, hy1⟩ := Joins.open_agg2 Tryz.underlying46 (by kernel_rfl) (by kernel_rfl) hok h
 obtain ⟨sc, e0, -, l0⟩ := DataW.trod_string Tryz.underlying9 hy0
 cases e0
 obtain ⟨l, h1, h2, h3⟩ := open_roww (W := W) (v := c1) (sz := 6) Att.cells Att.cells_length (by decide) Tryz.underlying44 (by kernel_rfl) ⟨⟨#[]⟩, V.zero⟩ (fun x => x.name.size ≤ reachBytes ∧ x.v.inn) (fun _ _ _ h hw => open_attw h hw) hy1 (fun n hn => hw n (weights_part Tryz.underlying46 (i := 1) (t := 44) rfl rfl hn))
 exact ⟨sc, c1, l, rfl, l0, h1, h2, h3⟩
end
end Go.Proofs.YtaenebdppkjhoaaGreatDoor
namespace Go.Proofs.YtaenebdppkjhoaaGreatDoor
set_option maxRecDepth 20000
open Go.RowKit Go.Lib
theorem and2 {a b : Bool} (h : a = true) (k : b = true) : (a && b) = true := by subst h; subst k; rfl
theorem u10_of {w : World} (h : VarReads Tryz.prog w "internal/strconv.uint64pow10" Rows.laid_internal_strconv_uint64pow10) : Lib.TabIs Tryz.prog w "internal/strconv.uint64pow10" .u64 Lib.pow10Tab := by
 obtain ⟨g, t, cs, fuel, p, hg, hty, hvar, hd⟩ := h
 obtain rfl := Option.some.inj ((show Tryz.prog.globalNamed "internal/strconv.uint64pow10" = some 3 by kernel_rfl).symm.trans hg)
 obtain rfl := Option.some.inj ((show (Tryz.prog.globals[(3 : Nat)]?).map (·.type) = some 280 by kernel_rfl).symm.trans hty)
 have e : (Rows.laid_internal_strconv_uint64pow10 : DataW Unit) = tabData .u64 Lib.pow10Tab := by kernel_rfl
 rw [e] at hd
 unfold TabIs
 rw [hvar, ← cells_of_tab Tryz.underlying280 Tryz.underlying221 (by kernel_rfl) (by kernel_rfl) hd]
theorem p10_len : Go.Pinned.pow10Rows.length = 696 := by kernel_rfl
theorem p10_of {w : World} (h : VarReads Tryz.prog w "internal/strconv.pow10Tab" Rows.laid_internal_strconv_pow10Tab) :
 ∀ i, i < 696 → w.cell? ⟨7, i * 2, none⟩ = some (.int .u64 ((pw i).1 : Int)) ∧ w.cell? ⟨7, i * 2 + 1, none⟩ = some (.int .u64 ((pw i).2 : Int)) := by
 obtain ⟨g, t, cs, fuel, p, hg, hty, hvar, hd⟩ := h
 obtain rfl := Option.some.inj ((show Tryz.prog.globalNamed "internal/strconv.pow10Tab" = some 7 by kernel_rfl).symm.trans hg)
 obtain rfl := Option.some.inj ((show (Tryz.prog.globals[(7 : Nat)]?).map (·.type) = some 322 by kernel_rfl).symm.trans hty)
 intro i hi
 obtain ⟨fuel', d, q, hdi, he⟩ := array_elem (ds := Go.Pinned.pow10Rows.map fun x => .agg [.lit (.int .u64 x.1), .lit (.int .u64 x.2)]) Tryz.underlying322 hd i hi
 have hpi : Go.Pinned.pow10Rows[i]? = some (pw i) := by
  have hl : i < Go.Pinned.pow10Rows.length := by rw [p10_len]; exact hi
  unfold pw
  rw [List.getD_eq_getElem?_getD, List.getElem?_eq_getElem hl]
  rfl
 rw [List.getElem?_map, hpi] at hdi
 obtain rfl := (Option.some.inj hdi).symm
 have hc2 : Tryz.prog.cellsOf 321 = 2 := by kernel_rfl
 have hc1 : Tryz.prog.cellsOf 221 = 1 := by kernel_rfl
 rw [hc2] at he
 have hcs := ints_of_struct (zs := [((pw i).1 : Int), ((pw i).2 : Int)]) Tryz.underlying321 (fun j f hj => by
  match j, hj with
  | 0, hj => simp at hj; subst hj; exact ⟨Tryz.underlying221, rfl, hc1⟩
  | 1, hj => simp at hj; subst hj; exact ⟨Tryz.underlying221, rfl, hc1⟩
  | j + 2, hj => simp at hj) (by rw [hc2]; rfl) he
 have e0 := congrArg (·[0]?) hcs
 have e1 := congrArg (·[1]?) hcs
 simp only [List.getElem?_take, List.getElem?_drop] at e0 e1
 constructor
 ·rw [World.var?_cell hg hvar (i * 2), ← Array.getElem?_toList]
  simpa using e0
 ·rw [World.var?_cell hg hvar (i * 2 + 1), ← Array.getElem?_toList]
  simpa using e1
theorem words_of {w : World} (h : VarReads Tryz.prog w "gazette/cond.words" Rows.laid_gazette_cond_words) : ∀ i s, wordsL[i]? = some s → w.cell? ⟨0, i, none⟩ = some (.string (str s)) := by
 obtain ⟨g, t, cs, fuel, p, hg, hty, hvar, hd⟩ := h
 obtain rfl := Option.some.inj ((show Tryz.prog.globalNamed "gazette/cond.words" = some 0 by kernel_rfl).symm.trans hg)
 obtain rfl := Option.some.inj ((show (Tryz.prog.globals[(0 : Nat)]?).map (·.type) = some 208 by kernel_rfl).symm.trans hty)
 have e : (Rows.laid_gazette_cond_words : DataW Unit) = .agg (wordsL.map fun s => .lit (.string s)) := rfl
 rw [e] at hd
 intro i s hs
 have hi : i < 8 := (List.getElem?_eq_some_iff.1 hs).1
 obtain ⟨fuel', d, q, hdi, he⟩ := array_elem (ds := wordsL.map fun s => .lit (.string s)) Tryz.underlying208 hd i hi
 rw [List.getElem?_map, hs] at hdi
 obtain rfl := (Option.some.inj hdi).symm
 obtain ⟨z, e1, e2, -⟩ := DataW.trod_string Tryz.underlying9 he
 have hc1 : Tryz.prog.cellsOf 9 = 1 := by kernel_rfl
 rw [hc1] at e1
 have e3 := congrArg (·[0]?) e1
 simp only [List.getElem?_take, List.getElem?_drop] at e3
 rw [World.var?_cell hg hvar i, ← Array.getElem?_toList]
 have e4 : z = str s := by
  have h1 := congrArg Prod.fst e2
  simp only [DataW.lit.injEq, Lit.string.injEq] at h1
  apply ByteArray.ext
  apply Array.toList_inj.1
  simpa [str] using h1.symm
 simpa [e4] using e3
theorem utf_of {w : World} (h3 : VarReads Tryz.prog w "unicode/utf8.first" Rows.laid_unicode_utf8_first) (h4 : VarReads Tryz.prog w "unicode/utf8.acceptRanges" Rows.laid_unicode_utf8_acceptRanges) : Lib.Utf8Tabs 9 10 w := by
 have e3 : (Rows.laid_unicode_utf8_first : DataW Unit) = tabData .u8 firstTab := Pinned.utf8First_eq
 have e4 : (Rows.laid_unicode_utf8_acceptRanges : DataW Unit) = acceptData := by kernel_rfl
 rw [e3] at h3
 rw [e4] at h4
 have hc5 : Tryz.prog.cellsOf 5 = 1 := by kernel_rfl
 refine ⟨fun c hc => ?_, fun i hi => ?_⟩
 ·obtain ⟨g, t, cs, fuel, p, hg, hty, hvar, hd⟩ := h3
  obtain rfl := Option.some.inj ((show Tryz.prog.globalNamed "unicode/utf8.first" = some 9 by kernel_rfl).symm.trans hg)
  obtain rfl := Option.some.inj ((show (Tryz.prog.globals[(9 : Nat)]?).map (·.type) = some 331 by kernel_rfl).symm.trans hty)
  have hcs := cells_of_tab Tryz.underlying331 Tryz.underlying5 (by kernel_rfl) (by kernel_rfl) hd
  have := World.var?_cell hg hvar c
  rw [this, ← Array.getElem?_toList, hcs]
  simp [firstTab, hc]
 ·obtain ⟨g, t, cs, fuel, p, hg, hty, hvar, hd⟩ := h4
  obtain rfl := Option.some.inj ((show Tryz.prog.globalNamed "unicode/utf8.acceptRanges" = some 10 by kernel_rfl).symm.trans hg)
  obtain rfl := Option.some.inj ((show (Tryz.prog.globals[(10 : Nat)]?).map (·.type) = some 334 by kernel_rfl).symm.trans hty)
  obtain ⟨fuel', d, q, hdi, he⟩ := array_elem Tryz.underlying334 hd i hi
  simp only [List.getElem?_map, List.getElem?_range hi, Option.map_some, Option.some.injEq] at hdi
  subst hdi
  have hc2 : Tryz.prog.cellsOf 333 = 2 := by kernel_rfl
  rw [hc2] at he
  have hcs := ints_of_struct Tryz.underlying333 (fun j f hj => by
   match j, hj with
   | 0, hj => simp at hj; subst hj; exact ⟨Tryz.underlying5, rfl, hc5⟩
   | 1, hj => simp at hj; subst hj; exact ⟨Tryz.underlying5, rfl, hc5⟩
   | j + 2, hj => simp at hj) (by rw [hc2]; rfl) he
  have e0 := congrArg (·[0]?) hcs
  have e1 := congrArg (·[1]?) hcs
  simp only [List.getElem?_take, List.getElem?_drop] at e0 e1
  constructor
  ·rw [World.var?_cell hg hvar (2 * i), ← Array.getElem?_toList]
   simpa [Nat.mul_comm] using e0
  ·rw [World.var?_cell hg hvar (2 * i + 1), ← Array.getElem?_toList]
   simpa [Nat.mul_comm] using e1
theorem prt_of {w : World} (h20 : VarReads Tryz.prog w "strconv.isPrint16" Rows.laid_strconv_isPrint16) (h21 : VarReads Tryz.prog w "strconv.isNotPrint16" Rows.laid_strconv_isNotPrint16)
 (h22 : VarReads Tryz.prog w "strconv.isPrint32" Rows.laid_strconv_isPrint32) (h23 : VarReads Tryz.prog w "strconv.isNotPrint32" Rows.laid_strconv_isNotPrint32) :
 Lib.PrintTabsAt 11 12 13 14 goPrintTabs w := by
 have e1 : (Rows.laid_strconv_isPrint16 : DataW Unit) = sliceData .u16 goPrintTabs.p16 := Pinned.isPrint16_eq
 have e2 : (Rows.laid_strconv_isNotPrint16 : DataW Unit) = sliceData .u16 goPrintTabs.n16 := Pinned.isNotPrint16_eq
 have e3 : (Rows.laid_strconv_isPrint32 : DataW Unit) = sliceData .u32 goPrintTabs.p32 := Pinned.isPrint32_eq
 have e4 : (Rows.laid_strconv_isNotPrint32 : DataW Unit) = sliceData .u16 goPrintTabs.n32 := Pinned.isNotPrint32_eq
 rw [e1] at h20
 rw [e2] at h21
 rw [e3] at h22
 rw [e4] at h23
 have hc16 : Tryz.prog.cellsOf 335 = 1 := by kernel_rfl
 have hc32 : Tryz.prog.cellsOf 231 = 1 := by kernel_rfl
 refine ⟨tabSlice_of_reads (by kernel_rfl) (by kernel_rfl) Tryz.underlying336 Tryz.underlying335 hc16 (by decide) h20, tabSlice_of_reads (by kernel_rfl) (by kernel_rfl) Tryz.underlying336 Tryz.underlying335 hc16 (by decide) h21,
  tabSlice_of_reads (by kernel_rfl) (by kernel_rfl) Tryz.underlying338 Tryz.underlying231 hc32 (by decide) h22, tabSlice_of_reads (by kernel_rfl) (by kernel_rfl) Tryz.underlying336 Tryz.underlying335 hc16 (by decide) h23, ?_, ?_, ?_⟩ <;> decide
def laidL : List (String × DataW Unit) := Rows.brokerLearnsRow.laid
theorem laid_of {w : World} (h : laidMet Tryz.prog laidL w) : LaidAt w where
 num := ⟨u10_of (laidMet.reads h (List.mem_of_getElem? (i := 3) rfl)), p10_of (laidMet.reads h (List.mem_of_getElem? (i := 7) rfl))⟩
 prt := prt_of (laidMet.reads h (List.mem_of_getElem? (i := 11) rfl)) (laidMet.reads h (List.mem_of_getElem? (i := 9) rfl)) (laidMet.reads h (List.mem_of_getElem? (i := 12) rfl)) (laidMet.reads h (List.mem_of_getElem? (i := 10) rfl))
 utf := utf_of (laidMet.reads h (List.mem_of_getElem? (i := 13) rfl)) (laidMet.reads h (List.mem_of_getElem? (i := 4) rfl))
 words := words_of (laidMet.reads h (List.mem_of_getElem? (i := 5) rfl))
theorem laid_size {w : World} (h : laidMet Tryz.prog laidL w) : 16 ≤ w.heap.size := by
 obtain ⟨g, t, cs, fuel, p, hg, hty, hvar, hd⟩ := laidMet.reads h (List.mem_of_getElem? (i := 8) rfl)
 obtain rfl := Option.some.inj ((show Tryz.prog.globalNamed "strconv.isGraphic" = some 15 by kernel_rfl).symm.trans hg)
 unfold World.var? at hvar
 rw [hg] at hvar
 simp only [Option.bind_some] at hvar
 cases hb : w.heap[(15 : Nat)]? with
 | none => rw [hb] at hvar; cases hvar
 | some o =>
  have := (Array.getElem?_eq_some_iff.1 hb).1
  omega
end Go.Proofs.YtaenebdppkjhoaaGreatDoor
