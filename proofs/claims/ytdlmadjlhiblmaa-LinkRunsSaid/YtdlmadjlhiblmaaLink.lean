/-
  The contracts of package link: what each method makes of a link, in whatever memory it lies.
-/
import Derived.Test.YtdlmadjlhiblmaaProg
import Derived.Test.YtdlmadjlhiblmaaMem
import Derived.WalkSpells
import Derived.Handy
import Derived.WalkLawsBesides
import Derived.BigRegion
import Derived.BigQuiet
import Derived.Lib.Hide
namespace Go.Proofs.Ytdlmadjlhiblmaa
open Go.RowKit

/-- A message: its kind, its place, all else. -/
structure LMsg where
  kind : Int
  at_ : Int
  rest : List Value

def LMsg.cells (m : LMsg) : List Value := .int .i64 m.kind :: .int .i64 m.at_ :: m.rest
def LMsg.ok (m : LMsg) : Prop := m.rest.length = 15 ∧ (∀ u ∈ m.rest, u.oneCell' = true) ∧ (Lit.int .i64 m.kind).wf = true ∧ (Lit.int .i64 m.at_).wf = true

theorem LMsg.ok.len {m : LMsg} (h : m.ok) : m.cells.length = 17 := by simp [LMsg.cells, h.1]
theorem LMsg.ok.one {m : LMsg} (h : m.ok) : ∀ u ∈ m.cells, u.oneCell' = true := by
  intro u hu
  simp only [LMsg.cells, List.mem_cons] at hu
  rcases hu with rfl | rfl | hu
  · rfl
  · rfl
  · exact h.2.1 u hu

def evCount (l : List LMsg) : Nat := (l.filter fun m => m.kind == 3).length
theorem evCount_le (l : List LMsg) : evCount l ≤ l.length := List.length_filter_le _ _
theorem evCount_take (l : List LMsg) (k : Nat) (h : k < l.length) : evCount (l.take (k + 1)) = evCount (l.take k) + if l[k].kind = 3 then 1 else 0 := by
  unfold evCount
  rw [List.take_succ_eq_append_getElem h, List.filter_append, List.length_append]
  by_cases hk : l[k].kind = 3 <;> simp [hk]

def flat {α : Type} (f : α → List Value) (l : List α) : List Value := l.flatMap f

theorem flat_get {α : Type} (f : α → List Value) (sz : Nat) : ∀ (l : List α) (_ : ∀ x ∈ l, (f x).length = sz) (k : Nat) (h : k < l.length) (j : Nat) (_ : j < sz), (flat f l)[k * sz + j]? = (f l[k])[j]?
  | [], _, k, h, _, _ => by simp at h
  | x :: l, hl, 0, _, j, hj => by
    have h1 : (f x).length = sz := hl x (by simp)
    simp [flat, List.getElem?_append_left (show j < (f x).length by omega)]
  | x :: l, hl, k + 1, h, j, hj => by
    have h1 : (f x).length = sz := hl x (by simp)
    have ih := flat_get f sz l (fun y hy => hl y (by simp [hy])) k (by simpa using h) j hj
    simp only [flat, List.flatMap_cons] at ih ⊢
    rw [List.getElem?_append_right (by rw [h1, Nat.add_mul]; omega), h1, show (k + 1) * sz + j - sz = k * sz + j by rw [Nat.add_mul]; omega]
    simpa using ih

theorem flat_length {α : Type} (f : α → List Value) (sz : Nat) (l : List α) (hl : ∀ x ∈ l, (f x).length = sz) : (flat f l).length = l.length * sz := by
  induction l with
  | nil => simp [flat]
  | cons x l ih =>
    have h1 : (f x).length = sz := hl x (by simp)
    have := ih fun y hy => hl y (by simp [hy])
    simp only [flat, List.flatMap_cons, List.length_append, List.length_cons] at this ⊢
    rw [this, h1, Nat.add_mul]; omega

/-- The k-th element of what reads as elements. -/
theorem RdSl.elem {α : Type} {w : World} {sz : Nat} {g off n cap : Nat} {f : α → List Value} {l : List α} (h : RdSl w sz (.slice (some ⟨g, off, none⟩) n cap) n (flat f l)) (hl : ∀ x ∈ l, (f x).length = sz) (k : Nat) (hk : k < l.length) :
    CellsAt w g (off + k * sz) (f l[k]) := by
  intro j u hu
  have hj : j < sz := by
    have := (List.getElem?_eq_some_iff.1 hu).1
    rw [hl _ (List.getElem_mem hk)] at this
    exact this
  obtain ⟨_, a, c, hv, _, _, hc⟩ := h
  cases hv
  obtain ⟨g', off', he, hc⟩ := hc _ rfl
  cases he
  have := hc (k * sz + j) u (by rw [flat_get f sz l hl k hk j hj]; exact hu)
  rwa [← Nat.add_assoc] at this

theorem msg_struct : (match Try.prog.underlying 38 with | some (.struct _) => true | some (.array _ _) => true | _ => false) = true := by kernel_rfl
theorem msg_size : (Try.prog.info? 38).map (·.size) = some 17 := by kernel_rfl

@[go_sem ↓] theorem wp_load_msg (dst : Option Tmp) (x : Operand) (type : TypeId) (pos : String) (after : Array Edge) (guard : Option (Nat × Bool)) (a : Act) (w : World) (K : Act → World → Prop) (Q : Exit → Act → World → Prop) (h : AllV w (a.eval x) 17) :
    Oper.wp Try.prog ⟨dst, .load 38 x, type, pos, after, guard⟩ a w K Q = K (a.put dst (.agg (cellsV w (a.eval x) 17))) w := wp_load_all msg_struct msg_size h

@[go_sem ↓] theorem run_load_msg (ρ : Operand → Value) (dst : Option Tmp) (x : Operand) (type : TypeId) (pos : String) (after : Array Edge) (guard : Option (Nat × Bool)) (w : World) (h : AllV w (ρ x) 17) :
    Sem.run Try.prog (execOp ρ ⟨dst, .load 38 x, type, pos, after, guard⟩) w = .ok (.value (.agg (cellsV w (ρ x) 17))) w := run_load_all msg_struct msg_size h

set_option maxHeartbeats 400000 in
theorem events_any (b g off n c : Nat) (l : List LMsg) (w : World) (h1 : w.cell? ⟨b, 1, none⟩ = some (.slice (some ⟨g, off, none⟩) n c)) (hn : n = l.length) (hl : ∀ m ∈ l, m.ok)
    (hrd : RdSl w 17 (.slice (some ⟨g, off, none⟩) n c) n (flat LMsg.cells l)) (hsz : n ≤ maxLen) :
    Calls Try.prog 28 #[.pointer (some ⟨b, 0, none⟩)] w fun e w' => e = .returned (.int .i64 (evCount l)) ∧ Mod (fun _ => False) w w' := by
  unfold maxLen at hsz
  have hel := fun k hk => hrd.elem (fun m hm => (hl m hm).len) k hk
  have Hel := Lib.hid hel; clear hel
  have Hn := Lib.hid hn; clear hn
  have Hl := Lib.hid hl; clear hl
  clear hrd
  go_enter Try.func28, Try.ntmps28
  go_wp2
  go_loopw [3, 11] (fun s i wr => ∃ k : Nat, k ≤ n ∧ i = .int .i64 k ∧ s = .int .i64 (evCount (l.take k)) ∧ Mod (fun _ => False) w wr) (fun _ i _ => n - (intOf i).toNat)
  case atStart => exact ⟨0, Nat.zero_le _, rfl, rfl, Mod.refl _ _⟩
  case round =>
    obtain ⟨k, hk, rfl, rfl, hm⟩ := hrel
    have hc := evCount_le (l.take k)
    have hcl : (l.take k).length ≤ k := List.length_take_le _ _
    by_cases hlt : k < n
    · have hkl : k < l.length := by have := Hn.out; omega
      have hcells := (Hel.out k hkl).mod hm (by simp)
      have hcl17 := (Hl.out _ (List.getElem_mem hkl)).len
      have hone := (Hl.out _ (List.getElem_mem hkl)).one
      have Hone := Lib.hid hone; clear hone
      have Hlen := Lib.hid hcl17; clear hcl17
      have hk0 : l[k].cells[0]? = some (Value.int .i64 l[k].kind) := rfl
      have hsucc := evCount_take l k hkl
      by_cases hk3 : l[k].kind = 3
      · have hb3 : (l[k].kind == 3) = true := by simp [hk3]
        rw [if_pos hk3] at hsucc
        have Hs := Lib.hid hsucc; clear hsucc hk3
        go_wp2_with (first
          | (refine wpList_load_cells rfl 38 _ rfl g (off + k * 17) rfl l[k].cells hcells msg_struct (by rw [Hlen.out]; exact msg_size) ?_)
          | (refine wpList_store_new rfl 38 _ _ rfl rfl _ _ l[k].cells rfl (by rw [Hlen.out]; rfl) (by rw [Hlen.out]; exact msg_size) Hone.out ?_))
        go_roundw
        case rel => exact ⟨k + 1, by omega, by go_num, by rw [Hs.out]; go_num, hm.alloc _⟩
        case measure => simp [intOf]; omega
      · have hb3 : (l[k].kind == 3) = false := by simp [hk3]
        rw [if_neg hk3] at hsucc
        have Hs := Lib.hid hsucc; clear hsucc hk3
        go_wp2_with (first
          | (refine wpList_load_cells rfl 38 _ rfl g (off + k * 17) rfl l[k].cells hcells msg_struct (by rw [Hlen.out]; exact msg_size) ?_)
          | (refine wpList_store_new rfl 38 _ _ rfl rfl _ _ l[k].cells rfl (by rw [Hlen.out]; rfl) (by rw [Hlen.out]; exact msg_size) Hone.out ?_))
        go_roundw
        case rel => exact ⟨k + 1, by omega, by go_num, by rw [Hs.out]; go_num, hm.alloc _⟩
        case measure => simp [intOf]; omega
    · go_wp2
      go_ret
      have : k = l.length := by have := Hn.out; omega
      subst this
      exact ⟨by simp, hm⟩

/-- Nothing waits. -/
theorem events_none (b c : Nat) (a : Option Addr) (w : World) (h1 : w.cell? ⟨b, 1, none⟩ = some (.slice a 0 c)) :
    Calls Try.prog 28 #[.pointer (some ⟨b, 0, none⟩)] w fun e w' => e = .returned (.int .i64 0) ∧ w = w' := by
  go_enter Try.func28, Try.ntmps28
  go_wp2
  go_rounds 1
  go_ret
  exact ⟨rfl, rfl⟩
end Go.Proofs.Ytdlmadjlhiblmaa
