/-
  A broker in memory.
-/
import Derived.Test.YtaenebdppkjhoaaGreatDoorZa34
namespace Go.Proofs.YtaenebdppkjhoaaGreatDoor
set_option maxRecDepth 20000
open Go.RowKit

/-! ### Tables and indices whose blocks have owners -/
theorem TabAt.cong {w : World} {b mo : Nat} {own own' C C' : Nat → Prop} {M : List (Int × Fil)} {N : Nat} (h : TabAt w b mo own C M N) (h1 : ∀ k, own k → own' k) (h2 : ∀ k, C k → C' k) (h3 : ∀ k, own' k → ¬ C' k) (h4 : ∀ k, own' k → k < w.heap.size) (h5 : ∀ k, C' k → k < w.heap.size) (h6 : ∀ k, C k → own' k → own k) : TabAt w b mo own' C' M N := by
  refine ⟨h.row, ⟨h1 _ h.ob.1, h1 _ h.ob.2⟩, h.ne, ?_, h.nd, h.low, h3, h4, h5, h.wf, h.sc⟩
  obtain ⟨n, f, g1, g2, g3, g4⟩ := h.om
  exact ⟨n, f, g1, g2, fun id => (g3 id).cong (fun k _ hc ho => h6 k hc ho) h1 h2 (Nat.le_refl _) (fun _ => rfl), g4⟩
theorem Tab.cong {w : World} {b : Nat} {own own' C C' : Nat → Prop} {M : List (Int × Fil)} {N : Nat} (h : Tab w b own C M N) (h1 : ∀ k, own k → own' k) (h2 : ∀ k, C k → C' k) (h3 : ∀ k, own' k → ¬ C' k) (h4 : ∀ k, own' k → k < w.heap.size) (h5 : ∀ k, C' k → k < w.heap.size) : Tab w b own' C' M N := by
  obtain ⟨mo, h⟩ := h
  exact ⟨mo, h.cong h1 h2 h3 h4 h5 (fun k hc ho => absurd (h2 k hc) (h3 k ho))⟩
/-- A table of the owner c. -/
def TabC (w : World) (ow : Ow) (c b : Nat) (M : List (Int × Fil)) (N : Nat) : Prop := Tab w b (fun k => ow k = c) (fun k => ow k = 0 ∧ k < w.heap.size) M N
theorem TabC.mov {F : Nat → Prop} {w0 w w' : World} {ow ow' : Ow} {c b : Nat} {M : List (Int × Fil)} {N : Nat} (h : TabC w ow c b M N) (hw : Owd w0 w ow) (s : Mov F w ow w' ow') (h0 : ¬ F 0) (hc : ¬ F c) (h2 : 2 ≤ c) : TabC w' ow' c b M N := by
  have h1 : Tab w' b (fun k => ow k = c) (fun k => ow k = 0 ∧ k < w.heap.size) M N := Tab.mod h s.md (fun k _ hf => by
    have hf' : F (ow k) := hf
    exact ⟨fun e => hc (by rw [← e]; exact hf'), fun e => h0 (by rw [← e.1]; exact hf')⟩)
  refine h1.cong (fun k hk => ?_) (fun k hk => ?_) (fun k hk hk2 => ?_) (fun k hk => ?_) (fun k hk => hk.2)
  · have hk' : ow k = c := hk
    show ow' k = c
    rw [s.old k (hw.hi k (by omega))]; exact hk'
  · exact ⟨by rw [s.old k hk.2]; exact hk.1, Nat.lt_of_lt_of_le hk.2 s.md.size⟩
  · have hk' : ow' k = c := hk
    have := hk2.1
    omega
  · have hk' : ow' k = c := hk
    by_cases hl : k < w'.heap.size
    · exact hl
    · rw [s.top k (by omega)] at hk'; omega
/-- What a call of that table's left is that owner's. -/
theorem TabC.new {w0 w w' : World} {ow : Ow} {c b : Nat} {own' C' : Nat → Prop} {M : List (Int × Fil)} {N : Nat} (hw : Owd w0 w ow) (h2 : 2 ≤ c) (h : Tab w' b own' C' M N) (ho : ∀ k, own' k → ow k = c ∨ w.heap.size ≤ k)
    (hC : ∀ k, C' k → (ow k = 0 ∧ k < w.heap.size) ∨ w.heap.size ≤ k) (hm : Mod (fun k => ow k = c) w w') : TabC w' (tagNew w w' ow own' C' c) c b M N := by
  have hl := h.low
  obtain ⟨mo, hat⟩ := h
  have hd := hat.dis
  refine Tab.cong (own := own') (C := C') ⟨mo, hat⟩ (fun k hk => ?_) (fun k hk => ?_) (fun k hk hk2 => ?_) (fun k hk => ?_) (fun k hk => hk.2)
  · show tagNew w w' ow own' C' c k = c
    rcases ho k hk with e | e
    · rw [tagNew_old (hw.hi k (by omega))]; exact e
    · exact tagNew_own e (hl.1 k hk) hk
  · refine ⟨?_, hl.2 k hk⟩
    rcases hC k hk with e | e
    · rw [tagNew_old e.2]; exact e.1
    · exact tagNew_C e (hl.2 k hk) (fun ho => hd k ho hk) hk
  · have hk' : tagNew w w' ow own' C' c k = c := hk
    have := hk2.1
    omega
  · have hk' : tagNew w w' ow own' C' c k = c := hk
    by_cases e : k < w.heap.size
    · exact Nat.lt_of_lt_of_le e hm.size
    · exact (tagNew_is (by omega) hk' h2).2
theorem IdxAt.cong {w : World} {b m1 m2 : Nat} {own own' C C' : Nat → Prop} {I : List (Int × Fil)} {T : Nat} (h : IdxAt w b m1 m2 own C I T) (h1 : ∀ k, own k → own' k) (h2 : ∀ k, C k → C' k) (h3 : ∀ k, own' k → ¬ C' k) (h4 : ∀ k, own' k → k < w.heap.size) (h5 : ∀ k, C' k → k < w.heap.size) : IdxAt w b m1 m2 own' C' I T := by
  refine ⟨h.row, h.nd, ⟨h1 _ h.ob.1, h1 _ h.ob.2.1, h1 _ h.ob.2.2⟩, h.ne, ?_, h.pm.cong (fun k _ hk => h1 k hk) (fun _ _ => rfl) (Nat.le_refl _), h.low, h4, h5, h.wf, h.sc⟩
  obtain ⟨f, g1, g2⟩ := h.fm
  exact ⟨f, g1, fun id => (g2 id).cong (fun k _ hc ho => absurd (h2 k hc) (h3 k ho)) h2⟩
/-- An index of the owner c. -/
def IdxC (w : World) (ow : Ow) (c b : Nat) (I : List (Int × Fil)) (T : Nat) : Prop := Idx w b (fun k => ow k = c) (fun k => ow k = 0 ∧ k < w.heap.size) I T
theorem IdxC.mov {F : Nat → Prop} {w0 w w' : World} {ow ow' : Ow} {c b : Nat} {I : List (Int × Fil)} {T : Nat} (h : IdxC w ow c b I T) (hw : Owd w0 w ow) (s : Mov F w ow w' ow') (h0 : ¬ F 0) (hc : ¬ F c) (h2 : 2 ≤ c) : IdxC w' ow' c b I T := by
  have h1 : Idx w' b (fun k => ow k = c) (fun k => ow k = 0 ∧ k < w.heap.size) I T := Idx.mod2 h s.md (fun k _ hf => by
    have hf' : F (ow k) := hf
    exact ⟨fun e => hc (by rw [← e]; exact hf'), fun e => h0 (by rw [← e.1]; exact hf')⟩)
  obtain ⟨m1, m2, h1⟩ := h1
  refine ⟨m1, m2, h1.cong (fun k hk => ?_) (fun k hk => ?_) (fun k hk hk2 => ?_) (fun k hk => ?_) (fun k hk => hk.2)⟩
  · have hk' : ow k = c := hk
    show ow' k = c
    rw [s.old k (hw.hi k (by omega))]; exact hk'
  · exact ⟨by rw [s.old k hk.2]; exact hk.1, Nat.lt_of_lt_of_le hk.2 s.md.size⟩
  · have hk' : ow' k = c := hk
    have := hk2.1
    omega
  · have hk' : ow' k = c := hk
    by_cases hl : k < w'.heap.size
    · exact hl
    · rw [s.top k (by omega)] at hk'; omega
theorem IdxC.new {w0 w w' : World} {ow : Ow} {c b : Nat} {own' C' : Nat → Prop} {I : List (Int × Fil)} {T : Nat} (hw : Owd w0 w ow) (h2 : 2 ≤ c) (h : Idx w' b own' C' I T) (ho : ∀ k, own' k → ow k = c ∨ w.heap.size ≤ k) (hd : ∀ k, own' k → ¬ C' k)
    (hC : ∀ k, C' k → (ow k = 0 ∧ k < w.heap.size) ∨ w.heap.size ≤ k) (hm : Mod (fun k => ow k = c) w w') : IdxC w' (tagNew w w' ow own' C' c) c b I T := by
  have hl := h.low
  obtain ⟨m1, m2, hat⟩ := h
  refine ⟨m1, m2, hat.cong (fun k hk => ?_) (fun k hk => ?_) (fun k hk hk2 => ?_) (fun k hk => ?_) (fun k hk => hk.2)⟩
  · show tagNew w w' ow own' C' c k = c
    rcases ho k hk with e | e
    · rw [tagNew_old (hw.hi k (by omega))]; exact e
    · exact tagNew_own e (hl.1 k hk) hk
  · refine ⟨?_, hl.2 k hk⟩
    rcases hC k hk with e | e
    · rw [tagNew_old e.2]; exact e.1
    · exact tagNew_C e (hl.2 k hk) (fun ho => hd k ho hk) hk
  · have hk' : tagNew w w' ow own' C' c k = c := hk
    have := hk2.1
    omega
  · have hk' : tagNew w w' ow own' C' c k = c := hk
    by_cases e : k < w.heap.size
    · exact Nat.lt_of_lt_of_le e hm.size
    · exact (tagNew_is (by omega) hk' h2).2

/-! ### Subscriptions, and what was told -/
/-- A filter as a map's value. -/
def FilV (w : World) (ow : Ow) : Option Value → Option Fil → Prop
  | none, none => True
  | some v, some q => ∃ a cap, v = .agg #[.string q.1, .slice a q.2.length cap] ∧ ConSl w ow 7 (.slice a q.2.length cap) q.2.length (cnds q.2)
  | _, _ => False
theorem FilV.mov {F : Nat → Prop} {w w' : World} {ow ow' : Ow} {v : Option Value} {q : Option Fil} (h : FilV w ow v q) (s : Mov F w ow w' ow') (h0 : ¬ F 0) : FilV w' ow' v q := by
  cases v <;> cases q
  · trivial
  · exact h
  · exact h
  · obtain ⟨a, cap, h1, h2⟩ := h
    exact ⟨a, cap, h1, h2.mov s h0 (by omega)⟩
def SubV (w : World) (ow : Ow) : Option Value → Option (ByteArray × Fil) → Prop
  | none, none => True
  | some v, some q => ∃ a cap, v = .agg #[.string q.1, .string q.2.1, .slice a q.2.2.length cap] ∧ ConSl w ow 7 (.slice a q.2.2.length cap) q.2.2.length (cnds q.2.2)
  | _, _ => False
theorem SubV.mov {F : Nat → Prop} {w w' : World} {ow ow' : Ow} {v : Option Value} {q : Option (ByteArray × Fil)} (h : SubV w ow v q) (s : Mov F w ow w' ow') (h0 : ¬ F 0) : SubV w' ow' v q := by
  cases v <;> cases q
  · trivial
  · exact h
  · exact h
  · obtain ⟨a, cap, h1, h2⟩ := h
    exact ⟨a, cap, h1, h2.mov s h0 (by omega)⟩
/-- A map in memory of the owner c. -/
theorem mapR_mov {F : Nat → Prop} {w w' : World} {ow ow' : Ow} {kt : TypeId} {b n c : Nat} {f : Lit → Option Value} (h : MapR w kt b n f) (ht : ow b = c) (s : Mov F w ow w' ow') (hc : ¬ F c) : MapR w' kt b n f ∧ ow' b = c := by
  refine ⟨h.mod s.md (fun hf => ?_), by rw [s.old b h.lt]; exact ht⟩
  have hf' : F (ow b) := hf
  rw [ht] at hf'
  exact hc hf'
structure SubsC (w : World) (ow : Ow) (c b : Nat) (S : List Sb) : Prop where
  tag : ow b = c
  nd : (S.map Prod.fst).Nodup
  mp : ∃ f, MapR w 3 b S.length f ∧ ∀ id : Int, SubV w ow (f (.int .i64 id)) (subF S id)
theorem SubsC.mov {F : Nat → Prop} {w w' : World} {ow ow' : Ow} {c b : Nat} {S : List Sb} (h : SubsC w ow c b S) (s : Mov F w ow w' ow') (h0 : ¬ F 0) (hc : ¬ F c) : SubsC w' ow' c b S := by
  obtain ⟨f, h1, h2⟩ := h.mp
  obtain ⟨h3, h4⟩ := mapR_mov h1 h.tag s hc
  exact ⟨h4, h.nd, f, h3, fun id => (h2 id).mov s h0⟩
/-- A map by keys that reads as a list. -/
def KeyC (w : World) (ow : Ow) (mi : Nat) (l : List Fil) : Prop := ∃ f, MapR w 9 mi l.length f ∧ ∀ k, FilV w ow (f (.string k)) (kF l k)
theorem KeyC.mov {F : Nat → Prop} {w w' : World} {ow ow' : Ow} {mi c : Nat} {l : List Fil} (h : KeyC w ow mi l) (ht : ow mi = c) (s : Mov F w ow w' ow') (h0 : ¬ F 0) (hc : ¬ F c) : KeyC w' ow' mi l ∧ ow' mi = c := by
  obtain ⟨f, h1, h2⟩ := h
  obtain ⟨h3, h4⟩ := mapR_mov h1 ht s hc
  exact ⟨⟨f, h3, fun k => (h2 k).mov s h0⟩, h4⟩
/-- What was told to a neighbour. -/
def SentV (w : World) (ow : Ow) (c mb : Nat) : Option Value → List Fil → Prop
  | none, l => l = []
  | some v, l => ∃ mi, v = .map (some mi) ∧ mi ≠ mb ∧ ow mi = c ∧ KeyC w ow mi l
theorem SentV.mov {F : Nat → Prop} {w w' : World} {ow ow' : Ow} {c mb : Nat} {v : Option Value} {l : List Fil} (h : SentV w ow c mb v l) (s : Mov F w ow w' ow') (h0 : ¬ F 0) (hc : ¬ F c) : SentV w' ow' c mb v l := by
  cases v
  · exact h
  · obtain ⟨mi, h1, h2, h3, h4⟩ := h
    obtain ⟨h5, h6⟩ := h4.mov h3 s h0 hc
    exact ⟨mi, h1, h2, h6, h5⟩
structure SentC (w : World) (ow : Ow) (c mb : Nat) (G : Int → List Fil) (K : Nat) : Prop where
  tag : ow mb = c
  mp : ∃ n f, MapR w 3 mb n f ∧ n ≤ K ∧ ∀ id : Int, SentV w ow c mb (f (.int .i64 id)) (G id)
  lt : ∀ id, (G id).Pairwise fun a b => keyF a < keyF b
theorem SentC.mov {F : Nat → Prop} {w w' : World} {ow ow' : Ow} {c mb : Nat} {G : Int → List Fil} {K : Nat} (h : SentC w ow c mb G K) (s : Mov F w ow w' ow') (h0 : ¬ F 0) (hc : ¬ F c) : SentC w' ow' c mb G K := by
  obtain ⟨n, f, h1, h2, h3⟩ := h.mp
  obtain ⟨h4, h5⟩ := mapR_mov h1 h.tag s hc
  exact ⟨h5, ⟨n, f, h4, h2, fun id => (h3 id).mov s h0 hc⟩, h.lt⟩

/-! ### A broker -/
/-- Where a broker's parts lie. -/
structure BAd where
  v : Value
  nv : Value
  tb : Nat → Nat
  ib : Nat → Nat
  sb : Nat → Nat
  mb : Nat → Nat
def ptr (b : Nat) : Value := .pointer (some ⟨b, 0, none⟩)
def BAd.rest (a : BAd) (id : Int) : List Value :=
  [.int .i64 id, a.nv, ptr (a.tb 0), ptr (a.ib 0), .map (some (a.sb 0)), .map (some (a.mb 0)), ptr (a.tb 1), ptr (a.ib 1), .map (some (a.sb 1)), .map (some (a.mb 1)),
    ptr (a.tb 2), ptr (a.ib 2), .map (some (a.sb 2)), .map (some (a.mb 2)), ptr (a.tb 3), ptr (a.ib 3), .map (some (a.sb 3)), .map (some (a.mb 3))]
/-- A realm: its parts' owners are those of the tenant t of the broker whose first owner is c. -/
structure ReaC (w : World) (ow : Ow) (c t tb ib sb mb : Nat) (R : RS) : Prop where
  tab : TabC w ow (c + 1 + t) tb R.M R.N
  idx : IdxC w ow (c + 5 + t) ib R.I R.T
  sub : SubsC w ow (c + 9 + t) sb R.S
  snt : SentC w ow (c + 13 + t) mb R.G R.K
structure BroA (w : World) (ow : Ow) (c g : Nat) (id : Int) (near : List Int) (B : BS) (a : BAd) : Prop where
  c2 : 2 ≤ c
  log : ∃ L : List Lr, LogAt w ow c (c + 17) g (a.rest id) 62 a.v L ∧ L.map Prod.fst = B.L
  near : ConSl w ow 1 a.nv near.length (near.map (Value.int .i64))
  rea : ∀ t, t < 4 → ReaC w ow c t (a.tb t) (a.ib t) (a.sb t) (a.mb t) (B.R t)
/-- A broker. -/
def Bro (w : World) (ow : Ow) (c g : Nat) (id : Int) (near : List Int) (B : BS) : Prop := ∃ a, BroA w ow c g id near B a
theorem ReaC.mov {F : Nat → Prop} {w0 w w' : World} {ow ow' : Ow} {c t tb ib sb mb : Nat} {R : RS} (h : ReaC w ow c t tb ib sb mb R) (hw : Owd w0 w ow) (s : Mov F w ow w' ow') (h0 : ¬ F 0) (hF : ¬ F (c + 1 + t) ∧ ¬ F (c + 5 + t) ∧ ¬ F (c + 9 + t) ∧ ¬ F (c + 13 + t)) (h2 : 2 ≤ c) : ReaC w' ow' c t tb ib sb mb R :=
  ⟨h.tab.mov hw s h0 hF.1 (by omega), h.idx.mov hw s h0 hF.2.1 (by omega), h.sub.mov s h0 hF.2.2.1, h.snt.mov s h0 hF.2.2.2⟩
/-- A step that is not a broker's own leaves it as it is. -/
theorem BroA.mov {F : Nat → Prop} {w0 w w' : World} {ow ow' : Ow} {c g : Nat} {id : Int} {near : List Int} {B : BS} {a : BAd} (h : BroA w ow c g id near B a) (hw : Owd w0 w ow) (s : Mov F w ow w' ow') (h0 : ¬ F 0) (hF : ∀ t, F t → t < c ∨ c + 18 ≤ t) : BroA w' ow' c g id near B a := by
  obtain ⟨L, h1, h2⟩ := h.log
  have hn : ∀ t, c ≤ t → t < c + 18 → ¬ F t := fun t h1 h2 h3 => by have := hF t h3; omega
  exact ⟨h.c2, ⟨L, h1.mov s h0 (hn c (by omega) (by omega)) (hn (c + 17) (by omega) (by omega)), h2⟩, h.near.mov s h0 (by omega), fun t ht => (h.rea t ht).mov hw s h0 ⟨hn _ (by omega) (by omega), hn _ (by omega) (by omega), hn _ (by omega) (by omega), hn _ (by omega) (by omega)⟩ h.c2⟩
theorem Bro.mov {F : Nat → Prop} {w0 w w' : World} {ow ow' : Ow} {c g : Nat} {id : Int} {near : List Int} {B : BS} (h : Bro w ow c g id near B) (hw : Owd w0 w ow) (s : Mov F w ow w' ow') (h0 : ¬ F 0) (hF : ∀ t, F t → t < c ∨ c + 18 ≤ t) : Bro w' ow' c g id near B := by
  obtain ⟨a, h⟩ := h
  exact ⟨a, h.mov hw s h0 hF⟩
end Go.Proofs.YtaenebdppkjhoaaGreatDoor
