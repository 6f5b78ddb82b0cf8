/-
  Rules in memory; package acl: of, Home, Right.
  Package acl: Right.
  Rules and ops as they are read of bytes; what was read, laid, is the bytes that were read. Plain Lean.
  copy into a row that is plain memory; append of so many noughts where there is no room; a list shifted in place.
-/
import Derived.Test.YtloplmaekonenaaGreatDoorZi7
import Derived.Test.YtloplmaekonenaaGreatDoorZi8
import Derived.Test.YtloplmaekonenaaGreatDoorZi10
import Derived.Laws.IdiomCopy
import Derived.Lib.Overlaps
namespace Go.Proofs.YtloplmaekonenaaGreatDoor
set_option maxRecDepth 20000
open Go.RowKit
structure Ru where
  kind : Int
  tenant : Int
  who : ByteArray
  broker : Int
  sc : ByteArray
  ca : Option Addr
  cc : Nat
  name : ByteArray
  at_ : Int
  cs : List Cnd
def Ru.cv (r : Ru) : Value := .slice r.ca r.cs.length r.cc
def Ru.cells (r : Ru) : List Value := [.int .i64 r.kind, .int .i64 r.tenant, .string r.who, .int .i64 r.broker, .string r.sc, .slice r.ca r.cs.length r.cc, .string r.name, .int .i64 r.at_]
theorem Ru.cells_length (a : Ru) : a.cells.length = 8 := rfl
def rus (l : List Ru) : List Value := l.flatMap Ru.cells
theorem rus_at (l : List Ru) {k j : Nat} {a : Ru} {u : Value} (h : l[k]? = some a) (hj : a.cells[j]? = some u) : (rus l)[8 * k + j]? = some u := by
  induction l generalizing k with
  | nil => simp at h
  | cons b l ih =>
    unfold rus at ih ⊢
    rw [List.flatMap_cons]
    cases k with
    | zero =>
      simp only [List.getElem?_cons_zero, Option.some.injEq] at h
      subst h
      have := (List.getElem?_eq_some_iff.1 hj).1
      rw [List.getElem?_append_left (by omega), Nat.mul_zero, Nat.zero_add, hj]
    | succ k =>
      rw [List.getElem?_cons_succ] at h
      rw [List.getElem?_append_right (by rw [Ru.cells_length]; omega), Ru.cells_length, show 8 * (k + 1) + j - 8 = 8 * k + j by omega]
      exact ih h
structure Ru.ok (w : World) (r : Ru) : Prop where
  rd : RdSl w 7 r.cv r.cs.length (cnds r.cs)
  len : r.cs.length ≤ 9223372036854775807
  who : r.who.size ≤ 9223372036854775807
  sc : r.sc.size ≤ 9223372036854775807
  name : r.name.size ≤ 9223372036854775807
  cname : ∀ c ∈ r.cs, c.name.size ≤ 9223372036854775807 ∧ c.v.text.size ≤ 9223372036854775807
theorem Ru.ok.mod {w w' : World} {r : Ru} (h : r.ok w) (hm : Mod (fun _ => False) w w') : r.ok w' := ⟨h.rd.mod hm (fun _ _ h => h), h.len, h.who, h.sc, h.name, h.cname⟩
structure RuSl (w : World) (v : Value) (l : List Ru) : Prop where
  rd : RdSl w 8 v l.length (rus l)
  ok : ∀ r ∈ l, r.ok w
theorem RuSl.mod {w w' : World} {v : Value} {l : List Ru} (h : RuSl w v l) (hm : Mod (fun _ => False) w w') : RuSl w' v l := ⟨h.rd.mod hm (fun _ _ h => h), fun r hr => (h.ok r hr).mod hm⟩
theorem rd_rule {w : World} {a : Option Addr} {cap : Nat} {l : List Ru} {j : Nat} {x : Ru} (h : RuSl w (.slice a l.length cap) l) (hx : l[j]? = some x) : ∃ g off, a = some ⟨g, off, none⟩ ∧ CellsAt w g (off + j * 8) x.cells := by
  obtain ⟨-, a', c', h1, -, h3, h4⟩ := h.rd
  cases h1
  cases a with
  | none => have := (List.getElem?_eq_some_iff.1 hx).1; exact absurd (h3 rfl) (by omega)
  | some b =>
    obtain ⟨g', off', h5, h6⟩ := h4 _ rfl (by have := (List.getElem?_eq_some_iff.1 hx).1; omega)
    refine ⟨g', off', by rw [h5], fun i u hu => ?_⟩
    have := h6 (8 * j + i) u (rus_at _ hx hu)
    rw [show off' + j * 8 + i = off' + (8 * j + i) by omega]
    exact this
def Ru.of (r : Ru) (kind tenant : Int) (who : ByteArray) : Bool := r.kind == kind && (r.tenant == tenant && r.who.toList == who.toList)
end Go.Proofs.YtloplmaekonenaaGreatDoor
namespace Go.Proofs.YtloplmaekonenaaGreatDoor
set_option maxRecDepth 20000
open Go.RowKit
def Ru.rightB (r : Ru) : Bool :=
  if r.kind = 4 then decide (0 ≤ r.at_) else
  if r.kind < 0 ∨ 4 < r.kind ∨ r.tenant < 0 ∨ 4 ≤ r.tenant ∨ isName r.who = false then false else
  if r.kind = 0 then decide (0 ≤ r.broker) && decide (r.broker < 6) else
  if r.kind = 3 then isName r.name && scRight r.sc else filRight r.sc r.cs
set_option maxHeartbeats 4000000 in
theorem acl_right (r : Ru) (w : World) (h : r.ok w) : Calls Tryz.prog 143 #[.agg r.cells.toArray] w fun e w' => e = .returned (.bool r.rightB) ∧ Mod (fun _ => False) w w' := by
  obtain ⟨wa, hwa⟩ : ∃ wa : World, w.alloc (.cells r.cells.toArray 117) = wa := ⟨_, rfl⟩
  have hmwa : Mod (fun _ => False) w wa := hwa ▸ (Mod.refl (fun _ => False) w).alloc _
  have hgwa := heap_alloc_new w (.cells r.cells.toArray 117)
  rw [hwa] at hgwa
  have hzwa : wa.heap.size = w.heap.size + 1 := by rw [← hwa]; simp
  have c0 : wa.cell? ⟨w.heap.size, 0, none⟩ = some (.int .i64 r.kind) := cell_of hgwa rfl
  have c1 : wa.cell? ⟨w.heap.size, 1, none⟩ = some (.int .i64 r.tenant) := cell_of hgwa rfl
  have c2 : wa.cell? ⟨w.heap.size, 2, none⟩ = some (.string r.who) := cell_of hgwa rfl
  have c3 : wa.cell? ⟨w.heap.size, 3, none⟩ = some (.int .i64 r.broker) := cell_of hgwa rfl
  have c4 : wa.cell? ⟨w.heap.size, 4, none⟩ = some (.string r.sc) := cell_of hgwa rfl
  have c5 : wa.cell? ⟨w.heap.size, 5, none⟩ = some (.slice r.ca r.cs.length r.cc) := cell_of hgwa rfl
  have c6 : wa.cell? ⟨w.heap.size, 6, none⟩ = some (.string r.name) := cell_of hgwa rfl
  have c7 : wa.cell? ⟨w.heap.size, 7, none⟩ = some (.int .i64 r.at_) := cell_of hgwa rfl
  have hnw := name_at r.who (by have := h.who; omega) wa
  have hnn := name_at r.name (by have := h.name; omega) wa
  have hsr := scope_right r.sc (by have := h.sc; omega) wa
  have hfr := filter_right wa r.sc r.cv r.cs (h.rd.mod hmwa (fun _ _ h => h)) (by have := h.len; omega) (by have := h.sc; omega) (fun c hc => by have := (h.cname c hc).1; omega)
  have hRd : r.rightB = r.rightB := rfl
  conv at hRd => rhs; unfold Ru.rightB
  obtain ⟨R, hR⟩ : ∃ R, r.rightB = R := ⟨_, rfl⟩
  rw [hR] at hRd ⊢
  have Hwa := Lib.hid hwa
  have Hmwa := Lib.hid hmwa
  have Hnw := Lib.hid hnw
  have Hnn := Lib.hid hnn
  have Hsr := Lib.hid hsr
  have Hfr := Lib.hid hfr
  have HRd := Lib.hid hRd
  clear hwa hmwa hnw hnn hsr hfr hRd hgwa hzwa h hR
  cases hk4 : r.kind == 4 with
  | true =>
    have e : R = decide (0 ≤ r.at_) := by rw [HRd.out, if_pos (beq_iff_eq.1 hk4)]
    rw [e]
    go_enter Tryz.func143, Tryz.ntmps143
    go_wp2_with (first | (rw [show w.alloc _ = wa from Hwa.out]) | fail)
    go_ret
    exact ⟨rfl, Hmwa.out⟩
  | false =>
  have hk4' : ¬ r.kind = 4 := by simpa using hk4
  have e4 : R = _ := HRd.out.trans (if_neg hk4')
  have E4 := Lib.hid e4
  clear e4 hk4'
  by_cases h1 : r.kind < 0
  · have e : R = false := by rw [E4.out, if_pos (.inl h1)]
    rw [e]
    go_enter Tryz.func143, Tryz.ntmps143
    go_wp2_with (first | (rw [show w.alloc _ = wa from Hwa.out]) | fail)
    go_ret
    exact ⟨rfl, Hmwa.out⟩
  by_cases h2 : 4 < r.kind
  · have e : R = false := by rw [E4.out, if_pos (.inr (.inl h2))]
    rw [e]
    go_enter Tryz.func143, Tryz.ntmps143
    go_wp2_with (first | (rw [show w.alloc _ = wa from Hwa.out]) | fail)
    go_ret
    exact ⟨rfl, Hmwa.out⟩
  by_cases h3 : r.tenant < 0
  · have e : R = false := by rw [E4.out, if_pos (.inr (.inr (.inl h3)))]
    rw [e]
    go_enter Tryz.func143, Tryz.ntmps143
    go_wp2_with (first | (rw [show w.alloc _ = wa from Hwa.out]) | fail)
    go_ret
    exact ⟨rfl, Hmwa.out⟩
  by_cases h4 : 4 ≤ r.tenant
  · have e : R = false := by rw [E4.out, if_pos (.inr (.inr (.inr (.inl h4))))]
    rw [e]
    go_enter Tryz.func143, Tryz.ntmps143
    go_wp2_with (first | (rw [show w.alloc _ = wa from Hwa.out]) | fail)
    go_ret
    exact ⟨rfl, Hmwa.out⟩
  have h1' : 0 ≤ r.kind := by omega
  have h2' : r.kind ≤ 4 := by omega
  have h3' : 0 ≤ r.tenant := by omega
  have h4' : r.tenant < 4 := by omega
  cases hn : isName r.who with
  | false =>
    have e : R = false := by rw [E4.out, if_pos (.inr (.inr (.inr (.inr hn))))]
    rw [e]
    rw [hn] at Hnw
    clear hn h1 h2 h3 h4 e
    go_enter Tryz.func143, Tryz.ntmps143
    go_wp2_with (first | (rw [show w.alloc _ = wa from Hwa.out]) | fail)
    refine Hnw.out.mono ?_
    rintro e w' ⟨rfl, rfl⟩
    go_wp2
    go_ret
    exact ⟨rfl, Hmwa.out⟩
  | true =>
  have hno : ¬ (r.kind < 0 ∨ 4 < r.kind ∨ r.tenant < 0 ∨ 4 ≤ r.tenant ∨ isName r.who = false) := by
    rintro (h | h | h | h | h)
    · exact h1 h
    · exact h2 h
    · exact h3 h
    · exact h4 h
    · rw [hn] at h; cases h
  have e5 : R = _ := E4.out.trans (if_neg hno)
  rw [hn] at Hnw
  have E5 := Lib.hid e5
  clear hn e5 hno h1 h2 h3 h4
  cases hk0 : r.kind == 0 with
  | true =>
    have e : R = (decide (0 ≤ r.broker) && decide (r.broker < 6)) := by rw [E5.out, if_pos (beq_iff_eq.1 hk0)]
    rw [e]
    clear e
    by_cases hb : 0 ≤ r.broker
    · rw [decide_eq_true hb, Bool.true_and]
      go_enter Tryz.func143, Tryz.ntmps143
      go_wp2_with (first | (rw [show w.alloc _ = wa from Hwa.out]) | fail)
      refine Hnw.out.mono ?_
      rintro e w' ⟨rfl, rfl⟩
      go_wp2
      go_ret
      exact ⟨rfl, Hmwa.out⟩
    · have hb' : r.broker < 0 := by omega
      rw [decide_eq_false hb, Bool.false_and]
      clear hb
      go_enter Tryz.func143, Tryz.ntmps143
      go_wp2_with (first | (rw [show w.alloc _ = wa from Hwa.out]) | fail)
      refine Hnw.out.mono ?_
      rintro e w' ⟨rfl, rfl⟩
      go_wp2
      go_ret
      exact ⟨rfl, Hmwa.out⟩
  | false =>
  have hk0' : ¬ r.kind = 0 := by simpa using hk0
  have e6 : R = _ := E5.out.trans (if_neg hk0')
  have E6 := Lib.hid e6
  clear e6 hk0'
  cases hk3 : r.kind == 3 with
  | true =>
    have e : R = (isName r.name && scRight r.sc) := by rw [E6.out, if_pos (beq_iff_eq.1 hk3)]
    rw [e]
    clear e
    cases hn : isName r.name with
    | false =>
      rw [hn] at Hnn
      rw [Bool.false_and]
      clear hn
      go_enter Tryz.func143, Tryz.ntmps143
      go_wp2_with (first | (rw [show w.alloc _ = wa from Hwa.out]) | fail)
      refine Hnw.out.mono ?_
      rintro e w' ⟨rfl, rfl⟩
      go_wp2_with fail
      refine Hnn.out.mono ?_
      rintro e w' ⟨rfl, rfl⟩
      go_wp2
      go_ret
      exact ⟨rfl, Hmwa.out⟩
    | true =>
      rw [hn] at Hnn
      rw [Bool.true_and]
      clear hn
      go_enter Tryz.func143, Tryz.ntmps143
      go_wp2_with (first | (rw [show w.alloc _ = wa from Hwa.out]) | fail)
      refine Hnw.out.mono ?_
      rintro e w' ⟨rfl, rfl⟩
      go_wp2_with fail
      refine Hnn.out.mono ?_
      rintro e w' ⟨rfl, rfl⟩
      go_wp2_with fail
      refine Hsr.out.mono ?_
      rintro e w2 ⟨rfl, hm2⟩
      have Hm2 := Lib.hid (Hmwa.out.trans hm2 (fun _ _ h => h))
      clear hm2
      go_wp2
      go_ret
      exact ⟨rfl, Hm2.out⟩
  | false =>
    have hk3' : ¬ r.kind = 3 := by simpa using hk3
    have e : R = filRight r.sc r.cs := by rw [E6.out, if_neg hk3']
    rw [e]
    clear e hk3'
    go_enter Tryz.func143, Tryz.ntmps143
    go_wp2_with (first | (rw [show w.alloc _ = wa from Hwa.out]) | fail)
    refine Hnw.out.mono ?_
    rintro e w' ⟨rfl, rfl⟩
    go_wp2_with fail
    refine Hfr.out.mono ?_
    rintro e w2 ⟨rfl, hm2⟩
    have Hm2 := Lib.hid (Hmwa.out.trans hm2 (fun _ _ h => h))
    clear hm2
    go_wp2
    go_ret
    exact ⟨rfl, Hm2.out⟩
end Go.Proofs.YtloplmaekonenaaGreatDoor
namespace Go.Proofs.YtloplmaekonenaaGreatDoor
set_option maxRecDepth 20000
open Go.RowKit
theorem readConds_back : ∀ (n : Nat) {bs t : List UInt8} {l : List Cnd}, readConds n bs = some (l, t) → bs = l.flatMap cndBytes ++ t ∧ l.length = n ∧ ∀ a ∈ l, a.fit
  | 0, bs, t, l, h => by
    rw [readConds_zero] at h
    cases h
    exact ⟨rfl, rfl, fun a ha => by cases ha⟩
  | n + 1, bs, t, l, h => by
    rw [readConds_succ] at h
    obtain ⟨⟨s, t1⟩, h1, h⟩ := Option.bind_eq_some_iff.1 h
    try dsimp only at h
    cases t1 with
    | nil => cases h
    | cons o t1 =>
      obtain ⟨⟨v, t2⟩, h2, h⟩ := Option.bind_eq_some_iff.1 h
      try dsimp only at h
      obtain ⟨⟨l', t3⟩, h3, h⟩ := Option.map_eq_some_iff.1 h
      try dsimp only at h
      cases h
      obtain ⟨e1, b1⟩ := readT_back h1
      obtain ⟨e2, b2, b3⟩ := readV_back h2
      obtain ⟨e3, b4, b5⟩ := readConds_back n h3
      refine ⟨?_, by rw [List.length_cons, b4], fun a ha => ?_⟩
      · rw [e1, e2, e3, List.flatMap_cons]
        unfold cndBytes
        simp only [byteOf_u8]
        simp
      · rcases List.mem_cons.1 ha with rfl | ha
        · exact ⟨b1, b2, b3⟩
        · exact b5 a ha
theorem readF_back {bs t : List UInt8} {sc : ByteArray} {l : List Cnd} (h : readF bs = some ((sc, l), t)) : bs = filBytes sc l ++ t ∧ sc.size ≤ 255 ∧ l.length ≤ 255 ∧ ∀ a ∈ l, a.fit := by
  unfold readF at h
  obtain ⟨⟨s, t1⟩, h1, h⟩ := Option.bind_eq_some_iff.1 h
  try dsimp only at h
  cases t1 with
  | nil => cases h
  | cons n u =>
    obtain ⟨⟨l', t2⟩, h2, h⟩ := Option.map_eq_some_iff.1 h
    try dsimp only at h
    cases h
    obtain ⟨e1, b1⟩ := readT_back h1
    obtain ⟨e2, b2, b3⟩ := readConds_back n.toNat h2
    have := n.toNat_lt
    refine ⟨?_, b1, by omega, b3⟩
    rw [e1, e2]
    unfold filBytes
    rw [b2, byteOf_u8]
    simp
theorem readE_back2 {bs t : List UInt8} {sc : ByteArray} {l : List Att} (h : readE bs = some ((sc, l), t)) : bs = evBytes sc l ++ t ∧ sc.size ≤ 255 ∧ l.length ≤ 255 ∧ ∀ a ∈ l, a.fit := by
  unfold readE at h
  obtain ⟨⟨s, t1⟩, h1, h⟩ := Option.bind_eq_some_iff.1 h
  try dsimp only at h
  cases t1 with
  | nil => cases h
  | cons n u =>
    obtain ⟨⟨l', t2⟩, h2, h⟩ := Option.bind_eq_some_iff.1 h
    try dsimp only at h
    try simp only at h
    split at h
    · cases h
      obtain ⟨e1, b1⟩ := readT_back h1
      obtain ⟨e2, b2, b3⟩ := readAtts_back n.toNat h2
      have := n.toNat_lt
      refine ⟨?_, b1, by omega, b3⟩
      rw [e1, e2]
      unfold evBytes
      rw [b2, byteOf_u8]
      simp
    · cases h
structure PRu where
  kind : Int
  tenant : Int
  who : ByteArray
  broker : Int
  sc : ByteArray
  cs : List Cnd
  name : ByteArray
  at_ : Int
def PRu.zero : PRu := ⟨0, 0, ⟨#[]⟩, 0, ⟨#[]⟩, [], ⟨#[]⟩, 0⟩
def PRu.lies (p : PRu) (a : Option Addr) (c : Nat) : Ru := ⟨p.kind, p.tenant, p.who, p.broker, p.sc, a, c, p.name, p.at_, p.cs⟩
def PRu.rightB (p : PRu) : Bool := (p.lies none 0).rightB
theorem PRu.lies_right (p : PRu) (a : Option Addr) (c : Nat) : (p.lies a c).rightB = p.rightB := rfl
def readB : List UInt8 → Option (Int × List UInt8)
  | [] => none
  | x :: t => some (x.toNat, t)
theorem readB_back {bs t : List UInt8} {x : Int} (h : readB bs = some (x, t)) : bs = byteOf x :: t ∧ 0 ≤ x ∧ x ≤ 255 := by
  cases bs with
  | nil => cases h
  | cons b u =>
    cases h
    have := b.toNat_lt
    exact ⟨by rw [byteOf_u8], by omega, by omega⟩
def readRu (bs : List UInt8) : Option (PRu × List UInt8) :=
  (readB bs).bind fun k => (readB k.2).bind fun te => (readT te.2).bind fun wh => (readB wh.2).bind fun br => (readF br.2).bind fun f => (readT f.2).bind fun nm => (readB nm.2).map fun a =>
    (⟨k.1, te.1, wh.1, br.1, f.1.1, f.1.2, nm.1, a.1⟩, a.2)
def txtBytes (s : ByteArray) : List UInt8 := byteOf s.size :: txt s
def ruBytes (p : PRu) : List UInt8 := [byteOf p.kind, byteOf p.tenant] ++ (txtBytes p.who ++ ([byteOf p.broker] ++ (filBytes p.sc p.cs ++ (txtBytes p.name ++ [byteOf p.at_]))))
structure PRu.fit (p : PRu) : Prop where
  who : p.who.size ≤ 255
  sc : p.sc.size ≤ 255
  name : p.name.size ≤ 255
  len : p.cs.length ≤ 255
  cs : ∀ a ∈ p.cs, a.fit
theorem PRu.zero_fit : PRu.zero.fit := ⟨Nat.zero_le _, Nat.zero_le _, Nat.zero_le _, Nat.zero_le _, fun _ h => (by cases h)⟩
theorem readRu_back {bs t : List UInt8} {p : PRu} (h : readRu bs = some (p, t)) : bs = ruBytes p ++ t ∧ p.fit := by
  unfold readRu at h
  obtain ⟨⟨k, t1⟩, h1, h⟩ := Option.bind_eq_some_iff.1 h
  try dsimp only at h
  obtain ⟨⟨te, t2⟩, h2, h⟩ := Option.bind_eq_some_iff.1 h
  try dsimp only at h
  obtain ⟨⟨wh, t3⟩, h3, h⟩ := Option.bind_eq_some_iff.1 h
  try dsimp only at h
  obtain ⟨⟨br, t4⟩, h4, h⟩ := Option.bind_eq_some_iff.1 h
  try dsimp only at h
  obtain ⟨⟨⟨sc, cs⟩, t5⟩, h5, h⟩ := Option.bind_eq_some_iff.1 h
  try dsimp only at h
  obtain ⟨⟨nm, t6⟩, h6, h⟩ := Option.bind_eq_some_iff.1 h
  try dsimp only at h
  obtain ⟨⟨a, t7⟩, h7, h⟩ := Option.map_eq_some_iff.1 h
  try dsimp only at h
  cases h
  obtain ⟨e1, -⟩ := readB_back h1
  obtain ⟨e2, -⟩ := readB_back h2
  obtain ⟨e3, b3⟩ := readT_back h3
  obtain ⟨e4, -⟩ := readB_back h4
  obtain ⟨e5, b5, b6, b7⟩ := readF_back h5
  obtain ⟨e6, b8⟩ := readT_back h6
  obtain ⟨e7, -⟩ := readB_back h7
  refine ⟨?_, b3, b5, b8, b6, b7⟩
  rw [e1, e2, e3, e4, e5, e6, e7]
  unfold ruBytes txtBytes
  simp
structure PO where
  kind : Int
  ten : Int
  who : ByteArray
  r : PRu
  esc : ByteArray
  es : List Att
  fsc : ByteArray
  fs : List Cnd
  sub : Int
  frm : Int
  to_ : Int
def PO.mk0 (kind ten : Int) : PO := ⟨kind, ten, ⟨#[]⟩, PRu.zero, ⟨#[]⟩, [], ⟨#[]⟩, [], 0, 0, 0⟩
def readO (bs : List UInt8) : Option (PO × Bool × List UInt8) :=
  (readB bs).bind fun k => (readB k.2).bind fun te =>
    if k.1 = 0 then (readRu te.2).map fun p => ({ PO.mk0 k.1 (te.1 - 1) with r := p.1 }, decide (te.1 - 1 < 4) && p.1.rightB, p.2)
    else if k.1 = 1 then (readT te.2).bind fun w => (readE w.2).map fun p => ({ PO.mk0 k.1 (te.1 - 1) with who := w.1, esc := p.1.1, es := p.1.2 }, decide (te.1 - 1 < 4), p.2)
    else if k.1 = 2 then (readT te.2).bind fun w => (readF w.2).map fun p => ({ PO.mk0 k.1 (te.1 - 1) with who := w.1, fsc := p.1.1, fs := p.1.2 }, decide (te.1 - 1 < 4), p.2)
    else if k.1 = 3 then (readT te.2).bind fun w => (readB w.2).map fun p => ({ PO.mk0 k.1 (te.1 - 1) with who := w.1, sub := p.1 }, decide (te.1 - 1 < 4), p.2)
    else if k.1 ≤ 7 then (readB te.2).bind fun w => (readB w.2).map fun p => ({ PO.mk0 k.1 (te.1 - 1) with frm := w.1, to_ := p.1 }, decide (te.1 - 1 < 4), p.2)
    else some (PO.mk0 k.1 (te.1 - 1), false, te.2)
def opBytes (o : PO) : List UInt8 := [byteOf o.kind, byteOf (o.ten + 1)] ++ (if o.kind = 0 then ruBytes o.r else if o.kind = 1 then txtBytes o.who ++ evBytes o.esc o.es else if o.kind = 2 then txtBytes o.who ++ filBytes o.fsc o.fs
  else if o.kind = 3 then txtBytes o.who ++ [byteOf o.sub] else [byteOf o.frm, byteOf o.to_])
structure PO.fit (o : PO) : Prop where
  who : o.who.size ≤ 255
  r : o.r.fit
  esc : o.esc.size ≤ 255
  elen : o.es.length ≤ 255
  es : ∀ a ∈ o.es, a.fit
  fsc : o.fsc.size ≤ 255
  flen : o.fs.length ≤ 255
  fs : ∀ a ∈ o.fs, a.fit
  k0 : 0 ≤ o.kind ∧ o.kind ≤ 255
  t0 : -1 ≤ o.ten ∧ o.ten ≤ 254
theorem PO.mk0_fit {k t : Int} (hk : 0 ≤ k ∧ k ≤ 255) (ht : -1 ≤ t ∧ t ≤ 254) : (PO.mk0 k t).fit :=
  ⟨Nat.zero_le _, PRu.zero_fit, Nat.zero_le _, Nat.zero_le _, fun _ h => (by cases h), Nat.zero_le _, Nat.zero_le _, fun _ h => (by cases h), hk, ht⟩
theorem opBytes_pos (o : PO) : 2 ≤ (opBytes o).length := by unfold opBytes; simp only [List.length_append, List.length_cons, List.length_nil]; omega
theorem readO_back {bs t : List UInt8} {o : PO} {ok : Bool} (h : readO bs = some (o, ok, t)) : o.fit ∧ (ok = true → bs = opBytes o ++ t) := by
  unfold readO at h
  obtain ⟨⟨k, t1⟩, h1, h⟩ := Option.bind_eq_some_iff.1 h
  try dsimp only at h
  obtain ⟨⟨te, t2⟩, h2, h⟩ := Option.bind_eq_some_iff.1 h
  try dsimp only at h
  obtain ⟨e1, k0, k1⟩ := readB_back h1
  obtain ⟨e2, k2, k3⟩ := readB_back h2
  have f0 : (PO.mk0 k (te - 1)).fit := PO.mk0_fit ⟨k0, k1⟩ ⟨by omega, by omega⟩
  try simp only at h
  have et : te - 1 + 1 = te := by omega
  by_cases c0 : k = 0
  · rw [if_pos c0] at h
    obtain ⟨⟨p, t3⟩, h3, h⟩ := Option.map_eq_some_iff.1 h
    try dsimp only at h
    cases h
    obtain ⟨e3, b3⟩ := readRu_back h3
    refine ⟨⟨f0.who, b3, f0.esc, f0.elen, f0.es, f0.fsc, f0.flen, f0.fs, f0.k0, f0.t0⟩, fun _ => ?_⟩
    rw [e1, e2, e3]; simp [opBytes, PO.mk0, c0]
  rw [if_neg c0] at h
  by_cases c1 : k = 1
  · rw [if_pos c1] at h
    obtain ⟨⟨w, t3⟩, h3, h⟩ := Option.bind_eq_some_iff.1 h
    try dsimp only at h
    obtain ⟨⟨⟨s, l⟩, t4⟩, h4, h⟩ := Option.map_eq_some_iff.1 h
    try dsimp only at h
    cases h
    obtain ⟨e3, b3⟩ := readT_back h3
    obtain ⟨e4, b4, b5, b6⟩ := readE_back2 h4
    refine ⟨⟨b3, f0.r, b4, b5, b6, f0.fsc, f0.flen, f0.fs, f0.k0, f0.t0⟩, fun _ => ?_⟩
    rw [e1, e2, e3, e4]; simp [opBytes, PO.mk0, txtBytes, c1]
  rw [if_neg c1] at h
  by_cases c2 : k = 2
  · rw [if_pos c2] at h
    obtain ⟨⟨w, t3⟩, h3, h⟩ := Option.bind_eq_some_iff.1 h
    try dsimp only at h
    obtain ⟨⟨⟨s, l⟩, t4⟩, h4, h⟩ := Option.map_eq_some_iff.1 h
    try dsimp only at h
    cases h
    obtain ⟨e3, b3⟩ := readT_back h3
    obtain ⟨e4, b4, b5, b6⟩ := readF_back h4
    refine ⟨⟨b3, f0.r, f0.esc, f0.elen, f0.es, b4, b5, b6, f0.k0, f0.t0⟩, fun _ => ?_⟩
    rw [e1, e2, e3, e4]; simp [opBytes, PO.mk0, txtBytes, c2]
  rw [if_neg c2] at h
  by_cases c3 : k = 3
  · rw [if_pos c3] at h
    obtain ⟨⟨w, t3⟩, h3, h⟩ := Option.bind_eq_some_iff.1 h
    try dsimp only at h
    obtain ⟨⟨x, t4⟩, h4, h⟩ := Option.map_eq_some_iff.1 h
    try dsimp only at h
    cases h
    obtain ⟨e3, b3⟩ := readT_back h3
    obtain ⟨e4, -⟩ := readB_back h4
    refine ⟨⟨b3, f0.r, f0.esc, f0.elen, f0.es, f0.fsc, f0.flen, f0.fs, f0.k0, f0.t0⟩, fun _ => ?_⟩
    rw [e1, e2, e3, e4]; simp [opBytes, PO.mk0, txtBytes, c3]
  rw [if_neg c3] at h
  by_cases c4 : k ≤ 7
  · rw [if_pos c4] at h
    obtain ⟨⟨w, t3⟩, h3, h⟩ := Option.bind_eq_some_iff.1 h
    try dsimp only at h
    obtain ⟨⟨x, t4⟩, h4, h⟩ := Option.map_eq_some_iff.1 h
    try dsimp only at h
    cases h
    obtain ⟨e3, -⟩ := readB_back h3
    obtain ⟨e4, -⟩ := readB_back h4
    refine ⟨⟨f0.who, f0.r, f0.esc, f0.elen, f0.es, f0.fsc, f0.flen, f0.fs, f0.k0, f0.t0⟩, fun _ => ?_⟩
    rw [e1, e2, e3, e4]; simp [opBytes, PO.mk0, c0, c1, c2, c3]
  rw [if_neg c4] at h
  cases h
  exact ⟨f0, fun h => by cases h⟩
inductive Dec : List UInt8 → List PO → List UInt8 → Prop where
  | nil (bs : List UInt8) : Dec bs [] bs
  | cons {bs t u : List UInt8} {o : PO} {l : List PO} (h : readO bs = some (o, true, t)) (k : Dec t l u) : Dec bs (o :: l) u
theorem Dec.snoc {bs t u : List UInt8} {l : List PO} {o : PO} (h : Dec bs l t) (k : readO t = some (o, true, u)) : Dec bs (l ++ [o]) u := by
  induction h with
  | nil bs => exact .cons k (.nil _)
  | cons h _ ih => exact .cons h (ih k)
theorem Dec.back {bs t : List UInt8} {l : List PO} (h : Dec bs l t) : bs = l.flatMap opBytes ++ t ∧ (∀ o ∈ l, o.fit) ∧ 2 * l.length + t.length ≤ bs.length := by
  induction h with
  | nil bs => exact ⟨rfl, fun _ h => (by cases h), by simp⟩
  | cons h k ih =>
    rename_i o l
    obtain ⟨i1, i2, i3⟩ := ih
    obtain ⟨f, e⟩ := readO_back h
    have e := e rfl
    have := opBytes_pos o
    refine ⟨by rw [e, i1, List.flatMap_cons, List.append_assoc], fun p hp => ?_, ?_⟩
    · rcases List.mem_cons.1 hp with rfl | hp
      · exact f
      · exact i2 p hp
    · rw [e, List.length_append, List.length_cons]
      omega
end Go.Proofs.YtloplmaekonenaaGreatDoor
namespace Go.Proofs.YtloplmaekonenaaGreatDoor
set_option maxRecDepth 20000
open Go.RowKit
theorem run_copy_row {P : Program} (w : World) (dT sT ty elem : TypeId) (sz g o dLen dCap : Nat) (a : Addr) (sLen sCap : Nat) (cs : List Value) (cur : Array Value) (t : TypeId)
    (hg : w.heap[g]? = some (.cells cur t (0, 0))) (hu : P.underlying dT = some (.slice elem)) (hs : (P.info? elem).map (·.size) = some sz) (hn : cs.length = Nat.min sLen dLen * sz)
    (hsrc : ∀ j v, cs[j]? = some v → w.cell? (a.add j) = some v) (hl : o + cs.length ≤ cur.size) (h1 : ∀ v ∈ cs, v.oneCell' = true) :
    (Builtin.copy_ #[dT, sT] ty #[.slice (some ⟨g, o, none⟩) dLen dCap, .slice (some a) sLen sCap]).run P w = .ok (goInt (Nat.min sLen dLen)) (w.setRow g (cur.toList.take o ++ cs ++ cur.toList.drop (o + cs.length)).toArray) := by
  have hld := run_loadCells_list (P := P) w a cs hsrc
  have hst := run_storeCells_at P g o t cs 0 cur w hg (by simpa using hl) h1
  simp only [Nat.add_zero] at hst
  cases hq : P.info? elem with
  | none => simp [hq] at hs
  | some i =>
    have hi : i.size = sz := by simpa [hq] using hs
    simp [Builtin.copy_, run_underlying hu, Builtin.lenOf, Builtin.firstCells, sizeOf, typeInfo, hq, hi, ← hn, hld, hst]
section
variable {P : Program} {w : World} {ops : Array Oper} {rest : List Oper} {a : Act} {Q : Exit → Act → World → Prop} {d : Option Tmp} {tp : TypeId} {pos : String} {af : Array Edge}
theorem wp_copy_run {o : Oper} {K : Act → World → Prop} (d s : Operand) (t t' : TypeId) (ho : o.op = .call { callee := .builtin .copy, args := #[d, s], argTypes := #[t, t'] })
    {v' : Value} {w' : World} (hr : (Builtin.copy_ #[t, t'] o.type #[a.eval d, a.eval s]).run P w = .ok v' w') (h : K (a.put o.dst v') w') : o.wp P a w K Q := by
  unfold Oper.wp execOp
  simp only [ho, resolve, invoke, builtin, Sem.run_bind, Sem.run_pure, Result.andThen_ok, List.map_toArray, List.map_cons, List.map_nil, hr]
  exact h
theorem wpList_copy_lit {at1 : Array TypeId} (x s : Operand)
    (h : ∃ (t t' : TypeId), at1 = #[t, t'] ∧ ∃ (v' : Value) (w' : World), (Builtin.copy_ #[t, t'] tp #[a.eval x, a.eval s]).run P w = .ok v' w' ∧ wpList P ops Q rest (a.put d v') w') :
    wpList P ops Q (⟨d, .call { callee := .builtin .copy, args := #[x, s], argTypes := at1 }, tp, pos, af, none⟩ :: rest) a w := by
  obtain ⟨t, t', rfl, v', w', hr, h⟩ := h
  exact wpList_plain rfl fun _ hK => wp_copy_run x s t t' rfl hr (hK _ _ h)
theorem wpList_append_run {at1 : Array TypeId} (x s : Operand)
    (h : ∃ (t t' : TypeId), at1 = #[t, t'] ∧ ∃ (v' : Value) (w' : World), (Builtin.append_ #[t, t'] tp #[a.eval x, a.eval s]).run P w = .ok v' w' ∧ wpList P ops Q rest (a.put d v') w') :
    wpList P ops Q (⟨d, .call { callee := .builtin .append, args := #[x, s], argTypes := at1 }, tp, pos, af, none⟩ :: rest) a w := by
  obtain ⟨t, t', rfl, v', w', hr, h⟩ := h
  refine wpList_plain rfl fun K hK => ?_
  unfold Oper.wp execOp
  simp only [resolve, invoke, builtin, Sem.run_bind, Sem.run_pure, Result.andThen_ok, List.map_toArray, List.map_cons, List.map_nil, hr]
  exact hK _ _ h
end
theorem run_store_part {P : Program} {w : World} (ty : TypeId) (g off : Nat) (cur : Array Value) (t : TypeId) (cs : List Value) (hg : w.heap[g]? = some (.cells cur t (0, 0))) (hl : off + cs.length ≤ cur.size)
    (hi : (P.info? ty).map (·.size) = some cs.length) (h1 : ∀ u ∈ cs, u.oneCell' = true) :
    (storeVar ty ⟨g, off, none⟩ (.agg cs.toArray)).run P w = .ok () (w.setRow g (cur.toList.take off ++ cs ++ cur.toList.drop (off + cs.length)).toArray) := by
  have hst := run_storeCells_at P g off t cs 0 cur w hg (by omega) h1
  cases hq : P.info? ty with
  | none => simp [hq] at hi
  | some i =>
    have hs : i.size = cs.length := by simpa [hq] using hi
    simp only [Nat.add_zero] at hst
    simp [storeVar, Value.cells, sizeOf, typeInfo, hq, hs, hst]
theorem wpList_store_part_lit {P : Program} {w : World} {ops : Array Oper} {rest : List Oper} {a : Act} {Q : Exit → Act → World → Prop} {d : Option Tmp} {tp : TypeId} {pos : String} {af : Array Edge} (ty : TypeId) (x y : Operand)
    (h : ∃ g off, a.eval x = .pointer (some ⟨g, off, none⟩) ∧ ∃ (cur : Array Value) (t : TypeId), w.heap[g]? = some (.cells cur t (0, 0)) ∧ ∃ cs : List Value, a.eval y = .agg cs.toArray ∧ off + cs.length ≤ cur.size ∧ (P.info? ty).map (·.size) = some cs.length ∧ cs.all (·.oneCell') = true ∧
      ∀ w', w' = w.setRow g (cur.toList.take off ++ cs ++ cur.toList.drop (off + cs.length)).toArray → Mod (fun k => k = g) w w' → wpList P ops Q rest (a.put d undef) w') : wpList P ops Q (⟨d, .store ty x y, tp, pos, af, none⟩ :: rest) a w := by
  obtain ⟨g, off, hx, cur, t, hg, cs, hy, hl, hi, h1, h⟩ := h
  refine wpList_plain rfl fun K hK => ?_
  have hr := run_store_part (P := P) (w := w) ty g off cur t cs hg hl hi (all_one h1)
  unfold Oper.wp execOp
  simp only [hx, hy, Instr.storeAt, Instr.sureAddr, Sem.run_bind, Sem.run_pure, Result.andThen_ok, hr]
  exact hK _ _ (h _ rfl ((Mod.refl (fun k => k = g) w).setRow (fun _ => rfl) _))
theorem run_append_zeros {P : Program} (w : World) (t u ty e : TypeId) (i : TypeInfo) (z : Value) (ht : P.underlying t = some (.slice e)) (hu : P.underlying u = some (.int .i64)) (hi : P.info? e = some i) (hz : i.zero = some z)
    (sz : Nat) (hsize : i.size = sz) (hzs : z.cells.size = sz)
    (g off n cap : Nat) (xs : List Value) (hx : RdSl w sz (.slice (some ⟨g, off, none⟩) n cap) n xs) (m : Nat) (hm : m ≤ 1000000) (hno : cap < n + m) (hbytes : (n + m) * i.bytes ≤ 140737488355328) (hmax : n + m ≤ maxLen) :
    ∃ c, n + m ≤ c ∧ c ≤ maxLen ∧ (Builtin.append_ #[t, u] ty #[.slice (some ⟨g, off, none⟩) n cap, .int .i64 (m : Int)]).run P w =
      .ok (.slice (some ⟨w.heap.size, 0, none⟩) (n + m) c) (w.drew.alloc (.cells (xs.toArray ++ (Builtin.zeroCells z.cells m ++ Builtin.zeroCells z.cells (c - (n + m)))) e)) := by
  have hai : ∀ w : World, (asInt (Value.int .i64 (m : Int))).run P w = .ok (m : Int) w := fun _ => rfl
  have hm0 : ¬ ((m : Int) < 0) := by omega
  have hm48 : ¬ (281474976710656 < (m : Int)) := by omega
  have hwr : IntKind.i64.wrap (m : Int) = m := by rw [IntKind.wrap_i64]; omega
  have hge := grownCap_ge w (n + m) cap e
  have hcm : grownCap w (n + m) cap e ≤ maxLen := grownCap_le_maxLen w (n + m) cap e hmax
  refine ⟨grownCap w (n + m) cap e, hge, hcm, ?_⟩
  obtain ⟨hxl, a2, c2, hv2, hnc, _, hcc⟩ := hx
  cases hv2
  have hcc : ∀ j u, xs[j]? = some u → w.cell? ⟨g, off + j, none⟩ = some u := fun j u hu => by
    have hn0 : 0 < n := by
      rcases Nat.eq_zero_or_pos n with h | h
      · have h1 := (List.getElem?_eq_some_iff.1 hu).1
        rw [hxl, h, Nat.zero_mul] at h1
        omega
      · exact h
    obtain ⟨g2, off2, he, h⟩ := hcc _ rfl hn0
    cases he
    exact h j u hu
  have hfo := run_firstCells_some (P := P) w.drew sz n ⟨g, off, none⟩ n cap xs hxl (fun j u hu => by rw [addr_add]; exact hcc j u hu)
  have hn : ¬ (n + m ≤ cap) := by omega
  have h0 : m ≠ 0 := by omega
  have h63' : ¬ (9223372036854775807 < ((n : Int) + (m : Int))) := by simp only [maxLen] at hmax; omega
  have h48' : ¬ (281474976710656 < Builtin.nextslicecap (n + m) cap * i.bytes) := by have := growslice_fits (bytes := i.bytes) hno hbytes; omega
  have h48m : ¬ (281474976710656 < (m : Int) * (i.bytes : Int)) := by
    have h1 : m * i.bytes ≤ (n + m) * i.bytes := Nat.mul_le_mul_right _ (by omega)
    have h2 : ((m * i.bytes : Nat) : Int) = (m : Int) * (i.bytes : Int) := by rw [Int.natCast_mul]
    omega
  simp [Builtin.append_, run_underlying ht, run_underlying hu, sizeOf, typeInfo, zeroValue, hi, hz, hsize, hai, hwr, hm0, h48m, hn, h63', h48', Question.forced, hfo, newRow, grownCap, Array.append_assoc]
  intro h
  have hz0 : Builtin.zeroCells z.cells m = #[] := Array.eq_empty_of_size_eq_zero (by rw [size_zeroCells, hzs]; exact h)
  rw [hz0, Array.empty_append]
theorem list_rep {α : Type} {L A X B C : List α} {off n : Nat} (hoff : off ≤ L.length) (h : (L.drop off).take n = A ++ (X ++ B)) (hC : C.length = X.length) (hn : n = A.length + (X.length + B.length)) :
    ((L.take (off + A.length) ++ C ++ L.drop (off + A.length + C.length)).drop off).take n = A ++ (C ++ B) := by
  obtain ⟨R, hR⟩ : ∃ R, L = L.take off ++ ((A ++ (X ++ B)) ++ R) := ⟨(L.drop off).drop n, by rw [← h, List.take_append_drop, List.take_append_drop]⟩
  have hP : (L.take off).length = off := by rw [List.length_take]; omega
  generalize L.take off = Q at hR hP
  have e1 : L.take (off + A.length) = Q ++ A := by
    rw [hR, show Q ++ (A ++ (X ++ B) ++ R) = (Q ++ A) ++ (X ++ (B ++ R)) by simp, show off + A.length = (Q ++ A).length by rw [List.length_append, hP], List.take_left]
  have e2 : L.drop (off + A.length + C.length) = B ++ R := by
    rw [hR, show Q ++ (A ++ (X ++ B) ++ R) = ((Q ++ A) ++ X) ++ (B ++ R) by simp, show off + A.length + C.length = ((Q ++ A) ++ X).length by rw [List.length_append, List.length_append, hP, hC], List.drop_left]
  rw [e1, e2, show Q ++ A ++ C ++ (B ++ R) = Q ++ ((A ++ (C ++ B)) ++ R) by simp]
  conv => lhs; arg 2; arg 1; rw [← hP]
  rw [List.drop_left, show n = (A ++ (C ++ B)).length by rw [List.length_append, List.length_append, hC]; exact hn, List.take_left]
theorem list_shift {α : Type} {L A B X : List α} {off : Nat} (hoff : off + A.length + B.length + X.length ≤ L.length) (h : (L.drop off).take (A.length + B.length) = A ++ B) :
    let L1 := L.take (off + A.length + X.length) ++ B ++ L.drop (off + A.length + X.length + B.length)
    let L2 := L1.take (off + A.length) ++ X ++ L1.drop (off + A.length + X.length)
    (L2.drop off).take (A.length + X.length + B.length) = A ++ (X ++ B) ∧ L2.length = L.length := by
  intro L1 L2
  obtain ⟨R, hR⟩ : ∃ R, L = L.take off ++ ((A ++ B) ++ R) := ⟨(L.drop off).drop (A.length + B.length), by rw [← h, List.take_append_drop, List.take_append_drop]⟩
  have hP : (L.take off).length = off := by rw [List.length_take]; omega
  generalize L.take off = Q at hR hP
  have hlen : L.length = off + A.length + B.length + R.length := by rw [hR]; simp; omega
  obtain ⟨Y, hY⟩ : ∃ Y, Y = (B ++ R).take X.length := ⟨_, rfl⟩
  have hYl : Y.length = X.length := by rw [hY, List.length_take, List.length_append]; omega
  have e1 : L.take (off + A.length + X.length) = Q ++ (A ++ Y) := by
    rw [hR, show Q ++ (A ++ B ++ R) = (Q ++ A) ++ (B ++ R) by simp only [List.append_assoc], show off + A.length + X.length = (Q ++ A).length + X.length by rw [List.length_append, hP], List.take_length_add_append, ← hY]
    simp
  obtain ⟨Z, hZ⟩ : ∃ Z, L.drop (off + A.length + X.length + B.length) = Z := ⟨_, rfl⟩
  have h1 : L1 = Q ++ (A ++ (Y ++ (B ++ Z))) := by simp only [L1, e1, hZ]; simp
  have e2 : L1.take (off + A.length) = Q ++ A := by
    rw [h1, show Q ++ (A ++ (Y ++ (B ++ Z))) = (Q ++ A) ++ (Y ++ (B ++ Z)) by simp, show off + A.length = (Q ++ A).length by rw [List.length_append, hP], List.take_left]
  have e3 : L1.drop (off + A.length + X.length) = B ++ Z := by
    rw [h1, show Q ++ (A ++ (Y ++ (B ++ Z))) = (Q ++ (A ++ Y)) ++ (B ++ Z) by simp, show off + A.length + X.length = (Q ++ (A ++ Y)).length by rw [List.length_append, List.length_append, hP, hYl]; omega, List.drop_left]
  have h2 : L2 = Q ++ ((A ++ (X ++ B)) ++ Z) := by simp only [L2, e2, e3]; simp
  refine ⟨?_, ?_⟩
  · rw [h2, show A.length + X.length + B.length = (A ++ (X ++ B)).length by rw [List.length_append, List.length_append]; omega]
    conv => lhs; arg 2; arg 1; rw [← hP]
    rw [List.drop_left, List.take_left]
  · have hZl : Z.length = L.length - (off + A.length + X.length + B.length) := by rw [← hZ, List.length_drop]
    rw [h2]
    simp only [List.length_append, hZl, hP]
    omega
end Go.Proofs.YtloplmaekonenaaGreatDoor
