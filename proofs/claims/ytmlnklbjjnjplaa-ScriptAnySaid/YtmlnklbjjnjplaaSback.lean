/-
  Rules and ops as they are read of bytes; what was read, laid, is the bytes that were read. Plain Lean.
-/
import Derived.Test.YtmlnklbjjnjplaaRdfil
import Derived.Test.YtmlnklbjjnjplaaBack
import Derived.Test.YtmlnklbjjnjplaaWrfil
import Derived.Test.YtmlnklbjjnjplaaAclr
namespace Go.Proofs.Ytmlnklbjjnjplaa
open Go.RowKit

theorem readConds_back : ∀ (n : Nat) {bs t : List UInt8} {l : List Cnd}, readConds n bs = some (l, t) → bs = l.flatMap cndBytes ++ t ∧ l.length = n ∧ ∀ a ∈ l, a.fit
  | 0, bs, t, l, h => by
    rw [readConds_zero] at h
    cases h
    exact ⟨rfl, rfl, fun a ha => by cases ha⟩
  | n + 1, bs, t, l, h => by
    rw [readConds_succ] at h
    obtain ⟨⟨s, t1⟩, h1, h⟩ := Option.bind_eq_some_iff.1 h
    try dsimp only at h
    cases t1 with
    | nil => cases h
    | cons o t1 =>
      obtain ⟨⟨v, t2⟩, h2, h⟩ := Option.bind_eq_some_iff.1 h
      try dsimp only at h
      obtain ⟨⟨l', t3⟩, h3, h⟩ := Option.map_eq_some_iff.1 h
      try dsimp only at h
      cases h
      obtain ⟨e1, b1⟩ := readT_back h1
      obtain ⟨e2, b2, b3⟩ := readV_back h2
      obtain ⟨e3, b4, b5⟩ := readConds_back n h3
      refine ⟨?_, by rw [List.length_cons, b4], fun a ha => ?_⟩
      · rw [e1, e2, e3, List.flatMap_cons]
        unfold cndBytes
        simp only [byteOf_u8]
        simp
      · rcases List.mem_cons.1 ha with rfl | ha
        · exact ⟨b1, b2, b3⟩
        · exact b5 a ha
theorem readF_back {bs t : List UInt8} {sc : ByteArray} {l : List Cnd} (h : readF bs = some ((sc, l), t)) : bs = filBytes sc l ++ t ∧ sc.size ≤ 255 ∧ l.length ≤ 255 ∧ ∀ a ∈ l, a.fit := by
  unfold readF at h
  obtain ⟨⟨s, t1⟩, h1, h⟩ := Option.bind_eq_some_iff.1 h
  try dsimp only at h
  cases t1 with
  | nil => cases h
  | cons n u =>
    obtain ⟨⟨l', t2⟩, h2, h⟩ := Option.map_eq_some_iff.1 h
    try dsimp only at h
    cases h
    obtain ⟨e1, b1⟩ := readT_back h1
    obtain ⟨e2, b2, b3⟩ := readConds_back n.toNat h2
    have := n.toNat_lt
    refine ⟨?_, b1, by omega, b3⟩
    rw [e1, e2]
    unfold filBytes
    rw [b2, byteOf_u8]
    simp
theorem readE_back2 {bs t : List UInt8} {sc : ByteArray} {l : List Att} (h : readE bs = some ((sc, l), t)) : bs = evBytes sc l ++ t ∧ sc.size ≤ 255 ∧ l.length ≤ 255 ∧ ∀ a ∈ l, a.fit := by
  unfold readE at h
  obtain ⟨⟨s, t1⟩, h1, h⟩ := Option.bind_eq_some_iff.1 h
  try dsimp only at h
  cases t1 with
  | nil => cases h
  | cons n u =>
    obtain ⟨⟨l', t2⟩, h2, h⟩ := Option.bind_eq_some_iff.1 h
    try dsimp only at h
    try simp only at h
    split at h
    · cases h
      obtain ⟨e1, b1⟩ := readT_back h1
      obtain ⟨e2, b2, b3⟩ := readAtts_back n.toNat h2
      have := n.toNat_lt
      refine ⟨?_, b1, by omega, b3⟩
      rw [e1, e2]
      unfold evBytes
      rw [b2, byteOf_u8]
      simp
    · cases h

/-- A rule, but for where its conditions lie. -/
structure PRu where
  kind : Int
  tenant : Int
  who : ByteArray
  broker : Int
  sc : ByteArray
  cs : List Cnd
  name : ByteArray
  at_ : Int
def PRu.zero : PRu := ⟨0, 0, ⟨#[]⟩, 0, ⟨#[]⟩, [], ⟨#[]⟩, 0⟩
def PRu.lies (p : PRu) (a : Option Addr) (c : Nat) : Ru := ⟨p.kind, p.tenant, p.who, p.broker, p.sc, a, c, p.name, p.at_, p.cs⟩
def PRu.rightB (p : PRu) : Bool := (p.lies none 0).rightB
theorem PRu.lies_right (p : PRu) (a : Option Addr) (c : Nat) : (p.lies a c).rightB = p.rightB := rfl
def readB : List UInt8 → Option (Int × List UInt8)
  | [] => none
  | x :: t => some (x.toNat, t)
theorem readB_back {bs t : List UInt8} {x : Int} (h : readB bs = some (x, t)) : bs = byteOf x :: t ∧ 0 ≤ x ∧ x ≤ 255 := by
  cases bs with
  | nil => cases h
  | cons b u =>
    cases h
    have := b.toNat_lt
    exact ⟨by rw [byteOf_u8], by omega, by omega⟩
def readRu (bs : List UInt8) : Option (PRu × List UInt8) :=
  (readB bs).bind fun k => (readB k.2).bind fun te => (readT te.2).bind fun wh => (readB wh.2).bind fun br => (readF br.2).bind fun f => (readT f.2).bind fun nm => (readB nm.2).map fun a =>
    (⟨k.1, te.1, wh.1, br.1, f.1.1, f.1.2, nm.1, a.1⟩, a.2)
def txtBytes (s : ByteArray) : List UInt8 := byteOf s.size :: txt s
def ruBytes (p : PRu) : List UInt8 := [byteOf p.kind, byteOf p.tenant] ++ (txtBytes p.who ++ ([byteOf p.broker] ++ (filBytes p.sc p.cs ++ (txtBytes p.name ++ [byteOf p.at_]))))
structure PRu.fit (p : PRu) : Prop where
  who : p.who.size ≤ 255
  sc : p.sc.size ≤ 255
  name : p.name.size ≤ 255
  len : p.cs.length ≤ 255
  cs : ∀ a ∈ p.cs, a.fit
theorem PRu.zero_fit : PRu.zero.fit := ⟨Nat.zero_le _, Nat.zero_le _, Nat.zero_le _, Nat.zero_le _, fun _ h => (by cases h)⟩
theorem readRu_back {bs t : List UInt8} {p : PRu} (h : readRu bs = some (p, t)) : bs = ruBytes p ++ t ∧ p.fit := by
  unfold readRu at h
  obtain ⟨⟨k, t1⟩, h1, h⟩ := Option.bind_eq_some_iff.1 h
  try dsimp only at h
  obtain ⟨⟨te, t2⟩, h2, h⟩ := Option.bind_eq_some_iff.1 h
  try dsimp only at h
  obtain ⟨⟨wh, t3⟩, h3, h⟩ := Option.bind_eq_some_iff.1 h
  try dsimp only at h
  obtain ⟨⟨br, t4⟩, h4, h⟩ := Option.bind_eq_some_iff.1 h
  try dsimp only at h
  obtain ⟨⟨⟨sc, cs⟩, t5⟩, h5, h⟩ := Option.bind_eq_some_iff.1 h
  try dsimp only at h
  obtain ⟨⟨nm, t6⟩, h6, h⟩ := Option.bind_eq_some_iff.1 h
  try dsimp only at h
  obtain ⟨⟨a, t7⟩, h7, h⟩ := Option.map_eq_some_iff.1 h
  try dsimp only at h
  cases h
  obtain ⟨e1, -⟩ := readB_back h1
  obtain ⟨e2, -⟩ := readB_back h2
  obtain ⟨e3, b3⟩ := readT_back h3
  obtain ⟨e4, -⟩ := readB_back h4
  obtain ⟨e5, b5, b6, b7⟩ := readF_back h5
  obtain ⟨e6, b8⟩ := readT_back h6
  obtain ⟨e7, -⟩ := readB_back h7
  refine ⟨?_, b3, b5, b8, b6, b7⟩
  rw [e1, e2, e3, e4, e5, e6, e7]
  unfold ruBytes txtBytes
  simp

/-- An op, but for where its parts lie. -/
structure PO where
  kind : Int
  ten : Int
  who : ByteArray
  r : PRu
  esc : ByteArray
  es : List Att
  fsc : ByteArray
  fs : List Cnd
  sub : Int
  frm : Int
  to_ : Int
def PO.mk0 (kind ten : Int) : PO := ⟨kind, ten, ⟨#[]⟩, PRu.zero, ⟨#[]⟩, [], ⟨#[]⟩, [], 0, 0, 0⟩
/-- The op that bytes begin with; is it one? -/
def readO (bs : List UInt8) : Option (PO × Bool × List UInt8) :=
  (readB bs).bind fun k => (readB k.2).bind fun te =>
    if k.1 = 0 then (readRu te.2).map fun p => ({ PO.mk0 k.1 (te.1 - 1) with r := p.1 }, decide (te.1 - 1 < 4) && p.1.rightB, p.2)
    else if k.1 = 1 then (readT te.2).bind fun w => (readE w.2).map fun p => ({ PO.mk0 k.1 (te.1 - 1) with who := w.1, esc := p.1.1, es := p.1.2 }, decide (te.1 - 1 < 4), p.2)
    else if k.1 = 2 then (readT te.2).bind fun w => (readF w.2).map fun p => ({ PO.mk0 k.1 (te.1 - 1) with who := w.1, fsc := p.1.1, fs := p.1.2 }, decide (te.1 - 1 < 4), p.2)
    else if k.1 = 3 then (readT te.2).bind fun w => (readB w.2).map fun p => ({ PO.mk0 k.1 (te.1 - 1) with who := w.1, sub := p.1 }, decide (te.1 - 1 < 4), p.2)
    else if k.1 ≤ 7 then (readB te.2).bind fun w => (readB w.2).map fun p => ({ PO.mk0 k.1 (te.1 - 1) with frm := w.1, to_ := p.1 }, decide (te.1 - 1 < 4), p.2)
    else some (PO.mk0 k.1 (te.1 - 1), false, te.2)
def opBytes (o : PO) : List UInt8 := [byteOf o.kind, byteOf (o.ten + 1)] ++ (if o.kind = 0 then ruBytes o.r else if o.kind = 1 then txtBytes o.who ++ evBytes o.esc o.es else if o.kind = 2 then txtBytes o.who ++ filBytes o.fsc o.fs
  else if o.kind = 3 then txtBytes o.who ++ [byteOf o.sub] else [byteOf o.frm, byteOf o.to_])
structure PO.fit (o : PO) : Prop where
  who : o.who.size ≤ 255
  r : o.r.fit
  esc : o.esc.size ≤ 255
  elen : o.es.length ≤ 255
  es : ∀ a ∈ o.es, a.fit
  fsc : o.fsc.size ≤ 255
  flen : o.fs.length ≤ 255
  fs : ∀ a ∈ o.fs, a.fit
  k0 : 0 ≤ o.kind ∧ o.kind ≤ 255
  t0 : -1 ≤ o.ten ∧ o.ten ≤ 254
theorem PO.mk0_fit {k t : Int} (hk : 0 ≤ k ∧ k ≤ 255) (ht : -1 ≤ t ∧ t ≤ 254) : (PO.mk0 k t).fit :=
  ⟨Nat.zero_le _, PRu.zero_fit, Nat.zero_le _, Nat.zero_le _, fun _ h => (by cases h), Nat.zero_le _, Nat.zero_le _, fun _ h => (by cases h), hk, ht⟩
theorem opBytes_pos (o : PO) : 2 ≤ (opBytes o).length := by unfold opBytes; simp only [List.length_append, List.length_cons, List.length_nil]; omega
theorem readO_back {bs t : List UInt8} {o : PO} {ok : Bool} (h : readO bs = some (o, ok, t)) : o.fit ∧ (ok = true → bs = opBytes o ++ t) := by
  unfold readO at h
  obtain ⟨⟨k, t1⟩, h1, h⟩ := Option.bind_eq_some_iff.1 h
  try dsimp only at h
  obtain ⟨⟨te, t2⟩, h2, h⟩ := Option.bind_eq_some_iff.1 h
  try dsimp only at h
  obtain ⟨e1, k0, k1⟩ := readB_back h1
  obtain ⟨e2, k2, k3⟩ := readB_back h2
  have f0 : (PO.mk0 k (te - 1)).fit := PO.mk0_fit ⟨k0, k1⟩ ⟨by omega, by omega⟩
  try simp only at h
  have et : te - 1 + 1 = te := by omega
  by_cases c0 : k = 0
  · rw [if_pos c0] at h
    obtain ⟨⟨p, t3⟩, h3, h⟩ := Option.map_eq_some_iff.1 h
    try dsimp only at h
    cases h
    obtain ⟨e3, b3⟩ := readRu_back h3
    refine ⟨⟨f0.who, b3, f0.esc, f0.elen, f0.es, f0.fsc, f0.flen, f0.fs, f0.k0, f0.t0⟩, fun _ => ?_⟩
    rw [e1, e2, e3]; simp [opBytes, PO.mk0, c0]
  rw [if_neg c0] at h
  by_cases c1 : k = 1
  · rw [if_pos c1] at h
    obtain ⟨⟨w, t3⟩, h3, h⟩ := Option.bind_eq_some_iff.1 h
    try dsimp only at h
    obtain ⟨⟨⟨s, l⟩, t4⟩, h4, h⟩ := Option.map_eq_some_iff.1 h
    try dsimp only at h
    cases h
    obtain ⟨e3, b3⟩ := readT_back h3
    obtain ⟨e4, b4, b5, b6⟩ := readE_back2 h4
    refine ⟨⟨b3, f0.r, b4, b5, b6, f0.fsc, f0.flen, f0.fs, f0.k0, f0.t0⟩, fun _ => ?_⟩
    rw [e1, e2, e3, e4]; simp [opBytes, PO.mk0, txtBytes, c1]
  rw [if_neg c1] at h
  by_cases c2 : k = 2
  · rw [if_pos c2] at h
    obtain ⟨⟨w, t3⟩, h3, h⟩ := Option.bind_eq_some_iff.1 h
    try dsimp only at h
    obtain ⟨⟨⟨s, l⟩, t4⟩, h4, h⟩ := Option.map_eq_some_iff.1 h
    try dsimp only at h
    cases h
    obtain ⟨e3, b3⟩ := readT_back h3
    obtain ⟨e4, b4, b5, b6⟩ := readF_back h4
    refine ⟨⟨b3, f0.r, f0.esc, f0.elen, f0.es, b4, b5, b6, f0.k0, f0.t0⟩, fun _ => ?_⟩
    rw [e1, e2, e3, e4]; simp [opBytes, PO.mk0, txtBytes, c2]
  rw [if_neg c2] at h
  by_cases c3 : k = 3
  · rw [if_pos c3] at h
    obtain ⟨⟨w, t3⟩, h3, h⟩ := Option.bind_eq_some_iff.1 h
    try dsimp only at h
    obtain ⟨⟨x, t4⟩, h4, h⟩ := Option.map_eq_some_iff.1 h
    try dsimp only at h
    cases h
    obtain ⟨e3, b3⟩ := readT_back h3
    obtain ⟨e4, -⟩ := readB_back h4
    refine ⟨⟨b3, f0.r, f0.esc, f0.elen, f0.es, f0.fsc, f0.flen, f0.fs, f0.k0, f0.t0⟩, fun _ => ?_⟩
    rw [e1, e2, e3, e4]; simp [opBytes, PO.mk0, txtBytes, c3]
  rw [if_neg c3] at h
  by_cases c4 : k ≤ 7
  · rw [if_pos c4] at h
    obtain ⟨⟨w, t3⟩, h3, h⟩ := Option.bind_eq_some_iff.1 h
    try dsimp only at h
    obtain ⟨⟨x, t4⟩, h4, h⟩ := Option.map_eq_some_iff.1 h
    try dsimp only at h
    cases h
    obtain ⟨e3, -⟩ := readB_back h3
    obtain ⟨e4, -⟩ := readB_back h4
    refine ⟨⟨f0.who, f0.r, f0.esc, f0.elen, f0.es, f0.fsc, f0.flen, f0.fs, f0.k0, f0.t0⟩, fun _ => ?_⟩
    rw [e1, e2, e3, e4]; simp [opBytes, PO.mk0, c0, c1, c2, c3]
  rw [if_neg c4] at h
  cases h
  exact ⟨f0, fun h => by cases h⟩

/-- What reading op by op comes to. -/
inductive Dec : List UInt8 → List PO → List UInt8 → Prop where
  | nil (bs : List UInt8) : Dec bs [] bs
  | cons {bs t u : List UInt8} {o : PO} {l : List PO} (h : readO bs = some (o, true, t)) (k : Dec t l u) : Dec bs (o :: l) u
theorem Dec.snoc {bs t u : List UInt8} {l : List PO} {o : PO} (h : Dec bs l t) (k : readO t = some (o, true, u)) : Dec bs (l ++ [o]) u := by
  induction h with
  | nil bs => exact .cons k (.nil _)
  | cons h _ ih => exact .cons h (ih k)
theorem Dec.back {bs t : List UInt8} {l : List PO} (h : Dec bs l t) : bs = l.flatMap opBytes ++ t ∧ (∀ o ∈ l, o.fit) ∧ 2 * l.length + t.length ≤ bs.length := by
  induction h with
  | nil bs => exact ⟨rfl, fun _ h => (by cases h), by simp⟩
  | cons h k ih =>
    rename_i o l
    obtain ⟨i1, i2, i3⟩ := ih
    obtain ⟨f, e⟩ := readO_back h
    have e := e rfl
    have := opBytes_pos o
    refine ⟨by rw [e, i1, List.flatMap_cons, List.append_assoc], fun p hp => ?_, ?_⟩
    · rcases List.mem_cons.1 hp with rfl | hp
      · exact f
      · exact i2 p hp
    · rw [e, List.length_append, List.length_cons]
      omega
end Go.Proofs.Ytmlnklbjjnjplaa
