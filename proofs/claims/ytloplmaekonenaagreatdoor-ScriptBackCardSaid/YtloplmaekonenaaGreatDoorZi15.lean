/-
  Ops and their bytes: what was laid is read again; what is cut off is none. Plain Lean.
  strings.HasPrefix; package scope: Under.
  The script of a region that draws its order, over a relation in place of a predicate: whatever of T runs makes new memory only; what is read may be read at whatever place in the script, by what is known there.
-/
import Derived.Test.YtloplmaekonenaaGreatDoorZi11
import Derived.Test.YtloplmaekonenaaGreatDoorZi14
import Derived.Lib.Strings
import Derived.Test.YtloplmaekonenaaGreatDoorZi6
import Derived.Test.YtloplmaekonenaaGreatDoorZi1
namespace Go.Proofs.YtloplmaekonenaaGreatDoor
set_option maxRecDepth 20000
open Go.RowKit
theorem readConds_app : ∀ (n : Nat) {bs t : List UInt8} {l : List Cnd} (u : List UInt8), readConds n bs = some (l, t) → readConds n (bs ++ u) = some (l, t ++ u)
  | 0, bs, t, l, u, h => by cases h; rfl
  | n + 1, bs, t, l, u, h => by
    rw [readConds_succ] at h ⊢
    obtain ⟨⟨s, t1⟩, h1, h⟩ := Option.bind_eq_some_iff.1 h
    rw [readT_app u h1]
    simp only [Option.bind_some] at h ⊢
    cases t1 with
    | nil => cases h
    | cons o t1 =>
      rw [List.cons_append]
      simp only at h ⊢
      obtain ⟨⟨v, t2⟩, h2, h⟩ := Option.bind_eq_some_iff.1 h
      rw [readV_app u h2]
      simp only [Option.bind_some] at h ⊢
      obtain ⟨⟨m, t3⟩, h3, h⟩ := Option.map_eq_some_iff.1 h
      rw [readConds_app n u h3]
      cases h
      rfl
theorem readF_app {bs t : List UInt8} {p : ByteArray × List Cnd} (u : List UInt8) (h : readF bs = some (p, t)) : readF (bs ++ u) = some (p, t ++ u) := by
  unfold readF at h ⊢
  obtain ⟨⟨s, t1⟩, h1, h⟩ := Option.bind_eq_some_iff.1 h
  rw [readT_app u h1]
  simp only [Option.bind_some] at h ⊢
  cases t1 with
  | nil => cases h
  | cons n t1 =>
    rw [List.cons_append]
    simp only at h ⊢
    obtain ⟨⟨m, t2⟩, h2, h⟩ := Option.map_eq_some_iff.1 h
    rw [readConds_app n.toNat u h2]
    cases h
    rfl
theorem readB_app {bs t : List UInt8} {x : Int} (u : List UInt8) (h : readB bs = some (x, t)) : readB (bs ++ u) = some (x, t ++ u) := by
  cases bs with
  | nil => cases h
  | cons b bs => cases h; rfl
theorem readRu_app {bs t : List UInt8} {p : PRu} (u : List UInt8) (h : readRu bs = some (p, t)) : readRu (bs ++ u) = some (p, t ++ u) := by
  unfold readRu at h ⊢
  obtain ⟨⟨k, t1⟩, h1, h⟩ := Option.bind_eq_some_iff.1 h
  rw [readB_app u h1]; simp only [Option.bind_some] at h ⊢
  obtain ⟨⟨te, t2⟩, h2, h⟩ := Option.bind_eq_some_iff.1 h
  rw [readB_app u h2]; simp only [Option.bind_some] at h ⊢
  obtain ⟨⟨wh, t3⟩, h3, h⟩ := Option.bind_eq_some_iff.1 h
  rw [readT_app u h3]; simp only [Option.bind_some] at h ⊢
  obtain ⟨⟨br, t4⟩, h4, h⟩ := Option.bind_eq_some_iff.1 h
  rw [readB_app u h4]; simp only [Option.bind_some] at h ⊢
  obtain ⟨⟨⟨sc, cs⟩, t5⟩, h5, h⟩ := Option.bind_eq_some_iff.1 h
  rw [readF_app u h5]; simp only [Option.bind_some] at h ⊢
  obtain ⟨⟨nm, t6⟩, h6, h⟩ := Option.bind_eq_some_iff.1 h
  rw [readT_app u h6]; simp only [Option.bind_some] at h ⊢
  obtain ⟨⟨a, t7⟩, h7, h⟩ := Option.map_eq_some_iff.1 h
  rw [readB_app u h7]
  cases h
  rfl
theorem readO_app {bs t : List UInt8} {o : PO} {ok : Bool} (u : List UInt8) (h : readO bs = some (o, ok, t)) : readO (bs ++ u) = some (o, ok, t ++ u) := by
  unfold readO at h ⊢
  obtain ⟨⟨k, t1⟩, h1, h⟩ := Option.bind_eq_some_iff.1 h
  rw [readB_app u h1]; simp only [Option.bind_some] at h ⊢
  obtain ⟨⟨te, t2⟩, h2, h⟩ := Option.bind_eq_some_iff.1 h
  rw [readB_app u h2]; simp only [Option.bind_some] at h ⊢
  by_cases c0 : k = 0
  · rw [if_pos c0] at h ⊢
    obtain ⟨⟨p, t3⟩, h3, h⟩ := Option.map_eq_some_iff.1 h
    rw [readRu_app u h3]
    cases h
    rfl
  rw [if_neg c0] at h ⊢
  by_cases c1 : k = 1
  · rw [if_pos c1] at h ⊢
    obtain ⟨⟨w, t3⟩, h3, h⟩ := Option.bind_eq_some_iff.1 h
    rw [readT_app u h3]; simp only [Option.bind_some] at h ⊢
    obtain ⟨⟨p, t4⟩, h4, h⟩ := Option.map_eq_some_iff.1 h
    rw [readE_app u h4]
    cases h
    rfl
  rw [if_neg c1] at h ⊢
  by_cases c2 : k = 2
  · rw [if_pos c2] at h ⊢
    obtain ⟨⟨w, t3⟩, h3, h⟩ := Option.bind_eq_some_iff.1 h
    rw [readT_app u h3]; simp only [Option.bind_some] at h ⊢
    obtain ⟨⟨p, t4⟩, h4, h⟩ := Option.map_eq_some_iff.1 h
    rw [readF_app u h4]
    cases h
    rfl
  rw [if_neg c2] at h ⊢
  by_cases c3 : k = 3
  · rw [if_pos c3] at h ⊢
    obtain ⟨⟨w, t3⟩, h3, h⟩ := Option.bind_eq_some_iff.1 h
    rw [readT_app u h3]; simp only [Option.bind_some] at h ⊢
    obtain ⟨⟨x, t4⟩, h4, h⟩ := Option.map_eq_some_iff.1 h
    rw [readB_app u h4]
    cases h
    rfl
  rw [if_neg c3] at h ⊢
  by_cases c4 : k ≤ 7
  · rw [if_pos c4] at h ⊢
    obtain ⟨⟨w, t3⟩, h3, h⟩ := Option.bind_eq_some_iff.1 h
    rw [readB_app u h3]; simp only [Option.bind_some] at h ⊢
    obtain ⟨⟨x, t4⟩, h4, h⟩ := Option.map_eq_some_iff.1 h
    rw [readB_app u h4]
    cases h
    rfl
  rw [if_neg c4] at h ⊢
  cases h
  rfl
structure Cnd.tells (c : Cnd) : Prop where
  name : c.name.size ≤ 255
  op : 0 ≤ c.op ∧ c.op ≤ 255
  v : c.v.told
def Cnd.canon (c : Cnd) : Cnd := ⟨c.name, c.op, c.v.canon⟩
theorem readConds_fwd : ∀ (l : List Cnd) (t : List UInt8), (∀ c ∈ l, c.tells) → readConds l.length (l.flatMap cndBytes ++ t) = some (l.map Cnd.canon, t)
  | [], t, _ => rfl
  | c :: l, t, h => by
    have hc := h c (by simp)
    have ih := readConds_fwd l t (fun d hd => h d (by simp [hd]))
    rw [List.length_cons, readConds_succ, List.flatMap_cons]
    have e : cndBytes c ++ l.flatMap cndBytes ++ t = (byteOf c.name.size :: txt c.name) ++ (byteOf c.op :: (valBytes c.v ++ (l.flatMap cndBytes ++ t))) := by simp [cndBytes]
    rw [e, readT_fwd c.name _ hc.name]
    simp only [Option.bind_some]
    rw [readV_fwd c.v _ hc.v]
    simp only [Option.bind_some]
    rw [ih]
    have ho : ((byteOf c.op).toNat : Int) = c.op := by
      rw [byteOf_toNat, IntKind.wrap_u8]
      have := hc.op
      omega
    simp only [Option.map_some, List.map_cons, ho]
    rfl
theorem readF_fwd (sc : ByteArray) (l : List Cnd) (t : List UInt8) (hs : sc.size ≤ 255) (hl : l.length ≤ 255) (h : ∀ c ∈ l, c.tells) : readF (filBytes sc l ++ t) = some ((sc, l.map Cnd.canon), t) := by
  have e : filBytes sc l ++ t = (byteOf sc.size :: txt sc) ++ (byteOf l.length :: (l.flatMap cndBytes ++ t)) := by simp [filBytes]
  unfold readF
  rw [e, readT_fwd sc _ hs]
  simp only [Option.bind_some]
  rw [byteOf_nat l.length hl, readConds_fwd l t h]
  rfl
theorem valBytes_canon {v : V} (h : v.told) : valBytes v.canon = valBytes v := by
  have h1 := readV_fwd v [] h
  obtain ⟨e, -⟩ := readV_back h1
  rw [List.append_nil, List.append_nil] at e
  exact e.symm
theorem cndBytes_canon {c : Cnd} (h : c.tells) : cndBytes c.canon = cndBytes c := by
  unfold cndBytes Cnd.canon
  rw [valBytes_canon h.v]
theorem flat_canon : ∀ {l : List Cnd}, (∀ c ∈ l, c.tells) → (l.map Cnd.canon).flatMap cndBytes = l.flatMap cndBytes
  | [], _ => rfl
  | c :: l, h => by
    rw [List.map_cons, List.flatMap_cons, List.flatMap_cons, cndBytes_canon (h c (by simp)), flat_canon (fun d hd => h d (by simp [hd]))]
theorem filBytes_canon {sc : ByteArray} {l : List Cnd} (h : ∀ c ∈ l, c.tells) : filBytes sc (l.map Cnd.canon) = filBytes sc l := by
  unfold filBytes
  rw [flat_canon h, List.length_map]
structure PO.tells (o : PO) : Prop where
  k : 0 ≤ o.kind ∧ o.kind ≤ 7
  t : -1 ≤ o.ten ∧ o.ten ≤ 3
  who : o.who.size ≤ 255
  ru : o.kind = 0 → readRu (ruBytes o.r) = some (o.r, []) ∧ o.r.rightB = true
  ev : o.kind = 1 → o.esc.size ≤ 255 ∧ evRight o.es = true ∧ ∀ a ∈ o.es, a.tells
  fl : o.kind = 2 → o.fsc.size ≤ 255 ∧ o.fs.length ≤ 255 ∧ ∀ c ∈ o.fs, c.tells
  sub : 0 ≤ o.sub ∧ o.sub ≤ 255
  frm : 0 ≤ o.frm ∧ o.frm ≤ 255
  to_ : 0 ≤ o.to_ ∧ o.to_ ≤ 255
theorem readB_fwd (x : Int) (t : List UInt8) (h : 0 ≤ x ∧ x ≤ 255) : readB (byteOf x :: t) = some (x, t) := by
  show some (((byteOf x).toNat : Int), t) = _
  have : ((byteOf x).toNat : Int) = x := by
    rw [byteOf_toNat, IntKind.wrap_u8]
    omega
  rw [this]
def PO.back (o : PO) : PO :=
  if o.kind = 0 then { PO.mk0 o.kind o.ten with r := o.r } else if o.kind = 1 then { PO.mk0 o.kind o.ten with who := o.who, esc := o.esc, es := o.es }
  else if o.kind = 2 then { PO.mk0 o.kind o.ten with who := o.who, fsc := o.fsc, fs := o.fs.map Cnd.canon } else if o.kind = 3 then { PO.mk0 o.kind o.ten with who := o.who, sub := o.sub }
  else { PO.mk0 o.kind o.ten with frm := o.frm, to_ := o.to_ }
theorem readO_fwd {o : PO} (h : o.tells) (t : List UInt8) : readO (opBytes o ++ t) = some (o.back, true, t) := by
  obtain ⟨hk, ht, hw, hr, he, hf, hs, h1, h2⟩ := h
  have hd : decide (o.ten < 4) = true := decide_eq_true (by omega)
  have ht2 : o.ten + 1 - 1 = o.ten := by omega
  unfold readO opBytes PO.back
  rw [List.append_assoc, List.cons_append, List.cons_append, List.nil_append, readB_fwd _ _ (by omega)]
  simp only [Option.bind_some]
  rw [readB_fwd _ _ (by omega)]
  simp only [Option.bind_some]
  rw [ht2, hd]
  by_cases c0 : o.kind = 0
  · rw [if_pos c0, if_pos c0, if_pos c0]
    obtain ⟨r1, r2⟩ := hr c0
    have r3 := readRu_app t r1
    rw [List.nil_append] at r3
    rw [r3]
    simp only [Option.map_some, Bool.true_and, r2]
  rw [if_neg c0, if_neg c0, if_neg c0]
  by_cases c1 : o.kind = 1
  · rw [if_pos c1, if_pos c1, if_pos c1]
    obtain ⟨e1, e2, e3⟩ := he c1
    have e := readT_fwd o.who (evBytes o.esc o.es ++ t) hw
    rw [show txtBytes o.who ++ evBytes o.esc o.es ++ t = (byteOf o.who.size :: txt o.who) ++ (evBytes o.esc o.es ++ t) by simp [txtBytes], e]
    simp only [Option.bind_some]
    rw [readE_fwd o.esc o.es t e1 e2 e3]
    rfl
  rw [if_neg c1, if_neg c1, if_neg c1]
  by_cases c2 : o.kind = 2
  · rw [if_pos c2, if_pos c2, if_pos c2]
    obtain ⟨e1, e2, e3⟩ := hf c2
    have e := readT_fwd o.who (filBytes o.fsc o.fs ++ t) hw
    rw [show txtBytes o.who ++ filBytes o.fsc o.fs ++ t = (byteOf o.who.size :: txt o.who) ++ (filBytes o.fsc o.fs ++ t) by simp [txtBytes], e]
    simp only [Option.bind_some]
    rw [readF_fwd o.fsc o.fs t e1 e2 e3]
    rfl
  rw [if_neg c2, if_neg c2, if_neg c2]
  by_cases c3 : o.kind = 3
  · rw [if_pos c3, if_pos c3, if_pos c3]
    have e := readT_fwd o.who (byteOf o.sub :: t) hw
    rw [show txtBytes o.who ++ [byteOf o.sub] ++ t = (byteOf o.who.size :: txt o.who) ++ (byteOf o.sub :: t) by simp [txtBytes], e]
    simp only [Option.bind_some]
    rw [readB_fwd _ _ hs]
    rfl
  rw [if_neg c3, if_neg c3, if_neg c3, if_pos (by omega)]
  rw [List.cons_append, List.cons_append, List.nil_append, readB_fwd _ _ h1]
  simp only [Option.bind_some]
  rw [readB_fwd _ _ h2]
  rfl
theorem back_bytes {o : PO} (h : o.tells) : opBytes o.back = opBytes o := by
  unfold PO.back
  by_cases c0 : o.kind = 0
  · rw [if_pos c0]; simp [opBytes, PO.mk0, c0]
  rw [if_neg c0]
  by_cases c1 : o.kind = 1
  · rw [if_pos c1]; simp [opBytes, PO.mk0, c1]
  rw [if_neg c1]
  by_cases c2 : o.kind = 2
  · rw [if_pos c2]; simp [opBytes, PO.mk0, c2, filBytes_canon (h.fl c2).2.2]
  rw [if_neg c2]
  by_cases c3 : o.kind = 3
  · rw [if_pos c3]; simp [opBytes, PO.mk0, c3]
  rw [if_neg c3]
  simp [opBytes, PO.mk0, c0, c1, c2, c3]
def EndsO (t : List UInt8) : Prop := readO t = none ∨ ∃ o t', readO t = some (o, false, t')
theorem ends_nil : EndsO [] := .inl rfl
theorem Dec.one {bs t t2 : List UInt8} {l l2 : List PO} (h : Dec bs l t) (he : EndsO t) (h2 : Dec bs l2 t2) (he2 : EndsO t2) : l2 = l ∧ t2 = t := by
  induction h generalizing l2 with
  | nil bs =>
    cases h2 with
    | nil => exact ⟨rfl, rfl⟩
    | cons h3 _ => rcases he with he | ⟨o, t', he⟩ <;> rw [he] at h3 <;> cases h3
  | cons h k ih =>
    cases h2 with
    | nil => rcases he2 with he2 | ⟨o, t', he2⟩ <;> rw [he2] at h <;> cases h
    | cons h3 k3 =>
      rw [h] at h3
      cases h3
      obtain ⟨e1, e2⟩ := ih he k3
      exact ⟨by rw [e1], e2⟩
theorem dec_fwd : ∀ (l : List PO) (t : List UInt8), (∀ o ∈ l, o.tells) → Dec (l.flatMap opBytes ++ t) (l.map PO.back) t
  | [], t, _ => .nil t
  | o :: l, t, h => by
    rw [List.flatMap_cons, List.append_assoc, List.map_cons]
    exact .cons (readO_fwd (h o (by simp)) _) (dec_fwd l t (fun p hp => h p (by simp [hp])))
theorem back_flat : ∀ {l : List PO}, (∀ o ∈ l, o.tells) → (l.map PO.back).flatMap opBytes = l.flatMap opBytes
  | [], _ => rfl
  | o :: l, h => by
    rw [List.map_cons, List.flatMap_cons, List.flatMap_cons, back_bytes (h o (by simp)), back_flat (fun p hp => h p (by simp [hp]))]
theorem dec_all {l m : List PO} {t : List UInt8} (h : ∀ o ∈ l, o.tells) (hd : Dec (l.flatMap opBytes) m t) (he : EndsO t) : m = l.map PO.back ∧ t = [] := by
  have h1 := dec_fwd l [] h
  rw [List.append_nil] at h1
  exact Dec.one h1 ends_nil hd he
theorem ends_part {o : PO} (h : o.tells) {u v : List UInt8} (e : opBytes o = u ++ v) (hv : v ≠ []) : EndsO u := by
  cases hu : readO u with
  | none => exact .inl hu
  | some p =>
    obtain ⟨q, ok, t⟩ := p
    cases ok with
    | false => exact .inr ⟨q, t, hu⟩
    | true =>
      have h1 := readO_app v hu
      rw [← e] at h1
      have h2 := readO_fwd h []
      rw [List.append_nil, h1] at h2
      simp only [Option.some.injEq, Prod.mk.injEq] at h2
      exact absurd (List.append_eq_nil_iff.1 h2.2.2).2 hv
theorem dec_cut {l m : List PO} {t : List UInt8} {n c : Nat} (h : ∀ o ∈ l, o.tells) (hn : n ≤ l.length) (h1 : ((l.take n).flatMap opBytes).length ≤ c) (h2 : n < l.length → c < ((l.take (n + 1)).flatMap opBytes).length)
    (hc : c ≤ (l.flatMap opBytes).length) (hd : Dec ((l.flatMap opBytes).take c) m t) (he : EndsO t) : m = (l.take n).map PO.back := by
  have hspl : l.flatMap opBytes = (l.take n).flatMap opBytes ++ (l.drop n).flatMap opBytes := by rw [← List.flatMap_append, List.take_append_drop]
  have htk : (l.flatMap opBytes).take c = (l.take n).flatMap opBytes ++ ((l.drop n).flatMap opBytes).take (c - ((l.take n).flatMap opBytes).length) := by
    rw [hspl, List.take_append, List.take_of_length_le h1]
  have hends : EndsO (((l.drop n).flatMap opBytes).take (c - ((l.take n).flatMap opBytes).length)) := by
    by_cases hlt : n < l.length
    · have h3 := h2 hlt
      rw [List.take_add_one, List.getElem?_eq_getElem hlt, Option.toList_some, List.flatMap_append, List.length_append] at h3
      rw [List.drop_eq_getElem_cons hlt, List.flatMap_cons]
      have hlo : ([l[n]].flatMap opBytes).length = (opBytes l[n]).length := by simp
      rw [hlo] at h3
      rw [List.take_append_of_le_length (by omega)]
      refine ends_part (h l[n] (List.getElem_mem hlt)) (List.take_append_drop _ _).symm (fun e => ?_)
      have := congrArg List.length e
      rw [List.length_drop, List.length_nil] at this
      omega
    · rw [List.drop_of_length_le (by omega)]
      simp [ends_nil]
  rw [htk] at hd
  have h4 := dec_fwd (l.take n) (((l.drop n).flatMap opBytes).take (c - ((l.take n).flatMap opBytes).length)) (fun o ho => h o (List.mem_of_mem_take ho))
  exact (Dec.one h4 hends hd he).1
end Go.Proofs.YtloplmaekonenaaGreatDoor
namespace Go.Proofs.YtloplmaekonenaaGreatDoor
set_option maxRecDepth 20000
open Go.RowKit
def prefB (s p : ByteArray) : Bool := p.data.toList.isPrefixOf s.data.toList
theorem prefix_short {s p : ByteArray} (h : s.size < p.size) : prefB s p = false := by
  unfold prefB
  rw [Bool.eq_false_iff]
  intro hp
  have := (List.isPrefixOf_iff_prefix.1 hp).length_le
  have h1 : p.data.toList.length = p.size := rfl
  have h2 : s.data.toList.length = s.size := rfl
  omega
theorem prefix_take {s p : ByteArray} : ((s.extract 0 p.size).toList == p.toList) = prefB s p := by
  unfold prefB
  rw [ByteArray.toList_eq, ByteArray.toList_eq, Bool.eq_iff_iff, beq_iff_eq, List.isPrefixOf_iff_prefix, List.prefix_iff_eq_take]
  have h1 : (s.extract 0 p.size).data.toList = s.data.toList.take p.size := by
    rw [ByteArray.data_extract, Array.toList_extract]
    simp
  rw [h1]
  have h2 : p.data.toList.length = p.size := rfl
  rw [h2]
  exact ⟨fun h => h.symm, fun h => h.symm⟩
theorem prefixl_at (s p : ByteArray) (hs : s.size ≤ 9223372036854775807) (hp : p.size ≤ 9223372036854775807) (w : World) : Calls Tryz.prog 126 #[.string s, .string p] w fun e w' => e = .returned (.bool (prefB s p)) ∧ w' = w := by
  have hs' : (s.size : Int) ≤ 9223372036854775807 := by omega
  have hp' : (p.size : Int) ≤ 9223372036854775807 := by omega
  by_cases h : p.size ≤ s.size
  · have h' : (p.size : Int) ≤ s.size := by omega
    rw [← prefix_take]
    clear hs hp
    go_enter Tryz.func126, Tryz.ntmps126
    go_wp2
    go_ret
    exact ⟨rfl, rfl⟩
  · have h' : (s.size : Int) < p.size := by omega
    rw [prefix_short (by omega)]
    clear hs hp h
    go_enter Tryz.func126, Tryz.ntmps126
    go_wp2
    go_ret
    exact ⟨rfl, rfl⟩
theorem prefix_at (s p : ByteArray) (hs : s.size ≤ 9223372036854775807) (hp : p.size ≤ 9223372036854775807) (w : World) : Calls Tryz.prog 83 #[.string s, .string p] w fun e w' => e = .returned (.bool (prefB s p)) ∧ w' = w := by
  have Hc := Lib.hid (prefixl_at s p hs hp w)
  clear hs hp
  go_enter Tryz.func83, Tryz.ntmps83
  go_wp2_with fail
  refine Hc.out.mono ?_
  rintro e w' ⟨rfl, rfl⟩
  go_wp2
  go_ret
  exact ⟨rfl, rfl⟩
end Go.Proofs.YtloplmaekonenaaGreatDoor
namespace Go.Proofs.YtloplmaekonenaaGreatDoor
set_option maxRecDepth 20000
open Go.RowKit
section
variable {P : Program} {ops : Array Oper} {Q : Exit → Act → World → Prop} {md : Region.Mode} {T : Nat → Bool}
def wpAnyR (P : Program) (md : Region.Mode) (ops : Array Oper) (Q : Exit → Act → World → Prop) (T : Nat → Bool) : Nat → Array Bool → Act → World → Prop
  | 0, listed, a, w => Region.ready md ops listed = [] ∧ Q .normal a w
  | fuel + 1, listed, a, w =>
    (Region.ready md ops listed = [] → Q .normal a w) ∧
    ∀ i ∈ Region.ready md ops listed, wpOp P ops Q i (fun a' w' => (T i = true → Mod (fun _ => False) w w') ∧ wpAnyR P md ops Q T fuel (listed.setIfInBounds i true) a' w') a w
theorem wpAny_of_R : ∀ (fuel : Nat) (listed : Array Bool) (a : Act) (w : World), wpAnyR P md ops Q T fuel listed a w → wpAny P md ops Q fuel listed a w
  | 0, _, _, _, h => h
  | fuel + 1, _, _, _, h => ⟨h.1, fun i hi => wpOp_mono (fun a' w' h' => wpAny_of_R fuel _ a' w' h'.2) (h.2 i hi)⟩
theorem wpAnyR_first {S' : World → Prop} {i : Nat} {oi : Oper} {v : Value} (hi : ops[i]? = some oi) (hsel : ∀ (j : Nat) (o : Oper) cs b, ops[j]? = some o → o.op ≠ .select cs b)
    (hQ : ∀ c a w, Q (.panic c) (a.put oi.dst v) w → Q (.panic c) a w) :
    ∀ (fuel : Nat) (listed : Array Bool) (a : Act) (w : World), ClosedL md ops listed →
      (∀ j oj, ops[j]? = some oj → j ≠ i → listed.getD j true = false → (∀ e ∈ oj.after, Region.binds md e = true → e.on ≠ i) → oi.apart ops oj = true) →
      (∀ j, j < ops.size → j ≠ i → listed.getD j true = false → reachB md ops ops.size j i = false → ∀ w w', (T j = true → Mod (fun _ => False) w w') → S' w → S' w') →
      i ∈ Region.ready md ops listed → YieldsIf P ops S' oi v a → S' w →
      wpAnyR P md ops Q T fuel (listed.setIfInBounds i true) (a.put oi.dst v) w → wpAnyR P md ops Q T (fuel + 1) listed a w := by
  intro fuel
  induction fuel with
  | zero =>
    intro listed a w hc _ _ hr hy hS' H
    refine ⟨fun h => (by rw [h] at hr; cases hr), fun j hj => ?_⟩
    by_cases hji : j = i
    · subst hji; exact hy.wpOp hi hS' ⟨fun _ => Mod.refl _ _, H⟩
    · have := ready_mono hj hji
      rw [H.1] at this
      cases this
  | succ fuel ih =>
    intro listed a w hc hfree hT hr hy hS' H
    refine ⟨fun h => (by rw [h] at hr; cases hr), fun j hj => ?_⟩
    by_cases hji : j = i
    · subst hji; exact hy.wpOp hi hS' ⟨fun _ => Mod.refl _ _, H⟩
    · have h1 := H.2 j (ready_mono hj hji)
      obtain ⟨hjun, oj, hoj, hall⟩ := mem_ready.1 hj
      have hiun : listed.getD i false = false := by
        have h0 := (mem_ready.1 hr).1
        rcases Nat.lt_or_ge i listed.size with h' | h'
        · simp [h'] at h0 ⊢; exact h0
        · simp [Array.getElem?_eq_none h'] at h0
      have hnot : ∀ e ∈ oj.after, Region.binds md e = true → e.on ≠ i := fun e he hb heq => by
        have h1 := hall e he hb
        rw [heq, hiun] at h1
        cases h1
      have hreach : reachB md ops ops.size j i = false := by
        cases hb : reachB md ops ops.size j i with
        | false => rfl
        | true => have := reach_ready hc hj hb; rw [hiun] at this; cases this
      have h2 := wpOp_putIf hoj (hfree j oj hoj hji hjun hnot) (fun cs b => hsel i oi cs b hi) (fun cs b => hsel j oj cs b hoj) hQ hy h1
      have hfree' : ∀ k ok, ops[k]? = some ok → k ≠ i → (listed.setIfInBounds j true).getD k true = false →
          (∀ e ∈ ok.after, Region.binds md e = true → e.on ≠ i) → oi.apart ops ok = true := fun k ok hk hki hun hno => by
        refine hfree k ok hk hki ?_ hno
        by_cases hjk : j = k
        · subst hjk; exact hjun
        · rw [getD_set_ne true hjk] at hun; exact hun
      have hT' : ∀ k, k < ops.size → k ≠ i → (listed.setIfInBounds j true).getD k true = false → reachB md ops ops.size k i = false → ∀ w w', (T k = true → Mod (fun _ => False) w w') → S' w → S' w' := fun k hks hki hun hno => by
        refine hT k hks hki ?_ hno
        by_cases hjk : j = k
        · subst hjk; exact hjun
        · rw [getD_set_ne true hjk] at hun; exact hun
      have hSj := hT j (Array.getElem?_eq_some_iff.1 hoj).1 hji hjun hreach
      refine wpOp_mono (fun a' w' h3 => ?_) h2
      obtain ⟨hy3, hTS, H3⟩ := h3
      exact ⟨hTS, ih (listed.setIfInBounds j true) a' w' (hc.set hj) hfree' hT' (ready_mono hr (Ne.symm hji)) hy3 (hSj w w' hTS hS') (by rw [Array.setIfInBounds_comm _ _ hji]; exact H3)⟩
def goR (P : Program) (ops : Array Oper) (Q : Exit → Act → World → Prop) (T : Nat → Bool) (i : Nat) (K : Act → World → Prop) (a : Act) (w : World) : Prop :=
  wpOp P ops Q i (fun a' w' => (T i = true → Mod (fun _ => False) w w') ∧ K a' w') a w
def walkR (P : Program) (ops : Array Oper) (Q : Exit → Act → World → Prop) (T : Nat → Bool) : List Stp → Act → World → Prop
  | [], a, w => Q .normal a w
  | .rd i :: r, a, w => ∀ o, ops[i]? = some o → ∃ S : World → Prop, (∀ w w', Mod (fun _ => False) w w' → S w → S w') ∧ (pureOp o.op = false → S w) ∧ ∃ v, YieldsIf P ops (fun w => pureOp o.op = false → S w) o v a ∧ walkR P ops Q T r (a.put o.dst v) w
  | .go i :: r, a, w => goR P ops Q T i (fun a' w' => walkR P ops Q T r a' w') a w
  | .both i j :: r, a, w => goR P ops Q T i (goR P ops Q T j (fun a' w' => walkR P ops Q T r a' w')) a w ∧ goR P ops Q T j (goR P ops Q T i (fun a' w' => walkR P ops Q T r a' w')) a w
theorem goR_mono {i : Nat} {K K' : Act → World → Prop} {a : Act} {w : World} (h : ∀ a w, K a w → K' a w) (hh : goR P ops Q T i K a w) : goR P ops Q T i K' a w :=
  wpOp_mono (fun a' w' h' => ⟨h'.1, h a' w' h'.2⟩) hh
theorem walkR_all (hsel : Region.noSelect ops = true) (hQ : ∀ (c : List PanicEntry) (a : Act) (d : Option Tmp) (v : Value) (w : World), Q (.panic c) (a.put d v) w → Q (.panic c) a w) :
    ∀ (r : List Stp) (listed : Array Bool) (a : Act) (w : World), scriptOk md ops T r listed = true → ClosedL md ops listed → walkR P ops Q T r a w → wpAnyR P md ops Q T (count r) listed a w
  | [], listed, a, w, hok, _, h => by
    simp only [scriptOk, List.isEmpty_iff] at hok
    exact ⟨hok, h⟩
  | .rd i :: r, listed, a, w, hok, hc, h => by
    simp only [scriptOk, Bool.and_eq_true, decide_eq_true_eq] at hok
    obtain ⟨⟨⟨⟨hi, hf⟩, hr⟩, hp⟩, hok⟩ := hok
    obtain ⟨o, ho⟩ : ∃ o, ops[i]? = some o := ⟨_, Array.getElem?_eq_getElem hi⟩
    obtain ⟨S, hstab, hSw, v, hy, h⟩ := h o ho
    have hri : i ∈ Region.ready md ops listed := by simpa using hr
    exact wpAnyR_first (T := T) (S' := fun w => pureOp o.op = false → S w) ho (Region.noSelect_spec hsel) (fun c a w => hQ c a o.dst v w) (count r) listed a w hc (Region.free_spec ho hf)
      (fun j hj hji hun hre w w' hT h hpf => by
        simp only [ho, Option.map_some, Option.getD_some, hpf, Bool.false_or, List.all_eq_true, List.mem_range, Bool.or_eq_true, beq_iff_eq] at hp
        rcases hp j hj with ((h1 | h1) | h1) | h1
        · exact absurd h1 hji
        · rw [hun] at h1; cases h1
        · rw [hre] at h1; cases h1
        · exact hstab _ _ (hT h1) (h hpf))
      hri hy hSw (walkR_all hsel hQ r (listed.setIfInBounds i true) (a.put o.dst v) w hok (hc.set hri) h)
  | .go i :: r, listed, a, w, hok, hc, h => by
    simp only [scriptOk, Bool.and_eq_true, beq_iff_eq] at hok
    obtain ⟨hr, hok⟩ := hok
    have hri : i ∈ Region.ready md ops listed := by rw [hr]; simp
    refine ⟨fun h0 => (by rw [hr] at h0; cases h0), fun j hj => ?_⟩
    rw [hr] at hj
    obtain rfl : j = i := by simpa using hj
    have h : goR P ops Q T j (fun a' w' => walkR P ops Q T r a' w') a w := h
    exact wpOp_mono (fun a' w' h' => ⟨h'.1, walkR_all hsel hQ r _ a' w' hok (hc.set hri) h'.2⟩) h
  | .both i j :: r, listed, a, w, hok, hc, h => by
    simp only [scriptOk, Bool.and_eq_true, beq_iff_eq, decide_eq_true_eq] at hok
    obtain ⟨⟨⟨⟨hij, hr⟩, hr1⟩, hr2⟩, hok⟩ := hok
    have hri : i ∈ Region.ready md ops listed := by rw [hr]; simp
    have hrj : j ∈ Region.ready md ops listed := by rw [hr]; simp
    have hrj2 : j ∈ Region.ready md ops (listed.setIfInBounds i true) := by rw [hr1]; simp
    refine ⟨fun h0 => (by rw [hr] at h0; cases h0), fun k hk => ?_⟩
    rw [hr] at hk
    have hk' : k = i ∨ k = j := by simpa using hk
    have hA : goR P ops Q T i (goR P ops Q T j (fun a' w' => walkR P ops Q T r a' w')) a w := h.1
    have hB : goR P ops Q T j (goR P ops Q T i (fun a' w' => walkR P ops Q T r a' w')) a w := h.2
    rcases hk' with rfl | rfl
    · refine wpOp_mono (fun a' w' h' => ⟨h'.1, ?_⟩) hA
      refine ⟨fun h0 => (by rw [hr1] at h0; cases h0), fun k' hk' => ?_⟩
      rw [hr1] at hk'
      obtain rfl : k' = j := by simpa using hk'
      exact wpOp_mono (fun a' w' h' => ⟨h'.1, walkR_all hsel hQ r _ a' w' hok ((hc.set hri).set hrj2) h'.2⟩) h'.2
    · refine wpOp_mono (fun a' w' h' => ⟨h'.1, ?_⟩) hB
      refine ⟨fun h0 => (by rw [hr2] at h0; cases h0), fun k' hk' => ?_⟩
      rw [hr2] at hk'
      obtain rfl : k' = i := by simpa using hk'
      rw [Array.setIfInBounds_comm _ _ hij.symm]
      exact wpOp_mono (fun a' w' h' => ⟨h'.1, walkR_all hsel hQ r _ a' w' hok ((hc.set hri).set hrj2) h'.2⟩) h'.2
structure WR (P : Program) (ops : Array Oper) (Q : Exit → Act → World → Prop) (T : Nat → Bool) (r : List Stp) (a : Act) (w : World) : Prop where
  out : walkR P ops Q T r a w
structure GR (P : Program) (ops : Array Oper) (Q : Exit → Act → World → Prop) (T : Nat → Bool) (i : Nat) (K : Act → World → Prop) (a : Act) (w : World) : Prop where
  out : goR P ops Q T i K a w
theorem wp_region_news2 {id : Nat} {a : Act} {w : World} {l : List Oper} (r : List Stp) (ks : List Nat) (hm : P.follows .mixedOrders = true)
    (hB : (Region.noSelect l.toArray && (decide (count r = l.length) && scriptOk .any l.toArray (fun j => ks.contains j) r (Array.replicate l.toArray.size false))) = true)
    (hQ : ∀ (c : List PanicEntry) (a : Act) (d : Option Tmp) (v : Value) (w : World), Q (.panic c) (a.put d v) w → Q (.panic c) a w)
    (h : WR P l.toArray Q (fun j => ks.contains j) r a w.drew) : (Code.region id l.toArray true).wp P Q a w := by
  simp only [Bool.and_eq_true, decide_eq_true_eq] at hB
  obtain ⟨hsel, hlen, hok⟩ := hB
  have hcl : ClosedL .any l.toArray (Array.replicate l.toArray.size false) := fun j oj _ hl => by
    exfalso
    rcases Nat.lt_or_ge j l.toArray.size with h' | h' <;> simp_all
  refine wp_region_any hm (wpAny_of_R (T := fun j => ks.contains j) _ _ _ _ ?_)
  have key := walkR_all (md := .any) (ops := l.toArray) (P := P) (Q := Q) (T := fun j => ks.contains j) hsel hQ r (Array.replicate l.toArray.size false) a w.drew hok hcl h.out
  rw [hlen] at key
  simpa using key
theorem news_nil {a : Act} {w : World} (h : Q .normal a w) : WR P ops Q T [] a w := ⟨h⟩
theorem news_rd {i : Nat} {r : List Stp} {o : Oper} {a : Act} {w : World} (ho : ops[i]? = some o) (hp : pureOp o.op = false) (hw : Region.wanted o (yielded ops a.tmps) = true) (S : World → Prop) (hst : ∀ w w', Mod (fun _ => False) w w' → S w → S w') (hSw : S w) (v : Value)
    (hy : ∀ w, S w → (execOp a.eval o).run P w = .ok (.value v) w)
    (h : ∀ K : Act → Prop, (∀ a', WR P ops Q T r a' w → K a') → K (a.put o.dst v)) : WR P ops Q T (.rd i :: r) a w :=
  ⟨fun o' ho' => by
    obtain rfl : o = o' := Option.some.inj (ho.symm.trans ho')
    exact ⟨S, hst, fun _ => hSw, v, .inl ⟨hw, fun w0 h0 => hy w0 (h0 hp)⟩, h _ fun _ h => h.out⟩⟩
theorem news_pure {i : Nat} {r : List Stp} {o : Oper} {a : Act} {w : World} (ho : ops[i]? = some o) (hw : Region.wanted o (yielded ops a.tmps) = true) (v : Value)
    (hy : ∀ w, (execOp a.eval o).run P w = .ok (.value v) w)
    (h : ∀ K : Act → Prop, (∀ a', WR P ops Q T r a' w → K a') → K (a.put o.dst v)) : WR P ops Q T (.rd i :: r) a w :=
  ⟨fun o' ho' => by
    obtain rfl : o = o' := Option.some.inj (ho.symm.trans ho')
    exact ⟨fun _ => True, fun _ _ _ h => h, fun _ => trivial, v, .inl ⟨hw, fun w0 _ => hy w0⟩, h _ fun _ h => h.out⟩⟩
theorem newsgo_yes {i : Nat} {o : Oper} {K : Act → World → Prop} {a : Act} {w : World} (ho : ops[i]? = some o) (hw : Region.wanted o (yielded ops a.tmps) = true)
    (h : ∀ K' : Act → World → Prop, (∀ a' w', (T i = true → Mod (fun _ => False) w w') → K a' w' → K' a' w') → o.wp P a w K' Q) : GR P ops Q T i K a w := by
  constructor
  unfold goR wpOp
  simp only [ho]
  rw [if_pos hw]
  exact .inl (h _ fun _ _ h1 h2 => ⟨h1, h2⟩)
theorem news_one {i : Nat} {r : List Stp} {a : Act} {w : World} (h : GR P ops Q T i (fun a' w' => WR P ops Q T r a' w') a w) : WR P ops Q T (.go i :: r) a w := by
  constructor
  show goR P ops Q T i (fun a' w' => walkR P ops Q T r a' w') a w
  exact goR_mono (fun _ _ h' => h'.out) h.out
end
end Go.Proofs.YtloplmaekonenaaGreatDoor
