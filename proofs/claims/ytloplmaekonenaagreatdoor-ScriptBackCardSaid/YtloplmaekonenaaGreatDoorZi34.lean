/-
  A guarded operation whose guard stands is walked as one without.
  A region that draws its order, walked step by step: what only reads comes first, wherever it stands; where two operations are ready, each of them may be next.
  A region that draws its order, by an invariant over its states.
  The Writer's Byte, of any numbers; its Bytes.
  wire.PutRule: the states of its region.
-/
import Derived.Test.YtloplmaekonenaaGreatDoorZi26
import Derived.Test.YtloplmaekonenaaGreatDoorZi6
import Derived.Test.YtloplmaekonenaaGreatDoorZi9
import Derived.Test.YtloplmaekonenaaGreatDoorZi11
import Derived.Test.YtloplmaekonenaaGreatDoorZi10
namespace Go.Proofs.YtloplmaekonenaaGreatDoor
set_option maxRecDepth 20000
open Go.RowKit
section
variable {P : Program} {w : World} {ops : Array Oper} {rest : List Oper} {a : Act} {Q : Exit → Act → World → Prop} {d : Option Tmp} {tp : TypeId} {pos : String} {af : Array Edge} {g : Nat × Bool}
theorem wpList_yes_load (t : TypeId) (x : Operand) (hg : Region.wanted ⟨d, .load t x, tp, pos, af, some g⟩ (yielded ops a.tmps) = true) (h : wpList P ops Q (⟨d, .load t x, tp, pos, af, none⟩ :: rest) a w) : wpList P ops Q (⟨d, .load t x, tp, pos, af, some g⟩ :: rest) a w := by
  unfold wpList at h ⊢
  rw [if_pos hg]
  rw [if_pos (show Region.wanted _ _ = true from rfl)] at h
  exact h
theorem wpList_yes_build (t : TypeId) (x : Operand) (hg : Region.wanted ⟨d, .buildSlice t 1 #[(0, x)], tp, pos, af, some g⟩ (yielded ops a.tmps) = true) (h : wpList P ops Q (⟨d, .buildSlice t 1 #[(0, x)], tp, pos, af, none⟩ :: rest) a w) : wpList P ops Q (⟨d, .buildSlice t 1 #[(0, x)], tp, pos, af, some g⟩ :: rest) a w := by
  unfold wpList at h ⊢
  rw [if_pos hg]
  rw [if_pos (show Region.wanted _ _ = true from rfl)] at h
  exact h
end
section
variable {P : Program} {w : World}
theorem run_storeVar_atG (ty : TypeId) (g off : Nat) (cur : Array Value) (t : TypeId) (cs : List Value) (hg : w.heap[g]? = some (.cells cur t (0, 0))) (hl : off + cs.length ≤ cur.size)
    (hi : (P.info? ty).map (·.size) = some cs.length) (h1 : ∀ u ∈ cs, u.oneCell' = true) :
    (storeVar ty ⟨g, off, none⟩ (.agg cs.toArray)).run P w = .ok () (w.setRow g (cur.toList.take off ++ cs ++ cur.toList.drop (off + cs.length)).toArray) := by
  have hst := run_storeCells_at P g off t cs 0 cur w hg (by omega) h1
  cases hq : P.info? ty with
  | none => simp [hq] at hi
  | some i =>
    have hs : i.size = cs.length := by simpa [hq] using hi
    simp only [Nat.add_zero] at hst
    simp [storeVar, Value.cells, sizeOf, typeInfo, hq, hs, hst]
theorem wp_store_atG {o : Oper} {a : Act} {K : Act → World → Prop} {Q : Exit → Act → World → Prop} (ty : TypeId) (x y : Operand) (ho : o.op = .store ty x y) (g off : Nat)
    (hx : a.eval x = .pointer (some ⟨g, off, none⟩)) (cur : Array Value) (t : TypeId) (hg : w.heap[g]? = some (.cells cur t (0, 0))) (cs : List Value) (hy : a.eval y = .agg cs.toArray) (hl : off + cs.length ≤ cur.size)
    (hi : (P.info? ty).map (·.size) = some cs.length) (h1 : ∀ u ∈ cs, u.oneCell' = true)
    (h : K (a.put o.dst undef) (w.setRow g (cur.toList.take off ++ cs ++ cur.toList.drop (off + cs.length)).toArray)) : o.wp P a w K Q := by
  have hr := run_storeVar_atG (P := P) (w := w) ty g off cur t cs hg hl hi h1
  unfold Oper.wp execOp
  simp only [ho, hx, hy, Instr.storeAt, Instr.sureAddr, Sem.run_bind, Sem.run_pure, Result.andThen_ok, hr]
  exact h
end
end Go.Proofs.YtloplmaekonenaaGreatDoor
namespace Go.Proofs.YtloplmaekonenaaGreatDoor
set_option maxRecDepth 20000
open Go.RowKit
section
variable {P : Program} {ops : Array Oper} {Q : Exit → Act → World → Prop} {md : Region.Mode} {S : World → Prop} {T : Nat → Bool}
structure AN (P : Program) (md : Region.Mode) (ops : Array Oper) (Q : Exit → Act → World → Prop) (S : World → Prop) (T : Nat → Bool) (fuel : Nat) (listed : Array Bool) (a : Act) (w : World) : Prop where
  out : Region.noSelect ops = true → (∀ (c : List PanicEntry) (a : Act) (d : Option Tmp) (v : Value) (w : World), Q (.panic c) (a.put d v) w → Q (.panic c) a w) → ClosedL md ops listed → wpAnyG P md ops Q S T fuel listed a w
theorem wp_region_any6 {id : Nat} {a : Act} {w : World} {l : List Oper} (ks : List Nat) (S : World → Prop) (hm : P.follows .mixedOrders = true) (hsel : Region.noSelect l.toArray = true)
    (hQ : ∀ (c : List PanicEntry) (a : Act) (d : Option Tmp) (v : Value) (w : World), Q (.panic c) (a.put d v) w → Q (.panic c) a w)
    (h : AN P .any l.toArray Q S (fun j => ks.contains j) l.length (Array.replicate l.toArray.size false) a w.drew) : (Code.region id l.toArray true).wp P Q a w := by
  have hcl : ClosedL .any l.toArray (Array.replicate l.toArray.size false) := fun j oj _ hl => by
    exfalso
    rcases Nat.lt_or_ge j l.toArray.size with h' | h' <;> simp_all
  refine wp_region_any hm (wpAny_of_G (S := S) (T := fun j => ks.contains j) _ _ _ _ ?_)
  have key := h.out hsel hQ hcl
  simpa using key
def rdOk (md : Region.Mode) (ops : Array Oper) (T : Nat → Bool) (i : Nat) (listed : Array Bool) : Bool :=
  decide (i < ops.size) && Region.free md ops listed i && (Region.ready md ops listed).contains i &&
      (((ops[i]?).map (fun o => pureOp o.op)).getD false || (List.range ops.size).all fun j => j == i || listed.getD j true || reachB md ops ops.size j i || T j)
theorem an_rd {i fuel : Nat} {listed : Array Bool} {o : Oper} {a : Act} {w : World} (hok : rdOk md ops T i listed = true) (ho : ops[i]? = some o) (hw : Region.wanted o (yielded ops a.tmps) = true) (hSw : pureOp o.op = false → S w) (v : Value)
    (hy : ∀ w, (pureOp o.op = false → S w) → (execOp a.eval o).run P w = .ok (.value v) w)
    (h : ∀ K : Act → Prop, (∀ a', AN P md ops Q S T fuel (listed.setIfInBounds i true) a' w → K a') → K (a.put o.dst v)) : AN P md ops Q S T (fuel + 1) listed a w := by
  refine ⟨fun hsel hQ hc => ?_⟩
  unfold rdOk at hok
  simp only [Bool.and_eq_true, decide_eq_true_eq] at hok
  obtain ⟨⟨⟨hi, hf⟩, hr⟩, hp⟩ := hok
  have hri : i ∈ Region.ready md ops listed := by simpa using hr
  have h' := (h _ fun _ h => h).out hsel hQ (hc.set hri)
  exact wpAnyG_first (S := S) (T := T) (S' := fun w => pureOp o.op = false → S w) ho (Region.noSelect_spec hsel) (fun c a w => hQ c a o.dst v w) fuel listed a w hc (Region.free_spec ho hf)
    (fun j hj hji hun hre w w' hT h hpf => by
      simp only [ho, Option.map_some, Option.getD_some, hpf, Bool.false_or, List.all_eq_true, List.mem_range, Bool.or_eq_true, beq_iff_eq] at hp
      rcases hp j hj with ((h1 | h1) | h1) | h1
      · exact absurd h1 hji
      · rw [hun] at h1; cases h1
      · rw [hre] at h1; cases h1
      · exact hT h1 (h hpf))
    hri (.inl ⟨hw, hy⟩) hSw h'
end
end Go.Proofs.YtloplmaekonenaaGreatDoor
namespace Go.Proofs.YtloplmaekonenaaGreatDoor
set_option maxRecDepth 20000
open Go.RowKit
theorem an_inv {P : Program} {md : Region.Mode} {ops : Array Oper} {Q : Exit → Act → World → Prop} {S : World → Prop} {T : Nat → Bool} (I : Nat → Array Bool → Act → World → Prop)
    (h0 : ∀ listed a w, I 0 listed a w → Region.ready md ops listed = [] ∧ Q .normal a w)
    (hs : ∀ n listed a w, I (n + 1) listed a w → ∃ js : List Nat, Region.ready md ops listed = js ∧ js ≠ [] ∧ ∀ i ∈ js, GO P ops Q S T i (fun a' w' => I n (listed.setIfInBounds i true) a' w') a w) :
    ∀ {n : Nat} {listed : Array Bool} {a : Act} {w : World}, I n listed a w → AN P md ops Q S T n listed a w
  | 0, listed, a, w, h => ⟨fun _ _ _ => h0 listed a w h⟩
  | n + 1, listed, a, w, h => by
    obtain ⟨js, hr, hne, hg⟩ := hs n listed a w h
    exact ⟨fun hsel hQ hc => ⟨fun e => absurd (hr.symm.trans e) hne, fun i hi => wpOp_mono (fun _ _ h' => ⟨h'.1, (an_inv I h0 hs h'.2).out hsel hQ (hc.set hi)⟩) (hg i (hr ▸ hi)).out⟩⟩
end Go.Proofs.YtloplmaekonenaaGreatDoor
namespace Go.Proofs.YtloplmaekonenaaGreatDoor
set_option maxRecDepth 20000
open Go.RowKit
def nums (l : List Int) : List Value := l.map (Value.int .i64)
set_option maxRecDepth 20000 in
set_option maxHeartbeats 1000000 in
theorem wr_byten (w : World) (p : Nat) (v : Value) (bs : List UInt8) (h : Wtr w p v bs) (hl : bs.length ≤ 9000000) (xs : List Int) (hx : xs.length ≤ 10) (g : Nat) (hg : CellsAt w g 0 (nums xs)) (hgp : g ≠ p) (hgv : ¬ inBlock v g) :
    Calls Tryz.prog 108 #[.pointer (some ⟨p, 0, none⟩), .slice (some ⟨g, 0, none⟩) xs.length xs.length] w fun e w' => e = .returned (.pointer (some ⟨p, 0, none⟩)) ∧ ∃ v', Wtr w' p v' (bs ++ xs.map byteOf) ∧ Wrote w p v w' v' := by
  have hx' : (xs.length : Int) ≤ 10 := by omega
  have H := Lib.hid h
  have Hl := Lib.hid hl
  have Hg := Lib.hid hg
  have Hgp := Lib.hid hgp
  have Hgv := Lib.hid hgv
  clear h hl hg hgp hgv
  go_enter Tryz.func108, Tryz.ntmps108
  go_wp2_with fail
  go_loopw [9] (fun i wr => ∃ (k : Nat) (v' : Value), i = .int .i64 k ∧ k ≤ xs.length ∧ Wtr wr p v' (bs ++ (xs.take k).map byteOf) ∧ Wrote w p v wr v') (fun i _ => xs.length - (intOf i).toNat)
  case atStart => exact ⟨0, v, rfl, Nat.zero_le _, by simpa using H.out, Wrote.refl _ _ _⟩
  case round =>
    obtain ⟨k, v2, rfl, hk, hw, hwr⟩ := hrel
    by_cases hlt : k < xs.length
    · have hlt' : (k : Int) < xs.length := by omega
      obtain ⟨x, hxk⟩ : ∃ x, xs[k]? = some x := ⟨_, List.getElem?_eq_getElem hlt⟩
      have cx : wr.cell? ⟨g, k, none⟩ = some (.int .i64 x) := by
        have := hwr.mod.cell (Hg.out k (.int .i64 x) (by simp [nums, hxk])) (fun hh => hh.elim Hgp.out Hgv.out)
        rw [Nat.zero_add] at this
        exact this
      have c0 : wr.cell? ⟨p, 0, none⟩ = some v2 := cell_of hw.row rfl
      obtain ⟨bs2, hbs2⟩ : ∃ b, bs ++ (xs.take k).map byteOf = b := ⟨_, rfl⟩
      rw [hbs2] at hw
      have hbl : bs2.length ≤ 9000010 := by rw [← hbs2, List.length_append, List.length_map, List.length_take]; have := Hl.out; omega
      have hnext : bs2 ++ [byteOf x] = bs ++ (xs.take (k + 1)).map byteOf := by rw [← hbs2, List.take_add_one, hxk]; simp
      have hone : ∀ u ∈ u8s [byteOf x], u.oneCell' = true := fun u hu => by
        simp only [u8s, List.map_cons, List.map_nil, List.mem_singleton] at hu
        subst hu; rfl
      have Hone := Lib.hid hone
      obtain ⟨z, hz⟩ : ∃ z, IntKind.u8.wrap x = z := ⟨_, rfl⟩
      have hcs : u8s [byteOf x] = [.int .u8 z] := by simp [u8s, byteOf_toNat, hz]
      have Hcs := Lib.hid hcs
      obtain ⟨va, vc, hv, -⟩ := hw.own.shape
      subst hv
      have Hw := Lib.hid hw
      have Hwr := Lib.hid hwr
      have Hbl := Lib.hid hbl
      have Hnext := Lib.hid hnext
      clear hone hcs hw hwr hbl hnext hbs2 hxk
      go_wp2_with (first | (refine wpList_append_sl rfl (.tmp 17) (.tmp 20) 69 rfl 5 1 1 bytes_T (.slice va bs2.length vc) bs2.length (u8s bs2) rfl (Hw.out.own.alloc _) _ 1 (u8s [byteOf x]) rfl (by rw [Hcs.out]; exact RdSl.one _ _ _ rfl) Hone.out (by have := Hbl.out; omega) (by have := Hbl.out; unfold maxLen; omega) ?_; intro ad cap w5 hA; have HAp := Lib.hid hA; have hp5 := hA.2.1.heap (heap_old Hw.out.row) (fun hb => Hw.out.ne p hb rfl); have k5 : w5.cell? ⟨p, 0, none⟩ = some (.slice va bs2.length vc) := cell_of hp5 rfl; have f5 : w5.frozen? ⟨p, 0, none⟩ = false := fr_of hp5; clear hA hp5) | fail)
      go_roundw
      case rel =>
        have hA := HAp.out
        have hap : u8s bs2 ++ u8s [byteOf x] = u8s (bs2 ++ [byteOf x]) := by simp [u8s]
        rw [hap] at hA
        obtain ⟨hw6, hwr6⟩ := Hw.out.put ((Mod.refl _ _).alloc _) (by simp) hA rfl
        exact ⟨k + 1, _, by go_num, hlt, Hnext.out ▸ hw6, Hwr.out.trans hwr6⟩
      case measure => simp [intOf]; omega
    · obtain rfl : xs.length = k := by omega
      rw [List.take_length] at hw
      have Hw := Lib.hid hw
      have Hwr := Lib.hid hwr
      clear hw hwr
      go_wp2
      go_ret
      exact ⟨rfl, v2, Hw.out, Hwr.out⟩
end Go.Proofs.YtloplmaekonenaaGreatDoor
namespace Go.Proofs.YtloplmaekonenaaGreatDoor
set_option maxRecDepth 20000
open Go.RowKit
theorem RdSl.modE {w w' : World} {F : Nat → Prop} {sz : Nat} {v : Value} {n : Nat} {xs : List Value} (h : RdSl w sz v n xs) (hm : Mod F w w') (hd : 0 < n → ∀ b, v.ownBlock = some b → ¬ F b) : RdSl w' sz v n xs := by
  obtain ⟨h1, a, c, rfl, h3, h4, h5⟩ := h
  refine ⟨h1, a, c, rfl, h3, h4, fun b hb hn => ?_⟩
  obtain ⟨g, off, h6, h7⟩ := h5 b hb hn
  refine ⟨g, off, h6, fun j u hu => hm.cell (h7 j u hu) (hd hn g ?_)⟩
  rw [hb, h6]
  rfl
def putPre (r : PRu) : Nat → List UInt8
  | 0 => []
  | 1 => [byteOf r.kind, byteOf r.tenant]
  | 2 => [byteOf r.kind, byteOf r.tenant] ++ txtBytes r.who
  | 3 => [byteOf r.kind, byteOf r.tenant] ++ (txtBytes r.who ++ [byteOf r.broker])
  | 4 => [byteOf r.kind, byteOf r.tenant] ++ (txtBytes r.who ++ ([byteOf r.broker] ++ filBytes r.sc r.cs))
  | 5 => [byteOf r.kind, byteOf r.tenant] ++ (txtBytes r.who ++ ([byteOf r.broker] ++ (filBytes r.sc r.cs ++ txtBytes r.name)))
  | _ => ruBytes r
theorem txtBytes_len (s : ByteArray) : (txtBytes s).length = s.size + 1 := by
  unfold txtBytes
  rw [List.length_cons, txt_length]
theorem filBytes_len (sc : ByteArray) (l : List Cnd) (hs : sc.size ≤ 255) (hl : l.length ≤ 255) (hf : ∀ a ∈ l, a.fit) : (filBytes sc l).length ≤ 160000 := by
  have hg : ∀ l : List Cnd, (∀ a ∈ l, a.fit) → (l.flatMap cndBytes).length ≤ 600 * l.length := fun l => by
    induction l with
    | nil => intro _; simp
    | cons x l ih =>
      intro hf
      rw [List.flatMap_cons, List.length_append, List.length_cons]
      have h1 := cndBytes_length x (hf x (by simp)).1 (hf x (by simp)).2.1
      have h2 := ih (fun a ha => hf a (by simp [ha]))
      omega
  have := hg l hf
  unfold filBytes
  rw [List.length_append, List.length_append, List.length_cons, txt_length]
  simp only [List.length_cons, List.length_nil]
  omega
theorem put_len (r : PRu) (hf : r.fit) : ∀ c, (putPre r c).length ≤ 200000 := fun c => by
  have h1 := hf.who
  have h2 := hf.name
  have h3 := filBytes_len r.sc r.cs hf.sc hf.len hf.cs
  match c with
  | 0 => simp [putPre]
  | 1 => simp [putPre]
  | 2 => simp only [putPre, List.length_append, List.length_cons, List.length_nil, txtBytes_len]; omega
  | 3 => simp only [putPre, List.length_append, List.length_cons, List.length_nil, txtBytes_len]; omega
  | 4 => simp only [putPre, List.length_append, List.length_cons, List.length_nil, txtBytes_len]; omega
  | 5 => simp only [putPre, List.length_append, List.length_cons, List.length_nil, txtBytes_len]; omega
  | c + 6 => simp only [putPre, ruBytes, List.length_append, List.length_cons, List.length_nil, txtBytes_len]; omega
structure Args (wB w : World) (p : Nat) (v : Value) (g : Nat) (l : List Int) : Prop where
  at_ : CellsAt w g 0 (nums l)
  ne : g ≠ p
  nb : ¬ inBlock v g
  lo : wB.heap.size ≤ g
  hi : g < w.heap.size
structure PutSt (wB : World) (p : Nat) (v0 : Value) (bs : List UInt8) (r : PRu) (c : Nat) (x5 x12 x22 : Option Nat) (w : World) (v : Value) : Prop where
  wtr : Wtr w p v (bs ++ putPre r c)
  wrote : Wrote wB p v0 w v
  a5 : ∀ g, x5 = some g → Args wB w p v g [r.kind, r.tenant]
  a12 : ∀ g, x12 = some g → Args wB w p v g [r.broker]
  a22 : ∀ g, x22 = some g → Args wB w p v g [r.at_]
section
variable {wB w w' : World} {p : Nat} {v0 v v' : Value} {bs : List UInt8} {r : PRu} {c : Nat} {x5 x12 x22 : Option Nat} {l : List Int} {g : Nat}
theorem Args.mod (h : Args wB w p v g l) (hm : Mod (fun _ => False) w w') : Args wB w' p v g l := ⟨fun j u hu => hm.cell (h.at_ j u hu) (fun h => h), h.ne, h.nb, h.lo, Nat.lt_of_lt_of_le h.hi hm.size⟩
theorem Args.wrote (h : Args wB w p v g l) (hw : Wrote w p v w' v') : Args wB w' p v' g l :=
  ⟨fun j u hu => hw.mod.cell (h.at_ j u hu) (fun hh => hh.elim h.ne h.nb), h.ne, fun hb => (hw.new g hb).elim h.nb (fun hh => by have := h.hi; omega), h.lo, Nat.lt_of_lt_of_le h.hi hw.mod.size⟩
theorem Args.new (hw : Wtr w p v bs) (hB : wB.heap.size ≤ w.heap.size) (t : TypeId) : Args wB (w.alloc (.cells (nums l).toArray t)) p v w.heap.size l :=
  ⟨CellsAt.new w _ t, fun e => by have := hw.lt; omega, fun hb => by have := hw.blt _ hb; omega, hB, by simp⟩
theorem PutSt.mod (h : PutSt wB p v0 bs r c x5 x12 x22 w v) (hm : Mod (fun _ => False) w w') : PutSt wB p v0 bs r c x5 x12 x22 w' v :=
  ⟨h.wtr.same hm, h.wrote.also hm (fun _ h => h.elim), fun g hg => (h.a5 g hg).mod hm, fun g hg => (h.a12 g hg).mod hm, fun g hg => (h.a22 g hg).mod hm⟩
theorem PutSt.b5 (h : PutSt wB p v0 bs r c none x12 x22 w v) (t : TypeId) : PutSt wB p v0 bs r c (some w.heap.size) x12 x22 (w.alloc (.cells (nums [r.kind, r.tenant]).toArray t)) v := by
  have k := h.mod ((Mod.refl (fun _ => False) w).alloc (.cells (nums [r.kind, r.tenant]).toArray t))
  exact ⟨k.wtr, k.wrote, fun g hg => by cases hg; exact Args.new h.wtr h.wrote.mod.size t, k.a12, k.a22⟩
theorem PutSt.b12 (h : PutSt wB p v0 bs r c x5 none x22 w v) (t : TypeId) : PutSt wB p v0 bs r c x5 (some w.heap.size) x22 (w.alloc (.cells (nums [r.broker]).toArray t)) v := by
  have k := h.mod ((Mod.refl (fun _ => False) w).alloc (.cells (nums [r.broker]).toArray t))
  exact ⟨k.wtr, k.wrote, k.a5, fun g hg => by cases hg; exact Args.new h.wtr h.wrote.mod.size t, k.a22⟩
theorem PutSt.b22 (h : PutSt wB p v0 bs r c x5 x12 none w v) (t : TypeId) : PutSt wB p v0 bs r c x5 x12 (some w.heap.size) (w.alloc (.cells (nums [r.at_]).toArray t)) v := by
  have k := h.mod ((Mod.refl (fun _ => False) w).alloc (.cells (nums [r.at_]).toArray t))
  exact ⟨k.wtr, k.wrote, k.a5, k.a12, fun g hg => by cases hg; exact Args.new h.wtr h.wrote.mod.size t⟩
theorem PutSt.call (h : PutSt wB p v0 bs r c x5 x12 x22 w v) {news : List UInt8} (hw : Wtr w' p v' ((bs ++ putPre r c) ++ news)) (hwr : Wrote w p v w' v') (he : putPre r c ++ news = putPre r (c + 1)) : PutSt wB p v0 bs r (c + 1) x5 x12 x22 w' v' :=
  ⟨by rw [← he, ← List.append_assoc]; exact hw, h.wrote.trans hwr, fun g hg => (h.a5 g hg).wrote hwr, fun g hg => (h.a12 g hg).wrote hwr, fun g hg => (h.a22 g hg).wrote hwr⟩
end
def pc (k c : Nat) (v : Value) : Value := if k ≤ c then v else undef
def px (n : Nat) : Option Nat → Value
  | none => undef
  | some g => .slice (some ⟨g, 0, none⟩) n n
def putR (p B : Nat) (r : PRu) (a : Option Addr) (cap : Nat) (c : Nat) (x5 x12 x22 : Option Nat) : Act :=
  ⟨#[.pointer (some ⟨p, 0, none⟩), .agg (r.lies a cap).cells.toArray, undef, .pointer (some ⟨B, 0, none⟩), .pointer (some ⟨p, 0, none⟩), .pointer (some ⟨B, 0, none⟩), .int .i64 r.kind, .pointer (some ⟨B, 1, none⟩), .int .i64 r.tenant, px 2 x5,
     pc 1 c (.pointer (some ⟨p, 0, none⟩)), .pointer (some ⟨B, 2, none⟩), .string r.who, pc 2 c (.pointer (some ⟨p, 0, none⟩)), .pointer (some ⟨B, 3, none⟩), .int .i64 r.broker, px 1 x12, pc 3 c (.pointer (some ⟨p, 0, none⟩)),
     .pointer (some ⟨B, 4, none⟩), .agg #[.string r.sc, .slice a r.cs.length cap], pc 4 c (.pointer (some ⟨p, 0, none⟩)), .pointer (some ⟨B, 6, none⟩), .string r.name, pc 5 c (.pointer (some ⟨p, 0, none⟩)), .pointer (some ⟨B, 7, none⟩), .int .i64 r.at_, px 1 x22, pc 6 c (.pointer (some ⟨p, 0, none⟩))], []⟩
def putL (c : Nat) (x5 x12 x22 : Option Nat) : Array Bool :=
  #[true, true, true, true, true, x5.isSome, Nat.ble 1 c, true, true, Nat.ble 2 c, true, true, x12.isSome, Nat.ble 3 c, true, true, Nat.ble 4 c, true, true, Nat.ble 5 c, true, true, x22.isSome, Nat.ble 6 c]
def RuCells (y : World) (B : Nat) (r : PRu) (a : Option Addr) (cap : Nat) : Prop :=
  y.cell? ⟨B, 0, none⟩ = some (.int .i64 r.kind) ∧ y.cell? ⟨B, 1, none⟩ = some (.int .i64 r.tenant) ∧ y.cell? ⟨B, 2, none⟩ = some (.string r.who) ∧ y.cell? ⟨B, 3, none⟩ = some (.int .i64 r.broker) ∧
    y.cell? ⟨B, 4, none⟩ = some (.string r.sc) ∧ y.cell? ⟨B, 5, none⟩ = some (.slice a r.cs.length cap) ∧ y.cell? ⟨B, 6, none⟩ = some (.string r.name) ∧ y.cell? ⟨B, 7, none⟩ = some (.int .i64 r.at_)
theorem RuCells.mod {y y' : World} {F : Nat → Prop} {B : Nat} {r : PRu} {a : Option Addr} {cap : Nat} (h : RuCells y B r a cap) (hm : Mod F y y') (hB : ¬ F B) : RuCells y' B r a cap :=
  ⟨hm.cell h.1 hB, hm.cell h.2.1 hB, hm.cell h.2.2.1 hB, hm.cell h.2.2.2.1 hB, hm.cell h.2.2.2.2.1 hB, hm.cell h.2.2.2.2.2.1 hB, hm.cell h.2.2.2.2.2.2.1 hB, hm.cell h.2.2.2.2.2.2.2 hB⟩
def cnt (x : Option Nat) : Nat := if x.isSome then 1 else 0
def PutI (wB : World) (p B : Nat) (v0 : Value) (bs : List UInt8) (r : PRu) (a : Option Addr) (cap : Nat) (n : Nat) (listed : Array Bool) (A : Act) (w : World) : Prop :=
  ∃ (c : Nat) (x5 x12 x22 : Option Nat) (v : Value), c ≤ 6 ∧ n + c + cnt x5 + cnt x12 + cnt x22 = 9 ∧ (1 ≤ c → x5.isSome = true) ∧ (3 ≤ c → x12.isSome = true) ∧ (6 ≤ c → x22.isSome = true) ∧
    listed = putL c x5 x12 x22 ∧ A = putR p B r a cap c x5 x12 x22 ∧ PutSt wB p v0 bs r c x5 x12 x22 w v
end Go.Proofs.YtloplmaekonenaaGreatDoor
