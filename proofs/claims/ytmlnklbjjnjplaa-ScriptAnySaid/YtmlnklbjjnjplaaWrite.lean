/-
  The Writer's Byte, Long, Text.
-/
import Derived.Test.YtmlnklbjjnjplaaBytes
import Derived.Test.YtmlnklbjjnjplaaAppstr
import Derived.Test.YtmlnklbjjnjplaaPlan3
import Derived.Test.YtmlnklbjjnjplaaCells
namespace Go.Proofs.Ytmlnklbjjnjplaa
open Go.RowKit

theorem OwnSl.ne {w : World} {e : TypeId} {sz n : Nat} {v : Value} {xs : List Value} (h : OwnSl w e sz v n xs) {c : Array Value} {f : TypeId} {x : Nat × Nat} {j : Nat} (hj : w.heap[j]? = some (.cells c f x)) (hne : e ≠ f) : ∀ k, inBlock v k → k ≠ j := by
  rintro k hk rfl
  obtain ⟨cur, hc⟩ := h.elem k hk
  rw [hc] at hj
  cases hj
  exact hne rfl

/-- A writer, and what it holds. -/
structure Wtr (w : World) (p : Nat) (v : Value) (bs : List UInt8) : Prop where
  row : w.heap[p]? = some (.cells #[v] 46 (0, 0))
  own : OwnSl w 5 1 v bs.length (u8s bs)

/-- What writing has changed. -/
structure Wrote (w : World) (p : Nat) (v : Value) (w' : World) (v' : Value) : Prop where
  mod : Mod (fun k => k = p ∨ inBlock v k) w w'
  new : ∀ k, inBlock v' k → inBlock v k ∨ w.heap.size ≤ k

section
variable {w w' w'' : World} {p : Nat} {v v' v'' : Value} {bs : List UInt8}
theorem Wrote.refl (w : World) (p : Nat) (v : Value) : Wrote w p v w v := ⟨Mod.refl _ _, fun _ h => .inl h⟩
theorem Wrote.trans (h : Wrote w p v w' v') (k : Wrote w' p v' w'' v'') : Wrote w p v w'' v'' :=
  ⟨(h.mod.trans k.mod fun b hb hg => by
    rcases hg with hg | hg
    · exact .inl hg
    · rcases h.new b hg with h1 | h1
      · exact .inr h1
      · omega), fun b hb => by
    rcases k.new b hb with h1 | h1
    · exact h.new b h1
    · have := h.mod.size
      exact .inr (by omega)⟩
theorem Wrote.also {F : Nat → Prop} (h : Wrote w p v w' v') (k : Mod F w' w'') (hF : ∀ b, F b → w.heap.size ≤ b) : Wrote w p v w'' v' :=
  ⟨h.mod.trans k fun b hb hg => by have := hF b hg; omega, h.new⟩
theorem Wtr.mod {F : Nat → Prop} (h : Wtr w p v bs) (hm : Mod F w w') (hp : ¬ F p) (hv : ∀ k, inBlock v k → ¬ F k) : Wtr w' p v bs := ⟨hm.heap h.row hp, h.own.mod hm hv⟩
theorem Wtr.same (h : Wtr w p v bs) (hm : Mod (fun _ => False) w w') : Wtr w' p v bs := h.mod hm (fun h => h) (fun _ _ h => h)
theorem Wtr.lt (h : Wtr w p v bs) : p < w.heap.size := (Array.getElem?_eq_some_iff.1 h.row).1
theorem Wtr.blt (h : Wtr w p v bs) : ∀ k, inBlock v k → k < w.heap.size := h.own.lt
theorem Wtr.ne (h : Wtr w p v bs) : ∀ k, inBlock v k → k ≠ p := h.own.ne h.row (by decide)
end

theorem bytes_T : SliceT Try.prog 22 5 1 1 := sliceT (by kernel_rfl) (by kernel_rfl)
theorem ints_T : SliceT Try.prog 79 3 1 8 := sliceT (by kernel_rfl) (by kernel_rfl)

/-- append as one operation. -/
theorem wp_append_sl {P : Program} {o : Oper} {a : Act} {w : World} {K : Act → World → Prop} {Q : Exit → Act → World → Prop}
    (s y : Operand) (t : TypeId) (hop : o.op = Op.call { callee := Callee.builtin Builtin.append, args := #[s, y], argTypes := #[t, t] })
    (e : TypeId) (sz bytes : Nat) (hT : SliceT P t e sz bytes)
    (v : Value) (n : Nat) (xs : List Value) (hs : a.eval s = v) (hown : OwnSl w e sz v n xs) (x : Value) (m : Nat) (news : List Value) (hy : a.eval y = x) (hx : RdSl w sz x m news) (h1 : ∀ u ∈ news, u.oneCell' = true)
    (hbytes : (n + m) * bytes ≤ 140737488355328) (hmax : n + m ≤ maxLen)
    (hK : ∀ ad cap w', Appended w e sz v (n + m) (xs ++ news) (.slice ad (n + m) cap) w' → K (a.put o.dst (.slice ad (n + m) cap)) w') : o.wp P a w K Q := by
  obtain ⟨ht, i0, z, hi, hz0, hz1, hz2, hzs⟩ := hT
  obtain ⟨v', w', hrun, r1, r2, r3⟩ := run_append_sl (P := P) w t o.type e i0 z sz bytes ht hi hz0 hz1 hz2 hzs v n xs hown x m news hx h1 hbytes hmax
  unfold Oper.wp execOp
  simp only [hop, resolve, invoke, builtin, Sem.run_bind, Sem.run_pure, Result.andThen_ok, List.map_toArray, List.map_cons, List.map_nil, hs, hy, hrun]
  obtain ⟨ad, cap, rfl, _⟩ := r1.shape
  exact hK ad cap w' ⟨r1, r2, r3⟩

/-- A number's last byte. -/
def byteOf (x : Int) : UInt8 := UInt8.ofNat (x % 256).toNat
theorem byteOf_toNat (x : Int) : ((byteOf x).toNat : Int) = IntKind.u8.wrap x := by
  unfold byteOf
  rw [IntKind.wrap_u8]
  simp
  omega
theorem u8s_snoc (bs : List UInt8) (b : UInt8) : u8s (bs ++ [b]) = u8s bs ++ [.int .u8 (b.toNat : Int)] := by simp [u8s]

/-- What stores a slice that was appended to. -/
theorem Wtr.put {w w5 w6 : World} {p : Nat} {v : Value} {bs : List UInt8} (h : Wtr w p v bs) {al : World} (hal : Mod (fun _ => False) w al) {n : Nat} {ad : Option Addr} {cap : Nat} {cs : List UInt8} (hn : n = (bs ++ cs).length)
    (hA : Appended al 5 1 v n (u8s (bs ++ cs)) (.slice ad n cap) w5) (h6 : w6 = w5.setCell ⟨p, 0, none⟩ (.slice ad n cap)) :
    Wtr w6 p (.slice ad n cap) (bs ++ cs) ∧ Wrote w p v w6 (.slice ad n cap) := by
  subst h6 hn
  have hm6 : Mod (fun k => k = p) w5 (w5.setCell ⟨p, 0, none⟩ (.slice ad (bs ++ cs).length cap)) := (Mod.refl (fun k => k = p) w5).setCell (fun _ => rfl) _
  have hnew : ∀ k, inBlock (.slice ad (bs ++ cs).length cap) k → inBlock v k ∨ w.heap.size ≤ k := fun k hk => by
    rcases hA.2.2 with h1 | ⟨q, h1, hq⟩
    · exact .inl (h1.symm.trans hk)
    · have hk' : some q = some k := h1.symm.trans hk
      cases hk'
      have := hal.size
      exact .inr (by omega)
  have hpal := hal.heap h.row (fun h => h)
  have hp5 := hA.2.1.heap hpal (fun hb => h.ne p hb rfl)
  refine ⟨⟨heap_set hp5, hA.1.setCell (fun hb => ?_) _⟩, ⟨?_, hnew⟩⟩
  · rcases hnew p hb with h1 | h1
    · exact h.ne p h1 rfl
    · have := h.lt; omega
  · exact ((hal.mono (fun _ _ h => h.elim)).trans (hA.2.1.mono (fun _ _ h => .inr h)) (fun _ _ h => h)).trans hm6 (fun _ _ h => .inl h)

set_option maxRecDepth 20000 in
set_option maxHeartbeats 1000000 in
theorem wr_byte (w : World) (p : Nat) (v : Value) (bs : List UInt8) (h : Wtr w p v bs) (hl : bs.length ≤ 10000000) (x : Int) (g : Nat) (ha : w.cell? ⟨g, 0, none⟩ = some (.int .i64 x)) :
    Calls Try.prog 23 #[.pointer (some ⟨p, 0, none⟩), .slice (some ⟨g, 0, none⟩) 1 1] w fun e w' => e = .returned (.pointer (some ⟨p, 0, none⟩)) ∧ ∃ v', Wtr w' p v' (bs ++ [byteOf x]) ∧ Wrote w p v w' v' := by
  have H := Lib.hid h
  have Hl := Lib.hid hl
  clear h hl
  go_enter Try.func23, Try.ntmps23
  go_wp2_with fail
  go_loopw [9] (fun i wr => ∃ k : Nat, i = .int .i64 k ∧ ((k = 0 ∧ wr = w) ∨ (k = 1 ∧ ∃ v', Wtr wr p v' (bs ++ [byteOf x]) ∧ Wrote w p v wr v'))) (fun i _ => 1 - (intOf i).toNat)
  case atStart => exact ⟨0, rfl, .inl ⟨rfl, rfl⟩⟩
  case round =>
    obtain ⟨k, rfl, ⟨rfl, rfl⟩ | ⟨rfl, v', hw, hwr⟩⟩ := hrel
    · have c0 : wr.cell? ⟨p, 0, none⟩ = some v := cell_of H.out.row rfl
      have hone : ∀ u ∈ u8s [byteOf x], u.oneCell' = true := fun u hu => by
        simp only [u8s, List.map_cons, List.map_nil, List.mem_singleton] at hu
        subst hu; rfl
      have Hone := Lib.hid hone
      obtain ⟨z, hz⟩ : ∃ z, IntKind.u8.wrap x = z := ⟨_, rfl⟩
      have hcs : u8s [byteOf x] = [.int .u8 z] := by simp [u8s, byteOf_toNat, hz]
      have Hcs := Lib.hid hcs
      obtain ⟨va, vc, hv, -⟩ := H.out.own.shape
      subst hv
      clear hone hcs
      go_wp2_with (first | (refine wpList_append_sl rfl (.tmp 17) (.tmp 20) 22 rfl 5 1 1 bytes_T (.slice va bs.length vc) bs.length (u8s bs) rfl (H.out.own.alloc _) _ 1 (u8s [byteOf x]) rfl (by rw [Hcs.out]; exact RdSl.one _ _ _ rfl) Hone.out (by have := Hl.out; omega) (by have := Hl.out; unfold maxLen; omega) ?_; intro ad cap w5 hA; have HAp := Lib.hid hA; have hp5 := hA.2.1.heap (heap_old H.out.row) (fun hb => H.out.ne p hb rfl); have k5 : w5.cell? ⟨p, 0, none⟩ = some (.slice va bs.length vc) := cell_of hp5 rfl; have f5 : w5.frozen? ⟨p, 0, none⟩ = false := fr_of hp5; clear hA hp5) | fail)
      go_roundw
      case rel =>
        have hA := HAp.out
        have hap : u8s bs ++ u8s [byteOf x] = u8s (bs ++ [byteOf x]) := by simp [u8s]
        rw [hap] at hA
        exact ⟨1, rfl, .inr ⟨rfl, _, H.out.put ((Mod.refl _ _).alloc _) (by simp) hA rfl⟩⟩
      case measure => simp [intOf]
    · go_wp2
      go_ret
      exact ⟨rfl, v', hw, hwr⟩

/-- The eight bytes of a number, the highest first. -/
def longBytes (x : Nat) : List UInt8 := (List.range 8).map fun k => byteOf ((x / 256 ^ (7 - k) : Nat) : Int)

theorem longBytes_length (x : Nat) : (longBytes x).length = 8 := by simp [longBytes]
theorem longBytes_take (x k : Nat) (hk : k < 8) : (longBytes x).take (k + 1) = (longBytes x).take k ++ [byteOf ((x / 256 ^ (7 - k) : Nat) : Int)] := by
  rw [List.take_succ_eq_append_getElem (by rw [longBytes_length]; exact hk)]
  simp [longBytes]
theorem byte_at (x k : Nat) (hk : k < 8) : IntKind.u8.wrap ((x : Int) / 2 ^ ((56 - 8 * (k : Int)).toNat)) = ((byteOf ((x / 256 ^ (7 - k) : Nat) : Int)).toNat : Int) := by
  rw [byteOf_toNat]
  congr 1
  have h : (56 - 8 * (k : Int)).toNat = 8 * (7 - k) := by omega
  have e : (2 : Int) ^ (8 * (7 - k)) = ((2 ^ (8 * (7 - k)) : Nat) : Int) := by norm_cast
  rw [h, e, Nat.pow_mul]
  rfl

set_option maxRecDepth 20000 in
set_option maxHeartbeats 1000000 in
theorem wr_long (w : World) (p : Nat) (v : Value) (bs : List UInt8) (h : Wtr w p v bs) (hl : bs.length ≤ 9000000) (x : Nat) (hx : x < 2 ^ 64) :
    Calls Try.prog 38 #[.pointer (some ⟨p, 0, none⟩), .int .u64 (x : Nat)] w fun e w' => e = .returned (.pointer (some ⟨p, 0, none⟩)) ∧ ∃ v', Wtr w' p v' (bs ++ longBytes x) ∧ Wrote w p v w' v' := by
  have H := Lib.hid h
  have Hl := Lib.hid hl
  have Hx := Lib.hid hx
  clear h hl hx
  go_enter Try.func38, Try.ntmps38
  go_wp2_with fail
  go_loopw [5] (fun i wr => ∃ k : Nat, k ≤ 8 ∧ i = .int .i64 (56 - 8 * k) ∧ ∃ v', Wtr wr p v' (bs ++ (longBytes x).take k) ∧ Wrote w p v wr v') (fun i _ => (intOf i + 8).toNat)
  case atStart => exact ⟨0, by omega, rfl, v, by simpa using H.out, Wrote.refl _ _ _⟩
  case round =>
    obtain ⟨k, hk, rfl, v', hw, hwr⟩ := hrel
    have Hw := Lib.hid hw
    have Hwr := Lib.hid hwr
    clear hw hwr
    by_cases hlt : k < 8
    · have h1 : (0 : Int) ≤ 56 - 8 * k := by omega
      have c0 : wr.cell? ⟨p, 0, none⟩ = some v' := cell_of Hw.out.row rfl
      obtain ⟨ws, hws⟩ : ∃ ws, bs ++ (longBytes x).take k = ws := ⟨_, rfl⟩
      have hwl : ws.length ≤ 9000008 := by rw [← hws, List.length_append, List.length_take, longBytes_length]; have := Hl.out; omega
      rw [hws] at Hw
      have Hws := Lib.hid hws
      have Hwl := Lib.hid hwl
      clear hws hwl
      obtain ⟨va, vc, hv, -⟩ := Hw.out.own.shape
      subst hv
      have hone : ∀ u ∈ u8s [byteOf ((x / 256 ^ (7 - k) : Nat) : Int)], u.oneCell' = true := fun u hu => by
        simp only [u8s, List.map_cons, List.map_nil, List.mem_singleton] at hu
        subst hu; rfl
      have hbt : u8s [byteOf ((x / 256 ^ (7 - k) : Nat) : Int)] = [.int .u8 (IntKind.u8.wrap ((x : Int) / 2 ^ ((56 - 8 * (k : Int)).toNat)))] := by rw [byte_at x k hlt]; simp [u8s]
      have Hone := Lib.hid hone
      have Hbt := Lib.hid hbt
      clear hone hbt
      go_wp2_with fail
      refine wp_region_script [.rd 0, .rd 1, .rd 2, .rd 3, .rd 5, .rd 6, .rd 7, .rd 4, .go 8, .go 9, .go 10, .go 11, .go 12, .go 13] [0, 1, 2, 3, 4, 5, 6, 7, 8, 9] (fun y => y.cell? ⟨p, 0, none⟩ = some (.slice va ws.length vc)) (by kernel_rfl) (by kernel_rfl) (fun _ _ d _ _ h => (by cases d <;> exact h)) ?_
      refine walk_rd rfl rfl (fun _ => c0) ?_ (fun w0 h0 => ?_) (fun K hK => ?_)
      rotate_left
      · clear h0; go_simp; with_reducible rfl
      go_simp; refine hK _ ?_; clear hK K
      refine walk_rd rfl rfl (fun _ => c0) ?_ (fun w0 h0 => ?_) (fun K hK => ?_)
      rotate_left
      · clear h0; go_simp; with_reducible rfl
      go_simp; refine hK _ ?_; clear hK K
      refine walk_rd rfl rfl (fun _ => c0) ?_ (fun w0 h0 => ?_) (fun K hK => ?_)
      rotate_left
      · clear h0; go_simp; with_reducible rfl
      go_simp; refine hK _ ?_; clear hK K
      refine walk_rd rfl rfl (fun _ => c0) ?_ (fun w0 h0 => ?_) (fun K hK => ?_)
      rotate_left
      · clear h0; go_simp; with_reducible rfl
      go_simp; refine hK _ ?_; clear hK K
      refine walk_rd rfl rfl (fun _ => c0) ?_ (fun w0 h0 => ?_) (fun K hK => ?_)
      rotate_left
      · clear h0; go_simp; with_reducible rfl
      go_simp; refine hK _ ?_; clear hK K
      refine walk_rd rfl rfl (fun _ => c0) ?_ (fun w0 h0 => ?_) (fun K hK => ?_)
      rotate_left
      · clear h0; go_simp; with_reducible rfl
      go_simp; refine hK _ ?_; clear hK K
      refine walk_rd rfl rfl (fun _ => c0) ?_ (fun w0 h0 => ?_) (fun K hK => ?_)
      rotate_left
      · clear h0; go_simp; with_reducible rfl
      go_simp; refine hK _ ?_; clear hK K
      refine walk_rd rfl rfl (fun _ => c0) ?_ (fun w0 h0 => ?_) (fun K hK => ?_)
      rotate_left
      · have h1 := h0 rfl; clear h0; go_simp; with_reducible rfl
      go_simp; refine hK _ ?_; clear hK K
      refine walk_one (go_yes rfl rfl (fun K hK => ?_))
      go_simp
      refine hK _ _ (fun _ h => h) ?_
      clear hK K
      refine walk_one (go_yes rfl rfl (fun K hK => ?_))
      go_simp
      refine hK _ _ (fun _ h => cell_new h _) ?_
      clear hK K
      refine walk_one (go_yes rfl rfl (fun K hK => ?_))
      refine wp_append_sl (.tmp 14) (.tmp 19) 22 rfl 5 1 1 bytes_T (.slice va ws.length vc) ws.length (u8s ws) rfl ((Hw.out.own.drew).alloc _) _ 1 (u8s [byteOf ((x / 256 ^ (7 - k) : Nat) : Int)]) rfl (by rw [Hbt.out]; exact RdSl.one _ _ _ rfl) Hone.out (by have := Hwl.out; omega) (by have := Hwl.out; unfold maxLen; omega) ?_
      intro ad cap w5 hA
      have hp5 := hA.2.1.heap (heap_old (heap_drew_ Hw.out.row)) (fun hb => Hw.out.ne p hb rfl)
      have k5 : w5.cell? ⟨p, 0, none⟩ = some (.slice va ws.length vc) := cell_of hp5 rfl
      have f5 : w5.frozen? ⟨p, 0, none⟩ = false := fr_of hp5
      have HAp := Lib.hid hA
      clear hA hp5
      refine hK _ _ (fun h => absurd h (by decide)) ?_
      clear hK K
      go_simp
      refine walk_one (go_yes rfl rfl (fun K hK => ?_))
      go_simp
      refine hK _ _ (fun h => absurd h (by decide)) ?_
      clear hK K
      refine walk_one (go_yes rfl rfl (fun K hK => ?_))
      go_simp
      refine hK _ _ (fun h => absurd h (by decide)) ?_
      clear hK K
      refine walk_one (go_yes rfl rfl (fun K hK => ?_))
      go_simp
      refine hK _ _ (fun h => absurd h (by decide)) ?_
      clear hK K
      refine walk_nil ?_
      go_wp2
      go_roundw
      case rel =>
        have hA := HAp.out
        have hap : u8s ws ++ u8s [byteOf ((x / 256 ^ (7 - k) : Nat) : Int)] = u8s (ws ++ [byteOf ((x / 256 ^ (7 - k) : Nat) : Int)]) := by simp [u8s]
        rw [hap] at hA
        have hput := Hw.out.put (((Mod.refl (fun _ => False) wr).drew).alloc _) (by simp) hA rfl
        refine ⟨k + 1, hlt, by go_num, _, ?_, Hwr.out.trans hput.2⟩
        rw [longBytes_take x k hlt, ← List.append_assoc, Hws.out]
        exact hput.1
      case measure => simp [intOf]; omega
    · obtain rfl : k = 8 := by omega
      go_wp2
      go_ret
      refine ⟨rfl, v', ?_, Hwr.out⟩
      have := Hw.out
      rwa [List.take_of_length_le (by rw [longBytes_length]; exact Nat.le_refl _)] at this


set_option maxHeartbeats 400000 in
theorem wr_text (w : World) (p : Nat) (v : Value) (bs : List UInt8) (h : Wtr w p v bs) (hl : bs.length ≤ 9000000) (s : ByteArray) (hs : s.size ≤ 100000) :
    Calls Try.prog 24 #[.pointer (some ⟨p, 0, none⟩), .string s] w fun e w' => e = .returned (.pointer (some ⟨p, 0, none⟩)) ∧ ∃ v', Wtr w' p v' (bs ++ byteOf s.size :: txt s) ∧ Wrote w p v w' v' := by
  have hs' : (s.size : Int) ≤ 100000 := by omega
  have hal : Mod (fun _ => False) w (w.alloc (.cells #[.int .i64 s.size] 3)) := (Mod.refl _ w).alloc _
  have hb := wr_byte _ p v bs (h.same hal) (by omega) s.size w.heap.size (cell_of (heap_alloc_new w _) rfl)
  have Hb := Lib.hid hb
  have Hal := Lib.hid hal
  have Hl := Lib.hid hl
  clear h hb hal hl hs
  go_enter Try.func24, Try.ntmps24
  go_wp2_with fail
  refine Hb.out.mono ?_
  rintro e w1 ⟨rfl, v1, hw1, hwr1⟩
  have Hw1 := Lib.hid hw1
  have Hwr1 := Lib.hid hwr1
  obtain ⟨va, vc, hv, -⟩ := hw1.own.shape
  subst hv
  have c0 : w1.cell? ⟨p, 0, none⟩ = some (.slice va (bs ++ [byteOf s.size]).length vc) := cell_of hw1.row rfl
  clear hw1 hwr1 Hb
  obtain ⟨ws, hws⟩ : ∃ ws, bs ++ [byteOf s.size] = ws := ⟨_, rfl⟩
  have hwl : ws.length ≤ 9000001 := by rw [← hws, List.length_append]; have := Hl.out; simpa using this
  rw [hws] at Hw1 c0 Hwr1
  have Hws := Lib.hid hws
  have Hwl := Lib.hid hwl
  clear hws hwl
  go_wp2_with (first | (refine wpList_append_str rfl (.tmp 14) (.tmp 15) 22 9 rfl 5 bytes_T (by kernel_rfl) (.slice va ws.length vc) ws.length (u8s ws) rfl Hw1.out.own s rfl (by have := Hwl.out; omega) (by have := Hwl.out; unfold maxLen; omega) ?_; intro ad cap w5 hA; have HAp := Lib.hid hA; have hp5 := hA.2.1.heap Hw1.out.row (fun hb => Hw1.out.ne p hb rfl); have k5 : w5.cell? ⟨p, 0, none⟩ = some (.slice va ws.length vc) := cell_of hp5 rfl; have f5 : w5.frozen? ⟨p, 0, none⟩ = false := fr_of hp5; clear hA hp5) | fail)
  go_ret
  have hA := HAp.out
  have hap : u8s ws ++ u8s (txt s) = u8s (ws ++ txt s) := by simp [u8s]
  rw [hap] at hA
  have hput := Hw1.out.put (Mod.refl (fun _ => False) w1) (by rw [List.length_append, txt_length]) hA rfl
  refine ⟨rfl, .slice ad (ws.length + s.size) cap, ?_, ?_⟩
  rotate_left
  · exact Wrote.trans ⟨(Hal.out.mono (fun _ _ h => h.elim)).trans Hwr1.out.mod (fun _ _ h => h), fun k hk => (Hwr1.out.new k hk).imp id (fun h => by have := Hal.out.size; omega)⟩ hput.2
  · have e : bs ++ byteOf s.size :: txt s = ws ++ txt s := by rw [← Hws.out, List.append_assoc]; rfl
    rw [e]
    exact hput.1
end Go.Proofs.Ytmlnklbjjnjplaa
