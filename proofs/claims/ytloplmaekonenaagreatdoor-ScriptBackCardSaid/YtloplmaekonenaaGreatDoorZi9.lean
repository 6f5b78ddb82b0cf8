/-
  The Writer's Byte, Long, Text.
  The Writer's Value.
-/
import Derived.Test.YtloplmaekonenaaGreatDoorZi2
import Derived.Test.YtloplmaekonenaaGreatDoorZi8
import Derived.Test.YtloplmaekonenaaGreatDoorZi6
import Derived.Test.YtloplmaekonenaaGreatDoorZi3
namespace Go.Proofs.YtloplmaekonenaaGreatDoor
set_option maxRecDepth 20000
open Go.RowKit
theorem OwnSl.ne {w : World} {e : TypeId} {sz n : Nat} {v : Value} {xs : List Value} (h : OwnSl w e sz v n xs) {c : Array Value} {f : TypeId} {x : Nat × Nat} {j : Nat} (hj : w.heap[j]? = some (.cells c f x)) (hne : e ≠ f) : ∀ k, inBlock v k → k ≠ j := by
  rintro k hk rfl
  obtain ⟨cur, hc⟩ := h.elem k hk
  rw [hc] at hj
  cases hj
  exact hne rfl
structure Wtr (w : World) (p : Nat) (v : Value) (bs : List UInt8) : Prop where
  row : w.heap[p]? = some (.cells #[v] 124 (0, 0))
  own : OwnSl w 5 1 v bs.length (u8s bs)
structure Wrote (w : World) (p : Nat) (v : Value) (w' : World) (v' : Value) : Prop where
  mod : Mod (fun k => k = p ∨ inBlock v k) w w'
  new : ∀ k, inBlock v' k → inBlock v k ∨ w.heap.size ≤ k
section
variable {w w' w'' : World} {p : Nat} {v v' v'' : Value} {bs : List UInt8}
theorem Wrote.refl (w : World) (p : Nat) (v : Value) : Wrote w p v w v := ⟨Mod.refl _ _, fun _ h => .inl h⟩
theorem Wrote.trans (h : Wrote w p v w' v') (k : Wrote w' p v' w'' v'') : Wrote w p v w'' v'' :=
  ⟨(h.mod.trans k.mod fun b hb hg => by
    rcases hg with hg | hg
    · exact .inl hg
    · rcases h.new b hg with h1 | h1
      · exact .inr h1
      · omega), fun b hb => by
    rcases k.new b hb with h1 | h1
    · exact h.new b h1
    · have := h.mod.size
      exact .inr (by omega)⟩
theorem Wrote.also {F : Nat → Prop} (h : Wrote w p v w' v') (k : Mod F w' w'') (hF : ∀ b, F b → w.heap.size ≤ b) : Wrote w p v w'' v' :=
  ⟨h.mod.trans k fun b hb hg => by have := hF b hg; omega, h.new⟩
theorem Wtr.mod {F : Nat → Prop} (h : Wtr w p v bs) (hm : Mod F w w') (hp : ¬ F p) (hv : ∀ k, inBlock v k → ¬ F k) : Wtr w' p v bs := ⟨hm.heap h.row hp, h.own.mod hm hv⟩
theorem Wtr.same (h : Wtr w p v bs) (hm : Mod (fun _ => False) w w') : Wtr w' p v bs := h.mod hm (fun h => h) (fun _ _ h => h)
theorem Wtr.lt (h : Wtr w p v bs) : p < w.heap.size := (Array.getElem?_eq_some_iff.1 h.row).1
theorem Wtr.blt (h : Wtr w p v bs) : ∀ k, inBlock v k → k < w.heap.size := h.own.lt
theorem Wtr.ne (h : Wtr w p v bs) : ∀ k, inBlock v k → k ≠ p := h.own.ne h.row (by decide)
end
theorem bytes_T : SliceT Tryz.prog 69 5 1 1 := sliceT (by kernel_rfl) (by kernel_rfl)
theorem wp_append_sl {P : Program} {o : Oper} {a : Act} {w : World} {K : Act → World → Prop} {Q : Exit → Act → World → Prop}
    (s y : Operand) (t : TypeId) (hop : o.op = Op.call { callee := Callee.builtin Builtin.append, args := #[s, y], argTypes := #[t, t] })
    (e : TypeId) (sz bytes : Nat) (hT : SliceT P t e sz bytes)
    (v : Value) (n : Nat) (xs : List Value) (hs : a.eval s = v) (hown : OwnSl w e sz v n xs) (x : Value) (m : Nat) (news : List Value) (hy : a.eval y = x) (hx : RdSl w sz x m news) (h1 : ∀ u ∈ news, u.oneCell' = true)
    (hbytes : (n + m) * bytes ≤ 140737488355328) (hmax : n + m ≤ maxLen)
    (hK : ∀ ad cap w', Appended w e sz v (n + m) (xs ++ news) (.slice ad (n + m) cap) w' → K (a.put o.dst (.slice ad (n + m) cap)) w') : o.wp P a w K Q := by
  obtain ⟨ht, i0, z, hi, hz0, hz1, hz2, hzs⟩ := hT
  obtain ⟨v', w', hrun, r1, r2, r3⟩ := run_append_sl (P := P) w t o.type e i0 z sz bytes ht hi hz0 hz1 hz2 hzs v n xs hown x m news hx h1 hbytes hmax
  unfold Oper.wp execOp
  simp only [hop, resolve, invoke, builtin, Sem.run_bind, Sem.run_pure, Result.andThen_ok, List.map_toArray, List.map_cons, List.map_nil, hs, hy, hrun]
  obtain ⟨ad, cap, rfl, _⟩ := r1.shape
  exact hK ad cap w' ⟨r1, r2, r3⟩
def byteOf (x : Int) : UInt8 := UInt8.ofNat (x % 256).toNat
theorem byteOf_toNat (x : Int) : ((byteOf x).toNat : Int) = IntKind.u8.wrap x := by
  unfold byteOf
  rw [IntKind.wrap_u8]
  simp
  omega
theorem u8s_snoc (bs : List UInt8) (b : UInt8) : u8s (bs ++ [b]) = u8s bs ++ [.int .u8 (b.toNat : Int)] := by simp [u8s]
theorem Wtr.put {w w5 w6 : World} {p : Nat} {v : Value} {bs : List UInt8} (h : Wtr w p v bs) {al : World} (hal : Mod (fun _ => False) w al) {n : Nat} {ad : Option Addr} {cap : Nat} {cs : List UInt8} (hn : n = (bs ++ cs).length)
    (hA : Appended al 5 1 v n (u8s (bs ++ cs)) (.slice ad n cap) w5) (h6 : w6 = w5.setCell ⟨p, 0, none⟩ (.slice ad n cap)) :
    Wtr w6 p (.slice ad n cap) (bs ++ cs) ∧ Wrote w p v w6 (.slice ad n cap) := by
  subst h6 hn
  have hm6 : Mod (fun k => k = p) w5 (w5.setCell ⟨p, 0, none⟩ (.slice ad (bs ++ cs).length cap)) := (Mod.refl (fun k => k = p) w5).setCell (fun _ => rfl) _
  have hnew : ∀ k, inBlock (.slice ad (bs ++ cs).length cap) k → inBlock v k ∨ w.heap.size ≤ k := fun k hk => by
    rcases hA.2.2 with h1 | ⟨q, h1, hq⟩
    · exact .inl (h1.symm.trans hk)
    · have hk' : some q = some k := h1.symm.trans hk
      cases hk'
      have := hal.size
      exact .inr (by omega)
  have hpal := hal.heap h.row (fun h => h)
  have hp5 := hA.2.1.heap hpal (fun hb => h.ne p hb rfl)
  refine ⟨⟨heap_set hp5, hA.1.setCell (fun hb => ?_) _⟩, ⟨?_, hnew⟩⟩
  · rcases hnew p hb with h1 | h1
    · exact h.ne p h1 rfl
    · have := h.lt; omega
  · exact ((hal.mono (fun _ _ h => h.elim)).trans (hA.2.1.mono (fun _ _ h => .inr h)) (fun _ _ h => h)).trans hm6 (fun _ _ h => .inl h)
set_option maxRecDepth 20000 in
set_option maxHeartbeats 1000000 in
theorem wr_byte (w : World) (p : Nat) (v : Value) (bs : List UInt8) (h : Wtr w p v bs) (hl : bs.length ≤ 10000000) (x : Int) (g : Nat) (ha : w.cell? ⟨g, 0, none⟩ = some (.int .i64 x)) :
    Calls Tryz.prog 108 #[.pointer (some ⟨p, 0, none⟩), .slice (some ⟨g, 0, none⟩) 1 1] w fun e w' => e = .returned (.pointer (some ⟨p, 0, none⟩)) ∧ ∃ v', Wtr w' p v' (bs ++ [byteOf x]) ∧ Wrote w p v w' v' := by
  have H := Lib.hid h
  have Hl := Lib.hid hl
  clear h hl
  go_enter Tryz.func108, Tryz.ntmps108
  go_wp2_with fail
  go_loopw [9] (fun i wr => ∃ k : Nat, i = .int .i64 k ∧ ((k = 0 ∧ wr = w) ∨ (k = 1 ∧ ∃ v', Wtr wr p v' (bs ++ [byteOf x]) ∧ Wrote w p v wr v'))) (fun i _ => 1 - (intOf i).toNat)
  case atStart => exact ⟨0, rfl, .inl ⟨rfl, rfl⟩⟩
  case round =>
    obtain ⟨k, rfl, ⟨rfl, rfl⟩ | ⟨rfl, v', hw, hwr⟩⟩ := hrel
    · have c0 : wr.cell? ⟨p, 0, none⟩ = some v := cell_of H.out.row rfl
      have hone : ∀ u ∈ u8s [byteOf x], u.oneCell' = true := fun u hu => by
        simp only [u8s, List.map_cons, List.map_nil, List.mem_singleton] at hu
        subst hu; rfl
      have Hone := Lib.hid hone
      obtain ⟨z, hz⟩ : ∃ z, IntKind.u8.wrap x = z := ⟨_, rfl⟩
      have hcs : u8s [byteOf x] = [.int .u8 z] := by simp [u8s, byteOf_toNat, hz]
      have Hcs := Lib.hid hcs
      obtain ⟨va, vc, hv, -⟩ := H.out.own.shape
      subst hv
      clear hone hcs
      go_wp2_with (first | (refine wpList_append_sl rfl (.tmp 17) (.tmp 20) 69 rfl 5 1 1 bytes_T (.slice va bs.length vc) bs.length (u8s bs) rfl (H.out.own.alloc _) _ 1 (u8s [byteOf x]) rfl (by rw [Hcs.out]; exact RdSl.one _ _ _ rfl) Hone.out (by have := Hl.out; omega) (by have := Hl.out; unfold maxLen; omega) ?_; intro ad cap w5 hA; have HAp := Lib.hid hA; have hp5 := hA.2.1.heap (heap_old H.out.row) (fun hb => H.out.ne p hb rfl); have k5 : w5.cell? ⟨p, 0, none⟩ = some (.slice va bs.length vc) := cell_of hp5 rfl; have f5 : w5.frozen? ⟨p, 0, none⟩ = false := fr_of hp5; clear hA hp5) | fail)
      go_roundw
      case rel =>
        have hA := HAp.out
        have hap : u8s bs ++ u8s [byteOf x] = u8s (bs ++ [byteOf x]) := by simp [u8s]
        rw [hap] at hA
        exact ⟨1, rfl, .inr ⟨rfl, _, H.out.put ((Mod.refl _ _).alloc _) (by simp) hA rfl⟩⟩
      case measure => simp [intOf]
    · go_wp2
      go_ret
      exact ⟨rfl, v', hw, hwr⟩
def longBytes (x : Nat) : List UInt8 := (List.range 8).map fun k => byteOf ((x / 256 ^ (7 - k) : Nat) : Int)
theorem longBytes_length (x : Nat) : (longBytes x).length = 8 := by simp [longBytes]
theorem longBytes_take (x k : Nat) (hk : k < 8) : (longBytes x).take (k + 1) = (longBytes x).take k ++ [byteOf ((x / 256 ^ (7 - k) : Nat) : Int)] := by
  rw [List.take_succ_eq_append_getElem (by rw [longBytes_length]; exact hk)]
  simp [longBytes]
theorem byte_at (x k : Nat) (hk : k < 8) : IntKind.u8.wrap ((x : Int) / 2 ^ ((56 - 8 * (k : Int)).toNat)) = ((byteOf ((x / 256 ^ (7 - k) : Nat) : Int)).toNat : Int) := by
  rw [byteOf_toNat]
  congr 1
  have h : (56 - 8 * (k : Int)).toNat = 8 * (7 - k) := by omega
  have e : (2 : Int) ^ (8 * (7 - k)) = ((2 ^ (8 * (7 - k)) : Nat) : Int) := by norm_cast
  rw [h, e, Nat.pow_mul]
  rfl
set_option maxRecDepth 20000 in
set_option maxHeartbeats 1000000 in
theorem wr_long (w : World) (p : Nat) (v : Value) (bs : List UInt8) (h : Wtr w p v bs) (hl : bs.length ≤ 9000000) (x : Nat) (hx : x < 2 ^ 64) :
    Calls Tryz.prog 182 #[.pointer (some ⟨p, 0, none⟩), .int .u64 (x : Nat)] w fun e w' => e = .returned (.pointer (some ⟨p, 0, none⟩)) ∧ ∃ v', Wtr w' p v' (bs ++ longBytes x) ∧ Wrote w p v w' v' := by
  have H := Lib.hid h
  have Hl := Lib.hid hl
  have Hx := Lib.hid hx
  clear h hl hx
  go_enter Tryz.func182, Tryz.ntmps182
  go_wp2_with fail
  go_loopw [5] (fun i wr => ∃ k : Nat, k ≤ 8 ∧ i = .int .i64 (56 - 8 * k) ∧ ∃ v', Wtr wr p v' (bs ++ (longBytes x).take k) ∧ Wrote w p v wr v') (fun i _ => (intOf i + 8).toNat)
  case atStart => exact ⟨0, by omega, rfl, v, by simpa using H.out, Wrote.refl _ _ _⟩
  case round =>
    obtain ⟨k, hk, rfl, v', hw, hwr⟩ := hrel
    have Hw := Lib.hid hw
    have Hwr := Lib.hid hwr
    clear hw hwr
    by_cases hlt : k < 8
    · have h1 : (0 : Int) ≤ 56 - 8 * k := by omega
      have c0 : wr.cell? ⟨p, 0, none⟩ = some v' := cell_of Hw.out.row rfl
      obtain ⟨ws, hws⟩ : ∃ ws, bs ++ (longBytes x).take k = ws := ⟨_, rfl⟩
      have hwl : ws.length ≤ 9000008 := by rw [← hws, List.length_append, List.length_take, longBytes_length]; have := Hl.out; omega
      rw [hws] at Hw
      have Hws := Lib.hid hws
      have Hwl := Lib.hid hwl
      clear hws hwl
      obtain ⟨va, vc, hv, -⟩ := Hw.out.own.shape
      subst hv
      have hone : ∀ u ∈ u8s [byteOf ((x / 256 ^ (7 - k) : Nat) : Int)], u.oneCell' = true := fun u hu => by
        simp only [u8s, List.map_cons, List.map_nil, List.mem_singleton] at hu
        subst hu; rfl
      have hbt : u8s [byteOf ((x / 256 ^ (7 - k) : Nat) : Int)] = [.int .u8 (IntKind.u8.wrap ((x : Int) / 2 ^ ((56 - 8 * (k : Int)).toNat)))] := by rw [byte_at x k hlt]; simp [u8s]
      have Hone := Lib.hid hone
      have Hbt := Lib.hid hbt
      clear hone hbt
      go_wp2_with fail
      refine wp_region_script [.rd 0, .rd 1, .rd 2, .rd 3, .rd 5, .rd 6, .rd 7, .rd 4, .go 8, .go 9, .go 10, .go 11, .go 12, .go 13] [0, 1, 2, 3, 4, 5, 6, 7, 8, 9] (fun y => y.cell? ⟨p, 0, none⟩ = some (.slice va ws.length vc)) (by kernel_rfl) (by kernel_rfl) (fun _ _ d _ _ h => (by cases d <;> exact h)) ?_
      refine walk_rd rfl rfl (fun _ => c0) ?_ (fun w0 h0 => ?_) (fun K hK => ?_)
      rotate_left
      · clear h0; go_simp; with_reducible rfl
      go_simp; refine hK _ ?_; clear hK K
      refine walk_rd rfl rfl (fun _ => c0) ?_ (fun w0 h0 => ?_) (fun K hK => ?_)
      rotate_left
      · clear h0; go_simp; with_reducible rfl
      go_simp; refine hK _ ?_; clear hK K
      refine walk_rd rfl rfl (fun _ => c0) ?_ (fun w0 h0 => ?_) (fun K hK => ?_)
      rotate_left
      · clear h0; go_simp; with_reducible rfl
      go_simp; refine hK _ ?_; clear hK K
      refine walk_rd rfl rfl (fun _ => c0) ?_ (fun w0 h0 => ?_) (fun K hK => ?_)
      rotate_left
      · clear h0; go_simp; with_reducible rfl
      go_simp; refine hK _ ?_; clear hK K
      refine walk_rd rfl rfl (fun _ => c0) ?_ (fun w0 h0 => ?_) (fun K hK => ?_)
      rotate_left
      · clear h0; go_simp; with_reducible rfl
      go_simp; refine hK _ ?_; clear hK K
      refine walk_rd rfl rfl (fun _ => c0) ?_ (fun w0 h0 => ?_) (fun K hK => ?_)
      rotate_left
      · clear h0; go_simp; with_reducible rfl
      go_simp; refine hK _ ?_; clear hK K
      refine walk_rd rfl rfl (fun _ => c0) ?_ (fun w0 h0 => ?_) (fun K hK => ?_)
      rotate_left
      · clear h0; go_simp; with_reducible rfl
      go_simp; refine hK _ ?_; clear hK K
      refine walk_rd rfl rfl (fun _ => c0) ?_ (fun w0 h0 => ?_) (fun K hK => ?_)
      rotate_left
      · have h1 := h0 rfl; clear h0; go_simp; with_reducible rfl
      go_simp; refine hK _ ?_; clear hK K
      refine walk_one (go_yes rfl rfl (fun K hK => ?_))
      go_simp
      refine hK _ _ (fun _ h => h) ?_
      clear hK K
      refine walk_one (go_yes rfl rfl (fun K hK => ?_))
      go_simp
      refine hK _ _ (fun _ h => cell_new h _) ?_
      clear hK K
      refine walk_one (go_yes rfl rfl (fun K hK => ?_))
      refine wp_append_sl (.tmp 14) (.tmp 19) 69 rfl 5 1 1 bytes_T (.slice va ws.length vc) ws.length (u8s ws) rfl ((Hw.out.own.drew).alloc _) _ 1 (u8s [byteOf ((x / 256 ^ (7 - k) : Nat) : Int)]) rfl (by rw [Hbt.out]; exact RdSl.one _ _ _ rfl) Hone.out (by have := Hwl.out; omega) (by have := Hwl.out; unfold maxLen; omega) ?_
      intro ad cap w5 hA
      have hp5 := hA.2.1.heap (heap_old (heap_drew_ Hw.out.row)) (fun hb => Hw.out.ne p hb rfl)
      have k5 : w5.cell? ⟨p, 0, none⟩ = some (.slice va ws.length vc) := cell_of hp5 rfl
      have f5 : w5.frozen? ⟨p, 0, none⟩ = false := fr_of hp5
      have HAp := Lib.hid hA
      clear hA hp5
      refine hK _ _ (fun h => absurd h (by decide)) ?_
      clear hK K
      go_simp
      refine walk_one (go_yes rfl rfl (fun K hK => ?_))
      go_simp
      refine hK _ _ (fun h => absurd h (by decide)) ?_
      clear hK K
      refine walk_one (go_yes rfl rfl (fun K hK => ?_))
      go_simp
      refine hK _ _ (fun h => absurd h (by decide)) ?_
      clear hK K
      refine walk_one (go_yes rfl rfl (fun K hK => ?_))
      go_simp
      refine hK _ _ (fun h => absurd h (by decide)) ?_
      clear hK K
      refine walk_nil ?_
      go_wp2
      go_roundw
      case rel =>
        have hA := HAp.out
        have hap : u8s ws ++ u8s [byteOf ((x / 256 ^ (7 - k) : Nat) : Int)] = u8s (ws ++ [byteOf ((x / 256 ^ (7 - k) : Nat) : Int)]) := by simp [u8s]
        rw [hap] at hA
        have hput := Hw.out.put (((Mod.refl (fun _ => False) wr).drew).alloc _) (by simp) hA rfl
        refine ⟨k + 1, hlt, by go_num, _, ?_, Hwr.out.trans hput.2⟩
        rw [longBytes_take x k hlt, ← List.append_assoc, Hws.out]
        exact hput.1
      case measure => simp [intOf]; omega
    · obtain rfl : k = 8 := by omega
      go_wp2
      go_ret
      refine ⟨rfl, v', ?_, Hwr.out⟩
      have := Hw.out
      rwa [List.take_of_length_le (by rw [longBytes_length]; exact Nat.le_refl _)] at this
set_option maxHeartbeats 400000 in
theorem wr_text (w : World) (p : Nat) (v : Value) (bs : List UInt8) (h : Wtr w p v bs) (hl : bs.length ≤ 9000000) (s : ByteArray) (hs : s.size ≤ 100000) :
    Calls Tryz.prog 109 #[.pointer (some ⟨p, 0, none⟩), .string s] w fun e w' => e = .returned (.pointer (some ⟨p, 0, none⟩)) ∧ ∃ v', Wtr w' p v' (bs ++ byteOf s.size :: txt s) ∧ Wrote w p v w' v' := by
  have hs' : (s.size : Int) ≤ 100000 := by omega
  have hal : Mod (fun _ => False) w (w.alloc (.cells #[.int .i64 s.size] 3)) := (Mod.refl _ w).alloc _
  have hb := wr_byte _ p v bs (h.same hal) (by omega) s.size w.heap.size (cell_of (heap_alloc_new w _) rfl)
  have Hb := Lib.hid hb
  have Hal := Lib.hid hal
  have Hl := Lib.hid hl
  clear h hb hal hl hs
  go_enter Tryz.func109, Tryz.ntmps109
  go_wp2_with fail
  refine Hb.out.mono ?_
  rintro e w1 ⟨rfl, v1, hw1, hwr1⟩
  have Hw1 := Lib.hid hw1
  have Hwr1 := Lib.hid hwr1
  obtain ⟨va, vc, hv, -⟩ := hw1.own.shape
  subst hv
  have c0 : w1.cell? ⟨p, 0, none⟩ = some (.slice va (bs ++ [byteOf s.size]).length vc) := cell_of hw1.row rfl
  clear hw1 hwr1 Hb
  obtain ⟨ws, hws⟩ : ∃ ws, bs ++ [byteOf s.size] = ws := ⟨_, rfl⟩
  have hwl : ws.length ≤ 9000001 := by rw [← hws, List.length_append]; have := Hl.out; simpa using this
  rw [hws] at Hw1 c0 Hwr1
  have Hws := Lib.hid hws
  have Hwl := Lib.hid hwl
  clear hws hwl
  go_wp2_with (first | (refine wpList_append_str rfl (.tmp 14) (.tmp 15) 69 9 rfl 5 bytes_T (by kernel_rfl) (.slice va ws.length vc) ws.length (u8s ws) rfl Hw1.out.own s rfl (by have := Hwl.out; omega) (by have := Hwl.out; unfold maxLen; omega) ?_; intro ad cap w5 hA; have HAp := Lib.hid hA; have hp5 := hA.2.1.heap Hw1.out.row (fun hb => Hw1.out.ne p hb rfl); have k5 : w5.cell? ⟨p, 0, none⟩ = some (.slice va ws.length vc) := cell_of hp5 rfl; have f5 : w5.frozen? ⟨p, 0, none⟩ = false := fr_of hp5; clear hA hp5) | fail)
  go_ret
  have hA := HAp.out
  have hap : u8s ws ++ u8s (txt s) = u8s (ws ++ txt s) := by simp [u8s]
  rw [hap] at hA
  have hput := Hw1.out.put (Mod.refl (fun _ => False) w1) (by rw [List.length_append, txt_length]) hA rfl
  refine ⟨rfl, .slice ad (ws.length + s.size) cap, ?_, ?_⟩
  rotate_left
  · exact Wrote.trans ⟨(Hal.out.mono (fun _ _ h => h.elim)).trans Hwr1.out.mod (fun _ _ h => h), fun k hk => (Hwr1.out.new k hk).imp id (fun h => by have := Hal.out.size; omega)⟩ hput.2
  · have e : bs ++ byteOf s.size :: txt s = ws ++ txt s := by rw [← Hws.out, List.append_assoc]; rfl
    rw [e]
    exact hput.1
end Go.Proofs.YtloplmaekonenaaGreatDoor
namespace Go.Proofs.YtloplmaekonenaaGreatDoor
set_option maxRecDepth 20000
open Go.RowKit
def valBytes (v : V) : List UInt8 :=
  byteOf v.kind :: (if v.kind = 0 then longBytes (v.int % 18446744073709551616).toNat else if v.kind = 1 then longBytes (keyB v.num) else if v.kind = 2 then byteOf v.text.size :: txt v.text else [if v.yes then 1 else 0])
theorem keyB_lt {x : Nat} (hx : x < 2 ^ 64) : keyB x < 2 ^ 64 := by
  have := canonB_lt hx
  unfold keyB
  split
  · split <;> omega
  · omega
theorem Wtr.last {w : World} {p : Nat} {v : Value} {bs : List UInt8} {b : UInt8} (h : Wtr w p v (bs ++ [b])) : ∃ g off cap, v = .slice (some ⟨g, off, none⟩) (bs.length + 1) cap ∧ bs.length + 1 ≤ cap ∧
    w.cell? ⟨g, off + bs.length, none⟩ = some (.int .u8 (b.toNat : Int)) ∧ w.frozen? ⟨g, off + bs.length, none⟩ = false ∧
    ∀ c : UInt8, Wtr (w.setCell ⟨g, off + bs.length, none⟩ (.int .u8 (c.toNat : Int))) p v (bs ++ [c]) ∧ Wrote w p v (w.setCell ⟨g, off + bs.length, none⟩ (.int .u8 (c.toNat : Int))) v := by
  have hlen : (bs ++ [b]).length = bs.length + 1 := by simp
  rcases h.own.2 with ⟨rfl, h0⟩ | ⟨g, off, cap, cur, hv, hg, hn, hc, hs, ht⟩
  · omega
  rw [hlen] at hv hn
  refine ⟨g, off, cap, hv, hn, ?_, fr_of hg, fun c => ?_⟩
  · refine cell_of hg ?_
    have : (u8s (bs ++ [b]))[bs.length]? = some (.int .u8 (b.toNat : Int)) := by simp [u8s]
    rw [← ht, List.getElem?_take, if_pos (by omega), List.getElem?_drop] at this
    simpa using this
  · have hgp : g ≠ p := h.ne g (by rw [hv]; rfl)
    refine ⟨⟨?_, ⟨by simp [u8s], .inr ⟨g, off, cap, _, by rw [hv]; simp, heap_set hg, by simpa using hn, hc, by simpa using hs, ?_⟩⟩⟩, ⟨(Mod.refl (fun k => k = p ∨ inBlock v k) w).setCell (fun _ => .inr (by rw [hv]; rfl)) _, fun k hk => .inl hk⟩⟩
    · exact ((Mod.refl (fun k => k = g) w).setCell (fun _ => rfl) _).heap h.row (fun h => hgp h.symm)
    · have e : ((bs ++ [c]).length * 1) = ((bs ++ [b]).length * 1) := by simp
      rw [e, Array.toList_setIfInBounds, List.drop_set, if_neg (by omega), List.take_set, ht, u8s_snoc, u8s_snoc, show off + bs.length - off = (u8s bs).length by rw [u8s_length]; omega]
      simp
set_option maxRecDepth 20000 in
set_option maxHeartbeats 1000000 in
theorem wr_value (w : World) (p : Nat) (v : Value) (bs : List UInt8) (h : Wtr w p v bs) (hl : bs.length ≤ 8000000) (u : V) (ht : u.text.size ≤ 100000) (hn : u.num < 2 ^ 64) :
    Calls Tryz.prog 144 #[.pointer (some ⟨p, 0, none⟩), .agg u.cells.toArray] w fun e w' => e = .returned (.pointer (some ⟨p, 0, none⟩)) ∧ ∃ v', Wtr w' p v' (bs ++ valBytes u) ∧ Wrote w p v w' v' := by
  obtain ⟨kind, int, num, text, yes⟩ := u
  unfold V.cells
  have hal : Mod (fun _ => False) w ((w.alloc (.cells #[.int .i64 kind, .int .i64 int, .float .f64 num, .string text, .bool yes] 79)).alloc (.cells #[.int .i64 kind] 3)) := ((Mod.refl _ w).alloc _).alloc _
  have hb := wr_byte _ p v bs (h.same hal) (by omega) kind (w.heap.size + 1) (cell_of (heap_alloc2 w _ _) rfl)
  have Hb := Lib.hid hb
  have Hal := Lib.hid hal
  have Hl := Lib.hid hl
  have Ht := Lib.hid ht
  have Hn := Lib.hid hn
  have H := Lib.hid h
  clear h hb hal hl ht hn
  go_enter Tryz.func144, Tryz.ntmps144
  go_wp2_with fail
  refine Hb.out.mono ?_
  rintro e w1 ⟨rfl, v1, hw1, hwr1⟩
  have hg1 : w1.heap[w.heap.size]? = some (.cells #[.int .i64 kind, .int .i64 int, .float .f64 num, .string text, .bool yes] 79 (0, 0)) :=
    hwr1.mod.heap (heap_old (heap_alloc_new w _)) (fun hk => by
      rcases hk with hk | hk
      · have := H.out.lt; omega
      · have := H.out.blt _ hk; omega)
  have hwr : Wrote w p v w1 v1 := ⟨(Hal.out.mono (fun _ _ h => h.elim)).trans hwr1.mod (fun _ _ h => h), fun k hk => (hwr1.new k hk).imp id (fun h => by have := Hal.out.size; omega)⟩
  have b0 : w1.cell? ⟨w.heap.size, 0, none⟩ = some (.int .i64 kind) := cell_of hg1 rfl
  have b1 : w1.cell? ⟨w.heap.size, 1, none⟩ = some (.int .i64 int) := cell_of hg1 rfl
  have b2 : w1.cell? ⟨w.heap.size, 2, none⟩ = some (.float .f64 num) := cell_of hg1 rfl
  have b3 : w1.cell? ⟨w.heap.size, 3, none⟩ = some (.string text) := cell_of hg1 rfl
  have b4 : w1.cell? ⟨w.heap.size, 4, none⟩ = some (.bool yes) := cell_of hg1 rfl
  have Hw1 := Lib.hid hw1
  have Hwr := Lib.hid hwr
  have Hg1 := Lib.hid hg1
  clear hw1 hwr1 hwr hg1 Hb
  rcases (by omega : kind = 0 ∨ kind = 1 ∨ kind = 2 ∨ (kind ≠ 0 ∧ kind ≠ 1 ∧ kind ≠ 2)) with rfl | rfl | rfl | ⟨h0, h1, h2⟩
  · have hx : IntKind.u64.wrap int = (((int % 18446744073709551616).toNat : Nat) : Int) := by rw [IntKind.wrap_u64]; omega
    have hlg := wr_long w1 p v1 _ Hw1.out (by rw [List.length_append]; have := Hl.out; simp; omega) (int % 18446744073709551616).toNat (by omega)
    rw [← hx] at hlg
    clear hx
    have Hlg := Lib.hid hlg
    clear hlg
    go_wp2_with fail
    refine Hlg.out.mono ?_
    rintro e w2 ⟨rfl, v2, hw2, hwr2⟩
    go_wp2
    go_ret
    refine ⟨rfl, v2, ?_, Hwr.out.trans hwr2⟩
    rw [List.append_assoc] at hw2
    exact hw2
  · have hky := key_at num Hn.out w1
    have hlg := wr_long w1 p v1 _ Hw1.out (by rw [List.length_append]; have := Hl.out; simp; omega) (keyB num) (keyB_lt Hn.out)
    have Hky := Lib.hid hky
    have Hlg := Lib.hid hlg
    clear hlg hky
    go_wp2_with fail
    refine Hky.out.mono ?_
    rintro e w1' ⟨rfl, rfl⟩
    go_wp2_with fail
    refine Hlg.out.mono ?_
    rintro e w2 ⟨rfl, v2, hw2, hwr2⟩
    go_wp2
    go_ret
    refine ⟨rfl, v2, ?_, Hwr.out.trans hwr2⟩
    rw [List.append_assoc] at hw2
    exact hw2
  · have hlg := wr_text w1 p v1 _ Hw1.out (by rw [List.length_append]; have := Hl.out; simp; omega) text Ht.out
    have Hlg := Lib.hid hlg
    clear hlg
    go_wp2_with fail
    refine Hlg.out.mono ?_
    rintro e w2 ⟨rfl, v2, hw2, hwr2⟩
    go_wp2
    go_ret
    refine ⟨rfl, v2, ?_, Hwr.out.trans hwr2⟩
    rw [List.append_assoc] at hw2
    exact hw2
  · have hal1 : Mod (fun _ => False) w1 (w1.alloc (.cells #[.int .i64 0] 3)) := (Mod.refl _ w1).alloc _
    have hlg := wr_byte _ p v1 _ (Hw1.out.same hal1) (by rw [List.length_append]; have := Hl.out; simp; omega) 0 w1.heap.size (cell_of (heap_alloc_new w1 _) rfl)
    have Hlg := Lib.hid hlg
    have Hal1 := Lib.hid hal1
    have hvb : valBytes ⟨kind, int, num, text, yes⟩ = byteOf kind :: [if yes then 1 else 0] := by unfold valBytes; simp [h0, h1, h2]
    have Hvb := Lib.hid hvb
    clear hlg hal1 hvb
    go_wp2_with fail
    refine Hlg.out.mono ?_
    rintro e w2 ⟨rfl, v2, hw2, hwr2⟩
    have hg2 : w2.heap[w.heap.size]? = some (.cells #[.int .i64 kind, .int .i64 int, .float .f64 num, .string text, .bool yes] 79 (0, 0)) :=
      hwr2.mod.heap (heap_old Hg1.out) (fun hk => by
        rcases hk with hk | hk
        · have := H.out.lt; omega
        · rcases Hwr.out.new _ hk with h | h
          · have := H.out.blt _ h; omega
          · obtain ⟨cur, hcur⟩ := Hw1.out.own.elem _ hk
            rw [Hg1.out] at hcur
            cases hcur)
    have d4 : w2.cell? ⟨w.heap.size, 4, none⟩ = some (.bool yes) := cell_of hg2 rfl
    have hwr : Wrote w p v w2 v2 := Hwr.out.trans ⟨(Hal1.out.mono (fun _ _ h => h.elim)).trans hwr2.mod (fun _ _ h => h), fun k hk => (hwr2.new k hk).imp id (fun h => by have := Hal1.out.size; omega)⟩
    have Hw2 := Lib.hid hw2
    have Hwr2 := Lib.hid hwr
    clear hw2 hwr hwr2 hg2 Hlg Hal1
    cases yes with
    | false =>
      go_wp2
      go_ret
      refine ⟨rfl, v2, ?_, Hwr2.out⟩
      rw [Hvb.out]
      have h := Hw2.out
      rw [List.append_assoc] at h
      exact h
    | true =>
      obtain ⟨g, off, cap, rfl, hcap, hcell, hfr, hlast⟩ := Hw2.out.last
      obtain ⟨m, hm⟩ : ∃ m, (bs ++ [byteOf kind]).length = m := ⟨_, rfl⟩
      have hm' : m ≤ 8000001 := by rw [← hm, List.length_append]; have := Hl.out; simpa using this
      have hmlt : (m : Int) < m + 1 := by omega
      have hmw : IntKind.i64.wrap (m : Int) = m := by rw [IntKind.wrap_i64]; omega
      have cp := cell_of (j := 0) Hw2.out.row rfl
      rw [hm] at cp hcell hfr hlast hcap Hwr2
      have Hlast := Lib.hid hlast
      have hcap' : (m : Int) + 1 ≤ cap := by omega
      have hm'' : (m : Int) ≤ 8000001 := by omega
      have Hmm := Lib.hid hm
      clear hlast hm
      have hsl : ∀ x : World, x.cell? ⟨p, 0, none⟩ = some (.slice (some ⟨g, off, none⟩) (m + 1) cap) → x.cell? ⟨p, 0, none⟩ = some (.slice (some ⟨g, off, none⟩) (m + 1) cap) := fun _ h => h
      go_wp2_with fail
      refine wp_region_script [.rd 0, .rd 1, .rd 2, .rd 3, .rd 4, .rd 5, .rd 6, .rd 7, .rd 8, .rd 9, .rd 10, .go 11] [0, 1, 2, 3, 4, 5, 6, 7, 8, 9, 10] (fun y => y.cell? ⟨p, 0, none⟩ = some (.slice (some ⟨g, off, none⟩) (m + 1) cap)) (by kernel_rfl) (by kernel_rfl) (fun _ _ d _ _ h => (by cases d <;> exact h)) ?_
      have cS := cp
      refine walk_rd rfl rfl (fun _ => cS) ?_ (fun w0 h0 => ?_) (fun K hK => ?_)
      rotate_left
      · clear h0; go_simp; with_reducible rfl
      go_simp; refine hK _ ?_; clear hK K
      refine walk_rd rfl rfl (fun _ => cS) ?_ (fun w0 h0 => ?_) (fun K hK => ?_)
      rotate_left
      · clear h0; go_simp; with_reducible rfl
      go_simp; refine hK _ ?_; clear hK K
      refine walk_rd rfl rfl (fun _ => cS) ?_ (fun w0 h0 => ?_) (fun K hK => ?_)
      rotate_left
      · clear h0; go_simp; with_reducible rfl
      go_simp; refine hK _ ?_; clear hK K
      refine walk_rd rfl rfl (fun _ => cS) ?_ (fun w0 h0 => ?_) (fun K hK => ?_)
      rotate_left
      · have h1 := h0 rfl; clear h0; go_simp; with_reducible rfl
      go_simp; refine hK _ ?_; clear hK K
      refine walk_rd rfl rfl (fun _ => cS) ?_ (fun w0 h0 => ?_) (fun K hK => ?_)
      rotate_left
      · clear h0; go_simp; with_reducible rfl
      go_simp; refine hK _ ?_; clear hK K
      refine walk_rd rfl rfl (fun _ => cS) ?_ (fun w0 h0 => ?_) (fun K hK => ?_)
      rotate_left
      · clear h0; go_simp; with_reducible rfl
      go_simp; refine hK _ ?_; clear hK K
      refine walk_rd rfl rfl (fun _ => cS) ?_ (fun w0 h0 => ?_) (fun K hK => ?_)
      rotate_left
      · clear h0; go_simp; with_reducible rfl
      go_simp; refine hK _ ?_; clear hK K
      refine walk_rd rfl rfl (fun _ => cS) ?_ (fun w0 h0 => ?_) (fun K hK => ?_)
      rotate_left
      · have h1 := h0 rfl; clear h0; go_simp; with_reducible rfl
      go_simp; refine hK _ ?_; clear hK K
      refine walk_rd rfl rfl (fun _ => cS) ?_ (fun w0 h0 => ?_) (fun K hK => ?_)
      rotate_left
      · clear h0; go_simp; with_reducible rfl
      go_simp; refine hK _ ?_; clear hK K
      refine walk_rd rfl rfl (fun _ => cS) ?_ (fun w0 h0 => ?_) (fun K hK => ?_)
      rotate_left
      · clear h0; go_simp; with_reducible rfl
      go_simp; refine hK _ ?_; clear hK K
      refine walk_rd rfl rfl (fun _ => cS) ?_ (fun w0 h0 => ?_) (fun K hK => ?_)
      rotate_left
      · clear h0; go_simp; with_reducible rfl
      go_simp; refine hK _ ?_; clear hK K
      refine walk_one (go_yes rfl rfl (fun K hK => ?_))
      go_simp
      refine hK _ _ (fun h => absurd h (by decide)) ?_
      clear hK K
      refine walk_nil ?_
      go_wp2
      go_ret
      have hL : Wtr (w2.setCell ⟨g, off + m, none⟩ (.int .u8 1)) p (.slice (some ⟨g, off, none⟩) (m + 1) cap) ((bs ++ [byteOf kind]) ++ [1]) ∧ Wrote w2 p (.slice (some ⟨g, off, none⟩) (m + 1) cap) (w2.setCell ⟨g, off + m, none⟩ (.int .u8 1)) (.slice (some ⟨g, off, none⟩) (m + 1) cap) := Hlast.out 1
      refine ⟨rfl, .slice (some ⟨g, off, none⟩) (m + 1) cap, ?_, (Hwr2.out.trans hL.2).also ((Mod.refl (fun _ => False) _).drew) (fun _ h => h.elim)⟩
      rw [Hvb.out]
      have h := hL.1.same ((Mod.refl (fun _ => False) _).drew)
      rw [List.append_assoc] at h
      exact h
end Go.Proofs.YtloplmaekonenaaGreatDoor
