/-
  Arguments that are ops, opened: what is weighed gives the sizes of their texts.
  From what a row lists of the package-level variables to what the walks ask.
-/
import Derived.Test.YtloplmaekonenaaGreatDoorZi42
import Derived.Test.YtloplmaekonenaaGreatDoorZi40
import Derived.Test.YtloplmaekonenaaGreatDoorZi25
import Derived.Test.YtloplmaekonenaaGreatDoorRows
import Derived.PinnedBridge
import Derived.Lib.LaidU8T
import Derived.Lib.LaidTab
import Derived.Lib.LaidPrint
namespace Go.Proofs.YtloplmaekonenaaGreatDoor
set_option maxRecDepth 20000
open Go.ChangeShapes Go.WideShapes Go.ChangeAt Go.RowKit
section
variable {H : Type} {enc : TypeId × Value → H} {W : World}
theorem weightsAll_mem {e : TypeId} : ∀ {l : List (DataW H)} {d : DataW H} {n : Nat}, d ∈ l → n ∈ DataW.weights Tryz.prog e d → n ∈ DataW.weightsAll Tryz.prog e l
  | a :: l, d, n, hd, hn => by
    unfold DataW.weightsAll
    rcases List.mem_cons.1 hd with rfl | hd
    · exact List.mem_append_left _ hn
    · exact List.mem_append_right _ (weightsAll_mem hd hn)
theorem weightsEach_mem : ∀ {ts : List TypeId} {l : List (DataW H)} {i : Nat} {t : TypeId} {d : DataW H} {n : Nat}, ts[i]? = some t → l[i]? = some d → n ∈ DataW.weights Tryz.prog t d → n ∈ DataW.weightsEach Tryz.prog ts l
  | [], _, _, _, _, _, h, _, _ => by simp at h
  | _ :: _, [], _, _, _, _, _, h, _ => by simp at h
  | a :: ts, b :: l, 0, t, d, n, h1, h2, hn => by
    unfold DataW.weightsEach
    simp only [List.getElem?_cons_zero, Option.some.injEq] at h1 h2
    subst h1 h2
    exact List.mem_append_left _ hn
  | a :: ts, b :: l, i + 1, t, d, n, h1, h2, hn => by
    unfold DataW.weightsEach
    rw [List.getElem?_cons_succ] at h1 h2
    exact List.mem_append_right _ (weightsEach_mem h1 h2 hn)
theorem weights_part {ty : TypeId} {fs : Array Field} (ht : Tryz.prog.underlying ty = some (.struct fs)) {l : List (DataW H)} {i : Nat} {t : TypeId} {d : DataW H} {n : Nat} (h1 : (fs.toList.map (·.type))[i]? = some t) (h2 : l[i]? = some d) (hn : n ∈ DataW.weights Tryz.prog t d) :
    n ∈ DataW.weights Tryz.prog ty (.agg l : DataW H) := by
  unfold DataW.weights
  rw [ht]
  exact weightsEach_mem h1 h2 hn
theorem weights_elem {ty e : TypeId} (ht : Tryz.prog.underlying ty = some (.slice e)) {l r : List (DataW H)} {d : DataW H} {n : Nat} (hd : d ∈ l) (hn : n ∈ DataW.weights Tryz.prog e d) : n ∈ DataW.weights Tryz.prog ty (.slice l r : DataW H) := by
  unfold DataW.weights
  rw [ht]
  exact List.mem_cons_of_mem _ (List.mem_append_left _ (weightsAll_mem hd hn))
theorem open_frd {fuel : Nat} {cs : List Value} {x : DataW H × List MemPlace} (h : DataW.trod enc Tryz.prog W 0 (fun _ => true) true fuel 29 cs = some x) : ∃ f : Fr, cs = f.cells ∧ (f.ok W ∧ ∀ c ∈ f.cs, c.v.text.size ≤ 9223372036854775807) := by
  obtain ⟨xs, n1, -, -, hlen, -, -⟩ := DataW.trod_struct Tryz.underlying29 h
  rw [show Tryz.prog.cellsOf 29 = 2 by kernel_rfl] at hlen
  match cs, hlen with
  | [c4, c5], _ =>
    obtain ⟨ys0, ys1, n2, -, -, g0, g1⟩ := trod_struct2 Tryz.underlying29 h
    have g0 : DataW.trod enc Tryz.prog W 0 (fun _ => true) true n2 9 (([c4, c5].drop 0).take (Tryz.prog.cellsOf 9)) = some ys0 := g0
    have g1 : DataW.trod enc Tryz.prog W 0 (fun _ => true) true n2 27 (([c4, c5].drop 1).take (Tryz.prog.cellsOf 27)) = some ys1 := g1
    rw [show Tryz.prog.cellsOf 9 = 1 by kernel_rfl] at g0
    rw [show Tryz.prog.cellsOf 27 = 1 by kernel_rfl] at g1
    obtain ⟨z4, e4, -, l4⟩ := DataW.trod_string Tryz.underlying9 g0
    have e4 : [c4] = [.string z4] := e4
    cases e4
    obtain ⟨l, k1, k2, k3⟩ := open_cnds0 (v := c5) g1
    obtain ⟨A, cap, rfl⟩ : ∃ A cap, c5 = .slice A l.length cap := by
      obtain ⟨-, a', c', k5, -⟩ := k1
      exact ⟨a', c', k5⟩
    exact ⟨⟨z4, A, cap, l⟩, rfl, ⟨k1, ⟨le63 l4, le63 k2⟩, fun c hc => ⟨le63 (k3 c hc).1, (k3 c hc).2.2.1, (k3 c hc).2.2.2⟩⟩, fun c hc => le63 (k3 c hc).2.1⟩
theorem open_ruc {fuel : Nat} {cs : List Value} {x : DataW H × List MemPlace} (h : DataW.trod enc Tryz.prog W 0 (fun _ => true) true fuel 117 cs = some x) (hw : ∀ n ∈ DataW.weights Tryz.prog 117 x.1, n ≤ reachBytes) : ∃ (z0 : Int) (z1 : Int) (z2 : ByteArray) (z3 : Int) (z4 : Fr) (z5 : ByteArray) (z6 : Int), cs = [.int .i64 z0, .int .i64 z1, .string z2, .int .i64 z3, .string z4.sc, .slice z4.a z4.cs.length z4.c, .string z5, .int .i64 z6] ∧ (-9223372036854775808 ≤ z0 ∧ z0 ≤ 9223372036854775807) ∧ (-9223372036854775808 ≤ z1 ∧ z1 ≤ 9223372036854775807) ∧ z2.size ≤ reachBytes ∧ (-9223372036854775808 ≤ z3 ∧ z3 ≤ 9223372036854775807) ∧ (z4.ok W ∧ ∀ c ∈ z4.cs, c.v.text.size ≤ 9223372036854775807) ∧ z5.size ≤ reachBytes ∧ (-9223372036854775808 ≤ z6 ∧ z6 ≤ 9223372036854775807) := by
  obtain ⟨xs, n1, -, hxd, hlen, hxs, hf⟩ := DataW.trod_struct Tryz.underlying117 h
  rw [show Tryz.prog.cellsOf 117 = 8 by kernel_rfl] at hlen
  have hx : ∀ i, i < 7 → ∃ y, xs[i]? = some y := fun i hi => by
    simp at hxs
    exact ⟨_, List.getElem?_eq_getElem (by omega)⟩
  match cs, hlen with
  | [c0, c1, c2, c3, c4, c5, c6, c7], _ =>
    obtain ⟨y0, h0⟩ := hx 0 (by omega)
    have f0 : DataW.trod enc Tryz.prog W 0 (fun _ => true) true n1 3 (([c0, c1, c2, c3, c4, c5, c6, c7].drop 0).take (Tryz.prog.cellsOf 3)) = xs[0]? := hf 0 _ rfl
    rw [h0, show Tryz.prog.cellsOf 3 = 1 by kernel_rfl] at f0
    obtain ⟨z0, e0, -, w0⟩ := DataW.trod_int Tryz.underlying3 f0
    have e0 : [c0] = [.int .i64 z0] := e0
    have g0 : -9223372036854775808 ≤ z0 ∧ z0 ≤ 9223372036854775807 := by simpa [Lit.wf, IntKind.min, IntKind.max, IntKind.signed, IntKind.bits] using w0
    obtain ⟨y1, h1⟩ := hx 1 (by omega)
    have f1 : DataW.trod enc Tryz.prog W 0 (fun _ => true) true n1 3 (([c0, c1, c2, c3, c4, c5, c6, c7].drop 1).take (Tryz.prog.cellsOf 3)) = xs[1]? := hf 1 _ rfl
    rw [h1, show Tryz.prog.cellsOf 3 = 1 by kernel_rfl] at f1
    obtain ⟨z1, e1, -, w1⟩ := DataW.trod_int Tryz.underlying3 f1
    have e1 : [c1] = [.int .i64 z1] := e1
    have g1 : -9223372036854775808 ≤ z1 ∧ z1 ≤ 9223372036854775807 := by simpa [Lit.wf, IntKind.min, IntKind.max, IntKind.signed, IntKind.bits] using w1
    obtain ⟨y2, h2⟩ := hx 2 (by omega)
    have f2 : DataW.trod enc Tryz.prog W 0 (fun _ => true) true n1 9 (([c0, c1, c2, c3, c4, c5, c6, c7].drop 2).take (Tryz.prog.cellsOf 9)) = xs[2]? := hf 2 _ rfl
    rw [h2, show Tryz.prog.cellsOf 9 = 1 by kernel_rfl] at f2
    obtain ⟨z2, e2, u2, -⟩ := DataW.trod_string Tryz.underlying9 f2
    have e2 : [c2] = [.string z2] := e2
    obtain ⟨y3, h3⟩ := hx 3 (by omega)
    have f3 : DataW.trod enc Tryz.prog W 0 (fun _ => true) true n1 3 (([c0, c1, c2, c3, c4, c5, c6, c7].drop 3).take (Tryz.prog.cellsOf 3)) = xs[3]? := hf 3 _ rfl
    rw [h3, show Tryz.prog.cellsOf 3 = 1 by kernel_rfl] at f3
    obtain ⟨z3, e3, -, w3⟩ := DataW.trod_int Tryz.underlying3 f3
    have e3 : [c3] = [.int .i64 z3] := e3
    have g3 : -9223372036854775808 ≤ z3 ∧ z3 ≤ 9223372036854775807 := by simpa [Lit.wf, IntKind.min, IntKind.max, IntKind.signed, IntKind.bits] using w3
    obtain ⟨y4, h4⟩ := hx 4 (by omega)
    have f4 : DataW.trod enc Tryz.prog W 0 (fun _ => true) true n1 29 (([c0, c1, c2, c3, c4, c5, c6, c7].drop 4).take (Tryz.prog.cellsOf 29)) = xs[4]? := hf 4 _ rfl
    rw [h4, show Tryz.prog.cellsOf 29 = 2 by kernel_rfl] at f4
    obtain ⟨z4, e4, g4⟩ := open_frd f4
    have e4 : [c4, c5] = [.string z4.sc, .slice z4.a z4.cs.length z4.c] := e4
    obtain ⟨y5, h5⟩ := hx 5 (by omega)
    have f5 : DataW.trod enc Tryz.prog W 0 (fun _ => true) true n1 9 (([c0, c1, c2, c3, c4, c5, c6, c7].drop 6).take (Tryz.prog.cellsOf 9)) = xs[5]? := hf 5 _ rfl
    rw [h5, show Tryz.prog.cellsOf 9 = 1 by kernel_rfl] at f5
    obtain ⟨z5, e5, u5, -⟩ := DataW.trod_string Tryz.underlying9 f5
    have e5 : [c6] = [.string z5] := e5
    obtain ⟨y6, h6⟩ := hx 6 (by omega)
    have f6 : DataW.trod enc Tryz.prog W 0 (fun _ => true) true n1 3 (([c0, c1, c2, c3, c4, c5, c6, c7].drop 7).take (Tryz.prog.cellsOf 3)) = xs[6]? := hf 6 _ rfl
    rw [h6, show Tryz.prog.cellsOf 3 = 1 by kernel_rfl] at f6
    obtain ⟨z6, e6, -, w6⟩ := DataW.trod_int Tryz.underlying3 f6
    have e6 : [c7] = [.int .i64 z6] := e6
    have g6 : -9223372036854775808 ≤ z6 ∧ z6 ≤ 9223372036854775807 := by simpa [Lit.wf, IntKind.min, IntKind.max, IntKind.signed, IntKind.bits] using w6
    cases e0
    cases e1
    cases e2
    cases e3
    cases e4
    cases e5
    cases e6
    rw [hxd] at hw
    have hw : ∀ n ∈ DataW.weights Tryz.prog 117 (.agg (xs.map (·.1)) : DataW H), n ≤ reachBytes := hw
    have g2 : z2.size ≤ reachBytes := hw _ (weights_part Tryz.underlying117 (i := 2) (t := 9) rfl (by rw [List.getElem?_map, h2]; rfl) (by rw [u2]; simp [DataW.weights]))
    have g5 : z5.size ≤ reachBytes := hw _ (weights_part Tryz.underlying117 (i := 5) (t := 9) rfl (by rw [List.getElem?_map, h5]; rfl) (by rw [u5]; simp [DataW.weights]))
    exact ⟨z0, z1, z2, z3, z4, z5, z6, rfl, g0, g1, g2, g3, g4, g5, g6⟩
theorem open_opc {fuel : Nat} {cs : List Value} {x : DataW H × List MemPlace} (h : DataW.trod enc Tryz.prog W 0 (fun _ => true) true fuel 119 cs = some x) (hw : ∀ n ∈ DataW.weights Tryz.prog 119 x.1, n ≤ reachBytes) : ∃ p : PO × Lie, cs = opCells p.1 p.2 ∧ OpArg W p := by
  obtain ⟨xs, n1, -, hxd, hlen, hxs, hf⟩ := DataW.trod_struct Tryz.underlying119 h
  rw [show Tryz.prog.cellsOf 119 = 18 by kernel_rfl] at hlen
  have hx : ∀ i, i < 9 → ∃ y, xs[i]? = some y := fun i hi => by
    simp at hxs
    exact ⟨_, List.getElem?_eq_getElem (by omega)⟩
  match cs, hlen with
  | [c0, c1, c2, c3, c4, c5, c6, c7, c8, c9, c10, c11, c12, c13, c14, c15, c16, c17], _ =>
    obtain ⟨y0, h0⟩ := hx 0 (by omega)
    have f0 : DataW.trod enc Tryz.prog W 0 (fun _ => true) true n1 3 (([c0, c1, c2, c3, c4, c5, c6, c7, c8, c9, c10, c11, c12, c13, c14, c15, c16, c17].drop 0).take (Tryz.prog.cellsOf 3)) = xs[0]? := hf 0 _ rfl
    rw [h0, show Tryz.prog.cellsOf 3 = 1 by kernel_rfl] at f0
    obtain ⟨z0, e0, -, w0⟩ := DataW.trod_int Tryz.underlying3 f0
    have e0 : [c0] = [.int .i64 z0] := e0
    have g0 : -9223372036854775808 ≤ z0 ∧ z0 ≤ 9223372036854775807 := by simpa [Lit.wf, IntKind.min, IntKind.max, IntKind.signed, IntKind.bits] using w0
    obtain ⟨y1, h1⟩ := hx 1 (by omega)
    have f1 : DataW.trod enc Tryz.prog W 0 (fun _ => true) true n1 3 (([c0, c1, c2, c3, c4, c5, c6, c7, c8, c9, c10, c11, c12, c13, c14, c15, c16, c17].drop 1).take (Tryz.prog.cellsOf 3)) = xs[1]? := hf 1 _ rfl
    rw [h1, show Tryz.prog.cellsOf 3 = 1 by kernel_rfl] at f1
    obtain ⟨z1, e1, -, w1⟩ := DataW.trod_int Tryz.underlying3 f1
    have e1 : [c1] = [.int .i64 z1] := e1
    have g1 : -9223372036854775808 ≤ z1 ∧ z1 ≤ 9223372036854775807 := by simpa [Lit.wf, IntKind.min, IntKind.max, IntKind.signed, IntKind.bits] using w1
    obtain ⟨y2, h2⟩ := hx 2 (by omega)
    have f2 : DataW.trod enc Tryz.prog W 0 (fun _ => true) true n1 9 (([c0, c1, c2, c3, c4, c5, c6, c7, c8, c9, c10, c11, c12, c13, c14, c15, c16, c17].drop 2).take (Tryz.prog.cellsOf 9)) = xs[2]? := hf 2 _ rfl
    rw [h2, show Tryz.prog.cellsOf 9 = 1 by kernel_rfl] at f2
    obtain ⟨z2, e2, -, g2⟩ := DataW.trod_string Tryz.underlying9 f2
    have e2 : [c2] = [.string z2] := e2
    obtain ⟨y3, h3⟩ := hx 3 (by omega)
    have f3 : DataW.trod enc Tryz.prog W 0 (fun _ => true) true n1 117 (([c0, c1, c2, c3, c4, c5, c6, c7, c8, c9, c10, c11, c12, c13, c14, c15, c16, c17].drop 3).take (Tryz.prog.cellsOf 117)) = xs[3]? := hf 3 _ rfl
    rw [h3, show Tryz.prog.cellsOf 117 = 8 by kernel_rfl] at f3
    rw [hxd] at hw
    have hw : ∀ n ∈ DataW.weights Tryz.prog 119 (.agg (xs.map (·.1)) : DataW H), n ≤ reachBytes := hw
    obtain ⟨r0, r1, r2, r3, r4, r5, r6, e3, g30, g31, g32, g33, g34, g35, g36⟩ := open_ruc f3 (fun n hn => hw n (weights_part Tryz.underlying119 (i := 3) (t := 117) rfl (by rw [List.getElem?_map, h3]; rfl) hn))
    have e3 : [c3, c4, c5, c6, c7, c8, c9, c10] = [.int .i64 r0, .int .i64 r1, .string r2, .int .i64 r3, .string r4.sc, .slice r4.a r4.cs.length r4.c, .string r5, .int .i64 r6] := e3
    obtain ⟨y4, h4⟩ := hx 4 (by omega)
    have f4 : DataW.trod enc Tryz.prog W 0 (fun _ => true) true n1 32 (([c0, c1, c2, c3, c4, c5, c6, c7, c8, c9, c10, c11, c12, c13, c14, c15, c16, c17].drop 11).take (Tryz.prog.cellsOf 32)) = xs[4]? := hf 4 _ rfl
    rw [h4, show Tryz.prog.cellsOf 32 = 2 by kernel_rfl] at f4
    obtain ⟨z4, e4, g4⟩ := open_evc f4
    have e4 : [c11, c12] = [.string z4.es, .slice z4.ea z4.L.length z4.ec] := e4
    obtain ⟨y5, h5⟩ := hx 5 (by omega)
    have f5 : DataW.trod enc Tryz.prog W 0 (fun _ => true) true n1 29 (([c0, c1, c2, c3, c4, c5, c6, c7, c8, c9, c10, c11, c12, c13, c14, c15, c16, c17].drop 13).take (Tryz.prog.cellsOf 29)) = xs[5]? := hf 5 _ rfl
    rw [h5, show Tryz.prog.cellsOf 29 = 2 by kernel_rfl] at f5
    obtain ⟨z5, e5, g5⟩ := open_frd f5
    have e5 : [c13, c14] = [.string z5.sc, .slice z5.a z5.cs.length z5.c] := e5
    obtain ⟨y6, h6⟩ := hx 6 (by omega)
    have f6 : DataW.trod enc Tryz.prog W 0 (fun _ => true) true n1 3 (([c0, c1, c2, c3, c4, c5, c6, c7, c8, c9, c10, c11, c12, c13, c14, c15, c16, c17].drop 15).take (Tryz.prog.cellsOf 3)) = xs[6]? := hf 6 _ rfl
    rw [h6, show Tryz.prog.cellsOf 3 = 1 by kernel_rfl] at f6
    obtain ⟨z6, e6, -, w6⟩ := DataW.trod_int Tryz.underlying3 f6
    have e6 : [c15] = [.int .i64 z6] := e6
    have g6 : -9223372036854775808 ≤ z6 ∧ z6 ≤ 9223372036854775807 := by simpa [Lit.wf, IntKind.min, IntKind.max, IntKind.signed, IntKind.bits] using w6
    obtain ⟨y7, h7⟩ := hx 7 (by omega)
    have f7 : DataW.trod enc Tryz.prog W 0 (fun _ => true) true n1 3 (([c0, c1, c2, c3, c4, c5, c6, c7, c8, c9, c10, c11, c12, c13, c14, c15, c16, c17].drop 16).take (Tryz.prog.cellsOf 3)) = xs[7]? := hf 7 _ rfl
    rw [h7, show Tryz.prog.cellsOf 3 = 1 by kernel_rfl] at f7
    obtain ⟨z7, e7, -, w7⟩ := DataW.trod_int Tryz.underlying3 f7
    have e7 : [c16] = [.int .i64 z7] := e7
    have g7 : -9223372036854775808 ≤ z7 ∧ z7 ≤ 9223372036854775807 := by simpa [Lit.wf, IntKind.min, IntKind.max, IntKind.signed, IntKind.bits] using w7
    obtain ⟨y8, h8⟩ := hx 8 (by omega)
    have f8 : DataW.trod enc Tryz.prog W 0 (fun _ => true) true n1 3 (([c0, c1, c2, c3, c4, c5, c6, c7, c8, c9, c10, c11, c12, c13, c14, c15, c16, c17].drop 17).take (Tryz.prog.cellsOf 3)) = xs[8]? := hf 8 _ rfl
    rw [h8, show Tryz.prog.cellsOf 3 = 1 by kernel_rfl] at f8
    obtain ⟨z8, e8, -, w8⟩ := DataW.trod_int Tryz.underlying3 f8
    have e8 : [c17] = [.int .i64 z8] := e8
    have g8 : -9223372036854775808 ≤ z8 ∧ z8 ≤ 9223372036854775807 := by simpa [Lit.wf, IntKind.min, IntKind.max, IntKind.signed, IntKind.bits] using w8
    cases e0
    cases e1
    cases e2
    cases e3
    cases e4
    cases e5
    cases e6
    cases e7
    cases e8
    obtain ⟨⟨k1, k2, k3⟩, k4⟩ := g34
    obtain ⟨⟨m1, m2, m3⟩, m4⟩ := g5
    have hre : reachBytes ≤ 1152921504606846976 := by decide
    have hmx : (9223372036854775807 : Nat) ≤ maxLen := by decide
    have hre2 : reachBytes ≤ 9223372036854775807 := by decide
    refine ⟨(⟨z0, z1, z2, ⟨r0, r1, r2, r3, r4.sc, r4.cs, r5, r6⟩, z4.es, z4.L, z5.sc, z5.cs, z6, z7, z8⟩, ⟨r4.a, r4.c, z4.ea, z4.ec, z5.a, z5.c⟩), rfl, ⟨k1, k2.2, Nat.le_trans g32 hre2, k2.1, Nat.le_trans g35 hre2, fun c hc => ⟨(k3 c hc).1, k4 c hc⟩⟩, g4.rd, m1, ⟨g2, Nat.le_trans g32 hre, Nat.le_trans g35 hre⟩, ⟨g4.es, g4.ln⟩, ⟨Nat.le_trans m2.1 hmx, Nat.le_trans m2.2 hmx⟩, g4.nm, fun c hc => ⟨Nat.le_trans (m3 c hc).1 hmx, (m3 c hc).2⟩, fun c hc => ⟨Nat.le_trans (k3 c hc).1 hmx, (k3 c hc).2⟩⟩
theorem open_roww {α : Type} {t e : TypeId} {sz : Nat} (cells : α → List Value) (hlen : ∀ x, (cells x).length = sz) (hsz : 0 < sz) (ht : Tryz.prog.underlying t = some (.slice e)) (he : Tryz.prog.cellsOf e = sz) (x0 : α) (p : α → Prop)
    (hone : ∀ (fuel : Nat) (cs : List Value) (y : DataW H × List MemPlace), DataW.trod enc Tryz.prog W 0 (fun _ => true) true fuel e cs = some y → (∀ n ∈ DataW.weights Tryz.prog e y.1, n ≤ reachBytes) → ∃ x, cs = cells x ∧ p x)
    {fuel : Nat} {v : Value} {y : DataW H × List MemPlace} (h : DataW.trod enc Tryz.prog W 0 (fun _ => true) true fuel t [v] = some y) (hw : ∀ n ∈ DataW.weights Tryz.prog t y.1, n ≤ reachBytes) :
    ∃ l : List α, RdSl W sz v l.length (l.flatMap cells) ∧ l.length ≤ maxLen ∧ ∀ x ∈ l, p x := by
  rcases Go.Deep.open_slice ht h with ⟨hcs, -⟩ | ⟨a, len, cap', m', k, D, Pl, hcs, -, hlc, hcm, hmm, hyd, hcell⟩
  · have hcs : v = Value.slice none 0 0 := by simpa using hcs
    subst hcs
    exact ⟨[], ⟨by simp, none, 0, rfl, Nat.le_refl _, fun _ => rfl, fun b hb _ => (by cases hb)⟩, Nat.zero_le _, fun x hx => (by cases hx)⟩
  · have hcs : v = Value.slice (some a) len cap' := by simpa using hcs
    subst hcs
    simp only [if_true] at hmm
    subst hmm
    rw [he] at hcell
    have hall : ∀ i, i < len → ∃ x : α, (∀ q u, (cells x)[q]? = some u → W.cell? ((a.add (i * sz)).add q) = some u) ∧ p x := fun i hi => by
      obtain ⟨cs, h1, h2⟩ := hcell i (by omega)
      obtain ⟨x, rfl, h3⟩ := hone _ _ _ h2 (fun n hn => hw n (by rw [hyd]; exact weights_elem ht (List.mem_map.2 ⟨i, List.mem_range.2 hi, rfl⟩) hn))
      obtain ⟨-, h5, h6⟩ := World.cells?_some h1
      refine ⟨x, fun q u hq => ?_, h3⟩
      have := h6 q (by have := (List.getElem?_eq_some_iff.1 hq).1; rw [hlen] at this; exact this)
      rw [hq] at this
      exact this
    obtain ⟨F, hF⟩ : ∃ F : Nat → α, ∀ i, i < len → (∀ q u, (cells (F i))[q]? = some u → W.cell? ((a.add (i * sz)).add q) = some u) ∧ p (F i) :=
      ⟨fun i => if h : i < len then (hall i h).choose else x0, fun i hi => by simp only [dif_pos hi]; exact (hall i hi).choose_spec⟩
    have hl : ((List.range len).map F).length = len := by simp
    have hfl : ∀ l : List α, (l.flatMap cells).length = l.length * sz := fun l => by
      induction l with
      | nil => simp
      | cons b l ih => rw [List.flatMap_cons, List.length_append, ih, hlen, List.length_cons, Nat.add_mul]; omega
    have hget : ∀ (l : List α) (j : Nat) (u : Value), (l.flatMap cells)[j]? = some u → ∃ x, l[j / sz]? = some x ∧ (cells x)[j % sz]? = some u := fun l => by
      induction l with
      | nil => intro j u h; simp at h
      | cons b l ih =>
        intro j u h
        rw [List.flatMap_cons] at h
        rcases Nat.lt_or_ge j sz with hj | hj
        · rw [List.getElem?_append_left (by rw [hlen]; exact hj)] at h
          exact ⟨b, by rw [Nat.div_eq_of_lt hj]; rfl, by rw [Nat.mod_eq_of_lt hj]; exact h⟩
        · rw [List.getElem?_append_right (by rw [hlen]; exact hj), hlen] at h
          obtain ⟨x, h1, h2⟩ := ih _ _ h
          have e1 : j / sz = (j - sz) / sz + 1 := by
            rw [Nat.div_eq j sz, if_pos ⟨hsz, hj⟩]
          have e2 : j % sz = (j - sz) % sz := Nat.mod_eq_sub_mod hj
          exact ⟨x, by rw [e1, List.getElem?_cons_succ]; exact h1, by rw [e2]; exact h2⟩
    refine ⟨(List.range len).map F, ⟨by rw [hfl], some a, m', by rw [hl], by rw [hl]; exact hlc, (fun h => by cases h), fun b hb hn => ?_⟩, by rw [hl]; omega, fun x hx => ?_⟩
    · cases hb
      rw [hl] at hn
      have hsp : a.spot = none := by
        have h0 := (hF 0 hn).1 0
        cases hc : (cells (F 0))[0]? with
        | none =>
          have := List.getElem?_eq_none_iff.1 hc
          rw [hlen] at this
          omega
        | some u =>
          have := h0 u hc
          rw [Nat.zero_mul] at this
          exact spot_none this
      obtain ⟨g, off, spot⟩ := a
      have hsp : spot = none := hsp
      subst hsp
      refine ⟨g, off, rfl, fun j u hu => ?_⟩
      obtain ⟨x, hx1, hx2⟩ := hget _ _ _ hu
      rw [List.getElem?_map] at hx1
      by_cases hj : j / sz < len
      · rw [List.getElem?_range hj] at hx1
        simp only [Option.map_some, Option.some.injEq] at hx1
        subst hx1
        have := (hF _ hj).1 _ _ hx2
        rw [addr_add, addr_add] at this
        have e := Nat.div_add_mod j sz
        rw [Nat.mul_comm] at e
        rw [show off + j = off + j / sz * sz + j % sz by omega]
        exact this
      · rw [List.getElem?_eq_none (by simpa using hj)] at hx1
        cases hx1
    · obtain ⟨i, hi, rfl⟩ := List.mem_map.1 hx
      exact (hF i (List.mem_range.1 hi)).2
theorem open_ops {base : Nat} {v : Value} {d : DataW H} {p : List MemPlace} (hok : Value.okWide Tryz.prog W .any base 66 v)
    (h : DataW.Trod enc Tryz.prog W 0 (fun _ => true) true 66 v d p) (hw : ∀ n ∈ DataW.weights Tryz.prog 66 d, n ≤ reachBytes) : ∃ l : List (PO × Lie), OpsArg W v l := by
  obtain ⟨m, hm⟩ := h
  obtain ⟨A, n, cap, rfl⟩ := okWide_slice Tryz.underlying66 hok
  obtain ⟨l, h1, h2, h3⟩ := open_roww (W := W) (v := .slice A n cap) (sz := 18) (fun p : PO × Lie => opCells p.1 p.2) (fun _ => rfl) (by decide) Tryz.underlying66 (by kernel_rfl) (PO.mk0 0 0, ⟨none, 0, none, 0, none, 0⟩) (fun p => OpArg W p) (fun _ _ _ h hw => open_opc h hw) hm hw
  exact ⟨l, h1, h3, le63 h2⟩
end
end Go.Proofs.YtloplmaekonenaaGreatDoor
namespace Go.Proofs.YtloplmaekonenaaGreatDoor
set_option maxRecDepth 20000
open Go.RowKit Go.Lib
theorem and2 {a b : Bool} (h : a = true) (k : b = true) : (a && b) = true := by subst h; subst k; rfl
theorem u10_of {w : World} (h : VarReads Tryz.prog w "internal/strconv.uint64pow10" Rows.laid_internal_strconv_uint64pow10) : Lib.TabIs Tryz.prog w "internal/strconv.uint64pow10" .u64 Lib.pow10Tab := by
  obtain ⟨g, t, cs, fuel, p, hg, hty, hvar, hd⟩ := h
  obtain rfl := Option.some.inj ((show Tryz.prog.globalNamed "internal/strconv.uint64pow10" = some 3 by kernel_rfl).symm.trans hg)
  obtain rfl := Option.some.inj ((show (Tryz.prog.globals[(3 : Nat)]?).map (·.type) = some 254 by kernel_rfl).symm.trans hty)
  have e : (Rows.laid_internal_strconv_uint64pow10 : DataW Unit) = tabData .u64 Lib.pow10Tab := by kernel_rfl
  rw [e] at hd
  unfold TabIs
  rw [hvar, ← cells_of_tab Tryz.underlying254 Tryz.underlying204 (by kernel_rfl) (by kernel_rfl) hd]
theorem p10_len : Go.Pinned.pow10Rows.length = 696 := by kernel_rfl
theorem p10_of {w : World} (h : VarReads Tryz.prog w "internal/strconv.pow10Tab" Rows.laid_internal_strconv_pow10Tab) :
    ∀ i, i < 696 → w.cell? ⟨7, i * 2, none⟩ = some (.int .u64 ((pw i).1 : Int)) ∧ w.cell? ⟨7, i * 2 + 1, none⟩ = some (.int .u64 ((pw i).2 : Int)) := by
  obtain ⟨g, t, cs, fuel, p, hg, hty, hvar, hd⟩ := h
  obtain rfl := Option.some.inj ((show Tryz.prog.globalNamed "internal/strconv.pow10Tab" = some 7 by kernel_rfl).symm.trans hg)
  obtain rfl := Option.some.inj ((show (Tryz.prog.globals[(7 : Nat)]?).map (·.type) = some 293 by kernel_rfl).symm.trans hty)
  intro i hi
  obtain ⟨fuel', d, q, hdi, he⟩ := array_elem (ds := Go.Pinned.pow10Rows.map fun x => .agg [.lit (.int .u64 x.1), .lit (.int .u64 x.2)]) Tryz.underlying293 hd i hi
  have hpi : Go.Pinned.pow10Rows[i]? = some (pw i) := by
    have hl : i < Go.Pinned.pow10Rows.length := by rw [p10_len]; exact hi
    unfold pw
    rw [List.getD_eq_getElem?_getD, List.getElem?_eq_getElem hl]
    rfl
  rw [List.getElem?_map, hpi] at hdi
  obtain rfl := (Option.some.inj hdi).symm
  have hc2 : Tryz.prog.cellsOf 292 = 2 := by kernel_rfl
  have hc1 : Tryz.prog.cellsOf 204 = 1 := by kernel_rfl
  rw [hc2] at he
  have hcs := ints_of_struct (zs := [((pw i).1 : Int), ((pw i).2 : Int)]) Tryz.underlying292 (fun j f hj => by
    match j, hj with
    | 0, hj => simp at hj; subst hj; exact ⟨Tryz.underlying204, rfl, hc1⟩
    | 1, hj => simp at hj; subst hj; exact ⟨Tryz.underlying204, rfl, hc1⟩
    | j + 2, hj => simp at hj) (by rw [hc2]; rfl) he
  have e0 := congrArg (·[0]?) hcs
  have e1 := congrArg (·[1]?) hcs
  simp only [List.getElem?_take, List.getElem?_drop] at e0 e1
  constructor
  · rw [World.var?_cell hg hvar (i * 2), ← Array.getElem?_toList]
    simpa using e0
  · rw [World.var?_cell hg hvar (i * 2 + 1), ← Array.getElem?_toList]
    simpa using e1
theorem words_of {w : World} (h : VarReads Tryz.prog w "gazette/cond.words" Rows.laid_gazette_cond_words) : ∀ i s, wordsL[i]? = some s → w.cell? ⟨0, i, none⟩ = some (.string (str s)) := by
  obtain ⟨g, t, cs, fuel, p, hg, hty, hvar, hd⟩ := h
  obtain rfl := Option.some.inj ((show Tryz.prog.globalNamed "gazette/cond.words" = some 0 by kernel_rfl).symm.trans hg)
  obtain rfl := Option.some.inj ((show (Tryz.prog.globals[(0 : Nat)]?).map (·.type) = some 184 by kernel_rfl).symm.trans hty)
  have e : (Rows.laid_gazette_cond_words : DataW Unit) = .agg (wordsL.map fun s => .lit (.string s)) := rfl
  rw [e] at hd
  intro i s hs
  have hi : i < 8 := (List.getElem?_eq_some_iff.1 hs).1
  obtain ⟨fuel', d, q, hdi, he⟩ := array_elem (ds := wordsL.map fun s => .lit (.string s)) Tryz.underlying184 hd i hi
  rw [List.getElem?_map, hs] at hdi
  obtain rfl := (Option.some.inj hdi).symm
  obtain ⟨z, e1, e2, -⟩ := DataW.trod_string Tryz.underlying9 he
  have hc1 : Tryz.prog.cellsOf 9 = 1 := by kernel_rfl
  rw [hc1] at e1
  have e3 := congrArg (·[0]?) e1
  simp only [List.getElem?_take, List.getElem?_drop] at e3
  rw [World.var?_cell hg hvar i, ← Array.getElem?_toList]
  have e4 : z = str s := by
    have h1 := congrArg Prod.fst e2
    simp only [DataW.lit.injEq, Lit.string.injEq] at h1
    apply ByteArray.ext
    apply Array.toList_inj.1
    simpa [str] using h1.symm
  simpa [e4] using e3
theorem utf_of {w : World} (h3 : VarReads Tryz.prog w "unicode/utf8.first" Rows.laid_unicode_utf8_first) (h4 : VarReads Tryz.prog w "unicode/utf8.acceptRanges" Rows.laid_unicode_utf8_acceptRanges) : Lib.Utf8Tabs 9 10 w := by
  have e3 : (Rows.laid_unicode_utf8_first : DataW Unit) = tabData .u8 firstTab := Pinned.utf8First_eq
  have e4 : (Rows.laid_unicode_utf8_acceptRanges : DataW Unit) = acceptData := by kernel_rfl
  rw [e3] at h3
  rw [e4] at h4
  have hc5 : Tryz.prog.cellsOf 5 = 1 := by kernel_rfl
  refine ⟨fun c hc => ?_, fun i hi => ?_⟩
  · obtain ⟨g, t, cs, fuel, p, hg, hty, hvar, hd⟩ := h3
    obtain rfl := Option.some.inj ((show Tryz.prog.globalNamed "unicode/utf8.first" = some 9 by kernel_rfl).symm.trans hg)
    obtain rfl := Option.some.inj ((show (Tryz.prog.globals[(9 : Nat)]?).map (·.type) = some 302 by kernel_rfl).symm.trans hty)
    have hcs := cells_of_tab Tryz.underlying302 Tryz.underlying5 (by kernel_rfl) (by kernel_rfl) hd
    have := World.var?_cell hg hvar c
    rw [this, ← Array.getElem?_toList, hcs]
    simp [firstTab, hc]
  · obtain ⟨g, t, cs, fuel, p, hg, hty, hvar, hd⟩ := h4
    obtain rfl := Option.some.inj ((show Tryz.prog.globalNamed "unicode/utf8.acceptRanges" = some 10 by kernel_rfl).symm.trans hg)
    obtain rfl := Option.some.inj ((show (Tryz.prog.globals[(10 : Nat)]?).map (·.type) = some 305 by kernel_rfl).symm.trans hty)
    obtain ⟨fuel', d, q, hdi, he⟩ := array_elem Tryz.underlying305 hd i hi
    simp only [List.getElem?_map, List.getElem?_range hi, Option.map_some, Option.some.injEq] at hdi
    subst hdi
    have hc2 : Tryz.prog.cellsOf 304 = 2 := by kernel_rfl
    rw [hc2] at he
    have hcs := ints_of_struct Tryz.underlying304 (fun j f hj => by
      match j, hj with
      | 0, hj => simp at hj; subst hj; exact ⟨Tryz.underlying5, rfl, hc5⟩
      | 1, hj => simp at hj; subst hj; exact ⟨Tryz.underlying5, rfl, hc5⟩
      | j + 2, hj => simp at hj) (by rw [hc2]; rfl) he
    have e0 := congrArg (·[0]?) hcs
    have e1 := congrArg (·[1]?) hcs
    simp only [List.getElem?_take, List.getElem?_drop] at e0 e1
    constructor
    · rw [World.var?_cell hg hvar (2 * i), ← Array.getElem?_toList]
      simpa [Nat.mul_comm] using e0
    · rw [World.var?_cell hg hvar (2 * i + 1), ← Array.getElem?_toList]
      simpa [Nat.mul_comm] using e1
theorem prt_of {w : World} (h20 : VarReads Tryz.prog w "strconv.isPrint16" Rows.laid_strconv_isPrint16) (h21 : VarReads Tryz.prog w "strconv.isNotPrint16" Rows.laid_strconv_isNotPrint16)
    (h22 : VarReads Tryz.prog w "strconv.isPrint32" Rows.laid_strconv_isPrint32) (h23 : VarReads Tryz.prog w "strconv.isNotPrint32" Rows.laid_strconv_isNotPrint32) :
    Lib.PrintTabsAt 11 12 13 14 goPrintTabs w := by
  have e1 : (Rows.laid_strconv_isPrint16 : DataW Unit) = sliceData .u16 goPrintTabs.p16 := Pinned.isPrint16_eq
  have e2 : (Rows.laid_strconv_isNotPrint16 : DataW Unit) = sliceData .u16 goPrintTabs.n16 := Pinned.isNotPrint16_eq
  have e3 : (Rows.laid_strconv_isPrint32 : DataW Unit) = sliceData .u32 goPrintTabs.p32 := Pinned.isPrint32_eq
  have e4 : (Rows.laid_strconv_isNotPrint32 : DataW Unit) = sliceData .u16 goPrintTabs.n32 := Pinned.isNotPrint32_eq
  rw [e1] at h20
  rw [e2] at h21
  rw [e3] at h22
  rw [e4] at h23
  have hc16 : Tryz.prog.cellsOf 306 = 1 := by kernel_rfl
  have hc32 : Tryz.prog.cellsOf 202 = 1 := by kernel_rfl
  refine ⟨tabSlice_of_reads (by kernel_rfl) (by kernel_rfl) Tryz.underlying307 Tryz.underlying306 hc16 (by decide) h20, tabSlice_of_reads (by kernel_rfl) (by kernel_rfl) Tryz.underlying307 Tryz.underlying306 hc16 (by decide) h21,
    tabSlice_of_reads (by kernel_rfl) (by kernel_rfl) Tryz.underlying309 Tryz.underlying202 hc32 (by decide) h22, tabSlice_of_reads (by kernel_rfl) (by kernel_rfl) Tryz.underlying307 Tryz.underlying306 hc16 (by decide) h23, ?_, ?_, ?_⟩ <;> decide
def laidL : List (String × DataW Unit) := Rows.indexGoesRow.laid
theorem laid_of {w : World} (h : laidMet Tryz.prog laidL w) : LaidAt w where
  num := ⟨u10_of (laidMet.reads h (List.mem_of_getElem? (i := 3) rfl)), p10_of (laidMet.reads h (List.mem_of_getElem? (i := 7) rfl))⟩
  prt := prt_of (laidMet.reads h (List.mem_of_getElem? (i := 11) rfl)) (laidMet.reads h (List.mem_of_getElem? (i := 9) rfl)) (laidMet.reads h (List.mem_of_getElem? (i := 12) rfl)) (laidMet.reads h (List.mem_of_getElem? (i := 10) rfl))
  utf := utf_of (laidMet.reads h (List.mem_of_getElem? (i := 13) rfl)) (laidMet.reads h (List.mem_of_getElem? (i := 4) rfl))
  words := words_of (laidMet.reads h (List.mem_of_getElem? (i := 5) rfl))
theorem laid_size {w : World} (h : laidMet Tryz.prog laidL w) : 16 ≤ w.heap.size := by
  obtain ⟨g, t, cs, fuel, p, hg, hty, hvar, hd⟩ := laidMet.reads h (List.mem_of_getElem? (i := 8) rfl)
  obtain rfl := Option.some.inj ((show Tryz.prog.globalNamed "strconv.isGraphic" = some 15 by kernel_rfl).symm.trans hg)
  unfold World.var? at hvar
  rw [hg] at hvar
  simp only [Option.bind_some] at hvar
  cases hb : w.heap[(15 : Nat)]? with
  | none => rw [hb] at hvar; cases hvar
  | some o =>
    have := (Array.getElem?_eq_some_iff.1 hb).1
    omega
end Go.Proofs.YtloplmaekonenaaGreatDoor
