/-
  append of so many noughts.
-/
import Derived.Test.YtfpghpicknnfgaaAppstr
namespace Go.Proofs.Ytfpghpicknnfgaa
open Go.RowKit

theorem zeros_u8 (n : Nat) : Builtin.zeroCells #[.int .u8 0] n = (u8s (List.replicate n 0)).toArray := by
  apply Array.ext'
  unfold Builtin.zeroCells
  simp only [u8s, List.map_replicate]
  apply List.ext_getElem?
  intro i
  simp only [Array.toList_map, Array.toList_range, List.getElem?_map]
  by_cases h : i < n
  · simp [h, Nat.mod_one]
  · simp [h]

theorem run_append_make {P : Program} (w : World) (t u ty e : TypeId) (i : TypeInfo) (z : Value) (ht : P.underlying t = some (.slice e)) (hu : P.underlying u = some (.int .u8)) (hi : P.info? e = some i) (hz : i.zero = some z)
    (hsize : i.size = 1) (hby : i.bytes = 1) (hzs : z.cells = #[.int .u8 0])
    (v : Value) (n : Nat) (xs : List Value) (hown : OwnSl w e 1 v n xs) (m : Nat) (hm : m ≤ 255) (hn0 : 0 < n) (hbytes : n + m ≤ 140737488355328) (hmax : n + m ≤ maxLen) :
    ∃ v' w', (Builtin.append_ #[t, u] ty #[v, .int .u8 (m : Int)]).run P w = .ok v' w' ∧ OwnSl w' e 1 v' (n + m) (xs ++ u8s (List.replicate m 0)) ∧ Mod (inBlock v) w w' ∧
      (v'.ownBlock = v.ownBlock ∨ ∃ k, v'.ownBlock = some k ∧ w.heap.size ≤ k) := by
  have hul : (u8s (List.replicate m 0)).length = m := by rw [u8s_length]; simp
  have hlen : (xs ++ u8s (List.replicate m 0)).length = (n + m) * 1 := by rw [List.length_append, hown.1, hul, Nat.add_mul, Nat.mul_one m]
  have h1 : ∀ u ∈ u8s (List.replicate m 0), u.oneCell' = true := fun u hu => by
    simp only [u8s, List.mem_map] at hu
    obtain ⟨b, -, rfl⟩ := hu
    rfl
  have hwr : IntKind.i64.wrap (m : Int) = m := by rw [IntKind.wrap_i64]; omega
  have hai : ∀ w : World, (asInt (Value.int .u8 (m : Int))).run P w = .ok (m : Int) w := fun _ => rfl
  have hm0 : ¬ ((m : Int) < 0) := by omega
  have hm48 : ¬ (281474976710656 < (m : Int)) := by omega
  have hzc : z.cells.size = 1 := by rw [hzs]; rfl
  have hzr : (if m = 0 then (#[] : Array Value) else (u8s (List.replicate m 0)).toArray) = (u8s (List.replicate m 0)).toArray := by
    split
    · rename_i h; subst h; rfl
    · rfl
  have grown : ∀ old, ∃ w', w' = w.drew.alloc (.cells (xs.toArray ++ (u8s (List.replicate m 0)).toArray ++ Builtin.zeroCells z.cells (grownCap w (n + m) old e - (n + m))) e) ∧
      OwnSl w' e 1 (.slice (some ⟨w.heap.size, 0, none⟩) (n + m) (grownCap w (n + m) old e)) (n + m) (xs ++ u8s (List.replicate m 0)) ∧ Mod (inBlock v) w w' := by
    intro old
    have hge := grownCap_ge w (n + m) old e
    have hcm : grownCap w (n + m) old e ≤ maxLen := grownCap_le_maxLen w (n + m) old e hmax
    refine ⟨_, rfl, ⟨hlen, .inr ⟨w.heap.size, 0, _, _, rfl, heap_alloc_new w.drew _, hge, hcm, ?_, ?_⟩⟩, ((Mod.refl _ w).drew).alloc _⟩
    · simp only [Array.size_append, List.size_toArray, size_zeroCells, hzc, hown.1, hul]
      omega
    · simp only [Array.toList_append, List.append_assoc, List.drop_zero]
      rw [← List.append_assoc, ← hlen]
      exact List.take_left
  rcases hown.2 with ⟨hv', h0⟩ | ⟨g, off, cap, cur, hv', hg, hnc, hcm, hs, htk⟩
  · omega
  subst hv'
  by_cases hroom : n + m ≤ cap
  · have hfit : off + n + (u8s (List.replicate m 0)).length ≤ cur.size := by
      rw [hul]; omega
    have hst := run_storeCells_at P g (off + n) e (u8s (List.replicate m 0)) 0 cur w hg (by simpa using hfit) h1
    simp only [Nat.add_zero] at hst
    refine ⟨.slice (some ⟨g, off, none⟩) (n + m) cap, w.setRow g (cur.toList.take (off + n) ++ u8s (List.replicate m 0) ++ cur.toList.drop (off + n + (u8s (List.replicate m 0)).length)).toArray, ?_,
      ⟨hlen, .inr ⟨g, off, cap, _, rfl, setRow_heap w g cur _ e _ hg, hroom, hcm, ?_, ?_⟩⟩, (Mod.refl (inBlock (.slice (some ⟨g, off, none⟩) n cap)) w).setRow (g := g) (fun _ => by simp [inBlock, Value.ownBlock]) _, .inl rfl⟩
    · by_cases hmz : m = 0
      · subst hmz
        have hst' : (storeCells (⟨g, off + n, none⟩ : Addr) ([] : List Value)).run P w = .ok () (w.setRow g (cur.toList.take (off + n) ++ u8s (List.replicate 0 0) ++ cur.toList.drop (off + n + (u8s (List.replicate 0 0)).length)).toArray) := hst
        have hai0 : ∀ w : World, (asInt (Value.int .u8 0)).run P w = .ok (0 : Int) w := fun _ => rfl
        have hw0 : IntKind.i64.wrap 0 = 0 := by rw [IntKind.wrap_i64]; omega
        simp [Builtin.append_, run_underlying ht, run_underlying hu, sizeOf, typeInfo, zeroValue, hi, hz, hsize, hby, hai0, hw0, hnc, addr_add, hst']
      · simp [Builtin.append_, run_underlying ht, run_underlying hu, sizeOf, typeInfo, zeroValue, hi, hz, hsize, hby, hzs, hai, hwr, hm0, hm48, hroom, hmz, zeros_u8, addr_add, hst]
    · simp only [List.size_toArray, List.length_append, List.length_take, List.length_drop, Array.length_toList]
      omega
    · have hcl : off + n ≤ cur.toList.length := by rw [Array.length_toList]; omega
      have e1 : List.drop off (List.take (off + n) cur.toList) = xs := by
        rw [List.drop_take, show off + n - off = n * 1 from by omega]; exact htk
      rw [List.append_assoc, List.drop_append_of_le_length (by rw [List.length_take]; omega), e1, ← List.append_assoc, ← hlen]
      exact List.take_left
  · have hcap : cap < n + m := by omega
    have h0 : m ≠ 0 := by omega
    obtain ⟨w'', hw'', h2, h3⟩ := grown cap
    refine ⟨_, w'', ?_, h2, h3, .inr ⟨w.heap.size, rfl, Nat.le_refl _⟩⟩
    subst hw''
    have hrd := hown.rd
    obtain ⟨_, a2, c2, hv2, _, _, hcc⟩ := hrd
    cases hv2
    obtain ⟨g2, off2, he, hcc⟩ := hcc _ rfl
    cases he
    have hfo := run_firstCells_some (P := P) w.drew 1 n ⟨g, off, none⟩ n cap xs hown.1 (fun j u hu => by rw [addr_add]; exact hcc j u hu)
    have hn : ¬ (n + m ≤ cap) := by omega
    have h63' : ¬ (9223372036854775807 < ((n : Int) + (m : Int))) := by simp only [maxLen] at hmax; omega
    have h48' : ¬ (281474976710656 < Builtin.nextslicecap (n + m) cap * i.bytes) := by have := growslice_fits (bytes := i.bytes) hcap (by rw [hby]; omega); omega
    rw [hby, Nat.mul_one] at h48'
    simp [Builtin.append_, run_underlying ht, run_underlying hu, sizeOf, typeInfo, zeroValue, hi, hz, hsize, hby, hzs, hai, hwr, hm0, hm48, hn, h0, h63', h48', Question.forced, zeros_u8, hfo, newRow, grownCap, Array.append_assoc]
    try (congr 2; apply Array.ext'; simp [List.append_assoc])

theorem byte_info : (Try.prog.info? 5).map (fun i => (i.zero.map (·.cells), i.size, i.bytes)) = some (some #[.int .u8 0], 1, 1) := by kernel_rfl

/-- append of noughts, as one operation of a list. -/
theorem wpList_append_make {ops : Array Oper} {rest : List Oper} {o : Oper} {a : Act} {w : World} {Q : Exit → Act → World → Prop}
    (hgd : o.guard = none) (s y : Operand) (hop : o.op = Op.call { callee := Callee.builtin Builtin.append, args := #[s, y], argTypes := #[22, 5] })
    (v : Value) (n : Nat) (xs : List Value) (hs : a.eval s = v) (hown : OwnSl w 5 1 v n xs) (m : Nat) (hy : a.eval y = .int .u8 (m : Int)) (hm : m ≤ 255) (hn0 : 0 < n)
    (hbytes : n + m ≤ 140737488355328) (hmax : n + m ≤ maxLen)
    (hK : ∀ ad cap w', Appended w 5 1 v (n + m) (xs ++ u8s (List.replicate m 0)) (.slice ad (n + m) cap) w' → wpList Try.prog ops Q rest (a.put o.dst (.slice ad (n + m) cap)) w') : wpList Try.prog ops Q (o :: rest) a w := by
  refine wpList_plain hgd fun K hK' => ?_
  have hi := byte_info
  cases hq : Try.prog.info? 5 with
  | none => rw [hq] at hi; cases hi
  | some i =>
    rw [hq] at hi
    simp only [Option.map_some, Option.some.injEq, Prod.mk.injEq] at hi
    obtain ⟨h1, h2, h3⟩ := hi
    cases hz : i.zero with
    | none => rw [hz] at h1; cases h1
    | some z =>
      rw [hz] at h1
      simp only [Option.map_some, Option.some.injEq] at h1
      obtain ⟨v', w', hrun, r1, r2, r3⟩ := run_append_make (P := Try.prog) w 22 5 o.type 5 i z Try.underlying22 Try.underlying5 hq hz h2 h3 h1 v n xs hown m hm hn0 hbytes hmax
      unfold Oper.wp execOp
      simp only [hop, resolve, invoke, builtin, Sem.run_bind, Sem.run_pure, Result.andThen_ok, List.map_toArray, List.map_cons, List.map_nil, hs, hy, hrun]
      obtain ⟨ad, cap, rfl, _⟩ := r1.shape
      exact hK' _ _ (hK ad cap w' ⟨r1, r2, r3⟩)
end Go.Proofs.Ytfpghpicknnfgaa
