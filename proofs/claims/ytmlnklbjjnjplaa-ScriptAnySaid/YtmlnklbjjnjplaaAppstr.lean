/-
  append of a text's bytes.
-/
import Derived.Test.YtmlnklbjjnjplaaBytes
namespace Go.Proofs.Ytmlnklbjjnjplaa
open Go.RowKit

/-- A text's bytes. -/
def txt (s : ByteArray) : List UInt8 := s.data.toList
theorem txt_length (s : ByteArray) : (txt s).length = s.size := rfl

theorem firstCells_str (P : Program) (w : World) (s : ByteArray) : (Builtin.firstCells 1 s.size (.string s)).run P w = .ok (u8s (txt s)).toArray w := by
  have h : (s.extract 0 s.size).data.map (fun b => Value.int IntKind.u8 (b.toNat : Int)) = (u8s (txt s)).toArray := by
    apply Array.ext'
    simp [u8s, txt]
  simp [Builtin.firstCells]
  simpa using h

theorem run_append_str {P : Program} (w : World) (t u ty e : TypeId) (i : TypeInfo) (z : Value) (ht : P.underlying t = some (.slice e)) (hu : P.underlying u = some .string) (hi : P.info? e = some i) (hz : i.zero = some z)
    (hsize : i.size = 1) (hby : i.bytes = 1) (hzs : z.cells.size = 1)
    (v : Value) (n : Nat) (xs : List Value) (hown : OwnSl w e 1 v n xs) (s : ByteArray) (hbytes : n + s.size ≤ 140737488355328) (hmax : n + s.size ≤ maxLen) :
    ∃ v' w', (Builtin.append_ #[t, u] ty #[v, .string s]).run P w = .ok v' w' ∧ OwnSl w' e 1 v' (n + s.size) (xs ++ u8s (txt s)) ∧ Mod (inBlock v) w w' ∧
      (v'.ownBlock = v.ownBlock ∨ ∃ k, v'.ownBlock = some k ∧ w.heap.size ≤ k) := by
  have hf := firstCells_str P w s
  have hfd := firstCells_str P w.drew s
  have hul : (u8s (txt s)).length = s.size := by rw [u8s_length, txt_length]
  have hlen : (xs ++ u8s (txt s)).length = (n + s.size) * 1 := by rw [List.length_append, hown.1, hul, Nat.add_mul, Nat.mul_one s.size]
  have h1 : ∀ u ∈ u8s (txt s), u.oneCell' = true := fun u hu => by
    simp only [u8s, List.mem_map] at hu
    obtain ⟨b, -, rfl⟩ := hu
    rfl
  have grown : ∀ old, ∃ w', w' = w.drew.alloc (.cells (xs.toArray ++ (u8s (txt s)).toArray ++ Builtin.zeroCells z.cells (grownCap w (n + s.size) old e - (n + s.size))) e) ∧
      OwnSl w' e 1 (.slice (some ⟨w.heap.size, 0, none⟩) (n + s.size) (grownCap w (n + s.size) old e)) (n + s.size) (xs ++ u8s (txt s)) ∧ Mod (inBlock v) w w' := by
    intro old
    have hge := grownCap_ge w (n + s.size) old e
    have hcm : grownCap w (n + s.size) old e ≤ maxLen := grownCap_le_maxLen w (n + s.size) old e hmax
    refine ⟨_, rfl, ⟨hlen, .inr ⟨w.heap.size, 0, _, _, rfl, heap_alloc_new w.drew _, hge, hcm, ?_, ?_⟩⟩, ((Mod.refl _ w).drew).alloc _⟩
    · simp only [Array.size_append, List.size_toArray, size_zeroCells, hzs, hown.1, hul]
      omega
    · simp only [Array.toList_append, List.append_assoc, List.drop_zero]
      rw [← List.append_assoc, ← hlen]
      exact List.take_left
  by_cases hroom : ∃ a cap, v = .slice a n cap ∧ n + s.size ≤ cap
  · obtain ⟨a, cap, hv, hroom⟩ := hroom
    rcases hown.2 with ⟨hv', rfl⟩ | ⟨g, off, cap', cur, hv', hg, hnc, hcm, hs, htk⟩
    · rw [hv'] at hv; cases hv
      have hm : s.size = 0 := by omega
      have hxs : xs = [] := List.eq_nil_of_length_eq_zero (by simpa using hown.1)
      have hns : u8s (txt s) = [] := List.eq_nil_of_length_eq_zero (by omega)
      subst hxs hv'
      refine ⟨.slice none 0 0, w, ?_, by rw [hns, hm]; exact OwnSl.nil w e 1, Mod.refl _ _, .inl rfl⟩
      rw [hm] at hf
      simp [Builtin.append_, run_underlying ht, run_underlying hu, sizeOf, typeInfo, hi, Builtin.lenOf, hm, hsize, hf]
    · rw [hv'] at hv; cases hv
      subst hv'
      have hfit : off + n + (u8s (txt s)).length ≤ cur.size := by
        rw [hul]; omega
      have hst := run_storeCells_at P g (off + n) e (u8s (txt s)) 0 cur w hg (by simpa using hfit) h1
      simp only [Nat.add_zero] at hst
      refine ⟨.slice (some ⟨g, off, none⟩) (n + s.size) cap, w.setRow g (cur.toList.take (off + n) ++ u8s (txt s) ++ cur.toList.drop (off + n + (u8s (txt s)).length)).toArray, ?_,
        ⟨hlen, .inr ⟨g, off, cap, _, rfl, setRow_heap w g cur _ e _ hg, hroom, hcm, ?_, ?_⟩⟩, (Mod.refl (inBlock (.slice (some ⟨g, off, none⟩) n cap)) w).setRow (g := g) (fun _ => by simp [inBlock, Value.ownBlock]) _, .inl rfl⟩
      · simp [Builtin.append_, run_underlying ht, run_underlying hu, sizeOf, typeInfo, hi, Builtin.lenOf, hroom, hsize, hf, addr_add, hst]
      · simp only [List.size_toArray, List.length_append, List.length_take, List.length_drop, Array.length_toList]
        omega
      · have hcl : off + n ≤ cur.toList.length := by rw [Array.length_toList]; omega
        have e1 : List.drop off (List.take (off + n) cur.toList) = xs := by
          rw [List.drop_take, show off + n - off = n * 1 from by omega]; exact htk
        rw [List.append_assoc, List.drop_append_of_le_length (by rw [List.length_take]; omega), e1, ← List.append_assoc, ← hlen]
        exact List.take_left
  · obtain ⟨a, cap, hv, hle⟩ := hown.shape
    have hcap : cap < n + s.size := by
      rcases Nat.lt_or_ge cap (n + s.size) with h | h
      · exact h
      · exact absurd ⟨a, cap, hv, h⟩ hroom
    have h0 : 0 < s.size := by omega
    obtain ⟨w'', hw'', h2, h3⟩ := grown cap
    refine ⟨_, w'', ?_, h2, h3, .inr ⟨w.heap.size, rfl, Nat.le_refl _⟩⟩
    subst hw''
    rcases hown.2 with ⟨hv', rfl⟩ | ⟨g', off', cap', cur, hv', hg, hnc, hcm, hs, htk⟩
    · rw [hv'] at hv; cases hv
      have hxs : xs = [] := List.eq_nil_of_length_eq_zero (by simpa using hown.1)
      subst hxs
      rw [hv']
      have hfx : (s.data.map (fun b => Value.int IntKind.u8 (b.toNat : Int))) = (u8s (txt s)).toArray := by
        apply Array.ext'
        simp [u8s, txt]
      have := run_append_nil_string (P := P) (w := w) t u ty e i z ht hu hi hz s h0 (by simp only [maxLen] at hmax; omega) (by rw [hby]; omega)
      rw [hfx] at this
      simpa only [Nat.zero_add, Array.empty_append] using this
    · rw [hv'] at hv; cases hv
      rw [hv']
      have hrd := hown.rd
      obtain ⟨_, a2, c2, hv2, _, _, hcc⟩ := hrd
      rw [hv'] at hv2; cases hv2
      have hcc : ∀ (j : Nat) (u : Value), xs[j]? = some u → w.cell? ⟨g', off' + j, none⟩ = some u := fun j u hu => by
        have hn0 : 0 < n := by have := (List.getElem?_eq_some_iff.1 hu).1; have := hown.1; omega
        obtain ⟨g2, off2, he, hcc⟩ := hcc _ rfl hn0
        cases he
        exact hcc j u hu
      have hfo := run_firstCells_some (P := P) w.drew 1 n ⟨g', off', none⟩ n cap xs hown.1 (fun j u hu => by rw [addr_add]; exact hcc j u hu)
      have hn : ¬ (n + s.size ≤ cap) := by omega
      have h63' : ¬ (9223372036854775807 < ((n : Int) + (s.size : Int))) := by simp only [maxLen] at hmax; omega
      have h48' : ¬ (281474976710656 < Builtin.nextslicecap (n + s.size) cap * i.bytes) := by have := growslice_fits (bytes := i.bytes) hcap (by rw [hby]; omega); omega
      simp [Builtin.append_, run_underlying ht, run_underlying hu, sizeOf, typeInfo, zeroValue, hi, hz, Builtin.lenOf, hn, h63', h48', Question.forced, hsize, hfd, hfo, newRow, grownCap, Array.append_assoc]
      congr 2
      apply Array.ext'
      simp [List.append_assoc]

/-- append of a text, as one operation of a list. -/
theorem wpList_append_str {P : Program} {ops : Array Oper} {rest : List Oper} {o : Oper} {a : Act} {w : World} {Q : Exit → Act → World → Prop}
    (hgd : o.guard = none) (s y : Operand) (t u : TypeId) (hop : o.op = Op.call { callee := Callee.builtin Builtin.append, args := #[s, y], argTypes := #[t, u] })
    (e : TypeId) (hT : SliceT P t e 1 1) (hu : P.underlying u = some .string)
    (v : Value) (n : Nat) (xs : List Value) (hs : a.eval s = v) (hown : OwnSl w e 1 v n xs) (x : ByteArray) (hy : a.eval y = .string x)
    (hbytes : n + x.size ≤ 140737488355328) (hmax : n + x.size ≤ maxLen)
    (hK : ∀ ad cap w', Appended w e 1 v (n + x.size) (xs ++ u8s (txt x)) (.slice ad (n + x.size) cap) w' → wpList P ops Q rest (a.put o.dst (.slice ad (n + x.size) cap)) w') : wpList P ops Q (o :: rest) a w := by
  refine wpList_plain hgd fun K hK' => ?_
  obtain ⟨ht, i0, z, hi, hz0, hz1, hz2, hzs⟩ := hT
  obtain ⟨v', w', hrun, r1, r2, r3⟩ := run_append_str (P := P) w t u o.type e i0 z ht hu hi hz0 hz1 hz2 hzs v n xs hown x hbytes hmax
  unfold Oper.wp execOp
  simp only [hop, resolve, invoke, builtin, Sem.run_bind, Sem.run_pure, Result.andThen_ok, List.map_toArray, List.map_cons, List.map_nil, hs, hy, hrun]
  obtain ⟨ad, cap, rfl, _⟩ := r1.shape
  exact hK' _ _ (hK ad cap w' ⟨r1, r2, r3⟩)
end Go.Proofs.Ytmlnklbjjnjplaa
