/-
  Package broker: New; Take of an event that is too late.
  gazettelaw17.Out: what was sent, and shown.
-/
import Derived.Test.YtaenebdppkjhoaaGreatDoorZa37
import Derived.Test.YtaenebdppkjhoaaGreatDoorZa38
import Derived.Test.YtaenebdppkjhoaaGreatDoorZa42
import Derived.Test.YtaenebdppkjhoaaGreatDoorZa34
import Derived.Test.YtaenebdppkjhoaaGreatDoorZa25
namespace Go.Proofs.YtaenebdppkjhoaaGreatDoor
set_option maxRecDepth 20000
open Go.RowKit

/-- What New leaves. -/
def BNewPost (w0 w : World) (ow : Ow) (c : Nat) (id : Int) (near : List Int) (e : Ending) (w' : World) : Prop :=
  ∃ g ow', e = .returned (.pointer (some ⟨g, 0, none⟩)) ∧ Owd w0 w' ow' ∧ Bro w' ow' c g id near ⟨[], fun _ => RS.zero⟩ ∧ Mov (fun t => c ≤ t ∧ t < c + 18) w ow w' ow'
def noRea : List Value := [.pointer none, .pointer none, .map none, .map none, .pointer none, .pointer none, .map none, .map none, .pointer none, .pointer none, .map none, .map none, .pointer none, .pointer none, .map none, .map none]
set_option maxHeartbeats 4000000 in
theorem bnew_at (w0 w : World) (ow : Ow) (c : Nat) (hw : Owd w0 w ow) (h2 : 2 ≤ c) (id : Int) (nv0 : Value) (near : List Int) (hn : RdSl w 1 nv0 near.length (near.map (Value.int .i64))) (hnl : near.length ≤ 1000) :
    Calls Tryz.prog 11 #[.int .i64 id, nv0] w (BNewPost w0 w ow c id near) := by
  have hcl := clone_rd w nv0 near hn (by omega)
  obtain ⟨a0, c0, rfl, -⟩ : ∃ a c, nv0 = .slice a near.length c ∧ True := by obtain ⟨-, a, c, h, -⟩ := hn; exact ⟨a, c, h, trivial⟩
  have Hcl := Lib.hid hcl
  have Hw := Lib.hid hw
  have Hn := Lib.hid hn
  clear hcl hw hn
  go_enter Tryz.func11, Tryz.ntmps11
  go_wp2_with fail
  refine Hcl.out.mono ?_
  rintro e w1 ⟨nv, rfl, hno, hnb, hm1⟩
  obtain ⟨na, nc, rfl, -⟩ := hno.shape
  obtain ⟨wa, hwa⟩ : ∃ wa : World, w1.alloc (.cells (.slice none 0 0 :: .int .i64 id :: .slice na near.length nc :: noRea).toArray 62) = wa := ⟨_, rfl⟩
  have hmwa : Mod (fun _ => False) w1 wa := hwa ▸ (Mod.refl (fun _ => False) w1).alloc _
  have hgwa := heap_alloc_new w1 (.cells (.slice none 0 0 :: .int .i64 id :: .slice na near.length nc :: noRea).toArray 62)
  rw [hwa] at hgwa
  have hzwa : wa.heap.size = w1.heap.size + 1 := by rw [← hwa]; simp
  have hwa' : w1.alloc (.cells #[.slice none 0 0, .int .i64 id, .slice na near.length nc, .pointer none, .pointer none, .map none, .map none, .pointer none, .pointer none, .map none, .map none, .pointer none, .pointer none, .map none, .map none, .pointer none, .pointer none, .map none, .map none] 62) = wa := hwa
  have hs1 : Mov (fun t => c ≤ t ∧ t < c + 18) w ow w1 ow := Mov.of Hw.out hm1 _
  have ho1 := hs1.owd Hw.out (by omega)
  have hsa : Mov (fun t => c ≤ t ∧ t < c + 18) w1 ow wa (tagOne ow w1.heap.size c) := hwa ▸ Mov.alloc ho1 _ c (.inr (.inr ⟨Nat.le_refl _, by omega⟩))
  have hoa := hsa.owd ho1 (by omega)
  have hnz : ∀ b, (Value.slice na near.length nc).ownBlock = some b → b < w1.heap.size := hno.lt
  have hcon : ConSl wa (tagOne ow w1.heap.size c) 1 (.slice na near.length nc) near.length (near.map (Value.int .i64)) := by
    refine ⟨(hno.mod hmwa (fun _ _ h => h)).rd, fun _ b hb => ?_⟩
    rw [tagOne_ne _ _ (by have := hnz b hb; omega)]
    exact Hw.out.zero (hnb b hb)
  have hcr := crash_at w0 wa (tagOne ow w1.heap.size c) c w1.heap.size id near hoa h2 (.slice none 0 0) (.slice na near.length nc) [] noRea rfl hgwa (tagOne_at _ _ _) ⟨OwnSl.nil _ _ _, fun b hb => (by cases hb), fun x hx => (by cases hx)⟩ hcon
  have hs := hs1.trans hsa
  have Hwa' := Lib.hid hwa'
  have Hcr := Lib.hid hcr
  have Hs := Lib.hid hs
  clear hwa' hcr hs hno hnb hm1 hgwa hmwa hzwa hwa hs1 ho1 hsa hoa hnz hcon
  go_wp2_with (first | (rw [show w1.alloc _ = wa from Hwa'.out]) | fail)
  refine Hcr.out.mono ?_
  rintro e w2 ⟨rfl, ow2, ho2, hb2, hm2⟩
  have hs2 := Hs.out.trans hm2
  have Ho2 := Lib.hid ho2
  have Hb2 := Lib.hid hb2
  have Hs2 := Lib.hid hs2
  clear ho2 hb2 hs2 hm2
  go_wp2_with fail
  go_ret
  exact ⟨w1.heap.size, ow2, rfl, Ho2.out, Hb2.out, Hs2.out⟩

set_option maxHeartbeats 4000000 in
/-- An event by a version that isn't known waits. -/
theorem take_late (w : World) (ow : Ow) (c g : Nat) (id : Int) (near : List Int) (B : BS) (h : Bro w ow c g id near B) (o : Value) (frm ten : Int) (x : Mv) (hk : x.m.kind ≠ 0 ∧ x.m.kind ≠ 1 ∧ x.m.kind ≠ 2) (hv : (B.L.length : Int) < x.m.ver) (_hL : B.L.length ≤ 40) :
    Calls Tryz.prog 26 #[.pointer (some ⟨g, 0, none⟩), o, .int .i64 frm, .int .i64 ten, .agg x.cells.toArray] w fun e w' => e = .returned (.bool false) ∧ Mod (fun _ => False) w w' := by
  obtain ⟨a, h⟩ := h
  obtain ⟨L, hlog, hLB⟩ := h.log
  have hLl : L.length = B.L.length := by rw [← hLB, List.length_map]
  obtain ⟨av, acap, hav, -⟩ : ∃ a' cc, a.v = .slice a' L.length cc ∧ L.length ≤ cc := by obtain ⟨-, a, cc, h, h2, -⟩ := hlog.sl.sl.rd; exact ⟨a, cc, h, h2⟩
  rw [hav, hLl] at hlog
  obtain ⟨k1, k2, k3⟩ := hk
  obtain ⟨wa, hwa⟩ : ∃ wa : World, w.alloc (.cells x.cells.toArray 48) = wa := ⟨_, rfl⟩
  have hmwa : Mod (fun _ => False) w wa := hwa ▸ (Mod.refl (fun _ => False) w).alloc _
  have hgwa := heap_alloc_new w (.cells x.cells.toArray 48)
  rw [hwa] at hgwa
  have hzwa : wa.heap.size = w.heap.size + 1 := by rw [← hwa]; simp
  have m0 : wa.cell? ⟨w.heap.size, 0, none⟩ = some (.int .i64 x.m.kind) := cell_of hgwa rfl
  have m14 : wa.cell? ⟨w.heap.size, 14, none⟩ = some (.int .i64 x.m.ver) := cell_of hgwa rfl
  have hgg := hmwa.heap hlog.row (fun h => h)
  have hF : ∀ wx, Mod (fun _ => False) wa wx → wx.cell? ⟨w.heap.size, 14, none⟩ = some (.int .i64 x.m.ver) ∧ Mod (fun _ => False) w wx := fun wx hx => ⟨hx.cell m14 (fun h => h), hmwa.trans hx (fun _ _ h => h)⟩
  have hpl : ∀ wx, Mod (fun _ => False) wa wx → Calls Tryz.prog 15 #[.pointer (some ⟨g, 0, none⟩)] wx fun e w' => e = .returned (.int .i64 B.L.length) ∧ Mod (fun _ => False) wa w' := fun wx hx => (plen_at wx g av B.L.length acap (hx.cell (cell_of hgg rfl) (fun h => h))).mono fun e w' ⟨he, hm⟩ => ⟨he, hm ▸ hx⟩
  have H := Lib.hid h
  have Hlog := Lib.hid hlog
  have Hwa := Lib.hid hwa
  have Hmwa := Lib.hid hmwa
  have Hgwa := Lib.hid hgwa
  have Hgg := Lib.hid hgg
  have HF := Lib.hid hF
  have Hpl := Lib.hid hpl
  clear h hlog hwa hmwa hgwa hgg hF hpl hzwa hLB hLl hav m14
  go_enter Tryz.func26, Tryz.ntmps26
  go_wp2_with (first | (rw [show w.alloc _ = wa from Hwa.out]) | fail)
  refine wp_region_news (by kernel_rfl) (by kernel_rfl) ?_
  iterate 7 (first
    | (refine quiet_skip ?_ (fun K hK => ?_)
       · first | (go_simp; done) | (go_simp; simp [undef]; done)
       go_simp; refine hK _ ?_; clear hK K)
    | (refine quiet_do ?_ ?_ (fun w' hw' => ?_) (fun K hK => ?_)
       · first | (go_simp; done) | (go_simp; simp [undef]; done)
       rotate_left
       · obtain ⟨f0, -⟩ := HF.out w' hw'
         go_simp
         rfl
       go_simp; refine hK _ ?_; clear hK K)
    | (refine quiet_in ?_ ?_ ?_ ?_ (fun w' hw' => ?_) ?_ (fun K hK => ?_)
       · first | (go_simp; done) | (go_simp; simp [undef]; done)
       rotate_left 3
       · obtain ⟨f0, -⟩ := HF.out w' hw'
         go_simp
         constructor <;> rfl
       · first | with_reducible exact Hpl.out
       go_simp; refine hK _ ?_; clear hK K))
  refine quiet_end (fun w' hw' => ?_)
  have hmx := (HF.out w' hw').2
  have Hmx := Lib.hid hmx
  clear hmx hw'
  go_wp2
  go_ret
  exact ⟨rfl, Hmx.out⟩
end Go.Proofs.YtaenebdppkjhoaaGreatDoor

namespace Go.Proofs.YtaenebdppkjhoaaGreatDoor
set_option maxRecDepth 20000
open Go.RowKit

/-- What was said, as it lies. -/
abbrev Sv := Int × Int × Mv
def Sv.cells (x : Sv) : List Value := .int .i64 x.1 :: .int .i64 x.2.1 :: x.2.2.cells
def Sv.sd (x : Sv) : Sd := (x.1, x.2.1, x.2.2.m)


abbrev Hv := Int × ByteArray × Tv
def Hv.cells (x : Hv) : List Value := .int .i64 x.1 :: .string x.2.1 :: x.2.2.cells
def Hv.hn (x : Hv) : Hn := (x.1, x.2.1, x.2.2.t)
def svs (l : List Sv) : List Value := l.flatMap Sv.cells
def hvs (l : List Hv) : List Value := l.flatMap Hv.cells
theorem svs_append (l m : List Sv) : svs (l ++ m) = svs l ++ svs m := by unfold svs; simp
theorem hvs_append (l m : List Hv) : hvs (l ++ m) = hvs l ++ hvs m := by unfold hvs; simp
theorem sv_one (x : Sv) : ∀ u ∈ x.cells, u.oneCell' = true := fun u hu => List.all_eq_true.1 (show x.cells.all (·.oneCell') = true from rfl) u hu
theorem hv_one (x : Hv) : ∀ u ∈ x.cells, u.oneCell' = true := fun u hu => List.all_eq_true.1 (show x.cells.all (·.oneCell') = true from rfl) u hu
/-- Where all is noted, as it lies. -/
structure OtA (w : World) (ow : Ow) (c q : Nat) (v1 v2 : Value) (S : List Sv) (H : List Hv) : Prop where
  row : w.heap[q]? = some (.cells #[v1, v2] 39 (0, 0))
  tag : ow q = c
  s1 : OwnSl w 50 19 v1 S.length (svs S)
  b1 : ∀ b, v1.ownBlock = some b → ow b = c ∧ b ≠ q ∧ v2.ownBlock ≠ some b
  s2 : OwnSl w 114 11 v2 H.length (hvs H)
  b2 : ∀ b, v2.ownBlock = some b → ow b = c ∧ b ≠ q ∧ v1.ownBlock ≠ some b
  e1 : ∀ x ∈ S, MvOk w ow x.2.2
  e2 : ∀ x ∈ H, TvOk w ow x.2.2
/-- Where all is noted. -/
def OtI (w : World) (ow : Ow) (c q : Nat) (S : List Sd) (H : List Hn) : Prop := ∃ v1 v2 S' H', OtA w ow c q v1 v2 S' H' ∧ S'.map Sv.sd = S ∧ H'.map Hv.hn = H
theorem OtA.mov {F : Nat → Prop} {w w' : World} {ow ow' : Ow} {c q : Nat} {v1 v2 : Value} {S : List Sv} {H : List Hv} (h : OtA w ow c q v1 v2 S H) (s : Mov F w ow w' ow') (h0 : ¬ F 0) (hc : ¬ F c) : OtA w' ow' c q v1 v2 S H := by
  have hq := (Array.getElem?_eq_some_iff.1 h.row).1
  have hn : ∀ b, ow b = c → ¬ F (ow b) := fun b e hf => hc (e ▸ hf)
  exact ⟨s.md.heap h.row (hn q h.tag), by rw [s.old q hq]; exact h.tag, h.s1.mod s.md (fun b hb => hn b (h.b1 b hb).1), fun b hb => by rw [s.old b (h.s1.lt b hb)]; exact h.b1 b hb,
    h.s2.mod s.md (fun b hb => hn b (h.b2 b hb).1), fun b hb => by rw [s.old b (h.s2.lt b hb)]; exact h.b2 b hb, fun x hx => (h.e1 x hx).mov s h0, fun x hx => (h.e2 x hx).mov s h0⟩
theorem OtI.mov {F : Nat → Prop} {w w' : World} {ow ow' : Ow} {c q : Nat} {S : List Sd} {H : List Hn} (h : OtI w ow c q S H) (s : Mov F w ow w' ow') (h0 : ¬ F 0) (hc : ¬ F c) : OtI w' ow' c q S H := by
  obtain ⟨v1, v2, S', H', h1, h2⟩ := h
  exact ⟨v1, v2, S', H', h1.mov s h0 hc, h2⟩
theorem saids_T : SliceT Tryz.prog 36 50 19 248 := sliceT (by kernel_rfl) (by kernel_rfl)
theorem seens_T : SliceT Tryz.prog 37 114 11 128 := sliceT (by kernel_rfl) (by kernel_rfl)
/-- One more is noted. -/
theorem OtA.app1 {w0 w wz w6 w7 : World} {ow : Ow} {c q : Nat} {v1 v2 v' : Value} {S : List Sv} {H : List Hv} {x : Sv} (_hw : Owd w0 w ow) (h2 : 2 ≤ c) (h : OtA w ow c q v1 v2 S H) (hz : Mod (fun _ => False) w wz) (hx : MvOk w ow x.2.2)
    (hA : Appended wz 50 19 v1 (S.length + 1) (svs S ++ x.cells) v' w6) (h7 : w7.heap[q]? = some (.cells #[v', v2] 39 (0, 0))) (hm7 : Mod (fun k => k = q) w6 w7) :
    ∃ ow', OtA w7 ow' c q v' v2 (S ++ [x]) H ∧ Mov (fun t => t = c) w ow w7 ow' := by
  obtain ⟨hA1, hA2, hA3⟩ := hA
  have hql := (Array.getElem?_eq_some_iff.1 h.row).1
  have hzs := hz.size
  have hsz := hA2.size
  have hs7 := hm7.size
  have hmA : Mod (inBlock v1) w w6 := (hz.mono (fun _ _ h => h.elim)).trans hA2 (fun b hb h => h)
  have hmF : Mod (fun k => ow k = c) w w7 := (hmA.mono (fun k _ hk => (h.b1 k hk).1)).trans hm7 (fun k _ hk => by have hk' : k = q := hk; rw [hk']; exact h.tag)
  have hmv : Mov (fun t => t = c) w ow w7 (tagNew w w7 ow (inBlock v') (fun _ => True) c) := Mov.tag rfl hmF
  have hv'b : ∀ b, v'.ownBlock = some b → (v1.ownBlock = some b ∧ b < w.heap.size) ∨ (wz.heap.size ≤ b ∧ b < w7.heap.size) := fun b hb => by
    rcases hA3 with e | ⟨k, e, hk⟩
    · rw [e] at hb
      exact .inl ⟨hb, h.s1.lt b hb⟩
    · have := hA1.lt b hb
      rw [hb] at e
      cases e
      exact .inr ⟨hk, by omega⟩
  have h2l := h.s2.lt
  have hne : ∀ b, v'.ownBlock = some b → b ≠ q ∧ v2.ownBlock ≠ some b := fun b hb => by
    rcases hv'b b hb with h1 | h1
    · exact (h.b1 b h1.1).2
    · exact ⟨by omega, fun h3 => by have := h2l b h3; omega⟩
  refine ⟨_, ⟨h7, by rw [tagNew_old hql]; exact h.tag, ?_, fun b hb => ⟨?_, hne b hb⟩, (h.s2.mod hmA (fun b hb h3 => (h.b2 b hb).2.2 h3)).mod hm7 (fun b hb e => (h.b2 b hb).2.1 e), fun b hb => ⟨by rw [tagNew_old (h2l b hb)]; exact (h.b2 b hb).1, (h.b2 b hb).2.1, fun h3 => (hne b h3).2 hb⟩, fun y hy => ?_, fun y hy => (h.e2 y hy).mov hmv (by omega)⟩, hmv⟩
  · rw [List.length_append, svs_append]
    have e : svs [x] = x.cells := by simp [svs]
    rw [e]
    exact hA1.mod hm7 (fun k hk e => (hne k hk).1 e)
  · rcases hv'b b hb with h1 | h1
    · rw [tagNew_old h1.2]; exact (h.b1 b h1.1).1
    · exact tagNew_own (by omega) h1.2 hb
  · rcases List.mem_append.1 hy with hy | hy
    · exact (h.e1 y hy).mov hmv (by omega)
    · obtain rfl := List.mem_singleton.1 hy
      exact hx.mov hmv (by omega)
theorem OtA.app2 {w0 w wz w6 w7 : World} {ow : Ow} {c q : Nat} {v1 v2 v' : Value} {S : List Sv} {H : List Hv} {x : Hv} (_hw : Owd w0 w ow) (h2 : 2 ≤ c) (h : OtA w ow c q v1 v2 S H) (hz : Mod (fun _ => False) w wz) (hx : TvOk w ow x.2.2)
    (hA : Appended wz 114 11 v2 (H.length + 1) (hvs H ++ x.cells) v' w6) (h7 : w7.heap[q]? = some (.cells #[v1, v'] 39 (0, 0))) (hm7 : Mod (fun k => k = q) w6 w7) :
    ∃ ow', OtA w7 ow' c q v1 v' S (H ++ [x]) ∧ Mov (fun t => t = c) w ow w7 ow' := by
  obtain ⟨hA1, hA2, hA3⟩ := hA
  have hql := (Array.getElem?_eq_some_iff.1 h.row).1
  have hzs := hz.size
  have hsz := hA2.size
  have hs7 := hm7.size
  have hmA : Mod (inBlock v2) w w6 := (hz.mono (fun _ _ h => h.elim)).trans hA2 (fun b hb h => h)
  have hmF : Mod (fun k => ow k = c) w w7 := (hmA.mono (fun k _ hk => (h.b2 k hk).1)).trans hm7 (fun k _ hk => by have hk' : k = q := hk; rw [hk']; exact h.tag)
  have hmv : Mov (fun t => t = c) w ow w7 (tagNew w w7 ow (inBlock v') (fun _ => True) c) := Mov.tag rfl hmF
  have hv'b : ∀ b, v'.ownBlock = some b → (v2.ownBlock = some b ∧ b < w.heap.size) ∨ (wz.heap.size ≤ b ∧ b < w7.heap.size) := fun b hb => by
    rcases hA3 with e | ⟨k, e, hk⟩
    · rw [e] at hb
      exact .inl ⟨hb, h.s2.lt b hb⟩
    · have := hA1.lt b hb
      rw [hb] at e
      cases e
      exact .inr ⟨hk, by omega⟩
  have h1l := h.s1.lt
  have hne : ∀ b, v'.ownBlock = some b → b ≠ q ∧ v1.ownBlock ≠ some b := fun b hb => by
    rcases hv'b b hb with h1 | h1
    · exact (h.b2 b h1.1).2
    · exact ⟨by omega, fun h3 => by have := h1l b h3; omega⟩
  refine ⟨_, ⟨h7, by rw [tagNew_old hql]; exact h.tag, (h.s1.mod hmA (fun b hb h3 => (h.b1 b hb).2.2 h3)).mod hm7 (fun b hb e => (h.b1 b hb).2.1 e), fun b hb => ⟨by rw [tagNew_old (h1l b hb)]; exact (h.b1 b hb).1, (h.b1 b hb).2.1, fun h3 => (hne b h3).2 hb⟩, ?_, fun b hb => ⟨?_, hne b hb⟩, fun y hy => (h.e1 y hy).mov hmv (by omega), fun y hy => ?_⟩, hmv⟩
  · rw [List.length_append, hvs_append]
    have e : hvs [x] = x.cells := by simp [hvs]
    rw [e]
    exact hA1.mod hm7 (fun k hk e => (hne k hk).1 e)
  · rcases hv'b b hb with h1 | h1
    · rw [tagNew_old h1.2]; exact (h.b2 b h1.1).1
    · exact tagNew_own (by omega) h1.2 hb
  · rcases List.mem_append.1 hy with hy | hy
    · exact (h.e2 y hy).mov hmv (by omega)
    · obtain rfl := List.mem_singleton.1 hy
      exact hx.mov hmv (by omega)
end Go.Proofs.YtaenebdppkjhoaaGreatDoor
