/-
  The reader's rule.
  The next op of bytes.
  The next op of bytes: some kinds.
-/
import Derived.Test.YtloplmaekonenaaGreatDoorZi11
import Derived.Test.YtloplmaekonenaaGreatDoorZi15
namespace Go.Proofs.YtloplmaekonenaaGreatDoor
set_option maxRecDepth 20000
open Go.RowKit
theorem rd_byte2 (w : World) (r G : Nat) (bs : List UInt8) (h : Rdr w r G bs) :
    Calls Tryz.prog 113 #[.pointer (some ⟨r, 0, none⟩)] w fun e w' =>
      (readB bs = none ∧ e = .panicked short ∧ Mod (fun k => k = r) w w') ∨ (∃ x t, readB bs = some (x, t) ∧ e = .returned (.int .i64 x) ∧ Rdr w' r G t ∧ Mod (fun k => k = r) w w') := by
  refine (rd_byte w r G bs h).mono ?_
  rintro e w' (⟨rfl, h2, rfl⟩ | ⟨x, t, rfl, h1, h2, h3⟩)
  · exact .inl ⟨rfl, h2, Mod.refl _ _⟩
  · exact .inr ⟨x.toNat, t, rfl, h1, h2, h3⟩
set_option maxRecDepth 20000 in
set_option maxHeartbeats 4000000 in
theorem take_rule (w : World) (r G : Nat) (bs : List UInt8) (h : Rdr w r G bs) (hG : G < w.heap.size) :
    Calls Tryz.prog 107 #[.pointer (some ⟨r, 0, none⟩)] w fun e w' =>
      (readRu bs = none ∧ e = .panicked short ∧ Mod (fun k => k = r) w w') ∨
      (∃ p t a c, readRu bs = some (p, t) ∧ e = .returned (.tuple #[.agg (p.lies a c).cells.toArray, .bool p.rightB]) ∧ OwnSl w' 81 7 (.slice a p.cs.length c) p.cs.length (cnds p.cs) ∧
        (∀ b, (Value.slice a p.cs.length c).ownBlock = some b → w.heap.size ≤ b) ∧ Rdr w' r G t ∧ Mod (fun k => k = r) w w') := by
  have hrl := h.lt
  obtain ⟨wa, hwa⟩ : ∃ wa : World, w.alloc (.cells #[.int .i64 0, .int .i64 0, .string ⟨#[]⟩, .int .i64 0, .string ⟨#[]⟩, .slice none 0 0, .string ⟨#[]⟩, .int .i64 0] 117) = wa := ⟨_, rfl⟩
  have hmwa : Mod (fun _ => False) w wa := hwa ▸ (Mod.refl (fun _ => False) w).alloc _
  have hgwa := heap_alloc_new w (.cells #[.int .i64 0, .int .i64 0, .string ⟨#[]⟩, .int .i64 0, .string ⟨#[]⟩, .slice none 0 0, .string ⟨#[]⟩, .int .i64 0] 117)
  rw [hwa] at hgwa
  have hzwa : wa.heap.size = w.heap.size + 1 := by rw [← hwa]; simp
  have hra := h.new hmwa hrl hG (by simp)
  have hma : Mod (fun k => k = r) w wa := hmwa.mono (by simp)
  have hb1 := rd_byte2 wa r G bs hra
  have Hb1 := Lib.hid hb1
  have Hma := Lib.hid hma
  have Hgwa := Lib.hid hgwa
  have Hwa := Lib.hid hwa
  clear hb1 hma hgwa hwa h hra hmwa
  go_enter Tryz.func107, Tryz.ntmps107
  go_wp2_with fail
  rw [show w.alloc _ = wa from Hwa.out]
  refine Hb1.out.mono ?_
  rintro e w1 (⟨g1, rfl, hm⟩ | ⟨k, t1, g1, rfl, hr, hm⟩)
  · exact ⟨rfl, .inl ⟨by simp only [readRu, g1, Option.bind_none], rfl, Hma.out.trans hm (fun _ _ h => h)⟩⟩
  have hm01 := Hma.out.trans hm (fun _ _ h => h)
  have Hgw1 := Lib.hid (hm.heap Hgwa.out (fun e : w.heap.size = r => by omega))
  have H1 := Lib.hid g1
  have hb := rd_byte2 w1 r G t1 hr
  have Hb2 := Lib.hid hb
  have Hm01 := Lib.hid hm01
  clear hb hm01 hr hm Hb1 g1
  go_wp2_with fail
  refine Hb2.out.mono ?_
  rintro e w2 (⟨g2, rfl, hm⟩ | ⟨te, t2, g2, rfl, hr, hm⟩)
  · exact ⟨rfl, .inl ⟨by simp only [readRu, H1.out, g2, Option.bind_some, Option.bind_none], rfl, Hm01.out.trans hm (fun _ _ h => h)⟩⟩
  have hm02 := Hm01.out.trans hm (fun _ _ h => h)
  have Hgw2 := Lib.hid (hm.heap Hgw1.out (fun e : w.heap.size = r => by omega))
  have H2 := Lib.hid g2
  have hb := rd_text2 w2 r G t2 hr
  have Hb3 := Lib.hid hb
  have Hm02 := Lib.hid hm02
  clear hb hm02 hr hm Hb2 g2
  go_wp2_with fail
  refine Hb3.out.mono ?_
  rintro e w3 (⟨g3, rfl, hm⟩ | ⟨wh, t3, g3, hswh, rfl, hr, hm⟩)
  · exact ⟨rfl, .inl ⟨by simp only [readRu, H1.out, H2.out, g3, Option.bind_some, Option.bind_none], rfl, Hm02.out.trans hm (fun _ _ h => h)⟩⟩
  have hm03 := Hm02.out.trans hm (fun _ _ h => h)
  have Hgw3 := Lib.hid (hm.heap Hgw2.out (fun e : w.heap.size = r => by omega))
  have H3 := Lib.hid g3
  have hb := rd_byte2 w3 r G t3 hr
  have Hb4 := Lib.hid hb
  have Hm03 := Lib.hid hm03
  clear hb hm03 hr hm Hb3 g3
  go_wp2_with fail
  refine Hb4.out.mono ?_
  rintro e w4 (⟨g4, rfl, hm⟩ | ⟨br, t4, g4, rfl, hr, hm⟩)
  · exact ⟨rfl, .inl ⟨by simp only [readRu, H1.out, H2.out, H3.out, g4, Option.bind_some, Option.bind_none], rfl, Hm03.out.trans hm (fun _ _ h => h)⟩⟩
  have hm04 := Hm03.out.trans hm (fun _ _ h => h)
  have Hgw4 := Lib.hid (hm.heap Hgw3.out (fun e : w.heap.size = r => by omega))
  have H4 := Lib.hid g4
  have hb := rd_filter w4 r G t4 hr (by have := hm04.size; omega)
  have Hb5 := Lib.hid hb
  have Hm04 := Lib.hid hm04
  clear hb hm04 hr hm Hb4 g4
  go_wp2_with fail
  refine Hb5.out.mono ?_
  rintro e w5 (⟨g5, rfl, hm⟩ | ⟨sc, cs, t5, av, g5, hssc, rfl, hown, hfr, hr, hm⟩)
  · exact ⟨rfl, .inl ⟨by simp only [readRu, H1.out, H2.out, H3.out, H4.out, g5, Option.bind_some, Option.bind_none], rfl, Hm04.out.trans hm (fun _ _ h => h)⟩⟩
  have hm05 := Hm04.out.trans hm (fun _ _ h => h)
  have Hgw5 := Lib.hid (hm.heap Hgw4.out (fun e : w.heap.size = r => by omega))
  have H5 := Lib.hid g5
  obtain ⟨aa, ac, rfl, -⟩ := hown.shape
  have hfr : ∀ b, (Value.slice aa cs.length ac).ownBlock = some b → w.heap.size < b := fun b hb => Nat.lt_of_lt_of_le (Array.getElem?_eq_some_iff.1 Hgw4.out).1 (hfr b hb)
  have Hown := Lib.hid hown
  have Hfr := Lib.hid hfr
  clear hown hfr
  have hb := rd_text2 w5 r G t5 hr
  have Hb6 := Lib.hid hb
  have Hm05 := Lib.hid hm05
  clear hb hm05 hr hm Hb5 g5
  go_wp2_with fail
  refine Hb6.out.mono ?_
  rintro e w6 (⟨g6, rfl, hm⟩ | ⟨nm, t6, g6, hsnm, rfl, hr, hm⟩)
  · exact ⟨rfl, .inl ⟨by simp only [readRu, H1.out, H2.out, H3.out, H4.out, H5.out, g6, Option.bind_some, Option.bind_none], rfl, Hm05.out.trans hm (fun _ _ h => h)⟩⟩
  have hm06 := Hm05.out.trans hm (fun _ _ h => h)
  have Hgw6 := Lib.hid (hm.heap Hgw5.out (fun e : w.heap.size = r => by omega))
  have H6 := Lib.hid g6
  have hown := Hown.out.mod hm (fun b hb => by have := Hfr.out b hb; omega)
  have Hown6 := Lib.hid hown
  clear hown
  have hb := rd_byte2 w6 r G t6 hr
  have Hb7 := Lib.hid hb
  have Hm06 := Lib.hid hm06
  clear hb hm06 hr hm Hb6 g6
  go_wp2_with fail
  refine Hb7.out.mono ?_
  rintro e w7 (⟨g7, rfl, hm⟩ | ⟨at_, t7, g7, rfl, hr, hm⟩)
  · exact ⟨rfl, .inl ⟨by simp only [readRu, H1.out, H2.out, H3.out, H4.out, H5.out, H6.out, g7, Option.bind_some, Option.map_none], rfl, Hm06.out.trans hm (fun _ _ h => h)⟩⟩
  have hm07 := Hm06.out.trans hm (fun _ _ h => h)
  have Hgw7 := Lib.hid (hm.heap Hgw6.out (fun e : w.heap.size = r => by omega))
  have H7 := Lib.hid g7
  have hown := Hown6.out.mod hm (fun b hb => by have := Hfr.out b hb; omega)
  have Hown7 := Lib.hid hown
  clear hown
  have Hm07 := Lib.hid hm07
  have Hr7 := Lib.hid hr
  clear hm07 hr hm Hb7 g7
  obtain ⟨p, hp⟩ : ∃ p : PRu, p = ⟨k, te, wh, br, sc, cs, nm, at_⟩ := ⟨_, rfl⟩
  have hre : readRu bs = some (p, t7) := by rw [hp]; simp only [readRu, H1.out, H2.out, H3.out, H4.out, H5.out, H6.out, H7.out, Option.bind_some, Option.map_some]
  obtain ⟨-, hpf⟩ := readRu_back hre
  obtain ⟨w8, hw8⟩ : ∃ q, w7.alloc (.cells #[.int .i64 k, .int .i64 te, .string wh, .int .i64 br, .string sc, .slice aa cs.length ac, .string nm, .int .i64 at_] 117) = q := ⟨_, rfl⟩
  have hm8 : Mod (fun _ => False) w7 w8 := hw8 ▸ (Mod.refl (fun _ => False) w7).alloc _
  have hg8 : w8.heap[w7.heap.size]? = some (.cells #[.int .i64 k, .int .i64 te, .string wh, .int .i64 br, .string sc, .slice aa cs.length ac, .string nm, .int .i64 at_] 117 (0, 0)) := hw8 ▸ heap_alloc_new w7 _
  have hb8 := hm8.heap Hgw7.out (fun h => h)
  have hown8 := Hown7.out.mod hm8 (fun _ _ h => h)
  have hr8 := Hr7.out.new hm8 (B := w.heap.size) hrl hG (fun _ h => h.elim)
  have hm08 := Hm07.out.trans (hm8.mono (by simp)) (fun _ _ h => h)
  have hs7 := Hm07.out.size
  have hw7a : w.heap.size < w7.heap.size := by exact (Array.getElem?_eq_some_iff.1 Hgw7.out).1
  have hok : (p.lies aa ac).ok w8.drew := ⟨by rw [hp]; exact hown8.drew.rd, by have := hpf.len; show p.cs.length ≤ _; omega, by have := hpf.who; show p.who.size ≤ _; omega, by have := hpf.sc; show p.sc.size ≤ _; omega, by have := hpf.name; show p.name.size ≤ _; omega,
    fun c hc => by have := hpf.cs c hc; exact ⟨by have := this.1; omega, by have := this.2.1; omega⟩⟩
  have hac := acl_right (p.lies aa ac) w8.drew hok
  rw [PRu.lies_right, show (p.lies aa ac).cells.toArray = #[.int .i64 k, .int .i64 te, .string wh, .int .i64 br, .string sc, .slice aa cs.length ac, .string nm, .int .i64 at_] by rw [hp]; rfl] at hac
  have Hw8 := Lib.hid hw8
  have Hg8 := Lib.hid hg8
  have Hb8 := Lib.hid hb8
  have Hown8 := Lib.hid hown8
  have Hr8 := Lib.hid hr8
  have Hm08 := Lib.hid hm08
  have Hre := Lib.hid hre
  have Hpf := Lib.hid hpf
  have Hac := Lib.hid hac
  clear hw8 hg8 hb8 hown8 hr8 hm08 hre hpf hac hm8 hs7 hok
  go_wp2_with fail
  rw [show w7.alloc _ = w8 from Hw8.out]
  have hS : w8.drew.heap[w7.heap.size]? = some (.cells #[.int .i64 k, .int .i64 te, .string wh, .int .i64 br, .string sc, .slice aa cs.length ac, .string nm, .int .i64 at_] 117 (0, 0)) := heap_drew_ Hg8.out
  refine wp_region_script [.rd 0, .rd 1, .go 2, .go 3, .go 4] [0, 1, 2] (fun y : World => y.heap[w7.heap.size]? = some (.cells #[.int .i64 k, .int .i64 te, .string wh, .int .i64 br, .string sc, .slice aa cs.length ac, .string nm, .int .i64 at_] 117 (0, 0))) (by kernel_rfl) (by kernel_rfl) (fun _ _ d _ _ h => (by cases d <;> exact h)) ?_
  iterate 2
    refine walk_rd rfl ?_ (fun _ => hS) ?_ (fun w0 h0 => ?_) (fun K hK => ?_)
    · (try simp only [List.getElem_toArray]); (try simp only [List.getElem_cons_succ]); (try simp only [List.getElem_cons_zero])
      go_simp; done
    rotate_left
    · (try simp only [List.getElem_toArray]); (try simp only [List.getElem_cons_succ]); (try simp only [List.getElem_cons_zero])
      have h1 := h0 rfl
      clear h0
      have c0 : w0.cell? ⟨w7.heap.size, 0, none⟩ = some (.int .i64 k) := cell_of h1 rfl
      have c1 : w0.cell? ⟨w7.heap.size, 1, none⟩ = some (.int .i64 te) := cell_of h1 rfl
      have c2 : w0.cell? ⟨w7.heap.size, 2, none⟩ = some (.string wh) := cell_of h1 rfl
      have c3 : w0.cell? ⟨w7.heap.size, 3, none⟩ = some (.int .i64 br) := cell_of h1 rfl
      have c4 : w0.cell? ⟨w7.heap.size, 4, none⟩ = some (.string sc) := cell_of h1 rfl
      have c5 : w0.cell? ⟨w7.heap.size, 5, none⟩ = some (.slice aa cs.length ac) := cell_of h1 rfl
      have c6 : w0.cell? ⟨w7.heap.size, 6, none⟩ = some (.string nm) := cell_of h1 rfl
      have c7 : w0.cell? ⟨w7.heap.size, 7, none⟩ = some (.int .i64 at_) := cell_of h1 rfl
      go_simp; with_reducible rfl
    (try simp only [List.getElem_toArray]); (try simp only [List.getElem_cons_succ]); (try simp only [List.getElem_cons_zero])
    go_simp; refine hK _ ?_; clear hK K
  refine walk_one (go_yes rfl ?_ (fun K hK => ?_))
  · (try simp only [List.getElem_toArray]); (try simp only [List.getElem_cons_succ]); (try simp only [List.getElem_cons_zero])
    go_simp; done
  go_wp2_with fail
  refine Hac.out.mono ?_
  rintro e w9 ⟨rfl, hm9⟩
  refine hK _ _ (fun _ h => hm9.heap h (fun h => h)) ?_
  clear hK K
  have hm89 : Mod (fun _ => False) w8 w9 := ((Mod.refl (fun _ => False) w8).drew).trans hm9 (fun _ _ h => h)
  have hb9 := hm89.heap Hb8.out (fun h => h)
  have hown9 := Hown8.out.mod hm89 (fun _ _ h => h)
  have hr9 := Hr8.out.new hm89 (B := w.heap.size) hrl hG (fun _ h => h.elim)
  have hm09 := Hm08.out.trans (hm89.mono (by simp)) (fun _ _ h => h)
  refine walk_one (go_yes rfl ?_ (fun K hK => ?_))
  · (try simp only [List.getElem_toArray]); (try simp only [List.getElem_cons_succ]); (try simp only [List.getElem_cons_zero])
    go_simp; done
  refine wp_store_row 117 (.tmp 2) (.tmp 20) rfl w.heap.size rfl _ _ hb9 [.int .i64 k, .int .i64 te, .string wh, .int .i64 br, .string sc, .slice aa cs.length ac, .string nm, .int .i64 at_] rfl rfl (by kernel_rfl) (fun u hu => List.all_eq_true.1 rfl u hu) ?_
  obtain ⟨w10, hw10⟩ : ∃ q, w9.setRow w.heap.size ([.int .i64 k, .int .i64 te, .string wh, .int .i64 br, .string sc, .slice aa cs.length ac, .string nm, .int .i64 at_] : List Value).toArray = q := ⟨_, rfl⟩
  have hg10 : w10.heap[w.heap.size]? = some (.cells ([.int .i64 k, .int .i64 te, .string wh, .int .i64 br, .string sc, .slice aa cs.length ac, .string nm, .int .i64 at_] : List Value).toArray 117 (0, 0)) := hw10 ▸ setRow_heap w9 w.heap.size _ _ _ (0, 0) hb9
  have hm10 : Mod (fun k => k = w.heap.size) w9 w10 := hw10 ▸ (Mod.refl (fun k => k = w.heap.size) w9).setRow (fun _ => rfl) _
  rw [hw10]
  refine hK _ _ (fun h => absurd h (by decide)) ?_
  clear hK K
  refine walk_one (go_yes rfl ?_ (fun K hK => ?_))
  · (try simp only [List.getElem_toArray]); (try simp only [List.getElem_cons_succ]); (try simp only [List.getElem_cons_zero])
    go_simp; done
  go_simp
  refine hK _ _ (fun h => absurd h (by decide)) ?_
  clear hK K
  refine walk_nil ?_
  have hown10 := hown9.mod hm10 (fun b hb (e : b = w.heap.size) => by have := Hfr.out b hb; omega)
  have hr10 := hr9.new hm10 (B := w.heap.size) hrl hG (fun b hb => by omega)
  have hm010 := hm09.upon hm10 (fun b hb => .inr (by omega))
  have Hg10 := Lib.hid hg10
  have Hown10 := Lib.hid hown10
  have Hr10 := Lib.hid hr10
  have Hm010 := Lib.hid hm010
  clear hg10 hown10 hr10 hm010 hw10 hb9 hown9 hr9 hm09 hm10 hm9 hm89
  go_wp2_with fail
  refine bodyPost_ret (v := .tuple #[.agg ([.int .i64 k, .int .i64 te, .string wh, .int .i64 br, .string sc, .slice aa cs.length ac, .string nm, .int .i64 at_] : List Value).toArray, .bool p.rightB]) ?_ rfl (.inr ⟨p, t7, aa, ac, Hre.out, by rw [hp]; rfl, ?_, ?_, Hr10.out, Hm010.out⟩)
  · have hl := run_loadVar_cells (P := Tryz.prog) 117 w.heap.size 0 [.int .i64 k, .int .i64 te, .string wh, .int .i64 br, .string sc, .slice aa cs.length ac, .string nm, .int .i64 at_] (CellsAt.row Hg10.out) (by kernel_rfl) (by kernel_rfl)
    simp [results, Tryz.results107, Result.andThen, asAddr, hl]
    rw [hp]
  · rw [hp]; exact Hown10.out
  · rw [hp]; exact fun b hb => Nat.le_of_lt (Hfr.out b hb)
end Go.Proofs.YtloplmaekonenaaGreatDoor
namespace Go.Proofs.YtloplmaekonenaaGreatDoor
set_option maxRecDepth 20000
open Go.RowKit
structure Lie where
  ra : Option Addr
  rc : Nat
  ea : Option Addr
  ec : Nat
  fa : Option Addr
  fc : Nat
def opCells (o : PO) (y : Lie) : List Value :=
  [.int .i64 o.kind, .int .i64 o.ten, .string o.who] ++ (o.r.lies y.ra y.rc).cells ++ [.string o.esc, .slice y.ea o.es.length y.ec, .string o.fsc, .slice y.fa o.fs.length y.fc, .int .i64 o.sub, .int .i64 o.frm, .int .i64 o.to_]
theorem opCells_length (o : PO) (y : Lie) : (opCells o y).length = 18 := rfl
structure OpOwn (w : World) (B : Nat) (o : PO) (y : Lie) : Prop where
  r : OwnSl w 81 7 (.slice y.ra o.r.cs.length y.rc) o.r.cs.length (cnds o.r.cs)
  e : OwnSl w 90 6 (.slice y.ea o.es.length y.ec) o.es.length (atts o.es)
  f : OwnSl w 81 7 (.slice y.fa o.fs.length y.fc) o.fs.length (cnds o.fs)
  rb : ∀ b, (Value.slice y.ra o.r.cs.length y.rc).ownBlock = some b → B ≤ b
  eb : ∀ b, (Value.slice y.ea o.es.length y.ec).ownBlock = some b → B ≤ b
  fb : ∀ b, (Value.slice y.fa o.fs.length y.fc).ownBlock = some b → B ≤ b
theorem OpOwn.mod {w w' : World} {B : Nat} {F : Nat → Prop} {o : PO} {y : Lie} (h : OpOwn w B o y) (hm : Mod F w w') (hF : ∀ b, F b → b < B) : OpOwn w' B o y :=
  ⟨h.r.mod hm (fun b hb hf => by have := h.rb b hb; have := hF b hf; omega), h.e.mod hm (fun b hb hf => by have := h.eb b hb; have := hF b hf; omega), h.f.mod hm (fun b hb hf => by have := h.fb b hb; have := hF b hf; omega), h.rb, h.eb, h.fb⟩
theorem no_block (n c : Nat) : ∀ b, (Value.slice none n c).ownBlock = some b → False := fun b hb => by cases hb
def NextPost (w : World) (r G : Nat) (bs : List UInt8) (e : Ending) (w' : World) : Prop :=
  (readO bs = none ∧ e = .panicked short ∧ Mod (fun k => k = r) w w') ∨
  (∃ o ok t y, readO bs = some (o, ok, t) ∧ e = .returned (.tuple #[.agg (opCells o y).toArray, .bool ok]) ∧ OpOwn w' w.heap.size o y ∧ Rdr w' r G t ∧ Mod (fun k => k = r) w w')
end Go.Proofs.YtloplmaekonenaaGreatDoor
namespace Go.Proofs.YtloplmaekonenaaGreatDoor
set_option maxRecDepth 20000
open Go.RowKit
set_option maxRecDepth 20000 in
set_option maxHeartbeats 8000000 in
theorem next_A (w : World) (r G : Nat) (bs : List UInt8) (h : Rdr w r G bs) (hG : G < w.heap.size)
    (hK : ∀ k t, readB bs = some (k, t) → k = 4 ∨ k = 5) :
    Calls Tryz.prog 73 #[.pointer (some ⟨r, 0, none⟩)] w (NextPost w r G bs) := by
  have hrl := h.lt
  obtain ⟨wa, hwa⟩ : ∃ wa : World, w.alloc (.cells #[.int .i64 0, .int .i64 0, .string ⟨#[]⟩, .int .i64 0, .int .i64 0, .string ⟨#[]⟩, .int .i64 0, .string ⟨#[]⟩, .slice none 0 0, .string ⟨#[]⟩, .int .i64 0, .string ⟨#[]⟩, .slice none 0 0, .string ⟨#[]⟩, .slice none 0 0, .int .i64 0, .int .i64 0, .int .i64 0] 119) = wa := ⟨_, rfl⟩
  have hmwa : Mod (fun _ => False) w wa := hwa ▸ (Mod.refl (fun _ => False) w).alloc _
  have hgwa := heap_alloc_new w (.cells #[.int .i64 0, .int .i64 0, .string ⟨#[]⟩, .int .i64 0, .int .i64 0, .string ⟨#[]⟩, .int .i64 0, .string ⟨#[]⟩, .slice none 0 0, .string ⟨#[]⟩, .int .i64 0, .string ⟨#[]⟩, .slice none 0 0, .string ⟨#[]⟩, .slice none 0 0, .int .i64 0, .int .i64 0, .int .i64 0] 119)
  rw [hwa] at hgwa
  have hzwa : wa.heap.size = w.heap.size + 1 := by rw [← hwa]; simp
  have hra := h.new hmwa hrl hG (by simp)
  have hma : Mod (fun k => k = r) w wa := hmwa.mono (by simp)
  have hb1 := rd_byte2 wa r G bs hra
  have Hb1 := Lib.hid hb1
  have Hma := Lib.hid hma
  have Hgwa := Lib.hid hgwa
  have Hwa := Lib.hid hwa
  clear hb1 hma hgwa hwa h hra hmwa
  go_enter Tryz.func73, Tryz.ntmps73
  go_wp2_with fail
  rw [show w.alloc _ = wa from Hwa.out]
  refine Hb1.out.mono ?_
  rintro e w1 (⟨g1, rfl, hm⟩ | ⟨k, t1, g1, rfl, hr, hm⟩)
  · exact ⟨rfl, .inl ⟨by simp only [readO, g1, Option.bind_none], rfl, Hma.out.trans hm (fun _ _ h => h)⟩⟩
  have hm01 := Hma.out.trans hm (fun _ _ h => h)
  have hga1 := hm.heap Hgwa.out (fun e : w.heap.size = r => by omega)
  have hb := rd_byte2 w1 r G t1 hr
  have hk := (readB_back g1).2
  have H1 := Lib.hid g1
  have Hb2 := Lib.hid hb
  have Hm01 := Lib.hid hm01
  have Hga1 := Lib.hid hga1
  clear hb hm01 hr hm Hb1 g1 hga1 Hgwa Hwa Hma
  go_wp2_with fail
  refine Hb2.out.mono ?_
  rintro e w2 (⟨g2, rfl, hm⟩ | ⟨te, t2, g2, rfl, hr, hm⟩)
  · exact ⟨rfl, .inl ⟨by simp only [readO, H1.out, g2, Option.bind_some, Option.bind_none], rfl, Hm01.out.trans hm (fun _ _ h => h)⟩⟩
  have hm02 := Hm01.out.trans hm (fun _ _ h => h)
  have hga2 := hm.heap Hga1.out (fun e : w.heap.size = r => by omega)
  have hl2 : w.heap.size < w2.heap.size := (Array.getElem?_eq_some_iff.1 hga2).1
  have ht := (readB_back g2).2
  have H2 := Lib.hid g2
  clear hm Hm01 Hga1 Hb2 g2
  obtain ⟨B, hB⟩ : ∃ B, decide (te - 1 < 4) = B := ⟨_, rfl⟩
  obtain ⟨w3, hw3⟩ : ∃ w3 : World, w2.alloc (.cells #[.int .i64 k, .int .i64 (te - 1), .string ⟨#[]⟩, .int .i64 0, .int .i64 0, .string ⟨#[]⟩, .int .i64 0, .string ⟨#[]⟩, .slice none 0 0, .string ⟨#[]⟩, .int .i64 0, .string ⟨#[]⟩, .slice none 0 0, .string ⟨#[]⟩, .slice none 0 0, .int .i64 0, .int .i64 0, .int .i64 0] 119) = w3 := ⟨_, rfl⟩
  have hmw3 : Mod (fun _ => False) w2 w3 := hw3 ▸ (Mod.refl (fun _ => False) w2).alloc _
  have hgw3 := heap_alloc_new w2 (.cells #[.int .i64 k, .int .i64 (te - 1), .string ⟨#[]⟩, .int .i64 0, .int .i64 0, .string ⟨#[]⟩, .int .i64 0, .string ⟨#[]⟩, .slice none 0 0, .string ⟨#[]⟩, .int .i64 0, .string ⟨#[]⟩, .slice none 0 0, .string ⟨#[]⟩, .slice none 0 0, .int .i64 0, .int .i64 0, .int .i64 0] 119)
  rw [hw3] at hgw3
  have hzw3 : w3.heap.size = w2.heap.size + 1 := by rw [← hw3]; simp
  have hr3 := hr.new hmw3 (B := w.heap.size) hrl hG (by simp)
  have hm03 := hm02.trans (hmw3.mono (by simp)) (fun _ _ h => h)
  have hga3 := hmw3.heap hga2 (fun h => h)
  have hs3 : G < w3.heap.size := by omega
  have Hr3 := Lib.hid hr3
  have Hm03 := Lib.hid hm03
  have Hga3 := Lib.hid hga3
  have Hgw3 := Lib.hid hgw3
  have Hw3 := Lib.hid hw3
  have Hs3 := Lib.hid hs3
  clear hr3 hm03 hga3 hgw3 hw3 hs3 hga2 hm02 hr hmw3 hzw3
  have hKk := hK _ _ H1.out
  by_cases hk4 : k = 4
  · subst hk4
    have hb3 := rd_byte2 w3 r G t2 Hr3.out
    have c0 : w3.cell? ⟨w2.heap.size, 0, none⟩ = some (.int .i64 4) := cell_of Hgw3.out rfl
    have c1 : w3.cell? ⟨w2.heap.size, 1, none⟩ = some (.int .i64 (te - 1)) := cell_of Hgw3.out rfl
    have Hb3 := Lib.hid hb3
    clear hb3
    go_wp2_with (first | ((with_reducible refine wpList_store_lit 119 (.tmp 4) (.tmp 12) ?_); refine ⟨rfl, [.int .i64 4, .int .i64 (te - 1), .string ⟨#[]⟩, .int .i64 0, .int .i64 0, .string ⟨#[]⟩, .int .i64 0, .string ⟨#[]⟩, .slice none 0 0, .string ⟨#[]⟩, .int .i64 0, .string ⟨#[]⟩, .slice none 0 0, .string ⟨#[]⟩, .slice none 0 0, .int .i64 0, .int .i64 0, .int .i64 0], rfl, rfl, by kernel_rfl, rfl, ?_⟩; rw [Hw3.out]) | fail)
    clear c0 c1
    refine Hb3.out.mono ?_
    rintro e w4 (⟨g3, rfl, hm⟩ | ⟨x, t3, g3, rfl, hr, hm⟩)
    · exact ⟨rfl, .inl ⟨by simp [readO, H1.out, H2.out, g3], rfl, Hm03.out.trans hm (fun _ _ h => h)⟩⟩
    have hm04 := Hm03.out.trans hm (fun _ _ h => h)
    have hl4 : w2.heap.size < w4.heap.size := Nat.lt_of_lt_of_le (Array.getElem?_eq_some_iff.1 Hgw3.out).1 hm.size
    have hg4 := hm.heap Hgw3.out (fun e : w2.heap.size = r => by omega)
    have hga4 := hm.heap Hga3.out (fun e : w.heap.size = r => by omega)
    have H3 := Lib.hid g3
    have hb4 := rd_byte2 w4 r G t3 hr
    have Hb4 := Lib.hid hb4
    have Hm04 := Lib.hid hm04
    have Hg4 := Lib.hid hg4
    have Hga4 := Lib.hid hga4
    clear hb4 hm04 hg4 hga4 g3 hr hm Hb3 Hgw3 Hga3 Hm03 Hr3 Hw3
    go_wp2_with fail
    refine Hb4.out.mono ?_
    rintro e w5 (⟨g4, rfl, hm⟩ | ⟨y, t4, g4, rfl, hr, hm⟩)
    · exact ⟨rfl, .inl ⟨by simp [readO, H1.out, H2.out, H3.out, g4], rfl, Hm04.out.trans hm (fun _ _ h => h)⟩⟩
    have hm05 := Hm04.out.trans hm (fun _ _ h => h)
    have hg5 := hm.heap Hg4.out (fun e : w2.heap.size = r => by omega)
    have hga5 := hm.heap Hga4.out (fun e : w.heap.size = r => by omega)
    have H4 := Lib.hid g4
    have Hm05 := Lib.hid hm05
    have Hga5 := Lib.hid hga5
    have Hr := Lib.hid hr
    clear hm05 hga5 hr g4 hm Hb4 Hg4 Hga4 Hm04
    have c16 : w5.cell? ⟨w2.heap.size, 16, none⟩ = some (.int .i64 0) := cell_of hg5 rfl
    have z16 : w5.frozen? ⟨w2.heap.size, 16, none⟩ = false := fr_of hg5
    have c17 : w5.cell? ⟨w2.heap.size, 17, none⟩ = some (.int .i64 0) := cell_of hg5 rfl
    have z17 : w5.frozen? ⟨w2.heap.size, 17, none⟩ = false := fr_of hg5
    obtain ⟨w6, hw6⟩ : ∃ q, (w5.setCell ⟨w2.heap.size, 16, none⟩ (.int .i64 x)).setCell ⟨w2.heap.size, 17, none⟩ (.int .i64 y) = q := ⟨_, rfl⟩
    have hg6 : w6.heap[w2.heap.size]? = some (.cells ([.int .i64 4, .int .i64 (te - 1), .string ⟨#[]⟩, .int .i64 0, .int .i64 0, .string ⟨#[]⟩, .int .i64 0, .string ⟨#[]⟩, .slice none 0 0, .string ⟨#[]⟩, .int .i64 0, .string ⟨#[]⟩, .slice none 0 0, .string ⟨#[]⟩, .slice none 0 0, .int .i64 0, .int .i64 x, .int .i64 y] : List Value).toArray 119 (0, 0)) := hw6 ▸ heap_set (heap_set hg5)
    have hm56 : Mod (fun k => k = w2.heap.size) w5 w6 := hw6 ▸ (((Mod.refl (fun k => k = w2.heap.size) w5).setCell (fun _ => rfl) _).setCell (fun _ => rfl) _)
    have hga6 := hm56.heap Hga5.out (fun e : w.heap.size = w2.heap.size => by omega)
    have Hw6 := Lib.hid hw6
    have Hg6 := Lib.hid hg6
    have Hm56 := Lib.hid hm56
    have Hga6 := Lib.hid hga6
    clear hw6 hg6 hm56 hga6 hg5 Hga5
    go_wp2_with (first | (rw [show World.setCell _ _ _ = w6 from Hw6.out]) | ((with_reducible refine wpList_load_lit 119 (.tmp 4) ?_); refine ⟨w2.heap.size, 0, rfl, [.int .i64 4, .int .i64 (te - 1), .string ⟨#[]⟩, .int .i64 0, .int .i64 0, .string ⟨#[]⟩, .int .i64 0, .string ⟨#[]⟩, .slice none 0 0, .string ⟨#[]⟩, .int .i64 0, .string ⟨#[]⟩, .slice none 0 0, .string ⟨#[]⟩, .slice none 0 0, .int .i64 0, .int .i64 x, .int .i64 y], CellsAt.row Hg6.out, by kernel_rfl, by kernel_rfl, ?_⟩) | ((with_reducible refine wpList_store_row_lit 119 (.tmp 2) (.tmp 66) ?_); refine ⟨w.heap.size, rfl, _, _, Hga6.out, [.int .i64 4, .int .i64 (te - 1), .string ⟨#[]⟩, .int .i64 0, .int .i64 0, .string ⟨#[]⟩, .int .i64 0, .string ⟨#[]⟩, .slice none 0 0, .string ⟨#[]⟩, .int .i64 0, .string ⟨#[]⟩, .slice none 0 0, .string ⟨#[]⟩, .slice none 0 0, .int .i64 0, .int .i64 x, .int .i64 y], rfl, rfl, by kernel_rfl, rfl, ?_⟩; intro w7 hg7 hm7; have Hg7 := Lib.hid hg7; have Hm7 := Lib.hid hm7; clear hg7 hm7) | fail)
    have hm67 := Hm7.out
    have hr7 := (Hr.out.new Hm56.out (B := w.heap.size) hrl hG (fun b hb => by omega)).new hm67 (B := w.heap.size) hrl hG (fun b hb => by omega)
    have hm07 := (Hm05.out.upon Hm56.out (fun b hb => .inr (by omega))).upon hm67 (fun b hb => .inr (by omega))
    refine bodyPost_ret (v := .tuple #[.agg ([.int .i64 4, .int .i64 (te - 1), .string ⟨#[]⟩, .int .i64 0, .int .i64 0, .string ⟨#[]⟩, .int .i64 0, .string ⟨#[]⟩, .slice none 0 0, .string ⟨#[]⟩, .int .i64 0, .string ⟨#[]⟩, .slice none 0 0, .string ⟨#[]⟩, .slice none 0 0, .int .i64 0, .int .i64 x, .int .i64 y] : List Value).toArray, .bool B]) ?_ rfl (.inr ⟨{ PO.mk0 4 (te - 1) with frm := x, to_ := y }, B, _, ⟨none, 0, none, 0, none, 0⟩, ?_, rfl, ?_, hr7, hm07⟩)
    · have hl := run_loadVar_cells (P := Tryz.prog) 119 w.heap.size 0 [.int .i64 4, .int .i64 (te - 1), .string ⟨#[]⟩, .int .i64 0, .int .i64 0, .string ⟨#[]⟩, .int .i64 0, .string ⟨#[]⟩, .slice none 0 0, .string ⟨#[]⟩, .int .i64 0, .string ⟨#[]⟩, .slice none 0 0, .string ⟨#[]⟩, .slice none 0 0, .int .i64 0, .int .i64 x, .int .i64 y] (CellsAt.row Hg7.out) (by kernel_rfl) (by kernel_rfl)
      simp [results, Tryz.results73, Result.andThen, asAddr, hl]
    · simp [readO, H1.out, H2.out, H3.out, H4.out, PO.mk0, hB]
    · exact ⟨OwnSl.nil _ _ _, OwnSl.nil _ _ _, OwnSl.nil _ _ _, fun b hb => (no_block _ _ b hb).elim, fun b hb => (no_block _ _ b hb).elim, fun b hb => (no_block _ _ b hb).elim⟩
  by_cases hk5 : k = 5
  · subst hk5
    have hb3 := rd_byte2 w3 r G t2 Hr3.out
    have c0 : w3.cell? ⟨w2.heap.size, 0, none⟩ = some (.int .i64 5) := cell_of Hgw3.out rfl
    have c1 : w3.cell? ⟨w2.heap.size, 1, none⟩ = some (.int .i64 (te - 1)) := cell_of Hgw3.out rfl
    have Hb3 := Lib.hid hb3
    clear hb3
    go_wp2_with (first | ((with_reducible refine wpList_store_lit 119 (.tmp 4) (.tmp 12) ?_); refine ⟨rfl, [.int .i64 5, .int .i64 (te - 1), .string ⟨#[]⟩, .int .i64 0, .int .i64 0, .string ⟨#[]⟩, .int .i64 0, .string ⟨#[]⟩, .slice none 0 0, .string ⟨#[]⟩, .int .i64 0, .string ⟨#[]⟩, .slice none 0 0, .string ⟨#[]⟩, .slice none 0 0, .int .i64 0, .int .i64 0, .int .i64 0], rfl, rfl, by kernel_rfl, rfl, ?_⟩; rw [Hw3.out]) | fail)
    clear c0 c1
    refine Hb3.out.mono ?_
    rintro e w4 (⟨g3, rfl, hm⟩ | ⟨x, t3, g3, rfl, hr, hm⟩)
    · exact ⟨rfl, .inl ⟨by simp [readO, H1.out, H2.out, g3], rfl, Hm03.out.trans hm (fun _ _ h => h)⟩⟩
    have hm04 := Hm03.out.trans hm (fun _ _ h => h)
    have hl4 : w2.heap.size < w4.heap.size := Nat.lt_of_lt_of_le (Array.getElem?_eq_some_iff.1 Hgw3.out).1 hm.size
    have hg4 := hm.heap Hgw3.out (fun e : w2.heap.size = r => by omega)
    have hga4 := hm.heap Hga3.out (fun e : w.heap.size = r => by omega)
    have H3 := Lib.hid g3
    have hb4 := rd_byte2 w4 r G t3 hr
    have Hb4 := Lib.hid hb4
    have Hm04 := Lib.hid hm04
    have Hg4 := Lib.hid hg4
    have Hga4 := Lib.hid hga4
    clear hb4 hm04 hg4 hga4 g3 hr hm Hb3 Hgw3 Hga3 Hm03 Hr3 Hw3
    go_wp2_with fail
    refine Hb4.out.mono ?_
    rintro e w5 (⟨g4, rfl, hm⟩ | ⟨y, t4, g4, rfl, hr, hm⟩)
    · exact ⟨rfl, .inl ⟨by simp [readO, H1.out, H2.out, H3.out, g4], rfl, Hm04.out.trans hm (fun _ _ h => h)⟩⟩
    have hm05 := Hm04.out.trans hm (fun _ _ h => h)
    have hg5 := hm.heap Hg4.out (fun e : w2.heap.size = r => by omega)
    have hga5 := hm.heap Hga4.out (fun e : w.heap.size = r => by omega)
    have H4 := Lib.hid g4
    have Hm05 := Lib.hid hm05
    have Hga5 := Lib.hid hga5
    have Hr := Lib.hid hr
    clear hm05 hga5 hr g4 hm Hb4 Hg4 Hga4 Hm04
    have c16 : w5.cell? ⟨w2.heap.size, 16, none⟩ = some (.int .i64 0) := cell_of hg5 rfl
    have z16 : w5.frozen? ⟨w2.heap.size, 16, none⟩ = false := fr_of hg5
    have c17 : w5.cell? ⟨w2.heap.size, 17, none⟩ = some (.int .i64 0) := cell_of hg5 rfl
    have z17 : w5.frozen? ⟨w2.heap.size, 17, none⟩ = false := fr_of hg5
    obtain ⟨w6, hw6⟩ : ∃ q, (w5.setCell ⟨w2.heap.size, 16, none⟩ (.int .i64 x)).setCell ⟨w2.heap.size, 17, none⟩ (.int .i64 y) = q := ⟨_, rfl⟩
    have hg6 : w6.heap[w2.heap.size]? = some (.cells ([.int .i64 5, .int .i64 (te - 1), .string ⟨#[]⟩, .int .i64 0, .int .i64 0, .string ⟨#[]⟩, .int .i64 0, .string ⟨#[]⟩, .slice none 0 0, .string ⟨#[]⟩, .int .i64 0, .string ⟨#[]⟩, .slice none 0 0, .string ⟨#[]⟩, .slice none 0 0, .int .i64 0, .int .i64 x, .int .i64 y] : List Value).toArray 119 (0, 0)) := hw6 ▸ heap_set (heap_set hg5)
    have hm56 : Mod (fun k => k = w2.heap.size) w5 w6 := hw6 ▸ (((Mod.refl (fun k => k = w2.heap.size) w5).setCell (fun _ => rfl) _).setCell (fun _ => rfl) _)
    have hga6 := hm56.heap Hga5.out (fun e : w.heap.size = w2.heap.size => by omega)
    have Hw6 := Lib.hid hw6
    have Hg6 := Lib.hid hg6
    have Hm56 := Lib.hid hm56
    have Hga6 := Lib.hid hga6
    clear hw6 hg6 hm56 hga6 hg5 Hga5
    go_wp2_with (first | (rw [show World.setCell _ _ _ = w6 from Hw6.out]) | ((with_reducible refine wpList_load_lit 119 (.tmp 4) ?_); refine ⟨w2.heap.size, 0, rfl, [.int .i64 5, .int .i64 (te - 1), .string ⟨#[]⟩, .int .i64 0, .int .i64 0, .string ⟨#[]⟩, .int .i64 0, .string ⟨#[]⟩, .slice none 0 0, .string ⟨#[]⟩, .int .i64 0, .string ⟨#[]⟩, .slice none 0 0, .string ⟨#[]⟩, .slice none 0 0, .int .i64 0, .int .i64 x, .int .i64 y], CellsAt.row Hg6.out, by kernel_rfl, by kernel_rfl, ?_⟩) | ((with_reducible refine wpList_store_row_lit 119 (.tmp 2) (.tmp 66) ?_); refine ⟨w.heap.size, rfl, _, _, Hga6.out, [.int .i64 5, .int .i64 (te - 1), .string ⟨#[]⟩, .int .i64 0, .int .i64 0, .string ⟨#[]⟩, .int .i64 0, .string ⟨#[]⟩, .slice none 0 0, .string ⟨#[]⟩, .int .i64 0, .string ⟨#[]⟩, .slice none 0 0, .string ⟨#[]⟩, .slice none 0 0, .int .i64 0, .int .i64 x, .int .i64 y], rfl, rfl, by kernel_rfl, rfl, ?_⟩; intro w7 hg7 hm7; have Hg7 := Lib.hid hg7; have Hm7 := Lib.hid hm7; clear hg7 hm7) | fail)
    have hm67 := Hm7.out
    have hr7 := (Hr.out.new Hm56.out (B := w.heap.size) hrl hG (fun b hb => by omega)).new hm67 (B := w.heap.size) hrl hG (fun b hb => by omega)
    have hm07 := (Hm05.out.upon Hm56.out (fun b hb => .inr (by omega))).upon hm67 (fun b hb => .inr (by omega))
    refine bodyPost_ret (v := .tuple #[.agg ([.int .i64 5, .int .i64 (te - 1), .string ⟨#[]⟩, .int .i64 0, .int .i64 0, .string ⟨#[]⟩, .int .i64 0, .string ⟨#[]⟩, .slice none 0 0, .string ⟨#[]⟩, .int .i64 0, .string ⟨#[]⟩, .slice none 0 0, .string ⟨#[]⟩, .slice none 0 0, .int .i64 0, .int .i64 x, .int .i64 y] : List Value).toArray, .bool B]) ?_ rfl (.inr ⟨{ PO.mk0 5 (te - 1) with frm := x, to_ := y }, B, _, ⟨none, 0, none, 0, none, 0⟩, ?_, rfl, ?_, hr7, hm07⟩)
    · have hl := run_loadVar_cells (P := Tryz.prog) 119 w.heap.size 0 [.int .i64 5, .int .i64 (te - 1), .string ⟨#[]⟩, .int .i64 0, .int .i64 0, .string ⟨#[]⟩, .int .i64 0, .string ⟨#[]⟩, .slice none 0 0, .string ⟨#[]⟩, .int .i64 0, .string ⟨#[]⟩, .slice none 0 0, .string ⟨#[]⟩, .slice none 0 0, .int .i64 0, .int .i64 x, .int .i64 y] (CellsAt.row Hg7.out) (by kernel_rfl) (by kernel_rfl)
      simp [results, Tryz.results73, Result.andThen, asAddr, hl]
    · simp [readO, H1.out, H2.out, H3.out, H4.out, PO.mk0, hB]
    · exact ⟨OwnSl.nil _ _ _, OwnSl.nil _ _ _, OwnSl.nil _ _ _, fun b hb => (no_block _ _ b hb).elim, fun b hb => (no_block _ _ b hb).elim, fun b hb => (no_block _ _ b hb).elim⟩
  exact absurd hKk (by omega)
end Go.Proofs.YtloplmaekonenaaGreatDoor
