/-
  Package event: Right.
  DERIVED: THE SHELF's CONTRACTS AT THIS DUMP, IN PLAIN WORDS (tools/lay-plain.mjs out of 'TryzShelf.lean', which tools/lay-shelf.mjs wrote): THE SAME DECLARATIONS UNDER THE SAME NAMES: 'import', 'namespace', 'open', 'def', 'theorem' AND NOTHING ELSE: no command of the shelf's: FOR A HAND-IN. Each laying: the table of numbers ('.._ren') and one theorem, a field a fact of the dump's own or the kernel's comparison; each contract: ONE APPLICATION.
-/
import Derived.Test.YtloplmaekonenaaGreatDoorZg2
import Derived.Deep.QuietTactic
import Derived.BigQuiet
import Derived.Laws.Cover1
import Derived.Shelf.Small.Utf8
import Derived.Shelf.Small.Bits
import Derived.Shelf.Small.Strs
import Derived.Shelf.Small.Wraps
import Derived.Shelf.Utf8.AppendRune
import Derived.Shelf.Strconv.Bsearch
import Derived.Shelf.Strconv.IsPrint
import Derived.Shelf.Strconv.IsPrint16
import Derived.Shelf.Strconv.IsPrint32
import Derived.Shelf.Strconv.Escaped
import Derived.Shelf.Strconv.Quoted
import Derived.Shelf.Strconv.Quote
import Derived.Shelf.Strconv.Itoa0
import Derived.Shelf.Strconv.Itoa1
import Derived.Shelf.LaysM
import Derived.Shelf.Strconv.Itoa2
import Derived.Shelf.Strconv.Itoa3
import Derived.Shelf.Strconv.Itoa4
import Derived.Shelf.Strings.Search1
import Derived.Shelf.Strings.Search2
import Derived.Shelf.Strings.Cut
import Derived.Shelf.Strings.Shaped
import Derived.Shelf.Sort.Plain
import Derived.Shelf.Strings.Prefix
import Derived.Shelf.Strings.Runes
import Derived.Shelf.Strings.IndexAny
import Derived.Shelf.Strings.AsciiSet
import Derived.Shelf.Strings.IndexAnyAll
import Derived.Shelf.Bits.Mul64
import Derived.Shelf.Unicode.DecodeSlow
import Derived.Shelf.Unicode.DecodeAny
import Derived.Ground.Names2Prog
import Derived.Shelf.Slices.SearchI
import Derived.Shelf.Slices.In.SortNone
import Derived.Test.YtloplmaekonenaaGreatDoorProg
namespace Go.Proofs.YtloplmaekonenaaGreatDoor
set_option maxRecDepth 20000
open Go.RowKit

/-- An attribute. -/
structure Att where
  name : ByteArray
  v : V
def Att.cells (a : Att) : List Value := .string a.name :: a.v.cells
theorem Att.cells_length (a : Att) : a.cells.length = 6 := rfl
def atts (l : List Att) : List Value := l.flatMap Att.cells

theorem atts_at (l : List Att) {k j : Nat} {a : Att} {u : Value} (h : l[k]? = some a) (hj : a.cells[j]? = some u) : (atts l)[6 * k + j]? = some u := by
  induction l generalizing k with
  | nil => simp at h
  | cons b l ih =>
    unfold atts at ih ⊢
    rw [List.flatMap_cons]
    cases k with
    | zero =>
      simp only [List.getElem?_cons_zero, Option.some.injEq] at h
      subst h
      have := (List.getElem?_eq_some_iff.1 hj).1
      rw [List.getElem?_append_left (by omega), Nat.mul_zero, Nat.zero_add, hj]
    | succ k =>
      rw [List.getElem?_cons_succ] at h
      rw [List.getElem?_append_right (by rw [Att.cells_length]; omega), Att.cells_length, show 6 * (k + 1) + j - 6 = 6 * k + j by omega]
      exact ih h

section
variable {P : Program} {a : Act} {w : World} {C : World → Prop}
/-- Behind a structure, so that nothing unfolds it. -/
structure QW (P : Program) (ops : Array Oper) (C : World → Prop) (Q : Act → Prop) (l : List Oper) (a : Act) : Prop where
  out : wpQuiet P ops C Q l a

/-- A region that draws its order, whose operations read old blocks and make new ones. -/
theorem wp_region_news {id : Nat} {Q : Exit → Act → World → Prop} {l : List Oper} (hm : P.follows .mixedOrders = true) (hB : Region.lexB .any l.toArray = true)
    (h : QW P l.toArray (fun w' => Mod (fun _ => False) w w') (fun a' => ∀ w', Mod (fun _ => False) w w' → Q .normal a' w') l a) : (Code.region id l.toArray true).wp P Q a w :=
  wp_region_quiet (C := fun w' => Mod (fun _ => False) w w') hm hB ((Mod.refl _ w).drew) (by simpa using h.out)

theorem quiet_val {o : Oper} {K : Act → Prop} (u : Value) (h : ∀ w, C w → (execOp a.eval o).run P w = .ok (.value u) w) (hk : K (a.put o.dst u)) : o.quiet P a C K :=
  ⟨u, fun w hw => by unfold Oper.quietAt; rw [h w hw]; exact ⟨rfl, rfl⟩, hk⟩
theorem quiet_call {o : Oper} {K : Act → Prop} {f : FuncId} {args : Array Value} (u : Value) (h : ∀ w, C w → (execOp a.eval o).run P w = .ok (.enter f args) w) (hc : ∀ w, C w → Calls P f args w fun e w'' => e = .returned u ∧ C w'')
    (hk : K (a.put o.dst u)) : o.quiet P a C K :=
  ⟨u, fun w hw => by unfold Oper.quietAt; rw [h w hw]; exact ⟨rfl, hc w hw⟩, hk⟩
theorem quiet_yes {ops : Array Oper} {rest : List Oper} {o : Oper} {Q : Act → Prop} (hg : Region.wanted o (yielded ops a.tmps) = true) (h : o.quiet P a C (wpQuiet P ops C Q rest)) : QW P ops C Q (o :: rest) a := by
  constructor; unfold wpQuiet; rw [if_pos hg]; exact h
theorem quiet_no {ops : Array Oper} {rest : List Oper} {o : Oper} {Q : Act → Prop} (hg : Region.wanted o (yielded ops a.tmps) = false) (h : wpQuiet P ops C Q rest (a.put o.dst undef)) : QW P ops C Q (o :: rest) a := by
  constructor; unfold wpQuiet; rw [if_neg (by rw [hg]; decide)]; exact h
theorem quiet_skip {ops : Array Oper} {rest : List Oper} {o : Oper} {Q : Act → Prop} (hg : Region.wanted o (yielded ops a.tmps) = false) (h : ∀ K : Act → Prop, (∀ a, QW P ops C Q rest a → K a) → K (a.put o.dst undef)) : QW P ops C Q (o :: rest) a :=
  quiet_no hg (h _ fun _ h => h.out)
theorem quiet_do {ops : Array Oper} {rest : List Oper} {o : Oper} {Q : Act → Prop} (hg : Region.wanted o (yielded ops a.tmps) = true) (u : Value) (hr : ∀ w, C w → (execOp a.eval o).run P w = .ok (.value u) w)
    (h : ∀ K : Act → Prop, (∀ a, QW P ops C Q rest a → K a) → K (a.put o.dst u)) : QW P ops C Q (o :: rest) a :=
  quiet_yes hg (quiet_val u hr (h _ fun _ h => h.out))
theorem quiet_in {ops : Array Oper} {rest : List Oper} {o : Oper} {Q : Act → Prop} (hg : Region.wanted o (yielded ops a.tmps) = true) (f : FuncId) (args : Array Value) (u : Value) (hr : ∀ w, C w → (execOp a.eval o).run P w = .ok (.enter f args) w)
    (hc : ∀ w, C w → Calls P f args w fun e w'' => e = .returned u ∧ C w'') (h : ∀ K : Act → Prop, (∀ a, QW P ops C Q rest a → K a) → K (a.put o.dst u)) : QW P ops C Q (o :: rest) a :=
  quiet_yes hg (quiet_call u hr hc (h _ fun _ h => h.out))
theorem quiet_end {ops : Array Oper} {Q : Act → Prop} (h : Q a) : QW P ops C Q [] a := ⟨h⟩
end

/-- May attribute number k be, as it stands? -/
def okAt (l : List Att) (k : Nat) : Bool :=
  match l[k]? with
  | none => true
  | some a => isName a.name && a.v.right && (match k with | 0 => true | k + 1 => match l[k]? with | none => true | some b => Op.bytesLess b.name.toList a.name.toList) && a.v.kept
def evRight (l : List Att) : Bool := (List.range l.length).all (okAt l) && decide (l.length ≤ 8)

theorem okAt_is {l : List Att} {k : Nat} {x q : Att} (h : l[k]? = some x) (hq : l[k - 1]? = some q) : okAt l k = (isName x.name && x.v.right && (decide (k = 0) || Op.bytesLess q.name.toList x.name.toList) && x.v.kept) := by
  unfold okAt
  rw [h]
  cases k with
  | zero => rfl
  | succ k =>
    rw [Nat.add_sub_cancel] at hq
    simp only [hq]
    rw [decide_eq_false (by omega), Bool.false_or]
theorem evRight_no {l : List Att} {k : Nat} (hk : k < l.length) (h : okAt l k = false) : evRight l = false := by
  unfold evRight
  rw [List.all_eq_false.2 ⟨k, List.mem_range.2 hk, by rw [h]; decide⟩, Bool.false_and]
theorem evRight_all {l : List Att} (h : ∀ j, j < l.length → okAt l j = true) : evRight l = decide (l.length ≤ 8) := by
  unfold evRight
  rw [List.all_eq_true.2 fun j hj => h j (List.mem_range.1 hj), Bool.true_and]
theorem okcases {p : Prop} (n r z l k : Bool) (h1 : n = false → p) (h2 : n = true → r = false → p) (h3 : n = true → r = true → z = true → k = false → p) (h4 : n = true → r = true → z = true → k = true → p)
    (h5 : n = true → r = true → z = false → l = false → p) (h6 : n = true → r = true → z = false → l = true → k = false → p) (h7 : n = true → r = true → z = false → l = true → k = true → p) : p := by
  cases n
  · exact h1 rfl
  cases r
  · exact h2 rfl rfl
  cases z
  · cases l
    · exact h5 rfl rfl rfl rfl
    cases k
    · exact h6 rfl rfl rfl rfl rfl
    · exact h7 rfl rfl rfl rfl rfl
  · cases k
    · exact h3 rfl rfl rfl rfl
    · exact h4 rfl rfl rfl rfl

theorem val_struct : (match Tryz.prog.underlying 79 with | some (.struct _) => true | some (.array _ _) => true | _ => false) = true := by kernel_rfl
theorem val_size : (Tryz.prog.info? 79).map (·.size) = some 5 := by kernel_rfl
set_option maxRecDepth 20000 in
@[go_sem ↓] theorem run_load_val {ρ : Operand → Value} {dst : Option Tmp} {x : Operand} {type : TypeId} {pos : String} {after : Array Edge} {guard : Option (Nat × Bool)} {w : World} (h : AllV w (ρ x) 5) :
    Sem.run Tryz.prog (execOp ρ ⟨dst, .load 79 x, type, pos, after, guard⟩) w = .ok (.value (.agg (cellsV w (ρ x) 5))) w := run_load_all val_struct val_size h

set_option maxHeartbeats 4000000 in
set_option maxRecDepth 20000 in
theorem right_at (sc : ByteArray) (av : Value) (l : List Att) (w : World) (h : RdSl w 6 av l.length (atts l)) (hl : l.length ≤ 100000) (hsz : ∀ x ∈ l, x.name.size ≤ 9223372036854775807) :
    Calls Tryz.prog 45 #[.agg #[.string sc, av]] w fun e w' => e = .returned (.bool (evRight l)) ∧ Mod (fun _ => False) w w' := by
  have h0 := h
  obtain ⟨h1, a, cap, rfl, h2, h3, h4⟩ := h
  have hl' : (l.length : Int) ≤ 100000 := by omega
  obtain ⟨R, hR⟩ : ∃ R, evRight l = R := ⟨_, rfl⟩
  rw [hR]
  have HR := Lib.hid hR
  have H0 := Lib.hid h0
  have H4 := Lib.hid h4
  have H1 := Lib.hid h1
  have H3 := Lib.hid h3
  have Hsz := Lib.hid hsz
  clear h0 h4 h1 hl hR h3 hsz
  go_enter Tryz.func45, Tryz.ntmps45
  go_wp2_with fail
  go_loopw [8] (fun i wr => ∃ k : Nat, k ≤ l.length ∧ i = .int .i64 k ∧ Mod (fun _ => False) (w.alloc (.cells #[.string sc, .slice a l.length cap] 32)) wr ∧ (∀ j, j < k → okAt l j = true)) (fun i _ => l.length - (intOf i).toNat)
  case atStart => exact ⟨0, Nat.zero_le _, rfl, Mod.refl _ _, fun j hj => by omega⟩
  case round =>
    obtain ⟨k, hk, rfl, hm, hall⟩ := hrel
    have hbox := hm.heap (heap_alloc_new w _) (by simp)
    have hm0 : Mod (fun _ => False) w wr := ((Mod.refl (fun _ => False) w).alloc _).trans hm (fun _ _ h => h)
    have Hbox := Lib.hid hbox
    have Hm0 := Lib.hid hm0
    have Hall := Lib.hid hall
    have Hm := Lib.hid hm
    clear hbox hm0 hall hm
    by_cases hlt : k < l.length
    · have hlt' : (k : Int) < l.length := by omega
      obtain ⟨x, hx⟩ : ∃ x, l[k]? = some x := ⟨_, List.getElem?_eq_getElem hlt⟩
      obtain ⟨b, hab⟩ : ∃ b, a = some b := by
        cases a with
        | none => have := H3.out rfl; omega
        | some b => exact ⟨b, rfl⟩
      obtain ⟨p, off, rfl, hc⟩ := H4.out b hab (by omega)
      subst hab
      have hxs : CellsAt wr p (off + k * 6) x.cells := by
        intro j u hu
        have := Hm0.out.cell (hc (6 * k + j) u (atts_at l hx hu)) (by simp)
        rw [show off + k * 6 + j = off + (6 * k + j) by omega]
        exact this
      have c0 : wr.cell? ⟨p, off + k * 6, none⟩ = some (.string x.name) := hxs 0 _ rfl
      have c1 : wr.cell? ⟨p, off + k * 6 + 1, none⟩ = some (.int .i64 x.v.kind) := hxs 1 _ rfl
      have c2 : wr.cell? ⟨p, off + k * 6 + 2, none⟩ = some (.int .i64 x.v.int) := hxs 2 _ rfl
      have c3 : wr.cell? ⟨p, off + k * 6 + 3, none⟩ = some (.float .f64 x.v.num) := hxs 3 _ rfl
      have c4 : wr.cell? ⟨p, off + k * 6 + 4, none⟩ = some (.string x.v.text) := hxs 4 _ rfl
      have c5 : wr.cell? ⟨p, off + k * 6 + 5, none⟩ = some (.bool x.v.yes) := hxs 5 _ rfl
      have Hxs := Lib.hid hxs
      have Hc := Lib.hid hc
      have Hx := Lib.hid hx
      clear hxs hc hx H3 H4
      go_wp2_with (first | (refine wpList_store_new rfl 90 (.tmp 4) (.tmp 12) rfl rfl _ 90 x.cells rfl rfl (by kernel_rfl) (fun u hu => List.all_eq_true.1 (show x.cells.all (·.oneCell') = true from rfl) u hu) ?_) | fail)
      have hW := heap_alloc_new wr (.cells x.cells.toArray 90)
      obtain ⟨q, hq⟩ : ∃ q, l[k - 1]? = some q := ⟨_, List.getElem?_eq_getElem (by omega)⟩
      have hcq : wr.cell? ⟨p, off + (k - 1) * 6, none⟩ = some (.string q.name) := by
        have := Hm0.out.cell (Hc.out (6 * (k - 1) + 0) (.string q.name) (atts_at l hq rfl)) (by simp)
        rw [show off + (k - 1) * 6 = off + (6 * (k - 1) + 0) by omega]
        exact this
      have hf : ∀ w', Mod (fun _ => False) (wr.alloc (.cells x.cells.toArray 90)) w' → w'.cell? ⟨wr.heap.size, 0, none⟩ = some (.string x.name) ∧ AllCells w' wr.heap.size 1 5 ∧ cellsOf w' wr.heap.size 1 5 = x.v.cells.toArray ∧ w'.cell? ⟨w.heap.size, 1, none⟩ = some (.slice (some ⟨p, off, none⟩) l.length cap) ∧ w'.cell? ⟨p, off + (k - 1) * 6, none⟩ = some (.string q.name) := by
        intro w' hw'
        have h1 := hw'.heap hW (by simp)
        have h2 : CellsAt w' wr.heap.size 1 x.v.cells := fun j u hu => by have := CellsAt.row h1 (j + 1) u (by simpa [Att.cells] using hu); rw [show 1 + j = 0 + (j + 1) by omega]; exact this
        have hmq : Mod (fun _ => False) wr w' := ((Mod.refl (fun _ => False) wr).alloc _).trans hw' (fun _ _ h => h)
        exact ⟨cell_of h1 rfl, h2.all rfl, h2.is rfl, cell_of (hw'.heap (heap_old Hbox.out) (by simp)) rfl, hmq.cell hcq (by simp)⟩
      have Hf := Lib.hid hf
      have hname : ∀ w', Mod (fun _ => False) (wr.alloc (.cells x.cells.toArray 90)) w' → Calls Tryz.prog 76 #[.string x.name] w' fun e w'' => e = .returned (.bool (isName x.name)) ∧ Mod (fun _ => False) (wr.alloc (.cells x.cells.toArray 90)) w'' :=
        fun w' hw' => (name_at x.name (Hsz.out x (List.mem_of_getElem? Hx.out)) w').mono fun e w'' h => ⟨h.1, h.2 ▸ hw'⟩
      have hrg : ∀ w', Mod (fun _ => False) (wr.alloc (.cells x.cells.toArray 90)) w' → Calls Tryz.prog 80 #[.agg x.v.cells.toArray] w' fun e w'' => e = .returned (.bool x.v.right) ∧ Mod (fun _ => False) (wr.alloc (.cells x.cells.toArray 90)) w'' :=
        fun w' hw' => (value_right x.v w').mono fun e w'' h => ⟨h.1, hw'.trans h.2 (fun _ _ h => h)⟩
      have hkp : ∀ w', Mod (fun _ => False) (wr.alloc (.cells x.cells.toArray 90)) w' → Calls Tryz.prog 81 #[.agg x.v.cells.toArray] w' fun e w'' => e = .returned (.bool x.v.kept) ∧ Mod (fun _ => False) (wr.alloc (.cells x.cells.toArray 90)) w'' :=
        fun w' hw' => (kept_at x.v w').mono fun e w'' h => ⟨h.1, hw'.trans h.2 (fun _ _ h => h)⟩
      have Hname := Lib.hid hname
      have Hrg := Lib.hid hrg
      have Hkp := Lib.hid hkp
      have hok := okAt_is Hx.out hq
      have Hok := Lib.hid hok
      have hM := Hm.out.alloc (.cells x.cells.toArray 90)
      have HM := Lib.hid hM
      clear hM
      clear hf hW hname hrg hkp hq hcq hok c0 c1 c2 c3 c4 c5
      refine okcases (isName x.name) x.v.right (decide (k = 0)) (Op.bytesLess q.name.toList x.name.toList) x.v.kept (fun hn => ?_) (fun hn hr => ?_) (fun hn hr hz hkt => ?_) (fun hn hr hz hkt => ?_) (fun hn hr hz hls => ?_) (fun hn hr hz hls hkt => ?_) (fun hn hr hz hls hkt => ?_)
      all_goals try rw [hn] at Hname Hok
      all_goals try rw [hr] at Hrg Hok
      all_goals try rw [hkt] at Hkp Hok
      all_goals try rw [hz] at Hok
      all_goals try rw [hls] at Hok
      all_goals try simp only [decide_eq_true_eq, decide_eq_false_iff_not] at hz
      all_goals clear Hx Hxs Hc Hsz
      all_goals try (obtain rfl := hz)
      all_goals try (
        rcases Nat.eq_zero_or_pos k with hk0 | hk0
        · exfalso; omega
        obtain ⟨m, hmk⟩ : ∃ m, k = m + 1 := ⟨k - 1, by omega⟩
        subst hmk
        have hmw : IntKind.i64.wrap (m : Int) = m := by rw [IntKind.wrap_i64]; omega
        have hml : (m : Int) < l.length := by omega)
      all_goals try rw [Nat.add_sub_cancel] at Hf
      all_goals refine wp_region_news (by kernel_rfl) (by kernel_rfl) ?_
      all_goals
        iterate 32 (first
          | (refine quiet_skip ?_ (fun K hK => ?_)
             · first | (go_simp; done) | (go_simp; simp [undef]; done)
             go_simp; refine hK _ ?_; clear hK K)
          | (refine quiet_do ?_ ?_ (fun w' hw' => ?_) (fun K hK => ?_)
             · first | (go_simp; done) | (go_simp; simp [undef]; done)
             rotate_left
             · obtain ⟨f1, f2, f3, f4, f5⟩ := Hf.out w' hw'
               go_simp
               rfl
             go_simp; refine hK _ ?_; clear hK K)
          | (refine quiet_in ?_ ?_ ?_ ?_ (fun w' hw' => ?_) ?_ (fun K hK => ?_)
             · first | (go_simp; done) | (go_simp; simp [undef]; done)
             rotate_left 3
             · obtain ⟨f1, f2, f3, f4, f5⟩ := Hf.out w' hw'
               go_simp
               constructor <;> rfl
             · first | exact Hname.out | exact Hrg.out | exact Hkp.out
             go_simp; refine hK _ ?_; clear hK K))
      all_goals refine quiet_end (fun w' hw' => ?_)
      all_goals have hM2 := HM.out.trans hw' (fun _ _ h => h)
      all_goals have hM0 := ((Mod.refl (fun _ => False) w).alloc _).trans hM2 (fun _ _ h => h)
      all_goals have HM2 := Lib.hid hM2
      all_goals have HM0 := Lib.hid hM0
      all_goals have Hok' := Lib.hid Hok.out
      all_goals clear hM2 hM0 hw' Hok
      all_goals go_wp2
      all_goals first
        | (go_ret
           exact ⟨congrArg (fun b => Ending.returned (.bool b)) ((evRight_no (by omega) Hok'.out).symm.trans HR.out), HM0.out⟩)
        | (go_roundw
           case rel =>
             refine ⟨_, hlt, by go_num, HM2.out, fun j hj => ?_⟩
             rcases Nat.lt_succ_iff_lt_or_eq.1 hj with hj | rfl
             · exact Hall.out j hj
             · exact Hok'.out
           case measure => simp [intOf]; omega)
    · obtain rfl : k = l.length := by omega
      have hn := evRight_all Hall.out
      rw [HR.out] at hn
      have hd : decide ((l.length : Int) ≤ 8) = R := by rw [hn]; congr 1; apply propext; omega
      have HD := Lib.hid hd
      have cb : wr.cell? ⟨w.heap.size, 1, none⟩ = some (.slice a l.length cap) := cell_of Hbox.out rfl
      clear hn hd
      go_wp2
      go_ret
      exact ⟨congrArg (fun b => Ending.returned (.bool b)) HD.out, Hm0.out⟩
end Go.Proofs.YtloplmaekonenaaGreatDoor

namespace Go.Proofs
open Go.Shelf
def Tryz.lays177_ren : Go.Shelf.Ren := ⟨fun | 177 => 142 | 250 => 181 | 289 => 214 | 197 => 239 | 323 => 240 | 260 => 262 | 339 => 263 | 340 => 264 | 242 => 265 | 119 => 238 | 345 => 270 | 346 => 271 | 278 => 272 | n => n, fun | 9 => 9 | 5 => 5 | 4 => 4 | 3 => 3 | 37 => 69 | 21 => 21 | 105 => 272 | 46 => 179 | 119 => 302 | 0 => 0 | 139 => 305 | 138 => 304 | 49 => 306 | 234 => 307 | 131 => 137 | 51 => 202 | 236 => 309 | n => n, fun | 3 => 9 | 4 => 10 | 20 => 11 | 21 => 12 | 22 => 13 | 23 => 14 | 24 => 15 | n => n⟩
theorem Tryz.lays177 : Go.Proofs.Lays.n177 Tryz.prog Tryz.lays177_ren := {
  mixed := by kernel_rfl
  f119 := Tryz.func238.trans (congrArg some (by kernel_rfl))
  f177 := Tryz.func142.trans (congrArg some (by kernel_rfl))
  f197 := Tryz.func239.trans (congrArg some (by kernel_rfl))
  f242 := Tryz.func265.trans (congrArg some (by kernel_rfl))
  f250 := Tryz.func181.trans (congrArg some (by kernel_rfl))
  f260 := Tryz.func262.trans (congrArg some (by kernel_rfl))
  f278 := Tryz.func272.trans (congrArg some (by kernel_rfl))
  f289 := Tryz.func214.trans (congrArg some (by kernel_rfl))
  f323 := Tryz.func240.trans (congrArg some (by kernel_rfl))
  f339 := Tryz.func263.trans (congrArg some (by kernel_rfl))
  f340 := Tryz.func264.trans (congrArg some (by kernel_rfl))
  f345 := Tryz.func270.trans (congrArg some (by kernel_rfl))
  f346 := Tryz.func271.trans (congrArg some (by kernel_rfl))
  t0 := Tryz.underlying0
  a0 := Tryz.isAgg0
  z0 := Tryz.sizeOf0
  v0 := Tryz.zeroValue0
  t3 := Tryz.underlying3
  a3 := Tryz.isAgg3
  z3 := Tryz.sizeOf3
  v3 := Tryz.zeroValue3
  t4 := Tryz.underlying4
  a4 := Tryz.isAgg4
  z4 := Tryz.sizeOf4
  v4 := Tryz.zeroValue4
  t5 := Tryz.underlying5
  a5 := Tryz.isAgg5
  z5 := Tryz.sizeOf5
  v5 := Tryz.zeroValue5
  t9 := Tryz.underlying9
  a9 := Tryz.isAgg9
  z9 := Tryz.sizeOf9
  v9 := Tryz.zeroValue9
  t21 := Tryz.underlying21
  a21 := Tryz.isAgg21
  z21 := Tryz.sizeOf21
  v21 := Tryz.zeroValue21
  t37 := Tryz.underlying69
  a37 := Tryz.isAgg69
  z37 := Tryz.sizeOf69
  v37 := Tryz.zeroValue69
  t46 := Tryz.underlying179
  a46 := Tryz.isAgg179
  z46 := Tryz.sizeOf179
  v46 := Tryz.zeroValue179
  t49 := Tryz.underlying306
  a49 := Tryz.isAgg306
  z49 := Tryz.sizeOf306
  v49 := Tryz.zeroValue306
  t51 := Tryz.underlying202
  a51 := Tryz.isAgg202
  z51 := Tryz.sizeOf202
  v51 := Tryz.zeroValue202
  t105 := Tryz.underlying272
  a105 := Tryz.isAgg272
  z105 := Tryz.sizeOf272
  v105 := Tryz.zeroValue272
  t119 := Tryz.underlying302
  a119 := Tryz.isAgg302
  z119 := Tryz.sizeOf302
  t131 := Tryz.underlying137
  a131 := Tryz.isAgg137
  z131 := Tryz.sizeOf137
  v131 := Tryz.zeroValue137
  t138 := Tryz.underlying304
  a138 := Tryz.isAgg304
  z138 := Tryz.sizeOf304
  v138 := Tryz.zeroValue304
  t139 := Tryz.underlying305
  a139 := Tryz.isAgg305
  z139 := Tryz.sizeOf305
  v139 := Tryz.zeroValue305
  t234 := Tryz.underlying307
  a234 := Tryz.isAgg307
  z234 := Tryz.sizeOf307
  v234 := Tryz.zeroValue307
  t236 := Tryz.underlying309
  a236 := Tryz.isAgg309
  z236 := Tryz.sizeOf309
  v236 := Tryz.zeroValue309
  g3 := by kernel_rfl
  g4 := by kernel_rfl
  g20 := by kernel_rfl
  g21 := by kernel_rfl
  g22 := by kernel_rfl
  g23 := by kernel_rfl
  g24 := by kernel_rfl }
open Go.RowKit in
/-- **strconv.Quote AT EVERY STRING, VALID UTF-8 OR NOT** (of at most some 2^43 bytes: ten bytes may come of one): 'strOfNums (Lib.quoteZ T s)': Derived/Lib/QuoteLoop.lean: a row of Lean a statement of Go. Of what was there nothing has turned. (LAID: no walk: one application.) -/
theorem Tryz.strconv_Quote (T : Lib.PrintTabs) (s : ByteArray) (w : World) (hlen : 10 * s.size + 12 ≤ 140737488355328) (hT : Lib.PrintTabsAt 11 12 13 14 T w) (hU : Lib.Utf8Tabs 9 10 w) :
    Calls Tryz.prog 142 #[.string s] w fun e w' => e = .returned (.string (strOfNums (Lib.quoteZ T s))) ∧ Below w.heap.size w w' := Any.strconv_Quote Tryz.lays177 (by kernel_rfl) T s w hlen hT hU
def Tryz.lays129_ren : Go.Shelf.Ren := ⟨fun | 129 => 160 | n => n, fun | 53 => 204 | 3 => 3 | 4 => 4 | 46 => 179 | 5 => 5 | 9 => 9 | n => n, fun | n => n⟩
theorem Tryz.lays129 : Go.Proofs.Lays.n129 Tryz.prog Tryz.lays129_ren := {
  mixed := by kernel_rfl
  f129 := Tryz.func160.trans (congrArg some (by kernel_rfl))
  t3 := Tryz.underlying3
  a3 := Tryz.isAgg3
  z3 := Tryz.sizeOf3
  v3 := Tryz.zeroValue3
  t4 := Tryz.underlying4
  a4 := Tryz.isAgg4
  z4 := Tryz.sizeOf4
  v4 := Tryz.zeroValue4
  t5 := Tryz.underlying5
  a5 := Tryz.isAgg5
  z5 := Tryz.sizeOf5
  v5 := Tryz.zeroValue5
  t9 := Tryz.underlying9
  a9 := Tryz.isAgg9
  z9 := Tryz.sizeOf9
  v9 := Tryz.zeroValue9
  t46 := Tryz.underlying179
  a46 := Tryz.isAgg179
  z46 := Tryz.sizeOf179
  v46 := Tryz.zeroValue179
  t53 := Tryz.underlying204
  a53 := Tryz.isAgg204
  z53 := Tryz.sizeOf204
  v53 := Tryz.zeroValue204 }
/-- bits.Len64: "Len64 returns the minimum number of bits required to represent x; the result is 0 for x == 0.": IT RETURNS 'Lib.bitLen x'; the world is as it was. ('h0', 'h1': x is a uint64.) (LAID: no walk: one application.) -/
theorem Tryz.bits_Len64 (x : Int) (w : World) (h0 : 0 ≤ x) (h1 : x ≤ 18446744073709551615) :
    Calls Tryz.prog 160 #[.int .u64 x] w fun e w' => e = .returned (.int .i64 (Lib.bitLen x.toNat)) ∧ w' = w := Any.bits_Len64 Tryz.lays129 x w h0 h1
def Tryz.laysM284_ren : Go.Shelf.Ren := ⟨fun | 284 => 205 | 129 => 160 | 317 => 221 | 318 => 222 | n => n, fun | 53 => 204 | 3 => 3 | 212 => 254 | 0 => 0 | 4 => 4 | 46 => 179 | 5 => 5 | 9 => 9 | n => n, fun | 17 => 3 | n => n⟩
theorem Tryz.laysM284 : Go.Proofs.LaysM.n284 Tryz.prog Tryz.laysM284_ren := {
  mixed := by kernel_rfl
  f129 := Tryz.func160.trans (congrArg some (by kernel_rfl))
  f284 := Tryz.func205.trans (congrArg some (by kernel_rfl))
  f317 := Tryz.func221.trans (congrArg some (by kernel_rfl))
  f318 := Tryz.func222.trans (congrArg some (by kernel_rfl))
  t0 := Tryz.underlying0
  a0 := Tryz.isAgg0
  z0 := Tryz.sizeOf0
  v0 := Tryz.zeroValue0
  t3 := Tryz.underlying3
  a3 := Tryz.isAgg3
  z3 := Tryz.sizeOf3
  v3 := Tryz.zeroValue3
  t4 := Tryz.underlying4
  a4 := Tryz.isAgg4
  z4 := Tryz.sizeOf4
  v4 := Tryz.zeroValue4
  t5 := Tryz.underlying5
  a5 := Tryz.isAgg5
  z5 := Tryz.sizeOf5
  v5 := Tryz.zeroValue5
  t9 := Tryz.underlying9
  a9 := Tryz.isAgg9
  z9 := Tryz.sizeOf9
  v9 := Tryz.zeroValue9
  t46 := Tryz.underlying179
  a46 := Tryz.isAgg179
  z46 := Tryz.sizeOf179
  v46 := Tryz.zeroValue179
  t53 := Tryz.underlying204
  a53 := Tryz.isAgg204
  z53 := Tryz.sizeOf204
  v53 := Tryz.zeroValue204
  t212 := Tryz.underlying254
  a212 := Tryz.isAgg254
  z212 := Tryz.sizeOf254
  v212 := Tryz.zeroValue254
  g17 := by kernel_rfl
  i0 := by kernel_rfl
  i3 := by kernel_rfl
  i4 := by kernel_rfl
  i5 := by kernel_rfl
  i9 := by kernel_rfl
  i46 := by kernel_rfl
  i53 := by kernel_rfl
  i212 := by kernel_rfl
  m17 := by kernel_rfl }
open Go.Lib in
/-- internal/strconv.numDigits, at a d that is not 0: THE NUMBER OF d's DECIMAL DIGITS. The world is as it was. (LAID: no walk: one application.) -/
theorem Tryz.internal_strconv_numDigits (u : Nat) (h1 : 1 ≤ u) (h2 : u < 18446744073709551616) (w : World) (htab : Lib.TabIs Tryz.prog w "internal/strconv.uint64pow10" .u64 Lib.pow10Tab) :
    Calls Tryz.prog 205 #[.int .u64 u] w fun e w' => e = .returned (.int .i64 (Lib.nDigits u)) ∧ w' = w := Any.internal_strconv_numDigits Tryz.laysM284 u h1 h2 w htab
def Tryz.lays285_ren : Go.Shelf.Ren := ⟨fun | 285 => 206 | n => n, fun | 37 => 69 | 53 => 204 | 3 => 3 | 4 => 4 | 51 => 202 | 9 => 9 | 5 => 5 | 0 => 0 | n => n, fun | n => n⟩
theorem Tryz.lays285 : Go.Proofs.Lays.n285 Tryz.prog Tryz.lays285_ren := {
  mixed := by kernel_rfl
  f285 := Tryz.func206.trans (congrArg some (by kernel_rfl))
  t0 := Tryz.underlying0
  a0 := Tryz.isAgg0
  z0 := Tryz.sizeOf0
  v0 := Tryz.zeroValue0
  t3 := Tryz.underlying3
  a3 := Tryz.isAgg3
  z3 := Tryz.sizeOf3
  v3 := Tryz.zeroValue3
  t4 := Tryz.underlying4
  a4 := Tryz.isAgg4
  z4 := Tryz.sizeOf4
  v4 := Tryz.zeroValue4
  t5 := Tryz.underlying5
  a5 := Tryz.isAgg5
  z5 := Tryz.sizeOf5
  v5 := Tryz.zeroValue5
  t9 := Tryz.underlying9
  a9 := Tryz.isAgg9
  z9 := Tryz.sizeOf9
  v9 := Tryz.zeroValue9
  t37 := Tryz.underlying69
  a37 := Tryz.isAgg69
  z37 := Tryz.sizeOf69
  v37 := Tryz.zeroValue69
  t51 := Tryz.underlying202
  a51 := Tryz.isAgg202
  z51 := Tryz.sizeOf202
  v51 := Tryz.zeroValue202
  t53 := Tryz.underlying204
  a53 := Tryz.isAgg204
  z53 := Tryz.sizeOf204
  v53 := Tryz.zeroValue204 }
open Go.RowKit Go.Sort Go.Lib in
/-- internal/strconv.formatBase10: "formatBase10 formats the decimal representation of u into a. The caller is responsible for ensuring that a is big enough to hold u. If a is too big, leading zeros will be filled in as needed.": THE ROW HOLDS u's DIGITS ('FmtInv .. 0 ..': every place t holds 'dg u (len - 1 - t)'); all else is as it was but for the count of draws. (LAID: no walk: one application.) -/
theorem Tryz.internal_strconv_formatBase10 (blk off cap : Nat) (u : Nat) (d : Array UInt8) (w : World) (hH : Holds (fun (b : UInt8) => Value.int .u8 (b.toNat : Int)) w blk off d) (hu : u < 10 ^ d.size) (hu64 : u < 18446744073709551616) (hsz : d.size < 4611686018427387904) :
    Calls Tryz.prog 206 #[.slice (some ⟨blk, off, none⟩) d.size cap, .int .u64 u] w fun e w' =>
      e = .returned (.tuple #[]) ∧ ∃ (n v' : Nat) (dk : Array UInt8), w' = (putRow (fun (b : UInt8) => Value.int .u8 (b.toNat : Int)) w blk off dk).drewN n ∧ FmtInv d.size u 0 v' dk := Any.internal_strconv_formatBase10 Tryz.lays285 blk off cap u d w hH hu hu64 hsz
def Tryz.laysM173_ren : Go.Shelf.Ren := ⟨fun | 173 => 139 | 246 => 178 | 283 => 204 | 284 => 205 | 285 => 206 | 286 => 207 | 129 => 160 | 317 => 221 | 318 => 222 | 319 => 223 | 320 => 224 | 337 => 241 | 338 => 242 | n => n, fun | 2 => 2 | 3 => 3 | 9 => 9 | 4 => 4 | 171 => 233 | 0 => 0 | 53 => 204 | 37 => 69 | 5 => 5 | 173 => 235 | 212 => 254 | 51 => 202 | 20 => 20 | 213 => 255 | 46 => 179 | 232 => 260 | 233 => 290 | n => n, fun | 17 => 3 | 18 => 5 | 19 => 6 | n => n⟩
theorem Tryz.laysM173 : Go.Proofs.LaysM.n173 Tryz.prog Tryz.laysM173_ren := {
  mixed := by kernel_rfl
  f129 := Tryz.func160.trans (congrArg some (by kernel_rfl))
  f173 := Tryz.func139.trans (congrArg some (by kernel_rfl))
  f246 := Tryz.func178.trans (congrArg some (by kernel_rfl))
  f283 := Tryz.func204.trans (congrArg some (by kernel_rfl))
  f284 := Tryz.func205.trans (congrArg some (by kernel_rfl))
  f285 := Tryz.func206.trans (congrArg some (by kernel_rfl))
  f286 := Tryz.func207.trans (congrArg some (by kernel_rfl))
  f317 := Tryz.func221.trans (congrArg some (by kernel_rfl))
  f318 := Tryz.func222.trans (congrArg some (by kernel_rfl))
  f319 := Tryz.func223.trans (congrArg some (by kernel_rfl))
  f320 := Tryz.func224.trans (congrArg some (by kernel_rfl))
  f337 := Tryz.func241.trans (congrArg some (by kernel_rfl))
  f338 := Tryz.func242.trans (congrArg some (by kernel_rfl))
  t0 := Tryz.underlying0
  a0 := Tryz.isAgg0
  z0 := Tryz.sizeOf0
  v0 := Tryz.zeroValue0
  t2 := Tryz.underlying2
  a2 := Tryz.isAgg2
  z2 := Tryz.sizeOf2
  v2 := Tryz.zeroValue2
  t3 := Tryz.underlying3
  a3 := Tryz.isAgg3
  z3 := Tryz.sizeOf3
  v3 := Tryz.zeroValue3
  t4 := Tryz.underlying4
  a4 := Tryz.isAgg4
  z4 := Tryz.sizeOf4
  v4 := Tryz.zeroValue4
  t5 := Tryz.underlying5
  a5 := Tryz.isAgg5
  z5 := Tryz.sizeOf5
  v5 := Tryz.zeroValue5
  t9 := Tryz.underlying9
  a9 := Tryz.isAgg9
  z9 := Tryz.sizeOf9
  v9 := Tryz.zeroValue9
  t20 := Tryz.underlying20
  a20 := Tryz.isAgg20
  z20 := Tryz.sizeOf20
  v20 := Tryz.zeroValue20
  t37 := Tryz.underlying69
  a37 := Tryz.isAgg69
  z37 := Tryz.sizeOf69
  v37 := Tryz.zeroValue69
  t46 := Tryz.underlying179
  a46 := Tryz.isAgg179
  z46 := Tryz.sizeOf179
  v46 := Tryz.zeroValue179
  t51 := Tryz.underlying202
  a51 := Tryz.isAgg202
  z51 := Tryz.sizeOf202
  v51 := Tryz.zeroValue202
  t53 := Tryz.underlying204
  a53 := Tryz.isAgg204
  z53 := Tryz.sizeOf204
  v53 := Tryz.zeroValue204
  t171 := Tryz.underlying233
  a171 := Tryz.isAgg233
  z171 := Tryz.sizeOf233
  v171 := Tryz.zeroValue233
  t173 := Tryz.underlying235
  a173 := Tryz.isAgg235
  z173 := Tryz.sizeOf235
  v173 := Tryz.zeroValue235
  t212 := Tryz.underlying254
  a212 := Tryz.isAgg254
  z212 := Tryz.sizeOf254
  v212 := Tryz.zeroValue254
  t213 := Tryz.underlying255
  a213 := Tryz.isAgg255
  z213 := Tryz.sizeOf255
  t232 := Tryz.underlying260
  a232 := Tryz.isAgg260
  z232 := Tryz.sizeOf260
  v232 := Tryz.zeroValue260
  t233 := Tryz.underlying290
  a233 := Tryz.isAgg290
  z233 := Tryz.sizeOf290
  v233 := Tryz.zeroValue290
  g17 := by kernel_rfl
  g18 := by kernel_rfl
  g19 := by kernel_rfl
  i0 := by kernel_rfl
  i2 := by kernel_rfl
  i3 := by kernel_rfl
  i4 := by kernel_rfl
  i5 := by kernel_rfl
  i9 := by kernel_rfl
  i20 := by kernel_rfl
  i37 := by kernel_rfl
  i46 := by kernel_rfl
  i51 := by kernel_rfl
  i53 := by kernel_rfl
  i171 := by kernel_rfl
  i173 := by kernel_rfl
  i212 := by kernel_rfl
  i232 := by kernel_rfl
  i233 := by kernel_rfl
  m17 := by kernel_rfl
  m18 := by kernel_rfl
  m19 := by kernel_rfl }
open Go.RowKit Go.Sort Go.Lib in
/-- strconv.FormatInt: "FormatInt returns the string representation of i in the given base": AT BASE 10: i's decimal numeral, for every int64. (LAID: no walk: one application.) -/
theorem Tryz.strconv_FormatInt_10 (n : Int) (h0 : -9223372036854775808 ≤ n) (h1 : n ≤ 9223372036854775807) (w : World) (htab : Lib.TabIs Tryz.prog w "internal/strconv.uint64pow10" .u64 Lib.pow10Tab) :
    Calls Tryz.prog 139 #[.int .i64 n, .int .i64 10] w fun e w' => e = .returned (.string ⟨(Lib.itoa n).toArray⟩) ∧ ∃ k os, w' = grow (w.drewN k) os := Any.strconv_FormatInt_10 Tryz.laysM173 n h0 h1 w htab
def Tryz.lays190_ren : Go.Shelf.Ren := ⟨fun | 190 => 95 | 125 => 129 | 258 => 135 | 128 => 159 | 129 => 160 | 302 => 168 | 303 => 169 | 304 => 170 | 305 => 171 | 306 => 172 | 307 => 173 | 308 => 174 | 309 => 175 | 310 => 176 | 333 => 200 | 329 => 193 | 330 => 194 | 334 => 201 | 335 => 202 | 336 => 203 | 344 => 220 | n => n, fun | 31 => 105 | 9 => 9 | 3 => 3 | 46 => 179 | 0 => 0 | 51 => 202 | 53 => 204 | 4 => 4 | 183 => 195 | 182 => 194 | 131 => 137 | 5 => 5 | 218 => 226 | 222 => 229 | 228 => 249 | 229 => 250 | n => n, fun | n => n⟩
theorem Tryz.lays190 : Go.Proofs.Lays.n190 Tryz.prog Tryz.lays190_ren := {
  mixed := by kernel_rfl
  f125 := Tryz.func129.trans (congrArg some (by kernel_rfl))
  f128 := Tryz.func159.trans (congrArg some (by kernel_rfl))
  f129 := Tryz.func160.trans (congrArg some (by kernel_rfl))
  f190 := Tryz.func95.trans (congrArg some (by kernel_rfl))
  f258 := Tryz.func135.trans (congrArg some (by kernel_rfl))
  f302 := Tryz.func168.trans (congrArg some (by kernel_rfl))
  f303 := Tryz.func169.trans (congrArg some (by kernel_rfl))
  f304 := Tryz.func170.trans (congrArg some (by kernel_rfl))
  f305 := Tryz.func171.trans (congrArg some (by kernel_rfl))
  f306 := Tryz.func172.trans (congrArg some (by kernel_rfl))
  f307 := Tryz.func173.trans (congrArg some (by kernel_rfl))
  f308 := Tryz.func174.trans (congrArg some (by kernel_rfl))
  f309 := Tryz.func175.trans (congrArg some (by kernel_rfl))
  f310 := Tryz.func176.trans (congrArg some (by kernel_rfl))
  f329 := Tryz.func193.trans (congrArg some (by kernel_rfl))
  f330 := Tryz.func194.trans (congrArg some (by kernel_rfl))
  f333 := Tryz.func200.trans (congrArg some (by kernel_rfl))
  f334 := Tryz.func201.trans (congrArg some (by kernel_rfl))
  f335 := Tryz.func202.trans (congrArg some (by kernel_rfl))
  f336 := Tryz.func203.trans (congrArg some (by kernel_rfl))
  f344 := Tryz.func220.trans (congrArg some (by kernel_rfl))
  t0 := Tryz.underlying0
  a0 := Tryz.isAgg0
  z0 := Tryz.sizeOf0
  v0 := Tryz.zeroValue0
  t3 := Tryz.underlying3
  a3 := Tryz.isAgg3
  z3 := Tryz.sizeOf3
  v3 := Tryz.zeroValue3
  t4 := Tryz.underlying4
  a4 := Tryz.isAgg4
  z4 := Tryz.sizeOf4
  v4 := Tryz.zeroValue4
  t5 := Tryz.underlying5
  a5 := Tryz.isAgg5
  z5 := Tryz.sizeOf5
  v5 := Tryz.zeroValue5
  t9 := Tryz.underlying9
  a9 := Tryz.isAgg9
  z9 := Tryz.sizeOf9
  v9 := Tryz.zeroValue9
  t31 := Tryz.underlying105
  a31 := Tryz.isAgg105
  z31 := Tryz.sizeOf105
  v31 := Tryz.zeroValue105
  t46 := Tryz.underlying179
  a46 := Tryz.isAgg179
  z46 := Tryz.sizeOf179
  v46 := Tryz.zeroValue179
  t51 := Tryz.underlying202
  a51 := Tryz.isAgg202
  z51 := Tryz.sizeOf202
  v51 := Tryz.zeroValue202
  t53 := Tryz.underlying204
  a53 := Tryz.isAgg204
  z53 := Tryz.sizeOf204
  v53 := Tryz.zeroValue204
  t131 := Tryz.underlying137
  a131 := Tryz.isAgg137
  z131 := Tryz.sizeOf137
  v131 := Tryz.zeroValue137
  t182 := Tryz.underlying194
  a182 := Tryz.isAgg194
  z182 := Tryz.sizeOf194
  v182 := Tryz.zeroValue194
  t183 := Tryz.underlying195
  a183 := Tryz.isAgg195
  z183 := Tryz.sizeOf195
  v183 := Tryz.zeroValue195
  t218 := Tryz.underlying226
  a218 := Tryz.isAgg226
  z218 := Tryz.sizeOf226
  v218 := Tryz.zeroValue226
  t222 := Tryz.underlying229
  a222 := Tryz.isAgg229
  z222 := Tryz.sizeOf229
  v222 := Tryz.zeroValue229
  t228 := Tryz.underlying249
  a228 := Tryz.isAgg249
  z228 := Tryz.sizeOf249
  v228 := Tryz.zeroValue249
  t229 := Tryz.underlying250
  a229 := Tryz.isAgg250
  z229 := Tryz.sizeOf250
  v229 := Tryz.zeroValue250 }
open Go.Sort Go.RowKit in
theorem Tryz.slices_Sort_string (blk off cap : Nat) (ss : List (List UInt8)) (w : World) (hH : Holds encStr w blk off ss.toArray) (hblk : blk < w.heap.size) (hsz : ss.length < 4611686018427387904) :
    Calls Tryz.prog 95 #[.slice (some ⟨blk, off, none⟩) ss.length cap] w fun e w' =>
      e = .returned (.tuple #[]) ∧ ∃ n os, w' = grow (putRow encStr (Sort.ahead w n) blk off (ss.mergeSort fun x y => decide (x ≤ y)).toArray) os := Any.slices_Sort_string Tryz.lays190 blk off cap ss w hH hblk hsz
def Tryz.lays150_ren : Go.Shelf.Ren := ⟨fun | 150 => 141 | 153 => 180 | 152 => 210 | 226 => 211 | 227 => 212 | 228 => 213 | 137 => 237 | 119 => 238 | 224 => 188 | 225 => 187 | 217 => 186 | 266 => 216 | n => n, fun | 9 => 9 | 4 => 4 | 3 => 3 | 5 => 5 | 21 => 21 | 117 => 243 | 116 => 242 | 0 => 0 | 46 => 179 | 124 => 271 | n => n, fun | n => n⟩
theorem Tryz.lays150 : Go.Proofs.Lays.n150 Tryz.prog Tryz.lays150_ren := {
  mixed := by kernel_rfl
  f119 := Tryz.func238.trans (congrArg some (by kernel_rfl))
  f137 := Tryz.func237.trans (congrArg some (by kernel_rfl))
  f150 := Tryz.func141.trans (congrArg some (by kernel_rfl))
  f152 := Tryz.func210.trans (congrArg some (by kernel_rfl))
  f153 := Tryz.func180.trans (congrArg some (by kernel_rfl))
  f217 := Tryz.func186.trans (congrArg some (by kernel_rfl))
  f224 := Tryz.func188.trans (congrArg some (by kernel_rfl))
  f225 := Tryz.func187.trans (congrArg some (by kernel_rfl))
  f226 := Tryz.func211.trans (congrArg some (by kernel_rfl))
  f227 := Tryz.func212.trans (congrArg some (by kernel_rfl))
  f228 := Tryz.func213.trans (congrArg some (by kernel_rfl))
  f266 := Tryz.func216.trans (congrArg some (by kernel_rfl))
  t0 := Tryz.underlying0
  a0 := Tryz.isAgg0
  z0 := Tryz.sizeOf0
  v0 := Tryz.zeroValue0
  t3 := Tryz.underlying3
  a3 := Tryz.isAgg3
  z3 := Tryz.sizeOf3
  v3 := Tryz.zeroValue3
  t4 := Tryz.underlying4
  a4 := Tryz.isAgg4
  z4 := Tryz.sizeOf4
  v4 := Tryz.zeroValue4
  t5 := Tryz.underlying5
  a5 := Tryz.isAgg5
  z5 := Tryz.sizeOf5
  v5 := Tryz.zeroValue5
  t9 := Tryz.underlying9
  a9 := Tryz.isAgg9
  z9 := Tryz.sizeOf9
  v9 := Tryz.zeroValue9
  t21 := Tryz.underlying21
  a21 := Tryz.isAgg21
  z21 := Tryz.sizeOf21
  v21 := Tryz.zeroValue21
  t46 := Tryz.underlying179
  a46 := Tryz.isAgg179
  z46 := Tryz.sizeOf179
  v46 := Tryz.zeroValue179
  t116 := Tryz.underlying242
  a116 := Tryz.isAgg242
  z116 := Tryz.sizeOf242
  t117 := Tryz.underlying243
  a117 := Tryz.isAgg243
  z117 := Tryz.sizeOf243
  v117 := Tryz.zeroValue243
  t124 := Tryz.underlying271
  a124 := Tryz.isAgg271
  z124 := Tryz.sizeOf271
  v124 := Tryz.zeroValue271 }
open Go.RowKit Go.Lib in
theorem Tryz.strings_ContainsAny_laid (s chars : ByteArray) (w : World) (hs : s.size < 4294967281) (hcs : chars.size < 4294967281) (has : ∀ (j : Nat) b, s.data.toList[j]? = some b → b.toNat < 128) (hac : ∀ (j : Nat) b, chars.data.toList[j]? = some b → b.toNat < 128) :
    Calls Tryz.prog 141 #[.string s, .string chars] w fun e w' => e = .returned (.bool (Lib.containsAny s.data.toList chars.data.toList)) ∧ Below w.heap.size w w' := Any.strings_ContainsAny_laid Tryz.lays150 (by kernel_rfl) s chars w hs hcs has hac
def Tryz.lays264_ren : Go.Shelf.Ren := ⟨fun | 264 => 266 | n => n, fun | 53 => 204 | 46 => 179 | n => n, fun | n => n⟩
theorem Tryz.lays264 : Go.Proofs.Lays.n264 Tryz.prog Tryz.lays264_ren := {
  mixed := by kernel_rfl
  f264 := Tryz.func266.trans (congrArg some (by kernel_rfl))
  t46 := Tryz.underlying179
  a46 := Tryz.isAgg179
  z46 := Tryz.sizeOf179
  v46 := Tryz.zeroValue179
  t53 := Tryz.underlying204
  a53 := Tryz.isAgg204
  z53 := Tryz.sizeOf204
  v53 := Tryz.zeroValue204 }
open Go.RowKit Go.Lib in
theorem Tryz.bits_Mul64 (x y : Nat) (hx : x < 18446744073709551616) (hy : y < 18446744073709551616) (w : World) :
    Calls Tryz.prog 266 #[.int .u64 x, .int .u64 y] w fun e w' => e = .returned (.tuple #[.int .u64 ((x * y / 18446744073709551616 : Nat) : Int), .int .u64 ((x * y % 18446744073709551616 : Nat) : Int)]) ∧ w' = w := Any.bits_Mul64 Tryz.lays264 x y hx hy w
open Go.RowKit Go.Sort in
/-- .. and plain. (LAID: no walk: one application.) -/
theorem Tryz.slices_Sort_string_none (p : Option Addr) (cap : Nat) (w : World) :
    Calls Tryz.prog 95 #[.slice p 0 cap] w fun e w' => e = .returned (.tuple #[]) ∧ w' = w := Any.slices_Sort_string_none Tryz.lays190 p cap w
end Go.Proofs
