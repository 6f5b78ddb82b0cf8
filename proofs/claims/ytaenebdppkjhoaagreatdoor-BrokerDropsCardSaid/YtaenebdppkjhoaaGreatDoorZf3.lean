/- Lemmas. -/
import Derived.Test.YtaenebdppkjhoaaGreatDoorZf2
import Derived.Laws.StructEq
namespace Go.Proofs.YtaenebdppkjhoaaGreatDoor
set_option maxRecDepth 20000
set_option maxHeartbeats 40000000
section
open Go.RowKit
structure V where
 kind:Int
 int:Int
 num:Nat
 text:ByteArray
 yes:Bool
def V.cells (v:V):List Value:=[.int .i64 v.kind,.int .i64 v.int,.float .f64 v.num,.string v.text,.bool v.yes]
def V.zero:V:=⟨0,0,0,⟨#[]⟩,false⟩
def V.right (v:V):Bool:=decide (0<=v.kind)&&(decide (v.kind<=3)&&decide (v.text.size<=40))
def V.canon (v:V):V:=
 if v.kind=0 then {V.zero with kind:=0,int:=v.int} else if v.kind=1 then {V.zero with kind:=1,num:=l7 v.num} else
 if v.kind=2 then {V.zero with kind:=2,text:=v.text} else if v.kind=3 then {V.zero with kind:=3,yes:=v.yes} else V.zero
def V.void (v:V):Bool:=v.kind==1&& !fEq v.num v.num
theorem a5d (v:V) (w:World):Calls Tryz.prog 51 #[.agg v.cells.toArray] w fun e w'=>e= .returned (.bool v.right)/\Mod (fun _=>False) w w':=by
 obtain ⟨kind,int,num,text,yes⟩:=v;unfold V.right V.cells;by_cases h0:0<=kind
 ·by_cases h3:kind<=3
  ·by_cases ht:text.size<=40
   ·have ht':(text.size:Int)<=40:=by omega
    rw [decide_eq_true h0,decide_eq_true h3,decide_eq_true ht]
    go_enter Tryz.func51,Tryz.ntmps51
    go_wp2
    go_ret;exact ⟨rfl,(Mod.refl _ w).alloc _⟩
   have ht':(40:Int)<text.size:=by omega
   rw [decide_eq_true h0,decide_eq_true h3,decide_eq_false ht]
   go_enter Tryz.func51,Tryz.ntmps51
   go_wp2
   go_ret;exact ⟨congrArg (fun b=>Ending.returned (.bool b)) (decide_eq_false (by omega)),(Mod.refl _ w).alloc _⟩
  have h3':3<kind:=by omega
  rw [decide_eq_true h0,decide_eq_false h3]
  go_enter Tryz.func51,Tryz.ntmps51
  go_wp2
  go_ret;exact ⟨rfl,(Mod.refl _ w).alloc _⟩
 have h0':kind<0:=by omega
 rw [decide_eq_false h0]
 go_enter Tryz.func51,Tryz.ntmps51
 go_wp2
 go_ret;exact ⟨rfl,(Mod.refl _ w).alloc _⟩
theorem a0n (v:V) (w:World):Calls Tryz.prog 88 #[.agg v.cells.toArray] w fun e w'=>e= .returned (.bool v.void)/\Mod (fun _=>False) w w':=by
 obtain ⟨kind,int,num,text,yes⟩:=v;unfold V.void V.cells;have Hn:=Lib.hid fun w=>b2b num w;by_cases h1:kind=1
 ·have h1b:(kind==1)=true:=by rw [h1];rfl
  rw [h1b];subst h1
  go_enter Tryz.func88,Tryz.ntmps88
  go_wp2_with fail
  refine (Hn.out _).mono ?_;rintro e w1 ⟨rfl,rfl⟩
  go_wp2
  go_ret;exact ⟨rfl,(Mod.refl _ w).alloc _⟩
 have h1b:(kind==1)=false:=by rw [beq_eq_false_iff_ne];exact h1
 rw [h1b]
 go_enter Tryz.func88,Tryz.ntmps88
 go_wp2
 go_ret;exact ⟨rfl,(Mod.refl _ w).alloc _⟩
theorem a5e (v:V) (w:World):Calls Tryz.prog 87 #[.agg v.cells.toArray] w fun e w'=>e= .returned (.agg v.canon.cells.toArray)/\Mod (fun _=>False) w w':=by
 obtain ⟨kind,int,num,text,yes⟩:=v;have Hc:=Lib.hid fun w=>a2w num w
 have hm0:∀(A B:Obj) (w':World),Mod (fun k=>k=w.heap.size+1) ((w.alloc A).alloc B) w'->Mod (fun _=>False) w w':=fun A B w' h=>
  (((Mod.refl (fun _=>False) w).alloc A).alloc B).trans h (fun b hb h=>by omega)
 have Hm0:=zh hm0;clear hm0;by_cases h0:kind=0
 ·have hv:(V.canon ⟨kind,int,num,text,yes⟩).cells=[.int .i64 0,.int .i64 int,.float .f64 0,.string ⟨#[]⟩,.bool false]:=by unfold V.canon;rw [if_pos h0];rfl
  rw [hv];unfold V.cells;subst h0;clear hv
  go_enter Tryz.func87,Tryz.ntmps87
  go_wp2_with (refine r8 rfl 68 (.tmp 2) (.tmp 9) rfl (w.heap.size+1) rfl _ 68 (K2 w _ _) [.int .i64 0,.int .i64 int,.float .f64 0,.string ⟨#[]⟩,.bool false] rfl 5 rfl rfl (by kernel_rfl) rfl ?_;intro w2 h2 hm2;have H2:=Lib.hid h2;have Hm2:=Lib.hid hm2;clear h2 hm2)
  exact o8 rfl (w.heap.size+1) rfl _ (e7.row H2.out) (by kernel_rfl) (by kernel_rfl) rfl ⟨rfl,Hm0.out _ _ _ Hm2.out⟩
 by_cases h1:kind=1
 ·have hv:(V.canon ⟨kind,int,num,text,yes⟩).cells=[.int .i64 1,.int .i64 0,.float .f64 (l7 num),.string ⟨#[]⟩,.bool false]:=by unfold V.canon;rw [if_neg h0,if_pos h1];rfl
  rw [hv];unfold V.cells;subst h1;clear hv h0
  go_enter Tryz.func87,Tryz.ntmps87
  go_wp2_with fail
  refine (Hc.out _).mono ?_;rintro e w1 ⟨rfl,rfl⟩
  go_wp2_with (refine r8 rfl 68 (.tmp 2) (.tmp 15) rfl (w.heap.size+1) rfl _ 68 (K2 w _ _) [.int .i64 1,.int .i64 0,.float .f64 (l7 num),.string ⟨#[]⟩,.bool false] rfl 5 rfl rfl (by kernel_rfl) rfl ?_;intro w2 h2 hm2;have H2:=Lib.hid h2;have Hm2:=Lib.hid hm2;clear h2 hm2)
  exact o8 rfl (w.heap.size+1) rfl _ (e7.row H2.out) (by kernel_rfl) (by kernel_rfl) rfl ⟨rfl,Hm0.out _ _ _ Hm2.out⟩
 by_cases h2:kind=2
 ·have hv:(V.canon ⟨kind,int,num,text,yes⟩).cells=[.int .i64 2,.int .i64 0,.float .f64 0,.string text,.bool false]:=by unfold V.canon;rw [if_neg h0,if_neg h1,if_pos h2];rfl
  rw [hv];unfold V.cells;subst h2;clear hv h0 h1
  go_enter Tryz.func87,Tryz.ntmps87
  go_wp2_with (refine r8 rfl 68 (.tmp 2) (.tmp 20) rfl (w.heap.size+1) rfl _ 68 (K2 w _ _) [.int .i64 2,.int .i64 0,.float .f64 0,.string text,.bool false] rfl 5 rfl rfl (by kernel_rfl) rfl ?_;intro w2 h2 hm2;have H2:=Lib.hid h2;have Hm2:=Lib.hid hm2;clear h2 hm2)
  exact o8 rfl (w.heap.size+1) rfl _ (e7.row H2.out) (by kernel_rfl) (by kernel_rfl) rfl ⟨rfl,Hm0.out _ _ _ Hm2.out⟩
 by_cases h3:kind=3
 ·have hv:(V.canon ⟨kind,int,num,text,yes⟩).cells=[.int .i64 3,.int .i64 0,.float .f64 0,.string ⟨#[]⟩,.bool yes]:=by unfold V.canon;rw [if_neg h0,if_neg h1,if_neg h2,if_pos h3];rfl
  rw [hv];unfold V.cells;subst h3;clear hv h0 h1 h2
  go_enter Tryz.func87,Tryz.ntmps87
  go_wp2_with (refine r8 rfl 68 (.tmp 2) (.tmp 25) rfl (w.heap.size+1) rfl _ 68 (K2 w _ _) [.int .i64 3,.int .i64 0,.float .f64 0,.string ⟨#[]⟩,.bool yes] rfl 5 rfl rfl (by kernel_rfl) rfl ?_;intro w2 h2 hm2;have H2:=Lib.hid h2;have Hm2:=Lib.hid hm2;clear h2 hm2)
  exact o8 rfl (w.heap.size+1) rfl _ (e7.row H2.out) (by kernel_rfl) (by kernel_rfl) rfl ⟨rfl,Hm0.out _ _ _ Hm2.out⟩
 have hv:(V.canon ⟨kind,int,num,text,yes⟩).cells=[.int .i64 0,.int .i64 0,.float .f64 0,.string ⟨#[]⟩,.bool false]:=by unfold V.canon;rw [if_neg h0,if_neg h1,if_neg h2,if_neg h3];rfl
 rw [hv];unfold V.cells;clear hv
 go_enter Tryz.func87,Tryz.ntmps87
 go_wp2_with (refine r8 rfl 68 (.tmp 2) (.tmp 26) rfl (w.heap.size+1) rfl _ 68 (K2 w _ _) [.int .i64 0,.int .i64 0,.float .f64 0,.string ⟨#[]⟩,.bool false] rfl 5 rfl rfl (by kernel_rfl) rfl ?_;intro w2 h2 hm2;have H2:=Lib.hid h2;have Hm2:=Lib.hid hm2;clear h2 hm2)
 exact o8 rfl (w.heap.size+1) rfl _ (e7.row H2.out) (by kernel_rfl) (by kernel_rfl) rfl ⟨rfl,Hm0.out _ _ _ Hm2.out⟩
def V.eqG (a b:V):Bool:=a.kind==b.kind&&(a.int==b.int&&(fEq a.num b.num&&(a.text.toList==b.text.toList&&a.yes==b.yes)))
def V.kept (v:V):Bool:=if v.void then V.eqG {v.canon with num:=0} {v with num:=0} else V.eqG v.canon v
end
end Go.Proofs.YtaenebdppkjhoaaGreatDoor
