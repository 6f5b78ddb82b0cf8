/- Lemmas. -/
import Derived.Test.YtaenebdppkjhoaaGreatDoorZg2
import Derived.Laws.StructEq
namespace Go.Proofs.YtaenebdppkjhoaaGreatDoor
set_option maxRecDepth 20000
set_option maxHeartbeats 40000000
section
open Go.RowKit
structure V where
 kind:Int
 int:Int
 num:Nat
 text:ByteArray
 yes:Bool
def V.cells (v:V):List Value:=[.int .i64 v.kind,.int .i64 v.int,.float .f64 v.num,.string v.text,.bool v.yes]
def V.zero:V:=⟨0,0,0,⟨#[]⟩,false⟩
def V.right (v:V):Bool:=decide (0<=v.kind)&&(decide (v.kind<=3)&&decide (v.text.size<=40))
def V.canon (v:V):V:=
 if v.kind=0 then {V.zero with kind:=0,int:=v.int} else if v.kind=1 then {V.zero with kind:=1,num:=m5 v.num} else
 if v.kind=2 then {V.zero with kind:=2,text:=v.text} else if v.kind=3 then {V.zero with kind:=3,yes:=v.yes} else V.zero
def V.void (v:V):Bool:=v.kind==1&& !fEq v.num v.num
theorem a14 (v:V) (w:World):Calls Tryz.prog 51 #[.agg v.cells.toArray] w fun e w'=>e= .returned (.bool v.right)/\Mod (fun _=>False) w w':=by
 obtain ⟨kind,int,num,text,yes⟩:=v;unfold V.right V.cells;by_cases h0:0<=kind
 ·by_cases h3:kind<=3
  ·by_cases ht:text.size<=40
   ·have ht':(text.size:Int)<=40:=by omega
    rw [decide_eq_true h0,decide_eq_true h3,decide_eq_true ht]
    go_enter Tryz.func51,Tryz.ntmps51
    go_wp2
    go_ret;exact ⟨rfl,(Mod.refl _ w).alloc _⟩
   have ht':(40:Int)<text.size:=by omega
   rw [decide_eq_true h0,decide_eq_true h3,decide_eq_false ht]
   go_enter Tryz.func51,Tryz.ntmps51
   go_wp2
   go_ret;exact ⟨congrArg (fun b=>Ending.returned (.bool b)) (decide_eq_false (by omega)),(Mod.refl _ w).alloc _⟩
  have h3':3<kind:=by omega
  rw [decide_eq_true h0,decide_eq_false h3]
  go_enter Tryz.func51,Tryz.ntmps51
  go_wp2
  go_ret;exact ⟨rfl,(Mod.refl _ w).alloc _⟩
 have h0':kind<0:=by omega
 rw [decide_eq_false h0]
 go_enter Tryz.func51,Tryz.ntmps51
 go_wp2
 go_ret;exact ⟨rfl,(Mod.refl _ w).alloc _⟩
theorem V7 (v:V) (w:World):Calls Tryz.prog 88 #[.agg v.cells.toArray] w fun e w'=>e= .returned (.bool v.void)/\Mod (fun _=>False) w w':=by
 obtain ⟨kind,int,num,text,yes⟩:=v;unfold V.void V.cells;have Hn:=Lib.hid fun w=>b20 num w;by_cases h1:kind=1
 ·have h1b:(kind==1)=true:=by rw [h1];rfl
  rw [h1b];subst h1
  go_enter Tryz.func88,Tryz.ntmps88
  go_wp2_with fail
  refine (Hn.out _).mono ?_;rintro e w1 ⟨rfl,rfl⟩
  go_wp2
  go_ret;exact ⟨rfl,(Mod.refl _ w).alloc _⟩
 have h1b:(kind==1)=false:=by rw [beq_eq_false_iff_ne];exact h1
 rw [h1b]
 go_enter Tryz.func88,Tryz.ntmps88
 go_wp2
 go_ret;exact ⟨rfl,(Mod.refl _ w).alloc _⟩
theorem Y7 (v:V) (w:World):Calls Tryz.prog 87 #[.agg v.cells.toArray] w fun e w'=>e= .returned (.agg v.canon.cells.toArray)/\Mod (fun _=>False) w w':=by
 obtain ⟨kind,int,num,text,yes⟩:=v;have Hc:=Lib.hid fun w=>a2X num w
 have hm0:∀(A B:Obj) (w':World),Mod (fun k=>k=w.heap.size+1) ((w.alloc A).alloc B) w'->Mod (fun _=>False) w w':=fun A B w' h=>
  (((Mod.refl (fun _=>False) w).alloc A).alloc B).trans h (fun b hb h=>by omega)
 have Hm0:=zh hm0;clear hm0;by_cases h0:kind=0
 ·have hv:(V.canon ⟨kind,int,num,text,yes⟩).cells=[.int .i64 0,.int .i64 int,.float .f64 0,.string ⟨#[]⟩,.bool false]:=by unfold V.canon;rw [if_pos h0];rfl
  rw [hv];unfold V.cells;subst h0;clear hv
  go_enter Tryz.func87,Tryz.ntmps87
  go_wp2_with (refine v8 rfl 68 (.tmp 2) (.tmp 9) rfl (w.heap.size+1) rfl _ 68 (L8 w _ _) [.int .i64 0,.int .i64 int,.float .f64 0,.string ⟨#[]⟩,.bool false] rfl 5 rfl rfl (by kernel_rfl) rfl ?_;intro w2 h2 hm2;have H2:=Lib.hid h2;have Hm2:=Lib.hid hm2;clear h2 hm2)
  exact o3 rfl (w.heap.size+1) rfl _ (e7.row H2.out) (by kernel_rfl) (by kernel_rfl) rfl ⟨rfl,Hm0.out _ _ _ Hm2.out⟩
 by_cases h1:kind=1
 ·have hv:(V.canon ⟨kind,int,num,text,yes⟩).cells=[.int .i64 1,.int .i64 0,.float .f64 (m5 num),.string ⟨#[]⟩,.bool false]:=by unfold V.canon;rw [if_neg h0,if_pos h1];rfl
  rw [hv];unfold V.cells;subst h1;clear hv h0
  go_enter Tryz.func87,Tryz.ntmps87
  go_wp2_with fail
  refine (Hc.out _).mono ?_;rintro e w1 ⟨rfl,rfl⟩
  go_wp2_with (refine v8 rfl 68 (.tmp 2) (.tmp 15) rfl (w.heap.size+1) rfl _ 68 (L8 w _ _) [.int .i64 1,.int .i64 0,.float .f64 (m5 num),.string ⟨#[]⟩,.bool false] rfl 5 rfl rfl (by kernel_rfl) rfl ?_;intro w2 h2 hm2;have H2:=Lib.hid h2;have Hm2:=Lib.hid hm2;clear h2 hm2)
  exact o3 rfl (w.heap.size+1) rfl _ (e7.row H2.out) (by kernel_rfl) (by kernel_rfl) rfl ⟨rfl,Hm0.out _ _ _ Hm2.out⟩
 by_cases h2:kind=2
 ·have hv:(V.canon ⟨kind,int,num,text,yes⟩).cells=[.int .i64 2,.int .i64 0,.float .f64 0,.string text,.bool false]:=by unfold V.canon;rw [if_neg h0,if_neg h1,if_pos h2];rfl
  rw [hv];unfold V.cells;subst h2;clear hv h0 h1
  go_enter Tryz.func87,Tryz.ntmps87
  go_wp2_with (refine v8 rfl 68 (.tmp 2) (.tmp 20) rfl (w.heap.size+1) rfl _ 68 (L8 w _ _) [.int .i64 2,.int .i64 0,.float .f64 0,.string text,.bool false] rfl 5 rfl rfl (by kernel_rfl) rfl ?_;intro w2 h2 hm2;have H2:=Lib.hid h2;have Hm2:=Lib.hid hm2;clear h2 hm2)
  exact o3 rfl (w.heap.size+1) rfl _ (e7.row H2.out) (by kernel_rfl) (by kernel_rfl) rfl ⟨rfl,Hm0.out _ _ _ Hm2.out⟩
 by_cases h3:kind=3
 ·have hv:(V.canon ⟨kind,int,num,text,yes⟩).cells=[.int .i64 3,.int .i64 0,.float .f64 0,.string ⟨#[]⟩,.bool yes]:=by unfold V.canon;rw [if_neg h0,if_neg h1,if_neg h2,if_pos h3];rfl
  rw [hv];unfold V.cells;subst h3;clear hv h0 h1 h2
  go_enter Tryz.func87,Tryz.ntmps87
  go_wp2_with (refine v8 rfl 68 (.tmp 2) (.tmp 25) rfl (w.heap.size+1) rfl _ 68 (L8 w _ _) [.int .i64 3,.int .i64 0,.float .f64 0,.string ⟨#[]⟩,.bool yes] rfl 5 rfl rfl (by kernel_rfl) rfl ?_;intro w2 h2 hm2;have H2:=Lib.hid h2;have Hm2:=Lib.hid hm2;clear h2 hm2)
  exact o3 rfl (w.heap.size+1) rfl _ (e7.row H2.out) (by kernel_rfl) (by kernel_rfl) rfl ⟨rfl,Hm0.out _ _ _ Hm2.out⟩
 have hv:(V.canon ⟨kind,int,num,text,yes⟩).cells=[.int .i64 0,.int .i64 0,.float .f64 0,.string ⟨#[]⟩,.bool false]:=by unfold V.canon;rw [if_neg h0,if_neg h1,if_neg h2,if_neg h3];rfl
 rw [hv];unfold V.cells;clear hv
 go_enter Tryz.func87,Tryz.ntmps87
 go_wp2_with (refine v8 rfl 68 (.tmp 2) (.tmp 26) rfl (w.heap.size+1) rfl _ 68 (L8 w _ _) [.int .i64 0,.int .i64 0,.float .f64 0,.string ⟨#[]⟩,.bool false] rfl 5 rfl rfl (by kernel_rfl) rfl ?_;intro w2 h2 hm2;have H2:=Lib.hid h2;have Hm2:=Lib.hid hm2;clear h2 hm2)
 exact o3 rfl (w.heap.size+1) rfl _ (e7.row H2.out) (by kernel_rfl) (by kernel_rfl) rfl ⟨rfl,Hm0.out _ _ _ Hm2.out⟩
def V.eqG (a b:V):Bool:=a.kind==b.kind&&(a.int==b.int&&(fEq a.num b.num&&(a.text.toList==b.text.toList&&a.yes==b.yes)))
theorem a3K {P:Program} (w:World) (d:Nat) (t:TypeId) (a b:Nat) (h:P.underlying t=some (.float .f64)):(Op.equalIn (d+1) t (.float .f64 a) (.float .f64 b)).run P w= .ok (fEq a b) w:=by
 simp [Op.equalIn,run_underlying h,Op.floatEq,fEq]
theorem a9c (a b:V) (w:World):(binOp .eql 68 (.agg a.cells.toArray) (.agg b.cells.toArray)).run Tryz.prog w= .ok (.bool (V.eqG a b)) w:=by
 have hf:(Tryz.prog.fieldsOf 68).toList.map (fun f=>(f.name== "_",f.type,f.offset))=[(false,3,0),(false,2,1),(false,66,2),(false,9,3),(false,4,4)]:=by kernel_rfl
 rw [run_eql_struct,run_equalIn_agg w 9999 _ _ _ (by kernel_rfl) (by kernel_rfl)];have h49:=fun w d a b=>a3K (P:=Tryz.prog) w d 66 a b Tryz.underlying66;obtain ⟨k1,i1,n1,t1,y1⟩:=a;obtain ⟨k2,i2,n2,t2,y2⟩:=b;unfold V.eqG V.cells;simp [go_sem,Program.fieldsOf,Op.eqFields,h49];by_cases h1:k1=k2<;>by_cases h2:i1=i2<;>cases h3:fEq n1 n2<;>by_cases h4:t1.toList=t2.toList<;>by_cases h5:y1=y2<;>simp [h1,h2,h4,h5]
def V.kept (v:V):Bool:=if v.void then V.eqG {v.canon with num:=0} {v with num:=0} else V.eqG v.canon v
theorem b3g (v:V) (w:World):Calls Tryz.prog 52 #[.agg v.cells.toArray] w fun e w'=>e= .returned (.bool v.kept)/\Mod (fun _=>False) w w':=by
 have heq:=fun a b=>a9c a b;have hg1:(w.alloc (.cells v.cells.toArray 68)).heap[w.heap.size]? =some (.cells v.cells.toArray 68 (0,0)):=heap_alloc_new w _;have Hc:=Lib.hid fun w=>Y7 v w;have Hv:=Lib.hid fun w=>V7 v w;obtain ⟨Hg1,Heq⟩:=zh2 hg1 heq;have hgd:Tryz.prog.eqGuardType Tryz.prog.depth 68=false:=by kernel_rfl
 clear hg1 heq;obtain ⟨R,hR⟩:∃R,v.kept=R:=⟨_,rfl⟩;rw [hR];have HR:=zh hR;clear hR
 go_enter Tryz.func52,Tryz.ntmps52
 go_wp2_with (first|(refine q6 rfl 68 (.tmp 1) rfl w.heap.size 0 rfl v.cells (e7.row Hg1.out) (by kernel_rfl) (by kernel_rfl) ?_)|fail)
 refine (Hc.out _).mono ?_;rintro e w1 ⟨rfl,hm1⟩;have hg11:=hm1.heap Hg1.out (by simp);have hl1:w.heap.size<w1.heap.size:=(zz7 hg11).1;have hm01:Mod (fun _=>False) w w1:=((Mod.refl (fun _=>False) w).alloc _).trans hm1 (fun _ _ h=>h);have Hm01:=zh hm01;have hg12:=a5r (o:= .cells v.canon.cells.toArray 68) hg11;have hg3:=heap_alloc_new w1 (.cells v.canon.cells.toArray 68);obtain ⟨Hg12,Hg3⟩:=zh2 hg12 hg3;clear hm1 hg11 hm01 hg12 hg3 Hc
 go_wp2_with (first|(refine K3 rfl 68 (.tmp 3) (.tmp 5) rfl rfl _ 68 v.canon.cells rfl rfl (by kernel_rfl) (fun u hu=>zz15 (show v.canon.cells.all (·.oneCell')=true from rfl) u hu) ?_)|(refine q6 rfl 68 (.tmp 1) rfl w.heap.size 0 rfl v.cells (e7.row Hg12.out) (by kernel_rfl) (by kernel_rfl) ?_)|fail)
 refine (Hv.out _).mono ?_;rintro e w2 ⟨rfl,hm2⟩;have hg13:=hm2.heap Hg12.out (by simp);have hg33:=hm2.heap Hg3.out (by simp);have hm02:Mod (fun _=>False) w w2:=(Hm01.out.alloc _).trans hm2 (fun _ _ h=>h);have Hm02:=zh hm02
 cases hvo:v.void with
 |false=>
  obtain ⟨Hvo,Hg13,Hg33⟩:=zh3 hvo hg13 hg33;have he:=Heq.out v.canon v;clear hm2 hg13 hg33 hm02 hvo Hv
  go_wp2_with (first|(refine q6 rfl 68 (.tmp 3) rfl w1.heap.size 0 rfl v.canon.cells (e7.row Hg33.out) (by kernel_rfl) (by kernel_rfl) ?_)|(refine q6 rfl 68 (.tmp 1) rfl w.heap.size 0 rfl v.cells (e7.row Hg13.out) (by kernel_rfl) (by kernel_rfl) ?_)|fail)
  go_ret;have h:=HR.out;unfold V.kept at h;rw [Hvo.out,if_neg (by decide)] at h;subst h;exact ⟨rfl,Hm02.out⟩
 |true=>
  have c3:w2.cell? ⟨w1.heap.size,2,none⟩=some (.float .f64 v.canon.num):=d6 hg33 rfl;have f3:w2.frozen? ⟨w1.heap.size,2,none⟩=false:=L7 hg33;have c1:w2.cell? ⟨w.heap.size,2,none⟩=some (.float .f64 v.num):=d6 hg13 rfl;have f1:w2.frozen? ⟨w.heap.size,2,none⟩=false:=L7 hg13;have hne:w.heap.size≠w1.heap.size:=by omega
  have hne':w1.heap.size≠w.heap.size:=by omega
  have mA:Mod (fun k=>k=w1.heap.size) w2 (w2.setCell ⟨w1.heap.size,2,none⟩ (.float .f64 0)):=(Mod.refl (fun k=>k=w1.heap.size) w2).setCell (fun _=>rfl) _;have mB:Mod (fun k=>k=w.heap.size) (w2.setCell ⟨w1.heap.size,2,none⟩ (.float .f64 0)) ((w2.setCell ⟨w1.heap.size,2,none⟩ (.float .f64 0)).setCell ⟨w.heap.size,2,none⟩ (.float .f64 0)):=(Mod.refl (fun k=>k=w.heap.size) (w2.setCell ⟨w1.heap.size,2,none⟩ (.float .f64 0))).setCell (fun _=>rfl) _;have hA3:((w2.setCell ⟨w1.heap.size,2,none⟩ (.float .f64 0)).setCell ⟨w.heap.size,2,none⟩ (.float .f64 0)).heap[w1.heap.size]? =some (.cells (V.cells {v.canon with num:=0}).toArray 68 (0,0)):=mB.heap (p7 hg33) (by omega);have hA1:((w2.setCell ⟨w1.heap.size,2,none⟩ (.float .f64 0)).setCell ⟨w.heap.size,2,none⟩ (.float .f64 0)).heap[w.heap.size]? =some (.cells (V.cells {v with num:=0}).toArray 68 (0,0)):=p7 (mA.heap hg13 (by omega));have hm3:Mod (fun _=>False) w ((w2.setCell ⟨w1.heap.size,2,none⟩ (.float .f64 0)).setCell ⟨w.heap.size,2,none⟩ (.float .f64 0)):=(hm02.trans (mA.mono (fun k hk h=>h)) (fun b hb h=>by omega)).trans mB (fun b hb h=>by omega);obtain ⟨Hvo,HA3,HA1,Hm3⟩:=zh4 hvo hA3 hA1 hm3;have he:=Heq.out {v.canon with num:=0} {v with num:=0};clear hm2 hg13 hg33 hm02 hvo Hv mA mB hA3 hA1 hm3
  go_wp2_with (first|(refine q6 rfl 68 (.tmp 3) rfl w1.heap.size 0 rfl (V.cells {v.canon with num:=0}) (e7.row HA3.out) (by kernel_rfl) (by kernel_rfl) ?_)|(refine q6 rfl 68 (.tmp 1) rfl w.heap.size 0 rfl (V.cells {v with num:=0}) (e7.row HA1.out) (by kernel_rfl) (by kernel_rfl) ?_)|fail)
  go_ret;have h:=HR.out;unfold V.kept at h;rw [Hvo.out,if_pos rfl] at h;subst h;exact ⟨rfl,Hm3.out⟩
end
end Go.Proofs.YtaenebdppkjhoaaGreatDoor
