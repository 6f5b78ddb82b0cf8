/- Lemmas. -/
import Derived.Test.YtebhabpahfmodaaGreatDoorZh1
import Derived.Laws.StructEq
import Derived.Laws.Cover1
set_option maxHeartbeats 40000000
set_option maxRecDepth 20000
namespace Go.Proofs.YtebhabpahfmodaaGreatDoor
section
open Go.RowKit
structure V where
 kind:Int
 int:Int
 num:Nat
 text:ByteArray
 yes:Bool
def V.cells (v:V):List Value:=[.int .i64 v.kind,.int .i64 v.int,.float .f64 v.num,.string v.text,.bool v.yes]
def V.zero:V:=⟨0,0,0,⟨#[]⟩,false⟩
def V.right (v:V):Bool:=decide (0<=v.kind)&&(decide (v.kind<=3)&&decide (v.text.size<=40))
def V.canon (v:V):V:=
 if v.kind=0 then {V.zero with kind:=0,int:=v.int} else if v.kind=1 then {V.zero with kind:=1,num:=m4 v.num} else
 if v.kind=2 then {V.zero with kind:=2,text:=v.text} else if v.kind=3 then {V.zero with kind:=3,yes:=v.yes} else V.zero
def V.void (v:V):Bool:=v.kind==1&& !fEq v.num v.num
theorem a2I (v:V) (w:World):Calls Tryz.prog 60 #[.agg v.cells.toArray] w fun e w'=>e= .returned (.bool v.right)/\Mod (fun _=>False) w w':=by
 obtain ⟨kind,int,num,text,yes⟩:=v;unfold V.right V.cells;by_cases h0:0<=kind
 ·by_cases h3:kind<=3
  ·by_cases ht:text.size<=40
   ·have ht':(text.size:Int)<=40:=zo
    rw [decide_eq_true h0,decide_eq_true h3,decide_eq_true ht]
    go_enter Tryz.func60,Tryz.ntmps60
    go_wp2
    go_ret;exact ⟨rfl,(Mod.refl _ w).alloc _⟩
   have ht':(40:Int)<text.size:=zo
   rw [decide_eq_true h0,decide_eq_true h3,decide_eq_false ht]
   go_enter Tryz.func60,Tryz.ntmps60
   go_wp2
   go_ret;exact ⟨congrArg (fun b=>Ending.returned (.bool b)) (decide_eq_false zo),(Mod.refl _ w).alloc _⟩
  have h3':3<kind:=zo
  rw [decide_eq_true h0,decide_eq_false h3]
  go_enter Tryz.func60,Tryz.ntmps60
  go_wp2
  go_ret;exact ⟨rfl,(Mod.refl _ w).alloc _⟩
 have h0':kind<0:=zo
 rw [decide_eq_false h0]
 go_enter Tryz.func60,Tryz.ntmps60
 go_wp2
 go_ret;exact ⟨rfl,(Mod.refl _ w).alloc _⟩
theorem Y5 (v:V) (w:World):Calls Tryz.prog 115 #[.agg v.cells.toArray] w fun e w'=>e= .returned (.bool v.void)/\Mod (fun _=>False) w w':=by
 obtain ⟨kind,int,num,text,yes⟩:=v;unfold V.void V.cells;have Hn:=Lib.hid fun w=>b3R num w;by_cases h1:kind=1
 ·have h1b:(kind==1)=true:=by rw [h1];rfl
  rw [h1b];subst h1
  go_enter Tryz.func115,Tryz.ntmps115
  go_wp2_with fail
  refine (Hn.out _).mono ?_;rintro e w1 ⟨rfl,rfl⟩
  go_wp2
  go_ret;exact ⟨rfl,(Mod.refl _ w).alloc _⟩
 have h1b:(kind==1)=false:=by rw [beq_eq_false_iff_ne];exact h1
 rw [h1b]
 go_enter Tryz.func115,Tryz.ntmps115
 go_wp2
 go_ret;exact ⟨rfl,(Mod.refl _ w).alloc _⟩
theorem a0t (v:V) (w:World):Calls Tryz.prog 74 #[.agg v.cells.toArray] w fun e w'=>e= .returned (.agg v.canon.cells.toArray)/\Mod (fun _=>False) w w':=by
 obtain ⟨kind,int,num,text,yes⟩:=v;have Hc:=Lib.hid fun w=>a3x num w
 have hm0:∀(A B:Obj) (w':World),Mod (fun k=>k=w.heap.size+1) ((w.alloc A).alloc B) w'->Mod (fun _=>False) w w':=fun A B w' h=>
  (((Mod.refl (fun _=>False) w).alloc A).alloc B).trans h (fun b hb h=>zo)
 have nE:=zh hm0;clear hm0;by_cases h0:kind=0
 ·have hv:(V.canon ⟨kind,int,num,text,yes⟩).cells=[.int .i64 0,.int .i64 int,.float .f64 0,.string ⟨#[]⟩,.bool false]:=by unfold V.canon;rw [if_pos h0];rfl
  rw [hv];unfold V.cells;subst h0;clear hv
  go_enter Tryz.func74,Tryz.ntmps74
  go_wp2_with (refine A1 rfl 85 (.tmp 2) (.tmp 9) rfl (w.heap.size+1) rfl _ 85 (O2 w _ _) [.int .i64 0,.int .i64 int,.float .f64 0,.string ⟨#[]⟩,.bool false] rfl 5 rfl rfl zk rfl ?_;intro w2 h2 hm2;have H2:=Lib.hid h2;have bq:=Lib.hid hm2;clear h2 hm2)
  exact o7 rfl (w.heap.size+1) rfl _ (e9.row H2.out) zk zk rfl ⟨rfl,nE.out _ _ _ bq.out⟩
 by_cases h1:kind=1
 ·have hv:(V.canon ⟨kind,int,num,text,yes⟩).cells=[.int .i64 1,.int .i64 0,.float .f64 (m4 num),.string ⟨#[]⟩,.bool false]:=by unfold V.canon;rw [if_neg h0,if_pos h1];rfl
  rw [hv];unfold V.cells;subst h1;clear hv h0
  go_enter Tryz.func74,Tryz.ntmps74
  go_wp2_with fail
  refine (Hc.out _).mono ?_;rintro e w1 ⟨rfl,rfl⟩
  go_wp2_with (refine A1 rfl 85 (.tmp 2) (.tmp 15) rfl (w.heap.size+1) rfl _ 85 (O2 w _ _) [.int .i64 1,.int .i64 0,.float .f64 (m4 num),.string ⟨#[]⟩,.bool false] rfl 5 rfl rfl zk rfl ?_;intro w2 h2 hm2;have H2:=Lib.hid h2;have bq:=Lib.hid hm2;clear h2 hm2)
  exact o7 rfl (w.heap.size+1) rfl _ (e9.row H2.out) zk zk rfl ⟨rfl,nE.out _ _ _ bq.out⟩
 by_cases h2:kind=2
 ·have hv:(V.canon ⟨kind,int,num,text,yes⟩).cells=[.int .i64 2,.int .i64 0,.float .f64 0,.string text,.bool false]:=by unfold V.canon;rw [if_neg h0,if_neg h1,if_pos h2];rfl
  rw [hv];unfold V.cells;subst h2;clear hv h0 h1
  go_enter Tryz.func74,Tryz.ntmps74
  go_wp2_with (refine A1 rfl 85 (.tmp 2) (.tmp 20) rfl (w.heap.size+1) rfl _ 85 (O2 w _ _) [.int .i64 2,.int .i64 0,.float .f64 0,.string text,.bool false] rfl 5 rfl rfl zk rfl ?_;intro w2 h2 hm2;have H2:=Lib.hid h2;have bq:=Lib.hid hm2;clear h2 hm2)
  exact o7 rfl (w.heap.size+1) rfl _ (e9.row H2.out) zk zk rfl ⟨rfl,nE.out _ _ _ bq.out⟩
 by_cases h3:kind=3
 ·have hv:(V.canon ⟨kind,int,num,text,yes⟩).cells=[.int .i64 3,.int .i64 0,.float .f64 0,.string ⟨#[]⟩,.bool yes]:=by unfold V.canon;rw [if_neg h0,if_neg h1,if_neg h2,if_pos h3];rfl
  rw [hv];unfold V.cells;subst h3;clear hv h0 h1 h2
  go_enter Tryz.func74,Tryz.ntmps74
  go_wp2_with (refine A1 rfl 85 (.tmp 2) (.tmp 25) rfl (w.heap.size+1) rfl _ 85 (O2 w _ _) [.int .i64 3,.int .i64 0,.float .f64 0,.string ⟨#[]⟩,.bool yes] rfl 5 rfl rfl zk rfl ?_;intro w2 h2 hm2;have H2:=Lib.hid h2;have bq:=Lib.hid hm2;clear h2 hm2)
  exact o7 rfl (w.heap.size+1) rfl _ (e9.row H2.out) zk zk rfl ⟨rfl,nE.out _ _ _ bq.out⟩
 have hv:(V.canon ⟨kind,int,num,text,yes⟩).cells=[.int .i64 0,.int .i64 0,.float .f64 0,.string ⟨#[]⟩,.bool false]:=by unfold V.canon;rw [if_neg h0,if_neg h1,if_neg h2,if_neg h3];rfl
 rw [hv];unfold V.cells;clear hv
 go_enter Tryz.func74,Tryz.ntmps74
 go_wp2_with (refine A1 rfl 85 (.tmp 2) (.tmp 26) rfl (w.heap.size+1) rfl _ 85 (O2 w _ _) [.int .i64 0,.int .i64 0,.float .f64 0,.string ⟨#[]⟩,.bool false] rfl 5 rfl rfl zk rfl ?_;intro w2 h2 hm2;have H2:=Lib.hid h2;have bq:=Lib.hid hm2;clear h2 hm2)
 exact o7 rfl (w.heap.size+1) rfl _ (e9.row H2.out) zk zk rfl ⟨rfl,nE.out _ _ _ bq.out⟩
def V.eqG (a b:V):Bool:=a.kind==b.kind&&(a.int==b.int&&(fEq a.num b.num&&(a.text.toList==b.text.toList&&a.yes==b.yes)))
theorem a4C {P:Program} (w:World) (d:Nat) (t:TypeId) (a b:Nat) (h:P.underlying t=some (.float .f64)):(Op.equalIn (d+1) t (.float .f64 a) (.float .f64 b)).run P w= .ok (fEq a b) w:=by
 simp [Op.equalIn,run_underlying h,Op.floatEq,fEq]
theorem a97 (a b:V) (w:World):(binOp .eql 85 (.agg a.cells.toArray) (.agg b.cells.toArray)).run Tryz.prog w= .ok (.bool (V.eqG a b)) w:=by
 have hf:(Tryz.prog.fieldsOf 85).toList.map (fun f=>(f.name== "_",f.type,f.offset))=[(false,3,0),(false,2,1),(false,83,2),(false,9,3),(false,4,4)]:=by kernel_rfl
 rw [run_eql_struct,run_equalIn_agg w 9999 _ _ _ zk zk];have ZH:=fun w d a b=>a4C (P:=Tryz.prog) w d 83 a b Tryz.underlying83;obtain ⟨k1,i1,n1,t1,y1⟩:=a;obtain ⟨k2,i2,n2,t2,y2⟩:=b;unfold V.eqG V.cells;simp [go_sem,Program.fieldsOf,Op.eqFields,ZH];by_cases h1:k1=k2<;>by_cases h2:i1=i2<;>cases h3:fEq n1 n2<;>by_cases h4:t1.toList=t2.toList<;>by_cases h5:y1=y2<;>simp [h1,h2,h4,h5]
def V.kept (v:V):Bool:=if v.void then V.eqG {v.canon with num:=0} {v with num:=0} else V.eqG v.canon v
theorem b4g (v:V) (w:World):Calls Tryz.prog 77 #[.agg v.cells.toArray] w fun e w'=>e= .returned (.bool v.kept)/\Mod (fun _=>False) w w':=by
 have heq:=fun a b=>a97 a b;have hg1:(w.alloc (.cells v.cells.toArray 85)).heap[w.heap.size]? =some (.cells v.cells.toArray 85 (0,0)):=heap_alloc_new w _;have Hc:=Lib.hid fun w=>a0t v w;have Hv:=Lib.hid fun w=>Y5 v w;obtain ⟨lJ,Ny⟩:=zh2 hg1 heq;have hgd:Tryz.prog.eqGuardType Tryz.prog.depth 85=false:=zk
 clear hg1 heq;obtain ⟨R,hR⟩:∃R,v.kept=R:=⟨_,rfl⟩;rw [hR];have HR:=zh hR;clear hR
 go_enter Tryz.func77,Tryz.ntmps77
 go_wp2_with (refine q8 rfl 85 (.tmp 1) rfl w.heap.size 0 rfl v.cells (e9.row lJ.out) zk zk ?_)
 refine (Hc.out _).mono ?_;rintro e w1 ⟨rfl,hm1⟩;have Bn:=hm1.heap lJ.out (by simp);have hl1:w.heap.size<w1.heap.size:=(zz7 Bn).1;have bE:Mod (fun _=>False) w w1:=((Mod.refl (fun _=>False) w).alloc _).trans hm1 zi;have bF:=zh bE;have GD:=a6f (o:= .cells v.canon.cells.toArray 85) Bn;have hg3:=heap_alloc_new w1 (.cells v.canon.cells.toArray 85);obtain ⟨GG,gm⟩:=zh2 GD hg3;clear hm1 Bn bE GD hg3 Hc
 go_wp2_with (first|(refine N3 rfl 85 (.tmp 3) (.tmp 5) rfl rfl _ 85 v.canon.cells rfl rfl zk (fun u hu=>zz15 (show v.canon.cells.all (·.oneCell')=true from rfl) u hu) ?_)|(refine q8 rfl 85 (.tmp 1) rfl w.heap.size 0 rfl v.cells (e9.row GG.out) zk zk ?_))
 refine (Hv.out _).mono ?_;rintro e w2 ⟨rfl,hm2⟩;have oI:=hm2.heap GG.out (by simp);have oJ:=hm2.heap gm.out (by simp);have aG:Mod (fun _=>False) w w2:=(bF.out.alloc _).trans hm2 zi;have aI:=zh aG
 cases ol:v.void with
 |false=>
  obtain ⟨ER,Py,Pz⟩:=zh3 ol oI oJ;have he:=Ny.out v.canon v;clear hm2 oI oJ aG ol Hv
  go_wp2_with (first|(refine q8 rfl 85 (.tmp 3) rfl w1.heap.size 0 rfl v.canon.cells (e9.row Pz.out) zk zk ?_)|(refine q8 rfl 85 (.tmp 1) rfl w.heap.size 0 rfl v.cells (e9.row Py.out) zk zk ?_))
  go_ret;have h:=HR.out;unfold V.kept at h;rw [ER.out,if_neg zd] at h;subst h;exact ⟨rfl,aI.out⟩
 |true=>
  have c3:w2.cell? ⟨w1.heap.size,2,none⟩=some (.float .f64 v.canon.num):=d6 oJ rfl;have f3:w2.frozen? ⟨w1.heap.size,2,none⟩=false:=J1 oJ;have c1:w2.cell? ⟨w.heap.size,2,none⟩=some (.float .f64 v.num):=d6 oI rfl;have f1:w2.frozen? ⟨w.heap.size,2,none⟩=false:=J1 oI;have hne:w.heap.size≠w1.heap.size:=zo
  have hne':w1.heap.size≠w.heap.size:=zo
  have mA:Mod (fun k=>k=w1.heap.size) w2 (w2.setCell ⟨w1.heap.size,2,none⟩ (.float .f64 0)):=(Mod.refl (fun k=>k=w1.heap.size) w2).setCell (fun _=>rfl) _;have mB:Mod (fun k=>k=w.heap.size) (w2.setCell ⟨w1.heap.size,2,none⟩ (.float .f64 0)) ((w2.setCell ⟨w1.heap.size,2,none⟩ (.float .f64 0)).setCell ⟨w.heap.size,2,none⟩ (.float .f64 0)):=(Mod.refl (fun k=>k=w.heap.size) (w2.setCell ⟨w1.heap.size,2,none⟩ (.float .f64 0))).setCell (fun _=>rfl) _;have hA3:((w2.setCell ⟨w1.heap.size,2,none⟩ (.float .f64 0)).setCell ⟨w.heap.size,2,none⟩ (.float .f64 0)).heap[w1.heap.size]? =some (.cells (V.cells {v.canon with num:=0}).toArray 85 (0,0)):=mB.heap (o6 oJ) zo;have hA1:((w2.setCell ⟨w1.heap.size,2,none⟩ (.float .f64 0)).setCell ⟨w.heap.size,2,none⟩ (.float .f64 0)).heap[w.heap.size]? =some (.cells (V.cells {v with num:=0}).toArray 85 (0,0)):=o6 (mA.heap oI zo);have aC:Mod (fun _=>False) w ((w2.setCell ⟨w1.heap.size,2,none⟩ (.float .f64 0)).setCell ⟨w.heap.size,2,none⟩ (.float .f64 0)):=(aG.trans (mA.mono (fun k hk h=>h)) (fun b hb h=>zo)).trans mB (fun b hb h=>zo);obtain ⟨ER,eH,HA1,bA⟩:=zh4 ol hA3 hA1 aC;have he:=Ny.out {v.canon with num:=0} {v with num:=0};clear hm2 oI oJ aG ol Hv mA mB hA3 hA1 aC
  go_wp2_with (first|(refine q8 rfl 85 (.tmp 3) rfl w1.heap.size 0 rfl (V.cells {v.canon with num:=0}) (e9.row eH.out) zk zk ?_)|(refine q8 rfl 85 (.tmp 1) rfl w.heap.size 0 rfl (V.cells {v with num:=0}) (e9.row HA1.out) zk zk ?_))
  go_ret;have h:=HR.out;unfold V.kept at h;rw [ER.out,if_pos rfl] at h;subst h;exact ⟨rfl,bA.out⟩
def F9 (i:Nat) (b:UInt8):Bool:=(decide (97<=b.toNat)&&decide (b.toNat<=122))||(decide (0<i)&&decide (48<=b.toNat)&&decide (b.toNat<=57))
def o9 (s:ByteArray):Bool:=(s.data.toList.zipIdx.all fun x=>F9 x.2 x.1)&&(decide (s.size≠0)&&decide (s.size<=12))
theorem R6 {s:ByteArray} {k:Nat} {b:UInt8} (h:s.data.toList[k]? =some b) (hb:F9 k b=false):o9 s=false:=by
 unfold o9
 have:(s.data.toList.zipIdx.all fun x=>F9 x.2 x.1)=false:=by
  rw [List.all_eq_false];exact ⟨(b,k),List.mem_zipIdx_iff_getElem?.2 h,by simp [hb]⟩
 rw [this,Bool.false_and]
theorem a7X {s:ByteArray} (h:∀j b,j<s.size->s.data.toList[j]? =some b->F9 j b=true):o9 s=(decide (s.size≠0)&&decide (s.size<=12)):=by
 unfold o9
 have:(s.data.toList.zipIdx.all fun x=>F9 x.2 x.1)=true:=by
  rw [List.all_eq_true];rintro ⟨b,k⟩ hm;have hb:=List.mem_zipIdx_iff_getElem?.1 hm;have hk:=(zz6 hb).1;exact h k b hk hb
 rw [this,Bool.true_and]
theorem a1y (s:ByteArray) (hs:s.size<=9223372036854775807) (w:World):Calls Tryz.prog 55 #[.string s] w fun e w'=>e= .returned (.bool (o9 s))/\w'=w:=by
 have hs':(s.size:Int)<=9223372036854775807:=zo
 have Hs:=zh hs;clear hs;obtain ⟨R,hR⟩:∃R,o9 s=R:=⟨_,rfl⟩;rw [hR];have HR:=zh hR;clear hR
 go_enter Tryz.func55,Tryz.ntmps55
 go_wp2_with fail
 go_loopw [6] (fun i wr=>∃k:Nat,k<=s.size/\i= .int .i64 k/\wr=w/\(∀j b,j<k->s.data.toList[j]? =some b->F9 j b=true)) (fun i _=>s.size - (intOf i).toNat)
 case atStart=>exact ⟨0,Nat.zero_le _,rfl,rfl,fun j b hj=>zo⟩
 case round=>
  obtain ⟨k,hk,rfl,hw,hall⟩:=hrel;subst hw;by_cases hlt:k<s.size
  ·have hlt':(k:Int)<s.size:=zo
   have aM:=zh hall;clear hall
   have hsk:s.data.toList[k]? =some s[k]:=by
    rw [zz5 (show k<s.data.toList.length from hlt)];rfl
   have iU:=zh hsk;clear hsk;have hcase:((97:Int)<=(s[k].toNat:Int)/\(s[k].toNat:Int)<=122)\/(((s[k].toNat:Int)<97\/(122:Int)<(s[k].toNat:Int))/\0<k/\(48:Int)<=(s[k].toNat:Int)/\(s[k].toNat:Int)<=57)\/((s[k].toNat:Int)<97/\k=0)\/((122:Int)<(s[k].toNat:Int)/\k=0)\/(0<k/\(s[k].toNat:Int)<48)\/(0<k/\(57:Int)<(s[k].toNat:Int)/\(s[k].toNat:Int)<97)\/(0<k/\(122:Int)<(s[k].toNat:Int)):=zo
   rcases hcase with ⟨h1,h2⟩|⟨h1,h2,h3,h4⟩|⟨h1,h2⟩|⟨h1,h2⟩|⟨h1,h2⟩|⟨h1,h2,h3⟩|⟨h1,h2⟩
   ·go_wp2
    go_roundw
    case rel=>
     refine ⟨k+1,zo,by go_num,trivial,fun j b hj hb=> ?_⟩;rcases Nat.lt_succ_iff_lt_or_eq.1 hj with hj|hj
     ·exact aM.out j b hj hb
     subst hj;rw [iU.out] at hb;cases hb
     unfold F9;simp only [Bool.or_eq_true,Bool.and_eq_true,decide_eq_true_eq];omega
    case measure=>simp [intOf];omega
   ·have h0':(0:Int)<k:=zo
    have h5:(s[k].toNat:Int)<97:=zo
    clear h1
    go_wp2
    go_roundw
    case rel=>
     refine ⟨k+1,zo,by go_num,trivial,fun j b hj hb=> ?_⟩;rcases Nat.lt_succ_iff_lt_or_eq.1 hj with hj|hj
     ·exact aM.out j b hj hb
     subst hj;rw [iU.out] at hb;cases hb
     unfold F9;simp only [Bool.or_eq_true,Bool.and_eq_true,decide_eq_true_eq];omega
    case measure=>simp [intOf];omega
   ·subst h2
    go_wp2
    all_goals first
     |(exfalso;omega)
     | (go_ret
        refine ⟨congrArg (fun b=>Ending.returned (.bool b)) (((HR.out).symm.trans (R6 iU.out ?_)).symm),rfl⟩;unfold F9;simp only [Bool.or_eq_false_iff,Bool.and_eq_false_iff,decide_eq_false_iff_not]
        omega)
   ·subst h2;have h5:(97:Int)<=(s[0].toNat:Int):=zo
    have GH:decide ((s[0].toNat:Int)<=122)=false:=decide_eq_false zo
    go_wp2
    all_goals first
     |(exfalso;omega)
     | (go_ret
        refine ⟨congrArg (fun b=>Ending.returned (.bool b)) (((HR.out).symm.trans (R6 iU.out ?_)).symm),rfl⟩;unfold F9;simp only [Bool.or_eq_false_iff,Bool.and_eq_false_iff,decide_eq_false_iff_not]
        omega)
   ·have h0':(0:Int)<k:=zo
    have h5:(s[k].toNat:Int)<97:=zo
    go_wp2
    all_goals first
     |(exfalso;omega)
     | (go_ret
        refine ⟨congrArg (fun b=>Ending.returned (.bool b)) (((HR.out).symm.trans (R6 iU.out ?_)).symm),rfl⟩;unfold F9;simp only [Bool.or_eq_false_iff,Bool.and_eq_false_iff,decide_eq_false_iff_not]
        omega)
   ·have h0':(0:Int)<k:=zo
    have h5:(48:Int)<=(s[k].toNat:Int):=zo
    have PD:decide ((s[k].toNat:Int)<=57)=false:=decide_eq_false zo
    go_wp2
    all_goals first
     |(exfalso;omega)
     | (go_ret
        refine ⟨congrArg (fun b=>Ending.returned (.bool b)) (((HR.out).symm.trans (R6 iU.out ?_)).symm),rfl⟩;unfold F9;simp only [Bool.or_eq_false_iff,Bool.and_eq_false_iff,decide_eq_false_iff_not]
        omega)
   have h0':(0:Int)<k:=zo
   have h5:(97:Int)<=(s[k].toNat:Int):=zo
   have h6:(48:Int)<=(s[k].toNat:Int):=zo
   have h7:(57:Int)<(s[k].toNat:Int):=zo
   have PD:decide ((s[k].toNat:Int)<=57)=false:=decide_eq_false zo;have GH:decide ((s[k].toNat:Int)<=122)=false:=decide_eq_false zo
   go_wp2
   all_goals first
    |(exfalso;omega)
    | (go_ret
       refine ⟨congrArg (fun b=>Ending.returned (.bool b)) (((HR.out).symm.trans (R6 iU.out ?_)).symm),rfl⟩;unfold F9;simp only [Bool.or_eq_false_iff,Bool.and_eq_false_iff,decide_eq_false_iff_not]
       omega)
  obtain rfl:k=s.size:=zo
  have hn:=a7X hall;rw [HR.out] at hn;clear hall
  have hse:s.toList.isEmpty=decide (s.size=0):=by
   rw [ByteArray.toList_eq];show s.data.toList.isEmpty=decide (s.data.toList.length=0);cases s.data.toList<;>simp
  have hd:((s.size:Int)<=12)=(s.size<=12):=by apply propext;omega
  by_cases h0:s.size=0
  ·rw [decide_eq_true h0] at hse;rw [decide_eq_false (by simp [h0]),Bool.false_and] at hn;have HN:=zh hn;clear hn h0 hd
   go_wp2
   go_ret;exact ⟨by rw [HN.out];rfl,rfl⟩
  rw [decide_eq_false h0] at hse;rw [decide_eq_true h0,Bool.true_and] at hn;obtain ⟨HN,HD⟩:=zh2 hn hd;clear hn h0 hd
  go_wp2
  go_ret;refine ⟨?_,rfl⟩;rw [HN.out];exact congrArg (fun b=>Ending.returned (.bool b)) (by simp only [HD.out])
structure Att where
 name:ByteArray
 v:V
def Att.cells (a:Att):List Value:= .string a.name::a.v.cells
theorem Att.cells_length (a:Att):a.cells.length=6:=rfl
def k7 (l:List Att):List Value:=l.flatMap Att.cells
theorem Y6 (l:List Att) {k j:Nat} {a:Att} {u:Value} (h:l[k]? =some a) (hj:a.cells[j]? =some u):(k7 l)[6*k+j]? =some u:=by
 induction l generalizing k with
 |nil=>simp at h
 | cons b l ih=>
  unfold k7 at ih⊢;rw [List.flatMap_cons]
  cases k with
  |zero=>
   simp only [List.getElem?_cons_zero,Option.some.injEq] at h;subst h;have:=(zz6 hj).1;rw [List.getElem?_append_left zo,Nat.mul_zero,Nat.zero_add,hj]
  |succ k=>
   rw [List.getElem?_cons_succ] at h;rw [List.getElem?_append_right (by rw [Att.cells_length];omega),Att.cells_length,show 6*(k+1)+j - 6=6*k+j by omega];exact ih h
section
variable {P:Program} {a:Act} {w:World} {C:World->Prop}
structure QW (P:Program) (ops:Array Oper) (C:World->Prop) (Q:Act->Prop) (l:List Oper) (a:Act):Prop where
 out:wpQuiet P ops C Q l a
theorem i7 {id:Nat} {Q:Exit->Act->World->Prop} {l:List Oper} (hm:P.follows .mixedOrders=true) (hB:Region.lexB .any l.toArray=true)
 (h:QW P l.toArray (fun w'=>Mod (fun _=>False) w w') (fun a'=>∀w',Mod (fun _=>False) w w'->Q .normal a' w') l a):(Code.region id l.toArray true).wp P Q a w:=
 wp_region_quiet (C:=fun w'=>Mod (fun _=>False) w w') hm hB ((Mod.refl _ w).drew) (by simpa using h.out)
theorem a98 {o:Oper} {K:Act->Prop} (u:Value) (h:∀w,C w->(execOp a.eval o).run P w= .ok (.value u) w) (hk:K (a.put o.dst u)):o.quiet P a C K:=
 ⟨u,fun w hw=>by unfold Oper.quietAt;rw [h w hw];exact ⟨rfl,rfl⟩,hk⟩
theorem a7Y {o:Oper} {K:Act->Prop} {f:FuncId} {args:Array Value} (u:Value) (h:∀w,C w->(execOp a.eval o).run P w= .ok (.enter f args) w) (hc:∀w,C w->Calls P f args w fun e w''=>e= .returned u/\C w'')
 (hk:K (a.put o.dst u)):o.quiet P a C K:=
 ⟨u,fun w hw=>by unfold Oper.quietAt;rw [h w hw];exact ⟨rfl,hc w hw⟩,hk⟩
theorem a4R {ops:Array Oper} {rest:List Oper} {o:Oper} {Q:Act->Prop} (hg:Region.wanted o (yielded ops a.tmps)=true) (h:o.quiet P a C (wpQuiet P ops C Q rest)):QW P ops C Q (o::rest) a:=by
 constructor;unfold wpQuiet;rw [if_pos hg];exact h
theorem b14 {ops:Array Oper} {rest:List Oper} {o:Oper} {Q:Act->Prop} (hg:Region.wanted o (yielded ops a.tmps)=false) (h:wpQuiet P ops C Q rest (a.put o.dst undef)):QW P ops C Q (o::rest) a:=by
 constructor;unfold wpQuiet;rw [if_neg (by rw [hg];decide)];exact h
theorem j6 {ops:Array Oper} {rest:List Oper} {o:Oper} {Q:Act->Prop} (hg:Region.wanted o (yielded ops a.tmps)=false) (h:∀K:Act->Prop,(∀a,QW P ops C Q rest a->K a)->K (a.put o.dst undef)):QW P ops C Q (o::rest) a:=
 b14 hg (h _ fun _ h=>h.out)
theorem j7 {ops:Array Oper} {rest:List Oper} {o:Oper} {Q:Act->Prop} (hg:Region.wanted o (yielded ops a.tmps)=true) (u:Value) (hr:∀w,C w->(execOp a.eval o).run P w= .ok (.value u) w)
 (h:∀K:Act->Prop,(∀a,QW P ops C Q rest a->K a)->K (a.put o.dst u)):QW P ops C Q (o::rest) a:=
 a4R hg (a98 u hr (h _ fun _ h=>h.out))
theorem m9 {ops:Array Oper} {rest:List Oper} {o:Oper} {Q:Act->Prop} (hg:Region.wanted o (yielded ops a.tmps)=true) (f:FuncId) (args:Array Value) (u:Value) (hr:∀w,C w->(execOp a.eval o).run P w= .ok (.enter f args) w)
 (hc:∀w,C w->Calls P f args w fun e w''=>e= .returned u/\C w'') (h:∀K:Act->Prop,(∀a,QW P ops C Q rest a->K a)->K (a.put o.dst u)):QW P ops C Q (o::rest) a:=
 a4R hg (a7Y u hr hc (h _ fun _ h=>h.out))
theorem j8 {ops:Array Oper} {Q:Act->Prop} (h:Q a):QW P ops C Q [] a:=⟨h⟩
end
def a7Z (l:List Att) (k:Nat):Bool:=
 match l[k]? with
 |none=>true
 |some a=>o9 a.name&&a.v.right&&(match k with|0=>true|k+1=>match l[k]? with|none=>true|some b=>Op.bytesLess b.name.toList a.name.toList)&&a.v.kept
def t7 (l:List Att):Bool:=(List.range l.length).all (a7Z l)&&decide (l.length<=8)
theorem b4h {l:List Att} {k:Nat} {x q:Att} (h:l[k]? =some x) (hq:l[k - 1]? =some q):a7Z l k=(o9 x.name&&x.v.right&&(decide (k=0)||Op.bytesLess q.name.toList x.name.toList)&&x.v.kept):=by
 unfold a7Z;rw [h]
 cases k with
 |zero=>rfl
 |succ k=>
  rw [Nat.add_sub_cancel] at hq;simp only [hq];rw [decide_eq_false zo,Bool.false_or]
theorem a70 {l:List Att} {k:Nat} (hk:k<l.length) (h:a7Z l k=false):t7 l=false:=by
 unfold t7;rw [List.all_eq_false.2 ⟨k,List.mem_range.2 hk,by rw [h];decide⟩,Bool.false_and]
theorem a6x {l:List Att} (h:∀j,j<l.length->a7Z l j=true):t7 l=decide (l.length<=8):=by
 unfold t7;rw [List.all_eq_true.2 fun j hj=>h j (List.mem_range.1 hj),Bool.true_and]
theorem b4i {p:Prop} (n r z l k:Bool) (h1:n=false->p) (h2:n=true->r=false->p) (h3:n=true->r=true->z=true->k=false->p) (h4:n=true->r=true->z=true->k=true->p)
 (h5:n=true->r=true->z=false->l=false->p) (h6:n=true->r=true->z=false->l=true->k=false->p) (h7:n=true->r=true->z=false->l=true->k=true->p):p:=by
 cases n
 ·exact h1 rfl
 cases r
 ·exact h2 rfl rfl
 cases z
 ·cases l
  ·exact h5 rfl rfl rfl rfl
  cases k
  ·exact h6 rfl rfl rfl rfl rfl
  exact h7 rfl rfl rfl rfl rfl
 ·cases k
  ·exact h3 rfl rfl rfl rfl
  exact h4 rfl rfl rfl rfl
theorem a71:(match Tryz.prog.underlying 85 with|some (.struct _)=>true|some (.array _ _)=>true|_=>false)=true:=zk
theorem b15:(Tryz.prog.info? 85).map (·.size)=some 5:=zk
@[go_sem ↓] theorem b4j {ρ:Operand->Value} {dst:Option Tmp} {x:Operand} {type:TypeId} {pos:String} {after:Array Edge} {guard:Option (Nat×Bool)} {w:World} (h:a6e w (ρ x) 5):
 Sem.run Tryz.prog (execOp ρ ⟨dst,.load 85 x,type,pos,after,guard⟩) w= .ok (.value (.agg (a0l w (ρ x) 5))) w:=I6 a71 b15 h
theorem b16 (sc:ByteArray) (av:Value) (l:List Att) (w:World) (h:j3 w 6 av l.length (k7 l)) (hl:l.length<=100000) (hsz:∀x∈l,x.name.size<=9223372036854775807):
 Calls Tryz.prog 38 #[.agg #[.string sc,av]] w fun e w'=>e= .returned (.bool (t7 l))/\Mod (fun _=>False) w w':=by
 have h0:=h;obtain ⟨h1,a,cap,rfl,h2,h3,h4⟩:=h;have hl':(l.length:Int)<=100000:=zo
 obtain ⟨R,hR⟩:∃R,t7 l=R:=⟨_,rfl⟩;rw [hR];obtain ⟨HR,H0,H4,H1,H3,qN⟩:=zh6 hR h0 h4 h1 h3 hsz;clear h0 h4 h1 hl hR h3 hsz
 go_enter Tryz.func38,Tryz.ntmps38
 go_wp2_with fail
 go_loopw [8] (fun i wr=>∃k:Nat,k<=l.length/\i= .int .i64 k/\Mod (fun _=>False) (w.alloc (.cells #[.string sc,.slice a l.length cap] 31)) wr/\(∀j,j<k->a7Z l j=true)) (fun i _=>l.length - (intOf i).toNat)
 case atStart=>exact ⟨0,Nat.zero_le _,rfl,Mod.refl _ _,fun j hj=>zo⟩
 case round=>
  obtain ⟨k,hk,rfl,hm,hall⟩:=hrel;have GI:=hm.heap (heap_alloc_new w _) (by simp);have hm0:Mod (fun _=>False) w wr:=((Mod.refl (fun _=>False) w).alloc _).trans hm zi;obtain ⟨GJ,nE,aM,Hm⟩:=zh4 GI hm0 hall hm;clear GI hm0 hall hm;by_cases hlt:k<l.length
  ·have hlt':(k:Int)<l.length:=zo
   obtain ⟨x,hx⟩:∃x,l[k]? =some x:=⟨_,zz5 hlt⟩
   obtain ⟨b,hab⟩:∃b,a=some b:=by
    cases a with
    |none=>have:=H3.out rfl;omega
    |some b=>exact ⟨b,rfl⟩
   obtain ⟨p,off,rfl,hc⟩:=H4.out b hab zo;subst hab
   have hxs:e9 wr p (off+k*6) x.cells:=by
    intro j u hu;have:=nE.out.cell (hc (6*k+j) u (Y6 l hx hu)) (by simp);rw [show off+k*6+j=off+(6*k+j) by omega];exact this
   have c0:wr.cell? ⟨p,off+k*6,none⟩=some (.string x.name):=hxs 0 _ rfl;have c1:wr.cell? ⟨p,off+k*6+1,none⟩=some (.int .i64 x.v.kind):=hxs 1 _ rfl;have c2:wr.cell? ⟨p,off+k*6+2,none⟩=some (.int .i64 x.v.int):=hxs 2 _ rfl;have c3:wr.cell? ⟨p,off+k*6+3,none⟩=some (.float .f64 x.v.num):=hxs 3 _ rfl;have c4:wr.cell? ⟨p,off+k*6+4,none⟩=some (.string x.v.text):=hxs 4 _ rfl;have c5:wr.cell? ⟨p,off+k*6+5,none⟩=some (.bool x.v.yes):=hxs 5 _ rfl;obtain ⟨Hxs,Hc,Hx⟩:=zh3 hxs hc hx;clear hxs hc hx H3 H4
   go_wp2_with (refine N3 rfl 112 (.tmp 4) (.tmp 12) rfl rfl _ 112 x.cells rfl rfl zk (fun u hu=>zz15 (show x.cells.all (·.oneCell')=true from rfl) u hu) ?_)
   have hW:=heap_alloc_new wr (.cells x.cells.toArray 112);obtain ⟨q,hq⟩:∃q,l[k - 1]? =some q:=⟨_,zz5 zo⟩
   have hcq:wr.cell? ⟨p,off+(k - 1)*6,none⟩=some (.string q.name):=by
    have:=nE.out.cell (Hc.out (6*(k - 1)+0) (.string q.name) (Y6 l hq rfl)) (by simp);rw [show off+(k - 1)*6=off+(6*(k - 1)+0) by omega];exact this
   have hf:∀w',Mod (fun _=>False) (wr.alloc (.cells x.cells.toArray 112)) w'->w'.cell? ⟨wr.heap.size,0,none⟩=some (.string x.name)/\l8 w' wr.heap.size 1 5/\cellsOf w' wr.heap.size 1 5=x.v.cells.toArray/\w'.cell? ⟨w.heap.size,1,none⟩=some (.slice (some ⟨p,off,none⟩) l.length cap)/\w'.cell? ⟨p,off+(k - 1)*6,none⟩=some (.string q.name):=by
    intro w' hw';have h1:=hw'.heap hW (by simp);have h2:e9 w' wr.heap.size 1 x.v.cells:=fun j u hu=>by have:=e9.row h1 (j+1) u (by simpa [Att.cells] using hu);rw [show 1+j=0+(j+1) by omega];exact this
    have dJ:Mod (fun _=>False) wr w':=((Mod.refl (fun _=>False) wr).alloc _).trans hw' zi;exact ⟨d6 h1 rfl,h2.all rfl,h2.is rfl,d6 (hw'.heap (a6f GJ.out) (by simp)) rfl,dJ.cell hcq (by simp)⟩
   have Hf:=zh hf
   have hname:∀w',Mod (fun _=>False) (wr.alloc (.cells x.cells.toArray 112)) w'->Calls Tryz.prog 55 #[.string x.name] w' fun e w''=>e= .returned (.bool (o9 x.name))/\Mod (fun _=>False) (wr.alloc (.cells x.cells.toArray 112)) w'':=
    fun w' hw'=>(a1y x.name (qN.out x (zz8 Hx.out)) w').mono fun e w'' h=>⟨h.1,h.2▸hw'⟩
   have hrg:∀w',Mod (fun _=>False) (wr.alloc (.cells x.cells.toArray 112)) w'->Calls Tryz.prog 60 #[.agg x.v.cells.toArray] w' fun e w''=>e= .returned (.bool x.v.right)/\Mod (fun _=>False) (wr.alloc (.cells x.cells.toArray 112)) w'':=
    fun w' hw'=>(a2I x.v w').mono fun e w'' h=>⟨h.1,hw'.trans h.2 zi⟩
   have hkp:∀w',Mod (fun _=>False) (wr.alloc (.cells x.cells.toArray 112)) w'->Calls Tryz.prog 77 #[.agg x.v.cells.toArray] w' fun e w''=>e= .returned (.bool x.v.kept)/\Mod (fun _=>False) (wr.alloc (.cells x.cells.toArray 112)) w'':=
    fun w' hw'=>(b4g x.v w').mono fun e w'' h=>⟨h.1,hw'.trans h.2 zi⟩
   obtain ⟨yP,jZ,uV⟩:=zh3 hname hrg hkp;have hok:=b4h Hx.out hq;have eP:=zh hok;have hM:=Hm.out.alloc (.cells x.cells.toArray 112);have HM:=zh hM;clear hM;clear hf hW hname hrg hkp hq hcq hok c0 c1 c2 c3 c4 c5;refine b4i (o9 x.name) x.v.right (decide (k=0)) (Op.bytesLess q.name.toList x.name.toList) x.v.kept (fun hn=> ?_) (fun hn hr=> ?_) (fun hn hr hz hkt=> ?_) (fun hn hr hz hkt=> ?_) (fun hn hr hz hls=> ?_) (fun hn hr hz hls hkt=> ?_) (fun hn hr hz hls hkt=> ?_)
   all_goals try rw [hn] at yP eP
   all_goals try rw [hr] at jZ eP
   all_goals try rw [hkt] at uV eP
   all_goals try rw [hz] at eP
   all_goals try rw [hls] at eP
   all_goals try simp only [decide_eq_true_eq,decide_eq_false_iff_not] at hz
   all_goals clear Hx Hxs Hc qN
   all_goals try (obtain rfl:=hz)
   all_goals try (
    rcases Nat.eq_zero_or_pos k with hk0|hk0
    ·exfalso;omega
    obtain ⟨m,hmk⟩:∃m,k=m+1:=⟨k - 1,zo⟩;subst hmk;have hmw:IntKind.i64.wrap (m:Int)=m:=by rw [IntKind.wrap_i64];omega
    have jX:(m:Int)<l.length:=zo)
   all_goals try rw [Nat.add_sub_cancel] at Hf
   all_goals refine i7 zk zk ?_
   all_goals
    iterate 32 (first
     | (refine j6 ?_ (fun K hK=> ?_)
        ·first|(go_simp;done)|(go_simp;simp [undef];done)
        go_simp;refine hK _ ?_;clear hK K)
     | (refine j7 ?_ ?_ (fun w' hw'=> ?_) (fun K hK=> ?_)
        ·first|(go_simp;done)|(go_simp;simp [undef];done)
        rotate_left
        ·obtain ⟨f1,f2,f3,f4,f5⟩:=Hf.out w' hw';go_simp;rfl
        go_simp;refine hK _ ?_;clear hK K)
     | (refine m9 ?_ ?_ ?_ ?_ (fun w' hw'=> ?_) ?_ (fun K hK=> ?_)
        ·first|(go_simp;done)|(go_simp;simp [undef];done)
        rotate_left 3
        ·obtain ⟨f1,f2,f3,f4,f5⟩:=Hf.out w' hw';go_simp;constructor<;>rfl
        ·first|exact yP.out|exact jZ.out|exact uV.out
        go_simp;refine hK _ ?_;clear hK K))
   all_goals refine j8 (fun w' hw'=> ?_)
   all_goals have hM2:=HM.out.trans hw' zi
   all_goals have hM0:=((Mod.refl (fun _=>False) w).alloc _).trans hM2 zi
   all_goals have ZI:=Lib.hid hM2
   all_goals have ZJ:=Lib.hid hM0
   all_goals have GK:=Lib.hid eP.out
   all_goals clear hM2 hM0 hw' eP
   all_goals go_wp2
   all_goals first
    | (go_ret
       exact ⟨congrArg (fun b=>Ending.returned (.bool b)) ((a70 zo GK.out).symm.trans HR.out),ZJ.out⟩)
    | (go_roundw
       case rel=>
        refine ⟨_,hlt,by go_num,ZI.out,fun j hj=> ?_⟩;rcases Nat.lt_succ_iff_lt_or_eq.1 hj with hj|rfl
        ·exact aM.out j hj
        exact GK.out
       case measure=>simp [intOf];omega)
  obtain rfl:k=l.length:=zo
  have hn:=a6x aM.out;rw [HR.out] at hn;have hd:decide ((l.length:Int)<=8)=R:=by rw [hn];congr 1;apply propext;omega
  have HD:=zh hd;have cb:wr.cell? ⟨w.heap.size,1,none⟩=some (.slice a l.length cap):=d6 GJ.out rfl;clear hn hd
  go_wp2
  go_ret;exact ⟨congrArg (fun b=>Ending.returned (.bool b)) HD.out,nE.out⟩
end
end Go.Proofs.YtebhabpahfmodaaGreatDoor
