/- Lemmas. -/
import Derived.Test.YtebhabpahfmodaaGreatDoorZh7
set_option maxHeartbeats 40000000
set_option maxRecDepth 20000
namespace Go.Proofs.YtebhabpahfmodaaGreatDoor
open Go.RowKit
theorem b1D (x y:Nat) (hx:x<2^64) (hy:y<2^64) (w:World):
 Calls Tryz.prog 87 #[.float .f64 x,.float .f64 y] w fun e w'=>e= .returned (.bool (a02 x==a02 y))/\w'=w:=by
 have Zd:=Lib.hid (b1v x hx w);have Ze:=Lib.hid (b1v y hy w)
 go_enter Tryz.func87,Tryz.ntmps87
 go_wp2_with fail
 refine Zd.out.mono ?_;rintro e w1 ⟨rfl,rfl⟩
 go_wp2_with fail
 refine Ze.out.mono ?_;rintro e w2 ⟨rfl,rfl⟩
 go_wp2
 go_ret;refine ⟨congrArg (fun b=>Ending.returned (.bool b)) ?_,rfl⟩;by_cases h:a02 x=a02 y
 ·rw [h];simp
 rw [beq_eq_false_iff_ne.2 h,beq_eq_false_iff_ne.2 zo]
def V.same (a b:V):Bool:=a.kind==b.kind&&(if a.kind=0 then a.int==b.int else if a.kind=1 then a02 a.num==a02 b.num else if a.kind=2 then a.text.toList==b.text.toList else a.yes==b.yes)
theorem a3B (a b:V) (ha:a.num<2^64) (hb:b.num<2^64) (w:World):
 Calls Tryz.prog 51 #[.agg a.cells.toArray,.agg b.cells.toArray] w fun e w'=>e= .returned (.bool (V.same a b))/\Mod (fun _=>False) w w':=by
 obtain ⟨k1,i1,n1,t1,y1⟩:=a;obtain ⟨k2,i2,n2,t2,y2⟩:=b;have hsm:=fun w=>b1D n1 n2 ha hb w;have Hsm:=zh hsm;have hm2:∀A B:Obj,Mod (fun _=>False) w ((w.alloc A).alloc B):=fun A B=>((Mod.refl _ w).alloc _).alloc _;have bq:=zh hm2;clear hsm hm2 ha hb;unfold V.cells V.same;by_cases hk:k1=k2
 ·subst hk;have hkk:(k1==k1)=true:=by simp
  simp only [hkk,Bool.true_and];rcases (by omega:k1=0\/k1=1\/k1=2\/(k1≠0/\k1≠1/\k1≠2)) with h|h|h|⟨h0,h1,h2⟩
  ·subst h;rw [if_pos rfl]
   go_enter Tryz.func51,Tryz.ntmps51
   go_wp2
   go_ret;exact ⟨rfl,bq.out _ _⟩
  ·subst h;rw [if_neg zd,if_pos rfl]
   go_enter Tryz.func51,Tryz.ntmps51
   go_wp2_with fail
   refine (Hsm.out _).mono ?_;rintro e w2 ⟨rfl,rfl⟩
   go_wp2
   go_ret;exact ⟨rfl,bq.out _ _⟩
  ·subst h;rw [if_neg zd,if_neg zd,if_pos rfl]
   go_enter Tryz.func51,Tryz.ntmps51
   go_wp2
   go_ret;exact ⟨rfl,bq.out _ _⟩
  rw [if_neg h0,if_neg h1,if_neg h2]
  go_enter Tryz.func51,Tryz.ntmps51
  go_wp2
  go_ret;exact ⟨rfl,bq.out _ _⟩
 have hkk:(k1==k2)=false:=beq_eq_false_iff_ne.2 hk;have hkn:(k1 !=k2)=true:=by simp [bne,hkk]
 simp only [hkk,Bool.false_and]
 go_enter Tryz.func51,Tryz.ntmps51
 go_wp2
 go_ret;exact ⟨rfl,bq.out _ _⟩
theorem V.same_self (a:V):V.same a a=true:=by
 unfold V.same;simp
def a3C (op:Int):Bool:=op==2||op==3
def a7K (op:Int):Bool:=op==4||op==5
theorem a6k (op:Int) (w:World):Calls Tryz.prog 127 #[.int .i64 op] w fun e w'=>e= .returned (.tuple #[.bool (a3C op),.bool (op==3)])/\w'=w:=by
 go_enter Tryz.func127,Tryz.ntmps127
 go_wp2
 all_goals (go_ret2;exact ⟨by simp [a3C, *],rfl⟩)
theorem a6l (op:Int) (w:World):Calls Tryz.prog 128 #[.int .i64 op] w fun e w'=>e= .returned (.tuple #[.bool (a7K op),.bool (op==5)])/\w'=w:=by
 go_enter Tryz.func128,Tryz.ntmps128
 go_wp2
 all_goals (go_ret2;exact ⟨by simp [a7K, *],rfl⟩)
def a6m (n:Int) (a b:Cnd):Bool:=(a3C b.op&&(decide (n<0)||(n==0&&(b.op==3|| !(a.op==3)))))||(b.op==1&&(decide (n<0)||(n==0&& !(a.op==3))))
def a6n (n:Int) (a b:Cnd):Bool:=(a7K b.op&&(decide (0<n)||(n==0&&(b.op==5|| !(a.op==5)))))||(b.op==1&&(decide (0<n)||(n==0&& !(a.op==5))))
def J6 (a b:Cnd):Bool:=
 if a.name.toList==b.name.toList then
  if a.voidB||b.op==7 then true else
  if a.op==7||(b.voidB||a.v.kind !=b.v.kind) then false else
  if a.op==0 then b.holds a.v else
  if a.op==1 then b.op==1&&V.same a.v b.v else
  if a.op==6 then (b.op==6&&C4 a.v.text b.v.text)||(b.op==1&& !C4 b.v.text a.v.text) else
  if a3C a.op then a6m (q7 a.v b.v).1 a b else a6n (q7 a.v b.v).1 a b
 else false
theorem Y2 (a b:Cnd) (ha:a.v.text.size<=9223372036854775807) (hb:b.v.text.size<=9223372036854775807) (VE:a.v.num<2^64) (hbn:b.v.num<2^64) (w:World):
 Calls Tryz.prog 84 #[.agg a.cells.toArray,.agg b.cells.toArray] w fun e w'=>e= .returned (.bool (J6 a b))/\Mod (fun _=>False) w w':=by
 obtain ⟨wa,aD,ah,ae,au⟩:=g8 w (.cells a.cells.toArray 87);obtain ⟨wb,hwb,ay,ak,aO⟩:=g8 wa (.cells b.cells.toArray 87);have hmb:=ah.trans ay zi;have hA:=ay.heap ae id;have a0:wb.cell? ⟨w.heap.size,0,none⟩=some (.string a.name):=d6 hA rfl;have a1:wb.cell? ⟨w.heap.size,1,none⟩=some (.int .i64 a.op):=d6 hA rfl;have a2:wb.cell? ⟨w.heap.size,2,none⟩=some (.int .i64 a.v.kind):=d6 hA rfl;have a3:wb.cell? ⟨w.heap.size,3,none⟩=some (.int .i64 a.v.int):=d6 hA rfl;have a4:wb.cell? ⟨w.heap.size,4,none⟩=some (.float .f64 a.v.num):=d6 hA rfl;have a5:wb.cell? ⟨w.heap.size,5,none⟩=some (.string a.v.text):=d6 hA rfl;have a6:wb.cell? ⟨w.heap.size,6,none⟩=some (.bool a.v.yes):=d6 hA rfl;have b0:wb.cell? ⟨wa.heap.size,0,none⟩=some (.string b.name):=d6 ak rfl;have b1:wb.cell? ⟨wa.heap.size,1,none⟩=some (.int .i64 b.op):=d6 ak rfl;have b2:wb.cell? ⟨wa.heap.size,2,none⟩=some (.int .i64 b.v.kind):=d6 ak rfl;have b3:wb.cell? ⟨wa.heap.size,3,none⟩=some (.int .i64 b.v.int):=d6 ak rfl;have b4:wb.cell? ⟨wa.heap.size,4,none⟩=some (.float .f64 b.v.num):=d6 ak rfl;have b5:wb.cell? ⟨wa.heap.size,5,none⟩=some (.string b.v.text):=d6 ak rfl;have b6:wb.cell? ⟨wa.heap.size,6,none⟩=some (.bool b.v.yes):=d6 ak rfl;have hva:=a2E a wb;have hvb:=a2E b;have hho:=a4s b a.v hb ha;have hsm:=a3B a.v b.v VE hbn;have hp1:=a0Z a.v.text b.v.text ha hb;have hp2:=a0Z b.v.text a.v.text hb ha;have hcm:=a4r a.v b.v;obtain ⟨R,hR⟩:∃R,J6 a b=R:=⟨_,rfl⟩;rw [hR];unfold J6 at hR;obtain ⟨va,lW⟩:∃x,a.voidB=x:=⟨_,rfl⟩;obtain ⟨vb,lX⟩:∃x,b.voidB=x:=⟨_,rfl⟩;obtain ⟨⟨n,ok⟩,hn⟩:∃x,q7 a.v b.v=x:=⟨_,rfl⟩;rw [lW] at hva hR;rw [lX] at hvb hR;rw [hn] at hcm hR;simp only at hcm hR;have hlz:w.heap.size<wa.heap.size:=zo
 obtain ⟨aF,bD,bW,HA,aT,dC,dX,jm,Hsm,AQ,Ns,jY⟩:=zh12 aD hwb hmb hA ak hva hvb hho hsm hp1 hp2 hcm;have HR:=zh hR;clear aD hwb hmb hA ak hva hvb hho hsm hp1 hp2 hcm hR ae ah ay au aO ha hb VE hbn lW lX hn
 cases hnm:a.name.toList==b.name.toList with
 |false=>
  go_enter Tryz.func84,Tryz.ntmps84
  go_wp2_with (first|(rw [show w.alloc _=wa from aF.out])|(rw [show wa.alloc _=wb from bD.out]))
  go_ret;exact ⟨j1 (HR.out.symm.trans (by simp [*])),bW.out⟩
 |true=>
 have HR:=Lib.hid (HR.out.symm.trans (if_pos hnm))
 go_enter Tryz.func84,Tryz.ntmps84
 go_wp2_with (first|(rw [show w.alloc _=wa from aF.out])|(rw [show wa.alloc _=wb from bD.out]))
 refine dC.out.mono ?_;rintro e w2 ⟨rfl,hm2⟩;have hA2:=hm2.heap HA.out id;have hB2:=hm2.heap aT.out id;have aG:=bW.out.trans hm2 zi;obtain ⟨HA2,HB2,aI⟩:=zh3 hA2 hB2 aG;clear hA2 hB2 aG hm2 hnm a0 a1 a2 a3 a4 a5 a6 b0 b1 b2 b3 b4 b5 b6 dC;have a0:w2.cell? ⟨w.heap.size,0,none⟩=some (.string a.name):=d6 HA2.out rfl;have a1:w2.cell? ⟨w.heap.size,1,none⟩=some (.int .i64 a.op):=d6 HA2.out rfl;have a2:w2.cell? ⟨w.heap.size,2,none⟩=some (.int .i64 a.v.kind):=d6 HA2.out rfl;have a3:w2.cell? ⟨w.heap.size,3,none⟩=some (.int .i64 a.v.int):=d6 HA2.out rfl;have a4:w2.cell? ⟨w.heap.size,4,none⟩=some (.float .f64 a.v.num):=d6 HA2.out rfl;have a5:w2.cell? ⟨w.heap.size,5,none⟩=some (.string a.v.text):=d6 HA2.out rfl;have a6:w2.cell? ⟨w.heap.size,6,none⟩=some (.bool a.v.yes):=d6 HA2.out rfl;have b0:w2.cell? ⟨wa.heap.size,0,none⟩=some (.string b.name):=d6 HB2.out rfl;have b1:w2.cell? ⟨wa.heap.size,1,none⟩=some (.int .i64 b.op):=d6 HB2.out rfl;have b2:w2.cell? ⟨wa.heap.size,2,none⟩=some (.int .i64 b.v.kind):=d6 HB2.out rfl;have b3:w2.cell? ⟨wa.heap.size,3,none⟩=some (.int .i64 b.v.int):=d6 HB2.out rfl;have b4:w2.cell? ⟨wa.heap.size,4,none⟩=some (.float .f64 b.v.num):=d6 HB2.out rfl;have b5:w2.cell? ⟨wa.heap.size,5,none⟩=some (.string b.v.text):=d6 HB2.out rfl;have b6:w2.cell? ⟨wa.heap.size,6,none⟩=some (.bool b.v.yes):=d6 HB2.out rfl
 cases va with
 |true=>
  go_wp2
  go_ret;exact ⟨j1 (HR.out.trans (by simp)),aI.out⟩
 |false=>
 cases h7:b.op==7 with
 |true=>
  go_wp2
  go_ret;exact ⟨j1 (HR.out.trans (by simp [*])),aI.out⟩
 |false=>
 cases h8:a.op==7 with
 |true=>
  go_wp2
  go_ret;exact ⟨j1 (HR.out.trans (by simp [*])),aI.out⟩
 |false=>
 go_wp2_with fail
 refine (dX.out _).mono ?_;rintro e w3 ⟨rfl,aC⟩;have hA3:=aC.heap HA2.out id;have hB3:=aC.heap HB2.out id;have aS:=aI.out.trans aC zi;obtain ⟨eH,HB3,aP⟩:=zh3 hA3 hB3 aS;clear hA3 hB3 aS aC a0 a1 a2 a3 a4 a5 a6 b0 b1 b2 b3 b4 b5 b6 dX HA2 HB2 aI;have a0:w3.cell? ⟨w.heap.size,0,none⟩=some (.string a.name):=d6 eH.out rfl;have a1:w3.cell? ⟨w.heap.size,1,none⟩=some (.int .i64 a.op):=d6 eH.out rfl;have a2:w3.cell? ⟨w.heap.size,2,none⟩=some (.int .i64 a.v.kind):=d6 eH.out rfl;have a3:w3.cell? ⟨w.heap.size,3,none⟩=some (.int .i64 a.v.int):=d6 eH.out rfl;have a4:w3.cell? ⟨w.heap.size,4,none⟩=some (.float .f64 a.v.num):=d6 eH.out rfl;have a5:w3.cell? ⟨w.heap.size,5,none⟩=some (.string a.v.text):=d6 eH.out rfl;have a6:w3.cell? ⟨w.heap.size,6,none⟩=some (.bool a.v.yes):=d6 eH.out rfl;have b0:w3.cell? ⟨wa.heap.size,0,none⟩=some (.string b.name):=d6 HB3.out rfl;have b1:w3.cell? ⟨wa.heap.size,1,none⟩=some (.int .i64 b.op):=d6 HB3.out rfl;have b2:w3.cell? ⟨wa.heap.size,2,none⟩=some (.int .i64 b.v.kind):=d6 HB3.out rfl;have b3:w3.cell? ⟨wa.heap.size,3,none⟩=some (.int .i64 b.v.int):=d6 HB3.out rfl;have b4:w3.cell? ⟨wa.heap.size,4,none⟩=some (.float .f64 b.v.num):=d6 HB3.out rfl;have b5:w3.cell? ⟨wa.heap.size,5,none⟩=some (.string b.v.text):=d6 HB3.out rfl;have b6:w3.cell? ⟨wa.heap.size,6,none⟩=some (.bool b.v.yes):=d6 HB3.out rfl
 cases vb with
 |true=>
  go_wp2
  go_ret;exact ⟨j1 (HR.out.trans (by simp [*])),aP.out⟩
 |false=>
 cases hk:a.v.kind==b.v.kind with
 |false=>
  have hkn:(a.v.kind !=b.v.kind)=true:=by simp [bne,hk]
  go_wp2
  go_ret;exact ⟨j1 (HR.out.trans (by simp [*])),aP.out⟩
 |true=>
 have hkn:(a.v.kind !=b.v.kind)=false:=by simp [bne,hk]
 clear hk
 cases h0:a.op==0 with
 |true=>
  go_wp2_with fail
  refine (jm.out _).mono ?_;rintro e w4 ⟨rfl,aR⟩;have dN:=Lib.hid (aP.out.trans aR zi);clear aR
  go_wp2
  go_ret;exact ⟨j1 (HR.out.trans (by simp [*])),dN.out⟩
 |false=>
 cases h1:a.op==1 with
 | true=>
  cases hb1:b.op==1 with
  |false=>
   go_wp2
   go_ret;exact ⟨j1 (HR.out.trans (by simp [*])),aP.out⟩
  |true=>
   go_wp2_with fail
   refine (Hsm.out _).mono ?_;rintro e w4 ⟨rfl,aR⟩;have dN:=Lib.hid (aP.out.trans aR zi);clear aR
   go_wp2
   go_ret;exact ⟨j1 (HR.out.trans (by simp [*])),dN.out⟩
 |false=>
 cases h6:a.op==6 with
 | true=>
  cases hb6:b.op==6 with
  | true=>
   have hb1:(b.op==1)=false:=by rw [beq_iff_eq] at hb6;rw [hb6];rfl
   obtain ⟨pf,gK⟩:∃x,C4 a.v.text b.v.text=x:=⟨_,rfl⟩;rw [gK] at AQ HR;clear gK
   go_wp2_with fail
   refine (AQ.out _).mono ?_;rintro e w4 ⟨rfl,rfl⟩
   cases pf with
   |true=>
    go_wp2
    go_ret;exact ⟨j1 (HR.out.trans (by simp [*])),aP.out⟩
   |false=>
    go_wp2
    go_ret;exact ⟨j1 (HR.out.trans (by simp [*])),aP.out⟩
  | false=>
   cases hb1:b.op==1 with
   |false=>
    go_wp2
    go_ret;exact ⟨j1 (HR.out.trans (by simp [*])),aP.out⟩
   |true=>
    go_wp2_with fail
    refine (Ns.out _).mono ?_;rintro e w4 ⟨rfl,rfl⟩
    go_wp2
    go_ret;exact ⟨j1 (HR.out.trans (by simp [*])),aP.out⟩
 |false=>
 go_wp2_with fail
 refine (jY.out _).mono ?_;rintro e w4 ⟨rfl,aR⟩;have ET:=aR.heap eH.out id;have hB4:=aR.heap HB3.out id;have aY:=aP.out.trans aR zi;obtain ⟨vV,vW,bK⟩:=zh3 ET hB4 aY;clear ET hB4 aY aR a0 a1 a2 a3 a4 a5 a6 b0 b1 b2 b3 b4 b5 b6 eH HB3 aP;have a0:w4.cell? ⟨w.heap.size,1,none⟩=some (.int .i64 a.op):=d6 vV.out rfl;have b0:w4.cell? ⟨wa.heap.size,1,none⟩=some (.int .i64 b.op):=d6 vW.out rfl
 go_wp2_with fail
 refine (a6k a.op w4).mono ?_;rintro e w5 ⟨rfl,rfl⟩;obtain ⟨x,hx⟩:∃x,a3C a.op=x:=⟨_,rfl⟩;obtain ⟨y3,hy3⟩:∃x,(a.op==3)=x:=⟨_,rfl⟩;obtain ⟨y5,OZ⟩:∃x,(a.op==5)=x:=⟨_,rfl⟩;obtain ⟨z3,hz3⟩:∃x,(b.op==3)=x:=⟨_,rfl⟩;obtain ⟨z5,Nt⟩:∃x,(b.op==5)=x:=⟨_,rfl⟩;obtain ⟨bl,hbl⟩:∃x,a3C b.op=x:=⟨_,rfl⟩;obtain ⟨al,hal⟩:∃x,a7K b.op=x:=⟨_,rfl⟩;unfold a6m a6n at HR;rw [hx,hy3,OZ,hz3,Nt,hbl,hal] at HR;rw [hx,hy3];have hbb:=a6k b.op w5;have hab:=a6l a.op w5;have AU:=a6l b.op w5;rw [hbl,hz3] at hbb;rw [OZ] at hab;rw [hal,Nt] at AU;obtain ⟨Zf,Zg,Pb⟩:=zh3 hbb hab AU;clear hbb hab AU hx hy3 OZ hz3 Nt hbl hal
 cases x with
 |true=>
  go_wp2_with fail
  refine Zf.out.mono ?_;rintro e w6 ⟨rfl,rfl⟩
  go_wp2
  all_goals (go_ret;exact ⟨j1 (HR.out.trans (by first|(simp [*];done)|(rw [show decide (n<0)=false from decide_eq_false zo];simp [*];done)|(rw [show decide (0<n)=false from decide_eq_false zo];simp [*];done))),bK.out⟩)
 |false=>
  go_wp2_with fail
  refine Zg.out.mono ?_;rintro e w6 ⟨rfl,rfl⟩
  go_wp2_with fail
  refine Pb.out.mono ?_;rintro e w7 ⟨rfl,rfl⟩
  go_wp2
  all_goals (go_ret;exact ⟨j1 (HR.out.trans (by first|(simp [*];done)|(rw [show decide (n<0)=false from decide_eq_false zo];simp [*];done)|(rw [show decide (0<n)=false from decide_eq_false zo];simp [*];done))),bK.out⟩)
end Go.Proofs.YtebhabpahfmodaaGreatDoor
