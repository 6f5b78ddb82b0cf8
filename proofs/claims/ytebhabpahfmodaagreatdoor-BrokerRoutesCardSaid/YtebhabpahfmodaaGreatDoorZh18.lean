/- Lemmas. -/
import Derived.Test.YtebhabpahfmodaaGreatDoorZh15
set_option maxHeartbeats 40000000
set_option maxRecDepth 20000
namespace Go.Proofs.YtebhabpahfmodaaGreatDoor
open Go.RowKit
theorem a7Q (l m:Bool): -1<=sgn l m/\sgn l m<=1:=by cases l<;>cases m<;>decide
theorem b1K:∀a b:List UInt8, -1<=Lib.compareBytes a b/\Lib.compareBytes a b<=1
 |[],[]=>zd
 |[],b::t=>by simp [Lib.compareBytes]
 |a::s,[]=>by simp [Lib.compareBytes]
 | a::s,b::t=>by
  rw [D6];split
  ·decide
  split
  ·decide
  exact b1K s t
theorem b37 (a b:V): -1<=(q7 a b).1/\(q7 a b).1<=1:=by
 unfold q7;split
 ·unfold V.cmp;split
  ·exact a7Q _ _
  split
  ·exact a7Q _ _
  split
  ·exact b1K _ _
  exact a7Q _ _
 decide
def a0p (n strict other:Int) (a b:Cnd):Bool:=if b.op==strict||b.op==other then decide (n<0)||(n==0&& !(a.op==other&&b.op==strict)) else b.op==1&&(decide (n<0)||(n==0&&a.op==strict))
theorem a6s (less:Bool) (strict other:Int) (a b:Cnd) (ha:a.v.text.size<=9223372036854775807) (hb:b.v.text.size<=9223372036854775807) (w:World):
 Calls Tryz.prog 117 #[.bool less,.int .i64 strict,.int .i64 other,.agg a.cells.toArray,.agg b.cells.toArray] w fun e w'=>e= .returned (.bool (a0p (if less then (q7 a.v b.v).1 else -(q7 a.v b.v).1) strict other a b))/\Mod (fun _=>False) w w':=by
 obtain ⟨wa,aD,ah,ae,au⟩:=g8 w (.cells a.cells.toArray 87);obtain ⟨wb,hwb,ay,ak,aO⟩:=g8 wa (.cells b.cells.toArray 87);have hmb:=ah.trans ay zi;have hA:=ay.heap ae id;have a0:wb.cell? ⟨w.heap.size,0,none⟩=some (.string a.name):=d6 hA rfl;have a1:wb.cell? ⟨w.heap.size,1,none⟩=some (.int .i64 a.op):=d6 hA rfl;have a2:wb.cell? ⟨w.heap.size,2,none⟩=some (.int .i64 a.v.kind):=d6 hA rfl;have a3:wb.cell? ⟨w.heap.size,3,none⟩=some (.int .i64 a.v.int):=d6 hA rfl;have a4:wb.cell? ⟨w.heap.size,4,none⟩=some (.float .f64 a.v.num):=d6 hA rfl;have a5:wb.cell? ⟨w.heap.size,5,none⟩=some (.string a.v.text):=d6 hA rfl;have a6:wb.cell? ⟨w.heap.size,6,none⟩=some (.bool a.v.yes):=d6 hA rfl;have b0:wb.cell? ⟨wa.heap.size,0,none⟩=some (.string b.name):=d6 ak rfl;have b1:wb.cell? ⟨wa.heap.size,1,none⟩=some (.int .i64 b.op):=d6 ak rfl;have b2:wb.cell? ⟨wa.heap.size,2,none⟩=some (.int .i64 b.v.kind):=d6 ak rfl;have b3:wb.cell? ⟨wa.heap.size,3,none⟩=some (.int .i64 b.v.int):=d6 ak rfl;have b4:wb.cell? ⟨wa.heap.size,4,none⟩=some (.float .f64 b.v.num):=d6 ak rfl;have b5:wb.cell? ⟨wa.heap.size,5,none⟩=some (.string b.v.text):=d6 ak rfl;have b6:wb.cell? ⟨wa.heap.size,6,none⟩=some (.bool b.v.yes):=d6 ak rfl;have hcm:=a0n a.v b.v ha hb wb;have hle:=b37 a.v b.v;obtain ⟨R,hR⟩:∃R,a0p (if less then (q7 a.v b.v).1 else -(q7 a.v b.v).1) strict other a b=R:=⟨_,rfl⟩;rw [hR];unfold a0p at hR;obtain ⟨⟨n,ok⟩,hn⟩:∃x,q7 a.v b.v=x:=⟨_,rfl⟩;rw [hn] at hcm hR hle;simp only at hcm hR hle;have hlz:w.heap.size<wa.heap.size:=zo
 obtain ⟨hn1,hn2⟩:=hle;obtain ⟨aF,bD,bW,HA,aT,jY,HR⟩:=zh7 aD hwb hmb hA ak hcm hR;clear aD hwb hmb hA ak hcm hR ae ah ay au aO ha hb hn
 go_enter Tryz.func117,Tryz.ntmps117
 go_wp2_with (first|(rw [show w.alloc _=wa from aF.out])|(rw [show wa.alloc _=wb from bD.out]))
 refine jY.out.mono ?_;rintro e w2 ⟨rfl,hm2⟩;have hA2:=hm2.heap HA.out id;have hB2:=hm2.heap aT.out id;have aG:=bW.out.trans hm2 zi;obtain ⟨HA2,HB2,aI⟩:=zh3 hA2 hB2 aG;clear hA2 hB2 aG hm2 a0 a1 a2 a3 a4 a5 a6 b0 b1 b2 b3 b4 b5 b6 jY HA aT bW;have a0:w2.cell? ⟨w.heap.size,1,none⟩=some (.int .i64 a.op):=d6 HA2.out rfl;have b0:w2.cell? ⟨wa.heap.size,1,none⟩=some (.int .i64 b.op):=d6 HB2.out rfl
 cases less with
 |true=>
  have HR:=Lib.hid (show (if b.op==strict||b.op==other then decide (n<0)||(n==0&& !(a.op==other&&b.op==strict)) else b.op==1&&(decide (n<0)||(n==0&&a.op==strict)))=R from HR.out)
  go_wp2
  all_goals (go_ret;exact ⟨j1 (HR.out.symm.trans (by first|(simp [*];done)|(simp_all;done))),aI.out⟩)
 |false=>
  obtain ⟨m,hm⟩:∃m, -n=m:=⟨_,rfl⟩;have hneg:IntKind.i64.wrap (-n)=m:=by rw [<-hm];exact IntWalk.i64_in _ zo
  have HR:=Lib.hid (show (if b.op==strict||b.op==other then decide (m<0)||(m==0&& !(a.op==other&&b.op==strict)) else b.op==1&&(decide (m<0)||(m==0&&a.op==strict)))=R from by rw [<-hm];exact HR.out)
  go_wp2
  all_goals (go_ret;exact ⟨j1 (HR.out.symm.trans (by first|(simp [*];done)|(simp_all;done))),aI.out⟩)
def J2 (a b:Cnd):Bool:=
 if a.name.toList==b.name.toList then
  if a.voidB||b.op==7 then true else
  if a.op==7||(b.voidB||a.v.kind !=b.v.kind) then false else
  if a.op==0 then b.holds a.v else
  if a.op==1 then b.op==1&&((q7 a.v b.v).2&&(q7 a.v b.v).1==0) else
  if a.op==2||a.op==3 then a0p (q7 a.v b.v).1 2 3 a b else
  if a.op==4||a.op==5 then a0p (-(q7 a.v b.v).1) 4 5 a b else
  if b.op==6 then C4 a.v.text b.v.text else b.op==1&& !C4 b.v.text a.v.text
 else false
theorem a6t (a b:Cnd) (ha:a.v.text.size<=9223372036854775807) (hb:b.v.text.size<=9223372036854775807) (w:World):
 Calls Tryz.prog 79 #[.agg a.cells.toArray,.agg b.cells.toArray] w fun e w'=>e= .returned (.bool (J2 a b))/\Mod (fun _=>False) w w':=by
 obtain ⟨wa,aD,ah,ae,au⟩:=g8 w (.cells a.cells.toArray 87);obtain ⟨wb,hwb,ay,ak,aO⟩:=g8 wa (.cells b.cells.toArray 87);have hmb:=ah.trans ay zi;have hA:=ay.heap ae id;have a0:wb.cell? ⟨w.heap.size,0,none⟩=some (.string a.name):=d6 hA rfl;have a1:wb.cell? ⟨w.heap.size,1,none⟩=some (.int .i64 a.op):=d6 hA rfl;have a2:wb.cell? ⟨w.heap.size,2,none⟩=some (.int .i64 a.v.kind):=d6 hA rfl;have a3:wb.cell? ⟨w.heap.size,3,none⟩=some (.int .i64 a.v.int):=d6 hA rfl;have a4:wb.cell? ⟨w.heap.size,4,none⟩=some (.float .f64 a.v.num):=d6 hA rfl;have a5:wb.cell? ⟨w.heap.size,5,none⟩=some (.string a.v.text):=d6 hA rfl;have a6:wb.cell? ⟨w.heap.size,6,none⟩=some (.bool a.v.yes):=d6 hA rfl;have b0:wb.cell? ⟨wa.heap.size,0,none⟩=some (.string b.name):=d6 ak rfl;have b1:wb.cell? ⟨wa.heap.size,1,none⟩=some (.int .i64 b.op):=d6 ak rfl;have b2:wb.cell? ⟨wa.heap.size,2,none⟩=some (.int .i64 b.v.kind):=d6 ak rfl;have b3:wb.cell? ⟨wa.heap.size,3,none⟩=some (.int .i64 b.v.int):=d6 ak rfl;have b4:wb.cell? ⟨wa.heap.size,4,none⟩=some (.float .f64 b.v.num):=d6 ak rfl;have b5:wb.cell? ⟨wa.heap.size,5,none⟩=some (.string b.v.text):=d6 ak rfl;have b6:wb.cell? ⟨wa.heap.size,6,none⟩=some (.bool b.v.yes):=d6 ak rfl;have hva:=a18 a wb;have hvb:=a18 b;have hho:=a4M b a.v hb ha;have hs1:=a6s true 2 3 a b ha hb;have hs2:=a6s false 4 5 a b ha hb;have hp1:=a1e a.v.text b.v.text ha hb;have hp2:=a1e b.v.text a.v.text hb ha;have hcm:=a0n a.v b.v ha hb;obtain ⟨R,hR⟩:∃R,J2 a b=R:=⟨_,rfl⟩;rw [hR];unfold J2 at hR;obtain ⟨va,lW⟩:∃x,a.voidB=x:=⟨_,rfl⟩;obtain ⟨vb,lX⟩:∃x,b.voidB=x:=⟨_,rfl⟩;obtain ⟨⟨n,ok⟩,hn⟩:∃x,q7 a.v b.v=x:=⟨_,rfl⟩;rw [lW] at hva hR;rw [lX] at hvb hR;rw [hn] at hcm hR;rw [if_pos rfl,hn] at hs1;rw [if_neg zd,hn] at hs2;simp only at hcm hR hs1 hs2;have hlz:w.heap.size<wa.heap.size:=zo
 obtain ⟨aF,bD,bW,HA,aT,dC,dX,jm,uS,qK,AQ,Ns⟩:=zh12 aD hwb hmb hA ak hva hvb hho hs1 hs2 hp1 hp2;obtain ⟨jY,HR⟩:=zh2 hcm hR;clear aD hwb hmb hA ak hva hvb hho hs1 hs2 hp1 hp2 hcm hR ae ah ay au aO ha hb lW lX hn
 cases hnm:a.name.toList==b.name.toList with
 |false=>
  go_enter Tryz.func79,Tryz.ntmps79
  go_wp2_with (first|(rw [show w.alloc _=wa from aF.out])|(rw [show wa.alloc _=wb from bD.out]))
  go_ret;exact ⟨j1 (HR.out.symm.trans (by simp [*])),bW.out⟩
 |true=>
 have HR:=Lib.hid (HR.out.symm.trans (if_pos hnm))
 go_enter Tryz.func79,Tryz.ntmps79
 go_wp2_with (first|(rw [show w.alloc _=wa from aF.out])|(rw [show wa.alloc _=wb from bD.out]))
 refine dC.out.mono ?_;rintro e w2 ⟨rfl,hm2⟩;have hA2:=hm2.heap HA.out id;have hB2:=hm2.heap aT.out id;have aG:=bW.out.trans hm2 zi;obtain ⟨HA2,HB2,aI⟩:=zh3 hA2 hB2 aG;clear hA2 hB2 aG hm2 hnm a0 a1 a2 a3 a4 a5 a6 b0 b1 b2 b3 b4 b5 b6 dC;have a0:w2.cell? ⟨w.heap.size,0,none⟩=some (.string a.name):=d6 HA2.out rfl;have a1:w2.cell? ⟨w.heap.size,1,none⟩=some (.int .i64 a.op):=d6 HA2.out rfl;have a2:w2.cell? ⟨w.heap.size,2,none⟩=some (.int .i64 a.v.kind):=d6 HA2.out rfl;have a3:w2.cell? ⟨w.heap.size,3,none⟩=some (.int .i64 a.v.int):=d6 HA2.out rfl;have a4:w2.cell? ⟨w.heap.size,4,none⟩=some (.float .f64 a.v.num):=d6 HA2.out rfl;have a5:w2.cell? ⟨w.heap.size,5,none⟩=some (.string a.v.text):=d6 HA2.out rfl;have a6:w2.cell? ⟨w.heap.size,6,none⟩=some (.bool a.v.yes):=d6 HA2.out rfl;have b0:w2.cell? ⟨wa.heap.size,0,none⟩=some (.string b.name):=d6 HB2.out rfl;have b1:w2.cell? ⟨wa.heap.size,1,none⟩=some (.int .i64 b.op):=d6 HB2.out rfl;have b2:w2.cell? ⟨wa.heap.size,2,none⟩=some (.int .i64 b.v.kind):=d6 HB2.out rfl;have b3:w2.cell? ⟨wa.heap.size,3,none⟩=some (.int .i64 b.v.int):=d6 HB2.out rfl;have b4:w2.cell? ⟨wa.heap.size,4,none⟩=some (.float .f64 b.v.num):=d6 HB2.out rfl;have b5:w2.cell? ⟨wa.heap.size,5,none⟩=some (.string b.v.text):=d6 HB2.out rfl;have b6:w2.cell? ⟨wa.heap.size,6,none⟩=some (.bool b.v.yes):=d6 HB2.out rfl
 cases va with
 |true=>
  go_wp2
  go_ret;exact ⟨j1 (HR.out.trans (by simp)),aI.out⟩
 |false=>
 cases h7:b.op==7 with
 |true=>
  go_wp2
  go_ret;exact ⟨j1 (HR.out.trans (by simp [*])),aI.out⟩
 |false=>
 cases h8:a.op==7 with
 |true=>
  go_wp2
  go_ret;exact ⟨j1 (HR.out.trans (by simp [*])),aI.out⟩
 |false=>
 go_wp2_with fail
 refine (dX.out _).mono ?_;rintro e w3 ⟨rfl,aC⟩;have hA3:=aC.heap HA2.out id;have hB3:=aC.heap HB2.out id;have aS:=aI.out.trans aC zi;obtain ⟨eH,HB3,aP⟩:=zh3 hA3 hB3 aS;clear hA3 hB3 aS aC a0 a1 a2 a3 a4 a5 a6 b0 b1 b2 b3 b4 b5 b6 dX HA2 HB2 aI;have a0:w3.cell? ⟨w.heap.size,0,none⟩=some (.string a.name):=d6 eH.out rfl;have a1:w3.cell? ⟨w.heap.size,1,none⟩=some (.int .i64 a.op):=d6 eH.out rfl;have a2:w3.cell? ⟨w.heap.size,2,none⟩=some (.int .i64 a.v.kind):=d6 eH.out rfl;have a3:w3.cell? ⟨w.heap.size,3,none⟩=some (.int .i64 a.v.int):=d6 eH.out rfl;have a4:w3.cell? ⟨w.heap.size,4,none⟩=some (.float .f64 a.v.num):=d6 eH.out rfl;have a5:w3.cell? ⟨w.heap.size,5,none⟩=some (.string a.v.text):=d6 eH.out rfl;have a6:w3.cell? ⟨w.heap.size,6,none⟩=some (.bool a.v.yes):=d6 eH.out rfl;have b0:w3.cell? ⟨wa.heap.size,0,none⟩=some (.string b.name):=d6 HB3.out rfl;have b1:w3.cell? ⟨wa.heap.size,1,none⟩=some (.int .i64 b.op):=d6 HB3.out rfl;have b2:w3.cell? ⟨wa.heap.size,2,none⟩=some (.int .i64 b.v.kind):=d6 HB3.out rfl;have b3:w3.cell? ⟨wa.heap.size,3,none⟩=some (.int .i64 b.v.int):=d6 HB3.out rfl;have b4:w3.cell? ⟨wa.heap.size,4,none⟩=some (.float .f64 b.v.num):=d6 HB3.out rfl;have b5:w3.cell? ⟨wa.heap.size,5,none⟩=some (.string b.v.text):=d6 HB3.out rfl;have b6:w3.cell? ⟨wa.heap.size,6,none⟩=some (.bool b.v.yes):=d6 HB3.out rfl
 cases vb with
 |true=>
  go_wp2
  go_ret;exact ⟨j1 (HR.out.trans (by simp [*])),aP.out⟩
 |false=>
 cases hk:a.v.kind==b.v.kind with
 |false=>
  have hkn:(a.v.kind !=b.v.kind)=true:=by simp [bne,hk]
  go_wp2
  go_ret;exact ⟨j1 (HR.out.trans (by simp [*])),aP.out⟩
 |true=>
 have hkn:(a.v.kind !=b.v.kind)=false:=by simp [bne,hk]
 clear hk
 go_wp2_with fail
 refine (jY.out _).mono ?_;rintro e w4 ⟨rfl,aR⟩;have ET:=aR.heap eH.out id;have hB4:=aR.heap HB3.out id;have aY:=aP.out.trans aR zi;obtain ⟨vV,vW,bK⟩:=zh3 ET hB4 aY;clear ET hB4 aY aR a0 a1 a2 a3 a4 a5 a6 b0 b1 b2 b3 b4 b5 b6 eH HB3 aP;have a0:w4.cell? ⟨w.heap.size,0,none⟩=some (.string a.name):=d6 vV.out rfl;have a1:w4.cell? ⟨w.heap.size,1,none⟩=some (.int .i64 a.op):=d6 vV.out rfl;have a2:w4.cell? ⟨w.heap.size,2,none⟩=some (.int .i64 a.v.kind):=d6 vV.out rfl;have a3:w4.cell? ⟨w.heap.size,3,none⟩=some (.int .i64 a.v.int):=d6 vV.out rfl;have a4:w4.cell? ⟨w.heap.size,4,none⟩=some (.float .f64 a.v.num):=d6 vV.out rfl;have a5:w4.cell? ⟨w.heap.size,5,none⟩=some (.string a.v.text):=d6 vV.out rfl;have a6:w4.cell? ⟨w.heap.size,6,none⟩=some (.bool a.v.yes):=d6 vV.out rfl;have b0:w4.cell? ⟨wa.heap.size,0,none⟩=some (.string b.name):=d6 vW.out rfl;have b1:w4.cell? ⟨wa.heap.size,1,none⟩=some (.int .i64 b.op):=d6 vW.out rfl;have b2:w4.cell? ⟨wa.heap.size,2,none⟩=some (.int .i64 b.v.kind):=d6 vW.out rfl;have b3:w4.cell? ⟨wa.heap.size,3,none⟩=some (.int .i64 b.v.int):=d6 vW.out rfl;have b4:w4.cell? ⟨wa.heap.size,4,none⟩=some (.float .f64 b.v.num):=d6 vW.out rfl;have b5:w4.cell? ⟨wa.heap.size,5,none⟩=some (.string b.v.text):=d6 vW.out rfl;have b6:w4.cell? ⟨wa.heap.size,6,none⟩=some (.bool b.v.yes):=d6 vW.out rfl
 have HR:=Lib.hid (HR.out.trans (by rw [h7,h8,hkn];rfl:_=(if a.op==0 then b.holds a.v else if a.op==1 then b.op==1&&(ok&&n==0) else if a.op==2||a.op==3 then a0p n 2 3 a b else if a.op==4||a.op==5 then a0p (-n) 4 5 a b else
  if b.op==6 then C4 a.v.text b.v.text else b.op==1&& !C4 b.v.text a.v.text)))
 clear h7 h8 hkn
 cases h0:a.op==0 with
 |true=>
  go_wp2_with fail
  refine (jm.out _).mono ?_;rintro e w5 ⟨rfl,aW⟩;have fJ:=Lib.hid (bK.out.trans aW zi);clear aW
  go_wp2
  go_ret;exact ⟨j1 (HR.out.trans (by simp [*])),fJ.out⟩
 |false=>
 cases h1:a.op==1 with
 |true=>
  go_wp2
  all_goals (go_ret;exact ⟨j1 (HR.out.trans (by simp [*])),bK.out⟩)
 |false=>
 cases h2:a.op==2 with
 |true=>
  go_wp2_with fail
  refine (uS.out _).mono ?_;rintro e w5 ⟨rfl,aW⟩;have fJ:=Lib.hid (bK.out.trans aW zi);clear aW
  go_wp2
  go_ret;exact ⟨j1 (HR.out.trans (by simp [*])),fJ.out⟩
 |false=>
 cases h3:a.op==3 with
 |true=>
  go_wp2_with fail
  refine (uS.out _).mono ?_;rintro e w5 ⟨rfl,aW⟩;have fJ:=Lib.hid (bK.out.trans aW zi);clear aW
  go_wp2
  go_ret;exact ⟨j1 (HR.out.trans (by simp [*])),fJ.out⟩
 |false=>
 cases h4:a.op==4 with
 |true=>
  go_wp2_with fail
  refine (qK.out _).mono ?_;rintro e w5 ⟨rfl,aW⟩;have fJ:=Lib.hid (bK.out.trans aW zi);clear aW
  go_wp2
  go_ret;exact ⟨j1 (HR.out.trans (by simp [*])),fJ.out⟩
 |false=>
 cases h5:a.op==5 with
 |true=>
  go_wp2_with fail
  refine (qK.out _).mono ?_;rintro e w5 ⟨rfl,aW⟩;have fJ:=Lib.hid (bK.out.trans aW zi);clear aW
  go_wp2
  go_ret;exact ⟨j1 (HR.out.trans (by simp [*])),fJ.out⟩
 |false=>
 cases hb6:b.op==6 with
 |true=>
  go_wp2_with fail
  refine (AQ.out _).mono ?_;rintro e w5 ⟨rfl,rfl⟩
  go_wp2
  go_ret;exact ⟨j1 (HR.out.trans (by simp [*])),bK.out⟩
 | false=>
  cases hb1:b.op==1 with
  |false=>
   go_wp2
   go_ret;exact ⟨j1 (HR.out.trans (by simp [*])),bK.out⟩
  |true=>
   go_wp2_with fail
   refine (Ns.out _).mono ?_;rintro e w5 ⟨rfl,rfl⟩
   go_wp2
   go_ret;exact ⟨j1 (HR.out.trans (by simp [*])),bK.out⟩
theorem V.same_cmp {a b:V} (ha:a.num<2^64) (hb:b.num<2^64) (hk:a.kind=b.kind) (hva:a.void=false) (hvb:b.void=false):V.same a b=((q7 a b).2&&(q7 a b).1==0):=by
 have hal:V.alike a b=true:=by unfold V.alike;rw [hva,hvb,hk];simp
 unfold q7;rw [if_pos hal];show _=(true&&V.cmp a b==0);rw [Bool.true_and];unfold V.same V.cmp;rw [hk,beq_self_eq_true,Bool.true_and];by_cases h0:b.kind=0
 ·rw [if_pos h0,if_pos h0];unfold sgn;rcases Int.lt_trichotomy a.int b.int with h|h|h
  ·rw [decide_eq_true h,if_pos rfl,beq_eq_false_iff_ne.2 zo];rfl
  ·rw [decide_eq_false zo,decide_eq_false zo,h,beq_self_eq_true];rfl
  rw [decide_eq_false zo,decide_eq_true h,beq_eq_false_iff_ne.2 zo];rfl
 rw [if_neg h0,if_neg h0];by_cases h1:b.kind=1
 ·rw [if_pos h1,if_pos h1]
  have hfa:fEq a.num a.num=true:=by
   unfold V.void at hva;rw [hk,h1] at hva;simpa using hva
  have eZ:fEq b.num b.num=true:=by
   unfold V.void at hvb;rw [h1] at hvb;simpa using hvb
  rw [a9a ha hb hfa eZ,b3F hfa eZ];cases fLt a.num b.num<;>cases fLt b.num a.num<;>rfl
 rw [if_neg h1,if_neg h1];by_cases h2:b.kind=2
 ·rw [if_pos h2,if_pos h2,Bool.eq_iff_iff,beq_iff_eq,beq_iff_eq,T5,ByteArray.toList_eq,ByteArray.toList_eq]
 rw [if_neg h2,if_neg h2];cases a.yes<;>cases b.yes<;>rfl
theorem b1L {a b:Cnd} (ha:a.v.num<2^64) (hb:b.v.num<2^64) (h0:0<=a.op) (h7:a.op<=7):J2 a b=J6 a b:=by
 unfold J2 J6;split
 ·split
  ·rfl
  rename_i hv
  split
  ·rfl
  rename_i hw
  simp only [Bool.or_eq_true,not_or,Bool.not_eq_true,beq_eq_false_iff_ne,ne_eq,bne_iff_ne,Decidable.not_not] at hv hw;obtain ⟨hva,qL⟩:=hv;obtain ⟨ZA,hvb,hk⟩:=hw;have hk:a.v.kind=b.v.kind:=by simpa using hk
  have lW:a.v.void=false:=by
   unfold Cnd.voidB at hva;rw [Bool.or_eq_false_iff] at hva;have:=hva.1;rw [show (a.op !=7)=true by simpa using ZA,Bool.true_and] at this;exact this
  have lX:b.v.void=false:=by
   unfold Cnd.voidB at hvb;rw [Bool.or_eq_false_iff] at hvb;have:=hvb.1;rw [show (b.op !=7)=true by simpa using qL,Bool.true_and] at this;exact this
  rw [<-V.same_cmp ha hb hk lW lX]
  generalize (q7 a.v b.v).1=n
  generalize V.same a.v b.v=S
  generalize b.holds a.v=H
  generalize C4 a.v.text b.v.text=p
  generalize C4 b.v.text a.v.text=q
  have hn1:decide (-n<0)=decide (0<n):=by
   by_cases h:0<n
   ·rw [decide_eq_true h,decide_eq_true zo]
   rw [decide_eq_false h,decide_eq_false zo]
  have hn2:(-n==0)=(n==0):=by
   by_cases h:n=0
   ·rw [h];rfl
   rw [beq_eq_false_iff_ne.2 h,beq_eq_false_iff_ne.2 zo]
  unfold a0p a6m a6n a3C a7K;rw [hn1,hn2]
  generalize decide (0<n)=g
  generalize decide (n<0)=l
  generalize (n==0)=z
  rcases (by omega:a.op=0\/a.op=1\/a.op=2\/a.op=3\/a.op=4\/a.op=5\/a.op=6) with h|h|h|h|h|h|h
  all_goals
   rw [h];by_cases hb1:b.op=1
   ·rw [hb1];revert S p q g l z H;decide
   by_cases hb2:b.op=2
   ·rw [hb2];revert S p q g l z H;decide
   by_cases hb3:b.op=3
   ·rw [hb3];revert S p q g l z H;decide
   by_cases hb4:b.op=4
   ·rw [hb4];revert S p q g l z H;decide
   by_cases hb5:b.op=5
   ·rw [hb5];revert S p q g l z H;decide
   by_cases hb6:b.op=6
   ·rw [hb6];revert S p q g l z H;decide
   simp [hb1,hb2,hb3,hb4,hb5,hb6]
 rfl
end Go.Proofs.YtebhabpahfmodaaGreatDoor
