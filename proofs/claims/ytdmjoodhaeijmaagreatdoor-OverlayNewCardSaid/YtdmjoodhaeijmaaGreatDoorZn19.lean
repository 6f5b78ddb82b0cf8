/- Lemmas. -/
import Derived.Test.YtdmjoodhaeijmaaGreatDoorZn17
import Derived.Test.YtdmjoodhaeijmaaGreatDoorZn7
set_option maxHeartbeats 40000000
set_option maxRecDepth 20000
namespace Go.Proofs.YtdmjoodhaeijmaaGreatDoor
open Go.RowKit
def Cnd.voidB (c:Cnd):Bool:=(c.op !=7&&c.v.void)||(c.op==6&&c.v.kind !=2)
theorem a1X (c:Cnd) (w:World):Calls Tryz.prog 166 #[.agg c.cells.toArray] w fun e w'=>e= .returned (.bool c.voidB)/\Mod (fun _=>False) w w':=by
 obtain ⟨wa,ak,ae,aa,ah⟩:=g6 w (.cells c.cells.toArray 126);have c1:wa.cell? ⟨w.heap.size,1,none⟩=some (.int .i64 c.op):=d6 aa rfl;have c2:wa.cell? ⟨w.heap.size,2,none⟩=some (.int .i64 c.v.kind):=d6 aa rfl;have c3:wa.cell? ⟨w.heap.size,3,none⟩=some (.int .i64 c.v.int):=d6 aa rfl;have c4:wa.cell? ⟨w.heap.size,4,none⟩=some (.float .f64 c.v.num):=d6 aa rfl;have c5:wa.cell? ⟨w.heap.size,5,none⟩=some (.string c.v.text):=d6 aa rfl;have c6:wa.cell? ⟨w.heap.size,6,none⟩=some (.bool c.v.yes):=d6 aa rfl;have hvv:=a1g c.v wa;obtain ⟨R,hR⟩:∃R,c.voidB=R:=⟨_,rfl⟩;rw [hR];unfold Cnd.voidB at hR;obtain ⟨vd,hvd⟩:∃b,c.v.void=b:=⟨_,rfl⟩;rw [hvd] at hvv hR;refine hh5 ak ae aa hvv hR fun aB ai aC uM HR=> ?_;clear ak ae aa hvv hR hvd ah
 cases h7:c.op==7 with
 |true=>
  have Rf:(c.op !=7)=false:=by simp [bne,h7]
  have h6:(c.op==6)=false:=by rw [beq_iff_eq] at h7;rw [h7];rfl
  go_enter Tryz.func166,Tryz.ntmps166
  go_wp2_with (rw [show w.alloc _=wa from aB.out])
  go_ret;exact ⟨m9 (HR.out.symm.trans (by simp [*])),ai.out⟩
 | false=>
  have Rf:(c.op !=7)=true:=by simp [bne,h7]
  go_enter Tryz.func166,Tryz.ntmps166
  go_wp2_with (rw [show w.alloc _=wa from aB.out])
  refine uM.out.mono ?_;rintro e w2 ⟨rfl,hm2⟩;have hg2:=hm2.heap aC.out id;have d1:w2.cell? ⟨w.heap.size,1,none⟩=some (.int .i64 c.op):=d6 hg2 rfl;have d2:w2.cell? ⟨w.heap.size,2,none⟩=some (.int .i64 c.v.kind):=d6 hg2 rfl;have aS:=Lib.hid (ai.out.trans hm2 zi);clear hm2 hg2 c1 c2 c3 c4 c5 c6
  cases vd with
  |true=>
   go_wp2
   go_ret;exact ⟨m9 (HR.out.symm.trans (by simp [*])),aS.out⟩
  | false=>
   cases h6:c.op==6 with
   |true=>
    go_wp2
    go_ret;exact ⟨m9 (HR.out.symm.trans (by simp [*])),aS.out⟩
   |false=>
    go_wp2
    go_ret;exact ⟨m9 (HR.out.symm.trans (by simp [*])),aS.out⟩
theorem a9A (F:FuncId) (cap:Array Value) (hF:∀args w,(callFunc F args).run Tryz.prog w= .ok (.enter F args) w) (p:Cnd->Bool) (w:World) (v:Value) (l:List Cnd) (hv:i8 w 7 v l.length (q8 l)) (hll:l.length<=9223372036854775807)
 (hp:∀c∈l,∀wx,Mod (fun _=>False) w wx->Calls Tryz.prog F (#[.agg c.cells.toArray]++cap) wx fun e w'=>e= .returned (.bool (p c))/\Mod (fun _=>False) wx w'):
 Calls Tryz.prog 198 #[v,.func (.func F) #[] cap] w fun e w'=>∃n:Int,e= .returned (.int .i64 n)/\(decide (0<=n)=l.any p)/\Mod (fun _=>False) w w':=by
 obtain ⟨a,ca,rfl,hcap⟩:∃a c,v= .slice a l.length c/\l.length<=c:=by obtain ⟨-,a,c,h,h2, -⟩:=hv;exact ⟨a,c,h,h2⟩
 have df:(l.length:Int)<=9223372036854775807:=zo
 have bG:(l.length:Int)<=ca:=zo
 obtain ⟨R,hR⟩:∃R,l.any p=R:=⟨_,rfl⟩;rw [hR];refine hh4 hv hp hR hF fun Hv Hp HR HF=> ?_;clear hv hp hR hF hll
 go_enter Tryz.func198,Tryz.ntmps198
 go_wp2_with fail
 go_loopw [8] (fun i wr=>∃j:Nat,i= .int .i64 j/\j<=l.length/\Mod (fun _=>False) w wr/\(∀(k:Nat) (x:Cnd),k<j->l[k]? =some x->p x=false)) (fun i _=>l.length - (intOf i).toNat)
 case atStart=>exact ⟨0,rfl,Nat.zero_le _,Mod.refl _ _,fun k x hk=>zo⟩
 case round=>
  obtain ⟨j,rfl,hj,hmr,hall⟩:=hrel;by_cases hlt:j<l.length
  ·have hlt':(j:Int)<l.length:=zo
   obtain ⟨x,hxj⟩:∃x,l[j]? =some x:=⟨_,zz5 hlt⟩;have hxm:=zz8 hxj;obtain ⟨g,off,rfl,hf⟩:∃g off,a=some ⟨g,off,none⟩/\d8 wr g (off+j*7) x.cells:=U4 (Hv.out.mod hmr zi) hxj;have hpx:=Hp.out x hxm wr hmr;refine hh6 hmr hall hxj hxm hf hpx fun aL aO dX iJ Hf Bv=> ?_;clear hmr hall hxj hxm hf hpx;have hF2:=HF.out
   go_wp2_with ((with_reducible refine e9 126 (.tmp 14) ?_);refine ⟨g,off+j*7,rfl,x.cells,Hf.out,zk,zk, ?_⟩)
   refine Bv.out.mono ?_;rintro e w3 ⟨rfl,au⟩;have aZ:=Lib.hid (aL.out.trans au zi);clear au hF2
   cases hs:p x with
   | false=>
    have Hs:=zh hs;clear hs
    go_wp2_with fail
    go_roundw
    case rel=>
     refine ⟨j+1,by go_num,hlt,aZ.out,fun k x' hk hx'=> ?_⟩;rcases Nat.lt_succ_iff_lt_or_eq.1 hk with hk|rfl
     ·exact aO.out k x' hk hx'
     rw [dX.out] at hx';cases hx';exact Hs.out
    case measure=>simp [intOf];omega
   |true=>
    have Hs:=zh hs;clear hs
    go_wp2
    go_ret;refine ⟨(j:Int),rfl, ?_,aZ.out⟩;rw [<-HR.out,List.any_eq_true.2 ⟨x,iJ.out,Hs.out⟩];exact decide_eq_true zo
  obtain rfl:j=l.length:=zo
  refine hh2 hmr hall fun aL aO=> ?_;clear hmr hall
  go_wp2
  go_ret;refine ⟨-1,rfl, ?_,aL.out⟩
  rw [<-HR.out,List.any_eq_false.2 fun x hx=>by
   obtain ⟨k,hk⟩:=List.mem_iff_getElem?.1 hx;rw [aO.out k x (zz6 hk).1 hk]
   decide]
  rfl
theorem a2n (F:FuncId) (cap:Array Value) (hF:∀args w,(callFunc F args).run Tryz.prog w= .ok (.enter F args) w) (p:Cnd->Bool) (w:World) (v:Value) (l:List Cnd) (hv:i8 w 7 v l.length (q8 l)) (hll:l.length<=9223372036854775807)
 (hp:∀c∈l,∀wx,Mod (fun _=>False) w wx->Calls Tryz.prog F (#[.agg c.cells.toArray]++cap) wx fun e w'=>e= .returned (.bool (p c))/\Mod (fun _=>False) wx w'):
 Calls Tryz.prog 174 #[v,.func (.func F) #[] cap] w fun e w'=>e= .returned (.bool (l.any p))/\Mod (fun _=>False) w w':=by
 have Hi:=Lib.hid (a9A F cap hF p w v l hv hll hp);obtain ⟨R,hR⟩:∃R,l.any p=R:=⟨_,rfl⟩;rw [hR] at Hi⊢;clear hF hv hp hR
 go_enter Tryz.func174,Tryz.ntmps174
 go_wp2_with fail
 refine Hi.out.mono ?_;rintro e w3 ⟨n,rfl,hn,au⟩;refine hh2 hn au fun Hn aZ=> ?_;clear hn au
 go_wp2
 go_ret;exact ⟨m9 Hn.out.symm,aZ.out⟩
theorem b1p:∀(args:Array Value) (W:World),Sem.run Tryz.prog (callFunc 166 args) W= .ok (.enter 166 args) W:=fun args w=>by simp [go_sem]
theorem a6b (w:World) (sc:ByteArray) (cv:Value) (l:List Cnd) (hv:i8 w 7 cv l.length (q8 l)) (hll:l.length<=9223372036854775807):
 Calls Tryz.prog 173 #[.agg #[.string sc,cv]] w fun e w'=>e= .returned (.bool (l.any Cnd.voidB))/\Mod (fun _=>False) w w':=by
 obtain ⟨a,cap,rfl⟩:∃a c,cv= .slice a l.length c:=by obtain ⟨-,a,c,h, -⟩:=hv;exact ⟨a,c,h⟩
 obtain ⟨wa,ak,ae,aa,ah⟩:=g6 w (.cells #[.string sc,.slice a l.length cap] 34);have c1:wa.cell? ⟨w.heap.size,1,none⟩=some (.slice a l.length cap):=d6 aa rfl;have hct:=a2n 166 #[] b1p Cnd.voidB wa _ l (hv.mod ae zi) hll (fun c _ wx _=>a1X c wx);refine hh3 ak ae hct fun aB ai uN=> ?_;clear ak ae hct aa ah hv
 go_enter Tryz.func173,Tryz.ntmps173
 go_wp2_with (rw [show w.alloc _=wa from aB.out])
 refine uN.out.mono ?_;rintro e w3 ⟨rfl,au⟩;have aZ:=Lib.hid (ai.out.trans au zi);clear au
 go_wp2
 go_ret;exact ⟨rfl,aZ.out⟩
theorem b1q (x y:Nat) (hx:x<2^64) (hy:y<2^64) (w:World):
 Calls Tryz.prog 193 #[.float .f64 x,.float .f64 y] w fun e w'=>e= .returned (.bool (a3t x==a3t y))/\w'=w:=by
 have Rh:=Lib.hid (b1v x hx w);have Ri:=Lib.hid (b1v y hy w)
 go_enter Tryz.func193,Tryz.ntmps193
 go_wp2_with fail
 refine Rh.out.mono ?_;rintro e w1 ⟨rfl,rfl⟩
 go_wp2_with fail
 refine Ri.out.mono ?_;rintro e w2 ⟨rfl,rfl⟩
 go_wp2
 go_ret;refine ⟨congrArg (fun b=>Ending.returned (.bool b)) ?_,rfl⟩;by_cases h:a3t x=a3t y
 ·rw [h];simp
 rw [beq_eq_false_iff_ne.2 h,beq_eq_false_iff_ne.2 zo]
def V.same (a b:V):Bool:=a.kind==b.kind&&(if a.kind=0 then a.int==b.int else if a.kind=1 then a3t a.num==a3t b.num else if a.kind=2 then a.text.toList==b.text.toList else a.yes==b.yes)
theorem a7D (a b:V) (ha:a.num<2^64) (hb:b.num<2^64) (w:World):
 Calls Tryz.prog 167 #[.agg a.cells.toArray,.agg b.cells.toArray] w fun e w'=>e= .returned (.bool (V.same a b))/\Mod (fun _=>False) w w':=by
 obtain ⟨k1,i1,n1,t1,y1⟩:=a;obtain ⟨k2,i2,n2,t2,y2⟩:=b;have hsm:=fun w=>b1q n1 n2 ha hb w;have Hsm:=zh hsm;have hm2:∀A B:Obj,Mod (fun _=>False) w ((w.alloc A).alloc B):=fun A B=>((Mod.refl _ w).alloc _).alloc _;have aS:=zh hm2;clear hsm hm2 ha hb;unfold V.cells V.same;by_cases hk:k1=k2
 ·subst hk;have hkk:(k1==k1)=true:=by simp
  simp only [hkk,Bool.true_and];rcases (by omega:k1=0\/k1=1\/k1=2\/(k1≠0/\k1≠1/\k1≠2)) with h|h|h|⟨h0,h1,h2⟩
  ·subst h;rw [if_pos rfl]
   go_enter Tryz.func167,Tryz.ntmps167
   go_wp2
   go_ret;exact ⟨rfl,aS.out _ _⟩
  ·subst h;rw [if_neg zd,if_pos rfl]
   go_enter Tryz.func167,Tryz.ntmps167
   go_wp2_with fail
   refine (Hsm.out _).mono ?_;rintro e w2 ⟨rfl,rfl⟩
   go_wp2
   go_ret;exact ⟨rfl,aS.out _ _⟩
  ·subst h;rw [if_neg zd,if_neg zd,if_pos rfl]
   go_enter Tryz.func167,Tryz.ntmps167
   go_wp2
   go_ret;exact ⟨rfl,aS.out _ _⟩
  rw [if_neg h0,if_neg h1,if_neg h2]
  go_enter Tryz.func167,Tryz.ntmps167
  go_wp2
  go_ret;exact ⟨rfl,aS.out _ _⟩
 have hkk:(k1==k2)=false:=beq_eq_false_iff_ne.2 hk;have hkn:(k1 !=k2)=true:=by simp [bne,hkk]
 simp only [hkk,Bool.false_and]
 go_enter Tryz.func167,Tryz.ntmps167
 go_wp2
 go_ret;exact ⟨rfl,aS.out _ _⟩
def a9B (op:Int):Bool:=op==2||op==3
def b3V (op:Int):Bool:=op==4||op==5
theorem a6c (op:Int) (w:World):Calls Tryz.prog 170 #[.int .i64 op] w fun e w'=>e= .returned (.tuple #[.bool (a9B op),.bool (op==3)])/\w'=w:=by
 go_enter Tryz.func170,Tryz.ntmps170
 go_wp2
 all_goals (go_ret2;exact ⟨by simp [a9B, *],rfl⟩)
theorem a6d (op:Int) (w:World):Calls Tryz.prog 171 #[.int .i64 op] w fun e w'=>e= .returned (.tuple #[.bool (b3V op),.bool (op==5)])/\w'=w:=by
 go_enter Tryz.func171,Tryz.ntmps171
 go_wp2
 all_goals (go_ret2;exact ⟨by simp [b3V, *],rfl⟩)
def b5d (n:Int) (a b:Cnd):Bool:=(a9B b.op&&(decide (n<0)||(n==0&&(b.op==3|| !(a.op==3)))))||(b.op==1&&(decide (n<0)||(n==0&& !(a.op==3))))
def b5e (n:Int) (a b:Cnd):Bool:=(b3V b.op&&(decide (0<n)||(n==0&&(b.op==5|| !(a.op==5)))))||(b.op==1&&(decide (0<n)||(n==0&& !(a.op==5))))
def a2C (a b:Cnd):Bool:=
 if a.name.toList==b.name.toList then
  if a.voidB||b.op==7 then true else
  if a.op==7||(b.voidB||a.v.kind !=b.v.kind) then false else
  if a.op==0 then b.holds a.v else
  if a.op==1 then b.op==1&&V.same a.v b.v else
  if a.op==6 then (b.op==6&&a0k a.v.text b.v.text)||(b.op==1&& !a0k b.v.text a.v.text) else
  if a9B a.op then b5d (O0 a.v b.v).1 a b else b5e (O0 a.v b.v).1 a b
 else false
theorem Z0 (a b:Cnd) (ha:a.v.text.size<=9223372036854775807) (hb:b.v.text.size<=9223372036854775807) (NR:a.v.num<2^64) (hbn:b.v.num<2^64) (w:World):
 Calls Tryz.prog 133 #[.agg a.cells.toArray,.agg b.cells.toArray] w fun e w'=>e= .returned (.bool (a2C a b))/\Mod (fun _=>False) w w':=by
 obtain ⟨wa,ak,ae,aa,ah⟩:=g6 w (.cells a.cells.toArray 126);obtain ⟨wb,hwb,ay,aA,aU⟩:=g6 wa (.cells b.cells.toArray 126);have hmb:=ae.trans ay zi;have hA:=ay.heap aa id;have a0:wb.cell? ⟨w.heap.size,0,none⟩=some (.string a.name):=d6 hA rfl;have a1:wb.cell? ⟨w.heap.size,1,none⟩=some (.int .i64 a.op):=d6 hA rfl;have a2:wb.cell? ⟨w.heap.size,2,none⟩=some (.int .i64 a.v.kind):=d6 hA rfl;have a3:wb.cell? ⟨w.heap.size,3,none⟩=some (.int .i64 a.v.int):=d6 hA rfl;have a4:wb.cell? ⟨w.heap.size,4,none⟩=some (.float .f64 a.v.num):=d6 hA rfl;have a5:wb.cell? ⟨w.heap.size,5,none⟩=some (.string a.v.text):=d6 hA rfl;have a6:wb.cell? ⟨w.heap.size,6,none⟩=some (.bool a.v.yes):=d6 hA rfl;have b0:wb.cell? ⟨wa.heap.size,0,none⟩=some (.string b.name):=d6 aA rfl;have b1:wb.cell? ⟨wa.heap.size,1,none⟩=some (.int .i64 b.op):=d6 aA rfl;have b2:wb.cell? ⟨wa.heap.size,2,none⟩=some (.int .i64 b.v.kind):=d6 aA rfl;have b3:wb.cell? ⟨wa.heap.size,3,none⟩=some (.int .i64 b.v.int):=d6 aA rfl;have b4:wb.cell? ⟨wa.heap.size,4,none⟩=some (.float .f64 b.v.num):=d6 aA rfl;have b5:wb.cell? ⟨wa.heap.size,5,none⟩=some (.string b.v.text):=d6 aA rfl;have b6:wb.cell? ⟨wa.heap.size,6,none⟩=some (.bool b.v.yes):=d6 aA rfl;have hva:=a1X a wb;have hvb:=a1X b;have hho:=a3q b a.v hb ha;have hsm:=a7D a.v b.v NR hbn;have hp1:=a0Z a.v.text b.v.text ha hb;have hp2:=a0Z b.v.text a.v.text hb ha;have hcm:=a3p a.v b.v;obtain ⟨R,hR⟩:∃R,a2C a b=R:=⟨_,rfl⟩;rw [hR];unfold a2C at hR;obtain ⟨va,BG⟩:∃x,a.voidB=x:=⟨_,rfl⟩;obtain ⟨vb,BH⟩:∃x,b.voidB=x:=⟨_,rfl⟩;obtain ⟨⟨n,ok⟩,hn⟩:∃x,O0 a.v b.v=x:=⟨_,rfl⟩;rw [BG] at hva hR;rw [BH] at hvb hR;rw [hn] at hcm hR;simp only at hcm hR;have hlz:w.heap.size<wa.heap.size:=zo
 refine hh8 ak hwb hmb hA aA hva hvb hho fun aB bN eQ HA bq dE dY lH=> ?_;refine hh5 hsm hp1 hp2 hcm hR fun Hsm BJ NU Gz HR=> ?_;clear ak hwb hmb hA aA hva hvb hho hsm hp1 hp2 hcm hR aa ae ay ah aU ha hb NR hbn BG BH hn
 cases hnm:a.name.toList==b.name.toList with
 |false=>
  go_enter Tryz.func133,Tryz.ntmps133
  go_wp2_with (first|(rw [show w.alloc _=wa from aB.out])|(rw [show wa.alloc _=wb from bN.out]))
  go_ret;exact ⟨m9 (HR.out.symm.trans (by simp [*])),eQ.out⟩
 |true=>
 have HR:=Lib.hid (HR.out.symm.trans (if_pos hnm))
 go_enter Tryz.func133,Tryz.ntmps133
 go_wp2_with (first|(rw [show w.alloc _=wa from aB.out])|(rw [show wa.alloc _=wb from bN.out]))
 refine dE.out.mono ?_;rintro e w2 ⟨rfl,hm2⟩;have hA2:=hm2.heap HA.out id;have hB2:=hm2.heap bq.out id;have aK:=eQ.out.trans hm2 zi;refine hh3 hA2 hB2 aK fun HA2 HB2 aN=> ?_;clear hA2 hB2 aK hm2 hnm a0 a1 a2 a3 a4 a5 a6 b0 b1 b2 b3 b4 b5 b6 dE;have a0:w2.cell? ⟨w.heap.size,0,none⟩=some (.string a.name):=d6 HA2.out rfl;have a1:w2.cell? ⟨w.heap.size,1,none⟩=some (.int .i64 a.op):=d6 HA2.out rfl;have a2:w2.cell? ⟨w.heap.size,2,none⟩=some (.int .i64 a.v.kind):=d6 HA2.out rfl;have a3:w2.cell? ⟨w.heap.size,3,none⟩=some (.int .i64 a.v.int):=d6 HA2.out rfl;have a4:w2.cell? ⟨w.heap.size,4,none⟩=some (.float .f64 a.v.num):=d6 HA2.out rfl;have a5:w2.cell? ⟨w.heap.size,5,none⟩=some (.string a.v.text):=d6 HA2.out rfl;have a6:w2.cell? ⟨w.heap.size,6,none⟩=some (.bool a.v.yes):=d6 HA2.out rfl;have b0:w2.cell? ⟨wa.heap.size,0,none⟩=some (.string b.name):=d6 HB2.out rfl;have b1:w2.cell? ⟨wa.heap.size,1,none⟩=some (.int .i64 b.op):=d6 HB2.out rfl;have b2:w2.cell? ⟨wa.heap.size,2,none⟩=some (.int .i64 b.v.kind):=d6 HB2.out rfl;have b3:w2.cell? ⟨wa.heap.size,3,none⟩=some (.int .i64 b.v.int):=d6 HB2.out rfl;have b4:w2.cell? ⟨wa.heap.size,4,none⟩=some (.float .f64 b.v.num):=d6 HB2.out rfl;have b5:w2.cell? ⟨wa.heap.size,5,none⟩=some (.string b.v.text):=d6 HB2.out rfl;have b6:w2.cell? ⟨wa.heap.size,6,none⟩=some (.bool b.v.yes):=d6 HB2.out rfl
 cases va with
 |true=>
  go_wp2
  go_ret;exact ⟨m9 (HR.out.trans (by simp)),aN.out⟩
 |false=>
 cases h7:b.op==7 with
 |true=>
  go_wp2
  go_ret;exact ⟨m9 (HR.out.trans (by simp [*])),aN.out⟩
 |false=>
 cases h8:a.op==7 with
 |true=>
  go_wp2
  go_ret;exact ⟨m9 (HR.out.trans (by simp [*])),aN.out⟩
 |false=>
 go_wp2_with fail
 refine (dY.out _).mono ?_;rintro e w3 ⟨rfl,au⟩;have hA3:=au.heap HA2.out id;have hB3:=au.heap HB2.out id;have aR:=aN.out.trans au zi;refine hh3 hA3 hB3 aR fun lC HB3 aT=> ?_;clear hA3 hB3 aR au a0 a1 a2 a3 a4 a5 a6 b0 b1 b2 b3 b4 b5 b6 dY HA2 HB2 aN;have a0:w3.cell? ⟨w.heap.size,0,none⟩=some (.string a.name):=d6 lC.out rfl;have a1:w3.cell? ⟨w.heap.size,1,none⟩=some (.int .i64 a.op):=d6 lC.out rfl;have a2:w3.cell? ⟨w.heap.size,2,none⟩=some (.int .i64 a.v.kind):=d6 lC.out rfl;have a3:w3.cell? ⟨w.heap.size,3,none⟩=some (.int .i64 a.v.int):=d6 lC.out rfl;have a4:w3.cell? ⟨w.heap.size,4,none⟩=some (.float .f64 a.v.num):=d6 lC.out rfl;have a5:w3.cell? ⟨w.heap.size,5,none⟩=some (.string a.v.text):=d6 lC.out rfl;have a6:w3.cell? ⟨w.heap.size,6,none⟩=some (.bool a.v.yes):=d6 lC.out rfl;have b0:w3.cell? ⟨wa.heap.size,0,none⟩=some (.string b.name):=d6 HB3.out rfl;have b1:w3.cell? ⟨wa.heap.size,1,none⟩=some (.int .i64 b.op):=d6 HB3.out rfl;have b2:w3.cell? ⟨wa.heap.size,2,none⟩=some (.int .i64 b.v.kind):=d6 HB3.out rfl;have b3:w3.cell? ⟨wa.heap.size,3,none⟩=some (.int .i64 b.v.int):=d6 HB3.out rfl;have b4:w3.cell? ⟨wa.heap.size,4,none⟩=some (.float .f64 b.v.num):=d6 HB3.out rfl;have b5:w3.cell? ⟨wa.heap.size,5,none⟩=some (.string b.v.text):=d6 HB3.out rfl;have b6:w3.cell? ⟨wa.heap.size,6,none⟩=some (.bool b.v.yes):=d6 HB3.out rfl
 cases vb with
 |true=>
  go_wp2
  go_ret;exact ⟨m9 (HR.out.trans (by simp [*])),aT.out⟩
 |false=>
 cases hk:a.v.kind==b.v.kind with
 |false=>
  have hkn:(a.v.kind !=b.v.kind)=true:=by simp [bne,hk]
  go_wp2
  go_ret;exact ⟨m9 (HR.out.trans (by simp [*])),aT.out⟩
 |true=>
 have hkn:(a.v.kind !=b.v.kind)=false:=by simp [bne,hk]
 clear hk
 cases h0:a.op==0 with
 |true=>
  go_wp2_with fail
  refine (lH.out _).mono ?_;rintro e w4 ⟨rfl,aM⟩;have fu:=Lib.hid (aT.out.trans aM zi);clear aM
  go_wp2
  go_ret;exact ⟨m9 (HR.out.trans (by simp [*])),fu.out⟩
 |false=>
 cases h1:a.op==1 with
 | true=>
  cases hb1:b.op==1 with
  |false=>
   go_wp2
   go_ret;exact ⟨m9 (HR.out.trans (by simp [*])),aT.out⟩
  |true=>
   go_wp2_with fail
   refine (Hsm.out _).mono ?_;rintro e w4 ⟨rfl,aM⟩;have fu:=Lib.hid (aT.out.trans aM zi);clear aM
   go_wp2
   go_ret;exact ⟨m9 (HR.out.trans (by simp [*])),fu.out⟩
 |false=>
 cases h6:a.op==6 with
 | true=>
  cases hb6:b.op==6 with
  | true=>
   have hb1:(b.op==1)=false:=by rw [beq_iff_eq] at hb6;rw [hb6];rfl
   obtain ⟨pf,fQ⟩:∃x,a0k a.v.text b.v.text=x:=⟨_,rfl⟩;rw [fQ] at BJ HR;clear fQ
   go_wp2_with fail
   refine (BJ.out _).mono ?_;rintro e w4 ⟨rfl,rfl⟩
   cases pf with
   |true=>
    go_wp2
    go_ret;exact ⟨m9 (HR.out.trans (by simp [*])),aT.out⟩
   |false=>
    go_wp2
    go_ret;exact ⟨m9 (HR.out.trans (by simp [*])),aT.out⟩
  | false=>
   cases hb1:b.op==1 with
   |false=>
    go_wp2
    go_ret;exact ⟨m9 (HR.out.trans (by simp [*])),aT.out⟩
   |true=>
    go_wp2_with fail
    refine (NU.out _).mono ?_;rintro e w4 ⟨rfl,rfl⟩
    go_wp2
    go_ret;exact ⟨m9 (HR.out.trans (by simp [*])),aT.out⟩
 |false=>
 go_wp2_with fail
 refine (Gz.out _).mono ?_;rintro e w4 ⟨rfl,aM⟩;have iK:=aM.heap lC.out id;have hB4:=aM.heap HB3.out id;have aV:=aT.out.trans aM zi;refine hh3 iK hB4 aV fun Rj Jh bS=> ?_;clear iK hB4 aV aM a0 a1 a2 a3 a4 a5 a6 b0 b1 b2 b3 b4 b5 b6 lC HB3 aT;have a0:w4.cell? ⟨w.heap.size,1,none⟩=some (.int .i64 a.op):=d6 Rj.out rfl;have b0:w4.cell? ⟨wa.heap.size,1,none⟩=some (.int .i64 b.op):=d6 Jh.out rfl
 go_wp2_with fail
 refine (a6c a.op w4).mono ?_;rintro e w5 ⟨rfl,rfl⟩;obtain ⟨x,hx⟩:∃x,a9B a.op=x:=⟨_,rfl⟩;obtain ⟨y3,hy3⟩:∃x,(a.op==3)=x:=⟨_,rfl⟩;obtain ⟨y5,Ji⟩:∃x,(a.op==5)=x:=⟨_,rfl⟩;obtain ⟨z3,hz3⟩:∃x,(b.op==3)=x:=⟨_,rfl⟩;obtain ⟨z5,Jj⟩:∃x,(b.op==5)=x:=⟨_,rfl⟩;obtain ⟨bl,hbl⟩:∃x,a9B b.op=x:=⟨_,rfl⟩;obtain ⟨al,hal⟩:∃x,b3V b.op=x:=⟨_,rfl⟩;unfold b5d b5e at HR;rw [hx,hy3,Ji,hz3,Jj,hbl,hal] at HR;rw [hx,hy3];have hbb:=a6c b.op w5;have hab:=a6d a.op w5;have xE:=a6d b.op w5;rw [hbl,hz3] at hbb;rw [Ji] at hab;rw [hal,Jj] at xE;refine hh3 hbb hab xE fun Rk iR Jk=> ?_;clear hbb hab xE hx hy3 Ji hz3 Jj hbl hal
 cases x with
 |true=>
  go_wp2_with fail
  refine Rk.out.mono ?_;rintro e w6 ⟨rfl,rfl⟩
  go_wp2
  all_goals (go_ret;exact ⟨m9 (HR.out.trans (by first|(simp [*];done)|(rw [show decide (n<0)=false from decide_eq_false zo];simp [*];done)|(rw [show decide (0<n)=false from decide_eq_false zo];simp [*];done))),bS.out⟩)
 |false=>
  go_wp2_with fail
  refine iR.out.mono ?_;rintro e w6 ⟨rfl,rfl⟩
  go_wp2_with fail
  refine Jk.out.mono ?_;rintro e w7 ⟨rfl,rfl⟩
  go_wp2
  all_goals (go_ret;exact ⟨m9 (HR.out.trans (by first|(simp [*];done)|(rw [show decide (n<0)=false from decide_eq_false zo];simp [*];done)|(rw [show decide (0<n)=false from decide_eq_false zo];simp [*];done))),bS.out⟩)
end Go.Proofs.YtdmjoodhaeijmaaGreatDoor
