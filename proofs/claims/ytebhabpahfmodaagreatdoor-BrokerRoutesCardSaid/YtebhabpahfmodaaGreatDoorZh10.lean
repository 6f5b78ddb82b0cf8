/- Lemmas. -/
import Derived.Test.YtebhabpahfmodaaGreatDoorZh7
set_option maxHeartbeats 40000000
set_option maxRecDepth 20000
namespace Go.Proofs.YtebhabpahfmodaaGreatDoor
open Go.RowKit
theorem a7H (f:Cnd->Bool) (w:World) (sc:ByteArray) (cv:Value) (l:List Cnd) (es:ByteArray) (ev:Value) (ea:Option Addr) (en ec:Nat) (hev:ev= .slice ea en ec) (hv:j3 w 7 cv l.length (m5 l)) (hll:l.length<=9223372036854775807) (hsc:sc.size<=9223372036854775807) (hes:es.size<=9223372036854775807)
 (hm:∀c∈l,∀wx,Mod (fun _=>False) w wx->Calls Tryz.prog 103 #[.agg c.cells.toArray,.agg #[.string es,ev]] wx fun e w'=>e= .returned (.bool (f c))/\Mod (fun _=>False) wx w'):
 Calls Tryz.prog 68 #[.agg #[.string sc,cv],.agg #[.string es,ev]] w fun e w'=>e= .returned (.bool (l.all f&&m8 es sc))/\Mod (fun _=>False) w w':=by
 subst hev;obtain ⟨a,cap,rfl,hcap⟩:∃a c,cv= .slice a l.length c/\l.length<=c:=by obtain ⟨-,a,c,h,h2, -⟩:=hv;exact ⟨a,c,h,h2⟩
 have bN:(l.length:Int)<=9223372036854775807:=zo
 have bf:(l.length:Int)<=cap:=zo
 obtain ⟨wa,aD,ah,ae,au⟩:=g8 w (.cells #[.string sc,.slice a l.length cap] 26);obtain ⟨wb,hwb,ay,ak,aO⟩:=g8 wa (.cells #[.string es,.slice ea en ec] 31);have hmb:=ah.trans ay zi;have hva:=hv.mod hmb zi;have hg:=ay.heap ae id;have c0:wb.cell? ⟨w.heap.size,0,none⟩=some (.string sc):=d6 hg rfl;have c1:wb.cell? ⟨w.heap.size,1,none⟩=some (.slice a l.length cap):=d6 hg rfl;obtain ⟨R,hR⟩:∃R,(l.all f&&m8 es sc)=R:=⟨_,rfl⟩;rw [hR];have hqz:w.heap.size<wa.heap.size:=zo
 obtain ⟨Hv,Hm,aF,bD,bW,aH,aT,dC,HR,Hg,Gf,YX⟩:=zh12 hv hm aD hwb hmb ae ak hva hR hg hsc hes;obtain ⟨aB,jB⟩:=zh2 ah ay;clear hv hm aD hwb hmb ae ak hva hR hg hsc hes ah ay au aO hll
 go_enter Tryz.func68,Tryz.ntmps68
 go_wp2_with (first|(rw [show w.alloc _=wa from aF.out])|(rw [show wa.alloc _=wb from bD.out]))
 go_loopw [10] (fun i wr=>∃j:Nat,i= .int .i64 j/\j<=l.length/\Mod (fun _=>False) wb wr/\(∀(k:Nat) (x:Cnd),k<j->l[k]? =some x->f x=true)) (fun i _=>l.length - (intOf i).toNat)
 case atStart=>exact ⟨0,rfl,Nat.zero_le _,Mod.refl _ _,fun k x hk=>zo⟩
 case round=>
  obtain ⟨j,rfl,hj,hmr,hall⟩:=hrel;by_cases hlt:j<l.length
  ·have hlt':(j:Int)<l.length:=zo
   obtain ⟨x,hxj⟩:∃x,l[j]? =some x:=⟨_,zz5 hlt⟩;have hxm:=zz8 hxj;obtain ⟨g,off,rfl,hf⟩:∃g off,a=some ⟨g,off,none⟩/\e9 wr g (off+j*7) x.cells:=G9 (dC.out.mod hmr zi) hxj;obtain ⟨wz,hwz,ai,aj,aJ⟩:=g8 wr (.cells x.cells.toArray 87);have hmz:=hmr.trans ai zi;have hge:=hmz.heap aT.out id;have e0:wz.cell? ⟨wa.heap.size,0,none⟩=some (.string es):=d6 hge rfl;have e1:wz.cell? ⟨wa.heap.size,1,none⟩=some (.slice ea en ec):=d6 hge rfl;have hcr:=Hm.out x hxm wz (bW.out.trans hmz zi);obtain ⟨aK,aM,cB,fH,Hf,bi,bn,aN,bG,vT⟩:=zh10 hmr hall hxj hxm hf hwz ai aj hmz hcr;clear hmr hall hxj hxm hf hwz ai aj hmz hcr aJ hge c0 c1
   go_wp2_with (first|((with_reducible refine d8 87 (.tmp 12) ?_);refine ⟨g,off+j*7,rfl,x.cells,Hf.out,zk,zk, ?_⟩)|((with_reducible refine d9 87 (.tmp 6) (.tmp 13) ?_);refine ⟨rfl,x.cells,rfl,rfl,zk,rfl, ?_⟩;rw [bi.out])|((with_reducible refine d8 87 (.tmp 6) ?_);refine ⟨wr.heap.size,0,rfl,x.cells,e9.row aN.out,zk,zk, ?_⟩))
   refine vT.out.mono ?_;rintro e w3 ⟨rfl,aC⟩;have bA:=Lib.hid (bG.out.trans aC zi);clear aC e0 e1
   cases hs:f x with
   | true=>
    have Hs:=zh hs;clear hs
    go_wp2_with fail
    go_roundw
    case rel=>
     refine ⟨j+1,by go_num,hlt,bA.out,fun k x' hk hx'=> ?_⟩;rcases Nat.lt_succ_iff_lt_or_eq.1 hk with hk|rfl
     ·exact aM.out k x' hk hx'
     rw [cB.out] at hx';cases hx';exact Hs.out
    case measure=>simp [intOf];omega
   |false=>
    have Hs:=zh hs;clear hs
    go_wp2
    go_ret;refine ⟨?_,bW.out.trans bA.out zi⟩;rw [<-HR.out,List.all_eq_false.2 ⟨x,fH.out,by rw [Hs.out];decide⟩,Bool.false_and];rfl
  obtain rfl:j=l.length:=zo
  have hgr:=hmr.heap Hg.out id;have hge:=hmr.heap aT.out id;have c0:wr.cell? ⟨w.heap.size,0,none⟩=some (.string sc):=d6 hgr rfl;have e0:wr.cell? ⟨wa.heap.size,0,none⟩=some (.string es):=d6 hge rfl;have hun:=a14 es sc YX.out Gf.out wr
  have hfr:R=m8 es sc:=by
   rw [<-HR.out,List.all_eq_true.2 fun x hx=>by
    obtain ⟨k,hk⟩:=List.mem_iff_getElem?.1 hx
    exact hall k x (zz6 hk).1 hk,Bool.true_and]
  have bg:=bW.out.trans hmr zi;obtain ⟨eG,uK,bB⟩:=zh3 bg hun hfr;clear bg hun hfr hmr hall hgr hge
  go_wp2_with fail
  refine uK.out.mono ?_;rintro e w3 ⟨rfl,rfl⟩
  go_wp2
  go_ret;refine ⟨?_,eG.out⟩;rw [bB.out];rfl
def q9 (l:List Ru) (tenant:Int) (who:ByteArray):Option Int:=(l.reverse.find? fun r=>r.of 0 tenant who).map Ru.broker
theorem a6g {l:List Ru} {tenant:Int} {who:ByteArray} {j:Nat} {x:Ru} (hx:l[j]? =some x) (h:x.of 0 tenant who=true) (hr:∀(k:Nat) (y:Ru),j<k->l[k]? =some y->y.of 0 tenant who=false):q9 l tenant who=some x.broker:=by
 have hj:=(zz6 hx).1
 have hs:l=l.take j++x::l.drop (j+1):=by
  conv=>lhs;rw [<-List.take_append_drop j l,List.drop_eq_getElem_cons hj]
  rw [zz5 hj] at hx;cases hx;rfl
 unfold q9
 rw [hs,List.reverse_append,List.reverse_cons,zz12,List.find?_append,List.find?_eq_none.2 (fun y hy=>by
  obtain ⟨k,hk⟩:=List.mem_iff_getElem?.1 (List.mem_reverse.1 hy);rw [List.getElem?_drop] at hk;rw [hr _ y zo hk]
  decide)]
 simp [h]
theorem a6h {l:List Ru} {tenant:Int} {who:ByteArray} (hr:∀(k:Nat) (y:Ru),l[k]? =some y->y.of 0 tenant who=false):q9 l tenant who=none:=by
 unfold q9
 rw [List.find?_eq_none.2 (fun y hy=>by
  obtain ⟨k,hk⟩:=List.mem_iff_getElem?.1 (List.mem_reverse.1 hy);rw [hr k y hk]
  decide)]
 rfl
theorem a5t (w:World) (v:Value) (l:List Ru) (hv:I9 w v l) (hll:l.length<=9223372036854775807) (tenant:Int) (who:ByteArray):
 Calls Tryz.prog 70 #[v,.int .i64 tenant,.string who] w fun e w'=>e= .returned (.tuple #[.int .i64 ((q9 l tenant who).getD 0),.bool (q9 l tenant who).isSome])/\Mod (fun _=>False) w w':=by
 obtain ⟨a,cap,rfl,hcap⟩:∃a c,v= .slice a l.length c/\l.length<=c:=by obtain ⟨-,a,c,h,h2, -⟩:=hv.rd;exact ⟨a,c,h,h2⟩
 have bN:(l.length:Int)<=9223372036854775807:=zo
 have bf:(l.length:Int)<=cap:=zo
 have hl0:(0:Int)<=l.length:=zo
 obtain ⟨R,hR⟩:∃R,q9 l tenant who=R:=⟨_,rfl⟩;rw [hR];obtain ⟨Hv,HR⟩:=zh2 hv hR;clear hv hR hll
 go_enter Tryz.func70,Tryz.ntmps70
 go_wp2_with fail
 go_loopw [8] (fun i wr=>∃x:Int,i= .int .i64 x/\ -1<=x/\x<l.length/\Mod (fun _=>False) w wr/\(∀(k:Nat) (y:Ru),x<k->l[k]? =some y->y.of 0 tenant who=false)) (fun i _=>(intOf i+1).toNat)
 case atStart=>exact ⟨(l.length:Int) - 1,rfl,zo,zo,Mod.refl _ _,fun k y hk hy=>by have:=(zz6 hy).1;omega⟩
 case round=>
  obtain ⟨x,rfl,hx0,hxl,hmr,hall⟩:=hrel;by_cases hlt:0<=x
  ·obtain ⟨j,rfl⟩:∃j:Nat,x=j:=⟨x.toNat,zo⟩;obtain ⟨r,Gg⟩:∃x,l[j]? =some x:=⟨_,zz5 zo⟩;obtain ⟨g,off,rfl,hf⟩:∃g off,a=some ⟨g,off,none⟩/\e9 wr g (off+j*8) r.cells:=F1 (Hv.out.mod hmr) Gg;have hof:=b5w r 0 tenant who wr;obtain ⟨aK,aM,VB,Hf,uL⟩:=zh5 hmr hall Gg hf hof;clear hmr hall Gg hf hof hx0
   go_wp2_with ((with_reducible refine d8 28 (.tmp 18) ?_);refine ⟨g,off+j*8,rfl,r.cells,Hf.out,zk,zk, ?_⟩)
   refine uL.out.mono ?_;rintro e w3 ⟨rfl,aC⟩;have hf3:=Hf.out.mod aC id;have b3:w3.cell? ⟨g,off+j*8+3,none⟩=some (.int .i64 r.broker):=hf3 3 _ rfl;have bA:=Lib.hid (aK.out.trans aC zi);clear aC hf3
   cases hs:r.of 0 tenant who with
   |true=>
    have Hs:=zh hs;clear hs
    go_wp2
    go_ret2
    refine ⟨?_,bA.out⟩;rw [<-HR.out,a6g VB.out Hs.out (fun k y hk hy=>aM.out k y zo hy)];rfl
   | false=>
    have Hs:=zh hs;clear hs
    go_wp2_with fail
    go_roundw
    case rel=>
     refine ⟨(j:Int) - 1,rfl,zo,zo,bA.out,fun k y hk hy=> ?_⟩;rcases Nat.lt_or_eq_of_le (show j<=k by omega) with hk|rfl
     ·exact aM.out k y zo hy
     rw [VB.out] at hy;cases hy;exact Hs.out
    case measure=>simp [intOf];try omega
  have hlt':x<0:=zo
  obtain ⟨aK,aM⟩:=zh2 hmr hall;clear hmr hall
  go_wp2
  go_ret2
  refine ⟨?_,aK.out⟩;rw [<-HR.out,a6h (fun k y hy=>aM.out k y zo hy)];rfl
theorem b1w:∀(args:Array Value) (W:World),Sem.run Tryz.prog (callFunc 109 args) W= .ok (.enter 109 args) W:=fun args w=>by simp [go_sem]
theorem b3T (p:Bool) (c d:Cnd) (k:Nat) (w:World) (hk:w.heap[k]? =some (.cells c.cells.toArray 87 (0,0)))
 (hp:∀wx,Mod (fun _=>False) w wx->Calls Tryz.prog 84 #[.agg d.cells.toArray,.agg c.cells.toArray] wx fun e w'=>e= .returned (.bool p)/\Mod (fun _=>False) wx w'):
 Calls Tryz.prog 109 (#[.agg d.cells.toArray]++#[.pointer (some ⟨k,0,none⟩)]) w fun e w'=>e= .returned (.bool p)/\Mod (fun _=>False) w w':=by
 obtain ⟨wa,aD,ah,ae,au⟩:=g8 w (.cells d.cells.toArray 87);have hkl:=(zz7 hk).1;have hka:=ah.heap hk id;have VC:=hp wa ah;obtain ⟨aF,aB,aH,YY,YZ⟩:=zh5 aD ah ae hka VC;clear aD ah ae hka VC au hk hp;show Calls Tryz.prog 109 #[.agg d.cells.toArray,.pointer (some ⟨k,0,none⟩)] w _
 go_enter Tryz.func109,Tryz.ntmps109
 go_wp2_with (first|(rw [show w.alloc _=wa from aF.out])|((with_reducible refine d8 87 (.tmp 2) ?_);refine ⟨w.heap.size,0,rfl,d.cells,e9.row aH.out,zk,zk, ?_⟩)|((with_reducible refine d8 87 (.tmp 1) ?_);refine ⟨k,0,rfl,c.cells,e9.row YY.out,zk,zk, ?_⟩))
 refine YZ.out.mono ?_;rintro e w2 ⟨rfl,hm2⟩;have bq:=Lib.hid (aB.out.trans hm2 zi);clear hm2
 go_wp2
 go_ret;exact ⟨rfl,bq.out⟩
theorem a2G (f:Cnd->Cnd->Bool) (w:World) (sc:ByteArray) (cv:Value) (l:List Cnd) (hv:j3 w 7 cv l.length (m5 l)) (hll:l.length<=9223372036854775807) (hsc:sc.size<=9223372036854775807)
 (gs:ByteArray) (gv:Value) (m:List Cnd) (hg:j3 w 7 gv m.length (m5 m)) (jX:m.length<=9223372036854775807) (hgs:gs.size<=9223372036854775807)
 (hp:∀d∈m,∀c∈l,∀wx,Mod (fun _=>False) w wx->Calls Tryz.prog 84 #[.agg d.cells.toArray,.agg c.cells.toArray] wx fun e w'=>e= .returned (.bool (f d c))/\Mod (fun _=>False) wx w'):
 Calls Tryz.prog 72 #[.agg #[.string sc,cv],.agg #[.string gs,gv]] w fun e w'=>e= .returned (.bool (m.any Cnd.voidB||(l.all (fun c=>m.any fun d=>f d c)&&m8 gs sc)))/\Mod (fun _=>False) w w':=by
 obtain ⟨a,cap,rfl,hcap⟩:∃a c,cv= .slice a l.length c/\l.length<=c:=by obtain ⟨-,a,c,h,h2, -⟩:=hv;exact ⟨a,c,h,h2⟩
 obtain ⟨ga,gcap,rfl,Gh⟩:∃a c,gv= .slice a m.length c/\m.length<=c:=by obtain ⟨-,a,c,h,h2, -⟩:=hg;exact ⟨a,c,h,h2⟩
 have bN:(l.length:Int)<=9223372036854775807:=zo
 have bf:(l.length:Int)<=cap:=zo
 obtain ⟨wa,aD,ah,ae,au⟩:=g8 w (.cells #[.string sc,.slice a l.length cap] 26);obtain ⟨wb,hwb,ay,ak,aO⟩:=g8 wa (.cells #[.string gs,.slice ga m.length gcap] 26);have hmb:=ah.trans ay zi;have hF:=ay.heap ae id;have d0:wb.cell? ⟨wa.heap.size,0,none⟩=some (.string gs):=d6 ak rfl;have d1:wb.cell? ⟨wa.heap.size,1,none⟩=some (.slice ga m.length gcap):=d6 ak rfl;have hvd:=a7B wb gs (.slice ga m.length gcap) m (hg.mod hmb zi) jX;obtain ⟨R,hR⟩:∃R,(m.any Cnd.voidB||(l.all (fun c=>m.any fun d=>f d c)&&m8 gs sc))=R:=⟨_,rfl⟩;rw [hR];have hqz:w.heap.size<wa.heap.size:=zo
 obtain ⟨Hv,Hg,Hp,aF,bD,bW,HF,aT,AB,HR,Gf,AC⟩:=zh12 hv hg hp aD hwb hmb hF ak hvd hR hsc hgs;have AJ:=zh jX;clear hv hg hp aD hwb hmb hF ak hvd hR hsc hgs jX ah ay ae au aO hll
 go_enter Tryz.func72,Tryz.ntmps72
 go_wp2_with (first|(rw [show w.alloc _=wa from aF.out])|(rw [show wa.alloc _=wb from bD.out]))
 refine AB.out.mono ?_;rintro e w1 ⟨rfl,hm1⟩;have bE:=bW.out.trans hm1 zi;have hF1:=hm1.heap HF.out id;have hG1:=hm1.heap aT.out id;have c1:w1.cell? ⟨w.heap.size,1,none⟩=some (.slice a l.length cap):=d6 hF1 rfl;have hv1:=Hv.out.mod bE zi;obtain ⟨bF,Gi,VD,Gj⟩:=zh4 bE hF1 hG1 hv1;clear bE hF1 hG1 hv1 hm1 d0 d1 AB
 cases ol:m.any Cnd.voidB with
 |true=>
  have ER:=zh ol;clear ol
  go_wp2
  go_ret;exact ⟨by rw [<-HR.out,ER.out];rfl,bF.out⟩
 |false=>
 have HR:=Lib.hid (show (l.all (fun c=>m.any fun d=>f d c)&&m8 gs sc)=R by rw [<-HR.out,ol];rfl);clear ol
 go_wp2_with fail
 go_loopw [12] (fun i wr=>∃j:Nat,i= .int .i64 j/\j<=l.length/\Mod (fun _=>False) w1 wr/\(∀(k:Nat) (x:Cnd),k<j->l[k]? =some x->(m.any fun d=>f d x)=true)) (fun i _=>l.length - (intOf i).toNat)
 case atStart=>exact ⟨0,rfl,Nat.zero_le _,Mod.refl _ _,fun k x hk=>zo⟩
 case round=>
  obtain ⟨j,rfl,hj,hmr,hall⟩:=hrel;by_cases hlt:j<l.length
  ·have hlt':(j:Int)<l.length:=zo
   obtain ⟨x,hxj⟩:∃x,l[j]? =some x:=⟨_,zz5 hlt⟩;have hxm:=zz8 hxj;obtain ⟨g,off,rfl,hf⟩:∃g off,a=some ⟨g,off,none⟩/\e9 wr g (off+j*7) x.cells:=G9 (Gj.out.mod hmr zi) hxj;obtain ⟨wz,hwz,ai,aj,aJ⟩:=g8 wr (.cells x.cells.toArray 87);have hmz:=hmr.trans ai zi;have iW:=bF.out.trans hmz zi;have hge:=hmz.heap VD.out id;have e1:wz.cell? ⟨wa.heap.size,1,none⟩=some (.slice ga m.length gcap):=d6 hge rfl
   have hct:=a2X 109 #[.pointer (some ⟨wr.heap.size,0,none⟩)] b1w (fun d=>f d x) wz (.slice ga m.length gcap) m (Hg.out.mod iW zi) AJ.out
    (fun d hd wx hwx=>b3T (f d x) x d wr.heap.size wx (hwx.heap aj id) (fun wy Za=>Hp.out d hd x hxm wy ((iW.trans hwx zi).trans Za zi)))
   have hmf:∀(fn:Fn) (first cap:Array Value) (w:World),(Instr.makeFunc fn first cap).run Tryz.prog w= .ok (.func fn first cap) w:=fun _ _ _ _=>rfl;obtain ⟨aK,aM,cB,fH,Hf,bi,aN,bG,uM,qE⟩:=zh10 hmr hall hxj hxm hf hwz aj hmz hct iW;clear hmr hall hxj hxm hf hwz aj hmz hct iW aJ ai hge c1
   go_wp2_with (first|((with_reducible refine d8 87 (.tmp 14) ?_);refine ⟨g,off+j*7,rfl,x.cells,Hf.out,zk,zk, ?_⟩)|((with_reducible refine d9 87 (.tmp 6) (.tmp 15) ?_);refine ⟨rfl,x.cells,rfl,rfl,zk,rfl, ?_⟩;rw [bi.out]))
   refine uM.out.mono ?_;rintro e w3 ⟨rfl,aC⟩;have bA:=Lib.hid (bG.out.trans aC zi);clear aC e1
   cases hs:m.any (fun d=>f d x) with
   | true=>
    have Hs:=zh hs;clear hs
    go_wp2_with fail
    go_roundw
    case rel=>
     refine ⟨j+1,by go_num,hlt,bA.out,fun k x' hk hx'=> ?_⟩;rcases Nat.lt_succ_iff_lt_or_eq.1 hk with hk|rfl
     ·exact aM.out k x' hk hx'
     rw [cB.out] at hx';cases hx';exact Hs.out
    case measure=>simp [intOf];omega
   |false=>
    have Hs:=zh hs;clear hs
    go_wp2
    go_ret;refine ⟨?_,bF.out.trans bA.out zi⟩;rw [<-HR.out,List.all_eq_false.2 ⟨x,fH.out,by rw [Hs.out];decide⟩,Bool.false_and];rfl
  obtain rfl:j=l.length:=zo
  have hgr:=hmr.heap Gi.out id;have hge:=hmr.heap VD.out id;have c0:wr.cell? ⟨w.heap.size,0,none⟩=some (.string sc):=d6 hgr rfl;have e0:wr.cell? ⟨wa.heap.size,0,none⟩=some (.string gs):=d6 hge rfl;have hun:=a14 gs sc AC.out Gf.out wr
  have hfr:R=m8 gs sc:=by
   rw [<-HR.out,List.all_eq_true.2 fun x hx=>by
    obtain ⟨k,hk⟩:=List.mem_iff_getElem?.1 hx
    exact hall k x (zz6 hk).1 hk,Bool.true_and]
  have bg:=bF.out.trans hmr zi;obtain ⟨eG,uK,bB⟩:=zh3 bg hun hfr;clear bg hun hfr hmr hall hgr hge
  go_wp2_with fail
  refine uK.out.mono ?_;rintro e w3 ⟨rfl,rfl⟩
  go_wp2
  go_ret;refine ⟨?_,eG.out⟩;rw [bB.out];rfl
theorem a2H (m:Ru->Bool) (w:World) (v:Value) (l:List Ru) (hv:I9 w v l) (hll:l.length<=9223372036854775807) (tenant:Int) (who:ByteArray) (es:ByteArray) (ea:Option Addr) (en ec:Nat)
 (hm:∀r∈l,∀wx,Mod (fun _=>False) w wx->r.of 2 tenant who=true->Calls Tryz.prog 72 #[.agg #[.string r.sc,r.cv],.agg #[.string es,.slice ea en ec]] wx fun e w'=>e= .returned (.bool (m r))/\Mod (fun _=>False) wx w'):
 Calls Tryz.prog 34 #[v,.int .i64 tenant,.string who,.agg #[.string es,.slice ea en ec]] w fun e w'=>
  e= .returned (.bool ((q9 l tenant who).isSome&&l.any fun r=>r.of 2 tenant who&&m r))/\Mod (fun _=>False) w w':=by
 obtain ⟨a,cap,rfl,hcap⟩:∃a c,v= .slice a l.length c/\l.length<=c:=by obtain ⟨-,a,c,h,h2, -⟩:=hv.rd;exact ⟨a,c,h,h2⟩
 have bN:(l.length:Int)<=9223372036854775807:=zo
 have bf:(l.length:Int)<=cap:=zo
 obtain ⟨wa,aD,ah,ae,au⟩:=g8 w (.cells #[.string es,.slice ea en ec] 26);have hva:=hv.mod ah;have hho:=a5t wa (.slice a l.length cap) l hva hll tenant who;have hqz:w.heap.size<wa.heap.size:=zo
 obtain ⟨R,hR⟩:∃R,((q9 l tenant who).isSome&&l.any fun r=>r.of 2 tenant who&&m r)=R:=⟨_,rfl⟩;rw [hR];obtain ⟨Hv,Hm,aF,aB,aH,dC,jm,HR⟩:=zh8 hv hm aD ah ae hva hho hR;clear hv hm aD ah ae hva hho hR au hll
 go_enter Tryz.func34,Tryz.ntmps34
 go_wp2_with (rw [show w.alloc _=wa from aF.out])
 refine jm.out.mono ?_;rintro e w1 ⟨rfl,hm1⟩;have bE:=aB.out.trans hm1 zi;have hg1:=hm1.heap aH.out id;obtain ⟨bF,lJ⟩:=zh2 bE hg1;clear bE hg1 hm1 jm
 cases hh:q9 l tenant who with
 |none=>
  have Hh:=zh hh;clear hh
  go_wp2
  go_ret;refine ⟨?_,bF.out⟩;rw [<-HR.out,Hh.out];rfl
 |some h0=>
 have hR2:(l.any fun r=>r.of 2 tenant who&&m r)=R:=by rw [<-HR.out,hh];rfl
 have HR2:=zh hR2;clear hR2 hh HR
 go_wp2_with fail
 go_loopw [24] (fun i wr=>∃j:Nat,i= .int .i64 j/\j<=l.length/\Mod (fun _=>False) w1 wr/\(∀(k:Nat) (x:Ru),k<j->l[k]? =some x->(x.of 2 tenant who&&m x)=false)) (fun i _=>l.length - (intOf i).toNat)
 case atStart=>exact ⟨0,rfl,Nat.zero_le _,Mod.refl _ _,fun k x hk=>zo⟩
 case round=>
  obtain ⟨j,rfl,hj,hmr,hall⟩:=hrel;by_cases hlt:j<l.length
  ·have hlt':(j:Int)<l.length:=zo
   obtain ⟨x,hxj⟩:∃x,l[j]? =some x:=⟨_,zz5 hlt⟩;have hxm:=zz8 hxj;have aU:=bF.out.trans hmr zi;obtain ⟨g,off,rfl,hf⟩:∃g off,a=some ⟨g,off,none⟩/\e9 wr g (off+j*8) x.cells:=F1 (Hv.out.mod aU) hxj;obtain ⟨wz,hwz,ai,aj,aJ⟩:=g8 wr (.cells x.cells.toArray 28);have iW:=aU.trans ai zi;have hof:=b5w x 2 tenant who wz;have hlz:wr.heap.size<wz.heap.size:=zo
   obtain ⟨aK,aM,cB,fH,dw,Hf,bi,bn,aN,qE,uL⟩:=zh11 hmr hall hxj hxm aU hf hwz ai aj iW hof;clear hmr hall hxj hxm aU hf hwz ai aj iW hof aJ
   go_wp2_with (first|((with_reducible refine d8 28 (.tmp 26) ?_);refine ⟨g,off+j*8,rfl,x.cells,Hf.out,zk,zk, ?_⟩)|((with_reducible refine d9 28 (.tmp 12) (.tmp 27) ?_);refine ⟨rfl,x.cells,rfl,rfl,zk,rfl, ?_⟩;rw [bi.out])|((with_reducible refine d8 28 (.tmp 12) ?_);refine ⟨wr.heap.size,0,rfl,x.cells,e9.row aN.out,zk,zk, ?_⟩))
   refine uL.out.mono ?_;rintro e w3 ⟨rfl,aC⟩;have aS:=qE.out.trans aC zi;have gT:=(aK.out.trans bn.out zi).trans aC zi;have hg3:=aC.heap aN.out id;have Gl:=gT.heap lJ.out id;have b4:w3.cell? ⟨wr.heap.size,4,none⟩=some (.string x.sc):=d6 hg3 rfl;have b5:w3.cell? ⟨wr.heap.size,5,none⟩=some (.slice x.ca x.cs.length x.cc):=d6 hg3 rfl;have e0:w3.cell? ⟨w.heap.size,0,none⟩=some (.string es):=d6 Gl rfl;have e1:w3.cell? ⟨w.heap.size,1,none⟩=some (.slice ea en ec):=d6 Gl rfl;have hmt:=Hm.out x fH.out w3 aS;obtain ⟨aP,qF,oo⟩:=zh3 aS gT hmt;clear aS gT hmt aC hg3 Gl
   cases hs:x.of 2 tenant who with
   | false=>
    have Hs:=zh hs;clear hs
    go_wp2_with fail
    go_roundw
    case rel=>
     refine ⟨j+1,by go_num,hlt,qF.out,fun k x' hk hx'=> ?_⟩;rcases Nat.lt_succ_iff_lt_or_eq.1 hk with hk|rfl
     ·exact aM.out k x' hk hx'
     rw [cB.out] at hx';cases hx';rw [Hs.out];rfl
    case measure=>simp [intOf];omega
   | true=>
    have Hs:=zh hs;have oo:=Lib.hid (oo.out hs);clear hs
    go_wp2_with fail
    refine oo.out.mono ?_;rintro e w4 ⟨rfl,aR⟩;have aY:=aP.out.trans aR zi;have Gm:=qF.out.trans aR zi;obtain ⟨bK,OQ⟩:=zh2 aY Gm;clear aY Gm aR b4 b5 e0 e1
    cases ht:m x with
    | false=>
     have Ht:=zh ht;clear ht
     go_wp2_with fail
     go_roundw
     case rel=>
      refine ⟨j+1,by go_num,hlt,OQ.out,fun k x' hk hx'=> ?_⟩;rcases Nat.lt_succ_iff_lt_or_eq.1 hk with hk|rfl
      ·exact aM.out k x' hk hx'
      rw [cB.out] at hx';cases hx';rw [Hs.out,Ht.out];rfl
     case measure=>simp [intOf];omega
    |true=>
     have Ht:=zh ht;clear ht
     go_wp2
     go_ret;refine ⟨?_,bK.out⟩;rw [<-HR2.out,List.any_eq_true.2 ⟨x,fH.out,by rw [Hs.out,Ht.out];rfl⟩];rfl
  obtain rfl:j=l.length:=zo
  have aU:=bF.out.trans hmr zi
  have hf:R=false:=by
   rw [<-HR2.out,List.any_eq_false.2 fun x hx=>by
    obtain ⟨k,hk⟩:=List.mem_iff_getElem?.1 hx;rw [hall k x (zz6 hk).1 hk]
    decide]
  obtain ⟨dw,Hf⟩:=zh2 aU hf;clear aU hf hmr hall
  go_wp2
  go_ret;refine ⟨?_,dw.out⟩;rw [Hf.out];rfl
theorem a3y {w:World} {a:Option Addr} {cap:Nat} {l:List Att} {j:Nat} {x:Att} (h:j3 w 6 (.slice a l.length cap) l.length (k7 l)) (hx:l[j]? =some x):∃g off,a=some ⟨g,off,none⟩/\e9 w g (off+j*6) x.cells:=by
 obtain ⟨-,a',c',h1, -,h3,h4⟩:=h;cases h1
 cases a with
 |none=>have:=(zz6 hx).1;exact absurd (h3 rfl) zo
 |some b=>
  obtain ⟨g',off',h5,h6⟩:=h4 _ rfl (by have:=(zz6 hx).1;omega);refine ⟨g',off',by rw [h5],fun i u hu=> ?_⟩;have:=h6 (6*j+i) u (Y6 _ hx hu);rw [show off'+j*6+i=off'+(6*j+i) by omega];exact this
def a4y (l:List Att) (s:ByteArray):V×Bool:=if there l s=true then (((l[pos l s]?).map Att.v).getD V.zero,true) else (V.zero,false)
theorem b5D (w:World) (sc:ByteArray) (av:Value) (l:List Att) (hv:j3 w 6 av l.length (k7 l)) (hll:l.length<=1000000) (hr:r8 l) (s:ByteArray):
 Calls Tryz.prog 149 #[.agg #[.string sc,av],.string s] w fun e w'=>e= .returned (.tuple #[.agg (a4y l s).1.cells.toArray,.bool (a4y l s).2])/\Mod (fun _=>False) w w':=by
 obtain ⟨a,cap,rfl,hcap⟩:∃a c,av= .slice a l.length c/\l.length<=c:=by obtain ⟨-,a,c,h,h2, -⟩:=hv;exact ⟨a,c,h,h2⟩
 have bN:(l.length:Int)<=1000000:=zo
 have bf:(l.length:Int)<=cap:=zo
 obtain ⟨wa,aD,ah,ae,au⟩:=g8 w (.cells #[.string sc,.slice a l.length cap] 31);obtain ⟨wb,hwb,ay,ak,aO⟩:=g8 wa (.cells #[.int .i64 0,.int .i64 0,.float .f64 0,.string ⟨#[]⟩,.bool false] 85);have hmb:=ah.trans ay zi;have hg:=ay.heap ae id;have c0:wb.cell? ⟨w.heap.size,0,none⟩=some (.string sc):=d6 hg rfl;have c1:wb.cell? ⟨w.heap.size,1,none⟩=some (.slice a l.length cap):=d6 hg rfl;have hvb:=hv.mod hmb zi;have nC:=a9A wb sc (.slice a l.length cap) l hvb hll hr s;obtain ⟨R,hR⟩:∃R,a4y l s=R:=⟨_,rfl⟩;rw [hR];unfold a4y at hR;have hlz:w.heap.size<wa.heap.size:=zo
 obtain ⟨Hv,Hr,aF,bD,bW,dX,Hg,aT,ES,HR⟩:=zh10 hv hr aD hwb hmb hvb hg ak nC hR;clear hv hr aD hwb hmb hvb hg ak nC hR ae ah ay au aO
 go_enter Tryz.func149,Tryz.ntmps149
 go_wp2_with (first|(rw [show w.alloc _=wa from aF.out])|(rw [show wa.alloc _=wb from bD.out]))
 refine ES.out.mono ?_;rintro e w1 ⟨rfl,hm1⟩;have bE:=bW.out.trans hm1 zi;have hg1:=hm1.heap Hg.out id;have hz1:=hm1.heap aT.out id;have hv1:=dX.out.mod hm1 zi;have c1:w1.cell? ⟨w.heap.size,1,none⟩=some (.slice a l.length cap):=d6 hg1 rfl;obtain ⟨bF,OT,Gj⟩:=zh3 bE hz1 hv1;clear bE hz1 hv1 hm1 c0 hg1 ES
 cases hth:there l s with
 |false=>
  have E:=Lib.hid (HR.out.symm.trans (if_neg (by rw [hth];decide)));have AL:=zh hth;clear hth
  go_wp2_with ((with_reducible refine j9 85 (.tmp 4) (.tmp 16) ?_);refine ⟨wa.heap.size,rfl,_,_,OT.out,[.int .i64 0,.int .i64 0,.float .f64 0,.string ⟨#[]⟩,.bool false],rfl,rfl,zk,rfl, ?_⟩;intro w6 bZ bU;have gU:=Lib.hid bZ;have gF:=Lib.hid bU;clear bZ bU)
  refine bodyPost_ret (v:= .tuple #[.agg #[.int .i64 0,.int .i64 0,.float .f64 0,.string ⟨#[]⟩,.bool false],.bool false]) ?_ rfl ⟨by rw [E.out];rfl,bF.out.upon gF.out (fun b hb=> .inr zo)⟩;have hl:=p7 (P:=Tryz.prog) 85 wa.heap.size 0 [.int .i64 0,.int .i64 0,.float .f64 0,.string ⟨#[]⟩,.bool false] (e9.row gU.out) zk zk;simp [results,Tryz.results149,Result.andThen,asAddr,hl]
 | true=>
  have e1:=HR.out.symm.trans (if_pos hth)
  obtain ⟨x,hx⟩:∃x,l[pos l s]? =some x:=by
   unfold there at hth;split at hth
   ·exact ⟨_,by assumption⟩
   ·cases hth
  rw [hx] at e1;have E:=Lib.hid (show R=(x.v,true) from e1);have hp:pos l s<l.length:=(zz6 hx).1;obtain ⟨p,vU⟩:∃p,pos l s=p:=⟨_,rfl⟩;rw [vU] at hx hp⊢;have hp':(p:Int)<l.length:=zo
  obtain ⟨g,off,rfl,hf⟩:∃g off,a=some ⟨g,off,none⟩/\e9 w1 g (off+p*6) x.cells:=a3y Gj.out hx
  have hf1:e9 w1 g (off+p*6+1) x.v.cells:=fun j u hu=>by
   have:=hf (j+1) u (by simpa [Att.cells] using hu);rw [show off+p*6+1+j=off+p*6+(j+1) by omega];exact this
  obtain ⟨AL,Hf1⟩:=zh2 hth hf1;clear hf1 hth vU hf hx e1
  go_wp2_with (first|((with_reducible refine d8 85 (.tmp 21) ?_);refine ⟨g,off+p*6+1,rfl,x.v.cells,Hf1.out,zk,zk, ?_⟩)|((with_reducible refine j9 85 (.tmp 4) (.tmp 22) ?_);refine ⟨wa.heap.size,rfl,_,_,OT.out,x.v.cells,rfl,rfl,zk,rfl, ?_⟩;intro w6 bZ bU;have gU:=Lib.hid bZ;have gF:=Lib.hid bU;clear bZ bU))
  refine bodyPost_ret (v:= .tuple #[.agg x.v.cells.toArray,.bool true]) ?_ rfl ⟨by rw [E.out],bF.out.upon gF.out (fun b hb=> .inr zo)⟩;have hl:=p7 (P:=Tryz.prog) 85 wa.heap.size 0 x.v.cells (e9.row gU.out) zk zk;simp [results,Tryz.results149,Result.andThen,asAddr,hl]
theorem a9W {l:List Att} {s:ByteArray} {n:Nat} (h:∀a∈l,a.v.text.size<=n):(a4y l s).1.text.size<=n:=by
 unfold a4y;split
 ·cases hx:l[pos l s]? with
  |none=>exact Nat.zero_le _
  |some x=>exact h x (zz8 hx)
 exact Nat.zero_le _
def Cnd.matchB (c:Cnd) (l:List Att):Bool:=(a4y l c.name).2&&c.holds (a4y l c.name).1
theorem a7I (c:Cnd) (hc:c.v.text.size<=9223372036854775807) (w:World) (sc:ByteArray) (av:Value) (l:List Att) (hv:j3 w 6 av l.length (k7 l)) (hll:l.length<=1000000) (hr:r8 l) (ht:∀a∈l,a.v.text.size<=9223372036854775807):
 Calls Tryz.prog 103 #[.agg c.cells.toArray,.agg #[.string sc,av]] w fun e w'=>e= .returned (.bool (c.matchB l))/\Mod (fun _=>False) w w':=by
 obtain ⟨a,cap,rfl,hcap⟩:∃a c,av= .slice a l.length c/\l.length<=c:=by obtain ⟨-,a,c,h,h2, -⟩:=hv;exact ⟨a,c,h,h2⟩
 obtain ⟨wa,aD,ah,ae,au⟩:=g8 w (.cells c.cells.toArray 87);obtain ⟨wb,hwb,ay,ak,aO⟩:=g8 wa (.cells #[.string sc,.slice a l.length cap] 31);have hmb:=ah.trans ay zi;have hg:=ay.heap ae id;have c0:wb.cell? ⟨w.heap.size,0,none⟩=some (.string c.name):=d6 hg rfl;have d0:wb.cell? ⟨wa.heap.size,0,none⟩=some (.string sc):=d6 ak rfl;have d1:wb.cell? ⟨wa.heap.size,1,none⟩=some (.slice a l.length cap):=d6 ak rfl;have hge:=b5D wb sc (.slice a l.length cap) l (hv.mod hmb zi) hll hr c.name;have hgt:=a9W (s:=c.name) ht;obtain ⟨R,hR⟩:∃R,c.matchB l=R:=⟨_,rfl⟩;rw [hR];unfold Cnd.matchB at hR;obtain ⟨⟨v,b⟩,hvb⟩:∃p,a4y l c.name=p:=⟨_,rfl⟩;rw [hvb] at hge hgt hR;simp only at hge hgt hR;have hho:=a4s c v hc hgt;have hlz:w.heap.size<wa.heap.size:=zo
 obtain ⟨Hv,Hr,aF,bD,bW,Hg,Nr,Hgt,HR,dX,jm⟩:=zh11 hv hr aD hwb hmb hg hge hgt hR hvb hho;clear hv hr aD hwb hmb hg hge hgt hR hvb hho ae ak ah ay au aO hc ht hll
 go_enter Tryz.func103,Tryz.ntmps103
 go_wp2_with (first|(rw [show w.alloc _=wa from aF.out])|(rw [show wa.alloc _=wb from bD.out]))
 refine Nr.out.mono ?_;rintro e w1 ⟨rfl,hm1⟩;obtain ⟨wz,hwz,ai,aj,aJ⟩:=g8 w1 (.cells v.cells.toArray 85);have iW:=(bW.out.trans hm1 zi).trans ai zi;have hgz:=ai.heap (hm1.heap Hg.out id) id;have hhz:=jm.out wz;obtain ⟨bi,aN,qE,lK,Zb⟩:=zh5 hwz aj iW hgz hhz;clear hwz aj iW hgz hhz ai aJ hm1 c0 d0 d1 Nr Hg jm
 cases b with
 |false=>
  go_wp2_with ((with_reducible refine d9 85 (.tmp 5) (.tmp 12) ?_);refine ⟨rfl,v.cells,rfl,rfl,zk,rfl, ?_⟩;rw [bi.out])
  go_ret;exact ⟨by rw [<-HR.out];rfl,qE.out⟩
 |true=>
  have c0:wz.cell? ⟨w.heap.size,0,none⟩=some (.string c.name):=d6 lK.out rfl;have c1:wz.cell? ⟨w.heap.size,1,none⟩=some (.int .i64 c.op):=d6 lK.out rfl;have c2:wz.cell? ⟨w.heap.size,2,none⟩=some (.int .i64 c.v.kind):=d6 lK.out rfl;have c3:wz.cell? ⟨w.heap.size,3,none⟩=some (.int .i64 c.v.int):=d6 lK.out rfl;have c4:wz.cell? ⟨w.heap.size,4,none⟩=some (.float .f64 c.v.num):=d6 lK.out rfl;have c5:wz.cell? ⟨w.heap.size,5,none⟩=some (.string c.v.text):=d6 lK.out rfl;have c6:wz.cell? ⟨w.heap.size,6,none⟩=some (.bool c.v.yes):=d6 lK.out rfl;have z0:wz.cell? ⟨w1.heap.size,0,none⟩=some (.int .i64 v.kind):=d6 aN.out rfl;have z1:wz.cell? ⟨w1.heap.size,1,none⟩=some (.int .i64 v.int):=d6 aN.out rfl;have z2:wz.cell? ⟨w1.heap.size,2,none⟩=some (.float .f64 v.num):=d6 aN.out rfl;have z3:wz.cell? ⟨w1.heap.size,3,none⟩=some (.string v.text):=d6 aN.out rfl;have z4:wz.cell? ⟨w1.heap.size,4,none⟩=some (.bool v.yes):=d6 aN.out rfl
  go_wp2_with ((with_reducible refine d9 85 (.tmp 5) (.tmp 12) ?_);refine ⟨rfl,v.cells,rfl,rfl,zk,rfl, ?_⟩;rw [bi.out])
  refine Zb.out.mono ?_;rintro e w2 ⟨rfl,hm2⟩;have bq:=Lib.hid (qE.out.trans hm2 zi);clear hm2
  go_wp2
  go_ret;exact ⟨by rw [<-HR.out];rfl,bq.out⟩
def A8 (sc:ByteArray) (cs:List Cnd) (es:ByteArray) (l:List Att):Bool:=cs.all (fun c=>c.matchB l)&&m8 es sc
theorem a1r (w:World) (sc:ByteArray) (cv:Value) (cs:List Cnd) (hc:j3 w 7 cv cs.length (m5 cs)) (hcl:cs.length<=9223372036854775807) (hsc:sc.size<=9223372036854775807) (hct:∀c∈cs,c.v.text.size<=9223372036854775807)
 (es:ByteArray) (av:Value) (l:List Att) (hv:j3 w 6 av l.length (k7 l)) (hll:l.length<=1000000) (hr:r8 l) (hes:es.size<=9223372036854775807) (ht:∀a∈l,a.v.text.size<=9223372036854775807):
 Calls Tryz.prog 68 #[.agg #[.string sc,cv],.agg #[.string es,av]] w fun e w'=>e= .returned (.bool (A8 sc cs es l))/\Mod (fun _=>False) w w':=by
 obtain ⟨a,cap,rfl⟩:∃a c,av= .slice a l.length c:=by obtain ⟨-,a,c,h, -⟩:=hv;exact ⟨a,c,h⟩
 exact a7H (fun c=>c.matchB l) w sc cv cs es (.slice a l.length cap) a l.length cap rfl hc hcl hsc hes (fun c hm wx hwx=>a7I c (hct c hm) wx es _ l (hv.mod hwx zi) hll hr ht)
end Go.Proofs.YtebhabpahfmodaaGreatDoor
