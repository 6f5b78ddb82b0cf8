/- Lemmas. -/
import Derived.Test.YtaenebdppkjhoaaGreatDoorZg11
namespace Go.Proofs.YtaenebdppkjhoaaGreatDoor
set_option maxRecDepth 20000
set_option maxHeartbeats 40000000
section
open Go.RowKit
theorem b0j:∀(args:Array Value) (W:World),Sem.run Tryz.prog (callFunc 133 args) W= .ok (.enter 133 args) W:=fun args w=>by simp [go_sem]
theorem b2M (p:Bool) (c d:Cnd) (k:Nat) (w:World) (hk:w.heap[k]? =some (.cells c.cells.toArray 132 (0,0)))
 (hp:∀wx,Mod (fun _=>False) w wx->Calls Tryz.prog 112 #[.agg d.cells.toArray,.agg c.cells.toArray] wx fun e w'=>e= .returned (.bool p)/\Mod (fun _=>False) wx w'):
 Calls Tryz.prog 133 (#[.agg d.cells.toArray]++#[.pointer (some ⟨k,0,none⟩)]) w fun e w'=>e= .returned (.bool p)/\Mod (fun _=>False) w w':=by
 obtain ⟨wa,hwa,hmwa,hgwa,hzwa⟩:=e8 w (.cells d.cells.toArray 132);have hkl:=(zz7 hk).1;have hka:=hmwa.heap hk (fun h=>h);have hpa:=hp wa hmwa;obtain ⟨Hwa,Hmwa,Hgwa,Hka,Hpa⟩:=zh5 hwa hmwa hgwa hka hpa;clear hwa hmwa hgwa hka hpa hzwa hk hp;show Calls Tryz.prog 133 #[.agg d.cells.toArray,.pointer (some ⟨k,0,none⟩)] w _
 go_enter Tryz.func133,Tryz.ntmps133
 go_wp2_with (first|(rw [show w.alloc _=wa from Hwa.out])|((with_reducible refine d9 132 (.tmp 2) ?_);refine ⟨w.heap.size,0,rfl,d.cells,e7.row Hgwa.out,by kernel_rfl,by kernel_rfl, ?_⟩)|((with_reducible refine d9 132 (.tmp 1) ?_);refine ⟨k,0,rfl,c.cells,e7.row Hka.out,by kernel_rfl,by kernel_rfl, ?_⟩)|fail)
 refine Hpa.out.mono ?_;rintro e w2 ⟨rfl,hm2⟩;have Hm2:=Lib.hid (Hmwa.out.trans hm2 (fun _ _ h=>h));clear hm2
 go_wp2
 go_ret;exact ⟨rfl,Hm2.out⟩
theorem a10 (f:Cnd->Cnd->Bool) (w:World) (sc:ByteArray) (cv:Value) (l:List Cnd) (hv:j0 w 7 cv l.length (l6 l)) (hll:l.length<=9223372036854775807) (hsc:sc.size<=9223372036854775807)
 (gs:ByteArray) (gv:Value) (m:List Cnd) (hg:j0 w 7 gv m.length (l6 m)) (hml:m.length<=9223372036854775807) (hgs:gs.size<=9223372036854775807)
 (hp:∀d∈m,∀c∈l,∀wx,Mod (fun _=>False) w wx->Calls Tryz.prog 112 #[.agg d.cells.toArray,.agg c.cells.toArray] wx fun e w'=>e= .returned (.bool (f d c))/\Mod (fun _=>False) wx w'):
 Calls Tryz.prog 99 #[.agg #[.string sc,cv],.agg #[.string gs,gv]] w fun e w'=>e= .returned (.bool (m.any Cnd.voidB||(l.all (fun c=>m.any fun d=>f d c)&&s6 gs sc)))/\Mod (fun _=>False) w w':=by
 obtain ⟨a,cap,rfl,hcap⟩:∃a c,cv= .slice a l.length c/\l.length<=c:=by obtain ⟨-,a,c,h,h2, -⟩:=hv;exact ⟨a,c,h,h2⟩
 obtain ⟨ga,gcap,rfl,hgcap⟩:∃a c,gv= .slice a m.length c/\m.length<=c:=by obtain ⟨-,a,c,h,h2, -⟩:=hg;exact ⟨a,c,h,h2⟩
 have hll':(l.length:Int)<=9223372036854775807:=by omega
 have hcap':(l.length:Int)<=cap:=by omega
 obtain ⟨wa,hwa,hmwa,hgwa,hzwa⟩:=e8 w (.cells #[.string sc,.slice a l.length cap] 33);obtain ⟨wb,hwb,hmwb,hgwb,hzwb⟩:=e8 wa (.cells #[.string gs,.slice ga m.length gcap] 33);have hmb:=hmwa.trans hmwb (fun _ _ h=>h);have hF:=hmwb.heap hgwa (fun h=>h);have d0:wb.cell? ⟨wa.heap.size,0,none⟩=some (.string gs):=d6 hgwb rfl;have d1:wb.cell? ⟨wa.heap.size,1,none⟩=some (.slice ga m.length gcap):=d6 hgwb rfl;have hvd:=a5e wb gs (.slice ga m.length gcap) m (hg.mod hmb (fun _ _ h=>h)) hml;obtain ⟨R,hR⟩:∃R,(m.any Cnd.voidB||(l.all (fun c=>m.any fun d=>f d c)&&s6 gs sc))=R:=⟨_,rfl⟩;rw [hR];have hqz:w.heap.size<wa.heap.size:=by omega
 obtain ⟨Hv,Hg,Hp,Hwa,Hwb,Hmb,HF,Hgwb,Hvd,HR,Hsc,Hgs⟩:=zh12 hv hg hp hwa hwb hmb hF hgwb hvd hR hsc hgs;have Hml:=zh hml;clear hv hg hp hwa hwb hmb hF hgwb hvd hR hsc hgs hml hmwa hmwb hgwa hzwa hzwb hll
 go_enter Tryz.func99,Tryz.ntmps99
 go_wp2_with (first|(rw [show w.alloc _=wa from Hwa.out])|(rw [show wa.alloc _=wb from Hwb.out])|fail)
 refine Hvd.out.mono ?_;rintro e w1 ⟨rfl,hm1⟩;have hm01:=Hmb.out.trans hm1 (fun _ _ h=>h);have hF1:=hm1.heap HF.out (fun h=>h);have hG1:=hm1.heap Hgwb.out (fun h=>h);have c1:w1.cell? ⟨w.heap.size,1,none⟩=some (.slice a l.length cap):=d6 hF1 rfl;have hv1:=Hv.out.mod hm01 (fun _ _ h=>h);obtain ⟨Hm01,HF1,HG1,Hv1⟩:=zh4 hm01 hF1 hG1 hv1;clear hm01 hF1 hG1 hv1 hm1 d0 d1 Hvd
 cases hvo:m.any Cnd.voidB with
 |true=>
  have Hvo:=zh hvo;clear hvo
  go_wp2
  go_ret;exact ⟨by rw [<-HR.out,Hvo.out];rfl,Hm01.out⟩
 |false=>
 have HR:=Lib.hid (show (l.all (fun c=>m.any fun d=>f d c)&&s6 gs sc)=R by rw [<-HR.out,hvo];rfl);clear hvo
 go_wp2_with fail
 go_loopw [12] (fun i wr=>∃j:Nat,i= .int .i64 j/\j<=l.length/\Mod (fun _=>False) w1 wr/\(∀(k:Nat) (x:Cnd),k<j->l[k]? =some x->(m.any fun d=>f d x)=true)) (fun i _=>l.length - (intOf i).toNat)
 case atStart=>exact ⟨0,rfl,Nat.zero_le _,Mod.refl _ _,fun k x hk=>by omega⟩
 case round=>
  obtain ⟨j,rfl,hj,hmr,hall⟩:=hrel;by_cases hlt:j<l.length
  ·have hlt':(j:Int)<l.length:=by omega
   obtain ⟨x,hxj⟩:∃x,l[j]? =some x:=⟨_,zz5 hlt⟩;have hxm:=zz8 hxj;obtain ⟨g,off,rfl,hf⟩:∃g off,a=some ⟨g,off,none⟩/\e7 wr g (off+j*7) x.cells:=J2 (Hv1.out.mod hmr (fun _ _ h=>h)) hxj;obtain ⟨wz,hwz,hmwz,hgwz,hzwz⟩:=e8 wr (.cells x.cells.toArray 132);have hmz:=hmr.trans hmwz (fun _ _ h=>h);have hm0z:=Hm01.out.trans hmz (fun _ _ h=>h);have hge:=hmz.heap HG1.out (fun h=>h);have e1:wz.cell? ⟨wa.heap.size,1,none⟩=some (.slice ga m.length gcap):=d6 hge rfl
   have hct:=a1Y 133 #[.pointer (some ⟨wr.heap.size,0,none⟩)] b0j (fun d=>f d x) wz (.slice ga m.length gcap) m (Hg.out.mod hm0z (fun _ _ h=>h)) Hml.out
    (fun d hd wx hwx=>b2M (f d x) x d wr.heap.size wx (hwx.heap hgwz (fun h=>h)) (fun wy hwy=>Hp.out d hd x hxm wy ((hm0z.trans hwx (fun _ _ h=>h)).trans hwy (fun _ _ h=>h))))
   have hmf:∀(fn:Fn) (first cap:Array Value) (w:World),(Instr.makeFunc fn first cap).run Tryz.prog w= .ok (.func fn first cap) w:=fun _ _ _ _=>rfl;obtain ⟨Hmr,Hall,Hxj,Hxm,Hf,Hwz,Hgwz,Hmz,Hct,Hm0z⟩:=zh10 hmr hall hxj hxm hf hwz hgwz hmz hct hm0z;clear hmr hall hxj hxm hf hwz hgwz hmz hct hm0z hzwz hmwz hge c1
   go_wp2_with (first|((with_reducible refine d9 132 (.tmp 14) ?_);refine ⟨g,off+j*7,rfl,x.cells,Hf.out,by kernel_rfl,by kernel_rfl, ?_⟩)|((with_reducible refine d8 132 (.tmp 6) (.tmp 15) ?_);refine ⟨rfl,x.cells,rfl,rfl,by kernel_rfl,rfl, ?_⟩;rw [Hwz.out])|fail)
   refine Hct.out.mono ?_;rintro e w3 ⟨rfl,hm3⟩;have Hm3:=Lib.hid (Hmz.out.trans hm3 (fun _ _ h=>h));clear hm3 e1
   cases hs:m.any (fun d=>f d x) with
   | true=>
    have Hs:=zh hs;clear hs
    go_wp2_with fail
    go_roundw
    case rel=>
     refine ⟨j+1,by go_num,hlt,Hm3.out,fun k x' hk hx'=> ?_⟩;rcases Nat.lt_succ_iff_lt_or_eq.1 hk with hk|rfl
     ·exact Hall.out k x' hk hx'
     rw [Hxj.out] at hx';cases hx';exact Hs.out
    case measure=>simp [intOf];omega
   |false=>
    have Hs:=zh hs;clear hs
    go_wp2
    go_ret;refine ⟨?_,Hm01.out.trans Hm3.out (fun _ _ h=>h)⟩;rw [<-HR.out,List.all_eq_false.2 ⟨x,Hxm.out,by rw [Hs.out];decide⟩,Bool.false_and];rfl
  obtain rfl:j=l.length:=by omega
  have hgr:=hmr.heap HF1.out (fun h=>h);have hge:=hmr.heap HG1.out (fun h=>h);have c0:wr.cell? ⟨w.heap.size,0,none⟩=some (.string sc):=d6 hgr rfl;have e0:wr.cell? ⟨wa.heap.size,0,none⟩=some (.string gs):=d6 hge rfl;have hun:=a0U gs sc Hgs.out Hsc.out wr
  have hfr:R=s6 gs sc:=by
   rw [<-HR.out,List.all_eq_true.2 fun x hx=>by
    obtain ⟨k,hk⟩:=List.mem_iff_getElem?.1 hx
    exact hall k x (zz6 hk).1 hk,Bool.true_and]
  have hmr2:=Hm01.out.trans hmr (fun _ _ h=>h);obtain ⟨Hmr2,Hun,Hfr⟩:=zh3 hmr2 hun hfr;clear hmr2 hun hfr hmr hall hgr hge
  go_wp2_with fail
  refine Hun.out.mono ?_;rintro e w3 ⟨rfl,rfl⟩
  go_wp2
  go_ret;refine ⟨?_,Hmr2.out⟩;rw [Hfr.out];rfl
theorem a11 (m:Ru->Bool) (w:World) (v:Value) (l:List Ru) (hv:K8 w v l) (hll:l.length<=9223372036854775807) (tenant:Int) (who:ByteArray) (es:ByteArray) (ea:Option Addr) (en ec:Nat)
 (hm:∀r∈l,∀wx,Mod (fun _=>False) w wx->r.of 2 tenant who=true->Calls Tryz.prog 99 #[.agg #[.string r.sc,r.cv],.agg #[.string es,.slice ea en ec]] wx fun e w'=>e= .returned (.bool (m r))/\Mod (fun _=>False) wx w'):
 Calls Tryz.prog 61 #[v,.int .i64 tenant,.string who,.agg #[.string es,.slice ea en ec]] w fun e w'=>
  e= .returned (.bool ((A5 l tenant who).isSome&&l.any fun r=>r.of 2 tenant who&&m r))/\Mod (fun _=>False) w w':=by
 obtain ⟨a,cap,rfl,hcap⟩:∃a c,v= .slice a l.length c/\l.length<=c:=by obtain ⟨-,a,c,h,h2, -⟩:=hv.rd;exact ⟨a,c,h,h2⟩
 have hll':(l.length:Int)<=9223372036854775807:=by omega
 have hcap':(l.length:Int)<=cap:=by omega
 obtain ⟨wa,hwa,hmwa,hgwa,hzwa⟩:=e8 w (.cells #[.string es,.slice ea en ec] 33);have hva:=hv.mod hmwa;have hho:=a2r wa (.slice a l.length cap) l hva hll tenant who;have hqz:w.heap.size<wa.heap.size:=by omega
 obtain ⟨R,hR⟩:∃R,((A5 l tenant who).isSome&&l.any fun r=>r.of 2 tenant who&&m r)=R:=⟨_,rfl⟩;rw [hR];obtain ⟨Hv,Hm,Hwa,Hmwa,Hgwa,Hva,Hho,HR⟩:=zh8 hv hm hwa hmwa hgwa hva hho hR;clear hv hm hwa hmwa hgwa hva hho hR hzwa hll
 go_enter Tryz.func61,Tryz.ntmps61
 go_wp2_with (first|(rw [show w.alloc _=wa from Hwa.out])|fail)
 refine Hho.out.mono ?_;rintro e w1 ⟨rfl,hm1⟩;have hm01:=Hmwa.out.trans hm1 (fun _ _ h=>h);have hg1:=hm1.heap Hgwa.out (fun h=>h);obtain ⟨Hm01,Hg1⟩:=zh2 hm01 hg1;clear hm01 hg1 hm1 Hho
 cases hh:A5 l tenant who with
 |none=>
  have Hh:=zh hh;clear hh
  go_wp2
  go_ret;refine ⟨?_,Hm01.out⟩;rw [<-HR.out,Hh.out];rfl
 |some h0=>
 have hR2:(l.any fun r=>r.of 2 tenant who&&m r)=R:=by rw [<-HR.out,hh];rfl
 have HR2:=zh hR2;clear hR2 hh HR
 go_wp2_with fail
 go_loopw [24] (fun i wr=>∃j:Nat,i= .int .i64 j/\j<=l.length/\Mod (fun _=>False) w1 wr/\(∀(k:Nat) (x:Ru),k<j->l[k]? =some x->(x.of 2 tenant who&&m x)=false)) (fun i _=>l.length - (intOf i).toNat)
 case atStart=>exact ⟨0,rfl,Nat.zero_le _,Mod.refl _ _,fun k x hk=>by omega⟩
 case round=>
  obtain ⟨j,rfl,hj,hmr,hall⟩:=hrel;by_cases hlt:j<l.length
  ·have hlt':(j:Int)<l.length:=by omega
   obtain ⟨x,hxj⟩:∃x,l[j]? =some x:=⟨_,zz5 hlt⟩;have hxm:=zz8 hxj;have hm0r:=Hm01.out.trans hmr (fun _ _ h=>h);obtain ⟨g,off,rfl,hf⟩:∃g off,a=some ⟨g,off,none⟩/\e7 wr g (off+j*8) x.cells:=L0 (Hv.out.mod hm0r) hxj;obtain ⟨wz,hwz,hmwz,hgwz,hzwz⟩:=e8 wr (.cells x.cells.toArray 35);have hm0z:=hm0r.trans hmwz (fun _ _ h=>h);have hof:=b2u x 2 tenant who wz;have hlz:wr.heap.size<wz.heap.size:=by omega
   obtain ⟨Hmr,Hall,Hxj,Hxm,Hm0r,Hf,Hwz,Hmwz,Hgwz,Hm0z,Hof⟩:=zh11 hmr hall hxj hxm hm0r hf hwz hmwz hgwz hm0z hof;clear hmr hall hxj hxm hm0r hf hwz hmwz hgwz hm0z hof hzwz
   go_wp2_with (first|((with_reducible refine d9 35 (.tmp 26) ?_);refine ⟨g,off+j*8,rfl,x.cells,Hf.out,by kernel_rfl,by kernel_rfl, ?_⟩)|((with_reducible refine d8 35 (.tmp 12) (.tmp 27) ?_);refine ⟨rfl,x.cells,rfl,rfl,by kernel_rfl,rfl, ?_⟩;rw [Hwz.out])|((with_reducible refine d9 35 (.tmp 12) ?_);refine ⟨wr.heap.size,0,rfl,x.cells,e7.row Hgwz.out,by kernel_rfl,by kernel_rfl, ?_⟩)|fail)
   refine Hof.out.mono ?_;rintro e w3 ⟨rfl,hm3⟩;have hm03:=Hm0z.out.trans hm3 (fun _ _ h=>h);have hm13:=(Hmr.out.trans Hmwz.out (fun _ _ h=>h)).trans hm3 (fun _ _ h=>h);have hg3:=hm3.heap Hgwz.out (fun h=>h);have he3:=hm13.heap Hg1.out (fun h=>h);have b4:w3.cell? ⟨wr.heap.size,4,none⟩=some (.string x.sc):=d6 hg3 rfl;have b5:w3.cell? ⟨wr.heap.size,5,none⟩=some (.slice x.ca x.cs.length x.cc):=d6 hg3 rfl;have e0:w3.cell? ⟨w.heap.size,0,none⟩=some (.string es):=d6 he3 rfl;have e1:w3.cell? ⟨w.heap.size,1,none⟩=some (.slice ea en ec):=d6 he3 rfl;have hmt:=Hm.out x Hxm.out w3 hm03;obtain ⟨Hm03,Hm13,Hmt⟩:=zh3 hm03 hm13 hmt;clear hm03 hm13 hmt hm3 hg3 he3
   cases hs:x.of 2 tenant who with
   | false=>
    have Hs:=zh hs;clear hs
    go_wp2_with fail
    go_roundw
    case rel=>
     refine ⟨j+1,by go_num,hlt,Hm13.out,fun k x' hk hx'=> ?_⟩;rcases Nat.lt_succ_iff_lt_or_eq.1 hk with hk|rfl
     ·exact Hall.out k x' hk hx'
     rw [Hxj.out] at hx';cases hx';rw [Hs.out];rfl
    case measure=>simp [intOf];omega
   | true=>
    have Hs:=zh hs;have Hmt:=Lib.hid (Hmt.out hs);clear hs
    go_wp2_with fail
    refine Hmt.out.mono ?_;rintro e w4 ⟨rfl,hm4⟩;have hm04:=Hm03.out.trans hm4 (fun _ _ h=>h);have hm14:=Hm13.out.trans hm4 (fun _ _ h=>h);obtain ⟨Hm04,Hm14⟩:=zh2 hm04 hm14;clear hm04 hm14 hm4 b4 b5 e0 e1
    cases ht:m x with
    | false=>
     have Ht:=zh ht;clear ht
     go_wp2_with fail
     go_roundw
     case rel=>
      refine ⟨j+1,by go_num,hlt,Hm14.out,fun k x' hk hx'=> ?_⟩;rcases Nat.lt_succ_iff_lt_or_eq.1 hk with hk|rfl
      ·exact Hall.out k x' hk hx'
      rw [Hxj.out] at hx';cases hx';rw [Hs.out,Ht.out];rfl
     case measure=>simp [intOf];omega
    |true=>
     have Ht:=zh ht;clear ht
     go_wp2
     go_ret;refine ⟨?_,Hm04.out⟩;rw [<-HR2.out,List.any_eq_true.2 ⟨x,Hxm.out,by rw [Hs.out,Ht.out];rfl⟩];rfl
  obtain rfl:j=l.length:=by omega
  have hm0r:=Hm01.out.trans hmr (fun _ _ h=>h)
  have hf:R=false:=by
   rw [<-HR2.out,List.any_eq_false.2 fun x hx=>by
    obtain ⟨k,hk⟩:=List.mem_iff_getElem?.1 hx;rw [hall k x (zz6 hk).1 hk]
    decide]
  obtain ⟨Hm0r,Hf⟩:=zh2 hm0r hf;clear hm0r hf hmr hall
  go_wp2
  go_ret;refine ⟨?_,Hm0r.out⟩;rw [Hf.out];rfl
theorem b0k (x y:Nat) (hx:x<2^64) (hy:y<2^64) (w:World):
 Calls Tryz.prog 113 #[.float .f64 x,.float .f64 y] w fun e w'=>e= .returned (.bool (a2i x==a2i y))/\w'=w:=by
 have Hk1:=Lib.hid (b0I x hx w);have Hk2:=Lib.hid (b0I y hy w)
 go_enter Tryz.func113,Tryz.ntmps113
 go_wp2_with fail
 refine Hk1.out.mono ?_;rintro e w1 ⟨rfl,rfl⟩
 go_wp2_with fail
 refine Hk2.out.mono ?_;rintro e w2 ⟨rfl,rfl⟩
 go_wp2
 go_ret;refine ⟨congrArg (fun b=>Ending.returned (.bool b)) ?_,rfl⟩;by_cases h:a2i x=a2i y
 ·rw [h];simp
 rw [beq_eq_false_iff_ne.2 h,beq_eq_false_iff_ne.2 (by omega)]
def V.same (a b:V):Bool:=a.kind==b.kind&&(if a.kind=0 then a.int==b.int else if a.kind=1 then a2i a.num==a2i b.num else if a.kind=2 then a.text.toList==b.text.toList else a.yes==b.yes)
theorem a6B (a b:V) (ha:a.num<2^64) (hb:b.num<2^64) (w:World):
 Calls Tryz.prog 80 #[.agg a.cells.toArray,.agg b.cells.toArray] w fun e w'=>e= .returned (.bool (V.same a b))/\Mod (fun _=>False) w w':=by
 obtain ⟨k1,i1,n1,t1,y1⟩:=a;obtain ⟨k2,i2,n2,t2,y2⟩:=b;have hsm:=fun w=>b0k n1 n2 ha hb w;have Hsm:=zh hsm;have hm2:∀A B:Obj,Mod (fun _=>False) w ((w.alloc A).alloc B):=fun A B=>((Mod.refl _ w).alloc _).alloc _;have Hm2:=zh hm2;clear hsm hm2 ha hb;unfold V.cells V.same;by_cases hk:k1=k2
 ·subst hk;have hkk:(k1==k1)=true:=by simp
  simp only [hkk,Bool.true_and];rcases (by omega:k1=0\/k1=1\/k1=2\/(k1≠0/\k1≠1/\k1≠2)) with h|h|h|⟨h0,h1,h2⟩
  ·subst h;rw [if_pos rfl]
   go_enter Tryz.func80,Tryz.ntmps80
   go_wp2
   go_ret;exact ⟨rfl,Hm2.out _ _⟩
  ·subst h;rw [if_neg (by decide),if_pos rfl]
   go_enter Tryz.func80,Tryz.ntmps80
   go_wp2_with fail
   refine (Hsm.out _).mono ?_;rintro e w2 ⟨rfl,rfl⟩
   go_wp2
   go_ret;exact ⟨rfl,Hm2.out _ _⟩
  ·subst h;rw [if_neg (by decide),if_neg (by decide),if_pos rfl]
   go_enter Tryz.func80,Tryz.ntmps80
   go_wp2
   go_ret;exact ⟨rfl,Hm2.out _ _⟩
  rw [if_neg h0,if_neg h1,if_neg h2]
  go_enter Tryz.func80,Tryz.ntmps80
  go_wp2
  go_ret;exact ⟨rfl,Hm2.out _ _⟩
 have hkk:(k1==k2)=false:=beq_eq_false_iff_ne.2 hk;have hkn:(k1 !=k2)=true:=by simp [bne,hkk]
 simp only [hkk,Bool.false_and]
 go_enter Tryz.func80,Tryz.ntmps80
 go_wp2
 go_ret;exact ⟨rfl,Hm2.out _ _⟩
def a8O (op:Int):Bool:=op==2||op==3
def b2N (op:Int):Bool:=op==4||op==5
theorem a5k (op:Int) (w:World):Calls Tryz.prog 149 #[.int .i64 op] w fun e w'=>e= .returned (.tuple #[.bool (a8O op),.bool (op==3)])/\w'=w:=by
 go_enter Tryz.func149,Tryz.ntmps149
 go_wp2
 all_goals (go_ret2;exact ⟨by simp [a8O, *],rfl⟩)
theorem a5l (op:Int) (w:World):Calls Tryz.prog 150 #[.int .i64 op] w fun e w'=>e= .returned (.tuple #[.bool (b2N op),.bool (op==5)])/\w'=w:=by
 go_enter Tryz.func150,Tryz.ntmps150
 go_wp2
 all_goals (go_ret2;exact ⟨by simp [b2N, *],rfl⟩)
def b37 (n:Int) (a b:Cnd):Bool:=(a8O b.op&&(decide (n<0)||(n==0&&(b.op==3|| !(a.op==3)))))||(b.op==1&&(decide (n<0)||(n==0&& !(a.op==3))))
def b38 (n:Int) (a b:Cnd):Bool:=(b2N b.op&&(decide (0<n)||(n==0&&(b.op==5|| !(a.op==5)))))||(b.op==1&&(decide (0<n)||(n==0&& !(a.op==5))))
def a2g (a b:Cnd):Bool:=
 if a.name.toList==b.name.toList then
  if a.voidB||b.op==7 then true else
  if a.op==7||(b.voidB||a.v.kind !=b.v.kind) then false else
  if a.op==0 then b.holds a.v else
  if a.op==1 then b.op==1&&V.same a.v b.v else
  if a.op==6 then (b.op==6&&W8 a.v.text b.v.text)||(b.op==1&& !W8 b.v.text a.v.text) else
  if a8O a.op then b37 (J6 a.v b.v).1 a b else b38 (J6 a.v b.v).1 a b
 else false
theorem U8 (a b:Cnd) (ha:a.v.text.size<=9223372036854775807) (hb:b.v.text.size<=9223372036854775807) (han:a.v.num<2^64) (hbn:b.v.num<2^64) (w:World):
 Calls Tryz.prog 112 #[.agg a.cells.toArray,.agg b.cells.toArray] w fun e w'=>e= .returned (.bool (a2g a b))/\Mod (fun _=>False) w w':=by
 obtain ⟨wa,hwa,hmwa,hgwa,hzwa⟩:=e8 w (.cells a.cells.toArray 132);obtain ⟨wb,hwb,hmwb,hgwb,hzwb⟩:=e8 wa (.cells b.cells.toArray 132);have hmb:=hmwa.trans hmwb (fun _ _ h=>h);have hA:=hmwb.heap hgwa (fun h=>h);have a0:wb.cell? ⟨w.heap.size,0,none⟩=some (.string a.name):=d6 hA rfl;have a1:wb.cell? ⟨w.heap.size,1,none⟩=some (.int .i64 a.op):=d6 hA rfl;have a2:wb.cell? ⟨w.heap.size,2,none⟩=some (.int .i64 a.v.kind):=d6 hA rfl;have a3:wb.cell? ⟨w.heap.size,3,none⟩=some (.int .i64 a.v.int):=d6 hA rfl;have a4:wb.cell? ⟨w.heap.size,4,none⟩=some (.float .f64 a.v.num):=d6 hA rfl;have a5:wb.cell? ⟨w.heap.size,5,none⟩=some (.string a.v.text):=d6 hA rfl;have a6:wb.cell? ⟨w.heap.size,6,none⟩=some (.bool a.v.yes):=d6 hA rfl;have b0:wb.cell? ⟨wa.heap.size,0,none⟩=some (.string b.name):=d6 hgwb rfl;have b1:wb.cell? ⟨wa.heap.size,1,none⟩=some (.int .i64 b.op):=d6 hgwb rfl;have b2:wb.cell? ⟨wa.heap.size,2,none⟩=some (.int .i64 b.v.kind):=d6 hgwb rfl;have b3:wb.cell? ⟨wa.heap.size,3,none⟩=some (.int .i64 b.v.int):=d6 hgwb rfl;have b4:wb.cell? ⟨wa.heap.size,4,none⟩=some (.float .f64 b.v.num):=d6 hgwb rfl;have b5:wb.cell? ⟨wa.heap.size,5,none⟩=some (.string b.v.text):=d6 hgwb rfl;have b6:wb.cell? ⟨wa.heap.size,6,none⟩=some (.bool b.v.yes):=d6 hgwb rfl;have hva:=a1x a wb;have hvb:=a1x b;have hho:=a2I b a.v hb ha;have hsm:=a6B a.v b.v han hbn;have hp1:=Z9 a.v.text b.v.text ha hb;have hp2:=Z9 b.v.text a.v.text hb ha;have hcm:=a2H a.v b.v;obtain ⟨R,hR⟩:∃R,a2g a b=R:=⟨_,rfl⟩;rw [hR];unfold a2g at hR;obtain ⟨va,hva'⟩:∃x,a.voidB=x:=⟨_,rfl⟩;obtain ⟨vb,hvb'⟩:∃x,b.voidB=x:=⟨_,rfl⟩;obtain ⟨⟨n,ok⟩,hn⟩:∃x,J6 a.v b.v=x:=⟨_,rfl⟩;rw [hva'] at hva hR;rw [hvb'] at hvb hR;rw [hn] at hcm hR;simp only at hcm hR;have hlz:w.heap.size<wa.heap.size:=by omega
 obtain ⟨Hwa,Hwb,Hmb,HA,Hgwb,Hva,Hvb,Hho,Hsm,Hp1,Hp2,Hcm⟩:=zh12 hwa hwb hmb hA hgwb hva hvb hho hsm hp1 hp2 hcm;have HR:=zh hR;clear hwa hwb hmb hA hgwb hva hvb hho hsm hp1 hp2 hcm hR hgwa hmwa hmwb hzwa hzwb ha hb han hbn hva' hvb' hn
 cases hnm:a.name.toList==b.name.toList with
 |false=>
  go_enter Tryz.func112,Tryz.ntmps112
  go_wp2_with (first|(rw [show w.alloc _=wa from Hwa.out])|(rw [show wa.alloc _=wb from Hwb.out])|fail)
  go_ret;exact ⟨m6 (HR.out.symm.trans (by simp [*])),Hmb.out⟩
 |true=>
 have HR:=Lib.hid (HR.out.symm.trans (if_pos hnm))
 go_enter Tryz.func112,Tryz.ntmps112
 go_wp2_with (first|(rw [show w.alloc _=wa from Hwa.out])|(rw [show wa.alloc _=wb from Hwb.out])|fail)
 refine Hva.out.mono ?_;rintro e w2 ⟨rfl,hm2⟩;have hA2:=hm2.heap HA.out (fun h=>h);have hB2:=hm2.heap Hgwb.out (fun h=>h);have hm02:=Hmb.out.trans hm2 (fun _ _ h=>h);obtain ⟨HA2,HB2,Hm02⟩:=zh3 hA2 hB2 hm02;clear hA2 hB2 hm02 hm2 hnm a0 a1 a2 a3 a4 a5 a6 b0 b1 b2 b3 b4 b5 b6 Hva;have a0:w2.cell? ⟨w.heap.size,0,none⟩=some (.string a.name):=d6 HA2.out rfl;have a1:w2.cell? ⟨w.heap.size,1,none⟩=some (.int .i64 a.op):=d6 HA2.out rfl;have a2:w2.cell? ⟨w.heap.size,2,none⟩=some (.int .i64 a.v.kind):=d6 HA2.out rfl;have a3:w2.cell? ⟨w.heap.size,3,none⟩=some (.int .i64 a.v.int):=d6 HA2.out rfl;have a4:w2.cell? ⟨w.heap.size,4,none⟩=some (.float .f64 a.v.num):=d6 HA2.out rfl;have a5:w2.cell? ⟨w.heap.size,5,none⟩=some (.string a.v.text):=d6 HA2.out rfl;have a6:w2.cell? ⟨w.heap.size,6,none⟩=some (.bool a.v.yes):=d6 HA2.out rfl;have b0:w2.cell? ⟨wa.heap.size,0,none⟩=some (.string b.name):=d6 HB2.out rfl;have b1:w2.cell? ⟨wa.heap.size,1,none⟩=some (.int .i64 b.op):=d6 HB2.out rfl;have b2:w2.cell? ⟨wa.heap.size,2,none⟩=some (.int .i64 b.v.kind):=d6 HB2.out rfl;have b3:w2.cell? ⟨wa.heap.size,3,none⟩=some (.int .i64 b.v.int):=d6 HB2.out rfl;have b4:w2.cell? ⟨wa.heap.size,4,none⟩=some (.float .f64 b.v.num):=d6 HB2.out rfl;have b5:w2.cell? ⟨wa.heap.size,5,none⟩=some (.string b.v.text):=d6 HB2.out rfl;have b6:w2.cell? ⟨wa.heap.size,6,none⟩=some (.bool b.v.yes):=d6 HB2.out rfl
 cases va with
 |true=>
  go_wp2
  go_ret;exact ⟨m6 (HR.out.trans (by simp)),Hm02.out⟩
 |false=>
 cases h7:b.op==7 with
 |true=>
  go_wp2
  go_ret;exact ⟨m6 (HR.out.trans (by simp [*])),Hm02.out⟩
 |false=>
 cases h8:a.op==7 with
 |true=>
  go_wp2
  go_ret;exact ⟨m6 (HR.out.trans (by simp [*])),Hm02.out⟩
 |false=>
 go_wp2_with fail
 refine (Hvb.out _).mono ?_;rintro e w3 ⟨rfl,hm3⟩;have hA3:=hm3.heap HA2.out (fun h=>h);have hB3:=hm3.heap HB2.out (fun h=>h);have hm03:=Hm02.out.trans hm3 (fun _ _ h=>h);obtain ⟨HA3,HB3,Hm03⟩:=zh3 hA3 hB3 hm03;clear hA3 hB3 hm03 hm3 a0 a1 a2 a3 a4 a5 a6 b0 b1 b2 b3 b4 b5 b6 Hvb HA2 HB2 Hm02;have a0:w3.cell? ⟨w.heap.size,0,none⟩=some (.string a.name):=d6 HA3.out rfl;have a1:w3.cell? ⟨w.heap.size,1,none⟩=some (.int .i64 a.op):=d6 HA3.out rfl;have a2:w3.cell? ⟨w.heap.size,2,none⟩=some (.int .i64 a.v.kind):=d6 HA3.out rfl;have a3:w3.cell? ⟨w.heap.size,3,none⟩=some (.int .i64 a.v.int):=d6 HA3.out rfl;have a4:w3.cell? ⟨w.heap.size,4,none⟩=some (.float .f64 a.v.num):=d6 HA3.out rfl;have a5:w3.cell? ⟨w.heap.size,5,none⟩=some (.string a.v.text):=d6 HA3.out rfl;have a6:w3.cell? ⟨w.heap.size,6,none⟩=some (.bool a.v.yes):=d6 HA3.out rfl;have b0:w3.cell? ⟨wa.heap.size,0,none⟩=some (.string b.name):=d6 HB3.out rfl;have b1:w3.cell? ⟨wa.heap.size,1,none⟩=some (.int .i64 b.op):=d6 HB3.out rfl;have b2:w3.cell? ⟨wa.heap.size,2,none⟩=some (.int .i64 b.v.kind):=d6 HB3.out rfl;have b3:w3.cell? ⟨wa.heap.size,3,none⟩=some (.int .i64 b.v.int):=d6 HB3.out rfl;have b4:w3.cell? ⟨wa.heap.size,4,none⟩=some (.float .f64 b.v.num):=d6 HB3.out rfl;have b5:w3.cell? ⟨wa.heap.size,5,none⟩=some (.string b.v.text):=d6 HB3.out rfl;have b6:w3.cell? ⟨wa.heap.size,6,none⟩=some (.bool b.v.yes):=d6 HB3.out rfl
 cases vb with
 |true=>
  go_wp2
  go_ret;exact ⟨m6 (HR.out.trans (by simp [*])),Hm03.out⟩
 |false=>
 cases hk:a.v.kind==b.v.kind with
 |false=>
  have hkn:(a.v.kind !=b.v.kind)=true:=by simp [bne,hk]
  go_wp2
  go_ret;exact ⟨m6 (HR.out.trans (by simp [*])),Hm03.out⟩
 |true=>
 have hkn:(a.v.kind !=b.v.kind)=false:=by simp [bne,hk]
 clear hk
 cases h0:a.op==0 with
 |true=>
  go_wp2_with fail
  refine (Hho.out _).mono ?_;rintro e w4 ⟨rfl,hm4⟩;have Hm4:=Lib.hid (Hm03.out.trans hm4 (fun _ _ h=>h));clear hm4
  go_wp2
  go_ret;exact ⟨m6 (HR.out.trans (by simp [*])),Hm4.out⟩
 |false=>
 cases h1:a.op==1 with
 | true=>
  cases hb1:b.op==1 with
  |false=>
   go_wp2
   go_ret;exact ⟨m6 (HR.out.trans (by simp [*])),Hm03.out⟩
  |true=>
   go_wp2_with fail
   refine (Hsm.out _).mono ?_;rintro e w4 ⟨rfl,hm4⟩;have Hm4:=Lib.hid (Hm03.out.trans hm4 (fun _ _ h=>h));clear hm4
   go_wp2
   go_ret;exact ⟨m6 (HR.out.trans (by simp [*])),Hm4.out⟩
 |false=>
 cases h6:a.op==6 with
 | true=>
  cases hb6:b.op==6 with
  | true=>
   have hb1:(b.op==1)=false:=by rw [beq_iff_eq] at hb6;rw [hb6];rfl
   obtain ⟨pf,hpf⟩:∃x,W8 a.v.text b.v.text=x:=⟨_,rfl⟩;rw [hpf] at Hp1 HR;clear hpf
   go_wp2_with fail
   refine (Hp1.out _).mono ?_;rintro e w4 ⟨rfl,rfl⟩
   cases pf with
   |true=>
    go_wp2
    go_ret;exact ⟨m6 (HR.out.trans (by simp [*])),Hm03.out⟩
   |false=>
    go_wp2
    go_ret;exact ⟨m6 (HR.out.trans (by simp [*])),Hm03.out⟩
  | false=>
   cases hb1:b.op==1 with
   |false=>
    go_wp2
    go_ret;exact ⟨m6 (HR.out.trans (by simp [*])),Hm03.out⟩
   |true=>
    go_wp2_with fail
    refine (Hp2.out _).mono ?_;rintro e w4 ⟨rfl,rfl⟩
    go_wp2
    go_ret;exact ⟨m6 (HR.out.trans (by simp [*])),Hm03.out⟩
 |false=>
 go_wp2_with fail
 refine (Hcm.out _).mono ?_;rintro e w4 ⟨rfl,hm4⟩;have hA4:=hm4.heap HA3.out (fun h=>h);have hB4:=hm4.heap HB3.out (fun h=>h);have hm04:=Hm03.out.trans hm4 (fun _ _ h=>h);obtain ⟨HA4,HB4,Hm04⟩:=zh3 hA4 hB4 hm04;clear hA4 hB4 hm04 hm4 a0 a1 a2 a3 a4 a5 a6 b0 b1 b2 b3 b4 b5 b6 HA3 HB3 Hm03;have a0:w4.cell? ⟨w.heap.size,1,none⟩=some (.int .i64 a.op):=d6 HA4.out rfl;have b0:w4.cell? ⟨wa.heap.size,1,none⟩=some (.int .i64 b.op):=d6 HB4.out rfl
 go_wp2_with fail
 refine (a5k a.op w4).mono ?_;rintro e w5 ⟨rfl,rfl⟩;obtain ⟨x,hx⟩:∃x,a8O a.op=x:=⟨_,rfl⟩;obtain ⟨y3,hy3⟩:∃x,(a.op==3)=x:=⟨_,rfl⟩;obtain ⟨y5,hy5⟩:∃x,(a.op==5)=x:=⟨_,rfl⟩;obtain ⟨z3,hz3⟩:∃x,(b.op==3)=x:=⟨_,rfl⟩;obtain ⟨z5,hz5⟩:∃x,(b.op==5)=x:=⟨_,rfl⟩;obtain ⟨bl,hbl⟩:∃x,a8O b.op=x:=⟨_,rfl⟩;obtain ⟨al,hal⟩:∃x,b2N b.op=x:=⟨_,rfl⟩;unfold b37 b38 at HR;rw [hx,hy3,hy5,hz3,hz5,hbl,hal] at HR;rw [hx,hy3];have hbb:=a5k b.op w5;have hab:=a5l a.op w5;have hbb2:=a5l b.op w5;rw [hbl,hz3] at hbb;rw [hy5] at hab;rw [hal,hz5] at hbb2;obtain ⟨Hbb,Hab,Hbb2⟩:=zh3 hbb hab hbb2;clear hbb hab hbb2 hx hy3 hy5 hz3 hz5 hbl hal
 cases x with
 |true=>
  go_wp2_with fail
  refine Hbb.out.mono ?_;rintro e w6 ⟨rfl,rfl⟩
  go_wp2
  all_goals (go_ret;exact ⟨m6 (HR.out.trans (by first|(simp [*];done)|(rw [show decide (n<0)=false from decide_eq_false (by omega)];simp [*];done)|(rw [show decide (0<n)=false from decide_eq_false (by omega)];simp [*];done))),Hm04.out⟩)
 |false=>
  go_wp2_with fail
  refine Hab.out.mono ?_;rintro e w6 ⟨rfl,rfl⟩
  go_wp2_with fail
  refine Hbb2.out.mono ?_;rintro e w7 ⟨rfl,rfl⟩
  go_wp2
  all_goals (go_ret;exact ⟨m6 (HR.out.trans (by first|(simp [*];done)|(rw [show decide (n<0)=false from decide_eq_false (by omega)];simp [*];done)|(rw [show decide (0<n)=false from decide_eq_false (by omega)];simp [*];done))),Hm04.out⟩)
theorem a6C {w:World} {a:Option Addr} {cap:Nat} {l:List Att} {j:Nat} {x:Att} (h:j0 w 6 (.slice a l.length cap) l.length (j7 l)) (hx:l[j]? =some x):∃g off,a=some ⟨g,off,none⟩/\e7 w g (off+j*6) x.cells:=by
 obtain ⟨-,a',c',h1, -,h3,h4⟩:=h;cases h1
 cases a with
 |none=>have:=(zz6 hx).1;exact absurd (h3 rfl) (by omega)
 |some b=>
  obtain ⟨g',off',h5,h6⟩:=h4 _ rfl (by have:=(zz6 hx).1;omega);refine ⟨g',off',by rw [h5],fun i u hu=> ?_⟩;have:=h6 (6*j+i) u (a0j _ hx hu);rw [show off'+j*6+i=off'+(6*j+i) by omega];exact this
def a3A (l:List Att) (s:ByteArray):V×Bool:=if there l s=true then (((l[pos l s]?).map Att.v).getD V.zero,true) else (V.zero,false)
theorem b4u (w:World) (sc:ByteArray) (av:Value) (l:List Att) (hv:j0 w 6 av l.length (j7 l)) (hll:l.length<=1000000) (hr:u7 l) (s:ByteArray):
 Calls Tryz.prog 169 #[.agg #[.string sc,av],.string s] w fun e w'=>e= .returned (.tuple #[.agg (a3A l s).1.cells.toArray,.bool (a3A l s).2])/\Mod (fun _=>False) w w':=by
 obtain ⟨a,cap,rfl,hcap⟩:∃a c,av= .slice a l.length c/\l.length<=c:=by obtain ⟨-,a,c,h,h2, -⟩:=hv;exact ⟨a,c,h,h2⟩
 have hll':(l.length:Int)<=1000000:=by omega
 have hcap':(l.length:Int)<=cap:=by omega
 obtain ⟨wa,hwa,hmwa,hgwa,hzwa⟩:=e8 w (.cells #[.string sc,.slice a l.length cap] 46);obtain ⟨wb,hwb,hmwb,hgwb,hzwb⟩:=e8 wa (.cells #[.int .i64 0,.int .i64 0,.float .f64 0,.string ⟨#[]⟩,.bool false] 68);have hmb:=hmwa.trans hmwb (fun _ _ h=>h);have hg:=hmwb.heap hgwa (fun h=>h);have c0:wb.cell? ⟨w.heap.size,0,none⟩=some (.string sc):=d6 hg rfl;have c1:wb.cell? ⟨w.heap.size,1,none⟩=some (.slice a l.length cap):=d6 hg rfl;have hvb:=hv.mod hmb (fun _ _ h=>h);have hfd:=a8F wb sc (.slice a l.length cap) l hvb hll hr s;obtain ⟨R,hR⟩:∃R,a3A l s=R:=⟨_,rfl⟩;rw [hR];unfold a3A at hR;have hlz:w.heap.size<wa.heap.size:=by omega
 obtain ⟨Hv,Hr,Hwa,Hwb,Hmb,Hvb,Hg,Hgwb,Hfd,HR⟩:=zh10 hv hr hwa hwb hmb hvb hg hgwb hfd hR;clear hv hr hwa hwb hmb hvb hg hgwb hfd hR hgwa hmwa hmwb hzwa hzwb
 go_enter Tryz.func169,Tryz.ntmps169
 go_wp2_with (first|(rw [show w.alloc _=wa from Hwa.out])|(rw [show wa.alloc _=wb from Hwb.out])|fail)
 refine Hfd.out.mono ?_;rintro e w1 ⟨rfl,hm1⟩;have hm01:=Hmb.out.trans hm1 (fun _ _ h=>h);have hg1:=hm1.heap Hg.out (fun h=>h);have hz1:=hm1.heap Hgwb.out (fun h=>h);have hv1:=Hvb.out.mod hm1 (fun _ _ h=>h);have c1:w1.cell? ⟨w.heap.size,1,none⟩=some (.slice a l.length cap):=d6 hg1 rfl;obtain ⟨Hm01,Hz1,Hv1⟩:=zh3 hm01 hz1 hv1;clear hm01 hz1 hv1 hm1 c0 hg1 Hfd
 cases hth:there l s with
 |false=>
  have E:=Lib.hid (HR.out.symm.trans (if_neg (by rw [hth];decide)));have Hth:=zh hth;clear hth
  go_wp2_with (first|((with_reducible refine j3 68 (.tmp 4) (.tmp 16) ?_);refine ⟨wa.heap.size,rfl,_,_,Hz1.out,[.int .i64 0,.int .i64 0,.float .f64 0,.string ⟨#[]⟩,.bool false],rfl,rfl,by kernel_rfl,rfl, ?_⟩;intro w6 hg6 hm6;have Hg6:=Lib.hid hg6;have Hm6:=Lib.hid hm6;clear hg6 hm6)|fail)
  refine bodyPost_ret (v:= .tuple #[.agg #[.int .i64 0,.int .i64 0,.float .f64 0,.string ⟨#[]⟩,.bool false],.bool false]) ?_ rfl ⟨by rw [E.out];rfl,Hm01.out.upon Hm6.out (fun b hb=> .inr (by omega))⟩;have hl:=o5 (P:=Tryz.prog) 68 wa.heap.size 0 [.int .i64 0,.int .i64 0,.float .f64 0,.string ⟨#[]⟩,.bool false] (e7.row Hg6.out) (by kernel_rfl) (by kernel_rfl);simp [results,Tryz.results169,Result.andThen,asAddr,hl]
 | true=>
  have e1:=HR.out.symm.trans (if_pos hth)
  obtain ⟨x,hx⟩:∃x,l[pos l s]? =some x:=by
   unfold there at hth;split at hth
   ·exact ⟨_,by assumption⟩
   ·cases hth
  rw [hx] at e1;have E:=Lib.hid (show R=(x.v,true) from e1);have hp:pos l s<l.length:=(zz6 hx).1;obtain ⟨p,hpp⟩:∃p,pos l s=p:=⟨_,rfl⟩;rw [hpp] at hx hp⊢;have hp':(p:Int)<l.length:=by omega
  obtain ⟨g,off,rfl,hf⟩:∃g off,a=some ⟨g,off,none⟩/\e7 w1 g (off+p*6) x.cells:=a6C Hv1.out hx
  have hf1:e7 w1 g (off+p*6+1) x.v.cells:=fun j u hu=>by
   have:=hf (j+1) u (by simpa [Att.cells] using hu);rw [show off+p*6+1+j=off+p*6+(j+1) by omega];exact this
  obtain ⟨Hth,Hf1⟩:=zh2 hth hf1;clear hf1 hth hpp hf hx e1
  go_wp2_with (first|((with_reducible refine d9 68 (.tmp 21) ?_);refine ⟨g,off+p*6+1,rfl,x.v.cells,Hf1.out,by kernel_rfl,by kernel_rfl, ?_⟩)|((with_reducible refine j3 68 (.tmp 4) (.tmp 22) ?_);refine ⟨wa.heap.size,rfl,_,_,Hz1.out,x.v.cells,rfl,rfl,by kernel_rfl,rfl, ?_⟩;intro w6 hg6 hm6;have Hg6:=Lib.hid hg6;have Hm6:=Lib.hid hm6;clear hg6 hm6)|fail)
  refine bodyPost_ret (v:= .tuple #[.agg x.v.cells.toArray,.bool true]) ?_ rfl ⟨by rw [E.out],Hm01.out.upon Hm6.out (fun b hb=> .inr (by omega))⟩;have hl:=o5 (P:=Tryz.prog) 68 wa.heap.size 0 x.v.cells (e7.row Hg6.out) (by kernel_rfl) (by kernel_rfl);simp [results,Tryz.results169,Result.andThen,asAddr,hl]
theorem a8P {l:List Att} {s:ByteArray} {n:Nat} (h:∀a∈l,a.v.text.size<=n):(a3A l s).1.text.size<=n:=by
 unfold a3A;split
 ·cases hx:l[pos l s]? with
  |none=>exact Nat.zero_le _
  |some x=>exact h x (zz8 hx)
 exact Nat.zero_le _
def Cnd.matchB (c:Cnd) (l:List Att):Bool:=(a3A l c.name).2&&c.holds (a3A l c.name).1
theorem a6D (c:Cnd) (hc:c.v.text.size<=9223372036854775807) (w:World) (sc:ByteArray) (av:Value) (l:List Att) (hv:j0 w 6 av l.length (j7 l)) (hll:l.length<=1000000) (hr:u7 l) (ht:∀a∈l,a.v.text.size<=9223372036854775807):
 Calls Tryz.prog 120 #[.agg c.cells.toArray,.agg #[.string sc,av]] w fun e w'=>e= .returned (.bool (c.matchB l))/\Mod (fun _=>False) w w':=by
 obtain ⟨a,cap,rfl,hcap⟩:∃a c,av= .slice a l.length c/\l.length<=c:=by obtain ⟨-,a,c,h,h2, -⟩:=hv;exact ⟨a,c,h,h2⟩
 obtain ⟨wa,hwa,hmwa,hgwa,hzwa⟩:=e8 w (.cells c.cells.toArray 132);obtain ⟨wb,hwb,hmwb,hgwb,hzwb⟩:=e8 wa (.cells #[.string sc,.slice a l.length cap] 46);have hmb:=hmwa.trans hmwb (fun _ _ h=>h);have hg:=hmwb.heap hgwa (fun h=>h);have c0:wb.cell? ⟨w.heap.size,0,none⟩=some (.string c.name):=d6 hg rfl;have d0:wb.cell? ⟨wa.heap.size,0,none⟩=some (.string sc):=d6 hgwb rfl;have d1:wb.cell? ⟨wa.heap.size,1,none⟩=some (.slice a l.length cap):=d6 hgwb rfl;have hge:=b4u wb sc (.slice a l.length cap) l (hv.mod hmb (fun _ _ h=>h)) hll hr c.name;have hgt:=a8P (s:=c.name) ht;obtain ⟨R,hR⟩:∃R,c.matchB l=R:=⟨_,rfl⟩;rw [hR];unfold Cnd.matchB at hR;obtain ⟨⟨v,b⟩,hvb⟩:∃p,a3A l c.name=p:=⟨_,rfl⟩;rw [hvb] at hge hgt hR;simp only at hge hgt hR;have hho:=a2I c v hc hgt;have hlz:w.heap.size<wa.heap.size:=by omega
 obtain ⟨Hv,Hr,Hwa,Hwb,Hmb,Hg,Hge,Hgt,HR,Hvb,Hho⟩:=zh11 hv hr hwa hwb hmb hg hge hgt hR hvb hho;clear hv hr hwa hwb hmb hg hge hgt hR hvb hho hgwa hgwb hmwa hmwb hzwa hzwb hc ht hll
 go_enter Tryz.func120,Tryz.ntmps120
 go_wp2_with (first|(rw [show w.alloc _=wa from Hwa.out])|(rw [show wa.alloc _=wb from Hwb.out])|fail)
 refine Hge.out.mono ?_;rintro e w1 ⟨rfl,hm1⟩;obtain ⟨wz,hwz,hmwz,hgwz,hzwz⟩:=e8 w1 (.cells v.cells.toArray 68);have hm0z:=(Hmb.out.trans hm1 (fun _ _ h=>h)).trans hmwz (fun _ _ h=>h);have hgz:=hmwz.heap (hm1.heap Hg.out (fun h=>h)) (fun h=>h);have hhz:=Hho.out wz;obtain ⟨Hwz,Hgwz,Hm0z,Hgz,Hhz⟩:=zh5 hwz hgwz hm0z hgz hhz;clear hwz hgwz hm0z hgz hhz hmwz hzwz hm1 c0 d0 d1 Hge Hg Hho
 cases b with
 |false=>
  go_wp2_with (first|((with_reducible refine d8 68 (.tmp 5) (.tmp 12) ?_);refine ⟨rfl,v.cells,rfl,rfl,by kernel_rfl,rfl, ?_⟩;rw [Hwz.out])|fail)
  go_ret;exact ⟨by rw [<-HR.out];rfl,Hm0z.out⟩
 |true=>
  have c0:wz.cell? ⟨w.heap.size,0,none⟩=some (.string c.name):=d6 Hgz.out rfl;have c1:wz.cell? ⟨w.heap.size,1,none⟩=some (.int .i64 c.op):=d6 Hgz.out rfl;have c2:wz.cell? ⟨w.heap.size,2,none⟩=some (.int .i64 c.v.kind):=d6 Hgz.out rfl;have c3:wz.cell? ⟨w.heap.size,3,none⟩=some (.int .i64 c.v.int):=d6 Hgz.out rfl;have c4:wz.cell? ⟨w.heap.size,4,none⟩=some (.float .f64 c.v.num):=d6 Hgz.out rfl;have c5:wz.cell? ⟨w.heap.size,5,none⟩=some (.string c.v.text):=d6 Hgz.out rfl;have c6:wz.cell? ⟨w.heap.size,6,none⟩=some (.bool c.v.yes):=d6 Hgz.out rfl;have z0:wz.cell? ⟨w1.heap.size,0,none⟩=some (.int .i64 v.kind):=d6 Hgwz.out rfl;have z1:wz.cell? ⟨w1.heap.size,1,none⟩=some (.int .i64 v.int):=d6 Hgwz.out rfl;have z2:wz.cell? ⟨w1.heap.size,2,none⟩=some (.float .f64 v.num):=d6 Hgwz.out rfl;have z3:wz.cell? ⟨w1.heap.size,3,none⟩=some (.string v.text):=d6 Hgwz.out rfl;have z4:wz.cell? ⟨w1.heap.size,4,none⟩=some (.bool v.yes):=d6 Hgwz.out rfl
  go_wp2_with (first|((with_reducible refine d8 68 (.tmp 5) (.tmp 12) ?_);refine ⟨rfl,v.cells,rfl,rfl,by kernel_rfl,rfl, ?_⟩;rw [Hwz.out])|fail)
  refine Hhz.out.mono ?_;rintro e w2 ⟨rfl,hm2⟩;have Hm2:=Lib.hid (Hm0z.out.trans hm2 (fun _ _ h=>h));clear hm2
  go_wp2
  go_ret;exact ⟨by rw [<-HR.out];rfl,Hm2.out⟩
def H5 (sc:ByteArray) (cs:List Cnd) (es:ByteArray) (l:List Att):Bool:=cs.all (fun c=>c.matchB l)&&s6 es sc
theorem U9 (w:World) (sc:ByteArray) (cv:Value) (cs:List Cnd) (hc:j0 w 7 cv cs.length (l6 cs)) (hcl:cs.length<=9223372036854775807) (hsc:sc.size<=9223372036854775807) (hct:∀c∈cs,c.v.text.size<=9223372036854775807)
 (es:ByteArray) (av:Value) (l:List Att) (hv:j0 w 6 av l.length (j7 l)) (hll:l.length<=1000000) (hr:u7 l) (hes:es.size<=9223372036854775807) (ht:∀a∈l,a.v.text.size<=9223372036854775807):
 Calls Tryz.prog 91 #[.agg #[.string sc,cv],.agg #[.string es,av]] w fun e w'=>e= .returned (.bool (H5 sc cs es l))/\Mod (fun _=>False) w w':=by
 obtain ⟨a,cap,rfl⟩:∃a c,av= .slice a l.length c:=by obtain ⟨-,a,c,h, -⟩:=hv;exact ⟨a,c,h⟩
 exact a6w (fun c=>c.matchB l) w sc cv cs es (.slice a l.length cap) a l.length cap rfl hc hcl hsc hes (fun c hm wx hwx=>a6D c (hct c hm) wx es _ l (hv.mod hwx (fun _ _ h=>h)) hll hr ht)
end
end Go.Proofs.YtaenebdppkjhoaaGreatDoor
