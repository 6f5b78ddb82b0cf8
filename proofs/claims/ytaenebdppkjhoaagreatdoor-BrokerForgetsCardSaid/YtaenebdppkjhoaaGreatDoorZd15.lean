/- Lemmas of this claim. -/
import Derived.Test.YtaenebdppkjhoaaGreatDoorZd12
namespace Go.Proofs.YtaenebdppkjhoaaGreatDoor
set_option maxRecDepth 20000
set_option maxHeartbeats 40000000
section
open Go.RowKit
theorem callCov1:∀(args:Array Value) (W:World),Sem.run Tryz.prog (callFunc 133 args) W= .ok (.enter 133 args) W:=fun args w=>by simp [go_sem]
theorem cov1_at (p:Bool) (c d:Cnd) (k:Nat) (w:World) (hk:w.heap[k]? =some (.cells c.cells.toArray 132 (0,0)))
 (hp:∀wx,Mod (fun _=>False) w wx→Calls Tryz.prog 112 #[.agg d.cells.toArray,.agg c.cells.toArray] wx fun e w'=>e= .returned (.bool p)∧Mod (fun _=>False) wx w'):
 Calls Tryz.prog 133 (#[.agg d.cells.toArray]++#[.pointer (some ⟨k,0,none⟩)]) w fun e w'=>e= .returned (.bool p)∧Mod (fun _=>False) w w':=by
 obtain ⟨wa,hwa,hmwa,hgwa,hzwa⟩:=allocE w (.cells d.cells.toArray 132)
 have hkl:=(Array.getElem?_eq_some_iff.1 hk).1
 have hka:=hmwa.heap hk (fun h=>h)
 have hpa:=hp wa hmwa
 have Hwa:=Lib.hid hwa
 have Hmwa:=Lib.hid hmwa
 have Hgwa:=Lib.hid hgwa
 have Hka:=Lib.hid hka
 have Hpa:=Lib.hid hpa
 clear hwa hmwa hgwa hka hpa hzwa hk hp
 show Calls Tryz.prog 133 #[.agg d.cells.toArray,.pointer (some ⟨k,0,none⟩)] w _
 go_enter Tryz.func133,Tryz.ntmps133
 go_wp2_with (first|(rw [show w.alloc _=wa from Hwa.out])|((with_reducible refine wpList_load_lit 132 (.tmp 2) ?_);refine ⟨w.heap.size,0,rfl,d.cells,CellsAt.row Hgwa.out,by kernel_rfl,by kernel_rfl, ?_⟩)|((with_reducible refine wpList_load_lit 132 (.tmp 1) ?_);refine ⟨k,0,rfl,c.cells,CellsAt.row Hka.out,by kernel_rfl,by kernel_rfl, ?_⟩)|fail)
 refine Hpa.out.mono ?_
 rintro e w2 ⟨rfl,hm2⟩
 have Hm2:=Lib.hid (Hmwa.out.trans hm2 (fun _ _ h=>h))
 clear hm2
 go_wp2
 go_ret
 exact ⟨rfl,Hm2.out⟩
theorem covers_over (f:Cnd→Cnd→Bool) (w:World) (sc:ByteArray) (cv:Value) (l:List Cnd) (hv:RdSl w 7 cv l.length (cnds l)) (hll:l.length≤9223372036854775807) (hsc:sc.size≤9223372036854775807)
 (gs:ByteArray) (gv:Value) (m:List Cnd) (hg:RdSl w 7 gv m.length (cnds m)) (hml:m.length≤9223372036854775807) (hgs:gs.size≤9223372036854775807)
 (hp:∀d∈m,∀c∈l,∀wx,Mod (fun _=>False) w wx→Calls Tryz.prog 112 #[.agg d.cells.toArray,.agg c.cells.toArray] wx fun e w'=>e= .returned (.bool (f d c))∧Mod (fun _=>False) wx w'):
 Calls Tryz.prog 99 #[.agg #[.string sc,cv],.agg #[.string gs,gv]] w fun e w'=>e= .returned (.bool (m.any Cnd.voidB||(l.all (fun c=>m.any fun d=>f d c)&&underB gs sc)))∧Mod (fun _=>False) w w':=by
 obtain ⟨a,cap,rfl,hcap⟩:∃a c,cv= .slice a l.length c∧l.length≤c:=by obtain ⟨-,a,c,h,h2, -⟩:=hv;exact ⟨a,c,h,h2⟩
 obtain ⟨ga,gcap,rfl,hgcap⟩:∃a c,gv= .slice a m.length c∧m.length≤c:=by obtain ⟨-,a,c,h,h2, -⟩:=hg;exact ⟨a,c,h,h2⟩
 have hll':(l.length:Int)≤9223372036854775807:=by omega
 have hcap':(l.length:Int)≤cap:=by omega
 obtain ⟨wa,hwa,hmwa,hgwa,hzwa⟩:=allocE w (.cells #[.string sc,.slice a l.length cap] 33)
 obtain ⟨wb,hwb,hmwb,hgwb,hzwb⟩:=allocE wa (.cells #[.string gs,.slice ga m.length gcap] 33)
 have hmb:=hmwa.trans hmwb (fun _ _ h=>h)
 have hF:=hmwb.heap hgwa (fun h=>h)
 have d0:wb.cell? ⟨wa.heap.size,0,none⟩=some (.string gs):=cell_of hgwb rfl
 have d1:wb.cell? ⟨wa.heap.size,1,none⟩=some (.slice ga m.length gcap):=cell_of hgwb rfl
 have hvd:=filter_void wb gs (.slice ga m.length gcap) m (hg.mod hmb (fun _ _ h=>h)) hml
 obtain ⟨R,hR⟩:∃R,(m.any Cnd.voidB||(l.all (fun c=>m.any fun d=>f d c)&&underB gs sc))=R:=⟨_,rfl⟩
 rw [hR]
 have hqz:w.heap.size<wa.heap.size:=by omega
 have Hv:=Lib.hid hv
 have Hg:=Lib.hid hg
 have Hp:=Lib.hid hp
 have Hwa:=Lib.hid hwa
 have Hwb:=Lib.hid hwb
 have Hmb:=Lib.hid hmb
 have HF:=Lib.hid hF
 have Hgwb:=Lib.hid hgwb
 have Hvd:=Lib.hid hvd
 have HR:=Lib.hid hR
 have Hsc:=Lib.hid hsc
 have Hgs:=Lib.hid hgs
 have Hml:=Lib.hid hml
 clear hv hg hp hwa hwb hmb hF hgwb hvd hR hsc hgs hml hmwa hmwb hgwa hzwa hzwb hll
 go_enter Tryz.func99,Tryz.ntmps99
 go_wp2_with (first|(rw [show w.alloc _=wa from Hwa.out])|(rw [show wa.alloc _=wb from Hwb.out])|fail)
 refine Hvd.out.mono ?_
 rintro e w1 ⟨rfl,hm1⟩
 have hm01:=Hmb.out.trans hm1 (fun _ _ h=>h)
 have hF1:=hm1.heap HF.out (fun h=>h)
 have hG1:=hm1.heap Hgwb.out (fun h=>h)
 have c1:w1.cell? ⟨w.heap.size,1,none⟩=some (.slice a l.length cap):=cell_of hF1 rfl
 have hv1:=Hv.out.mod hm01 (fun _ _ h=>h)
 have Hm01:=Lib.hid hm01
 have HF1:=Lib.hid hF1
 have HG1:=Lib.hid hG1
 have Hv1:=Lib.hid hv1
 clear hm01 hF1 hG1 hv1 hm1 d0 d1 Hvd
 cases hvo:m.any Cnd.voidB with
 |true=>
  have Hvo:=Lib.hid hvo
  clear hvo
  go_wp2
  go_ret
  exact ⟨by rw [←HR.out,Hvo.out];rfl,Hm01.out⟩
 |false=>
 have HR:=Lib.hid (show (l.all (fun c=>m.any fun d=>f d c)&&underB gs sc)=R by rw [←HR.out,hvo];rfl)
 clear hvo
 go_wp2_with fail
 go_loopw [12] (fun i wr=>∃j:Nat,i= .int .i64 j∧j≤l.length∧Mod (fun _=>False) w1 wr∧(∀(k:Nat) (x:Cnd),k<j→l[k]? =some x→(m.any fun d=>f d x)=true)) (fun i _=>l.length - (intOf i).toNat)
 case atStart=>exact ⟨0,rfl,Nat.zero_le _,Mod.refl _ _,fun k x hk=>by omega⟩
 case round=>
  obtain ⟨j,rfl,hj,hmr,hall⟩:=hrel
  by_cases hlt:j<l.length
  ·have hlt':(j:Int)<l.length:=by omega
   obtain ⟨x,hxj⟩:∃x,l[j]? =some x:=⟨_,List.getElem?_eq_getElem hlt⟩
   have hxm:=List.mem_of_getElem? hxj
   obtain ⟨g,off,rfl,hf⟩:∃g off,a=some ⟨g,off,none⟩∧CellsAt wr g (off+j*7) x.cells:=rd_cnd (Hv1.out.mod hmr (fun _ _ h=>h)) hxj
   obtain ⟨wz,hwz,hmwz,hgwz,hzwz⟩:=allocE wr (.cells x.cells.toArray 132)
   have hmz:=hmr.trans hmwz (fun _ _ h=>h)
   have hm0z:=Hm01.out.trans hmz (fun _ _ h=>h)
   have hge:=hmz.heap HG1.out (fun h=>h)
   have e1:wz.cell? ⟨wa.heap.size,1,none⟩=some (.slice ga m.length gcap):=cell_of hge rfl
   have hct:=contains_at 133 #[.pointer (some ⟨wr.heap.size,0,none⟩)] callCov1 (fun d=>f d x) wz (.slice ga m.length gcap) m (Hg.out.mod hm0z (fun _ _ h=>h)) Hml.out
    (fun d hd wx hwx=>cov1_at (f d x) x d wr.heap.size wx (hwx.heap hgwz (fun h=>h)) (fun wy hwy=>Hp.out d hd x hxm wy ((hm0z.trans hwx (fun _ _ h=>h)).trans hwy (fun _ _ h=>h))))
   have hmf:∀(fn:Fn) (first cap:Array Value) (w:World),(Instr.makeFunc fn first cap).run Tryz.prog w= .ok (.func fn first cap) w:=fun _ _ _ _=>rfl
   have Hmr:=Lib.hid hmr
   have Hall:=Lib.hid hall
   have Hxj:=Lib.hid hxj
   have Hxm:=Lib.hid hxm
   have Hf:=Lib.hid hf
   have Hwz:=Lib.hid hwz
   have Hgwz:=Lib.hid hgwz
   have Hmz:=Lib.hid hmz
   have Hct:=Lib.hid hct
   have Hm0z:=Lib.hid hm0z
   clear hmr hall hxj hxm hf hwz hgwz hmz hct hm0z hzwz hmwz hge c1
   go_wp2_with (first|((with_reducible refine wpList_load_lit 132 (.tmp 14) ?_);refine ⟨g,off+j*7,rfl,x.cells,Hf.out,by kernel_rfl,by kernel_rfl, ?_⟩)|((with_reducible refine wpList_store_lit 132 (.tmp 6) (.tmp 15) ?_);refine ⟨rfl,x.cells,rfl,rfl,by kernel_rfl,rfl, ?_⟩;rw [Hwz.out])|fail)
   refine Hct.out.mono ?_
   rintro e w3 ⟨rfl,hm3⟩
   have Hm3:=Lib.hid (Hmz.out.trans hm3 (fun _ _ h=>h))
   clear hm3 e1
   cases hs:m.any (fun d=>f d x) with
   | true=>
    have Hs:=Lib.hid hs
    clear hs
    go_wp2_with fail
    go_roundw
    case rel=>
     refine ⟨j+1,by go_num,hlt,Hm3.out,fun k x' hk hx'=> ?_⟩
     rcases Nat.lt_succ_iff_lt_or_eq.1 hk with hk|rfl
     ·exact Hall.out k x' hk hx'
     ·rw [Hxj.out] at hx';cases hx';exact Hs.out
    case measure=>simp [intOf];omega
   |false=>
    have Hs:=Lib.hid hs
    clear hs
    go_wp2
    go_ret
    refine ⟨?_,Hm01.out.trans Hm3.out (fun _ _ h=>h)⟩
    rw [←HR.out,List.all_eq_false.2 ⟨x,Hxm.out,by rw [Hs.out];decide⟩,Bool.false_and]
    rfl
  ·obtain rfl:j=l.length:=by omega
   have hgr:=hmr.heap HF1.out (fun h=>h)
   have hge:=hmr.heap HG1.out (fun h=>h)
   have c0:wr.cell? ⟨w.heap.size,0,none⟩=some (.string sc):=cell_of hgr rfl
   have e0:wr.cell? ⟨wa.heap.size,0,none⟩=some (.string gs):=cell_of hge rfl
   have hun:=under_at gs sc Hgs.out Hsc.out wr
   have hfr:R=underB gs sc:=by
    rw [←HR.out,List.all_eq_true.2 fun x hx=>by
     obtain ⟨k,hk⟩:=List.mem_iff_getElem?.1 hx
     exact hall k x (List.getElem?_eq_some_iff.1 hk).1 hk,Bool.true_and]
   have hmr2:=Hm01.out.trans hmr (fun _ _ h=>h)
   have Hmr2:=Lib.hid hmr2
   have Hun:=Lib.hid hun
   have Hfr:=Lib.hid hfr
   clear hmr2 hun hfr hmr hall hgr hge
   go_wp2_with fail
   refine Hun.out.mono ?_
   rintro e w3 ⟨rfl,rfl⟩
   go_wp2
   go_ret
   refine ⟨?_,Hmr2.out⟩
   rw [Hfr.out]
   rfl
theorem may_observe (m:Ru→Bool) (w:World) (v:Value) (l:List Ru) (hv:RuSl w v l) (hll:l.length≤9223372036854775807) (tenant:Int) (who:ByteArray) (es:ByteArray) (ea:Option Addr) (en ec:Nat)
 (hm:∀r∈l,∀wx,Mod (fun _=>False) w wx→r.of 2 tenant who=true→Calls Tryz.prog 99 #[.agg #[.string r.sc,r.cv],.agg #[.string es,.slice ea en ec]] wx fun e w'=>e= .returned (.bool (m r))∧Mod (fun _=>False) wx w'):
 Calls Tryz.prog 61 #[v,.int .i64 tenant,.string who,.agg #[.string es,.slice ea en ec]] w fun e w'=>
  e= .returned (.bool ((homeOf l tenant who).isSome&&l.any fun r=>r.of 2 tenant who&&m r))∧Mod (fun _=>False) w w':=by
 obtain ⟨a,cap,rfl,hcap⟩:∃a c,v= .slice a l.length c∧l.length≤c:=by obtain ⟨-,a,c,h,h2, -⟩:=hv.rd;exact ⟨a,c,h,h2⟩
 have hll':(l.length:Int)≤9223372036854775807:=by omega
 have hcap':(l.length:Int)≤cap:=by omega
 obtain ⟨wa,hwa,hmwa,hgwa,hzwa⟩:=allocE w (.cells #[.string es,.slice ea en ec] 33)
 have hva:=hv.mod hmwa
 have hho:=home_at wa (.slice a l.length cap) l hva hll tenant who
 have hqz:w.heap.size<wa.heap.size:=by omega
 obtain ⟨R,hR⟩:∃R,((homeOf l tenant who).isSome&&l.any fun r=>r.of 2 tenant who&&m r)=R:=⟨_,rfl⟩
 rw [hR]
 have Hv:=Lib.hid hv
 have Hm:=Lib.hid hm
 have Hwa:=Lib.hid hwa
 have Hmwa:=Lib.hid hmwa
 have Hgwa:=Lib.hid hgwa
 have Hva:=Lib.hid hva
 have Hho:=Lib.hid hho
 have HR:=Lib.hid hR
 clear hv hm hwa hmwa hgwa hva hho hR hzwa hll
 go_enter Tryz.func61,Tryz.ntmps61
 go_wp2_with (first|(rw [show w.alloc _=wa from Hwa.out])|fail)
 refine Hho.out.mono ?_
 rintro e w1 ⟨rfl,hm1⟩
 have hm01:=Hmwa.out.trans hm1 (fun _ _ h=>h)
 have hg1:=hm1.heap Hgwa.out (fun h=>h)
 have Hm01:=Lib.hid hm01
 have Hg1:=Lib.hid hg1
 clear hm01 hg1 hm1 Hho
 cases hh:homeOf l tenant who with
 |none=>
  have Hh:=Lib.hid hh
  clear hh
  go_wp2
  go_ret
  refine ⟨?_,Hm01.out⟩
  rw [←HR.out,Hh.out]
  rfl
 |some h0=>
 have hR2:(l.any fun r=>r.of 2 tenant who&&m r)=R:=by rw [←HR.out,hh];rfl
 have HR2:=Lib.hid hR2
 clear hR2 hh HR
 go_wp2_with fail
 go_loopw [24] (fun i wr=>∃j:Nat,i= .int .i64 j∧j≤l.length∧Mod (fun _=>False) w1 wr∧(∀(k:Nat) (x:Ru),k<j→l[k]? =some x→(x.of 2 tenant who&&m x)=false)) (fun i _=>l.length - (intOf i).toNat)
 case atStart=>exact ⟨0,rfl,Nat.zero_le _,Mod.refl _ _,fun k x hk=>by omega⟩
 case round=>
  obtain ⟨j,rfl,hj,hmr,hall⟩:=hrel
  by_cases hlt:j<l.length
  ·have hlt':(j:Int)<l.length:=by omega
   obtain ⟨x,hxj⟩:∃x,l[j]? =some x:=⟨_,List.getElem?_eq_getElem hlt⟩
   have hxm:=List.mem_of_getElem? hxj
   have hm0r:=Hm01.out.trans hmr (fun _ _ h=>h)
   obtain ⟨g,off,rfl,hf⟩:∃g off,a=some ⟨g,off,none⟩∧CellsAt wr g (off+j*8) x.cells:=rd_rule (Hv.out.mod hm0r) hxj
   obtain ⟨wz,hwz,hmwz,hgwz,hzwz⟩:=allocE wr (.cells x.cells.toArray 35)
   have hm0z:=hm0r.trans hmwz (fun _ _ h=>h)
   have hof:=of_at x 2 tenant who wz
   have hlz:wr.heap.size<wz.heap.size:=by omega
   have Hmr:=Lib.hid hmr
   have Hall:=Lib.hid hall
   have Hxj:=Lib.hid hxj
   have Hxm:=Lib.hid hxm
   have Hm0r:=Lib.hid hm0r
   have Hf:=Lib.hid hf
   have Hwz:=Lib.hid hwz
   have Hmwz:=Lib.hid hmwz
   have Hgwz:=Lib.hid hgwz
   have Hm0z:=Lib.hid hm0z
   have Hof:=Lib.hid hof
   clear hmr hall hxj hxm hm0r hf hwz hmwz hgwz hm0z hof hzwz
   go_wp2_with (first|((with_reducible refine wpList_load_lit 35 (.tmp 26) ?_);refine ⟨g,off+j*8,rfl,x.cells,Hf.out,by kernel_rfl,by kernel_rfl, ?_⟩)|((with_reducible refine wpList_store_lit 35 (.tmp 12) (.tmp 27) ?_);refine ⟨rfl,x.cells,rfl,rfl,by kernel_rfl,rfl, ?_⟩;rw [Hwz.out])|((with_reducible refine wpList_load_lit 35 (.tmp 12) ?_);refine ⟨wr.heap.size,0,rfl,x.cells,CellsAt.row Hgwz.out,by kernel_rfl,by kernel_rfl, ?_⟩)|fail)
   refine Hof.out.mono ?_
   rintro e w3 ⟨rfl,hm3⟩
   have hm03:=Hm0z.out.trans hm3 (fun _ _ h=>h)
   have hm13:=(Hmr.out.trans Hmwz.out (fun _ _ h=>h)).trans hm3 (fun _ _ h=>h)
   have hg3:=hm3.heap Hgwz.out (fun h=>h)
   have he3:=hm13.heap Hg1.out (fun h=>h)
   have b4:w3.cell? ⟨wr.heap.size,4,none⟩=some (.string x.sc):=cell_of hg3 rfl
   have b5:w3.cell? ⟨wr.heap.size,5,none⟩=some (.slice x.ca x.cs.length x.cc):=cell_of hg3 rfl
   have e0:w3.cell? ⟨w.heap.size,0,none⟩=some (.string es):=cell_of he3 rfl
   have e1:w3.cell? ⟨w.heap.size,1,none⟩=some (.slice ea en ec):=cell_of he3 rfl
   have hmt:=Hm.out x Hxm.out w3 hm03
   have Hm03:=Lib.hid hm03
   have Hm13:=Lib.hid hm13
   have Hmt:=Lib.hid hmt
   clear hm03 hm13 hmt hm3 hg3 he3
   cases hs:x.of 2 tenant who with
   | false=>
    have Hs:=Lib.hid hs
    clear hs
    go_wp2_with fail
    go_roundw
    case rel=>
     refine ⟨j+1,by go_num,hlt,Hm13.out,fun k x' hk hx'=> ?_⟩
     rcases Nat.lt_succ_iff_lt_or_eq.1 hk with hk|rfl
     ·exact Hall.out k x' hk hx'
     ·rw [Hxj.out] at hx';cases hx';rw [Hs.out];rfl
    case measure=>simp [intOf];omega
   | true=>
    have Hs:=Lib.hid hs
    have Hmt:=Lib.hid (Hmt.out hs)
    clear hs
    go_wp2_with fail
    refine Hmt.out.mono ?_
    rintro e w4 ⟨rfl,hm4⟩
    have hm04:=Hm03.out.trans hm4 (fun _ _ h=>h)
    have hm14:=Hm13.out.trans hm4 (fun _ _ h=>h)
    have Hm04:=Lib.hid hm04
    have Hm14:=Lib.hid hm14
    clear hm04 hm14 hm4 b4 b5 e0 e1
    cases ht:m x with
    | false=>
     have Ht:=Lib.hid ht
     clear ht
     go_wp2_with fail
     go_roundw
     case rel=>
      refine ⟨j+1,by go_num,hlt,Hm14.out,fun k x' hk hx'=> ?_⟩
      rcases Nat.lt_succ_iff_lt_or_eq.1 hk with hk|rfl
      ·exact Hall.out k x' hk hx'
      ·rw [Hxj.out] at hx';cases hx';rw [Hs.out,Ht.out];rfl
     case measure=>simp [intOf];omega
    |true=>
     have Ht:=Lib.hid ht
     clear ht
     go_wp2
     go_ret
     refine ⟨?_,Hm04.out⟩
     rw [←HR2.out,List.any_eq_true.2 ⟨x,Hxm.out,by rw [Hs.out,Ht.out];rfl⟩]
     rfl
  ·obtain rfl:j=l.length:=by omega
   have hm0r:=Hm01.out.trans hmr (fun _ _ h=>h)
   have hf:R=false:=by
    rw [←HR2.out,List.any_eq_false.2 fun x hx=>by
     obtain ⟨k,hk⟩:=List.mem_iff_getElem?.1 hx
     rw [hall k x (List.getElem?_eq_some_iff.1 hk).1 hk]
     decide]
   have Hm0r:=Lib.hid hm0r
   have Hf:=Lib.hid hf
   clear hm0r hf hmr hall
   go_wp2
   go_ret
   refine ⟨?_,Hm0r.out⟩
   rw [Hf.out]
   rfl
def Ru.rightB (r:Ru):Bool:=
 if r.kind=4 then decide (0≤r.at_) else
 if r.kind<0∨4<r.kind∨r.tenant<0∨4≤r.tenant∨isName r.who=false then false else
 if r.kind=0 then decide (0≤r.broker)&&decide (r.broker<6) else
 if r.kind=3 then isName r.name&&scRight r.sc else filRight r.sc r.cs
theorem acl_right (r:Ru) (w:World) (h:r.ok w):Calls Tryz.prog 84 #[.agg r.cells.toArray] w fun e w'=>e= .returned (.bool r.rightB)∧Mod (fun _=>False) w w':=by
 obtain ⟨wa,hwa,hmwa,hgwa,hzwa⟩:=allocE w (.cells r.cells.toArray 35)
 have c0:wa.cell? ⟨w.heap.size,0,none⟩=some (.int .i64 r.kind):=cell_of hgwa rfl
 have c1:wa.cell? ⟨w.heap.size,1,none⟩=some (.int .i64 r.tenant):=cell_of hgwa rfl
 have c2:wa.cell? ⟨w.heap.size,2,none⟩=some (.string r.who):=cell_of hgwa rfl
 have c3:wa.cell? ⟨w.heap.size,3,none⟩=some (.int .i64 r.broker):=cell_of hgwa rfl
 have c4:wa.cell? ⟨w.heap.size,4,none⟩=some (.string r.sc):=cell_of hgwa rfl
 have c5:wa.cell? ⟨w.heap.size,5,none⟩=some (.slice r.ca r.cs.length r.cc):=cell_of hgwa rfl
 have c6:wa.cell? ⟨w.heap.size,6,none⟩=some (.string r.name):=cell_of hgwa rfl
 have c7:wa.cell? ⟨w.heap.size,7,none⟩=some (.int .i64 r.at_):=cell_of hgwa rfl
 have hnw:=name_at r.who (by have:=h.who;omega) wa
 have hnn:=name_at r.name (by have:=h.name;omega) wa
 have hsr:=scope_right r.sc (by have:=h.sc;omega) wa
 have hfr:=filter_right wa r.sc r.cv r.cs (h.rd.mod hmwa (fun _ _ h=>h)) (by have:=h.len;omega) (by have:=h.sc;omega) (fun c hc=>by have:=(h.cname c hc).1;omega)
 have hRd:r.rightB=r.rightB:=rfl
 conv at hRd=>rhs;unfold Ru.rightB
 obtain ⟨R,hR⟩:∃R,r.rightB=R:=⟨_,rfl⟩
 rw [hR] at hRd⊢
 have Hwa:=Lib.hid hwa
 have Hmwa:=Lib.hid hmwa
 have Hnw:=Lib.hid hnw
 have Hnn:=Lib.hid hnn
 have Hsr:=Lib.hid hsr
 have Hfr:=Lib.hid hfr
 have HRd:=Lib.hid hRd
 clear hwa hmwa hnw hnn hsr hfr hRd hgwa hzwa h hR
 cases hk4:r.kind==4 with
 |true=>
  have e:R=decide (0≤r.at_):=by rw [HRd.out,if_pos (beq_iff_eq.1 hk4)]
  rw [e]
  go_enter Tryz.func84,Tryz.ntmps84
  go_wp2_with (first|(rw [show w.alloc _=wa from Hwa.out])|fail)
  go_ret
  exact ⟨rfl,Hmwa.out⟩
 |false=>
 have hk4':¬r.kind=4:=by simpa using hk4
 have e4:R=_:=HRd.out.trans (if_neg hk4')
 have E4:=Lib.hid e4
 clear e4 hk4'
 by_cases h1:r.kind<0
 ·have e:R=false:=by rw [E4.out,if_pos (.inl h1)]
  rw [e]
  go_enter Tryz.func84,Tryz.ntmps84
  go_wp2_with (first|(rw [show w.alloc _=wa from Hwa.out])|fail)
  go_ret
  exact ⟨rfl,Hmwa.out⟩
 by_cases h2:4<r.kind
 ·have e:R=false:=by rw [E4.out,if_pos (.inr (.inl h2))]
  rw [e]
  go_enter Tryz.func84,Tryz.ntmps84
  go_wp2_with (first|(rw [show w.alloc _=wa from Hwa.out])|fail)
  go_ret
  exact ⟨rfl,Hmwa.out⟩
 by_cases h3:r.tenant<0
 ·have e:R=false:=by rw [E4.out,if_pos (.inr (.inr (.inl h3)))]
  rw [e]
  go_enter Tryz.func84,Tryz.ntmps84
  go_wp2_with (first|(rw [show w.alloc _=wa from Hwa.out])|fail)
  go_ret
  exact ⟨rfl,Hmwa.out⟩
 by_cases h4:4≤r.tenant
 ·have e:R=false:=by rw [E4.out,if_pos (.inr (.inr (.inr (.inl h4))))]
  rw [e]
  go_enter Tryz.func84,Tryz.ntmps84
  go_wp2_with (first|(rw [show w.alloc _=wa from Hwa.out])|fail)
  go_ret
  exact ⟨rfl,Hmwa.out⟩
 have h1':0≤r.kind:=by omega
 have h2':r.kind≤4:=by omega
 have h3':0≤r.tenant:=by omega
 have h4':r.tenant<4:=by omega
 cases hn:isName r.who with
 |false=>
  have e:R=false:=by rw [E4.out,if_pos (.inr (.inr (.inr (.inr hn))))]
  rw [e]
  rw [hn] at Hnw
  clear hn h1 h2 h3 h4 e
  go_enter Tryz.func84,Tryz.ntmps84
  go_wp2_with (first|(rw [show w.alloc _=wa from Hwa.out])|fail)
  refine Hnw.out.mono ?_
  rintro e w' ⟨rfl,rfl⟩
  go_wp2
  go_ret
  exact ⟨rfl,Hmwa.out⟩
 |true=>
 have hno:¬(r.kind<0∨4<r.kind∨r.tenant<0∨4≤r.tenant∨isName r.who=false):=by
  rintro (h|h|h|h|h)
  ·exact h1 h
  ·exact h2 h
  ·exact h3 h
  ·exact h4 h
  ·rw [hn] at h;cases h
 have e5:R=_:=E4.out.trans (if_neg hno)
 rw [hn] at Hnw
 have E5:=Lib.hid e5
 clear hn e5 hno h1 h2 h3 h4
 cases hk0:r.kind==0 with
 | true=>
  have e:R=(decide (0≤r.broker)&&decide (r.broker<6)):=by rw [E5.out,if_pos (beq_iff_eq.1 hk0)]
  rw [e]
  clear e
  by_cases hb:0≤r.broker
  ·rw [decide_eq_true hb,Bool.true_and]
   go_enter Tryz.func84,Tryz.ntmps84
   go_wp2_with (first|(rw [show w.alloc _=wa from Hwa.out])|fail)
   refine Hnw.out.mono ?_
   rintro e w' ⟨rfl,rfl⟩
   go_wp2
   go_ret
   exact ⟨rfl,Hmwa.out⟩
  ·have hb':r.broker<0:=by omega
   rw [decide_eq_false hb,Bool.false_and]
   clear hb
   go_enter Tryz.func84,Tryz.ntmps84
   go_wp2_with (first|(rw [show w.alloc _=wa from Hwa.out])|fail)
   refine Hnw.out.mono ?_
   rintro e w' ⟨rfl,rfl⟩
   go_wp2
   go_ret
   exact ⟨rfl,Hmwa.out⟩
 |false=>
 have hk0':¬r.kind=0:=by simpa using hk0
 have e6:R=_:=E5.out.trans (if_neg hk0')
 have E6:=Lib.hid e6
 clear e6 hk0'
 cases hk3:r.kind==3 with
 | true=>
  have e:R=(isName r.name&&scRight r.sc):=by rw [E6.out,if_pos (beq_iff_eq.1 hk3)]
  rw [e]
  clear e
  cases hn:isName r.name with
  |false=>
   rw [hn] at Hnn
   rw [Bool.false_and]
   clear hn
   go_enter Tryz.func84,Tryz.ntmps84
   go_wp2_with (first|(rw [show w.alloc _=wa from Hwa.out])|fail)
   refine Hnw.out.mono ?_
   rintro e w' ⟨rfl,rfl⟩
   go_wp2_with fail
   refine Hnn.out.mono ?_
   rintro e w' ⟨rfl,rfl⟩
   go_wp2
   go_ret
   exact ⟨rfl,Hmwa.out⟩
  |true=>
   rw [hn] at Hnn
   rw [Bool.true_and]
   clear hn
   go_enter Tryz.func84,Tryz.ntmps84
   go_wp2_with (first|(rw [show w.alloc _=wa from Hwa.out])|fail)
   refine Hnw.out.mono ?_
   rintro e w' ⟨rfl,rfl⟩
   go_wp2_with fail
   refine Hnn.out.mono ?_
   rintro e w' ⟨rfl,rfl⟩
   go_wp2_with fail
   refine Hsr.out.mono ?_
   rintro e w2 ⟨rfl,hm2⟩
   have Hm2:=Lib.hid (Hmwa.out.trans hm2 (fun _ _ h=>h))
   clear hm2
   go_wp2
   go_ret
   exact ⟨rfl,Hm2.out⟩
 |false=>
  have hk3':¬r.kind=3:=by simpa using hk3
  have e:R=filRight r.sc r.cs:=by rw [E6.out,if_neg hk3']
  rw [e]
  clear e hk3'
  go_enter Tryz.func84,Tryz.ntmps84
  go_wp2_with (first|(rw [show w.alloc _=wa from Hwa.out])|fail)
  refine Hnw.out.mono ?_
  rintro e w' ⟨rfl,rfl⟩
  go_wp2_with fail
  refine Hfr.out.mono ?_
  rintro e w2 ⟨rfl,hm2⟩
  have Hm2:=Lib.hid (Hmwa.out.trans hm2 (fun _ _ h=>h))
  clear hm2
  go_wp2
  go_ret
  exact ⟨rfl,Hm2.out⟩
theorem filter_take {α:Type} (p:α→Bool) {l:List α} {j:Nat} {x:α} (h:l[j]? =some x):(l.take (j+1)).filter p=(l.take j).filter p++(if p x=true then [x] else []):=by
 rw [List.take_add_one,List.filter_append,h]
 congr 1
 simp only [Option.toList,List.filter_cons,List.filter_nil]
end
end Go.Proofs.YtaenebdppkjhoaaGreatDoor
