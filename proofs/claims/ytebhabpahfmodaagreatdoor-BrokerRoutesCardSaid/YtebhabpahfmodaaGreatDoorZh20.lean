/- Lemmas. -/
import Derived.Test.YtebhabpahfmodaaGreatDoorZh18
import Derived.Test.YtebhabpahfmodaaGreatDoorZh10
set_option maxHeartbeats 40000000
set_option maxRecDepth 20000
namespace Go.Proofs.YtebhabpahfmodaaGreatDoor
section
open Go.RowKit
theorem a6y:(match Tryz.prog.underlying 87 with|some (.struct _)=>true|some (.array _ _)=>true|_=>false)=true:=zk
theorem a1z {ρ:Operand->Value} {dst:Option Tmp} {x:Operand} {type:TypeId} {pos:String} {after:Array Edge} {guard:Option (Nat×Bool)} {w:World} (h:a6e w (ρ x) 7):
 Sem.run Tryz.prog (execOp ρ ⟨dst,.load 87 x,type,pos,after,guard⟩) w= .ok (.value (.agg (a0l w (ρ x) 7))) w:=I6 a6y a6Y h
theorem a2f (s top:ByteArray) (hs:s.size<=9223372036854775807) (hp:top.size<=9223372036854775807) (w:World):Calls Tryz.prog 39 #[.string s,.string top] w fun e w'=>e= .returned (.bool (m8 s top))/\w'=w:=by
 have hs':(s.size:Int)<=9223372036854775807:=zo
 have hp':(top.size:Int)<=9223372036854775807:=zo
 cases h1:top.toList.isEmpty with
 |true=>
  rw [show m8 s top=true by unfold m8;rw [h1];rfl];clear hs hp
  go_enter Tryz.func39,Tryz.ntmps39
  go_wp2
  go_ret;exact ⟨rfl,rfl⟩
 |false=>
 cases h2:s.toList==top.toList with
 |true=>
  rw [show m8 s top=true by unfold m8;rw [h1,h2];rfl];clear hs hp
  go_enter Tryz.func39,Tryz.ntmps39
  go_wp2
  go_ret;exact ⟨rfl,rfl⟩
 |false=>
 have hu:m8 s top=(C4 s top&&s.data.toList[top.size]? ==some 47):=by unfold m8;rw [h1,h2];rfl
 rw [hu];by_cases hlt:top.size<s.size
 ·have hlt':(top.size:Int)<s.size:=zo
  have ZK:(top.size:Int)<=s.size:=zo
  have hg:s.data.toList[top.size]? =some s[top.size]:=zz5 hlt
  have hb:(s.data.toList[top.size]? ==some 47)=((s[top.size].toNat:Int)==47):=by
   rw [hg,Bool.eq_iff_iff,beq_iff_eq,beq_iff_eq];constructor
   ·intro h;have h:=Option.some.inj h;rw [h];rfl
   intro h;congr 1;exact UInt8.toNat.inj (by have:(47:UInt8).toNat=47:=rfl;omega)
  have hpt:=a0F (s:=s) (p:=top);rw [hb,<-hpt];obtain ⟨T,hT⟩:∃T,((s.extract 0 top.size).toList==top.toList)=T:=⟨_,rfl⟩;rw [hT];clear hs hp hu hg hb hpt
  cases T with
  |false=>
   rw [Bool.false_and]
   go_enter Tryz.func39,Tryz.ntmps39
   go_wp2
   go_ret;exact ⟨rfl,rfl⟩
  |true=>
   rw [Bool.true_and]
   go_enter Tryz.func39,Tryz.ntmps39
   go_wp2
   go_ret;exact ⟨rfl,rfl⟩
 have hlt':(s.size:Int)<=top.size:=zo
 have hd:decide (top.size<s.size)=false:=decide_eq_false hlt;have hg:s.data.toList[top.size]? =none:=List.getElem?_eq_none (by show s.size<=_;omega);rw [hg,show ((none:Option UInt8)==some 47)=false from rfl,Bool.and_false];clear hs hp hu hg hlt
 go_enter Tryz.func39,Tryz.ntmps39
 go_wp2
 go_ret;exact ⟨rfl,rfl⟩
def o4 (c:Cnd) (l:List Att):Bool:=l.any fun a=>a.name.toList==c.name.toList&&c.holds a.v
attribute [local go_sem ↓] a1z
theorem a4S (w:World) (sc:ByteArray) (cv:Value) (cs:List Cnd) (hc:j3 w 7 cv cs.length (m5 cs)) (hcl:cs.length<=9223372036854775807) (hsc:sc.size<=9223372036854775807) (hct:∀c∈cs,c.v.text.size<=9223372036854775807)
 (es:ByteArray) (av:Value) (l:List Att) (hv:j3 w 6 av l.length (k7 l)) (hll:l.length<=1000000) (hes:es.size<=9223372036854775807) (ht:∀a∈l,a.v.text.size<=9223372036854775807):
 Calls Tryz.prog 16 #[.agg #[.string sc,cv],.agg #[.string es,av]] w fun e w'=>e= .returned (.bool (m8 es sc&&cs.all fun c=>o4 c l))/\Mod (fun _=>False) w w':=by
 obtain ⟨a,cap,rfl,hcap⟩:∃a c,cv= .slice a cs.length c/\cs.length<=c:=by obtain ⟨-,a,c,h,h2, -⟩:=hc;exact ⟨a,c,h,h2⟩
 obtain ⟨b,bcap,rfl,VK⟩:∃a c,av= .slice a l.length c/\l.length<=c:=by obtain ⟨-,a,c,h,h2, -⟩:=hv;exact ⟨a,c,h,h2⟩
 have hcl':(cs.length:Int)<=9223372036854775807:=zo
 have bN:(l.length:Int)<=1000000:=zo
 obtain ⟨wa,aD,ah,ae,au⟩:=g8 w (.cells #[.string sc,.slice a cs.length cap] 26);obtain ⟨wb,hwb,ay,ak,aO⟩:=g8 wa (.cells #[.string es,.slice b l.length bcap] 31);have hmb:=ah.trans ay zi;have hF:=ay.heap ae id;have f0:wb.cell? ⟨w.heap.size,0,none⟩=some (.string sc):=d6 hF rfl;have f1:wb.cell? ⟨w.heap.size,1,none⟩=some (.slice a cs.length cap):=d6 hF rfl;have e0:wb.cell? ⟨wa.heap.size,0,none⟩=some (.string es):=d6 ak rfl;have e1:wb.cell? ⟨wa.heap.size,1,none⟩=some (.slice b l.length bcap):=d6 ak rfl;have hun:=a2f es sc hes hsc wb;obtain ⟨R,hR⟩:∃R,(m8 es sc&&cs.all fun c=>o4 c l)=R:=⟨_,rfl⟩;rw [hR];have hqz:w.heap.size<wa.heap.size:=zo
 obtain ⟨Hc,Hv,uM,Ht,aF,bD,bW,HF,aT,uK,HR⟩:=zh11 hc hv hct ht aD hwb hmb hF ak hun hR;clear hc hv hct ht aD hwb hmb hF ak hun hR ah ay ae au aO hcl hll hsc hes
 go_enter Tryz.func16,Tryz.ntmps16
 go_wp2_with (first|(rw [show w.alloc _=wa from aF.out])|(rw [show wa.alloc _=wb from bD.out]))
 refine uK.out.mono ?_;rintro e w1 ⟨rfl,rfl⟩
 cases hu:m8 es sc with
 |false=>
  have Hu:=zh hu;clear hu
  go_wp2
  go_ret;exact ⟨j1 (by rw [<-HR.out,Hu.out];rfl),bW.out⟩
 |true=>
 have HR:=Lib.hid (show (cs.all fun c=>o4 c l)=R by rw [<-HR.out,hu];rfl);clear hu uK f0 f1 e0 e1
 go_wp2_with fail
 go_loopw [5] (fun i wr=>∃j:Nat,i= .int .i64 j/\j<=cs.length/\Mod (fun _=>False) w1 wr/\(∀(k:Nat) (x:Cnd),k<j->cs[k]? =some x->o4 x l=true)) (fun i _=>cs.length - (intOf i).toNat)
 case atStart=>exact ⟨0,rfl,Nat.zero_le _,Mod.refl _ _,fun k x hk=>zo⟩
 case round =>
  obtain ⟨wo,rfl⟩:∃wo:World,wo=wr:=⟨_,rfl⟩;obtain ⟨i,rfl,hi,hmr,hall⟩:=hrel;have Nz:=hmr.heap HF.out id;have f1:wo.cell? ⟨w.heap.size,1,none⟩=some (.slice a cs.length cap):=d6 Nz rfl;by_cases hlt:i<cs.length
  ·have hlt':(i:Int)<cs.length:=zo
   obtain ⟨c,hci⟩:∃x,cs[i]? =some x:=⟨_,zz5 hlt⟩;have hcm:=zz8 hci;have aU:=bW.out.trans hmr zi;obtain ⟨g,off,rfl,hcc⟩:∃g off,a=some ⟨g,off,none⟩/\e9 wo g (off+i*7) c.cells:=G9 (Hc.out.mod aU zi) hci;have hEr:=hmr.heap aT.out id;obtain ⟨aK,aM,PE,jY,PG,ZL,dw,ZM⟩:=zh8 hmr hall hci hcm hcc Nz aU hEr;clear hmr hall hci hcm hcc Nz aU hEr
   go_wp2_with fail
   go_loopw [6,7] (fun ok jv wr=>∃j:Nat,jv= .int .i64 j/\j<=l.length/\Mod (fun _=>False) wo wr/\ok= .bool (o4 c (l.take j))) (fun _ jv _=>l.length - (intOf jv).toNat)
   case atStart=>exact ⟨0,rfl,Nat.zero_le _,Mod.refl _ _,rfl⟩
   case round=>
    obtain ⟨j,rfl,hj,dJ,rfl⟩:=hrel;have hEq:=dJ.heap ZM.out id;have Bo:=dJ.heap ZL.out id;have e1:wr.cell? ⟨wa.heap.size,1,none⟩=some (.slice b l.length bcap):=d6 hEq rfl;by_cases hlj:j<l.length
    ·have PH:(j:Int)<l.length:=zo
     obtain ⟨x,hxj⟩:∃x,l[j]? =some x:=⟨_,zz5 hlj⟩;have qO:=dw.out.trans dJ zi;obtain ⟨ag,aoff,rfl,Np⟩:∃ag aoff,b=some ⟨ag,aoff,none⟩/\e9 wr ag (aoff+j*6) x.cells:=a3y (Hv.out.mod qO zi) hxj;have hcq:=PG.out.mod dJ id;have hh:=a4M c x.v (uM.out c jY.out) (Ht.out x (zz8 hxj))
     have hstep:o4 c (l.take (j+1))=(o4 c (l.take j)||(x.name.toList==c.name.toList&&c.holds x.v)):=by
      unfold o4;rw [List.take_add_one,List.any_append,hxj];simp
     have hf:∀w',Mod (fun _=>False) wr w'->w'.cell? ⟨wa.heap.size,1,none⟩=some (.slice (some ⟨ag,aoff,none⟩) l.length bcap)/\w'.cell? ⟨w.heap.size,1,none⟩=some (.slice (some ⟨g,off,none⟩) cs.length cap)/\
      w'.cell? ⟨ag,aoff+j*6,none⟩=some (.string x.name)/\l8 w' ag (aoff+j*6+1) 5/\cellsOf w' ag (aoff+j*6+1) 5=x.v.cells.toArray/\
      w'.cell? ⟨g,off+i*7,none⟩=some (.string c.name)/\l8 w' g (off+i*7) 7/\cellsOf w' g (off+i*7) 7=c.cells.toArray:=fun w' hw'=>by
      have hx2:=Np.mod hw' id;have hc2:=hcq.mod hw' id
      have hx3:e9 w' ag (aoff+j*6+1) x.v.cells:=fun q u hu=>by
       have:=hx2 (q+1) u (by simpa [Att.cells] using hu);rw [show aoff+j*6+1+q=aoff+j*6+(q+1) by omega];exact this
      exact ⟨d6 (hw'.heap hEq id) rfl,d6 (hw'.heap Bo id) rfl,hx2 0 _ rfl,hx3.all rfl,hx3.is rfl,hc2 0 _ rfl,hc2.all rfl,hc2.is rfl⟩
     have Bp:∀w',Mod (fun _=>False) wr w'->Calls Tryz.prog 48 #[.agg c.cells.toArray,.agg x.v.cells.toArray] w' fun e w''=>e= .returned (.bool (c.holds x.v))/\Mod (fun _=>False) wr w'':=
      fun w' hw'=>(hh w').mono fun e w'' h=>⟨h.1,hw'.trans h.2 zi⟩
     obtain ⟨acc,hacc⟩:∃q,o4 c (l.take j)=q:=⟨_,rfl⟩;obtain ⟨H,hH⟩:∃q,c.holds x.v=q:=⟨_,rfl⟩;rw [hacc,hH] at hstep;rw [hacc];rw [hH] at Bp;obtain ⟨kG,cB,Hxc,ZN,Hf,EZ,bQ⟩:=zh7 dJ hxj Np hcq hf Bp hstep;clear dJ hxj Np hcq hf Bp hstep Bo hEq qO hacc hH hh
     cases hnm:x.name.toList==c.name.toList with
     | false=>
      have bQ:=Lib.hid (show o4 c (l.take (j+1))=acc by rw [bQ.out,hnm,Bool.false_and,Bool.or_false])
      go_wp2_with fail
      refine i7 zk zk ?_
      iterate 27 (first
       | (refine j6 ?_ (fun K hK=> ?_)
          ·first|(go_simp;done)|(go_simp;simp [undef];done)
          go_simp;refine hK _ ?_;clear hK K)
       | (refine j7 ?_ ?_ (fun w' hw'=> ?_) (fun K hK=> ?_)
          ·first|(go_simp;done)|(go_simp;simp [undef];done)
          rotate_left
          ·obtain ⟨f1,f2,f3,f4,f5,f6,f7,f8⟩:=Hf.out w' hw';go_simp;rfl
          go_simp;refine hK _ ?_;clear hK K)
       | (refine m9 ?_ ?_ ?_ ?_ (fun w' hw'=> ?_) ?_ (fun K hK=> ?_)
          ·first|(go_simp;done)|(go_simp;simp [undef];done)
          rotate_left 3
          ·obtain ⟨f1,f2,f3,f4,f5,f6,f7,f8⟩:=Hf.out w' hw';go_simp;constructor<;>rfl
          ·first|exact EZ.out
          go_simp;refine hK _ ?_;clear hK K))
      refine j8 (fun w' hw'=> ?_);have bS:=Lib.hid (kG.out.trans hw' zi);clear hw' hnm
      go_wp2_with fail
      go_roundw
      case rel=>exact ⟨j+1,by go_num,hlj,bS.out,by rw [bQ.out]⟩
      case measure=>simp [intOf];omega
     | true =>
      have bQ:=Lib.hid (show o4 c (l.take (j+1))=(acc||H) by rw [bQ.out,hnm,Bool.true_and])
      cases H with
      | false=>
       have bQ:=Lib.hid (show o4 c (l.take (j+1))=acc by rw [bQ.out,Bool.or_false])
       go_wp2_with fail
       refine i7 zk zk ?_
       iterate 27 (first
        | (refine j6 ?_ (fun K hK=> ?_)
           ·first|(go_simp;done)|(go_simp;simp [undef];done)
           go_simp;refine hK _ ?_;clear hK K)
        | (refine j7 ?_ ?_ (fun w' hw'=> ?_) (fun K hK=> ?_)
           ·first|(go_simp;done)|(go_simp;simp [undef];done)
           rotate_left
           ·obtain ⟨f1,f2,f3,f4,f5,f6,f7,f8⟩:=Hf.out w' hw';go_simp;rfl
           go_simp;refine hK _ ?_;clear hK K)
        | (refine m9 ?_ ?_ ?_ ?_ (fun w' hw'=> ?_) ?_ (fun K hK=> ?_)
           ·first|(go_simp;done)|(go_simp;simp [undef];done)
           rotate_left 3
           ·obtain ⟨f1,f2,f3,f4,f5,f6,f7,f8⟩:=Hf.out w' hw';go_simp;constructor<;>rfl
           ·first|exact EZ.out
           go_simp;refine hK _ ?_;clear hK K))
       refine j8 (fun w' hw'=> ?_);have bS:=Lib.hid (kG.out.trans hw' zi);clear hw' hnm
       go_wp2_with fail
       go_roundw
       case rel=>exact ⟨j+1,by go_num,hlj,bS.out,by rw [bQ.out]⟩
       case measure=>simp [intOf];omega
      |true=>
       have bQ:=Lib.hid (show o4 c (l.take (j+1))=true by rw [bQ.out,Bool.or_true])
       go_wp2_with fail
       refine i7 zk zk ?_
       iterate 27 (first
        | (refine j6 ?_ (fun K hK=> ?_)
           ·first|(go_simp;done)|(go_simp;simp [undef];done)
           go_simp;refine hK _ ?_;clear hK K)
        | (refine j7 ?_ ?_ (fun w' hw'=> ?_) (fun K hK=> ?_)
           ·first|(go_simp;done)|(go_simp;simp [undef];done)
           rotate_left
           ·obtain ⟨f1,f2,f3,f4,f5,f6,f7,f8⟩:=Hf.out w' hw';go_simp;rfl
           go_simp;refine hK _ ?_;clear hK K)
        | (refine m9 ?_ ?_ ?_ ?_ (fun w' hw'=> ?_) ?_ (fun K hK=> ?_)
           ·first|(go_simp;done)|(go_simp;simp [undef];done)
           rotate_left 3
           ·obtain ⟨f1,f2,f3,f4,f5,f6,f7,f8⟩:=Hf.out w' hw';go_simp;constructor<;>rfl
           ·first|exact EZ.out
           go_simp;refine hK _ ?_;clear hK K))
       refine j8 (fun w' hw'=> ?_);have bS:=Lib.hid (kG.out.trans hw' zi);clear hw' hnm
       go_wp2_with fail
       go_roundw
       case rel=>exact ⟨j+1,by go_num,hlj,bS.out,by rw [bQ.out]⟩
       case measure=>simp [intOf];omega
    obtain rfl:j=l.length:=zo
    rw [List.take_length];have qP:=aK.out.trans dJ zi;obtain ⟨acc,hacc⟩:∃q,o4 c l=q:=⟨_,rfl⟩;rw [hacc];obtain ⟨qQ,kH⟩:=zh2 qP hacc;clear qP hacc dJ Bo hEq
    cases acc with
    | true=>
     go_wp2_with fail
     go_roundw
     case rel=>
      refine ⟨i+1,by go_num,hlt,qQ.out,fun k x' hk hx'=> ?_⟩;rcases Nat.lt_succ_iff_lt_or_eq.1 hk with hk|rfl
      ·exact aM.out k x' hk hx'
      rw [PE.out] at hx';cases hx';exact kH.out
     case measure=>simp [intOf];omega
    |false=>
     go_wp2
     go_ret;exact ⟨j1 (by rw [<-HR.out,List.all_eq_false.2 ⟨c,jY.out,by rw [kH.out];decide⟩]),bW.out.trans qQ.out zi⟩
  obtain rfl:i=cs.length:=zo
  have hfr:R=true:=by
   rw [<-HR.out,List.all_eq_true.2 fun x hx=>by
    obtain ⟨k,hk⟩:=List.mem_iff_getElem?.1 hx
    exact hall k x (zz6 hk).1 hk]
  have hm2:=bW.out.trans hmr zi;obtain ⟨bB,bq⟩:=zh2 hfr hm2;clear hfr hm2 hall hmr Nz
  go_wp2
  go_ret;exact ⟨j1 bB.out,bq.out⟩
end
section
open Go.RowKit
attribute [local go_sem ↓] a1z
theorem a72 (w:World) (sc:ByteArray) (cv:Value) (l:List Cnd) (hv:j3 w 7 cv l.length (m5 l)) (hll:l.length<=1000000) (hsc:sc.size<=9223372036854775807) (GL:∀c∈l,c.v.text.size<=9223372036854775807)
 (gs:ByteArray) (gv:Value) (m:List Cnd) (hg:j3 w 7 gv m.length (m5 m)) (jX:m.length<=1000000) (hgs:gs.size<=9223372036854775807) (GM:∀c∈m,c.v.text.size<=9223372036854775807):
 Calls Tryz.prog 41 #[.agg #[.string sc,cv],.agg #[.string gs,gv]] w fun e w'=>e= .returned (.bool (m.any Cnd.voidB||(l.all (fun c=>m.any fun d=>J2 d c)&&m8 gs sc)))/\Mod (fun _=>False) w w':=by
 obtain ⟨a,cap,rfl,hcap⟩:∃a c,cv= .slice a l.length c/\l.length<=c:=by obtain ⟨-,a,c,h,h2, -⟩:=hv;exact ⟨a,c,h,h2⟩
 obtain ⟨ga,gcap,rfl,Gh⟩:∃a c,gv= .slice a m.length c/\m.length<=c:=by obtain ⟨-,a,c,h,h2, -⟩:=hg;exact ⟨a,c,h,h2⟩
 have bN:(l.length:Int)<=1000000:=zo
 have PI:(m.length:Int)<=1000000:=zo
 obtain ⟨wa,aD,ah,ae,au⟩:=g8 w (.cells #[.string sc,.slice a l.length cap] 26);obtain ⟨wb,hwb,ay,ak,aO⟩:=g8 wa (.cells #[.string gs,.slice ga m.length gcap] 26);have hmb:=ah.trans ay zi;have hF:=ay.heap ae id;obtain ⟨R,hR⟩:∃R,(m.any Cnd.voidB||(l.all (fun c=>m.any fun d=>J2 d c)&&m8 gs sc))=R:=⟨_,rfl⟩;rw [hR];have hqz:w.heap.size<wa.heap.size:=zo
 obtain ⟨Hv,Hg,PK,PL,aF,bD,bW,HF,aT,HR,Gf,AC⟩:=zh12 hv hg GL GM aD hwb hmb hF ak hR hsc hgs;clear hv hg GL GM aD hwb hmb hF ak hR hsc hgs ah ay ae au aO hll jX
 go_enter Tryz.func41,Tryz.ntmps41
 go_wp2_with (first|(rw [show w.alloc _=wa from aF.out])|(rw [show wa.alloc _=wb from bD.out]))
 go_loopw [5] (fun i wr=>∃j:Nat,i= .int .i64 j/\j<=m.length/\Mod (fun _=>False) wb wr/\(∀(k:Nat) (x:Cnd),k<j->m[k]? =some x->x.voidB=false)) (fun i _=>m.length - (intOf i).toNat)
 case atStart=>exact ⟨0,rfl,Nat.zero_le _,Mod.refl _ _,fun k x hk=>zo⟩
 case round =>
  obtain ⟨wo,rfl⟩:∃wo:World,wo=wr:=⟨_,rfl⟩;obtain ⟨i,rfl,hi,hmr,hall⟩:=hrel;have NA:=hmr.heap aT.out id;have g1:wo.cell? ⟨wa.heap.size,1,none⟩=some (.slice ga m.length gcap):=d6 NA rfl;by_cases hlt:i<m.length
  ·have hlt':(i:Int)<m.length:=zo
   obtain ⟨d,hdi⟩:∃x,m[i]? =some x:=⟨_,zz5 hlt⟩;have uW:=zz8 hdi;have aU:=bW.out.trans hmr zi;obtain ⟨g,off,rfl,Fe⟩:∃g off,ga=some ⟨g,off,none⟩/\e9 wo g (off+i*7) d.cells:=G9 (Hg.out.mod aU zi) hdi;have hvd:=a18 d wo;obtain ⟨aK,aM,ZO,PM,VL,AB,dw⟩:=zh7 hmr hall hdi uW Fe hvd aU;clear hmr hall hdi uW Fe hvd aU NA
   go_wp2_with ((with_reducible refine d8 87 (.tmp 19) ?_);refine ⟨g,off+i*7,rfl,d.cells,VL.out,zk,zk, ?_⟩)
   refine AB.out.mono ?_;rintro e w3 ⟨rfl,aC⟩;have aC:=aK.out.trans aC zi;have VM:=zh aC;clear aC g1
   cases hs:d.voidB with
   |true=>
    have Hs:=zh hs;clear hs
    go_wp2
    go_ret;exact ⟨j1 (by rw [<-HR.out,List.any_eq_true.2 ⟨d,PM.out,Hs.out⟩,Bool.true_or]),bW.out.trans VM.out zi⟩
   | false=>
    have Hs:=zh hs;clear hs
    go_wp2_with fail
    go_roundw
    case rel=>
     refine ⟨i+1,by go_num,hlt,VM.out,fun k x' hk hx'=> ?_⟩;rcases Nat.lt_succ_iff_lt_or_eq.1 hk with hk|rfl
     ·exact aM.out k x' hk hx'
     rw [ZO.out] at hx';cases hx';exact Hs.out
    case measure=>simp [intOf];omega
  obtain rfl:i=m.length:=zo
  have HR:=Lib.hid (show (l.all (fun c=>m.any fun d=>J2 d c)&&m8 gs sc)=R by
   rw [<-HR.out,List.any_eq_false.2 fun x hx=>by
    obtain ⟨k,hk⟩:=List.mem_iff_getElem?.1 hx;rw [hall k x (zz6 hk).1 hk]
    decide]
   rfl)
  have GN:=bW.out.trans hmr zi;have VN:=hmr.heap HF.out id;obtain ⟨GQ,ZP,ZQ⟩:=zh3 GN VN NA;clear GN VN NA hmr hall
  go_wp2_with fail
  clear g1
  go_loopw [6] (fun i wr=>∃j:Nat,i= .int .i64 j/\j<=l.length/\Mod (fun _=>False) wo wr/\(∀(k:Nat) (x:Cnd),k<j->l[k]? =some x->(m.any fun d=>J2 d x)=true)) (fun i _=>l.length - (intOf i).toNat)
  case atStart=>exact ⟨0,rfl,Nat.zero_le _,Mod.refl _ _,fun k x hk=>zo⟩
  case round=>
   obtain ⟨wp,rfl⟩:∃wp:World,wp=wr:=⟨_,rfl⟩;obtain ⟨i,rfl,hi,hmp,hall⟩:=hrel;have GU:=hmp.heap ZP.out id;have NB:=hmp.heap ZQ.out id;have f1:wp.cell? ⟨w.heap.size,1,none⟩=some (.slice a l.length cap):=d6 GU rfl;have qR:=GQ.out.trans hmp zi;by_cases hlt:i<l.length
   ·have hlt':(i:Int)<l.length:=zo
    obtain ⟨c,hci⟩:∃x,l[i]? =some x:=⟨_,zz5 hlt⟩;have hcm:=zz8 hci;obtain ⟨g,off,rfl,hcc⟩:∃g off,a=some ⟨g,off,none⟩/\e9 wp g (off+i*7) c.cells:=G9 (Hv.out.mod qR zi) hci;obtain ⟨PN,aM,PE,jY,PG,ZR,ZT,Bq⟩:=zh8 hmp hall hci hcm hcc GU NB qR;clear hmp hall hci hcm hcc GU NB qR
    go_wp2_with fail
    go_loopw [7,8] (fun ok jv wq=>∃j:Nat,jv= .int .i64 j/\j<=m.length/\Mod (fun _=>False) wp wq/\ok= .bool ((m.take j).any fun d=>J2 d c)) (fun _ jv _=>m.length - (intOf jv).toNat)
    case atStart=>exact ⟨0,rfl,Nat.zero_le _,Mod.refl _ _,rfl⟩
    case round=>
     obtain ⟨j,rfl,hj,dJ,rfl⟩:=hrel;have NC:=dJ.heap ZT.out id;have Bo:=dJ.heap ZR.out id;have g1:wr.cell? ⟨wa.heap.size,1,none⟩=some (.slice ga m.length gcap):=d6 NC rfl;by_cases hlj:j<m.length
     ·have PH:(j:Int)<m.length:=zo
      obtain ⟨d,hdj⟩:∃x,m[j]? =some x:=⟨_,zz5 hlj⟩;have qO:=Bq.out.trans dJ zi;obtain ⟨dg,doff,rfl,Fe⟩:∃dg doff,ga=some ⟨dg,doff,none⟩/\e9 wr dg (doff+j*7) d.cells:=G9 (Hg.out.mod qO zi) hdj;have hcq:=PG.out.mod dJ id;have hh:=a6t d c (PL.out d (zz8 hdj)) (PK.out c jY.out)
      have hstep:((m.take (j+1)).any fun d=>J2 d c)=(((m.take j).any fun d=>J2 d c)||J2 d c):=by
       rw [List.take_add_one,List.any_append,hdj];simp
      have hf:∀w',Mod (fun _=>False) wr w'->w'.cell? ⟨wa.heap.size,1,none⟩=some (.slice (some ⟨dg,doff,none⟩) m.length gcap)/\w'.cell? ⟨w.heap.size,1,none⟩=some (.slice (some ⟨g,off,none⟩) l.length cap)/\
       l8 w' dg (doff+j*7) 7/\cellsOf w' dg (doff+j*7) 7=d.cells.toArray/\l8 w' g (off+i*7) 7/\cellsOf w' g (off+i*7) 7=c.cells.toArray:=fun w' hw'=>by
       have hd2:=Fe.mod hw' id;have hc2:=hcq.mod hw' id;exact ⟨d6 (hw'.heap NC id) rfl,d6 (hw'.heap Bo id) rfl,hd2.all rfl,hd2.is rfl,hc2.all rfl,hc2.is rfl⟩
      have Bp:∀w',Mod (fun _=>False) wr w'->Calls Tryz.prog 79 #[.agg d.cells.toArray,.agg c.cells.toArray] w' fun e w''=>e= .returned (.bool (J2 d c))/\Mod (fun _=>False) wr w'':=
       fun w' hw'=>(hh w').mono fun e w'' h=>⟨h.1,hw'.trans h.2 zi⟩
      obtain ⟨acc,hacc⟩:∃q,((m.take j).any fun d=>J2 d c)=q:=⟨_,rfl⟩;obtain ⟨H,hH⟩:∃q,J2 d c=q:=⟨_,rfl⟩;rw [hacc,hH] at hstep;rw [hacc];rw [hH] at Bp;obtain ⟨kG,Hdj,VL,ZN,Hf,EZ,bQ⟩:=zh7 dJ hdj Fe hcq hf Bp hstep;clear dJ hdj Fe hcq hf Bp hstep Bo NC qO hacc hH hh
      cases H with
      | false=>
       have bQ:=Lib.hid (show ((m.take (j+1)).any fun d=>J2 d c)=acc by rw [bQ.out,Bool.or_false])
       go_wp2_with fail
       refine i7 zk zk ?_
       iterate 11 (first
        | (refine j6 ?_ (fun K hK=> ?_)
           ·first|(go_simp;done)|(go_simp;simp [undef];done)
           go_simp;refine hK _ ?_;clear hK K)
        | (refine j7 ?_ ?_ (fun w' hw'=> ?_) (fun K hK=> ?_)
           ·first|(go_simp;done)|(go_simp;simp [undef];done)
           rotate_left
           ·obtain ⟨f1,f2,f3,f4,f5,f6⟩:=Hf.out w' hw';go_simp;rfl
           go_simp;refine hK _ ?_;clear hK K)
        | (refine m9 ?_ ?_ ?_ ?_ (fun w' hw'=> ?_) ?_ (fun K hK=> ?_)
           ·first|(go_simp;done)|(go_simp;simp [undef];done)
           rotate_left 3
           ·obtain ⟨f1,f2,f3,f4,f5,f6⟩:=Hf.out w' hw';go_simp;constructor<;>rfl
           ·first|exact EZ.out
           go_simp;refine hK _ ?_;clear hK K))
       refine j8 (fun w' hw'=> ?_);have bS:=Lib.hid (kG.out.trans hw' zi);clear hw'
       go_wp2_with fail
       go_roundw
       case rel=>exact ⟨j+1,by go_num,hlj,bS.out,by rw [bQ.out]⟩
       case measure=>simp [intOf];omega
      |true=>
       have bQ:=Lib.hid (show ((m.take (j+1)).any fun d=>J2 d c)=true by rw [bQ.out,Bool.or_true])
       go_wp2_with fail
       refine i7 zk zk ?_
       iterate 11 (first
        | (refine j6 ?_ (fun K hK=> ?_)
           ·first|(go_simp;done)|(go_simp;simp [undef];done)
           go_simp;refine hK _ ?_;clear hK K)
        | (refine j7 ?_ ?_ (fun w' hw'=> ?_) (fun K hK=> ?_)
           ·first|(go_simp;done)|(go_simp;simp [undef];done)
           rotate_left
           ·obtain ⟨f1,f2,f3,f4,f5,f6⟩:=Hf.out w' hw';go_simp;rfl
           go_simp;refine hK _ ?_;clear hK K)
        | (refine m9 ?_ ?_ ?_ ?_ (fun w' hw'=> ?_) ?_ (fun K hK=> ?_)
           ·first|(go_simp;done)|(go_simp;simp [undef];done)
           rotate_left 3
           ·obtain ⟨f1,f2,f3,f4,f5,f6⟩:=Hf.out w' hw';go_simp;constructor<;>rfl
           ·first|exact EZ.out
           go_simp;refine hK _ ?_;clear hK K))
       refine j8 (fun w' hw'=> ?_);have bS:=Lib.hid (kG.out.trans hw' zi);clear hw'
       go_wp2_with fail
       go_roundw
       case rel=>exact ⟨j+1,by go_num,hlj,bS.out,by rw [bQ.out]⟩
       case measure=>simp [intOf];omega
     obtain rfl:j=m.length:=zo
     rw [List.take_length];have qP:=PN.out.trans dJ zi;obtain ⟨acc,hacc⟩:∃q,(m.any fun d=>J2 d c)=q:=⟨_,rfl⟩;rw [hacc];obtain ⟨qQ,kH⟩:=zh2 qP hacc;clear qP hacc dJ Bo NC
     cases acc with
     | true=>
      go_wp2_with fail
      go_roundw
      case rel=>
       refine ⟨i+1,by go_num,hlt,qQ.out,fun k x' hk hx'=> ?_⟩;rcases Nat.lt_succ_iff_lt_or_eq.1 hk with hk|rfl
       ·exact aM.out k x' hk hx'
       rw [PE.out] at hx';cases hx';exact kH.out
      case measure=>simp [intOf];omega
     |false=>
      go_wp2
      go_ret;exact ⟨j1 (by rw [<-HR.out,List.all_eq_false.2 ⟨c,jY.out,by rw [kH.out];decide⟩];rfl),GQ.out.trans qQ.out zi⟩
   obtain rfl:i=l.length:=zo
   have c0:wp.cell? ⟨w.heap.size,0,none⟩=some (.string sc):=d6 GU rfl;have e0:wp.cell? ⟨wa.heap.size,0,none⟩=some (.string gs):=d6 NB rfl;have hun:=a2f gs sc AC.out Gf.out wp
   have hfr:R=m8 gs sc:=by
    rw [<-HR.out,List.all_eq_true.2 fun x hx=>by
     obtain ⟨k,hk⟩:=List.mem_iff_getElem?.1 hx
     exact hall k x (zz6 hk).1 hk,Bool.true_and]
   obtain ⟨uK,bB,Bq⟩:=zh3 hun hfr qR;clear hun hfr qR hmp hall GU NB
   go_wp2_with fail
   refine uK.out.mono ?_;rintro e w3 ⟨rfl,rfl⟩
   go_wp2
   go_ret;exact ⟨j1 bB.out,Bq.out⟩
end
end Go.Proofs.YtebhabpahfmodaaGreatDoor
