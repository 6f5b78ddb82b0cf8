/- Lemmas of this claim. -/
import Derived.Test.YtaenebdppkjhoaaGreatDoorZd24
namespace Go.Proofs.YtaenebdppkjhoaaGreatDoor
set_option maxRecDepth 20000
set_option maxHeartbeats 40000000
section
open Go.RowKit
theorem cond_struct:(match Tryz.prog.underlying 132 with|some (.struct _)=>true|some (.array _ _)=>true|_=>false)=true:=by kernel_rfl
theorem run_load_cnd {ρ:Operand→Value} {dst:Option Tmp} {x:Operand} {type:TypeId} {pos:String} {after:Array Edge} {guard:Option (Nat×Bool)} {w:World} (h:AllV w (ρ x) 7):
 Sem.run Tryz.prog (execOp ρ ⟨dst,.load 132 x,type,pos,after,guard⟩) w= .ok (.value (.agg (cellsV w (ρ x) 7))) w:=run_load_all cond_struct cnd_size h
theorem runder_at (s top:ByteArray) (hs:s.size≤9223372036854775807) (hp:top.size≤9223372036854775807) (w:World):Calls Tryz.prog 68 #[.string s,.string top] w fun e w'=>e= .returned (.bool (underB s top))∧w'=w:=by
 have hs':(s.size:Int)≤9223372036854775807:=by omega
 have hp':(top.size:Int)≤9223372036854775807:=by omega
 cases h1:top.toList.isEmpty with
 |true=>
  rw [show underB s top=true by unfold underB;rw [h1];rfl]
  clear hs hp
  go_enter Tryz.func68,Tryz.ntmps68
  go_wp2
  go_ret
  exact ⟨rfl,rfl⟩
 |false=>
 cases h2:s.toList==top.toList with
 |true=>
  rw [show underB s top=true by unfold underB;rw [h1,h2];rfl]
  clear hs hp
  go_enter Tryz.func68,Tryz.ntmps68
  go_wp2
  go_ret
  exact ⟨rfl,rfl⟩
 |false=>
 have hu:underB s top=(prefB s top&&s.data.toList[top.size]? ==some 47):=by unfold underB;rw [h1,h2];rfl
 rw [hu]
 by_cases hlt:top.size<s.size
 ·have hlt':(top.size:Int)<s.size:=by omega
  have hle':(top.size:Int)≤s.size:=by omega
  have hg:s.data.toList[top.size]? =some s[top.size]:=List.getElem?_eq_getElem hlt
  have hb:(s.data.toList[top.size]? ==some 47)=((s[top.size].toNat:Int)==47):=by
   rw [hg,Bool.eq_iff_iff,beq_iff_eq,beq_iff_eq]
   constructor
   ·intro h
    have h:=Option.some.inj h
    rw [h]
    rfl
   ·intro h
    congr 1
    exact UInt8.toNat.inj (by have:(47:UInt8).toNat=47:=rfl;omega)
  have hpt:=prefix_take (s:=s) (p:=top)
  rw [hb,←hpt]
  obtain ⟨T,hT⟩:∃T,((s.extract 0 top.size).toList==top.toList)=T:=⟨_,rfl⟩
  rw [hT]
  clear hs hp hu hg hb hpt
  cases T with
  |false=>
   rw [Bool.false_and]
   go_enter Tryz.func68,Tryz.ntmps68
   go_wp2
   go_ret
   exact ⟨rfl,rfl⟩
  |true=>
   rw [Bool.true_and]
   go_enter Tryz.func68,Tryz.ntmps68
   go_wp2
   go_ret
   exact ⟨rfl,rfl⟩
 ·have hlt':(s.size:Int)≤top.size:=by omega
  have hd:decide (top.size<s.size)=false:=decide_eq_false hlt
  have hg:s.data.toList[top.size]? =none:=List.getElem?_eq_none (by show s.size≤_;omega)
  rw [hg,show ((none:Option UInt8)==some 47)=false from rfl,Bool.and_false]
  clear hs hp hu hg hlt
  go_enter Tryz.func68,Tryz.ntmps68
  go_wp2
  go_ret
  exact ⟨rfl,rfl⟩
attribute [local go_sem ↓] run_load_cnd
end
section
open Go.RowKit
attribute [local go_sem ↓] run_load_cnd
theorem rcovers_at (w:World) (sc:ByteArray) (cv:Value) (l:List Cnd) (hv:RdSl w 7 cv l.length (cnds l)) (hll:l.length≤1000000) (hsc:sc.size≤9223372036854775807) (hlt0:∀c∈l,c.v.text.size≤9223372036854775807)
 (gs:ByteArray) (gv:Value) (m:List Cnd) (hg:RdSl w 7 gv m.length (cnds m)) (hml:m.length≤1000000) (hgs:gs.size≤9223372036854775807) (hmt0:∀c∈m,c.v.text.size≤9223372036854775807):
 Calls Tryz.prog 31 #[.agg #[.string sc,cv],.agg #[.string gs,gv]] w fun e w'=>e= .returned (.bool (m.any Cnd.voidB||(l.all (fun c=>m.any fun d=>rimpB d c)&&underB gs sc)))∧Mod (fun _=>False) w w':=by
 obtain ⟨a,cap,rfl,hcap⟩:∃a c,cv= .slice a l.length c∧l.length≤c:=by obtain ⟨-,a,c,h,h2, -⟩:=hv;exact ⟨a,c,h,h2⟩
 obtain ⟨ga,gcap,rfl,hgcap⟩:∃a c,gv= .slice a m.length c∧m.length≤c:=by obtain ⟨-,a,c,h,h2, -⟩:=hg;exact ⟨a,c,h,h2⟩
 have hll':(l.length:Int)≤1000000:=by omega
 have hml':(m.length:Int)≤1000000:=by omega
 obtain ⟨wa,hwa,hmwa,hgwa,hzwa⟩:=allocE w (.cells #[.string sc,.slice a l.length cap] 33)
 obtain ⟨wb,hwb,hmwb,hgwb,hzwb⟩:=allocE wa (.cells #[.string gs,.slice ga m.length gcap] 33)
 have hmb:=hmwa.trans hmwb (fun _ _ h=>h)
 have hF:=hmwb.heap hgwa (fun h=>h)
 obtain ⟨R,hR⟩:∃R,(m.any Cnd.voidB||(l.all (fun c=>m.any fun d=>rimpB d c)&&underB gs sc))=R:=⟨_,rfl⟩
 rw [hR]
 have hqz:w.heap.size<wa.heap.size:=by omega
 have Hv:=Lib.hid hv
 have Hg:=Lib.hid hg
 have Hlt0:=Lib.hid hlt0
 have Hmt0:=Lib.hid hmt0
 have Hwa:=Lib.hid hwa
 have Hwb:=Lib.hid hwb
 have Hmb:=Lib.hid hmb
 have HF:=Lib.hid hF
 have Hgwb:=Lib.hid hgwb
 have HR:=Lib.hid hR
 have Hsc:=Lib.hid hsc
 have Hgs:=Lib.hid hgs
 clear hv hg hlt0 hmt0 hwa hwb hmb hF hgwb hR hsc hgs hmwa hmwb hgwa hzwa hzwb hll hml
 go_enter Tryz.func31,Tryz.ntmps31
 go_wp2_with (first|(rw [show w.alloc _=wa from Hwa.out])|(rw [show wa.alloc _=wb from Hwb.out])|fail)
 go_loopw [5] (fun i wr=>∃j:Nat,i= .int .i64 j∧j≤m.length∧Mod (fun _=>False) wb wr∧(∀(k:Nat) (x:Cnd),k<j→m[k]? =some x→x.voidB=false)) (fun i _=>m.length - (intOf i).toNat)
 case atStart=>exact ⟨0,rfl,Nat.zero_le _,Mod.refl _ _,fun k x hk=>by omega⟩
 case round =>
  obtain ⟨wo,rfl⟩:∃wo:World,wo=wr:=⟨_,rfl⟩
  obtain ⟨i,rfl,hi,hmr,hall⟩:=hrel
  have hGr:=hmr.heap Hgwb.out (fun h=>h)
  have g1:wo.cell? ⟨wa.heap.size,1,none⟩=some (.slice ga m.length gcap):=cell_of hGr rfl
  by_cases hlt:i<m.length
  ·have hlt':(i:Int)<m.length:=by omega
   obtain ⟨d,hdi⟩:∃x,m[i]? =some x:=⟨_,List.getElem?_eq_getElem hlt⟩
   have hdm:=List.mem_of_getElem? hdi
   have hm0r:=Hmb.out.trans hmr (fun _ _ h=>h)
   obtain ⟨g,off,rfl,hdc⟩:∃g off,ga=some ⟨g,off,none⟩∧CellsAt wo g (off+i*7) d.cells:=rd_cnd (Hg.out.mod hm0r (fun _ _ h=>h)) hdi
   have hvd:=rcvoid_at d wo
   have Hmr:=Lib.hid hmr
   have Hall:=Lib.hid hall
   have Hdi:=Lib.hid hdi
   have Hdm:=Lib.hid hdm
   have Hdc:=Lib.hid hdc
   have Hvd:=Lib.hid hvd
   have Hm0r:=Lib.hid hm0r
   clear hmr hall hdi hdm hdc hvd hm0r hGr
   go_wp2_with (first|((with_reducible refine wpList_load_lit 132 (.tmp 19) ?_);refine ⟨g,off+i*7,rfl,d.cells,Hdc.out,by kernel_rfl,by kernel_rfl, ?_⟩)|fail)
   refine Hvd.out.mono ?_
   rintro e w3 ⟨rfl,hm3⟩
   have hm3:=Hmr.out.trans hm3 (fun _ _ h=>h)
   have HmR:=Lib.hid hm3
   clear hm3 g1
   cases hs:d.voidB with
   |true=>
    have Hs:=Lib.hid hs
    clear hs
    go_wp2
    go_ret
    exact ⟨ret_bool (by rw [←HR.out,List.any_eq_true.2 ⟨d,Hdm.out,Hs.out⟩,Bool.true_or]),Hmb.out.trans HmR.out (fun _ _ h=>h)⟩
   | false=>
    have Hs:=Lib.hid hs
    clear hs
    go_wp2_with fail
    go_roundw
    case rel=>
     refine ⟨i+1,by go_num,hlt,HmR.out,fun k x' hk hx'=> ?_⟩
     rcases Nat.lt_succ_iff_lt_or_eq.1 hk with hk|rfl
     ·exact Hall.out k x' hk hx'
     ·rw [Hdi.out] at hx';cases hx';exact Hs.out
    case measure=>simp [intOf];omega
  ·obtain rfl:i=m.length:=by omega
   have HR:=Lib.hid (show (l.all (fun c=>m.any fun d=>rimpB d c)&&underB gs sc)=R by
    rw [←HR.out,List.any_eq_false.2 fun x hx=>by
     obtain ⟨k,hk⟩:=List.mem_iff_getElem?.1 hx
     rw [hall k x (List.getElem?_eq_some_iff.1 hk).1 hk]
     decide]
    rfl)
   have hm0o:=Hmb.out.trans hmr (fun _ _ h=>h)
   have hFo:=hmr.heap HF.out (fun h=>h)
   have Hm0o:=Lib.hid hm0o
   have HFo:=Lib.hid hFo
   have HGr:=Lib.hid hGr
   clear hm0o hFo hGr hmr hall
   go_wp2_with fail
   clear g1
   go_loopw [6] (fun i wr=>∃j:Nat,i= .int .i64 j∧j≤l.length∧Mod (fun _=>False) wo wr∧(∀(k:Nat) (x:Cnd),k<j→l[k]? =some x→(m.any fun d=>rimpB d x)=true)) (fun i _=>l.length - (intOf i).toNat)
   case atStart=>exact ⟨0,rfl,Nat.zero_le _,Mod.refl _ _,fun k x hk=>by omega⟩
   case round=>
    obtain ⟨wp,rfl⟩:∃wp:World,wp=wr:=⟨_,rfl⟩
    obtain ⟨i,rfl,hi,hmp,hall⟩:=hrel
    have hFp:=hmp.heap HFo.out (fun h=>h)
    have hGp:=hmp.heap HGr.out (fun h=>h)
    have f1:wp.cell? ⟨w.heap.size,1,none⟩=some (.slice a l.length cap):=cell_of hFp rfl
    have hm0p:=Hm0o.out.trans hmp (fun _ _ h=>h)
    by_cases hlt:i<l.length
    ·have hlt':(i:Int)<l.length:=by omega
     obtain ⟨c,hci⟩:∃x,l[i]? =some x:=⟨_,List.getElem?_eq_getElem hlt⟩
     have hcm:=List.mem_of_getElem? hci
     obtain ⟨g,off,rfl,hcc⟩:∃g off,a=some ⟨g,off,none⟩∧CellsAt wp g (off+i*7) c.cells:=rd_cnd (Hv.out.mod hm0p (fun _ _ h=>h)) hci
     have Hmp:=Lib.hid hmp
     have Hall:=Lib.hid hall
     have Hci:=Lib.hid hci
     have Hcm:=Lib.hid hcm
     have Hcc:=Lib.hid hcc
     have HFp:=Lib.hid hFp
     have HGp:=Lib.hid hGp
     have Hm0p:=Lib.hid hm0p
     clear hmp hall hci hcm hcc hFp hGp hm0p
     go_wp2_with fail
     go_loopw [7,8] (fun ok jv wq=>∃j:Nat,jv= .int .i64 j∧j≤m.length∧Mod (fun _=>False) wp wq∧ok= .bool ((m.take j).any fun d=>rimpB d c)) (fun _ jv _=>m.length - (intOf jv).toNat)
     case atStart=>exact ⟨0,rfl,Nat.zero_le _,Mod.refl _ _,rfl⟩
     case round=>
      obtain ⟨j,rfl,hj,hmq,rfl⟩:=hrel
      have hGq:=hmq.heap HGp.out (fun h=>h)
      have hFq:=hmq.heap HFp.out (fun h=>h)
      have g1:wr.cell? ⟨wa.heap.size,1,none⟩=some (.slice ga m.length gcap):=cell_of hGq rfl
      by_cases hlj:j<m.length
      ·have hlj':(j:Int)<m.length:=by omega
       obtain ⟨d,hdj⟩:∃x,m[j]? =some x:=⟨_,List.getElem?_eq_getElem hlj⟩
       have hm0q:=Hm0p.out.trans hmq (fun _ _ h=>h)
       obtain ⟨dg,doff,rfl,hdc⟩:∃dg doff,ga=some ⟨dg,doff,none⟩∧CellsAt wr dg (doff+j*7) d.cells:=rd_cnd (Hg.out.mod hm0q (fun _ _ h=>h)) hdj
       have hcq:=Hcc.out.mod hmq (fun h=>h)
       have hh:=rimplies_at d c (Hmt0.out d (List.mem_of_getElem? hdj)) (Hlt0.out c Hcm.out)
       have hstep:((m.take (j+1)).any fun d=>rimpB d c)=(((m.take j).any fun d=>rimpB d c)||rimpB d c):=by
        rw [List.take_add_one,List.any_append,hdj]
        simp
       have hf:∀w',Mod (fun _=>False) wr w'→w'.cell? ⟨wa.heap.size,1,none⟩=some (.slice (some ⟨dg,doff,none⟩) m.length gcap)∧w'.cell? ⟨w.heap.size,1,none⟩=some (.slice (some ⟨g,off,none⟩) l.length cap)∧
        AllCells w' dg (doff+j*7) 7∧cellsOf w' dg (doff+j*7) 7=d.cells.toArray∧AllCells w' g (off+i*7) 7∧cellsOf w' g (off+i*7) 7=c.cells.toArray:=fun w' hw'=>by
        have hd2:=hdc.mod hw' (fun h=>h)
        have hc2:=hcq.mod hw' (fun h=>h)
        exact ⟨cell_of (hw'.heap hGq (fun h=>h)) rfl,cell_of (hw'.heap hFq (fun h=>h)) rfl,hd2.all rfl,hd2.is rfl,hc2.all rfl,hc2.is rfl⟩
       have hh2:∀w',Mod (fun _=>False) wr w'→Calls Tryz.prog 67 #[.agg d.cells.toArray,.agg c.cells.toArray] w' fun e w''=>e= .returned (.bool (rimpB d c))∧Mod (fun _=>False) wr w'':=
        fun w' hw'=>(hh w').mono fun e w'' h=>⟨h.1,hw'.trans h.2 (fun _ _ h=>h)⟩
       obtain ⟨acc,hacc⟩:∃q,((m.take j).any fun d=>rimpB d c)=q:=⟨_,rfl⟩
       obtain ⟨H,hH⟩:∃q,rimpB d c=q:=⟨_,rfl⟩
       rw [hacc,hH] at hstep
       rw [hacc]
       rw [hH] at hh2
       have Hmq:=Lib.hid hmq
       have Hdj:=Lib.hid hdj
       have Hdc:=Lib.hid hdc
       have Hcq:=Lib.hid hcq
       have Hf:=Lib.hid hf
       have Hh2:=Lib.hid hh2
       have Hstep:=Lib.hid hstep
       clear hmq hdj hdc hcq hf hh2 hstep hFq hGq hm0q hacc hH hh
       cases H with
       | false=>
        have Hstep:=Lib.hid (show ((m.take (j+1)).any fun d=>rimpB d c)=acc by rw [Hstep.out,Bool.or_false])
        go_wp2_with fail
        refine wp_region_news (by kernel_rfl) (by kernel_rfl) ?_
        iterate 11 (first
         | (refine quiet_skip ?_ (fun K hK=> ?_)
            ·first|(go_simp;done)|(go_simp;simp [undef];done)
            go_simp;refine hK _ ?_;clear hK K)
         | (refine quiet_do ?_ ?_ (fun w' hw'=> ?_) (fun K hK=> ?_)
            ·first|(go_simp;done)|(go_simp;simp [undef];done)
            rotate_left
            ·obtain ⟨f1,f2,f3,f4,f5,f6⟩:=Hf.out w' hw'
             go_simp
             rfl
            go_simp;refine hK _ ?_;clear hK K)
         | (refine quiet_in ?_ ?_ ?_ ?_ (fun w' hw'=> ?_) ?_ (fun K hK=> ?_)
            ·first|(go_simp;done)|(go_simp;simp [undef];done)
            rotate_left 3
            ·obtain ⟨f1,f2,f3,f4,f5,f6⟩:=Hf.out w' hw'
             go_simp
             constructor<;>rfl
            ·first|exact Hh2.out
            go_simp;refine hK _ ?_;clear hK K))
        refine quiet_end (fun w' hw'=> ?_)
        have Hw':=Lib.hid (Hmq.out.trans hw' (fun _ _ h=>h))
        clear hw'
        go_wp2_with fail
        go_roundw
        case rel=>exact ⟨j+1,by go_num,hlj,Hw'.out,by rw [Hstep.out]⟩
        case measure=>simp [intOf];omega
       |true=>
        have Hstep:=Lib.hid (show ((m.take (j+1)).any fun d=>rimpB d c)=true by rw [Hstep.out,Bool.or_true])
        go_wp2_with fail
        refine wp_region_news (by kernel_rfl) (by kernel_rfl) ?_
        iterate 11 (first
         | (refine quiet_skip ?_ (fun K hK=> ?_)
            ·first|(go_simp;done)|(go_simp;simp [undef];done)
            go_simp;refine hK _ ?_;clear hK K)
         | (refine quiet_do ?_ ?_ (fun w' hw'=> ?_) (fun K hK=> ?_)
            ·first|(go_simp;done)|(go_simp;simp [undef];done)
            rotate_left
            ·obtain ⟨f1,f2,f3,f4,f5,f6⟩:=Hf.out w' hw'
             go_simp
             rfl
            go_simp;refine hK _ ?_;clear hK K)
         | (refine quiet_in ?_ ?_ ?_ ?_ (fun w' hw'=> ?_) ?_ (fun K hK=> ?_)
            ·first|(go_simp;done)|(go_simp;simp [undef];done)
            rotate_left 3
            ·obtain ⟨f1,f2,f3,f4,f5,f6⟩:=Hf.out w' hw'
             go_simp
             constructor<;>rfl
            ·first|exact Hh2.out
            go_simp;refine hK _ ?_;clear hK K))
        refine quiet_end (fun w' hw'=> ?_)
        have Hw':=Lib.hid (Hmq.out.trans hw' (fun _ _ h=>h))
        clear hw'
        go_wp2_with fail
        go_roundw
        case rel=>exact ⟨j+1,by go_num,hlj,Hw'.out,by rw [Hstep.out]⟩
        case measure=>simp [intOf];omega
      ·obtain rfl:j=m.length:=by omega
       rw [List.take_length]
       have hmq1:=Hmp.out.trans hmq (fun _ _ h=>h)
       obtain ⟨acc,hacc⟩:∃q,(m.any fun d=>rimpB d c)=q:=⟨_,rfl⟩
       rw [hacc]
       have Hmq1:=Lib.hid hmq1
       have Hacc:=Lib.hid hacc
       clear hmq1 hacc hmq hFq hGq
       cases acc with
       | true=>
        go_wp2_with fail
        go_roundw
        case rel=>
         refine ⟨i+1,by go_num,hlt,Hmq1.out,fun k x' hk hx'=> ?_⟩
         rcases Nat.lt_succ_iff_lt_or_eq.1 hk with hk|rfl
         ·exact Hall.out k x' hk hx'
         ·rw [Hci.out] at hx';cases hx';exact Hacc.out
        case measure=>simp [intOf];omega
       |false=>
        go_wp2
        go_ret
        exact ⟨ret_bool (by rw [←HR.out,List.all_eq_false.2 ⟨c,Hcm.out,by rw [Hacc.out];decide⟩];rfl),Hm0o.out.trans Hmq1.out (fun _ _ h=>h)⟩
    ·obtain rfl:i=l.length:=by omega
     have c0:wp.cell? ⟨w.heap.size,0,none⟩=some (.string sc):=cell_of hFp rfl
     have e0:wp.cell? ⟨wa.heap.size,0,none⟩=some (.string gs):=cell_of hGp rfl
     have hun:=runder_at gs sc Hgs.out Hsc.out wp
     have hfr:R=underB gs sc:=by
      rw [←HR.out,List.all_eq_true.2 fun x hx=>by
       obtain ⟨k,hk⟩:=List.mem_iff_getElem?.1 hx
       exact hall k x (List.getElem?_eq_some_iff.1 hk).1 hk,Bool.true_and]
     have Hun:=Lib.hid hun
     have Hfr:=Lib.hid hfr
     have Hm0p:=Lib.hid hm0p
     clear hun hfr hm0p hmp hall hFp hGp
     go_wp2_with fail
     refine Hun.out.mono ?_
     rintro e w3 ⟨rfl,rfl⟩
     go_wp2
     go_ret
     exact ⟨ret_bool Hfr.out,Hm0p.out⟩
end
end Go.Proofs.YtaenebdppkjhoaaGreatDoor
