/- Lemmas. -/
import Derived.Test.YtebhabpahfmodaaGreatDoorZh10
set_option maxHeartbeats 40000000
set_option maxRecDepth 20000
namespace Go.Proofs.YtebhabpahfmodaaGreatDoor
open Go.RowKit
theorem a6o {l:List Ru} {tenant:Int} {who:ByteArray} {j:Nat} {x:Ru} (h:l[j]? =some x):q9 (l.take (j+1)) tenant who=if x.of 0 tenant who=true then some x.broker else q9 (l.take j) tenant who:=by
 unfold q9;rw [List.take_add_one,h];simp only [Option.toList,List.reverse_append,List.reverse_cons,List.reverse_nil,List.nil_append,List.cons_append,List.find?_cons];cases hx:x.of 0 tenant who<;>rfl
theorem a1u {p:Prop} (r:Ru) (k tenant:Int) (who:ByteArray) (h1:(r.kind==k)=false->r.of k tenant who=false->p) (h2:(r.kind==k)=true->(r.tenant==tenant)=false->r.of k tenant who=false->p)
 (h3:(r.kind==k)=true->(r.tenant==tenant)=true->(r.who.toList==who.toList)=false->r.of k tenant who=false->p)
 (h4:(r.kind==k)=true->(r.tenant==tenant)=true->(r.who.toList==who.toList)=true->r.of k tenant who=true->p):p:=by
 cases a1:r.kind==k
 ·exact h1 a1 (by unfold Ru.of;rw [a1];rfl)
 cases a2:r.tenant==tenant
 ·exact h2 a1 a2 (by unfold Ru.of;rw [a1,a2];rfl)
 cases a3:r.who.toList==who.toList
 ·exact h3 a1 a2 a3 (by unfold Ru.of;rw [a1,a2,a3];rfl)
 exact h4 a1 a2 a3 (by unfold Ru.of;rw [a1,a2,a3];rfl)
theorem b1F (w:World) (v:Value) (l:List Ru) (hv:I9 w v l) (hll:l.length<=1000000) (tenant:Int) (who:ByteArray):
 Calls Tryz.prog 40 #[v,.int .i64 tenant,.string who] w fun e w'=>e= .returned (.int .i64 ((q9 l tenant who).getD (-1)))/\Mod (fun _=>False) w w':=by
 obtain ⟨a,cap,rfl,hcap⟩:∃a c,v= .slice a l.length c/\l.length<=c:=by obtain ⟨-,a,c,h,h2, -⟩:=hv.rd;exact ⟨a,c,h,h2⟩
 have bN:(l.length:Int)<=1000000:=zo
 have bf:(l.length:Int)<=cap:=zo
 obtain ⟨R,hR⟩:∃R,q9 l tenant who=R:=⟨_,rfl⟩;rw [hR];obtain ⟨Hv,HR⟩:=zh2 hv hR;clear hv hR hll
 go_enter Tryz.func40,Tryz.ntmps40
 go_wp2_with fail
 go_loopw [7,8] (fun av i wr=>∃j:Nat,i= .int .i64 j/\j<=l.length/\av= .int .i64 ((q9 (l.take j) tenant who).getD (-1))/\Mod (fun _=>False) w wr) (fun _ i _=>l.length - (intOf i).toNat)
 case atStart=>exact ⟨0,rfl,Nat.zero_le _,rfl,Mod.refl _ _⟩
 case round=>
  obtain ⟨j,rfl,hj,rfl,hmr⟩:=hrel;by_cases hlt:j<l.length
  ·have hlt':(j:Int)<l.length:=zo
   obtain ⟨x,hxj⟩:∃x,l[j]? =some x:=⟨_,zz5 hlt⟩;obtain ⟨g,off,rfl,hf⟩:∃g off,a=some ⟨g,off,none⟩/\e9 wr g (off+j*8) x.cells:=F1 (Hv.out.mod hmr) hxj;have c0:wr.cell? ⟨g,off+j*8,none⟩=some (.int .i64 x.kind):=hf 0 _ rfl;have c1:wr.cell? ⟨g,off+j*8+1,none⟩=some (.int .i64 x.tenant):=hf 1 _ rfl;have c2:wr.cell? ⟨g,off+j*8+2,none⟩=some (.string x.who):=hf 2 _ rfl;have c3:wr.cell? ⟨g,off+j*8+3,none⟩=some (.int .i64 x.broker):=hf 3 _ rfl;have hst:=a6o (tenant:=tenant) (who:=who) hxj;obtain ⟨P,hP⟩:∃P,q9 (l.take j) tenant who=P:=⟨_,rfl⟩;rw [hP] at hst⊢;obtain ⟨aK,cB,eD⟩:=zh3 hmr hxj hst;clear hmr hxj hst hP hf;refine a1u x 0 tenant who (fun h1 h4=> ?_) (fun h1 h2 h4=> ?_) (fun h1 h2 h3 h4=> ?_) (fun h1 h2 h3 h4=> ?_)
   all_goals
    have eD:=Lib.hid (show q9 (l.take (j+1)) tenant who=(if x.of 0 tenant who=true then some x.broker else P) from eD.out);rw [h4] at eD;clear h4
    go_wp2_with fail
    go_roundw
    case rel=>exact ⟨j+1,by go_num,hlt,by rw [eD.out];rfl,aK.out⟩
    case measure=>simp [intOf];omega
  obtain rfl:j=l.length:=zo
  rw [List.take_length,HR.out];have aK:=zh hmr;clear hmr
  go_wp2
  go_ret;exact ⟨rfl,aK.out⟩
theorem a5u (tenant:Int) (who:ByteArray) (m:Ru->Bool) (w:World) (v:Value) (l:List Ru) (hv:I9 w v l) (hll:l.length<=1000000) (hbr:∀r∈l,r.of 0 tenant who=true->0<=r.broker) (es:ByteArray) (ea:Option Addr) (en ec:Nat)
 (hm:∀r∈l,∀wx,Mod (fun _=>False) w wx->r.of 2 tenant who=true->Calls Tryz.prog 41 #[.agg #[.string r.sc,r.cv],.agg #[.string es,.slice ea en ec]] wx fun e w'=>e= .returned (.bool (m r))/\Mod (fun _=>False) wx w'):
 Calls Tryz.prog 14 #[v,.int .i64 tenant,.string who,.agg #[.string es,.slice ea en ec]] w fun e w'=>
  e= .returned (.bool ((q9 l tenant who).isSome&&l.any fun r=>r.of 2 tenant who&&m r))/\Mod (fun _=>False) w w':=by
 obtain ⟨a,cap,rfl,hcap⟩:∃a c,v= .slice a l.length c/\l.length<=c:=by obtain ⟨-,a,c,h,h2, -⟩:=hv.rd;exact ⟨a,c,h,h2⟩
 have bN:(l.length:Int)<=1000000:=zo
 have bf:(l.length:Int)<=cap:=zo
 obtain ⟨wa,aD,ah,ae,au⟩:=g8 w (.cells #[.string es,.slice ea en ec] 26);have hva:=hv.mod ah;have hho:=b1F wa (.slice a l.length cap) l hva hll tenant who;have hqz:w.heap.size<wa.heap.size:=zo
 have hnn:∀b,q9 l tenant who=some b->0<=b:=fun b hb=>by
  unfold q9 at hb
  cases hf:l.reverse.find? (fun r=>r.of 0 tenant who) with
  |none=>rw [hf] at hb;cases hb
  |some r=>
   rw [hf] at hb;cases hb
   exact hbr r (List.mem_reverse.1 (List.mem_of_find?_eq_some hf)) (List.find?_some (p:=fun r:Ru=>r.of 0 tenant who) hf)
 obtain ⟨R,hR⟩:∃R,((q9 l tenant who).isSome&&l.any fun r=>r.of 2 tenant who&&m r)=R:=⟨_,rfl⟩;rw [hR];obtain ⟨Hv,Hm,aF,aB,aH,dC,jm,HR,bV,Bb⟩:=zh10 hv hm aD ah ae hva hho hR hbr hnn;clear hv hm aD ah ae hva hho hR hbr hnn au hll
 go_enter Tryz.func14,Tryz.ntmps14
 go_wp2_with (rw [show w.alloc _=wa from aF.out])
 refine jm.out.mono ?_;rintro e w1 ⟨rfl,hm1⟩;have bE:=aB.out.trans hm1 zi;have hg1:=hm1.heap aH.out id;obtain ⟨bF,lJ⟩:=zh2 bE hg1;clear bE hg1 hm1 jm
 cases hh:q9 l tenant who with
 |none=>
  have Hh:=zh hh;clear hh
  go_wp2
  go_ret;exact ⟨j1 (by rw [<-HR.out,Hh.out];rfl),bF.out⟩
 |some h0=>
 have hR2:(l.any fun r=>r.of 2 tenant who&&m r)=R:=by rw [<-HR.out,hh];rfl
 have hh0:=Bb.out h0 hh;have hgd:(some h0).getD (-1)=h0:=rfl;rw [hgd];have HR2:=zh hR2;clear hR2 hh HR hgd Bb
 go_wp2_with fail
 go_loopw [9] (fun i wr=>∃j:Nat,i= .int .i64 j/\j<=l.length/\Mod (fun _=>False) w1 wr/\(∀(k:Nat) (x:Ru),k<j->l[k]? =some x->(x.of 2 tenant who&&m x)=false)) (fun i _=>l.length - (intOf i).toNat)
 case atStart=>exact ⟨0,rfl,Nat.zero_le _,Mod.refl _ _,fun k x hk=>zo⟩
 case round=>
  obtain ⟨j,rfl,hj,hmr,hall⟩:=hrel;by_cases hlt:j<l.length
  ·have hlt':(j:Int)<l.length:=zo
   obtain ⟨x,hxj⟩:∃x,l[j]? =some x:=⟨_,zz5 hlt⟩;have hxm:=zz8 hxj;have aU:=bF.out.trans hmr zi;obtain ⟨g,off,rfl,hf⟩:∃g off,a=some ⟨g,off,none⟩/\e9 wr g (off+j*8) x.cells:=F1 (Hv.out.mod aU) hxj;have hge:=hmr.heap lJ.out id
   have hfc:∀w',Mod (fun _=>False) wr w'->w'.cell? ⟨g,off+j*8,none⟩=some (.int .i64 x.kind)/\w'.cell? ⟨g,off+j*8+1,none⟩=some (.int .i64 x.tenant)/\w'.cell? ⟨g,off+j*8+2,none⟩=some (.string x.who)/\
    w'.cell? ⟨g,off+j*8+4,none⟩=some (.string x.sc)/\w'.cell? ⟨g,off+j*8+5,none⟩=some (.slice x.ca x.cs.length x.cc)/\w'.cell? ⟨w.heap.size,0,none⟩=some (.string es)/\w'.cell? ⟨w.heap.size,1,none⟩=some (.slice ea en ec):=fun w' hw'=>by
    have h2:=hf.mod hw' id;have h3:=hw'.heap hge id;exact ⟨h2 0 _ rfl,h2 1 _ rfl,h2 2 _ rfl,h2 4 _ rfl,h2 5 _ rfl,d6 h3 rfl,d6 h3 rfl⟩
   have hmt:x.of 2 tenant who=true->∀w',Mod (fun _=>False) wr w'->Calls Tryz.prog 41 #[.agg #[.string x.sc,.slice x.ca x.cs.length x.cc],.agg #[.string es,.slice ea en ec]] w' fun e w''=>e= .returned (.bool (m x))/\Mod (fun _=>False) wr w'':=
    fun ho w' hw'=>(Hm.out x hxm w' (aU.trans hw' zi) ho).mono fun e w'' h=>⟨h.1,hw'.trans h.2 zi⟩
   obtain ⟨B,hB⟩:∃B,m x=B:=⟨_,rfl⟩;rw [hB] at hmt;obtain ⟨aK,aM,cB,fH,Hf,jo,oo,HB⟩:=zh8 hmr hall hxj hxm hf hfc hmt hB;clear hmr hall hxj hxm hf hfc hmt hB hge aU;refine a1u x 2 tenant who (fun h1 h4=> ?_) (fun h1 h2 h4=> ?_) (fun h1 h2 h3 h4=> ?_) (fun h1 h2 h3 h4=> ?_)
   iterate 3 (
    have Ho:=zh h4;clear h4 oo
    go_wp2_with fail
    refine i7 zk zk ?_
    iterate 33 (first
     | (refine j6 ?_ (fun K hK=> ?_)
        ·first|(go_simp;done)|(go_simp;simp [undef];done)
        go_simp;refine hK _ ?_;clear hK K)
     | (refine j7 ?_ ?_ (fun w' hw'=> ?_) (fun K hK=> ?_)
        ·first|(go_simp;done)|(go_simp;simp [undef];done)
        rotate_left
        ·obtain ⟨f1,f2,f3,f4,f5,f6,f7⟩:=jo.out w' hw';go_simp;rfl
        go_simp;refine hK _ ?_;clear hK K))
    refine j8 (fun w' hw'=> ?_);have bS:=Lib.hid (aK.out.trans hw' zi);clear hw'
    go_wp2_with fail
    go_roundw
    case rel=>
     refine ⟨j+1,by go_num,hlt,bS.out,fun k x' hk hx'=> ?_⟩;rcases Nat.lt_succ_iff_lt_or_eq.1 hk with hk|rfl
     ·exact aM.out k x' hk hx'
     rw [cB.out] at hx';cases hx';rw [Ho.out];rfl
    case measure=>simp [intOf];omega)
   have Ho:=zh h4;have oo:=Lib.hid (oo.out h4);clear h4
   cases B with
   | false=>
    go_wp2_with fail
    refine i7 zk zk ?_
    iterate 33 (first
     | (refine j6 ?_ (fun K hK=> ?_)
        ·first|(go_simp;done)|(go_simp;simp [undef];done)
        go_simp;refine hK _ ?_;clear hK K)
     | (refine j7 ?_ ?_ (fun w' hw'=> ?_) (fun K hK=> ?_)
        ·first|(go_simp;done)|(go_simp;simp [undef];done)
        rotate_left
        ·obtain ⟨f1,f2,f3,f4,f5,f6,f7⟩:=jo.out w' hw';go_simp;rfl
        go_simp;refine hK _ ?_;clear hK K)
     | (refine m9 ?_ ?_ ?_ ?_ (fun w' hw'=> ?_) ?_ (fun K hK=> ?_)
        ·first|(go_simp;done)|(go_simp;simp [undef];done)
        rotate_left 3
        ·obtain ⟨f1,f2,f3,f4,f5,f6,f7⟩:=jo.out w' hw';go_simp;constructor<;>rfl
        ·first|exact oo.out
        go_simp;refine hK _ ?_;clear hK K))
    refine j8 (fun w' hw'=> ?_);have bS:=Lib.hid (aK.out.trans hw' zi);clear hw'
    go_wp2_with fail
    go_roundw
    case rel=>
     refine ⟨j+1,by go_num,hlt,bS.out,fun k x' hk hx'=> ?_⟩;rcases Nat.lt_succ_iff_lt_or_eq.1 hk with hk|rfl
     ·exact aM.out k x' hk hx'
     rw [cB.out] at hx';cases hx';rw [Ho.out,HB.out];rfl
    case measure=>simp [intOf];omega
   |true=>
    go_wp2_with fail
    refine i7 zk zk ?_
    iterate 33 (first
     | (refine j6 ?_ (fun K hK=> ?_)
        ·first|(go_simp;done)|(go_simp;simp [undef];done)
        go_simp;refine hK _ ?_;clear hK K)
     | (refine j7 ?_ ?_ (fun w' hw'=> ?_) (fun K hK=> ?_)
        ·first|(go_simp;done)|(go_simp;simp [undef];done)
        rotate_left
        ·obtain ⟨f1,f2,f3,f4,f5,f6,f7⟩:=jo.out w' hw';go_simp;rfl
        go_simp;refine hK _ ?_;clear hK K)
     | (refine m9 ?_ ?_ ?_ ?_ (fun w' hw'=> ?_) ?_ (fun K hK=> ?_)
        ·first|(go_simp;done)|(go_simp;simp [undef];done)
        rotate_left 3
        ·obtain ⟨f1,f2,f3,f4,f5,f6,f7⟩:=jo.out w' hw';go_simp;constructor<;>rfl
        ·first|exact oo.out
        go_simp;refine hK _ ?_;clear hK K))
    refine j8 (fun w' hw'=> ?_);have bS:=Lib.hid (aK.out.trans hw' zi);clear hw'
    go_wp2
    go_ret;exact ⟨j1 (by rw [<-HR2.out,List.any_eq_true.2 ⟨x,fH.out,by rw [Ho.out,HB.out];rfl⟩]),bF.out.trans bS.out zi⟩
  obtain rfl:j=l.length:=zo
  have aU:=bF.out.trans hmr zi
  have hf:R=false:=by
   rw [<-HR2.out,List.any_eq_false.2 fun x hx=>by
    obtain ⟨k,hk⟩:=List.mem_iff_getElem?.1 hx;rw [hall k x (zz6 hk).1 hk]
    decide]
  obtain ⟨dw,Hf⟩:=zh2 aU hf;clear aU hf hmr hall
  go_wp2
  go_ret;exact ⟨j1 Hf.out,dw.out⟩
end Go.Proofs.YtebhabpahfmodaaGreatDoor
