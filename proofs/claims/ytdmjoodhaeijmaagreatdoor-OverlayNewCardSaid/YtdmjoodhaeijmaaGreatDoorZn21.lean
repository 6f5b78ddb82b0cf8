/- Lemmas. -/
import Derived.Test.YtdmjoodhaeijmaaGreatDoorZn19
import Derived.Test.YtdmjoodhaeijmaaGreatDoorZn8
set_option maxHeartbeats 40000000
set_option maxRecDepth 20000
namespace Go.Proofs.YtdmjoodhaeijmaaGreatDoor
section
open Go.RowKit
theorem a9F (c:Cnd) (w:World):Calls Tryz.prog 100 #[.agg c.cells.toArray] w fun e w'=>e= .returned (.agg c.norm.cells.toArray)/\Mod (fun _=>False) w w':=by
 obtain ⟨name,op,v⟩:=c;unfold Cnd.norm;simp only;obtain ⟨wa,ak,ae,aa,ah⟩:=g6 w (.cells (Cnd.cells ⟨name,op,v⟩).toArray 126);obtain ⟨wb,hwb,ay,aA,aU⟩:=g6 wa (.cells #[.string ⟨#[]⟩,.int .i64 0,.int .i64 0,.int .i64 0,.float .f64 0,.string ⟨#[]⟩,.bool false] 126);have hgb:=ay.heap aa id;rw [ah] at aA;have hm2:=ae.trans ay zi;have c0:wb.cell? ⟨w.heap.size,0,none⟩=some (.string name):=d6 hgb rfl;have c1:wb.cell? ⟨w.heap.size,1,none⟩=some (.int .i64 op):=d6 hgb rfl;have hz2:wa.heap.size=w.heap.size+1:=ah;have hs:∀w',Mod (fun k=>k=w.heap.size+1) wb w'->Mod (fun _=>False) w w':=fun w' h=>hm2.trans h (fun b hb h=>zo);by_cases h7:op=7
 ·rw [if_pos h7];subst h7;refine hh7 ak hwb aa aA hgb hm2 hs fun aB bN aC bq rz aS Hs=> ?_;clear ak hwb aa aA hgb hm2 hs ae ay
  go_enter Tryz.func100,Tryz.ntmps100
  go_wp2_with (first|(rw [show w.alloc _=wa from aB.out])|(rw [show wa.alloc _=wb from bN.out])|((with_reducible refine m7 126 (.tmp 2) (.tmp 8) ?_);refine ⟨w.heap.size+1,rfl,_,_,bq.out,(Cnd.cells ⟨name,7,V.zero⟩),rfl,rfl,zk,rfl, ?_⟩;intro w3 h3 au;have H3:=Lib.hid h3;have aZ:=Lib.hid au;clear h3 au))
  exact y4 rfl (w.heap.size+1) rfl (Cnd.cells ⟨name,7,V.zero⟩) (d8.row H3.out) zk zk rfl ⟨rfl,Hs.out _ aZ.out⟩
 rw [if_neg h7];have d7:(op==7)=false:=by rw [beq_eq_false_iff_ne];exact h7
 have hcv:=a0G hgb;have lI:=fun wx=>a6f v wx;have hSb:(fun z:World=>(z.cell? ⟨w.heap.size,0,none⟩=some (.string name)/\z.cell? ⟨w.heap.size,1,none⟩=some (.int .i64 op))/\l4 z w.heap.size 2 5/\cellsOf z w.heap.size 2 5=v.cells.toArray) wb.drew:=⟨⟨c0,c1⟩,hcv.all rfl,hcv.is rfl⟩;refine hh8 ak hwb aa aA hgb hm2 hs hcv fun aB bN aC bq rz aS Hs Bt=> ?_;refine hh1 lI fun Rn=> ?_;clear ak hwb aa aA hgb hm2 hs hcv lI ae ay h7
 go_enter Tryz.func100,Tryz.ntmps100
 go_wp2_with (first|(rw [show w.alloc _=wa from aB.out])|(rw [show wa.alloc _=wb from bN.out]))
 have hS:=hSb;refine i6 [.rd 0,.rd 1,.rd 2,.rd 3,.rd 4,.rd 5,.go 6,.go 7,.go 8] [0,1,2,3,4,5,6] (fun z:World=>(z.cell? ⟨w.heap.size,0,none⟩=some (.string name)/\z.cell? ⟨w.heap.size,1,none⟩=some (.int .i64 op))/\l4 z w.heap.size 2 5/\cellsOf z w.heap.size 2 5=v.cells.toArray) zk zk (fun _ _ d _ _ h=>(by cases d<;>exact h)) ?_
 iterate 6 (
  refine wrd hS fun K hK=> ?_
  go_simp;refine hK _ ?_;clear hK K)
 refine wgo fun K hK=> ?_;(try simp only [zz1,zz2,zz3])
 go_wp2_with fail
 refine (Rn.out _).mono ?_;rintro e w3 ⟨rfl,au⟩;have hg3:=(((Mod.refl (fun _=>False) wb).drew).trans au zi).heap bq.out id;have aR:=((Mod.refl (fun _=>False) wb).drew).trans au zi;refine hK _ _ (fun _ h=>⟨⟨au.cell h.1.1 id,au.cell h.1.2 id⟩,(Bt.out.mod aR id).all rfl,(Bt.out.mod aR id).is rfl⟩) ?_;clear hK K au;refine wgo fun K hK=> ?_;(try simp only [zz1,zz2,zz3]);go_simp;refine hK _ _ (fun h=>absurd h zd) ?_;clear hK K;refine wgo fun K hK=> ?_;(try simp only [zz1,zz2,zz3]);refine a0M 126 (.tmp 2) (.tmp 16) rfl (w.heap.size+1) 0 rfl _ 126 hg3 (Cnd.cells ⟨name,op,v.canon⟩) rfl (Nat.le_refl 7) zk (fun u hu=>zz15 (show (Cnd.cells ⟨name,op,v.canon⟩).all (·.oneCell')=true from rfl) u hu) ?_;have hg4:=setRow_heap w3 (w.heap.size+1) _ ((#[.string ⟨#[]⟩,.int .i64 0,.int .i64 0,.int .i64 0,.float .f64 0,.string ⟨#[]⟩,.bool false]:Array Value).toList.take 0++(Cnd.cells ⟨name,op,v.canon⟩)++(#[.string ⟨#[]⟩,.int .i64 0,.int .i64 0,.int .i64 0,.float .f64 0,.string ⟨#[]⟩,.bool false]:Array Value).toList.drop (0+(Cnd.cells ⟨name,op,v.canon⟩).length)).toArray 126 (0,0) hg3;have aM:Mod (fun k=>k=w.heap.size+1) wb (w3.setRow (w.heap.size+1) ((#[.string ⟨#[]⟩,.int .i64 0,.int .i64 0,.int .i64 0,.float .f64 0,.string ⟨#[]⟩,.bool false]:Array Value).toList.take 0++(Cnd.cells ⟨name,op,v.canon⟩)++(#[.string ⟨#[]⟩,.int .i64 0,.int .i64 0,.int .i64 0,.float .f64 0,.string ⟨#[]⟩,.bool false]:Array Value).toList.drop (0+(Cnd.cells ⟨name,op,v.canon⟩).length)).toArray):=(aR.mono (G:=fun k=>k=w.heap.size+1) (fun _ _ h=>h.elim)).setRow (fun _=>rfl) _;refine hK _ _ (fun h=>absurd h zd) ?_;clear hK K;refine p8 ?_;refine hh2 hg4 aM fun NV fu=> ?_;clear hg4 aM
 go_wp2_with fail
 exact y4 rfl (w.heap.size+1) rfl (Cnd.cells ⟨name,op,v.canon⟩) (d8.row NV.out) zk zk rfl ⟨rfl,Hs.out _ fu.out⟩
theorem a7H {v:V} (h:v.fits):v.canon.fits:=by
 have h1:=h.int;have h2:=a0R h.num;have h3:=h.text;have z:((⟨#[]⟩:ByteArray)).size<=1000000:=zd
 have zn:(0:Nat)<2^64:=zd
 unfold V.canon;split
 ·exact ⟨h1,zn,z⟩
 split
 ·exact ⟨(by decide: -9223372036854775808<=(0:Int)/\(0:Int)<=9223372036854775807),h2,z⟩
 split
 ·exact ⟨(by decide: -9223372036854775808<=(0:Int)/\(0:Int)<=9223372036854775807),zn,h3⟩
 split
 ·exact ⟨(by decide: -9223372036854775808<=(0:Int)/\(0:Int)<=9223372036854775807),zn,z⟩
 exact ⟨(by decide: -9223372036854775808<=(0:Int)/\(0:Int)<=9223372036854775807),zn,z⟩
theorem a1Y {c:Cnd} (h:c.fits):c.norm.fits:=by
 unfold Cnd.norm;split
 ·exact ⟨⟨(by decide: -9223372036854775808<=(0:Int)/\(0:Int)<=9223372036854775807),(by decide:(0:Nat)<2^64),(by decide:((⟨#[]⟩:ByteArray)).size<=1000000)⟩,h.name⟩
 exact ⟨a7H h.v,h.name⟩
def a3v (c:Cnd) (i k:Nat) (d:Cnd):Bool:=decide (k≠i)&&(a2C d c&&(decide (k<i)|| !a2C c d))
def V6 (l:List Cnd) (i:Nat) (c:Cnd):Bool:=l.zipIdx.any fun p=>a3v c i p.2 p.1
attribute [local go_sem ↓] K7
theorem a6g (w:World) (v:Value) (l:List Cnd) (hv:i8 w 7 v l.length (q8 l)) (hll:l.length<=1000) (i:Nat) (c:Cnd) (hi:l[i]? =some c) (hcs:∀c∈l,c.fits):
 Calls Tryz.prog 105 #[v,.int .i64 i] w fun e w'=>e= .returned (.bool (V6 l i c))/\Mod (fun _=>False) w w':=by
 obtain ⟨a,cap,rfl,hcap⟩:∃a c,v= .slice a l.length c/\l.length<=c:=by obtain ⟨-,a,c,h,h2, -⟩:=hv;exact ⟨a,c,h,h2⟩
 have df:(l.length:Int)<=1000:=zo
 have bG:(l.length:Int)<=cap:=zo
 have hil:i<l.length:=(zz6 hi).1;have Ro:(i:Int)<l.length:=zo
 have hcf:=hcs c (zz8 hi);obtain ⟨R,hR⟩:∃R,V6 l i c=R:=⟨_,rfl⟩;rw [hR];refine hh5 hv hcs hi hcf hR fun Hv iI Hi nA HR=> ?_;clear hv hcs hi hcf hR
 go_enter Tryz.func105,Tryz.ntmps105
 go_wp2_with fail
 go_loopw [9] (fun x wr=>∃j:Nat,x= .int .i64 j/\j<=l.length/\Mod (fun _=>False) w wr/\(∀(k:Nat) (d:Cnd),k<j->l[k]? =some d->a3v c i k d=false)) (fun x _=>l.length - (intOf x).toNat)
 case atStart=>exact ⟨0,rfl,Nat.zero_le _,Mod.refl _ _,fun k x hk=>zo⟩
 case round =>
  obtain ⟨j,rfl,hj,hmr,hall⟩:=hrel;by_cases hlt:j<l.length
  ·have hlt':(j:Int)<l.length:=zo
   obtain ⟨d,hd⟩:∃d,l[j]? =some d:=⟨_,zz5 hlt⟩;have hdf:=iI.out d (zz8 hd);obtain ⟨g,off,rfl,hf⟩:∃g off,a=some ⟨g,off,none⟩/\d8 wr g (off+j*7) d.cells:=U4 (Hv.out.mod hmr zi) hd;obtain ⟨g',off',hga,hfc⟩:=U4 (Hv.out.mod hmr zi) Hi.out;cases hga
   obtain ⟨wz,hwz,ag,aj,aF⟩:=g6 wr (.cells d.cells.toArray 126);have hmz:=hmr.trans ag zi;have hfz:=hfc.mod ag id;have hdz:d8 wz wr.heap.size 0 d.cells:=d8.row aj
   have hF:∀w',Mod (fun _=>False) wz w'->(l4 w' wr.heap.size 0 7/\cellsOf w' wr.heap.size 0 7=d.cells.toArray)/\l4 w' g (off+i*7) 7/\cellsOf w' g (off+i*7) 7=c.cells.toArray:=fun w' hw'=>
    ⟨⟨(hdz.mod hw' id).all rfl,(hdz.mod hw' id).is rfl⟩,(hfz.mod hw' id).all rfl,(hfz.mod hw' id).is rfl⟩
   have t1:∀x:Cnd,x.fits->x.v.text.size<=9223372036854775807:=fun x hx=>by have:=hx.v.text;omega
   have hi1:=fun (wx:World) (hx:Mod (fun _=>False) wz wx)=>(Z0 d c (t1 d hdf) (t1 c nA.out) hdf.v.num nA.out.v.num wx).mono fun e w'' (h:_/\_)=>(⟨h.1,hx.trans h.2 zi⟩:e= .returned (.bool (a2C d c))/\Mod (fun _=>False) wz w'');have hi2:=fun (wx:World) (hx:Mod (fun _=>False) wz wx)=>(Z0 c d (t1 c nA.out) (t1 d hdf) nA.out.v.num hdf.v.num wx).mono fun e w'' (h:_/\_)=>(⟨h.1,hx.trans h.2 zi⟩:e= .returned (.bool (a2C c d))/\Mod (fun _=>False) wz w'');obtain ⟨B1,hB1⟩:∃B,a2C d c=B:=⟨_,rfl⟩;obtain ⟨B2,hB2⟩:∃B,a2C c d=B:=⟨_,rfl⟩;obtain ⟨N,hN⟩:∃N,a3v c i j d=N:=⟨_,rfl⟩;have Ag:N=(decide (j≠i)&&(B1&&(decide (j<i)|| !B2))):=by rw [<-hN,<-hB1,<-hB2];rfl
   rw [hB1] at hi1;rw [hB2] at hi2
   have NY:N=true->R=true:=fun h=>by
    rw [<-HR.out];exact List.any_eq_true.2 ⟨(d,j),List.mk_mem_zipIdx_iff_getElem?.2 hd,by rw [<-h];exact hN⟩
   have uO:N=false->∀(k:Nat) (d':Cnd),k<j+1->l[k]? =some d'->a3v c i k d'=false:=fun h k d' hk hd'=>by
    rcases Nat.lt_succ_iff_lt_or_eq.1 hk with hk|rfl
    ·exact hall k d' hk hd'
    rw [hd] at hd';cases hd';rw [hN,h]
   refine hh8 hmr hall hd hdf hf hfc hwz ag fun aL aO Hd WK Hf kC aX bE=> ?_;refine hh8 aj hmz hfz hdz hF hi1 hi2 hB1 fun aJ bC WL WN HF uP su HB1=> ?_;refine hh5 hB2 hN Ag NY uO fun HB2 HN Ah NZ nS=> ?_;clear hmr hall hd hdf hf hfc hwz ag aj hmz hfz hdz hF hi1 hi2 hB1 hB2 hN Ag NY uO aF t1;by_cases hji:j=i
   ·subst hji;have d1:((j:Int) !=j)=false:=by simp
    have hNf:N=false:=by rw [Ah.out];simp [*]
    refine hh1 hNf fun sD=> ?_;clear hNf
    go_wp2_with (first|((with_reducible refine e9 126 (.tmp 12) ?_);refine ⟨g,off+j*7,rfl,d.cells,Hf.out,zk,zk, ?_⟩)|((with_reducible refine d9 126 (.tmp 6) (.tmp 13) ?_);refine ⟨rfl,d.cells,rfl,rfl,zk,rfl, ?_⟩;rw [aX.out]))
    refine g9 zk zk ?_
    iterate 25 (first
     | (refine j1 ?_ (fun K hK=> ?_)
        ·first|(go_simp;done)|(go_simp;simp [undef];done)
        go_simp;refine hK _ ?_;clear hK K)
     | (refine l9 ?_ ?_ (fun w' hw'=> ?_) (fun K hK=> ?_)
        ·first|(go_simp;done)|(go_simp;simp [undef];done)
        rotate_left
        ·skip
         go_simp;rfl
        go_simp;refine hK _ ?_;clear hK K))
    refine j8 (fun w' hw'=> ?_);have dJ:=Lib.hid (bC.out.trans hw' zi);clear hw'
    go_wp2_with fail
    go_roundw
    case rel=>exact ⟨j+1,by go_num,hlt,dJ.out,nS.out sD.out⟩
    case measure=>simp [intOf];omega
   have d1 :((j:Int) !=i)=true:=by rw [bne_iff_ne];omega
   have d2:decide (j≠i)=true:=decide_eq_true hji
   cases B1 with
   | false=>
    have hNf:N=false:=by rw [Ah.out];simp [*]
    refine hh1 hNf fun sD=> ?_;clear hNf
    go_wp2_with (first|((with_reducible refine e9 126 (.tmp 12) ?_);refine ⟨g,off+j*7,rfl,d.cells,Hf.out,zk,zk, ?_⟩)|((with_reducible refine d9 126 (.tmp 6) (.tmp 13) ?_);refine ⟨rfl,d.cells,rfl,rfl,zk,rfl, ?_⟩;rw [aX.out]))
    refine g9 zk zk ?_
    iterate 25 (first
     | (refine j1 ?_ (fun K hK=> ?_)
        ·first|(go_simp;done)|(go_simp;simp [undef];done)
        go_simp;refine hK _ ?_;clear hK K)
     | (refine l9 ?_ ?_ (fun w' hw'=> ?_) (fun K hK=> ?_)
        ·first|(go_simp;done)|(go_simp;simp [undef];done)
        rotate_left
        ·obtain ⟨⟨f1,f2⟩,f3,f4⟩:=HF.out w' hw';go_simp;rfl
        go_simp;refine hK _ ?_;clear hK K)
     | (refine q7 ?_ ?_ ?_ ?_ (fun w' hw'=> ?_) ?_ (fun K hK=> ?_)
        ·first|(go_simp;done)|(go_simp;simp [undef];done)
        rotate_left 3
        ·obtain ⟨⟨f1,f2⟩,f3,f4⟩:=HF.out w' hw';go_simp;constructor<;>rfl
        ·first|with_reducible exact uP.out
        go_simp;refine hK _ ?_;clear hK K))
    refine j8 (fun w' hw'=> ?_);have dJ:=Lib.hid (bC.out.trans hw' zi);clear hw'
    go_wp2_with fail
    go_roundw
    case rel=>exact ⟨j+1,by go_num,hlt,dJ.out,nS.out sD.out⟩
    case measure=>simp [intOf];omega
   | true =>
    by_cases hjl:j<i
    ·have d3:decide ((j:Int)<i)=true:=by simp;omega
     have d4:decide (j<i)=true:=decide_eq_true hjl;have d5:decide ((j:Nat)<i)=true:=d4;have hNf:N=true:=by rw [Ah.out];simp [*]
     refine hh1 hNf fun sD=> ?_;clear hNf
     go_wp2_with (first|((with_reducible refine e9 126 (.tmp 12) ?_);refine ⟨g,off+j*7,rfl,d.cells,Hf.out,zk,zk, ?_⟩)|((with_reducible refine d9 126 (.tmp 6) (.tmp 13) ?_);refine ⟨rfl,d.cells,rfl,rfl,zk,rfl, ?_⟩;rw [aX.out]))
     refine g9 zk zk ?_
     iterate 25 (first
      | (refine j1 ?_ (fun K hK=> ?_)
         ·first|(go_simp;done)|(go_simp;simp [undef];done)
         go_simp;refine hK _ ?_;clear hK K)
      | (refine l9 ?_ ?_ (fun w' hw'=> ?_) (fun K hK=> ?_)
         ·first|(go_simp;done)|(go_simp;simp [undef];done)
         rotate_left
         ·obtain ⟨⟨f1,f2⟩,f3,f4⟩:=HF.out w' hw';go_simp;rfl
         go_simp;refine hK _ ?_;clear hK K)
      | (refine q7 ?_ ?_ ?_ ?_ (fun w' hw'=> ?_) ?_ (fun K hK=> ?_)
         ·first|(go_simp;done)|(go_simp;simp [undef];done)
         rotate_left 3
         ·obtain ⟨⟨f1,f2⟩,f3,f4⟩:=HF.out w' hw';go_simp;constructor<;>rfl
         ·first|with_reducible exact uP.out
         go_simp;refine hK _ ?_;clear hK K))
     refine j8 (fun w' hw'=> ?_);have dJ:=Lib.hid (bC.out.trans hw' zi);clear hw'
     go_wp2
     go_ret;exact ⟨m9 (NZ.out sD.out),dJ.out⟩
    have d3:decide ((j:Int)<i)=false:=by simp;omega
    have d4:decide (j<i)=false:=decide_eq_false hjl
    cases B2 with
    | false=>
     have hNf:N=true:=by rw [Ah.out];simp [*]
     refine hh1 hNf fun sD=> ?_;clear hNf
     go_wp2_with (first|((with_reducible refine e9 126 (.tmp 12) ?_);refine ⟨g,off+j*7,rfl,d.cells,Hf.out,zk,zk, ?_⟩)|((with_reducible refine d9 126 (.tmp 6) (.tmp 13) ?_);refine ⟨rfl,d.cells,rfl,rfl,zk,rfl, ?_⟩;rw [aX.out]))
     refine g9 zk zk ?_
     iterate 25 (first
      | (refine j1 ?_ (fun K hK=> ?_)
         ·first|(go_simp;done)|(go_simp;simp [undef];done)
         go_simp;refine hK _ ?_;clear hK K)
      | (refine l9 ?_ ?_ (fun w' hw'=> ?_) (fun K hK=> ?_)
         ·first|(go_simp;done)|(go_simp;simp [undef];done)
         rotate_left
         ·obtain ⟨⟨f1,f2⟩,f3,f4⟩:=HF.out w' hw';go_simp;rfl
         go_simp;refine hK _ ?_;clear hK K)
      | (refine q7 ?_ ?_ ?_ ?_ (fun w' hw'=> ?_) ?_ (fun K hK=> ?_)
         ·first|(go_simp;done)|(go_simp;simp [undef];done)
         rotate_left 3
         ·obtain ⟨⟨f1,f2⟩,f3,f4⟩:=HF.out w' hw';go_simp;constructor<;>rfl
         ·first|with_reducible exact uP.out|with_reducible exact su.out
         go_simp;refine hK _ ?_;clear hK K))
     refine j8 (fun w' hw'=> ?_);have dJ:=Lib.hid (bC.out.trans hw' zi);clear hw'
     go_wp2
     go_ret;exact ⟨m9 (NZ.out sD.out),dJ.out⟩
    |true=>
     have hNf:N=false:=by rw [Ah.out];simp [*]
     refine hh1 hNf fun sD=> ?_;clear hNf
     go_wp2_with (first|((with_reducible refine e9 126 (.tmp 12) ?_);refine ⟨g,off+j*7,rfl,d.cells,Hf.out,zk,zk, ?_⟩)|((with_reducible refine d9 126 (.tmp 6) (.tmp 13) ?_);refine ⟨rfl,d.cells,rfl,rfl,zk,rfl, ?_⟩;rw [aX.out]))
     refine g9 zk zk ?_
     iterate 25 (first
      | (refine j1 ?_ (fun K hK=> ?_)
         ·first|(go_simp;done)|(go_simp;simp [undef];done)
         go_simp;refine hK _ ?_;clear hK K)
      | (refine l9 ?_ ?_ (fun w' hw'=> ?_) (fun K hK=> ?_)
         ·first|(go_simp;done)|(go_simp;simp [undef];done)
         rotate_left
         ·obtain ⟨⟨f1,f2⟩,f3,f4⟩:=HF.out w' hw';go_simp;rfl
         go_simp;refine hK _ ?_;clear hK K)
      | (refine q7 ?_ ?_ ?_ ?_ (fun w' hw'=> ?_) ?_ (fun K hK=> ?_)
         ·first|(go_simp;done)|(go_simp;simp [undef];done)
         rotate_left 3
         ·obtain ⟨⟨f1,f2⟩,f3,f4⟩:=HF.out w' hw';go_simp;constructor<;>rfl
         ·first|with_reducible exact uP.out|with_reducible exact su.out
         go_simp;refine hK _ ?_;clear hK K))
     refine j8 (fun w' hw'=> ?_);have dJ:=Lib.hid (bC.out.trans hw' zi);clear hw'
     go_wp2_with fail
     go_roundw
     case rel=>exact ⟨j+1,by go_num,hlt,dJ.out,nS.out sD.out⟩
     case measure=>simp [intOf];omega
  obtain rfl:j=l.length:=zo
  have Oa:R=false:=by
   rw [<-HR.out];refine List.any_eq_false.2 fun p hp=> ?_;have hp2:=List.mk_mem_zipIdx_iff_getElem?.1 (show (p.1,p.2)∈l.zipIdx from hp);rw [hall p.2 p.1 (zz6 hp2).1 hp2];decide
  refine hh3 hmr hall Oa fun aL aO Rp=> ?_;clear hmr hall Oa
  go_wp2
  go_ret;exact ⟨m9 Rp.out,aL.out⟩
end
section
open Go.RowKit
def a5m (a b:Cnd):Int:=Lib.compareBytes a.prt b.prt
def ltC (a b:Cnd):Bool:=decide (a5m a b<0)
def C6 (s:List Cnd) (j:Nat):List Cnd:=(s.take j).zipIdx.filterMap fun p=>if V6 s p.2 p.1 then none else some p.1
theorem a7I (s:List Cnd) {j:Nat} {c:Cnd} (h:s[j]? =some c):C6 s (j+1)=if V6 s j c then C6 s j else C6 s j++[c]:=by
 obtain ⟨hj,hc⟩:=zz6 h;unfold C6;rw [List.take_succ_eq_append_getElem hj,hc,List.zipIdx_append,List.filterMap_append];have hl:(s.take j).length=j:=by rw [List.length_take];omega
 rw [hl];simp only [List.zipIdx_cons,List.zipIdx_nil,Nat.zero_add];cases hn:V6 s j c<;>simp [hn]
theorem a4y (s:List Cnd) (j:Nat):(C6 s j).length<=j:=by
 unfold C6;refine Nat.le_trans (List.length_filterMap_le _ _) ?_;rw [List.length_zipIdx,List.length_take];omega
def Q7 (l:List Cnd):List Cnd:=F7 ltC (l.map Cnd.norm)
def j7 (l:List Cnd):List Cnd:=C6 (Q7 l) l.length
theorem a1Z (l:List Cnd):(Q7 l).length=l.length:=by unfold Q7;rw [a0d,zz10]
theorem a0S {l:List Cnd} {c:Cnd} (h:c∈Q7 l):∃d∈l,c=d.norm:=by
 obtain ⟨d,h1,h2⟩:=List.mem_map.1 ((a1q ltC _).mem_iff.1 h);exact ⟨d,h1,h2.symm⟩
attribute [local go_sem ↓] K7
theorem b1y (w0 w:World) (hl:L4 w0 w) (a b:Cnd) (ha:a.fits) (hb:b.fits):Calls Tryz.prog 102 #[.agg a.cells.toArray,.agg b.cells.toArray] w fun e w'=>e= .returned (.int .i64 (a5m a b))/\Mod (fun _=>False) w w':=by
 obtain ⟨wa,ak,ae,aa,ah⟩:=g6 w (.cells a.cells.toArray 126);obtain ⟨wb,hwb,ay,aA,aU⟩:=g6 wa (.cells b.cells.toArray 126);have hm2:=ae.trans ay zi;have hga:=ay.heap aa id;rw [ah] at aA;have dD:=hl.mod0 hm2;have fa:d8 wb w.heap.size 0 a.cells:=d8.row hga;have fb:d8 wb (w.heap.size+1) 0 b.cells:=d8.row aA
 have hF:∀w',Mod (fun _=>False) wb w'->(l4 w' w.heap.size 0 7/\cellsOf w' w.heap.size 0 7=a.cells.toArray)/\l4 w' (w.heap.size+1) 0 7/\cellsOf w' (w.heap.size+1) 0 7=b.cells.toArray:=fun w' hw'=>
  ⟨⟨(fa.mod hw' id).all rfl,(fa.mod hw' id).is rfl⟩,(fb.mod hw' id).all rfl,(fb.mod hw' id).is rfl⟩
 have h1:=fun (wx:World) (hx:Mod (fun _=>False) wb wx)=>(a1V w0 wx (dD.mod0 hx) a ha.v ha.name).mono fun e w'' (h:_/\_)=>(⟨h.1,hx.trans h.2 zi⟩:e= .returned (.string (str a.prt))/\Mod (fun _=>False) wb w'');have h2:=fun (wx:World) (hx:Mod (fun _=>False) wb wx)=>(a1V w0 wx (dD.mod0 hx) b hb.v hb.name).mono fun e w'' (h:_/\_)=>(⟨h.1,hx.trans h.2 zi⟩:e= .returned (.string (str b.prt))/\Mod (fun _=>False) wb w'');have h3:=fun (wx:World) (hx:Mod (fun _=>False) wb wx)=>(a7X (str a.prt) (str b.prt) wx).mono fun e w'' (h:_/\_)=>(⟨h.1,h.2.symm▸hx⟩:e= .returned (.int .i64 (Lib.compareBytes (str a.prt).data.toList (str b.prt).data.toList))/\Mod (fun _=>False) wb w'');have hc:Lib.compareBytes (str a.prt).data.toList (str b.prt).data.toList=a5m a b:=by unfold a5m;simp [str]
 rw [hc] at h3;obtain ⟨C,hC⟩:∃C,a5m a b=C:=⟨_,rfl⟩;obtain ⟨sa,hsa⟩:∃s,str a.prt=s:=⟨_,rfl⟩;obtain ⟨sb,hsb⟩:∃s,str b.prt=s:=⟨_,rfl⟩;simp only [hC,hsa,hsb] at h1 h2 h3⊢;refine hh8 ak hwb aa aA hga hm2 dD fa fun aB bN aC bq ku aS rW Fa=> ?_;refine hh8 fb hF h1 h2 h3 hc hC hsa fun Fb HF H1 H2 H3 Hc HC WO=> ?_;refine hh4 hsb hl ha hb fun xH Hl Ha Hb=> ?_;clear ak hwb aa aA hga hm2 dD fa fb hF h1 h2 h3 hc hC hsa hsb hl ha hb ae ay
 go_enter Tryz.func102,Tryz.ntmps102
 go_wp2_with (first|(rw [show w.alloc _=wa from aB.out])|(rw [show wa.alloc _=wb from bN.out]))
 refine g9 zk zk ?_
 iterate 6 (first
  | (refine j1 ?_ (fun K hK=> ?_)
     ·first|(go_simp;done)|(go_simp;simp [undef];done)
     go_simp;refine hK _ ?_;clear hK K)
  | (refine l9 ?_ ?_ (fun w' hw'=> ?_) (fun K hK=> ?_)
     ·first|(go_simp;done)|(go_simp;simp [undef];done)
     rotate_left
     ·obtain ⟨⟨f1,f2⟩,f3,f4⟩:=HF.out w' hw';go_simp;rfl
     go_simp;refine hK _ ?_;clear hK K)
  | (refine q7 ?_ ?_ ?_ ?_ (fun w' hw'=> ?_) ?_ (fun K hK=> ?_)
     ·first|(go_simp;done)|(go_simp;simp [undef];done)
     rotate_left 3
     ·obtain ⟨⟨f1,f2⟩,f3,f4⟩:=HF.out w' hw';go_simp;constructor<;>rfl
     ·first|with_reducible exact H1.out|with_reducible exact H2.out|with_reducible exact H3.out
     go_simp;refine hK _ ?_;clear hK K))
 refine j8 (fun w' hw'=> ?_);have dJ:=Lib.hid (aS.out.trans hw' zi);clear hw'
 go_wp2
 go_ret;exact ⟨rfl,dJ.out⟩
theorem a9G:∀(args:Array Value) (W:World),Sem.run Tryz.prog (callFunc 102 args) W= .ok (.enter 102 args) W:=fun args w=>by simp [go_sem]
theorem b1z:B7 Tryz.prog 32 126 7 72:=I8 zk zk
def b1A (w:World) (sc:ByteArray) (nl:List Cnd) (e:Ending) (w':World):Prop:=
 ∃a cap,e= .returned (.agg #[.string sc,.slice a nl.length cap])/\g7 w' 126 7 (.slice a nl.length cap) nl.length (q8 nl)/\(∀k,(Value.slice a nl.length cap).ownBlock=some k->w.heap.size<=k)/\Mod (fun _=>False) w w'
def b6o (w:World) (l:List Cnd) (lv i:Value) (wr:World):Prop:=
 ∃j a cap,i= .int .i64 (j:Nat)/\j<=l.length/\lv= .slice a j cap/\g7 wr 126 7 (.slice a j cap) j (q8 ((l.take j).map Cnd.norm))/\(∀k,(Value.slice a j cap).ownBlock=some k->w.heap.size<=k)/\Mod (fun _=>False) w wr
def b6p (wo:World) (O n:Nat) (sc:ByteArray) (s:List Cnd) (i:Value) (wr:World):Prop:=
 ∃j a cap,i= .int .i64 (j:Nat)/\j<=n/\wr.heap[O]? =some (.cells #[.string sc,.slice a (C6 s j).length cap] 34 (0,0))/\
  g7 wr 126 7 (.slice a (C6 s j).length cap) (C6 s j).length (q8 (C6 s j))/\(∀k,(Value.slice a (C6 s j).length cap).ownBlock=some k->O<k)/\Mod (fun k=>k=O) wo wr
theorem a5n (w0 w:World) (hl:L4 w0 w) (sc:ByteArray) (cv:Value) (l:List Cnd) (hv:i8 w 7 cv l.length (q8 l)) (hll:l.length<20) (hcs:∀c∈l,c.fits):
 Calls Tryz.prog 72 #[.agg #[.string sc,cv]] w (b1A w sc (j7 l)):=by
 obtain ⟨nl,hnl⟩:∃nl,j7 l=nl:=⟨_,rfl⟩;rw [hnl];obtain ⟨a,cap,rfl,hcap⟩:∃a c,cv= .slice a l.length c/\l.length<=c:=by obtain ⟨-,a,c,h,h2, -⟩:=hv;exact ⟨a,c,h,h2⟩
 have df:(l.length:Int)<20:=zo
 have bG:(l.length:Int)<=cap:=zo
 obtain ⟨wa,ak,ae,aa,ah⟩:=g6 w (.cells #[.string sc,.slice a l.length cap] 34);obtain ⟨wb,hwb,ay,aA,aU⟩:=g6 wa (.cells #[.string ⟨#[]⟩,.slice none 0 0] 34);have hm2:=ae.trans ay zi;have hga:=ay.heap aa id;have hzb:wb.heap.size=w.heap.size+2:=zo
 have hzc:w.heap.size<wa.heap.size:=zo
 have hzd:wa.heap.size<wb.heap.size:=zo
 have hvb:=hv.mod hm2 zi;have c1:wb.cell? ⟨w.heap.size,1,none⟩=some (.slice a l.length cap):=d6 hga rfl;refine hh8 hv hcs hl ak hwb aa aA hga fun Hv iI Hl aB bN aC bq ku=> ?_;refine hh3 hm2 hvb hnl fun aS dY Hnl=> ?_;clear hv hcs hl ak hwb aa aA hga hm2 hvb hnl ae ay ah aU
 go_enter Tryz.func72,Tryz.ntmps72
 go_wp2_with (first|(rw [show w.alloc _=wa from aB.out])|(rw [show wa.alloc _=wb from bN.out]))
 go_loopw [3,12] (fun lv i wr=>b6o wb l lv i wr) (fun _ i _=>l.length - (intOf i).toNat)
 case atStart=>exact ⟨0,none,0,rfl,Nat.zero_le _,rfl,g7.nil _ _ _,fun k hk=>by simp [Value.ownBlock] at hk,Mod.refl _ _⟩
 case round=>
  obtain ⟨j,la,lc,rfl,hj,rfl,hown,hfr,hmr⟩:=hrel;by_cases hlt:j<l.length
  ·have hlt':(j:Int)<l.length:=zo
   obtain ⟨x,hxj⟩:∃x,l[j]? =some x:=⟨_,zz5 hlt⟩;obtain ⟨g,off,rfl,hf⟩:∃g off,a=some ⟨g,off,none⟩/\d8 wr g (off+j*7) x.cells:=U4 (dY.out.mod hmr zi) hxj;obtain ⟨wz,hwz,ag,aj,aF⟩:=g6 wr (.cells x.cells.toArray 126);have hmz:=hmr.trans ag zi;have hcn:=a9F x wz;have kD:=hown.mod ag zi
   have hsn:(l.take (j+1)).map Cnd.norm=(l.take j).map Cnd.norm++[x.norm]:=by
    rw [List.take_succ_eq_append_getElem hlt,List.map_append];congr 2;have:=(zz6 hxj).2;rw [this];rfl
   refine hh8 hown hfr hmr hxj hf hwz ag aj fun bA aW aL dX Hf aX bE aJ=> ?_;refine hh4 hmz hcn kD hsn fun bC GD rA Bu=> ?_;clear hown hfr hmr hxj hf hwz ag aj hmz hcn kD hsn aF
   go_wp2_with (first|((with_reducible refine e9 126 (.tmp 14) ?_);refine ⟨g,off+j*7,rfl,x.cells,Hf.out,zk,zk, ?_⟩)|((with_reducible refine d9 126 (.tmp 5) (.tmp 15) ?_);refine ⟨rfl,x.cells,rfl,rfl,zk,rfl, ?_⟩;rw [aX.out])|((with_reducible refine e9 126 (.tmp 5) ?_);refine ⟨wr.heap.size,0,rfl,x.cells,d8.row aJ.out,zk,zk, ?_⟩))
   refine GD.out.mono ?_;rintro e w3 ⟨rfl,au⟩;have ho3:=rA.out.mod au zi;obtain ⟨w4,hw4,fU,nT,nU⟩:=g6 w3 (.cells x.norm.cells.toArray 126);have hrz:i8 w4 7 (.slice (some ⟨w3.heap.size,0,none⟩) 1 1) 1 x.norm.cells:=hw4▸i8.one w3 x.norm.cells 126 rfl;have hone:∀u∈x.norm.cells,u.oneCell'=true:=fun u hu=>zz15 (show x.norm.cells.all (·.oneCell')=true from rfl) u hu;have lJ:=ho3.mod fU zi;have aV:=(bC.out.trans au zi).trans fU zi;refine hh5 lJ hw4 hrz hone aV fun BL Jm xI aI bS=> ?_;clear lJ hw4 hrz hone aV au ho3 fU nT nU
   go_wp2_with (first|((with_reducible refine C0 32 (.tmp 18) ?_);refine ⟨126,7,Tryz.underlying32,zk,zk,zd,zd,x.norm.cells,rfl,rfl, ?_⟩;rw [Jm.out])|((with_reducible refine l6 (.tmp 16) (.tmp 19) 32 ?_);refine ⟨rfl,126,7,72,b1z,.slice la j lc,j,q8 ((l.take j).map Cnd.norm),rfl,BL.out,_,1,x.norm.cells,rfl,xI.out,aI.out,zo,by unfold maxLen;omega, ?_⟩;intro ad cap5 w5 hA;have HA:=Lib.hid hA;clear hA))
   go_roundw
   case rel=>
    refine ⟨j+1,ad,cap5,by go_num,hlt,rfl, ?_, ?_, ?_⟩
    ·rw [Bu.out,a2y];have:=HA.out.1;rw [show q8 [x.norm]=x.norm.cells from zz11 _];exact this
    ·intro k hk;rcases HA.out.2.2 with h3|⟨k',h3,h4⟩
     ·exact aW.out k (h3▸hk)
     rw [h3] at hk;cases hk
     have:=bS.out.size;omega
    exact bS.out.upon HA.out.2.1 (fun b hb=> .inr (aW.out b hb))
   case measure=>simp [intOf];omega
  obtain rfl:j=l.length:=zo
  rw [List.take_length] at hown
  have hso:∀wx,Mod (inBlock (.slice la l.length lc)) wr wx->L4 w0 wx:=fun wx hx=>((Hl.out.mod0 aS.out).mod0 hmr).mod hx (fun k hk hb=>by
   have h1:=hfr k hb;have h2:=Hl.out.size
   omega)
  have hmem:∀x∈l.map Cnd.norm,x.fits:=fun x hx=>by
   obtain ⟨d,hd,rfl⟩:=List.mem_map.1 hx;exact a1Y (iI.out d hd)
  have sF:=b47 102 a9G a5m wr (.slice la l.length lc) (l.map Cnd.norm) (by rw [zz10];exact hown) (by rw [zz10];exact hll)
   (fun x hx y hy wx hm=>b1y w0 wx (hso wx hm) x y (hmem x hx) (hmem y hy))
  unfold a2X at sF;rw [show F7 (fun a b=>decide (a5m a b<0)) (l.map Cnd.norm)=Q7 l from rfl,a1Z] at sF;refine hh6 hown hfr hmr hso hmem sF fun bA aW aL jA sG BM=> ?_;clear hown hfr hmr hso hmem sF
  go_wp2_with fail
  refine BM.out.mono ?_;rintro e w2 ⟨rfl,ho2,hmo⟩;have aK:Mod (fun _=>False) wb w2:=(aL.out.trans (hmo.mono (G:=fun k=>wb.heap.size<=k) (fun b _ hb=>aW.out b hb)) (fun b hb h=>zo));obtain ⟨wo,hwo,sH,BN,BO⟩:=g6 w2 (.cells #[.string sc,.slice none 0 0] 34);have xJ:=aK.trans sH zi;have c0:w2.cell? ⟨w.heap.size,0,none⟩=some (.string sc):=d6 (aK.heap ku.out id) rfl;have hlo:=(Hl.out.mod0 aS.out).mod0 xJ;have hrs:i8 wo 7 (.slice la l.length lc) l.length (q8 (Q7 l)):=ho2.rd.mod sH zi;have hlb:∀k,(Value.slice la l.length lc).ownBlock=some k->k<w2.heap.size:=ho2.lt
  have fw:∀c∈Q7 l,c.fits:=fun c hc=>by
   obtain ⟨d,hd,rfl⟩:=a0S hc;exact a1Y (iI.out d hd)
  have hlc:l.length<=lc:=by
   obtain ⟨-,a',c',e1,e2, -⟩:=ho2.rd;cases e1
   exact e2
  have Rq:(l.length:Int)<=lc:=zo
  obtain ⟨s,hs⟩:∃s,Q7 l=s:=⟨_,rfl⟩;have hsl:s.length=l.length:=by rw [<-hs,a1Z]
  rw [hs] at hrs fw;refine hh8 ho2 hmo aK hwo sH BN xJ hlo fun Ai ry aN Jn Rs BP BQ BR=> ?_;refine hh6 hrs hlb fw hs hsl BO fun GG BU GH Hs uQ Jo=> ?_;clear ho2 hmo aK hwo sH BN xJ hlo hrs hlb fw hs hsl BO BM jA sG bA aW aL c1 hlc
  go_wp2_with ((with_reducible refine d9 34 (.tmp 6) (.tmp 26) ?_);refine ⟨rfl,[.string sc,.slice none 0 0],rfl,rfl,zk,rfl, ?_⟩;rw [Jn.out])
  go_loopw [29] (fun i wr=>b6p wo w2.heap.size l.length sc s i wr) (fun i _=>l.length - (intOf i).toNat)
  case atStart=>exact ⟨0,none,0,rfl,Nat.zero_le _,BP.out,g7.nil _ _ _,fun k hk=>by simp [Value.ownBlock] at hk,Mod.refl _ _⟩
  case round=>
   obtain ⟨j,oa,oc,rfl,hj,hO,hown,hfr,hmr⟩:=hrel;by_cases hlt:j<l.length
   ·have hlt':(j:Int)<l.length:=zo
    obtain ⟨x,hxj⟩:∃x,s[j]? =some x:=⟨_,zz5 (by rw [uQ.out];exact hlt)⟩;have hrr:i8 wr 7 (.slice la l.length lc) l.length (q8 s):=GG.out.mod hmr (fun b hb h=>by have:=BU.out b hb;omega);obtain ⟨g,off,rfl,hf⟩:∃g off,la=some ⟨g,off,none⟩/\d8 wr g (off+j*7) x.cells:=U4 (by rw [uQ.out];exact hrr) hxj;obtain ⟨wz,hwz,ag,aj,aF⟩:=g6 wr (.cells x.cells.toArray 126);have hne:=a6g wz (.slice (some ⟨g,off,none⟩) l.length lc) s (by rw [uQ.out];exact hrr.mod ag zi) (by rw [uQ.out];omega) j x hxj GH.out;have kE:=ag.heap hO id;have kD:=hown.mod ag zi;have hkp:=a7I s hxj;have Rt:=hmr.size;obtain ⟨N,hN⟩:∃N,V6 s j x=N:=⟨_,rfl⟩;rw [hN] at hne hkp;refine hh8 hO hown hfr hmr hxj hrr hf hwz fun HO bA aW aL dX GI Hf aX=> ?_;refine hh7 ag aj hne kE kD hkp hN fun bE aJ BA Aj rA BD HN=> ?_;clear hO hown hfr hmr hxj hrr hf hwz ag aj hne kE kD hkp hN aF
    go_wp2_with (first|((with_reducible refine e9 126 (.tmp 32) ?_);refine ⟨g,off+j*7,rfl,x.cells,Hf.out,zk,zk, ?_⟩)|((with_reducible refine d9 126 (.tmp 8) (.tmp 33) ?_);refine ⟨rfl,x.cells,rfl,rfl,zk,rfl, ?_⟩;rw [aX.out]))
    refine BA.out.mono ?_;rintro e w3 ⟨rfl,au⟩
    cases N with
    | true=>
     have dZ:=bE.out.trans au zi;refine hh2 au dZ fun aZ iT=> ?_;clear au dZ
     go_wp2_with fail
     go_roundw
     case rel=>
      have hk:C6 s (j+1)=C6 s j:=BD.out;refine ⟨j+1,oa,oc,by go_num,hlt, ?_⟩;rw [hk];exact ⟨iT.out.heap HO.out id,bA.out.mod iT.out zi,aW.out,aL.out.trans iT.out (fun _ _ h=>h.elim)⟩
     case measure=>simp [intOf];omega
    | false=>
     have hk:C6 s (j+1)=C6 s j++[x]:=BD.out;have hxz:=(d8.row aJ.out).mod au id;have dZ:=bE.out.trans au zi;have hO3:=dZ.heap HO.out id;have cO:w3.cell? ⟨w2.heap.size,1,none⟩=some (.slice oa (C6 s j).length oc):=d6 hO3 rfl;obtain ⟨w4,hw4,fU,nT,nU⟩:=g6 w3 (.cells x.cells.toArray 126);have hrz:i8 w4 7 (.slice (some ⟨w3.heap.size,0,none⟩) 1 1) 1 x.cells:=hw4▸i8.one w3 x.cells 126 rfl;have hone:∀u∈x.cells,u.oneCell'=true:=fun u hu=>zz15 (show x.cells.all (·.oneCell')=true from rfl) u hu;have aM:=dZ.trans fU zi;have lJ:=bA.out.mod aM zi;have hO4:=fU.heap hO3 id;have hkc:=a4y s j;obtain ⟨kl,hkl⟩:∃kl,C6 s j=kl:=⟨_,rfl⟩;have hkn:kl.length<=1000:=by rw [<-hkl];omega
     rw [hkl] at lJ hO3 hO4 cO hk;have bX:=aW.out;rw [hkl] at bX;refine hh8 au dZ hk hxz hO3 hrz hone aM fun aZ iT Hk Ob uR xI aI fu=> ?_;refine hh5 lJ hO4 hw4 hkl bX fun BL Rv Jm Oc jB=> ?_;clear au dZ hk hxz hO3 hrz hone aM lJ hO4 hw4 hkl bX fU nT nU hkc
     go_wp2_with (first|((with_reducible refine e9 126 (.tmp 8) ?_);refine ⟨wr.heap.size,0,rfl,x.cells,Ob.out,zk,zk, ?_⟩)|((with_reducible refine C0 32 (.tmp 40) ?_);refine ⟨126,7,Tryz.underlying32,zk,zk,zd,zd,x.cells,rfl,rfl, ?_⟩;rw [Jm.out])|((with_reducible refine l6 (.tmp 39) (.tmp 41) 32 ?_);refine ⟨rfl,126,7,72,b1z,.slice oa kl.length oc,kl.length,q8 kl,rfl,BL.out,_,1,x.cells,rfl,xI.out,aI.out,zo,by unfold maxLen;omega, ?_⟩;intro ad cap5 w5 hA;have nD:=hA.2.1.heap Rv.out (fun hi=>by have:=jB.out _ hi;omega);have c5:w5.cell? ⟨w2.heap.size,1,none⟩=some (.slice oa kl.length oc):=d6 nD rfl;have f5:w5.frozen? ⟨w2.heap.size,1,none⟩=false:=r9 nD;have HA:=Lib.hid hA;have xK:=Lib.hid nD;clear hA nD))
     go_roundw
     case rel=>
      have Ak:Mod (fun k=>k=w2.heap.size) w5 (w5.setCell ⟨w2.heap.size,1,none⟩ (.slice ad (kl.length+1) cap5)):=(Mod.refl (fun k=>k=w2.heap.size) w5).setCell (fun _=>rfl) _
      have fA:∀k,(Value.slice ad (kl.length+1) cap5).ownBlock=some k->w2.heap.size<k:=fun k hk5=>by
       rcases HA.out.2.2 with h3|⟨k',h3,h4⟩
       ·exact jB.out k (h3▸hk5)
       rw [h3] at hk5;cases hk5
       have h5:=fu.out.size;have h6:=aL.out.size;have h7:=(zz7 BP.out).1;omega
      have dz:C6 s (j+1)=kl++[x]:=Hk.out;have hln:(kl++[x]).length=kl.length+1:=by rw [zz4];rfl
      refine ⟨j+1,ad,cap5,by go_num,hlt, ?_, ?_, ?_, ?_⟩
      ·rw [dz,hln];exact j6 xK.out
      ·rw [dz,hln,a2y,show q8 [x]=x.cells from zz11 _];exact HA.out.1.mod Ak (fun b hb h=>by have:=fA b hb;omega)
      ·rw [dz,hln];exact fA
      exact ((aL.out.trans fu.out (fun _ _ h=>h.elim)).upon HA.out.2.1 (fun b hb=> .inr (by
       have:=jB.out b hb;have:wo.heap.size=w2.heap.size+1:=Jo.out
       omega))).upon Ak (fun b hb=> .inl hb)
     case measure=>simp [intOf];omega
   obtain rfl:j=l.length:=zo
   have hfin:C6 s l.length=j7 l:=by unfold j7;rw [Hs.out]
   rw [hfin] at hO hown hfr
   have hB:=(hmr.mono (G:=fun k=>k=w2.heap.size) zi).heap ((BQ.out).heap bq.out id) (fun h=>by
    have h1:=aN.out.size
    omega)
   rw [Hnl.out] at hO hown hfr;have Od:d8 wr w2.heap.size 0 [.string sc,.slice oa nl.length oc]:=d8.row hO;refine hh7 hO hown hfr hmr hfin hB Od fun HO bA aW aL bF HB Rw=> ?_;clear hO hown hfr hmr hfin hB Od
   go_wp2_with (first|((with_reducible refine e9 34 (.tmp 6) ?_);refine ⟨w2.heap.size,0,rfl,[.string sc,.slice oa nl.length oc],Rw.out,zk,zk, ?_⟩)|((with_reducible refine m7 34 (.tmp 2) (.tmp 45) ?_);refine ⟨wa.heap.size,rfl,_,_,HB.out,[.string sc,.slice oa nl.length oc],rfl,rfl,zk,rfl, ?_⟩;intro w6 h6 cz;have H6:=Lib.hid h6;have iU:=Lib.hid cz;clear h6 cz))
   have h1:=aN.out.size;refine y4 rfl wa.heap.size rfl [.string sc,.slice oa nl.length oc] (d8.row H6.out) zk zk rfl ⟨oa,oc,rfl,bA.out.mod iU.out (fun b hb h=>by have:=aW.out b hb;omega),fun k hk=>by have:=aW.out k hk;omega, ?_⟩;refine ((aS.out.trans BQ.out zi).upon aL.out (fun b hb=> .inr ?_)).upon iU.out (fun b hb=> .inr ?_)
   ·rw [hb];omega
   rw [hb];omega
end
end Go.Proofs.YtdmjoodhaeijmaaGreatDoor
