/- Lemmas. -/
import Derived.Test.YtebhabpahfmodaaGreatDoorZh19
import Derived.Test.YtebhabpahfmodaaGreatDoorZh13
import Derived.Test.YtebhabpahfmodaaGreatDoorZh9
set_option maxHeartbeats 40000000
set_option maxRecDepth 20000
namespace Go.Proofs.YtebhabpahfmodaaGreatDoor
section
open Go.RowKit
theorem b0e (c:Cnd) (w:World):Calls Tryz.prog 42 #[.agg c.cells.toArray] w fun e w'=>e= .returned (.agg c.norm.cells.toArray)/\Mod (fun _=>False) w w':=by
 obtain ⟨name,op,v⟩:=c;unfold Cnd.norm;simp only;obtain ⟨wa,aD,ah,ae,au⟩:=g8 w (.cells (Cnd.cells ⟨name,op,v⟩).toArray 87);obtain ⟨wb,hwb,ay,ak,aO⟩:=g8 wa (.cells #[.string ⟨#[]⟩,.int .i64 0,.int .i64 0,.int .i64 0,.float .f64 0,.string ⟨#[]⟩,.bool false] 87);have hgb:=ay.heap ae id;rw [au] at ak;have hm2:=ah.trans ay zi;have c0:wb.cell? ⟨w.heap.size,0,none⟩=some (.string name):=d6 hgb rfl;have c1:wb.cell? ⟨w.heap.size,1,none⟩=some (.int .i64 op):=d6 hgb rfl;have hz2:wa.heap.size=w.heap.size+1:=au;have hs:∀w',Mod (fun k=>k=w.heap.size+1) wb w'->Mod (fun _=>False) w w':=fun w' h=>hm2.trans h (fun b hb h=>zo);by_cases h7:op=7
 ·rw [if_pos h7];subst h7;obtain ⟨aF,bD,aH,aT,mf,bq,Hs⟩:=zh7 aD hwb ae ak hgb hm2 hs;clear aD hwb ae ak hgb hm2 hs ah ay
  go_enter Tryz.func42,Tryz.ntmps42
  go_wp2_with (first|(rw [show w.alloc _=wa from aF.out])|(rw [show wa.alloc _=wb from bD.out])|((with_reducible refine j9 87 (.tmp 2) (.tmp 8) ?_);refine ⟨w.heap.size+1,rfl,_,_,aT.out,(Cnd.cells ⟨name,7,V.zero⟩),rfl,rfl,zk,rfl, ?_⟩;intro w3 h3 aC;have H3:=Lib.hid h3;have bA:=Lib.hid aC;clear h3 aC))
  exact o7 rfl (w.heap.size+1) rfl (Cnd.cells ⟨name,7,V.zero⟩) (e9.row H3.out) zk zk rfl ⟨rfl,Hs.out _ bA.out⟩
 rw [if_neg h7];have d7:(op==7)=false:=by rw [beq_eq_false_iff_ne];exact h7
 have hcv:=a0z hgb;have yR:=fun wx=>a0t v wx;have hSb:(fun z:World=>(z.cell? ⟨w.heap.size,0,none⟩=some (.string name)/\z.cell? ⟨w.heap.size,1,none⟩=some (.int .i64 op))/\l8 z w.heap.size 2 5/\cellsOf z w.heap.size 2 5=v.cells.toArray) wb.drew:=⟨⟨c0,c1⟩,hcv.all rfl,hcv.is rfl⟩;obtain ⟨aF,bD,aH,aT,mf,bq,Hs,Gy,ZV⟩:=zh9 aD hwb ae ak hgb hm2 hs hcv yR;clear aD hwb ae ak hgb hm2 hs hcv yR ah ay h7
 go_enter Tryz.func42,Tryz.ntmps42
 go_wp2_with (first|(rw [show w.alloc _=wa from aF.out])|(rw [show wa.alloc _=wb from bD.out]))
 have hS:=hSb;refine i8 [.rd 0,.rd 1,.rd 2,.rd 3,.rd 4,.rd 5,.go 6,.go 7,.go 8] [0,1,2,3,4,5,6] (fun z:World=>(z.cell? ⟨w.heap.size,0,none⟩=some (.string name)/\z.cell? ⟨w.heap.size,1,none⟩=some (.int .i64 op))/\l8 z w.heap.size 2 5/\cellsOf z w.heap.size 2 5=v.cells.toArray) zk zk (fun _ _ d _ _ h=>(by cases d<;>exact h)) ?_
 iterate 6 (
  refine n4 rfl ?_ (fun _=>hS) ?_ (fun w0 h0=> ?_) (fun K hK=> ?_)
  ·exact zg
  rotate_left
  ·(try simp only [zz1,zz2,zz3])
   first
    |(obtain ⟨⟨f1,f2⟩,f3,f4⟩:=h0 rfl;clear h0;go_simp;with_reducible rfl)
    |(clear h0;go_simp;with_reducible rfl)
  (try simp only [zz1,zz2,zz3])
  go_simp;refine hK _ ?_;clear hK K)
 refine i6 (j0 rfl ?_ (fun K hK=> ?_))
 ·exact zg
 (try simp only [zz1,zz2,zz3])
 go_wp2_with fail
 refine (ZV.out _).mono ?_;rintro e w3 ⟨rfl,aC⟩;have hg3:=(((Mod.refl (fun _=>False) wb).drew).trans aC zi).heap aT.out id;have aS:=((Mod.refl (fun _=>False) wb).drew).trans aC zi;refine hK _ _ (fun _ h=>⟨⟨aC.cell h.1.1 id,aC.cell h.1.2 id⟩,(Gy.out.mod aS id).all rfl,(Gy.out.mod aS id).is rfl⟩) ?_;clear hK K aC;refine i6 (j0 rfl ?_ (fun K hK=> ?_))
 ·exact zg
 (try simp only [zz1,zz2,zz3]);go_simp;refine hK _ _ (fun h=>absurd h zd) ?_;clear hK K;refine i6 (j0 rfl ?_ (fun K hK=> ?_))
 ·exact zg
 (try simp only [zz1,zz2,zz3]);refine a0H 87 (.tmp 2) (.tmp 16) rfl (w.heap.size+1) 0 rfl _ 87 hg3 (Cnd.cells ⟨name,op,v.canon⟩) rfl (Nat.le_refl 7) zk (fun u hu=>zz15 (show (Cnd.cells ⟨name,op,v.canon⟩).all (·.oneCell')=true from rfl) u hu) ?_;have hg4:=setRow_heap w3 (w.heap.size+1) _ ((#[.string ⟨#[]⟩,.int .i64 0,.int .i64 0,.int .i64 0,.float .f64 0,.string ⟨#[]⟩,.bool false]:Array Value).toList.take 0++(Cnd.cells ⟨name,op,v.canon⟩)++(#[.string ⟨#[]⟩,.int .i64 0,.int .i64 0,.int .i64 0,.float .f64 0,.string ⟨#[]⟩,.bool false]:Array Value).toList.drop (0+(Cnd.cells ⟨name,op,v.canon⟩).length)).toArray 87 (0,0) hg3;have aR:Mod (fun k=>k=w.heap.size+1) wb (w3.setRow (w.heap.size+1) ((#[.string ⟨#[]⟩,.int .i64 0,.int .i64 0,.int .i64 0,.float .f64 0,.string ⟨#[]⟩,.bool false]:Array Value).toList.take 0++(Cnd.cells ⟨name,op,v.canon⟩)++(#[.string ⟨#[]⟩,.int .i64 0,.int .i64 0,.int .i64 0,.float .f64 0,.string ⟨#[]⟩,.bool false]:Array Value).toList.drop (0+(Cnd.cells ⟨name,op,v.canon⟩).length)).toArray):=(aS.mono (G:=fun k=>k=w.heap.size+1) (fun _ _ h=>h.elim)).setRow (fun _=>rfl) _;refine hK _ _ (fun h=>absurd h zd) ?_;clear hK K;refine m6 ?_;obtain ⟨GY,dN⟩:=zh2 hg4 aR;clear hg4 aR
 go_wp2_with fail
 exact o7 rfl (w.heap.size+1) rfl (Cnd.cells ⟨name,op,v.canon⟩) (e9.row GY.out) zk zk rfl ⟨rfl,Hs.out _ dN.out⟩
theorem a73 {v:V} (h:v.fits):v.canon.fits:=by
 have h1:=h.int;have h2:=R2 h.num;have h3:=h.text;have z:((⟨#[]⟩:ByteArray)).size<=1000000:=zd
 have zn:(0:Nat)<2^64:=zd
 unfold V.canon;split
 ·exact ⟨h1,zn,z⟩
 split
 ·exact ⟨(by decide: -9223372036854775808<=(0:Int)/\(0:Int)<=9223372036854775807),h2,z⟩
 split
 ·exact ⟨(by decide: -9223372036854775808<=(0:Int)/\(0:Int)<=9223372036854775807),zn,h3⟩
 split
 ·exact ⟨(by decide: -9223372036854775808<=(0:Int)/\(0:Int)<=9223372036854775807),zn,z⟩
 exact ⟨(by decide: -9223372036854775808<=(0:Int)/\(0:Int)<=9223372036854775807),zn,z⟩
theorem a2i {c:Cnd} (h:c.fits):c.norm.fits:=by
 unfold Cnd.norm;split
 ·exact ⟨⟨(by decide: -9223372036854775808<=(0:Int)/\(0:Int)<=9223372036854775807),(by decide:(0:Nat)<2^64),(by decide:((⟨#[]⟩:ByteArray)).size<=1000000)⟩,h.name⟩
 exact ⟨a73 h.v,h.name⟩
def L6 (c:Cnd) (i k:Nat) (d:Cnd):Bool:=decide (k≠i)&&(J6 d c&&(decide (k<i)|| !J6 c d))
def M6 (l:List Cnd) (i:Nat) (c:Cnd):Bool:=l.zipIdx.any fun p=>L6 c i p.2 p.1
attribute [local go_sem ↓] K9
theorem a6A (w:World) (v:Value) (l:List Cnd) (hv:j3 w 7 v l.length (m5 l)) (hll:l.length<=1000) (i:Nat) (c:Cnd) (hi:l[i]? =some c) (hcs:∀c∈l,c.fits):
 Calls Tryz.prog 47 #[v,.int .i64 i] w fun e w'=>e= .returned (.bool (M6 l i c))/\Mod (fun _=>False) w w':=by
 obtain ⟨a,cap,rfl,hcap⟩:∃a c,v= .slice a l.length c/\l.length<=c:=by obtain ⟨-,a,c,h,h2, -⟩:=hv;exact ⟨a,c,h,h2⟩
 have bN:(l.length:Int)<=1000:=zo
 have bf:(l.length:Int)<=cap:=zo
 have hil:i<l.length:=(zz6 hi).1;have ZW:(i:Int)<l.length:=zo
 have hcf:=hcs c (zz8 hi);obtain ⟨R,hR⟩:∃R,M6 l i c=R:=⟨_,rfl⟩;rw [hR];obtain ⟨Hv,gY,Hi,mg,HR⟩:=zh5 hv hcs hi hcf hR;clear hv hcs hi hcf hR
 go_enter Tryz.func47,Tryz.ntmps47
 go_wp2_with fail
 go_loopw [9] (fun x wr=>∃j:Nat,x= .int .i64 j/\j<=l.length/\Mod (fun _=>False) w wr/\(∀(k:Nat) (d:Cnd),k<j->l[k]? =some d->L6 c i k d=false)) (fun x _=>l.length - (intOf x).toNat)
 case atStart=>exact ⟨0,rfl,Nat.zero_le _,Mod.refl _ _,fun k x hk=>zo⟩
 case round =>
  obtain ⟨j,rfl,hj,hmr,hall⟩:=hrel;by_cases hlt:j<l.length
  ·have hlt':(j:Int)<l.length:=zo
   obtain ⟨d,hd⟩:∃d,l[j]? =some d:=⟨_,zz5 hlt⟩;have hdf:=gY.out d (zz8 hd);obtain ⟨g,off,rfl,hf⟩:∃g off,a=some ⟨g,off,none⟩/\e9 wr g (off+j*7) d.cells:=G9 (Hv.out.mod hmr zi) hd;obtain ⟨g',off',hga,hfc⟩:=G9 (Hv.out.mod hmr zi) Hi.out;cases hga
   obtain ⟨wz,hwz,ai,aj,aJ⟩:=g8 wr (.cells d.cells.toArray 87);have hmz:=hmr.trans ai zi;have hfz:=hfc.mod ai id;have hdz:e9 wz wr.heap.size 0 d.cells:=e9.row aj
   have hF:∀w',Mod (fun _=>False) wz w'->(l8 w' wr.heap.size 0 7/\cellsOf w' wr.heap.size 0 7=d.cells.toArray)/\l8 w' g (off+i*7) 7/\cellsOf w' g (off+i*7) 7=c.cells.toArray:=fun w' hw'=>
    ⟨⟨(hdz.mod hw' id).all rfl,(hdz.mod hw' id).is rfl⟩,(hfz.mod hw' id).all rfl,(hfz.mod hw' id).is rfl⟩
   have t1:∀x:Cnd,x.fits->x.v.text.size<=9223372036854775807:=fun x hx=>by have:=hx.v.text;omega
   have hi1:=fun (wx:World) (hx:Mod (fun _=>False) wz wx)=>(Y2 d c (t1 d hdf) (t1 c mg.out) hdf.v.num mg.out.v.num wx).mono fun e w'' (h:_/\_)=>(⟨h.1,hx.trans h.2 zi⟩:e= .returned (.bool (J6 d c))/\Mod (fun _=>False) wz w'');have hi2:=fun (wx:World) (hx:Mod (fun _=>False) wz wx)=>(Y2 c d (t1 c mg.out) (t1 d hdf) mg.out.v.num hdf.v.num wx).mono fun e w'' (h:_/\_)=>(⟨h.1,hx.trans h.2 zi⟩:e= .returned (.bool (J6 c d))/\Mod (fun _=>False) wz w'');obtain ⟨B1,hB1⟩:∃B,J6 d c=B:=⟨_,rfl⟩;obtain ⟨B2,hB2⟩:∃B,J6 c d=B:=⟨_,rfl⟩;obtain ⟨N,hN⟩:∃N,L6 c i j d=N:=⟨_,rfl⟩;have VP:N=(decide (j≠i)&&(B1&&(decide (j<i)|| !B2))):=by rw [<-hN,<-hB1,<-hB2];rfl
   rw [hB1] at hi1;rw [hB2] at hi2
   have VQ:N=true->R=true:=fun h=>by
    rw [<-HR.out];exact List.any_eq_true.2 ⟨(d,j),List.mk_mem_zipIdx_iff_getElem?.2 hd,by rw [<-h];exact hN⟩
   have yS:N=false->∀(k:Nat) (d':Cnd),k<j+1->l[k]? =some d'->L6 c i k d'=false:=fun h k d' hk hd'=>by
    rcases Nat.lt_succ_iff_lt_or_eq.1 hk with hk|rfl
    ·exact hall k d' hk hd'
    rw [hd] at hd';cases hd';rw [hN,h]
   obtain ⟨aK,aM,Hd,Ff,Hf,jo,bi,bn,aN,bG,ZX,Hdz⟩:=zh12 hmr hall hd hdf hf hfc hwz ai aj hmz hfz hdz;obtain ⟨HF,yT,qy,HB1,HB2,HN,GZ,VR,qU⟩:=zh9 hF hi1 hi2 hB1 hB2 hN VP VQ yS;clear hmr hall hd hdf hf hfc hwz ai aj hmz hfz hdz hF hi1 hi2 hB1 hB2 hN VP VQ yS aJ t1;by_cases hji:j=i
   ·subst hji;have d1:((j:Int) !=j)=false:=by simp
    have hNf:N=false:=by rw [GZ.out];simp [*]
    have wI:=zh hNf;clear hNf
    go_wp2_with (first|((with_reducible refine d8 87 (.tmp 12) ?_);refine ⟨g,off+j*7,rfl,d.cells,Hf.out,zk,zk, ?_⟩)|((with_reducible refine d9 87 (.tmp 6) (.tmp 13) ?_);refine ⟨rfl,d.cells,rfl,rfl,zk,rfl, ?_⟩;rw [bi.out]))
    refine i7 zk zk ?_
    iterate 25 (first
     | (refine j6 ?_ (fun K hK=> ?_)
        ·first|(go_simp;done)|(go_simp;simp [undef];done)
        go_simp;refine hK _ ?_;clear hK K)
     | (refine j7 ?_ ?_ (fun w' hw'=> ?_) (fun K hK=> ?_)
        ·first|(go_simp;done)|(go_simp;simp [undef];done)
        rotate_left
        ·skip
         go_simp;rfl
        go_simp;refine hK _ ?_;clear hK K))
    refine j8 (fun w' hw'=> ?_);have bS:=Lib.hid (bG.out.trans hw' zi);clear hw'
    go_wp2_with fail
    go_roundw
    case rel=>exact ⟨j+1,by go_num,hlt,bS.out,qU.out wI.out⟩
    case measure=>simp [intOf];omega
   have d1 :((j:Int) !=i)=true:=by rw [bne_iff_ne];omega
   have d2:decide (j≠i)=true:=decide_eq_true hji
   cases B1 with
   | false=>
    have hNf:N=false:=by rw [GZ.out];simp [*]
    have wI:=zh hNf;clear hNf
    go_wp2_with (first|((with_reducible refine d8 87 (.tmp 12) ?_);refine ⟨g,off+j*7,rfl,d.cells,Hf.out,zk,zk, ?_⟩)|((with_reducible refine d9 87 (.tmp 6) (.tmp 13) ?_);refine ⟨rfl,d.cells,rfl,rfl,zk,rfl, ?_⟩;rw [bi.out]))
    refine i7 zk zk ?_
    iterate 25 (first
     | (refine j6 ?_ (fun K hK=> ?_)
        ·first|(go_simp;done)|(go_simp;simp [undef];done)
        go_simp;refine hK _ ?_;clear hK K)
     | (refine j7 ?_ ?_ (fun w' hw'=> ?_) (fun K hK=> ?_)
        ·first|(go_simp;done)|(go_simp;simp [undef];done)
        rotate_left
        ·obtain ⟨⟨f1,f2⟩,f3,f4⟩:=HF.out w' hw';go_simp;rfl
        go_simp;refine hK _ ?_;clear hK K)
     | (refine m9 ?_ ?_ ?_ ?_ (fun w' hw'=> ?_) ?_ (fun K hK=> ?_)
        ·first|(go_simp;done)|(go_simp;simp [undef];done)
        rotate_left 3
        ·obtain ⟨⟨f1,f2⟩,f3,f4⟩:=HF.out w' hw';go_simp;constructor<;>rfl
        ·first|with_reducible exact yT.out
        go_simp;refine hK _ ?_;clear hK K))
    refine j8 (fun w' hw'=> ?_);have bS:=Lib.hid (bG.out.trans hw' zi);clear hw'
    go_wp2_with fail
    go_roundw
    case rel=>exact ⟨j+1,by go_num,hlt,bS.out,qU.out wI.out⟩
    case measure=>simp [intOf];omega
   | true =>
    by_cases hjl:j<i
    ·have d3:decide ((j:Int)<i)=true:=by simp;omega
     have d4:decide (j<i)=true:=decide_eq_true hjl;have d5:decide ((j:Nat)<i)=true:=d4;have hNf:N=true:=by rw [GZ.out];simp [*]
     have wI:=zh hNf;clear hNf
     go_wp2_with (first|((with_reducible refine d8 87 (.tmp 12) ?_);refine ⟨g,off+j*7,rfl,d.cells,Hf.out,zk,zk, ?_⟩)|((with_reducible refine d9 87 (.tmp 6) (.tmp 13) ?_);refine ⟨rfl,d.cells,rfl,rfl,zk,rfl, ?_⟩;rw [bi.out]))
     refine i7 zk zk ?_
     iterate 25 (first
      | (refine j6 ?_ (fun K hK=> ?_)
         ·first|(go_simp;done)|(go_simp;simp [undef];done)
         go_simp;refine hK _ ?_;clear hK K)
      | (refine j7 ?_ ?_ (fun w' hw'=> ?_) (fun K hK=> ?_)
         ·first|(go_simp;done)|(go_simp;simp [undef];done)
         rotate_left
         ·obtain ⟨⟨f1,f2⟩,f3,f4⟩:=HF.out w' hw';go_simp;rfl
         go_simp;refine hK _ ?_;clear hK K)
      | (refine m9 ?_ ?_ ?_ ?_ (fun w' hw'=> ?_) ?_ (fun K hK=> ?_)
         ·first|(go_simp;done)|(go_simp;simp [undef];done)
         rotate_left 3
         ·obtain ⟨⟨f1,f2⟩,f3,f4⟩:=HF.out w' hw';go_simp;constructor<;>rfl
         ·first|with_reducible exact yT.out
         go_simp;refine hK _ ?_;clear hK K))
     refine j8 (fun w' hw'=> ?_);have bS:=Lib.hid (bG.out.trans hw' zi);clear hw'
     go_wp2
     go_ret;exact ⟨j1 (VR.out wI.out),bS.out⟩
    have d3:decide ((j:Int)<i)=false:=by simp;omega
    have d4:decide (j<i)=false:=decide_eq_false hjl
    cases B2 with
    | false=>
     have hNf:N=true:=by rw [GZ.out];simp [*]
     have wI:=zh hNf;clear hNf
     go_wp2_with (first|((with_reducible refine d8 87 (.tmp 12) ?_);refine ⟨g,off+j*7,rfl,d.cells,Hf.out,zk,zk, ?_⟩)|((with_reducible refine d9 87 (.tmp 6) (.tmp 13) ?_);refine ⟨rfl,d.cells,rfl,rfl,zk,rfl, ?_⟩;rw [bi.out]))
     refine i7 zk zk ?_
     iterate 25 (first
      | (refine j6 ?_ (fun K hK=> ?_)
         ·first|(go_simp;done)|(go_simp;simp [undef];done)
         go_simp;refine hK _ ?_;clear hK K)
      | (refine j7 ?_ ?_ (fun w' hw'=> ?_) (fun K hK=> ?_)
         ·first|(go_simp;done)|(go_simp;simp [undef];done)
         rotate_left
         ·obtain ⟨⟨f1,f2⟩,f3,f4⟩:=HF.out w' hw';go_simp;rfl
         go_simp;refine hK _ ?_;clear hK K)
      | (refine m9 ?_ ?_ ?_ ?_ (fun w' hw'=> ?_) ?_ (fun K hK=> ?_)
         ·first|(go_simp;done)|(go_simp;simp [undef];done)
         rotate_left 3
         ·obtain ⟨⟨f1,f2⟩,f3,f4⟩:=HF.out w' hw';go_simp;constructor<;>rfl
         ·first|with_reducible exact yT.out|with_reducible exact qy.out
         go_simp;refine hK _ ?_;clear hK K))
     refine j8 (fun w' hw'=> ?_);have bS:=Lib.hid (bG.out.trans hw' zi);clear hw'
     go_wp2
     go_ret;exact ⟨j1 (VR.out wI.out),bS.out⟩
    |true=>
     have hNf:N=false:=by rw [GZ.out];simp [*]
     have wI:=zh hNf;clear hNf
     go_wp2_with (first|((with_reducible refine d8 87 (.tmp 12) ?_);refine ⟨g,off+j*7,rfl,d.cells,Hf.out,zk,zk, ?_⟩)|((with_reducible refine d9 87 (.tmp 6) (.tmp 13) ?_);refine ⟨rfl,d.cells,rfl,rfl,zk,rfl, ?_⟩;rw [bi.out]))
     refine i7 zk zk ?_
     iterate 25 (first
      | (refine j6 ?_ (fun K hK=> ?_)
         ·first|(go_simp;done)|(go_simp;simp [undef];done)
         go_simp;refine hK _ ?_;clear hK K)
      | (refine j7 ?_ ?_ (fun w' hw'=> ?_) (fun K hK=> ?_)
         ·first|(go_simp;done)|(go_simp;simp [undef];done)
         rotate_left
         ·obtain ⟨⟨f1,f2⟩,f3,f4⟩:=HF.out w' hw';go_simp;rfl
         go_simp;refine hK _ ?_;clear hK K)
      | (refine m9 ?_ ?_ ?_ ?_ (fun w' hw'=> ?_) ?_ (fun K hK=> ?_)
         ·first|(go_simp;done)|(go_simp;simp [undef];done)
         rotate_left 3
         ·obtain ⟨⟨f1,f2⟩,f3,f4⟩:=HF.out w' hw';go_simp;constructor<;>rfl
         ·first|with_reducible exact yT.out|with_reducible exact qy.out
         go_simp;refine hK _ ?_;clear hK K))
     refine j8 (fun w' hw'=> ?_);have bS:=Lib.hid (bG.out.trans hw' zi);clear hw'
     go_wp2_with fail
     go_roundw
     case rel=>exact ⟨j+1,by go_num,hlt,bS.out,qU.out wI.out⟩
     case measure=>simp [intOf];omega
  obtain rfl:j=l.length:=zo
  have VS:R=false:=by
   rw [<-HR.out];refine List.any_eq_false.2 fun p hp=> ?_;have hp2:=List.mk_mem_zipIdx_iff_getElem?.1 (show (p.1,p.2)∈l.zipIdx from hp);rw [hall p.2 p.1 (zz6 hp2).1 hp2];decide
  obtain ⟨aK,aM,ZY⟩:=zh3 hmr hall VS;clear hmr hall VS
  go_wp2
  go_ret;exact ⟨j1 ZY.out,aK.out⟩
end
section
open Go.RowKit
def a5A (a b:Cnd):Int:=Lib.compareBytes a.prt b.prt
def ltC (a b:Cnd):Bool:=decide (a5A a b<0)
def A9 (s:List Cnd) (j:Nat):List Cnd:=(s.take j).zipIdx.filterMap fun p=>if M6 s p.2 p.1 then none else some p.1
theorem a74 (s:List Cnd) {j:Nat} {c:Cnd} (h:s[j]? =some c):A9 s (j+1)=if M6 s j c then A9 s j else A9 s j++[c]:=by
 obtain ⟨hj,hc⟩:=zz6 h;unfold A9;rw [List.take_succ_eq_append_getElem hj,hc,List.zipIdx_append,List.filterMap_append];have hl:(s.take j).length=j:=by rw [List.length_take];omega
 rw [hl];simp only [List.zipIdx_cons,List.zipIdx_nil,Nat.zero_add];cases hn:M6 s j c<;>simp [hn]
theorem a4V (s:List Cnd) (j:Nat):(A9 s j).length<=j:=by
 unfold A9;refine Nat.le_trans (List.length_filterMap_le _ _) ?_;rw [List.length_zipIdx,List.length_take];omega
def L7 (l:List Cnd):List Cnd:=F3 ltC (l.map Cnd.norm)
def j4 (l:List Cnd):List Cnd:=A9 (L7 l) l.length
theorem a0M (l:List Cnd):(L7 l).length=l.length:=by unfold L7;rw [a0c,zz10]
theorem R7 {l:List Cnd} {c:Cnd} (h:c∈L7 l):∃d∈l,c=d.norm:=by
 obtain ⟨d,h1,h2⟩:=List.mem_map.1 ((a0b ltC _).mem_iff.1 h);exact ⟨d,h1,h2.symm⟩
attribute [local go_sem ↓] K9
theorem b19 (w0 w:World) (hl:N8 w0 w) (a b:Cnd) (ha:a.fits) (hb:b.fits):Calls Tryz.prog 44 #[.agg a.cells.toArray,.agg b.cells.toArray] w fun e w'=>e= .returned (.int .i64 (a5A a b))/\Mod (fun _=>False) w w':=by
 obtain ⟨wa,aD,ah,ae,au⟩:=g8 w (.cells a.cells.toArray 87);obtain ⟨wb,hwb,ay,ak,aO⟩:=g8 wa (.cells b.cells.toArray 87);have hm2:=ah.trans ay zi;have hga:=ay.heap ae id;rw [au] at ak;have dF:=hl.mod0 hm2;have fa:e9 wb w.heap.size 0 a.cells:=e9.row hga;have fb:e9 wb (w.heap.size+1) 0 b.cells:=e9.row ak
 have hF:∀w',Mod (fun _=>False) wb w'->(l8 w' w.heap.size 0 7/\cellsOf w' w.heap.size 0 7=a.cells.toArray)/\l8 w' (w.heap.size+1) 0 7/\cellsOf w' (w.heap.size+1) 0 7=b.cells.toArray:=fun w' hw'=>
  ⟨⟨(fa.mod hw' id).all rfl,(fa.mod hw' id).is rfl⟩,(fb.mod hw' id).all rfl,(fb.mod hw' id).is rfl⟩
 have h1:=fun (wx:World) (hx:Mod (fun _=>False) wb wx)=>(a2d w0 wx (dF.mod0 hx) a ha.v ha.name).mono fun e w'' (h:_/\_)=>(⟨h.1,hx.trans h.2 zi⟩:e= .returned (.string (str a.prt))/\Mod (fun _=>False) wb w'');have h2:=fun (wx:World) (hx:Mod (fun _=>False) wb wx)=>(a2d w0 wx (dF.mod0 hx) b hb.v hb.name).mono fun e w'' (h:_/\_)=>(⟨h.1,hx.trans h.2 zi⟩:e= .returned (.string (str b.prt))/\Mod (fun _=>False) wb w'');have h3:=fun (wx:World) (hx:Mod (fun _=>False) wb wx)=>(a8t (str a.prt) (str b.prt) wx).mono fun e w'' (h:_/\_)=>(⟨h.1,h.2.symm▸hx⟩:e= .returned (.int .i64 (Lib.compareBytes (str a.prt).data.toList (str b.prt).data.toList))/\Mod (fun _=>False) wb w'');have hc:Lib.compareBytes (str a.prt).data.toList (str b.prt).data.toList=a5A a b:=by unfold a5A;simp [str]
 rw [hc] at h3;obtain ⟨C,hC⟩:∃C,a5A a b=C:=⟨_,rfl⟩;obtain ⟨sa,hsa⟩:∃s,str a.prt=s:=⟨_,rfl⟩;obtain ⟨sb,hsb⟩:∃s,str b.prt=s:=⟨_,rfl⟩;simp only [hC,hsa,hsb] at h1 h2 h3⊢;obtain ⟨aF,bD,aH,aT,qM,bq,wh,Fa,Fb,HF,H1,H2⟩:=zh12 aD hwb ae ak hga hm2 dF fa fb hF h1 h2;obtain ⟨H3,Hc,HC,Hsa,HY,Hl,Ha,Hb⟩:=zh8 h3 hc hC hsa hsb hl ha hb;clear aD hwb ae ak hga hm2 dF fa fb hF h1 h2 h3 hc hC hsa hsb hl ha hb ah ay
 go_enter Tryz.func44,Tryz.ntmps44
 go_wp2_with (first|(rw [show w.alloc _=wa from aF.out])|(rw [show wa.alloc _=wb from bD.out]))
 refine i7 zk zk ?_
 iterate 6 (first
  | (refine j6 ?_ (fun K hK=> ?_)
     ·first|(go_simp;done)|(go_simp;simp [undef];done)
     go_simp;refine hK _ ?_;clear hK K)
  | (refine j7 ?_ ?_ (fun w' hw'=> ?_) (fun K hK=> ?_)
     ·first|(go_simp;done)|(go_simp;simp [undef];done)
     rotate_left
     ·obtain ⟨⟨f1,f2⟩,f3,f4⟩:=HF.out w' hw';go_simp;rfl
     go_simp;refine hK _ ?_;clear hK K)
  | (refine m9 ?_ ?_ ?_ ?_ (fun w' hw'=> ?_) ?_ (fun K hK=> ?_)
     ·first|(go_simp;done)|(go_simp;simp [undef];done)
     rotate_left 3
     ·obtain ⟨⟨f1,f2⟩,f3,f4⟩:=HF.out w' hw';go_simp;constructor<;>rfl
     ·first|with_reducible exact H1.out|with_reducible exact H2.out|with_reducible exact H3.out
     go_simp;refine hK _ ?_;clear hK K))
 refine j8 (fun w' hw'=> ?_);have bS:=Lib.hid (bq.out.trans hw' zi);clear hw'
 go_wp2
 go_ret;exact ⟨rfl,bS.out⟩
theorem b0f:∀(args:Array Value) (W:World),Sem.run Tryz.prog (callFunc 44 args) W= .ok (.enter 44 args) W:=fun args w=>by simp [go_sem]
theorem b2a:E7 Tryz.prog 24 87 7 72:=O8 zk zk
def b2b (w:World) (sc:ByteArray) (nl:List Cnd) (e:Ending) (w':World):Prop:=
 ∃a cap,e= .returned (.agg #[.string sc,.slice a nl.length cap])/\j2 w' 87 7 (.slice a nl.length cap) nl.length (m5 nl)/\(∀k,(Value.slice a nl.length cap).ownBlock=some k->w.heap.size<=k)/\Mod (fun _=>False) w w'
def b6x (w:World) (l:List Cnd) (lv i:Value) (wr:World):Prop:=
 ∃j a cap,i= .int .i64 (j:Nat)/\j<=l.length/\lv= .slice a j cap/\j2 wr 87 7 (.slice a j cap) j (m5 ((l.take j).map Cnd.norm))/\(∀k,(Value.slice a j cap).ownBlock=some k->w.heap.size<=k)/\Mod (fun _=>False) w wr
def b6y (wo:World) (O n:Nat) (sc:ByteArray) (s:List Cnd) (i:Value) (wr:World):Prop:=
 ∃j a cap,i= .int .i64 (j:Nat)/\j<=n/\wr.heap[O]? =some (.cells #[.string sc,.slice a (A9 s j).length cap] 26 (0,0))/\
  j2 wr 87 7 (.slice a (A9 s j).length cap) (A9 s j).length (m5 (A9 s j))/\(∀k,(Value.slice a (A9 s j).length cap).ownBlock=some k->O<k)/\Mod (fun k=>k=O) wo wr
theorem Y7 (w0 w:World) (hl:N8 w0 w) (sc:ByteArray) (cv:Value) (l:List Cnd) (hv:j3 w 7 cv l.length (m5 l)) (hll:l.length<20) (hcs:∀c∈l,c.fits):
 Calls Tryz.prog 15 #[.agg #[.string sc,cv]] w (b2b w sc (j4 l)):=by
 obtain ⟨nl,hnl⟩:∃nl,j4 l=nl:=⟨_,rfl⟩;rw [hnl];obtain ⟨a,cap,rfl,hcap⟩:∃a c,cv= .slice a l.length c/\l.length<=c:=by obtain ⟨-,a,c,h,h2, -⟩:=hv;exact ⟨a,c,h,h2⟩
 have bN:(l.length:Int)<20:=zo
 have bf:(l.length:Int)<=cap:=zo
 obtain ⟨wa,aD,ah,ae,au⟩:=g8 w (.cells #[.string sc,.slice a l.length cap] 26);obtain ⟨wb,hwb,ay,ak,aO⟩:=g8 wa (.cells #[.string ⟨#[]⟩,.slice none 0 0] 26);have hm2:=ah.trans ay zi;have hga:=ay.heap ae id;have hzb:wb.heap.size=w.heap.size+2:=zo
 have hzc:w.heap.size<wa.heap.size:=zo
 have hzd:wa.heap.size<wb.heap.size:=zo
 have hvb:=hv.mod hm2 zi;have c1:wb.cell? ⟨w.heap.size,1,none⟩=some (.slice a l.length cap):=d6 hga rfl;obtain ⟨Hv,gY,Hl,aF,bD,aH,aT,qM,bq,dX,Hnl⟩:=zh11 hv hcs hl aD hwb ae ak hga hm2 hvb hnl;clear hv hcs hl aD hwb ae ak hga hm2 hvb hnl ah ay au aO
 go_enter Tryz.func15,Tryz.ntmps15
 go_wp2_with (first|(rw [show w.alloc _=wa from aF.out])|(rw [show wa.alloc _=wb from bD.out]))
 go_loopw [3,12] (fun lv i wr=>b6x wb l lv i wr) (fun _ i _=>l.length - (intOf i).toNat)
 case atStart=>exact ⟨0,none,0,rfl,Nat.zero_le _,rfl,j2.nil _ _ _,fun k hk=>by simp [Value.ownBlock] at hk,Mod.refl _ _⟩
 case round=>
  obtain ⟨j,la,lc,rfl,hj,rfl,hown,hfr,hmr⟩:=hrel;by_cases hlt:j<l.length
  ·have hlt':(j:Int)<l.length:=zo
   obtain ⟨x,hxj⟩:∃x,l[j]? =some x:=⟨_,zz5 hlt⟩;obtain ⟨g,off,rfl,hf⟩:∃g off,a=some ⟨g,off,none⟩/\e9 wr g (off+j*7) x.cells:=G9 (dX.out.mod hmr zi) hxj;obtain ⟨wz,hwz,ai,aj,aJ⟩:=g8 wr (.cells x.cells.toArray 87);have hmz:=hmr.trans ai zi;have hcn:=b0e x wz;have jC:=hown.mod ai zi
   have hsn:(l.take (j+1)).map Cnd.norm=(l.take j).map Cnd.norm++[x.norm]:=by
    rw [List.take_succ_eq_append_getElem hlt,List.map_append];congr 2;have:=(zz6 hxj).2;rw [this];rfl
   obtain ⟨aZ,bB,aK,cB,Hf,bi,bn,aN,bG,NE,nG,Gz⟩:=zh12 hown hfr hmr hxj hf hwz ai aj hmz hcn jC hsn;clear hown hfr hmr hxj hf hwz ai aj hmz hcn jC hsn aJ
   go_wp2_with (first|((with_reducible refine d8 87 (.tmp 14) ?_);refine ⟨g,off+j*7,rfl,x.cells,Hf.out,zk,zk, ?_⟩)|((with_reducible refine d9 87 (.tmp 5) (.tmp 15) ?_);refine ⟨rfl,x.cells,rfl,rfl,zk,rfl, ?_⟩;rw [bi.out])|((with_reducible refine d8 87 (.tmp 5) ?_);refine ⟨wr.heap.size,0,rfl,x.cells,e9.row aN.out,zk,zk, ?_⟩))
   refine NE.out.mono ?_;rintro e w3 ⟨rfl,aC⟩;have ho3:=nG.out.mod aC zi;obtain ⟨w4,hw4,mh,Br,Bt⟩:=g8 w3 (.cells x.norm.cells.toArray 87);have hrz:j3 w4 7 (.slice (some ⟨w3.heap.size,0,none⟩) 1 1) 1 x.norm.cells:=hw4▸j3.one w3 x.norm.cells 87 rfl;have hone:∀u∈x.norm.cells,u.oneCell'=true:=fun u hu=>zz15 (show x.norm.cells.all (·.oneCell')=true from rfl) u hu;have iV:=ho3.mod mh zi;have aY:=(bG.out.trans aC zi).trans mh zi;obtain ⟨uX,Bu,qV,aX,bK⟩:=zh5 iV hw4 hrz hone aY;clear iV hw4 hrz hone aY aC ho3 mh Br Bt
   go_wp2_with (first|((with_reducible refine B3 24 (.tmp 18) ?_);refine ⟨87,7,Tryz.underlying24,zk,zk,zd,zd,x.norm.cells,rfl,rfl, ?_⟩;rw [Bu.out])|((with_reducible refine l0 (.tmp 16) (.tmp 19) 24 ?_);refine ⟨rfl,87,7,72,b2a,.slice la j lc,j,m5 ((l.take j).map Cnd.norm),rfl,uX.out,_,1,x.norm.cells,rfl,qV.out,aX.out,zo,by unfold maxLen;omega, ?_⟩;intro ad cap5 w5 hA;have HA:=Lib.hid hA;clear hA))
   go_roundw
   case rel=>
    refine ⟨j+1,ad,cap5,by go_num,hlt,rfl, ?_, ?_, ?_⟩
    ·rw [Gz.out,a2N];have:=HA.out.1;rw [show m5 [x.norm]=x.norm.cells from zz11 _];exact this
    ·intro k hk;rcases HA.out.2.2 with h3|⟨k',h3,h4⟩
     ·exact bB.out k (h3▸hk)
     rw [h3] at hk;cases hk
     have:=bK.out.size;omega
    exact bK.out.upon HA.out.2.1 (fun b hb=> .inr (bB.out b hb))
   case measure=>simp [intOf];omega
  obtain rfl:j=l.length:=zo
  rw [List.take_length] at hown
  have hso:∀wx,Mod (l5 (.slice la l.length lc)) wr wx->N8 w0 wx:=fun wx hx=>((Hl.out.mod0 bq.out).mod0 hmr).mod hx (fun k hk hb=>by
   have h1:=hfr k hb;have h2:=Hl.out.size
   omega)
  have hmem:∀x∈l.map Cnd.norm,x.fits:=fun x hx=>by
   obtain ⟨d,hd,rfl⟩:=List.mem_map.1 hx;exact a2i (gY.out d hd)
  have wJ:=b5p 44 b0f a5A wr (.slice la l.length lc) (l.map Cnd.norm) (by rw [zz10];exact hown) (by rw [zz10];exact hll)
   (fun x hx y hy wx hm=>b19 w0 wx (hso wx hm) x y (hmem x hx) (hmem y hy))
  unfold a3w at wJ;rw [show F3 (fun a b=>decide (a5A a b<0)) (l.map Cnd.norm)=L7 l from rfl,a0M] at wJ;obtain ⟨aZ,bB,aK,oK,oL,HZ⟩:=zh6 hown hfr hmr hso hmem wJ;clear hown hfr hmr hso hmem wJ
  go_wp2_with fail
  refine HZ.out.mono ?_;rintro e w2 ⟨rfl,ho2,hmo⟩;have aG:Mod (fun _=>False) wb w2:=(aK.out.trans (hmo.mono (G:=fun k=>wb.heap.size<=k) (fun b _ hb=>bB.out b hb)) (fun b hb h=>zo));obtain ⟨wo,hwo,wL,H5,H8⟩:=g8 w2 (.cells #[.string sc,.slice none 0 0] 26);have Bv:=aG.trans wL zi;have c0:w2.cell? ⟨w.heap.size,0,none⟩=some (.string sc):=d6 (aG.heap qM.out id) rfl;have hlo:=(Hl.out.mod0 bq.out).mod0 Bv;have hrs:j3 wo 7 (.slice la l.length lc) l.length (m5 (L7 l)):=ho2.rd.mod wL zi;have hlb:∀k,(Value.slice la l.length lc).ownBlock=some k->k<w2.heap.size:=ho2.lt
  have gZ:∀c∈L7 l,c.fits:=fun c hc=>by
   obtain ⟨d,hd,rfl⟩:=R7 hc;exact a2i (gY.out d hd)
  have hlc:l.length<=lc:=by
   obtain ⟨-,a',c',e1,e2, -⟩:=ho2.rd;cases e1
   exact e2
  have ZZ:(l.length:Int)<=lc:=zo
  obtain ⟨s,hs⟩:∃s,L7 l=s:=⟨_,rfl⟩;have hsl:s.length=l.length:=by rw [<-hs,a0M]
  rw [hs] at hrs gZ;obtain ⟨uY,Fg,aI,PO,b67,H9,Ia,PP,NF,Hlb,NG,Hs⟩:=zh12 ho2 hmo aG hwo wL H5 Bv hlo hrs hlb gZ hs;obtain ⟨oM,PQ⟩:=zh2 hsl H8;clear ho2 hmo aG hwo wL H5 Bv hlo hrs hlb gZ hs hsl H8 HZ oK oL aZ bB aK c1 hlc
  go_wp2_with ((with_reducible refine d9 26 (.tmp 6) (.tmp 26) ?_);refine ⟨rfl,[.string sc,.slice none 0 0],rfl,rfl,zk,rfl, ?_⟩;rw [PO.out])
  go_loopw [29] (fun i wr=>b6y wo w2.heap.size l.length sc s i wr) (fun i _=>l.length - (intOf i).toNat)
  case atStart=>exact ⟨0,none,0,rfl,Nat.zero_le _,H9.out,j2.nil _ _ _,fun k hk=>by simp [Value.ownBlock] at hk,Mod.refl _ _⟩
  case round=>
   obtain ⟨j,oa,oc,rfl,hj,hO,hown,hfr,hmr⟩:=hrel;by_cases hlt:j<l.length
   ·have hlt':(j:Int)<l.length:=zo
    obtain ⟨x,hxj⟩:∃x,s[j]? =some x:=⟨_,zz5 (by rw [oM.out];exact hlt)⟩;have hrr:j3 wr 7 (.slice la l.length lc) l.length (m5 s):=NF.out.mod hmr (fun b hb h=>by have:=Hlb.out b hb;omega);obtain ⟨g,off,rfl,hf⟩:∃g off,la=some ⟨g,off,none⟩/\e9 wr g (off+j*7) x.cells:=G9 (by rw [oM.out];exact hrr) hxj;obtain ⟨wz,hwz,ai,aj,aJ⟩:=g8 wr (.cells x.cells.toArray 87);have hne:=a6A wz (.slice (some ⟨g,off,none⟩) l.length lc) s (by rw [oM.out];exact hrr.mod ai zi) (by rw [oM.out];omega) j x hxj NG.out;have kI:=ai.heap hO id;have jC:=hown.mod ai zi;have hkp:=a74 s hxj;have b68:=hmr.size;obtain ⟨N,hN⟩:∃N,M6 s j x=N:=⟨_,rfl⟩;rw [hN] at hne hkp;obtain ⟨HO,aZ,bB,aK,cB,Ib,Hf,bi,bn,aN,Hne,yU⟩:=zh12 hO hown hfr hmr hxj hrr hf hwz ai aj hne kI;obtain ⟨nG,uV,HN⟩:=zh3 jC hkp hN;clear hO hown hfr hmr hxj hrr hf hwz ai aj hne kI jC hkp hN aJ
    go_wp2_with (first|((with_reducible refine d8 87 (.tmp 32) ?_);refine ⟨g,off+j*7,rfl,x.cells,Hf.out,zk,zk, ?_⟩)|((with_reducible refine d9 87 (.tmp 8) (.tmp 33) ?_);refine ⟨rfl,x.cells,rfl,rfl,zk,rfl, ?_⟩;rw [bi.out]))
    refine Hne.out.mono ?_;rintro e w3 ⟨rfl,aC⟩
    cases N with
    | true=>
     have fM:=bn.out.trans aC zi;obtain ⟨bA,kJ⟩:=zh2 aC fM;clear aC fM
     go_wp2_with fail
     go_roundw
     case rel=>
      have hk:A9 s (j+1)=A9 s j:=uV.out;refine ⟨j+1,oa,oc,by go_num,hlt, ?_⟩;rw [hk];exact ⟨kJ.out.heap HO.out id,aZ.out.mod kJ.out zi,bB.out,aK.out.trans kJ.out (fun _ _ h=>h.elim)⟩
     case measure=>simp [intOf];omega
    | false=>
     have hk:A9 s (j+1)=A9 s j++[x]:=uV.out;have hxz:=(e9.row aN.out).mod aC id;have fM:=bn.out.trans aC zi;have hO3:=fM.heap HO.out id;have cO:w3.cell? ⟨w2.heap.size,1,none⟩=some (.slice oa (A9 s j).length oc):=d6 hO3 rfl;obtain ⟨w4,hw4,mh,Br,Bt⟩:=g8 w3 (.cells x.cells.toArray 87);have hrz:j3 w4 7 (.slice (some ⟨w3.heap.size,0,none⟩) 1 1) 1 x.cells:=hw4▸j3.one w3 x.cells 87 rfl;have hone:∀u∈x.cells,u.oneCell'=true:=fun u hu=>zz15 (show x.cells.all (·.oneCell')=true from rfl) u hu;have aR:=fM.trans mh zi;have iV:=aZ.out.mod aR zi;have hO4:=mh.heap hO3 id;have hkc:=a4V s j;obtain ⟨kl,hkl⟩:∃kl,A9 s j=kl:=⟨_,rfl⟩;have hkn:kl.length<=1000:=by rw [<-hkl];omega
     rw [hkl] at iV hO3 hO4 cO hk;have dG:=bB.out;rw [hkl] at dG;obtain ⟨bA,kJ,Hk,NH,yV,qV,aX,dN,uX,PR,Bu,VT⟩:=zh12 aC fM hk hxz hO3 hrz hone aR iV hO4 hw4 hkl;have mq:=zh dG;clear aC fM hk hxz hO3 hrz hone aR iV hO4 hw4 hkl dG mh Br Bt hkc
     go_wp2_with (first|((with_reducible refine d8 87 (.tmp 8) ?_);refine ⟨wr.heap.size,0,rfl,x.cells,NH.out,zk,zk, ?_⟩)|((with_reducible refine B3 24 (.tmp 40) ?_);refine ⟨87,7,Tryz.underlying24,zk,zk,zd,zd,x.cells,rfl,rfl, ?_⟩;rw [Bu.out])|((with_reducible refine l0 (.tmp 39) (.tmp 41) 24 ?_);refine ⟨rfl,87,7,72,b2a,.slice oa kl.length oc,kl.length,m5 kl,rfl,uX.out,_,1,x.cells,rfl,qV.out,aX.out,zo,by unfold maxLen;omega, ?_⟩;intro ad cap5 w5 hA;have iZ:=hA.2.1.heap PR.out (fun hi=>by have:=mq.out _ hi;omega);have c5:w5.cell? ⟨w2.heap.size,1,none⟩=some (.slice oa kl.length oc):=d6 iZ rfl;have f5:w5.frozen? ⟨w2.heap.size,1,none⟩=false:=J1 iZ;have HA:=Lib.hid hA;have qz:=Lib.hid iZ;clear hA iZ))
     go_roundw
     case rel=>
      have Fh:Mod (fun k=>k=w2.heap.size) w5 (w5.setCell ⟨w2.heap.size,1,none⟩ (.slice ad (kl.length+1) cap5)):=(Mod.refl (fun k=>k=w2.heap.size) w5).setCell (fun _=>rfl) _
      have df:∀k,(Value.slice ad (kl.length+1) cap5).ownBlock=some k->w2.heap.size<k:=fun k hk5=>by
       rcases HA.out.2.2 with h3|⟨k',h3,h4⟩
       ·exact mq.out k (h3▸hk5)
       rw [h3] at hk5;cases hk5
       have h5:=dN.out.size;have h6:=aK.out.size;have h7:=(zz7 H9.out).1;omega
      have dP:A9 s (j+1)=kl++[x]:=Hk.out;have hln:(kl++[x]).length=kl.length+1:=by rw [zz4];rfl
      refine ⟨j+1,ad,cap5,by go_num,hlt, ?_, ?_, ?_, ?_⟩
      ·rw [dP,hln];exact o6 qz.out
      ·rw [dP,hln,a2N,show m5 [x]=x.cells from zz11 _];exact HA.out.1.mod Fh (fun b hb h=>by have:=df b hb;omega)
      ·rw [dP,hln];exact df
      exact ((aK.out.trans dN.out (fun _ _ h=>h.elim)).upon HA.out.2.1 (fun b hb=> .inr (by
       have:=mq.out b hb;have:wo.heap.size=w2.heap.size+1:=PQ.out
       omega))).upon Fh (fun b hb=> .inl hb)
     case measure=>simp [intOf];omega
   obtain rfl:j=l.length:=zo
   have hfin:A9 s l.length=j4 l:=by unfold j4;rw [Hs.out]
   rw [hfin] at hO hown hfr
   have hB:=(hmr.mono (G:=fun k=>k=w2.heap.size) zi).heap ((Ia.out).heap aT.out id) (fun h=>by
    have h1:=aI.out.size
    omega)
   rw [Hnl.out] at hO hown hfr;have VU:e9 wr w2.heap.size 0 [.string sc,.slice oa nl.length oc]:=e9.row hO;obtain ⟨HO,aZ,bB,aK,cZ,HB,HOc⟩:=zh7 hO hown hfr hmr hfin hB VU;clear hO hown hfr hmr hfin hB VU
   go_wp2_with (first|((with_reducible refine d8 26 (.tmp 6) ?_);refine ⟨w2.heap.size,0,rfl,[.string sc,.slice oa nl.length oc],HOc.out,zk,zk, ?_⟩)|((with_reducible refine j9 26 (.tmp 2) (.tmp 45) ?_);refine ⟨wa.heap.size,rfl,_,_,HB.out,[.string sc,.slice oa nl.length oc],rfl,rfl,zk,rfl, ?_⟩;intro w6 h6 bU;have H6:=Lib.hid h6;have gF:=Lib.hid bU;clear h6 bU))
   have h1:=aI.out.size;refine o7 rfl wa.heap.size rfl [.string sc,.slice oa nl.length oc] (e9.row H6.out) zk zk rfl ⟨oa,oc,rfl,aZ.out.mod gF.out (fun b hb h=>by have:=bB.out b hb;omega),fun k hk=>by have:=bB.out k hk;omega, ?_⟩;refine ((bq.out.trans Ia.out zi).upon aK.out (fun b hb=> .inr ?_)).upon gF.out (fun b hb=> .inr ?_)
   ·rw [hb];omega
   rw [hb];omega
end
end Go.Proofs.YtebhabpahfmodaaGreatDoor
