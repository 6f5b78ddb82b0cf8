/- Lemmas. -/
import Derived.Test.YtaenebdppkjhoaaGreatDoorZg22
import Derived.Test.YtaenebdppkjhoaaGreatDoorZg16
import Derived.Test.YtaenebdppkjhoaaGreatDoorZg12
namespace Go.Proofs.YtaenebdppkjhoaaGreatDoor
set_option maxRecDepth 20000
set_option maxHeartbeats 40000000
section
open Go.RowKit
theorem a85 (c:Cnd) (w:World):Calls Tryz.prog 72 #[.agg c.cells.toArray] w fun e w'=>e= .returned (.agg c.norm.cells.toArray)/\Mod (fun _=>False) w w':=by
 obtain ⟨name,op,v⟩:=c;unfold Cnd.norm;simp only;obtain ⟨wa,hwa,hmwa,hgwa,hzwa⟩:=e8 w (.cells (Cnd.cells ⟨name,op,v⟩).toArray 132);obtain ⟨wb,hwb,hmwb,hgwb,hzwb⟩:=e8 wa (.cells #[.string ⟨#[]⟩,.int .i64 0,.int .i64 0,.int .i64 0,.float .f64 0,.string ⟨#[]⟩,.bool false] 132);have hgb:=hmwb.heap hgwa (fun h=>h);rw [hzwa] at hgwb;have hm2:=hmwa.trans hmwb (fun _ _ h=>h);have c0:wb.cell? ⟨w.heap.size,0,none⟩=some (.string name):=d6 hgb rfl;have c1:wb.cell? ⟨w.heap.size,1,none⟩=some (.int .i64 op):=d6 hgb rfl;have hz2:wa.heap.size=w.heap.size+1:=hzwa;have hs:∀w',Mod (fun k=>k=w.heap.size+1) wb w'->Mod (fun _=>False) w w':=fun w' h=>hm2.trans h (fun b hb h=>by omega);by_cases h7:op=7
 ·rw [if_pos h7];subst h7;obtain ⟨Hwa,Hwb,Hgwa,Hgwb,Hgb,Hm2,Hs⟩:=zh7 hwa hwb hgwa hgwb hgb hm2 hs;clear hwa hwb hgwa hgwb hgb hm2 hs hmwa hmwb
  go_enter Tryz.func72,Tryz.ntmps72
  go_wp2_with (first|(rw [show w.alloc _=wa from Hwa.out])|(rw [show wa.alloc _=wb from Hwb.out])|((with_reducible refine j3 132 (.tmp 2) (.tmp 8) ?_);refine ⟨w.heap.size+1,rfl,_,_,Hgwb.out,(Cnd.cells ⟨name,7,V.zero⟩),rfl,rfl,by kernel_rfl,rfl, ?_⟩;intro w3 h3 hm3;have H3:=Lib.hid h3;have Hm3:=Lib.hid hm3;clear h3 hm3)|fail)
  exact o3 rfl (w.heap.size+1) rfl (Cnd.cells ⟨name,7,V.zero⟩) (e7.row H3.out) (by kernel_rfl) (by kernel_rfl) rfl ⟨rfl,Hs.out _ Hm3.out⟩
 rw [if_neg h7];have d7:(op==7)=false:=by rw [beq_eq_false_iff_ne];exact h7
 have hcv:=Z7 hgb;have hvc:=fun wx=>Y7 v wx;have hSb:(fun z:World=>(z.cell? ⟨w.heap.size,0,none⟩=some (.string name)/\z.cell? ⟨w.heap.size,1,none⟩=some (.int .i64 op))/\j9 z w.heap.size 2 5/\cellsOf z w.heap.size 2 5=v.cells.toArray) wb.drew:=⟨⟨c0,c1⟩,hcv.all rfl,hcv.is rfl⟩;obtain ⟨Hwa,Hwb,Hgwa,Hgwb,Hgb,Hm2,Hs,Hcv,Hvc⟩:=zh9 hwa hwb hgwa hgwb hgb hm2 hs hcv hvc;clear hwa hwb hgwa hgwb hgb hm2 hs hcv hvc hmwa hmwb h7
 go_enter Tryz.func72,Tryz.ntmps72
 go_wp2_with (first|(rw [show w.alloc _=wa from Hwa.out])|(rw [show wa.alloc _=wb from Hwb.out])|fail)
 have hS:=hSb;refine g8 [.rd 0,.rd 1,.rd 2,.rd 3,.rd 4,.rd 5,.go 6,.go 7,.go 8] [0,1,2,3,4,5,6] (fun z:World=>(z.cell? ⟨w.heap.size,0,none⟩=some (.string name)/\z.cell? ⟨w.heap.size,1,none⟩=some (.int .i64 op))/\j9 z w.heap.size 2 5/\cellsOf z w.heap.size 2 5=v.cells.toArray) (by kernel_rfl) (by kernel_rfl) (fun _ _ d _ _ h=>(by cases d<;>exact h)) ?_
 iterate 6 (
  refine l5 rfl ?_ (fun _=>hS) ?_ (fun w0 h0=> ?_) (fun K hK=> ?_)
  ·(try simp only [zz1]);(try simp only [zz2]);(try simp only [zz3]);go_simp;done
  rotate_left
  ·(try simp only [zz1]);(try simp only [zz2]);(try simp only [zz3])
   first
    |(obtain ⟨⟨f1,f2⟩,f3,f4⟩:=h0 rfl;clear h0;go_simp;with_reducible rfl)
    |(clear h0;go_simp;with_reducible rfl)
  (try simp only [zz1]);(try simp only [zz2]);(try simp only [zz3])
  go_simp;refine hK _ ?_;clear hK K)
 refine g7 (g9 rfl ?_ (fun K hK=> ?_))
 ·(try simp only [zz1]);(try simp only [zz2]);(try simp only [zz3]);go_simp;done
 (try simp only [zz1]);(try simp only [zz2]);(try simp only [zz3])
 go_wp2_with fail
 refine (Hvc.out _).mono ?_;rintro e w3 ⟨rfl,hm3⟩;have hg3:=(((Mod.refl (fun _=>False) wb).drew).trans hm3 (fun _ _ h=>h)).heap Hgwb.out (fun h=>h);have hm03:=((Mod.refl (fun _=>False) wb).drew).trans hm3 (fun _ _ h=>h);refine hK _ _ (fun _ h=>⟨⟨hm3.cell h.1.1 (fun h=>h),hm3.cell h.1.2 (fun h=>h)⟩,(Hcv.out.mod hm03 (fun h=>h)).all rfl,(Hcv.out.mod hm03 (fun h=>h)).is rfl⟩) ?_;clear hK K hm3;refine g7 (g9 rfl ?_ (fun K hK=> ?_))
 ·(try simp only [zz1]);(try simp only [zz2]);(try simp only [zz3]);go_simp;done
 (try simp only [zz1]);(try simp only [zz2]);(try simp only [zz3]);go_simp;refine hK _ _ (fun h=>absurd h (by decide)) ?_;clear hK K;refine g7 (g9 rfl ?_ (fun K hK=> ?_))
 ·(try simp only [zz1]);(try simp only [zz2]);(try simp only [zz3]);go_simp;done
 (try simp only [zz1]);(try simp only [zz2]);(try simp only [zz3]);refine Q0 132 (.tmp 2) (.tmp 16) rfl (w.heap.size+1) 0 rfl _ 132 hg3 (Cnd.cells ⟨name,op,v.canon⟩) rfl (Nat.le_refl 7) (by kernel_rfl) (fun u hu=>zz15 (show (Cnd.cells ⟨name,op,v.canon⟩).all (·.oneCell')=true from rfl) u hu) ?_;have hg4:=setRow_heap w3 (w.heap.size+1) _ ((#[.string ⟨#[]⟩,.int .i64 0,.int .i64 0,.int .i64 0,.float .f64 0,.string ⟨#[]⟩,.bool false]:Array Value).toList.take 0++(Cnd.cells ⟨name,op,v.canon⟩)++(#[.string ⟨#[]⟩,.int .i64 0,.int .i64 0,.int .i64 0,.float .f64 0,.string ⟨#[]⟩,.bool false]:Array Value).toList.drop (0+(Cnd.cells ⟨name,op,v.canon⟩).length)).toArray 132 (0,0) hg3;have hm4:Mod (fun k=>k=w.heap.size+1) wb (w3.setRow (w.heap.size+1) ((#[.string ⟨#[]⟩,.int .i64 0,.int .i64 0,.int .i64 0,.float .f64 0,.string ⟨#[]⟩,.bool false]:Array Value).toList.take 0++(Cnd.cells ⟨name,op,v.canon⟩)++(#[.string ⟨#[]⟩,.int .i64 0,.int .i64 0,.int .i64 0,.float .f64 0,.string ⟨#[]⟩,.bool false]:Array Value).toList.drop (0+(Cnd.cells ⟨name,op,v.canon⟩).length)).toArray):=(hm03.mono (G:=fun k=>k=w.heap.size+1) (fun _ _ h=>h.elim)).setRow (fun _=>rfl) _;refine hK _ _ (fun h=>absurd h (by decide)) ?_;clear hK K;refine j8 ?_;obtain ⟨Hg4,Hm4⟩:=zh2 hg4 hm4;clear hg4 hm4
 go_wp2_with fail
 exact o3 rfl (w.heap.size+1) rfl (Cnd.cells ⟨name,op,v.canon⟩) (e7.row Hg4.out) (by kernel_rfl) (by kernel_rfl) rfl ⟨rfl,Hs.out _ Hm4.out⟩
theorem a6U {v:V} (h:v.fits):v.canon.fits:=by
 have h1:=h.int;have h2:=a0e h.num;have h3:=h.text;have z:((⟨#[]⟩:ByteArray)).size<=1000000:=by decide
 have zn:(0:Nat)<2^64:=by decide
 unfold V.canon;split
 ·exact ⟨h1,zn,z⟩
 split
 ·exact ⟨(by decide: -9223372036854775808<=(0:Int)/\(0:Int)<=9223372036854775807),h2,z⟩
 split
 ·exact ⟨(by decide: -9223372036854775808<=(0:Int)/\(0:Int)<=9223372036854775807),zn,h3⟩
 split
 ·exact ⟨(by decide: -9223372036854775808<=(0:Int)/\(0:Int)<=9223372036854775807),zn,z⟩
 exact ⟨(by decide: -9223372036854775808<=(0:Int)/\(0:Int)<=9223372036854775807),zn,z⟩
theorem a1D {c:Cnd} (h:c.fits):c.norm.fits:=by
 unfold Cnd.norm;split
 ·exact ⟨⟨(by decide: -9223372036854775808<=(0:Int)/\(0:Int)<=9223372036854775807),(by decide:(0:Nat)<2^64),(by decide:((⟨#[]⟩:ByteArray)).size<=1000000)⟩,h.name⟩
 exact ⟨a6U h.v,h.name⟩
def a3c (c:Cnd) (i k:Nat) (d:Cnd):Bool:=decide (k≠i)&&(a2g d c&&(decide (k<i)|| !a2g c d))
def Q7 (l:List Cnd) (i:Nat) (c:Cnd):Bool:=l.zipIdx.any fun p=>a3c c i p.2 p.1
attribute [local go_sem ↓] F3
theorem a5v (w:World) (v:Value) (l:List Cnd) (hv:j0 w 7 v l.length (l6 l)) (hll:l.length<=1000) (i:Nat) (c:Cnd) (hi:l[i]? =some c) (hcs:∀c∈l,c.fits):
 Calls Tryz.prog 76 #[v,.int .i64 i] w fun e w'=>e= .returned (.bool (Q7 l i c))/\Mod (fun _=>False) w w':=by
 obtain ⟨a,cap,rfl,hcap⟩:∃a c,v= .slice a l.length c/\l.length<=c:=by obtain ⟨-,a,c,h,h2, -⟩:=hv;exact ⟨a,c,h,h2⟩
 have hll':(l.length:Int)<=1000:=by omega
 have hcap':(l.length:Int)<=cap:=by omega
 have hil:i<l.length:=(zz6 hi).1;have hil':(i:Int)<l.length:=by omega
 have hcf:=hcs c (zz8 hi);obtain ⟨R,hR⟩:∃R,Q7 l i c=R:=⟨_,rfl⟩;rw [hR];obtain ⟨Hv,Hcs,Hi,Hcf,HR⟩:=zh5 hv hcs hi hcf hR;clear hv hcs hi hcf hR
 go_enter Tryz.func76,Tryz.ntmps76
 go_wp2_with fail
 go_loopw [9] (fun x wr=>∃j:Nat,x= .int .i64 j/\j<=l.length/\Mod (fun _=>False) w wr/\(∀(k:Nat) (d:Cnd),k<j->l[k]? =some d->a3c c i k d=false)) (fun x _=>l.length - (intOf x).toNat)
 case atStart=>exact ⟨0,rfl,Nat.zero_le _,Mod.refl _ _,fun k x hk=>by omega⟩
 case round =>
  obtain ⟨j,rfl,hj,hmr,hall⟩:=hrel;by_cases hlt:j<l.length
  ·have hlt':(j:Int)<l.length:=by omega
   obtain ⟨d,hd⟩:∃d,l[j]? =some d:=⟨_,zz5 hlt⟩;have hdf:=Hcs.out d (zz8 hd);obtain ⟨g,off,rfl,hf⟩:∃g off,a=some ⟨g,off,none⟩/\e7 wr g (off+j*7) d.cells:=J2 (Hv.out.mod hmr (fun _ _ h=>h)) hd;obtain ⟨g',off',hga,hfc⟩:=J2 (Hv.out.mod hmr (fun _ _ h=>h)) Hi.out;cases hga
   obtain ⟨wz,hwz,hmwz,hgwz,hzwz⟩:=e8 wr (.cells d.cells.toArray 132);have hmz:=hmr.trans hmwz (fun _ _ h=>h);have hfz:=hfc.mod hmwz (fun h=>h);have hdz:e7 wz wr.heap.size 0 d.cells:=e7.row hgwz
   have hF:∀w',Mod (fun _=>False) wz w'->(j9 w' wr.heap.size 0 7/\cellsOf w' wr.heap.size 0 7=d.cells.toArray)/\j9 w' g (off+i*7) 7/\cellsOf w' g (off+i*7) 7=c.cells.toArray:=fun w' hw'=>
    ⟨⟨(hdz.mod hw' (fun h=>h)).all rfl,(hdz.mod hw' (fun h=>h)).is rfl⟩,(hfz.mod hw' (fun h=>h)).all rfl,(hfz.mod hw' (fun h=>h)).is rfl⟩
   have t1:∀x:Cnd,x.fits->x.v.text.size<=9223372036854775807:=fun x hx=>by have:=hx.v.text;omega
   have hi1:=fun (wx:World) (hx:Mod (fun _=>False) wz wx)=>(U8 d c (t1 d hdf) (t1 c Hcf.out) hdf.v.num Hcf.out.v.num wx).mono fun e w'' (h:_/\_)=>(⟨h.1,hx.trans h.2 (fun _ _ h=>h)⟩:e= .returned (.bool (a2g d c))/\Mod (fun _=>False) wz w'');have hi2:=fun (wx:World) (hx:Mod (fun _=>False) wz wx)=>(U8 c d (t1 c Hcf.out) (t1 d hdf) Hcf.out.v.num hdf.v.num wx).mono fun e w'' (h:_/\_)=>(⟨h.1,hx.trans h.2 (fun _ _ h=>h)⟩:e= .returned (.bool (a2g c d))/\Mod (fun _=>False) wz w'');obtain ⟨B1,hB1⟩:∃B,a2g d c=B:=⟨_,rfl⟩;obtain ⟨B2,hB2⟩:∃B,a2g c d=B:=⟨_,rfl⟩;obtain ⟨N,hN⟩:∃N,a3c c i j d=N:=⟨_,rfl⟩;have hN2:N=(decide (j≠i)&&(B1&&(decide (j<i)|| !B2))):=by rw [<-hN,<-hB1,<-hB2];rfl
   rw [hB1] at hi1;rw [hB2] at hi2
   have hNR:N=true->R=true:=fun h=>by
    rw [<-HR.out];exact List.any_eq_true.2 ⟨(d,j),List.mk_mem_zipIdx_iff_getElem?.2 hd,by rw [<-h];exact hN⟩
   have hNall:N=false->∀(k:Nat) (d':Cnd),k<j+1->l[k]? =some d'->a3c c i k d'=false:=fun h k d' hk hd'=>by
    rcases Nat.lt_succ_iff_lt_or_eq.1 hk with hk|rfl
    ·exact hall k d' hk hd'
    rw [hd] at hd';cases hd';rw [hN,h]
   obtain ⟨Hmr,Hall,Hd,Hdf,Hf,Hfc,Hwz,Hmwz,Hgwz,Hmz,Hfz,Hdz⟩:=zh12 hmr hall hd hdf hf hfc hwz hmwz hgwz hmz hfz hdz;obtain ⟨HF,Hi1,Hi2,HB1,HB2,HN,HN2,HNR,HNall⟩:=zh9 hF hi1 hi2 hB1 hB2 hN hN2 hNR hNall;clear hmr hall hd hdf hf hfc hwz hmwz hgwz hmz hfz hdz hF hi1 hi2 hB1 hB2 hN hN2 hNR hNall hzwz t1;by_cases hji:j=i
   ·subst hji;have d1:((j:Int) !=j)=false:=by simp
    have hNf:N=false:=by rw [HN2.out];simp [*]
    have HNf:=zh hNf;clear hNf
    go_wp2_with (first|((with_reducible refine d9 132 (.tmp 12) ?_);refine ⟨g,off+j*7,rfl,d.cells,Hf.out,by kernel_rfl,by kernel_rfl, ?_⟩)|((with_reducible refine d8 132 (.tmp 6) (.tmp 13) ?_);refine ⟨rfl,d.cells,rfl,rfl,by kernel_rfl,rfl, ?_⟩;rw [Hwz.out])|fail)
    refine i8 (by kernel_rfl) (by kernel_rfl) ?_
    iterate 25 (first
     | (refine k7 ?_ (fun K hK=> ?_)
        ·first|(go_simp;done)|(go_simp;simp [undef];done)
        go_simp;refine hK _ ?_;clear hK K)
     | (refine m8 ?_ ?_ (fun w' hw'=> ?_) (fun K hK=> ?_)
        ·first|(go_simp;done)|(go_simp;simp [undef];done)
        rotate_left
        ·skip
         go_simp;rfl
        go_simp;refine hK _ ?_;clear hK K))
    refine m4 (fun w' hw'=> ?_);have Hw':=Lib.hid (Hmz.out.trans hw' (fun _ _ h=>h));clear hw'
    go_wp2_with fail
    go_roundw
    case rel=>exact ⟨j+1,by go_num,hlt,Hw'.out,HNall.out HNf.out⟩
    case measure=>simp [intOf];omega
   have d1 :((j:Int) !=i)=true:=by rw [bne_iff_ne];omega
   have d2:decide (j≠i)=true:=decide_eq_true hji
   cases B1 with
   | false=>
    have hNf:N=false:=by rw [HN2.out];simp [*]
    have HNf:=zh hNf;clear hNf
    go_wp2_with (first|((with_reducible refine d9 132 (.tmp 12) ?_);refine ⟨g,off+j*7,rfl,d.cells,Hf.out,by kernel_rfl,by kernel_rfl, ?_⟩)|((with_reducible refine d8 132 (.tmp 6) (.tmp 13) ?_);refine ⟨rfl,d.cells,rfl,rfl,by kernel_rfl,rfl, ?_⟩;rw [Hwz.out])|fail)
    refine i8 (by kernel_rfl) (by kernel_rfl) ?_
    iterate 25 (first
     | (refine k7 ?_ (fun K hK=> ?_)
        ·first|(go_simp;done)|(go_simp;simp [undef];done)
        go_simp;refine hK _ ?_;clear hK K)
     | (refine m8 ?_ ?_ (fun w' hw'=> ?_) (fun K hK=> ?_)
        ·first|(go_simp;done)|(go_simp;simp [undef];done)
        rotate_left
        ·obtain ⟨⟨f1,f2⟩,f3,f4⟩:=HF.out w' hw';go_simp;rfl
        go_simp;refine hK _ ?_;clear hK K)
     | (refine p8 ?_ ?_ ?_ ?_ (fun w' hw'=> ?_) ?_ (fun K hK=> ?_)
        ·first|(go_simp;done)|(go_simp;simp [undef];done)
        rotate_left 3
        ·obtain ⟨⟨f1,f2⟩,f3,f4⟩:=HF.out w' hw';go_simp;constructor<;>rfl
        ·first|with_reducible exact Hi1.out
        go_simp;refine hK _ ?_;clear hK K))
    refine m4 (fun w' hw'=> ?_);have Hw':=Lib.hid (Hmz.out.trans hw' (fun _ _ h=>h));clear hw'
    go_wp2_with fail
    go_roundw
    case rel=>exact ⟨j+1,by go_num,hlt,Hw'.out,HNall.out HNf.out⟩
    case measure=>simp [intOf];omega
   | true =>
    by_cases hjl:j<i
    ·have d3:decide ((j:Int)<i)=true:=by simp;omega
     have d4:decide (j<i)=true:=decide_eq_true hjl;have d5:decide ((j:Nat)<i)=true:=d4;have hNf:N=true:=by rw [HN2.out];simp [*]
     have HNf:=zh hNf;clear hNf
     go_wp2_with (first|((with_reducible refine d9 132 (.tmp 12) ?_);refine ⟨g,off+j*7,rfl,d.cells,Hf.out,by kernel_rfl,by kernel_rfl, ?_⟩)|((with_reducible refine d8 132 (.tmp 6) (.tmp 13) ?_);refine ⟨rfl,d.cells,rfl,rfl,by kernel_rfl,rfl, ?_⟩;rw [Hwz.out])|fail)
     refine i8 (by kernel_rfl) (by kernel_rfl) ?_
     iterate 25 (first
      | (refine k7 ?_ (fun K hK=> ?_)
         ·first|(go_simp;done)|(go_simp;simp [undef];done)
         go_simp;refine hK _ ?_;clear hK K)
      | (refine m8 ?_ ?_ (fun w' hw'=> ?_) (fun K hK=> ?_)
         ·first|(go_simp;done)|(go_simp;simp [undef];done)
         rotate_left
         ·obtain ⟨⟨f1,f2⟩,f3,f4⟩:=HF.out w' hw';go_simp;rfl
         go_simp;refine hK _ ?_;clear hK K)
      | (refine p8 ?_ ?_ ?_ ?_ (fun w' hw'=> ?_) ?_ (fun K hK=> ?_)
         ·first|(go_simp;done)|(go_simp;simp [undef];done)
         rotate_left 3
         ·obtain ⟨⟨f1,f2⟩,f3,f4⟩:=HF.out w' hw';go_simp;constructor<;>rfl
         ·first|with_reducible exact Hi1.out
         go_simp;refine hK _ ?_;clear hK K))
     refine m4 (fun w' hw'=> ?_);have Hw':=Lib.hid (Hmz.out.trans hw' (fun _ _ h=>h));clear hw'
     go_wp2
     go_ret;exact ⟨m6 (HNR.out HNf.out),Hw'.out⟩
    have d3:decide ((j:Int)<i)=false:=by simp;omega
    have d4:decide (j<i)=false:=decide_eq_false hjl
    cases B2 with
    | false=>
     have hNf:N=true:=by rw [HN2.out];simp [*]
     have HNf:=zh hNf;clear hNf
     go_wp2_with (first|((with_reducible refine d9 132 (.tmp 12) ?_);refine ⟨g,off+j*7,rfl,d.cells,Hf.out,by kernel_rfl,by kernel_rfl, ?_⟩)|((with_reducible refine d8 132 (.tmp 6) (.tmp 13) ?_);refine ⟨rfl,d.cells,rfl,rfl,by kernel_rfl,rfl, ?_⟩;rw [Hwz.out])|fail)
     refine i8 (by kernel_rfl) (by kernel_rfl) ?_
     iterate 25 (first
      | (refine k7 ?_ (fun K hK=> ?_)
         ·first|(go_simp;done)|(go_simp;simp [undef];done)
         go_simp;refine hK _ ?_;clear hK K)
      | (refine m8 ?_ ?_ (fun w' hw'=> ?_) (fun K hK=> ?_)
         ·first|(go_simp;done)|(go_simp;simp [undef];done)
         rotate_left
         ·obtain ⟨⟨f1,f2⟩,f3,f4⟩:=HF.out w' hw';go_simp;rfl
         go_simp;refine hK _ ?_;clear hK K)
      | (refine p8 ?_ ?_ ?_ ?_ (fun w' hw'=> ?_) ?_ (fun K hK=> ?_)
         ·first|(go_simp;done)|(go_simp;simp [undef];done)
         rotate_left 3
         ·obtain ⟨⟨f1,f2⟩,f3,f4⟩:=HF.out w' hw';go_simp;constructor<;>rfl
         ·first|with_reducible exact Hi1.out|with_reducible exact Hi2.out
         go_simp;refine hK _ ?_;clear hK K))
     refine m4 (fun w' hw'=> ?_);have Hw':=Lib.hid (Hmz.out.trans hw' (fun _ _ h=>h));clear hw'
     go_wp2
     go_ret;exact ⟨m6 (HNR.out HNf.out),Hw'.out⟩
    |true=>
     have hNf:N=false:=by rw [HN2.out];simp [*]
     have HNf:=zh hNf;clear hNf
     go_wp2_with (first|((with_reducible refine d9 132 (.tmp 12) ?_);refine ⟨g,off+j*7,rfl,d.cells,Hf.out,by kernel_rfl,by kernel_rfl, ?_⟩)|((with_reducible refine d8 132 (.tmp 6) (.tmp 13) ?_);refine ⟨rfl,d.cells,rfl,rfl,by kernel_rfl,rfl, ?_⟩;rw [Hwz.out])|fail)
     refine i8 (by kernel_rfl) (by kernel_rfl) ?_
     iterate 25 (first
      | (refine k7 ?_ (fun K hK=> ?_)
         ·first|(go_simp;done)|(go_simp;simp [undef];done)
         go_simp;refine hK _ ?_;clear hK K)
      | (refine m8 ?_ ?_ (fun w' hw'=> ?_) (fun K hK=> ?_)
         ·first|(go_simp;done)|(go_simp;simp [undef];done)
         rotate_left
         ·obtain ⟨⟨f1,f2⟩,f3,f4⟩:=HF.out w' hw';go_simp;rfl
         go_simp;refine hK _ ?_;clear hK K)
      | (refine p8 ?_ ?_ ?_ ?_ (fun w' hw'=> ?_) ?_ (fun K hK=> ?_)
         ·first|(go_simp;done)|(go_simp;simp [undef];done)
         rotate_left 3
         ·obtain ⟨⟨f1,f2⟩,f3,f4⟩:=HF.out w' hw';go_simp;constructor<;>rfl
         ·first|with_reducible exact Hi1.out|with_reducible exact Hi2.out
         go_simp;refine hK _ ?_;clear hK K))
     refine m4 (fun w' hw'=> ?_);have Hw':=Lib.hid (Hmz.out.trans hw' (fun _ _ h=>h));clear hw'
     go_wp2_with fail
     go_roundw
     case rel=>exact ⟨j+1,by go_num,hlt,Hw'.out,HNall.out HNf.out⟩
     case measure=>simp [intOf];omega
  obtain rfl:j=l.length:=by omega
  have hRf:R=false:=by
   rw [<-HR.out];refine List.any_eq_false.2 fun p hp=> ?_;have hp2:=List.mk_mem_zipIdx_iff_getElem?.1 (show (p.1,p.2)∈l.zipIdx from hp);rw [hall p.2 p.1 (zz6 hp2).1 hp2];decide
  obtain ⟨Hmr,Hall,HRf⟩:=zh3 hmr hall hRf;clear hmr hall hRf
  go_wp2
  go_ret;exact ⟨m6 HRf.out,Hmr.out⟩
end
end Go.Proofs.YtaenebdppkjhoaaGreatDoor
