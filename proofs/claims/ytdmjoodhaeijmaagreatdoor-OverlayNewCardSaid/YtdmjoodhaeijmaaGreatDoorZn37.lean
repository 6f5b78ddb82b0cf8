/- Lemmas. -/
import Derived.Test.YtdmjoodhaeijmaaGreatDoorZn35
set_option maxHeartbeats 40000000
set_option maxRecDepth 20000
namespace Go.Proofs.YtdmjoodhaeijmaaGreatDoor
open Go.RowKit
def BS.upto (B:BS) (f:RS->RS) (k:Nat):BS:={B with R:=fun j=>if j<k then f (B.R j) else B.R j}
def upS (R:Nat->RS) (g:Nat->RS->List Sd):Nat->List Sd
 |0=>[]
 |k+1=>upS R g k++g k (R k)
def RS.lose (n:Int) (gone:Bool) (R:RS):RS:={R with M:=if gone then b6P R.M n else R.M,G:=Z4 R.G n []}
def RS.loseR (n:Int) (gone:Bool) (near:List Int) (R:RS):RS:=(R.lose n gone).refr near
def b5m (n:Int) (gone:Bool) (near:List Int) (t:Nat) (R:RS):List Sd:=y9 (R.lose n gone).M t near (R.lose n gone).G
def b6T (n:Int) (L:List PRu):List Sd:=L.zipIdx.map fun p=>(n, -1,Mg.pol p.2 p.1)
def RS.hear (R:RS) (frm:Int) (f:Fil) (on:Bool):RS:=if on then R.tadd frm f else R.trem frm f
def RS.news (R:RS) (frm:Int) (f:Fil) (on:Bool):Bool:=if on then (r8 R.M frm (i7 f)).isNone else (r8 R.M frm (i7 f)).isSome
def BS.takeB (B:BS) (near:List Int) (t:Nat) (frm:Int) (f:Fil) (on:Bool):BS:=if (B.R t).news frm f on then B.anew t ((B.R t).hear frm f on) near else B
def BS.takeS (B:BS) (near:List Int) (t:Nat) (frm:Int) (f:Fil) (on:Bool):List Sd:=if (B.R t).news frm f on then y9 ((B.R t).hear frm f on).M t near (B.R t).G else []
def b2n {w0:World} {q:Nat} {sid:Int} (O:D5 w0 q sid) (w:World) (ow:Ow) (c g:Nat) (id:Int) (near:List Int) (B:BS) (t:Nat) (s:O.σ) (frm:Int) (f:Fil) (on:Bool) (e:Ending) (w':World):Prop:=
 e= .returned (.bool true)/\∃ow',Bro w' ow' c g id near (B.takeB near t frm f on)/\O.inv w' ow' (O.sends s (B.takeS near t frm f on))/\Mov (b2k c t O.tg) w ow w' ow'
def tkK:Bool->Int
 |true=>1
 |false=>2
structure TkS (g t k tb:Nat) (fs:ByteArray) (fa:Option Addr) (n fc:Nat) (y:World):Prop where
 t0:y.cell? ⟨g,3+t*4,none⟩=some (.pointer (some ⟨tb,0,none⟩))
 e0:y.cell? ⟨k,10,none⟩=some (.string fs)
 e1:y.cell? ⟨k,11,none⟩=some (.slice fa n fc)
theorem b2o {M:List (Int×Fil)} (h:∀p∈M,okN p.2) (frm:Int) (k:List UInt8):∀p∈a4h M frm k,okN p.2:=fun p hp=>h p (a1D hp)
theorem b2p (on:Bool) (w0 w:World) (ow:Ow) (hw:Owd w0 w ow) (c g:Nat) (id:Int) (near:List Int) (B:BS) (h:Bro w ow c g id near B) (hnl:near.length<=1000) (hnw:∀n∈near,(Lit.int .i64 n).wf=true) (t:Nat) (ht:t<4)
 (q:Nat) (sid:Int) (O:D5 w0 q sid) (s:O.σ) (hO:O.inv w ow s) (je:∀t,O.tg t->t<c\/c+18<=t) (hto:∀n∈near,O.okTo n t) (hcnt:O.cnt s<=300000000000) (hR:RS.Go (B.R t)) (frm:Int) (hfw:(Lit.int .i64 frm).wf=true)
 (x:Mv) (hk:x.m.kind=tkK on) (hf:i8 w 7 (.slice x.fa x.m.fl.length x.fc) x.m.fl.length (q8 x.m.fl)) (hfr:l0 x.m.fs x.m.fl=true) (hft:∀c∈x.m.fl,c.fits):
 Calls Tryz.prog 58 #[.pointer (some ⟨g,0,none⟩),.iface 138 (.agg #[.pointer (some ⟨q,0,none⟩),.int .i64 sid]),.int .i64 frm,.int .i64 t,.agg x.cells.toArray] w (b2n O w ow c g id near B t s frm (x.m.fs,j7 x.m.fl) on):=by
 obtain ⟨a,h⟩:=h;obtain ⟨wa,ak,ae,aa,ah⟩:=g6 w (.cells x.cells.toArray 135);have eU:(t:Int)<4:=zo
 have ht0:(0:Int)<=t:=zo
 have hmd:=ae.trans ((Mod.refl (fun _=>False) wa).drew) zi;have hvd:=Mov.of hw hmd (fun _=>False);have hwd:=hvd.owd hw (fun h=>h);have hbd:=h.mov hw hvd (fun h=>h) (fun _ h=>h.elim);have Lv:=O.mov hO hw hvd (fun h=>h) (fun _ h=>h.elim);have hgd:=((Mod.refl (fun _=>False) wa).drew).heap aa (fun h=>h);have hrd:=hbd.rea t ht;have hc2:=hbd.c2;obtain ⟨hb1,hb2, -⟩:=a3G hfr;have hk0:wa.cell? ⟨w.heap.size,0,none⟩=some (.int .i64 x.m.kind):=d6 aa rfl;have ze:=b5R hfr hft;obtain ⟨f,fT⟩:∃f:Fil,(x.m.fs,j7 x.m.fl)=f:=⟨_,rfl⟩
 have qy:Calls Tryz.prog (if on then 80 else 82) #[.pointer (some ⟨a.tb t,0,none⟩),.int .i64 frm,.agg #[.string x.m.fs,.slice x.fa x.m.fl.length x.fc]] wa.drew fun e w'=>e= .returned (.bool ((B.R t).news frm f on))/\
  ∃ow',J9 w' ow' (c+1+t) (a.tb t) ((B.R t).hear frm f on).M ((B.R t).hear frm f on).N/\Mov (fun q=>q=c+1+t) wa.drew ow w' ow':=by
  cases on with
  |true=>
   have:=b2l w0 wa.drew ow hwd (c+1+t) (a.tb t) zo (B.R t) hrd.tab (by have:=hR.n;omega) frm hfw x.m.fs x.fa x.fc x.m.fl (hf.mod hmd zi) zo hft zo;rw [fT] at this;exact this
  |false=>
   have:=b2m w0 wa.drew ow hwd (c+1+t) (a.tb t) zo (B.R t) hrd.tab (by have:=hR.n;omega) frm hfw x.m.fs x.fa x.fc x.m.fl (hf.mod hmd zi) zo hft zo;rw [fT] at this;exact this.mono fun e w' ⟨he,hT,hm⟩=>⟨he,ow,hT,hm⟩
 have hfin:∀(w':World) (ow':Ow) (hT:J9 w' ow' (c+1+t) (a.tb t) ((B.R t).hear frm f on).M ((B.R t).hear frm f on).N) (sm:Mov (fun q=>q=c+1+t) wa.drew ow w' ow'),Owd w0 w' ow'/\M0 w' ow' c g id near (B.setR t ((B.R t).hear frm f on)) a/\O.inv w' ow' s/\Mov (b2k c t O.tg) w ow w' ow':=fun w' ow' hT sm=>by
  refine ⟨sm.owd hwd zo,hbd.realm hwd ht sm (fun q hq=> .inl hq) ?_,O.mov Lv hwd sm zo (fun q e he=>by have:=je q he;omega),(hvd.mono (fun _ h=>h.elim)).trans (sm.mono (fun _ h=> .inl (.inl h)))⟩;have h2:=hrd.idx.mov hwd sm zo zo zo;have h3:=hrd.sub.mov sm zo zo;have h4:=hrd.snt.mov sm zo zo
  cases on with
  |true=>exact a3F.tadd hT h2 h3 h4
  |false=>exact ⟨hT,h2,h3,h4⟩
 have Lx:∀p∈((B.R t).hear frm f on).M,okN p.2:=by
  cases on with
  |true=>exact RS.tadd_m hR.m frm (fT▸ze)
  |false=>exact b2o hR.m frm _
 have Pt:((B.R t).hear frm f on).N<=1000000:=by
  have:=hR.n
  cases on with
  |true=>exact Nat.le_trans (RS.tadd_n _ _ _) zo
  |false=>show (B.R t).N<=1000000;omega
 have hRk:((B.R t).hear frm f on).K=(B.R t).K/\((B.R t).hear frm f on).G=(B.R t).G:=by
  cases on with
  |true=>exact ⟨((B.R t).tadd_eq frm f).2.1,((B.R t).tadd_eq frm f).1⟩
  |false=>exact ⟨rfl,rfl⟩
 have hno:(B.R t).news frm f on=false->(B.R t).hear frm f on=B.R t:=fun hn=>by
  cases on with
  |true=>
   show (B.R t).tadd frm f=B.R t;unfold RS.tadd;rw [show (r8 (B.R t).M frm (i7 f)).isNone=false from hn];rfl
  | false=>
   have h1:r8 (B.R t).M frm (i7 f)=none:=by
    cases hq:r8 (B.R t).M frm (i7 f) with
    |none=>rfl
    |some q=>
     have h2:(r8 (B.R t).M frm (i7 f)).isSome=false:=hn;rw [hq] at h2;cases h2
   show (B.R t).trem frm f=B.R t;unfold RS.trem;rw [a4M h1]
 obtain ⟨NW,LA⟩:∃NW,(B.R t).news frm f on=NW:=⟨_,rfl⟩;rw [LA] at qy hno;rw [fT];have hS:TkS g t w.heap.size (a.tb t) x.m.fs x.fa x.m.fl.length x.fc wa.drew:=⟨(hbd.cells ht).1,d6 hgd rfl,d6 hgd rfl⟩
 have hgo:∀(w':World) (ow':Ow),Owd w0 w' ow'->M0 w' ow' c g id near (B.setR t ((B.R t).hear frm f on)) a->O.inv w' ow' s->Calls Tryz.prog 81 #[.pointer (some ⟨g,0,none⟩),.iface 138 (.agg #[.pointer (some ⟨q,0,none⟩),.int .i64 sid]),.int .i64 t] w' (a6L O w' ow' c g id near (B.setR t ((B.R t).hear frm f on)) t s):=fun w' ow' h1 h2 h3=>by
  have AL:=BS.setR_at B t ((B.R t).hear frm f on)
  have yM:((B.R t).hear frm f on).M.length<=1000000:=by
   have h4:=(h2.rea t ht).tab;rw [AL] at h4;exact Nat.le_trans (J9.len h4) zo
  have hlen:=a4L (near:=near) hR.g.len yM t;exact a70 w0 w' ow' c g id near (B.setR t ((B.R t).hear frm f on)) h1 ⟨a,h2⟩ q sid O s h3 je t ht (by rw [AL,hRk.2];have:near.length*(2*1000000)<=1000*(2*1000000):=Nat.mul_le_mul_right _ hnl;omega) hnl hnw hto (by rw [AL];exact Pt) (by rw [AL,hRk.1];exact hR.k) (by rw [AL,hRk.2];exact hR.g) (by rw [AL];exact b4y Lx)
 have Dt:=hRk.2
 have dR:w.alloc (.cells #[.int .i64 x.m.kind,.int .i64 x.m.at_,.int .i64 x.m.rule.kind,.int .i64 x.m.rule.tenant,.string x.m.rule.who,.int .i64 x.m.rule.broker,.string x.m.rule.sc,.slice x.ra x.m.rule.cs.length x.rc,.string x.m.rule.name,.int .i64 x.m.rule.at_,
  .string x.m.fs,.slice x.fa x.m.fl.length x.fc,.string x.m.es,.slice x.ea x.m.el.length x.ec,.int .i64 x.m.ver,.string x.m.org,.int .i64 x.m.ser] 135)=wa:=ak
 refine hh8 hw h hO je hto hR hfw hf fun Hw H HO mr qd HR Ua Hf=> ?_;refine hh8 hfr hft ak dR ae aa hmd hvd fun aW NJ aB gX ai aC LC JX=> ?_;refine hh8 hwd hbd Lv hgd hrd ze fT qy fun NL LD Xq Xr gG Ub rf Pw=> ?_;refine hh8 hfin Lx hRk hno LA hgo Dt hnw fun bF Xt Xu Hno vG sV Du jC=> ?_;clear hw h hO je hto hR hfw hf hfr hft ak dR ae aa hmd hvd hwd hbd Lv hgd hrd ze fT qy hfin Lx hRk hno LA hgo Dt hnw ah hb1 hb2 Pt
 cases on with
 | true=>
  have hkk:x.m.kind=1:=hk;rw [hkk] at hk0;refine hh1 hkk fun Dh=> ?_;clear hkk hk
  go_enter Tryz.func58,Tryz.ntmps58
  go_wp2_with (first|(rw [show w.alloc _=wa from gX.out])|(rw [show w.alloc _=wa from aB.out]))
  refine i6 [.rd 0,.rd 1,.rd 2,.rd 3,.rd 4,.rd 5,.rd 6,.rd 7,.rd 8,.rd 9,.go 10] [0,1,2,3,4,5,6,7,8,9] (TkS g t w.heap.size (a.tb t) x.m.fs x.fa x.m.fl.length x.fc) zk zk (fun _ _ d _ _ h=>(by cases d<;>exact h)) ?_
  iterate 10 (
   refine wrd hS fun K hK=> ?_
   go_simp;refine hK _ ?_;clear hK K)
  refine wgo fun K hK=> ?_
  go_wp2_with fail
  refine Pw.out.mono ?_;rintro e w1 ⟨rfl,ow1,hT1,s1⟩;refine hK _ _ (fun h=>absurd h zd) ?_;clear hK K hS;refine p8 ?_;obtain ⟨gH,hb1,rJ,hm1⟩:=bF.out w1 ow1 hT1 s1;have qz:=sV.out w1 ow1 gH hb1 rJ;refine hh7 gH hb1 rJ hm1 qz hT1 s1 fun iA Hb1 Dx dn zf HT1 S1=> ?_;clear gH hb1 rJ hm1 qz hT1 s1
  cases NW with
  | false=>
   go_wp2
   go_ret;refine ⟨rfl,ow1,⟨a, ?_⟩, ?_,dn.out⟩
   ·unfold BS.takeB;rw [vG.out,if_neg zd];have h1:=Hb1.out;rw [Hno.out trivial] at h1;rw [BS.setR_self] at h1;exact h1
   ·unfold BS.takeS;rw [vG.out,if_neg zd];exact Dx.out
  | true=>
   go_wp2_with fail
   refine zf.out.mono ?_;rintro e w2 ⟨rfl,ow2,hb2,hO2,hm2⟩;rw [BS.told_set] at hb2;rw [BS.setR_at,Du.out] at hO2;have hmv:=dn.out.trans (hm2.mono (G:=b2k c t O.tg) (fun q h=>h.elim (fun h=> .inl (.inr (.inr (.inr h)))) (fun h=> .inr h)));refine hh4 hb2 hO2 hm2 hmv fun Hb2 vw aS kL=> ?_;clear hb2 hO2 hm2 hmv
   go_wp2
   go_ret;refine ⟨rfl,ow2, ?_, ?_,kL.out⟩
   ·unfold BS.takeB;rw [vG.out,if_pos rfl];exact Hb2.out
   ·unfold BS.takeS;rw [vG.out,if_pos rfl];exact vw.out
 | false=>
  have hkk:x.m.kind=2:=hk;rw [hkk] at hk0;refine hh1 hkk fun Dh=> ?_;clear hkk hk
  go_enter Tryz.func58,Tryz.ntmps58
  go_wp2_with (first|(rw [show w.alloc _=wa from gX.out])|(rw [show w.alloc _=wa from aB.out]))
  refine i6 [.rd 0,.rd 1,.rd 2,.rd 3,.rd 4,.rd 5,.rd 6,.rd 7,.rd 8,.rd 9,.go 10] [0,1,2,3,4,5,6,7,8,9] (TkS g t w.heap.size (a.tb t) x.m.fs x.fa x.m.fl.length x.fc) zk zk (fun _ _ d _ _ h=>(by cases d<;>exact h)) ?_
  iterate 10 (
   refine wrd hS fun K hK=> ?_
   go_simp;refine hK _ ?_;clear hK K)
  refine wgo fun K hK=> ?_
  go_wp2_with fail
  refine Pw.out.mono ?_;rintro e w1 ⟨rfl,ow1,hT1,s1⟩;refine hK _ _ (fun h=>absurd h zd) ?_;clear hK K hS;refine p8 ?_;obtain ⟨gH,hb1,rJ,hm1⟩:=bF.out w1 ow1 hT1 s1;have qz:=sV.out w1 ow1 gH hb1 rJ;refine hh7 gH hb1 rJ hm1 qz hT1 s1 fun iA Hb1 Dx dn zf HT1 S1=> ?_;clear gH hb1 rJ hm1 qz hT1 s1
  cases NW with
  | false=>
   go_wp2
   go_ret;refine ⟨rfl,ow1,⟨a, ?_⟩, ?_,dn.out⟩
   ·unfold BS.takeB;rw [vG.out,if_neg zd];have h1:=Hb1.out;rw [Hno.out trivial] at h1;rw [BS.setR_self] at h1;exact h1
   ·unfold BS.takeS;rw [vG.out,if_neg zd];exact Dx.out
  | true=>
   go_wp2_with fail
   refine zf.out.mono ?_;rintro e w2 ⟨rfl,ow2,hb2,hO2,hm2⟩;rw [BS.told_set] at hb2;rw [BS.setR_at,Du.out] at hO2;have hmv:=dn.out.trans (hm2.mono (G:=b2k c t O.tg) (fun q h=>h.elim (fun h=> .inl (.inr (.inr (.inr h)))) (fun h=> .inr h)));refine hh4 hb2 hO2 hm2 hmv fun Hb2 vw aS kL=> ?_;clear hb2 hO2 hm2 hmv
   go_wp2
   go_ret;refine ⟨rfl,ow2, ?_, ?_,kL.out⟩
   ·unfold BS.takeB;rw [vG.out,if_pos rfl];exact Hb2.out
   unfold BS.takeS;rw [vG.out,if_pos rfl];exact vw.out
def RS.unsub (R:RS) (k:Int):RS:={R with S:=b6R R.S k,I:=b6Q R.I k}
def RS.has (R:RS) (f:Fil):Bool:=R.S.any fun p=>i7 p.2.2==i7 f
def BS.endB (B:BS) (near:List Int) (t:Nat) (k:Int) (f:Fil):BS:=if ((B.R t).unsub k).has f then B.setR t ((B.R t).unsub k) else B.anew t (((B.R t).unsub k).trem (-1) f) near
def BS.endS (B:BS) (near:List Int) (t:Nat) (k:Int) (f:Fil):List Sd:=if ((B.R t).unsub k).has f then [] else y9 (((B.R t).unsub k).trem (-1) f).M t near (B.R t).G
end Go.Proofs.YtdmjoodhaeijmaaGreatDoor
