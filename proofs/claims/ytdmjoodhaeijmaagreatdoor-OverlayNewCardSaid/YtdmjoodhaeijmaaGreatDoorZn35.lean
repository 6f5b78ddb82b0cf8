/- Lemmas. -/
import Derived.Test.YtdmjoodhaeijmaaGreatDoorZn33
set_option maxHeartbeats 40000000
set_option maxRecDepth 20000
namespace Go.Proofs.YtdmjoodhaeijmaaGreatDoor
open Go.RowKit
def a3M (c t:Nat) (tg:Nat->Prop):Nat->Prop:=fun q=>q=c+13+t\/tg q
def b6y {w0:World} {q:Nat} {sid:Int} (O:D5 w0 q sid) (w:World) (ow:Ow) (c g:Nat) (id:Int) (near:List Int) (B:BS) (a:BAd) (t:Nat) (s:O.σ) (i:Value) (wr:World):Prop:=
 ∃(j:Nat) (owr:Ow),i= .int .i64 j/\j<=near.length/\M0 wr owr c g id near (B.told t (near.take j)) a/\O.inv wr owr (O.sends s (y9 (B.R t).M t (near.take j) (B.R t).G))/\Mov (a3M c t O.tg) w ow wr owr/\Owd w0 wr owr
def RfA {w0:World} {q:Nat} {sid:Int} (O:D5 w0 q sid) (wC:World) (ow1:Ow) (S0:O.σ) (n t:Int) (mk:Fil->Mg) (W G0:List Fil) (i:Value) (wr:World):Prop:=
 ∃(k:Nat) (ow':Ow),i= .int .i64 k/\k<=W.length/\O.inv wr ow' (O.sends S0 ((K5 (W.take k) G0).map fun f=>(n,t,mk f)))/\Mov O.tg wC ow1 wr ow'
def a6L {w0:World} {q:Nat} {sid:Int} (O:D5 w0 q sid) (w:World) (ow:Ow) (c g:Nat) (id:Int) (near:List Int) (B:BS) (t:Nat) (s:O.σ) (e:Ending) (w':World):Prop:=
 e= .returned (.tuple #[])/\∃ow',Bro w' ow' c g id near (B.told t near)/\O.inv w' ow' (O.sends s (y9 (B.R t).M t near (B.R t).G))/\Mov (a3M c t O.tg) w ow w' ow'
theorem a70 (w0 w:World) (ow:Ow) (c g:Nat) (id:Int) (near:List Int) (B:BS) (hw:Owd w0 w ow) (h:Bro w ow c g id near B) (q:Nat) (sid:Int) (O:D5 w0 q sid) (s:O.σ) (hO:O.inv w ow s) (je:∀t,O.tg t->t<c\/c+18<=t) (t:Nat) (ht:t<4)
 (hcnt:O.cnt s+(y9 (B.R t).M t near (B.R t).G).length<=400000000000) (hnl:near.length<=1000) (hnw:∀n∈near,(Lit.int .i64 n).wf=true) (hto:∀n∈near,O.okTo n t) (hN:(B.R t).N<=1000000) (hK:(B.R t).K<=10000000) (Dt:GOk (B.R t).G)
 (hinj:∀p∈(B.R t).M,∀q∈(B.R t).M,i7 p.2=i7 q.2->p.2=q.2):
 Calls Tryz.prog 81 #[.pointer (some ⟨g,0,none⟩),.iface 138 (.agg #[.pointer (some ⟨q,0,none⟩),.int .i64 sid]),.int .i64 t] w (a6L O w ow c g id near B t s):=by
 obtain ⟨a,h⟩:=h;obtain ⟨q0, -, -,q3⟩:=h.cells ht;obtain ⟨L,aQ, -⟩:=h.log;obtain ⟨na,nc,kI,hnc⟩:∃a' cc,a.nv= .slice a' near.length cc/\near.length<=cc:=by obtain ⟨-,a,cc,h,h2, -⟩:=h.near.rd;exact ⟨a,cc,h,h2⟩
 have c2:w.cell? ⟨g,2,none⟩=some (.slice na near.length nc):=by rw [<-kI];exact d6 aQ.row rfl
 have eU:(t:Int)<4:=zo
 have ht0:(0:Int)<=t:=zo
 have Dq:(near.length:Int)<=1000:=zo
 have hnc':(near.length:Int)<=nc:=zo
 have hb0:M0 w ow c g id near (B.told t (near.take 0)) a:=by rw [List.take_zero,BS.told_nil];exact h
 have hm0:Mov (a3M c t O.tg) w ow w ow:=Mov.refl hw;refine hh8 hw h hO je hnw hto hinj aQ fun Hw H HO mr jC qd yo jd=> ?_;refine hh4 kI hb0 hm0 Dt fun yJ Hb0 xG Du=> ?_;clear hw h hO je hnw hto hinj aQ kI hb0 hm0 Dt hnc
 go_enter Tryz.func81,Tryz.ntmps81
 go_wp2_with fail
 go_loopw [31] (fun i wr=>b6y O w ow c g id near B a t s i wr) (fun i _=>near.length - (intOf i).toNat)
 case atStart=>exact ⟨0,ow,rfl,Nat.zero_le _,Hb0.out,HO.out,xG.out,Hw.out⟩
 case round=>
  obtain ⟨j,owr,rfl,hj,hbr,fP,hmr,how⟩:=hrel;obtain ⟨wq,rfl⟩:∃x:World,x=wr:=⟨_,rfl⟩;by_cases hlt:j<near.length
  ·have hlt':(j:Int)<near.length:=zo
   obtain ⟨n,gT⟩:∃x,near[j]? =some x:=⟨_,zz5 hlt⟩;have hnm:=zz8 gT;have hrd:=hbr.near.rd;rw [show a.nv= .slice na near.length nc from yJ.out] at hrd;obtain ⟨gn,offn,rfl,hcn⟩:=a3A hrd gT;have jg:=hbr.rea t ht;obtain ⟨M,hM⟩:∃M,(B.R t).M=M:=⟨_,rfl⟩;have KJ:((B.told t (near.take j)).R t).M=M:=by rw [BS.told_R];exact hM
   have KL:((B.told t (near.take j)).R t).N=(B.R t).N:=by rw [BS.told_R]
   obtain ⟨p0, -, -,p3⟩:=hbr.cells ht;have hc2:=hbr.c2;obtain ⟨w1,hw1,bM,hgw1,tX⟩:=g6 wq (.map #[] 0);obtain ⟨ow1,qi⟩:∃ow1,Q0 owr wq.heap.size (c+13+t)=ow1:=⟨_,rfl⟩;have htag:ow1 wq.heap.size=c+13+t:=qi▸C7 _ _ _;have hs1:Mov (fun q=>q=c+13+t) wq owr w1 ow1:=hw1▸qi▸Mov.alloc how (.map #[] 0) (c+13+t) (.inr (.inr rfl));have gH:=hs1.owd how zo;have htab1:=jg.tab.mov how hs1 zo zo zo;have vC:M7 w1 ow1 (c+13+t) (a.mb t) _ _:=jg.snt.far (F:=fun _=>False) ⟨bM,hs1.old⟩ (fun h=>h) (fun h=>h);have rJ:=O.mov fP how hs1 zo (fun q e he=>by have:=mr.out q he;omega);have hkey:Z5 w1 ow1 wq.heap.size []:=⟨fun _=>none,hw1▸l8.made wq 9,fun k=>trivial⟩;rw [KJ,KL] at htab1;have hout:=b4l w1 (a.tb t) _ _ M (B.R t).N htab1 hN (by rw [<-hM];exact yo.out) n (jC.out n hnm);have hz:=tX
   have yL:∀p∈M,okQ p.2:=fun p hp=>by
    obtain ⟨mo,hat⟩:=htab1;exact ⟨(hat.wf _ hp).2.1,(hat.wf _ hp).2.2,hat.sc _ hp⟩
   have Dv:∀q∈C3 M n,okQ q:=a8W yL n
   have yM:M.length<=1000000:=by
    obtain ⟨mo,hat⟩:=htab1;have:=hat.low;omega
   have Db:=a2U M n;have p01:=bM.cell p0 (fun h=>h);have p31:=bM.cell p3 (fun h=>h);refine hh8 htag hbr fP hmr how jg hM KJ fun jh bZ qg aL How yN HM Xc=> ?_;refine hh8 KL p0 p3 hw1 hs1 gH htab1 vC fun Xd P0 P3 gW Ic iA Pe Dw=> ?_;refine hh8 rJ hkey hout gT hnm hrd hgw1 hz fun Dx eu yt AA gY gG Tz Hz=> ?_;refine hh4 yL Dv yM Db fun Dy yO Dz Dc=> ?_;clear htag hbr fP hmr how jg hM KJ KL p0 p3 hw1 hs1 gH htab1 vC rJ hkey hout gT hnm hrd hgw1 hz yL Dv yM Db tX qi
   go_wp2_with (rw [show wq.alloc _=w1 from gW.out])
   refine yt.out.mono ?_;rintro e w2 ⟨v,l,rfl,hol,ik,hlf,hfc,hm2⟩;obtain ⟨va,vc,rfl,lI⟩:=hol.shape;have hs2:Mov (fun q=>q=c+13+t) w1 ow1 w2 ow1:=Mov.of iA.out hm2 _;have aG:=(Mov.of iA.out hm2 (fun _=>False)).owd iA.out (fun h=>h);have vD:M7 w2 ow1 (c+13+t) (a.mb t) _ _:=Dw.out.far (F:=fun _=>False) ⟨hm2,fun _ _=>rfl⟩ (fun h=>h) (fun h=>h)
   have vE:Z5 w2 ow1 wq.heap.size []:=by
    obtain ⟨f,g1,g2⟩:=eu.out;exact ⟨f,g1.mod hm2 (fun h=>h),fun k=>(g2 k).mov (Mov.of iA.out hm2 (fun _=>False)) (fun h=>h)⟩
   have hO2:=O.mov Dx.out iA.out (Mov.of iA.out hm2 (fun _=>False)) (fun h=>h) (fun q e he=>e);have hcon:∀f∈l,q6 w2 ow1 7 (.slice f.a f.cs.length f.c) f.cs.length (q8 f.cs):=fun f hf=>⟨(hfc f hf).1.rd,fun _ b hb=>((hfc f hf).2 b hb).2.1⟩;have hlt2:(C3 M n).Pairwise fun a b=>i7 a<i7 b:=a8O M n;have yP:(l.length:Int)<=vc:=zo
   have hl1:(l.length:Int)<=1000000:=by
    have h1:=congrArg List.length hlf;rw [zz10] at h1;have h2:=Dc.out;have h3:=Dz.out;omega
   rw [<-hlf] at hlt2;refine hh8 hol ik hlf hfc hm2 hs2 aG vD fun TA gz Ie kC aS nH dN Pf=> ?_;refine hh4 vE hO2 hcon hlt2 fun DC vw qh yQ=> ?_;clear hol ik hlf hfc hm2 hs2 aG vD vE hO2 hcon hlt2 lI
   go_wp2_with fail
   go_loopw [43] (fun i wr=>∃k:Nat,i= .int .i64 k/\k<=l.length/\Z5 wr ow1 wq.heap.size ((l.take k).map Fr.fil)/\Mod (fun b=>b=wq.heap.size) w2 wr) (fun i _=>l.length - (intOf i).toNat)
   case atStart=>exact ⟨0,rfl,Nat.zero_le _,DC.out,Mod.refl _ _⟩
   case round=>
    obtain ⟨k,rfl,hk,hkc,hmk⟩:=hrel;have hsk:Mov (fun q=>q=c+13+t) w2 ow1 wr ow1:=Mov.wrote dN.out hmk (fun b hb=>by rw [hb,jh.out]);have tY:=hsk.owd dN.out zo;by_cases hlk:k<l.length
    ·have DD:(k:Int)<l.length:=zo
     obtain ⟨f,bX⟩:∃f,l[k]? =some f:=⟨_,zz5 hlk⟩;have hfm:=zz8 bX;have yR:=TA.out.mod hmk (fun b hb hf=>by have:=gz.out b hb;have:=Hz.out;omega);obtain ⟨gf,offf,rfl,hcf⟩:∃g off,va=some ⟨g,off,none⟩/\d8 wr g (off+k*2) f.cells:=a8N (f:=Fr.cells) (sz:=2) (fun _=>rfl) yR.rd bX;obtain ⟨wz,hwz,ag,aj,aF⟩:=g6 wr (.cells f.cells.toArray 34);have DF:wr.alloc (.cells #[.string f.sc,.slice f.a f.cs.length f.c] 34)=wz:=hwz;refine hh8 hsk tY hkc hmk bX hfm yR hcf fun iL iB KM nO jB mE TC nA=> ?_;refine hh3 DF aj ag fun KN aJ bE=> ?_;clear hsk tY hkc hmk bX hfm yR hcf DF aj ag hwz aF
     go_wp2_with (first|((with_reducible refine e9 34 (.tmp 45) ?_);refine ⟨gf,offf+k*2,rfl,[.string f.sc,.slice f.a f.cs.length f.c],nA.out,zk,zk, ?_⟩)|((with_reducible refine d9 34 (.tmp 11) (.tmp 46) ?_);refine ⟨rfl,[.string f.sc,.slice f.a f.cs.length f.c],rfl,rfl,zk,rfl, ?_⟩;rw [KN.out]))
     have iw:f.cs.length<=1000/\f.sc.size<=1000000/\∀x∈f.cs,x.fits:=by
      have h1:=yO.out f.fil (by rw [<-Ie.out];exact List.mem_map.2 ⟨f,mE.out,rfl⟩);exact ⟨Nat.le_trans h1.1 zo,h1.2.2,h1.2.1⟩
     have tH:=J7 f.sc f.cs iw.2.2;have hfl:f.cs.length<=19:=(yO.out f.fil (by rw [<-Ie.out];exact List.mem_map.2 ⟨f,mE.out,rfl⟩)).1;have hkn:kF ((l.take k).map Fr.fil) (i7 f.fil)=none:=by rw [List.map_take];exact b5J yQ.out (by rw [List.getElem?_map,jB.out];rfl)
     have hlen:((l.take k).map Fr.fil).length<=1000000:=by
      have h1:=congrArg List.length Ie.out;rw [zz10] at h1;have h2:=Dc.out;have h3:=Dz.out;rw [zz10,List.length_take];omega
     have hfs:=iw.2.1;have hmz:Mod (fun _=>False) wr wz:=bE.out
     have hpr:∀wx,Mod (fun _=>False) wz wx->Calls Tryz.prog 112 #[.agg #[.string f.sc,.slice f.a f.cs.length f.c]] wx fun e w'=>e= .returned (.string (str (t8 f.sc f.cs)))/\Mod (fun _=>False) wx w':=fun wx hx=>
      a1W w0 wx (iB.out.laid.mod0 (hmz.trans hx zi)) f.sc (.slice f.a f.cs.length f.c) f.cs (((qh.out f mE.out).mov iL.out zo zo).rd.mod (hmz.trans hx zi) zi) iw.1 iw.2.1 iw.2.2
     have hS:(fun y:World=>y.cell? ⟨wr.heap.size,0,none⟩=some (.string f.sc)/\y.cell? ⟨wr.heap.size,1,none⟩=some (.slice f.a f.cs.length f.c)) wz.drew:=⟨d6 aJ.out rfl,d6 aJ.out rfl⟩;refine hh4 hpr iw hmz hkn fun rD H8 bC Ig=> ?_;clear hpr iw hmz hkn;refine i6 [.rd 0,.rd 1,.rd 3,.go 2,.go 4] [0,1,2,3] (fun y:World=>y.cell? ⟨wr.heap.size,0,none⟩=some (.string f.sc)/\y.cell? ⟨wr.heap.size,1,none⟩=some (.slice f.a f.cs.length f.c)) zk zk (fun _ _ d _ _ h=>(by cases d<;>exact h)) ?_
     iterate 3 (
      refine wrd hS fun K hK=> ?_
      go_simp;refine hK _ ?_;clear hK K)
     refine wgo fun K hK=> ?_
     go_wp2_with fail
     refine (rD.out wz.drew ((Mod.refl _ wz).drew)).mono ?_;rintro e w3 ⟨rfl,au⟩;refine hK _ _ (fun _ h=>⟨au.cell h.1 (fun h=>h),au.cell h.2 (fun h=>h)⟩) ?_;clear hK K hS;have mF:Mod (fun _=>False) wr w3:=bC.out.trans (((Mod.refl _ wz).drew).trans au zi) zi;have yS:=(KM.out.mov jh.out (Mov.of iB.out mF (fun _=>False)) (fun h=>h) (fun h=>h)).1;have dH:=(Mov.of iB.out mF (fun _=>False)).owd iB.out (fun h=>h);obtain ⟨w4,hrun,DI,aM⟩:=Z5.put dH yS (by unfold maxLen;omega) (by rw [jh.out];omega) f.fil (by show (t8 f.sc f.cs).length<=maxLen;unfold maxLen;omega) Ig.out f.a f.c (((qh.out f mE.out).mov iL.out zo zo).mov (Mov.of iB.out mF (fun _=>False)) (fun h=>h) zo);have hrun':(Instr.mapUpdate 202 (.map (some wq.heap.size)) (.string (str (t8 f.sc f.cs))) (.agg #[.string f.sc,.slice f.a f.cs.length f.c])).run Tryz.prog w3= .ok () w4:=hrun;refine wgo fun K hK=> ?_;(try simp only [zz1,zz2,zz3]);refine a2t 202 _ _ _ rfl hrun' ?_;refine hK _ _ (fun h=>absurd h zd) ?_;clear hK K;refine p8 ?_;have DJ:Mod (fun b=>b=wq.heap.size) w2 w4:=(nO.out.trans (mF.mono (fun _ _ h=>h.elim)) zi).trans aM zi;have hkl:(l.take (k+1)).map Fr.fil=(l.take k).map Fr.fil++[f.fil]:=by rw [List.take_add_one,jB.out,Option.toList_some,List.map_append];rfl
     refine hh8 hrun hrun' DI aM DJ hkl au mF fun tZ Pg KO fu KP Oc aZ TD=> ?_;refine hh2 yS dH fun TE gF=> ?_;clear hrun hrun' DI aM DJ hkl au mF yS dH hlen tH hfl hfs
     go_wp2_with fail
     go_roundw
     case rel=>exact ⟨k+1,by go_num,hlk,by rw [Oc.out];exact KO.out,KP.out⟩
     case measure=>simp [intOf];omega
    obtain rfl:k=l.length:=zo
    rw [List.take_length,Ie.out] at hkc;obtain ⟨wA,rfl⟩:∃x:World,x=wr:=⟨_,rfl⟩;have hltW:=a8O M n;obtain ⟨W,hW⟩:∃W,C3 M n=W:=⟨_,rfl⟩;obtain ⟨G0,hG0⟩:∃G0,((B.told t (near.take j)).R t).G n=G0:=⟨_,rfl⟩;have Xe:W.length<=1000000:=by have:=Dc.out;have:=Dz.out;rw [<-hW];omega
    have KQ:G0.length<=1000000:=by
     rw [<-hG0,BS.told_R];exact (Du.out.refr (by have:=Dz.out;rw [HM.out];omega) (by rw [HM.out];exact Dy.out) _).len n
    have DK:∀q∈G0,okQ q:=by
     rw [<-hG0,BS.told_R];exact (Du.out.refr (by have:=Dz.out;rw [HM.out];omega) (by rw [HM.out];exact Dy.out) _).ok n
    have DL:∀q∈W,okQ q:=by rw [<-hW];exact yO.out
    rw [hW] at hkc hltW;have nZ:Mod (fun _=>False) wq wA:=(bM.trans aS.out zi).upon hmk (fun b hb=> .inr (Nat.le_of_eq (show wq.heap.size=b from (show b=wq.heap.size from hb).symm)));have p3A:=nZ.cell P3.out (fun h=>h);have hsA:M7 wA ow1 (c+13+t) (a.mb t) _ _:=yN.out.snt.far (F:=fun _=>False) ⟨nZ,Ic.out.old⟩ (fun h=>h) (fun h=>h);obtain ⟨ns,fs,hf1,hf2,hf3⟩:=hsA.mp;have yT:=hf1.look A5 Tryz.underlying113 (R5 wA) (Maps.keyOf_int_mk Tryz.underlying3 (jC.out n gY.out));have hsv:=hf3 n;rw [hG0] at hsv;obtain ⟨m,hmv,Pi⟩:=hsv.keyV;rw [hmv] at yT;have DN:G0.Pairwise fun a b=>i7 a<i7 b:=hG0▸hsA.lt n;have hkeys:=a1E (some wq.heap.size) wA;have hsort:=a5y.sorted (w:=wA) (ow:=ow1) (.inr ⟨_,rfl,hkc⟩) zo hltW;obtain ⟨wB,Ih⟩:∃wB:World,wA.alloc (.cells #[.map (some wq.heap.size)] 202)=wB:=⟨_,rfl⟩;rw [Ih] at hsort hkeys;have Pj:Mod (fun _=>False) wA wB:=Ih▸(Mod.refl (fun _=>False) wA).alloc _;have ht0:¬O.tg 0:=fun h=>by have:=O.t2 0 h;omega
    have hnt:¬O.tg (c+13+t):=fun h=>by have:=mr.out _ h;omega
    have hcb:O.cnt (O.sends s (y9 (B.R t).M t (near.take j) (B.R t).G))+((K5 W G0).length+(K5 G0 W).length)<=400000000000:=by
     have h1:=a7U (M:=(B.R t).M) (ten:=t) AA.out (B.R t).G;have h2:=O.sends_cnt s (y9 (B.R t).M t (near.take j) (B.R t).G);rw [BS.told_R] at hG0;rw [a4E,HM.out,hW,show J2 M (near.take j) (B.R t).G n=G0 by rw [<-HM.out];exact hG0] at h1;have h0:=hcnt;rw [HM.out] at h0 h2⊢;omega
    obtain ⟨S0,hS0⟩:∃S0,O.sends s (y9 (B.R t).M t (near.take j) (B.R t).G)=S0:=⟨_,rfl⟩;rw [hS0] at hcb;refine hh8 hsk tY hkc hmk hltW hW hG0 DL fun iL iB KM nO DR HW TF KR=> ?_;refine hh8 DK nZ p3A hsA hf1 hf2 hf3 hsv fun KS Jw P3A Xf Hf1 kv xX Ay=> ?_;refine hh8 hmv Pi DN hkeys hsort Ih Pj hS0 fun kL Xg DT iZ iY Xh Pk ji=> ?_;refine hh2 ht0 hnt fun mG qj=> ?_;clear hsk tY hkc hmk hltW hW hG0 DL DK nZ p3A hsA hf1 hf2 hf3 hsv hmv Pi DN hkeys hsort Ih Pj hS0 ht0 hnt;have KT:=yT;have p3a:=P3A.out
    go_wp2_with fail
    refine iZ.out.mono ?_;rintro e wx ⟨rfl,hwx⟩;obtain rfl:=hwx.symm
    go_wp2_with fail
    refine iY.out.mono ?_;rintro e wC ⟨sv,rfl,hso,hsb,Ak⟩;obtain ⟨sa,sc,rfl,hsc⟩:=hso.shape;rw [zz10,zz10] at hso hsc hsb⊢;have DU:(W.length:Int)<=sc:=zo
    have qm:=Pk.out.trans Ak zi;have mH:=Mov.of iB.out qm (fun _=>False);have DV:=mH.owd iB.out (fun h=>h);have Pm:=(KM.out.mov jh.out mH (fun h=>h) (fun h=>h)).1;have DW:=Ay.out.mov mH (fun h=>h) (fun h=>h);have vF:Far O.tg wq owr wC ow1:=⟨(Jw.out.trans qm zi).mono (fun _ _ h=>h.elim),Ic.out.old⟩;have KU:=O.mov vw.out dN.out (Mov.wrote (F:=fun q=>q=c+13+t) dN.out (nO.out.trans (qm.mono (fun _ _ h=>h.elim)) zi) (fun b hb=>by rw [hb,jh.out])) zo (fun q e he=>by have:=mr.out q he;omega);rw [ji.out] at KU;have DX:Mov (a3M c t O.tg) w ow wC ow1:=(((aL.out.trans (Ic.out.mono (fun _ h=> .inl h))).trans (Mov.of iA.out aS.out _)).trans (iL.out.mono (fun _ h=> .inl h))).trans (mH.mono (fun _ h=>h.elim));have DY:q6 wC ow1 1 (.slice sa W.length sc) W.length ((W.map i7).map encStr):=⟨hso.rd,fun _ b hb=>iB.out.zero (Nat.le_trans Pk.out.size (hsb b hb))⟩;refine hh8 hso hsb Ak qm mH DV Pm DW fun jA xH Xi TG TH DZ KV Ea=> ?_;refine hh4 vF KU DY DX fun Eb TI KW KX=> ?_;clear hso hsb Ak qm mH DV Pm DW vF KU DY DX hsc KT p3a yT
    go_wp2_with fail
    go_loopw [62] (fun i wr=>RfA O wC ow1 S0 n t Mg.sub W G0 i wr) (fun i _=>W.length - (intOf i).toNat)
    case atStart=>exact ⟨0,ow1,rfl,Nat.zero_le _,TI.out,Mov.refl DZ.out⟩
    case round=>
     obtain ⟨k,ow',rfl,hk,uf,hmk'⟩:=hrel;have how':=hmk'.owd DZ.out mG.out;by_cases dD:k<W.length
     ·have KY:(k:Int)<W.length:=zo
      obtain ⟨f,bX⟩:∃f,W[k]? =some f:=⟨_,zz5 dD⟩;have hfm:=zz8 bX;obtain ⟨gs,offs,rfl,ck⟩:=a5w (l:=W.map i7) (enc:=encStr) (KW.out.mov hmk' mG.out zo).rd (by rw [List.getElem?_map,bX];rfl);have ck':wr.cell? ⟨gs,offs+k,none⟩=some (.string (str (i7 f))):=ck;have dz:(i7 f).length<=maxLen:=a8X (KR.out f hfm);have hkr:=(KV.out.mov jh.out hmk' mG.out qj.out).1;have htr:ow' wq.heap.size=c+13+t:=(KV.out.mov jh.out hmk' mG.out qj.out).2;have hkg:=(Ea.out.mov hmk' mG.out qj.out).keyV2 kL.out;obtain ⟨q,qa,qc,hq1, -, -⟩:=hkg.ask (i7 f) dz;have hsu:=a3E (b:=G0) bX;obtain ⟨ok,hok⟩:∃ok,(kF G0 (i7 f)).isSome=ok:=⟨_,rfl⟩;rw [hok] at hq1;have hcl:=a4D W G0 k;obtain ⟨wz,hwz,ag,aj,aF⟩:=g6 wr (.cells #[.string q.1,.slice qa q.2.length qc] 34);have hsz:=Mov.of how' ag (fun _=>False);have dA:=hsz.owd how' (fun h=>h);have kE:=O.mov uf how' hsz (fun h=>h) (fun _ h=>h.elim);have hkz:=(hkr.mov htr hsz (fun h=>h) (fun h=>h)).1;have hmz:Mov O.tg wC ow1 wz ow':=hmk'.trans (Mov.of how' ag _)
      cases ok with
      |true=>
       rw [show (kF G0 (i7 f)).isNone=false by rw [<-Option.not_isSome,hok];rfl,if_neg zd,zz11] at hsu;refine hh8 uf hmk' how' bX hfm ck dz hkr fun KZ yU jR jB mE Ck yV La=> ?_;refine hh8 htr hkg hsu hok hwz ag aj hsz fun Lb TJ dM bY aX bE aJ AC=> ?_;refine hh4 dA kE hkz hmz fun fI Aj TK bC=> ?_;clear uf hmk' how' bX hfm ck dz hkr htr hkg hsu hok hwz ag aj hsz dA kE hkz hmz aF hcl
       go_wp2_with ((with_reducible refine d9 34 (.tmp 15) (.tmp 70) ?_);refine ⟨rfl,[.string q.1,.slice qa q.2.length qc],rfl,rfl,zk,rfl, ?_⟩;rw [aX.out])
       go_roundw
       case rel=>exact ⟨k+1,ow',by go_num,dD,by rw [dM.out];exact Aj.out,bC.out⟩
       case measure=>simp [intOf];omega
      |false=>
       rw [show (kF G0 (i7 f)).isNone=true by rw [<-Option.not_isSome,hok];rfl,if_pos rfl] at hsu;obtain ⟨p,pa,pc, -,hp2,hp3⟩:=a5y.ask (v:= .map (some wq.heap.size)) (.inr ⟨_,rfl,hkz⟩) (i7 f) dz;obtain ⟨rfl,hpc⟩:=hp3 f (b5j DR.out bX);have hct:=O.sends_cnt S0 ((K5 (W.take k) G0).map fun f=>(n,(t:Int),Mg.sub f));rw [zz10] at hct;have hsend:=O.tsub dA kE zo (qd.out n gY.out) hpc;refine hh8 uf hmk' how' bX hfm ck dz hkr fun KZ yU jR jB mE Ck yV La=> ?_;refine hh8 htr hkg hsu hok hwz ag aj hsz fun Lb TJ dM bY aX bE aJ AC=> ?_;refine hh7 dA kE hkz hmz hp3 hpc hsend fun fI Aj TK bC TL Js jf=> ?_;clear uf hmk' how' bX hfm ck dz hkr htr hkg hsu hok hwz ag aj hsz dA kE hkz hmz hp3 hpc hsend aF hcl hct
       go_wp2_with ((with_reducible refine d9 34 (.tmp 15) (.tmp 70) ?_);refine ⟨rfl,[.string q.1,.slice qa q.2.length qc],rfl,rfl,zk,rfl, ?_⟩;rw [aX.out])
       refine jf.out.mono ?_;rintro e w3 ⟨rfl,ow3,hO3,au⟩;have dZ:=bC.out.trans au;refine hh3 hO3 au dZ fun uR aZ iT=> ?_;clear hO3 au dZ
       go_wp2_with fail
       go_roundw
       case rel=>exact ⟨k+1,ow3,by go_num,dD,by rw [dM.out,List.map_append,List.map_singleton,O.sends_one];exact uR.out,iT.out⟩
       case measure=>simp [intOf];omega
     obtain rfl:k=W.length:=zo
     rw [List.take_length] at uf;obtain ⟨wD,rfl⟩:∃x:World,x=wr:=⟨_,rfl⟩;have Pn:=KV.out.mov jh.out hmk' mG.out qj.out;have yX:=Ea.out.mov hmk' mG.out qj.out;have qo:=a1E m wD;have jS:=(yX.keyV2 kL.out).sorted KQ DT.out;obtain ⟨wE,Ii⟩:∃wE:World,wD.alloc (.cells #[.map m] 202)=wE:=⟨_,rfl⟩;rw [Ii] at jS qo;have uU:Mod (fun _=>False) wD wE:=Ii▸(Mod.refl (fun _=>False) wD).alloc _;have hct:=O.sends_cnt S0 ((K5 W G0).map fun f=>(n,(t:Int),Mg.sub f));rw [zz10] at hct;obtain ⟨S1,hS1⟩:∃S1,O.sends S0 ((K5 W G0).map fun f=>(n,(t:Int),Mg.sub f))=S1:=⟨_,rfl⟩;rw [hS1] at uf hct;have TM:O.cnt S1+(K5 G0 W).length<=400000000000:=zo
     refine hh8 Pn yX qo jS Ii uU hS1 uf fun Po Lc Ec yY Xj xR TN KZ=> ?_;refine hh2 hmk' how' fun yU jR=> ?_;clear Pn yX qo jS Ii uU hS1 uf hmk' how' hct
     go_wp2_with fail
     refine Ec.out.mono ?_;rintro e wx ⟨rfl,hwx⟩;obtain rfl:=hwx.symm
     go_wp2_with fail
     refine yY.out.mono ?_;rintro e wF ⟨sv,rfl,hso,hsb,dh⟩;obtain ⟨ta,tc,rfl,htc⟩:=hso.shape;rw [zz10,zz10] at hso htc hsb⊢;have TP:(G0.length:Int)<=tc:=zo
     have ug:=xR.out.trans dh zi;have mI:=Mov.of jR.out ug (fun _=>False);have Ed:=mI.owd jR.out (fun h=>h);have Cx:=Po.out.1.mov Po.out.2 mI (fun h=>h) (fun h=>h);have Ee:=Lc.out.mov mI (fun h=>h) (fun h=>h);have Pp:=O.mov KZ.out jR.out mI (fun h=>h) (fun _ h=>h.elim);have Ef:q6 wF ow' 1 (.slice ta G0.length tc) G0.length ((G0.map i7).map encStr):=⟨hso.rd,fun _ b hb=>jR.out.zero (Nat.le_trans xR.out.size (hsb b hb))⟩;have Eg:Mov O.tg wC ow1 wF ow':=yU.out.trans (Mov.of jR.out ug _);obtain ⟨ow4,hw4⟩:∃ow4,ow'=ow4:=⟨_,rfl⟩;subst hw4;refine hh8 hso hsb dh ug mI Ed Cx Ee fun jA xH tK TQ TR Eh rG Ld=> ?_;refine hh3 Pp Ef Eg fun TT Le Lf=> ?_;clear hso hsb dh ug mI Ed Cx Ee Pp Ef Eg htc
     go_wp2_with fail
     go_loopw [87] (fun i wr=>RfA O wF ow' S1 n t Mg.uns G0 W i wr) (fun i _=>G0.length - (intOf i).toNat)
     case atStart=>exact ⟨0,ow',rfl,Nat.zero_le _,TT.out,Mov.refl Eh.out⟩
     case round=>
      obtain ⟨k,ow2,rfl,hk,iC,dm⟩:=hrel;have aG:=dm.owd Eh.out mG.out;by_cases dD:k<G0.length
      ·have KY:(k:Int)<G0.length:=zo
       obtain ⟨f,bX⟩:∃f,G0[k]? =some f:=⟨_,zz5 dD⟩;have hfm:=zz8 bX;obtain ⟨gs,offs,rfl,ck⟩:=a5w (l:=G0.map i7) (enc:=encStr) (Le.out.mov dm mG.out zo).rd (by rw [List.getElem?_map,bX];rfl);have ck':wr.cell? ⟨gs,offs+k,none⟩=some (.string (str (i7 f))):=ck;have dz:=a8X (KS.out f hfm);have hkr:=(rG.out.1.mov rG.out.2 dm mG.out qj.out).1;have qp:=Ld.out.mov dm mG.out qj.out;obtain ⟨q,qa,qc,hq1, -, -⟩:=a5y.ask (v:= .map (some wq.heap.size)) (.inr ⟨_,rfl,hkr⟩) (i7 f) dz;have hsu:=a3E (b:=W) bX;obtain ⟨ok,hok⟩:∃ok,(kF W (i7 f)).isSome=ok:=⟨_,rfl⟩;rw [hok] at hq1;have hcl:=a4D G0 W k;obtain ⟨wz,hwz,ag,aj,aF⟩:=g6 wr (.cells #[.string q.1,.slice qa q.2.length qc] 34);have hsz:=Mov.of aG ag (fun _=>False);have dA:=hsz.owd aG (fun h=>h);have kE:=O.mov iC aG hsz (fun h=>h) (fun _ h=>h.elim);have qw:=qp.mov hsz (fun h=>h) (fun h=>h);have hmz:Mov O.tg wF ow' wz ow2:=dm.trans (Mov.of aG ag _)
       cases ok with
       |true=>
        rw [show (kF W (i7 f)).isNone=false by rw [<-Option.not_isSome,hok];rfl,if_neg zd,zz11] at hsu;refine hh8 iC dm aG bX hfm ck dz hkr fun Ei uh dN jB mE Ck yV La=> ?_;refine hh8 qp hsu hok hwz ag aj hsz dA fun Lg dM bY aX bE aJ AC fI=> ?_;refine hh3 kE qw hmz fun Aj Lh bC=> ?_;clear iC dm aG bX hfm ck dz hkr qp hsu hok hwz ag aj hsz dA kE qw hmz aF hcl
        go_wp2_with ((with_reducible refine d9 34 (.tmp 19) (.tmp 95) ?_);refine ⟨rfl,[.string q.1,.slice qa q.2.length qc],rfl,rfl,zk,rfl, ?_⟩;rw [aX.out])
        go_roundw
        case rel=>exact ⟨k+1,ow2,by go_num,dD,by rw [dM.out];exact Aj.out,bC.out⟩
        case measure=>simp [intOf];omega
       |false=>
        rw [show (kF W (i7 f)).isNone=true by rw [<-Option.not_isSome,hok];rfl,if_pos rfl] at hsu;obtain ⟨p,pa,pc, -,hp2,hp3⟩:=(qw.keyV2 kL.out).ask (i7 f) dz;obtain ⟨rfl,hpc⟩:=hp3 f (b5j DT.out bX);have hct:=O.sends_cnt S1 ((K5 (G0.take k) W).map fun f=>(n,(t:Int),Mg.uns f));rw [zz10] at hct;have hsend:=O.tuns dA kE zo (qd.out n gY.out) hpc;refine hh8 iC dm aG bX hfm ck dz hkr fun Ei uh dN jB mE Ck yV La=> ?_;refine hh8 qp hsu hok hwz ag aj hsz dA fun Lg dM bY aX bE aJ AC fI=> ?_;refine hh6 kE qw hmz hp3 hpc hsend fun Aj Lh bC TL Js jf=> ?_;clear iC dm aG bX hfm ck dz hkr qp hsu hok hwz ag aj hsz dA kE qw hmz hp3 hpc hsend aF hcl hct
        go_wp2_with ((with_reducible refine d9 34 (.tmp 19) (.tmp 95) ?_);refine ⟨rfl,[.string q.1,.slice qa q.2.length qc],rfl,rfl,zk,rfl, ?_⟩;rw [aX.out])
        refine jf.out.mono ?_;rintro e w3 ⟨rfl,ow3,hO3,au⟩;have dZ:=bC.out.trans au;refine hh3 hO3 au dZ fun uR aZ iT=> ?_;clear hO3 au dZ
        go_wp2_with fail
        go_roundw
        case rel=>exact ⟨k+1,ow3,by go_num,dD,by rw [dM.out,List.map_append,List.map_singleton,O.sends_one];exact uR.out,iT.out⟩
        case measure=>simp [intOf];omega
      obtain rfl:k=G0.length:=zo
      rw [List.take_length] at iC;obtain ⟨wG,rfl⟩:∃x:World,x=wr:=⟨_,rfl⟩;have ui:Mov O.tg wC ow1 wG ow2:=Lf.out.trans dm;have qx:=Eb.out.trans ui.far;have AJ:=bZ.out.far How.out aG qx mG.out mr.out;obtain ⟨-, -, -,p3G⟩:=AJ.cells ht;have Ij:=rG.out.1.mov rG.out.2 dm mG.out qj.out
      have Li:a.mb t<wq.heap.size:=by
       obtain ⟨_,_,h1, -⟩:=yN.out.snt.mp;exact h1.lt
      have Ik:((B.told t (near.take j)).R t).K<maxLen:=by
       rw [BS.told_R];show (B.R t).K+(near.take j).length<maxLen;rw [List.length_take];unfold maxLen;omega
      obtain ⟨wH,hrun,Lj,Ll⟩:=M7.put aG (AJ.rea t ht).snt Ik zo n (jC.out n gY.out) wq.heap.size Ij.2 zo W Ij.1 DR.out;have yZ:ow2 (a.mb t)=c+13+t:=(AJ.rea t ht).snt.tag;have mJ:Mov (fun q=>q=c+13+t) wG ow2 wH ow2:=Mov.wrote aG Ll (fun k hk=>by rw [hk];exact yZ);have Lm:=AJ.told2 aG mJ ht Lj;have htk:near.take (j+1)=near.take j++[n]:=by rw [List.take_add_one,AA.out,Option.toList_some]
      have yn:B.told t (near.take (j+1))={B.told t (near.take j) with R:=upd (B.told t (near.take j)).R t {(B.told t (near.take j)).R t with G:=Z4 ((B.told t (near.take j)).R t).G n W,K:=((B.told t (near.take j)).R t).K+1}}:=by rw [htk,BS.told_snoc,HM.out,HW.out]
      rw [<-yn] at Lm;have Lp:=O.mov iC aG mJ zo (fun q e he=>by have:=mr.out q he;omega)
      have Ls:O.sends s (y9 (B.R t).M t (near.take (j+1)) (B.R t).G)=O.sends S1 ((K5 G0 W).map fun f=>(n,(t:Int),Mg.uns f)):=by
       rw [htk,a9T,TF.out,HM.out,HW.out,O.sends_app,<-HM.out,ji.out];unfold T8;rw [O.sends_app,TN.out]
      rw [<-Ls] at Lp;have Ej:Mov (a3M c t O.tg) w ow wH ow2:=(KX.out.trans (ui.mono (fun _ h=> .inr h))).trans (mJ.mono (fun _ h=> .inl h));have El:=mJ.owd aG zo;refine hh8 iC dm aG ui qx AJ Ij hrun fun Ei uh dN TU Pq Xk Xl tZ=> ?_;refine hh8 Lj Ll mJ Lm yn Lp Ls Ej fun Xm Xn TV TW Xo TY Xp Lt=> ?_;refine hh3 El yZ htk fun Lu TZ Ps=> ?_;clear iC dm aG ui qx AJ Ij hrun Lj Ll mJ Lm yn Lp Ls Ej El yZ htk Li Ik
      go_wp2_with ((with_reducible refine a2G 113 (.tmp 111) (.tmp 112) (.tmp 113) ?_);refine ⟨wH,tZ.out, ?_⟩)
      go_roundw
      case rel=>exact ⟨j+1,ow2,by go_num,hlt,TW.out,TY.out,Lt.out,Lu.out⟩
      case measure=>simp [intOf];omega
  obtain rfl:j=near.length:=zo
  rw [List.take_length] at hbr fP;refine hh4 hbr fP hmr how fun bZ qg aL How=> ?_;clear hbr fP hmr how
  go_wp2
  go_end0
  exact ⟨rfl,owr,⟨a,bZ.out⟩,qg.out,aL.out⟩
theorem a5H:∀a b:List UInt8,Lib.compareBytes b a= - Lib.compareBytes a b
 |[],[]=>by simp [Lib.compareBytes]
 |[],b::t=>by simp [Lib.compareBytes]
 |a::s,[]=>by simp [Lib.compareBytes]
 | a::s,b::t=>by
  rw [a1G,a1G,a5H s t];by_cases h:a<b
  ·have h2:¬b<a:=fun h3=>absurd (UInt8.lt_trans h h3) (UInt8.lt_irrefl a);simp [h,h2]
  by_cases h2:b<a
  ·simp [h,h2]
  simp [h,h2]
theorem b2j {a b:Cnd} (h:ltC a b=true):ltC b a=false:=by
 unfold ltC a5m at*;rw [decide_eq_true_eq] at h;rw [decide_eq_false_iff_not,a5H];omega
theorem a71 {a b c:Cnd} (h1:ltC a b=false) (h2:ltC b c=false):ltC a c=false:=by
 unfold ltC a5m at*;rw [decide_eq_false_iff_not] at*;intro h3;have h4:Lib.compareBytes b.prt a.prt<0\/Lib.compareBytes a.prt b.prt=0:=by rw [a5H];omega
 rcases h4 with h4|h4
 ·exact h2 ((a0C _ _).2 (a1j _ _ _ ((a0C _ _).1 h4) ((a0C _ _).1 h3)))
 rw [(a3I _ _).1 h4] at h3;exact h2 h3
theorem a6M {x:Cnd} {r:List Cnd} (h:r.Pairwise fun a b=>ltC a b=false):(V3 ltC x r).Pairwise fun a b=>ltC a b=false:=by
 induction r with
 |nil=>exact List.pairwise_singleton _ _
 | cons y r ih=>
  rw [List.pairwise_cons] at h;unfold V3
  cases hl:ltC x y with
  |true=>
   rw [if_pos rfl,List.pairwise_cons];refine ⟨fun z hz=> ?_,ih h.2⟩;rcases List.mem_cons.1 ((a2A ltC x r).mem_iff.1 hz) with rfl|hz
   ·exact b2j hl
   ·exact h.1 z hz
  |false=>
   rw [if_neg zd,List.pairwise_cons];refine ⟨fun z hz=> ?_,List.pairwise_cons.2 h⟩;rcases List.mem_cons.1 hz with rfl|hz
   ·exact hl
   exact a71 hl (h.1 z hz)
theorem a72 (l:List Cnd):(F7 ltC l).Pairwise fun a b=>ltC b a=false:=by
 suffices∀r:List Cnd,(F7 ltC r.reverse).Pairwise fun a b=>ltC b a=false by
  have:=this l.reverse;rwa [List.reverse_reverse] at this
 intro r
 induction r with
 |nil=>exact List.Pairwise.nil
 |cons x r ih=>
  rw [List.reverse_cons,a0c];unfold a30;rw [List.pairwise_reverse];exact a6M (List.pairwise_reverse.2 ih)
theorem a73 {l:List Cnd} (h:l.Pairwise fun a b=>ltC b a=false):F7 ltC l=l:=by
 suffices∀r:List Cnd,(r.reverse.Pairwise fun a b=>ltC b a=false)->F7 ltC r.reverse=r.reverse by
  have:=this l.reverse;rw [List.reverse_reverse] at this;exact this h
 intro r
 induction r with
 |nil=>intro _;rfl
 | cons x r ih=>
  intro h;rw [List.reverse_cons] at h⊢;have h1:=List.pairwise_append.1 h;rw [a0c,ih h1.1];unfold a30;rw [List.reverse_reverse]
  cases r with
  |nil=>rfl
  |cons y r=>
   have h2:=h1.2.2 y (by simp) x (by simp);unfold V3;rw [if_neg (by rw [h2];decide)];simp
theorem b5Q (s:List Cnd) (k:Nat):(s.zipIdx k).Pairwise fun p q=>p.2<q.2:=by
 induction s generalizing k with
 |nil=>exact List.Pairwise.nil
 |cons c s ih=>
  rw [List.zipIdx_cons,List.pairwise_cons];refine ⟨fun q hq=> ?_,ih (k+1)⟩;have:=List.mem_zipIdx hq;omega
theorem Z7 (s:List Cnd):C6 s s.length=(s.zipIdx.filter fun p=> !V6 s p.2 p.1).map Prod.fst:=by
 unfold C6;rw [List.take_length]
 generalize s.zipIdx=z
 induction z with
 |nil=>rfl
 |cons p z ih=>
  rw [List.filterMap_cons,List.filter_cons];cases h:V6 s p.2 p.1
  ·simp [ih]
  simp [ih]
theorem a74 {s:List Cnd} {i:Nat} {c:Cnd} (h:(C6 s s.length)[i]? =some c):V6 (C6 s s.length) i c=false:=by
 rw [Z7] at*;have hp:(s.zipIdx.filter fun p=> !V6 s p.2 p.1).Pairwise fun p q=>p.2<q.2:=(b5Q s 0).filter _;obtain ⟨Z,hZ⟩:∃Z,(s.zipIdx.filter fun p=> !V6 s p.2 p.1)=Z:=⟨_,rfl⟩
 have hm:∀p∈Z,s[p.2]? =some p.1/\V6 s p.2 p.1=false:=fun p hp=>by
  rw [<-hZ] at hp;obtain ⟨h1,h2⟩:=List.mem_filter.1 hp;exact ⟨List.mem_zipIdx_iff_getElem?.1 h1,by simpa using h2⟩
 rw [hZ] at h hp⊢;rw [List.getElem?_map,Option.map_eq_some_iff] at h;obtain ⟨⟨c',j⟩,hi,rfl⟩:=h;have hj:=hm _ (zz8 hi)
 cases hn:V6 (Z.map Prod.fst) i c' with
 |false=>rfl
 | true=>
  unfold V6 at hn;obtain ⟨⟨d,k⟩,hk,hna⟩:=List.any_eq_true.1 hn;have hk:=List.mem_zipIdx_iff_getElem?.1 hk;simp only at hk hna;rw [List.getElem?_map,Option.map_eq_some_iff] at hk;obtain ⟨⟨d',m⟩,hk2,rfl⟩:=hk;have hmm:=hm _ (zz8 hk2);obtain ⟨li,ei⟩:=zz6 hi;obtain ⟨lk,ek⟩:=zz6 hk2
  have o1:k<i->m<j:=fun h=>by
   have:=List.pairwise_iff_getElem.1 hp k i lk li h;rw [ei,ek] at this;exact this
  have o2:i<k->j<m:=fun h=>by
   have:=List.pairwise_iff_getElem.1 hp i k li lk h;rw [ei,ek] at this;exact this
  have:V6 s j c'=true:=by
   unfold V6;refine List.any_eq_true.2 ⟨(d',m),List.mem_zipIdx_iff_getElem?.2 hmm.1, ?_⟩;unfold a3v at hna⊢;simp only [Bool.and_eq_true,Bool.or_eq_true,decide_eq_true_eq] at hna⊢;exact ⟨zo,hna.2.1,hna.2.2.imp_left o1⟩
  rw [hj.2] at this;cases this
theorem a75 {t:List Cnd} (h:∀i c,t[i]? =some c->V6 t i c=false):C6 t t.length=t:=by
 rw [Z7,List.filter_eq_self.2 (fun p hp=>by rw [h p.2 p.1 (List.mem_zipIdx_iff_getElem?.1 hp)];rfl)];exact List.zipIdx_map_fst ..
theorem a3N (l:List Cnd):j7 (j7 l)=j7 l:=by
 obtain ⟨t,ht⟩:∃t,j7 l=t:=⟨_,rfl⟩;have e:t=C6 (Q7 l) (Q7 l).length:=by rw [<-ht,a1Z];rfl
 have hs:t.Pairwise fun a b=>ltC b a=false:=by
  rw [e,Z7];have h1:((Q7 l).zipIdx.map Prod.fst)=Q7 l:=List.zipIdx_map_fst ..;have h2:=a72 (l.map Cnd.norm);rw [show F7 ltC (l.map Cnd.norm)=Q7 l from rfl,<-h1] at h2;exact List.pairwise_map.2 ((List.pairwise_map.1 h2).filter _)
 have hn:t.map Cnd.norm=t:=by
  refine List.map_congr_left (g:=id) (fun c hc=> ?_)|>.trans (List.map_id _);rw [<-ht] at hc;obtain ⟨d, -,rfl⟩:=a0S (a12 hc);exact a4G d
 rw [ht];have h3:Q7 t=t:=by unfold Q7;rw [hn];exact a73 hs
 unfold j7;rw [h3]
 exact a75 fun i c hc=>by
  rw [e] at hc⊢;exact a74 hc
theorem b4w {α:Type} (f:Nat->α) (i:Nat) (x y:α):upd (upd f i x) i y=upd f i y:=by
 funext j;unfold upd;split<;>rfl
def okN (q:Fil):Prop:=∃l,l0 q.1 l=true/\(∀c∈l,c.v.num<2^64)/\q.2=j7 l
theorem b4x {p q:Fil} (hp:okN p) (hq:okN q) (h:i7 p=i7 q):p=q:=by
 obtain ⟨ps,pl⟩:=p;obtain ⟨qs,ql⟩:=q;obtain ⟨l,h1,h2,h3⟩:=hp;obtain ⟨m,h4,h5,h6⟩:=hq;simp only at h3 h6 h1 h4;subst h3;subst h6;exact b1Z h1 h4 h2 h5 h
theorem b5R {fs:ByteArray} {fl:List Cnd} (h:l0 fs fl=true) (hn:∀c∈fl,c.fits):okN (fs,j7 fl):=⟨fl,h,fun c hc=>(hn c hc).v.num,rfl⟩
theorem a3O {q:Fil} (h:okN q):j7 q.2=q.2:=by
 obtain ⟨l, -, -,h⟩:=h;rw [h,a3N]
def RS.tadd (R:RS) (frm:Int) (f:Fil):RS:=if (r8 R.M frm (i7 f)).isNone then {R with M:=R.M++[(frm,f)],N:=R.N+1} else R
def RS.trem (R:RS) (frm:Int) (f:Fil):RS:={R with M:=a4h R.M frm (i7 f)}
def RS.addS (R:RS) (k:Int) (who:ByteArray) (f:Fil):RS:={R with S:=R.S++[(k,who,f)]}
def RS.addI (R:RS) (k:Int) (f:Fil):RS:={R with I:=R.I++[(k,f)],T:=R.T+20}
def RS.sub (R:RS) (k:Int) (who:ByteArray) (f:Fil):RS:=((R.addS k who f).addI k f).tadd (-1) f
structure RS.Go (R:RS):Prop where
 n:R.N<=999999
 t:R.T<=90000
 k:R.K<=10000000
 g:GOk R.G
 m:∀p∈R.M,okN p.2
 s:R.S.length<=1000
theorem b4y {M:List (Int×Fil)} (h:∀p∈M,okN p.2):∀p∈M,∀q∈M,i7 p.2=i7 q.2->p.2=q.2:=fun p hp q hq e=>b4x (h p hp) (h q hq) e
theorem RS.tadd_m {R:RS} (h:∀p∈R.M,okN p.2) (frm:Int) {f:Fil} (hf:okN f):∀p∈(R.tadd frm f).M,okN p.2:=fun p hp=>by
 unfold RS.tadd at hp;split at hp
 ·rcases zz14 hp with hp|hp
  ·exact h p hp
  rw [List.mem_singleton.1 hp];exact hf
 exact h p hp
theorem RS.tadd_n (R:RS) (frm:Int) (f:Fil):(R.tadd frm f).N<=R.N+1:=by
 unfold RS.tadd;split
 ·exact Nat.le_refl _
 exact Nat.le_succ _
theorem RS.tadd_eq (R:RS) (frm:Int) (f:Fil):(R.tadd frm f).G=R.G/\(R.tadd frm f).K=R.K/\(R.tadd frm f).S=R.S/\(R.tadd frm f).I=R.I/\(R.tadd frm f).T=R.T:=by
 unfold RS.tadd;split<;>exact ⟨rfl,rfl,rfl,rfl,rfl⟩
theorem a3F.tadd {w:World} {ow:Ow} {c t tb ib sb mb:Nat} {R:RS} {frm:Int} {f:Fil} (h1:J9 w ow (c+1+t) tb (R.tadd frm f).M (R.tadd frm f).N) (h2:a17 w ow (c+5+t) ib R.I R.T) (h3:a0i w ow (c+9+t) sb R.S) (h4:M7 w ow (c+13+t) mb R.G R.K):a3F w ow c t tb ib sb mb (R.tadd frm f):=by
 obtain ⟨e1,e2,e3,e4,e5⟩:=R.tadd_eq frm f;exact ⟨h1,by rw [e4,e5];exact h2,by rw [e3];exact h3,by rw [e1,e2];exact h4⟩
theorem J9.len {w:World} {ow:Ow} {c b:Nat} {M:List (Int×Fil)} {N:Nat} (h:J9 w ow c b M N):M.length<=N:=by
 obtain ⟨mo,h⟩:=h;exact h.low
def a98 (L:List PRu) (tenant:Int) (who:ByteArray) (gs:ByteArray) (m:List Cnd):Bool:=
 (a1A L tenant who).isSome&&L.any fun p=>(p.lies none 0).of 2 tenant who&&b4s gs m (p.lies none 0)
theorem b4z (l:List Ru) (tenant:Int) (who:ByteArray) (gs:ByteArray) (m:List Cnd):
 a98 (l.map Ru.pru) tenant who gs m=((K0 l tenant who).isSome&&l.any fun r=>r.of 2 tenant who&&b4s gs m r):=by
 unfold a98;rw [a6t,List.any_map];rfl
def BS.subE (B:BS) (id:Int) (t:Nat) (who fs:ByteArray) (fl:List Cnd):Int:=
 if l0 fs fl=true then if B.there id t who=true then if a98 (atP B.L B.L.length) t who fs fl=true then if (B.R t).S.length=8 then 6 else 0 else 5 else 3 else 1
def BS.setR (B:BS) (t:Nat) (R:RS):BS:={B with R:=upd B.R t R}
theorem BS.setR_at (B:BS) (t:Nat) (R:RS):(B.setR t R).R t=R:=J0 _ _ _
theorem BS.setR_ne (B:BS) {t j:Nat} (R:RS) (h:j≠t):(B.setR t R).R j=B.R j:=L9 _ _ h
theorem BS.setR_set (B:BS) (t:Nat) (R R':RS):(B.setR t R).setR t R'=B.setR t R':=by
 unfold BS.setR;rw [b4w]
theorem BS.setR_self (B:BS) (t:Nat):B.setR t (B.R t)=B:=by
 unfold BS.setR
 have:upd B.R t (B.R t)=B.R:=by
  funext j;unfold upd;split
  ·rename_i e;rw [e]
  rfl
 rw [this]
theorem BS.told_is (B:BS) (t:Nat) (near:List Int):B.told t near=B.setR t ((B.R t).refr near):=rfl
def BS.anew (B:BS) (t:Nat) (R:RS) (near:List Int):BS:=B.setR t (R.refr near)
theorem BS.told_set (B:BS) (t:Nat) (R:RS) (near:List Int):(B.setR t R).told t near=B.anew t R near:=by
 rw [BS.told_is,BS.setR_at,BS.setR_set];rfl
def b2k (c t:Nat) (tg:Nat->Prop):Nat->Prop:=fun q=>(q=c+1+t\/q=c+5+t\/q=c+9+t\/q=c+13+t)\/tg q
theorem M0.realm {F:Nat->Prop} {w0 w w':World} {ow ow':Ow} {c g:Nat} {id:Int} {near:List Int} {B:BS} {a:BAd} (h:M0 w ow c g id near B a) (hw:Owd w0 w ow) {t:Nat} (ht:t<4) (s:Mov F w ow w' ow') (hF:∀q,F q->q=c+1+t\/q=c+5+t\/q=c+9+t\/q=c+13+t) {R:RS}
 (hr:a3F w' ow' c t (a.tb t) (a.ib t) (a.sb t) (a.mb t) R):M0 w' ow' c g id near (B.setR t R) a:=by
 have hc:=h.c2;obtain ⟨L,h1,h2⟩:=h.log;have h0:¬F 0:=fun h=>by have:=hF 0 h;omega
 refine ⟨h.c2,⟨L,h1.mov s h0 (fun h=>by have:=hF _ h;omega) (fun h=>by have:=hF _ h;omega),h2⟩,h.near.mov s h0 zo,fun j hj=> ?_⟩;have hj':=h.rea j hj;by_cases e:j=t
 ·subst e;rw [BS.setR_at];exact hr
 rw [BS.setR_ne _ _ e];exact hj'.mov hw s h0 ⟨fun h=>by have:=hF _ h;omega,fun h=>by have:=hF _ h;omega,fun h=>by have:=hF _ h;omega,fun h=>by have:=hF _ h;omega⟩ hc
theorem a4L {M:List (Int×Fil)} {near:List Int} {G:Int->List Fil} {X:Nat} (hG:∀n,(G n).length<=X) (hM:M.length<=X) (ten:Int):(y9 M ten near G).length<=near.length*(2*X):=by
 induction near generalizing G with
 |nil=>simp [y9]
 | cons a near ih=>
  have h1:=ih (G:=Z4 G a (C3 M a)) (fun n=>by
   unfold Z4;split
   ·exact Nat.le_trans (a2U M a) hM
   ·exact hG n)
  have h2:=hG a;have h3:=Nat.le_trans (a2U M a) hM;have h4:(K5 (C3 M a) (G a)).length<=(C3 M a).length:=List.length_filter_le _ _;have h5:(K5 (G a) (C3 M a)).length<=(G a).length:=List.length_filter_le _ _;have h6:=a4E a ten (G a) (C3 M a);show (T8 a ten (G a) (C3 M a)++y9 M ten near (Z4 G a (C3 M a))).length<=_;rw [zz4,zz9,Nat.add_mul];omega
theorem J9.keep {w0 w w':World} {ow:Ow} {c b:Nat} {M:List (Int×Fil)} {N:Nat} (hw:Owd w0 w ow) (h2:2<=c) (h:Tab w' b (fun k=>ow k=c) (fun k=>ow k=0/\k<w.heap.size) M N) (hm:Mod (fun k=>ow k=c) w w'):J9 w' ow c b M N:=by
 refine h.cong (fun k hk=>hk) (fun k hk=>⟨hk.1,zz13 hk.2 hm.size⟩) (fun k hk hk2=> ?_) (fun k hk=> ?_) (fun k hk=>hk.2)
 ·have hk':ow k=c:=hk;have:=hk2.1;omega
 have hk':ow k=c:=hk;exact zz13 (hw.hi k zo) hm.size
theorem Owd.lo' {w0 w:World} {ow:Ow} (hw:Owd w0 w ow) {c:Nat} (h2:2<=c):∀k,ow k=c->w0.heap.size<=k:=fun k hk=>hw.lo k zo
theorem b2l (w0 w:World) (ow:Ow) (hw:Owd w0 w ow) (c b:Nat) (h2:2<=c) (R:RS) (h:J9 w ow c b R.M R.N) (hN:R.N<=1000000) (frm:Int) (hfw:(Lit.int .i64 frm).wf=true) (sc:ByteArray) (a:Option Addr) (cap:Nat) (l:List Cnd)
 (hv:i8 w 7 (.slice a l.length cap) l.length (q8 l)) (hll:l.length<20) (hcs:∀c∈l,c.fits) (hsc:sc.size<=1000000):
 Calls Tryz.prog 80 #[.pointer (some ⟨b,0,none⟩),.int .i64 frm,.agg #[.string sc,.slice a l.length cap]] w fun e w'=>e= .returned (.bool (r8 R.M frm (i7 (sc,j7 l))).isNone)/\
  ∃ow',J9 w' ow' c b (R.tadd frm (sc,j7 l)).M (R.tadd frm (sc,j7 l)).N/\Mov (fun q=>q=c) w ow w' ow':=by
 refine (b4c w0 w hw.laid b _ _ R.M R.N h hN (hw.lo' h2) frm hfw sc _ l hv hll hcs hsc).mono fun e w' hp=> ?_;rcases hp with ⟨h1,rfl,hm⟩|⟨h1,rfl,own',C',hT,ho1,ho2,hC,hm⟩
 ·have hs:(r8 R.M frm (i7 (sc,j7 l))).isNone=false:=by
   cases hq:r8 R.M frm (i7 (sc,j7 l)) with
   |none=>exact absurd hq h1
   |some q=>rfl
  have e:R.tadd frm (sc,j7 l)=R:=by unfold RS.tadd;rw [hs];rfl
  rw [e];exact ⟨by rw [hs],ow,J9.mov h hw (Mov.of hw hm (fun _=>False)) id id h2,Mov.of hw hm _⟩
 have e:R.tadd frm (sc,j7 l)={R with M:=R.M++[(frm,(sc,j7 l))],N:=R.N+1}:=by unfold RS.tadd;rw [h1];rfl
 rw [e,h1];exact ⟨rfl,_,J9.new hw h2 hT ho2 hC hm,Mov.tag rfl hm⟩
theorem a4M {M:List (Int×Fil)} {id:Int} {k:List UInt8} (h:r8 M id k=none):a4h M id k=M:=List.filter_eq_self.2 fun p hp=>by
 obtain ⟨x,q⟩:=p;by_cases e:x=id
 ·subst e;have:=a13 h q hp;simp [this]
 simp [e]
theorem b2m (w0 w:World) (ow:Ow) (hw:Owd w0 w ow) (c b:Nat) (h2:2<=c) (R:RS) (h:J9 w ow c b R.M R.N) (hN:R.N<=1000000) (frm:Int) (hfw:(Lit.int .i64 frm).wf=true) (sc:ByteArray) (a:Option Addr) (cap:Nat) (l:List Cnd)
 (hv:i8 w 7 (.slice a l.length cap) l.length (q8 l)) (hll:l.length<20) (hcs:∀c∈l,c.fits) (hsc:sc.size<=1000000):
 Calls Tryz.prog 82 #[.pointer (some ⟨b,0,none⟩),.int .i64 frm,.agg #[.string sc,.slice a l.length cap]] w fun e w'=>e= .returned (.bool (r8 R.M frm (i7 (sc,j7 l))).isSome)/\
  J9 w' ow c b (R.trem frm (sc,j7 l)).M (R.trem frm (sc,j7 l)).N/\Mov (fun q=>q=c) w ow w' ow:=by
 refine (b4g w0 w hw.laid b _ _ R.M R.N h hN frm hfw sc _ l hv hll hcs hsc).mono fun e w' hp=> ?_;rcases hp with ⟨h1,rfl,hm⟩|⟨h1,rfl,hT,hm⟩
 ·have e:R.trem frm (sc,j7 l)=R:=by unfold RS.trem;rw [a4M h1]
  rw [e,h1];exact ⟨rfl,J9.mov h hw (Mov.of hw hm (fun _=>False)) id id h2,Mov.of hw hm _⟩
 have hs:(r8 R.M frm (i7 (sc,j7 l))).isSome=true:=by
  cases hq:r8 R.M frm (i7 (sc,j7 l)) with
  |none=>exact absurd hq h1
  |some q=>rfl
 exact ⟨by rw [hs],J9.keep hw h2 hT hm,Mov.wrote hw hm (fun k hk=>hk)⟩
end Go.Proofs.YtdmjoodhaeijmaaGreatDoor
