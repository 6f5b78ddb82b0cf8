/- Lemmas. -/
import Derived.Test.YtebhabpahfmodaaGreatDoorZh39
set_option maxHeartbeats 40000000
set_option maxRecDepth 20000
namespace Go.Proofs.YtebhabpahfmodaaGreatDoor
open Go.RowKit
def a4j (c t:Nat) (tg:Nat->Prop):Nat->Prop:=fun q=>q=c+13+t\/tg q
def b6J {w0:World} {q:Nat} (O:B6 w0 q) (w:World) (ow:Ow) (c g:Nat) (id:Int) (near:List Int) (B:BS) (a:BAd) (t:Nat) (s:O.σ) (i:Value) (wr:World):Prop:=
 ∃(j:Nat) (owr:Ow),i= .int .i64 j/\j<=near.length/\J0 wr owr c g id near (B.told t (near.take j)) a/\O.inv wr owr (O.sends s (A3 (B.R t).M t (near.take j) (B.R t).G))/\Mov (a4j c t O.tg) w ow wr owr/\Owd w0 wr owr
def RfA {w0:World} {q:Nat} (O:B6 w0 q) (wC:World) (ow1:Ow) (S0:O.σ) (n t:Int) (mk:Fil->Mg) (W G0:List Fil) (i:Value) (wr:World):Prop:=
 ∃(k:Nat) (ow':Ow),i= .int .i64 k/\k<=W.length/\O.inv wr ow' (O.sends S0 ((K4 (W.take k) G0).map fun f=>(n,t,mk f)))/\Mov O.tg wC ow1 wr ow'
def a7i {w0:World} {q:Nat} (O:B6 w0 q) (w:World) (ow:Ow) (c g:Nat) (id:Int) (near:List Int) (B:BS) (t:Nat) (s:O.σ) (e:Ending) (w':World):Prop:=
 e= .returned (.tuple #[])/\∃ow',Bro w' ow' c g id near (B.told t near)/\O.inv w' ow' (O.sends s (A3 (B.R t).M t near (B.R t).G))/\Mov (a4j c t O.tg) w ow w' ow'
theorem a4k (w0 w:World) (ow:Ow) (c g:Nat) (id:Int) (near:List Int) (B:BS) (hw:Owd w0 w ow) (h:Bro w ow c g id near B) (q:Nat) (O:B6 w0 q) (s:O.σ) (hO:O.inv w ow s) (jy:∀t,O.tg t->t<c\/c+18<=t) (t:Nat) (ht:t<4)
 (hcnt:O.cnt s+(A3 (B.R t).M t near (B.R t).G).length<=400000000000) (hnl:near.length<=1000) (hnw:∀n∈near,(Lit.int .i64 n).wf=true) (hto:∀n∈near,O.okTo n t) (hN:(B.R t).N<=1000) (hK:(B.R t).K<=1000000) (JX:GOk (B.R t).G)
 (hinj:∀p∈(B.R t).M,∀q∈(B.R t).M,j5 p.2=j5 q.2->p.2=q.2):
 Calls Tryz.prog 29 #[.pointer (some ⟨g,0,none⟩),.iface 51 (.pointer (some ⟨q,0,none⟩)),.int .i64 t] w (a7i O w ow c g id near B t s):=by
 obtain ⟨a,h⟩:=h;obtain ⟨q0, -, -,q3⟩:=h.cells ht;obtain ⟨L,aV, -⟩:=h.log;obtain ⟨na,nc,mI,hnc⟩:∃a' cc,a.nv= .slice a' near.length cc/\near.length<=cc:=by obtain ⟨-,a,cc,h,h2, -⟩:=h.near.rd;exact ⟨a,cc,h,h2⟩
 have c2:w.cell? ⟨g,2,none⟩=some (.slice na near.length nc):=by rw [<-mI];exact d6 aV.row rfl
 have mD:(t:Int)<4:=zo
 have ht0:(0:Int)<=t:=zo
 have JR:(near.length:Int)<=1000:=zo
 have hnc':(near.length:Int)<=nc:=zo
 have hb0:J0 w ow c g id near (B.told t (near.take 0)) a:=by rw [List.take_zero,BS.told_nil];exact h
 have hm0:Mov (a4j c t O.tg) w ow w ow:=Mov.refl hw;obtain ⟨Hw,H,HO,kw,iY,vD,CF,iL,CZ,Hb0,nE,JY⟩:=zh12 hw h hO jy hnw hto hinj aV mI hb0 hm0 JX;clear hw h hO jy hnw hto hinj aV mI hb0 hm0 JX hnc
 go_enter Tryz.func29,Tryz.ntmps29
 go_wp2_with fail
 go_loopw [31] (fun i wr=>b6J O w ow c g id near B a t s i wr) (fun i _=>near.length - (intOf i).toNat)
 case atStart=>exact ⟨0,ow,rfl,Nat.zero_le _,Hb0.out,HO.out,nE.out,Hw.out⟩
 case round=>
  obtain ⟨j,owr,rfl,hj,hbr,fG,hmr,how⟩:=hrel;obtain ⟨wq,rfl⟩:∃x:World,x=wr:=⟨_,rfl⟩;by_cases hlt:j<near.length
  ·have hlt':(j:Int)<near.length:=zo
   obtain ⟨n,jA⟩:∃x,near[j]? =some x:=⟨_,zz5 hlt⟩;have hnm:=zz8 jA;have hrd:=hbr.near.rd;rw [show a.nv= .slice na near.length nc from CZ.out] at hrd;obtain ⟨gn,offn,rfl,hcn⟩:=a34 hrd jA;have lm:=hbr.rea t ht;obtain ⟨M,hM⟩:∃M,(B.R t).M=M:=⟨_,rfl⟩;have RN:((B.told t (near.take j)).R t).M=M:=by rw [BS.told_R];exact hM
   have RO:((B.told t (near.take j)).R t).N=(B.R t).N:=by rw [BS.told_R]
   obtain ⟨p0, -, -,p3⟩:=hbr.cells ht;have hc2:=hbr.c2;obtain ⟨w1,hw1,mH,hgw1,JZ⟩:=g8 wq (.map #[] 0);obtain ⟨ow1,sV⟩:∃ow1,r9 owr wq.heap.size (c+13+t)=ow1:=⟨_,rfl⟩;have htag:ow1 wq.heap.size=c+13+t:=sV▸E3 _ _ _;have hs1:Mov (fun q=>q=c+13+t) wq owr w1 ow1:=hw1▸sV▸Mov.alloc how (.map #[] 0) (c+13+t) (.inr (.inr rfl));have ji:=hs1.owd how zo;have htab1:=lm.tab.mov how hs1 zo zo zo;have zM:M8 w1 ow1 (c+13+t) (a.mb t) _ _:=lm.snt.far (F:=fun _=>False) ⟨mH,hs1.old⟩ (fun h=>h) (fun h=>h);have vF:=O.mov fG how hs1 zo (fun q e he=>by have:=kw.out q he;omega);have hkey:Z6 w1 ow1 wq.heap.size []:=⟨fun _=>none,hw1▸p6.made wq 9,fun k=>trivial⟩;rw [RN,RO] at htab1;have hout:=b4O w1 (a.tb t) _ _ M (B.R t).N htab1 hN (by rw [<-hM];exact CF.out) n (iY.out n hnm);have hz:=JZ
   have Dc:∀p∈M,okQ p.2:=fun p hp=>by
    obtain ⟨mo,hat⟩:=htab1;exact ⟨(hat.wf _ hp).2.1,(hat.wf _ hp).2.2,hat.sc _ hp⟩
   have Ka:∀q∈B8 M n,okQ q:=a5R Dc n
   have pM:M.length<=1000:=by
    obtain ⟨mo,hat⟩:=htab1;have:=hat.low;omega
   have JJ:=a0W M n;have p01:=mH.cell p0 (fun h=>h);have p31:=mH.cell p3 (fun h=>h);obtain ⟨lq,bV,pJ,aK,How,De,HM,HRM,HRN,P0,P3,oD⟩:=zh12 htag hbr fG hmr how lm hM RN RO p0 p3 hw1;obtain ⟨uS,jM,Xm,Kb,Kc,fO,CG,FN,ik,iq,b7K,Hz⟩:=zh12 hs1 ji htab1 zM vF hkey hout jA hnm hrd hgw1 hz;obtain ⟨Ke,Df,ky,JK⟩:=zh4 Dc Ka pM JJ;clear htag hbr fG hmr how lm hM RN RO p0 p3 hw1 hs1 ji htab1 zM vF hkey hout jA hnm hrd hgw1 hz Dc Ka pM JJ JZ sV
   go_wp2_with (rw [show wq.alloc _=w1 from oD.out])
   refine CG.out.mono ?_;rintro e w2 ⟨v,l,rfl,hol,dW,hlf,hfc,hm2⟩;obtain ⟨va,vc,rfl,yR⟩:=hol.shape;have hs2:Mov (fun q=>q=c+13+t) w1 ow1 w2 ow1:=Mov.of jM.out hm2 _;have dh:=(Mov.of jM.out hm2 (fun _=>False)).owd jM.out (fun h=>h);have zN:M8 w2 ow1 (c+13+t) (a.mb t) _ _:=Kb.out.far (F:=fun _=>False) ⟨hm2,fun _ _=>rfl⟩ (fun h=>h) (fun h=>h)
   have zO:Z6 w2 ow1 wq.heap.size []:=by
    obtain ⟨f,g1,g2⟩:=fO.out;exact ⟨f,g1.mod hm2 (fun h=>h),fun k=>(g2 k).mov (Mov.of jM.out hm2 (fun _=>False)) (fun h=>h)⟩
   have hO2:=O.mov Kc.out jM.out (Mov.of jM.out hm2 (fun _=>False)) (fun h=>h) (fun q e he=>e);have hcon:∀f∈l,o3 w2 ow1 7 (.slice f.a f.cs.length f.c) f.cs.length (m5 f.cs):=fun f hf=>⟨(hfc f hf).1.rd,fun _ b hb=>((hfc f hf).2 b hb).2.1⟩;have hlt2:(B8 M n).Pairwise fun a b=>j5 a<j5 b:=a9x M n;have b7L:(l.length:Int)<=vc:=zo
   have hl1:(l.length:Int)<=1000:=by
    have h1:=congrArg List.length hlf;rw [zz10] at h1;have h2:=JK.out;have h3:=ky.out;omega
   rw [<-hlf] at hlt2;obtain ⟨Hol,eF,Ob,jo,bq,qK,jL,Xn,Kg,vE,pK,Dh⟩:=zh12 hol dW hlf hfc hm2 hs2 dh zN zO hO2 hcon hlt2;clear hol dW hlf hfc hm2 hs2 dh zN zO hO2 hcon hlt2 yR
   go_wp2_with fail
   go_loopw [43] (fun i wr=>∃k:Nat,i= .int .i64 k/\k<=l.length/\Z6 wr ow1 wq.heap.size ((l.take k).map Fr.fil)/\Mod (fun b=>b=wq.heap.size) w2 wr) (fun i _=>l.length - (intOf i).toNat)
   case atStart=>exact ⟨0,rfl,Nat.zero_le _,Kg.out,Mod.refl _ _⟩
   case round=>
    obtain ⟨k,rfl,hk,hkc,hmk⟩:=hrel;have hsk:Mov (fun q=>q=c+13+t) w2 ow1 wr ow1:=Mov.wrote jL.out hmk (fun b hb=>by rw [hb,lq.out]);have xO:=hsk.owd jL.out zo;by_cases hlk:k<l.length
    ·have b7M:(k:Int)<l.length:=zo
     obtain ⟨f,dG⟩:∃f,l[k]? =some f:=⟨_,zz5 hlk⟩;have hfm:=zz8 dG;have Di:=Hol.out.mod hmk (fun b hb hf=>by have:=eF.out b hb;have:=Hz.out;omega);obtain ⟨gf,offf,rfl,hcf⟩:∃g off,va=some ⟨g,off,none⟩/\e9 wr g (off+k*2) f.cells:=a1F (f:=Fr.cells) (sz:=2) (fun _=>rfl) Di.rd dG;obtain ⟨wz,hwz,ai,aj,aJ⟩:=g8 wr (.cells f.cells.toArray 26);have dY:wr.alloc (.cells #[.string f.sc,.slice f.a f.cs.length f.c] 26)=wz:=hwz;obtain ⟨iU,jN,RP,uT,mq,qC,b7N,mg,ig,aN,bn⟩:=zh11 hsk xO hkc hmk dG hfm Di hcf dY aj ai;clear hsk xO hkc hmk dG hfm Di hcf dY aj ai hwz aJ
     go_wp2_with (first|((with_reducible refine d8 26 (.tmp 45) ?_);refine ⟨gf,offf+k*2,rfl,[.string f.sc,.slice f.a f.cs.length f.c],mg.out,zk,zk, ?_⟩)|((with_reducible refine d9 26 (.tmp 11) (.tmp 46) ?_);refine ⟨rfl,[.string f.sc,.slice f.a f.cs.length f.c],rfl,rfl,zk,rfl, ?_⟩;rw [ig.out]))
     have eZ:f.cs.length<=1000/\f.sc.size<=1000000/\∀x∈f.cs,x.fits:=by
      have h1:=Df.out f.fil (by rw [<-Ob.out];exact List.mem_map.2 ⟨f,qC.out,rfl⟩);exact ⟨Nat.le_trans h1.1 zo,h1.2.2,h1.2.1⟩
     have xE:=J8 f.sc f.cs eZ.2.2;have hfl:f.cs.length<=19:=(Df.out f.fil (by rw [<-Ob.out];exact List.mem_map.2 ⟨f,qC.out,rfl⟩)).1;have hkn:kF ((l.take k).map Fr.fil) (j5 f.fil)=none:=by rw [List.map_take];exact b55 Dh.out (by rw [List.getElem?_map,mq.out];rfl)
     have hlen:((l.take k).map Fr.fil).length<=1000:=by
      have h1:=congrArg List.length Ob.out;rw [zz10] at h1;have h2:=JK.out;have h3:=ky.out;rw [zz10,List.length_take];omega
     have hfs:=eZ.2.1;have hmz:Mod (fun _=>False) wr wz:=bn.out
     have hpr:∀wx,Mod (fun _=>False) wz wx->Calls Tryz.prog 61 #[.agg #[.string f.sc,.slice f.a f.cs.length f.c]] wx fun e w'=>e= .returned (.string (str (q6 f.sc f.cs)))/\Mod (fun _=>False) wx w':=fun wx hx=>
      a2e w0 wx (jN.out.laid.mod0 (hmz.trans hx zi)) f.sc (.slice f.a f.cs.length f.c) f.cs (((pK.out f qC.out).mov iU.out zo zo).rd.mod (hmz.trans hx zi) zi) eZ.1 eZ.2.1 eZ.2.2
     have hS:(fun y:World=>y.cell? ⟨wr.heap.size,0,none⟩=some (.string f.sc)/\y.cell? ⟨wr.heap.size,1,none⟩=some (.slice f.a f.cs.length f.c)) wz.drew:=⟨d6 aN.out rfl,d6 aN.out rfl⟩;obtain ⟨u7,FM,bG,Hkn⟩:=zh4 hpr eZ hmz hkn;clear hpr eZ hmz hkn;refine i8 [.rd 0,.rd 1,.rd 3,.go 2,.go 4] [0,1,2,3] (fun y:World=>y.cell? ⟨wr.heap.size,0,none⟩=some (.string f.sc)/\y.cell? ⟨wr.heap.size,1,none⟩=some (.slice f.a f.cs.length f.c)) zk zk (fun _ _ d _ _ h=>(by cases d<;>exact h)) ?_
     iterate 3 (
      refine n4 rfl ?_ (fun _=>hS) ?_ (fun w0 h0=> ?_) (fun K hK=> ?_)
      ·exact zg
      rotate_left
      ·(try simp only [zz1,zz2,zz3])
       first
        |(obtain ⟨f0,f1⟩:=h0 rfl;clear h0;go_simp;with_reducible rfl)
        |(clear h0;go_simp;with_reducible rfl)
      (try simp only [zz1,zz2,zz3])
      go_simp;refine hK _ ?_;clear hK K)
     refine i6 (j0 rfl ?_ (fun K hK=> ?_))
     ·exact zg
     go_wp2_with fail
     refine (u7.out wz.drew ((Mod.refl _ wz).drew)).mono ?_;rintro e w3 ⟨rfl,aC⟩;refine hK _ _ (fun _ h=>⟨aC.cell h.1 (fun h=>h),aC.cell h.2 (fun h=>h)⟩) ?_;clear hK K hS;have pO:Mod (fun _=>False) wr w3:=bG.out.trans (((Mod.refl _ wz).drew).trans aC zi) zi;have Dj:=(RP.out.mov lq.out (Mov.of jN.out pO (fun _=>False)) (fun h=>h) (fun h=>h)).1;have eu:=(Mov.of jN.out pO (fun _=>False)).owd jN.out (fun h=>h);obtain ⟨w4,hrun,Kh,aR⟩:=Z6.put eu Dj (by unfold maxLen;omega) (by rw [lq.out];omega) f.fil (by show (q6 f.sc f.cs).length<=maxLen;unfold maxLen;omega) Hkn.out f.a f.c (((pK.out f qC.out).mov iU.out zo zo).mov (Mov.of jN.out pO (fun _=>False)) (fun h=>h) zo);have hrun':(Instr.mapUpdate 142 (.map (some wq.heap.size)) (.string (str (q6 f.sc f.cs))) (.agg #[.string f.sc,.slice f.a f.cs.length f.c])).run Tryz.prog w3= .ok () w4:=hrun;refine i6 (j0 rfl ?_ (fun K hK=> ?_))
     ·exact zg
     (try simp only [zz1,zz2,zz3]);refine a0C 142 _ _ _ rfl hrun' ?_;refine hK _ _ (fun h=>absurd h zd) ?_;clear hK K;refine m6 ?_;have Ki:Mod (fun b=>b=wq.heap.size) w2 w4:=(uT.out.trans (pO.mono (fun _ _ h=>h.elim)) zi).trans aR zi;have hkl:(l.take (k+1)).map Fr.fil=(l.take k).map Fr.fil++[f.fil]:=by rw [List.take_add_one,mq.out,Option.toList_some,List.map_append];rfl
     obtain ⟨xP,Xo,RQ,dN,RU,VT,bA,b7O,b7P,jh⟩:=zh10 hrun hrun' Kh aR Ki hkl aC pO Dj eu;clear hrun hrun' Kh aR Ki hkl aC pO Dj eu hlen xE hfl hfs
     go_wp2_with fail
     go_roundw
     case rel=>exact ⟨k+1,by go_num,hlk,by rw [VT.out];exact RQ.out,RU.out⟩
     case measure=>simp [intOf];omega
    obtain rfl:k=l.length:=zo
    rw [List.take_length,Ob.out] at hkc;obtain ⟨wA,rfl⟩:∃x:World,x=wr:=⟨_,rfl⟩;have hltW:=a9x M n;obtain ⟨W,hW⟩:∃W,B8 M n=W:=⟨_,rfl⟩;obtain ⟨G0,hG0⟩:∃G0,((B.told t (near.take j)).R t).G n=G0:=⟨_,rfl⟩;have hWl:W.length<=1000:=by have:=JK.out;have:=ky.out;rw [<-hW];omega
    have RV:G0.length<=1000000:=by
     rw [<-hG0,BS.told_R];exact (JY.out.refr (by have:=ky.out;rw [HM.out];omega) (by rw [HM.out];exact Ke.out) _).len n
    have Kj:∀q∈G0,okQ q:=by
     rw [<-hG0,BS.told_R];exact (JY.out.refr (by have:=ky.out;rw [HM.out];omega) (by rw [HM.out];exact Ke.out) _).ok n
    have Kk:∀q∈W,okQ q:=by rw [<-hW];exact Df.out
    rw [hW] at hkc hltW;have fQ:Mod (fun _=>False) wq wA:=(mH.trans bq.out zi).upon hmk (fun b hb=> .inr (Nat.le_of_eq (show wq.heap.size=b from (show b=wq.heap.size from hb).symm)));have p3A:=fQ.cell P3.out (fun h=>h);have hsA:M8 wA ow1 (c+13+t) (a.mb t) _ _:=De.out.snt.far (F:=fun _=>False) ⟨fQ,uS.out.old⟩ (fun h=>h) (fun h=>h);obtain ⟨ns,fs,hf1,hf2,hf3⟩:=hsA.mp;have Dk:=hf1.look r5 Tryz.underlying92 (Q6 wA) (Maps.keyOf_int_mk Tryz.underlying3 (iY.out n ik.out));have hsv:=hf3 n;rw [hG0] at hsv;obtain ⟨m,hmv,Xp⟩:=hsv.keyV;rw [hmv] at Dk;have Kl:G0.Pairwise fun a b=>j5 a<j5 b:=hG0▸hsA.lt n;have hkeys:=a1O (some wq.heap.size) wA;have hsort:=a5O.sorted (w:=wA) (ow:=ow1) (.inr ⟨_,rfl,hkc⟩) zo hltW;obtain ⟨wB,Oc⟩:∃wB:World,wA.alloc (.cells #[.map (some wq.heap.size)] 142)=wB:=⟨_,rfl⟩;rw [Oc] at hsort hkeys;have Xq:Mod (fun _=>False) wA wB:=Oc▸(Mod.refl (fun _=>False) wA).alloc _;have ht0:¬O.tg 0:=fun h=>by have:=O.t2 0 h;omega
    have hnt:¬O.tg (c+13+t):=fun h=>by have:=kw.out _ h;omega
    have hcb:O.cnt (O.sends s (A3 (B.R t).M t (near.take j) (B.R t).G))+((K4 W G0).length+(K4 G0 W).length)<=400000000000:=by
     have h1:=a8K (M:=(B.R t).M) (ten:=t) FN.out (B.R t).G;have h2:=O.sends_cnt s (A3 (B.R t).M t (near.take j) (B.R t).G);rw [BS.told_R] at hG0;rw [a5h,HM.out,hW,show I0 M (near.take j) (B.R t).G n=G0 by rw [<-HM.out];exact hG0] at h1;have h0:=hcnt;rw [HM.out] at h0 h2⊢;omega
    obtain ⟨S0,hS0⟩:∃S0,O.sends s (A3 (B.R t).M t (near.take j) (B.R t).G)=S0:=⟨_,rfl⟩;rw [hS0] at hcb;obtain ⟨iU,jN,RP,uT,Km,HW,HG0,RX,RY,BJ,P3A,HsA⟩:=zh12 hsk xO hkc hmk hltW hW hG0 Kk Kj fQ p3A hsA;obtain ⟨Hf1,lL,Cr,FL,nS,Hkv,Kn,kZ,kY,HwB,Xr,gQ⟩:=zh12 hf1 hf2 hf3 hsv hmv Xp Kl hkeys hsort Oc Xq hS0;obtain ⟨pQ,zP⟩:=zh2 ht0 hnt;clear hsk xO hkc hmk hltW hW hG0 Kk Kj fQ p3A hsA hf1 hf2 hf3 hsv hmv Xp Kl hkeys hsort Oc Xq hS0 ht0 hnt;have RZ:=Dk;have p3a:=P3A.out
    go_wp2_with fail
    refine kZ.out.mono ?_;rintro e wx ⟨rfl,hwx⟩;obtain rfl:=hwx.symm
    go_wp2_with fail
    refine kY.out.mono ?_;rintro e wC ⟨sv,rfl,hso,hsb,Fh⟩;obtain ⟨sa,sc,rfl,hsc⟩:=hso.shape;rw [zz10,zz10] at hso hsc hsb⊢;have Jc:(W.length:Int)<=sc:=zo
    have sW:=Xr.out.trans Fh zi;have pR:=Mov.of jN.out sW (fun _=>False);have Ko:=pR.owd jN.out (fun h=>h);have Xt:=(RP.out.mov lq.out pR (fun h=>h) (fun h=>h)).1;have Kq:=FL.out.mov pR (fun h=>h) (fun h=>h);have zQ:Far O.tg wq owr wC ow1:=⟨(BJ.out.trans sW zi).mono (fun _ _ h=>h.elim),uS.out.old⟩;have Sa:=O.mov vE.out jL.out (Mov.wrote (F:=fun q=>q=c+13+t) jL.out (uT.out.trans (sW.mono (fun _ _ h=>h.elim)) zi) (fun b hb=>by rw [hb,lq.out])) zo (fun q e he=>by have:=kw.out q he;omega);rw [gQ.out] at Sa;have Kr:Mov (a4j c t O.tg) w ow wC ow1:=(((aK.out.trans (uS.out.mono (fun _ h=> .inl h))).trans (Mov.of jM.out bq.out _)).trans (iU.out.mono (fun _ h=> .inl h))).trans (pR.mono (fun _ h=>h.elim));have Kt:o3 wC ow1 1 (.slice sa W.length sc) W.length ((W.map j5).map encStr):=⟨hso.rd,fun _ b hb=>jN.out.zero (Nat.le_trans Xr.out.size (hsb b hb))⟩;obtain ⟨oK,HY,HmC,b7Q,b7R,Ku,Sc,Kv,Kw,HOC,Sg,Si⟩:=zh12 hso hsb Fh sW pR Ko Xt Kq zQ Sa Kt Kr;clear hso hsb Fh sW pR Ko Xt Kq zQ Sa Kt Kr hsc RZ p3a Dk
    go_wp2_with fail
    go_loopw [62] (fun i wr=>RfA O wC ow1 S0 n t Mg.sub W G0 i wr) (fun i _=>W.length - (intOf i).toNat)
    case atStart=>exact ⟨0,ow1,rfl,Nat.zero_le _,HOC.out,Mov.refl Ku.out⟩
    case round=>
     obtain ⟨k,ow',rfl,hk,xQ,hmk'⟩:=hrel;have how':=hmk'.owd Ku.out pQ.out;by_cases dF:k<W.length
     ·have Sj:(k:Int)<W.length:=zo
      obtain ⟨f,dG⟩:∃f,W[k]? =some f:=⟨_,zz5 dF⟩;have hfm:=zz8 dG;obtain ⟨gs,offs,rfl,ck⟩:=a5M (l:=W.map j5) (enc:=encStr) (Sg.out.mov hmk' pQ.out zo).rd (by rw [List.getElem?_map,dG];rfl);have ck':wr.cell? ⟨gs,offs+k,none⟩=some (.string (str (j5 f))):=ck;have dP:(j5 f).length<=maxLen:=a9L (RX.out f hfm);have hkr:=(Sc.out.mov lq.out hmk' pQ.out zP.out).1;have htr:ow' wq.heap.size=c+13+t:=(Sc.out.mov lq.out hmk' pQ.out zP.out).2;have hkg:=(Kv.out.mov hmk' pQ.out zP.out).keyV2 nS.out;obtain ⟨q,qa,qc,hq1, -, -⟩:=hkg.ask (j5 f) dP;have hsu:=a4e (b:=G0) dG;obtain ⟨ok,hok⟩:∃ok,(kF G0 (j5 f)).isSome=ok:=⟨_,rfl⟩;rw [hok] at hq1;have hcl:=a5g W G0 k;obtain ⟨wz,hwz,ai,aj,aJ⟩:=g8 wr (.cells #[.string q.1,.slice qa q.2.length qc] 26);have hsz:=Mov.of how' ai (fun _=>False);have dS:=hsz.owd how' (fun h=>h);have kI:=O.mov xQ how' hsz (fun h=>h) (fun _ h=>h.elim);have hkz:=(hkr.mov htr hsz (fun h=>h) (fun h=>h)).1;have hmz:Mov O.tg wC ow1 wz ow':=hmk'.trans (Mov.of how' ai _)
      cases ok with
      |true=>
       rw [show (kF G0 (j5 f)).isNone=false by rw [<-Option.not_isSome,hok];rfl,if_neg zd,zz11] at hsu;obtain ⟨Sk,Dl,mP,mq,qC,Ck,Dm,Sl,Htr,Hkg,dH,eP⟩:=zh12 xQ hmk' how' dG hfm ck dP hkr htr hkg hsu hok;obtain ⟨bi,bn,aN,qN,iM,yU,Hkz,bG⟩:=zh8 hwz ai aj hsz dS kI hkz hmz;clear xQ hmk' how' dG hfm ck dP hkr htr hkg hsu hok hwz ai aj hsz dS kI hkz hmz aJ hcl
       go_wp2_with ((with_reducible refine d9 26 (.tmp 15) (.tmp 70) ?_);refine ⟨rfl,[.string q.1,.slice qa q.2.length qc],rfl,rfl,zk,rfl, ?_⟩;rw [bi.out])
       go_roundw
       case rel=>exact ⟨k+1,ow',by go_num,dF,by rw [dH.out];exact yU.out,bG.out⟩
       case measure=>simp [intOf];omega
      |false=>
       rw [show (kF G0 (j5 f)).isNone=true by rw [<-Option.not_isSome,hok];rfl,if_pos rfl] at hsu;obtain ⟨p,pa,pc, -,hp2,hp3⟩:=a5O.ask (v:= .map (some wq.heap.size)) (.inr ⟨_,rfl,hkz⟩) (j5 f) dP;obtain ⟨rfl,hpc⟩:=hp3 f (b5x Km.out dG);have hct:=O.sends_cnt S0 ((K4 (W.take k) G0).map fun f=>(n,(t:Int),Mg.sub f));rw [zz10] at hct;have hsend:=O.tsub dS kI zo (vD.out n ik.out) hpc;obtain ⟨Sk,Dl,mP,mq,qC,Ck,Dm,Sl,Htr,Hkg,dH,eP⟩:=zh12 xQ hmk' how' dG hfm ck dP hkr htr hkg hsu hok;obtain ⟨bi,bn,aN,qN,iM,yU,Hkz,bG,Hp3,Qh,ll⟩:=zh11 hwz ai aj hsz dS kI hkz hmz hp3 hpc hsend;clear xQ hmk' how' dG hfm ck dP hkr htr hkg hsu hok hwz ai aj hsz dS kI hkz hmz hp3 hpc hsend aJ hcl hct
       go_wp2_with ((with_reducible refine d9 26 (.tmp 15) (.tmp 70) ?_);refine ⟨rfl,[.string q.1,.slice qa q.2.length qc],rfl,rfl,zk,rfl, ?_⟩;rw [bi.out])
       refine ll.out.mono ?_;rintro e w3 ⟨rfl,ow3,hO3,aC⟩;have fM:=bG.out.trans aC;obtain ⟨yV,bA,kJ⟩:=zh3 hO3 aC fM;clear hO3 aC fM
       go_wp2_with fail
       go_roundw
       case rel=>exact ⟨k+1,ow3,by go_num,dF,by rw [dH.out,List.map_append,List.map_singleton,O.sends_one];exact yV.out,kJ.out⟩
       case measure=>simp [intOf];omega
     obtain rfl:k=W.length:=zo
     rw [List.take_length] at xQ;obtain ⟨wD,rfl⟩:∃x:World,x=wr:=⟨_,rfl⟩;have Xu:=Sc.out.mov lq.out hmk' pQ.out zP.out;have Dn:=Kv.out.mov hmk' pQ.out zP.out;have sZ:=a1O m wD;have mQ:=(Dn.keyV2 nS.out).sorted RV Kn.out;obtain ⟨wE,Dq⟩:∃wE:World,wD.alloc (.cells #[.map m] 142)=wE:=⟨_,rfl⟩;rw [Dq] at mQ sZ;have zl:Mod (fun _=>False) wD wE:=Dq▸(Mod.refl (fun _=>False) wD).alloc _;have hct:=O.sends_cnt S0 ((K4 W G0).map fun f=>(n,(t:Int),Mg.sub f));rw [zz10] at hct;obtain ⟨S1,hS1⟩:∃S1,O.sends S0 ((K4 W G0).map fun f=>(n,(t:Int),Mg.sub f))=S1:=⟨_,rfl⟩;rw [hS1] at xQ hct;have b7S:O.cnt S1+(K4 G0 W).length<=400000000000:=zo
     obtain ⟨Xv,Sm,Ky,Dr,Xw,Fs,Od,Sk,Dl,mP⟩:=zh10 Xu Dn sZ mQ Dq zl hS1 xQ hmk' how';clear Xu Dn sZ mQ Dq zl hS1 xQ hmk' how' hct
     go_wp2_with fail
     refine Ky.out.mono ?_;rintro e wx ⟨rfl,hwx⟩;obtain rfl:=hwx.symm
     go_wp2_with fail
     refine Dr.out.mono ?_;rintro e wF ⟨sv,rfl,hso,hsb,fF⟩;obtain ⟨ta,tc,rfl,htc⟩:=hso.shape;rw [zz10,zz10] at hso htc hsb⊢;have b7T:(G0.length:Int)<=tc:=zo
     have xR:=Fs.out.trans fF zi;have pU:=Mov.of mP.out xR (fun _=>False);have Kz:=pU.owd mP.out (fun h=>h);have Jg:=Xv.out.1.mov Xv.out.2 pU (fun h=>h) (fun h=>h);have KA:=Sm.out.mov pU (fun h=>h) (fun h=>h);have Xx:=O.mov Sk.out mP.out pU (fun h=>h) (fun _ h=>h.elim);have KC:o3 wF ow' 1 (.slice ta G0.length tc) G0.length ((G0.map j5).map encStr):=⟨hso.rd,fun _ b hb=>mP.out.zero (Nat.le_trans Fs.out.size (hsb b hb))⟩;have KD:Mov O.tg wC ow1 wF ow':=Dl.out.trans (Mov.of mP.out xR _);obtain ⟨ow4,hw4⟩:∃ow4,ow'=ow4:=⟨_,rfl⟩;subst hw4;obtain ⟨oK,HY,Ra,b7U,b7V,KE,vo,Sn,HOF,Sq,Sr⟩:=zh11 hso hsb fF xR pU Kz Jg KA Xx KC KD;clear hso hsb fF xR pU Kz Jg KA Xx KC KD htc
     go_wp2_with fail
     go_loopw [87] (fun i wr=>RfA O wF ow' S1 n t Mg.uns G0 W i wr) (fun i _=>G0.length - (intOf i).toNat)
     case atStart=>exact ⟨0,ow',rfl,Nat.zero_le _,HOF.out,Mov.refl KE.out⟩
     case round=>
      obtain ⟨k,ow2,rfl,hk,jO,bM⟩:=hrel;have dh:=bM.owd KE.out pQ.out;by_cases dF:k<G0.length
      ·have Sj:(k:Int)<G0.length:=zo
       obtain ⟨f,dG⟩:∃f,G0[k]? =some f:=⟨_,zz5 dF⟩;have hfm:=zz8 dG;obtain ⟨gs,offs,rfl,ck⟩:=a5M (l:=G0.map j5) (enc:=encStr) (Sq.out.mov bM pQ.out zo).rd (by rw [List.getElem?_map,dG];rfl);have ck':wr.cell? ⟨gs,offs+k,none⟩=some (.string (str (j5 f))):=ck;have dP:=a9L (RY.out f hfm);have hkr:=(vo.out.1.mov vo.out.2 bM pQ.out zP.out).1;have tq:=Sn.out.mov bM pQ.out zP.out;obtain ⟨q,qa,qc,hq1, -, -⟩:=a5O.ask (v:= .map (some wq.heap.size)) (.inr ⟨_,rfl,hkr⟩) (j5 f) dP;have hsu:=a4e (b:=W) dG;obtain ⟨ok,hok⟩:∃ok,(kF W (j5 f)).isSome=ok:=⟨_,rfl⟩;rw [hok] at hq1;have hcl:=a5g G0 W k;obtain ⟨wz,hwz,ai,aj,aJ⟩:=g8 wr (.cells #[.string q.1,.slice qa q.2.length qc] 26);have hsz:=Mov.of dh ai (fun _=>False);have dS:=hsz.owd dh (fun h=>h);have kI:=O.mov jO dh hsz (fun h=>h) (fun _ h=>h.elim);have tu:=tq.mov hsz (fun h=>h) (fun h=>h);have hmz:Mov O.tg wF ow' wz ow2:=bM.trans (Mov.of dh ai _)
       cases ok with
       |true=>
        rw [show (kF W (j5 f)).isNone=false by rw [<-Option.not_isSome,hok];rfl,if_neg zd,zz11] at hsu;obtain ⟨KF,tC,jL,mq,qC,Ck,Dm,Sl,Su,dH,eP,bi⟩:=zh12 jO bM dh dG hfm ck dP hkr tq hsu hok hwz;obtain ⟨bn,aN,qN,iM,yU,Sw,bG⟩:=zh7 ai aj hsz dS kI tu hmz;clear jO bM dh dG hfm ck dP hkr tq hsu hok hwz ai aj hsz dS kI tu hmz aJ hcl
        go_wp2_with ((with_reducible refine d9 26 (.tmp 19) (.tmp 95) ?_);refine ⟨rfl,[.string q.1,.slice qa q.2.length qc],rfl,rfl,zk,rfl, ?_⟩;rw [bi.out])
        go_roundw
        case rel=>exact ⟨k+1,ow2,by go_num,dF,by rw [dH.out];exact yU.out,bG.out⟩
        case measure=>simp [intOf];omega
       |false=>
        rw [show (kF W (j5 f)).isNone=true by rw [<-Option.not_isSome,hok];rfl,if_pos rfl] at hsu;obtain ⟨p,pa,pc, -,hp2,hp3⟩:=(tu.keyV2 nS.out).ask (j5 f) dP;obtain ⟨rfl,hpc⟩:=hp3 f (b5x Kn.out dG);have hct:=O.sends_cnt S1 ((K4 (G0.take k) W).map fun f=>(n,(t:Int),Mg.uns f));rw [zz10] at hct;have hsend:=O.tuns dS kI zo (vD.out n ik.out) hpc;obtain ⟨KF,tC,jL,mq,qC,Ck,Dm,Sl,Su,dH,eP,bi⟩:=zh12 jO bM dh dG hfm ck dP hkr tq hsu hok hwz;obtain ⟨bn,aN,qN,iM,yU,Sw,bG,Hp3,Qh,ll⟩:=zh10 ai aj hsz dS kI tu hmz hp3 hpc hsend;clear jO bM dh dG hfm ck dP hkr tq hsu hok hwz ai aj hsz dS kI tu hmz hp3 hpc hsend aJ hcl hct
        go_wp2_with ((with_reducible refine d9 26 (.tmp 19) (.tmp 95) ?_);refine ⟨rfl,[.string q.1,.slice qa q.2.length qc],rfl,rfl,zk,rfl, ?_⟩;rw [bi.out])
        refine ll.out.mono ?_;rintro e w3 ⟨rfl,ow3,hO3,aC⟩;have fM:=bG.out.trans aC;obtain ⟨yV,bA,kJ⟩:=zh3 hO3 aC fM;clear hO3 aC fM
        go_wp2_with fail
        go_roundw
        case rel=>exact ⟨k+1,ow3,by go_num,dF,by rw [dH.out,List.map_append,List.map_singleton,O.sends_one];exact yV.out,kJ.out⟩
        case measure=>simp [intOf];omega
      obtain rfl:k=G0.length:=zo
      rw [List.take_length] at jO;obtain ⟨wG,rfl⟩:∃x:World,x=wr:=⟨_,rfl⟩;have xS:Mov O.tg wC ow1 wG ow2:=Sr.out.trans bM;have tF:=Kw.out.trans xS.far;have FR:=bV.out.far How.out dh tF pQ.out kw.out;obtain ⟨-, -, -,p3G⟩:=FR.cells ht;have Oe:=vo.out.1.mov vo.out.2 bM pQ.out zP.out
      have Sy:a.mb t<wq.heap.size:=by
       obtain ⟨_,_,h1, -⟩:=De.out.snt.mp;exact h1.lt
      have Xy:((B.told t (near.take j)).R t).K<maxLen:=by
       rw [BS.told_R];show (B.R t).K+(near.take j).length<maxLen;rw [List.length_take];unfold maxLen;omega
      obtain ⟨wH,hrun,Sz,SA⟩:=M8.put dh (FR.rea t ht).snt Xy zo n (iY.out n ik.out) wq.heap.size Oe.2 zo W Oe.1 Km.out;have Dt:ow2 (a.mb t)=c+13+t:=(FR.rea t ht).snt.tag;have pV:Mov (fun q=>q=c+13+t) wG ow2 wH ow2:=Mov.wrote dh SA (fun k hk=>by rw [hk];exact Dt);have SB:=FR.told2 dh pV ht Sz;have htk:near.take (j+1)=near.take j++[n]:=by rw [List.take_add_one,FN.out,Option.toList_some]
      have CE:B.told t (near.take (j+1))={B.told t (near.take j) with R:=upd (B.told t (near.take j)).R t {(B.told t (near.take j)).R t with G:=T8 ((B.told t (near.take j)).R t).G n W,K:=((B.told t (near.take j)).R t).K+1}}:=by rw [htk,BS.told_snoc,HM.out,HW.out]
      rw [<-CE] at SB;have SC:=O.mov jO dh pV zo (fun q e he=>by have:=kw.out q he;omega)
      have SE:O.sends s (A3 (B.R t).M t (near.take (j+1)) (B.R t).G)=O.sends S1 ((K4 G0 W).map fun f=>(n,(t:Int),Mg.uns f)):=by
       rw [htk,b0P,HG0.out,HM.out,HW.out,O.sends_app,<-HM.out,gQ.out];unfold X4;rw [O.sends_app,Od.out]
      rw [<-SE] at SC;have KG:Mov (a4j c t O.tg) w ow wH ow2:=(Si.out.trans (xS.mono (fun _ h=> .inr h))).trans (pV.mono (fun _ h=> .inl h));have KH:=pV.owd dh zo;obtain ⟨KF,tC,jL,b7W,Xz,HbG,HkG,xP,HsH,HmH,b7X,HbH⟩:=zh12 jO bM dh xS tF FR Oe hrun Sz SA pV SB;obtain ⟨HBt,HOH,HSs,SF,SG,b7Y,Gt⟩:=zh7 CE SC SE KG KH Dt htk;clear jO bM dh xS tF FR Oe hrun Sz SA pV SB CE SC SE KG KH Dt htk Sy Xy
      go_wp2_with ((with_reducible refine a3f 92 (.tmp 111) (.tmp 112) (.tmp 113) ?_);refine ⟨wH,xP.out, ?_⟩)
      go_roundw
      case rel=>exact ⟨j+1,ow2,by go_num,hlt,HbH.out,HOH.out,SF.out,SG.out⟩
      case measure=>simp [intOf];omega
  obtain rfl:j=near.length:=zo
  rw [List.take_length] at hbr fG;obtain ⟨bV,pJ,aK,How⟩:=zh4 hbr fG hmr how;clear hbr fG hmr how
  go_wp2
  go_end0
  exact ⟨rfl,owr,⟨a,bV.out⟩,pJ.out,aK.out⟩
end Go.Proofs.YtebhabpahfmodaaGreatDoor
