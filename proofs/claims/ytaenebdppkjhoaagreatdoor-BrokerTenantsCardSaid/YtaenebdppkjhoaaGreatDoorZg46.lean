/- Lemmas. -/
import Derived.Test.YtaenebdppkjhoaaGreatDoorZg42
namespace Go.Proofs.YtaenebdppkjhoaaGreatDoor
set_option maxRecDepth 20000
set_option maxHeartbeats 40000000
section
open Go.RowKit
def a3s (c t:Nat) (tg:Nat->Prop):Nat->Prop:=fun q=>q=c+13+t\/tg q
def b5u {w0:World} {q:Nat} (O:x7 w0 q) (w:World) (ow:Ow) (c g:Nat) (id:Int) (near:List Int) (B:BS) (a:BAd) (t:Nat) (s:O.σ) (i:Value) (wr:World):Prop:=
 ∃(j:Nat) (owr:Ow),i= .int .i64 j/\j<=near.length/\A1 wr owr c g id near (B.told t (near.take j)) a/\O.inv wr owr (O.sends s (q9 (B.R t).M t (near.take j) (B.R t).G))/\Mov (a3s c t O.tg) w ow wr owr/\Owd w0 wr owr
def RfA {w0:World} {q:Nat} (O:x7 w0 q) (wC:World) (ow1:Ow) (S0:O.σ) (n t:Int) (mk:Fil->Mg) (W G0:List Fil) (i:Value) (wr:World):Prop:=
 ∃(k:Nat) (ow':Ow),i= .int .i64 k/\k<=W.length/\O.inv wr ow' (O.sends S0 ((C5 (W.take k) G0).map fun f=>(n,t,mk f)))/\Mov O.tg wC ow1 wr ow'
def a3t {w0:World} {q:Nat} (O:x7 w0 q) (w:World) (ow:Ow) (c g:Nat) (id:Int) (near:List Int) (B:BS) (t:Nat) (s:O.σ) (e:Ending) (w':World):Prop:=
 e= .returned (.tuple #[])/\∃ow',Bro w' ow' c g id near (B.told t near)/\O.inv w' ow' (O.sends s (q9 (B.R t).M t near (B.R t).G))/\Mov (a3s c t O.tg) w ow w' ow'
theorem a0N (w0 w:World) (ow:Ow) (c g:Nat) (id:Int) (near:List Int) (B:BS) (hw:Owd w0 w ow) (h:Bro w ow c g id near B) (q:Nat) (O:x7 w0 q) (s:O.σ) (hO:O.inv w ow s) (hOt:∀t,O.tg t->t<c\/c+18<=t) (t:Nat) (ht:t<4)
 (hcnt:O.cnt s+(q9 (B.R t).M t near (B.R t).G).length<=400000000000) (hnl:near.length<=1000) (hnw:∀n∈near,(Lit.int .i64 n).wf=true) (hto:∀n∈near,O.okTo n t) (hN:(B.R t).N<=1000) (hK:(B.R t).K<=1000000) (hGk:GOk (B.R t).G)
 (hinj:∀p∈(B.R t).M,∀q∈(B.R t).M,i6 p.2=i6 q.2->p.2=q.2):
 Calls Tryz.prog 59 #[.pointer (some ⟨g,0,none⟩),.iface 43 (.pointer (some ⟨q,0,none⟩)),.int .i64 t] w (a3t O w ow c g id near B t s):=by
 obtain ⟨a,h⟩:=h;obtain ⟨q0, -, -,q3⟩:=h.cells ht;obtain ⟨L,hlog, -⟩:=h.log;obtain ⟨na,nc,hnv,hnc⟩:∃a' cc,a.nv= .slice a' near.length cc/\near.length<=cc:=by obtain ⟨-,a,cc,h,h2, -⟩:=h.near.rd;exact ⟨a,cc,h,h2⟩
 have c2:w.cell? ⟨g,2,none⟩=some (.slice na near.length nc):=by rw [<-hnv];exact d6 hlog.row rfl
 have ht4:(t:Int)<4:=by omega
 have ht0:(0:Int)<=t:=by omega
 have hnl':(near.length:Int)<=1000:=by omega
 have hnc':(near.length:Int)<=nc:=by omega
 have hb0:A1 w ow c g id near (B.told t (near.take 0)) a:=by rw [List.take_zero,BS.told_nil];exact h
 have hm0:Mov (a3s c t O.tg) w ow w ow:=Mov.refl hw;obtain ⟨Hw,H,HO,HOt,Hnw,Hto,Hinj,Hlog,Hnv,Hb0,Hm0,HGk⟩:=zh12 hw h hO hOt hnw hto hinj hlog hnv hb0 hm0 hGk;clear hw h hO hOt hnw hto hinj hlog hnv hb0 hm0 hGk hnc
 go_enter Tryz.func59,Tryz.ntmps59
 go_wp2_with fail
 go_loopw [31] (fun i wr=>b5u O w ow c g id near B a t s i wr) (fun i _=>near.length - (intOf i).toNat)
 case atStart=>exact ⟨0,ow,rfl,Nat.zero_le _,Hb0.out,HO.out,Hm0.out,Hw.out⟩
 case round=>
  obtain ⟨j,owr,rfl,hj,hbr,hOr,hmr,how⟩:=hrel;obtain ⟨wq,rfl⟩:∃x:World,x=wr:=⟨_,rfl⟩;by_cases hlt:j<near.length
  ·have hlt':(j:Int)<near.length:=by omega
   obtain ⟨n,hnj⟩:∃x,near[j]? =some x:=⟨_,zz5 hlt⟩;have hnm:=zz8 hnj;have hrd:=hbr.near.rd;rw [show a.nv= .slice na near.length nc from Hnv.out] at hrd;obtain ⟨gn,offn,rfl,hcn⟩:=a3i hrd hnj;have hrea:=hbr.rea t ht;obtain ⟨M,hM⟩:∃M,(B.R t).M=M:=⟨_,rfl⟩;have hRM:((B.told t (near.take j)).R t).M=M:=by rw [BS.told_R];exact hM
   have hRN:((B.told t (near.take j)).R t).N=(B.R t).N:=by rw [BS.told_R]
   obtain ⟨p0, -, -,p3⟩:=hbr.cells ht;have hc2:=hbr.c2;obtain ⟨w1,hw1,hmw1,hgw1,hzw1⟩:=e8 wq (.map #[] 0);obtain ⟨ow1,how1e⟩:∃ow1,r7 owr wq.heap.size (c+13+t)=ow1:=⟨_,rfl⟩;have htag:ow1 wq.heap.size=c+13+t:=how1e▸D4 _ _ _;have hs1:Mov (fun q=>q=c+13+t) wq owr w1 ow1:=hw1▸how1e▸Mov.alloc how (.map #[] 0) (c+13+t) (.inr (.inr rfl));have how1:=hs1.owd how (by omega);have htab1:=hrea.tab.mov how hs1 (by omega) (by omega) (by omega);have hsnt1:D7 w1 ow1 (c+13+t) (a.mb t) _ _:=hrea.snt.far (F:=fun _=>False) ⟨hmw1,hs1.old⟩ (fun h=>h) (fun h=>h);have hO1:=O.mov hOr how hs1 (by omega) (fun q e he=>by have:=HOt.out q he;omega);have hkey:W1 w1 ow1 wq.heap.size []:=⟨fun _=>none,hw1▸l8.made wq 9,fun k=>trivial⟩;rw [hRM,hRN] at htab1;have hout:=b3w w1 (a.tb t) _ _ M (B.R t).N htab1 hN (by rw [<-hM];exact Hinj.out) n (Hnw.out n hnm);have hz:=hzw1
   have hwfM:∀p∈M,okQ p.2:=fun p hp=>by
    obtain ⟨mo,hat⟩:=htab1;exact ⟨(hat.wf _ hp).2.1,(hat.wf _ hp).2.2,hat.sc _ hp⟩
   have hwfO:∀q∈x6 M n,okQ q:=a4V hwfM n
   have hMl:M.length<=1000:=by
    obtain ⟨mo,hat⟩:=htab1;have:=hat.low;omega
   have hOl:=W3 M n;have p01:=hmw1.cell p0 (fun h=>h);have p31:=hmw1.cell p3 (fun h=>h);obtain ⟨Htag,Hbr,HOr,Hmr,How,Hrea,HM,HRM,HRN,P0,P3,Hw1⟩:=zh12 htag hbr hOr hmr how hrea hM hRM hRN p0 p3 hw1;obtain ⟨Hs1,How1,Htab1,Hsnt1,HO1,Hkey,Hout,Hnj,Hnm,Hrd,Hgw1,Hz⟩:=zh12 hs1 how1 htab1 hsnt1 hO1 hkey hout hnj hnm hrd hgw1 hz;obtain ⟨HwfM,HwfO,HMl,HOl⟩:=zh4 hwfM hwfO hMl hOl;clear htag hbr hOr hmr how hrea hM hRM hRN p0 p3 hw1 hs1 how1 htab1 hsnt1 hO1 hkey hout hnj hnm hrd hgw1 hz hwfM hwfO hMl hOl hzw1 how1e
   go_wp2_with (first|(rw [show wq.alloc _=w1 from Hw1.out])|fail)
   refine Hout.out.mono ?_;rintro e w2 ⟨v,l,rfl,hol,hob,hlf,hfc,hm2⟩;obtain ⟨va,vc,rfl,hvc⟩:=hol.shape;have hs2:Mov (fun q=>q=c+13+t) w1 ow1 w2 ow1:=Mov.of How1.out hm2 _;have how2:=(Mov.of How1.out hm2 (fun _=>False)).owd How1.out (fun h=>h);have hsnt2:D7 w2 ow1 (c+13+t) (a.mb t) _ _:=Hsnt1.out.far (F:=fun _=>False) ⟨hm2,fun _ _=>rfl⟩ (fun h=>h) (fun h=>h)
   have hkey2:W1 w2 ow1 wq.heap.size []:=by
    obtain ⟨f,g1,g2⟩:=Hkey.out;exact ⟨f,g1.mod hm2 (fun h=>h),fun k=>(g2 k).mov (Mov.of How1.out hm2 (fun _=>False)) (fun h=>h)⟩
   have hO2:=O.mov HO1.out How1.out (Mov.of How1.out hm2 (fun _=>False)) (fun h=>h) (fun q e he=>e);have hcon:∀f∈l,l9 w2 ow1 7 (.slice f.a f.cs.length f.c) f.cs.length (l6 f.cs):=fun f hf=>⟨(hfc f hf).1.rd,fun _ b hb=>((hfc f hf).2 b hb).2.1⟩;have hlt2:(x6 M n).Pairwise fun a b=>i6 a<i6 b:=a8l M n;have hvc':(l.length:Int)<=vc:=by omega
   have hl1:(l.length:Int)<=1000:=by
    have h1:=congrArg List.length hlf;rw [zz10] at h1;have h2:=HOl.out;have h3:=HMl.out;omega
   rw [<-hlf] at hlt2;obtain ⟨Hol,Hob,Hlf,Hfc,Hm2,Hs2,How2,Hsnt2,Hkey2,HO2,Hcon,Hlt2⟩:=zh12 hol hob hlf hfc hm2 hs2 how2 hsnt2 hkey2 hO2 hcon hlt2;clear hol hob hlf hfc hm2 hs2 how2 hsnt2 hkey2 hO2 hcon hlt2 hvc
   go_wp2_with fail
   go_loopw [43] (fun i wr=>∃k:Nat,i= .int .i64 k/\k<=l.length/\W1 wr ow1 wq.heap.size ((l.take k).map Fr.fil)/\Mod (fun b=>b=wq.heap.size) w2 wr) (fun i _=>l.length - (intOf i).toNat)
   case atStart=>exact ⟨0,rfl,Nat.zero_le _,Hkey2.out,Mod.refl _ _⟩
   case round=>
    obtain ⟨k,rfl,hk,hkc,hmk⟩:=hrel;have hsk:Mov (fun q=>q=c+13+t) w2 ow1 wr ow1:=Mov.wrote How2.out hmk (fun b hb=>by rw [hb,Htag.out]);have howk:=hsk.owd How2.out (by omega);by_cases hlk:k<l.length
    ·have hlk':(k:Int)<l.length:=by omega
     obtain ⟨f,hfk⟩:∃f,l[k]? =some f:=⟨_,zz5 hlk⟩;have hfm:=zz8 hfk;have holk:=Hol.out.mod hmk (fun b hb hf=>by have:=Hob.out b hb;have:=Hz.out;omega);obtain ⟨gf,offf,rfl,hcf⟩:∃g off,va=some ⟨g,off,none⟩/\e7 wr g (off+k*2) f.cells:=a0x (f:=Fr.cells) (sz:=2) (fun _=>rfl) holk.rd hfk;obtain ⟨wz,hwz,hmwz,hgwz,hzwz⟩:=e8 wr (.cells f.cells.toArray 33);have hwz':wr.alloc (.cells #[.string f.sc,.slice f.a f.cs.length f.c] 33)=wz:=hwz;obtain ⟨Hsk,Howk,Hkc,Hmk,Hfk,Hfm,Holk,Hcf,Hwz',Hgwz,Hmwz⟩:=zh11 hsk howk hkc hmk hfk hfm holk hcf hwz' hgwz hmwz;clear hsk howk hkc hmk hfk hfm holk hcf hwz' hgwz hmwz hwz hzwz
     go_wp2_with (first|((with_reducible refine d9 33 (.tmp 45) ?_);refine ⟨gf,offf+k*2,rfl,[.string f.sc,.slice f.a f.cs.length f.c],Hcf.out,by kernel_rfl,by kernel_rfl, ?_⟩)|((with_reducible refine d8 33 (.tmp 11) (.tmp 46) ?_);refine ⟨rfl,[.string f.sc,.slice f.a f.cs.length f.c],rfl,rfl,by kernel_rfl,rfl, ?_⟩;rw [Hwz'.out])|fail)
     have hfb:f.cs.length<=1000/\f.sc.size<=1000000/\∀x∈f.cs,x.fits:=by
      have h1:=HwfO.out f.fil (by rw [<-Hlf.out];exact List.mem_map.2 ⟨f,Hfm.out,rfl⟩);exact ⟨Nat.le_trans h1.1 (by omega),h1.2.2,h1.2.1⟩
     have hkl0:=E9 f.sc f.cs hfb.2.2;have hfl:f.cs.length<=19:=(HwfO.out f.fil (by rw [<-Hlf.out];exact List.mem_map.2 ⟨f,Hfm.out,rfl⟩)).1;have hkn:kF ((l.take k).map Fr.fil) (i6 f.fil)=none:=by rw [List.map_take];exact b4S Hlt2.out (by rw [List.getElem?_map,Hfk.out];rfl)
     have hlen:((l.take k).map Fr.fil).length<=1000:=by
      have h1:=congrArg List.length Hlf.out;rw [zz10] at h1;have h2:=HOl.out;have h3:=HMl.out;rw [zz10,List.length_take];omega
     have hfs:=hfb.2.1;have hmz:Mod (fun _=>False) wr wz:=Hmwz.out
     have hpr:∀wx,Mod (fun _=>False) wz wx->Calls Tryz.prog 35 #[.agg #[.string f.sc,.slice f.a f.cs.length f.c]] wx fun e w'=>e= .returned (.string (str (p9 f.sc f.cs)))/\Mod (fun _=>False) wx w':=fun wx hx=>
      T5 w0 wx (Howk.out.laid.mod0 (hmz.trans hx (fun _ _ h=>h))) f.sc (.slice f.a f.cs.length f.c) f.cs (((Hcon.out f Hfm.out).mov Hsk.out (by omega) (by omega)).rd.mod (hmz.trans hx (fun _ _ h=>h)) (fun _ _ h=>h)) hfb.1 hfb.2.1 hfb.2.2
     have hS:(fun y:World=>y.cell? ⟨wr.heap.size,0,none⟩=some (.string f.sc)/\y.cell? ⟨wr.heap.size,1,none⟩=some (.slice f.a f.cs.length f.c)) wz.drew:=⟨d6 Hgwz.out rfl,d6 Hgwz.out rfl⟩;obtain ⟨Hpr,Hfb,Hmz,Hkn⟩:=zh4 hpr hfb hmz hkn;clear hpr hfb hmz hkn;refine g8 [.rd 0,.rd 1,.rd 3,.go 2,.go 4] [0,1,2,3] (fun y:World=>y.cell? ⟨wr.heap.size,0,none⟩=some (.string f.sc)/\y.cell? ⟨wr.heap.size,1,none⟩=some (.slice f.a f.cs.length f.c)) (by kernel_rfl) (by kernel_rfl) (fun _ _ d _ _ h=>(by cases d<;>exact h)) ?_
     iterate 3 (
      refine l5 rfl ?_ (fun _=>hS) ?_ (fun w0 h0=> ?_) (fun K hK=> ?_)
      ·(try simp only [zz1]);(try simp only [zz2]);(try simp only [zz3]);go_simp;done
      rotate_left
      ·(try simp only [zz1]);(try simp only [zz2]);(try simp only [zz3])
       first
        |(obtain ⟨f0,f1⟩:=h0 rfl;clear h0;go_simp;with_reducible rfl)
        |(clear h0;go_simp;with_reducible rfl)
      (try simp only [zz1]);(try simp only [zz2]);(try simp only [zz3])
      go_simp;refine hK _ ?_;clear hK K)
     refine g7 (g9 rfl ?_ (fun K hK=> ?_))
     ·(try simp only [zz1]);(try simp only [zz2]);(try simp only [zz3]);go_simp;done
     go_wp2_with fail
     refine (Hpr.out wz.drew ((Mod.refl _ wz).drew)).mono ?_;rintro e w3 ⟨rfl,hm3⟩;refine hK _ _ (fun _ h=>⟨hm3.cell h.1 (fun h=>h),hm3.cell h.2 (fun h=>h)⟩) ?_;clear hK K hS;have hm3':Mod (fun _=>False) wr w3:=Hmz.out.trans (((Mod.refl _ wz).drew).trans hm3 (fun _ _ h=>h)) (fun _ _ h=>h);have hkc3:=(Hkc.out.mov Htag.out (Mov.of Howk.out hm3' (fun _=>False)) (fun h=>h) (fun h=>h)).1;have how3:=(Mov.of Howk.out hm3' (fun _=>False)).owd Howk.out (fun h=>h);obtain ⟨w4,hrun,hkc4,hm4⟩:=W1.put how3 hkc3 (by unfold maxLen;omega) (by rw [Htag.out];omega) f.fil (by show (p9 f.sc f.cs).length<=maxLen;unfold maxLen;omega) Hkn.out f.a f.c (((Hcon.out f Hfm.out).mov Hsk.out (by omega) (by omega)).mov (Mov.of Howk.out hm3' (fun _=>False)) (fun h=>h) (by omega));have hrun':(Instr.mapUpdate 174 (.map (some wq.heap.size)) (.string (str (p9 f.sc f.cs))) (.agg #[.string f.sc,.slice f.a f.cs.length f.c])).run Tryz.prog w3= .ok () w4:=hrun;refine g7 (g9 rfl ?_ (fun K hK=> ?_))
     ·(try simp only [zz1]);(try simp only [zz2]);(try simp only [zz3]);go_simp;done
     (try simp only [zz1]);(try simp only [zz2]);(try simp only [zz3]);refine Z2 174 _ _ _ rfl hrun' ?_;refine hK _ _ (fun h=>absurd h (by decide)) ?_;clear hK K;refine j8 ?_;have hmk4:Mod (fun b=>b=wq.heap.size) w2 w4:=(Hmk.out.trans (hm3'.mono (fun _ _ h=>h.elim)) (fun _ _ h=>h)).trans hm4 (fun _ _ h=>h);have hkl:(l.take (k+1)).map Fr.fil=(l.take k).map Fr.fil++[f.fil]:=by rw [List.take_add_one,Hfk.out,Option.toList_some,List.map_append];rfl
     obtain ⟨Hrun,Hrun',Hkc4,Hm4,Hmk4,Hkl,Hm3,Hm3',Hkc3,How3⟩:=zh10 hrun hrun' hkc4 hm4 hmk4 hkl hm3 hm3' hkc3 how3;clear hrun hrun' hkc4 hm4 hmk4 hkl hm3 hm3' hkc3 how3 hlen hkl0 hfl hfs
     go_wp2_with fail
     go_roundw
     case rel=>exact ⟨k+1,by go_num,hlk,by rw [Hkl.out];exact Hkc4.out,Hmk4.out⟩
     case measure=>simp [intOf];omega
    obtain rfl:k=l.length:=by omega
    rw [List.take_length,Hlf.out] at hkc;obtain ⟨wA,rfl⟩:∃x:World,x=wr:=⟨_,rfl⟩;have hltW:=a8l M n;obtain ⟨W,hW⟩:∃W,x6 M n=W:=⟨_,rfl⟩;obtain ⟨G0,hG0⟩:∃G0,((B.told t (near.take j)).R t).G n=G0:=⟨_,rfl⟩;have hWl:W.length<=1000:=by have:=HOl.out;have:=HMl.out;rw [<-hW];omega
    have hGl0:G0.length<=1000000:=by
     rw [<-hG0,BS.told_R];exact (HGk.out.refr (by have:=HMl.out;rw [HM.out];omega) (by rw [HM.out];exact HwfM.out) _).len n
    have hwfG:∀q∈G0,okQ q:=by
     rw [<-hG0,BS.told_R];exact (HGk.out.refr (by have:=HMl.out;rw [HM.out];omega) (by rw [HM.out];exact HwfM.out) _).ok n
    have hwfW:∀q∈W,okQ q:=by rw [<-hW];exact HwfO.out
    rw [hW] at hkc hltW;have hmA:Mod (fun _=>False) wq wA:=(hmw1.trans Hm2.out (fun _ _ h=>h)).upon hmk (fun b hb=> .inr (Nat.le_of_eq (show wq.heap.size=b from (show b=wq.heap.size from hb).symm)));have p3A:=hmA.cell P3.out (fun h=>h);have hsA:D7 wA ow1 (c+13+t) (a.mb t) _ _:=Hrea.out.snt.far (F:=fun _=>False) ⟨hmA,Hs1.out.old⟩ (fun h=>h) (fun h=>h);obtain ⟨ns,fs,hf1,hf2,hf3⟩:=hsA.mp;have hlkn:=hf1.look m7 Tryz.underlying57 (N4 wA) (Maps.keyOf_int_mk Tryz.underlying3 (Hnw.out n Hnm.out));have hsv:=hf3 n;rw [hG0] at hsv;obtain ⟨m,hmv,hkv⟩:=hsv.keyV;rw [hmv] at hlkn;have hltG:G0.Pairwise fun a b=>i6 a<i6 b:=hG0▸hsA.lt n;have hkeys:=a1f (some wq.heap.size) wA;have hsort:=a4R.sorted (w:=wA) (ow:=ow1) (.inr ⟨_,rfl,hkc⟩) (by omega) hltW;obtain ⟨wB,hwB⟩:∃wB:World,wA.alloc (.cells #[.map (some wq.heap.size)] 174)=wB:=⟨_,rfl⟩;rw [hwB] at hsort hkeys;have hmB:Mod (fun _=>False) wA wB:=hwB▸(Mod.refl (fun _=>False) wA).alloc _;have ht0:¬O.tg 0:=fun h=>by have:=O.t2 0 h;omega
    have hnt:¬O.tg (c+13+t):=fun h=>by have:=HOt.out _ h;omega
    have hcb:O.cnt (O.sends s (q9 (B.R t).M t (near.take j) (B.R t).G))+((C5 W G0).length+(C5 G0 W).length)<=400000000000:=by
     have h1:=a7y (M:=(B.R t).M) (ten:=t) Hnj.out (B.R t).G;have h2:=O.sends_cnt s (q9 (B.R t).M t (near.take j) (B.R t).G);rw [BS.told_R] at hG0;rw [a4p,HM.out,hW,show C6 M (near.take j) (B.R t).G n=G0 by rw [<-HM.out];exact hG0] at h1;have h0:=hcnt;rw [HM.out] at h0 h2⊢;omega
    obtain ⟨S0,hS0⟩:∃S0,O.sends s (q9 (B.R t).M t (near.take j) (B.R t).G)=S0:=⟨_,rfl⟩;rw [hS0] at hcb;obtain ⟨Hsk,Howk,Hkc,Hmk,HltW,HW,HG0,HwfW,HwfG,HmA,P3A,HsA⟩:=zh12 hsk howk hkc hmk hltW hW hG0 hwfW hwfG hmA p3A hsA;obtain ⟨Hf1,Hf2,Hf3,Hsv,Hmv,Hkv,HltG,Hkeys,Hsort,HwB,HmB,HS0⟩:=zh12 hf1 hf2 hf3 hsv hmv hkv hltG hkeys hsort hwB hmB hS0;obtain ⟨Ht0,Hnt⟩:=zh2 ht0 hnt;clear hsk howk hkc hmk hltW hW hG0 hwfW hwfG hmA p3A hsA hf1 hf2 hf3 hsv hmv hkv hltG hkeys hsort hwB hmB hS0 ht0 hnt;have hlkA:=hlkn;have p3a:=P3A.out
    go_wp2_with fail
    refine Hkeys.out.mono ?_;rintro e wx ⟨rfl,hwx⟩;obtain rfl:=hwx.symm
    go_wp2_with fail
    refine Hsort.out.mono ?_;rintro e wC ⟨sv,rfl,hso,hsb,hmC⟩;obtain ⟨sa,sc,rfl,hsc⟩:=hso.shape;rw [zz10,zz10] at hso hsc hsb⊢;have hsc':(W.length:Int)<=sc:=by omega
    have hmAC:=HmB.out.trans hmC (fun _ _ h=>h);have hsAC:=Mov.of Howk.out hmAC (fun _=>False);have howC:=hsAC.owd Howk.out (fun h=>h);have hkC:=(Hkc.out.mov Htag.out hsAC (fun h=>h) (fun h=>h)).1;have hsvC:=Hsv.out.mov hsAC (fun h=>h) (fun h=>h);have hfarC:Far O.tg wq owr wC ow1:=⟨(HmA.out.trans hmAC (fun _ _ h=>h)).mono (fun _ _ h=>h.elim),Hs1.out.old⟩;have hOC:=O.mov HO2.out How2.out (Mov.wrote (F:=fun q=>q=c+13+t) How2.out (Hmk.out.trans (hmAC.mono (fun _ _ h=>h.elim)) (fun _ _ h=>h)) (fun b hb=>by rw [hb,Htag.out])) (by omega) (fun q e he=>by have:=HOt.out q he;omega);rw [HS0.out] at hOC;have hmvC:Mov (a3s c t O.tg) w ow wC ow1:=(((Hmr.out.trans (Hs1.out.mono (fun _ h=> .inl h))).trans (Mov.of How1.out Hm2.out _)).trans (Hsk.out.mono (fun _ h=> .inl h))).trans (hsAC.mono (fun _ h=>h.elim));have hksC:l9 wC ow1 1 (.slice sa W.length sc) W.length ((W.map i6).map encStr):=⟨hso.rd,fun _ b hb=>Howk.out.zero (Nat.le_trans HmB.out.size (hsb b hb))⟩;obtain ⟨Hso,Hsb,HmC,HmAC,HsAC,HowC,HkC,HsvC,HfarC,HOC,HksC,HmvC⟩:=zh12 hso hsb hmC hmAC hsAC howC hkC hsvC hfarC hOC hksC hmvC;clear hso hsb hmC hmAC hsAC howC hkC hsvC hfarC hOC hksC hmvC hsc hlkA p3a hlkn
    go_wp2_with fail
    go_loopw [62] (fun i wr=>RfA O wC ow1 S0 n t Mg.sub W G0 i wr) (fun i _=>W.length - (intOf i).toNat)
    case atStart=>exact ⟨0,ow1,rfl,Nat.zero_le _,HOC.out,Mov.refl HowC.out⟩
    case round=>
     obtain ⟨k,ow',rfl,hk,hOk,hmk'⟩:=hrel;have how':=hmk'.owd HowC.out Ht0.out;by_cases hlw:k<W.length
     ·have hlw':(k:Int)<W.length:=by omega
      obtain ⟨f,hfk⟩:∃f,W[k]? =some f:=⟨_,zz5 hlw⟩;have hfm:=zz8 hfk;obtain ⟨gs,offs,rfl,ck⟩:=a4P (l:=W.map i6) (enc:=encStr) (HksC.out.mov hmk' Ht0.out (by omega)).rd (by rw [List.getElem?_map,hfk];rfl);have ck':wr.cell? ⟨gs,offs+k,none⟩=some (.string (str (i6 f))):=ck;have hkl1:(i6 f).length<=maxLen:=a8z (HwfW.out f hfm);have hkr:=(HkC.out.mov Htag.out hmk' Ht0.out Hnt.out).1;have htr:ow' wq.heap.size=c+13+t:=(HkC.out.mov Htag.out hmk' Ht0.out Hnt.out).2;have hkg:=(HsvC.out.mov hmk' Ht0.out Hnt.out).keyV2 Hmv.out;obtain ⟨q,qa,qc,hq1, -, -⟩:=hkg.ask (i6 f) hkl1;have hsu:=a3m (b:=G0) hfk;obtain ⟨ok,hok⟩:∃ok,(kF G0 (i6 f)).isSome=ok:=⟨_,rfl⟩;rw [hok] at hq1;have hcl:=a4o W G0 k;obtain ⟨wz,hwz,hmwz,hgwz,hzwz⟩:=e8 wr (.cells #[.string q.1,.slice qa q.2.length qc] 33);have hsz:=Mov.of how' hmwz (fun _=>False);have howz:=hsz.owd how' (fun h=>h);have hOz:=O.mov hOk how' hsz (fun h=>h) (fun _ h=>h.elim);have hkz:=(hkr.mov htr hsz (fun h=>h) (fun h=>h)).1;have hmz:Mov O.tg wC ow1 wz ow':=hmk'.trans (Mov.of how' hmwz _)
      cases ok with
      |true=>
       rw [show (kF G0 (i6 f)).isNone=false by rw [<-Option.not_isSome,hok];rfl,if_neg (by decide),zz11] at hsu;obtain ⟨HOk,Hmk',How',Hfk,Hfm,Ck,Hkl1,Hkr,Htr,Hkg,Hsu,Hok⟩:=zh12 hOk hmk' how' hfk hfm ck hkl1 hkr htr hkg hsu hok;obtain ⟨Hwz,Hmwz,Hgwz,Hsz,Howz,HOz,Hkz,Hmz⟩:=zh8 hwz hmwz hgwz hsz howz hOz hkz hmz;clear hOk hmk' how' hfk hfm ck hkl1 hkr htr hkg hsu hok hwz hmwz hgwz hsz howz hOz hkz hmz hzwz hcl
       go_wp2_with (first|((with_reducible refine d8 33 (.tmp 15) (.tmp 70) ?_);refine ⟨rfl,[.string q.1,.slice qa q.2.length qc],rfl,rfl,by kernel_rfl,rfl, ?_⟩;rw [Hwz.out])|fail)
       go_roundw
       case rel=>exact ⟨k+1,ow',by go_num,hlw,by rw [Hsu.out];exact HOz.out,Hmz.out⟩
       case measure=>simp [intOf];omega
      |false=>
       rw [show (kF G0 (i6 f)).isNone=true by rw [<-Option.not_isSome,hok];rfl,if_pos rfl] at hsu;obtain ⟨p,pa,pc, -,hp2,hp3⟩:=a4R.ask (v:= .map (some wq.heap.size)) (.inr ⟨_,rfl,hkz⟩) (i6 f) hkl1;obtain ⟨rfl,hpc⟩:=hp3 f (b4g HltW.out hfk);have hct:=O.sends_cnt S0 ((C5 (W.take k) G0).map fun f=>(n,(t:Int),Mg.sub f));rw [zz10] at hct;have hsend:=O.tsub howz hOz (by omega) (Hto.out n Hnm.out) hpc;obtain ⟨HOk,Hmk',How',Hfk,Hfm,Ck,Hkl1,Hkr,Htr,Hkg,Hsu,Hok⟩:=zh12 hOk hmk' how' hfk hfm ck hkl1 hkr htr hkg hsu hok;obtain ⟨Hwz,Hmwz,Hgwz,Hsz,Howz,HOz,Hkz,Hmz,Hp3,Hpc,Hsend⟩:=zh11 hwz hmwz hgwz hsz howz hOz hkz hmz hp3 hpc hsend;clear hOk hmk' how' hfk hfm ck hkl1 hkr htr hkg hsu hok hwz hmwz hgwz hsz howz hOz hkz hmz hp3 hpc hsend hzwz hcl hct
       go_wp2_with (first|((with_reducible refine d8 33 (.tmp 15) (.tmp 70) ?_);refine ⟨rfl,[.string q.1,.slice qa q.2.length qc],rfl,rfl,by kernel_rfl,rfl, ?_⟩;rw [Hwz.out])|fail)
       refine Hsend.out.mono ?_;rintro e w3 ⟨rfl,ow3,hO3,hm3⟩;have hmz3:=Hmz.out.trans hm3;obtain ⟨HO3,Hm3,Hmz3⟩:=zh3 hO3 hm3 hmz3;clear hO3 hm3 hmz3
       go_wp2_with fail
       go_roundw
       case rel=>exact ⟨k+1,ow3,by go_num,hlw,by rw [Hsu.out,List.map_append,List.map_singleton,O.sends_one];exact HO3.out,Hmz3.out⟩
       case measure=>simp [intOf];omega
     obtain rfl:k=W.length:=by omega
     rw [List.take_length] at hOk;obtain ⟨wD,rfl⟩:∃x:World,x=wr:=⟨_,rfl⟩;have hkD:=HkC.out.mov Htag.out hmk' Ht0.out Hnt.out;have hsvD:=HsvC.out.mov hmk' Ht0.out Hnt.out;have hkeyt:=a1f m wD;have hsortt:=(hsvD.keyV2 Hmv.out).sorted hGl0 HltG.out;obtain ⟨wE,hwE⟩:∃wE:World,wD.alloc (.cells #[.map m] 174)=wE:=⟨_,rfl⟩;rw [hwE] at hsortt hkeyt;have hmE:Mod (fun _=>False) wD wE:=hwE▸(Mod.refl (fun _=>False) wD).alloc _;have hct:=O.sends_cnt S0 ((C5 W G0).map fun f=>(n,(t:Int),Mg.sub f));rw [zz10] at hct;obtain ⟨S1,hS1⟩:∃S1,O.sends S0 ((C5 W G0).map fun f=>(n,(t:Int),Mg.sub f))=S1:=⟨_,rfl⟩;rw [hS1] at hOk hct;have hcb1:O.cnt S1+(C5 G0 W).length<=400000000000:=by omega
     obtain ⟨HkD,HsvD,Hkeyt,Hsortt,HwE,HmE,HS1,HOk,Hmk',How'⟩:=zh10 hkD hsvD hkeyt hsortt hwE hmE hS1 hOk hmk' how';clear hkD hsvD hkeyt hsortt hwE hmE hS1 hOk hmk' how' hct
     go_wp2_with fail
     refine Hkeyt.out.mono ?_;rintro e wx ⟨rfl,hwx⟩;obtain rfl:=hwx.symm
     go_wp2_with fail
     refine Hsortt.out.mono ?_;rintro e wF ⟨sv,rfl,hso,hsb,hmF⟩;obtain ⟨ta,tc,rfl,htc⟩:=hso.shape;rw [zz10,zz10] at hso htc hsb⊢;have htc':(G0.length:Int)<=tc:=by omega
     have hmDF:=HmE.out.trans hmF (fun _ _ h=>h);have hsDF:=Mov.of How'.out hmDF (fun _=>False);have howF:=hsDF.owd How'.out (fun h=>h);have hkF:=HkD.out.1.mov HkD.out.2 hsDF (fun h=>h) (fun h=>h);have hsvF:=HsvD.out.mov hsDF (fun h=>h) (fun h=>h);have hOF:=O.mov HOk.out How'.out hsDF (fun h=>h) (fun _ h=>h.elim);have hksF:l9 wF ow' 1 (.slice ta G0.length tc) G0.length ((G0.map i6).map encStr):=⟨hso.rd,fun _ b hb=>How'.out.zero (Nat.le_trans HmE.out.size (hsb b hb))⟩;have hmCF:Mov O.tg wC ow1 wF ow':=Hmk'.out.trans (Mov.of How'.out hmDF _);obtain ⟨ow4,hw4⟩:∃ow4,ow'=ow4:=⟨_,rfl⟩;subst hw4;obtain ⟨Hso,Hsb,HmF,HmDF,HsDF,HowF,HkF,HsvF,HOF,HksF,HmCF⟩:=zh11 hso hsb hmF hmDF hsDF howF hkF hsvF hOF hksF hmCF;clear hso hsb hmF hmDF hsDF howF hkF hsvF hOF hksF hmCF htc
     go_wp2_with fail
     go_loopw [87] (fun i wr=>RfA O wF ow' S1 n t Mg.uns G0 W i wr) (fun i _=>G0.length - (intOf i).toNat)
     case atStart=>exact ⟨0,ow',rfl,Nat.zero_le _,HOF.out,Mov.refl HowF.out⟩
     case round=>
      obtain ⟨k,ow2,rfl,hk,hOk2,hmk2⟩:=hrel;have how2:=hmk2.owd HowF.out Ht0.out;by_cases hlw:k<G0.length
      ·have hlw':(k:Int)<G0.length:=by omega
       obtain ⟨f,hfk⟩:∃f,G0[k]? =some f:=⟨_,zz5 hlw⟩;have hfm:=zz8 hfk;obtain ⟨gs,offs,rfl,ck⟩:=a4P (l:=G0.map i6) (enc:=encStr) (HksF.out.mov hmk2 Ht0.out (by omega)).rd (by rw [List.getElem?_map,hfk];rfl);have ck':wr.cell? ⟨gs,offs+k,none⟩=some (.string (str (i6 f))):=ck;have hkl1:=a8z (HwfG.out f hfm);have hkr:=(HkF.out.1.mov HkF.out.2 hmk2 Ht0.out Hnt.out).1;have hsvr:=HsvF.out.mov hmk2 Ht0.out Hnt.out;obtain ⟨q,qa,qc,hq1, -, -⟩:=a4R.ask (v:= .map (some wq.heap.size)) (.inr ⟨_,rfl,hkr⟩) (i6 f) hkl1;have hsu:=a3m (b:=W) hfk;obtain ⟨ok,hok⟩:∃ok,(kF W (i6 f)).isSome=ok:=⟨_,rfl⟩;rw [hok] at hq1;have hcl:=a4o G0 W k;obtain ⟨wz,hwz,hmwz,hgwz,hzwz⟩:=e8 wr (.cells #[.string q.1,.slice qa q.2.length qc] 33);have hsz:=Mov.of how2 hmwz (fun _=>False);have howz:=hsz.owd how2 (fun h=>h);have hOz:=O.mov hOk2 how2 hsz (fun h=>h) (fun _ h=>h.elim);have hsvz:=hsvr.mov hsz (fun h=>h) (fun h=>h);have hmz:Mov O.tg wF ow' wz ow2:=hmk2.trans (Mov.of how2 hmwz _)
       cases ok with
       |true=>
        rw [show (kF W (i6 f)).isNone=false by rw [<-Option.not_isSome,hok];rfl,if_neg (by decide),zz11] at hsu;obtain ⟨HOk2,Hmk2,How2,Hfk,Hfm,Ck,Hkl1,Hkr,Hsvr,Hsu,Hok,Hwz⟩:=zh12 hOk2 hmk2 how2 hfk hfm ck hkl1 hkr hsvr hsu hok hwz;obtain ⟨Hmwz,Hgwz,Hsz,Howz,HOz,Hsvz,Hmz⟩:=zh7 hmwz hgwz hsz howz hOz hsvz hmz;clear hOk2 hmk2 how2 hfk hfm ck hkl1 hkr hsvr hsu hok hwz hmwz hgwz hsz howz hOz hsvz hmz hzwz hcl
        go_wp2_with (first|((with_reducible refine d8 33 (.tmp 19) (.tmp 95) ?_);refine ⟨rfl,[.string q.1,.slice qa q.2.length qc],rfl,rfl,by kernel_rfl,rfl, ?_⟩;rw [Hwz.out])|fail)
        go_roundw
        case rel=>exact ⟨k+1,ow2,by go_num,hlw,by rw [Hsu.out];exact HOz.out,Hmz.out⟩
        case measure=>simp [intOf];omega
       |false=>
        rw [show (kF W (i6 f)).isNone=true by rw [<-Option.not_isSome,hok];rfl,if_pos rfl] at hsu;obtain ⟨p,pa,pc, -,hp2,hp3⟩:=(hsvz.keyV2 Hmv.out).ask (i6 f) hkl1;obtain ⟨rfl,hpc⟩:=hp3 f (b4g HltG.out hfk);have hct:=O.sends_cnt S1 ((C5 (G0.take k) W).map fun f=>(n,(t:Int),Mg.uns f));rw [zz10] at hct;have hsend:=O.tuns howz hOz (by omega) (Hto.out n Hnm.out) hpc;obtain ⟨HOk2,Hmk2,How2,Hfk,Hfm,Ck,Hkl1,Hkr,Hsvr,Hsu,Hok,Hwz⟩:=zh12 hOk2 hmk2 how2 hfk hfm ck hkl1 hkr hsvr hsu hok hwz;obtain ⟨Hmwz,Hgwz,Hsz,Howz,HOz,Hsvz,Hmz,Hp3,Hpc,Hsend⟩:=zh10 hmwz hgwz hsz howz hOz hsvz hmz hp3 hpc hsend;clear hOk2 hmk2 how2 hfk hfm ck hkl1 hkr hsvr hsu hok hwz hmwz hgwz hsz howz hOz hsvz hmz hp3 hpc hsend hzwz hcl hct
        go_wp2_with (first|((with_reducible refine d8 33 (.tmp 19) (.tmp 95) ?_);refine ⟨rfl,[.string q.1,.slice qa q.2.length qc],rfl,rfl,by kernel_rfl,rfl, ?_⟩;rw [Hwz.out])|fail)
        refine Hsend.out.mono ?_;rintro e w3 ⟨rfl,ow3,hO3,hm3⟩;have hmz3:=Hmz.out.trans hm3;obtain ⟨HO3,Hm3,Hmz3⟩:=zh3 hO3 hm3 hmz3;clear hO3 hm3 hmz3
        go_wp2_with fail
        go_roundw
        case rel=>exact ⟨k+1,ow3,by go_num,hlw,by rw [Hsu.out,List.map_append,List.map_singleton,O.sends_one];exact HO3.out,Hmz3.out⟩
        case measure=>simp [intOf];omega
      obtain rfl:k=G0.length:=by omega
      rw [List.take_length] at hOk2;obtain ⟨wG,rfl⟩:∃x:World,x=wr:=⟨_,rfl⟩;have hmCG:Mov O.tg wC ow1 wG ow2:=HmCF.out.trans hmk2;have hfarG:=HfarC.out.trans hmCG.far;have hbG:=Hbr.out.far How.out how2 hfarG Ht0.out HOt.out;obtain ⟨-, -, -,p3G⟩:=hbG.cells ht;have hkG:=HkF.out.1.mov HkF.out.2 hmk2 Ht0.out Hnt.out
      have hmbl:a.mb t<wq.heap.size:=by
       obtain ⟨_,_,h1, -⟩:=Hrea.out.snt.mp;exact h1.lt
      have hKm:((B.told t (near.take j)).R t).K<maxLen:=by
       rw [BS.told_R];show (B.R t).K+(near.take j).length<maxLen;rw [List.length_take];unfold maxLen;omega
      obtain ⟨wH,hrun,hsH,hmH⟩:=D7.put how2 (hbG.rea t ht).snt hKm (by omega) n (Hnw.out n Hnm.out) wq.heap.size hkG.2 (by omega) W hkG.1 HltW.out;have htmb:ow2 (a.mb t)=c+13+t:=(hbG.rea t ht).snt.tag;have hsGH:Mov (fun q=>q=c+13+t) wG ow2 wH ow2:=Mov.wrote how2 hmH (fun k hk=>by rw [hk];exact htmb);have hbH:=hbG.told2 how2 hsGH ht hsH;have htk:near.take (j+1)=near.take j++[n]:=by rw [List.take_add_one,Hnj.out,Option.toList_some]
      have hBt:B.told t (near.take (j+1))={B.told t (near.take j) with R:=upd (B.told t (near.take j)).R t {(B.told t (near.take j)).R t with G:=S6 ((B.told t (near.take j)).R t).G n W,K:=((B.told t (near.take j)).R t).K+1}}:=by rw [htk,BS.told_snoc,HM.out,HW.out]
      rw [<-hBt] at hbH;have hOH:=O.mov hOk2 how2 hsGH (by omega) (fun q e he=>by have:=HOt.out q he;omega)
      have hSs:O.sends s (q9 (B.R t).M t (near.take (j+1)) (B.R t).G)=O.sends S1 ((C5 G0 W).map fun f=>(n,(t:Int),Mg.uns f)):=by
       rw [htk,a9z,HG0.out,HM.out,HW.out,O.sends_app,<-HM.out,HS0.out];unfold I5;rw [O.sends_app,HS1.out]
      rw [<-hSs] at hOH;have hmvH:Mov (a3s c t O.tg) w ow wH ow2:=(HmvC.out.trans (hmCG.mono (fun _ h=> .inr h))).trans (hsGH.mono (fun _ h=> .inl h));have howH:=hsGH.owd how2 (by omega);obtain ⟨HOk2,Hmk2,How2,HmCG,HfarG,HbG,HkG,Hrun,HsH,HmH,HsGH,HbH⟩:=zh12 hOk2 hmk2 how2 hmCG hfarG hbG hkG hrun hsH hmH hsGH hbH;obtain ⟨HBt,HOH,HSs,HmvH,HowH,Htmb,Htk⟩:=zh7 hBt hOH hSs hmvH howH htmb htk;clear hOk2 hmk2 how2 hmCG hfarG hbG hkG hrun hsH hmH hsGH hbH hBt hOH hSs hmvH howH htmb htk hmbl hKm
      go_wp2_with (first|((with_reducible refine a2q 57 (.tmp 111) (.tmp 112) (.tmp 113) ?_);refine ⟨wH,Hrun.out, ?_⟩)|fail)
      go_roundw
      case rel=>exact ⟨j+1,ow2,by go_num,hlt,HbH.out,HOH.out,HmvH.out,HowH.out⟩
      case measure=>simp [intOf];omega
  obtain rfl:j=near.length:=by omega
  rw [List.take_length] at hbr hOr;obtain ⟨Hbr,HOr,Hmr,How⟩:=zh4 hbr hOr hmr how;clear hbr hOr hmr how
  go_wp2
  go_end0
  exact ⟨rfl,owr,⟨a,Hbr.out⟩,HOr.out,Hmr.out⟩
end
end Go.Proofs.YtaenebdppkjhoaaGreatDoor
