/- Lemmas. -/
import Derived.Test.YtebhabpahfmodaaGreatDoorZh30
import Derived.Test.YtebhabpahfmodaaGreatDoorZh29
import Derived.Test.YtebhabpahfmodaaGreatDoorZh33
set_option maxHeartbeats 40000000
set_option maxRecDepth 20000
namespace Go.Proofs.YtebhabpahfmodaaGreatDoor
open Go.RowKit
theorem X6:E7 Tryz.prog 22 28 8 104:=O8 zk zk
theorem b2Q:E7 Tryz.prog 24 87 7 72:=O8 zk zk
def a3s (w:World) (ow:Ow) (c d g:Nat) (rest:List Value) (t:TypeId) (L:List Lr) (p:PRu) (e:Ending) (w':World):Prop:=
 e= .returned (.int .i64 (a1B (L.map Prod.fst) p))/\∃(ow':Ow) (v':Value) (L':List Lr),M7 w' ow' c d g rest t v' L'/\L'.map Prod.fst=M5 (L.map Prod.fst) p/\Mov (fun t=>t=c\/t=d) w ow w' ow'
theorem M7.app {w0 w wz w6 w7:World} {ow:Ow} {c d g:Nat} {rest:List Value} {t:TypeId} {v v':Value} {L:List Lr} {x:Lr} (_hw:Owd w0 w ow) (h2:2<=c/\2<=d) (h:M7 w ow c d g rest t v L) (hz:Mod (fun _=>False) w wz)
 (hxo:j2 wz 87 7 x.ru.cv x.1.cs.length (m5 x.1.cs)) (hxb:∀b,x.ru.cv.ownBlock=some b->w.heap.size<=b) (fZ:x.1.fine)
 (hA:q5 wz 28 8 v (L.length+1) (rus (L.map Lr.ru)++x.ru.cells) v' w6) (h7:w7.heap[g]? =some (.cells (v'::rest).toArray t (0,0))) (bu:Mod (fun k=>k=g) w6 w7):
 ∃ow',M7 w7 ow' c d g rest t v' (L++[x])/\Mov (fun t=>t=c\/t=d) w ow w7 ow':=by
 obtain ⟨hA1,hA2,hA3⟩:=hA;have hgl:=(zz7 h.row).1;have hzs:=hz.size;have hsz:=hA2.size;have hs7:=bu.size;have hvb:∀b,v.ownBlock=some b->b<w.heap.size:=fun b hb=>h.sl.sl.lt b hb;have fQ:Mod (l5 v) w w6:=(hz.mono (fun _ _ h=>h.elim)).trans hA2 (fun b hb h=>h)
 have fF:Mod (fun k=>ow k=c\/ow k=d) w w7:=by
  refine (fQ.mono (fun k _ hk=> .inr (h.sl.vb k hk).1)).trans bu (fun k _ hk=> ?_);have hk':k=g:=hk;rw [hk'];exact .inl h.tag
 have fA:∀b,v'.ownBlock=some b->(v.ownBlock=some b/\b<w.heap.size)\/(wz.heap.size<=b/\b<w7.heap.size):=fun b hb=>by
  rcases hA3 with e|⟨k,e,hk⟩
  ·rw [e] at hb;exact .inl ⟨hb,hvb b hb⟩
  have:=hA1.lt b hb;rw [hb] at e;cases e
  exact .inr ⟨hk,zo⟩
 have hmv:Mov (fun t=>t=c\/t=d) w ow w7 (s6 w w7 ow (l5 v') (fun _=>True) d):=Mov.tag (.inr rfl) fF
 have JM:∀b,v'.ownBlock=some b->b≠g:=fun b hb=>by
  rcases fA b hb with h1|h1
  ·exact (h.sl.vb b h1.1).2
  omega
 refine ⟨_,⟨h7,by rw [p9 hgl];exact h.tag, ?_,fun b hb=>⟨?_,JM b hb⟩,fun q hq=> ?_⟩,hmv⟩
 ·rw [zz4,List.map_append,Z4];have e:rus ([x].map Lr.ru)=x.ru.cells:=by simp [rus]
  rw [e];exact hA1.mod bu (fun k hk e=>JM k hk e)
 ·rcases fA b hb with h1|h1
  ·rw [p9 h1.2];exact (h.sl.vb b h1.1).1
  exact G7 zo h1.2 hb
 rcases zz14 hq with hq|hq
 ·exact (h.sl.each q hq).mov hmv zo
 obtain rfl:=List.mem_singleton.1 hq;have hlt:=hxo.lt;have mI:∀b,q.ru.cv.ownBlock=some b->¬l5 v b/\b≠g:=fun b hb=>⟨fun h1=>by have:=hvb b h1;have:=hxb b hb;omega,by have:=hxb b hb;omega⟩;refine ⟨⟨((hxo.mod hA2 (fun b hb=>(mI b hb).1)).mod bu (fun b hb e=>(mI b hb).2 e)).rd,fun _ b hb=> ?_⟩,fZ⟩;refine a1H (hxb b hb) (by have:=hlt b hb;omega) (fun h1=> ?_) trivial;rcases fA b h1 with h3|h3
 ·have:=hxb b hb;omega
 have:=hlt b hb;omega
def a2t (g B:Nat) (s:Value) (k:PRu) (na:Option Addr) (nc:Nat) (y:World):Prop:=
 y.cell? ⟨g,0,none⟩=some s/\y.cell? ⟨B,0,none⟩=some (.int .i64 k.kind)/\y.cell? ⟨B,1,none⟩=some (.int .i64 k.tenant)/\y.cell? ⟨B,2,none⟩=some (.string k.who)/\y.cell? ⟨B,3,none⟩=some (.int .i64 k.broker)/\
  y.cell? ⟨B,4,none⟩=some (.string k.sc)/\y.cell? ⟨B,5,none⟩=some (.slice na k.cs.length nc)/\y.cell? ⟨B,6,none⟩=some (.string k.name)/\y.cell? ⟨B,7,none⟩=some (.int .i64 k.at_)
theorem a2t.mod {g B:Nat} {s:Value} {k:PRu} {na:Option Addr} {nc:Nat} {y z:World} {F:Nat->Prop} (h:a2t g B s k na nc y) (hm:Mod F y z) (h1:¬F g) (h2:¬F B):a2t g B s k na nc z:=by
 obtain ⟨a0,a1,a2,a3,a4,a5,a6,a7,a8⟩:=h;exact ⟨hm.cell a0 h1,hm.cell a1 h2,hm.cell a2 h2,hm.cell a3 h2,hm.cell a4 h2,hm.cell a5 h2,hm.cell a6 h2,hm.cell a7 h2,hm.cell a8 h2⟩
theorem a2t.at {g B:Nat} {s:Value} {k:PRu} {na:Option Addr} {nc:Nat} {y:World} {t:TypeId} {cs:List Value} (h1:y.heap[g]? =some (.cells (s::cs).toArray t (0,0))) (h2:y.heap[B]? =some (.cells (k.lies na nc).cells.toArray 28 (0,0))):a2t g B s k na nc y:=
 ⟨d6 h1 rfl,d6 h2 rfl,d6 h2 rfl,d6 h2 rfl,d6 h2 rfl,d6 h2 rfl,d6 h2 rfl,d6 h2 rfl,d6 h2 rfl⟩
theorem a9J (w0 w:World) (ow:Ow) (c d g:Nat) (rest:List Value) (t:TypeId) (v:Value) (L:List Lr) (hw:Owd w0 w ow) (h2:2<=c/\2<=d) (h:M7 w ow c d g rest t v L) (hll:L.length<=40) (p:PRu) (ra:Option Addr) (rc:Nat)
 (hx:j3 w 7 (.slice ra p.cs.length rc) p.cs.length (m5 p.cs)) (hf:p.fine):
 Calls Tryz.prog 26 #[.pointer (some ⟨g,0,none⟩),.agg (p.lies ra rc).cells.toArray] w (a3s w ow c d g rest t L p):=by
 obtain ⟨a,cap,rfl,hcap⟩:∃a cc,v= .slice a L.length cc/\L.length<=cc:=by obtain ⟨-,a,cc,h,h2, -⟩:=h.sl.sl.rd;exact ⟨a,cc,h,h2⟩
 have fE:=h.sl.ru;have kN:(L.map Lr.ru).length=L.length:=zz10 _;rw [<-kN] at fE;obtain ⟨wa,aD,ah,ae,au⟩:=g8 w (.cells (p.lies ra rc).cells.toArray 28);have hgl:=(zz7 h.row).1;have c0:w.cell? ⟨g,0,none⟩=some (.slice a (L.map Lr.ru).length cap):=by rw [kN];exact d6 h.row rfl
 have hch:=b2z wa g a cap (L.map Lr.ru) (ah.cell c0 id) (fE.mod ah) zo (p.lies ra rc) (hf.ok (hx.mod ah zi));rw [a9B,show (p.lies ra rc).pru=p from rfl] at hch;obtain ⟨R,hR⟩:∃R,a1B (L.map Prod.fst) p=R:=⟨_,rfl⟩;unfold a3s;rw [hR] at hch⊢;have hnm:=h.sl.sl;obtain ⟨Hw,H,xu,Gx,HR,aF,aB,aH,Hx,Hf⟩:=zh10 hw h fE hch hR aD ah ae hx hf;clear hw h fE hch hR aD ah ae hx hf hnm
 go_enter Tryz.func26,Tryz.ntmps26
 go_wp2_with (first|(rw [show w.alloc _=wa from aF.out])|((with_reducible refine d8 28 (.tmp 3) ?_);refine ⟨w.heap.size,0,rfl,(p.lies ra rc).cells,e9.row aH.out,zk,zk, ?_⟩))
 refine Gx.out.mono ?_;rintro e w1 ⟨rfl,hm1⟩;have bE:=aB.out.trans hm1 zi;have hg1:=hm1.heap aH.out id;by_cases hR0:R=0;rotate_left
 ·have hadd:M5 (L.map Prod.fst) p=L.map Prod.fst:=by unfold M5;rw [HR.out,if_neg hR0]
  obtain ⟨bF,gG,lJ,dB⟩:=zh4 bE hadd hg1 hm1;clear bE hadd hg1 hm1
  go_wp2
  go_ret;exact ⟨rfl,ow,.slice a L.length cap,L,H.out.mov (Mov.of Hw.out bF.out (fun _=>False)) id id id,gG.out.symm,Mov.of Hw.out bF.out _⟩
 have hadd:M5 (L.map Prod.fst) p=L.map Prod.fst++[p.kept]:=by unfold M5;rw [HR.out,if_pos hR0]
 subst hR0;have e4:w1.cell? ⟨w.heap.size,4,none⟩=some (.string p.sc):=d6 hg1 rfl;have e5:w1.cell? ⟨w.heap.size,5,none⟩=some (.slice ra p.cs.length rc):=d6 hg1 rfl;have hx1:=Hx.out.mod bE zi;have hfr:=I8 w1 p.sc (.slice ra p.cs.length rc) p.cs hx1 (by have:=Hf.out.len;omega) (by have:=Hf.out.sc;omega) (fun q hq=>by have:=(Hf.out.cs q hq).name;omega);have hzw:w.heap.size<wa.heap.size:=zo
 obtain ⟨bF,gG,lJ,dB,BB,bB⟩:=zh6 bE hadd hg1 hm1 hx1 hfr;clear bE hadd hg1 hm1 hx1 hfr au
 go_wp2_with fail
 refine bB.out.mono ?_;rintro e w2 ⟨rfl,hm2⟩;have aG:=bF.out.trans hm2 zi;have hg2:=hm2.heap lJ.out id;have hx2:=BB.out.mod hm2 zi;have e4:w2.cell? ⟨w.heap.size,4,none⟩=some (.string p.sc):=d6 hg2 rfl;have e5:w2.cell? ⟨w.heap.size,5,none⟩=some (.slice ra p.cs.length rc):=d6 hg2 rfl
 cases eZ:l9 p.sc p.cs with
 | true=>
  have hfl:=C7 eZ;have hkp:p.kept={p with cs:=j4 p.cs}:=by unfold PRu.kept;rw [if_pos eZ]
  have hnr:=Y7 w0 w2 (Hw.out.laid.mod0 aG) p.sc (.slice ra p.cs.length rc) p.cs hx2 zo Hf.out.cs;obtain ⟨nl,hnl⟩:∃nl,j4 p.cs=nl:=⟨_,rfl⟩;rw [hnl] at hnr hkp;obtain ⟨aI,uR,WV,dx,uV,Jt,Hnl,FM,bq⟩:=zh9 aG hg2 hx2 hfl hkp hnr hnl eZ hm2;clear aG hg2 hx2 hfl hkp hnr hnl eZ hm2
  go_wp2_with fail
  refine Jt.out.mono ?_;rintro e w3 ⟨na,nc,rfl,hno,hnb,aC⟩;have aS:=aI.out.trans aC zi;have hg3:=aC.heap uR.out id;have qK:=Lib.hid (aI.out.size);obtain ⟨k,hk⟩:∃k:PRu,{p with cs:=nl}=k:=⟨_,rfl⟩;have hkk:p.kept=k:=uV.out.trans hk;have dG:k.fine:=by rw [<-hkk];exact Hf.out.kept
  have hkc:k.kind=p.kind/\k.tenant=p.tenant/\k.who=p.who/\k.broker=p.broker/\k.sc=p.sc/\k.cs=nl/\k.name=p.name/\k.at_=p.at_:=by subst hk;exact ⟨rfl,rfl,rfl,rfl,rfl,rfl,rfl,rfl⟩
  have WW:=hno;obtain ⟨aP,gm,Hno,gM,bA,xH,mq,Hk⟩:=zh8 aS hg3 hno hnb aC hkk dG hk;clear aS hg3 hno hnb aC hkk dG hk
  go_wp2_with ((with_reducible refine s5 26 (.tmp 18) (.tmp 17) ?_);refine ⟨w.heap.size,4,rfl,_,_,gm.out,[.string p.sc,.slice na nl.length nc],rfl,Nat.le_of_ble_eq_true rfl,zk,rfl, ?_⟩;intro w5 WX aW;have hg5:w5.heap[w.heap.size]? =some (.cells ([.int .i64 p.kind,.int .i64 p.tenant,.string p.who,.int .i64 p.broker,.string p.sc,.slice na nl.length nc,.string p.name,.int .i64 p.at_]:List Value).toArray 28 (0,0)):=WX▸setRow_heap w3 w.heap.size _ _ _ _ gm.out;have JN:=Lib.hid hg5;have fJ:=Lib.hid aW;clear WX hg5 aW)
  have hg5:w5.heap[w.heap.size]? =some (.cells (k.lies na nc).cells.toArray 28 (0,0)):=by rw [<-Hk.out];exact JN.out
  have bH:Mod (fun _=>False) w w5:=aP.out.upon fJ.out (fun b hb=> .inr (Nat.le_of_eq (Eq.symm hb)))
  have jI:j2 w5 87 7 (.slice na k.cs.length nc) k.cs.length (m5 k.cs):=by
   rw [hkc.2.2.2.2.2.1];exact Hno.out.mod fJ.out (fun b hb e=>by have h1:=gM.out b hb;have h3:b=w.heap.size:=e;have h4:=(zz7 uR.out).1;omega)
  have rO:∀b,(Value.slice na k.cs.length nc).ownBlock=some b->w.heap.size<=b:=by
   rw [hkc.2.2.2.2.2.1];exact fun b hb=>Nat.le_trans qK.out (gM.out b hb)
  obtain ⟨gM,je,bO,oZ⟩:=zh4 rO hg5 bH jI;clear hg5 bH jI rO hkc;clear JN;have iJ:=bO.out.heap H.out.row id;have hone:∀u∈(k.lies na nc).cells,u.oneCell'=true:=fun u hu=>zz15 (show (k.lies na nc).cells.all (·.oneCell')=true from rfl) u hu;have sK:=H.out.sl.sl.mod bO.out zi;have hlp:L.length<=40:=hll;have hS:a2t g w.heap.size (.slice a L.length cap) k na nc w5.drew:=a2t.at (y:=w5.drew) iJ je.out;have hs5:=bO.out.size;obtain ⟨sM,aX,CP,Hs5⟩:=zh4 iJ hone sK hs5;clear iJ hone sK hs5;refine i8 [.rd 0,.rd 1,.rd 2,.rd 3,.rd 4,.rd 5,.go 6,.go 7,.go 8,.go 9,.go 10] [0,1,2,3,4,5,6] (a2t g w.heap.size (.slice a L.length cap) k na nc) zk zk (fun _ _ d _ _ h=>(by cases d<;>exact h)) ?_
  iterate 6 (
   refine n4 rfl ?_ (fun _=>hS) ?_ (fun w0 h0=> ?_) (fun K hK=> ?_)
   ·exact zg
   rotate_left
   ·(try simp only [zz1,zz2,zz3])
    first
     |(obtain ⟨f0,f1,f2,f3,f4,f5,f6,f7,f8⟩:=h0 rfl;clear h0;go_simp;with_reducible rfl)
     |(clear h0;go_simp;with_reducible rfl)
   (try simp only [zz1,zz2,zz3])
   go_simp;refine hK _ ?_;clear hK K)
  refine i6 (j0 rfl ?_ (fun K hK=> ?_))
  ·exact zg
  (try simp only [zz1,zz2,zz3]);obtain ⟨wT,hwT,bC,eQ,eT⟩:=g8 w5.drew (.cells (k.lies na nc).cells.toArray 28);have dK:w5.drew.alloc (.cells #[.int .i64 k.kind,.int .i64 k.tenant,.string k.who,.int .i64 k.broker,.string k.sc,.slice na k.cs.length nc,.string k.name,.int .i64 k.at_] 28)=wT:=hwT;go_simp;refine hK _ _ (fun _ h=>h.mod bC id id) ?_;clear hK K hS;have bP:j3 wT 8 (.slice (some ⟨w5.heap.size,0,none⟩) 1 1) 1 (k.lies na nc).cells:=hwT▸j3.one w5.drew (k.lies na nc).cells 28 rfl;have fU:Mod (fun _=>False) w5 wT:=((Mod.refl (fun _=>False) w5).drew).trans bC zi;have eY:=CP.out.mod fU zi;have sN:=oZ.out.mod fU zi;have iK:=bO.out.trans fU zi;refine i6 (j0 rfl ?_ (fun K hK=> ?_))
  ·exact zg
  (try simp only [zz1,zz2,zz3]);refine C6 (.tmp 29) (.tmp 31) 22 rfl 28 8 104 X6 (.slice a L.length cap) L.length (rus (L.map Lr.ru)) rfl eY (.slice (some ⟨w5.heap.size,0,none⟩) 1 1) 1 (k.lies na nc).cells rfl bP aX.out zo (by unfold maxLen;omega) (fun ad cap2 w6 hA=> ?_);refine hK _ _ (fun h=>absurd h zd) ?_;clear hK K;have mJ:¬l5 (.slice a L.length cap) g:=fun h=>(H.out.sl.vb g h).2 rfl;have bZ:=hA.2.1.heap (fU.heap sM.out id) mJ;have k6:w6.cell? ⟨g,0,none⟩=some (.slice a L.length cap):=d6 bZ rfl;have f6:w6.frozen? ⟨g,0,none⟩=false:=J1 bZ;obtain ⟨HA,gU,Rs,CQ,CR,mK,kK,Rt⟩:=zh8 hA bZ fU eY sN iK bP mJ;clear hA bZ fU eY sN iK bP mJ hwT bC eQ dK eT;refine i6 (j0 rfl ?_ (fun K hK=> ?_))
  ·exact zg
  (try simp only [zz1,zz2,zz3]);go_simp;refine hK _ _ (fun h=>absurd h zd) ?_;clear hK K;refine i6 (j0 rfl ?_ (fun K hK=> ?_))
  ·exact zg
  (try simp only [zz1,zz2,zz3]);go_simp;refine hK _ _ (fun h=>absurd h zd) ?_;clear hK K;refine i6 (j0 rfl ?_ (fun K hK=> ?_))
  ·exact zg
  (try simp only [zz1,zz2,zz3]);go_simp;refine hK _ _ (fun h=>absurd h zd) ?_;clear hK K;refine m6 ?_;obtain ⟨w7,hw7⟩:∃w7:World,w6.setCell ⟨g,0,none⟩ (.slice ad (L.length+1) cap2)=w7:=⟨_,rfl⟩;have bu:Mod (fun k=>k=g) w6 w7:=hw7▸(Mod.refl (fun k=>k=g) w6).setCell (fun _=>rfl) _
  have dM:w7.heap[g]? =some (.cells (.slice ad (L.length+1) cap2::rest).toArray t (0,0)):=by
   rw [<-hw7];have:=o6 (i:=0) (v:= .slice ad (L.length+1) cap2) gU.out;simpa using this
  obtain ⟨ow',aV,hmov⟩:=M7.app (x:=(k,na,nc)) Hw.out h2 H.out mK.out CR.out gM.out mq.out HA.out dM bu;rw [hw7];obtain ⟨nQ,mM,iL,CS,vC⟩:=zh5 bu dM aV hmov hw7;clear bu dM aV hmov hw7
  go_wp2_with fail
  go_ret;exact ⟨rfl,ow',_,_,iL.out,by rw [List.map_append,gG.out,xH.out];rfl,CS.out⟩
 | false=>
  have hkk:p.kept=p:=by unfold PRu.kept;rw [eZ];rfl
  have dG:p.fine:=Hf.out;have hlc:=Hf.out.len;have zJ:=b2x p.cs;obtain ⟨aI,uR,WV,xH,mq,bq,JO,FM⟩:=zh8 aG hg2 hx2 hkk dG hm2 zJ eZ;clear aG hg2 hx2 hkk dG hm2 zJ eZ
  go_wp2_with ((with_reducible refine l0 (.const (.slice none 0 0)) (.tmp 21) 24 ?_);refine ⟨rfl,87,7,72,b2Q,.slice none 0 0,0,[],rfl,j2.nil _ _ _,_,p.cs.length,m5 p.cs,rfl,WV.out,JO.out,zo,by unfold maxLen;omega, ?_⟩;intro na nc w3 hA;rw [Nat.zero_add] at*;rw [List.nil_append] at hA;have dL:Mod (fun _=>False) w2 w3:=hA.2.1.mono (fun _ _ h=>by cases h);have hg3:=dL.heap uR.out id;have k3:w3.cell? ⟨w.heap.size,5,none⟩=some (.slice ra p.cs.length rc):=d6 hg3 rfl;have f3:w3.frozen? ⟨w.heap.size,5,none⟩=false:=J1 hg3;have eH:=Lib.hid hA;have oO:=Lib.hid dL;have gm:=Lib.hid hg3;clear hA dL hg3)
  obtain ⟨k,hk⟩:∃k:PRu,p=k:=⟨_,rfl⟩;obtain ⟨w5,gN⟩:∃w5:World,w3.setCell ⟨w.heap.size,5,none⟩ (.slice na p.cs.length nc)=w5:=⟨_,rfl⟩;have jg:Mod (fun k=>k=w.heap.size) w3 w5:=gN▸(Mod.refl (fun k=>k=w.heap.size) w3).setCell (fun _=>rfl) _;have bH:Mod (fun _=>False) w w5:=(aI.out.trans oO.out zi).upon jg (fun b hb=> .inr (Nat.le_of_eq (Eq.symm hb)))
  have hg5:w5.heap[w.heap.size]? =some (.cells (p.lies na nc).cells.toArray 28 (0,0)):=by
   rw [<-gN];have:=o6 (i:=5) (v:= .slice na p.cs.length nc) gm.out;simpa [PRu.lies,Ru.cells] using this
  have hnb:∀b,(Value.slice na p.cs.length nc).ownBlock=some b->w2.heap.size<=b:=fun b hb=>by
   rcases eH.out.2.2 with e|⟨q,e,hq⟩
   ·rw [e] at hb;cases hb
   rw [e] at hb;cases hb;exact hq
  have hs2:=aI.out.size;have b7E:=(zz7 uR.out).1;have jI:j2 w5 87 7 (.slice na p.cs.length nc) p.cs.length (m5 p.cs):=eH.out.1.mod jg (fun b hb e=>by have h1:=hnb b hb;have h3:b=w.heap.size:=e;omega);have gM:=Lib.hid (show∀b,(Value.slice na p.cs.length nc).ownBlock=some b->w.heap.size<=b from fun b hb=>Nat.le_trans hs2 (hnb b hb));rw [gN];clear hk k hnb;obtain ⟨k,rfl⟩:∃k:PRu,k=p:=⟨_,rfl⟩;obtain ⟨qA,b7F,bO,je,oZ,qK⟩:=zh6 gN jg bH hg5 jI hs2;clear gN jg bH hg5 jI hs2
  go_wp2_with fail
  have iJ:=bO.out.heap H.out.row id;have hone:∀u∈(k.lies na nc).cells,u.oneCell'=true:=fun u hu=>zz15 (show (k.lies na nc).cells.all (·.oneCell')=true from rfl) u hu;have sK:=H.out.sl.sl.mod bO.out zi;have hlp:L.length<=40:=hll;have hS:a2t g w.heap.size (.slice a L.length cap) k na nc w5.drew:=a2t.at (y:=w5.drew) iJ je.out;have hs5:=bO.out.size;obtain ⟨sM,aX,CP,Hs5⟩:=zh4 iJ hone sK hs5;clear iJ hone sK hs5;refine i8 [.rd 0,.rd 1,.rd 2,.rd 3,.rd 4,.rd 5,.go 6,.go 7,.go 8,.go 9,.go 10] [0,1,2,3,4,5,6] (a2t g w.heap.size (.slice a L.length cap) k na nc) zk zk (fun _ _ d _ _ h=>(by cases d<;>exact h)) ?_
  iterate 6 (
   refine n4 rfl ?_ (fun _=>hS) ?_ (fun w0 h0=> ?_) (fun K hK=> ?_)
   ·exact zg
   rotate_left
   ·(try simp only [zz1,zz2,zz3])
    first
     |(obtain ⟨f0,f1,f2,f3,f4,f5,f6,f7,f8⟩:=h0 rfl;clear h0;go_simp;with_reducible rfl)
     |(clear h0;go_simp;with_reducible rfl)
   (try simp only [zz1,zz2,zz3])
   go_simp;refine hK _ ?_;clear hK K)
  refine i6 (j0 rfl ?_ (fun K hK=> ?_))
  ·exact zg
  (try simp only [zz1,zz2,zz3]);obtain ⟨wT,hwT,bC,eQ,eT⟩:=g8 w5.drew (.cells (k.lies na nc).cells.toArray 28);have dK:w5.drew.alloc (.cells #[.int .i64 k.kind,.int .i64 k.tenant,.string k.who,.int .i64 k.broker,.string k.sc,.slice na k.cs.length nc,.string k.name,.int .i64 k.at_] 28)=wT:=hwT;go_simp;refine hK _ _ (fun _ h=>h.mod bC id id) ?_;clear hK K hS;have bP:j3 wT 8 (.slice (some ⟨w5.heap.size,0,none⟩) 1 1) 1 (k.lies na nc).cells:=hwT▸j3.one w5.drew (k.lies na nc).cells 28 rfl;have fU:Mod (fun _=>False) w5 wT:=((Mod.refl (fun _=>False) w5).drew).trans bC zi;have eY:=CP.out.mod fU zi;have sN:=oZ.out.mod fU zi;have iK:=bO.out.trans fU zi;refine i6 (j0 rfl ?_ (fun K hK=> ?_))
  ·exact zg
  (try simp only [zz1,zz2,zz3]);refine C6 (.tmp 29) (.tmp 31) 22 rfl 28 8 104 X6 (.slice a L.length cap) L.length (rus (L.map Lr.ru)) rfl eY (.slice (some ⟨w5.heap.size,0,none⟩) 1 1) 1 (k.lies na nc).cells rfl bP aX.out zo (by unfold maxLen;omega) (fun ad cap2 w6 hA=> ?_);refine hK _ _ (fun h=>absurd h zd) ?_;clear hK K;have mJ:¬l5 (.slice a L.length cap) g:=fun h=>(H.out.sl.vb g h).2 rfl;have bZ:=hA.2.1.heap (fU.heap sM.out id) mJ;have k6:w6.cell? ⟨g,0,none⟩=some (.slice a L.length cap):=d6 bZ rfl;have f6:w6.frozen? ⟨g,0,none⟩=false:=J1 bZ;obtain ⟨HA,gU,Rs,CQ,CR,mK,kK,Rt⟩:=zh8 hA bZ fU eY sN iK bP mJ;clear hA bZ fU eY sN iK bP mJ hwT bC eQ dK eT;refine i6 (j0 rfl ?_ (fun K hK=> ?_))
  ·exact zg
  (try simp only [zz1,zz2,zz3]);go_simp;refine hK _ _ (fun h=>absurd h zd) ?_;clear hK K;refine i6 (j0 rfl ?_ (fun K hK=> ?_))
  ·exact zg
  (try simp only [zz1,zz2,zz3]);go_simp;refine hK _ _ (fun h=>absurd h zd) ?_;clear hK K;refine i6 (j0 rfl ?_ (fun K hK=> ?_))
  ·exact zg
  (try simp only [zz1,zz2,zz3]);go_simp;refine hK _ _ (fun h=>absurd h zd) ?_;clear hK K;refine m6 ?_;obtain ⟨w7,hw7⟩:∃w7:World,w6.setCell ⟨g,0,none⟩ (.slice ad (L.length+1) cap2)=w7:=⟨_,rfl⟩;have bu:Mod (fun k=>k=g) w6 w7:=hw7▸(Mod.refl (fun k=>k=g) w6).setCell (fun _=>rfl) _
  have dM:w7.heap[g]? =some (.cells (.slice ad (L.length+1) cap2::rest).toArray t (0,0)):=by
   rw [<-hw7];have:=o6 (i:=0) (v:= .slice ad (L.length+1) cap2) gU.out;simpa using this
  obtain ⟨ow',aV,hmov⟩:=M7.app (x:=(k,na,nc)) Hw.out h2 H.out mK.out CR.out gM.out mq.out HA.out dM bu;rw [hw7];obtain ⟨nQ,mM,iL,CS,vC⟩:=zh5 bu dM aV hmov hw7;clear bu dM aV hmov hw7
  go_wp2_with fail
  go_ret;exact ⟨rfl,ow',_,_,iL.out,by rw [List.map_append,gG.out,xH.out];rfl,CS.out⟩
def atR (l:List Ru) (n:Nat):List Ru:=(l.take n).zipIdx.filterMap fun q=>if decide (q.1.kind=4)||D3 (l.map Ru.pru) q.2 n then none else some q.1
theorem a4J {α β:Type} (f:α->β) (l:List α) (k:Nat) (p:β->Nat->Bool):((l.zipIdx k).filterMap fun q=>if p (f q.1) q.2 then none else some q.1).map f=((l.map f).zipIdx k).filterMap fun q=>if p q.1 q.2 then none else some q.1:=by
 induction l generalizing k with
 |nil=>rfl
 | cons a l ih=>
  rw [List.map_cons,List.zipIdx_cons,List.zipIdx_cons,List.filterMap_cons,List.filterMap_cons];cases h:p (f a) k
  ·simp only [Bool.false_eq_true,if_false,List.map_cons];rw [ih]
  simp only [if_true];exact ih (k+1)
theorem a3t (l:List Ru) (n:Nat):(atR l n).map Ru.pru=atP (l.map Ru.pru) n:=by
 unfold atR atP;rw [<-List.map_take];exact a4J Ru.pru (l.take n) 0 (fun r i=>decide (r.kind=4)||D3 (l.map Ru.pru) i n)
theorem a3u {l:List Ru} {n:Nat} {r:Ru} (h:r∈atR l n):r∈l:=by
 unfold atR at h;obtain ⟨q,h1,h2⟩:=List.mem_filterMap.1 h;split at h2
 ·cases h2
 ·cases h2
  obtain ⟨i,h3⟩:=List.mem_iff_getElem?.1 h1;rw [List.getElem?_zipIdx,Option.map_eq_some_iff] at h3;obtain ⟨a,h4,h5⟩:=h3;rw [<-h5];exact List.mem_of_mem_take (zz8 h4)
def atJ (l:List Ru) (n j:Nat):List Ru:=((l.take n).take j).zipIdx.filterMap fun q=>if decide (q.1.kind=4)||D3 (l.map Ru.pru) q.2 n then none else some q.1
theorem a69 {l:List Ru} {n j:Nat} {x:Ru} (h:(l.take n)[j]? =some x):atJ l n (j+1)=atJ l n j++if decide (x.kind=4)||D3 (l.map Ru.pru) j n then [] else [x]:=by
 unfold atJ;rw [List.take_add_one,h,Option.toList_some,List.zipIdx_append,List.filterMap_append];congr 1;have hl:((l.take n).take j).length=j:=by have:=(zz6 h).1;rw [List.length_take];omega
 rw [hl,Nat.zero_add];simp only [List.zipIdx_cons,List.zipIdx_nil,List.filterMap_cons,List.filterMap_nil];split<;>rename_i h1<;>split at h1<;>simp_all
theorem a5P (l:List Ru) {n:Nat} (hn:n<=l.length):atJ l n n=atR l n:=by
 unfold atJ atR;rw [List.take_of_length_le (by rw [List.length_take];omega)]
theorem a5Q (l:List Ru) (n j:Nat):(atJ l n j).length<=j:=by
 unfold atJ;refine Nat.le_trans (List.length_filterMap_le _ _) ?_;rw [List.length_zipIdx,List.length_take];omega
def a8F (w:World) (l:List Ru) (n:Nat) (e:Ending) (w':World):Prop:=
 ∃v,e= .returned v/\j2 w' 28 8 v (atR l n).length (rus (atR l n))/\(∀b,v.ownBlock=some b->w.heap.size<=b)/\Mod (fun _=>False) w w'
def O0 (vr:Int) (n:Nat):Nat:=(min (max vr 0) n).toNat
theorem b52 (w:World) (g:Nat) (a:Option Addr) (cap:Nat) (l:List Ru) (c0:w.cell? ⟨g,0,none⟩=some (.slice a l.length cap)) (hv:I9 w (.slice a l.length cap) l) (hll:l.length<=1000) (vr:Int):
 Calls Tryz.prog 35 #[.pointer (some ⟨g,0,none⟩),.int .i64 vr] w (a8F w l (O0 vr l.length)):=by
 have hcap:l.length<=cap:=by obtain ⟨-,a',c',h,h2, -⟩:=hv.rd;cases h;exact h2
 obtain ⟨n,hn⟩:∃n,O0 vr l.length=n:=⟨_,rfl⟩;have hnn:min (max vr 0) (l.length:Int)=n:=by unfold O0 at hn;omega
 have hnl:n<=l.length:=zo
 rw [hn];have bf:(n:Int)<=cap:=zo
 have hn0:(0:Int)<=n:=zo
 have hv2:=hv.take hnl;have hl2:(l.take n).length=n:=by rw [List.length_take];omega
 rw [show Value.slice a n cap=Value.slice a (l.take n).length cap by rw [hl2]] at hv2;obtain ⟨Hv,QE,Cf,Hn⟩:=zh4 hv hv2 hl2 hn;clear hv hv2 hl2 hn hcap
 go_enter Tryz.func35,Tryz.ntmps35
 go_wp2_with fail
 go_loopw [5,23] (fun ov i wr=>∃(j:Nat) (oa:Option Addr) (oc:Nat),i= .int .i64 j/\j<=n/\ov= .slice oa (atJ l n j).length oc/\j2 wr 28 8 (.slice oa (atJ l n j).length oc) (atJ l n j).length (rus (atJ l n j))/\(∀b,(Value.slice oa (atJ l n j).length oc).ownBlock=some b->w.heap.size<=b)/\Mod (fun _=>False) w wr) (fun _ i _=>n - (intOf i).toNat)
 case atStart=>exact ⟨0,none,0,rfl,Nat.zero_le _,rfl,j2.nil _ _ _,fun b hb=>(by cases hb),Mod.refl _ _⟩
 case round=>
  obtain ⟨j,oa,oc,rfl,hj,rfl,how,dW,hmr⟩:=hrel;by_cases hlt:j<n
  ·have hlt':(j:Int)<n:=zo
   obtain ⟨x,hxj⟩:∃x,(l.take n)[j]? =some x:=⟨_,zz5 (by rw [Cf.out];exact hlt)⟩;obtain ⟨g2,off,rfl,hf⟩:∃g2 off,a=some ⟨g2,off,none⟩/\e9 wr g2 (off+j*8) x.cells:=F1 (QE.out.mod hmr) hxj;obtain ⟨wz,hwz,ai,aj,aJ⟩:=g8 wr (.cells x.cells.toArray 28);have hmz:=hmr.trans ai zi;have hsu:=a69 hxj;have hjl:=a5Q l n j;obtain ⟨acc,hacc⟩:∃acc,atJ l n j=acc:=⟨_,rfl⟩;obtain ⟨nx,hnx⟩:∃nx,atJ l n (j+1)=nx:=⟨_,rfl⟩;obtain ⟨G,hG⟩:∃G,D3 (l.map Ru.pru) j n=G:=⟨_,rfl⟩;rw [hacc] at how dW hsu hjl⊢;rw [hnx,hG] at hsu;have CU:n<=1000:=zo
   have hgo:=a9C wz g (some ⟨g2,off,none⟩) cap l (hmz.cell c0 id) (Hv.out.mod hmz) hll j n hnl;rw [hG] at hgo;have dS:=how.mod ai zi;have k0:wz.cell? ⟨wr.heap.size,0,none⟩=some (.int .i64 x.kind):=d6 aj rfl;obtain ⟨aK,cB,Hf,bi,bn,aN,bG,dH,xw,iM,eF,dn⟩:=zh12 hmr hxj hf hwz ai aj hmz hsu hgo dS dW hnx;have kH:=zh hacc;clear hmr hxj hf hwz ai aj hmz hsu hgo dS dW hnx hacc aJ how;by_cases hk4:x.kind=4
   ·have hn2:nx=acc:=by rw [dH.out,decide_eq_true hk4];simp
    have hb4:(x.kind !=4)=false:=by simp [hk4]
    have jH:=zh hn2;clear hn2
    go_wp2_with (first|((with_reducible refine d8 28 (.tmp 26) ?_);refine ⟨g2,off+j*8,rfl,x.cells,Hf.out,zk,zk, ?_⟩)|((with_reducible refine d9 28 (.tmp 7) (.tmp 27) ?_);refine ⟨rfl,x.cells,rfl,rfl,zk,rfl, ?_⟩;rw [bi.out]))
    go_roundw
    case rel=>exact ⟨j+1,oa,oc,by go_num,hlt,by rw [dn.out,jH.out],by rw [dn.out,jH.out];exact iM.out,by rw [dn.out,jH.out];exact eF.out,bG.out⟩
    case measure=>simp [intOf];omega
   have hb4:(x.kind !=4)=true:=by simpa using hk4
   go_wp2_with (first|((with_reducible refine d8 28 (.tmp 26) ?_);refine ⟨g2,off+j*8,rfl,x.cells,Hf.out,zk,zk, ?_⟩)|((with_reducible refine d9 28 (.tmp 7) (.tmp 27) ?_);refine ⟨rfl,x.cells,rfl,rfl,zk,rfl, ?_⟩;rw [bi.out]))
   refine xw.out.mono ?_;rintro e w3 ⟨rfl,aC⟩;have aS:=bG.out.trans aC zi;have eu:=iM.out.mod aC zi;have hg3:=aC.heap aN.out id
   cases G with
   |true=>
    have hn2:nx=acc:=by rw [dH.out];simp
    obtain ⟨jH,aP,jh,gm,bA⟩:=zh5 hn2 aS eu hg3 aC;clear hn2 aS eu hg3 aC
    go_wp2_with fail
    go_roundw
    case rel=>exact ⟨j+1,oa,oc,by go_num,hlt,by rw [dn.out,jH.out],by rw [dn.out,jH.out];exact jh.out,by rw [dn.out,jH.out];exact eF.out,aP.out⟩
    case measure=>simp [intOf];omega
   | false=>
    have hn2:nx=acc++[x]:=by rw [dH.out,decide_eq_false hk4];rfl
    obtain ⟨wS,gP,bX,iE,iF⟩:=g8 w3 (.cells x.cells.toArray 28);have hrd:j3 wS 8 (.slice (some ⟨w3.heap.size,0,none⟩) 1 1) 1 x.cells:=gP▸j3.one w3 x.cells 28 rfl;have fw:w3.alloc (.cells #[.int .i64 x.kind,.int .i64 x.tenant,.string x.who,.int .i64 x.broker,.string x.sc,.slice x.ca x.cs.length x.cc,.string x.name,.int .i64 x.at_] 28)=wS:=gP;have hownS:=eu.mod bX zi;have kW:=aS.trans bX zi;have hone:∀u∈x.cells,u.oneCell'=true:=fun u hu=>zz15 (show x.cells.all (·.oneCell')=true from rfl) u hu;have hlen:nx.length=acc.length+1:=by rw [hn2];simp
    have sO:rus acc++x.cells=rus nx:=by rw [hn2,Z4,a1M];simp [rus]
    obtain ⟨iq,jG,gz,kX,aX,Hlen,CV,gm,aP,bA,jh⟩:=zh11 hrd fw hownS kW hone hlen sO hg3 aS aC eu;clear hrd fw hownS kW hone hlen sO hg3 aS aC eu gP bX iE iF hn2
    go_wp2_with (first|((with_reducible refine d8 28 (.tmp 7) ?_);refine ⟨wr.heap.size,0,rfl,[.int .i64 x.kind,.int .i64 x.tenant,.string x.who,.int .i64 x.broker,.string x.sc,.slice x.ca x.cs.length x.cc,.string x.name,.int .i64 x.at_],e9.row gm.out,zk,zk, ?_⟩)|(rw [show w3.alloc _=wS from jG.out])|((with_reducible refine l0 (.tmp 38) (.tmp 40) 22 ?_);refine ⟨rfl,28,8,104,X6,.slice oa acc.length oc,acc.length,rus acc,rfl,gz.out,_,1,x.cells,rfl,iq.out,aX.out,zo,by unfold maxLen;omega, ?_⟩;intro ad cap2 w4 hA;have HA:=Lib.hid hA;clear hA))
    have hown5:=HA.out.1;rw [CV.out,<-Hlen.out] at hown5
    have df:∀b,(Value.slice ad nx.length cap2).ownBlock=some b->w.heap.size<=b:=fun b hb=>by
     rw [Hlen.out] at hb;rcases HA.out.2.2 with h|⟨k,h,hk⟩
     ·exact eF.out b (by rw [<-h];exact hb)
     have h2:(Value.slice ad (acc.length+1) cap2).ownBlock=some b:=hb;rw [h] at h2;cases h2;have:=kX.out.size;omega
    have bH:Mod (fun _=>False) w w4:=kX.out.upon HA.out.2.1 (fun b hb=> .inr (eF.out b hb));obtain ⟨fo,dD,bO⟩:=zh3 hown5 df bH;clear hown5 df bH HA
    go_roundw
    case rel=>exact ⟨j+1,ad,cap2,by go_num,hlt,by rw [dn.out,Hlen.out],by rw [dn.out];exact fo.out,by rw [dn.out];exact dD.out,bO.out⟩
    case measure=>simp [intOf];omega
  obtain rfl:j=n:=zo
  have he:=a5P l hnl;rw [he] at how dW⊢;obtain ⟨How,eF,aK⟩:=zh3 how dW hmr;clear how dW hmr
  go_wp2
  go_ret;exact ⟨_,rfl,How.out,eF.out,aK.out⟩
def b2R (w:World) (ow:Ow) (c:Nat) (e:Ending) (w':World):Prop:=
 ∃g ow',e= .returned (.tuple #[.pointer (some ⟨g,0,none⟩),.int .i64 0])/\M7 w' ow' c c g [] 96 (.slice none 0 0) []/\Mov (fun t=>t=c) w ow w' ow'/\Mod (fun _=>False) w w'
theorem b0O (w0 w:World) (ow:Ow) (c:Nat) (hw:Owd w0 w ow) (_h2:2<=c):Calls Tryz.prog 25 #[.slice none 0 0] w (b2R w ow c):=by
 obtain ⟨wa,aD,ah,ae,au⟩:=g8 w (.cells #[.slice none 0 0] 96);have hmv:Mov (fun t=>t=c) w ow wa (r9 ow w.heap.size c):=aD▸Mov.alloc hw _ c (.inr (.inr rfl));have aV:M7 wa (r9 ow w.heap.size c) c c w.heap.size [] 96 (.slice none 0 0) []:=⟨ae,E3 _ _ _,⟨j2.nil _ _ _,fun b hb=>(by cases hb),fun x hx=>(by cases hx)⟩⟩;obtain ⟨aF,nS,iL,aB⟩:=zh4 aD hmv aV ah;clear aD hmv aV ah ae au
 go_enter Tryz.func25,Tryz.ntmps25
 go_wp2_with (rw [show w.alloc _=wa from aF.out])
 go_loopw [11] (fun i wr=>i= .int .i64 0/\wr=wa) (fun _ _=>0)
 case atStart=>exact ⟨rfl,rfl⟩
 case round=>
  obtain ⟨rfl,rfl⟩:=hrel
  go_wp2
  go_ret2
  exact ⟨w.heap.size,_,rfl,iL.out,nS.out,aB.out⟩
def b6G (g B:Nat) (s:Value) (k:PRu) (na:Option Addr) (nc:Nat) (y:World):Prop:=a2t g B s k na nc y
def F2 (L:List PRu) (at_:Int) (p:PRu):Bool:=decide (at_=L.length)&&decide (a1B L p=0)
def BS.learn (B:BS) (at_:Int) (p:PRu):BS:={B with L:=if F2 B.L at_ p then M5 B.L p else B.L}
def a2u {w0:World} {q:Nat} (O:B6 w0 q) (w:World) (ow:Ow) (c g:Nat) (id:Int) (near:List Int) (B:BS) (s:O.σ) (at_:Int) (p:PRu) (frm:Int) (e:Ending) (w':World):Prop:=
 e= .returned (.bool (F2 B.L at_ p))/\∃ow',Bro w' ow' c g id near (B.learn at_ p)/\O.inv w' ow' (O.sends s (if F2 B.L at_ p then L9 near frm at_ p else []))/\Mov (fun t=>(t=c\/t=c+17)\/O.tg t) w ow w' ow'
def b2S {w0:World} {q:Nat} (O:B6 w0 q) (wa:World) (ow:Ow) (c g:Nat) (id:Int) (near:List Int) (B:BS) (a:BAd) (s:O.σ) (at_:Int) (p:PRu) (frm:Int) (i:Value) (wr:World):Prop:=
 ∃(j:Nat) (owr:Ow),i= .int .i64 j/\j<=near.length/\J0 wr owr c g id near B a/\O.inv wr owr (O.sends s (L9 (near.take j) frm at_ p))/\Mov (fun t=>(t=c\/t=c+17)\/O.tg t) wa ow wr owr/\Owd w0 wr owr
theorem a7a {near:List Int} {j:Nat} {n:Int} (h:near[j]? =some n) (frm i:Int) (p:PRu):L9 (near.take (j+1)) frm i p=L9 (near.take j) frm i p++if n==frm then [] else [(n, -1,Mg.pol i p)]:=by
 unfold L9;rw [List.take_add_one,h,Option.toList_some,List.filter_append,List.map_append];congr 1;by_cases e:n=frm
 ·subst e;simp
 have:(n==frm)=false:=by simpa using e
 simp [this]
theorem a1n (near:List Int) (frm i:Int) (p:PRu):(L9 near frm i p).length<=near.length:=by
 unfold L9;rw [zz10];exact List.length_filter_le _ _
theorem J0.logged {w0 w w':World} {ow ow':Ow} {c g:Nat} {id:Int} {near:List Int} {B:BS} {a:BAd} (h:J0 w ow c g id near B a) (hw:Owd w0 w ow) (s:Mov (fun t=>t=c\/t=c+17) w ow w' ow') {v':Value} {L':List Lr} {P:List PRu} (hl:M7 w' ow' c (c+17) g (a.rest id) 100 v' L') (hp:L'.map Prod.fst=P):J0 w' ow' c g id near {B with L:=P} {a with v:=v'}:=by
 have hc:=h.c2;exact ⟨h.c2,⟨L',hl,hp⟩,h.near.mov s zo zo,fun t ht=>(h.rea t ht).mov hw s zo ⟨zo,zo,zo,zo⟩ h.c2⟩
theorem a7b (w0 w:World) (ow:Ow) (c g:Nat) (id:Int) (near:List Int) (B:BS) (hw:Owd w0 w ow) (h:Bro w ow c g id near B) (hL:B.L.length<=40) (q:Nat) (O:B6 w0 q) (s:O.σ) (hO:O.inv w ow s) (jy:∀t,O.tg t->t<c\/c+18<=t)
 (hcnt:O.cnt s+near.length<=400000000000) (hnl:near.length<=1000) (hto:∀n∈near,O.okTo n (-1)) (at_:Int) (p:PRu) (ra:Option Addr) (rc:Nat) (hx:a3c w ow (p,ra,rc)) (frm:Int):
 Calls Tryz.prog 19 #[.pointer (some ⟨g,0,none⟩),.iface 51 (.pointer (some ⟨q,0,none⟩)),.int .i64 at_,.agg (p.lies ra rc).cells.toArray,.int .i64 frm] w (a2u O w ow c g id near B s at_ p frm):=by
 obtain ⟨a,h⟩:=h;obtain ⟨L,aV,xI⟩:=h.log;have kN:L.length=B.L.length:=by rw [<-xI,zz10]
 obtain ⟨av,acap,kg,sP⟩:∃a' cc,a.v= .slice a' L.length cc/\L.length<=cc:=by obtain ⟨-,a,cc,h,h2, -⟩:=aV.sl.sl.rd;exact ⟨a,cc,h,h2⟩
 rw [kg] at aV;obtain ⟨wa,aD,ah,ae,au⟩:=g8 w (.cells (p.lies ra rc).cells.toArray 28);have hgl:=(zz7 aV.row).1;have hgg:=ah.heap aV.row (fun h=>h);have mO:Mov (fun _=>False) w ow wa ow:=Mov.of hw ah _;have xJ:=mO.owd hw (fun h=>h);have vB:J0 wa ow c g id near B a:=h.mov hw mO (fun h=>h) (fun _ h=>h.elim);have sQ:=aV.mov mO (fun h=>h) (fun h=>h) (fun h=>h);have WY:=O.mov hO hw mO (fun h=>h) (fun _ h=>h.elim);have hxa:=hx.mov mO (fun h=>h);have hlen:=fun (wx:World) (hx:Mod (fun _=>False) wa wx)=>a3r wx g av L.length acap (hx.cell (d6 hgg rfl) (fun h=>h));have hzw:w.heap.size<wa.heap.size:=zo
 have hB0:ow w.heap.size=0:=hw.zero (Nat.le_refl _);have hc2:=h.c2;have WZ:=hO
 have hadd:∀wx,Mod (fun _=>False) wa wx->Calls Tryz.prog 26 #[.pointer (some ⟨g,0,none⟩),.agg (p.lies ra rc).cells.toArray] wx (a3s wx ow c (c+17) g (a.rest id) 100 L p):=fun wx hm=>by
  have hmv:=Mov.of xJ hm (fun _=>False);exact a9J w0 wx ow c (c+17) g (a.rest id) 100 (.slice av L.length acap) L (hmv.owd xJ (fun h=>h)) ⟨hc2,zo⟩ (sQ.mov hmv (fun h=>h) (fun h=>h) (fun h=>h)) zo p ra rc ((hxa.mov hmv (fun h=>h)).cs.rd) hx.fine
 have b7G:L.length<=40:=zo
 obtain ⟨Hw,H,iL,Fy,aF,aB,aH,Rv,JP,NQ,Xa,HOa⟩:=zh12 hw h aV kg aD ah ae hgg mO vB sQ WY;obtain ⟨Hxa,Hlen,CW,kw,HB0,Hx,Xb,vD,HO0,gG,NP⟩:=zh11 hxa hlen xJ jy hB0 hx xI hto WZ hadd kN;clear hw h aV kg aD ah ae hgg mO vB sQ WY hxa hlen xJ jy hB0 hx xI hto WZ hadd kN au hO sP hL;by_cases hat:at_=L.length;rotate_left
 ·have hok:F2 B.L at_ p=false:=by unfold F2;rw [decide_eq_false (by rw [<-NP.out];exact hat),Bool.false_and]
  have hb1:(at_ !=(L.length:Int))=true:=by simpa using hat
  have hpl:∀wx,Mod (fun _=>False) wa wx->Calls Tryz.prog 31 #[.pointer (some ⟨g,0,none⟩)] wx fun e w'=>e= .returned (.int .i64 L.length)/\Mod (fun _=>False) wa w':=fun wx hx=>(Hlen.out wx hx).mono fun e w' ⟨he,hm⟩=>⟨he,hm▸hx⟩;obtain ⟨eP,Hpl⟩:=zh2 hok hpl;clear hok hpl
  go_enter Tryz.func19,Tryz.ntmps19
  go_wp2_with (rw [show w.alloc _=wa from aF.out])
  refine i7 zk zk ?_
  iterate 14 (first
   | (refine j6 ?_ (fun K hK=> ?_)
      ·first|(go_simp;done)|(go_simp;simp [undef];done)
      go_simp;refine hK _ ?_;clear hK K)
   | (refine j7 ?_ ?_ (fun w' hw'=> ?_) (fun K hK=> ?_)
      ·first|(go_simp;done)|(go_simp;simp [undef];done)
      rotate_left
      ·skip
       go_simp;rfl
      go_simp;refine hK _ ?_;clear hK K)
   | (refine m9 ?_ ?_ ?_ ?_ (fun w' hw'=> ?_) ?_ (fun K hK=> ?_)
      ·first|(go_simp;done)|(go_simp;simp [undef];done)
      rotate_left 3
      ·skip
       go_simp;constructor<;>rfl
      ·first|with_reducible exact Hpl.out
      go_simp;refine hK _ ?_;clear hK K))
  refine j8 (fun w' hw'=> ?_);have hmx:Mod (fun _=>False) w w':=aB.out.trans hw' zi;have qB:=zh hmx;clear hmx hw'
  go_wp2
  go_ret;refine ⟨by rw [eP.out];rfl,ow,⟨a, ?_⟩, ?_,Mov.of Hw.out qB.out _⟩
  ·unfold BS.learn;rw [eP.out];exact H.out.mov Hw.out (Mov.of Hw.out qB.out (fun _=>False)) (fun h=>h) (fun _ h=>h.elim)
  rw [eP.out];exact O.mov HO0.out Hw.out (Mov.of Hw.out qB.out (fun _=>False)) (fun h=>h) (fun _ h=>h.elim)
 subst hat;obtain ⟨R,hR⟩:∃R,a1B B.L p=R:=⟨_,rfl⟩;have hS:b6G g w.heap.size (.slice av L.length acap) p ra rc wa.drew:=a2t.at (y:=wa.drew) Rv.out aH.out;have HR:=zh hR;clear hR
 go_enter Tryz.func19,Tryz.ntmps19
 go_wp2_with (rw [show w.alloc _=wa from aF.out])
 refine i8 [.rd 0,.rd 1,.rd 2,.rd 3,.go 4,.rd 5,.rd 6,.rd 7,.rd 8,.rd 9,.rd 10,.go 11,.go 12,.go 13] [0,1,2,3,4,5,6,7,8,9,10] (b6G g w.heap.size (.slice av L.length acap) p ra rc) zk zk (fun _ _ d _ _ h=>(by cases d<;>exact h)) ?_
 iterate 4 (
  refine n4 rfl ?_ (fun _=>hS) ?_ (fun w0 h0=> ?_) (fun K hK=> ?_)
  ·exact zg
  rotate_left
  ·(try simp only [zz1,zz2,zz3])
   first
    |(obtain ⟨f0,f1,f2,f3,f4,f5,f6,f7,f8⟩:=h0 rfl;clear h0;go_simp;with_reducible rfl)
    |(clear h0;go_simp;with_reducible rfl)
  (try simp only [zz1,zz2,zz3])
  go_simp;refine hK _ ?_;clear hK K)
 refine i6 (j0 rfl ?_ (fun K hK=> ?_))
 ·exact zg
 go_wp2_with fail
 refine (Hlen.out wa.drew ((Mod.refl _ wa).drew)).mono ?_;rintro e w1 ⟨rfl,rfl⟩;refine hK _ _ (fun _ h=>h) ?_;clear hK K
 iterate 6 (
  refine n4 rfl ?_ (fun _=>hS) ?_ (fun w0 h0=> ?_) (fun K hK=> ?_)
  ·exact zg
  rotate_left
  ·(try simp only [zz1,zz2,zz3])
   first
    |(obtain ⟨f0,f1,f2,f3,f4,f5,f6,f7,f8⟩:=h0 rfl;clear h0;go_simp;with_reducible rfl)
    |(clear h0;go_simp;with_reducible rfl)
  (try simp only [zz1,zz2,zz3])
  go_simp;refine hK _ ?_;clear hK K)
 refine i6 (j0 rfl ?_ (fun K hK=> ?_))
 ·exact zg
 go_wp2_with fail
 refine (gG.out wa.drew ((Mod.refl _ wa).drew)).mono ?_;rintro e w2 ⟨rfl,ow2,v2,L2,hl2,hp2,hm2⟩;rw [Xb.out] at hp2;rw [Xb.out,HR.out];have pI:Mov (fun t=>t=c\/t=c+17) wa ow w2 ow2:=⟨((Mod.refl _ wa).drew).trans hm2.md zi,hm2.old,hm2.new,hm2.top⟩;have JQ:=NQ.out.logged CW.out pI hl2 hp2;have hO2:=O.mov HOa.out CW.out pI zo (fun t e ht=>by have:=kw.out t ht;omega);have dh:=pI.owd CW.out zo;have sS:Mov (fun t=>(t=c\/t=c+17)\/O.tg t) w ow w2 ow2:=(JP.out.mono (fun _ h=>h.elim)).trans (pI.mono (fun _ h=> .inl h));refine hK _ _ (fun h=>absurd h zd) ?_;clear hK K hS;obtain ⟨Cf,Ns,bq,Rw,CX,vE,jL,CY⟩:=zh8 hl2 hp2 hm2 pI JQ hO2 dh sS;clear hl2 hp2 hm2 pI JQ hO2 dh sS;by_cases hR0:R=0;rotate_left
 ·have hok:F2 B.L L.length p=false:=by unfold F2;rw [HR.out,decide_eq_false hR0,Bool.and_false]
  have hb1:(R !=0)=true:=by simpa using hR0
  have vU:M5 B.L p=B.L:=by unfold M5;rw [HR.out,if_neg hR0]
  obtain ⟨eP,Wu⟩:=zh2 hok vU;clear hok vU;refine i6 (j0 rfl ?_ (fun K hK=> ?_))
  ·exact zg
  (try simp only [zz1,zz2,zz3]);go_simp;refine hK _ _ (fun h=>absurd h zd) ?_;clear hK K;refine i6 (j0 rfl ?_ (fun K hK=> ?_))
  ·exact zg
  (try simp only [zz1,zz2,zz3]);go_simp;refine hK _ _ (fun h=>absurd h zd) ?_;clear hK K;refine m6 ?_
  go_wp2_with fail
  go_ret;refine ⟨by rw [eP.out];rfl,ow2,⟨{a with v:=v2}, ?_⟩, ?_,CY.out⟩
  ·unfold BS.learn;rw [eP.out];have:=CX.out;rw [Wu.out] at this;exact this
  rw [eP.out];exact vE.out
 subst hR0;have hb1:((0:Int) !=0)=false:=rfl;have hok:F2 B.L L.length p=true:=by unfold F2;rw [HR.out,decide_eq_true (show ((L.length:Nat):Int)=B.L.length by rw [NP.out])];rfl
 have xK:=CX.out;have jw:=xK.near;obtain ⟨na,nc,mI,hnc⟩:∃a' cc,a.nv= .slice a' near.length cc/\near.length<=cc:=by obtain ⟨-,a,cc,h,h2, -⟩:=jw.rd;exact ⟨a,cc,h,h2⟩
 obtain ⟨L3,hl3, -⟩:=xK.log;have c2n:w2.cell? ⟨g,2,none⟩=some (.slice na near.length nc):=by rw [<-mI];exact d6 hl3.row rfl
 have JR:(near.length:Int)<=1000:=zo
 have hnc':(near.length:Int)<=nc:=zo
 obtain ⟨eP,b7H,Xc,CZ,Hl3,Hnc⟩:=zh6 hok xK jw mI hl3 hnc;clear hok xK jw mI hl3 hnc;refine i6 (j0 rfl ?_ (fun K hK=> ?_))
 ·exact zg
 (try simp only [zz1,zz2,zz3]);go_simp;refine hK _ _ (fun h=>absurd h zd) ?_;clear hK K;refine i6 (j0 rfl ?_ (fun K hK=> ?_))
 ·exact zg
 (try simp only [zz1,zz2,zz3]);go_simp;refine hK _ _ (fun h=>absurd h zd) ?_;clear hK K;refine m6 ?_
 go_wp2_with fail
 go_loopw [32] (fun i wr=>b2S O wa ow c g id near {B with L:=M5 B.L p} {a with v:=v2} s L.length p frm i wr) (fun i _=>near.length - (intOf i).toNat)
 case atStart=>exact ⟨0,ow2,rfl,Nat.zero_le _,CX.out,vE.out,Rw.out.mono (fun _ h=> .inl h),jL.out⟩
 case round=>
  obtain ⟨j,owr,rfl,hj,hbr,fG,hmr,how⟩:=hrel
  have sU:¬((0=c\/0=c+17)\/O.tg 0):=fun h=>by
   rcases h with h|h
   ·omega
   have:=O.t2 0 h;omega
  by_cases hlt:j<near.length
  ·have hlt':(j:Int)<near.length:=zo
   obtain ⟨n,jA⟩:∃x,near[j]? =some x:=⟨_,zz5 hlt⟩;have hnm:=zz8 jA;have hrd:=hbr.near.rd;rw [show ({a with v:=v2}:BAd).nv= .slice na near.length nc from CZ.out] at hrd;obtain ⟨gn,offn,rfl,hcn⟩:=a34 hrd jA;have hsu:=a7a jA frm L.length p;by_cases hnf:n=frm
   ·have hq:(n !=frm)=false:=by simpa using hnf
    rw [if_pos (by simpa using hnf),zz11] at hsu;obtain ⟨bV,pJ,aK,How,dH,FN,iq,ik⟩:=zh8 hbr fG hmr how hsu jA hrd hnm;clear hbr fG hmr how hsu jA hrd hnm sU
    go_wp2_with fail
    go_roundw
    case rel=>exact ⟨j+1,owr,by go_num,hlt,bV.out,by rw [dH.out];exact pJ.out,aK.out,How.out⟩
    case measure=>simp [intOf];omega
   have hq:(n !=frm)=true:=by simpa using hnf
   rw [if_neg (by simpa using hnf)] at hsu
   have hgr:wr.heap[w.heap.size]? =some (.cells ([.int .i64 p.kind,.int .i64 p.tenant,.string p.who,.int .i64 p.broker,.string p.sc,.slice ra p.cs.length rc,.string p.name,.int .i64 p.at_]:List Value).toArray 28 (0,0)):=hmr.md.heap aH.out (fun hf=>sU (by
    have hf':(ow w.heap.size=c\/ow w.heap.size=c+17)\/O.tg (ow w.heap.size):=hf;rw [HB0.out] at hf'
    exact hf'))
   have hls:(L9 (near.take j) frm L.length p).length<=1000:=Nat.le_trans (a1n _ _ _ _) (by rw [List.length_take];omega);have hct:=O.sends_cnt s (L9 (near.take j) frm L.length p);have Rx:(L9 (near.take j) frm L.length p).length<=near.length:=Nat.le_trans (a1n _ _ _ _) (by rw [List.length_take];omega);have hmv:X3 wr owr ⟨Mg.pol L.length p,ra,rc,none,0,none,0⟩:=⟨(Hxa.out.mov hmr sU).cs,o3.nil _ _ _,o3.nil _ _ _⟩
   have hsend:Calls Tryz.prog 274 #[.pointer (some ⟨q,0,none⟩),.int .i64 n,.int .i64 (-1),.agg #[.int .i64 0,.int .i64 L.length,.int .i64 p.kind,.int .i64 p.tenant,.string p.who,.int .i64 p.broker,.string p.sc,.slice ra p.cs.length rc,.string p.name,.int .i64 p.at_,
    .string ⟨#[]⟩,.slice none 0 0,.string ⟨#[]⟩,.slice none 0 0,.int .i64 0,.string ⟨#[]⟩,.int .i64 0]] wr fun e w'=>e= .returned (.tuple #[])/\∃ow',O.inv w' ow' (O.send (O.sends s (L9 (near.take j) frm L.length p)) n (-1) (Mg.pol L.length p))/\Mov O.tg wr owr w' ow':=
    O.hsend how fG zo (vD.out n hnm) hmv
   obtain ⟨bV,pJ,aK,How,dH,FN,iq,ik,nL,ll,nS⟩:=zh11 hbr fG hmr how hsu jA hrd hnm hgr hsend hmv;clear hbr fG hmr how hsu jA hrd hnm hgr hsend hmv hct hls Rx sU
   go_wp2_with ((with_reducible refine d8 28 (.tmp 8) ?_);refine ⟨w.heap.size,0,rfl,[.int .i64 p.kind,.int .i64 p.tenant,.string p.who,.int .i64 p.broker,.string p.sc,.slice ra p.cs.length rc,.string p.name,.int .i64 p.at_],e9.row nL.out,zk,zk, ?_⟩)
   refine ll.out.mono ?_;rintro e w3 ⟨rfl,ow3,hO3,aC⟩;have ht0:¬O.tg 0:=fun h=>by have:=O.t2 0 h;omega
   have hb3:=bV.out.mov How.out aC ht0 (fun t ht=>kw.out t ht);have eu:=aC.owd How.out ht0;have jF:=aK.out.trans (aC.mono (fun _ h=> .inr h));obtain ⟨yV,bA,Hb3,jh,BU⟩:=zh5 hO3 aC hb3 eu jF;clear hO3 aC hb3 eu jF ht0
   go_wp2_with fail
   go_roundw
   case rel=>exact ⟨j+1,ow3,by go_num,hlt,Hb3.out,by rw [dH.out,O.sends_one];exact yV.out,BU.out,jh.out⟩
   case measure=>simp [intOf];omega
  obtain rfl:j=near.length:=zo
  rw [List.take_length] at fG;have bg:=(JP.out.mono (G:=fun t=>(t=c\/t=c+17)\/O.tg t) (fun _ h=>h.elim)).trans hmr;obtain ⟨bV,pJ,aK,How,eG⟩:=zh5 hbr fG hmr how bg;clear hbr fG hmr how bg sU
  go_wp2
  go_ret;refine ⟨by rw [eP.out];rfl,owr,⟨{a with v:=v2}, ?_⟩, ?_,eG.out⟩
  ·unfold BS.learn;rw [eP.out];exact bV.out
  rw [eP.out];exact pJ.out
end Go.Proofs.YtebhabpahfmodaaGreatDoor
