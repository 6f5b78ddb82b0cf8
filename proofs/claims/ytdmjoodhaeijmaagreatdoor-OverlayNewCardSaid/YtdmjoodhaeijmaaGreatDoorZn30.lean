/- Lemmas. -/
import Derived.Test.YtdmjoodhaeijmaaGreatDoorZn27
import Derived.Test.YtdmjoodhaeijmaaGreatDoorZn28
set_option maxHeartbeats 40000000
set_option maxRecDepth 20000
namespace Go.Proofs.YtdmjoodhaeijmaaGreatDoor
open Go.RowKit
theorem a3J:B7 Tryz.prog 42 36 8 104:=I8 zk zk
theorem b1V:B7 Tryz.prog 32 126 7 72:=I8 zk zk
def a5B (w:World) (ow:Ow) (c d g:Nat) (rest:List Value) (t:TypeId) (L:List Lr) (p:PRu) (e:Ending) (w':World):Prop:=
 e= .returned (.int .i64 (R2 (L.map Prod.fst) p))/\∃(ow':Ow) (v':Value) (L':List Lr),M5 w' ow' c d g rest t v' L'/\L'.map Prod.fst=I9 (L.map Prod.fst) p/\Mov (fun t=>t=c\/t=d) w ow w' ow'
theorem M5.app {w0 w wz w6 w7:World} {ow:Ow} {c d g:Nat} {rest:List Value} {t:TypeId} {v v':Value} {L:List Lr} {x:Lr} (_hw:Owd w0 w ow) (h2:2<=c/\2<=d) (h:M5 w ow c d g rest t v L) (hz:Mod (fun _=>False) w wz)
 (hxo:g7 wz 126 7 x.ru.cv x.1.cs.length (q8 x.1.cs)) (hxb:∀b,x.ru.cv.ownBlock=some b->w.heap.size<=b) (fO:x.1.fine)
 (hA:B9 wz 36 8 v (L.length+1) (rus (L.map Lr.ru)++x.ru.cells) v' w6) (h7:w7.heap[g]? =some (.cells (v'::rest).toArray t (0,0))) (bP:Mod (fun k=>k=g) w6 w7):
 ∃ow',M5 w7 ow' c d g rest t v' (L++[x])/\Mov (fun t=>t=c\/t=d) w ow w7 ow':=by
 obtain ⟨hA1,hA2,hA3⟩:=hA;have hgl:=(zz7 h.row).1;have hzs:=hz.size;have hsz:=hA2.size;have hs7:=bP.size;have hvb:∀b,v.ownBlock=some b->b<w.heap.size:=fun b hb=>h.sl.sl.lt b hb;have nZ:Mod (inBlock v) w w6:=(hz.mono (fun _ _ h=>h.elim)).trans hA2 (fun b hb h=>h)
 have dh:Mod (fun k=>ow k=c\/ow k=d) w w7:=by
  refine (nZ.mono (fun k _ hk=> .inr (h.sl.vb k hk).1)).trans bP (fun k _ hk=> ?_);have hk':k=g:=hk;rw [hk'];exact .inl h.tag
 have lZ:∀b,v'.ownBlock=some b->(v.ownBlock=some b/\b<w.heap.size)\/(wz.heap.size<=b/\b<w7.heap.size):=fun b hb=>by
  rcases hA3 with e|⟨k,e,hk⟩
  ·rw [e] at hb;exact .inl ⟨hb,hvb b hb⟩
  have:=hA1.lt b hb;rw [hb] at e;cases e
  exact .inr ⟨hk,zo⟩
 have hmv:Mov (fun t=>t=c\/t=d) w ow w7 (A6 w w7 ow (inBlock v') (fun _=>True) d):=Mov.tag (.inr rfl) dh
 have Df:∀b,v'.ownBlock=some b->b≠g:=fun b hb=>by
  rcases lZ b hb with h1|h1
  ·exact (h.sl.vb b h1.1).2
  omega
 refine ⟨_,⟨h7,by rw [D7 hgl];exact h.tag, ?_,fun b hb=>⟨?_,Df b hb⟩,fun q hq=> ?_⟩,hmv⟩
 ·rw [zz4,List.map_append,a3Q];have e:rus ([x].map Lr.ru)=x.ru.cells:=by simp [rus]
  rw [e];exact hA1.mod bP (fun k hk e=>Df k hk e)
 ·rcases lZ b hb with h1|h1
  ·rw [D7 h1.2];exact (h.sl.vb b h1.1).1
  exact O1 zo h1.2 hb
 rcases zz14 hq with hq|hq
 ·exact (h.sl.each q hq).mov hmv zo
 obtain rfl:=List.mem_singleton.1 hq;have hlt:=hxo.lt;have kI:∀b,q.ru.cv.ownBlock=some b->¬inBlock v b/\b≠g:=fun b hb=>⟨fun h1=>by have:=hvb b h1;have:=hxb b hb;omega,by have:=hxb b hb;omega⟩;refine ⟨⟨((hxo.mod hA2 (fun b hb=>(kI b hb).1)).mod bP (fun b hb e=>(kI b hb).2 e)).rd,fun _ b hb=> ?_⟩,fO⟩;refine a1C (hxb b hb) (by have:=hlt b hb;omega) (fun h1=> ?_) trivial;rcases lZ b h1 with h3|h3
 ·have:=hxb b hb;omega
 have:=hlt b hb;omega
def a2a (g B:Nat) (s:Value) (k:PRu) (na:Option Addr) (nc:Nat) (y:World):Prop:=
 y.cell? ⟨g,0,none⟩=some s/\y.cell? ⟨B,0,none⟩=some (.int .i64 k.kind)/\y.cell? ⟨B,1,none⟩=some (.int .i64 k.tenant)/\y.cell? ⟨B,2,none⟩=some (.string k.who)/\y.cell? ⟨B,3,none⟩=some (.int .i64 k.broker)/\
  y.cell? ⟨B,4,none⟩=some (.string k.sc)/\y.cell? ⟨B,5,none⟩=some (.slice na k.cs.length nc)/\y.cell? ⟨B,6,none⟩=some (.string k.name)/\y.cell? ⟨B,7,none⟩=some (.int .i64 k.at_)
theorem a2a.mod {g B:Nat} {s:Value} {k:PRu} {na:Option Addr} {nc:Nat} {y z:World} {F:Nat->Prop} (h:a2a g B s k na nc y) (hm:Mod F y z) (h1:¬F g) (h2:¬F B):a2a g B s k na nc z:=by
 obtain ⟨a0,a1,a2,a3,a4,a5,a6,a7,a8⟩:=h;exact ⟨hm.cell a0 h1,hm.cell a1 h2,hm.cell a2 h2,hm.cell a3 h2,hm.cell a4 h2,hm.cell a5 h2,hm.cell a6 h2,hm.cell a7 h2,hm.cell a8 h2⟩
theorem a2a.at {g B:Nat} {s:Value} {k:PRu} {na:Option Addr} {nc:Nat} {y:World} {t:TypeId} {cs:List Value} (h1:y.heap[g]? =some (.cells (s::cs).toArray t (0,0))) (h2:y.heap[B]? =some (.cells (k.lies na nc).cells.toArray 36 (0,0))):a2a g B s k na nc y:=
 ⟨d6 h1 rfl,d6 h2 rfl,d6 h2 rfl,d6 h2 rfl,d6 h2 rfl,d6 h2 rfl,d6 h2 rfl,d6 h2 rfl,d6 h2 rfl⟩
theorem a8Y (w0 w:World) (ow:Ow) (c d g:Nat) (rest:List Value) (t:TypeId) (v:Value) (L:List Lr) (hw:Owd w0 w ow) (h2:2<=c/\2<=d) (h:M5 w ow c d g rest t v L) (hll:L.length<=40) (p:PRu) (ra:Option Addr) (rc:Nat)
 (hx:i8 w 7 (.slice ra p.cs.length rc) p.cs.length (q8 p.cs)) (hf:p.fine):
 Calls Tryz.prog 50 #[.pointer (some ⟨g,0,none⟩),.agg (p.lies ra rc).cells.toArray] w (a5B w ow c d g rest t L p):=by
 obtain ⟨a,cap,rfl,hcap⟩:∃a cc,v= .slice a L.length cc/\L.length<=cc:=by obtain ⟨-,a,cc,h,h2, -⟩:=h.sl.sl.rd;exact ⟨a,cc,h,h2⟩
 have nE:=h.sl.ru;have fG:(L.map Lr.ru).length=L.length:=zz10 _;rw [<-fG] at nE;obtain ⟨wa,ak,ae,aa,ah⟩:=g6 w (.cells (p.lies ra rc).cells.toArray 36);have hgl:=(zz7 h.row).1;have c0:w.cell? ⟨g,0,none⟩=some (.slice a (L.map Lr.ru).length cap):=by rw [fG];exact d6 h.row rfl
 have hch:=b1K wa g a cap (L.map Lr.ru) (ae.cell c0 id) (nE.mod ae) zo (p.lies ra rc) (hf.ok (hx.mod ae zi));rw [a5s,show (p.lies ra rc).pru=p from rfl] at hch;obtain ⟨R,hR⟩:∃R,R2 (L.map Prod.fst) p=R:=⟨_,rfl⟩;unfold a5B;rw [hR] at hch⊢;have hnm:=h.sl.sl;refine hh8 hw h nE hch hR ak ae aa fun Hw H GL Je HR aB ai aC=> ?_;refine hh2 hx hf fun Hx Hf=> ?_;clear hw h nE hch hR ak ae aa hx hf hnm
 go_enter Tryz.func50,Tryz.ntmps50
 go_wp2_with (first|(rw [show w.alloc _=wa from aB.out])|((with_reducible refine e9 36 (.tmp 3) ?_);refine ⟨w.heap.size,0,rfl,(p.lies ra rc).cells,d8.row aC.out,zk,zk, ?_⟩))
 refine Je.out.mono ?_;rintro e w1 ⟨rfl,hm1⟩;have bH:=ai.out.trans hm1 zi;have hg1:=hm1.heap aC.out id;by_cases hR0:R=0;rotate_left
 ·have hadd:I9 (L.map Prod.fst) p=L.map Prod.fst:=by unfold I9;rw [HR.out,if_neg hR0]
  refine hh4 bH hadd hg1 hm1 fun bJ jb Ad dn=> ?_;clear bH hadd hg1 hm1
  go_wp2
  go_ret;exact ⟨rfl,ow,.slice a L.length cap,L,H.out.mov (Mov.of Hw.out bJ.out (fun _=>False)) id id id,jb.out.symm,Mov.of Hw.out bJ.out _⟩
 have hadd:I9 (L.map Prod.fst) p=L.map Prod.fst++[p.kept]:=by unfold I9;rw [HR.out,if_pos hR0]
 subst hR0;have e4:w1.cell? ⟨w.heap.size,4,none⟩=some (.string p.sc):=d6 hg1 rfl;have e5:w1.cell? ⟨w.heap.size,5,none⟩=some (.slice ra p.cs.length rc):=d6 hg1 rfl;have hx1:=Hx.out.mod bH zi;have hfr:=Z9 w1 p.sc (.slice ra p.cs.length rc) p.cs hx1 (by have:=Hf.out.len;omega) (by have:=Hf.out.sc;omega) (fun q hq=>by have:=(Hf.out.cs q hq).name;omega);have Td:w.heap.size<wa.heap.size:=zo
 refine hh6 bH hadd hg1 hm1 hx1 hfr fun bJ jb Ad dn Te aW=> ?_;clear bH hadd hg1 hm1 hx1 hfr ah
 go_wp2_with fail
 refine aW.out.mono ?_;rintro e w2 ⟨rfl,hm2⟩;have aK:=bJ.out.trans hm2 zi;have hg2:=hm2.heap Ad.out id;have hx2:=Te.out.mod hm2 zi;have e4:w2.cell? ⟨w.heap.size,4,none⟩=some (.string p.sc):=d6 hg2 rfl;have e5:w2.cell? ⟨w.heap.size,5,none⟩=some (.slice ra p.cs.length rc):=d6 hg2 rfl
 cases iw:l0 p.sc p.cs with
 | true=>
  have hfl:=a3G iw;have hkp:p.kept={p with cs:=j7 p.cs}:=by unfold PRu.kept;rw [if_pos iw]
  have hnr:=a5n w0 w2 (Hw.out.laid.mod0 aK) p.sc (.slice ra p.cs.length rc) p.cs hx2 zo Hf.out.cs;obtain ⟨nl,hnl⟩:∃nl,j7 p.cs=nl:=⟨_,rfl⟩;rw [hnl] at hnr hkp;refine hh8 aK hg2 hx2 hfl hkp hnr hnl iw fun aN uI OO bQ BD yz Hnl H8=> ?_;refine hh1 hm2 fun aS=> ?_;clear aK hg2 hx2 hfl hkp hnr hnl iw hm2
  go_wp2_with fail
  refine yz.out.mono ?_;rintro e w3 ⟨na,nc,rfl,hno,hnb,au⟩;have aR:=aN.out.trans au zi;have hg3:=au.heap uI.out id;have nH:=Lib.hid (aN.out.size);obtain ⟨k,hk⟩:∃k:PRu,{p with cs:=nl}=k:=⟨_,rfl⟩;have hkk:p.kept=k:=BD.out.trans hk;have bX:k.fine:=by rw [<-hkk];exact Hf.out.kept
  have hkc:k.kind=p.kind/\k.tenant=p.tenant/\k.who=p.who/\k.broker=p.broker/\k.sc=p.sc/\k.cs=nl/\k.name=p.name/\k.at_=p.at_:=by subst hk;exact ⟨rfl,rfl,rfl,rfl,rfl,rfl,rfl,rfl⟩
  have OP:=hno;refine hh8 aR hg3 hno hnb au hkk bX hk fun aT gP Hno kz aZ Dh jB Hk=> ?_;clear aR hg3 hno hnb au hkk bX hk
  go_wp2_with ((with_reducible refine a0o 34 (.tmp 18) (.tmp 17) ?_);refine ⟨w.heap.size,4,rfl,_,_,gP.out,[.string p.sc,.slice na nl.length nc],rfl,Nat.le_of_ble_eq_true rfl,zk,rfl, ?_⟩;intro w5 OQ bR;have hg5:w5.heap[w.heap.size]? =some (.cells ([.int .i64 p.kind,.int .i64 p.tenant,.string p.who,.int .i64 p.broker,.string p.sc,.slice na nl.length nc,.string p.name,.int .i64 p.at_]:List Value).toArray 36 (0,0)):=OQ▸setRow_heap w3 w.heap.size _ _ _ _ gP.out;have Di:=Lib.hid hg5;have gD:=Lib.hid bR;clear OQ hg5 bR)
  have hg5:w5.heap[w.heap.size]? =some (.cells (k.lies na nc).cells.toArray 36 (0,0)):=by rw [<-Hk.out];exact Di.out
  have bD:Mod (fun _=>False) w w5:=aT.out.upon gD.out (fun b hb=> .inr (Nat.le_of_eq (Eq.symm hb)))
  have gZ:g7 w5 126 7 (.slice na k.cs.length nc) k.cs.length (q8 k.cs):=by
   rw [hkc.2.2.2.2.2.1];exact Hno.out.mod gD.out (fun b hb e=>by have h1:=kz.out b hb;have h3:b=w.heap.size:=e;have h4:=(zz7 uI.out).1;omega)
  have oH:∀b,(Value.slice na k.cs.length nc).ownBlock=some b->w.heap.size<=b:=by
   rw [hkc.2.2.2.2.2.1];exact fun b hb=>Nat.le_trans nH.out (kz.out b hb)
  have kz:=zh oH;refine hh3 hg5 bD gZ fun sZ bK lS=> ?_;clear hg5 bD gZ oH hkc;clear Di;have fH:=bK.out.heap H.out.row id;have hone:∀u∈(k.lies na nc).cells,u.oneCell'=true:=fun u hu=>zz15 (show (k.lies na nc).cells.all (·.oneCell')=true from rfl) u hu;have pK:=H.out.sl.sl.mod bK.out zi;have hlp:L.length<=40:=hll;have hS:a2a g w.heap.size (.slice a L.length cap) k na nc w5.drew:=a2a.at (y:=w5.drew) fH sZ.out;have hs5:=bK.out.size;refine hh4 fH hone pK hs5 fun pM aI yA OT=> ?_;clear fH hone pK hs5;refine i6 [.rd 0,.rd 1,.rd 2,.rd 3,.rd 4,.rd 5,.go 6,.go 7,.go 8,.go 9,.go 10] [0,1,2,3,4,5,6] (a2a g w.heap.size (.slice a L.length cap) k na nc) zk zk (fun _ _ d _ _ h=>(by cases d<;>exact h)) ?_
  iterate 6 (
   refine wrd hS fun K hK=> ?_
   go_simp;refine hK _ ?_;clear hK K)
  refine wgo fun K hK=> ?_;(try simp only [zz1,zz2,zz3]);obtain ⟨wT,hwT,di,jc,jM⟩:=g6 w5.drew (.cells (k.lies na nc).cells.toArray 36);have iy:w5.drew.alloc (.cells #[.int .i64 k.kind,.int .i64 k.tenant,.string k.who,.int .i64 k.broker,.string k.sc,.slice na k.cs.length nc,.string k.name,.int .i64 k.at_] 36)=wT:=hwT;go_simp;refine hK _ _ (fun _ h=>h.mod di id id) ?_;clear hK K hS;have eF:i8 wT 8 (.slice (some ⟨w5.heap.size,0,none⟩) 1 1) 1 (k.lies na nc).cells:=hwT▸i8.one w5.drew (k.lies na nc).cells 36 rfl;have eG:Mod (fun _=>False) w5 wT:=((Mod.refl (fun _=>False) w5).drew).trans di zi;have jN:=yA.out.mod eG zi;have pO:=lS.out.mod eG zi;have pQ:=bK.out.trans eG zi;refine wgo fun K hK=> ?_;(try simp only [zz1,zz2,zz3]);refine l5 (.tmp 29) (.tmp 31) 42 rfl 36 8 104 a3J (.slice a L.length cap) L.length (rus (L.map Lr.ru)) rfl jN (.slice (some ⟨w5.heap.size,0,none⟩) 1 1) 1 (k.lies na nc).cells rfl eF aI.out zo (by unfold maxLen;omega) (fun ad cap2 w6 hA=> ?_);refine hK _ _ (fun h=>absurd h zd) ?_;clear hK K;have jO:¬inBlock (.slice a L.length cap) g:=fun h=>(H.out.sl.vb g h).2 rfl;have fB:=hA.2.1.heap (eG.heap pM.out id) jO;have k6:w6.cell? ⟨g,0,none⟩=some (.slice a L.length cap):=d6 fB rfl;have f6:w6.frozen? ⟨g,0,none⟩=false:=r9 fB;refine hh8 hA fB eG jN pO pQ eF jO fun HA sI Kw Ky yB yC pR Kz=> ?_;clear hA fB eG jN pO pQ eF jO hwT di jc iy jM;refine wgo fun K hK=> ?_;(try simp only [zz1,zz2,zz3]);go_simp;refine hK _ _ (fun h=>absurd h zd) ?_;clear hK K;refine wgo fun K hK=> ?_;(try simp only [zz1,zz2,zz3]);go_simp;refine hK _ _ (fun h=>absurd h zd) ?_;clear hK K;refine wgo fun K hK=> ?_;(try simp only [zz1,zz2,zz3]);go_simp;refine hK _ _ (fun h=>absurd h zd) ?_;clear hK K;refine p8 ?_;obtain ⟨w7,hw7⟩:∃w7:World,w6.setCell ⟨g,0,none⟩ (.slice ad (L.length+1) cap2)=w7:=⟨_,rfl⟩;have bP:Mod (fun k=>k=g) w6 w7:=hw7▸(Mod.refl (fun k=>k=g) w6).setCell (fun _=>rfl) _
  have pU:w7.heap[g]? =some (.cells (.slice ad (L.length+1) cap2::rest).toArray t (0,0)):=by
   rw [<-hw7];have:=j6 (i:=0) (v:= .slice ad (L.length+1) cap2) sI.out;simpa using this
  obtain ⟨ow',aQ,hmov⟩:=M5.app (x:=(k,na,nc)) Hw.out h2 H.out yC.out yB.out kz.out jB.out HA.out pU bP;rw [hw7];refine hh5 bP pU aQ hmov hw7 fun nG OU jd yD Tf=> ?_;clear bP pU aQ hmov hw7
  go_wp2_with fail
  go_ret;exact ⟨rfl,ow',_,_,jd.out,by rw [List.map_append,jb.out,Dh.out];rfl,yD.out⟩
 | false=>
  have hkk:p.kept=p:=by unfold PRu.kept;rw [iw];rfl
  have bX:p.fine:=Hf.out;have hlc:=Hf.out.len;have vk:=b2F p.cs;refine hh8 aK hg2 hx2 hkk bX hm2 vk iw fun aN uI OO Dh jB aS Dj H8=> ?_;clear aK hg2 hx2 hkk bX hm2 vk iw
  go_wp2_with ((with_reducible refine l6 (.const (.slice none 0 0)) (.tmp 21) 32 ?_);refine ⟨rfl,126,7,72,b1V,.slice none 0 0,0,[],rfl,g7.nil _ _ _,_,p.cs.length,q8 p.cs,rfl,OO.out,Dj.out,zo,by unfold maxLen;omega, ?_⟩;intro na nc w3 hA;rw [Nat.zero_add] at*;rw [List.nil_append] at hA;have ed:Mod (fun _=>False) w2 w3:=hA.2.1.mono (fun _ _ h=>by cases h);have hg3:=ed.heap uI.out id;have k3:w3.cell? ⟨w.heap.size,5,none⟩=some (.slice ra p.cs.length rc):=d6 hg3 rfl;have f3:w3.frozen? ⟨w.heap.size,5,none⟩=false:=r9 hg3;have lC:=Lib.hid hA;have lL:=Lib.hid ed;have gP:=Lib.hid hg3;clear hA ed hg3)
  obtain ⟨k,hk⟩:∃k:PRu,p=k:=⟨_,rfl⟩;obtain ⟨w5,gN⟩:∃w5:World,w3.setCell ⟨w.heap.size,5,none⟩ (.slice na p.cs.length nc)=w5:=⟨_,rfl⟩;have tN:Mod (fun k=>k=w.heap.size) w3 w5:=gN▸(Mod.refl (fun k=>k=w.heap.size) w3).setCell (fun _=>rfl) _;have bD:Mod (fun _=>False) w w5:=(aN.out.trans lL.out zi).upon tN (fun b hb=> .inr (Nat.le_of_eq (Eq.symm hb)))
  have hg5:w5.heap[w.heap.size]? =some (.cells (p.lies na nc).cells.toArray 36 (0,0)):=by
   rw [<-gN];have:=j6 (i:=5) (v:= .slice na p.cs.length nc) gP.out;simpa [PRu.lies,Ru.cells] using this
  have hnb:∀b,(Value.slice na p.cs.length nc).ownBlock=some b->w2.heap.size<=b:=fun b hb=>by
   rcases lC.out.2.2 with e|⟨q,e,hq⟩
   ·rw [e] at hb;cases hb
   rw [e] at hb;cases hb;exact hq
  have hs2:=aN.out.size;have Ti:=(zz7 uI.out).1;have gZ:g7 w5 126 7 (.slice na p.cs.length nc) p.cs.length (q8 p.cs):=lC.out.1.mod tN (fun b hb e=>by have h1:=hnb b hb;have h3:b=w.heap.size:=e;omega);have kz:=Lib.hid (show∀b,(Value.slice na p.cs.length nc).ownBlock=some b->w.heap.size<=b from fun b hb=>Nat.le_trans hs2 (hnb b hb));rw [gN];clear hk k hnb;obtain ⟨k,rfl⟩:∃k:PRu,k=p:=⟨_,rfl⟩;refine hh6 gN tN bD hg5 gZ hs2 fun xZ Tj bK sZ lS nH=> ?_;clear gN tN bD hg5 gZ hs2
  go_wp2_with fail
  have fH:=bK.out.heap H.out.row id;have hone:∀u∈(k.lies na nc).cells,u.oneCell'=true:=fun u hu=>zz15 (show (k.lies na nc).cells.all (·.oneCell')=true from rfl) u hu;have pK:=H.out.sl.sl.mod bK.out zi;have hlp:L.length<=40:=hll;have hS:a2a g w.heap.size (.slice a L.length cap) k na nc w5.drew:=a2a.at (y:=w5.drew) fH sZ.out;have hs5:=bK.out.size;refine hh4 fH hone pK hs5 fun pM aI yA OT=> ?_;clear fH hone pK hs5;refine i6 [.rd 0,.rd 1,.rd 2,.rd 3,.rd 4,.rd 5,.go 6,.go 7,.go 8,.go 9,.go 10] [0,1,2,3,4,5,6] (a2a g w.heap.size (.slice a L.length cap) k na nc) zk zk (fun _ _ d _ _ h=>(by cases d<;>exact h)) ?_
  iterate 6 (
   refine wrd hS fun K hK=> ?_
   go_simp;refine hK _ ?_;clear hK K)
  refine wgo fun K hK=> ?_;(try simp only [zz1,zz2,zz3]);obtain ⟨wT,hwT,di,jc,jM⟩:=g6 w5.drew (.cells (k.lies na nc).cells.toArray 36);have iy:w5.drew.alloc (.cells #[.int .i64 k.kind,.int .i64 k.tenant,.string k.who,.int .i64 k.broker,.string k.sc,.slice na k.cs.length nc,.string k.name,.int .i64 k.at_] 36)=wT:=hwT;go_simp;refine hK _ _ (fun _ h=>h.mod di id id) ?_;clear hK K hS;have eF:i8 wT 8 (.slice (some ⟨w5.heap.size,0,none⟩) 1 1) 1 (k.lies na nc).cells:=hwT▸i8.one w5.drew (k.lies na nc).cells 36 rfl;have eG:Mod (fun _=>False) w5 wT:=((Mod.refl (fun _=>False) w5).drew).trans di zi;have jN:=yA.out.mod eG zi;have pO:=lS.out.mod eG zi;have pQ:=bK.out.trans eG zi;refine wgo fun K hK=> ?_;(try simp only [zz1,zz2,zz3]);refine l5 (.tmp 29) (.tmp 31) 42 rfl 36 8 104 a3J (.slice a L.length cap) L.length (rus (L.map Lr.ru)) rfl jN (.slice (some ⟨w5.heap.size,0,none⟩) 1 1) 1 (k.lies na nc).cells rfl eF aI.out zo (by unfold maxLen;omega) (fun ad cap2 w6 hA=> ?_);refine hK _ _ (fun h=>absurd h zd) ?_;clear hK K;have jO:¬inBlock (.slice a L.length cap) g:=fun h=>(H.out.sl.vb g h).2 rfl;have fB:=hA.2.1.heap (eG.heap pM.out id) jO;have k6:w6.cell? ⟨g,0,none⟩=some (.slice a L.length cap):=d6 fB rfl;have f6:w6.frozen? ⟨g,0,none⟩=false:=r9 fB;refine hh8 hA fB eG jN pO pQ eF jO fun HA sI Kw Ky yB yC pR Kz=> ?_;clear hA fB eG jN pO pQ eF jO hwT di jc iy jM;refine wgo fun K hK=> ?_;(try simp only [zz1,zz2,zz3]);go_simp;refine hK _ _ (fun h=>absurd h zd) ?_;clear hK K;refine wgo fun K hK=> ?_;(try simp only [zz1,zz2,zz3]);go_simp;refine hK _ _ (fun h=>absurd h zd) ?_;clear hK K;refine wgo fun K hK=> ?_;(try simp only [zz1,zz2,zz3]);go_simp;refine hK _ _ (fun h=>absurd h zd) ?_;clear hK K;refine p8 ?_;obtain ⟨w7,hw7⟩:∃w7:World,w6.setCell ⟨g,0,none⟩ (.slice ad (L.length+1) cap2)=w7:=⟨_,rfl⟩;have bP:Mod (fun k=>k=g) w6 w7:=hw7▸(Mod.refl (fun k=>k=g) w6).setCell (fun _=>rfl) _
  have pU:w7.heap[g]? =some (.cells (.slice ad (L.length+1) cap2::rest).toArray t (0,0)):=by
   rw [<-hw7];have:=j6 (i:=0) (v:= .slice ad (L.length+1) cap2) sI.out;simpa using this
  obtain ⟨ow',aQ,hmov⟩:=M5.app (x:=(k,na,nc)) Hw.out h2 H.out yC.out yB.out kz.out jB.out HA.out pU bP;rw [hw7];refine hh5 bP pU aQ hmov hw7 fun nG OU jd yD Tf=> ?_;clear bP pU aQ hmov hw7
  go_wp2_with fail
  go_ret;exact ⟨rfl,ow',_,_,jd.out,by rw [List.map_append,jb.out,Dh.out];rfl,yD.out⟩
def atR (l:List Ru) (n:Nat):List Ru:=(l.take n).zipIdx.filterMap fun q=>if decide (q.1.kind=4)||V7 (l.map Ru.pru) q.2 n then none else some q.1
theorem a4j {α β:Type} (f:α->β) (l:List α) (k:Nat) (p:β->Nat->Bool):((l.zipIdx k).filterMap fun q=>if p (f q.1) q.2 then none else some q.1).map f=((l.map f).zipIdx k).filterMap fun q=>if p q.1 q.2 then none else some q.1:=by
 induction l generalizing k with
 |nil=>rfl
 | cons a l ih=>
  rw [List.map_cons,List.zipIdx_cons,List.zipIdx_cons,List.filterMap_cons,List.filterMap_cons];cases h:p (f a) k
  ·simp only [Bool.false_eq_true,if_false,List.map_cons];rw [ih]
  simp only [if_true];exact ih (k+1)
theorem b4o (l:List Ru) (n:Nat):(atR l n).map Ru.pru=atP (l.map Ru.pru) n:=by
 unfold atR atP;rw [<-List.map_take];exact a4j Ru.pru (l.take n) 0 (fun r i=>decide (r.kind=4)||V7 (l.map Ru.pru) i n)
theorem a8Z {l:List Ru} {n:Nat} {r:Ru} (h:r∈atR l n):r∈l:=by
 unfold atR at h;obtain ⟨q,h1,h2⟩:=List.mem_filterMap.1 h;split at h2
 ·cases h2
 ·cases h2
  obtain ⟨i,h3⟩:=List.mem_iff_getElem?.1 h1;rw [List.getElem?_zipIdx,Option.map_eq_some_iff] at h3;obtain ⟨a,h4,h5⟩:=h3;rw [<-h5];exact List.mem_of_mem_take (zz8 h4)
def atJ (l:List Ru) (n j:Nat):List Ru:=((l.take n).take j).zipIdx.filterMap fun q=>if decide (q.1.kind=4)||V7 (l.map Ru.pru) q.2 n then none else some q.1
theorem b1W {l:List Ru} {n j:Nat} {x:Ru} (h:(l.take n)[j]? =some x):atJ l n (j+1)=atJ l n j++if decide (x.kind=4)||V7 (l.map Ru.pru) j n then [] else [x]:=by
 unfold atJ;rw [List.take_add_one,h,Option.toList_some,List.zipIdx_append,List.filterMap_append];congr 1;have hl:((l.take n).take j).length=j:=by have:=(zz6 h).1;rw [List.length_take];omega
 rw [hl,Nat.zero_add];simp only [List.zipIdx_cons,List.zipIdx_nil,List.filterMap_cons,List.filterMap_nil];split<;>rename_i h1<;>split at h1<;>simp_all
theorem b4p (l:List Ru) {n:Nat} (hn:n<=l.length):atJ l n n=atR l n:=by
 unfold atJ atR;rw [List.take_of_length_le (by rw [List.length_take];omega)]
theorem b4q (l:List Ru) (n j:Nat):(atJ l n j).length<=j:=by
 unfold atJ;refine Nat.le_trans (List.length_filterMap_le _ _) ?_;rw [List.length_zipIdx,List.length_take];omega
def b5K (w:World) (l:List Ru) (n:Nat) (e:Ending) (w':World):Prop:=
 ∃v,e= .returned v/\g7 w' 36 8 v (atR l n).length (rus (atR l n))/\(∀b,v.ownBlock=some b->w.heap.size<=b)/\Mod (fun _=>False) w w'
def X0 (vr:Int) (n:Nat):Nat:=(min (max vr 0) n).toNat
theorem b5L (w:World) (g:Nat) (a:Option Addr) (cap:Nat) (l:List Ru) (c0:w.cell? ⟨g,0,none⟩=some (.slice a l.length cap)) (hv:Q5 w (.slice a l.length cap) l) (hll:l.length<=1000) (vr:Int):
 Calls Tryz.prog 53 #[.pointer (some ⟨g,0,none⟩),.int .i64 vr] w (b5K w l (X0 vr l.length)):=by
 have hcap:l.length<=cap:=by obtain ⟨-,a',c',h,h2, -⟩:=hv.rd;cases h;exact h2
 obtain ⟨n,hn⟩:∃n,X0 vr l.length=n:=⟨_,rfl⟩;have hnn:min (max vr 0) (l.length:Int)=n:=by unfold X0 at hn;omega
 have hnl:n<=l.length:=zo
 rw [hn];have bG:(n:Int)<=cap:=zo
 have hn0:(0:Int)<=n:=zo
 have hv2:=hv.take hnl;have hl2:(l.take n).length=n:=by rw [List.length_take];omega
 rw [show Value.slice a n cap=Value.slice a (l.take n).length cap by rw [hl2]] at hv2;refine hh4 hv hv2 hl2 hn fun Hv Cr jF Hn=> ?_;clear hv hv2 hl2 hn hcap
 go_enter Tryz.func53,Tryz.ntmps53
 go_wp2_with fail
 go_loopw [5,23] (fun ov i wr=>∃(j:Nat) (oa:Option Addr) (oc:Nat),i= .int .i64 j/\j<=n/\ov= .slice oa (atJ l n j).length oc/\g7 wr 36 8 (.slice oa (atJ l n j).length oc) (atJ l n j).length (rus (atJ l n j))/\(∀b,(Value.slice oa (atJ l n j).length oc).ownBlock=some b->w.heap.size<=b)/\Mod (fun _=>False) w wr) (fun _ i _=>n - (intOf i).toNat)
 case atStart=>exact ⟨0,none,0,rfl,Nat.zero_le _,rfl,g7.nil _ _ _,fun b hb=>(by cases hb),Mod.refl _ _⟩
 case round=>
  obtain ⟨j,oa,oc,rfl,hj,rfl,how,ik,hmr⟩:=hrel;by_cases hlt:j<n
  ·have hlt':(j:Int)<n:=zo
   obtain ⟨x,hxj⟩:∃x,(l.take n)[j]? =some x:=⟨_,zz5 (by rw [jF.out];exact hlt)⟩;obtain ⟨g2,off,rfl,hf⟩:∃g2 off,a=some ⟨g2,off,none⟩/\d8 wr g2 (off+j*8) x.cells:=a0a (Cr.out.mod hmr) hxj;obtain ⟨wz,hwz,ag,aj,aF⟩:=g6 wr (.cells x.cells.toArray 36);have hmz:=hmr.trans ag zi;have hsu:=b1W hxj;have hjl:=b4q l n j;obtain ⟨acc,hacc⟩:∃acc,atJ l n j=acc:=⟨_,rfl⟩;obtain ⟨nx,hnx⟩:∃nx,atJ l n (j+1)=nx:=⟨_,rfl⟩;obtain ⟨G,hG⟩:∃G,V7 (l.map Ru.pru) j n=G:=⟨_,rfl⟩;rw [hacc] at how ik hsu hjl⊢;rw [hnx,hG] at hsu;have KA:n<=1000:=zo
   have hgo:=a8P wz g (some ⟨g2,off,none⟩) cap l (hmz.cell c0 id) (Hv.out.mod hmz) hll j n hnl;rw [hG] at hgo;have dA:=how.mod ag zi;have k0:wz.cell? ⟨wr.heap.size,0,none⟩=some (.int .i64 x.kind):=d6 aj rfl;refine hh8 hmr hxj hf hwz ag aj hmz hsu fun aL dX Hf aX bE aJ bC dM=> ?_;refine hh5 hgo dA ik hnx hacc fun sV fI gz fD Tk=> ?_;clear hmr hxj hf hwz ag aj hmz hsu hgo dA ik hnx hacc aF how;by_cases hk4:x.kind=4
   ·have hn2:nx=acc:=by rw [dM.out,decide_eq_true hk4];simp
    have hb4:(x.kind !=4)=false:=by simp [hk4]
    refine hh1 hn2 fun tO=> ?_;clear hn2
    go_wp2_with (first|((with_reducible refine e9 36 (.tmp 26) ?_);refine ⟨g2,off+j*8,rfl,x.cells,Hf.out,zk,zk, ?_⟩)|((with_reducible refine d9 36 (.tmp 7) (.tmp 27) ?_);refine ⟨rfl,x.cells,rfl,rfl,zk,rfl, ?_⟩;rw [aX.out]))
    go_roundw
    case rel=>exact ⟨j+1,oa,oc,by go_num,hlt,by rw [fD.out,tO.out],by rw [fD.out,tO.out];exact fI.out,by rw [fD.out,tO.out];exact gz.out,bC.out⟩
    case measure=>simp [intOf];omega
   have hb4:(x.kind !=4)=true:=by simpa using hk4
   go_wp2_with (first|((with_reducible refine e9 36 (.tmp 26) ?_);refine ⟨g2,off+j*8,rfl,x.cells,Hf.out,zk,zk, ?_⟩)|((with_reducible refine d9 36 (.tmp 7) (.tmp 27) ?_);refine ⟨rfl,x.cells,rfl,rfl,zk,rfl, ?_⟩;rw [aX.out]))
   refine sV.out.mono ?_;rintro e w3 ⟨rfl,au⟩;have aR:=bC.out.trans au zi;have dH:=fI.out.mod au zi;have hg3:=au.heap aJ.out id
   cases G with
   |true=>
    have hn2:nx=acc:=by rw [dM.out];simp
    refine hh5 hn2 aR dH hg3 au fun tO aT gF gP aZ=> ?_;clear hn2 aR dH hg3 au
    go_wp2_with fail
    go_roundw
    case rel=>exact ⟨j+1,oa,oc,by go_num,hlt,by rw [fD.out,tO.out],by rw [fD.out,tO.out];exact gF.out,by rw [fD.out,tO.out];exact gz.out,aT.out⟩
    case measure=>simp [intOf];omega
   | false=>
    have hn2:nx=acc++[x]:=by rw [dM.out,decide_eq_false hk4];rfl
    obtain ⟨wS,yE,jP,yF,yG⟩:=g6 w3 (.cells x.cells.toArray 36);have hrd:i8 wS 8 (.slice (some ⟨w3.heap.size,0,none⟩) 1 1) 1 x.cells:=yE▸i8.one w3 x.cells 36 rfl;have Dk:w3.alloc (.cells #[.int .i64 x.kind,.int .i64 x.tenant,.string x.who,.int .i64 x.broker,.string x.sc,.slice x.ca x.cs.length x.cc,.string x.name,.int .i64 x.at_] 36)=wS:=yE;have hownS:=dH.mod jP zi;have pV:=aR.trans jP zi;have hone:∀u∈x.cells,u.oneCell'=true:=fun u hu=>zz15 (show x.cells.all (·.oneCell')=true from rfl) u hu;have hlen:nx.length=acc.length+1:=by rw [hn2];simp
    have Dl:rus acc++x.cells=rus nx:=by rw [hn2,a3Q,a3R];simp [rus]
    refine hh8 hrd Dk hownS pV hone hlen Dl hg3 fun gG KC pW pX aI Hlen KD gP=> ?_;refine hh3 aR au dH fun aT aZ gF=> ?_;clear hrd Dk hownS pV hone hlen Dl hg3 aR au dH yE jP yF yG hn2
    go_wp2_with (first|((with_reducible refine e9 36 (.tmp 7) ?_);refine ⟨wr.heap.size,0,rfl,[.int .i64 x.kind,.int .i64 x.tenant,.string x.who,.int .i64 x.broker,.string x.sc,.slice x.ca x.cs.length x.cc,.string x.name,.int .i64 x.at_],d8.row gP.out,zk,zk, ?_⟩)|(rw [show w3.alloc _=wS from KC.out])|((with_reducible refine l6 (.tmp 38) (.tmp 40) 42 ?_);refine ⟨rfl,36,8,104,a3J,.slice oa acc.length oc,acc.length,rus acc,rfl,pW.out,_,1,x.cells,rfl,gG.out,aI.out,zo,by unfold maxLen;omega, ?_⟩;intro ad cap2 w4 hA;have HA:=Lib.hid hA;clear hA))
    have hown5:=HA.out.1;rw [KD.out,<-Hlen.out] at hown5
    have fA:∀b,(Value.slice ad nx.length cap2).ownBlock=some b->w.heap.size<=b:=fun b hb=>by
     rw [Hlen.out] at hb;rcases HA.out.2.2 with h|⟨k,h,hk⟩
     ·exact gz.out b (by rw [<-h];exact hb)
     have h2:(Value.slice ad (acc.length+1) cap2).ownBlock=some b:=hb;rw [h] at h2;cases h2;have:=pX.out.size;omega
    have bD:Mod (fun _=>False) w w4:=pX.out.upon HA.out.2.1 (fun b hb=> .inr (gz.out b hb));refine hh3 hown5 fA bD fun pY mf bK=> ?_;clear hown5 fA bD HA
    go_roundw
    case rel=>exact ⟨j+1,ad,cap2,by go_num,hlt,by rw [fD.out,Hlen.out],by rw [fD.out];exact pY.out,by rw [fD.out];exact mf.out,bK.out⟩
    case measure=>simp [intOf];omega
  obtain rfl:j=n:=zo
  have he:=b4p l hnl;rw [he] at how ik⊢;refine hh3 how ik hmr fun How gz aL=> ?_;clear how ik hmr
  go_wp2
  go_ret;exact ⟨_,rfl,How.out,gz.out,aL.out⟩
def b6w (g B:Nat) (s:Value) (k:PRu) (na:Option Addr) (nc:Nat) (y:World):Prop:=a2a g B s k na nc y
def A3 (L:List PRu) (at_:Int) (p:PRu):Bool:=decide (at_=L.length)&&decide (R2 L p=0)
def BS.learn (B:BS) (at_:Int) (p:PRu):BS:={B with L:=if A3 B.L at_ p then I9 B.L p else B.L}
def a9X {w0:World} {q:Nat} {sid:Int} (O:D5 w0 q sid) (w:World) (ow:Ow) (c g:Nat) (id:Int) (near:List Int) (B:BS) (s:O.σ) (at_:Int) (p:PRu) (frm:Int) (e:Ending) (w':World):Prop:=
 e= .returned (.bool (A3 B.L at_ p))/\∃ow',Bro w' ow' c g id near (B.learn at_ p)/\O.inv w' ow' (O.sends s (if A3 B.L at_ p then I3 near frm at_ p else []))/\Mov (fun t=>(t=c\/t=c+17)\/O.tg t) w ow w' ow'
def b1X {w0:World} {q:Nat} {sid:Int} (O:D5 w0 q sid) (wa:World) (ow:Ow) (c g:Nat) (id:Int) (near:List Int) (B:BS) (a:BAd) (s:O.σ) (at_:Int) (p:PRu) (frm:Int) (i:Value) (wr:World):Prop:=
 ∃(j:Nat) (owr:Ow),i= .int .i64 j/\j<=near.length/\M0 wr owr c g id near B a/\O.inv wr owr (O.sends s (I3 (near.take j) frm at_ p))/\Mov (fun t=>(t=c\/t=c+17)\/O.tg t) wa ow wr owr/\Owd w0 wr owr
theorem a6C {near:List Int} {j:Nat} {n:Int} (h:near[j]? =some n) (frm i:Int) (p:PRu):I3 (near.take (j+1)) frm i p=I3 (near.take j) frm i p++if n==frm then [] else [(n, -1,Mg.pol i p)]:=by
 unfold I3;rw [List.take_add_one,h,Option.toList_some,List.filter_append,List.map_append];congr 1;by_cases e:n=frm
 ·subst e;simp
 have:(n==frm)=false:=by simpa using e
 simp [this]
theorem Z6 (near:List Int) (frm i:Int) (p:PRu):(I3 near frm i p).length<=near.length:=by
 unfold I3;rw [zz10];exact List.length_filter_le _ _
theorem M0.logged {w0 w w':World} {ow ow':Ow} {c g:Nat} {id:Int} {near:List Int} {B:BS} {a:BAd} (h:M0 w ow c g id near B a) (hw:Owd w0 w ow) (s:Mov (fun t=>t=c\/t=c+17) w ow w' ow') {v':Value} {L':List Lr} {P:List PRu} (hl:M5 w' ow' c (c+17) g (a.rest id) 118 v' L') (hp:L'.map Prod.fst=P):M0 w' ow' c g id near {B with L:=P} {a with v:=v'}:=by
 have hc:=h.c2;exact ⟨h.c2,⟨L',hl,hp⟩,h.near.mov s zo zo,fun t ht=>(h.rea t ht).mov hw s zo ⟨zo,zo,zo,zo⟩ h.c2⟩
theorem b1Y (w0 w:World) (ow:Ow) (c g:Nat) (id:Int) (near:List Int) (B:BS) (hw:Owd w0 w ow) (h:Bro w ow c g id near B) (hL:B.L.length<=40) (q:Nat) (sid:Int) (O:D5 w0 q sid) (s:O.σ) (hO:O.inv w ow s) (je:∀t,O.tg t->t<c\/c+18<=t)
 (hcnt:O.cnt s+near.length<=400000000000) (hnl:near.length<=1000) (hto:∀n∈near,O.okTo n (-1)) (at_:Int) (p:PRu) (ra:Option Addr) (rc:Nat) (hx:a5p w ow (p,ra,rc)) (frm:Int):
 Calls Tryz.prog 73 #[.pointer (some ⟨g,0,none⟩),.iface 138 (.agg #[.pointer (some ⟨q,0,none⟩),.int .i64 sid]),.int .i64 at_,.agg (p.lies ra rc).cells.toArray,.int .i64 frm] w (a9X O w ow c g id near B s at_ p frm):=by
 obtain ⟨a,h⟩:=h;obtain ⟨L,aQ,mh⟩:=h.log;have fG:L.length=B.L.length:=by rw [<-mh,zz10]
 obtain ⟨av,acap,kJ,Dm⟩:∃a' cc,a.v= .slice a' L.length cc/\L.length<=cc:=by obtain ⟨-,a,cc,h,h2, -⟩:=aQ.sl.sl.rd;exact ⟨a,cc,h,h2⟩
 rw [kJ] at aQ;obtain ⟨wa,ak,ae,aa,ah⟩:=g6 w (.cells (p.lies ra rc).cells.toArray 36);have hgl:=(zz7 aQ.row).1;have hgg:=ae.heap aQ.row (fun h=>h);have jQ:Mov (fun _=>False) w ow wa ow:=Mov.of hw ae _;have tQ:=jQ.owd hw (fun h=>h);have mq:M0 wa ow c g id near B a:=h.mov hw jQ (fun h=>h) (fun _ h=>h.elim);have qb:=aQ.mov jQ (fun h=>h) (fun h=>h) (fun h=>h);have OV:=O.mov hO hw jQ (fun h=>h) (fun _ h=>h.elim);have hxa:=hx.mov jQ (fun h=>h);have hlen:=fun (wx:World) (hx:Mod (fun _=>False) wa wx)=>R3 wx g av L.length acap (hx.cell (d6 hgg rfl) (fun h=>h));have Td:w.heap.size<wa.heap.size:=zo
 have hB0:ow w.heap.size=0:=hw.zero (Nat.le_refl _);have hc2:=h.c2;have OW:=hO
 have hadd:∀wx,Mod (fun _=>False) wa wx->Calls Tryz.prog 50 #[.pointer (some ⟨g,0,none⟩),.agg (p.lies ra rc).cells.toArray] wx (a5B wx ow c (c+17) g (a.rest id) 118 L p):=fun wx hm=>by
  have hmv:=Mov.of tQ hm (fun _=>False);exact a8Y w0 wx ow c (c+17) g (a.rest id) 118 (.slice av L.length acap) L (hmv.owd tQ (fun h=>h)) ⟨hc2,zo⟩ (qb.mov hmv (fun h=>h) (fun h=>h) (fun h=>h)) zo p ra rc ((hxa.mov hmv (fun h=>h)).cs.rd) hx.fine
 have Tn:L.length<=40:=zo
 refine hh8 hw h aQ kJ ak ae aa hgg fun Hw H jd OX aB ai aC KE=> ?_;refine hh8 jQ mq qb OV hxa hlen tQ je fun Dn H9 OY Tp Hxa Hlen yH mr=> ?_;refine hh7 hB0 hx mh hto OW hadd fG fun HB0 Hx OZ qd Tq jb Ia=> ?_;clear hw h aQ kJ ak ae aa hgg jQ mq qb OV hxa hlen tQ je hB0 hx mh hto OW hadd fG ah hO Dm hL;by_cases hat:at_=L.length;rotate_left
 ·have hok:A3 B.L at_ p=false:=by unfold A3;rw [decide_eq_false (by rw [<-Ia.out];exact hat),Bool.false_and]
  have hb1:(at_ !=(L.length:Int))=true:=by simpa using hat
  have hpl:∀wx,Mod (fun _=>False) wa wx->Calls Tryz.prog 13 #[.pointer (some ⟨g,0,none⟩)] wx fun e w'=>e= .returned (.int .i64 L.length)/\Mod (fun _=>False) wa w':=fun wx hx=>(Hlen.out wx hx).mono fun e w' ⟨he,hm⟩=>⟨he,hm▸hx⟩;refine hh2 hok hpl fun bY Hpl=> ?_;clear hok hpl
  go_enter Tryz.func73,Tryz.ntmps73
  go_wp2_with (rw [show w.alloc _=wa from aB.out])
  refine g9 zk zk ?_
  iterate 14 (first
   | (refine j1 ?_ (fun K hK=> ?_)
      ·first|(go_simp;done)|(go_simp;simp [undef];done)
      go_simp;refine hK _ ?_;clear hK K)
   | (refine l9 ?_ ?_ (fun w' hw'=> ?_) (fun K hK=> ?_)
      ·first|(go_simp;done)|(go_simp;simp [undef];done)
      rotate_left
      ·skip
       go_simp;rfl
      go_simp;refine hK _ ?_;clear hK K)
   | (refine q7 ?_ ?_ ?_ ?_ (fun w' hw'=> ?_) ?_ (fun K hK=> ?_)
      ·first|(go_simp;done)|(go_simp;simp [undef];done)
      rotate_left 3
      ·skip
       go_simp;constructor<;>rfl
      ·first|with_reducible exact Hpl.out
      go_simp;refine hK _ ?_;clear hK K))
  refine j8 (fun w' hw'=> ?_);have hmx:Mod (fun _=>False) w w':=ai.out.trans hw' zi;refine hh1 hmx fun nI=> ?_;clear hmx hw'
  go_wp2
  go_ret;refine ⟨by rw [bY.out];rfl,ow,⟨a, ?_⟩, ?_,Mov.of Hw.out nI.out _⟩
  ·unfold BS.learn;rw [bY.out];exact H.out.mov Hw.out (Mov.of Hw.out nI.out (fun _=>False)) (fun h=>h) (fun _ h=>h.elim)
  rw [bY.out];exact O.mov Tq.out Hw.out (Mov.of Hw.out nI.out (fun _=>False)) (fun h=>h) (fun _ h=>h.elim)
 subst hat;obtain ⟨R,hR⟩:∃R,R2 B.L p=R:=⟨_,rfl⟩;have hS:b6w g w.heap.size (.slice av L.length acap) p ra rc wa.drew:=a2a.at (y:=wa.drew) KE.out aC.out;refine hh1 hR fun HR=> ?_;clear hR
 go_enter Tryz.func73,Tryz.ntmps73
 go_wp2_with (rw [show w.alloc _=wa from aB.out])
 refine i6 [.rd 0,.rd 1,.rd 2,.rd 3,.go 4,.rd 5,.rd 6,.rd 7,.rd 8,.rd 9,.rd 10,.go 11,.go 12,.go 13] [0,1,2,3,4,5,6,7,8,9,10] (b6w g w.heap.size (.slice av L.length acap) p ra rc) zk zk (fun _ _ d _ _ h=>(by cases d<;>exact h)) ?_
 iterate 4 (
  refine wrd hS fun K hK=> ?_
  go_simp;refine hK _ ?_;clear hK K)
 refine wgo fun K hK=> ?_
 go_wp2_with fail
 refine (Hlen.out wa.drew ((Mod.refl _ wa).drew)).mono ?_;rintro e w1 ⟨rfl,rfl⟩;refine hK _ _ (fun _ h=>h) ?_;clear hK K
 iterate 6 (
  refine wrd hS fun K hK=> ?_
  go_simp;refine hK _ ?_;clear hK K)
 refine wgo fun K hK=> ?_
 go_wp2_with fail
 refine (jb.out wa.drew ((Mod.refl _ wa).drew)).mono ?_;rintro e w2 ⟨rfl,ow2,v2,L2,hl2,hp2,hm2⟩;rw [OZ.out] at hp2;rw [OZ.out,HR.out];have mD:Mov (fun t=>t=c\/t=c+17) wa ow w2 ow2:=⟨((Mod.refl _ wa).drew).trans hm2.md zi,hm2.old,hm2.new,hm2.top⟩;have Dp:=H9.out.logged yH.out mD hl2 hp2;have hO2:=O.mov Tp.out yH.out mD zo (fun t e ht=>by have:=mr.out t ht;omega);have aG:=mD.owd yH.out zo;have cZ:Mov (fun t=>(t=c\/t=c+17)\/O.tg t) w ow w2 ow2:=(Dn.out.mono (fun _ h=>h.elim)).trans (mD.mono (fun _ h=> .inl h));refine hK _ _ (fun h=>absurd h zd) ?_;clear hK K hS;refine hh8 hl2 hp2 hm2 mD Dp hO2 aG cZ fun jF NU aS KF yI vw dN KG=> ?_;clear hl2 hp2 hm2 mD Dp hO2 aG cZ;by_cases hR0:R=0;rotate_left
 ·have hok:A3 B.L L.length p=false:=by unfold A3;rw [HR.out,decide_eq_false hR0,Bool.and_false]
  have hb1:(R !=0)=true:=by simpa using hR0
  have BX:I9 B.L p=B.L:=by unfold I9;rw [HR.out,if_neg hR0]
  refine hh2 hok BX fun bY Tt=> ?_;clear hok BX;refine wgo fun K hK=> ?_;(try simp only [zz1,zz2,zz3]);go_simp;refine hK _ _ (fun h=>absurd h zd) ?_;clear hK K;refine wgo fun K hK=> ?_;(try simp only [zz1,zz2,zz3]);go_simp;refine hK _ _ (fun h=>absurd h zd) ?_;clear hK K;refine p8 ?_
  go_wp2_with fail
  go_ret;refine ⟨by rw [bY.out];rfl,ow2,⟨{a with v:=v2}, ?_⟩, ?_,KG.out⟩
  ·unfold BS.learn;rw [bY.out];have:=yI.out;rw [Tt.out] at this;exact this
  rw [bY.out];exact vw.out
 subst hR0;have hb1:((0:Int) !=0)=false:=rfl;have hok:A3 B.L L.length p=true:=by unfold A3;rw [HR.out,decide_eq_true (show ((L.length:Nat):Int)=B.L.length by rw [Ia.out])];rfl
 have tT:=yI.out;have dS:=tT.near;obtain ⟨na,nc,kI,hnc⟩:∃a' cc,a.nv= .slice a' near.length cc/\near.length<=cc:=by obtain ⟨-,a,cc,h,h2, -⟩:=dS.rd;exact ⟨a,cc,h,h2⟩
 obtain ⟨L3,hl3, -⟩:=tT.log;have c2n:w2.cell? ⟨g,2,none⟩=some (.slice na near.length nc):=by rw [<-kI];exact d6 hl3.row rfl
 have Dq:(near.length:Int)<=1000:=zo
 have hnc':(near.length:Int)<=nc:=zo
 refine hh6 hok tT dS kI hl3 hnc fun bY Tu kK yJ Sa Xa=> ?_;clear hok tT dS kI hl3 hnc;refine wgo fun K hK=> ?_;(try simp only [zz1,zz2,zz3]);go_simp;refine hK _ _ (fun h=>absurd h zd) ?_;clear hK K;refine wgo fun K hK=> ?_;(try simp only [zz1,zz2,zz3]);go_simp;refine hK _ _ (fun h=>absurd h zd) ?_;clear hK K;refine p8 ?_
 go_wp2_with fail
 go_loopw [32] (fun i wr=>b1X O wa ow c g id near {B with L:=I9 B.L p} {a with v:=v2} s L.length p frm i wr) (fun i _=>near.length - (intOf i).toNat)
 case atStart=>exact ⟨0,ow2,rfl,Nat.zero_le _,yI.out,vw.out,KF.out.mono (fun _ h=> .inl h),dN.out⟩
 case round=>
  obtain ⟨j,owr,rfl,hj,hbr,fP,hmr,how⟩:=hrel
  have qf:¬((0=c\/0=c+17)\/O.tg 0):=fun h=>by
   rcases h with h|h
   ·omega
   have:=O.t2 0 h;omega
  by_cases hlt:j<near.length
  ·have hlt':(j:Int)<near.length:=zo
   obtain ⟨n,gT⟩:∃x,near[j]? =some x:=⟨_,zz5 hlt⟩;have hnm:=zz8 gT;have hrd:=hbr.near.rd;rw [show ({a with v:=v2}:BAd).nv= .slice na near.length nc from yJ.out] at hrd;obtain ⟨gn,offn,rfl,hcn⟩:=a3A hrd gT;have hsu:=a6C gT frm L.length p;by_cases hnf:n=frm
   ·have hq:(n !=frm)=false:=by simpa using hnf
    rw [if_pos (by simpa using hnf),zz11] at hsu;refine hh8 hbr fP hmr how hsu gT hrd hnm fun bZ qg aL How dM AA gG gY=> ?_;clear hbr fP hmr how hsu gT hrd hnm qf
    go_wp2_with fail
    go_roundw
    case rel=>exact ⟨j+1,owr,by go_num,hlt,bZ.out,by rw [dM.out];exact qg.out,aL.out,How.out⟩
    case measure=>simp [intOf];omega
   have hq:(n !=frm)=true:=by simpa using hnf
   rw [if_neg (by simpa using hnf)] at hsu
   have hgr:wr.heap[w.heap.size]? =some (.cells ([.int .i64 p.kind,.int .i64 p.tenant,.string p.who,.int .i64 p.broker,.string p.sc,.slice ra p.cs.length rc,.string p.name,.int .i64 p.at_]:List Value).toArray 36 (0,0)):=hmr.md.heap aC.out (fun hf=>qf (by
    have hf':(ow w.heap.size=c\/ow w.heap.size=c+17)\/O.tg (ow w.heap.size):=hf;rw [HB0.out] at hf'
    exact hf'))
   have hls:(I3 (near.take j) frm L.length p).length<=1000:=Nat.le_trans (Z6 _ _ _ _) (by rw [List.length_take];omega);have hct:=O.sends_cnt s (I3 (near.take j) frm L.length p);have KH:(I3 (near.take j) frm L.length p).length<=near.length:=Nat.le_trans (Z6 _ _ _ _) (by rw [List.length_take];omega);have hmv:R4 wr owr ⟨Mg.pol L.length p,ra,rc,none,0,none,0⟩:=⟨(Hxa.out.mov hmr qf).cs,q6.nil _ _ _,q6.nil _ _ _⟩
   have hsend:Calls Tryz.prog 302 #[.agg #[.pointer (some ⟨q,0,none⟩),.int .i64 sid],.int .i64 n,.int .i64 (-1),.agg #[.int .i64 0,.int .i64 L.length,.int .i64 p.kind,.int .i64 p.tenant,.string p.who,.int .i64 p.broker,.string p.sc,.slice ra p.cs.length rc,.string p.name,.int .i64 p.at_,
    .string ⟨#[]⟩,.slice none 0 0,.string ⟨#[]⟩,.slice none 0 0,.int .i64 0,.string ⟨#[]⟩,.int .i64 0]] wr fun e w'=>e= .returned (.tuple #[])/\∃ow',O.inv w' ow' (O.send (O.sends s (I3 (near.take j) frm L.length p)) n (-1) (Mg.pol L.length p))/\Mov O.tg wr owr w' ow':=
    O.hsend how fP zo (qd.out n hnm) hmv
   refine hh8 hbr fP hmr how hsu gT hrd hnm fun bZ qg aL How dM AA gG gY=> ?_;refine hh3 hgr hsend hmv fun tV jf kL=> ?_;clear hbr fP hmr how hsu gT hrd hnm hgr hsend hmv hct hls KH qf
   go_wp2_with ((with_reducible refine e9 36 (.tmp 8) ?_);refine ⟨w.heap.size,0,rfl,[.int .i64 p.kind,.int .i64 p.tenant,.string p.who,.int .i64 p.broker,.string p.sc,.slice ra p.cs.length rc,.string p.name,.int .i64 p.at_],d8.row tV.out,zk,zk, ?_⟩)
   refine jf.out.mono ?_;rintro e w3 ⟨rfl,ow3,hO3,au⟩;have ht0:¬O.tg 0:=fun h=>by have:=O.t2 0 h;omega
   have hb3:=bZ.out.mov How.out au ht0 (fun t ht=>mr.out t ht);have dH:=au.owd How.out ht0;have Dr:=aL.out.trans (au.mono (fun _ h=> .inr h));refine hh5 hO3 au hb3 dH Dr fun uR aZ Hb3 gF KI=> ?_;clear hO3 au hb3 dH Dr ht0
   go_wp2_with fail
   go_roundw
   case rel=>exact ⟨j+1,ow3,by go_num,hlt,Hb3.out,by rw [dM.out,O.sends_one];exact uR.out,KI.out,gF.out⟩
   case measure=>simp [intOf];omega
  obtain rfl:j=near.length:=zo
  rw [List.take_length] at fP;have aP:=(Dn.out.mono (G:=fun t=>(t=c\/t=c+17)\/O.tg t) (fun _ h=>h.elim)).trans hmr;refine hh5 hbr fP hmr how aP fun bZ qg aL How dK=> ?_;clear hbr fP hmr how aP qf
  go_wp2
  go_ret;refine ⟨by rw [bY.out];rfl,owr,⟨{a with v:=v2}, ?_⟩, ?_,dK.out⟩
  ·unfold BS.learn;rw [bY.out];exact bZ.out
  rw [bY.out];exact qg.out
theorem M0.logs {w:World} {ow:Ow} {c g:Nat} {id:Int} {near:List Int} {B:BS} {a:BAd} (h:M0 w ow c g id near B a):
 ∃(l:List Ru) (la:Option Addr) (lc:Nat),l.map Ru.pru=B.L/\l.length=B.L.length/\a.v= .slice la l.length lc/\w.cell? ⟨g,0,none⟩=some (.slice la l.length lc)/\Q5 w (.slice la l.length lc) l/\(∀r∈l,r.pru.fine/\q6 w ow 7 r.cv r.cs.length (q8 r.cs)):=by
 obtain ⟨L,hl,hL⟩:=h.log;obtain ⟨la,lc,hv, -⟩:∃a' cc,a.v= .slice a' L.length cc/\L.length<=cc:=by obtain ⟨-,a,cc,h,h2, -⟩:=hl.sl.sl.rd;exact ⟨a,cc,h,h2⟩
 have hn:(L.map Lr.ru).length=L.length:=zz10 _;refine ⟨L.map Lr.ru,la,lc,by rw [a5s];exact hL,by rw [hn,<-hL,zz10],by rw [hn];exact hv,by rw [hn,<-hv];exact d6 hl.row rfl, ?_,fun r hr=> ?_⟩
 ·have:=hl.sl.ru;rw [hn,<-hv];exact this
 obtain ⟨x,hx,rfl⟩:=List.mem_map.1 hr;have h1:=hl.sl.each x hx;exact ⟨by rw [b1I];exact h1.fine,h1.cs⟩
theorem M0.at_ {w:World} {ow:Ow} {c g:Nat} {id:Int} {near:List Int} {B:BS} {a:BAd} (h:M0 w ow c g id near B a) (hL:B.L.length<=40):
 ∃l:List Ru,l.map Ru.pru=B.L/\(∀r∈l,r.pru.fine/\q6 w ow 7 r.cv r.cs.length (q8 r.cs))/\(∀wx,Mod (fun _=>False) w wx->Calls Tryz.prog 13 #[.pointer (some ⟨g,0,none⟩)] wx fun e w'=>e= .returned (.int .i64 B.L.length)/\wx=w')/\
  ∀wx (vr:Int),Mod (fun _=>False) w wx->Calls Tryz.prog 53 #[.pointer (some ⟨g,0,none⟩),.int .i64 vr] wx fun e w'=>∃v,e= .returned v/\Q5 w' v (atR l (X0 vr B.L.length))/\(∀b,v.ownBlock=some b->wx.heap.size<=b)/\Mod (fun _=>False) wx w':=by
 obtain ⟨l,la,lc,h1,h2,h3,h4,h5,h6⟩:=h.logs;refine ⟨l,h1,h6,fun wx hx=> ?_,fun wx vr hx=> ?_⟩
 ·have:=R3 wx g la l.length lc (hx.cell h4 (fun h=>h));rw [h2] at this;exact this
 have hr:=h5.mod hx;have:=b5L wx g la lc l (hx.cell h4 (fun h=>h)) hr zo vr;rw [h2] at this;exact this.mono fun e w' ⟨v,he,ho,hb,hm⟩=>⟨v,he,⟨ho.rd,fun r hr'=>(hr.ok r (a8Z hr')).mod hm⟩,hb,hm⟩
theorem b4r (l:List Ru) (n:Nat):(atR l n).length<=l.length:=by
 unfold atR;refine Nat.le_trans (List.length_filterMap_le _ _) ?_;rw [List.length_zipIdx,List.length_take];omega
def b5M (id:Int):Option Int->Bool
 |some x=>decide (x=id)
 |none=>false
def BS.there (B:BS) (id:Int) (tenant:Int) (who:ByteArray):Bool:=b5M id (a1A (atP B.L B.L.length) tenant who)
end Go.Proofs.YtdmjoodhaeijmaaGreatDoor
