/- Lemmas. -/
import Derived.Test.YtaenebdppkjhoaaGreatDoorZg32
import Derived.Test.YtaenebdppkjhoaaGreatDoorZg31
import Derived.Test.YtaenebdppkjhoaaGreatDoorZg35
namespace Go.Proofs.YtaenebdppkjhoaaGreatDoor
set_option maxRecDepth 20000
set_option maxHeartbeats 40000000
section
open Go.RowKit
theorem Z1:D8 Tryz.prog 22 35 8 104:=O4 (by kernel_rfl) (by kernel_rfl)
theorem b1v:D8 Tryz.prog 31 132 7 72:=O4 (by kernel_rfl) (by kernel_rfl)
def a2C (w:World) (ow:Ow) (c d g:Nat) (rest:List Value) (t:TypeId) (L:List Lr) (p:PRu) (e:Ending) (w':World):Prop:=
 e= .returned (.int .i64 (a1G (L.map Prod.fst) p))/\∃(ow':Ow) (v':Value) (L':List Lr),J4 w' ow' c d g rest t v' L'/\L'.map Prod.fst=P8 (L.map Prod.fst) p/\Mov (fun t=>t=c\/t=d) w ow w' ow'
theorem J4.app {w0 w wz w6 w7:World} {ow:Ow} {c d g:Nat} {rest:List Value} {t:TypeId} {v v':Value} {L:List Lr} {x:Lr} (_hw:Owd w0 w ow) (h2:2<=c/\2<=d) (h:J4 w ow c d g rest t v L) (hz:Mod (fun _=>False) w wz)
 (hxo:i7 wz 132 7 x.ru.cv x.1.cs.length (l6 x.1.cs)) (hxb:∀b,x.ru.cv.ownBlock=some b->w.heap.size<=b) (hxf:x.1.fine)
 (hA:t8 wz 35 8 v (L.length+1) (rus (L.map Lr.ru)++x.ru.cells) v' w6) (h7:w7.heap[g]? =some (.cells (v'::rest).toArray t (0,0))) (hm7:Mod (fun k=>k=g) w6 w7):
 ∃ow',J4 w7 ow' c d g rest t v' (L++[x])/\Mov (fun t=>t=c\/t=d) w ow w7 ow':=by
 obtain ⟨hA1,hA2,hA3⟩:=hA;have hgl:=(zz7 h.row).1;have hzs:=hz.size;have hsz:=hA2.size;have hs7:=hm7.size;have hvb:∀b,v.ownBlock=some b->b<w.heap.size:=fun b hb=>h.sl.sl.lt b hb;have hmA:Mod (j1 v) w w6:=(hz.mono (fun _ _ h=>h.elim)).trans hA2 (fun b hb h=>h)
 have hmF:Mod (fun k=>ow k=c\/ow k=d) w w7:=by
  refine (hmA.mono (fun k _ hk=> .inr (h.sl.vb k hk).1)).trans hm7 (fun k _ hk=> ?_);have hk':k=g:=hk;rw [hk'];exact .inl h.tag
 have hv'b:∀b,v'.ownBlock=some b->(v.ownBlock=some b/\b<w.heap.size)\/(wz.heap.size<=b/\b<w7.heap.size):=fun b hb=>by
  rcases hA3 with e|⟨k,e,hk⟩
  ·rw [e] at hb;exact .inl ⟨hb,hvb b hb⟩
  have:=hA1.lt b hb;rw [hb] at e;cases e
  exact .inr ⟨hk,by omega⟩
 have hmv:Mov (fun t=>t=c\/t=d) w ow w7 (r8 w w7 ow (j1 v') (fun _=>True) d):=Mov.tag (.inr rfl) hmF
 have hv'g:∀b,v'.ownBlock=some b->b≠g:=fun b hb=>by
  rcases hv'b b hb with h1|h1
  ·exact (h.sl.vb b h1.1).2
  omega
 refine ⟨_,⟨h7,by rw [q7 hgl];exact h.tag, ?_,fun b hb=>⟨?_,hv'g b hb⟩,fun q hq=> ?_⟩,hmv⟩
 ·rw [zz4,List.map_append,a0Q];have e:rus ([x].map Lr.ru)=x.ru.cells:=by simp [rus]
  rw [e];exact hA1.mod hm7 (fun k hk e=>hv'g k hk e)
 ·rcases hv'b b hb with h1|h1
  ·rw [q7 h1.2];exact (h.sl.vb b h1.1).1
  exact F1 (by omega) h1.2 hb
 rcases zz14 hq with hq|hq
 ·exact (h.sl.each q hq).mov hmv (by omega)
 obtain rfl:=List.mem_singleton.1 hq;have hlt:=hxo.lt;have hnv:∀b,q.ru.cv.ownBlock=some b->¬j1 v b/\b≠g:=fun b hb=>⟨fun h1=>by have:=hvb b h1;have:=hxb b hb;omega,by have:=hxb b hb;omega⟩;refine ⟨⟨((hxo.mod hA2 (fun b hb=>(hnv b hb).1)).mod hm7 (fun b hb e=>(hnv b hb).2 e)).rd,fun _ b hb=> ?_⟩,hxf⟩;refine a04 (hxb b hb) (by have:=hlt b hb;omega) (fun h1=> ?_) trivial;rcases hv'b b h1 with h3|h3
 ·have:=hxb b hb;omega
 have:=hlt b hb;omega
def a1Q (g B:Nat) (s:Value) (k:PRu) (na:Option Addr) (nc:Nat) (y:World):Prop:=
 y.cell? ⟨g,0,none⟩=some s/\y.cell? ⟨B,0,none⟩=some (.int .i64 k.kind)/\y.cell? ⟨B,1,none⟩=some (.int .i64 k.tenant)/\y.cell? ⟨B,2,none⟩=some (.string k.who)/\y.cell? ⟨B,3,none⟩=some (.int .i64 k.broker)/\
  y.cell? ⟨B,4,none⟩=some (.string k.sc)/\y.cell? ⟨B,5,none⟩=some (.slice na k.cs.length nc)/\y.cell? ⟨B,6,none⟩=some (.string k.name)/\y.cell? ⟨B,7,none⟩=some (.int .i64 k.at_)
theorem a1Q.mod {g B:Nat} {s:Value} {k:PRu} {na:Option Addr} {nc:Nat} {y z:World} {F:Nat->Prop} (h:a1Q g B s k na nc y) (hm:Mod F y z) (h1:¬F g) (h2:¬F B):a1Q g B s k na nc z:=by
 obtain ⟨a0,a1,a2,a3,a4,a5,a6,a7,a8⟩:=h;exact ⟨hm.cell a0 h1,hm.cell a1 h2,hm.cell a2 h2,hm.cell a3 h2,hm.cell a4 h2,hm.cell a5 h2,hm.cell a6 h2,hm.cell a7 h2,hm.cell a8 h2⟩
theorem a1Q.at {g B:Nat} {s:Value} {k:PRu} {na:Option Addr} {nc:Nat} {y:World} {t:TypeId} {cs:List Value} (h1:y.heap[g]? =some (.cells (s::cs).toArray t (0,0))) (h2:y.heap[B]? =some (.cells (k.lies na nc).cells.toArray 35 (0,0))):a1Q g B s k na nc y:=
 ⟨d6 h1 rfl,d6 h2 rfl,d6 h2 rfl,d6 h2 rfl,d6 h2 rfl,d6 h2 rfl,d6 h2 rfl,d6 h2 rfl,d6 h2 rfl⟩
theorem a8u (w0 w:World) (ow:Ow) (c d g:Nat) (rest:List Value) (t:TypeId) (v:Value) (L:List Lr) (hw:Owd w0 w ow) (h2:2<=c/\2<=d) (h:J4 w ow c d g rest t v L) (hll:L.length<=40) (p:PRu) (ra:Option Addr) (rc:Nat)
 (hx:j0 w 7 (.slice ra p.cs.length rc) p.cs.length (l6 p.cs)) (hf:p.fine):
 Calls Tryz.prog 13 #[.pointer (some ⟨g,0,none⟩),.agg (p.lies ra rc).cells.toArray] w (a2C w ow c d g rest t L p):=by
 obtain ⟨a,cap,rfl,hcap⟩:∃a cc,v= .slice a L.length cc/\L.length<=cc:=by obtain ⟨-,a,cc,h,h2, -⟩:=h.sl.sl.rd;exact ⟨a,cc,h,h2⟩
 have hru:=h.sl.ru;have hLl:(L.map Lr.ru).length=L.length:=zz10 _;rw [<-hLl] at hru;obtain ⟨wa,hwa,hmwa,hgwa,hzwa⟩:=e8 w (.cells (p.lies ra rc).cells.toArray 35);have hgl:=(zz7 h.row).1;have c0:w.cell? ⟨g,0,none⟩=some (.slice a (L.map Lr.ru).length cap):=by rw [hLl];exact d6 h.row rfl
 have hch:=b1d wa g a cap (L.map Lr.ru) (hmwa.cell c0 (fun h=>h)) (hru.mod hmwa) (by omega) (p.lies ra rc) (hf.ok (hx.mod hmwa (fun _ _ h=>h)));rw [a8n,show (p.lies ra rc).pru=p from rfl] at hch;obtain ⟨R,hR⟩:∃R,a1G (L.map Prod.fst) p=R:=⟨_,rfl⟩;unfold a2C;rw [hR] at hch⊢;have hnm:=h.sl.sl;obtain ⟨Hw,H,Hru,Hch,HR,Hwa,Hmwa,Hgwa,Hx,Hf⟩:=zh10 hw h hru hch hR hwa hmwa hgwa hx hf;clear hw h hru hch hR hwa hmwa hgwa hx hf hnm
 go_enter Tryz.func13,Tryz.ntmps13
 go_wp2_with (first|(rw [show w.alloc _=wa from Hwa.out])|((with_reducible refine d9 35 (.tmp 3) ?_);refine ⟨w.heap.size,0,rfl,(p.lies ra rc).cells,e7.row Hgwa.out,by kernel_rfl,by kernel_rfl, ?_⟩)|fail)
 refine Hch.out.mono ?_;rintro e w1 ⟨rfl,hm1⟩;have hm01:=Hmwa.out.trans hm1 (fun _ _ h=>h);have hg1:=hm1.heap Hgwa.out (fun h=>h);by_cases hR0:R=0;rotate_left
 ·have hadd:P8 (L.map Prod.fst) p=L.map Prod.fst:=by unfold P8;rw [HR.out,if_neg hR0]
  obtain ⟨Hm01,Hadd,Hg1,Hm1⟩:=zh4 hm01 hadd hg1 hm1;clear hm01 hadd hg1 hm1
  go_wp2
  go_ret;exact ⟨rfl,ow,.slice a L.length cap,L,H.out.mov (Mov.of Hw.out Hm01.out (fun _=>False)) (fun h=>h) (fun h=>h) (fun h=>h),Hadd.out.symm,Mov.of Hw.out Hm01.out _⟩
 have hadd:P8 (L.map Prod.fst) p=L.map Prod.fst++[p.kept]:=by unfold P8;rw [HR.out,if_pos hR0]
 subst hR0;have e4:w1.cell? ⟨w.heap.size,4,none⟩=some (.string p.sc):=d6 hg1 rfl;have e5:w1.cell? ⟨w.heap.size,5,none⟩=some (.slice ra p.cs.length rc):=d6 hg1 rfl;have hx1:=Hx.out.mod hm01 (fun _ _ h=>h);have hfr:=D6 w1 p.sc (.slice ra p.cs.length rc) p.cs hx1 (by have:=Hf.out.len;omega) (by have:=Hf.out.sc;omega) (fun q hq=>by have:=(Hf.out.cs q hq).name;omega);have hzw:w.heap.size<wa.heap.size:=by omega
 obtain ⟨Hm01,Hadd,Hg1,Hm1,Hx1,Hfr⟩:=zh6 hm01 hadd hg1 hm1 hx1 hfr;clear hm01 hadd hg1 hm1 hx1 hfr hzwa
 go_wp2_with fail
 refine Hfr.out.mono ?_;rintro e w2 ⟨rfl,hm2⟩;have hm02:=Hm01.out.trans hm2 (fun _ _ h=>h);have hg2:=hm2.heap Hg1.out (fun h=>h);have hx2:=Hx1.out.mod hm2 (fun _ _ h=>h);have e4:w2.cell? ⟨w.heap.size,4,none⟩=some (.string p.sc):=d6 hg2 rfl;have e5:w2.cell? ⟨w.heap.size,5,none⟩=some (.slice ra p.cs.length rc):=d6 hg2 rfl
 cases hfb:j5 p.sc p.cs with
 | true=>
  have hfl:=K4 hfb;have hkp:p.kept={p with cs:=j2 p.cs}:=by unfold PRu.kept;rw [if_pos hfb]
  have hnr:=a0h w0 w2 (Hw.out.laid.mod0 hm02) p.sc (.slice ra p.cs.length rc) p.cs hx2 (by omega) Hf.out.cs;obtain ⟨nl,hnl⟩:∃nl,j2 p.cs=nl:=⟨_,rfl⟩;rw [hnl] at hnr hkp;obtain ⟨Hm02,Hg2,Hx2,Hfl,Hkp,Hnr,Hnl,Hfb,Hm2⟩:=zh9 hm02 hg2 hx2 hfl hkp hnr hnl hfb hm2;clear hm02 hg2 hx2 hfl hkp hnr hnl hfb hm2
  go_wp2_with fail
  refine Hnr.out.mono ?_;rintro e w3 ⟨na,nc,rfl,hno,hnb,hm3⟩;have hm03:=Hm02.out.trans hm3 (fun _ _ h=>h);have hg3:=hm3.heap Hg2.out (fun h=>h);have Hs2:=Lib.hid (Hm02.out.size);obtain ⟨k,hk⟩:∃k:PRu,{p with cs:=nl}=k:=⟨_,rfl⟩;have hkk:p.kept=k:=Hkp.out.trans hk;have hfk:k.fine:=by rw [<-hkk];exact Hf.out.kept
  have hkc:k.kind=p.kind/\k.tenant=p.tenant/\k.who=p.who/\k.broker=p.broker/\k.sc=p.sc/\k.cs=nl/\k.name=p.name/\k.at_=p.at_:=by subst hk;exact ⟨rfl,rfl,rfl,rfl,rfl,rfl,rfl,rfl⟩
  have hno5':=hno;obtain ⟨Hm03,Hg3,Hno,Hnb,Hm3,Hkk,Hfk,Hk⟩:=zh8 hm03 hg3 hno hnb hm3 hkk hfk hk;clear hm03 hg3 hno hnb hm3 hkk hfk hk
  go_wp2_with (first|((with_reducible refine r5 33 (.tmp 18) (.tmp 17) ?_);refine ⟨w.heap.size,4,rfl,_,_,Hg3.out,[.string p.sc,.slice na nl.length nc],rfl,Nat.le_of_ble_eq_true rfl,by kernel_rfl,rfl, ?_⟩;intro w5 he5 hm5;have hg5:w5.heap[w.heap.size]? =some (.cells ([.int .i64 p.kind,.int .i64 p.tenant,.string p.who,.int .i64 p.broker,.string p.sc,.slice na nl.length nc,.string p.name,.int .i64 p.at_]:List Value).toArray 35 (0,0)):=he5▸setRow_heap w3 w.heap.size _ _ _ _ Hg3.out;have Hg5':=Lib.hid hg5;have Hm5:=Lib.hid hm5;clear he5 hg5 hm5)|fail)
  have hg5:w5.heap[w.heap.size]? =some (.cells (k.lies na nc).cells.toArray 35 (0,0)):=by rw [<-Hk.out];exact Hg5'.out
  have hm05:Mod (fun _=>False) w w5:=Hm03.out.upon Hm5.out (fun b hb=> .inr (Nat.le_of_eq (Eq.symm hb)))
  have hno5:i7 w5 132 7 (.slice na k.cs.length nc) k.cs.length (l6 k.cs):=by
   rw [hkc.2.2.2.2.2.1];exact Hno.out.mod Hm5.out (fun b hb e=>by have h1:=Hnb.out b hb;have h3:b=w.heap.size:=e;have h4:=(zz7 Hg2.out).1;omega)
  have hnb5:∀b,(Value.slice na k.cs.length nc).ownBlock=some b->w.heap.size<=b:=by
   rw [hkc.2.2.2.2.2.1];exact fun b hb=>Nat.le_trans Hs2.out (Hnb.out b hb)
  obtain ⟨Hnb,Hg5,Hm05,Hno5⟩:=zh4 hnb5 hg5 hm05 hno5;clear hg5 hm05 hno5 hnb5 hkc;clear Hg5';have hrow5:=Hm05.out.heap H.out.row (fun h=>h);have hone:∀u∈(k.lies na nc).cells,u.oneCell'=true:=fun u hu=>zz15 (show (k.lies na nc).cells.all (·.oneCell')=true from rfl) u hu;have hsl5:=H.out.sl.sl.mod Hm05.out (fun _ _ h=>h);have hlp:L.length<=40:=hll;have hS:a1Q g w.heap.size (.slice a L.length cap) k na nc w5.drew:=a1Q.at (y:=w5.drew) hrow5 Hg5.out;have hs5:=Hm05.out.size;obtain ⟨Hrow5,Hone,Hsl5,Hs5⟩:=zh4 hrow5 hone hsl5 hs5;clear hrow5 hone hsl5 hs5;refine g8 [.rd 0,.rd 1,.rd 2,.rd 3,.rd 4,.rd 5,.go 6,.go 7,.go 8,.go 9,.go 10] [0,1,2,3,4,5,6] (a1Q g w.heap.size (.slice a L.length cap) k na nc) (by kernel_rfl) (by kernel_rfl) (fun _ _ d _ _ h=>(by cases d<;>exact h)) ?_
  iterate 6 (
   refine l5 rfl ?_ (fun _=>hS) ?_ (fun w0 h0=> ?_) (fun K hK=> ?_)
   ·(try simp only [zz1]);(try simp only [zz2]);(try simp only [zz3]);go_simp;done
   rotate_left
   ·(try simp only [zz1]);(try simp only [zz2]);(try simp only [zz3])
    first
     |(obtain ⟨f0,f1,f2,f3,f4,f5,f6,f7,f8⟩:=h0 rfl;clear h0;go_simp;with_reducible rfl)
     |(clear h0;go_simp;with_reducible rfl)
   (try simp only [zz1]);(try simp only [zz2]);(try simp only [zz3])
   go_simp;refine hK _ ?_;clear hK K)
  refine g7 (g9 rfl ?_ (fun K hK=> ?_))
  ·(try simp only [zz1]);(try simp only [zz2]);(try simp only [zz3]);go_simp;done
  (try simp only [zz1]);(try simp only [zz2]);(try simp only [zz3]);obtain ⟨wT,hwT,hmwT,hgwT,hzwT⟩:=e8 w5.drew (.cells (k.lies na nc).cells.toArray 35);have hwT':w5.drew.alloc (.cells #[.int .i64 k.kind,.int .i64 k.tenant,.string k.who,.int .i64 k.broker,.string k.sc,.slice na k.cs.length nc,.string k.name,.int .i64 k.at_] 35)=wT:=hwT;go_simp;refine hK _ _ (fun _ h=>h.mod hmwT (fun h=>h) (fun h=>h)) ?_;clear hK K hS;have hrdT:j0 wT 8 (.slice (some ⟨w5.heap.size,0,none⟩) 1 1) 1 (k.lies na nc).cells:=hwT▸j0.one w5.drew (k.lies na nc).cells 35 rfl;have hm5T:Mod (fun _=>False) w5 wT:=((Mod.refl (fun _=>False) w5).drew).trans hmwT (fun _ _ h=>h);have hslT:=Hsl5.out.mod hm5T (fun _ _ h=>h);have hnoT:=Hno5.out.mod hm5T (fun _ _ h=>h);have hm0T:=Hm05.out.trans hm5T (fun _ _ h=>h);refine g7 (g9 rfl ?_ (fun K hK=> ?_))
  ·(try simp only [zz1]);(try simp only [zz2]);(try simp only [zz3]);go_simp;done
  (try simp only [zz1]);(try simp only [zz2]);(try simp only [zz3]);refine I0 (.tmp 29) (.tmp 31) 22 rfl 35 8 104 Z1 (.slice a L.length cap) L.length (rus (L.map Lr.ru)) rfl hslT (.slice (some ⟨w5.heap.size,0,none⟩) 1 1) 1 (k.lies na nc).cells rfl hrdT Hone.out (by omega) (by unfold maxLen;omega) (fun ad cap2 w6 hA=> ?_);refine hK _ _ (fun h=>absurd h (by decide)) ?_;clear hK K;have hnvg:¬j1 (.slice a L.length cap) g:=fun h=>(H.out.sl.vb g h).2 rfl;have hg6:=hA.2.1.heap (hm5T.heap Hrow5.out (fun h=>h)) hnvg;have k6:w6.cell? ⟨g,0,none⟩=some (.slice a L.length cap):=d6 hg6 rfl;have f6:w6.frozen? ⟨g,0,none⟩=false:=L7 hg6;obtain ⟨HA,Hg6,Hm5T,HslT,HnoT,Hm0T,HrdT,Hnvg⟩:=zh8 hA hg6 hm5T hslT hnoT hm0T hrdT hnvg;clear hA hg6 hm5T hslT hnoT hm0T hrdT hnvg hwT hmwT hgwT hwT' hzwT;refine g7 (g9 rfl ?_ (fun K hK=> ?_))
  ·(try simp only [zz1]);(try simp only [zz2]);(try simp only [zz3]);go_simp;done
  (try simp only [zz1]);(try simp only [zz2]);(try simp only [zz3]);go_simp;refine hK _ _ (fun h=>absurd h (by decide)) ?_;clear hK K;refine g7 (g9 rfl ?_ (fun K hK=> ?_))
  ·(try simp only [zz1]);(try simp only [zz2]);(try simp only [zz3]);go_simp;done
  (try simp only [zz1]);(try simp only [zz2]);(try simp only [zz3]);go_simp;refine hK _ _ (fun h=>absurd h (by decide)) ?_;clear hK K;refine g7 (g9 rfl ?_ (fun K hK=> ?_))
  ·(try simp only [zz1]);(try simp only [zz2]);(try simp only [zz3]);go_simp;done
  (try simp only [zz1]);(try simp only [zz2]);(try simp only [zz3]);go_simp;refine hK _ _ (fun h=>absurd h (by decide)) ?_;clear hK K;refine j8 ?_;obtain ⟨w7,hw7⟩:∃w7:World,w6.setCell ⟨g,0,none⟩ (.slice ad (L.length+1) cap2)=w7:=⟨_,rfl⟩;have hm7:Mod (fun k=>k=g) w6 w7:=hw7▸(Mod.refl (fun k=>k=g) w6).setCell (fun _=>rfl) _
  have hg7:w7.heap[g]? =some (.cells (.slice ad (L.length+1) cap2::rest).toArray t (0,0)):=by
   rw [<-hw7];have:=p7 (i:=0) (v:= .slice ad (L.length+1) cap2) Hg6.out;simpa using this
  obtain ⟨ow',hlog,hmov⟩:=J4.app (x:=(k,na,nc)) Hw.out h2 H.out Hm0T.out HnoT.out Hnb.out Hfk.out HA.out hg7 hm7;rw [hw7];obtain ⟨Hm7,Hg7,Hlog,Hmov,Hw7⟩:=zh5 hm7 hg7 hlog hmov hw7;clear hm7 hg7 hlog hmov hw7
  go_wp2_with fail
  go_ret;exact ⟨rfl,ow',_,_,Hlog.out,by rw [List.map_append,Hadd.out,Hkk.out];rfl,Hmov.out⟩
 | false=>
  have hkk:p.kept=p:=by unfold PRu.kept;rw [hfb];rfl
  have hfk:p.fine:=Hf.out;have hlc:=Hf.out.len;have hcone:=b2t p.cs;obtain ⟨Hm02,Hg2,Hx2,Hkk,Hfk,Hm2,Hcone,Hfb⟩:=zh8 hm02 hg2 hx2 hkk hfk hm2 hcone hfb;clear hm02 hg2 hx2 hkk hfk hm2 hcone hfb
  go_wp2_with (first|((with_reducible refine j6 (.const (.slice none 0 0)) (.tmp 21) 31 ?_);refine ⟨rfl,132,7,72,b1v,.slice none 0 0,0,[],rfl,i7.nil _ _ _,_,p.cs.length,l6 p.cs,rfl,Hx2.out,Hcone.out,by omega,by unfold maxLen;omega, ?_⟩;intro na nc w3 hA;rw [Nat.zero_add] at*;rw [List.nil_append] at hA;have hm23:Mod (fun _=>False) w2 w3:=hA.2.1.mono (fun _ _ h=>by cases h);have hg3:=hm23.heap Hg2.out (fun h=>h);have k3:w3.cell? ⟨w.heap.size,5,none⟩=some (.slice ra p.cs.length rc):=d6 hg3 rfl;have f3:w3.frozen? ⟨w.heap.size,5,none⟩=false:=L7 hg3;have HA3:=Lib.hid hA;have Hm23:=Lib.hid hm23;have Hg3:=Lib.hid hg3;clear hA hm23 hg3)|fail)
  obtain ⟨k,hk⟩:∃k:PRu,p=k:=⟨_,rfl⟩;obtain ⟨w5,hw5⟩:∃w5:World,w3.setCell ⟨w.heap.size,5,none⟩ (.slice na p.cs.length nc)=w5:=⟨_,rfl⟩;have hm35:Mod (fun k=>k=w.heap.size) w3 w5:=hw5▸(Mod.refl (fun k=>k=w.heap.size) w3).setCell (fun _=>rfl) _;have hm05:Mod (fun _=>False) w w5:=(Hm02.out.trans Hm23.out (fun _ _ h=>h)).upon hm35 (fun b hb=> .inr (Nat.le_of_eq (Eq.symm hb)))
  have hg5:w5.heap[w.heap.size]? =some (.cells (p.lies na nc).cells.toArray 35 (0,0)):=by
   rw [<-hw5];have:=p7 (i:=5) (v:= .slice na p.cs.length nc) Hg3.out;simpa [PRu.lies,Ru.cells] using this
  have hnb:∀b,(Value.slice na p.cs.length nc).ownBlock=some b->w2.heap.size<=b:=fun b hb=>by
   rcases HA3.out.2.2 with e|⟨q,e,hq⟩
   ·rw [e] at hb;cases hb
   rw [e] at hb;cases hb;exact hq
  have hs2:=Hm02.out.size;have hgl2:=(zz7 Hg2.out).1;have hno5:i7 w5 132 7 (.slice na p.cs.length nc) p.cs.length (l6 p.cs):=HA3.out.1.mod hm35 (fun b hb e=>by have h1:=hnb b hb;have h3:b=w.heap.size:=e;omega);have Hnb:=Lib.hid (show∀b,(Value.slice na p.cs.length nc).ownBlock=some b->w.heap.size<=b from fun b hb=>Nat.le_trans hs2 (hnb b hb));rw [hw5];clear hk k hnb;obtain ⟨k,rfl⟩:∃k:PRu,k=p:=⟨_,rfl⟩;obtain ⟨Hw5,Hm35,Hm05,Hg5,Hno5,Hs2⟩:=zh6 hw5 hm35 hm05 hg5 hno5 hs2;clear hw5 hm35 hm05 hg5 hno5 hs2
  go_wp2_with fail
  have hrow5:=Hm05.out.heap H.out.row (fun h=>h);have hone:∀u∈(k.lies na nc).cells,u.oneCell'=true:=fun u hu=>zz15 (show (k.lies na nc).cells.all (·.oneCell')=true from rfl) u hu;have hsl5:=H.out.sl.sl.mod Hm05.out (fun _ _ h=>h);have hlp:L.length<=40:=hll;have hS:a1Q g w.heap.size (.slice a L.length cap) k na nc w5.drew:=a1Q.at (y:=w5.drew) hrow5 Hg5.out;have hs5:=Hm05.out.size;obtain ⟨Hrow5,Hone,Hsl5,Hs5⟩:=zh4 hrow5 hone hsl5 hs5;clear hrow5 hone hsl5 hs5;refine g8 [.rd 0,.rd 1,.rd 2,.rd 3,.rd 4,.rd 5,.go 6,.go 7,.go 8,.go 9,.go 10] [0,1,2,3,4,5,6] (a1Q g w.heap.size (.slice a L.length cap) k na nc) (by kernel_rfl) (by kernel_rfl) (fun _ _ d _ _ h=>(by cases d<;>exact h)) ?_
  iterate 6 (
   refine l5 rfl ?_ (fun _=>hS) ?_ (fun w0 h0=> ?_) (fun K hK=> ?_)
   ·(try simp only [zz1]);(try simp only [zz2]);(try simp only [zz3]);go_simp;done
   rotate_left
   ·(try simp only [zz1]);(try simp only [zz2]);(try simp only [zz3])
    first
     |(obtain ⟨f0,f1,f2,f3,f4,f5,f6,f7,f8⟩:=h0 rfl;clear h0;go_simp;with_reducible rfl)
     |(clear h0;go_simp;with_reducible rfl)
   (try simp only [zz1]);(try simp only [zz2]);(try simp only [zz3])
   go_simp;refine hK _ ?_;clear hK K)
  refine g7 (g9 rfl ?_ (fun K hK=> ?_))
  ·(try simp only [zz1]);(try simp only [zz2]);(try simp only [zz3]);go_simp;done
  (try simp only [zz1]);(try simp only [zz2]);(try simp only [zz3]);obtain ⟨wT,hwT,hmwT,hgwT,hzwT⟩:=e8 w5.drew (.cells (k.lies na nc).cells.toArray 35);have hwT':w5.drew.alloc (.cells #[.int .i64 k.kind,.int .i64 k.tenant,.string k.who,.int .i64 k.broker,.string k.sc,.slice na k.cs.length nc,.string k.name,.int .i64 k.at_] 35)=wT:=hwT;go_simp;refine hK _ _ (fun _ h=>h.mod hmwT (fun h=>h) (fun h=>h)) ?_;clear hK K hS;have hrdT:j0 wT 8 (.slice (some ⟨w5.heap.size,0,none⟩) 1 1) 1 (k.lies na nc).cells:=hwT▸j0.one w5.drew (k.lies na nc).cells 35 rfl;have hm5T:Mod (fun _=>False) w5 wT:=((Mod.refl (fun _=>False) w5).drew).trans hmwT (fun _ _ h=>h);have hslT:=Hsl5.out.mod hm5T (fun _ _ h=>h);have hnoT:=Hno5.out.mod hm5T (fun _ _ h=>h);have hm0T:=Hm05.out.trans hm5T (fun _ _ h=>h);refine g7 (g9 rfl ?_ (fun K hK=> ?_))
  ·(try simp only [zz1]);(try simp only [zz2]);(try simp only [zz3]);go_simp;done
  (try simp only [zz1]);(try simp only [zz2]);(try simp only [zz3]);refine I0 (.tmp 29) (.tmp 31) 22 rfl 35 8 104 Z1 (.slice a L.length cap) L.length (rus (L.map Lr.ru)) rfl hslT (.slice (some ⟨w5.heap.size,0,none⟩) 1 1) 1 (k.lies na nc).cells rfl hrdT Hone.out (by omega) (by unfold maxLen;omega) (fun ad cap2 w6 hA=> ?_);refine hK _ _ (fun h=>absurd h (by decide)) ?_;clear hK K;have hnvg:¬j1 (.slice a L.length cap) g:=fun h=>(H.out.sl.vb g h).2 rfl;have hg6:=hA.2.1.heap (hm5T.heap Hrow5.out (fun h=>h)) hnvg;have k6:w6.cell? ⟨g,0,none⟩=some (.slice a L.length cap):=d6 hg6 rfl;have f6:w6.frozen? ⟨g,0,none⟩=false:=L7 hg6;obtain ⟨HA,Hg6,Hm5T,HslT,HnoT,Hm0T,HrdT,Hnvg⟩:=zh8 hA hg6 hm5T hslT hnoT hm0T hrdT hnvg;clear hA hg6 hm5T hslT hnoT hm0T hrdT hnvg hwT hmwT hgwT hwT' hzwT;refine g7 (g9 rfl ?_ (fun K hK=> ?_))
  ·(try simp only [zz1]);(try simp only [zz2]);(try simp only [zz3]);go_simp;done
  (try simp only [zz1]);(try simp only [zz2]);(try simp only [zz3]);go_simp;refine hK _ _ (fun h=>absurd h (by decide)) ?_;clear hK K;refine g7 (g9 rfl ?_ (fun K hK=> ?_))
  ·(try simp only [zz1]);(try simp only [zz2]);(try simp only [zz3]);go_simp;done
  (try simp only [zz1]);(try simp only [zz2]);(try simp only [zz3]);go_simp;refine hK _ _ (fun h=>absurd h (by decide)) ?_;clear hK K;refine g7 (g9 rfl ?_ (fun K hK=> ?_))
  ·(try simp only [zz1]);(try simp only [zz2]);(try simp only [zz3]);go_simp;done
  (try simp only [zz1]);(try simp only [zz2]);(try simp only [zz3]);go_simp;refine hK _ _ (fun h=>absurd h (by decide)) ?_;clear hK K;refine j8 ?_;obtain ⟨w7,hw7⟩:∃w7:World,w6.setCell ⟨g,0,none⟩ (.slice ad (L.length+1) cap2)=w7:=⟨_,rfl⟩;have hm7:Mod (fun k=>k=g) w6 w7:=hw7▸(Mod.refl (fun k=>k=g) w6).setCell (fun _=>rfl) _
  have hg7:w7.heap[g]? =some (.cells (.slice ad (L.length+1) cap2::rest).toArray t (0,0)):=by
   rw [<-hw7];have:=p7 (i:=0) (v:= .slice ad (L.length+1) cap2) Hg6.out;simpa using this
  obtain ⟨ow',hlog,hmov⟩:=J4.app (x:=(k,na,nc)) Hw.out h2 H.out Hm0T.out HnoT.out Hnb.out Hfk.out HA.out hg7 hm7;rw [hw7];obtain ⟨Hm7,Hg7,Hlog,Hmov,Hw7⟩:=zh5 hm7 hg7 hlog hmov hw7;clear hm7 hg7 hlog hmov hw7
  go_wp2_with fail
  go_ret;exact ⟨rfl,ow',_,_,Hlog.out,by rw [List.map_append,Hadd.out,Hkk.out];rfl,Hmov.out⟩
def atR (l:List Ru) (n:Nat):List Ru:=(l.take n).zipIdx.filterMap fun q=>if decide (q.1.kind=4)||Q9 (l.map Ru.pru) q.2 n then none else some q.1
theorem a3O {α β:Type} (f:α->β) (l:List α) (k:Nat) (p:β->Nat->Bool):((l.zipIdx k).filterMap fun q=>if p (f q.1) q.2 then none else some q.1).map f=((l.map f).zipIdx k).filterMap fun q=>if p q.1 q.2 then none else some q.1:=by
 induction l generalizing k with
 |nil=>rfl
 | cons a l ih=>
  rw [List.map_cons,List.zipIdx_cons,List.zipIdx_cons,List.filterMap_cons,List.filterMap_cons];cases h:p (f a) k
  ·simp only [Bool.false_eq_true,if_false,List.map_cons];rw [ih]
  simp only [if_true];exact ih (k+1)
theorem a2D (l:List Ru) (n:Nat):(atR l n).map Ru.pru=atP (l.map Ru.pru) n:=by
 unfold atR atP;rw [<-List.map_take];exact a3O Ru.pru (l.take n) 0 (fun r i=>decide (r.kind=4)||Q9 (l.map Ru.pru) i n)
theorem a4S {l:List Ru} {n:Nat} {r:Ru} (h:r∈atR l n):r∈l:=by
 unfold atR at h;obtain ⟨q,h1,h2⟩:=List.mem_filterMap.1 h;split at h2
 ·cases h2
 ·cases h2
  obtain ⟨i,h3⟩:=List.mem_iff_getElem?.1 h1;rw [List.getElem?_zipIdx,Option.map_eq_some_iff] at h3;obtain ⟨a,h4,h5⟩:=h3;rw [<-h5];exact List.mem_of_mem_take (zz8 h4)
def atJ (l:List Ru) (n j:Nat):List Ru:=((l.take n).take j).zipIdx.filterMap fun q=>if decide (q.1.kind=4)||Q9 (l.map Ru.pru) q.2 n then none else some q.1
theorem b1w {l:List Ru} {n j:Nat} {x:Ru} (h:(l.take n)[j]? =some x):atJ l n (j+1)=atJ l n j++if decide (x.kind=4)||Q9 (l.map Ru.pru) j n then [] else [x]:=by
 unfold atJ;rw [List.take_add_one,h,Option.toList_some,List.zipIdx_append,List.filterMap_append];congr 1;have hl:((l.take n).take j).length=j:=by have:=(zz6 h).1;rw [List.length_take];omega
 rw [hl,Nat.zero_add];simp only [List.zipIdx_cons,List.zipIdx_nil,List.filterMap_cons,List.filterMap_nil];split<;>rename_i h1<;>split at h1<;>simp_all
theorem b3x (l:List Ru) {n:Nat} (hn:n<=l.length):atJ l n n=atR l n:=by
 unfold atJ atR;rw [List.take_of_length_le (by rw [List.length_take];omega)]
theorem b3y (l:List Ru) (n j:Nat):(atJ l n j).length<=j:=by
 unfold atJ;refine Nat.le_trans (List.length_filterMap_le _ _) ?_;rw [List.length_zipIdx,List.length_take];omega
def b4N (w:World) (l:List Ru) (n:Nat) (e:Ending) (w':World):Prop:=
 ∃v,e= .returned v/\i7 w' 35 8 v (atR l n).length (rus (atR l n))/\(∀b,v.ownBlock=some b->w.heap.size<=b)/\Mod (fun _=>False) w w'
def O9 (vr:Int) (n:Nat):Nat:=(min (max vr 0) n).toNat
theorem b4O (w:World) (g:Nat) (a:Option Addr) (cap:Nat) (l:List Ru) (c0:w.cell? ⟨g,0,none⟩=some (.slice a l.length cap)) (hv:K8 w (.slice a l.length cap) l) (hll:l.length<=1000) (vr:Int):
 Calls Tryz.prog 16 #[.pointer (some ⟨g,0,none⟩),.int .i64 vr] w (b4N w l (O9 vr l.length)):=by
 have hcap:l.length<=cap:=by obtain ⟨-,a',c',h,h2, -⟩:=hv.rd;cases h;exact h2
 obtain ⟨n,hn⟩:∃n,O9 vr l.length=n:=⟨_,rfl⟩;have hnn:min (max vr 0) (l.length:Int)=n:=by unfold O9 at hn;omega
 have hnl:n<=l.length:=by omega
 rw [hn];have hcap':(n:Int)<=cap:=by omega
 have hn0:(0:Int)<=n:=by omega
 have hv2:=hv.take hnl;have hl2:(l.take n).length=n:=by rw [List.length_take];omega
 rw [show Value.slice a n cap=Value.slice a (l.take n).length cap by rw [hl2]] at hv2;obtain ⟨Hv,Hv2,Hl2,Hn⟩:=zh4 hv hv2 hl2 hn;clear hv hv2 hl2 hn hcap
 go_enter Tryz.func16,Tryz.ntmps16
 go_wp2_with fail
 go_loopw [5,23] (fun ov i wr=>∃(j:Nat) (oa:Option Addr) (oc:Nat),i= .int .i64 j/\j<=n/\ov= .slice oa (atJ l n j).length oc/\i7 wr 35 8 (.slice oa (atJ l n j).length oc) (atJ l n j).length (rus (atJ l n j))/\(∀b,(Value.slice oa (atJ l n j).length oc).ownBlock=some b->w.heap.size<=b)/\Mod (fun _=>False) w wr) (fun _ i _=>n - (intOf i).toNat)
 case atStart=>exact ⟨0,none,0,rfl,Nat.zero_le _,rfl,i7.nil _ _ _,fun b hb=>(by cases hb),Mod.refl _ _⟩
 case round=>
  obtain ⟨j,oa,oc,rfl,hj,rfl,how,hob,hmr⟩:=hrel;by_cases hlt:j<n
  ·have hlt':(j:Int)<n:=by omega
   obtain ⟨x,hxj⟩:∃x,(l.take n)[j]? =some x:=⟨_,zz5 (by rw [Hl2.out];exact hlt)⟩;obtain ⟨g2,off,rfl,hf⟩:∃g2 off,a=some ⟨g2,off,none⟩/\e7 wr g2 (off+j*8) x.cells:=L0 (Hv2.out.mod hmr) hxj;obtain ⟨wz,hwz,hmwz,hgwz,hzwz⟩:=e8 wr (.cells x.cells.toArray 35);have hmz:=hmr.trans hmwz (fun _ _ h=>h);have hsu:=b1w hxj;have hjl:=b3y l n j;obtain ⟨acc,hacc⟩:∃acc,atJ l n j=acc:=⟨_,rfl⟩;obtain ⟨nx,hnx⟩:∃nx,atJ l n (j+1)=nx:=⟨_,rfl⟩;obtain ⟨G,hG⟩:∃G,Q9 (l.map Ru.pru) j n=G:=⟨_,rfl⟩;rw [hacc] at how hob hsu hjl⊢;rw [hnx,hG] at hsu;have hn1000:n<=1000:=by omega
   have hgo:=a8o wz g (some ⟨g2,off,none⟩) cap l (hmz.cell c0 (fun h=>h)) (Hv.out.mod hmz) hll j n hnl;rw [hG] at hgo;have howz:=how.mod hmwz (fun _ _ h=>h);have k0:wz.cell? ⟨wr.heap.size,0,none⟩=some (.int .i64 x.kind):=d6 hgwz rfl;obtain ⟨Hmr,Hxj,Hf,Hwz,Hmwz,Hgwz,Hmz,Hsu,Hgo,Howz,Hob,Hnx⟩:=zh12 hmr hxj hf hwz hmwz hgwz hmz hsu hgo howz hob hnx;have Hacc:=zh hacc;clear hmr hxj hf hwz hmwz hgwz hmz hsu hgo howz hob hnx hacc hzwz how;by_cases hk4:x.kind=4
   ·have hn2:nx=acc:=by rw [Hsu.out,decide_eq_true hk4];simp
    have hb4:(x.kind !=4)=false:=by simp [hk4]
    have Hn2:=zh hn2;clear hn2
    go_wp2_with (first|((with_reducible refine d9 35 (.tmp 26) ?_);refine ⟨g2,off+j*8,rfl,x.cells,Hf.out,by kernel_rfl,by kernel_rfl, ?_⟩)|((with_reducible refine d8 35 (.tmp 7) (.tmp 27) ?_);refine ⟨rfl,x.cells,rfl,rfl,by kernel_rfl,rfl, ?_⟩;rw [Hwz.out])|fail)
    go_roundw
    case rel=>exact ⟨j+1,oa,oc,by go_num,hlt,by rw [Hnx.out,Hn2.out],by rw [Hnx.out,Hn2.out];exact Howz.out,by rw [Hnx.out,Hn2.out];exact Hob.out,Hmz.out⟩
    case measure=>simp [intOf];omega
   have hb4:(x.kind !=4)=true:=by simpa using hk4
   go_wp2_with (first|((with_reducible refine d9 35 (.tmp 26) ?_);refine ⟨g2,off+j*8,rfl,x.cells,Hf.out,by kernel_rfl,by kernel_rfl, ?_⟩)|((with_reducible refine d8 35 (.tmp 7) (.tmp 27) ?_);refine ⟨rfl,x.cells,rfl,rfl,by kernel_rfl,rfl, ?_⟩;rw [Hwz.out])|fail)
   refine Hgo.out.mono ?_;rintro e w3 ⟨rfl,hm3⟩;have hm03:=Hmz.out.trans hm3 (fun _ _ h=>h);have how3:=Howz.out.mod hm3 (fun _ _ h=>h);have hg3:=hm3.heap Hgwz.out (fun h=>h)
   cases G with
   |true=>
    have hn2:nx=acc:=by rw [Hsu.out];simp
    obtain ⟨Hn2,Hm03,How3,Hg3,Hm3⟩:=zh5 hn2 hm03 how3 hg3 hm3;clear hn2 hm03 how3 hg3 hm3
    go_wp2_with fail
    go_roundw
    case rel=>exact ⟨j+1,oa,oc,by go_num,hlt,by rw [Hnx.out,Hn2.out],by rw [Hnx.out,Hn2.out];exact How3.out,by rw [Hnx.out,Hn2.out];exact Hob.out,Hm03.out⟩
    case measure=>simp [intOf];omega
   | false=>
    have hn2:nx=acc++[x]:=by rw [Hsu.out,decide_eq_false hk4];rfl
    obtain ⟨wS,hwS,hmwS,hgwS,hzwS⟩:=e8 w3 (.cells x.cells.toArray 35);have hrd:j0 wS 8 (.slice (some ⟨w3.heap.size,0,none⟩) 1 1) 1 x.cells:=hwS▸j0.one w3 x.cells 35 rfl;have hwS':w3.alloc (.cells #[.int .i64 x.kind,.int .i64 x.tenant,.string x.who,.int .i64 x.broker,.string x.sc,.slice x.ca x.cs.length x.cc,.string x.name,.int .i64 x.at_] 35)=wS:=hwS;have hownS:=how3.mod hmwS (fun _ _ h=>h);have hm0S:=hm03.trans hmwS (fun _ _ h=>h);have hone:∀u∈x.cells,u.oneCell'=true:=fun u hu=>zz15 (show x.cells.all (·.oneCell')=true from rfl) u hu;have hlen:nx.length=acc.length+1:=by rw [hn2];simp
    have hrus:rus acc++x.cells=rus nx:=by rw [hn2,a0Q,a3y];simp [rus]
    obtain ⟨Hrd,HwS',HownS,Hm0S,Hone,Hlen,Hrus,Hg3,Hm03,Hm3,How3⟩:=zh11 hrd hwS' hownS hm0S hone hlen hrus hg3 hm03 hm3 how3;clear hrd hwS' hownS hm0S hone hlen hrus hg3 hm03 hm3 how3 hwS hmwS hgwS hzwS hn2
    go_wp2_with (first|((with_reducible refine d9 35 (.tmp 7) ?_);refine ⟨wr.heap.size,0,rfl,[.int .i64 x.kind,.int .i64 x.tenant,.string x.who,.int .i64 x.broker,.string x.sc,.slice x.ca x.cs.length x.cc,.string x.name,.int .i64 x.at_],e7.row Hg3.out,by kernel_rfl,by kernel_rfl, ?_⟩)|(rw [show w3.alloc _=wS from HwS'.out])|((with_reducible refine j6 (.tmp 38) (.tmp 40) 22 ?_);refine ⟨rfl,35,8,104,Z1,.slice oa acc.length oc,acc.length,rus acc,rfl,HownS.out,_,1,x.cells,rfl,Hrd.out,Hone.out,by omega,by unfold maxLen;omega, ?_⟩;intro ad cap2 w4 hA;have HA:=Lib.hid hA;clear hA)|fail)
    have hown5:=HA.out.1;rw [Hrus.out,<-Hlen.out] at hown5
    have hfr5:∀b,(Value.slice ad nx.length cap2).ownBlock=some b->w.heap.size<=b:=fun b hb=>by
     rw [Hlen.out] at hb;rcases HA.out.2.2 with h|⟨k,h,hk⟩
     ·exact Hob.out b (by rw [<-h];exact hb)
     have h2:(Value.slice ad (acc.length+1) cap2).ownBlock=some b:=hb;rw [h] at h2;cases h2;have:=Hm0S.out.size;omega
    have hm05:Mod (fun _=>False) w w4:=Hm0S.out.upon HA.out.2.1 (fun b hb=> .inr (Hob.out b hb));obtain ⟨Hown5,Hfr5,Hm05⟩:=zh3 hown5 hfr5 hm05;clear hown5 hfr5 hm05 HA
    go_roundw
    case rel=>exact ⟨j+1,ad,cap2,by go_num,hlt,by rw [Hnx.out,Hlen.out],by rw [Hnx.out];exact Hown5.out,by rw [Hnx.out];exact Hfr5.out,Hm05.out⟩
    case measure=>simp [intOf];omega
  obtain rfl:j=n:=by omega
  have he:=b3x l hnl;rw [he] at how hob⊢;obtain ⟨How,Hob,Hmr⟩:=zh3 how hob hmr;clear how hob hmr
  go_wp2
  go_ret;exact ⟨_,rfl,How.out,Hob.out,Hmr.out⟩
def b1x (w:World) (ow:Ow) (c:Nat) (e:Ending) (w':World):Prop:=
 ∃g ow',e= .returned (.tuple #[.pointer (some ⟨g,0,none⟩),.int .i64 0])/\J4 w' ow' c c g [] 53 (.slice none 0 0) []/\Mov (fun t=>t=c) w ow w' ow'/\Mod (fun _=>False) w w'
theorem a9u (w0 w:World) (ow:Ow) (c:Nat) (hw:Owd w0 w ow) (_h2:2<=c):Calls Tryz.prog 12 #[.slice none 0 0] w (b1x w ow c):=by
 obtain ⟨wa,hwa,hmwa,hgwa,hzwa⟩:=e8 w (.cells #[.slice none 0 0] 53);have hmv:Mov (fun t=>t=c) w ow wa (r7 ow w.heap.size c):=hwa▸Mov.alloc hw _ c (.inr (.inr rfl));have hlog:J4 wa (r7 ow w.heap.size c) c c w.heap.size [] 53 (.slice none 0 0) []:=⟨hgwa,D4 _ _ _,⟨i7.nil _ _ _,fun b hb=>(by cases hb),fun x hx=>(by cases hx)⟩⟩;obtain ⟨Hwa,Hmv,Hlog,Hmwa⟩:=zh4 hwa hmv hlog hmwa;clear hwa hmv hlog hmwa hgwa hzwa
 go_enter Tryz.func12,Tryz.ntmps12
 go_wp2_with (first|(rw [show w.alloc _=wa from Hwa.out])|fail)
 go_loopw [11] (fun i wr=>i= .int .i64 0/\wr=wa) (fun _ _=>0)
 case atStart=>exact ⟨rfl,rfl⟩
 case round=>
  obtain ⟨rfl,rfl⟩:=hrel
  go_wp2
  go_ret2
  exact ⟨w.heap.size,_,rfl,Hlog.out,Hmv.out,Hmwa.out⟩
def b5q (g B:Nat) (s:Value) (k:PRu) (na:Option Addr) (nc:Nat) (y:World):Prop:=a1Q g B s k na nc y
def C7 (L:List PRu) (at_:Int) (p:PRu):Bool:=decide (at_=L.length)&&decide (a1G L p=0)
def BS.learn (B:BS) (at_:Int) (p:PRu):BS:={B with L:=if C7 B.L at_ p then P8 B.L p else B.L}
def a1R {w0:World} {q:Nat} (O:x7 w0 q) (w:World) (ow:Ow) (c g:Nat) (id:Int) (near:List Int) (B:BS) (s:O.σ) (at_:Int) (p:PRu) (frm:Int) (e:Ending) (w':World):Prop:=
 e= .returned (.bool (C7 B.L at_ p))/\∃ow',Bro w' ow' c g id near (B.learn at_ p)/\O.inv w' ow' (O.sends s (if C7 B.L at_ p then I6 near frm at_ p else []))/\Mov (fun t=>(t=c\/t=c+17)\/O.tg t) w ow w' ow'
def b1y {w0:World} {q:Nat} (O:x7 w0 q) (wa:World) (ow:Ow) (c g:Nat) (id:Int) (near:List Int) (B:BS) (a:BAd) (s:O.σ) (at_:Int) (p:PRu) (frm:Int) (i:Value) (wr:World):Prop:=
 ∃(j:Nat) (owr:Ow),i= .int .i64 j/\j<=near.length/\A1 wr owr c g id near B a/\O.inv wr owr (O.sends s (I6 (near.take j) frm at_ p))/\Mov (fun t=>(t=c\/t=c+17)\/O.tg t) wa ow wr owr/\Owd w0 wr owr
theorem a5V {near:List Int} {j:Nat} {n:Int} (h:near[j]? =some n) (frm i:Int) (p:PRu):I6 (near.take (j+1)) frm i p=I6 (near.take j) frm i p++if n==frm then [] else [(n, -1,Mg.pol i p)]:=by
 unfold I6;rw [List.take_add_one,h,Option.toList_some,List.filter_append,List.map_append];congr 1;by_cases e:n=frm
 ·subst e;simp
 have:(n==frm)=false:=by simpa using e
 simp [this]
theorem a0K (near:List Int) (frm i:Int) (p:PRu):(I6 near frm i p).length<=near.length:=by
 unfold I6;rw [zz10];exact List.length_filter_le _ _
theorem A1.logged {w0 w w':World} {ow ow':Ow} {c g:Nat} {id:Int} {near:List Int} {B:BS} {a:BAd} (h:A1 w ow c g id near B a) (hw:Owd w0 w ow) (s:Mov (fun t=>t=c\/t=c+17) w ow w' ow') {v':Value} {L':List Lr} {P:List PRu} (hl:J4 w' ow' c (c+17) g (a.rest id) 62 v' L') (hp:L'.map Prod.fst=P):A1 w' ow' c g id near {B with L:=P} {a with v:=v'}:=by
 have hc:=h.c2;exact ⟨h.c2,⟨L',hl,hp⟩,h.near.mov s (by omega) (by omega),fun t ht=>(h.rea t ht).mov hw s (by omega) ⟨by omega,by omega,by omega,by omega⟩ h.c2⟩
theorem a5W (w0 w:World) (ow:Ow) (c g:Nat) (id:Int) (near:List Int) (B:BS) (hw:Owd w0 w ow) (h:Bro w ow c g id near B) (hL:B.L.length<=40) (q:Nat) (O:x7 w0 q) (s:O.σ) (hO:O.inv w ow s) (hOt:∀t,O.tg t->t<c\/c+18<=t)
 (hcnt:O.cnt s+near.length<=400000000000) (hnl:near.length<=1000) (hto:∀n∈near,O.okTo n (-1)) (at_:Int) (p:PRu) (ra:Option Addr) (rc:Nat) (hx:a2m w ow (p,ra,rc)) (frm:Int):
 Calls Tryz.prog 14 #[.pointer (some ⟨g,0,none⟩),.iface 43 (.pointer (some ⟨q,0,none⟩)),.int .i64 at_,.agg (p.lies ra rc).cells.toArray,.int .i64 frm] w (a1R O w ow c g id near B s at_ p frm):=by
 obtain ⟨a,h⟩:=h;obtain ⟨L,hlog,hLB⟩:=h.log;have hLl:L.length=B.L.length:=by rw [<-hLB,zz10]
 obtain ⟨av,acap,hav,hacap⟩:∃a' cc,a.v= .slice a' L.length cc/\L.length<=cc:=by obtain ⟨-,a,cc,h,h2, -⟩:=hlog.sl.sl.rd;exact ⟨a,cc,h,h2⟩
 rw [hav] at hlog;obtain ⟨wa,hwa,hmwa,hgwa,hzwa⟩:=e8 w (.cells (p.lies ra rc).cells.toArray 35);have hgl:=(zz7 hlog.row).1;have hgg:=hmwa.heap hlog.row (fun h=>h);have hwa0:Mov (fun _=>False) w ow wa ow:=Mov.of hw hmwa _;have howa:=hwa0.owd hw (fun h=>h);have hba:A1 wa ow c g id near B a:=h.mov hw hwa0 (fun h=>h) (fun _ h=>h.elim);have hloga:=hlog.mov hwa0 (fun h=>h) (fun h=>h) (fun h=>h);have hOa:=O.mov hO hw hwa0 (fun h=>h) (fun _ h=>h.elim);have hxa:=hx.mov hwa0 (fun h=>h);have hlen:=fun (wx:World) (hx:Mod (fun _=>False) wa wx)=>a08 wx g av L.length acap (hx.cell (d6 hgg rfl) (fun h=>h));have hzw:w.heap.size<wa.heap.size:=by omega
 have hB0:ow w.heap.size=0:=hw.zero (Nat.le_refl _);have hc2:=h.c2;have hO0:=hO
 have hadd:∀wx,Mod (fun _=>False) wa wx->Calls Tryz.prog 13 #[.pointer (some ⟨g,0,none⟩),.agg (p.lies ra rc).cells.toArray] wx (a2C wx ow c (c+17) g (a.rest id) 62 L p):=fun wx hm=>by
  have hmv:=Mov.of howa hm (fun _=>False);exact a8u w0 wx ow c (c+17) g (a.rest id) 62 (.slice av L.length acap) L (hmv.owd howa (fun h=>h)) ⟨hc2,by omega⟩ (hloga.mov hmv (fun h=>h) (fun h=>h) (fun h=>h)) (by omega) p ra rc ((hxa.mov hmv (fun h=>h)).cs.rd) hx.fine
 have hL40:L.length<=40:=by omega
 obtain ⟨Hw,H,Hlog,Hav,Hwa,Hmwa,Hgwa,Hgg,Hwa0,Hba,Hloga,HOa⟩:=zh12 hw h hlog hav hwa hmwa hgwa hgg hwa0 hba hloga hOa;obtain ⟨Hxa,Hlen,Howa,HOt,HB0,Hx,HLB,Hto,HO0,Hadd,HLl⟩:=zh11 hxa hlen howa hOt hB0 hx hLB hto hO0 hadd hLl;clear hw h hlog hav hwa hmwa hgwa hgg hwa0 hba hloga hOa hxa hlen howa hOt hB0 hx hLB hto hO0 hadd hLl hzwa hO hacap hL;by_cases hat:at_=L.length;rotate_left
 ·have hok:C7 B.L at_ p=false:=by unfold C7;rw [decide_eq_false (by rw [<-HLl.out];exact hat),Bool.false_and]
  have hb1:(at_ !=(L.length:Int))=true:=by simpa using hat
  have hpl:∀wx,Mod (fun _=>False) wa wx->Calls Tryz.prog 15 #[.pointer (some ⟨g,0,none⟩)] wx fun e w'=>e= .returned (.int .i64 L.length)/\Mod (fun _=>False) wa w':=fun wx hx=>(Hlen.out wx hx).mono fun e w' ⟨he,hm⟩=>⟨he,hm▸hx⟩;obtain ⟨Hok,Hpl⟩:=zh2 hok hpl;clear hok hpl
  go_enter Tryz.func14,Tryz.ntmps14
  go_wp2_with (first|(rw [show w.alloc _=wa from Hwa.out])|fail)
  refine i8 (by kernel_rfl) (by kernel_rfl) ?_
  iterate 14 (first
   | (refine k7 ?_ (fun K hK=> ?_)
      ·first|(go_simp;done)|(go_simp;simp [undef];done)
      go_simp;refine hK _ ?_;clear hK K)
   | (refine m8 ?_ ?_ (fun w' hw'=> ?_) (fun K hK=> ?_)
      ·first|(go_simp;done)|(go_simp;simp [undef];done)
      rotate_left
      ·skip
       go_simp;rfl
      go_simp;refine hK _ ?_;clear hK K)
   | (refine p8 ?_ ?_ ?_ ?_ (fun w' hw'=> ?_) ?_ (fun K hK=> ?_)
      ·first|(go_simp;done)|(go_simp;simp [undef];done)
      rotate_left 3
      ·skip
       go_simp;constructor<;>rfl
      ·first|with_reducible exact Hpl.out
      go_simp;refine hK _ ?_;clear hK K))
  refine m4 (fun w' hw'=> ?_);have hmx:Mod (fun _=>False) w w':=Hmwa.out.trans hw' (fun _ _ h=>h);have Hmx:=zh hmx;clear hmx hw'
  go_wp2
  go_ret;refine ⟨by rw [Hok.out];rfl,ow,⟨a, ?_⟩, ?_,Mov.of Hw.out Hmx.out _⟩
  ·unfold BS.learn;rw [Hok.out];exact H.out.mov Hw.out (Mov.of Hw.out Hmx.out (fun _=>False)) (fun h=>h) (fun _ h=>h.elim)
  rw [Hok.out];exact O.mov HO0.out Hw.out (Mov.of Hw.out Hmx.out (fun _=>False)) (fun h=>h) (fun _ h=>h.elim)
 subst hat;obtain ⟨R,hR⟩:∃R,a1G B.L p=R:=⟨_,rfl⟩;have hS:b5q g w.heap.size (.slice av L.length acap) p ra rc wa.drew:=a1Q.at (y:=wa.drew) Hgg.out Hgwa.out;have HR:=zh hR;clear hR
 go_enter Tryz.func14,Tryz.ntmps14
 go_wp2_with (first|(rw [show w.alloc _=wa from Hwa.out])|fail)
 refine g8 [.rd 0,.rd 1,.rd 2,.rd 3,.go 4,.rd 5,.rd 6,.rd 7,.rd 8,.rd 9,.rd 10,.go 11,.go 12,.go 13] [0,1,2,3,4,5,6,7,8,9,10] (b5q g w.heap.size (.slice av L.length acap) p ra rc) (by kernel_rfl) (by kernel_rfl) (fun _ _ d _ _ h=>(by cases d<;>exact h)) ?_
 iterate 4 (
  refine l5 rfl ?_ (fun _=>hS) ?_ (fun w0 h0=> ?_) (fun K hK=> ?_)
  ·(try simp only [zz1]);(try simp only [zz2]);(try simp only [zz3]);go_simp;done
  rotate_left
  ·(try simp only [zz1]);(try simp only [zz2]);(try simp only [zz3])
   first
    |(obtain ⟨f0,f1,f2,f3,f4,f5,f6,f7,f8⟩:=h0 rfl;clear h0;go_simp;with_reducible rfl)
    |(clear h0;go_simp;with_reducible rfl)
  (try simp only [zz1]);(try simp only [zz2]);(try simp only [zz3])
  go_simp;refine hK _ ?_;clear hK K)
 refine g7 (g9 rfl ?_ (fun K hK=> ?_))
 ·(try simp only [zz1]);(try simp only [zz2]);(try simp only [zz3]);go_simp;done
 go_wp2_with fail
 refine (Hlen.out wa.drew ((Mod.refl _ wa).drew)).mono ?_;rintro e w1 ⟨rfl,rfl⟩;refine hK _ _ (fun _ h=>h) ?_;clear hK K
 iterate 6 (
  refine l5 rfl ?_ (fun _=>hS) ?_ (fun w0 h0=> ?_) (fun K hK=> ?_)
  ·(try simp only [zz1]);(try simp only [zz2]);(try simp only [zz3]);go_simp;done
  rotate_left
  ·(try simp only [zz1]);(try simp only [zz2]);(try simp only [zz3])
   first
    |(obtain ⟨f0,f1,f2,f3,f4,f5,f6,f7,f8⟩:=h0 rfl;clear h0;go_simp;with_reducible rfl)
    |(clear h0;go_simp;with_reducible rfl)
  (try simp only [zz1]);(try simp only [zz2]);(try simp only [zz3])
  go_simp;refine hK _ ?_;clear hK K)
 refine g7 (g9 rfl ?_ (fun K hK=> ?_))
 ·(try simp only [zz1]);(try simp only [zz2]);(try simp only [zz3]);go_simp;done
 go_wp2_with fail
 refine (Hadd.out wa.drew ((Mod.refl _ wa).drew)).mono ?_;rintro e w2 ⟨rfl,ow2,v2,L2,hl2,hp2,hm2⟩;rw [HLB.out] at hp2;rw [HLB.out,HR.out];have hma2:Mov (fun t=>t=c\/t=c+17) wa ow w2 ow2:=⟨((Mod.refl _ wa).drew).trans hm2.md (fun _ _ h=>h),hm2.old,hm2.new,hm2.top⟩;have hba2:=Hba.out.logged Howa.out hma2 hl2 hp2;have hO2:=O.mov HOa.out Howa.out hma2 (by omega) (fun t e ht=>by have:=HOt.out t ht;omega);have how2:=hma2.owd Howa.out (by omega);have hmw2:Mov (fun t=>(t=c\/t=c+17)\/O.tg t) w ow w2 ow2:=(Hwa0.out.mono (fun _ h=>h.elim)).trans (hma2.mono (fun _ h=> .inl h));refine hK _ _ (fun h=>absurd h (by decide)) ?_;clear hK K hS;obtain ⟨Hl2,Hp2,Hm2,Hma2,Hba2,HO2,How2,Hmw2⟩:=zh8 hl2 hp2 hm2 hma2 hba2 hO2 how2 hmw2;clear hl2 hp2 hm2 hma2 hba2 hO2 how2 hmw2;by_cases hR0:R=0;rotate_left
 ·have hok:C7 B.L L.length p=false:=by unfold C7;rw [HR.out,decide_eq_false hR0,Bool.and_false]
  have hb1:(R !=0)=true:=by simpa using hR0
  have hpp:P8 B.L p=B.L:=by unfold P8;rw [HR.out,if_neg hR0]
  obtain ⟨Hok,Hpp⟩:=zh2 hok hpp;clear hok hpp;refine g7 (g9 rfl ?_ (fun K hK=> ?_))
  ·(try simp only [zz1]);(try simp only [zz2]);(try simp only [zz3]);go_simp;done
  (try simp only [zz1]);(try simp only [zz2]);(try simp only [zz3]);go_simp;refine hK _ _ (fun h=>absurd h (by decide)) ?_;clear hK K;refine g7 (g9 rfl ?_ (fun K hK=> ?_))
  ·(try simp only [zz1]);(try simp only [zz2]);(try simp only [zz3]);go_simp;done
  (try simp only [zz1]);(try simp only [zz2]);(try simp only [zz3]);go_simp;refine hK _ _ (fun h=>absurd h (by decide)) ?_;clear hK K;refine j8 ?_
  go_wp2_with fail
  go_ret;refine ⟨by rw [Hok.out];rfl,ow2,⟨{a with v:=v2}, ?_⟩, ?_,Hmw2.out⟩
  ·unfold BS.learn;rw [Hok.out];have:=Hba2.out;rw [Hpp.out] at this;exact this
  rw [Hok.out];exact HO2.out
 subst hR0;have hb1:((0:Int) !=0)=false:=rfl;have hok:C7 B.L L.length p=true:=by unfold C7;rw [HR.out,decide_eq_true (show ((L.length:Nat):Int)=B.L.length by rw [HLl.out])];rfl
 have hba3:=Hba2.out;have hnear:=hba3.near;obtain ⟨na,nc,hnv,hnc⟩:∃a' cc,a.nv= .slice a' near.length cc/\near.length<=cc:=by obtain ⟨-,a,cc,h,h2, -⟩:=hnear.rd;exact ⟨a,cc,h,h2⟩
 obtain ⟨L3,hl3, -⟩:=hba3.log;have c2n:w2.cell? ⟨g,2,none⟩=some (.slice na near.length nc):=by rw [<-hnv];exact d6 hl3.row rfl
 have hnl':(near.length:Int)<=1000:=by omega
 have hnc':(near.length:Int)<=nc:=by omega
 obtain ⟨Hok,Hba3,Hnear,Hnv,Hl3,Hnc⟩:=zh6 hok hba3 hnear hnv hl3 hnc;clear hok hba3 hnear hnv hl3 hnc;refine g7 (g9 rfl ?_ (fun K hK=> ?_))
 ·(try simp only [zz1]);(try simp only [zz2]);(try simp only [zz3]);go_simp;done
 (try simp only [zz1]);(try simp only [zz2]);(try simp only [zz3]);go_simp;refine hK _ _ (fun h=>absurd h (by decide)) ?_;clear hK K;refine g7 (g9 rfl ?_ (fun K hK=> ?_))
 ·(try simp only [zz1]);(try simp only [zz2]);(try simp only [zz3]);go_simp;done
 (try simp only [zz1]);(try simp only [zz2]);(try simp only [zz3]);go_simp;refine hK _ _ (fun h=>absurd h (by decide)) ?_;clear hK K;refine j8 ?_
 go_wp2_with fail
 go_loopw [32] (fun i wr=>b1y O wa ow c g id near {B with L:=P8 B.L p} {a with v:=v2} s L.length p frm i wr) (fun i _=>near.length - (intOf i).toNat)
 case atStart=>exact ⟨0,ow2,rfl,Nat.zero_le _,Hba2.out,HO2.out,Hma2.out.mono (fun _ h=> .inl h),How2.out⟩
 case round=>
  obtain ⟨j,owr,rfl,hj,hbr,hOr,hmr,how⟩:=hrel
  have hnF0:¬((0=c\/0=c+17)\/O.tg 0):=fun h=>by
   rcases h with h|h
   ·omega
   have:=O.t2 0 h;omega
  by_cases hlt:j<near.length
  ·have hlt':(j:Int)<near.length:=by omega
   obtain ⟨n,hnj⟩:∃x,near[j]? =some x:=⟨_,zz5 hlt⟩;have hnm:=zz8 hnj;have hrd:=hbr.near.rd;rw [show ({a with v:=v2}:BAd).nv= .slice na near.length nc from Hnv.out] at hrd;obtain ⟨gn,offn,rfl,hcn⟩:=a3i hrd hnj;have hsu:=a5V hnj frm L.length p;by_cases hnf:n=frm
   ·have hq:(n !=frm)=false:=by simpa using hnf
    rw [if_pos (by simpa using hnf),zz11] at hsu;obtain ⟨Hbr,HOr,Hmr,How,Hsu,Hnj,Hrd,Hnm⟩:=zh8 hbr hOr hmr how hsu hnj hrd hnm;clear hbr hOr hmr how hsu hnj hrd hnm hnF0
    go_wp2_with fail
    go_roundw
    case rel=>exact ⟨j+1,owr,by go_num,hlt,Hbr.out,by rw [Hsu.out];exact HOr.out,Hmr.out,How.out⟩
    case measure=>simp [intOf];omega
   have hq:(n !=frm)=true:=by simpa using hnf
   rw [if_neg (by simpa using hnf)] at hsu
   have hgr:wr.heap[w.heap.size]? =some (.cells ([.int .i64 p.kind,.int .i64 p.tenant,.string p.who,.int .i64 p.broker,.string p.sc,.slice ra p.cs.length rc,.string p.name,.int .i64 p.at_]:List Value).toArray 35 (0,0)):=hmr.md.heap Hgwa.out (fun hf=>hnF0 (by
    have hf':(ow w.heap.size=c\/ow w.heap.size=c+17)\/O.tg (ow w.heap.size):=hf;rw [HB0.out] at hf'
    exact hf'))
   have hls:(I6 (near.take j) frm L.length p).length<=1000:=Nat.le_trans (a0K _ _ _ _) (by rw [List.length_take];omega);have hct:=O.sends_cnt s (I6 (near.take j) frm L.length p);have hls2:(I6 (near.take j) frm L.length p).length<=near.length:=Nat.le_trans (a0K _ _ _ _) (by rw [List.length_take];omega);have hmv:X5 wr owr ⟨Mg.pol L.length p,ra,rc,none,0,none,0⟩:=⟨(Hxa.out.mov hmr hnF0).cs,l9.nil _ _ _,l9.nil _ _ _⟩
   have hsend:Calls Tryz.prog 294 #[.pointer (some ⟨q,0,none⟩),.int .i64 n,.int .i64 (-1),.agg #[.int .i64 0,.int .i64 L.length,.int .i64 p.kind,.int .i64 p.tenant,.string p.who,.int .i64 p.broker,.string p.sc,.slice ra p.cs.length rc,.string p.name,.int .i64 p.at_,
    .string ⟨#[]⟩,.slice none 0 0,.string ⟨#[]⟩,.slice none 0 0,.int .i64 0,.string ⟨#[]⟩,.int .i64 0]] wr fun e w'=>e= .returned (.tuple #[])/\∃ow',O.inv w' ow' (O.send (O.sends s (I6 (near.take j) frm L.length p)) n (-1) (Mg.pol L.length p))/\Mov O.tg wr owr w' ow':=
    O.hsend how hOr (by omega) (Hto.out n hnm) hmv
   obtain ⟨Hbr,HOr,Hmr,How,Hsu,Hnj,Hrd,Hnm,Hgr,Hsend,Hmv⟩:=zh11 hbr hOr hmr how hsu hnj hrd hnm hgr hsend hmv;clear hbr hOr hmr how hsu hnj hrd hnm hgr hsend hmv hct hls hls2 hnF0
   go_wp2_with (first|((with_reducible refine d9 35 (.tmp 8) ?_);refine ⟨w.heap.size,0,rfl,[.int .i64 p.kind,.int .i64 p.tenant,.string p.who,.int .i64 p.broker,.string p.sc,.slice ra p.cs.length rc,.string p.name,.int .i64 p.at_],e7.row Hgr.out,by kernel_rfl,by kernel_rfl, ?_⟩)|fail)
   refine Hsend.out.mono ?_;rintro e w3 ⟨rfl,ow3,hO3,hm3⟩;have ht0:¬O.tg 0:=fun h=>by have:=O.t2 0 h;omega
   have hb3:=Hbr.out.mov How.out hm3 ht0 (fun t ht=>HOt.out t ht);have how3:=hm3.owd How.out ht0;have hmr3:=Hmr.out.trans (hm3.mono (fun _ h=> .inr h));obtain ⟨HO3,Hm3,Hb3,How3,Hmr3⟩:=zh5 hO3 hm3 hb3 how3 hmr3;clear hO3 hm3 hb3 how3 hmr3 ht0
   go_wp2_with fail
   go_roundw
   case rel=>exact ⟨j+1,ow3,by go_num,hlt,Hb3.out,by rw [Hsu.out,O.sends_one];exact HO3.out,Hmr3.out,How3.out⟩
   case measure=>simp [intOf];omega
  obtain rfl:j=near.length:=by omega
  rw [List.take_length] at hOr;have hmr2:=(Hwa0.out.mono (G:=fun t=>(t=c\/t=c+17)\/O.tg t) (fun _ h=>h.elim)).trans hmr;obtain ⟨Hbr,HOr,Hmr,How,Hmr2⟩:=zh5 hbr hOr hmr how hmr2;clear hbr hOr hmr how hmr2 hnF0
  go_wp2
  go_ret;refine ⟨by rw [Hok.out];rfl,owr,⟨{a with v:=v2}, ?_⟩, ?_,Hmr2.out⟩
  ·unfold BS.learn;rw [Hok.out];exact Hbr.out
  rw [Hok.out];exact HOr.out
end
end Go.Proofs.YtaenebdppkjhoaaGreatDoor
