/- Lemmas. -/
import Derived.Test.YtaenebdppkjhoaaGreatDoorZf49
namespace Go.Proofs.YtaenebdppkjhoaaGreatDoor
set_option maxRecDepth 20000
set_option maxHeartbeats 40000000
section
open Go.RowKit
structure a3q (wS wT wr:World) (tb:Nat) (cells:List Value) (L:Nat->List Fr):Prop where
 len:cells.length=4
 row:wr.heap[tb]? =some (.cells cells.toArray 91 (0,0))
 lt:tb<wT.heap.size
 sl:∀t,t<4->∃a cap,cells[t]? =some (.slice a (L t).length cap)/\i7 wr 33 2 (.slice a (L t).length cap) (L t).length ((L t).flatMap Fr.cells)/\∀b,(Value.slice a (L t).length cap).ownBlock=some b->wT.heap.size<=b
 ne:∀(t u:Nat) (v v':Value) (b:Nat),t≠u->cells[t]? =some v->cells[u]? =some v'->v.ownBlock=some b->v'.ownBlock≠some b
 rd:∀t,t<4->∀f∈L t,j2 wS 7 (.slice f.a f.cs.length f.c) f.cs.length (k7 f.cs)
 md:Mod (fun k=>k=tb) wT wr
 m0:Mod (fun _=>False) wS wr
 tb0:wS.heap.size<=tb
theorem a3q.new {wS wT:World} {tb:Nat} (h:wT.heap[tb]? =some (.cells #[.slice none 0 0,.slice none 0 0,.slice none 0 0,.slice none 0 0] 91 (0,0))) (hm:Mod (fun _=>False) wS wT) (h0:wS.heap.size<=tb):a3q wS wT wT tb [.slice none 0 0,.slice none 0 0,.slice none 0 0,.slice none 0 0] (fun _=>[]):=by
 refine ⟨rfl,h,(zz7 h).1,fun t ht=>⟨none,0, ?_,i7.nil _ _ _,fun b hb=>(by cases hb)⟩,fun t u v v' b hn hv hv' hb=> ?_,fun t ht f hf=>(by cases hf),Mod.refl _ _,hm,h0⟩
 ·have h4:t=0\/t=1\/t=2\/t=3:=by omega
  rcases h4 with rfl|rfl|rfl|rfl<;>rfl
 have hm:=zz8 hv;simp only [List.mem_cons,List.not_mem_nil,or_false,or_self] at hm;subst hm;cases hb
theorem a3q.mod {wS wT wr w':World} {tb:Nat} {cells:List Value} {L:Nat->List Fr} (h:a3q wS wT wr tb cells L) (hm:Mod (fun _=>False) wr w'):a3q wS wT w' tb cells L:=
 ⟨h.len,hm.heap h.row (fun h=>h),h.lt,fun t ht=>by
  obtain ⟨a,cap,h1,h2,h3⟩:=h.sl t ht
  exact ⟨a,cap,h1,h2.mod hm (fun _ _ h=>h),h3⟩,h.ne,h.rd,h.md.trans (hm.mono (fun _ _ h=>h.elim)) (fun _ _ h=>h),h.m0.trans hm (fun _ _ h=>h),h.tb0⟩
theorem a3q.cell {wS wT wr:World} {tb:Nat} {cells:List Value} {L:Nat->List Fr} (h:a3q wS wT wr tb cells L) {t:Nat} {v:Value} (hv:cells[t]? =some v):wr.cell? ⟨tb,t,none⟩=some v:=(cell_of_row wr tb t _ _ _ h.row).trans (by simpa using hv)
theorem a3q.app {wS wT wr wz w6 w7:World} {tb:Nat} {cells:List Value} {L:Nat->List Fr} (h:a3q wS wT wr tb cells L) {t:Nat} (ht:t<4) {a:Option Addr} {cap:Nat} (hc:cells[t]? =some (.slice a (L t).length cap)) (fr:Fr) (hfr:j2 wS 7 (.slice fr.a fr.cs.length fr.c) fr.cs.length (k7 fr.cs))
 (hz:Mod (fun _=>False) wr wz) {v':Value} (hA:x6 wz 33 2 (.slice a (L t).length cap) ((L t).length+1) ((L t).flatMap Fr.cells++fr.cells) v' w6) (h7:w7.heap[tb]? =some (.cells (cells.set t v').toArray 91 (0,0))) (hm7:Mod (fun k=>k=tb) w6 w7):
 a3q wS wT w7 tb (cells.set t v') (upd L t (L t++[fr])):=by
 obtain ⟨hA1,hA2,hA3⟩:=hA;have hlt:=h.lt;have hsz:=h.md.size;have hzs:=hz.size;obtain ⟨a0,c0,hc0,ho0,hb0⟩:=h.sl t ht;rw [hc] at hc0;cases hc0
 have hvb:∀b,v'.ownBlock=some b->((Value.slice a (L t).length cap).ownBlock=some b/\wT.heap.size<=b)\/wz.heap.size<=b:=fun b hb=>by
  rcases hA3 with e|⟨k,e,hk⟩
  ·rw [e] at hb;exact .inl ⟨hb,hb0 b hb⟩
  rw [e] at hb;cases hb
  exact .inr hk
 have hl4:=h.len
 have hset:∀u v,(cells.set t v')[u]? =some v->(u=t/\v=v')\/(u≠t/\cells[u]? =some v/\u<4):=fun u v hu=>by
  rw [List.getElem?_set] at hu;by_cases e:t=u
  ·rw [if_pos e,if_pos (by omega)] at hu;exact .inl ⟨e.symm,(Option.some.inj hu).symm⟩
  rw [if_neg e] at hu;exact .inr ⟨fun e2=>e e2.symm,hu,by have:=(zz6 hu).1;omega⟩
 refine ⟨by rw [List.length_set];exact h.len,h7,h.lt,fun u hu=> ?_,fun x y v w b hn hv hw hb hb'=> ?_,fun u hu f hf=> ?_, ?_, ?_,h.tb0⟩
 ·by_cases e:u=t
  ·subst e;obtain ⟨a',c',e', -⟩:=hA1.shape;rw [P7];refine ⟨a',c', ?_, ?_,fun b hb=> ?_⟩
   ·rw [List.getElem?_set_self (by omega),e',zz4];rfl
   ·rw [zz4,List.flatMap_append]
    have h1:=hA1.mod hm7 (fun b hb e=>by
     have h2:b=tb:=e
     rcases hvb b hb with h3|h3<;>omega)
    rw [e'] at h1;simpa using h1
   rw [zz4] at hb;have hb2:v'.ownBlock=some b:=by rw [e'];exact hb
   rcases hvb b hb2 with h3|h3<;>omega
  rw [U0 _ _ e];obtain ⟨a1,c1,h1,h2,h3⟩:=h.sl u hu;refine ⟨a1,c1,by rw [List.getElem?_set_ne (fun e2=>e e2.symm)];exact h1,((h2.mod hz (fun _ _ h=>h)).mod hA2 (fun b hb hin=>h.ne u t _ _ b e h1 hc hb hin)).mod hm7 (fun b hb e=> ?_),h3⟩;have h4:b=tb:=e;have:=h3 b hb;omega
 ·have old:∀(u:Nat) (v:Value),u<4->cells[u]? =some v->∀b,v.ownBlock=some b->b<wr.heap.size:=fun u v hu hc b hb=>by
   obtain ⟨a1,c1,h1,h2, -⟩:=h.sl u hu;rw [h1] at hc;cases hc
   exact h2.lt b hb
  rcases hset x v hv with ⟨rfl,rfl⟩|⟨h1,h2,h2'⟩
  ·rcases hset y w hw with ⟨rfl,rfl⟩|⟨h3,h4,h4'⟩
   ·exact hn rfl
   rcases hvb b hb with h5|h5
   ·exact h.ne _ _ _ _ b hn hc h4 h5.1 hb'
   have:=old y w h4' h4 b hb';omega
  rcases hset y w hw with ⟨rfl,rfl⟩|⟨h3,h4,h4'⟩
  ·rcases hvb b hb' with h5|h5
   ·exact h.ne _ _ _ _ b hn h2 hc hb h5.1
   have:=old x v h2' h2 b hb;omega
  exact h.ne _ _ _ _ b hn h2 h4 hb hb'
 ·by_cases e:u=t
  ·subst e;rw [P7] at hf;rcases zz14 hf with hf|hf
   ·exact h.rd u hu f hf
   rw [List.mem_singleton.1 hf];exact hfr
  rw [U0 _ _ e] at hf;exact h.rd u hu f hf
 ·refine ((h.md.trans (hz.mono (fun _ _ h=>h.elim)) (fun _ _ h=>h)).upon hA2 (fun b hb=> .inr (hb0 b hb))).trans hm7 (fun _ _ h=>h)
 have h0:=h.tb0;refine ((h.m0.trans hz (fun _ _ h=>h)).upon hA2 (fun b hb=> .inr (by have:=hb0 b hb;omega))).upon hm7 (fun b hb=> .inr ?_);have h1:b=tb:=hb;omega
theorem a2d (w:World) (ow:Ow) (c g:Nat) (id:Int) (near:List Int) (B:BS) (h:Bro w ow c g id near B) (t:Nat) (ht:t<4):
 Calls Tryz.prog 33 #[.pointer (some ⟨g,0,none⟩),.int .i64 t] w fun e w'=>e= .returned (.int .i64 (B.R t).S.length)/\w=w':=by
 obtain ⟨a,h⟩:=h;obtain ⟨-, -,q2, -⟩:=h.cells ht;have ht4:(t:Int)<4:=by omega
 have ht0:(0:Int)<=t:=by omega
 have hlen:=fun ty=>(h.rea t ht).sub.len ty;have H:=zh h;clear h
 go_enter Tryz.func33,Tryz.ntmps33
 go_wp2
 go_ret;exact ⟨rfl,rfl⟩
def Q7 (l:List PRu):List PRu:=l.foldl O1 []
theorem a5J (l:List PRu) (p:PRu):Q7 (l++[p])=O1 (Q7 l) p:=by unfold Q7;rw [List.foldl_append];rfl
theorem a01 (l:List PRu):(Q7 l).length<=40:=by
 unfold Q7
 have h:∀(l:List PRu) (Q:List PRu),Q.length<=40->(l.foldl O1 Q).length<=40:=fun l=>by
  induction l with
  |nil=>exact fun Q h=>h
  |cons a l ih=>exact fun Q h=>ih _ (a6w h a)
 exact h l [] (by decide)
theorem N5.app {w0 w wz w6:World} {ow:Ow} {d g:Nat} {v v':Value} {L:List Lr} {x:Lr} (_hw:Owd w0 w ow) (h2:2<=d) (hg:g<w.heap.size) (h:N5 w ow d g v L) (hz:Mod (fun _=>False) w wz) (hx:a1W w ow x)
 (hA:x6 wz 35 8 v (L.length+1) (rus (L.map Lr.ru)++x.ru.cells) v' w6):∃ow',N5 w6 ow' d g v' (L++[x])/\Mov (fun t=>t=d) w ow w6 ow':=by
 obtain ⟨hA1,hA2,hA3⟩:=hA;have hzs:=hz.size;have hsz:=hA2.size;have hvb:∀b,v.ownBlock=some b->b<w.heap.size:=fun b hb=>h.sl.lt b hb;have hmA:Mod (j0 v) w w6:=(hz.mono (fun _ _ h=>h.elim)).trans hA2 (fun b hb h=>h);have hmF:Mod (fun k=>ow k=d) w w6:=hmA.mono (fun k _ hk=>(h.vb k hk).1)
 have hv'b:∀b,v'.ownBlock=some b->(v.ownBlock=some b/\b<w.heap.size)\/(wz.heap.size<=b/\b<w6.heap.size):=fun b hb=>by
  rcases hA3 with e|⟨k,e,hk⟩
  ·rw [e] at hb;exact .inl ⟨hb,hvb b hb⟩
  have:=hA1.lt b hb;rw [hb] at e;cases e
  exact .inr ⟨hk,by omega⟩
 have hmv:Mov (fun t=>t=d) w ow w6 (p8 w w6 ow (j0 v') (fun _=>True) d):=Mov.tag rfl hmF;refine ⟨_,⟨?_,fun b hb=>⟨?_, ?_⟩,fun q hq=> ?_⟩,hmv⟩
 ·rw [zz4,List.map_append,a0x];have e:rus ([x].map Lr.ru)=x.ru.cells:=by simp [rus]
  rw [e];exact hA1
 ·rcases hv'b b hb with h1|h1
  ·rw [o5 h1.2];exact (h.vb b h1.1).1
  exact C3 (by omega) h1.2 hb
 ·rcases hv'b b hb with h1|h1
  ·exact (h.vb b h1.1).2
  omega
 rcases zz14 hq with hq|hq
 ·exact (h.each q hq).mov hmv (by omega)
 rw [List.mem_singleton.1 hq];exact hx.mov hmv (by omega)
theorem a87 {w0 w:World} (h:C6 w0 w):C6 w w:=⟨h.at_,Nat.le_trans h.n64 h.size,⟨rfl,rfl,rfl,Nat.le_refl _,fun _ _=>rfl⟩⟩
theorem Owd.loc {w0 w:World} {ow:Ow} (h:Owd w0 w ow) (o:Obj):Mov (fun t=>t=1) w ow (w.alloc o) (p7 ow w.heap.size 1):=Mov.alloc h o 1 (.inr (.inl rfl))
def b4K (w:World) (l:List Ru) (g gl q:Nat) (vm i:Value) (wr:World):Prop:=
 ∃(j:Nat) (owr:Ow) (P:List PRu) (vL:Value) (L M:List Lr) (S:List Sd),i= .int .i64 j/\j<=l.length/\P=Q7 ((l.take j).map Ru.pru)/\Owd w wr owr/\Bro wr owr 2 g 0 [1,2] ⟨P,fun _=>RS.zero⟩/\I6 wr owr 60 60 gl [] 53 vL L/\L.map Prod.fst=P/\
  N5 wr owr 61 gl vm M/\M.map Prod.fst=P/\OtI wr owr 40 q S []/\S.length<=2*j/\Mod (fun _=>False) w wr
def a5K (w:World) (l:List Ru) (e:Ending) (w':World):Prop:=
 ∃(ow':Ow) (g gl:Nat) (vm:Value) (M:List Lr),e= .returned (.tuple #[.pointer (some ⟨g,0,none⟩),vm])/\Owd w w' ow'/\Bro w' ow' 2 g 0 [1,2] ⟨Q7 (l.map Ru.pru),fun _=>RS.zero⟩/\N5 w' ow' 61 gl vm M/\M.map Prod.fst=Q7 (l.map Ru.pru)/\Mod (fun _=>False) w w'
theorem a7c (w:World) (hl0:C6 w w) (v:Value) (l:List Ru) (hv:K5 w v l) (hl80:l.length<=80) (hfi:∀r∈l,r.pru.fine):Calls Tryz.prog 17 #[v] w (a5K w l):=by
 obtain ⟨a,cap,rfl,hcap⟩:∃a c,v= .slice a l.length c/\l.length<=c:=by obtain ⟨-,a,c,h,h2, -⟩:=hv.rd;exact ⟨a,c,h,h2⟩
 have hcap':(l.length:Int)<=cap:=by omega
 have hl80':(l.length:Int)<=80:=by omega
 obtain ⟨wa,hwa,hmwa,hgwa,hzwa⟩:=e9 w (.cells #[.int .i64 1,.int .i64 2] 3);have hoa:Owd w wa (fun _=>0):=⟨fun k h=>absurd rfl h,fun k h=>absurd rfl h,hl0.mod0 hmwa⟩;have hrd:j2 wa 1 (.slice (some ⟨w.heap.size,0,none⟩) 2 2) 2 [.int .i64 1,.int .i64 2]:=⟨rfl,_,_,rfl,Nat.le_refl _,(fun h=>by cases h),fun b hb _=>⟨_,0,(by cases hb;rfl),fun j u hu=>by rw [Nat.zero_add];exact d6 hgwa (by simpa using hu)⟩⟩;have hnew:=a7N w wa (fun _=>0) 2 hoa (by omega) 0 (.slice (some ⟨w.heap.size,0,none⟩) 2 2) [1,2] hrd (by decide);obtain ⟨Hl0,Hv,Hfi,Hwa,Hmwa,Hnew,Hoa⟩:=zh7 hl0 hv hfi hwa hmwa hnew hoa;clear hl0 hv hfi hwa hmwa hnew hoa hgwa hzwa hrd hcap
 go_enter Tryz.func17,Tryz.ntmps17
 go_wp2_with (first|(rw [show w.alloc _=wa from Hwa.out])|fail)
 refine Hnew.out.mono ?_;rintro e w3 ⟨g,ow3,rfl,ho3,hb3,hm3⟩;obtain ⟨hO4,hm4⟩:=OtI.new (c:=40) ho3;obtain ⟨w4,hw4⟩:∃w4:World,w3.alloc (.cells #[.slice none 0 0,.slice none 0 0] 39)=w4:=⟨_,rfl⟩;rw [hw4] at hO4 hm4;have hb4:=hb3.mov ho3 hm4 (by omega) (fun t e=>by omega);have ho4:=hm4.owd ho3 (by omega);have hr3:Mod (fun _=>False) w w3:=hm3.mod0 Hoa.out Hmwa.out (by omega);have hr4:=hm4.mod0 ho3 hr3 (by omega);have hrp:=a8G w w4 _ 60 ho4 (by omega);have hq3:w3.heap.size<w4.heap.size:=by rw [<-hw4];simp
 obtain ⟨Ho3,Hb3,Hm3,HO4,Hm4,Hw4,Hb4,Ho4,Hr3,Hr4,Hrp,Hq3⟩:=zh12 ho3 hb3 hm3 hO4 hm4 hw4 hb4 ho4 hr3 hr4 hrp hq3;clear ho3 hb3 hm3 hO4 hm4 hw4 hb4 ho4 hr3 hr4 hrp hq3
 go_wp2_with (first|(rw [show w3.alloc _=w4 from Hw4.out])|fail)
 refine Hrp.out.mono ?_;rintro e w5 ⟨gl,ow5,rfl,hlg,hm5,hm5'⟩;have hb5:=Hb4.out.mov Ho4.out hm5 (by omega) (fun t e=>by omega);have hO5:=HO4.out.mov hm5 (by omega) (by omega);have ho5:=hm5.owd Ho4.out (by omega);have hr5:=hm5.mod0 Ho4.out Hr4.out (by omega);obtain ⟨Hb5,Ho5,HO5,Hr5,Hlg,Hm5⟩:=zh6 hb5 ho5 hO5 hr5 hlg hm5;clear hb5 ho5 hO5 hr5 hlg hm5 hm5'
 go_wp2_with fail
 go_loopw [6,19] (fun vm i wr=>b4K w l g gl w3.heap.size vm i wr) (fun _ i _=>l.length - (intOf i).toNat)
 case atStart=>exact ⟨0,ow5,[],.slice none 0 0,[],[],[],rfl,Nat.zero_le _,rfl,Ho5.out,Hb5.out,Hlg.out,rfl,⟨i7.nil _ _ _,fun b hb=>(by cases hb),fun x hx=>(by cases hx)⟩,rfl,HO5.out,Nat.zero_le _,Hr5.out⟩
 case round=>
  obtain ⟨j,owr,P,vL,L,M,S,rfl,hj,hPj,hor,hbr,hlr,hLP,hMr,hMP,hOr,hSl,hmr⟩:=hrel;by_cases hlt:j<l.length
  ·have hlt':(j:Int)<l.length:=by omega
   obtain ⟨x,hxj⟩:∃x,l[j]? =some x:=⟨_,zz5 hlt⟩;have hxm:=zz8 hxj;obtain ⟨g2,off,rfl,hf⟩:∃g2 off,a=some ⟨g2,off,none⟩/\e7 wr g2 (off+j*8) x.cells:=M3 (Hv.out.mod hmr) hxj;have hP40:P.length<=40:=by rw [hPj];exact a01 _
   have hPn:Q7 ((l.take (j+1)).map Ru.pru)=O1 P x.pru:=by rw [List.take_add_one,hxj,Option.toList_some,List.map_append,hPj];exact a5J _ _
   have hMl:M.length=P.length:=by rw [<-hMP,zz10]
   obtain ⟨am,cm,rfl, -⟩:∃a' cc,u6= .slice a' M.length cc/\M.length<=cc:=by obtain ⟨-,a,cc,h,h2, -⟩:=hMr.sl.rd;exact ⟨a,cc,h,h2⟩
   rw [show Value.slice am M.length cm=Value.slice am P.length cm by rw [hMl]] at hMr⊢;obtain ⟨wz,hwz,hmwz,hgwz,hzwz⟩:=e9 wr (.cells x.cells.toArray 35);have hlz:=hor.loc (.cells x.cells.toArray 35);rw [hwz] at hlz;obtain ⟨oz,hozd⟩:∃oz:Ow,p7 owr wr.heap.size 1=oz:=⟨_,rfl⟩;rw [hozd] at hlz;have hoz1:oz wr.heap.size=1:=by rw [<-hozd];exact A5 _ _ _
   have hoz:=hlz.owd hor (by omega);have hbz:=hbr.mov hor hlz (by omega) (fun t e=>by omega);have hLz:=hlr.mov hlz (by omega) (by omega) (by omega);have hMz:=hMr.mov hlz (by omega) (by omega);have hOz:=hOr.mov hlz (by omega) (by omega);have hrz:=hmr.trans hmwz (fun _ _ h=>h);have hgz:wz.heap[wr.heap.size]? =some (.cells ([.int .i64 x.kind,.int .i64 x.tenant,.string x.who,.int .i64 x.broker,.string x.sc,.slice x.ca x.cs.length x.cc,.string x.name,.int .i64 x.at_]:List Value).toArray 35 (0,0)):=hgwz;have hxz:a1W wz oz (x.pru,x.ca,x.cc):=⟨m4.of_rd hoz (Hv.out.ok x hxm).rd (by omega),Hfi.out x hxm⟩;have hgll:=(zz7 hlr.row).1
   have hadd:Calls Tryz.prog 13 #[.pointer (some ⟨gl,0,none⟩),.agg #[.int .i64 x.kind,.int .i64 x.tenant,.string x.who,.int .i64 x.broker,.string x.sc,.slice x.ca x.cs.length x.cc,.string x.name,.int .i64 x.at_]] wz (a19 wz oz 60 60 gl [] 53 L x.pru):=
    a7L w wz oz 60 60 gl [] 53 vL L hoz ⟨by omega,by omega⟩ hLz (by have:=congrArg List.length hLP;rw [zz10] at this;omega) x.pru x.ca x.cc hxz.cs.rd hxz.fine
   obtain ⟨R,hR⟩:∃R,a1i P x.pru=R:=⟨_,rfl⟩;have hP':(P.length:Int)<=40:=by omega
   have hj80:j<=80:=by omega
   obtain ⟨Hmr,Hor,Hbr,Hlr,HMr,HMP,HOr,Hxj,Hxm,Hf,Hwz,Hmwz⟩:=zh12 hmr hor hbr hlr hMr hMP hOr hxj hxm hf hwz hmwz;obtain ⟨Hgwz,Hlz,Hozd,Hoz1,Hoz,Hbz,HLz,HMz,HOz,Hrz,Hgz,Hxz⟩:=zh12 hgwz hlz hozd hoz1 hoz hbz hLz hMz hOz hrz hgz hxz;obtain ⟨Hadd,HR,HLP,HPn,HPj,HMl,Hgll⟩:=zh7 hadd hR hLP hPn hPj hMl hgll;clear hmr hor hbr hlr hMr hMP hOr hxj hxm hf hwz hmwz hgwz hlz hozd hoz1 hoz hbz hLz hMz hOz hrz hgz hxz hadd hR hLP hPn hPj hMl hgll hzwz;have hgz':=Hgz.out
   go_wp2_with (first|((with_reducible refine d9 35 (.tmp 21) ?_);refine ⟨g2,off+j*8,rfl,x.cells,Hf.out,by kernel_rfl,by kernel_rfl, ?_⟩)|((with_reducible refine d8 35 (.tmp 10) (.tmp 22) ?_);refine ⟨rfl,x.cells,rfl,rfl,by kernel_rfl,rfl, ?_⟩;rw [Hwz.out])|((with_reducible refine d9 35 (.tmp 10) ?_);refine ⟨wr.heap.size,0,rfl,[.int .i64 x.kind,.int .i64 x.tenant,.string x.who,.int .i64 x.broker,.string x.sc,.slice x.ca x.cs.length x.cc,.string x.name,.int .i64 x.at_],e7.row Hgz.out,by kernel_rfl,by kernel_rfl, ?_⟩)|fail)
   refine Hadd.out.mono ?_;rintro e w5 ⟨rfl,ow5,v5,L5,hl5,hp5,hm5⟩;rw [HLP.out,HR.out];rw [HLP.out] at hp5;have ho5:=hm5.owd Hoz.out (by omega);have hb5:=Hbz.out.mov Hoz.out hm5 (by omega) (fun t e=>by omega);have hM5:=HMz.out.mov hm5 (by omega) (by omega);have hO5:=HOz.out.mov hm5 (by omega) (by omega);have hx5:=Hxz.out.mov hm5 (by omega);have hr5:=hm5.mod0 Hoz.out Hrz.out (by omega);have hg5:=hm5.md.heap Hgz.out (by rw [Hoz1.out];omega);have ho51:ow5 wr.heap.size=1:=by rw [hm5.old _ (zz7 Hgz.out).1];exact Hoz1.out
   clear hgz';by_cases hR0:R=0;rotate_left
   ·have hb1:(R==0)=false:=by simpa using hR0
    have hpk:O1 P x.pru=P:=by unfold O1;rw [HR.out,if_neg hR0]
    obtain ⟨Hl5,Hp5,Hm5,Ho5,Hb5,HM5,HO5,Hx5,Hr5,Hg5,Ho51,Hpk⟩:=zh12 hl5 hp5 hm5 ho5 hb5 hM5 hO5 hx5 hr5 hg5 ho51 hpk;clear hl5 hp5 hm5 ho5 hb5 hM5 hO5 hx5 hr5 hg5 ho51 hpk
    go_wp2_with fail
    go_roundw
    case rel=>exact ⟨j+1,ow5,P,_,_,M,S,by go_num,hlt,by rw [HPn.out,Hpk.out],Ho5.out,Hb5.out,Hl5.out,by rw [Hp5.out,Hpk.out],HM5.out,HMP.out,HO5.out,by omega,Hr5.out⟩
    case measure=>simp [intOf];omega
   subst hR0;have hok:B0 P P.length x.pru=true:=by unfold B0;rw [HR.out,decide_eq_true rfl];rfl
   have hpk:O1 P x.pru=P++[x.pru.kept]:=by unfold O1;rw [HR.out,if_pos rfl]
   have hle:Calls Tryz.prog 14 #[.pointer (some ⟨g,0,none⟩),.iface 43 (.pointer (some ⟨w3.heap.size,0,none⟩)),.int .i64 P.length,.agg #[.int .i64 x.kind,.int .i64 x.tenant,.string x.who,.int .i64 x.broker,.string x.sc,.slice x.ca x.cs.length x.cc,.string x.name,.int .i64 x.at_],.int .i64 1] w5 (a1r (I7 w w3.heap.size 40 (by omega)) w5 ow5 2 g 0 [1,2] ⟨P,fun _=>RS.zero⟩ (S,[]) P.length x.pru 1):=
    a5r w w5 ow5 2 g 0 [1,2] _ ho5 hb5 hP40 w3.heap.size (I7 w w3.heap.size 40 (by omega)) (S,[]) hO5 (fun t ht=>by have h':t=40:=ht;omega) (show S.length+0+2<=400000000000 by omega) (by decide) (fun _ _=>trivial) P.length x.pru x.ca x.cc hx5 1
   have hg5':=hg5;have y0:w5.cell? ⟨wr.heap.size,0,none⟩=some (.int .i64 x.kind):=d6 hg5' rfl;have y1:w5.cell? ⟨wr.heap.size,1,none⟩=some (.int .i64 x.tenant):=d6 hg5' rfl;have y2:w5.cell? ⟨wr.heap.size,2,none⟩=some (.string x.who):=d6 hg5' rfl;have y3:w5.cell? ⟨wr.heap.size,3,none⟩=some (.int .i64 x.broker):=d6 hg5' rfl;have y4:w5.cell? ⟨wr.heap.size,4,none⟩=some (.string x.sc):=d6 hg5' rfl;have y5:w5.cell? ⟨wr.heap.size,5,none⟩=some (.slice x.ca x.cs.length x.cc):=d6 hg5' rfl;have y6:w5.cell? ⟨wr.heap.size,6,none⟩=some (.string x.name):=d6 hg5' rfl;have y7:w5.cell? ⟨wr.heap.size,7,none⟩=some (.int .i64 x.at_):=d6 hg5' rfl;clear hg5';obtain ⟨Hl5,Hp5,Hm5,Ho5,Hb5,HM5,HO5,Hx5,Hr5,Hg5,Ho51,Hle⟩:=zh12 hl5 hp5 hm5 ho5 hb5 hM5 hO5 hx5 hr5 hg5 ho51 hle;have Hpk:=zh hpk;clear hl5 hp5 hm5 ho5 hb5 hM5 hO5 hx5 hr5 hg5 ho51 hle hpk
   go_wp2_with fail
   refine Hle.out.mono ?_;rintro e w6 ⟨rfl,ow6,hb6,hO6,hm6⟩;clear y0 y1 y2 y3 y4 y5 y6 y7;rw [show B0 (⟨P,fun _=>RS.zero⟩:BS).L (↑P.length) x.pru=true from hok] at hO6⊢;rw [if_pos rfl,Z1] at hO6
   have hb6':Bro w6 ow6 2 g 0 [1,2] ⟨O1 P x.pru,fun _=>RS.zero⟩:=by
    have:=hb6;unfold BS.learn at this;rw [show B0 (⟨P,fun _=>RS.zero⟩:BS).L (↑P.length) x.pru=true from hok] at this;exact this
   have hSn:(S++H4 [1,2] 1 (P.length:Int) x.pru).length<=2*(j+1):=by have:=a0o [1,2] 1 (P.length:Int) x.pru;rw [zz4];have e:([1,2]:List Int).length=2:=rfl;omega
   have ho6:=hm6.owd Ho5.out (by show¬((0=2\/0=2+17)\/0=40);omega);have hr6:=hm6.mod0 Ho5.out Hr5.out (by show¬((0=2\/0=2+17)\/0=40);omega);have hl6:=Hl5.out.mov hm6 (by show¬((0=2\/0=2+17)\/0=40);omega) (by show¬((60=2\/60=2+17)\/60=40);omega) (by show¬((60=2\/60=2+17)\/60=40);omega);have hM6:=HM5.out.mov hm6 (by show¬((0=2\/0=2+17)\/0=40);omega) (by show¬((61=2\/61=2+17)\/61=40);omega);have hx6:=Hx5.out.mov hm6 (by show¬((0=2\/0=2+17)\/0=40);omega);have hg6:=hm6.md.heap Hg5.out (by rw [Ho51.out];show¬((1=2\/1=2+17)\/1=40);omega);have ho61:ow6 wr.heap.size=1:=by rw [hm6.old _ (zz7 Hg5.out).1];exact Ho51.out
   have hfine:=hx6.fine;have hfr:=I4 w6 x.sc (.slice x.ca x.cs.length x.cc) x.cs hx6.cs.rd (by have h1:x.cs.length<=1000:=hfine.len;omega) (by have h1:x.sc.size<=1000000:=hfine.sc;omega) (fun c hc=>by have:=(hfine.cs c hc).name;omega);have e4:w6.cell? ⟨wr.heap.size,4,none⟩=some (.string x.sc):=d6 hg6 rfl;have e5:w6.cell? ⟨wr.heap.size,5,none⟩=some (.slice x.ca x.cs.length x.cc):=d6 hg6 rfl;obtain ⟨Hb6',Ho6,Hr6,Hl6,HM6,Hx6,Hg6,Ho61,HO6,Hfr,HSn,Hfine⟩:=zh12 hb6' ho6 hr6 hl6 hM6 hx6 hg6 ho61 hO6 hfr hSn hfine;clear hb6' ho6 hr6 hl6 hM6 hx6 hg6 ho61 hO6 hfr hSn hfine hb6 hm6 hok
   go_wp2_with fail
   refine Hfr.out.mono ?_;rintro e w7 ⟨rfl,hm7⟩;have hv7:=Mov.of Ho6.out hm7 (fun _=>False);have ho7:=hv7.owd Ho6.out (fun h=>h);have hb7:=Hb6'.out.mov Ho6.out hv7 (fun h=>h) (fun _ h=>h.elim);have hl7:=Hl6.out.mov hv7 (fun h=>h) (fun h=>h) (fun h=>h);have hM7:=HM6.out.mov hv7 (fun h=>h) (fun h=>h);have hO7:=OtI.mov HO6.out hv7 (fun h=>h) (fun h=>h);have hx7:=Hx6.out.mov hv7 (fun h=>h);have hg7:=hm7.heap Hg6.out (fun h=>h);have hr7:=Hr6.out.trans hm7 (fun _ _ h=>h)
   cases hfb:j4 x.sc x.cs with
   |false=>
    have hkk:x.pru.kept=x.pru:=by unfold PRu.kept;rw [show j4 x.pru.sc x.pru.cs=false from hfb];rfl
    obtain ⟨Ho7,Hb7,Hl7,HM7,HO7,Hx7,Hg7,Hr7,Hv7,Hm7,Hkk,Hfb⟩:=zh12 ho7 hb7 hl7 hM7 hO7 hx7 hg7 hr7 hv7 hm7 hkk hfb;clear ho7 hb7 hl7 hM7 hO7 hx7 hg7 hr7 hv7 hm7 hkk hfb;clear e4 e5;obtain ⟨wS,hwS,hmwS,hgwS,hzwS⟩:=e9 w7 (.cells (x.pru.lies x.ca x.cc).cells.toArray 35);have hwS':w7.alloc (.cells #[.int .i64 x.kind,.int .i64 x.tenant,.string x.who,.int .i64 x.broker,.string x.sc,.slice x.ca x.cs.length x.cc,.string x.name,.int .i64 x.at_] 35)=wS:=hwS;have hrdS:j2 wS 8 (.slice (some ⟨w7.heap.size,0,none⟩) 1 1) 1 (x.pru.lies x.ca x.cc).cells:=hwS▸j2.one w7 (x.pru.lies x.ca x.cc).cells 35 rfl;have hslS:=HM7.out.sl.mod hmwS (fun _ _ h=>h);have hone:∀u∈(x.pru.lies x.ca x.cc).cells,u.oneCell'=true:=fun u hu=>zz15 (show (x.pru.lies x.ca x.cc).cells.all (·.oneCell')=true from rfl) u hu;rw [HMl.out] at hslS;have hglS:gl<w7.heap.size:=(zz7 Hl7.out.row).1;obtain ⟨HwS',HrdS,HslS,Hone,HmwS,HglS⟩:=zh6 hwS' hrdS hslS hone hmwS hglS;clear hwS' hrdS hslS hone hmwS hglS hwS hgwS hzwS
    go_wp2_with (first|((with_reducible refine d9 35 (.tmp 10) ?_);refine ⟨wr.heap.size,0,rfl,[.int .i64 x.kind,.int .i64 x.tenant,.string x.who,.int .i64 x.broker,.string x.sc,.slice x.ca x.cs.length x.cc,.string x.name,.int .i64 x.at_],e7.row Hg7.out,by kernel_rfl,by kernel_rfl, ?_⟩)|(rw [show w7.alloc _=wS from HwS'.out])|((with_reducible refine j9 (.tmp 42) (.tmp 44) 22 ?_);refine ⟨rfl,35,8,104,X2,.slice am P.length cm,P.length,rus (M.map Lr.ru),rfl,HslS.out,_,1,(x.pru.lies x.ca x.cc).cells,rfl,HrdS.out,Hone.out,by omega,by unfold maxLen;omega, ?_⟩;intro ad cp2 w9 hA;have HA:=Lib.hid hA;clear hA)|fail)
    have hA2:=HA.out;rw [<-HMl.out] at hA2;obtain ⟨ow9,hM9,hv9⟩:=N5.app (d:=61) (v:= .slice am M.length cm) (x:=(x.pru,x.ca,x.cc)) Ho7.out (by omega) HglS.out (by rw [HMl.out];exact HM7.out) HmwS.out Hx7.out hA2;have ho9:=hv9.owd Ho7.out (by omega);have hb9:=Hb7.out.mov Ho7.out hv9 (by omega) (fun t e=>by omega);have hl9:=Hl7.out.mov hv9 (by omega) (by omega) (by omega);have hO9:=OtI.mov HO7.out hv9 (by omega) (by omega);have hr9:=hv9.mod0 Ho7.out Hr7.out (by omega);rw [HMl.out] at hM9;have hM9':(M++[(x.pru,x.ca,x.cc)]).map Prod.fst=O1 P x.pru:=by rw [List.map_append,HMP.out,Hpk.out,Hkk.out];rfl
    obtain ⟨HM9,Hv9,Ho9,Hb9,Hl9,HO9,Hr9,HM9'⟩:=zh8 hM9 hv9 ho9 hb9 hl9 hO9 hr9 hM9';clear hM9 hv9 ho9 hb9 hl9 hO9 hr9 hM9' hA2;clear HA
    go_roundw
    case rel=>exact ⟨j+1,ow9,_,_,_,_,_,by go_num,hlt,HPn.out.symm,Ho9.out,Hb9.out,Hl9.out,Hp5.out,HM9.out,HM9'.out,HO9.out,HSn.out,Hr9.out⟩
    case measure=>simp [intOf];omega
   | true=>
    have hfl:=J5 hfb;have hkp:x.pru.kept={x.pru with cs:=j1 x.cs}:=by unfold PRu.kept;rw [if_pos (show j4 x.pru.sc x.pru.cs=true from hfb)];rfl
    have hnr:=Y6 w w7 ho7.laid x.sc (.slice x.ca x.cs.length x.cc) x.cs hx7.cs.rd (by have:=hfl.2.1;omega) Hfine.out.cs;obtain ⟨nl,hnl⟩:∃nl,j1 x.cs=nl:=⟨_,rfl⟩;rw [hnl] at hnr hkp;have e4:w7.cell? ⟨wr.heap.size,4,none⟩=some (.string x.sc):=d6 hg7 rfl;have e5:w7.cell? ⟨wr.heap.size,5,none⟩=some (.slice x.ca x.cs.length x.cc):=d6 hg7 rfl;obtain ⟨Ho7,Hb7,Hl7,HM7,HO7,Hx7,Hg7,Hr7,Hv7,Hm7,Hfl,Hkp⟩:=zh12 ho7 hb7 hl7 hM7 hO7 hx7 hg7 hr7 hv7 hm7 hfl hkp;obtain ⟨Hnr,Hnl,Hfb⟩:=zh3 hnr hnl hfb;clear ho7 hb7 hl7 hM7 hO7 hx7 hg7 hr7 hv7 hm7 hfl hkp hnr hnl hfb
    go_wp2_with fail
    refine Hnr.out.mono ?_;rintro e w8 ⟨na,nc,rfl,hno,hnb,hm8⟩;have hv8:=Mov.of Ho7.out hm8 (fun _=>False);have ho8:=hv8.owd Ho7.out (fun h=>h);have hg8:=hm8.heap Hg7.out (fun h=>h);have hgl8:=(zz7 hg8).1;have hgl7:=(zz7 Hg7.out).1;have hkk:x.pru.kept=({x.pru with cs:=nl}:PRu):=Hkp.out;have hkf:({x.pru with cs:=nl}:PRu).fine:=by rw [<-hkk];exact Hfine.out.kept
    have hnb1:∀b,(Value.slice am P.length cm).ownBlock=some b->b≠wr.heap.size:=fun b hb e=>by have h1:=(HM7.out.vb b hb).1;rw [e,Ho61.out] at h1;omega
    have hslY:∀(wy:World) (o:Obj),Mod (fun b=>b=wr.heap.size) w8 wy->i7 (wy.alloc o) 35 8 (.slice am P.length cm) P.length (rus (M.map Lr.ru)):=fun wy o hmy=>by
     have h1:=((HM7.out.sl.mod hm8 (fun _ _ h=>h)).mod hmy (fun b hb e=>hnb1 b hb e)).alloc o;rw [HMl.out] at h1;exact h1
    have hone:∀u∈(({x.pru with cs:=nl}:PRu).lies na nc).cells,u.oneCell'=true:=fun u hu=>zz15 (show (({x.pru with cs:=nl}:PRu).lies na nc).cells.all (·.oneCell')=true from rfl) u hu;obtain ⟨Hno,Hnb,Hm8,Hv8,Ho8,Hg8,Hkk,Hkf,HslY,Hone⟩:=zh10 hno hnb hm8 hv8 ho8 hg8 hkk hkf hslY hone;clear hno hnb hm8 hv8 ho8 hg8 hkk hkf hslY hone
    go_wp2_with (first|((with_reducible refine I5 33 (.tmp 41) (.tmp 40) ?_);refine ⟨wr.heap.size,4,rfl,_,_,Hg8.out,[.string x.sc,.slice na nl.length nc],rfl,Nat.le_of_ble_eq_true rfl,by kernel_rfl,rfl, ?_⟩;intro wy hey hmy;have hgy:wy.heap[wr.heap.size]? =some (.cells ([.int .i64 x.kind,.int .i64 x.tenant,.string x.who,.int .i64 x.broker,.string x.sc,.slice na nl.length nc,.string x.name,.int .i64 x.at_]:List Value).toArray 35 (0,0)):=hey▸setRow_heap w8 wr.heap.size _ _ _ _ Hg8.out;have Hgy:=Lib.hid hgy;have Hmy:=Lib.hid hmy;clear hey hgy hmy)|((with_reducible refine d9 35 (.tmp 10) ?_);refine ⟨wr.heap.size,0,rfl,[.int .i64 x.kind,.int .i64 x.tenant,.string x.who,.int .i64 x.broker,.string x.sc,.slice na nl.length nc,.string x.name,.int .i64 x.at_],e7.row Hgy.out,by kernel_rfl,by kernel_rfl, ?_⟩)|((with_reducible refine j9 (.tmp 42) (.tmp 44) 22 ?_);refine ⟨rfl,35,8,104,X2,.slice am P.length cm,P.length,rus (M.map Lr.ru),rfl,HslY.out wy _ Hmy.out,_,1,(({x.pru with cs:=nl}:PRu).lies na nc).cells,rfl,j2.one wy (({x.pru with cs:=nl}:PRu).lies na nc).cells 35 rfl,Hone.out,by omega,by unfold maxLen;omega, ?_⟩;intro ad cp2 w9 hA;have HA:=Lib.hid hA;clear hA)|fail)
    have hvy:Mov (fun t=>t=1) w8 ow6 wy ow6:=Mov.wrote Ho8.out Hmy.out (fun b hb=>by have hb':b=wr.heap.size:=hb;rw [hb'];exact Ho61.out);have hoy:=hvy.owd Ho8.out (by omega);have hry:=hvy.mod0 Ho8.out (Hr7.out.trans Hm8.out (fun _ _ h=>h)) (by omega);have hby:=(Hb7.out.mov Ho7.out Hv8.out (fun h=>h) (fun _ h=>h.elim)).mov Ho8.out hvy (by omega) (fun t e=>by omega);have hly:=(Hl7.out.mov Hv8.out (fun h=>h) (fun h=>h) (fun h=>h)).mov hvy (by omega) (by omega) (by omega);have hMy:=(HM7.out.mov Hv8.out (fun h=>h) (fun h=>h)).mov hvy (by omega) (by omega);have hOy:=OtI.mov (OtI.mov HO7.out Hv8.out (fun h=>h) (fun h=>h)) hvy (by omega) (by omega);have hxy:a1W wy ow6 (({x.pru with cs:=nl}:PRu),na,nc):=⟨⟨(Hno.out.mod Hmy.out (fun b hb e=>by have h1:=Hnb.out b hb;have h3:b=wr.heap.size:=e;have h4:=(zz7 Hg7.out).1;omega)).rd,fun _ b hb=>Ho7.out.zero (Hnb.out b hb)⟩,Hkf.out⟩;have hgly:gl<wy.heap.size:=(zz7 hly.row).1;obtain ⟨Hvy,Hoy,Hry,Hby,Hly,HMy,HOy,Hxy,Hgly⟩:=zh9 hvy hoy hry hby hly hMy hOy hxy hgly;clear hvy hoy hry hby hly hMy hOy hxy hgly;have hA2:=HA.out;rw [<-HMl.out] at hA2;obtain ⟨ow9,hM9,hv9⟩:=N5.app (d:=61) (v:= .slice am M.length cm) (x:=(({x.pru with cs:=nl}:PRu),na,nc)) Hoy.out (by omega) Hgly.out (by rw [HMl.out];exact HMy.out) ((Mod.refl (fun _=>False) wy).alloc _) Hxy.out hA2;have ho9:=hv9.owd Hoy.out (by omega);have hb9:=Hby.out.mov Hoy.out hv9 (by omega) (fun t e=>by omega);have hl9:=Hly.out.mov hv9 (by omega) (by omega) (by omega);have hO9:=OtI.mov HOy.out hv9 (by omega) (by omega);have hr9:=hv9.mod0 Hoy.out Hry.out (by omega);rw [HMl.out] at hM9;have hM9':(M++[(({x.pru with cs:=nl}:PRu),na,nc)]).map Prod.fst=O1 P x.pru:=by rw [List.map_append,HMP.out,Hpk.out,Hkk.out];rfl
    obtain ⟨HM9,Hv9,Ho9,Hb9,Hl9,HO9,Hr9,HM9'⟩:=zh8 hM9 hv9 ho9 hb9 hl9 hO9 hr9 hM9';clear hM9 hv9 ho9 hb9 hl9 hO9 hr9 hM9' hA2;clear HA
    go_roundw
    case rel=>exact ⟨j+1,ow9,_,_,_,_,_,by go_num,hlt,HPn.out.symm,Ho9.out,Hb9.out,Hl9.out,Hp5.out,HM9.out,HM9'.out,HO9.out,HSn.out,Hr9.out⟩
    case measure=>simp [intOf];omega
  obtain rfl:j=l.length:=by omega
  rw [List.take_length] at hPj;obtain ⟨Hor,Hbr,Hlr,HMr,HMP,HOr,Hmr,HPj⟩:=zh8 hor hbr hlr hMr hMP hOr hmr hPj;clear hor hbr hlr hMr hMP hOr hmr hPj hLP hSl
  go_wp2
  go_ret2
  exact ⟨owr,g,gl,_,M,rfl,Hor.out,by rw [<-HPj.out];exact Hbr.out,HMr.out,by rw [<-HPj.out];exact HMP.out,Hmr.out⟩
end
section
open Go.RowKit Go.Sort
structure a3r (w:World) (ma:Nat) (R:List (Int×Fr)) (td:Int) (A:List UInt8->Option Fr):Prop where
 m:RIn w A ma
 a:∀k g,A k=some g->∃x,x≠td/\a2R R x k=some g
theorem a3r.mod {w w':World} {ma:Nat} {R:List (Int×Fr)} {td:Int} {A:List UInt8->Option Fr} {F:Nat->Prop} (h:a3r w ma R td A) (hm:Mod F w w') (h1:¬F ma):a3r w' ma R td A:=⟨h.m.mod hm h1,h.a⟩
theorem a3r.low {w:World} {ma:Nat} {R:List (Int×Fr)} {td:Int} {A:List UInt8->Option Fr} (h:a3r w ma R td A) {n:Nat} {f:Lit->Option Value} (hm:j6 w 9 ma n f) (hf:∀k,f (.string k)=(A k).map Fr.val):n<=R.length:=by
 have hnd:((K3 (R.map fun p=>b39 p.2)).filter fun k=>(A k).isSome).Nodup:=(W8 _).filter _
 have h1:=hm.count m6 Tryz.underlying9 hnd (fun k=>by
  rw [List.mem_filter,a3H,hf];constructor
  ·intro h2;rw [Option.isSome_map];exact h2.2
  ·intro h2;rw [Option.isSome_map] at h2;refine ⟨?_,h2⟩;obtain ⟨g,hg⟩:=Option.isSome_iff_exists.1 h2;obtain ⟨x, -,h3⟩:=h.a k g hg;obtain ⟨h4,rfl⟩:=a8Q h3
   exact List.mem_map.2 ⟨_,h4,rfl⟩)
 have ho:∀l:List (List UInt8),(K3 l).length<=l.length:=fun l=>by
  induction l with
  |nil=>exact Nat.le_refl _
  |cons a l ih=>
   unfold K3;split
   ·exact Nat.le_trans ih (Nat.le_succ _)
   exact Nat.succ_le_succ ih
 rw [h1];refine Nat.le_trans (List.length_filter_le _ _) (Nat.le_trans (ho _) ?_);rw [zz10];exact Nat.le_refl _
theorem a3r.put {w:World} {ma:Nat} {R:List (Int×Fr)} {td:Int} {A:List UInt8->Option Fr} (h:a3r w ma R td A) {x:Int} {k:List UInt8} {g:Fr} (hx:x≠td) (hg:a2R R x k=some g):
 ∃n f,j6 w 9 ma n f/\n<=R.length/\∀w' m,j6 w' 9 ma m (Go.Proofs.YtaenebdppkjhoaaGreatDoor.u7 f (.string k) (.agg #[.string g.sc,.slice g.a g.cs.length g.c]))->a3r w' ma R td (fun j=>if j=k then some g else A j):=by
 obtain ⟨n,f,h1,h2⟩:=h.m;refine ⟨n,f,h1,h.low h1 h2,fun w' m hm=>⟨⟨m,_,hm,fun j=> ?_⟩,fun j q hq=> ?_⟩⟩
 ·unfold Go.Proofs.YtaenebdppkjhoaaGreatDoor.u7;by_cases e:j=k
  ·subst e;rw [if_pos rfl];show _=Option.map Fr.val (if j=j then some g else A j);rw [if_pos rfl];rfl
  rw [if_neg (fun h=>e (Lit.string.inj h))];show _=Option.map Fr.val (if j=k then some g else A j);rw [if_neg e];exact h2 j
 have hq:(if j=k then some g else A j)=some q:=hq;by_cases e:j=k
 ·subst e;rw [if_pos rfl] at hq;cases hq
  exact ⟨x,hx,hg⟩
 rw [if_neg e] at hq;exact h.a j q hq
theorem a3r.new {w:World} {ma:Nat} {R:List (Int×Fr)} {td:Int} {n:Nat} (h:j6 w 9 ma n (fun _=>none)):a3r w ma R td (fun _=>none):=⟨⟨n,_,h,fun _=>rfl⟩,fun k g h=>by cases h⟩
end
section
open Go.RowKit
theorem y8.okq {w:World} {ow:Ow} {c b:Nat} {M:List (Int×Fil)} {N:Nat} (h:y8 w ow c b M N):∀p∈M,okQ p.2:=fun p hp=>by
 obtain ⟨mo,hat⟩:=h;exact ⟨(hat.wf _ hp).2.1,(hat.wf _ hp).2.2,hat.sc _ hp⟩
structure TdS (tb t B:Nat) (ten:Int) (fs:ByteArray) (fa:Option Addr) (n fc:Nat) (v:Value) (y:World):Prop where
 y1:y.cell? ⟨B,1,none⟩=some (.int .i64 ten)
 y12:y.cell? ⟨B,12,none⟩=some (.string fs)
 y13:y.cell? ⟨B,13,none⟩=some (.slice fa n fc)
 v0:y.cell? ⟨tb,t,none⟩=some v
theorem TdS.mod {tb t B:Nat} {ten:Int} {fs:ByteArray} {fa:Option Addr} {n fc:Nat} {v:Value} {y z:World} (h:TdS tb t B ten fs fa n fc v y) (hm:Mod (fun _=>False) y z):TdS tb t B ten fs fa n fc v z:=⟨hm.cell h.y1 (fun h=>h),hm.cell h.y12 (fun h=>h),hm.cell h.y13 (fun h=>h),hm.cell h.v0 (fun h=>h)⟩
theorem TdS.mod2 {F:Nat->Prop} {tb t B:Nat} {ten:Int} {fs:ByteArray} {fa:Option Addr} {n fc:Nat} {v:Value} {y z:World} (h:TdS tb t B ten fs fa n fc v y) (hm:Mod F y z) (h1:¬F B) (h2:¬F tb):TdS tb t B ten fs fa n fc v z:=⟨hm.cell h.y1 h1,hm.cell h.y12 h1,hm.cell h.y13 h1,hm.cell h.v0 h2⟩
structure Dp where
 k:Int
 x:As
 t:Nat
def Dp.cells (d:Dp):List Value:= .int .i64 d.k::d.x.cells
def Dp.tk (d:Dp):Tk:=(d.k,d.t,d.x.who,(d.x.sc,j1 d.x.cs))
def dps (l:List Dp):List Value:=l.flatMap Dp.cells
theorem b1v (l:List Dp) (d:Dp):dps (l++[d])=dps l++d.cells:=by unfold dps;simp
theorem b3h:B6 Tryz.prog 95 101 7 88:=K7 (by kernel_rfl) (by kernel_rfl)
structure DpE (w wr:World) (owr:Ow) (C bm N:Nat) (T:Int->List UInt8->Bool) (sv:Value) (Q:List Dp):Prop where
 box:wr.heap[C]? =some (.cells #[.map (some bm)] 96 (0,0))
 tagC:owr C=42
 map:∃n F,Q0 wr owr 42 9 bm n F/\a0t F T/\n<=N
 ne:C≠bm
 sl:a0i wr owr 41 101 7 sv Q.length (dps Q)
 each:∀d∈Q,d.t<4/\bits .and .i64 d.x.tenant 3=d.t/\j2 w 7 (.slice d.x.a d.x.cs.length d.x.c) d.x.cs.length (k7 d.x.cs)/\d.x.who.size<=100
theorem DpE.mov {F:Nat->Prop} {w wr w':World} {owr ow':Ow} {C bm N:Nat} {T:Int->List UInt8->Bool} {sv:Value} {Q:List Dp} (h:DpE w wr owr C bm N T sv Q) (s:Mov F wr owr w' ow') (h1:¬F 41) (h2:¬F 42):DpE w w' ow' C bm N T sv Q:=by
 obtain ⟨n,G,hm,hn⟩:=h.map;exact ⟨s.md.heap h.box (fun hf=>h2 (by have hf':F (owr C):=hf;rwa [h.tagC] at hf')),by rw [s.old C (zz7 h.box).1];exact h.tagC,⟨n,G,hm.mov s h2,hn⟩,h.ne,h.sl.mov s h1,h.each⟩
theorem DpE.mono {w wr:World} {owr:Ow} {C bm N N':Nat} {T:Int->List UInt8->Bool} {sv:Value} {Q:List Dp} (h:DpE w wr owr C bm N T sv Q) (hN:N<=N'):DpE w wr owr C bm N' T sv Q:=by
 obtain ⟨n,G,hm,hn,hl⟩:=h.map;exact ⟨h.box,h.tagC,⟨n,G,hm,hn,by omega⟩,h.ne,h.sl,h.each⟩
theorem DpE.app {w0 w wr wz w6:World} {owr:Ow} {C bm N:Nat} {T:Int->List UInt8->Bool} {sv v':Value} {Q:List Dp} (hw:Owd w0 wr owr) (h:DpE w wr owr C bm N T sv Q) (hz:Mod (fun _=>False) wr wz) (d:Dp) (hd:d.t<4/\bits .and .i64 d.x.tenant 3=d.t/\j2 w 7 (.slice d.x.a d.x.cs.length d.x.c) d.x.cs.length (k7 d.x.cs)/\d.x.who.size<=100)
 (hA:x6 wz 101 7 sv (Q.length+1) (dps Q++d.cells) v' w6):∃ow',DpE w w6 ow' C bm N T v' (Q++[d])/\Mov (fun t=>t=41) wr owr w6 ow':=by
 obtain ⟨ow',hs,hm⟩:=h.sl.app hw hz hA;obtain ⟨n,G,hmap,hn⟩:=h.map;refine ⟨ow',⟨hm.md.heap h.box (fun hf=>by have hf':owr C=41:=hf;rw [h.tagC] at hf';omega),by rw [hm.old C (zz7 h.box).1];exact h.tagC,⟨n,G,hmap.mov hm (by omega),hn⟩,h.ne,by rw [zz4,b1v];exact hs,fun e he=> ?_⟩,hm⟩;rcases zz14 he with he|he
 ·exact h.each e he
 rw [List.mem_singleton.1 he];exact hd
theorem DpE.noted {w0 w wr w':World} {owr:Ow} {C bm N n':Nat} {T T':Int->List UInt8->Bool} {sv:Value} {Q:List Dp} (hw:Owd w0 wr owr) (h:DpE w wr owr C bm N T sv Q) {F':Lit->Option Value} (hM:j6 w' 9 bm n' F') (hn:n'<=N) (hF:a0t F' T') (hm:Mod (fun k=>k=bm) wr w'):DpE w w' owr C bm N T' sv Q/\Mov (fun t=>t=42) wr owr w' owr:=by
 obtain ⟨n,G,hmap, -⟩:=h.map;have s:Mov (fun t=>t=42) wr owr w' owr:=Mov.wrote hw hm (fun k hk=>by rw [hk];exact hmap.tag);refine ⟨⟨hm.heap h.box h.ne,h.tagC,⟨n',F',⟨hM,hmap.tag⟩,hF,hn⟩,h.ne,h.sl.mov s (by omega),h.each⟩,s⟩
structure DpI (w wr:World) (owr:Ow) (g C bm:Nat) (P:List PRu) (B:BS) (j:Nat) (T:Int->List UInt8->Bool) (sv:Value) (Q:List Dp) (l:List Tk):Prop where
 ow:Owd w wr owr
 br:Bro wr owr 2 g 0 [1,2] B
 L:B.L=P
 R:V7 B j
 D:X3 B
 md:Mod (fun _=>False) w wr
 tk:TOk B T
 ok:SOk B l
 e:DpE w wr owr C bm (j*4000000) T sv Q
def b4L (w:World) (g C bm:Nat) (P:List PRu) (n:Nat) (sv i:Value) (wr:World):Prop:=∃(j:Nat) (owr:Ow) (B:BS) (T:Int->List UInt8->Bool) (Q:List Dp) (a:Option Addr) (c:Nat),i= .int .i64 j/\j<=n/\Q.length<=j/\sv= .slice a Q.length c/\DpI w wr owr g C bm P B j T sv Q (Q.map Dp.tk)
def b4M (w:World) (g C bm:Nat) (P:List PRu) (n:Nat) (sv:Value) (Q:List Dp) (i:Value) (wr:World):Prop:=∃(j:Nat) (owr:Ow) (B:BS) (T:Int->List UInt8->Bool),i= .int .i64 j/\j<=Q.length/\DpI w wr owr g C bm P B (n+j) T sv Q ((Q.drop j).map Dp.tk)
theorem a5L {M:List (Int×Fil)} {t:Nat} {near:List Int} {G:Int->List Fil} (hM:∀p∈M,okQ p.2) (hG:∀n,∀q∈G n,okQ q):NtS t (o7 M t near G):=by
 induction near generalizing G with
 |nil=>exact fun x hx=>(by cases hx)
 | cons n near ih=>
  intro x hx;unfold o7 at hx;rcases zz14 hx with hx|hx
  ·unfold F3 at hx;rcases zz14 hx with hx|hx<;>obtain ⟨f,hf,rfl⟩:=List.mem_map.1 hx
   ·exact ⟨rfl,Z0 hM n f (List.mem_filter.1 hf).1⟩
   exact ⟨rfl,hG n f (List.mem_filter.1 hf).1⟩
  refine ih (G:=O2 G n (r6 M n)) (fun m q hq=> ?_) x hx;by_cases e:m=n
  ·subst e;rw [Y7] at hq;exact Z0 hM m q hq
  rw [Y8 _ _ e] at hq;exact hG m q hq
theorem NtS.sub {B:BS} {t:Nat} (hM:∀p∈(B.R t).M,okQ p.2) (hG:∀n,∀q∈(B.R t).G n,okQ q) (id:Int) (who:ByteArray) (k:Int) (fs:ByteArray) (fl:List Cnd) (hf:∀c∈fl,c.fits):NtS t (B.subS id [1,2] t who k fs fl):=by
 unfold BS.subS;split
 ·rename_i h0
  refine a5L (fun p hp=> ?_) hG;have hp':p∈(((B.R t).addS k who (fs,j1 fl)).addI k (fs,j1 fl)|>.tadd (-1) (fs,j1 fl)).M:=hp;unfold RS.tadd at hp';split at hp'
  ·rcases zz14 hp' with hp'|hp'
   ·exact hM p hp'
   rw [List.mem_singleton.1 hp'];exact a7R (BS.subE_right h0) hf
  exact hM p hp'
 exact fun x hx=>(by cases hx)
theorem NtS.end_ {B:BS} {t:Nat} (hM:∀p∈(B.R t).M,okQ p.2) (hG:∀n,∀q∈(B.R t).G n,okQ q) (k:Int) (f:Fil):NtS t (B.endS [1,2] t k f):=by
 unfold BS.endS;split
 ·exact fun x hx=>(by cases hx)
 exact a5L (fun p hp=>hM p (List.mem_filter.1 hp).1) hG
theorem D2.okQs {w wr:World} {owr:Ow} {g q:Nat} {P:List PRu} {B:BS} {j:Nat} {S:List Sd} {H:List Hn} (h:D2 w wr owr g q P B j S H) (t:Nat) (ht:t<4):(∀p∈(B.R t).M,okQ p.2)/\∀n,∀q∈(B.R t).G n,okQ q:=by
 obtain ⟨a,hb⟩:=h.br;have h1:=y8.okq (hb.rea t ht).tab;refine ⟨h1,fun n q hq=> ?_⟩;rw [(h.R t ht).g] at hq;split at hq
 ·exact Z0 h1 n q hq
 ·cases hq
theorem DpI.of {w wr:World} {owr:Ow} {g q C bm:Nat} {P:List PRu} {B:BS} {j:Nat} {S:List Sd} {H:List Hn} {T:Int->List UInt8->Bool} {sv:Value} {Q:List Dp} {l:List Tk} (h:D2 w wr owr g q P B j S H) (hD:X3 B) (hT:TOk B T) (hl:SOk B l) (he:DpE w wr owr C bm (j*4000000) T sv Q):DpI w wr owr g C bm P B j T sv Q l:=⟨h.ow,h.br,h.L,h.R,hD,h.md,hT,hl,he⟩
theorem DpI.mov {w wr w':World} {owr:Ow} {g C bm:Nat} {P:List PRu} {B:BS} {j:Nat} {T:Int->List UInt8->Bool} {sv:Value} {Q:List Dp} {l:List Tk} (h:DpI w wr owr g C bm P B j T sv Q l) (hm:Mod (fun _=>False) wr w'):DpI w w' owr g C bm P B j T sv Q l:=
 have s:=Mov.of h.ow hm (fun _=>False)
 ⟨s.owd h.ow (fun h=>h),h.br.mov h.ow s (fun h=>h) (fun _ h=>h.elim),h.L,h.R,h.D,h.md.trans hm (fun _ _ h=>h),h.tk,h.ok,h.e.mov s (fun h=>h) (fun h=>h)⟩
theorem a5M {t:Nat} {k:Nat} (hk:k=0\/k=41\/k=42) (ht:t<4):¬L0 2 t (fun t=>t=40) k:=fun h=>by
 rcases h with h|h
 ·omega
 have h':k=40:=h;omega
theorem a4B {w wr:World} {owr:Ow} {g q C bm:Nat} {P:List PRu} {B':BS} {j N:Nat} {S:List Sd} {T:Int->List UInt8->Bool} {sv:Value} {Q:List Dp} {l:List Tk} (h:D2 w wr owr g q P B' j S []) (hD:X3 B') (hT:TOk B' (B3 T S)) (hl:SOk B' l) (he:DpE w wr owr C bm N T sv Q) (hN:N+4000000<=j*4000000) (hj:j<=100) (hSl:S.length<=4000000) (t:Nat) (ht:t<4) (hS:NtS t S):
 ∃v1 v2,wr.heap[q]? =some (.cells #[v1,v2] 39 (0,0))/\∀wx,Mod (fun _=>False) wr wx->Calls Tryz.prog 34 #[.agg #[v1,v2],.pointer (some ⟨C,0,none⟩)] wx fun e w'=>e= .returned (.tuple #[])/\DpI w w' owr g C bm P B' j (B3 T S) sv Q l:=by
 obtain ⟨v1,v2,S',H',hot,rfl, -⟩:=h.O;refine ⟨v1,v2,hot.row,fun wx hx=> ?_⟩;have s:=Mov.of h.ow hx (fun _=>False);have hex:=he.mov s (fun h=>h) (fun h=>h);have hox:=s.owd h.ow (fun h=>h);obtain ⟨n,F,hm,hF,hn⟩:=hex.map;rw [zz10] at hSl;have hlo:w.heap.size<=bm:=h.ow.lo bm (by rw [hm.tag];omega);have hco:∀b,owr b=0->b≠bm:=fun b hb e=>by rw [e,hm.tag] at hb;omega
 refine (b3c w wx hox.laid C bm n F T hex.box hm.m hF hlo hex.ne S' v1 v2 (hot.s1.rd.mod hx (fun _ _ h=>h)) (fun b hb e=>by have h1:=(hot.b1 b hb).1;rw [e,hm.tag] at h1;omega) t ht hS (fun x hx2=>(hot.e1 x hx2).fl.rd.mod hx (fun _ _ h=>h)) (fun x hx2 h0 b hb=>hco b ((hot.e1 x hx2).fl.con h0 b hb)) (by omega) (by omega)).mono ?_;rintro e w' ⟨he',n',F',hM',hn',hF',hmd'⟩;obtain ⟨h1,h2⟩:=(hex.mono (N':=j*4000000) (by omega)).noted hox hM' (by omega) hF' hmd';exact ⟨he',⟨h2.owd hox (by omega),(h.br.mov h.ow s (fun h=>h) (fun _ h=>h.elim)).mov hox h2 (by omega) (fun t e=>by omega),h.L,h.R,hD,(h.md.trans hx (fun _ _ h=>h)).upon hmd' (fun b hb=> .inr (by rw [hb];exact hlo)),hT,hl,h1⟩⟩
theorem b4n (Q:List Dp) (d:Dp):(Q++[d]).map Dp.tk=Q.map Dp.tk++[d.tk]:=by rw [List.map_append];rfl
theorem b4N (b:ByteArray):b++⟨#[120]⟩≠b:=fun h=>by
 have h1:=congrArg ByteArray.size h;rw [ByteArray.size_append] at h1;have h2:(⟨#[120]⟩:ByteArray).size=1:=rfl;omega
theorem b4o {kx:Int} {n i:Nat} (h:(1000:Int)+i=kx) (hn:n<=30) (h4:kx<((n+i:Nat):Int)):False:=by omega
theorem a5N (w:World) (hl0:C6 w w) (v:Value) (l:List Ru) (hv:K5 w v l) (hll:l.length<=9223372036854775807) (hin:∀r∈l,b22 r) (av:Value) (A:List As) (hA:a6t w av A) (hAl:A.length<=9223372036854775807) (hAi:∀x∈A,a98 x):
 Calls Tryz.prog 6 #[v,av] w fun e w'=>e= .returned (.bool true)/\Mod (fun _=>False) w w':=by
 obtain ⟨a,cap,rfl,hcap⟩:∃a c,v= .slice a l.length c/\l.length<=c:=by obtain ⟨-,a,c,h,h2, -⟩:=hv.rd;exact ⟨a,c,h,h2⟩
 obtain ⟨aa,acap,rfl,hacap⟩:∃a c,av= .slice a A.length c/\A.length<=c:=by obtain ⟨-,a,c,h,h2, -⟩:=hA.rd;exact ⟨a,c,h,h2⟩
 have hft:=b02 w w hl0;have hAl':(A.length:Int)<=9223372036854775807:=by omega
 have hacap':(A.length:Int)<=acap:=by omega
 obtain ⟨Hl0,Hft,Hv,Hin,HA,HAi,Hll⟩:=zh7 hl0 hft hv hin hA hAi hll;clear hl0 hft hv hin hA hAi hll hcap hacap
 go_enter Tryz.func6,Tryz.ntmps6
 go_wp2_with fail
 refine Hft.out.mono ?_;rintro e w1 ⟨rfl,hm1⟩;have hli:=a5S w1 (.slice a l.length cap) l (Hv.out.mod hm1) Hll.out (fun r hr=>⟨(Hin.out r hr).who,(Hin.out r hr).name,(Hin.out r hr).sc,fun c hc=>((Hin.out r hr).cs c hc).1⟩);obtain ⟨Hm1,Hli⟩:=zh2 hm1 hli;clear hm1 hli Hft
 go_wp2_with fail
 refine Hli.out.mono ?_;rintro e w2 ⟨b,rfl,hb,hm2⟩;have hm02:=Hm1.out.trans hm2 (fun _ _ h=>h);have hla:=a6u w2 (.slice aa A.length acap) A (HA.out.mod hm02) hAl HAi.out;obtain ⟨Hm02,Hb,Hla⟩:=zh3 hm02 hb hla;clear hm02 hb hla hm2
 cases b with
 |false=>
  go_wp2
  go_ret;exact ⟨rfl,Hm02.out⟩
 |true=>
 obtain ⟨hl80,hli2⟩:=Hb.out rfl;have Hli2:=zh hli2;clear hli2
 go_wp2_with fail
 refine Hla.out.mono ?_;rintro e w3 ⟨b2,rfl,hb2,hm3⟩;have hm03:=Hm02.out.trans hm3 (fun _ _ h=>h);obtain ⟨Hm03,Hb2⟩:=zh2 hm03 hb2;clear hm03 hb2 hm3
 cases b2 with
 |false=>
  go_wp2
  go_ret;exact ⟨rfl,Hm03.out⟩
 |true=>
 obtain ⟨hA30,hAlt⟩:=Hb2.out rfl;have hfi:∀r∈l,r.pru.fine:=fun r hr=>(Hin.out r hr).fine (Hli2.out r hr);have hlr:=a7c w3 (a87 (Hl0.out.mod0 Hm03.out)) (.slice a l.length cap) l (Hv.out.mod Hm03.out) hl80 hfi;obtain ⟨HAlt,Hfi,Hlr⟩:=zh3 hAlt hfi hlr;clear hAlt hfi hlr
 go_wp2_with fail
 refine Hlr.out.mono ?_;rintro e w4 ⟨ow4,gb,gl,vm,M,rfl,ho4,hb4, -, -,hm34⟩;obtain ⟨P,hP⟩:∃P,Q7 (l.map Ru.pru)=P:=⟨_,rfl⟩;have hPl:=a01 (l.map Ru.pru);rw [hP] at hPl hb4;obtain ⟨hM5,hv5⟩:=Q0.made 42 9 ho4;obtain ⟨w5,hw5,hmw5, -,hzw5⟩:=e9 w4 (.map #[] 0);obtain ⟨ow5,how5⟩:∃o:Ow,p7 ow4 w4.heap.size 42=o:=⟨_,rfl⟩;rw [hw5,how5] at hM5 hv5;have ho5:=hv5.owd ho4 (by omega);obtain ⟨w6,hw6,hmw6,hgw6,hzw6⟩:=e9 w5 (.cells #[.map (some w4.heap.size)] 96);have hv6:=Mov.alloc ho5 (.cells #[.map (some w4.heap.size)] 96) (F:=fun t=>t=42) 42 (.inr (.inr rfl));obtain ⟨ow6,how6⟩:∃o:Ow,p7 ow5 w5.heap.size 42=o:=⟨_,rfl⟩;rw [hw6,how6] at hv6;have ho6:=hv6.owd ho5 (by omega);have hb6:=(hb4.mov ho4 hv5 (by omega) (fun t e=>by omega)).mov ho5 hv6 (by omega) (fun t e=>by omega);have hm36:=(hm34.trans hmw5 (fun _ _ h=>h)).trans hmw6 (fun _ _ h=>h)
 have hE6:DpE w3 w6 ow6 w5.heap.size w4.heap.size (0*4000000) (fun _ _=>false) (.slice none 0 0) []:=
  ⟨hgw6,by rw [<-how6];exact A5 _ _ _,⟨0,_,⟨hM5.m.mod hmw6 (fun h=>h),by rw [hv6.old _ hM5.m.lt];exact hM5.tag⟩,a0t.nil _,Nat.le_refl _⟩,by omega,a0i.nil _ _ _ _ _,fun d hd=>(by cases hd)⟩
 have hI6:DpI w3 w6 ow6 gb w5.heap.size w4.heap.size P ⟨P,fun _=>RS.zero⟩ 0 (fun _ _=>false) (.slice none 0 0) [] []:=
  ⟨ho6,hb6,rfl,fun t _=>A3.zero,fun t _=>a0s.zero,hm36,⟨fun t ht k=>⟨fun h=>(by cases h),fun h=>(by cases h)⟩,fun t k h=>(by cases h)⟩,fun t ht=>rfl,hE6⟩
 obtain ⟨Ho4,Hb4,Hm34,HP,HM5,Hv5,Hw5,Hmw5,How5,Ho5,Hw6,Hmw6⟩:=zh12 ho4 hb4 hm34 hP hM5 hv5 hw5 hmw5 how5 ho5 hw6 hmw6;obtain ⟨Hgw6,Hv6,How6,Ho6,Hb6,Hm36,HE6,HI6⟩:=zh8 hgw6 hv6 how6 ho6 hb6 hm36 hE6 hI6;clear ho4 hb4 hm34 hP hM5 hv5 hw5 hmw5 how5 ho5 hw6 hmw6 hgw6 hv6 how6 ho6 hb6 hm36 hE6 hI6 hzw5 hzw6
 go_wp2_with (first|(rw [show w4.alloc _=w5 from Hw5.out])|(rw [show w5.alloc _=w6 from Hw6.out])|fail)
 go_loopw [7,37] (fun sv i wr=>b4L w3 gb w5.heap.size w4.heap.size P A.length sv i wr) (fun _ i _=>A.length - (intOf i).toNat)
 case atStart=>exact ⟨0,_,_,_,[],none,0,rfl,Nat.zero_le _,Nat.le_refl _,rfl,HI6.out⟩
 case round=>
  obtain ⟨j,owr,B,T,Q,sa,sc,rfl,hj,hQj,rfl,hI⟩:=hrel;have hmr:=Hm03.out.trans hI.md (fun _ _ h=>h);by_cases hlt:j<A.length
  ·have hlt':(j:Int)<A.length:=by omega
   obtain ⟨x,hxj⟩:∃x,A[j]? =some x:=⟨_,zz5 hlt⟩;have hxm:=zz8 hxj;have hvr:=HA.out.mod hmr;have hv3:=HA.out.mod Hm03.out;obtain ⟨ga,offa,rfl,hf⟩:=a99 hvr hxj;have hxi:=HAi.out x hxm;have hxl:=HAlt.out x hxm;obtain ⟨hfs,hfl,hft⟩:=hxi.fits hxl;obtain ⟨wz,hwz,hmwz,hgwz,hzwz⟩:=e9 wr (.cells x.cells.toArray 84);have hwz':wr.alloc (.cells #[.int .i64 x.kind,.int .i64 x.tenant,.int .i64 x.frm,.string x.who,.string x.sc,.slice x.a x.cs.length x.c] 84)=wz:=hwz;have hIz:=hI.mov hmwz;obtain ⟨w8,hw8⟩:∃w8:World,wz.alloc (.cells #[.slice none 0 0,.slice none 0 0] 39)=w8:=⟨_,rfl⟩;obtain ⟨hA8,hs8⟩:=D2.new hIz.ow hIz.br hIz.L hIz.R hIz.md hw8;have hm8:Mod (fun _=>False) wz w8:=hw8▸(Mod.refl (fun _=>False) wz).alloc _;have hE8:=hIz.e.mov hs8 (by omega) (by omega);have hm08:Mod (fun _=>False) w w8:=hmr.trans (hmwz.trans hm8 (fun _ _ h=>h)) (fun _ _ h=>h);have hc8:=(HA.out.mod hm08).cs x hxm;have hc3:=hv3.cs x hxm;have hg8:=hm8.heap hgwz (fun h=>h);obtain ⟨owo,howo⟩:∃o:Ow,p7 owr wz.heap.size 40=o:=⟨_,rfl⟩;rw [howo] at hA8 hs8 hE8
   have hz8:owo wr.heap.size=0:=by
    rw [hs8.old _ (zz7 hgwz).1];exact hI.ow.zero (Nat.le_refl _)
   have y0:w8.cell? ⟨wr.heap.size,0,none⟩=some (.int .i64 x.kind):=d6 hg8 rfl;have y1:w8.cell? ⟨wr.heap.size,1,none⟩=some (.int .i64 x.tenant):=d6 hg8 rfl;have y2:w8.cell? ⟨wr.heap.size,2,none⟩=some (.int .i64 x.frm):=d6 hg8 rfl;have y3:w8.cell? ⟨wr.heap.size,3,none⟩=some (.string x.who):=d6 hg8 rfl;have y4:w8.cell? ⟨wr.heap.size,4,none⟩=some (.string x.sc):=d6 hg8 rfl;have y5:w8.cell? ⟨wr.heap.size,5,none⟩=some (.slice x.a x.cs.length x.c):=d6 hg8 rfl;obtain ⟨t,ht,ht4⟩:=b4S x.tenant;have hsu:=hA8.sub hPl (by omega) t ht4 x.who x.sc x.a x.c x.cs hc8 hfs hfl hft;have hD9:=hIz.D.sub hIz.R 0 [1,2] ht4 x.who x.sc hft;have hT9:=hIz.tk.sub ht4 0 x.who j x.sc x.cs;have hS9:=hIz.ok.sub 0 [1,2] t x.who j x.sc x.cs;obtain ⟨hq1,hq2⟩:=hA8.okQs t ht4;have hN9:=NtS.sub hq1 hq2 0 x.who j x.sc x.cs hft;have hn9:=BS.subS_len (hA8.go (by omega) t ht4) (hA8.low t ht4) 0 x.who j x.sc x.cs;obtain ⟨Hmr,HI,Hxj,Hxm,Hvr,Hv3,Hf,Hxi,Hxl,Hfs,Hfl,Hft⟩:=zh12 hmr hI hxj hxm hvr hv3 hf hxi hxl hfs hfl hft;obtain ⟨Hwz,Hwz',Hmwz,Hgwz,HIz,Hw8,HA8,Hs8,Hm8,HE8,Hm08,Hc8⟩:=zh12 hwz hwz' hmwz hgwz hIz hw8 hA8 hs8 hm8 hE8 hm08 hc8;obtain ⟨Hc3,Hg8,Howo,Hz8,Hsu,HD9,HT9,HS9,Hq1,Hq2,HN9⟩:=zh11 hc3 hg8 howo hz8 hsu hD9 hT9 hS9 hq1 hq2 hN9;clear hmr hI hxj hxm hvr hv3 hf hxi hxl hfs hfl hft hwz hwz' hmwz hgwz hIz hw8 hA8 hs8 hm8 hE8 hm08 hc8 hc3 hg8 howo hz8 hsu hD9 hT9 hS9 hq1 hq2 hN9 hzwz
   go_wp2_with (first|((with_reducible refine d9 84 (.tmp 40) ?_);refine ⟨ga,offa+j*6,rfl,[.int .i64 x.kind,.int .i64 x.tenant,.int .i64 x.frm,.string x.who,.string x.sc,.slice x.a x.cs.length x.c],Hf.out,by kernel_rfl,by kernel_rfl, ?_⟩)|((with_reducible refine d8 84 (.tmp 11) (.tmp 41) ?_);refine ⟨rfl,[.int .i64 x.kind,.int .i64 x.tenant,.int .i64 x.frm,.string x.who,.string x.sc,.slice x.a x.cs.length x.c],rfl,rfl,by kernel_rfl,rfl, ?_⟩;rw [Hwz'.out])|(rw [show wz.alloc _=w8 from Hw8.out])|fail)
   refine Hsu.out.mono ?_;rintro e w9 ⟨rfl,ow9,hI9,hs9⟩;rw [List.nil_append] at hI9;obtain ⟨B9,hBe⟩:∃B9,B.subB 0 [1,2] t x.who j x.sc x.cs=B9:=⟨_,rfl⟩;obtain ⟨S9,hSe⟩:∃S9,B.subS 0 [1,2] t x.who j x.sc x.cs=S9:=⟨_,rfl⟩;obtain ⟨E9,hEe⟩:∃E9,B.subE 0 t x.who x.sc x.cs=E9:=⟨_,rfl⟩;have hD9:=HD9.out;have hT9:=HT9.out;have hS9:=HS9.out;have hN9:=HN9.out;rw [hBe] at hI9 hD9 hT9 hS9;rw [hSe] at hI9 hT9 hN9 hn9;rw [hEe] at hS9⊢;have hE9:=HE8.out.mov hs9 (a5M (.inr (.inl rfl)) ht4) (a5M (.inr (.inr rfl)) ht4);have hg9:=hs9.md.heap Hg8.out (fun hf=>a5M (.inl rfl) ht4 (by have hf':L0 2 t (fun t=>t=40) (owo wr.heap.size):=hf;rwa [Hz8.out] at hf'));clear HD9 HT9 HS9 HN9 Hsu y0 y1 y2 y3 y4 y5;by_cases hE0:E9=0
   ·subst hE0;rw [if_pos rfl] at hS9;have hone:∀u∈(Dp.cells ⟨j,x,t⟩),u.oneCell'=true:=fun u hu=>zz15 (show (Dp.cells ⟨j,x,t⟩).all (·.oneCell')=true from rfl) u hu;obtain ⟨wS,hwS,hmwS,hgwS,hzwS⟩:=e9 w9 (.cells (Dp.cells ⟨j,x,t⟩).toArray 101);have hwS':w9.alloc (.cells #[.int .i64 j,.int .i64 x.kind,.int .i64 x.tenant,.int .i64 x.frm,.string x.who,.string x.sc,.slice x.a x.cs.length x.c] 101)=wS:=hwS;have hrdS:j2 wS 7 (.slice (some ⟨w9.heap.size,0,none⟩) 1 1) 1 (Dp.cells ⟨j,x,t⟩):=hwS▸j2.one w9 (Dp.cells ⟨j,x,t⟩) 101 rfl;have hslS:=hE9.sl.sl.mod hmwS (fun _ _ h=>h);obtain ⟨v1,v2,S1,H1,hot9, -, -⟩:=hI9.O
    have hnA:∀b,j0 (.slice sa Q.length sc) b->b≠wz.heap.size:=fun b hb e=>by
     have h1:=hE9.sl.vb b hb;rw [e,hot9.tag] at h1;omega
    have hroS:=hmwS.heap hot9.row (fun h=>h);obtain ⟨Hot9,HnA,HroS,HI9,Hs9,HBe,HSe,HEe,HD9,HT9,HS9,HN9⟩:=zh12 hot9 hnA hroS hI9 hs9 hBe hSe hEe hD9 hT9 hS9 hN9;obtain ⟨HE9,Hg9,Hone,HwS,HwS',HmwS,HrdS,HslS⟩:=zh8 hE9 hg9 hone hwS hwS' hmwS hrdS hslS;clear hot9 hnA hroS hI9 hs9 hBe hSe hEe hD9 hT9 hS9 hN9 hE9 hg9 hone hwS hwS' hmwS hrdS hslS hzwS hgwS
    go_wp2_with (first|((with_reducible refine d9 84 (.tmp 11) ?_);refine ⟨wr.heap.size,0,rfl,[.int .i64 x.kind,.int .i64 x.tenant,.int .i64 x.frm,.string x.who,.string x.sc,.slice x.a x.cs.length x.c],e7.row Hg9.out,by kernel_rfl,by kernel_rfl, ?_⟩)|(rw [show w9.alloc _=wS from HwS'.out])|((with_reducible refine j9 (.tmp 54) (.tmp 58) 95 ?_);refine ⟨rfl,101,7,88,b3h,.slice sa Q.length sc,Q.length,dps Q,rfl,HslS.out,_,1,(Dp.cells ⟨j,x,t⟩),rfl,HrdS.out,Hone.out,by omega,by unfold maxLen;omega, ?_⟩;intro ad cp2 wA hA;have hroA:=hA.2.1.heap HroS.out (fun h=>HnA.out _ h rfl);have HApp:=Lib.hid hA;have HroA:=Lib.hid hroA;clear hA hroA)|((with_reducible refine d9 39 (.tmp 12) ?_);refine ⟨wz.heap.size,0,rfl,[v1,v2],e7.row HroA.out,by kernel_rfl,by kernel_rfl, ?_⟩)|fail)
    have hms:Mod (fun _=>False) w9 wS:=HmwS.out;obtain ⟨owA,hEA,hsA⟩:=HE9.out.app HI9.out.ow hms ⟨j,x,t⟩ ⟨ht4,ht,Hc3.out,Hxl.out.who⟩ HApp.out;have hIA:D2 w3 wA owA gb wz.heap.size P B9 (j+1) S9 []:=⟨hsA.owd HI9.out.ow (by omega),HI9.out.br.mov HI9.out.ow hsA (by omega) (fun t e=>by omega),HI9.out.L,HI9.out.R,HI9.out.O.mov hsA (by omega) (by omega),HI9.out.cnt,hsA.mod0 HI9.out.ow HI9.out.md (by omega)⟩;have hlQ:(Q++[(⟨j,x,t⟩:Dp)]).length=Q.length+1:=by rw [zz4];rfl
    have hSA:SOk B9 ((Q++[(⟨j,x,t⟩:Dp)]).map Dp.tk):=by rw [b4n];exact HS9.out
    obtain ⟨u1,u2,hrow,hnt⟩:=a4B hIA HD9.out HT9.out hSA hEA (by omega) (by omega) hn9 t ht4 HN9.out;obtain ⟨rfl,rfl⟩:u1=v1/\u2=v2:=by simpa using hrow.symm.trans HroA.out
    obtain ⟨HEA,HsA,HIA,HlQ,HSA,Hrow,Hnt⟩:=zh7 hEA hsA hIA hlQ hSA hrow hnt;clear hEA hsA hIA hlQ hSA hrow hnt;refine (Hnt.out wA (Mod.refl _ _)).mono ?_;rintro e wB ⟨rfl,hIB⟩;have HIB:=zh hIB;clear hIB
    go_wp2_with fail
    go_roundw
    case rel=>exact ⟨j+1,owA,B9,_,Q++[⟨j,x,t⟩],ad,cp2,by go_num,hlt,by have:=HlQ.out;omega,by rw [HlQ.out],HIB.out⟩
    case measure=>simp [intOf];omega
   rw [if_neg hE0,zz11] at hS9;have hEb:(E9==0)=false:=by rw [beq_eq_false_iff_ne];exact hE0
   obtain ⟨v1,v2,hrow,hnt⟩:=a4B hI9 hD9 hT9 hS9 hE9 (by omega) (by omega) hn9 t ht4 hN9;obtain ⟨HI9,Hs9,HBe,HSe,HEe,HD9,HT9,HS9,HN9,HE9,Hg9,Hrow⟩:=zh12 hI9 hs9 hBe hSe hEe hD9 hT9 hS9 hN9 hE9 hg9 hrow;have Hnt:=zh hnt;clear hI9 hs9 hBe hSe hEe hD9 hT9 hS9 hN9 hE9 hg9 hrow hnt hE0
   go_wp2_with (first|((with_reducible refine d9 39 (.tmp 12) ?_);refine ⟨wz.heap.size,0,rfl,[v1,v2],e7.row Hrow.out,by kernel_rfl,by kernel_rfl, ?_⟩)|fail)
   refine (Hnt.out w9 (Mod.refl _ _)).mono ?_;rintro e wB ⟨rfl,hIB⟩;have HIB:=zh hIB;clear hIB
   go_wp2_with fail
   go_roundw
   case rel=>exact ⟨j+1,ow9,B9,_,Q,sa,sc,by go_num,hlt,by omega,rfl,HIB.out⟩
   case measure=>simp [intOf];omega
  obtain rfl:j=A.length:=by omega
  obtain ⟨wq,rfl⟩:∃x:World,x=wr:=⟨_,rfl⟩;have hsc:Q.length<=sc:=by obtain ⟨-,a',c',h,h2, -⟩:=hI.e.sl.sl.rd;cases h;exact h2
  have hsc':(Q.length:Int)<=sc:=by omega
  have hI0:DpI w3 wq owr gb w5.heap.size w4.heap.size P B (A.length+0) T (.slice sa Q.length sc) Q ((Q.drop 0).map Dp.tk):=hI;obtain ⟨HI,HI0,Hmr⟩:=zh3 hI hI0 hmr;clear hI hI0 hmr hsc
  go_wp2_with fail
  go_loopw [66] (fun i wr=>b4M w3 gb w5.heap.size w4.heap.size P A.length (.slice sa Q.length sc) Q i wr) (fun i _=>Q.length - (intOf i).toNat)
  case atStart=>exact ⟨0,owr,B,T,rfl,Nat.zero_le _,HI0.out⟩
  case round=>
   obtain ⟨i,owi,Bi,Ti,rfl,hi,hIi⟩:=hrel;by_cases hlt:i<Q.length
   ·have hlt':(i:Int)<Q.length:=by omega
    obtain ⟨d,hdi⟩:∃d,Q[i]? =some d:=⟨_,zz5 hlt⟩
    have hdrop:Q.drop i=d::Q.drop (i+1):=by
     rw [List.drop_eq_getElem_cons hlt];congr 1;exact (zz6 hdi).2
    rw [hdrop,List.map_cons] at hIi;obtain ⟨hd4,hdt, -,hwho⟩:=hIi.e.each d (zz8 hdi);obtain ⟨ga,offa,rfl,hf⟩:=a0e (f:=Dp.cells) (sz:=7) (fun _=>rfl) hIi.e.sl.sl.rd hdi;obtain ⟨k,x,t⟩:=d;have hd4:t<4:=hd4;have hdt:bits .and .i64 x.tenant 3=t:=hdt;have hwho:x.who.size<=100:=hwho;have hcat1:¬9223372036854775807<x.who.size+(⟨#[120]⟩:ByteArray).size:=by have e:(⟨#[120]⟩:ByteArray).size=1:=rfl;omega
    have hcat2:¬9223372036854775807<x.who.size+1:=by omega
    have hi60:A.length+i<=60:=by omega
    obtain ⟨wz,hwz,hmwz,hgwz,hzwz⟩:=e9 wr (.cells (Dp.cells ⟨k,x,t⟩).toArray 101);have hwz':wr.alloc (.cells #[.int .i64 k,.int .i64 x.kind,.int .i64 x.tenant,.int .i64 x.frm,.string x.who,.string x.sc,.slice x.a x.cs.length x.c] 101)=wz:=hwz;have hIz:=hIi.mov hmwz;obtain ⟨w8,hw8⟩:∃w8:World,wz.alloc (.cells #[.slice none 0 0,.slice none 0 0] 39)=w8:=⟨_,rfl⟩;obtain ⟨hA8,hs8⟩:=D2.new hIz.ow hIz.br hIz.L hIz.R hIz.md hw8;have hm8:Mod (fun _=>False) wz w8:=hw8▸(Mod.refl (fun _=>False) wz).alloc _;have hE8:=hIz.e.mov hs8 (by omega) (by omega);have hg8:=hm8.heap hgwz (fun h=>h);obtain ⟨owo,howo⟩:∃o:Ow,p7 owi wz.heap.size 40=o:=⟨_,rfl⟩;rw [howo] at hA8 hs8 hE8;have y0:w8.cell? ⟨wr.heap.size,0,none⟩=some (.int .i64 k):=d6 hg8 rfl;have y1:w8.cell? ⟨wr.heap.size,1,none⟩=some (.int .i64 x.kind):=d6 hg8 rfl;have y2:w8.cell? ⟨wr.heap.size,2,none⟩=some (.int .i64 x.tenant):=d6 hg8 rfl;have y3:w8.cell? ⟨wr.heap.size,3,none⟩=some (.int .i64 x.frm):=d6 hg8 rfl;have y4:w8.cell? ⟨wr.heap.size,4,none⟩=some (.string x.who):=d6 hg8 rfl;have y5:w8.cell? ⟨wr.heap.size,5,none⟩=some (.string x.sc):=d6 hg8 rfl;have y6:w8.cell? ⟨wr.heap.size,6,none⟩=some (.slice x.a x.cs.length x.c):=d6 hg8 rfl;have hBS:a0Y Bi:=fun t ht=>(hIz.D t ht).s;have hsf:r9 (Bi.R t).S k=some (x.who,(x.sc,j1 x.cs)):=hIz.ok.head hd4;have hkj:=(hIz.R t hd4).si _ (S4 hsf);have hkw:(Lit.int .i64 k).wf=true:=a2N (by have:=hkj.1;have:=hkj.2;omega);have hd1:=hA8.drop (by omega) hBS t hd4 (x.who++⟨#[120]⟩) k hkw;obtain ⟨HIi,Hdi,Hdrop,Hdt,Hf,Hwz,Hwz',Hmwz,Hgwz,HIz,Hw8,HA8⟩:=zh12 hIi hdi hdrop hdt hf hwz hwz' hmwz hgwz hIz hw8 hA8;obtain ⟨Hs8,Hm8,HE8,Hg8,Howo,HBS,Hsf,Hkj,Hkw,Hd1⟩:=zh10 hs8 hm8 hE8 hg8 howo hBS hsf hkj hkw hd1;clear hIi hdi hdrop hdt hf hwz hwz' hmwz hgwz hIz hw8 hA8 hs8 hm8 hE8 hg8 howo hBS hsf hkj hkw hd1 hzwz
    go_wp2_with (first|((with_reducible refine d9 101 (.tmp 69) ?_);refine ⟨ga,offa+i*7,rfl,[.int .i64 k,.int .i64 x.kind,.int .i64 x.tenant,.int .i64 x.frm,.string x.who,.string x.sc,.slice x.a x.cs.length x.c],Hf.out,by kernel_rfl,by kernel_rfl, ?_⟩)|((with_reducible refine d8 101 (.tmp 14) (.tmp 70) ?_);refine ⟨rfl,[.int .i64 k,.int .i64 x.kind,.int .i64 x.tenant,.int .i64 x.frm,.string x.who,.string x.sc,.slice x.a x.cs.length x.c],rfl,rfl,by kernel_rfl,rfl, ?_⟩;rw [Hwz'.out])|(rw [show wz.alloc _=w8 from Hw8.out])|fail)
    refine Hd1.out.mono ?_;rintro e w9 (⟨rfl, -,hI9,hm9⟩|⟨rfl,p,ow',h1,h2, -, -⟩);rotate_left
    ·exfalso;rw [Hsf.out] at h1;cases h1
     exact b4N _ h2.symm
    have hg9:=hm9.heap Hg8.out (fun h=>h);clear y0 y1 y2 y3 y4 y5 y6;have y0:w9.cell? ⟨wr.heap.size,0,none⟩=some (.int .i64 k):=d6 hg9 rfl;have y1:w9.cell? ⟨wr.heap.size,1,none⟩=some (.int .i64 x.kind):=d6 hg9 rfl;have y2:w9.cell? ⟨wr.heap.size,2,none⟩=some (.int .i64 x.tenant):=d6 hg9 rfl;have y3:w9.cell? ⟨wr.heap.size,3,none⟩=some (.int .i64 x.frm):=d6 hg9 rfl;have y4:w9.cell? ⟨wr.heap.size,4,none⟩=some (.string x.who):=d6 hg9 rfl;have y5:w9.cell? ⟨wr.heap.size,5,none⟩=some (.string x.sc):=d6 hg9 rfl;have y6:w9.cell? ⟨wr.heap.size,6,none⟩=some (.slice x.a x.cs.length x.c):=d6 hg9 rfl;obtain ⟨kx,hkx⟩:∃kx:Int,1000+(i:Int)=kx:=⟨_,rfl⟩;have hd2:=hI9.drop (by omega) HBS.out t hd4 x.who kx (a2N (by omega));obtain ⟨HI9,Hm9,Hg9,Hd2,Hkx⟩:=zh5 hI9 hm9 hg9 hd2 hkx;clear hI9 hm9 hg9 hd2 hkx
    go_wp2_with fail
    rw [Hkx.out];refine Hd2.out.mono ?_;rintro e w10 (⟨rfl, -,hI10,hm10⟩|⟨rfl,p,ow',h1,h2, -, -⟩);rotate_left
    ·exfalso;exact b4o Hkx.out hA30 ((HIz.out.R t hd4).si _ (S4 h1)).2
    obtain ⟨v1,v2,S',H',hot,hS', -⟩:=hI10.O;obtain rfl:S'=[]:=List.map_eq_nil_iff.1 hS';obtain ⟨a1,c1,rfl, -⟩:=hot.s1.shape;have hro:=hot.row;have hg10:=hm10.heap Hg9.out (fun h=>h);clear y0 y1 y2 y3 y4 y5 y6;have y0:w10.cell? ⟨wr.heap.size,0,none⟩=some (.int .i64 k):=d6 hg10 rfl;have y1:w10.cell? ⟨wr.heap.size,1,none⟩=some (.int .i64 x.kind):=d6 hg10 rfl;have y2:w10.cell? ⟨wr.heap.size,2,none⟩=some (.int .i64 x.tenant):=d6 hg10 rfl;have y3:w10.cell? ⟨wr.heap.size,3,none⟩=some (.int .i64 x.frm):=d6 hg10 rfl;have y4:w10.cell? ⟨wr.heap.size,4,none⟩=some (.string x.who):=d6 hg10 rfl;have y5:w10.cell? ⟨wr.heap.size,5,none⟩=some (.string x.sc):=d6 hg10 rfl;have y6:w10.cell? ⟨wr.heap.size,6,none⟩=some (.slice x.a x.cs.length x.c):=d6 hg10 rfl;have o0:w10.cell? ⟨wz.heap.size,0,none⟩=some (.slice a1 0 c1):=d6 hro rfl;have hd3:=hI10.drop (by omega) HBS.out t hd4 x.who k Hkw.out;have hm810:=Hm9.out.trans hm10 (fun _ _ h=>h);obtain ⟨HI10,Hm10,Hot,Hro,Hg10,Hd3,Hm810⟩:=zh7 hI10 hm10 hot hro hg10 hd3 hm810;clear hI10 hm10 hot hro hg10 hd3 hm810 hS'
    go_wp2_with fail
    refine Hd3.out.mono ?_;rintro e w11 (⟨rfl,h1, -, -⟩|⟨rfl,p,ow11,h1,h2,hI11,hs11⟩)
    ·exfalso;unfold BS.dropE at h1;rw [Hsf.out] at h1;simp at h1
    have hpe:p=(x.who,(x.sc,j1 x.cs)):=Option.some.inj (h1.symm.trans Hsf.out);rw [hpe,List.nil_append] at hI11;have hI11:D2 w3 w11 ow11 gb wz.heap.size P (Bi.endB [1,2] t k (x.sc,j1 x.cs)) (A.length+i+1) (Bi.endS [1,2] t k (x.sc,j1 x.cs)) []:=hI11;obtain ⟨hq1,hq2⟩:=HA8.out.okQs t hd4;have hD11:=HIz.out.D.end_ [1,2] hd4 Hsf.out;have hT11:=HIz.out.tk.end_ hd4 k (x.sc,j1 x.cs);have hS11:=HIz.out.ok.end_ HIz.out.D hd4 [1,2];have hN11:=NtS.end_ hq1 hq2 k (x.sc,j1 x.cs);have hn11:=BS.endS_len (HA8.out.go (by omega) t hd4) (HA8.out.low t hd4) k (x.sc,j1 x.cs);have hE11:=(HE8.out.mov (Mov.of HA8.out.ow Hm810.out (fun _=>False)) (fun h=>h) (fun h=>h)).mov hs11 (a5M (.inr (.inl rfl)) hd4) (a5M (.inr (.inr rfl)) hd4);obtain ⟨v3,v4,hrow,hnt⟩:=a4B hI11 hD11 hT11 hS11 hE11 (by omega) (by omega) hn11 t hd4 hN11;clear y0 y1 y2 y3 y4 y5 y6 o0;obtain ⟨HI11,Hs11,Hq1,Hq2,HD11,HT11,HS11,HN11,HE11,Hrow,Hnt,Hpe⟩:=zh12 hI11 hs11 hq1 hq2 hD11 hT11 hS11 hN11 hE11 hrow hnt hpe;clear hI11 hs11 hq1 hq2 hD11 hT11 hS11 hN11 hE11 hrow hnt hpe h1 h2
    go_wp2_with (first|((with_reducible refine d9 39 (.tmp 15) ?_);refine ⟨wz.heap.size,0,rfl,[v3,v4],e7.row Hrow.out,by kernel_rfl,by kernel_rfl, ?_⟩)|fail)
    refine (Hnt.out w11 (Mod.refl _ _)).mono ?_;rintro e wB ⟨rfl,hIB⟩;have HIB:=zh hIB;clear hIB
    go_wp2_with fail
    go_roundw
    case rel=>exact ⟨i+1,ow11,_,_,by go_num,hlt,HIB.out⟩
    case measure=>simp [intOf];omega
   obtain rfl:i=Q.length:=by omega
   obtain ⟨we,rfl⟩:∃x:World,x=wr:=⟨_,rfl⟩;rw [List.drop_length] at hIi;have hoff:=fun t k=>hIi.tk.none hIi.R hIi.D hIi.ok t k;obtain ⟨n,F,hmap,hF,hn⟩:=hIi.e.map;have b0:we.cell? ⟨w5.heap.size,0,none⟩=some (.map (some w4.heap.size)):=d6 hIi.e.box rfl;have hz:∀t,t<4->((Bi.R t).S.length:Int)=0:=fun t ht=>by rw [hIi.ok.none ht];rfl
   have hmD:Mod (fun _=>False) we we:=Mod.refl _ _;obtain ⟨HIi,Hoff,Hmap,HF,Hn,Hz,HmD⟩:=zh7 hIi hoff hmap hF hn hz hmD;clear hIi hoff hmap hF hn hz hmD
   go_wp2_with (first|((at_range;refine C2 rfl _ 96 rfl 9 4 m6 Tryz.underlying96 w4.heap.size _ F rfl Hmap.out.m ?_;intro wF hrg hmF hzF))|fail)
   have hml:w4.heap.size<we.heap.size:=Hmap.out.m.lt;have hrel0:∃left cnt,W7 wF 9 w4.heap.size we.heap.size F left cnt/\Mod (fun _=>False) we wF:=⟨_,_,hrg,hmF⟩;obtain ⟨Hrel0,Hrg,HmF,Hml⟩:=zh4 hrel0 hrg hmF hml;clear hrel0 hrg hmF hml hzF b0
   go_frame
   go_loopw [125] (fun _ wr=>∃left cnt,W7 wr 9 w4.heap.size we.heap.size F left cnt/\Mod (fun _=>False) we wr) (fun _ wr=>wr.rangeLeft w4.heap.size we.heap.size)
   case atStart=>exact Hrel0.out
   case round=>
    revert wr;intro wl hrel;obtain ⟨left,cnt,hrg,hmr⟩:=hrel;have Hmr:=zh hmr;clear hmr
    go_wp2_with (first|((at_next;refine D4 rfl _ rfl 9 m6 encStr Lit.string (b0d _ Tryz.underlying9) (b3V _ Tryz.underlying9) w4.heap.size we.heap.size F left cnt rfl hrg ?_ ?_))|fail)
    ·intro hl0;have hIe:=HIi.out.mov Hmr.out;have hs0:=a2d wl owi 2 gb 0 [1,2] Bi hIe.br 0 (by decide);have hs1:=a2d wl owi 2 gb 0 [1,2] Bi hIe.br 1 (by decide);have hs2:=a2d wl owi 2 gb 0 [1,2] Bi hIe.br 2 (by decide);have hs3:=a2d wl owi 2 gb 0 [1,2] Bi hIe.br 3 (by decide);rw [Hz.out 0 (by decide)] at hs0;rw [Hz.out 1 (by decide)] at hs1;rw [Hz.out 2 (by decide)] at hs2;rw [Hz.out 3 (by decide)] at hs3;have hmE:=HIi.out.md.trans Hmr.out (fun _ _ h=>h);have hmE:=Hm03.out.trans hmE (fun _ _ h=>h);have hs0:Calls Tryz.prog 33 #[.pointer (some ⟨gb,0,none⟩),.int .i64 0] wl fun e w'=>e= .returned (.int .i64 0)/\wl=w':=hs0;have hs1:Calls Tryz.prog 33 #[.pointer (some ⟨gb,0,none⟩),.int .i64 1] wl fun e w'=>e= .returned (.int .i64 0)/\wl=w':=hs1;have hs2:Calls Tryz.prog 33 #[.pointer (some ⟨gb,0,none⟩),.int .i64 2] wl fun e w'=>e= .returned (.int .i64 0)/\wl=w':=hs2;have hs3:Calls Tryz.prog 33 #[.pointer (some ⟨gb,0,none⟩),.int .i64 3] wl fun e w'=>e= .returned (.int .i64 0)/\wl=w':=hs3;obtain ⟨Hl0,HIe,Hs0,Hs1,Hs2,Hs3,HmE,Hrg⟩:=zh8 hl0 hIe hs0 hs1 hs2 hs3 hmE hrg;clear hl0 hIe hs0 hs1 hs2 hs3 hmE hrg
     go_wp2_with fail
     refine Hs0.out.mono ?_;rintro e w7 ⟨rfl,rfl⟩
     go_wp2_with fail
     refine Hs1.out.mono ?_;rintro e w7 ⟨rfl,rfl⟩
     go_wp2_with fail
     refine Hs2.out.mono ?_;rintro e w7 ⟨rfl,rfl⟩
     go_wp2_with fail
     refine Hs3.out.mono ?_;rintro e w7 ⟨rfl,rfl⟩
     go_wp2
     go_ret;exact ⟨rfl,HmE.out⟩
    intro x cv wu cnt' hkey hlx hFx hrg' hlt hmu hzu hen;obtain rfl:=HF.out.off Hoff.out hFx;have hmx:Mod (fun _=>False) we wu:=Hmr.out.upon hmu (fun b hb=> .inr (Nat.le_of_eq (show we.heap.size=b from (show b=we.heap.size from hb).symm)));obtain ⟨Hrg,Hkey,Hlx,HFx,Hrg',Hmu,Hzu,Hmx⟩:=zh8 hrg hkey hlx hFx hrg' hmu hzu hmx;clear hrg hkey hlx hFx hrg' hmu hzu hmx
    go_wp2_with fail
    go_roundw
    case rel=>exact ⟨_,cnt',Hrg'.out,Hmx.out⟩
    case measure=>rw [Hrg'.out.left_eq,Hrg.out.left_eq];exact hlt
end
end Go.Proofs.YtaenebdppkjhoaaGreatDoor
