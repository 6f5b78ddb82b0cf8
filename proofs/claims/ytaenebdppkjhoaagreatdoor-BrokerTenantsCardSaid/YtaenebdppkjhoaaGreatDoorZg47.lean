/- Lemmas. -/
import Derived.Test.YtaenebdppkjhoaaGreatDoorZg45
import Derived.Test.YtaenebdppkjhoaaGreatDoorZg46
import Derived.Test.YtaenebdppkjhoaaGreatDoorZg43
namespace Go.Proofs.YtaenebdppkjhoaaGreatDoor
set_option maxRecDepth 20000
set_option maxHeartbeats 40000000
section
open Go.RowKit
theorem a4X:∀a b:List UInt8,Lib.compareBytes b a= - Lib.compareBytes a b
 |[],[]=>by simp [Lib.compareBytes]
 |[],b::t=>by simp [Lib.compareBytes]
 |a::s,[]=>by simp [Lib.compareBytes]
 | a::s,b::t=>by
  rw [a1o,a1o,a4X s t];by_cases h:a<b
  ·have h2:¬b<a:=fun h3=>absurd (UInt8.lt_trans h h3) (UInt8.lt_irrefl a);simp [h,h2]
  by_cases h2:b<a
  ·simp [h,h2]
  simp [h,h2]
theorem b1Z {a b:Cnd} (h:ltC a b=true):ltC b a=false:=by
 unfold ltC a4I at*;rw [decide_eq_true_eq] at h;rw [decide_eq_false_iff_not,a4X];omega
theorem a7C {a b c:Cnd} (h1:ltC a b=false) (h2:ltC b c=false):ltC a c=false:=by
 unfold ltC a4I at*;rw [decide_eq_false_iff_not] at*;intro h3;have h4:Lib.compareBytes b.prt a.prt<0\/Lib.compareBytes a.prt b.prt=0:=by rw [a4X];omega
 rcases h4 with h4|h4
 ·exact h2 ((Z4 _ _).2 (P5 _ _ _ ((Z4 _ _).1 h4) ((Z4 _ _).1 h3)))
 rw [(a3x _ _).1 h4] at h3;exact h2 h3
theorem a6a {x:Cnd} {r:List Cnd} (h:r.Pairwise fun a b=>ltC a b=false):(O0 ltC x r).Pairwise fun a b=>ltC a b=false:=by
 induction r with
 |nil=>exact List.pairwise_singleton _ _
 | cons y r ih=>
  rw [List.pairwise_cons] at h;unfold O0
  cases hl:ltC x y with
  |true=>
   rw [if_pos rfl,List.pairwise_cons];refine ⟨fun z hz=> ?_,ih h.2⟩;rcases List.mem_cons.1 ((a1Z ltC x r).mem_iff.1 hz) with rfl|hz
   ·exact b1Z hl
   ·exact h.1 z hz
  |false=>
   rw [if_neg (by decide),List.pairwise_cons];refine ⟨fun z hz=> ?_,List.pairwise_cons.2 h⟩;rcases List.mem_cons.1 hz with rfl|hz
   ·exact hl
   exact a7C hl (h.1 z hz)
theorem a7D (l:List Cnd):(C3 ltC l).Pairwise fun a b=>ltC b a=false:=by
 suffices∀r:List Cnd,(C3 ltC r.reverse).Pairwise fun a b=>ltC b a=false by
  have:=this l.reverse;rwa [List.reverse_reverse] at this
 intro r
 induction r with
 |nil=>exact List.Pairwise.nil
 |cons x r ih=>
  rw [List.reverse_cons,U6];unfold a2K;rw [List.pairwise_reverse];exact a6a (List.pairwise_reverse.2 ih)
theorem a7E {l:List Cnd} (h:l.Pairwise fun a b=>ltC b a=false):C3 ltC l=l:=by
 suffices∀r:List Cnd,(r.reverse.Pairwise fun a b=>ltC b a=false)->C3 ltC r.reverse=r.reverse by
  have:=this l.reverse;rw [List.reverse_reverse] at this;exact this h
 intro r
 induction r with
 |nil=>intro _;rfl
 | cons x r ih=>
  intro h;rw [List.reverse_cons] at h⊢;have h1:=List.pairwise_append.1 h;rw [U6,ih h1.1];unfold a2K;rw [List.reverse_reverse]
  cases r with
  |nil=>rfl
  |cons y r=>
   have h2:=h1.2.2 y (by simp) x (by simp);unfold O0;rw [if_neg (by rw [h2];decide)];simp
theorem b41 (s:List Cnd) (k:Nat):(s.zipIdx k).Pairwise fun p q=>p.2<q.2:=by
 induction s generalizing k with
 |nil=>exact List.Pairwise.nil
 |cons c s ih=>
  rw [List.zipIdx_cons,List.pairwise_cons];refine ⟨fun q hq=> ?_,ih (k+1)⟩;have:=List.mem_zipIdx hq;omega
theorem W4 (s:List Cnd):A6 s s.length=(s.zipIdx.filter fun p=> !Q7 s p.2 p.1).map Prod.fst:=by
 unfold A6;rw [List.take_length]
 generalize s.zipIdx=z
 induction z with
 |nil=>rfl
 |cons p z ih=>
  rw [List.filterMap_cons,List.filter_cons];cases h:Q7 s p.2 p.1
  ·simp [ih]
  simp [ih]
theorem a7F {s:List Cnd} {i:Nat} {c:Cnd} (h:(A6 s s.length)[i]? =some c):Q7 (A6 s s.length) i c=false:=by
 rw [W4] at*;have hp:(s.zipIdx.filter fun p=> !Q7 s p.2 p.1).Pairwise fun p q=>p.2<q.2:=(b41 s 0).filter _;obtain ⟨Z,hZ⟩:∃Z,(s.zipIdx.filter fun p=> !Q7 s p.2 p.1)=Z:=⟨_,rfl⟩
 have hm:∀p∈Z,s[p.2]? =some p.1/\Q7 s p.2 p.1=false:=fun p hp=>by
  rw [<-hZ] at hp;obtain ⟨h1,h2⟩:=List.mem_filter.1 hp;exact ⟨List.mem_zipIdx_iff_getElem?.1 h1,by simpa using h2⟩
 rw [hZ] at h hp⊢;rw [List.getElem?_map,Option.map_eq_some_iff] at h;obtain ⟨⟨c',j⟩,hi,rfl⟩:=h;have hj:=hm _ (zz8 hi)
 cases hn:Q7 (Z.map Prod.fst) i c' with
 |false=>rfl
 | true=>
  unfold Q7 at hn;obtain ⟨⟨d,k⟩,hk,hna⟩:=List.any_eq_true.1 hn;have hk:=List.mem_zipIdx_iff_getElem?.1 hk;simp only at hk hna;rw [List.getElem?_map,Option.map_eq_some_iff] at hk;obtain ⟨⟨d',m⟩,hk2,rfl⟩:=hk;have hmm:=hm _ (zz8 hk2);obtain ⟨li,ei⟩:=zz6 hi;obtain ⟨lk,ek⟩:=zz6 hk2
  have o1:k<i->m<j:=fun h=>by
   have:=List.pairwise_iff_getElem.1 hp k i lk li h;rw [ei,ek] at this;exact this
  have o2:i<k->j<m:=fun h=>by
   have:=List.pairwise_iff_getElem.1 hp i k li lk h;rw [ei,ek] at this;exact this
  have:Q7 s j c'=true:=by
   unfold Q7;refine List.any_eq_true.2 ⟨(d',m),List.mem_zipIdx_iff_getElem?.2 hmm.1, ?_⟩;unfold a3c at hna⊢;simp only [Bool.and_eq_true,Bool.or_eq_true,decide_eq_true_eq] at hna⊢;exact ⟨by omega,hna.2.1,hna.2.2.imp_left o1⟩
  rw [hj.2] at this;cases this
theorem a7G {t:List Cnd} (h:∀i c,t[i]? =some c->Q7 t i c=false):A6 t t.length=t:=by
 rw [W4,List.filter_eq_self.2 (fun p hp=>by rw [h p.2 p.1 (List.mem_zipIdx_iff_getElem?.1 hp)];rfl)];exact List.zipIdx_map_fst ..
theorem a3u (l:List Cnd):j2 (j2 l)=j2 l:=by
 obtain ⟨t,ht⟩:∃t,j2 l=t:=⟨_,rfl⟩;have e:t=A6 (M7 l) (M7 l).length:=by rw [<-ht,a1E];rfl
 have hs:t.Pairwise fun a b=>ltC b a=false:=by
  rw [e,W4];have h1:((M7 l).zipIdx.map Prod.fst)=M7 l:=List.zipIdx_map_fst ..;have h2:=a7D (l.map Cnd.norm);rw [show C3 ltC (l.map Cnd.norm)=M7 l from rfl,<-h1] at h2;exact List.pairwise_map.2 ((List.pairwise_map.1 h2).filter _)
 have hn:t.map Cnd.norm=t:=by
  refine List.map_congr_left (g:=id) (fun c hc=> ?_)|>.trans (List.map_id _);rw [<-ht] at hc;obtain ⟨d, -,rfl⟩:=a0g (a1I hc);exact a4l d
 rw [ht];have h3:M7 t=t:=by unfold M7;rw [hn];exact a7E hs
 unfold j2;rw [h3]
 exact a7G fun i c hc=>by
  rw [e] at hc⊢;exact a7F hc
theorem b3T {α:Type} (f:Nat->α) (i:Nat) (x y:α):upd (upd f i x) i y=upd f i y:=by
 funext j;unfold upd;split<;>rfl
def okN (q:Fil):Prop:=∃l,j5 q.1 l=true/\(∀c∈l,c.v.num<2^64)/\q.2=j2 l
theorem b3U {p q:Fil} (hp:okN p) (hq:okN q) (h:i6 p=i6 q):p=q:=by
 obtain ⟨ps,pl⟩:=p;obtain ⟨qs,ql⟩:=q;obtain ⟨l,h1,h2,h3⟩:=hp;obtain ⟨m,h4,h5,h6⟩:=hq;simp only at h3 h6 h1 h4;subst h3;subst h6;exact a52 h1 h4 h2 h5 h
theorem a4Y {fs:ByteArray} {fl:List Cnd} (h:j5 fs fl=true) (hn:∀c∈fl,c.fits):okN (fs,j2 fl):=⟨fl,h,fun c hc=>(hn c hc).v.num,rfl⟩
theorem b12 {q:Fil} (h:okN q):j2 q.2=q.2:=by
 obtain ⟨l, -, -,h⟩:=h;rw [h,a3u]
theorem b13 {fs:ByteArray} {fl:List Cnd} (h:j5 fs fl=true) (hn:∀c∈fl,c.fits):okQ (fs,j2 fl):=by
 obtain ⟨h1,h2, -⟩:=K4 h;have h3:=G6 fl;refine ⟨?_,F0 hn, ?_⟩
 ·show (j2 fl).length<=19;omega
 show fs.size<=1000000;omega
def RS.tadd (R:RS) (frm:Int) (f:Fil):RS:=if (o8 R.M frm (i6 f)).isNone then {R with M:=R.M++[(frm,f)],N:=R.N+1} else R
def RS.trem (R:RS) (frm:Int) (f:Fil):RS:={R with M:=a3h R.M frm (i6 f)}
def RS.addS (R:RS) (k:Int) (who:ByteArray) (f:Fil):RS:={R with S:=R.S++[(k,who,f)]}
def RS.addI (R:RS) (k:Int) (f:Fil):RS:={R with I:=R.I++[(k,f)],T:=R.T+20}
def RS.sub (R:RS) (k:Int) (who:ByteArray) (f:Fil):RS:=((R.addS k who f).addI k f).tadd (-1) f
structure RS.Go (R:RS):Prop where
 n:R.N<=999
 t:R.T<=90000
 k:R.K<=1000000
 g:GOk R.G
 m:∀p∈R.M,okN p.2
 s:R.S.length<=1000
theorem a4Z {M:List (Int×Fil)} (h:∀p∈M,okN p.2):∀p∈M,∀q∈M,i6 p.2=i6 q.2->p.2=q.2:=fun p hp q hq e=>b3U (h p hp) (h q hq) e
theorem RS.tadd_m {R:RS} (h:∀p∈R.M,okN p.2) (frm:Int) {f:Fil} (hf:okN f):∀p∈(R.tadd frm f).M,okN p.2:=fun p hp=>by
 unfold RS.tadd at hp;split at hp
 ·rcases zz14 hp with hp|hp
  ·exact h p hp
  rw [List.mem_singleton.1 hp];exact hf
 exact h p hp
theorem RS.tadd_n (R:RS) (frm:Int) (f:Fil):(R.tadd frm f).N<=R.N+1:=by
 unfold RS.tadd;split
 ·exact Nat.le_refl _
 exact Nat.le_succ _
theorem RS.tadd_eq (R:RS) (frm:Int) (f:Fil):(R.tadd frm f).G=R.G/\(R.tadd frm f).K=R.K/\(R.tadd frm f).S=R.S/\(R.tadd frm f).I=R.I/\(R.tadd frm f).T=R.T:=by
 unfold RS.tadd;split<;>exact ⟨rfl,rfl,rfl,rfl,rfl⟩
theorem a1e.tadd {w:World} {ow:Ow} {c t tb ib sb mb:Nat} {R:RS} {frm:Int} {f:Fil} (h1:C1 w ow (c+1+t) tb (R.tadd frm f).M (R.tadd frm f).N) (h2:P9 w ow (c+5+t) ib R.I R.T) (h3:A9 w ow (c+9+t) sb R.S) (h4:D7 w ow (c+13+t) mb R.G R.K):a1e w ow c t tb ib sb mb (R.tadd frm f):=by
 obtain ⟨e1,e2,e3,e4,e5⟩:=R.tadd_eq frm f;exact ⟨h1,by rw [e4,e5];exact h2,by rw [e3];exact h3,by rw [e1,e2];exact h4⟩
theorem C1.len {w:World} {ow:Ow} {c b:Nat} {M:List (Int×Fil)} {N:Nat} (h:C1 w ow c b M N):M.length<=N:=by
 obtain ⟨mo,h⟩:=h;exact h.low
def a6b (L:List PRu) (tenant:Int) (who:ByteArray) (gs:ByteArray) (m:List Cnd):Bool:=
 (a0y L tenant who).isSome&&L.any fun p=>(p.lies none 0).of 2 tenant who&&b0O gs m (p.lies none 0)
theorem a8A (l:List Ru) (tenant:Int) (who:ByteArray) (gs:ByteArray) (m:List Cnd):
 a6b (l.map Ru.pru) tenant who gs m=((A5 l tenant who).isSome&&l.any fun r=>r.of 2 tenant who&&b0O gs m r):=by
 unfold a6b;rw [a07,List.any_map];rfl
def BS.subE (B:BS) (id:Int) (t:Nat) (who fs:ByteArray) (fl:List Cnd):Int:=
 if j5 fs fl=true then if B.there id t who=true then if a6b (atP B.L B.L.length) t who fs fl=true then if (B.R t).S.length=8 then 6 else 0 else 5 else 3 else 1
def BS.setR (B:BS) (t:Nat) (R:RS):BS:={B with R:=upd B.R t R}
theorem BS.setR_at (B:BS) (t:Nat) (R:RS):(B.setR t R).R t=R:=S5 _ _ _
theorem BS.setR_ne (B:BS) {t j:Nat} (R:RS) (h:j≠t):(B.setR t R).R j=B.R j:=W0 _ _ h
theorem BS.setR_set (B:BS) (t:Nat) (R R':RS):(B.setR t R).setR t R'=B.setR t R':=by
 unfold BS.setR;rw [b3T]
theorem BS.setR_self (B:BS) (t:Nat):B.setR t (B.R t)=B:=by
 unfold BS.setR
 have:upd B.R t (B.R t)=B.R:=by
  funext j;unfold upd;split
  ·rename_i e;rw [e]
  rfl
 rw [this]
theorem BS.told_is (B:BS) (t:Nat) (near:List Int):B.told t near=B.setR t ((B.R t).refr near):=rfl
def BS.anew (B:BS) (t:Nat) (R:RS) (near:List Int):BS:=B.setR t (R.refr near)
theorem BS.told_set (B:BS) (t:Nat) (R:RS) (near:List Int):(B.setR t R).told t near=B.anew t R near:=by
 rw [BS.told_is,BS.setR_at,BS.setR_set];rfl
def M1 (c t:Nat) (tg:Nat->Prop):Nat->Prop:=fun q=>(q=c+1+t\/q=c+5+t\/q=c+9+t\/q=c+13+t)\/tg q
theorem A1.realm {F:Nat->Prop} {w0 w w':World} {ow ow':Ow} {c g:Nat} {id:Int} {near:List Int} {B:BS} {a:BAd} (h:A1 w ow c g id near B a) (hw:Owd w0 w ow) {t:Nat} (ht:t<4) (s:Mov F w ow w' ow') (hF:∀q,F q->q=c+1+t\/q=c+5+t\/q=c+9+t\/q=c+13+t) {R:RS}
 (hr:a1e w' ow' c t (a.tb t) (a.ib t) (a.sb t) (a.mb t) R):A1 w' ow' c g id near (B.setR t R) a:=by
 have hc:=h.c2;obtain ⟨L,h1,h2⟩:=h.log;have h0:¬F 0:=fun h=>by have:=hF 0 h;omega
 refine ⟨h.c2,⟨L,h1.mov s h0 (fun h=>by have:=hF _ h;omega) (fun h=>by have:=hF _ h;omega),h2⟩,h.near.mov s h0 (by omega),fun j hj=> ?_⟩;have hj':=h.rea j hj;by_cases e:j=t
 ·subst e;rw [BS.setR_at];exact hr
 rw [BS.setR_ne _ _ e];exact hj'.mov hw s h0 ⟨fun h=>by have:=hF _ h;omega,fun h=>by have:=hF _ h;omega,fun h=>by have:=hF _ h;omega,fun h=>by have:=hF _ h;omega⟩ hc
theorem Idx.cut {w:World} {b:Nat} {own C:Nat->Prop} {I:List (Int×Fil)} {T:Nat} (h:Idx w b own C I T):Idx w b own (fun k=>C k/\¬own k) I T:=by
 obtain ⟨m1,m2,h⟩:=h;refine ⟨m1,m2,h.row,h.nd,h.ob,h.ne, ?_,h.pm,h.low,h.olow,fun k hk=>h.clow k hk.1,h.wf,h.sc⟩;obtain ⟨f,g1,g2⟩:=h.fm;refine ⟨f,g1,fun id=> ?_⟩;have h3:=g2 id;cases hf:f (.int .i64 id)<;>cases hq:q8 I id<;>rw [hf,hq] at h3
 ·trivial
 ·exact h3
 ·exact h3
 obtain ⟨a,cap,e1,e2,e3⟩:=h3;exact ⟨a,cap,e1,e2,fun k hk=>⟨(e3 k hk).1,(e3 k hk).2.1,(e3 k hk).2.2,(e3 k hk).2.1⟩⟩
theorem N8 {M:List (Int×Fil)} {near:List Int} {G:Int->List Fil} {X:Nat} (hG:∀n,(G n).length<=X) (hM:M.length<=X) (ten:Int):(q9 M ten near G).length<=near.length*(2*X):=by
 induction near generalizing G with
 |nil=>simp [q9]
 | cons a near ih=>
  have h1:=ih (G:=S6 G a (x6 M a)) (fun n=>by
   unfold S6;split
   ·exact Nat.le_trans (W3 M a) hM
   ·exact hG n)
  have h2:=hG a;have h3:=Nat.le_trans (W3 M a) hM;have h4:(C5 (x6 M a) (G a)).length<=(x6 M a).length:=List.length_filter_le _ _;have h5:(C5 (G a) (x6 M a)).length<=(G a).length:=List.length_filter_le _ _;have h6:=a4p a ten (G a) (x6 M a);show (I5 a ten (G a) (x6 M a)++q9 M ten near (S6 G a (x6 M a))).length<=_;rw [zz4,zz9,Nat.add_mul];omega
theorem C1.keep {w0 w w':World} {ow:Ow} {c b:Nat} {M:List (Int×Fil)} {N:Nat} (hw:Owd w0 w ow) (h2:2<=c) (h:Tab w' b (fun k=>ow k=c) (fun k=>ow k=0/\k<w.heap.size) M N) (hm:Mod (fun k=>ow k=c) w w'):C1 w' ow c b M N:=by
 refine h.cong (fun k hk=>hk) (fun k hk=>⟨hk.1,zz13 hk.2 hm.size⟩) (fun k hk hk2=> ?_) (fun k hk=> ?_) (fun k hk=>hk.2)
 ·have hk':ow k=c:=hk;have:=hk2.1;omega
 have hk':ow k=c:=hk;exact zz13 (hw.hi k (by omega)) hm.size
theorem P9.keep {w0 w w':World} {ow:Ow} {c b:Nat} {I:List (Int×Fil)} {T:Nat} (hw:Owd w0 w ow) (h2:2<=c) (h:Idx w' b (fun k=>ow k=c) (fun k=>ow k=0/\k<w.heap.size) I T) (hm:Mod (fun k=>ow k=c) w w'):P9 w' ow c b I T:=by
 obtain ⟨m1,m2,h1⟩:=h;refine ⟨m1,m2,h1.cong (fun k hk=>hk) (fun k hk=>⟨hk.1,zz13 hk.2 hm.size⟩) (fun k hk hk2=> ?_) (fun k hk=> ?_) (fun k hk=>hk.2)⟩
 ·have hk':ow k=c:=hk;have:=hk2.1;omega
 have hk':ow k=c:=hk;exact zz13 (hw.hi k (by omega)) hm.size
theorem Owd.lo' {w0 w:World} {ow:Ow} (hw:Owd w0 w ow) {c:Nat} (h2:2<=c):∀k,ow k=c->w0.heap.size<=k:=fun k hk=>hw.lo k (by omega)
theorem a6c (w0 w:World) (ow:Ow) (hw:Owd w0 w ow) (c b:Nat) (h2:2<=c) (R:RS) (h:C1 w ow c b R.M R.N) (hN:R.N<=100000) (frm:Int) (hfw:(Lit.int .i64 frm).wf=true) (sc:ByteArray) (a:Option Addr) (cap:Nat) (l:List Cnd)
 (hv:j0 w 7 (.slice a l.length cap) l.length (l6 l)) (hll:l.length<20) (hcs:∀c∈l,c.fits) (hsc:sc.size<=1000000):
 Calls Tryz.prog 58 #[.pointer (some ⟨b,0,none⟩),.int .i64 frm,.agg #[.string sc,.slice a l.length cap]] w fun e w'=>e= .returned (.bool (o8 R.M frm (i6 (sc,j2 l))).isNone)/\
  ∃ow',C1 w' ow' c b (R.tadd frm (sc,j2 l)).M (R.tadd frm (sc,j2 l)).N/\Mov (fun q=>q=c) w ow w' ow':=by
 refine (b3n w0 w hw.laid b _ _ R.M R.N h hN (hw.lo' h2) frm hfw sc _ l hv hll hcs hsc).mono fun e w' hp=> ?_;rcases hp with ⟨h1,rfl,hm⟩|⟨h1,rfl,own',C',hT,ho1,ho2,hC,hm⟩
 ·have hs:(o8 R.M frm (i6 (sc,j2 l))).isNone=false:=by
   cases hq:o8 R.M frm (i6 (sc,j2 l)) with
   |none=>exact absurd hq h1
   |some q=>rfl
  have e:R.tadd frm (sc,j2 l)=R:=by unfold RS.tadd;rw [hs];rfl
  rw [e];exact ⟨by rw [hs],ow,C1.mov h hw (Mov.of hw hm (fun _=>False)) (fun h=>h) (fun h=>h) h2,Mov.of hw hm _⟩
 have e:R.tadd frm (sc,j2 l)={R with M:=R.M++[(frm,(sc,j2 l))],N:=R.N+1}:=by unfold RS.tadd;rw [h1];rfl
 rw [e,h1];exact ⟨rfl,_,C1.new hw h2 hT ho2 hC hm,Mov.tag rfl hm⟩
theorem a4r {M:List (Int×Fil)} {id:Int} {k:List UInt8} (h:o8 M id k=none):a3h M id k=M:=List.filter_eq_self.2 fun p hp=>by
 obtain ⟨x,q⟩:=p;by_cases e:x=id
 ·subst e;have:=a1J h q hp;simp [this]
 simp [e]
theorem a6d (w0 w:World) (ow:Ow) (hw:Owd w0 w ow) (c b:Nat) (h2:2<=c) (R:RS) (h:C1 w ow c b R.M R.N) (hN:R.N<=100000) (frm:Int) (hfw:(Lit.int .i64 frm).wf=true) (sc:ByteArray) (a:Option Addr) (cap:Nat) (l:List Cnd)
 (hv:j0 w 7 (.slice a l.length cap) l.length (l6 l)) (hll:l.length<20) (hcs:∀c∈l,c.fits) (hsc:sc.size<=1000000):
 Calls Tryz.prog 60 #[.pointer (some ⟨b,0,none⟩),.int .i64 frm,.agg #[.string sc,.slice a l.length cap]] w fun e w'=>e= .returned (.bool (o8 R.M frm (i6 (sc,j2 l))).isSome)/\
  C1 w' ow c b (R.trem frm (sc,j2 l)).M (R.trem frm (sc,j2 l)).N/\Mov (fun q=>q=c) w ow w' ow:=by
 refine (b3t w0 w hw.laid b _ _ R.M R.N h hN frm hfw sc _ l hv hll hcs hsc).mono fun e w' hp=> ?_;rcases hp with ⟨h1,rfl,hm⟩|⟨h1,rfl,hT,hm⟩
 ·have e:R.trem frm (sc,j2 l)=R:=by unfold RS.trem;rw [a4r h1]
  rw [e,h1];exact ⟨rfl,C1.mov h hw (Mov.of hw hm (fun _=>False)) (fun h=>h) (fun h=>h) h2,Mov.of hw hm _⟩
 have hs:(o8 R.M frm (i6 (sc,j2 l))).isSome=true:=by
  cases hq:o8 R.M frm (i6 (sc,j2 l)) with
  |none=>exact absurd hq h1
  |some q=>rfl
 exact ⟨by rw [hs],C1.keep hw h2 hT hm,Mov.wrote hw hm (fun k hk=>hk)⟩
theorem b14 (w0 w:World) (ow:Ow) (hw:Owd w0 w ow) (c b:Nat) (h2:2<=c) (I:List (Int×Fil)) (T:Nat) (h:P9 w ow c b I T) (hT:T<=100000) (k:Int) (hkw:(Lit.int .i64 k).wf=true) (hk:q8 I k=none) (sc:ByteArray) (a:Option Addr) (cap:Nat) (l:List Cnd)
 (hv:j0 w 7 (.slice a l.length cap) l.length (l6 l)) (hll:l.length<20) (hcs:∀c∈l,c.fits) (hsc:sc.size<=1000000):
 Calls Tryz.prog 62 #[.pointer (some ⟨b,0,none⟩),.int .i64 k,.agg #[.string sc,.slice a l.length cap]] w fun e w'=>e= .returned (.bool true)/\
  ∃ow',P9 w' ow' c b (I++[(k,(sc,j2 l))]) (T+20)/\Mov (fun q=>q=c) w ow w' ow':=by
 refine (b3c w0 w hw.laid b _ _ I T h hT (hw.lo' h2) k hkw sc _ l hv hll hcs hsc).mono fun e w' hp=> ?_;rcases hp with ⟨h1, -⟩|⟨h1,rfl,own',C',hI,ho1,ho2,hC,hm⟩
 ·exact absurd hk h1
 exact ⟨rfl,_,P9.new hw h2 hI.cut ho2 (fun k ho hc=>hc.2 ho) (fun k hk=>hC k hk.1) hm,Mov.tag rfl hm⟩
theorem a9M {I:List (Int×Fil)} {id:Int} (h:q8 I id=none):U0 I id=I:=List.filter_eq_self.2 fun p hp=>by
 have h1:=a1H h;have:p.1≠id:=fun e=>h1 (by rw [<-e];exact List.mem_map_of_mem hp);simpa using this
theorem b15 (w0 w:World) (ow:Ow) (hw:Owd w0 w ow) (c b:Nat) (h2:2<=c) (I:List (Int×Fil)) (T:Nat) (h:P9 w ow c b I T) (hT:T<=100000) (k:Int) (hkw:(Lit.int .i64 k).wf=true):
 Calls Tryz.prog 70 #[.pointer (some ⟨b,0,none⟩),.int .i64 k] w fun e w'=>(∃r,e= .returned (.bool r))/\P9 w' ow c b (U0 I k) T/\Mov (fun q=>q=c) w ow w' ow:=by
 refine (b3h w b _ _ I T h hT k hkw).mono fun e w' hp=> ?_;rcases hp with ⟨h1,rfl,hm⟩|⟨h1,rfl,hI,hm⟩
 ·rw [a9M h1];exact ⟨⟨_,rfl⟩,P9.mov h hw (Mov.of hw hm (fun _=>False)) (fun h=>h) (fun h=>h) h2,Mov.of hw hm _⟩
 exact ⟨⟨_,rfl⟩,P9.keep hw h2 hI hm,Mov.wrote hw hm (fun k hk=>hk)⟩
def RS.hear (R:RS) (frm:Int) (f:Fil) (on:Bool):RS:=if on then R.tadd frm f else R.trem frm f
def RS.news (R:RS) (frm:Int) (f:Fil) (on:Bool):Bool:=if on then (o8 R.M frm (i6 f)).isNone else (o8 R.M frm (i6 f)).isSome
def BS.takeB (B:BS) (near:List Int) (t:Nat) (frm:Int) (f:Fil) (on:Bool):BS:=if (B.R t).news frm f on then B.anew t ((B.R t).hear frm f on) near else B
def BS.takeS (B:BS) (near:List Int) (t:Nat) (frm:Int) (f:Fil) (on:Bool):List Sd:=if (B.R t).news frm f on then q9 ((B.R t).hear frm f on).M t near (B.R t).G else []
def b16 {w0:World} {q:Nat} (O:x7 w0 q) (w:World) (ow:Ow) (c g:Nat) (id:Int) (near:List Int) (B:BS) (t:Nat) (s:O.σ) (frm:Int) (f:Fil) (on:Bool) (e:Ending) (w':World):Prop:=
 e= .returned (.bool true)/\∃ow',Bro w' ow' c g id near (B.takeB near t frm f on)/\O.inv w' ow' (O.sends s (B.takeS near t frm f on))/\Mov (M1 c t O.tg) w ow w' ow'
def tkK:Bool->Int
 |true=>1
 |false=>2
structure TkS (g t k tb:Nat) (fs:ByteArray) (fa:Option Addr) (n fc:Nat) (y:World):Prop where
 t0:y.cell? ⟨g,3+t*4,none⟩=some (.pointer (some ⟨tb,0,none⟩))
 e0:y.cell? ⟨k,10,none⟩=some (.string fs)
 e1:y.cell? ⟨k,11,none⟩=some (.slice fa n fc)
theorem a3v {M:List (Int×Fil)} (h:∀p∈M,okN p.2) (frm:Int) (k:List UInt8):∀p∈a3h M frm k,okN p.2:=fun p hp=>h p (a3n hp)
theorem b17 (on:Bool) (w0 w:World) (ow:Ow) (hw:Owd w0 w ow) (c g:Nat) (id:Int) (near:List Int) (B:BS) (h:Bro w ow c g id near B) (hnl:near.length<=1000) (hnw:∀n∈near,(Lit.int .i64 n).wf=true) (t:Nat) (ht:t<4)
 (q:Nat) (O:x7 w0 q) (s:O.σ) (hO:O.inv w ow s) (hOt:∀t,O.tg t->t<c\/c+18<=t) (hto:∀n∈near,O.okTo n t) (hcnt:O.cnt s<=300000000000) (hR:RS.Go (B.R t)) (frm:Int) (hfw:(Lit.int .i64 frm).wf=true)
 (x:Mv) (hk:x.m.kind=tkK on) (hf:j0 w 7 (.slice x.fa x.m.fl.length x.fc) x.m.fl.length (l6 x.m.fl)) (hfr:j5 x.m.fs x.m.fl=true) (hft:∀c∈x.m.fl,c.fits):
 Calls Tryz.prog 26 #[.pointer (some ⟨g,0,none⟩),.iface 43 (.pointer (some ⟨q,0,none⟩)),.int .i64 frm,.int .i64 t,.agg x.cells.toArray] w (b16 O w ow c g id near B t s frm (x.m.fs,j2 x.m.fl) on):=by
 obtain ⟨a,h⟩:=h;obtain ⟨wa,hwa,hmwa,hgwa,hzwa⟩:=e8 w (.cells x.cells.toArray 48);have ht4:(t:Int)<4:=by omega
 have ht0:(0:Int)<=t:=by omega
 have hmd:=hmwa.trans ((Mod.refl (fun _=>False) wa).drew) (fun _ _ h=>h);have hvd:=Mov.of hw hmd (fun _=>False);have hwd:=hvd.owd hw (fun h=>h);have hbd:=h.mov hw hvd (fun h=>h) (fun _ h=>h.elim);have hOd:=O.mov hO hw hvd (fun h=>h) (fun _ h=>h.elim);have hgd:=((Mod.refl (fun _=>False) wa).drew).heap hgwa (fun h=>h);have hrd:=hbd.rea t ht;have hc2:=hbd.c2;obtain ⟨hb1,hb2, -⟩:=K4 hfr;have hk0:wa.cell? ⟨w.heap.size,0,none⟩=some (.int .i64 x.m.kind):=d6 hgwa rfl;have hokN:=a4Y hfr hft;obtain ⟨f,hff⟩:∃f:Fil,(x.m.fs,j2 x.m.fl)=f:=⟨_,rfl⟩
 have hta:Calls Tryz.prog (if on then 58 else 60) #[.pointer (some ⟨a.tb t,0,none⟩),.int .i64 frm,.agg #[.string x.m.fs,.slice x.fa x.m.fl.length x.fc]] wa.drew fun e w'=>e= .returned (.bool ((B.R t).news frm f on))/\
  ∃ow',C1 w' ow' (c+1+t) (a.tb t) ((B.R t).hear frm f on).M ((B.R t).hear frm f on).N/\Mov (fun q=>q=c+1+t) wa.drew ow w' ow':=by
  cases on with
  |true=>
   have:=a6c w0 wa.drew ow hwd (c+1+t) (a.tb t) (by omega) (B.R t) hrd.tab (by have:=hR.n;omega) frm hfw x.m.fs x.fa x.fc x.m.fl (hf.mod hmd (fun _ _ h=>h)) (by omega) hft (by omega);rw [hff] at this;exact this
  |false=>
   have:=a6d w0 wa.drew ow hwd (c+1+t) (a.tb t) (by omega) (B.R t) hrd.tab (by have:=hR.n;omega) frm hfw x.m.fs x.fa x.fc x.m.fl (hf.mod hmd (fun _ _ h=>h)) (by omega) hft (by omega);rw [hff] at this;exact this.mono fun e w' ⟨he,hT,hm⟩=>⟨he,ow,hT,hm⟩
 have hfin:∀(w':World) (ow':Ow) (hT:C1 w' ow' (c+1+t) (a.tb t) ((B.R t).hear frm f on).M ((B.R t).hear frm f on).N) (sm:Mov (fun q=>q=c+1+t) wa.drew ow w' ow'),Owd w0 w' ow'/\A1 w' ow' c g id near (B.setR t ((B.R t).hear frm f on)) a/\O.inv w' ow' s/\Mov (M1 c t O.tg) w ow w' ow':=fun w' ow' hT sm=>by
  refine ⟨sm.owd hwd (by omega),hbd.realm hwd ht sm (fun q hq=> .inl hq) ?_,O.mov hOd hwd sm (by omega) (fun q e he=>by have:=hOt q he;omega),(hvd.mono (fun _ h=>h.elim)).trans (sm.mono (fun _ h=> .inl (.inl h)))⟩;have h2:=hrd.idx.mov hwd sm (by omega) (by omega) (by omega);have h3:=hrd.sub.mov sm (by omega) (by omega);have h4:=hrd.snt.mov sm (by omega) (by omega)
  cases on with
  |true=>exact a1e.tadd hT h2 h3 h4
  |false=>exact ⟨hT,h2,h3,h4⟩
 have hRm:∀p∈((B.R t).hear frm f on).M,okN p.2:=by
  cases on with
  |true=>exact RS.tadd_m hR.m frm (hff▸hokN)
  |false=>exact a3v hR.m frm _
 have hRn:((B.R t).hear frm f on).N<=1000:=by
  have:=hR.n
  cases on with
  |true=>exact Nat.le_trans (RS.tadd_n _ _ _) (by omega)
  |false=>show (B.R t).N<=1000;omega
 have hRk:((B.R t).hear frm f on).K=(B.R t).K/\((B.R t).hear frm f on).G=(B.R t).G:=by
  cases on with
  |true=>exact ⟨((B.R t).tadd_eq frm f).2.1,((B.R t).tadd_eq frm f).1⟩
  |false=>exact ⟨rfl,rfl⟩
 have hno:(B.R t).news frm f on=false->(B.R t).hear frm f on=B.R t:=fun hn=>by
  cases on with
  |true=>
   show (B.R t).tadd frm f=B.R t;unfold RS.tadd;rw [show (o8 (B.R t).M frm (i6 f)).isNone=false from hn];rfl
  | false=>
   have h1:o8 (B.R t).M frm (i6 f)=none:=by
    cases hq:o8 (B.R t).M frm (i6 f) with
    |none=>rfl
    |some q=>
     have h2:(o8 (B.R t).M frm (i6 f)).isSome=false:=hn;rw [hq] at h2;cases h2
   show (B.R t).trem frm f=B.R t;unfold RS.trem;rw [a4r h1]
 obtain ⟨NW,hNW⟩:∃NW,(B.R t).news frm f on=NW:=⟨_,rfl⟩;rw [hNW] at hta hno;rw [hff];have hS:TkS g t w.heap.size (a.tb t) x.m.fs x.fa x.m.fl.length x.fc wa.drew:=⟨(hbd.cells ht).1,d6 hgd rfl,d6 hgd rfl⟩
 have hgo:∀(w':World) (ow':Ow),Owd w0 w' ow'->A1 w' ow' c g id near (B.setR t ((B.R t).hear frm f on)) a->O.inv w' ow' s->Calls Tryz.prog 59 #[.pointer (some ⟨g,0,none⟩),.iface 43 (.pointer (some ⟨q,0,none⟩)),.int .i64 t] w' (a3t O w' ow' c g id near (B.setR t ((B.R t).hear frm f on)) t s):=fun w' ow' h1 h2 h3=>by
  have hRt:=BS.setR_at B t ((B.R t).hear frm f on)
  have hMl:((B.R t).hear frm f on).M.length<=1000000:=by
   have h4:=(h2.rea t ht).tab;rw [hRt] at h4;exact Nat.le_trans (C1.len h4) (by omega)
  have hlen:=N8 (near:=near) hR.g.len hMl t;exact a0N w0 w' ow' c g id near (B.setR t ((B.R t).hear frm f on)) h1 ⟨a,h2⟩ q O s h3 hOt t ht (by rw [hRt,hRk.2];have:near.length*(2*1000000)<=1000*(2*1000000):=Nat.mul_le_mul_right _ hnl;omega) hnl hnw hto (by rw [hRt];exact hRn) (by rw [hRt,hRk.1];exact hR.k) (by rw [hRt,hRk.2];exact hR.g) (by rw [hRt];exact a4Z hRm)
 have hGk:=hRk.2
 have hwa':w.alloc (.cells #[.int .i64 x.m.kind,.int .i64 x.m.at_,.int .i64 x.m.rule.kind,.int .i64 x.m.rule.tenant,.string x.m.rule.who,.int .i64 x.m.rule.broker,.string x.m.rule.sc,.slice x.ra x.m.rule.cs.length x.rc,.string x.m.rule.name,.int .i64 x.m.rule.at_,
  .string x.m.fs,.slice x.fa x.m.fl.length x.fc,.string x.m.es,.slice x.ea x.m.el.length x.ec,.int .i64 x.m.ver,.string x.m.org,.int .i64 x.m.ser] 48)=wa:=hwa
 obtain ⟨Hw,H,HO,HOt,Hto,HR,Hfw,Hf,Hfr,Hft,Hwa,Hwa'⟩:=zh12 hw h hO hOt hto hR hfw hf hfr hft hwa hwa';obtain ⟨Hmwa,Hgwa,Hmd,Hvd,Hwd,Hbd,HOd,Hgd,Hrd,HokN,Hff,Hta⟩:=zh12 hmwa hgwa hmd hvd hwd hbd hOd hgd hrd hokN hff hta;obtain ⟨Hfin,HRm,HRk,Hno,HNW,Hgo,HGk,Hnw⟩:=zh8 hfin hRm hRk hno hNW hgo hGk hnw;clear hw h hO hOt hto hR hfw hf hfr hft hwa hwa' hmwa hgwa hmd hvd hwd hbd hOd hgd hrd hokN hff hta hfin hRm hRk hno hNW hgo hGk hnw hzwa hb1 hb2 hRn
 cases on with
 | true=>
  have hkk:x.m.kind=1:=hk;rw [hkk] at hk0;have Hkk:=zh hkk;clear hkk hk
  go_enter Tryz.func26,Tryz.ntmps26
  go_wp2_with (first|(rw [show w.alloc _=wa from Hwa'.out])|(rw [show w.alloc _=wa from Hwa.out])|fail)
  refine g8 [.rd 0,.rd 1,.rd 2,.rd 3,.rd 4,.rd 5,.rd 6,.rd 7,.rd 8,.rd 9,.go 10] [0,1,2,3,4,5,6,7,8,9] (TkS g t w.heap.size (a.tb t) x.m.fs x.fa x.m.fl.length x.fc) (by kernel_rfl) (by kernel_rfl) (fun _ _ d _ _ h=>(by cases d<;>exact h)) ?_
  iterate 10 (
   refine l5 rfl ?_ (fun _=>hS) ?_ (fun w0 h0=> ?_) (fun K hK=> ?_)
   ·(try simp only [zz1]);(try simp only [zz2]);(try simp only [zz3]);go_simp;done
   rotate_left
   ·(try simp only [zz1]);(try simp only [zz2]);(try simp only [zz3])
    first
     |(obtain ⟨f0,f1,f2⟩:=h0 rfl;clear h0;go_simp;with_reducible rfl)
     |(clear h0;go_simp;with_reducible rfl)
   (try simp only [zz1]);(try simp only [zz2]);(try simp only [zz3])
   go_simp;refine hK _ ?_;clear hK K)
  refine g7 (g9 rfl ?_ (fun K hK=> ?_))
  ·(try simp only [zz1]);(try simp only [zz2]);(try simp only [zz3]);go_simp;done
  go_wp2_with fail
  refine Hta.out.mono ?_;rintro e w1 ⟨rfl,ow1,hT1,s1⟩;refine hK _ _ (fun h=>absurd h (by decide)) ?_;clear hK K hS;refine j8 ?_;obtain ⟨how1,hb1,hO1,hm1⟩:=Hfin.out w1 ow1 hT1 s1;have href:=Hgo.out w1 ow1 how1 hb1 hO1;obtain ⟨How1,Hb1,HO1,Hm1,Href,HT1,S1⟩:=zh7 how1 hb1 hO1 hm1 href hT1 s1;clear how1 hb1 hO1 hm1 href hT1 s1
  cases NW with
  | false=>
   go_wp2
   go_ret;refine ⟨rfl,ow1,⟨a, ?_⟩, ?_,Hm1.out⟩
   ·unfold BS.takeB;rw [HNW.out,if_neg (by decide)];have h1:=Hb1.out;rw [Hno.out trivial] at h1;rw [BS.setR_self] at h1;exact h1
   ·unfold BS.takeS;rw [HNW.out,if_neg (by decide)];exact HO1.out
  | true=>
   go_wp2_with fail
   refine Href.out.mono ?_;rintro e w2 ⟨rfl,ow2,hb2,hO2,hm2⟩;rw [BS.told_set] at hb2;rw [BS.setR_at,HGk.out] at hO2;have hmv:=Hm1.out.trans (hm2.mono (G:=M1 c t O.tg) (fun q h=>h.elim (fun h=> .inl (.inr (.inr (.inr h)))) (fun h=> .inr h)));obtain ⟨Hb2,HO2,Hm2,Hmv⟩:=zh4 hb2 hO2 hm2 hmv;clear hb2 hO2 hm2 hmv
   go_wp2
   go_ret;refine ⟨rfl,ow2, ?_, ?_,Hmv.out⟩
   ·unfold BS.takeB;rw [HNW.out,if_pos rfl];exact Hb2.out
   ·unfold BS.takeS;rw [HNW.out,if_pos rfl];exact HO2.out
 | false=>
  have hkk:x.m.kind=2:=hk;rw [hkk] at hk0;have Hkk:=zh hkk;clear hkk hk
  go_enter Tryz.func26,Tryz.ntmps26
  go_wp2_with (first|(rw [show w.alloc _=wa from Hwa'.out])|(rw [show w.alloc _=wa from Hwa.out])|fail)
  refine g8 [.rd 0,.rd 1,.rd 2,.rd 3,.rd 4,.rd 5,.rd 6,.rd 7,.rd 8,.rd 9,.go 10] [0,1,2,3,4,5,6,7,8,9] (TkS g t w.heap.size (a.tb t) x.m.fs x.fa x.m.fl.length x.fc) (by kernel_rfl) (by kernel_rfl) (fun _ _ d _ _ h=>(by cases d<;>exact h)) ?_
  iterate 10 (
   refine l5 rfl ?_ (fun _=>hS) ?_ (fun w0 h0=> ?_) (fun K hK=> ?_)
   ·(try simp only [zz1]);(try simp only [zz2]);(try simp only [zz3]);go_simp;done
   rotate_left
   ·(try simp only [zz1]);(try simp only [zz2]);(try simp only [zz3])
    first
     |(obtain ⟨f0,f1,f2⟩:=h0 rfl;clear h0;go_simp;with_reducible rfl)
     |(clear h0;go_simp;with_reducible rfl)
   (try simp only [zz1]);(try simp only [zz2]);(try simp only [zz3])
   go_simp;refine hK _ ?_;clear hK K)
  refine g7 (g9 rfl ?_ (fun K hK=> ?_))
  ·(try simp only [zz1]);(try simp only [zz2]);(try simp only [zz3]);go_simp;done
  go_wp2_with fail
  refine Hta.out.mono ?_;rintro e w1 ⟨rfl,ow1,hT1,s1⟩;refine hK _ _ (fun h=>absurd h (by decide)) ?_;clear hK K hS;refine j8 ?_;obtain ⟨how1,hb1,hO1,hm1⟩:=Hfin.out w1 ow1 hT1 s1;have href:=Hgo.out w1 ow1 how1 hb1 hO1;obtain ⟨How1,Hb1,HO1,Hm1,Href,HT1,S1⟩:=zh7 how1 hb1 hO1 hm1 href hT1 s1;clear how1 hb1 hO1 hm1 href hT1 s1
  cases NW with
  | false=>
   go_wp2
   go_ret;refine ⟨rfl,ow1,⟨a, ?_⟩, ?_,Hm1.out⟩
   ·unfold BS.takeB;rw [HNW.out,if_neg (by decide)];have h1:=Hb1.out;rw [Hno.out trivial] at h1;rw [BS.setR_self] at h1;exact h1
   ·unfold BS.takeS;rw [HNW.out,if_neg (by decide)];exact HO1.out
  | true=>
   go_wp2_with fail
   refine Href.out.mono ?_;rintro e w2 ⟨rfl,ow2,hb2,hO2,hm2⟩;rw [BS.told_set] at hb2;rw [BS.setR_at,HGk.out] at hO2;have hmv:=Hm1.out.trans (hm2.mono (G:=M1 c t O.tg) (fun q h=>h.elim (fun h=> .inl (.inr (.inr (.inr h)))) (fun h=> .inr h)));obtain ⟨Hb2,HO2,Hm2,Hmv⟩:=zh4 hb2 hO2 hm2 hmv;clear hb2 hO2 hm2 hmv
   go_wp2
   go_ret;refine ⟨rfl,ow2, ?_, ?_,Hmv.out⟩
   ·unfold BS.takeB;rw [HNW.out,if_pos rfl];exact Hb2.out
   unfold BS.takeS;rw [HNW.out,if_pos rfl];exact HO2.out
def BS.subB (B:BS) (id:Int) (near:List Int) (t:Nat) (who:ByteArray) (k:Int) (fs:ByteArray) (fl:List Cnd):BS:=
 if B.subE id t who fs fl=0 then B.anew t ((B.R t).sub k who (fs,j2 fl)) near else B
def BS.subS (B:BS) (id:Int) (near:List Int) (t:Nat) (who:ByteArray) (k:Int) (fs:ByteArray) (fl:List Cnd):List Sd:=
 if B.subE id t who fs fl=0 then q9 ((B.R t).sub k who (fs,j2 fl)).M t near (B.R t).G else []
def a1k {w0:World} {q:Nat} (O:x7 w0 q) (w:World) (ow:Ow) (c g:Nat) (id:Int) (near:List Int) (B:BS) (t:Nat) (s:O.σ) (who:ByteArray) (k:Int) (fs:ByteArray) (fl:List Cnd) (e:Ending) (w':World):Prop:=
 e= .returned (.int .i64 (B.subE id t who fs fl))/\∃ow',Bro w' ow' c g id near (B.subB id near t who k fs fl)/\O.inv w' ow' (O.sends s (B.subS id near t who k fs fl))/\Mov (M1 c t O.tg) w ow w' ow'
theorem a1k.no {w0:World} {q:Nat} {O:x7 w0 q} {w:World} {ow:Ow} {c g:Nat} {id:Int} {near:List Int} {B:BS} {t:Nat} {s:O.σ} {who:ByteArray} {k:Int} {fs:ByteArray} {fl:List Cnd} {w':World} {E:Int} (hw:Owd w0 w ow) (h:Bro w ow c g id near B) (hO:O.inv w ow s)
 (hm:Mod (fun _=>False) w w') (hE:B.subE id t who fs fl=E) (hn:E≠0):a1k O w ow c g id near B t s who k fs fl (.returned (.int .i64 E)) w':=by
 have h0:¬B.subE id t who fs fl=0:=by rw [hE];exact hn
 refine ⟨by rw [hE],ow, ?_, ?_,Mov.of hw hm _⟩
 ·unfold BS.subB;rw [if_neg h0];exact h.mov hw (Mov.of hw hm (fun _=>False)) (fun h=>h) (fun _ h=>h.elim)
 unfold BS.subS;rw [if_neg h0];exact O.mov hO hw (Mov.of hw hm (fun _=>False)) (fun h=>h) (fun _ h=>h.elim)
structure SuS (g t k sb ib tb:Nat) (fs:ByteArray) (fa:Option Addr) (n fc:Nat) (y:World):Prop where
 t0:y.cell? ⟨g,3+t*4,none⟩=some (.pointer (some ⟨tb,0,none⟩))
 i0:y.cell? ⟨g,3+t*4+1,none⟩=some (.pointer (some ⟨ib,0,none⟩))
 s0:y.cell? ⟨g,3+t*4+2,none⟩=some (.map (some sb))
 e0:y.cell? ⟨k,0,none⟩=some (.string fs)
 e1:y.cell? ⟨k,1,none⟩=some (.slice fa n fc)
theorem SuS.at {w:World} {ow:Ow} {c g:Nat} {id:Int} {near:List Int} {B:BS} {a:BAd} (h:A1 w ow c g id near B a) {t:Nat} (ht:t<4) {k:Nat} {fs:ByteArray} {fa:Option Addr} {n fc:Nat} (hg:w.heap[k]? =some (.cells #[.string fs,.slice fa n fc] 33 (0,0))):
 SuS g t k (a.sb t) (a.ib t) (a.tb t) fs fa n fc w:=by
 obtain ⟨q0,q1,q2, -⟩:=h.cells ht;exact ⟨q0,q1,q2,d6 hg rfl,d6 hg rfl⟩
theorem a40 (w0 w:World) (ow:Ow) (hw:Owd w0 w ow) (c g:Nat) (id:Int) (near:List Int) (B:BS) (h:Bro w ow c g id near B) (hL:B.L.length<=40) (hnl:near.length<=1000) (hnw:∀n∈near,(Lit.int .i64 n).wf=true) (t:Nat) (ht:t<4)
 (q:Nat) (O:x7 w0 q) (s:O.σ) (hO:O.inv w ow s) (hOt:∀t,O.tg t->t<c\/c+18<=t) (hto:∀n∈near,O.okTo n t) (hcnt:O.cnt s<=300000000000) (hR:RS.Go (B.R t)) (who:ByteArray) (k:Int) (hkw:(Lit.int .i64 k).wf=true) (hkS:y8 (B.R t).S k=none) (hkI:q8 (B.R t).I k=none)
 (fs:ByteArray) (fa:Option Addr) (fc:Nat) (fl:List Cnd) (hf:j0 w 7 (.slice fa fl.length fc) fl.length (l6 fl)) (hfs:fs.size<=1000000) (hfl:fl.length<=1000) (hft:∀c∈fl,c.fits):
 Calls Tryz.prog 27 #[.pointer (some ⟨g,0,none⟩),.iface 43 (.pointer (some ⟨q,0,none⟩)),.int .i64 t,.string who,.int .i64 k,.agg #[.string fs,.slice fa fl.length fc]] w (a1k O w ow c g id near B t s who k fs fl):=by
 obtain ⟨a,h⟩:=h;obtain ⟨wa,hwa,hmwa,hgwa,hzwa⟩:=e8 w (.cells #[.string fs,.slice fa fl.length fc] 33)
 have hF:∀wx,Mod (fun _=>False) wa wx->PbS wa w.heap.size fs fa fl.length fc wx:=fun wx hm=>
  ⟨hm.cell (d6 hgwa rfl) (fun h=>h),hm.cell (d6 hgwa rfl) (fun h=>h),hm⟩
 have hbr:∀wx,Mod (fun _=>False) w wx->A1 wx ow c g id near B a:=fun wx hm=>h.mov hw (Mov.of hw hm (fun _=>False)) (fun h=>h) (fun _ h=>h.elim);have hx':∀wx,Mod (fun _=>False) w wx->j0 wx 7 (.slice fa fl.length fc) fl.length (l6 fl):=fun wx hm=>hf.mod hm (fun _ _ h=>h);have hri:=fun wx (hm:Mod (fun _=>False) w wx)=>D6 wx fs (.slice fa fl.length fc) fl (hx' wx hm) (by omega) (by omega) (fun c hc=>by have:=(hft c hc).name;omega);obtain ⟨R1,hR1⟩:∃r,j5 fs fl=r:=⟨_,rfl⟩;rw [hR1] at hri;have ht4:(t:Int)<4:=by omega
 have ht0:(0:Int)<=t:=by omega
 have hsE:B.subE id t who fs fl=if R1=true then if B.there id t who=true then if a6b (atP B.L B.L.length) t who fs fl=true then if (B.R t).S.length=8 then 6 else 0 else 5 else 3 else 1:=by rw [<-hR1];rfl
 have hno:∀(wx:World) (E:Int),Mod (fun _=>False) w wx->B.subE id t who fs fl=E->E≠0->a1k O w ow c g id near B t s who k fs fl (.returned (.int .i64 E)) wx:=fun wx E hm hE hn=>a1k.no hw ⟨a,h⟩ hO hm hE hn;obtain ⟨H,HF,Hbr,Hf,Hx',Hri,HR1,Hwa,Hmwa,Hgwa,Hnw,Hw⟩:=zh12 h hF hbr hf hx' hri hR1 hwa hmwa hgwa hnw hw;obtain ⟨HO,HOt,Hto,HR,Hkw,HkS,HkI,Hft,HsE,Hno⟩:=zh10 hO hOt hto hR hkw hkS hkI hft hsE hno;clear h hF hbr hf hx' hri hR1 hwa hmwa hgwa hnw hw hO hOt hto hR hkw hkS hkI hft hsE hno hzwa
 go_enter Tryz.func27,Tryz.ntmps27
 have hS:=HF.out wa (Mod.refl _ wa);obtain ⟨f0,f1, -⟩:=hS
 go_wp2_with (first|(rw [show w.alloc _=wa from Hwa.out])|fail)
 refine (Hri.out wa Hmwa.out).mono ?_;rintro e w1 ⟨rfl,hm1⟩;clear f0 f1
 cases R1 with
 |false=>
  have hm:=Hmwa.out.trans hm1 (fun _ _ h=>h);have Hm:=zh hm;clear hm hm1
  go_wp2
  go_ret;exact Hno.out _ _ Hm.out (by rw [HsE.out];rfl) (by decide)
 |true=>
 have hth:=a59 w1 ow c g id near B ⟨a,Hbr.out w1 (Hmwa.out.trans hm1 (fun _ _ h=>h))⟩ hL t who;obtain ⟨R3,hR3⟩:∃r,B.there id t who=r:=⟨_,rfl⟩;rw [hR3] at hth;obtain ⟨Hth,HR3,Hm1⟩:=zh3 hth hR3 hm1;clear hth hR3 hm1
 go_wp2_with fail
 refine Hth.out.mono ?_;rintro e w3 ⟨rfl,hm3⟩;have hm3:=Hm1.out.trans hm3 (fun _ _ h=>h)
 cases R3 with
 |false=>
  have hm:=Hmwa.out.trans hm3 (fun _ _ h=>h);have Hm:=zh hm;clear hm hm3
  go_wp2
  go_ret;exact Hno.out _ _ Hm.out (by rw [HsE.out,HR3.out];rfl) (by decide)
 |true=>
 have hwm3:=Hmwa.out.trans hm3 (fun _ _ h=>h);have hb3:=Hbr.out w3 hwm3;obtain ⟨l,hlB,hfin,hle,hat⟩:=hb3.at_ hL;have hll:l.length<=40:=by rw [<-congrArg List.length hlB,zz10] at hL;exact hL
 obtain ⟨R4,hR4⟩:∃r,a6b (atP B.L B.L.length) t who fs fl=r:=⟨_,rfl⟩;have hFS:∀wx,Mod (fun _=>False) w3 wx->PbS wa w.heap.size fs fa fl.length fc wx:=fun wx hm=>HF.out wx (hm3.trans hm (fun _ _ h=>h));have hbL:=hle;obtain ⟨HR4,Hb3,HlB,Hfin,HbL,Hat,Hm3,Hwm3,HFS⟩:=zh9 hR4 hb3 hlB hfin hbL hat hm3 hwm3 hFS;clear hR4 hb3 hlB hfin hbL hat hm3 hwm3 hFS hle
 go_wp2_with fail
 have hS:PbS wa w.heap.size fs fa fl.length fc w3.drew:=HFS.out _ ((Mod.refl _ w3).drew);refine g8 [.rd 0,.rd 1,.rd 2,.rd 3,.rd 4,.rd 5,.rd 8,.rd 9,.rd 10,.go 6,.go 7,.go 11,.go 12,.go 13] [0,1,2,3,4,5,6,7,8,9,10] (PbS wa w.heap.size fs fa fl.length fc) (by kernel_rfl) (by kernel_rfl) (fun _ _ d _ _ h=>(by cases d<;>exact h)) ?_
 iterate 9 (
  refine l5 rfl ?_ (fun _=>hS) ?_ (fun w0 h0=> ?_) (fun K hK=> ?_)
  ·(try simp only [zz1]);(try simp only [zz2]);(try simp only [zz3]);go_simp;done
  rotate_left
  ·(try simp only [zz1]);(try simp only [zz2]);(try simp only [zz3])
   first
    |(obtain ⟨f0,f1, -⟩:=h0 rfl;clear h0;go_simp;with_reducible rfl)
    |(clear h0;go_simp;with_reducible rfl)
  (try simp only [zz1]);(try simp only [zz2]);(try simp only [zz3])
  go_simp;refine hK _ ?_;clear hK K)
 refine g7 (g9 rfl ?_ (fun K hK=> ?_))
 ·(try simp only [zz1]);(try simp only [zz2]);(try simp only [zz3]);go_simp;done
 go_wp2_with fail
 refine ((HbL.out w3.drew ((Mod.refl _ w3).drew))).mono ?_;rintro e w4 ⟨rfl,rfl⟩;refine hK _ _ (fun _ h=>h) ?_;clear hK K;refine g7 (g9 rfl ?_ (fun K hK=> ?_))
 ·(try simp only [zz1]);(try simp only [zz2]);(try simp only [zz3]);go_simp;done
 go_wp2_with fail
 refine ((Hat.out w3.drew _ ((Mod.refl _ w3).drew))).mono ?_;rintro e w4 ⟨v4,rfl,hru, -,hm4⟩;rw [a0M] at hru;have hm34:Mod (fun _=>False) w3 w4:=((Mod.refl _ w3).drew).trans hm4 (fun _ _ h=>h);have hS4:=HFS.out w4 hm34;refine hK _ _ (fun _ _=>hS4) ?_;clear hK K hS
 have hmp:=a11 (b0O fs fl) w4 v4 (atR l B.L.length) hru (by have:=a2E l B.L.length;omega) t who fs fa fl.length fc
  (fun r hr wx hwx ho=>a3Y wx r ((hru.ok r hr).mod hwx) (fun c hc=>((Hfin.out r (a4S hr)).1.cs c hc).v.num) fs (.slice fa fl.length fc) fl (Hx'.out wx (Hwm3.out.trans (hm34.trans hwx (fun _ _ h=>h)) (fun _ _ h=>h))) (by omega) (by omega) (fun d hd=>⟨by have:=(Hft.out d hd).v.text;omega,(Hft.out d hd).v.num⟩))
 rw [<-a8A,a2D,HlB.out,HR4.out] at hmp;have hwm4:=Hwm3.out.trans hm34 (fun _ _ h=>h);obtain ⟨Hmp,Hru,Hwm4,HS4,Hm34⟩:=zh5 hmp hru hwm4 hS4 hm34;clear hmp hru hwm4 hS4 hm34 hm4;refine g7 (g9 rfl ?_ (fun K hK=> ?_))
 ·(try simp only [zz1]);(try simp only [zz2]);(try simp only [zz3]);go_simp;done
 go_wp2_with fail
 refine Hmp.out.mono ?_;rintro e w5 ⟨rfl,hm5⟩;have hwm5:=Hwm4.out.trans hm5 (fun _ _ h=>h);have hm35:=Hm34.out.trans hm5 (fun _ _ h=>h);refine hK _ _ (fun h=>absurd h (by decide)) ?_;clear hK K hm5;refine g7 (g9 rfl ?_ (fun K hK=> ?_))
 ·(try simp only [zz1]);(try simp only [zz2]);(try simp only [zz3]);go_simp;done
 (try simp only [zz1]);(try simp only [zz2]);(try simp only [zz3]);go_simp;refine hK _ _ (fun h=>absurd h (by decide)) ?_;clear hK K;refine g7 (g9 rfl ?_ (fun K hK=> ?_))
 ·(try simp only [zz1]);(try simp only [zz2]);(try simp only [zz3]);go_simp;done
 (try simp only [zz1]);(try simp only [zz2]);(try simp only [zz3]);go_simp;refine hK _ _ (fun h=>absurd h (by decide)) ?_;clear hK K;refine j8 ?_
 cases R4 with
 |false=>
  have Hwm5:=zh hwm5;clear hwm5 hm35
  go_wp2
  go_ret;exact Hno.out _ _ Hwm5.out (by rw [HsE.out,HR3.out,HR4.out];rfl) (by decide)
 |true=>
 have hb5:=Hbr.out w5 hwm5;obtain ⟨-, -,q2, -⟩:=hb5.cells ht;have hlen:=fun ty=>(hb5.rea t ht).sub.len ty;obtain ⟨n,hn⟩:∃n,(B.R t).S.length=n:=⟨_,rfl⟩;rw [hn] at hlen;have hn1:n<=1000:=hn▸HR.out.s;by_cases hn8:n=8
 ·have hb8:((n:Int)==8)=true:=by rw [hn8];rfl
  obtain ⟨Hwm5,Hb5,Hn⟩:=zh3 hwm5 hb5 hn;clear hwm5 hb5 hn hm35
  go_wp2
  go_ret;exact Hno.out _ _ Hwm5.out (by rw [HsE.out,HR3.out,HR4.out,Hn.out,if_pos hn8];rfl) (by decide)
 have hb8:((n:Int)==8)=false:=by rw [beq_eq_false_iff_ne];omega
 have hE0:B.subE id t who fs fl=0:=by rw [HsE.out,HR3.out,HR4.out,hn,if_neg hn8];rfl
 obtain ⟨g0,g1, -⟩:=HFS.out w5 hm35;obtain ⟨-,hfl6, -⟩:=K4 HR1.out;have hlaid5:=Hw.out.laid.mod0 hwm5;have hnm:=a0h w0 w5 hlaid5 fs (.slice fa fl.length fc) fl (Hx'.out w5 hwm5) (by omega) Hft.out;have hg5:=(HF.out w5 (Hm3.out.trans hm35 (fun _ _ h=>h))).md.heap Hgwa.out (fun h=>h);have hokN:=a4Y HR1.out Hft.out;have hokQ:=b13 HR1.out Hft.out;obtain ⟨nl,hnl⟩:∃nl,j2 fl=nl:=⟨_,rfl⟩;have hni:j2 nl=nl:=hnl▸a3u fl;rw [hnl] at hnm hokN hokQ;obtain ⟨Hwm5,Hb5,Hn,HE0,Hlaid5,Hnm,Hg5,HokN,HokQ,Hnl,Hni⟩:=zh11 hwm5 hb5 hn hE0 hlaid5 hnm hg5 hokN hokQ hnl hni;clear hwm5 hb5 hn hE0 hlaid5 hnm hg5 hokN hokQ hnl hni hm35
 go_wp2_with fail
 refine Hnm.out.mono ?_;rintro e w6 ⟨na,nc,rfl,hno6,hnb6,hm6⟩;have hg6:=hm6.heap Hg5.out (fun h=>h);have hwm6:=Hwm5.out.trans hm6 (fun _ _ h=>h);obtain ⟨Hno6,Hnb6,Hm6,Hg6,Hwm6⟩:=zh5 hno6 hnb6 hm6 hg6 hwm6;clear hno6 hnb6 hm6 hg6 hwm6 g0 g1 q2 hlen
 go_wp2_with (first|((with_reducible refine j3 33 (.tmp 11) (.tmp 51) ?_);refine ⟨w.heap.size,rfl,_,_,Hg6.out,[.string fs,.slice na nl.length nc],rfl,rfl,by kernel_rfl,rfl, ?_⟩;intro w7 hg7 hmw7;have Hg7:=Lib.hid hg7;have Hmw7:=Lib.hid hmw7;clear hg7 hmw7)|fail)
 have hzb:w.heap.size<w5.heap.size:=(zz7 Hg5.out).1
 have hsbl:a.sb t<w.heap.size:=by
  obtain ⟨_,h1, -⟩:=(H.out.rea t ht).sub.mp;exact h1.lt
 have hm7:Mod (fun _=>False) w w7:=Hwm6.out.upon Hmw7.out (fun k hk=> .inr (Nat.le_of_eq (show w.heap.size=k from (show k=w.heap.size from hk).symm)));have hno7:=Hno6.out.mod Hmw7.out (fun k hk e=>by have h1:=Hnb6.out k hk;have h2:k=w.heap.size:=e;omega);have hmd:=hm7.trans ((Mod.refl (fun _=>False) w7).drew) (fun _ _ h=>h);have hwd:=(Mov.of Hw.out hmd (fun _=>False)).owd Hw.out (fun h=>h);have hbd:=Hbr.out w7.drew hmd;have hgd:=((Mod.refl (fun _=>False) w7).drew).heap Hg7.out (fun h=>h);have hcon:l9 w7.drew ow 7 (.slice na nl.length nc) nl.length (l6 nl):=⟨(hno7.mod ((Mod.refl (fun _=>False) w7).drew) (fun _ _ h=>h)).rd,fun _ b hb=>Hw.out.zero (Nat.le_trans Hwm5.out.size (Hnb6.out b hb))⟩;have hOd:=O.mov HO.out Hw.out (Mov.of Hw.out hmd (fun _=>False)) (fun h=>h) (fun _ h=>h.elim);have hc2:=hbd.c2;have hrd:=hbd.rea t ht;obtain ⟨w8,hrun,hsub8,hm8⟩:=A9.put hwd hrd.sub (by have:=HR.out.s;unfold maxLen;omega) (by omega) k Hkw.out HkS.out who (fs,nl) na nc hcon;have s8:Mov (fun q=>q=c+9+t) w7.drew ow w8 ow:=Mov.wrote hwd hm8 (fun b hb=>by rw [show b=a.sb t from hb];exact hrd.sub.tag);have how8:=s8.owd hwd (by omega);have hb8:A1 w8 ow c g id near (B.setR t ((B.R t).addS k who (fs,nl))) a:=hbd.realm hwd ht s8 (fun q hq=> .inr (.inr (.inl hq))) ⟨hrd.tab.mov hwd s8 (by omega) (by omega) (by omega),hrd.idx.mov hwd s8 (by omega) (by omega) (by omega),hsub8,hrd.snt.mov s8 (by omega) (by omega)⟩;have hg8:=hm8.heap hgd (fun e=>by have h2:w.heap.size=a.sb t:=e;omega);have hO8:=O.mov hOd hwd s8 (by omega) (fun q e he=>by have:=HOt.out q he;omega);have hcon8:=hcon.mov s8 (by omega) (by omega);have hS:SuS g t w.heap.size (a.sb t) (a.ib t) (a.tb t) fs na nl.length nc w7.drew:=SuS.at hbd ht hgd;have hmv8:Mov (M1 c t O.tg) w ow w8 ow:=(Mov.of Hw.out hmd _).trans (s8.mono (fun _ h=> .inl (.inr (.inr (.inl h)))));obtain ⟨Hm7,Hno7,Hmd,Hwd,Hbd,Hgd,Hcon,HOd,Hrd,Hrun,Hsub8,Hm8⟩:=zh12 hm7 hno7 hmd hwd hbd hgd hcon hOd hrd hrun hsub8 hm8;obtain ⟨S8,How8,Hb8,Hg8,HO8,Hcon8,Hmv8⟩:=zh7 s8 how8 hb8 hg8 hO8 hcon8 hmv8;clear hm7 hno7 hmd hwd hbd hgd hcon hOd hrd hrun hsub8 hm8 s8 how8 hb8 hg8 hO8 hcon8 hmv8 hzb
 go_wp2_with fail
 refine g8 [.rd 0,.rd 1,.rd 2,.rd 3,.rd 4,.rd 5,.rd 6,.go 7,.go 8] [0,1,2,3,4,5,6,7] (SuS g t w.heap.size (a.sb t) (a.ib t) (a.tb t) fs na nl.length nc) (by kernel_rfl) (by kernel_rfl) (fun _ _ d _ _ h=>(by cases d<;>exact h)) ?_
 iterate 7 (
  refine l5 rfl ?_ (fun _=>hS) ?_ (fun w0 h0=> ?_) (fun K hK=> ?_)
  ·(try simp only [zz1]);(try simp only [zz2]);(try simp only [zz3]);go_simp;done
  rotate_left
  ·(try simp only [zz1]);(try simp only [zz2]);(try simp only [zz3])
   first
    |(obtain ⟨f0,f1,f2,f3,f4⟩:=h0 rfl;clear h0;go_simp;with_reducible rfl)
    |(clear h0;go_simp;with_reducible rfl)
  (try simp only [zz1]);(try simp only [zz2]);(try simp only [zz3])
  go_simp;refine hK _ ?_;clear hK K)
 refine g7 (g9 rfl ?_ (fun K hK=> ?_))
 ·(try simp only [zz1]);(try simp only [zz2]);(try simp only [zz3]);go_simp;done
 (try simp only [zz1]);(try simp only [zz2]);(try simp only [zz3]);go_simp;refine hK _ _ (fun _ h=>h) ?_;clear hK K;refine g7 (g9 rfl ?_ (fun K hK=> ?_))
 ·(try simp only [zz1]);(try simp only [zz2]);(try simp only [zz3]);go_simp;done
 (try simp only [zz1]);(try simp only [zz2]);(try simp only [zz3]);refine Z2 56 _ _ _ rfl Hrun.out ?_;refine hK _ _ (fun h=>absurd h (by decide)) ?_;clear hK K hS;refine j8 ?_;have hd8:=(Mod.refl (fun _=>False) w8).drew;have hv8:=Mov.of How8.out hd8 (fun _=>False);have how8d:=hv8.owd How8.out (fun h=>h);have hb8d:=Hb8.out.mov How8.out hv8 (fun h=>h) (fun _ h=>h.elim);have hg8d:=hd8.heap Hg8.out (fun h=>h);have hcon8d:=Hcon8.out.mov hv8 (fun h=>h) (by omega);have hO8d:=O.mov HO8.out How8.out hv8 (fun h=>h) (fun _ h=>h.elim);have hr8:=hb8d.rea t ht;rw [BS.setR_at] at hr8;have hia:=b14 w0 w8.drew ow how8d (c+5+t) (a.ib t) (by omega) _ _ hr8.idx (by have:=HR.out.t;show (B.R t).T<=100000;omega) k Hkw.out HkI.out fs na nc nl hcon8d.rd (by have:=HokQ.out.1;have h2:nl.length<=19:=this;omega) (fun c hc=>HokQ.out.2.1 c hc) hfs;rw [Hni.out] at hia;have hS:SuS g t w.heap.size (a.sb t) (a.ib t) (a.tb t) fs na nl.length nc w8.drew:=SuS.at hb8d ht hg8d;have hmv8d:=Hmv8.out.trans (hv8.mono (G:=M1 c t O.tg) (fun _ h=>h.elim));obtain ⟨Hd8,Hv8,How8d,Hb8d,Hg8d,Hcon8d,HO8d,Hr8,Hia,Hmv8d⟩:=zh10 hd8 hv8 how8d hb8d hg8d hcon8d hO8d hr8 hia hmv8d;clear hd8 hv8 how8d hb8d hg8d hcon8d hO8d hr8 hia hmv8d
 go_wp2_with fail
 refine g8 [.rd 0,.rd 1,.rd 2,.rd 3,.rd 4,.rd 5,.go 6] [0,1,2,3,4,5] (SuS g t w.heap.size (a.sb t) (a.ib t) (a.tb t) fs na nl.length nc) (by kernel_rfl) (by kernel_rfl) (fun _ _ d _ _ h=>(by cases d<;>exact h)) ?_
 iterate 6 (
  refine l5 rfl ?_ (fun _=>hS) ?_ (fun w0 h0=> ?_) (fun K hK=> ?_)
  ·(try simp only [zz1]);(try simp only [zz2]);(try simp only [zz3]);go_simp;done
  rotate_left
  ·(try simp only [zz1]);(try simp only [zz2]);(try simp only [zz3])
   first
    |(obtain ⟨f0,f1,f2,f3,f4⟩:=h0 rfl;clear h0;go_simp;with_reducible rfl)
    |(clear h0;go_simp;with_reducible rfl)
  (try simp only [zz1]);(try simp only [zz2]);(try simp only [zz3])
  go_simp;refine hK _ ?_;clear hK K)
 refine g7 (g9 rfl ?_ (fun K hK=> ?_))
 ·(try simp only [zz1]);(try simp only [zz2]);(try simp only [zz3]);go_simp;done
 go_wp2_with fail
 refine Hia.out.mono ?_;rintro e w9 ⟨rfl,ow9,hi9,s9⟩;refine hK _ _ (fun h=>absurd h (by decide)) ?_;clear hK K hS;refine j8 ?_;have how9:=s9.owd How8d.out (by omega)
 have hb9:A1 w9 ow9 c g id near (B.setR t (((B.R t).addS k who (fs,nl)).addI k (fs,nl))) a:=by
  have h1:=Hb8d.out.realm How8d.out ht s9 (fun q hq=> .inr (.inl hq)) (R:=((B.R t).addS k who (fs,nl)).addI k (fs,nl)) ⟨Hr8.out.tab.mov How8d.out s9 (by omega) (by omega) (by omega),hi9,Hr8.out.sub.mov s9 (by omega) (by omega),Hr8.out.snt.mov s9 (by omega) (by omega)⟩;rw [BS.setR_set] at h1;exact h1
 have hwb8:=(zz7 Hg8d.out).1
 have hg9:=s9.md.heap Hg8d.out (fun e=>by
  have h2:ow w.heap.size=c+5+t:=e;rw [Hw.out.zero (Nat.le_refl _)] at h2
  omega)
 have hcon9:=Hcon8d.out.mov s9 (by omega) (by omega);have hO9:=O.mov HO8d.out How8d.out s9 (by omega) (fun q e he=>by have:=HOt.out q he;omega);have hmv9:=Hmv8d.out.trans (s9.mono (G:=M1 c t O.tg) (fun _ h=> .inl (.inr (.inl h))));have hd9:=(Mod.refl (fun _=>False) w9).drew;have hv9:=Mov.of how9 hd9 (fun _=>False);have how9d:=hv9.owd how9 (fun h=>h);have hb9d:=hb9.mov how9 hv9 (fun h=>h) (fun _ h=>h.elim);have hg9d:=hd9.heap hg9 (fun h=>h);have hcon9d:=hcon9.mov hv9 (fun h=>h) (by omega);have hO9d:=O.mov hO9 how9 hv9 (fun h=>h) (fun _ h=>h.elim);have hr9:=hb9d.rea t ht;rw [BS.setR_at] at hr9;have hta:=a6c w0 w9.drew ow9 how9d (c+1+t) (a.tb t) (by omega) _ hr9.tab (by have:=HR.out.n;show (B.R t).N<=100000;omega) (-1) (by decide) fs na nc nl hcon9d.rd (by have:=HokQ.out.1;have h2:nl.length<=19:=this;omega) (fun c hc=>HokQ.out.2.1 c hc) hfs;rw [Hni.out] at hta;have hS:SuS g t w.heap.size (a.sb t) (a.ib t) (a.tb t) fs na nl.length nc w9.drew:=SuS.at hb9d ht hg9d;have hmv9d:=hmv9.trans (hv9.mono (G:=M1 c t O.tg) (fun _ h=>h.elim));obtain ⟨Hi9,S9,How9,Hb9,Hg9,Hcon9,HO9,Hmv9,Hd9,Hv9,How9d,Hb9d⟩:=zh12 hi9 s9 how9 hb9 hg9 hcon9 hO9 hmv9 hd9 hv9 how9d hb9d;obtain ⟨Hg9d,Hcon9d,HO9d,Hr9,Hta,Hmv9d⟩:=zh6 hg9d hcon9d hO9d hr9 hta hmv9d;clear hi9 s9 how9 hb9 hg9 hcon9 hO9 hmv9 hd9 hv9 how9d hb9d hg9d hcon9d hO9d hr9 hta hmv9d hwb8
 go_wp2_with fail
 refine g8 [.rd 0,.rd 1,.rd 2,.rd 3,.rd 4,.go 5] [0,1,2,3,4] (SuS g t w.heap.size (a.sb t) (a.ib t) (a.tb t) fs na nl.length nc) (by kernel_rfl) (by kernel_rfl) (fun _ _ d _ _ h=>(by cases d<;>exact h)) ?_
 iterate 5 (
  refine l5 rfl ?_ (fun _=>hS) ?_ (fun w0 h0=> ?_) (fun K hK=> ?_)
  ·(try simp only [zz1]);(try simp only [zz2]);(try simp only [zz3]);go_simp;done
  rotate_left
  ·(try simp only [zz1]);(try simp only [zz2]);(try simp only [zz3])
   first
    |(obtain ⟨f0,f1,f2,f3,f4⟩:=h0 rfl;clear h0;go_simp;with_reducible rfl)
    |(clear h0;go_simp;with_reducible rfl)
  (try simp only [zz1]);(try simp only [zz2]);(try simp only [zz3])
  go_simp;refine hK _ ?_;clear hK K)
 refine g7 (g9 rfl ?_ (fun K hK=> ?_))
 ·(try simp only [zz1]);(try simp only [zz2]);(try simp only [zz3]);go_simp;done
 go_wp2_with fail
 refine Hta.out.mono ?_;rintro e w10 ⟨rfl,ow10,ht10,s10⟩;refine hK _ _ (fun h=>absurd h (by decide)) ?_;clear hK K hS;refine j8 ?_;have how10:=s10.owd How9d.out (by omega)
 have hb10:A1 w10 ow10 c g id near (B.setR t ((B.R t).sub k who (fs,nl))) a:=by
  have h1:=Hb9d.out.realm How9d.out ht s10 (fun q hq=> .inl hq) (R:=(B.R t).sub k who (fs,nl)) (a1e.tadd ht10 (Hr9.out.idx.mov How9d.out s10 (by omega) (by omega) (by omega)) (Hr9.out.sub.mov s10 (by omega) (by omega)) (Hr9.out.snt.mov s10 (by omega) (by omega)));rw [BS.setR_set] at h1;exact h1
 have hO10:=O.mov HO9d.out How9d.out s10 (by omega) (fun q e he=>by have:=HOt.out q he;omega);have hmv10:=Hmv9d.out.trans (s10.mono (G:=M1 c t O.tg) (fun _ h=> .inl (.inl h)));have hRt:(B.setR t ((B.R t).sub k who (fs,nl))).R t=(B.R t).sub k who (fs,nl):=BS.setR_at _ _ _;obtain ⟨e1,e2, -, -, -⟩:=(((B.R t).addS k who (fs,nl)).addI k (fs,nl)).tadd_eq (-1) (fs,nl);have hN:((B.R t).sub k who (fs,nl)).N<=1000:=Nat.le_trans (RS.tadd_n _ _ _) (by have:=HR.out.n;show (B.R t).N+1<=1000;omega);have hMlen:((B.R t).sub k who (fs,nl)).M.length<=1000000:=Nat.le_trans (C1.len ht10) (Nat.le_trans hN (by decide));have hGG:((B.R t).sub k who (fs,nl)).G=(B.R t).G:=e1;have hlen:=N8 (near:=near) HR.out.g.len hMlen t
 have href:=a0N w0 w10 ow10 c g id near (B.setR t ((B.R t).sub k who (fs,nl))) how10 ⟨a,hb10⟩ q O s hO10 HOt.out t ht (by rw [hRt,hGG];have:near.length*(2*1000000)<=1000*(2*1000000):=Nat.mul_le_mul_right _ hnl;omega) hnl Hnw.out Hto.out (by rw [hRt];exact hN) (by rw [hRt];show ((B.R t).sub k who (fs,nl)).K<=1000000;rw [show ((B.R t).sub k who (fs,nl)).K=(B.R t).K from e2];exact HR.out.k) (by rw [hRt,hGG];exact HR.out.g)
  (by rw [hRt];exact a4Z (RS.tadd_m (R:=((B.R t).addS k who (fs,nl)).addI k (fs,nl)) HR.out.m (-1) HokN.out))
 obtain ⟨Ht10,S10,How10,Hb10,HO10,Hmv10,HRt,HGG,Hlen,Href⟩:=zh10 ht10 s10 how10 hb10 hO10 hmv10 hRt hGG hlen href;clear ht10 s10 how10 hb10 hO10 hmv10 hRt hGG hlen href e1 e2 hN hMlen
 go_wp2_with fail
 refine Href.out.mono ?_;rintro e w11 ⟨rfl,ow11,hb11,hO11,hm11⟩;rw [BS.told_set] at hb11;rw [HRt.out,HGG.out] at hO11;have hmv11:=Hmv10.out.trans (hm11.mono (G:=M1 c t O.tg) (fun q h=>h.elim (fun h=> .inl (.inr (.inr (.inr h)))) (fun h=> .inr h)));obtain ⟨Hb11,HO11,Hm11,Hmv11⟩:=zh4 hb11 hO11 hm11 hmv11;clear hb11 hO11 hm11 hmv11
 go_wp2
 go_ret;refine ⟨by rw [HE0.out];rfl,ow11, ?_, ?_,Hmv11.out⟩
 ·unfold BS.subB;rw [if_pos HE0.out,Hnl.out];exact Hb11.out
 unfold BS.subS;rw [if_pos HE0.out,Hnl.out];exact HO11.out
structure B7 (R:RS) (j:Nat):Prop where
 n:R.N<=j
 t:R.T<=20*j
 k:R.K<=2*j
 m:∀p∈R.M,okN p.2
 s:R.S.length<=8
 sf:∀p∈R.S,okN p.2.2
 si:∀p∈R.S,0<=p.1/\p.1<j
 is:R.I=R.S.map fun p=>(p.1,p.2.2)
 g:∀n,R.G n=if n=1\/n=2 then x6 R.M n else []
theorem B7.zero:B7 RS.zero 0:=⟨Nat.le_refl _,Nat.le_refl _,Nat.le_refl _,fun p hp=>(by cases hp),(by decide),fun p hp=>(by cases hp),fun p hp=>(by cases hp),rfl,fun n=>(by
 show []=if n=1\/n=2 then x6 [] n else []
 rw [List.eq_nil_of_length_eq_zero (Nat.le_zero.1 (W3 [] n))]
 split<;>rfl)⟩
theorem B7.mono {R:RS} {j k:Nat} (h:B7 R j) (hk:j<=k):B7 R k:=by
 have h1:=h.n;have h2:=h.t;have h3:=h.k;exact ⟨by omega,by omega,by omega,h.m,h.s,h.sf,fun p hp=>⟨(h.si p hp).1,by have:=(h.si p hp).2;omega⟩,h.is,h.g⟩
theorem a7H {M:List (Int×Fil)} {G:Int->List Fil} (h:∀n,¬(n=1\/n=2)->G n=[]) (n:Int):C6 M [1,2] G n=if n=1\/n=2 then x6 M n else []:=by
 by_cases hn:n=1\/n=2
 ·rw [if_pos hn];exact a1c (by simpa using hn)
 rw [if_neg hn,a0i (by simpa using hn)];exact h n hn
theorem B7.none {R:RS} {j:Nat} (h:B7 R j):y8 R.S j=Option.none/\q8 R.I j=Option.none:=by
 have h1:y8 R.S j=Option.none:=by
  unfold y8;rw [Option.map_eq_none_iff,List.find?_eq_none];intro p hp e;have:=(h.si p hp).2;have e2:p.1=(j:Int):=by simpa using e
  omega
 refine ⟨h1, ?_⟩;unfold q8;rw [Option.map_eq_none_iff,List.find?_eq_none,h.is];intro p hp e;obtain ⟨q,hq,rfl⟩:=List.mem_map.1 hp;have:=(h.si q hq).2;have e2:q.1=(j:Int):=by simpa using e
 omega
theorem B7.go {R:RS} {j:Nat} (h:B7 R j) (hj:j<=900) {w:World} {ow:Ow} {c b:Nat} (hT:C1 w ow c b R.M R.N):R.Go:=by
 have h1:=h.n;have h2:=h.t;have h3:=h.k;have h4:=C1.len hT
 have hq:∀p∈R.M,okQ p.2:=fun p hp=>by
  obtain ⟨mo,hat⟩:=hT;exact ⟨(hat.wf _ hp).2.1,(hat.wf _ hp).2.2,hat.sc _ hp⟩
 refine ⟨by omega,by omega,by omega,⟨fun n=> ?_,fun n q hn=> ?_⟩,h.m,by have:=h.s;omega⟩
 ·rw [h.g];split
  ·have:=W3 R.M n;omega
  exact Nat.zero_le _
 rw [h.g] at hn;split at hn
 ·exact a4V hq n q hn
 ·cases hn
theorem B7.tadd {R:RS} {j:Nat} (h:B7 R j) (frm:Int) {f:Fil} (hf:okN f):B7 ((R.tadd frm f).refr [1,2]) (j+1):=by
 obtain ⟨e1,e2,e3,e4,e5⟩:=R.tadd_eq frm f;have h1:=h.n;have h2:=h.t;have h3:=h.k;have h4:=R.tadd_n frm f;refine ⟨?_, ?_, ?_,RS.tadd_m h.m frm hf, ?_, ?_, ?_, ?_,fun n=> ?_⟩
 ·show (R.tadd frm f).N<=j+1;omega
 ·show (R.tadd frm f).T<=_;rw [e5];omega
 ·show (R.tadd frm f).K+2<=_;rw [e2];omega
 ·show (R.tadd frm f).S.length<=8;rw [e3];exact h.s
 ·show∀p∈(R.tadd frm f).S,okN p.2.2;rw [e3];exact h.sf
 ·show∀p∈(R.tadd frm f).S,0<=p.1/\p.1<(j+1:Nat);rw [e3];exact fun p hp=>⟨(h.si p hp).1,by have:=(h.si p hp).2;omega⟩
 ·show (R.tadd frm f).I=(R.tadd frm f).S.map _;rw [e3,e4];exact h.is
 show C6 (R.tadd frm f).M [1,2] (R.tadd frm f).G n=_;rw [e1];exact a7H (fun m hm=>by rw [h.g,if_neg hm]) n
theorem B7.trem {R:RS} {j:Nat} (h:B7 R j) (frm:Int) (f:Fil):B7 ((R.trem frm f).refr [1,2]) (j+1):=by
 have h1:=h.n;have h2:=h.t;have h3:=h.k;refine ⟨?_, ?_, ?_,a3v h.m frm _,h.s,h.sf,fun p hp=>⟨(h.si p hp).1,by have:=(h.si p hp).2;omega⟩,h.is,fun n=>a7H (fun m hm=>by show R.G m=[];rw [h.g,if_neg hm]) n⟩
 ·show R.N<=j+1;omega
 ·show R.T<=_;omega
 show R.K+2<=_;omega
theorem B7.hear {R:RS} {j:Nat} (h:B7 R j) (frm:Int) {f:Fil} (hf:okN f) (on:Bool):B7 ((R.hear frm f on).refr [1,2]) (j+1):=by
 cases on with
 |true=>exact h.tadd frm hf
 |false=>exact h.trem frm f
theorem B7.addSI {R:RS} {j:Nat} (h:B7 R j) (who:ByteArray) {f:Fil} (hf:okN f):(∀p∈((R.addS j who f).addI j f).S,okN p.2.2)/\(∀p∈((R.addS j who f).addI j f).S,0<=p.1/\p.1<(j+1:Nat))/\((R.addS j who f).addI j f).I=((R.addS j who f).addI j f).S.map fun p=>(p.1,p.2.2):=by
 refine ⟨fun p hp=> ?_,fun p hp=> ?_, ?_⟩
 ·rcases zz14 hp with hp|hp
  ·exact h.sf p hp
  rw [List.mem_singleton.1 hp];exact hf
 ·rcases zz14 hp with hp|hp
  ·exact ⟨(h.si p hp).1,by have:=(h.si p hp).2;omega⟩
  rw [List.mem_singleton.1 hp];exact ⟨by show (0:Int)<=j;omega,by show (j:Int)<(j+1:Nat);omega⟩
 show R.I++[((j:Int),f)]=(R.S++[((j:Int),who,f)]).map _;rw [List.map_append,h.is];rfl
theorem B7.sub {R:RS} {j:Nat} (h:B7 R j) (h8:R.S.length≠8) (who:ByteArray) {f:Fil} (hf:okN f):B7 ((R.sub j who f).refr [1,2]) (j+1):=by
 obtain ⟨a1,a2,a3⟩:=h.addSI who hf;obtain ⟨Q,hQ⟩:∃Q,(R.addS j who f).addI j f=Q:=⟨_,rfl⟩;have qn:Q.N=R.N:=by rw [<-hQ];rfl
 have qt:Q.T=R.T+20:=by rw [<-hQ];rfl
 have qk:Q.K=R.K:=by rw [<-hQ];rfl
 have qm:Q.M=R.M:=by rw [<-hQ];rfl
 have qg:Q.G=R.G:=by rw [<-hQ];rfl
 have qs:Q.S.length=R.S.length+1:=by rw [<-hQ];show (R.S++[_]).length=_;rw [zz4];rfl
 rw [hQ] at a1 a2 a3;have e0:R.sub j who f=Q.tadd (-1) f:=by rw [<-hQ];rfl
 rw [e0];obtain ⟨e1,e2,e3,e4,e5⟩:=Q.tadd_eq (-1) f;have h1:=h.n;have h2:=h.t;have h3:=h.k;have h5:=h.s;have h4:=Q.tadd_n (-1) f;refine ⟨?_, ?_, ?_,RS.tadd_m (by rw [qm];exact h.m) _ hf, ?_, ?_, ?_, ?_,fun n=> ?_⟩
 ·show (Q.tadd (-1) f).N<=j+1;omega
 ·show (Q.tadd (-1) f).T<=_;rw [e5];omega
 ·show (Q.tadd (-1) f).K+2<=_;rw [e2];omega
 ·show (Q.tadd (-1) f).S.length<=8;rw [e3];omega
 ·show∀p∈(Q.tadd (-1) f).S,okN p.2.2;rw [e3];exact a1
 ·show∀p∈(Q.tadd (-1) f).S,0<=p.1/\p.1<(j+1:Nat);rw [e3];exact a2
 ·show (Q.tadd (-1) f).I=(Q.tadd (-1) f).S.map _;rw [e3,e4];exact a3
 show C6 (Q.tadd (-1) f).M [1,2] (Q.tadd (-1) f).G n=_;rw [e1,qg];exact a7H (fun m hm=>by rw [h.g,if_neg hm]) n
def X6 (B:BS) (j:Nat):Prop:=∀t,t<4->B7 (B.R t) j
theorem X6.set {B:BS} {j k:Nat} (h:X6 B j) (hk:j<=k) {t:Nat} {R:RS} (hR:B7 R k):X6 (B.setR t R) k:=fun i hi=>by
 by_cases e:i=t
 ·subst e;rw [BS.setR_at];exact hR
 rw [BS.setR_ne _ _ e];exact (h i hi).mono hk
theorem X6.take {B:BS} {j:Nat} (h:X6 B j) {t:Nat} (ht:t<4) (frm:Int) {f:Fil} (hf:okN f) (on:Bool):X6 (B.takeB [1,2] t frm f on) (j+1):=by
 unfold BS.takeB;split
 ·exact h.set (Nat.le_succ _) ((h t ht).hear frm hf on)
 exact fun i hi=>(h i hi).mono (Nat.le_succ _)
theorem X6.sub {B:BS} {j:Nat} (h:X6 B j) {t:Nat} (ht:t<4) (id:Int) (who fs:ByteArray) {fl:List Cnd} (hf:j5 fs fl=true->okN (fs,j2 fl)):X6 (B.subB id [1,2] t who j fs fl) (j+1):=by
 unfold BS.subB;split
 ·rename_i h0
  unfold BS.subE at h0;split at h0
  ·rename_i hr
   split at h0
   ·split at h0
    ·split at h0
     ·cases h0
     rename_i h8
     exact h.set (Nat.le_succ _) ((h t ht).sub h8 who (hf hr))
    ·cases h0
   ·cases h0
  ·cases h0
 exact fun i hi=>(h i hi).mono (Nat.le_succ _)
theorem BS.takeB_L (B:BS) (near:List Int) (t:Nat) (frm:Int) (f:Fil) (on:Bool):(B.takeB near t frm f on).L=B.L:=by
 unfold BS.takeB;split<;>rfl
theorem BS.subB_L (B:BS) (id:Int) (near:List Int) (t:Nat) (who:ByteArray) (k:Int) (fs:ByteArray) (fl:List Cnd):(B.subB id near t who k fs fl).L=B.L:=by
 unfold BS.subB;split<;>rfl
structure C2 (w wr:World) (owr:Ow) (g q:Nat) (P:List PRu) (B:BS) (j:Nat) (S:List Sd) (H:List Hn):Prop where
 ow:Owd w wr owr
 br:Bro wr owr 2 g 0 [1,2] B
 L:B.L=P
 R:X6 B j
 O:OtI wr owr 40 q S H
 cnt:S.length+H.length<=j*4000000+1000000
 md:Mod (fun _=>False) w wr
theorem C2.go {w wr:World} {owr:Ow} {g q:Nat} {P:List PRu} {B:BS} {j:Nat} {S:List Sd} {H:List Hn} (h:C2 w wr owr g q P B j S H) (hj:j<=900) (t:Nat) (ht:t<4):RS.Go (B.R t):=by
 obtain ⟨a,hb⟩:=h.br;exact (h.R t ht).go hj (hb.rea t ht).tab
theorem C2.low {w wr:World} {owr:Ow} {g q:Nat} {P:List PRu} {B:BS} {j:Nat} {S:List Sd} {H:List Hn} (h:C2 w wr owr g q P B j S H) (t:Nat) (ht:t<4):(B.R t).M.length<=(B.R t).N:=by
 obtain ⟨a,hb⟩:=h.br;exact C1.len (hb.rea t ht).tab
theorem C2.mod {w wr w':World} {owr:Ow} {g q:Nat} {P:List PRu} {B:BS} {j:Nat} {S:List Sd} {H:List Hn} (h:C2 w wr owr g q P B j S H) (hm:Mod (fun _=>False) wr w'):C2 w w' owr g q P B j S H:=
 have s:=Mov.of h.ow hm (fun _=>False)
 ⟨s.owd h.ow (fun h=>h),h.br.mov h.ow s (fun h=>h) (fun _ h=>h.elim),h.L,h.R,h.O.mov s (fun h=>h) (fun h=>h),h.cnt,h.md.trans hm (fun _ _ h=>h)⟩
theorem a1l:∀n∈([1,2]:List Int),(Lit.int .i64 n).wf=true:=by decide
theorem RS.hear_M (R:RS) (frm:Int) (f:Fil) (on:Bool):(R.hear frm f on).M.length<=R.M.length+1/\(R.hear frm f on).G=R.G:=by
 cases on with
 | true=>
  refine ⟨?_,(R.tadd_eq frm f).1⟩;show (R.tadd frm f).M.length<=_;unfold RS.tadd;split
  ·show (R.M++[_]).length<=_;rw [zz4];exact Nat.le_refl _
  ·exact Nat.le_succ _
 |false=>
  refine ⟨Nat.le_trans (List.length_filter_le _ _) (Nat.le_succ _),rfl⟩
theorem BS.takeS_len {B:BS} {t:Nat} (hR:RS.Go (B.R t)) (hM:(B.R t).M.length<=(B.R t).N) (frm:Int) (f:Fil) (on:Bool):(B.takeS [1,2] t frm f on).length<=4000000:=by
 unfold BS.takeS;split
 ·obtain ⟨h1, -⟩:=(B.R t).hear_M frm f on;exact N8 (near:=[1,2]) hR.g.len (by have:=hR.n;omega) t
 exact Nat.zero_le _
theorem BS.subS_len {B:BS} {t:Nat} (hR:RS.Go (B.R t)) (hM:(B.R t).M.length<=(B.R t).N) (id:Int) (who:ByteArray) (k:Int) (fs:ByteArray) (fl:List Cnd):(B.subS id [1,2] t who k fs fl).length<=4000000:=by
 unfold BS.subS;split
 ·obtain ⟨h1, -⟩:=(((B.R t).addS k who (fs,j2 fl)).addI k (fs,j2 fl)).hear_M (-1) (fs,j2 fl) true;exact N8 (near:=[1,2]) hR.g.len (by have:=hR.n;have h2:((B.R t).sub k who (fs,j2 fl)).M.length<=(B.R t).M.length+1:=h1;omega) t
 exact Nat.zero_le _
theorem C2.take {w wr:World} {owr:Ow} {g q:Nat} {P:List PRu} {B:BS} {j:Nat} {S:List Sd} {H:List Hn} (h:C2 w wr owr g q P B j S H) (hj:j<=40) (t:Nat) (ht:t<4) (frm:Int) (hfw:(Lit.int .i64 frm).wf=true) (on:Bool)
 (x:Mv) (hk:x.m.kind=tkK on) (hf:j0 wr 7 (.slice x.fa x.m.fl.length x.fc) x.m.fl.length (l6 x.m.fl)) (hfr:j5 x.m.fs x.m.fl=true) (hft:∀c∈x.m.fl,c.fits):
 Calls Tryz.prog 26 #[.pointer (some ⟨g,0,none⟩),.iface 43 (.pointer (some ⟨q,0,none⟩)),.int .i64 frm,.int .i64 t,.agg x.cells.toArray] wr fun e w'=>e= .returned (.bool true)/\
  ∃ow',C2 w w' ow' g q P (B.takeB [1,2] t frm (x.m.fs,j2 x.m.fl) on) (j+1) (S++B.takeS [1,2] t frm (x.m.fs,j2 x.m.fl) on) H/\Mov (M1 2 t (fun t=>t=40)) wr owr w' ow':=by
 have hR:=h.go (by omega) t ht;have hl:=BS.takeS_len hR (h.low t ht) frm (x.m.fs,j2 x.m.fl) on;have hc:=h.cnt;refine (b17 on w wr owr h.ow 2 g 0 [1,2] B h.br (by decide) a1l t ht q (I8 w q 40 (by omega)) (S,H) h.O (fun t ht=>by have h':t=40:=ht;omega) (fun _ _=>trivial) (by show S.length+H.length<=_;omega) hR frm hfw x hk hf hfr hft).mono ?_;rintro e w' ⟨he,ow',hb,hO,hm⟩;rw [a0k] at hO
 have h0:¬M1 2 t (fun t=>t=40) 0:=fun h=>by
  rcases h with h|h
  ·omega
  ·cases h
 exact ⟨he,ow',⟨hm.owd h.ow h0,hb,by rw [BS.takeB_L];exact h.L,h.R.take ht frm (a4Y hfr hft) on,hO,by rw [zz4];omega,hm.mod0 h.ow h.md h0⟩,hm⟩
theorem C2.take1 {w wr:World} {owr:Ow} {g q:Nat} {P:List PRu} {B:BS} {j:Nat} {S:List Sd} {H:List Hn} (h:C2 w wr owr g q P B j S H) (hj:j<=40) (t:Nat) (ht:t<4) (frm:Int) (hfw:(Lit.int .i64 frm).wf=true)
 {fs:ByteArray} {fa:Option Addr} {fc:Nat} {fl:List Cnd} (hf:j0 wr 7 (.slice fa fl.length fc) fl.length (l6 fl)) (hfr:j5 fs fl=true) (hft:∀c∈fl,c.fits):
 Calls Tryz.prog 26 #[.pointer (some ⟨g,0,none⟩),.iface 43 (.pointer (some ⟨q,0,none⟩)),.int .i64 frm,.int .i64 t,.agg #[.int .i64 1,.int .i64 0,.int .i64 0,.int .i64 0,.string ⟨#[]⟩,.int .i64 0,.string ⟨#[]⟩,.slice none 0 0,.string ⟨#[]⟩,.int .i64 0,
  .string fs,.slice fa fl.length fc,.string ⟨#[]⟩,.slice none 0 0,.int .i64 0,.string ⟨#[]⟩,.int .i64 0]] wr fun e w'=>e= .returned (.bool true)/\
  ∃ow',C2 w w' ow' g q P (B.takeB [1,2] t frm (fs,j2 fl) true) (j+1) (S++B.takeS [1,2] t frm (fs,j2 fl) true) H/\Mov (M1 2 t (fun t=>t=40)) wr owr w' ow':=
 h.take hj t ht frm hfw true ⟨Mg.sub (fs,fl),none,0,fa,fc,none,0⟩ rfl hf hfr hft
theorem C2.next {w wr:World} {owr:Ow} {g q:Nat} {P:List PRu} {B:BS} {j:Nat} {S:List Sd} {H:List Hn} (h:C2 w wr owr g q P B j S H):C2 w wr owr g q P B (j+1) S H:=
 ⟨h.ow,h.br,h.L,fun t ht=>(h.R t ht).mono (Nat.le_succ _),h.O,Nat.le_trans h.cnt (Nat.add_le_add_right (Nat.mul_le_mul_right _ (Nat.le_succ _)) _),h.md⟩
theorem C2.sub {w wr:World} {owr:Ow} {g q:Nat} {P:List PRu} {B:BS} {j:Nat} {S:List Sd} {H:List Hn} (h:C2 w wr owr g q P B j S H) (hP:P.length<=40) (hj:j<=40) (t:Nat) (ht:t<4) (who:ByteArray)
 (fs:ByteArray) (fa:Option Addr) (fc:Nat) (fl:List Cnd) (hf:j0 wr 7 (.slice fa fl.length fc) fl.length (l6 fl)) (hfs:fs.size<=1000000) (hfl:fl.length<=1000) (hft:∀c∈fl,c.fits):
 Calls Tryz.prog 27 #[.pointer (some ⟨g,0,none⟩),.iface 43 (.pointer (some ⟨q,0,none⟩)),.int .i64 t,.string who,.int .i64 j,.agg #[.string fs,.slice fa fl.length fc]] wr fun e w'=>e= .returned (.int .i64 (B.subE 0 t who fs fl))/\
  ∃ow',C2 w w' ow' g q P (B.subB 0 [1,2] t who j fs fl) (j+1) (S++B.subS 0 [1,2] t who j fs fl) H/\Mov (M1 2 t (fun t=>t=40)) wr owr w' ow':=by
 have hR:=h.go (by omega) t ht;have hl:=BS.subS_len hR (h.low t ht) 0 who j fs fl;have hc:=h.cnt;obtain ⟨hn1,hn2⟩:=(h.R t ht).none;refine (a40 w wr owr h.ow 2 g 0 [1,2] B h.br (by rw [h.L];exact hP) (by decide) a1l t ht q (I8 w q 40 (by omega)) (S,H) h.O (fun t ht=>by have h':t=40:=ht;omega) (fun _ _=>trivial) (by show S.length+H.length<=_;omega) hR who j (b1p ⟨by omega,by omega⟩) hn1 hn2 fs fa fc fl hf hfs hfl hft).mono ?_;rintro e w' ⟨he,ow',hb,hO,hm⟩;rw [a0k] at hO
 have h0:¬M1 2 t (fun t=>t=40) 0:=fun h=>by
  rcases h with h|h
  ·omega
  ·cases h
 exact ⟨he,ow',⟨hm.owd h.ow h0,hb,by rw [BS.subB_L];exact h.L,h.R.sub ht 0 who fs (fun hr=>a4Y hr hft),hO,by rw [zz4];omega,hm.mod0 h.ow h.md h0⟩,hm⟩
theorem GOk.none {G:Int->List Fil} (h:GOk G) (n:Int):GOk (S6 G n []):=by
 refine ⟨fun m=> ?_,fun m q hq=> ?_⟩
 ·unfold S6;split
  ·exact Nat.zero_le _
  exact h.len m
 unfold S6 at hq;split at hq
 ·cases hq
 exact h.ok m q hq
theorem A1.drop {w0 w w':World} {ow:Ow} {c g:Nat} {id:Int} {near:List Int} {B:BS} {a:BAd} (h:A1 w ow c g id near B a) (hw:Owd w0 w ow) {t:Nat} (ht:t<4) {M:List (Int×Fil)} (hT:C1 w' ow (c+1+t) (a.tb t) M (B.R t).N) (s:Mov (fun q=>q=c+1+t) w ow w' ow):
 A1 w' ow c g id near (B.setR t {B.R t with M:=M}) a:=by
 have hr:=h.rea t ht;have hc:=h.c2;exact h.realm hw ht s (fun q hq=> .inl hq) ⟨hT,hr.idx.mov hw s (by omega) (by omega) (by omega),hr.sub.mov s (by omega) (by omega),hr.snt.mov s (by omega) (by omega)⟩
theorem a7I (w0 w:World) (ow:Ow) (c g:Nat) (id:Int) (near:List Int) (B:BS) (a:BAd) (hw:Owd w0 w ow) (h:A1 w ow c g id near B a) (q:Nat) (O:x7 w0 q) (s:O.σ) (hO:O.inv w ow s) (hOt:∀t,O.tg t->t<c\/c+18<=t) (t:Nat) (ht:t<4)
 (hcnt:O.cnt s<=300000000000) (hnl:near.length<=1000) (hnw:∀n∈near,(Lit.int .i64 n).wf=true) (hto:∀n∈near,O.okTo n t) (hR:RS.Go (B.R t)):
 Calls Tryz.prog 59 #[.pointer (some ⟨g,0,none⟩),.iface 43 (.pointer (some ⟨q,0,none⟩)),.int .i64 t] w (a3t O w ow c g id near B t s)/\(q9 (B.R t).M t near (B.R t).G).length<=2000000000:=by
 have hMl:(B.R t).M.length<=1000000:=Nat.le_trans (C1.len (h.rea t ht).tab) (by have:=hR.n;omega);have hlen:=N8 (near:=near) hR.g.len hMl t;have hl2:near.length*(2*1000000)<=1000*(2*1000000):=Nat.mul_le_mul_right _ hnl;exact ⟨a0N w0 w ow c g id near B hw ⟨a,h⟩ q O s hO hOt t ht (by omega) hnl hnw hto (by have:=hR.n;omega) hR.k hR.g (a4Z hR.m),by omega⟩
end
end Go.Proofs.YtaenebdppkjhoaaGreatDoor
