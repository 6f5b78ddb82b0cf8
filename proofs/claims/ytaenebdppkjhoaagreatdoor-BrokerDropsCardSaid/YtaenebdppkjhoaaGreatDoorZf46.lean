/- Lemmas. -/
import Derived.Test.YtaenebdppkjhoaaGreatDoorZf44
import Derived.Test.YtaenebdppkjhoaaGreatDoorZf45
namespace Go.Proofs.YtaenebdppkjhoaaGreatDoor
set_option maxRecDepth 20000
set_option maxHeartbeats 40000000
section
open Go.RowKit
theorem a4x:∀a b:List UInt8,Lib.compareBytes b a= - Lib.compareBytes a b
 |[],[]=>by simp [Lib.compareBytes]
 |[],b::t=>by simp [Lib.compareBytes]
 |a::s,[]=>by simp [Lib.compareBytes]
 | a::s,b::t=>by
  rw [a0Z,a0Z,a4x s t];by_cases h:a<b
  ·have h2:¬b<a:=fun h3=>absurd (UInt8.lt_trans h h3) (UInt8.lt_irrefl a);simp [h,h2]
  by_cases h2:b<a
  ·simp [h,h2]
  simp [h,h2]
theorem b1a {a b:Cnd} (h:ltC a b=true):ltC b a=false:=by
 unfold ltC a4g at*;rw [decide_eq_true_eq] at h;rw [decide_eq_false_iff_not,a4x];omega
theorem a6W {a b c:Cnd} (h1:ltC a b=false) (h2:ltC b c=false):ltC a c=false:=by
 unfold ltC a4g at*;rw [decide_eq_false_iff_not] at*;intro h3;have h4:Lib.compareBytes b.prt a.prt<0\/Lib.compareBytes a.prt b.prt=0:=by rw [a4x];omega
 rcases h4 with h4|h4
 ·exact h2 ((X4 _ _).2 (a0u _ _ _ ((X4 _ _).1 h4) ((X4 _ _).1 h3)))
 rw [(a2Z _ _).1 h4] at h3;exact h2 h3
theorem a5C {x:Cnd} {r:List Cnd} (h:r.Pairwise fun a b=>ltC a b=false):(M9 ltC x r).Pairwise fun a b=>ltC a b=false:=by
 induction r with
 |nil=>exact List.pairwise_singleton _ _
 | cons y r ih=>
  rw [List.pairwise_cons] at h;unfold M9
  cases hl:ltC x y with
  |true=>
   rw [if_pos rfl,List.pairwise_cons];refine ⟨fun z hz=> ?_,ih h.2⟩;rcases List.mem_cons.1 ((a1C ltC x r).mem_iff.1 hz) with rfl|hz
   ·exact b1a hl
   ·exact h.1 z hz
  |false=>
   rw [if_neg (by decide),List.pairwise_cons];refine ⟨fun z hz=> ?_,List.pairwise_cons.2 h⟩;rcases List.mem_cons.1 hz with rfl|hz
   ·exact hl
   exact a6W hl (h.1 z hz)
theorem a6X (l:List Cnd):(A6 ltC l).Pairwise fun a b=>ltC b a=false:=by
 suffices∀r:List Cnd,(A6 ltC r.reverse).Pairwise fun a b=>ltC b a=false by
  have:=this l.reverse;rwa [List.reverse_reverse] at this
 intro r
 induction r with
 |nil=>exact List.Pairwise.nil
 |cons x r ih=>
  rw [List.reverse_cons,S7];unfold a2i;rw [List.pairwise_reverse];exact a5C (List.pairwise_reverse.2 ih)
theorem a6Y {l:List Cnd} (h:l.Pairwise fun a b=>ltC b a=false):A6 ltC l=l:=by
 suffices∀r:List Cnd,(r.reverse.Pairwise fun a b=>ltC b a=false)->A6 ltC r.reverse=r.reverse by
  have:=this l.reverse;rw [List.reverse_reverse] at this;exact this h
 intro r
 induction r with
 |nil=>intro _;rfl
 | cons x r ih=>
  intro h;rw [List.reverse_cons] at h⊢;have h1:=List.pairwise_append.1 h;rw [S7,ih h1.1];unfold a2i;rw [List.reverse_reverse]
  cases r with
  |nil=>rfl
  |cons y r=>
   have h2:=h1.2.2 y (by simp) x (by simp);unfold M9;rw [if_neg (by rw [h2];decide)];simp
theorem b4i (s:List Cnd) (k:Nat):(s.zipIdx k).Pairwise fun p q=>p.2<q.2:=by
 induction s generalizing k with
 |nil=>exact List.Pairwise.nil
 |cons c s ih=>
  rw [List.zipIdx_cons,List.pairwise_cons];refine ⟨fun q hq=> ?_,ih (k+1)⟩;have:=List.mem_zipIdx hq;omega
theorem U6 (s:List Cnd):x7 s s.length=(s.zipIdx.filter fun p=> !O6 s p.2 p.1).map Prod.fst:=by
 unfold x7;rw [List.take_length]
 generalize s.zipIdx=z
 induction z with
 |nil=>rfl
 |cons p z ih=>
  rw [List.filterMap_cons,List.filter_cons];cases h:O6 s p.2 p.1
  ·simp [ih]
  simp [ih]
theorem a6Z {s:List Cnd} {i:Nat} {c:Cnd} (h:(x7 s s.length)[i]? =some c):O6 (x7 s s.length) i c=false:=by
 rw [U6] at*;have hp:(s.zipIdx.filter fun p=> !O6 s p.2 p.1).Pairwise fun p q=>p.2<q.2:=(b4i s 0).filter _;obtain ⟨Z,hZ⟩:∃Z,(s.zipIdx.filter fun p=> !O6 s p.2 p.1)=Z:=⟨_,rfl⟩
 have hm:∀p∈Z,s[p.2]? =some p.1/\O6 s p.2 p.1=false:=fun p hp=>by
  rw [<-hZ] at hp;obtain ⟨h1,h2⟩:=List.mem_filter.1 hp;exact ⟨List.mem_zipIdx_iff_getElem?.1 h1,by simpa using h2⟩
 rw [hZ] at h hp⊢;rw [List.getElem?_map,Option.map_eq_some_iff] at h;obtain ⟨⟨c',j⟩,hi,rfl⟩:=h;have hj:=hm _ (zz8 hi)
 cases hn:O6 (Z.map Prod.fst) i c' with
 |false=>rfl
 | true=>
  unfold O6 at hn;obtain ⟨⟨d,k⟩,hk,hna⟩:=List.any_eq_true.1 hn;have hk:=List.mem_zipIdx_iff_getElem?.1 hk;simp only at hk hna;rw [List.getElem?_map,Option.map_eq_some_iff] at hk;obtain ⟨⟨d',m⟩,hk2,rfl⟩:=hk;have hmm:=hm _ (zz8 hk2);obtain ⟨li,ei⟩:=zz6 hi;obtain ⟨lk,ek⟩:=zz6 hk2
  have o1:k<i->m<j:=fun h=>by
   have:=List.pairwise_iff_getElem.1 hp k i lk li h;rw [ei,ek] at this;exact this
  have o2:i<k->j<m:=fun h=>by
   have:=List.pairwise_iff_getElem.1 hp i k li lk h;rw [ei,ek] at this;exact this
  have:O6 s j c'=true:=by
   unfold O6;refine List.any_eq_true.2 ⟨(d',m),List.mem_zipIdx_iff_getElem?.2 hmm.1, ?_⟩;unfold a2B at hna⊢;simp only [Bool.and_eq_true,Bool.or_eq_true,decide_eq_true_eq] at hna⊢;exact ⟨by omega,hna.2.1,hna.2.2.imp_left o1⟩
  rw [hj.2] at this;cases this
theorem a60 {t:List Cnd} (h:∀i c,t[i]? =some c->O6 t i c=false):x7 t t.length=t:=by
 rw [U6,List.filter_eq_self.2 (fun p hp=>by rw [h p.2 p.1 (List.mem_zipIdx_iff_getElem?.1 hp)];rfl)];exact List.zipIdx_map_fst ..
theorem a2V (l:List Cnd):j1 (j1 l)=j1 l:=by
 obtain ⟨t,ht⟩:∃t,j1 l=t:=⟨_,rfl⟩;have e:t=x7 (L4 l) (L4 l).length:=by rw [<-ht,a1g];rfl
 have hs:t.Pairwise fun a b=>ltC b a=false:=by
  rw [e,U6];have h1:((L4 l).zipIdx.map Prod.fst)=L4 l:=List.zipIdx_map_fst ..;have h2:=a6X (l.map Cnd.norm);rw [show A6 ltC (l.map Cnd.norm)=L4 l from rfl,<-h1] at h2;exact List.pairwise_map.2 ((List.pairwise_map.1 h2).filter _)
 have hn:t.map Cnd.norm=t:=by
  refine List.map_congr_left (g:=id) (fun c hc=> ?_)|>.trans (List.map_id _);rw [<-ht] at hc;obtain ⟨d, -,rfl⟩:=Y5 (a1k hc);exact a3O d
 rw [ht];have h3:L4 t=t:=by unfold L4;rw [hn];exact a6Y hs
 unfold j1;rw [h3]
 exact a60 fun i c hc=>by
  rw [e] at hc⊢;exact a6Z hc
theorem b25 {α:Type} (f:Nat->α) (i:Nat) (x y:α):upd (upd f i x) i y=upd f i y:=by
 funext j;unfold upd;split<;>rfl
def okN (q:Fil):Prop:=∃l,j4 q.1 l=true/\(∀c∈l,c.v.num<2^64)/\q.2=j1 l
theorem b26 {p q:Fil} (hp:okN p) (hq:okN q) (h:g7 p=g7 q):p=q:=by
 obtain ⟨ps,pl⟩:=p;obtain ⟨qs,ql⟩:=q;obtain ⟨l,h1,h2,h3⟩:=hp;obtain ⟨m,h4,h5,h6⟩:=hq;simp only at h3 h6 h1 h4;subst h3;subst h6;exact a5A h1 h4 h2 h5 h
theorem a4y {fs:ByteArray} {fl:List Cnd} (h:j4 fs fl=true) (hn:∀c∈fl,c.fits):okN (fs,j1 fl):=⟨fl,h,fun c hc=>(hn c hc).v.num,rfl⟩
theorem b1b {q:Fil} (h:okN q):j1 q.2=q.2:=by
 obtain ⟨l, -, -,h⟩:=h;rw [h,a2V]
theorem a7R {fs:ByteArray} {fl:List Cnd} (h:j4 fs fl=true) (hn:∀c∈fl,c.fits):okQ (fs,j1 fl):=by
 obtain ⟨h1,h2, -⟩:=J5 h;have h3:=F2 fl;refine ⟨?_,D9 hn, ?_⟩
 ·show (j1 fl).length<=19;omega
 show fs.size<=1000000;omega
def RS.tadd (R:RS) (frm:Int) (f:Fil):RS:=if (n4 R.M frm (g7 f)).isNone then {R with M:=R.M++[(frm,f)],N:=R.N+1} else R
def RS.trem (R:RS) (frm:Int) (f:Fil):RS:={R with M:=a2G R.M frm (g7 f)}
def RS.addS (R:RS) (k:Int) (who:ByteArray) (f:Fil):RS:={R with S:=R.S++[(k,who,f)]}
def RS.addI (R:RS) (k:Int) (f:Fil):RS:={R with I:=R.I++[(k,f)],T:=R.T+20}
def RS.sub (R:RS) (k:Int) (who:ByteArray) (f:Fil):RS:=((R.addS k who f).addI k f).tadd (-1) f
structure RS.Go (R:RS):Prop where
 n:R.N<=999
 t:R.T<=90000
 k:R.K<=1000000
 g:GOk R.G
 m:∀p∈R.M,okN p.2
 s:R.S.length<=1000
theorem a4z {M:List (Int×Fil)} (h:∀p∈M,okN p.2):∀p∈M,∀q∈M,g7 p.2=g7 q.2->p.2=q.2:=fun p hp q hq e=>b26 (h p hp) (h q hq) e
theorem RS.tadd_m {R:RS} (h:∀p∈R.M,okN p.2) (frm:Int) {f:Fil} (hf:okN f):∀p∈(R.tadd frm f).M,okN p.2:=fun p hp=>by
 unfold RS.tadd at hp;split at hp
 ·rcases zz14 hp with hp|hp
  ·exact h p hp
  rw [List.mem_singleton.1 hp];exact hf
 exact h p hp
theorem RS.tadd_n (R:RS) (frm:Int) (f:Fil):(R.tadd frm f).N<=R.N+1:=by
 unfold RS.tadd;split
 ·exact Nat.le_refl _
 exact Nat.le_succ _
theorem RS.tadd_eq (R:RS) (frm:Int) (f:Fil):(R.tadd frm f).G=R.G/\(R.tadd frm f).K=R.K/\(R.tadd frm f).S=R.S/\(R.tadd frm f).I=R.I/\(R.tadd frm f).T=R.T:=by
 unfold RS.tadd;split<;>exact ⟨rfl,rfl,rfl,rfl,rfl⟩
theorem a0S.tadd {w:World} {ow:Ow} {c t tb ib sb mb:Nat} {R:RS} {frm:Int} {f:Fil} (h1:y8 w ow (c+1+t) tb (R.tadd frm f).M (R.tadd frm f).N) (h2:O3 w ow (c+5+t) ib R.I R.T) (h3:z7 w ow (c+9+t) sb R.S) (h4:C8 w ow (c+13+t) mb R.G R.K):a0S w ow c t tb ib sb mb (R.tadd frm f):=by
 obtain ⟨e1,e2,e3,e4,e5⟩:=R.tadd_eq frm f;exact ⟨h1,by rw [e4,e5];exact h2,by rw [e3];exact h3,by rw [e1,e2];exact h4⟩
theorem y8.len {w:World} {ow:Ow} {c b:Nat} {M:List (Int×Fil)} {N:Nat} (h:y8 w ow c b M N):M.length<=N:=by
 obtain ⟨mo,h⟩:=h;exact h.low
def a5D (L:List PRu) (tenant:Int) (who:ByteArray) (gs:ByteArray) (m:List Cnd):Bool:=
 (a0L L tenant who).isSome&&L.any fun p=>(p.lies none 0).of 2 tenant who&&a90 gs m (p.lies none 0)
theorem a7S (l:List Ru) (tenant:Int) (who:ByteArray) (gs:ByteArray) (m:List Cnd):
 a5D (l.map Ru.pru) tenant who gs m=((D1 l tenant who).isSome&&l.any fun r=>r.of 2 tenant who&&a90 gs m r):=by
 unfold a5D;rw [a2J,List.any_map];rfl
def BS.subE (B:BS) (id:Int) (t:Nat) (who fs:ByteArray) (fl:List Cnd):Int:=
 if j4 fs fl=true then if B.there id t who=true then if a5D (atP B.L B.L.length) t who fs fl=true then if (B.R t).S.length=8 then 6 else 0 else 5 else 3 else 1
def BS.setR (B:BS) (t:Nat) (R:RS):BS:={B with R:=upd B.R t R}
theorem BS.setR_at (B:BS) (t:Nat) (R:RS):(B.setR t R).R t=R:=P7 _ _ _
theorem BS.setR_ne (B:BS) {t j:Nat} (R:RS) (h:j≠t):(B.setR t R).R j=B.R j:=U0 _ _ h
theorem BS.setR_set (B:BS) (t:Nat) (R R':RS):(B.setR t R).setR t R'=B.setR t R':=by
 unfold BS.setR;rw [b25]
theorem BS.setR_self (B:BS) (t:Nat):B.setR t (B.R t)=B:=by
 unfold BS.setR
 have:upd B.R t (B.R t)=B.R:=by
  funext j;unfold upd;split
  ·rename_i e;rw [e]
  rfl
 rw [this]
theorem BS.told_is (B:BS) (t:Nat) (near:List Int):B.told t near=B.setR t ((B.R t).refr near):=rfl
def BS.anew (B:BS) (t:Nat) (R:RS) (near:List Int):BS:=B.setR t (R.refr near)
theorem BS.told_set (B:BS) (t:Nat) (R:RS) (near:List Int):(B.setR t R).told t near=B.anew t R near:=by
 rw [BS.told_is,BS.setR_at,BS.setR_set];rfl
def L0 (c t:Nat) (tg:Nat->Prop):Nat->Prop:=fun q=>(q=c+1+t\/q=c+5+t\/q=c+9+t\/q=c+13+t)\/tg q
theorem t8.realm {F:Nat->Prop} {w0 w w':World} {ow ow':Ow} {c g:Nat} {id:Int} {near:List Int} {B:BS} {a:BAd} (h:t8 w ow c g id near B a) (hw:Owd w0 w ow) {t:Nat} (ht:t<4) (s:Mov F w ow w' ow') (hF:∀q,F q->q=c+1+t\/q=c+5+t\/q=c+9+t\/q=c+13+t) {R:RS}
 (hr:a0S w' ow' c t (a.tb t) (a.ib t) (a.sb t) (a.mb t) R):t8 w' ow' c g id near (B.setR t R) a:=by
 have hc:=h.c2;obtain ⟨L,h1,h2⟩:=h.log;have h0:¬F 0:=fun h=>by have:=hF 0 h;omega
 refine ⟨h.c2,⟨L,h1.mov s h0 (fun h=>by have:=hF _ h;omega) (fun h=>by have:=hF _ h;omega),h2⟩,h.near.mov s h0 (by omega),fun j hj=> ?_⟩;have hj':=h.rea j hj;by_cases e:j=t
 ·subst e;rw [BS.setR_at];exact hr
 rw [BS.setR_ne _ _ e];exact hj'.mov hw s h0 ⟨fun h=>by have:=hF _ h;omega,fun h=>by have:=hF _ h;omega,fun h=>by have:=hF _ h;omega,fun h=>by have:=hF _ h;omega⟩ hc
theorem Idx.cut {w:World} {b:Nat} {own C:Nat->Prop} {I:List (Int×Fil)} {T:Nat} (h:Idx w b own C I T):Idx w b own (fun k=>C k/\¬own k) I T:=by
 obtain ⟨m1,m2,h⟩:=h;refine ⟨m1,m2,h.row,h.nd,h.ob,h.ne, ?_,h.pm,h.low,h.olow,fun k hk=>h.clow k hk.1,h.wf,h.sc⟩;obtain ⟨f,g1,g2⟩:=h.fm;refine ⟨f,g1,fun id=> ?_⟩;have h3:=g2 id;cases hf:f (.int .i64 id)<;>cases hq:p6 I id<;>rw [hf,hq] at h3
 ·trivial
 ·exact h3
 ·exact h3
 obtain ⟨a,cap,e1,e2,e3⟩:=h3;exact ⟨a,cap,e1,e2,fun k hk=>⟨(e3 k hk).1,(e3 k hk).2.1,(e3 k hk).2.2,(e3 k hk).2.1⟩⟩
theorem M7 {M:List (Int×Fil)} {near:List Int} {G:Int->List Fil} {X:Nat} (hG:∀n,(G n).length<=X) (hM:M.length<=X) (ten:Int):(o7 M ten near G).length<=near.length*(2*X):=by
 induction near generalizing G with
 |nil=>simp [o7]
 | cons a near ih=>
  have h1:=ih (G:=O2 G a (r6 M a)) (fun n=>by
   unfold O2;split
   ·exact Nat.le_trans (U5 M a) hM
   ·exact hG n)
  have h2:=hG a;have h3:=Nat.le_trans (U5 M a) hM;have h4:(A8 (r6 M a) (G a)).length<=(r6 M a).length:=List.length_filter_le _ _;have h5:(A8 (G a) (r6 M a)).length<=(G a).length:=List.length_filter_le _ _;have h6:=a3Q a ten (G a) (r6 M a);show (F3 a ten (G a) (r6 M a)++o7 M ten near (O2 G a (r6 M a))).length<=_;rw [zz4,zz9,Nat.add_mul];omega
theorem y8.keep {w0 w w':World} {ow:Ow} {c b:Nat} {M:List (Int×Fil)} {N:Nat} (hw:Owd w0 w ow) (h2:2<=c) (h:Tab w' b (fun k=>ow k=c) (fun k=>ow k=0/\k<w.heap.size) M N) (hm:Mod (fun k=>ow k=c) w w'):y8 w' ow c b M N:=by
 refine h.cong (fun k hk=>hk) (fun k hk=>⟨hk.1,zz13 hk.2 hm.size⟩) (fun k hk hk2=> ?_) (fun k hk=> ?_) (fun k hk=>hk.2)
 ·have hk':ow k=c:=hk;have:=hk2.1;omega
 have hk':ow k=c:=hk;exact zz13 (hw.hi k (by omega)) hm.size
theorem O3.keep {w0 w w':World} {ow:Ow} {c b:Nat} {I:List (Int×Fil)} {T:Nat} (hw:Owd w0 w ow) (h2:2<=c) (h:Idx w' b (fun k=>ow k=c) (fun k=>ow k=0/\k<w.heap.size) I T) (hm:Mod (fun k=>ow k=c) w w'):O3 w' ow c b I T:=by
 obtain ⟨m1,m2,h1⟩:=h;refine ⟨m1,m2,h1.cong (fun k hk=>hk) (fun k hk=>⟨hk.1,zz13 hk.2 hm.size⟩) (fun k hk hk2=> ?_) (fun k hk=> ?_) (fun k hk=>hk.2)⟩
 ·have hk':ow k=c:=hk;have:=hk2.1;omega
 have hk':ow k=c:=hk;exact zz13 (hw.hi k (by omega)) hm.size
theorem Owd.lo' {w0 w:World} {ow:Ow} (hw:Owd w0 w ow) {c:Nat} (h2:2<=c):∀k,ow k=c->w0.heap.size<=k:=fun k hk=>hw.lo k (by omega)
theorem a5E (w0 w:World) (ow:Ow) (hw:Owd w0 w ow) (c b:Nat) (h2:2<=c) (R:RS) (h:y8 w ow c b R.M R.N) (hN:R.N<=100000) (frm:Int) (hfw:(Lit.int .i64 frm).wf=true) (sc:ByteArray) (a:Option Addr) (cap:Nat) (l:List Cnd)
 (hv:j2 w 7 (.slice a l.length cap) l.length (k7 l)) (hll:l.length<20) (hcs:∀c∈l,c.fits) (hsc:sc.size<=1000000):
 Calls Tryz.prog 58 #[.pointer (some ⟨b,0,none⟩),.int .i64 frm,.agg #[.string sc,.slice a l.length cap]] w fun e w'=>e= .returned (.bool (n4 R.M frm (g7 (sc,j1 l))).isNone)/\
  ∃ow',y8 w' ow' c b (R.tadd frm (sc,j1 l)).M (R.tadd frm (sc,j1 l)).N/\Mov (fun q=>q=c) w ow w' ow':=by
 refine (b2z w0 w hw.laid b _ _ R.M R.N h hN (hw.lo' h2) frm hfw sc _ l hv hll hcs hsc).mono fun e w' hp=> ?_;rcases hp with ⟨h1,rfl,hm⟩|⟨h1,rfl,own',C',hT,ho1,ho2,hC,hm⟩
 ·have hs:(n4 R.M frm (g7 (sc,j1 l))).isNone=false:=by
   cases hq:n4 R.M frm (g7 (sc,j1 l)) with
   |none=>exact absurd hq h1
   |some q=>rfl
  have e:R.tadd frm (sc,j1 l)=R:=by unfold RS.tadd;rw [hs];rfl
  rw [e];exact ⟨by rw [hs],ow,y8.mov h hw (Mov.of hw hm (fun _=>False)) (fun h=>h) (fun h=>h) h2,Mov.of hw hm _⟩
 have e:R.tadd frm (sc,j1 l)={R with M:=R.M++[(frm,(sc,j1 l))],N:=R.N+1}:=by unfold RS.tadd;rw [h1];rfl
 rw [e,h1];exact ⟨rfl,_,y8.new hw h2 hT ho2 hC hm,Mov.tag rfl hm⟩
theorem a3T {M:List (Int×Fil)} {id:Int} {k:List UInt8} (h:n4 M id k=none):a2G M id k=M:=List.filter_eq_self.2 fun p hp=>by
 obtain ⟨x,q⟩:=p;by_cases e:x=id
 ·subst e;have:=a1l h q hp;simp [this]
 simp [e]
theorem a5F (w0 w:World) (ow:Ow) (hw:Owd w0 w ow) (c b:Nat) (h2:2<=c) (R:RS) (h:y8 w ow c b R.M R.N) (hN:R.N<=100000) (frm:Int) (hfw:(Lit.int .i64 frm).wf=true) (sc:ByteArray) (a:Option Addr) (cap:Nat) (l:List Cnd)
 (hv:j2 w 7 (.slice a l.length cap) l.length (k7 l)) (hll:l.length<20) (hcs:∀c∈l,c.fits) (hsc:sc.size<=1000000):
 Calls Tryz.prog 60 #[.pointer (some ⟨b,0,none⟩),.int .i64 frm,.agg #[.string sc,.slice a l.length cap]] w fun e w'=>e= .returned (.bool (n4 R.M frm (g7 (sc,j1 l))).isSome)/\
  y8 w' ow c b (R.trem frm (sc,j1 l)).M (R.trem frm (sc,j1 l)).N/\Mov (fun q=>q=c) w ow w' ow:=by
 refine (b2J w0 w hw.laid b _ _ R.M R.N h hN frm hfw sc _ l hv hll hcs hsc).mono fun e w' hp=> ?_;rcases hp with ⟨h1,rfl,hm⟩|⟨h1,rfl,hT,hm⟩
 ·have e:R.trem frm (sc,j1 l)=R:=by unfold RS.trem;rw [a3T h1]
  rw [e,h1];exact ⟨rfl,y8.mov h hw (Mov.of hw hm (fun _=>False)) (fun h=>h) (fun h=>h) h2,Mov.of hw hm _⟩
 have hs:(n4 R.M frm (g7 (sc,j1 l))).isSome=true:=by
  cases hq:n4 R.M frm (g7 (sc,j1 l)) with
  |none=>exact absurd hq h1
  |some q=>rfl
 exact ⟨by rw [hs],y8.keep hw h2 hT hm,Mov.wrote hw hm (fun k hk=>hk)⟩
theorem b1c (w0 w:World) (ow:Ow) (hw:Owd w0 w ow) (c b:Nat) (h2:2<=c) (I:List (Int×Fil)) (T:Nat) (h:O3 w ow c b I T) (hT:T<=100000) (k:Int) (hkw:(Lit.int .i64 k).wf=true) (hk:p6 I k=none) (sc:ByteArray) (a:Option Addr) (cap:Nat) (l:List Cnd)
 (hv:j2 w 7 (.slice a l.length cap) l.length (k7 l)) (hll:l.length<20) (hcs:∀c∈l,c.fits) (hsc:sc.size<=1000000):
 Calls Tryz.prog 62 #[.pointer (some ⟨b,0,none⟩),.int .i64 k,.agg #[.string sc,.slice a l.length cap]] w fun e w'=>e= .returned (.bool true)/\
  ∃ow',O3 w' ow' c b (I++[(k,(sc,j1 l))]) (T+20)/\Mov (fun q=>q=c) w ow w' ow':=by
 refine (b2p w0 w hw.laid b _ _ I T h hT (hw.lo' h2) k hkw sc _ l hv hll hcs hsc).mono fun e w' hp=> ?_;rcases hp with ⟨h1, -⟩|⟨h1,rfl,own',C',hI,ho1,ho2,hC,hm⟩
 ·exact absurd hk h1
 exact ⟨rfl,_,O3.new hw h2 hI.cut ho2 (fun k ho hc=>hc.2 ho) (fun k hk=>hC k hk.1) hm,Mov.tag rfl hm⟩
theorem a8X {I:List (Int×Fil)} {id:Int} (h:p6 I id=none):R8 I id=I:=List.filter_eq_self.2 fun p hp=>by
 have h1:=a1j h;have:p.1≠id:=fun e=>h1 (by rw [<-e];exact List.mem_map_of_mem hp);simpa using this
theorem b1d (w0 w:World) (ow:Ow) (hw:Owd w0 w ow) (c b:Nat) (h2:2<=c) (I:List (Int×Fil)) (T:Nat) (h:O3 w ow c b I T) (hT:T<=100000) (k:Int) (hkw:(Lit.int .i64 k).wf=true):
 Calls Tryz.prog 70 #[.pointer (some ⟨b,0,none⟩),.int .i64 k] w fun e w'=>(∃r,e= .returned (.bool r))/\O3 w' ow c b (R8 I k) T/\Mov (fun q=>q=c) w ow w' ow:=by
 refine (b2u w b _ _ I T h hT k hkw).mono fun e w' hp=> ?_;rcases hp with ⟨h1,rfl,hm⟩|⟨h1,rfl,hI,hm⟩
 ·rw [a8X h1];exact ⟨⟨_,rfl⟩,O3.mov h hw (Mov.of hw hm (fun _=>False)) (fun h=>h) (fun h=>h) h2,Mov.of hw hm _⟩
 exact ⟨⟨_,rfl⟩,O3.keep hw h2 hI hm,Mov.wrote hw hm (fun k hk=>hk)⟩
def RS.hear (R:RS) (frm:Int) (f:Fil) (on:Bool):RS:=if on then R.tadd frm f else R.trem frm f
def RS.news (R:RS) (frm:Int) (f:Fil) (on:Bool):Bool:=if on then (n4 R.M frm (g7 f)).isNone else (n4 R.M frm (g7 f)).isSome
def BS.takeB (B:BS) (near:List Int) (t:Nat) (frm:Int) (f:Fil) (on:Bool):BS:=if (B.R t).news frm f on then B.anew t ((B.R t).hear frm f on) near else B
def BS.takeS (B:BS) (near:List Int) (t:Nat) (frm:Int) (f:Fil) (on:Bool):List Sd:=if (B.R t).news frm f on then o7 ((B.R t).hear frm f on).M t near (B.R t).G else []
def b1e {w0:World} {q:Nat} (O:s5 w0 q) (w:World) (ow:Ow) (c g:Nat) (id:Int) (near:List Int) (B:BS) (t:Nat) (s:O.σ) (frm:Int) (f:Fil) (on:Bool) (e:Ending) (w':World):Prop:=
 e= .returned (.bool true)/\∃ow',Bro w' ow' c g id near (B.takeB near t frm f on)/\O.inv w' ow' (O.sends s (B.takeS near t frm f on))/\Mov (L0 c t O.tg) w ow w' ow'
def tkK:Bool->Int
 |true=>1
 |false=>2
structure TkS (g t k tb:Nat) (fs:ByteArray) (fa:Option Addr) (n fc:Nat) (y:World):Prop where
 t0:y.cell? ⟨g,3+t*4,none⟩=some (.pointer (some ⟨tb,0,none⟩))
 e0:y.cell? ⟨k,10,none⟩=some (.string fs)
 e1:y.cell? ⟨k,11,none⟩=some (.slice fa n fc)
theorem a2W {M:List (Int×Fil)} (h:∀p∈M,okN p.2) (frm:Int) (k:List UInt8):∀p∈a2G M frm k,okN p.2:=fun p hp=>h p (a2M hp)
theorem b1f (on:Bool) (w0 w:World) (ow:Ow) (hw:Owd w0 w ow) (c g:Nat) (id:Int) (near:List Int) (B:BS) (h:Bro w ow c g id near B) (hnl:near.length<=1000) (hnw:∀n∈near,(Lit.int .i64 n).wf=true) (t:Nat) (ht:t<4)
 (q:Nat) (O:s5 w0 q) (s:O.σ) (hO:O.inv w ow s) (hOt:∀t,O.tg t->t<c\/c+18<=t) (hto:∀n∈near,O.okTo n t) (hcnt:O.cnt s<=300000000000) (hR:RS.Go (B.R t)) (frm:Int) (hfw:(Lit.int .i64 frm).wf=true)
 (x:Mv) (hk:x.m.kind=tkK on) (hf:j2 w 7 (.slice x.fa x.m.fl.length x.fc) x.m.fl.length (k7 x.m.fl)) (hfr:j4 x.m.fs x.m.fl=true) (hft:∀c∈x.m.fl,c.fits):
 Calls Tryz.prog 26 #[.pointer (some ⟨g,0,none⟩),.iface 43 (.pointer (some ⟨q,0,none⟩)),.int .i64 frm,.int .i64 t,.agg x.cells.toArray] w (b1e O w ow c g id near B t s frm (x.m.fs,j1 x.m.fl) on):=by
 obtain ⟨a,h⟩:=h;obtain ⟨wa,hwa,hmwa,hgwa,hzwa⟩:=e9 w (.cells x.cells.toArray 48);have ht4:(t:Int)<4:=by omega
 have ht0:(0:Int)<=t:=by omega
 have hmd:=hmwa.trans ((Mod.refl (fun _=>False) wa).drew) (fun _ _ h=>h);have hvd:=Mov.of hw hmd (fun _=>False);have hwd:=hvd.owd hw (fun h=>h);have hbd:=h.mov hw hvd (fun h=>h) (fun _ h=>h.elim);have hOd:=O.mov hO hw hvd (fun h=>h) (fun _ h=>h.elim);have hgd:=((Mod.refl (fun _=>False) wa).drew).heap hgwa (fun h=>h);have hrd:=hbd.rea t ht;have hc2:=hbd.c2;obtain ⟨hb1,hb2, -⟩:=J5 hfr;have hk0:wa.cell? ⟨w.heap.size,0,none⟩=some (.int .i64 x.m.kind):=d6 hgwa rfl;have hokN:=a4y hfr hft;obtain ⟨f,hff⟩:∃f:Fil,(x.m.fs,j1 x.m.fl)=f:=⟨_,rfl⟩
 have hta:Calls Tryz.prog (if on then 58 else 60) #[.pointer (some ⟨a.tb t,0,none⟩),.int .i64 frm,.agg #[.string x.m.fs,.slice x.fa x.m.fl.length x.fc]] wa.drew fun e w'=>e= .returned (.bool ((B.R t).news frm f on))/\
  ∃ow',y8 w' ow' (c+1+t) (a.tb t) ((B.R t).hear frm f on).M ((B.R t).hear frm f on).N/\Mov (fun q=>q=c+1+t) wa.drew ow w' ow':=by
  cases on with
  |true=>
   have:=a5E w0 wa.drew ow hwd (c+1+t) (a.tb t) (by omega) (B.R t) hrd.tab (by have:=hR.n;omega) frm hfw x.m.fs x.fa x.fc x.m.fl (hf.mod hmd (fun _ _ h=>h)) (by omega) hft (by omega);rw [hff] at this;exact this
  |false=>
   have:=a5F w0 wa.drew ow hwd (c+1+t) (a.tb t) (by omega) (B.R t) hrd.tab (by have:=hR.n;omega) frm hfw x.m.fs x.fa x.fc x.m.fl (hf.mod hmd (fun _ _ h=>h)) (by omega) hft (by omega);rw [hff] at this;exact this.mono fun e w' ⟨he,hT,hm⟩=>⟨he,ow,hT,hm⟩
 have hfin:∀(w':World) (ow':Ow) (hT:y8 w' ow' (c+1+t) (a.tb t) ((B.R t).hear frm f on).M ((B.R t).hear frm f on).N) (sm:Mov (fun q=>q=c+1+t) wa.drew ow w' ow'),Owd w0 w' ow'/\t8 w' ow' c g id near (B.setR t ((B.R t).hear frm f on)) a/\O.inv w' ow' s/\Mov (L0 c t O.tg) w ow w' ow':=fun w' ow' hT sm=>by
  refine ⟨sm.owd hwd (by omega),hbd.realm hwd ht sm (fun q hq=> .inl hq) ?_,O.mov hOd hwd sm (by omega) (fun q e he=>by have:=hOt q he;omega),(hvd.mono (fun _ h=>h.elim)).trans (sm.mono (fun _ h=> .inl (.inl h)))⟩;have h2:=hrd.idx.mov hwd sm (by omega) (by omega) (by omega);have h3:=hrd.sub.mov sm (by omega) (by omega);have h4:=hrd.snt.mov sm (by omega) (by omega)
  cases on with
  |true=>exact a0S.tadd hT h2 h3 h4
  |false=>exact ⟨hT,h2,h3,h4⟩
 have hRm:∀p∈((B.R t).hear frm f on).M,okN p.2:=by
  cases on with
  |true=>exact RS.tadd_m hR.m frm (hff▸hokN)
  |false=>exact a2W hR.m frm _
 have hRn:((B.R t).hear frm f on).N<=1000:=by
  have:=hR.n
  cases on with
  |true=>exact Nat.le_trans (RS.tadd_n _ _ _) (by omega)
  |false=>show (B.R t).N<=1000;omega
 have hRk:((B.R t).hear frm f on).K=(B.R t).K/\((B.R t).hear frm f on).G=(B.R t).G:=by
  cases on with
  |true=>exact ⟨((B.R t).tadd_eq frm f).2.1,((B.R t).tadd_eq frm f).1⟩
  |false=>exact ⟨rfl,rfl⟩
 have hno:(B.R t).news frm f on=false->(B.R t).hear frm f on=B.R t:=fun hn=>by
  cases on with
  |true=>
   show (B.R t).tadd frm f=B.R t;unfold RS.tadd;rw [show (n4 (B.R t).M frm (g7 f)).isNone=false from hn];rfl
  | false=>
   have h1:n4 (B.R t).M frm (g7 f)=none:=by
    cases hq:n4 (B.R t).M frm (g7 f) with
    |none=>rfl
    |some q=>
     have h2:(n4 (B.R t).M frm (g7 f)).isSome=false:=hn;rw [hq] at h2;cases h2
   show (B.R t).trem frm f=B.R t;unfold RS.trem;rw [a3T h1]
 obtain ⟨NW,hNW⟩:∃NW,(B.R t).news frm f on=NW:=⟨_,rfl⟩;rw [hNW] at hta hno;rw [hff];have hS:TkS g t w.heap.size (a.tb t) x.m.fs x.fa x.m.fl.length x.fc wa.drew:=⟨(hbd.cells ht).1,d6 hgd rfl,d6 hgd rfl⟩
 have hgo:∀(w':World) (ow':Ow),Owd w0 w' ow'->t8 w' ow' c g id near (B.setR t ((B.R t).hear frm f on)) a->O.inv w' ow' s->Calls Tryz.prog 59 #[.pointer (some ⟨g,0,none⟩),.iface 43 (.pointer (some ⟨q,0,none⟩)),.int .i64 t] w' (a2U O w' ow' c g id near (B.setR t ((B.R t).hear frm f on)) t s):=fun w' ow' h1 h2 h3=>by
  have hRt:=BS.setR_at B t ((B.R t).hear frm f on)
  have hMl:((B.R t).hear frm f on).M.length<=1000000:=by
   have h4:=(h2.rea t ht).tab;rw [hRt] at h4;exact Nat.le_trans (y8.len h4) (by omega)
  have hlen:=M7 (near:=near) hR.g.len hMl t;exact a0r w0 w' ow' c g id near (B.setR t ((B.R t).hear frm f on)) h1 ⟨a,h2⟩ q O s h3 hOt t ht (by rw [hRt,hRk.2];have:near.length*(2*1000000)<=1000*(2*1000000):=Nat.mul_le_mul_right _ hnl;omega) hnl hnw hto (by rw [hRt];exact hRn) (by rw [hRt,hRk.1];exact hR.k) (by rw [hRt,hRk.2];exact hR.g) (by rw [hRt];exact a4z hRm)
 have hGk:=hRk.2
 have hwa':w.alloc (.cells #[.int .i64 x.m.kind,.int .i64 x.m.at_,.int .i64 x.m.rule.kind,.int .i64 x.m.rule.tenant,.string x.m.rule.who,.int .i64 x.m.rule.broker,.string x.m.rule.sc,.slice x.ra x.m.rule.cs.length x.rc,.string x.m.rule.name,.int .i64 x.m.rule.at_,
  .string x.m.fs,.slice x.fa x.m.fl.length x.fc,.string x.m.es,.slice x.ea x.m.el.length x.ec,.int .i64 x.m.ver,.string x.m.org,.int .i64 x.m.ser] 48)=wa:=hwa
 obtain ⟨Hw,H,HO,HOt,Hto,HR,Hfw,Hf,Hfr,Hft,Hwa,Hwa'⟩:=zh12 hw h hO hOt hto hR hfw hf hfr hft hwa hwa';obtain ⟨Hmwa,Hgwa,Hmd,Hvd,Hwd,Hbd,HOd,Hgd,Hrd,HokN,Hff,Hta⟩:=zh12 hmwa hgwa hmd hvd hwd hbd hOd hgd hrd hokN hff hta;obtain ⟨Hfin,HRm,HRk,Hno,HNW,Hgo,HGk,Hnw⟩:=zh8 hfin hRm hRk hno hNW hgo hGk hnw;clear hw h hO hOt hto hR hfw hf hfr hft hwa hwa' hmwa hgwa hmd hvd hwd hbd hOd hgd hrd hokN hff hta hfin hRm hRk hno hNW hgo hGk hnw hzwa hb1 hb2 hRn
 cases on with
 | true=>
  have hkk:x.m.kind=1:=hk;rw [hkk] at hk0;have Hkk:=zh hkk;clear hkk hk
  go_enter Tryz.func26,Tryz.ntmps26
  go_wp2_with (first|(rw [show w.alloc _=wa from Hwa'.out])|(rw [show w.alloc _=wa from Hwa.out])|fail)
  refine i6 [.rd 0,.rd 1,.rd 2,.rd 3,.rd 4,.rd 5,.rd 6,.rd 7,.rd 8,.rd 9,.go 10] [0,1,2,3,4,5,6,7,8,9] (TkS g t w.heap.size (a.tb t) x.m.fs x.fa x.m.fl.length x.fc) (by kernel_rfl) (by kernel_rfl) (fun _ _ d _ _ h=>(by cases d<;>exact h)) ?_
  iterate 10 (
   refine l6 rfl ?_ (fun _=>hS) ?_ (fun w0 h0=> ?_) (fun K hK=> ?_)
   ·(try simp only [zz1]);(try simp only [zz2]);(try simp only [zz3]);go_simp;done
   rotate_left
   ·(try simp only [zz1]);(try simp only [zz2]);(try simp only [zz3])
    first
     |(obtain ⟨f0,f1,f2⟩:=h0 rfl;clear h0;go_simp;with_reducible rfl)
     |(clear h0;go_simp;with_reducible rfl)
   (try simp only [zz1]);(try simp only [zz2]);(try simp only [zz3])
   go_simp;refine hK _ ?_;clear hK K)
  refine g9 (g8 rfl ?_ (fun K hK=> ?_))
  ·(try simp only [zz1]);(try simp only [zz2]);(try simp only [zz3]);go_simp;done
  go_wp2_with fail
  refine Hta.out.mono ?_;rintro e w1 ⟨rfl,ow1,hT1,s1⟩;refine hK _ _ (fun h=>absurd h (by decide)) ?_;clear hK K hS;refine l0 ?_;obtain ⟨how1,hb1,hO1,hm1⟩:=Hfin.out w1 ow1 hT1 s1;have href:=Hgo.out w1 ow1 how1 hb1 hO1;obtain ⟨How1,Hb1,HO1,Hm1,Href,HT1,S1⟩:=zh7 how1 hb1 hO1 hm1 href hT1 s1;clear how1 hb1 hO1 hm1 href hT1 s1
  cases NW with
  | false=>
   go_wp2
   go_ret;refine ⟨rfl,ow1,⟨a, ?_⟩, ?_,Hm1.out⟩
   ·unfold BS.takeB;rw [HNW.out,if_neg (by decide)];have h1:=Hb1.out;rw [Hno.out trivial] at h1;rw [BS.setR_self] at h1;exact h1
   ·unfold BS.takeS;rw [HNW.out,if_neg (by decide)];exact HO1.out
  | true=>
   go_wp2_with fail
   refine Href.out.mono ?_;rintro e w2 ⟨rfl,ow2,hb2,hO2,hm2⟩;rw [BS.told_set] at hb2;rw [BS.setR_at,HGk.out] at hO2;have hmv:=Hm1.out.trans (hm2.mono (G:=L0 c t O.tg) (fun q h=>h.elim (fun h=> .inl (.inr (.inr (.inr h)))) (fun h=> .inr h)));obtain ⟨Hb2,HO2,Hm2,Hmv⟩:=zh4 hb2 hO2 hm2 hmv;clear hb2 hO2 hm2 hmv
   go_wp2
   go_ret;refine ⟨rfl,ow2, ?_, ?_,Hmv.out⟩
   ·unfold BS.takeB;rw [HNW.out,if_pos rfl];exact Hb2.out
   ·unfold BS.takeS;rw [HNW.out,if_pos rfl];exact HO2.out
 | false=>
  have hkk:x.m.kind=2:=hk;rw [hkk] at hk0;have Hkk:=zh hkk;clear hkk hk
  go_enter Tryz.func26,Tryz.ntmps26
  go_wp2_with (first|(rw [show w.alloc _=wa from Hwa'.out])|(rw [show w.alloc _=wa from Hwa.out])|fail)
  refine i6 [.rd 0,.rd 1,.rd 2,.rd 3,.rd 4,.rd 5,.rd 6,.rd 7,.rd 8,.rd 9,.go 10] [0,1,2,3,4,5,6,7,8,9] (TkS g t w.heap.size (a.tb t) x.m.fs x.fa x.m.fl.length x.fc) (by kernel_rfl) (by kernel_rfl) (fun _ _ d _ _ h=>(by cases d<;>exact h)) ?_
  iterate 10 (
   refine l6 rfl ?_ (fun _=>hS) ?_ (fun w0 h0=> ?_) (fun K hK=> ?_)
   ·(try simp only [zz1]);(try simp only [zz2]);(try simp only [zz3]);go_simp;done
   rotate_left
   ·(try simp only [zz1]);(try simp only [zz2]);(try simp only [zz3])
    first
     |(obtain ⟨f0,f1,f2⟩:=h0 rfl;clear h0;go_simp;with_reducible rfl)
     |(clear h0;go_simp;with_reducible rfl)
   (try simp only [zz1]);(try simp only [zz2]);(try simp only [zz3])
   go_simp;refine hK _ ?_;clear hK K)
  refine g9 (g8 rfl ?_ (fun K hK=> ?_))
  ·(try simp only [zz1]);(try simp only [zz2]);(try simp only [zz3]);go_simp;done
  go_wp2_with fail
  refine Hta.out.mono ?_;rintro e w1 ⟨rfl,ow1,hT1,s1⟩;refine hK _ _ (fun h=>absurd h (by decide)) ?_;clear hK K hS;refine l0 ?_;obtain ⟨how1,hb1,hO1,hm1⟩:=Hfin.out w1 ow1 hT1 s1;have href:=Hgo.out w1 ow1 how1 hb1 hO1;obtain ⟨How1,Hb1,HO1,Hm1,Href,HT1,S1⟩:=zh7 how1 hb1 hO1 hm1 href hT1 s1;clear how1 hb1 hO1 hm1 href hT1 s1
  cases NW with
  | false=>
   go_wp2
   go_ret;refine ⟨rfl,ow1,⟨a, ?_⟩, ?_,Hm1.out⟩
   ·unfold BS.takeB;rw [HNW.out,if_neg (by decide)];have h1:=Hb1.out;rw [Hno.out trivial] at h1;rw [BS.setR_self] at h1;exact h1
   ·unfold BS.takeS;rw [HNW.out,if_neg (by decide)];exact HO1.out
  | true=>
   go_wp2_with fail
   refine Href.out.mono ?_;rintro e w2 ⟨rfl,ow2,hb2,hO2,hm2⟩;rw [BS.told_set] at hb2;rw [BS.setR_at,HGk.out] at hO2;have hmv:=Hm1.out.trans (hm2.mono (G:=L0 c t O.tg) (fun q h=>h.elim (fun h=> .inl (.inr (.inr (.inr h)))) (fun h=> .inr h)));obtain ⟨Hb2,HO2,Hm2,Hmv⟩:=zh4 hb2 hO2 hm2 hmv;clear hb2 hO2 hm2 hmv
   go_wp2
   go_ret;refine ⟨rfl,ow2, ?_, ?_,Hmv.out⟩
   ·unfold BS.takeB;rw [HNW.out,if_pos rfl];exact Hb2.out
   unfold BS.takeS;rw [HNW.out,if_pos rfl];exact HO2.out
def BS.subB (B:BS) (id:Int) (near:List Int) (t:Nat) (who:ByteArray) (k:Int) (fs:ByteArray) (fl:List Cnd):BS:=
 if B.subE id t who fs fl=0 then B.anew t ((B.R t).sub k who (fs,j1 fl)) near else B
def BS.subS (B:BS) (id:Int) (near:List Int) (t:Nat) (who:ByteArray) (k:Int) (fs:ByteArray) (fl:List Cnd):List Sd:=
 if B.subE id t who fs fl=0 then o7 ((B.R t).sub k who (fs,j1 fl)).M t near (B.R t).G else []
def a0W {w0:World} {q:Nat} (O:s5 w0 q) (w:World) (ow:Ow) (c g:Nat) (id:Int) (near:List Int) (B:BS) (t:Nat) (s:O.σ) (who:ByteArray) (k:Int) (fs:ByteArray) (fl:List Cnd) (e:Ending) (w':World):Prop:=
 e= .returned (.int .i64 (B.subE id t who fs fl))/\∃ow',Bro w' ow' c g id near (B.subB id near t who k fs fl)/\O.inv w' ow' (O.sends s (B.subS id near t who k fs fl))/\Mov (L0 c t O.tg) w ow w' ow'
theorem a0W.no {w0:World} {q:Nat} {O:s5 w0 q} {w:World} {ow:Ow} {c g:Nat} {id:Int} {near:List Int} {B:BS} {t:Nat} {s:O.σ} {who:ByteArray} {k:Int} {fs:ByteArray} {fl:List Cnd} {w':World} {E:Int} (hw:Owd w0 w ow) (h:Bro w ow c g id near B) (hO:O.inv w ow s)
 (hm:Mod (fun _=>False) w w') (hE:B.subE id t who fs fl=E) (hn:E≠0):a0W O w ow c g id near B t s who k fs fl (.returned (.int .i64 E)) w':=by
 have h0:¬B.subE id t who fs fl=0:=by rw [hE];exact hn
 refine ⟨by rw [hE],ow, ?_, ?_,Mov.of hw hm _⟩
 ·unfold BS.subB;rw [if_neg h0];exact h.mov hw (Mov.of hw hm (fun _=>False)) (fun h=>h) (fun _ h=>h.elim)
 unfold BS.subS;rw [if_neg h0];exact O.mov hO hw (Mov.of hw hm (fun _=>False)) (fun h=>h) (fun _ h=>h.elim)
structure SuS (g t k sb ib tb:Nat) (fs:ByteArray) (fa:Option Addr) (n fc:Nat) (y:World):Prop where
 t0:y.cell? ⟨g,3+t*4,none⟩=some (.pointer (some ⟨tb,0,none⟩))
 i0:y.cell? ⟨g,3+t*4+1,none⟩=some (.pointer (some ⟨ib,0,none⟩))
 s0:y.cell? ⟨g,3+t*4+2,none⟩=some (.map (some sb))
 e0:y.cell? ⟨k,0,none⟩=some (.string fs)
 e1:y.cell? ⟨k,1,none⟩=some (.slice fa n fc)
theorem SuS.at {w:World} {ow:Ow} {c g:Nat} {id:Int} {near:List Int} {B:BS} {a:BAd} (h:t8 w ow c g id near B a) {t:Nat} (ht:t<4) {k:Nat} {fs:ByteArray} {fa:Option Addr} {n fc:Nat} (hg:w.heap[k]? =some (.cells #[.string fs,.slice fa n fc] 33 (0,0))):
 SuS g t k (a.sb t) (a.ib t) (a.tb t) fs fa n fc w:=by
 obtain ⟨q0,q1,q2, -⟩:=h.cells ht;exact ⟨q0,q1,q2,d6 hg rfl,d6 hg rfl⟩
theorem a4A (w0 w:World) (ow:Ow) (hw:Owd w0 w ow) (c g:Nat) (id:Int) (near:List Int) (B:BS) (h:Bro w ow c g id near B) (hL:B.L.length<=40) (hnl:near.length<=1000) (hnw:∀n∈near,(Lit.int .i64 n).wf=true) (t:Nat) (ht:t<4)
 (q:Nat) (O:s5 w0 q) (s:O.σ) (hO:O.inv w ow s) (hOt:∀t,O.tg t->t<c\/c+18<=t) (hto:∀n∈near,O.okTo n t) (hcnt:O.cnt s<=300000000000) (hR:RS.Go (B.R t)) (who:ByteArray) (k:Int) (hkw:(Lit.int .i64 k).wf=true) (hkS:r9 (B.R t).S k=none) (hkI:p6 (B.R t).I k=none)
 (fs:ByteArray) (fa:Option Addr) (fc:Nat) (fl:List Cnd) (hf:j2 w 7 (.slice fa fl.length fc) fl.length (k7 fl)) (hfs:fs.size<=1000000) (hfl:fl.length<=1000) (hft:∀c∈fl,c.fits):
 Calls Tryz.prog 27 #[.pointer (some ⟨g,0,none⟩),.iface 43 (.pointer (some ⟨q,0,none⟩)),.int .i64 t,.string who,.int .i64 k,.agg #[.string fs,.slice fa fl.length fc]] w (a0W O w ow c g id near B t s who k fs fl):=by
 obtain ⟨a,h⟩:=h;obtain ⟨wa,hwa,hmwa,hgwa,hzwa⟩:=e9 w (.cells #[.string fs,.slice fa fl.length fc] 33)
 have hF:∀wx,Mod (fun _=>False) wa wx->PbS wa w.heap.size fs fa fl.length fc wx:=fun wx hm=>
  ⟨hm.cell (d6 hgwa rfl) (fun h=>h),hm.cell (d6 hgwa rfl) (fun h=>h),hm⟩
 have hbr:∀wx,Mod (fun _=>False) w wx->t8 wx ow c g id near B a:=fun wx hm=>h.mov hw (Mov.of hw hm (fun _=>False)) (fun h=>h) (fun _ h=>h.elim);have hx':∀wx,Mod (fun _=>False) w wx->j2 wx 7 (.slice fa fl.length fc) fl.length (k7 fl):=fun wx hm=>hf.mod hm (fun _ _ h=>h);have hri:=fun wx (hm:Mod (fun _=>False) w wx)=>I4 wx fs (.slice fa fl.length fc) fl (hx' wx hm) (by omega) (by omega) (fun c hc=>by have:=(hft c hc).name;omega);obtain ⟨R1,hR1⟩:∃r,j4 fs fl=r:=⟨_,rfl⟩;rw [hR1] at hri;have ht4:(t:Int)<4:=by omega
 have ht0:(0:Int)<=t:=by omega
 have hsE:B.subE id t who fs fl=if R1=true then if B.there id t who=true then if a5D (atP B.L B.L.length) t who fs fl=true then if (B.R t).S.length=8 then 6 else 0 else 5 else 3 else 1:=by rw [<-hR1];rfl
 have hno:∀(wx:World) (E:Int),Mod (fun _=>False) w wx->B.subE id t who fs fl=E->E≠0->a0W O w ow c g id near B t s who k fs fl (.returned (.int .i64 E)) wx:=fun wx E hm hE hn=>a0W.no hw ⟨a,h⟩ hO hm hE hn;obtain ⟨H,HF,Hbr,Hf,Hx',Hri,HR1,Hwa,Hmwa,Hgwa,Hnw,Hw⟩:=zh12 h hF hbr hf hx' hri hR1 hwa hmwa hgwa hnw hw;obtain ⟨HO,HOt,Hto,HR,Hkw,HkS,HkI,Hft,HsE,Hno⟩:=zh10 hO hOt hto hR hkw hkS hkI hft hsE hno;clear h hF hbr hf hx' hri hR1 hwa hmwa hgwa hnw hw hO hOt hto hR hkw hkS hkI hft hsE hno hzwa
 go_enter Tryz.func27,Tryz.ntmps27
 have hS:=HF.out wa (Mod.refl _ wa);obtain ⟨f0,f1, -⟩:=hS
 go_wp2_with (first|(rw [show w.alloc _=wa from Hwa.out])|fail)
 refine (Hri.out wa Hmwa.out).mono ?_;rintro e w1 ⟨rfl,hm1⟩;clear f0 f1
 cases R1 with
 |false=>
  have hm:=Hmwa.out.trans hm1 (fun _ _ h=>h);have Hm:=zh hm;clear hm hm1
  go_wp2
  go_ret;exact Hno.out _ _ Hm.out (by rw [HsE.out];rfl) (by decide)
 |true=>
 have hth:=b0V w1 ow c g id near B ⟨a,Hbr.out w1 (Hmwa.out.trans hm1 (fun _ _ h=>h))⟩ hL t who;obtain ⟨R3,hR3⟩:∃r,B.there id t who=r:=⟨_,rfl⟩;rw [hR3] at hth;obtain ⟨Hth,HR3,Hm1⟩:=zh3 hth hR3 hm1;clear hth hR3 hm1
 go_wp2_with fail
 refine Hth.out.mono ?_;rintro e w3 ⟨rfl,hm3⟩;have hm3:=Hm1.out.trans hm3 (fun _ _ h=>h)
 cases R3 with
 |false=>
  have hm:=Hmwa.out.trans hm3 (fun _ _ h=>h);have Hm:=zh hm;clear hm hm3
  go_wp2
  go_ret;exact Hno.out _ _ Hm.out (by rw [HsE.out,HR3.out];rfl) (by decide)
 |true=>
 have hwm3:=Hmwa.out.trans hm3 (fun _ _ h=>h);have hb3:=Hbr.out w3 hwm3;obtain ⟨l,hlB,hfin,hle,hat⟩:=hb3.at_ hL;have hll:l.length<=40:=by rw [<-congrArg List.length hlB,zz10] at hL;exact hL
 obtain ⟨R4,hR4⟩:∃r,a5D (atP B.L B.L.length) t who fs fl=r:=⟨_,rfl⟩;have hFS:∀wx,Mod (fun _=>False) w3 wx->PbS wa w.heap.size fs fa fl.length fc wx:=fun wx hm=>HF.out wx (hm3.trans hm (fun _ _ h=>h));have hbL:=hle;obtain ⟨HR4,Hb3,HlB,Hfin,HbL,Hat,Hm3,Hwm3,HFS⟩:=zh9 hR4 hb3 hlB hfin hbL hat hm3 hwm3 hFS;clear hR4 hb3 hlB hfin hbL hat hm3 hwm3 hFS hle
 go_wp2_with fail
 have hS:PbS wa w.heap.size fs fa fl.length fc w3.drew:=HFS.out _ ((Mod.refl _ w3).drew);refine i6 [.rd 0,.rd 1,.rd 2,.rd 3,.rd 4,.rd 5,.rd 8,.rd 9,.rd 10,.go 6,.go 7,.go 11,.go 12,.go 13] [0,1,2,3,4,5,6,7,8,9,10] (PbS wa w.heap.size fs fa fl.length fc) (by kernel_rfl) (by kernel_rfl) (fun _ _ d _ _ h=>(by cases d<;>exact h)) ?_
 iterate 9 (
  refine l6 rfl ?_ (fun _=>hS) ?_ (fun w0 h0=> ?_) (fun K hK=> ?_)
  ·(try simp only [zz1]);(try simp only [zz2]);(try simp only [zz3]);go_simp;done
  rotate_left
  ·(try simp only [zz1]);(try simp only [zz2]);(try simp only [zz3])
   first
    |(obtain ⟨f0,f1, -⟩:=h0 rfl;clear h0;go_simp;with_reducible rfl)
    |(clear h0;go_simp;with_reducible rfl)
  (try simp only [zz1]);(try simp only [zz2]);(try simp only [zz3])
  go_simp;refine hK _ ?_;clear hK K)
 refine g9 (g8 rfl ?_ (fun K hK=> ?_))
 ·(try simp only [zz1]);(try simp only [zz2]);(try simp only [zz3]);go_simp;done
 go_wp2_with fail
 refine ((HbL.out w3.drew ((Mod.refl _ w3).drew))).mono ?_;rintro e w4 ⟨rfl,rfl⟩;refine hK _ _ (fun _ h=>h) ?_;clear hK K;refine g9 (g8 rfl ?_ (fun K hK=> ?_))
 ·(try simp only [zz1]);(try simp only [zz2]);(try simp only [zz3]);go_simp;done
 go_wp2_with fail
 refine ((Hat.out w3.drew _ ((Mod.refl _ w3).drew))).mono ?_;rintro e w4 ⟨v4,rfl,hru, -,hm4⟩;rw [a2Q] at hru;have hm34:Mod (fun _=>False) w3 w4:=((Mod.refl _ w3).drew).trans hm4 (fun _ _ h=>h);have hS4:=HFS.out w4 hm34;refine hK _ _ (fun _ _=>hS4) ?_;clear hK K hS
 have hmp:=a1E (a90 fs fl) w4 v4 (atR l B.L.length) hru (by have:=a4t l B.L.length;omega) t who fs fa fl.length fc
  (fun r hr wx hwx ho=>a3y wx r ((hru.ok r hr).mod hwx) (fun c hc=>((Hfin.out r (a4n hr)).1.cs c hc).v.num) fs (.slice fa fl.length fc) fl (Hx'.out wx (Hwm3.out.trans (hm34.trans hwx (fun _ _ h=>h)) (fun _ _ h=>h))) (by omega) (by omega) (fun d hd=>⟨by have:=(Hft.out d hd).v.text;omega,(Hft.out d hd).v.num⟩))
 rw [<-a7S,a4m,HlB.out,HR4.out] at hmp;have hwm4:=Hwm3.out.trans hm34 (fun _ _ h=>h);obtain ⟨Hmp,Hru,Hwm4,HS4,Hm34⟩:=zh5 hmp hru hwm4 hS4 hm34;clear hmp hru hwm4 hS4 hm34 hm4;refine g9 (g8 rfl ?_ (fun K hK=> ?_))
 ·(try simp only [zz1]);(try simp only [zz2]);(try simp only [zz3]);go_simp;done
 go_wp2_with fail
 refine Hmp.out.mono ?_;rintro e w5 ⟨rfl,hm5⟩;have hwm5:=Hwm4.out.trans hm5 (fun _ _ h=>h);have hm35:=Hm34.out.trans hm5 (fun _ _ h=>h);refine hK _ _ (fun h=>absurd h (by decide)) ?_;clear hK K hm5;refine g9 (g8 rfl ?_ (fun K hK=> ?_))
 ·(try simp only [zz1]);(try simp only [zz2]);(try simp only [zz3]);go_simp;done
 (try simp only [zz1]);(try simp only [zz2]);(try simp only [zz3]);go_simp;refine hK _ _ (fun h=>absurd h (by decide)) ?_;clear hK K;refine g9 (g8 rfl ?_ (fun K hK=> ?_))
 ·(try simp only [zz1]);(try simp only [zz2]);(try simp only [zz3]);go_simp;done
 (try simp only [zz1]);(try simp only [zz2]);(try simp only [zz3]);go_simp;refine hK _ _ (fun h=>absurd h (by decide)) ?_;clear hK K;refine l0 ?_
 cases R4 with
 |false=>
  have Hwm5:=zh hwm5;clear hwm5 hm35
  go_wp2
  go_ret;exact Hno.out _ _ Hwm5.out (by rw [HsE.out,HR3.out,HR4.out];rfl) (by decide)
 |true=>
 have hb5:=Hbr.out w5 hwm5;obtain ⟨-, -,q2, -⟩:=hb5.cells ht;have hlen:=fun ty=>(hb5.rea t ht).sub.len ty;obtain ⟨n,hn⟩:∃n,(B.R t).S.length=n:=⟨_,rfl⟩;rw [hn] at hlen;have hn1:n<=1000:=hn▸HR.out.s;by_cases hn8:n=8
 ·have hb8:((n:Int)==8)=true:=by rw [hn8];rfl
  obtain ⟨Hwm5,Hb5,Hn⟩:=zh3 hwm5 hb5 hn;clear hwm5 hb5 hn hm35
  go_wp2
  go_ret;exact Hno.out _ _ Hwm5.out (by rw [HsE.out,HR3.out,HR4.out,Hn.out,if_pos hn8];rfl) (by decide)
 have hb8:((n:Int)==8)=false:=by rw [beq_eq_false_iff_ne];omega
 have hE0:B.subE id t who fs fl=0:=by rw [HsE.out,HR3.out,HR4.out,hn,if_neg hn8];rfl
 obtain ⟨g0,g1, -⟩:=HFS.out w5 hm35;obtain ⟨-,hfl6, -⟩:=J5 HR1.out;have hlaid5:=Hw.out.laid.mod0 hwm5;have hnm:=Y6 w0 w5 hlaid5 fs (.slice fa fl.length fc) fl (Hx'.out w5 hwm5) (by omega) Hft.out;have hg5:=(HF.out w5 (Hm3.out.trans hm35 (fun _ _ h=>h))).md.heap Hgwa.out (fun h=>h);have hokN:=a4y HR1.out Hft.out;have hokQ:=a7R HR1.out Hft.out;obtain ⟨nl,hnl⟩:∃nl,j1 fl=nl:=⟨_,rfl⟩;have hni:j1 nl=nl:=hnl▸a2V fl;rw [hnl] at hnm hokN hokQ;obtain ⟨Hwm5,Hb5,Hn,HE0,Hlaid5,Hnm,Hg5,HokN,HokQ,Hnl,Hni⟩:=zh11 hwm5 hb5 hn hE0 hlaid5 hnm hg5 hokN hokQ hnl hni;clear hwm5 hb5 hn hE0 hlaid5 hnm hg5 hokN hokQ hnl hni hm35
 go_wp2_with fail
 refine Hnm.out.mono ?_;rintro e w6 ⟨na,nc,rfl,hno6,hnb6,hm6⟩;have hg6:=hm6.heap Hg5.out (fun h=>h);have hwm6:=Hwm5.out.trans hm6 (fun _ _ h=>h);obtain ⟨Hno6,Hnb6,Hm6,Hg6,Hwm6⟩:=zh5 hno6 hnb6 hm6 hg6 hwm6;clear hno6 hnb6 hm6 hg6 hwm6 g0 g1 q2 hlen
 go_wp2_with (first|((with_reducible refine j5 33 (.tmp 11) (.tmp 51) ?_);refine ⟨w.heap.size,rfl,_,_,Hg6.out,[.string fs,.slice na nl.length nc],rfl,rfl,by kernel_rfl,rfl, ?_⟩;intro w7 hg7 hmw7;have Hg7:=Lib.hid hg7;have Hmw7:=Lib.hid hmw7;clear hg7 hmw7)|fail)
 have hzb:w.heap.size<w5.heap.size:=(zz7 Hg5.out).1
 have hsbl:a.sb t<w.heap.size:=by
  obtain ⟨_,h1, -⟩:=(H.out.rea t ht).sub.mp;exact h1.lt
 have hm7:Mod (fun _=>False) w w7:=Hwm6.out.upon Hmw7.out (fun k hk=> .inr (Nat.le_of_eq (show w.heap.size=k from (show k=w.heap.size from hk).symm)));have hno7:=Hno6.out.mod Hmw7.out (fun k hk e=>by have h1:=Hnb6.out k hk;have h2:k=w.heap.size:=e;omega);have hmd:=hm7.trans ((Mod.refl (fun _=>False) w7).drew) (fun _ _ h=>h);have hwd:=(Mov.of Hw.out hmd (fun _=>False)).owd Hw.out (fun h=>h);have hbd:=Hbr.out w7.drew hmd;have hgd:=((Mod.refl (fun _=>False) w7).drew).heap Hg7.out (fun h=>h);have hcon:m4 w7.drew ow 7 (.slice na nl.length nc) nl.length (k7 nl):=⟨(hno7.mod ((Mod.refl (fun _=>False) w7).drew) (fun _ _ h=>h)).rd,fun _ b hb=>Hw.out.zero (Nat.le_trans Hwm5.out.size (Hnb6.out b hb))⟩;have hOd:=O.mov HO.out Hw.out (Mov.of Hw.out hmd (fun _=>False)) (fun h=>h) (fun _ h=>h.elim);have hc2:=hbd.c2;have hrd:=hbd.rea t ht;obtain ⟨w8,hrun,hsub8,hm8⟩:=z7.put hwd hrd.sub (by have:=HR.out.s;unfold maxLen;omega) (by omega) k Hkw.out HkS.out who (fs,nl) na nc hcon;have s8:Mov (fun q=>q=c+9+t) w7.drew ow w8 ow:=Mov.wrote hwd hm8 (fun b hb=>by rw [show b=a.sb t from hb];exact hrd.sub.tag);have how8:=s8.owd hwd (by omega);have hb8:t8 w8 ow c g id near (B.setR t ((B.R t).addS k who (fs,nl))) a:=hbd.realm hwd ht s8 (fun q hq=> .inr (.inr (.inl hq))) ⟨hrd.tab.mov hwd s8 (by omega) (by omega) (by omega),hrd.idx.mov hwd s8 (by omega) (by omega) (by omega),hsub8,hrd.snt.mov s8 (by omega) (by omega)⟩;have hg8:=hm8.heap hgd (fun e=>by have h2:w.heap.size=a.sb t:=e;omega);have hO8:=O.mov hOd hwd s8 (by omega) (fun q e he=>by have:=HOt.out q he;omega);have hcon8:=hcon.mov s8 (by omega) (by omega);have hS:SuS g t w.heap.size (a.sb t) (a.ib t) (a.tb t) fs na nl.length nc w7.drew:=SuS.at hbd ht hgd;have hmv8:Mov (L0 c t O.tg) w ow w8 ow:=(Mov.of Hw.out hmd _).trans (s8.mono (fun _ h=> .inl (.inr (.inr (.inl h)))));obtain ⟨Hm7,Hno7,Hmd,Hwd,Hbd,Hgd,Hcon,HOd,Hrd,Hrun,Hsub8,Hm8⟩:=zh12 hm7 hno7 hmd hwd hbd hgd hcon hOd hrd hrun hsub8 hm8;obtain ⟨S8,How8,Hb8,Hg8,HO8,Hcon8,Hmv8⟩:=zh7 s8 how8 hb8 hg8 hO8 hcon8 hmv8;clear hm7 hno7 hmd hwd hbd hgd hcon hOd hrd hrun hsub8 hm8 s8 how8 hb8 hg8 hO8 hcon8 hmv8 hzb
 go_wp2_with fail
 refine i6 [.rd 0,.rd 1,.rd 2,.rd 3,.rd 4,.rd 5,.rd 6,.go 7,.go 8] [0,1,2,3,4,5,6,7] (SuS g t w.heap.size (a.sb t) (a.ib t) (a.tb t) fs na nl.length nc) (by kernel_rfl) (by kernel_rfl) (fun _ _ d _ _ h=>(by cases d<;>exact h)) ?_
 iterate 7 (
  refine l6 rfl ?_ (fun _=>hS) ?_ (fun w0 h0=> ?_) (fun K hK=> ?_)
  ·(try simp only [zz1]);(try simp only [zz2]);(try simp only [zz3]);go_simp;done
  rotate_left
  ·(try simp only [zz1]);(try simp only [zz2]);(try simp only [zz3])
   first
    |(obtain ⟨f0,f1,f2,f3,f4⟩:=h0 rfl;clear h0;go_simp;with_reducible rfl)
    |(clear h0;go_simp;with_reducible rfl)
  (try simp only [zz1]);(try simp only [zz2]);(try simp only [zz3])
  go_simp;refine hK _ ?_;clear hK K)
 refine g9 (g8 rfl ?_ (fun K hK=> ?_))
 ·(try simp only [zz1]);(try simp only [zz2]);(try simp only [zz3]);go_simp;done
 (try simp only [zz1]);(try simp only [zz2]);(try simp only [zz3]);go_simp;refine hK _ _ (fun _ h=>h) ?_;clear hK K;refine g9 (g8 rfl ?_ (fun K hK=> ?_))
 ·(try simp only [zz1]);(try simp only [zz2]);(try simp only [zz3]);go_simp;done
 (try simp only [zz1]);(try simp only [zz2]);(try simp only [zz3]);refine F7 56 _ _ _ rfl Hrun.out ?_;refine hK _ _ (fun h=>absurd h (by decide)) ?_;clear hK K hS;refine l0 ?_;have hd8:=(Mod.refl (fun _=>False) w8).drew;have hv8:=Mov.of How8.out hd8 (fun _=>False);have how8d:=hv8.owd How8.out (fun h=>h);have hb8d:=Hb8.out.mov How8.out hv8 (fun h=>h) (fun _ h=>h.elim);have hg8d:=hd8.heap Hg8.out (fun h=>h);have hcon8d:=Hcon8.out.mov hv8 (fun h=>h) (by omega);have hO8d:=O.mov HO8.out How8.out hv8 (fun h=>h) (fun _ h=>h.elim);have hr8:=hb8d.rea t ht;rw [BS.setR_at] at hr8;have hia:=b1c w0 w8.drew ow how8d (c+5+t) (a.ib t) (by omega) _ _ hr8.idx (by have:=HR.out.t;show (B.R t).T<=100000;omega) k Hkw.out HkI.out fs na nc nl hcon8d.rd (by have:=HokQ.out.1;have h2:nl.length<=19:=this;omega) (fun c hc=>HokQ.out.2.1 c hc) hfs;rw [Hni.out] at hia;have hS:SuS g t w.heap.size (a.sb t) (a.ib t) (a.tb t) fs na nl.length nc w8.drew:=SuS.at hb8d ht hg8d;have hmv8d:=Hmv8.out.trans (hv8.mono (G:=L0 c t O.tg) (fun _ h=>h.elim));obtain ⟨Hd8,Hv8,How8d,Hb8d,Hg8d,Hcon8d,HO8d,Hr8,Hia,Hmv8d⟩:=zh10 hd8 hv8 how8d hb8d hg8d hcon8d hO8d hr8 hia hmv8d;clear hd8 hv8 how8d hb8d hg8d hcon8d hO8d hr8 hia hmv8d
 go_wp2_with fail
 refine i6 [.rd 0,.rd 1,.rd 2,.rd 3,.rd 4,.rd 5,.go 6] [0,1,2,3,4,5] (SuS g t w.heap.size (a.sb t) (a.ib t) (a.tb t) fs na nl.length nc) (by kernel_rfl) (by kernel_rfl) (fun _ _ d _ _ h=>(by cases d<;>exact h)) ?_
 iterate 6 (
  refine l6 rfl ?_ (fun _=>hS) ?_ (fun w0 h0=> ?_) (fun K hK=> ?_)
  ·(try simp only [zz1]);(try simp only [zz2]);(try simp only [zz3]);go_simp;done
  rotate_left
  ·(try simp only [zz1]);(try simp only [zz2]);(try simp only [zz3])
   first
    |(obtain ⟨f0,f1,f2,f3,f4⟩:=h0 rfl;clear h0;go_simp;with_reducible rfl)
    |(clear h0;go_simp;with_reducible rfl)
  (try simp only [zz1]);(try simp only [zz2]);(try simp only [zz3])
  go_simp;refine hK _ ?_;clear hK K)
 refine g9 (g8 rfl ?_ (fun K hK=> ?_))
 ·(try simp only [zz1]);(try simp only [zz2]);(try simp only [zz3]);go_simp;done
 go_wp2_with fail
 refine Hia.out.mono ?_;rintro e w9 ⟨rfl,ow9,hi9,s9⟩;refine hK _ _ (fun h=>absurd h (by decide)) ?_;clear hK K hS;refine l0 ?_;have how9:=s9.owd How8d.out (by omega)
 have hb9:t8 w9 ow9 c g id near (B.setR t (((B.R t).addS k who (fs,nl)).addI k (fs,nl))) a:=by
  have h1:=Hb8d.out.realm How8d.out ht s9 (fun q hq=> .inr (.inl hq)) (R:=((B.R t).addS k who (fs,nl)).addI k (fs,nl)) ⟨Hr8.out.tab.mov How8d.out s9 (by omega) (by omega) (by omega),hi9,Hr8.out.sub.mov s9 (by omega) (by omega),Hr8.out.snt.mov s9 (by omega) (by omega)⟩;rw [BS.setR_set] at h1;exact h1
 have hwb8:=(zz7 Hg8d.out).1
 have hg9:=s9.md.heap Hg8d.out (fun e=>by
  have h2:ow w.heap.size=c+5+t:=e;rw [Hw.out.zero (Nat.le_refl _)] at h2
  omega)
 have hcon9:=Hcon8d.out.mov s9 (by omega) (by omega);have hO9:=O.mov HO8d.out How8d.out s9 (by omega) (fun q e he=>by have:=HOt.out q he;omega);have hmv9:=Hmv8d.out.trans (s9.mono (G:=L0 c t O.tg) (fun _ h=> .inl (.inr (.inl h))));have hd9:=(Mod.refl (fun _=>False) w9).drew;have hv9:=Mov.of how9 hd9 (fun _=>False);have how9d:=hv9.owd how9 (fun h=>h);have hb9d:=hb9.mov how9 hv9 (fun h=>h) (fun _ h=>h.elim);have hg9d:=hd9.heap hg9 (fun h=>h);have hcon9d:=hcon9.mov hv9 (fun h=>h) (by omega);have hO9d:=O.mov hO9 how9 hv9 (fun h=>h) (fun _ h=>h.elim);have hr9:=hb9d.rea t ht;rw [BS.setR_at] at hr9;have hta:=a5E w0 w9.drew ow9 how9d (c+1+t) (a.tb t) (by omega) _ hr9.tab (by have:=HR.out.n;show (B.R t).N<=100000;omega) (-1) (by decide) fs na nc nl hcon9d.rd (by have:=HokQ.out.1;have h2:nl.length<=19:=this;omega) (fun c hc=>HokQ.out.2.1 c hc) hfs;rw [Hni.out] at hta;have hS:SuS g t w.heap.size (a.sb t) (a.ib t) (a.tb t) fs na nl.length nc w9.drew:=SuS.at hb9d ht hg9d;have hmv9d:=hmv9.trans (hv9.mono (G:=L0 c t O.tg) (fun _ h=>h.elim));obtain ⟨Hi9,S9,How9,Hb9,Hg9,Hcon9,HO9,Hmv9,Hd9,Hv9,How9d,Hb9d⟩:=zh12 hi9 s9 how9 hb9 hg9 hcon9 hO9 hmv9 hd9 hv9 how9d hb9d;obtain ⟨Hg9d,Hcon9d,HO9d,Hr9,Hta,Hmv9d⟩:=zh6 hg9d hcon9d hO9d hr9 hta hmv9d;clear hi9 s9 how9 hb9 hg9 hcon9 hO9 hmv9 hd9 hv9 how9d hb9d hg9d hcon9d hO9d hr9 hta hmv9d hwb8
 go_wp2_with fail
 refine i6 [.rd 0,.rd 1,.rd 2,.rd 3,.rd 4,.go 5] [0,1,2,3,4] (SuS g t w.heap.size (a.sb t) (a.ib t) (a.tb t) fs na nl.length nc) (by kernel_rfl) (by kernel_rfl) (fun _ _ d _ _ h=>(by cases d<;>exact h)) ?_
 iterate 5 (
  refine l6 rfl ?_ (fun _=>hS) ?_ (fun w0 h0=> ?_) (fun K hK=> ?_)
  ·(try simp only [zz1]);(try simp only [zz2]);(try simp only [zz3]);go_simp;done
  rotate_left
  ·(try simp only [zz1]);(try simp only [zz2]);(try simp only [zz3])
   first
    |(obtain ⟨f0,f1,f2,f3,f4⟩:=h0 rfl;clear h0;go_simp;with_reducible rfl)
    |(clear h0;go_simp;with_reducible rfl)
  (try simp only [zz1]);(try simp only [zz2]);(try simp only [zz3])
  go_simp;refine hK _ ?_;clear hK K)
 refine g9 (g8 rfl ?_ (fun K hK=> ?_))
 ·(try simp only [zz1]);(try simp only [zz2]);(try simp only [zz3]);go_simp;done
 go_wp2_with fail
 refine Hta.out.mono ?_;rintro e w10 ⟨rfl,ow10,ht10,s10⟩;refine hK _ _ (fun h=>absurd h (by decide)) ?_;clear hK K hS;refine l0 ?_;have how10:=s10.owd How9d.out (by omega)
 have hb10:t8 w10 ow10 c g id near (B.setR t ((B.R t).sub k who (fs,nl))) a:=by
  have h1:=Hb9d.out.realm How9d.out ht s10 (fun q hq=> .inl hq) (R:=(B.R t).sub k who (fs,nl)) (a0S.tadd ht10 (Hr9.out.idx.mov How9d.out s10 (by omega) (by omega) (by omega)) (Hr9.out.sub.mov s10 (by omega) (by omega)) (Hr9.out.snt.mov s10 (by omega) (by omega)));rw [BS.setR_set] at h1;exact h1
 have hO10:=O.mov HO9d.out How9d.out s10 (by omega) (fun q e he=>by have:=HOt.out q he;omega);have hmv10:=Hmv9d.out.trans (s10.mono (G:=L0 c t O.tg) (fun _ h=> .inl (.inl h)));have hRt:(B.setR t ((B.R t).sub k who (fs,nl))).R t=(B.R t).sub k who (fs,nl):=BS.setR_at _ _ _;obtain ⟨e1,e2, -, -, -⟩:=(((B.R t).addS k who (fs,nl)).addI k (fs,nl)).tadd_eq (-1) (fs,nl);have hN:((B.R t).sub k who (fs,nl)).N<=1000:=Nat.le_trans (RS.tadd_n _ _ _) (by have:=HR.out.n;show (B.R t).N+1<=1000;omega);have hMlen:((B.R t).sub k who (fs,nl)).M.length<=1000000:=Nat.le_trans (y8.len ht10) (Nat.le_trans hN (by decide));have hGG:((B.R t).sub k who (fs,nl)).G=(B.R t).G:=e1;have hlen:=M7 (near:=near) HR.out.g.len hMlen t
 have href:=a0r w0 w10 ow10 c g id near (B.setR t ((B.R t).sub k who (fs,nl))) how10 ⟨a,hb10⟩ q O s hO10 HOt.out t ht (by rw [hRt,hGG];have:near.length*(2*1000000)<=1000*(2*1000000):=Nat.mul_le_mul_right _ hnl;omega) hnl Hnw.out Hto.out (by rw [hRt];exact hN) (by rw [hRt];show ((B.R t).sub k who (fs,nl)).K<=1000000;rw [show ((B.R t).sub k who (fs,nl)).K=(B.R t).K from e2];exact HR.out.k) (by rw [hRt,hGG];exact HR.out.g)
  (by rw [hRt];exact a4z (RS.tadd_m (R:=((B.R t).addS k who (fs,nl)).addI k (fs,nl)) HR.out.m (-1) HokN.out))
 obtain ⟨Ht10,S10,How10,Hb10,HO10,Hmv10,HRt,HGG,Hlen,Href⟩:=zh10 ht10 s10 how10 hb10 hO10 hmv10 hRt hGG hlen href;clear ht10 s10 how10 hb10 hO10 hmv10 hRt hGG hlen href e1 e2 hN hMlen
 go_wp2_with fail
 refine Href.out.mono ?_;rintro e w11 ⟨rfl,ow11,hb11,hO11,hm11⟩;rw [BS.told_set] at hb11;rw [HRt.out,HGG.out] at hO11;have hmv11:=Hmv10.out.trans (hm11.mono (G:=L0 c t O.tg) (fun q h=>h.elim (fun h=> .inl (.inr (.inr (.inr h)))) (fun h=> .inr h)));obtain ⟨Hb11,HO11,Hm11,Hmv11⟩:=zh4 hb11 hO11 hm11 hmv11;clear hb11 hO11 hm11 hmv11
 go_wp2
 go_ret;refine ⟨by rw [HE0.out];rfl,ow11, ?_, ?_,Hmv11.out⟩
 ·unfold BS.subB;rw [if_pos HE0.out,Hnl.out];exact Hb11.out
 unfold BS.subS;rw [if_pos HE0.out,Hnl.out];exact HO11.out
structure A3 (R:RS) (j:Nat):Prop where
 n:R.N<=j
 t:R.T<=20*j
 k:R.K<=2*j
 m:∀p∈R.M,okN p.2
 s:R.S.length<=8
 sf:∀p∈R.S,okN p.2.2
 si:∀p∈R.S,0<=p.1/\p.1<j
 is:R.I=R.S.map fun p=>(p.1,p.2.2)
 g:∀n,R.G n=if n=1\/n=2 then r6 R.M n else []
theorem A3.zero:A3 RS.zero 0:=⟨Nat.le_refl _,Nat.le_refl _,Nat.le_refl _,fun p hp=>(by cases hp),(by decide),fun p hp=>(by cases hp),fun p hp=>(by cases hp),rfl,fun n=>(by
 show []=if n=1\/n=2 then r6 [] n else []
 rw [List.eq_nil_of_length_eq_zero (Nat.le_zero.1 (U5 [] n))]
 split<;>rfl)⟩
theorem A3.mono {R:RS} {j k:Nat} (h:A3 R j) (hk:j<=k):A3 R k:=by
 have h1:=h.n;have h2:=h.t;have h3:=h.k;exact ⟨by omega,by omega,by omega,h.m,h.s,h.sf,fun p hp=>⟨(h.si p hp).1,by have:=(h.si p hp).2;omega⟩,h.is,h.g⟩
theorem a61 {M:List (Int×Fil)} {G:Int->List Fil} (h:∀n,¬(n=1\/n=2)->G n=[]) (n:Int):A9 M [1,2] G n=if n=1\/n=2 then r6 M n else []:=by
 by_cases hn:n=1\/n=2
 ·rw [if_pos hn];exact a0Q (by simpa using hn)
 rw [if_neg hn,Y9 (by simpa using hn)];exact h n hn
theorem A3.none {R:RS} {j:Nat} (h:A3 R j):r9 R.S j=Option.none/\p6 R.I j=Option.none:=by
 have h1:r9 R.S j=Option.none:=by
  unfold r9;rw [Option.map_eq_none_iff,List.find?_eq_none];intro p hp e;have:=(h.si p hp).2;have e2:p.1=(j:Int):=by simpa using e
  omega
 refine ⟨h1, ?_⟩;unfold p6;rw [Option.map_eq_none_iff,List.find?_eq_none,h.is];intro p hp e;obtain ⟨q,hq,rfl⟩:=List.mem_map.1 hp;have:=(h.si q hq).2;have e2:q.1=(j:Int):=by simpa using e
 omega
theorem A3.go {R:RS} {j:Nat} (h:A3 R j) (hj:j<=900) {w:World} {ow:Ow} {c b:Nat} (hT:y8 w ow c b R.M R.N):R.Go:=by
 have h1:=h.n;have h2:=h.t;have h3:=h.k;have h4:=y8.len hT
 have hq:∀p∈R.M,okQ p.2:=fun p hp=>by
  obtain ⟨mo,hat⟩:=hT;exact ⟨(hat.wf _ hp).2.1,(hat.wf _ hp).2.2,hat.sc _ hp⟩
 refine ⟨by omega,by omega,by omega,⟨fun n=> ?_,fun n q hn=> ?_⟩,h.m,by have:=h.s;omega⟩
 ·rw [h.g];split
  ·have:=U5 R.M n;omega
  exact Nat.zero_le _
 rw [h.g] at hn;split at hn
 ·exact Z0 hq n q hn
 ·cases hn
theorem A3.tadd {R:RS} {j:Nat} (h:A3 R j) (frm:Int) {f:Fil} (hf:okN f):A3 ((R.tadd frm f).refr [1,2]) (j+1):=by
 obtain ⟨e1,e2,e3,e4,e5⟩:=R.tadd_eq frm f;have h1:=h.n;have h2:=h.t;have h3:=h.k;have h4:=R.tadd_n frm f;refine ⟨?_, ?_, ?_,RS.tadd_m h.m frm hf, ?_, ?_, ?_, ?_,fun n=> ?_⟩
 ·show (R.tadd frm f).N<=j+1;omega
 ·show (R.tadd frm f).T<=_;rw [e5];omega
 ·show (R.tadd frm f).K+2<=_;rw [e2];omega
 ·show (R.tadd frm f).S.length<=8;rw [e3];exact h.s
 ·show∀p∈(R.tadd frm f).S,okN p.2.2;rw [e3];exact h.sf
 ·show∀p∈(R.tadd frm f).S,0<=p.1/\p.1<(j+1:Nat);rw [e3];exact fun p hp=>⟨(h.si p hp).1,by have:=(h.si p hp).2;omega⟩
 ·show (R.tadd frm f).I=(R.tadd frm f).S.map _;rw [e3,e4];exact h.is
 show A9 (R.tadd frm f).M [1,2] (R.tadd frm f).G n=_;rw [e1];exact a61 (fun m hm=>by rw [h.g,if_neg hm]) n
theorem A3.trem {R:RS} {j:Nat} (h:A3 R j) (frm:Int) (f:Fil):A3 ((R.trem frm f).refr [1,2]) (j+1):=by
 have h1:=h.n;have h2:=h.t;have h3:=h.k;refine ⟨?_, ?_, ?_,a2W h.m frm _,h.s,h.sf,fun p hp=>⟨(h.si p hp).1,by have:=(h.si p hp).2;omega⟩,h.is,fun n=>a61 (fun m hm=>by show R.G m=[];rw [h.g,if_neg hm]) n⟩
 ·show R.N<=j+1;omega
 ·show R.T<=_;omega
 show R.K+2<=_;omega
theorem A3.hear {R:RS} {j:Nat} (h:A3 R j) (frm:Int) {f:Fil} (hf:okN f) (on:Bool):A3 ((R.hear frm f on).refr [1,2]) (j+1):=by
 cases on with
 |true=>exact h.tadd frm hf
 |false=>exact h.trem frm f
theorem A3.addSI {R:RS} {j:Nat} (h:A3 R j) (who:ByteArray) {f:Fil} (hf:okN f):(∀p∈((R.addS j who f).addI j f).S,okN p.2.2)/\(∀p∈((R.addS j who f).addI j f).S,0<=p.1/\p.1<(j+1:Nat))/\((R.addS j who f).addI j f).I=((R.addS j who f).addI j f).S.map fun p=>(p.1,p.2.2):=by
 refine ⟨fun p hp=> ?_,fun p hp=> ?_, ?_⟩
 ·rcases zz14 hp with hp|hp
  ·exact h.sf p hp
  rw [List.mem_singleton.1 hp];exact hf
 ·rcases zz14 hp with hp|hp
  ·exact ⟨(h.si p hp).1,by have:=(h.si p hp).2;omega⟩
  rw [List.mem_singleton.1 hp];exact ⟨by show (0:Int)<=j;omega,by show (j:Int)<(j+1:Nat);omega⟩
 show R.I++[((j:Int),f)]=(R.S++[((j:Int),who,f)]).map _;rw [List.map_append,h.is];rfl
theorem A3.sub {R:RS} {j:Nat} (h:A3 R j) (h8:R.S.length≠8) (who:ByteArray) {f:Fil} (hf:okN f):A3 ((R.sub j who f).refr [1,2]) (j+1):=by
 obtain ⟨a1,a2,a3⟩:=h.addSI who hf;obtain ⟨Q,hQ⟩:∃Q,(R.addS j who f).addI j f=Q:=⟨_,rfl⟩;have qn:Q.N=R.N:=by rw [<-hQ];rfl
 have qt:Q.T=R.T+20:=by rw [<-hQ];rfl
 have qk:Q.K=R.K:=by rw [<-hQ];rfl
 have qm:Q.M=R.M:=by rw [<-hQ];rfl
 have qg:Q.G=R.G:=by rw [<-hQ];rfl
 have qs:Q.S.length=R.S.length+1:=by rw [<-hQ];show (R.S++[_]).length=_;rw [zz4];rfl
 rw [hQ] at a1 a2 a3;have e0:R.sub j who f=Q.tadd (-1) f:=by rw [<-hQ];rfl
 rw [e0];obtain ⟨e1,e2,e3,e4,e5⟩:=Q.tadd_eq (-1) f;have h1:=h.n;have h2:=h.t;have h3:=h.k;have h5:=h.s;have h4:=Q.tadd_n (-1) f;refine ⟨?_, ?_, ?_,RS.tadd_m (by rw [qm];exact h.m) _ hf, ?_, ?_, ?_, ?_,fun n=> ?_⟩
 ·show (Q.tadd (-1) f).N<=j+1;omega
 ·show (Q.tadd (-1) f).T<=_;rw [e5];omega
 ·show (Q.tadd (-1) f).K+2<=_;rw [e2];omega
 ·show (Q.tadd (-1) f).S.length<=8;rw [e3];omega
 ·show∀p∈(Q.tadd (-1) f).S,okN p.2.2;rw [e3];exact a1
 ·show∀p∈(Q.tadd (-1) f).S,0<=p.1/\p.1<(j+1:Nat);rw [e3];exact a2
 ·show (Q.tadd (-1) f).I=(Q.tadd (-1) f).S.map _;rw [e3,e4];exact a3
 show A9 (Q.tadd (-1) f).M [1,2] (Q.tadd (-1) f).G n=_;rw [e1,qg];exact a61 (fun m hm=>by rw [h.g,if_neg hm]) n
def V7 (B:BS) (j:Nat):Prop:=∀t,t<4->A3 (B.R t) j
theorem V7.set {B:BS} {j k:Nat} (h:V7 B j) (hk:j<=k) {t:Nat} {R:RS} (hR:A3 R k):V7 (B.setR t R) k:=fun i hi=>by
 by_cases e:i=t
 ·subst e;rw [BS.setR_at];exact hR
 rw [BS.setR_ne _ _ e];exact (h i hi).mono hk
theorem V7.take {B:BS} {j:Nat} (h:V7 B j) {t:Nat} (ht:t<4) (frm:Int) {f:Fil} (hf:okN f) (on:Bool):V7 (B.takeB [1,2] t frm f on) (j+1):=by
 unfold BS.takeB;split
 ·exact h.set (Nat.le_succ _) ((h t ht).hear frm hf on)
 exact fun i hi=>(h i hi).mono (Nat.le_succ _)
theorem V7.sub {B:BS} {j:Nat} (h:V7 B j) {t:Nat} (ht:t<4) (id:Int) (who fs:ByteArray) {fl:List Cnd} (hf:j4 fs fl=true->okN (fs,j1 fl)):V7 (B.subB id [1,2] t who j fs fl) (j+1):=by
 unfold BS.subB;split
 ·rename_i h0
  unfold BS.subE at h0;split at h0
  ·rename_i hr
   split at h0
   ·split at h0
    ·split at h0
     ·cases h0
     rename_i h8
     exact h.set (Nat.le_succ _) ((h t ht).sub h8 who (hf hr))
    ·cases h0
   ·cases h0
  ·cases h0
 exact fun i hi=>(h i hi).mono (Nat.le_succ _)
theorem BS.takeB_L (B:BS) (near:List Int) (t:Nat) (frm:Int) (f:Fil) (on:Bool):(B.takeB near t frm f on).L=B.L:=by
 unfold BS.takeB;split<;>rfl
theorem BS.subB_L (B:BS) (id:Int) (near:List Int) (t:Nat) (who:ByteArray) (k:Int) (fs:ByteArray) (fl:List Cnd):(B.subB id near t who k fs fl).L=B.L:=by
 unfold BS.subB;split<;>rfl
theorem GOk.none {G:Int->List Fil} (h:GOk G) (n:Int):GOk (O2 G n []):=by
 refine ⟨fun m=> ?_,fun m q hq=> ?_⟩
 ·unfold O2;split
  ·exact Nat.zero_le _
  exact h.len m
 unfold O2 at hq;split at hq
 ·cases hq
 exact h.ok m q hq
theorem t8.drop {w0 w w':World} {ow:Ow} {c g:Nat} {id:Int} {near:List Int} {B:BS} {a:BAd} (h:t8 w ow c g id near B a) (hw:Owd w0 w ow) {t:Nat} (ht:t<4) {M:List (Int×Fil)} (hT:y8 w' ow (c+1+t) (a.tb t) M (B.R t).N) (s:Mov (fun q=>q=c+1+t) w ow w' ow):
 t8 w' ow c g id near (B.setR t {B.R t with M:=M}) a:=by
 have hr:=h.rea t ht;have hc:=h.c2;exact h.realm hw ht s (fun q hq=> .inl hq) ⟨hT,hr.idx.mov hw s (by omega) (by omega) (by omega),hr.sub.mov s (by omega) (by omega),hr.snt.mov s (by omega) (by omega)⟩
theorem a62 (w0 w:World) (ow:Ow) (c g:Nat) (id:Int) (near:List Int) (B:BS) (a:BAd) (hw:Owd w0 w ow) (h:t8 w ow c g id near B a) (q:Nat) (O:s5 w0 q) (s:O.σ) (hO:O.inv w ow s) (hOt:∀t,O.tg t->t<c\/c+18<=t) (t:Nat) (ht:t<4)
 (hcnt:O.cnt s<=300000000000) (hnl:near.length<=1000) (hnw:∀n∈near,(Lit.int .i64 n).wf=true) (hto:∀n∈near,O.okTo n t) (hR:RS.Go (B.R t)):
 Calls Tryz.prog 59 #[.pointer (some ⟨g,0,none⟩),.iface 43 (.pointer (some ⟨q,0,none⟩)),.int .i64 t] w (a2U O w ow c g id near B t s)/\(o7 (B.R t).M t near (B.R t).G).length<=2000000000:=by
 have hMl:(B.R t).M.length<=1000000:=Nat.le_trans (y8.len (h.rea t ht).tab) (by have:=hR.n;omega);have hlen:=M7 (near:=near) hR.g.len hMl t;have hl2:near.length*(2*1000000)<=1000*(2*1000000):=Nat.mul_le_mul_right _ hnl;exact ⟨a0r w0 w ow c g id near B hw ⟨a,h⟩ q O s hO hOt t ht (by omega) hnl hnw hto (by have:=hR.n;omega) hR.k hR.g (a4z hR.m),by omega⟩
end
end Go.Proofs.YtaenebdppkjhoaaGreatDoor
