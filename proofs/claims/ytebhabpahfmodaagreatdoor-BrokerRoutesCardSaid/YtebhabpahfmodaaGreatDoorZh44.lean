/- Lemmas. -/
import Derived.Test.YtebhabpahfmodaaGreatDoorZh41
import Derived.Test.YtebhabpahfmodaaGreatDoorZh42
import Derived.Test.YtebhabpahfmodaaGreatDoorZh32
set_option maxHeartbeats 40000000
set_option maxRecDepth 20000
namespace Go.Proofs.YtebhabpahfmodaaGreatDoor
section
open Go.RowKit
theorem a5Y:∀a b:List UInt8,Lib.compareBytes b a= - Lib.compareBytes a b
 |[],[]=>by simp [Lib.compareBytes]
 |[],b::t=>by simp [Lib.compareBytes]
 |a::s,[]=>by simp [Lib.compareBytes]
 | a::s,b::t=>by
  rw [D6,D6,a5Y s t];by_cases h:a<b
  ·have h2:¬b<a:=fun h3=>absurd (UInt8.lt_trans h h3) (UInt8.lt_irrefl a);simp [h,h2]
  by_cases h2:b<a
  ·simp [h,h2]
  simp [h,h2]
theorem b3c {a b:Cnd} (h:ltC a b=true):ltC b a=false:=by
 unfold ltC a5A at*;rw [decide_eq_true_eq] at h;rw [decide_eq_false_iff_not,a5Y];omega
theorem a8S {a b c:Cnd} (h1:ltC a b=false) (h2:ltC b c=false):ltC a c=false:=by
 unfold ltC a5A at*;rw [decide_eq_false_iff_not] at*;intro h3;have h4:Lib.compareBytes b.prt a.prt<0\/Lib.compareBytes a.prt b.prt=0:=by rw [a5Y];omega
 rcases h4 with h4|h4
 ·exact h2 ((a0w _ _).2 (Z3 _ _ _ ((a0w _ _).1 h4) ((a0w _ _).1 h3)))
 rw [(T5 _ _).1 h4] at h3;exact h2 h3
theorem a7j {x:Cnd} {r:List Cnd} (h:r.Pairwise fun a b=>ltC a b=false):(U5 ltC x r).Pairwise fun a b=>ltC a b=false:=by
 induction r with
 |nil=>exact List.pairwise_singleton _ _
 | cons y r ih=>
  rw [List.pairwise_cons] at h;unfold U5
  cases hl:ltC x y with
  |true=>
   rw [if_pos rfl,List.pairwise_cons];refine ⟨fun z hz=> ?_,ih h.2⟩;rcases List.mem_cons.1 ((a2Y ltC x r).mem_iff.1 hz) with rfl|hz
   ·exact b3c hl
   ·exact h.1 z hz
  |false=>
   rw [if_neg zd,List.pairwise_cons];refine ⟨fun z hz=> ?_,List.pairwise_cons.2 h⟩;rcases List.mem_cons.1 hz with rfl|hz
   ·exact hl
   exact a8S hl (h.1 z hz)
theorem a8T (l:List Cnd):(F3 ltC l).Pairwise fun a b=>ltC b a=false:=by
 suffices∀r:List Cnd,(F3 ltC r.reverse).Pairwise fun a b=>ltC b a=false by
  have:=this l.reverse;rwa [List.reverse_reverse] at this
 intro r
 induction r with
 |nil=>exact List.Pairwise.nil
 |cons x r ih=>
  rw [List.reverse_cons,a0a];unfold a4u;rw [List.pairwise_reverse];exact a7j (List.pairwise_reverse.2 ih)
theorem a8U {l:List Cnd} (h:l.Pairwise fun a b=>ltC b a=false):F3 ltC l=l:=by
 suffices∀r:List Cnd,(r.reverse.Pairwise fun a b=>ltC b a=false)->F3 ltC r.reverse=r.reverse by
  have:=this l.reverse;rw [List.reverse_reverse] at this;exact this h
 intro r
 induction r with
 |nil=>intro _;rfl
 | cons x r ih=>
  intro h;rw [List.reverse_cons] at h⊢;have h1:=List.pairwise_append.1 h;rw [a0a,ih h1.1];unfold a4u;rw [List.reverse_reverse]
  cases r with
  |nil=>rfl
  |cons y r=>
   have h2:=h1.2.2 y (by simp) x (by simp);unfold U5;rw [if_neg (by rw [h2];decide)];simp
theorem b6c (s:List Cnd) (k:Nat):(s.zipIdx k).Pairwise fun p q=>p.2<q.2:=by
 induction s generalizing k with
 |nil=>exact List.Pairwise.nil
 |cons c s ih=>
  rw [List.zipIdx_cons,List.pairwise_cons];refine ⟨fun q hq=> ?_,ih (k+1)⟩;have:=List.mem_zipIdx hq;omega
theorem Z8 (s:List Cnd):A9 s s.length=(s.zipIdx.filter fun p=> !M6 s p.2 p.1).map Prod.fst:=by
 unfold A9;rw [List.take_length]
 generalize s.zipIdx=z
 induction z with
 |nil=>rfl
 |cons p z ih=>
  rw [List.filterMap_cons,List.filter_cons];cases h:M6 s p.2 p.1
  ·simp [ih]
  simp [ih]
theorem a8V {s:List Cnd} {i:Nat} {c:Cnd} (h:(A9 s s.length)[i]? =some c):M6 (A9 s s.length) i c=false:=by
 rw [Z8] at*;have hp:(s.zipIdx.filter fun p=> !M6 s p.2 p.1).Pairwise fun p q=>p.2<q.2:=(b6c s 0).filter _;obtain ⟨Z,hZ⟩:∃Z,(s.zipIdx.filter fun p=> !M6 s p.2 p.1)=Z:=⟨_,rfl⟩
 have hm:∀p∈Z,s[p.2]? =some p.1/\M6 s p.2 p.1=false:=fun p hp=>by
  rw [<-hZ] at hp;obtain ⟨h1,h2⟩:=List.mem_filter.1 hp;exact ⟨List.mem_zipIdx_iff_getElem?.1 h1,by simpa using h2⟩
 rw [hZ] at h hp⊢;rw [List.getElem?_map,Option.map_eq_some_iff] at h;obtain ⟨⟨c',j⟩,hi,rfl⟩:=h;have hj:=hm _ (zz8 hi)
 cases hn:M6 (Z.map Prod.fst) i c' with
 |false=>rfl
 | true=>
  unfold M6 at hn;obtain ⟨⟨d,k⟩,hk,hna⟩:=List.any_eq_true.1 hn;have hk:=List.mem_zipIdx_iff_getElem?.1 hk;simp only at hk hna;rw [List.getElem?_map,Option.map_eq_some_iff] at hk;obtain ⟨⟨d',m⟩,hk2,rfl⟩:=hk;have hmm:=hm _ (zz8 hk2);obtain ⟨li,ei⟩:=zz6 hi;obtain ⟨lk,ek⟩:=zz6 hk2
  have o1:k<i->m<j:=fun h=>by
   have:=List.pairwise_iff_getElem.1 hp k i lk li h;rw [ei,ek] at this;exact this
  have o2:i<k->j<m:=fun h=>by
   have:=List.pairwise_iff_getElem.1 hp i k li lk h;rw [ei,ek] at this;exact this
  have:M6 s j c'=true:=by
   unfold M6;refine List.any_eq_true.2 ⟨(d',m),List.mem_zipIdx_iff_getElem?.2 hmm.1, ?_⟩;unfold L6 at hna⊢;simp only [Bool.and_eq_true,Bool.or_eq_true,decide_eq_true_eq] at hna⊢;exact ⟨zo,hna.2.1,hna.2.2.imp_left o1⟩
  rw [hj.2] at this;cases this
theorem a8W {t:List Cnd} (h:∀i c,t[i]? =some c->M6 t i c=false):A9 t t.length=t:=by
 rw [Z8,List.filter_eq_self.2 (fun p hp=>by rw [h p.2 p.1 (List.mem_zipIdx_iff_getElem?.1 hp)];rfl)];exact List.zipIdx_map_fst ..
theorem a8X (l:List Cnd):j4 (j4 l)=j4 l:=by
 obtain ⟨t,ht⟩:∃t,j4 l=t:=⟨_,rfl⟩;have e:t=A9 (L7 l) (L7 l).length:=by rw [<-ht,a0M];rfl
 have hs:t.Pairwise fun a b=>ltC b a=false:=by
  rw [e,Z8];have h1:((L7 l).zipIdx.map Prod.fst)=L7 l:=List.zipIdx_map_fst ..;have h2:=a8T (l.map Cnd.norm);rw [show F3 ltC (l.map Cnd.norm)=L7 l from rfl,<-h1] at h2;exact List.pairwise_map.2 ((List.pairwise_map.1 h2).filter _)
 have hn:t.map Cnd.norm=t:=by
  refine List.map_congr_left (g:=id) (fun c hc=> ?_)|>.trans (List.map_id _);rw [<-ht] at hc;obtain ⟨d, -,rfl⟩:=R7 (a0Q hc);exact a5i d
 rw [ht];have h3:L7 t=t:=by unfold L7;rw [hn];exact a8U hs
 unfold j4;rw [h3]
 exact a8W fun i c hc=>by
  rw [e] at hc⊢;exact a8V hc
theorem b42 {α:Type} (f:Nat->α) (i:Nat) (x y:α):upd (upd f i x) i y=upd f i y:=by
 funext j;unfold upd;split<;>rfl
def okN (q:Fil):Prop:=∃l,l9 q.1 l=true/\(∀c∈l,c.v.num<2^64)/\q.2=j4 l
theorem a9N {p q:Fil} (hp:okN p) (hq:okN q) (h:j5 p=j5 q):p=q:=by
 obtain ⟨ps,pl⟩:=p;obtain ⟨qs,ql⟩:=q;obtain ⟨l,h1,h2,h3⟩:=hp;obtain ⟨m,h4,h5,h6⟩:=hq;simp only at h3 h6 h1 h4;subst h3;subst h6;exact b2Z h1 h4 h2 h5 h
theorem a2v {fs:ByteArray} {fl:List Cnd} (h:l9 fs fl=true) (hn:∀c∈fl,c.fits):okN (fs,j4 fl):=⟨fl,h,fun c hc=>(hn c hc).v.num,rfl⟩
theorem b5A {fs:ByteArray} {fl:List Cnd} (h:l9 fs fl=true) (hn:∀c∈fl,c.fits):okQ (fs,j4 fl):=by
 obtain ⟨h1,h2, -⟩:=C7 h;have h3:=D9 fl;refine ⟨?_,G6 hn, ?_⟩
 ·show (j4 fl).length<=19;omega
 show fs.size<=1000000;omega
def RS.tadd (R:RS) (frm:Int) (f:Fil):RS:=if (o5 R.M frm (j5 f)).isNone then {R with M:=R.M++[(frm,f)],N:=R.N+1} else R
def RS.trem (R:RS) (frm:Int) (f:Fil):RS:={R with M:=a4F R.M frm (j5 f)}
def RS.addS (R:RS) (k:Int) (who:ByteArray) (f:Fil):RS:={R with S:=R.S++[(k,who,f)]}
def RS.addI (R:RS) (k:Int) (f:Fil):RS:={R with I:=R.I++[(k,f)],T:=R.T+20}
def RS.sub (R:RS) (k:Int) (who:ByteArray) (f:Fil):RS:=((R.addS k who f).addI k f).tadd (-1) f
structure RS.Go (R:RS):Prop where
 n:R.N<=999
 t:R.T<=90000
 k:R.K<=1000000
 g:GOk R.G
 m:∀p∈R.M,okN p.2
 s:R.S.length<=1000
theorem a9O {M:List (Int×Fil)} (h:∀p∈M,okN p.2):∀p∈M,∀q∈M,j5 p.2=j5 q.2->p.2=q.2:=fun p hp q hq e=>a9N (h p hp) (h q hq) e
theorem RS.tadd_m {R:RS} (h:∀p∈R.M,okN p.2) (frm:Int) {f:Fil} (hf:okN f):∀p∈(R.tadd frm f).M,okN p.2:=fun p hp=>by
 unfold RS.tadd at hp;split at hp
 ·rcases zz14 hp with hp|hp
  ·exact h p hp
  rw [List.mem_singleton.1 hp];exact hf
 exact h p hp
theorem RS.tadd_n (R:RS) (frm:Int) (f:Fil):(R.tadd frm f).N<=R.N+1:=by
 unfold RS.tadd;split
 ·exact Nat.le_refl _
 exact Nat.le_succ _
theorem RS.tadd_eq (R:RS) (frm:Int) (f:Fil):(R.tadd frm f).G=R.G/\(R.tadd frm f).K=R.K/\(R.tadd frm f).S=R.S/\(R.tadd frm f).I=R.I/\(R.tadd frm f).T=R.T:=by
 unfold RS.tadd;split<;>exact ⟨rfl,rfl,rfl,rfl,rfl⟩
theorem a3d.tadd {w:World} {ow:Ow} {c t tb ib sb mb:Nat} {R:RS} {frm:Int} {f:Fil} (h1:I3 w ow (c+1+t) tb (R.tadd frm f).M (R.tadd frm f).N) (h2:a03 w ow (c+5+t) ib R.I R.T) (h3:K5 w ow (c+9+t) sb R.S) (h4:M8 w ow (c+13+t) mb R.G R.K):a3d w ow c t tb ib sb mb (R.tadd frm f):=by
 obtain ⟨e1,e2,e3,e4,e5⟩:=R.tadd_eq frm f;exact ⟨h1,by rw [e4,e5];exact h2,by rw [e3];exact h3,by rw [e1,e2];exact h4⟩
theorem I3.len {w:World} {ow:Ow} {c b:Nat} {M:List (Int×Fil)} {N:Nat} (h:I3 w ow c b M N):M.length<=N:=by
 obtain ⟨mo,h⟩:=h;exact h.low
def a1U (L:List PRu) (tenant:Int) (who:ByteArray) (gs:ByteArray) (m:List Cnd):Bool:=
 (a1A L tenant who).isSome&&L.any fun p=>(p.lies none 0).of 2 tenant who&&b0a gs m (p.lies none 0)
theorem a5Z (l:List Ru) (tenant:Int) (who:ByteArray) (gs:ByteArray) (m:List Cnd):
 a1U (l.map Ru.pru) tenant who gs m=((q9 l tenant who).isSome&&l.any fun r=>r.of 2 tenant who&&b0a gs m r):=by
 unfold a1U;rw [a4a,List.any_map];rfl
def BS.subE (B:BS) (id:Int) (t:Nat) (who fs:ByteArray) (fl:List Cnd):Int:=
 if l9 fs fl=true then if B.there id t who=true then if a1U (atP B.L B.L.length) t who fs fl=true then if (B.R t).S.length=8 then 6 else 0 else 5 else 3 else 1
def BS.setR (B:BS) (t:Nat) (R:RS):BS:={B with R:=upd B.R t R}
theorem BS.setR_at (B:BS) (t:Nat) (R:RS):(B.setR t R).R t=R:=a1k _ _ _
theorem BS.setR_ne (B:BS) {t j:Nat} (R:RS) (h:j≠t):(B.setR t R).R j=B.R j:=a2q _ _ h
theorem BS.setR_set (B:BS) (t:Nat) (R R':RS):(B.setR t R).setR t R'=B.setR t R':=by
 unfold BS.setR;rw [b42]
theorem BS.setR_self (B:BS) (t:Nat):B.setR t (B.R t)=B:=by
 unfold BS.setR
 have:upd B.R t (B.R t)=B.R:=by
  funext j;unfold upd;split
  ·rename_i e;rw [e]
  rfl
 rw [this]
theorem BS.told_is (B:BS) (t:Nat) (near:List Int):B.told t near=B.setR t ((B.R t).refr near):=rfl
def BS.anew (B:BS) (t:Nat) (R:RS) (near:List Int):BS:=B.setR t (R.refr near)
theorem BS.told_set (B:BS) (t:Nat) (R:RS) (near:List Int):(B.setR t R).told t near=B.anew t R near:=by
 rw [BS.told_is,BS.setR_at,BS.setR_set];rfl
def W4 (c t:Nat) (tg:Nat->Prop):Nat->Prop:=fun q=>(q=c+1+t\/q=c+5+t\/q=c+9+t\/q=c+13+t)\/tg q
theorem J0.realm {F:Nat->Prop} {w0 w w':World} {ow ow':Ow} {c g:Nat} {id:Int} {near:List Int} {B:BS} {a:BAd} (h:J0 w ow c g id near B a) (hw:Owd w0 w ow) {t:Nat} (ht:t<4) (s:Mov F w ow w' ow') (hF:∀q,F q->q=c+1+t\/q=c+5+t\/q=c+9+t\/q=c+13+t) {R:RS}
 (hr:a3d w' ow' c t (a.tb t) (a.ib t) (a.sb t) (a.mb t) R):J0 w' ow' c g id near (B.setR t R) a:=by
 have hc:=h.c2;obtain ⟨L,h1,h2⟩:=h.log;have h0:¬F 0:=fun h=>by have:=hF 0 h;omega
 refine ⟨h.c2,⟨L,h1.mov s h0 (fun h=>by have:=hF _ h;omega) (fun h=>by have:=hF _ h;omega),h2⟩,h.near.mov s h0 zo,fun j hj=> ?_⟩;have hj':=h.rea j hj;by_cases e:j=t
 ·subst e;rw [BS.setR_at];exact hr
 rw [BS.setR_ne _ _ e];exact hj'.mov hw s h0 ⟨fun h=>by have:=hF _ h;omega,fun h=>by have:=hF _ h;omega,fun h=>by have:=hF _ h;omega,fun h=>by have:=hF _ h;omega⟩ hc
theorem Idx.cut {w:World} {b:Nat} {own C:Nat->Prop} {I:List (Int×Fil)} {T:Nat} (h:Idx w b own C I T):Idx w b own (fun k=>C k/\¬own k) I T:=by
 obtain ⟨m1,m2,h⟩:=h;refine ⟨m1,m2,h.row,h.nd,h.ob,h.ne, ?_,h.pm,h.low,h.olow,fun k hk=>h.clow k hk.1,h.wf,h.sc⟩;obtain ⟨f,g1,g2⟩:=h.fm;refine ⟨f,g1,fun id=> ?_⟩;have h3:=g2 id;cases hf:f (.int .i64 id)<;>cases hq:B7 I id<;>rw [hf,hq] at h3
 ·trivial
 ·exact h3
 ·exact h3
 obtain ⟨a,cap,e1,e2,e3⟩:=h3;exact ⟨a,cap,e1,e2,fun k hk=>⟨(e3 k hk).1,(e3 k hk).2.1,(e3 k hk).2.2,(e3 k hk).2.1⟩⟩
theorem a0X {M:List (Int×Fil)} {near:List Int} {G:Int->List Fil} {X:Nat} (hG:∀n,(G n).length<=X) (hM:M.length<=X) (ten:Int):(A3 M ten near G).length<=near.length*(2*X):=by
 induction near generalizing G with
 |nil=>simp [A3]
 | cons a near ih=>
  have h1:=ih (G:=T8 G a (B8 M a)) (fun n=>by
   unfold T8;split
   ·exact Nat.le_trans (a0W M a) hM
   ·exact hG n)
  have h2:=hG a;have h3:=Nat.le_trans (a0W M a) hM;have h4:(K4 (B8 M a) (G a)).length<=(B8 M a).length:=List.length_filter_le _ _;have h5:(K4 (G a) (B8 M a)).length<=(G a).length:=List.length_filter_le _ _;have h6:=a5h a ten (G a) (B8 M a);show (X4 a ten (G a) (B8 M a)++A3 M ten near (T8 G a (B8 M a))).length<=_;rw [zz4,zz9,Nat.add_mul];omega
theorem I3.keep {w0 w w':World} {ow:Ow} {c b:Nat} {M:List (Int×Fil)} {N:Nat} (hw:Owd w0 w ow) (h2:2<=c) (h:Tab w' b (fun k=>ow k=c) (fun k=>ow k=0/\k<w.heap.size) M N) (hm:Mod (fun k=>ow k=c) w w'):I3 w' ow c b M N:=by
 refine h.cong (fun k hk=>hk) (fun k hk=>⟨hk.1,zz13 hk.2 hm.size⟩) (fun k hk hk2=> ?_) (fun k hk=> ?_) (fun k hk=>hk.2)
 ·have hk':ow k=c:=hk;have:=hk2.1;omega
 have hk':ow k=c:=hk;exact zz13 (hw.hi k zo) hm.size
theorem Owd.lo' {w0 w:World} {ow:Ow} (hw:Owd w0 w ow) {c:Nat} (h2:2<=c):∀k,ow k=c->w0.heap.size<=k:=fun k hk=>hw.lo k zo
theorem a7k (w0 w:World) (ow:Ow) (hw:Owd w0 w ow) (c b:Nat) (h2:2<=c) (R:RS) (h:I3 w ow c b R.M R.N) (hN:R.N<=100000) (frm:Int) (hfw:(Lit.int .i64 frm).wf=true) (sc:ByteArray) (a:Option Addr) (cap:Nat) (l:List Cnd)
 (hv:j3 w 7 (.slice a l.length cap) l.length (m5 l)) (hll:l.length<20) (hcs:∀c∈l,c.fits) (hsc:sc.size<=1000000):
 Calls Tryz.prog 28 #[.pointer (some ⟨b,0,none⟩),.int .i64 frm,.agg #[.string sc,.slice a l.length cap]] w fun e w'=>e= .returned (.bool (o5 R.M frm (j5 (sc,j4 l))).isNone)/\
  ∃ow',I3 w' ow' c b (R.tadd frm (sc,j4 l)).M (R.tadd frm (sc,j4 l)).N/\Mov (fun q=>q=c) w ow w' ow':=by
 refine (b4F w0 w hw.laid b _ _ R.M R.N h hN (hw.lo' h2) frm hfw sc _ l hv hll hcs hsc).mono fun e w' hp=> ?_;rcases hp with ⟨h1,rfl,hm⟩|⟨h1,rfl,own',C',hT,ho1,ho2,hC,hm⟩
 ·have hs:(o5 R.M frm (j5 (sc,j4 l))).isNone=false:=by
   cases hq:o5 R.M frm (j5 (sc,j4 l)) with
   |none=>exact absurd hq h1
   |some q=>rfl
  have e:R.tadd frm (sc,j4 l)=R:=by unfold RS.tadd;rw [hs];rfl
  rw [e];exact ⟨by rw [hs],ow,I3.mov h hw (Mov.of hw hm (fun _=>False)) id id h2,Mov.of hw hm _⟩
 have e:R.tadd frm (sc,j4 l)={R with M:=R.M++[(frm,(sc,j4 l))],N:=R.N+1}:=by unfold RS.tadd;rw [h1];rfl
 rw [e,h1];exact ⟨rfl,_,I3.new hw h2 hT ho2 hC hm,Mov.tag rfl hm⟩
theorem a5l {M:List (Int×Fil)} {id:Int} {k:List UInt8} (h:o5 M id k=none):a4F M id k=M:=List.filter_eq_self.2 fun p hp=>by
 obtain ⟨x,q⟩:=p;by_cases e:x=id
 ·subst e;have:=a2j h q hp;simp [this]
 simp [e]
theorem b3d (w0 w:World) (ow:Ow) (hw:Owd w0 w ow) (c b:Nat) (h2:2<=c) (R:RS) (h:I3 w ow c b R.M R.N) (hN:R.N<=100000) (frm:Int) (hfw:(Lit.int .i64 frm).wf=true) (sc:ByteArray) (a:Option Addr) (cap:Nat) (l:List Cnd)
 (hv:j3 w 7 (.slice a l.length cap) l.length (m5 l)) (hll:l.length<20) (hcs:∀c∈l,c.fits) (hsc:sc.size<=1000000):
 Calls Tryz.prog 30 #[.pointer (some ⟨b,0,none⟩),.int .i64 frm,.agg #[.string sc,.slice a l.length cap]] w fun e w'=>e= .returned (.bool (o5 R.M frm (j5 (sc,j4 l))).isSome)/\
  I3 w' ow c b (R.trem frm (sc,j4 l)).M (R.trem frm (sc,j4 l)).N/\Mov (fun q=>q=c) w ow w' ow:=by
 refine (b4L w0 w hw.laid b _ _ R.M R.N h hN frm hfw sc _ l hv hll hcs hsc).mono fun e w' hp=> ?_;rcases hp with ⟨h1,rfl,hm⟩|⟨h1,rfl,hT,hm⟩
 ·have e:R.trem frm (sc,j4 l)=R:=by unfold RS.trem;rw [a5l h1]
  rw [e,h1];exact ⟨rfl,I3.mov h hw (Mov.of hw hm (fun _=>False)) id id h2,Mov.of hw hm _⟩
 have hs:(o5 R.M frm (j5 (sc,j4 l))).isSome=true:=by
  cases hq:o5 R.M frm (j5 (sc,j4 l)) with
  |none=>exact absurd hq h1
  |some q=>rfl
 exact ⟨by rw [hs],I3.keep hw h2 hT hm,Mov.wrote hw hm (fun k hk=>hk)⟩
theorem b3e (w0 w:World) (ow:Ow) (hw:Owd w0 w ow) (c b:Nat) (h2:2<=c) (I:List (Int×Fil)) (T:Nat) (h:a03 w ow c b I T) (hT:T<=100000) (k:Int) (lU:(Lit.int .i64 k).wf=true) (hk:B7 I k=none) (sc:ByteArray) (a:Option Addr) (cap:Nat) (l:List Cnd)
 (hv:j3 w 7 (.slice a l.length cap) l.length (m5 l)) (hll:l.length<20) (hcs:∀c∈l,c.fits) (hsc:sc.size<=1000000):
 Calls Tryz.prog 36 #[.pointer (some ⟨b,0,none⟩),.int .i64 k,.agg #[.string sc,.slice a l.length cap]] w fun e w'=>e= .returned (.bool true)/\
  ∃ow',a03 w' ow' c b (I++[(k,(sc,j4 l))]) (T+20)/\Mov (fun q=>q=c) w ow w' ow':=by
 refine (b4o w0 w hw.laid b _ _ I T h hT (hw.lo' h2) k lU sc _ l hv hll hcs hsc).mono fun e w' hp=> ?_;rcases hp with ⟨h1, -⟩|⟨h1,rfl,own',C',hI,ho1,ho2,hC,hm⟩
 ·exact absurd hk h1
 exact ⟨rfl,_,a03.new hw h2 hI.cut ho2 (fun k ho hc=>hc.2 ho) (fun k hk=>hC k hk.1) hm,Mov.tag rfl hm⟩
def RS.hear (R:RS) (frm:Int) (f:Fil) (on:Bool):RS:=if on then R.tadd frm f else R.trem frm f
def RS.news (R:RS) (frm:Int) (f:Fil) (on:Bool):Bool:=if on then (o5 R.M frm (j5 f)).isNone else (o5 R.M frm (j5 f)).isSome
def BS.takeB (B:BS) (near:List Int) (t:Nat) (frm:Int) (f:Fil) (on:Bool):BS:=if (B.R t).news frm f on then B.anew t ((B.R t).hear frm f on) near else B
def BS.takeS (B:BS) (near:List Int) (t:Nat) (frm:Int) (f:Fil) (on:Bool):List Sd:=if (B.R t).news frm f on then A3 ((B.R t).hear frm f on).M t near (B.R t).G else []
def b3f {w0:World} {q:Nat} (O:B6 w0 q) (w:World) (ow:Ow) (c g:Nat) (id:Int) (near:List Int) (B:BS) (t:Nat) (s:O.σ) (frm:Int) (f:Fil) (on:Bool) (e:Ending) (w':World):Prop:=
 e= .returned (.bool true)/\∃ow',Bro w' ow' c g id near (B.takeB near t frm f on)/\O.inv w' ow' (O.sends s (B.takeS near t frm f on))/\Mov (W4 c t O.tg) w ow w' ow'
def tkK:Bool->Int
 |true=>1
 |false=>2
structure TkS (g t k tb:Nat) (fs:ByteArray) (fa:Option Addr) (n fc:Nat) (y:World):Prop where
 t0:y.cell? ⟨g,3+t*4,none⟩=some (.pointer (some ⟨tb,0,none⟩))
 e0:y.cell? ⟨k,10,none⟩=some (.string fs)
 e1:y.cell? ⟨k,11,none⟩=some (.slice fa n fc)
theorem a7l {M:List (Int×Fil)} (h:∀p∈M,okN p.2) (frm:Int) (k:List UInt8):∀p∈a4F M frm k,okN p.2:=fun p hp=>h p (a4f hp)
theorem b3g (on:Bool) (w0 w:World) (ow:Ow) (hw:Owd w0 w ow) (c g:Nat) (id:Int) (near:List Int) (B:BS) (h:Bro w ow c g id near B) (hnl:near.length<=1000) (hnw:∀n∈near,(Lit.int .i64 n).wf=true) (t:Nat) (ht:t<4)
 (q:Nat) (O:B6 w0 q) (s:O.σ) (hO:O.inv w ow s) (jy:∀t,O.tg t->t<c\/c+18<=t) (hto:∀n∈near,O.okTo n t) (hcnt:O.cnt s<=300000000000) (hR:RS.Go (B.R t)) (frm:Int) (hfw:(Lit.int .i64 frm).wf=true)
 (x:Mv) (hk:x.m.kind=tkK on) (hf:j3 w 7 (.slice x.fa x.m.fl.length x.fc) x.m.fl.length (m5 x.m.fl)) (hfr:l9 x.m.fs x.m.fl=true) (hft:∀c∈x.m.fl,c.fits):
 Calls Tryz.prog 9 #[.pointer (some ⟨g,0,none⟩),.iface 51 (.pointer (some ⟨q,0,none⟩)),.int .i64 frm,.int .i64 t,.agg x.cells.toArray] w (b3f O w ow c g id near B t s frm (x.m.fs,j4 x.m.fl) on):=by
 obtain ⟨a,h⟩:=h;obtain ⟨wa,aD,ah,ae,au⟩:=g8 w (.cells x.cells.toArray 33);have mD:(t:Int)<4:=zo
 have ht0:(0:Int)<=t:=zo
 have hmd:=ah.trans ((Mod.refl (fun _=>False) wa).drew) zi;have hvd:=Mov.of hw hmd (fun _=>False);have hwd:=hvd.owd hw (fun h=>h);have hbd:=h.mov hw hvd (fun h=>h) (fun _ h=>h.elim);have Du:=O.mov hO hw hvd (fun h=>h) (fun _ h=>h.elim);have hgd:=((Mod.refl (fun _=>False) wa).drew).heap ae (fun h=>h);have hrd:=hbd.rea t ht;have hc2:=hbd.c2;obtain ⟨hb1,hb2, -⟩:=C7 hfr;have hk0:wa.cell? ⟨w.heap.size,0,none⟩=some (.int .i64 x.m.kind):=d6 ae rfl;have mR:=a2v hfr hft;obtain ⟨f,iX⟩:∃f:Fil,(x.m.fs,j4 x.m.fl)=f:=⟨_,rfl⟩
 have vG:Calls Tryz.prog (if on then 28 else 30) #[.pointer (some ⟨a.tb t,0,none⟩),.int .i64 frm,.agg #[.string x.m.fs,.slice x.fa x.m.fl.length x.fc]] wa.drew fun e w'=>e= .returned (.bool ((B.R t).news frm f on))/\
  ∃ow',I3 w' ow' (c+1+t) (a.tb t) ((B.R t).hear frm f on).M ((B.R t).hear frm f on).N/\Mov (fun q=>q=c+1+t) wa.drew ow w' ow':=by
  cases on with
  |true=>
   have:=a7k w0 wa.drew ow hwd (c+1+t) (a.tb t) zo (B.R t) hrd.tab (by have:=hR.n;omega) frm hfw x.m.fs x.fa x.fc x.m.fl (hf.mod hmd zi) zo hft zo;rw [iX] at this;exact this
  |false=>
   have:=b3d w0 wa.drew ow hwd (c+1+t) (a.tb t) zo (B.R t) hrd.tab (by have:=hR.n;omega) frm hfw x.m.fs x.fa x.fc x.m.fl (hf.mod hmd zi) zo hft zo;rw [iX] at this;exact this.mono fun e w' ⟨he,hT,hm⟩=>⟨he,ow,hT,hm⟩
 have hfin:∀(w':World) (ow':Ow) (hT:I3 w' ow' (c+1+t) (a.tb t) ((B.R t).hear frm f on).M ((B.R t).hear frm f on).N) (sm:Mov (fun q=>q=c+1+t) wa.drew ow w' ow'),Owd w0 w' ow'/\J0 w' ow' c g id near (B.setR t ((B.R t).hear frm f on)) a/\O.inv w' ow' s/\Mov (W4 c t O.tg) w ow w' ow':=fun w' ow' hT sm=>by
  refine ⟨sm.owd hwd zo,hbd.realm hwd ht sm (fun q hq=> .inl hq) ?_,O.mov Du hwd sm zo (fun q e he=>by have:=jy q he;omega),(hvd.mono (fun _ h=>h.elim)).trans (sm.mono (fun _ h=> .inl (.inl h)))⟩;have h2:=hrd.idx.mov hwd sm zo zo zo;have h3:=hrd.sub.mov sm zo zo;have h4:=hrd.snt.mov sm zo zo
  cases on with
  |true=>exact a3d.tadd hT h2 h3 h4
  |false=>exact ⟨hT,h2,h3,h4⟩
 have SI:∀p∈((B.R t).hear frm f on).M,okN p.2:=by
  cases on with
  |true=>exact RS.tadd_m hR.m frm (iX▸mR)
  |false=>exact a7l hR.m frm _
 have XA:((B.R t).hear frm f on).N<=1000:=by
  have:=hR.n
  cases on with
  |true=>exact Nat.le_trans (RS.tadd_n _ _ _) zo
  |false=>show (B.R t).N<=1000;omega
 have hRk:((B.R t).hear frm f on).K=(B.R t).K/\((B.R t).hear frm f on).G=(B.R t).G:=by
  cases on with
  |true=>exact ⟨((B.R t).tadd_eq frm f).2.1,((B.R t).tadd_eq frm f).1⟩
  |false=>exact ⟨rfl,rfl⟩
 have hno:(B.R t).news frm f on=false->(B.R t).hear frm f on=B.R t:=fun hn=>by
  cases on with
  |true=>
   show (B.R t).tadd frm f=B.R t;unfold RS.tadd;rw [show (o5 (B.R t).M frm (j5 f)).isNone=false from hn];rfl
  | false=>
   have h1:o5 (B.R t).M frm (j5 f)=none:=by
    cases hq:o5 (B.R t).M frm (j5 f) with
    |none=>rfl
    |some q=>
     have h2:(o5 (B.R t).M frm (j5 f)).isSome=false:=hn;rw [hq] at h2;cases h2
   show (B.R t).trem frm f=B.R t;unfold RS.trem;rw [a5l h1]
 obtain ⟨NW,tH⟩:∃NW,(B.R t).news frm f on=NW:=⟨_,rfl⟩;rw [tH] at vG hno;rw [iX];have hS:TkS g t w.heap.size (a.tb t) x.m.fs x.fa x.m.fl.length x.fc wa.drew:=⟨(hbd.cells ht).1,d6 hgd rfl,d6 hgd rfl⟩
 have hgo:∀(w':World) (ow':Ow),Owd w0 w' ow'->J0 w' ow' c g id near (B.setR t ((B.R t).hear frm f on)) a->O.inv w' ow' s->Calls Tryz.prog 29 #[.pointer (some ⟨g,0,none⟩),.iface 51 (.pointer (some ⟨q,0,none⟩)),.int .i64 t] w' (a7i O w' ow' c g id near (B.setR t ((B.R t).hear frm f on)) t s):=fun w' ow' h1 h2 h3=>by
  have nT:=BS.setR_at B t ((B.R t).hear frm f on)
  have pM:((B.R t).hear frm f on).M.length<=1000000:=by
   have h4:=(h2.rea t ht).tab;rw [nT] at h4;exact Nat.le_trans (I3.len h4) zo
  have hlen:=a0X (near:=near) hR.g.len pM t;exact a4k w0 w' ow' c g id near (B.setR t ((B.R t).hear frm f on)) h1 ⟨a,h2⟩ q O s h3 jy t ht (by rw [nT,hRk.2];have:near.length*(2*1000000)<=1000*(2*1000000):=Nat.mul_le_mul_right _ hnl;omega) hnl hnw hto (by rw [nT];exact XA) (by rw [nT,hRk.1];exact hR.k) (by rw [nT,hRk.2];exact hR.g) (by rw [nT];exact a9O SI)
 have JX:=hRk.2
 have kS:w.alloc (.cells #[.int .i64 x.m.kind,.int .i64 x.m.at_,.int .i64 x.m.rule.kind,.int .i64 x.m.rule.tenant,.string x.m.rule.who,.int .i64 x.m.rule.broker,.string x.m.rule.sc,.slice x.ra x.m.rule.cs.length x.rc,.string x.m.rule.name,.int .i64 x.m.rule.at_,
  .string x.m.fs,.slice x.fa x.m.fl.length x.fc,.string x.m.es,.slice x.ea x.m.el.length x.ec,.int .i64 x.m.ver,.string x.m.org,.int .i64 x.m.ser] 33)=wa:=aD
 obtain ⟨Hw,H,HO,kw,vD,HR,Hfw,Hf,bB,kE,aF,kT⟩:=zh12 hw h hO jy hto hR hfw hf hfr hft aD kS;obtain ⟨aB,aH,Hmd,AB,Pv,Hbd,HOd,Hgd,iq,KI,uU,Dv⟩:=zh12 ah ae hmd hvd hwd hbd Du hgd hrd mR iX vG;obtain ⟨cZ,HRm,HRk,Hno,vH,xw,JY,iY⟩:=zh8 hfin SI hRk hno tH hgo JX hnw;clear hw h hO jy hto hR hfw hf hfr hft aD kS ah ae hmd hvd hwd hbd Du hgd hrd mR iX vG hfin SI hRk hno tH hgo JX hnw au hb1 hb2 XA
 cases on with
 | true=>
  have hkk:x.m.kind=1:=hk;rw [hkk] at hk0;have xH:=zh hkk;clear hkk hk
  go_enter Tryz.func9,Tryz.ntmps9
  go_wp2_with (first|(rw [show w.alloc _=wa from kT.out])|(rw [show w.alloc _=wa from aF.out]))
  refine i8 [.rd 0,.rd 1,.rd 2,.rd 3,.rd 4,.rd 5,.rd 6,.rd 7,.rd 8,.rd 9,.go 10] [0,1,2,3,4,5,6,7,8,9] (TkS g t w.heap.size (a.tb t) x.m.fs x.fa x.m.fl.length x.fc) zk zk (fun _ _ d _ _ h=>(by cases d<;>exact h)) ?_
  iterate 10 (
   refine n4 rfl ?_ (fun _=>hS) ?_ (fun w0 h0=> ?_) (fun K hK=> ?_)
   ·exact zg
   rotate_left
   ·(try simp only [zz1,zz2,zz3])
    first
     |(obtain ⟨f0,f1,f2⟩:=h0 rfl;clear h0;go_simp;with_reducible rfl)
     |(clear h0;go_simp;with_reducible rfl)
   (try simp only [zz1,zz2,zz3])
   go_simp;refine hK _ ?_;clear hK K)
  refine i6 (j0 rfl ?_ (fun K hK=> ?_))
  ·exact zg
  go_wp2_with fail
  refine Dv.out.mono ?_;rintro e w1 ⟨rfl,ow1,hT1,s1⟩;refine hK _ _ (fun h=>absurd h zd) ?_;clear hK K hS;refine m6 ?_;obtain ⟨ji,hb1,vF,hm1⟩:=cZ.out w1 ow1 hT1 s1;have lu:=xw.out w1 ow1 ji hb1 vF;obtain ⟨jM,Hb1,Kc,dB,tJ,HT1,S1⟩:=zh7 ji hb1 vF hm1 lu hT1 s1;clear ji hb1 vF hm1 lu hT1 s1
  cases NW with
  | false=>
   go_wp2
   go_ret;refine ⟨rfl,ow1,⟨a, ?_⟩, ?_,dB.out⟩
   ·unfold BS.takeB;rw [vH.out,if_neg zd];have h1:=Hb1.out;rw [Hno.out trivial] at h1;rw [BS.setR_self] at h1;exact h1
   ·unfold BS.takeS;rw [vH.out,if_neg zd];exact Kc.out
  | true=>
   go_wp2_with fail
   refine tJ.out.mono ?_;rintro e w2 ⟨rfl,ow2,hb2,hO2,hm2⟩;rw [BS.told_set] at hb2;rw [BS.setR_at,JY.out] at hO2;have hmv:=dB.out.trans (hm2.mono (G:=W4 c t O.tg) (fun q h=>h.elim (fun h=> .inl (.inr (.inr (.inr h)))) (fun h=> .inr h)));obtain ⟨Hb2,vE,bq,nS⟩:=zh4 hb2 hO2 hm2 hmv;clear hb2 hO2 hm2 hmv
   go_wp2
   go_ret;refine ⟨rfl,ow2, ?_, ?_,nS.out⟩
   ·unfold BS.takeB;rw [vH.out,if_pos rfl];exact Hb2.out
   ·unfold BS.takeS;rw [vH.out,if_pos rfl];exact vE.out
 | false=>
  have hkk:x.m.kind=2:=hk;rw [hkk] at hk0;have xH:=zh hkk;clear hkk hk
  go_enter Tryz.func9,Tryz.ntmps9
  go_wp2_with (first|(rw [show w.alloc _=wa from kT.out])|(rw [show w.alloc _=wa from aF.out]))
  refine i8 [.rd 0,.rd 1,.rd 2,.rd 3,.rd 4,.rd 5,.rd 6,.rd 7,.rd 8,.rd 9,.go 10] [0,1,2,3,4,5,6,7,8,9] (TkS g t w.heap.size (a.tb t) x.m.fs x.fa x.m.fl.length x.fc) zk zk (fun _ _ d _ _ h=>(by cases d<;>exact h)) ?_
  iterate 10 (
   refine n4 rfl ?_ (fun _=>hS) ?_ (fun w0 h0=> ?_) (fun K hK=> ?_)
   ·exact zg
   rotate_left
   ·(try simp only [zz1,zz2,zz3])
    first
     |(obtain ⟨f0,f1,f2⟩:=h0 rfl;clear h0;go_simp;with_reducible rfl)
     |(clear h0;go_simp;with_reducible rfl)
   (try simp only [zz1,zz2,zz3])
   go_simp;refine hK _ ?_;clear hK K)
  refine i6 (j0 rfl ?_ (fun K hK=> ?_))
  ·exact zg
  go_wp2_with fail
  refine Dv.out.mono ?_;rintro e w1 ⟨rfl,ow1,hT1,s1⟩;refine hK _ _ (fun h=>absurd h zd) ?_;clear hK K hS;refine m6 ?_;obtain ⟨ji,hb1,vF,hm1⟩:=cZ.out w1 ow1 hT1 s1;have lu:=xw.out w1 ow1 ji hb1 vF;obtain ⟨jM,Hb1,Kc,dB,tJ,HT1,S1⟩:=zh7 ji hb1 vF hm1 lu hT1 s1;clear ji hb1 vF hm1 lu hT1 s1
  cases NW with
  | false=>
   go_wp2
   go_ret;refine ⟨rfl,ow1,⟨a, ?_⟩, ?_,dB.out⟩
   ·unfold BS.takeB;rw [vH.out,if_neg zd];have h1:=Hb1.out;rw [Hno.out trivial] at h1;rw [BS.setR_self] at h1;exact h1
   ·unfold BS.takeS;rw [vH.out,if_neg zd];exact Kc.out
  | true=>
   go_wp2_with fail
   refine tJ.out.mono ?_;rintro e w2 ⟨rfl,ow2,hb2,hO2,hm2⟩;rw [BS.told_set] at hb2;rw [BS.setR_at,JY.out] at hO2;have hmv:=dB.out.trans (hm2.mono (G:=W4 c t O.tg) (fun q h=>h.elim (fun h=> .inl (.inr (.inr (.inr h)))) (fun h=> .inr h)));obtain ⟨Hb2,vE,bq,nS⟩:=zh4 hb2 hO2 hm2 hmv;clear hb2 hO2 hm2 hmv
   go_wp2
   go_ret;refine ⟨rfl,ow2, ?_, ?_,nS.out⟩
   ·unfold BS.takeB;rw [vH.out,if_pos rfl];exact Hb2.out
   unfold BS.takeS;rw [vH.out,if_pos rfl];exact vE.out
def BS.subB (B:BS) (id:Int) (near:List Int) (t:Nat) (who:ByteArray) (k:Int) (fs:ByteArray) (fl:List Cnd):BS:=
 if B.subE id t who fs fl=0 then B.anew t ((B.R t).sub k who (fs,j4 fl)) near else B
def BS.subS (B:BS) (id:Int) (near:List Int) (t:Nat) (who:ByteArray) (k:Int) (fs:ByteArray) (fl:List Cnd):List Sd:=
 if B.subE id t who fs fl=0 then A3 ((B.R t).sub k who (fs,j4 fl)).M t near (B.R t).G else []
def a1V {w0:World} {q:Nat} (O:B6 w0 q) (w:World) (ow:Ow) (c g:Nat) (id:Int) (near:List Int) (B:BS) (t:Nat) (s:O.σ) (who:ByteArray) (k:Int) (fs:ByteArray) (fl:List Cnd) (e:Ending) (w':World):Prop:=
 e= .returned (.int .i64 (B.subE id t who fs fl))/\∃ow',Bro w' ow' c g id near (B.subB id near t who k fs fl)/\O.inv w' ow' (O.sends s (B.subS id near t who k fs fl))/\Mov (W4 c t O.tg) w ow w' ow'
theorem a1V.no {w0:World} {q:Nat} {O:B6 w0 q} {w:World} {ow:Ow} {c g:Nat} {id:Int} {near:List Int} {B:BS} {t:Nat} {s:O.σ} {who:ByteArray} {k:Int} {fs:ByteArray} {fl:List Cnd} {w':World} {E:Int} (hw:Owd w0 w ow) (h:Bro w ow c g id near B) (hO:O.inv w ow s)
 (hm:Mod (fun _=>False) w w') (hE:B.subE id t who fs fl=E) (hn:E≠0):a1V O w ow c g id near B t s who k fs fl (.returned (.int .i64 E)) w':=by
 have h0:¬B.subE id t who fs fl=0:=by rw [hE];exact hn
 refine ⟨by rw [hE],ow, ?_, ?_,Mov.of hw hm _⟩
 ·unfold BS.subB;rw [if_neg h0];exact h.mov hw (Mov.of hw hm (fun _=>False)) (fun h=>h) (fun _ h=>h.elim)
 unfold BS.subS;rw [if_neg h0];exact O.mov hO hw (Mov.of hw hm (fun _=>False)) (fun h=>h) (fun _ h=>h.elim)
structure SuS (g t k sb ib tb:Nat) (fs:ByteArray) (fa:Option Addr) (n fc:Nat) (y:World):Prop where
 t0:y.cell? ⟨g,3+t*4,none⟩=some (.pointer (some ⟨tb,0,none⟩))
 i0:y.cell? ⟨g,3+t*4+1,none⟩=some (.pointer (some ⟨ib,0,none⟩))
 s0:y.cell? ⟨g,3+t*4+2,none⟩=some (.map (some sb))
 e0:y.cell? ⟨k,0,none⟩=some (.string fs)
 e1:y.cell? ⟨k,1,none⟩=some (.slice fa n fc)
theorem SuS.at {w:World} {ow:Ow} {c g:Nat} {id:Int} {near:List Int} {B:BS} {a:BAd} (h:J0 w ow c g id near B a) {t:Nat} (ht:t<4) {k:Nat} {fs:ByteArray} {fa:Option Addr} {n fc:Nat} (hg:w.heap[k]? =some (.cells #[.string fs,.slice fa n fc] 26 (0,0))):
 SuS g t k (a.sb t) (a.ib t) (a.tb t) fs fa n fc w:=by
 obtain ⟨q0,q1,q2, -⟩:=h.cells ht;exact ⟨q0,q1,q2,d6 hg rfl,d6 hg rfl⟩
theorem a50 (w0 w:World) (ow:Ow) (hw:Owd w0 w ow) (c g:Nat) (id:Int) (near:List Int) (B:BS) (h:Bro w ow c g id near B) (hL:B.L.length<=40) (hnl:near.length<=1000) (hnw:∀n∈near,(Lit.int .i64 n).wf=true) (t:Nat) (ht:t<4)
 (q:Nat) (O:B6 w0 q) (s:O.σ) (hO:O.inv w ow s) (jy:∀t,O.tg t->t<c\/c+18<=t) (hto:∀n∈near,O.okTo n t) (hcnt:O.cnt s<=300000000000) (hR:RS.Go (B.R t)) (who:ByteArray) (k:Int) (lU:(Lit.int .i64 k).wf=true) (XB:T7 (B.R t).S k=none) (XC:B7 (B.R t).I k=none)
 (fs:ByteArray) (fa:Option Addr) (fc:Nat) (fl:List Cnd) (hf:j3 w 7 (.slice fa fl.length fc) fl.length (m5 fl)) (hfs:fs.size<=1000000) (hfl:fl.length<=1000) (hft:∀c∈fl,c.fits):
 Calls Tryz.prog 10 #[.pointer (some ⟨g,0,none⟩),.iface 51 (.pointer (some ⟨q,0,none⟩)),.int .i64 t,.string who,.int .i64 k,.agg #[.string fs,.slice fa fl.length fc]] w (a1V O w ow c g id near B t s who k fs fl):=by
 obtain ⟨a,h⟩:=h;obtain ⟨wa,aD,ah,ae,au⟩:=g8 w (.cells #[.string fs,.slice fa fl.length fc] 26)
 have hF:∀wx,Mod (fun _=>False) wa wx->PbS wa w.heap.size fs fa fl.length fc wx:=fun wx hm=>
  ⟨hm.cell (d6 ae rfl) (fun h=>h),hm.cell (d6 ae rfl) (fun h=>h),hm⟩
 have hbr:∀wx,Mod (fun _=>False) w wx->J0 wx ow c g id near B a:=fun wx hm=>h.mov hw (Mov.of hw hm (fun _=>False)) (fun h=>h) (fun _ h=>h.elim);have hx':∀wx,Mod (fun _=>False) w wx->j3 wx 7 (.slice fa fl.length fc) fl.length (m5 fl):=fun wx hm=>hf.mod hm zi;have eU:=fun wx (hm:Mod (fun _=>False) w wx)=>I8 wx fs (.slice fa fl.length fc) fl (hx' wx hm) zo zo (fun c hc=>by have:=(hft c hc).name;omega);obtain ⟨R1,xD⟩:∃r,l9 fs fl=r:=⟨_,rfl⟩;rw [xD] at eU;have mD:(t:Int)<4:=zo
 have ht0:(0:Int)<=t:=zo
 have XD:B.subE id t who fs fl=if R1=true then if B.there id t who=true then if a1U (atP B.L B.L.length) t who fs fl=true then if (B.R t).S.length=8 then 6 else 0 else 5 else 3 else 1:=by rw [<-xD];rfl
 have hno:∀(wx:World) (E:Int),Mod (fun _=>False) w wx->B.subE id t who fs fl=E->E≠0->a1V O w ow c g id near B t s who k fs fl (.returned (.int .i64 E)) wx:=fun wx E hm hE hn=>a1V.no hw ⟨a,h⟩ hO hm hE hn;obtain ⟨H,HF,bV,Hf,XE,SK,HR1,aF,aB,aH,iY,Hw⟩:=zh12 h hF hbr hf hx' eU xD aD ah ae hnw hw;obtain ⟨HO,kw,vD,HR,FK,HkS,HkI,kE,KJ,Hno⟩:=zh10 hO jy hto hR lU XB XC hft XD hno;clear h hF hbr hf hx' eU xD aD ah ae hnw hw hO jy hto hR lU XB XC hft XD hno au
 go_enter Tryz.func10,Tryz.ntmps10
 have hS:=HF.out wa (Mod.refl _ wa);obtain ⟨f0,f1, -⟩:=hS
 go_wp2_with (rw [show w.alloc _=wa from aF.out])
 refine (SK.out wa aB.out).mono ?_;rintro e w1 ⟨rfl,hm1⟩;clear f0 f1
 cases R1 with
 |false=>
  have hm:=aB.out.trans hm1 zi;have Hm:=zh hm;clear hm hm1
  go_wp2
  go_ret;exact Hno.out _ _ Hm.out (by rw [KJ.out];rfl) zd
 |true=>
 have hth:=b2Y w1 ow c g id near B ⟨a,bV.out w1 (aB.out.trans hm1 zi)⟩ hL t who;obtain ⟨R3,rA⟩:∃r,B.there id t who=r:=⟨_,rfl⟩;rw [rA] at hth;obtain ⟨AL,HR3,dB⟩:=zh3 hth rA hm1;clear hth rA hm1
 go_wp2_with fail
 refine AL.out.mono ?_;rintro e w3 ⟨rfl,aC⟩;have aC:=dB.out.trans aC zi
 cases R3 with
 |false=>
  have hm:=aB.out.trans aC zi;have Hm:=zh hm;clear hm aC
  go_wp2
  go_ret;exact Hno.out _ _ Hm.out (by rw [KJ.out,HR3.out];rfl) zd
 |true=>
 have Dw:=aB.out.trans aC zi;have hb3:=bV.out w3 Dw;obtain ⟨l,hlB,hfin,hle,hat⟩:=hb3.at_ hL;have hll:l.length<=40:=by rw [<-congrArg List.length hlB,zz10] at hL;exact hL
 obtain ⟨R4,II⟩:∃r,a1U (atP B.L B.L.length) t who fs fl=r:=⟨_,rfl⟩;have XF:∀wx,Mod (fun _=>False) w3 wx->PbS wa w.heap.size fs fa fl.length fc wx:=fun wx hm=>HF.out wx (aC.trans hm zi);have hbL:=hle;obtain ⟨HR4,Hb3,Db,cZ,HbL,xM,bA,KL,SN⟩:=zh9 II hb3 hlB hfin hbL hat aC Dw XF;clear II hb3 hlB hfin hbL hat aC Dw XF hle
 go_wp2_with fail
 have hS:PbS wa w.heap.size fs fa fl.length fc w3.drew:=SN.out _ ((Mod.refl _ w3).drew);refine i8 [.rd 0,.rd 1,.rd 2,.rd 3,.rd 4,.rd 5,.rd 8,.rd 9,.rd 10,.go 6,.go 7,.go 11,.go 12,.go 13] [0,1,2,3,4,5,6,7,8,9,10] (PbS wa w.heap.size fs fa fl.length fc) zk zk (fun _ _ d _ _ h=>(by cases d<;>exact h)) ?_
 iterate 9 (
  refine n4 rfl ?_ (fun _=>hS) ?_ (fun w0 h0=> ?_) (fun K hK=> ?_)
  ·exact zg
  rotate_left
  ·(try simp only [zz1,zz2,zz3])
   first
    |(obtain ⟨f0,f1, -⟩:=h0 rfl;clear h0;go_simp;with_reducible rfl)
    |(clear h0;go_simp;with_reducible rfl)
  (try simp only [zz1,zz2,zz3])
  go_simp;refine hK _ ?_;clear hK K)
 refine i6 (j0 rfl ?_ (fun K hK=> ?_))
 ·exact zg
 go_wp2_with fail
 refine ((HbL.out w3.drew ((Mod.refl _ w3).drew))).mono ?_;rintro e w4 ⟨rfl,rfl⟩;refine hK _ _ (fun _ h=>h) ?_;clear hK K;refine i6 (j0 rfl ?_ (fun K hK=> ?_))
 ·exact zg
 go_wp2_with fail
 refine ((xM.out w3.drew _ ((Mod.refl _ w3).drew))).mono ?_;rintro e w4 ⟨v4,rfl,fE, -,aR⟩;rw [a4h] at fE;have tK:Mod (fun _=>False) w3 w4:=((Mod.refl _ w3).drew).trans aR zi;have SQ:=SN.out w4 tK;refine hK _ _ (fun _ _=>SQ) ?_;clear hK K hS
 have hmp:=a2H (b0a fs fl) w4 v4 (atR l B.L.length) fE (by have:=a5S l B.L.length;omega) t who fs fa fl.length fc
  (fun r hr wx hwx ho=>a4T wx r ((fE.ok r hr).mod hwx) (fun c hc=>((cZ.out r (a3u hr)).1.cs c hc).v.num) fs (.slice fa fl.length fc) fl (XE.out wx (KL.out.trans (tK.trans hwx zi) zi)) zo zo (fun d hd=>⟨by have:=(kE.out d hd).v.text;omega,(kE.out d hd).v.num⟩))
 rw [<-a5Z,a3t,Db.out,HR4.out] at hmp;have KM:=KL.out.trans tK zi;obtain ⟨PN,xu,SS,HS4,SV⟩:=zh5 hmp fE KM SQ tK;clear hmp fE KM SQ tK aR;refine i6 (j0 rfl ?_ (fun K hK=> ?_))
 ·exact zg
 go_wp2_with fail
 refine PN.out.mono ?_;rintro e w5 ⟨rfl,aW⟩;have jP:=SS.out.trans aW zi;have jg:=SV.out.trans aW zi;refine hK _ _ (fun h=>absurd h zd) ?_;clear hK K aW;refine i6 (j0 rfl ?_ (fun K hK=> ?_))
 ·exact zg
 (try simp only [zz1,zz2,zz3]);go_simp;refine hK _ _ (fun h=>absurd h zd) ?_;clear hK K;refine i6 (j0 rfl ?_ (fun K hK=> ?_))
 ·exact zg
 (try simp only [zz1,zz2,zz3]);go_simp;refine hK _ _ (fun h=>absurd h zd) ?_;clear hK K;refine m6 ?_
 cases R4 with
 |false=>
  have pW:=zh jP;clear jP jg
  go_wp2
  go_ret;exact Hno.out _ _ pW.out (by rw [KJ.out,HR3.out,HR4.out];rfl) zd
 |true=>
 have hb5:=bV.out w5 jP;obtain ⟨-, -,q2, -⟩:=hb5.cells ht;have hlen:=fun ty=>(hb5.rea t ht).sub.len ty;obtain ⟨n,hn⟩:∃n,(B.R t).S.length=n:=⟨_,rfl⟩;rw [hn] at hlen;have hn1:n<=1000:=hn▸HR.out.s;by_cases Ce:n=8
 ·have Il:((n:Int)==8)=true:=by rw [Ce];rfl
  obtain ⟨pW,Hb5,Hn⟩:=zh3 jP hb5 hn;clear jP hb5 hn jg
  go_wp2
  go_ret;exact Hno.out _ _ pW.out (by rw [KJ.out,HR3.out,HR4.out,Hn.out,if_pos Ce];rfl) zd
 have Il:((n:Int)==8)=false:=by rw [beq_eq_false_iff_ne];omega
 have hE0:B.subE id t who fs fl=0:=by rw [KJ.out,HR3.out,HR4.out,hn,if_neg Ce];rfl
 obtain ⟨g0,g1, -⟩:=SN.out w5 jg;obtain ⟨-,b7Z, -⟩:=C7 HR1.out;have mU:=Hw.out.laid.mod0 jP;have hnm:=Y7 w0 w5 mU fs (.slice fa fl.length fc) fl (XE.out w5 jP) zo kE.out;have hg5:=(HF.out w5 (bA.out.trans jg zi)).md.heap aH.out (fun h=>h);have mR:=a2v HR1.out kE.out;have Dx:=b5A HR1.out kE.out;obtain ⟨nl,hnl⟩:∃nl,j4 fl=nl:=⟨_,rfl⟩;have hni:j4 nl=nl:=hnl▸a8X fl;rw [hnl] at hnm mR Dx;obtain ⟨pW,Hb5,Hn,SX,SY,ik,je,KI,xU,Hnl,XG⟩:=zh11 jP hb5 hn hE0 mU hnm hg5 mR Dx hnl hni;clear jP hb5 hn hE0 mU hnm hg5 mR Dx hnl hni jg
 go_wp2_with fail
 refine ik.out.mono ?_;rintro e w6 ⟨na,nc,rfl,KN,KO,bU⟩;have bZ:=bU.heap je.out (fun h=>h);have KP:=pW.out.trans bU zi;obtain ⟨Ta,KQ,gF,gU,Tc⟩:=zh5 KN KO bU bZ KP;clear KN KO bU bZ KP g0 g1 q2 hlen
 go_wp2_with ((with_reducible refine j9 26 (.tmp 11) (.tmp 51) ?_);refine ⟨w.heap.size,rfl,_,_,gU.out,[.string fs,.slice na nl.length nc],rfl,rfl,zk,rfl, ?_⟩;intro w7 dM KR;have mM:=Lib.hid dM;have KS:=Lib.hid KR;clear dM KR)
 have hzb:w.heap.size<w5.heap.size:=(zz7 je.out).1
 have b70:a.sb t<w.heap.size:=by
  obtain ⟨_,h1, -⟩:=(H.out.rea t ht).sub.mp;exact h1.lt
 have bu:Mod (fun _=>False) w w7:=Tc.out.upon KS.out (fun k hk=> .inr (Nat.le_of_eq (show w.heap.size=k from (show k=w.heap.size from hk).symm)));have Dy:=Ta.out.mod KS.out (fun k hk e=>by have h1:=KQ.out k hk;have h2:k=w.heap.size:=e;omega);have hmd:=bu.trans ((Mod.refl (fun _=>False) w7).drew) zi;have hwd:=(Mov.of Hw.out hmd (fun _=>False)).owd Hw.out (fun h=>h);have hbd:=bV.out w7.drew hmd;have hgd:=((Mod.refl (fun _=>False) w7).drew).heap mM.out (fun h=>h);have hcon:o3 w7.drew ow 7 (.slice na nl.length nc) nl.length (m5 nl):=⟨(Dy.mod ((Mod.refl (fun _=>False) w7).drew) zi).rd,fun _ b hb=>Hw.out.zero (Nat.le_trans pW.out.size (KQ.out b hb))⟩;have Du:=O.mov HO.out Hw.out (Mov.of Hw.out hmd (fun _=>False)) (fun h=>h) (fun _ h=>h.elim);have hc2:=hbd.c2;have hrd:=hbd.rea t ht;obtain ⟨w8,hrun,tL,dE⟩:=K5.put hwd hrd.sub (by have:=HR.out.s;unfold maxLen;omega) zo k FK.out HkS.out who (fs,nl) na nc hcon;have s8:Mov (fun q=>q=c+9+t) w7.drew ow w8 ow:=Mov.wrote hwd dE (fun b hb=>by rw [show b=a.sb t from hb];exact hrd.sub.tag);have lw:=s8.owd hwd zo;have Il:J0 w8 ow c g id near (B.setR t ((B.R t).addS k who (fs,nl))) a:=hbd.realm hwd ht s8 (fun q hq=> .inr (.inr (.inl hq))) ⟨hrd.tab.mov hwd s8 zo zo zo,hrd.idx.mov hwd s8 zo zo zo,tL,hrd.snt.mov s8 zo zo⟩;have lC:=dE.heap hgd (fun e=>by have h2:w.heap.size=a.sb t:=e;omega);have lT:=O.mov Du hwd s8 zo (fun q e he=>by have:=kw.out q he;omega);have zR:=hcon.mov s8 zo zo;have hS:SuS g t w.heap.size (a.sb t) (a.ib t) (a.tb t) fs na nl.length nc w7.drew:=SuS.at hbd ht hgd;have KT:Mov (W4 c t O.tg) w ow w8 ow:=(Mov.of Hw.out hmd _).trans (s8.mono (fun _ h=> .inl (.inr (.inr (.inl h)))));obtain ⟨nQ,b71,Hmd,Pv,Hbd,Hgd,pK,HOd,iq,xP,XH,Cv⟩:=zh12 bu Dy hmd hwd hbd hgd hcon Du hrd hrun tL dE;obtain ⟨S8,pX,Hb8,vI,FC,KU,Td⟩:=zh7 s8 lw Il lC lT zR KT;clear bu Dy hmd hwd hbd hgd hcon Du hrd hrun tL dE s8 lw Il lC lT zR KT hzb
 go_wp2_with fail
 refine i8 [.rd 0,.rd 1,.rd 2,.rd 3,.rd 4,.rd 5,.rd 6,.go 7,.go 8] [0,1,2,3,4,5,6,7] (SuS g t w.heap.size (a.sb t) (a.ib t) (a.tb t) fs na nl.length nc) zk zk (fun _ _ d _ _ h=>(by cases d<;>exact h)) ?_
 iterate 7 (
  refine n4 rfl ?_ (fun _=>hS) ?_ (fun w0 h0=> ?_) (fun K hK=> ?_)
  ·exact zg
  rotate_left
  ·(try simp only [zz1,zz2,zz3])
   first
    |(obtain ⟨f0,f1,f2,f3,f4⟩:=h0 rfl;clear h0;go_simp;with_reducible rfl)
    |(clear h0;go_simp;with_reducible rfl)
  (try simp only [zz1,zz2,zz3])
  go_simp;refine hK _ ?_;clear hK K)
 refine i6 (j0 rfl ?_ (fun K hK=> ?_))
 ·exact zg
 (try simp only [zz1,zz2,zz3]);go_simp;refine hK _ _ (fun _ h=>h) ?_;clear hK K;refine i6 (j0 rfl ?_ (fun K hK=> ?_))
 ·exact zg
 (try simp only [zz1,zz2,zz3]);refine a0C 91 _ _ _ rfl xP.out ?_;refine hK _ _ (fun h=>absurd h zd) ?_;clear hK K hS;refine m6 ?_;have Og:=(Mod.refl (fun _=>False) w8).drew;have tN:=Mov.of pX.out Og (fun _=>False);have tO:=tN.owd pX.out (fun h=>h);have xV:=Hb8.out.mov pX.out tN (fun h=>h) (fun _ h=>h.elim);have Dz:=Og.heap vI.out (fun h=>h);have mV:=KU.out.mov tN (fun h=>h) zo;have KV:=O.mov FC.out pX.out tN (fun h=>h) (fun _ h=>h.elim);have Oh:=xV.rea t ht;rw [BS.setR_at] at Oh;have hia:=b3e w0 w8.drew ow tO (c+5+t) (a.ib t) zo _ _ Oh.idx (by have:=HR.out.t;show (B.R t).T<=100000;omega) k FK.out HkI.out fs na nc nl mV.rd (by have:=xU.out.1;have h2:nl.length<=19:=this;omega) (fun c hc=>xU.out.2.1 c hc) hfs;rw [XG.out] at hia;have hS:SuS g t w.heap.size (a.sb t) (a.ib t) (a.tb t) fs na nl.length nc w8.drew:=SuS.at xV ht Dz;have zS:=Td.out.trans (tN.mono (G:=W4 c t O.tg) (fun _ h=>h.elim));obtain ⟨Hd8,FT,nU,Te,KW,DC,Tf,Ti,Hia,KX⟩:=zh10 Og tN tO xV Dz mV KV Oh hia zS;clear Og tN tO xV Dz mV KV Oh hia zS
 go_wp2_with fail
 refine i8 [.rd 0,.rd 1,.rd 2,.rd 3,.rd 4,.rd 5,.go 6] [0,1,2,3,4,5] (SuS g t w.heap.size (a.sb t) (a.ib t) (a.tb t) fs na nl.length nc) zk zk (fun _ _ d _ _ h=>(by cases d<;>exact h)) ?_
 iterate 6 (
  refine n4 rfl ?_ (fun _=>hS) ?_ (fun w0 h0=> ?_) (fun K hK=> ?_)
  ·exact zg
  rotate_left
  ·(try simp only [zz1,zz2,zz3])
   first
    |(obtain ⟨f0,f1,f2,f3,f4⟩:=h0 rfl;clear h0;go_simp;with_reducible rfl)
    |(clear h0;go_simp;with_reducible rfl)
  (try simp only [zz1,zz2,zz3])
  go_simp;refine hK _ ?_;clear hK K)
 refine i6 (j0 rfl ?_ (fun K hK=> ?_))
 ·exact zg
 go_wp2_with fail
 refine Hia.out.mono ?_;rintro e w9 ⟨rfl,ow9,hi9,s9⟩;refine hK _ _ (fun h=>absurd h zd) ?_;clear hK K hS;refine m6 ?_;have pY:=s9.owd nU.out zo
 have xW:J0 w9 ow9 c g id near (B.setR t (((B.R t).addS k who (fs,nl)).addI k (fs,nl))) a:=by
  have h1:=Te.out.realm nU.out ht s9 (fun q hq=> .inr (.inl hq)) (R:=((B.R t).addS k who (fs,nl)).addI k (fs,nl)) ⟨Ti.out.tab.mov nU.out s9 zo zo zo,hi9,Ti.out.sub.mov s9 zo zo,Ti.out.snt.mov s9 zo zo⟩;rw [BS.setR_set] at h1;exact h1
 have Tj:=(zz7 KW.out).1
 have jr:=s9.md.heap KW.out (fun e=>by
  have h2:ow w.heap.size=c+5+t:=e;rw [Hw.out.zero (Nat.le_refl _)] at h2
  omega)
 have tQ:=DC.out.mov s9 zo zo;have qD:=O.mov Tf.out nU.out s9 zo (fun q e he=>by have:=kw.out q he;omega);have DD:=KX.out.trans (s9.mono (G:=W4 c t O.tg) (fun _ h=> .inl (.inr (.inl h))));have Oi:=(Mod.refl (fun _=>False) w9).drew;have gJ:=Mov.of pY Oi (fun _=>False);have tT:=gJ.owd pY (fun h=>h);have xX:=xW.mov pY gJ (fun h=>h) (fun _ h=>h.elim);have DF:=Oi.heap jr (fun h=>h);have mW:=tQ.mov gJ (fun h=>h) zo;have KY:=O.mov qD pY gJ (fun h=>h) (fun _ h=>h.elim);have vJ:=xX.rea t ht;rw [BS.setR_at] at vJ;have vG:=a7k w0 w9.drew ow9 tT (c+1+t) (a.tb t) zo _ vJ.tab (by have:=HR.out.n;show (B.R t).N<=100000;omega) (-1) zd fs na nc nl mW.rd (by have:=xU.out.1;have h2:nl.length<=19:=this;omega) (fun c hc=>xU.out.2.1 c hc) hfs;rw [XG.out] at vG;have hS:SuS g t w.heap.size (a.sb t) (a.ib t) (a.tb t) fs na nl.length nc w9.drew:=SuS.at xX ht DF;have zT:=DD.trans (gJ.mono (G:=W4 c t O.tg) (fun _ h=>h.elim));obtain ⟨Hi9,S9,b72,Oj,lN,XI,FU,b73,Hd9,XJ,nV,Tk⟩:=zh12 hi9 s9 pY xW jr tQ qD DD Oi gJ tT xX;obtain ⟨b74,Tn,Tp,DI,Dv,KZ⟩:=zh6 DF mW KY vJ vG zT;clear hi9 s9 pY xW jr tQ qD DD Oi gJ tT xX DF mW KY vJ vG zT Tj
 go_wp2_with fail
 refine i8 [.rd 0,.rd 1,.rd 2,.rd 3,.rd 4,.go 5] [0,1,2,3,4] (SuS g t w.heap.size (a.sb t) (a.ib t) (a.tb t) fs na nl.length nc) zk zk (fun _ _ d _ _ h=>(by cases d<;>exact h)) ?_
 iterate 5 (
  refine n4 rfl ?_ (fun _=>hS) ?_ (fun w0 h0=> ?_) (fun K hK=> ?_)
  ·exact zg
  rotate_left
  ·(try simp only [zz1,zz2,zz3])
   first
    |(obtain ⟨f0,f1,f2,f3,f4⟩:=h0 rfl;clear h0;go_simp;with_reducible rfl)
    |(clear h0;go_simp;with_reducible rfl)
  (try simp only [zz1,zz2,zz3])
  go_simp;refine hK _ ?_;clear hK K)
 refine i6 (j0 rfl ?_ (fun K hK=> ?_))
 ·exact zg
 go_wp2_with fail
 refine Dv.out.mono ?_;rintro e w10 ⟨rfl,ow10,xY,s10⟩;refine hK _ _ (fun h=>absurd h zd) ?_;clear hK K hS;refine m6 ?_;have tV:=s10.owd nV.out zo
 have DJ:J0 w10 ow10 c g id near (B.setR t ((B.R t).sub k who (fs,nl))) a:=by
  have h1:=Tk.out.realm nV.out ht s10 (fun q hq=> .inl hq) (R:=(B.R t).sub k who (fs,nl)) (a3d.tadd xY (DI.out.idx.mov nV.out s10 zo zo zo) (DI.out.sub.mov s10 zo zo) (DI.out.snt.mov s10 zo zo));rw [BS.setR_set] at h1;exact h1
 have DK:=O.mov Tp.out nV.out s10 zo (fun q e he=>by have:=kw.out q he;omega);have zU:=KZ.out.trans (s10.mono (G:=W4 c t O.tg) (fun _ h=> .inl (.inl h)));have nT:(B.setR t ((B.R t).sub k who (fs,nl))).R t=(B.R t).sub k who (fs,nl):=BS.setR_at _ _ _;obtain ⟨e1,e2, -, -, -⟩:=(((B.R t).addS k who (fs,nl)).addI k (fs,nl)).tadd_eq (-1) (fs,nl);have hN:((B.R t).sub k who (fs,nl)).N<=1000:=Nat.le_trans (RS.tadd_n _ _ _) (by have:=HR.out.n;show (B.R t).N+1<=1000;omega);have zV:((B.R t).sub k who (fs,nl)).M.length<=1000000:=Nat.le_trans (I3.len xY) (Nat.le_trans hN zd);have Ol:((B.R t).sub k who (fs,nl)).G=(B.R t).G:=e1;have hlen:=a0X (near:=near) HR.out.g.len zV t
 have lu:=a4k w0 w10 ow10 c g id near (B.setR t ((B.R t).sub k who (fs,nl))) tV ⟨a,DJ⟩ q O s DK kw.out t ht (by rw [nT,Ol];have:near.length*(2*1000000)<=1000*(2*1000000):=Nat.mul_le_mul_right _ hnl;omega) hnl iY.out vD.out (by rw [nT];exact hN) (by rw [nT];show ((B.R t).sub k who (fs,nl)).K<=1000000;rw [show ((B.R t).sub k who (fs,nl)).K=(B.R t).K from e2];exact HR.out.k) (by rw [nT,Ol];exact HR.out.g)
  (by rw [nT];exact a9O (RS.tadd_m (R:=((B.R t).addS k who (fs,nl)).addI k (fs,nl)) HR.out.m (-1) KI.out))
 obtain ⟨b75,S10,XK,b76,b77,La,HRt,HGG,Hlen,tJ⟩:=zh10 xY s10 tV DJ DK zU nT Ol hlen lu;clear xY s10 tV DJ DK zU nT Ol hlen lu e1 e2 hN zV
 go_wp2_with fail
 refine tJ.out.mono ?_;rintro e w11 ⟨rfl,ow11,DL,DN,DR⟩;rw [BS.told_set] at DL;rw [HRt.out,HGG.out] at DN;have zW:=La.out.trans (DR.mono (G:=W4 c t O.tg) (fun q h=>h.elim (fun h=> .inl (.inr (.inr (.inr h)))) (fun h=> .inr h)));obtain ⟨Tq,Tt,b78,Lb⟩:=zh4 DL DN DR zW;clear DL DN DR zW
 go_wp2
 go_ret;refine ⟨by rw [SX.out];rfl,ow11, ?_, ?_,Lb.out⟩
 ·unfold BS.subB;rw [if_pos SX.out,Hnl.out];exact Tq.out
 unfold BS.subS;rw [if_pos SX.out,Hnl.out];exact Tt.out
structure L0 (R:RS) (j:Nat):Prop where
 n:R.N<=j
 t:R.T<=20*j
 k:R.K<=2*j
 m:∀p∈R.M,okN p.2
 s:R.S.length<=8
 sf:∀p∈R.S,okN p.2.2
 si:∀p∈R.S,0<=p.1/\p.1<j
 is:R.I=R.S.map fun p=>(p.1,p.2.2)
 g:∀n,R.G n=if n=1\/n=2 then B8 R.M n else []
theorem L0.zero:L0 RS.zero 0:=⟨Nat.le_refl _,Nat.le_refl _,Nat.le_refl _,fun p hp=>(by cases hp),zd,fun p hp=>(by cases hp),fun p hp=>(by cases hp),rfl,fun n=>(by
 show []=if n=1\/n=2 then B8 [] n else []
 rw [List.eq_nil_of_length_eq_zero (Nat.le_zero.1 (a0W [] n))]
 split<;>rfl)⟩
theorem L0.mono {R:RS} {j k:Nat} (h:L0 R j) (hk:j<=k):L0 R k:=by
 have h1:=h.n;have h2:=h.t;have h3:=h.k;exact ⟨zo,zo,zo,h.m,h.s,h.sf,fun p hp=>⟨(h.si p hp).1,by have:=(h.si p hp).2;omega⟩,h.is,h.g⟩
theorem a8Y {M:List (Int×Fil)} {G:Int->List Fil} (h:∀n,¬(n=1\/n=2)->G n=[]) (n:Int):I0 M [1,2] G n=if n=1\/n=2 then B8 M n else []:=by
 by_cases hn:n=1\/n=2
 ·rw [if_pos hn];exact a4b (by simpa using hn)
 rw [if_neg hn,a0U (by simpa using hn)];exact h n hn
theorem L0.none {R:RS} {j:Nat} (h:L0 R j):T7 R.S j=Option.none/\B7 R.I j=Option.none:=by
 have h1:T7 R.S j=Option.none:=by
  unfold T7;rw [Option.map_eq_none_iff,List.find?_eq_none];intro p hp e;have:=(h.si p hp).2;have e2:p.1=(j:Int):=by simpa using e
  omega
 refine ⟨h1, ?_⟩;unfold B7;rw [Option.map_eq_none_iff,List.find?_eq_none,h.is];intro p hp e;obtain ⟨q,hq,rfl⟩:=List.mem_map.1 hp;have:=(h.si q hq).2;have e2:q.1=(j:Int):=by simpa using e
 omega
theorem L0.go {R:RS} {j:Nat} (h:L0 R j) (hj:j<=900) {w:World} {ow:Ow} {c b:Nat} (hT:I3 w ow c b R.M R.N):R.Go:=by
 have h1:=h.n;have h2:=h.t;have h3:=h.k;have h4:=I3.len hT
 have hq:∀p∈R.M,okQ p.2:=fun p hp=>by
  obtain ⟨mo,hat⟩:=hT;exact ⟨(hat.wf _ hp).2.1,(hat.wf _ hp).2.2,hat.sc _ hp⟩
 refine ⟨zo,zo,zo,⟨fun n=> ?_,fun n q hn=> ?_⟩,h.m,by have:=h.s;omega⟩
 ·rw [h.g];split
  ·have:=a0W R.M n;omega
  exact Nat.zero_le _
 rw [h.g] at hn;split at hn
 ·exact a5R hq n q hn
 ·cases hn
theorem L0.tadd {R:RS} {j:Nat} (h:L0 R j) (frm:Int) {f:Fil} (hf:okN f):L0 ((R.tadd frm f).refr [1,2]) (j+1):=by
 obtain ⟨e1,e2,e3,e4,e5⟩:=R.tadd_eq frm f;have h1:=h.n;have h2:=h.t;have h3:=h.k;have h4:=R.tadd_n frm f;refine ⟨?_, ?_, ?_,RS.tadd_m h.m frm hf, ?_, ?_, ?_, ?_,fun n=> ?_⟩
 ·show (R.tadd frm f).N<=j+1;omega
 ·show (R.tadd frm f).T<=_;rw [e5];omega
 ·show (R.tadd frm f).K+2<=_;rw [e2];omega
 ·show (R.tadd frm f).S.length<=8;rw [e3];exact h.s
 ·show∀p∈(R.tadd frm f).S,okN p.2.2;rw [e3];exact h.sf
 ·show∀p∈(R.tadd frm f).S,0<=p.1/\p.1<(j+1:Nat);rw [e3];exact fun p hp=>⟨(h.si p hp).1,by have:=(h.si p hp).2;omega⟩
 ·show (R.tadd frm f).I=(R.tadd frm f).S.map _;rw [e3,e4];exact h.is
 show I0 (R.tadd frm f).M [1,2] (R.tadd frm f).G n=_;rw [e1];exact a8Y (fun m hm=>by rw [h.g,if_neg hm]) n
theorem L0.trem {R:RS} {j:Nat} (h:L0 R j) (frm:Int) (f:Fil):L0 ((R.trem frm f).refr [1,2]) (j+1):=by
 have h1:=h.n;have h2:=h.t;have h3:=h.k;refine ⟨?_, ?_, ?_,a7l h.m frm _,h.s,h.sf,fun p hp=>⟨(h.si p hp).1,by have:=(h.si p hp).2;omega⟩,h.is,fun n=>a8Y (fun m hm=>by show R.G m=[];rw [h.g,if_neg hm]) n⟩
 ·show R.N<=j+1;omega
 ·show R.T<=_;omega
 show R.K+2<=_;omega
theorem L0.hear {R:RS} {j:Nat} (h:L0 R j) (frm:Int) {f:Fil} (hf:okN f) (on:Bool):L0 ((R.hear frm f on).refr [1,2]) (j+1):=by
 cases on with
 |true=>exact h.tadd frm hf
 |false=>exact h.trem frm f
theorem L0.addSI {R:RS} {j:Nat} (h:L0 R j) (who:ByteArray) {f:Fil} (hf:okN f):(∀p∈((R.addS j who f).addI j f).S,okN p.2.2)/\(∀p∈((R.addS j who f).addI j f).S,0<=p.1/\p.1<(j+1:Nat))/\((R.addS j who f).addI j f).I=((R.addS j who f).addI j f).S.map fun p=>(p.1,p.2.2):=by
 refine ⟨fun p hp=> ?_,fun p hp=> ?_, ?_⟩
 ·rcases zz14 hp with hp|hp
  ·exact h.sf p hp
  rw [List.mem_singleton.1 hp];exact hf
 ·rcases zz14 hp with hp|hp
  ·exact ⟨(h.si p hp).1,by have:=(h.si p hp).2;omega⟩
  rw [List.mem_singleton.1 hp];exact ⟨by show (0:Int)<=j;omega,by show (j:Int)<(j+1:Nat);omega⟩
 show R.I++[((j:Int),f)]=(R.S++[((j:Int),who,f)]).map _;rw [List.map_append,h.is];rfl
theorem L0.sub {R:RS} {j:Nat} (h:L0 R j) (h8:R.S.length≠8) (who:ByteArray) {f:Fil} (hf:okN f):L0 ((R.sub j who f).refr [1,2]) (j+1):=by
 obtain ⟨a1,a2,a3⟩:=h.addSI who hf;obtain ⟨Q,hQ⟩:∃Q,(R.addS j who f).addI j f=Q:=⟨_,rfl⟩;have qn:Q.N=R.N:=by rw [<-hQ];rfl
 have qt:Q.T=R.T+20:=by rw [<-hQ];rfl
 have qk:Q.K=R.K:=by rw [<-hQ];rfl
 have qm:Q.M=R.M:=by rw [<-hQ];rfl
 have qg:Q.G=R.G:=by rw [<-hQ];rfl
 have qs:Q.S.length=R.S.length+1:=by rw [<-hQ];show (R.S++[_]).length=_;rw [zz4];rfl
 rw [hQ] at a1 a2 a3;have e0:R.sub j who f=Q.tadd (-1) f:=by rw [<-hQ];rfl
 rw [e0];obtain ⟨e1,e2,e3,e4,e5⟩:=Q.tadd_eq (-1) f;have h1:=h.n;have h2:=h.t;have h3:=h.k;have h5:=h.s;have h4:=Q.tadd_n (-1) f;refine ⟨?_, ?_, ?_,RS.tadd_m (by rw [qm];exact h.m) _ hf, ?_, ?_, ?_, ?_,fun n=> ?_⟩
 ·show (Q.tadd (-1) f).N<=j+1;omega
 ·show (Q.tadd (-1) f).T<=_;rw [e5];omega
 ·show (Q.tadd (-1) f).K+2<=_;rw [e2];omega
 ·show (Q.tadd (-1) f).S.length<=8;rw [e3];omega
 ·show∀p∈(Q.tadd (-1) f).S,okN p.2.2;rw [e3];exact a1
 ·show∀p∈(Q.tadd (-1) f).S,0<=p.1/\p.1<(j+1:Nat);rw [e3];exact a2
 ·show (Q.tadd (-1) f).I=(Q.tadd (-1) f).S.map _;rw [e3,e4];exact a3
 show I0 (Q.tadd (-1) f).M [1,2] (Q.tadd (-1) f).G n=_;rw [e1,qg];exact a8Y (fun m hm=>by rw [h.g,if_neg hm]) n
def a2w (B:BS) (j:Nat):Prop:=∀t,t<4->L0 (B.R t) j
theorem a2w.set {B:BS} {j k:Nat} (h:a2w B j) (hk:j<=k) {t:Nat} {R:RS} (hR:L0 R k):a2w (B.setR t R) k:=fun i hi=>by
 by_cases e:i=t
 ·subst e;rw [BS.setR_at];exact hR
 rw [BS.setR_ne _ _ e];exact (h i hi).mono hk
theorem a2w.take {B:BS} {j:Nat} (h:a2w B j) {t:Nat} (ht:t<4) (frm:Int) {f:Fil} (hf:okN f) (on:Bool):a2w (B.takeB [1,2] t frm f on) (j+1):=by
 unfold BS.takeB;split
 ·exact h.set (Nat.le_succ _) ((h t ht).hear frm hf on)
 exact fun i hi=>(h i hi).mono (Nat.le_succ _)
theorem a2w.sub {B:BS} {j:Nat} (h:a2w B j) {t:Nat} (ht:t<4) (id:Int) (who fs:ByteArray) {fl:List Cnd} (hf:l9 fs fl=true->okN (fs,j4 fl)):a2w (B.subB id [1,2] t who j fs fl) (j+1):=by
 unfold BS.subB;split
 ·rename_i h0
  unfold BS.subE at h0;split at h0
  ·rename_i hr
   split at h0
   ·split at h0
    ·split at h0
     ·cases h0
     rename_i h8
     exact h.set (Nat.le_succ _) ((h t ht).sub h8 who (hf hr))
    ·cases h0
   ·cases h0
  ·cases h0
 exact fun i hi=>(h i hi).mono (Nat.le_succ _)
theorem BS.takeB_L (B:BS) (near:List Int) (t:Nat) (frm:Int) (f:Fil) (on:Bool):(B.takeB near t frm f on).L=B.L:=by
 unfold BS.takeB;split<;>rfl
theorem BS.subB_L (B:BS) (id:Int) (near:List Int) (t:Nat) (who:ByteArray) (k:Int) (fs:ByteArray) (fl:List Cnd):(B.subB id near t who k fs fl).L=B.L:=by
 unfold BS.subB;split<;>rfl
theorem b3h {q:Fil} (h:okN q):a4D q.2:=by
 obtain ⟨l,h1,h2,h3⟩:=h;rw [h3];exact fun c hc=>⟨(Z7 h1 h2 c hc).op,(Z7 h1 h2 c hc).num⟩
theorem a7m {S:List Sb} (hn:(S.map Prod.fst).Nodup) {p:Sb} (hp:p∈S):T7 S p.1=some p.2:=by
 unfold T7
 induction S with
 |nil=>cases hp
 | cons a S ih=>
  rw [List.map_cons,List.nodup_cons] at hn;rw [List.find?_cons];rcases List.mem_cons.1 hp with rfl|hp
  ·simp
  have:(a.1==p.1)=false:=by
   rw [beq_eq_false_iff_ne];intro e;exact hn.1 (by rw [e];exact List.mem_map_of_mem hp)
  rw [this];exact ih hn.2 hp
def V4 (A:List PRu) (t:Int) (who es:ByteArray) (L:List Att):List Att:=I4 (A.map fun p=>p.lies none 0) t who es L
theorem a7n (l:List Ru) (t:Int) (who es:ByteArray) (L:List Att):V4 (l.map Ru.pru) t who es L=I4 l t who es L:=by
 unfold V4 I4 M1 W3;rw [List.map_map,List.filter_map,List.map_map];rfl
def C8 (S:List Sb) (A:List PRu) (t:Int) (m:Mg) (id:Int):Option Hn:=match T7 S id with
 |none=>none
 |some q=>if a1U A t q.1 q.2.1 q.2.2&&A8 q.2.1 q.2.2 m.es (V4 A t q.1 m.es m.el) then some (t,q.1,⟨1,0,0,id,m.ser,m.ver,m.org,m.es,V4 A t q.1 m.es m.el⟩) else none
def a1a (S:List Sb) (A:List PRu) (t:Int) (m:Mg) (ids:List Int):List Hn:=ids.filterMap (C8 S A t m)
theorem a8Z {S:List Sb} {A:List PRu} {t:Int} {m:Mg} {ids:List Int} {j:Nat} {id:Int} (h:ids[j]? =some id):a1a S A t m (ids.take (j+1))=a1a S A t m (ids.take j)++(C8 S A t m id).toList:=by
 unfold a1a;rw [List.take_add_one,h,Option.toList_some,List.filterMap_append]
 have e:List.filterMap (C8 S A t m) [id]=(C8 S A t m id).toList:=by
  rw [List.filterMap_cons];cases C8 S A t m id<;>rfl
 rw [e]
def BS.rouH (B:BS) (t:Nat) (m:Mg):List Hn:=a1a (B.R t).S (atP B.L (O0 m.ver B.L.length)) t m (a6M (B.R t).I m.es m.el)
def b02 (M:List (Int×Fil)) (frm:Int) (m:Mg) (n:Int):Bool:= !(n==frm)&&(a1m M n).any fun q=>z8 q m.es m.el
def K6 (M:List (Int×Fil)) (near:List Int) (t frm:Int) (m:Mg):List Sd:=(near.filter (b02 M frm m)).map fun n=>(n,t,m)
theorem a80 {M:List (Int×Fil)} {near:List Int} {t frm:Int} {m:Mg} {j:Nat} {n:Int} (h:near[j]? =some n):K6 M (near.take (j+1)) t frm m=K6 M (near.take j) t frm m++if b02 M frm m n then [(n,t,m)] else []:=by
 unfold K6;rw [List.take_add_one,h,Option.toList_some,List.filter_append,List.map_append];congr 1;cases hw:b02 M frm m n<;>simp [hw]
theorem a5m (M:List (Int×Fil)) (near:List Int) (t frm:Int) (m:Mg):(K6 M near t frm m).length<=near.length:=by
 unfold K6;rw [zz10];exact List.length_filter_le _ _
theorem b03 (S:List Sb) (A:List PRu) (t:Int) (m:Mg) (ids:List Int):(a1a S A t m ids).length<=ids.length:=List.length_filterMap_le _ _
variable {w0:World} {q:Nat}
def B6.shows (O:B6 w0 q) (s:O.σ) (l:List Hn):O.σ:=l.foldl (fun s x=>O.shw s x.1 x.2.1 x.2.2) s
theorem B6.shows_app (O:B6 w0 q) (s:O.σ) (l m:List Hn):O.shows s (l++m)=O.shows (O.shows s l) m:=List.foldl_append ..
theorem B6.shows_one (O:B6 w0 q) (s:O.σ) (l:List Hn) (x:Hn):O.shows s (l++[x])=O.shw (O.shows s l) x.1 x.2.1 x.2.2:=by rw [O.shows_app];rfl
theorem B6.shows_cnt (O:B6 w0 q) (s:O.σ) (l:List Hn):O.cnt (O.shows s l)<=O.cnt s+l.length:=by
 induction l generalizing s with
 |nil=>exact Nat.le_refl _
 |cons x l ih=>
  have h1:=ih (O.shw s x.1 x.2.1 x.2.2);have h2:=O.cshw s x.1 x.2.1 x.2.2;show O.cnt (O.shows (O.shw s x.1 x.2.1 x.2.2) l)<=_;rw [zz9];omega
theorem B6.tshow (O:B6 w0 q) {w:World} {ow:Ow} {s:O.σ} {ten id ser ver:Int} {who org es:ByteArray} {sl:List Att} {a:Option Addr} {c:Nat} (hw:Owd w0 w ow) (hO:O.inv w ow s) (hc:O.cnt s<=400000000000) (h0:0<=ten) (h3:ten<=3) (h:o3 w ow 6 (.slice a sl.length c) sl.length (k7 sl)):
 Calls Tryz.prog 275 #[.pointer (some ⟨q,0,none⟩),.int .i64 ten,.string who,.agg #[.int .i64 1,.int .i64 0,.int .i64 0,.int .i64 id,.int .i64 ser,.int .i64 ver,.string org,.string es,.slice a sl.length c]] w
  fun e w'=>e= .returned (.tuple #[])/\∃ow',O.inv w' ow' (O.shw s ten who ⟨1,0,0,id,ser,ver,org,es,sl⟩)/\Mov O.tg w ow w' ow':=
 O.hshw (x:=⟨⟨1,0,0,id,ser,ver,org,es,sl⟩,a,c⟩) hw hO hc h0 h3 ⟨h⟩
theorem B6.tsend (O:B6 w0 q) {w:World} {ow:Ow} {s:O.σ} {td ten:Int} {x:Mv} (hw:Owd w0 w ow) (hO:O.inv w ow s) (hc:O.cnt s<=400000000000) (ht:O.okTo td ten) (h:X3 w ow x):
 Calls Tryz.prog 274 #[.pointer (some ⟨q,0,none⟩),.int .i64 td,.int .i64 ten,.agg #[.int .i64 x.m.kind,.int .i64 x.m.at_,.int .i64 x.m.rule.kind,.int .i64 x.m.rule.tenant,.string x.m.rule.who,.int .i64 x.m.rule.broker,.string x.m.rule.sc,.slice x.ra x.m.rule.cs.length x.rc,.string x.m.rule.name,.int .i64 x.m.rule.at_,
  .string x.m.fs,.slice x.fa x.m.fl.length x.fc,.string x.m.es,.slice x.ea x.m.el.length x.ec,.int .i64 x.m.ver,.string x.m.org,.int .i64 x.m.ser]] w
  fun e w'=>e= .returned (.tuple #[])/\∃ow',O.inv w' ow' (O.send s td ten x.m)/\Mov O.tg w ow w' ow':=
 O.hsend hw hO hc ht h
theorem b3i {w:World} {ow:Ow} {v:Value} {l:List Ru} (h:o3 w ow 8 v l.length (rus l)) (hf:∀r∈l,r.pru.fine/\o3 w ow 7 r.cv r.cs.length (m5 r.cs)):I9 w v l:=⟨h.rd,fun r hr=>(hf r hr).1.ok (hf r hr).2.rd⟩
theorem a7o {A:List PRu} {t:Int} {who es:ByteArray} {L:List Att}:(V4 A t who es L).Sublist L:=List.filter_sublist
theorem a2x {l m:List Att} (h:l.Sublist m) (hm:r8 m):r8 l:=by
 intro i j x y hij hx hy;have hp:m.Pairwise fun x y=>Op.bytesLess x.name.data.toList y.name.data.toList=true:=List.pairwise_iff_getElem.2 fun i j hi hj hij=>hm i j _ _ hij (zz5 hi) (zz5 hj);have hq:=hp.sublist h;obtain ⟨h1,rfl⟩:=zz6 hx;obtain ⟨h2,rfl⟩:=zz6 hy;exact List.pairwise_iff_getElem.1 hq i j h1 h2 hij
end
end Go.Proofs.YtebhabpahfmodaaGreatDoor
