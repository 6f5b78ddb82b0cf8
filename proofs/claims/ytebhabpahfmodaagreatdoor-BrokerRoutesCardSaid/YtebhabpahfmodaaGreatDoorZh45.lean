/- Lemmas. -/
import Derived.Test.YtebhabpahfmodaaGreatDoorZh44
import Derived.Test.YtebhabpahfmodaaGreatDoorZh40
set_option maxHeartbeats 40000000
set_option maxRecDepth 20000
namespace Go.Proofs.YtebhabpahfmodaaGreatDoor
open Go.RowKit
structure a3g (R:RS):Prop where
 nd:(R.S.map Prod.fst).Nodup
 q:∀p∈R.S,okQ p.2.2
theorem a3g.zero:a3g RS.zero:=⟨List.nodup_nil,fun p hp=>(by cases hp)⟩
theorem a3g.of {R Q:RS} (h:a3g R) (e:Q.S=R.S):a3g Q:=⟨by rw [e];exact h.nd,by rw [e];exact h.q⟩
theorem RS.sub_S (R:RS) (k:Int) (who:ByteArray) (f:Fil) (near:List Int):((R.sub k who f).refr near).S=R.S++[(k,who,f)]:=by
 show (((R.addS k who f).addI k f).tadd (-1) f).S=_;rw [(RS.tadd_eq _ _ _).2.2.1];rfl
theorem a3g.sub {R:RS} (h:a3g R) (k:Int) (who:ByteArray) {f:Fil} (hf:okQ f) (near:List Int) (hk:∀p∈R.S,p.1≠k):a3g ((R.sub k who f).refr near):=by
 have hS:=R.sub_S k who f near;constructor
 ·rw [hS,List.map_append,List.nodup_append];refine ⟨h.nd,by simp,fun a ha b hb=> ?_⟩;obtain ⟨q,h1,rfl⟩:=List.mem_map.1 ha;have e:b=k:=by simpa using hb
  rw [e];exact hk q h1
 rw [hS];intro p hp;rcases zz14 hp with hp|hp
 ·exact h.q p hp
 rw [List.mem_singleton.1 hp];exact hf
theorem a3g.ask {R:RS} {j:Nat} (h:a3g R) (hr:L0 R j) (hj:j<=900):(∀k∈R.I.map Prod.fst,(Lit.int .i64 k).wf=true/\∃q,T7 R.S k=some q/\okQ q.2)/\R.I.length<=1000:=by
 constructor
 ·intro k hk;rw [hr.is,List.map_map] at hk;obtain ⟨p,hp,rfl⟩:=List.mem_map.1 hk;have h1:=hr.si p hp;refine ⟨?_,p.2,a7m h.nd hp,h.q p hp⟩;show (Lit.int .i64 p.1).wf=true;simp only [Lit.wf,Bool.and_eq_true,decide_eq_true_eq];exact ⟨show (-9223372036854775808:Int)<=p.1 by omega,show p.1<=(9223372036854775807:Int) by omega⟩
 rw [hr.is,zz10];have:=hr.s;omega
theorem b04 {M:List (Int×Fil)} {near:List Int} {t frm:Int} {m:Mg} {x:Sd} (h:x∈K6 M near t frm m):x.1∈near/\x.2.1=t:=by
 unfold K6 at h;obtain ⟨n,h1,rfl⟩:=List.mem_map.1 h;exact ⟨(List.mem_filter.1 h1).1,rfl⟩
theorem b05 {S:List Sb} {A:List PRu} {t:Int} {m:Mg} {ids:List Int} {x:Hn} (h:x∈a1a S A t m ids):x.1=t/\x.2.2.kind=1:=by
 unfold a1a at h;obtain ⟨k, -,h1⟩:=List.mem_filterMap.1 h;unfold C8 at h1;split at h1
 ·cases h1
 split at h1
 ·cases h1
  exact ⟨rfl,rfl⟩
 ·cases h1
theorem L0.fresh {R:RS} {j:Nat} (h:L0 R j):∀p∈R.S,p.1≠(j:Int):=fun p hp e=>by
 have:=(h.si p hp).2;omega
def a1W (B:BS):Prop:=∀t,t<4->a3g (B.R t)
theorem RS.hear_S (R:RS) (frm:Int) (f:Fil) (on:Bool) (near:List Int):((R.hear frm f on).refr near).S=R.S:=by
 cases on with
 |true=>exact (R.tadd_eq frm f).2.2.1
 |false=>rfl
theorem a1W.take {B:BS} (h:a1W B) (near:List Int) (t:Nat) (frm:Int) (f:Fil) (on:Bool):a1W (B.takeB near t frm f on):=fun i hi=>by
 unfold BS.takeB BS.anew;split
 ·by_cases e:i=t
  ·subst e;rw [BS.setR_at];exact (h i hi).of (RS.hear_S _ _ _ _ _)
  rw [BS.setR_ne _ _ e];exact h i hi
 exact h i hi
theorem BS.subE_right {B:BS} {id:Int} {t:Nat} {who fs:ByteArray} {fl:List Cnd} (h:B.subE id t who fs fl=0):l9 fs fl=true:=by
 unfold BS.subE at h;split at h
 ·rename_i hr
  exact hr
 ·cases h
theorem a1W.sub {B:BS} {j:Nat} (h:a1W B) (hb:a2w B j) (id:Int) (near:List Int) {t:Nat} (ht:t<4) (who fs:ByteArray) {fl:List Cnd} (hf:∀c∈fl,c.fits):a1W (B.subB id near t who j fs fl):=fun i hi=>by
 unfold BS.subB BS.anew;split
 ·rename_i h0
  by_cases e:i=t
  ·subst e;rw [BS.setR_at];exact (h i hi).sub j who (b5A (BS.subE_right h0) hf) near (hb i ht).fresh
  rw [BS.setR_ne _ _ e];exact h i hi
 exact h i hi
theorem b06 (H:List (List UInt8)) (Q:List Att):∀a∈T9 H Q,a∈Q:=fun _ ha=>(List.mem_filter.1 ha).1
theorem a7p {c:Cnd} {H:List (List UInt8)} {Q:List Att} (h:o4 c (T9 H Q)=true):o4 c Q=true:=by
 unfold o4 at*;obtain ⟨a,ha,h⟩:=List.any_eq_true.1 h;exact List.any_eq_true.2 ⟨a,b06 H Q a ha,h⟩
def kp (f:Fil):Fil:=(f.1,j4 f.2)
theorem a7q (M:List (Int×Fil)) (p:Int×Fil) (n:Int) (k:List UInt8):o5 (M++[p]) n k=(o5 M n k).or (if (p.1==n&&j5 p.2==k)=true then some p.2 else none):=by
 unfold o5;rw [List.find?_append,List.find?_singleton]
 cases M.find? fun p=>p.1==n&&j5 p.2==k with
 |some x=>rfl
 |none=>
  rw [Option.none_or];cases h:p.1==n&&j5 p.2==k<;>rfl
theorem a4l {M:List (Int×Fil)} {n:Int} {k:List UInt8} {q:Fil} (h:o5 M n k=some q):(n,q)∈M/\j5 q=k:=by
 unfold o5 at h;obtain ⟨p,hp,rfl⟩:=Option.map_eq_some_iff.1 h;have h1:=List.find?_some hp;rw [Bool.and_eq_true] at h1;have e:p.1=n:=by simpa using h1.1
 refine ⟨?_,by simpa using h1.2⟩;rw [<-e];exact List.mem_of_find?_eq_some hp
theorem a7r {M:List (Int×Fil)} {n:Int} {q:Fil}:q∈a1m M n↔o5 M n (j5 q)=some q:=by
 unfold a1m;rw [List.mem_filterMap];constructor
 ·rintro ⟨k, -,h⟩;rw [(a4l h).2];exact h
 intro h;exact ⟨j5 q,a0S.2 (a0V.2 (by rw [h];rfl)),h⟩
structure M2 (M:List (Int×Fil)) (N:Int->List Fil):Prop where
 src:∀n,n=1\/n=2->∀q,(n,q)∈M->∃f∈N n,q=kp f
 has:∀n,n=1\/n=2->∀f∈N n,(o5 M n (j5 (kp f))).isSome=true
theorem M2.nil:M2 [] (fun _=>[]):=⟨fun _ _ _ h=>(by cases h),fun _ _ _ h=>(by cases h)⟩
theorem M2.app {M:List (Int×Fil)} {N:Int->List Fil} (h:M2 M N) (frm:Int) (f:Fil):M2 (M++[(frm,kp f)]) (T8 N frm (N frm++[f])):=by
 refine ⟨fun n hn q hq=> ?_,fun n hn g hg=> ?_⟩
 ·rcases zz14 hq with hq|hq
  ·obtain ⟨g,h1,h2⟩:=h.src n hn q hq;refine ⟨g, ?_,h2⟩;by_cases e:n=frm
   ·subst e;rw [V3];exact List.mem_append_left _ h1
   rw [Z5 _ _ e];exact h1
  have e:=List.mem_singleton.1 hq;cases e
  exact ⟨f,by rw [V3];exact List.mem_append_right _ (List.mem_singleton.2 rfl),rfl⟩
 rw [a7q];by_cases e:n=frm
 ·subst e;rw [V3] at hg;rcases zz14 hg with hg|hg
  ·have h1:=h.has n hn g hg
   cases ht:o5 M n (j5 (kp g)) with
   |some q=>rfl
   |none=>rw [ht] at h1;cases h1
  rw [List.mem_singleton.1 hg]
  cases o5 M n (j5 (kp f)) with
  |some q=>rfl
  |none=>
   rw [Option.none_or,if_pos (by simp)];rfl
 rw [Z5 _ _ e] at hg;have h1:=h.has n hn g hg
 cases ht:o5 M n (j5 (kp g)) with
 |some q=>rfl
 |none=>rw [ht] at h1;cases h1
theorem M2.tadd {R:RS} {N:Int->List Fil} (h:M2 R.M N) (frm:Int) (f:Fil):M2 (R.tadd frm (kp f)).M (T8 N frm (N frm++[f])):=by
 unfold RS.tadd;split
 ·exact h.app frm f
 rename_i hnn
 refine ⟨fun n hn q hq=> ?_,fun n hn g hg=> ?_⟩
 ·obtain ⟨g,h1,h2⟩:=h.src n hn q hq;refine ⟨g, ?_,h2⟩;by_cases e:n=frm
  ·subst e;rw [V3];exact List.mem_append_left _ h1
  rw [Z5 _ _ e];exact h1
 by_cases e:n=frm
 ·subst e;rw [V3] at hg;rcases zz14 hg with hg|hg
  ·exact h.has n hn g hg
  rw [List.mem_singleton.1 hg]
  cases ht:o5 R.M n (j5 (kp f)) with
  |some q=>rfl
  |none=>rw [ht] at hnn;exact absurd rfl hnn
 rw [Z5 _ _ e] at hg;exact h.has n hn g hg
theorem M2.here {R:RS} {N:Int->List Fil} (h:M2 R.M N) (f:Fil):M2 (R.tadd (-1) f).M N:=by
 unfold RS.tadd;split
 ·refine ⟨fun n hn q hq=> ?_,fun n hn g hg=> ?_⟩
  ·rcases zz14 hq with hq|hq
   ·exact h.src n hn q hq
   have e:=List.mem_singleton.1 hq;cases e
   omega
  show (o5 (R.M++[((-1:Int),f)]) n _).isSome=true;rw [a7q];have h1:=h.has n hn g hg
  cases ht:o5 R.M n (j5 (kp g)) with
  |some q=>rfl
  |none=>rw [ht] at h1;cases h1
 exact h
theorem M2.take {B:BS} {N:Int->List Fil} (h:M2 (B.R 0).M N) (frm:Int) (f:Fil):M2 ((B.takeB [1,2] 0 frm (kp f) true).R 0).M (T8 N frm (N frm++[f])):=by
 have h1:=h.tadd frm f;unfold BS.takeB BS.anew;split
 ·rw [BS.setR_at];exact h1
 rename_i hn
 have e:(B.R 0).tadd frm (kp f)=B.R 0:=if_neg hn;rw [e] at h1;exact h1
theorem M2.sub {B:BS} {N:Int->List Fil} (h:M2 (B.R 0).M N) (id:Int) (who:ByteArray) (k:Int) (fs:ByteArray) (fl:List Cnd):M2 ((B.subB id [1,2] 0 who k fs fl).R 0).M N:=by
 unfold BS.subB BS.anew;split
 ·rw [BS.setR_at];exact M2.here (R:=((B.R 0).addS k who (fs,j4 fl)).addI k (fs,j4 fl)) h (fs,j4 fl)
 exact h
def b07 (f:Fil):Prop:=(∀c∈f.2,c.whole)/\okN (kp f)
theorem b07.of {fs:ByteArray} {fl:List Cnd} (h:l9 fs fl=true) (hn:∀c∈fl,c.fits):b07 (fs,fl):=
 ⟨fun c hc=>by
  obtain ⟨-, -,h3⟩:=C7 h;have:=h3 c hc
  exact ⟨this.2.1,this.2.2.1,(hn c hc).v.num⟩,a2v h hn⟩
theorem M2.any {M:List (Int×Fil)} {N:Int->List Fil} (h:M2 M N) (hM:∀p∈M,okN p.2) {n:Int} (hn:n=1\/n=2) (hN:∀f∈N n,b07 f) (es:ByteArray) (L:List Att):((a1m M n).any fun q=>z8 q es L)=(N n).any fun f=>z8 f es L:=by
 rw [Bool.eq_iff_iff,List.any_eq_true,List.any_eq_true];constructor
 ·rintro ⟨q,hq,hm⟩;obtain ⟨f,hf,rfl⟩:=h.src n hn q (a4l (a7r.1 hq)).1;exact ⟨f,hf,by rw [<-hm];exact (a2l (hN f hf).1 es L).symm⟩
 rintro ⟨f,hf,hm⟩;obtain ⟨q,hq⟩:=Option.isSome_iff_exists.1 (h.has n hn f hf);obtain ⟨h1,h2⟩:=a4l hq;have e:q=kp f:=a9N (hM _ h1) (hN f hf).2 h2;refine ⟨q,a7r.2 (by rw [h2];exact hq), ?_⟩;rw [e,<-hm];exact a2l (hN f hf).1 es L
theorem a5n {M:List (Int×Fil)} {N:Int->List Fil} (h:M2 M N) (hM:∀p∈M,okN p.2) (t:Int) (m:Mg) {a b:Int} (hab:a=1/\b=2\/a=2/\b=1) (hN:∀f∈N b,b07 f):K6 M [1,2] t a m=if (N b).any (fun f=>z8 f m.es m.el)=true then [(b,t,m)] else []:=by
 have hb:=h.any hM (n:=b) zo hN m.es m.el;rw [<-hb];unfold K6 b02;rcases hab with ⟨rfl,rfl⟩|⟨rfl,rfl⟩
 ·cases hx:(a1m M 2).any fun q=>z8 q m.es m.el<;>simp [hx]
 ·cases hx:(a1m M 1).any fun q=>z8 q m.es m.el<;>simp [hx]
def a2y (A:List PRu) (t:Int) (m:Mg) (p:Sb):Option Hn:=if a1U A t p.2.1 p.2.2.1 p.2.2.2&&A8 p.2.2.1 p.2.2.2 m.es (V4 A t p.2.1 m.es m.el) then some (t,p.2.1,⟨1,0,0,p.1,m.ser,m.ver,m.org,m.es,V4 A t p.2.1 m.es m.el⟩) else none
theorem a81 (A:List PRu) (t:Int) (who es:ByteArray) (L:List Att):∃H,V4 A t who es L=T9 H L:=⟨_,rfl⟩
theorem a1X {q:Fil} {es:ByteArray} {L:List Att} (hr:r8 L):A8 q.1 q.2 es L=z8 q es L:=by
 unfold A8 z8;rw [Bool.and_comm];congr 1;have:(fun c=>o4 c L)=fun c:Cnd=>c.matchB L:=funext fun c=>a5j hr c;rw [this]
theorem a52 {q:Fil} {A:List PRu} {t:Int} {who es:ByteArray} {L:List Att} (hr:r8 L) (h:A8 q.1 q.2 es (V4 A t who es L)=true):z8 q es L=true:=by
 rw [a1X (a2x a7o hr)] at h;unfold z8 at*;rw [Bool.and_eq_true,List.all_eq_true] at*;refine ⟨h.1,fun c hc=> ?_⟩;have h1:=h.2 c hc;obtain ⟨H,hH⟩:=a81 A t who es L;rw [hH] at h1;exact a7p h1
theorem a82 {L:List Int} (h:L.Pairwise (· < ·)):W8 L=L:=by
 unfold W8;refine List.mergeSort_of_pairwise (h.imp fun {a b} hab=> ?_);unfold leI;simp only [decide_eq_true_eq];omega
theorem b08 {α β:Type} (p:α->Bool) (f:α->Option β) (l:List α) (h:∀x∈l,p x=false->f x=none):(l.filter p).filterMap f=l.filterMap f:=by
 induction l with
 |nil=>rfl
 |cons a l ih=>
  have ih':=ih fun x hx=>h x (List.mem_cons_of_mem _ hx)
  cases hp:p a with
  |true=>rw [List.filter_cons_of_pos (by rw [hp]),List.filterMap_cons,List.filterMap_cons,ih']
  |false=>rw [List.filter_cons_of_neg (by rw [hp];decide),List.filterMap_cons,h a (List.mem_cons_self ..) hp,ih']
theorem b43 {S:List Sb} {I:List (Int×Fil)} (hS:(S.map Prod.fst).Pairwise (· < ·)) (hI:I=S.map fun p=>(p.1,p.2.2)) (A:List PRu) (t:Int) (m:Mg) (hr:r8 m.el):a1a S A t m (a6M I m.es m.el)=S.filterMap (a2y A t m):=by
 have hnd:(S.map Prod.fst).Nodup:=hS.imp fun {a b} h=>Int.ne_of_lt h;have XL:I.map Prod.fst=S.map Prod.fst:=by rw [hI,List.map_map];rfl
 unfold a1a a6M;rw [XL,a82 hS]
 have hone:∀p∈S,C8 S A t m p.1=a2y A t m p:=fun p hp=>by
  unfold C8;rw [a7m hnd hp];rfl
 have hix:∀p∈S,B7 I p.1=some p.2.2:=fun p hp=>by
  have h1:(I.map Prod.fst).Nodup:=by rw [XL];exact hnd
  have h2:(p.1,p.2.2)∈I:=by rw [hI];exact List.mem_map_of_mem (f:=fun p:Sb=>(p.1,p.2.2)) hp
  have h3:∀(I:List (Int×Fil)),(I.map Prod.fst).Nodup->(p.1,p.2.2)∈I->B7 I p.1=some p.2.2:=fun I=>by
   intro hn hm;unfold B7
   induction I with
   |nil=>cases hm
   | cons a I ih=>
    rw [List.map_cons,List.nodup_cons] at hn;rcases List.mem_cons.1 hm with e|hm
    ·rw [<-e,List.find?_cons_of_pos (by simp)];rfl
    rw [List.find?_cons_of_neg (fun e=>hn.1 (by
     have e':a.1=p.1:=by simpa using e
     rw [e']
     exact List.mem_map_of_mem (f:=Prod.fst) hm))]
    exact ih hn.2 hm
  exact h3 I h1 h2
 rw [b08 _ _ _ (fun id hid hp=> ?_)]
 ·rw [List.filterMap_map]
  have:∀l:List Sb,(∀p∈l,p∈S)->l.filterMap (C8 S A t m∘Prod.fst)=l.filterMap (a2y A t m):=fun l=>by
   induction l with
   |nil=>intro _;rfl
   |cons a l ih=>
    intro h;rw [List.filterMap_cons,List.filterMap_cons,ih fun p hp=>h p (List.mem_cons_of_mem _ hp)];have e:(C8 S A t m∘Prod.fst) a=a2y A t m a:=hone a (h a (List.mem_cons_self ..));rw [e]
  exact this S fun _ h=>h
 obtain ⟨p,XM,rfl⟩:=List.mem_map.1 hid;rw [hone p XM];rw [b0x (hix p XM) (a5I hr)] at hp;unfold a2y;rw [if_neg];intro h;rw [Bool.and_eq_true] at h;rw [a52 hr h.2] at hp;cases hp
structure M3 (w wr:World) (owr:Ow) (g q:Nat) (P:List PRu) (B:BS) (j:Nat) (S:List Sd) (H:List Hn):Prop where
 ow:Owd w wr owr
 br:Bro wr owr 2 g 0 [1,2] B
 L:B.L=P
 R:a2w B j
 O:OtI wr owr 40 q S H
 cnt:S.length+H.length<=j*4000000+1000000
 md:Mod (fun _=>False) w wr
theorem M3.go {w wr:World} {owr:Ow} {g q:Nat} {P:List PRu} {B:BS} {j:Nat} {S:List Sd} {H:List Hn} (h:M3 w wr owr g q P B j S H) (hj:j<=900) (t:Nat) (ht:t<4):RS.Go (B.R t):=by
 obtain ⟨a,hb⟩:=h.br;exact (h.R t ht).go hj (hb.rea t ht).tab
theorem M3.low {w wr:World} {owr:Ow} {g q:Nat} {P:List PRu} {B:BS} {j:Nat} {S:List Sd} {H:List Hn} (h:M3 w wr owr g q P B j S H) (t:Nat) (ht:t<4):(B.R t).M.length<=(B.R t).N:=by
 obtain ⟨a,hb⟩:=h.br;exact I3.len (hb.rea t ht).tab
theorem M3.mod {w wr w':World} {owr:Ow} {g q:Nat} {P:List PRu} {B:BS} {j:Nat} {S:List Sd} {H:List Hn} (h:M3 w wr owr g q P B j S H) (hm:Mod (fun _=>False) wr w'):M3 w w' owr g q P B j S H:=
 have s:=Mov.of h.ow hm (fun _=>False)
 ⟨s.owd h.ow id,h.br.mov h.ow s id (fun _ h=>h.elim),h.L,h.R,h.O.mov s id id,h.cnt,h.md.trans hm zi⟩
theorem a54:∀n∈([1,2]:List Int),(Lit.int .i64 n).wf=true:=zd
theorem RS.hear_M (R:RS) (frm:Int) (f:Fil) (on:Bool):(R.hear frm f on).M.length<=R.M.length+1/\(R.hear frm f on).G=R.G:=by
 cases on with
 | true=>
  refine ⟨?_,(R.tadd_eq frm f).1⟩;show (R.tadd frm f).M.length<=_;unfold RS.tadd;split
  ·show (R.M++[_]).length<=_;rw [zz4];exact Nat.le_refl _
  ·exact Nat.le_succ _
 |false=>
  refine ⟨Nat.le_trans (List.length_filter_le _ _) (Nat.le_succ _),rfl⟩
theorem BS.takeS_len {B:BS} {t:Nat} (hR:RS.Go (B.R t)) (hM:(B.R t).M.length<=(B.R t).N) (frm:Int) (f:Fil) (on:Bool):(B.takeS [1,2] t frm f on).length<=4000000:=by
 unfold BS.takeS;split
 ·obtain ⟨h1, -⟩:=(B.R t).hear_M frm f on;exact a0X (near:=[1,2]) hR.g.len (by have:=hR.n;omega) t
 exact Nat.zero_le _
theorem BS.subS_len {B:BS} {t:Nat} (hR:RS.Go (B.R t)) (hM:(B.R t).M.length<=(B.R t).N) (id:Int) (who:ByteArray) (k:Int) (fs:ByteArray) (fl:List Cnd):(B.subS id [1,2] t who k fs fl).length<=4000000:=by
 unfold BS.subS;split
 ·obtain ⟨h1, -⟩:=(((B.R t).addS k who (fs,j4 fl)).addI k (fs,j4 fl)).hear_M (-1) (fs,j4 fl) true;exact a0X (near:=[1,2]) hR.g.len (by have:=hR.n;have h2:((B.R t).sub k who (fs,j4 fl)).M.length<=(B.R t).M.length+1:=h1;omega) t
 exact Nat.zero_le _
theorem M3.take {w wr:World} {owr:Ow} {g q:Nat} {P:List PRu} {B:BS} {j:Nat} {S:List Sd} {H:List Hn} (h:M3 w wr owr g q P B j S H) (hj:j<=40) (t:Nat) (ht:t<4) (frm:Int) (hfw:(Lit.int .i64 frm).wf=true) (on:Bool)
 (x:Mv) (hk:x.m.kind=tkK on) (hf:j3 wr 7 (.slice x.fa x.m.fl.length x.fc) x.m.fl.length (m5 x.m.fl)) (hfr:l9 x.m.fs x.m.fl=true) (hft:∀c∈x.m.fl,c.fits):
 Calls Tryz.prog 9 #[.pointer (some ⟨g,0,none⟩),.iface 51 (.pointer (some ⟨q,0,none⟩)),.int .i64 frm,.int .i64 t,.agg x.cells.toArray] wr fun e w'=>e= .returned (.bool true)/\
  ∃ow',M3 w w' ow' g q P (B.takeB [1,2] t frm (x.m.fs,j4 x.m.fl) on) (j+1) (S++B.takeS [1,2] t frm (x.m.fs,j4 x.m.fl) on) H/\Mov (W4 2 t (fun t=>t=40)) wr owr w' ow':=by
 have hR:=h.go zo t ht;have hl:=BS.takeS_len hR (h.low t ht) frm (x.m.fs,j4 x.m.fl) on;have hc:=h.cnt;refine (b3g on w wr owr h.ow 2 g 0 [1,2] B h.br zd a54 t ht q (O6 w q 40 zo) (S,H) h.O (fun t ht=>by have h':t=40:=ht;omega) (fun _ _=>trivial) (by show S.length+H.length<=_;omega) hR frm hfw x hk hf hfr hft).mono ?_;rintro e w' ⟨he,ow',hb,hO,hm⟩;rw [a1S] at hO
 have h0:¬W4 2 t (fun t=>t=40) 0:=fun h=>by
  rcases h with h|h
  ·omega
  ·cases h
 exact ⟨he,ow',⟨hm.owd h.ow h0,hb,by rw [BS.takeB_L];exact h.L,h.R.take ht frm (a2v hfr hft) on,hO,by rw [zz4];omega,hm.mod0 h.ow h.md h0⟩,hm⟩
theorem M3.take1 {w wr:World} {owr:Ow} {g q:Nat} {P:List PRu} {B:BS} {j:Nat} {S:List Sd} {H:List Hn} (h:M3 w wr owr g q P B j S H) (hj:j<=40) (t:Nat) (ht:t<4) (frm:Int) (hfw:(Lit.int .i64 frm).wf=true)
 {fs:ByteArray} {fa:Option Addr} {fc:Nat} {fl:List Cnd} (hf:j3 wr 7 (.slice fa fl.length fc) fl.length (m5 fl)) (hfr:l9 fs fl=true) (hft:∀c∈fl,c.fits):
 Calls Tryz.prog 9 #[.pointer (some ⟨g,0,none⟩),.iface 51 (.pointer (some ⟨q,0,none⟩)),.int .i64 frm,.int .i64 t,.agg #[.int .i64 1,.int .i64 0,.int .i64 0,.int .i64 0,.string ⟨#[]⟩,.int .i64 0,.string ⟨#[]⟩,.slice none 0 0,.string ⟨#[]⟩,.int .i64 0,
  .string fs,.slice fa fl.length fc,.string ⟨#[]⟩,.slice none 0 0,.int .i64 0,.string ⟨#[]⟩,.int .i64 0]] wr fun e w'=>e= .returned (.bool true)/\
  ∃ow',M3 w w' ow' g q P (B.takeB [1,2] t frm (fs,j4 fl) true) (j+1) (S++B.takeS [1,2] t frm (fs,j4 fl) true) H/\Mov (W4 2 t (fun t=>t=40)) wr owr w' ow':=
 h.take hj t ht frm hfw true ⟨Mg.sub (fs,fl),none,0,fa,fc,none,0⟩ rfl hf hfr hft
theorem M3.sub {w wr:World} {owr:Ow} {g q:Nat} {P:List PRu} {B:BS} {j:Nat} {S:List Sd} {H:List Hn} (h:M3 w wr owr g q P B j S H) (hP:P.length<=40) (hj:j<=40) (t:Nat) (ht:t<4) (who:ByteArray)
 (fs:ByteArray) (fa:Option Addr) (fc:Nat) (fl:List Cnd) (hf:j3 wr 7 (.slice fa fl.length fc) fl.length (m5 fl)) (hfs:fs.size<=1000000) (hfl:fl.length<=1000) (hft:∀c∈fl,c.fits):
 Calls Tryz.prog 10 #[.pointer (some ⟨g,0,none⟩),.iface 51 (.pointer (some ⟨q,0,none⟩)),.int .i64 t,.string who,.int .i64 j,.agg #[.string fs,.slice fa fl.length fc]] wr fun e w'=>e= .returned (.int .i64 (B.subE 0 t who fs fl))/\
  ∃ow',M3 w w' ow' g q P (B.subB 0 [1,2] t who j fs fl) (j+1) (S++B.subS 0 [1,2] t who j fs fl) H/\Mov (W4 2 t (fun t=>t=40)) wr owr w' ow':=by
 have hR:=h.go zo t ht;have hl:=BS.subS_len hR (h.low t ht) 0 who j fs fl;have hc:=h.cnt;obtain ⟨hn1,hn2⟩:=(h.R t ht).none;refine (a50 w wr owr h.ow 2 g 0 [1,2] B h.br (by rw [h.L];exact hP) zd a54 t ht q (O6 w q 40 zo) (S,H) h.O (fun t ht=>by have h':t=40:=ht;omega) (fun _ _=>trivial) (by show S.length+H.length<=_;omega) hR who j (b2L ⟨zo,zo⟩) hn1 hn2 fs fa fc fl hf hfs hfl hft).mono ?_;rintro e w' ⟨he,ow',hb,hO,hm⟩;rw [a1S] at hO
 have h0:¬W4 2 t (fun t=>t=40) 0:=fun h=>by
  rcases h with h|h
  ·omega
  ·cases h
 exact ⟨he,ow',⟨hm.owd h.ow h0,hb,by rw [BS.subB_L];exact h.L,h.R.sub ht 0 who fs (fun hr=>a2v hr hft),hO,by rw [zz4];omega,hm.mod0 h.ow h.md h0⟩,hm⟩
def b09 {w0:World} {q:Nat} (O:B6 w0 q) (w:World) (ow:Ow) (c g:Nat) (id:Int) (near:List Int) (B:BS) (t:Nat) (s:O.σ) (frm:Int) (m:Mg) (e:Ending) (w':World):Prop:=
 e= .returned (.tuple #[])/\∃ow',Bro w' ow' c g id near B/\O.inv w' ow' (O.sends (O.shows s (B.rouH t m)) (K6 (B.R t).M near t frm m))/\Mov O.tg w ow w' ow'
def b6K {w0:World} {q:Nat} (O:B6 w0 q) (w:World) (ow:Ow) (s:O.σ) (f:Int->Option Hn) (ids:List Int) (i:Value) (wr:World):Prop:=
 ∃(j:Nat) (owr:Ow),i= .int .i64 j/\j<=ids.length/\O.inv wr owr (O.shows s ((ids.take j).filterMap f))/\Mov O.tg w ow wr owr
def b6d {w0:World} {q:Nat} (O:B6 w0 q) (w:World) (ow:Ow) (s:O.σ) (M:List (Int×Fil)) (near:List Int) (t frm:Int) (m:Mg) (i:Value) (wr:World):Prop:=
 ∃(j:Nat) (owr:Ow),i= .int .i64 j/\j<=near.length/\O.inv wr owr (O.sends s (K6 M (near.take j) t frm m))/\Mov O.tg w ow wr owr
theorem I3.okR {w:World} {ow:Ow} {c b:Nat} {M:List (Int×Fil)} {N:Nat} (h:I3 w ow c b M N):∀p∈M,okQ p.2:=fun p hp=>by
 obtain ⟨mo,hat⟩:=h;exact ⟨(hat.wf _ hp).2.1,(hat.wf _ hp).2.2,hat.sc _ hp⟩
theorem b3j (w0 w:World) (ow:Ow) (hw:Owd w0 w ow) (c g:Nat) (id:Int) (near:List Int) (B:BS) (h:Bro w ow c g id near B) (hL:B.L.length<=40) (hnl:near.length<=1000) (hnw:∀n∈near,(Lit.int .i64 n).wf=true) (t:Nat) (ht:t<4)
 (q:Nat) (O:B6 w0 q) (s:O.σ) (hO:O.inv w ow s) (jy:∀t,O.tg t->t<c\/c+18<=t) (hto:∀n∈near,O.okTo n t) (hcnt:O.cnt s<=300000000000) (hT:(B.R t).T<=100000) (hN:(B.R t).N<=100000)
 (DT:∀k∈(B.R t).I.map Prod.fst,(Lit.int .i64 k).wf=true/\∃q,T7 (B.R t).S k=some q/\okQ q.2) (Tu:(B.R t).I.length<=1000) (frm:Int) (x:Mv) (hx:X3 w ow x) (he:a8M x.m.es x.m.el):
 Calls Tryz.prog 32 #[.pointer (some ⟨g,0,none⟩),.iface 51 (.pointer (some ⟨q,0,none⟩)),.int .i64 t,.int .i64 frm,.agg x.cells.toArray] w (b09 O w ow c g id near B t s frm x.m):=by
 obtain ⟨a,h⟩:=h;obtain ⟨l,hlB,hfin,hle,hat⟩:=h.at_ hL;obtain ⟨q0,q1,q2, -⟩:=h.cells ht;obtain ⟨L,aV, -⟩:=h.log;obtain ⟨na,nc,mI,hnc⟩:∃a' cc,a.nv= .slice a' near.length cc/\near.length<=cc:=by obtain ⟨-,a,cc,h,h2, -⟩:=h.near.rd;exact ⟨a,cc,h,h2⟩
 have c2:w.cell? ⟨g,2,none⟩=some (.slice na near.length nc):=by rw [<-mI];exact d6 aV.row rfl
 obtain ⟨wa,aD,ah,ae,au⟩:=g8 w (.cells x.cells.toArray 33);have mD:(t:Int)<4:=zo
 have ht0:(0:Int)<=t:=zo
 have JR:(near.length:Int)<=1000:=zo
 have hnc':(near.length:Int)<=nc:=zo
 have lm:=h.rea t ht;have Lc:¬O.tg 0:=fun h=>by have:=O.t2 0 h;omega
 have hF:∀wx,Mod (fun _=>False) wa wx->RtF wa w.heap.size g t (a.tb t) (a.ib t) x na near.length nc wx:=fun wx hm=>
  ⟨hm.cell (ah.cell q0 (fun h=>h)) (fun h=>h),hm.cell (ah.cell q1 (fun h=>h)) (fun h=>h),hm.cell (d6 ae rfl) (fun h=>h),hm.cell (d6 ae rfl) (fun h=>h),hm.cell (d6 ae rfl) (fun h=>h),hm.cell (ah.cell c2 (fun h=>h)) (fun h=>h),hm⟩
 obtain ⟨ids,jb⟩:∃ids,a6M (B.R t).I x.m.es x.m.el=ids:=⟨_,rfl⟩
 have him:∀wx,Mod (fun _=>False) wa wx->Calls Tryz.prog 66 #[.pointer (some ⟨a.ib t,0,none⟩),.agg #[.string x.m.es,.slice x.ea x.m.el.length x.ec]] wx (fun e w'=>∃v,e= .returned v/\j2 w' 3 1 v ids.length (ids.map (Value.int .i64))/\(∀k,v.ownBlock=some k->wx.heap.size<=k)/\Mod (fun _=>False) wx w'):=fun wx hm=>by
  have h1:=b0q wx (a.ib t) _ _ (B.R t).I (B.R t).T (Idx.mod lm.idx (ah.trans hm zi) zi) hT x.m.es (by have:=he.es;omega) (.slice x.ea x.m.el.length x.ec) x.m.el (hx.el.rd.mod (ah.trans hm zi) zi) (by have:=he.len;omega) (fun q hq=>by have:=he.each q hq;omega);rw [<-jb];exact h1
 have oP:∀k∈ids,(Lit.int .i64 k).wf=true/\∃q,T7 (B.R t).S k=some q/\okQ q.2:=fun k hk=>by
  rw [<-jb] at hk;exact DT k (a45.1 (List.mem_filter.1 hk).1)
 have Ql:ids.length<=1000:=by
  rw [<-jb];refine Nat.le_trans (List.length_filter_le _ _) ?_;unfold W8;rw [List.length_mergeSort,zz10];exact Tu
 obtain ⟨Hw,H,xM,Db,cZ,FQ,iL,HF,Him,De,Hx,He⟩:=zh12 hw h hat hlB hfin hle aV hF him lm hx he;obtain ⟨CZ,aF,aB,aH,iy,IA,HIS,iY,HO,kw,vD,iO⟩:=zh12 mI aD ah ae jb oP DT hnw hO jy hto Lc;clear hw h hat hlB hfin hle aV hF him lm hx he mI aD ah ae jb oP DT hnw hO jy hto Lc au
 go_enter Tryz.func32,Tryz.ntmps32
 go_wp2_with (rw [show w.alloc _=wa from aF.out])
 have hS:RtF wa w.heap.size g t (a.tb t) (a.ib t) x na near.length nc wa.drew:=HF.out _ ((Mod.refl _ wa).drew);refine i8 [.rd 0,.rd 1,.rd 2,.rd 3,.rd 4,.go 5,.go 6] [0,1,2,3,4] (RtF wa w.heap.size g t (a.tb t) (a.ib t) x na near.length nc) zk zk (fun _ _ d _ _ h=>(by cases d<;>exact h)) ?_
 iterate 5 (
  refine n4 rfl ?_ (fun _=>hS) ?_ (fun w0 h0=> ?_) (fun K hK=> ?_)
  ·exact zg
  rotate_left
  ·(try simp only [zz1,zz2,zz3])
   first
    |(obtain ⟨f0,f1,f2,f3,f4,f5, -⟩:=h0 rfl;clear h0;go_simp;with_reducible rfl)
    |(clear h0;go_simp;with_reducible rfl)
  (try simp only [zz1,zz2,zz3])
  go_simp;refine hK _ ?_;clear hK K)
 refine i6 (j0 rfl ?_ (fun K hK=> ?_))
 ·exact zg
 go_wp2_with fail
 refine (xM.out _ _ (aB.out.trans hS.md zi)).mono ?_;rintro e w2 ⟨v2,rfl,fE,Ld,hm2⟩;have hS2:=HF.out w2 (hS.md.trans hm2 zi);have zX:∀b,v2.ownBlock=some b->w.heap.size<=b:=fun b hb=>Nat.le_trans (Nat.le_trans aB.out.size hS.md.size) (Ld b hb);refine hK _ _ (fun _ h=>HF.out _ (h.md.trans hm2 zi)) ?_;clear hK K hS;obtain ⟨HS2,xu,Le⟩:=zh3 hS2 fE zX;clear hS2 fE zX hm2 Ld;refine i6 (j0 rfl ?_ (fun K hK=> ?_))
 ·exact zg
 (try simp only [zz1,zz2,zz3]);go_simp;refine hK _ _ (fun h=>absurd h zd) ?_;clear hK K;refine m6 ?_
 go_wp2_with fail
 have hS:=HF.out _ (HS2.out.md.drew);refine i8 [.rd 0,.rd 1,.rd 2,.rd 3,.rd 4,.rd 5,.rd 8,.go 6,.rd 7] [0,1,2,3,4,5,7,8] (RtF wa w.heap.size g t (a.tb t) (a.ib t) x na near.length nc) zk zk (fun _ _ d _ _ h=>(by cases d<;>exact h)) ?_
 iterate 7 (
  refine n4 rfl ?_ (fun _=>hS) ?_ (fun w0 h0=> ?_) (fun K hK=> ?_)
  ·exact zg
  rotate_left
  ·(try simp only [zz1,zz2,zz3])
   first
    |(obtain ⟨f0,f1,f2,f3,f4,f5, -⟩:=h0 rfl;clear h0;go_simp;with_reducible rfl)
    |(clear h0;go_simp;with_reducible rfl)
  (try simp only [zz1,zz2,zz3])
  go_simp;refine hK _ ?_;clear hK K)
 refine i6 (j0 rfl ?_ (fun K hK=> ?_))
 ·exact zg
 go_wp2_with fail
 refine (Him.out _ hS.md).mono ?_;rintro e w3 ⟨iv,rfl,hov,hib,aC⟩;obtain ⟨ia,ic,rfl,hic⟩:=hov.shape;have b79:(ids.length:Int)<=ic:=zo
 have DU:∀b,(Value.slice ia ids.length ic).ownBlock=some b->w.heap.size<=b:=fun b hb=>Nat.le_trans (Nat.le_trans aB.out.size hS.md.size) (hib b hb);have dL:Mod (fun _=>False) w2 w3:=((Mod.refl (fun _=>False) w2).drew).trans aC zi;have xZ:=HF.out w3 (hS.md.trans aC zi);refine hK _ _ (fun _ h=>HF.out _ (h.md.trans aC zi)) ?_;clear hK K;have hS:=xZ;refine n4 rfl ?_ (fun _=>hS) ?_ (fun w0 h0=> ?_) (fun K hK=> ?_)
 ·exact zg
 rotate_left
 ·(try simp only [zz1,zz2,zz3])
  first
   |(obtain ⟨f0,f1,f2,f3,f4,f5, -⟩:=h0 rfl;clear h0;go_simp;with_reducible rfl)
   |(clear h0;go_simp;with_reducible rfl)
 (try simp only [zz1,zz2,zz3]);go_simp;refine hK _ ?_;clear hK K;refine m6 ?_;have aS:=aB.out.trans xZ.md zi;have hs3:=Mov.of Hw.out aS (fun _=>False);have eu:=hs3.owd Hw.out (fun h=>h);have hb3:=H.out.mov Hw.out hs3 (fun h=>h) (fun _ h=>h.elim);have hO3:=O.mov HO.out Hw.out hs3 (fun h=>h) (fun _ h=>h.elim);have hx3:=Hx.out.mov hs3 (fun h=>h);have hg3:=xZ.md.heap aH.out (fun h=>h);have hcI:o3 w3 ow 1 (.slice ia ids.length ic) ids.length (ids.map (Value.int .i64)):=⟨hov.rd,fun _ b hb=>Hw.out.zero (DU b hb)⟩;obtain ⟨A,hA⟩:∃A,atR l (O0 x.m.ver B.L.length)=A:=⟨_,rfl⟩
 have FV:A.length<=40:=by
  have h1:=a5S l (O0 x.m.ver B.L.length);have h2:=congrArg List.length Db.out;rw [zz10] at h2;rw [hA] at h1;omega
 have hcA:o3 w3 ow 8 v2 A.length (rus A):=by
  have h1:=xu.out.rd;rw [hA] at h1;exact ⟨h1.mod dL zi,fun _ b hb=>Hw.out.zero (Le.out b hb)⟩
 have hfA:∀r∈A,r.pru.fine/\o3 w3 ow 7 r.cv r.cs.length (m5 r.cs):=fun r hr=>by
  have h1:=cZ.out r (a3u (n:=O0 x.m.ver B.L.length) (by rw [hA];exact hr));exact ⟨h1.1,h1.2.mov hs3 (fun h=>h) zo⟩
 obtain ⟨AP,vK⟩:∃AP,atP B.L (O0 x.m.ver B.L.length)=AP:=⟨_,rfl⟩;have Lf:A.map Ru.pru=AP:=by rw [<-hA,a3t,Db.out,vK]
 have Lg:Mov O.tg w3 ow w3 ow:=Mov.refl eu;have Lh:ow w.heap.size=0:=Hw.out.zero (Nat.le_refl _);obtain ⟨Ii,yY,b8a,oO,Li,HS,aP,Hs3,jh,Hb3,yV,XN⟩:=zh12 hov hib DU dL xZ hS aS hs3 eu hb3 hO3 hx3;obtain ⟨gm,HcI,HA,Qk,Iw,FW,Lj,Tw,Ll⟩:=zh9 hg3 hcI hA hcA hfA vK Lf Lg Lh;clear hov hib DU dL xZ hS aS hs3 eu hb3 hO3 hx3 hg3 hcI hA hcA hfA vK Lf Lg Lh hic aC
 go_wp2_with fail
 go_loopw [37] (fun i wr=>b6K O w3 ow s (C8 (B.R t).S AP t x.m) ids i wr) (fun i _=>ids.length - (intOf i).toNat)
 case atStart=>exact ⟨0,ow,rfl,Nat.zero_le _,yV.out,Tw.out⟩
 case round=>
  obtain ⟨j,owr,rfl,hj,fG,hmr⟩:=hrel;have qd:=hmr.owd jh.out iO.out;have hbr:=Hb3.out.mov jh.out hmr iO.out kw.out;have hcr:=O.shows_cnt s ((ids.take j).filterMap (C8 (B.R t).S AP t x.m));have hcl:((ids.take j).filterMap (C8 (B.R t).S AP t x.m)).length<=1000:=Nat.le_trans (List.length_filterMap_le _ _) (by rw [List.length_take];omega)
  have hgr:=hmr.md.heap gm.out (fun hf=>iO.out (by
   have hf':O.tg (ow w.heap.size):=hf;rw [Ll.out] at hf'
   exact hf'))
  by_cases hlt:j<ids.length
  ·have hlt':(j:Int)<ids.length:=zo
   obtain ⟨k,hkj⟩:∃k,ids[j]? =some k:=⟨_,zz5 hlt⟩;obtain ⟨lU,q,hq,XO⟩:=IA.out k (zz8 hkj);obtain ⟨gi,offi,rfl,ci⟩:=a34 (HcI.out.mov hmr iO.out zo).rd hkj;obtain ⟨q',qa,qc, -,hlk,hqc⟩:=(hbr.rea t ht).sub.ask k lU;obtain ⟨rfl,hcon⟩:=hqc q hq;obtain ⟨-, -,s2, -⟩:=hbr.cells ht;obtain ⟨wz,hwz,ai,aj,aJ⟩:=g8 wr (.cells #[.string q.1,.string q.2.1,.slice qa q.2.2.length qc] 109);have hgz:=ai.heap hgr (fun h=>h);have hsz:=Mov.of qd ai (fun _=>False);have hmz:=hmr.trans (hsz.mono (G:=O.tg) (fun _ h=>h.elim));have dS:=hsz.owd qd (fun h=>h);have hxz:=XN.out.mov hmz iO.out;have DV:=fun wx (hx:Mod (fun _=>False) wz wx)=>(b3i (Qk.out.mov hmz iO.out zo) (fun r hr=>⟨(Iw.out r hr).1,(Iw.out r hr).2.mov hmz iO.out zo⟩)).mod hx;have zY:=hcon.mov hsz (fun h=>h) zo;have hes:=He.out.es;have hev:=b0I wz v2 A (DV wz (Mod.refl _ _)) zo t q.1 x.m.es zo x.ea x.ec x.m.el hxz.el.rd (by have:=He.out.len;omega);rw [<-a7n,Lj.out] at hev;obtain ⟨sl,hsl⟩:∃sl,V4 AP t q.1 x.m.es x.m.el=sl:=⟨_,rfl⟩;have hsub:sl.Sublist x.m.el:=hsl▸a7o;rw [hsl] at hev;obtain ⟨mo,hmo⟩:∃mo,a1U AP t q.1 q.2.1 q.2.2=mo:=⟨_,rfl⟩;obtain ⟨fm,hfm⟩:∃fm,A8 q.2.1 q.2.2 x.m.es sl=fm:=⟨_,rfl⟩
   have hone:C8 (B.R t).S AP t x.m k=if mo&&fm then some ((t:Int),q.1,⟨1,0,0,k,x.m.ser,x.m.ver,x.m.org,x.m.es,sl⟩) else none:=by
    unfold C8;rw [hq];show (if a1U AP t q.1 q.2.1 q.2.2&&A8 q.2.1 q.2.2 x.m.es (V4 AP t q.1 x.m.es x.m.el) then some _ else none)=_;rw [hsl,hmo,hfm]
   have hsu:=a8Z (S:=(B.R t).S) (A:=AP) (t:=t) (m:=x.m) hkj;have hsu:(ids.take (j+1)).filterMap (C8 (B.R t).S AP t x.m)=(ids.take j).filterMap (C8 (B.R t).S AP t x.m)++(C8 (B.R t).S AP t x.m k).toList:=hsu;rw [hone] at hsu;have e12:wz.cell? ⟨w.heap.size,12,none⟩=some (.string x.m.es):=d6 hgz rfl;have e13:wz.cell? ⟨w.heap.size,13,none⟩=some (.slice x.ea x.m.el.length x.ec):=d6 hgz rfl;have e14:wz.cell? ⟨w.heap.size,14,none⟩=some (.int .i64 x.m.ver):=d6 hgz rfl;have e15:wz.cell? ⟨w.heap.size,15,none⟩=some (.string x.m.org):=d6 hgz rfl;have e16:wz.cell? ⟨w.heap.size,16,none⟩=some (.int .i64 x.m.ser):=d6 hgz rfl;have y0:wz.cell? ⟨wr.heap.size,0,none⟩=some (.string q.1):=d6 aj rfl;have y1:wz.cell? ⟨wr.heap.size,1,none⟩=some (.string q.2.1):=d6 aj rfl;have y2:wz.cell? ⟨wr.heap.size,2,none⟩=some (.slice qa q.2.2.length qc):=d6 aj rfl;obtain ⟨pJ,aK,Lm,bV,nL,NR,Hq,DW,pK,Hqc,FK,bi⟩:=zh12 fG hmr qd hbr hgr hkj hq XO hcon hqc lU hwz;obtain ⟨bn,aN,lK,qN,bG,iM,NH,Tx,zZ,Om,oM,DX⟩:=zh12 ai aj hgz hsz hmz dS hxz DV zY hev hsl hsub;obtain ⟨Fg,qC,aX,dH⟩:=zh4 hmo hfm hone hsu;clear fG hmr qd hbr hgr hkj hq XO hcon hqc lU hwz ai aj hgz hsz hmz dS hxz DV zY hev hsl hsub hmo hfm hone hsu aJ
   go_wp2_with ((with_reducible refine d9 109 (.tmp 14) (.tmp 46) ?_);refine ⟨rfl,[.string q.1,.string q.2.1,.slice qa q.2.2.length qc],rfl,rfl,zk,rfl, ?_⟩;rw [bi.out])
   refine Om.out.mono ?_;rintro e w5 ⟨av,rfl,hso,hsb,aW⟩;obtain ⟨sa,sc,rfl, -⟩:=hso.shape;obtain ⟨w6,jc,bL,dR,jd⟩:=g8 w5 (.cells #[.string x.m.es,.slice sa sl.length sc] 31);have qf:=aW.trans bL zi;have yf:=Tx.out w6 qf
   have DY:=a2H (b0a q.2.1 q.2.2) w6 v2 A yf zo t q.1 q.2.1 qa q.2.2.length qc
    (fun r hr wx hwx ho=>a4T wx r ((yf.ok r hr).mod hwx) (fun c hc=>((Iw.out r hr).1.cs c hc).v.num) q.2.1 (.slice qa q.2.2.length qc) q.2.2 (zZ.out.rd.mod (qf.trans hwx zi) zi) (by have:=DW.out.1;omega) (by have:=DW.out.2.2;omega) (fun d hd=>⟨by have:=(DW.out.2.1 d hd).v.text;omega,(DW.out.2.1 d hd).v.num⟩))
   rw [<-a5Z,Lj.out,Fg.out] at DY;have g6z:=qf.heap aN.out (fun h=>h);have g6m:=qf.heap lK.out (fun h=>h);have y0:w6.cell? ⟨wr.heap.size,0,none⟩=some (.string q.1):=d6 g6z rfl;have y1:w6.cell? ⟨wr.heap.size,1,none⟩=some (.string q.2.1):=d6 g6z rfl;have y2:w6.cell? ⟨wr.heap.size,2,none⟩=some (.slice qa q.2.2.length qc):=d6 g6z rfl;have DZ:=hso.rd.mod bL zi;have Lp:∀wx,Mod (fun _=>False) w6 wx->o3 wx owr 6 (.slice sa sl.length sc) sl.length (k7 sl):=fun wx hx=>⟨DZ.mod hx zi,fun _ b hb=>iM.out.zero (hsb b hb)⟩;obtain ⟨oK,HY,fJ,oQ,Jj,kP,Ty,b8b,Tz,G6z,G6m,b8c⟩:=zh12 hso hsb aW jc bL dR qf yf DY g6z g6m DZ;have Ls:=zh Lp;clear hso hsb aW jc bL dR qf yf DY g6z g6m DZ Lp jd e12 e13 e14 e15 e16
   go_wp2_with ((with_reducible refine d9 31 (.tmp 15) (.tmp 53) ?_);refine ⟨rfl,[.string x.m.es,.slice sa sl.length sc],rfl,rfl,zk,rfl, ?_⟩;rw [oQ.out])
   refine Tz.out.mono ?_;rintro e w7 ⟨rfl,bu⟩;have qh:=Ty.out.trans bu zi;have hs7:=Mov.of iM.out qh (fun _=>False);have yg:=hs7.owd iM.out (fun h=>h);have mX:=bG.out.trans (hs7.mono (G:=O.tg) (fun _ h=>h.elim));have nW:=(O.mov pJ.out Lm.out qN.out (fun h=>h) (fun _ h=>h.elim));have nW:=O.mov nW iM.out hs7 (fun h=>h) (fun _ h=>h.elim);have g7z:=bu.heap G6z.out (fun h=>h);have g7m:=bu.heap G6m.out (fun h=>h);have g7e:=bu.heap kP.out (fun h=>h)
   cases mo with
   |false=>
    rw [Bool.false_and,if_neg zd,Option.toList_none,zz11] at dH;obtain ⟨Lt,Fx,yh,tX,yj⟩:=zh5 qh hs7 yg mX nW;clear qh hs7 yg mX nW bu g7z g7m g7e
    go_wp2_with fail
    go_roundw
    case rel=>exact ⟨j+1,owr,by go_num,hlt,by rw [dH.out];exact yj.out,tX.out⟩
    case measure=>simp [intOf];omega
   | true=>
    have y1:w7.cell? ⟨wr.heap.size,1,none⟩=some (.string q.2.1):=d6 g7z rfl;have y2:w7.cell? ⟨wr.heap.size,2,none⟩=some (.slice qa q.2.2.length qc):=d6 g7z rfl;have z0:w7.cell? ⟨w5.heap.size,0,none⟩=some (.string x.m.es):=d6 g7e rfl;have z1:w7.cell? ⟨w5.heap.size,1,none⟩=some (.slice sa sl.length sc):=d6 g7e rfl
    have Ea:=a1r w7 q.2.1 (.slice qa q.2.2.length qc) q.2.2 (zZ.out.rd.mod qh zi) (by have:=DW.out.1;omega) (by have:=DW.out.2.2;omega) (fun d hd=>by have:=(DW.out.2.1 d hd).v.text;omega) x.m.es (.slice sa sl.length sc) sl (Ls.out w7 bu).rd
     (by have:=DX.out.length_le;have:=He.out.len;omega) (a2x DX.out He.out.ris) (by have:=He.out.es;omega) (fun b hb=>by have:=(He.out.each b (DX.out.subset hb)).2;omega)
    rw [qC.out] at Ea;obtain ⟨Lt,Fx,yh,tX,yj,nQ,G7z,G7m,G7e,TA⟩:=zh10 qh hs7 yg mX nW bu g7z g7m g7e Ea;clear qh hs7 yg mX nW bu g7z g7m g7e Ea
    go_wp2_with fail
    refine TA.out.mono ?_;rintro e w8 ⟨rfl,dE⟩;have yl:=Lt.out.trans dE zi;have gD:=Mov.of yh.out dE (fun _=>False);have lw:=gD.owd yh.out (fun h=>h);have ym:=tX.out.trans (gD.mono (G:=O.tg) (fun _ h=>h.elim));have lT:=O.mov yj.out yh.out gD (fun h=>h) (fun _ h=>h.elim);have g8z:=dE.heap G7z.out (fun h=>h);have g8m:=dE.heap G7m.out (fun h=>h);have g8e:=dE.heap G7e.out (fun h=>h)
    cases fm with
    |false=>
     rw [Bool.and_false,if_neg zd,Option.toList_none,zz11] at dH;obtain ⟨TB,Lu,pX,Eb,FC⟩:=zh5 yl gD lw ym lT;clear yl gD lw ym lT dE g8z g8m g8e
     go_wp2_with fail
     go_roundw
     case rel=>exact ⟨j+1,owr,by go_num,hlt,by rw [dH.out];exact FC.out,Eb.out⟩
     case measure=>simp [intOf];omega
    |true=>
     rw [Bool.and_self,if_pos rfl,Option.toList_some] at dH;have y0:w8.cell? ⟨wr.heap.size,0,none⟩=some (.string q.1):=d6 g8z rfl;have z0:w8.cell? ⟨w5.heap.size,0,none⟩=some (.string x.m.es):=d6 g8e rfl;have z1:w8.cell? ⟨w5.heap.size,1,none⟩=some (.slice sa sl.length sc):=d6 g8e rfl;have e14:w8.cell? ⟨w.heap.size,14,none⟩=some (.int .i64 x.m.ver):=d6 g8m rfl;have e15:w8.cell? ⟨w.heap.size,15,none⟩=some (.string x.m.org):=d6 g8m rfl;have e16:w8.cell? ⟨w.heap.size,16,none⟩=some (.int .i64 x.m.ser):=d6 g8m rfl;have hsh:=O.tshow (id:=k) (ser:=x.m.ser) (ver:=x.m.ver) (who:=q.1) (org:=x.m.org) (es:=x.m.es) lw lT zo ht0 (by omega:(t:Int)<=3) (Ls.out w8 (nQ.out.trans dE zi));obtain ⟨TB,Lu,pX,Eb,FC,Cv,G8z,G8m,G8e,VH⟩:=zh10 yl gD lw ym lT dE g8z g8m g8e hsh;clear yl gD lw ym lT dE g8z g8m g8e hsh
     go_wp2_with fail
     refine VH.out.mono ?_;rintro e w9 ⟨rfl,ow9,qD,ko⟩;have Lv:=Eb.out.trans ko;obtain ⟨FU,xn,TC⟩:=zh3 qD ko Lv;clear qD ko Lv
     go_wp2_with fail
     go_roundw
     case rel=>exact ⟨j+1,ow9,by go_num,hlt,by rw [dH.out,O.shows_one];exact FU.out,TC.out⟩
     case measure=>simp [intOf];omega
  obtain rfl:j=ids.length:=zo
  rw [List.take_length] at fG hcr hcl;obtain ⟨s1,hs1⟩:∃s1,O.shows s (ids.filterMap (C8 (B.R t).S AP t x.m))=s1:=⟨_,rfl⟩;rw [hs1] at fG hcr
  have Lx:O.shows s (B.rouH t x.m)=s1:=by
   unfold BS.rouH a1a;rw [iy.out,FW.out];exact hs1
  have hcr:O.cnt s1<=O.cnt s+1000:=zo
  clear hcl hs1
  have e2:wr.cell? ⟨g,2,none⟩=some (.slice na near.length nc):=by
   obtain ⟨L5,hl5, -⟩:=hbr.log;rw [<-CZ.out];exact d6 hl5.row rfl
  obtain ⟨pJ,aK,Lm,bV,nL,TD⟩:=zh6 fG hmr qd hbr hgr Lx;clear fG hmr qd hbr hgr Lx
  go_wp2_with fail
  go_loopw [87] (fun i wr=>b6d O w3 ow s1 (B.R t).M near t frm x.m i wr) (fun i _=>near.length - (intOf i).toNat)
  case atStart=>exact ⟨0,owr,rfl,Nat.zero_le _,pJ.out,aK.out⟩
  case round=>
   obtain ⟨j,ow5,rfl,hj,iZ,aW⟩:=hrel;have iP:=aW.owd jh.out iO.out;have hb5:=Hb3.out.mov jh.out aW iO.out kw.out
   have hg5:=aW.md.heap gm.out (fun hf=>iO.out (by
    have hf':O.tg (ow w.heap.size):=hf;rw [Ll.out] at hf'
    exact hf'))
   by_cases hlt:j<near.length
   ·have hlt':(j:Int)<near.length:=zo
    obtain ⟨n,jA⟩:∃x,near[j]? =some x:=⟨_,zz5 hlt⟩;have hnm:=zz8 jA;have hx5:=XN.out.mov aW iO.out
    obtain ⟨gn,offn,hgn,hcn⟩:∃gn offn,na=some ⟨gn,offn,none⟩/\wr.cell? ⟨gn,offn+j,none⟩=some (.int .i64 n):=by
     have h1:=hb5.near.rd;rw [CZ.out] at h1;obtain ⟨gn,offn,h2,h3⟩:=a34 h1 jA;exact ⟨gn,offn,h2,h3⟩
    subst hgn;have nX:=hb5.rea t ht;have SH:=O.sends_cnt s1 (K6 (B.R t).M (near.take j) t frm x.m);have hl5:=a5m (B.R t).M (near.take j) t frm x.m;rw [List.length_take] at hl5;obtain ⟨b,hb⟩:∃b,(a1m (B.R t).M n).any (fun q=>z8 q x.m.es x.m.el)=b:=⟨_,rfl⟩;have hsu:=a80 (M:=(B.R t).M) (t:=t) (frm:=frm) (m:=x.m) jA
    have iX:∀wx,Mod (fun _=>False) wr wx->RtF wr w.heap.size g t (a.tb t) (a.ib t) x (some ⟨gn,offn,none⟩) near.length nc wx:=fun wx hm=>by
     obtain ⟨L5,hl5, -⟩:=hb5.log;obtain ⟨p0,p1, -, -⟩:=hb5.cells ht;have p2:wr.cell? ⟨g,2,none⟩=some (.slice (some ⟨gn,offn,none⟩) near.length nc):=by rw [<-CZ.out];exact d6 hl5.row rfl
     exact ⟨hm.cell p0 (fun h=>h),hm.cell p1 (fun h=>h),hm.cell (d6 hg5 rfl) (fun h=>h),hm.cell (d6 hg5 rfl) (fun h=>h),hm.cell (d6 hg5 rfl) (fun h=>h),hm.cell p2 (fun h=>h),hm⟩
    have Oo:∀wx,Mod (fun _=>False) wr wx->Calls Tryz.prog 69 #[.pointer (some ⟨a.tb t,0,none⟩),.int .i64 n,.agg #[.string x.m.es,.slice x.ea x.m.el.length x.ec]] wx fun e w'=>e= .returned (.bool b)/\Mod (fun _=>False) wr w':=fun wx h=>by
     have h1:=b0X wx (a.tb t) _ _ (B.R t).M (B.R t).N (Tab.mod0 nX.tab h zi) hN (I3.okR nX.tab) n (iY.out n hnm) x.m.es x.ea x.ec x.m.el He.out.es (hx5.el.rd.mod h zi) He.out.len He.out.ris He.out.each;rw [hb] at h1;exact h1.mono fun e w' ⟨he,hm⟩=>⟨he,h.trans hm zi⟩
    have yn:=vD.out n hnm
    have hw1:b02 (B.R t).M frm x.m n=(!(n==frm)&&b):=by
     unfold b02;rw [hb]
    rw [hw1] at hsu;clear hw1;by_cases hnf:n=frm
    ·have hq:(n !=frm)=false:=by simpa using hnf
     rw [show (n==frm)=true from by simpa using hnf,Bool.not_true,Bool.false_and,if_neg zd,zz11] at hsu;obtain ⟨qz,fJ,jQ,Hb5,je,LA,Ed,TF,uU,ik,FN,LB⟩:=zh12 iZ aW iP hb5 hg5 hx5 nX Oo iX hnm jA yn;obtain ⟨Hb,dH⟩:=zh2 hb hsu;clear iZ aW iP hb5 hg5 hx5 nX Oo iX hnm jA yn hb hsu
     go_wp2_with fail
     refine i7 zk zk ?_
     iterate 13 (first
      | (refine j6 ?_ (fun K hK=> ?_)
         ·first|(go_simp;done)|(go_simp;simp [undef];done)
         go_simp;refine hK _ ?_;clear hK K)
      | (refine j7 ?_ ?_ (fun w' hw'=> ?_) (fun K hK=> ?_)
         ·first|(go_simp;done)|(go_simp;simp [undef];done)
         rotate_left
         ·skip
          go_simp;rfl
         go_simp;refine hK _ ?_;clear hK K)
      | (refine m9 ?_ ?_ ?_ ?_ (fun w' hw'=> ?_) ?_ (fun K hK=> ?_)
         ·first|(go_simp;done)|(go_simp;simp [undef];done)
         rotate_left 3
         ·skip
          go_simp;constructor<;>rfl
         ·first|with_reducible exact TF.out
         go_simp;refine hK _ ?_;clear hK K))
     refine j8 (fun w' hw'=> ?_);have hf:=uU.out w' hw';have hs6:=Mov.of jQ.out hw' (fun _=>False);have bU:=fJ.out.trans (hs6.mono (G:=O.tg) (fun _ h=>h.elim));have lS:=O.mov qz.out jQ.out hs6 (fun h=>h) (fun _ h=>h.elim);obtain ⟨Hf,gF,zB,Fw⟩:=zh4 hf bU lS hs6;clear hf bU lS hs6 hw'
     go_wp2_with fail
     go_roundw
     case rel=>exact ⟨j+1,ow5,by go_num,hlt,by rw [dH.out];exact zB.out,gF.out⟩
     case measure=>simp [intOf];omega
    have hq:(n !=frm)=true:=by simpa using hnf
    rw [show (n==frm)=false from by simpa using hnf,Bool.not_false,Bool.true_and] at hsu;obtain ⟨qz,fJ,jQ,Hb5,je,LA,Ed,TF,uU,ik,FN,LB⟩:=zh12 iZ aW iP hb5 hg5 hx5 nX Oo iX hnm jA yn;obtain ⟨Hb,dH⟩:=zh2 hb hsu;clear iZ aW iP hb5 hg5 hx5 nX Oo iX hnm jA yn hb hsu
    go_wp2_with fail
    refine i7 zk zk ?_
    iterate 13 (first
     | (refine j6 ?_ (fun K hK=> ?_)
        ·first|(go_simp;done)|(go_simp;simp [undef];done)
        go_simp;refine hK _ ?_;clear hK K)
     | (refine j7 ?_ ?_ (fun w' hw'=> ?_) (fun K hK=> ?_)
        ·first|(go_simp;done)|(go_simp;simp [undef];done)
        rotate_left
        ·obtain ⟨f0,f1,f2,f3,f4,f5, -⟩:=uU.out w' hw';go_simp;rfl
        go_simp;refine hK _ ?_;clear hK K)
     | (refine m9 ?_ ?_ ?_ ?_ (fun w' hw'=> ?_) ?_ (fun K hK=> ?_)
        ·first|(go_simp;done)|(go_simp;simp [undef];done)
        rotate_left 3
        ·obtain ⟨f0,f1,f2,f3,f4,f5, -⟩:=uU.out w' hw';go_simp;constructor<;>rfl
        ·first|with_reducible exact TF.out
        go_simp;refine hK _ ?_;clear hK K))
    refine j8 (fun w' hw'=> ?_);have hf:=uU.out w' hw';have hs6:=Mov.of jQ.out hw' (fun _=>False);have tY:=hs6.owd jQ.out (fun h=>h);have bU:=fJ.out.trans (hs6.mono (G:=O.tg) (fun _ h=>h.elim));have lS:=O.mov qz.out jQ.out hs6 (fun h=>h) (fun _ h=>h.elim);have hx6:=LA.out.mov hs6 (fun h=>h);have bZ:=hw'.heap je.out (fun h=>h)
    cases b with
    |false=>
     rw [if_neg zd,zz11] at dH;obtain ⟨Hf,gF,zB,Fw,TG,TH,gU⟩:=zh7 hf bU lS hs6 tY hx6 bZ;clear hf bU lS hs6 tY hx6 bZ hw'
     go_wp2_with fail
     go_roundw
     case rel=>exact ⟨j+1,ow5,by go_num,hlt,by rw [dH.out];exact zB.out,gF.out⟩
     case measure=>simp [intOf];omega
    |true=>
     rw [if_pos rfl] at dH;have hsn:=O.tsend (td:=n) (ten:=t) (x:=x) tY lS zo LB.out hx6;obtain ⟨Hf,gF,zB,Fw,TG,TH,Gz⟩:=zh7 hf bU lS hs6 tY hx6 hsn;clear hf bU lS hs6 tY hx6 hsn hw'
     go_wp2_with ((with_reducible refine d8 33 (.tmp 9) ?_);refine ⟨w.heap.size,0,rfl,x.cells,e9.row bZ,zk,zk, ?_⟩)
     refine Gz.out.mono ?_;rintro e w7 ⟨rfl,ow7,nW,bu⟩;have mX:=gF.out.trans bu;obtain ⟨yj,nQ,tX⟩:=zh3 nW bu mX;clear nW bu mX
     go_wp2_with fail
     go_roundw
     case rel=>exact ⟨j+1,ow7,by go_num,hlt,by rw [dH.out,O.sends_one];exact yj.out,tX.out⟩
     case measure=>simp [intOf];omega
   obtain rfl:j=near.length:=zo
   rw [List.take_length] at iZ;have hm:=(Hs3.out.mono (G:=O.tg) (fun _ h=>h.elim)).trans aW;obtain ⟨Hm,fJ,qz,jQ,Hb5,je⟩:=zh6 hm aW iZ iP hb5 hg5;clear hm aW iZ iP hb5 hg5
   go_wp2
   go_end0
   exact ⟨rfl,ow5,⟨a,Hb5.out⟩,by rw [TD.out];exact qz.out,Hm.out⟩
end Go.Proofs.YtebhabpahfmodaaGreatDoor
