/- Lemmas. -/
import Derived.Test.YtaenebdppkjhoaaGreatDoorZg48
namespace Go.Proofs.YtaenebdppkjhoaaGreatDoor
set_option maxRecDepth 20000
set_option maxHeartbeats 40000000
section
open Go.RowKit
def P2 (T:Int->List UInt8->Bool):List Sd->(Int->List UInt8->Bool)
 |[]=>T
 |x::S=>P2 (if x.1=1 then fun t k=>if t=x.2.1/\k=i6 (x.2.2.fs,x.2.2.fl) then decide (x.2.2.kind=1) else T t k else T) S
theorem a4t (T:Int->List UInt8->Bool) (S S':List Sd):P2 T (S++S')=P2 (P2 T S) S':=by
 induction S generalizing T with
 |nil=>rfl
 |cons x S ih=>exact ih _
theorem a9P (T:Int->List UInt8->Bool) (S:List Sd) (h:∀x∈S,x.1≠1):P2 T S=T:=by
 induction S generalizing T with
 |nil=>rfl
 |cons x S ih=>
  unfold P2;rw [if_neg (h x (List.mem_cons_self ..))];exact ih _ fun y hy=>h y (List.mem_cons_of_mem _ hy)
theorem a7L (T:Int->List UInt8->Bool) (t:Int) (l:List Fil) (t':Int) (k:List UInt8):P2 T (l.map fun f=>((1:Int),t,Mg.sub f)) t' k=if t'=t/\k∈l.map i6 then true else T t' k:=by
 induction l generalizing T with
 |nil=>rw [if_neg (fun h=>by cases h.2)];rfl
 | cons f l ih=>
  rw [List.map_cons];unfold P2;rw [if_pos rfl,ih];show (if t'=t/\k∈l.map i6 then true else if t'=t/\k=i6 (f.1,f.2) then decide ((1:Int)=1) else T t' k)=_;rw [List.map_cons,show (f.1,f.2)=f from rfl];by_cases h1:t'=t/\k∈l.map i6
  ·rw [if_pos h1,if_pos ⟨h1.1,List.mem_cons_of_mem _ h1.2⟩]
  rw [if_neg h1];by_cases h2:t'=t/\k=i6 f
  ·rw [if_pos h2,if_pos ⟨h2.1,by rw [h2.2];exact List.mem_cons_self ..⟩];rfl
  rw [if_neg h2,if_neg];rintro ⟨h3,h4⟩;rcases List.mem_cons.1 h4 with h4|h4
  ·exact h2 ⟨h3,h4⟩
  exact h1 ⟨h3,h4⟩
theorem a7M (T:Int->List UInt8->Bool) (t:Int) (l:List Fil) (t':Int) (k:List UInt8):P2 T (l.map fun f=>((1:Int),t,Mg.uns f)) t' k=if t'=t/\k∈l.map i6 then false else T t' k:=by
 induction l generalizing T with
 |nil=>rw [if_neg (fun h=>by cases h.2)];rfl
 | cons f l ih=>
  rw [List.map_cons];unfold P2;rw [if_pos rfl,ih];show (if t'=t/\k∈l.map i6 then false else if t'=t/\k=i6 (f.1,f.2) then decide ((2:Int)=1) else T t' k)=_;rw [List.map_cons,show (f.1,f.2)=f from rfl];by_cases h1:t'=t/\k∈l.map i6
  ·rw [if_pos h1,if_pos ⟨h1.1,List.mem_cons_of_mem _ h1.2⟩]
  rw [if_neg h1];by_cases h2:t'=t/\k=i6 f
  ·rw [if_pos h2,if_pos ⟨h2.1,by rw [h2.2];exact List.mem_cons_self ..⟩];rfl
  rw [if_neg h2,if_neg];rintro ⟨h3,h4⟩;rcases List.mem_cons.1 h4 with h4|h4
  ·exact h2 ⟨h3,h4⟩
  exact h1 ⟨h3,h4⟩
theorem a2F {a b:List Fil} {k:List UInt8}:k∈(C5 a b).map i6↔k∈a.map i6/\k∉b.map i6:=by
 unfold C5;constructor
 ·intro h;obtain ⟨f,hf,rfl⟩:=List.mem_map.1 h;obtain ⟨h1,h2⟩:=List.mem_filter.1 hf;refine ⟨List.mem_map_of_mem h1,fun h3=> ?_⟩;have h4:=b1q.2 h3
  cases hq:kF b (i6 f) with
  |none=>rw [hq] at h4;cases h4
  |some q=>rw [hq] at h2;cases h2
 rintro ⟨h1,h2⟩;obtain ⟨f,hf,rfl⟩:=List.mem_map.1 h1;refine List.mem_map_of_mem (List.mem_filter.2 ⟨hf, ?_⟩)
 cases hq:kF b (i6 f) with
 |none=>rfl
 |some q=>exact absurd (b1q.1 (by rw [hq];rfl)) h2
theorem a7N {T:Int->List UInt8->Bool} {M:List (Int×Fil)} {t:Int} {G:Int->List Fil} (h:∀k,T t k=true↔k∈(G 1).map i6) (t':Int) (k:List UInt8):
 P2 T (q9 M t [1,2] G) t' k=true↔if t'=t then k∈(x6 M 1).map i6 else T t' k=true:=by
 show P2 T (I5 1 t (G 1) (x6 M 1)++(I5 2 t (S6 G 1 (x6 M 1) 2) (x6 M 2)++[])) t' k=true↔_
 rw [zz11,a4t,a9P _ (I5 2 t _ _) (fun x hx=>by
  unfold I5 at hx
  rcases zz14 hx with hx|hx<;>obtain ⟨f, -,rfl⟩:=List.mem_map.1 hx<;>exact fun e=>by cases e)]
 unfold I5;rw [a4t,a7M,a7L];by_cases e:t'=t
 ·subst e;rw [if_pos rfl];by_cases h1:k∈(C5 (G 1) (x6 M 1)).map i6
  ·rw [if_pos ⟨rfl,h1⟩];exact ⟨fun h=>(by cases h),fun h=>absurd h (a2F.1 h1).2⟩
  rw [if_neg (fun h=>h1 h.2)];by_cases h2:k∈(C5 (x6 M 1) (G 1)).map i6
  ·rw [if_pos ⟨rfl,h2⟩];exact ⟨fun _=>(a2F.1 h2).1,fun _=>rfl⟩
  rw [if_neg (fun h=>h2 h.2),h];constructor
  ·intro h3;exact Decidable.byContradiction fun h4=>h1 (a2F.2 ⟨h3,h4⟩)
  intro h3;exact Decidable.byContradiction fun h4=>h2 (a2F.2 ⟨h3,h4⟩)
 rw [if_neg e,if_neg (fun h=>e h.1),if_neg (fun h=>e h.1)]
structure TOk (B:BS) (T:Int->List UInt8->Bool):Prop where
 at_:∀t:Nat,t<4->∀k,T t k=true↔k∈((B.R t).G 1).map i6
 out:∀(t:Int) k,T t k=true->∃t':Nat,t'<4/\t=t'
theorem TOk.refr {B:BS} {T:Int->List UInt8->Bool} (h:TOk B T) {t:Nat} (ht:t<4) (R:RS) (hR:R.G=(B.R t).G):TOk (B.anew t R [1,2]) (P2 T (q9 R.M t [1,2] (B.R t).G)):=by
 have h1:=a7N (M:=R.M) (h.at_ t ht);refine ⟨fun i hi k=> ?_,fun i k hk=> ?_⟩
 ·rw [h1];unfold BS.anew;by_cases e:i=t
  ·subst e;rw [if_pos rfl,BS.setR_at];show _↔k∈((C6 R.M [1,2] R.G) 1).map i6;rw [a1c (List.mem_cons_self ..)]
  rw [if_neg (fun h=>e (by omega)),BS.setR_ne _ _ e];exact h.at_ i hi k
 rw [h1] at hk;by_cases e:i=t
 ·exact ⟨t,ht,e⟩
 rw [if_neg e] at hk;exact h.out i k hk
structure Z3 (R:RS):Prop where
 nd:(R.S.map Prod.fst).Nodup
 q:∀p∈R.S,okQ p.2.2
theorem Z3.zero:Z3 RS.zero:=⟨List.nodup_nil,fun p hp=>(by cases hp)⟩
theorem Z3.of {R Q:RS} (h:Z3 R) (e:Q.S=R.S):Z3 Q:=⟨by rw [e];exact h.nd,by rw [e];exact h.q⟩
theorem RS.sub_S (R:RS) (k:Int) (who:ByteArray) (f:Fil) (near:List Int):((R.sub k who f).refr near).S=R.S++[(k,who,f)]:=by
 show (((R.addS k who f).addI k f).tadd (-1) f).S=_;rw [(RS.tadd_eq _ _ _).2.2.1];rfl
theorem Z3.sub {R:RS} (h:Z3 R) (k:Int) (who:ByteArray) {f:Fil} (hf:okQ f) (near:List Int) (hk:∀p∈R.S,p.1≠k):Z3 ((R.sub k who f).refr near):=by
 have hS:=R.sub_S k who f near;constructor
 ·rw [hS,List.map_append,List.nodup_append];refine ⟨h.nd,by simp,fun a ha b hb=> ?_⟩;obtain ⟨q,h1,rfl⟩:=List.mem_map.1 ha;have e:b=k:=by simpa using hb
  rw [e];exact hk q h1
 rw [hS];intro p hp;rcases zz14 hp with hp|hp
 ·exact h.q p hp
 rw [List.mem_singleton.1 hp];exact hf
structure a1n (R:RS):Prop where
 m:∀p∈R.M,p.1= -1/\R.has p.2=true
 s:Z3 R
theorem a1n.zero:a1n RS.zero:=⟨fun p hp=>(by cases hp),Z3.zero⟩
theorem a0l {R:RS} {f:Fil}:R.has f=true↔∃p∈R.S,i6 p.2.2=i6 f:=by
 unfold RS.has;rw [List.any_eq_true];exact ⟨fun ⟨p,h1,h2⟩=>⟨p,h1,by simpa using h2⟩,fun ⟨p,h1,h2⟩=>⟨p,h1,by simpa using h2⟩⟩
theorem a1n.sub {R:RS} (h:a1n R) (k:Int) (who:ByteArray) {f:Fil} (hf:okQ f) (near:List Int) (hk:∀p∈R.S,p.1≠k):a1n ((R.sub k who f).refr near):=by
 have hS:=R.sub_S k who f near
 have hM:∀p∈((R.sub k who f).refr near).M,p∈R.M\/p=(-1,f):=fun p hp=>by
  have hp':p∈(((R.addS k who f).addI k f).tadd (-1) f).M:=hp;unfold RS.tadd at hp';split at hp'
  ·rcases zz14 hp' with hp'|hp'
   ·exact .inl hp'
   exact .inr (List.mem_singleton.1 hp')
  exact .inl hp'
 refine ⟨fun p hp=> ?_,h.s.sub k who hf near hk⟩;rw [a0l,hS];rcases hM p hp with h1|rfl
 ·obtain ⟨h2,h3⟩:=h.m p h1;obtain ⟨q,h4,h5⟩:=a0l.1 h3;exact ⟨h2,q,List.mem_append_left _ h4,h5⟩
 exact ⟨rfl,_,List.mem_append_right _ (List.mem_singleton.2 rfl),rfl⟩
theorem a1n.unsub {R:RS} (h:a1n R) {k:Int} {q:ByteArray×Fil} (hq:y8 R.S k=some q) {p:Int×Fil} (hp:p∈R.M) (hn:(R.unsub k).has q.2=true\/i6 p.2≠i6 q.2):p.1= -1/\(R.unsub k).has p.2=true:=by
 obtain ⟨h1,h2⟩:=h.m p hp;refine ⟨h1, ?_⟩;obtain ⟨s,h3,h4⟩:=a0l.1 h2;by_cases e:s.1=k
 ·have h5:=a1m h.s.nd h3;rw [e,hq] at h5;have h6:q=s.2:=Option.some.inj h5;rcases hn with hn|hn
  ·obtain ⟨u,h7,h8⟩:=a0l.1 hn;exact a0l.2 ⟨u,h7,by rw [h8,h6,h4]⟩
  exact absurd (by rw [h6,h4]) hn
 exact a0l.2 ⟨s,List.mem_filter.2 ⟨h3,by simpa using e⟩,h4⟩
theorem Z3.drop {R Q:RS} (h:Z3 R) (k:Int) (e:Q.S=a09 R.S k):Z3 Q:=⟨by rw [e];exact h.nd.sublist (List.filter_sublist.map _),by rw [e];exact fun p hp=>h.q p (List.mem_filter.1 hp).1⟩
def RS.endR (R:RS) (near:List Int) (k:Int) (f:Fil):RS:=if (R.unsub k).has f then R.unsub k else ((R.unsub k).trem (-1) f).refr near
theorem BS.endB_R (B:BS) (near:List Int) (t:Nat) (k:Int) (f:Fil):B.endB near t k f=B.setR t ((B.R t).endR near k f):=by
 unfold BS.endB RS.endR BS.anew;split<;>rfl
theorem a1n.end_ {R:RS} (h:a1n R) {k:Int} {q:ByteArray×Fil} (hq:y8 R.S k=some q) (near:List Int):a1n (R.endR near k q.2):=by
 unfold RS.endR;split
 ·rename_i h1
  exact ⟨fun p hp=>h.unsub hq hp (.inl h1),h.s.drop k rfl⟩
 refine ⟨fun p hp=> ?_,h.s.drop k rfl⟩;have hp':p∈a3h R.M (-1) (i6 q.2):=hp;obtain ⟨h2,h3⟩:=List.mem_filter.1 hp';refine h.unsub hq h2 (.inr fun e=> ?_);rw [(h.m p h2).1,e] at h3;simp at h3
theorem RS.endR_S (R:RS) (near:List Int) (k:Int) (f:Fil):(R.endR near k f).S=a09 R.S k:=by
 unfold RS.endR;split<;>rfl
theorem B7.unsub {R:RS} {j:Nat} (h:B7 R j) (k:Int):B7 (R.unsub k) j:=by
 refine ⟨h.n,h.t,h.k,h.m,Nat.le_trans (List.length_filter_le _ _) h.s,fun p hp=>h.sf p (List.mem_filter.1 hp).1,fun p hp=>h.si p (List.mem_filter.1 hp).1, ?_,h.g⟩;show U0 R.I k=(a09 R.S k).map _;rw [h.is];unfold U0 a09;rw [List.filter_map];rfl
theorem B7.end_ {R:RS} {j:Nat} (h:B7 R j) (k:Int) (f:Fil):B7 (R.endR [1,2] k f) (j+1):=by
 unfold RS.endR;split
 ·exact (h.unsub k).mono (Nat.le_succ _)
 exact (h.unsub k).trem (-1) f
theorem a1n.nil {R:RS} (h:a1n R) (hS:R.S=[]):R.M=[]:=by
 cases hM:R.M with
 |nil=>rfl
 |cons p M=>
  have h1:=(h.m p (by rw [hM];exact List.mem_cons_self ..)).2;unfold RS.has at h1;rw [hS] at h1;cases h1
theorem B7.none_told {R:RS} {j:Nat} (h:B7 R j) (hd:a1n R) (hS:R.S=[]):R.G 1=[]:=by
 rw [h.g,if_pos (.inl rfl),hd.nil hS];exact List.eq_nil_of_length_eq_zero (Nat.le_zero.1 (W3 [] 1))
theorem TOk.end_ {B:BS} {T:Int->List UInt8->Bool} (h:TOk B T) {t:Nat} (ht:t<4) (k:Int) (f:Fil):TOk (B.endB [1,2] t k f) (P2 T (B.endS [1,2] t k f)):=by
 unfold BS.endB BS.endS;split
 ·refine ⟨fun i hi k'=> ?_,h.out⟩;by_cases e:i=t
  ·subst e;rw [BS.setR_at];exact h.at_ i hi k'
  rw [BS.setR_ne _ _ e];exact h.at_ i hi k'
 exact h.refr ht _ rfl
theorem TOk.sub {B:BS} {T:Int->List UInt8->Bool} (h:TOk B T) {t:Nat} (ht:t<4) (id:Int) (who:ByteArray) (k:Int) (fs:ByteArray) (fl:List Cnd):TOk (B.subB id [1,2] t who k fs fl) (P2 T (B.subS id [1,2] t who k fs fl)):=by
 unfold BS.subB BS.subS;split
 ·exact h.refr ht _ (by
   show (((B.R t).addS k who (fs,j2 fl)).addI k (fs,j2 fl)|>.tadd (-1) (fs,j2 fl)).G=_;rw [(RS.tadd_eq _ _ _).1]
   rfl)
 exact h
theorem Z3.ask {R:RS} {j:Nat} (h:Z3 R) (hr:B7 R j) (hj:j<=900):(∀k∈R.I.map Prod.fst,(Lit.int .i64 k).wf=true/\∃q,y8 R.S k=some q/\okQ q.2)/\R.I.length<=1000:=by
 constructor
 ·intro k hk;rw [hr.is,List.map_map] at hk;obtain ⟨p,hp,rfl⟩:=List.mem_map.1 hk;have h1:=hr.si p hp;refine ⟨?_,p.2,a1m h.nd hp,h.q p hp⟩;show (Lit.int .i64 p.1).wf=true;simp only [Lit.wf,Bool.and_eq_true,decide_eq_true_eq];exact ⟨show (-9223372036854775808:Int)<=p.1 by omega,show p.1<=(9223372036854775807:Int) by omega⟩
 rw [hr.is,zz10];have:=hr.s;omega
theorem a9Q {M:List (Int×Fil)} {t:Int} {near:List Int} {G:Int->List Fil} {x:Sd} (h:x∈q9 M t near G):x.1∈near/\x.2.1=t:=by
 induction near generalizing G with
 |nil=>cases h
 | cons n near ih=>
  unfold q9 at h;rcases zz14 h with h|h
  ·unfold I5 at h;rcases zz14 h with h|h<;>obtain ⟨f, -,rfl⟩:=List.mem_map.1 h<;>exact ⟨List.mem_cons_self ..,rfl⟩
  exact ⟨List.mem_cons_of_mem _ (ih h).1,(ih h).2⟩
theorem a9R {M:List (Int×Fil)} {near:List Int} {t frm:Int} {m:Mg} {x:Sd} (h:x∈G8 M near t frm m):x.1∈near/\x.2.1=t:=by
 unfold G8 at h;obtain ⟨n,h1,rfl⟩:=List.mem_map.1 h;exact ⟨(List.mem_filter.1 h1).1,rfl⟩
theorem a9S {S:List Sb} {A:List PRu} {t:Int} {m:Mg} {ids:List Int} {x:Hn} (h:x∈a2a S A t m ids):x.1=t/\x.2.2.kind=1:=by
 unfold a2a at h;obtain ⟨k, -,h1⟩:=List.mem_filterMap.1 h;unfold F2 at h1;split at h1
 ·cases h1
 split at h1
 ·cases h1
  exact ⟨rfl,rfl⟩
 ·cases h1
theorem B7.fresh {R:RS} {j:Nat} (h:B7 R j):∀p∈R.S,p.1≠(j:Int):=fun p hp e=>by
 have:=(h.si p hp).2;omega
def X3 (B:BS):Prop:=∀t,t<4->Z3 (B.R t)
def a2b (B:BS):Prop:=∀t,t<4->a1n (B.R t)
theorem RS.hear_S (R:RS) (frm:Int) (f:Fil) (on:Bool) (near:List Int):((R.hear frm f on).refr near).S=R.S:=by
 cases on with
 |true=>exact (R.tadd_eq frm f).2.2.1
 |false=>rfl
theorem X3.take {B:BS} (h:X3 B) (near:List Int) (t:Nat) (frm:Int) (f:Fil) (on:Bool):X3 (B.takeB near t frm f on):=fun i hi=>by
 unfold BS.takeB BS.anew;split
 ·by_cases e:i=t
  ·subst e;rw [BS.setR_at];exact (h i hi).of (RS.hear_S _ _ _ _ _)
  rw [BS.setR_ne _ _ e];exact h i hi
 exact h i hi
theorem BS.subE_right {B:BS} {id:Int} {t:Nat} {who fs:ByteArray} {fl:List Cnd} (h:B.subE id t who fs fl=0):j5 fs fl=true:=by
 unfold BS.subE at h;split at h
 ·rename_i hr
  exact hr
 ·cases h
theorem X3.sub {B:BS} {j:Nat} (h:X3 B) (hb:X6 B j) (id:Int) (near:List Int) {t:Nat} (ht:t<4) (who fs:ByteArray) {fl:List Cnd} (hf:∀c∈fl,c.fits):X3 (B.subB id near t who j fs fl):=fun i hi=>by
 unfold BS.subB BS.anew;split
 ·rename_i h0
  by_cases e:i=t
  ·subst e;rw [BS.setR_at];exact (h i hi).sub j who (b13 (BS.subE_right h0) hf) near (hb i ht).fresh
  rw [BS.setR_ne _ _ e];exact h i hi
 exact h i hi
theorem a2b.sub {B:BS} {j:Nat} (h:a2b B) (hb:X6 B j) (id:Int) (near:List Int) {t:Nat} (ht:t<4) (who fs:ByteArray) {fl:List Cnd} (hf:∀c∈fl,c.fits):a2b (B.subB id near t who j fs fl):=fun i hi=>by
 unfold BS.subB BS.anew;split
 ·rename_i h0
  by_cases e:i=t
  ·subst e;rw [BS.setR_at];exact (h i hi).sub j who (b13 (BS.subE_right h0) hf) near (hb i ht).fresh
  rw [BS.setR_ne _ _ e];exact h i hi
 exact h i hi
theorem a2b.end_ {B:BS} (h:a2b B) (near:List Int) {t:Nat} (ht:t<4) {k:Int} {q:ByteArray×Fil} (hq:y8 (B.R t).S k=some q):a2b (B.endB near t k q.2):=fun i hi=>by
 rw [BS.endB_R];by_cases e:i=t
 ·subst e;rw [BS.setR_at];exact (h i ht).end_ hq near
 rw [BS.setR_ne _ _ e];exact h i hi
theorem X6.end_ {B:BS} {j:Nat} (h:X6 B j) (t:Nat) (ht:t<4) (k:Int) (f:Fil):X6 (B.endB [1,2] t k f) (j+1):=by
 rw [BS.endB_R];exact h.set (Nat.le_succ _) ((h t ht).end_ k f)
abbrev Tk:=Int×Nat×ByteArray×Fil
def tkS (l:List Tk) (t:Nat):List Sb:=(l.filter fun x=>decide (x.2.1=t)).map fun x=>(x.1,x.2.2)
def SOk (B:BS) (l:List Tk):Prop:=∀t,t<4->(B.R t).S=tkS l t
theorem b3W (l m:List Tk) (t:Nat):tkS (l++m) t=tkS l t++tkS m t:=by
 unfold tkS;rw [List.filter_append,List.map_append]
theorem SOk.sub {B:BS} {l:List Tk} (h:SOk B l) (id:Int) (near:List Int) (t:Nat) (who:ByteArray) (k:Int) (fs:ByteArray) (fl:List Cnd):SOk (B.subB id near t who k fs fl) (l++if B.subE id t who fs fl=0 then [(k,t,who,(fs,j2 fl))] else []):=fun i hi=>by
 unfold BS.subB BS.anew;split
 ·rw [b3W];by_cases e:i=t
  ·subst e;rw [BS.setR_at,RS.sub_S,h i hi];congr 1;unfold tkS;simp
  rw [BS.setR_ne _ _ e,h i hi]
  have:tkS [(k,t,who,(fs,j2 fl))] i=[]:=by
   unfold tkS;have e':¬t=i:=fun h=>e h.symm;simp [e']
  rw [this,zz11]
 rw [zz11];exact h i hi
theorem SOk.head {B:BS} {x:Tk} {l:List Tk} (h:SOk B (x::l)) (hx:x.2.1<4):y8 (B.R x.2.1).S x.1=some x.2.2:=by
 rw [h _ hx];unfold tkS y8;simp
theorem SOk.end_ {B:BS} {x:Tk} {l:List Tk} (h:SOk B (x::l)) (hd:a2b B) (hx:x.2.1<4) (near:List Int):SOk (B.endB near x.2.1 x.1 x.2.2.2) l:=fun i hi=>by
 rw [BS.endB_R];by_cases e:i=x.2.1
 ·subst e;rw [BS.setR_at,RS.endR_S];have h1:=h _ hx
  have h2:(B.R x.2.1).S=(x.1,x.2.2)::tkS l x.2.1:=by
   rw [h1];unfold tkS;simp
  have h3:=(hd _ hx).s.nd;rw [h2] at h3;rw [h2];unfold a09;rw [List.filter_cons_of_neg (by simp),List.filter_eq_self];intro p hp;have h4:=(List.nodup_cons.1 h3).1;have:p.1≠x.1:=fun e=>h4 (by rw [<-e];exact List.mem_map_of_mem hp);simpa using this
 rw [BS.setR_ne _ _ e,h i hi];unfold tkS;rw [List.filter_cons_of_neg (by simpa using fun h=>e h.symm)]
theorem SOk.none {B:BS} (h:SOk B []) {t:Nat} (ht:t<4):(B.R t).S=[]:=h t ht
theorem TOk.none {B:BS} {T:Int->List UInt8->Bool} (h:TOk B T) {j:Nat} (hb:X6 B j) (hd:a2b B) (hs:SOk B []) (t:Int) (k:List UInt8):T t k=false:=by
 cases hT:T t k with
 |false=>rfl
 |true=>
  obtain ⟨i,hi,rfl⟩:=h.out t k hT;have h1:=(h.at_ i hi k).1 hT;rw [(hb i hi).none_told (hd i hi) (hs.none hi)] at h1;cases h1
def a9T {w0:World} {q:Nat} (O:x7 w0 q) (w:World) (ow:Ow) (c g:Nat) (id:Int) (near:List Int) (B:BS) (t:Nat) (s:O.σ) (frm:Int) (m:Mg) (e:Ending) (w':World):Prop:=
 e= .returned (.tuple #[])/\∃ow',Bro w' ow' c g id near B/\O.inv w' ow' (O.sends (O.shows s (B.rouH t m)) (G8 (B.R t).M near t frm m))/\Mov O.tg w ow w' ow'
def b5v {w0:World} {q:Nat} (O:x7 w0 q) (w:World) (ow:Ow) (s:O.σ) (f:Int->Option Hn) (ids:List Int) (i:Value) (wr:World):Prop:=
 ∃(j:Nat) (owr:Ow),i= .int .i64 j/\j<=ids.length/\O.inv wr owr (O.shows s ((ids.take j).filterMap f))/\Mov O.tg w ow wr owr
def b42 {w0:World} {q:Nat} (O:x7 w0 q) (w:World) (ow:Ow) (s:O.σ) (M:List (Int×Fil)) (near:List Int) (t frm:Int) (m:Mg) (i:Value) (wr:World):Prop:=
 ∃(j:Nat) (owr:Ow),i= .int .i64 j/\j<=near.length/\O.inv wr owr (O.sends s (G8 M (near.take j) t frm m))/\Mov O.tg w ow wr owr
theorem C1.okR {w:World} {ow:Ow} {c b:Nat} {M:List (Int×Fil)} {N:Nat} (h:C1 w ow c b M N):∀p∈M,okQ p.2:=fun p hp=>by
 obtain ⟨mo,hat⟩:=h;exact ⟨(hat.wf _ hp).2.1,(hat.wf _ hp).2.2,hat.sc _ hp⟩
theorem a6e (w0 w:World) (ow:Ow) (hw:Owd w0 w ow) (c g:Nat) (id:Int) (near:List Int) (B:BS) (h:Bro w ow c g id near B) (hL:B.L.length<=40) (hnl:near.length<=1000) (hnw:∀n∈near,(Lit.int .i64 n).wf=true) (t:Nat) (ht:t<4)
 (q:Nat) (O:x7 w0 q) (s:O.σ) (hO:O.inv w ow s) (hOt:∀t,O.tg t->t<c\/c+18<=t) (hto:∀n∈near,O.okTo n t) (hcnt:O.cnt s<=300000000000) (hT:(B.R t).T<=100000) (hN:(B.R t).N<=100000)
 (hIS:∀k∈(B.R t).I.map Prod.fst,(Lit.int .i64 k).wf=true/\∃q,y8 (B.R t).S k=some q/\okQ q.2) (hIl:(B.R t).I.length<=1000) (frm:Int) (x:Mv) (hx:X5 w ow x) (he:a9I x.m.es x.m.el):
 Calls Tryz.prog 56 #[.pointer (some ⟨g,0,none⟩),.iface 43 (.pointer (some ⟨q,0,none⟩)),.int .i64 t,.int .i64 frm,.agg x.cells.toArray] w (a9T O w ow c g id near B t s frm x.m):=by
 obtain ⟨a,h⟩:=h;obtain ⟨l,hlB,hfin,hle,hat⟩:=h.at_ hL;obtain ⟨q0,q1,q2, -⟩:=h.cells ht;obtain ⟨L,hlog, -⟩:=h.log;obtain ⟨na,nc,hnv,hnc⟩:∃a' cc,a.nv= .slice a' near.length cc/\near.length<=cc:=by obtain ⟨-,a,cc,h,h2, -⟩:=h.near.rd;exact ⟨a,cc,h,h2⟩
 have c2:w.cell? ⟨g,2,none⟩=some (.slice na near.length nc):=by rw [<-hnv];exact d6 hlog.row rfl
 obtain ⟨wa,hwa,hmwa,hgwa,hzwa⟩:=e8 w (.cells x.cells.toArray 48);have ht4:(t:Int)<4:=by omega
 have ht0:(0:Int)<=t:=by omega
 have hnl':(near.length:Int)<=1000:=by omega
 have hnc':(near.length:Int)<=nc:=by omega
 have hrea:=h.rea t ht;have ht00:¬O.tg 0:=fun h=>by have:=O.t2 0 h;omega
 have hF:∀wx,Mod (fun _=>False) wa wx->RtF wa w.heap.size g t (a.tb t) (a.ib t) x na near.length nc wx:=fun wx hm=>
  ⟨hm.cell (hmwa.cell q0 (fun h=>h)) (fun h=>h),hm.cell (hmwa.cell q1 (fun h=>h)) (fun h=>h),hm.cell (d6 hgwa rfl) (fun h=>h),hm.cell (d6 hgwa rfl) (fun h=>h),hm.cell (d6 hgwa rfl) (fun h=>h),hm.cell (hmwa.cell c2 (fun h=>h)) (fun h=>h),hm⟩
 obtain ⟨ids,hids⟩:∃ids,a9f (B.R t).I x.m.es x.m.el=ids:=⟨_,rfl⟩
 have him:∀wx,Mod (fun _=>False) wa wx->Calls Tryz.prog 92 #[.pointer (some ⟨a.ib t,0,none⟩),.agg #[.string x.m.es,.slice x.ea x.m.el.length x.ec]] wx (fun e w'=>∃v,e= .returned v/\i7 w' 3 1 v ids.length (ids.map (Value.int .i64))/\(∀k,v.ownBlock=some k->wx.heap.size<=k)/\Mod (fun _=>False) wx w'):=fun wx hm=>by
  have h1:=a9g wx (a.ib t) _ _ (B.R t).I (B.R t).T (Idx.mod hrea.idx (hmwa.trans hm (fun _ _ h=>h)) (fun _ _ h=>h)) hT x.m.es (by have:=he.es;omega) (.slice x.ea x.m.el.length x.ec) x.m.el (hx.el.rd.mod (hmwa.trans hm (fun _ _ h=>h)) (fun _ _ h=>h)) (by have:=he.len;omega) (fun q hq=>by have:=he.each q hq;omega);rw [<-hids];exact h1
 have hidm:∀k∈ids,(Lit.int .i64 k).wf=true/\∃q,y8 (B.R t).S k=some q/\okQ q.2:=fun k hk=>by
  rw [<-hids] at hk;exact hIS k (a4d.1 (List.mem_filter.1 hk).1)
 have hidl:ids.length<=1000:=by
  rw [<-hids];refine Nat.le_trans (List.length_filter_le _ _) ?_;unfold Y6;rw [List.length_mergeSort,zz10];exact hIl
 obtain ⟨Hw,H,Hat,HlB,Hfin,Hle,Hlog,HF,Him,Hrea,Hx,He⟩:=zh12 hw h hat hlB hfin hle hlog hF him hrea hx he;obtain ⟨Hnv,Hwa,Hmwa,Hgwa,Hids,Hidm,HIS,Hnw,HO,HOt,Hto,Ht00⟩:=zh12 hnv hwa hmwa hgwa hids hidm hIS hnw hO hOt hto ht00;clear hw h hat hlB hfin hle hlog hF him hrea hx he hnv hwa hmwa hgwa hids hidm hIS hnw hO hOt hto ht00 hzwa
 go_enter Tryz.func56,Tryz.ntmps56
 go_wp2_with (first|(rw [show w.alloc _=wa from Hwa.out])|fail)
 have hS:RtF wa w.heap.size g t (a.tb t) (a.ib t) x na near.length nc wa.drew:=HF.out _ ((Mod.refl _ wa).drew);refine g8 [.rd 0,.rd 1,.rd 2,.rd 3,.rd 4,.go 5,.go 6] [0,1,2,3,4] (RtF wa w.heap.size g t (a.tb t) (a.ib t) x na near.length nc) (by kernel_rfl) (by kernel_rfl) (fun _ _ d _ _ h=>(by cases d<;>exact h)) ?_
 iterate 5 (
  refine l5 rfl ?_ (fun _=>hS) ?_ (fun w0 h0=> ?_) (fun K hK=> ?_)
  ·(try simp only [zz1]);(try simp only [zz2]);(try simp only [zz3]);go_simp;done
  rotate_left
  ·(try simp only [zz1]);(try simp only [zz2]);(try simp only [zz3])
   first
    |(obtain ⟨f0,f1,f2,f3,f4,f5, -⟩:=h0 rfl;clear h0;go_simp;with_reducible rfl)
    |(clear h0;go_simp;with_reducible rfl)
  (try simp only [zz1]);(try simp only [zz2]);(try simp only [zz3])
  go_simp;refine hK _ ?_;clear hK K)
 refine g7 (g9 rfl ?_ (fun K hK=> ?_))
 ·(try simp only [zz1]);(try simp only [zz2]);(try simp only [zz3]);go_simp;done
 go_wp2_with fail
 refine (Hat.out _ _ (Hmwa.out.trans hS.md (fun _ _ h=>h))).mono ?_;rintro e w2 ⟨v2,rfl,hru,hrub,hm2⟩;have hS2:=HF.out w2 (hS.md.trans hm2 (fun _ _ h=>h));have hrub0:∀b,v2.ownBlock=some b->w.heap.size<=b:=fun b hb=>Nat.le_trans (Nat.le_trans Hmwa.out.size hS.md.size) (hrub b hb);refine hK _ _ (fun _ h=>HF.out _ (h.md.trans hm2 (fun _ _ h=>h))) ?_;clear hK K hS;obtain ⟨HS2,Hru,Hrub0⟩:=zh3 hS2 hru hrub0;clear hS2 hru hrub0 hm2 hrub;refine g7 (g9 rfl ?_ (fun K hK=> ?_))
 ·(try simp only [zz1]);(try simp only [zz2]);(try simp only [zz3]);go_simp;done
 (try simp only [zz1]);(try simp only [zz2]);(try simp only [zz3]);go_simp;refine hK _ _ (fun h=>absurd h (by decide)) ?_;clear hK K;refine j8 ?_
 go_wp2_with fail
 have hS:=HF.out _ (HS2.out.md.drew);refine g8 [.rd 0,.rd 1,.rd 2,.rd 3,.rd 4,.rd 5,.rd 8,.go 6,.rd 7] [0,1,2,3,4,5,7,8] (RtF wa w.heap.size g t (a.tb t) (a.ib t) x na near.length nc) (by kernel_rfl) (by kernel_rfl) (fun _ _ d _ _ h=>(by cases d<;>exact h)) ?_
 iterate 7 (
  refine l5 rfl ?_ (fun _=>hS) ?_ (fun w0 h0=> ?_) (fun K hK=> ?_)
  ·(try simp only [zz1]);(try simp only [zz2]);(try simp only [zz3]);go_simp;done
  rotate_left
  ·(try simp only [zz1]);(try simp only [zz2]);(try simp only [zz3])
   first
    |(obtain ⟨f0,f1,f2,f3,f4,f5, -⟩:=h0 rfl;clear h0;go_simp;with_reducible rfl)
    |(clear h0;go_simp;with_reducible rfl)
  (try simp only [zz1]);(try simp only [zz2]);(try simp only [zz3])
  go_simp;refine hK _ ?_;clear hK K)
 refine g7 (g9 rfl ?_ (fun K hK=> ?_))
 ·(try simp only [zz1]);(try simp only [zz2]);(try simp only [zz3]);go_simp;done
 go_wp2_with fail
 refine (Him.out _ hS.md).mono ?_;rintro e w3 ⟨iv,rfl,hov,hib,hm3⟩;obtain ⟨ia,ic,rfl,hic⟩:=hov.shape;have hic':(ids.length:Int)<=ic:=by omega
 have hib0:∀b,(Value.slice ia ids.length ic).ownBlock=some b->w.heap.size<=b:=fun b hb=>Nat.le_trans (Nat.le_trans Hmwa.out.size hS.md.size) (hib b hb);have hm23:Mod (fun _=>False) w2 w3:=((Mod.refl (fun _=>False) w2).drew).trans hm3 (fun _ _ h=>h);have hS3:=HF.out w3 (hS.md.trans hm3 (fun _ _ h=>h));refine hK _ _ (fun _ h=>HF.out _ (h.md.trans hm3 (fun _ _ h=>h))) ?_;clear hK K;have hS:=hS3;refine l5 rfl ?_ (fun _=>hS) ?_ (fun w0 h0=> ?_) (fun K hK=> ?_)
 ·(try simp only [zz1]);(try simp only [zz2]);(try simp only [zz3]);go_simp;done
 rotate_left
 ·(try simp only [zz1]);(try simp only [zz2]);(try simp only [zz3])
  first
   |(obtain ⟨f0,f1,f2,f3,f4,f5, -⟩:=h0 rfl;clear h0;go_simp;with_reducible rfl)
   |(clear h0;go_simp;with_reducible rfl)
 (try simp only [zz1]);(try simp only [zz2]);(try simp only [zz3]);go_simp;refine hK _ ?_;clear hK K;refine j8 ?_;have hm03:=Hmwa.out.trans hS3.md (fun _ _ h=>h);have hs3:=Mov.of Hw.out hm03 (fun _=>False);have how3:=hs3.owd Hw.out (fun h=>h);have hb3:=H.out.mov Hw.out hs3 (fun h=>h) (fun _ h=>h.elim);have hO3:=O.mov HO.out Hw.out hs3 (fun h=>h) (fun _ h=>h.elim);have hx3:=Hx.out.mov hs3 (fun h=>h);have hg3:=hS3.md.heap Hgwa.out (fun h=>h);have hcI:l9 w3 ow 1 (.slice ia ids.length ic) ids.length (ids.map (Value.int .i64)):=⟨hov.rd,fun _ b hb=>Hw.out.zero (hib0 b hb)⟩;obtain ⟨A,hA⟩:∃A,atR l (O9 x.m.ver B.L.length)=A:=⟨_,rfl⟩
 have hAl:A.length<=40:=by
  have h1:=a2E l (O9 x.m.ver B.L.length);have h2:=congrArg List.length HlB.out;rw [zz10] at h2;rw [hA] at h1;omega
 have hcA:l9 w3 ow 8 v2 A.length (rus A):=by
  have h1:=Hru.out.rd;rw [hA] at h1;exact ⟨h1.mod hm23 (fun _ _ h=>h),fun _ b hb=>Hw.out.zero (Hrub0.out b hb)⟩
 have hfA:∀r∈A,r.pru.fine/\l9 w3 ow 7 r.cv r.cs.length (l6 r.cs):=fun r hr=>by
  have h1:=Hfin.out r (a4S (n:=O9 x.m.ver B.L.length) (by rw [hA];exact hr));exact ⟨h1.1,h1.2.mov hs3 (fun h=>h) (by omega)⟩
 obtain ⟨AP,hAP⟩:∃AP,atP B.L (O9 x.m.ver B.L.length)=AP:=⟨_,rfl⟩;have hApr:A.map Ru.pru=AP:=by rw [<-hA,a2D,HlB.out,hAP]
 have hm33:Mov O.tg w3 ow w3 ow:=Mov.refl how3;have how0:ow w.heap.size=0:=Hw.out.zero (Nat.le_refl _);obtain ⟨Hov,Hib,Hib0,Hm23,HS3,HS,Hm03,Hs3,How3,Hb3,HO3,Hx3⟩:=zh12 hov hib hib0 hm23 hS3 hS hm03 hs3 how3 hb3 hO3 hx3;obtain ⟨Hg3,HcI,HA,HcA,HfA,HAP,HApr,Hm33,How0⟩:=zh9 hg3 hcI hA hcA hfA hAP hApr hm33 how0;clear hov hib hib0 hm23 hS3 hS hm03 hs3 how3 hb3 hO3 hx3 hg3 hcI hA hcA hfA hAP hApr hm33 how0 hic hm3
 go_wp2_with fail
 go_loopw [37] (fun i wr=>b5v O w3 ow s (F2 (B.R t).S AP t x.m) ids i wr) (fun i _=>ids.length - (intOf i).toNat)
 case atStart=>exact ⟨0,ow,rfl,Nat.zero_le _,HO3.out,Hm33.out⟩
 case round=>
  obtain ⟨j,owr,rfl,hj,hOr,hmr⟩:=hrel;have howr:=hmr.owd How3.out Ht00.out;have hbr:=Hb3.out.mov How3.out hmr Ht00.out HOt.out;have hcr:=O.shows_cnt s ((ids.take j).filterMap (F2 (B.R t).S AP t x.m));have hcl:((ids.take j).filterMap (F2 (B.R t).S AP t x.m)).length<=1000:=Nat.le_trans (List.length_filterMap_le _ _) (by rw [List.length_take];omega)
  have hgr:=hmr.md.heap Hg3.out (fun hf=>Ht00.out (by
   have hf':O.tg (ow w.heap.size):=hf;rw [How0.out] at hf'
   exact hf'))
  by_cases hlt:j<ids.length
  ·have hlt':(j:Int)<ids.length:=by omega
   obtain ⟨k,hkj⟩:∃k,ids[j]? =some k:=⟨_,zz5 hlt⟩;obtain ⟨hkw,q,hq,hqQ⟩:=Hidm.out k (zz8 hkj);obtain ⟨gi,offi,rfl,ci⟩:=a3i (HcI.out.mov hmr Ht00.out (by omega)).rd hkj;obtain ⟨q',qa,qc, -,hlk,hqc⟩:=(hbr.rea t ht).sub.ask k hkw;obtain ⟨rfl,hcon⟩:=hqc q hq;obtain ⟨-, -,s2, -⟩:=hbr.cells ht;obtain ⟨wz,hwz,hmwz,hgwz,hzwz⟩:=e8 wr (.cells #[.string q.1,.string q.2.1,.slice qa q.2.2.length qc] 137);have hgz:=hmwz.heap hgr (fun h=>h);have hsz:=Mov.of howr hmwz (fun _=>False);have hmz:=hmr.trans (hsz.mono (G:=O.tg) (fun _ h=>h.elim));have howz:=hsz.owd howr (fun h=>h);have hxz:=Hx3.out.mov hmz Ht00.out;have hruz:=fun wx (hx:Mod (fun _=>False) wz wx)=>(b2b (HcA.out.mov hmz Ht00.out (by omega)) (fun r hr=>⟨(HfA.out r hr).1,(HfA.out r hr).2.mov hmz Ht00.out (by omega)⟩)).mod hx;have hconz:=hcon.mov hsz (fun h=>h) (by omega);have hes:=He.out.es;have hev:=a9r wz v2 A (hruz wz (Mod.refl _ _)) (by omega) t q.1 x.m.es (by omega) x.ea x.ec x.m.el hxz.el.rd (by have:=He.out.len;omega);rw [<-b19,HApr.out] at hev;obtain ⟨sl,hsl⟩:∃sl,a3w AP t q.1 x.m.es x.m.el=sl:=⟨_,rfl⟩;have hsub:sl.Sublist x.m.el:=hsl▸b2c;rw [hsl] at hev;obtain ⟨mo,hmo⟩:∃mo,a6b AP t q.1 q.2.1 q.2.2=mo:=⟨_,rfl⟩;obtain ⟨fm,hfm⟩:∃fm,H5 q.2.1 q.2.2 x.m.es sl=fm:=⟨_,rfl⟩
   have hone:F2 (B.R t).S AP t x.m k=if mo&&fm then some ((t:Int),q.1,⟨1,0,0,k,x.m.ser,x.m.ver,x.m.org,x.m.es,sl⟩) else none:=by
    unfold F2;rw [hq];show (if a6b AP t q.1 q.2.1 q.2.2&&H5 q.2.1 q.2.2 x.m.es (a3w AP t q.1 x.m.es x.m.el) then some _ else none)=_;rw [hsl,hmo,hfm]
   have hsu:=a7J (S:=(B.R t).S) (A:=AP) (t:=t) (m:=x.m) hkj;have hsu:(ids.take (j+1)).filterMap (F2 (B.R t).S AP t x.m)=(ids.take j).filterMap (F2 (B.R t).S AP t x.m)++(F2 (B.R t).S AP t x.m k).toList:=hsu;rw [hone] at hsu;have e12:wz.cell? ⟨w.heap.size,12,none⟩=some (.string x.m.es):=d6 hgz rfl;have e13:wz.cell? ⟨w.heap.size,13,none⟩=some (.slice x.ea x.m.el.length x.ec):=d6 hgz rfl;have e14:wz.cell? ⟨w.heap.size,14,none⟩=some (.int .i64 x.m.ver):=d6 hgz rfl;have e15:wz.cell? ⟨w.heap.size,15,none⟩=some (.string x.m.org):=d6 hgz rfl;have e16:wz.cell? ⟨w.heap.size,16,none⟩=some (.int .i64 x.m.ser):=d6 hgz rfl;have y0:wz.cell? ⟨wr.heap.size,0,none⟩=some (.string q.1):=d6 hgwz rfl;have y1:wz.cell? ⟨wr.heap.size,1,none⟩=some (.string q.2.1):=d6 hgwz rfl;have y2:wz.cell? ⟨wr.heap.size,2,none⟩=some (.slice qa q.2.2.length qc):=d6 hgwz rfl;obtain ⟨HOr,Hmr,Howr,Hbr,Hgr,Hkj,Hq,HqQ,Hcon,Hqc,Hkw,Hwz⟩:=zh12 hOr hmr howr hbr hgr hkj hq hqQ hcon hqc hkw hwz;obtain ⟨Hmwz,Hgwz,Hgz,Hsz,Hmz,Howz,Hxz,Hruz,Hconz,Hev,Hsl,Hsub⟩:=zh12 hmwz hgwz hgz hsz hmz howz hxz hruz hconz hev hsl hsub;obtain ⟨Hmo,Hfm,Hone,Hsu⟩:=zh4 hmo hfm hone hsu;clear hOr hmr howr hbr hgr hkj hq hqQ hcon hqc hkw hwz hmwz hgwz hgz hsz hmz howz hxz hruz hconz hev hsl hsub hmo hfm hone hsu hzwz
   go_wp2_with (first|((with_reducible refine d8 137 (.tmp 14) (.tmp 46) ?_);refine ⟨rfl,[.string q.1,.string q.2.1,.slice qa q.2.2.length qc],rfl,rfl,by kernel_rfl,rfl, ?_⟩;rw [Hwz.out])|fail)
   refine Hev.out.mono ?_;rintro e w5 ⟨av,rfl,hso,hsb,hm5⟩;obtain ⟨sa,sc,rfl, -⟩:=hso.shape;obtain ⟨w6,hw6,hmw6,hgw6,hzw6⟩:=e8 w5 (.cells #[.string x.m.es,.slice sa sl.length sc] 46);have hmz6:=hm5.trans hmw6 (fun _ _ h=>h);have hru6:=Hruz.out w6 hmz6
   have hmo6:=a11 (b0O q.2.1 q.2.2) w6 v2 A hru6 (by omega) t q.1 q.2.1 qa q.2.2.length qc
    (fun r hr wx hwx ho=>a3Y wx r ((hru6.ok r hr).mod hwx) (fun c hc=>((HfA.out r hr).1.cs c hc).v.num) q.2.1 (.slice qa q.2.2.length qc) q.2.2 (Hconz.out.rd.mod (hmz6.trans hwx (fun _ _ h=>h)) (fun _ _ h=>h)) (by have:=HqQ.out.1;omega) (by have:=HqQ.out.2.2;omega) (fun d hd=>⟨by have:=(HqQ.out.2.1 d hd).v.text;omega,(HqQ.out.2.1 d hd).v.num⟩))
   rw [<-a8A,HApr.out,Hmo.out] at hmo6;have g6z:=hmz6.heap Hgwz.out (fun h=>h);have g6m:=hmz6.heap Hgz.out (fun h=>h);have y0:w6.cell? ⟨wr.heap.size,0,none⟩=some (.string q.1):=d6 g6z rfl;have y1:w6.cell? ⟨wr.heap.size,1,none⟩=some (.string q.2.1):=d6 g6z rfl;have y2:w6.cell? ⟨wr.heap.size,2,none⟩=some (.slice qa q.2.2.length qc):=d6 g6z rfl;have hso6:=hso.rd.mod hmw6 (fun _ _ h=>h);have hcsl:∀wx,Mod (fun _=>False) w6 wx->l9 wx owr 6 (.slice sa sl.length sc) sl.length (j7 sl):=fun wx hx=>⟨hso6.mod hx (fun _ _ h=>h),fun _ b hb=>Howz.out.zero (hsb b hb)⟩;obtain ⟨Hso,Hsb,Hm5,Hw6,Hmw6,Hgw6,Hmz6,Hru6,Hmo6,G6z,G6m,Hso6⟩:=zh12 hso hsb hm5 hw6 hmw6 hgw6 hmz6 hru6 hmo6 g6z g6m hso6;have Hcsl:=zh hcsl;clear hso hsb hm5 hw6 hmw6 hgw6 hmz6 hru6 hmo6 g6z g6m hso6 hcsl hzw6 e12 e13 e14 e15 e16
   go_wp2_with (first|((with_reducible refine d8 46 (.tmp 15) (.tmp 53) ?_);refine ⟨rfl,[.string x.m.es,.slice sa sl.length sc],rfl,rfl,by kernel_rfl,rfl, ?_⟩;rw [Hw6.out])|fail)
   refine Hmo6.out.mono ?_;rintro e w7 ⟨rfl,hm7⟩;have hmz7:=Hmz6.out.trans hm7 (fun _ _ h=>h);have hs7:=Mov.of Howz.out hmz7 (fun _=>False);have how7:=hs7.owd Howz.out (fun h=>h);have hm37:=Hmz.out.trans (hs7.mono (G:=O.tg) (fun _ h=>h.elim));have hO7:=(O.mov HOr.out Howr.out Hsz.out (fun h=>h) (fun _ h=>h.elim));have hO7:=O.mov hO7 Howz.out hs7 (fun h=>h) (fun _ h=>h.elim);have g7z:=hm7.heap G6z.out (fun h=>h);have g7m:=hm7.heap G6m.out (fun h=>h);have g7e:=hm7.heap Hgw6.out (fun h=>h)
   cases mo with
   |false=>
    rw [Bool.false_and,if_neg (by decide),Option.toList_none,zz11] at Hsu;obtain ⟨Hmz7,Hs7,How7,Hm37,HO7⟩:=zh5 hmz7 hs7 how7 hm37 hO7;clear hmz7 hs7 how7 hm37 hO7 hm7 g7z g7m g7e
    go_wp2_with fail
    go_roundw
    case rel=>exact ⟨j+1,owr,by go_num,hlt,by rw [Hsu.out];exact HO7.out,Hm37.out⟩
    case measure=>simp [intOf];omega
   | true=>
    have y1:w7.cell? ⟨wr.heap.size,1,none⟩=some (.string q.2.1):=d6 g7z rfl;have y2:w7.cell? ⟨wr.heap.size,2,none⟩=some (.slice qa q.2.2.length qc):=d6 g7z rfl;have z0:w7.cell? ⟨w5.heap.size,0,none⟩=some (.string x.m.es):=d6 g7e rfl;have z1:w7.cell? ⟨w5.heap.size,1,none⟩=some (.slice sa sl.length sc):=d6 g7e rfl
    have hfm7:=U9 w7 q.2.1 (.slice qa q.2.2.length qc) q.2.2 (Hconz.out.rd.mod hmz7 (fun _ _ h=>h)) (by have:=HqQ.out.1;omega) (by have:=HqQ.out.2.2;omega) (fun d hd=>by have:=(HqQ.out.2.1 d hd).v.text;omega) x.m.es (.slice sa sl.length sc) sl (Hcsl.out w7 hm7).rd
     (by have:=Hsub.out.length_le;have:=He.out.len;omega) (a9O Hsub.out He.out.ris) (by have:=He.out.es;omega) (fun b hb=>by have:=(He.out.each b (Hsub.out.subset hb)).2;omega)
    rw [Hfm.out] at hfm7;obtain ⟨Hmz7,Hs7,How7,Hm37,HO7,Hm7,G7z,G7m,G7e,Hfm7⟩:=zh10 hmz7 hs7 how7 hm37 hO7 hm7 g7z g7m g7e hfm7;clear hmz7 hs7 how7 hm37 hO7 hm7 g7z g7m g7e hfm7
    go_wp2_with fail
    refine Hfm7.out.mono ?_;rintro e w8 ⟨rfl,hm8⟩;have hmz8:=Hmz7.out.trans hm8 (fun _ _ h=>h);have hs8:=Mov.of How7.out hm8 (fun _=>False);have how8:=hs8.owd How7.out (fun h=>h);have hm38:=Hm37.out.trans (hs8.mono (G:=O.tg) (fun _ h=>h.elim));have hO8:=O.mov HO7.out How7.out hs8 (fun h=>h) (fun _ h=>h.elim);have g8z:=hm8.heap G7z.out (fun h=>h);have g8m:=hm8.heap G7m.out (fun h=>h);have g8e:=hm8.heap G7e.out (fun h=>h)
    cases fm with
    |false=>
     rw [Bool.and_false,if_neg (by decide),Option.toList_none,zz11] at Hsu;obtain ⟨Hmz8,Hs8,How8,Hm38,HO8⟩:=zh5 hmz8 hs8 how8 hm38 hO8;clear hmz8 hs8 how8 hm38 hO8 hm8 g8z g8m g8e
     go_wp2_with fail
     go_roundw
     case rel=>exact ⟨j+1,owr,by go_num,hlt,by rw [Hsu.out];exact HO8.out,Hm38.out⟩
     case measure=>simp [intOf];omega
    |true=>
     rw [Bool.and_self,if_pos rfl,Option.toList_some] at Hsu;have y0:w8.cell? ⟨wr.heap.size,0,none⟩=some (.string q.1):=d6 g8z rfl;have z0:w8.cell? ⟨w5.heap.size,0,none⟩=some (.string x.m.es):=d6 g8e rfl;have z1:w8.cell? ⟨w5.heap.size,1,none⟩=some (.slice sa sl.length sc):=d6 g8e rfl;have e14:w8.cell? ⟨w.heap.size,14,none⟩=some (.int .i64 x.m.ver):=d6 g8m rfl;have e15:w8.cell? ⟨w.heap.size,15,none⟩=some (.string x.m.org):=d6 g8m rfl;have e16:w8.cell? ⟨w.heap.size,16,none⟩=some (.int .i64 x.m.ser):=d6 g8m rfl;have hsh:=O.tshow (id:=k) (ser:=x.m.ser) (ver:=x.m.ver) (who:=q.1) (org:=x.m.org) (es:=x.m.es) how8 hO8 (by omega) ht0 (by omega:(t:Int)<=3) (Hcsl.out w8 (Hm7.out.trans hm8 (fun _ _ h=>h)));obtain ⟨Hmz8,Hs8,How8,Hm38,HO8,Hm8,G8z,G8m,G8e,Hsh⟩:=zh10 hmz8 hs8 how8 hm38 hO8 hm8 g8z g8m g8e hsh;clear hmz8 hs8 how8 hm38 hO8 hm8 g8z g8m g8e hsh
     go_wp2_with fail
     refine Hsh.out.mono ?_;rintro e w9 ⟨rfl,ow9,hO9,hm9⟩;have hm39:=Hm38.out.trans hm9;obtain ⟨HO9,Hm9,Hm39⟩:=zh3 hO9 hm9 hm39;clear hO9 hm9 hm39
     go_wp2_with fail
     go_roundw
     case rel=>exact ⟨j+1,ow9,by go_num,hlt,by rw [Hsu.out,O.shows_one];exact HO9.out,Hm39.out⟩
     case measure=>simp [intOf];omega
  obtain rfl:j=ids.length:=by omega
  rw [List.take_length] at hOr hcr hcl;obtain ⟨s1,hs1⟩:∃s1,O.shows s (ids.filterMap (F2 (B.R t).S AP t x.m))=s1:=⟨_,rfl⟩;rw [hs1] at hOr hcr
  have hs1':O.shows s (B.rouH t x.m)=s1:=by
   unfold BS.rouH a2a;rw [Hids.out,HAP.out];exact hs1
  have hcr:O.cnt s1<=O.cnt s+1000:=by omega
  clear hcl hs1
  have e2:wr.cell? ⟨g,2,none⟩=some (.slice na near.length nc):=by
   obtain ⟨L5,hl5, -⟩:=hbr.log;rw [<-Hnv.out];exact d6 hl5.row rfl
  obtain ⟨HOr,Hmr,Howr,Hbr,Hgr,Hs1'⟩:=zh6 hOr hmr howr hbr hgr hs1';clear hOr hmr howr hbr hgr hs1'
  go_wp2_with fail
  go_loopw [87] (fun i wr=>b42 O w3 ow s1 (B.R t).M near t frm x.m i wr) (fun i _=>near.length - (intOf i).toNat)
  case atStart=>exact ⟨0,owr,rfl,Nat.zero_le _,HOr.out,Hmr.out⟩
  case round=>
   obtain ⟨j,ow5,rfl,hj,hO5,hm5⟩:=hrel;have how5:=hm5.owd How3.out Ht00.out;have hb5:=Hb3.out.mov How3.out hm5 Ht00.out HOt.out
   have hg5:=hm5.md.heap Hg3.out (fun hf=>Ht00.out (by
    have hf':O.tg (ow w.heap.size):=hf;rw [How0.out] at hf'
    exact hf'))
   by_cases hlt:j<near.length
   ·have hlt':(j:Int)<near.length:=by omega
    obtain ⟨n,hnj⟩:∃x,near[j]? =some x:=⟨_,zz5 hlt⟩;have hnm:=zz8 hnj;have hx5:=Hx3.out.mov hm5 Ht00.out
    obtain ⟨gn,offn,hgn,hcn⟩:∃gn offn,na=some ⟨gn,offn,none⟩/\wr.cell? ⟨gn,offn+j,none⟩=some (.int .i64 n):=by
     have h1:=hb5.near.rd;rw [Hnv.out] at h1;obtain ⟨gn,offn,h2,h3⟩:=a3i h1 hnj;exact ⟨gn,offn,h2,h3⟩
    subst hgn;have hr5:=hb5.rea t ht;have hc5:=O.sends_cnt s1 (G8 (B.R t).M (near.take j) t frm x.m);have hl5:=a4s (B.R t).M (near.take j) t frm x.m;rw [List.length_take] at hl5;obtain ⟨b,hb⟩:∃b,(a3N (B.R t).M n).any (fun q=>a0z q x.m.es x.m.el)=b:=⟨_,rfl⟩;have hsu:=a7K (M:=(B.R t).M) (t:=t) (frm:=frm) (m:=x.m) hnj
    have hff:∀wx,Mod (fun _=>False) wr wx->RtF wr w.heap.size g t (a.tb t) (a.ib t) x (some ⟨gn,offn,none⟩) near.length nc wx:=fun wx hm=>by
     obtain ⟨L5,hl5, -⟩:=hb5.log;obtain ⟨p0,p1, -, -⟩:=hb5.cells ht;have p2:wr.cell? ⟨g,2,none⟩=some (.slice (some ⟨gn,offn,none⟩) near.length nc):=by rw [<-Hnv.out];exact d6 hl5.row rfl
     exact ⟨hm.cell p0 (fun h=>h),hm.cell p1 (fun h=>h),hm.cell (d6 hg5 rfl) (fun h=>h),hm.cell (d6 hg5 rfl) (fun h=>h),hm.cell (d6 hg5 rfl) (fun h=>h),hm.cell p2 (fun h=>h),hm⟩
    have hww:∀wx,Mod (fun _=>False) wr wx->Calls Tryz.prog 94 #[.pointer (some ⟨a.tb t,0,none⟩),.int .i64 n,.agg #[.string x.m.es,.slice x.ea x.m.el.length x.ec]] wx fun e w'=>e= .returned (.bool b)/\Mod (fun _=>False) wr w':=fun wx h=>by
     have h1:=a9H wx (a.tb t) _ _ (B.R t).M (B.R t).N (Tab.mod0 hr5.tab h (fun _ _ h=>h)) hN (C1.okR hr5.tab) n (Hnw.out n hnm) x.m.es x.ea x.ec x.m.el He.out.es (hx5.el.rd.mod h (fun _ _ h=>h)) He.out.len He.out.ris He.out.each;rw [hb] at h1;exact h1.mono fun e w' ⟨he,hm⟩=>⟨he,h.trans hm (fun _ _ h=>h)⟩
    have hton:=Hto.out n hnm
    have hw1:b2a (B.R t).M frm x.m n=(!(n==frm)&&b):=by
     unfold b2a;rw [hb]
    rw [hw1] at hsu;clear hw1;by_cases hnf:n=frm
    ·have hq:(n !=frm)=false:=by simpa using hnf
     rw [show (n==frm)=true from by simpa using hnf,Bool.not_true,Bool.false_and,if_neg (by decide),zz11] at hsu;obtain ⟨HO5,Hm5,How5,Hb5,Hg5,Hx5,Hr5,Hww,Hff,Hnm,Hnj,Hton⟩:=zh12 hO5 hm5 how5 hb5 hg5 hx5 hr5 hww hff hnm hnj hton;obtain ⟨Hb,Hsu⟩:=zh2 hb hsu;clear hO5 hm5 how5 hb5 hg5 hx5 hr5 hww hff hnm hnj hton hb hsu
     go_wp2_with fail
     refine i8 (by kernel_rfl) (by kernel_rfl) ?_
     iterate 13 (first
      | (refine k7 ?_ (fun K hK=> ?_)
         ·first|(go_simp;done)|(go_simp;simp [undef];done)
         go_simp;refine hK _ ?_;clear hK K)
      | (refine m8 ?_ ?_ (fun w' hw'=> ?_) (fun K hK=> ?_)
         ·first|(go_simp;done)|(go_simp;simp [undef];done)
         rotate_left
         ·skip
          go_simp;rfl
         go_simp;refine hK _ ?_;clear hK K)
      | (refine p8 ?_ ?_ ?_ ?_ (fun w' hw'=> ?_) ?_ (fun K hK=> ?_)
         ·first|(go_simp;done)|(go_simp;simp [undef];done)
         rotate_left 3
         ·skip
          go_simp;constructor<;>rfl
         ·first|with_reducible exact Hww.out
         go_simp;refine hK _ ?_;clear hK K))
     refine m4 (fun w' hw'=> ?_);have hf:=Hff.out w' hw';have hs6:=Mov.of How5.out hw' (fun _=>False);have hm6:=Hm5.out.trans (hs6.mono (G:=O.tg) (fun _ h=>h.elim));have hO6:=O.mov HO5.out How5.out hs6 (fun h=>h) (fun _ h=>h.elim);obtain ⟨Hf,Hm6,HO6,Hs6⟩:=zh4 hf hm6 hO6 hs6;clear hf hm6 hO6 hs6 hw'
     go_wp2_with fail
     go_roundw
     case rel=>exact ⟨j+1,ow5,by go_num,hlt,by rw [Hsu.out];exact HO6.out,Hm6.out⟩
     case measure=>simp [intOf];omega
    have hq:(n !=frm)=true:=by simpa using hnf
    rw [show (n==frm)=false from by simpa using hnf,Bool.not_false,Bool.true_and] at hsu;obtain ⟨HO5,Hm5,How5,Hb5,Hg5,Hx5,Hr5,Hww,Hff,Hnm,Hnj,Hton⟩:=zh12 hO5 hm5 how5 hb5 hg5 hx5 hr5 hww hff hnm hnj hton;obtain ⟨Hb,Hsu⟩:=zh2 hb hsu;clear hO5 hm5 how5 hb5 hg5 hx5 hr5 hww hff hnm hnj hton hb hsu
    go_wp2_with fail
    refine i8 (by kernel_rfl) (by kernel_rfl) ?_
    iterate 13 (first
     | (refine k7 ?_ (fun K hK=> ?_)
        ·first|(go_simp;done)|(go_simp;simp [undef];done)
        go_simp;refine hK _ ?_;clear hK K)
     | (refine m8 ?_ ?_ (fun w' hw'=> ?_) (fun K hK=> ?_)
        ·first|(go_simp;done)|(go_simp;simp [undef];done)
        rotate_left
        ·obtain ⟨f0,f1,f2,f3,f4,f5, -⟩:=Hff.out w' hw';go_simp;rfl
        go_simp;refine hK _ ?_;clear hK K)
     | (refine p8 ?_ ?_ ?_ ?_ (fun w' hw'=> ?_) ?_ (fun K hK=> ?_)
        ·first|(go_simp;done)|(go_simp;simp [undef];done)
        rotate_left 3
        ·obtain ⟨f0,f1,f2,f3,f4,f5, -⟩:=Hff.out w' hw';go_simp;constructor<;>rfl
        ·first|with_reducible exact Hww.out
        go_simp;refine hK _ ?_;clear hK K))
    refine m4 (fun w' hw'=> ?_);have hf:=Hff.out w' hw';have hs6:=Mov.of How5.out hw' (fun _=>False);have how6:=hs6.owd How5.out (fun h=>h);have hm6:=Hm5.out.trans (hs6.mono (G:=O.tg) (fun _ h=>h.elim));have hO6:=O.mov HO5.out How5.out hs6 (fun h=>h) (fun _ h=>h.elim);have hx6:=Hx5.out.mov hs6 (fun h=>h);have hg6:=hw'.heap Hg5.out (fun h=>h)
    cases b with
    |false=>
     rw [if_neg (by decide),zz11] at Hsu;obtain ⟨Hf,Hm6,HO6,Hs6,How6,Hx6,Hg6⟩:=zh7 hf hm6 hO6 hs6 how6 hx6 hg6;clear hf hm6 hO6 hs6 how6 hx6 hg6 hw'
     go_wp2_with fail
     go_roundw
     case rel=>exact ⟨j+1,ow5,by go_num,hlt,by rw [Hsu.out];exact HO6.out,Hm6.out⟩
     case measure=>simp [intOf];omega
    |true=>
     rw [if_pos rfl] at Hsu;have hsn:=O.tsend (td:=n) (ten:=t) (x:=x) how6 hO6 (by omega) Hton.out hx6;obtain ⟨Hf,Hm6,HO6,Hs6,How6,Hx6,Hsn⟩:=zh7 hf hm6 hO6 hs6 how6 hx6 hsn;clear hf hm6 hO6 hs6 how6 hx6 hsn hw'
     go_wp2_with (first|((with_reducible refine d9 48 (.tmp 9) ?_);refine ⟨w.heap.size,0,rfl,x.cells,e7.row hg6,by kernel_rfl,by kernel_rfl, ?_⟩)|fail)
     refine Hsn.out.mono ?_;rintro e w7 ⟨rfl,ow7,hO7,hm7⟩;have hm37:=Hm6.out.trans hm7;obtain ⟨HO7,Hm7,Hm37⟩:=zh3 hO7 hm7 hm37;clear hO7 hm7 hm37
     go_wp2_with fail
     go_roundw
     case rel=>exact ⟨j+1,ow7,by go_num,hlt,by rw [Hsu.out,O.sends_one];exact HO7.out,Hm37.out⟩
     case measure=>simp [intOf];omega
   obtain rfl:j=near.length:=by omega
   rw [List.take_length] at hO5;have hm:=(Hs3.out.mono (G:=O.tg) (fun _ h=>h.elim)).trans hm5;obtain ⟨Hm,Hm5,HO5,How5,Hb5,Hg5⟩:=zh6 hm hm5 hO5 how5 hb5 hg5;clear hm hm5 hO5 how5 hb5 hg5
   go_wp2
   go_end0
   exact ⟨rfl,ow5,⟨a,Hb5.out⟩,by rw [Hs1'.out];exact HO5.out,Hm.out⟩
def Mg.said (ver ser:Int) (who es:ByteArray) (el:List Att):Mg:=⟨3,0,PRu.zero,⟨#[]⟩,[],es,el,ver,who,ser⟩
def b2d {w0:World} {q:Nat} (O:x7 w0 q) (w:World) (ow:Ow) (c g:Nat) (id:Int) (near:List Int) (B:BS) (t:Nat) (s:O.σ) (E:Int) (m:Mg) (e:Ending) (w':World):Prop:=
 e= .returned (.int .i64 E)/\∃ow',Bro w' ow' c g id near B/\O.inv w' ow' (if E=0 then O.sends (O.shows s (B.rouH t m)) (G8 (B.R t).M near t (-1) m) else s)/\Mov O.tg w ow w' ow'
theorem a7O (w0 w:World) (ow:Ow) (hw:Owd w0 w ow) (c g:Nat) (id:Int) (near:List Int) (B:BS) (h:Bro w ow c g id near B) (hL:B.L.length<=40) (hnl:near.length<=1000) (hnw:∀n∈near,(Lit.int .i64 n).wf=true) (t:Nat) (ht:t<4)
 (q:Nat) (O:x7 w0 q) (s:O.σ) (hO:O.inv w ow s) (hOt:∀t,O.tg t->t<c\/c+18<=t) (hto:∀n∈near,O.okTo n t) (hcnt:O.cnt s<=300000000000) (hT:(B.R t).T<=100000) (hN:(B.R t).N<=100000)
 (hIS:∀k∈(B.R t).I.map Prod.fst,(Lit.int .i64 k).wf=true/\∃q,y8 (B.R t).S k=some q/\okQ q.2) (hIl:(B.R t).I.length<=1000) (who:ByteArray) (ser:Int) (es:ByteArray) (ea:Option Addr) (ec:Nat) (el:List Att) (hxc:l9 w ow 6 (.slice ea el.length ec) el.length (j7 el)) (hes:es.size<=1000) (hel:el.length<=1000)
 (heq:∀a∈el,a.name.size<=1000):
 Calls Tryz.prog 23 #[.pointer (some ⟨g,0,none⟩),.iface 43 (.pointer (some ⟨q,0,none⟩)),.int .i64 t,.string who,.int .i64 ser,.agg #[.string es,.slice ea el.length ec]] w (b2d O w ow c g id near B t s (B.pubE id t who es el) (Mg.said B.L.length ser who es el)):=by
 have hx:=hxc.rd
 have hno:∀(E:Int) wx,Mod (fun _=>False) w wx->E≠0->∃ow',Bro wx ow' c g id near B/\O.inv wx ow' (if E=0 then O.sends (O.shows s (B.rouH t (Mg.said B.L.length ser who es el))) (G8 (B.R t).M near t (-1) (Mg.said B.L.length ser who es el)) else s)/\Mov O.tg w ow wx ow':=fun E wx hm hE=>by
  have hs:=Mov.of hw hm (fun _=>False);rw [if_neg hE];exact ⟨ow,h.mov hw hs (fun h=>h) (fun _ h=>h.elim),O.mov hO hw hs (fun h=>h) (fun _ h=>h.elim),hs.mono (fun _ h=>h.elim)⟩
 obtain ⟨wa,hwa,hmwa,hgwa,hzwa⟩:=e8 w (.cells #[.string es,.slice ea el.length ec] 46)
 have hF:∀wx,Mod (fun _=>False) wa wx->PbS wa w.heap.size es ea el.length ec wx:=fun wx hm=>
  ⟨hm.cell (d6 hgwa rfl) (fun h=>h),hm.cell (d6 hgwa rfl) (fun h=>h),hm⟩
 have hbr:∀wx,Mod (fun _=>False) w wx->Bro wx ow c g id near B:=fun wx hm=>h.mov hw (Mov.of hw hm (fun _=>False)) (fun h=>h) (fun _ h=>h.elim);have hx':∀wx,Mod (fun _=>False) w wx->j0 wx 6 (.slice ea el.length ec) el.length (j7 el):=fun wx hm=>hx.mod hm (fun _ _ h=>h);have hri:=fun wx (hm:Mod (fun _=>False) w wx)=>a56 es (.slice ea el.length ec) el wx (hx' wx hm) (by omega) (fun a ha=>by have:=heq a ha;omega);have hsc:=M2 es (by omega);obtain ⟨R1,hR1⟩:∃r,o7 el=r:=⟨_,rfl⟩;obtain ⟨R2,hR2⟩:∃r,s5 es=r:=⟨_,rfl⟩;rw [hR1] at hri;rw [hR2] at hsc;obtain ⟨Hw,HO,HOt,Hto,HIS,Hxc,Hno,H,HF,Hbr,Hx,Hx'⟩:=zh12 hw hO hOt hto hIS hxc hno h hF hbr hx hx';obtain ⟨Hri,Hsc,HR1,HR2,Hwa,Hmwa,Hgwa,Hnw,Heq⟩:=zh9 hri hsc hR1 hR2 hwa hmwa hgwa hnw heq;clear hw hO hOt hto hIS hxc hno h hF hbr hx hx' hri hsc hR1 hR2 hwa hmwa hgwa hnw heq hzwa;have hR:B.pubE id t who es el=if (R1&&R2)=true then if B.there id t who=true then if b1Y (atP B.L B.L.length) t who es el=true then 0 else 5 else 3 else 1:=by rw [<-HR1.out,<-HR2.out];rfl
 obtain ⟨E,hE⟩:∃E,B.pubE id t who es el=E:=⟨_,rfl⟩;rw [hE] at hR;rw [hE];have HR:=zh hR;clear hR hE
 go_enter Tryz.func23,Tryz.ntmps23
 have hS:=HF.out wa (Mod.refl _ wa);obtain ⟨f0,f1, -⟩:=hS
 go_wp2_with (first|(rw [show w.alloc _=wa from Hwa.out])|fail)
 refine (Hri.out wa Hmwa.out).mono ?_;rintro e w1 ⟨rfl,hm1⟩;have hS1:=HF.out w1 hm1;obtain ⟨f0,f1, -⟩:=hS1
 cases R1 with
 |false=>
  have hm:=Hmwa.out.trans hm1 (fun _ _ h=>h);have Hm:=zh hm;clear hm hm1
  go_wp2
  go_ret;exact ⟨by rw [HR.out];rfl,Hno.out _ _ Hm.out (by rw [HR.out];exact (by decide:(1:Int)≠0))⟩
 |true=>
 go_wp2_with fail
 refine (Hsc.out _).mono ?_;rintro e w2 ⟨rfl,hm2⟩;have hm2:=hm1.trans hm2 (fun _ _ h=>h)
 cases R2 with
 |false=>
  have hm:=Hmwa.out.trans hm2 (fun _ _ h=>h);have Hm:=zh hm;clear hm hm1 hm2
  go_wp2
  go_ret;exact ⟨by rw [HR.out];rfl,Hno.out _ _ Hm.out (by rw [HR.out];exact (by decide:(1:Int)≠0))⟩
 |true=>
 have hth:=a59 w2 ow c g id near B (Hbr.out w2 (Hmwa.out.trans hm2 (fun _ _ h=>h))) hL t who;obtain ⟨R3,hR3⟩:∃r,B.there id t who=r:=⟨_,rfl⟩;rw [hR3] at hth;obtain ⟨Hth,HR3,Hm2⟩:=zh3 hth hR3 hm2;clear hth hR3 hm2 hm1
 go_wp2_with fail
 refine Hth.out.mono ?_;rintro e w3 ⟨rfl,hm3⟩;have hm3:=Hm2.out.trans hm3 (fun _ _ h=>h)
 cases R3 with
 |false=>
  have hm:=Hmwa.out.trans hm3 (fun _ _ h=>h);have Hm:=zh hm;clear hm hm3
  go_wp2
  go_ret;exact ⟨by rw [HR.out,HR3.out];rfl,Hno.out _ _ Hm.out (by rw [HR.out,HR3.out];exact (by decide:(3:Int)≠0))⟩
 |true=>
 have hwm3:=Hmwa.out.trans hm3 (fun _ _ h=>h);obtain ⟨a,hb3⟩:=Hbr.out w3 hwm3;obtain ⟨l,hlB, -,hle,hat⟩:=hb3.at_ hL;have hll:l.length<=40:=by rw [<-congrArg List.length hlB,zz10] at hL;exact hL
 obtain ⟨R4,hR4⟩:∃r,b1Y (atP B.L B.L.length) t who es el=r:=⟨_,rfl⟩;have hS:=HF.out w3 hm3;have hFS:∀wx,Mod (fun _=>False) w3 wx->PbS wa w.heap.size es ea el.length ec wx:=fun wx hm=>HF.out wx (hm3.trans hm (fun _ _ h=>h));have hbL:=hle;obtain ⟨HR4,Hb3,HlB,HbL,Hat,Hm3,Hwm3,HFS⟩:=zh8 hR4 hb3 hlB hbL hat hm3 hwm3 hFS;clear hR4 hb3 hlB hbL hat hm3 hwm3 hFS hle
 go_wp2_with fail
 have hS:PbS wa w.heap.size es ea el.length ec w3.drew:=HFS.out _ ((Mod.refl _ w3).drew);refine g8 [.rd 0,.rd 1,.rd 2,.rd 3,.rd 4,.rd 5,.rd 8,.rd 9,.rd 10,.go 6,.go 7,.go 11,.go 12,.go 13] [0,1,2,3,4,5,6,7,8,9,10] (PbS wa w.heap.size es ea el.length ec) (by kernel_rfl) (by kernel_rfl) (fun _ _ d _ _ h=>(by cases d<;>exact h)) ?_
 iterate 9 (
  refine l5 rfl ?_ (fun _=>hS) ?_ (fun w0 h0=> ?_) (fun K hK=> ?_)
  ·(try simp only [zz1]);(try simp only [zz2]);(try simp only [zz3]);go_simp;done
  rotate_left
  ·(try simp only [zz1]);(try simp only [zz2]);(try simp only [zz3])
   first
    |(obtain ⟨f0,f1, -⟩:=h0 rfl;clear h0;go_simp;with_reducible rfl)
    |(clear h0;go_simp;with_reducible rfl)
  (try simp only [zz1]);(try simp only [zz2]);(try simp only [zz3])
  go_simp;refine hK _ ?_;clear hK K)
 refine g7 (g9 rfl ?_ (fun K hK=> ?_))
 ·(try simp only [zz1]);(try simp only [zz2]);(try simp only [zz3]);go_simp;done
 go_wp2_with fail
 refine ((HbL.out w3.drew ((Mod.refl _ w3).drew))).mono ?_;rintro e w4 ⟨rfl,rfl⟩;refine hK _ _ (fun _ h=>h) ?_;clear hK K;refine g7 (g9 rfl ?_ (fun K hK=> ?_))
 ·(try simp only [zz1]);(try simp only [zz2]);(try simp only [zz3]);go_simp;done
 go_wp2_with fail
 refine ((Hat.out w3.drew _ ((Mod.refl _ w3).drew))).mono ?_;rintro e w4 ⟨v4,rfl,hru, -,hm4⟩;rw [a0M] at hru;have hm34:Mod (fun _=>False) w3 w4:=((Mod.refl _ w3).drew).trans hm4 (fun _ _ h=>h);have hS4:=HFS.out w4 hm34;refine hK _ _ (fun _ _=>hS4) ?_;clear hK K hS
 have hmp:=a5h (fun r=>H5 r.sc r.cs es el) w4 v4 (atR l B.L.length) hru (by have:=a2E l B.L.length;omega) t who es ea el.length ec
  (fun r hr wx hwx=>U9 wx r.sc r.cv r.cs ((hru.ok r hr).mod hwx).rd (hru.ok r hr).len (hru.ok r hr).sc (fun c hc=>((hru.ok r hr).cname c hc).2) es (.slice ea el.length ec) el (Hx'.out wx (Hwm3.out.trans (hm34.trans hwx (fun _ _ h=>h)) (fun _ _ h=>h))) (by omega) (a0C HR1.out) (by omega) (fun a ha=>by
    have:=(a4L HR1.out ha).2;unfold V.right at this;simp only [Bool.and_eq_true,decide_eq_true_eq] at this
    omega))
 rw [<-b3S,a2D,HlB.out,HR4.out] at hmp;have hwm4:=Hwm3.out.trans hm34 (fun _ _ h=>h);obtain ⟨Hmp,Hru,Hwm4,HS4,Hm34⟩:=zh5 hmp hru hwm4 hS4 hm34;clear hmp hru hwm4 hS4 hm34 hm4;refine g7 (g9 rfl ?_ (fun K hK=> ?_))
 ·(try simp only [zz1]);(try simp only [zz2]);(try simp only [zz3]);go_simp;done
 go_wp2_with fail
 refine Hmp.out.mono ?_;rintro e w5 ⟨rfl,hm5⟩;have hwm5:=Hwm4.out.trans hm5 (fun _ _ h=>h);have hm35:=Hm34.out.trans hm5 (fun _ _ h=>h);refine hK _ _ (fun h=>absurd h (by decide)) ?_;clear hK K hm5;refine g7 (g9 rfl ?_ (fun K hK=> ?_))
 ·(try simp only [zz1]);(try simp only [zz2]);(try simp only [zz3]);go_simp;done
 (try simp only [zz1]);(try simp only [zz2]);(try simp only [zz3]);go_simp;refine hK _ _ (fun h=>absurd h (by decide)) ?_;clear hK K;refine g7 (g9 rfl ?_ (fun K hK=> ?_))
 ·(try simp only [zz1]);(try simp only [zz2]);(try simp only [zz3]);go_simp;done
 (try simp only [zz1]);(try simp only [zz2]);(try simp only [zz3]);go_simp;refine hK _ _ (fun h=>absurd h (by decide)) ?_;clear hK K;refine j8 ?_
 cases R4 with
 |false=>
  have Hwm5:=zh hwm5;clear hwm5 hm35
  go_wp2
  go_ret;exact ⟨by rw [HR.out,HR3.out,HR4.out];rfl,Hno.out _ _ Hwm5.out (by rw [HR.out,HR3.out,HR4.out];exact (by decide:(5:Int)≠0))⟩
 |true=>
 have heo:a9I es el:=⟨V9 HR2.out,by have:=HR1.out;unfold o7 at this;simp only [Bool.and_eq_true,decide_eq_true_eq] at this;exact this.2,a0C HR1.out,fun a ha=>by
  have:=a4L HR1.out ha;refine ⟨a2B this.1, ?_⟩;have h3:=this.2;unfold V.right at h3;simp only [Bool.and_eq_true,decide_eq_true_eq] at h3
  exact h3.2.2⟩
 have hFS5:∀wx,Mod (fun _=>False) w5 wx->PbS wa w.heap.size es ea el.length ec wx:=fun wx hm=>HFS.out wx (hm35.trans hm (fun _ _ h=>h));have hL5:∀wx,Mod (fun _=>False) w5 wx->Calls Tryz.prog 15 #[.pointer (some ⟨g,0,none⟩)] wx fun e w'=>e= .returned (.int .i64 B.L.length)/\wx=w':=fun wx hm=>HbL.out wx (hm35.trans hm (fun _ _ h=>h))
 have hro:∀wx,Mod (fun _=>False) w5 wx->Calls Tryz.prog 56 #[.pointer (some ⟨g,0,none⟩),.iface 43 (.pointer (some ⟨q,0,none⟩)),.int .i64 t,.int .i64 (-1),.agg #[.int .i64 3,.int .i64 0,.int .i64 0,.int .i64 0,.string ⟨#[]⟩,.int .i64 0,.string ⟨#[]⟩,.slice none 0 0,.string ⟨#[]⟩,.int .i64 0,
  .string ⟨#[]⟩,.slice none 0 0,.string es,.slice ea el.length ec,.int .i64 B.L.length,.string who,.int .i64 ser]] wx fun e w'=>e= .returned (.tuple #[])/\∃ow',Bro w' ow' c g id near B/\O.inv w' ow' (O.sends (O.shows s (B.rouH t (Mg.said B.L.length ser who es el))) (G8 (B.R t).M near t (-1) (Mg.said B.L.length ser who es el)))/\Mov O.tg w ow w' ow':=fun wx hm=>by
  have hm5:=hwm5.trans hm (fun _ _ h=>h);have hs:=Mov.of Hw.out hm5 (fun _=>False)
  refine (a6e w0 wx ow (hs.owd Hw.out (fun h=>h)) c g id near B (Hbr.out wx hm5) hL hnl Hnw.out t ht q O s (O.mov HO.out Hw.out hs (fun h=>h) (fun _ h=>h.elim)) HOt.out Hto.out hcnt hT hN HIS.out hIl (-1) ⟨Mg.said B.L.length ser who es el,none,0,none,0,ea,ec⟩
   ⟨l9.nil _ _ _,l9.nil _ _ _,Hxc.out.mov hs (fun h=>h) (by omega)⟩ heo).mono ?_
  rintro e w' ⟨he,ow',h1,h2,h3⟩;exact ⟨he,ow',h1,h2,(hs.mono (fun _ h=>h.elim)).trans h3⟩
 obtain ⟨Heo,HFS5,HL5,Hro,Hwm5⟩:=zh5 heo hFS5 hL5 hro hwm5;clear heo hFS5 hL5 hro hwm5 hm35
 go_wp2_with fail
 have hS:PbS wa w.heap.size es ea el.length ec w5.drew:=HFS5.out _ ((Mod.refl _ w5).drew);refine g8 [.rd 0,.rd 1,.rd 2,.rd 3,.rd 4,.rd 5,.rd 6,.rd 8,.rd 9,.go 7,.go 10,.go 11] [0,1,2,3,4,5,6,7,8,9] (PbS wa w.heap.size es ea el.length ec) (by kernel_rfl) (by kernel_rfl) (fun _ _ d _ _ h=>(by cases d<;>exact h)) ?_
 iterate 9 (
  refine l5 rfl ?_ (fun _=>hS) ?_ (fun w0 h0=> ?_) (fun K hK=> ?_)
  ·(try simp only [zz1]);(try simp only [zz2]);(try simp only [zz3]);go_simp;done
  rotate_left
  ·(try simp only [zz1]);(try simp only [zz2]);(try simp only [zz3])
   first
    |(obtain ⟨f0,f1, -⟩:=h0 rfl;clear h0;go_simp;with_reducible rfl)
    |(clear h0;go_simp;with_reducible rfl)
  (try simp only [zz1]);(try simp only [zz2]);(try simp only [zz3])
  go_simp;refine hK _ ?_;clear hK K)
 refine g7 (g9 rfl ?_ (fun K hK=> ?_))
 ·(try simp only [zz1]);(try simp only [zz2]);(try simp only [zz3]);go_simp;done
 go_wp2_with fail
 refine ((HL5.out w5.drew ((Mod.refl _ w5).drew))).mono ?_;rintro e w6 ⟨rfl,rfl⟩;refine hK _ _ (fun _ h=>h) ?_;clear hK K;refine g7 (g9 rfl ?_ (fun K hK=> ?_))
 ·(try simp only [zz1]);(try simp only [zz2]);(try simp only [zz3]);go_simp;done
 (try simp only [zz1]);(try simp only [zz2]);(try simp only [zz3]);go_simp;refine hK _ _ (fun h=>absurd h (by decide)) ?_;clear hK K;refine g7 (g9 rfl ?_ (fun K hK=> ?_))
 ·(try simp only [zz1]);(try simp only [zz2]);(try simp only [zz3]);go_simp;done
 go_wp2_with fail
 refine (Hro.out w5.drew ((Mod.refl _ w5).drew)).mono ?_;rintro e w7 ⟨rfl,h7⟩;refine hK _ _ (fun h=>absurd h (by decide)) ?_;clear hK K hS;refine j8 ?_;have H7:=zh h7;clear h7
 go_wp2
 go_ret;obtain ⟨ow7,h1,h2,h3⟩:=H7.out;refine ⟨by rw [HR.out,HR3.out,HR4.out];rfl,ow7,h1, ?_,h3⟩;rw [if_pos (by rw [HR.out,HR3.out,HR4.out];rfl)];exact h2
def b43 {w0:World} {q:Nat} (O:x7 w0 q) (w:World) (ow:Ow) (c g:Nat) (id:Int) (near:List Int) (B:BS) (t:Nat) (s:O.σ) (frm:Int) (m:Mg) (e:Ending) (w':World):Prop:=
 e= .returned (.bool (decide (m.ver<=B.L.length)))/\∃ow',Bro w' ow' c g id near B/\O.inv w' ow' (if m.ver<=B.L.length then O.sends (O.shows s (B.rouH t m)) (G8 (B.R t).M near t frm m) else s)/\Mov O.tg w ow w' ow'
theorem b3X (w0 w:World) (ow:Ow) (hw:Owd w0 w ow) (c g:Nat) (id:Int) (near:List Int) (B:BS) (h:Bro w ow c g id near B) (hL:B.L.length<=40) (hnl:near.length<=1000) (hnw:∀n∈near,(Lit.int .i64 n).wf=true) (t:Nat) (ht:t<4)
 (q:Nat) (O:x7 w0 q) (s:O.σ) (hO:O.inv w ow s) (hOt:∀t,O.tg t->t<c\/c+18<=t) (hto:∀n∈near,O.okTo n t) (hcnt:O.cnt s<=300000000000) (hT:(B.R t).T<=100000) (hN:(B.R t).N<=100000)
 (hIS:∀k∈(B.R t).I.map Prod.fst,(Lit.int .i64 k).wf=true/\∃q,y8 (B.R t).S k=some q/\okQ q.2) (hIl:(B.R t).I.length<=1000) (frm:Int) (x:Mv) (hx:X5 w ow x) (he:a9I x.m.es x.m.el) (hk:x.m.kind≠0/\x.m.kind≠1/\x.m.kind≠2):
 Calls Tryz.prog 26 #[.pointer (some ⟨g,0,none⟩),.iface 43 (.pointer (some ⟨q,0,none⟩)),.int .i64 frm,.int .i64 t,.agg x.cells.toArray] w (b43 O w ow c g id near B t s frm x.m):=by
 by_cases hv:x.m.ver<=B.L.length
 case neg=>
  refine (a4m w ow c g id near B h _ frm t x hk (by omega) hL).mono ?_;rintro e w' ⟨rfl,hm⟩;have hs:=Mov.of hw hm (fun _=>False);refine ⟨by rw [decide_eq_false hv],ow,h.mov hw hs (fun h=>h) (fun _ h=>h.elim), ?_,hs.mono (fun _ h=>h.elim)⟩;rw [if_neg hv];exact O.mov hO hw hs (fun h=>h) (fun _ h=>h.elim)
 obtain ⟨a,h⟩:=h;obtain ⟨L,hlog,hLB⟩:=h.log;have hLl:L.length=B.L.length:=by rw [<-hLB,zz10]
 obtain ⟨av,acap,hav, -⟩:∃a' cc,a.v= .slice a' L.length cc/\L.length<=cc:=by obtain ⟨-,a,cc,h,h2, -⟩:=hlog.sl.sl.rd;exact ⟨a,cc,h,h2⟩
 rw [hav,hLl] at hlog;obtain ⟨k1,k2,k3⟩:=hk;obtain ⟨wa,hwa,hmwa,hgwa,hzwa⟩:=e8 w (.cells x.cells.toArray 48);have m0:wa.cell? ⟨w.heap.size,0,none⟩=some (.int .i64 x.m.kind):=d6 hgwa rfl;have m14:wa.cell? ⟨w.heap.size,14,none⟩=some (.int .i64 x.m.ver):=d6 hgwa rfl;have hgg:=hmwa.heap hlog.row (fun h=>h);have hF:∀wx,Mod (fun _=>False) wa wx->wx.cell? ⟨w.heap.size,14,none⟩=some (.int .i64 x.m.ver)/\Mod (fun _=>False) wa wx:=fun wx hx=>⟨hx.cell m14 (fun h=>h),hx⟩;have hpl:∀wx,Mod (fun _=>False) wa wx->Calls Tryz.prog 15 #[.pointer (some ⟨g,0,none⟩)] wx fun e w'=>e= .returned (.int .i64 B.L.length)/\Mod (fun _=>False) wa w':=fun wx hx=>(a08 wx g av B.L.length acap (hx.cell (d6 hgg rfl) (fun h=>h))).mono fun e w' ⟨he,hm⟩=>⟨he,hm▸hx⟩;have hb:Bro w ow c g id near B:=⟨a,h⟩
 have hro:∀wx,Mod (fun _=>False) w wx->Calls Tryz.prog 56 #[.pointer (some ⟨g,0,none⟩),.iface 43 (.pointer (some ⟨q,0,none⟩)),.int .i64 t,.int .i64 frm,.agg x.cells.toArray] wx fun e w'=>e= .returned (.tuple #[])/\∃ow',Bro w' ow' c g id near B/\O.inv w' ow' (O.sends (O.shows s (B.rouH t x.m)) (G8 (B.R t).M near t frm x.m))/\Mov O.tg w ow w' ow':=fun wx hm=>by
  have hs:=Mov.of hw hm (fun _=>False);refine (a6e w0 wx ow (hs.owd hw (fun h=>h)) c g id near B (hb.mov hw hs (fun h=>h) (fun _ h=>h.elim)) hL hnl hnw t ht q O s (O.mov hO hw hs (fun h=>h) (fun _ h=>h.elim)) hOt hto hcnt hT hN hIS hIl frm x (hx.mov hs (fun h=>h)) he).mono ?_;rintro e w' ⟨he,ow',h1,h2,h3⟩;exact ⟨he,ow',h1,h2,(hs.mono (fun _ h=>h.elim)).trans h3⟩
 obtain ⟨Hw,HO,HOt,Hto,HIS,Hnw,Hb,Hro,Hx,He,H,Hlog⟩:=zh12 hw hO hOt hto hIS hnw hb hro hx he h hlog;obtain ⟨Hwa,Hmwa,Hgwa,Hgg,HF,Hpl⟩:=zh6 hwa hmwa hgwa hgg hF hpl;clear hw hO hOt hto hIS hnw hb hro hx he h hlog hwa hmwa hgwa hgg hF hpl hzwa hLB hLl hav m14
 go_enter Tryz.func26,Tryz.ntmps26
 go_wp2_with (first|(rw [show w.alloc _=wa from Hwa.out])|fail)
 refine i8 (by kernel_rfl) (by kernel_rfl) ?_
 iterate 7 (first
  | (refine k7 ?_ (fun K hK=> ?_)
     ·first|(go_simp;done)|(go_simp;simp [undef];done)
     go_simp;refine hK _ ?_;clear hK K)
  | (refine m8 ?_ ?_ (fun w' hw'=> ?_) (fun K hK=> ?_)
     ·first|(go_simp;done)|(go_simp;simp [undef];done)
     rotate_left
     ·obtain ⟨f0, -⟩:=HF.out w' hw';go_simp;rfl
     go_simp;refine hK _ ?_;clear hK K)
  | (refine p8 ?_ ?_ ?_ ?_ (fun w' hw'=> ?_) ?_ (fun K hK=> ?_)
     ·first|(go_simp;done)|(go_simp;simp [undef];done)
     rotate_left 3
     ·obtain ⟨f0, -⟩:=HF.out w' hw';go_simp;constructor<;>rfl
     ·first|with_reducible exact Hpl.out
     go_simp;refine hK _ ?_;clear hK K))
 refine m4 (fun w' hw'=> ?_);have hmx:=Hmwa.out.trans hw' (fun _ _ h=>h);have hgx:=hw'.heap Hgwa.out (fun h=>h);have hrx:=Hro.out w' hmx;obtain ⟨Hmx,Hrx⟩:=zh2 hmx hrx;clear hmx hrx hw'
 go_wp2_with (first|((with_reducible refine d9 48 (.tmp 9) ?_);refine ⟨w.heap.size,0,rfl,x.cells,e7.row hgx,by kernel_rfl,by kernel_rfl, ?_⟩)|fail)
 refine Hrx.out.mono ?_;rintro e w7 ⟨rfl,h7⟩;have H7:=zh h7;clear h7
 go_wp2
 go_ret;obtain ⟨ow7,h1,h2,h3⟩:=H7.out;refine ⟨by rw [decide_eq_true hv];rfl,ow7,h1, ?_,h3⟩;rw [if_pos hv];exact h2
end
end Go.Proofs.YtaenebdppkjhoaaGreatDoor
