/- Lemmas. -/
import Derived.Test.YtaenebdppkjhoaaGreatDoorZg15
import Derived.Test.YtaenebdppkjhoaaGreatDoorZg14
import Derived.Lib.ItoaNum
import Derived.Test.YtaenebdppkjhoaaGreatDoorZg5
namespace Go.Proofs.YtaenebdppkjhoaaGreatDoor
set_option maxRecDepth 20000
set_option maxHeartbeats 40000000
section
def m9 (c:UInt8):Prop:=48<=c.toNat/\c.toNat<=57
structure Q6 (ds:List UInt8):Prop where
 dig:∀c∈ds,m9 c
 fst:∀c,ds.head? =some c->c≠48
 lst:v6 ds=ds.length
def F7 (ds:List UInt8) (dp:Int):List UInt8:=P7 false ds dp
theorem a2x (neg:Bool) (ds:List UInt8) (dp:Int):P7 neg ds dp=y9 neg++F7 ds dp:=by
 unfold F7 P7 y9;cases neg<;>simp only [Bool.false_eq_true,if_false,if_true,List.nil_append,zz12]<;>repeat' split
 all_goals rfl
def a6E (l:List UInt8):Int:=
 match l with
 |45::r=> -(r.foldl (fun a c=>10*a+(c.toNat - 48)) 0:Nat)
 |_::r=>(r.foldl (fun a c=>10*a+(c.toNat - 48)) 0:Nat)
 |[]=>0
theorem b0m:(List.range 1001).all (fun i=>decide (a6E (O1 ((i:Int) - 500))=(i:Int) - 500))=true:=by decide+kernel
theorem a74 (x:Int) (h: -500<=x/\x<=500):a6E (O1 x)=x:=by
 have:=of_decide_eq_true (zz15 b0m (x+500).toNat (List.mem_range.2 (by omega)));rw [show (((x+500).toNat:Nat):Int) - 500=x by omega] at this;exact this
def b0n (L:List UInt8):List UInt8:=(L.dropWhile (· ==48)).take (v6 (L.dropWhile (· ==48)))
def a3B (t:List UInt8):List UInt8×Int:=
 let pre:=t.takeWhile (· !=101)
 let x:=a6E ((t.dropWhile (· !=101)).drop 1)
 let i:=pre.takeWhile (· !=46)
 let L:=i++(pre.dropWhile (· !=46)).drop 1
 (b0n L,i.length - (L.takeWhile (· ==48)).length+x)
theorem V0 {c:UInt8} (h:m9 c) (k:UInt8) (hk:k=101\/k=46\/k=45):(c !=k)=true:=by
 rw [bne_iff_ne];rintro rfl;unfold m9 at h;rcases hk with rfl|rfl|rfl<;>revert h<;>decide
theorem a2N:m9 48:=by unfold m9;decide
theorem a0b (n:Nat):∀c∈j4 n,m9 c:=fun c hc=>by rw [(List.mem_replicate.1 hc).2];exact a2N
theorem R8 {l:List UInt8} (k:UInt8) (hk:k=101\/k=46\/k=45) (h:∀c∈l,m9 c) (r:List UInt8):(l++r).takeWhile (· !=k)=l++r.takeWhile (· !=k):=
 List.takeWhile_append_of_pos fun c hc=>V0 (h c hc) k hk
theorem R9 {l:List UInt8} (k:UInt8) (hk:k=101\/k=46\/k=45) (h:∀c∈l,m9 c) (r:List UInt8):(l++r).dropWhile (· !=k)=r.dropWhile (· !=k):=
 List.dropWhile_append_of_pos fun c hc=>V0 (h c hc) k hk
theorem a2O (l:List UInt8) (n:Nat):v6 (l++j4 n)=v6 l:=by
 induction n with
 |zero=>simp [j4]
 |succ n ih=>
  have:l++j4 (n+1)=l++j4 n++[48]:=by unfold j4;rw [zz12,List.replicate_succ']
  rw [this,a1W,if_pos rfl,ih]
theorem a6F {ds:List UInt8} (h:Q6 ds) (hne:ds≠[]) (r:List UInt8) (k:Nat):(j4 k++(ds++r)).dropWhile (· ==48)=ds++r/\((j4 k++(ds++r)).takeWhile (· ==48)).length=k:=by
 have hz:∀c∈j4 k,(c==48)=true:=fun c hc=>by rw [(List.mem_replicate.1 hc).2];rfl
 rw [List.dropWhile_append_of_pos hz,List.takeWhile_append_of_pos hz]
 cases ds with
 |nil=>exact absurd rfl hne
 |cons c l=>
  have:=h.fst c rfl;have hc:(c==48)=false:=by rw [beq_eq_false_iff_ne];exact this
  rw [List.cons_append,List.dropWhile_cons,List.takeWhile_cons,hc];simp [j4]
theorem L6 {ds:List UInt8} (h:Q6 ds) (hne:ds≠[]) (k n:Nat):b0n (j4 k++(ds++j4 n))=ds/\((j4 k++(ds++j4 n)).takeWhile (· ==48)).length=k:=by
 obtain ⟨h1,h2⟩:=a6F h hne (j4 n) k;refine ⟨?_,h2⟩;unfold b0n;rw [h1,a2O,h.lst,List.take_left'];rfl
theorem a1y {ds:List UInt8} {dp:Int} (h:Q6 ds) (hd:ds=[]->dp=0) (hr: -400<=dp/\dp<=400):a3B (F7 ds dp)=(ds,dp):=by
 by_cases h0:ds=[]
 ·subst h0;rw [hd rfl];decide
 have hlen:0<ds.length:=List.length_pos_iff.2 h0;have hdt:∀k,∀c∈ds.take k,m9 c:=fun k c hc=>h.dig c (List.mem_of_mem_take hc);have hdd:∀k,∀c∈ds.drop k,m9 c:=fun k c hc=>h.dig c (List.mem_of_mem_drop hc);have e101:(101:UInt8)=101\/(101:UInt8)=46\/(101:UInt8)=45:= .inl rfl;have e46:(46:UInt8)=101\/(46:UInt8)=46\/(46:UInt8)=45:= .inr (.inl rfl);have sc0:=L6 h h0 0 0;simp only [j4,List.replicate_zero,List.nil_append,zz11] at sc0;unfold F7 P7;rw [if_neg h0];simp only [y9,Bool.false_eq_true,if_false,List.nil_append];by_cases h1:dp - 1< -4\/6<=dp - 1
 ·rw [if_pos h1];have tk1:(ds.take 1).length=1:=by rw [List.length_take];omega
  by_cases hl:ds.length<=1
  ·have hfr:B0 ds=[]:=if_pos hl;have htk:ds.take 1=ds:=List.take_of_length_le hl;rw [hfr,zz11,htk];unfold a3B;simp only;rw [zz12,R8 101 e101 h.dig,R9 101 e101 h.dig];have t1:([101]++O1 (dp - 1)).takeWhile (· !=101)=[]:=rfl;have t2:(([101]++O1 (dp - 1)).dropWhile (· !=101)).drop 1=O1 (dp - 1):=rfl;rw [t1,t2];have t3:(ds++[]).takeWhile (· !=46)=ds++[]:=R8 46 e46 h.dig [];have t4:(ds++[]).dropWhile (· !=46)=[]:=R9 46 e46 h.dig [];rw [t3,t4];simp only [zz11,List.drop_nil];rw [sc0.1,sc0.2,a74 _ (by omega)];congr 1;omega
  have hfr:B0 ds=46::ds.drop 1:=if_neg hl;rw [hfr];unfold a3B;simp only;have a1:ds.take 1++46::ds.drop 1++[101]++O1 (dp - 1)=(ds.take 1++([46]++(ds.drop 1++([101]++O1 (dp - 1))))):=by simp
  rw [a1,R8 101 e101 (hdt 1),R9 101 e101 (hdt 1)];have t0:([46]++(ds.drop 1++([101]++O1 (dp - 1)))).takeWhile (· !=101)=[46]++(ds.drop 1++([101]++O1 (dp - 1))).takeWhile (· !=101):=List.takeWhile_append_of_pos (by decide);have t0':([46]++(ds.drop 1++([101]++O1 (dp - 1)))).dropWhile (· !=101)=(ds.drop 1++([101]++O1 (dp - 1))).dropWhile (· !=101):=List.dropWhile_append_of_pos (by decide);rw [t0,t0',R8 101 e101 (hdd 1),R9 101 e101 (hdd 1)];have t1:([101]++O1 (dp - 1)).takeWhile (· !=101)=[]:=rfl;have t2:(([101]++O1 (dp - 1)).dropWhile (· !=101)).drop 1=O1 (dp - 1):=rfl;rw [t1,t2,R8 46 e46 (hdt 1),R9 46 e46 (hdt 1)];have t3:([46]++(ds.drop 1++[])).takeWhile (· !=46)=[]:=rfl;have t4:(([46]++(ds.drop 1++[])).dropWhile (· !=46)).drop 1=ds.drop 1++[]:=rfl;rw [t3,t4];simp only [zz11,List.take_append_drop];rw [sc0.1,sc0.2,tk1,a74 _ (by omega)];congr 1;omega
 rw [if_neg h1];by_cases h2:dp<=0
 ·rw [if_pos h2];have a1:[48,46]++j4 (-dp).toNat++ds=[48]++([46]++(j4 (-dp).toNat++ds)):=by simp
  have hdz:∀c∈j4 (-dp).toNat++ds,m9 c:=fun c hc=>by
   rcases zz14 hc with hc|hc
   ·exact a0b _ c hc
   exact h.dig c hc
  have hall:∀c∈([48]++([46]++(j4 (-dp).toNat++ds)):List UInt8),(c !=101)=true:=fun c hc=>by
   rcases zz14 hc with hc|hc
   ·rw [List.mem_singleton.1 hc];rfl
   rcases zz14 hc with hc|hc
   ·rw [List.mem_singleton.1 hc];rfl
   exact V0 (hdz c hc) 101 e101
  rw [a1];unfold a3B;simp only;have t1:=List.takeWhile_append_of_pos (l₂:=[]) hall;have t2:=List.dropWhile_append_of_pos (l₂:=[]) hall;simp only [zz11,List.takeWhile_nil,List.dropWhile_nil] at t1 t2;rw [t1,t2];have t3:([48]++([46]++(j4 (-dp).toNat++ds))).takeWhile (· !=46)=[48]:=rfl;have t4:(([48]++([46]++(j4 (-dp).toNat++ds))).dropWhile (· !=46)).drop 1=j4 (-dp).toNat++ds:=rfl;rw [t3,t4]
  have a2:[48]++(j4 (-dp).toNat++ds)=j4 ((-dp).toNat+1)++(ds++j4 0):=by
   simp [j4,List.replicate_succ]
  rw [a2,(L6 h h0 _ 0).1,(L6 h h0 _ 0).2];simp only [List.drop_nil,a6E,List.length_singleton];congr 1;omega
 rw [if_neg h2];obtain ⟨p,rfl⟩:∃p:Nat,dp=p:=⟨dp.toNat,by omega⟩;rw [Int.toNat_natCast];by_cases h3:(p:Int)<ds.length
 ·rw [if_pos h3];have a1:ds.take p++[46]++ds.drop p=ds.take p++([46]++ds.drop p):=by simp
  have hall:∀c∈(ds.take p++([46]++ds.drop p):List UInt8),(c !=101)=true:=fun c hc=>by
   rcases zz14 hc with hc|hc
   ·exact V0 (hdt p c hc) 101 e101
   rcases zz14 hc with hc|hc
   ·rw [List.mem_singleton.1 hc];rfl
   exact V0 (hdd p c hc) 101 e101
  rw [a1];unfold a3B;simp only;have t1:=List.takeWhile_append_of_pos (l₂:=[]) hall;have t2:=List.dropWhile_append_of_pos (l₂:=[]) hall;simp only [zz11,List.takeWhile_nil,List.dropWhile_nil] at t1 t2;rw [t1,t2,R8 46 e46 (hdt p),R9 46 e46 (hdt p)];have t3:([46]++ds.drop p).takeWhile (· !=46)=[]:=rfl;have t4:(([46]++ds.drop p).dropWhile (· !=46)).drop 1=ds.drop p:=rfl;rw [t3,t4];simp only [zz11,List.take_append_drop];rw [sc0.1,sc0.2];simp only [List.drop_nil,a6E,List.length_take];congr 1;omega
 rw [if_neg h3]
 have hdz:∀c∈ds++j4 (p - ds.length),m9 c:=fun c hc=>by
  rcases zz14 hc with hc|hc
  ·exact h.dig c hc
  exact a0b _ c hc
 unfold a3B;simp only;have t1:=R8 101 e101 hdz [];have t2:=R9 101 e101 hdz [];have t3:=R8 46 e46 hdz [];have t4:=R9 46 e46 hdz [];simp only [zz11,List.takeWhile_nil,List.dropWhile_nil] at t1 t2 t3 t4;rw [t1,t2,t3,t4];have sc:=L6 h h0 0 (p - ds.length);simp only [show j4 0=[] from rfl,List.nil_append] at sc;simp only [List.drop_nil,zz11];rw [sc.1,sc.2];simp only [a6E,zz4,j4,List.length_replicate];congr 1;omega
theorem a0c {ds:List UInt8} {dp:Int} (h:Q6 ds):∃c r,F7 ds dp=c::r/\m9 c:=by
 unfold F7 P7;simp only [y9,Bool.false_eq_true,if_false,List.nil_append]
 cases ds with
 |nil=>exact ⟨48,[],rfl,a2N⟩
 | cons a l=>
  have ha:m9 a:=h.dig a List.mem_cons_self;rw [if_neg (by simp)];split
  ·exact ⟨a,_,by simp;rfl,ha⟩
  split
  ·exact ⟨48,_,by simp;rfl,a2N⟩
  split
  ·rename_i h1 h2 h3
   obtain ⟨p,hp⟩:∃p:Nat,dp.toNat=p+1:=⟨dp.toNat - 1,by omega⟩;rw [hp];exact ⟨a,_,by simp;rfl,ha⟩
  exact ⟨a,_,by simp;rfl,ha⟩
theorem b2O {n1 n2:Bool} {d1 d2:List UInt8} {p1 p2:Int} (c1:Q6 d1) (c2:Q6 d2) (z1:d1=[]->p1=0) (z2:d2=[]->p2=0) (r1: -400<=p1/\p1<=400) (r2: -400<=p2/\p2<=400)
 (h:P7 n1 d1 p1=P7 n2 d2 p2):n1=n2/\d1=d2/\p1=p2:=by
 rw [a2x,a2x] at h;obtain ⟨a1,l1,b1,g1⟩:=a0c (dp:=p1) c1;obtain ⟨a2,l2,b2,g2⟩:=a0c (dp:=p2) c2
 have hn:n1=n2/\F7 d1 p1=F7 d2 p2:=by
  have ne1:=V0 g1 45 (.inr (.inr rfl));have ne2:=V0 g2 45 (.inr (.inr rfl));rw [bne_iff_ne] at ne1 ne2;cases n1<;>cases n2<;>simp only [y9,Bool.false_eq_true,if_false,if_true,List.nil_append] at h
  ·exact ⟨rfl,h⟩
  ·rw [b1] at h;simp at h;exact absurd h.1 ne1
  ·rw [b2] at h;simp at h;exact absurd h.1.symm ne2
  simp at h;exact ⟨rfl,h⟩
 have e1:=a1y c1 z1 r1;have e2:=a1y c2 z2 r2;rw [hn.2,e2] at e1;exact ⟨hn.1,(congrArg Prod.fst e1).symm,(congrArg Prod.snd e1).symm⟩
def a2h (l:List UInt8):Nat:=l.foldl (fun a c=>10*a+(c.toNat - 48)) 0
theorem a3U (l:List UInt8) (c:UInt8):a2h (l++[c])=10*a2h l+(c.toNat - 48):=by unfold a2h;rw [List.foldl_append];rfl
theorem a6G (l:List UInt8) (n:Nat):a2h (l++j4 n)=a2h l*10^n:=by
 induction n with
 |zero=>simp [j4]
 |succ n ih=>
  have:l++j4 (n+1)=l++j4 n++[48]:=by unfold j4;rw [zz12,List.replicate_succ']
  rw [this,a3U,ih,Nat.pow_succ];have:(48:UInt8).toNat - 48=0:=rfl;rw [this,Nat.add_zero,<-Nat.mul_assoc,Nat.mul_comm 10 (a2h l),Nat.mul_assoc,Nat.mul_comm 10,<-Nat.mul_assoc]
theorem a5m {a b:List UInt8} (h:a≠[]):(a++b).head? =a.head? :=by
 cases a with
 |nil=>exact absurd rfl h
 |cons c l=>rfl
theorem Y0 (u:Nat):a2h (Lib.decDigits u)=u/\(∀c∈Lib.decDigits u,m9 c)/\(0<u->∀c,(Lib.decDigits u).head? =some c->c≠48)/\Lib.decDigits u≠[]:=by
 induction u using Nat.strongRecOn with
 | ind u ih=>
  have tn:∀i,i<10->(UInt8.ofNat (48+i)).toNat=48+i:=fun i hi=>by
   show (48+i)%256=48+i;omega
  rw [Lib.decDigits];split
  ·rename_i h
   refine ⟨?_, ?_, ?_,by simp⟩
   ·show 10*0+_=u;rw [tn u h];omega
   ·intro c hc;rw [List.mem_singleton.1 hc];unfold m9;rw [tn u h];omega
   intro h0 c hc;have hc:UInt8.ofNat (48+u)=c:=Option.some.inj hc;subst hc;intro e;have e2:(UInt8.ofNat (48+u)).toNat=48:=congrArg UInt8.toNat e;rw [tn u h] at e2;omega
  rename_i h
  obtain ⟨i1,i2,i3,i4⟩:=ih (u / 10) (by omega);refine ⟨?_, ?_, ?_,by simp⟩
  ·rw [a3U,i1,tn _ (by omega)];omega
  ·intro c hc;rcases zz14 hc with hc|hc
   ·exact i2 c hc
   rw [List.mem_singleton.1 hc];unfold m9;rw [tn _ (by omega)];omega
  intro _ c hc;rw [a5m i4] at hc;exact i3 (by omega) c hc
theorem a2P (l:List UInt8):l=l.take (v6 l)++j4 (l.length - v6 l):=by
 suffices∀r:List UInt8,r.reverse=r.reverse.take (v6 r.reverse)++j4 (r.reverse.length - v6 r.reverse) by
  have:=this l.reverse;rwa [List.reverse_reverse] at this
 intro r
 induction r with
 |nil=>rfl
 | cons c r ih=>
  rw [List.reverse_cons,a1W];by_cases hc:c=48
  ·subst hc;rw [if_pos rfl];have hle:=a1t r.reverse;rw [List.take_append_of_le_length hle];have:(r.reverse++[48]).length - v6 r.reverse=(r.reverse.length - v6 r.reverse)+1:=by simp at hle⊢;omega
   rw [this];have z:j4 (r.reverse.length - v6 r.reverse+1)=j4 (r.reverse.length - v6 r.reverse)++[48]:=by unfold j4;rw [List.replicate_succ']
   rw [z,<-zz12,<-ih]
  rw [if_neg hc];rw [List.take_of_length_le (by simp)];simp [j4]
theorem a8Q (l:List UInt8):v6 (l.take (v6 l))=(l.take (v6 l)).length:=by
 have h:=a2P l;have h2:=a2O (l.take (v6 l)) (l.length - v6 l);rw [<-h] at h2;rw [<-h2,List.length_take,Nat.min_eq_left (a1t l)]
def M3 (d:Nat):List UInt8:=(Lib.decDigits d).take (v6 (Lib.decDigits d))
theorem a4z (d:Nat) (h:0<d):Q6 (M3 d)/\M3 d≠[]/\(M3 d).length<=(Lib.decDigits d).length/\d=a2h (M3 d)*10^((Lib.decDigits d).length - (M3 d).length):=by
 obtain ⟨h1,h2,h3,h4⟩:=Y0 d;have hs:=a2P (Lib.decDigits d);have hlen:(M3 d).length=v6 (Lib.decDigits d):=by unfold M3;rw [List.length_take,Nat.min_eq_left (a1t _)]
 have hd:d=a2h (M3 d)*10^((Lib.decDigits d).length - (M3 d).length):=by
  rw [hlen];have:=a6G (M3 d) ((Lib.decDigits d).length - v6 (Lib.decDigits d));rw [<-this];unfold M3;rw [<-hs,h1]
 have hne:M3 d≠[]:=fun e=>by
  rw [e] at hd;have:a2h []=0:=rfl;rw [this] at hd;omega
 refine ⟨⟨fun c hc=>h2 c (List.mem_of_mem_take hc),fun c hc=>h3 h c ?_,a8Q _⟩,hne,by rw [hlen];exact a1t _,hd⟩;rw [hs];show (M3 d++_).head? =some c;rw [a5m hne];exact hc
def A2 (b:Nat):List UInt8:=
 if b%2^63 / 2^52=2047 then (if b%2^52≠0 then [78,97,78] else if b / 2^63≠0 then [45,73,110,102] else [43,73,110,102])
 else if b%2^63=0 then P7 (decide (b / 2^63≠0)) [] 0
 else P7 (decide (b / 2^63≠0)) (M3 (z8 (mOf (b%2^63)) (eOf (b%2^63))).1) ((Lib.decDigits (z8 (mOf (b%2^63)) (eOf (b%2^63))).1).length+(z8 (mOf (b%2^63)) (eOf (b%2^63))).2)
theorem a5n (r:Nat) (h1:1<=r) (h2:r<2047*2^52):9223372036854775808<=mOf r/\mOf r<18446744073709551616/\ -1137<=eOf r/\eOf r<=960/\(p6 (mOf r) (eOf r)).mx<18446744073709551616:=by
 have W:W64=18446744073709551616:=rfl
 have fin:∀{M z:Nat} {e p:Int},Gen r M z e p-> -1137<=e->e<=960->9223372036854775808<=mOf r/\mOf r<18446744073709551616/\ -1137<=eOf r/\eOf r<=960/\(p6 (mOf r) (eOf r)).mx<18446744073709551616:=by
  intro M z e p hg a b;have h3:=hg.hW;rw [W] at h3;rw [hg.hm,hg.he,hg.hc];exact ⟨hg.hM,Nat.lt_of_le_of_lt (Nat.le_add_right _ _) h3,a,b,h3⟩
 by_cases hs:r<2^52
 ·have hb0:r≠0:=by omega
  have l3:r.log2<52:=(Nat.log2_lt hb0).2 hs;exact fin (a2v r _ (Nat.log2_self_le hb0) Nat.lt_log2_self l3) (by omega) (by omega)
 obtain ⟨k,hk⟩:∃k,r / 2^52=k:=⟨_,rfl⟩;obtain ⟨f,hf⟩:∃f,r%2^52=f:=⟨_,rfl⟩;have hb:r=k*2^52+f:=by omega
 by_cases ht:k=1\/f≠0
 ·have hg:=a0W k f (by omega) (by omega) ht;rw [<-hb] at hg;exact fin hg (by omega) (by omega)
 have hm:a2G r=2^52:=by unfold a2G;rw [hk,hf,if_neg (by omega)];omega
 have hl:(2^52:Nat).log2=52:=a2u (by omega) (by omega);have hsh:sh r=11:=by unfold sh;rw [hm,hl]
 have hmo:mOf r=9223372036854775808:=by unfold mOf;rw [hm,hsh]
 have heo:eOf r=(k:Int) - 1086:=by
  unfold eOf a95;rw [hk,hsh,if_neg (by omega)];omega
 rw [hmo,heo];refine ⟨by omega,by omega,by omega,by omega, ?_⟩;unfold p6;split
 ·show 9223372036854775808+2^10<18446744073709551616;omega
 split
 ·show 9223372036854775808+2^10<18446744073709551616;omega
 omega
theorem b0o (m:Nat) (e:Int) (hm1:m<18446744073709551616) (he0: -1137<=e) (he1:e<=960) (hmx:(p6 m e).mx<18446744073709551616) (hmn:(p6 m e).mn<=m):
 (z8 m e).1<10^19/\ -348<=(z8 m e).2/\(z8 m e).2<=349/\ -(p6 m e).p<=(z8 m e).2:=by
 obtain ⟨a,b,c,d,o⟩:=b2p m e he0 he1;have hp:=b4m ((p6 m e).p+348).toNat (by omega);have hs:1<=sOf e (p6 m e).p:=by unfold sOf;omega
 have u:=fun x (hx:x<18446744073709551616)=>a45 x (M9 (p6 m e).p) (N9 (p6 m e).p) (sOf e (p6 m e).p) hx hp.2.1 hs;have u1:=u (p6 m e).mn (by omega);have u2:=u (p6 m e).mx hmx;have u3:=u m hm1;have e1:A3 m e<=2305843009213693955:=by unfold A3;simp only;omega
 have e2:A4 m e<=2305843009213693955:=by unfold A4;simp only;omega
 have e3:rnd (usc m (M9 (p6 m e).p) (N9 (p6 m e).p) (sOf e (p6 m e).p))<=2305843009213693955:=by unfold rnd;omega
 unfold z8;simp only;split
 ·simp only;omega
 split
 ·simp only;omega
 simp only;omega
theorem b4v (m:Nat) (e:Int):(p6 m e).mn<=m:=by
 unfold p6;split
 ·exact Nat.sub_le _ _
 split<;>exact Nat.sub_le _ _
theorem b2P (r:Nat) (h1:1<=r) (h2:r<2047*2^52):0<N0 r:=by
 rcases Nat.lt_or_ge 1 r with h|h
 ·have:=a6A 1 (r - 2) (by omega) (by omega);rw [show 1+(r - 2)+1=r by omega] at this;omega
 have:r=1:=by omega
 subst this;decide+kernel
structure b39 (r d:Nat) (p:Int):Prop where
 is:z8 (mOf r) (eOf r)=(d,p)
 pos:0<d
 lt:d<10^19
 lo: -348<=p
 hi:p<=349
 p324: -324<=p
theorem a5o (r:Nat) (h1:1<=r) (h2:r<2047*2^52):∃d p,b39 r d p:=by
 obtain ⟨a,b,c,d,e⟩:=a5n r h1 h2;obtain ⟨f,g,h,i⟩:=b0o (mOf r) (eOf r) b c d e (b4v _ _);refine ⟨(z8 (mOf r) (eOf r)).1,(z8 (mOf r) (eOf r)).2,rfl, ?_,f,g,h, ?_⟩
 ·have:=b2P r h1 h2;unfold N0 at this;rcases Nat.eq_zero_or_pos (z8 (mOf r) (eOf r)).1 with hz|hz
  ·simp only at this;rw [hz,Nat.zero_mul] at this;omega
  exact hz
 have hp:(p6 (mOf r) (eOf r)).p<=324:=by
  unfold p6;split
  ·simp only;unfold a1X;omega
  split
  ·simp only;unfold M6;omega
  simp only;rw [show eOf r+(11+(-1085 - eOf r))= -1074 by omega];decide
 omega
theorem a75 (d:Nat) (h:d<10^19):Lib.nDigits d<=19:=by
 rcases Nat.lt_or_ge 19 (Lib.nDigits d) with hl|hl
 ·exfalso;have hne:=(Y0 d).2.2.2
  have key:∀(k u:Nat),k<Lib.nDigits u->0<u->10^k<=u:=by
   intro k
   induction k with
   |zero=>intro u _ hu;rw [Nat.pow_zero];exact hu
   | succ k ih=>
    intro u hk hu;by_cases h10:u<10
    ·rw [Lib.nDigits_small h10] at hk;omega
    rw [Lib.nDigits_big h10] at hk;have:=ih (u / 10) (by omega) (by omega);rw [Nat.pow_succ];omega
  have hd:0<d:=by
   rcases Nat.eq_zero_or_pos d with h0|h0
   ·rw [h0] at hl;rw [Lib.nDigits_small (by omega)] at hl;omega
   exact h0
  have:=key 19 d hl hd;omega
 exact hl
def dpT (r:Nat):Int:=(Lib.decDigits (z8 (mOf r) (eOf r)).1).length+(z8 (mOf r) (eOf r)).2
theorem b0p (r:Nat) {d:Nat} {p:Int} (h:b39 r d p):N0 r=a2h (M3 d)*10^(324+(dpT r - (M3 d).length)).toNat:=by
 obtain ⟨h1,h2,h3,h4⟩:=a4z d h.pos;have hp:=h.p324;unfold N0 dpT;rw [h.is];simp only;rw [show (324+((Lib.decDigits d).length+p - (M3 d).length)).toNat=((Lib.decDigits d).length - (M3 d).length)+(324+p).toNat by omega,Nat.pow_add,<-Nat.mul_assoc,<-h4]
theorem a8R {neg:Bool} {ds:List UInt8} {dp:Int} (h:Q6 ds):(∃c r,P7 neg ds dp=c::r/\m9 c/\neg=false)\/(∃c r,P7 neg ds dp=45::c::r/\m9 c/\neg=true):=by
 rw [a2x];obtain ⟨c,r,h1,h2⟩:=a0c (dp:=dp) h;rw [h1];cases neg
 ·exact .inl ⟨c,r,rfl,h2,rfl⟩
 exact .inr ⟨c,r,rfl,h2,rfl⟩
inductive Way (b:Nat):Prop
 |nan (h1:b%2^63 / 2^52=2047) (h2:b%2^52≠0) (h:A2 b=[78,97,78])
 |minf (h1:b%2^63 / 2^52=2047) (h2:b%2^52=0) (h3:b / 2^63≠0) (h:A2 b=[45,73,110,102])
 |pinf (h1:b%2^63 / 2^52=2047) (h2:b%2^52=0) (h3:b / 2^63=0) (h:A2 b=[43,73,110,102])
 |fin (h1:b%2^63 / 2^52≠2047) (ds:List UInt8) (dp:Int) (hc:Q6 ds) (hz:ds=[]↔b%2^63=0) (h0:ds=[]->dp=0) (hr: -400<=dp/\dp<=400)
  (hv:b%2^63≠0->N0 (b%2^63)=a2h ds*10^(324+(dp - ds.length)).toNat) (h:A2 b=P7 (decide (b / 2^63≠0)) ds dp) (hlen:ds.length<=19)
theorem a1z (b:Nat):Way b:=by
 by_cases h1:b%2^63 / 2^52=2047
 ·by_cases h2:b%2^52≠0
  ·exact .nan h1 h2 (by unfold A2;rw [if_pos h1,if_pos h2])
  by_cases h3:b / 2^63≠0
  ·exact .minf h1 (by omega) h3 (by unfold A2;rw [if_pos h1,if_neg h2,if_pos h3])
  exact .pinf h1 (by omega) (by omega) (by unfold A2;rw [if_pos h1,if_neg h2,if_neg h3])
 by_cases h0:b%2^63=0
 ·exact .fin h1 [] 0 ⟨fun c hc=>absurd hc (by simp),fun c hc=>(by cases hc),rfl⟩ ⟨fun _=>h0,fun _=>rfl⟩ (fun _=>rfl) (by omega) (fun h=>absurd h0 h) (by unfold A2;rw [if_neg h1,if_pos h0]) (by decide)
 obtain ⟨d,p,hs⟩:=a5o (b%2^63) (by omega) (by omega);have hd:=a4z d hs.pos;have hn:=a75 d hs.lt;have hn1:=Lib.nDigits_pos d;have e1:(z8 (mOf (b%2^63)) (eOf (b%2^63))).1=d:=by rw [hs.is]
 have e2:(z8 (mOf (b%2^63)) (eOf (b%2^63))).2=p:=by rw [hs.is]
 have hl:=Lib.decDigits_length d
 refine .fin h1 (M3 d) (dpT (b%2^63)) hd.1 ⟨fun h=>absurd h hd.2.1,fun h=>absurd h h0⟩ (fun h=>absurd h hd.2.1) ?_ (fun _=>b0p _ hs) ?_ (by
  have:=hd.2.2.1
  omega)
 ·have:=hs.lo;have:=hs.hi;unfold dpT;rw [e1,e2,hl];omega
 unfold A2 dpT;rw [if_neg h1,if_neg h0,e1,e2]
theorem b2Q {a b:Nat} (ha:a<2^64) (hb:b<2^64) (na:a%2^63 / 2^52=2047->a%2^52≠0->a=9221120237041090561) (nb:b%2^63 / 2^52=2047->b%2^52≠0->b=9221120237041090561)
 (za:a%2^63=0->a=0) (zb:b%2^63=0->b=0) (h:A2 a=A2 b):a=b:=by
 have nd1:¬m9 78:=by unfold m9;decide
 have nd2:¬m9 73:=by unfold m9;decide
 have nd3:¬m9 43:=by unfold m9;decide
 have nd4:¬m9 45:=by unfold m9;decide
 have N3:∀{neg:Bool} {ds:List UInt8} {dp:Int},Q6 ds->P7 neg ds dp≠[78,97,78]/\P7 neg ds dp≠[45,73,110,102]/\P7 neg ds dp≠[43,73,110,102]:=by
  intro neg ds dp hc;rcases a8R (neg:=neg) (dp:=dp) hc with ⟨c,r,h1,h2, -⟩|⟨c,r,h1,h2, -⟩
  ·rw [h1];refine ⟨fun h=> ?_,fun h=> ?_,fun h=> ?_⟩<;>simp at h<;>rw [h.1] at h2
   ·exact nd1 h2
   ·exact nd4 h2
   exact nd3 h2
  rw [h1];refine ⟨fun h=> ?_,fun h=> ?_,fun h=> ?_⟩<;>simp at h;rw [h.1] at h2;exact nd2 h2
 rcases a1z a with ⟨a1,a2,at'⟩|⟨a1,a2,a3,at'⟩|⟨a1,a2,a3,at'⟩|⟨a1,ds,dp,ac,az,a0,ar,av,at'⟩<;>
 rcases a1z b with ⟨b1,b2,bt⟩|⟨b1,b2,b3,bt⟩|⟨b1,b2,b3,bt⟩|⟨b1,es,ep,bc,bz,b0,br,bv,bt⟩<;>
 rw [at',bt] at h
 ·rw [na a1 a2,nb b1 b2]
 ·simp at h
 ·simp at h
 ·exact absurd h.symm (N3 bc).1
 ·simp at h
 ·omega
 ·simp at h
 ·exact absurd h.symm (N3 bc).2.1
 ·simp at h
 ·simp at h
 ·omega
 ·exact absurd h.symm (N3 bc).2.2
 ·exact absurd h (N3 ac).1
 ·exact absurd h (N3 ac).2.1
 ·exact absurd h (N3 ac).2.2
 obtain ⟨h1,h2,h3⟩:=b2O ac bc a0 b0 ar br h;subst h2 h3
 have hs:a / 2^63=b / 2^63:=by
  by_cases x:a / 2^63=0<;>by_cases y:b / 2^63=0<;>simp [x,y] at h1<;>omega
 by_cases hz:ds=[]
 ·rw [za (az.1 hz),zb (bz.1 hz)]
 have hza:a%2^63≠0:=fun e=>hz (az.2 e);have hzb:b%2^63≠0:=fun e=>hz (bz.2 e);have:=b2I (a%2^63) (b%2^63) (by omega) (by omega) (by omega) (by omega) ((av hza).trans (bv hzb).symm);omega
end
section
open Go.RowKit
theorem a2Q (x:Nat) (w:World):(callFunc 226 #[.float .f64 x]).run Tryz.prog w= .ok (.value (.int .u64 x)) w:=by
 rw [run_callFunc_extern Tryz.func226 (by kernel_rfl) (by kernel_rfl) (by kernel_rfl) (e:=Extern.MathFloatBits.float64bits) (by kernel_rfl) _ w];rfl
theorem a76 (n k:Nat) (hk:k<64) (hn:n<18446744073709551616):bits .and .u64 (n:Int) ((2^k - 1:Nat):Int)=((n%2^k:Nat):Int):=by
 have hp:2^k<2^64:=Nat.pow_lt_pow_right (by decide) hk;have hp0:0<2^k:=Nat.two_pow_pos k
 have h1:(BitVec.ofInt 64 ((2^k - 1:Nat):Int)).toNat=2^k - 1:=by
  rw [BitVec.toNat_ofInt];omega
 have h2:(BitVec.ofInt 64 (n:Int)).toNat=n:=by
  rw [BitVec.toNat_ofInt];omega
 have key:(BitVec.ofInt 64 (n:Int)&&&BitVec.ofInt 64 ((2^k - 1:Nat):Int)).toNat=n%2^k:=by
  rw [BitVec.toNat_and,h1,h2,Nat.and_two_pow_sub_one_eq_mod]
 have hlt:n%2^k<2^k:=Nat.mod_lt _ hp0;show IntKind.u64.wrap ((BitVec.ofInt 64 (n:Int)&&&BitVec.ofInt 64 ((2^k - 1:Nat):Int)).toNat:Int)=_;rw [key,wrap_u64];omega
theorem b4w (n:Nat) (hn:n<4503599627370496):bits .or .u64 (n:Int) 4503599627370496=((n+4503599627370496:Nat):Int):=by
 have h1:(BitVec.ofInt 64 (4503599627370496:Int)).toNat=2^52:=by decide
 have h2:(BitVec.ofInt 64 (n:Int)).toNat=n:=by
  rw [BitVec.toNat_ofInt];omega
 have key:(BitVec.ofInt 64 (n:Int)|||BitVec.ofInt 64 (4503599627370496:Int)).toNat=n+4503599627370496:=by
  rw [BitVec.toNat_or,h1,h2,Nat.or_comm];have h:=Nat.two_pow_add_eq_or_of_lt (i:=52) hn 1;rw [Nat.mul_one] at h;omega
 show IntKind.u64.wrap ((BitVec.ofInt 64 (n:Int)|||BitVec.ofInt 64 (4503599627370496:Int)).toNat:Int)=_;rw [key,wrap_u64];omega
theorem b4x (d:Nat):d<10^Lib.nDigits d:=by
 induction d using Nat.strongRecOn with
 | ind d ih=>
  by_cases h:d<10
  ·rw [Lib.nDigits_small h];omega
  rw [Lib.nDigits_big h,Nat.pow_succ];have:=ih (d / 10) (by omega);omega
def a2R (F:Nat->Prop) (w:World) (t:List UInt8) (e:Ending) (w':World):Prop:=∃v',e= .returned v'/\Buf F w w' v' t
theorem a6H:∀(f m:Nat),0<m->m<2^f->Lib.bitLenAux f m=m.log2+1:=by
 intro f
 induction f with
 |zero=>intro m h1 h2;omega
 | succ f ih=>
  intro m h1 h2;rw [Lib.bitLenAux,if_neg (by omega)];rcases Nat.lt_or_ge m 2 with h3|h3
  ·have:m=1:=by omega
   subst this;cases f<;>rfl
  have hk0:m / 2≠0:=by omega
  rw [ih (m / 2) (by omega) (by rw [Nat.pow_succ] at h2;omega)];have a:=Nat.log2_self_le hk0;have c:=@Nat.lt_log2_self (m / 2);have:=@a2u m ((m / 2).log2+1) (by rw [Nat.pow_succ];omega) (by rw [Nat.pow_succ];omega);omega
theorem a6I (m:Nat) (h:0<m) (h2:m<2^64):Lib.bitLen m=m.log2+1:=a6H 64 m h h2
theorem a77 {b:Nat} {neg:Bool} (h:((b:Int) / 9223372036854775808 !=0)=neg):decide (b / 2^63≠0)=neg:=by
 rw [<-h,Bool.eq_iff_iff,decide_eq_true_eq,bne_iff_ne];omega
theorem b2R (w:World) (hw:Lays w) (F:Nat->Prop) (v:Value) (b:Nat) (hb64:b<18446744073709551616) (hfin:b / 4503599627370496%2048<2047) (hb:Buf F w w v []) (hF:∀g,g<16->¬F g) (hFn:∀g,w.heap.size<=g->¬F g):
 Calls Tryz.prog 203 #[v,.float .f64 b,.int .u8 103,.int .i64 (-1)] w (a2R F w (A2 b)):=by
 obtain ⟨ad,cap,rfl, -⟩:=hb.own.shape;have hs:=a2Q b w;obtain ⟨ex,hex⟩:∃ex,b / 4503599627370496%2048=ex:=⟨_,rfl⟩;obtain ⟨mt,hmt⟩:∃mt,b%4503599627370496=mt:=⟨_,rfl⟩;obtain ⟨neg,hng⟩:∃neg,((b:Int) / 9223372036854775808 !=0)=neg:=⟨_,rfl⟩
 have e1:bits .and .i64 ((b:Int) / 4503599627370496) 2047=ex:=by
  have h:=a1r ((b:Int) / 4503599627370496) 11 (by decide);rw [<-hex];refine h.trans ?_;show (b:Int) / 4503599627370496%(2048:Int)=_;omega
 have e2:bits .and .u64 (b:Int) 4503599627370495=mt:=by
  have h:=a76 b 52 (by decide) hb64;rw [<-hmt];exact h
 have hexl:ex<2048:=by omega
 have hmtl:mt<4503599627370496:=by omega
 rw [hex] at hfin;have hf1:¬((ex:Int)=2047):=by omega
 have hf2:((ex:Int)==2047)=false:=by rw [beq_eq_false_iff_ne];exact hf1
 obtain ⟨t,htt⟩:∃t,A2 b=t:=⟨_,rfl⟩;rw [htt];have hr1:b%2^63 / 2^52=ex:=by omega
 have hr2:b%2^63%2^52=mt:=by omega
 obtain ⟨Hb,Hw,Hex,Hmt,Htt,Hr1,Hr2,HF,HFn⟩:=zh9 hb hw hex hmt htt hr1 hr2 hF hFn;clear hb hw hex hmt htt hr1 hr2 hF hFn
 go_enter Tryz.func203,Tryz.ntmps203
 go_wp2_with fail
 go_quiet (fail)
 go_upto_if 78 with fail
 go_cut [14,15] from 78 to 84 (fun ev mv wx=>ev= .int .i64 (if ex=0 then 1 else ex:Nat)/\mv= .int .u64 (if ex=0 then mt else mt+4503599627370496:Nat)/\Mod (fun _=>False) w wx)
 case first=>
  by_cases h0:ex=0
  ·have h0':((ex:Int)==0)=true:=by rw [beq_iff_eq];omega
   have i1:(ex:Int)+1=((if ex=0 then 1 else ex:Nat):Int):=by rw [if_pos h0];omega
   have i2:(if ex=0 then mt else mt+4503599627370496:Nat)=mt:=if_pos h0;obtain ⟨I1,I2⟩:=zh2 i1 i2;clear i1 i2 h0
   go_wp2_with fail
   go_meet
   case rel=>exact ⟨a0r I1.out,a0r (by rw [I2.out]),(Mod.refl _ _).drewN _⟩
  have h0':((ex:Int)==0)=false:=by rw [beq_eq_false_iff_ne];omega
  have i1:(ex:Int)=((if ex=0 then 1 else ex:Nat):Int):=by rw [if_neg h0]
  have i2:((if ex=0 then mt else mt+4503599627370496:Nat):Int)=((mt+4503599627370496:Nat):Int):=by rw [if_neg h0]
  have i3:=b4w mt hmtl;obtain ⟨I1,I2⟩:=zh2 i1 i2;clear i1 i2 h0
  go_wp2_with fail
  go_meet
  case rel=>exact ⟨a0r I1.out,a0r (by rw [I2.out];omega),(Mod.refl _ _).drewN _⟩
 case rest=>
  obtain ⟨rfl,rfl,hmc⟩:=hcut;obtain ⟨w0,rfl⟩:∃w0:World,w0=wc:=⟨_,rfl⟩;obtain ⟨ee,hee⟩:∃ee:Nat,(if ex=0 then 1 else ex:Nat)=ee:=⟨_,rfl⟩;obtain ⟨m,hm⟩:∃m:Nat,(if ex=0 then mt else mt+4503599627370496:Nat)=m:=⟨_,rfl⟩;have hee1:1<=ee/\ee<2047:=by rw [<-hee];split<;>omega
  have hm1:m<9007199254740992:=by rw [<-hm];split<;>omega
  rw [hee,hm];obtain ⟨hee2,hee3⟩:=hee1;have hb0:=Hb.out.rebase hmc;have hw0:=Hw.out.mod0 hmc;have hee4:(1:Int)<=ee:=by omega
  obtain ⟨Hee,Hm,Hmc,Hb0,Hw0⟩:=zh5 hee hm hmc hb0 hw0;clear hee hm hmc hb0 hw0 Hb Hw;by_cases h0:m=0
  ·have h0':((m:Int)==0)=true:=by rw [beq_iff_eq];omega
   have hz:=Lib.hid (b2J F w0 (.slice ad 0 cap) neg Hb0.out);have Hh0:=zh h0;clear h0
   go_wp2_with fail
   refine hz.out.mono ?_;rintro x w1 ⟨v1,rfl,hb1⟩
   go_wp2
   go_ret;refine ⟨v1,rfl, ?_⟩
   have h2:A2 b=y9 neg++[48]:=by
    have h3:=Hm.out;have h4:=Hh0.out;have h5:=Hr1.out;have h6:=Hr2.out
    have h7:ex=0:=by
     by_cases h:ex=0
     ·exact h
     rw [if_neg h] at h3;omega
    rw [if_pos h7] at h3;unfold A2;rw [a77 hng,if_neg (by omega),if_pos (by omega)];rfl
   rw [<-Htt.out,h2];exact hb1.under Hmc.out
  have h0':((m:Int)==0)=false:=by rw [beq_eq_false_iff_ne];omega
  have hbl:=fun wx=>Tryz.bits_Len64 (m:Int) wx (by omega) (by omega);rw [Int.toNat_natCast,a6I m (by omega) (by omega)] at hbl;have hl52:m.log2<=52:=Nat.le_of_lt_succ ((Nat.log2_lt (by omega)).2 (by omega));obtain ⟨L,hL⟩:∃L,m.log2+1=L:=⟨_,rfl⟩;rw [hL] at hbl;have hL1:1<=L:=by omega
  have hL53:L<=53:=by omega
  have hmt2:=Hr2.out;have hex2:=Hr1.out;have hm2:=Hm.out;have hee2:=Hee.out;obtain ⟨r,hr⟩:∃r,b%2^63=r:=⟨_,rfl⟩;rw [hr] at hmt2 hex2
  have hmant:a2G r=m:=by
   unfold a2G;rw [hex2,hmt2,<-hm2];split
   ·omega
   rfl
  have hsh:sh r=64 - L:=by unfold sh;rw [hmant];omega
  have hM:mOf r=m*2^(64 - L):=by unfold mOf;rw [hmant,hsh]
  have hE:eOf r=(ee:Int)+ -1023 - (64 - (L:Int)) - 52:=by
   unfold eOf a95;rw [hex2,hsh,hee2];omega
  have hr1:1<=r:=by
   rcases Nat.eq_zero_or_pos r with h|h
   ·exfalso;subst h;unfold a2G at hmant;simp at hmant;omega
   exact h
  have hr2:r<2047*2^52:=by omega
  obtain ⟨p1,p2,p3,p4,p5⟩:=a5n r hr1 hr2;obtain ⟨d,p,hs⟩:=a5o r hr1 hr2;have hsw:=fun wx hx=>b2q wx hx (mOf r) (eOf r) p1 p2 p3 p4 p5;rw [hs.is] at hsw
  have hMw:IntKind.u64.wrap ((m:Int)*2^(64 - L))=(mOf r:Nat):=by
   rw [wrap_u64,hM]
   have:((m*2^(64 - L):Nat):Int)=(m:Int)*2^(64 - L):=by
    rw [Int.natCast_mul,Int.natCast_pow];rfl
   rw [<-this,<-hM];omega
  obtain ⟨M,hMM⟩:∃M,mOf r=M:=⟨_,rfl⟩;obtain ⟨E,hEE⟩:∃E,eOf r=E:=⟨_,rfl⟩;rw [hEE] at hE hsw;rw [hMM] at hMw hsw;obtain ⟨wa,hwa⟩:∃wa:World,w0.alloc (.cells #[.int .u8 0,.int .u8 0,.int .u8 0,.int .u8 0,.int .u8 0,.int .u8 0,.int .u8 0,.int .u8 0,.int .u8 0,.int .u8 0,.int .u8 0,.int .u8 0,.int .u8 0,.int .u8 0,.int .u8 0,.int .u8 0,.int .u8 0,.int .u8 0,.int .u8 0,.int .u8 0,.int .u8 0,.int .u8 0,.int .u8 0,.int .u8 0,.int .u8 0,.int .u8 0,.int .u8 0,.int .u8 0,.int .u8 0,.int .u8 0,.int .u8 0,.int .u8 0] 286)=wa:=⟨_,rfl⟩;have hm1:Mod (fun _=>False) w0 wa:=hwa▸(Mod.refl (fun _=>False) w0).alloc _;have hg1:wa.heap[w0.heap.size]? =some (.cells #[.int .u8 0,.int .u8 0,.int .u8 0,.int .u8 0,.int .u8 0,.int .u8 0,.int .u8 0,.int .u8 0,.int .u8 0,.int .u8 0,.int .u8 0,.int .u8 0,.int .u8 0,.int .u8 0,.int .u8 0,.int .u8 0,.int .u8 0,.int .u8 0,.int .u8 0,.int .u8 0,.int .u8 0,.int .u8 0,.int .u8 0,.int .u8 0,.int .u8 0,.int .u8 0,.int .u8 0,.int .u8 0,.int .u8 0,.int .u8 0,.int .u8 0,.int .u8 0] 286 (0,0)):=hwa▸heap_alloc_new w0 _;have hw1:=Hw0.out.mod0 hm1;have hpos:=hr1;obtain ⟨Hpos,Hbl,HL,Hwa,HM,HE,HMw,HMM,HEE,Hsw,Hs,Hr⟩:=zh12 hpos hbl hL hwa hM hE hMw hMM hEE hsw hs hr;obtain ⟨Hsh,Hmant,Hm1,Hg1,Hw1⟩:=zh5 hsh hmant hm1 hg1 hw1;clear hpos hbl hL hwa hM hE hMw hMM hEE hsw hs hr hsh hmant hm1 hg1 hw1 hl52 p1 p2 p3 p4 p5 hr1 hr2 hmt2 hex2 hm2 hee2
  go_wp2_with (first|(rw [show w0.alloc _=wa from Hwa.out])|fail)
  refine (Hbl.out _).mono ?_;rintro x w1 ⟨rfl,rfl⟩
  go_wp2_with fail
  rw [show IntKind.u64.wrap ((m:Int)*2^(64 - L))=(M:Nat) from HMw.out,show (ee:Int)+ -1023 - (64 - (L:Int)) - 52=E from HE.out.symm];refine (Hsw.out _ Hw1.out).mono ?_;rintro x w2 ⟨rfl,hm2⟩;have hw2:=Hw1.out.mod0 hm2;have hg2:=hm2.heap Hg1.out (fun h=>h);have hdp:=Hs.out.pos;have hdl:=Hs.out.lt;have hplo:=Hs.out.lo;have hphi:=Hs.out.hi;have hnd:=a75 d hdl;have hdt:=a4z d hdp
  have hsd:=fun (wx:World) (hx:Mod (fun _=>False) w2 wx)=>a91 wx w0.heap.size #[.int .u8 0,.int .u8 0,.int .u8 0,.int .u8 0,.int .u8 0,.int .u8 0,.int .u8 0,.int .u8 0,.int .u8 0,.int .u8 0,.int .u8 0,.int .u8 0,.int .u8 0,.int .u8 0,.int .u8 0,.int .u8 0,.int .u8 0,.int .u8 0,.int .u8 0,.int .u8 0,.int .u8 0,.int .u8 0,.int .u8 0,.int .u8 0,.int .u8 0,.int .u8 0,.int .u8 0,.int .u8 0,.int .u8 0,.int .u8 0,.int .u8 0,.int .u8 0] 286 d (Lib.nDigits d) p (hx.heap hg2 (fun h=>h)) (fun j hj=>by
   have:j<32:=hj;rcases j with _|_|_|_|_|_|_|_|_|_|_|_|_|_|_|_|_|_|_|_|_|_|_|_|_|_|_|_|_|_|_|_|j
   all_goals first|rfl|omega) (by omega) rfl (by omega) (b4x d) (by omega)
  have hnum:=fun (wx:World) (hx:Mod (fun _=>False) w2 wx)=>Tryz.internal_strconv_numDigits d (by omega) (by omega) wx (hw2.mod0 hx).u10;obtain ⟨nd,hndd⟩:∃n,Lib.nDigits d=n:=⟨_,rfl⟩;rw [hndd] at hsd hnum hnd;obtain ⟨tn,htn⟩:∃n,v6 (Lib.decDigits d)=n:=⟨_,rfl⟩;rw [htn] at hsd;obtain ⟨Hm2,Hw2,Hg2,Hsd,Hnum,Hndd,Htn,Hdt⟩:=zh8 hm2 hw2 hg2 hsd hnum hndd htn hdt;clear hm2 hw2 hg2 hsd hnum hndd htn hdt hdp hdl
  go_wp2_with fail
  have hS:(fun _:World=>True) w2.drew:=trivial;refine g8 [.rd 0,.rd 1,.rd 2,.rd 3,.go 4,.go 5,.rd 6,.rd 7,.rd 8,.rd 9,.rd 10] [] (fun _:World=>True) (by kernel_rfl) (by kernel_rfl) (fun _ _ d _ _ h=>(by cases d<;>exact h)) ?_
  iterate 4 (
   refine l5 rfl ?_ (fun _=>hS) ?_ (fun w0 h0=> ?_) (fun K hK=> ?_)
   ·(try simp only [zz1]);(try simp only [zz2]);(try simp only [zz3]);go_simp;done
   rotate_left
   ·(try simp only [zz1]);(try simp only [zz2]);(try simp only [zz3])
    first
     |(obtain - :=h0 rfl;clear h0;go_simp;with_reducible rfl)
     |(clear h0;go_simp;with_reducible rfl)
   (try simp only [zz1]);(try simp only [zz2]);(try simp only [zz3])
   go_simp;refine hK _ ?_;clear hK K)
  refine g7 (g9 rfl ?_ (fun K hK=> ?_))
  ·(try simp only [zz1]);(try simp only [zz2]);(try simp only [zz3]);go_simp;done
  (try simp only [zz1]);(try simp only [zz2]);(try simp only [zz3])
  go_wp2_with fail
  refine (Hnum.out _ ((Mod.refl _ _).drew)).mono ?_;rintro x w3 ⟨rfl,rfl⟩;go_simp;refine hK _ _ (fun h=>absurd h (by decide)) ?_;clear hK K;refine g7 (g9 rfl ?_ (fun K hK=> ?_))
  ·(try simp only [zz1]);(try simp only [zz2]);(try simp only [zz3]);go_simp;done
  (try simp only [zz1]);(try simp only [zz2]);(try simp only [zz3])
  go_wp2_with fail
  refine (Hsd.out _ ((Mod.refl _ _).drew)).mono ?_;rintro x w4 ⟨rfl,hd4,hm4⟩
  have hm04:Mod (fun _=>False) w0 w4:=by
   refine Mod.trans (Hm1.out.trans (Hm2.out.drew) (fun _ _ h=>h)) (hm4.mono (G:=fun k=>k=w0.heap.size) (fun _ _ h=>h)) (fun b hb h=> ?_);omega
  have hdT:a0R w4 w0.heap.size (M3 d):=fun j u hu=>by
   refine hd4 j u ?_;unfold M3 at hu;rw [List.getElem?_take] at hu;split at hu
   ·exact hu
   ·cases hu
  have hlen:(M3 d).length=tn:=by
   unfold M3;rw [List.length_take,Htn.out];have:=a1t (Lib.decDigits d);rw [Htn.out] at this;omega
  have hdpT:dpT r=(nd:Int)+p:=by
   unfold dpT;rw [Hs.out.is];simp only;rw [Lib.decDigits_length,Hndd.out]
  have htn0:0<tn:=by
   rw [<-hlen];exact List.length_pos_iff.2 Hdt.out.2.1
  have htn1:tn<=19:=by
   have h1:=Hdt.out.2.2.1;rw [hlen,Lib.decDigits_length,Hndd.out] at h1;omega
  have hefg:=b4t F w4 (.slice ad 0 cap) w0.heap.size neg (M3 d) (dpT r) (Hb0.out.rebase hm04) hdT (HFn.out _ Hmc.out.size) (by omega) (by omega) (by rw [hdpT];omega);rw [hlen,hdpT] at hefg;obtain ⟨Hm04,Hefg,Hlen,HdpT,Hd4,Hm4,HdT⟩:=zh7 hm04 hefg hlen hdpT hd4 hm4 hdT;clear hm04 hefg hlen hdpT hd4 hm4 hdT;go_simp;refine hK _ _ (fun h=>absurd h (by decide)) ?_;clear hK K;have hS:(fun _:World=>True) w4:=trivial
  iterate 5 (
   refine l5 rfl ?_ (fun _=>hS) ?_ (fun w0 h0=> ?_) (fun K hK=> ?_)
   ·(try simp only [zz1]);(try simp only [zz2]);(try simp only [zz3]);go_simp;done
   rotate_left
   ·(try simp only [zz1]);(try simp only [zz2]);(try simp only [zz3])
    first
     |(obtain - :=h0 rfl;clear h0;go_simp;with_reducible rfl)
     |(clear h0;go_simp;with_reducible rfl)
   (try simp only [zz1]);(try simp only [zz2]);(try simp only [zz3])
   go_simp;refine hK _ ?_;clear hK K)
  refine j8 ?_
  go_wp2_with fail
  refine Hefg.out.mono ?_;rintro x w5 ⟨v5,rfl,hb5⟩;have Hb5:=zh hb5;clear hb5
  go_wp2
  go_ret;refine ⟨v5,rfl, ?_⟩;have h1:=(Hb5.out.under Hm04.out).under Hmc.out
  have h2:A2 b=P7 neg (M3 d) (nd+p):=by
   have hz:=Hr.out;have hp1:=Hpos.out;unfold A2;rw [a77 hng,if_neg (by have:=Hr1.out;omega),if_neg (by omega),hz,Hs.out.is];simp only;rw [Lib.decDigits_length,Hndd.out]
  rw [<-Htt.out,h2];exact h1
end
end Go.Proofs.YtaenebdppkjhoaaGreatDoor
