/- Lemmas. -/
import Derived.Test.YtebhabpahfmodaaGreatDoorZh14
import Derived.Test.YtebhabpahfmodaaGreatDoorZh12
import Derived.Lib.ItoaNum
import Derived.Test.YtebhabpahfmodaaGreatDoorZh3
set_option maxHeartbeats 40000000
set_option maxRecDepth 20000
namespace Go.Proofs.YtebhabpahfmodaaGreatDoor
def o8 (c:UInt8):Prop:=48<=c.toNat/\c.toNat<=57
structure U7 (ds:List UInt8):Prop where
 dig:∀c∈ds,o8 c
 fst:∀c,ds.head? =some c->c≠48
 lst:A0 ds=ds.length
def J9 (ds:List UInt8) (dp:Int):List UInt8:=U6 false ds dp
theorem a3m (neg:Bool) (ds:List UInt8) (dp:Int):U6 neg ds dp=A5 neg++J9 ds dp:=by
 unfold J9 U6 A5;cases neg<;>simp only [Bool.false_eq_true,if_false,if_true,List.nil_append,zz12]<;>repeat' split
 all_goals rfl
def a7L (l:List UInt8):Int:=
 match l with
 |45::r=> -(r.foldl (fun a c=>10*a+(c.toNat - 48)) 0:Nat)
 |_::r=>(r.foldl (fun a c=>10*a+(c.toNat - 48)) 0:Nat)
 |[]=>0
theorem b1G:(List.range 1001).all (fun i=>decide (a7L (S3 ((i:Int) - 500))=(i:Int) - 500))=true:=by decide+kernel
theorem a9k (x:Int) (h: -500<=x/\x<=500):a7L (S3 x)=x:=by
 have:=of_decide_eq_true (zz15 b1G (x+500).toNat (List.mem_range.2 zo));rw [show (((x+500).toNat:Nat):Int) - 500=x by omega] at this;exact this
def b1H (L:List UInt8):List UInt8:=(L.dropWhile (· ==48)).take (A0 (L.dropWhile (· ==48)))
def a4z (t:List UInt8):List UInt8×Int:=
 let pre:=t.takeWhile (· !=101)
 let x:=a7L ((t.dropWhile (· !=101)).drop 1)
 let i:=pre.takeWhile (· !=46)
 let L:=i++(pre.dropWhile (· !=46)).drop 1
 (b1H L,i.length - (L.takeWhile (· ==48)).length+x)
theorem Y3 {c:UInt8} (h:o8 c) (k:UInt8) (hk:k=101\/k=46\/k=45):(c !=k)=true:=by
 rw [bne_iff_ne];rintro rfl;unfold o8 at h;rcases hk with rfl|rfl|rfl<;>revert h<;>decide
theorem a3F:o8 48:=by unfold o8;decide
theorem a0I (n:Nat):∀c∈l6 n,o8 c:=fun c hc=>by rw [(List.mem_replicate.1 hc).2];exact a3F
theorem V9 {l:List UInt8} (k:UInt8) (hk:k=101\/k=46\/k=45) (h:∀c∈l,o8 c) (r:List UInt8):(l++r).takeWhile (· !=k)=l++r.takeWhile (· !=k):=
 List.takeWhile_append_of_pos fun c hc=>Y3 (h c hc) k hk
theorem W0 {l:List UInt8} (k:UInt8) (hk:k=101\/k=46\/k=45) (h:∀c∈l,o8 c) (r:List UInt8):(l++r).dropWhile (· !=k)=r.dropWhile (· !=k):=
 List.dropWhile_append_of_pos fun c hc=>Y3 (h c hc) k hk
theorem a3G (l:List UInt8) (n:Nat):A0 (l++l6 n)=A0 l:=by
 induction n with
 |zero=>simp [l6]
 |succ n ih=>
  have:l++l6 (n+1)=l++l6 n++[48]:=by unfold l6;rw [zz12,List.replicate_succ']
  rw [this,a2F,if_pos rfl,ih]
theorem a7M {ds:List UInt8} (h:U7 ds) (hne:ds≠[]) (r:List UInt8) (k:Nat):(l6 k++(ds++r)).dropWhile (· ==48)=ds++r/\((l6 k++(ds++r)).takeWhile (· ==48)).length=k:=by
 have hz:∀c∈l6 k,(c==48)=true:=fun c hc=>by rw [(List.mem_replicate.1 hc).2];rfl
 rw [List.dropWhile_append_of_pos hz,List.takeWhile_append_of_pos hz]
 cases ds with
 |nil=>exact absurd rfl hne
 |cons c l=>
  have:=h.fst c rfl;have hc:(c==48)=false:=by rw [beq_eq_false_iff_ne];exact this
  rw [List.cons_append,List.dropWhile_cons,List.takeWhile_cons,hc];simp [l6]
theorem O3 {ds:List UInt8} (h:U7 ds) (hne:ds≠[]) (k n:Nat):b1H (l6 k++(ds++l6 n))=ds/\((l6 k++(ds++l6 n)).takeWhile (· ==48)).length=k:=by
 obtain ⟨h1,h2⟩:=a7M h hne (l6 n) k;refine ⟨?_,h2⟩;unfold b1H;rw [h1,a3G,h.lst,List.take_left'];rfl
theorem a19 {ds:List UInt8} {dp:Int} (h:U7 ds) (hd:ds=[]->dp=0) (hr: -400<=dp/\dp<=400):a4z (J9 ds dp)=(ds,dp):=by
 by_cases h0:ds=[]
 ·subst h0;rw [hd rfl];decide
 have hlen:0<ds.length:=List.length_pos_iff.2 h0;have hdt:∀k,∀c∈ds.take k,o8 c:=fun k c hc=>h.dig c (List.mem_of_mem_take hc);have hdd:∀k,∀c∈ds.drop k,o8 c:=fun k c hc=>h.dig c (List.mem_of_mem_drop hc);have e101:(101:UInt8)=101\/(101:UInt8)=46\/(101:UInt8)=45:= .inl rfl;have e46:(46:UInt8)=101\/(46:UInt8)=46\/(46:UInt8)=45:= .inr (.inl rfl);have sc0:=O3 h h0 0 0;simp only [l6,List.replicate_zero,List.nil_append,zz11] at sc0;unfold J9 U6;rw [if_neg h0];simp only [A5,Bool.false_eq_true,if_false,List.nil_append];by_cases h1:dp - 1< -4\/6<=dp - 1
 ·rw [if_pos h1];have tk1:(ds.take 1).length=1:=by rw [List.length_take];omega
  by_cases hl:ds.length<=1
  ·have hfr:C5 ds=[]:=if_pos hl;have htk:ds.take 1=ds:=List.take_of_length_le hl;rw [hfr,zz11,htk];unfold a4z;simp only;rw [zz12,V9 101 e101 h.dig,W0 101 e101 h.dig];have t1:([101]++S3 (dp - 1)).takeWhile (· !=101)=[]:=rfl;have t2:(([101]++S3 (dp - 1)).dropWhile (· !=101)).drop 1=S3 (dp - 1):=rfl;rw [t1,t2];have t3:(ds++[]).takeWhile (· !=46)=ds++[]:=V9 46 e46 h.dig [];have t4:(ds++[]).dropWhile (· !=46)=[]:=W0 46 e46 h.dig [];rw [t3,t4];simp only [zz11,List.drop_nil];rw [sc0.1,sc0.2,a9k _ zo];congr 1;omega
  have hfr:C5 ds=46::ds.drop 1:=if_neg hl;rw [hfr];unfold a4z;simp only;have a1:ds.take 1++46::ds.drop 1++[101]++S3 (dp - 1)=(ds.take 1++([46]++(ds.drop 1++([101]++S3 (dp - 1))))):=by simp
  rw [a1,V9 101 e101 (hdt 1),W0 101 e101 (hdt 1)];have t0:([46]++(ds.drop 1++([101]++S3 (dp - 1)))).takeWhile (· !=101)=[46]++(ds.drop 1++([101]++S3 (dp - 1))).takeWhile (· !=101):=List.takeWhile_append_of_pos zd;have t0':([46]++(ds.drop 1++([101]++S3 (dp - 1)))).dropWhile (· !=101)=(ds.drop 1++([101]++S3 (dp - 1))).dropWhile (· !=101):=List.dropWhile_append_of_pos zd;rw [t0,t0',V9 101 e101 (hdd 1),W0 101 e101 (hdd 1)];have t1:([101]++S3 (dp - 1)).takeWhile (· !=101)=[]:=rfl;have t2:(([101]++S3 (dp - 1)).dropWhile (· !=101)).drop 1=S3 (dp - 1):=rfl;rw [t1,t2,V9 46 e46 (hdt 1),W0 46 e46 (hdt 1)];have t3:([46]++(ds.drop 1++[])).takeWhile (· !=46)=[]:=rfl;have t4:(([46]++(ds.drop 1++[])).dropWhile (· !=46)).drop 1=ds.drop 1++[]:=rfl;rw [t3,t4];simp only [zz11,List.take_append_drop];rw [sc0.1,sc0.2,tk1,a9k _ zo];congr 1;omega
 rw [if_neg h1];by_cases h2:dp<=0
 ·rw [if_pos h2];have a1:[48,46]++l6 (-dp).toNat++ds=[48]++([46]++(l6 (-dp).toNat++ds)):=by simp
  have hdz:∀c∈l6 (-dp).toNat++ds,o8 c:=fun c hc=>by
   rcases zz14 hc with hc|hc
   ·exact a0I _ c hc
   exact h.dig c hc
  have hall:∀c∈([48]++([46]++(l6 (-dp).toNat++ds)):List UInt8),(c !=101)=true:=fun c hc=>by
   rcases zz14 hc with hc|hc
   ·rw [List.mem_singleton.1 hc];rfl
   rcases zz14 hc with hc|hc
   ·rw [List.mem_singleton.1 hc];rfl
   exact Y3 (hdz c hc) 101 e101
  rw [a1];unfold a4z;simp only;have t1:=List.takeWhile_append_of_pos (l₂:=[]) hall;have t2:=List.dropWhile_append_of_pos (l₂:=[]) hall;simp only [zz11,List.takeWhile_nil,List.dropWhile_nil] at t1 t2;rw [t1,t2];have t3:([48]++([46]++(l6 (-dp).toNat++ds))).takeWhile (· !=46)=[48]:=rfl;have t4:(([48]++([46]++(l6 (-dp).toNat++ds))).dropWhile (· !=46)).drop 1=l6 (-dp).toNat++ds:=rfl;rw [t3,t4]
  have a2:[48]++(l6 (-dp).toNat++ds)=l6 ((-dp).toNat+1)++(ds++l6 0):=by
   simp [l6,List.replicate_succ]
  rw [a2,(O3 h h0 _ 0).1,(O3 h h0 _ 0).2];simp only [List.drop_nil,a7L,List.length_singleton];congr 1;omega
 rw [if_neg h2];obtain ⟨p,rfl⟩:∃p:Nat,dp=p:=⟨dp.toNat,zo⟩;rw [Int.toNat_natCast];by_cases h3:(p:Int)<ds.length
 ·rw [if_pos h3];have a1:ds.take p++[46]++ds.drop p=ds.take p++([46]++ds.drop p):=by simp
  have hall:∀c∈(ds.take p++([46]++ds.drop p):List UInt8),(c !=101)=true:=fun c hc=>by
   rcases zz14 hc with hc|hc
   ·exact Y3 (hdt p c hc) 101 e101
   rcases zz14 hc with hc|hc
   ·rw [List.mem_singleton.1 hc];rfl
   exact Y3 (hdd p c hc) 101 e101
  rw [a1];unfold a4z;simp only;have t1:=List.takeWhile_append_of_pos (l₂:=[]) hall;have t2:=List.dropWhile_append_of_pos (l₂:=[]) hall;simp only [zz11,List.takeWhile_nil,List.dropWhile_nil] at t1 t2;rw [t1,t2,V9 46 e46 (hdt p),W0 46 e46 (hdt p)];have t3:([46]++ds.drop p).takeWhile (· !=46)=[]:=rfl;have t4:(([46]++ds.drop p).dropWhile (· !=46)).drop 1=ds.drop p:=rfl;rw [t3,t4];simp only [zz11,List.take_append_drop];rw [sc0.1,sc0.2];simp only [List.drop_nil,a7L,List.length_take];congr 1;omega
 rw [if_neg h3]
 have hdz:∀c∈ds++l6 (p - ds.length),o8 c:=fun c hc=>by
  rcases zz14 hc with hc|hc
  ·exact h.dig c hc
  exact a0I _ c hc
 unfold a4z;simp only;have t1:=V9 101 e101 hdz [];have t2:=W0 101 e101 hdz [];have t3:=V9 46 e46 hdz [];have t4:=W0 46 e46 hdz [];simp only [zz11,List.takeWhile_nil,List.dropWhile_nil] at t1 t2 t3 t4;rw [t1,t2,t3,t4];have sc:=O3 h h0 0 (p - ds.length);simp only [show l6 0=[] from rfl,List.nil_append] at sc;simp only [List.drop_nil,zz11];rw [sc.1,sc.2];simp only [a7L,zz4,l6,List.length_replicate];congr 1;omega
theorem a0J {ds:List UInt8} {dp:Int} (h:U7 ds):∃c r,J9 ds dp=c::r/\o8 c:=by
 unfold J9 U6;simp only [A5,Bool.false_eq_true,if_false,List.nil_append]
 cases ds with
 |nil=>exact ⟨48,[],rfl,a3F⟩
 | cons a l=>
  have ha:o8 a:=h.dig a List.mem_cons_self;rw [if_neg (by simp)];split
  ·exact ⟨a,_,by simp;rfl,ha⟩
  split
  ·exact ⟨48,_,by simp;rfl,a3F⟩
  split
  ·rename_i h1 h2 h3
   obtain ⟨p,hp⟩:∃p:Nat,dp.toNat=p+1:=⟨dp.toNat - 1,zo⟩;rw [hp];exact ⟨a,_,by simp;rfl,ha⟩
  exact ⟨a,_,by simp;rfl,ha⟩
theorem b33 {n1 n2:Bool} {d1 d2:List UInt8} {p1 p2:Int} (c1:U7 d1) (c2:U7 d2) (z1:d1=[]->p1=0) (z2:d2=[]->p2=0) (r1: -400<=p1/\p1<=400) (r2: -400<=p2/\p2<=400)
 (h:U6 n1 d1 p1=U6 n2 d2 p2):n1=n2/\d1=d2/\p1=p2:=by
 rw [a3m,a3m] at h;obtain ⟨a1,l1,b1,g1⟩:=a0J (dp:=p1) c1;obtain ⟨a2,l2,b2,g2⟩:=a0J (dp:=p2) c2
 have hn:n1=n2/\J9 d1 p1=J9 d2 p2:=by
  have ne1:=Y3 g1 45 (.inr (.inr rfl));have ne2:=Y3 g2 45 (.inr (.inr rfl));rw [bne_iff_ne] at ne1 ne2;cases n1<;>cases n2<;>simp only [A5,Bool.false_eq_true,if_false,if_true,List.nil_append] at h
  ·exact ⟨rfl,h⟩
  ·rw [b1] at h;simp at h;exact absurd h.1 ne1
  ·rw [b2] at h;simp at h;exact absurd h.1.symm ne2
  simp at h;exact ⟨rfl,h⟩
 have e1:=a19 c1 z1 r1;have e2:=a19 c2 z2 r2;rw [hn.2,e2] at e1;exact ⟨hn.1,(congrArg Prod.fst e1).symm,(congrArg Prod.snd e1).symm⟩
def a2Z (l:List UInt8):Nat:=l.foldl (fun a c=>10*a+(c.toNat - 48)) 0
theorem a4N (l:List UInt8) (c:UInt8):a2Z (l++[c])=10*a2Z l+(c.toNat - 48):=by unfold a2Z;rw [List.foldl_append];rfl
theorem a7N (l:List UInt8) (n:Nat):a2Z (l++l6 n)=a2Z l*10^n:=by
 induction n with
 |zero=>simp [l6]
 |succ n ih=>
  have:l++l6 (n+1)=l++l6 n++[48]:=by unfold l6;rw [zz12,List.replicate_succ']
  rw [this,a4N,ih,Nat.pow_succ];have:(48:UInt8).toNat - 48=0:=rfl;rw [this,Nat.add_zero,<-Nat.mul_assoc,Nat.mul_comm 10 (a2Z l),Nat.mul_assoc,Nat.mul_comm 10,<-Nat.mul_assoc]
theorem a6p {a b:List UInt8} (h:a≠[]):(a++b).head? =a.head? :=by
 cases a with
 |nil=>exact absurd rfl h
 |cons c l=>rfl
theorem a0o (u:Nat):a2Z (Lib.decDigits u)=u/\(∀c∈Lib.decDigits u,o8 c)/\(0<u->∀c,(Lib.decDigits u).head? =some c->c≠48)/\Lib.decDigits u≠[]:=by
 induction u using Nat.strongRecOn with
 | ind u ih=>
  have tn:∀i,i<10->(UInt8.ofNat (48+i)).toNat=48+i:=fun i hi=>by
   show (48+i)%256=48+i;omega
  rw [Lib.decDigits];split
  ·rename_i h
   refine ⟨?_, ?_, ?_,by simp⟩
   ·show 10*0+_=u;rw [tn u h];omega
   ·intro c hc;rw [List.mem_singleton.1 hc];unfold o8;rw [tn u h];omega
   intro h0 c hc;have hc:UInt8.ofNat (48+u)=c:=Option.some.inj hc;subst hc;intro e;have e2:(UInt8.ofNat (48+u)).toNat=48:=congrArg UInt8.toNat e;rw [tn u h] at e2;omega
  rename_i h
  obtain ⟨i1,i2,i3,i4⟩:=ih (u / 10) zo;refine ⟨?_, ?_, ?_,by simp⟩
  ·rw [a4N,i1,tn _ zo];omega
  ·intro c hc;rcases zz14 hc with hc|hc
   ·exact i2 c hc
   rw [List.mem_singleton.1 hc];unfold o8;rw [tn _ zo];omega
  intro _ c hc;rw [a6p i4] at hc;exact i3 zo c hc
theorem a3H (l:List UInt8):l=l.take (A0 l)++l6 (l.length - A0 l):=by
 suffices∀r:List UInt8,r.reverse=r.reverse.take (A0 r.reverse)++l6 (r.reverse.length - A0 r.reverse) by
  have:=this l.reverse;rwa [List.reverse_reverse] at this
 intro r
 induction r with
 |nil=>rfl
 | cons c r ih=>
  rw [List.reverse_cons,a2F];by_cases hc:c=48
  ·subst hc;rw [if_pos rfl];have hle:=a17 r.reverse;rw [List.take_append_of_le_length hle];have:(r.reverse++[48]).length - A0 r.reverse=(r.reverse.length - A0 r.reverse)+1:=by simp at hle⊢;omega
   rw [this];have z:l6 (r.reverse.length - A0 r.reverse+1)=l6 (r.reverse.length - A0 r.reverse)++[48]:=by unfold l6;rw [List.replicate_succ']
   rw [z,<-zz12,<-ih]
  rw [if_neg hc];rw [List.take_of_length_le (by simp)];simp [l6]
theorem a90 (l:List UInt8):A0 (l.take (A0 l))=(l.take (A0 l)).length:=by
 have h:=a3H l;have h2:=a3G (l.take (A0 l)) (l.length - A0 l);rw [<-h] at h2;rw [<-h2,List.length_take,Nat.min_eq_left (a17 l)]
def O9 (d:Nat):List UInt8:=(Lib.decDigits d).take (A0 (Lib.decDigits d))
theorem a5v (d:Nat) (h:0<d):U7 (O9 d)/\O9 d≠[]/\(O9 d).length<=(Lib.decDigits d).length/\d=a2Z (O9 d)*10^((Lib.decDigits d).length - (O9 d).length):=by
 obtain ⟨h1,h2,h3,h4⟩:=a0o d;have hs:=a3H (Lib.decDigits d);have hlen:(O9 d).length=A0 (Lib.decDigits d):=by unfold O9;rw [List.length_take,Nat.min_eq_left (a17 _)]
 have hd:d=a2Z (O9 d)*10^((Lib.decDigits d).length - (O9 d).length):=by
  rw [hlen];have:=a7N (O9 d) ((Lib.decDigits d).length - A0 (Lib.decDigits d));rw [<-this];unfold O9;rw [<-hs,h1]
 have hne:O9 d≠[]:=fun e=>by
  rw [e] at hd;have:a2Z []=0:=rfl;rw [this] at hd;omega
 refine ⟨⟨fun c hc=>h2 c (List.mem_of_mem_take hc),fun c hc=>h3 h c ?_,a90 _⟩,hne,by rw [hlen];exact a17 _,hd⟩;rw [hs];show (O9 d++_).head? =some c;rw [a6p hne];exact hc
def B5 (b:Nat):List UInt8:=
 if b%2^63 / 2^52=2047 then (if b%2^52≠0 then [78,97,78] else if b / 2^63≠0 then [45,73,110,102] else [43,73,110,102])
 else if b%2^63=0 then U6 (decide (b / 2^63≠0)) [] 0
 else U6 (decide (b / 2^63≠0)) (O9 (A6 (mOf (b%2^63)) (eOf (b%2^63))).1) ((Lib.decDigits (A6 (mOf (b%2^63)) (eOf (b%2^63))).1).length+(A6 (mOf (b%2^63)) (eOf (b%2^63))).2)
theorem a6q (r:Nat) (h1:1<=r) (h2:r<2047*2^52):9223372036854775808<=mOf r/\mOf r<18446744073709551616/\ -1137<=eOf r/\eOf r<=960/\(p8 (mOf r) (eOf r)).mx<18446744073709551616:=by
 have W:W64=18446744073709551616:=rfl
 have fin:∀{M z:Nat} {e p:Int},Gen r M z e p-> -1137<=e->e<=960->9223372036854775808<=mOf r/\mOf r<18446744073709551616/\ -1137<=eOf r/\eOf r<=960/\(p8 (mOf r) (eOf r)).mx<18446744073709551616:=by
  intro M z e p hg a b;have h3:=hg.hW;rw [W] at h3;rw [hg.hm,hg.he,hg.hc];exact ⟨hg.hM,Nat.lt_of_le_of_lt (Nat.le_add_right _ _) h3,a,b,h3⟩
 by_cases hs:r<2^52
 ·have hb0:r≠0:=zo
  have l3:r.log2<52:=(Nat.log2_lt hb0).2 hs;exact fin (a3k r _ (Nat.log2_self_le hb0) Nat.lt_log2_self l3) zo zo
 obtain ⟨k,hk⟩:∃k,r / 2^52=k:=⟨_,rfl⟩;obtain ⟨f,hf⟩:∃f,r%2^52=f:=⟨_,rfl⟩;have hb:r=k*2^52+f:=zo
 by_cases ht:k=1\/f≠0
 ·have hg:=a1s k f zo zo ht;rw [<-hb] at hg;exact fin hg zo zo
 have hm:a4m r=2^52:=by unfold a4m;rw [hk,hf,if_neg zo];omega
 have hl:(2^52:Nat).log2=52:=a3j zo zo;have hsh:sh r=11:=by unfold sh;rw [hm,hl]
 have hmo:mOf r=9223372036854775808:=by unfold mOf;rw [hm,hsh]
 have Zi:eOf r=(k:Int) - 1086:=by
  unfold eOf b3p;rw [hk,hsh,if_neg zo];omega
 rw [hmo,Zi];refine ⟨zo,zo,zo,zo, ?_⟩;unfold p8;split
 ·show 9223372036854775808+2^10<18446744073709551616;omega
 split
 ·show 9223372036854775808+2^10<18446744073709551616;omega
 omega
theorem b1I (m:Nat) (e:Int) (hm1:m<18446744073709551616) (he0: -1137<=e) (he1:e<=960) (hmx:(p8 m e).mx<18446744073709551616) (uN:(p8 m e).mn<=m):
 (A6 m e).1<10^19/\ -348<=(A6 m e).2/\(A6 m e).2<=349/\ -(p8 m e).p<=(A6 m e).2:=by
 obtain ⟨a,b,c,d,o⟩:=b3u m e he0 he1;have hp:=b5B ((p8 m e).p+348).toNat zo;have hs:1<=sOf e (p8 m e).p:=by unfold sOf;omega
 have u:=fun x (hx:x<18446744073709551616)=>a58 x (Q7 (p8 m e).p) (U0 (p8 m e).p) (sOf e (p8 m e).p) hx hp.2.1 hs;have u1:=u (p8 m e).mn zo;have u2:=u (p8 m e).mx hmx;have u3:=u m hm1;have e1:C0 m e<=2305843009213693955:=by unfold C0;simp only;omega
 have e2:C1 m e<=2305843009213693955:=by unfold C1;simp only;omega
 have e3:rnd (usc m (Q7 (p8 m e).p) (U0 (p8 m e).p) (sOf e (p8 m e).p))<=2305843009213693955:=by unfold rnd;omega
 unfold A6;simp only;split
 ·simp only;omega
 split
 ·simp only;omega
 simp only;omega
theorem b5G (m:Nat) (e:Int):(p8 m e).mn<=m:=by
 unfold p8;split
 ·exact Nat.sub_le _ _
 split<;>exact Nat.sub_le _ _
theorem b34 (r:Nat) (h1:1<=r) (h2:r<2047*2^52):0<Q8 r:=by
 rcases Nat.lt_or_ge 1 r with h|h
 ·have:=a7J 1 (r - 2) zo zo;rw [show 1+(r - 2)+1=r by omega] at this;omega
 have:r=1:=zo
 subst this;decide+kernel
structure b5q (r d:Nat) (p:Int):Prop where
 is:A6 (mOf r) (eOf r)=(d,p)
 pos:0<d
 lt:d<10^19
 lo: -348<=p
 hi:p<=349
 p324: -324<=p
theorem a6r (r:Nat) (h1:1<=r) (h2:r<2047*2^52):∃d p,b5q r d p:=by
 obtain ⟨a,b,c,d,e⟩:=a6q r h1 h2;obtain ⟨f,g,h,i⟩:=b1I (mOf r) (eOf r) b c d e (b5G _ _);refine ⟨(A6 (mOf r) (eOf r)).1,(A6 (mOf r) (eOf r)).2,rfl, ?_,f,g,h, ?_⟩
 ·have:=b34 r h1 h2;unfold Q8 at this;rcases Nat.eq_zero_or_pos (A6 (mOf r) (eOf r)).1 with hz|hz
  ·simp only at this;rw [hz,Nat.zero_mul] at this;omega
  exact hz
 have hp:(p8 (mOf r) (eOf r)).p<=324:=by
  unfold p8;split
  ·simp only;unfold a2W;omega
  split
  ·simp only;unfold P8;omega
  simp only;rw [show eOf r+(11+(-1085 - eOf r))= -1074 by omega];decide
 omega
theorem a9l (d:Nat) (h:d<10^19):Lib.nDigits d<=19:=by
 rcases Nat.lt_or_ge 19 (Lib.nDigits d) with hl|hl
 ·exfalso;have hne:=(a0o d).2.2.2
  have key:∀(k u:Nat),k<Lib.nDigits u->0<u->10^k<=u:=by
   intro k
   induction k with
   |zero=>intro u _ hu;rw [Nat.pow_zero];exact hu
   | succ k ih=>
    intro u hk hu;by_cases h10:u<10
    ·rw [Lib.nDigits_small h10] at hk;omega
    rw [Lib.nDigits_big h10] at hk;have:=ih (u / 10) zo zo;rw [Nat.pow_succ];omega
  have hd:0<d:=by
   rcases Nat.eq_zero_or_pos d with h0|h0
   ·rw [h0] at hl;rw [Lib.nDigits_small zo] at hl;omega
   exact h0
  have:=key 19 d hl hd;omega
 exact hl
def dpT (r:Nat):Int:=(Lib.decDigits (A6 (mOf r) (eOf r)).1).length+(A6 (mOf r) (eOf r)).2
theorem b1J (r:Nat) {d:Nat} {p:Int} (h:b5q r d p):Q8 r=a2Z (O9 d)*10^(324+(dpT r - (O9 d).length)).toNat:=by
 obtain ⟨h1,h2,h3,h4⟩:=a5v d h.pos;have hp:=h.p324;unfold Q8 dpT;rw [h.is];simp only;rw [show (324+((Lib.decDigits d).length+p - (O9 d).length)).toNat=((Lib.decDigits d).length - (O9 d).length)+(324+p).toNat by omega,Nat.pow_add,<-Nat.mul_assoc,<-h4]
theorem a91 {neg:Bool} {ds:List UInt8} {dp:Int} (h:U7 ds):(∃c r,U6 neg ds dp=c::r/\o8 c/\neg=false)\/(∃c r,U6 neg ds dp=45::c::r/\o8 c/\neg=true):=by
 rw [a3m];obtain ⟨c,r,h1,h2⟩:=a0J (dp:=dp) h;rw [h1];cases neg
 ·exact .inl ⟨c,r,rfl,h2,rfl⟩
 exact .inr ⟨c,r,rfl,h2,rfl⟩
inductive Way (b:Nat):Prop
 |nan (h1:b%2^63 / 2^52=2047) (h2:b%2^52≠0) (h:B5 b=[78,97,78])
 |minf (h1:b%2^63 / 2^52=2047) (h2:b%2^52=0) (h3:b / 2^63≠0) (h:B5 b=[45,73,110,102])
 |pinf (h1:b%2^63 / 2^52=2047) (h2:b%2^52=0) (h3:b / 2^63=0) (h:B5 b=[43,73,110,102])
 |fin (h1:b%2^63 / 2^52≠2047) (ds:List UInt8) (dp:Int) (hc:U7 ds) (hz:ds=[]↔b%2^63=0) (h0:ds=[]->dp=0) (hr: -400<=dp/\dp<=400)
  (hv:b%2^63≠0->Q8 (b%2^63)=a2Z ds*10^(324+(dp - ds.length)).toNat) (h:B5 b=U6 (decide (b / 2^63≠0)) ds dp) (hlen:ds.length<=19)
theorem a2a (b:Nat):Way b:=by
 by_cases h1:b%2^63 / 2^52=2047
 ·by_cases h2:b%2^52≠0
  ·exact .nan h1 h2 (by unfold B5;rw [if_pos h1,if_pos h2])
  by_cases h3:b / 2^63≠0
  ·exact .minf h1 zo h3 (by unfold B5;rw [if_pos h1,if_neg h2,if_pos h3])
  exact .pinf h1 zo zo (by unfold B5;rw [if_pos h1,if_neg h2,if_neg h3])
 by_cases h0:b%2^63=0
 ·exact .fin h1 [] 0 ⟨fun c hc=>absurd hc (by simp),fun c hc=>(by cases hc),rfl⟩ ⟨fun _=>h0,fun _=>rfl⟩ (fun _=>rfl) zo (fun h=>absurd h0 h) (by unfold B5;rw [if_neg h1,if_pos h0]) zd
 obtain ⟨d,p,hs⟩:=a6r (b%2^63) zo zo;have hd:=a5v d hs.pos;have hn:=a9l d hs.lt;have hn1:=Lib.nDigits_pos d;have e1:(A6 (mOf (b%2^63)) (eOf (b%2^63))).1=d:=by rw [hs.is]
 have e2:(A6 (mOf (b%2^63)) (eOf (b%2^63))).2=p:=by rw [hs.is]
 have hl:=Lib.decDigits_length d
 refine .fin h1 (O9 d) (dpT (b%2^63)) hd.1 ⟨fun h=>absurd h hd.2.1,fun h=>absurd h h0⟩ (fun h=>absurd h hd.2.1) ?_ (fun _=>b1J _ hs) ?_ (by
  have:=hd.2.2.1
  omega)
 ·have:=hs.lo;have:=hs.hi;unfold dpT;rw [e1,e2,hl];omega
 unfold B5 dpT;rw [if_neg h1,if_neg h0,e1,e2]
theorem b35 {a b:Nat} (ha:a<2^64) (hb:b<2^64) (na:a%2^63 / 2^52=2047->a%2^52≠0->a=9221120237041090561) (nb:b%2^63 / 2^52=2047->b%2^52≠0->b=9221120237041090561)
 (za:a%2^63=0->a=0) (zb:b%2^63=0->b=0) (h:B5 a=B5 b):a=b:=by
 have nd1:¬o8 78:=by unfold o8;decide
 have nd2:¬o8 73:=by unfold o8;decide
 have nd3:¬o8 43:=by unfold o8;decide
 have nd4:¬o8 45:=by unfold o8;decide
 have Q0:∀{neg:Bool} {ds:List UInt8} {dp:Int},U7 ds->U6 neg ds dp≠[78,97,78]/\U6 neg ds dp≠[45,73,110,102]/\U6 neg ds dp≠[43,73,110,102]:=by
  intro neg ds dp hc;rcases a91 (neg:=neg) (dp:=dp) hc with ⟨c,r,h1,h2, -⟩|⟨c,r,h1,h2, -⟩
  ·rw [h1];refine ⟨fun h=> ?_,fun h=> ?_,fun h=> ?_⟩<;>simp at h<;>rw [h.1] at h2
   ·exact nd1 h2
   ·exact nd4 h2
   exact nd3 h2
  rw [h1];refine ⟨fun h=> ?_,fun h=> ?_,fun h=> ?_⟩<;>simp at h;rw [h.1] at h2;exact nd2 h2
 rcases a2a a with ⟨a1,a2,at'⟩|⟨a1,a2,a3,at'⟩|⟨a1,a2,a3,at'⟩|⟨a1,ds,dp,ac,az,a0,ar,av,at'⟩<;>
 rcases a2a b with ⟨b1,b2,bt⟩|⟨b1,b2,b3,bt⟩|⟨b1,b2,b3,bt⟩|⟨b1,es,ep,bc,bz,b0,br,bv,bt⟩<;>
 rw [at',bt] at h
 ·rw [na a1 a2,nb b1 b2]
 ·simp at h
 ·simp at h
 ·exact absurd h.symm (Q0 bc).1
 ·simp at h
 ·omega
 ·simp at h
 ·exact absurd h.symm (Q0 bc).2.1
 ·simp at h
 ·simp at h
 ·omega
 ·exact absurd h.symm (Q0 bc).2.2
 ·exact absurd h (Q0 ac).1
 ·exact absurd h (Q0 ac).2.1
 ·exact absurd h (Q0 ac).2.2
 obtain ⟨h1,h2,h3⟩:=b33 ac bc a0 b0 ar br h;subst h2 h3
 have hs:a / 2^63=b / 2^63:=by
  by_cases x:a / 2^63=0<;>by_cases y:b / 2^63=0<;>simp [x,y] at h1<;>omega
 by_cases hz:ds=[]
 ·rw [za (az.1 hz),zb (bz.1 hz)]
 have hza:a%2^63≠0:=fun e=>hz (az.2 e);have hzb:b%2^63≠0:=fun e=>hz (bz.2 e);have:=b3Z (a%2^63) (b%2^63) zo zo zo zo ((av hza).trans (bv hzb).symm);omega
open Go.RowKit
theorem a3I (x:Nat) (w:World):(callFunc 207 #[.float .f64 x]).run Tryz.prog w= .ok (.value (.int .u64 x)) w:=by
 rw [run_callFunc_extern Tryz.func207 zk zk zk (e:=Extern.MathFloatBits.float64bits) zk _ w];rfl
theorem a9m (n k:Nat) (hk:k<64) (hn:n<18446744073709551616):bits .and .u64 (n:Int) ((2^k - 1:Nat):Int)=((n%2^k:Nat):Int):=by
 have hp:2^k<2^64:=Nat.pow_lt_pow_right zd hk;have hp0:0<2^k:=Nat.two_pow_pos k
 have h1:(BitVec.ofInt 64 ((2^k - 1:Nat):Int)).toNat=2^k - 1:=by
  rw [BitVec.toNat_ofInt];omega
 have h2:(BitVec.ofInt 64 (n:Int)).toNat=n:=by
  rw [BitVec.toNat_ofInt];omega
 have key:(BitVec.ofInt 64 (n:Int)&&&BitVec.ofInt 64 ((2^k - 1:Nat):Int)).toNat=n%2^k:=by
  rw [BitVec.toNat_and,h1,h2,Nat.and_two_pow_sub_one_eq_mod]
 have hlt:n%2^k<2^k:=Nat.mod_lt _ hp0;show IntKind.u64.wrap ((BitVec.ofInt 64 (n:Int)&&&BitVec.ofInt 64 ((2^k - 1:Nat):Int)).toNat:Int)=_;rw [key,wrap_u64];omega
theorem b5H (n:Nat) (hn:n<4503599627370496):bits .or .u64 (n:Int) 4503599627370496=((n+4503599627370496:Nat):Int):=by
 have h1:(BitVec.ofInt 64 (4503599627370496:Int)).toNat=2^52:=zd
 have h2:(BitVec.ofInt 64 (n:Int)).toNat=n:=by
  rw [BitVec.toNat_ofInt];omega
 have key:(BitVec.ofInt 64 (n:Int)|||BitVec.ofInt 64 (4503599627370496:Int)).toNat=n+4503599627370496:=by
  rw [BitVec.toNat_or,h1,h2,Nat.or_comm];have h:=Nat.two_pow_add_eq_or_of_lt (i:=52) hn 1;rw [Nat.mul_one] at h;omega
 show IntKind.u64.wrap ((BitVec.ofInt 64 (n:Int)|||BitVec.ofInt 64 (4503599627370496:Int)).toNat:Int)=_;rw [key,wrap_u64];omega
theorem b5I (d:Nat):d<10^Lib.nDigits d:=by
 induction d using Nat.strongRecOn with
 | ind d ih=>
  by_cases h:d<10
  ·rw [Lib.nDigits_small h];omega
  rw [Lib.nDigits_big h,Nat.pow_succ];have:=ih (d / 10) zo;omega
def a3J (F:Nat->Prop) (w:World) (t:List UInt8) (e:Ending) (w':World):Prop:=∃v',e= .returned v'/\Buf F w w' v' t
theorem a7O:∀(f m:Nat),0<m->m<2^f->Lib.bitLenAux f m=m.log2+1:=by
 intro f
 induction f with
 |zero=>intro m h1 h2;omega
 | succ f ih=>
  intro m h1 h2;rw [Lib.bitLenAux,if_neg zo];rcases Nat.lt_or_ge m 2 with h3|h3
  ·have:m=1:=zo
   subst this;cases f<;>rfl
  have hk0:m / 2≠0:=zo
  rw [ih (m / 2) zo (by rw [Nat.pow_succ] at h2;omega)];have a:=Nat.log2_self_le hk0;have c:=@Nat.lt_log2_self (m / 2);have:=@a3j m ((m / 2).log2+1) (by rw [Nat.pow_succ];omega) (by rw [Nat.pow_succ];omega);omega
theorem a7P (m:Nat) (h:0<m) (h2:m<2^64):Lib.bitLen m=m.log2+1:=a7O 64 m h h2
theorem a9n {b:Nat} {neg:Bool} (h:((b:Int) / 9223372036854775808 !=0)=neg):decide (b / 2^63≠0)=neg:=by
 rw [<-h,Bool.eq_iff_iff,decide_eq_true_eq,bne_iff_ne];omega
theorem b36 (w:World) (hw:Lays w) (F:Nat->Prop) (v:Value) (b:Nat) (kD:b<18446744073709551616) (hfin:b / 4503599627370496%2048<2047) (hb:Buf F w w v []) (hF:∀g,g<16->¬F g) (hFn:∀g,w.heap.size<=g->¬F g):
 Calls Tryz.prog 184 #[v,.float .f64 b,.int .u8 103,.int .i64 (-1)] w (a3J F w (B5 b)):=by
 obtain ⟨ad,cap,rfl, -⟩:=hb.own.shape;have hs:=a3I b w;obtain ⟨ex,hex⟩:∃ex,b / 4503599627370496%2048=ex:=⟨_,rfl⟩;obtain ⟨mt,hmt⟩:∃mt,b%4503599627370496=mt:=⟨_,rfl⟩;obtain ⟨neg,VF⟩:∃neg,((b:Int) / 9223372036854775808 !=0)=neg:=⟨_,rfl⟩
 have e1:bits .and .i64 ((b:Int) / 4503599627370496) 2047=ex:=by
  have h:=a10 ((b:Int) / 4503599627370496) 11 zd;rw [<-hex];refine h.trans ?_;show (b:Int) / 4503599627370496%(2048:Int)=_;omega
 have e2:bits .and .u64 (b:Int) 4503599627370495=mt:=by
  have h:=a9m b 52 zd kD;rw [<-hmt];exact h
 have Zj:ex<2048:=zo
 have Gv:mt<4503599627370496:=zo
 rw [hex] at hfin;have hf1:¬((ex:Int)=2047):=zo
 have hf2:((ex:Int)==2047)=false:=by rw [beq_eq_false_iff_ne];exact hf1
 obtain ⟨t,iT⟩:∃t,B5 b=t:=⟨_,rfl⟩;rw [iT];have hr1:b%2^63 / 2^52=ex:=zo
 have hr2:b%2^63%2^52=mt:=zo
 obtain ⟨Hb,Hw,Hex,oo,vX,EU,Bc,HF,Zk⟩:=zh9 hb hw hex hmt iT hr1 hr2 hF hFn;clear hb hw hex hmt iT hr1 hr2 hF hFn
 go_enter Tryz.func184,Tryz.ntmps184
 go_wp2_with fail
 go_quiet (fail)
 go_upto_if 78 with fail
 go_cut [14,15] from 78 to 84 (fun ev mv wx=>ev= .int .i64 (if ex=0 then 1 else ex:Nat)/\mv= .int .u64 (if ex=0 then mt else mt+4503599627370496:Nat)/\Mod (fun _=>False) w wx)
 case first=>
  by_cases h0:ex=0
  ·have h0':((ex:Int)==0)=true:=by rw [beq_iff_eq];omega
   have i1:(ex:Int)+1=((if ex=0 then 1 else ex:Nat):Int):=by rw [if_pos h0];omega
   have i2:(if ex=0 then mt else mt+4503599627370496:Nat)=mt:=if_pos h0;obtain ⟨I1,I2⟩:=zh2 i1 i2;clear i1 i2 h0
   go_wp2_with fail
   go_meet
   case rel=>exact ⟨a05 I1.out,a05 (by rw [I2.out]),(Mod.refl _ _).drewN _⟩
  have h0':((ex:Int)==0)=false:=by rw [beq_eq_false_iff_ne];omega
  have i1:(ex:Int)=((if ex=0 then 1 else ex:Nat):Int):=by rw [if_neg h0]
  have i2:((if ex=0 then mt else mt+4503599627370496:Nat):Int)=((mt+4503599627370496:Nat):Int):=by rw [if_neg h0]
  have i3:=b5H mt Gv;obtain ⟨I1,I2⟩:=zh2 i1 i2;clear i1 i2 h0
  go_wp2_with fail
  go_meet
  case rel=>exact ⟨a05 I1.out,a05 (by rw [I2.out];omega),(Mod.refl _ _).drewN _⟩
 case rest=>
  obtain ⟨rfl,rfl,hmc⟩:=hcut;obtain ⟨w0,rfl⟩:∃w0:World,w0=wc:=⟨_,rfl⟩;obtain ⟨ee,yL⟩:∃ee:Nat,(if ex=0 then 1 else ex:Nat)=ee:=⟨_,rfl⟩;obtain ⟨m,hm⟩:∃m:Nat,(if ex=0 then mt else mt+4503599627370496:Nat)=m:=⟨_,rfl⟩;have Pi:1<=ee/\ee<2047:=by rw [<-yL];split<;>omega
  have hm1:m<9007199254740992:=by rw [<-hm];split<;>omega
  rw [yL,hm];obtain ⟨Bd,Zl⟩:=Pi;have hb0:=Hb.out.rebase hmc;have hw0:=Hw.out.mod0 hmc;have Zm:(1:Int)<=ee:=zo
  obtain ⟨Zn,Hm,yM,Hb0,VG⟩:=zh5 yL hm hmc hb0 hw0;clear yL hm hmc hb0 hw0 Hb Hw;by_cases h0:m=0
  ·have h0':((m:Int)==0)=true:=by rw [beq_iff_eq];omega
   have hz:=Lib.hid (b30 F w0 (.slice ad 0 cap) neg Hb0.out);have Zo:=zh h0;clear h0
   go_wp2_with fail
   refine hz.out.mono ?_;rintro x w1 ⟨v1,rfl,hb1⟩
   go_wp2
   go_ret;refine ⟨v1,rfl, ?_⟩
   have h2:B5 b=A5 neg++[48]:=by
    have h3:=Hm.out;have h4:=Zo.out;have h5:=EU.out;have h6:=Bc.out
    have h7:ex=0:=by
     by_cases h:ex=0
     ·exact h
     rw [if_neg h] at h3;omega
    rw [if_pos h7] at h3;unfold B5;rw [a9n VF,if_neg zo,if_pos zo];rfl
   rw [<-vX.out,h2];exact hb1.under yM.out
  have h0':((m:Int)==0)=false:=by rw [beq_eq_false_iff_ne];omega
  have hbl:=fun wx=>Tryz.bits_Len64 (m:Int) wx zo zo;rw [Int.toNat_natCast,a7P m zo zo] at hbl;have Pj:m.log2<=52:=Nat.le_of_lt_succ ((Nat.log2_lt zo).2 zo);obtain ⟨L,hL⟩:∃L,m.log2+1=L:=⟨_,rfl⟩;rw [hL] at hbl;have hL1:1<=L:=zo
  have Zp:L<=53:=zo
  have Be:=Bc.out;have vY:=EU.out;have hm2:=Hm.out;have Bd:=Zn.out;obtain ⟨r,hr⟩:∃r,b%2^63=r:=⟨_,rfl⟩;rw [hr] at Be vY
  have jq:a4m r=m:=by
   unfold a4m;rw [vY,Be,<-hm2];split
   ·omega
   rfl
  have hsh:sh r=64 - L:=by unfold sh;rw [jq];omega
  have hM:mOf r=m*2^(64 - L):=by unfold mOf;rw [jq,hsh]
  have hE:eOf r=(ee:Int)+ -1023 - (64 - (L:Int)) - 52:=by
   unfold eOf b3p;rw [vY,hsh,Bd];omega
  have hr1:1<=r:=by
   rcases Nat.eq_zero_or_pos r with h|h
   ·exfalso;subst h;unfold a4m at jq;simp at jq;omega
   exact h
  have hr2:r<2047*2^52:=zo
  obtain ⟨p1,p2,p3,p4,p5⟩:=a6q r hr1 hr2;obtain ⟨d,p,hs⟩:=a6r r hr1 hr2;have hsw:=fun wx hx=>b3v wx hx (mOf r) (eOf r) p1 p2 p3 p4 p5;rw [hs.is] at hsw
  have Pk:IntKind.u64.wrap ((m:Int)*2^(64 - L))=(mOf r:Nat):=by
   rw [wrap_u64,hM]
   have:((m*2^(64 - L):Nat):Int)=(m:Int)*2^(64 - L):=by
    rw [Int.natCast_mul,Int.natCast_pow];rfl
   rw [<-this,<-hM];omega
  obtain ⟨M,Pm⟩:∃M,mOf r=M:=⟨_,rfl⟩;obtain ⟨E,Pn⟩:∃E,eOf r=E:=⟨_,rfl⟩;rw [Pn] at hE hsw;rw [Pm] at Pk hsw;obtain ⟨wa,aD⟩:∃wa:World,w0.alloc (.cells #[.int .u8 0,.int .u8 0,.int .u8 0,.int .u8 0,.int .u8 0,.int .u8 0,.int .u8 0,.int .u8 0,.int .u8 0,.int .u8 0,.int .u8 0,.int .u8 0,.int .u8 0,.int .u8 0,.int .u8 0,.int .u8 0,.int .u8 0,.int .u8 0,.int .u8 0,.int .u8 0,.int .u8 0,.int .u8 0,.int .u8 0,.int .u8 0,.int .u8 0,.int .u8 0,.int .u8 0,.int .u8 0,.int .u8 0,.int .u8 0,.int .u8 0,.int .u8 0] 267)=wa:=⟨_,rfl⟩;have hm1:Mod (fun _=>False) w0 wa:=aD▸(Mod.refl (fun _=>False) w0).alloc _;have hg1:wa.heap[w0.heap.size]? =some (.cells #[.int .u8 0,.int .u8 0,.int .u8 0,.int .u8 0,.int .u8 0,.int .u8 0,.int .u8 0,.int .u8 0,.int .u8 0,.int .u8 0,.int .u8 0,.int .u8 0,.int .u8 0,.int .u8 0,.int .u8 0,.int .u8 0,.int .u8 0,.int .u8 0,.int .u8 0,.int .u8 0,.int .u8 0,.int .u8 0,.int .u8 0,.int .u8 0,.int .u8 0,.int .u8 0,.int .u8 0,.int .u8 0,.int .u8 0,.int .u8 0,.int .u8 0,.int .u8 0] 267 (0,0)):=aD▸heap_alloc_new w0 _;have hw1:=VG.out.mod0 hm1;have hpos:=hr1;obtain ⟨qJ,Zq,HL,aF,HM,HE,Zr,HMM,HEE,Zt,Hs,Hr⟩:=zh12 hpos hbl hL aD hM hE Pk Pm Pn hsw hs hr;obtain ⟨VH,VI,dB,lJ,oD⟩:=zh5 hsh jq hm1 hg1 hw1;clear hpos hbl hL aD hM hE Pk Pm Pn hsw hs hr hsh jq hm1 hg1 hw1 Pj p1 p2 p3 p4 p5 hr1 hr2 Be vY hm2 Bd
  go_wp2_with (rw [show w0.alloc _=wa from aF.out])
  refine (Zq.out _).mono ?_;rintro x w1 ⟨rfl,rfl⟩
  go_wp2_with fail
  rw [show IntKind.u64.wrap ((m:Int)*2^(64 - L))=(M:Nat) from Zr.out,show (ee:Int)+ -1023 - (64 - (L:Int)) - 52=E from HE.out.symm];refine (Zt.out _ oD.out).mono ?_;rintro x w2 ⟨rfl,hm2⟩;have hw2:=oD.out.mod0 hm2;have hg2:=hm2.heap lJ.out id;have hdp:=Hs.out.pos;have hdl:=Hs.out.lt;have Zu:=Hs.out.lo;have Zv:=Hs.out.hi;have hnd:=a9l d hdl;have hdt:=a5v d hdp
  have hsd:=fun (wx:World) (hx:Mod (fun _=>False) w2 wx)=>b1l wx w0.heap.size #[.int .u8 0,.int .u8 0,.int .u8 0,.int .u8 0,.int .u8 0,.int .u8 0,.int .u8 0,.int .u8 0,.int .u8 0,.int .u8 0,.int .u8 0,.int .u8 0,.int .u8 0,.int .u8 0,.int .u8 0,.int .u8 0,.int .u8 0,.int .u8 0,.int .u8 0,.int .u8 0,.int .u8 0,.int .u8 0,.int .u8 0,.int .u8 0,.int .u8 0,.int .u8 0,.int .u8 0,.int .u8 0,.int .u8 0,.int .u8 0,.int .u8 0,.int .u8 0] 267 d (Lib.nDigits d) p (hx.heap hg2 id) (fun j hj=>by
   have:j<32:=hj;rcases j with _|_|_|_|_|_|_|_|_|_|_|_|_|_|_|_|_|_|_|_|_|_|_|_|_|_|_|_|_|_|_|_|j
   all_goals first|rfl|omega) zo rfl zo (b5I d) zo
  have Bf:=fun (wx:World) (hx:Mod (fun _=>False) w2 wx)=>Tryz.internal_strconv_numDigits d zo zo wx (hw2.mod0 hx).u10;obtain ⟨nd,Bg⟩:∃n,Lib.nDigits d=n:=⟨_,rfl⟩;rw [Bg] at hsd Bf hnd;obtain ⟨tn,htn⟩:∃n,A0 (Lib.decDigits d)=n:=⟨_,rfl⟩;rw [htn] at hsd;obtain ⟨bq,EW,uR,Zw,Po,Bh,Nu,VJ⟩:=zh8 hm2 hw2 hg2 hsd Bf Bg htn hdt;clear hm2 hw2 hg2 hsd Bf Bg htn hdt hdp hdl
  go_wp2_with fail
  have hS:(fun _:World=>True) w2.drew:=trivial;refine i8 [.rd 0,.rd 1,.rd 2,.rd 3,.go 4,.go 5,.rd 6,.rd 7,.rd 8,.rd 9,.rd 10] [] (fun _:World=>True) zk zk (fun _ _ d _ _ h=>(by cases d<;>exact h)) ?_
  iterate 4 (
   refine n4 rfl ?_ (fun _=>hS) ?_ (fun w0 h0=> ?_) (fun K hK=> ?_)
   ·exact zg
   rotate_left
   ·(try simp only [zz1,zz2,zz3])
    first
     |(obtain - :=h0 rfl;clear h0;go_simp;with_reducible rfl)
     |(clear h0;go_simp;with_reducible rfl)
   (try simp only [zz1,zz2,zz3])
   go_simp;refine hK _ ?_;clear hK K)
  refine i6 (j0 rfl ?_ (fun K hK=> ?_))
  ·exact zg
  (try simp only [zz1,zz2,zz3])
  go_wp2_with fail
  refine (Po.out _ ((Mod.refl _ _).drew)).mono ?_;rintro x w3 ⟨rfl,rfl⟩;go_simp;refine hK _ _ (fun h=>absurd h zd) ?_;clear hK K;refine i6 (j0 rfl ?_ (fun K hK=> ?_))
  ·exact zg
  (try simp only [zz1,zz2,zz3])
  go_wp2_with fail
  refine (Zw.out _ ((Mod.refl _ _).drew)).mono ?_;rintro x w4 ⟨rfl,hd4,aR⟩
  have aY:Mod (fun _=>False) w0 w4:=by
   refine Mod.trans (dB.out.trans (bq.out.drew) zi) (aR.mono (G:=fun k=>k=w0.heap.size) zi) (fun b hb h=> ?_);omega
  have Pp:a1p w4 w0.heap.size (O9 d):=fun j u hu=>by
   refine hd4 j u ?_;unfold O9 at hu;rw [List.getElem?_take] at hu;split at hu
   ·exact hu
   ·cases hu
  have hlen:(O9 d).length=tn:=by
   unfold O9;rw [List.length_take,Nu.out];have:=a17 (Lib.decDigits d);rw [Nu.out] at this;omega
  have vZ:dpT r=(nd:Int)+p:=by
   unfold dpT;rw [Hs.out.is];simp only;rw [Lib.decDigits_length,Bh.out]
  have Zx:0<tn:=by
   rw [<-hlen];exact List.length_pos_iff.2 VJ.out.2.1
  have Zy:tn<=19:=by
   have h1:=VJ.out.2.2.1;rw [hlen,Lib.decDigits_length,Bh.out] at h1;omega
  have Bi:=b5F F w4 (.slice ad 0 cap) w0.heap.size neg (O9 d) (dpT r) (Hb0.out.rebase aY) Pp (Zk.out _ yM.out.size) zo zo (by rw [vZ];omega);rw [hlen,vZ] at Bi;obtain ⟨bK,Pq,Hlen,Zz,Hd4,dN,HdT⟩:=zh7 aY Bi hlen vZ hd4 aR Pp;clear aY Bi hlen vZ hd4 aR Pp;go_simp;refine hK _ _ (fun h=>absurd h zd) ?_;clear hK K;have hS:(fun _:World=>True) w4:=trivial
  iterate 5 (
   refine n4 rfl ?_ (fun _=>hS) ?_ (fun w0 h0=> ?_) (fun K hK=> ?_)
   ·exact zg
   rotate_left
   ·(try simp only [zz1,zz2,zz3])
    first
     |(obtain - :=h0 rfl;clear h0;go_simp;with_reducible rfl)
     |(clear h0;go_simp;with_reducible rfl)
   (try simp only [zz1,zz2,zz3])
   go_simp;refine hK _ ?_;clear hK K)
  refine m6 ?_
  go_wp2_with fail
  refine Pq.out.mono ?_;rintro x w5 ⟨v5,rfl,hb5⟩;have Hb5:=zh hb5;clear hb5
  go_wp2
  go_ret;refine ⟨v5,rfl, ?_⟩;have h1:=(Hb5.out.under bK.out).under yM.out
  have h2:B5 b=U6 neg (O9 d) (nd+p):=by
   have hz:=Hr.out;have hp1:=qJ.out;unfold B5;rw [a9n VF,if_neg (by have:=EU.out;omega),if_neg zo,hz,Hs.out.is];simp only;rw [Lib.decDigits_length,Bh.out]
  rw [<-vX.out,h2];exact h1
end Go.Proofs.YtebhabpahfmodaaGreatDoor
