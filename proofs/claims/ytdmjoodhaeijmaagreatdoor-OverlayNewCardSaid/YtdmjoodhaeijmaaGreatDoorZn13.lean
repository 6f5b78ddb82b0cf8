/- Lemmas. -/
import Derived.Test.YtdmjoodhaeijmaaGreatDoorZn12
import Derived.Test.YtdmjoodhaeijmaaGreatDoorZn11
import Derived.Lib.ItoaNum
set_option maxHeartbeats 40000000
set_option maxRecDepth 20000
namespace Go.Proofs.YtdmjoodhaeijmaaGreatDoor
def q9 (c:UInt8):Prop:=48<=c.toNat/\c.toNat<=57
structure V5 (ds:List UInt8):Prop where
 dig:∀c∈ds,q9 c
 fst:∀c,ds.head? =some c->c≠48
 lst:B0 ds=ds.length
def K2 (ds:List UInt8) (dp:Int):List UInt8:=V4 false ds dp
theorem a2O (neg:Bool) (ds:List UInt8) (dp:Int):V4 neg ds dp=B6 neg++K2 ds dp:=by
 unfold K2 V4 B6;cases neg<;>simp only [Bool.false_eq_true,if_false,if_true,List.nil_append,zz12]<;>repeat' split
 all_goals rfl
def a7n (l:List UInt8):Int:=
 match l with
 |45::r=> -(r.foldl (fun a c=>10*a+(c.toNat - 48)) 0:Nat)
 |_::r=>(r.foldl (fun a c=>10*a+(c.toNat - 48)) 0:Nat)
 |[]=>0
theorem b00:(List.range 1001).all (fun i=>decide (a7n (S8 ((i:Int) - 500))=(i:Int) - 500))=true:=by decide+kernel
theorem a8B (x:Int) (h: -500<=x/\x<=500):a7n (S8 x)=x:=by
 have:=of_decide_eq_true (zz15 b00 (x+500).toNat (List.mem_range.2 zo));rw [show (((x+500).toNat:Nat):Int) - 500=x by omega] at this;exact this
def b01 (L:List UInt8):List UInt8:=(L.dropWhile (· ==48)).take (B0 (L.dropWhile (· ==48)))
def a34 (t:List UInt8):List UInt8×Int:=
 let pre:=t.takeWhile (· !=101)
 let x:=a7n ((t.dropWhile (· !=101)).drop 1)
 let i:=pre.takeWhile (· !=46)
 let L:=i++(pre.dropWhile (· !=46)).drop 1
 (b01 L,i.length - (L.takeWhile (· ==48)).length+x)
theorem Y7 {c:UInt8} (h:q9 c) (k:UInt8) (hk:k=101\/k=46\/k=45):(c !=k)=true:=by
 rw [bne_iff_ne];rintro rfl;unfold q9 at h;rcases hk with rfl|rfl|rfl<;>revert h<;>decide
theorem a3b:q9 48:=by unfold q9;decide
theorem a0N (n:Nat):∀c∈j2 n,q9 c:=fun c hc=>by rw [(List.mem_replicate.1 hc).2];exact a3b
theorem W4 {l:List UInt8} (k:UInt8) (hk:k=101\/k=46\/k=45) (h:∀c∈l,q9 c) (r:List UInt8):(l++r).takeWhile (· !=k)=l++r.takeWhile (· !=k):=
 List.takeWhile_append_of_pos fun c hc=>Y7 (h c hc) k hk
theorem W5 {l:List UInt8} (k:UInt8) (hk:k=101\/k=46\/k=45) (h:∀c∈l,q9 c) (r:List UInt8):(l++r).dropWhile (· !=k)=r.dropWhile (· !=k):=
 List.dropWhile_append_of_pos fun c hc=>Y7 (h c hc) k hk
theorem a3c (l:List UInt8) (n:Nat):B0 (l++j2 n)=B0 l:=by
 induction n with
 |zero=>simp [j2]
 |succ n ih=>
  have:l++j2 (n+1)=l++j2 n++[48]:=by unfold j2;rw [zz12,List.replicate_succ']
  rw [this,a2l,if_pos rfl,ih]
theorem a7o {ds:List UInt8} (h:V5 ds) (hne:ds≠[]) (r:List UInt8) (k:Nat):(j2 k++(ds++r)).dropWhile (· ==48)=ds++r/\((j2 k++(ds++r)).takeWhile (· ==48)).length=k:=by
 have hz:∀c∈j2 k,(c==48)=true:=fun c hc=>by rw [(List.mem_replicate.1 hc).2];rfl
 rw [List.dropWhile_append_of_pos hz,List.takeWhile_append_of_pos hz]
 cases ds with
 |nil=>exact absurd rfl hne
 |cons c l=>
  have:=h.fst c rfl;have hc:(c==48)=false:=by rw [beq_eq_false_iff_ne];exact this
  rw [List.cons_append,List.dropWhile_cons,List.takeWhile_cons,hc];simp [j2]
theorem O5 {ds:List UInt8} (h:V5 ds) (hne:ds≠[]) (k n:Nat):b01 (j2 k++(ds++j2 n))=ds/\((j2 k++(ds++j2 n)).takeWhile (· ==48)).length=k:=by
 obtain ⟨h1,h2⟩:=a7o h hne (j2 n) k;refine ⟨?_,h2⟩;unfold b01;rw [h1,a3c,h.lst,List.take_left'];rfl
theorem a1R {ds:List UInt8} {dp:Int} (h:V5 ds) (hd:ds=[]->dp=0) (hr: -400<=dp/\dp<=400):a34 (K2 ds dp)=(ds,dp):=by
 by_cases h0:ds=[]
 ·subst h0;rw [hd rfl];decide
 have hlen:0<ds.length:=List.length_pos_iff.2 h0;have hdt:∀k,∀c∈ds.take k,q9 c:=fun k c hc=>h.dig c (List.mem_of_mem_take hc);have hdd:∀k,∀c∈ds.drop k,q9 c:=fun k c hc=>h.dig c (List.mem_of_mem_drop hc);have e101:(101:UInt8)=101\/(101:UInt8)=46\/(101:UInt8)=45:= .inl rfl;have e46:(46:UInt8)=101\/(46:UInt8)=46\/(46:UInt8)=45:= .inr (.inl rfl);have sc0:=O5 h h0 0 0;simp only [j2,List.replicate_zero,List.nil_append,zz11] at sc0;unfold K2 V4;rw [if_neg h0];simp only [B6,Bool.false_eq_true,if_false,List.nil_append];by_cases h1:dp - 1< -4\/6<=dp - 1
 ·rw [if_pos h1];have tk1:(ds.take 1).length=1:=by rw [List.length_take];omega
  by_cases hl:ds.length<=1
  ·have hfr:D6 ds=[]:=if_pos hl;have htk:ds.take 1=ds:=List.take_of_length_le hl;rw [hfr,zz11,htk];unfold a34;simp only;rw [zz12,W4 101 e101 h.dig,W5 101 e101 h.dig];have t1:([101]++S8 (dp - 1)).takeWhile (· !=101)=[]:=rfl;have t2:(([101]++S8 (dp - 1)).dropWhile (· !=101)).drop 1=S8 (dp - 1):=rfl;rw [t1,t2];have t3:(ds++[]).takeWhile (· !=46)=ds++[]:=W4 46 e46 h.dig [];have t4:(ds++[]).dropWhile (· !=46)=[]:=W5 46 e46 h.dig [];rw [t3,t4];simp only [zz11,List.drop_nil];rw [sc0.1,sc0.2,a8B _ zo];congr 1;omega
  have hfr:D6 ds=46::ds.drop 1:=if_neg hl;rw [hfr];unfold a34;simp only;have a1:ds.take 1++46::ds.drop 1++[101]++S8 (dp - 1)=(ds.take 1++([46]++(ds.drop 1++([101]++S8 (dp - 1))))):=by simp
  rw [a1,W4 101 e101 (hdt 1),W5 101 e101 (hdt 1)];have t0:([46]++(ds.drop 1++([101]++S8 (dp - 1)))).takeWhile (· !=101)=[46]++(ds.drop 1++([101]++S8 (dp - 1))).takeWhile (· !=101):=List.takeWhile_append_of_pos zd;have t0':([46]++(ds.drop 1++([101]++S8 (dp - 1)))).dropWhile (· !=101)=(ds.drop 1++([101]++S8 (dp - 1))).dropWhile (· !=101):=List.dropWhile_append_of_pos zd;rw [t0,t0',W4 101 e101 (hdd 1),W5 101 e101 (hdd 1)];have t1:([101]++S8 (dp - 1)).takeWhile (· !=101)=[]:=rfl;have t2:(([101]++S8 (dp - 1)).dropWhile (· !=101)).drop 1=S8 (dp - 1):=rfl;rw [t1,t2,W4 46 e46 (hdt 1),W5 46 e46 (hdt 1)];have t3:([46]++(ds.drop 1++[])).takeWhile (· !=46)=[]:=rfl;have t4:(([46]++(ds.drop 1++[])).dropWhile (· !=46)).drop 1=ds.drop 1++[]:=rfl;rw [t3,t4];simp only [zz11,List.take_append_drop];rw [sc0.1,sc0.2,tk1,a8B _ zo];congr 1;omega
 rw [if_neg h1];by_cases h2:dp<=0
 ·rw [if_pos h2];have a1:[48,46]++j2 (-dp).toNat++ds=[48]++([46]++(j2 (-dp).toNat++ds)):=by simp
  have hdz:∀c∈j2 (-dp).toNat++ds,q9 c:=fun c hc=>by
   rcases zz14 hc with hc|hc
   ·exact a0N _ c hc
   exact h.dig c hc
  have hall:∀c∈([48]++([46]++(j2 (-dp).toNat++ds)):List UInt8),(c !=101)=true:=fun c hc=>by
   rcases zz14 hc with hc|hc
   ·rw [List.mem_singleton.1 hc];rfl
   rcases zz14 hc with hc|hc
   ·rw [List.mem_singleton.1 hc];rfl
   exact Y7 (hdz c hc) 101 e101
  rw [a1];unfold a34;simp only;have t1:=List.takeWhile_append_of_pos (l₂:=[]) hall;have t2:=List.dropWhile_append_of_pos (l₂:=[]) hall;simp only [zz11,List.takeWhile_nil,List.dropWhile_nil] at t1 t2;rw [t1,t2];have t3:([48]++([46]++(j2 (-dp).toNat++ds))).takeWhile (· !=46)=[48]:=rfl;have t4:(([48]++([46]++(j2 (-dp).toNat++ds))).dropWhile (· !=46)).drop 1=j2 (-dp).toNat++ds:=rfl;rw [t3,t4]
  have a2:[48]++(j2 (-dp).toNat++ds)=j2 ((-dp).toNat+1)++(ds++j2 0):=by
   simp [j2,List.replicate_succ]
  rw [a2,(O5 h h0 _ 0).1,(O5 h h0 _ 0).2];simp only [List.drop_nil,a7n,List.length_singleton];congr 1;omega
 rw [if_neg h2];obtain ⟨p,rfl⟩:∃p:Nat,dp=p:=⟨dp.toNat,zo⟩;rw [Int.toNat_natCast];by_cases h3:(p:Int)<ds.length
 ·rw [if_pos h3];have a1:ds.take p++[46]++ds.drop p=ds.take p++([46]++ds.drop p):=by simp
  have hall:∀c∈(ds.take p++([46]++ds.drop p):List UInt8),(c !=101)=true:=fun c hc=>by
   rcases zz14 hc with hc|hc
   ·exact Y7 (hdt p c hc) 101 e101
   rcases zz14 hc with hc|hc
   ·rw [List.mem_singleton.1 hc];rfl
   exact Y7 (hdd p c hc) 101 e101
  rw [a1];unfold a34;simp only;have t1:=List.takeWhile_append_of_pos (l₂:=[]) hall;have t2:=List.dropWhile_append_of_pos (l₂:=[]) hall;simp only [zz11,List.takeWhile_nil,List.dropWhile_nil] at t1 t2;rw [t1,t2,W4 46 e46 (hdt p),W5 46 e46 (hdt p)];have t3:([46]++ds.drop p).takeWhile (· !=46)=[]:=rfl;have t4:(([46]++ds.drop p).dropWhile (· !=46)).drop 1=ds.drop p:=rfl;rw [t3,t4];simp only [zz11,List.take_append_drop];rw [sc0.1,sc0.2];simp only [List.drop_nil,a7n,List.length_take];congr 1;omega
 rw [if_neg h3]
 have hdz:∀c∈ds++j2 (p - ds.length),q9 c:=fun c hc=>by
  rcases zz14 hc with hc|hc
  ·exact h.dig c hc
  exact a0N _ c hc
 unfold a34;simp only;have t1:=W4 101 e101 hdz [];have t2:=W5 101 e101 hdz [];have t3:=W4 46 e46 hdz [];have t4:=W5 46 e46 hdz [];simp only [zz11,List.takeWhile_nil,List.dropWhile_nil] at t1 t2 t3 t4;rw [t1,t2,t3,t4];have sc:=O5 h h0 0 (p - ds.length);simp only [show j2 0=[] from rfl,List.nil_append] at sc;simp only [List.drop_nil,zz11];rw [sc.1,sc.2];simp only [a7n,zz4,j2,List.length_replicate];congr 1;omega
theorem a0O {ds:List UInt8} {dp:Int} (h:V5 ds):∃c r,K2 ds dp=c::r/\q9 c:=by
 unfold K2 V4;simp only [B6,Bool.false_eq_true,if_false,List.nil_append]
 cases ds with
 |nil=>exact ⟨48,[],rfl,a3b⟩
 | cons a l=>
  have ha:q9 a:=h.dig a List.mem_cons_self;rw [if_neg (by simp)];split
  ·exact ⟨a,_,by simp;rfl,ha⟩
  split
  ·exact ⟨48,_,by simp;rfl,a3b⟩
  split
  ·rename_i h1 h2 h3
   obtain ⟨p,hp⟩:∃p:Nat,dp.toNat=p+1:=⟨dp.toNat - 1,zo⟩;rw [hp];exact ⟨a,_,by simp;rfl,ha⟩
  exact ⟨a,_,by simp;rfl,ha⟩
theorem b3E {n1 n2:Bool} {d1 d2:List UInt8} {p1 p2:Int} (c1:V5 d1) (c2:V5 d2) (z1:d1=[]->p1=0) (z2:d2=[]->p2=0) (r1: -400<=p1/\p1<=400) (r2: -400<=p2/\p2<=400)
 (h:V4 n1 d1 p1=V4 n2 d2 p2):n1=n2/\d1=d2/\p1=p2:=by
 rw [a2O,a2O] at h;obtain ⟨a1,l1,b1,g1⟩:=a0O (dp:=p1) c1;obtain ⟨a2,l2,b2,g2⟩:=a0O (dp:=p2) c2
 have hn:n1=n2/\K2 d1 p1=K2 d2 p2:=by
  have ne1:=Y7 g1 45 (.inr (.inr rfl));have ne2:=Y7 g2 45 (.inr (.inr rfl));rw [bne_iff_ne] at ne1 ne2;cases n1<;>cases n2<;>simp only [B6,Bool.false_eq_true,if_false,if_true,List.nil_append] at h
  ·exact ⟨rfl,h⟩
  ·rw [b1] at h;simp at h;exact absurd h.1 ne1
  ·rw [b2] at h;simp at h;exact absurd h.1.symm ne2
  simp at h;exact ⟨rfl,h⟩
 have e1:=a1R c1 z1 r1;have e2:=a1R c2 z2 r2;rw [hn.2,e2] at e1;exact ⟨hn.1,(congrArg Prod.fst e1).symm,(congrArg Prod.snd e1).symm⟩
def a2B (l:List UInt8):Nat:=l.foldl (fun a c=>10*a+(c.toNat - 48)) 0
theorem a4s (l:List UInt8) (c:UInt8):a2B (l++[c])=10*a2B l+(c.toNat - 48):=by unfold a2B;rw [List.foldl_append];rfl
theorem a7p (l:List UInt8) (n:Nat):a2B (l++j2 n)=a2B l*10^n:=by
 induction n with
 |zero=>simp [j2]
 |succ n ih=>
  have:l++j2 (n+1)=l++j2 n++[48]:=by unfold j2;rw [zz12,List.replicate_succ']
  rw [this,a4s,ih,Nat.pow_succ];have:(48:UInt8).toNat - 48=0:=rfl;rw [this,Nat.add_zero,<-Nat.mul_assoc,Nat.mul_comm 10 (a2B l),Nat.mul_assoc,Nat.mul_comm 10,<-Nat.mul_assoc]
theorem a50 {a b:List UInt8} (h:a≠[]):(a++b).head? =a.head? :=by
 cases a with
 |nil=>exact absurd rfl h
 |cons c l=>rfl
theorem a0r (u:Nat):a2B (Lib.decDigits u)=u/\(∀c∈Lib.decDigits u,q9 c)/\(0<u->∀c,(Lib.decDigits u).head? =some c->c≠48)/\Lib.decDigits u≠[]:=by
 induction u using Nat.strongRecOn with
 | ind u ih=>
  have tn:∀i,i<10->(UInt8.ofNat (48+i)).toNat=48+i:=fun i hi=>by
   show (48+i)%256=48+i;omega
  rw [Lib.decDigits];split
  ·rename_i h
   refine ⟨?_, ?_, ?_,by simp⟩
   ·show 10*0+_=u;rw [tn u h];omega
   ·intro c hc;rw [List.mem_singleton.1 hc];unfold q9;rw [tn u h];omega
   intro h0 c hc;have hc:UInt8.ofNat (48+u)=c:=Option.some.inj hc;subst hc;intro e;have e2:(UInt8.ofNat (48+u)).toNat=48:=congrArg UInt8.toNat e;rw [tn u h] at e2;omega
  rename_i h
  obtain ⟨i1,i2,i3,i4⟩:=ih (u / 10) zo;refine ⟨?_, ?_, ?_,by simp⟩
  ·rw [a4s,i1,tn _ zo];omega
  ·intro c hc;rcases zz14 hc with hc|hc
   ·exact i2 c hc
   rw [List.mem_singleton.1 hc];unfold q9;rw [tn _ zo];omega
  intro _ c hc;rw [a50 i4] at hc;exact i3 zo c hc
theorem a3d (l:List UInt8):l=l.take (B0 l)++j2 (l.length - B0 l):=by
 suffices∀r:List UInt8,r.reverse=r.reverse.take (B0 r.reverse)++j2 (r.reverse.length - B0 r.reverse) by
  have:=this l.reverse;rwa [List.reverse_reverse] at this
 intro r
 induction r with
 |nil=>rfl
 | cons c r ih=>
  rw [List.reverse_cons,a2l];by_cases hc:c=48
  ·subst hc;rw [if_pos rfl];have hle:=a1P r.reverse;rw [List.take_append_of_le_length hle];have:(r.reverse++[48]).length - B0 r.reverse=(r.reverse.length - B0 r.reverse)+1:=by simp at hle⊢;omega
   rw [this];have z:j2 (r.reverse.length - B0 r.reverse+1)=j2 (r.reverse.length - B0 r.reverse)++[48]:=by unfold j2;rw [List.replicate_succ']
   rw [z,<-zz12,<-ih]
  rw [if_neg hc];rw [List.take_of_length_le (by simp)];simp [j2]
theorem a9k (l:List UInt8):B0 (l.take (B0 l))=(l.take (B0 l)).length:=by
 have h:=a3d l;have h2:=a3c (l.take (B0 l)) (l.length - B0 l);rw [<-h] at h2;rw [<-h2,List.length_take,Nat.min_eq_left (a1P l)]
def P5 (d:Nat):List UInt8:=(Lib.decDigits d).take (B0 (Lib.decDigits d))
theorem a5d (d:Nat) (h:0<d):V5 (P5 d)/\P5 d≠[]/\(P5 d).length<=(Lib.decDigits d).length/\d=a2B (P5 d)*10^((Lib.decDigits d).length - (P5 d).length):=by
 obtain ⟨h1,h2,h3,h4⟩:=a0r d;have hs:=a3d (Lib.decDigits d);have hlen:(P5 d).length=B0 (Lib.decDigits d):=by unfold P5;rw [List.length_take,Nat.min_eq_left (a1P _)]
 have hd:d=a2B (P5 d)*10^((Lib.decDigits d).length - (P5 d).length):=by
  rw [hlen];have:=a7p (P5 d) ((Lib.decDigits d).length - B0 (Lib.decDigits d));rw [<-this];unfold P5;rw [<-hs,h1]
 have hne:P5 d≠[]:=fun e=>by
  rw [e] at hd;have:a2B []=0:=rfl;rw [this] at hd;omega
 refine ⟨⟨fun c hc=>h2 c (List.mem_of_mem_take hc),fun c hc=>h3 h c ?_,a9k _⟩,hne,by rw [hlen];exact a1P _,hd⟩;rw [hs];show (P5 d++_).head? =some c;rw [a50 hne];exact hc
def C1 (b:Nat):List UInt8:=
 if b%2^63 / 2^52=2047 then (if b%2^52≠0 then [78,97,78] else if b / 2^63≠0 then [45,73,110,102] else [43,73,110,102])
 else if b%2^63=0 then V4 (decide (b / 2^63≠0)) [] 0
 else V4 (decide (b / 2^63≠0)) (P5 (B8 (mOf (b%2^63)) (eOf (b%2^63))).1) ((Lib.decDigits (B8 (mOf (b%2^63)) (eOf (b%2^63))).1).length+(B8 (mOf (b%2^63)) (eOf (b%2^63))).2)
theorem a52 (r:Nat) (h1:1<=r) (h2:r<2047*2^52):9223372036854775808<=mOf r/\mOf r<18446744073709551616/\ -1137<=eOf r/\eOf r<=960/\(t6 (mOf r) (eOf r)).mx<18446744073709551616:=by
 have W:W64=18446744073709551616:=rfl
 have fin:∀{M z:Nat} {e p:Int},Gen r M z e p-> -1137<=e->e<=960->9223372036854775808<=mOf r/\mOf r<18446744073709551616/\ -1137<=eOf r/\eOf r<=960/\(t6 (mOf r) (eOf r)).mx<18446744073709551616:=by
  intro M z e p hg a b;have h3:=hg.hW;rw [W] at h3;rw [hg.hm,hg.he,hg.hc];exact ⟨hg.hM,Nat.lt_of_le_of_lt (Nat.le_add_right _ _) h3,a,b,h3⟩
 by_cases hs:r<2^52
 ·have hb0:r≠0:=zo
  have l3:r.log2<52:=(Nat.log2_lt hb0).2 hs;exact fin (a2M r _ (Nat.log2_self_le hb0) Nat.lt_log2_self l3) zo zo
 obtain ⟨k,hk⟩:∃k,r / 2^52=k:=⟨_,rfl⟩;obtain ⟨f,hf⟩:∃f,r%2^52=f:=⟨_,rfl⟩;have hb:r=k*2^52+f:=zo
 by_cases ht:k=1\/f≠0
 ·have hg:=a1t k f zo zo ht;rw [<-hb] at hg;exact fin hg zo zo
 have hm:a3Y r=2^52:=by unfold a3Y;rw [hk,hf,if_neg zo];omega
 have hl:(2^52:Nat).log2=52:=a2L zo zo;have hsh:sh r=11:=by unfold sh;rw [hm,hl]
 have hmo:mOf r=9223372036854775808:=by unfold mOf;rw [hm,hsh]
 have Qz:eOf r=(k:Int) - 1086:=by
  unfold eOf b3i;rw [hk,hsh,if_neg zo];omega
 rw [hmo,Qz];refine ⟨zo,zo,zo,zo, ?_⟩;unfold t6;split
 ·show 9223372036854775808+2^10<18446744073709551616;omega
 split
 ·show 9223372036854775808+2^10<18446744073709551616;omega
 omega
theorem b02 (m:Nat) (e:Int) (hm1:m<18446744073709551616) (he0: -1137<=e) (he1:e<=960) (hmx:(t6 m e).mx<18446744073709551616) (Bn:(t6 m e).mn<=m):
 (B8 m e).1<10^19/\ -348<=(B8 m e).2/\(B8 m e).2<=349/\ -(t6 m e).p<=(B8 m e).2:=by
 obtain ⟨a,b,c,d,o⟩:=b3n m e he0 he1;have hp:=b5t ((t6 m e).p+348).toNat zo;have hs:1<=sOf e (t6 m e).p:=by unfold sOf;omega
 have u:=fun x (hx:x<18446744073709551616)=>a5R x (S3 (t6 m e).p) (V0 (t6 m e).p) (sOf e (t6 m e).p) hx hp.2.1 hs;have u1:=u (t6 m e).mn zo;have u2:=u (t6 m e).mx hmx;have u3:=u m hm1;have e1:D3 m e<=2305843009213693955:=by unfold D3;simp only;omega
 have e2:D4 m e<=2305843009213693955:=by unfold D4;simp only;omega
 have e3:rnd (usc m (S3 (t6 m e).p) (V0 (t6 m e).p) (sOf e (t6 m e).p))<=2305843009213693955:=by unfold rnd;omega
 unfold B8;simp only;split
 ·simp only;omega
 split
 ·simp only;omega
 simp only;omega
theorem b5w (m:Nat) (e:Int):(t6 m e).mn<=m:=by
 unfold t6;split
 ·exact Nat.sub_le _ _
 split<;>exact Nat.sub_le _ _
theorem b3F (r:Nat) (h1:1<=r) (h2:r<2047*2^52):0<S4 r:=by
 rcases Nat.lt_or_ge 1 r with h|h
 ·have:=a7m 1 (r - 2) zo zo;rw [show 1+(r - 2)+1=r by omega] at this;omega
 have:r=1:=zo
 subst this;decide+kernel
structure b5b (r d:Nat) (p:Int):Prop where
 is:B8 (mOf r) (eOf r)=(d,p)
 pos:0<d
 lt:d<10^19
 lo: -348<=p
 hi:p<=349
 p324: -324<=p
theorem a54 (r:Nat) (h1:1<=r) (h2:r<2047*2^52):∃d p,b5b r d p:=by
 obtain ⟨a,b,c,d,e⟩:=a52 r h1 h2;obtain ⟨f,g,h,i⟩:=b02 (mOf r) (eOf r) b c d e (b5w _ _);refine ⟨(B8 (mOf r) (eOf r)).1,(B8 (mOf r) (eOf r)).2,rfl, ?_,f,g,h, ?_⟩
 ·have:=b3F r h1 h2;unfold S4 at this;rcases Nat.eq_zero_or_pos (B8 (mOf r) (eOf r)).1 with hz|hz
  ·simp only at this;rw [hz,Nat.zero_mul] at this;omega
  exact hz
 have hp:(t6 (mOf r) (eOf r)).p<=324:=by
  unfold t6;split
  ·simp only;unfold a2z;omega
  split
  ·simp only;unfold Q9;omega
  simp only;rw [show eOf r+(11+(-1085 - eOf r))= -1074 by omega];decide
 omega
theorem a8C (d:Nat) (h:d<10^19):Lib.nDigits d<=19:=by
 rcases Nat.lt_or_ge 19 (Lib.nDigits d) with hl|hl
 ·exfalso;have hne:=(a0r d).2.2.2
  have key:∀(k u:Nat),k<Lib.nDigits u->0<u->10^k<=u:=by
   intro k
   induction k with
   |zero=>intro u _ hu;rw [Nat.pow_zero];exact hu
   | succ k ih=>
    intro u hk hu;by_cases h10:u<10
    ·rw [Lib.nDigits_small h10] at hk;omega
    rw [Lib.nDigits_big h10] at hk;have:=ih (u / 10) zo zo;rw [Nat.pow_succ];omega
  have hd:0<d:=by
   rcases Nat.eq_zero_or_pos d with h0|h0
   ·rw [h0] at hl;rw [Lib.nDigits_small zo] at hl;omega
   exact h0
  have:=key 19 d hl hd;omega
 exact hl
def dpT (r:Nat):Int:=(Lib.decDigits (B8 (mOf r) (eOf r)).1).length+(B8 (mOf r) (eOf r)).2
theorem b03 (r:Nat) {d:Nat} {p:Int} (h:b5b r d p):S4 r=a2B (P5 d)*10^(324+(dpT r - (P5 d).length)).toNat:=by
 obtain ⟨h1,h2,h3,h4⟩:=a5d d h.pos;have hp:=h.p324;unfold S4 dpT;rw [h.is];simp only;rw [show (324+((Lib.decDigits d).length+p - (P5 d).length)).toNat=((Lib.decDigits d).length - (P5 d).length)+(324+p).toNat by omega,Nat.pow_add,<-Nat.mul_assoc,<-h4]
theorem a9l {neg:Bool} {ds:List UInt8} {dp:Int} (h:V5 ds):(∃c r,V4 neg ds dp=c::r/\q9 c/\neg=false)\/(∃c r,V4 neg ds dp=45::c::r/\q9 c/\neg=true):=by
 rw [a2O];obtain ⟨c,r,h1,h2⟩:=a0O (dp:=dp) h;rw [h1];cases neg
 ·exact .inl ⟨c,r,rfl,h2,rfl⟩
 exact .inr ⟨c,r,rfl,h2,rfl⟩
inductive Way (b:Nat):Prop
 |nan (h1:b%2^63 / 2^52=2047) (h2:b%2^52≠0) (h:C1 b=[78,97,78])
 |minf (h1:b%2^63 / 2^52=2047) (h2:b%2^52=0) (h3:b / 2^63≠0) (h:C1 b=[45,73,110,102])
 |pinf (h1:b%2^63 / 2^52=2047) (h2:b%2^52=0) (h3:b / 2^63=0) (h:C1 b=[43,73,110,102])
 |fin (h1:b%2^63 / 2^52≠2047) (ds:List UInt8) (dp:Int) (hc:V5 ds) (hz:ds=[]↔b%2^63=0) (h0:ds=[]->dp=0) (hr: -400<=dp/\dp<=400)
  (hv:b%2^63≠0->S4 (b%2^63)=a2B ds*10^(324+(dp - ds.length)).toNat) (h:C1 b=V4 (decide (b / 2^63≠0)) ds dp) (hlen:ds.length<=19)
theorem a1S (b:Nat):Way b:=by
 by_cases h1:b%2^63 / 2^52=2047
 ·by_cases h2:b%2^52≠0
  ·exact .nan h1 h2 (by unfold C1;rw [if_pos h1,if_pos h2])
  by_cases h3:b / 2^63≠0
  ·exact .minf h1 zo h3 (by unfold C1;rw [if_pos h1,if_neg h2,if_pos h3])
  exact .pinf h1 zo zo (by unfold C1;rw [if_pos h1,if_neg h2,if_neg h3])
 by_cases h0:b%2^63=0
 ·exact .fin h1 [] 0 ⟨fun c hc=>absurd hc (by simp),fun c hc=>(by cases hc),rfl⟩ ⟨fun _=>h0,fun _=>rfl⟩ (fun _=>rfl) zo (fun h=>absurd h0 h) (by unfold C1;rw [if_neg h1,if_pos h0]) zd
 obtain ⟨d,p,hs⟩:=a54 (b%2^63) zo zo;have hd:=a5d d hs.pos;have hn:=a8C d hs.lt;have hn1:=Lib.nDigits_pos d;have e1:(B8 (mOf (b%2^63)) (eOf (b%2^63))).1=d:=by rw [hs.is]
 have e2:(B8 (mOf (b%2^63)) (eOf (b%2^63))).2=p:=by rw [hs.is]
 have hl:=Lib.decDigits_length d
 refine .fin h1 (P5 d) (dpT (b%2^63)) hd.1 ⟨fun h=>absurd h hd.2.1,fun h=>absurd h h0⟩ (fun h=>absurd h hd.2.1) ?_ (fun _=>b03 _ hs) ?_ (by
  have:=hd.2.2.1
  omega)
 ·have:=hs.lo;have:=hs.hi;unfold dpT;rw [e1,e2,hl];omega
 unfold C1 dpT;rw [if_neg h1,if_neg h0,e1,e2]
theorem b3G {a b:Nat} (ha:a<2^64) (hb:b<2^64) (na:a%2^63 / 2^52=2047->a%2^52≠0->a=9221120237041090561) (nb:b%2^63 / 2^52=2047->b%2^52≠0->b=9221120237041090561)
 (za:a%2^63=0->a=0) (zb:b%2^63=0->b=0) (h:C1 a=C1 b):a=b:=by
 have nd1:¬q9 78:=by unfold q9;decide
 have nd2:¬q9 73:=by unfold q9;decide
 have nd3:¬q9 43:=by unfold q9;decide
 have nd4:¬q9 45:=by unfold q9;decide
 have R1:∀{neg:Bool} {ds:List UInt8} {dp:Int},V5 ds->V4 neg ds dp≠[78,97,78]/\V4 neg ds dp≠[45,73,110,102]/\V4 neg ds dp≠[43,73,110,102]:=by
  intro neg ds dp hc;rcases a9l (neg:=neg) (dp:=dp) hc with ⟨c,r,h1,h2, -⟩|⟨c,r,h1,h2, -⟩
  ·rw [h1];refine ⟨fun h=> ?_,fun h=> ?_,fun h=> ?_⟩<;>simp at h<;>rw [h.1] at h2
   ·exact nd1 h2
   ·exact nd4 h2
   exact nd3 h2
  rw [h1];refine ⟨fun h=> ?_,fun h=> ?_,fun h=> ?_⟩<;>simp at h;rw [h.1] at h2;exact nd2 h2
 rcases a1S a with ⟨a1,a2,at'⟩|⟨a1,a2,a3,at'⟩|⟨a1,a2,a3,at'⟩|⟨a1,ds,dp,ac,az,a0,ar,av,at'⟩<;>
 rcases a1S b with ⟨b1,b2,bt⟩|⟨b1,b2,b3,bt⟩|⟨b1,b2,b3,bt⟩|⟨b1,es,ep,bc,bz,b0,br,bv,bt⟩<;>
 rw [at',bt] at h
 ·rw [na a1 a2,nb b1 b2]
 ·simp at h
 ·simp at h
 ·exact absurd h.symm (R1 bc).1
 ·simp at h
 ·omega
 ·simp at h
 ·exact absurd h.symm (R1 bc).2.1
 ·simp at h
 ·simp at h
 ·omega
 ·exact absurd h.symm (R1 bc).2.2
 ·exact absurd h (R1 ac).1
 ·exact absurd h (R1 ac).2.1
 ·exact absurd h (R1 ac).2.2
 obtain ⟨h1,h2,h3⟩:=b3E ac bc a0 b0 ar br h;subst h2 h3
 have hs:a / 2^63=b / 2^63:=by
  by_cases x:a / 2^63=0<;>by_cases y:b / 2^63=0<;>simp [x,y] at h1<;>omega
 by_cases hz:ds=[]
 ·rw [za (az.1 hz),zb (bz.1 hz)]
 have hza:a%2^63≠0:=fun e=>hz (az.2 e);have hzb:b%2^63≠0:=fun e=>hz (bz.2 e);have:=b3A (a%2^63) (b%2^63) zo zo zo zo ((av hza).trans (bv hzb).symm);omega
open Go.RowKit
theorem a3e (x:Nat) (w:World):(callFunc 236 #[.float .f64 x]).run Tryz.prog w= .ok (.value (.int .u64 x)) w:=by
 rw [run_callFunc_extern Tryz.func236 zk zk zk (e:=Extern.MathFloatBits.float64bits) zk _ w];rfl
theorem a8D (n k:Nat) (hk:k<64) (hn:n<18446744073709551616):bits .and .u64 (n:Int) ((2^k - 1:Nat):Int)=((n%2^k:Nat):Int):=by
 have hp:2^k<2^64:=Nat.pow_lt_pow_right zd hk;have hp0:0<2^k:=Nat.two_pow_pos k
 have h1:(BitVec.ofInt 64 ((2^k - 1:Nat):Int)).toNat=2^k - 1:=by
  rw [BitVec.toNat_ofInt];omega
 have h2:(BitVec.ofInt 64 (n:Int)).toNat=n:=by
  rw [BitVec.toNat_ofInt];omega
 have key:(BitVec.ofInt 64 (n:Int)&&&BitVec.ofInt 64 ((2^k - 1:Nat):Int)).toNat=n%2^k:=by
  rw [BitVec.toNat_and,h1,h2,Nat.and_two_pow_sub_one_eq_mod]
 have hlt:n%2^k<2^k:=Nat.mod_lt _ hp0;show IntKind.u64.wrap ((BitVec.ofInt 64 (n:Int)&&&BitVec.ofInt 64 ((2^k - 1:Nat):Int)).toNat:Int)=_;rw [key,wrap_u64];omega
theorem b5x (n:Nat) (hn:n<4503599627370496):bits .or .u64 (n:Int) 4503599627370496=((n+4503599627370496:Nat):Int):=by
 have h1:(BitVec.ofInt 64 (4503599627370496:Int)).toNat=2^52:=zd
 have h2:(BitVec.ofInt 64 (n:Int)).toNat=n:=by
  rw [BitVec.toNat_ofInt];omega
 have key:(BitVec.ofInt 64 (n:Int)|||BitVec.ofInt 64 (4503599627370496:Int)).toNat=n+4503599627370496:=by
  rw [BitVec.toNat_or,h1,h2,Nat.or_comm];have h:=Nat.two_pow_add_eq_or_of_lt (i:=52) hn 1;rw [Nat.mul_one] at h;omega
 show IntKind.u64.wrap ((BitVec.ofInt 64 (n:Int)|||BitVec.ofInt 64 (4503599627370496:Int)).toNat:Int)=_;rw [key,wrap_u64];omega
theorem b5y (d:Nat):d<10^Lib.nDigits d:=by
 induction d using Nat.strongRecOn with
 | ind d ih=>
  by_cases h:d<10
  ·rw [Lib.nDigits_small h];omega
  rw [Lib.nDigits_big h,Nat.pow_succ];have:=ih (d / 10) zo;omega
def a3f (F:Nat->Prop) (w:World) (t:List UInt8) (e:Ending) (w':World):Prop:=∃v',e= .returned v'/\Buf F w w' v' t
theorem a7q:∀(f m:Nat),0<m->m<2^f->Lib.bitLenAux f m=m.log2+1:=by
 intro f
 induction f with
 |zero=>intro m h1 h2;omega
 | succ f ih=>
  intro m h1 h2;rw [Lib.bitLenAux,if_neg zo];rcases Nat.lt_or_ge m 2 with h3|h3
  ·have:m=1:=zo
   subst this;cases f<;>rfl
  have hk0:m / 2≠0:=zo
  rw [ih (m / 2) zo (by rw [Nat.pow_succ] at h2;omega)];have a:=Nat.log2_self_le hk0;have c:=@Nat.lt_log2_self (m / 2);have:=@a2L m ((m / 2).log2+1) (by rw [Nat.pow_succ];omega) (by rw [Nat.pow_succ];omega);omega
theorem a7r (m:Nat) (h:0<m) (h2:m<2^64):Lib.bitLen m=m.log2+1:=a7q 64 m h h2
theorem a8E {b:Nat} {neg:Bool} (h:((b:Int) / 9223372036854775808 !=0)=neg):decide (b / 2^63≠0)=neg:=by
 rw [<-h,Bool.eq_iff_iff,decide_eq_true_eq,bne_iff_ne];omega
theorem b3H (w:World) (hw:Lays w) (F:Nat->Prop) (v:Value) (b:Nat) (iO:b<18446744073709551616) (hfin:b / 4503599627370496%2048<2047) (hb:Buf F w w v []) (hF:∀g,g<16->¬F g) (hFn:∀g,w.heap.size<=g->¬F g):
 Calls Tryz.prog 218 #[v,.float .f64 b,.int .u8 103,.int .i64 (-1)] w (a3f F w (C1 b)):=by
 obtain ⟨ad,cap,rfl, -⟩:=hb.own.shape;have hs:=a3e b w;obtain ⟨ex,hex⟩:∃ex,b / 4503599627370496%2048=ex:=⟨_,rfl⟩;obtain ⟨mt,hmt⟩:∃mt,b%4503599627370496=mt:=⟨_,rfl⟩;obtain ⟨neg,NE⟩:∃neg,((b:Int) / 9223372036854775808 !=0)=neg:=⟨_,rfl⟩
 have e1:bits .and .i64 ((b:Int) / 4503599627370496) 2047=ex:=by
  have h:=a1O ((b:Int) / 4503599627370496) 11 zd;rw [<-hex];refine h.trans ?_;show (b:Int) / 4503599627370496%(2048:Int)=_;omega
 have e2:bits .and .u64 (b:Int) 4503599627370495=mt:=by
  have h:=a8D b 52 zd iO;rw [<-hmt];exact h
 have QA:ex<2048:=zo
 have Bo:mt<4503599627370496:=zo
 rw [hex] at hfin;have hf1:¬((ex:Int)=2047):=zo
 have hf2:((ex:Int)==2047)=false:=by rw [beq_eq_false_iff_ne];exact hf1
 obtain ⟨t,fM⟩:∃t,C1 b=t:=⟨_,rfl⟩;rw [fM];have hr1:b%2^63 / 2^52=ex:=zo
 have hr2:b%2^63%2^52=mt:=zo
 refine hh8 hb hw hex hmt fM hr1 hr2 hF fun Hb Hw Hex xm rR Ac Bp HF=> ?_;refine hh1 hFn fun QB=> ?_;clear hb hw hex hmt fM hr1 hr2 hF hFn
 go_enter Tryz.func218,Tryz.ntmps218
 go_wp2_with fail
 go_quiet (fail)
 go_upto_if 78 with fail
 go_cut [14,15] from 78 to 84 (fun ev mv wx=>ev= .int .i64 (if ex=0 then 1 else ex:Nat)/\mv= .int .u64 (if ex=0 then mt else mt+4503599627370496:Nat)/\Mod (fun _=>False) w wx)
 case first=>
  by_cases h0:ex=0
  ·have h0':((ex:Int)==0)=true:=by rw [beq_iff_eq];omega
   have i1:(ex:Int)+1=((if ex=0 then 1 else ex:Nat):Int):=by rw [if_pos h0];omega
   have i2:(if ex=0 then mt else mt+4503599627370496:Nat)=mt:=if_pos h0;refine hh2 i1 i2 fun I1 I2=> ?_;clear i1 i2 h0
   go_wp2_with fail
   go_meet
   case rel=>exact ⟨a02 I1.out,a02 (by rw [I2.out]),(Mod.refl _ _).drewN _⟩
  have h0':((ex:Int)==0)=false:=by rw [beq_eq_false_iff_ne];omega
  have i1:(ex:Int)=((if ex=0 then 1 else ex:Nat):Int):=by rw [if_neg h0]
  have i2:((if ex=0 then mt else mt+4503599627370496:Nat):Int)=((mt+4503599627370496:Nat):Int):=by rw [if_neg h0]
  have i3:=b5x mt Bo;refine hh2 i1 i2 fun I1 I2=> ?_;clear i1 i2 h0
  go_wp2_with fail
  go_meet
  case rel=>exact ⟨a02 I1.out,a02 (by rw [I2.out];omega),(Mod.refl _ _).drewN _⟩
 case rest=>
  obtain ⟨rfl,rfl,hmc⟩:=hcut;obtain ⟨w0,rfl⟩:∃w0:World,w0=wc:=⟨_,rfl⟩;obtain ⟨ee,uH⟩:∃ee:Nat,(if ex=0 then 1 else ex:Nat)=ee:=⟨_,rfl⟩;obtain ⟨m,hm⟩:∃m:Nat,(if ex=0 then mt else mt+4503599627370496:Nat)=m:=⟨_,rfl⟩;have IR:1<=ee/\ee<2047:=by rw [<-uH];split<;>omega
  have hm1:m<9007199254740992:=by rw [<-hm];split<;>omega
  rw [uH,hm];obtain ⟨xn,QC⟩:=IR;have hb0:=Hb.out.rebase hmc;have hw0:=Hw.out.mod0 hmc;have QD:(1:Int)<=ee:=zo
  refine hh5 uH hm hmc hb0 hw0 fun QE Hm nz Hb0 NF=> ?_;clear uH hm hmc hb0 hw0 Hb Hw;by_cases h0:m=0
  ·have h0':((m:Int)==0)=true:=by rw [beq_iff_eq];omega
   have hz:=Lib.hid (b3B F w0 (.slice ad 0 cap) neg Hb0.out);have QF:=zh h0;clear h0
   go_wp2_with fail
   refine hz.out.mono ?_;rintro x w1 ⟨v1,rfl,hb1⟩
   go_wp2
   go_ret;refine ⟨v1,rfl, ?_⟩
   have h2:C1 b=B6 neg++[48]:=by
    have h3:=Hm.out;have h4:=QF.out;have h5:=Ac.out;have h6:=Bp.out
    have h7:ex=0:=by
     by_cases h:ex=0
     ·exact h
     rw [if_neg h] at h3;omega
    rw [if_pos h7] at h3;unfold C1;rw [a8E NE,if_neg zo,if_pos zo];rfl
   rw [<-rR.out,h2];exact hb1.under nz.out
  have h0':((m:Int)==0)=false:=by rw [beq_eq_false_iff_ne];omega
  have hbl:=fun wx=>Tryz.bits_Len64 (m:Int) wx zo zo;rw [Int.toNat_natCast,a7r m zo zo] at hbl;have IU:m.log2<=52:=Nat.le_of_lt_succ ((Nat.log2_lt zo).2 zo);obtain ⟨L,hL⟩:∃L,m.log2+1=L:=⟨_,rfl⟩;rw [hL] at hbl;have hL1:1<=L:=zo
  have QG:L<=53:=zo
  have xq:=Bp.out;have rT:=Ac.out;have hm2:=Hm.out;have xn:=QE.out;obtain ⟨r,hr⟩:∃r,b%2^63=r:=⟨_,rfl⟩;rw [hr] at xq rT
  have gL:a3Y r=m:=by
   unfold a3Y;rw [rT,xq,<-hm2];split
   ·omega
   rfl
  have hsh:sh r=64 - L:=by unfold sh;rw [gL];omega
  have hM:mOf r=m*2^(64 - L):=by unfold mOf;rw [gL,hsh]
  have hE:eOf r=(ee:Int)+ -1023 - (64 - (L:Int)) - 52:=by
   unfold eOf b3i;rw [rT,hsh,xn];omega
  have hr1:1<=r:=by
   rcases Nat.eq_zero_or_pos r with h|h
   ·exfalso;subst h;unfold a3Y at gL;simp at gL;omega
   exact h
  have hr2:r<2047*2^52:=zo
  obtain ⟨p1,p2,p3,p4,p5⟩:=a52 r hr1 hr2;obtain ⟨d,p,hs⟩:=a54 r hr1 hr2;have hsw:=fun wx hx=>b3o wx hx (mOf r) (eOf r) p1 p2 p3 p4 p5;rw [hs.is] at hsw
  have IV:IntKind.u64.wrap ((m:Int)*2^(64 - L))=(mOf r:Nat):=by
   rw [wrap_u64,hM]
   have:((m*2^(64 - L):Nat):Int)=(m:Int)*2^(64 - L):=by
    rw [Int.natCast_mul,Int.natCast_pow];rfl
   rw [<-this,<-hM];omega
  obtain ⟨M,IW⟩:∃M,mOf r=M:=⟨_,rfl⟩;obtain ⟨E,IX⟩:∃E,eOf r=E:=⟨_,rfl⟩;rw [IX] at hE hsw;rw [IW] at IV hsw;obtain ⟨wa,ak⟩:∃wa:World,w0.alloc (.cells #[.int .u8 0,.int .u8 0,.int .u8 0,.int .u8 0,.int .u8 0,.int .u8 0,.int .u8 0,.int .u8 0,.int .u8 0,.int .u8 0,.int .u8 0,.int .u8 0,.int .u8 0,.int .u8 0,.int .u8 0,.int .u8 0,.int .u8 0,.int .u8 0,.int .u8 0,.int .u8 0,.int .u8 0,.int .u8 0,.int .u8 0,.int .u8 0,.int .u8 0,.int .u8 0,.int .u8 0,.int .u8 0,.int .u8 0,.int .u8 0,.int .u8 0,.int .u8 0] 313)=wa:=⟨_,rfl⟩;have hm1:Mod (fun _=>False) w0 wa:=ak▸(Mod.refl (fun _=>False) w0).alloc _;have hg1:wa.heap[w0.heap.size]? =some (.cells #[.int .u8 0,.int .u8 0,.int .u8 0,.int .u8 0,.int .u8 0,.int .u8 0,.int .u8 0,.int .u8 0,.int .u8 0,.int .u8 0,.int .u8 0,.int .u8 0,.int .u8 0,.int .u8 0,.int .u8 0,.int .u8 0,.int .u8 0,.int .u8 0,.int .u8 0,.int .u8 0,.int .u8 0,.int .u8 0,.int .u8 0,.int .u8 0,.int .u8 0,.int .u8 0,.int .u8 0,.int .u8 0,.int .u8 0,.int .u8 0,.int .u8 0,.int .u8 0] 313 (0,0)):=ak▸heap_alloc_new w0 _;have hw1:=NF.out.mod0 hm1;have hpos:=hr1;refine hh8 hpos hbl hL ak hM hE IV IW fun lq QH HL aB HM HE QI WA=> ?_;refine hh8 IX hsw hs hr hsh gL hm1 hg1 fun WB QJ Hs Hr NG NH dn Ad=> ?_;refine hh1 hw1 fun gW=> ?_;clear hpos hbl hL ak hM hE IV IW IX hsw hs hr hsh gL hm1 hg1 hw1 IU p1 p2 p3 p4 p5 hr1 hr2 xq rT hm2 xn
  go_wp2_with (rw [show w0.alloc _=wa from aB.out])
  refine (QH.out _).mono ?_;rintro x w1 ⟨rfl,rfl⟩
  go_wp2_with fail
  rw [show IntKind.u64.wrap ((m:Int)*2^(64 - L))=(M:Nat) from QI.out,show (ee:Int)+ -1023 - (64 - (L:Int)) - 52=E from HE.out.symm];refine (QJ.out _ gW.out).mono ?_;rintro x w2 ⟨rfl,hm2⟩;have hw2:=gW.out.mod0 hm2;have hg2:=hm2.heap Ad.out id;have hdp:=Hs.out.pos;have hdl:=Hs.out.lt;have QK:=Hs.out.lo;have QL:=Hs.out.hi;have hnd:=a8C d hdl;have hdt:=a5d d hdp
  have hsd:=fun (wx:World) (hx:Mod (fun _=>False) w2 wx)=>b0P wx w0.heap.size #[.int .u8 0,.int .u8 0,.int .u8 0,.int .u8 0,.int .u8 0,.int .u8 0,.int .u8 0,.int .u8 0,.int .u8 0,.int .u8 0,.int .u8 0,.int .u8 0,.int .u8 0,.int .u8 0,.int .u8 0,.int .u8 0,.int .u8 0,.int .u8 0,.int .u8 0,.int .u8 0,.int .u8 0,.int .u8 0,.int .u8 0,.int .u8 0,.int .u8 0,.int .u8 0,.int .u8 0,.int .u8 0,.int .u8 0,.int .u8 0,.int .u8 0,.int .u8 0] 313 d (Lib.nDigits d) p (hx.heap hg2 id) (fun j hj=>by
   have:j<32:=hj;rcases j with _|_|_|_|_|_|_|_|_|_|_|_|_|_|_|_|_|_|_|_|_|_|_|_|_|_|_|_|_|_|_|_|j
   all_goals first|rfl|omega) zo rfl zo (b5y d) zo
  have xu:=fun (wx:World) (hx:Mod (fun _=>False) w2 wx)=>Tryz.internal_strconv_numDigits d zo zo wx (hw2.mod0 hx).u10;obtain ⟨nd,xw⟩:∃n,Lib.nDigits d=n:=⟨_,rfl⟩;rw [xw] at hsd xu hnd;obtain ⟨tn,htn⟩:∃n,B0 (Lib.decDigits d)=n:=⟨_,rfl⟩;rw [htn] at hsd;refine hh8 hm2 hw2 hg2 hsd xu xw htn hdt fun aS Gt uI QM IY xx Bq NI=> ?_;clear hm2 hw2 hg2 hsd xu xw htn hdt hdp hdl
  go_wp2_with fail
  have hS:(fun _:World=>True) w2.drew:=trivial;refine i6 [.rd 0,.rd 1,.rd 2,.rd 3,.go 4,.go 5,.rd 6,.rd 7,.rd 8,.rd 9,.rd 10] [] (fun _:World=>True) zk zk (fun _ _ d _ _ h=>(by cases d<;>exact h)) ?_
  iterate 4 (
   refine wrd hS fun K hK=> ?_
   go_simp;refine hK _ ?_;clear hK K)
  refine wgo fun K hK=> ?_;(try simp only [zz1,zz2,zz3])
  go_wp2_with fail
  refine (IY.out _ ((Mod.refl _ _).drew)).mono ?_;rintro x w3 ⟨rfl,rfl⟩;go_simp;refine hK _ _ (fun h=>absurd h zd) ?_;clear hK K;refine wgo fun K hK=> ?_;(try simp only [zz1,zz2,zz3])
  go_wp2_with fail
  refine (QM.out _ ((Mod.refl _ _).drew)).mono ?_;rintro x w4 ⟨rfl,hd4,aM⟩
  have aV:Mod (fun _=>False) w0 w4:=by
   refine Mod.trans (dn.out.trans (aS.out.drew) zi) (aM.mono (G:=fun k=>k=w0.heap.size) zi) (fun b hb h=> ?_);omega
  have IZ:a1r w4 w0.heap.size (P5 d):=fun j u hu=>by
   refine hd4 j u ?_;unfold P5 at hu;rw [List.getElem?_take] at hu;split at hu
   ·exact hu
   ·cases hu
  have hlen:(P5 d).length=tn:=by
   unfold P5;rw [List.length_take,Bq.out];have:=a1P (Lib.decDigits d);rw [Bq.out] at this;omega
  have rU:dpT r=(nd:Int)+p:=by
   unfold dpT;rw [Hs.out.is];simp only;rw [Lib.decDigits_length,xx.out]
  have QN:0<tn:=by
   rw [<-hlen];exact List.length_pos_iff.2 NI.out.2.1
  have QO:tn<=19:=by
   have h1:=NI.out.2.2.1;rw [hlen,Lib.decDigits_length,xx.out] at h1;omega
  have xy:=b5v F w4 (.slice ad 0 cap) w0.heap.size neg (P5 d) (dpT r) (Hb0.out.rebase aV) IZ (QB.out _ nz.out.size) zo zo (by rw [rU];omega);rw [hlen,rU] at xy;refine hh7 aV xy hlen rU hd4 aM IZ fun bS Ja Hlen QP WC fu WE=> ?_;clear aV xy hlen rU hd4 aM IZ;go_simp;refine hK _ _ (fun h=>absurd h zd) ?_;clear hK K;have hS:(fun _:World=>True) w4:=trivial
  iterate 5 (
   refine wrd hS fun K hK=> ?_
   go_simp;refine hK _ ?_;clear hK K)
  refine p8 ?_
  go_wp2_with fail
  refine Ja.out.mono ?_;rintro x w5 ⟨v5,rfl,hb5⟩;have Hb5:=zh hb5;clear hb5
  go_wp2
  go_ret;refine ⟨v5,rfl, ?_⟩;have h1:=(Hb5.out.under bS.out).under nz.out
  have h2:C1 b=V4 neg (P5 d) (nd+p):=by
   have hz:=Hr.out;have hp1:=lq.out;unfold C1;rw [a8E NE,if_neg (by have:=Ac.out;omega),if_neg zo,hz,Hs.out.is];simp only;rw [Lib.decDigits_length,xx.out]
  rw [<-rR.out,h2];exact h1
end Go.Proofs.YtdmjoodhaeijmaaGreatDoor
