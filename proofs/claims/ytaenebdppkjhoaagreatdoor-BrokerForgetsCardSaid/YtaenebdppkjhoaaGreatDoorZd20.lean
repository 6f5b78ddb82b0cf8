/- Lemmas of this claim. -/
import Derived.Test.YtaenebdppkjhoaaGreatDoorZd17
import Derived.Test.YtaenebdppkjhoaaGreatDoorZd16
import Derived.Lib.ItoaNum
import Derived.Test.YtaenebdppkjhoaaGreatDoorZd5
namespace Go.Proofs.YtaenebdppkjhoaaGreatDoor
set_option maxRecDepth 20000
set_option maxHeartbeats 40000000
section
def isDig (c:UInt8):Prop:=48≤c.toNat∧c.toNat≤57
structure Clean (ds:List UInt8):Prop where
 dig:∀c∈ds,isDig c
 fst:∀c,ds.head? =some c→c≠48
 lst:trimN ds=ds.length
def bodyT (ds:List UInt8) (dp:Int):List UInt8:=efgT false ds dp
theorem efg_sgn (neg:Bool) (ds:List UInt8) (dp:Int):efgT neg ds dp=sgnT neg++bodyT ds dp:=by
 unfold bodyT efgT sgnT
 cases neg<;>simp only [Bool.false_eq_true,if_false,if_true,List.nil_append,List.append_assoc]<;>repeat' split
 all_goals rfl
def decE (l:List UInt8):Int:=
 match l with
 |45::r=> -(r.foldl (fun a c=>10*a+(c.toNat - 48)) 0:Nat)
 |_::r=>(r.foldl (fun a c=>10*a+(c.toNat - 48)) 0:Nat)
 |[]=>0
theorem decE_all:(List.range 1001).all (fun i=>decide (decE (expT ((i:Int) - 500))=(i:Int) - 500))=true:=by decide+kernel
theorem decE_ok (x:Int) (h: -500≤x∧x≤500):decE (expT x)=x:=by
 have:=of_decide_eq_true (List.all_eq_true.1 decE_all (x+500).toNat (List.mem_range.2 (by omega)))
 rw [show (((x+500).toNat:Nat):Int) - 500=x by omega] at this
 exact this
def strip (L:List UInt8):List UInt8:=(L.dropWhile (· ==48)).take (trimN (L.dropWhile (· ==48)))
def decT (t:List UInt8):List UInt8×Int:=
 let pre:=t.takeWhile (· !=101)
 let x:=decE ((t.dropWhile (· !=101)).drop 1)
 let i:=pre.takeWhile (· !=46)
 let L:=i++(pre.dropWhile (· !=46)).drop 1
 (strip L,i.length - (L.takeWhile (· ==48)).length+x)
theorem dig_ne {c:UInt8} (h:isDig c) (k:UInt8) (hk:k=101∨k=46∨k=45):(c !=k)=true:=by
 rw [bne_iff_ne]
 rintro rfl
 unfold isDig at h
 rcases hk with rfl|rfl|rfl<;>revert h<;>decide
theorem zero_dig:isDig 48:=by unfold isDig;decide
theorem zeros_dig (n:Nat):∀c∈zeros n,isDig c:=fun c hc=>by rw [(List.mem_replicate.1 hc).2];exact zero_dig
theorem tw_all {l:List UInt8} (k:UInt8) (hk:k=101∨k=46∨k=45) (h:∀c∈l,isDig c) (r:List UInt8):(l++r).takeWhile (· !=k)=l++r.takeWhile (· !=k):=
 List.takeWhile_append_of_pos fun c hc=>dig_ne (h c hc) k hk
theorem dw_all {l:List UInt8} (k:UInt8) (hk:k=101∨k=46∨k=45) (h:∀c∈l,isDig c) (r:List UInt8):(l++r).dropWhile (· !=k)=r.dropWhile (· !=k):=
 List.dropWhile_append_of_pos fun c hc=>dig_ne (h c hc) k hk
theorem trim_zeros (l:List UInt8) (n:Nat):trimN (l++zeros n)=trimN l:=by
 induction n with
 |zero=>simp [zeros]
 |succ n ih=>
  have:l++zeros (n+1)=l++zeros n++[48]:=by unfold zeros;rw [List.append_assoc,List.replicate_succ']
  rw [this,trim_snoc,if_pos rfl,ih]
theorem lead_clean {ds:List UInt8} (h:Clean ds) (hne:ds≠[]) (r:List UInt8) (k:Nat):(zeros k++(ds++r)).dropWhile (· ==48)=ds++r∧((zeros k++(ds++r)).takeWhile (· ==48)).length=k:=by
 have hz:∀c∈zeros k,(c==48)=true:=fun c hc=>by rw [(List.mem_replicate.1 hc).2];rfl
 rw [List.dropWhile_append_of_pos hz,List.takeWhile_append_of_pos hz]
 cases ds with
 |nil=>exact absurd rfl hne
 |cons c l=>
  have:=h.fst c rfl
  have hc:(c==48)=false:=by rw [beq_eq_false_iff_ne];exact this
  rw [List.cons_append,List.dropWhile_cons,List.takeWhile_cons,hc]
  simp [zeros]
theorem strip_clean {ds:List UInt8} (h:Clean ds) (hne:ds≠[]) (k n:Nat):strip (zeros k++(ds++zeros n))=ds∧((zeros k++(ds++zeros n)).takeWhile (· ==48)).length=k:=by
 obtain ⟨h1,h2⟩:=lead_clean h hne (zeros n) k
 refine ⟨?_,h2⟩
 unfold strip
 rw [h1,trim_zeros,h.lst,List.take_left']
 rfl
theorem decT_body {ds:List UInt8} {dp:Int} (h:Clean ds) (hd:ds=[]→dp=0) (hr: -400≤dp∧dp≤400):decT (bodyT ds dp)=(ds,dp):=by
 by_cases h0:ds=[]
 ·subst h0
  rw [hd rfl]
  decide
 have hlen:0<ds.length:=List.length_pos_iff.2 h0
 have hdt:∀k,∀c∈ds.take k,isDig c:=fun k c hc=>h.dig c (List.mem_of_mem_take hc)
 have hdd:∀k,∀c∈ds.drop k,isDig c:=fun k c hc=>h.dig c (List.mem_of_mem_drop hc)
 have e101:(101:UInt8)=101∨(101:UInt8)=46∨(101:UInt8)=45:= .inl rfl
 have e46:(46:UInt8)=101∨(46:UInt8)=46∨(46:UInt8)=45:= .inr (.inl rfl)
 have sc0:=strip_clean h h0 0 0
 simp only [zeros,List.replicate_zero,List.nil_append,List.append_nil] at sc0
 unfold bodyT efgT
 rw [if_neg h0]
 simp only [sgnT,Bool.false_eq_true,if_false,List.nil_append]
 by_cases h1:dp - 1< -4∨6≤dp - 1
 ·rw [if_pos h1]
  have tk1:(ds.take 1).length=1:=by rw [List.length_take];omega
  by_cases hl:ds.length≤1
  ·have hfr:frac ds=[]:=if_pos hl
   have htk:ds.take 1=ds:=List.take_of_length_le hl
   rw [hfr,List.append_nil,htk]
   unfold decT
   simp only
   rw [List.append_assoc,tw_all 101 e101 h.dig,dw_all 101 e101 h.dig]
   have t1:([101]++expT (dp - 1)).takeWhile (· !=101)=[]:=rfl
   have t2:(([101]++expT (dp - 1)).dropWhile (· !=101)).drop 1=expT (dp - 1):=rfl
   rw [t1,t2]
   have t3:(ds++[]).takeWhile (· !=46)=ds++[]:=tw_all 46 e46 h.dig []
   have t4:(ds++[]).dropWhile (· !=46)=[]:=dw_all 46 e46 h.dig []
   rw [t3,t4]
   simp only [List.append_nil,List.drop_nil]
   rw [sc0.1,sc0.2,decE_ok _ (by omega)]
   congr 1
   omega
  ·have hfr:frac ds=46::ds.drop 1:=if_neg hl
   rw [hfr]
   unfold decT
   simp only
   have a1:ds.take 1++46::ds.drop 1++[101]++expT (dp - 1)=(ds.take 1++([46]++(ds.drop 1++([101]++expT (dp - 1))))):=by simp
   rw [a1,tw_all 101 e101 (hdt 1),dw_all 101 e101 (hdt 1)]
   have t0:([46]++(ds.drop 1++([101]++expT (dp - 1)))).takeWhile (· !=101)=[46]++(ds.drop 1++([101]++expT (dp - 1))).takeWhile (· !=101):=List.takeWhile_append_of_pos (by decide)
   have t0':([46]++(ds.drop 1++([101]++expT (dp - 1)))).dropWhile (· !=101)=(ds.drop 1++([101]++expT (dp - 1))).dropWhile (· !=101):=List.dropWhile_append_of_pos (by decide)
   rw [t0,t0',tw_all 101 e101 (hdd 1),dw_all 101 e101 (hdd 1)]
   have t1:([101]++expT (dp - 1)).takeWhile (· !=101)=[]:=rfl
   have t2:(([101]++expT (dp - 1)).dropWhile (· !=101)).drop 1=expT (dp - 1):=rfl
   rw [t1,t2,tw_all 46 e46 (hdt 1),dw_all 46 e46 (hdt 1)]
   have t3:([46]++(ds.drop 1++[])).takeWhile (· !=46)=[]:=rfl
   have t4:(([46]++(ds.drop 1++[])).dropWhile (· !=46)).drop 1=ds.drop 1++[]:=rfl
   rw [t3,t4]
   simp only [List.append_nil,List.take_append_drop]
   rw [sc0.1,sc0.2,tk1,decE_ok _ (by omega)]
   congr 1
   omega
 ·rw [if_neg h1]
  by_cases h2:dp≤0
  ·rw [if_pos h2]
   have a1:[48,46]++zeros (-dp).toNat++ds=[48]++([46]++(zeros (-dp).toNat++ds)):=by simp
   have hdz:∀c∈zeros (-dp).toNat++ds,isDig c:=fun c hc=>by
    rcases List.mem_append.1 hc with hc|hc
    ·exact zeros_dig _ c hc
    ·exact h.dig c hc
   have hall:∀c∈([48]++([46]++(zeros (-dp).toNat++ds)):List UInt8),(c !=101)=true:=fun c hc=>by
    rcases List.mem_append.1 hc with hc|hc
    ·rw [List.mem_singleton.1 hc];rfl
    rcases List.mem_append.1 hc with hc|hc
    ·rw [List.mem_singleton.1 hc];rfl
    ·exact dig_ne (hdz c hc) 101 e101
   rw [a1]
   unfold decT
   simp only
   have t1:=List.takeWhile_append_of_pos (l₂:=[]) hall
   have t2:=List.dropWhile_append_of_pos (l₂:=[]) hall
   simp only [List.append_nil,List.takeWhile_nil,List.dropWhile_nil] at t1 t2
   rw [t1,t2]
   have t3:([48]++([46]++(zeros (-dp).toNat++ds))).takeWhile (· !=46)=[48]:=rfl
   have t4:(([48]++([46]++(zeros (-dp).toNat++ds))).dropWhile (· !=46)).drop 1=zeros (-dp).toNat++ds:=rfl
   rw [t3,t4]
   have a2:[48]++(zeros (-dp).toNat++ds)=zeros ((-dp).toNat+1)++(ds++zeros 0):=by
    simp [zeros,List.replicate_succ]
   rw [a2,(strip_clean h h0 _ 0).1,(strip_clean h h0 _ 0).2]
   simp only [List.drop_nil,decE,List.length_singleton]
   congr 1
   omega
  ·rw [if_neg h2]
   obtain ⟨p,rfl⟩:∃p:Nat,dp=p:=⟨dp.toNat,by omega⟩
   rw [Int.toNat_natCast]
   by_cases h3:(p:Int)<ds.length
   ·rw [if_pos h3]
    have a1:ds.take p++[46]++ds.drop p=ds.take p++([46]++ds.drop p):=by simp
    have hall:∀c∈(ds.take p++([46]++ds.drop p):List UInt8),(c !=101)=true:=fun c hc=>by
     rcases List.mem_append.1 hc with hc|hc
     ·exact dig_ne (hdt p c hc) 101 e101
     rcases List.mem_append.1 hc with hc|hc
     ·rw [List.mem_singleton.1 hc];rfl
     ·exact dig_ne (hdd p c hc) 101 e101
    rw [a1]
    unfold decT
    simp only
    have t1:=List.takeWhile_append_of_pos (l₂:=[]) hall
    have t2:=List.dropWhile_append_of_pos (l₂:=[]) hall
    simp only [List.append_nil,List.takeWhile_nil,List.dropWhile_nil] at t1 t2
    rw [t1,t2,tw_all 46 e46 (hdt p),dw_all 46 e46 (hdt p)]
    have t3:([46]++ds.drop p).takeWhile (· !=46)=[]:=rfl
    have t4:(([46]++ds.drop p).dropWhile (· !=46)).drop 1=ds.drop p:=rfl
    rw [t3,t4]
    simp only [List.append_nil,List.take_append_drop]
    rw [sc0.1,sc0.2]
    simp only [List.drop_nil,decE,List.length_take]
    congr 1
    omega
   ·rw [if_neg h3]
    have hdz:∀c∈ds++zeros (p - ds.length),isDig c:=fun c hc=>by
     rcases List.mem_append.1 hc with hc|hc
     ·exact h.dig c hc
     ·exact zeros_dig _ c hc
    unfold decT
    simp only
    have t1:=tw_all 101 e101 hdz []
    have t2:=dw_all 101 e101 hdz []
    have t3:=tw_all 46 e46 hdz []
    have t4:=dw_all 46 e46 hdz []
    simp only [List.append_nil,List.takeWhile_nil,List.dropWhile_nil] at t1 t2 t3 t4
    rw [t1,t2,t3,t4]
    have sc:=strip_clean h h0 0 (p - ds.length)
    simp only [show zeros 0=[] from rfl,List.nil_append] at sc
    simp only [List.drop_nil,List.append_nil]
    rw [sc.1,sc.2]
    simp only [decE,List.length_append,zeros,List.length_replicate]
    congr 1
    omega
theorem body_head {ds:List UInt8} {dp:Int} (h:Clean ds):∃c r,bodyT ds dp=c::r∧isDig c:=by
 unfold bodyT efgT
 simp only [sgnT,Bool.false_eq_true,if_false,List.nil_append]
 cases ds with
 |nil=>exact ⟨48,[],rfl,zero_dig⟩
 | cons a l=>
  have ha:isDig a:=h.dig a List.mem_cons_self
  rw [if_neg (by simp)]
  split
  ·exact ⟨a,_,by simp;rfl,ha⟩
  split
  ·exact ⟨48,_,by simp;rfl,zero_dig⟩
  split
  ·rename_i h1 h2 h3
   obtain ⟨p,hp⟩:∃p:Nat,dp.toNat=p+1:=⟨dp.toNat - 1,by omega⟩
   rw [hp]
   exact ⟨a,_,by simp;rfl,ha⟩
  ·exact ⟨a,_,by simp;rfl,ha⟩
theorem efg_inj {n1 n2:Bool} {d1 d2:List UInt8} {p1 p2:Int} (c1:Clean d1) (c2:Clean d2) (z1:d1=[]→p1=0) (z2:d2=[]→p2=0) (r1: -400≤p1∧p1≤400) (r2: -400≤p2∧p2≤400)
 (h:efgT n1 d1 p1=efgT n2 d2 p2):n1=n2∧d1=d2∧p1=p2:=by
 rw [efg_sgn,efg_sgn] at h
 obtain ⟨a1,l1,b1,g1⟩:=body_head (dp:=p1) c1
 obtain ⟨a2,l2,b2,g2⟩:=body_head (dp:=p2) c2
 have hn:n1=n2∧bodyT d1 p1=bodyT d2 p2:=by
  have ne1:=dig_ne g1 45 (.inr (.inr rfl))
  have ne2:=dig_ne g2 45 (.inr (.inr rfl))
  rw [bne_iff_ne] at ne1 ne2
  cases n1<;>cases n2<;>simp only [sgnT,Bool.false_eq_true,if_false,if_true,List.nil_append] at h
  ·exact ⟨rfl,h⟩
  ·rw [b1] at h;simp at h;exact absurd h.1 ne1
  ·rw [b2] at h;simp at h;exact absurd h.1.symm ne2
  ·simp at h;exact ⟨rfl,h⟩
 have e1:=decT_body c1 z1 r1
 have e2:=decT_body c2 z2 r2
 rw [hn.2,e2] at e1
 exact ⟨hn.1,(congrArg Prod.fst e1).symm,(congrArg Prod.snd e1).symm⟩
def nval (l:List UInt8):Nat:=l.foldl (fun a c=>10*a+(c.toNat - 48)) 0
theorem nval_snoc (l:List UInt8) (c:UInt8):nval (l++[c])=10*nval l+(c.toNat - 48):=by unfold nval;rw [List.foldl_append];rfl
theorem nval_zeros (l:List UInt8) (n:Nat):nval (l++zeros n)=nval l*10^n:=by
 induction n with
 |zero=>simp [zeros]
 |succ n ih=>
  have:l++zeros (n+1)=l++zeros n++[48]:=by unfold zeros;rw [List.append_assoc,List.replicate_succ']
  rw [this,nval_snoc,ih,Nat.pow_succ]
  have:(48:UInt8).toNat - 48=0:=rfl
  rw [this,Nat.add_zero,←Nat.mul_assoc,Nat.mul_comm 10 (nval l),Nat.mul_assoc,Nat.mul_comm 10,←Nat.mul_assoc]
theorem head_app {a b:List UInt8} (h:a≠[]):(a++b).head? =a.head? :=by
 cases a with
 |nil=>exact absurd rfl h
 |cons c l=>rfl
theorem dec_is (u:Nat):nval (Lib.decDigits u)=u∧(∀c∈Lib.decDigits u,isDig c)∧(0<u→∀c,(Lib.decDigits u).head? =some c→c≠48)∧Lib.decDigits u≠[]:=by
 induction u using Nat.strongRecOn with
 | ind u ih=>
  have tn:∀i,i<10→(UInt8.ofNat (48+i)).toNat=48+i:=fun i hi=>by
   show (48+i)%256=48+i
   omega
  rw [Lib.decDigits]
  split
  ·rename_i h
   refine ⟨?_, ?_, ?_,by simp⟩
   ·show 10*0+_=u
    rw [tn u h];omega
   ·intro c hc
    rw [List.mem_singleton.1 hc]
    unfold isDig;rw [tn u h];omega
   ·intro h0 c hc
    have hc:UInt8.ofNat (48+u)=c:=Option.some.inj hc
    subst hc
    intro e
    have e2:(UInt8.ofNat (48+u)).toNat=48:=congrArg UInt8.toNat e
    rw [tn u h] at e2
    omega
  ·rename_i h
   obtain ⟨i1,i2,i3,i4⟩:=ih (u / 10) (by omega)
   refine ⟨?_, ?_, ?_,by simp⟩
   ·rw [nval_snoc,i1,tn _ (by omega)];omega
   ·intro c hc
    rcases List.mem_append.1 hc with hc|hc
    ·exact i2 c hc
    ·rw [List.mem_singleton.1 hc]
     unfold isDig;rw [tn _ (by omega)];omega
   ·intro _ c hc
    rw [head_app i4] at hc
    exact i3 (by omega) c hc
theorem trim_split (l:List UInt8):l=l.take (trimN l)++zeros (l.length - trimN l):=by
 suffices∀r:List UInt8,r.reverse=r.reverse.take (trimN r.reverse)++zeros (r.reverse.length - trimN r.reverse) by
  have:=this l.reverse;rwa [List.reverse_reverse] at this
 intro r
 induction r with
 |nil=>rfl
 | cons c r ih=>
  rw [List.reverse_cons,trim_snoc]
  by_cases hc:c=48
  ·subst hc
   rw [if_pos rfl]
   have hle:=trim_le r.reverse
   rw [List.take_append_of_le_length hle]
   have:(r.reverse++[48]).length - trimN r.reverse=(r.reverse.length - trimN r.reverse)+1:=by simp at hle⊢;omega
   rw [this]
   have z:zeros (r.reverse.length - trimN r.reverse+1)=zeros (r.reverse.length - trimN r.reverse)++[48]:=by unfold zeros;rw [List.replicate_succ']
   rw [z,←List.append_assoc,←ih]
  ·rw [if_neg hc]
   rw [List.take_of_length_le (by simp)]
   simp [zeros]
theorem trim_idem (l:List UInt8):trimN (l.take (trimN l))=(l.take (trimN l)).length:=by
 have h:=trim_split l
 have h2:=trim_zeros (l.take (trimN l)) (l.length - trimN l)
 rw [←h] at h2
 rw [←h2,List.length_take,Nat.min_eq_left (trim_le l)]
def digT (d:Nat):List UInt8:=(Lib.decDigits d).take (trimN (Lib.decDigits d))
theorem digT_is (d:Nat) (h:0<d):Clean (digT d)∧digT d≠[]∧(digT d).length≤(Lib.decDigits d).length∧d=nval (digT d)*10^((Lib.decDigits d).length - (digT d).length):=by
 obtain ⟨h1,h2,h3,h4⟩:=dec_is d
 have hs:=trim_split (Lib.decDigits d)
 have hlen:(digT d).length=trimN (Lib.decDigits d):=by unfold digT;rw [List.length_take,Nat.min_eq_left (trim_le _)]
 have hd:d=nval (digT d)*10^((Lib.decDigits d).length - (digT d).length):=by
  rw [hlen]
  have:=nval_zeros (digT d) ((Lib.decDigits d).length - trimN (Lib.decDigits d))
  rw [←this]
  unfold digT
  rw [←hs,h1]
 have hne:digT d≠[]:=fun e=>by
  rw [e] at hd
  have:nval []=0:=rfl
  rw [this] at hd
  omega
 refine ⟨⟨fun c hc=>h2 c (List.mem_of_mem_take hc),fun c hc=>h3 h c ?_,trim_idem _⟩,hne,by rw [hlen];exact trim_le _,hd⟩
 rw [hs]
 show (digT d++_).head? =some c
 rw [head_app hne]
 exact hc
def fltT (b:Nat):List UInt8:=
 if b%2^63 / 2^52=2047 then (if b%2^52≠0 then [78,97,78] else if b / 2^63≠0 then [45,73,110,102] else [43,73,110,102])
 else if b%2^63=0 then efgT (decide (b / 2^63≠0)) [] 0
 else efgT (decide (b / 2^63≠0)) (digT (shortF (mOf (b%2^63)) (eOf (b%2^63))).1) ((Lib.decDigits (shortF (mOf (b%2^63)) (eOf (b%2^63))).1).length+(shortF (mOf (b%2^63)) (eOf (b%2^63))).2)
theorem parts_ok (r:Nat) (h1:1≤r) (h2:r<2047*2^52):9223372036854775808≤mOf r∧mOf r<18446744073709551616∧ -1137≤eOf r∧eOf r≤960∧(sclOf (mOf r) (eOf r)).mx<18446744073709551616:=by
 have W:W64=18446744073709551616:=rfl
 have fin:∀{M z:Nat} {e p:Int},Gen r M z e p→ -1137≤e→e≤960→9223372036854775808≤mOf r∧mOf r<18446744073709551616∧ -1137≤eOf r∧eOf r≤960∧(sclOf (mOf r) (eOf r)).mx<18446744073709551616:=by
  intro M z e p hg a b
  have h3:=hg.hW
  rw [W] at h3
  rw [hg.hm,hg.he,hg.hc]
  exact ⟨hg.hM,Nat.lt_of_le_of_lt (Nat.le_add_right _ _) h3,a,b,h3⟩
 by_cases hs:r<2^52
 ·have hb0:r≠0:=by omega
  have l3:r.log2<52:=(Nat.log2_lt hb0).2 hs
  exact fin (gen_sub r _ (Nat.log2_self_le hb0) Nat.lt_log2_self l3) (by omega) (by omega)
 ·obtain ⟨k,hk⟩:∃k,r / 2^52=k:=⟨_,rfl⟩
  obtain ⟨f,hf⟩:∃f,r%2^52=f:=⟨_,rfl⟩
  have hb:r=k*2^52+f:=by omega
  by_cases ht:k=1∨f≠0
  ·have hg:=gen_norm k f (by omega) (by omega) ht
   rw [←hb] at hg
   exact fin hg (by omega) (by omega)
  ·have hm:mant r=2^52:=by unfold mant;rw [hk,hf,if_neg (by omega)];omega
   have hl:(2^52:Nat).log2=52:=log2_of (by omega) (by omega)
   have hsh:sh r=11:=by unfold sh;rw [hm,hl]
   have hmo:mOf r=9223372036854775808:=by unfold mOf;rw [hm,hsh]
   have heo:eOf r=(k:Int) - 1086:=by
    unfold eOf expo
    rw [hk,hsh,if_neg (by omega)]
    omega
   rw [hmo,heo]
   refine ⟨by omega,by omega,by omega,by omega, ?_⟩
   unfold sclOf
   split
   ·show 9223372036854775808+2^10<18446744073709551616
    omega
   ·split
    ·show 9223372036854775808+2^10<18446744073709551616
     omega
    ·omega
theorem short_bd (m:Nat) (e:Int) (hm1:m<18446744073709551616) (he0: -1137≤e) (he1:e≤960) (hmx:(sclOf m e).mx<18446744073709551616) (hmn:(sclOf m e).mn≤m):
 (shortF m e).1<10^19∧ -348≤(shortF m e).2∧(shortF m e).2≤349∧ -(sclOf m e).p≤(shortF m e).2:=by
 obtain ⟨a,b,c,d,o⟩:=scl_ok m e he0 he1
 have hp:=pw_in ((sclOf m e).p+348).toNat (by omega)
 have hs:1≤sOf e (sclOf m e).p:=by unfold sOf;omega
 have u:=fun x (hx:x<18446744073709551616)=>usc_le x (hiOf (sclOf m e).p) (loOf (sclOf m e).p) (sOf e (sclOf m e).p) hx hp.2.1 hs
 have u1:=u (sclOf m e).mn (by omega)
 have u2:=u (sclOf m e).mx hmx
 have u3:=u m hm1
 have e1:dminOf m e≤2305843009213693955:=by unfold dminOf;simp only;omega
 have e2:dmaxOf m e≤2305843009213693955:=by unfold dmaxOf;simp only;omega
 have e3:rnd (usc m (hiOf (sclOf m e).p) (loOf (sclOf m e).p) (sOf e (sclOf m e).p))≤2305843009213693955:=by unfold rnd;omega
 unfold shortF
 simp only
 split
 ·simp only;omega
 ·split
  ·simp only;omega
  ·simp only;omega
theorem scl_mn (m:Nat) (e:Int):(sclOf m e).mn≤m:=by
 unfold sclOf
 split
 ·exact Nat.sub_le _ _
 ·split<;>exact Nat.sub_le _ _
theorem low_pos (r:Nat) (h1:1≤r) (h2:r<2047*2^52):0<valV r:=by
 rcases Nat.lt_or_ge 1 r with h|h
 ·have:=val_lt 1 (r - 2) (by omega) (by omega)
  rw [show 1+(r - 2)+1=r by omega] at this
  omega
 ·have:r=1:=by omega
  subst this
  decide+kernel
structure Short (r d:Nat) (p:Int):Prop where
 is:shortF (mOf r) (eOf r)=(d,p)
 pos:0<d
 lt:d<10^19
 lo: -348≤p
 hi:p≤349
 p324: -324≤p
theorem short_of (r:Nat) (h1:1≤r) (h2:r<2047*2^52):∃d p,Short r d p:=by
 obtain ⟨a,b,c,d,e⟩:=parts_ok r h1 h2
 obtain ⟨f,g,h,i⟩:=short_bd (mOf r) (eOf r) b c d e (scl_mn _ _)
 refine ⟨(shortF (mOf r) (eOf r)).1,(shortF (mOf r) (eOf r)).2,rfl, ?_,f,g,h, ?_⟩
 ·have:=low_pos r h1 h2
  unfold valV at this
  rcases Nat.eq_zero_or_pos (shortF (mOf r) (eOf r)).1 with hz|hz
  ·simp only at this;rw [hz,Nat.zero_mul] at this;omega
  ·exact hz
 ·have hp:(sclOf (mOf r) (eOf r)).p≤324:=by
   unfold sclOf
   split
   ·simp only;unfold skewP;omega
   ·split
    ·simp only;unfold l10P2;omega
    ·simp only
     rw [show eOf r+(11+(-1085 - eOf r))= -1074 by omega]
     decide
  omega
theorem nd_le (d:Nat) (h:d<10^19):Lib.nDigits d≤19:=by
 rcases Nat.lt_or_ge 19 (Lib.nDigits d) with hl|hl
 ·exfalso
  have hne:=(dec_is d).2.2.2
  have key:∀(k u:Nat),k<Lib.nDigits u→0<u→10^k≤u:=by
   intro k
   induction k with
   |zero=>intro u _ hu;rw [Nat.pow_zero];exact hu
   | succ k ih=>
    intro u hk hu
    by_cases h10:u<10
    ·rw [Lib.nDigits_small h10] at hk;omega
    ·rw [Lib.nDigits_big h10] at hk
     have:=ih (u / 10) (by omega) (by omega)
     rw [Nat.pow_succ];omega
  have hd:0<d:=by
   rcases Nat.eq_zero_or_pos d with h0|h0
   ·rw [h0] at hl;rw [Lib.nDigits_small (by omega)] at hl;omega
   ·exact h0
  have:=key 19 d hl hd
  omega
 ·exact hl
def dpT (r:Nat):Int:=(Lib.decDigits (shortF (mOf r) (eOf r)).1).length+(shortF (mOf r) (eOf r)).2
theorem val_text (r:Nat) {d:Nat} {p:Int} (h:Short r d p):valV r=nval (digT d)*10^(324+(dpT r - (digT d).length)).toNat:=by
 obtain ⟨h1,h2,h3,h4⟩:=digT_is d h.pos
 have hp:=h.p324
 unfold valV dpT
 rw [h.is]
 simp only
 rw [show (324+((Lib.decDigits d).length+p - (digT d).length)).toNat=((Lib.decDigits d).length - (digT d).length)+(324+p).toNat by omega,Nat.pow_add,←Nat.mul_assoc,←h4]
theorem efg_heads {neg:Bool} {ds:List UInt8} {dp:Int} (h:Clean ds):(∃c r,efgT neg ds dp=c::r∧isDig c∧neg=false)∨(∃c r,efgT neg ds dp=45::c::r∧isDig c∧neg=true):=by
 rw [efg_sgn]
 obtain ⟨c,r,h1,h2⟩:=body_head (dp:=dp) h
 rw [h1]
 cases neg
 ·exact .inl ⟨c,r,rfl,h2,rfl⟩
 ·exact .inr ⟨c,r,rfl,h2,rfl⟩
inductive Way (b:Nat):Prop
 |nan (h1:b%2^63 / 2^52=2047) (h2:b%2^52≠0) (h:fltT b=[78,97,78])
 |minf (h1:b%2^63 / 2^52=2047) (h2:b%2^52=0) (h3:b / 2^63≠0) (h:fltT b=[45,73,110,102])
 |pinf (h1:b%2^63 / 2^52=2047) (h2:b%2^52=0) (h3:b / 2^63=0) (h:fltT b=[43,73,110,102])
 |fin (h1:b%2^63 / 2^52≠2047) (ds:List UInt8) (dp:Int) (hc:Clean ds) (hz:ds=[]↔b%2^63=0) (h0:ds=[]→dp=0) (hr: -400≤dp∧dp≤400)
  (hv:b%2^63≠0→valV (b%2^63)=nval ds*10^(324+(dp - ds.length)).toNat) (h:fltT b=efgT (decide (b / 2^63≠0)) ds dp) (hlen:ds.length≤19)
theorem way_of (b:Nat):Way b:=by
 by_cases h1:b%2^63 / 2^52=2047
 ·by_cases h2:b%2^52≠0
  ·exact .nan h1 h2 (by unfold fltT;rw [if_pos h1,if_pos h2])
  ·by_cases h3:b / 2^63≠0
   ·exact .minf h1 (by omega) h3 (by unfold fltT;rw [if_pos h1,if_neg h2,if_pos h3])
   ·exact .pinf h1 (by omega) (by omega) (by unfold fltT;rw [if_pos h1,if_neg h2,if_neg h3])
 ·by_cases h0:b%2^63=0
  ·exact .fin h1 [] 0 ⟨fun c hc=>absurd hc (by simp),fun c hc=>(by cases hc),rfl⟩ ⟨fun _=>h0,fun _=>rfl⟩ (fun _=>rfl) (by omega) (fun h=>absurd h0 h) (by unfold fltT;rw [if_neg h1,if_pos h0]) (by decide)
  ·obtain ⟨d,p,hs⟩:=short_of (b%2^63) (by omega) (by omega)
   have hd:=digT_is d hs.pos
   have hn:=nd_le d hs.lt
   have hn1:=Lib.nDigits_pos d
   have e1:(shortF (mOf (b%2^63)) (eOf (b%2^63))).1=d:=by rw [hs.is]
   have e2:(shortF (mOf (b%2^63)) (eOf (b%2^63))).2=p:=by rw [hs.is]
   have hl:=Lib.decDigits_length d
   refine .fin h1 (digT d) (dpT (b%2^63)) hd.1 ⟨fun h=>absurd h hd.2.1,fun h=>absurd h h0⟩ (fun h=>absurd h hd.2.1) ?_ (fun _=>val_text _ hs) ?_ (by
    have:=hd.2.2.1
    omega)
   ·have:=hs.lo
    have:=hs.hi
    unfold dpT
    rw [e1,e2,hl]
    omega
   ·unfold fltT dpT
    rw [if_neg h1,if_neg h0,e1,e2]
theorem flt_inj {a b:Nat} (ha:a<2^64) (hb:b<2^64) (na:a%2^63 / 2^52=2047→a%2^52≠0→a=9221120237041090561) (nb:b%2^63 / 2^52=2047→b%2^52≠0→b=9221120237041090561)
 (za:a%2^63=0→a=0) (zb:b%2^63=0→b=0) (h:fltT a=fltT b):a=b:=by
 have nd1:¬isDig 78:=by unfold isDig;decide
 have nd2:¬isDig 73:=by unfold isDig;decide
 have nd3:¬isDig 43:=by unfold isDig;decide
 have nd4:¬isDig 45:=by unfold isDig;decide
 have spec:∀{neg:Bool} {ds:List UInt8} {dp:Int},Clean ds→efgT neg ds dp≠[78,97,78]∧efgT neg ds dp≠[45,73,110,102]∧efgT neg ds dp≠[43,73,110,102]:=by
  intro neg ds dp hc
  rcases efg_heads (neg:=neg) (dp:=dp) hc with ⟨c,r,h1,h2, -⟩|⟨c,r,h1,h2, -⟩
  ·rw [h1]
   refine ⟨fun h=> ?_,fun h=> ?_,fun h=> ?_⟩<;>simp at h<;>rw [h.1] at h2
   ·exact nd1 h2
   ·exact nd4 h2
   ·exact nd3 h2
  ·rw [h1]
   refine ⟨fun h=> ?_,fun h=> ?_,fun h=> ?_⟩<;>simp at h
   rw [h.1] at h2
   exact nd2 h2
 rcases way_of a with ⟨a1,a2,at'⟩|⟨a1,a2,a3,at'⟩|⟨a1,a2,a3,at'⟩|⟨a1,ds,dp,ac,az,a0,ar,av,at'⟩<;>
 rcases way_of b with ⟨b1,b2,bt⟩|⟨b1,b2,b3,bt⟩|⟨b1,b2,b3,bt⟩|⟨b1,es,ep,bc,bz,b0,br,bv,bt⟩<;>
 rw [at',bt] at h
 ·rw [na a1 a2,nb b1 b2]
 ·simp at h
 ·simp at h
 ·exact absurd h.symm (spec bc).1
 ·simp at h
 ·omega
 ·simp at h
 ·exact absurd h.symm (spec bc).2.1
 ·simp at h
 ·simp at h
 ·omega
 ·exact absurd h.symm (spec bc).2.2
 ·exact absurd h (spec ac).1
 ·exact absurd h (spec ac).2.1
 ·exact absurd h (spec ac).2.2
 ·obtain ⟨h1,h2,h3⟩:=efg_inj ac bc a0 b0 ar br h
  subst h2 h3
  have hs:a / 2^63=b / 2^63:=by
   by_cases x:a / 2^63=0<;>by_cases y:b / 2^63=0<;>simp [x,y] at h1<;>omega
  by_cases hz:ds=[]
  ·rw [za (az.1 hz),zb (bz.1 hz)]
  ·have hza:a%2^63≠0:=fun e=>hz (az.2 e)
   have hzb:b%2^63≠0:=fun e=>hz (bz.2 e)
   have:=val_inj (a%2^63) (b%2^63) (by omega) (by omega) (by omega) (by omega) ((av hza).trans (bv hzb).symm)
   omega
end
section
open Go.RowKit
theorem call_sbits (x:Nat) (w:World):(callFunc 226 #[.float .f64 x]).run Tryz.prog w= .ok (.value (.int .u64 x)) w:=by
 rw [run_callFunc_extern Tryz.func226 (by kernel_rfl) (by kernel_rfl) (by kernel_rfl) (e:=Extern.MathFloatBits.float64bits) (by kernel_rfl) _ w]
 rfl
theorem and_u64 (n k:Nat) (hk:k<64) (hn:n<18446744073709551616):bits .and .u64 (n:Int) ((2^k - 1:Nat):Int)=((n%2^k:Nat):Int):=by
 have hp:2^k<2^64:=Nat.pow_lt_pow_right (by decide) hk
 have hp0:0<2^k:=Nat.two_pow_pos k
 have h1:(BitVec.ofInt 64 ((2^k - 1:Nat):Int)).toNat=2^k - 1:=by
  rw [BitVec.toNat_ofInt]
  omega
 have h2:(BitVec.ofInt 64 (n:Int)).toNat=n:=by
  rw [BitVec.toNat_ofInt]
  omega
 have key:(BitVec.ofInt 64 (n:Int)&&&BitVec.ofInt 64 ((2^k - 1:Nat):Int)).toNat=n%2^k:=by
  rw [BitVec.toNat_and,h1,h2,Nat.and_two_pow_sub_one_eq_mod]
 have hlt:n%2^k<2^k:=Nat.mod_lt _ hp0
 show IntKind.u64.wrap ((BitVec.ofInt 64 (n:Int)&&&BitVec.ofInt 64 ((2^k - 1:Nat):Int)).toNat:Int)=_
 rw [key,wrap_u64]
 omega
theorem or_u64 (n:Nat) (hn:n<4503599627370496):bits .or .u64 (n:Int) 4503599627370496=((n+4503599627370496:Nat):Int):=by
 have h1:(BitVec.ofInt 64 (4503599627370496:Int)).toNat=2^52:=by decide
 have h2:(BitVec.ofInt 64 (n:Int)).toNat=n:=by
  rw [BitVec.toNat_ofInt]
  omega
 have key:(BitVec.ofInt 64 (n:Int)|||BitVec.ofInt 64 (4503599627370496:Int)).toNat=n+4503599627370496:=by
  rw [BitVec.toNat_or,h1,h2,Nat.or_comm]
  have h:=Nat.two_pow_add_eq_or_of_lt (i:=52) hn 1
  rw [Nat.mul_one] at h
  omega
 show IntKind.u64.wrap ((BitVec.ofInt 64 (n:Int)|||BitVec.ofInt 64 (4503599627370496:Int)).toNat:Int)=_
 rw [key,wrap_u64]
 omega
theorem dec_lt (d:Nat):d<10^Lib.nDigits d:=by
 induction d using Nat.strongRecOn with
 | ind d ih=>
  by_cases h:d<10
  ·rw [Lib.nDigits_small h];omega
  ·rw [Lib.nDigits_big h,Nat.pow_succ]
   have:=ih (d / 10) (by omega)
   omega
def FtoaPost (F:Nat→Prop) (w:World) (t:List UInt8) (e:Ending) (w':World):Prop:=∃v',e= .returned v'∧Buf F w w' v' t
theorem bitAux_log:∀(f m:Nat),0<m→m<2^f→Lib.bitLenAux f m=m.log2+1:=by
 intro f
 induction f with
 |zero=>intro m h1 h2;omega
 | succ f ih=>
  intro m h1 h2
  rw [Lib.bitLenAux,if_neg (by omega)]
  rcases Nat.lt_or_ge m 2 with h3|h3
  ·have:m=1:=by omega
   subst this
   cases f<;>rfl
  ·have hk0:m / 2≠0:=by omega
   rw [ih (m / 2) (by omega) (by rw [Nat.pow_succ] at h2;omega)]
   have a:=Nat.log2_self_le hk0
   have c:=@Nat.lt_log2_self (m / 2)
   have:=@log2_of m ((m / 2).log2+1) (by rw [Nat.pow_succ];omega) (by rw [Nat.pow_succ];omega)
   omega
theorem bitLen_log (m:Nat) (h:0<m) (h2:m<2^64):Lib.bitLen m=m.log2+1:=bitAux_log 64 m h h2
theorem neg_dec {b:Nat} {neg:Bool} (h:((b:Int) / 9223372036854775808 !=0)=neg):decide (b / 2^63≠0)=neg:=by
 rw [←h,Bool.eq_iff_iff,decide_eq_true_eq,bne_iff_ne]
 omega
theorem ftoa_at (w:World) (hw:Lays w) (F:Nat→Prop) (v:Value) (b:Nat) (hb64:b<18446744073709551616) (hfin:b / 4503599627370496%2048<2047) (hb:Buf F w w v []) (hF:∀g,g<16→¬F g) (hFn:∀g,w.heap.size≤g→¬F g):
 Calls Tryz.prog 203 #[v,.float .f64 b,.int .u8 103,.int .i64 (-1)] w (FtoaPost F w (fltT b)):=by
 obtain ⟨ad,cap,rfl, -⟩:=hb.own.shape
 have hs:=call_sbits b w
 obtain ⟨ex,hex⟩:∃ex,b / 4503599627370496%2048=ex:=⟨_,rfl⟩
 obtain ⟨mt,hmt⟩:∃mt,b%4503599627370496=mt:=⟨_,rfl⟩
 obtain ⟨neg,hng⟩:∃neg,((b:Int) / 9223372036854775808 !=0)=neg:=⟨_,rfl⟩
 have e1:bits .and .i64 ((b:Int) / 4503599627370496) 2047=ex:=by
  have h:=and_pow2 ((b:Int) / 4503599627370496) 11 (by decide)
  rw [←hex]
  refine h.trans ?_
  show (b:Int) / 4503599627370496%(2048:Int)=_
  omega
 have e2:bits .and .u64 (b:Int) 4503599627370495=mt:=by
  have h:=and_u64 b 52 (by decide) hb64
  rw [←hmt]
  exact h
 have hexl:ex<2048:=by omega
 have hmtl:mt<4503599627370496:=by omega
 rw [hex] at hfin
 have hf1:¬((ex:Int)=2047):=by omega
 have hf2:((ex:Int)==2047)=false:=by rw [beq_eq_false_iff_ne];exact hf1
 obtain ⟨t,htt⟩:∃t,fltT b=t:=⟨_,rfl⟩
 rw [htt]
 have hr1:b%2^63 / 2^52=ex:=by omega
 have hr2:b%2^63%2^52=mt:=by omega
 have Hb:=Lib.hid hb
 have Hw:=Lib.hid hw
 have Hex:=Lib.hid hex
 have Hmt:=Lib.hid hmt
 have Htt:=Lib.hid htt
 have Hr1:=Lib.hid hr1
 have Hr2:=Lib.hid hr2
 have HF:=Lib.hid hF
 have HFn:=Lib.hid hFn
 clear hb hw hex hmt htt hr1 hr2 hF hFn
 go_enter Tryz.func203,Tryz.ntmps203
 go_wp2_with fail
 go_quiet (fail)
 go_upto_if 78 with fail
 go_cut [14,15] from 78 to 84 (fun ev mv wx=>ev= .int .i64 (if ex=0 then 1 else ex:Nat)∧mv= .int .u64 (if ex=0 then mt else mt+4503599627370496:Nat)∧Mod (fun _=>False) w wx)
 case first=>
  by_cases h0:ex=0
  ·have h0':((ex:Int)==0)=true:=by rw [beq_iff_eq];omega
   have i1:(ex:Int)+1=((if ex=0 then 1 else ex:Nat):Int):=by rw [if_pos h0];omega
   have i2:(if ex=0 then mt else mt+4503599627370496:Nat)=mt:=if_pos h0
   have I1:=Lib.hid i1
   have I2:=Lib.hid i2
   clear i1 i2 h0
   go_wp2_with fail
   go_meet
   case rel=>exact ⟨vint I1.out,vint (by rw [I2.out]),(Mod.refl _ _).drewN _⟩
  ·have h0':((ex:Int)==0)=false:=by rw [beq_eq_false_iff_ne];omega
   have i1:(ex:Int)=((if ex=0 then 1 else ex:Nat):Int):=by rw [if_neg h0]
   have i2:((if ex=0 then mt else mt+4503599627370496:Nat):Int)=((mt+4503599627370496:Nat):Int):=by rw [if_neg h0]
   have i3:=or_u64 mt hmtl
   have I1:=Lib.hid i1
   have I2:=Lib.hid i2
   clear i1 i2 h0
   go_wp2_with fail
   go_meet
   case rel=>exact ⟨vint I1.out,vint (by rw [I2.out];omega),(Mod.refl _ _).drewN _⟩
 case rest=>
  obtain ⟨rfl,rfl,hmc⟩:=hcut
  obtain ⟨w0,rfl⟩:∃w0:World,w0=wc:=⟨_,rfl⟩
  obtain ⟨ee,hee⟩:∃ee:Nat,(if ex=0 then 1 else ex:Nat)=ee:=⟨_,rfl⟩
  obtain ⟨m,hm⟩:∃m:Nat,(if ex=0 then mt else mt+4503599627370496:Nat)=m:=⟨_,rfl⟩
  have hee1:1≤ee∧ee<2047:=by rw [←hee];split<;>omega
  have hm1:m<9007199254740992:=by rw [←hm];split<;>omega
  rw [hee,hm]
  obtain ⟨hee2,hee3⟩:=hee1
  have hb0:=Hb.out.rebase hmc
  have hw0:=Hw.out.mod0 hmc
  have hee4:(1:Int)≤ee:=by omega
  have Hee:=Lib.hid hee
  have Hm:=Lib.hid hm
  have Hmc:=Lib.hid hmc
  have Hb0:=Lib.hid hb0
  have Hw0:=Lib.hid hw0
  clear hee hm hmc hb0 hw0 Hb Hw
  by_cases h0:m=0
  ·have h0':((m:Int)==0)=true:=by rw [beq_iff_eq];omega
   have hz:=Lib.hid (fmtz_at F w0 (.slice ad 0 cap) neg Hb0.out)
   have Hh0:=Lib.hid h0
   clear h0
   go_wp2_with fail
   refine hz.out.mono ?_
   rintro x w1 ⟨v1,rfl,hb1⟩
   go_wp2
   go_ret
   refine ⟨v1,rfl, ?_⟩
   have h2:fltT b=sgnT neg++[48]:=by
    have h3:=Hm.out
    have h4:=Hh0.out
    have h5:=Hr1.out
    have h6:=Hr2.out
    have h7:ex=0:=by
     by_cases h:ex=0
     ·exact h
     ·rw [if_neg h] at h3;omega
    rw [if_pos h7] at h3
    unfold fltT
    rw [neg_dec hng,if_neg (by omega),if_pos (by omega)]
    rfl
   rw [←Htt.out,h2]
   exact hb1.under Hmc.out
  ·have h0':((m:Int)==0)=false:=by rw [beq_eq_false_iff_ne];omega
   have hbl:=fun wx=>Tryz.bits_Len64 (m:Int) wx (by omega) (by omega)
   rw [Int.toNat_natCast,bitLen_log m (by omega) (by omega)] at hbl
   have hl52:m.log2≤52:=Nat.le_of_lt_succ ((Nat.log2_lt (by omega)).2 (by omega))
   obtain ⟨L,hL⟩:∃L,m.log2+1=L:=⟨_,rfl⟩
   rw [hL] at hbl
   have hL1:1≤L:=by omega
   have hL53:L≤53:=by omega
   have hmt2:=Hr2.out
   have hex2:=Hr1.out
   have hm2:=Hm.out
   have hee2:=Hee.out
   obtain ⟨r,hr⟩:∃r,b%2^63=r:=⟨_,rfl⟩
   rw [hr] at hmt2 hex2
   have hmant:mant r=m:=by
    unfold mant
    rw [hex2,hmt2,←hm2]
    split
    ·omega
    ·rfl
   have hsh:sh r=64 - L:=by unfold sh;rw [hmant];omega
   have hM:mOf r=m*2^(64 - L):=by unfold mOf;rw [hmant,hsh]
   have hE:eOf r=(ee:Int)+ -1023 - (64 - (L:Int)) - 52:=by
    unfold eOf expo
    rw [hex2,hsh,hee2]
    omega
   have hr1:1≤r:=by
    rcases Nat.eq_zero_or_pos r with h|h
    ·exfalso
     subst h
     unfold mant at hmant
     simp at hmant
     omega
    ·exact h
   have hr2:r<2047*2^52:=by omega
   obtain ⟨p1,p2,p3,p4,p5⟩:=parts_ok r hr1 hr2
   obtain ⟨d,p,hs⟩:=short_of r hr1 hr2
   have hsw:=fun wx hx=>short_at wx hx (mOf r) (eOf r) p1 p2 p3 p4 p5
   rw [hs.is] at hsw
   have hMw:IntKind.u64.wrap ((m:Int)*2^(64 - L))=(mOf r:Nat):=by
    rw [wrap_u64,hM]
    have:((m*2^(64 - L):Nat):Int)=(m:Int)*2^(64 - L):=by
     rw [Int.natCast_mul,Int.natCast_pow];rfl
    rw [←this,←hM]
    omega
   obtain ⟨M,hMM⟩:∃M,mOf r=M:=⟨_,rfl⟩
   obtain ⟨E,hEE⟩:∃E,eOf r=E:=⟨_,rfl⟩
   rw [hEE] at hE hsw
   rw [hMM] at hMw hsw
   obtain ⟨wa,hwa⟩:∃wa:World,w0.alloc (.cells #[.int .u8 0,.int .u8 0,.int .u8 0,.int .u8 0,.int .u8 0,.int .u8 0,.int .u8 0,.int .u8 0,.int .u8 0,.int .u8 0,.int .u8 0,.int .u8 0,.int .u8 0,.int .u8 0,.int .u8 0,.int .u8 0,.int .u8 0,.int .u8 0,.int .u8 0,.int .u8 0,.int .u8 0,.int .u8 0,.int .u8 0,.int .u8 0,.int .u8 0,.int .u8 0,.int .u8 0,.int .u8 0,.int .u8 0,.int .u8 0,.int .u8 0,.int .u8 0] 286)=wa:=⟨_,rfl⟩
   have hm1:Mod (fun _=>False) w0 wa:=hwa▸(Mod.refl (fun _=>False) w0).alloc _
   have hg1:wa.heap[w0.heap.size]? =some (.cells #[.int .u8 0,.int .u8 0,.int .u8 0,.int .u8 0,.int .u8 0,.int .u8 0,.int .u8 0,.int .u8 0,.int .u8 0,.int .u8 0,.int .u8 0,.int .u8 0,.int .u8 0,.int .u8 0,.int .u8 0,.int .u8 0,.int .u8 0,.int .u8 0,.int .u8 0,.int .u8 0,.int .u8 0,.int .u8 0,.int .u8 0,.int .u8 0,.int .u8 0,.int .u8 0,.int .u8 0,.int .u8 0,.int .u8 0,.int .u8 0,.int .u8 0,.int .u8 0] 286 (0,0)):=hwa▸heap_alloc_new w0 _
   have hw1:=Hw0.out.mod0 hm1
   have hpos:=hr1
   have Hpos:=Lib.hid hpos
   have Hbl:=Lib.hid hbl
   have HL:=Lib.hid hL
   have Hwa:=Lib.hid hwa
   have HM:=Lib.hid hM
   have HE:=Lib.hid hE
   have HMw:=Lib.hid hMw
   have HMM:=Lib.hid hMM
   have HEE:=Lib.hid hEE
   have Hsw:=Lib.hid hsw
   have Hs:=Lib.hid hs
   have Hr:=Lib.hid hr
   have Hsh:=Lib.hid hsh
   have Hmant:=Lib.hid hmant
   have Hm1:=Lib.hid hm1
   have Hg1:=Lib.hid hg1
   have Hw1:=Lib.hid hw1
   clear hpos hbl hL hwa hM hE hMw hMM hEE hsw hs hr hsh hmant hm1 hg1 hw1 hl52 p1 p2 p3 p4 p5 hr1 hr2 hmt2 hex2 hm2 hee2
   go_wp2_with (first|(rw [show w0.alloc _=wa from Hwa.out])|fail)
   refine (Hbl.out _).mono ?_
   rintro x w1 ⟨rfl,rfl⟩
   go_wp2_with fail
   rw [show IntKind.u64.wrap ((m:Int)*2^(64 - L))=(M:Nat) from HMw.out,show (ee:Int)+ -1023 - (64 - (L:Int)) - 52=E from HE.out.symm]
   refine (Hsw.out _ Hw1.out).mono ?_
   rintro x w2 ⟨rfl,hm2⟩
   have hw2:=Hw1.out.mod0 hm2
   have hg2:=hm2.heap Hg1.out (fun h=>h)
   have hdp:=Hs.out.pos
   have hdl:=Hs.out.lt
   have hplo:=Hs.out.lo
   have hphi:=Hs.out.hi
   have hnd:=nd_le d hdl
   have hdt:=digT_is d hdp
   have hsd:=fun (wx:World) (hx:Mod (fun _=>False) w2 wx)=>setdig_at wx w0.heap.size #[.int .u8 0,.int .u8 0,.int .u8 0,.int .u8 0,.int .u8 0,.int .u8 0,.int .u8 0,.int .u8 0,.int .u8 0,.int .u8 0,.int .u8 0,.int .u8 0,.int .u8 0,.int .u8 0,.int .u8 0,.int .u8 0,.int .u8 0,.int .u8 0,.int .u8 0,.int .u8 0,.int .u8 0,.int .u8 0,.int .u8 0,.int .u8 0,.int .u8 0,.int .u8 0,.int .u8 0,.int .u8 0,.int .u8 0,.int .u8 0,.int .u8 0,.int .u8 0] 286 d (Lib.nDigits d) p (hx.heap hg2 (fun h=>h)) (fun j hj=>by
    have:j<32:=hj
    rcases j with _|_|_|_|_|_|_|_|_|_|_|_|_|_|_|_|_|_|_|_|_|_|_|_|_|_|_|_|_|_|_|_|j
    all_goals first|rfl|omega) (by omega) rfl (by omega) (dec_lt d) (by omega)
   have hnum:=fun (wx:World) (hx:Mod (fun _=>False) w2 wx)=>Tryz.internal_strconv_numDigits d (by omega) (by omega) wx (hw2.mod0 hx).u10
   obtain ⟨nd,hndd⟩:∃n,Lib.nDigits d=n:=⟨_,rfl⟩
   rw [hndd] at hsd hnum hnd
   obtain ⟨tn,htn⟩:∃n,trimN (Lib.decDigits d)=n:=⟨_,rfl⟩
   rw [htn] at hsd
   have Hm2:=Lib.hid hm2
   have Hw2:=Lib.hid hw2
   have Hg2:=Lib.hid hg2
   have Hsd:=Lib.hid hsd
   have Hnum:=Lib.hid hnum
   have Hndd:=Lib.hid hndd
   have Htn:=Lib.hid htn
   have Hdt:=Lib.hid hdt
   clear hm2 hw2 hg2 hsd hnum hndd htn hdt hdp hdl
   go_wp2_with fail
   have hS:(fun _:World=>True) w2.drew:=trivial
   refine wp_region_script [.rd 0,.rd 1,.rd 2,.rd 3,.go 4,.go 5,.rd 6,.rd 7,.rd 8,.rd 9,.rd 10] [] (fun _:World=>True) (by kernel_rfl) (by kernel_rfl) (fun _ _ d _ _ h=>(by cases d<;>exact h)) ?_
   iterate 4 (
    refine walk_rd rfl ?_ (fun _=>hS) ?_ (fun w0 h0=> ?_) (fun K hK=> ?_)
    ·(try simp only [List.getElem_toArray]);(try simp only [List.getElem_cons_succ]);(try simp only [List.getElem_cons_zero])
     go_simp;done
    rotate_left
    ·(try simp only [List.getElem_toArray]);(try simp only [List.getElem_cons_succ]);(try simp only [List.getElem_cons_zero])
     first
      |(obtain - :=h0 rfl;clear h0;go_simp;with_reducible rfl)
      |(clear h0;go_simp;with_reducible rfl)
    (try simp only [List.getElem_toArray]);(try simp only [List.getElem_cons_succ]);(try simp only [List.getElem_cons_zero])
    go_simp;refine hK _ ?_;clear hK K)
   refine walk_one (go_yes rfl ?_ (fun K hK=> ?_))
   ·(try simp only [List.getElem_toArray]);(try simp only [List.getElem_cons_succ]);(try simp only [List.getElem_cons_zero])
    go_simp;done
   (try simp only [List.getElem_toArray]);(try simp only [List.getElem_cons_succ]);(try simp only [List.getElem_cons_zero])
   go_wp2_with fail
   refine (Hnum.out _ ((Mod.refl _ _).drew)).mono ?_
   rintro x w3 ⟨rfl,rfl⟩
   go_simp
   refine hK _ _ (fun h=>absurd h (by decide)) ?_
   clear hK K
   refine walk_one (go_yes rfl ?_ (fun K hK=> ?_))
   ·(try simp only [List.getElem_toArray]);(try simp only [List.getElem_cons_succ]);(try simp only [List.getElem_cons_zero])
    go_simp;done
   (try simp only [List.getElem_toArray]);(try simp only [List.getElem_cons_succ]);(try simp only [List.getElem_cons_zero])
   go_wp2_with fail
   refine (Hsd.out _ ((Mod.refl _ _).drew)).mono ?_
   rintro x w4 ⟨rfl,hd4,hm4⟩
   have hm04:Mod (fun _=>False) w0 w4:=by
    refine Mod.trans (Hm1.out.trans (Hm2.out.drew) (fun _ _ h=>h)) (hm4.mono (G:=fun k=>k=w0.heap.size) (fun _ _ h=>h)) (fun b hb h=> ?_)
    omega
   have hdT:Digs w4 w0.heap.size (digT d):=fun j u hu=>by
    refine hd4 j u ?_
    unfold digT at hu
    rw [List.getElem?_take] at hu
    split at hu
    ·exact hu
    ·cases hu
   have hlen:(digT d).length=tn:=by
    unfold digT
    rw [List.length_take,Htn.out]
    have:=trim_le (Lib.decDigits d)
    rw [Htn.out] at this
    omega
   have hdpT:dpT r=(nd:Int)+p:=by
    unfold dpT
    rw [Hs.out.is]
    simp only
    rw [Lib.decDigits_length,Hndd.out]
   have htn0:0<tn:=by
    rw [←hlen]
    exact List.length_pos_iff.2 Hdt.out.2.1
   have htn1:tn≤19:=by
    have h1:=Hdt.out.2.2.1
    rw [hlen,Lib.decDigits_length,Hndd.out] at h1
    omega
   have hefg:=efg_at F w4 (.slice ad 0 cap) w0.heap.size neg (digT d) (dpT r) (Hb0.out.rebase hm04) hdT (HFn.out _ Hmc.out.size) (by omega) (by omega) (by rw [hdpT];omega)
   rw [hlen,hdpT] at hefg
   have Hm04:=Lib.hid hm04
   have Hefg:=Lib.hid hefg
   have Hlen:=Lib.hid hlen
   have HdpT:=Lib.hid hdpT
   have Hd4:=Lib.hid hd4
   have Hm4:=Lib.hid hm4
   have HdT:=Lib.hid hdT
   clear hm04 hefg hlen hdpT hd4 hm4 hdT
   go_simp
   refine hK _ _ (fun h=>absurd h (by decide)) ?_
   clear hK K
   have hS:(fun _:World=>True) w4:=trivial
   iterate 5 (
    refine walk_rd rfl ?_ (fun _=>hS) ?_ (fun w0 h0=> ?_) (fun K hK=> ?_)
    ·(try simp only [List.getElem_toArray]);(try simp only [List.getElem_cons_succ]);(try simp only [List.getElem_cons_zero])
     go_simp;done
    rotate_left
    ·(try simp only [List.getElem_toArray]);(try simp only [List.getElem_cons_succ]);(try simp only [List.getElem_cons_zero])
     first
      |(obtain - :=h0 rfl;clear h0;go_simp;with_reducible rfl)
      |(clear h0;go_simp;with_reducible rfl)
    (try simp only [List.getElem_toArray]);(try simp only [List.getElem_cons_succ]);(try simp only [List.getElem_cons_zero])
    go_simp;refine hK _ ?_;clear hK K)
   refine walk_nil ?_
   go_wp2_with fail
   refine Hefg.out.mono ?_
   rintro x w5 ⟨v5,rfl,hb5⟩
   have Hb5:=Lib.hid hb5
   clear hb5
   go_wp2
   go_ret
   refine ⟨v5,rfl, ?_⟩
   have h1:=(Hb5.out.under Hm04.out).under Hmc.out
   have h2:fltT b=efgT neg (digT d) (nd+p):=by
    have hz:=Hr.out
    have hp1:=Hpos.out
    unfold fltT
    rw [neg_dec hng,if_neg (by have:=Hr1.out;omega),if_neg (by omega),hz,Hs.out.is]
    simp only
    rw [Lib.decDigits_length,Hndd.out]
   rw [←Htt.out,h2]
   exact h1
end
end Go.Proofs.YtaenebdppkjhoaaGreatDoor
