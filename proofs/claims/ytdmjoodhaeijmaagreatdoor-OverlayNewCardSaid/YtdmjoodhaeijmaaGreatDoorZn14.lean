/- Lemmas. -/
import Derived.Test.YtdmjoodhaeijmaaGreatDoorZn13
import Derived.Lib.QuoteLoop
set_option maxHeartbeats 40000000
set_option maxRecDepth 20000
namespace Go.Proofs.YtdmjoodhaeijmaaGreatDoor
def R1 (l:List UInt8):Bool:=l.any fun c=>c==46||c==101||c==73||c==78
def S9 (b:Nat):List UInt8:=if R1 (C1 b) then C1 b else C1 b++[46,48]
def A9 (c:UInt8):Prop:=43<=c.toNat/\c.toNat<=110
theorem a2P {c:UInt8} (h:q9 c):A9 c:=⟨by have:=h.1;omega,by have:=h.2;omega⟩
theorem a55 (e:Nat) (h:e<=999):∀c∈J6 e,q9 c:=by
 intro c hc
 have hd:∀k,k<10->q9 (UInt8.ofNat (48+k)):=fun k hk=>by
  have e:(UInt8.ofNat (48+k)).toNat=(48+k)%256:=rfl;unfold q9;rw [e];omega
 unfold J6 at hc;split at hc
 ·simp only [List.mem_cons,List.not_mem_nil,or_false] at hc;rcases hc with rfl|rfl
  ·exact hd _ zo
  exact hd _ zo
 simp only [List.mem_cons,List.not_mem_nil,or_false] at hc;rcases hc with rfl|rfl|rfl
 ·exact hd _ zo
 ·exact hd _ zo
 exact hd _ zo
theorem b04 {ds:List UInt8} {dp:Int} (h:V5 ds) (hr: -400<=dp/\dp<=400):∀c∈K2 ds dp,A9 c:=by
 have one:∀k:UInt8,A9 k->∀c∈[k],A9 c:=fun k hk c hc=>by rw [List.mem_singleton.1 hc];exact hk
 have app:∀{a b:List UInt8},(∀c∈a,A9 c)->(∀c∈b,A9 c)->∀c∈a++b,A9 c:=fun ha hb c hc=>(zz14 hc).elim (ha c) (hb c);have dd:∀c∈ds,A9 c:=fun c hc=>a2P (h.dig c hc);have t48:A9 48:=by unfold A9;decide
 have t46:A9 46:=by unfold A9;decide
 have t101:A9 101:=by unfold A9;decide
 have t45:A9 45:=by unfold A9;decide
 have t43:A9 43:=by unfold A9;decide
 have zz:∀n,∀c∈j2 n,A9 c:=fun n c hc=>a2P (a0N n c hc);have cons:∀{k:UInt8} {l:List UInt8},A9 k->(∀c∈l,A9 c)->∀c∈k::l,A9 c:=fun hk hl=>app (one _ hk) hl;unfold K2 V4;simp only [B6,Bool.false_eq_true,if_false,List.nil_append];split
 ·exact one _ t48
 split
 ·refine app (app (app (fun c hc=>dd c (List.mem_of_mem_take hc)) ?_) (one _ t101)) ?_
  ·unfold D6;split
   ·intro c hc;cases hc
   exact cons t46 (fun c hc=>dd c (List.mem_of_mem_drop hc))
  unfold S8;split
  ·exact cons t45 fun c hc=>a2P (a55 _ zo c hc)
  exact cons t43 fun c hc=>a2P (a55 _ zo c hc)
 split
 ·exact app (app (cons t48 (one _ t46)) (zz _)) dd
 split
 ·exact app (app (fun c hc=>dd c (List.mem_of_mem_take hc)) (one _ t46)) (fun c hc=>dd c (List.mem_of_mem_drop hc))
 exact app dd (zz _)
def b05 (t:List UInt8):List UInt8×Int:=if (a34 t).1=[] then ([],0) else a34 t
theorem a7s {l:List UInt8} (h:R1 l=false):∀c∈l,c≠46/\c≠101/\c≠73/\c≠78:=by
 intro c hc;have:=List.any_eq_false.1 h c hc;simp only [Bool.or_eq_true,beq_iff_eq,not_or] at this;exact ⟨this.1.1.1,this.1.1.2,this.1.2,this.2⟩
theorem a9m {ds:List UInt8} {dp:Int} (h:V5 ds) (hd:ds=[]->dp=0) (hr: -400<=dp/\dp<=400):b05 (K2 ds dp)=(ds,dp):=by
 unfold b05;rw [a1R h hd hr];split
 ·rename_i e
  simp only at e;rw [e,hd e]
 rfl
theorem a7t {ds:List UInt8} {dp:Int} (hne:ds≠[]) (hs:R1 (K2 ds dp)=false):0<dp/\(ds.length:Int)<=dp/\K2 ds dp=ds++j2 (dp.toNat - ds.length):=by
 have hsp:=a7s hs;unfold K2 V4 at hsp⊢;rw [if_neg hne] at hsp⊢;simp only [B6,Bool.false_eq_true,if_false,List.nil_append] at hsp⊢;by_cases h1:dp - 1< -4\/6<=dp - 1
 ·rw [if_pos h1] at hsp;exact absurd rfl (hsp 101 (by simp)).2.1
 rw [if_neg h1] at hsp⊢;by_cases h2:dp<=0
 ·rw [if_pos h2] at hsp;exact absurd rfl (hsp 46 (by simp)).1
 rw [if_neg h2] at hsp⊢;by_cases h3:dp<ds.length
 ·rw [if_pos h3] at hsp;exact absurd rfl (hsp 46 (by simp)).1
 rw [if_neg h3];exact ⟨zo,zo,rfl⟩
theorem a7u {ds:List UInt8} {dp:Int} (h:V5 ds) (hd:ds=[]->dp=0) (hs:R1 (K2 ds dp)=false):b05 (K2 ds dp++[46,48])=(ds,dp):=by
 by_cases hne:ds=[]
 ·subst hne;rw [hd rfl];decide
 obtain ⟨h1,h2,h3⟩:=a7t hne hs;have e101:(101:UInt8)=101\/(101:UInt8)=46\/(101:UInt8)=45:= .inl rfl;have e46:(46:UInt8)=101\/(46:UInt8)=46\/(46:UInt8)=45:= .inr (.inl rfl)
 have hdz:∀c∈ds++j2 (dp.toNat - ds.length),q9 c:=fun c hc=>by
  rcases zz14 hc with hc|hc
  ·exact h.dig c hc
  exact a0N _ c hc
 have key:a34 (K2 ds dp++[46,48])=(ds,dp):=by
  rw [h3];unfold a34;simp only;rw [W4 101 e101 hdz,W5 101 e101 hdz];have t1:([46,48]:List UInt8).takeWhile (· !=101)=[46,48]:=rfl;have t2:([46,48]:List UInt8).dropWhile (· !=101)=[]:=rfl;rw [t1,t2,W4 46 e46 hdz,W5 46 e46 hdz];have t3:([46,48]:List UInt8).takeWhile (· !=46)=[]:=rfl;have t4:(([46,48]:List UInt8).dropWhile (· !=46)).drop 1=[48]:=rfl;rw [t3,t4]
  have a1:ds++j2 (dp.toNat - ds.length)++[]++[48]=ds++j2 (dp.toNat - ds.length+1):=by
   unfold j2;rw [zz11,zz12,List.replicate_succ']
  rw [a1];have sc:=O5 h hne 0 (dp.toNat - ds.length+1);simp only [show j2 0=[] from rfl,List.nil_append] at sc;rw [sc.1,sc.2];simp only [List.drop_nil,zz11,a7n,zz4,j2,List.length_replicate];congr 1;omega
 unfold b05;rw [key,if_neg hne]
theorem a9n {c:UInt8} {l:List UInt8} (h:R1 (c::l)=false):R1 l=false:=by
 unfold R1 at h⊢;rw [List.any_cons,Bool.or_eq_false_iff] at h;exact h.2
theorem L1 {b:Nat} {ds:List UInt8} {dp:Int} (hc:V5 ds) (h0:ds=[]->dp=0) (hr: -400<=dp/\dp<=400) (h:C1 b=V4 (decide (b / 2^63≠0)) ds dp):
 ∃t,S9 b=B6 (decide (b / 2^63≠0))++t/\b05 t=(ds,dp)/\(∃c r,t=c::r/\q9 c)/\(∀c∈t,A9 c):=by
 obtain ⟨c,r,hb,hdg⟩:=a0O (dp:=dp) hc;have hbt:=b04 (dp:=dp) hc hr;unfold S9;rw [h,a2O];split
 ·exact ⟨_,rfl,a9m hc h0 hr,⟨c,r,hb,hdg⟩,hbt⟩
 rename_i hs
 have hs2:R1 (K2 ds dp)=false:=by
  have hs:R1 (B6 (decide (b / 2^63≠0))++K2 ds dp)=false:=by simpa using hs
  unfold B6 at hs;split at hs
  ·exact a9n hs
  exact hs
 refine ⟨K2 ds dp++[46,48],by rw [zz12],a7u hc h0 hs2,⟨c,r++[46,48],by rw [hb];rfl,hdg⟩,fun c hc=> ?_⟩;rcases zz14 hc with hc|hc
 ·exact hbt c hc
 simp only [List.mem_cons,List.not_mem_nil,or_false] at hc;rcases hc with rfl|rfl<;>(unfold A9;decide)
theorem T0 {b:Nat} (h:C1 b=[78,97,78]):S9 b=[78,97,78]:=by unfold S9;rw [h];rfl
theorem M9 {b:Nat} (h:C1 b=[45,73,110,102]):S9 b=[45,73,110,102]:=by unfold S9;rw [h];rfl
theorem N7 {b:Nat} (h:C1 b=[43,73,110,102]):S9 b=[43,73,110,102]:=by unfold S9;rw [h];rfl
structure b5z (b:Nat):Prop where
 lt:b<2^64
 nan:b%2^63 / 2^52=2047->b%2^52≠0->b=9221120237041090561
 zero:b%2^63=0->b=0
theorem b06 {a b:Nat} (ka:b5z a) (kb:b5z b) (h:S9 a=S9 b):a=b:=by
 have nd1:¬q9 78:=by unfold q9;decide
 have nd2:¬q9 73:=by unfold q9;decide
 have nd3:¬q9 43:=by unfold q9;decide
 have nd4:¬q9 45:=by unfold q9;decide
 have sp:∀{neg:Bool} {t:List UInt8},(∃c r,t=c::r/\q9 c)->B6 neg++t≠[78,97,78]/\B6 neg++t≠[45,73,110,102]/\B6 neg++t≠[43,73,110,102]:=by
  rintro neg t ⟨c,r,rfl,h2⟩;cases neg
  ·refine ⟨fun h=> ?_,fun h=> ?_,fun h=> ?_⟩<;>simp [B6] at h<;>rw [h.1] at h2
   ·exact nd1 h2
   ·exact nd4 h2
   exact nd3 h2
  refine ⟨fun h=> ?_,fun h=> ?_,fun h=> ?_⟩<;>simp [B6] at h;rw [h.1] at h2;exact nd2 h2
 rcases a1S a with ⟨a1,a2,at'⟩|⟨a1,a2,a3,at'⟩|⟨a1,a2,a3,at'⟩|⟨a1,ds,dp,ac,az,a0,ar,av,at'⟩<;>
 rcases a1S b with ⟨b1,b2,bt⟩|⟨b1,b2,b3,bt⟩|⟨b1,b2,b3,bt⟩|⟨b1,es,ep,bc,bz,b0,br,bv,bt⟩
 ·rw [ka.nan a1 a2,kb.nan b1 b2]
 ·rw [T0 at',M9 bt] at h;simp at h
 ·rw [T0 at',N7 bt] at h;simp at h
 ·obtain ⟨t,h1, -,h2, -⟩:=L1 bc b0 br bt;rw [T0 at',h1] at h;exact absurd h.symm (sp h2).1
 ·rw [M9 at',T0 bt] at h;simp at h
 ·have:=ka.lt;have:=kb.lt;omega
 ·rw [M9 at',N7 bt] at h;simp at h
 ·obtain ⟨t,h1, -,h2, -⟩:=L1 bc b0 br bt;rw [M9 at',h1] at h;exact absurd h.symm (sp h2).2.1
 ·rw [N7 at',T0 bt] at h;simp at h
 ·rw [N7 at',M9 bt] at h;simp at h
 ·have:=ka.lt;have:=kb.lt;omega
 ·obtain ⟨t,h1, -,h2, -⟩:=L1 bc b0 br bt;rw [N7 at',h1] at h;exact absurd h.symm (sp h2).2.2
 ·obtain ⟨t,h1, -,h2, -⟩:=L1 ac a0 ar at';rw [T0 bt,h1] at h;exact absurd h (sp h2).1
 ·obtain ⟨t,h1, -,h2, -⟩:=L1 ac a0 ar at';rw [M9 bt,h1] at h;exact absurd h (sp h2).2.1
 ·obtain ⟨t,h1, -,h2, -⟩:=L1 ac a0 ar at';rw [N7 bt,h1] at h;exact absurd h (sp h2).2.2
 obtain ⟨t,h1,h2,⟨c,r,h3,h4⟩, -⟩:=L1 ac a0 ar at';obtain ⟨u,g1,g2,⟨d,q,g3,g4⟩, -⟩:=L1 bc b0 br bt;rw [h1,g1] at h
 have hs:decide (a / 2^63≠0)=decide (b / 2^63≠0)/\t=u:=by
  have ne1:=Y7 h4 45 (.inr (.inr rfl));have ne2:=Y7 g4 45 (.inr (.inr rfl));rw [bne_iff_ne] at ne1 ne2
  generalize decide (a / 2^63≠0)=n1 at h
  generalize decide (b / 2^63≠0)=n2 at h
  cases n1<;>cases n2<;>simp only [B6,Bool.false_eq_true,if_false,if_true,List.nil_append] at h
  ·exact ⟨rfl,h⟩
  ·rw [h3] at h;simp at h;exact absurd h.1 ne1
  ·rw [g3] at h;simp at h;exact absurd h.1.symm ne2
  simp at h;exact ⟨rfl,h⟩
 rw [hs.2,g2] at h2;have h3:es=ds:=congrArg Prod.fst h2;have h4:ep=dp:=congrArg Prod.snd h2;subst h3 h4;refine b3G ka.lt kb.lt ka.nan kb.nan ka.zero kb.zero ?_;rw [at',bt,hs.1]
theorem a1v (b:Nat):(∃c r,S9 b=c::r)/\(∀c∈S9 b,A9 c)/\(∀r,S9 b≠110::r)/\R1 (S9 b)=true:=by
 rcases a1S b with ⟨b1,b2,bt⟩|⟨b1,b2,b3,bt⟩|⟨b1,b2,b3,bt⟩|⟨b1,es,ep,bc,bz,b0,br,bv,bt⟩
 ·rw [T0 bt];refine ⟨⟨_,_,rfl⟩,fun c hc=> ?_,fun r h=>by simp at h,rfl⟩;simp only [List.mem_cons,List.not_mem_nil,or_false] at hc;rcases hc with rfl|rfl|rfl<;>(unfold A9;decide)
 ·rw [M9 bt];refine ⟨⟨_,_,rfl⟩,fun c hc=> ?_,fun r h=>by simp at h,rfl⟩;simp only [List.mem_cons,List.not_mem_nil,or_false] at hc;rcases hc with rfl|rfl|rfl|rfl<;>(unfold A9;decide)
 ·rw [N7 bt];refine ⟨⟨_,_,rfl⟩,fun c hc=> ?_,fun r h=>by simp at h,rfl⟩;simp only [List.mem_cons,List.not_mem_nil,or_false] at hc;rcases hc with rfl|rfl|rfl|rfl<;>(unfold A9;decide)
 obtain ⟨t,h1, -,⟨c,r,h3,h4⟩,h5⟩:=L1 bc b0 br bt
 have hsp:R1 (S9 b)=true:=by
  unfold S9;split
  ·assumption
  unfold R1;rw [List.any_append];simp
 rw [h1] at hsp⊢;rw [h3] at hsp⊢;rw [h3] at h5
 have n110:c≠110:=by
  rintro rfl;have:=h4.2;revert this;decide
 refine ⟨?_, ?_, ?_,hsp⟩
 ·cases decide (b / 2^63≠0)
  ·exact ⟨_,_,rfl⟩
  exact ⟨_,_,rfl⟩
 ·intro x hx;rcases zz14 hx with hx|hx
  ·unfold B6 at hx;split at hx
   ·rw [List.mem_singleton.1 hx];unfold A9;decide
   ·cases hx
  exact h5 x hx
 intro r h
 generalize decide (b / 2^63≠0)=ng at h
 cases ng
 ·simp [B6] at h;exact n110 h.1
 simp [B6] at h
section
open Go.Lib
def bI (l:List UInt8):List Int:=l.map fun b=>(b.toNat:Int)
theorem a4t (a b:List UInt8):bI (a++b)=bI a++bI b:=List.map_append
theorem b07 {a b:List UInt8} (h:bI a=bI b):a=b:=by
 induction a generalizing b with
 |nil=>cases b with
  |nil=>rfl
  |cons c l=>simp [bI] at h
 | cons x l ih=>
  cases b with
  |nil=>simp [bI] at h
  |cons y m=>
   simp only [bI,List.map_cons,List.cons.injEq] at h;have h1:x=y:=UInt8.toNat_inj.1 zo;rw [h1,ih (b:=m) h.2]
theorem a8F (s:ByteArray) (i:Nat):s.get! i=s.data.toList.getD i 0:=by
 show s.data[i]! =_;rw [List.getD_eq_getElem?_getD,Array.getElem?_toList,getElem!_def];cases s.data[i]? <;>rfl
theorem a1w (s:ByteArray) (k:Nat):(s.extract k s.size).data.toList=s.data.toList.drop k:=by
 have:(s.extract k s.size).data=s.data.extract k s.size:=by rw [ByteArray.data_extract]
 rw [this,Array.toList_extract,List.extract_eq_take_drop];exact List.take_of_length_le (by rw [List.length_drop,Array.length_toList];exact Nat.le_refl _)
theorem b6J {b0:UInt8} {l:List UInt8} (h:3<(b0::l).length):∃b1 b2 b3 m,l=b1::b2::b3::m:=by
 match l,h with
 |b1::b2::b3::m,_=>exact ⟨b1,b2,b3,m,rfl⟩
 |[_,_],h=>simp at h
 |[_],h=>simp at h
 |[],h=>simp at h
theorem b5A {a b c d:Int} (h:a=c) (i:b=d):[a,b]=[c,d]:=by rw [h,i]
theorem b08 {a b c d e f:Int} (h:a=d) (i:b=e) (j:c=f):[a,b,c]=[d,e,f]:=by rw [h,i,j]
theorem b3I {a b c d e f g k:Int} (h:a=e) (i:b=f) (j:c=g) (l:d=k):[a,b,c,d]=[e,f,g,k]:=by rw [h,i,j,l]
theorem b3J (s:ByteArray) (h0:0<s.size) (hg:¬((Utf8.decode s 0).2=1/\(Utf8.decode s 0).1=65533)):
 bI s.data.toList=encodeRuneZ ((Utf8.decode s 0).1:Int)++bI (s.extract (Utf8.decode s 0).2 s.size).data.toList:=by
 rw [a1w];rw [decode_at] at hg⊢;simp only [a8F,Nat.zero_add] at hg⊢;have hsz:s.size=s.data.toList.length:=by show s.data.size=_;rw [Array.length_toList]
 rw [hsz] at hg h0⊢
 generalize s.data.toList=L at hg h0⊢
 match L,h0 with
 |b0::l,_=>
  have t0:=b0.toNat_lt;simp only [List.getD_cons_zero,List.getD_cons_succ,Nat.sub_zero] at hg⊢;unfold decodeN at hg⊢;by_cases c1:b0.toNat<128
  ·rw [if_pos c1];simp only;rw [encodeRuneZ_one zo zo];rfl
  rw [if_neg c1] at hg⊢;by_cases c2:b0.toNat / 32=6/\(1<(b0::l).length/\(l.getD 0 0).toNat / 64=2)
  ·rw [if_pos c2] at hg⊢;split at hg
   ·rename_i c3
    rw [if_pos c3]
    match l,c2 with
    |b1::m,c2=>
     simp only [List.getD_cons_zero] at c2 c3⊢;have t1:=b1.toNat_lt;rw [encodeRuneZ_two zo zo];rw [show bI (b0::b1::m)=[(b0.toNat:Int),b1.toNat]++bI m from rfl,show List.drop 2 (b0::b1::m)=m from rfl];refine congrArg (· ++bI m) (b5A ?_ ?_)<;>omega
    |[],c2=>simp at c2
   exact absurd ⟨rfl,rfl⟩ hg
  rw [if_neg c2] at hg⊢;by_cases c3:b0.toNat / 16=14/\(1<(b0::l).length/\(l.getD 0 0).toNat / 64=2)/\(2<(b0::l).length/\(l.getD 1 0).toNat / 64=2)
  ·rw [if_pos c3] at hg⊢;split at hg
   ·rename_i c4
    rw [if_pos c4]
    match l,c3 with
    |b1::b2::m,c3=>
     simp only [List.getD_cons_zero,List.getD_cons_succ] at c3 c4⊢;have t1:=b1.toNat_lt;have t2:=b2.toNat_lt;rw [encodeRuneZ_three zo];rw [show bI (b0::b1::b2::m)=[(b0.toNat:Int),b1.toNat,b2.toNat]++bI m from rfl,show List.drop 3 (b0::b1::b2::m)=m from rfl];refine congrArg (· ++bI m) (b08 ?_ ?_ ?_)<;>omega
    |[_],c3=>simp at c3
    |[],c3=>simp at c3
   exact absurd ⟨rfl,rfl⟩ hg
  rw [if_neg c3] at hg⊢;by_cases c4:b0.toNat / 8=30/\(1<(b0::l).length/\(l.getD 0 0).toNat / 64=2)/\(2<(b0::l).length/\(l.getD 1 0).toNat / 64=2)/\(3<(b0::l).length/\(l.getD 2 0).toNat / 64=2)
  ·rw [if_pos c4] at hg⊢;split at hg
   ·rename_i c5
    rw [if_pos c5];obtain ⟨b1,b2,b3,m,rfl⟩:=b6J c4.2.2.2.1;simp only [List.getD_cons_zero,List.getD_cons_succ] at c4 c5⊢;have t1:=b1.toNat_lt;have t2:=b2.toNat_lt;have t3:=b3.toNat_lt;rw [encodeRuneZ_four zo zo];rw [show bI (b0::b1::b2::b3::m)=[(b0.toNat:Int),b1.toNat,b2.toNat,b3.toNat]++bI m from rfl,show List.drop 4 (b0::b1::b2::b3::m)=m from rfl];refine congrArg (· ++bI m) (b3I ?_ ?_ ?_ ?_)<;>omega
   exact absurd ⟨rfl,rfl⟩ hg
  rw [if_neg c4] at hg;exact absurd ⟨rfl,rfl⟩ hg
def b09 (x:Int):Int:=if x<60 then x - 48 else x - 87
theorem S5 (x:Nat) (h:x<16):b09 (Lib.hexDigit x)=x:=by
 unfold b09 Lib.hexDigit;split
 ·rw [if_pos zo];omega
 rw [if_neg zo];omega
def N8 (l:List Int):Int:=l.foldl (fun a x=>16*a+b09 x) 0
theorem b3K (r:Nat) (h:r<65536):N8 (hexDigits r 4)=r:=by
 simp only [N8,hexDigits,List.foldl_cons,List.foldl_nil,S5 _ (Nat.mod_lt _ (show 0<16 by decide))];omega
theorem b3L (r:Nat) (h:r<4294967296):N8 (hexDigits r 8)=r:=by
 simp only [N8,hexDigits,List.foldl_cons,List.foldl_nil,S5 _ (Nat.mod_lt _ (show 0<16 by decide))];omega
def b6l (x:Int):Int:=if x=97 then 7 else if x=98 then 8 else if x=102 then 12 else if x=110 then 10 else if x=114 then 13 else if x=116 then 9 else if x=118 then 11 else x
def Y8 (l:List Int):List Int×Nat:=
 if l.getD 0 0=92 then
  if l.getD 1 0=120 then ([N8 ((l.drop 2).take 2)],4)
  else if l.getD 1 0=117 then (encodeRuneZ (N8 ((l.drop 2).take 4)),6)
  else if l.getD 1 0=85 then (encodeRuneZ (N8 ((l.drop 2).take 8)),10)
  else ([b6l (l.getD 1 0)],2)
 else if l.getD 0 0<128 then (l.take 1,1)
 else if l.getD 0 0<224 then (l.take 2,2)
 else if l.getD 0 0<240 then (l.take 3,3)
 else (l.take 4,4)
theorem b6m (r:Int) (h:0<=r) (h1:r<=1114111) (hv:r<55296\/57343<r) (n1:r≠92) (rest:List Int):Y8 (encodeRuneZ r++rest)=(encodeRuneZ r,(encodeRuneZ r).length):=by
 by_cases a1:r<=127
 ·rw [encodeRuneZ_one h a1];unfold Y8;rw [if_neg (by simpa using n1),if_pos (by show r<128;omega)];rfl
 by_cases a2:r<=2047
 ·rw [encodeRuneZ_two zo a2];unfold Y8;rw [if_neg (by show¬192+r / 64=92;omega),if_neg (by show¬192+r / 64<128;omega),if_pos (by show 192+r / 64<224;omega)];rfl
 by_cases a3:r<=65535
 ·rw [encodeRuneZ_three zo];unfold Y8;rw [if_neg (by show¬224+r / 4096=92;omega),if_neg (by show¬224+r / 4096<128;omega),if_neg (by show¬224+r / 4096<224;omega),if_pos (by show 224+r / 4096<240;omega)];rfl
 rw [encodeRuneZ_four zo h1];unfold Y8;rw [if_neg (by show¬240+r / 262144=92;omega),if_neg (by show¬240+r / 262144<128;omega),if_neg (by show¬240+r / 262144<224;omega),if_neg (by show¬240+r / 262144<240;omega)];rfl
theorem b6n (T:PrintTabs) (r:Nat) (h1:(r:Int)<=1114111) (hv:(r:Int)<55296\/57343<(r:Int)) (rest:List Int):Y8 (escRune T r++rest)=(encodeRuneZ r,(escRune T r).length)/\(escRune T r).getD 0 0≠34/\0<(escRune T r).length:=by
 have rV:Lib.validRune (r:Int)=true:=by
  simp only [Lib.validRune,decide_eq_true_eq];omega
 have e1:∀k:Nat,k<=127->(r:Int)=k->encodeRuneZ (r:Int)=[(k:Int)]:=fun k hk e=>by rw [e];exact encodeRuneZ_one zo zo
 unfold escRune;by_cases c0:(r:Int)=34\/(r:Int)=92
 ·rw [if_pos c0];rcases c0 with c|c
  ·rw [e1 34 zo c,c];exact ⟨rfl,zd,zd⟩
  rw [e1 92 zo c,c];exact ⟨rfl,zd,zd⟩
 rw [if_neg c0];by_cases c1:isPrintR T r=true
 ·rw [if_pos c1];refine ⟨b6m r zo h1 hv (fun e=>c0 (.inr e)) rest, ?_,(encodeRuneZ_length r).1⟩;unfold encodeRuneZ;split
  ·show¬(r:Int)=34;exact fun e=>c0 (.inl e)
  split
  ·show¬192+(r:Int) / 64=34;omega
  split
  ·show¬224+(r:Int) / 4096=34;omega
  split
  ·show¬240+(r:Int) / 262144=34;omega
  decide
 rw [if_neg c1];by_cases c2:(r:Int)=7
 ·rw [if_pos c2,e1 7 zo c2];exact ⟨rfl,zd,zd⟩
 rw [if_neg c2];by_cases c3:(r:Int)=8
 ·rw [if_pos c3,e1 8 zo c3];exact ⟨rfl,zd,zd⟩
 rw [if_neg c3];by_cases c4:(r:Int)=12
 ·rw [if_pos c4,e1 12 zo c4];exact ⟨rfl,zd,zd⟩
 rw [if_neg c4];by_cases c5:(r:Int)=10
 ·rw [if_pos c5,e1 10 zo c5];exact ⟨rfl,zd,zd⟩
 rw [if_neg c5];by_cases c6:(r:Int)=13
 ·rw [if_pos c6,e1 13 zo c6];exact ⟨rfl,zd,zd⟩
 rw [if_neg c6];by_cases c7:(r:Int)=9
 ·rw [if_pos c7,e1 9 zo c7];exact ⟨rfl,zd,zd⟩
 rw [if_neg c7];by_cases c8:(r:Int)=11
 ·rw [if_pos c8,e1 11 zo c8];exact ⟨rfl,zd,zd⟩
 rw [if_neg c8];by_cases c9:(r:Int)<32\/(r:Int)=127
 ·rw [if_pos c9,e1 r zo rfl,Int.toNat_natCast];refine ⟨?_,by show (92:Int)≠34;omega,Nat.succ_pos _⟩;show ([N8 [Lib.hexDigit (r / 16),Lib.hexDigit (r%16)]],4)=_;simp only [N8,List.foldl_cons,List.foldl_nil,S5 _ (show r / 16<16 by omega),S5 _ (show r%16<16 by omega)];refine Prod.ext ?_ rfl;show [16*(16*0+((r / 16:Nat):Int))+((r%16:Nat):Int)]=[(r:Int)];exact congrArg (fun x:Int=>[x]) zo
 rw [if_neg c9,if_neg (by rw [rV];decide)];by_cases c10:(r:Int)<65536
 ·rw [if_pos c10,Int.toNat_natCast];refine ⟨?_,by show (92:Int)≠34;omega,Nat.succ_pos _⟩;have e:Y8 (92::117::hexDigits r 4++rest)=(encodeRuneZ (N8 (hexDigits r 4)),6):=rfl;rw [e,b3K r zo];rfl
 rw [if_neg c10,Int.toNat_natCast];refine ⟨?_,by show (92:Int)≠34;omega,Nat.succ_pos _⟩;have e:Y8 (92::85::hexDigits r 8++rest)=(encodeRuneZ (N8 (hexDigits r 8)),10):=rfl;rw [e,b3L r zo];rfl
theorem a5e (T:PrintTabs) (s:ByteArray) (h0:0<s.size) (rest:List Int):∃l,bI s.data.toList=l++bI (s.extract (Utf8.decode s 0).2 s.size).data.toList/\Y8 (quoteStep T s++rest)=(l,(quoteStep T s).length)/\(quoteStep T s).getD 0 0≠34/\0<(quoteStep T s).length:=by
 by_cases hg:(Utf8.decode s 0).2=1/\(Utf8.decode s 0).1=65533
 ·have e:quoteStep T s=[92,120,Lib.hexDigit ((s.get! 0).toNat / 16),Lib.hexDigit ((s.get! 0).toNat%16)]:=by unfold quoteStep;rw [if_pos hg]
  rw [e,hg.1];have t:=(s.get! 0).toNat_lt;refine ⟨[((s.get! 0).toNat:Int)], ?_, ?_,by show (92:Int)≠34;omega,Nat.succ_pos _⟩
  ·rw [a1w,a8F];have hsz:s.size=s.data.toList.length:=by show s.data.size=_;rw [Array.length_toList]
   rw [hsz] at h0
   generalize s.data.toList=L at h0
   cases L with
   |nil=>simp at h0
   |cons a l=>rfl
  show ([N8 [Lib.hexDigit ((s.get! 0).toNat / 16),Lib.hexDigit ((s.get! 0).toNat%16)]],4)=_;simp only [N8,List.foldl_cons,List.foldl_nil,S5 _ (show (s.get! 0).toNat / 16<16 by omega),S5 _ (show (s.get! 0).toNat%16<16 by omega)];refine Prod.ext ?_ rfl;show [16*(16*0+(((s.get! 0).toNat / 16:Nat):Int))+(((s.get! 0).toNat%16:Nat):Int)]=[((s.get! 0).toNat:Int)];congr 1;omega
 rw [quoteStep_good T s hg];have hv:=rune_valid s;simp only [Lib.validRune,decide_eq_true_eq] at hv;obtain ⟨a,b,c⟩:=b6n T (Utf8.decode s 0).1 zo zo rest;exact ⟨_,b3J s h0 hg,a,b,c⟩
theorem a9o (T:PrintTabs):∀(n f g:Nat) (s t:ByteArray) (r q:List Int),s.size<=n->s.size<=f->t.size<=g->quoteFrom T f s++34::r=quoteFrom T g t++34::q->s=t/\r=q:=by
 intro n
 induction n with
 | zero=>
  intro f g s t r q hn hf hg h;have hs:¬0<s.size:=zo
  rw [quoteFrom_end T f s hs] at h;by_cases ht:0<t.size
  ·rw [quoteFrom_step T g t ht hg,zz12] at h;obtain ⟨l, -, -,h3,h4⟩:=a5e T t ht []
   cases hq:quoteStep T t with
   |nil=>rw [hq] at h4;simp at h4
   |cons a m=>
    rw [hq] at h h3;simp at h h3;exact absurd h.1.symm h3
  ·rw [quoteFrom_end T g t ht] at h;refine ⟨?_,by simpa using h⟩;apply ByteArray.ext;have a:s.data.size=0:=by show s.size=0;omega
   have b:t.data.size=0:=by show t.size=0;omega
   rw [Array.eq_empty_of_size_eq_zero a,Array.eq_empty_of_size_eq_zero b]
 | succ n ih=>
  intro f g s t r q hn hf hg h;by_cases hs:0<s.size
  ·rw [quoteFrom_step T f s hs hf,zz12] at h;by_cases ht:0<t.size
   ·rw [quoteFrom_step T g t ht hg,zz12] at h;obtain ⟨l,a1,a2, -, -⟩:=a5e T s hs (quoteFrom T (f - 1) (s.extract (Utf8.decode s 0).2 s.size)++34::r);obtain ⟨m,b1,b2, -, -⟩:=a5e T t ht (quoteFrom T (g - 1) (t.extract (Utf8.decode t 0).2 t.size)++34::q);rw [<-h,a2] at b2;have e1:l=m:=congrArg Prod.fst b2;have e2:(quoteStep T s).length=(quoteStep T t).length:=congrArg Prod.snd b2;obtain ⟨-,h5⟩:=List.append_inj h e2;have w1:=width_pos s 0;have w2:=width_pos t 0;have w3:=width_le s hs;have w4:=width_le t ht;obtain ⟨i1,i2⟩:=ih (f - 1) (g - 1) _ _ r q (by rw [size_rest];omega) (by rw [size_rest];omega) (by rw [size_rest];omega) h5;refine ⟨?_,i2⟩;rw [i1,e1,<-b1] at a1;have:=b07 a1;apply ByteArray.ext;exact Array.toList_inj.1 this
   rw [quoteFrom_end T g t ht] at h;obtain ⟨l, -, -,h3,h4⟩:=a5e T s hs []
   cases hq:quoteStep T s with
   |nil=>rw [hq] at h4;simp at h4
   |cons a m=>
    rw [hq] at h h3;simp at h h3;exact absurd h.1 h3
  exact ih f g s t r q zo hf hg h
theorem a7v (T:PrintTabs) (s t:ByteArray) (r q:List Int) (h:quoteZ T s++r=quoteZ T t++q):s=t/\r=q:=by
 have h2:34::(quoteFrom T s.size s++34::r)=34::(quoteFrom T t.size t++34::q):=by
  have a:∀(u:ByteArray) (x:List Int),quoteZ T u++x=34::(quoteFrom T u.size u++34::x):=fun u x=>by unfold quoteZ;rw [List.cons_append,zz12,List.singleton_append]
  rw [<-a,<-a];exact h
 exact a9o T s.size s.size t.size s t r q (Nat.le_refl _) (Nat.le_refl _) (Nat.le_refl _) (List.cons.inj h2).2
theorem a0s (x:Nat) (h:x<16):0<=Lib.hexDigit x/\Lib.hexDigit x<256:=by unfold Lib.hexDigit;split<;>omega
theorem a1T (r n:Nat):∀x∈hexDigits r n,0<=x/\x<256:=by
 induction n with
 |zero=>intro x hx;simp [hexDigits] at hx
 |succ n ih=>
  intro x hx;rcases List.mem_cons.1 hx with rfl|hx
  ·exact a0s _ (Nat.mod_lt _ zd)
  exact ih x hx
def Byt (l:List Int):Prop:=∀x∈l,0<=x/\x<256
theorem J4 {c:Prop} [Decidable c] {a b:List Int} (h:c->Byt a) (k:¬c->Byt b):Byt (if c then a else b):=by
 by_cases hc:c
 ·rw [if_pos hc];exact h hc
 rw [if_neg hc];exact k hc
theorem E7 {a:Int} {l:List Int} (h:0<=a/\a<256) (k:Byt l):Byt (a::l):=fun x hx=>by
 rcases List.mem_cons.1 hx with rfl|hx
 ·exact h
 exact k x hx
theorem a8G:Byt []:=fun x hx=>by cases hx
theorem b1a (T:PrintTabs) (r:Nat):Byt (escRune T r):=by
 have lit:∀a:Int,0<=a/\a<256->Byt [92,a]:=fun a h=>E7 zo (E7 h a8G);unfold escRune;refine J4 (fun c=>lit _ zo) fun _=> ?_;refine J4 (fun c=>encodeRuneZ_byte r) fun _=> ?_;refine J4 (fun c=>lit _ zo) fun _=> ?_;refine J4 (fun c=>lit _ zo) fun _=> ?_;refine J4 (fun c=>lit _ zo) fun _=> ?_;refine J4 (fun c=>lit _ zo) fun _=> ?_;refine J4 (fun c=>lit _ zo) fun _=> ?_;refine J4 (fun c=>lit _ zo) fun _=> ?_;refine J4 (fun c=>lit _ zo) fun _=> ?_;refine J4 (fun c=>E7 zo (E7 zo (E7 (a0s _ zo) (E7 (a0s _ zo) a8G)))) fun _=> ?_;refine J4 (fun c=>E7 zo (E7 zo (a1T _ _))) fun _=> ?_;exact J4 (fun c=>E7 zo (E7 zo (a1T _ _))) fun _=>E7 zo (E7 zo (a1T _ _))
theorem a7w (T:PrintTabs):∀(f:Nat) (s:ByteArray),∀x∈quoteFrom T f s,0<=x/\x<256:=by
 intro f
 induction f with
 |zero=>intro s x hx;simp [quoteFrom] at hx
 | succ f ih=>
  intro s x hx;unfold quoteFrom at hx;split at hx
  ·rcases zz14 hx with hx|hx
   ·unfold quoteStep at hx;split at hx
    ·have t:=(s.get! 0).toNat_lt;have a:=a0s ((s.get! 0).toNat / 16) zo;have b:=a0s ((s.get! 0).toNat%16) zo;simp only [List.mem_cons,List.not_mem_nil,or_false] at hx;rcases hx with rfl|rfl|rfl|rfl
     ·omega
     ·omega
     ·exact a
     exact b
    exact b1a T _ x hx
   exact ih _ x hx
  simp at hx
theorem a56 (T:PrintTabs) (s:ByteArray):∀x∈quoteZ T s,0<=x/\x<256:=by
 intro x hx;unfold quoteZ at hx;rcases List.mem_cons.1 hx with rfl|hx
 ·omega
 rcases zz14 hx with hx|hx
 ·exact a7w T _ s x hx
 rw [List.mem_singleton.1 hx];omega
def a3g (T:PrintTabs) (s:ByteArray):List UInt8:=(quoteZ T s).map fun n=>UInt8.ofNat n.toNat
theorem a8H (T:PrintTabs) (s:ByteArray):bI (a3g T s)=quoteZ T s:=by
 unfold a3g bI;rw [List.map_map]
 conv=>rhs;rw [<-List.map_id (quoteZ T s)]
 refine List.map_congr_left fun x hx=> ?_;have:=a56 T s x hx;show (((UInt8.ofNat x.toNat).toNat:Nat):Int)=x;have e:(UInt8.ofNat x.toNat).toNat=x.toNat%256:=rfl;rw [e];omega
theorem b1b (T:PrintTabs) (s t:ByteArray) (r q:List UInt8) (h:a3g T s++r=a3g T t++q):s=t/\r=q:=by
 have h2:=congrArg bI h;rw [a4t,a4t,a8H,a8H] at h2;obtain ⟨a,b⟩:=a7v T s t _ _ h2;exact ⟨a,b07 b⟩
theorem a4u (T:PrintTabs) (s:ByteArray):∃r,a3g T s=34::r:=⟨_,rfl⟩
theorem b1c (T:PrintTabs) (s:ByteArray):(a3g T s).length<=10*s.size+2:=by
 unfold a3g;rw [zz10];exact quoteZ_length_le T s
end
end Go.Proofs.YtdmjoodhaeijmaaGreatDoor
