/- Lemmas. -/
import Derived.Test.YtaenebdppkjhoaaGreatDoorZf18
import Derived.Lib.QuoteLoop
import Derived.Test.YtaenebdppkjhoaaGreatDoorZf10
import Derived.Lib.PrintData
namespace Go.Proofs.YtaenebdppkjhoaaGreatDoor
set_option maxRecDepth 20000
set_option maxHeartbeats 40000000
section
def M0 (l:List UInt8):Bool:=l.any fun c=>c==46||c==101||c==73||c==78
def N1 (b:Nat):List UInt8:=if M0 (u4 b) then u4 b else u4 b++[46,48]
def q8 (c:UInt8):Prop:=43<=c.toNat/\c.toNat<=110
theorem a16 {c:UInt8} (h:m5 c):q8 c:=⟨by have:=h.1;omega,by have:=h.2;omega⟩
theorem a4U (e:Nat) (h:e<=999):∀c∈D8 e,m5 c:=by
 intro c hc
 have hd:∀k,k<10->m5 (UInt8.ofNat (48+k)):=fun k hk=>by
  have e:(UInt8.ofNat (48+k)).toNat=(48+k)%256:=rfl;unfold m5;rw [e];omega
 unfold D8 at hc;split at hc
 ·simp only [List.mem_cons,List.not_mem_nil,or_false] at hc;rcases hc with rfl|rfl
  ·exact hd _ (by omega)
  exact hd _ (by omega)
 simp only [List.mem_cons,List.not_mem_nil,or_false] at hc;rcases hc with rfl|rfl|rfl
 ·exact hd _ (by omega)
 ·exact hd _ (by omega)
 exact hd _ (by omega)
theorem a9C {ds:List UInt8} {dp:Int} (h:O5 ds) (hr: -400<=dp/\dp<=400):∀c∈E8 ds dp,q8 c:=by
 have one:∀k:UInt8,q8 k->∀c∈[k],q8 c:=fun k hk c hc=>by rw [List.mem_singleton.1 hc];exact hk
 have app:∀{a b:List UInt8},(∀c∈a,q8 c)->(∀c∈b,q8 c)->∀c∈a++b,q8 c:=fun ha hb c hc=>(zz14 hc).elim (ha c) (hb c);have dd:∀c∈ds,q8 c:=fun c hc=>a16 (h.dig c hc);have t48:q8 48:=by unfold q8;decide
 have t46:q8 46:=by unfold q8;decide
 have t101:q8 101:=by unfold q8;decide
 have t45:q8 45:=by unfold q8;decide
 have t43:q8 43:=by unfold q8;decide
 have zz:∀n,∀c∈j3 n,q8 c:=fun n c hc=>a16 (Y1 n c hc);have cons:∀{k:UInt8} {l:List UInt8},q8 k->(∀c∈l,q8 c)->∀c∈k::l,q8 c:=fun hk hl=>app (one _ hk) hl;unfold E8 O0;simp only [s6,Bool.false_eq_true,if_false,List.nil_append];split
 ·exact one _ t48
 split
 ·refine app (app (app (fun c hc=>dd c (List.mem_of_mem_take hc)) ?_) (one _ t101)) ?_
  ·unfold z8;split
   ·intro c hc;cases hc
   exact cons t46 (fun c hc=>dd c (List.mem_of_mem_drop hc))
  unfold N0;split
  ·exact cons t45 fun c hc=>a16 (a4U _ (by omega) c hc)
  exact cons t43 fun c hc=>a16 (a4U _ (by omega) c hc)
 split
 ·exact app (app (cons t48 (one _ t46)) (zz _)) dd
 split
 ·exact app (app (fun c hc=>dd c (List.mem_of_mem_take hc)) (one _ t46)) (fun c hc=>dd c (List.mem_of_mem_drop hc))
 exact app dd (zz _)
def a9D (t:List UInt8):List UInt8×Int:=if (a3d t).1=[] then ([],0) else a3d t
theorem a6e {l:List UInt8} (h:M0 l=false):∀c∈l,c≠46/\c≠101/\c≠73/\c≠78:=by
 intro c hc;have:=List.any_eq_false.1 h c hc;simp only [Bool.or_eq_true,beq_iff_eq,not_or] at this;exact ⟨this.1.1.1,this.1.1.2,this.1.2,this.2⟩
theorem a78 {ds:List UInt8} {dp:Int} (h:O5 ds) (hd:ds=[]->dp=0) (hr: -400<=dp/\dp<=400):a9D (E8 ds dp)=(ds,dp):=by
 unfold a9D;rw [a08 h hd hr];split
 ·rename_i e
  simp only at e;rw [e,hd e]
 rfl
theorem a6f {ds:List UInt8} {dp:Int} (hne:ds≠[]) (hs:M0 (E8 ds dp)=false):0<dp/\(ds.length:Int)<=dp/\E8 ds dp=ds++j3 (dp.toNat - ds.length):=by
 have hsp:=a6e hs;unfold E8 O0 at hsp⊢;rw [if_neg hne] at hsp⊢;simp only [s6,Bool.false_eq_true,if_false,List.nil_append] at hsp⊢;by_cases h1:dp - 1< -4\/6<=dp - 1
 ·rw [if_pos h1] at hsp;exact absurd rfl (hsp 101 (by simp)).2.1
 rw [if_neg h1] at hsp⊢;by_cases h2:dp<=0
 ·rw [if_pos h2] at hsp;exact absurd rfl (hsp 46 (by simp)).1
 rw [if_neg h2] at hsp⊢;by_cases h3:dp<ds.length
 ·rw [if_pos h3] at hsp;exact absurd rfl (hsp 46 (by simp)).1
 rw [if_neg h3];exact ⟨by omega,by omega,rfl⟩
theorem a6g {ds:List UInt8} {dp:Int} (h:O5 ds) (hd:ds=[]->dp=0) (hs:M0 (E8 ds dp)=false):a9D (E8 ds dp++[46,48])=(ds,dp):=by
 by_cases hne:ds=[]
 ·subst hne;rw [hd rfl];decide
 obtain ⟨h1,h2,h3⟩:=a6f hne hs;have e101:(101:UInt8)=101\/(101:UInt8)=46\/(101:UInt8)=45:= .inl rfl;have e46:(46:UInt8)=101\/(46:UInt8)=46\/(46:UInt8)=45:= .inr (.inl rfl)
 have hdz:∀c∈ds++j3 (dp.toNat - ds.length),m5 c:=fun c hc=>by
  rcases zz14 hc with hc|hc
  ·exact h.dig c hc
  exact Y1 _ c hc
 have key:a3d (E8 ds dp++[46,48])=(ds,dp):=by
  rw [h3];unfold a3d;simp only;rw [P5 101 e101 hdz,P6 101 e101 hdz];have t1:([46,48]:List UInt8).takeWhile (· !=101)=[46,48]:=rfl;have t2:([46,48]:List UInt8).dropWhile (· !=101)=[]:=rfl;rw [t1,t2,P5 46 e46 hdz,P6 46 e46 hdz];have t3:([46,48]:List UInt8).takeWhile (· !=46)=[]:=rfl;have t4:(([46,48]:List UInt8).dropWhile (· !=46)).drop 1=[48]:=rfl;rw [t3,t4]
  have a1:ds++j3 (dp.toNat - ds.length)++[]++[48]=ds++j3 (dp.toNat - ds.length+1):=by
   unfold j3;rw [zz11,zz12,List.replicate_succ']
  rw [a1];have sc:=K0 h hne 0 (dp.toNat - ds.length+1);simp only [show j3 0=[] from rfl,List.nil_append] at sc;rw [sc.1,sc.2];simp only [List.drop_nil,zz11,a59,zz4,j3,List.length_replicate];congr 1;omega
 unfold a9D;rw [key,if_neg hne]
theorem a79 {c:UInt8} {l:List UInt8} (h:M0 (c::l)=false):M0 l=false:=by
 unfold M0 at h⊢;rw [List.any_cons,Bool.or_eq_false_iff] at h;exact h.2
theorem F9 {b:Nat} {ds:List UInt8} {dp:Int} (hc:O5 ds) (h0:ds=[]->dp=0) (hr: -400<=dp/\dp<=400) (h:u4 b=O0 (decide (b / 2^63≠0)) ds dp):
 ∃t,N1 b=s6 (decide (b / 2^63≠0))++t/\a9D t=(ds,dp)/\(∃c r,t=c::r/\m5 c)/\(∀c∈t,q8 c):=by
 obtain ⟨c,r,hb,hdg⟩:=Y2 (dp:=dp) hc;have hbt:=a9C (dp:=dp) hc hr;unfold N1;rw [h,a15];split
 ·exact ⟨_,rfl,a78 hc h0 hr,⟨c,r,hb,hdg⟩,hbt⟩
 rename_i hs
 have hs2:M0 (E8 ds dp)=false:=by
  have hs:M0 (s6 (decide (b / 2^63≠0))++E8 ds dp)=false:=by simpa using hs
  unfold s6 at hs;split at hs
  ·exact a79 hs
  exact hs
 refine ⟨E8 ds dp++[46,48],by rw [zz12],a6g hc h0 hs2,⟨c,r++[46,48],by rw [hb];rfl,hdg⟩,fun c hc=> ?_⟩;rcases zz14 hc with hc|hc
 ·exact hbt c hc
 simp only [List.mem_cons,List.not_mem_nil,or_false] at hc;rcases hc with rfl|rfl<;>(unfold q8;decide)
theorem N3 {b:Nat} (h:u4 b=[78,97,78]):N1 b=[78,97,78]:=by unfold N1;rw [h];rfl
theorem J0 {b:Nat} (h:u4 b=[45,73,110,102]):N1 b=[45,73,110,102]:=by unfold N1;rw [h];rfl
theorem J1 {b:Nat} (h:u4 b=[43,73,110,102]):N1 b=[43,73,110,102]:=by unfold N1;rw [h];rfl
structure b3P (b:Nat):Prop where
 lt:b<2^64
 nan:b%2^63 / 2^52=2047->b%2^52≠0->b=9221120237041090561
 zero:b%2^63=0->b=0
theorem a9E {a b:Nat} (ka:b3P a) (kb:b3P b) (h:N1 a=N1 b):a=b:=by
 have nd1:¬m5 78:=by unfold m5;decide
 have nd2:¬m5 73:=by unfold m5;decide
 have nd3:¬m5 43:=by unfold m5;decide
 have nd4:¬m5 45:=by unfold m5;decide
 have sp:∀{neg:Bool} {t:List UInt8},(∃c r,t=c::r/\m5 c)->s6 neg++t≠[78,97,78]/\s6 neg++t≠[45,73,110,102]/\s6 neg++t≠[43,73,110,102]:=by
  rintro neg t ⟨c,r,rfl,h2⟩;cases neg
  ·refine ⟨fun h=> ?_,fun h=> ?_,fun h=> ?_⟩<;>simp [s6] at h<;>rw [h.1] at h2
   ·exact nd1 h2
   ·exact nd4 h2
   exact nd3 h2
  refine ⟨fun h=> ?_,fun h=> ?_,fun h=> ?_⟩<;>simp [s6] at h;rw [h.1] at h2;exact nd2 h2
 rcases a09 a with ⟨a1,a2,at'⟩|⟨a1,a2,a3,at'⟩|⟨a1,a2,a3,at'⟩|⟨a1,ds,dp,ac,az,a0,ar,av,at'⟩<;>
 rcases a09 b with ⟨b1,b2,bt⟩|⟨b1,b2,b3,bt⟩|⟨b1,b2,b3,bt⟩|⟨b1,es,ep,bc,bz,b0,br,bv,bt⟩
 ·rw [ka.nan a1 a2,kb.nan b1 b2]
 ·rw [N3 at',J0 bt] at h;simp at h
 ·rw [N3 at',J1 bt] at h;simp at h
 ·obtain ⟨t,h1, -,h2, -⟩:=F9 bc b0 br bt;rw [N3 at',h1] at h;exact absurd h.symm (sp h2).1
 ·rw [J0 at',N3 bt] at h;simp at h
 ·have:=ka.lt;have:=kb.lt;omega
 ·rw [J0 at',J1 bt] at h;simp at h
 ·obtain ⟨t,h1, -,h2, -⟩:=F9 bc b0 br bt;rw [J0 at',h1] at h;exact absurd h.symm (sp h2).2.1
 ·rw [J1 at',N3 bt] at h;simp at h
 ·rw [J1 at',J0 bt] at h;simp at h
 ·have:=ka.lt;have:=kb.lt;omega
 ·obtain ⟨t,h1, -,h2, -⟩:=F9 bc b0 br bt;rw [J1 at',h1] at h;exact absurd h.symm (sp h2).2.2
 ·obtain ⟨t,h1, -,h2, -⟩:=F9 ac a0 ar at';rw [N3 bt,h1] at h;exact absurd h (sp h2).1
 ·obtain ⟨t,h1, -,h2, -⟩:=F9 ac a0 ar at';rw [J0 bt,h1] at h;exact absurd h (sp h2).2.1
 ·obtain ⟨t,h1, -,h2, -⟩:=F9 ac a0 ar at';rw [J1 bt,h1] at h;exact absurd h (sp h2).2.2
 obtain ⟨t,h1,h2,⟨c,r,h3,h4⟩, -⟩:=F9 ac a0 ar at';obtain ⟨u,g1,g2,⟨d,q,g3,g4⟩, -⟩:=F9 bc b0 br bt;rw [h1,g1] at h
 have hs:decide (a / 2^63≠0)=decide (b / 2^63≠0)/\t=u:=by
  have ne1:=T4 h4 45 (.inr (.inr rfl));have ne2:=T4 g4 45 (.inr (.inr rfl));rw [bne_iff_ne] at ne1 ne2
  generalize decide (a / 2^63≠0)=n1 at h
  generalize decide (b / 2^63≠0)=n2 at h
  cases n1<;>cases n2<;>simp only [s6,Bool.false_eq_true,if_false,if_true,List.nil_append] at h
  ·exact ⟨rfl,h⟩
  ·rw [h3] at h;simp at h;exact absurd h.1 ne1
  ·rw [g3] at h;simp at h;exact absurd h.1.symm ne2
  simp at h;exact ⟨rfl,h⟩
 rw [hs.2,g2] at h2;have h3:es=ds:=congrArg Prod.fst h2;have h4:ep=dp:=congrArg Prod.snd h2;subst h3 h4;refine b1Z ka.lt kb.lt ka.nan kb.nan ka.zero kb.zero ?_;rw [at',bt,hs.1]
theorem a0F (b:Nat):(∃c r,N1 b=c::r)/\(∀c∈N1 b,q8 c)/\(∀r,N1 b≠110::r)/\M0 (N1 b)=true:=by
 rcases a09 b with ⟨b1,b2,bt⟩|⟨b1,b2,b3,bt⟩|⟨b1,b2,b3,bt⟩|⟨b1,es,ep,bc,bz,b0,br,bv,bt⟩
 ·rw [N3 bt];refine ⟨⟨_,_,rfl⟩,fun c hc=> ?_,fun r h=>by simp at h,rfl⟩;simp only [List.mem_cons,List.not_mem_nil,or_false] at hc;rcases hc with rfl|rfl|rfl<;>(unfold q8;decide)
 ·rw [J0 bt];refine ⟨⟨_,_,rfl⟩,fun c hc=> ?_,fun r h=>by simp at h,rfl⟩;simp only [List.mem_cons,List.not_mem_nil,or_false] at hc;rcases hc with rfl|rfl|rfl|rfl<;>(unfold q8;decide)
 ·rw [J1 bt];refine ⟨⟨_,_,rfl⟩,fun c hc=> ?_,fun r h=>by simp at h,rfl⟩;simp only [List.mem_cons,List.not_mem_nil,or_false] at hc;rcases hc with rfl|rfl|rfl|rfl<;>(unfold q8;decide)
 obtain ⟨t,h1, -,⟨c,r,h3,h4⟩,h5⟩:=F9 bc b0 br bt
 have hsp:M0 (N1 b)=true:=by
  unfold N1;split
  ·assumption
  unfold M0;rw [List.any_append];simp
 rw [h1] at hsp⊢;rw [h3] at hsp⊢;rw [h3] at h5
 have n110:c≠110:=by
  rintro rfl;have:=h4.2;revert this;decide
 refine ⟨?_, ?_, ?_,hsp⟩
 ·cases decide (b / 2^63≠0)
  ·exact ⟨_,_,rfl⟩
  exact ⟨_,_,rfl⟩
 ·intro x hx;rcases zz14 hx with hx|hx
  ·unfold s6 at hx;split at hx
   ·rw [List.mem_singleton.1 hx];unfold q8;decide
   ·cases hx
  exact h5 x hx
 intro r h
 generalize decide (b / 2^63≠0)=ng at h
 cases ng
 ·simp [s6] at h;exact n110 h.1
 simp [s6] at h
end
section
open Go.Lib
def bI (l:List UInt8):List Int:=l.map fun b=>(b.toNat:Int)
theorem a3v (a b:List UInt8):bI (a++b)=bI a++bI b:=List.map_append
theorem a9F {a b:List UInt8} (h:bI a=bI b):a=b:=by
 induction a generalizing b with
 |nil=>cases b with
  |nil=>rfl
  |cons c l=>simp [bI] at h
 | cons x l ih=>
  cases b with
  |nil=>simp [bI] at h
  |cons y m=>
   simp only [bI,List.map_cons,List.cons.injEq] at h;have h1:x=y:=UInt8.toNat_inj.1 (by omega);rw [h1,ih (b:=m) h.2]
theorem a7s (s:ByteArray) (i:Nat):s.get! i=s.data.toList.getD i 0:=by
 show s.data[i]! =_;rw [List.getD_eq_getElem?_getD,Array.getElem?_toList,getElem!_def];cases s.data[i]? <;>rfl
theorem a0G (s:ByteArray) (k:Nat):(s.extract k s.size).data.toList=s.data.toList.drop k:=by
 have:(s.extract k s.size).data=s.data.extract k s.size:=by rw [ByteArray.data_extract]
 rw [this,Array.toList_extract,List.extract_eq_take_drop];exact List.take_of_length_le (by rw [List.length_drop,Array.length_toList];exact Nat.le_refl _)
theorem b4Q {b0:UInt8} {l:List UInt8} (h:3<(b0::l).length):∃b1 b2 b3 m,l=b1::b2::b3::m:=by
 match l,h with
 |b1::b2::b3::m,_=>exact ⟨b1,b2,b3,m,rfl⟩
 |[_,_],h=>simp at h
 |[_],h=>simp at h
 |[],h=>simp at h
theorem b3Q {a b c d:Int} (h:a=c) (i:b=d):[a,b]=[c,d]:=by rw [h,i]
theorem a9G {a b c d e f:Int} (h:a=d) (i:b=e) (j:c=f):[a,b,c]=[d,e,f]:=by rw [h,i,j]
theorem b13 {a b c d e f g k:Int} (h:a=e) (i:b=f) (j:c=g) (l:d=k):[a,b,c,d]=[e,f,g,k]:=by rw [h,i,j,l]
theorem b14 (s:ByteArray) (h0:0<s.size) (hg:¬((Utf8.decode s 0).2=1/\(Utf8.decode s 0).1=65533)):
 bI s.data.toList=encodeRuneZ ((Utf8.decode s 0).1:Int)++bI (s.extract (Utf8.decode s 0).2 s.size).data.toList:=by
 rw [a0G];rw [decode_at] at hg⊢;simp only [a7s,Nat.zero_add] at hg⊢;have hsz:s.size=s.data.toList.length:=by show s.data.size=_;rw [Array.length_toList]
 rw [hsz] at hg h0⊢
 generalize s.data.toList=L at hg h0⊢
 match L,h0 with
 |b0::l,_=>
  have t0:=b0.toNat_lt;simp only [List.getD_cons_zero,List.getD_cons_succ,Nat.sub_zero] at hg⊢;unfold decodeN at hg⊢;by_cases c1:b0.toNat<128
  ·rw [if_pos c1];simp only;rw [encodeRuneZ_one (by omega) (by omega)];rfl
  rw [if_neg c1] at hg⊢;by_cases c2:b0.toNat / 32=6/\(1<(b0::l).length/\(l.getD 0 0).toNat / 64=2)
  ·rw [if_pos c2] at hg⊢;split at hg
   ·rename_i c3
    rw [if_pos c3]
    match l,c2 with
    |b1::m,c2=>
     simp only [List.getD_cons_zero] at c2 c3⊢;have t1:=b1.toNat_lt;rw [encodeRuneZ_two (by omega) (by omega)];rw [show bI (b0::b1::m)=[(b0.toNat:Int),b1.toNat]++bI m from rfl,show List.drop 2 (b0::b1::m)=m from rfl];refine congrArg (· ++bI m) (b3Q ?_ ?_)<;>omega
    |[],c2=>simp at c2
   exact absurd ⟨rfl,rfl⟩ hg
  rw [if_neg c2] at hg⊢;by_cases c3:b0.toNat / 16=14/\(1<(b0::l).length/\(l.getD 0 0).toNat / 64=2)/\(2<(b0::l).length/\(l.getD 1 0).toNat / 64=2)
  ·rw [if_pos c3] at hg⊢;split at hg
   ·rename_i c4
    rw [if_pos c4]
    match l,c3 with
    |b1::b2::m,c3=>
     simp only [List.getD_cons_zero,List.getD_cons_succ] at c3 c4⊢;have t1:=b1.toNat_lt;have t2:=b2.toNat_lt;rw [encodeRuneZ_three (by omega)];rw [show bI (b0::b1::b2::m)=[(b0.toNat:Int),b1.toNat,b2.toNat]++bI m from rfl,show List.drop 3 (b0::b1::b2::m)=m from rfl];refine congrArg (· ++bI m) (a9G ?_ ?_ ?_)<;>omega
    |[_],c3=>simp at c3
    |[],c3=>simp at c3
   exact absurd ⟨rfl,rfl⟩ hg
  rw [if_neg c3] at hg⊢;by_cases c4:b0.toNat / 8=30/\(1<(b0::l).length/\(l.getD 0 0).toNat / 64=2)/\(2<(b0::l).length/\(l.getD 1 0).toNat / 64=2)/\(3<(b0::l).length/\(l.getD 2 0).toNat / 64=2)
  ·rw [if_pos c4] at hg⊢;split at hg
   ·rename_i c5
    rw [if_pos c5];obtain ⟨b1,b2,b3,m,rfl⟩:=b4Q c4.2.2.2.1;simp only [List.getD_cons_zero,List.getD_cons_succ] at c4 c5⊢;have t1:=b1.toNat_lt;have t2:=b2.toNat_lt;have t3:=b3.toNat_lt;rw [encodeRuneZ_four (by omega) (by omega)];rw [show bI (b0::b1::b2::b3::m)=[(b0.toNat:Int),b1.toNat,b2.toNat,b3.toNat]++bI m from rfl,show List.drop 4 (b0::b1::b2::b3::m)=m from rfl];refine congrArg (· ++bI m) (b13 ?_ ?_ ?_ ?_)<;>omega
   exact absurd ⟨rfl,rfl⟩ hg
  rw [if_neg c4] at hg;exact absurd ⟨rfl,rfl⟩ hg
def a9H (x:Int):Int:=if x<60 then x - 48 else x - 87
theorem M4 (x:Nat) (h:x<16):a9H (Lib.hexDigit x)=x:=by
 unfold a9H Lib.hexDigit;split
 ·rw [if_pos (by omega)];omega
 rw [if_neg (by omega)];omega
def J2 (l:List Int):Int:=l.foldl (fun a x=>16*a+a9H x) 0
theorem b15 (r:Nat) (h:r<65536):J2 (hexDigits r 4)=r:=by
 simp only [J2,hexDigits,List.foldl_cons,List.foldl_nil,M4 _ (Nat.mod_lt _ (show 0<16 by decide))];omega
theorem b16 (r:Nat) (h:r<4294967296):J2 (hexDigits r 8)=r:=by
 simp only [J2,hexDigits,List.foldl_cons,List.foldl_nil,M4 _ (Nat.mod_lt _ (show 0<16 by decide))];omega
def b4v (x:Int):Int:=if x=97 then 7 else if x=98 then 8 else if x=102 then 12 else if x=110 then 10 else if x=114 then 13 else if x=116 then 9 else if x=118 then 11 else x
def T5 (l:List Int):List Int×Nat:=
 if l.getD 0 0=92 then
  if l.getD 1 0=120 then ([J2 ((l.drop 2).take 2)],4)
  else if l.getD 1 0=117 then (encodeRuneZ (J2 ((l.drop 2).take 4)),6)
  else if l.getD 1 0=85 then (encodeRuneZ (J2 ((l.drop 2).take 8)),10)
  else ([b4v (l.getD 1 0)],2)
 else if l.getD 0 0<128 then (l.take 1,1)
 else if l.getD 0 0<224 then (l.take 2,2)
 else if l.getD 0 0<240 then (l.take 3,3)
 else (l.take 4,4)
theorem b4w (r:Int) (h:0<=r) (h1:r<=1114111) (hv:r<55296\/57343<r) (n1:r≠92) (rest:List Int):T5 (encodeRuneZ r++rest)=(encodeRuneZ r,(encodeRuneZ r).length):=by
 by_cases a1:r<=127
 ·rw [encodeRuneZ_one h a1];unfold T5;rw [if_neg (by simpa using n1),if_pos (by show r<128;omega)];rfl
 by_cases a2:r<=2047
 ·rw [encodeRuneZ_two (by omega) a2];unfold T5;rw [if_neg (by show¬192+r / 64=92;omega),if_neg (by show¬192+r / 64<128;omega),if_pos (by show 192+r / 64<224;omega)];rfl
 by_cases a3:r<=65535
 ·rw [encodeRuneZ_three (by omega)];unfold T5;rw [if_neg (by show¬224+r / 4096=92;omega),if_neg (by show¬224+r / 4096<128;omega),if_neg (by show¬224+r / 4096<224;omega),if_pos (by show 224+r / 4096<240;omega)];rfl
 rw [encodeRuneZ_four (by omega) h1];unfold T5;rw [if_neg (by show¬240+r / 262144=92;omega),if_neg (by show¬240+r / 262144<128;omega),if_neg (by show¬240+r / 262144<224;omega),if_neg (by show¬240+r / 262144<240;omega)];rfl
theorem b4x (T:PrintTabs) (r:Nat) (h1:(r:Int)<=1114111) (hv:(r:Int)<55296\/57343<(r:Int)) (rest:List Int):T5 (escRune T r++rest)=(encodeRuneZ r,(escRune T r).length)/\(escRune T r).getD 0 0≠34/\0<(escRune T r).length:=by
 have hvr:Lib.validRune (r:Int)=true:=by
  simp only [Lib.validRune,decide_eq_true_eq];omega
 have e1:∀k:Nat,k<=127->(r:Int)=k->encodeRuneZ (r:Int)=[(k:Int)]:=fun k hk e=>by rw [e];exact encodeRuneZ_one (by omega) (by omega)
 unfold escRune;by_cases c0:(r:Int)=34\/(r:Int)=92
 ·rw [if_pos c0];rcases c0 with c|c
  ·rw [e1 34 (by omega) c,c];exact ⟨rfl,by decide,by decide⟩
  rw [e1 92 (by omega) c,c];exact ⟨rfl,by decide,by decide⟩
 rw [if_neg c0];by_cases c1:isPrintR T r=true
 ·rw [if_pos c1];refine ⟨b4w r (by omega) h1 hv (fun e=>c0 (.inr e)) rest, ?_,(encodeRuneZ_length r).1⟩;unfold encodeRuneZ;split
  ·show¬(r:Int)=34;exact fun e=>c0 (.inl e)
  split
  ·show¬192+(r:Int) / 64=34;omega
  split
  ·show¬224+(r:Int) / 4096=34;omega
  split
  ·show¬240+(r:Int) / 262144=34;omega
  decide
 rw [if_neg c1];by_cases c2:(r:Int)=7
 ·rw [if_pos c2,e1 7 (by omega) c2];exact ⟨rfl,by decide,by decide⟩
 rw [if_neg c2];by_cases c3:(r:Int)=8
 ·rw [if_pos c3,e1 8 (by omega) c3];exact ⟨rfl,by decide,by decide⟩
 rw [if_neg c3];by_cases c4:(r:Int)=12
 ·rw [if_pos c4,e1 12 (by omega) c4];exact ⟨rfl,by decide,by decide⟩
 rw [if_neg c4];by_cases c5:(r:Int)=10
 ·rw [if_pos c5,e1 10 (by omega) c5];exact ⟨rfl,by decide,by decide⟩
 rw [if_neg c5];by_cases c6:(r:Int)=13
 ·rw [if_pos c6,e1 13 (by omega) c6];exact ⟨rfl,by decide,by decide⟩
 rw [if_neg c6];by_cases c7:(r:Int)=9
 ·rw [if_pos c7,e1 9 (by omega) c7];exact ⟨rfl,by decide,by decide⟩
 rw [if_neg c7];by_cases c8:(r:Int)=11
 ·rw [if_pos c8,e1 11 (by omega) c8];exact ⟨rfl,by decide,by decide⟩
 rw [if_neg c8];by_cases c9:(r:Int)<32\/(r:Int)=127
 ·rw [if_pos c9,e1 r (by omega) rfl,Int.toNat_natCast];refine ⟨?_,by show (92:Int)≠34;omega,Nat.succ_pos _⟩;show ([J2 [Lib.hexDigit (r / 16),Lib.hexDigit (r%16)]],4)=_;simp only [J2,List.foldl_cons,List.foldl_nil,M4 _ (show r / 16<16 by omega),M4 _ (show r%16<16 by omega)];refine Prod.ext ?_ rfl;show [16*(16*0+((r / 16:Nat):Int))+((r%16:Nat):Int)]=[(r:Int)];exact congrArg (fun x:Int=>[x]) (by omega)
 rw [if_neg c9,if_neg (by rw [hvr];decide)];by_cases c10:(r:Int)<65536
 ·rw [if_pos c10,Int.toNat_natCast];refine ⟨?_,by show (92:Int)≠34;omega,Nat.succ_pos _⟩;have e:T5 (92::117::hexDigits r 4++rest)=(encodeRuneZ (J2 (hexDigits r 4)),6):=rfl;rw [e,b15 r (by omega)];rfl
 rw [if_neg c10,Int.toNat_natCast];refine ⟨?_,by show (92:Int)≠34;omega,Nat.succ_pos _⟩;have e:T5 (92::85::hexDigits r 8++rest)=(encodeRuneZ (J2 (hexDigits r 8)),10):=rfl;rw [e,b16 r (by omega)];rfl
theorem a38 (T:PrintTabs) (s:ByteArray) (h0:0<s.size) (rest:List Int):∃l,bI s.data.toList=l++bI (s.extract (Utf8.decode s 0).2 s.size).data.toList/\T5 (quoteStep T s++rest)=(l,(quoteStep T s).length)/\(quoteStep T s).getD 0 0≠34/\0<(quoteStep T s).length:=by
 by_cases hg:(Utf8.decode s 0).2=1/\(Utf8.decode s 0).1=65533
 ·have e:quoteStep T s=[92,120,Lib.hexDigit ((s.get! 0).toNat / 16),Lib.hexDigit ((s.get! 0).toNat%16)]:=by unfold quoteStep;rw [if_pos hg]
  rw [e,hg.1];have t:=(s.get! 0).toNat_lt;refine ⟨[((s.get! 0).toNat:Int)], ?_, ?_,by show (92:Int)≠34;omega,Nat.succ_pos _⟩
  ·rw [a0G,a7s];have hsz:s.size=s.data.toList.length:=by show s.data.size=_;rw [Array.length_toList]
   rw [hsz] at h0
   generalize s.data.toList=L at h0
   cases L with
   |nil=>simp at h0
   |cons a l=>rfl
  show ([J2 [Lib.hexDigit ((s.get! 0).toNat / 16),Lib.hexDigit ((s.get! 0).toNat%16)]],4)=_;simp only [J2,List.foldl_cons,List.foldl_nil,M4 _ (show (s.get! 0).toNat / 16<16 by omega),M4 _ (show (s.get! 0).toNat%16<16 by omega)];refine Prod.ext ?_ rfl;show [16*(16*0+(((s.get! 0).toNat / 16:Nat):Int))+(((s.get! 0).toNat%16:Nat):Int)]=[((s.get! 0).toNat:Int)];congr 1;omega
 rw [quoteStep_good T s hg];have hv:=rune_valid s;simp only [Lib.validRune,decide_eq_true_eq] at hv;obtain ⟨a,b,c⟩:=b4x T (Utf8.decode s 0).1 (by omega) (by omega) rest;exact ⟨_,b14 s h0 hg,a,b,c⟩
theorem a8a (T:PrintTabs):∀(n f g:Nat) (s t:ByteArray) (r q:List Int),s.size<=n->s.size<=f->t.size<=g->quoteFrom T f s++34::r=quoteFrom T g t++34::q->s=t/\r=q:=by
 intro n
 induction n with
 | zero=>
  intro f g s t r q hn hf hg h;have hs:¬0<s.size:=by omega
  rw [quoteFrom_end T f s hs] at h;by_cases ht:0<t.size
  ·rw [quoteFrom_step T g t ht hg,zz12] at h;obtain ⟨l, -, -,h3,h4⟩:=a38 T t ht []
   cases hq:quoteStep T t with
   |nil=>rw [hq] at h4;simp at h4
   |cons a m=>
    rw [hq] at h h3;simp at h h3;exact absurd h.1.symm h3
  ·rw [quoteFrom_end T g t ht] at h;refine ⟨?_,by simpa using h⟩;apply ByteArray.ext;have a:s.data.size=0:=by show s.size=0;omega
   have b:t.data.size=0:=by show t.size=0;omega
   rw [Array.eq_empty_of_size_eq_zero a,Array.eq_empty_of_size_eq_zero b]
 | succ n ih=>
  intro f g s t r q hn hf hg h;by_cases hs:0<s.size
  ·rw [quoteFrom_step T f s hs hf,zz12] at h;by_cases ht:0<t.size
   ·rw [quoteFrom_step T g t ht hg,zz12] at h;obtain ⟨l,a1,a2, -, -⟩:=a38 T s hs (quoteFrom T (f - 1) (s.extract (Utf8.decode s 0).2 s.size)++34::r);obtain ⟨m,b1,b2, -, -⟩:=a38 T t ht (quoteFrom T (g - 1) (t.extract (Utf8.decode t 0).2 t.size)++34::q);rw [<-h,a2] at b2;have e1:l=m:=congrArg Prod.fst b2;have e2:(quoteStep T s).length=(quoteStep T t).length:=congrArg Prod.snd b2;obtain ⟨-,h5⟩:=List.append_inj h e2;have w1:=width_pos s 0;have w2:=width_pos t 0;have w3:=width_le s hs;have w4:=width_le t ht;obtain ⟨i1,i2⟩:=ih (f - 1) (g - 1) _ _ r q (by rw [size_rest];omega) (by rw [size_rest];omega) (by rw [size_rest];omega) h5;refine ⟨?_,i2⟩;rw [i1,e1,<-b1] at a1;have:=a9F a1;apply ByteArray.ext;exact Array.toList_inj.1 this
   rw [quoteFrom_end T g t ht] at h;obtain ⟨l, -, -,h3,h4⟩:=a38 T s hs []
   cases hq:quoteStep T s with
   |nil=>rw [hq] at h4;simp at h4
   |cons a m=>
    rw [hq] at h h3;simp at h h3;exact absurd h.1 h3
  exact ih f g s t r q (by omega) hf hg h
theorem a6h (T:PrintTabs) (s t:ByteArray) (r q:List Int) (h:quoteZ T s++r=quoteZ T t++q):s=t/\r=q:=by
 have h2:34::(quoteFrom T s.size s++34::r)=34::(quoteFrom T t.size t++34::q):=by
  have a:∀(u:ByteArray) (x:List Int),quoteZ T u++x=34::(quoteFrom T u.size u++34::x):=fun u x=>by unfold quoteZ;rw [List.cons_append,zz12,List.singleton_append]
  rw [<-a,<-a];exact h
 exact a8a T s.size s.size t.size s t r q (Nat.le_refl _) (Nat.le_refl _) (Nat.le_refl _) (List.cons.inj h2).2
theorem W1 (x:Nat) (h:x<16):0<=Lib.hexDigit x/\Lib.hexDigit x<256:=by unfold Lib.hexDigit;split<;>omega
theorem a1a (r n:Nat):∀x∈hexDigits r n,0<=x/\x<256:=by
 induction n with
 |zero=>intro x hx;simp [hexDigits] at hx
 |succ n ih=>
  intro x hx;rcases List.mem_cons.1 hx with rfl|hx
  ·exact W1 _ (Nat.mod_lt _ (by decide))
  exact ih x hx
def Byt (l:List Int):Prop:=∀x∈l,0<=x/\x<256
theorem D5 {c:Prop} [Decidable c] {a b:List Int} (h:c->Byt a) (k:¬c->Byt b):Byt (if c then a else b):=by
 by_cases hc:c
 ·rw [if_pos hc];exact h hc
 rw [if_neg hc];exact k hc
theorem A1 {a:Int} {l:List Int} (h:0<=a/\a<256) (k:Byt l):Byt (a::l):=fun x hx=>by
 rcases List.mem_cons.1 hx with rfl|hx
 ·exact h
 exact k x hx
theorem a7t:Byt []:=fun x hx=>by cases hx
theorem a9I (T:PrintTabs) (r:Nat):Byt (escRune T r):=by
 have lit:∀a:Int,0<=a/\a<256->Byt [92,a]:=fun a h=>A1 (by omega) (A1 h a7t);unfold escRune;refine D5 (fun c=>lit _ (by omega)) fun _=> ?_;refine D5 (fun c=>encodeRuneZ_byte r) fun _=> ?_;refine D5 (fun c=>lit _ (by omega)) fun _=> ?_;refine D5 (fun c=>lit _ (by omega)) fun _=> ?_;refine D5 (fun c=>lit _ (by omega)) fun _=> ?_;refine D5 (fun c=>lit _ (by omega)) fun _=> ?_;refine D5 (fun c=>lit _ (by omega)) fun _=> ?_;refine D5 (fun c=>lit _ (by omega)) fun _=> ?_;refine D5 (fun c=>lit _ (by omega)) fun _=> ?_;refine D5 (fun c=>A1 (by omega) (A1 (by omega) (A1 (W1 _ (by omega)) (A1 (W1 _ (by omega)) a7t)))) fun _=> ?_;refine D5 (fun c=>A1 (by omega) (A1 (by omega) (a1a _ _))) fun _=> ?_;exact D5 (fun c=>A1 (by omega) (A1 (by omega) (a1a _ _))) fun _=>A1 (by omega) (A1 (by omega) (a1a _ _))
theorem a6i (T:PrintTabs):∀(f:Nat) (s:ByteArray),∀x∈quoteFrom T f s,0<=x/\x<256:=by
 intro f
 induction f with
 |zero=>intro s x hx;simp [quoteFrom] at hx
 | succ f ih=>
  intro s x hx;unfold quoteFrom at hx;split at hx
  ·rcases zz14 hx with hx|hx
   ·unfold quoteStep at hx;split at hx
    ·have t:=(s.get! 0).toNat_lt;have a:=W1 ((s.get! 0).toNat / 16) (by omega);have b:=W1 ((s.get! 0).toNat%16) (by omega);simp only [List.mem_cons,List.not_mem_nil,or_false] at hx;rcases hx with rfl|rfl|rfl|rfl
     ·omega
     ·omega
     ·exact a
     exact b
    exact a9I T _ x hx
   exact ih _ x hx
  simp at hx
theorem a4V (T:PrintTabs) (s:ByteArray):∀x∈quoteZ T s,0<=x/\x<256:=by
 intro x hx;unfold quoteZ at hx;rcases List.mem_cons.1 hx with rfl|hx
 ·omega
 rcases zz14 hx with hx|hx
 ·exact a6i T _ s x hx
 rw [List.mem_singleton.1 hx];omega
def a2q (T:PrintTabs) (s:ByteArray):List UInt8:=(quoteZ T s).map fun n=>UInt8.ofNat n.toNat
theorem a7u (T:PrintTabs) (s:ByteArray):bI (a2q T s)=quoteZ T s:=by
 unfold a2q bI;rw [List.map_map]
 conv=>rhs;rw [<-List.map_id (quoteZ T s)]
 refine List.map_congr_left fun x hx=> ?_;have:=a4V T s x hx;show (((UInt8.ofNat x.toNat).toNat:Nat):Int)=x;have e:(UInt8.ofNat x.toNat).toNat=x.toNat%256:=rfl;rw [e];omega
theorem a9J (T:PrintTabs) (s t:ByteArray) (r q:List UInt8) (h:a2q T s++r=a2q T t++q):s=t/\r=q:=by
 have h2:=congrArg bI h;rw [a3v,a3v,a7u,a7u] at h2;obtain ⟨a,b⟩:=a6h T s t _ _ h2;exact ⟨a,a9F b⟩
theorem a3w (T:PrintTabs) (s:ByteArray):∃r,a2q T s=34::r:=⟨_,rfl⟩
theorem a9K (T:PrintTabs) (s:ByteArray):(a2q T s).length<=10*s.size+2:=by
 unfold a2q;rw [zz10];exact quoteZ_length_le T s
end
section
def V.prt (v:V):List UInt8:=
 if v.kind=0 then Lib.itoa v.int else if v.kind=1 then N1 (l7 v.num) else if v.kind=2 then a2q Lib.goPrintTabs v.text else if v.yes then [121,101,115] else [110,111]
def B4 (op:Int):List UInt8:=
 if op=0 then [61] else if op=1 then [33,61] else if op=2 then [60] else if op=3 then [60,61] else if op=4 then [62] else if op=5 then [62,61] else if op=6 then [94] else if op=7 then [104,97,115] else []
def Cnd.prt (c:Cnd):List UInt8:=if c.op=7 then [104,97,115,32]++c.name.data.toList else c.name.data.toList++[32]++B4 c.op++[32]++c.v.prt
def F0:List Cnd->List UInt8
 |[]=>[]
 |c::l=>[32,38,32]++c.prt++F0 l
def V0:List Cnd->List UInt8
 |[]=>[]
 |c::l=>[32]++c.prt++F0 l
def o4 (sc:ByteArray) (l:List Cnd):List UInt8:=sc.data.toList++[58]++V0 l
def Cnd.norm (c:Cnd):Cnd:=if c.op=7 then ⟨c.name,7,V.zero⟩ else ⟨c.name,c.op,c.v.canon⟩
structure Cnd.fine (c:Cnd):Prop where
 name:o6 c.name=true
 op:0<=c.op/\c.op<=7
 v:c.v.right=true
 num:c.v.num<2^64
 is:c.norm=c
theorem a2r {x:Nat} (hx:x<2^64):b3P (l7 x):=by
 by_cases hn:a0a x
 ·rw [a5X hx hn];unfold a0a m8 at hn;unfold m8;split
  ·exact ⟨by omega,fun h=>by omega,fun _=>rfl⟩
  exact ⟨hx,fun h1 h2=>by omega,fun h=>by omega⟩
 have hf:fEq x x=false:=by rw [Bool.eq_false_iff];exact fun h=>hn (a7k.1 h)
 unfold l7;rw [hf,if_neg (by decide)];exact ⟨by decide,fun _ _=>rfl,fun h=>absurd h (by decide)⟩
def a39 (r:List UInt8):Prop:=r=[]\/∃q,r=32::q
theorem J3 (r:List UInt8):a39 (32::r):= .inr ⟨r,rfl⟩
theorem W2 {a b r q:List UInt8} (ha:∀c∈a,c≠32) (hb:∀c∈b,c≠32) (hr:a39 r) (hq:a39 q) (h:a++r=b++q):a=b/\r=q:=by
 have key:∀{l x:List UInt8},(∀c∈l,c≠32)->a39 x->(l++x).takeWhile (· !=32)=l/\(l++x).dropWhile (· !=32)=x:=by
  intro l x hl hx;have hl':∀c∈l,(c !=32)=true:=fun c hc=>by rw [bne_iff_ne];exact hl c hc
  rw [List.takeWhile_append_of_pos hl',List.dropWhile_append_of_pos hl'];rcases hx with rfl|⟨y,rfl⟩
  ·exact ⟨zz11 _,rfl⟩
  exact ⟨zz11 _,rfl⟩
 have k1:=key ha hr;have k2:=key hb hq;rw [h] at k1;exact ⟨k1.1.symm.trans k2.1,k1.2.symm.trans k2.2⟩
theorem a2s {s:ByteArray} (h:o6 s=true):(∀c∈s.data.toList,(97<=c.toNat/\c.toNat<=122)\/(48<=c.toNat/\c.toNat<=57))/\∃c r,s.data.toList=c::r/\97<=c.toNat/\c.toNat<=122:=by
 unfold o6 at h;rw [Bool.and_eq_true,Bool.and_eq_true,List.all_eq_true] at h;obtain ⟨h1,h2, -⟩:=h;have at_:∀(i:Nat) (c:UInt8),s.data.toList[i]? =some c->C4 i c=true:=fun i c hc=>h1 (c,i) (List.mk_mem_zipIdx_iff_getElem?.2 hc);constructor
 ·intro c hc;obtain ⟨i,hi⟩:=List.getElem?_of_mem hc;have:=at_ i c hi;unfold C4 at this;simp only [Bool.or_eq_true,Bool.and_eq_true,decide_eq_true_eq] at this;omega
 ·cases hl:s.data.toList with
  |nil=>
   have hz:s.size=0:=by show s.data.size=0;rw [<-Array.length_toList,hl];rfl
   rw [hz] at h2;simp at h2
  |cons c r=>
   have:=at_ 0 c (by rw [hl];rfl);unfold C4 at this;simp only [Bool.or_eq_true,Bool.and_eq_true,decide_eq_true_eq,Nat.lt_irrefl,false_and,or_false] at this;exact ⟨c,r,rfl,this⟩
theorem Q9 {s:ByteArray} (h:o6 s=true):∀c∈s.data.toList,c≠32:=by
 intro c hc e;subst e;have:=(a2s h).1 32 hc;revert this;decide
theorem a4a {s t:ByteArray} (h:s.data.toList=t.data.toList):s=t:=ByteArray.ext (Array.toList_inj.1 h)
theorem a2t (n:Int):(∀c∈Lib.itoa n,m5 c\/c=45)/\∃c r,Lib.itoa n=c::r:=by
 unfold Lib.itoa;split
 ·refine ⟨fun c hc=> ?_,_,_,rfl⟩;rcases List.mem_cons.1 hc with rfl|hc
  ·exact .inr rfl
  exact .inl ((W0 _).2.1 c hc)
 refine ⟨fun c hc=> .inl ((W0 _).2.1 c hc), ?_⟩
 cases hd:Lib.decDigits n.toNat with
 |nil=>exact absurd hd (W0 _).2.2.2
 |cons c r=>exact ⟨c,r,rfl⟩
theorem a7v {a b:Nat} (h:Lib.decDigits a=Lib.decDigits b):a=b:=by
 rw [<-(W0 a).1,<-(W0 b).1,h]
theorem a9L {a b:Int} (h:Lib.itoa a=Lib.itoa b):a=b:=by
 have hd:∀(u:Nat) (r:List UInt8),Lib.decDigits u≠45::r:=fun u r e=>by
  have:=(W0 u).2.1 45 (by rw [e];exact List.mem_cons_self);unfold m5 at this;revert this;decide
 unfold Lib.itoa at h;split at h<;>split at h
 ·have:=a7v (List.cons.inj h).2;omega
 ·exact absurd h.symm (hd _ _)
 ·exact absurd h (hd _ _)
 have:=a7v h;omega
theorem a0H {v:V} (hk:v.kind≠2):(∀c∈v.prt,c≠32)/\∃c r,v.prt=c::r/\c≠34:=by
 unfold V.prt;by_cases h0:v.kind=0
 ·rw [if_pos h0];obtain ⟨h1,c,r,h2⟩:=a2t v.int;refine ⟨fun c hc e=> ?_,c,r,h2,fun e=> ?_⟩
  ·subst e;rcases h1 32 hc with h|h
   ·unfold m5 at h;revert h;decide
   revert h;decide
  subst e;rcases h1 34 (by rw [h2];exact List.mem_cons_self) with h|h
  ·unfold m5 at h;revert h;decide
  revert h;decide
 rw [if_neg h0];by_cases h1:v.kind=1
 ·rw [if_pos h1];obtain ⟨⟨c,r,h2⟩,h3, -, -⟩:=a0F (l7 v.num);refine ⟨fun c hc e=> ?_,c,r,h2,fun e=> ?_⟩
  ·subst e;have:=h3 32 hc;unfold q8 at this;revert this;decide
  subst e;have:=h3 34 (by rw [h2];exact List.mem_cons_self);unfold q8 at this;revert this;decide
 rw [if_neg h1,if_neg hk];split
 ·exact ⟨by decide,_,_,rfl,by decide⟩
 exact ⟨by decide,_,_,rfl,by decide⟩
theorem a9M {u v:V} {r q:List UInt8} (hu:u.right=true) (hv:v.right=true) (nu:u.num<2^64) (nv:v.num<2^64) (cu:u.canon=u) (cv:v.canon=v) (hr:a39 r) (hq:a39 q) (h:u.prt++r=v.prt++q):u=v/\r=q:=by
 have kr:∀{x:V},x.right=true->x.kind=0\/x.kind=1\/x.kind=2\/x.kind=3:=by
  intro x hx;unfold V.right at hx;simp only [Bool.and_eq_true,decide_eq_true_eq] at hx;omega
 have q2:∀{x:V},x.kind=2->x.prt=a2q Lib.goPrintTabs x.text:=fun h=>by unfold V.prt;rw [if_neg (by omega),if_neg (by omega),if_pos h]
 have p0:∀{x:V},x.kind=0->x.prt=Lib.itoa x.int:=fun h=>by unfold V.prt;rw [if_pos h]
 have p1:∀{x:V},x.kind=1->x.prt=N1 (l7 x.num):=fun h=>by unfold V.prt;rw [if_neg (by omega),if_pos h]
 have p3:∀{x:V},x.kind=3->x.prt=if x.yes then [121,101,115] else [110,111]:=fun h=>by unfold V.prt;rw [if_neg (by omega),if_neg (by omega),if_neg (by omega)]
 have c0:∀{x:V},x.canon=x->x.kind=0->x={V.zero with kind:=0,int:=x.int}:=fun h e=>by
  conv=>lhs;rw [<-h]
  unfold V.canon;rw [if_pos e]
 have c1:∀{x:V},x.canon=x->x.kind=1->x={V.zero with kind:=1,num:=l7 x.num}:=fun h e=>by
  conv=>lhs;rw [<-h]
  unfold V.canon;rw [if_neg (by omega),if_pos e]
 have c2:∀{x:V},x.canon=x->x.kind=2->x={V.zero with kind:=2,text:=x.text}:=fun h e=>by
  conv=>lhs;rw [<-h]
  unfold V.canon;rw [if_neg (by omega),if_neg (by omega),if_pos e]
 have c3:∀{x:V},x.canon=x->x.kind=3->x={V.zero with kind:=3,yes:=x.yes}:=fun h e=>by
  conv=>lhs;rw [<-h]
  unfold V.canon;rw [if_neg (by omega),if_neg (by omega),if_neg (by omega),if_pos e]
 by_cases hk:u.kind=2<;>by_cases hl:v.kind=2
 ·rw [q2 hk,q2 hl] at h;obtain ⟨h1,h2⟩:=a9J _ _ _ _ _ h;refine ⟨?_,h2⟩;rw [c2 cu hk,c2 cv hl,h1]
 ·exfalso;obtain ⟨-,c,x,h1,h2⟩:=a0H hl;rw [q2 hk,h1] at h;obtain ⟨y,hy⟩:=a3w Lib.goPrintTabs u.text;rw [hy] at h;exact h2 (List.cons.inj h).1.symm
 ·exfalso;obtain ⟨-,c,x,h1,h2⟩:=a0H hk;rw [q2 hl,h1] at h;obtain ⟨y,hy⟩:=a3w Lib.goPrintTabs v.text;rw [hy] at h;exact h2 (List.cons.inj h).1
 obtain ⟨he,hrq⟩:=W2 (a0H hk).1 (a0H hl).1 hr hq h;refine ⟨?_,hrq⟩;clear h
 have i1:∀{x y:V},x.kind=0->y.kind=1->x.prt≠y.prt:=by
  intro x y hx hy e;rw [p0 hx,p1 hy] at e;have hs:=(a0F (l7 y.num)).2.2.2;rw [<-e] at hs;unfold M0 at hs;rw [List.any_eq_true] at hs;obtain ⟨c,hc,hcs⟩:=hs;simp only [Bool.or_eq_true,beq_iff_eq] at hcs;rcases (a2t x.int).1 c hc with hd|hd
  ·unfold m5 at hd;rcases hcs with ((rfl|rfl)|rfl)|rfl<;>revert hd<;>decide
  subst hd;revert hcs;decide
 have i3:∀{x y:V},x.kind=0->y.kind=3->x.prt≠y.prt:=by
  intro x y hx hy e;rw [p0 hx,p3 hy] at e;have:∀c,c∈(if y.yes=true then ([121,101,115]:List UInt8) else [110,111])->m5 c\/c=45:=fun c hc=>(a2t x.int).1 c (by rw [e];exact hc);cases hy:y.yes
  ·rw [hy] at this;have:=this 110 (by decide);unfold m5 at this;revert this;decide
  rw [hy] at this;have:=this 121 (by decide);unfold m5 at this;revert this;decide
 have n3:∀{x y:V},x.kind=1->y.kind=3->x.prt≠y.prt:=by
  intro x y hx hy e;rw [p1 hx,p3 hy] at e;obtain ⟨-,h1,h2, -⟩:=a0F (l7 x.num);rw [e] at h1 h2;cases hy:y.yes
  ·rw [hy] at h2;exact h2 _ rfl
  rw [hy] at h1;have:=h1 121 (by decide);unfold q8 at this;revert this;decide
 rcases kr hu with a|a|a|a<;>rcases kr hv with b|b|b|b
 ·rw [c0 cu a,c0 cv b];rw [p0 a,p0 b] at he;rw [a9L he]
 ·exact absurd he (i1 a b)
 ·exact absurd b hl
 ·exact absurd he (i3 a b)
 ·exact absurd he.symm (i1 b a)
 ·rw [c1 cu a,c1 cv b];rw [p1 a,p1 b] at he;rw [a9E (a2r nu) (a2r nv) he]
 ·exact absurd b hl
 ·exact absurd he (n3 a b)
 ·exact absurd a hk
 ·exact absurd a hk
 ·exact absurd a hk
 ·exact absurd a hk
 ·exact absurd he.symm (i3 b a)
 ·exact absurd he.symm (n3 b a)
 ·exact absurd b hl
 rw [c3 cu a,c3 cv b];rw [p3 a,p3 b] at he
 have:u.yes=v.yes:=by
  cases hx:u.yes<;>cases hy:v.yes<;>rw [hx,hy] at he<;>first|rfl|(exfalso;revert he;decide)
 rw [this]
theorem a9N {o:Int} (h:0<=o/\o<=7) (h7:o≠7):o=0\/o=1\/o=2\/o=3\/o=4\/o=5\/o=6:=by omega
theorem b17 {o p:Int} (h:0<=o/\o<=7) (k:0<=p/\p<=7) (e:B4 o=B4 p):o=p:=by
 have a:∀x:Int,0<=x/\x<=7->x=0\/x=1\/x=2\/x=3\/x=4\/x=5\/x=6\/x=7:=fun x hx=>by omega
 rcases a o h with rfl|rfl|rfl|rfl|rfl|rfl|rfl|rfl<;>rcases a p k with rfl|rfl|rfl|rfl|rfl|rfl|rfl|rfl<;>first|rfl|(exfalso;revert e;decide)
theorem a3x {o:Int} (h:0<=o/\o<=7):∀c∈B4 o,c≠32:=by
 have a:o=0\/o=1\/o=2\/o=3\/o=4\/o=5\/o=6\/o=7:=by omega
 rcases a with rfl|rfl|rfl|rfl|rfl|rfl|rfl|rfl<;>decide
theorem a8b {o:Int} (h:0<=o/\o<=7) (h7:o≠7):∃c r,B4 o=c::r/\(c.toNat<97/\(c.toNat<48\/57<c.toNat)):=by
 rcases a9N h h7 with rfl|rfl|rfl|rfl|rfl|rfl|rfl
 all_goals exact ⟨_,_,rfl,by decide⟩
theorem a7w {c d:Cnd} {r q:List UInt8} (hc:c.fine) (hd:d.fine) (hr:a39 r) (hq:a39 q) (h:c.prt++r=d.prt++q):c=d/\r=q:=by
 have eh:∀{x:Cnd},x.fine->x.op=7->x=⟨x.name,7,V.zero⟩:=fun hx e=>by
  conv=>lhs;rw [<-hx.is]
  unfold Cnd.norm;rw [if_pos e]
 have en:∀{x:Cnd},x.fine->x.op≠7->x=⟨x.name,x.op,x.v.canon⟩:=fun hx e=>by
  conv=>lhs;rw [<-hx.is]
  unfold Cnd.norm;rw [if_neg e]
 have mix:∀{x y:Cnd} {a b:List UInt8},x.fine->y.fine->x.op=7->y.op≠7->x.prt++a≠y.prt++b:=by
  intro x y a b hx hy e f g;unfold Cnd.prt at g;rw [if_pos e,if_neg f] at g
  have g2:[104,97,115]++(32::(x.name.data.toList++a))=y.name.data.toList++(32::(B4 y.op++(32::(y.v.prt++b)))):=by
   simpa [List.append_assoc] using g
  obtain ⟨-,h2⟩:=W2 (by decide) (Q9 hy.name) (J3 _) (J3 _) g2;have h3:=(List.cons.inj h2).2;obtain ⟨c1,r1,h4,h5⟩:=(a2s hx.name).2;obtain ⟨c2,r2,h6,h7⟩:=a8b hy.op f;rw [h4,h6] at h3;have:=(List.cons.inj h3).1;subst this;omega
 by_cases e:c.op=7<;>by_cases f:d.op=7
 ·unfold Cnd.prt at h;rw [if_pos e,if_pos f,zz12,zz12] at h;obtain ⟨h1,h2⟩:=W2 (Q9 hc.name) (Q9 hd.name) hr hq (List.append_cancel_left h);exact ⟨by rw [eh hc e,eh hd f,a4a h1],h2⟩
 ·exact absurd h (mix hc hd e f)
 ·exact absurd h.symm (mix hd hc f e)
 unfold Cnd.prt at h;rw [if_neg e,if_neg f] at h
 have g2:c.name.data.toList++(32::(B4 c.op++(32::(c.v.prt++r))))=d.name.data.toList++(32::(B4 d.op++(32::(d.v.prt++q)))):=by
  simpa [List.append_assoc] using h
 obtain ⟨h1,h2⟩:=W2 (Q9 hc.name) (Q9 hd.name) (J3 _) (J3 _) g2;obtain ⟨h3,h4⟩:=W2 (a3x hc.op) (a3x hd.op) (J3 _) (J3 _) (List.cons.inj h2).2
 have cc:c.v.canon=c.v:=by
  have:=en hc e;have:=congrArg Cnd.v this;exact this.symm
 have cd:d.v.canon=d.v:=by
  have:=en hd f;have:=congrArg Cnd.v this;exact this.symm
 obtain ⟨h5,h6⟩:=a9M hc.v hd.v hc.num hd.num cc cd hr hq (List.cons.inj h4).2;refine ⟨?_,h6⟩;have h7:=b17 hc.op hd.op h3;have h8:=a4a h1;clear h h1 h2 h3 h4 g2 cc cd eh en mix e f hc hd;cases c;cases d
 simp only at h5 h7 h8;rw [h5,h7,h8]
theorem Y3 (l:List Cnd):a39 (F0 l):=by
 cases l with
 |nil=>exact .inl rfl
 |cons c l=>exact .inr ⟨_,rfl⟩
theorem a9O:∀{l m:List Cnd},(∀c∈l,c.fine)->(∀c∈m,c.fine)->F0 l=F0 m->l=m:=by
 intro l
 induction l with
 |nil=>
  intro m _ _ h
  cases m with
  |nil=>rfl
  |cons d m=>simp [F0] at h
 | cons c l ih=>
  intro m hl hm h
  cases m with
  |nil=>simp [F0] at h
  |cons d m=>
   unfold F0 at h;rw [zz12,zz12] at h;obtain ⟨h1,h2⟩:=a7w (hl c List.mem_cons_self) (hm d List.mem_cons_self) (Y3 l) (Y3 m) (List.append_cancel_left h);rw [h1,ih (fun x hx=>hl x (List.mem_cons_of_mem _ hx)) (fun x hx=>hm x (List.mem_cons_of_mem _ hx)) h2]
theorem b18 {s t:ByteArray} {l m:List Cnd} (hs:∀c∈s.data.toList,c≠58) (ht:∀c∈t.data.toList,c≠58) (hl:∀c∈l,c.fine) (hm:∀c∈m,c.fine) (h:o4 s l=o4 t m):s=t/\l=m:=by
 have rest:∀(u:ByteArray) (k:List Cnd),o4 u k=u.data.toList++58::V0 k:=fun u k=>by unfold o4;simp
 rw [rest,rest] at h
 have key:∀{x y:List UInt8},(∀c∈x,c≠58)->(x++58::y).takeWhile (· !=58)=x/\(x++58::y).dropWhile (· !=58)=58::y:=by
  intro x y hx;have hx':∀c∈x,(c !=58)=true:=fun c hc=>by rw [bne_iff_ne];exact hx c hc
  rw [List.takeWhile_append_of_pos hx',List.dropWhile_append_of_pos hx'];exact ⟨zz11 _,rfl⟩
 have k1:=key (y:=V0 l) hs;have k2:=key (y:=V0 m) ht;rw [h] at k1;refine ⟨a4a (k1.1.symm.trans k2.1), ?_⟩;have hab:V0 l=V0 m:=(List.cons.inj (k1.2.symm.trans k2.2)).2
 cases l with
 |nil=>
  cases m with
  |nil=>rfl
  |cons d m=>simp [V0] at hab
 | cons c l=>
  cases m with
  |nil=>simp [V0] at hab
  |cons d m=>
   have hab:[32]++c.prt++F0 l=[32]++d.prt++F0 m:=hab;rw [zz12,zz12] at hab;obtain ⟨h1,h2⟩:=a7w (hl c List.mem_cons_self) (hm d List.mem_cons_self) (Y3 l) (Y3 m) (List.append_cancel_left hab);rw [h1,a9O (fun x hx=>hl x (List.mem_cons_of_mem _ hx)) (fun x hx=>hm x (List.mem_cons_of_mem _ hx)) h2]
end
end Go.Proofs.YtaenebdppkjhoaaGreatDoor
