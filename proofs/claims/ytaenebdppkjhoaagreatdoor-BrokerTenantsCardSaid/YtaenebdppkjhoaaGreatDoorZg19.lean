/- Lemmas. -/
import Derived.Test.YtaenebdppkjhoaaGreatDoorZg18
import Derived.Lib.QuoteLoop
import Derived.Test.YtaenebdppkjhoaaGreatDoorZg10
import Derived.Lib.PrintData
namespace Go.Proofs.YtaenebdppkjhoaaGreatDoor
set_option maxRecDepth 20000
set_option maxHeartbeats 40000000
section
def N3 (l:List UInt8):Bool:=l.any fun c=>c==46||c==101||c==73||c==78
def O2 (b:Nat):List UInt8:=if N3 (A2 b) then A2 b else A2 b++[46,48]
def t6 (c:UInt8):Prop:=43<=c.toNat/\c.toNat<=110
theorem a2y {c:UInt8} (h:m9 c):t6 c:=⟨by have:=h.1;omega,by have:=h.2;omega⟩
theorem a5p (e:Nat) (h:e<=999):∀c∈E8 e,m9 c:=by
 intro c hc
 have hd:∀k,k<10->m9 (UInt8.ofNat (48+k)):=fun k hk=>by
  have e:(UInt8.ofNat (48+k)).toNat=(48+k)%256:=rfl;unfold m9;rw [e];omega
 unfold E8 at hc;split at hc
 ·simp only [List.mem_cons,List.not_mem_nil,or_false] at hc;rcases hc with rfl|rfl
  ·exact hd _ (by omega)
  exact hd _ (by omega)
 simp only [List.mem_cons,List.not_mem_nil,or_false] at hc;rcases hc with rfl|rfl|rfl
 ·exact hd _ (by omega)
 ·exact hd _ (by omega)
 exact hd _ (by omega)
theorem b0q {ds:List UInt8} {dp:Int} (h:Q6 ds) (hr: -400<=dp/\dp<=400):∀c∈F7 ds dp,t6 c:=by
 have one:∀k:UInt8,t6 k->∀c∈[k],t6 c:=fun k hk c hc=>by rw [List.mem_singleton.1 hc];exact hk
 have app:∀{a b:List UInt8},(∀c∈a,t6 c)->(∀c∈b,t6 c)->∀c∈a++b,t6 c:=fun ha hb c hc=>(zz14 hc).elim (ha c) (hb c);have dd:∀c∈ds,t6 c:=fun c hc=>a2y (h.dig c hc);have t48:t6 48:=by unfold t6;decide
 have t46:t6 46:=by unfold t6;decide
 have t101:t6 101:=by unfold t6;decide
 have t45:t6 45:=by unfold t6;decide
 have t43:t6 43:=by unfold t6;decide
 have zz:∀n,∀c∈j4 n,t6 c:=fun n c hc=>a2y (a0b n c hc);have cons:∀{k:UInt8} {l:List UInt8},t6 k->(∀c∈l,t6 c)->∀c∈k::l,t6 c:=fun hk hl=>app (one _ hk) hl;unfold F7 P7;simp only [y9,Bool.false_eq_true,if_false,List.nil_append];split
 ·exact one _ t48
 split
 ·refine app (app (app (fun c hc=>dd c (List.mem_of_mem_take hc)) ?_) (one _ t101)) ?_
  ·unfold B0;split
   ·intro c hc;cases hc
   exact cons t46 (fun c hc=>dd c (List.mem_of_mem_drop hc))
  unfold O1;split
  ·exact cons t45 fun c hc=>a2y (a5p _ (by omega) c hc)
  exact cons t43 fun c hc=>a2y (a5p _ (by omega) c hc)
 split
 ·exact app (app (cons t48 (one _ t46)) (zz _)) dd
 split
 ·exact app (app (fun c hc=>dd c (List.mem_of_mem_take hc)) (one _ t46)) (fun c hc=>dd c (List.mem_of_mem_drop hc))
 exact app dd (zz _)
def b0r (t:List UInt8):List UInt8×Int:=if (a3B t).1=[] then ([],0) else a3B t
theorem a6J {l:List UInt8} (h:N3 l=false):∀c∈l,c≠46/\c≠101/\c≠73/\c≠78:=by
 intro c hc;have:=List.any_eq_false.1 h c hc;simp only [Bool.or_eq_true,beq_iff_eq,not_or] at this;exact ⟨this.1.1.1,this.1.1.2,this.1.2,this.2⟩
theorem a8S {ds:List UInt8} {dp:Int} (h:Q6 ds) (hd:ds=[]->dp=0) (hr: -400<=dp/\dp<=400):b0r (F7 ds dp)=(ds,dp):=by
 unfold b0r;rw [a1y h hd hr];split
 ·rename_i e
  simp only at e;rw [e,hd e]
 rfl
theorem a6K {ds:List UInt8} {dp:Int} (hne:ds≠[]) (hs:N3 (F7 ds dp)=false):0<dp/\(ds.length:Int)<=dp/\F7 ds dp=ds++j4 (dp.toNat - ds.length):=by
 have hsp:=a6J hs;unfold F7 P7 at hsp⊢;rw [if_neg hne] at hsp⊢;simp only [y9,Bool.false_eq_true,if_false,List.nil_append] at hsp⊢;by_cases h1:dp - 1< -4\/6<=dp - 1
 ·rw [if_pos h1] at hsp;exact absurd rfl (hsp 101 (by simp)).2.1
 rw [if_neg h1] at hsp⊢;by_cases h2:dp<=0
 ·rw [if_pos h2] at hsp;exact absurd rfl (hsp 46 (by simp)).1
 rw [if_neg h2] at hsp⊢;by_cases h3:dp<ds.length
 ·rw [if_pos h3] at hsp;exact absurd rfl (hsp 46 (by simp)).1
 rw [if_neg h3];exact ⟨by omega,by omega,rfl⟩
theorem a6L {ds:List UInt8} {dp:Int} (h:Q6 ds) (hd:ds=[]->dp=0) (hs:N3 (F7 ds dp)=false):b0r (F7 ds dp++[46,48])=(ds,dp):=by
 by_cases hne:ds=[]
 ·subst hne;rw [hd rfl];decide
 obtain ⟨h1,h2,h3⟩:=a6K hne hs;have e101:(101:UInt8)=101\/(101:UInt8)=46\/(101:UInt8)=45:= .inl rfl;have e46:(46:UInt8)=101\/(46:UInt8)=46\/(46:UInt8)=45:= .inr (.inl rfl)
 have hdz:∀c∈ds++j4 (dp.toNat - ds.length),m9 c:=fun c hc=>by
  rcases zz14 hc with hc|hc
  ·exact h.dig c hc
  exact a0b _ c hc
 have key:a3B (F7 ds dp++[46,48])=(ds,dp):=by
  rw [h3];unfold a3B;simp only;rw [R8 101 e101 hdz,R9 101 e101 hdz];have t1:([46,48]:List UInt8).takeWhile (· !=101)=[46,48]:=rfl;have t2:([46,48]:List UInt8).dropWhile (· !=101)=[]:=rfl;rw [t1,t2,R8 46 e46 hdz,R9 46 e46 hdz];have t3:([46,48]:List UInt8).takeWhile (· !=46)=[]:=rfl;have t4:(([46,48]:List UInt8).dropWhile (· !=46)).drop 1=[48]:=rfl;rw [t3,t4]
  have a1:ds++j4 (dp.toNat - ds.length)++[]++[48]=ds++j4 (dp.toNat - ds.length+1):=by
   unfold j4;rw [zz11,zz12,List.replicate_succ']
  rw [a1];have sc:=L6 h hne 0 (dp.toNat - ds.length+1);simp only [show j4 0=[] from rfl,List.nil_append] at sc;rw [sc.1,sc.2];simp only [List.drop_nil,zz11,a6E,zz4,j4,List.length_replicate];congr 1;omega
 unfold b0r;rw [key,if_neg hne]
theorem a8T {c:UInt8} {l:List UInt8} (h:N3 (c::l)=false):N3 l=false:=by
 unfold N3 at h⊢;rw [List.any_cons,Bool.or_eq_false_iff] at h;exact h.2
theorem H8 {b:Nat} {ds:List UInt8} {dp:Int} (hc:Q6 ds) (h0:ds=[]->dp=0) (hr: -400<=dp/\dp<=400) (h:A2 b=P7 (decide (b / 2^63≠0)) ds dp):
 ∃t,O2 b=y9 (decide (b / 2^63≠0))++t/\b0r t=(ds,dp)/\(∃c r,t=c::r/\m9 c)/\(∀c∈t,t6 c):=by
 obtain ⟨c,r,hb,hdg⟩:=a0c (dp:=dp) hc;have hbt:=b0q (dp:=dp) hc hr;unfold O2;rw [h,a2x];split
 ·exact ⟨_,rfl,a8S hc h0 hr,⟨c,r,hb,hdg⟩,hbt⟩
 rename_i hs
 have hs2:N3 (F7 ds dp)=false:=by
  have hs:N3 (y9 (decide (b / 2^63≠0))++F7 ds dp)=false:=by simpa using hs
  unfold y9 at hs;split at hs
  ·exact a8T hs
  exact hs
 refine ⟨F7 ds dp++[46,48],by rw [zz12],a6L hc h0 hs2,⟨c,r++[46,48],by rw [hb];rfl,hdg⟩,fun c hc=> ?_⟩;rcases zz14 hc with hc|hc
 ·exact hbt c hc
 simp only [List.mem_cons,List.not_mem_nil,or_false] at hc;rcases hc with rfl|rfl<;>(unfold t6;decide)
theorem O3 {b:Nat} (h:A2 b=[78,97,78]):O2 b=[78,97,78]:=by unfold O2;rw [h];rfl
theorem J7 {b:Nat} (h:A2 b=[45,73,110,102]):O2 b=[45,73,110,102]:=by unfold O2;rw [h];rfl
theorem J8 {b:Nat} (h:A2 b=[43,73,110,102]):O2 b=[43,73,110,102]:=by unfold O2;rw [h];rfl
structure b4y (b:Nat):Prop where
 lt:b<2^64
 nan:b%2^63 / 2^52=2047->b%2^52≠0->b=9221120237041090561
 zero:b%2^63=0->b=0
theorem b0s {a b:Nat} (ka:b4y a) (kb:b4y b) (h:O2 a=O2 b):a=b:=by
 have nd1:¬m9 78:=by unfold m9;decide
 have nd2:¬m9 73:=by unfold m9;decide
 have nd3:¬m9 43:=by unfold m9;decide
 have nd4:¬m9 45:=by unfold m9;decide
 have sp:∀{neg:Bool} {t:List UInt8},(∃c r,t=c::r/\m9 c)->y9 neg++t≠[78,97,78]/\y9 neg++t≠[45,73,110,102]/\y9 neg++t≠[43,73,110,102]:=by
  rintro neg t ⟨c,r,rfl,h2⟩;cases neg
  ·refine ⟨fun h=> ?_,fun h=> ?_,fun h=> ?_⟩<;>simp [y9] at h<;>rw [h.1] at h2
   ·exact nd1 h2
   ·exact nd4 h2
   exact nd3 h2
  refine ⟨fun h=> ?_,fun h=> ?_,fun h=> ?_⟩<;>simp [y9] at h;rw [h.1] at h2;exact nd2 h2
 rcases a1z a with ⟨a1,a2,at'⟩|⟨a1,a2,a3,at'⟩|⟨a1,a2,a3,at'⟩|⟨a1,ds,dp,ac,az,a0,ar,av,at'⟩<;>
 rcases a1z b with ⟨b1,b2,bt⟩|⟨b1,b2,b3,bt⟩|⟨b1,b2,b3,bt⟩|⟨b1,es,ep,bc,bz,b0,br,bv,bt⟩
 ·rw [ka.nan a1 a2,kb.nan b1 b2]
 ·rw [O3 at',J7 bt] at h;simp at h
 ·rw [O3 at',J8 bt] at h;simp at h
 ·obtain ⟨t,h1, -,h2, -⟩:=H8 bc b0 br bt;rw [O3 at',h1] at h;exact absurd h.symm (sp h2).1
 ·rw [J7 at',O3 bt] at h;simp at h
 ·have:=ka.lt;have:=kb.lt;omega
 ·rw [J7 at',J8 bt] at h;simp at h
 ·obtain ⟨t,h1, -,h2, -⟩:=H8 bc b0 br bt;rw [J7 at',h1] at h;exact absurd h.symm (sp h2).2.1
 ·rw [J8 at',O3 bt] at h;simp at h
 ·rw [J8 at',J7 bt] at h;simp at h
 ·have:=ka.lt;have:=kb.lt;omega
 ·obtain ⟨t,h1, -,h2, -⟩:=H8 bc b0 br bt;rw [J8 at',h1] at h;exact absurd h.symm (sp h2).2.2
 ·obtain ⟨t,h1, -,h2, -⟩:=H8 ac a0 ar at';rw [O3 bt,h1] at h;exact absurd h (sp h2).1
 ·obtain ⟨t,h1, -,h2, -⟩:=H8 ac a0 ar at';rw [J7 bt,h1] at h;exact absurd h (sp h2).2.1
 ·obtain ⟨t,h1, -,h2, -⟩:=H8 ac a0 ar at';rw [J8 bt,h1] at h;exact absurd h (sp h2).2.2
 obtain ⟨t,h1,h2,⟨c,r,h3,h4⟩, -⟩:=H8 ac a0 ar at';obtain ⟨u,g1,g2,⟨d,q,g3,g4⟩, -⟩:=H8 bc b0 br bt;rw [h1,g1] at h
 have hs:decide (a / 2^63≠0)=decide (b / 2^63≠0)/\t=u:=by
  have ne1:=V0 h4 45 (.inr (.inr rfl));have ne2:=V0 g4 45 (.inr (.inr rfl));rw [bne_iff_ne] at ne1 ne2
  generalize decide (a / 2^63≠0)=n1 at h
  generalize decide (b / 2^63≠0)=n2 at h
  cases n1<;>cases n2<;>simp only [y9,Bool.false_eq_true,if_false,if_true,List.nil_append] at h
  ·exact ⟨rfl,h⟩
  ·rw [h3] at h;simp at h;exact absurd h.1 ne1
  ·rw [g3] at h;simp at h;exact absurd h.1.symm ne2
  simp at h;exact ⟨rfl,h⟩
 rw [hs.2,g2] at h2;have h3:es=ds:=congrArg Prod.fst h2;have h4:ep=dp:=congrArg Prod.snd h2;subst h3 h4;refine b2Q ka.lt kb.lt ka.nan kb.nan ka.zero kb.zero ?_;rw [at',bt,hs.1]
theorem a0Y (b:Nat):(∃c r,O2 b=c::r)/\(∀c∈O2 b,t6 c)/\(∀r,O2 b≠110::r)/\N3 (O2 b)=true:=by
 rcases a1z b with ⟨b1,b2,bt⟩|⟨b1,b2,b3,bt⟩|⟨b1,b2,b3,bt⟩|⟨b1,es,ep,bc,bz,b0,br,bv,bt⟩
 ·rw [O3 bt];refine ⟨⟨_,_,rfl⟩,fun c hc=> ?_,fun r h=>by simp at h,rfl⟩;simp only [List.mem_cons,List.not_mem_nil,or_false] at hc;rcases hc with rfl|rfl|rfl<;>(unfold t6;decide)
 ·rw [J7 bt];refine ⟨⟨_,_,rfl⟩,fun c hc=> ?_,fun r h=>by simp at h,rfl⟩;simp only [List.mem_cons,List.not_mem_nil,or_false] at hc;rcases hc with rfl|rfl|rfl|rfl<;>(unfold t6;decide)
 ·rw [J8 bt];refine ⟨⟨_,_,rfl⟩,fun c hc=> ?_,fun r h=>by simp at h,rfl⟩;simp only [List.mem_cons,List.not_mem_nil,or_false] at hc;rcases hc with rfl|rfl|rfl|rfl<;>(unfold t6;decide)
 obtain ⟨t,h1, -,⟨c,r,h3,h4⟩,h5⟩:=H8 bc b0 br bt
 have hsp:N3 (O2 b)=true:=by
  unfold O2;split
  ·assumption
  unfold N3;rw [List.any_append];simp
 rw [h1] at hsp⊢;rw [h3] at hsp⊢;rw [h3] at h5
 have n110:c≠110:=by
  rintro rfl;have:=h4.2;revert this;decide
 refine ⟨?_, ?_, ?_,hsp⟩
 ·cases decide (b / 2^63≠0)
  ·exact ⟨_,_,rfl⟩
  exact ⟨_,_,rfl⟩
 ·intro x hx;rcases zz14 hx with hx|hx
  ·unfold y9 at hx;split at hx
   ·rw [List.mem_singleton.1 hx];unfold t6;decide
   ·cases hx
  exact h5 x hx
 intro r h
 generalize decide (b / 2^63≠0)=ng at h
 cases ng
 ·simp [y9] at h;exact n110 h.1
 simp [y9] at h
end
section
open Go.Lib
def bI (l:List UInt8):List Int:=l.map fun b=>(b.toNat:Int)
theorem a3V (a b:List UInt8):bI (a++b)=bI a++bI b:=List.map_append
theorem b0t {a b:List UInt8} (h:bI a=bI b):a=b:=by
 induction a generalizing b with
 |nil=>cases b with
  |nil=>rfl
  |cons c l=>simp [bI] at h
 | cons x l ih=>
  cases b with
  |nil=>simp [bI] at h
  |cons y m=>
   simp only [bI,List.map_cons,List.cons.injEq] at h;have h1:x=y:=UInt8.toNat_inj.1 (by omega);rw [h1,ih (b:=m) h.2]
theorem a78 (s:ByteArray) (i:Nat):s.get! i=s.data.toList.getD i 0:=by
 show s.data[i]! =_;rw [List.getD_eq_getElem?_getD,Array.getElem?_toList,getElem!_def];cases s.data[i]? <;>rfl
theorem a0Z (s:ByteArray) (k:Nat):(s.extract k s.size).data.toList=s.data.toList.drop k:=by
 have:(s.extract k s.size).data=s.data.extract k s.size:=by rw [ByteArray.data_extract]
 rw [this,Array.toList_extract,List.extract_eq_take_drop];exact List.take_of_length_le (by rw [List.length_drop,Array.length_toList];exact Nat.le_refl _)
theorem b5z {b0:UInt8} {l:List UInt8} (h:3<(b0::l).length):∃b1 b2 b3 m,l=b1::b2::b3::m:=by
 match l,h with
 |b1::b2::b3::m,_=>exact ⟨b1,b2,b3,m,rfl⟩
 |[_,_],h=>simp at h
 |[_],h=>simp at h
 |[],h=>simp at h
theorem b4z {a b c d:Int} (h:a=c) (i:b=d):[a,b]=[c,d]:=by rw [h,i]
theorem b0u {a b c d e f:Int} (h:a=d) (i:b=e) (j:c=f):[a,b,c]=[d,e,f]:=by rw [h,i,j]
theorem b2S {a b c d e f g k:Int} (h:a=e) (i:b=f) (j:c=g) (l:d=k):[a,b,c,d]=[e,f,g,k]:=by rw [h,i,j,l]
theorem b2T (s:ByteArray) (h0:0<s.size) (hg:¬((Utf8.decode s 0).2=1/\(Utf8.decode s 0).1=65533)):
 bI s.data.toList=encodeRuneZ ((Utf8.decode s 0).1:Int)++bI (s.extract (Utf8.decode s 0).2 s.size).data.toList:=by
 rw [a0Z];rw [decode_at] at hg⊢;simp only [a78,Nat.zero_add] at hg⊢;have hsz:s.size=s.data.toList.length:=by show s.data.size=_;rw [Array.length_toList]
 rw [hsz] at hg h0⊢
 generalize s.data.toList=L at hg h0⊢
 match L,h0 with
 |b0::l,_=>
  have t0:=b0.toNat_lt;simp only [List.getD_cons_zero,List.getD_cons_succ,Nat.sub_zero] at hg⊢;unfold decodeN at hg⊢;by_cases c1:b0.toNat<128
  ·rw [if_pos c1];simp only;rw [encodeRuneZ_one (by omega) (by omega)];rfl
  rw [if_neg c1] at hg⊢;by_cases c2:b0.toNat / 32=6/\(1<(b0::l).length/\(l.getD 0 0).toNat / 64=2)
  ·rw [if_pos c2] at hg⊢;split at hg
   ·rename_i c3
    rw [if_pos c3]
    match l,c2 with
    |b1::m,c2=>
     simp only [List.getD_cons_zero] at c2 c3⊢;have t1:=b1.toNat_lt;rw [encodeRuneZ_two (by omega) (by omega)];rw [show bI (b0::b1::m)=[(b0.toNat:Int),b1.toNat]++bI m from rfl,show List.drop 2 (b0::b1::m)=m from rfl];refine congrArg (· ++bI m) (b4z ?_ ?_)<;>omega
    |[],c2=>simp at c2
   exact absurd ⟨rfl,rfl⟩ hg
  rw [if_neg c2] at hg⊢;by_cases c3:b0.toNat / 16=14/\(1<(b0::l).length/\(l.getD 0 0).toNat / 64=2)/\(2<(b0::l).length/\(l.getD 1 0).toNat / 64=2)
  ·rw [if_pos c3] at hg⊢;split at hg
   ·rename_i c4
    rw [if_pos c4]
    match l,c3 with
    |b1::b2::m,c3=>
     simp only [List.getD_cons_zero,List.getD_cons_succ] at c3 c4⊢;have t1:=b1.toNat_lt;have t2:=b2.toNat_lt;rw [encodeRuneZ_three (by omega)];rw [show bI (b0::b1::b2::m)=[(b0.toNat:Int),b1.toNat,b2.toNat]++bI m from rfl,show List.drop 3 (b0::b1::b2::m)=m from rfl];refine congrArg (· ++bI m) (b0u ?_ ?_ ?_)<;>omega
    |[_],c3=>simp at c3
    |[],c3=>simp at c3
   exact absurd ⟨rfl,rfl⟩ hg
  rw [if_neg c3] at hg⊢;by_cases c4:b0.toNat / 8=30/\(1<(b0::l).length/\(l.getD 0 0).toNat / 64=2)/\(2<(b0::l).length/\(l.getD 1 0).toNat / 64=2)/\(3<(b0::l).length/\(l.getD 2 0).toNat / 64=2)
  ·rw [if_pos c4] at hg⊢;split at hg
   ·rename_i c5
    rw [if_pos c5];obtain ⟨b1,b2,b3,m,rfl⟩:=b5z c4.2.2.2.1;simp only [List.getD_cons_zero,List.getD_cons_succ] at c4 c5⊢;have t1:=b1.toNat_lt;have t2:=b2.toNat_lt;have t3:=b3.toNat_lt;rw [encodeRuneZ_four (by omega) (by omega)];rw [show bI (b0::b1::b2::b3::m)=[(b0.toNat:Int),b1.toNat,b2.toNat,b3.toNat]++bI m from rfl,show List.drop 4 (b0::b1::b2::b3::m)=m from rfl];refine congrArg (· ++bI m) (b2S ?_ ?_ ?_ ?_)<;>omega
   exact absurd ⟨rfl,rfl⟩ hg
  rw [if_neg c4] at hg;exact absurd ⟨rfl,rfl⟩ hg
def b0v (x:Int):Int:=if x<60 then x - 48 else x - 87
theorem N6 (x:Nat) (h:x<16):b0v (Lib.hexDigit x)=x:=by
 unfold b0v Lib.hexDigit;split
 ·rw [if_pos (by omega)];omega
 rw [if_neg (by omega)];omega
def J9 (l:List Int):Int:=l.foldl (fun a x=>16*a+b0v x) 0
theorem b2U (r:Nat) (h:r<65536):J9 (hexDigits r 4)=r:=by
 simp only [J9,hexDigits,List.foldl_cons,List.foldl_nil,N6 _ (Nat.mod_lt _ (show 0<16 by decide))];omega
theorem b2V (r:Nat) (h:r<4294967296):J9 (hexDigits r 8)=r:=by
 simp only [J9,hexDigits,List.foldl_cons,List.foldl_nil,N6 _ (Nat.mod_lt _ (show 0<16 by decide))];omega
def b5f (x:Int):Int:=if x=97 then 7 else if x=98 then 8 else if x=102 then 12 else if x=110 then 10 else if x=114 then 13 else if x=116 then 9 else if x=118 then 11 else x
def V3 (l:List Int):List Int×Nat:=
 if l.getD 0 0=92 then
  if l.getD 1 0=120 then ([J9 ((l.drop 2).take 2)],4)
  else if l.getD 1 0=117 then (encodeRuneZ (J9 ((l.drop 2).take 4)),6)
  else if l.getD 1 0=85 then (encodeRuneZ (J9 ((l.drop 2).take 8)),10)
  else ([b5f (l.getD 1 0)],2)
 else if l.getD 0 0<128 then (l.take 1,1)
 else if l.getD 0 0<224 then (l.take 2,2)
 else if l.getD 0 0<240 then (l.take 3,3)
 else (l.take 4,4)
theorem b5g (r:Int) (h:0<=r) (h1:r<=1114111) (hv:r<55296\/57343<r) (n1:r≠92) (rest:List Int):V3 (encodeRuneZ r++rest)=(encodeRuneZ r,(encodeRuneZ r).length):=by
 by_cases a1:r<=127
 ·rw [encodeRuneZ_one h a1];unfold V3;rw [if_neg (by simpa using n1),if_pos (by show r<128;omega)];rfl
 by_cases a2:r<=2047
 ·rw [encodeRuneZ_two (by omega) a2];unfold V3;rw [if_neg (by show¬192+r / 64=92;omega),if_neg (by show¬192+r / 64<128;omega),if_pos (by show 192+r / 64<224;omega)];rfl
 by_cases a3:r<=65535
 ·rw [encodeRuneZ_three (by omega)];unfold V3;rw [if_neg (by show¬224+r / 4096=92;omega),if_neg (by show¬224+r / 4096<128;omega),if_neg (by show¬224+r / 4096<224;omega),if_pos (by show 224+r / 4096<240;omega)];rfl
 rw [encodeRuneZ_four (by omega) h1];unfold V3;rw [if_neg (by show¬240+r / 262144=92;omega),if_neg (by show¬240+r / 262144<128;omega),if_neg (by show¬240+r / 262144<224;omega),if_neg (by show¬240+r / 262144<240;omega)];rfl
theorem b5h (T:PrintTabs) (r:Nat) (h1:(r:Int)<=1114111) (hv:(r:Int)<55296\/57343<(r:Int)) (rest:List Int):V3 (escRune T r++rest)=(encodeRuneZ r,(escRune T r).length)/\(escRune T r).getD 0 0≠34/\0<(escRune T r).length:=by
 have hvr:Lib.validRune (r:Int)=true:=by
  simp only [Lib.validRune,decide_eq_true_eq];omega
 have e1:∀k:Nat,k<=127->(r:Int)=k->encodeRuneZ (r:Int)=[(k:Int)]:=fun k hk e=>by rw [e];exact encodeRuneZ_one (by omega) (by omega)
 unfold escRune;by_cases c0:(r:Int)=34\/(r:Int)=92
 ·rw [if_pos c0];rcases c0 with c|c
  ·rw [e1 34 (by omega) c,c];exact ⟨rfl,by decide,by decide⟩
  rw [e1 92 (by omega) c,c];exact ⟨rfl,by decide,by decide⟩
 rw [if_neg c0];by_cases c1:isPrintR T r=true
 ·rw [if_pos c1];refine ⟨b5g r (by omega) h1 hv (fun e=>c0 (.inr e)) rest, ?_,(encodeRuneZ_length r).1⟩;unfold encodeRuneZ;split
  ·show¬(r:Int)=34;exact fun e=>c0 (.inl e)
  split
  ·show¬192+(r:Int) / 64=34;omega
  split
  ·show¬224+(r:Int) / 4096=34;omega
  split
  ·show¬240+(r:Int) / 262144=34;omega
  decide
 rw [if_neg c1];by_cases c2:(r:Int)=7
 ·rw [if_pos c2,e1 7 (by omega) c2];exact ⟨rfl,by decide,by decide⟩
 rw [if_neg c2];by_cases c3:(r:Int)=8
 ·rw [if_pos c3,e1 8 (by omega) c3];exact ⟨rfl,by decide,by decide⟩
 rw [if_neg c3];by_cases c4:(r:Int)=12
 ·rw [if_pos c4,e1 12 (by omega) c4];exact ⟨rfl,by decide,by decide⟩
 rw [if_neg c4];by_cases c5:(r:Int)=10
 ·rw [if_pos c5,e1 10 (by omega) c5];exact ⟨rfl,by decide,by decide⟩
 rw [if_neg c5];by_cases c6:(r:Int)=13
 ·rw [if_pos c6,e1 13 (by omega) c6];exact ⟨rfl,by decide,by decide⟩
 rw [if_neg c6];by_cases c7:(r:Int)=9
 ·rw [if_pos c7,e1 9 (by omega) c7];exact ⟨rfl,by decide,by decide⟩
 rw [if_neg c7];by_cases c8:(r:Int)=11
 ·rw [if_pos c8,e1 11 (by omega) c8];exact ⟨rfl,by decide,by decide⟩
 rw [if_neg c8];by_cases c9:(r:Int)<32\/(r:Int)=127
 ·rw [if_pos c9,e1 r (by omega) rfl,Int.toNat_natCast];refine ⟨?_,by show (92:Int)≠34;omega,Nat.succ_pos _⟩;show ([J9 [Lib.hexDigit (r / 16),Lib.hexDigit (r%16)]],4)=_;simp only [J9,List.foldl_cons,List.foldl_nil,N6 _ (show r / 16<16 by omega),N6 _ (show r%16<16 by omega)];refine Prod.ext ?_ rfl;show [16*(16*0+((r / 16:Nat):Int))+((r%16:Nat):Int)]=[(r:Int)];exact congrArg (fun x:Int=>[x]) (by omega)
 rw [if_neg c9,if_neg (by rw [hvr];decide)];by_cases c10:(r:Int)<65536
 ·rw [if_pos c10,Int.toNat_natCast];refine ⟨?_,by show (92:Int)≠34;omega,Nat.succ_pos _⟩;have e:V3 (92::117::hexDigits r 4++rest)=(encodeRuneZ (J9 (hexDigits r 4)),6):=rfl;rw [e,b2U r (by omega)];rfl
 rw [if_neg c10,Int.toNat_natCast];refine ⟨?_,by show (92:Int)≠34;omega,Nat.succ_pos _⟩;have e:V3 (92::85::hexDigits r 8++rest)=(encodeRuneZ (J9 (hexDigits r 8)),10):=rfl;rw [e,b2V r (by omega)];rfl
theorem a4A (T:PrintTabs) (s:ByteArray) (h0:0<s.size) (rest:List Int):∃l,bI s.data.toList=l++bI (s.extract (Utf8.decode s 0).2 s.size).data.toList/\V3 (quoteStep T s++rest)=(l,(quoteStep T s).length)/\(quoteStep T s).getD 0 0≠34/\0<(quoteStep T s).length:=by
 by_cases hg:(Utf8.decode s 0).2=1/\(Utf8.decode s 0).1=65533
 ·have e:quoteStep T s=[92,120,Lib.hexDigit ((s.get! 0).toNat / 16),Lib.hexDigit ((s.get! 0).toNat%16)]:=by unfold quoteStep;rw [if_pos hg]
  rw [e,hg.1];have t:=(s.get! 0).toNat_lt;refine ⟨[((s.get! 0).toNat:Int)], ?_, ?_,by show (92:Int)≠34;omega,Nat.succ_pos _⟩
  ·rw [a0Z,a78];have hsz:s.size=s.data.toList.length:=by show s.data.size=_;rw [Array.length_toList]
   rw [hsz] at h0
   generalize s.data.toList=L at h0
   cases L with
   |nil=>simp at h0
   |cons a l=>rfl
  show ([J9 [Lib.hexDigit ((s.get! 0).toNat / 16),Lib.hexDigit ((s.get! 0).toNat%16)]],4)=_;simp only [J9,List.foldl_cons,List.foldl_nil,N6 _ (show (s.get! 0).toNat / 16<16 by omega),N6 _ (show (s.get! 0).toNat%16<16 by omega)];refine Prod.ext ?_ rfl;show [16*(16*0+(((s.get! 0).toNat / 16:Nat):Int))+(((s.get! 0).toNat%16:Nat):Int)]=[((s.get! 0).toNat:Int)];congr 1;omega
 rw [quoteStep_good T s hg];have hv:=rune_valid s;simp only [Lib.validRune,decide_eq_true_eq] at hv;obtain ⟨a,b,c⟩:=b5h T (Utf8.decode s 0).1 (by omega) (by omega) rest;exact ⟨_,b2T s h0 hg,a,b,c⟩
theorem a8U (T:PrintTabs):∀(n f g:Nat) (s t:ByteArray) (r q:List Int),s.size<=n->s.size<=f->t.size<=g->quoteFrom T f s++34::r=quoteFrom T g t++34::q->s=t/\r=q:=by
 intro n
 induction n with
 | zero=>
  intro f g s t r q hn hf hg h;have hs:¬0<s.size:=by omega
  rw [quoteFrom_end T f s hs] at h;by_cases ht:0<t.size
  ·rw [quoteFrom_step T g t ht hg,zz12] at h;obtain ⟨l, -, -,h3,h4⟩:=a4A T t ht []
   cases hq:quoteStep T t with
   |nil=>rw [hq] at h4;simp at h4
   |cons a m=>
    rw [hq] at h h3;simp at h h3;exact absurd h.1.symm h3
  ·rw [quoteFrom_end T g t ht] at h;refine ⟨?_,by simpa using h⟩;apply ByteArray.ext;have a:s.data.size=0:=by show s.size=0;omega
   have b:t.data.size=0:=by show t.size=0;omega
   rw [Array.eq_empty_of_size_eq_zero a,Array.eq_empty_of_size_eq_zero b]
 | succ n ih=>
  intro f g s t r q hn hf hg h;by_cases hs:0<s.size
  ·rw [quoteFrom_step T f s hs hf,zz12] at h;by_cases ht:0<t.size
   ·rw [quoteFrom_step T g t ht hg,zz12] at h;obtain ⟨l,a1,a2, -, -⟩:=a4A T s hs (quoteFrom T (f - 1) (s.extract (Utf8.decode s 0).2 s.size)++34::r);obtain ⟨m,b1,b2, -, -⟩:=a4A T t ht (quoteFrom T (g - 1) (t.extract (Utf8.decode t 0).2 t.size)++34::q);rw [<-h,a2] at b2;have e1:l=m:=congrArg Prod.fst b2;have e2:(quoteStep T s).length=(quoteStep T t).length:=congrArg Prod.snd b2;obtain ⟨-,h5⟩:=List.append_inj h e2;have w1:=width_pos s 0;have w2:=width_pos t 0;have w3:=width_le s hs;have w4:=width_le t ht;obtain ⟨i1,i2⟩:=ih (f - 1) (g - 1) _ _ r q (by rw [size_rest];omega) (by rw [size_rest];omega) (by rw [size_rest];omega) h5;refine ⟨?_,i2⟩;rw [i1,e1,<-b1] at a1;have:=b0t a1;apply ByteArray.ext;exact Array.toList_inj.1 this
   rw [quoteFrom_end T g t ht] at h;obtain ⟨l, -, -,h3,h4⟩:=a4A T s hs []
   cases hq:quoteStep T s with
   |nil=>rw [hq] at h4;simp at h4
   |cons a m=>
    rw [hq] at h h3;simp at h h3;exact absurd h.1 h3
  exact ih f g s t r q (by omega) hf hg h
theorem a6M (T:PrintTabs) (s t:ByteArray) (r q:List Int) (h:quoteZ T s++r=quoteZ T t++q):s=t/\r=q:=by
 have h2:34::(quoteFrom T s.size s++34::r)=34::(quoteFrom T t.size t++34::q):=by
  have a:∀(u:ByteArray) (x:List Int),quoteZ T u++x=34::(quoteFrom T u.size u++34::x):=fun u x=>by unfold quoteZ;rw [List.cons_append,zz12,List.singleton_append]
  rw [<-a,<-a];exact h
 exact a8U T s.size s.size t.size s t r q (Nat.le_refl _) (Nat.le_refl _) (Nat.le_refl _) (List.cons.inj h2).2
theorem Y1 (x:Nat) (h:x<16):0<=Lib.hexDigit x/\Lib.hexDigit x<256:=by unfold Lib.hexDigit;split<;>omega
theorem a1A (r n:Nat):∀x∈hexDigits r n,0<=x/\x<256:=by
 induction n with
 |zero=>intro x hx;simp [hexDigits] at hx
 |succ n ih=>
  intro x hx;rcases List.mem_cons.1 hx with rfl|hx
  ·exact Y1 _ (Nat.mod_lt _ (by decide))
  exact ih x hx
def Byt (l:List Int):Prop:=∀x∈l,0<=x/\x<256
theorem E3 {c:Prop} [Decidable c] {a b:List Int} (h:c->Byt a) (k:¬c->Byt b):Byt (if c then a else b):=by
 by_cases hc:c
 ·rw [if_pos hc];exact h hc
 rw [if_neg hc];exact k hc
theorem B4 {a:Int} {l:List Int} (h:0<=a/\a<256) (k:Byt l):Byt (a::l):=fun x hx=>by
 rcases List.mem_cons.1 hx with rfl|hx
 ·exact h
 exact k x hx
theorem a79:Byt []:=fun x hx=>by cases hx
theorem b0w (T:PrintTabs) (r:Nat):Byt (escRune T r):=by
 have lit:∀a:Int,0<=a/\a<256->Byt [92,a]:=fun a h=>B4 (by omega) (B4 h a79);unfold escRune;refine E3 (fun c=>lit _ (by omega)) fun _=> ?_;refine E3 (fun c=>encodeRuneZ_byte r) fun _=> ?_;refine E3 (fun c=>lit _ (by omega)) fun _=> ?_;refine E3 (fun c=>lit _ (by omega)) fun _=> ?_;refine E3 (fun c=>lit _ (by omega)) fun _=> ?_;refine E3 (fun c=>lit _ (by omega)) fun _=> ?_;refine E3 (fun c=>lit _ (by omega)) fun _=> ?_;refine E3 (fun c=>lit _ (by omega)) fun _=> ?_;refine E3 (fun c=>lit _ (by omega)) fun _=> ?_;refine E3 (fun c=>B4 (by omega) (B4 (by omega) (B4 (Y1 _ (by omega)) (B4 (Y1 _ (by omega)) a79)))) fun _=> ?_;refine E3 (fun c=>B4 (by omega) (B4 (by omega) (a1A _ _))) fun _=> ?_;exact E3 (fun c=>B4 (by omega) (B4 (by omega) (a1A _ _))) fun _=>B4 (by omega) (B4 (by omega) (a1A _ _))
theorem a6N (T:PrintTabs):∀(f:Nat) (s:ByteArray),∀x∈quoteFrom T f s,0<=x/\x<256:=by
 intro f
 induction f with
 |zero=>intro s x hx;simp [quoteFrom] at hx
 | succ f ih=>
  intro s x hx;unfold quoteFrom at hx;split at hx
  ·rcases zz14 hx with hx|hx
   ·unfold quoteStep at hx;split at hx
    ·have t:=(s.get! 0).toNat_lt;have a:=Y1 ((s.get! 0).toNat / 16) (by omega);have b:=Y1 ((s.get! 0).toNat%16) (by omega);simp only [List.mem_cons,List.not_mem_nil,or_false] at hx;rcases hx with rfl|rfl|rfl|rfl
     ·omega
     ·omega
     ·exact a
     exact b
    exact b0w T _ x hx
   exact ih _ x hx
  simp at hx
theorem a5q (T:PrintTabs) (s:ByteArray):∀x∈quoteZ T s,0<=x/\x<256:=by
 intro x hx;unfold quoteZ at hx;rcases List.mem_cons.1 hx with rfl|hx
 ·omega
 rcases zz14 hx with hx|hx
 ·exact a6N T _ s x hx
 rw [List.mem_singleton.1 hx];omega
def a2S (T:PrintTabs) (s:ByteArray):List UInt8:=(quoteZ T s).map fun n=>UInt8.ofNat n.toNat
theorem a8a (T:PrintTabs) (s:ByteArray):bI (a2S T s)=quoteZ T s:=by
 unfold a2S bI;rw [List.map_map]
 conv=>rhs;rw [<-List.map_id (quoteZ T s)]
 refine List.map_congr_left fun x hx=> ?_;have:=a5q T s x hx;show (((UInt8.ofNat x.toNat).toNat:Nat):Int)=x;have e:(UInt8.ofNat x.toNat).toNat=x.toNat%256:=rfl;rw [e];omega
theorem b0x (T:PrintTabs) (s t:ByteArray) (r q:List UInt8) (h:a2S T s++r=a2S T t++q):s=t/\r=q:=by
 have h2:=congrArg bI h;rw [a3V,a3V,a8a,a8a] at h2;obtain ⟨a,b⟩:=a6M T s t _ _ h2;exact ⟨a,b0t b⟩
theorem a3W (T:PrintTabs) (s:ByteArray):∃r,a2S T s=34::r:=⟨_,rfl⟩
theorem b0y (T:PrintTabs) (s:ByteArray):(a2S T s).length<=10*s.size+2:=by
 unfold a2S;rw [zz10];exact quoteZ_length_le T s
end
section
def V.prt (v:V):List UInt8:=
 if v.kind=0 then Lib.itoa v.int else if v.kind=1 then O2 (m5 v.num) else if v.kind=2 then a2S Lib.goPrintTabs v.text else if v.yes then [121,101,115] else [110,111]
def C8 (op:Int):List UInt8:=
 if op=0 then [61] else if op=1 then [33,61] else if op=2 then [60] else if op=3 then [60,61] else if op=4 then [62] else if op=5 then [62,61] else if op=6 then [94] else if op=7 then [104,97,115] else []
def Cnd.prt (c:Cnd):List UInt8:=if c.op=7 then [104,97,115,32]++c.name.data.toList else c.name.data.toList++[32]++C8 c.op++[32]++c.v.prt
def F8:List Cnd->List UInt8
 |[]=>[]
 |c::l=>[32,38,32]++c.prt++F8 l
def X0:List Cnd->List UInt8
 |[]=>[]
 |c::l=>[32]++c.prt++F8 l
def p9 (sc:ByteArray) (l:List Cnd):List UInt8:=sc.data.toList++[58]++X0 l
def Cnd.norm (c:Cnd):Cnd:=if c.op=7 then ⟨c.name,7,V.zero⟩ else ⟨c.name,c.op,c.v.canon⟩
structure Cnd.fine (c:Cnd):Prop where
 name:n4 c.name=true
 op:0<=c.op/\c.op<=7
 v:c.v.right=true
 num:c.v.num<2^64
 is:c.norm=c
theorem a2T {x:Nat} (hx:x<2^64):b4y (m5 x):=by
 by_cases hn:a0t x
 ·rw [a6t hx hn];unfold a0t n9 at hn;unfold n9;split
  ·exact ⟨by omega,fun h=>by omega,fun _=>rfl⟩
  exact ⟨hx,fun h1 h2=>by omega,fun h=>by omega⟩
 have hf:fEq x x=false:=by rw [Bool.eq_false_iff];exact fun h=>hn (a70.1 h)
 unfold m5;rw [hf,if_neg (by decide)];exact ⟨by decide,fun _ _=>rfl,fun h=>absurd h (by decide)⟩
def a4B (r:List UInt8):Prop:=r=[]\/∃q,r=32::q
theorem K0 (r:List UInt8):a4B (32::r):= .inr ⟨r,rfl⟩
theorem Y2 {a b r q:List UInt8} (ha:∀c∈a,c≠32) (hb:∀c∈b,c≠32) (hr:a4B r) (hq:a4B q) (h:a++r=b++q):a=b/\r=q:=by
 have key:∀{l x:List UInt8},(∀c∈l,c≠32)->a4B x->(l++x).takeWhile (· !=32)=l/\(l++x).dropWhile (· !=32)=x:=by
  intro l x hl hx;have hl':∀c∈l,(c !=32)=true:=fun c hc=>by rw [bne_iff_ne];exact hl c hc
  rw [List.takeWhile_append_of_pos hl',List.dropWhile_append_of_pos hl'];rcases hx with rfl|⟨y,rfl⟩
  ·exact ⟨zz11 _,rfl⟩
  exact ⟨zz11 _,rfl⟩
 have k1:=key ha hr;have k2:=key hb hq;rw [h] at k1;exact ⟨k1.1.symm.trans k2.1,k1.2.symm.trans k2.2⟩
theorem a2U {s:ByteArray} (h:n4 s=true):(∀c∈s.data.toList,(97<=c.toNat/\c.toNat<=122)\/(48<=c.toNat/\c.toNat<=57))/\∃c r,s.data.toList=c::r/\97<=c.toNat/\c.toNat<=122:=by
 unfold n4 at h;rw [Bool.and_eq_true,Bool.and_eq_true,List.all_eq_true] at h;obtain ⟨h1,h2, -⟩:=h;have at_:∀(i:Nat) (c:UInt8),s.data.toList[i]? =some c->D3 i c=true:=fun i c hc=>h1 (c,i) (List.mk_mem_zipIdx_iff_getElem?.2 hc);constructor
 ·intro c hc;obtain ⟨i,hi⟩:=List.getElem?_of_mem hc;have:=at_ i c hi;unfold D3 at this;simp only [Bool.or_eq_true,Bool.and_eq_true,decide_eq_true_eq] at this;omega
 ·cases hl:s.data.toList with
  |nil=>
   have hz:s.size=0:=by show s.data.size=0;rw [<-Array.length_toList,hl];rfl
   rw [hz] at h2;simp at h2
  |cons c r=>
   have:=at_ 0 c (by rw [hl];rfl);unfold D3 at this;simp only [Bool.or_eq_true,Bool.and_eq_true,decide_eq_true_eq,Nat.lt_irrefl,false_and,or_false] at this;exact ⟨c,r,rfl,this⟩
theorem T3 {s:ByteArray} (h:n4 s=true):∀c∈s.data.toList,c≠32:=by
 intro c hc e;subst e;have:=(a2U h).1 32 hc;revert this;decide
theorem a4C {s t:ByteArray} (h:s.data.toList=t.data.toList):s=t:=ByteArray.ext (Array.toList_inj.1 h)
theorem a2V (n:Int):(∀c∈Lib.itoa n,m9 c\/c=45)/\∃c r,Lib.itoa n=c::r:=by
 unfold Lib.itoa;split
 ·refine ⟨fun c hc=> ?_,_,_,rfl⟩;rcases List.mem_cons.1 hc with rfl|hc
  ·exact .inr rfl
  exact .inl ((Y0 _).2.1 c hc)
 refine ⟨fun c hc=> .inl ((Y0 _).2.1 c hc), ?_⟩
 cases hd:Lib.decDigits n.toNat with
 |nil=>exact absurd hd (Y0 _).2.2.2
 |cons c r=>exact ⟨c,r,rfl⟩
theorem a8b {a b:Nat} (h:Lib.decDigits a=Lib.decDigits b):a=b:=by
 rw [<-(Y0 a).1,<-(Y0 b).1,h]
theorem b0z {a b:Int} (h:Lib.itoa a=Lib.itoa b):a=b:=by
 have hd:∀(u:Nat) (r:List UInt8),Lib.decDigits u≠45::r:=fun u r e=>by
  have:=(Y0 u).2.1 45 (by rw [e];exact List.mem_cons_self);unfold m9 at this;revert this;decide
 unfold Lib.itoa at h;split at h<;>split at h
 ·have:=a8b (List.cons.inj h).2;omega
 ·exact absurd h.symm (hd _ _)
 ·exact absurd h (hd _ _)
 have:=a8b h;omega
theorem a00 {v:V} (hk:v.kind≠2):(∀c∈v.prt,c≠32)/\∃c r,v.prt=c::r/\c≠34:=by
 unfold V.prt;by_cases h0:v.kind=0
 ·rw [if_pos h0];obtain ⟨h1,c,r,h2⟩:=a2V v.int;refine ⟨fun c hc e=> ?_,c,r,h2,fun e=> ?_⟩
  ·subst e;rcases h1 32 hc with h|h
   ·unfold m9 at h;revert h;decide
   revert h;decide
  subst e;rcases h1 34 (by rw [h2];exact List.mem_cons_self) with h|h
  ·unfold m9 at h;revert h;decide
  revert h;decide
 rw [if_neg h0];by_cases h1:v.kind=1
 ·rw [if_pos h1];obtain ⟨⟨c,r,h2⟩,h3, -, -⟩:=a0Y (m5 v.num);refine ⟨fun c hc e=> ?_,c,r,h2,fun e=> ?_⟩
  ·subst e;have:=h3 32 hc;unfold t6 at this;revert this;decide
  subst e;have:=h3 34 (by rw [h2];exact List.mem_cons_self);unfold t6 at this;revert this;decide
 rw [if_neg h1,if_neg hk];split
 ·exact ⟨by decide,_,_,rfl,by decide⟩
 exact ⟨by decide,_,_,rfl,by decide⟩
theorem b0A {u v:V} {r q:List UInt8} (hu:u.right=true) (hv:v.right=true) (nu:u.num<2^64) (nv:v.num<2^64) (cu:u.canon=u) (cv:v.canon=v) (hr:a4B r) (hq:a4B q) (h:u.prt++r=v.prt++q):u=v/\r=q:=by
 have kr:∀{x:V},x.right=true->x.kind=0\/x.kind=1\/x.kind=2\/x.kind=3:=by
  intro x hx;unfold V.right at hx;simp only [Bool.and_eq_true,decide_eq_true_eq] at hx;omega
 have q2:∀{x:V},x.kind=2->x.prt=a2S Lib.goPrintTabs x.text:=fun h=>by unfold V.prt;rw [if_neg (by omega),if_neg (by omega),if_pos h]
 have p0:∀{x:V},x.kind=0->x.prt=Lib.itoa x.int:=fun h=>by unfold V.prt;rw [if_pos h]
 have p1:∀{x:V},x.kind=1->x.prt=O2 (m5 x.num):=fun h=>by unfold V.prt;rw [if_neg (by omega),if_pos h]
 have p3:∀{x:V},x.kind=3->x.prt=if x.yes then [121,101,115] else [110,111]:=fun h=>by unfold V.prt;rw [if_neg (by omega),if_neg (by omega),if_neg (by omega)]
 have c0:∀{x:V},x.canon=x->x.kind=0->x={V.zero with kind:=0,int:=x.int}:=fun h e=>by
  conv=>lhs;rw [<-h]
  unfold V.canon;rw [if_pos e]
 have c1:∀{x:V},x.canon=x->x.kind=1->x={V.zero with kind:=1,num:=m5 x.num}:=fun h e=>by
  conv=>lhs;rw [<-h]
  unfold V.canon;rw [if_neg (by omega),if_pos e]
 have c2:∀{x:V},x.canon=x->x.kind=2->x={V.zero with kind:=2,text:=x.text}:=fun h e=>by
  conv=>lhs;rw [<-h]
  unfold V.canon;rw [if_neg (by omega),if_neg (by omega),if_pos e]
 have c3:∀{x:V},x.canon=x->x.kind=3->x={V.zero with kind:=3,yes:=x.yes}:=fun h e=>by
  conv=>lhs;rw [<-h]
  unfold V.canon;rw [if_neg (by omega),if_neg (by omega),if_neg (by omega),if_pos e]
 by_cases hk:u.kind=2<;>by_cases hl:v.kind=2
 ·rw [q2 hk,q2 hl] at h;obtain ⟨h1,h2⟩:=b0x _ _ _ _ _ h;refine ⟨?_,h2⟩;rw [c2 cu hk,c2 cv hl,h1]
 ·exfalso;obtain ⟨-,c,x,h1,h2⟩:=a00 hl;rw [q2 hk,h1] at h;obtain ⟨y,hy⟩:=a3W Lib.goPrintTabs u.text;rw [hy] at h;exact h2 (List.cons.inj h).1.symm
 ·exfalso;obtain ⟨-,c,x,h1,h2⟩:=a00 hk;rw [q2 hl,h1] at h;obtain ⟨y,hy⟩:=a3W Lib.goPrintTabs v.text;rw [hy] at h;exact h2 (List.cons.inj h).1
 obtain ⟨he,hrq⟩:=Y2 (a00 hk).1 (a00 hl).1 hr hq h;refine ⟨?_,hrq⟩;clear h
 have i1:∀{x y:V},x.kind=0->y.kind=1->x.prt≠y.prt:=by
  intro x y hx hy e;rw [p0 hx,p1 hy] at e;have hs:=(a0Y (m5 y.num)).2.2.2;rw [<-e] at hs;unfold N3 at hs;rw [List.any_eq_true] at hs;obtain ⟨c,hc,hcs⟩:=hs;simp only [Bool.or_eq_true,beq_iff_eq] at hcs;rcases (a2V x.int).1 c hc with hd|hd
  ·unfold m9 at hd;rcases hcs with ((rfl|rfl)|rfl)|rfl<;>revert hd<;>decide
  subst hd;revert hcs;decide
 have i3:∀{x y:V},x.kind=0->y.kind=3->x.prt≠y.prt:=by
  intro x y hx hy e;rw [p0 hx,p3 hy] at e;have:∀c,c∈(if y.yes=true then ([121,101,115]:List UInt8) else [110,111])->m9 c\/c=45:=fun c hc=>(a2V x.int).1 c (by rw [e];exact hc);cases hy:y.yes
  ·rw [hy] at this;have:=this 110 (by decide);unfold m9 at this;revert this;decide
  rw [hy] at this;have:=this 121 (by decide);unfold m9 at this;revert this;decide
 have n3:∀{x y:V},x.kind=1->y.kind=3->x.prt≠y.prt:=by
  intro x y hx hy e;rw [p1 hx,p3 hy] at e;obtain ⟨-,h1,h2, -⟩:=a0Y (m5 x.num);rw [e] at h1 h2;cases hy:y.yes
  ·rw [hy] at h2;exact h2 _ rfl
  rw [hy] at h1;have:=h1 121 (by decide);unfold t6 at this;revert this;decide
 rcases kr hu with a|a|a|a<;>rcases kr hv with b|b|b|b
 ·rw [c0 cu a,c0 cv b];rw [p0 a,p0 b] at he;rw [b0z he]
 ·exact absurd he (i1 a b)
 ·exact absurd b hl
 ·exact absurd he (i3 a b)
 ·exact absurd he.symm (i1 b a)
 ·rw [c1 cu a,c1 cv b];rw [p1 a,p1 b] at he;rw [b0s (a2T nu) (a2T nv) he]
 ·exact absurd b hl
 ·exact absurd he (n3 a b)
 ·exact absurd a hk
 ·exact absurd a hk
 ·exact absurd a hk
 ·exact absurd a hk
 ·exact absurd he.symm (i3 b a)
 ·exact absurd he.symm (n3 b a)
 ·exact absurd b hl
 rw [c3 cu a,c3 cv b];rw [p3 a,p3 b] at he
 have:u.yes=v.yes:=by
  cases hx:u.yes<;>cases hy:v.yes<;>rw [hx,hy] at he<;>first|rfl|(exfalso;revert he;decide)
 rw [this]
theorem b0B {o:Int} (h:0<=o/\o<=7) (h7:o≠7):o=0\/o=1\/o=2\/o=3\/o=4\/o=5\/o=6:=by omega
theorem b2W {o p:Int} (h:0<=o/\o<=7) (k:0<=p/\p<=7) (e:C8 o=C8 p):o=p:=by
 have a:∀x:Int,0<=x/\x<=7->x=0\/x=1\/x=2\/x=3\/x=4\/x=5\/x=6\/x=7:=fun x hx=>by omega
 rcases a o h with rfl|rfl|rfl|rfl|rfl|rfl|rfl|rfl<;>rcases a p k with rfl|rfl|rfl|rfl|rfl|rfl|rfl|rfl<;>first|rfl|(exfalso;revert e;decide)
theorem a3X {o:Int} (h:0<=o/\o<=7):∀c∈C8 o,c≠32:=by
 have a:o=0\/o=1\/o=2\/o=3\/o=4\/o=5\/o=6\/o=7:=by omega
 rcases a with rfl|rfl|rfl|rfl|rfl|rfl|rfl|rfl<;>decide
theorem a8V {o:Int} (h:0<=o/\o<=7) (h7:o≠7):∃c r,C8 o=c::r/\(c.toNat<97/\(c.toNat<48\/57<c.toNat)):=by
 rcases b0B h h7 with rfl|rfl|rfl|rfl|rfl|rfl|rfl
 all_goals exact ⟨_,_,rfl,by decide⟩
theorem a8c {c d:Cnd} {r q:List UInt8} (hc:c.fine) (hd:d.fine) (hr:a4B r) (hq:a4B q) (h:c.prt++r=d.prt++q):c=d/\r=q:=by
 have eh:∀{x:Cnd},x.fine->x.op=7->x=⟨x.name,7,V.zero⟩:=fun hx e=>by
  conv=>lhs;rw [<-hx.is]
  unfold Cnd.norm;rw [if_pos e]
 have en:∀{x:Cnd},x.fine->x.op≠7->x=⟨x.name,x.op,x.v.canon⟩:=fun hx e=>by
  conv=>lhs;rw [<-hx.is]
  unfold Cnd.norm;rw [if_neg e]
 have mix:∀{x y:Cnd} {a b:List UInt8},x.fine->y.fine->x.op=7->y.op≠7->x.prt++a≠y.prt++b:=by
  intro x y a b hx hy e f g;unfold Cnd.prt at g;rw [if_pos e,if_neg f] at g
  have g2:[104,97,115]++(32::(x.name.data.toList++a))=y.name.data.toList++(32::(C8 y.op++(32::(y.v.prt++b)))):=by
   simpa [List.append_assoc] using g
  obtain ⟨-,h2⟩:=Y2 (by decide) (T3 hy.name) (K0 _) (K0 _) g2;have h3:=(List.cons.inj h2).2;obtain ⟨c1,r1,h4,h5⟩:=(a2U hx.name).2;obtain ⟨c2,r2,h6,h7⟩:=a8V hy.op f;rw [h4,h6] at h3;have:=(List.cons.inj h3).1;subst this;omega
 by_cases e:c.op=7<;>by_cases f:d.op=7
 ·unfold Cnd.prt at h;rw [if_pos e,if_pos f,zz12,zz12] at h;obtain ⟨h1,h2⟩:=Y2 (T3 hc.name) (T3 hd.name) hr hq (List.append_cancel_left h);exact ⟨by rw [eh hc e,eh hd f,a4C h1],h2⟩
 ·exact absurd h (mix hc hd e f)
 ·exact absurd h.symm (mix hd hc f e)
 unfold Cnd.prt at h;rw [if_neg e,if_neg f] at h
 have g2:c.name.data.toList++(32::(C8 c.op++(32::(c.v.prt++r))))=d.name.data.toList++(32::(C8 d.op++(32::(d.v.prt++q)))):=by
  simpa [List.append_assoc] using h
 obtain ⟨h1,h2⟩:=Y2 (T3 hc.name) (T3 hd.name) (K0 _) (K0 _) g2;obtain ⟨h3,h4⟩:=Y2 (a3X hc.op) (a3X hd.op) (K0 _) (K0 _) (List.cons.inj h2).2
 have cc:c.v.canon=c.v:=by
  have:=en hc e;have:=congrArg Cnd.v this;exact this.symm
 have cd:d.v.canon=d.v:=by
  have:=en hd f;have:=congrArg Cnd.v this;exact this.symm
 obtain ⟨h5,h6⟩:=b0A hc.v hd.v hc.num hd.num cc cd hr hq (List.cons.inj h4).2;refine ⟨?_,h6⟩;have h7:=b2W hc.op hd.op h3;have h8:=a4C h1;clear h h1 h2 h3 h4 g2 cc cd eh en mix e f hc hd;cases c;cases d
 simp only at h5 h7 h8;rw [h5,h7,h8]
theorem a0d (l:List Cnd):a4B (F8 l):=by
 cases l with
 |nil=>exact .inl rfl
 |cons c l=>exact .inr ⟨_,rfl⟩
theorem b0C:∀{l m:List Cnd},(∀c∈l,c.fine)->(∀c∈m,c.fine)->F8 l=F8 m->l=m:=by
 intro l
 induction l with
 |nil=>
  intro m _ _ h
  cases m with
  |nil=>rfl
  |cons d m=>simp [F8] at h
 | cons c l ih=>
  intro m hl hm h
  cases m with
  |nil=>simp [F8] at h
  |cons d m=>
   unfold F8 at h;rw [zz12,zz12] at h;obtain ⟨h1,h2⟩:=a8c (hl c List.mem_cons_self) (hm d List.mem_cons_self) (a0d l) (a0d m) (List.append_cancel_left h);rw [h1,ih (fun x hx=>hl x (List.mem_cons_of_mem _ hx)) (fun x hx=>hm x (List.mem_cons_of_mem _ hx)) h2]
theorem b2X {s t:ByteArray} {l m:List Cnd} (hs:∀c∈s.data.toList,c≠58) (ht:∀c∈t.data.toList,c≠58) (hl:∀c∈l,c.fine) (hm:∀c∈m,c.fine) (h:p9 s l=p9 t m):s=t/\l=m:=by
 have rest:∀(u:ByteArray) (k:List Cnd),p9 u k=u.data.toList++58::X0 k:=fun u k=>by unfold p9;simp
 rw [rest,rest] at h
 have key:∀{x y:List UInt8},(∀c∈x,c≠58)->(x++58::y).takeWhile (· !=58)=x/\(x++58::y).dropWhile (· !=58)=58::y:=by
  intro x y hx;have hx':∀c∈x,(c !=58)=true:=fun c hc=>by rw [bne_iff_ne];exact hx c hc
  rw [List.takeWhile_append_of_pos hx',List.dropWhile_append_of_pos hx'];exact ⟨zz11 _,rfl⟩
 have k1:=key (y:=X0 l) hs;have k2:=key (y:=X0 m) ht;rw [h] at k1;refine ⟨a4C (k1.1.symm.trans k2.1), ?_⟩;have hab:X0 l=X0 m:=(List.cons.inj (k1.2.symm.trans k2.2)).2
 cases l with
 |nil=>
  cases m with
  |nil=>rfl
  |cons d m=>simp [X0] at hab
 | cons c l=>
  cases m with
  |nil=>simp [X0] at hab
  |cons d m=>
   have hab:[32]++c.prt++F8 l=[32]++d.prt++F8 m:=hab;rw [zz12,zz12] at hab;obtain ⟨h1,h2⟩:=a8c (hl c List.mem_cons_self) (hm d List.mem_cons_self) (a0d l) (a0d m) (List.append_cancel_left hab);rw [h1,b0C (fun x hx=>hl x (List.mem_cons_of_mem _ hx)) (fun x hx=>hm x (List.mem_cons_of_mem _ hx)) h2]
end
end Go.Proofs.YtaenebdppkjhoaaGreatDoor
