/- Lemmas. -/
import Derived.Test.YtebhabpahfmodaaGreatDoorZh21
import Derived.Test.YtebhabpahfmodaaGreatDoorZh22
set_option maxHeartbeats 40000000
set_option maxRecDepth 20000
namespace Go.Proofs.YtebhabpahfmodaaGreatDoor
open Go.RowKit
structure PRu where
 kind:Int
 tenant:Int
 who:ByteArray
 broker:Int
 sc:ByteArray
 cs:List Cnd
 name:ByteArray
 at_:Int
def PRu.zero:PRu:=⟨0,0,⟨#[]⟩,0,⟨#[]⟩,[],⟨#[]⟩,0⟩
def PRu.lies (p:PRu) (a:Option Addr) (c:Nat):Ru:=⟨p.kind,p.tenant,p.who,p.broker,p.sc,a,c,p.name,p.at_,p.cs⟩
def PRu.rightB (p:PRu):Bool:=(p.lies none 0).rightB
def D3 (L:List PRu) (i:Int) (v:Nat):Bool:=(L.take v).any fun r=>decide (r.kind=4)&&decide (r.at_=i)
def E8 (L:List PRu):Nat:=(L.filter fun r=>decide (r.kind=0)).length
def a1A (L:List PRu) (tenant:Int) (who:ByteArray):Option Int:=q9 (L.map fun p=>p.lies none 0) tenant who
def a75 (L:List PRu) (p:PRu):Bool:=
 if p.at_<0 then false else match L[p.at_.toNat]? with
 |none=>false
 |some o=> !(decide (o.kind=4))&& !(decide (o.kind=0))&& !D3 L p.at_ L.length
def a1B (L:List PRu) (p:PRu):Int:=
 if p.rightB=false then 1 else if L.length=40 then 6 else
 if p.kind=4 then (if a75 L p then 0 else 3) else
 if p.kind=0 then (if (a1A L p.tenant p.who).isSome then 4 else if E8 L=12 then 6 else 0) else
 if (a1A L p.tenant p.who).isSome then 0 else 3
def PRu.kept (p:PRu):PRu:=if l9 p.sc p.cs then {p with cs:=j4 p.cs} else p
def M5 (L:List PRu) (p:PRu):List PRu:=if a1B L p=0 then L++[p.kept] else L
def atP (L:List PRu) (v:Nat):List PRu:=(L.take v).zipIdx.filterMap fun q=>if decide (q.1.kind=4)||D3 L q.2 v then none else some q.1
theorem a76 {L:List PRu} (h:L.length<=40) (p:PRu):(M5 L p).length<=40:=by
 unfold M5;split
 ·rename_i h1
  have h2:L.length≠40:=fun e=>by
   unfold a1B at h1;by_cases hr:p.rightB=false
   ·rw [if_pos hr] at h1;exact absurd h1 zd
   rw [if_neg hr,if_pos e] at h1;exact absurd h1 zd
  rw [zz4,List.length_singleton];omega
 exact h
def a1C (x:Nat):Int:=if D8 x then -(m7 x:Int) else m7 x
theorem b0g {s t:Bool} {m n i j:Nat}:Ieee.signed s m ((-1074+(i:Int)) - min (-1074+(i:Int)) (-1074+(j:Int))).toNat<Ieee.signed t n ((-1074+(j:Int)) - min (-1074+(i:Int)) (-1074+(j:Int))).toNat↔(if s then -((m<<<i:Nat):Int) else (m<<<i:Nat))<(if t then -((n<<<j:Nat):Int) else (n<<<j:Nat)):=by
 have hi:((-1074+(i:Int)) - min (-1074+(i:Int)) (-1074+(j:Int))).toNat=i - min i j:=zo
 have hj:((-1074+(j:Int)) - min (-1074+(i:Int)) (-1074+(j:Int))).toNat=j - min i j:=zo
 rw [hi,hj];have h1:=a3v m i (min i j) (Nat.min_le_left _ _);have h2:=a3v n j (min i j) (Nat.min_le_right _ _);have hp:0<2^min i j:=Nat.two_pow_pos _;rw [h1,h2];clear h1 h2 hi hj;unfold Ieee.signed
 generalize m<<<(i - min i j)=A
 generalize n<<<(j - min i j)=B
 generalize 2^min i j=P at hp
 have PS:A*P<B*P↔A<B:=⟨fun h=>Nat.lt_of_mul_lt_mul_right h,fun h=>Nat.mul_lt_mul_of_pos_right h hp⟩;have hBA:B*P<A*P↔B<A:=⟨fun h=>Nat.lt_of_mul_lt_mul_right h,fun h=>Nat.mul_lt_mul_of_pos_right h hp⟩
 have Bw:A*P=0↔A=0:=⟨fun h=>by
  rcases Nat.mul_eq_zero.1 h with h|h
  ·exact h
  ·omega,fun h=>by rw [h,Nat.zero_mul]⟩
 have hB0:B*P=0↔B=0:=⟨fun h=>by
  rcases Nat.mul_eq_zero.1 h with h|h
  ·exact h
  ·omega,fun h=>by rw [h,Nat.zero_mul]⟩
 generalize A*P=X at*
 generalize B*P=Y at*
 cases s<;>cases t<;>simp<;>omega
theorem a4W {r s:Nat}:O7 r<O7 s↔r<s:=by
 refine ⟨fun h=> ?_,a12⟩;rcases Nat.lt_trichotomy r s with h1|h1|h1
 ·exact h1
 ·subst h1;omega
 have:=a12 h1;omega
theorem b4k {x y:Nat} (hx:I5 x) (hy:I5 y):fLt x y=true↔a1C x<a1C y:=by
 unfold I5 at hx hy;unfold fLt Ieee.Format.order a1C;rcases Nat.lt_or_eq_of_le hx with h1|h1<;>rcases Nat.lt_or_eq_of_le hy with h2|h2
 ·rw [C2 h1,C2 h2];simp only [Ieee.Datum.order,beq_iff_eq,Option.some.injEq];rw [Int.compare_eq_lt,b0g];show (if D8 x=true then -((O7 (m7 x):Nat):Int) else (O7 (m7 x):Nat))<(if D8 y=true then -((O7 (m7 y):Nat):Int) else (O7 (m7 y):Nat))↔_;have a:=@a4W (m7 x) (m7 y);have b:=@a4W (m7 y) (m7 x);have c:=@a1o (m7 x);have d:=@a1o (m7 y)
  generalize O7 (m7 x)=X at*
  generalize O7 (m7 y)=Y at*
  cases D8 x<;>cases D8 y<;>simp<;>omega
 ·rw [C2 h1,C3 h2];simp only [Ieee.Datum.order,beq_iff_eq,Option.some.injEq];cases D8 x<;>cases D8 y<;>simp<;>omega
 ·rw [C3 h1,C2 h2];simp only [Ieee.Datum.order,beq_iff_eq,Option.some.injEq];cases D8 x<;>cases D8 y<;>simp<;>omega
 rw [C3 h1,C3 h2];simp only [Ieee.Datum.order,beq_iff_eq,Option.some.injEq,h1,h2];cases D8 x<;>cases D8 y<;>decide
theorem Y8 (a b:Int):(sgn (decide (a<b)) (decide (b<a))<0↔a<b)/\(sgn (decide (a<b)) (decide (b<a))=0↔a=b)/\(0<sgn (decide (a<b)) (decide (b<a))↔b<a):=by
 unfold sgn;by_cases h1:a<b
 ·simp [h1];omega
 by_cases h2:b<a
 ·simp [h1,h2];omega
 simp [h1,h2];omega
theorem a4X:∀a b:List UInt8,Lib.compareBytes b a= -Lib.compareBytes a b
 |[],[]=>zd
 |[],b::t=>by simp [Lib.compareBytes]
 |a::s,[]=>by simp [Lib.compareBytes]
 |a::s,b::t=>by
  rw [D6,D6];by_cases h1:a<b
  ·have h2:¬b<a:=fun h=>by
    have h3:a.toNat<b.toNat:=h1;have h4:b.toNat<a.toNat:=h;omega
   rw [if_pos h1,if_neg h2,if_pos h1];rfl
  by_cases h2:b<a
  ·rw [if_pos h2,if_neg h1,if_pos h2]
  rw [if_neg h2,if_neg h1,if_neg h1,if_neg h2,a4X s t]
theorem a3T:∀a b c:List UInt8,Lib.compareBytes a b<=0->Lib.compareBytes b c<=0->Lib.compareBytes a c<=0
 |[],_,[]=>by intros;decide
 |[],_,c::u=>by intros;simp [Lib.compareBytes]
 |a::s,[],_=>by intro h;simp [Lib.compareBytes] at h
 |a::s,b::t,[]=>by intro _ h;simp [Lib.compareBytes] at h
 | a ::s,b::t,c::u=>by
  rw [D6,D6,D6];intro h1 h2;by_cases x1:a<b
  ·have y1:a.toNat<b.toNat:=x1
   have y2:¬c.toNat<b.toNat:=fun h=>by
    have z:c<b:=h;have z2:¬b<c:=fun h'=>by have:b.toNat<c.toNat:=h';omega
    rw [if_neg z2,if_pos z] at h2;omega
   have y3:a<c:=by show a.toNat<c.toNat;omega
   rw [if_pos y3];omega
  rw [if_neg x1] at h1;by_cases x2:b<a
  ·rw [if_pos x2] at h1;omega
  rw [if_neg x2] at h1
  have hab:a=b:=by
   have h2:¬a.toNat<b.toNat:=x1;have h3:¬b.toNat<a.toNat:=x2;exact UInt8.toNat.inj zo
  subst hab;by_cases x3:a<c
  ·rw [if_pos x3];omega
  rw [if_neg x3] at h2⊢;by_cases x4:c<a
  ·rw [if_pos x4] at h2;omega
  rw [if_neg x4] at h2⊢;exact a3T s t u h1 h2
theorem J5 {x y:Nat} (hx:I5 x) (hy:I5 y):fLt x y=decide (a1C x<a1C y):=by
 rw [Bool.eq_iff_iff,decide_eq_true_eq];exact b4k hx hy
theorem U8 {a:V} (h:a.void=false) (hk:a.kind=1):I5 a.num:=by
 unfold V.void at h;rw [hk] at h;simp only [beq_self_eq_true,Bool.true_and,Bool.not_eq_false'] at h;exact C9.1 h
theorem a3U (a b:Bool):sgn (!a&&b) (a&& !b)=sgn (decide ((if a then 1 else 0:Int)<if b then 1 else 0)) (decide ((if b then 1 else 0:Int)<if a then 1 else 0)):=by
 cases a<;>cases b<;>rfl
theorem a1D {a b:V} (hk:a.kind=b.kind) (ha:a.void=false) (hb:b.void=false):V.cmp b a= -V.cmp a b:=by
 have si:∀x y:Int,sgn (decide (y<x)) (decide (x<y))= -sgn (decide (x<y)) (decide (y<x)):=by
  intro x y;have h1:=Y8 x y;have h2:=Y8 y x;unfold sgn at*;by_cases c:x<y<;>by_cases d:y<x<;>simp [c,d]<;>omega
 unfold V.cmp;rw [<-hk];split
 ·exact si _ _
 split
 ·rename_i h1
  rw [J5 (U8 ha h1) (U8 hb (hk▸h1)),J5 (U8 hb (hk▸h1)) (U8 ha h1)];exact si _ _
 split
 ·exact a4X _ _
 rw [a3U,a3U];exact si _ _
theorem R8 {a b c:V} (hk:a.kind=b.kind) (hl:b.kind=c.kind) (ha:a.void=false) (hb:b.void=false) (hc:c.void=false) (h1:V.cmp a b<=0) (h2:V.cmp b c<=0):V.cmp a c<=0:=by
 have si:∀x y z:Int,sgn (decide (x<y)) (decide (y<x))<=0->sgn (decide (y<z)) (decide (z<y))<=0->sgn (decide (x<z)) (decide (z<x))<=0:=by
  intro x y z g h;have g1:=Y8 x y;have g2:=Y8 y z;have g3:=Y8 x z;omega
 unfold V.cmp at h1 h2⊢;rw [<-hk] at h2;split at h1
 ·rename_i k0
  rw [if_pos k0] at h2⊢;exact si _ _ _ h1 h2
 rename_i k0
 rw [if_neg k0] at h2⊢;split at h1
 ·rename_i k1
  rw [if_pos k1] at h2⊢;have na:=U8 ha k1;have nb:=U8 hb (hk▸k1);have nc:=U8 hc (hl▸hk▸k1);rw [J5 na nb,J5 nb na] at h1;rw [J5 nb nc,J5 nc nb] at h2;rw [J5 na nc,J5 nc na];exact si _ _ _ h1 h2
 rename_i k1
 rw [if_neg k1] at h2⊢;split at h1
 ·rename_i k2
  rw [if_pos k2] at h2⊢;exact a3T _ _ _ h1 h2
 rename_i k2
 rw [if_neg k2] at h2⊢;rw [a3U] at h1 h2⊢;exact si _ _ _ h1 h2
structure Tri (a b c:V):Prop where
 kab:a.kind=b.kind
 kbc:b.kind=c.kind
 va:a.void=false
 vb:b.void=false
 vc:c.void=false
theorem Tri.facts {a b c:V} (h:Tri a b c):(V.cmp a b<=0->V.cmp b c<=0->V.cmp a c<=0)/\(V.cmp a b<0->V.cmp b c<=0->V.cmp a c<0)/\(V.cmp a b<=0->V.cmp b c<0->V.cmp a c<0)/\
 (0<=V.cmp a b->0<=V.cmp b c->0<=V.cmp a c)/\(0<V.cmp a b->0<=V.cmp b c->0<V.cmp a c)/\(0<=V.cmp a b->0<V.cmp b c->0<V.cmp a c):=by
 have kac:=h.kab.trans h.kbc;have ab:=a1D h.kab h.va h.vb;have bc:=a1D h.kbc h.vb h.vc;have ac:=a1D kac h.va h.vc;have t1:=@R8 a b c h.kab h.kbc h.va h.vb h.vc;have t2:=@R8 c b a h.kbc.symm h.kab.symm h.vc h.vb h.va;have t3:=@R8 b c a h.kbc kac.symm h.vb h.vc h.va;have t4:=@R8 c a b kac.symm h.kab h.vc h.va h.vb;have t5:=@R8 b a c h.kab.symm kac h.vb h.va h.vc;have t6:=@R8 a c b kac h.kbc.symm h.va h.vc h.vb;omega
theorem Tri.rank {a b c:V} (h:Tri a b c):∃p q r:Int,((V.cmp a b<0/\p<q)\/(V.cmp a b=0/\p=q)\/(0<V.cmp a b/\q<p))/\((V.cmp b c<0/\q<r)\/(V.cmp b c=0/\q=r)\/(0<V.cmp b c/\r<q))/\((V.cmp a c<0/\p<r)\/(V.cmp a c=0/\p=r)\/(0<V.cmp a c/\r<p)):=by
 have tf:=h.facts;rcases Int.lt_trichotomy (V.cmp a b) 0 with h1|h1|h1<;>rcases Int.lt_trichotomy (V.cmp b c) 0 with h2|h2|h2<;>rcases Int.lt_trichotomy (V.cmp a c) 0 with h3|h3|h3
 ·exact ⟨0,1,2,zo,zo,zo⟩
 ·exfalso;omega
 ·exfalso;omega
 ·exact ⟨0,1,1,zo,zo,zo⟩
 ·exfalso;omega
 ·exfalso;omega
 ·exact ⟨0,2,1,zo,zo,zo⟩
 ·exact ⟨0,1,0,zo,zo,zo⟩
 ·exact ⟨1,2,0,zo,zo,zo⟩
 ·exact ⟨0,0,1,zo,zo,zo⟩
 ·exfalso;omega
 ·exfalso;omega
 ·exfalso;omega
 ·exact ⟨0,0,0,zo,zo,zo⟩
 ·exfalso;omega
 ·exfalso;omega
 ·exfalso;omega
 ·exact ⟨1,1,0,zo,zo,zo⟩
 ·exact ⟨1,0,2,zo,zo,zo⟩
 ·exact ⟨1,0,1,zo,zo,zo⟩
 ·exact ⟨2,0,1,zo,zo,zo⟩
 ·exfalso;omega
 ·exfalso;omega
 ·exact ⟨1,0,0,zo,zo,zo⟩
 ·exfalso;omega
 ·exfalso;omega
 exact ⟨2,1,0,zo,zo,zo⟩
theorem Y9 {a b:V} (hk:a.kind=b.kind) (ha:a.void=false) (hb:b.void=false):q7 a b=(V.cmp a b,true):=by
 unfold q7 V.alike;rw [if_pos (by simp [hk,ha,hb])]
theorem a3o {a b:V} (h:¬(a.kind=b.kind/\a.void=false/\b.void=false)):q7 a b=(0,false):=by
 unfold q7 V.alike;rw [if_neg];intro g;simp only [Bool.and_eq_true,beq_iff_eq,Bool.not_eq_true'] at g;exact h ⟨g.1,g.2.1,g.2.2⟩
theorem a3V {a b:V} (hk:a.kind=2) (h:V.cmp a b=0):a.text=b.text:=by
 unfold V.cmp at h;rw [if_neg zo,if_neg zo,if_pos hk] at h;exact ByteArray.ext (Array.toList_inj.1 ((T5 _ _).1 h))
theorem b0h {a b:V} (ha:a.num<2^64) (hb:b.num<2^64) (h:V.same a b=true) (va:a.void=false) (vb:b.void=false):a.kind=b.kind/\V.cmp a b=0:=by
 unfold V.same at h;rw [Bool.and_eq_true,beq_iff_eq] at h;obtain ⟨hk,h⟩:=h;refine ⟨hk, ?_⟩;unfold V.cmp;split at h
 ·rename_i k0
  rw [if_pos k0];exact (Y8 _ _).2.1.2 (by simpa using h)
 rename_i k0
 rw [if_neg k0];split at h
 ·rename_i k1
  rw [if_pos k1];have na:=U8 va k1;have nb:=U8 vb (hk▸k1)
  have he:fEq a.num b.num=true:=by
   rw [<-a9a ha hb (C9.2 na) (C9.2 nb)];exact h
  rw [b3F (C9.2 na) (C9.2 nb),Bool.and_eq_true,Bool.not_eq_true',Bool.not_eq_true'] at he;rw [he.1,he.2];rfl
 rename_i k1
 rw [if_neg k1];split at h
 ·rename_i k2
  rw [if_pos k2]
  exact (T5 _ _).2 (by
   have h':a.text.toList=b.text.toList:=by simpa using h
   rwa [ByteArray.toList_eq,ByteArray.toList_eq] at h')
 rename_i k2
 rw [if_neg k2];have:a.yes=b.yes:=by simpa using h
 rw [this];cases b.yes<;>rfl
theorem same_cmp {a b:V} (ha:a.num<2^64) (hb:b.num<2^64) (hk:a.kind=b.kind) (va:a.void=false) (vb:b.void=false) (h:V.cmp a b=0):V.same a b=true:=by
 unfold V.same;rw [Bool.and_eq_true,beq_iff_eq];refine ⟨hk, ?_⟩;unfold V.cmp at h;split at h
 ·rename_i k0
  rw [if_pos k0];simpa using (Y8 _ _).2.1.1 h
 rename_i k0
 rw [if_neg k0];split at h
 ·rename_i k1
  rw [if_pos k1];have na:=U8 va k1;have nb:=U8 vb (hk▸k1);rw [a9a ha hb (C9.2 na) (C9.2 nb),b3F (C9.2 na) (C9.2 nb)];unfold sgn at h;cases h1:fLt a.num b.num<;>cases h2:fLt b.num a.num<;>rw [h1,h2] at h<;>first|rfl|(exfalso;revert h;decide)
 rename_i k1
 rw [if_neg k1];split at h
 ·rename_i k2
  rw [if_pos k2];have:=(T5 _ _).1 h;have e:a.text=b.text:=ByteArray.ext (Array.toList_inj.1 this);rw [e];simp
 rename_i k2
 rw [if_neg k2];cases h1:a.yes<;>cases h2:b.yes<;>rw [h1,h2] at h<;>first|rfl|(exfalso;revert h;decide)
theorem a4Y {s p:ByteArray}:C4 s p=true↔p.data.toList<+:s.data.toList:=List.isPrefixOf_iff_prefix
theorem a0v {a b c:ByteArray} (h:C4 a b=true) (k:C4 b c=true):C4 a c=true:=by
 rw [a4Y] at*;exact k.trans h
theorem a77 (a:ByteArray):C4 a a=true:=a4Y.2 (List.prefix_refl _)
theorem R9 (c:Cnd) (v:V) (ho:0<=c.op/\c.op<=7):c.holds v=true↔c.op=7\/((v.kind=c.v.kind/\v.void=false/\c.v.void=false)/\
 ((c.op=6/\v.kind=2/\C4 v.text c.v.text=true)\/(c.op=0/\V.cmp v c.v=0)\/(c.op=1/\V.cmp v c.v≠0)\/(c.op=2/\V.cmp v c.v<0)\/(c.op=3/\V.cmp v c.v<=0)\/(c.op=4/\0<V.cmp v c.v)\/(c.op=5/\0<=V.cmp v c.v))):=by
 by_cases hal:v.kind=c.v.kind/\v.void=false/\c.v.void=false
 ·unfold Cnd.holds;rw [Y9 hal.1 hal.2.1 hal.2.2];simp only [Bool.true_and];have:c.op=0\/c.op=1\/c.op=2\/c.op=3\/c.op=4\/c.op=5\/c.op=6\/c.op=7:=zo
  rcases this with e|e|e|e|e|e|e|e<;>rw [e]<;>simp [hal]
 unfold Cnd.holds;rw [a3o hal];simp only [Bool.false_and];by_cases h7:c.op=7
 ·simp [h7]
 simp only [h7,if_false,false_or];constructor
 ·intro h
  repeat' split at h
  all_goals cases h
 rintro ⟨h, -⟩;exact absurd h hal
theorem W7 (c:Cnd):c.voidB=true↔(c.op≠7/\c.v.void=true)\/(c.op=6/\c.v.kind≠2):=by
 unfold Cnd.voidB;rw [Bool.or_eq_true,Bool.and_eq_true,Bool.and_eq_true,bne_iff_ne,beq_iff_eq,bne_iff_ne]
theorem a78 {c:Cnd} {v:V} (ho:0<=c.op/\c.op<=7) (h:c.voidB=true):c.holds v=false:=by
 rw [Bool.eq_false_iff];intro g;rw [R9 c v ho] at g;rw [W7] at h;rcases h with ⟨h1,h2⟩|⟨h1,h2⟩
 ·rcases g with g|⟨⟨-, -,g⟩, -⟩
  ·exact h1 g
  rw [h2] at g;cases g
 rcases g with g|⟨⟨g1, -, -⟩,g⟩
 ·omega
 rcases g with ⟨-,g, -⟩|⟨g, -⟩|⟨g, -⟩|⟨g, -⟩|⟨g, -⟩|⟨g, -⟩|⟨g, -⟩<;>omega
structure Cnd.live (c:Cnd):Prop where
 op:0<=c.op/\c.op<=6
 v:c.v.void=false
 six:c.op=6->c.v.kind=2
theorem a5B {c:Cnd} (ho:0<=c.op/\c.op<=7) (h7:c.op≠7) (hv:c.voidB=false):c.live:=by
 have h:¬(c.op≠7/\c.v.void=true\/c.op=6/\c.v.kind≠2):=fun g=>by rw [<-W7,hv] at g;cases g
 rw [not_or] at h;refine ⟨zo, ?_,fun h6=> ?_⟩
 ·rw [Bool.eq_false_iff];exact fun g=>h.1 ⟨h7,g⟩
 by_cases hk:c.v.kind=2
 ·exact hk
 exact absurd ⟨h6,hk⟩ h.2
def a5C (a b:Cnd):Prop:=
 (a.op=0/\b.holds a.v=true)\/(a.op=1/\b.op=1/\V.cmp a.v b.v=0)\/(a.op=6/\((b.op=6/\C4 a.v.text b.v.text=true)\/(b.op=1/\C4 b.v.text a.v.text=false)))\/
 (a.op=2/\(((b.op=2\/b.op=3)/\V.cmp a.v b.v<=0)\/(b.op=1/\V.cmp a.v b.v<=0)))\/
 (a.op=3/\(((b.op=2/\V.cmp a.v b.v<0)\/(b.op=3/\V.cmp a.v b.v<=0))\/(b.op=1/\V.cmp a.v b.v<0)))\/
 (a.op=4/\(((b.op=4\/b.op=5)/\0<=V.cmp a.v b.v)\/(b.op=1/\0<=V.cmp a.v b.v)))\/
 (a.op=5/\(((b.op=4/\0<V.cmp a.v b.v)\/(b.op=5/\0<=V.cmp a.v b.v))\/(b.op=1/\0<V.cmp a.v b.v)))
theorem a0N (a b:Cnd) (ha:0<=a.op/\a.op<=7) (hb:0<=b.op/\b.op<=7) (na:a.v.num<2^64) (nb:b.v.num<2^64):
 J6 a b=true↔a.name=b.name/\(a.voidB=true\/b.op=7\/(a.live/\b.live/\a.v.kind=b.v.kind/\a5C a b)):=by
 unfold J6
 have hname:(a.name.toList==b.name.toList)=true↔a.name=b.name:=by
  rw [beq_iff_eq];constructor
  ·intro h;exact ByteArray.ext (Array.toList_inj.1 (by rwa [ByteArray.toList_eq,ByteArray.toList_eq] at h))
  intro h;rw [h]
 by_cases hn:a.name=b.name
 ·rw [if_pos (hname.2 hn)];simp only [hn,true_and];by_cases h1:a.voidB=true
  ·simp [h1]
  have h1':a.voidB=false:=by simpa using h1
  by_cases h2:b.op=7
  ·simp [h2]
  rw [if_neg (by simp [h1',h2])];simp only [h1',h2,Bool.false_eq_true,false_or];by_cases h3:a.op=7
  ·rw [if_pos (by simp [h3])];constructor
   ·intro h;cases h
   rintro ⟨h, -⟩;have:=h.op;omega
  by_cases h4:b.voidB=true
  ·rw [if_pos (by simp [h4])];constructor
   ·intro h;cases h
   rintro ⟨-,h, -⟩;rw [W7] at h4;rcases h4 with ⟨-,h4⟩|⟨h4,h5⟩
   ·rw [h.v] at h4;cases h4
   exact absurd (h.six h4) h5
  have h4':b.voidB=false:=by simpa using h4
  by_cases h5:a.v.kind=b.v.kind
  ·have la:=a5B ha h3 h1';have lb:=a5B hb h2 h4';rw [if_neg (by simp [h3,h4',h5])];simp only [la,lb,h5,true_and];rw [Y9 h5 la.v lb.v];have hsame:V.same a.v b.v=true↔V.cmp a.v b.v=0:=⟨fun h=>(b0h na nb h la.v lb.v).2,same_cmp na nb h5 la.v lb.v⟩;unfold a5C;have ho:=la.op;have:a.op=0\/a.op=1\/a.op=2\/a.op=3\/a.op=4\/a.op=5\/a.op=6:=zo
   have hbo:=lb.op;have hb6:b.op=0\/b.op=1\/b.op=2\/b.op=3\/b.op=4\/b.op=5\/b.op=6:=zo
   rcases this with e|e|e|e|e|e|e<;>rw [e]
   ·simp
   ·simp [hsame]
   ·rcases hb6 with f|f|f|f|f|f|f<;>rw [f]<;>simp [a3C,a6m,f,e]<;>omega
   ·rcases hb6 with f|f|f|f|f|f|f<;>rw [f]<;>simp [a3C,a6m,f,e]<;>omega
   ·rcases hb6 with f|f|f|f|f|f|f<;>rw [f]<;>simp [a3C,a7K,a6n,f,e]<;>omega
   ·rcases hb6 with f|f|f|f|f|f|f<;>rw [f]<;>simp [a3C,a7K,a6n,f,e]<;>omega
   simp
  rw [if_pos (by simp [h5])];simp [h5]
 have:¬(a.name.toList==b.name.toList)=true:=fun h=>hn (hname.1 h);rw [if_neg this];simp [hn]
theorem a3W {a b:Cnd} {v:V} (la:a.live) (lb:b.live) (hk:a.v.kind=b.v.kind) (h:a5C a b) (hv:a.holds v=true):b.holds v=true:=by
 have oa:=la.op;have ob:=lb.op;rw [R9 a v zo] at hv;rcases hv with hv|⟨⟨k1,v1,v2⟩,hv⟩
 ·omega
 have kv:v.kind=b.v.kind:=k1.trans hk;obtain ⟨p,q,r,t1,t2,t3⟩:=(Tri.mk k1 hk v1 la.v lb.v).rank;rw [R9 b v zo];refine .inr ⟨⟨kv,v1,lb.v⟩, ?_⟩;unfold a5C at h;rcases h with ⟨e,h⟩|⟨e,f,h⟩|⟨e,h⟩|⟨e,h⟩|⟨e,h⟩|⟨e,h⟩|⟨e,h⟩
 ·rw [R9 b a.v zo] at h;have hz:V.cmp v a.v=0:=zo
  rcases h with h|⟨-,h⟩
  ·omega
  rcases h with ⟨f,g,h⟩|⟨f,h⟩|⟨f,h⟩|⟨f,h⟩|⟨f,h⟩|⟨f,h⟩|⟨f,h⟩
  ·refine .inl ⟨f,zo, ?_⟩;rw [a3V zo hz];exact h
  all_goals omega
 ·omega
 ·have hp:C4 v.text a.v.text=true:=by
   rcases hv with ⟨-, -,hv⟩|⟨hv, -⟩|⟨hv, -⟩|⟨hv, -⟩|⟨hv, -⟩|⟨hv, -⟩|⟨hv, -⟩
   ·exact hv
   all_goals omega
  have k2:=la.six e;rcases h with ⟨f,h⟩|⟨f,h⟩
  ·exact .inl ⟨f,zo,a0v hp h⟩
  refine .inr (.inr (.inl ⟨f,fun hz=> ?_⟩));have:=a3V zo hz;rw [this] at hp;rw [hp] at h;cases h
 all_goals omega
theorem b0i {a b:Cnd} {v:V} (ha:0<=a.op/\a.op<=7) (hb:0<=b.op/\b.op<=7) (na:a.v.num<2^64) (nb:b.v.num<2^64) (h:J6 a b=true) (hv:a.holds v=true):b.holds v=true:=by
 rw [a0N a b ha hb na nb] at h;obtain ⟨-,h|h|⟨la,lb,hk,h⟩⟩:=h
 ·rw [a78 ha h] at hv;cases hv
 ·exact (R9 b v hb).2 (.inl h)
 exact a3W la lb hk h hv
theorem b0j {a:Cnd} (la:a.live):a5C a a:=by
 have ho:=la.op
 have hz:V.cmp a.v a.v=0:=by
  have:=a1D rfl la.v la.v;omega
 unfold a5C;have:a.op=0\/a.op=1\/a.op=2\/a.op=3\/a.op=4\/a.op=5\/a.op=6:=zo
 rcases this with e|e|e|e|e|e|e
 ·refine .inl ⟨e, ?_⟩;rw [R9 a a.v zo];exact .inr ⟨⟨rfl,la.v,la.v⟩,.inr (.inl ⟨e,hz⟩)⟩
 ·omega
 ·omega
 ·omega
 ·omega
 ·omega
 exact .inr (.inr (.inl ⟨e,.inl ⟨e,a77 _⟩⟩))
theorem a6B {a:Cnd} (ha:0<=a.op/\a.op<=7) (na:a.v.num<2^64):J6 a a=true:=by
 rw [a0N a a ha ha na na];refine ⟨rfl, ?_⟩;by_cases hv:a.voidB=true
 ·exact .inl hv
 by_cases h7:a.op=7
 ·exact .inr (.inl h7)
 have la:=a5B ha h7 (by simpa using hv);exact .inr (.inr ⟨la,la,rfl,b0j la⟩)
theorem a79 {a b c:Cnd} (la:a.live) (lb:b.live) (lc:c.live) (hab:a.v.kind=b.v.kind) (hbc:b.v.kind=c.v.kind) (h:a5C a b) (k:a5C b c):a5C a c:=by
 obtain ⟨p,q,r,t1,t2,t3⟩:=(Tri.mk hab hbc la.v lb.v lc.v).rank;have oa:=la.op;have ob:=lb.op;have oc:=lc.op;by_cases e0:a.op=0
 ·refine .inl ⟨e0,a3W lb lc hbc k ?_⟩;rcases h with ⟨-,h⟩|⟨e, -⟩|⟨e, -⟩|⟨e, -⟩|⟨e, -⟩|⟨e, -⟩|⟨e, -⟩
  ·exact h
  all_goals omega
 by_cases e6:a.op=6
 ·have ka:=la.six e6;refine .inr (.inr (.inl ⟨e6, ?_⟩));rcases h with ⟨e, -⟩|⟨e, -⟩|⟨-,h⟩|⟨e, -⟩|⟨e, -⟩|⟨e, -⟩|⟨e, -⟩
  ·omega
  ·omega
  ·rcases h with ⟨f,h⟩|⟨f,h⟩
   ·rcases k with ⟨e, -⟩|⟨e, -⟩|⟨-,k⟩|⟨e, -⟩|⟨e, -⟩|⟨e, -⟩|⟨e, -⟩
    ·omega
    ·omega
    ·rcases k with ⟨g,k⟩|⟨g,k⟩
     ·exact .inl ⟨g,a0v h k⟩
     refine .inr ⟨g, ?_⟩;rw [Bool.eq_false_iff];intro hp;rw [a0v hp h] at k;cases k
    all_goals omega
   rcases k with ⟨e, -⟩|⟨-,g,k⟩|⟨e, -⟩|⟨e, -⟩|⟨e, -⟩|⟨e, -⟩|⟨e, -⟩
   ·omega
   ·refine .inr ⟨g, ?_⟩;rw [<-a3V zo k];exact h
   all_goals omega
  all_goals omega
 rcases h with ⟨e, -⟩|h|⟨e, -⟩|h|h|h|h
 ·omega
 ·rcases k with ⟨f, -⟩|k|⟨f, -⟩|k|k|k|k
  ·omega
  ·exact .inr (.inl zo)
  all_goals omega
 ·omega
 ·obtain ⟨e,h⟩:=h;refine .inr (.inr (.inr (.inl ⟨e, ?_⟩)));rcases k with ⟨f, -⟩|⟨f,k⟩|⟨f, -⟩|⟨f,k⟩|⟨f,k⟩|⟨f,k⟩|⟨f,k⟩<;>omega
 ·obtain ⟨e,h⟩:=h;refine .inr (.inr (.inr (.inr (.inl ⟨e, ?_⟩))));rcases k with ⟨f, -⟩|⟨f,k⟩|⟨f, -⟩|⟨f,k⟩|⟨f,k⟩|⟨f,k⟩|⟨f,k⟩<;>omega
 ·obtain ⟨e,h⟩:=h;refine .inr (.inr (.inr (.inr (.inr (.inl ⟨e, ?_⟩)))));rcases k with ⟨f, -⟩|⟨f,k⟩|⟨f, -⟩|⟨f,k⟩|⟨f,k⟩|⟨f,k⟩|⟨f,k⟩<;>omega
 obtain ⟨e,h⟩:=h;refine .inr (.inr (.inr (.inr (.inr (.inr ⟨e, ?_⟩)))));rcases k with ⟨f, -⟩|⟨f,k⟩|⟨f, -⟩|⟨f,k⟩|⟨f,k⟩|⟨f,k⟩|⟨f,k⟩<;>omega
theorem a0O {a b c:Cnd} (ha:0<=a.op/\a.op<=7) (hb:0<=b.op/\b.op<=7) (hc:0<=c.op/\c.op<=7) (na:a.v.num<2^64) (nb:b.v.num<2^64) (nc:c.v.num<2^64) (h:J6 a b=true) (k:J6 b c=true):J6 a c=true:=by
 rw [a0N _ _ ha hb na nb] at h;rw [a0N _ _ hb hc nb nc] at k;rw [a0N _ _ ha hc na nc];obtain ⟨h0,h⟩:=h;obtain ⟨k0,k⟩:=k;refine ⟨h0.trans k0, ?_⟩;rcases h with h|h|⟨la,lb,hk,h⟩
 ·exact .inl h
 ·rcases k with k|k|⟨lb, -⟩
  ·rw [W7] at k;omega
  ·exact .inr (.inl k)
  have:=lb.op;omega
 rcases k with k|k|⟨-,lc,hl,k⟩
 ·rw [W7] at k;rcases k with ⟨-,k⟩|⟨k1,k2⟩
  ·rw [lb.v] at k;cases k
  exact absurd (lb.six k1) k2
 ·exact .inr (.inl k)
 exact .inr (.inr ⟨la,lc,hk.trans hl,a79 la lb lc hk hl h k⟩)
def a4D (l:List Cnd):Prop:=∀c∈l,(0<=c.op/\c.op<=7)/\c.v.num<2^64
def b6Z (fs:ByteArray) (f:List Cnd) (gs:ByteArray) (g:List Cnd):Bool:=g.any Cnd.voidB||(f.all (fun c=>g.any fun d=>J6 d c)&&m8 gs fs)
end Go.Proofs.YtebhabpahfmodaaGreatDoor
