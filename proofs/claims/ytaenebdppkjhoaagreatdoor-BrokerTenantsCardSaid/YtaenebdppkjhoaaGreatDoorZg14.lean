/- Lemmas. -/
import Derived.Test.YtaenebdppkjhoaaGreatDoorZg6
namespace Go.Proofs.YtaenebdppkjhoaaGreatDoor
set_option maxRecDepth 20000
set_option maxHeartbeats 40000000
section
theorem Cut.up1 {T Q u b:Nat} (hu:u=(if b=1 then 2*(T / Q / 2)+1 else T / Q)) (n:Nat) (h:T<(4*n+1)*Q):u<=4*n+1:=by
 have h2:T / Q<4*n+1:=Nat.div_lt_of_lt_mul (by rw [Nat.mul_comm];exact h);rw [hu];split<;>omega
structure b5e (T Q u:Nat):Prop extends Cut T Q u where
 up1:∀n,T<(4*n+1)*Q->u<=4*n+1
theorem a72 (x hi lo s:Nat) (hx:x<W64) (hlo:lo<W64) (hh:x<=x*hi):b5e (tsc x hi lo) (W64*2^s) (usc x hi lo s):=by
 obtain ⟨b,h1,h2,h3⟩:=b4o x hi lo s hx hlo hh
 have hQ:4<W64*2^s:=by
  have:=Nat.two_pow_pos s;have:W64*1<=W64*2^s:=Nat.mul_le_mul_left _ this;have:W64=18446744073709551616:=rfl;omega
 exact {toCut:=b4p hQ h1 h2 h3,up1:=Cut.up1 h1}
theorem b4s {T1 T2 Tm Q u1 u2 um odd:Nat} (h1:Cut T1 Q u1) (h2:Cut T2 Q u2) (hc:b5e Tm Q um) (hQ:4<Q) (ho:odd<=1) (hlo:T1+T2<=2*Tm+2) (hhi:2*Tm<=T1+T2+2)
 (hlt:(u1+odd+3) / 4<(u2 - odd) / 4):(u1+odd+3) / 4<=rnd um/\rnd um<=(u2 - odd) / 4:=by
 obtain ⟨n0,hn0⟩:∃n,(u1+odd+3) / 4=n:=⟨_,rfl⟩;obtain ⟨n1,hn1⟩:∃n,(u2 - odd) / 4=n:=⟨_,rfl⟩;rw [hn0,hn1] at hlt⊢;have e (a b:Nat) (h:a<=b):4*a*Q<=4*b*Q:=Nat.mul_le_mul_right _ (by omega)
 have a1:T1<=4*n0*Q+1:=by
  rcases Nat.lt_or_ge T1 (4*n0*Q+2) with h|h
  ·omega
  have:=h1.lo1 n0 h;omega
 have a2:4*n1*Q<=T2:=by
  rcases Nat.lt_or_ge T2 (4*n1*Q) with h|h
  ·have:=h2.up n1 h;omega
  exact h
 have a3:4*(n0 - 1)*Q<=T1:=by
  rcases Nat.eq_zero_or_pos (n0 - 1) with h0|h0
  ·rw [h0];omega
  rcases Nat.lt_or_ge T1 (4*(n0 - 1)*Q) with h|h
  ·have:=h1.up (n0 - 1) h;omega
  exact h
 have a4:T2<=4*(n1+1)*Q+1:=by
  rcases Nat.lt_or_ge T2 (4*(n1+1)*Q+2) with h|h
  ·omega
  have:=h2.lo1 (n1+1) h;omega
 have b1:4*(n1+1)*Q=4*n1*Q+4*Q:=by rw [Nat.mul_add,Nat.add_mul]
 have b2:4*(n0+1)*Q=4*n0*Q+4*Q:=by rw [Nat.mul_add,Nat.add_mul]
 have b3:=e (n0+1) n1 (by omega);constructor
 ·have hT:4*n0*Q<=Tm+1:=by
   rcases Nat.eq_zero_or_pos n0 with h0|h0
   ·rw [h0];omega
   have b4:4*n0*Q=4*(n0 - 1)*Q+4*Q:=by
    obtain ⟨k,rfl⟩:∃k,n0=k+1:=⟨n0 - 1,by omega⟩;rw [Nat.add_sub_cancel,Nat.mul_add,Nat.add_mul]
   omega
  have:=hc.half n0 hT;unfold rnd;omega
 have hT:Tm<=4*n1*Q+2:=by omega
 have:=hc.up1 n1 (by rw [Nat.add_mul];omega);unfold rnd;omega
theorem b2F (m h hi lo:Nat) (hhm:h<=m) (hi1:1<=hi) (hlo:lo<W64):tsc (m - h) hi lo+tsc (m+h) hi lo<=2*tsc m hi lo+2/\2*tsc m hi lo<=tsc (m - h) hi lo+tsc (m+h) hi lo+2:=by
 unfold tsc;obtain ⟨a,rfl⟩:∃a,m=a+h:=⟨m - h,by omega⟩;rw [Nat.add_sub_cancel];have hW:0<W64:=by decide
 have key:∀x,x*lo / W64<=x*hi:=fun x=>Nat.le_trans (Nat.div_le_of_le_mul (by rw [Nat.mul_comm W64];exact Nat.mul_le_mul_left _ (Nat.le_of_lt hlo))) (Nat.le_mul_of_pos_right _ hi1);have k1:=key a;have k2:=key (a+h);have k3:=key (a+h+h);have m1:=Nat.div_add_mod (a*lo) W64;have m2:=Nat.div_add_mod ((a+h)*lo) W64;have m3:=Nat.div_add_mod ((a+h+h)*lo) W64;have l1:=Nat.mod_lt (a*lo) hW;have l2:=Nat.mod_lt ((a+h)*lo) hW;have l3:=Nat.mod_lt ((a+h+h)*lo) hW;have W:W64=18446744073709551616:=rfl;rw [W] at m1 m2 m3 l1 l2 l3 k1 k2 k3⊢;have e1:(a+h)*lo=a*lo+h*lo:=Nat.add_mul ..;have e2:(a+h+h)*lo=a*lo+h*lo+h*lo:=by rw [Nat.add_mul,Nat.add_mul]
 have e3:(a+h)*hi=a*hi+h*hi:=Nat.add_mul ..;have e4:(a+h+h)*hi=a*hi+h*hi+h*hi:=by rw [Nat.add_mul,Nat.add_mul]
 rw [e1] at m2 l2 k2⊢;rw [e2] at m3 l3 k3⊢;rw [e3] at k2⊢;rw [e4] at k3⊢
 generalize a*lo=A at*
 generalize h*lo=B at*
 generalize a*hi=C at*
 generalize h*hi=D at*
 omega
theorem b0d (m h hi lo:Nat) (hhm:h<=m) (hi1:1<=hi) (hlo:lo<W64) (Q:Nat) (hw:(h+h)*lo / W64+4*Q+3<=(h+h)*hi):tsc (m - h) hi lo+4*Q+2<=tsc (m+h) hi lo:=by
 unfold tsc;obtain ⟨a,rfl⟩:∃a,m=a+h:=⟨m - h,by omega⟩;rw [Nat.add_sub_cancel];have hW:0<W64:=by decide
 have key:∀x,x*lo / W64<=x*hi:=fun x=>Nat.le_trans (Nat.div_le_of_le_mul (by rw [Nat.mul_comm W64];exact Nat.mul_le_mul_left _ (Nat.le_of_lt hlo))) (Nat.le_mul_of_pos_right _ hi1);have k1:=key a;have k3:=key (a+h+h);have m1:=Nat.div_add_mod (a*lo) W64;have m2:=Nat.div_add_mod ((h+h)*lo) W64;have m3:=Nat.div_add_mod ((a+h+h)*lo) W64;have l1:=Nat.mod_lt (a*lo) hW;have l2:=Nat.mod_lt ((h+h)*lo) hW;have l3:=Nat.mod_lt ((a+h+h)*lo) hW;have W:W64=18446744073709551616:=rfl;rw [W] at m1 m2 m3 l1 l2 l3 k1 k3 hw⊢;have e1:(h+h)*lo=h*lo+h*lo:=Nat.add_mul ..;have e2:(a+h+h)*lo=a*lo+h*lo+h*lo:=by rw [Nat.add_mul,Nat.add_mul]
 have e3:(h+h)*hi=h*hi+h*hi:=Nat.add_mul ..;have e4:(a+h+h)*hi=a*hi+h*hi+h*hi:=by rw [Nat.add_mul,Nat.add_mul]
 rw [e1] at m2 l2 hw;rw [e2] at m3 l3 k3⊢;rw [e3] at hw;rw [e4] at k3⊢
 generalize a*lo=A at*
 generalize h*lo=B at*
 generalize a*hi=C at*
 generalize h*hi=D at*
 omega
structure Gen (b M z:Nat) (e p:Int):Prop where
 hm:mOf b=M*2^z
 he:eOf b=e
 hc:p6 (M*2^z) e=⟨M*2^z - 2^(z - 1),M*2^z+2^(z - 1),M%2,p⟩
 hz:1<=z
 hM:9223372036854775808<=M*2^z
 hW:M*2^z+2^(z - 1)<W64
theorem a2L {z:Nat} (h:1<=z):2^(z - 1)+2^(z - 1)=2^z:=by
 obtain ⟨k,rfl⟩:∃k,z=k+1:=⟨z - 1,by omega⟩;rw [Nat.add_sub_cancel,Nat.pow_succ];omega
theorem a2M {b M z:Nat} {e p:Int} (h:Gen b M z e p) (k:Gen (b+1) (M+1) z e p) (hhi:9223372036854775808<=M9 p) (hs:sOf e p<=60):W7 b<a2f (b+1):=by
 unfold W7 a2f A4 A3;rw [h.hm,h.he,k.hm,k.he,h.hc,k.hc];simp only;refine Nat.mul_lt_mul_of_pos_right ?_ (Nat.pow_pos (by decide))
 have e1:(M+1)*2^z - 2^(z - 1)=M*2^z+2^(z - 1):=by
  have:=a2L h.hz;rw [Nat.add_mul,Nat.one_mul]
  generalize 2^(z - 1)=H at*
  generalize 2^z=G at*
  omega
 rw [e1];have hu:=a8D (M*2^z+2^(z - 1)) (M9 p) (N9 p) (sOf e p) (Nat.le_trans h.hM (Nat.le_add_right _ _)) hhi hs
 generalize usc (M*2^z+2^(z - 1)) (M9 p) (N9 p) (sOf e p)=u at*
 omega
theorem a73 {b M z:Nat} {e p:Int} (h:Gen b M z e p) (hp:p<=324) (h1:A3 (mOf b) (eOf b)<=A4 (mOf b) (eOf b))
 (h2:A3 (mOf b) (eOf b)<A4 (mOf b) (eOf b)->A3 (mOf b) (eOf b)<=rnd (usc (mOf b) (M9 p) (N9 p) (sOf e p))/\rnd (usc (mOf b) (M9 p) (N9 p) (sOf e p))<=A4 (mOf b) (eOf b)):
 a2f b<=N0 b/\N0 b<=W7 b:=by
 have hc:(p6 (mOf b) (eOf b)).p=p:=by rw [h.hm,h.he,h.hc]
 unfold a2f W7 N0 z8;simp only [hc];rw [h.he] at h1 h2⊢
 generalize A3 (mOf b) e=x at*
 generalize A4 (mOf b) e=y at*
 generalize rnd (usc (mOf b) (M9 p) (N9 p) (sOf e p))=u at*
 have e1:324+ -p=324 - p:=by omega
 have e2:10^(324+ -(p - 1)).toNat=10*10^(324 - p).toNat:=by
  rw [show (324+ -(p - 1)).toNat=(324 - p).toNat+1 by omega,Nat.pow_succ,Nat.mul_comm]
 split
 ·rename_i h3
  simp only;rw [e2,<-Nat.mul_assoc];exact ⟨Nat.mul_le_mul_right _ h3,Nat.mul_le_mul_right _ (by omega)⟩
 split
 ·rename_i h3
  simp only;rw [e1];exact ⟨Nat.mul_le_mul_right _ (h2 h3).1,Nat.mul_le_mul_right _ (h2 h3).2⟩
 simp only;rw [e1];exact ⟨Nat.le_refl _,Nat.mul_le_mul_right _ h1⟩
theorem b0e {b M z:Nat} {e p:Int} (h:Gen b M z e p) (hp:p<=324) (hhi:1<=M9 p) (hlo:N9 p<W64)
 (hw:2^z*N9 p / W64+4*(W64*2^sOf e p)+3<=2^z*M9 p):a2f b<=N0 b/\N0 b<=W7 b:=by
 have hz:=a2L h.hz
 have hm:2^(z - 1)<=M*2^z:=by
  have h1:1<=M:=by
   rcases Nat.eq_zero_or_pos M with h0|h0
   ·have:=h.hM;rw [h0] at this;omega
   exact h0
  have:1*2^z<=M*2^z:=Nat.mul_le_mul_right _ h1
  generalize 2^(z - 1)=H at*
  generalize 2^z=G at*
  omega
 have hW:=h.hW
 have hQ:4<W64*2^sOf e p:=by
  have:=Nat.two_pow_pos (sOf e p);have:W64*1<=W64*2^sOf e p:=Nat.mul_le_mul_left _ this;have:W64=18446744073709551616:=rfl;omega
 have cu:=fun x (hx:x<W64)=>a72 x (M9 p) (N9 p) (sOf e p) hx hlo (Nat.le_mul_of_pos_right _ hhi);have c1:=cu (M*2^z - 2^(z - 1)) (by generalize 2^(z - 1)=H at*;omega);have c2:=cu (M*2^z+2^(z - 1)) hW;have cm:=cu (M*2^z) (by generalize 2^(z - 1)=H at*;omega);have wd:=b0d (M*2^z) (2^(z - 1)) (M9 p) (N9 p) hm hhi hlo (W64*2^sOf e p) (by rw [hz];exact hw);have md:=b2F (M*2^z) (2^(z - 1)) (M9 p) (N9 p) hm hhi hlo;have hod:M%2<=1:=by omega
 refine a73 h hp ?_ ?_
 ·unfold A3 A4;rw [h.hm,h.he,h.hc];exact a6r c1.toCut c2.toCut hQ hod wd
 unfold A3 A4;rw [h.hm,h.he,h.hc];exact fun hlt=>b4s c1.toCut c2.toCut cm hQ hod md.1 md.2 hlt
theorem a8M {b M:Nat} (h:Gen b M 11 (-11) 0):a2f b<=N0 b/\N0 b<=W7 b:=by
 have hhi:M9 0=9223372036854775808:=by decide+kernel
 have hlo:N9 0=0:=by decide+kernel
 have hs:sOf (-11) 0=8:=by decide
 have cu:=fun x (hx:x<W64)=>a72 x 9223372036854775808 0 8 hx (by decide) (by omega);have hW:=h.hW;have hM:=h.hM;have W:W64=18446744073709551616:=rfl
 have t (x n:Nat) (hx:x<W64) (hn:x=n*512):usc x 9223372036854775808 0 8=n:=by
  refine (cu x hx).at_ n ?_;unfold tsc;rw [hn,W];omega
 have u1:=t (M*2^11 - 2^(11 - 1)) (4*M - 2) (by omega) (by omega);have u2:=t (M*2^11+2^(11 - 1)) (4*M+2) hW (by omega)
 have e1:A3 (mOf b) (eOf b)=M:=by
  unfold A3;rw [h.hm,h.he,h.hc];simp only [hhi,hlo,hs];rw [u1];omega
 have e2:A4 (mOf b) (eOf b)=M:=by
  unfold A4;rw [h.hm,h.he,h.hc];simp only [hhi,hlo,hs];rw [u2];omega
 exact a73 h (by decide) (by omega) (by omega)
def a8N (e p:Int) (z:Nat):Bool:=
 decide (p<=324)&&decide (9223372036854775808<=M9 p)&&decide (N9 p<W64)&&decide (sOf e p<=60)&&decide (2^z*N9 p / W64+4*(W64*2^sOf e p)+3<=2^z*M9 p)
theorem a2t {e p:Int} {z:Nat} (h:a8N e p z=true):p<=324/\9223372036854775808<=M9 p/\N9 p<W64/\sOf e p<=60/\2^z*N9 p / W64+4*(W64*2^sOf e p)+3<=2^z*M9 p:=by
 unfold a8N at h;simp only [Bool.and_eq_true,decide_eq_true_eq] at h;exact ⟨h.1.1.1.1,h.1.1.1.2,h.1.1.2,h.1.2,h.2⟩
theorem b0f:(List.range 2046).all (fun k=>k==1074||a8N ((k:Int)+1 - 1086) (-M6 ((k:Int)+1 - 1086+11)) 11)=true:=by decide+kernel
theorem b2G:(List.range 52).all (fun l=>a8N ((l:Int) - 1137) 324 (63 - l))=true:=by decide+kernel
theorem a3T (k:Nat) (h1:1<=k) (h2:k<2047) (h3:k≠1075):a8N ((k:Int) - 1086) (-M6 ((k:Int) - 1086+11)) 11=true:=by
 have h:=zz15 b0f (k - 1) (List.mem_range.2 (by omega));have e:((k - 1:Nat):Int)+1=k:=by omega
 rw [e,Bool.or_eq_true] at h;rcases h with h|h
 ·rw [beq_iff_eq] at h;omega
 exact h
theorem a5i (l:Nat) (h:l<52):a8N ((l:Int) - 1137) 324 (63 - l)=true:=zz15 b2G l (List.mem_range.2 h)
theorem a2u {n k:Nat} (h1:2^k<=n) (h2:n<2^(k+1)):n.log2=k:=by
 have hn:n≠0:=by have:=Nat.two_pow_pos k;omega
 have a:k<=n.log2:=(Nat.le_log2 hn).2 h1;have b:n.log2<k+1:=(Nat.log2_lt hn).2 h2;omega
theorem a0W (k f:Nat) (h1:1<=k) (hf:f<2^52) (h:k=1\/f≠0):Gen (k*2^52+f) (f+2^52) 11 ((k:Int) - 1086) (-M6 ((k:Int) - 1086+11)):=by
 have d1:(k*2^52+f) / 2^52=k:=by omega
 have d2:(k*2^52+f)%2^52=f:=by omega
 have hk0:¬k=0:=by omega
 have hm:a2G (k*2^52+f)=f+2^52:=by unfold a2G;rw [d1,d2,if_neg hk0]
 have hl:(f+2^52).log2=52:=a2u (by omega) (by omega);have hsh:sh (k*2^52+f)=11:=by unfold sh;rw [hm,hl]
 refine ⟨by unfold mOf;rw [hm,hsh], ?_, ?_,by decide,by omega, ?_⟩
 ·unfold eOf a95;rw [d1,hsh,if_neg hk0];omega
 ·unfold p6;have c1:¬((f+2^52)*2^11=2^63/\ -1085<(k:Int) - 1086):=by omega
  have c2: -1085<=(k:Int) - 1086:=by omega
  rw [if_neg c1,if_pos c2];have:(f+2^52)*2^11 / 2^11%2=(f+2^52)%2:=by omega
  rw [this]
 have W:W64=18446744073709551616:=rfl;omega
theorem a2v (b l:Nat) (h1:2^l<=b) (h2:b<2^(l+1)) (hl:l<52):Gen b b (63 - l) ((l:Int) - 1137) 324:=by
 have hb:b<2^52:=zz13 h2 (Nat.pow_le_pow_right (by decide) (by omega));have d1:b / 2^52=0:=by omega
 have hm:a2G b=b:=by unfold a2G;rw [d1,if_pos rfl]
 have hsh:sh b=63 - l:=by unfold sh;rw [hm,a2u h1 h2]
 have p1:2^l*2^(63 - l)=2^63:=by rw [<-Nat.pow_add];congr 1;omega
 have p2:2^(l+1)*2^(63 - l)=2^64:=by rw [<-Nat.pow_add];congr 1;omega
 have p0:=Nat.two_pow_pos (63 - l);refine ⟨by unfold mOf;rw [hm,hsh], ?_, ?_,by omega, ?_, ?_⟩
 ·unfold eOf a95;rw [d1,hsh,if_pos rfl];omega
 ·unfold p6;have c1:¬(b*2^(63 - l)=2^63/\ -1085<(l:Int) - 1137):=by omega
  have c2:¬ -1085<=(l:Int) - 1137:=by omega
  rw [if_neg c1,if_neg c2];have e1:(11+(-1085 - ((l:Int) - 1137))).toNat=63 - l:=by omega
  have e2:(l:Int) - 1137+(11+(-1085 - ((l:Int) - 1137)))= -1074:=by omega
  rw [e1,e2,Nat.mul_div_cancel _ p0];congr 1
 ·have:=Nat.mul_le_mul_right (2^(63 - l)) h1;omega
 have W:W64=2^64:=by decide
 have a:(b+1)*2^(63 - l)<=2^(l+1)*2^(63 - l):=Nat.mul_le_mul_right _ h2;have hz:=a2L (z:=63 - l) (by omega);have:=Nat.two_pow_pos (63 - l - 1);rw [Nat.add_mul,Nat.one_mul,p2] at a;rw [W]
 generalize 2^(63 - l - 1)=H at*
 generalize 2^(63 - l)=G at*
 generalize (2:Nat)^64=X at*
 omega
theorem b0g:((List.range 52).map (fun i=>2^(i+1) - 1)).all (fun b=>decide (W7 b<a2f (b+1)))=true:=by decide+kernel
theorem b0h:((List.range 2045).map (fun k=>(k+2)*2^52 - 1)).all (fun b=>decide (W7 b<a2f (b+1)))=true:=by decide+kernel
theorem b0i:((List.range 2045).map (fun k=>(k+2)*2^52)).all (fun b=>decide (W7 b<a2f (b+1)))=true:=by decide+kernel
theorem b2H:((List.range 2045).map (fun k=>(k+2)*2^52)).all (fun b=>decide (a2f b<=N0 b)&&decide (N0 b<=W7 b))=true:=by decide+kernel
theorem a0X (b:Nat) (h1:1<=b) (h2:b<2047*2^52):a2f b<=N0 b/\N0 b<=W7 b:=by
 by_cases hs:b<2^52
 ·have hb0:b≠0:=by omega
  have l1:2^b.log2<=b:=Nat.log2_self_le hb0;have l2:b<2^(b.log2+1):=Nat.lt_log2_self;have l3:b.log2<52:=(Nat.log2_lt hb0).2 hs;obtain ⟨w1,w2,w3, -,w5⟩:=a2t (a5i _ l3);exact b0e (a2v b _ l1 l2 l3) w1 (by omega) w3 w5
 obtain ⟨k,hk⟩:∃k,b / 2^52=k:=⟨_,rfl⟩;obtain ⟨f,hf⟩:∃f,b%2^52=f:=⟨_,rfl⟩;have hb:b=k*2^52+f:=by omega
 by_cases ht:k=1\/f≠0
 ·have hg:=a0W k f (by omega) (by omega) ht;rw [<-hb] at hg;by_cases h5:k=1075
  ·subst h5;exact a8M hg
  obtain ⟨w1,w2,w3, -,w5⟩:=a2t (a3T k (by omega) (by omega) h5);exact b0e hg w1 (by omega) w3 w5
 have h:=zz15 b2H b (List.mem_map.2 ⟨k - 2,List.mem_range.2 (by omega),by omega⟩);rw [Bool.and_eq_true,decide_eq_true_eq,decide_eq_true_eq] at h;exact h
theorem a5j (b:Nat) (h1:1<=b) (h2:b+1<2047*2^52):W7 b<a2f (b+1):=by
 by_cases hs:b<2^52
 ·have hb0:b≠0:=by omega
  have l1:2^b.log2<=b:=Nat.log2_self_le hb0;have l2:b<2^(b.log2+1):=Nat.lt_log2_self;have l3:b.log2<52:=(Nat.log2_lt hb0).2 hs;by_cases he:b+1<2^(b.log2+1)
  ·obtain ⟨-,w2, -,w4, -⟩:=a2t (a5i _ l3);exact a2M (a2v b _ l1 l2 l3) (a2v (b+1) _ (by omega) he l3) w2 w4
  exact of_decide_eq_true (zz15 b0g b (List.mem_map.2 ⟨b.log2,List.mem_range.2 l3,by omega⟩))
 obtain ⟨k,hk⟩:∃k,b / 2^52=k:=⟨_,rfl⟩;obtain ⟨f,hf⟩:∃f,b%2^52=f:=⟨_,rfl⟩;have hb:b=k*2^52+f:=by omega
 by_cases ht:k=1\/f≠0
 ·by_cases hl:f+1=2^52
  ·exact of_decide_eq_true (zz15 b0h b (List.mem_map.2 ⟨k - 1,List.mem_range.2 (by omega),by omega⟩))
  have hg:=a0W k f (by omega) (by omega) ht;have hg2:=a0W k (f+1) (by omega) (by omega) (.inr (by omega));rw [<-hb] at hg;rw [show k*2^52+(f+1)=b+1 by omega,show f+1+2^52=f+2^52+1 by omega] at hg2;by_cases h5:k=1075
  ·subst h5;exact a2M hg hg2 (by decide+kernel) (by decide+kernel)
  obtain ⟨-,w2, -,w4, -⟩:=a2t (a3T k (by omega) (by omega) h5);exact a2M hg hg2 w2 w4
 exact of_decide_eq_true (zz15 b0i b (List.mem_map.2 ⟨k - 2,List.mem_range.2 (by omega),by omega⟩))
theorem a6A (b n:Nat) (h1:1<=b) (h2:b+n+1<2047*2^52):N0 b<N0 (b+n+1):=by
 induction n with
 |zero=>
  have a:=a0X b h1 (by omega);have c:=a0X (b+1) (by omega) (by omega);have d:=a5j b h1 (by omega);show N0 b<N0 (b+1);omega
 |succ n ih=>
  have i:=ih (by omega);have a:=a0X (b+n+1) (by omega) (by omega);have c:=a0X (b+n+1+1) (by omega) (by omega);have d:=a5j (b+n+1) (by omega) (by omega);show N0 b<N0 (b+n+1+1);omega
theorem b2I (a b:Nat) (ha:1<=a) (hb:1<=b) (ha2:a<2047*2^52) (hb2:b<2047*2^52) (h:N0 a=N0 b):a=b:=by
 rcases Nat.lt_trichotomy a b with hl|he|hl
 ·have:=a6A a (b - a - 1) ha (by omega);rw [show a+(b - a - 1)+1=b by omega] at this;omega
 ·exact he
 have:=a6A b (a - b - 1) hb (by omega);rw [show b+(a - b - 1)+1=a by omega] at this;omega
end
end Go.Proofs.YtaenebdppkjhoaaGreatDoor
