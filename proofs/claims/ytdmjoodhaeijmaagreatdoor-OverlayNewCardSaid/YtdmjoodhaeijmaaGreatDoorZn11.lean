/- Lemmas. -/
import Derived.Test.YtdmjoodhaeijmaaGreatDoorZn6
set_option maxHeartbeats 40000000
set_option maxRecDepth 20000
namespace Go.Proofs.YtdmjoodhaeijmaaGreatDoor
theorem Cut.up1 {T Q u b:Nat} (hu:u=(if b=1 then 2*(T / Q / 2)+1 else T / Q)) (n:Nat) (h:T<(4*n+1)*Q):u<=4*n+1:=by
 have h2:T / Q<4*n+1:=Nat.div_lt_of_lt_mul (by rw [Nat.mul_comm];exact h);rw [hu];split<;>omega
structure b6k (T Q u:Nat):Prop extends Cut T Q u where
 up1:∀n,T<(4*n+1)*Q->u<=4*n+1
theorem a8z (x hi lo s:Nat) (hx:x<W64) (hlo:lo<W64) (hh:x<=x*hi):b6k (tsc x hi lo) (W64*2^s) (usc x hi lo s):=by
 obtain ⟨b,h1,h2,h3⟩:=b6c x hi lo s hx hlo hh
 have hQ:4<W64*2^s:=by
  have:=Nat.two_pow_pos s;have:W64*1<=W64*2^s:=Nat.mul_le_mul_left _ this;have:W64=18446744073709551616:=rfl;omega
 exact {toCut:=b6d hQ h1 h2 h3,up1:=Cut.up1 h1}
theorem b5u {T1 T2 Tm Q u1 u2 um odd:Nat} (h1:Cut T1 Q u1) (h2:Cut T2 Q u2) (hc:b6k Tm Q um) (hQ:4<Q) (ho:odd<=1) (hlo:T1+T2<=2*Tm+2) (hhi:2*Tm<=T1+T2+2)
 (hlt:(u1+odd+3) / 4<(u2 - odd) / 4):(u1+odd+3) / 4<=rnd um/\rnd um<=(u2 - odd) / 4:=by
 obtain ⟨n0,hn0⟩:∃n,(u1+odd+3) / 4=n:=⟨_,rfl⟩;obtain ⟨n1,hn1⟩:∃n,(u2 - odd) / 4=n:=⟨_,rfl⟩;rw [hn0,hn1] at hlt⊢;have e (a b:Nat) (h:a<=b):4*a*Q<=4*b*Q:=Nat.mul_le_mul_right _ zo
 have a1:T1<=4*n0*Q+1:=by
  rcases Nat.lt_or_ge T1 (4*n0*Q+2) with h|h
  ·omega
  have:=h1.lo1 n0 h;omega
 have a2:4*n1*Q<=T2:=by
  rcases Nat.lt_or_ge T2 (4*n1*Q) with h|h
  ·have:=h2.up n1 h;omega
  exact h
 have a3:4*(n0 - 1)*Q<=T1:=by
  rcases Nat.eq_zero_or_pos (n0 - 1) with h0|h0
  ·rw [h0];omega
  rcases Nat.lt_or_ge T1 (4*(n0 - 1)*Q) with h|h
  ·have:=h1.up (n0 - 1) h;omega
  exact h
 have a4:T2<=4*(n1+1)*Q+1:=by
  rcases Nat.lt_or_ge T2 (4*(n1+1)*Q+2) with h|h
  ·omega
  have:=h2.lo1 (n1+1) h;omega
 have b1:4*(n1+1)*Q=4*n1*Q+4*Q:=by rw [Nat.mul_add,Nat.add_mul]
 have b2:4*(n0+1)*Q=4*n0*Q+4*Q:=by rw [Nat.mul_add,Nat.add_mul]
 have b3:=e (n0+1) n1 zo;constructor
 ·have hT:4*n0*Q<=Tm+1:=by
   rcases Nat.eq_zero_or_pos n0 with h0|h0
   ·rw [h0];omega
   have b4:4*n0*Q=4*(n0 - 1)*Q+4*Q:=by
    obtain ⟨k,rfl⟩:∃k,n0=k+1:=⟨n0 - 1,zo⟩;rw [Nat.add_sub_cancel,Nat.mul_add,Nat.add_mul]
   omega
  have:=hc.half n0 hT;unfold rnd;omega
 have hT:Tm<=4*n1*Q+2:=zo
 have:=hc.up1 n1 (by rw [Nat.add_mul];omega);unfold rnd;omega
theorem b3x (m h hi lo:Nat) (hhm:h<=m) (hi1:1<=hi) (hlo:lo<W64):tsc (m - h) hi lo+tsc (m+h) hi lo<=2*tsc m hi lo+2/\2*tsc m hi lo<=tsc (m - h) hi lo+tsc (m+h) hi lo+2:=by
 unfold tsc;obtain ⟨a,rfl⟩:∃a,m=a+h:=⟨m - h,zo⟩;rw [Nat.add_sub_cancel];have hW:0<W64:=zd
 have key:∀x,x*lo / W64<=x*hi:=fun x=>Nat.le_trans (Nat.div_le_of_le_mul (by rw [Nat.mul_comm W64];exact Nat.mul_le_mul_left _ (Nat.le_of_lt hlo))) (Nat.le_mul_of_pos_right _ hi1);have k1:=key a;have k2:=key (a+h);have k3:=key (a+h+h);have m1:=Nat.div_add_mod (a*lo) W64;have m2:=Nat.div_add_mod ((a+h)*lo) W64;have m3:=Nat.div_add_mod ((a+h+h)*lo) W64;have l1:=Nat.mod_lt (a*lo) hW;have l2:=Nat.mod_lt ((a+h)*lo) hW;have l3:=Nat.mod_lt ((a+h+h)*lo) hW;have W:W64=18446744073709551616:=rfl;rw [W] at m1 m2 m3 l1 l2 l3 k1 k2 k3⊢;have e1:(a+h)*lo=a*lo+h*lo:=Nat.add_mul ..;have e2:(a+h+h)*lo=a*lo+h*lo+h*lo:=by rw [Nat.add_mul,Nat.add_mul]
 have e3:(a+h)*hi=a*hi+h*hi:=Nat.add_mul ..;have e4:(a+h+h)*hi=a*hi+h*hi+h*hi:=by rw [Nat.add_mul,Nat.add_mul]
 rw [e1] at m2 l2 k2⊢;rw [e2] at m3 l3 k3⊢;rw [e3] at k2⊢;rw [e4] at k3⊢
 generalize a*lo=A at*
 generalize h*lo=B at*
 generalize a*hi=C at*
 generalize h*hi=D at*
 omega
theorem b0U (m h hi lo:Nat) (hhm:h<=m) (hi1:1<=hi) (hlo:lo<W64) (Q:Nat) (hw:(h+h)*lo / W64+4*Q+3<=(h+h)*hi):tsc (m - h) hi lo+4*Q+2<=tsc (m+h) hi lo:=by
 unfold tsc;obtain ⟨a,rfl⟩:∃a,m=a+h:=⟨m - h,zo⟩;rw [Nat.add_sub_cancel];have hW:0<W64:=zd
 have key:∀x,x*lo / W64<=x*hi:=fun x=>Nat.le_trans (Nat.div_le_of_le_mul (by rw [Nat.mul_comm W64];exact Nat.mul_le_mul_left _ (Nat.le_of_lt hlo))) (Nat.le_mul_of_pos_right _ hi1);have k1:=key a;have k3:=key (a+h+h);have m1:=Nat.div_add_mod (a*lo) W64;have m2:=Nat.div_add_mod ((h+h)*lo) W64;have m3:=Nat.div_add_mod ((a+h+h)*lo) W64;have l1:=Nat.mod_lt (a*lo) hW;have l2:=Nat.mod_lt ((h+h)*lo) hW;have l3:=Nat.mod_lt ((a+h+h)*lo) hW;have W:W64=18446744073709551616:=rfl;rw [W] at m1 m2 m3 l1 l2 l3 k1 k3 hw⊢;have e1:(h+h)*lo=h*lo+h*lo:=Nat.add_mul ..;have e2:(a+h+h)*lo=a*lo+h*lo+h*lo:=by rw [Nat.add_mul,Nat.add_mul]
 have e3:(h+h)*hi=h*hi+h*hi:=Nat.add_mul ..;have e4:(a+h+h)*hi=a*hi+h*hi+h*hi:=by rw [Nat.add_mul,Nat.add_mul]
 rw [e1] at m2 l2 hw;rw [e2] at m3 l3 k3⊢;rw [e3] at hw;rw [e4] at k3⊢
 generalize a*lo=A at*
 generalize h*lo=B at*
 generalize a*hi=C at*
 generalize h*hi=D at*
 omega
structure Gen (b M z:Nat) (e p:Int):Prop where
 hm:mOf b=M*2^z
 he:eOf b=e
 hc:t6 (M*2^z) e=⟨M*2^z - 2^(z - 1),M*2^z+2^(z - 1),M%2,p⟩
 hz:1<=z
 hM:9223372036854775808<=M*2^z
 hW:M*2^z+2^(z - 1)<W64
theorem a2Z {z:Nat} (h:1<=z):2^(z - 1)+2^(z - 1)=2^z:=by
 obtain ⟨k,rfl⟩:∃k,z=k+1:=⟨z - 1,zo⟩;rw [Nat.add_sub_cancel,Nat.pow_succ];omega
theorem a3a {b M z:Nat} {e p:Int} (h:Gen b M z e p) (k:Gen (b+1) (M+1) z e p) (hhi:9223372036854775808<=S3 p) (hs:sOf e p<=60):a0l b<a2J (b+1):=by
 unfold a0l a2J D4 D3;rw [h.hm,h.he,k.hm,k.he,h.hc,k.hc];simp only;refine Nat.mul_lt_mul_of_pos_right ?_ (Nat.pow_pos zd)
 have e1:(M+1)*2^z - 2^(z - 1)=M*2^z+2^(z - 1):=by
  have:=a2Z h.hz;rw [Nat.add_mul,Nat.one_mul]
  generalize 2^(z - 1)=H at*
  generalize 2^z=G at*
  omega
 rw [e1];have hu:=a9f (M*2^z+2^(z - 1)) (S3 p) (V0 p) (sOf e p) (Nat.le_trans h.hM (Nat.le_add_right _ _)) hhi hs
 generalize usc (M*2^z+2^(z - 1)) (S3 p) (V0 p) (sOf e p)=u at*
 omega
theorem a8A {b M z:Nat} {e p:Int} (h:Gen b M z e p) (hp:p<=324) (h1:D3 (mOf b) (eOf b)<=D4 (mOf b) (eOf b))
 (h2:D3 (mOf b) (eOf b)<D4 (mOf b) (eOf b)->D3 (mOf b) (eOf b)<=rnd (usc (mOf b) (S3 p) (V0 p) (sOf e p))/\rnd (usc (mOf b) (S3 p) (V0 p) (sOf e p))<=D4 (mOf b) (eOf b)):
 a2J b<=S4 b/\S4 b<=a0l b:=by
 have hc:(t6 (mOf b) (eOf b)).p=p:=by rw [h.hm,h.he,h.hc]
 unfold a2J a0l S4 B8;simp only [hc];rw [h.he] at h1 h2⊢
 generalize D3 (mOf b) e=x at*
 generalize D4 (mOf b) e=y at*
 generalize rnd (usc (mOf b) (S3 p) (V0 p) (sOf e p))=u at*
 have e1:324+ -p=324 - p:=zo
 have e2:10^(324+ -(p - 1)).toNat=10*10^(324 - p).toNat:=by
  rw [show (324+ -(p - 1)).toNat=(324 - p).toNat+1 by omega,Nat.pow_succ,Nat.mul_comm]
 split
 ·rename_i h3
  simp only;rw [e2,<-Nat.mul_assoc];exact ⟨Nat.mul_le_mul_right _ h3,Nat.mul_le_mul_right _ zo⟩
 split
 ·rename_i h3
  simp only;rw [e1];exact ⟨Nat.mul_le_mul_right _ (h2 h3).1,Nat.mul_le_mul_right _ (h2 h3).2⟩
 simp only;rw [e1];exact ⟨Nat.le_refl _,Nat.mul_le_mul_right _ h1⟩
theorem b0V {b M z:Nat} {e p:Int} (h:Gen b M z e p) (hp:p<=324) (hhi:1<=S3 p) (hlo:V0 p<W64)
 (hw:2^z*V0 p / W64+4*(W64*2^sOf e p)+3<=2^z*S3 p):a2J b<=S4 b/\S4 b<=a0l b:=by
 have hz:=a2Z h.hz
 have hm:2^(z - 1)<=M*2^z:=by
  have h1:1<=M:=by
   rcases Nat.eq_zero_or_pos M with h0|h0
   ·have:=h.hM;rw [h0] at this;omega
   exact h0
  have:1*2^z<=M*2^z:=Nat.mul_le_mul_right _ h1
  generalize 2^(z - 1)=H at*
  generalize 2^z=G at*
  omega
 have hW:=h.hW
 have hQ:4<W64*2^sOf e p:=by
  have:=Nat.two_pow_pos (sOf e p);have:W64*1<=W64*2^sOf e p:=Nat.mul_le_mul_left _ this;have:W64=18446744073709551616:=rfl;omega
 have cu:=fun x (hx:x<W64)=>a8z x (S3 p) (V0 p) (sOf e p) hx hlo (Nat.le_mul_of_pos_right _ hhi);have c1:=cu (M*2^z - 2^(z - 1)) (by generalize 2^(z - 1)=H at*;omega);have c2:=cu (M*2^z+2^(z - 1)) hW;have cm:=cu (M*2^z) (by generalize 2^(z - 1)=H at*;omega);have wd:=b0U (M*2^z) (2^(z - 1)) (S3 p) (V0 p) hm hhi hlo (W64*2^sOf e p) (by rw [hz];exact hw);have md:=b3x (M*2^z) (2^(z - 1)) (S3 p) (V0 p) hm hhi hlo;have hod:M%2<=1:=zo
 refine a8A h hp ?_ ?_
 ·unfold D3 D4;rw [h.hm,h.he,h.hc];exact a8v c1.toCut c2.toCut hQ hod wd
 unfold D3 D4;rw [h.hm,h.he,h.hc];exact fun hlt=>b5u c1.toCut c2.toCut cm hQ hod md.1 md.2 hlt
theorem a9i {b M:Nat} (h:Gen b M 11 (-11) 0):a2J b<=S4 b/\S4 b<=a0l b:=by
 have hhi:S3 0=9223372036854775808:=by decide+kernel
 have hlo:V0 0=0:=by decide+kernel
 have hs:sOf (-11) 0=8:=zd
 have cu:=fun x (hx:x<W64)=>a8z x 9223372036854775808 0 8 hx zd zo;have hW:=h.hW;have hM:=h.hM;have W:W64=18446744073709551616:=rfl
 have t (x n:Nat) (hx:x<W64) (hn:x=n*512):usc x 9223372036854775808 0 8=n:=by
  refine (cu x hx).at_ n ?_;unfold tsc;rw [hn,W];omega
 have u1:=t (M*2^11 - 2^(11 - 1)) (4*M - 2) zo zo;have u2:=t (M*2^11+2^(11 - 1)) (4*M+2) hW zo
 have e1:D3 (mOf b) (eOf b)=M:=by
  unfold D3;rw [h.hm,h.he,h.hc];simp only [hhi,hlo,hs];rw [u1];omega
 have e2:D4 (mOf b) (eOf b)=M:=by
  unfold D4;rw [h.hm,h.he,h.hc];simp only [hhi,hlo,hs];rw [u2];omega
 exact a8A h zd zo zo
def a9j (e p:Int) (z:Nat):Bool:=
 decide (p<=324)&&decide (9223372036854775808<=S3 p)&&decide (V0 p<W64)&&decide (sOf e p<=60)&&decide (2^z*V0 p / W64+4*(W64*2^sOf e p)+3<=2^z*S3 p)
theorem a2K {e p:Int} {z:Nat} (h:a9j e p z=true):p<=324/\9223372036854775808<=S3 p/\V0 p<W64/\sOf e p<=60/\2^z*V0 p / W64+4*(W64*2^sOf e p)+3<=2^z*S3 p:=by
 unfold a9j at h;simp only [Bool.and_eq_true,decide_eq_true_eq] at h;exact ⟨h.1.1.1.1,h.1.1.1.2,h.1.1.2,h.1.2,h.2⟩
theorem b0W:(List.range 2046).all (fun k=>k==1074||a9j ((k:Int)+1 - 1086) (-Q9 ((k:Int)+1 - 1086+11)) 11)=true:=by decide+kernel
theorem b3y:(List.range 52).all (fun l=>a9j ((l:Int) - 1137) 324 (63 - l))=true:=by decide+kernel
theorem a4r (k:Nat) (h1:1<=k) (h2:k<2047) (h3:k≠1075):a9j ((k:Int) - 1086) (-Q9 ((k:Int) - 1086+11)) 11=true:=by
 have h:=zz15 b0W (k - 1) (List.mem_range.2 zo);have e:((k - 1:Nat):Int)+1=k:=zo
 rw [e,Bool.or_eq_true] at h;rcases h with h|h
 ·rw [beq_iff_eq] at h;omega
 exact h
theorem a5Y (l:Nat) (h:l<52):a9j ((l:Int) - 1137) 324 (63 - l)=true:=zz15 b3y l (List.mem_range.2 h)
theorem a2L {n k:Nat} (h1:2^k<=n) (h2:n<2^(k+1)):n.log2=k:=by
 have hn:n≠0:=by have:=Nat.two_pow_pos k;omega
 have a:k<=n.log2:=(Nat.le_log2 hn).2 h1;have b:n.log2<k+1:=(Nat.log2_lt hn).2 h2;omega
theorem a1t (k f:Nat) (h1:1<=k) (hf:f<2^52) (h:k=1\/f≠0):Gen (k*2^52+f) (f+2^52) 11 ((k:Int) - 1086) (-Q9 ((k:Int) - 1086+11)):=by
 have d1:(k*2^52+f) / 2^52=k:=zo
 have d2:(k*2^52+f)%2^52=f:=zo
 have hk0:¬k=0:=zo
 have hm:a3Y (k*2^52+f)=f+2^52:=by unfold a3Y;rw [d1,d2,if_neg hk0]
 have hl:(f+2^52).log2=52:=a2L zo zo;have hsh:sh (k*2^52+f)=11:=by unfold sh;rw [hm,hl]
 refine ⟨by unfold mOf;rw [hm,hsh], ?_, ?_,zd,zo, ?_⟩
 ·unfold eOf b3i;rw [d1,hsh,if_neg hk0];omega
 ·unfold t6;have c1:¬((f+2^52)*2^11=2^63/\ -1085<(k:Int) - 1086):=zo
  have c2: -1085<=(k:Int) - 1086:=zo
  rw [if_neg c1,if_pos c2];have:(f+2^52)*2^11 / 2^11%2=(f+2^52)%2:=zo
  rw [this]
 have W:W64=18446744073709551616:=rfl;omega
theorem a2M (b l:Nat) (h1:2^l<=b) (h2:b<2^(l+1)) (hl:l<52):Gen b b (63 - l) ((l:Int) - 1137) 324:=by
 have hb:b<2^52:=zz13 h2 (Nat.pow_le_pow_right zd zo);have d1:b / 2^52=0:=zo
 have hm:a3Y b=b:=by unfold a3Y;rw [d1,if_pos rfl]
 have hsh:sh b=63 - l:=by unfold sh;rw [hm,a2L h1 h2]
 have p1:2^l*2^(63 - l)=2^63:=by rw [<-Nat.pow_add];congr 1;omega
 have p2:2^(l+1)*2^(63 - l)=2^64:=by rw [<-Nat.pow_add];congr 1;omega
 have p0:=Nat.two_pow_pos (63 - l);refine ⟨by unfold mOf;rw [hm,hsh], ?_, ?_,zo, ?_, ?_⟩
 ·unfold eOf b3i;rw [d1,hsh,if_pos rfl];omega
 ·unfold t6;have c1:¬(b*2^(63 - l)=2^63/\ -1085<(l:Int) - 1137):=zo
  have c2:¬ -1085<=(l:Int) - 1137:=zo
  rw [if_neg c1,if_neg c2];have e1:(11+(-1085 - ((l:Int) - 1137))).toNat=63 - l:=zo
  have e2:(l:Int) - 1137+(11+(-1085 - ((l:Int) - 1137)))= -1074:=zo
  rw [e1,e2,Nat.mul_div_cancel _ p0];congr 1
 ·have:=Nat.mul_le_mul_right (2^(63 - l)) h1;omega
 have W:W64=2^64:=zd
 have a:(b+1)*2^(63 - l)<=2^(l+1)*2^(63 - l):=Nat.mul_le_mul_right _ h2;have hz:=a2Z (z:=63 - l) zo;have:=Nat.two_pow_pos (63 - l - 1);rw [Nat.add_mul,Nat.one_mul,p2] at a;rw [W]
 generalize 2^(63 - l - 1)=H at*
 generalize 2^(63 - l)=G at*
 generalize (2:Nat)^64=X at*
 omega
theorem b0X:((List.range 52).map (fun i=>2^(i+1) - 1)).all (fun b=>decide (a0l b<a2J (b+1)))=true:=by decide+kernel
theorem b0Y:((List.range 2045).map (fun k=>(k+2)*2^52 - 1)).all (fun b=>decide (a0l b<a2J (b+1)))=true:=by decide+kernel
theorem b0Z:((List.range 2045).map (fun k=>(k+2)*2^52)).all (fun b=>decide (a0l b<a2J (b+1)))=true:=by decide+kernel
theorem b3z:((List.range 2045).map (fun k=>(k+2)*2^52)).all (fun b=>decide (a2J b<=S4 b)&&decide (S4 b<=a0l b))=true:=by decide+kernel
theorem a1u (b:Nat) (h1:1<=b) (h2:b<2047*2^52):a2J b<=S4 b/\S4 b<=a0l b:=by
 by_cases hs:b<2^52
 ·have hb0:b≠0:=zo
  have l1:2^b.log2<=b:=Nat.log2_self_le hb0;have l2:b<2^(b.log2+1):=Nat.lt_log2_self;have l3:b.log2<52:=(Nat.log2_lt hb0).2 hs;obtain ⟨w1,w2,w3, -,w5⟩:=a2K (a5Y _ l3);exact b0V (a2M b _ l1 l2 l3) w1 zo w3 w5
 obtain ⟨k,hk⟩:∃k,b / 2^52=k:=⟨_,rfl⟩;obtain ⟨f,hf⟩:∃f,b%2^52=f:=⟨_,rfl⟩;have hb:b=k*2^52+f:=zo
 by_cases ht:k=1\/f≠0
 ·have hg:=a1t k f zo zo ht;rw [<-hb] at hg;by_cases h5:k=1075
  ·subst h5;exact a9i hg
  obtain ⟨w1,w2,w3, -,w5⟩:=a2K (a4r k zo zo h5);exact b0V hg w1 zo w3 w5
 have h:=zz15 b3z b (List.mem_map.2 ⟨k - 2,List.mem_range.2 zo,zo⟩);rw [Bool.and_eq_true,decide_eq_true_eq,decide_eq_true_eq] at h;exact h
theorem a5Z (b:Nat) (h1:1<=b) (h2:b+1<2047*2^52):a0l b<a2J (b+1):=by
 by_cases hs:b<2^52
 ·have hb0:b≠0:=zo
  have l1:2^b.log2<=b:=Nat.log2_self_le hb0;have l2:b<2^(b.log2+1):=Nat.lt_log2_self;have l3:b.log2<52:=(Nat.log2_lt hb0).2 hs;by_cases he:b+1<2^(b.log2+1)
  ·obtain ⟨-,w2, -,w4, -⟩:=a2K (a5Y _ l3);exact a3a (a2M b _ l1 l2 l3) (a2M (b+1) _ zo he l3) w2 w4
  exact of_decide_eq_true (zz15 b0X b (List.mem_map.2 ⟨b.log2,List.mem_range.2 l3,zo⟩))
 obtain ⟨k,hk⟩:∃k,b / 2^52=k:=⟨_,rfl⟩;obtain ⟨f,hf⟩:∃f,b%2^52=f:=⟨_,rfl⟩;have hb:b=k*2^52+f:=zo
 by_cases ht:k=1\/f≠0
 ·by_cases hl:f+1=2^52
  ·exact of_decide_eq_true (zz15 b0Y b (List.mem_map.2 ⟨k - 1,List.mem_range.2 zo,zo⟩))
  have hg:=a1t k f zo zo ht;have hg2:=a1t k (f+1) zo zo (.inr zo);rw [<-hb] at hg;rw [show k*2^52+(f+1)=b+1 by omega,show f+1+2^52=f+2^52+1 by omega] at hg2;by_cases h5:k=1075
  ·subst h5;exact a3a hg hg2 (by decide+kernel) (by decide+kernel)
  obtain ⟨-,w2, -,w4, -⟩:=a2K (a4r k zo zo h5);exact a3a hg hg2 w2 w4
 exact of_decide_eq_true (zz15 b0Z b (List.mem_map.2 ⟨k - 2,List.mem_range.2 zo,zo⟩))
theorem a7m (b n:Nat) (h1:1<=b) (h2:b+n+1<2047*2^52):S4 b<S4 (b+n+1):=by
 induction n with
 |zero=>
  have a:=a1u b h1 zo;have c:=a1u (b+1) zo zo;have d:=a5Z b h1 zo;show S4 b<S4 (b+1);omega
 |succ n ih=>
  have i:=ih zo;have a:=a1u (b+n+1) zo zo;have c:=a1u (b+n+1+1) zo zo;have d:=a5Z (b+n+1) zo zo;show S4 b<S4 (b+n+1+1);omega
theorem b3A (a b:Nat) (ha:1<=a) (hb:1<=b) (ha2:a<2047*2^52) (hb2:b<2047*2^52) (h:S4 a=S4 b):a=b:=by
 rcases Nat.lt_trichotomy a b with hl|he|hl
 ·have:=a7m a (b - a - 1) ha zo;rw [show a+(b - a - 1)+1=b by omega] at this;omega
 ·exact he
 have:=a7m b (a - b - 1) hb zo;rw [show b+(a - b - 1)+1=a by omega] at this;omega
end Go.Proofs.YtdmjoodhaeijmaaGreatDoor
