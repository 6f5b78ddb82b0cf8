/- Lemmas. -/
import Derived.Test.YtaenebdppkjhoaaGreatDoorZg0
import GoSem.PinnedTables
import Derived.Shelf.Small.Utf8
import Derived.Shelf.Small.Bits
import Derived.Shelf.Small.Strs
import Derived.Shelf.Small.Wraps
import Derived.Shelf.Utf8.AppendRune
import Derived.Shelf.Strconv.Bsearch
import Derived.Shelf.Strconv.IsPrint
import Derived.Shelf.Strconv.IsPrint16
import Derived.Shelf.Strconv.IsPrint32
import Derived.Shelf.Strconv.Escaped
import Derived.Shelf.Strconv.Quoted
import Derived.Shelf.Strconv.Quote
import Derived.Shelf.Strconv.Itoa0
import Derived.Shelf.Strconv.Itoa1
import Derived.Shelf.LaysM
import Derived.Shelf.Strconv.Itoa2
import Derived.Shelf.Strconv.Itoa3
import Derived.Shelf.Strconv.Itoa4
import Derived.Shelf.Strings.Search1
import Derived.Shelf.Strings.Search2
import Derived.Shelf.Strings.Cut
import Derived.Shelf.Strings.Shaped
import Derived.Shelf.Sort.Plain
import Derived.Shelf.Strings.Prefix
import Derived.Shelf.Unicode.Decode
import Derived.Shelf.Strings.Runes
import Derived.Shelf.Strings.IndexAny
import Derived.Shelf.Strings.AsciiSet
import Derived.Shelf.Strings.IndexAnyAll
import Derived.Shelf.Bits.Mul64
import Derived.Shelf.Unicode.DecodeSlow
import Derived.Shelf.Unicode.DecodeAny
import Derived.Shelf.Slices.Turned
import Derived.Ground.Names2Prog
import Derived.Shelf.Slices.Clone
import Derived.Shelf.Slices.CompactS
import Derived.Shelf.Slices.SearchI
import Derived.Shelf.Slices.Cells
import Derived.Shelf.Slices.In.SortNone
import Derived.Ground.SlgnProg
import Derived.Shelf.SlicesE.Clone
import Derived.Test.YtaenebdppkjhoaaGreatDoorProg
namespace Go.Proofs.YtaenebdppkjhoaaGreatDoor
set_option maxHeartbeats 40000000
set_option maxRecDepth 20000
def pw (i:Nat):Nat×Nat:=Go.Pinned.pow10Rows.getD i (0,0)
def M6 (x:Int):Int:=x*78913 / 262144
def a0s (x:Int):Int:=x*108853 / 32768
def a1X (e:Int):Int:=(e*631305 - 261663) / 2097152
def W64:Nat:=18446744073709551616
def usc (x hi lo s:Nat):Nat:=
 if x*hi / W64 / 2^s*2^s=x*hi / W64 then
  (x*hi / W64 - (if x*hi%W64<x*lo / W64 then 1 else 0)) / 2^s|||(if 1<(x*hi%W64+W64 - x*lo / W64)%W64 then 1 else 0)
 else x*hi / W64 / 2^s|||1
def a2G (b:Nat):Nat:=if b / 2^52=0 then b else b%2^52+2^52
def a95 (b:Nat):Int:=(if b / 2^52=0 then 1 else (b / 2^52:Nat)) - 1023
def sh (b:Nat):Nat:=63 - (a2G b).log2
def mOf (b:Nat):Nat:=a2G b*2^sh b
def eOf (b:Nat):Int:=a95 b - sh b - 52
structure Scl where
 mn:Nat
 mx:Nat
 odd:Nat
 p:Int
def p6 (m:Nat) (e:Int):Scl:=
 if m=2^63/\ -1085<e then ⟨m - 2^9,m+2^10,m / 2^11%2, -a1X (e+11)⟩
 else if -1085<=e then ⟨m - 2^10,m+2^10,m / 2^11%2, -M6 (e+11)⟩
 else ⟨m - 2^((11+(-1085 - e)).toNat - 1),m+2^((11+(-1085 - e)).toNat - 1),m / 2^(11+(-1085 - e)).toNat%2, -M6 (e+(11+(-1085 - e)))⟩
def M9 (p:Int):Nat:=(pw (p+348).toNat).1
def N9 (p:Int):Nat:=(pw (p+348).toNat).2
def sOf (e p:Int):Nat:=(-(e+a0s p+3)).toNat
def A3 (m:Nat) (e:Int):Nat:=let c:=p6 m e;(usc c.mn (M9 c.p) (N9 c.p) (sOf e c.p)+c.odd+3) / 4
def A4 (m:Nat) (e:Int):Nat:=let c:=p6 m e;(usc c.mx (M9 c.p) (N9 c.p) (sOf e c.p) - c.odd) / 4
def rnd (u:Nat):Nat:=(u+1+u / 4%2) / 4
def z8 (m:Nat) (e:Int):Nat×Int:=
 let c:=p6 m e
 if A3 m e<=A4 m e / 10*10 then (A4 m e / 10, -(c.p - 1))
 else if A3 m e<A4 m e then (rnd (usc m (M9 c.p) (N9 c.p) (sOf e c.p)), -c.p)
 else (A3 m e, -c.p)
def a2f (b:Nat):Nat:=A3 (mOf b) (eOf b)*10^(324 - (p6 (mOf b) (eOf b)).p).toNat
def W7 (b:Nat):Nat:=A4 (mOf b) (eOf b)*10^(324 - (p6 (mOf b) (eOf b)).p).toNat
def N0 (b:Nat):Nat:=let r:=z8 (mOf b) (eOf b);r.1*10^(324+r.2).toNat
theorem a1u (a:Nat):a|||1=2*(a / 2)+1:=by
 have h1:(a|||1) / 2=a / 2:=by rw [Nat.or_div_two];simp
 have h2:(a|||1)%2=1:=Nat.or_mod_two_eq_one.2 (.inr rfl);omega
def tsc (x hi lo:Nat):Nat:=x*hi - x*lo / W64
theorem b4o (x hi lo s:Nat) (hx:x<W64) (hlo:lo<W64) (hh:x<=x*hi):
 ∃b,usc x hi lo s=(if b=1 then 2*(tsc x hi lo / (W64*2^s) / 2)+1 else tsc x hi lo / (W64*2^s))/\(1<tsc x hi lo%(W64*2^s)->b=1)/\(tsc x hi lo%(W64*2^s)=0->b≠1):=by
 have h2:x*lo / W64<=W64 - 2:=by
  have h3:x*lo<=(W64 - 1)*(W64 - 1):=Nat.mul_le_mul (by omega) (by omega);have h4:(W64 - 1)*(W64 - 1) / W64=W64 - 2:=by decide
  rw [<-h4];exact Nat.div_le_div_right h3
 have h2b:x*lo / W64<=x:=by
  refine Nat.div_le_of_le_mul ?_;rw [Nat.mul_comm W64];exact Nat.mul_le_mul_left _ (Nat.le_of_lt hlo)
 have hW:0<W64:=by decide
 have hW2:1<W64:=by decide
 have hS:0<2^s:=Nat.pos_of_ne_zero (by simp);unfold usc tsc;obtain ⟨c,hc⟩:∃c,x*lo / W64=c:=⟨_,rfl⟩;rw [hc] at h2 h2b⊢;obtain ⟨P,hP⟩:∃P,x*hi=P:=⟨_,rfl⟩;rw [hP] at hh⊢;obtain ⟨H,hH⟩:∃H,P / W64=H:=⟨_,rfl⟩;obtain ⟨d,hd⟩:∃d,P%W64=d:=⟨_,rfl⟩;have hPd:P=H*W64+d:=by rw [<-hH,<-hd,Nat.mul_comm];exact (Nat.div_add_mod P W64).symm
 have hd1:d<W64:=hd▸Nat.mod_lt _ hW;rw [hH,hd];obtain ⟨S,hSS⟩:∃S,2^s=S:=⟨_,rfl⟩;rw [hSS] at hS⊢;have hHd:=Nat.div_add_mod H S;have hHm:=Nat.mod_lt H hS;by_cases hcd:d<c
 ·
  rw [if_pos hcd]
  have hH1:1<=H:=by
   rcases Nat.eq_zero_or_pos H with h|h
   ·rw [h,Nat.zero_mul,Nat.zero_add] at hPd;omega
   exact h
  obtain ⟨G,rfl⟩:∃G,H=G+1:=⟨H - 1,by omega⟩;rw [Nat.add_mul,Nat.one_mul] at hPd;have hT:P - c=G*W64+(W64+d - c):=by omega
  have hTd:(P - c) / W64=G:=by
   rw [hT,Nat.add_comm,Nat.add_mul_div_right _ _ hW,Nat.div_eq_of_lt (by omega),Nat.zero_add]
  have hTm:(P - c)%W64=W64+d - c:=by
   rw [hT,Nat.add_comm,Nat.add_mul_mod_self_right,Nat.mod_eq_of_lt (by omega)]
  have hA:(P - c) / (W64*S)=G / S:=by rw [<-Nat.div_div_eq_div_mul,hTd]
  have hR:(P - c)%(W64*S)=(P - c)%W64+W64*((P - c) / W64%S):=Nat.mod_mul;rw [hTd,hTm] at hR;rw [hA,hR,show (d+W64 - c)%W64=W64+d - c by rw [Nat.add_comm d W64];exact Nat.mod_eq_of_lt (by omega),if_pos (show 1<W64+d - c by omega),Nat.add_sub_cancel];refine ⟨1, ?_,fun _=>rfl,fun h=>absurd h (by omega)⟩;rw [if_pos rfl];by_cases hz:(G+1) / S*S=G+1
  ·rw [if_pos hz,a1u]
  rw [if_neg hz,a1u]
  have:(G+1) / S=G / S:=by
   rw [Nat.succ_div];rw [if_neg (fun h=>hz (Nat.div_mul_cancel h))];rfl
  rw [this]
 rw [if_neg hcd];have hT:P - c=H*W64+(d - c):=by omega
 have hTd:(P - c) / W64=H:=by
  rw [hT,Nat.add_comm,Nat.add_mul_div_right _ _ hW,Nat.div_eq_of_lt (by omega),Nat.zero_add]
 have hTm:(P - c)%W64=d - c:=by
  rw [hT,Nat.add_comm,Nat.add_mul_mod_self_right,Nat.mod_eq_of_lt (by omega)]
 have hA:(P - c) / (W64*S)=H / S:=by rw [<-Nat.div_div_eq_div_mul,hTd]
 have hR:(P - c)%(W64*S)=(P - c)%W64+W64*((P - c) / W64%S):=Nat.mod_mul;rw [hTd,hTm] at hR;rw [hA,hR,show (d+W64 - c)%W64=d - c by rw [show d+W64 - c=(d - c)+W64 by omega,Nat.add_mod_right];exact Nat.mod_eq_of_lt (by omega),Nat.sub_zero];by_cases hz:H / S*S=H
 ·rw [if_pos hz];have hm0:H%S=0:=by rw [Nat.mul_comm] at hz;omega
  rw [hm0,Nat.mul_zero,Nat.add_zero];by_cases h1:1<d - c
  ·rw [if_pos h1,a1u];exact ⟨1,by rw [if_pos rfl],fun _=>rfl,fun h=>absurd h (by omega)⟩
  rw [if_neg h1];exact ⟨0,by simp,fun h=>absurd h h1,fun _=>by decide⟩
 rw [if_neg hz,a1u]
 have hm0:1<=H%S:=by
  rcases Nat.eq_zero_or_pos (H%S) with h|h
  ·exfalso;apply hz;rw [Nat.mul_comm];omega
  exact h
 refine ⟨1,by rw [if_pos rfl],fun _=>rfl,fun h=> ?_⟩;have:W64*1<=W64*(H%S):=Nat.mul_le_mul_left _ hm0;omega
structure Cut (T Q u:Nat):Prop where
 lo:∀n,4*n*Q<=T->4*n<=u
 lo1:∀n,4*n*Q+2<=T->4*n+1<=u
 up:∀n,T<4*n*Q->u<=4*n - 1
 at_:∀n,T=n*Q->u=n
 half:∀n,4*n*Q<=T+1->4*n<=u+1
theorem b4p {T Q u b:Nat} (hQ:4<Q) (hu:u=(if b=1 then 2*(T / Q / 2)+1 else T / Q)) (h1:1<T%Q->b=1) (h0:T%Q=0->b≠1):Cut T Q u:=by
 have hd:=Nat.div_add_mod T Q;have hm:=Nat.mod_lt T (show 0<Q by omega);obtain ⟨A,hA⟩:∃A,T / Q=A:=⟨_,rfl⟩;obtain ⟨r,hr⟩:∃r,T%Q=r:=⟨_,rfl⟩;rw [hA] at hd hu;rw [hr] at hd hm h1 h0;have hge:A<=u:=by rw [hu];split<;>omega
 have hle:u<=A+1 - A%2:=by rw [hu];split<;>omega
 have key:∀n,n*Q<=T->n<=A:=fun n h=>by
  rw [<-hA];exact (Nat.le_div_iff_mul_le (by omega)).2 h
 have key2:∀n,T<n*Q->A<n:=fun n h=>by
  rw [<-hA];exact Nat.div_lt_of_lt_mul (by rw [Nat.mul_comm];exact h)
 refine ⟨fun n h=>Nat.le_trans (key _ h) hge,fun n h=> ?_,fun n h=> ?_,fun n h=> ?_,fun n h=> ?_⟩
 ·have hA4:=key (4*n) (by omega);rcases Nat.lt_or_ge (4*n) A with hlt|hge2
  ·omega
  have e:A=4*n:=by omega
  rw [e,Nat.mul_comm] at hd;have:=h1 (by omega);rw [if_pos this] at hu;omega
 ·have:=key2 (4*n) h;omega
 ·have e1:=key n (Nat.le_of_eq h.symm);have e2:=key2 (n+1) (by rw [Nat.add_mul];omega);have e:A=n:=by omega
  rw [e,Nat.mul_comm] at hd;have hr0:r=0:=by omega
  rw [if_neg (h0 hr0)] at hu;omega
 rcases Nat.lt_or_ge T (4*n*Q) with hlt|hge2
 ·rcases Nat.eq_zero_or_pos n with rfl|hn
  ·omega
  obtain ⟨k,hk⟩:∃k,4*n=k+1:=⟨4*n - 1,by omega⟩;have:=key k (by rw [hk,Nat.add_mul] at h;omega);omega
 have:=key _ hge2;omega
theorem a6r {T1 T2 Q u1 u2 odd:Nat} (h1:Cut T1 Q u1) (h2:Cut T2 Q u2) (hQ:4<Q) (ho:odd<=1) (hw:T1+4*Q+2<=T2):(u1+odd+3) / 4<=(u2 - odd) / 4:=by
 obtain ⟨n,hn⟩:∃n,n=(T1+4*Q - 1) / (4*Q):=⟨_,rfl⟩;have hd:=Nat.div_add_mod (T1+4*Q - 1) (4*Q);have hm:=Nat.mod_lt (T1+4*Q - 1) (show 0<4*Q by omega);rw [<-hn] at hd;have e1:4*Q*n=4*n*Q:=by rw [Nat.mul_assoc,Nat.mul_assoc,Nat.mul_comm Q n]
 rw [e1] at hd;have hle:T1<=4*n*Q:=by omega
 have hgt:4*n*Q<T1+4*Q:=by omega
 have e2:4*(n+1)*Q=4*n*Q+4*Q:=by rw [Nat.mul_add,Nat.add_mul]
 rcases Nat.lt_or_ge T1 (4*n*Q) with hlt|hge
 ·have a:=h1.up n hlt;have b:=h2.lo1 n (by omega)
  have hn0:0<n:=by
   rcases Nat.eq_zero_or_pos n with rfl|h
   ·omega
   exact h
  omega
 have a:=h1.at_ (4*n) (by omega);have b:=h2.lo1 (n+1) (by omega);have c:=h2.lo1 n (by omega);omega
end Go.Proofs.YtaenebdppkjhoaaGreatDoor
namespace Go.Proofs
open Go.Shelf
def Tryz.lays177_ren:Go.Shelf.Ren:=⟨fun|177=>138|250=>180|289=>208|197=>239|323=>240|260=>266|339=>267|340=>268|242=>269|119=>238|345=>275|346=>276|278=>277|n=>n,fun|9=>9|5=>5|4=>4|3=>3|37=>97|21=>21|105=>298|46=>194|119=>331|0=>0|139=>334|138=>333|49=>335|234=>336|131=>166|51=>231|236=>338|n=>n,fun|3=>9|4=>10|20=>11|21=>12|22=>13|23=>14|24=>15|n=>n⟩
theorem Tryz.lays177:Go.Proofs.Lays.n177 Tryz.prog Tryz.lays177_ren:={
 mixed:=by kernel_rfl
 f119:=Tryz.func238.trans (congrArg some (by kernel_rfl))
 f177:=Tryz.func138.trans (congrArg some (by kernel_rfl))
 f197:=Tryz.func239.trans (congrArg some (by kernel_rfl))
 f242:=Tryz.func269.trans (congrArg some (by kernel_rfl))
 f250:=Tryz.func180.trans (congrArg some (by kernel_rfl))
 f260:=Tryz.func266.trans (congrArg some (by kernel_rfl))
 f278:=Tryz.func277.trans (congrArg some (by kernel_rfl))
 f289:=Tryz.func208.trans (congrArg some (by kernel_rfl))
 f323:=Tryz.func240.trans (congrArg some (by kernel_rfl))
 f339:=Tryz.func267.trans (congrArg some (by kernel_rfl))
 f340:=Tryz.func268.trans (congrArg some (by kernel_rfl))
 f345:=Tryz.func275.trans (congrArg some (by kernel_rfl))
 f346:=Tryz.func276.trans (congrArg some (by kernel_rfl))
 t0:=Tryz.underlying0
 a0:=Tryz.isAgg0
 z0:=Tryz.sizeOf0
 v0:=Tryz.zeroValue0
 t3:=Tryz.underlying3
 a3:=Tryz.isAgg3
 z3:=Tryz.sizeOf3
 v3:=Tryz.zeroValue3
 t4:=Tryz.underlying4
 a4:=Tryz.isAgg4
 z4:=Tryz.sizeOf4
 v4:=Tryz.zeroValue4
 t5:=Tryz.underlying5
 a5:=Tryz.isAgg5
 z5:=Tryz.sizeOf5
 v5:=Tryz.zeroValue5
 t9:=Tryz.underlying9
 a9:=Tryz.isAgg9
 z9:=Tryz.sizeOf9
 v9:=Tryz.zeroValue9
 t21:=Tryz.underlying21
 a21:=Tryz.isAgg21
 z21:=Tryz.sizeOf21
 v21:=Tryz.zeroValue21
 t37:=Tryz.underlying97
 a37:=Tryz.isAgg97
 z37:=Tryz.sizeOf97
 v37:=Tryz.zeroValue97
 t46:=Tryz.underlying194
 a46:=Tryz.isAgg194
 z46:=Tryz.sizeOf194
 v46:=Tryz.zeroValue194
 t49:=Tryz.underlying335
 a49:=Tryz.isAgg335
 z49:=Tryz.sizeOf335
 v49:=Tryz.zeroValue335
 t51:=Tryz.underlying231
 a51:=Tryz.isAgg231
 z51:=Tryz.sizeOf231
 v51:=Tryz.zeroValue231
 t105:=Tryz.underlying298
 a105:=Tryz.isAgg298
 z105:=Tryz.sizeOf298
 v105:=Tryz.zeroValue298
 t119:=Tryz.underlying331
 a119:=Tryz.isAgg331
 z119:=Tryz.sizeOf331
 t131:=Tryz.underlying166
 a131:=Tryz.isAgg166
 z131:=Tryz.sizeOf166
 v131:=Tryz.zeroValue166
 t138:=Tryz.underlying333
 a138:=Tryz.isAgg333
 z138:=Tryz.sizeOf333
 v138:=Tryz.zeroValue333
 t139:=Tryz.underlying334
 a139:=Tryz.isAgg334
 z139:=Tryz.sizeOf334
 v139:=Tryz.zeroValue334
 t234:=Tryz.underlying336
 a234:=Tryz.isAgg336
 z234:=Tryz.sizeOf336
 v234:=Tryz.zeroValue336
 t236:=Tryz.underlying338
 a236:=Tryz.isAgg338
 z236:=Tryz.sizeOf338
 v236:=Tryz.zeroValue338
 g3:=by kernel_rfl
 g4:=by kernel_rfl
 g20:=by kernel_rfl
 g21:=by kernel_rfl
 g22:=by kernel_rfl
 g23:=by kernel_rfl
 g24:=by kernel_rfl}
open Go.RowKit in
theorem Tryz.strconv_Quote (T:Lib.PrintTabs) (s:ByteArray) (w:World) (hlen:10*s.size+12<=140737488355328) (hT:Lib.PrintTabsAt 11 12 13 14 T w) (hU:Lib.Utf8Tabs 9 10 w):
 Calls Tryz.prog 138 #[.string s] w fun e w'=>e= .returned (.string (strOfNums (Lib.quoteZ T s)))/\Below w.heap.size w w':=Any.strconv_Quote Tryz.lays177 (by kernel_rfl) T s w hlen hT hU
def Tryz.lays129_ren:Go.Shelf.Ren:=⟨fun|129=>163|n=>n,fun|53=>221|3=>3|4=>4|46=>194|5=>5|9=>9|n=>n,fun|n=>n⟩
theorem Tryz.lays129:Go.Proofs.Lays.n129 Tryz.prog Tryz.lays129_ren:={
 mixed:=by kernel_rfl
 f129:=Tryz.func163.trans (congrArg some (by kernel_rfl))
 t3:=Tryz.underlying3
 a3:=Tryz.isAgg3
 z3:=Tryz.sizeOf3
 v3:=Tryz.zeroValue3
 t4:=Tryz.underlying4
 a4:=Tryz.isAgg4
 z4:=Tryz.sizeOf4
 v4:=Tryz.zeroValue4
 t5:=Tryz.underlying5
 a5:=Tryz.isAgg5
 z5:=Tryz.sizeOf5
 v5:=Tryz.zeroValue5
 t9:=Tryz.underlying9
 a9:=Tryz.isAgg9
 z9:=Tryz.sizeOf9
 v9:=Tryz.zeroValue9
 t46:=Tryz.underlying194
 a46:=Tryz.isAgg194
 z46:=Tryz.sizeOf194
 v46:=Tryz.zeroValue194
 t53:=Tryz.underlying221
 a53:=Tryz.isAgg221
 z53:=Tryz.sizeOf221
 v53:=Tryz.zeroValue221}
theorem Tryz.bits_Len64 (x:Int) (w:World) (h0:0<=x) (h1:x<=18446744073709551615):
 Calls Tryz.prog 163 #[.int .u64 x] w fun e w'=>e= .returned (.int .i64 (Lib.bitLen x.toNat))/\w'=w:=Any.bits_Len64 Tryz.lays129 x w h0 h1
def Tryz.laysM284_ren:Go.Shelf.Ren:=⟨fun|284=>199|129=>163|317=>221|318=>222|n=>n,fun|53=>221|3=>3|212=>280|0=>0|4=>4|46=>194|5=>5|9=>9|n=>n,fun|17=>3|n=>n⟩
theorem Tryz.laysM284:Go.Proofs.LaysM.n284 Tryz.prog Tryz.laysM284_ren:={
 mixed:=by kernel_rfl
 f129:=Tryz.func163.trans (congrArg some (by kernel_rfl))
 f284:=Tryz.func199.trans (congrArg some (by kernel_rfl))
 f317:=Tryz.func221.trans (congrArg some (by kernel_rfl))
 f318:=Tryz.func222.trans (congrArg some (by kernel_rfl))
 t0:=Tryz.underlying0
 a0:=Tryz.isAgg0
 z0:=Tryz.sizeOf0
 v0:=Tryz.zeroValue0
 t3:=Tryz.underlying3
 a3:=Tryz.isAgg3
 z3:=Tryz.sizeOf3
 v3:=Tryz.zeroValue3
 t4:=Tryz.underlying4
 a4:=Tryz.isAgg4
 z4:=Tryz.sizeOf4
 v4:=Tryz.zeroValue4
 t5:=Tryz.underlying5
 a5:=Tryz.isAgg5
 z5:=Tryz.sizeOf5
 v5:=Tryz.zeroValue5
 t9:=Tryz.underlying9
 a9:=Tryz.isAgg9
 z9:=Tryz.sizeOf9
 v9:=Tryz.zeroValue9
 t46:=Tryz.underlying194
 a46:=Tryz.isAgg194
 z46:=Tryz.sizeOf194
 v46:=Tryz.zeroValue194
 t53:=Tryz.underlying221
 a53:=Tryz.isAgg221
 z53:=Tryz.sizeOf221
 v53:=Tryz.zeroValue221
 t212:=Tryz.underlying280
 a212:=Tryz.isAgg280
 z212:=Tryz.sizeOf280
 v212:=Tryz.zeroValue280
 g17:=by kernel_rfl
 i0:=by kernel_rfl
 i3:=by kernel_rfl
 i4:=by kernel_rfl
 i5:=by kernel_rfl
 i9:=by kernel_rfl
 i46:=by kernel_rfl
 i53:=by kernel_rfl
 i212:=by kernel_rfl
 m17:=by kernel_rfl}
open Go.Lib in
theorem Tryz.internal_strconv_numDigits (u:Nat) (h1:1≤u) (h2:u<18446744073709551616) (w:World) (htab:Lib.TabIs Tryz.prog w "internal/strconv.uint64pow10" .u64 Lib.pow10Tab):
 Calls Tryz.prog 199 #[.int .u64 u] w fun e w'=>e= .returned (.int .i64 (Lib.nDigits u))/\w'=w:=Any.internal_strconv_numDigits Tryz.laysM284 u h1 h2 w htab
def Tryz.lays285_ren:Go.Shelf.Ren:=⟨fun|285=>200|n=>n,fun|37=>97|53=>221|3=>3|4=>4|51=>231|9=>9|5=>5|0=>0|n=>n,fun|n=>n⟩
theorem Tryz.lays285:Go.Proofs.Lays.n285 Tryz.prog Tryz.lays285_ren:={
 mixed:=by kernel_rfl
 f285:=Tryz.func200.trans (congrArg some (by kernel_rfl))
 t0:=Tryz.underlying0
 a0:=Tryz.isAgg0
 z0:=Tryz.sizeOf0
 v0:=Tryz.zeroValue0
 t3:=Tryz.underlying3
 a3:=Tryz.isAgg3
 z3:=Tryz.sizeOf3
 v3:=Tryz.zeroValue3
 t4:=Tryz.underlying4
 a4:=Tryz.isAgg4
 z4:=Tryz.sizeOf4
 v4:=Tryz.zeroValue4
 t5:=Tryz.underlying5
 a5:=Tryz.isAgg5
 z5:=Tryz.sizeOf5
 v5:=Tryz.zeroValue5
 t9:=Tryz.underlying9
 a9:=Tryz.isAgg9
 z9:=Tryz.sizeOf9
 v9:=Tryz.zeroValue9
 t37:=Tryz.underlying97
 a37:=Tryz.isAgg97
 z37:=Tryz.sizeOf97
 v37:=Tryz.zeroValue97
 t51:=Tryz.underlying231
 a51:=Tryz.isAgg231
 z51:=Tryz.sizeOf231
 v51:=Tryz.zeroValue231
 t53:=Tryz.underlying221
 a53:=Tryz.isAgg221
 z53:=Tryz.sizeOf221
 v53:=Tryz.zeroValue221}
open Go.RowKit Go.Sort Go.Lib in
theorem Tryz.internal_strconv_formatBase10 (blk off cap:Nat) (u:Nat) (d:Array UInt8) (w:World) (hH:Holds (fun (b:UInt8)=>Value.int .u8 (b.toNat:Int)) w blk off d) (hu:u<10^d.size) (hu64:u<18446744073709551616) (hsz:d.size<4611686018427387904):
 Calls Tryz.prog 200 #[.slice (some ⟨blk,off,none⟩) d.size cap,.int .u64 u] w fun e w'=>
  e= .returned (.tuple #[])/\∃(n v':Nat) (dk:Array UInt8),w'=(putRow (fun (b:UInt8)=>Value.int .u8 (b.toNat:Int)) w blk off dk).drewN n/\FmtInv d.size u 0 v' dk:=Any.internal_strconv_formatBase10 Tryz.lays285 blk off cap u d w hH hu hu64 hsz
def Tryz.laysM173_ren:Go.Shelf.Ren:=⟨fun|173=>135|246=>177|283=>198|284=>199|285=>200|286=>201|129=>163|317=>221|318=>222|319=>223|320=>224|337=>245|338=>246|n=>n,fun|2=>2|3=>3|9=>9|4=>4|171=>256|0=>0|53=>221|37=>97|5=>5|173=>258|212=>280|51=>231|20=>20|213=>281|46=>194|232=>286|233=>319|n=>n,fun|17=>3|18=>5|19=>6|n=>n⟩
theorem Tryz.laysM173:Go.Proofs.LaysM.n173 Tryz.prog Tryz.laysM173_ren:={
 mixed:=by kernel_rfl
 f129:=Tryz.func163.trans (congrArg some (by kernel_rfl))
 f173:=Tryz.func135.trans (congrArg some (by kernel_rfl))
 f246:=Tryz.func177.trans (congrArg some (by kernel_rfl))
 f283:=Tryz.func198.trans (congrArg some (by kernel_rfl))
 f284:=Tryz.func199.trans (congrArg some (by kernel_rfl))
 f285:=Tryz.func200.trans (congrArg some (by kernel_rfl))
 f286:=Tryz.func201.trans (congrArg some (by kernel_rfl))
 f317:=Tryz.func221.trans (congrArg some (by kernel_rfl))
 f318:=Tryz.func222.trans (congrArg some (by kernel_rfl))
 f319:=Tryz.func223.trans (congrArg some (by kernel_rfl))
 f320:=Tryz.func224.trans (congrArg some (by kernel_rfl))
 f337:=Tryz.func245.trans (congrArg some (by kernel_rfl))
 f338:=Tryz.func246.trans (congrArg some (by kernel_rfl))
 t0:=Tryz.underlying0
 a0:=Tryz.isAgg0
 z0:=Tryz.sizeOf0
 v0:=Tryz.zeroValue0
 t2:=Tryz.underlying2
 a2:=Tryz.isAgg2
 z2:=Tryz.sizeOf2
 v2:=Tryz.zeroValue2
 t3:=Tryz.underlying3
 a3:=Tryz.isAgg3
 z3:=Tryz.sizeOf3
 v3:=Tryz.zeroValue3
 t4:=Tryz.underlying4
 a4:=Tryz.isAgg4
 z4:=Tryz.sizeOf4
 v4:=Tryz.zeroValue4
 t5:=Tryz.underlying5
 a5:=Tryz.isAgg5
 z5:=Tryz.sizeOf5
 v5:=Tryz.zeroValue5
 t9:=Tryz.underlying9
 a9:=Tryz.isAgg9
 z9:=Tryz.sizeOf9
 v9:=Tryz.zeroValue9
 t20:=Tryz.underlying20
 a20:=Tryz.isAgg20
 z20:=Tryz.sizeOf20
 v20:=Tryz.zeroValue20
 t37:=Tryz.underlying97
 a37:=Tryz.isAgg97
 z37:=Tryz.sizeOf97
 v37:=Tryz.zeroValue97
 t46:=Tryz.underlying194
 a46:=Tryz.isAgg194
 z46:=Tryz.sizeOf194
 v46:=Tryz.zeroValue194
 t51:=Tryz.underlying231
 a51:=Tryz.isAgg231
 z51:=Tryz.sizeOf231
 v51:=Tryz.zeroValue231
 t53:=Tryz.underlying221
 a53:=Tryz.isAgg221
 z53:=Tryz.sizeOf221
 v53:=Tryz.zeroValue221
 t171:=Tryz.underlying256
 a171:=Tryz.isAgg256
 z171:=Tryz.sizeOf256
 v171:=Tryz.zeroValue256
 t173:=Tryz.underlying258
 a173:=Tryz.isAgg258
 z173:=Tryz.sizeOf258
 v173:=Tryz.zeroValue258
 t212:=Tryz.underlying280
 a212:=Tryz.isAgg280
 z212:=Tryz.sizeOf280
 v212:=Tryz.zeroValue280
 t213:=Tryz.underlying281
 a213:=Tryz.isAgg281
 z213:=Tryz.sizeOf281
 t232:=Tryz.underlying286
 a232:=Tryz.isAgg286
 z232:=Tryz.sizeOf286
 v232:=Tryz.zeroValue286
 t233:=Tryz.underlying319
 a233:=Tryz.isAgg319
 z233:=Tryz.sizeOf319
 v233:=Tryz.zeroValue319
 g17:=by kernel_rfl
 g18:=by kernel_rfl
 g19:=by kernel_rfl
 i0:=by kernel_rfl
 i2:=by kernel_rfl
 i3:=by kernel_rfl
 i4:=by kernel_rfl
 i5:=by kernel_rfl
 i9:=by kernel_rfl
 i20:=by kernel_rfl
 i37:=by kernel_rfl
 i46:=by kernel_rfl
 i51:=by kernel_rfl
 i53:=by kernel_rfl
 i171:=by kernel_rfl
 i173:=by kernel_rfl
 i212:=by kernel_rfl
 i232:=by kernel_rfl
 i233:=by kernel_rfl
 m17:=by kernel_rfl
 m18:=by kernel_rfl
 m19:=by kernel_rfl}
open Go.RowKit Go.Sort Go.Lib in
theorem Tryz.strconv_FormatInt_10 (n:Int) (h0: -9223372036854775808≤n) (h1:n≤9223372036854775807) (w:World) (htab:Lib.TabIs Tryz.prog w "internal/strconv.uint64pow10" .u64 Lib.pow10Tab):
 Calls Tryz.prog 135 #[.int .i64 n,.int .i64 10] w fun e w'=>e= .returned (.string ⟨(Lib.itoa n).toArray⟩)/\∃k os,w'=grow (w.drewN k) os:=Any.strconv_FormatInt_10 Tryz.laysM173 n h0 h1 w htab
def Tryz.lays189_ren:Go.Shelf.Ren:=⟨fun|189=>171|125=>116|257=>196|128=>162|129=>163|294=>212|295=>213|296=>214|297=>215|298=>216|299=>217|216=>218|300=>219|301=>220|328=>241|329=>187|330=>188|331=>242|332=>243|215=>244|343=>270|n=>n,fun|28=>23|3=>3|46=>194|0=>0|51=>231|53=>221|4=>4|183=>225|182=>224|131=>166|5=>5|9=>9|218=>244|222=>248|228=>271|229=>272|n=>n,fun|n=>n⟩
theorem Tryz.lays189:Go.Proofs.Lays.n189 Tryz.prog Tryz.lays189_ren:={
 mixed:=by kernel_rfl
 f125:=Tryz.func116.trans (congrArg some (by kernel_rfl))
 f128:=Tryz.func162.trans (congrArg some (by kernel_rfl))
 f129:=Tryz.func163.trans (congrArg some (by kernel_rfl))
 f189:=Tryz.func171.trans (congrArg some (by kernel_rfl))
 f215:=Tryz.func244.trans (congrArg some (by kernel_rfl))
 f216:=Tryz.func218.trans (congrArg some (by kernel_rfl))
 f257:=Tryz.func196.trans (congrArg some (by kernel_rfl))
 f294:=Tryz.func212.trans (congrArg some (by kernel_rfl))
 f295:=Tryz.func213.trans (congrArg some (by kernel_rfl))
 f296:=Tryz.func214.trans (congrArg some (by kernel_rfl))
 f297:=Tryz.func215.trans (congrArg some (by kernel_rfl))
 f298:=Tryz.func216.trans (congrArg some (by kernel_rfl))
 f299:=Tryz.func217.trans (congrArg some (by kernel_rfl))
 f300:=Tryz.func219.trans (congrArg some (by kernel_rfl))
 f301:=Tryz.func220.trans (congrArg some (by kernel_rfl))
 f328:=Tryz.func241.trans (congrArg some (by kernel_rfl))
 f329:=Tryz.func187.trans (congrArg some (by kernel_rfl))
 f330:=Tryz.func188.trans (congrArg some (by kernel_rfl))
 f331:=Tryz.func242.trans (congrArg some (by kernel_rfl))
 f332:=Tryz.func243.trans (congrArg some (by kernel_rfl))
 f343:=Tryz.func270.trans (congrArg some (by kernel_rfl))
 t0:=Tryz.underlying0
 a0:=Tryz.isAgg0
 z0:=Tryz.sizeOf0
 v0:=Tryz.zeroValue0
 t3:=Tryz.underlying3
 a3:=Tryz.isAgg3
 z3:=Tryz.sizeOf3
 v3:=Tryz.zeroValue3
 t4:=Tryz.underlying4
 a4:=Tryz.isAgg4
 z4:=Tryz.sizeOf4
 v4:=Tryz.zeroValue4
 t5:=Tryz.underlying5
 a5:=Tryz.isAgg5
 z5:=Tryz.sizeOf5
 v5:=Tryz.zeroValue5
 t9:=Tryz.underlying9
 a9:=Tryz.isAgg9
 z9:=Tryz.sizeOf9
 v9:=Tryz.zeroValue9
 t28:=Tryz.underlying23
 a28:=Tryz.isAgg23
 z28:=Tryz.sizeOf23
 v28:=Tryz.zeroValue23
 t46:=Tryz.underlying194
 a46:=Tryz.isAgg194
 z46:=Tryz.sizeOf194
 v46:=Tryz.zeroValue194
 t51:=Tryz.underlying231
 a51:=Tryz.isAgg231
 z51:=Tryz.sizeOf231
 v51:=Tryz.zeroValue231
 t53:=Tryz.underlying221
 a53:=Tryz.isAgg221
 z53:=Tryz.sizeOf221
 v53:=Tryz.zeroValue221
 t131:=Tryz.underlying166
 a131:=Tryz.isAgg166
 z131:=Tryz.sizeOf166
 v131:=Tryz.zeroValue166
 t182:=Tryz.underlying224
 a182:=Tryz.isAgg224
 z182:=Tryz.sizeOf224
 v182:=Tryz.zeroValue224
 t183:=Tryz.underlying225
 a183:=Tryz.isAgg225
 z183:=Tryz.sizeOf225
 v183:=Tryz.zeroValue225
 t218:=Tryz.underlying244
 a218:=Tryz.isAgg244
 z218:=Tryz.sizeOf244
 v218:=Tryz.zeroValue244
 t222:=Tryz.underlying248
 a222:=Tryz.isAgg248
 z222:=Tryz.sizeOf248
 v222:=Tryz.zeroValue248
 t228:=Tryz.underlying271
 a228:=Tryz.isAgg271
 z228:=Tryz.sizeOf271
 v228:=Tryz.zeroValue271
 t229:=Tryz.underlying272
 a229:=Tryz.isAgg272
 z229:=Tryz.sizeOf272
 v229:=Tryz.zeroValue272}
open Go.Sort Go.RowKit in
theorem Tryz.slices_Sort_int (blk off cap:Nat) (zs:List Int) (w:World) (hH:Holds (Value.int .i64) w blk off zs.toArray) (hblk:blk<w.heap.size) (hsz:zs.length<4611686018427387904):
 Calls Tryz.prog 171 #[.slice (some ⟨blk,off,none⟩) zs.length cap] w fun e w'=>
  e= .returned (.tuple #[])/\∃n os,w'=grow (putRow (Value.int .i64) (Sort.ahead w n) blk off (zs.mergeSort fun x y=>decide (x<=y)).toArray) os:=Any.slices_Sort_int Tryz.lays189 blk off cap zs w hH hblk hsz
def Tryz.lays190_ren:Go.Shelf.Ren:=⟨fun|190=>82|125=>116|258=>115|128=>162|129=>163|302=>153|303=>154|304=>155|305=>156|306=>157|307=>158|308=>159|309=>160|310=>161|333=>186|329=>187|330=>188|334=>189|335=>190|336=>191|344=>211|n=>n,fun|31=>74|9=>9|3=>3|46=>194|0=>0|51=>231|53=>221|4=>4|183=>225|182=>224|131=>166|5=>5|218=>244|222=>248|228=>271|229=>272|n=>n,fun|n=>n⟩
theorem Tryz.lays190:Go.Proofs.Lays.n190 Tryz.prog Tryz.lays190_ren:={
 mixed:=by kernel_rfl
 f125:=Tryz.func116.trans (congrArg some (by kernel_rfl))
 f128:=Tryz.func162.trans (congrArg some (by kernel_rfl))
 f129:=Tryz.func163.trans (congrArg some (by kernel_rfl))
 f190:=Tryz.func82.trans (congrArg some (by kernel_rfl))
 f258:=Tryz.func115.trans (congrArg some (by kernel_rfl))
 f302:=Tryz.func153.trans (congrArg some (by kernel_rfl))
 f303:=Tryz.func154.trans (congrArg some (by kernel_rfl))
 f304:=Tryz.func155.trans (congrArg some (by kernel_rfl))
 f305:=Tryz.func156.trans (congrArg some (by kernel_rfl))
 f306:=Tryz.func157.trans (congrArg some (by kernel_rfl))
 f307:=Tryz.func158.trans (congrArg some (by kernel_rfl))
 f308:=Tryz.func159.trans (congrArg some (by kernel_rfl))
 f309:=Tryz.func160.trans (congrArg some (by kernel_rfl))
 f310:=Tryz.func161.trans (congrArg some (by kernel_rfl))
 f329:=Tryz.func187.trans (congrArg some (by kernel_rfl))
 f330:=Tryz.func188.trans (congrArg some (by kernel_rfl))
 f333:=Tryz.func186.trans (congrArg some (by kernel_rfl))
 f334:=Tryz.func189.trans (congrArg some (by kernel_rfl))
 f335:=Tryz.func190.trans (congrArg some (by kernel_rfl))
 f336:=Tryz.func191.trans (congrArg some (by kernel_rfl))
 f344:=Tryz.func211.trans (congrArg some (by kernel_rfl))
 t0:=Tryz.underlying0
 a0:=Tryz.isAgg0
 z0:=Tryz.sizeOf0
 v0:=Tryz.zeroValue0
 t3:=Tryz.underlying3
 a3:=Tryz.isAgg3
 z3:=Tryz.sizeOf3
 v3:=Tryz.zeroValue3
 t4:=Tryz.underlying4
 a4:=Tryz.isAgg4
 z4:=Tryz.sizeOf4
 v4:=Tryz.zeroValue4
 t5:=Tryz.underlying5
 a5:=Tryz.isAgg5
 z5:=Tryz.sizeOf5
 v5:=Tryz.zeroValue5
 t9:=Tryz.underlying9
 a9:=Tryz.isAgg9
 z9:=Tryz.sizeOf9
 v9:=Tryz.zeroValue9
 t31:=Tryz.underlying74
 a31:=Tryz.isAgg74
 z31:=Tryz.sizeOf74
 v31:=Tryz.zeroValue74
 t46:=Tryz.underlying194
 a46:=Tryz.isAgg194
 z46:=Tryz.sizeOf194
 v46:=Tryz.zeroValue194
 t51:=Tryz.underlying231
 a51:=Tryz.isAgg231
 z51:=Tryz.sizeOf231
 v51:=Tryz.zeroValue231
 t53:=Tryz.underlying221
 a53:=Tryz.isAgg221
 z53:=Tryz.sizeOf221
 v53:=Tryz.zeroValue221
 t131:=Tryz.underlying166
 a131:=Tryz.isAgg166
 z131:=Tryz.sizeOf166
 v131:=Tryz.zeroValue166
 t182:=Tryz.underlying224
 a182:=Tryz.isAgg224
 z182:=Tryz.sizeOf224
 v182:=Tryz.zeroValue224
 t183:=Tryz.underlying225
 a183:=Tryz.isAgg225
 z183:=Tryz.sizeOf225
 v183:=Tryz.zeroValue225
 t218:=Tryz.underlying244
 a218:=Tryz.isAgg244
 z218:=Tryz.sizeOf244
 v218:=Tryz.zeroValue244
 t222:=Tryz.underlying248
 a222:=Tryz.isAgg248
 z222:=Tryz.sizeOf248
 v222:=Tryz.zeroValue248
 t228:=Tryz.underlying271
 a228:=Tryz.isAgg271
 z228:=Tryz.sizeOf271
 v228:=Tryz.zeroValue271
 t229:=Tryz.underlying272
 a229:=Tryz.isAgg272
 z229:=Tryz.sizeOf272
 v229:=Tryz.zeroValue272}
open Go.Sort Go.RowKit in
theorem Tryz.slices_Sort_string (blk off cap:Nat) (ss:List (List UInt8)) (w:World) (hH:Holds encStr w blk off ss.toArray) (hblk:blk<w.heap.size) (hsz:ss.length<4611686018427387904):
 Calls Tryz.prog 82 #[.slice (some ⟨blk,off,none⟩) ss.length cap] w fun e w'=>
  e= .returned (.tuple #[])/\∃n os,w'=grow (putRow encStr (Sort.ahead w n) blk off (ss.mergeSort fun x y=>decide (x<=y)).toArray) os:=Any.slices_Sort_string Tryz.lays190 blk off cap ss w hH hblk hsz
def Tryz.lays150_ren:Go.Shelf.Ren:=⟨fun|150=>137|153=>179|152=>204|226=>205|227=>206|228=>207|137=>237|119=>238|224=>167|225=>166|217=>165|266=>193|n=>n,fun|9=>9|4=>4|3=>3|5=>5|21=>21|117=>266|116=>265|0=>0|46=>194|124=>297|n=>n,fun|n=>n⟩
theorem Tryz.lays150:Go.Proofs.Lays.n150 Tryz.prog Tryz.lays150_ren:={
 mixed:=by kernel_rfl
 f119:=Tryz.func238.trans (congrArg some (by kernel_rfl))
 f137:=Tryz.func237.trans (congrArg some (by kernel_rfl))
 f150:=Tryz.func137.trans (congrArg some (by kernel_rfl))
 f152:=Tryz.func204.trans (congrArg some (by kernel_rfl))
 f153:=Tryz.func179.trans (congrArg some (by kernel_rfl))
 f217:=Tryz.func165.trans (congrArg some (by kernel_rfl))
 f224:=Tryz.func167.trans (congrArg some (by kernel_rfl))
 f225:=Tryz.func166.trans (congrArg some (by kernel_rfl))
 f226:=Tryz.func205.trans (congrArg some (by kernel_rfl))
 f227:=Tryz.func206.trans (congrArg some (by kernel_rfl))
 f228:=Tryz.func207.trans (congrArg some (by kernel_rfl))
 f266:=Tryz.func193.trans (congrArg some (by kernel_rfl))
 t0:=Tryz.underlying0
 a0:=Tryz.isAgg0
 z0:=Tryz.sizeOf0
 v0:=Tryz.zeroValue0
 t3:=Tryz.underlying3
 a3:=Tryz.isAgg3
 z3:=Tryz.sizeOf3
 v3:=Tryz.zeroValue3
 t4:=Tryz.underlying4
 a4:=Tryz.isAgg4
 z4:=Tryz.sizeOf4
 v4:=Tryz.zeroValue4
 t5:=Tryz.underlying5
 a5:=Tryz.isAgg5
 z5:=Tryz.sizeOf5
 v5:=Tryz.zeroValue5
 t9:=Tryz.underlying9
 a9:=Tryz.isAgg9
 z9:=Tryz.sizeOf9
 v9:=Tryz.zeroValue9
 t21:=Tryz.underlying21
 a21:=Tryz.isAgg21
 z21:=Tryz.sizeOf21
 v21:=Tryz.zeroValue21
 t46:=Tryz.underlying194
 a46:=Tryz.isAgg194
 z46:=Tryz.sizeOf194
 v46:=Tryz.zeroValue194
 t116:=Tryz.underlying265
 a116:=Tryz.isAgg265
 z116:=Tryz.sizeOf265
 t117:=Tryz.underlying266
 a117:=Tryz.isAgg266
 z117:=Tryz.sizeOf266
 v117:=Tryz.zeroValue266
 t124:=Tryz.underlying297
 a124:=Tryz.isAgg297
 z124:=Tryz.sizeOf297
 v124:=Tryz.zeroValue297}
open Go.RowKit Go.Lib in
theorem Tryz.strings_ContainsAny_laid (s chars:ByteArray) (w:World) (hs:s.size<4294967281) (hcs:chars.size<4294967281) (has:∀(j:Nat) b,s.data.toList[j]? =some b->b.toNat<128) (hac:∀(j:Nat) b,chars.data.toList[j]? =some b->b.toNat<128):
 Calls Tryz.prog 137 #[.string s,.string chars] w fun e w'=>e= .returned (.bool (Lib.containsAny s.data.toList chars.data.toList))/\Below w.heap.size w w':=Any.strings_ContainsAny_laid Tryz.lays150 (by kernel_rfl) s chars w hs hcs has hac
def Tryz.lays264_ren:Go.Shelf.Ren:=⟨fun|264=>271|n=>n,fun|53=>221|46=>194|n=>n,fun|n=>n⟩
theorem Tryz.lays264:Go.Proofs.Lays.n264 Tryz.prog Tryz.lays264_ren:={
 mixed:=by kernel_rfl
 f264:=Tryz.func271.trans (congrArg some (by kernel_rfl))
 t46:=Tryz.underlying194
 a46:=Tryz.isAgg194
 z46:=Tryz.sizeOf194
 v46:=Tryz.zeroValue194
 t53:=Tryz.underlying221
 a53:=Tryz.isAgg221
 z53:=Tryz.sizeOf221
 v53:=Tryz.zeroValue221}
open Go.RowKit Go.Lib in
theorem Tryz.bits_Mul64 (x y:Nat) (hx:x<18446744073709551616) (hy:y<18446744073709551616) (w:World):
 Calls Tryz.prog 271 #[.int .u64 x,.int .u64 y] w fun e w'=>e= .returned (.tuple #[.int .u64 ((x*y / 18446744073709551616:Nat):Int),.int .u64 ((x*y%18446744073709551616:Nat):Int)])/\w'=w:=Any.bits_Mul64 Tryz.lays264 x y hx hy w
def Tryz.lays110_ren:Go.Shelf.Ren:=⟨fun|110=>173|109=>197|n=>n,fun|31=>74|9=>9|4=>4|3=>3|0=>0|n=>n,fun|n=>n⟩
theorem Tryz.lays110:Go.Proofs.Lays.n110 Tryz.prog Tryz.lays110_ren:={
 mixed:=by kernel_rfl
 f109:=Tryz.func197.trans (congrArg some (by kernel_rfl))
 f110:=Tryz.func173.trans (congrArg some (by kernel_rfl))
 t0:=Tryz.underlying0
 a0:=Tryz.isAgg0
 z0:=Tryz.sizeOf0
 v0:=Tryz.zeroValue0
 t3:=Tryz.underlying3
 a3:=Tryz.isAgg3
 z3:=Tryz.sizeOf3
 v3:=Tryz.zeroValue3
 t4:=Tryz.underlying4
 a4:=Tryz.isAgg4
 z4:=Tryz.sizeOf4
 v4:=Tryz.zeroValue4
 t9:=Tryz.underlying9
 a9:=Tryz.isAgg9
 z9:=Tryz.sizeOf9
 v9:=Tryz.zeroValue9
 t31:=Tryz.underlying74
 a31:=Tryz.isAgg74
 z31:=Tryz.sizeOf74
 v31:=Tryz.zeroValue74}
open Go.Lib in
theorem Tryz.slices_Contains_string (b off n c:Nat) (zs:List ByteArray) (x:ByteArray) (w:World) (hz:n<=zs.length) (hbig:n<=9223372036854775807) (hc:∀j,j<zs.length->w.cell? ⟨b,off+j,none⟩=some (.string (zs.getD j ByteArray.empty))):
 Calls Tryz.prog 173 #[.slice (some ⟨b,off,none⟩) n c,.string x] w fun e w'=>e= .returned (.bool (Lib.containsS (zs.take n) x))/\w'=w:=Any.slices_Contains_string Tryz.lays110 b off n c zs x w hz hbig hc
open Go.Lib in
theorem Tryz.slices_Contains_string_empty (a:Option Addr) (c:Nat) (x:ByteArray) (w:World):
 Calls Tryz.prog 173 #[.slice a 0 c,.string x] w fun e w'=>e= .returned (.bool false)/\w'=w:=Any.slices_Contains_string_empty Tryz.lays110 a c x w
def Tryz.laysNm215_ren:Go.Shelf.Ren:=⟨fun|15=>47|n=>n,fun|22=>23|3=>3|4=>4|n=>n,fun|n=>n⟩
theorem Tryz.laysNm215:Go.Proofs.Lays2.n15 Tryz.prog Tryz.laysNm215_ren:={
 mixed:=by kernel_rfl
 f15:=Tryz.func47.trans (congrArg some (by kernel_rfl))
 t3:=Tryz.underlying3
 a3:=Tryz.isAgg3
 z3:=Tryz.sizeOf3
 v3:=Tryz.zeroValue3
 t4:=Tryz.underlying4
 a4:=Tryz.isAgg4
 z4:=Tryz.sizeOf4
 v4:=Tryz.zeroValue4
 t22:=Tryz.underlying23
 a22:=Tryz.isAgg23
 z22:=Tryz.sizeOf23
 v22:=Tryz.zeroValue23
 i3:=by kernel_rfl}
open Go.RowKit Go.Lib in
theorem Tryz.slices_Clone_int (b off n c:Nat) (zs:List Int) (w:World) (hz:n<=zs.length) (hbig:n*8<=140737488355328) (hc:∀j,j<zs.length->w.cell? ⟨b,off+j,none⟩=some (.int .i64 (zs.getD j 0))):
 Calls Tryz.prog 47 #[.slice (some ⟨b,off,none⟩) n c] w fun e w'=>∃v',e= .returned v'/\w'.ownsRow w.heap.size 3 1 v' n ((zs.take n).map (Value.int .i64))/\v'≠ .slice none 0 0/\Below w.heap.size w w':=Any.slices_Clone_int Tryz.laysNm215 b off n c zs w hz hbig hc
open Go.RowKit Go.Lib in
theorem Tryz.slices_Clone_int_nil (n c:Nat) (w:World):
 Calls Tryz.prog 47 #[.slice none n c] w fun e w'=>e= .returned (.slice none 0 0)/\w'=w:=Any.slices_Clone_int_nil Tryz.laysNm215 n c w
open Go.RowKit Go.Lib in
theorem Tryz.slices_Clone_int_zero (a:Addr) (c:Nat) (w:World):
 Calls Tryz.prog 47 #[.slice (some a) 0 c] w fun e w'=>∃v',e= .returned v'/\w'.ownsRow w.heap.size 3 1 v' 0 []/\v'≠ .slice none 0 0/\Below w.heap.size w w':=Any.slices_Clone_int_zero Tryz.laysNm215 a c w
def Tryz.lays194_ren:Go.Shelf.Ren:=⟨fun|194=>83|n=>n,fun|31=>74|9=>9|3=>3|4=>4|0=>0|n=>n,fun|n=>n⟩
theorem Tryz.lays194:Go.Proofs.Lays.n194 Tryz.prog Tryz.lays194_ren:={
 mixed:=by kernel_rfl
 f194:=Tryz.func83.trans (congrArg some (by kernel_rfl))
 t0:=Tryz.underlying0
 a0:=Tryz.isAgg0
 z0:=Tryz.sizeOf0
 v0:=Tryz.zeroValue0
 t3:=Tryz.underlying3
 a3:=Tryz.isAgg3
 z3:=Tryz.sizeOf3
 v3:=Tryz.zeroValue3
 t4:=Tryz.underlying4
 a4:=Tryz.isAgg4
 z4:=Tryz.sizeOf4
 v4:=Tryz.zeroValue4
 t9:=Tryz.underlying9
 a9:=Tryz.isAgg9
 z9:=Tryz.sizeOf9
 v9:=Tryz.zeroValue9
 t31:=Tryz.underlying74
 a31:=Tryz.isAgg74
 z31:=Tryz.sizeOf74
 v31:=Tryz.zeroValue74}
open Go.RowKit Go.Lib Go.Sort in
theorem Tryz.slices_Compact_string (blk off cap:Nat) (zs:List (List UInt8)) (w:World) (hH:Holds encStr w blk off zs.toArray) (hsz:zs.length<=9223372036854775807) (hcap:zs.length<=cap):
 Calls Tryz.prog 83 #[.slice (some ⟨blk,off,none⟩) zs.length cap] w fun e w'=>e= .returned (.slice (some ⟨blk,off,none⟩) (Lib.compact zs).length cap)/\∃q,w'=putRow encStr (Sort.ahead w q) blk off (Lib.compact zs++List.replicate (zs.length - (Lib.compact zs).length) []).toArray:=Any.slices_Compact_string Tryz.lays194 blk off cap zs w hH hsz hcap
open Go.RowKit Go.Lib Go.Sort in
theorem Tryz.slices_Compact_string_empty (a:Option Addr) (cap:Nat) (w:World):
 Calls Tryz.prog 83 #[.slice a 0 cap] w fun e w'=>e= .returned (.slice a 0 cap)/\w'=w:=Any.slices_Compact_string_empty Tryz.lays194 a cap w
open Go.RowKit Go.Sort in
theorem Tryz.slices_Sort_string_none (p:Option Addr) (cap:Nat) (w:World):
 Calls Tryz.prog 82 #[.slice p 0 cap] w fun e w'=>e= .returned (.tuple #[])/\w'=w:=Any.slices_Sort_string_none Tryz.lays190 p cap w
open Go.RowKit Go.Sort in
theorem Tryz.slices_Sort_int_none (p:Option Addr) (cap:Nat) (w:World):
 Calls Tryz.prog 171 #[.slice p 0 cap] w fun e w'=>e= .returned (.tuple #[])/\w'=w:=Any.slices_Sort_int_none Tryz.lays189 p cap w
end Go.Proofs
