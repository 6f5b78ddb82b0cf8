/- Lemmas. -/
import GoSem.PinnedTables
import Derived.Shelf.Small.Utf8
import Derived.Shelf.Small.Bits
import Derived.Shelf.Small.Strs
import Derived.Shelf.Small.Wraps
import Derived.Shelf.Utf8.AppendRune
import Derived.Shelf.Strconv.Bsearch
import Derived.Shelf.Strconv.IsPrint
import Derived.Shelf.Strconv.IsPrint16
import Derived.Shelf.Strconv.IsPrint32
import Derived.Shelf.Strconv.Escaped
import Derived.Shelf.Strconv.Quoted
import Derived.Shelf.Strconv.Quote
import Derived.Shelf.Strconv.Itoa0
import Derived.Shelf.Strconv.Itoa1
import Derived.Shelf.LaysM
import Derived.Shelf.Strconv.Itoa2
import Derived.Shelf.Strconv.Itoa3
import Derived.Shelf.Strconv.Itoa4
import Derived.Shelf.Strings.Search1
import Derived.Shelf.Strings.Search2
import Derived.Shelf.Strings.Cut
import Derived.Shelf.Strings.Shaped
import Derived.Shelf.Sort.Plain
import Derived.Shelf.Strings.Prefix
import Derived.Shelf.Unicode.Decode
import Derived.Shelf.Strings.Runes
import Derived.Shelf.Strings.IndexAny
import Derived.Shelf.Strings.AsciiSet
import Derived.Shelf.Strings.IndexAnyAll
import Derived.Shelf.Bits.Mul64
import Derived.Shelf.Unicode.DecodeSlow
import Derived.Shelf.Unicode.DecodeAny
import Derived.Shelf.Slices.Turned
import Derived.Ground.Names2Prog
import Derived.Shelf.Slices.Clone
import Derived.Shelf.Slices.CompactS
import Derived.Shelf.Slices.SearchI
import Derived.Shelf.Slices.Cells
import Derived.Shelf.Slices.In.SortNone
import Derived.Ground.SlgnProg
import Derived.Shelf.SlicesE.Clone
import Derived.Test.YtdmjoodhaeijmaaGreatDoorZn1
import Derived.Test.YtdmjoodhaeijmaaGreatDoorZn3
import Derived.Test.YtdmjoodhaeijmaaGreatDoorChecked
import Derived.WalkSmall
import Derived.Laws.Bits64b
import Derived.Deep.DeepCutAuto
import Derived.Deep.CutBlock
set_option maxHeartbeats 40000000
set_option maxRecDepth 20000
namespace Go.Proofs.YtdmjoodhaeijmaaGreatDoor
def pw (i:Nat):Nat×Nat:=Go.Pinned.pow10Rows.getD i (0,0)
def Q9 (x:Int):Int:=x*78913 / 262144
def a1b (x:Int):Int:=x*108853 / 32768
def a2z (e:Int):Int:=(e*631305 - 261663) / 2097152
def W64:Nat:=18446744073709551616
def usc (x hi lo s:Nat):Nat:=
 if x*hi / W64 / 2^s*2^s=x*hi / W64 then
  (x*hi / W64 - (if x*hi%W64<x*lo / W64 then 1 else 0)) / 2^s|||(if 1<(x*hi%W64+W64 - x*lo / W64)%W64 then 1 else 0)
 else x*hi / W64 / 2^s|||1
def a3Y (b:Nat):Nat:=if b / 2^52=0 then b else b%2^52+2^52
def b3i (b:Nat):Int:=(if b / 2^52=0 then 1 else (b / 2^52:Nat)) - 1023
def sh (b:Nat):Nat:=63 - (a3Y b).log2
def mOf (b:Nat):Nat:=a3Y b*2^sh b
def eOf (b:Nat):Int:=b3i b - sh b - 52
structure Scl where
 mn:Nat
 mx:Nat
 odd:Nat
 p:Int
def t6 (m:Nat) (e:Int):Scl:=
 if m=2^63/\ -1085<e then ⟨m - 2^9,m+2^10,m / 2^11%2, -a2z (e+11)⟩
 else if -1085<=e then ⟨m - 2^10,m+2^10,m / 2^11%2, -Q9 (e+11)⟩
 else ⟨m - 2^((11+(-1085 - e)).toNat - 1),m+2^((11+(-1085 - e)).toNat - 1),m / 2^(11+(-1085 - e)).toNat%2, -Q9 (e+(11+(-1085 - e)))⟩
def S3 (p:Int):Nat:=(pw (p+348).toNat).1
def V0 (p:Int):Nat:=(pw (p+348).toNat).2
def sOf (e p:Int):Nat:=(-(e+a1b p+3)).toNat
def D3 (m:Nat) (e:Int):Nat:=let c:=t6 m e;(usc c.mn (S3 c.p) (V0 c.p) (sOf e c.p)+c.odd+3) / 4
def D4 (m:Nat) (e:Int):Nat:=let c:=t6 m e;(usc c.mx (S3 c.p) (V0 c.p) (sOf e c.p) - c.odd) / 4
def rnd (u:Nat):Nat:=(u+1+u / 4%2) / 4
def B8 (m:Nat) (e:Int):Nat×Int:=
 let c:=t6 m e
 if D3 m e<=D4 m e / 10*10 then (D4 m e / 10, -(c.p - 1))
 else if D3 m e<D4 m e then (rnd (usc m (S3 c.p) (V0 c.p) (sOf e c.p)), -c.p)
 else (D3 m e, -c.p)
def a2J (b:Nat):Nat:=D3 (mOf b) (eOf b)*10^(324 - (t6 (mOf b) (eOf b)).p).toNat
def a0l (b:Nat):Nat:=D4 (mOf b) (eOf b)*10^(324 - (t6 (mOf b) (eOf b)).p).toNat
def S4 (b:Nat):Nat:=let r:=B8 (mOf b) (eOf b);r.1*10^(324+r.2).toNat
theorem a2i (a:Nat):a|||1=2*(a / 2)+1:=by
 have h1:(a|||1) / 2=a / 2:=by rw [Nat.or_div_two];simp
 have h2:(a|||1)%2=1:=Nat.or_mod_two_eq_one.2 (.inr rfl);omega
def tsc (x hi lo:Nat):Nat:=x*hi - x*lo / W64
theorem b6c (x hi lo s:Nat) (hx:x<W64) (hlo:lo<W64) (hh:x<=x*hi):
 ∃b,usc x hi lo s=(if b=1 then 2*(tsc x hi lo / (W64*2^s) / 2)+1 else tsc x hi lo / (W64*2^s))/\(1<tsc x hi lo%(W64*2^s)->b=1)/\(tsc x hi lo%(W64*2^s)=0->b≠1):=by
 have h2:x*lo / W64<=W64 - 2:=by
  have h3:x*lo<=(W64 - 1)*(W64 - 1):=Nat.mul_le_mul zo zo;have h4:(W64 - 1)*(W64 - 1) / W64=W64 - 2:=zd
  rw [<-h4];exact Nat.div_le_div_right h3
 have VT:x*lo / W64<=x:=by
  refine Nat.div_le_of_le_mul ?_;rw [Nat.mul_comm W64];exact Nat.mul_le_mul_left _ (Nat.le_of_lt hlo)
 have hW:0<W64:=zd
 have hW2:1<W64:=zd
 have hS:0<2^s:=Nat.pos_of_ne_zero (by simp);unfold usc tsc;obtain ⟨c,hc⟩:∃c,x*lo / W64=c:=⟨_,rfl⟩;rw [hc] at h2 VT⊢;obtain ⟨P,hP⟩:∃P,x*hi=P:=⟨_,rfl⟩;rw [hP] at hh⊢;obtain ⟨H,hH⟩:∃H,P / W64=H:=⟨_,rfl⟩;obtain ⟨d,hd⟩:∃d,P%W64=d:=⟨_,rfl⟩;have Qs:P=H*W64+d:=by rw [<-hH,<-hd,Nat.mul_comm];exact (Nat.div_add_mod P W64).symm
 have hd1:d<W64:=hd▸Nat.mod_lt _ hW;rw [hH,hd];obtain ⟨S,hSS⟩:∃S,2^s=S:=⟨_,rfl⟩;rw [hSS] at hS⊢;have hHd:=Nat.div_add_mod H S;have LF:=Nat.mod_lt H hS;by_cases hcd:d<c
 ·
  rw [if_pos hcd]
  have hH1:1<=H:=by
   rcases Nat.eq_zero_or_pos H with h|h
   ·rw [h,Nat.zero_mul,Nat.zero_add] at Qs;omega
   exact h
  obtain ⟨G,rfl⟩:∃G,H=G+1:=⟨H - 1,zo⟩;rw [Nat.add_mul,Nat.one_mul] at Qs;have hT:P - c=G*W64+(W64+d - c):=zo
  have vW:(P - c) / W64=G:=by
   rw [hT,Nat.add_comm,Nat.add_mul_div_right _ _ hW,Nat.div_eq_of_lt zo,Nat.zero_add]
  have Nl:(P - c)%W64=W64+d - c:=by
   rw [hT,Nat.add_comm,Nat.add_mul_mod_self_right,Nat.mod_eq_of_lt zo]
  have hA:(P - c) / (W64*S)=G / S:=by rw [<-Nat.div_div_eq_div_mul,vW]
  have hR:(P - c)%(W64*S)=(P - c)%W64+W64*((P - c) / W64%S):=Nat.mod_mul;rw [vW,Nl] at hR;rw [hA,hR,show (d+W64 - c)%W64=W64+d - c by rw [Nat.add_comm d W64];exact Nat.mod_eq_of_lt zo,if_pos (show 1<W64+d - c by omega),Nat.add_sub_cancel];refine ⟨1, ?_,fun _=>rfl,fun h=>absurd h zo⟩;rw [if_pos rfl];by_cases hz:(G+1) / S*S=G+1
  ·rw [if_pos hz,a2i]
  rw [if_neg hz,a2i]
  have:(G+1) / S=G / S:=by
   rw [Nat.succ_div];rw [if_neg (fun h=>hz (Nat.div_mul_cancel h))];rfl
  rw [this]
 rw [if_neg hcd];have hT:P - c=H*W64+(d - c):=zo
 have vW:(P - c) / W64=H:=by
  rw [hT,Nat.add_comm,Nat.add_mul_div_right _ _ hW,Nat.div_eq_of_lt zo,Nat.zero_add]
 have Nl:(P - c)%W64=d - c:=by
  rw [hT,Nat.add_comm,Nat.add_mul_mod_self_right,Nat.mod_eq_of_lt zo]
 have hA:(P - c) / (W64*S)=H / S:=by rw [<-Nat.div_div_eq_div_mul,vW]
 have hR:(P - c)%(W64*S)=(P - c)%W64+W64*((P - c) / W64%S):=Nat.mod_mul;rw [vW,Nl] at hR;rw [hA,hR,show (d+W64 - c)%W64=d - c by rw [show d+W64 - c=(d - c)+W64 by omega,Nat.add_mod_right];exact Nat.mod_eq_of_lt zo,Nat.sub_zero];by_cases hz:H / S*S=H
 ·rw [if_pos hz];have hm0:H%S=0:=by rw [Nat.mul_comm] at hz;omega
  rw [hm0,Nat.mul_zero,Nat.add_zero];by_cases h1:1<d - c
  ·rw [if_pos h1,a2i];exact ⟨1,by rw [if_pos rfl],fun _=>rfl,fun h=>absurd h zo⟩
  rw [if_neg h1];exact ⟨0,by simp,fun h=>absurd h h1,fun _=>zd⟩
 rw [if_neg hz,a2i]
 have hm0:1<=H%S:=by
  rcases Nat.eq_zero_or_pos (H%S) with h|h
  ·exfalso;apply hz;rw [Nat.mul_comm];omega
  exact h
 refine ⟨1,by rw [if_pos rfl],fun _=>rfl,fun h=> ?_⟩;have:W64*1<=W64*(H%S):=Nat.mul_le_mul_left _ hm0;omega
structure Cut (T Q u:Nat):Prop where
 lo:∀n,4*n*Q<=T->4*n<=u
 lo1:∀n,4*n*Q+2<=T->4*n+1<=u
 up:∀n,T<4*n*Q->u<=4*n - 1
 at_:∀n,T=n*Q->u=n
 half:∀n,4*n*Q<=T+1->4*n<=u+1
theorem b6d {T Q u b:Nat} (hQ:4<Q) (hu:u=(if b=1 then 2*(T / Q / 2)+1 else T / Q)) (h1:1<T%Q->b=1) (h0:T%Q=0->b≠1):Cut T Q u:=by
 have hd:=Nat.div_add_mod T Q;have hm:=Nat.mod_lt T (show 0<Q by omega);obtain ⟨A,hA⟩:∃A,T / Q=A:=⟨_,rfl⟩;obtain ⟨r,hr⟩:∃r,T%Q=r:=⟨_,rfl⟩;rw [hA] at hd hu;rw [hr] at hd hm h1 h0;have hge:A<=u:=by rw [hu];split<;>omega
 have hle:u<=A+1 - A%2:=by rw [hu];split<;>omega
 have key:∀n,n*Q<=T->n<=A:=fun n h=>by
  rw [<-hA];exact (Nat.le_div_iff_mul_le zo).2 h
 have key2:∀n,T<n*Q->A<n:=fun n h=>by
  rw [<-hA];exact Nat.div_lt_of_lt_mul (by rw [Nat.mul_comm];exact h)
 refine ⟨fun n h=>Nat.le_trans (key _ h) hge,fun n h=> ?_,fun n h=> ?_,fun n h=> ?_,fun n h=> ?_⟩
 ·have iK:=key (4*n) zo;rcases Nat.lt_or_ge (4*n) A with hlt|Gj
  ·omega
  have e:A=4*n:=zo
  rw [e,Nat.mul_comm] at hd;have:=h1 zo;rw [if_pos this] at hu;omega
 ·have:=key2 (4*n) h;omega
 ·have e1:=key n (Nat.le_of_eq h.symm);have e2:=key2 (n+1) (by rw [Nat.add_mul];omega);have e:A=n:=zo
  rw [e,Nat.mul_comm] at hd;have hr0:r=0:=zo
  rw [if_neg (h0 hr0)] at hu;omega
 rcases Nat.lt_or_ge T (4*n*Q) with hlt|Gj
 ·rcases Nat.eq_zero_or_pos n with rfl|hn
  ·omega
  obtain ⟨k,hk⟩:∃k,4*n=k+1:=⟨4*n - 1,zo⟩;have:=key k (by rw [hk,Nat.add_mul] at h;omega);omega
 have:=key _ Gj;omega
theorem a8v {T1 T2 Q u1 u2 odd:Nat} (h1:Cut T1 Q u1) (h2:Cut T2 Q u2) (hQ:4<Q) (ho:odd<=1) (hw:T1+4*Q+2<=T2):(u1+odd+3) / 4<=(u2 - odd) / 4:=by
 obtain ⟨n,hn⟩:∃n,n=(T1+4*Q - 1) / (4*Q):=⟨_,rfl⟩;have hd:=Nat.div_add_mod (T1+4*Q - 1) (4*Q);have hm:=Nat.mod_lt (T1+4*Q - 1) (show 0<4*Q by omega);rw [<-hn] at hd;have e1:4*Q*n=4*n*Q:=by rw [Nat.mul_assoc,Nat.mul_assoc,Nat.mul_comm Q n]
 rw [e1] at hd;have hle:T1<=4*n*Q:=zo
 have hgt:4*n*Q<T1+4*Q:=zo
 have e2:4*(n+1)*Q=4*n*Q+4*Q:=by rw [Nat.mul_add,Nat.add_mul]
 rcases Nat.lt_or_ge T1 (4*n*Q) with hlt|hge
 ·have a:=h1.up n hlt;have b:=h2.lo1 n zo
  have hn0:0<n:=by
   rcases Nat.eq_zero_or_pos n with rfl|h
   ·omega
   exact h
  omega
 have a:=h1.at_ (4*n) zo;have b:=h2.lo1 (n+1) zo;have c:=h2.lo1 n zo;omega
end Go.Proofs.YtdmjoodhaeijmaaGreatDoor
namespace Go.Proofs
open Go.Shelf
def Tryz.lays177_ren:Go.Shelf.Ren:=⟨fun|177=>165|250=>192|289=>223|197=>249|323=>250|260=>274|339=>275|340=>276|242=>277|119=>248|345=>282|346=>283|278=>284|n=>n,fun|9=>9|5=>5|4=>4|3=>3|37=>76|21=>21|105=>325|46=>146|119=>356|0=>0|139=>359|138=>358|49=>360|234=>361|131=>129|51=>177|236=>363|n=>n,fun|3=>9|4=>10|20=>11|21=>12|22=>13|23=>14|24=>15|n=>n⟩
theorem Tryz.lays177:Go.Proofs.Lays.n177 Tryz.prog Tryz.lays177_ren:={
 mixed:=by kernel_rfl
 f119:=Tryz.func248.trans (congrArg some (by kernel_rfl))
 f177:=Tryz.func165.trans (congrArg some (by kernel_rfl))
 f197:=Tryz.func249.trans (congrArg some (by kernel_rfl))
 f242:=Tryz.func277.trans (congrArg some (by kernel_rfl))
 f250:=Tryz.func192.trans (congrArg some (by kernel_rfl))
 f260:=Tryz.func274.trans (congrArg some (by kernel_rfl))
 f278:=Tryz.func284.trans (congrArg some (by kernel_rfl))
 f289:=Tryz.func223.trans (congrArg some (by kernel_rfl))
 f323:=Tryz.func250.trans (congrArg some (by kernel_rfl))
 f339:=Tryz.func275.trans (congrArg some (by kernel_rfl))
 f340:=Tryz.func276.trans (congrArg some (by kernel_rfl))
 f345:=Tryz.func282.trans (congrArg some (by kernel_rfl))
 f346:=Tryz.func283.trans (congrArg some (by kernel_rfl))
 t0:=Tryz.underlying0
 a0:=Tryz.isAgg0
 z0:=Tryz.sizeOf0
 v0:=Tryz.zeroValue0
 t3:=Tryz.underlying3
 a3:=Tryz.isAgg3
 z3:=Tryz.sizeOf3
 v3:=Tryz.zeroValue3
 t4:=Tryz.underlying4
 a4:=Tryz.isAgg4
 z4:=Tryz.sizeOf4
 v4:=Tryz.zeroValue4
 t5:=Tryz.underlying5
 a5:=Tryz.isAgg5
 z5:=Tryz.sizeOf5
 v5:=Tryz.zeroValue5
 t9:=Tryz.underlying9
 a9:=Tryz.isAgg9
 z9:=Tryz.sizeOf9
 v9:=Tryz.zeroValue9
 t21:=Tryz.underlying21
 a21:=Tryz.isAgg21
 z21:=Tryz.sizeOf21
 v21:=Tryz.zeroValue21
 t37:=Tryz.underlying76
 a37:=Tryz.isAgg76
 z37:=Tryz.sizeOf76
 v37:=Tryz.zeroValue76
 t46:=Tryz.underlying146
 a46:=Tryz.isAgg146
 z46:=Tryz.sizeOf146
 v46:=Tryz.zeroValue146
 t49:=Tryz.underlying360
 a49:=Tryz.isAgg360
 z49:=Tryz.sizeOf360
 v49:=Tryz.zeroValue360
 t51:=Tryz.underlying177
 a51:=Tryz.isAgg177
 z51:=Tryz.sizeOf177
 v51:=Tryz.zeroValue177
 t105:=Tryz.underlying325
 a105:=Tryz.isAgg325
 z105:=Tryz.sizeOf325
 v105:=Tryz.zeroValue325
 t119:=Tryz.underlying356
 a119:=Tryz.isAgg356
 z119:=Tryz.sizeOf356
 t131:=Tryz.underlying129
 a131:=Tryz.isAgg129
 z131:=Tryz.sizeOf129
 v131:=Tryz.zeroValue129
 t138:=Tryz.underlying358
 a138:=Tryz.isAgg358
 z138:=Tryz.sizeOf358
 v138:=Tryz.zeroValue358
 t139:=Tryz.underlying359
 a139:=Tryz.isAgg359
 z139:=Tryz.sizeOf359
 v139:=Tryz.zeroValue359
 t234:=Tryz.underlying361
 a234:=Tryz.isAgg361
 z234:=Tryz.sizeOf361
 v234:=Tryz.zeroValue361
 t236:=Tryz.underlying363
 a236:=Tryz.isAgg363
 z236:=Tryz.sizeOf363
 v236:=Tryz.zeroValue363
 g3:=by kernel_rfl
 g4:=by kernel_rfl
 g20:=by kernel_rfl
 g21:=by kernel_rfl
 g22:=by kernel_rfl
 g23:=by kernel_rfl
 g24:=by kernel_rfl}
open Go.RowKit in
theorem Tryz.strconv_Quote (T:Lib.PrintTabs) (s:ByteArray) (w:World) (hlen:10*s.size+12<=140737488355328) (hT:Lib.PrintTabsAt 11 12 13 14 T w) (hU:Lib.Utf8Tabs 9 10 w):
 Calls Tryz.prog 165 #[.string s] w fun e w'=>e= .returned (.string (strOfNums (Lib.quoteZ T s)))/\Below w.heap.size w w':=Any.strconv_Quote Tryz.lays177 (by kernel_rfl) T s w hlen hT hU
def Tryz.lays129_ren:Go.Shelf.Ren:=⟨fun|129=>96|n=>n,fun|53=>179|3=>3|4=>4|46=>146|5=>5|9=>9|n=>n,fun|n=>n⟩
theorem Tryz.lays129:Go.Proofs.Lays.n129 Tryz.prog Tryz.lays129_ren:={
 mixed:=by kernel_rfl
 f129:=Tryz.func96.trans (congrArg some (by kernel_rfl))
 t3:=Tryz.underlying3
 a3:=Tryz.isAgg3
 z3:=Tryz.sizeOf3
 v3:=Tryz.zeroValue3
 t4:=Tryz.underlying4
 a4:=Tryz.isAgg4
 z4:=Tryz.sizeOf4
 v4:=Tryz.zeroValue4
 t5:=Tryz.underlying5
 a5:=Tryz.isAgg5
 z5:=Tryz.sizeOf5
 v5:=Tryz.zeroValue5
 t9:=Tryz.underlying9
 a9:=Tryz.isAgg9
 z9:=Tryz.sizeOf9
 v9:=Tryz.zeroValue9
 t46:=Tryz.underlying146
 a46:=Tryz.isAgg146
 z46:=Tryz.sizeOf146
 v46:=Tryz.zeroValue146
 t53:=Tryz.underlying179
 a53:=Tryz.isAgg179
 z53:=Tryz.sizeOf179
 v53:=Tryz.zeroValue179}
theorem Tryz.bits_Len64 (x:Int) (w:World) (h0:0<=x) (h1:x<=18446744073709551615):
 Calls Tryz.prog 96 #[.int .u64 x] w fun e w'=>e= .returned (.int .i64 (Lib.bitLen x.toNat))/\w'=w:=Any.bits_Len64 Tryz.lays129 x w h0 h1
def Tryz.laysM284_ren:Go.Shelf.Ren:=⟨fun|284=>214|129=>96|317=>231|318=>232|n=>n,fun|53=>179|3=>3|212=>307|0=>0|4=>4|46=>146|5=>5|9=>9|n=>n,fun|17=>3|n=>n⟩
theorem Tryz.laysM284:Go.Proofs.LaysM.n284 Tryz.prog Tryz.laysM284_ren:={
 mixed:=by kernel_rfl
 f129:=Tryz.func96.trans (congrArg some (by kernel_rfl))
 f284:=Tryz.func214.trans (congrArg some (by kernel_rfl))
 f317:=Tryz.func231.trans (congrArg some (by kernel_rfl))
 f318:=Tryz.func232.trans (congrArg some (by kernel_rfl))
 t0:=Tryz.underlying0
 a0:=Tryz.isAgg0
 z0:=Tryz.sizeOf0
 v0:=Tryz.zeroValue0
 t3:=Tryz.underlying3
 a3:=Tryz.isAgg3
 z3:=Tryz.sizeOf3
 v3:=Tryz.zeroValue3
 t4:=Tryz.underlying4
 a4:=Tryz.isAgg4
 z4:=Tryz.sizeOf4
 v4:=Tryz.zeroValue4
 t5:=Tryz.underlying5
 a5:=Tryz.isAgg5
 z5:=Tryz.sizeOf5
 v5:=Tryz.zeroValue5
 t9:=Tryz.underlying9
 a9:=Tryz.isAgg9
 z9:=Tryz.sizeOf9
 v9:=Tryz.zeroValue9
 t46:=Tryz.underlying146
 a46:=Tryz.isAgg146
 z46:=Tryz.sizeOf146
 v46:=Tryz.zeroValue146
 t53:=Tryz.underlying179
 a53:=Tryz.isAgg179
 z53:=Tryz.sizeOf179
 v53:=Tryz.zeroValue179
 t212:=Tryz.underlying307
 a212:=Tryz.isAgg307
 z212:=Tryz.sizeOf307
 v212:=Tryz.zeroValue307
 g17:=by kernel_rfl
 i0:=by kernel_rfl
 i3:=by kernel_rfl
 i4:=by kernel_rfl
 i5:=by kernel_rfl
 i9:=by kernel_rfl
 i46:=by kernel_rfl
 i53:=by kernel_rfl
 i212:=by kernel_rfl
 m17:=by kernel_rfl}
open Go.Lib in
theorem Tryz.internal_strconv_numDigits (u:Nat) (h1:1≤u) (h2:u<18446744073709551616) (w:World) (htab:Lib.TabIs Tryz.prog w "internal/strconv.uint64pow10" .u64 Lib.pow10Tab):
 Calls Tryz.prog 214 #[.int .u64 u] w fun e w'=>e= .returned (.int .i64 (Lib.nDigits u))/\w'=w:=Any.internal_strconv_numDigits Tryz.laysM284 u h1 h2 w htab
def Tryz.lays285_ren:Go.Shelf.Ren:=⟨fun|285=>215|n=>n,fun|37=>76|53=>179|3=>3|4=>4|51=>177|9=>9|5=>5|0=>0|n=>n,fun|n=>n⟩
theorem Tryz.lays285:Go.Proofs.Lays.n285 Tryz.prog Tryz.lays285_ren:={
 mixed:=by kernel_rfl
 f285:=Tryz.func215.trans (congrArg some (by kernel_rfl))
 t0:=Tryz.underlying0
 a0:=Tryz.isAgg0
 z0:=Tryz.sizeOf0
 v0:=Tryz.zeroValue0
 t3:=Tryz.underlying3
 a3:=Tryz.isAgg3
 z3:=Tryz.sizeOf3
 v3:=Tryz.zeroValue3
 t4:=Tryz.underlying4
 a4:=Tryz.isAgg4
 z4:=Tryz.sizeOf4
 v4:=Tryz.zeroValue4
 t5:=Tryz.underlying5
 a5:=Tryz.isAgg5
 z5:=Tryz.sizeOf5
 v5:=Tryz.zeroValue5
 t9:=Tryz.underlying9
 a9:=Tryz.isAgg9
 z9:=Tryz.sizeOf9
 v9:=Tryz.zeroValue9
 t37:=Tryz.underlying76
 a37:=Tryz.isAgg76
 z37:=Tryz.sizeOf76
 v37:=Tryz.zeroValue76
 t51:=Tryz.underlying177
 a51:=Tryz.isAgg177
 z51:=Tryz.sizeOf177
 v51:=Tryz.zeroValue177
 t53:=Tryz.underlying179
 a53:=Tryz.isAgg179
 z53:=Tryz.sizeOf179
 v53:=Tryz.zeroValue179}
open Go.RowKit Go.Sort Go.Lib in
theorem Tryz.internal_strconv_formatBase10 (blk off cap:Nat) (u:Nat) (d:Array UInt8) (w:World) (hH:Holds (fun (b:UInt8)=>Value.int .u8 (b.toNat:Int)) w blk off d) (hu:u<10^d.size) (hu64:u<18446744073709551616) (hsz:d.size<4611686018427387904):
 Calls Tryz.prog 215 #[.slice (some ⟨blk,off,none⟩) d.size cap,.int .u64 u] w fun e w'=>
  e= .returned (.tuple #[])/\∃(n v':Nat) (dk:Array UInt8),w'=(putRow (fun (b:UInt8)=>Value.int .u8 (b.toNat:Int)) w blk off dk).drewN n/\FmtInv d.size u 0 v' dk:=Any.internal_strconv_formatBase10 Tryz.lays285 blk off cap u d w hH hu hu64 hsz
def Tryz.laysM173_ren:Go.Shelf.Ren:=⟨fun|173=>162|246=>189|283=>213|284=>214|285=>215|286=>216|129=>96|317=>231|318=>232|319=>233|320=>234|337=>253|338=>254|n=>n,fun|2=>2|3=>3|9=>9|4=>4|171=>287|0=>0|53=>179|37=>76|5=>5|173=>289|212=>307|51=>177|20=>20|213=>308|46=>146|232=>313|233=>344|n=>n,fun|17=>3|18=>5|19=>6|n=>n⟩
theorem Tryz.laysM173:Go.Proofs.LaysM.n173 Tryz.prog Tryz.laysM173_ren:={
 mixed:=by kernel_rfl
 f129:=Tryz.func96.trans (congrArg some (by kernel_rfl))
 f173:=Tryz.func162.trans (congrArg some (by kernel_rfl))
 f246:=Tryz.func189.trans (congrArg some (by kernel_rfl))
 f283:=Tryz.func213.trans (congrArg some (by kernel_rfl))
 f284:=Tryz.func214.trans (congrArg some (by kernel_rfl))
 f285:=Tryz.func215.trans (congrArg some (by kernel_rfl))
 f286:=Tryz.func216.trans (congrArg some (by kernel_rfl))
 f317:=Tryz.func231.trans (congrArg some (by kernel_rfl))
 f318:=Tryz.func232.trans (congrArg some (by kernel_rfl))
 f319:=Tryz.func233.trans (congrArg some (by kernel_rfl))
 f320:=Tryz.func234.trans (congrArg some (by kernel_rfl))
 f337:=Tryz.func253.trans (congrArg some (by kernel_rfl))
 f338:=Tryz.func254.trans (congrArg some (by kernel_rfl))
 t0:=Tryz.underlying0
 a0:=Tryz.isAgg0
 z0:=Tryz.sizeOf0
 v0:=Tryz.zeroValue0
 t2:=Tryz.underlying2
 a2:=Tryz.isAgg2
 z2:=Tryz.sizeOf2
 v2:=Tryz.zeroValue2
 t3:=Tryz.underlying3
 a3:=Tryz.isAgg3
 z3:=Tryz.sizeOf3
 v3:=Tryz.zeroValue3
 t4:=Tryz.underlying4
 a4:=Tryz.isAgg4
 z4:=Tryz.sizeOf4
 v4:=Tryz.zeroValue4
 t5:=Tryz.underlying5
 a5:=Tryz.isAgg5
 z5:=Tryz.sizeOf5
 v5:=Tryz.zeroValue5
 t9:=Tryz.underlying9
 a9:=Tryz.isAgg9
 z9:=Tryz.sizeOf9
 v9:=Tryz.zeroValue9
 t20:=Tryz.underlying20
 a20:=Tryz.isAgg20
 z20:=Tryz.sizeOf20
 v20:=Tryz.zeroValue20
 t37:=Tryz.underlying76
 a37:=Tryz.isAgg76
 z37:=Tryz.sizeOf76
 v37:=Tryz.zeroValue76
 t46:=Tryz.underlying146
 a46:=Tryz.isAgg146
 z46:=Tryz.sizeOf146
 v46:=Tryz.zeroValue146
 t51:=Tryz.underlying177
 a51:=Tryz.isAgg177
 z51:=Tryz.sizeOf177
 v51:=Tryz.zeroValue177
 t53:=Tryz.underlying179
 a53:=Tryz.isAgg179
 z53:=Tryz.sizeOf179
 v53:=Tryz.zeroValue179
 t171:=Tryz.underlying287
 a171:=Tryz.isAgg287
 z171:=Tryz.sizeOf287
 v171:=Tryz.zeroValue287
 t173:=Tryz.underlying289
 a173:=Tryz.isAgg289
 z173:=Tryz.sizeOf289
 v173:=Tryz.zeroValue289
 t212:=Tryz.underlying307
 a212:=Tryz.isAgg307
 z212:=Tryz.sizeOf307
 v212:=Tryz.zeroValue307
 t213:=Tryz.underlying308
 a213:=Tryz.isAgg308
 z213:=Tryz.sizeOf308
 t232:=Tryz.underlying313
 a232:=Tryz.isAgg313
 z232:=Tryz.sizeOf313
 v232:=Tryz.zeroValue313
 t233:=Tryz.underlying344
 a233:=Tryz.isAgg344
 z233:=Tryz.sizeOf344
 v233:=Tryz.zeroValue344
 g17:=by kernel_rfl
 g18:=by kernel_rfl
 g19:=by kernel_rfl
 i0:=by kernel_rfl
 i2:=by kernel_rfl
 i3:=by kernel_rfl
 i4:=by kernel_rfl
 i5:=by kernel_rfl
 i9:=by kernel_rfl
 i20:=by kernel_rfl
 i37:=by kernel_rfl
 i46:=by kernel_rfl
 i51:=by kernel_rfl
 i53:=by kernel_rfl
 i171:=by kernel_rfl
 i173:=by kernel_rfl
 i212:=by kernel_rfl
 i232:=by kernel_rfl
 i233:=by kernel_rfl
 m17:=by kernel_rfl
 m18:=by kernel_rfl
 m19:=by kernel_rfl}
open Go.RowKit Go.Sort Go.Lib in
theorem Tryz.strconv_FormatInt_10 (n:Int) (h0: -9223372036854775808≤n) (h1:n≤9223372036854775807) (w:World) (htab:Lib.TabIs Tryz.prog w "internal/strconv.uint64pow10" .u64 Lib.pow10Tab):
 Calls Tryz.prog 162 #[.int .i64 n,.int .i64 10] w fun e w'=>e= .returned (.string ⟨(Lib.itoa n).toArray⟩)/\∃k os,w'=grow (w.drewN k) os:=Any.strconv_FormatInt_10 Tryz.laysM173 n h0 h1 w htab
def Tryz.lays189_ren:Go.Shelf.Ren:=⟨fun|189=>45|125=>65|257=>64|128=>95|129=>96|294=>86|295=>87|296=>88|297=>89|298=>90|299=>91|216=>92|300=>93|301=>94|328=>121|329=>122|330=>123|331=>124|332=>125|215=>126|343=>153|n=>n,fun|28=>29|3=>3|46=>146|0=>0|51=>177|53=>179|4=>4|183=>171|182=>170|131=>129|5=>5|9=>9|218=>215|222=>219|228=>246|229=>247|n=>n,fun|n=>n⟩
theorem Tryz.lays189:Go.Proofs.Lays.n189 Tryz.prog Tryz.lays189_ren:={
 mixed:=by kernel_rfl
 f125:=Tryz.func65.trans (congrArg some (by kernel_rfl))
 f128:=Tryz.func95.trans (congrArg some (by kernel_rfl))
 f129:=Tryz.func96.trans (congrArg some (by kernel_rfl))
 f189:=Tryz.func45.trans (congrArg some (by kernel_rfl))
 f215:=Tryz.func126.trans (congrArg some (by kernel_rfl))
 f216:=Tryz.func92.trans (congrArg some (by kernel_rfl))
 f257:=Tryz.func64.trans (congrArg some (by kernel_rfl))
 f294:=Tryz.func86.trans (congrArg some (by kernel_rfl))
 f295:=Tryz.func87.trans (congrArg some (by kernel_rfl))
 f296:=Tryz.func88.trans (congrArg some (by kernel_rfl))
 f297:=Tryz.func89.trans (congrArg some (by kernel_rfl))
 f298:=Tryz.func90.trans (congrArg some (by kernel_rfl))
 f299:=Tryz.func91.trans (congrArg some (by kernel_rfl))
 f300:=Tryz.func93.trans (congrArg some (by kernel_rfl))
 f301:=Tryz.func94.trans (congrArg some (by kernel_rfl))
 f328:=Tryz.func121.trans (congrArg some (by kernel_rfl))
 f329:=Tryz.func122.trans (congrArg some (by kernel_rfl))
 f330:=Tryz.func123.trans (congrArg some (by kernel_rfl))
 f331:=Tryz.func124.trans (congrArg some (by kernel_rfl))
 f332:=Tryz.func125.trans (congrArg some (by kernel_rfl))
 f343:=Tryz.func153.trans (congrArg some (by kernel_rfl))
 t0:=Tryz.underlying0
 a0:=Tryz.isAgg0
 z0:=Tryz.sizeOf0
 v0:=Tryz.zeroValue0
 t3:=Tryz.underlying3
 a3:=Tryz.isAgg3
 z3:=Tryz.sizeOf3
 v3:=Tryz.zeroValue3
 t4:=Tryz.underlying4
 a4:=Tryz.isAgg4
 z4:=Tryz.sizeOf4
 v4:=Tryz.zeroValue4
 t5:=Tryz.underlying5
 a5:=Tryz.isAgg5
 z5:=Tryz.sizeOf5
 v5:=Tryz.zeroValue5
 t9:=Tryz.underlying9
 a9:=Tryz.isAgg9
 z9:=Tryz.sizeOf9
 v9:=Tryz.zeroValue9
 t28:=Tryz.underlying29
 a28:=Tryz.isAgg29
 z28:=Tryz.sizeOf29
 v28:=Tryz.zeroValue29
 t46:=Tryz.underlying146
 a46:=Tryz.isAgg146
 z46:=Tryz.sizeOf146
 v46:=Tryz.zeroValue146
 t51:=Tryz.underlying177
 a51:=Tryz.isAgg177
 z51:=Tryz.sizeOf177
 v51:=Tryz.zeroValue177
 t53:=Tryz.underlying179
 a53:=Tryz.isAgg179
 z53:=Tryz.sizeOf179
 v53:=Tryz.zeroValue179
 t131:=Tryz.underlying129
 a131:=Tryz.isAgg129
 z131:=Tryz.sizeOf129
 v131:=Tryz.zeroValue129
 t182:=Tryz.underlying170
 a182:=Tryz.isAgg170
 z182:=Tryz.sizeOf170
 v182:=Tryz.zeroValue170
 t183:=Tryz.underlying171
 a183:=Tryz.isAgg171
 z183:=Tryz.sizeOf171
 v183:=Tryz.zeroValue171
 t218:=Tryz.underlying215
 a218:=Tryz.isAgg215
 z218:=Tryz.sizeOf215
 v218:=Tryz.zeroValue215
 t222:=Tryz.underlying219
 a222:=Tryz.isAgg219
 z222:=Tryz.sizeOf219
 v222:=Tryz.zeroValue219
 t228:=Tryz.underlying246
 a228:=Tryz.isAgg246
 z228:=Tryz.sizeOf246
 v228:=Tryz.zeroValue246
 t229:=Tryz.underlying247
 a229:=Tryz.isAgg247
 z229:=Tryz.sizeOf247
 v229:=Tryz.zeroValue247}
open Go.Sort Go.RowKit in
theorem Tryz.slices_Sort_int (blk off cap:Nat) (zs:List Int) (w:World) (hH:Holds (Value.int .i64) w blk off zs.toArray) (hblk:blk<w.heap.size) (hsz:zs.length<4611686018427387904):
 Calls Tryz.prog 45 #[.slice (some ⟨blk,off,none⟩) zs.length cap] w fun e w'=>
  e= .returned (.tuple #[])/\∃n os,w'=grow (putRow (Value.int .i64) (Sort.ahead w n) blk off (zs.mergeSort fun x y=>decide (x<=y)).toArray) os:=Any.slices_Sort_int Tryz.lays189 blk off cap zs w hH hblk hsz
def Tryz.lays190_ren:Go.Shelf.Ren:=⟨fun|190=>141|125=>65|258=>178|128=>95|129=>96|302=>199|303=>200|304=>201|305=>202|306=>203|307=>204|308=>205|309=>206|310=>207|333=>225|329=>122|330=>123|334=>226|335=>227|336=>228|344=>252|n=>n,fun|31=>205|9=>9|3=>3|46=>146|0=>0|51=>177|53=>179|4=>4|183=>171|182=>170|131=>129|5=>5|218=>215|222=>219|228=>246|229=>247|n=>n,fun|n=>n⟩
theorem Tryz.lays190:Go.Proofs.Lays.n190 Tryz.prog Tryz.lays190_ren:={
 mixed:=by kernel_rfl
 f125:=Tryz.func65.trans (congrArg some (by kernel_rfl))
 f128:=Tryz.func95.trans (congrArg some (by kernel_rfl))
 f129:=Tryz.func96.trans (congrArg some (by kernel_rfl))
 f190:=Tryz.func141.trans (congrArg some (by kernel_rfl))
 f258:=Tryz.func178.trans (congrArg some (by kernel_rfl))
 f302:=Tryz.func199.trans (congrArg some (by kernel_rfl))
 f303:=Tryz.func200.trans (congrArg some (by kernel_rfl))
 f304:=Tryz.func201.trans (congrArg some (by kernel_rfl))
 f305:=Tryz.func202.trans (congrArg some (by kernel_rfl))
 f306:=Tryz.func203.trans (congrArg some (by kernel_rfl))
 f307:=Tryz.func204.trans (congrArg some (by kernel_rfl))
 f308:=Tryz.func205.trans (congrArg some (by kernel_rfl))
 f309:=Tryz.func206.trans (congrArg some (by kernel_rfl))
 f310:=Tryz.func207.trans (congrArg some (by kernel_rfl))
 f329:=Tryz.func122.trans (congrArg some (by kernel_rfl))
 f330:=Tryz.func123.trans (congrArg some (by kernel_rfl))
 f333:=Tryz.func225.trans (congrArg some (by kernel_rfl))
 f334:=Tryz.func226.trans (congrArg some (by kernel_rfl))
 f335:=Tryz.func227.trans (congrArg some (by kernel_rfl))
 f336:=Tryz.func228.trans (congrArg some (by kernel_rfl))
 f344:=Tryz.func252.trans (congrArg some (by kernel_rfl))
 t0:=Tryz.underlying0
 a0:=Tryz.isAgg0
 z0:=Tryz.sizeOf0
 v0:=Tryz.zeroValue0
 t3:=Tryz.underlying3
 a3:=Tryz.isAgg3
 z3:=Tryz.sizeOf3
 v3:=Tryz.zeroValue3
 t4:=Tryz.underlying4
 a4:=Tryz.isAgg4
 z4:=Tryz.sizeOf4
 v4:=Tryz.zeroValue4
 t5:=Tryz.underlying5
 a5:=Tryz.isAgg5
 z5:=Tryz.sizeOf5
 v5:=Tryz.zeroValue5
 t9:=Tryz.underlying9
 a9:=Tryz.isAgg9
 z9:=Tryz.sizeOf9
 v9:=Tryz.zeroValue9
 t31:=Tryz.underlying205
 a31:=Tryz.isAgg205
 z31:=Tryz.sizeOf205
 v31:=Tryz.zeroValue205
 t46:=Tryz.underlying146
 a46:=Tryz.isAgg146
 z46:=Tryz.sizeOf146
 v46:=Tryz.zeroValue146
 t51:=Tryz.underlying177
 a51:=Tryz.isAgg177
 z51:=Tryz.sizeOf177
 v51:=Tryz.zeroValue177
 t53:=Tryz.underlying179
 a53:=Tryz.isAgg179
 z53:=Tryz.sizeOf179
 v53:=Tryz.zeroValue179
 t131:=Tryz.underlying129
 a131:=Tryz.isAgg129
 z131:=Tryz.sizeOf129
 v131:=Tryz.zeroValue129
 t182:=Tryz.underlying170
 a182:=Tryz.isAgg170
 z182:=Tryz.sizeOf170
 v182:=Tryz.zeroValue170
 t183:=Tryz.underlying171
 a183:=Tryz.isAgg171
 z183:=Tryz.sizeOf171
 v183:=Tryz.zeroValue171
 t218:=Tryz.underlying215
 a218:=Tryz.isAgg215
 z218:=Tryz.sizeOf215
 v218:=Tryz.zeroValue215
 t222:=Tryz.underlying219
 a222:=Tryz.isAgg219
 z222:=Tryz.sizeOf219
 v222:=Tryz.zeroValue219
 t228:=Tryz.underlying246
 a228:=Tryz.isAgg246
 z228:=Tryz.sizeOf246
 v228:=Tryz.zeroValue246
 t229:=Tryz.underlying247
 a229:=Tryz.isAgg247
 z229:=Tryz.sizeOf247
 v229:=Tryz.zeroValue247}
open Go.Sort Go.RowKit in
theorem Tryz.slices_Sort_string (blk off cap:Nat) (ss:List (List UInt8)) (w:World) (hH:Holds encStr w blk off ss.toArray) (hblk:blk<w.heap.size) (hsz:ss.length<4611686018427387904):
 Calls Tryz.prog 141 #[.slice (some ⟨blk,off,none⟩) ss.length cap] w fun e w'=>
  e= .returned (.tuple #[])/\∃n os,w'=grow (putRow encStr (Sort.ahead w n) blk off (ss.mergeSort fun x y=>decide (x<=y)).toArray) os:=Any.slices_Sort_string Tryz.lays190 blk off cap ss w hH hblk hsz
def Tryz.lays150_ren:Go.Shelf.Ren:=⟨fun|150=>164|153=>191|152=>219|226=>220|227=>221|228=>222|137=>247|119=>248|224=>156|225=>155|217=>154|266=>185|n=>n,fun|9=>9|4=>4|3=>3|5=>5|21=>21|117=>297|116=>296|0=>0|46=>146|124=>324|n=>n,fun|n=>n⟩
theorem Tryz.lays150:Go.Proofs.Lays.n150 Tryz.prog Tryz.lays150_ren:={
 mixed:=by kernel_rfl
 f119:=Tryz.func248.trans (congrArg some (by kernel_rfl))
 f137:=Tryz.func247.trans (congrArg some (by kernel_rfl))
 f150:=Tryz.func164.trans (congrArg some (by kernel_rfl))
 f152:=Tryz.func219.trans (congrArg some (by kernel_rfl))
 f153:=Tryz.func191.trans (congrArg some (by kernel_rfl))
 f217:=Tryz.func154.trans (congrArg some (by kernel_rfl))
 f224:=Tryz.func156.trans (congrArg some (by kernel_rfl))
 f225:=Tryz.func155.trans (congrArg some (by kernel_rfl))
 f226:=Tryz.func220.trans (congrArg some (by kernel_rfl))
 f227:=Tryz.func221.trans (congrArg some (by kernel_rfl))
 f228:=Tryz.func222.trans (congrArg some (by kernel_rfl))
 f266:=Tryz.func185.trans (congrArg some (by kernel_rfl))
 t0:=Tryz.underlying0
 a0:=Tryz.isAgg0
 z0:=Tryz.sizeOf0
 v0:=Tryz.zeroValue0
 t3:=Tryz.underlying3
 a3:=Tryz.isAgg3
 z3:=Tryz.sizeOf3
 v3:=Tryz.zeroValue3
 t4:=Tryz.underlying4
 a4:=Tryz.isAgg4
 z4:=Tryz.sizeOf4
 v4:=Tryz.zeroValue4
 t5:=Tryz.underlying5
 a5:=Tryz.isAgg5
 z5:=Tryz.sizeOf5
 v5:=Tryz.zeroValue5
 t9:=Tryz.underlying9
 a9:=Tryz.isAgg9
 z9:=Tryz.sizeOf9
 v9:=Tryz.zeroValue9
 t21:=Tryz.underlying21
 a21:=Tryz.isAgg21
 z21:=Tryz.sizeOf21
 v21:=Tryz.zeroValue21
 t46:=Tryz.underlying146
 a46:=Tryz.isAgg146
 z46:=Tryz.sizeOf146
 v46:=Tryz.zeroValue146
 t116:=Tryz.underlying296
 a116:=Tryz.isAgg296
 z116:=Tryz.sizeOf296
 t117:=Tryz.underlying297
 a117:=Tryz.isAgg297
 z117:=Tryz.sizeOf297
 v117:=Tryz.zeroValue297
 t124:=Tryz.underlying324
 a124:=Tryz.isAgg324
 z124:=Tryz.sizeOf324
 v124:=Tryz.zeroValue324}
open Go.RowKit Go.Lib in
theorem Tryz.strings_ContainsAny_laid (s chars:ByteArray) (w:World) (hs:s.size<4294967281) (hcs:chars.size<4294967281) (has:∀(j:Nat) b,s.data.toList[j]? =some b->b.toNat<128) (hac:∀(j:Nat) b,chars.data.toList[j]? =some b->b.toNat<128):
 Calls Tryz.prog 164 #[.string s,.string chars] w fun e w'=>e= .returned (.bool (Lib.containsAny s.data.toList chars.data.toList))/\Below w.heap.size w w':=Any.strings_ContainsAny_laid Tryz.lays150 (by kernel_rfl) s chars w hs hcs has hac
def Tryz.lays264_ren:Go.Shelf.Ren:=⟨fun|264=>278|n=>n,fun|53=>179|46=>146|n=>n,fun|n=>n⟩
theorem Tryz.lays264:Go.Proofs.Lays.n264 Tryz.prog Tryz.lays264_ren:={
 mixed:=by kernel_rfl
 f264:=Tryz.func278.trans (congrArg some (by kernel_rfl))
 t46:=Tryz.underlying146
 a46:=Tryz.isAgg146
 z46:=Tryz.sizeOf146
 v46:=Tryz.zeroValue146
 t53:=Tryz.underlying179
 a53:=Tryz.isAgg179
 z53:=Tryz.sizeOf179
 v53:=Tryz.zeroValue179}
open Go.RowKit Go.Lib in
theorem Tryz.bits_Mul64 (x y:Nat) (hx:x<18446744073709551616) (hy:y<18446744073709551616) (w:World):
 Calls Tryz.prog 278 #[.int .u64 x,.int .u64 y] w fun e w'=>e= .returned (.tuple #[.int .u64 ((x*y / 18446744073709551616:Nat):Int),.int .u64 ((x*y%18446744073709551616:Nat):Int)])/\w'=w:=Any.bits_Mul64 Tryz.lays264 x y hx hy w
def Tryz.lays110_ren:Go.Shelf.Ren:=⟨fun|110=>181|109=>209|n=>n,fun|31=>205|9=>9|4=>4|3=>3|0=>0|n=>n,fun|n=>n⟩
theorem Tryz.lays110:Go.Proofs.Lays.n110 Tryz.prog Tryz.lays110_ren:={
 mixed:=by kernel_rfl
 f109:=Tryz.func209.trans (congrArg some (by kernel_rfl))
 f110:=Tryz.func181.trans (congrArg some (by kernel_rfl))
 t0:=Tryz.underlying0
 a0:=Tryz.isAgg0
 z0:=Tryz.sizeOf0
 v0:=Tryz.zeroValue0
 t3:=Tryz.underlying3
 a3:=Tryz.isAgg3
 z3:=Tryz.sizeOf3
 v3:=Tryz.zeroValue3
 t4:=Tryz.underlying4
 a4:=Tryz.isAgg4
 z4:=Tryz.sizeOf4
 v4:=Tryz.zeroValue4
 t9:=Tryz.underlying9
 a9:=Tryz.isAgg9
 z9:=Tryz.sizeOf9
 v9:=Tryz.zeroValue9
 t31:=Tryz.underlying205
 a31:=Tryz.isAgg205
 z31:=Tryz.sizeOf205
 v31:=Tryz.zeroValue205}
open Go.Lib in
theorem Tryz.slices_Contains_string (b off n c:Nat) (zs:List ByteArray) (x:ByteArray) (w:World) (hz:n<=zs.length) (hbig:n<=9223372036854775807) (hc:∀j,j<zs.length->w.cell? ⟨b,off+j,none⟩=some (.string (zs.getD j ByteArray.empty))):
 Calls Tryz.prog 181 #[.slice (some ⟨b,off,none⟩) n c,.string x] w fun e w'=>e= .returned (.bool (Lib.containsS (zs.take n) x))/\w'=w:=Any.slices_Contains_string Tryz.lays110 b off n c zs x w hz hbig hc
open Go.Lib in
theorem Tryz.slices_Contains_string_empty (a:Option Addr) (c:Nat) (x:ByteArray) (w:World):
 Calls Tryz.prog 181 #[.slice a 0 c,.string x] w fun e w'=>e= .returned (.bool false)/\w'=w:=Any.slices_Contains_string_empty Tryz.lays110 a c x w
def Tryz.laysNm215_ren:Go.Shelf.Ren:=⟨fun|15=>41|n=>n,fun|22=>29|3=>3|4=>4|n=>n,fun|n=>n⟩
theorem Tryz.laysNm215:Go.Proofs.Lays2.n15 Tryz.prog Tryz.laysNm215_ren:={
 mixed:=by kernel_rfl
 f15:=Tryz.func41.trans (congrArg some (by kernel_rfl))
 t3:=Tryz.underlying3
 a3:=Tryz.isAgg3
 z3:=Tryz.sizeOf3
 v3:=Tryz.zeroValue3
 t4:=Tryz.underlying4
 a4:=Tryz.isAgg4
 z4:=Tryz.sizeOf4
 v4:=Tryz.zeroValue4
 t22:=Tryz.underlying29
 a22:=Tryz.isAgg29
 z22:=Tryz.sizeOf29
 v22:=Tryz.zeroValue29
 i3:=by kernel_rfl}
open Go.RowKit Go.Lib in
theorem Tryz.slices_Clone_int (b off n c:Nat) (zs:List Int) (w:World) (hz:n<=zs.length) (hbig:n*8<=140737488355328) (hc:∀j,j<zs.length->w.cell? ⟨b,off+j,none⟩=some (.int .i64 (zs.getD j 0))):
 Calls Tryz.prog 41 #[.slice (some ⟨b,off,none⟩) n c] w fun e w'=>∃v',e= .returned v'/\w'.ownsRow w.heap.size 3 1 v' n ((zs.take n).map (Value.int .i64))/\v'≠ .slice none 0 0/\Below w.heap.size w w':=Any.slices_Clone_int Tryz.laysNm215 b off n c zs w hz hbig hc
open Go.RowKit Go.Lib in
theorem Tryz.slices_Clone_int_nil (n c:Nat) (w:World):
 Calls Tryz.prog 41 #[.slice none n c] w fun e w'=>e= .returned (.slice none 0 0)/\w'=w:=Any.slices_Clone_int_nil Tryz.laysNm215 n c w
open Go.RowKit Go.Lib in
theorem Tryz.slices_Clone_int_zero (a:Addr) (c:Nat) (w:World):
 Calls Tryz.prog 41 #[.slice (some a) 0 c] w fun e w'=>∃v',e= .returned v'/\w'.ownsRow w.heap.size 3 1 v' 0 []/\v'≠ .slice none 0 0/\Below w.heap.size w w':=Any.slices_Clone_int_zero Tryz.laysNm215 a c w
def Tryz.lays194_ren:Go.Shelf.Ren:=⟨fun|194=>182|n=>n,fun|31=>205|9=>9|3=>3|4=>4|0=>0|n=>n,fun|n=>n⟩
theorem Tryz.lays194:Go.Proofs.Lays.n194 Tryz.prog Tryz.lays194_ren:={
 mixed:=by kernel_rfl
 f194:=Tryz.func182.trans (congrArg some (by kernel_rfl))
 t0:=Tryz.underlying0
 a0:=Tryz.isAgg0
 z0:=Tryz.sizeOf0
 v0:=Tryz.zeroValue0
 t3:=Tryz.underlying3
 a3:=Tryz.isAgg3
 z3:=Tryz.sizeOf3
 v3:=Tryz.zeroValue3
 t4:=Tryz.underlying4
 a4:=Tryz.isAgg4
 z4:=Tryz.sizeOf4
 v4:=Tryz.zeroValue4
 t9:=Tryz.underlying9
 a9:=Tryz.isAgg9
 z9:=Tryz.sizeOf9
 v9:=Tryz.zeroValue9
 t31:=Tryz.underlying205
 a31:=Tryz.isAgg205
 z31:=Tryz.sizeOf205
 v31:=Tryz.zeroValue205}
open Go.RowKit Go.Lib Go.Sort in
theorem Tryz.slices_Compact_string (blk off cap:Nat) (zs:List (List UInt8)) (w:World) (hH:Holds encStr w blk off zs.toArray) (hsz:zs.length<=9223372036854775807) (hcap:zs.length<=cap):
 Calls Tryz.prog 182 #[.slice (some ⟨blk,off,none⟩) zs.length cap] w fun e w'=>e= .returned (.slice (some ⟨blk,off,none⟩) (Lib.compact zs).length cap)/\∃q,w'=putRow encStr (Sort.ahead w q) blk off (Lib.compact zs++List.replicate (zs.length - (Lib.compact zs).length) []).toArray:=Any.slices_Compact_string Tryz.lays194 blk off cap zs w hH hsz hcap
open Go.RowKit Go.Lib Go.Sort in
theorem Tryz.slices_Compact_string_empty (a:Option Addr) (cap:Nat) (w:World):
 Calls Tryz.prog 182 #[.slice a 0 cap] w fun e w'=>e= .returned (.slice a 0 cap)/\w'=w:=Any.slices_Compact_string_empty Tryz.lays194 a cap w
open Go.RowKit Go.Sort in
theorem Tryz.slices_Sort_string_none (p:Option Addr) (cap:Nat) (w:World):
 Calls Tryz.prog 141 #[.slice p 0 cap] w fun e w'=>e= .returned (.tuple #[])/\w'=w:=Any.slices_Sort_string_none Tryz.lays190 p cap w
open Go.RowKit Go.Sort in
theorem Tryz.slices_Sort_int_none (p:Option Addr) (cap:Nat) (w:World):
 Calls Tryz.prog 45 #[.slice p 0 cap] w fun e w'=>e= .returned (.tuple #[])/\w'=w:=Any.slices_Sort_int_none Tryz.lays189 p cap w
end Go.Proofs
namespace Go.Proofs.YtdmjoodhaeijmaaGreatDoor
open Go.RowKit
theorem a1O (n:Int) (k:Nat) (hk:k<63):bits .and .i64 n ((2^k - 1:Nat):Int)=n%((2^k:Nat):Int):=by
 have hp:2^k<2^63:=Nat.pow_lt_pow_right zd hk;have hp0:0<2^k:=Nat.two_pow_pos k
 have h127:(BitVec.ofInt 64 ((2^k - 1:Nat):Int)).toNat=2^k - 1:=by
  rw [BitVec.toNat_ofInt];omega
 have key:(BitVec.ofInt 64 n&&&BitVec.ofInt 64 ((2^k - 1:Nat):Int)).toNat=(n%((2^64:Nat):Int)).toNat%2^k:=by
  rw [BitVec.toNat_and,BitVec.toNat_ofInt,h127,Nat.and_two_pow_sub_one_eq_mod]
 show IntKind.i64.wrap ((BitVec.ofInt 64 n&&&BitVec.ofInt 64 ((2^k - 1:Nat):Int)).toNat:Nat)=n%((2^k:Nat):Int);rw [key,IntKind.wrap_i64];have h1:(n%((2^64:Nat):Int)).toNat%2^k<2^k:=Nat.mod_lt _ hp0
 have h2:(((n%((2^64:Nat):Int)).toNat%2^k:Nat):Int)=n%((2^k:Nat):Int):=by
  rw [Int.natCast_emod,Int.toNat_of_nonneg (Int.emod_nonneg _ zd)];exact Int.emod_emod_of_dvd n (by exact_mod_cast Nat.pow_dvd_pow 2 zo)
 rw [<-h2]
 generalize (n%((2^64:Nat):Int)).toNat%2^k=q at*
 omega
theorem wrap_u64 (x:Int):IntKind.u64.wrap x=x%18446744073709551616:=rfl
theorem a00 {k:IntKind} {x y:Int} (h:x=y):Ending.returned (.int k x)=Ending.returned (.int k y):=by rw [h]
theorem b0H (x:Int) (h0: -100000<=x) (h1:x<=100000) (w:World):Calls Tryz.prog 231 #[.int .i64 x] w fun e w'=>e= .returned (.int .i64 (Q9 x))/\w'=w:=by
 go_enter Tryz.func231,Tryz.ntmps231
 go_wp2
 go_ret;exact ⟨rfl,rfl⟩
theorem b3j (x:Int) (h0: -100000<=x) (h1:x<=100000) (w:World):Calls Tryz.prog 260 #[.int .i64 x] w fun e w'=>e= .returned (.int .i64 (a1b x))/\w'=w:=by
 go_enter Tryz.func260,Tryz.ntmps260
 go_wp2
 go_ret;exact ⟨rfl,rfl⟩
theorem b0I (x:Int) (h0: -100000<=x) (h1:x<=100000) (w:World):Calls Tryz.prog 258 #[.int .i64 x] w fun e w'=>e= .returned (.int .i64 (a2z x))/\w'=w:=by
 go_enter Tryz.func258,Tryz.ntmps258
 go_wp2
 go_ret;exact ⟨rfl,rfl⟩
theorem a7h (b:Bool) (w:World):Calls Tryz.prog 279 #[.bool b] w fun e w'=>e= .returned (.int .u64 (if b then 1 else 0))/\w'=w:=by
 cases b<;>(
  go_enter Tryz.func279,Tryz.ntmps279
  go_wp2
  go_ret
  exact ⟨rfl,rfl⟩)
theorem b3k (u:Nat) (h:u<18446744073709551616) (w:World):Calls Tryz.prog 264 #[.int .u64 u] w fun e w'=>e= .returned (.int .u64 (u / 4:Nat))/\w'=w:=by
 go_enter Tryz.func264,Tryz.ntmps264
 go_wp2
 go_ret;exact ⟨a00 zo,rfl⟩
theorem b45 (u:Nat) (h:u<18446744073709551000) (w:World):Calls Tryz.prog 263 #[.int .u64 u] w fun e w'=>e= .returned (.int .u64 ((u+3) / 4:Nat))/\w'=w:=by
 go_enter Tryz.func263,Tryz.ntmps263
 go_wp2
 go_ret;exact ⟨a00 zo,rfl⟩
theorem b3l (u:Nat) (h:u<18446744073709551000) (w:World):Calls Tryz.prog 265 #[.int .u64 u] w fun e w'=>e= .returned (.int .u64 (rnd u:Nat))/\w'=w:=by
 go_enter Tryz.func265,Tryz.ntmps265
 go_wp2
 go_ret;refine ⟨a00 ?_,rfl⟩;rw [and_one_u64 _ zo zo,wrap_u64];unfold rnd;have h1:((u:Int)+1+(u:Int) / 4%2)%18446744073709551616=(u:Int)+1+(u:Int) / 4%2:=Int.emod_eq_of_lt zo zo;rw [h1];omega
theorem a7i (u:Nat) (d:Int) (h:u<18446744073709551000) (hd:d=0\/d=1\/(d= -1/\0<u)) (w:World):Calls Tryz.prog 262 #[.int .u64 u,.int .i64 d] w fun e w'=>e= .returned (.int .u64 (u+d))/\w'=w:=by
 go_enter Tryz.func262,Tryz.ntmps262
 go_wp2
 go_ret;refine ⟨a00 ?_,rfl⟩;rw [wrap_u64,wrap_u64];omega
def a9e (w:World) (g:Nat) (hi lo s:Nat):Prop:=w.cell? ⟨g,0,none⟩=some (.int .u64 hi)/\w.cell? ⟨g,1,none⟩=some (.int .u64 lo)/\w.cell? ⟨g,2,none⟩=some (.int .i64 s)
theorem a2j (x hi lo s g:Nat) (hx:x<18446744073709551616) (hhi:hi<18446744073709551616) (hlo:lo<18446744073709551616) (hs:s<64) (hh:x<=x*hi) (w:World) (hc:a9e w g hi lo s):
 Calls Tryz.prog 261 #[.int .u64 x,.pointer (some ⟨g,0,none⟩)] w fun e w'=>e= .returned (.int .u64 (usc x hi lo s))/\Mod (fun _=>False) w w':=by
 obtain ⟨c0,c1,c2⟩:=hc;have hmu:=Tryz.bits_Mul64 x hi hx hhi w;have hm2:=Tryz.bits_Mul64 x lo hx hlo w;obtain ⟨H,hH⟩:∃H,x*hi / 18446744073709551616=H:=⟨_,rfl⟩;obtain ⟨M,hM⟩:∃H,x*hi%18446744073709551616=H:=⟨_,rfl⟩;obtain ⟨C,hC⟩:∃H,x*lo / 18446744073709551616=H:=⟨_,rfl⟩;rw [hH,hM] at hmu;rw [hC] at hm2
 have hand:bits .and .i64 (s:Int) 63=s:=by
  have:=a1O s 6 zd;have e:bits .and .i64 (s:Int) 63=s%64:=this;rw [e];omega
 have zm:H<18446744073709551616:=by
  rw [<-hH];exact Nat.div_lt_of_lt_mul (Nat.mul_lt_mul'' hx hhi)
 have yM:M<18446744073709551616:=by rw [<-hM];exact Nat.mod_lt _ zd
 have OD:C<18446744073709551616:=by
  rw [<-hC];exact Nat.div_lt_of_lt_mul (Nat.mul_lt_mul'' hx hlo)
 have hpw:0<2^s:=Nat.two_pow_pos s;have hdl:H / 2^s*2^s<=H:=Nat.div_mul_le_self H _
 have hwr:(IntKind.u64.wrap ((H:Int) / 2^s*2^s) !=(H:Int))= !decide (H / 2^s*2^s=H):=by
  have e:((H:Int) / 2^s*2^s)=((H / 2^s*2^s:Nat):Int):=by push_cast;rfl
  rw [e,wrap_u64,Int.emod_eq_of_lt zo zo];by_cases h:H / 2^s*2^s=H
  ·rw [h,decide_eq_true rfl];simp
  rw [decide_eq_false h];simp only [bne_iff_ne,ne_eq,Bool.not_false];exact fun he=>h (by exact_mod_cast he)
 have qW:usc x hi lo s=if H / 2^s*2^s=H then (H - (if M<C then 1 else 0)) / 2^s|||(if 1<(M+W64 - C)%W64 then 1 else 0) else H / 2^s|||1:=by
  unfold usc;rw [show W64=18446744073709551616 from rfl,hH,hM,hC]
 have hor:∀A B:Nat,A<18446744073709551616->B<18446744073709551616->bits .or .u64 (A:Int) (B:Int)=((A|||B:Nat):Int):=bits_or_u64_nat;have IE:H / 2^s<=H:=Nat.div_le_self _ _;rw [qW];by_cases hz:H / 2^s*2^s=H
 ·rw [if_pos hz];have hz2:(IntKind.u64.wrap ((H:Int) / 2^s*2^s) !=(H:Int))=false:=by rw [hwr,decide_eq_true hz];rfl
  have hb1:=a7h (decide (M<C)) w
  have hbq:(if decide (M<C)=true then (1:Int) else 0)=(((if M<C then 1 else 0):Nat):Int):=by
   by_cases h:M<C
   ·rw [if_pos h,if_pos (decide_eq_true h)];rfl
   rw [if_neg h,if_neg (by rw [decide_eq_false h];decide)];rfl
  rw [hbq] at hb1
  have hB1:(if M<C then 1 else 0)<=H:=by
   split
   ·rename_i h
    rcases Nat.eq_zero_or_pos H with h0|h0
    ·exfalso;have h1:=Nat.div_add_mod (x*hi) 18446744073709551616;rw [hH,hM,h0] at h1
     have h2:C<=x:=by
      rw [<-hC];refine Nat.div_le_of_le_mul ?_;rw [Nat.mul_comm 18446744073709551616];exact Nat.mul_le_mul_left _ zo
     omega
    exact h0
   exact Nat.zero_le _
  obtain ⟨B,hB⟩:∃B:Nat,(if M<C then 1 else 0)=B:=⟨_,rfl⟩
  have hD1:∀D:Bool,decide (1<(M+W64 - C)%W64)=D->(if 1<(M+W64 - C)%W64 then 1 else 0)=(if D=true then 1 else 0):=fun D h=>by
   subst h;by_cases h:1<(M+W64 - C)%W64<;>simp [h]
  have hD2:decide (1<IntKind.u64.wrap ((M:Int) - C))=decide (1<(M+W64 - C)%W64):=by
   have e:IntKind.u64.wrap ((M:Int) - C)=(((M+W64 - C)%W64:Nat):Int):=by
    rw [wrap_u64,Int.natCast_emod,Int.ofNat_sub (by show C<=M+W64;unfold W64;omega)];show _=((M+W64:Nat) - (C:Int))%18446744073709551616;rw [Int.natCast_add,show ((W64:Nat):Int)=18446744073709551616 from rfl];omega
   rw [e];exact decide_eq_decide.2 zo
  obtain ⟨D,hD⟩:∃D,decide (1<(M+W64 - C)%W64)=D:=⟨_,rfl⟩;rw [hB] at hb1 hB1⊢;rw [hD1 D hD];rw [hD] at hD2;have hb2:∀w',Mod (fun _=>False) w w'->Calls Tryz.prog 279 #[.bool D] w' fun e w''=>e= .returned (.int .u64 (if D=true then 1 else 0))/\Mod (fun _=>False) w w'':=fun w' hw'=>(a7h D w').mono fun e w'' h=>by obtain ⟨h1,rfl⟩:=h;exact ⟨h1,hw'⟩
  obtain ⟨E,hE⟩:∃E:Nat,(if D=true then 1 else 0)=E:=⟨_,rfl⟩;have hE1:E<=1:=by rw [<-hE];split<;>omega
  have Nn:(if D=true then (1:Int) else 0)=(E:Int):=by rw [<-hE];split<;>rfl
  rw [Nn] at hb2;rw [hE];refine hh8 hmu hm2 hH hM hC hwr qW hor fun ve aS HH HM HC Ip Np yK=> ?_;refine hh8 hz hdl IE hpw hB hB1 hb1 hb2 fun Hz VU Qt VV HB HB1 Hb1 Hb2=> ?_;refine hh6 hbq hE hE1 Nn hD hD1 fun Yb HE VW Yc HD HD1=> ?_;clear hmu hm2 hH hM hC hwr qW hor hz hdl IE hpw hB hB1 hb1 hb2 hbq hE hE1 Nn hD hD1
  go_enter Tryz.func261,Tryz.ntmps261
  go_wp2_with fail
  refine ve.out.mono ?_;rintro e w1 ⟨rfl,rfl⟩
  go_wp2_with fail
  refine aS.out.mono ?_;rintro e w2 ⟨rfl,rfl⟩
  go_wp2_with fail
  refine Hb1.out.mono ?_;rintro e w3 ⟨rfl,rfl⟩
  go_wp2_with fail
  refine g9 zk zk ?_
  iterate 10 (first
   | (refine j1 ?_ (fun K hK=> ?_)
      ·first|(go_simp;done)|(go_simp;simp [undef];done)
      go_simp;refine hK _ ?_;clear hK K)
   | (refine l9 ?_ ?_ (fun w' hw'=> ?_) (fun K hK=> ?_)
      ·first|(go_simp;done)|(go_simp;simp [undef];done)
      rotate_left
      ·skip
       go_simp;rfl
      go_simp;refine hK _ ?_;clear hK K)
   | (refine q7 ?_ ?_ ?_ ?_ (fun w' hw'=> ?_) ?_ (fun K hK=> ?_)
      ·first|(go_simp;done)|(go_simp;simp [undef];done)
      rotate_left 3
      ·skip
       go_simp;constructor<;>rfl
      ·first|exact Hb2.out
      go_simp;refine hK _ ?_;clear hK K))
  refine j8 (fun w' hw'=> ?_)
  go_wp2
  go_ret;refine ⟨a00 ?_,hw'⟩;have hB2:=HB1.out
  have e:(IntKind.u64.wrap ((H:Int) - B) / 2^s)=(((H - B) / 2^s:Nat):Int):=by
   rw [wrap_u64,Int.emod_eq_of_lt zo zo,<-Int.ofNat_sub hB2]
   push_cast
   rfl
  rw [e];exact yK.out ((H - B) / 2^s) E (by have:=Nat.div_le_self (H - B) (2^s);omega) (by have:=VW.out;omega)
 rw [if_neg hz];have hz2:(IntKind.u64.wrap ((H:Int) / 2^s*2^s) !=(H:Int))=true:=by rw [hwr,decide_eq_false hz];rfl
 refine hh8 hmu hm2 hH hM hC hwr qW hor fun ve aS HH HM HC Ip Np yK=> ?_;refine hh4 hz hdl IE hpw fun Hz VU Qt VV=> ?_;clear hmu hm2 hH hM hC hwr qW hor hz hdl IE hpw
 go_enter Tryz.func261,Tryz.ntmps261
 go_wp2_with fail
 refine ve.out.mono ?_;rintro e w1 ⟨rfl,rfl⟩
 go_wp2_with fail
 go_ret;refine ⟨a00 ?_,Mod.refl _ _⟩;have e:((H:Int) / 2^s)=((H / 2^s:Nat):Int):=by push_cast;rfl
 rw [e];exact yK.out (H / 2^s) 1 (by have:=Qt.out;omega) zo
end Go.Proofs.YtdmjoodhaeijmaaGreatDoor
namespace Go.Proofs.YtdmjoodhaeijmaaGreatDoor
open Go.RowKit
structure Lays (w:World):Prop where
 u10:Lib.TabIs Tryz.prog w "internal/strconv.uint64pow10" .u64 Lib.pow10Tab
 p10:∀i,i<696->w.cell? ⟨7,i*2,none⟩=some (.int .u64 ((pw i).1:Int))/\w.cell? ⟨7,i*2+1,none⟩=some (.int .u64 ((pw i).2:Int))
theorem Lays.mod {w w':World} {F:Nat->Prop} (h:Lays w) (hm:Mod F w w') (hF:∀g,g<16->¬F g):Lays w':=by
 refine ⟨?_,fun i hi=>⟨hm.cell (h.p10 i hi).1 (hF 7 zd),hm.cell (h.p10 i hi).2 (hF 7 zd)⟩⟩;have h1:=h.u10;unfold Lib.TabIs World.var? at*
 have hg:Tryz.prog.globalNamed "internal/strconv.uint64pow10" =some 3:=by kernel_rfl
 rw [hg] at h1⊢;simp only [Option.bind_some] at h1⊢
 cases hb:w.heap[(3:Nat)]? with
 |none=>rw [hb] at h1;cases h1
 |some o=>
  rw [hm.heap hb (hF _ zd)];rw [hb] at h1;exact h1
theorem Lays.mod0 {w w':World} (h:Lays w) (hm:Mod (fun _=>False) w w'):Lays w':=h.mod hm zi
theorem a7j (w:World) (hw:Lays w) (g:Nat) (hg:w.heap[g]? =some (.cells #[.int .u64 0,.int .u64 0,.int .i64 0] 333 (0,0))) (e lp:Int) (i s:Nat) (hi:i<696) (he: -3000<=e/\e<=3000) (hl: -3000<=lp/\lp<=3000) (hs: -(e+lp+3)=s):
 Calls Tryz.prog 259 #[.pointer (some ⟨g,0,none⟩),.int .i64 e,.int .i64 ((i:Int) - 348),.int .i64 lp] w fun x w'=>x= .returned (.tuple #[])/\a9e w' g (pw i).1 (pw i).2 s/\Mod (fun k=>k=g) w w':=by
 have c0:w.cell? ⟨g,0,none⟩=some (.int .u64 0):=d6 hg rfl;have c1:w.cell? ⟨g,1,none⟩=some (.int .u64 0):=d6 hg rfl;have c2:w.cell? ⟨g,2,none⟩=some (.int .i64 0):=d6 hg rfl;have f0:w.frozen? ⟨g,0,none⟩=false:=r9 hg;have f1:w.frozen? ⟨g,1,none⟩=false:=r9 hg;have f2:w.frozen? ⟨g,2,none⟩=false:=r9 hg;obtain ⟨hp0,hp1⟩:=hw.p10 i hi
 go_enter Tryz.func259,Tryz.ntmps259
 go_wp2_with fail
 go_end0
 refine ⟨rfl,⟨d6 (j6 (j6 (j6 hg))) rfl,d6 (j6 (j6 (j6 hg))) rfl,d6 (j6 (j6 (j6 hg))) rfl⟩, ?_⟩;exact (((Mod.refl (fun k=>k=g) w).setCell (fun _=>rfl) _).setCell (fun _=>rfl) _).setCell (fun _=>rfl) _
end Go.Proofs.YtdmjoodhaeijmaaGreatDoor
namespace Go.Proofs.YtdmjoodhaeijmaaGreatDoor
open Go.RowKit
theorem a5a (x:Int) (h0: -100000<=x) (h1:x<=100000) (w:World) (p:Int) (hp:Q9 x=p):Calls Tryz.prog 231 #[.int .i64 x] w fun e w'=>e= .returned (.int .i64 p)/\w'=w:=hp▸b0H x h0 h1 w
theorem b3m (x:Int) (h0: -100000<=x) (h1:x<=100000) (w:World) (p:Int) (hp:a2z x=p):Calls Tryz.prog 258 #[.int .i64 x] w fun e w'=>e= .returned (.int .i64 p)/\w'=w:=hp▸b0I x h0 h1 w
theorem a02 {k:IntKind} {x y:Int} (h:x=y):Value.int k x=Value.int k y:=by rw [h]
theorem a5Q (n:Nat):bits .and .i64 (n:Int) 1=((n%2:Nat):Int):=by
 have:=a1O n 1 zd;have e:bits .and .i64 (n:Int) 1=n%2:=this;rw [e];omega
theorem b6E:(List.range 696).all (fun i=>decide (9223372036854775808<=(pw i).1/\(pw i).1<18446744073709551616/\(pw i).2<18446744073709551616))=true:=by decide+kernel
theorem b5t (i:Nat) (h:i<696):9223372036854775808<=(pw i).1/\(pw i).1<18446744073709551616/\(pw i).2<18446744073709551616:=of_decide_eq_true (zz15 b6E i (List.mem_range.2 h))
theorem b3n (m:Nat) (e:Int) (he0: -1137<=e) (he1:e<=960): -348<=(t6 m e).p/\(t6 m e).p<=347/\1<= -(e+a1b (t6 m e).p+3)/\ -(e+a1b (t6 m e).p+3)<=60/\(t6 m e).odd<=1:=by
 unfold t6;split
 ·simp only;unfold a1b a2z;omega
 split
 ·simp only;unfold a1b Q9;omega
 simp only;rw [show e+(11+(-1085 - e))= -1074 by omega];unfold a1b Q9;omega
theorem b0J (a:Nat):a|||1<=a+1:=by rw [a2i];omega
theorem a2k (a b:Nat) (hb:b=0\/b=1):a<=a|||b/\a|||b<=a+1:=by
 rcases hb with rfl|rfl
 ·simp
 rw [a2i];omega
theorem a5R (x hi lo s:Nat) (hx:x<18446744073709551616) (hh:hi<18446744073709551616) (hs:1<=s):usc x hi lo s<=9223372036854775809:=by
 have h1:x*hi / W64<18446744073709551616:=Nat.div_lt_of_lt_mul (Nat.mul_lt_mul'' hx hh)
 have h2:∀H,H<18446744073709551616->H / 2^s<=9223372036854775808:=fun H hH=>by
  have:2^1<=2^s:=Nat.pow_le_pow_right zd hs;have h3:H / 2^s<=H / 2^1:=Nat.div_le_div_left this zd;omega
 unfold usc;split
 ·refine Nat.le_trans (a2k _ _ ?_).2 (Nat.succ_le_succ (h2 _ (Nat.lt_of_le_of_lt (Nat.sub_le _ _) h1)));split
  ·exact .inr rfl
  exact .inl rfl
 exact Nat.le_trans (b0J _) (Nat.succ_le_succ (h2 _ h1))
theorem a9f (x hi lo s:Nat) (hx:9223372036854775808<=x) (hh:9223372036854775808<=hi) (hs:s<=60):1<=usc x hi lo s:=by
 have h1:4611686018427387904<=x*hi / W64:=by
  rw [Nat.le_div_iff_mul_le zd];exact Nat.le_trans zd (Nat.mul_le_mul hx hh)
 have h2:∀H,4611686018427387903<=H->1<=H / 2^s:=fun H hH=>by
  have:2^s<=2^60:=Nat.pow_le_pow_right zd hs;rw [Nat.le_div_iff_mul_le (Nat.two_pow_pos s)];omega
 unfold usc;split
 ·refine Nat.le_trans (h2 _ ?_) (a2k _ _ ?_).1
  ·split<;>omega
  split
  ·exact .inr rfl
  exact .inl rfl
 exact Nat.le_trans (h2 _ zo) (a2k _ _ (.inr rfl)).1
theorem b3o (w:World) (hw:Lays w) (m:Nat) (e:Int) (hm0:9223372036854775808<=m) (hm1:m<18446744073709551616) (he0: -1137<=e) (he1:e<=960) (hmx:(t6 m e).mx<18446744073709551616):
 Calls Tryz.prog 246 #[.int .u64 m,.int .i64 e] w fun x w'=>x= .returned (.tuple #[.int .u64 (B8 m e).1,.int .i64 (B8 m e).2])/\Mod (fun _=>False) w w':=by
 obtain ⟨c,hc⟩:∃c,t6 m e=c:=⟨_,rfl⟩;rw [hc] at hmx;refine hh3 hw hc hmx fun Hw Hc nI=> ?_;clear hw hc hmx
 go_enter Tryz.func246,Tryz.ntmps246
 go_upto_region 12 with fail
 go_cut [28] from 22 to 27 (fun t wx=>t= .bool (decide (m=2^63/\ -1085<e))/\wx=w)
 case first=>
  by_cases h1:m=9223372036854775808
  ·have hb:((m:Int)==9223372036854775808)=true:=by rw [beq_iff_eq];omega
   by_cases h2: -1085<e
   ·have hd:decide (m=2^63/\ -1085<e)=true:=decide_eq_true ⟨h1,h2⟩;refine hh1 hd fun Hd=> ?_;clear hd h1
    go_wp2_with fail
    go_meet
    case rel=>exact ⟨by rw [Hd.out],rfl⟩
   have hd:decide (m=2^63/\ -1085<e)=false:=decide_eq_false (fun h=>h2 h.2);have h3:decide (-1085<e)=false:=decide_eq_false h2;refine hh1 hd fun Hd=> ?_;clear hd h1 h2
   go_wp2_with fail
   go_meet
   case rel=>exact ⟨by rw [Hd.out],rfl⟩
  have hb:((m:Int)==9223372036854775808)=false:=by rw [beq_eq_false_iff_ne];omega
  have hd:decide (m=2^63/\ -1085<e)=false:=decide_eq_false (fun h=>h1 h.1);refine hh1 hd fun Hd=> ?_;clear hd h1
  go_wp2_with fail
  go_meet
  case rel=>exact ⟨by rw [Hd.out],rfl⟩
 case rest=>
  obtain ⟨rfl,rfl⟩:=hcut;obtain ⟨w0,rfl⟩:∃w0:World,w0=wc:=⟨_,rfl⟩
  go_upto_if 28 with fail
  go_cut [5,8,9,10,11] from 28 to 96 (fun pv mn mx od z wx=>pv= .int .i64 c.p/\mn= .int .u64 c.mn/\mx= .int .u64 c.mx/\od= .int .i64 c.odd/\wx=w0)
  case first=>
   by_cases h1:m=2^63/\ -1085<e
   ·obtain ⟨h0,h2⟩:=h1;have hcs:c=⟨m - 2^9,m+2^10,m / 2^11%2, -a2z (e+11)⟩:=by rw [<-Hc.out];unfold t6;rw [if_pos ⟨h0,h2⟩]
    obtain ⟨p,hp⟩:∃p,a2z (e+11)=p:=⟨_,rfl⟩;have hsk:=b3m (e+11) zo zo w0 p hp;have hp0: -400<=p/\p<=400:=by rw [<-hp];unfold a2z;omega
    have hd:decide (m=2^63/\ -1085<e)=true:=decide_eq_true ⟨h0,h2⟩;rw [hd];have hm2:(m:Int)+1024<18446744073709551616:=zo
    have au:(512:Int)<=m:=zo
    refine hh4 hsk hcs hp h0 fun iL iI Hp H0=> ?_;clear hsk hcs hp h0 hd
    go_wp2_with fail
    refine iL.out.mono ?_;rintro x w1 ⟨rfl,rfl⟩
    go_wp2_with fail
    go_meet
    case rel=>
     have hv:=a5Q (m / 2048);rw [iI.out];refine ⟨a02 (by rw [Hp.out]),a02 (show (m:Int) - 512=((m - 2^9:Nat):Int) by omega),a02 (show (m:Int)+1024=((m+2^10:Nat):Int) by omega),a02 ?_,rfl⟩;rw [show ((m:Int) / 2048)=((m / 2048:Nat):Int) by omega,hv]
   by_cases h2: -1085<=e
   ·have hcs:c=⟨m - 2^10,m+2^10,m / 2^11%2, -Q9 (e+11)⟩:=by rw [<-Hc.out];unfold t6;rw [if_neg h1,if_pos h2]
    obtain ⟨p,hp⟩:∃p,Q9 (e+11)=p:=⟨_,rfl⟩;have hsk:=a5a (e+11) zo zo w0 p hp;have hp0: -400<=p/\p<=400:=by rw [<-hp];unfold Q9;omega
    have hd:decide (m=2^63/\ -1085<e)=false:=decide_eq_false h1;rw [hd];have hm2:(m:Int)+1024<18446744073709551616:=by have:=nI.out;rw [hcs] at this;simp only at this;omega
    have au:(1024:Int)<=m:=zo
    refine hh3 hsk hcs hp fun iL iI Hp=> ?_;clear hsk hcs hp hd h1
    go_wp2_with fail
    refine iL.out.mono ?_;rintro x w1 ⟨rfl,rfl⟩
    go_wp2_with fail
    go_meet
    case rel=>
     have hv:=a5Q (m / 2048);rw [iI.out];refine ⟨a02 (by rw [Hp.out]),a02 (show (m:Int) - 1024=((m - 2^10:Nat):Int) by omega),a02 (show (m:Int)+1024=((m+2^10:Nat):Int) by omega),a02 ?_,rfl⟩;rw [show ((m:Int) / 2048)=((m / 2048:Nat):Int) by omega,hv]
   obtain ⟨k,rfl⟩:∃k:Nat,e= -1074 - k:=⟨(-1074 - e).toNat,zo⟩;have hk:11<k/\k<=63:=zo
   have hcs:c=⟨m - 2^(k - 1),m+2^(k - 1),m / 2^k%2, -Q9 (-1074)⟩:=by
    rw [<-Hc.out];unfold t6;rw [if_neg h1,if_neg h2];have e1:(11+(-1085 - (-1074 - (k:Int)))).toNat=k:=zo
    have e2:(-1074 - (k:Int))+(11+(-1085 - (-1074 - (k:Int))))= -1074:=zo
    rw [e1,e2]
   obtain ⟨p,hp⟩:∃p,Q9 (-1074)=p:=⟨_,rfl⟩;have hsk:=a5a (-1074) zo zo w0 p hp;have hp0: -400<=p/\p<=400:=by rw [<-hp];unfold Q9;omega
   have hd:decide (m=2^63/\ -1085< -1074 - (k:Int))=false:=decide_eq_false h1;rw [hd];have hk0:(1:Int)<=k:=zo
   have hk1:(k:Int)<=63:=zo
   have hkk:11+(-1085 - (-1074 - (k:Int)))=k:=zo
   have hle: -1074 - (k:Int)< -1085:=zo
   refine hh3 hsk hcs hp fun iL iI Hp=> ?_;clear hsk hcs hp hd h1 h2
   go_wp2_with fail
   refine iL.out.mono ?_;rintro x w1 ⟨rfl,rfl⟩
   go_wp2_with fail
   go_meet
   case rel=>
    have hpk:(2:Int)^(k - 1)=((2^(k - 1):Nat):Int):=by push_cast;rfl
    have hpl:2^(k - 1)<=2^62:=Nat.pow_le_pow_right zd zo;have hmx:=nI.out;rw [iI.out] at hmx⊢;simp only at hmx;rw [hpk];obtain ⟨K,hK⟩:∃K,2^(k - 1)=K:=⟨_,rfl⟩;rw [hK] at hpl hmx⊢;refine ⟨a02 (by rw [Hp.out]),a02 (show _=((m - K:Nat):Int) from ?_),a02 (show _=((m+K:Nat):Int) from ?_),a02 ?_,rfl⟩
    ·rw [wrap_u64,wrap_u64,Int.emod_eq_of_lt (a:=(K:Int)) zo zo,Int.emod_eq_of_lt zo zo];omega
    ·rw [wrap_u64,wrap_u64,Int.emod_eq_of_lt (a:=(K:Int)) zo zo,Int.emod_eq_of_lt zo zo];omega
    have hdv:m / 2^k<=m / 2^11:=Nat.div_le_div_left (Nat.pow_le_pow_right zd zo) zd;have e1:((m:Int) / 2^k)=((m / 2^k:Nat):Int):=by push_cast;rfl
    obtain ⟨D,hD⟩:∃D,m / 2^k=D:=⟨_,rfl⟩;rw [hD] at hdv e1
    have e2:wrap64 (D:Int)=(D:Int):=by
     unfold wrap64;omega
    rw [e1,e2,hD];exact a5Q D
  case rest=>
   obtain ⟨rfl,rfl,rfl,rfl,rfl⟩:=hcut;obtain ⟨w0,rfl⟩:∃w0:World,w0=wc:=⟨_,rfl⟩;have hok:=b3n m e he0 he1;rw [Hc.out] at hok;obtain ⟨hp0,hp1,hs0,hs1,hod⟩:=hok;obtain ⟨i,hi⟩:∃i:Nat,c.p=i - 348:=⟨(c.p+348).toNat,zo⟩;have Qu:i<696:=zo
   obtain ⟨s,hs⟩:∃s:Nat, -(e+a1b c.p+3)=s:=⟨(-(e+a1b c.p+3)).toNat,zo⟩;obtain ⟨hw0,hw1,hw2⟩:=b5t i Qu
   have Bn:c.mn<18446744073709551616:=by
    rw [<-Hc.out];unfold t6;split
    ·exact Nat.lt_of_le_of_lt (Nat.sub_le _ _) hm1
    split<;>exact Nat.lt_of_le_of_lt (Nat.sub_le _ _) hm1
   have Nq:9223372036854775808<=c.mx:=by
    rw [<-Hc.out];unfold t6;split
    ·exact Nat.le_trans hm0 (Nat.le_add_right _ _)
    split<;>exact Nat.le_trans hm0 (Nat.le_add_right _ _)
   have hmx:=nI.out;obtain ⟨wa,ak,ae,aa,ah⟩:=g6 w0 (.cells #[.int .u64 0,.int .u64 0,.int .i64 0] 333);have hl2:=b3j c.p zo zo wa;obtain ⟨lp,hlp⟩:∃lp,a1b c.p=lp:=⟨_,rfl⟩;rw [hlp] at hl2 hs hs0 hs1;have hpr:=a7j wa (Hw.out.mod0 ae) w0.heap.size aa e lp i s Qu zo zo hs;rw [hi] at hl2;obtain ⟨U1,wJ⟩:∃u,usc c.mn (pw i).1 (pw i).2 s=u:=⟨_,rfl⟩;obtain ⟨U2,uD⟩:∃u,usc c.mx (pw i).1 (pw i).2 s=u:=⟨_,rfl⟩;obtain ⟨Um,Gl⟩:∃u,usc m (pw i).1 (pw i).2 s=u:=⟨_,rfl⟩;have zX:s<64:=zo
   have hb1:U1<=9223372036854775809:=wJ▸a5R c.mn _ _ s Bn hw1 zo;have hb2:U2<=9223372036854775809:=uD▸a5R c.mx _ _ s hmx hw1 zo;have uK:Um<=9223372036854775809:=Gl▸a5R m _ _ s hm1 hw1 zo;have hb3:1<=U2:=uD▸a9f c.mx _ _ s Nq hw0 zo;have hu1:=fun w h=>a2j c.mn (pw i).1 (pw i).2 s w0.heap.size Bn hw1 hw2 zX (Nat.le_mul_of_pos_right _ zo) w h;have hu2:=fun w h=>a2j c.mx (pw i).1 (pw i).2 s w0.heap.size hmx hw1 hw2 zX (Nat.le_mul_of_pos_right _ zo) w h;have Nr:=fun w h=>a2j m (pw i).1 (pw i).2 s w0.heap.size hm1 hw1 hw2 zX (Nat.le_mul_of_pos_right _ zo) w h;rw [wJ] at hu1;rw [uD] at hu2;rw [Gl] at Nr
   have Ns:D3 m e=(U1+c.odd+3) / 4:=by
    unfold D3 S3 V0 sOf;rw [Hc.out];simp only;rw [show (c.p+348).toNat=i by omega,hlp,show (-(e+lp+3)).toNat=s by omega,wJ]
   have Nt:D4 m e=(U2 - c.odd) / 4:=by
    unfold D4 S3 V0 sOf;rw [Hc.out];simp only;rw [show (c.p+348).toNat=i by omega,hlp,show (-(e+lp+3)).toNat=s by omega,uD]
   have fw:B8 m e=if D3 m e<=D4 m e / 10*10 then (D4 m e / 10, -(c.p - 1)) else if D3 m e<D4 m e then (rnd Um, -c.p) else (D3 m e, -c.p):=by
    unfold B8 S3 V0 sOf;rw [Hc.out];simp only;rw [show (c.p+348).toNat=i by omega,hlp,show (-(e+lp+3)).toNat=s by omega,Gl]
   rw [Ns,Nt] at fw;rw [hi];rw [hi] at fw;have VX:(c.odd:Int)=0\/(c.odd:Int)=1:=zo
   refine hh8 ak ae aa hl2 hpr hu1 hu2 Nr fun aB ai aC jF rD VY Bj VZ=> ?_;refine hh8 wJ uD Gl Ns Nt fw hlp hi fun Yd Ye Yf Yg Yh GH Yi Hi=> ?_;refine hh4 hs hw0 hw1 hw2 fun Hs NF gW Gt=> ?_;clear ak ae aa hl2 hpr hu1 hu2 Nr wJ uD Gl Ns Nt fw hlp hi hs hw0 hw1 hw2 ah Hw hmx
   go_wp2_with (rw [show w0.alloc _=wa from aB.out])
   refine jF.out.mono ?_;rintro x w1 ⟨rfl,rfl⟩
   go_wp2_with fail
   refine rD.out.mono ?_;rintro x w2 ⟨rfl,hS2,hm2⟩;have aK:Mod (fun _=>False) w0 w2:=ai.out.upon hm2 (fun b hb=> .inr zo);have gJ:=VY.out w2 hS2;refine hh3 hS2 aK gJ fun HS2 aN Mm=> ?_;clear hS2 aK gJ hm2 rD
   go_wp2_with fail
   refine Mm.out.mono ?_;rintro x w3 ⟨rfl,au⟩;have ul:a9e w3 w0.heap.size (pw i).1 (pw i).2 s:=⟨au.cell HS2.out.1 id,au.cell HS2.out.2.1 id,au.cell HS2.out.2.2 id⟩;have aR:=aN.out.trans au zi;have hn1:=a7i U1 c.odd zo zo w3;obtain ⟨V1,hV1⟩:∃v,U1+c.odd=v:=⟨_,rfl⟩;rw [show ((U1:Int)+(c.odd:Int))=(V1:Int) by omega] at hn1;have hc1:=b45 V1 zo w3;obtain ⟨A,hA⟩:∃a,(V1+3) / 4=a:=⟨_,rfl⟩;rw [hA] at hc1;have Uq:A<=4611686018427387904:=zo
   have hub:=Bj.out w3 ul;refine hh7 ul aR hn1 hc1 hV1 hA hub fun EF aT Qv HZ Wd HA We=> ?_;clear ul aR hn1 hc1 hV1 hA hub au Mm HS2 aN
   go_wp2_with fail
   refine Qv.out.mono ?_;rintro x w4 ⟨rfl,rfl⟩
   go_wp2_with fail
   refine HZ.out.mono ?_;rintro x w5 ⟨rfl,rfl⟩
   go_wp2_with fail
   refine We.out.mono ?_;rintro x w6 ⟨rfl,cz⟩;have Nu:a9e w6 w0.heap.size (pw i).1 (pw i).2 s:=⟨cz.cell EF.out.1 id,cz.cell EF.out.2.1 id,cz.cell EF.out.2.2 id⟩;have jT:=aT.out.trans cz zi;have hn2:=a7i U2 (-(c.odd:Int)) zo zo w6;obtain ⟨V2,hV2⟩:∃v,U2 - c.odd=v:=⟨_,rfl⟩;rw [show ((U2:Int)+ -(c.odd:Int))=(V2:Int) by omega] at hn2;have hc2:=b3k V2 zo w6;obtain ⟨B,hB⟩:∃a,V2 / 4=a:=⟨_,rfl⟩;rw [hB] at hc2;have hBl:B<=4611686018427387904:=zo
   have huc:=VZ.out w6 Nu;have fw:=GH.out;rw [Wd.out,hV2,HA.out,hB] at fw;have hrn:=b3l Um zo;refine hh8 Nu jT hn2 hc2 hV2 hB huc hrn fun Yj jU tO Km Yk HB Wh Wi=> ?_;clear Nu jT hn2 hc2 hV2 hB huc hrn cz EF aT Qv HZ
   go_wp2_with fail
   refine tO.out.mono ?_;rintro x w7 ⟨rfl,rfl⟩
   go_wp2_with fail
   refine Km.out.mono ?_;rintro x w8 ⟨rfl,rfl⟩;by_cases h1:A<=B / 10*10
   ·rw [if_pos h1] at fw;have h1':(A:Int)<=(B:Int) / 10*10:=zo
    have qX:=zh fw;clear fw
    go_wp2_with fail
    go_ret2
    refine ⟨?_,jU.out⟩;rw [qX.out];congr 3
   rw [if_neg h1] at fw;have h1':(B:Int) / 10*10<A:=zo
   by_cases h2:A<B
   ·rw [if_pos h2] at fw;have h2':(A:Int)<B:=zo
    have qX:=zh fw;clear fw
    go_wp2_with fail
    refine Wh.out.mono ?_;rintro x w9 ⟨rfl,iD⟩;have Gm:=jU.out.trans iD zi;have hrr:=Wi.out w9;refine hh2 Gm hrr fun Nw GI=> ?_;clear Gm hrr iD
    go_wp2_with fail
    refine GI.out.mono ?_;rintro x wA ⟨rfl,rfl⟩
    go_wp2_with fail
    go_ret2
    exact ⟨by rw [qX.out];rfl,Nw.out⟩
   rw [if_neg h2] at fw;have h2':(B:Int)<=A:=zo
   have qX:=zh fw;clear fw
   go_wp2_with fail
   go_ret2
   exact ⟨by rw [qX.out];rfl,jU.out⟩
end Go.Proofs.YtdmjoodhaeijmaaGreatDoor
