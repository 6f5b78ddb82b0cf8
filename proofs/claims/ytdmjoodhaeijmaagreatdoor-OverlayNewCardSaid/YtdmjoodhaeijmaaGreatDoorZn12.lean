/- Lemmas. -/
import Derived.Test.YtdmjoodhaeijmaaGreatDoorZn10
set_option maxHeartbeats 40000000
set_option maxRecDepth 20000
namespace Go.Proofs.YtdmjoodhaeijmaaGreatDoor
open Go.RowKit
theorem b3B (F:Nat->Prop) (w:World) (v:Value) (neg:Bool) (hb:Buf F w w v []):
 Calls Tryz.prog 239 #[v,.bool neg,.slice none 0 0,.int .i64 0,.int .i64 0,.int .i64 (-1),.int .u8 103,.bool true] w fun x w'=>∃v',x= .returned v'/\Buf F w w' v' (B6 neg++[48]):=by
 obtain ⟨ad,cap,rfl, -⟩:=hb.own.shape;refine hh1 hb fun Hb=> ?_;clear hb;cases neg
 ·go_enter Tryz.func239,Tryz.ntmps239
  go_wp2_with ((with_reducible refine g0 (.tmp 209) ?_);refine ⟨rfl,F,w,_,_,[48],Hb.out,by first|rfl|(go_simp;done),rfl,zd,zd,by first|decide|(have h:=aY.out;exact h),rfl,rfl,fun ad1 cap1 w1 hb1=> ?_⟩;have Hb1:=Lib.hid hb1;clear hb1)
  go_ret;exact ⟨_,rfl,Hb1.out⟩
 go_enter Tryz.func239,Tryz.ntmps239
 go_wp2_with (first|((with_reducible refine g0 (.tmp 179) ?_);refine ⟨rfl,F,w,_,_,[45],Hb.out,by first|rfl|(go_simp;done),rfl,zd,zd,by first|decide|(have h:=aY.out;exact h),rfl,rfl,fun ad0 cap0 w0 hb0=> ?_⟩;have Hb0:=Lib.hid hb0;clear hb0)|((with_reducible refine g0 (.tmp 209) ?_);refine ⟨rfl,F,w,_,_,[48],Hb0.out,by first|rfl|(go_simp;done),rfl,zd,zd,by first|decide|(have h:=aY.out;exact h),rfl,rfl,fun ad1 cap1 w1 hb1=> ?_⟩;have Hb1:=Lib.hid hb1;clear hb1))
 go_ret;exact ⟨_,rfl,Hb1.out⟩
theorem a2N {w:World} {g:Nat} {l:List UInt8} (i:Nat) (h:a1r w g l) (m cap:Nat) (hm:m=l.length - i) (hc:m<=cap):i8 w 1 (.slice (some ⟨g,i,none⟩) m cap) (l.drop i).length (u8s (l.drop i)):=by
 refine ⟨by rw [Z1,Nat.mul_one],some ⟨g,i,none⟩,cap, ?_,by rw [List.length_drop];omega,(fun h=>by cases h),fun b hb _=> ?_⟩
 ·rw [List.length_drop,hm]
 ·cases hb
  refine ⟨g,i,rfl,fun j u hu=> ?_⟩;obtain ⟨b,hb,rfl⟩:=b6g hu;rw [List.getElem?_drop] at hb;exact h _ _ hb
def D6 (ds:List UInt8):List UInt8:=if ds.length<=1 then [] else 46::ds.drop 1
def J6 (e:Nat):List UInt8:=if e<100 then [UInt8.ofNat (48+e / 10),UInt8.ofNat (48+e%10)] else [UInt8.ofNat (48+e / 100),UInt8.ofNat (48+e / 10%10),UInt8.ofNat (48+e%10)]
def S8 (d:Int):List UInt8:=if d<0 then 45::J6 (-d).toNat else 43::J6 d.toNat
theorem b3C (F:Nat->Prop) (w:World) (v:Value) (g:Nat) (neg:Bool) (ds:List UInt8) (fd:UInt8) (dp:Int) (e:Nat) (hx:dp - 1=(e:Int)) (hb:Buf F w w v []) (hd:a1r w g ds) (hg:¬F g) (kg:ds[0]? =some fd) (h32:ds.length<=32) (he0:6<=e) (he1:e<=500):
 Calls Tryz.prog 239 #[v,.bool neg,.slice (some ⟨g,0,none⟩) 32 32,.int .i64 dp,.int .i64 ds.length,.int .i64 ds.length,.int .u8 103,.bool true] w fun x w'=>∃v',x= .returned v'/\Buf F w w' v' (B6 neg++[fd]++D6 ds++[101]++S8 (dp - 1)):=by
 obtain ⟨ad,cap,rfl, -⟩:=hb.own.shape
 have hex:S8 (dp - 1)=43::J6 e:=by
  rw [hx];unfold S8;rw [if_neg zo,Int.toNat_natCast]
 rw [hex];clear hex;obtain ⟨n,hn⟩:∃n,ds.length=n:=⟨_,rfl⟩;have h0:0<ds.length:=(zz6 kg).1;rw [hn] at h0 h32⊢;have c0:=hd 0 fd kg;unfold Y4 at c0;have h4:¬((e:Int)< -4):=zo
 have II:decide ((e:Int)< -4)=false:=decide_eq_false h4;have h6:(6:Int)<=e:=zo
 have hn0:¬((n:Int)=0):=zo
 have hnn:(n:Int) - 1+1=n:=zo
 have Bn:min (n:Int) n=n:=zo
 have hnz:(n:Int) - n=0:=zo
 refine hh5 hb hd hg hn kg fun Hb Hd Hg Hn Ab=> ?_;clear hb hd hg hn kg;cases neg
 ·go_enter Tryz.func239,Tryz.ntmps239
  go_upto_if 92 with ((with_reducible refine g0 (.tmp 87) ?_);refine ⟨rfl,F,w,_,_,[fd],Hb.out,by first|rfl|(go_simp;done),rfl,zd,zd,by first|decide|(have h:=aY.out;exact h),rfl,rfl,fun ad1 cap1 w1 hb1=> ?_⟩;have Hb1:=Lib.hid hb1;clear hb1)
  go_cut [0,20,21] from 92 to 119 (fun tv iv mv wx=>Buf F w wx tv (([]:List UInt8)++[fd]++D6 ds))
  case first=>
   by_cases h1:n=1
   ·have h1':¬((0:Int)<(n:Int) - 1):=zo
    have hfr:D6 ds=[]:=by unfold D6;rw [if_pos (by have:=Hn.out;omega)]
    refine hh1 hfr fun aW=> ?_;clear hfr h1
    go_wp2_with fail
    go_meet
    case rel=>rw [aW.out,zz11];exact Hb1.out
   have h1':(0:Int)<(n:Int) - 1:=zo
   have IP:(1:Int)<n:=zo
   have hfr:D6 ds=46::ds.drop 1:=by unfold D6;rw [if_neg (by have:=Hn.out;omega)]
   refine hh1 hfr fun aW=> ?_;clear hfr h1
   go_wp2_with (first|((with_reducible refine g0 (.tmp 93) ?_);refine ⟨rfl,F,w,_,_,[46],Hb1.out,by first|rfl|(go_simp;done),rfl,zd,zd,by simp,rfl,rfl,fun ad2 cap2 w2 hb2=> ?_⟩;have Hb2:=Lib.hid hb2;clear hb2)|((with_reducible refine W2 (.tmp 103) (.tmp 107) ?_);refine ⟨rfl,F,w,_,_,ds.drop 1,.slice (some ⟨g,1,none⟩) (n - 1) 31,Hb2.out,rfl,rfl,a2N 1 (Hb2.out.digs Hd.out Hg.out) (n - 1) 31 (by have:=Hn.out;omega) zo,Nat.le_of_ble_eq_true rfl,(by have:=Hn.out;rw [List.length_drop];omega),fun ad3 cap3 w3 hb3=> ?_⟩;have Hb3:=Lib.hid hb3;clear hb3))
   go_loopw [0,114] (fun tv i wr=>i= .int .i64 0/\Buf F w wr tv (([]:List UInt8)++[fd]++D6 ds)) (fun _ _ _=>0)
   case atStart=>exact ⟨rfl,by rw [aW.out];simpa using Hb3.out⟩
   case round=>
    obtain ⟨rfl,hbz⟩:=hrel;refine hh1 hbz fun nM=> ?_;clear hbz
    go_wp2_with fail
    go_meet
    case rel=>exact nM.out
  case rest=>
   obtain ⟨adc,capc,hv, -⟩:=hcut.own.shape;subst hv
   have hfl:(D6 ds).length<=100:=by
    have:=Hn.out;unfold D6;split<;>simp<;>omega
   have uH: -(-(e:Int))=e:=zo
   refine hh2 hcut hfl fun dI bQ=> ?_;clear hcut hfl;by_cases h10:e<10
   ·have fe:(e:Int)<10:=zo
    obtain ⟨q,hq⟩:∃q:UInt8,UInt8.ofNat (48+e)=q:=⟨_,rfl⟩;have hqe:(e:Int)+48=q.toNat:=by rw [<-hq,UInt8.toNat_ofNat'];omega
    have hex:J6 e=[48,q]:=by unfold J6;rw [if_pos zo,Nat.div_eq_of_lt h10,Nat.mod_eq_of_lt h10,hq];rfl
    refine hh2 hex hq fun Hex Hq=> ?_;clear hex hq
    go_wp2_with (first|((with_reducible refine g0 (.tmp 120) ?_);refine ⟨rfl,F,w,_,_,[101],dI.out,by first|rfl|(go_simp;done),rfl,zd,zd,by simp only [zz4,zz9,List.length_nil];have h:=bQ.out;omega,rfl,rfl,fun ad4 cap4 w4 hb4=> ?_⟩;have Hb4:=Lib.hid hb4;clear hb4)|((with_reducible refine g0 (.tmp 132) ?_);refine ⟨rfl,F,w,_,_,[43],Hb4.out,by first|rfl|(go_simp;done),rfl,zd,zd,by simp only [zz4,zz9,List.length_nil];have h:=bQ.out;omega,rfl,rfl,fun ad5 cap5 w5 hb5=> ?_⟩;have Hb5:=Lib.hid hb5;clear hb5)|((with_reducible refine g0 (.tmp 155) ?_);(refine ⟨rfl,F,w,_,_,[48,q],Hb5.out, ?_⟩);(refine ⟨?_, ?_, ?_, ?_, ?_, ?_, ?_, ?_⟩);(any_goals rfl);(any_goals decide);(any_goals (go_simp;done));(focus (simp only [zz4,zz9,List.length_nil];have h:=bQ.out;omega));intro ad6 cap6 w6 hb6;have fo:=Lib.hid hb6;clear hb6))
    go_ret;exact ⟨_,rfl,by rw [Hex.out];simpa [B6] using fo.out⟩
   have fe:¬((e:Int)<10):=zo
   have xe:decide ((e:Int)<10)=false:=decide_eq_false fe;obtain ⟨q3,hq3⟩:∃q:UInt8,UInt8.ofNat (48+e%10)=q:=⟨_,rfl⟩;have xg:(e:Int)%10+48=q3.toNat:=by rw [<-hq3,UInt8.toNat_ofNat'];omega
   by_cases fq:e<100
   ·have dx:(e:Int)<100:=zo
    obtain ⟨q,hq⟩:∃q:UInt8,UInt8.ofNat (48+e / 10)=q:=⟨_,rfl⟩;have hqe:(e:Int) / 10+48=q.toNat:=by rw [<-hq,UInt8.toNat_ofNat'];omega
    have hex:J6 e=[q,q3]:=by unfold J6;rw [if_pos fq,hq,hq3]
    refine hh3 hex hq hq3 fun Hex Hq xh=> ?_;clear hex hq hq3
    go_wp2_with (first|((with_reducible refine g0 (.tmp 120) ?_);refine ⟨rfl,F,w,_,_,[101],dI.out,by first|rfl|(go_simp;done),rfl,zd,zd,by simp only [zz4,zz9,List.length_nil];have h:=bQ.out;omega,rfl,rfl,fun ad4 cap4 w4 hb4=> ?_⟩;have Hb4:=Lib.hid hb4;clear hb4)|((with_reducible refine g0 (.tmp 132) ?_);refine ⟨rfl,F,w,_,_,[43],Hb4.out,by first|rfl|(go_simp;done),rfl,zd,zd,by simp only [zz4,zz9,List.length_nil];have h:=bQ.out;omega,rfl,rfl,fun ad5 cap5 w5 hb5=> ?_⟩;have Hb5:=Lib.hid hb5;clear hb5)|((with_reducible refine g0 (.tmp 164) ?_);(refine ⟨rfl,F,w,_,_,[q,q3],Hb5.out, ?_⟩);(refine ⟨?_, ?_, ?_, ?_, ?_, ?_, ?_, ?_⟩);(any_goals rfl);(any_goals decide);(any_goals (go_simp;done));(focus (simp only [zz4,zz9,List.length_nil];have h:=bQ.out;omega));intro ad6 cap6 w6 hb6;have fo:=Lib.hid hb6;clear hb6))
    go_ret;exact ⟨_,rfl,by rw [Hex.out];simpa [B6] using fo.out⟩
   have dx:¬((e:Int)<100):=zo
   have nN:decide ((e:Int)<100)=false:=decide_eq_false dx;obtain ⟨q,hq⟩:∃q:UInt8,UInt8.ofNat (48+e / 100)=q:=⟨_,rfl⟩;obtain ⟨q2,hq2⟩:∃q:UInt8,UInt8.ofNat (48+e / 10%10)=q:=⟨_,rfl⟩;have hqe:(e:Int) / 100+48=q.toNat:=by rw [<-hq,UInt8.toNat_ofNat'];omega
   have xk:(e:Int) / 10%10+48=q2.toNat:=by rw [<-hq2,UInt8.toNat_ofNat'];omega
   have hex:J6 e=[q,q2,q3]:=by unfold J6;rw [if_neg fq,hq,hq2,hq3]
   refine hh4 hex hq hq2 hq3 fun Hex Hq IQ xh=> ?_;clear hex hq hq2 hq3
   go_wp2_with (first|((with_reducible refine g0 (.tmp 120) ?_);refine ⟨rfl,F,w,_,_,[101],dI.out,by first|rfl|(go_simp;done),rfl,zd,zd,by simp only [zz4,zz9,List.length_nil];have h:=bQ.out;omega,rfl,rfl,fun ad4 cap4 w4 hb4=> ?_⟩;have Hb4:=Lib.hid hb4;clear hb4)|((with_reducible refine g0 (.tmp 132) ?_);refine ⟨rfl,F,w,_,_,[43],Hb4.out,by first|rfl|(go_simp;done),rfl,zd,zd,by simp only [zz4,zz9,List.length_nil];have h:=bQ.out;omega,rfl,rfl,fun ad5 cap5 w5 hb5=> ?_⟩;have Hb5:=Lib.hid hb5;clear hb5)|((with_reducible refine g0 (.tmp 136) ?_);(refine ⟨rfl,F,w,_,_,[q,q2,q3],Hb5.out, ?_⟩);(refine ⟨?_, ?_, ?_, ?_, ?_, ?_, ?_, ?_⟩);(any_goals rfl);(any_goals decide);(any_goals (go_simp;done));(focus (simp only [zz4,zz9,List.length_nil];have h:=bQ.out;omega));intro ad6 cap6 w6 hb6;have fo:=Lib.hid hb6;clear hb6))
   go_ret;exact ⟨_,rfl,by rw [Hex.out];simpa [B6] using fo.out⟩
 go_enter Tryz.func239,Tryz.ntmps239
 go_upto_if 92 with (first|((with_reducible refine g0 (.tmp 79) ?_);refine ⟨rfl,F,w,_,_,[45],Hb.out,by first|rfl|(go_simp;done),rfl,zd,zd,by first|decide|(have h:=aY.out;exact h),rfl,rfl,fun ad0 cap0 w0 hb0=> ?_⟩;have Hb0:=Lib.hid hb0;clear hb0;have c0:=Hb0.out.digs Hd.out Hg.out 0 fd Ab.out;unfold Y4 at c0)|((with_reducible refine g0 (.tmp 87) ?_);refine ⟨rfl,F,w,_,_,[fd],Hb0.out,by first|rfl|(go_simp;done),rfl,zd,zd,by first|decide|(have h:=aY.out;exact h),rfl,rfl,fun ad1 cap1 w1 hb1=> ?_⟩;have Hb1:=Lib.hid hb1;clear hb1))
 go_cut [0,20,21] from 92 to 119 (fun tv iv mv wx=>Buf F w wx tv (([45]:List UInt8)++[fd]++D6 ds))
 case first=>
  by_cases h1:n=1
  ·have h1':¬((0:Int)<(n:Int) - 1):=zo
   have hfr:D6 ds=[]:=by unfold D6;rw [if_pos (by have:=Hn.out;omega)]
   refine hh1 hfr fun aW=> ?_;clear hfr h1
   go_wp2_with fail
   go_meet
   case rel=>rw [aW.out,zz11];exact Hb1.out
  have h1':(0:Int)<(n:Int) - 1:=zo
  have IP:(1:Int)<n:=zo
  have hfr:D6 ds=46::ds.drop 1:=by unfold D6;rw [if_neg (by have:=Hn.out;omega)]
  refine hh1 hfr fun aW=> ?_;clear hfr h1
  go_wp2_with (first|((with_reducible refine g0 (.tmp 93) ?_);refine ⟨rfl,F,w,_,_,[46],Hb1.out,by first|rfl|(go_simp;done),rfl,zd,zd,by simp,rfl,rfl,fun ad2 cap2 w2 hb2=> ?_⟩;have Hb2:=Lib.hid hb2;clear hb2)|((with_reducible refine W2 (.tmp 103) (.tmp 107) ?_);refine ⟨rfl,F,w,_,_,ds.drop 1,.slice (some ⟨g,1,none⟩) (n - 1) 31,Hb2.out,rfl,rfl,a2N 1 (Hb2.out.digs Hd.out Hg.out) (n - 1) 31 (by have:=Hn.out;omega) zo,Nat.le_of_ble_eq_true rfl,(by have:=Hn.out;rw [List.length_drop];omega),fun ad3 cap3 w3 hb3=> ?_⟩;have Hb3:=Lib.hid hb3;clear hb3))
  go_loopw [0,114] (fun tv i wr=>i= .int .i64 0/\Buf F w wr tv (([45]:List UInt8)++[fd]++D6 ds)) (fun _ _ _=>0)
  case atStart=>exact ⟨rfl,by rw [aW.out];simpa using Hb3.out⟩
  case round=>
   obtain ⟨rfl,hbz⟩:=hrel;refine hh1 hbz fun nM=> ?_;clear hbz
   go_wp2_with fail
   go_meet
   case rel=>exact nM.out
 case rest=>
  obtain ⟨adc,capc,hv, -⟩:=hcut.own.shape;subst hv
  have hfl:(D6 ds).length<=100:=by
   have:=Hn.out;unfold D6;split<;>simp<;>omega
  have uH: -(-(e:Int))=e:=zo
  refine hh2 hcut hfl fun dI bQ=> ?_;clear hcut hfl;by_cases h10:e<10
  ·have fe:(e:Int)<10:=zo
   obtain ⟨q,hq⟩:∃q:UInt8,UInt8.ofNat (48+e)=q:=⟨_,rfl⟩;have hqe:(e:Int)+48=q.toNat:=by rw [<-hq,UInt8.toNat_ofNat'];omega
   have hex:J6 e=[48,q]:=by unfold J6;rw [if_pos zo,Nat.div_eq_of_lt h10,Nat.mod_eq_of_lt h10,hq];rfl
   refine hh2 hex hq fun Hex Hq=> ?_;clear hex hq
   go_wp2_with (first|((with_reducible refine g0 (.tmp 120) ?_);refine ⟨rfl,F,w,_,_,[101],dI.out,by first|rfl|(go_simp;done),rfl,zd,zd,by simp only [zz4,zz9,List.length_nil];have h:=bQ.out;omega,rfl,rfl,fun ad4 cap4 w4 hb4=> ?_⟩;have Hb4:=Lib.hid hb4;clear hb4)|((with_reducible refine g0 (.tmp 132) ?_);refine ⟨rfl,F,w,_,_,[43],Hb4.out,by first|rfl|(go_simp;done),rfl,zd,zd,by simp only [zz4,zz9,List.length_nil];have h:=bQ.out;omega,rfl,rfl,fun ad5 cap5 w5 hb5=> ?_⟩;have Hb5:=Lib.hid hb5;clear hb5)|((with_reducible refine g0 (.tmp 155) ?_);(refine ⟨rfl,F,w,_,_,[48,q],Hb5.out, ?_⟩);(refine ⟨?_, ?_, ?_, ?_, ?_, ?_, ?_, ?_⟩);(any_goals rfl);(any_goals decide);(any_goals (go_simp;done));(focus (simp only [zz4,zz9,List.length_nil];have h:=bQ.out;omega));intro ad6 cap6 w6 hb6;have fo:=Lib.hid hb6;clear hb6))
   go_ret;exact ⟨_,rfl,by rw [Hex.out];simpa [B6] using fo.out⟩
  have fe:¬((e:Int)<10):=zo
  have xe:decide ((e:Int)<10)=false:=decide_eq_false fe;obtain ⟨q3,hq3⟩:∃q:UInt8,UInt8.ofNat (48+e%10)=q:=⟨_,rfl⟩;have xg:(e:Int)%10+48=q3.toNat:=by rw [<-hq3,UInt8.toNat_ofNat'];omega
  by_cases fq:e<100
  ·have dx:(e:Int)<100:=zo
   obtain ⟨q,hq⟩:∃q:UInt8,UInt8.ofNat (48+e / 10)=q:=⟨_,rfl⟩;have hqe:(e:Int) / 10+48=q.toNat:=by rw [<-hq,UInt8.toNat_ofNat'];omega
   have hex:J6 e=[q,q3]:=by unfold J6;rw [if_pos fq,hq,hq3]
   refine hh3 hex hq hq3 fun Hex Hq xh=> ?_;clear hex hq hq3
   go_wp2_with (first|((with_reducible refine g0 (.tmp 120) ?_);refine ⟨rfl,F,w,_,_,[101],dI.out,by first|rfl|(go_simp;done),rfl,zd,zd,by simp only [zz4,zz9,List.length_nil];have h:=bQ.out;omega,rfl,rfl,fun ad4 cap4 w4 hb4=> ?_⟩;have Hb4:=Lib.hid hb4;clear hb4)|((with_reducible refine g0 (.tmp 132) ?_);refine ⟨rfl,F,w,_,_,[43],Hb4.out,by first|rfl|(go_simp;done),rfl,zd,zd,by simp only [zz4,zz9,List.length_nil];have h:=bQ.out;omega,rfl,rfl,fun ad5 cap5 w5 hb5=> ?_⟩;have Hb5:=Lib.hid hb5;clear hb5)|((with_reducible refine g0 (.tmp 164) ?_);(refine ⟨rfl,F,w,_,_,[q,q3],Hb5.out, ?_⟩);(refine ⟨?_, ?_, ?_, ?_, ?_, ?_, ?_, ?_⟩);(any_goals rfl);(any_goals decide);(any_goals (go_simp;done));(focus (simp only [zz4,zz9,List.length_nil];have h:=bQ.out;omega));intro ad6 cap6 w6 hb6;have fo:=Lib.hid hb6;clear hb6))
   go_ret;exact ⟨_,rfl,by rw [Hex.out];simpa [B6] using fo.out⟩
  have dx:¬((e:Int)<100):=zo
  have nN:decide ((e:Int)<100)=false:=decide_eq_false dx;obtain ⟨q,hq⟩:∃q:UInt8,UInt8.ofNat (48+e / 100)=q:=⟨_,rfl⟩;obtain ⟨q2,hq2⟩:∃q:UInt8,UInt8.ofNat (48+e / 10%10)=q:=⟨_,rfl⟩;have hqe:(e:Int) / 100+48=q.toNat:=by rw [<-hq,UInt8.toNat_ofNat'];omega
  have xk:(e:Int) / 10%10+48=q2.toNat:=by rw [<-hq2,UInt8.toNat_ofNat'];omega
  have hex:J6 e=[q,q2,q3]:=by unfold J6;rw [if_neg fq,hq,hq2,hq3]
  refine hh4 hex hq hq2 hq3 fun Hex Hq IQ xh=> ?_;clear hex hq hq2 hq3
  go_wp2_with (first|((with_reducible refine g0 (.tmp 120) ?_);refine ⟨rfl,F,w,_,_,[101],dI.out,by first|rfl|(go_simp;done),rfl,zd,zd,by simp only [zz4,zz9,List.length_nil];have h:=bQ.out;omega,rfl,rfl,fun ad4 cap4 w4 hb4=> ?_⟩;have Hb4:=Lib.hid hb4;clear hb4)|((with_reducible refine g0 (.tmp 132) ?_);refine ⟨rfl,F,w,_,_,[43],Hb4.out,by first|rfl|(go_simp;done),rfl,zd,zd,by simp only [zz4,zz9,List.length_nil];have h:=bQ.out;omega,rfl,rfl,fun ad5 cap5 w5 hb5=> ?_⟩;have Hb5:=Lib.hid hb5;clear hb5)|((with_reducible refine g0 (.tmp 136) ?_);(refine ⟨rfl,F,w,_,_,[q,q2,q3],Hb5.out, ?_⟩);(refine ⟨?_, ?_, ?_, ?_, ?_, ?_, ?_, ?_⟩);(any_goals rfl);(any_goals decide);(any_goals (go_simp;done));(focus (simp only [zz4,zz9,List.length_nil];have h:=bQ.out;omega));intro ad6 cap6 w6 hb6;have fo:=Lib.hid hb6;clear hb6))
  go_ret;exact ⟨_,rfl,by rw [Hex.out];simpa [B6] using fo.out⟩
theorem b3D (F:Nat->Prop) (w:World) (v:Value) (g:Nat) (neg:Bool) (ds:List UInt8) (fd:UInt8) (dp:Int) (e:Nat) (hx:dp - 1= -(e:Int)) (hb:Buf F w w v []) (hd:a1r w g ds) (hg:¬F g) (kg:ds[0]? =some fd) (h32:ds.length<=32) (he0:5<=e) (he1:e<=500):
 Calls Tryz.prog 239 #[v,.bool neg,.slice (some ⟨g,0,none⟩) 32 32,.int .i64 dp,.int .i64 ds.length,.int .i64 ds.length,.int .u8 103,.bool true] w fun x w'=>∃v',x= .returned v'/\Buf F w w' v' (B6 neg++[fd]++D6 ds++[101]++S8 (dp - 1)):=by
 obtain ⟨ad,cap,rfl, -⟩:=hb.own.shape
 have hex:S8 (dp - 1)=45::J6 e:=by
  rw [hx];unfold S8;rw [if_pos zo,Int.neg_neg,Int.toNat_natCast]
 rw [hex];clear hex;obtain ⟨n,hn⟩:∃n,ds.length=n:=⟨_,rfl⟩;have h0:0<ds.length:=(zz6 kg).1;rw [hn] at h0 h32⊢;have c0:=hd 0 fd kg;unfold Y4 at c0;have h4: -(e:Int)< -4:=zo
 have hn0:¬((n:Int)=0):=zo
 have hnn:(n:Int) - 1+1=n:=zo
 have Bn:min (n:Int) n=n:=zo
 have hnz:(n:Int) - n=0:=zo
 refine hh5 hb hd hg hn kg fun Hb Hd Hg Hn Ab=> ?_;clear hb hd hg hn kg;cases neg
 ·go_enter Tryz.func239,Tryz.ntmps239
  go_upto_if 92 with ((with_reducible refine g0 (.tmp 87) ?_);refine ⟨rfl,F,w,_,_,[fd],Hb.out,by first|rfl|(go_simp;done),rfl,zd,zd,by first|decide|(have h:=aY.out;exact h),rfl,rfl,fun ad1 cap1 w1 hb1=> ?_⟩;have Hb1:=Lib.hid hb1;clear hb1)
  go_cut [0,20,21] from 92 to 119 (fun tv iv mv wx=>Buf F w wx tv (([]:List UInt8)++[fd]++D6 ds))
  case first=>
   by_cases h1:n=1
   ·have h1':¬((0:Int)<(n:Int) - 1):=zo
    have hfr:D6 ds=[]:=by unfold D6;rw [if_pos (by have:=Hn.out;omega)]
    refine hh1 hfr fun aW=> ?_;clear hfr h1
    go_wp2_with fail
    go_meet
    case rel=>rw [aW.out,zz11];exact Hb1.out
   have h1':(0:Int)<(n:Int) - 1:=zo
   have IP:(1:Int)<n:=zo
   have hfr:D6 ds=46::ds.drop 1:=by unfold D6;rw [if_neg (by have:=Hn.out;omega)]
   refine hh1 hfr fun aW=> ?_;clear hfr h1
   go_wp2_with (first|((with_reducible refine g0 (.tmp 93) ?_);refine ⟨rfl,F,w,_,_,[46],Hb1.out,by first|rfl|(go_simp;done),rfl,zd,zd,by simp,rfl,rfl,fun ad2 cap2 w2 hb2=> ?_⟩;have Hb2:=Lib.hid hb2;clear hb2)|((with_reducible refine W2 (.tmp 103) (.tmp 107) ?_);refine ⟨rfl,F,w,_,_,ds.drop 1,.slice (some ⟨g,1,none⟩) (n - 1) 31,Hb2.out,rfl,rfl,a2N 1 (Hb2.out.digs Hd.out Hg.out) (n - 1) 31 (by have:=Hn.out;omega) zo,Nat.le_of_ble_eq_true rfl,(by have:=Hn.out;rw [List.length_drop];omega),fun ad3 cap3 w3 hb3=> ?_⟩;have Hb3:=Lib.hid hb3;clear hb3))
   go_loopw [0,114] (fun tv i wr=>i= .int .i64 0/\Buf F w wr tv (([]:List UInt8)++[fd]++D6 ds)) (fun _ _ _=>0)
   case atStart=>exact ⟨rfl,by rw [aW.out];simpa using Hb3.out⟩
   case round=>
    obtain ⟨rfl,hbz⟩:=hrel;refine hh1 hbz fun nM=> ?_;clear hbz
    go_wp2_with fail
    go_meet
    case rel=>exact nM.out
  case rest=>
   obtain ⟨adc,capc,hv, -⟩:=hcut.own.shape;subst hv
   have hfl:(D6 ds).length<=100:=by
    have:=Hn.out;unfold D6;split<;>simp<;>omega
   have uH: -(-(e:Int))=e:=zo
   refine hh2 hcut hfl fun dI bQ=> ?_;clear hcut hfl;by_cases h10:e<10
   ·have fe:(e:Int)<10:=zo
    obtain ⟨q,hq⟩:∃q:UInt8,UInt8.ofNat (48+e)=q:=⟨_,rfl⟩;have hqe:(e:Int)+48=q.toNat:=by rw [<-hq,UInt8.toNat_ofNat'];omega
    have hex:J6 e=[48,q]:=by unfold J6;rw [if_pos zo,Nat.div_eq_of_lt h10,Nat.mod_eq_of_lt h10,hq];rfl
    refine hh2 hex hq fun Hex Hq=> ?_;clear hex hq
    go_wp2_with (first|((with_reducible refine g0 (.tmp 120) ?_);refine ⟨rfl,F,w,_,_,[101],dI.out,by first|rfl|(go_simp;done),rfl,zd,zd,by simp only [zz4,zz9,List.length_nil];have h:=bQ.out;omega,rfl,rfl,fun ad4 cap4 w4 hb4=> ?_⟩;have Hb4:=Lib.hid hb4;clear hb4)|((with_reducible refine g0 (.tmp 132) ?_);refine ⟨rfl,F,w,_,_,[45],Hb4.out,by first|rfl|(go_simp;done),rfl,zd,zd,by simp only [zz4,zz9,List.length_nil];have h:=bQ.out;omega,rfl,rfl,fun ad5 cap5 w5 hb5=> ?_⟩;have Hb5:=Lib.hid hb5;clear hb5)|((with_reducible refine g0 (.tmp 155) ?_);(refine ⟨rfl,F,w,_,_,[48,q],Hb5.out, ?_⟩);(refine ⟨?_, ?_, ?_, ?_, ?_, ?_, ?_, ?_⟩);(any_goals rfl);(any_goals decide);(any_goals (go_simp;done));(focus (simp only [zz4,zz9,List.length_nil];have h:=bQ.out;omega));intro ad6 cap6 w6 hb6;have fo:=Lib.hid hb6;clear hb6))
    go_ret;exact ⟨_,rfl,by rw [Hex.out];simpa [B6] using fo.out⟩
   have fe:¬((e:Int)<10):=zo
   have xe:decide ((e:Int)<10)=false:=decide_eq_false fe;obtain ⟨q3,hq3⟩:∃q:UInt8,UInt8.ofNat (48+e%10)=q:=⟨_,rfl⟩;have xg:(e:Int)%10+48=q3.toNat:=by rw [<-hq3,UInt8.toNat_ofNat'];omega
   by_cases fq:e<100
   ·have dx:(e:Int)<100:=zo
    obtain ⟨q,hq⟩:∃q:UInt8,UInt8.ofNat (48+e / 10)=q:=⟨_,rfl⟩;have hqe:(e:Int) / 10+48=q.toNat:=by rw [<-hq,UInt8.toNat_ofNat'];omega
    have hex:J6 e=[q,q3]:=by unfold J6;rw [if_pos fq,hq,hq3]
    refine hh3 hex hq hq3 fun Hex Hq xh=> ?_;clear hex hq hq3
    go_wp2_with (first|((with_reducible refine g0 (.tmp 120) ?_);refine ⟨rfl,F,w,_,_,[101],dI.out,by first|rfl|(go_simp;done),rfl,zd,zd,by simp only [zz4,zz9,List.length_nil];have h:=bQ.out;omega,rfl,rfl,fun ad4 cap4 w4 hb4=> ?_⟩;have Hb4:=Lib.hid hb4;clear hb4)|((with_reducible refine g0 (.tmp 132) ?_);refine ⟨rfl,F,w,_,_,[45],Hb4.out,by first|rfl|(go_simp;done),rfl,zd,zd,by simp only [zz4,zz9,List.length_nil];have h:=bQ.out;omega,rfl,rfl,fun ad5 cap5 w5 hb5=> ?_⟩;have Hb5:=Lib.hid hb5;clear hb5)|((with_reducible refine g0 (.tmp 164) ?_);(refine ⟨rfl,F,w,_,_,[q,q3],Hb5.out, ?_⟩);(refine ⟨?_, ?_, ?_, ?_, ?_, ?_, ?_, ?_⟩);(any_goals rfl);(any_goals decide);(any_goals (go_simp;done));(focus (simp only [zz4,zz9,List.length_nil];have h:=bQ.out;omega));intro ad6 cap6 w6 hb6;have fo:=Lib.hid hb6;clear hb6))
    go_ret;exact ⟨_,rfl,by rw [Hex.out];simpa [B6] using fo.out⟩
   have dx:¬((e:Int)<100):=zo
   have nN:decide ((e:Int)<100)=false:=decide_eq_false dx;obtain ⟨q,hq⟩:∃q:UInt8,UInt8.ofNat (48+e / 100)=q:=⟨_,rfl⟩;obtain ⟨q2,hq2⟩:∃q:UInt8,UInt8.ofNat (48+e / 10%10)=q:=⟨_,rfl⟩;have hqe:(e:Int) / 100+48=q.toNat:=by rw [<-hq,UInt8.toNat_ofNat'];omega
   have xk:(e:Int) / 10%10+48=q2.toNat:=by rw [<-hq2,UInt8.toNat_ofNat'];omega
   have hex:J6 e=[q,q2,q3]:=by unfold J6;rw [if_neg fq,hq,hq2,hq3]
   refine hh4 hex hq hq2 hq3 fun Hex Hq IQ xh=> ?_;clear hex hq hq2 hq3
   go_wp2_with (first|((with_reducible refine g0 (.tmp 120) ?_);refine ⟨rfl,F,w,_,_,[101],dI.out,by first|rfl|(go_simp;done),rfl,zd,zd,by simp only [zz4,zz9,List.length_nil];have h:=bQ.out;omega,rfl,rfl,fun ad4 cap4 w4 hb4=> ?_⟩;have Hb4:=Lib.hid hb4;clear hb4)|((with_reducible refine g0 (.tmp 132) ?_);refine ⟨rfl,F,w,_,_,[45],Hb4.out,by first|rfl|(go_simp;done),rfl,zd,zd,by simp only [zz4,zz9,List.length_nil];have h:=bQ.out;omega,rfl,rfl,fun ad5 cap5 w5 hb5=> ?_⟩;have Hb5:=Lib.hid hb5;clear hb5)|((with_reducible refine g0 (.tmp 136) ?_);(refine ⟨rfl,F,w,_,_,[q,q2,q3],Hb5.out, ?_⟩);(refine ⟨?_, ?_, ?_, ?_, ?_, ?_, ?_, ?_⟩);(any_goals rfl);(any_goals decide);(any_goals (go_simp;done));(focus (simp only [zz4,zz9,List.length_nil];have h:=bQ.out;omega));intro ad6 cap6 w6 hb6;have fo:=Lib.hid hb6;clear hb6))
   go_ret;exact ⟨_,rfl,by rw [Hex.out];simpa [B6] using fo.out⟩
 go_enter Tryz.func239,Tryz.ntmps239
 go_upto_if 92 with (first|((with_reducible refine g0 (.tmp 79) ?_);refine ⟨rfl,F,w,_,_,[45],Hb.out,by first|rfl|(go_simp;done),rfl,zd,zd,by first|decide|(have h:=aY.out;exact h),rfl,rfl,fun ad0 cap0 w0 hb0=> ?_⟩;have Hb0:=Lib.hid hb0;clear hb0;have c0:=Hb0.out.digs Hd.out Hg.out 0 fd Ab.out;unfold Y4 at c0)|((with_reducible refine g0 (.tmp 87) ?_);refine ⟨rfl,F,w,_,_,[fd],Hb0.out,by first|rfl|(go_simp;done),rfl,zd,zd,by first|decide|(have h:=aY.out;exact h),rfl,rfl,fun ad1 cap1 w1 hb1=> ?_⟩;have Hb1:=Lib.hid hb1;clear hb1))
 go_cut [0,20,21] from 92 to 119 (fun tv iv mv wx=>Buf F w wx tv (([45]:List UInt8)++[fd]++D6 ds))
 case first=>
  by_cases h1:n=1
  ·have h1':¬((0:Int)<(n:Int) - 1):=zo
   have hfr:D6 ds=[]:=by unfold D6;rw [if_pos (by have:=Hn.out;omega)]
   refine hh1 hfr fun aW=> ?_;clear hfr h1
   go_wp2_with fail
   go_meet
   case rel=>rw [aW.out,zz11];exact Hb1.out
  have h1':(0:Int)<(n:Int) - 1:=zo
  have IP:(1:Int)<n:=zo
  have hfr:D6 ds=46::ds.drop 1:=by unfold D6;rw [if_neg (by have:=Hn.out;omega)]
  refine hh1 hfr fun aW=> ?_;clear hfr h1
  go_wp2_with (first|((with_reducible refine g0 (.tmp 93) ?_);refine ⟨rfl,F,w,_,_,[46],Hb1.out,by first|rfl|(go_simp;done),rfl,zd,zd,by simp,rfl,rfl,fun ad2 cap2 w2 hb2=> ?_⟩;have Hb2:=Lib.hid hb2;clear hb2)|((with_reducible refine W2 (.tmp 103) (.tmp 107) ?_);refine ⟨rfl,F,w,_,_,ds.drop 1,.slice (some ⟨g,1,none⟩) (n - 1) 31,Hb2.out,rfl,rfl,a2N 1 (Hb2.out.digs Hd.out Hg.out) (n - 1) 31 (by have:=Hn.out;omega) zo,Nat.le_of_ble_eq_true rfl,(by have:=Hn.out;rw [List.length_drop];omega),fun ad3 cap3 w3 hb3=> ?_⟩;have Hb3:=Lib.hid hb3;clear hb3))
  go_loopw [0,114] (fun tv i wr=>i= .int .i64 0/\Buf F w wr tv (([45]:List UInt8)++[fd]++D6 ds)) (fun _ _ _=>0)
  case atStart=>exact ⟨rfl,by rw [aW.out];simpa using Hb3.out⟩
  case round=>
   obtain ⟨rfl,hbz⟩:=hrel;refine hh1 hbz fun nM=> ?_;clear hbz
   go_wp2_with fail
   go_meet
   case rel=>exact nM.out
 case rest=>
  obtain ⟨adc,capc,hv, -⟩:=hcut.own.shape;subst hv
  have hfl:(D6 ds).length<=100:=by
   have:=Hn.out;unfold D6;split<;>simp<;>omega
  have uH: -(-(e:Int))=e:=zo
  refine hh2 hcut hfl fun dI bQ=> ?_;clear hcut hfl;by_cases h10:e<10
  ·have fe:(e:Int)<10:=zo
   obtain ⟨q,hq⟩:∃q:UInt8,UInt8.ofNat (48+e)=q:=⟨_,rfl⟩;have hqe:(e:Int)+48=q.toNat:=by rw [<-hq,UInt8.toNat_ofNat'];omega
   have hex:J6 e=[48,q]:=by unfold J6;rw [if_pos zo,Nat.div_eq_of_lt h10,Nat.mod_eq_of_lt h10,hq];rfl
   refine hh2 hex hq fun Hex Hq=> ?_;clear hex hq
   go_wp2_with (first|((with_reducible refine g0 (.tmp 120) ?_);refine ⟨rfl,F,w,_,_,[101],dI.out,by first|rfl|(go_simp;done),rfl,zd,zd,by simp only [zz4,zz9,List.length_nil];have h:=bQ.out;omega,rfl,rfl,fun ad4 cap4 w4 hb4=> ?_⟩;have Hb4:=Lib.hid hb4;clear hb4)|((with_reducible refine g0 (.tmp 132) ?_);refine ⟨rfl,F,w,_,_,[45],Hb4.out,by first|rfl|(go_simp;done),rfl,zd,zd,by simp only [zz4,zz9,List.length_nil];have h:=bQ.out;omega,rfl,rfl,fun ad5 cap5 w5 hb5=> ?_⟩;have Hb5:=Lib.hid hb5;clear hb5)|((with_reducible refine g0 (.tmp 155) ?_);(refine ⟨rfl,F,w,_,_,[48,q],Hb5.out, ?_⟩);(refine ⟨?_, ?_, ?_, ?_, ?_, ?_, ?_, ?_⟩);(any_goals rfl);(any_goals decide);(any_goals (go_simp;done));(focus (simp only [zz4,zz9,List.length_nil];have h:=bQ.out;omega));intro ad6 cap6 w6 hb6;have fo:=Lib.hid hb6;clear hb6))
   go_ret;exact ⟨_,rfl,by rw [Hex.out];simpa [B6] using fo.out⟩
  have fe:¬((e:Int)<10):=zo
  have xe:decide ((e:Int)<10)=false:=decide_eq_false fe;obtain ⟨q3,hq3⟩:∃q:UInt8,UInt8.ofNat (48+e%10)=q:=⟨_,rfl⟩;have xg:(e:Int)%10+48=q3.toNat:=by rw [<-hq3,UInt8.toNat_ofNat'];omega
  by_cases fq:e<100
  ·have dx:(e:Int)<100:=zo
   obtain ⟨q,hq⟩:∃q:UInt8,UInt8.ofNat (48+e / 10)=q:=⟨_,rfl⟩;have hqe:(e:Int) / 10+48=q.toNat:=by rw [<-hq,UInt8.toNat_ofNat'];omega
   have hex:J6 e=[q,q3]:=by unfold J6;rw [if_pos fq,hq,hq3]
   refine hh3 hex hq hq3 fun Hex Hq xh=> ?_;clear hex hq hq3
   go_wp2_with (first|((with_reducible refine g0 (.tmp 120) ?_);refine ⟨rfl,F,w,_,_,[101],dI.out,by first|rfl|(go_simp;done),rfl,zd,zd,by simp only [zz4,zz9,List.length_nil];have h:=bQ.out;omega,rfl,rfl,fun ad4 cap4 w4 hb4=> ?_⟩;have Hb4:=Lib.hid hb4;clear hb4)|((with_reducible refine g0 (.tmp 132) ?_);refine ⟨rfl,F,w,_,_,[45],Hb4.out,by first|rfl|(go_simp;done),rfl,zd,zd,by simp only [zz4,zz9,List.length_nil];have h:=bQ.out;omega,rfl,rfl,fun ad5 cap5 w5 hb5=> ?_⟩;have Hb5:=Lib.hid hb5;clear hb5)|((with_reducible refine g0 (.tmp 164) ?_);(refine ⟨rfl,F,w,_,_,[q,q3],Hb5.out, ?_⟩);(refine ⟨?_, ?_, ?_, ?_, ?_, ?_, ?_, ?_⟩);(any_goals rfl);(any_goals decide);(any_goals (go_simp;done));(focus (simp only [zz4,zz9,List.length_nil];have h:=bQ.out;omega));intro ad6 cap6 w6 hb6;have fo:=Lib.hid hb6;clear hb6))
   go_ret;exact ⟨_,rfl,by rw [Hex.out];simpa [B6] using fo.out⟩
  have dx:¬((e:Int)<100):=zo
  have nN:decide ((e:Int)<100)=false:=decide_eq_false dx;obtain ⟨q,hq⟩:∃q:UInt8,UInt8.ofNat (48+e / 100)=q:=⟨_,rfl⟩;obtain ⟨q2,hq2⟩:∃q:UInt8,UInt8.ofNat (48+e / 10%10)=q:=⟨_,rfl⟩;have hqe:(e:Int) / 100+48=q.toNat:=by rw [<-hq,UInt8.toNat_ofNat'];omega
  have xk:(e:Int) / 10%10+48=q2.toNat:=by rw [<-hq2,UInt8.toNat_ofNat'];omega
  have hex:J6 e=[q,q2,q3]:=by unfold J6;rw [if_neg fq,hq,hq2,hq3]
  refine hh4 hex hq hq2 hq3 fun Hex Hq IQ xh=> ?_;clear hex hq hq2 hq3
  go_wp2_with (first|((with_reducible refine g0 (.tmp 120) ?_);refine ⟨rfl,F,w,_,_,[101],dI.out,by first|rfl|(go_simp;done),rfl,zd,zd,by simp only [zz4,zz9,List.length_nil];have h:=bQ.out;omega,rfl,rfl,fun ad4 cap4 w4 hb4=> ?_⟩;have Hb4:=Lib.hid hb4;clear hb4)|((with_reducible refine g0 (.tmp 132) ?_);refine ⟨rfl,F,w,_,_,[45],Hb4.out,by first|rfl|(go_simp;done),rfl,zd,zd,by simp only [zz4,zz9,List.length_nil];have h:=bQ.out;omega,rfl,rfl,fun ad5 cap5 w5 hb5=> ?_⟩;have Hb5:=Lib.hid hb5;clear hb5)|((with_reducible refine g0 (.tmp 136) ?_);(refine ⟨rfl,F,w,_,_,[q,q2,q3],Hb5.out, ?_⟩);(refine ⟨?_, ?_, ?_, ?_, ?_, ?_, ?_, ?_⟩);(any_goals rfl);(any_goals decide);(any_goals (go_simp;done));(focus (simp only [zz4,zz9,List.length_nil];have h:=bQ.out;omega));intro ad6 cap6 w6 hb6;have fo:=Lib.hid hb6;clear hb6))
  go_ret;exact ⟨_,rfl,by rw [Hex.out];simpa [B6] using fo.out⟩
def V4 (neg:Bool) (ds:List UInt8) (dp:Int):List UInt8:=
 if ds=[] then B6 neg++[48]
 else if dp - 1< -4\/6<=dp - 1 then B6 neg++ds.take 1++D6 ds++[101]++S8 (dp - 1)
 else if dp<=0 then B6 neg++[48,46]++j2 (-dp).toNat++ds
 else if dp<ds.length then B6 neg++ds.take dp.toNat++[46]++ds.drop dp.toNat
 else B6 neg++ds++j2 (dp.toNat - ds.length)
theorem b5v (F:Nat->Prop) (w:World) (v:Value) (g:Nat) (neg:Bool) (ds:List UInt8) (dp:Int) (hb:Buf F w w v []) (hd:a1r w g ds) (hg:¬F g) (h0:0<ds.length) (h32:ds.length<=32) (hdp: -400<=dp/\dp<=400):
 Calls Tryz.prog 239 #[v,.bool neg,.slice (some ⟨g,0,none⟩) 32 32,.int .i64 dp,.int .i64 ds.length,.int .i64 ds.length,.int .u8 103,.bool true] w fun x w'=>∃v',x= .returned v'/\Buf F w w' v' (V4 neg ds dp):=by
 have hne:¬ds=[]:=fun h=>by rw [h] at h0;exact Nat.lt_irrefl _ h0
 obtain ⟨u0,hu0⟩:∃u,ds[0]? =some u:=⟨_,zz5 h0⟩
 have ht:ds.take 1=[u0]:=by
  cases ds with
  |nil=>exact absurd rfl hne
  |cons a l=>simp at hu0;simp [hu0]
 unfold V4;rw [if_neg hne,ht];by_cases h1:dp - 1< -4\/6<=dp - 1
 ·rw [if_pos h1];rcases h1 with h1|h1
  ·exact b3D F w v g neg ds u0 dp (1 - dp).toNat zo hb hd hg hu0 h32 zo zo
  exact b3C F w v g neg ds u0 dp (dp - 1).toNat zo hb hd hg hu0 h32 zo zo
 rw [if_neg h1];by_cases h2:dp<=0
 ·rw [if_pos h2];have h:=b49 F w v g neg ds (-dp).toNat hb hd hg h0 h32 zo;rw [show (-((-dp).toNat:Int))=dp by omega] at h;exact h
 rw [if_neg h2];obtain ⟨p,rfl⟩:∃p:Nat,dp=p:=⟨dp.toNat,zo⟩;rw [Int.toNat_natCast];by_cases h3:(p:Int)<ds.length
 ·rw [if_pos h3];exact b3v F w v g neg ds p hb hd hg zo zo zo h32
 rw [if_neg h3];exact b3w F w v g neg ds p hb hd hg zo zo zo h32
end Go.Proofs.YtdmjoodhaeijmaaGreatDoor
