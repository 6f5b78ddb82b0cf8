/- Lemmas. -/
import Derived.Test.YtdmjoodhaeijmaaGreatDoorZn9
set_option maxHeartbeats 40000000
set_option maxRecDepth 20000
namespace Go.Proofs.YtdmjoodhaeijmaaGreatDoor
open Go.RowKit
theorem b3v (F:Nat->Prop) (w:World) (v:Value) (g:Nat) (neg:Bool) (ds:List UInt8) (p:Nat) (hb:Buf F w w v []) (hd:a1r w g ds) (hg:¬F g) (h0:0<p) (Qy:p<=6) (hpn:p<ds.length) (h32:ds.length<=32):
 Calls Tryz.prog 239 #[v,.bool neg,.slice (some ⟨g,0,none⟩) 32 32,.int .i64 p,.int .i64 ds.length,.int .i64 ds.length,.int .u8 103,.bool true] w fun x w'=>∃v',x= .returned v'/\Buf F w w' v' (B6 neg++ds.take p++[46]++ds.drop p):=by
 obtain ⟨ad,cap,rfl, -⟩:=hb.own.shape;obtain ⟨n,hn⟩:∃n,ds.length=n:=⟨_,rfl⟩;rw [hn] at hpn h32⊢;have hp0:(0:Int)<p:=zo
 have h4:¬((p:Int) - 1< -4):=zo
 have II:decide ((p:Int) - 1< -4)=false:=decide_eq_false h4;have h6:(p:Int) - 1<6:=zo
 have IJ:(p:Int)<n:=zo
 have hB1:max ((n:Int) - p) 0=n - p:=zo
 have hB2:min (n:Int) p=p:=zo
 have hB3:max 0 (-(p:Int))=0:=zo
 have hB4:min ((n:Int) - p) 0=0:=zo
 have Wv:max 0 ((n:Int) - p)=n - p:=zo
 have Ww:(0:Int)<(n:Int) - p:=zo
 have Wx:(p:Int) - p=0:=zo
 have Wy:(n:Int) - p - 0=n - p:=zo
 have Wz:(p:Int)+0=p:=zo
 have hBa:(n:Int) - p - (n - p)=0:=zo
 have hBb:(p:Int)<=32:=zo
 have IK:(n:Int)<=32:=zo
 refine hh4 hb hd hg hn fun Hb Hd Hg Hn=> ?_;clear hb hd hg hn;cases neg
 ·go_enter Tryz.func239,Tryz.ntmps239
  go_wp2_with (fail)
  go_loopw [0,191] (fun tv i wr=>∃j:Nat,i= .int .i64 j/\j<=p/\Buf F w wr tv (([]:List UInt8)++ds.take j)) (fun _ i _=>p - (intOf i).toNat)
  case atStart=>exact ⟨0,rfl,Nat.zero_le _,by rw [List.take_zero,zz11];exact Hb.out⟩
  case round=>
   obtain ⟨j,rfl,hj,hbr⟩:=hrel;obtain ⟨adr,capr,hv, -⟩:=hbr.own.shape;subst hv;have hln:(([]:List UInt8)++ds.take j).length<=1000000:=by simp;omega
   by_cases hlt:j<p
   ·have hlt':(j:Int)<p:=zo
    have nL:(j:Int)<32:=zo
    obtain ⟨u,hu⟩:∃u,ds[j]? =some u:=⟨_,zz5 (by have:=Hn.out;omega)⟩;have c0:=hbr.digs Hd.out Hg.out j u hu;unfold Y4 at c0;refine hh3 hbr hln hu fun bZ aY Hu=> ?_;clear hbr hln hu
    go_wp2_with ((with_reducible refine g0 (.tmp 195) ?_);refine ⟨rfl,F,w,_,_,[u],bZ.out,by first|rfl|(go_simp;done),rfl,zd,zd,by first|decide|(have h:=aY.out;exact h),rfl,rfl,fun ad3 cap3 w3 hb3=> ?_⟩;have Hb3:=Lib.hid hb3;clear hb3)
    go_roundw
    case rel=>exact ⟨j+1,by go_num,hlt,by have h:=Hb3.out;rw [K8 _ ds j u Hu.out] at h;simpa using h⟩
    case measure=>simp [intOf];omega
   have hjz:p=j:=zo
   subst hjz;refine hh2 hbr hln fun bZ aY=> ?_;clear hbr hln
   go_wp2_with fail
   go_loopw [0,203] (fun tv i wr=>i= .int .i64 0/\Buf F w wr tv (([]:List UInt8)++ds.take p)) (fun _ _ _=>0)
   case atStart=>exact ⟨rfl,by simpa using bZ.out⟩
   case round=>
    clear bZ aY;obtain ⟨rfl,hbt⟩:=hrel;obtain ⟨ads,caps,hv, -⟩:=hbt.own.shape;subst hv;have hln:(([]:List UInt8)++ds.take p).length<=1000000:=by simp;omega
    refine hh2 hbt hln fun ll aY=> ?_;clear hbt hln
    go_wp2_with ((with_reducible refine g0 (.tmp 214) ?_);refine ⟨rfl,F,w,_,_,[46],ll.out,by first|rfl|(go_simp;done),rfl,zd,zd,by first|decide|(have h:=aY.out;exact h),rfl,rfl,fun ad4 cap4 w4 hb4=> ?_⟩;have Hb4:=Lib.hid hb4;clear hb4)
    go_loopw [0,240] (fun tv i wr=>i= .int .i64 0/\Buf F w wr tv (([]:List UInt8)++ds.take p++[46])) (fun _ _ _=>0)
    case atStart=>exact ⟨rfl,by simpa using Hb4.out⟩
    case round=>
     clear ll aY;obtain ⟨rfl,hbt⟩:=hrel;refine hh1 hbt fun ll=> ?_;clear hbt
     go_wp2_with fail
     go_loopw [0,247] (fun tv i wr=>∃j:Nat,i= .int .i64 j/\j<=n - p/\Buf F w wr tv (([]:List UInt8)++ds.take p++[46]++(ds.drop p).take j)) (fun _ i _=>n - p - (intOf i).toNat)
     case atStart=>exact ⟨0,rfl,Nat.zero_le _,by rw [List.take_zero,zz11];exact ll.out⟩
     case round=>
      obtain ⟨j,rfl,hj2,hbs⟩:=hrel;obtain ⟨adq,capq,hv, -⟩:=hbs.own.shape;subst hv;have hln:(([]:List UInt8)++ds.take p++[46]++(ds.drop p).take j).length<=1000000:=by simp;omega
      by_cases hlt2:j<n - p
      ·have hlt3:(j:Int)<(n:Int) - p:=zo
       have qY:((p:Int)+j).toNat=p+j:=zo
       have Bi:(p:Int)+j<32:=zo
       have IL:(0:Int)<=(p:Int)+j:=zo
       obtain ⟨u,hu⟩:∃u,ds[p+j]? =some u:=⟨_,zz5 (by have:=Hn.out;omega)⟩;have c0:=hbs.digs Hd.out Hg.out (p+j) u hu;unfold Y4 at c0;have hu2:(ds.drop p)[j]? =some u:=by rw [List.getElem?_drop];exact hu
       refine hh4 hbs hln hu hu2 fun eP aY Hu Bj=> ?_;clear hbs hln hu hu2
       go_wp2_with ((with_reducible refine g0 (.tmp 250) ?_);refine ⟨rfl,F,w,_,_,[u],eP.out,by first|rfl|(go_simp;done),rfl,zd,zd,by first|decide|(have h:=aY.out;exact h),rfl,rfl,fun ad3 cap3 w3 hb3=> ?_⟩;have Hb3:=Lib.hid hb3;clear hb3)
       go_roundw
       case rel=>exact ⟨j+1,by go_num,zo,by have h:=Hb3.out;rw [K8 _ (ds.drop p) j u Bj.out] at h;simpa using h⟩
       case measure=>simp [intOf];omega
      have hjn:(j:Int)=(n:Int) - p:=zo
      have xc:¬((j:Int)<(n:Int) - p):=zo
      have hjl:(ds.drop p).length<=j:=by rw [List.length_drop];have:=Hn.out;omega
      refine hh3 hbs hln hjl fun eP aY Bl=> ?_;clear hbs hln hjl
      go_wp2_with fail
      go_loopw [0,261] (fun tv i wr=>i= .int .i64 0/\Buf F w wr tv (([]:List UInt8)++ds.take p++[46]++ds.drop p)) (fun _ _ _=>0)
      case atStart=>exact ⟨rfl,by
       have hm:min j (ds.length - p)=ds.length - p:=by have h:=Bl.out;rw [List.length_drop] at h;omega
       simpa [List.take_of_length_le Bl.out,hm] using eP.out⟩
      case round=>
       obtain ⟨rfl,hbz⟩:=hrel;refine hh1 hbz fun nM=> ?_;clear hbz
       go_wp2_with fail
       go_ret;exact ⟨_,rfl,nM.out⟩
 go_enter Tryz.func239,Tryz.ntmps239
 go_wp2_with (first|((with_reducible refine g0 (.tmp 179) ?_);refine ⟨rfl,F,w,_,_,[45],Hb.out,by first|rfl|(go_simp;done),rfl,zd,zd,by first|decide|(have h:=aY.out;exact h),rfl,rfl,fun ad0 cap0 w0 hb0=> ?_⟩;have Hb0:=Lib.hid hb0;clear hb0)|(fail))
 go_loopw [0,191] (fun tv i wr=>∃j:Nat,i= .int .i64 j/\j<=p/\Buf F w wr tv (([45]:List UInt8)++ds.take j)) (fun _ i _=>p - (intOf i).toNat)
 case atStart=>exact ⟨0,rfl,Nat.zero_le _,by rw [List.take_zero,zz11];exact Hb0.out⟩
 case round=>
  obtain ⟨j,rfl,hj,hbr⟩:=hrel;obtain ⟨adr,capr,hv, -⟩:=hbr.own.shape;subst hv;have hln:(([45]:List UInt8)++ds.take j).length<=1000000:=by simp;omega
  by_cases hlt:j<p
  ·have hlt':(j:Int)<p:=zo
   have nL:(j:Int)<32:=zo
   obtain ⟨u,hu⟩:∃u,ds[j]? =some u:=⟨_,zz5 (by have:=Hn.out;omega)⟩;have c0:=hbr.digs Hd.out Hg.out j u hu;unfold Y4 at c0;refine hh3 hbr hln hu fun bZ aY Hu=> ?_;clear hbr hln hu
   go_wp2_with ((with_reducible refine g0 (.tmp 195) ?_);refine ⟨rfl,F,w,_,_,[u],bZ.out,by first|rfl|(go_simp;done),rfl,zd,zd,by first|decide|(have h:=aY.out;exact h),rfl,rfl,fun ad3 cap3 w3 hb3=> ?_⟩;have Hb3:=Lib.hid hb3;clear hb3)
   go_roundw
   case rel=>exact ⟨j+1,by go_num,hlt,by have h:=Hb3.out;rw [K8 _ ds j u Hu.out] at h;simpa using h⟩
   case measure=>simp [intOf];omega
  have hjz:p=j:=zo
  subst hjz;refine hh2 hbr hln fun bZ aY=> ?_;clear hbr hln
  go_wp2_with fail
  go_loopw [0,203] (fun tv i wr=>i= .int .i64 0/\Buf F w wr tv (([45]:List UInt8)++ds.take p)) (fun _ _ _=>0)
  case atStart=>exact ⟨rfl,by simpa using bZ.out⟩
  case round=>
   clear bZ aY;obtain ⟨rfl,hbt⟩:=hrel;obtain ⟨ads,caps,hv, -⟩:=hbt.own.shape;subst hv;have hln:(([45]:List UInt8)++ds.take p).length<=1000000:=by simp;omega
   refine hh2 hbt hln fun ll aY=> ?_;clear hbt hln
   go_wp2_with ((with_reducible refine g0 (.tmp 214) ?_);refine ⟨rfl,F,w,_,_,[46],ll.out,by first|rfl|(go_simp;done),rfl,zd,zd,by first|decide|(have h:=aY.out;exact h),rfl,rfl,fun ad4 cap4 w4 hb4=> ?_⟩;have Hb4:=Lib.hid hb4;clear hb4)
   go_loopw [0,240] (fun tv i wr=>i= .int .i64 0/\Buf F w wr tv (([45]:List UInt8)++ds.take p++[46])) (fun _ _ _=>0)
   case atStart=>exact ⟨rfl,by simpa using Hb4.out⟩
   case round=>
    clear ll aY;obtain ⟨rfl,hbt⟩:=hrel;refine hh1 hbt fun ll=> ?_;clear hbt
    go_wp2_with fail
    go_loopw [0,247] (fun tv i wr=>∃j:Nat,i= .int .i64 j/\j<=n - p/\Buf F w wr tv (([45]:List UInt8)++ds.take p++[46]++(ds.drop p).take j)) (fun _ i _=>n - p - (intOf i).toNat)
    case atStart=>exact ⟨0,rfl,Nat.zero_le _,by rw [List.take_zero,zz11];exact ll.out⟩
    case round=>
     obtain ⟨j,rfl,hj2,hbs⟩:=hrel;obtain ⟨adq,capq,hv, -⟩:=hbs.own.shape;subst hv;have hln:(([45]:List UInt8)++ds.take p++[46]++(ds.drop p).take j).length<=1000000:=by simp;omega
     by_cases hlt2:j<n - p
     ·have hlt3:(j:Int)<(n:Int) - p:=zo
      have qY:((p:Int)+j).toNat=p+j:=zo
      have Bi:(p:Int)+j<32:=zo
      have IL:(0:Int)<=(p:Int)+j:=zo
      obtain ⟨u,hu⟩:∃u,ds[p+j]? =some u:=⟨_,zz5 (by have:=Hn.out;omega)⟩;have c0:=hbs.digs Hd.out Hg.out (p+j) u hu;unfold Y4 at c0;have hu2:(ds.drop p)[j]? =some u:=by rw [List.getElem?_drop];exact hu
      refine hh4 hbs hln hu hu2 fun eP aY Hu Bj=> ?_;clear hbs hln hu hu2
      go_wp2_with ((with_reducible refine g0 (.tmp 250) ?_);refine ⟨rfl,F,w,_,_,[u],eP.out,by first|rfl|(go_simp;done),rfl,zd,zd,by first|decide|(have h:=aY.out;exact h),rfl,rfl,fun ad3 cap3 w3 hb3=> ?_⟩;have Hb3:=Lib.hid hb3;clear hb3)
      go_roundw
      case rel=>exact ⟨j+1,by go_num,zo,by have h:=Hb3.out;rw [K8 _ (ds.drop p) j u Bj.out] at h;simpa using h⟩
      case measure=>simp [intOf];omega
     have hjn:(j:Int)=(n:Int) - p:=zo
     have xc:¬((j:Int)<(n:Int) - p):=zo
     have hjl:(ds.drop p).length<=j:=by rw [List.length_drop];have:=Hn.out;omega
     refine hh3 hbs hln hjl fun eP aY Bl=> ?_;clear hbs hln hjl
     go_wp2_with fail
     go_loopw [0,261] (fun tv i wr=>i= .int .i64 0/\Buf F w wr tv (([45]:List UInt8)++ds.take p++[46]++ds.drop p)) (fun _ _ _=>0)
     case atStart=>exact ⟨rfl,by
      have hm:min j (ds.length - p)=ds.length - p:=by have h:=Bl.out;rw [List.length_drop] at h;omega
      simpa [List.take_of_length_le Bl.out,hm] using eP.out⟩
     case round=>
      obtain ⟨rfl,hbz⟩:=hrel;refine hh1 hbz fun nM=> ?_;clear hbz
      go_wp2_with fail
      go_ret;exact ⟨_,rfl,nM.out⟩
theorem b3w (F:Nat->Prop) (w:World) (v:Value) (g:Nat) (neg:Bool) (ds:List UInt8) (p:Nat) (hb:Buf F w w v []) (hd:a1r w g ds) (hg:¬F g) (h0:0<p) (Qy:p<=6) (hpn:ds.length<=p) (h32:ds.length<=32):
 Calls Tryz.prog 239 #[v,.bool neg,.slice (some ⟨g,0,none⟩) 32 32,.int .i64 p,.int .i64 ds.length,.int .i64 ds.length,.int .u8 103,.bool true] w fun x w'=>∃v',x= .returned v'/\Buf F w w' v' (B6 neg++ds++j2 (p - ds.length)):=by
 obtain ⟨ad,cap,rfl, -⟩:=hb.own.shape;obtain ⟨n,hn⟩:∃n,ds.length=n:=⟨_,rfl⟩;rw [hn] at hpn h32⊢;have hp0:(0:Int)<p:=zo
 have h4:¬((p:Int) - 1< -4):=zo
 have II:decide ((p:Int) - 1< -4)=false:=decide_eq_false h4;have h6:(p:Int) - 1<6:=zo
 have IJ:(n:Int)<=p:=zo
 have hB1:max ((n:Int) - p) 0=0:=zo
 have hB2:min (n:Int) p=n:=zo
 have IK:(n:Int)<=32:=zo
 refine hh4 hb hd hg hn fun Hb Hd Hg Hn=> ?_;clear hb hd hg hn;cases neg
 ·go_enter Tryz.func239,Tryz.ntmps239
  go_wp2_with (fail)
  go_loopw [0,191] (fun tv i wr=>∃j:Nat,i= .int .i64 j/\j<=n/\Buf F w wr tv (([]:List UInt8)++ds.take j)) (fun _ i _=>n - (intOf i).toNat)
  case atStart=>exact ⟨0,rfl,Nat.zero_le _,by rw [List.take_zero,zz11];exact Hb.out⟩
  case round=>
   obtain ⟨j,rfl,hj,hbr⟩:=hrel;obtain ⟨adr,capr,hv, -⟩:=hbr.own.shape;subst hv;have hln:(([]:List UInt8)++ds.take j).length<=1000000:=by simp;omega
   by_cases hlt:j<n
   ·have hlt':(j:Int)<n:=zo
    have nL:(j:Int)<32:=zo
    obtain ⟨u,hu⟩:∃u,ds[j]? =some u:=⟨_,zz5 (by have:=Hn.out;omega)⟩;have c0:=hbr.digs Hd.out Hg.out j u hu;unfold Y4 at c0;refine hh3 hbr hln hu fun bZ aY Hu=> ?_;clear hbr hln hu
    go_wp2_with ((with_reducible refine g0 (.tmp 195) ?_);refine ⟨rfl,F,w,_,_,[u],bZ.out,by first|rfl|(go_simp;done),rfl,zd,zd,by first|decide|(have h:=aY.out;exact h),rfl,rfl,fun ad3 cap3 w3 hb3=> ?_⟩;have Hb3:=Lib.hid hb3;clear hb3)
    go_roundw
    case rel=>exact ⟨j+1,by go_num,hlt,by have h:=Hb3.out;rw [K8 _ ds j u Hu.out] at h;simpa using h⟩
    case measure=>simp [intOf];omega
   have hjz:n=j:=zo
   subst hjz;refine hh2 hbr hln fun bZ aY=> ?_;clear hbr hln
   go_wp2_with fail
   go_loopw [0,203] (fun tv i wr=>∃j:Nat,i= .int .i64 j/\j<=p - n/\Buf F w wr tv (([]:List UInt8)++ds++j2 j)) (fun _ i _=>p - n - (intOf i).toNat)
   case atStart=>exact ⟨0,rfl,Nat.zero_le _,by have h:=bZ.out;simpa [j2,List.take_of_length_le (Nat.le_of_eq Hn.out)] using h⟩
   case round=>
    clear bZ aY;obtain ⟨j,rfl,hj2,hbs⟩:=hrel;obtain ⟨ads,caps,hv, -⟩:=hbs.own.shape;subst hv;have hln:(([]:List UInt8)++ds++j2 j).length<=1000000:=by have:=Hn.out;simp [j2];omega
    by_cases hlt2:j<p - n
    ·have hlt3:(j:Int)<(p:Int) - n:=zo
     refine hh2 hbs hln fun eP aY=> ?_;clear hbs hln
     go_wp2_with ((with_reducible refine g0 (.tmp 205) ?_);refine ⟨rfl,F,w,_,_,[48],eP.out,by first|rfl|(go_simp;done),rfl,zd,zd,by first|decide|(have h:=aY.out;exact h),rfl,rfl,fun ad3 cap3 w3 hb3=> ?_⟩;have Hb3:=Lib.hid hb3;clear hb3)
     go_roundw
     case rel=>exact ⟨j+1,by go_num,zo,by have h:=Hb3.out;rw [a0e] at h;simpa using h⟩
     case measure=>simp [intOf];omega
    have xc:¬((j:Int)<(p:Int) - n):=zo
    have hjp:j=p - n:=zo
    refine hh3 hbs hln hjp fun eP aY IM=> ?_;clear hbs hln hjp
    go_wp2_with fail
    go_ret;refine ⟨_,rfl, ?_⟩;have h:=eP.out;rw [<-IM.out];show Buf F w wr (.slice ads _ caps) _;simpa [B6] using h
 go_enter Tryz.func239,Tryz.ntmps239
 go_wp2_with (first|((with_reducible refine g0 (.tmp 179) ?_);refine ⟨rfl,F,w,_,_,[45],Hb.out,by first|rfl|(go_simp;done),rfl,zd,zd,by first|decide|(have h:=aY.out;exact h),rfl,rfl,fun ad0 cap0 w0 hb0=> ?_⟩;have Hb0:=Lib.hid hb0;clear hb0)|(fail))
 go_loopw [0,191] (fun tv i wr=>∃j:Nat,i= .int .i64 j/\j<=n/\Buf F w wr tv (([45]:List UInt8)++ds.take j)) (fun _ i _=>n - (intOf i).toNat)
 case atStart=>exact ⟨0,rfl,Nat.zero_le _,by rw [List.take_zero,zz11];exact Hb0.out⟩
 case round=>
  obtain ⟨j,rfl,hj,hbr⟩:=hrel;obtain ⟨adr,capr,hv, -⟩:=hbr.own.shape;subst hv;have hln:(([45]:List UInt8)++ds.take j).length<=1000000:=by simp;omega
  by_cases hlt:j<n
  ·have hlt':(j:Int)<n:=zo
   have nL:(j:Int)<32:=zo
   obtain ⟨u,hu⟩:∃u,ds[j]? =some u:=⟨_,zz5 (by have:=Hn.out;omega)⟩;have c0:=hbr.digs Hd.out Hg.out j u hu;unfold Y4 at c0;refine hh3 hbr hln hu fun bZ aY Hu=> ?_;clear hbr hln hu
   go_wp2_with ((with_reducible refine g0 (.tmp 195) ?_);refine ⟨rfl,F,w,_,_,[u],bZ.out,by first|rfl|(go_simp;done),rfl,zd,zd,by first|decide|(have h:=aY.out;exact h),rfl,rfl,fun ad3 cap3 w3 hb3=> ?_⟩;have Hb3:=Lib.hid hb3;clear hb3)
   go_roundw
   case rel=>exact ⟨j+1,by go_num,hlt,by have h:=Hb3.out;rw [K8 _ ds j u Hu.out] at h;simpa using h⟩
   case measure=>simp [intOf];omega
  have hjz:n=j:=zo
  subst hjz;refine hh2 hbr hln fun bZ aY=> ?_;clear hbr hln
  go_wp2_with fail
  go_loopw [0,203] (fun tv i wr=>∃j:Nat,i= .int .i64 j/\j<=p - n/\Buf F w wr tv (([45]:List UInt8)++ds++j2 j)) (fun _ i _=>p - n - (intOf i).toNat)
  case atStart=>exact ⟨0,rfl,Nat.zero_le _,by have h:=bZ.out;simpa [j2,List.take_of_length_le (Nat.le_of_eq Hn.out)] using h⟩
  case round=>
   clear bZ aY;obtain ⟨j,rfl,hj2,hbs⟩:=hrel;obtain ⟨ads,caps,hv, -⟩:=hbs.own.shape;subst hv;have hln:(([45]:List UInt8)++ds++j2 j).length<=1000000:=by have:=Hn.out;simp [j2];omega
   by_cases hlt2:j<p - n
   ·have hlt3:(j:Int)<(p:Int) - n:=zo
    refine hh2 hbs hln fun eP aY=> ?_;clear hbs hln
    go_wp2_with ((with_reducible refine g0 (.tmp 205) ?_);refine ⟨rfl,F,w,_,_,[48],eP.out,by first|rfl|(go_simp;done),rfl,zd,zd,by first|decide|(have h:=aY.out;exact h),rfl,rfl,fun ad3 cap3 w3 hb3=> ?_⟩;have Hb3:=Lib.hid hb3;clear hb3)
    go_roundw
    case rel=>exact ⟨j+1,by go_num,zo,by have h:=Hb3.out;rw [a0e] at h;simpa using h⟩
    case measure=>simp [intOf];omega
   have xc:¬((j:Int)<(p:Int) - n):=zo
   have hjp:j=p - n:=zo
   refine hh3 hbs hln hjp fun eP aY IM=> ?_;clear hbs hln hjp
   go_wp2_with fail
   go_ret;refine ⟨_,rfl, ?_⟩;have h:=eP.out;rw [<-IM.out];show Buf F w wr (.slice ads _ caps) _;simpa [B6] using h
end Go.Proofs.YtdmjoodhaeijmaaGreatDoor
