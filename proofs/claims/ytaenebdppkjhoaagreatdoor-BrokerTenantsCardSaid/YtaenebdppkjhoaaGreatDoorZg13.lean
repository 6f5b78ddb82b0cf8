/- Lemmas. -/
import Derived.Test.YtaenebdppkjhoaaGreatDoorZg9
namespace Go.Proofs.YtaenebdppkjhoaaGreatDoor
set_option maxRecDepth 20000
set_option maxHeartbeats 40000000
section
open Go.RowKit
theorem b2D (F:Nat->Prop) (w:World) (v:Value) (g:Nat) (neg:Bool) (ds:List UInt8) (p:Nat) (hb:Buf F w w v []) (hd:a0R w g ds) (hg:¬F g) (h0:0<p) (hp6:p<=6) (hpn:p<ds.length) (h32:ds.length<=32):
 Calls Tryz.prog 229 #[v,.bool neg,.slice (some ⟨g,0,none⟩) 32 32,.int .i64 p,.int .i64 ds.length,.int .i64 ds.length,.int .u8 103,.bool true] w fun x w'=>∃v',x= .returned v'/\Buf F w w' v' (y9 neg++ds.take p++[46]++ds.drop p):=by
 obtain ⟨ad,cap,rfl, -⟩:=hb.own.shape;obtain ⟨n,hn⟩:∃n,ds.length=n:=⟨_,rfl⟩;rw [hn] at hpn h32⊢;have hp0:(0:Int)<p:=by omega
 have h4:¬((p:Int) - 1< -4):=by omega
 have h4d:decide ((p:Int) - 1< -4)=false:=decide_eq_false h4;have h6:(p:Int) - 1<6:=by omega
 have hpn':(p:Int)<n:=by omega
 have hB1:max ((n:Int) - p) 0=n - p:=by omega
 have hB2:min (n:Int) p=p:=by omega
 have hB3:max 0 (-(p:Int))=0:=by omega
 have hB4:min ((n:Int) - p) 0=0:=by omega
 have hB5:max 0 ((n:Int) - p)=n - p:=by omega
 have hB6:(0:Int)<(n:Int) - p:=by omega
 have hB7:(p:Int) - p=0:=by omega
 have hB8:(n:Int) - p - 0=n - p:=by omega
 have hB9:(p:Int)+0=p:=by omega
 have hBa:(n:Int) - p - (n - p)=0:=by omega
 have hBb:(p:Int)<=32:=by omega
 have hl32:(n:Int)<=32:=by omega
 obtain ⟨Hb,Hd,Hg,Hn⟩:=zh4 hb hd hg hn;clear hb hd hg hn;cases neg
 ·go_enter Tryz.func229,Tryz.ntmps229
  go_wp2_with (first|(fail)|fail)
  go_loopw [0,191] (fun tv i wr=>∃j:Nat,i= .int .i64 j/\j<=p/\Buf F w wr tv (([]:List UInt8)++ds.take j)) (fun _ i _=>p - (intOf i).toNat)
  case atStart=>exact ⟨0,rfl,Nat.zero_le _,by rw [List.take_zero,zz11];exact Hb.out⟩
  case round=>
   obtain ⟨j,rfl,hj,hbr⟩:=hrel;obtain ⟨adr,capr,hv, -⟩:=hbr.own.shape;subst hv;have hln:(([]:List UInt8)++ds.take j).length<=1000000:=by simp;omega
   by_cases hlt:j<p
   ·have hlt':(j:Int)<p:=by omega
    have hj32:(j:Int)<32:=by omega
    obtain ⟨u,hu⟩:∃u,ds[j]? =some u:=⟨_,zz5 (by have:=Hn.out;omega)⟩;have c0:=hbr.digs Hd.out Hg.out j u hu;unfold U5 at c0;obtain ⟨Hbr,Hln,Hu⟩:=zh3 hbr hln hu;clear hbr hln hu
    go_wp2_with (first|((with_reducible refine e9 (.tmp 195) ?_);refine ⟨rfl,F,w,_,_,[u],Hbr.out,by first|rfl|(go_simp;done),rfl,by decide,by decide,by first|decide|(have h:=Hln.out;exact h),rfl,rfl,fun ad3 cap3 w3 hb3=> ?_⟩;have Hb3:=Lib.hid hb3;clear hb3)|fail)
    go_roundw
    case rel=>exact ⟨j+1,by go_num,hlt,by have h:=Hb3.out;rw [G9 _ ds j u Hu.out] at h;simpa using h⟩
    case measure=>simp [intOf];omega
   have hjz:p=j:=by omega
   subst hjz;obtain ⟨Hbr,Hln⟩:=zh2 hbr hln;clear hbr hln
   go_wp2_with fail
   go_loopw [0,203] (fun tv i wr=>i= .int .i64 0/\Buf F w wr tv (([]:List UInt8)++ds.take p)) (fun _ _ _=>0)
   case atStart=>exact ⟨rfl,by simpa using Hbr.out⟩
   case round=>
    clear Hbr Hln;obtain ⟨rfl,hbt⟩:=hrel;obtain ⟨ads,caps,hv, -⟩:=hbt.own.shape;subst hv;have hln:(([]:List UInt8)++ds.take p).length<=1000000:=by simp;omega
    obtain ⟨Hbt,Hln⟩:=zh2 hbt hln;clear hbt hln
    go_wp2_with (first|((with_reducible refine e9 (.tmp 214) ?_);refine ⟨rfl,F,w,_,_,[46],Hbt.out,by first|rfl|(go_simp;done),rfl,by decide,by decide,by first|decide|(have h:=Hln.out;exact h),rfl,rfl,fun ad4 cap4 w4 hb4=> ?_⟩;have Hb4:=Lib.hid hb4;clear hb4)|fail)
    go_loopw [0,240] (fun tv i wr=>i= .int .i64 0/\Buf F w wr tv (([]:List UInt8)++ds.take p++[46])) (fun _ _ _=>0)
    case atStart=>exact ⟨rfl,by simpa using Hb4.out⟩
    case round=>
     clear Hbt Hln;obtain ⟨rfl,hbt⟩:=hrel;have Hbt:=zh hbt;clear hbt
     go_wp2_with fail
     go_loopw [0,247] (fun tv i wr=>∃j:Nat,i= .int .i64 j/\j<=n - p/\Buf F w wr tv (([]:List UInt8)++ds.take p++[46]++(ds.drop p).take j)) (fun _ i _=>n - p - (intOf i).toNat)
     case atStart=>exact ⟨0,rfl,Nat.zero_le _,by rw [List.take_zero,zz11];exact Hbt.out⟩
     case round=>
      obtain ⟨j,rfl,hj2,hbs⟩:=hrel;obtain ⟨adq,capq,hv, -⟩:=hbs.own.shape;subst hv;have hln:(([]:List UInt8)++ds.take p++[46]++(ds.drop p).take j).length<=1000000:=by simp;omega
      by_cases hlt2:j<n - p
      ·have hlt3:(j:Int)<(n:Int) - p:=by omega
       have hpj:((p:Int)+j).toNat=p+j:=by omega
       have hpj32:(p:Int)+j<32:=by omega
       have hpj0:(0:Int)<=(p:Int)+j:=by omega
       obtain ⟨u,hu⟩:∃u,ds[p+j]? =some u:=⟨_,zz5 (by have:=Hn.out;omega)⟩;have c0:=hbs.digs Hd.out Hg.out (p+j) u hu;unfold U5 at c0;have hu2:(ds.drop p)[j]? =some u:=by rw [List.getElem?_drop];exact hu
       obtain ⟨Hbs,Hln,Hu,Hu2⟩:=zh4 hbs hln hu hu2;clear hbs hln hu hu2
       go_wp2_with (first|((with_reducible refine e9 (.tmp 250) ?_);refine ⟨rfl,F,w,_,_,[u],Hbs.out,by first|rfl|(go_simp;done),rfl,by decide,by decide,by first|decide|(have h:=Hln.out;exact h),rfl,rfl,fun ad3 cap3 w3 hb3=> ?_⟩;have Hb3:=Lib.hid hb3;clear hb3)|fail)
       go_roundw
       case rel=>exact ⟨j+1,by go_num,by omega,by have h:=Hb3.out;rw [G9 _ (ds.drop p) j u Hu2.out] at h;simpa using h⟩
       case measure=>simp [intOf];omega
      have hjn:(j:Int)=(n:Int) - p:=by omega
      have hjn2:¬((j:Int)<(n:Int) - p):=by omega
      have hjl:(ds.drop p).length<=j:=by rw [List.length_drop];have:=Hn.out;omega
      obtain ⟨Hbs,Hln,Hjl⟩:=zh3 hbs hln hjl;clear hbs hln hjl
      go_wp2_with fail
      go_loopw [0,261] (fun tv i wr=>i= .int .i64 0/\Buf F w wr tv (([]:List UInt8)++ds.take p++[46]++ds.drop p)) (fun _ _ _=>0)
      case atStart=>exact ⟨rfl,by
       have hm:min j (ds.length - p)=ds.length - p:=by have h:=Hjl.out;rw [List.length_drop] at h;omega
       simpa [List.take_of_length_le Hjl.out,hm] using Hbs.out⟩
      case round=>
       obtain ⟨rfl,hbz⟩:=hrel;have Hbz:=zh hbz;clear hbz
       go_wp2_with fail
       go_ret;exact ⟨_,rfl,Hbz.out⟩
 go_enter Tryz.func229,Tryz.ntmps229
 go_wp2_with (first|((with_reducible refine e9 (.tmp 179) ?_);refine ⟨rfl,F,w,_,_,[45],Hb.out,by first|rfl|(go_simp;done),rfl,by decide,by decide,by first|decide|(have h:=Hln.out;exact h),rfl,rfl,fun ad0 cap0 w0 hb0=> ?_⟩;have Hb0:=Lib.hid hb0;clear hb0)|(fail)|fail)
 go_loopw [0,191] (fun tv i wr=>∃j:Nat,i= .int .i64 j/\j<=p/\Buf F w wr tv (([45]:List UInt8)++ds.take j)) (fun _ i _=>p - (intOf i).toNat)
 case atStart=>exact ⟨0,rfl,Nat.zero_le _,by rw [List.take_zero,zz11];exact Hb0.out⟩
 case round=>
  obtain ⟨j,rfl,hj,hbr⟩:=hrel;obtain ⟨adr,capr,hv, -⟩:=hbr.own.shape;subst hv;have hln:(([45]:List UInt8)++ds.take j).length<=1000000:=by simp;omega
  by_cases hlt:j<p
  ·have hlt':(j:Int)<p:=by omega
   have hj32:(j:Int)<32:=by omega
   obtain ⟨u,hu⟩:∃u,ds[j]? =some u:=⟨_,zz5 (by have:=Hn.out;omega)⟩;have c0:=hbr.digs Hd.out Hg.out j u hu;unfold U5 at c0;obtain ⟨Hbr,Hln,Hu⟩:=zh3 hbr hln hu;clear hbr hln hu
   go_wp2_with (first|((with_reducible refine e9 (.tmp 195) ?_);refine ⟨rfl,F,w,_,_,[u],Hbr.out,by first|rfl|(go_simp;done),rfl,by decide,by decide,by first|decide|(have h:=Hln.out;exact h),rfl,rfl,fun ad3 cap3 w3 hb3=> ?_⟩;have Hb3:=Lib.hid hb3;clear hb3)|fail)
   go_roundw
   case rel=>exact ⟨j+1,by go_num,hlt,by have h:=Hb3.out;rw [G9 _ ds j u Hu.out] at h;simpa using h⟩
   case measure=>simp [intOf];omega
  have hjz:p=j:=by omega
  subst hjz;obtain ⟨Hbr,Hln⟩:=zh2 hbr hln;clear hbr hln
  go_wp2_with fail
  go_loopw [0,203] (fun tv i wr=>i= .int .i64 0/\Buf F w wr tv (([45]:List UInt8)++ds.take p)) (fun _ _ _=>0)
  case atStart=>exact ⟨rfl,by simpa using Hbr.out⟩
  case round=>
   clear Hbr Hln;obtain ⟨rfl,hbt⟩:=hrel;obtain ⟨ads,caps,hv, -⟩:=hbt.own.shape;subst hv;have hln:(([45]:List UInt8)++ds.take p).length<=1000000:=by simp;omega
   obtain ⟨Hbt,Hln⟩:=zh2 hbt hln;clear hbt hln
   go_wp2_with (first|((with_reducible refine e9 (.tmp 214) ?_);refine ⟨rfl,F,w,_,_,[46],Hbt.out,by first|rfl|(go_simp;done),rfl,by decide,by decide,by first|decide|(have h:=Hln.out;exact h),rfl,rfl,fun ad4 cap4 w4 hb4=> ?_⟩;have Hb4:=Lib.hid hb4;clear hb4)|fail)
   go_loopw [0,240] (fun tv i wr=>i= .int .i64 0/\Buf F w wr tv (([45]:List UInt8)++ds.take p++[46])) (fun _ _ _=>0)
   case atStart=>exact ⟨rfl,by simpa using Hb4.out⟩
   case round=>
    clear Hbt Hln;obtain ⟨rfl,hbt⟩:=hrel;have Hbt:=zh hbt;clear hbt
    go_wp2_with fail
    go_loopw [0,247] (fun tv i wr=>∃j:Nat,i= .int .i64 j/\j<=n - p/\Buf F w wr tv (([45]:List UInt8)++ds.take p++[46]++(ds.drop p).take j)) (fun _ i _=>n - p - (intOf i).toNat)
    case atStart=>exact ⟨0,rfl,Nat.zero_le _,by rw [List.take_zero,zz11];exact Hbt.out⟩
    case round=>
     obtain ⟨j,rfl,hj2,hbs⟩:=hrel;obtain ⟨adq,capq,hv, -⟩:=hbs.own.shape;subst hv;have hln:(([45]:List UInt8)++ds.take p++[46]++(ds.drop p).take j).length<=1000000:=by simp;omega
     by_cases hlt2:j<n - p
     ·have hlt3:(j:Int)<(n:Int) - p:=by omega
      have hpj:((p:Int)+j).toNat=p+j:=by omega
      have hpj32:(p:Int)+j<32:=by omega
      have hpj0:(0:Int)<=(p:Int)+j:=by omega
      obtain ⟨u,hu⟩:∃u,ds[p+j]? =some u:=⟨_,zz5 (by have:=Hn.out;omega)⟩;have c0:=hbs.digs Hd.out Hg.out (p+j) u hu;unfold U5 at c0;have hu2:(ds.drop p)[j]? =some u:=by rw [List.getElem?_drop];exact hu
      obtain ⟨Hbs,Hln,Hu,Hu2⟩:=zh4 hbs hln hu hu2;clear hbs hln hu hu2
      go_wp2_with (first|((with_reducible refine e9 (.tmp 250) ?_);refine ⟨rfl,F,w,_,_,[u],Hbs.out,by first|rfl|(go_simp;done),rfl,by decide,by decide,by first|decide|(have h:=Hln.out;exact h),rfl,rfl,fun ad3 cap3 w3 hb3=> ?_⟩;have Hb3:=Lib.hid hb3;clear hb3)|fail)
      go_roundw
      case rel=>exact ⟨j+1,by go_num,by omega,by have h:=Hb3.out;rw [G9 _ (ds.drop p) j u Hu2.out] at h;simpa using h⟩
      case measure=>simp [intOf];omega
     have hjn:(j:Int)=(n:Int) - p:=by omega
     have hjn2:¬((j:Int)<(n:Int) - p):=by omega
     have hjl:(ds.drop p).length<=j:=by rw [List.length_drop];have:=Hn.out;omega
     obtain ⟨Hbs,Hln,Hjl⟩:=zh3 hbs hln hjl;clear hbs hln hjl
     go_wp2_with fail
     go_loopw [0,261] (fun tv i wr=>i= .int .i64 0/\Buf F w wr tv (([45]:List UInt8)++ds.take p++[46]++ds.drop p)) (fun _ _ _=>0)
     case atStart=>exact ⟨rfl,by
      have hm:min j (ds.length - p)=ds.length - p:=by have h:=Hjl.out;rw [List.length_drop] at h;omega
      simpa [List.take_of_length_le Hjl.out,hm] using Hbs.out⟩
     case round=>
      obtain ⟨rfl,hbz⟩:=hrel;have Hbz:=zh hbz;clear hbz
      go_wp2_with fail
      go_ret;exact ⟨_,rfl,Hbz.out⟩
theorem b2E (F:Nat->Prop) (w:World) (v:Value) (g:Nat) (neg:Bool) (ds:List UInt8) (p:Nat) (hb:Buf F w w v []) (hd:a0R w g ds) (hg:¬F g) (h0:0<p) (hp6:p<=6) (hpn:ds.length<=p) (h32:ds.length<=32):
 Calls Tryz.prog 229 #[v,.bool neg,.slice (some ⟨g,0,none⟩) 32 32,.int .i64 p,.int .i64 ds.length,.int .i64 ds.length,.int .u8 103,.bool true] w fun x w'=>∃v',x= .returned v'/\Buf F w w' v' (y9 neg++ds++j4 (p - ds.length)):=by
 obtain ⟨ad,cap,rfl, -⟩:=hb.own.shape;obtain ⟨n,hn⟩:∃n,ds.length=n:=⟨_,rfl⟩;rw [hn] at hpn h32⊢;have hp0:(0:Int)<p:=by omega
 have h4:¬((p:Int) - 1< -4):=by omega
 have h4d:decide ((p:Int) - 1< -4)=false:=decide_eq_false h4;have h6:(p:Int) - 1<6:=by omega
 have hpn':(n:Int)<=p:=by omega
 have hB1:max ((n:Int) - p) 0=0:=by omega
 have hB2:min (n:Int) p=n:=by omega
 have hl32:(n:Int)<=32:=by omega
 obtain ⟨Hb,Hd,Hg,Hn⟩:=zh4 hb hd hg hn;clear hb hd hg hn;cases neg
 ·go_enter Tryz.func229,Tryz.ntmps229
  go_wp2_with (first|(fail)|fail)
  go_loopw [0,191] (fun tv i wr=>∃j:Nat,i= .int .i64 j/\j<=n/\Buf F w wr tv (([]:List UInt8)++ds.take j)) (fun _ i _=>n - (intOf i).toNat)
  case atStart=>exact ⟨0,rfl,Nat.zero_le _,by rw [List.take_zero,zz11];exact Hb.out⟩
  case round=>
   obtain ⟨j,rfl,hj,hbr⟩:=hrel;obtain ⟨adr,capr,hv, -⟩:=hbr.own.shape;subst hv;have hln:(([]:List UInt8)++ds.take j).length<=1000000:=by simp;omega
   by_cases hlt:j<n
   ·have hlt':(j:Int)<n:=by omega
    have hj32:(j:Int)<32:=by omega
    obtain ⟨u,hu⟩:∃u,ds[j]? =some u:=⟨_,zz5 (by have:=Hn.out;omega)⟩;have c0:=hbr.digs Hd.out Hg.out j u hu;unfold U5 at c0;obtain ⟨Hbr,Hln,Hu⟩:=zh3 hbr hln hu;clear hbr hln hu
    go_wp2_with (first|((with_reducible refine e9 (.tmp 195) ?_);refine ⟨rfl,F,w,_,_,[u],Hbr.out,by first|rfl|(go_simp;done),rfl,by decide,by decide,by first|decide|(have h:=Hln.out;exact h),rfl,rfl,fun ad3 cap3 w3 hb3=> ?_⟩;have Hb3:=Lib.hid hb3;clear hb3)|fail)
    go_roundw
    case rel=>exact ⟨j+1,by go_num,hlt,by have h:=Hb3.out;rw [G9 _ ds j u Hu.out] at h;simpa using h⟩
    case measure=>simp [intOf];omega
   have hjz:n=j:=by omega
   subst hjz;obtain ⟨Hbr,Hln⟩:=zh2 hbr hln;clear hbr hln
   go_wp2_with fail
   go_loopw [0,203] (fun tv i wr=>∃j:Nat,i= .int .i64 j/\j<=p - n/\Buf F w wr tv (([]:List UInt8)++ds++j4 j)) (fun _ i _=>p - n - (intOf i).toNat)
   case atStart=>exact ⟨0,rfl,Nat.zero_le _,by have h:=Hbr.out;simpa [j4,List.take_of_length_le (Nat.le_of_eq Hn.out)] using h⟩
   case round=>
    clear Hbr Hln;obtain ⟨j,rfl,hj2,hbs⟩:=hrel;obtain ⟨ads,caps,hv, -⟩:=hbs.own.shape;subst hv;have hln:(([]:List UInt8)++ds++j4 j).length<=1000000:=by have:=Hn.out;simp [j4];omega
    by_cases hlt2:j<p - n
    ·have hlt3:(j:Int)<(p:Int) - n:=by omega
     obtain ⟨Hbs,Hln⟩:=zh2 hbs hln;clear hbs hln
     go_wp2_with (first|((with_reducible refine e9 (.tmp 205) ?_);refine ⟨rfl,F,w,_,_,[48],Hbs.out,by first|rfl|(go_simp;done),rfl,by decide,by decide,by first|decide|(have h:=Hln.out;exact h),rfl,rfl,fun ad3 cap3 w3 hb3=> ?_⟩;have Hb3:=Lib.hid hb3;clear hb3)|fail)
     go_roundw
     case rel=>exact ⟨j+1,by go_num,by omega,by have h:=Hb3.out;rw [W6] at h;simpa using h⟩
     case measure=>simp [intOf];omega
    have hjn2:¬((j:Int)<(p:Int) - n):=by omega
    have hjp:j=p - n:=by omega
    obtain ⟨Hbs,Hln,Hjp⟩:=zh3 hbs hln hjp;clear hbs hln hjp
    go_wp2_with fail
    go_ret;refine ⟨_,rfl, ?_⟩;have h:=Hbs.out;rw [<-Hjp.out];show Buf F w wr (.slice ads _ caps) _;simpa [y9] using h
 go_enter Tryz.func229,Tryz.ntmps229
 go_wp2_with (first|((with_reducible refine e9 (.tmp 179) ?_);refine ⟨rfl,F,w,_,_,[45],Hb.out,by first|rfl|(go_simp;done),rfl,by decide,by decide,by first|decide|(have h:=Hln.out;exact h),rfl,rfl,fun ad0 cap0 w0 hb0=> ?_⟩;have Hb0:=Lib.hid hb0;clear hb0)|(fail)|fail)
 go_loopw [0,191] (fun tv i wr=>∃j:Nat,i= .int .i64 j/\j<=n/\Buf F w wr tv (([45]:List UInt8)++ds.take j)) (fun _ i _=>n - (intOf i).toNat)
 case atStart=>exact ⟨0,rfl,Nat.zero_le _,by rw [List.take_zero,zz11];exact Hb0.out⟩
 case round=>
  obtain ⟨j,rfl,hj,hbr⟩:=hrel;obtain ⟨adr,capr,hv, -⟩:=hbr.own.shape;subst hv;have hln:(([45]:List UInt8)++ds.take j).length<=1000000:=by simp;omega
  by_cases hlt:j<n
  ·have hlt':(j:Int)<n:=by omega
   have hj32:(j:Int)<32:=by omega
   obtain ⟨u,hu⟩:∃u,ds[j]? =some u:=⟨_,zz5 (by have:=Hn.out;omega)⟩;have c0:=hbr.digs Hd.out Hg.out j u hu;unfold U5 at c0;obtain ⟨Hbr,Hln,Hu⟩:=zh3 hbr hln hu;clear hbr hln hu
   go_wp2_with (first|((with_reducible refine e9 (.tmp 195) ?_);refine ⟨rfl,F,w,_,_,[u],Hbr.out,by first|rfl|(go_simp;done),rfl,by decide,by decide,by first|decide|(have h:=Hln.out;exact h),rfl,rfl,fun ad3 cap3 w3 hb3=> ?_⟩;have Hb3:=Lib.hid hb3;clear hb3)|fail)
   go_roundw
   case rel=>exact ⟨j+1,by go_num,hlt,by have h:=Hb3.out;rw [G9 _ ds j u Hu.out] at h;simpa using h⟩
   case measure=>simp [intOf];omega
  have hjz:n=j:=by omega
  subst hjz;obtain ⟨Hbr,Hln⟩:=zh2 hbr hln;clear hbr hln
  go_wp2_with fail
  go_loopw [0,203] (fun tv i wr=>∃j:Nat,i= .int .i64 j/\j<=p - n/\Buf F w wr tv (([45]:List UInt8)++ds++j4 j)) (fun _ i _=>p - n - (intOf i).toNat)
  case atStart=>exact ⟨0,rfl,Nat.zero_le _,by have h:=Hbr.out;simpa [j4,List.take_of_length_le (Nat.le_of_eq Hn.out)] using h⟩
  case round=>
   clear Hbr Hln;obtain ⟨j,rfl,hj2,hbs⟩:=hrel;obtain ⟨ads,caps,hv, -⟩:=hbs.own.shape;subst hv;have hln:(([45]:List UInt8)++ds++j4 j).length<=1000000:=by have:=Hn.out;simp [j4];omega
   by_cases hlt2:j<p - n
   ·have hlt3:(j:Int)<(p:Int) - n:=by omega
    obtain ⟨Hbs,Hln⟩:=zh2 hbs hln;clear hbs hln
    go_wp2_with (first|((with_reducible refine e9 (.tmp 205) ?_);refine ⟨rfl,F,w,_,_,[48],Hbs.out,by first|rfl|(go_simp;done),rfl,by decide,by decide,by first|decide|(have h:=Hln.out;exact h),rfl,rfl,fun ad3 cap3 w3 hb3=> ?_⟩;have Hb3:=Lib.hid hb3;clear hb3)|fail)
    go_roundw
    case rel=>exact ⟨j+1,by go_num,by omega,by have h:=Hb3.out;rw [W6] at h;simpa using h⟩
    case measure=>simp [intOf];omega
   have hjn2:¬((j:Int)<(p:Int) - n):=by omega
   have hjp:j=p - n:=by omega
   obtain ⟨Hbs,Hln,Hjp⟩:=zh3 hbs hln hjp;clear hbs hln hjp
   go_wp2_with fail
   go_ret;refine ⟨_,rfl, ?_⟩;have h:=Hbs.out;rw [<-Hjp.out];show Buf F w wr (.slice ads _ caps) _;simpa [y9] using h
end
end Go.Proofs.YtaenebdppkjhoaaGreatDoor
