/- Lemmas. -/
import Derived.Test.YtaenebdppkjhoaaGreatDoorZg1
import Derived.Test.YtaenebdppkjhoaaGreatDoorZg4
import Derived.Test.YtaenebdppkjhoaaGreatDoorChecked
import Derived.WalkSmall
import Derived.Laws.Bits64b
import Derived.Deep.DeepCutAuto
import Derived.Deep.CutBlock
namespace Go.Proofs.YtaenebdppkjhoaaGreatDoor
set_option maxRecDepth 20000
set_option maxHeartbeats 40000000
section
open Go.RowKit
theorem a1r (n:Int) (k:Nat) (hk:k<63):bits .and .i64 n ((2^k - 1:Nat):Int)=n%((2^k:Nat):Int):=by
 have hp:2^k<2^63:=Nat.pow_lt_pow_right (by decide) hk;have hp0:0<2^k:=Nat.two_pow_pos k
 have h127:(BitVec.ofInt 64 ((2^k - 1:Nat):Int)).toNat=2^k - 1:=by
  rw [BitVec.toNat_ofInt];omega
 have key:(BitVec.ofInt 64 n&&&BitVec.ofInt 64 ((2^k - 1:Nat):Int)).toNat=(n%((2^64:Nat):Int)).toNat%2^k:=by
  rw [BitVec.toNat_and,BitVec.toNat_ofInt,h127,Nat.and_two_pow_sub_one_eq_mod]
 show IntKind.i64.wrap ((BitVec.ofInt 64 n&&&BitVec.ofInt 64 ((2^k - 1:Nat):Int)).toNat:Nat)=n%((2^k:Nat):Int);rw [key,IntKind.wrap_i64];have h1:(n%((2^64:Nat):Int)).toNat%2^k<2^k:=Nat.mod_lt _ hp0
 have h2:(((n%((2^64:Nat):Int)).toNat%2^k:Nat):Int)=n%((2^k:Nat):Int):=by
  rw [Int.natCast_emod,Int.toNat_of_nonneg (Int.emod_nonneg _ (by decide))];exact Int.emod_emod_of_dvd n (by exact_mod_cast Nat.pow_dvd_pow 2 (by omega))
 rw [<-h2]
 generalize (n%((2^64:Nat):Int)).toNat%2^k=q at*
 omega
theorem wrap_u64 (x:Int):IntKind.u64.wrap x=x%18446744073709551616:=rfl
theorem a0n {k:IntKind} {x y:Int} (h:x=y):Ending.returned (.int k x)=Ending.returned (.int k y):=by rw [h]
theorem a9W (x:Int) (h0: -100000<=x) (h1:x<=100000) (w:World):Calls Tryz.prog 221 #[.int .i64 x] w fun e w'=>e= .returned (.int .i64 (M6 x))/\w'=w:=by
 go_enter Tryz.func221,Tryz.ntmps221
 go_wp2
 go_ret;exact ⟨rfl,rfl⟩
theorem b2l (x:Int) (h0: -100000<=x) (h1:x<=100000) (w:World):Calls Tryz.prog 252 #[.int .i64 x] w fun e w'=>e= .returned (.int .i64 (a0s x))/\w'=w:=by
 go_enter Tryz.func252,Tryz.ntmps252
 go_wp2
 go_ret;exact ⟨rfl,rfl⟩
theorem a9X (x:Int) (h0: -100000<=x) (h1:x<=100000) (w:World):Calls Tryz.prog 250 #[.int .i64 x] w fun e w'=>e= .returned (.int .i64 (a1X x))/\w'=w:=by
 go_enter Tryz.func250,Tryz.ntmps250
 go_wp2
 go_ret;exact ⟨rfl,rfl⟩
theorem a6k (b:Bool) (w:World):Calls Tryz.prog 272 #[.bool b] w fun e w'=>e= .returned (.int .u64 (if b then 1 else 0))/\w'=w:=by
 cases b<;>(
  go_enter Tryz.func272,Tryz.ntmps272
  go_wp2
  go_ret
  exact ⟨rfl,rfl⟩)
theorem b2m (u:Nat) (h:u<18446744073709551616) (w:World):Calls Tryz.prog 256 #[.int .u64 u] w fun e w'=>e= .returned (.int .u64 (u / 4:Nat))/\w'=w:=by
 go_enter Tryz.func256,Tryz.ntmps256
 go_wp2
 go_ret;exact ⟨a0n (by omega),rfl⟩
theorem b33 (u:Nat) (h:u<18446744073709551000) (w:World):Calls Tryz.prog 255 #[.int .u64 u] w fun e w'=>e= .returned (.int .u64 ((u+3) / 4:Nat))/\w'=w:=by
 go_enter Tryz.func255,Tryz.ntmps255
 go_wp2
 go_ret;exact ⟨a0n (by omega),rfl⟩
theorem b2n (u:Nat) (h:u<18446744073709551000) (w:World):Calls Tryz.prog 257 #[.int .u64 u] w fun e w'=>e= .returned (.int .u64 (rnd u:Nat))/\w'=w:=by
 go_enter Tryz.func257,Tryz.ntmps257
 go_wp2
 go_ret;refine ⟨a0n ?_,rfl⟩;rw [and_one_u64 _ (by omega) (by omega),wrap_u64];unfold rnd;have h1:((u:Int)+1+(u:Int) / 4%2)%18446744073709551616=(u:Int)+1+(u:Int) / 4%2:=Int.emod_eq_of_lt (by omega) (by omega);rw [h1];omega
theorem a6l (u:Nat) (d:Int) (h:u<18446744073709551000) (hd:d=0\/d=1\/(d= -1/\0<u)) (w:World):Calls Tryz.prog 254 #[.int .u64 u,.int .i64 d] w fun e w'=>e= .returned (.int .u64 (u+d))/\w'=w:=by
 go_enter Tryz.func254,Tryz.ntmps254
 go_wp2
 go_ret;refine ⟨a0n ?_,rfl⟩;rw [wrap_u64,wrap_u64];omega
def a8C (w:World) (g:Nat) (hi lo s:Nat):Prop:=w.cell? ⟨g,0,none⟩=some (.int .u64 hi)/\w.cell? ⟨g,1,none⟩=some (.int .u64 lo)/\w.cell? ⟨g,2,none⟩=some (.int .i64 s)
theorem a1U (x hi lo s g:Nat) (hx:x<18446744073709551616) (hhi:hi<18446744073709551616) (hlo:lo<18446744073709551616) (hs:s<64) (hh:x<=x*hi) (w:World) (hc:a8C w g hi lo s):
 Calls Tryz.prog 253 #[.int .u64 x,.pointer (some ⟨g,0,none⟩)] w fun e w'=>e= .returned (.int .u64 (usc x hi lo s))/\Mod (fun _=>False) w w':=by
 obtain ⟨c0,c1,c2⟩:=hc;have hmu:=Tryz.bits_Mul64 x hi hx hhi w;have hm2:=Tryz.bits_Mul64 x lo hx hlo w;obtain ⟨H,hH⟩:∃H,x*hi / 18446744073709551616=H:=⟨_,rfl⟩;obtain ⟨M,hM⟩:∃H,x*hi%18446744073709551616=H:=⟨_,rfl⟩;obtain ⟨C,hC⟩:∃H,x*lo / 18446744073709551616=H:=⟨_,rfl⟩;rw [hH,hM] at hmu;rw [hC] at hm2
 have hand:bits .and .i64 (s:Int) 63=s:=by
  have:=a1r s 6 (by decide);have e:bits .and .i64 (s:Int) 63=s%64:=this;rw [e];omega
 have hHl:H<18446744073709551616:=by
  rw [<-hH];exact Nat.div_lt_of_lt_mul (Nat.mul_lt_mul'' hx hhi)
 have hMl:M<18446744073709551616:=by rw [<-hM];exact Nat.mod_lt _ (by decide)
 have hCl:C<18446744073709551616:=by
  rw [<-hC];exact Nat.div_lt_of_lt_mul (Nat.mul_lt_mul'' hx hlo)
 have hpw:0<2^s:=Nat.two_pow_pos s;have hdl:H / 2^s*2^s<=H:=Nat.div_mul_le_self H _
 have hwr:(IntKind.u64.wrap ((H:Int) / 2^s*2^s) !=(H:Int))= !decide (H / 2^s*2^s=H):=by
  have e:((H:Int) / 2^s*2^s)=((H / 2^s*2^s:Nat):Int):=by push_cast;rfl
  rw [e,wrap_u64,Int.emod_eq_of_lt (by omega) (by omega)];by_cases h:H / 2^s*2^s=H
  ·rw [h,decide_eq_true rfl];simp
  rw [decide_eq_false h];simp only [bne_iff_ne,ne_eq,Bool.not_false];exact fun he=>h (by exact_mod_cast he)
 have husc:usc x hi lo s=if H / 2^s*2^s=H then (H - (if M<C then 1 else 0)) / 2^s|||(if 1<(M+W64 - C)%W64 then 1 else 0) else H / 2^s|||1:=by
  unfold usc;rw [show W64=18446744073709551616 from rfl,hH,hM,hC]
 have hor:∀A B:Nat,A<18446744073709551616->B<18446744073709551616->bits .or .u64 (A:Int) (B:Int)=((A|||B:Nat):Int):=bits_or_u64_nat;have hdq:H / 2^s<=H:=Nat.div_le_self _ _;rw [husc];by_cases hz:H / 2^s*2^s=H
 ·rw [if_pos hz];have hz2:(IntKind.u64.wrap ((H:Int) / 2^s*2^s) !=(H:Int))=false:=by rw [hwr,decide_eq_true hz];rfl
  have hb1:=a6k (decide (M<C)) w
  have hbq:(if decide (M<C)=true then (1:Int) else 0)=(((if M<C then 1 else 0):Nat):Int):=by
   by_cases h:M<C
   ·rw [if_pos h,if_pos (decide_eq_true h)];rfl
   rw [if_neg h,if_neg (by rw [decide_eq_false h];decide)];rfl
  rw [hbq] at hb1
  have hB1:(if M<C then 1 else 0)<=H:=by
   split
   ·rename_i h
    rcases Nat.eq_zero_or_pos H with h0|h0
    ·exfalso;have h1:=Nat.div_add_mod (x*hi) 18446744073709551616;rw [hH,hM,h0] at h1
     have h2:C<=x:=by
      rw [<-hC];refine Nat.div_le_of_le_mul ?_;rw [Nat.mul_comm 18446744073709551616];exact Nat.mul_le_mul_left _ (by omega)
     omega
    exact h0
   exact Nat.zero_le _
  obtain ⟨B,hB⟩:∃B:Nat,(if M<C then 1 else 0)=B:=⟨_,rfl⟩
  have hD1:∀D:Bool,decide (1<(M+W64 - C)%W64)=D->(if 1<(M+W64 - C)%W64 then 1 else 0)=(if D=true then 1 else 0):=fun D h=>by
   subst h;by_cases h:1<(M+W64 - C)%W64<;>simp [h]
  have hD2:decide (1<IntKind.u64.wrap ((M:Int) - C))=decide (1<(M+W64 - C)%W64):=by
   have e:IntKind.u64.wrap ((M:Int) - C)=(((M+W64 - C)%W64:Nat):Int):=by
    rw [wrap_u64,Int.natCast_emod,Int.ofNat_sub (by show C<=M+W64;unfold W64;omega)];show _=((M+W64:Nat) - (C:Int))%18446744073709551616;rw [Int.natCast_add,show ((W64:Nat):Int)=18446744073709551616 from rfl];omega
   rw [e];exact decide_eq_decide.2 (by omega)
  obtain ⟨D,hD⟩:∃D,decide (1<(M+W64 - C)%W64)=D:=⟨_,rfl⟩;rw [hB] at hb1 hB1⊢;rw [hD1 D hD];rw [hD] at hD2;have hb2:∀w',Mod (fun _=>False) w w'->Calls Tryz.prog 272 #[.bool D] w' fun e w''=>e= .returned (.int .u64 (if D=true then 1 else 0))/\Mod (fun _=>False) w w'':=fun w' hw'=>(a6k D w').mono fun e w'' h=>by obtain ⟨h1,rfl⟩:=h;exact ⟨h1,hw'⟩
  obtain ⟨E,hE⟩:∃E:Nat,(if D=true then 1 else 0)=E:=⟨_,rfl⟩;have hE1:E<=1:=by rw [<-hE];split<;>omega
  have hbE:(if D=true then (1:Int) else 0)=(E:Int):=by rw [<-hE];split<;>rfl
  rw [hbE] at hb2;rw [hE];obtain ⟨Hmu,Hm2,HH,HM,HC,Hwr,Husc,Hor,Hz,Hdl,Hdq,Hpw⟩:=zh12 hmu hm2 hH hM hC hwr husc hor hz hdl hdq hpw;obtain ⟨HB,HB1,Hb1,Hb2,Hbq,HE,HE1,HbE,HD,HD1⟩:=zh10 hB hB1 hb1 hb2 hbq hE hE1 hbE hD hD1;clear hmu hm2 hH hM hC hwr husc hor hz hdl hdq hpw hB hB1 hb1 hb2 hbq hE hE1 hbE hD hD1
  go_enter Tryz.func253,Tryz.ntmps253
  go_wp2_with fail
  refine Hmu.out.mono ?_;rintro e w1 ⟨rfl,rfl⟩
  go_wp2_with fail
  refine Hm2.out.mono ?_;rintro e w2 ⟨rfl,rfl⟩
  go_wp2_with fail
  refine Hb1.out.mono ?_;rintro e w3 ⟨rfl,rfl⟩
  go_wp2_with fail
  refine i8 (by kernel_rfl) (by kernel_rfl) ?_
  iterate 10 (first
   | (refine k7 ?_ (fun K hK=> ?_)
      ·first|(go_simp;done)|(go_simp;simp [undef];done)
      go_simp;refine hK _ ?_;clear hK K)
   | (refine m8 ?_ ?_ (fun w' hw'=> ?_) (fun K hK=> ?_)
      ·first|(go_simp;done)|(go_simp;simp [undef];done)
      rotate_left
      ·skip
       go_simp;rfl
      go_simp;refine hK _ ?_;clear hK K)
   | (refine p8 ?_ ?_ ?_ ?_ (fun w' hw'=> ?_) ?_ (fun K hK=> ?_)
      ·first|(go_simp;done)|(go_simp;simp [undef];done)
      rotate_left 3
      ·skip
       go_simp;constructor<;>rfl
      ·first|exact Hb2.out
      go_simp;refine hK _ ?_;clear hK K))
  refine m4 (fun w' hw'=> ?_)
  go_wp2
  go_ret;refine ⟨a0n ?_,hw'⟩;have hB2:=HB1.out
  have e:(IntKind.u64.wrap ((H:Int) - B) / 2^s)=(((H - B) / 2^s:Nat):Int):=by
   rw [wrap_u64,Int.emod_eq_of_lt (by omega) (by omega),<-Int.ofNat_sub hB2]
   push_cast
   rfl
  rw [e];exact Hor.out ((H - B) / 2^s) E (by have:=Nat.div_le_self (H - B) (2^s);omega) (by have:=HE1.out;omega)
 rw [if_neg hz];have hz2:(IntKind.u64.wrap ((H:Int) / 2^s*2^s) !=(H:Int))=true:=by rw [hwr,decide_eq_false hz];rfl
 obtain ⟨Hmu,Hm2,HH,HM,HC,Hwr,Husc,Hor,Hz,Hdl,Hdq,Hpw⟩:=zh12 hmu hm2 hH hM hC hwr husc hor hz hdl hdq hpw;clear hmu hm2 hH hM hC hwr husc hor hz hdl hdq hpw
 go_enter Tryz.func253,Tryz.ntmps253
 go_wp2_with fail
 refine Hmu.out.mono ?_;rintro e w1 ⟨rfl,rfl⟩
 go_wp2_with fail
 go_ret;refine ⟨a0n ?_,Mod.refl _ _⟩;have e:((H:Int) / 2^s)=((H / 2^s:Nat):Int):=by push_cast;rfl
 rw [e];exact Hor.out (H / 2^s) 1 (by have:=Hdq.out;omega) (by omega)
structure Lays (w:World):Prop where
 u10:Lib.TabIs Tryz.prog w "internal/strconv.uint64pow10" .u64 Lib.pow10Tab
 p10:∀i,i<696->w.cell? ⟨7,i*2,none⟩=some (.int .u64 ((pw i).1:Int))/\w.cell? ⟨7,i*2+1,none⟩=some (.int .u64 ((pw i).2:Int))
theorem Lays.mod {w w':World} {F:Nat->Prop} (h:Lays w) (hm:Mod F w w') (hF:∀g,g<16->¬F g):Lays w':=by
 refine ⟨?_,fun i hi=>⟨hm.cell (h.p10 i hi).1 (hF 7 (by decide)),hm.cell (h.p10 i hi).2 (hF 7 (by decide))⟩⟩;have h1:=h.u10;unfold Lib.TabIs World.var? at*
 have hg:Tryz.prog.globalNamed "internal/strconv.uint64pow10" =some 3:=by kernel_rfl
 rw [hg] at h1⊢;simp only [Option.bind_some] at h1⊢
 cases hb:w.heap[(3:Nat)]? with
 |none=>rw [hb] at h1;cases h1
 |some o=>
  rw [hm.heap hb (hF _ (by decide))];rw [hb] at h1;exact h1
theorem Lays.mod0 {w w':World} (h:Lays w) (hm:Mod (fun _=>False) w w'):Lays w':=h.mod hm (fun _ _ h=>h)
theorem a6m (w:World) (hw:Lays w) (g:Nat) (hg:w.heap[g]? =some (.cells #[.int .u64 0,.int .u64 0,.int .i64 0] 307 (0,0))) (e lp:Int) (i s:Nat) (hi:i<696) (he: -3000<=e/\e<=3000) (hl: -3000<=lp/\lp<=3000) (hs: -(e+lp+3)=s):
 Calls Tryz.prog 251 #[.pointer (some ⟨g,0,none⟩),.int .i64 e,.int .i64 ((i:Int) - 348),.int .i64 lp] w fun x w'=>x= .returned (.tuple #[])/\a8C w' g (pw i).1 (pw i).2 s/\Mod (fun k=>k=g) w w':=by
 have c0:w.cell? ⟨g,0,none⟩=some (.int .u64 0):=d6 hg rfl;have c1:w.cell? ⟨g,1,none⟩=some (.int .u64 0):=d6 hg rfl;have c2:w.cell? ⟨g,2,none⟩=some (.int .i64 0):=d6 hg rfl;have f0:w.frozen? ⟨g,0,none⟩=false:=L7 hg;have f1:w.frozen? ⟨g,1,none⟩=false:=L7 hg;have f2:w.frozen? ⟨g,2,none⟩=false:=L7 hg;obtain ⟨hp0,hp1⟩:=hw.p10 i hi
 go_enter Tryz.func251,Tryz.ntmps251
 go_wp2_with fail
 go_end0
 refine ⟨rfl,⟨d6 (p7 (p7 (p7 hg))) rfl,d6 (p7 (p7 (p7 hg))) rfl,d6 (p7 (p7 (p7 hg))) rfl⟩, ?_⟩;exact (((Mod.refl (fun k=>k=g) w).setCell (fun _=>rfl) _).setCell (fun _=>rfl) _).setCell (fun _=>rfl) _
theorem a4u (x:Int) (h0: -100000<=x) (h1:x<=100000) (w:World) (p:Int) (hp:M6 x=p):Calls Tryz.prog 221 #[.int .i64 x] w fun e w'=>e= .returned (.int .i64 p)/\w'=w:=hp▸a9W x h0 h1 w
theorem b2o (x:Int) (h0: -100000<=x) (h1:x<=100000) (w:World) (p:Int) (hp:a1X x=p):Calls Tryz.prog 250 #[.int .i64 x] w fun e w'=>e= .returned (.int .i64 p)/\w'=w:=hp▸a9X x h0 h1 w
theorem a0r {k:IntKind} {x y:Int} (h:x=y):Value.int k x=Value.int k y:=by rw [h]
theorem a43 (n:Nat):bits .and .i64 (n:Int) 1=((n%2:Nat):Int):=by
 have:=a1r n 1 (by decide);have e:bits .and .i64 (n:Int) 1=n%2:=this;rw [e];omega
theorem b5x:(List.range 696).all (fun i=>decide (9223372036854775808<=(pw i).1/\(pw i).1<18446744073709551616/\(pw i).2<18446744073709551616))=true:=by decide+kernel
theorem b4m (i:Nat) (h:i<696):9223372036854775808<=(pw i).1/\(pw i).1<18446744073709551616/\(pw i).2<18446744073709551616:=of_decide_eq_true (zz15 b5x i (List.mem_range.2 h))
theorem b2p (m:Nat) (e:Int) (he0: -1137<=e) (he1:e<=960): -348<=(p6 m e).p/\(p6 m e).p<=347/\1<= -(e+a0s (p6 m e).p+3)/\ -(e+a0s (p6 m e).p+3)<=60/\(p6 m e).odd<=1:=by
 unfold p6;split
 ·simp only;unfold a0s a1X;omega
 split
 ·simp only;unfold a0s M6;omega
 simp only;rw [show e+(11+(-1085 - e))= -1074 by omega];unfold a0s M6;omega
theorem a9Y (a:Nat):a|||1<=a+1:=by rw [a1u];omega
theorem a1V (a b:Nat) (hb:b=0\/b=1):a<=a|||b/\a|||b<=a+1:=by
 rcases hb with rfl|rfl
 ·simp
 rw [a1u];omega
theorem a45 (x hi lo s:Nat) (hx:x<18446744073709551616) (hh:hi<18446744073709551616) (hs:1<=s):usc x hi lo s<=9223372036854775809:=by
 have h1:x*hi / W64<18446744073709551616:=Nat.div_lt_of_lt_mul (Nat.mul_lt_mul'' hx hh)
 have h2:∀H,H<18446744073709551616->H / 2^s<=9223372036854775808:=fun H hH=>by
  have:2^1<=2^s:=Nat.pow_le_pow_right (by decide) hs;have h3:H / 2^s<=H / 2^1:=Nat.div_le_div_left this (by decide);omega
 unfold usc;split
 ·refine Nat.le_trans (a1V _ _ ?_).2 (Nat.succ_le_succ (h2 _ (Nat.lt_of_le_of_lt (Nat.sub_le _ _) h1)));split
  ·exact .inr rfl
  exact .inl rfl
 exact Nat.le_trans (a9Y _) (Nat.succ_le_succ (h2 _ h1))
theorem a8D (x hi lo s:Nat) (hx:9223372036854775808<=x) (hh:9223372036854775808<=hi) (hs:s<=60):1<=usc x hi lo s:=by
 have h1:4611686018427387904<=x*hi / W64:=by
  rw [Nat.le_div_iff_mul_le (by decide)];exact Nat.le_trans (by decide) (Nat.mul_le_mul hx hh)
 have h2:∀H,4611686018427387903<=H->1<=H / 2^s:=fun H hH=>by
  have:2^s<=2^60:=Nat.pow_le_pow_right (by decide) hs;rw [Nat.le_div_iff_mul_le (Nat.two_pow_pos s)];omega
 unfold usc;split
 ·refine Nat.le_trans (h2 _ ?_) (a1V _ _ ?_).1
  ·split<;>omega
  split
  ·exact .inr rfl
  exact .inl rfl
 exact Nat.le_trans (h2 _ (by omega)) (a1V _ _ (.inr rfl)).1
theorem b2q (w:World) (hw:Lays w) (m:Nat) (e:Int) (hm0:9223372036854775808<=m) (hm1:m<18446744073709551616) (he0: -1137<=e) (he1:e<=960) (hmx:(p6 m e).mx<18446744073709551616):
 Calls Tryz.prog 236 #[.int .u64 m,.int .i64 e] w fun x w'=>x= .returned (.tuple #[.int .u64 (z8 m e).1,.int .i64 (z8 m e).2])/\Mod (fun _=>False) w w':=by
 obtain ⟨c,hc⟩:∃c,p6 m e=c:=⟨_,rfl⟩;rw [hc] at hmx;obtain ⟨Hw,Hc,Hmx⟩:=zh3 hw hc hmx;clear hw hc hmx
 go_enter Tryz.func236,Tryz.ntmps236
 go_upto_region 12 with fail
 go_cut [28] from 22 to 27 (fun t wx=>t= .bool (decide (m=2^63/\ -1085<e))/\wx=w)
 case first=>
  by_cases h1:m=9223372036854775808
  ·have hb:((m:Int)==9223372036854775808)=true:=by rw [beq_iff_eq];omega
   by_cases h2: -1085<e
   ·have hd:decide (m=2^63/\ -1085<e)=true:=decide_eq_true ⟨h1,h2⟩;have Hd:=zh hd;clear hd h1
    go_wp2_with fail
    go_meet
    case rel=>exact ⟨by rw [Hd.out],rfl⟩
   have hd:decide (m=2^63/\ -1085<e)=false:=decide_eq_false (fun h=>h2 h.2);have h3:decide (-1085<e)=false:=decide_eq_false h2;have Hd:=zh hd;clear hd h1 h2
   go_wp2_with fail
   go_meet
   case rel=>exact ⟨by rw [Hd.out],rfl⟩
  have hb:((m:Int)==9223372036854775808)=false:=by rw [beq_eq_false_iff_ne];omega
  have hd:decide (m=2^63/\ -1085<e)=false:=decide_eq_false (fun h=>h1 h.1);have Hd:=zh hd;clear hd h1
  go_wp2_with fail
  go_meet
  case rel=>exact ⟨by rw [Hd.out],rfl⟩
 case rest=>
  obtain ⟨rfl,rfl⟩:=hcut;obtain ⟨w0,rfl⟩:∃w0:World,w0=wc:=⟨_,rfl⟩
  go_upto_if 28 with fail
  go_cut [5,8,9,10,11] from 28 to 96 (fun pv mn mx od z wx=>pv= .int .i64 c.p/\mn= .int .u64 c.mn/\mx= .int .u64 c.mx/\od= .int .i64 c.odd/\wx=w0)
  case first=>
   by_cases h1:m=2^63/\ -1085<e
   ·obtain ⟨h0,h2⟩:=h1;have hcs:c=⟨m - 2^9,m+2^10,m / 2^11%2, -a1X (e+11)⟩:=by rw [<-Hc.out];unfold p6;rw [if_pos ⟨h0,h2⟩]
    obtain ⟨p,hp⟩:∃p,a1X (e+11)=p:=⟨_,rfl⟩;have hsk:=b2o (e+11) (by omega) (by omega) w0 p hp;have hp0: -400<=p/\p<=400:=by rw [<-hp];unfold a1X;omega
    have hd:decide (m=2^63/\ -1085<e)=true:=decide_eq_true ⟨h0,h2⟩;rw [hd];have hm2:(m:Int)+1024<18446744073709551616:=by omega
    have hm3:(512:Int)<=m:=by omega
    obtain ⟨Hsk,Hcs,Hp,H0⟩:=zh4 hsk hcs hp h0;clear hsk hcs hp h0 hd
    go_wp2_with fail
    refine Hsk.out.mono ?_;rintro x w1 ⟨rfl,rfl⟩
    go_wp2_with fail
    go_meet
    case rel=>
     have hv:=a43 (m / 2048);rw [Hcs.out];refine ⟨a0r (by rw [Hp.out]),a0r (show (m:Int) - 512=((m - 2^9:Nat):Int) by omega),a0r (show (m:Int)+1024=((m+2^10:Nat):Int) by omega),a0r ?_,rfl⟩;rw [show ((m:Int) / 2048)=((m / 2048:Nat):Int) by omega,hv]
   by_cases h2: -1085<=e
   ·have hcs:c=⟨m - 2^10,m+2^10,m / 2^11%2, -M6 (e+11)⟩:=by rw [<-Hc.out];unfold p6;rw [if_neg h1,if_pos h2]
    obtain ⟨p,hp⟩:∃p,M6 (e+11)=p:=⟨_,rfl⟩;have hsk:=a4u (e+11) (by omega) (by omega) w0 p hp;have hp0: -400<=p/\p<=400:=by rw [<-hp];unfold M6;omega
    have hd:decide (m=2^63/\ -1085<e)=false:=decide_eq_false h1;rw [hd];have hm2:(m:Int)+1024<18446744073709551616:=by have:=Hmx.out;rw [hcs] at this;simp only at this;omega
    have hm3:(1024:Int)<=m:=by omega
    obtain ⟨Hsk,Hcs,Hp⟩:=zh3 hsk hcs hp;clear hsk hcs hp hd h1
    go_wp2_with fail
    refine Hsk.out.mono ?_;rintro x w1 ⟨rfl,rfl⟩
    go_wp2_with fail
    go_meet
    case rel=>
     have hv:=a43 (m / 2048);rw [Hcs.out];refine ⟨a0r (by rw [Hp.out]),a0r (show (m:Int) - 1024=((m - 2^10:Nat):Int) by omega),a0r (show (m:Int)+1024=((m+2^10:Nat):Int) by omega),a0r ?_,rfl⟩;rw [show ((m:Int) / 2048)=((m / 2048:Nat):Int) by omega,hv]
   obtain ⟨k,rfl⟩:∃k:Nat,e= -1074 - k:=⟨(-1074 - e).toNat,by omega⟩;have hk:11<k/\k<=63:=by omega
   have hcs:c=⟨m - 2^(k - 1),m+2^(k - 1),m / 2^k%2, -M6 (-1074)⟩:=by
    rw [<-Hc.out];unfold p6;rw [if_neg h1,if_neg h2];have e1:(11+(-1085 - (-1074 - (k:Int)))).toNat=k:=by omega
    have e2:(-1074 - (k:Int))+(11+(-1085 - (-1074 - (k:Int))))= -1074:=by omega
    rw [e1,e2]
   obtain ⟨p,hp⟩:∃p,M6 (-1074)=p:=⟨_,rfl⟩;have hsk:=a4u (-1074) (by omega) (by omega) w0 p hp;have hp0: -400<=p/\p<=400:=by rw [<-hp];unfold M6;omega
   have hd:decide (m=2^63/\ -1085< -1074 - (k:Int))=false:=decide_eq_false h1;rw [hd];have hk0:(1:Int)<=k:=by omega
   have hk1:(k:Int)<=63:=by omega
   have hkk:11+(-1085 - (-1074 - (k:Int)))=k:=by omega
   have hle: -1074 - (k:Int)< -1085:=by omega
   obtain ⟨Hsk,Hcs,Hp⟩:=zh3 hsk hcs hp;clear hsk hcs hp hd h1 h2
   go_wp2_with fail
   refine Hsk.out.mono ?_;rintro x w1 ⟨rfl,rfl⟩
   go_wp2_with fail
   go_meet
   case rel=>
    have hpk:(2:Int)^(k - 1)=((2^(k - 1):Nat):Int):=by push_cast;rfl
    have hpl:2^(k - 1)<=2^62:=Nat.pow_le_pow_right (by decide) (by omega);have hmx:=Hmx.out;rw [Hcs.out] at hmx⊢;simp only at hmx;rw [hpk];obtain ⟨K,hK⟩:∃K,2^(k - 1)=K:=⟨_,rfl⟩;rw [hK] at hpl hmx⊢;refine ⟨a0r (by rw [Hp.out]),a0r (show _=((m - K:Nat):Int) from ?_),a0r (show _=((m+K:Nat):Int) from ?_),a0r ?_,rfl⟩
    ·rw [wrap_u64,wrap_u64,Int.emod_eq_of_lt (a:=(K:Int)) (by omega) (by omega),Int.emod_eq_of_lt (by omega) (by omega)];omega
    ·rw [wrap_u64,wrap_u64,Int.emod_eq_of_lt (a:=(K:Int)) (by omega) (by omega),Int.emod_eq_of_lt (by omega) (by omega)];omega
    have hdv:m / 2^k<=m / 2^11:=Nat.div_le_div_left (Nat.pow_le_pow_right (by decide) (by omega)) (by decide);have e1:((m:Int) / 2^k)=((m / 2^k:Nat):Int):=by push_cast;rfl
    obtain ⟨D,hD⟩:∃D,m / 2^k=D:=⟨_,rfl⟩;rw [hD] at hdv e1
    have e2:wrap64 (D:Int)=(D:Int):=by
     unfold wrap64;omega
    rw [e1,e2,hD];exact a43 D
  case rest=>
   obtain ⟨rfl,rfl,rfl,rfl,rfl⟩:=hcut;obtain ⟨w0,rfl⟩:∃w0:World,w0=wc:=⟨_,rfl⟩;have hok:=b2p m e he0 he1;rw [Hc.out] at hok;obtain ⟨hp0,hp1,hs0,hs1,hod⟩:=hok;obtain ⟨i,hi⟩:∃i:Nat,c.p=i - 348:=⟨(c.p+348).toNat,by omega⟩;have hi6:i<696:=by omega
   obtain ⟨s,hs⟩:∃s:Nat, -(e+a0s c.p+3)=s:=⟨(-(e+a0s c.p+3)).toNat,by omega⟩;obtain ⟨hw0,hw1,hw2⟩:=b4m i hi6
   have hmn:c.mn<18446744073709551616:=by
    rw [<-Hc.out];unfold p6;split
    ·exact Nat.lt_of_le_of_lt (Nat.sub_le _ _) hm1
    split<;>exact Nat.lt_of_le_of_lt (Nat.sub_le _ _) hm1
   have hmxl:9223372036854775808<=c.mx:=by
    rw [<-Hc.out];unfold p6;split
    ·exact Nat.le_trans hm0 (Nat.le_add_right _ _)
    split<;>exact Nat.le_trans hm0 (Nat.le_add_right _ _)
   have hmx:=Hmx.out;obtain ⟨wa,hwa,hmwa,hgwa,hzwa⟩:=e8 w0 (.cells #[.int .u64 0,.int .u64 0,.int .i64 0] 307);have hl2:=b2l c.p (by omega) (by omega) wa;obtain ⟨lp,hlp⟩:∃lp,a0s c.p=lp:=⟨_,rfl⟩;rw [hlp] at hl2 hs hs0 hs1;have hpr:=a6m wa (Hw.out.mod0 hmwa) w0.heap.size hgwa e lp i s hi6 (by omega) (by omega) hs;rw [hi] at hl2;obtain ⟨U1,hU1⟩:∃u,usc c.mn (pw i).1 (pw i).2 s=u:=⟨_,rfl⟩;obtain ⟨U2,hU2⟩:∃u,usc c.mx (pw i).1 (pw i).2 s=u:=⟨_,rfl⟩;obtain ⟨Um,hUm⟩:∃u,usc m (pw i).1 (pw i).2 s=u:=⟨_,rfl⟩;have hs63:s<64:=by omega
   have hb1:U1<=9223372036854775809:=hU1▸a45 c.mn _ _ s hmn hw1 (by omega);have hb2:U2<=9223372036854775809:=hU2▸a45 c.mx _ _ s hmx hw1 (by omega);have hbm:Um<=9223372036854775809:=hUm▸a45 m _ _ s hm1 hw1 (by omega);have hb3:1<=U2:=hU2▸a8D c.mx _ _ s hmxl hw0 (by omega);have hu1:=fun w h=>a1U c.mn (pw i).1 (pw i).2 s w0.heap.size hmn hw1 hw2 hs63 (Nat.le_mul_of_pos_right _ (by omega)) w h;have hu2:=fun w h=>a1U c.mx (pw i).1 (pw i).2 s w0.heap.size hmx hw1 hw2 hs63 (Nat.le_mul_of_pos_right _ (by omega)) w h;have hum:=fun w h=>a1U m (pw i).1 (pw i).2 s w0.heap.size hm1 hw1 hw2 hs63 (Nat.le_mul_of_pos_right _ (by omega)) w h;rw [hU1] at hu1;rw [hU2] at hu2;rw [hUm] at hum
   have hdm:A3 m e=(U1+c.odd+3) / 4:=by
    unfold A3 M9 N9 sOf;rw [Hc.out];simp only;rw [show (c.p+348).toNat=i by omega,hlp,show (-(e+lp+3)).toNat=s by omega,hU1]
   have hdx:A4 m e=(U2 - c.odd) / 4:=by
    unfold A4 M9 N9 sOf;rw [Hc.out];simp only;rw [show (c.p+348).toNat=i by omega,hlp,show (-(e+lp+3)).toNat=s by omega,hU2]
   have hsf:z8 m e=if A3 m e<=A4 m e / 10*10 then (A4 m e / 10, -(c.p - 1)) else if A3 m e<A4 m e then (rnd Um, -c.p) else (A3 m e, -c.p):=by
    unfold z8 M9 N9 sOf;rw [Hc.out];simp only;rw [show (c.p+348).toNat=i by omega,hlp,show (-(e+lp+3)).toNat=s by omega,hUm]
   rw [hdm,hdx] at hsf;rw [hi];rw [hi] at hsf;have hod2:(c.odd:Int)=0\/(c.odd:Int)=1:=by omega
   obtain ⟨Hwa,Hmwa,Hgwa,Hl2,Hpr,Hu1,Hu2,Hum,HU1,HU2,HUm,Hdm⟩:=zh12 hwa hmwa hgwa hl2 hpr hu1 hu2 hum hU1 hU2 hUm hdm;obtain ⟨Hdx,Hsf,Hlp,Hi,Hs,Hw0,Hw1,Hw2⟩:=zh8 hdx hsf hlp hi hs hw0 hw1 hw2;clear hwa hmwa hgwa hl2 hpr hu1 hu2 hum hU1 hU2 hUm hdm hdx hsf hlp hi hs hw0 hw1 hw2 hzwa Hw hmx
   go_wp2_with (first|(rw [show w0.alloc _=wa from Hwa.out])|fail)
   refine Hl2.out.mono ?_;rintro x w1 ⟨rfl,rfl⟩
   go_wp2_with fail
   refine Hpr.out.mono ?_;rintro x w2 ⟨rfl,hS2,hm2⟩;have hm02:Mod (fun _=>False) w0 w2:=Hmwa.out.upon hm2 (fun b hb=> .inr (by omega));have hua:=Hu1.out w2 hS2;obtain ⟨HS2,Hm02,Hua⟩:=zh3 hS2 hm02 hua;clear hS2 hm02 hua hm2 Hpr
   go_wp2_with fail
   refine Hua.out.mono ?_;rintro x w3 ⟨rfl,hm3⟩;have hS3:a8C w3 w0.heap.size (pw i).1 (pw i).2 s:=⟨hm3.cell HS2.out.1 (fun h=>h),hm3.cell HS2.out.2.1 (fun h=>h),hm3.cell HS2.out.2.2 (fun h=>h)⟩;have hm03:=Hm02.out.trans hm3 (fun _ _ h=>h);have hn1:=a6l U1 c.odd (by omega) (by omega) w3;obtain ⟨V1,hV1⟩:∃v,U1+c.odd=v:=⟨_,rfl⟩;rw [show ((U1:Int)+(c.odd:Int))=(V1:Int) by omega] at hn1;have hc1:=b33 V1 (by omega) w3;obtain ⟨A,hA⟩:∃a,(V1+3) / 4=a:=⟨_,rfl⟩;rw [hA] at hc1;have hAl:A<=4611686018427387904:=by omega
   have hub:=Hu2.out w3 hS3;obtain ⟨HS3,Hm03,Hn1,Hc1,HV1,HA,Hub⟩:=zh7 hS3 hm03 hn1 hc1 hV1 hA hub;clear hS3 hm03 hn1 hc1 hV1 hA hub hm3 Hua HS2 Hm02
   go_wp2_with fail
   refine Hn1.out.mono ?_;rintro x w4 ⟨rfl,rfl⟩
   go_wp2_with fail
   refine Hc1.out.mono ?_;rintro x w5 ⟨rfl,rfl⟩
   go_wp2_with fail
   refine Hub.out.mono ?_;rintro x w6 ⟨rfl,hm6⟩;have hS6:a8C w6 w0.heap.size (pw i).1 (pw i).2 s:=⟨hm6.cell HS3.out.1 (fun h=>h),hm6.cell HS3.out.2.1 (fun h=>h),hm6.cell HS3.out.2.2 (fun h=>h)⟩;have hm06:=Hm03.out.trans hm6 (fun _ _ h=>h);have hn2:=a6l U2 (-(c.odd:Int)) (by omega) (by omega) w6;obtain ⟨V2,hV2⟩:∃v,U2 - c.odd=v:=⟨_,rfl⟩;rw [show ((U2:Int)+ -(c.odd:Int))=(V2:Int) by omega] at hn2;have hc2:=b2m V2 (by omega) w6;obtain ⟨B,hB⟩:∃a,V2 / 4=a:=⟨_,rfl⟩;rw [hB] at hc2;have hBl:B<=4611686018427387904:=by omega
   have huc:=Hum.out w6 hS6;have hsf:=Hsf.out;rw [HV1.out,hV2,HA.out,hB] at hsf;have hrn:=b2n Um (by omega);obtain ⟨HS6,Hm06,Hn2,Hc2,HV2,HB,Huc,Hrn⟩:=zh8 hS6 hm06 hn2 hc2 hV2 hB huc hrn;clear hS6 hm06 hn2 hc2 hV2 hB huc hrn hm6 HS3 Hm03 Hn1 Hc1
   go_wp2_with fail
   refine Hn2.out.mono ?_;rintro x w7 ⟨rfl,rfl⟩
   go_wp2_with fail
   refine Hc2.out.mono ?_;rintro x w8 ⟨rfl,rfl⟩;by_cases h1:A<=B / 10*10
   ·rw [if_pos h1] at hsf;have h1':(A:Int)<=(B:Int) / 10*10:=by omega
    have Hsf2:=zh hsf;clear hsf
    go_wp2_with fail
    go_ret2
    refine ⟨?_,Hm06.out⟩;rw [Hsf2.out];congr 3
   rw [if_neg h1] at hsf;have h1':(B:Int) / 10*10<A:=by omega
   by_cases h2:A<B
   ·rw [if_pos h2] at hsf;have h2':(A:Int)<B:=by omega
    have Hsf2:=zh hsf;clear hsf
    go_wp2_with fail
    refine Huc.out.mono ?_;rintro x w9 ⟨rfl,hm9⟩;have hm09:=Hm06.out.trans hm9 (fun _ _ h=>h);have hrr:=Hrn.out w9;obtain ⟨Hm09,Hrr⟩:=zh2 hm09 hrr;clear hm09 hrr hm9
    go_wp2_with fail
    refine Hrr.out.mono ?_;rintro x wA ⟨rfl,rfl⟩
    go_wp2_with fail
    go_ret2
    exact ⟨by rw [Hsf2.out];rfl,Hm09.out⟩
   rw [if_neg h2] at hsf;have h2':(B:Int)<=A:=by omega
   have Hsf2:=zh hsf;clear hsf
   go_wp2_with fail
   go_ret2
   exact ⟨by rw [Hsf2.out];rfl,Hm06.out⟩
end
end Go.Proofs.YtaenebdppkjhoaaGreatDoor
