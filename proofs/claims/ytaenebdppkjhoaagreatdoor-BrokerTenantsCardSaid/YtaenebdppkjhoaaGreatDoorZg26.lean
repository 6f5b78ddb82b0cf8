/- Lemmas. -/
import Derived.Test.YtaenebdppkjhoaaGreatDoorZg25
namespace Go.Proofs.YtaenebdppkjhoaaGreatDoor
set_option maxRecDepth 20000
set_option maxHeartbeats 40000000
section
open Go.RowKit
structure As where
 kind:Int
 tenant:Int
 frm:Int
 who:ByteArray
 sc:ByteArray
 a:Option Addr
 c:Nat
 cs:List Cnd
def As.cells (x:As):List Value:=[.int .i64 x.kind,.int .i64 x.tenant,.int .i64 x.frm,.string x.who,.string x.sc,.slice x.a x.cs.length x.c]
def b5C (l:List As):List Value:=l.flatMap As.cells
structure b0W (x:As):Prop where
 who:x.who.size<=140737488355328
 sc:x.sc.size<=140737488355328
 len:x.cs.length<=9223372036854775807
 cs:∀c∈x.cs,(c.name.size<=140737488355328/\c.v.text.size<=140737488355328)/\(-9223372036854775808<=c.v.int/\c.v.int<=9223372036854775807)/\c.v.num<2^64
structure a4J (x:As):Prop where
 who:x.who.size<=100
 fil:a47 x.sc x.cs
theorem b0W.fits {x:As} (h:b0W x) (hl:a4J x):x.sc.size<=1000000/\x.cs.length<=1000/\∀c∈x.cs,c.fits:=by
 have h1:=hl.fil.len;have h2:=hl.fil.sum;refine ⟨by omega,by omega,fun c hc=> ?_⟩;have h3:=a4v hc;have h4:=h.cs c hc;exact ⟨⟨h4.2.1,h4.2.2,by omega⟩,by omega⟩
structure a6Z (w:World) (v:Value) (l:List As):Prop where
 rd:j0 w 6 v l.length (b5C l)
 cs:∀x∈l,j0 w 7 (.slice x.a x.cs.length x.c) x.cs.length (l6 x.cs)
theorem a6Z.mod {w w':World} {v:Value} {l:List As} (h:a6Z w v l) (hm:Mod (fun _=>False) w w'):a6Z w' v l:=⟨h.rd.mod hm (fun _ _ h=>h),fun x hx=>(h.cs x hx).mod hm (fun _ _ h=>h)⟩
theorem b0X {w:World} {a:Option Addr} {cap:Nat} {l:List As} (h:a6Z w (.slice a l.length cap) l) {j:Nat} {x:As} (hx:l[j]? =some x):∃g off,a=some ⟨g,off,none⟩/\e7 w g (off+j*6) x.cells:=a0x (f:=As.cells) (sz:=6) (fun _=>rfl) h.rd hx
def a5z (w:World) (l:List As) (e:Ending) (w':World):Prop:=∃b,e= .returned (.bool b)/\(b=true->l.length<=30/\∀x∈l,a4J x)/\Mod (fun _=>False) w w'
theorem a60 (w:World) (v:Value) (l:List As) (hv:a6Z w v l) (hll:l.length<=9223372036854775807) (hin:∀x∈l,b0W x):
 Calls Tryz.prog 24 #[v] w (a5z w l):=by
 obtain ⟨a,cap,rfl,hcap⟩:∃a c,v= .slice a l.length c/\l.length<=c:=by obtain ⟨-,a,c,h,h2, -⟩:=hv.rd;exact ⟨a,c,h,h2⟩
 have hll':(l.length:Int)<=9223372036854775807:=by omega
 have hcap':(l.length:Int)<=cap:=by omega
 obtain ⟨Hv,Hin⟩:=zh2 hv hin;clear hv hin hcap hll
 go_enter Tryz.func24,Tryz.ntmps24
 go_wp2_with fail
 go_loopw [7] (fun i wr=>∃j:Nat,i= .int .i64 j/\j<=l.length/\(∀x∈l.take j,a4J x)/\Mod (fun _=>False) w wr) (fun i _=>l.length - (intOf i).toNat)
 case atStart=>exact ⟨0,rfl,Nat.zero_le _,fun x hx=>(by cases hx),Mod.refl _ _⟩
 case round=>
  obtain ⟨j,rfl,hj,hli,hmr⟩:=hrel;by_cases hlt:j<l.length
  ·have hlt':(j:Int)<l.length:=by omega
   obtain ⟨x,hxj⟩:∃x,l[j]? =some x:=⟨_,zz5 hlt⟩;have hxm:=zz8 hxj;have hvr:=Hv.out.mod hmr;obtain ⟨g,off,rfl,hf⟩:=b0X hvr hxj;have hxi:=Hin.out x hxm;obtain ⟨wz,hwz,hmwz,hgwz,hzwz⟩:=e8 wr (.cells x.cells.toArray 84);have hwz':wr.alloc (.cells #[.int .i64 x.kind,.int .i64 x.tenant,.int .i64 x.frm,.string x.who,.string x.sc,.slice x.a x.cs.length x.c] 84)=wz:=hwz;have hmz:=hmr.trans hmwz (fun _ _ h=>h);have hlg:=a2e wz x.sc (.slice x.a x.cs.length x.c) x.cs (((hvr.mod hmwz).cs x hxm)) hxi.len hxi.sc (fun c hc=>(hxi.cs c hc).1);have z3:wz.cell? ⟨wr.heap.size,3,none⟩=some (.string x.who):=d6 hgwz rfl;have z4:wz.cell? ⟨wr.heap.size,4,none⟩=some (.string x.sc):=d6 hgwz rfl;have z5:wz.cell? ⟨wr.heap.size,5,none⟩=some (.slice x.a x.cs.length x.c):=d6 hgwz rfl;by_cases h100:x.who.size<=100
   ·have h1:(x.who.size:Int)<=100:=by omega
    have h2:¬(100:Int)<x.who.size:=by omega
    obtain ⟨Hmr,Hxj,Hxm,Hvr,Hf,Hxi,Hwz,Hwz',Hmwz,Hgwz,Hmz,Hlg⟩:=zh12 hmr hxj hxm hvr hf hxi hwz hwz' hmwz hgwz hmz hlg;have Hli:=zh hli;clear hmr hxj hxm hvr hf hxi hwz hwz' hmwz hgwz hmz hlg hli hzwz
    go_wp2_with (first|((with_reducible refine d9 84 (.tmp 9) ?_);refine ⟨g,off+j*6,rfl,[.int .i64 x.kind,.int .i64 x.tenant,.int .i64 x.frm,.string x.who,.string x.sc,.slice x.a x.cs.length x.c],Hf.out,by kernel_rfl,by kernel_rfl, ?_⟩)|((with_reducible refine d8 84 (.tmp 4) (.tmp 10) ?_);refine ⟨rfl,[.int .i64 x.kind,.int .i64 x.tenant,.int .i64 x.frm,.string x.who,.string x.sc,.slice x.a x.cs.length x.c],rfl,rfl,by kernel_rfl,rfl, ?_⟩;rw [Hwz'.out])|fail)
    refine Hlg.out.mono ?_;rintro e w2 ⟨b,rfl,hb,hm2⟩;have hm02:=Hmz.out.trans hm2 (fun _ _ h=>h);obtain ⟨Hm02,Hb⟩:=zh2 hm02 hb;clear hm02 hb hm2
    cases b with
    |false=>
     go_wp2
     go_ret;exact ⟨false,rfl,fun h=>(by cases h),Hm02.out⟩
    | true=>
     have hbl:=Hb.out rfl
     go_wp2_with fail
     go_roundw
     case rel=>
      refine ⟨j+1,by go_num,hlt,fun y hy=> ?_,Hm02.out⟩;rw [List.take_add_one,Hxj.out,Option.toList_some] at hy;rcases zz14 hy with hy|hy
      ·exact Hli.out y hy
      rw [List.mem_singleton.1 hy];exact ⟨h100,hbl⟩
     case measure=>simp [intOf];omega
   have h1:(100:Int)<x.who.size:=by omega
   obtain ⟨Hmr,Hxj,Hxm,Hvr,Hf,Hxi,Hwz,Hwz',Hmwz,Hgwz,Hmz,Hlg⟩:=zh12 hmr hxj hxm hvr hf hxi hwz hwz' hmwz hgwz hmz hlg;have Hli:=zh hli;clear hmr hxj hxm hvr hf hxi hwz hwz' hmwz hgwz hmz hlg hli hzwz
   go_wp2_with (first|((with_reducible refine d9 84 (.tmp 9) ?_);refine ⟨g,off+j*6,rfl,[.int .i64 x.kind,.int .i64 x.tenant,.int .i64 x.frm,.string x.who,.string x.sc,.slice x.a x.cs.length x.c],Hf.out,by kernel_rfl,by kernel_rfl, ?_⟩)|((with_reducible refine d8 84 (.tmp 4) (.tmp 10) ?_);refine ⟨rfl,[.int .i64 x.kind,.int .i64 x.tenant,.int .i64 x.frm,.string x.who,.string x.sc,.slice x.a x.cs.length x.c],rfl,rfl,by kernel_rfl,rfl, ?_⟩;rw [Hwz'.out])|fail)
   go_ret;exact ⟨false,rfl,fun h=>(by cases h),Hmz.out⟩
  obtain rfl:j=l.length:=by omega
  rw [List.take_length] at hli;obtain ⟨Hli,Hmr⟩:=zh2 hli hmr;clear hli hmr;by_cases h30:l.length<=30
  ·have h1:(l.length:Int)<=30:=by omega
   go_wp2
   go_ret;exact ⟨true,rfl,fun _=>⟨h30,Hli.out⟩,Hmr.out⟩
  have h1:¬(l.length:Int)<=30:=by omega
  go_wp2
  go_ret;exact ⟨false,by simp,fun h=>(by cases h),Hmr.out⟩
theorem a39 {w:World} {B sz n:Nat} {e:TypeId} {v:Value} {xs:List Value} (h:w.ownsRow B e sz v n xs):i7 w e sz v n xs/\∀k,v.ownBlock=some k->B<=k:=by
 obtain ⟨h1,h2⟩:=h;rcases h2 with ⟨rfl,h⟩|⟨g,cap,cur,rfl,h2,h3,h4,h5,h6,h7⟩
 ·exact ⟨⟨h1,.inl ⟨rfl,h⟩⟩,fun k hk=>by cases hk⟩
 exact ⟨⟨h1,.inr ⟨g,0,cap,cur,rfl,h3,h4,h5,by omega,by simpa using h7⟩⟩,fun k hk=>by cases hk;exact h2⟩
theorem a4a {w w':World} (h:Below w.heap.size w w'):Mod (fun _=>False) w w':=⟨h.os,h.tape,h.output,h.size,fun k hk _=>h.block k hk⟩
def a89 (w:World) (l:List Int) (e:Ending) (w':World):Prop:=
 ∃v',e= .returned v'/\i7 w' 3 1 v' l.length (l.map (Value.int .i64))/\(∀k,v'.ownBlock=some k->w.heap.size<=k)/\Mod (fun _=>False) w w'
theorem b0Y (w:World) (v:Value) (l:List Int) (h:j0 w 1 v l.length (l.map (Value.int .i64))) (hl:l.length<=1000000):Calls Tryz.prog 47 #[v] w (a89 w l):=by
 obtain ⟨h1,a,cap,rfl,h3,h4,h5⟩:=h
 cases a with
 |none=>
  obtain rfl:l=[]:=List.eq_nil_of_length_eq_zero (h4 rfl);refine (Tryz.slices_Clone_int_nil 0 cap w).mono fun e w' h=> ?_;obtain ⟨rfl,rfl⟩:=h;exact ⟨_,rfl,i7.nil _ _ _,(fun k hk=>by cases hk),Mod.refl _ _⟩
 | some b=>
  by_cases hp:0<l.length
  ·obtain ⟨g,off,rfl,h6⟩:=h5 b rfl hp;refine (Tryz.slices_Clone_int g off l.length cap l w (Nat.le_refl _) (by omega) (fun j hj=> ?_)).mono fun e w' h=> ?_
   ·refine h6 j _ ?_;rw [List.getElem?_map,zz5 hj];simp [List.getD,hj]
   obtain ⟨v',rfl,h1, -,h3⟩:=h;rw [List.take_length] at h1;obtain ⟨h7,h8⟩:=a39 h1;exact ⟨v',rfl,h7,h8,a4a h3⟩
  obtain rfl:l=[]:=List.eq_nil_of_length_eq_zero (by omega);refine (Tryz.slices_Clone_int_zero b cap w).mono fun e w' h=> ?_;obtain ⟨v',rfl,h1, -,h3⟩:=h;obtain ⟨h7,h8⟩:=a39 h1;exact ⟨v',rfl,h7,h8,a4a h3⟩
end
end Go.Proofs.YtaenebdppkjhoaaGreatDoor
