/- Lemmas. -/
import Derived.Test.YtebhabpahfmodaaGreatDoorZh24
set_option maxHeartbeats 40000000
set_option maxRecDepth 20000
namespace Go.Proofs.YtebhabpahfmodaaGreatDoor
open Go.RowKit
structure As where
 kind:Int
 tenant:Int
 frm:Int
 who:ByteArray
 sc:ByteArray
 a:Option Addr
 c:Nat
 cs:List Cnd
def As.cells (x:As):List Value:=[.int .i64 x.kind,.int .i64 x.tenant,.int .i64 x.frm,.string x.who,.string x.sc,.slice x.a x.cs.length x.c]
def b60 (l:List As):List Value:=l.flatMap As.cells
structure b2d (x:As):Prop where
 who:x.who.size<=140737488355328
 sc:x.sc.size<=140737488355328
 len:x.cs.length<=9223372036854775807
 cs:∀c∈x.cs,(c.name.size<=140737488355328/\c.v.text.size<=140737488355328)/\(-9223372036854775808<=c.v.int/\c.v.int<=9223372036854775807)/\c.v.num<2^64
structure a5E (x:As):Prop where
 who:x.who.size<=100
 fil:a5V x.sc x.cs
theorem b2d.fits {x:As} (h:b2d x) (hl:a5E x):x.sc.size<=1000000/\x.cs.length<=1000/\∀c∈x.cs,c.fits:=by
 have h1:=hl.fil.len;have h2:=hl.fil.sum;refine ⟨zo,zo,fun c hc=> ?_⟩;have h3:=a5k hc;have h4:=h.cs c hc;exact ⟨⟨h4.2.1,h4.2.2,zo⟩,zo⟩
structure a8c (w:World) (v:Value) (l:List As):Prop where
 rd:j3 w 6 v l.length (b60 l)
 cs:∀x∈l,j3 w 7 (.slice x.a x.cs.length x.c) x.cs.length (m5 x.cs)
theorem a8c.mod {w w':World} {v:Value} {l:List As} (h:a8c w v l) (hm:Mod (fun _=>False) w w'):a8c w' v l:=⟨h.rd.mod hm zi,fun x hx=>(h.cs x hx).mod hm zi⟩
theorem b2e {w:World} {a:Option Addr} {cap:Nat} {l:List As} (h:a8c w (.slice a l.length cap) l) {j:Nat} {x:As} (hx:l[j]? =some x):∃g off,a=some ⟨g,off,none⟩/\e9 w g (off+j*6) x.cells:=a1F (f:=As.cells) (sz:=6) (fun _=>rfl) h.rd hx
def a6E (w:World) (l:List As) (e:Ending) (w':World):Prop:=∃b,e= .returned (.bool b)/\(b=true->l.length<=30/\∀x∈l,a5E x)/\Mod (fun _=>False) w w'
theorem a8d (w:World) (v:Value) (l:List As) (hv:a8c w v l) (hll:l.length<=9223372036854775807) (hin:∀x∈l,b2d x):
 Calls Tryz.prog 6 #[v] w (a6E w l):=by
 obtain ⟨a,cap,rfl,hcap⟩:∃a c,v= .slice a l.length c/\l.length<=c:=by obtain ⟨-,a,c,h,h2, -⟩:=hv.rd;exact ⟨a,c,h,h2⟩
 have bN:(l.length:Int)<=9223372036854775807:=zo
 have bf:(l.length:Int)<=cap:=zo
 obtain ⟨Hv,nH⟩:=zh2 hv hin;clear hv hin hcap hll
 go_enter Tryz.func6,Tryz.ntmps6
 go_wp2_with fail
 go_loopw [7] (fun i wr=>∃j:Nat,i= .int .i64 j/\j<=l.length/\(∀x∈l.take j,a5E x)/\Mod (fun _=>False) w wr) (fun i _=>l.length - (intOf i).toNat)
 case atStart=>exact ⟨0,rfl,Nat.zero_le _,fun x hx=>(by cases hx),Mod.refl _ _⟩
 case round=>
  obtain ⟨j,rfl,hj,gp,hmr⟩:=hrel;by_cases hlt:j<l.length
  ·have hlt':(j:Int)<l.length:=zo
   obtain ⟨x,hxj⟩:∃x,l[j]? =some x:=⟨_,zz5 hlt⟩;have hxm:=zz8 hxj;have gL:=Hv.out.mod hmr;obtain ⟨g,off,rfl,hf⟩:=b2e gL hxj;have hxi:=nH.out x hxm;obtain ⟨wz,hwz,ai,aj,aJ⟩:=g8 wr (.cells x.cells.toArray 44);have dY:wr.alloc (.cells #[.int .i64 x.kind,.int .i64 x.tenant,.int .i64 x.frm,.string x.who,.string x.sc,.slice x.a x.cs.length x.c] 44)=wz:=hwz;have hmz:=hmr.trans ai zi;have BA:=a2R wz x.sc (.slice x.a x.cs.length x.c) x.cs (((gL.mod ai).cs x hxm)) hxi.len hxi.sc (fun c hc=>(hxi.cs c hc).1);have z3:wz.cell? ⟨wr.heap.size,3,none⟩=some (.string x.who):=d6 aj rfl;have z4:wz.cell? ⟨wr.heap.size,4,none⟩=some (.string x.sc):=d6 aj rfl;have z5:wz.cell? ⟨wr.heap.size,5,none⟩=some (.slice x.a x.cs.length x.c):=d6 aj rfl;by_cases fI:x.who.size<=100
   ·have h1:(x.who.size:Int)<=100:=zo
    have h2:¬(100:Int)<x.who.size:=zo
    obtain ⟨aK,cB,fH,Ic,Hf,PU,bi,ig,bn,aN,bG,NI⟩:=zh12 hmr hxj hxm gL hf hxi hwz dY ai aj hmz BA;have wQ:=zh gp;clear hmr hxj hxm gL hf hxi hwz dY ai aj hmz BA gp aJ
    go_wp2_with (first|((with_reducible refine d8 44 (.tmp 9) ?_);refine ⟨g,off+j*6,rfl,[.int .i64 x.kind,.int .i64 x.tenant,.int .i64 x.frm,.string x.who,.string x.sc,.slice x.a x.cs.length x.c],Hf.out,zk,zk, ?_⟩)|((with_reducible refine d9 44 (.tmp 4) (.tmp 10) ?_);refine ⟨rfl,[.int .i64 x.kind,.int .i64 x.tenant,.int .i64 x.frm,.string x.who,.string x.sc,.slice x.a x.cs.length x.c],rfl,rfl,zk,rfl, ?_⟩;rw [ig.out]))
    refine NI.out.mono ?_;rintro e w2 ⟨b,rfl,hb,hm2⟩;have aG:=bG.out.trans hm2 zi;obtain ⟨aI,Hb⟩:=zh2 aG hb;clear aG hb hm2
    cases b with
    |false=>
     go_wp2
     go_ret;exact ⟨false,rfl,fun h=>(by cases h),aI.out⟩
    | true=>
     have hbl:=Hb.out rfl
     go_wp2_with fail
     go_roundw
     case rel=>
      refine ⟨j+1,by go_num,hlt,fun y hy=> ?_,aI.out⟩;rw [List.take_add_one,cB.out,Option.toList_some] at hy;rcases zz14 hy with hy|hy
      ·exact wQ.out y hy
      rw [List.mem_singleton.1 hy];exact ⟨fI,hbl⟩
     case measure=>simp [intOf];omega
   have h1:(100:Int)<x.who.size:=zo
   obtain ⟨aK,cB,fH,Ic,Hf,PU,bi,ig,bn,aN,bG,NI⟩:=zh12 hmr hxj hxm gL hf hxi hwz dY ai aj hmz BA;have wQ:=zh gp;clear hmr hxj hxm gL hf hxi hwz dY ai aj hmz BA gp aJ
   go_wp2_with (first|((with_reducible refine d8 44 (.tmp 9) ?_);refine ⟨g,off+j*6,rfl,[.int .i64 x.kind,.int .i64 x.tenant,.int .i64 x.frm,.string x.who,.string x.sc,.slice x.a x.cs.length x.c],Hf.out,zk,zk, ?_⟩)|((with_reducible refine d9 44 (.tmp 4) (.tmp 10) ?_);refine ⟨rfl,[.int .i64 x.kind,.int .i64 x.tenant,.int .i64 x.frm,.string x.who,.string x.sc,.slice x.a x.cs.length x.c],rfl,rfl,zk,rfl, ?_⟩;rw [ig.out]))
   go_ret;exact ⟨false,rfl,fun h=>(by cases h),bG.out⟩
  obtain rfl:j=l.length:=zo
  rw [List.take_length] at gp;obtain ⟨wQ,aK⟩:=zh2 gp hmr;clear gp hmr;by_cases h30:l.length<=30
  ·have h1:(l.length:Int)<=30:=zo
   go_wp2
   go_ret;exact ⟨true,rfl,fun _=>⟨h30,wQ.out⟩,aK.out⟩
  have h1:¬(l.length:Int)<=30:=zo
  go_wp2
  go_ret;exact ⟨false,by simp,fun h=>(by cases h),aK.out⟩
theorem a4Z {w:World} {B sz n:Nat} {e:TypeId} {v:Value} {xs:List Value} (h:w.ownsRow B e sz v n xs):j2 w e sz v n xs/\∀k,v.ownBlock=some k->B<=k:=by
 obtain ⟨h1,h2⟩:=h;rcases h2 with ⟨rfl,h⟩|⟨g,cap,cur,rfl,h2,h3,h4,h5,h6,h7⟩
 ·exact ⟨⟨h1,.inl ⟨rfl,h⟩⟩,fun k hk=>by cases hk⟩
 exact ⟨⟨h1,.inr ⟨g,0,cap,cur,rfl,h3,h4,h5,zo,by simpa using h7⟩⟩,fun k hk=>by cases hk;exact h2⟩
theorem a40 {w w':World} (h:Below w.heap.size w w'):Mod (fun _=>False) w w':=⟨h.os,h.tape,h.output,h.size,fun k hk _=>h.block k hk⟩
def b0k (w:World) (l:List Int) (e:Ending) (w':World):Prop:=
 ∃v',e= .returned v'/\j2 w' 3 1 v' l.length (l.map (Value.int .i64))/\(∀k,v'.ownBlock=some k->w.heap.size<=k)/\Mod (fun _=>False) w w'
theorem b2f (w:World) (v:Value) (l:List Int) (h:j3 w 1 v l.length (l.map (Value.int .i64))) (hl:l.length<=1000000):Calls Tryz.prog 52 #[v] w (b0k w l):=by
 obtain ⟨h1,a,cap,rfl,h3,h4,h5⟩:=h
 cases a with
 |none=>
  obtain rfl:l=[]:=List.eq_nil_of_length_eq_zero (h4 rfl);refine (Tryz.slices_Clone_int_nil 0 cap w).mono fun e w' h=> ?_;obtain ⟨rfl,rfl⟩:=h;exact ⟨_,rfl,j2.nil _ _ _,(fun k hk=>by cases hk),Mod.refl _ _⟩
 | some b=>
  by_cases hp:0<l.length
  ·obtain ⟨g,off,rfl,h6⟩:=h5 b rfl hp;refine (Tryz.slices_Clone_int g off l.length cap l w (Nat.le_refl _) zo (fun j hj=> ?_)).mono fun e w' h=> ?_
   ·refine h6 j _ ?_;rw [List.getElem?_map,zz5 hj];simp [List.getD,hj]
   obtain ⟨v',rfl,h1, -,h3⟩:=h;rw [List.take_length] at h1;obtain ⟨h7,h8⟩:=a4Z h1;exact ⟨v',rfl,h7,h8,a40 h3⟩
  obtain rfl:l=[]:=List.eq_nil_of_length_eq_zero zo;refine (Tryz.slices_Clone_int_zero b cap w).mono fun e w' h=> ?_;obtain ⟨v',rfl,h1, -,h3⟩:=h;obtain ⟨h7,h8⟩:=a4Z h1;exact ⟨v',rfl,h7,h8,a40 h3⟩
end Go.Proofs.YtebhabpahfmodaaGreatDoor
