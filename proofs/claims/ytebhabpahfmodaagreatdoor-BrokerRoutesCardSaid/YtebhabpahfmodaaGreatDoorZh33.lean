/- Lemmas. -/
import Derived.Test.YtebhabpahfmodaaGreatDoorZh31
set_option maxHeartbeats 40000000
set_option maxRecDepth 20000
namespace Go.Proofs.YtebhabpahfmodaaGreatDoor
section
open Go.RowKit
def CrF (c j t:Nat):Prop:=t=c\/t=c+1+j\/t=c+5+j\/t=c+9+j\/t=c+13+j
structure a04 (w0 wr:World) (owr:Ow) (c j:Nat) (x8 x9 x10 x11:Option Nat) (y:World) (oy:Ow):Prop where
 mv:Mov (CrF c j) wr owr y oy
 o:Owd w0 y oy
 f8:∀b,x8=some b->I3 y oy (c+1+j) b [] 0
 f9:∀b,x9=some b->a03 y oy (c+5+j) b [] 0
 f10:∀b,x10=some b->K5 y oy (c+9+j) b []
 f11:∀b,x11=some b->M8 y oy (c+13+j) b (fun _=>[]) 0
section
variable {w0 wr y y':World} {owr oy oy':Ow} {c j:Nat} {x8 x9 x10 x11:Option Nat}
theorem a04.keep {t0:Nat} (h:a04 w0 wr owr c j x8 x9 x10 x11 y oy) (s:Mov (fun t=>t=t0) y oy y' oy') (h2:2<=c) (hj:j<4) (ht:CrF c j t0):
 Mov (CrF c j) wr owr y' oy'/\Owd w0 y' oy'/\(t0≠c+1+j->∀b,x8=some b->I3 y' oy' (c+1+j) b [] 0)/\(t0≠c+5+j->∀b,x9=some b->a03 y' oy' (c+5+j) b [] 0)/\
  (t0≠c+9+j->∀b,x10=some b->K5 y' oy' (c+9+j) b [])/\(t0≠c+13+j->∀b,x11=some b->M8 y' oy' (c+13+j) b (fun _=>[]) 0):=by
 have hn0:¬(0=t0):=by unfold CrF at ht;omega
 exact ⟨h.mv.trans (s.mono fun t e=>e▸ht),s.owd h.o hn0,fun hn b hb=>(h.f8 b hb).mov h.o s hn0 (fun e=>hn e.symm) zo,fun hn b hb=>(h.f9 b hb).mov h.o s hn0 (fun e=>hn e.symm) zo,
  fun hn b hb=>(h.f10 b hb).mov s hn0 (fun e=>hn e.symm),fun hn b hb=>(h.f11 b hb).mov s hn0 (fun e=>hn e.symm)⟩
theorem a04.s8 {e:Ending} (h:a04 w0 wr owr c j none x9 x10 x11 y oy) (h2:2<=c) (hj:j<4) (hp:a6Z y e y'):∃b oy',e= .returned (ptr b)/\a04 w0 wr owr c j (some b) x9 x10 x11 y' oy'/\Mov (fun t=>t=c+1+j) y oy y' oy':=by
 obtain ⟨b,own,rfl,hT,ho,hm⟩:=hp;have hmv:Mov (fun t=>t=c+1+j) y oy y' (s6 y y' oy own (fun _=>False) (c+1+j)):=Mov.tag rfl (hm.mono (fun _ _ h=>h.elim));obtain ⟨a1,a2,a3,a4,a5,a6⟩:=h.keep hmv h2 hj (.inr (.inl rfl));refine ⟨b,_,rfl,⟨a1,a2,fun b' hb=> ?_,a4 zo,a5 zo,a6 zo⟩,hmv⟩;cases hb
 exact I3.new h.o zo hT (fun k hk=> .inr (ho k hk)) (fun k hk=>hk.elim) (hm.mono (fun _ _ h=>h.elim))
theorem a04.s9 {e:Ending} (h:a04 w0 wr owr c j x8 none x10 x11 y oy) (h2:2<=c) (hj:j<4) (hp:a6D y e y'):∃b oy',e= .returned (ptr b)/\a04 w0 wr owr c j x8 (some b) x10 x11 y' oy'/\Mov (fun t=>t=c+5+j) y oy y' oy':=by
 obtain ⟨b,own,rfl,hT,ho,hm⟩:=hp;have hmv:Mov (fun t=>t=c+5+j) y oy y' (s6 y y' oy own (fun _=>False) (c+5+j)):=Mov.tag rfl (hm.mono (fun _ _ h=>h.elim));obtain ⟨a1,a2,a3,a4,a5,a6⟩:=h.keep hmv h2 hj (.inr (.inr (.inl rfl)));refine ⟨b,_,rfl,⟨a1,a2,a3 zo,fun b' hb=> ?_,a5 zo,a6 zo⟩,hmv⟩;cases hb
 exact a03.new h.o zo hT (fun k hk=> .inr (ho k hk).1) (fun k _ h=>h) (fun k hk=>hk.elim) (hm.mono (fun _ _ h=>h.elim))
theorem a04.s10 (h:a04 w0 wr owr c j x8 x9 none x11 y oy) (h2:2<=c) (hj:j<4):∃oy',a04 w0 wr owr c j x8 x9 (some y.heap.size) x11 (y.alloc (.map #[] 0)) oy'/\Mov (fun t=>t=c+9+j) y oy (y.alloc (.map #[] 0)) oy':=by
 have hmv:Mov (fun t=>t=c+9+j) y oy (y.alloc (.map #[] 0)) (r9 oy y.heap.size (c+9+j)):=Mov.alloc h.o _ _ (.inr (.inr rfl));obtain ⟨a1,a2,a3,a4,a5,a6⟩:=h.keep hmv h2 hj (.inr (.inr (.inr (.inl rfl))));refine ⟨_,⟨a1,a2,a3 zo,a4 zo,fun b' hb=> ?_,a6 zo⟩,hmv⟩;cases hb
 exact ⟨E3 _ _ _,List.nodup_nil,_,p6.made y 3,fun id=>trivial⟩
theorem a04.s11 (h:a04 w0 wr owr c j x8 x9 x10 none y oy) (h2:2<=c) (hj:j<4):∃oy',a04 w0 wr owr c j x8 x9 x10 (some y.heap.size) (y.alloc (.map #[] 0)) oy'/\Mov (fun t=>t=c+13+j) y oy (y.alloc (.map #[] 0)) oy':=by
 have hmv:Mov (fun t=>t=c+13+j) y oy (y.alloc (.map #[] 0)) (r9 oy y.heap.size (c+13+j)):=Mov.alloc h.o _ _ (.inr (.inr rfl));obtain ⟨a1,a2,a3,a4,a5,a6⟩:=h.keep hmv h2 hj (.inr (.inr (.inr (.inr rfl))));refine ⟨_,⟨a1,a2,a3 zo,a4 zo,a5 zo,fun b' hb=> ?_⟩,hmv⟩;cases hb
 exact ⟨E3 _ _ _,⟨0,_,p6.made y 3,Nat.le_refl _,fun id=>rfl⟩,fun id=>List.Pairwise.nil⟩
end
def ov (u:Value) (f:Nat->Value):Option Nat->Value
 |some b=>f b
 |none=>u
def crN (x8 x9 x10 x11:Option Nat) (d:Nat):Nat:=(if x8.isSome then 1 else 0)+(if x9.isSome then 1 else 0)+(if x10.isSome then 1 else 0)+(if x11.isSome then 1 else 0)+d
def crL (x8 x9 x10 x11:Option Nat) (d:Nat):Array Bool:=#[true,true,x8.isSome,x9.isSome,x10.isSome,x11.isSome,Nat.ble 1 d,true,true,Nat.ble 2 d,Nat.ble 3 d]
def O5 (b:Nat):Value:= .map (some b)
def crA (g j:Nat) (u8 u9 u10 u11 u12 u15 u16:Value) (x8 x9 x10 x11:Option Nat) (d:Nat):Act:=
 ⟨#[.pointer (some ⟨g,0,none⟩),undef,.int .i64 j,.int .i64 j,.bool true,.int .i64 j,.pointer (some ⟨g,0,none⟩),.int .i64 j,ov u8 ptr x8,ov u9 ptr x9,ov u10 O5 x10,ov u11 O5 x11,
  if Nat.ble 1 d then .agg #[ov u8 ptr x8,ov u9 ptr x9,ov u10 O5 x10,ov u11 O5 x11] else u12,.pointer (some ⟨g,0,none⟩),.pointer (some ⟨g,3,none⟩),if Nat.ble 2 d then .pointer (some ⟨g,3+4*j,none⟩) else u15,u16],[]⟩
def CrI (w0 wr:World) (owr:Ow) (c g j:Nat) (row:List Value) (u8 u9 u10 u11 u12 u15 u16:Value) (n:Nat) (listed:Array Bool) (A:Act) (y:World):Prop:=
 ∃(x8 x9 x10 x11:Option Nat) (d:Nat) (oy:Ow),crN x8 x9 x10 x11 d+n=7/\(x9.isSome=true->x8.isSome=true)/\d<=3/\(0<d->x9.isSome=true/\x10.isSome=true/\x11.isSome=true)/\listed=crL x8 x9 x10 x11 d/\A=crA g j u8 u9 u10 u11 u12 u15 u16 x8 x9 x10 x11 d/\
  a04 w0 wr owr c j x8 x9 x10 x11 y oy/\y.heap[g]? =some (.cells (if Nat.ble 3 d then row.take (3+4*j)++[ov u8 ptr x8,ov u9 ptr x9,ov u10 O5 x10,ov u11 O5 x11]++row.drop (3+4*j+4) else row).toArray 100 (0,0))/\oy g=c
end
section
open Go.RowKit
def b2H (w0 w:World) (ow:Ow) (c g:Nat) (id:Int) (v nv:Value) (L:List Lr) (nr:List Value) (i:Value) (wr:World):Prop:=
 ∃(j:Nat) (owr:Ow) (R:List Value) (tb ib sb mb:Nat->Nat),i= .int .i64 j/\j<=4/\R.length=16/\Owd w0 wr owr/\Mov (fun t=>c<=t/\t<c+18) w ow wr owr/\wr.heap[g]? =some (.cells (v:: .int .i64 id::nv::R).toArray 100 (0,0))/\owr g=c/\
  O4 wr owr (c+17) g v L/\o3 wr owr 1 nv nr.length nr/\∀t,t<j->R[4*t]? =some (ptr (tb t))/\R[4*t+1]? =some (ptr (ib t))/\R[4*t+2]? =some (O5 (sb t))/\R[4*t+3]? =some (O5 (mb t))/\a3d wr owr c t (tb t) (ib t) (sb t) (mb t) RS.zero
def b0J (w0 w:World) (ow:Ow) (c g:Nat) (id:Int) (near:List Int) (P:List PRu) (e:Ending) (w':World):Prop:=
 e= .returned (.tuple #[])/\∃ow',Owd w0 w' ow'/\Bro w' ow' c g id near ⟨P,fun _=>RS.zero⟩/\Mov (fun t=>c<=t/\t<c+18) w ow w' ow'
theorem b5Z {R:List Value} {tb ib sb mb:Nat->Nat} (hR:R.length=16) (h:∀t,t<4->R[4*t]? =some (ptr (tb t))/\R[4*t+1]? =some (ptr (ib t))/\R[4*t+2]? =some (O5 (sb t))/\R[4*t+3]? =some (O5 (mb t))) (v nv:Value) (id:Int):
 .int .i64 id::nv::R=BAd.rest ⟨v,nv,tb,ib,sb,mb⟩ id:=by
 have h0:=h 0 zo;have h1:=h 1 zo;have h2:=h 2 zo;have h3:=h 3 zo;unfold BAd.rest;refine congrArg _ (congrArg _ ?_);apply List.ext_getElem?;intro i
 match i with
 |0=>exact h0.1
 |1=>exact h0.2.1
 |2=>exact h0.2.2.1
 |3=>exact h0.2.2.2
 |4=>exact h1.1
 |5=>exact h1.2.1
 |6=>exact h1.2.2.1
 |7=>exact h1.2.2.2
 |8=>exact h2.1
 |9=>exact h2.2.1
 |10=>exact h2.2.2.1
 |11=>exact h2.2.2.2
 |12=>exact h3.1
 |13=>exact h3.2.1
 |14=>exact h3.2.2.1
 |15=>exact h3.2.2.2
 |i+16=>rw [List.getElem?_eq_none zo,List.getElem?_eq_none (by simp)]
theorem b50 {v a nv:Value} {R:List Value} {j:Nat} (hR:R.length=16) (hj:j<4) (p q r s:Value):
 ∃R',(v::a::nv::R).take (3+4*j)++[p,q,r,s]++(v::a::nv::R).drop (3+4*j+4)=v::a::nv::R'/\R'.length=16/\(∀i,i<4*j->R'[i]? =R[i]?)/\R'[4*j]? =some p/\R'[4*j+1]? =some q/\R'[4*j+2]? =some r/\R'[4*j+3]? =some s:=by
 refine ⟨R.take (4*j)++[p,q,r,s]++R.drop (4*j+4), ?_,by simp;omega,fun i hi=> ?_, ?_, ?_, ?_, ?_⟩
 ·rw [show 3+4*j=(4*j)+3 by omega,show 4*j+3+4=(4*j+4)+3 by omega];rfl
 ·rw [zz12,List.getElem?_append_left (by simp;omega),List.getElem?_take,if_pos hi]
 all_goals
  rw [zz12,List.getElem?_append_right (by simp;omega)];have e:(R.take (4*j)).length=4*j:=by simp;omega
  rw [e]
 ·rw [Nat.sub_self];rfl
 ·rw [show 4*j+1 - 4*j=1 by omega];rfl
 ·rw [show 4*j+2 - 4*j=2 by omega];rfl
 rw [show 4*j+3 - 4*j=3 by omega];rfl
theorem b2I (w0 w:World) (ow:Ow) (c g:Nat) (id:Int) (near:List Int) (hw:Owd w0 w ow) (h2:2<=c) (v nv:Value) (L:List Lr) (R0:List Value) (hR0:R0.length=16)
 (hrow:w.heap[g]? =some (.cells (v:: .int .i64 id::nv::R0).toArray 100 (0,0))) (htag:ow g=c) (aV:O4 w ow (c+17) g v L) (jw:o3 w ow 1 nv near.length (near.map (Value.int .i64))):
 Calls Tryz.prog 53 #[.pointer (some ⟨g,0,none⟩)] w (b0J w0 w ow c g id near (L.map Prod.fst)):=by
 have hst:b2H w0 w ow c g id v nv L (near.map (Value.int .i64)) (.int .i64 0) w:=⟨0,ow,R0,fun _=>0,fun _=>0,fun _=>0,fun _=>0,rfl,zo,hR0,hw,Mov.refl hw,hrow,htag,aV,by rw [zz10];exact jw,fun t ht=>absurd ht zo⟩;have eD:=zh hst;clear hst hrow aV jw htag hw
 go_enter Tryz.func53,Tryz.ntmps53
 go_wp2_with fail
 go_loopw [3] (fun i wr=>b2H w0 w ow c g id v nv L (near.map (Value.int .i64)) i wr) (fun i _=>4 - (intOf i).toNat)
 case atStart=>exact eD.out
 case round=>
  obtain ⟨j,owr,R,tb,ib,sb,mb,rfl,hj,hR,hor,hmr,hrr,htr,hlr,hnr,hall⟩:=hrel;by_cases hlt:j<4
  ·have hlt':(j:Int)<4:=zo
   have hj0:(0:Int)<=j:=zo
   have hod:Owd w0 wr.drew owr:=⟨hor.hi,hor.lo,⟨hor.laid.at0,hor.laid.n64,⟨hor.laid.below.os,hor.laid.below.tape,hor.laid.below.output,hor.laid.below.size,hor.laid.below.block⟩⟩⟩;have hs0:a04 w0 wr.drew owr c j none none none none wr.drew owr:=⟨Mov.refl hod,hod,fun b hb=>(by cases hb),fun b hb=>(by cases hb),fun b hb=>(by cases hb),fun b hb=>(by cases hb)⟩;obtain ⟨row,hrw⟩:∃row,(v:: .int .i64 id::nv::R:List Value)=row:=⟨_,rfl⟩;have hrl:row.length=19:=by rw [<-hrw];simp [hR]
   rw [hrw] at hrr;obtain ⟨vz,aK,FE,Jt,aM,Hod,Px,Hrw,Ib,Hrl⟩:=zh10 hor hmr hlr hnr hall hod hs0 hrw hrr hrl;clear hor hmr hlr hnr hall hod hs0 hrw hrr hrl
   go_wp2_with fail
   refine a4d [0,1,7,8] (fun _:World=>True) zk zk (fun _ _ d _ _ h=>(by cases d<;>exact h)) ?_;have hS:(fun _:World=>True) wr.drew:=trivial;refine a9G (i:=0) zk rfl ?_ (fun _=>hS) ?_ (fun w0 h0=> ?_) (fun K hK=> ?_)
   ·exact zg
   rotate_left
   ·(try simp only [zz1,zz2,zz3])
    first
     |(obtain ⟨⟩:=h0 rfl;clear h0;go_simp;with_reducible rfl)
     |(clear h0;go_simp;with_reducible rfl)
   (try simp only [zz1,zz2,zz3]);go_simp;refine hK _ ?_;clear hK K;refine a9G (i:=1) zk rfl ?_ (fun _=>hS) ?_ (fun w0 h0=> ?_) (fun K hK=> ?_)
   ·exact zg
   rotate_left
   ·(try simp only [zz1,zz2,zz3])
    first
     |(obtain ⟨⟩:=h0 rfl;clear h0;go_simp;with_reducible rfl)
     |(clear h0;go_simp;with_reducible rfl)
   (try simp only [zz1,zz2,zz3]);go_simp;refine hK _ ?_;clear hK K;refine a9G (i:=7) zk rfl ?_ (fun _=>hS) ?_ (fun w0 h0=> ?_) (fun K hK=> ?_)
   ·exact zg
   rotate_left
   ·(try simp only [zz1,zz2,zz3])
    first
     |(obtain ⟨⟩:=h0 rfl;clear h0;go_simp;with_reducible rfl)
     |(clear h0;go_simp;with_reducible rfl)
   (try simp only [zz1,zz2,zz3]);go_simp;refine hK _ ?_;clear hK K;refine a9G (i:=8) zk rfl ?_ (fun _=>hS) ?_ (fun w0 h0=> ?_) (fun K hK=> ?_)
   ·exact zg
   rotate_left
   ·(try simp only [zz1,zz2,zz3])
    first
     |(obtain ⟨⟩:=h0 rfl;clear h0;go_simp;with_reducible rfl)
     |(clear h0;go_simp;with_reducible rfl)
   (try simp only [zz1,zz2,zz3]);go_simp;refine hK _ ?_;clear hK K;refine b2B (CrI w0 wr.drew owr c g j row u8 u9 u10 u11 u12 u15 u16) (fun listed A y hI=> ?_) (fun n listed A y hI=> ?_) (n:=7) ⟨none,none,none,none,0,owr,zd,(fun h=>by cases h),zo,(fun h=>absurd h zo),rfl,rfl,Px.out,Ib.out,htr⟩
   ·obtain ⟨x8,x9,x10,x11,d,oy,hn,FH,hd3,hd0,rfl,rfl,hst,hrow,htag⟩:=hI;obtain rfl:d=3:=by unfold crN at hn;split at hn<;>split at hn<;>split at hn<;>split at hn<;>omega
    obtain ⟨k9,k10,k11⟩:=hd0 zo;have k8:=FH k9;obtain ⟨b8,rfl⟩:=Option.isSome_iff_exists.1 k8;obtain ⟨b9,rfl⟩:=Option.isSome_iff_exists.1 k9;obtain ⟨b10,rfl⟩:=Option.isSome_iff_exists.1 k10;obtain ⟨b11,rfl⟩:=Option.isSome_iff_exists.1 k11;refine ⟨zk, ?_⟩;have hrow':y.heap[g]? =some (.cells (row.take (3+4*j)++[ptr b8,ptr b9,O5 b10,O5 b11]++row.drop (3+4*j+4)).toArray 100 (0,0)):=hrow;rw [<-Hrw.out] at hrow';obtain ⟨R',xD,hR2,rA,r0,r1,r2,r3⟩:=b50 (v:=v) (a:= .int .i64 id) (nv:=nv) (j:=j) hR hlt (ptr b8) (ptr b9) (O5 b10) (O5 b11);rw [xD] at hrow';have hmv:Mov (CrF c j) wr owr y oy:=⟨((Mod.refl _ wr).drew).trans hst.mv.md zi,hst.mv.old,hst.mv.new,hst.mv.top⟩;have hcf:∀t,CrF c j t->c<=t/\t<c+18:=fun t ht=>by unfold CrF at ht;omega
    have hn0:¬CrF c j 0:=by unfold CrF;omega
    have hnx:b2H w0 w ow c g id v nv L (near.map (Value.int .i64)) (.int .i64 ((j+1:Nat):Int)) y:=by
     refine ⟨j+1,oy,R',upd tb j b8,upd ib j b9,upd sb j b10,upd mb j b11,rfl,zo,hR2,hst.o,aK.out.trans (hmv.mono hcf),hrow',htag, ?_,Jt.out.mov hmv hn0 zo,fun t ht=> ?_⟩
     ·exact FE.out.mov hmv hn0 (by unfold CrF;omega)
     by_cases e:t=j
     ·subst e;rw [a1k,a1k,a1k,a1k];exact ⟨r0,r1,r2,r3,hst.f8 b8 rfl,hst.f9 b9 rfl,hst.f10 b10 rfl,hst.f11 b11 rfl⟩
     rw [a2q _ _ e,a2q _ _ e,a2q _ _ e,a2q _ _ e];obtain ⟨q0,q1,q2,q3,q4⟩:=aM.out t zo;refine ⟨by rw [rA _ zo];exact q0,by rw [rA _ zo];exact q1,by rw [rA _ zo];exact q2,by rw [rA _ zo];exact q3,q4.mov vz.out hmv hn0 ?_ h2⟩;unfold CrF;omega
    clear hst hrow hrow' htag hmv;have dn:=zh hnx;clear hnx;simp only [crA,ov]
    go_wp2_with fail
    go_roundw
    case rel=>exact dn.out
    case measure=>simp [intOf];omega
   obtain ⟨x8,x9,x10,x11,d,oy,hn,FH,hd3,hd0,rfl,rfl,hst,hrow,htag⟩:=hI;have hgl:=(zz7 hrow).1;rcases x8 with _|b8<;>rcases x9 with _|b9<;>rcases x10 with _|b10<;>rcases x11 with _|b11
   ·obtain rfl:d=0:=by
     by_cases h:0<d
     ·obtain ⟨k9,k10,k11⟩:=hd0 h
      first|exact absurd k9 zd|exact absurd k10 zd|exact absurd k11 zd
     omega
    have hn1:n+1=7:=by simp [crN] at hn;omega
    refine ⟨[2,4,5],zk,zd,List.forall_mem_cons.2 ⟨?_,List.forall_mem_cons.2 ⟨?_,List.forall_mem_cons.2 ⟨?_,fun _ h=>by cases h⟩⟩⟩⟩
    ·refine j0 rfl ?_ (fun K hK=> ?_)
     ·exact zg
     (try simp only [zz1,zz2,zz3]);simp only [crA,ov];go_simp;refine (a1N y).mono ?_;rintro e y' hp;obtain ⟨b,oy',rfl,hst',aL⟩:=hst.s8 h2 hlt hp;refine hK _ _ (fun _ _=>trivial) ⟨(some b),none,none,none,0,oy',by simp [crN];omega,(fun h=>by first|rfl|cases h),zo,(fun h=>absurd h zo),rfl,rfl,hst',aL.md.heap hrow (fun e=> ?_),by rw [aL.old g hgl];exact htag⟩;have e':oy g=c+1+j:=e;omega
    ·refine j0 rfl ?_ (fun K hK=> ?_)
     ·exact zg
     (try simp only [zz1,zz2,zz3]);simp only [crA,ov];go_simp;obtain ⟨oy',hst',aL⟩:=hst.s10 h2 hlt;refine hK _ _ (fun _ _=>trivial) ⟨none,none,(some y.heap.size),none,0,oy',by simp [crN];omega,(fun h=>by first|rfl|cases h),zo,(fun h=>absurd h zo),rfl,rfl,hst',aL.md.heap hrow (fun e=> ?_),by rw [aL.old g hgl];exact htag⟩;have e':oy g=c+9+j:=e;omega
    refine j0 rfl ?_ (fun K hK=> ?_)
    ·exact zg
    (try simp only [zz1,zz2,zz3]);simp only [crA,ov];go_simp;obtain ⟨oy',hst',aL⟩:=hst.s11 h2 hlt;refine hK _ _ (fun _ _=>trivial) ⟨none,none,none,(some y.heap.size),0,oy',by simp [crN];omega,(fun h=>by first|rfl|cases h),zo,(fun h=>absurd h zo),rfl,rfl,hst',aL.md.heap hrow (fun e=> ?_),by rw [aL.old g hgl];exact htag⟩;have e':oy g=c+13+j:=e;omega
   ·obtain rfl:d=0:=by
     by_cases h:0<d
     ·obtain ⟨k9,k10,k11⟩:=hd0 h
      first|exact absurd k9 zd|exact absurd k10 zd|exact absurd k11 zd
     omega
    have hn1:n+1=6:=by simp [crN] at hn;omega
    refine ⟨[2,4],zk,zd,List.forall_mem_cons.2 ⟨?_,List.forall_mem_cons.2 ⟨?_,fun _ h=>by cases h⟩⟩⟩
    ·refine j0 rfl ?_ (fun K hK=> ?_)
     ·exact zg
     (try simp only [zz1,zz2,zz3]);simp only [crA,ov];go_simp;refine (a1N y).mono ?_;rintro e y' hp;obtain ⟨b,oy',rfl,hst',aL⟩:=hst.s8 h2 hlt hp;refine hK _ _ (fun _ _=>trivial) ⟨(some b),none,none,(some b11),0,oy',by simp [crN];omega,(fun h=>by first|rfl|cases h),zo,(fun h=>absurd h zo),rfl,rfl,hst',aL.md.heap hrow (fun e=> ?_),by rw [aL.old g hgl];exact htag⟩;have e':oy g=c+1+j:=e;omega
    refine j0 rfl ?_ (fun K hK=> ?_)
    ·exact zg
    (try simp only [zz1,zz2,zz3]);simp only [crA,ov];go_simp;obtain ⟨oy',hst',aL⟩:=hst.s10 h2 hlt;refine hK _ _ (fun _ _=>trivial) ⟨none,none,(some y.heap.size),(some b11),0,oy',by simp [crN];omega,(fun h=>by first|rfl|cases h),zo,(fun h=>absurd h zo),rfl,rfl,hst',aL.md.heap hrow (fun e=> ?_),by rw [aL.old g hgl];exact htag⟩;have e':oy g=c+9+j:=e;omega
   ·obtain rfl:d=0:=by
     by_cases h:0<d
     ·obtain ⟨k9,k10,k11⟩:=hd0 h
      first|exact absurd k9 zd|exact absurd k10 zd|exact absurd k11 zd
     omega
    have hn1:n+1=6:=by simp [crN] at hn;omega
    refine ⟨[2,5],zk,zd,List.forall_mem_cons.2 ⟨?_,List.forall_mem_cons.2 ⟨?_,fun _ h=>by cases h⟩⟩⟩
    ·refine j0 rfl ?_ (fun K hK=> ?_)
     ·exact zg
     (try simp only [zz1,zz2,zz3]);simp only [crA,ov];go_simp;refine (a1N y).mono ?_;rintro e y' hp;obtain ⟨b,oy',rfl,hst',aL⟩:=hst.s8 h2 hlt hp;refine hK _ _ (fun _ _=>trivial) ⟨(some b),none,(some b10),none,0,oy',by simp [crN];omega,(fun h=>by first|rfl|cases h),zo,(fun h=>absurd h zo),rfl,rfl,hst',aL.md.heap hrow (fun e=> ?_),by rw [aL.old g hgl];exact htag⟩;have e':oy g=c+1+j:=e;omega
    refine j0 rfl ?_ (fun K hK=> ?_)
    ·exact zg
    (try simp only [zz1,zz2,zz3]);simp only [crA,ov];go_simp;obtain ⟨oy',hst',aL⟩:=hst.s11 h2 hlt;refine hK _ _ (fun _ _=>trivial) ⟨none,none,(some b10),(some y.heap.size),0,oy',by simp [crN];omega,(fun h=>by first|rfl|cases h),zo,(fun h=>absurd h zo),rfl,rfl,hst',aL.md.heap hrow (fun e=> ?_),by rw [aL.old g hgl];exact htag⟩;have e':oy g=c+13+j:=e;omega
   ·obtain rfl:d=0:=by
     by_cases h:0<d
     ·obtain ⟨k9,k10,k11⟩:=hd0 h
      first|exact absurd k9 zd|exact absurd k10 zd|exact absurd k11 zd
     omega
    have hn1:n+1=5:=by simp [crN] at hn;omega
    refine ⟨[2],zk,zd,List.forall_mem_cons.2 ⟨?_,fun _ h=>by cases h⟩⟩;refine j0 rfl ?_ (fun K hK=> ?_)
    ·exact zg
    (try simp only [zz1,zz2,zz3]);simp only [crA,ov];go_simp;refine (a1N y).mono ?_;rintro e y' hp;obtain ⟨b,oy',rfl,hst',aL⟩:=hst.s8 h2 hlt hp;refine hK _ _ (fun _ _=>trivial) ⟨(some b),none,(some b10),(some b11),0,oy',by simp [crN];omega,(fun h=>by first|rfl|cases h),zo,(fun h=>absurd h zo),rfl,rfl,hst',aL.md.heap hrow (fun e=> ?_),by rw [aL.old g hgl];exact htag⟩;have e':oy g=c+1+j:=e;omega
   ·exact absurd (FH rfl) zd
   ·exact absurd (FH rfl) zd
   ·exact absurd (FH rfl) zd
   ·exact absurd (FH rfl) zd
   ·obtain rfl:d=0:=by
     by_cases h:0<d
     ·obtain ⟨k9,k10,k11⟩:=hd0 h
      first|exact absurd k9 zd|exact absurd k10 zd|exact absurd k11 zd
     omega
    have hn1:n+1=6:=by simp [crN] at hn;omega
    refine ⟨[3,4,5],zk,zd,List.forall_mem_cons.2 ⟨?_,List.forall_mem_cons.2 ⟨?_,List.forall_mem_cons.2 ⟨?_,fun _ h=>by cases h⟩⟩⟩⟩
    ·refine j0 rfl ?_ (fun K hK=> ?_)
     ·exact zg
     (try simp only [zz1,zz2,zz3]);simp only [crA,ov];go_simp;refine (a1E y).mono ?_;rintro e y' hp;obtain ⟨b,oy',rfl,hst',aL⟩:=hst.s9 h2 hlt hp;refine hK _ _ (fun _ _=>trivial) ⟨(some b8),(some b),none,none,0,oy',by simp [crN];omega,(fun h=>by first|rfl|cases h),zo,(fun h=>absurd h zo),rfl,rfl,hst',aL.md.heap hrow (fun e=> ?_),by rw [aL.old g hgl];exact htag⟩;have e':oy g=c+5+j:=e;omega
    ·refine j0 rfl ?_ (fun K hK=> ?_)
     ·exact zg
     (try simp only [zz1,zz2,zz3]);simp only [crA,ov];go_simp;obtain ⟨oy',hst',aL⟩:=hst.s10 h2 hlt;refine hK _ _ (fun _ _=>trivial) ⟨(some b8),none,(some y.heap.size),none,0,oy',by simp [crN];omega,(fun h=>by first|rfl|cases h),zo,(fun h=>absurd h zo),rfl,rfl,hst',aL.md.heap hrow (fun e=> ?_),by rw [aL.old g hgl];exact htag⟩;have e':oy g=c+9+j:=e;omega
    refine j0 rfl ?_ (fun K hK=> ?_)
    ·exact zg
    (try simp only [zz1,zz2,zz3]);simp only [crA,ov];go_simp;obtain ⟨oy',hst',aL⟩:=hst.s11 h2 hlt;refine hK _ _ (fun _ _=>trivial) ⟨(some b8),none,none,(some y.heap.size),0,oy',by simp [crN];omega,(fun h=>by first|rfl|cases h),zo,(fun h=>absurd h zo),rfl,rfl,hst',aL.md.heap hrow (fun e=> ?_),by rw [aL.old g hgl];exact htag⟩;have e':oy g=c+13+j:=e;omega
   ·obtain rfl:d=0:=by
     by_cases h:0<d
     ·obtain ⟨k9,k10,k11⟩:=hd0 h
      first|exact absurd k9 zd|exact absurd k10 zd|exact absurd k11 zd
     omega
    have hn1:n+1=5:=by simp [crN] at hn;omega
    refine ⟨[3,4],zk,zd,List.forall_mem_cons.2 ⟨?_,List.forall_mem_cons.2 ⟨?_,fun _ h=>by cases h⟩⟩⟩
    ·refine j0 rfl ?_ (fun K hK=> ?_)
     ·exact zg
     (try simp only [zz1,zz2,zz3]);simp only [crA,ov];go_simp;refine (a1E y).mono ?_;rintro e y' hp;obtain ⟨b,oy',rfl,hst',aL⟩:=hst.s9 h2 hlt hp;refine hK _ _ (fun _ _=>trivial) ⟨(some b8),(some b),none,(some b11),0,oy',by simp [crN];omega,(fun h=>by first|rfl|cases h),zo,(fun h=>absurd h zo),rfl,rfl,hst',aL.md.heap hrow (fun e=> ?_),by rw [aL.old g hgl];exact htag⟩;have e':oy g=c+5+j:=e;omega
    refine j0 rfl ?_ (fun K hK=> ?_)
    ·exact zg
    (try simp only [zz1,zz2,zz3]);simp only [crA,ov];go_simp;obtain ⟨oy',hst',aL⟩:=hst.s10 h2 hlt;refine hK _ _ (fun _ _=>trivial) ⟨(some b8),none,(some y.heap.size),(some b11),0,oy',by simp [crN];omega,(fun h=>by first|rfl|cases h),zo,(fun h=>absurd h zo),rfl,rfl,hst',aL.md.heap hrow (fun e=> ?_),by rw [aL.old g hgl];exact htag⟩;have e':oy g=c+9+j:=e;omega
   ·obtain rfl:d=0:=by
     by_cases h:0<d
     ·obtain ⟨k9,k10,k11⟩:=hd0 h
      first|exact absurd k9 zd|exact absurd k10 zd|exact absurd k11 zd
     omega
    have hn1:n+1=5:=by simp [crN] at hn;omega
    refine ⟨[3,5],zk,zd,List.forall_mem_cons.2 ⟨?_,List.forall_mem_cons.2 ⟨?_,fun _ h=>by cases h⟩⟩⟩
    ·refine j0 rfl ?_ (fun K hK=> ?_)
     ·exact zg
     (try simp only [zz1,zz2,zz3]);simp only [crA,ov];go_simp;refine (a1E y).mono ?_;rintro e y' hp;obtain ⟨b,oy',rfl,hst',aL⟩:=hst.s9 h2 hlt hp;refine hK _ _ (fun _ _=>trivial) ⟨(some b8),(some b),(some b10),none,0,oy',by simp [crN];omega,(fun h=>by first|rfl|cases h),zo,(fun h=>absurd h zo),rfl,rfl,hst',aL.md.heap hrow (fun e=> ?_),by rw [aL.old g hgl];exact htag⟩;have e':oy g=c+5+j:=e;omega
    refine j0 rfl ?_ (fun K hK=> ?_)
    ·exact zg
    (try simp only [zz1,zz2,zz3]);simp only [crA,ov];go_simp;obtain ⟨oy',hst',aL⟩:=hst.s11 h2 hlt;refine hK _ _ (fun _ _=>trivial) ⟨(some b8),none,(some b10),(some y.heap.size),0,oy',by simp [crN];omega,(fun h=>by first|rfl|cases h),zo,(fun h=>absurd h zo),rfl,rfl,hst',aL.md.heap hrow (fun e=> ?_),by rw [aL.old g hgl];exact htag⟩;have e':oy g=c+13+j:=e;omega
   ·obtain rfl:d=0:=by
     by_cases h:0<d
     ·obtain ⟨k9,k10,k11⟩:=hd0 h
      first|exact absurd k9 zd|exact absurd k10 zd|exact absurd k11 zd
     omega
    have hn1:n+1=4:=by simp [crN] at hn;omega
    refine ⟨[3],zk,zd,List.forall_mem_cons.2 ⟨?_,fun _ h=>by cases h⟩⟩;refine j0 rfl ?_ (fun K hK=> ?_)
    ·exact zg
    (try simp only [zz1,zz2,zz3]);simp only [crA,ov];go_simp;refine (a1E y).mono ?_;rintro e y' hp;obtain ⟨b,oy',rfl,hst',aL⟩:=hst.s9 h2 hlt hp;refine hK _ _ (fun _ _=>trivial) ⟨(some b8),(some b),(some b10),(some b11),0,oy',by simp [crN];omega,(fun h=>by first|rfl|cases h),zo,(fun h=>absurd h zo),rfl,rfl,hst',aL.md.heap hrow (fun e=> ?_),by rw [aL.old g hgl];exact htag⟩;have e':oy g=c+5+j:=e;omega
   ·obtain rfl:d=0:=by
     by_cases h:0<d
     ·obtain ⟨k9,k10,k11⟩:=hd0 h
      first|exact absurd k9 zd|exact absurd k10 zd|exact absurd k11 zd
     omega
    have hn1:n+1=5:=by simp [crN] at hn;omega
    refine ⟨[4,5],zk,zd,List.forall_mem_cons.2 ⟨?_,List.forall_mem_cons.2 ⟨?_,fun _ h=>by cases h⟩⟩⟩
    ·refine j0 rfl ?_ (fun K hK=> ?_)
     ·exact zg
     (try simp only [zz1,zz2,zz3]);simp only [crA,ov];go_simp;obtain ⟨oy',hst',aL⟩:=hst.s10 h2 hlt;refine hK _ _ (fun _ _=>trivial) ⟨(some b8),(some b9),(some y.heap.size),none,0,oy',by simp [crN];omega,(fun h=>by first|rfl|cases h),zo,(fun h=>absurd h zo),rfl,rfl,hst',aL.md.heap hrow (fun e=> ?_),by rw [aL.old g hgl];exact htag⟩;have e':oy g=c+9+j:=e;omega
    refine j0 rfl ?_ (fun K hK=> ?_)
    ·exact zg
    (try simp only [zz1,zz2,zz3]);simp only [crA,ov];go_simp;obtain ⟨oy',hst',aL⟩:=hst.s11 h2 hlt;refine hK _ _ (fun _ _=>trivial) ⟨(some b8),(some b9),none,(some y.heap.size),0,oy',by simp [crN];omega,(fun h=>by first|rfl|cases h),zo,(fun h=>absurd h zo),rfl,rfl,hst',aL.md.heap hrow (fun e=> ?_),by rw [aL.old g hgl];exact htag⟩;have e':oy g=c+13+j:=e;omega
   ·obtain rfl:d=0:=by
     by_cases h:0<d
     ·obtain ⟨k9,k10,k11⟩:=hd0 h
      first|exact absurd k9 zd|exact absurd k10 zd|exact absurd k11 zd
     omega
    have hn1:n+1=4:=by simp [crN] at hn;omega
    refine ⟨[4],zk,zd,List.forall_mem_cons.2 ⟨?_,fun _ h=>by cases h⟩⟩;refine j0 rfl ?_ (fun K hK=> ?_)
    ·exact zg
    (try simp only [zz1,zz2,zz3]);simp only [crA,ov];go_simp;obtain ⟨oy',hst',aL⟩:=hst.s10 h2 hlt;refine hK _ _ (fun _ _=>trivial) ⟨(some b8),(some b9),(some y.heap.size),(some b11),0,oy',by simp [crN];omega,(fun h=>by first|rfl|cases h),zo,(fun h=>absurd h zo),rfl,rfl,hst',aL.md.heap hrow (fun e=> ?_),by rw [aL.old g hgl];exact htag⟩;have e':oy g=c+9+j:=e;omega
   ·obtain rfl:d=0:=by
     by_cases h:0<d
     ·obtain ⟨k9,k10,k11⟩:=hd0 h
      first|exact absurd k9 zd|exact absurd k10 zd|exact absurd k11 zd
     omega
    have hn1:n+1=4:=by simp [crN] at hn;omega
    refine ⟨[5],zk,zd,List.forall_mem_cons.2 ⟨?_,fun _ h=>by cases h⟩⟩;refine j0 rfl ?_ (fun K hK=> ?_)
    ·exact zg
    (try simp only [zz1,zz2,zz3]);simp only [crA,ov];go_simp;obtain ⟨oy',hst',aL⟩:=hst.s11 h2 hlt;refine hK _ _ (fun _ _=>trivial) ⟨(some b8),(some b9),(some b10),(some y.heap.size),0,oy',by simp [crN];omega,(fun h=>by first|rfl|cases h),zo,(fun h=>absurd h zo),rfl,rfl,hst',aL.md.heap hrow (fun e=> ?_),by rw [aL.old g hgl];exact htag⟩;have e':oy g=c+13+j:=e;omega
   have hd:d=0\/d=1\/d=2:=by simp [crN] at hn;omega
   rcases hd with rfl|rfl|rfl
   ·have hn1:n+1=3:=by simp [crN] at hn;omega
    refine ⟨[6],zk,zd,List.forall_mem_cons.2 ⟨?_,fun _ h=>by cases h⟩⟩;refine j0 rfl ?_ (fun K hK=> ?_)
    ·exact zg
    (try simp only [zz1,zz2,zz3]);simp only [crA,ov];go_simp;refine hK _ _ (fun _ _=>trivial) ⟨some b8,some b9,some b10,some b11,1,oy,by simp [crN];omega,(fun _=>rfl),zo,(fun _=>⟨rfl,rfl,rfl⟩),rfl, ?_,hst,hrow,htag⟩
    first|rfl|(rw [show 3+j*4=3+4*j by omega];rfl)
   ·have hn1:n+1=2:=by simp [crN] at hn;omega
    refine ⟨[9],zk,zd,List.forall_mem_cons.2 ⟨?_,fun _ h=>by cases h⟩⟩;refine j0 rfl ?_ (fun K hK=> ?_)
    ·exact zg
    (try simp only [zz1,zz2,zz3]);simp only [crA,ov];go_simp;refine hK _ _ (fun _ _=>trivial) ⟨some b8,some b9,some b10,some b11,2,oy,by simp [crN];omega,(fun _=>rfl),zo,(fun _=>⟨rfl,rfl,rfl⟩),rfl, ?_,hst,hrow,htag⟩
    first|rfl|(rw [show 3+j*4=3+4*j by omega];rfl)
   have hn1:n+1=1:=by simp [crN] at hn;omega
   refine ⟨[10],zk,zd,List.forall_mem_cons.2 ⟨?_,fun _ h=>by cases h⟩⟩;refine j0 rfl ?_ (fun K hK=> ?_)
   ·exact zg
   (try simp only [zz1,zz2,zz3]);simp only [crA,ov];have hrl:row.length=19:=Hrl.out;have zF:y.heap[g]? =some (.cells row.toArray 100 (0,0)):=hrow;refine a5K 94 (.tmp 15) (.tmp 12) rfl g (3+4*j) rfl _ _ zF [ptr b8,ptr b9,O5 b10,O5 b11] rfl (by simp [hrl];omega) zk (fun u hu=>zz15 (show [ptr b8,ptr b9,O5 b10,O5 b11].all (·.oneCell')=true from rfl) u hu) ?_;obtain ⟨y',hy'⟩:∃q,y.setRow g (row.toArray.toList.take (3+4*j)++[ptr b8,ptr b9,O5 b10,O5 b11]++row.toArray.toList.drop (3+4*j+4)).toArray=q:=⟨_,rfl⟩;have hg':y'.heap[g]? =some (.cells (row.take (3+4*j)++[ptr b8,ptr b9,O5 b10,O5 b11]++row.drop (3+4*j+4)).toArray 100 (0,0)):=hy'▸setRow_heap y g _ _ _ (0,0) zF;have hm':Mod (fun k=>k=g) y y':=hy'▸(Mod.refl (fun k=>k=g) y).setRow (fun _=>rfl) _;have aL:Mov (fun t=>t=c) y oy y' oy:=Mov.wrote hst.o hm' (fun k hk=>by have hk':k=g:=hk;rw [hk'];exact htag);obtain ⟨a1,a2,a3,a4,a5,a6⟩:=hst.keep aL h2 hlt (.inl rfl);refine hK _ _ (fun h=>absurd h zd) ?_;have hy2:y.setRow g (row.toArray.toList.take (3+4*j)++[ptr b8,ptr b9,O5 b10,O5 b11]++row.toArray.toList.drop (3+4*j+[ptr b8,ptr b9,O5 b10,O5 b11].length)).toArray=y':=hy';rw [hy2];exact ⟨some b8,some b9,some b10,some b11,3,oy,by simp [crN];omega,(fun _=>rfl),zo,(fun _=>⟨rfl,rfl,rfl⟩),rfl,rfl,⟨a1,a2,a3 zo,a4 zo,a5 zo,a6 zo⟩,hg',htag⟩
  obtain rfl:j=4:=zo
  have vB:J0 wr owr c g id near ⟨L.map Prod.fst,fun _=>RS.zero⟩ ⟨v,nv,tb,ib,sb,mb⟩:=by
   refine ⟨h2,⟨L,⟨?_,htr,hlr⟩,rfl⟩,by have:=hnr;rw [zz10] at this;exact this,fun t ht=>(hall t ht).2.2.2.2⟩;rw [<-b5Z hR (fun t ht=>⟨(hall t ht).1,(hall t ht).2.1,(hall t ht).2.2.1,(hall t ht).2.2.2.1⟩) v nv id];exact hrr
  obtain ⟨NQ,aK,vz⟩:=zh3 vB hmr hor;clear vB hmr hor hlr hnr hall hrr
  go_wp2
  go_end0
  exact ⟨rfl,owr,vz.out,⟨_,NQ.out⟩,aK.out⟩
abbrev Hn:=Int×ByteArray×Tg
structure B6 (w0:World) (q:Nat) where
 σ:Type
 inv:World->Ow->σ->Prop
 tg:Nat->Prop
 t2:∀t,tg t->2<=t
 cnt:σ->Nat
 okTo:Int->Int->Prop
 send:σ->Int->Int->Mg->σ
 shw:σ->Int->ByteArray->Tg->σ
 csend:∀s td ten m,cnt (send s td ten m)<=cnt s+1
 cshw:∀s ten who t,cnt (shw s ten who t)<=cnt s+1
 mov:∀{F:Nat->Prop} {w w':World} {ow ow':Ow} {s:σ},inv w ow s->Owd w0 w ow->Mov F w ow w' ow'->¬F 0->(∀t,F t->¬tg t)->inv w' ow' s
 hsend:∀{w:World} {ow:Ow} {s:σ} {td ten:Int} {x:Mv},Owd w0 w ow->inv w ow s->cnt s<=400000000000->okTo td ten->X3 w ow x->
  Calls Tryz.prog 274 #[.pointer (some ⟨q,0,none⟩),.int .i64 td,.int .i64 ten,.agg x.cells.toArray] w fun e w'=>e= .returned (.tuple #[])/\∃ow',inv w' ow' (send s td ten x.m)/\Mov tg w ow w' ow'
 hshw:∀{w:World} {ow:Ow} {s:σ} {ten:Int} {who:ByteArray} {x:Tv},Owd w0 w ow->inv w ow s->cnt s<=400000000000->0<=ten->ten<=3->a8w w ow x->
  Calls Tryz.prog 275 #[.pointer (some ⟨q,0,none⟩),.int .i64 ten,.string who,.agg x.cells.toArray] w fun e w'=>e= .returned (.tuple #[])/\∃ow',inv w' ow' (shw s ten who x.t)/\Mov tg w ow w' ow'
variable {w0:World} {q:Nat}
def B6.sends (O:B6 w0 q) (s:O.σ) (l:List Sd):O.σ:=l.foldl (fun s x=>O.send s x.1 x.2.1 x.2.2) s
theorem B6.sends_app (O:B6 w0 q) (s:O.σ) (l m:List Sd):O.sends s (l++m)=O.sends (O.sends s l) m:=List.foldl_append ..
theorem B6.sends_one (O:B6 w0 q) (s:O.σ) (l:List Sd) (x:Sd):O.sends s (l++[x])=O.send (O.sends s l) x.1 x.2.1 x.2.2:=by rw [O.sends_app];rfl
theorem B6.sends_cnt (O:B6 w0 q) (s:O.σ) (l:List Sd):O.cnt (O.sends s l)<=O.cnt s+l.length:=by
 induction l generalizing s with
 |nil=>exact Nat.le_refl _
 |cons x l ih=>
  have h1:=ih (O.send s x.1 x.2.1 x.2.2);have h2:=O.csend s x.1 x.2.1 x.2.2;show O.cnt (O.sends (O.send s x.1 x.2.1 x.2.2) l)<=_;rw [zz9];omega
end
end Go.Proofs.YtebhabpahfmodaaGreatDoor
