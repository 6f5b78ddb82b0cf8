/- Lemmas. -/
import Derived.Test.YtdmjoodhaeijmaaGreatDoorZn46
set_option maxHeartbeats 40000000
set_option maxRecDepth 20000
namespace Go.Proofs.YtdmjoodhaeijmaaGreatDoor
section
open Go.RowKit
def a8l (w0 w:World) (ow:Ow) (q tp:Nat) (r:Int×NS) (k j:Nat) (e:Ending) (w':World):Prop:=e= .returned (.int .i64 r.1)/\E3 w0 w ow q tp r.2 k j w'
theorem E3.after {w0 w wa w':World} {ow:Ow} {q tp:Nat} {s:NS} {k j:Nat} (hw:Owd w0 w ow) (hm:Mod (fun _=>False) w wa) (h:E3 w0 wa ow q tp s k j w'):E3 w0 w ow q tp s k j w':=by
 obtain ⟨ow',h1,h2⟩:=h;exact ⟨ow',h1,((Mov.of hw hm (fun _=>False)).mono (fun _ h=>h.elim)).trans h2⟩
section
variable {w0 w:World} {ow:Ow} {q tp k j:Nat} {s:NS}
theorem a3W (h:X1 w0 w ow q tp s k j) (hk:k<=39000) (hj:j<=4500) (o:PO) (hkd:o.kind=4\/o.kind=5) (hw1:wfI o.ten) (hw2:wfI o.frm) (hw3:wfI o.to_) (cs:List Value) (hcl:cs.length=18)
 (h0:cs[0]? =some (.int .i64 o.kind)) (h1:cs[1]? =some (.int .i64 o.ten)) (h16:cs[16]? =some (.int .i64 o.frm)) (kT:cs[17]? =some (.int .i64 o.to_)):
 Calls Tryz.prog 14 #[.pointer (some ⟨q,0,none⟩),.agg cs.toArray] w (a8l w0 w ow q tp (s.pick o) (k+2) j):=by
 obtain ⟨wa,ak,ae,aa,ah⟩:=g6 w (.cells cs.toArray 41);have hop:b4X wa ow w.heap.size 0 41 cs:=⟨aa,h.own.zero (Nat.le_refl _)⟩;have A0:wa.cell? ⟨w.heap.size,0,none⟩=some (.int .i64 o.kind):=hop.cell h0;have FJ:=b26 w0 wa ow q tp s k j (h.still ae) hk hj o hkd hw1 hw2 hw3 cs hcl h0 h1 h16 kT;obtain ⟨kd,jX⟩:∃x,o.kind=x:=⟨_,rfl⟩;rw [jX] at A0 hkd;refine hh8 h hop FJ hcl ak ae aa jX fun H Hop MI dO aB ai aC FH=> ?_;refine hh7 h0 h1 h16 kT hw1 hw2 hw3 fun H0 H1 Vj Vk gW Gt nC=> ?_;clear h hop FJ hcl ak ae aa jX h0 h1 h16 kT hw1 hw2 hw3 ah
 go_enter Tryz.func14,Tryz.ntmps14
 rcases hkd with rfl|rfl
 all_goals
  go_wp2_with (first|(rw [show w.alloc _=wa from aB.out])|((with_reducible refine e9 41 (.tmp 3) ?_);refine ⟨w.heap.size,0,rfl,cs,d8.row aC.out,zk,by rw [dO.out];kernel_rfl, ?_⟩))
  refine MI.out.mono ?_;rintro e w1 ⟨rfl,hp⟩;have Hp:=zh hp;clear hp
  go_wp2_with fail
  go_ret;exact ⟨rfl,Hp.out.after H.out.own ai.out⟩
theorem a8m (h:X1 w0 w ow q tp s k j) (hk:k<=39000) (o:PO) (hkd:o.kind=0) (cs:List Value) (hcl:cs.length=18) (e0:cs[0]? =some (.int .i64 0)) (ra:Option Addr) (rc:Nat) (hr:∀m u,(o.r.lies ra rc).cells[m]? =some u->cs[3+m]? =some u)
 (hx:i8 w 7 (.slice ra o.r.cs.length rc) o.r.cs.length (q8 o.r.cs)) (hf:o.r.fine) (hn:∀c∈o.r.cs,c.v.num<2^64):
 Calls Tryz.prog 14 #[.pointer (some ⟨q,0,none⟩),.agg cs.toArray] w (a8l w0 w ow q tp (s.rule o.r) (k+80) j):=by
 obtain ⟨wa,ak,ae,aa,ah⟩:=g6 w (.cells cs.toArray 41);have hop:b4X wa ow w.heap.size 0 41 cs:=⟨aa,h.own.zero (Nat.le_refl _)⟩;have A0:wa.cell? ⟨w.heap.size,0,none⟩=some (.int .i64 0):=hop.cell e0;have FJ:=b25 w0 wa ow q tp s k j (h.still ae) hk o.r ra rc (hx.mod ae zi) hf hn;have hcr:d8 wa w.heap.size 3 (o.r.lies ra rc).cells:=fun m u hu=>hop.cell (hr m u hu);refine hh8 h hop FJ hcl ak ae aa e0 fun H Hop MI dO aB ai aC E0=> ?_;refine hh5 hr hx hf hn hcr fun Hr Hx Hf Hn iP=> ?_;clear h hop FJ hcl ak ae aa e0 hr hx hf hn hcr ah
 go_enter Tryz.func14,Tryz.ntmps14
 go_wp2_with (first|(rw [show w.alloc _=wa from aB.out])|((with_reducible refine e9 36 (.tmp 10) ?_);refine ⟨w.heap.size,3,rfl,(o.r.lies ra rc).cells,iP.out,zk,zk, ?_⟩))
 refine MI.out.mono ?_;rintro e w1 ⟨rfl,hp⟩;have Hp:=zh hp;clear hp
 go_wp2_with fail
 go_ret;exact ⟨rfl,Hp.out.after H.out.own ai.out⟩
theorem a3X (h:X1 w0 w ow q tp s k j) (kd:Int) (hkd:kd<0\/7<kd) (cs:List Value) (hcl:cs.length=18) (e0:cs[0]? =some (.int .i64 kd)):
 Calls Tryz.prog 14 #[.pointer (some ⟨q,0,none⟩),.agg cs.toArray] w (a8l w0 w ow q tp (3,s) k j):=by
 obtain ⟨wa,ak,ae,aa,ah⟩:=g6 w (.cells cs.toArray 41);have A0:wa.cell? ⟨w.heap.size,0,none⟩=some (.int .i64 kd):=d6 aa (by simpa using e0);have k0:(kd==0)=false:=by rw [beq_eq_false_iff_ne];omega
 have k1:(kd==1)=false:=by rw [beq_eq_false_iff_ne];omega
 have k2:(kd==2)=false:=by rw [beq_eq_false_iff_ne];omega
 have k3:(kd==3)=false:=by rw [beq_eq_false_iff_ne];omega
 have k4:(kd==4)=false:=by rw [beq_eq_false_iff_ne];omega
 have k5:(kd==5)=false:=by rw [beq_eq_false_iff_ne];omega
 have k6:(kd==6)=false:=by rw [beq_eq_false_iff_ne];omega
 have k7:(kd==7)=false:=by rw [beq_eq_false_iff_ne];omega
 refine hh7 h hcl ak ae aa e0 hkd fun H dO aB ai aC E0 MG=> ?_;clear h hcl ak ae aa e0 hkd ah
 go_enter Tryz.func14,Tryz.ntmps14
 go_wp2_with (rw [show w.alloc _=wa from aB.out])
 go_ret;exact ⟨rfl,E3.still H.out ai.out (Nat.le_refl _) (Nat.le_refl _)⟩
end
end
section
open Go.RowKit
def r7 (N:List (List Int)) (n:Nat):List (Int×Int×Int):=(List.range n).flatMap fun i=>a09 N i
theorem U9 (N:List (List Int)) (n:Nat):r7 N (n+1)=r7 N n++a09 N n:=by
 unfold r7;rw [List.range_succ,List.flatMap_append,List.flatMap_cons,List.flatMap_nil,zz11]
theorem a68 (N:List (List Int)) {n:Nat}:∀{m:Nat},n<=m->(r7 N n).length<=(r7 N m).length
 |0,h=>by rw [show n=0 by omega];exact Nat.le_refl _
 | m+1,h=>by
  by_cases e:n=m+1
  ·rw [e];exact Nat.le_refl _
  have:=a68 N (n:=n) (m:=m) zo;rw [U9,zz4];omega
def y6 (N:List (List Int)) (n m:Nat):List (Int×Int×Int):=((m5 N n).take m).flatMap fun y=>a3U n y
theorem a1n {N:List (List Int)} {n m:Nat} {y:Int} (h:(m5 N n)[m]? =some y):y6 N n (m+1)=y6 N n m++a3U n y:=by
 unfold y6;rw [List.take_add_one,h,Option.toList_some,List.flatMap_append,List.flatMap_cons,List.flatMap_nil,zz11]
theorem a2g (N:List (List Int)) (n:Nat):y6 N n (m5 N n).length=a09 N n:=by
 unfold y6 a09;rw [List.take_length]
theorem b0y {N:List (List Int)} {n m:Nat} (h:m<=(m5 N n).length):(y6 N n m).length=5*m:=by
 unfold y6
 have h1:∀l:List Int,(l.flatMap fun y=>a3U n y).length=5*l.length:=by
  intro l
  induction l with
  |nil=>rfl
  |cons x l ih=>rw [List.flatMap_cons,zz4,ih,a4Z,zz9];omega
 rw [h1,List.length_take];omega
def I6 (x y:Int) (u:Nat):List (Int×Int×Int):=(a88.take u).map fun t=>(x,y,t)
theorem a0b {x y:Int} {u:Nat} (h:u<5):I6 x y (u+1)=I6 x y u++[(x,y,(u:Int) - 1)]:=by
 have h1:u=0\/u=1\/u=2\/u=3\/u=4:=zo
 rcases h1 with rfl|rfl|rfl|rfl|rfl<;>rfl
theorem b0z {x y:Int} {u:Nat} (h:u<=5):(I6 x y u).length=u:=by
 unfold I6;rw [zz10,List.length_take];exact Nat.min_eq_left h
theorem a1o {N:List (List Int)} {n m u:Nat} (hn:n<N.length) (hm:m<(m5 N n).length) (hu:u<5) {y:Int}:(r7 N n++y6 N n m++I6 n y u).length+1<=(D1 N).length:=by
 have h1:=a68 N (n:=n+1) (m:=N.length) zo;have h2:D1 N=r7 N N.length:=rfl;rw [U9,zz4,a40] at h1;rw [zz4,zz4,b0y zo,b0z zo,h2];omega
def SeR (w0 w:World) (ow:Ow) (q tp k j:Nat) (s:NS) (P:List (Int×Int×Int)) (d:Value) (wr:World):Prop:=
 ∃owr,d= .bool (NS.laps (false,s) P).1/\X1 w0 wr owr q tp (NS.laps (false,s) P).2 (k+2*P.length) j/\Mov a0n w ow wr owr
def Se1 (w0 w:World) (ow:Ow) (q tp k j K most:Nat) (s:NS) (i:Value) (wr:World):Prop:=
 ∃(m:Nat) (owr:Ow) (sr:NS),i= .int .i64 m/\m<=most/\X1 w0 wr owr q tp sr (k+K*m) j/\Mov a0n w ow wr owr/\sr.N=s.N/\s.settle most=((sr.settle (most - m)).1+m,(sr.settle (most - m)).2)
def Se2 (w0 w:World) (ow:Ow) (q tp k j:Nat) (s:NS) (d i:Value) (wr:World):Prop:=∃n:Nat,i= .int .i64 n/\n<=s.N.length/\SeR w0 w ow q tp k j s (r7 s.N n) d wr
def Se3 (w0 w:World) (ow:Ow) (q tp k j:Nat) (s:NS) (n:Nat) (d i:Value) (wr:World):Prop:=∃m:Nat,i= .int .i64 m/\m<=(m5 s.N n).length/\SeR w0 w ow q tp k j s (r7 s.N n++y6 s.N n m) d wr
def Se4 (w0 w:World) (ow:Ow) (q tp k j:Nat) (s:NS) (n m:Nat) (y:Int) (d i:Value) (wr:World):Prop:=∃u:Nat,i= .int .i64 ((u:Int) - 1)/\u<=5/\SeR w0 w ow q tp k j s (r7 s.N n++y6 s.N n m++I6 n y u) d wr
theorem a45 {w0 w:World} {ow:Ow} {q tp k j:Nat} {s:NS} (h:X1 w0 w ow q tp s k j) (most:Nat) (hmo:most<=100000) (hk:k+2*(D1 s.N).length*((s.settle most).1+1)<=39000) (hj:j<=4500):
 Calls Tryz.prog 24 #[.pointer (some ⟨q,0,none⟩),.int .i64 most] w fun e w'=>e= .returned (.int .i64 (s.settle most).1)/\E3 w0 w ow q tp (s.settle most).2 (k+2*(D1 s.N).length*((s.settle most).1+1)) j w':=by
 obtain ⟨K,hK⟩:∃K,2*(D1 s.N).length=K:=⟨_,rfl⟩;rw [hK] at hk⊢;have hrel:Se1 w0 w ow q tp k j K most s (.int .i64 0) w:=⟨0,ow,s,rfl,Nat.zero_le _,h.mono zo (Nat.le_refl _),Mov.refl h.own,rfl,by rw [Nat.sub_zero,Nat.add_zero]⟩;obtain ⟨S,hS⟩:∃S,s.settle most=S:=⟨_,rfl⟩;rw [hS] at hk⊢;have Vp:(most:Int)<=100000:=zo
 refine hh4 h hrel hS hK fun H uF HS HK=> ?_;clear h hrel hS hK
 go_enter Tryz.func24,Tryz.ntmps24
 go_wp2_with fail
 go_loopw [12] (fun i wr=>Se1 w0 w ow q tp k j K most s i wr) (fun i _=>most - (intOf i).toNat)
 case atStart=>exact uF.out
 case round=>
  obtain ⟨m,owr,sr,rfl,hm,hX,hmr,eN,hSr⟩:=hrel;by_cases hlt:m<most
  ·have hlt':(m:Int)<most:=zo
   obtain ⟨wq,rfl⟩:∃y:World,y=wr:=⟨_,rfl⟩;have rO:=hX.wi.nok.len;have FK:=hSr;obtain ⟨kk,hkk⟩:∃y,k+K*m=y:=⟨_,rfl⟩;rw [hkk] at hX
   have Ik:K*m+K<=K*(S.1+1):=by
    have h1:m<=S.1:=by rw [<-HS.out,hSr];exact Nat.le_add_left _ _
    rw [<-Nat.mul_succ];exact Nat.mul_le_mul_left _ zo
   have XN:kk+K<=39000:=zo
   have wL:K=2*(D1 sr.N).length:=by rw [eN];exact HK.out.symm
   have jr:Se2 w0 wq owr q tp kk j sr (.bool false) (.int .i64 0) wq:=⟨0,rfl,Nat.zero_le _,owr,rfl,hX,Mov.refl hX.own⟩
   obtain ⟨q1,htl⟩:wq.cell? ⟨q,1,none⟩=some (.pointer (some ⟨tp,0,none⟩))/\Calls Tryz.prog 12 #[.pointer (some ⟨tp,0,none⟩)] wq fun e w'=>e= .returned (.int .i64 sr.N.length)/\wq=w':=by
    obtain ⟨a,L,c,n,hA,htp, -, -⟩:=hX.mem;rw [<-htp];exact ⟨hA.side.cellN rfl,(a5G wq a.tp sr.N (hA.tree.mod hA.base)).mono fun e w' ⟨he,hw'⟩=>⟨he,hw'.symm⟩⟩
   have Qf:(sr.N.length:Int)<=6:=zo
   refine hh8 hX hmr eN hSr FK jr htl wL fun HX aL EN Vq Vr qP Fe IA=> ?_;clear hX hmr eN hSr FK jr htl wL Ik
   go_wp2_with fail
   refine Fe.out.mono ?_;rintro e w9 ⟨rfl,h9⟩;subst h9
   go_wp2_with fail
   go_loopw [6,20] (fun d i wr=>Se2 w0 wq owr q tp kk j sr d i wr) (fun _ i _=>sr.N.length - (intOf i).toNat)
   case atStart=>exact qP.out
   case round=>
    obtain ⟨n,rfl,hn,o2,rfl,hX2,hm2⟩:=hrel;by_cases hlt2:n<sr.N.length
    ·have Ce:(n:Int)<sr.N.length:=zo
     obtain ⟨wp,rfl⟩:∃y:World,y=wr:=⟨_,rfl⟩;have Ag:(NS.laps (false,sr) (r7 sr.N n)).2.N=sr.N:=b2U _ _;have zQ:NOk sr.N:=HX.out.wi.nok
     obtain ⟨q2,hnr⟩:wp.cell? ⟨q,1,none⟩=some (.pointer (some ⟨tp,0,none⟩))/\Calls Tryz.prog 25 #[.pointer (some ⟨tp,0,none⟩),.int .i64 n] wp fun e w'=>∃v',e= .returned v'/\g7 w' 3 1 v' (m5 sr.N n).length (F9 (m5 sr.N n))/\Mod (fun _=>False) wp w'/\∀b,v'.ownBlock=some b->wp.heap.size<=b:=by
      obtain ⟨a,L,c,n',hA,htp, -, -⟩:=hX2.mem;have h1:=hA.tree;rw [htp,Ag] at h1;exact ⟨by rw [<-htp];exact hA.side.cellN rfl,a3T wp tp sr.N n (h1.mod hA.base) zo zQ.each⟩
     obtain ⟨b2,hb2⟩:∃b,(NS.laps (false,sr) (r7 sr.N n)).1=b:=⟨_,rfl⟩;rw [hb2];refine hh6 hX2 hm2 Ag zQ hnr hb2 fun rq aS Ah FL yz Hb2=> ?_;clear hX2 hm2 Ag zQ hnr hb2
     go_wp2_with fail
     refine yz.out.mono ?_;rintro e w4 ⟨v',rfl,hv',aM,hfr⟩;obtain ⟨nr,dV⟩:∃l,m5 sr.N n=l:=⟨_,rfl⟩;rw [dV] at hv';have hnl:nr.length<=6:=by rw [<-dV];exact FL.out.nl n
     obtain ⟨va,vc,rfl,lI⟩:∃a cc,v'= .slice a nr.length cc/\nr.length<=cc:=by obtain ⟨-,a,cc,h,h2, -⟩:=hv'.rd;exact ⟨a,cc,h,h2⟩
     have yP:(nr.length:Int)<=vc:=zo
     have mV:=rq.out.still aM;have jv:Se3 w0 w4 o2 q tp kk j sr n (.bool b2) (.int .i64 0) w4:=⟨0,rfl,Nat.zero_le _,o2,by rw [show y6 sr.N n 0=[] from rfl,zz11,Hb2.out],by rw [show y6 sr.N n 0=[] from rfl,zz11];exact mV,Mov.refl mV.own⟩;have aV:Mov a0n wq owr w4 o2:=aS.out.trans ((Mov.of rq.out.own aM (fun _=>False)).mono (fun _ h=>h.elim));have hfr2:∀b,(Value.slice va nr.length vc).ownBlock=some b->o2 b=0:=fun b hb=>rq.out.own.zero (hfr b hb);refine hh8 dV hv' mV jv aV hfr2 hfr aM fun bW MJ Vs qQ bS qR aW fu=> ?_;clear dV hv' mV jv aV hfr2 hfr aM lI
     go_wp2_with fail
     go_loopw [6,30] (fun d i wr=>Se3 w0 w4 o2 q tp kk j sr n d i wr) (fun _ i _=>nr.length - (intOf i).toNat)
     case atStart=>exact qQ.out
     case round=>
      obtain ⟨m3,rfl,au,o3,rfl,eY,dW⟩:=hrel;rw [bW.out] at au;by_cases hlt3:m3<nr.length
      ·have wM:(m3:Int)<nr.length:=zo
       obtain ⟨wz,rfl⟩:∃y:World,y=wr:=⟨_,rfl⟩;obtain ⟨y,hy⟩:∃z,nr[m3]? =some z:=⟨_,zz5 hlt3⟩
       have hl:n9 sr.N n y=true:=by
        have h1:=zz8 hy;rw [<-bW.out] at h1;exact I5 h1
       have kH:=(FL.out.wf _ _ hl);have hrd:=(MJ.out.mod dW.md (fun b hb hf=>b2S (by have hf':a0n (o2 b):=hf;rwa [qR.out b hb] at hf'))).rd;obtain ⟨gv,ov,rfl,hel⟩:=a0H (j:=m3) (u:= .int .i64 y) hrd (by rw [R6 hy]);obtain ⟨b3,hb3⟩:∃b,(NS.laps (false,sr) (r7 sr.N n++y6 sr.N n m3)).1=b:=⟨_,rfl⟩;rw [hb3];have eO:Se4 w0 wz o3 q tp kk j sr n m3 y (.bool b3) (.int .i64 (-1)) wz:=⟨0,rfl,Nat.zero_le _,o3,by rw [show I6 n y 0=[] from rfl,zz11,hb3],by rw [show I6 n y 0=[] from rfl,zz11];exact eY,Mov.refl eY.own⟩;refine hh8 eY dW hy hl kH hrd hb3 eO fun IB uG Hy Hl wN gG Hb3 jw=> ?_;clear eY dW hy hl kH hrd hb3 eO
       go_wp2_with fail
       go_loopw [6,10] (fun d i wr=>Se4 w0 wz o3 q tp kk j sr n m3 y d i wr) (fun _ i _=>(4 - intOf i).toNat)
       case atStart=>exact jw.out
       case round=>
        obtain ⟨u,rfl,hu,o4,rfl,mW,qU⟩:=hrel;by_cases iF:u<5
        ·have wO:((u:Int) - 1)<4:=zo
         have hbd:=a1o (y:=y) hlt2 (by rw [bW.out];exact hlt3) iF;have iG:kk+2*(r7 sr.N n++y6 sr.N n m3++I6 n y u).length<=39000:=by have:=IA.out;omega
         have hdo:=a3W mW iG hj (PO.pick n y ((u:Int) - 1)) (.inl rfl) (show wfI ((u:Int) - 1) from F2 zo) (show wfI (n:Int) from F2 zo) wN.out.2 [.int .i64 4,.int .i64 ((u:Int) - 1),.string ⟨#[]⟩,.int .i64 0,.int .i64 0,.string ⟨#[]⟩,.int .i64 0,.string ⟨#[]⟩,.slice none 0 0,.string ⟨#[]⟩,.int .i64 0,.string ⟨#[]⟩,.slice none 0 0,.string ⟨#[]⟩,.slice none 0 0,.int .i64 0,.int .i64 n,.int .i64 y] rfl rfl rfl rfl rfl;obtain ⟨x4,hx4⟩:∃x,NS.laps (false,sr) (r7 sr.N n++y6 sr.N n m3++I6 n y u)=x:=⟨_,rfl⟩
         have hnext:NS.laps (false,sr) (r7 sr.N n++y6 sr.N n m3++I6 n y (u+1))=NS.lapF x4 (n,y,(u:Int) - 1):=by
          rw [a0b iF,<-zz12,b0r,hx4]
         have hlen1:(r7 sr.N n++y6 sr.N n m3++I6 n y (u+1)).length=(r7 sr.N n++y6 sr.N n m3++I6 n y u).length+1:=by
          rw [a0b iF,<-zz12,zz4];rfl
         rw [hx4] at mW hdo;rw [hx4];obtain ⟨b4,hb4⟩:∃b,x4.1=b:=⟨_,rfl⟩;rw [hb4];obtain ⟨E,hE⟩:∃E,(x4.2.pick (PO.pick n y ((u:Int) - 1))).1=E:=⟨_,rfl⟩;refine hh8 mW qU hbd iG hdo hx4 hnext hlen1 fun Qg FM LD FN FO XO kU qV=> ?_;refine hh2 hb4 hE fun Hb4 HE=> ?_;clear mW qU hbd iG hdo hx4 hnext hlen1 hb4 hE
         go_wp2_with fail
         refine FO.out.mono ?_;rintro e w6 ⟨rfl,o6,rP,cz⟩;have hE:=HE.out;rw [hE]
         have hv6:(NS.laps (false,sr) (r7 sr.N n++y6 sr.N n m3++I6 n y (u+1)))=(E==0||b4,(x4.2.pick (PO.pick n y ((u:Int) - 1))).2):=by
          rw [kU.out];unfold NS.lapF;rw [hE,Hb4.out];rfl
         have hl1:=qV.out;have aH:Se4 w0 wz o3 q tp kk j sr n m3 y (.bool (E==0||b4)) (.int .i64 u) w6:=⟨u+1,congrArg (Value.int .i64) zo,zo,o6,by rw [hv6],by rw [hv6];exact rP.mono zo (Nat.le_refl _),FM.out.trans cz⟩;obtain ⟨g,hg⟩:∃g,(E==0)=g:=⟨_,rfl⟩;rw [hg] at aH;refine hh5 rP cz hv6 aH hl1 fun FP iU XP bn Az=> ?_;clear rP cz hv6 aH hl1 hE
         cases g with
         |false=>
          go_wp2_with fail
          go_roundw
          case rel=>exact bn.out
          case measure=>simp [intOf];omega
         |true=>
          go_wp2_with fail
          go_roundw
          case rel=>exact bn.out
          case measure=>simp [intOf];omega
        obtain rfl:u=5:=zo
        have hP:r7 sr.N n++y6 sr.N n m3++I6 n y 5=r7 sr.N n++y6 sr.N n (m3+1):=by
         rw [a1n (by rw [bW.out];exact Hy.out),zz12];rfl
        rw [hP] at mW;obtain ⟨b5,hb5⟩:∃b,(NS.laps (false,sr) (r7 sr.N n++y6 sr.N n (m3+1))).1=b:=⟨_,rfl⟩;rw [hP,hb5];have aH:Se3 w0 w4 o2 q tp kk j sr n (.bool b5) (.int .i64 ((m3+1:Nat):Int)) wr:=⟨m3+1,rfl,by rw [bW.out];exact hlt3,o4,by rw [hb5],mW,uG.out.trans qU⟩;refine hh5 mW qU hb5 hP aH fun Qg FM Hb5 HP bn=> ?_;clear mW qU hb5 hP aH
        go_wp2_with fail
        go_roundw
        case rel=>exact bn.out
        case measure=>simp [intOf];omega
      obtain rfl:m3=nr.length:=zo
      have hP:r7 sr.N n++y6 sr.N n nr.length=r7 sr.N (n+1):=by
       rw [<-bW.out,a2g,U9]
      rw [hP] at eY;obtain ⟨b5,hb5⟩:∃b,(NS.laps (false,sr) (r7 sr.N (n+1))).1=b:=⟨_,rfl⟩;rw [hP,hb5];have aH:Se2 w0 wq owr q tp kk j sr (.bool b5) (.int .i64 ((n+1:Nat):Int)) wr:=⟨n+1,rfl,hlt2,o3,by rw [hb5],eY,bS.out.trans dW⟩;refine hh5 eY dW hb5 hP aH fun IB uG Hb5 HP bn=> ?_;clear eY dW hb5 hP aH
      go_wp2_with fail
      go_roundw
      case rel=>exact bn.out
      case measure=>simp [intOf];omega
    obtain rfl:n=sr.N.length:=zo
    have mX:NS.laps (false,sr) (r7 sr.N sr.N.length)=sr.lap:=rfl;have jy:(r7 sr.N sr.N.length).length=(D1 sr.N).length:=rfl;rw [mX,jy] at hX2;rw [mX];have wL:=IA.out;have mY:X1 w0 wr o2 q tp sr.lap.2 (kk+K) j:=by rw [wL];exact hX2
    have hst:sr.settle (most - m)=if sr.lap.1 then ((NS.settle (most - (m+1)) sr.lap.2).1+1,(NS.settle (most - (m+1)) sr.lap.2).2) else (0,sr.lap.2):=by
     rw [show most - m=(most - (m+1))+1 by omega];rfl
    have wP:=Vq.out;rw [hst,HS.out] at wP;obtain ⟨D,hD⟩:∃D,sr.lap.1=D:=⟨_,rfl⟩;rw [hD] at wP;rw [hD];have FQ:K*(m+1)=K*m+K:=Nat.mul_succ _ _
    cases D with
    |false=>
     have wP:S=(m,sr.lap.2):=by rw [wP];simp
     subst wP;have hfin:E3 w0 w ow q tp sr.lap.2 (k+K*(m+1)) j wr:=⟨o2,mY.mono zo (Nat.le_refl _),aL.out.trans hm2⟩;refine hh8 hX2 mY hm2 hst hD mX jy wL fun rq MK aS kM HD ML FR IA=> ?_;refine hh1 hfin fun bF=> ?_;clear hX2 mY hm2 hst hD mX jy wL hfin FQ
     go_wp2_with fail
     go_ret;exact ⟨rfl,bF.out⟩
    | true=>
     have aH:Se1 w0 w ow q tp k j K most s (.int .i64 ((m+1:Nat):Int)) wr:=by
      refine ⟨m+1,o2,sr.lap.2,rfl,hlt,mY.mono zo (Nat.le_refl _),aL.out.trans hm2,(b6C sr).trans EN.out, ?_⟩;rw [HS.out,wP];simp only [if_pos];rw [Nat.add_assoc,Nat.add_comm 1 m]
     refine hh8 hX2 mY hm2 hst hD mX jy wL fun rq MK aS kM HD ML FR IA=> ?_;refine hh2 aH wP fun bn XQ=> ?_;clear hX2 mY hm2 hst hD mX jy wL aH wP FQ
     go_wp2_with fail
     go_roundw
     case rel=>exact bn.out
     case measure=>simp [intOf];omega
  obtain rfl:m=most:=zo
  rw [Nat.sub_self] at hSr;have hSr:s.settle m=(0+m,sr):=hSr;rw [HS.out,Nat.zero_add] at hSr;subst hSr;refine hh3 hX hmr eN fun HX aL EN=> ?_;clear hX hmr eN
  go_wp2_with fail
  go_ret;refine ⟨rfl, ?_⟩;have h1:K*m<=K*(m+1):=Nat.mul_le_mul_left _ (Nat.le_succ _);exact ⟨owr,HX.out.mono zo (Nat.le_refl _),aL.out⟩
structure a1p (w0 w:World) (ow:Ow) (q:Nat) (a:NAd) (N:List (List Int)) (m:Nat) (D:List (Int×Int×Int)):Prop where
 base:Mod (fun _=>False) w0 w
 row:w.heap[q]? =some (.cells (a.v::a.rest fun _=>0).toArray 54 (0,0))
 tag:ow q=2
 nv:a.v= .slice none 0 0/\a.pv= .slice none 0 0/\a.nv= .slice none 0 0
 bro:∀i,i<m->Bro w ow (20+20*i) (a.bg i) i (m5 N i) ⟨[],fun _=>RS.zero⟩
 lnk:a4p w ow a.lm a.lb D
 tm:l8 w 122 a.tm 0 (fun _=>none)/\ow a.tm=7
 om:l8 w 122 a.om 0 (fun _=>none)/\ow a.om=8
 sm:l8 w 122 a.sm 0 (fun _=>none)/\ow a.sm=9
def a69 (m t:Nat):Prop:=t=4\/t=5\/(20+20*m<=t/\t<20+20*m+18)
theorem a1p.mov {F:Nat->Prop} {w0 w w':World} {ow ow':Ow} {q m:Nat} {a:NAd} {N:List (List Int)} {D:List (Int×Int×Int)} (h:a1p w0 w ow q a N m D) (hw:Owd w0 w ow) (hm:m<6) (s:Mov F w ow w' ow') (hF:∀t,F t->t=1\/a69 m t):a1p w0 w' ow' q a N m D:=by
 have h0:¬F 0:=fun e=>by have:=hF _ e;unfold a69 at this;omega
 have hn:∀t,t=2\/t=6\/t=7\/t=8\/t=9\/400<=t->¬F t:=fun t ht e=>by have:=hF _ e;unfold a69 at this;omega
 have hq:=(zz7 h.row).1;refine ⟨s.mod0 hw h.base h0,s.md.heap h.row (fun hf=> ?_),by rw [s.old q hq];exact h.tag,h.nv,fun i hi=>(h.bro i hi).mov hw s h0 (fun t ht=> ?_),h.lnk.mov s h0 (hn 6 zo) (fun i j t=>hn _ (by have:=O9 i j t;omega)),l7 h.tm.1 h.tm.2 s (hn 7 zo),l7 h.om.1 h.om.2 s (hn 8 zo),l7 h.sm.1 h.sm.2 s (hn 9 zo)⟩
 ·have hf':F (ow q):=hf;rw [h.tag] at hf';exact hn 2 zo hf'
 have:=hF _ ht;unfold a69 at this;omega
theorem a1p.mov' {w0 w w':World} {ow ow':Ow} {q m:Nat} {a:NAd} {N:List (List Int)} {D:List (Int×Int×Int)} (h:a1p w0 w ow q a N m D) (hw:Owd w0 w ow) (s:Mov (fun _=>False) w ow w' ow'):a1p w0 w' ow' q a N m D:=by
 have hq:=(zz7 h.row).1;exact ⟨s.mod0 hw h.base id,s.md.heap h.row id,by rw [s.old q hq];exact h.tag,h.nv,fun i hi=>(h.bro i hi).mov hw s id (fun _ h=>h.elim),h.lnk.mov s id id (fun _ _ _ h=>h),l7 h.tm.1 h.tm.2 s id,l7 h.om.1 h.om.2 s id,l7 h.sm.1 h.sm.2 s id⟩
abbrev BrS (w:World) (ow:Ow) (v:Value) (X:List Nat):Prop:=GrS w ow 4 90 1 (fun g:Nat=>[ptr g]) (fun _ _ _=>True) v X
abbrev UpS (w:World) (ow:Ow) (v:Value) (n:Nat):Prop:=GrS w ow 5 4 1 (fun b:Bool=>[.bool b]) (fun _ _ _=>True) v (List.replicate n true)
structure NwS (w0 wr:World) (owr:Ow) (q:Nat) (a:NAd) (N:List (List Int)) (n:Nat) (D:List (Int×Int×Int)) (p:Nat) (nv:Value) (g b1:Nat) (bv:Value) (fl:Option Nat) (W:World) (O:Ow):Prop where
 own:Owd w0 W O
 lt:n<6
 mv:Mov (a69 n) wr owr W O
 c:a1p w0 W O q a N n D
 u:UpS W O a.uv n
 b:p<4->BrS W O a.bv ((List.range n).map a.bg)
 b4:p=4->BrS W O bv ((List.range n).map a.bg++[g])
 near:p=1->i8 W 1 nv (m5 N n).length ((m5 N n).map (Value.int .i64))
 bro:2<=p->Bro W O (20+20*n) g n (m5 N n) ⟨[],fun _=>RS.zero⟩
 one:p=3->i8 W 1 (.slice (some ⟨b1,0,none⟩) 1 1) 1 [ptr g]
 fl:∀x,fl=some x->i8 W 1 (.slice (some ⟨x,0,none⟩) 1 1) 1 [.bool true]/\O x=0/\x<W.heap.size
section
variable {w0 wr W W':World} {owr O O':Ow} {q n p g b1:Nat} {a:NAd} {N:List (List Int)} {D:List (Int×Int×Int)} {nv bv:Value} {fl:Option Nat}
theorem NwS.still (h:NwS w0 wr owr q a N n D p nv g b1 bv fl W O) (hm:Mod (fun _=>False) W W'):NwS w0 wr owr q a N n D p nv g b1 bv fl W' O:=by
 have s:=Mov.of h.own hm (fun _=>False)
 exact ⟨s.owd h.own id,h.lt,h.mv.trans (s.mono (fun _ h=>h.elim)),h.c.mov h.own h.lt s (fun _ h=>h.elim),h.u.mov s id (fun _ _=>trivial),fun e=>(h.b e).mov s id (fun _ _=>trivial),fun e=>(h.b4 e).mov s id (fun _ _=>trivial),fun e=>(h.near e).mod hm zi,fun e=>(h.bro e).mov h.own s id (fun _ h=>h.elim),fun e=>(h.one e).mod hm zi,fun x hx=>by
  obtain ⟨h1,h2,h3⟩:=h.fl x hx
  exact ⟨h1.mod hm zi,h2,zz13 h3 hm.size⟩⟩
theorem NwS.flo (h:NwS w0 wr owr q a N n D p nv g b1 bv none W O) (ha:W.alloc (.cells #[.bool true] 4)=W'):NwS w0 wr owr q a N n D p nv g b1 bv (some W.heap.size) W' O:=by
 have hm:Mod (fun _=>False) W W':=ha▸(Mod.refl _ W).alloc _;have h1:=h.still hm;have hz:W'.heap.size=W.heap.size+1:=by rw [<-ha];simp
 refine ⟨h1.own,h1.lt,h1.mv,h1.c,h1.u,h1.b,h1.b4,h1.near,h1.bro,h1.one,fun x hx=> ?_⟩;cases hx
 exact ⟨ha▸i8.one W [.bool true] 4 rfl,h.own.zero (Nat.le_refl _),zo⟩
theorem NwS.near_ {v:Value} (h:NwS w0 wr owr q a N n D 0 nv g b1 bv fl W O) (hv:i8 W' 1 v (m5 N n).length ((m5 N n).map (Value.int .i64))) (hm:Mod (fun _=>False) W W'):NwS w0 wr owr q a N n D 1 v g b1 bv fl W' O:=by
 have h1:=h.still hm;exact ⟨h1.own,h1.lt,h1.mv,h1.c,h1.u,fun _=>h1.b zo,fun e=>zo,fun _=>hv,fun e=>zo,fun e=>zo,h1.fl⟩
theorem NwS.bnew {g':Nat} (h:NwS w0 wr owr q a N n D 1 nv g b1 bv fl W O) (ho:Owd w0 W' O') (hb:Bro W' O' (20+20*n) g' n (m5 N n) ⟨[],fun _=>RS.zero⟩) (s:Mov (fun t=>20+20*n<=t/\t<20+20*n+18) W O W' O'):NwS w0 wr owr q a N n D 2 nv g' b1 bv fl W' O':=by
 have hlt:=h.lt;refine ⟨ho,h.lt,h.mv.trans (s.mono (fun t ht=> .inr (.inr ht))),h.c.mov h.own h.lt s (fun t ht=> .inr (.inr (.inr ht))),h.u.mov s zo (fun _ _=>trivial),fun _=>(h.b zo).mov s zo (fun _ _=>trivial),fun e=>zo,fun e=>zo,fun _=>hb,fun e=>zo,fun x hx=> ?_⟩;obtain ⟨h1,h2,h3⟩:=h.fl x hx
 exact ⟨h1.mod s.md (fun b hb hf=>by
  have hb':x=b:=Option.some.inj hb;subst hb';have hf':20+20*n<=O x/\O x<20+20*n+18:=hf
  omega),by rw [s.old x h3];exact h2,zz13 h3 s.md.size⟩
theorem NwS.slc (h:NwS w0 wr owr q a N n D 2 nv g b1 bv fl W O) (ha:W.alloc (.cells #[.pointer (some ⟨g,0,none⟩)] 90)=W'):NwS w0 wr owr q a N n D 3 nv g W.heap.size bv fl W' O:=by
 have hm:Mod (fun _=>False) W W':=ha▸(Mod.refl _ W).alloc _;have h1:=h.still hm;exact ⟨h1.own,h1.lt,h1.mv,h1.c,h1.u,fun _=>h1.b zo,fun e=>zo,fun e=>zo,fun _=>h1.bro zo,fun _=>ha▸i8.one W [ptr g] 90 rfl,h1.fl⟩
theorem b27 (X:List Nat):X.flatMap (fun g:Nat=>[ptr g])=X.map fun g=>ptr g:=by
 induction X with
 |nil=>rfl
 |cons x X ih=>rw [List.flatMap_cons,ih];rfl
theorem b0A (n:Nat):(List.replicate n true).flatMap (fun b:Bool=>[Value.bool b])=List.replicate n (.bool true):=by
 induction n with
 |zero=>rfl
 |succ n ih=>rw [List.replicate_succ,List.flatMap_cons,ih];rfl
theorem NwS.app {v:Value} (h:NwS w0 wr owr q a N n D 3 nv g b1 bv fl W O) (hA:B9 W 90 1 a.bv (n+1) (((List.range n).map a.bg).flatMap (fun g:Nat=>[ptr g])++[ptr g]) v W'):∃O',NwS w0 wr owr q a N n D 4 nv g b1 v fl W' O':=by
 have hlt:=h.lt;have hb:=h.b zo;have hl:((List.range n).map a.bg).length=n:=by rw [zz10,List.length_range]
 obtain ⟨O',h1,s, -⟩:=hb.app (x:=g) (Mod.refl _ W) (by rw [hl];exact hA) (fun _ _ _ _=>trivial);refine ⟨O',s.owd h.own zo,h.lt,h.mv.trans (s.mono (fun t ht=> .inl ht)),h.c.mov h.own h.lt s (fun t ht=> .inr (.inl ht)),h.u.mov s zo (fun _ _=>trivial),fun e=>zo,fun _=>h1,fun e=>zo,fun _=>(h.bro zo).mov h.own s zo (fun t ht=>zo),fun e=>zo,fun x hx=> ?_⟩;obtain ⟨h1,h2,h3⟩:=h.fl x hx
 exact ⟨h1.mod s.md (fun b hb hf=>by
  have hb':x=b:=Option.some.inj hb;subst hb';have hf':O x=4:=hf
  omega),by rw [s.old x h3];exact h2,zz13 h3 s.md.size⟩
structure NwE (w0 wr:World) (owr:Ow) (q:Nat) (a:NAd) (N:List (List Int)) (n:Nat) (D:List (Int×Int×Int)) (g:Nat) (bv uv:Value) (W:World) (O:Ow):Prop where
 own:Owd w0 W O
 lt:n<6
 mv:Mov (a69 n) wr owr W O
 c:a1p w0 W O q a N n D
 u:UpS W O uv (n+1)
 b:BrS W O bv ((List.range n).map a.bg++[g])
 bro:Bro W O (20+20*n) g n (m5 N n) ⟨[],fun _=>RS.zero⟩
theorem NwS.last {v:Value} (h:NwS w0 wr owr q a N n D 4 nv g b1 bv fl W O) (hA:B9 W 4 1 a.uv (n+1) ((List.replicate n true).flatMap (fun b:Bool=>[Value.bool b])++[.bool true]) v W'):∃O',NwE w0 wr owr q a N n D g bv v W' O':=by
 have hlt:=h.lt;obtain ⟨O',h1,s, -⟩:=h.u.app (x:=true) (Mod.refl _ W) (by rw [List.length_replicate];exact hA) (fun _ _ _ _=>trivial);rw [<-List.replicate_succ'] at h1;exact ⟨O',s.owd h.own zo,h.lt,h.mv.trans (s.mono (fun t ht=> .inr (.inl ht))),h.c.mov h.own h.lt s (fun t ht=> .inr (.inr (.inl ht))),h1,(h.b4 rfl).mov s zo (fun _ _=>trivial),(h.bro zo).mov h.own s zo (fun t ht=>zo)⟩
theorem NwE.store {uv:Value} (h:NwE w0 wr owr q a N n D g bv uv W O):∃W',(W.setCell ⟨q,2,none⟩ bv).setCell ⟨q,3,none⟩ uv=W'/\Owd w0 W' O/\Mov (fun t=>t=2\/a69 n t) wr owr W' O/\
 a1p w0 W' O q {a with bv:=bv,uv:=uv,bg:=upd a.bg n g} N (n+1) D/\BrS W' O bv ((List.range (n+1)).map (upd a.bg n g))/\UpS W' O uv (n+1):=by
 have hlt:=h.lt;have m1:Mod (fun k=>k=q) W ((W.setCell ⟨q,2,none⟩ bv).setCell ⟨q,3,none⟩ uv):=((Mod.refl (fun k=>k=q) W).setCell (fun _=>rfl) _).setCell (fun _=>rfl) _;have s:Mov (fun t=>t=2) W O ((W.setCell ⟨q,2,none⟩ bv).setCell ⟨q,3,none⟩ uv) O:=Mov.wrote h.own m1 (fun k hk=>by have hk':k=q:=hk;rw [hk'];exact h.c.tag);have ho:=s.owd h.own zo;have hr1:(W.setCell ⟨q,2,none⟩ bv).heap[q]? =some (.cells ((a.v::a.rest fun _=>0).toArray.setIfInBounds 2 bv) 54 (0,0)):=j6 h.c.row;have hr2:((W.setCell ⟨q,2,none⟩ bv).setCell ⟨q,3,none⟩ uv).heap[q]? =some (.cells (((a.v::a.rest fun _=>0).toArray.setIfInBounds 2 bv).setIfInBounds 3 uv) 54 (0,0)):=j6 hr1;refine ⟨_,rfl,ho,(h.mv.mono (fun t ht=> .inr ht)).trans (s.mono (fun t ht=> .inl ht)),⟨s.mod0 h.own h.c.base zo,hr2,h.c.tag,h.c.nv,fun i hi=> ?_,h.c.lnk.mov s zo zo (fun i j t e=>by have:=O9 i j t;omega),l7 h.c.tm.1 h.c.tm.2 s zo,l7 h.c.om.1 h.c.om.2 s zo,l7 h.c.sm.1 h.c.sm.2 s zo⟩, ?_,h.u.mov s zo (fun _ _=>trivial)⟩
 ·show Bro _ O (20+20*i) (upd a.bg n g i) i _ _;by_cases e:i=n
  ·subst e;rw [J0];exact h.bro.mov h.own s zo (fun t ht=>zo)
  rw [L9 _ _ e];exact (h.c.bro i zo).mov h.own s zo (fun t ht=>zo)
 have e:(List.range (n+1)).map (upd a.bg n g)=(List.range n).map a.bg++[g]:=by
  rw [List.range_succ,List.map_append];congr 1
  ·exact List.map_congr_left fun i hi=>L9 _ _ (by have:=List.mem_range.1 hi;omega)
  exact congrArg (fun x=>[x]) (J0 _ _ _)
 rw [e];exact h.b.mov s zo (fun _ _=>trivial)
end
theorem a1p.put {w0 w w1:World} {ow:Ow} {q m:Nat} {a:NAd} {N:List (List Int)} {D:List (Int×Int×Int)} {i j t:Int} (h:a1p w0 w ow q a N m D) (hw:Owd w0 w ow) (hm:m<=6) (hD:D.length<1000) (hi:wfI i) (hj:wfI j) (ht:wfI t)
 (ha:w.alloc (.cells #[.int .i64 0,.slice none 0 0,.int .i64 0,.slice none 0 0,.slice none 0 0,.int .i64 0,.int .i64 0] 89)=w1):
 ∃w2 ow1,(Instr.mapUpdate 47 (.map (some a.lm)) (.agg #[.int .i64 i,.int .i64 j,.int .i64 t]) (.pointer (some ⟨w.heap.size,0,none⟩))).run Tryz.prog w1= .ok () w2/\Owd w0 w2 ow1/\
  a1p w0 w2 ow1 q {a with lb:=b0w a.lb i j t w.heap.size} N m (D++[(i,j,t)])/\Mov (fun x=>x=6\/x=cl i j t) w ow w2 ow1:=by
 have hge:=O9 i j t;obtain ⟨hL,s1⟩:=b0x hw (cl i j t) ha;have ho1:=s1.owd hw zo;obtain ⟨w2,hrun,hl2,s2, -⟩:=h.lnk.put ho1 hD hi hj ht s1 hL;have ho2:=s2.owd ho1 zo;have s:=(s1.mono (G:=fun x=>x=6\/x=cl i j t) (fun x hx=> .inr hx)).trans (s2.mono (fun x hx=> .inl hx));have hq:=(zz7 h.row).1;refine ⟨w2,_,hrun,ho2,⟨s.mod0 hw h.base zo,s.md.heap h.row (fun hf=> ?_),by rw [s.old q hq];exact h.tag,h.nv,fun i hi=>(h.bro i hi).mov hw s zo (fun t ht=>zo),hl2,l7 h.tm.1 h.tm.2 s zo,l7 h.om.1 h.om.2 s zo,l7 h.sm.1 h.sm.2 s zo⟩,s⟩;have hf':ow q=6\/ow q=cl i j t:=hf;rw [h.tag] at hf';omega
theorem a8n {w0 w w1 w2 w3 w4 w5:World} {ow:Ow} (hw:Owd w0 w ow) (hb:Mod (fun _=>False) w0 w) (tp:Nat) (N:List (List Int)) (h1:w.alloc (.map #[] 0)=w1) (h2:w1.alloc (.map #[] 0)=w2) (h3:w2.alloc (.map #[] 0)=w3) (h4:w3.alloc (.map #[] 0)=w4)
 (h5:w4.alloc (.cells #[.slice none 0 0,ptr tp,.slice none 0 0,.slice none 0 0,.map (some w.heap.size),.map (some w1.heap.size),.map (some w2.heap.size),.map (some w3.heap.size),.int .i64 0,.int .i64 0,.int .i64 0,.int .i64 0,.slice none 0 0,.slice none 0 0] 54)=w5):
 ∃o5,Owd w0 w5 o5/\Mov (fun t=>2<=t) w ow w5 o5/\a1p w0 w5 o5 w4.heap.size ⟨.slice none 0 0,tp,.slice none 0 0,.slice none 0 0,w.heap.size,w1.heap.size,w2.heap.size,w3.heap.size,.slice none 0 0,.slice none 0 0,fun _=>0,fun _ _ _=>0⟩ N 0 []:=by
 subst h1 h2 h3 h4 h5;have m1:=l8.made w 101;have m2:=l8.made (w.alloc (.map #[] 0)) 122;have m3:=l8.made ((w.alloc (.map #[] 0)).alloc (.map #[] 0)) 122;have m4:=l8.made (((w.alloc (.map #[] 0)).alloc (.map #[] 0)).alloc (.map #[] 0)) 122;have s1:=Mov.alloc (F:=fun t=>t=6) hw (.map #[] 0) 6 (.inr (.inr rfl));have o1:=s1.owd hw zo;have s2:=Mov.alloc (F:=fun t=>t=7) o1 (.map #[] 0) 7 (.inr (.inr rfl));have o2:=s2.owd o1 zo;have s3:=Mov.alloc (F:=fun t=>t=8) o2 (.map #[] 0) 8 (.inr (.inr rfl));have o3:=s3.owd o2 zo;have s4:=Mov.alloc (F:=fun t=>t=9) o3 (.map #[] 0) 9 (.inr (.inr rfl));have o4:=s4.owd o3 zo;have s5:=Mov.alloc (F:=fun t=>t=2) o4 (.cells #[.slice none 0 0,ptr tp,.slice none 0 0,.slice none 0 0,.map (some w.heap.size),.map (some (w.alloc (.map #[] 0)).heap.size),.map (some ((w.alloc (.map #[] 0)).alloc (.map #[] 0)).heap.size),.map (some (((w.alloc (.map #[] 0)).alloc (.map #[] 0)).alloc (.map #[] 0)).heap.size),.int .i64 0,.int .i64 0,.int .i64 0,.int .i64 0,.slice none 0 0,.slice none 0 0] 54) 2 (.inr (.inr rfl));have o5:=s5.owd o4 zo;have t1:Q0 ow w.heap.size 6 w.heap.size=6:=C7 _ _ _;obtain ⟨a1,b1⟩:=l7 m1 t1 s2 zo;obtain ⟨a1,b1⟩:=l7 a1 b1 s3 zo;obtain ⟨a1,b1⟩:=l7 a1 b1 s4 zo;obtain ⟨a1,b1⟩:=l7 a1 b1 s5 zo;obtain ⟨a2,b2⟩:=l7 m2 (C7 _ _ _) s3 zo;obtain ⟨a2,b2⟩:=l7 a2 b2 s4 zo;obtain ⟨a2,b2⟩:=l7 a2 b2 s5 zo;obtain ⟨a3,b3⟩:=l7 m3 (C7 _ _ _) s4 zo;obtain ⟨a3,b3⟩:=l7 a3 b3 s5 zo;obtain ⟨a4,b4⟩:=l7 m4 (C7 _ _ _) s5 zo;have hmd:=(((((Mod.refl (fun _=>False) w).alloc (.map #[] 0)).alloc (.map #[] 0)).alloc (.map #[] 0)).alloc (.map #[] 0)).alloc (.cells #[.slice none 0 0,ptr tp,.slice none 0 0,.slice none 0 0,.map (some w.heap.size),.map (some (w.alloc (.map #[] 0)).heap.size),.map (some ((w.alloc (.map #[] 0)).alloc (.map #[] 0)).heap.size),.map (some (((w.alloc (.map #[] 0)).alloc (.map #[] 0)).alloc (.map #[] 0)).heap.size),.int .i64 0,.int .i64 0,.int .i64 0,.int .i64 0,.slice none 0 0,.slice none 0 0] 54);refine ⟨_,o5,((((s1.mono (fun t ht=>zo)).trans (s2.mono (fun t ht=>zo))).trans (s3.mono (fun t ht=>zo))).trans (s4.mono (fun t ht=>zo))).trans (s5.mono (fun t ht=>zo)),hb.trans hmd zi, ?_,C7 _ _ _,⟨rfl,rfl,rfl⟩,fun i hi=>absurd hi (Nat.not_lt_zero i),⟨b1,⟨0,_,a1,Nat.zero_le _,fun i j t _ _ _=>rfl⟩,fun i j t h=>(by cases h),fun i j t h=>(by cases h)⟩,⟨a2,b2⟩,⟨a3,b3⟩,⟨a4,b4⟩⟩;exact heap_alloc_new _ _
end
section
open Go.RowKit
theorem a1L:B7 Tryz.prog 46 4 1 1:=I8 zk zk
theorem a7a:B7 Tryz.prog 45 90 1 8:=I8 zk zk
def NwC (q:Nat) (bv uv:Value) (y:World):Prop:=y.cell? ⟨q,2,none⟩=some bv/\y.cell? ⟨q,3,none⟩=some uv
theorem NwS.cells {w0 wr W:World} {owr O:Ow} {q n p g b1:Nat} {a:NAd} {N:List (List Int)} {D:List (Int×Int×Int)} {nv bv:Value} {fl:Option Nat} (h:NwS w0 wr owr q a N n D p nv g b1 bv fl W O):NwC q a.bv a.uv W:=⟨d6 h.c.row rfl,d6 h.c.row rfl⟩
def NwR (w0 w:World) (ow:Ow) (q tp:Nat) (N:List (List Int)) (i:Value) (wr:World):Prop:=∃(n:Nat) (owr:Ow) (a:NAd),i= .int .i64 n/\n<=N.length/\Owd w0 wr owr/\a1p w0 wr owr q a N n (r7 N n)/\BrS wr owr a.bv ((List.range n).map a.bg)/\UpS wr owr a.uv n/\a.tp=tp/\Mov (fun t=>2<=t) w ow wr owr
def NwL (w0 w:World) (ow:Ow) (q tp:Nat) (N:List (List Int)) (n:Nat) (D:List (Int×Int×Int)) (wr:World):Prop:=∃(owr:Ow) (a:NAd),Owd w0 wr owr/\a1p w0 wr owr q a N (n+1) D/\BrS wr owr a.bv ((List.range (n+1)).map a.bg)/\UpS wr owr a.uv (n+1)/\a.tp=tp/\Mov (fun t=>2<=t) w ow wr owr
def NwM (w0 w:World) (ow:Ow) (q tp:Nat) (N:List (List Int)) (n:Nat) (i:Value) (wr:World):Prop:=∃m:Nat,i= .int .i64 m/\m<=(m5 N n).length/\NwL w0 w ow q tp N n (r7 N n++y6 N n m) wr
def NwT (w0 w:World) (ow:Ow) (q tp:Nat) (N:List (List Int)) (n m:Nat) (y:Int) (i:Value) (wr:World):Prop:=∃u:Nat,i= .int .i64 ((u:Int) - 1)/\u<=5/\NwL w0 w ow q tp N n (r7 N n++y6 N n m++I6 n y u) wr
theorem a9a (w0 w:World) (ow:Ow) (hw:Owd w0 w ow) (hb:Mod (fun _=>False) w0 w) (tp:Nat) (N:List (List Int)) (hT:U0 w0 tp N) (hN:NOk N) (hpos:0<N.length):
 Calls Tryz.prog 9 #[.pointer (some ⟨tp,0,none⟩)] w fun e w'=>∃q ow',e= .returned (.pointer (some ⟨q,0,none⟩))/\X1 w0 w' ow' q tp (NS.new N) 0 0/\Mov (fun t=>2<=t) w ow w' ow':=by
 have hlen:∀y,Mod (fun _=>False) w0 y->Calls Tryz.prog 12 #[.pointer (some ⟨tp,0,none⟩)] y fun e w'=>e= .returned (.int .i64 N.length)/\y=w':=fun y hy=>(a5G y tp N (hT.mod hy)).mono fun e w' ⟨he,hw'⟩=>⟨he,hw'.symm⟩;have rO:=hN.len;have dS:∀y (n:Nat),Mod (fun _=>False) w0 y->Calls Tryz.prog 25 #[.pointer (some ⟨tp,0,none⟩),.int .i64 n] y fun e w'=>∃v',e= .returned v'/\g7 w' 3 1 v' (m5 N n).length (F9 (m5 N n))/\Mod (fun _=>False) y w'/\∀b,v'.ownBlock=some b->y.heap.size<=b:=fun y n hy=>a3T y tp N n (hT.mod hy) zo hN.each;obtain ⟨w1,hw1⟩:∃y,w.alloc (.map #[] 0)=y:=⟨_,rfl⟩;obtain ⟨w2,hw2⟩:∃y,w1.alloc (.map #[] 0)=y:=⟨_,rfl⟩;obtain ⟨w3,hw3⟩:∃y,w2.alloc (.map #[] 0)=y:=⟨_,rfl⟩;obtain ⟨w4,hw4⟩:∃y,w3.alloc (.map #[] 0)=y:=⟨_,rfl⟩;obtain ⟨w5,gN⟩:∃y,w4.alloc (.cells #[.slice none 0 0,.pointer (some ⟨tp,0,none⟩),.slice none 0 0,.slice none 0 0,.map (some w.heap.size),.map (some w1.heap.size),.map (some w2.heap.size),.map (some w3.heap.size),.int .i64 0,.int .i64 0,.int .i64 0,.int .i64 0,.slice none 0 0,.slice none 0 0] 54)=y:=⟨_,rfl⟩;obtain ⟨o5,gI,bR,FT⟩:=a8n hw hb tp N hw1 hw2 hw3 hw4 gN;obtain ⟨q,hq⟩:∃q,w4.heap.size=q:=⟨_,rfl⟩;rw [hq] at FT;have hrel:NwR w0 w ow q tp N (.int .i64 0) w5:=⟨0,o5,_,rfl,Nat.zero_le _,gI,FT,GrS.nil _ _ _ _ _ _ _,GrS.nil _ _ _ _ _ _ _,rfl,bR⟩;have FU:=hlen w5 FT.base;have Qf:(N.length:Int)<=6:=zo
 refine hh8 hw hb hT hN hlen dS gI FT fun Hw Hb HT HN Hlen kK jm XR=> ?_;refine hh3 bR hrel FU fun gD uF MM=> ?_;clear hw hb hT hN hlen dS gI FT bR hrel FU
 go_enter Tryz.func9,Tryz.ntmps9
 go_wp2_with fail
 refine MM.out.mono ?_;rintro e w9 ⟨rfl,h9⟩;subst h9
 go_wp2_with fail
 go_loopw [17] (fun i wr=>NwR w0 w ow q tp N i wr) (fun i _=>N.length - (intOf i).toNat)
 case atStart=>exact uF.out
 case round=>
  obtain ⟨n,owr,a,rfl,hn,how,hC,hB,hU,htp,hm⟩:=hrel;by_cases hlt:n<N.length
  ·have hlt':(n:Int)<N.length:=zo
   have Vt:n<6:=zo
   obtain ⟨wq,rfl⟩:∃y:World,y=wr:=⟨_,rfl⟩;have h00:NwS w0 wq owr q a N n (r7 N n) 0 (.int .i64 0) 0 0 (.int .i64 0) none wq owr:=⟨how,Vt,Mov.refl how,hC,hU,fun _=>hB,fun e=>zo,fun e=>zo,fun e=>zo,fun e=>zo,fun x hx=>(by cases hx)⟩;have h0:=h00.still ((Mod.refl (fun _=>False) wq).drew);obtain ⟨wY,MN⟩:∃y:World,wq.drew=y:=⟨_,rfl⟩;rw [MN] at h0;clear h00;refine hh6 how hC hB hU htp hm fun How HC HB HU MO Hm=> ?_;clear how hC hB hU htp hm
   go_wp2_with fail
   refine M1 [0,1,2,3,4,5,6,7,8,13,14,15,16,9,10,11,12,17] (NwC q a.bv a.uv) zk zk (fun _ _ d _ _ h=>(by cases d<;>exact h)) ?_;rw [MN];clear MN;have hS:=h0.cells;refine wan 0 hS fun K hK=> ?_;go_simp;refine hK _ ?_;clear hK K;refine wan 1 hS fun K hK=> ?_;go_simp;refine hK _ ?_;clear hK K;refine wan 2 hS fun K hK=> ?_;go_simp;refine hK _ ?_;clear hK K;refine wan 3 hS fun K hK=> ?_;go_simp;refine hK _ ?_;clear hK K;refine wan 4 hS fun K hK=> ?_;go_simp;refine hK _ ?_;clear hK K;refine wan 5 hS fun K hK=> ?_;go_simp;refine hK _ ?_;clear hK K;refine wan 6 hS fun K hK=> ?_;go_simp;refine hK _ ?_;clear hK K;refine wan 7 hS fun K hK=> ?_;go_simp;refine hK _ ?_;clear hK K;refine wan 8 hS fun K hK=> ?_;go_simp;refine hK _ ?_;clear hK K;refine wan 13 hS fun K hK=> ?_;go_simp;refine hK _ ?_;clear hK K;refine wan 14 hS fun K hK=> ?_;go_simp;refine hK _ ?_;clear hK K;refine wan 15 hS fun K hK=> ?_;go_simp;refine hK _ ?_;clear hK K;refine wan 16 hS fun K hK=> ?_;go_simp;refine hK _ ?_;clear hK K;clear hS;refine a0D (i:=9) (j:=17) zk (g8 rfl ?a1 (fun K hK=> ?b1)) (g8 rfl ?a2 (fun K hK=> ?b2))
   case a1=>
    (try simp only [zz1,zz2,zz3]);go_simp;done
   case a2=>
    (try simp only [zz1,zz2,zz3]);go_simp;done
   case' b1=>
    go_wp2_with fail
    refine (kK.out wY n h0.c.base).mono ?_;rintro e y2 ⟨v,rfl,hv,hm, -⟩;obtain ⟨va,vc,rfl,lI⟩:∃a cc,v= .slice a (m5 N n).length cc/\(m5 N n).length<=cc:=by obtain ⟨-,a,cc,h,h2, -⟩:=hv.rd;exact ⟨a,cc,h,h2⟩
    have h1:=h0.near_ hv.rd hm;refine hK _ _ (fun _ _=>h1.cells) ?_;clear hK K hv hm lI h0;refine a0D (i:=10) (j:=17) zk (g8 rfl ?a3 (fun K hK=> ?b3)) (g8 rfl ?a4 (fun K hK=> ?b4))
    case a3=>
     (try simp only [zz1,zz2,zz3]);go_simp;done
    case a4=>
     (try simp only [zz1,zz2,zz3]);go_simp;done
    case' b3=>
     go_wp2_with fail
     refine (a2V w0 y2 _ (20+20*n) h1.own zo n (.slice va (m5 N n).length vc) (m5 N n) (h1.near rfl) (by have:=HN.out.nl n;omega)).mono ?_;rintro e y5 ⟨g,o6,rfl,ho,hb,hm⟩;have h4:=h1.bnew ho hb hm;refine hK _ _ (fun _ _=>h4.cells) ?_;clear hK K ho hb hm h1;refine a0D (i:=11) (j:=17) zk (g8 rfl ?a5 (fun K hK=> ?b5)) (g8 rfl ?a6 (fun K hK=> ?b6))
     case a5=>
      (try simp only [zz1,zz2,zz3]);go_simp;done
     case a6=>
      (try simp only [zz1,zz2,zz3]);go_simp;done
     case' b5=>
      (try simp only [zz1,zz2,zz3]);go_simp;obtain ⟨y8,ey8⟩:∃y:World,y5.alloc (.cells #[.pointer (some ⟨g,0,none⟩)] 90)=y:=⟨_,rfl⟩;have h7:=h4.slc ey8;rw [ey8];refine hK _ _ (fun _ _=>h7.cells) ?_;clear hK K ey8 h4;obtain ⟨y8b,ey8b⟩:∃b,y5.heap.size=b:=⟨_,rfl⟩;rw [ey8b] at h7⊢;clear ey8b;refine a0D (i:=12) (j:=17) zk (g8 rfl ?a7 (fun K hK=> ?b7)) (g8 rfl ?a8 (fun K hK=> ?b8))
      case a7=>
       (try simp only [zz1,zz2,zz3]);go_simp;done
      case a8=>
       (try simp only [zz1,zz2,zz3]);go_simp;done
      case' b7=>
       (try simp only [zz1,zz2,zz3]);refine l5 (.tmp 25) (.tmp 31) 45 rfl 90 1 8 a7a a.bv n (((List.range n).map a.bg).flatMap fun g:Nat=>[ptr g]) rfl (by have:=(h7.b zo).sl;rwa [zz10,List.length_range] at this) _ 1 [ptr g] rfl (h7.one rfl) (fun u hu=>by cases List.mem_singleton.1 hu;rfl) zo (by unfold maxLen;omega) (fun ad4 cap4 y11 iK=> ?_);obtain ⟨o12,h10⟩:=h7.app iK;refine hK _ _ (fun _ _=>h10.cells) ?_;clear hK K iK h7;refine j9 (i:=17) zk (g8 rfl ?_ (fun K hK=> ?_))
       ·exact zg
       (try simp only [zz1,zz2,zz3]);go_simp;obtain ⟨y14,ey14⟩:∃y:World,y11.alloc (.cells #[.bool true] 4)=y:=⟨_,rfl⟩;have AV:=h10.flo ey14;rw [ey14];refine hK _ _ (fun _ _=>AV.cells) ?_;clear hK K ey14 h10;obtain ⟨y14x,ey14x⟩:∃b,y11.heap.size=b:=⟨_,rfl⟩;rw [ey14x] at AV⊢;clear ey14x;refine j9 (i:=18) zk (g8 rfl ?_ (fun K hK=> ?_))
       ·exact zg
       (try simp only [zz1,zz2,zz3]);refine l5 (.tmp 36) (.tmp 37) 46 rfl 4 1 1 a1L a.uv n ((List.replicate n true).flatMap fun b:Bool=>[Value.bool b]) rfl (by have:=AV.u.sl;rwa [List.length_replicate] at this) (.slice (some ⟨y14x,0,none⟩) 1 1) 1 [.bool true] rfl (AV.fl _ rfl).1 zd zo (by unfold maxLen;omega) (fun ad5 cap5 w6 kV=> ?_);obtain ⟨oF,hE⟩:=AV.last kV;refine hK _ _ (fun h=>absurd h zd) ?_;clear hK K kV AV;refine J3 (i:=19) zk rfl ?_ (fun h=>absurd h zd) ?_ (fun w0 _=> ?_) (fun K hK=> ?_)
       ·exact zg
       rotate_left
       ·(try simp only [zz1,zz2,zz3]);go_simp;with_reducible rfl
       (try simp only [zz1,zz2,zz3]);go_simp;refine hK _ ?_;clear hK K;refine J3 (i:=20) zk rfl ?_ (fun h=>absurd h zd) ?_ (fun w0 _=> ?_) (fun K hK=> ?_)
       ·exact zg
       rotate_left
       ·(try simp only [zz1,zz2,zz3]);go_simp;with_reducible rfl
       (try simp only [zz1,zz2,zz3]);go_simp;refine hK _ ?_;clear hK K;refine j9 (i:=21) zk (g8 rfl ?_ (fun K hK=> ?_))
       ·exact zg
       (try simp only [zz1,zz2,zz3]);have z2:w6.frozen? ⟨q,2,none⟩=false:=r9 hE.c.row;have y2:w6.cell? ⟨q,2,none⟩=some a.bv:=d6 hE.c.row rfl;go_simp;refine hK _ _ (fun h=>absurd h zd) ?_;clear hK K z2 y2;refine J3 (i:=22) zk rfl ?_ (fun h=>absurd h zd) ?_ (fun w0 _=> ?_) (fun K hK=> ?_)
       ·exact zg
       rotate_left
       ·(try simp only [zz1,zz2,zz3]);go_simp;with_reducible rfl
       (try simp only [zz1,zz2,zz3]);go_simp;refine hK _ ?_;clear hK K;refine J3 (i:=23) zk rfl ?_ (fun h=>absurd h zd) ?_ (fun w0 _=> ?_) (fun K hK=> ?_)
       ·exact zg
       rotate_left
       ·(try simp only [zz1,zz2,zz3]);go_simp;with_reducible rfl
       (try simp only [zz1,zz2,zz3]);go_simp;refine hK _ ?_;clear hK K;refine j9 (i:=24) zk (g8 rfl ?_ (fun K hK=> ?_))
       ·exact zg
       (try simp only [zz1,zz2,zz3]);obtain ⟨wF,hwF,kW,dh,kX,kY,kZ⟩:=hE.store;have iH:=j6 (i:=2) (v:=(.slice ad4 (n+1) cap4)) hE.c.row;have z3:=r9 (j:=3) iH;have y3:_=some a.uv:=d6 (j:=3) iH rfl;clear iH;go_simp;refine hK _ _ (fun h=>absurd h zd) ?_;clear hK K z3 y3;refine T9 zk ?_;clear hwF;refine hh5 kW dh kX kY kZ fun rQ tK zR AX AY=> ?_;clear kW dh kX kY kZ hE
      case' b8=>
       (try simp only [zz1,zz2,zz3]);go_simp;obtain ⟨y16,ey16⟩:∃y:World,y8.alloc (.cells #[.bool true] 4)=y:=⟨_,rfl⟩;have AZ:=h7.flo ey16;rw [ey16];refine hK _ _ (fun _ _=>AZ.cells) ?_;clear hK K ey16 h7;obtain ⟨y16x,ey16x⟩:∃b,y8.heap.size=b:=⟨_,rfl⟩;rw [ey16x] at AZ⊢;clear ey16x;refine j9 (i:=12) zk (g8 rfl ?_ (fun K hK=> ?_))
       ·exact zg
       (try simp only [zz1,zz2,zz3]);refine l5 (.tmp 25) (.tmp 31) 45 rfl 90 1 8 a7a a.bv n (((List.range n).map a.bg).flatMap fun g:Nat=>[ptr g]) rfl (by have:=(AZ.b zo).sl;rwa [zz10,List.length_range] at this) _ 1 [ptr g] rfl (AZ.one rfl) (fun u hu=>by cases List.mem_singleton.1 hu;rfl) zo (by unfold maxLen;omega) (fun ad4 cap4 y18 iK=> ?_);obtain ⟨o19,kT⟩:=AZ.app iK;refine hK _ _ (fun _ _=>kT.cells) ?_;clear hK K iK AZ;refine j9 (i:=18) zk (g8 rfl ?_ (fun K hK=> ?_))
       ·exact zg
       (try simp only [zz1,zz2,zz3]);refine l5 (.tmp 36) (.tmp 37) 46 rfl 4 1 1 a1L a.uv n ((List.replicate n true).flatMap fun b:Bool=>[Value.bool b]) rfl (by have:=kT.u.sl;rwa [List.length_replicate] at this) (.slice (some ⟨y16x,0,none⟩) 1 1) 1 [.bool true] rfl (kT.fl _ rfl).1 zd zo (by unfold maxLen;omega) (fun ad5 cap5 w6 kV=> ?_);obtain ⟨oF,hE⟩:=kT.last kV;refine hK _ _ (fun h=>absurd h zd) ?_;clear hK K kV kT;refine J3 (i:=19) zk rfl ?_ (fun h=>absurd h zd) ?_ (fun w0 _=> ?_) (fun K hK=> ?_)
       ·exact zg
       rotate_left
       ·(try simp only [zz1,zz2,zz3]);go_simp;with_reducible rfl
       (try simp only [zz1,zz2,zz3]);go_simp;refine hK _ ?_;clear hK K;refine J3 (i:=20) zk rfl ?_ (fun h=>absurd h zd) ?_ (fun w0 _=> ?_) (fun K hK=> ?_)
       ·exact zg
       rotate_left
       ·(try simp only [zz1,zz2,zz3]);go_simp;with_reducible rfl
       (try simp only [zz1,zz2,zz3]);go_simp;refine hK _ ?_;clear hK K;refine j9 (i:=21) zk (g8 rfl ?_ (fun K hK=> ?_))
       ·exact zg
       (try simp only [zz1,zz2,zz3]);have z2:w6.frozen? ⟨q,2,none⟩=false:=r9 hE.c.row;have y2:w6.cell? ⟨q,2,none⟩=some a.bv:=d6 hE.c.row rfl;go_simp;refine hK _ _ (fun h=>absurd h zd) ?_;clear hK K z2 y2;refine J3 (i:=22) zk rfl ?_ (fun h=>absurd h zd) ?_ (fun w0 _=> ?_) (fun K hK=> ?_)
       ·exact zg
       rotate_left
       ·(try simp only [zz1,zz2,zz3]);go_simp;with_reducible rfl
       (try simp only [zz1,zz2,zz3]);go_simp;refine hK _ ?_;clear hK K;refine J3 (i:=23) zk rfl ?_ (fun h=>absurd h zd) ?_ (fun w0 _=> ?_) (fun K hK=> ?_)
       ·exact zg
       rotate_left
       ·(try simp only [zz1,zz2,zz3]);go_simp;with_reducible rfl
       (try simp only [zz1,zz2,zz3]);go_simp;refine hK _ ?_;clear hK K;refine j9 (i:=24) zk (g8 rfl ?_ (fun K hK=> ?_))
       ·exact zg
       (try simp only [zz1,zz2,zz3]);obtain ⟨wF,hwF,kW,dh,kX,kY,kZ⟩:=hE.store;have iH:=j6 (i:=2) (v:=(.slice ad4 (n+1) cap4)) hE.c.row;have z3:=r9 (j:=3) iH;have y3:_=some a.uv:=d6 (j:=3) iH rfl;clear iH;go_simp;refine hK _ _ (fun h=>absurd h zd) ?_;clear hK K z3 y3;refine T9 zk ?_;clear hwF;refine hh5 kW dh kX kY kZ fun rQ tK zR AX AY=> ?_;clear kW dh kX kY kZ hE
     case' b6=>
      (try simp only [zz1,zz2,zz3]);go_simp;obtain ⟨y21,ey21⟩:∃y:World,y5.alloc (.cells #[.bool true] 4)=y:=⟨_,rfl⟩;have h20:=h4.flo ey21;rw [ey21];refine hK _ _ (fun _ _=>h20.cells) ?_;clear hK K ey21 h4;obtain ⟨y21x,ey21x⟩:∃b,y5.heap.size=b:=⟨_,rfl⟩;rw [ey21x] at h20⊢;clear ey21x;refine j9 (i:=11) zk (g8 rfl ?_ (fun K hK=> ?_))
      ·exact zg
      (try simp only [zz1,zz2,zz3]);go_simp;obtain ⟨y23,ey23⟩:∃y:World,y21.alloc (.cells #[.pointer (some ⟨g,0,none⟩)] 90)=y:=⟨_,rfl⟩;have h22:=h20.slc ey23;rw [ey23];refine hK _ _ (fun _ _=>h22.cells) ?_;clear hK K ey23 h20;obtain ⟨y23b,ey23b⟩:∃b,y21.heap.size=b:=⟨_,rfl⟩;rw [ey23b] at h22⊢;clear ey23b;refine j9 (i:=12) zk (g8 rfl ?_ (fun K hK=> ?_))
      ·exact zg
      (try simp only [zz1,zz2,zz3]);refine l5 (.tmp 25) (.tmp 31) 45 rfl 90 1 8 a7a a.bv n (((List.range n).map a.bg).flatMap fun g:Nat=>[ptr g]) rfl (by have:=(h22.b zo).sl;rwa [zz10,List.length_range] at this) _ 1 [ptr g] rfl (h22.one rfl) (fun u hu=>by cases List.mem_singleton.1 hu;rfl) zo (by unfold maxLen;omega) (fun ad4 cap4 y26 iK=> ?_);obtain ⟨o27,FV⟩:=h22.app iK;refine hK _ _ (fun _ _=>FV.cells) ?_;clear hK K iK h22;refine j9 (i:=18) zk (g8 rfl ?_ (fun K hK=> ?_))
      ·exact zg
      (try simp only [zz1,zz2,zz3]);refine l5 (.tmp 36) (.tmp 37) 46 rfl 4 1 1 a1L a.uv n ((List.replicate n true).flatMap fun b:Bool=>[Value.bool b]) rfl (by have:=FV.u.sl;rwa [List.length_replicate] at this) (.slice (some ⟨y21x,0,none⟩) 1 1) 1 [.bool true] rfl (FV.fl _ rfl).1 zd zo (by unfold maxLen;omega) (fun ad5 cap5 w6 kV=> ?_);obtain ⟨oF,hE⟩:=FV.last kV;refine hK _ _ (fun h=>absurd h zd) ?_;clear hK K kV FV;refine J3 (i:=19) zk rfl ?_ (fun h=>absurd h zd) ?_ (fun w0 _=> ?_) (fun K hK=> ?_)
      ·exact zg
      rotate_left
      ·(try simp only [zz1,zz2,zz3]);go_simp;with_reducible rfl
      (try simp only [zz1,zz2,zz3]);go_simp;refine hK _ ?_;clear hK K;refine J3 (i:=20) zk rfl ?_ (fun h=>absurd h zd) ?_ (fun w0 _=> ?_) (fun K hK=> ?_)
      ·exact zg
      rotate_left
      ·(try simp only [zz1,zz2,zz3]);go_simp;with_reducible rfl
      (try simp only [zz1,zz2,zz3]);go_simp;refine hK _ ?_;clear hK K;refine j9 (i:=21) zk (g8 rfl ?_ (fun K hK=> ?_))
      ·exact zg
      (try simp only [zz1,zz2,zz3]);have z2:w6.frozen? ⟨q,2,none⟩=false:=r9 hE.c.row;have y2:w6.cell? ⟨q,2,none⟩=some a.bv:=d6 hE.c.row rfl;go_simp;refine hK _ _ (fun h=>absurd h zd) ?_;clear hK K z2 y2;refine J3 (i:=22) zk rfl ?_ (fun h=>absurd h zd) ?_ (fun w0 _=> ?_) (fun K hK=> ?_)
      ·exact zg
      rotate_left
      ·(try simp only [zz1,zz2,zz3]);go_simp;with_reducible rfl
      (try simp only [zz1,zz2,zz3]);go_simp;refine hK _ ?_;clear hK K;refine J3 (i:=23) zk rfl ?_ (fun h=>absurd h zd) ?_ (fun w0 _=> ?_) (fun K hK=> ?_)
      ·exact zg
      rotate_left
      ·(try simp only [zz1,zz2,zz3]);go_simp;with_reducible rfl
      (try simp only [zz1,zz2,zz3]);go_simp;refine hK _ ?_;clear hK K;refine j9 (i:=24) zk (g8 rfl ?_ (fun K hK=> ?_))
      ·exact zg
      (try simp only [zz1,zz2,zz3]);obtain ⟨wF,hwF,kW,dh,kX,kY,kZ⟩:=hE.store;have iH:=j6 (i:=2) (v:=(.slice ad4 (n+1) cap4)) hE.c.row;have z3:=r9 (j:=3) iH;have y3:_=some a.uv:=d6 (j:=3) iH rfl;clear iH;go_simp;refine hK _ _ (fun h=>absurd h zd) ?_;clear hK K z3 y3;refine T9 zk ?_;clear hwF;refine hh5 kW dh kX kY kZ fun rQ tK zR AX AY=> ?_;clear kW dh kX kY kZ hE
    case' b4=>
     (try simp only [zz1,zz2,zz3]);go_simp;obtain ⟨y29,ey29⟩:∃y:World,y2.alloc (.cells #[.bool true] 4)=y:=⟨_,rfl⟩;have Ba:=h1.flo ey29;rw [ey29];refine hK _ _ (fun _ _=>Ba.cells) ?_;clear hK K ey29 h1;obtain ⟨y29x,ey29x⟩:∃b,y2.heap.size=b:=⟨_,rfl⟩;rw [ey29x] at Ba⊢;clear ey29x;refine j9 (i:=10) zk (g8 rfl ?_ (fun K hK=> ?_))
     ·exact zg
     go_wp2_with fail
     refine (a2V w0 y29 _ (20+20*n) Ba.own zo n (.slice va (m5 N n).length vc) (m5 N n) (Ba.near rfl) (by have:=HN.out.nl n;omega)).mono ?_;rintro e y31 ⟨g,o32,rfl,ho,hb,hm⟩;have MP:=Ba.bnew ho hb hm;refine hK _ _ (fun _ _=>MP.cells) ?_;clear hK K ho hb hm Ba;refine j9 (i:=11) zk (g8 rfl ?_ (fun K hK=> ?_))
     ·exact zg
     (try simp only [zz1,zz2,zz3]);go_simp;obtain ⟨y34,ey34⟩:∃y:World,y31.alloc (.cells #[.pointer (some ⟨g,0,none⟩)] 90)=y:=⟨_,rfl⟩;have Bb:=MP.slc ey34;rw [ey34];refine hK _ _ (fun _ _=>Bb.cells) ?_;clear hK K ey34 MP;obtain ⟨y34b,ey34b⟩:∃b,y31.heap.size=b:=⟨_,rfl⟩;rw [ey34b] at Bb⊢;clear ey34b;refine j9 (i:=12) zk (g8 rfl ?_ (fun K hK=> ?_))
     ·exact zg
     (try simp only [zz1,zz2,zz3]);refine l5 (.tmp 25) (.tmp 31) 45 rfl 90 1 8 a7a a.bv n (((List.range n).map a.bg).flatMap fun g:Nat=>[ptr g]) rfl (by have:=(Bb.b zo).sl;rwa [zz10,List.length_range] at this) _ 1 [ptr g] rfl (Bb.one rfl) (fun u hu=>by cases List.mem_singleton.1 hu;rfl) zo (by unfold maxLen;omega) (fun ad4 cap4 y37 iK=> ?_);obtain ⟨o38,FW⟩:=Bb.app iK;refine hK _ _ (fun _ _=>FW.cells) ?_;clear hK K iK Bb;refine j9 (i:=18) zk (g8 rfl ?_ (fun K hK=> ?_))
     ·exact zg
     (try simp only [zz1,zz2,zz3]);refine l5 (.tmp 36) (.tmp 37) 46 rfl 4 1 1 a1L a.uv n ((List.replicate n true).flatMap fun b:Bool=>[Value.bool b]) rfl (by have:=FW.u.sl;rwa [List.length_replicate] at this) (.slice (some ⟨y29x,0,none⟩) 1 1) 1 [.bool true] rfl (FW.fl _ rfl).1 zd zo (by unfold maxLen;omega) (fun ad5 cap5 w6 kV=> ?_);obtain ⟨oF,hE⟩:=FW.last kV;refine hK _ _ (fun h=>absurd h zd) ?_;clear hK K kV FW;refine J3 (i:=19) zk rfl ?_ (fun h=>absurd h zd) ?_ (fun w0 _=> ?_) (fun K hK=> ?_)
     ·exact zg
     rotate_left
     ·(try simp only [zz1,zz2,zz3]);go_simp;with_reducible rfl
     (try simp only [zz1,zz2,zz3]);go_simp;refine hK _ ?_;clear hK K;refine J3 (i:=20) zk rfl ?_ (fun h=>absurd h zd) ?_ (fun w0 _=> ?_) (fun K hK=> ?_)
     ·exact zg
     rotate_left
     ·(try simp only [zz1,zz2,zz3]);go_simp;with_reducible rfl
     (try simp only [zz1,zz2,zz3]);go_simp;refine hK _ ?_;clear hK K;refine j9 (i:=21) zk (g8 rfl ?_ (fun K hK=> ?_))
     ·exact zg
     (try simp only [zz1,zz2,zz3]);have z2:w6.frozen? ⟨q,2,none⟩=false:=r9 hE.c.row;have y2:w6.cell? ⟨q,2,none⟩=some a.bv:=d6 hE.c.row rfl;go_simp;refine hK _ _ (fun h=>absurd h zd) ?_;clear hK K z2 y2;refine J3 (i:=22) zk rfl ?_ (fun h=>absurd h zd) ?_ (fun w0 _=> ?_) (fun K hK=> ?_)
     ·exact zg
     rotate_left
     ·(try simp only [zz1,zz2,zz3]);go_simp;with_reducible rfl
     (try simp only [zz1,zz2,zz3]);go_simp;refine hK _ ?_;clear hK K;refine J3 (i:=23) zk rfl ?_ (fun h=>absurd h zd) ?_ (fun w0 _=> ?_) (fun K hK=> ?_)
     ·exact zg
     rotate_left
     ·(try simp only [zz1,zz2,zz3]);go_simp;with_reducible rfl
     (try simp only [zz1,zz2,zz3]);go_simp;refine hK _ ?_;clear hK K;refine j9 (i:=24) zk (g8 rfl ?_ (fun K hK=> ?_))
     ·exact zg
     (try simp only [zz1,zz2,zz3]);obtain ⟨wF,hwF,kW,dh,kX,kY,kZ⟩:=hE.store;have iH:=j6 (i:=2) (v:=(.slice ad4 (n+1) cap4)) hE.c.row;have z3:=r9 (j:=3) iH;have y3:_=some a.uv:=d6 (j:=3) iH rfl;clear iH;go_simp;refine hK _ _ (fun h=>absurd h zd) ?_;clear hK K z3 y3;refine T9 zk ?_;clear hwF;refine hh5 kW dh kX kY kZ fun rQ tK zR AX AY=> ?_;clear kW dh kX kY kZ hE
   case' b2=>
    (try simp only [zz1,zz2,zz3]);go_simp;obtain ⟨y40,ey40⟩:∃y:World,wY.alloc (.cells #[.bool true] 4)=y:=⟨_,rfl⟩;have FX:=h0.flo ey40;rw [ey40];refine hK _ _ (fun _ _=>FX.cells) ?_;clear hK K ey40 h0;obtain ⟨y40x,ey40x⟩:∃b,wY.heap.size=b:=⟨_,rfl⟩;rw [ey40x] at FX⊢;clear ey40x;refine j9 (i:=9) zk (g8 rfl ?_ (fun K hK=> ?_))
    ·exact zg
    go_wp2_with fail
    refine (kK.out y40 n FX.c.base).mono ?_;rintro e y42 ⟨v,rfl,hv,hm, -⟩;obtain ⟨va,vc,rfl,lI⟩:∃a cc,v= .slice a (m5 N n).length cc/\(m5 N n).length<=cc:=by obtain ⟨-,a,cc,h,h2, -⟩:=hv.rd;exact ⟨a,cc,h,h2⟩
    have FY:=FX.near_ hv.rd hm;refine hK _ _ (fun _ _=>FY.cells) ?_;clear hK K hv hm lI FX;refine j9 (i:=10) zk (g8 rfl ?_ (fun K hK=> ?_))
    ·exact zg
    go_wp2_with fail
    refine (a2V w0 y42 _ (20+20*n) FY.own zo n (.slice va (m5 N n).length vc) (m5 N n) (FY.near rfl) (by have:=HN.out.nl n;omega)).mono ?_;rintro e y45 ⟨g,o46,rfl,ho,hb,hm⟩;have MQ:=FY.bnew ho hb hm;refine hK _ _ (fun _ _=>MQ.cells) ?_;clear hK K ho hb hm FY;refine j9 (i:=11) zk (g8 rfl ?_ (fun K hK=> ?_))
    ·exact zg
    (try simp only [zz1,zz2,zz3]);go_simp;obtain ⟨y48,ey48⟩:∃y:World,y45.alloc (.cells #[.pointer (some ⟨g,0,none⟩)] 90)=y:=⟨_,rfl⟩;have h47:=MQ.slc ey48;rw [ey48];refine hK _ _ (fun _ _=>h47.cells) ?_;clear hK K ey48 MQ;obtain ⟨y48b,ey48b⟩:∃b,y45.heap.size=b:=⟨_,rfl⟩;rw [ey48b] at h47⊢;clear ey48b;refine j9 (i:=12) zk (g8 rfl ?_ (fun K hK=> ?_))
    ·exact zg
    (try simp only [zz1,zz2,zz3]);refine l5 (.tmp 25) (.tmp 31) 45 rfl 90 1 8 a7a a.bv n (((List.range n).map a.bg).flatMap fun g:Nat=>[ptr g]) rfl (by have:=(h47.b zo).sl;rwa [zz10,List.length_range] at this) _ 1 [ptr g] rfl (h47.one rfl) (fun u hu=>by cases List.mem_singleton.1 hu;rfl) zo (by unfold maxLen;omega) (fun ad4 cap4 y51 iK=> ?_);obtain ⟨o52,h50⟩:=h47.app iK;refine hK _ _ (fun _ _=>h50.cells) ?_;clear hK K iK h47;refine j9 (i:=18) zk (g8 rfl ?_ (fun K hK=> ?_))
    ·exact zg
    (try simp only [zz1,zz2,zz3]);refine l5 (.tmp 36) (.tmp 37) 46 rfl 4 1 1 a1L a.uv n ((List.replicate n true).flatMap fun b:Bool=>[Value.bool b]) rfl (by have:=h50.u.sl;rwa [List.length_replicate] at this) (.slice (some ⟨y40x,0,none⟩) 1 1) 1 [.bool true] rfl (h50.fl _ rfl).1 zd zo (by unfold maxLen;omega) (fun ad5 cap5 w6 kV=> ?_);obtain ⟨oF,hE⟩:=h50.last kV;refine hK _ _ (fun h=>absurd h zd) ?_;clear hK K kV h50;refine J3 (i:=19) zk rfl ?_ (fun h=>absurd h zd) ?_ (fun w0 _=> ?_) (fun K hK=> ?_)
    ·exact zg
    rotate_left
    ·(try simp only [zz1,zz2,zz3]);go_simp;with_reducible rfl
    (try simp only [zz1,zz2,zz3]);go_simp;refine hK _ ?_;clear hK K;refine J3 (i:=20) zk rfl ?_ (fun h=>absurd h zd) ?_ (fun w0 _=> ?_) (fun K hK=> ?_)
    ·exact zg
    rotate_left
    ·(try simp only [zz1,zz2,zz3]);go_simp;with_reducible rfl
    (try simp only [zz1,zz2,zz3]);go_simp;refine hK _ ?_;clear hK K;refine j9 (i:=21) zk (g8 rfl ?_ (fun K hK=> ?_))
    ·exact zg
    (try simp only [zz1,zz2,zz3]);have z2:w6.frozen? ⟨q,2,none⟩=false:=r9 hE.c.row;have y2:w6.cell? ⟨q,2,none⟩=some a.bv:=d6 hE.c.row rfl;go_simp;refine hK _ _ (fun h=>absurd h zd) ?_;clear hK K z2 y2;refine J3 (i:=22) zk rfl ?_ (fun h=>absurd h zd) ?_ (fun w0 _=> ?_) (fun K hK=> ?_)
    ·exact zg
    rotate_left
    ·(try simp only [zz1,zz2,zz3]);go_simp;with_reducible rfl
    (try simp only [zz1,zz2,zz3]);go_simp;refine hK _ ?_;clear hK K;refine J3 (i:=23) zk rfl ?_ (fun h=>absurd h zd) ?_ (fun w0 _=> ?_) (fun K hK=> ?_)
    ·exact zg
    rotate_left
    ·(try simp only [zz1,zz2,zz3]);go_simp;with_reducible rfl
    (try simp only [zz1,zz2,zz3]);go_simp;refine hK _ ?_;clear hK K;refine j9 (i:=24) zk (g8 rfl ?_ (fun K hK=> ?_))
    ·exact zg
    (try simp only [zz1,zz2,zz3]);obtain ⟨wF,hwF,kW,dh,kX,kY,kZ⟩:=hE.store;have iH:=j6 (i:=2) (v:=(.slice ad4 (n+1) cap4)) hE.c.row;have z3:=r9 (j:=3) iH;have y3:_=some a.uv:=d6 (j:=3) iH rfl;clear iH;go_simp;refine hK _ _ (fun h=>absurd h zd) ?_;clear hK K z3 y3;refine T9 zk ?_;clear hwF;refine hh5 kW dh kX kY kZ fun rQ tK zR AX AY=> ?_;clear kW dh kX kY kZ hE
   all_goals
    have hrl:NwL w0 wF oF q tp N n (r7 N n++y6 N n 0) wF:=⟨oF,{a with bv:= .slice ad4 (n+1) cap4,uv:= .slice ad5 (n+1) cap5,bg:=upd a.bg n g},rQ.out,by rw [show y6 N n 0=[] from rfl,zz11];exact zR.out,AX.out,AY.out,MO.out,Mov.refl rQ.out⟩;have FZ:Mov (fun t=>2<=t) w ow wF oF:=Hm.out.trans (tK.out.mono (fun t ht=>by unfold a69 at ht;omega));have Qh:=zR.out.base;refine hh3 hrl FZ Qh fun Hrl MR Vu=> ?_;clear hrl FZ Qh;(try simp only [Exit.inBlock,Exit.then])
    go_wp2_with fail
    refine (kK.out wF n Vu.out).mono ?_;rintro e w7 ⟨v2,rfl,hv2,bP,hfr⟩;obtain ⟨nr,dV⟩:∃l,m5 N n=l:=⟨_,rfl⟩;rw [dV] at hv2;have hnl:nr.length<=6:=by rw [<-dV];exact HN.out.nl n
    obtain ⟨va2,vc2,rfl,MS⟩:∃a cc,v2= .slice a nr.length cc/\nr.length<=cc:=by obtain ⟨-,a,cc,h,h2, -⟩:=hv2.rd;exact ⟨a,cc,h,h2⟩
    have yP:(nr.length:Int)<=vc2:=zo
    have hs7:=Mov.of rQ.out bP (fun _=>False);have iE:=hs7.owd rQ.out id
    have jr:NwM w0 w7 oF q tp N n (.int .i64 0) w7:=by
     exact ⟨0,rfl,Nat.zero_le _,oF,{a with bv:= .slice ad4 (n+1) cap4,uv:= .slice ad5 (n+1) cap5,bg:=upd a.bg n g},iE,(by rw [show y6 N n 0=[] from rfl,zz11];exact zR.out.mov' rQ.out hs7),AX.out.mov hs7 id (fun _ _=>trivial),AY.out.mov hs7 id (fun _ _=>trivial),MO.out,Mov.refl iE⟩
    have Ga:Mov (fun t=>2<=t) w ow w7 oF:=MR.out.trans (hs7.mono (fun _ h=>h.elim));have hfr2:∀b,(Value.slice va2 nr.length vc2).ownBlock=some b->oF b=0:=fun b hb=>rQ.out.zero (hfr b hb);refine hh8 hv2 bP hfr dV hs7 iE jr Ga fun Cr nG aW bW PL qA qP MU=> ?_;refine hh1 hfr2 fun qR=> ?_;clear hv2 bP hfr dV hs7 iE jr Ga hfr2 MS
    go_wp2_with fail
    go_loopw [47] (fun i wr=>NwM w0 w7 oF q tp N n i wr) (fun i _=>nr.length - (intOf i).toNat)
    case atStart=>exact qP.out
    case round=>
     obtain ⟨m3,rfl,au,o3,a3,ho3,zS,hB3,Bc,mZ,dW⟩:=hrel;rw [bW.out] at au;by_cases hlt3:m3<nr.length
     ·have wM:(m3:Int)<nr.length:=zo
      obtain ⟨wz,rfl⟩:∃y:World,y=wr:=⟨_,rfl⟩;obtain ⟨y,hy⟩:∃z,nr[m3]? =some z:=⟨_,zz5 hlt3⟩
      have hl:n9 N n y=true:=by
       have h1:=zz8 hy;rw [<-bW.out] at h1;exact I5 h1
      have kH:=HN.out.wf _ _ hl;have hrd:=(Cr.out.mod dW.md (fun b hb hf=>by have hf':2<=oF b:=hf;rw [qR.out b hb] at hf';omega)).rd;obtain ⟨gv,ov,rfl,hel⟩:=a0H (j:=m3) (u:= .int .i64 y) hrd (by rw [R6 hy]);have eO:NwT w0 w7 oF q tp N n m3 y (.int .i64 (-1)) wz:=⟨0,rfl,Nat.zero_le _,o3,a3,ho3,by rw [show I6 n y 0=[] from rfl,zz11];exact zS,hB3,Bc,mZ,dW⟩;refine hh8 ho3 zS hB3 Bc mZ dW hy hl fun Vv Vw HB3 Vx MV uG Hy Hl=> ?_;refine hh3 kH hrd eO fun wN gG jw=> ?_;clear ho3 zS hB3 Bc mZ dW hy hl kH hrd eO
      go_wp2_with fail
      go_loopw [7] (fun i wr=>NwT w0 w7 oF q tp N n m3 y i wr) (fun i _=>(4 - intOf i).toNat)
      case atStart=>exact jw.out
      case round=>
       obtain ⟨u,rfl,hu,o4,a4,lJ,wQ,hB4,Bd,nk,ny⟩:=hrel;by_cases iF:u<5
       ·have wO:((u:Int) - 1)<4:=zo
        have hbd:=a1o (y:=y) hlt (by rw [bW.out];exact hlt3) iF;have iG:=U8 HN.out;have q4:wr.cell? ⟨q,4,none⟩=some (.map (some a4.lm)):=d6 wQ.row rfl;obtain ⟨wl,hwl⟩:∃y,wr.alloc (.cells #[.int .i64 0,.slice none 0 0,.int .i64 0,.slice none 0 0,.slice none 0 0,.int .i64 0,.int .i64 0] 89)=y:=⟨_,rfl⟩;obtain ⟨wl2,o5',Qi,oG,zT,hs5⟩:=wQ.put lJ zo zo (show wfI (n:Int) from F2 zo) wN.out.2 (show wfI ((u:Int) - 1) from F2 zo) hwl;have hge:=O9 n y ((u:Int) - 1);have aH:NwT w0 w7 oF q tp N n m3 y (.int .i64 u) wl2:=⟨u+1,congrArg (Value.int .i64) zo,zo,o5',{a4 with lb:=b0w a4.lb n y ((u:Int) - 1) wr.heap.size},oG,(by rw [a0b iF,<-zz12];exact zT),hB4.mov hs5 zo (fun _ _=>trivial),Bd.mov hs5 zo (fun _ _=>trivial),nk,ny.trans (hs5.mono (fun t ht=>zo))⟩;refine hh8 lJ wQ hB4 Bd nk ny hbd iG fun BL Vy Jh Vz MW MX LD FN=> ?_;refine hh4 oG zT hs5 aH fun Aq VA OT bn=> ?_;clear lJ wQ hB4 Bd nk ny hbd iG oG zT hs5 aH hge
        go_wp2_with fail
        go_roundw
        case rel=>exact bn.out
        case measure=>simp [intOf];omega
       obtain rfl:u=5:=zo
       have hP:r7 N n++y6 N n m3++I6 n y 5=r7 N n++y6 N n (m3+1):=by
        rw [a1n (by rw [bW.out];exact Hy.out),zz12];rfl
       rw [hP] at wQ;have aH:NwM w0 w7 oF q tp N n (.int .i64 ((m3+1:Nat):Int)) wr:=⟨m3+1,rfl,by rw [bW.out];exact hlt3,o4,a4,lJ,wQ,hB4,Bd,nk,ny⟩;refine hh8 lJ wQ hB4 Bd nk ny hP aH fun BL Vy Jh Vz MW MX HP bn=> ?_;clear lJ wQ hB4 Bd nk ny hP aH
       go_wp2_with fail
       go_roundw
       case rel=>exact bn.out
       case measure=>simp [intOf];omega
     obtain rfl:m3=nr.length:=zo
     have hP:r7 N n++y6 N n nr.length=r7 N (n+1):=by
      rw [<-bW.out,a2g,U9]
     rw [hP] at zS;have aH:NwR w0 w ow q tp N (.int .i64 ((n+1:Nat):Int)) wr:=⟨n+1,o3,a3,rfl,hlt,ho3,zS,hB3,Bc,mZ,MU.out.trans dW⟩;refine hh8 ho3 zS hB3 Bc mZ dW hP aH fun Vv Vw HB3 Vx MV uG HP bn=> ?_;clear ho3 zS hB3 Bc mZ dW hP aH
     go_wp2_with fail
     go_roundw
     case rel=>exact bn.out
     case measure=>simp [intOf];omega
  ·obtain rfl:n=N.length:=zo
   have hfin:X1 w0 wr owr q tp (NS.new N) 0 0:=by
    have hB':=hB.sl;have MZ:=hU.sl;rw [zz10,List.length_range] at hB';rw [List.length_replicate] at MZ;have hA:b52 w0 wr owr q a N N.length (D1 N):=⟨hC.base,hC.row,hC.tag,hC.nv,by rw [b27,List.map_map] at hB';exact hB',hB.vb,by rw [b0A] at MZ;rw [show (List.range N.length).map (fun _=>Value.bool true)=List.replicate N.length (.bool true) by rw [List.map_const',List.length_range]];exact MZ,hU.vb,hC.bro,hC.lnk,hC.tm,hC.om,hC.sm⟩;exact ⟨how,WI.new HN.out hpos,a,[],0,0,hA.done HN.out (by rw [htp];exact HT.out),htp,Nat.zero_le _,Nat.zero_le _⟩
   refine hh6 hfin hm how hC hB hU fun bF Hm How HC HB HU=> ?_;clear hfin hm how hC hB hU
   go_wp2_with fail
   go_ret;exact ⟨q,owr,rfl,bF.out,Hm.out⟩
end
section
open Go.RowKit
section
variable {w0 w:World} {ow:Ow} {q c n:Nat} {a:NAd} {L:List Lr} {s:NS}
theorem a7b (h:y7 w0 w ow q a L s c n):Calls Tryz.prog 11 #[.pointer (some ⟨q,0,none⟩)] w fun e w'=>e= .returned (.pointer (some ⟨a.tp,0,none⟩))/\w=w':=by
 have q1:w.cell? ⟨q,1,none⟩=some (.pointer (some ⟨a.tp,0,none⟩)):=h.side.cellN rfl;clear h
 go_enter Tryz.func11,Tryz.ntmps11
 go_wp2
 go_ret;exact ⟨rfl,rfl⟩
theorem b4Y (h:y7 w0 w ow q a L s c n):Calls Tryz.prog 13 #[.pointer (some ⟨q,0,none⟩)] w fun e w'=>e= .returned (.int .i64 s.L.length)/\w=w':=by
 obtain ⟨l,la,lc,h1,h2,h4,h5,h6⟩:=h.logs;have:=R3 w q la l.length lc h4;rw [h2] at this;exact this
theorem b28 (h:y7 w0 w ow q a L s c n) (b:Int):Calls Tryz.prog 16 #[.pointer (some ⟨q,0,none⟩),.int .i64 b] w fun e w'=>e= .returned (.bool (decide (0<=b/\b<s.N.length)&&s.up b.toNat))/\w=w':=by
 obtain ⟨ua,uc,gJ,huc⟩:=h.side.up.shape;have hup:=h.side.up;rw [gJ] at hup;have q3:w.cell? ⟨q,3,none⟩=some (.slice ua s.N.length uc):=by rw [<-gJ];exact h.side.cellN rfl
 have rO:=h.nok.len;by_cases hb:0<=b
 ·by_cases hb2:b<s.N.length
  ·obtain ⟨x,rfl⟩:∃x:Nat,b=x:=⟨b.toNat,by omega⟩;have hx:x<s.N.length:=by omega
   obtain ⟨gu,ou,rfl,hx0⟩:=a0H hup.rd (Y1 (up:=s.up) hx);rw [decide_eq_true (And.intro hb hb2),Bool.true_and,Int.toNat_natCast];obtain ⟨U,hU⟩:∃u,s.up x=u:=⟨_,rfl⟩;rw [hU] at hx0⊢;have EU:(s.N.length:Int)<=uc:=by omega
   have d1:decide ((0:Int)<=x)=true:=decide_eq_true hb;have d2:decide ((x:Int)<s.N.length)=true:=decide_eq_true hb2;clear hup h hU gJ
   go_enter Tryz.func16,Tryz.ntmps16
   go_wp2
   go_ret;exact ⟨rfl,rfl⟩
  rw [decide_eq_false (fun e=>hb2 e.2),Bool.false_and];have d1:decide ((0:Int)<=b)=true:=decide_eq_true hb;have d2:decide (b<s.N.length)=false:=decide_eq_false hb2;clear hup h gJ
  go_enter Tryz.func16,Tryz.ntmps16
  go_wp2
  go_ret;exact ⟨rfl,rfl⟩
 rw [decide_eq_false (fun e=>hb e.1),Bool.false_and];have d1:decide ((0:Int)<=b)=false:=decide_eq_false hb;clear hup h gJ
 go_enter Tryz.func16,Tryz.ntmps16
 go_wp2
 go_ret;exact ⟨rfl,rfl⟩
theorem a47 (h:y7 w0 w ow q a L s c n) {i:Nat} (hi:i<s.N.length):Calls Tryz.prog 15 #[.pointer (some ⟨q,0,none⟩),.int .i64 i] w fun e w'=>e= .returned (.int .i64 (s.B i).L.length)/\w=w':=by
 obtain ⟨ba,bc,hbv,hbc⟩:=h.bs.shape;have hbs:=h.bs;rw [hbv] at hbs;obtain ⟨gb,ob,rfl,hb0⟩:=a0H (j:=i) (u:=ptr (a.bg i)) hbs.rd (by simp [hi])
 replace hb0:w.cell? ⟨gb,ob+i,none⟩=some (.pointer (some ⟨a.bg i,0,none⟩)):=hb0
 have q2:w.cell? ⟨q,2,none⟩=some (.slice (some ⟨gb,ob,none⟩) s.N.length bc):=by rw [<-hbv];exact h.side.cellN rfl
 obtain ⟨la,lc,hlc⟩:=(h.bro i hi).log0;obtain ⟨vl,hvl⟩:∃x,(s.B i).L.length=x:=⟨_,rfl⟩;rw [hvl] at hlc⊢;have hle:=R3 w (a.bg i) la vl lc hlc;have Fh:(s.N.length:Int)<=bc:=by omega
 have hi':(i:Int)<s.N.length:=by omega
 refine hh1 hle fun vL=> ?_;clear hle hlc hbs h hbv
 go_enter Tryz.func15,Tryz.ntmps15
 go_wp2_with fail
 refine vL.out.mono ?_;rintro e w1 ⟨rfl,rfl⟩
 go_wp2_with fail
 go_ret;exact ⟨rfl,rfl⟩
theorem y7.way (h:y7 w0 w ow q a L s c n) {fr tw te:Int} (hw2:wfI fr) (hw3:wfI tw) (hwt:wfI te):
 (Instr.lookup 47 (.map (some a.lm)) (.agg #[.int .i64 fr,.int .i64 tw,.int .i64 te]) false).run Tryz.prog w= .ok (if M4 s.N fr tw te=true then ptr (a.lb fr tw te) else .pointer none) w:=by
 obtain ⟨km,f,hmp, -,hf⟩:=h.side.lnk.mp;have h2:=hmp.look X9 Tryz.underlying47 (z:= .pointer none) (by kernel_rfl) (a0W hw2 hw3 hwt);rw [hf _ _ _ hw2 hw3 hwt] at h2;split at h2
 ·rename_i e
  rw [if_pos e];exact h2
 rename_i e
 rw [if_neg e];exact h2
theorem a48 (h:y7 w0 w ow q a L s c n) {fr tw te:Int} (hw2:wfI fr) (hw3:wfI tw) (hwt:wfI te):Calls Tryz.prog 26 #[.pointer (some ⟨q,0,none⟩),.int .i64 fr,.int .i64 tw,.int .i64 te] w fun e w'=>e= .returned (.int .i64 (if M4 s.N fr tw te=true then ((s.K fr tw te).q.length:Int) else 0))/\w=w':=by
 have q4:w.cell? ⟨q,4,none⟩=some (.map (some a.lm)):=h.side.cellN rfl;have hl:=h.way hw2 hw3 hwt;by_cases e:M4 s.N fr tw te=true
 ·rw [if_pos e] at hl⊢;obtain ⟨X,F,h1,h2, -⟩:=h.side.lnk.lk fr tw te e;have hle:=b3S h1;have el:(Y0 (s.K fr tw te) X).toL.out.length=(s.K fr tw te).q.length:=by rw [<-h2,zz10];exact zz10 _
  rw [el] at hle;obtain ⟨b,hb⟩:∃b,a.lb fr tw te=b:=⟨_,rfl⟩;rw [hb] at hle
  replace hl:(Instr.lookup 47 (.map (some a.lm)) (.agg #[.int .i64 fr,.int .i64 tw,.int .i64 te]) false).run Tryz.prog w= .ok (.pointer (some ⟨b,0,none⟩)) w:=by rw [<-hb];exact hl
  refine hh1 hle fun vL=> ?_;clear hle h h1 h2 hb el
  go_enter Tryz.func26,Tryz.ntmps26
  go_wp2_with fail
  refine vL.out.mono ?_;rintro e w1 ⟨rfl,rfl⟩
  go_wp2_with fail
  go_ret;exact ⟨rfl,rfl⟩
 rw [if_neg e] at hl⊢;clear h
 go_enter Tryz.func26,Tryz.ntmps26
 go_wp2_with fail
 go_ret;exact ⟨rfl,rfl⟩
theorem b0B (h:y7 w0 w ow q a L s c n) {fr tw te:Int} (hw2:wfI fr) (hw3:wfI tw) (hwt:wfI te):Calls Tryz.prog 27 #[.pointer (some ⟨q,0,none⟩),.int .i64 fr,.int .i64 tw,.int .i64 te] w fun e w'=>e= .returned (.int .i64 (if M4 s.N fr tw te=true then ((s.K fr tw te).epoch:Int) else 0))/\w=w':=by
 have q4:w.cell? ⟨q,4,none⟩=some (.map (some a.lm)):=h.side.cellN rfl;have hl:=h.way hw2 hw3 hwt;by_cases e:M4 s.N fr tw te=true
 ·rw [if_pos e] at hl⊢;obtain ⟨X,F,h1, -⟩:=h.side.lnk.lk fr tw te e;have hle:=b1m h1
  replace hle:Calls Tryz.prog 43 #[.pointer (some ⟨a.lb fr tw te,0,none⟩)] w fun e w'=>e= .returned (.int .i64 (s.K fr tw te).epoch)/\w=w':=hle
  obtain ⟨b,hb⟩:∃b,a.lb fr tw te=b:=⟨_,rfl⟩;rw [hb] at hle
  replace hl:(Instr.lookup 47 (.map (some a.lm)) (.agg #[.int .i64 fr,.int .i64 tw,.int .i64 te]) false).run Tryz.prog w= .ok (.pointer (some ⟨b,0,none⟩)) w:=by rw [<-hb];exact hl
  refine hh1 hle fun vL=> ?_;clear hle h h1 hb
  go_enter Tryz.func27,Tryz.ntmps27
  go_wp2_with fail
  refine vL.out.mono ?_;rintro e w1 ⟨rfl,rfl⟩
  go_wp2_with fail
  go_ret;exact ⟨rfl,rfl⟩
 rw [if_neg e] at hl⊢;clear h
 go_enter Tryz.func27,Tryz.ntmps27
 go_wp2_with fail
 go_ret;exact ⟨rfl,rfl⟩
theorem b29 (h:y7 w0 w ow q a L s c n) {fr tw te:Int} (hw2:wfI fr) (hw3:wfI tw) (hwt:wfI te):Calls Tryz.prog 28 #[.pointer (some ⟨q,0,none⟩),.int .i64 fr,.int .i64 tw,.int .i64 te] w fun e w'=>e= .returned (.int .i64 (if M4 s.N fr tw te=true then ((s.K fr tw te).lost:Int) else 0))/\w=w':=by
 have q4:w.cell? ⟨q,4,none⟩=some (.map (some a.lm)):=h.side.cellN rfl;have hl:=h.way hw2 hw3 hwt;by_cases e:M4 s.N fr tw te=true
 ·rw [if_pos e] at hl⊢;obtain ⟨X,F,h1, -⟩:=h.side.lnk.lk fr tw te e;have hle:=b3T h1
  replace hle:Calls Tryz.prog 44 #[.pointer (some ⟨a.lb fr tw te,0,none⟩)] w fun e w'=>e= .returned (.int .i64 (s.K fr tw te).lost)/\w=w':=hle
  obtain ⟨b,hb⟩:∃b,a.lb fr tw te=b:=⟨_,rfl⟩;rw [hb] at hle
  replace hl:(Instr.lookup 47 (.map (some a.lm)) (.agg #[.int .i64 fr,.int .i64 tw,.int .i64 te]) false).run Tryz.prog w= .ok (.pointer (some ⟨b,0,none⟩)) w:=by rw [<-hb];exact hl
  refine hh1 hle fun vL=> ?_;clear hle h h1 hb
  go_enter Tryz.func28,Tryz.ntmps28
  go_wp2_with fail
  refine vL.out.mono ?_;rintro e w1 ⟨rfl,rfl⟩
  go_wp2_with fail
  go_ret;exact ⟨rfl,rfl⟩
 rw [if_neg e] at hl⊢;clear h
 go_enter Tryz.func28,Tryz.ntmps28
 go_wp2_with fail
 go_ret;exact ⟨rfl,rfl⟩
end
end
end Go.Proofs.YtdmjoodhaeijmaaGreatDoor
