/- Lemmas. -/
import Derived.Test.YtebhabpahfmodaaGreatDoorZh26
import Derived.Test.YtebhabpahfmodaaGreatDoorZh23
set_option maxHeartbeats 40000000
set_option maxRecDepth 20000
namespace Go.Proofs.YtebhabpahfmodaaGreatDoor
section
open Go.RowKit
attribute [local go_sem ↓] K9
end
section
open Go.RowKit
def a1I (I:List (Int×Fil)) (L:List Att) (id:Int):Nat:=(L.map fun a=>((T0 (B7 I id) a.name).filter fun c=>c.holds a.v).length).sum
theorem b0p (I:List (Int×Fil)) (L:List Att) (a:Att) (id:Int):a1I I (L++[a]) id=a1I I L id+((T0 (B7 I id) a.name).filter fun c=>c.holds a.v).length:=by
 unfold a1I;rw [List.map_append,List.sum_append];simp
def a2k (w:World) (mc K:Nat) (g:Int->Nat):Prop:=∃n f,p6 w 3 mc n f/\n<=K/\(∀id:Int,(f (.int .i64 id)).getD (.int .i64 0)= .int .i64 (g id))/\∀id,g id<=K
theorem a2k.mod {w w':World} {mc K:Nat} {g:Int->Nat} {F:Nat->Prop} (h:a2k w mc K g) (hm:Mod F w w') (hF:¬F mc):a2k w' mc K g:=by
 obtain ⟨n,f,h1,h2⟩:=h;exact ⟨n,f,h1.mod hm hF,h2⟩
theorem a2k.cong {w:World} {mc K K':Nat} {g g':Int->Nat} (h:a2k w mc K g) (hK:K<=K') (hg:∀id,g' id=g id):a2k w mc K' g':=by
 obtain ⟨n,f,h1,h2,h3,h4⟩:=h;exact ⟨n,f,h1,Nat.le_trans h2 hK,fun id=>by rw [hg];exact h3 id,fun id=>by rw [hg];exact Nat.le_trans (h4 id) hK⟩
theorem a2k.inc {w':World} {mc n K:Nat} {g g':Int->Nat} {f:Lit->Option Value} {id:Int} {c:Nat} (h2:n<=K) (h3:∀id:Int,(f (.int .i64 id)).getD (.int .i64 0)= .int .i64 (g id)) (h4:∀id,g id<=K) (hc:g id=c)
 (h:p6 w' 3 mc (if (f (.int .i64 id)).isSome then n else n+1) (P5 f (.int .i64 id) (.int .i64 (c+1)))) (hg:∀x,g' x=g x+if id=x then 1 else 0):a2k w' mc (K+1) g':=by
 refine ⟨_,_,h,by split<;>omega,fun x=> ?_,fun x=>by rw [hg];have:=h4 x;split<;>omega⟩;rw [hg];unfold P5;by_cases e:x=id
 ·rw [if_pos (by rw [e]),if_pos e.symm,e,hc];simp
 rw [if_neg (fun h=>e (Lit.int.inj h).2),if_neg (fun h=>e h.symm)];exact h3 x
theorem a6L (w:World):(zeroValue 3).run Tryz.prog w= .ok (.int .i64 0) w:=zk
def b5s (wb:World) (mc T:Nat) (I:List (Int×Fil)) (L:List Att) (i:Value) (wr:World):Prop:=
 ∃j:Nat,i= .int .i64 j/\j<=L.length/\a2k wr mc (j*T) (a1I I (L.take j))/\Mod (fun k=>k=mc) wb wr
def b5t (wb:World) (mc K:Nat) (g:Int->Nat) (x:Att) (ps:List (Int×Cnd)) (i:Value) (wr:World):Prop:=
 ∃j:Nat,i= .int .i64 j/\j<=ps.length/\a2k wr mc (K+j) (fun id=>g id+((ps.take j).filter fun p=>p.1==id&&p.2.holds x.v).length)/\Mod (fun k=>k=mc) wb wr
def a4G (I:List (Int×Fil)) (es:ByteArray) (L:List Att) (id:Int):Bool:=match B7 I id with
 |some q=>a1I I L id==q.2.length&&m8 es q.1
 |none=>false
def a6M (I:List (Int×Fil)) (es:ByteArray) (L:List Att):List Int:=(W8 (I.map Prod.fst)).filter (a4G I es L)
def b5u (w4:World) (I:List (Int×Fil)) (es:ByteArray) (L:List Att) (ov i:Value) (wr:World):Prop:=
 ∃(j:Nat) (o:List Int) (oa:Option Addr) (oc:Nat),i= .int .i64 j/\j<=(W8 (I.map Prod.fst)).length/\o=((W8 (I.map Prod.fst)).take j).filter (a4G I es L)/\ov= .slice oa o.length oc/\j2 wr 3 1 ov o.length (o.map (Value.int .i64))/\(∀k,ov.ownBlock=some k->w4.heap.size<=k)/\Mod (fun _=>False) w4 wr
def b2i (w:World) (I:List (Int×Fil)) (es:ByteArray) (L:List Att) (e:Ending) (w':World):Prop:=
 ∃v,e= .returned v/\j2 w' 3 1 v (a6M I es L).length ((a6M I es L).map (Value.int .i64))/\(∀k,v.ownBlock=some k->w.heap.size<=k)/\Mod (fun _=>False) w w'
theorem a45 {L:List Int} {x:Int}:x∈W8 L↔x∈L:=(List.mergeSort_perm L leI).mem_iff
theorem a6N {I:List (Int×Fil)} {id:Int} (h:id∈I.map Prod.fst):∃q,B7 I id=some q:=by
 cases hq:B7 I id with
 |some q=>exact ⟨q,rfl⟩
 |none=>exact absurd h (a42 hq)
theorem a34 {w:World} {a:Option Addr} {n cap:Nat} {l:List Int} {j:Nat} {x:Int} (h:j3 w 1 (.slice a n cap) n (l.map (Value.int .i64))) (hx:l[j]? =some x):∃g off,a=some ⟨g,off,none⟩/\w.cell? ⟨g,off+j,none⟩=some (.int .i64 x):=by
 obtain ⟨h0,a',c',h1, -,h3,h4⟩:=h;cases h1
 have hj:=(zz6 hx).1;have hn:n=l.length:=by rw [zz10] at h0;omega
 cases a with
 |none=>exact absurd (h3 rfl) zo
 |some b=>
  obtain ⟨g',off',h5,h6⟩:=h4 _ rfl zo;exact ⟨g',off',by rw [h5],h6 j _ (by rw [List.getElem?_map,hx];rfl)⟩
def b6C (b m2 cb:Nat) (v:Value) (x:Att) (y:World):Prop:=
 y.cell? ⟨b,1,none⟩=some (.map (some m2))/\y.cell? ⟨cb,0,none⟩=some (.string x.name)/\(Instr.lookup 130 (.map (some m2)) (.string x.name) false).run Tryz.prog y= .ok v y
theorem e9.part {w:World} {g off:Nat} {l m:List Value} (h:e9 w g off (l++m)) {n:Nat} (hn:l.length=n):e9 w g (off+n) m:=fun j u hu=>by
 have:=h (n+j) u (by rw [List.getElem?_append_right zo,<-hn,Nat.add_sub_cancel_left];exact hu);rwa [<-Nat.add_assoc] at this
attribute [local go_sem ↓] K9
theorem b0q (w:World) (b:Nat) (own C:Nat->Prop) (I:List (Int×Fil)) (T:Nat) (h:Idx w b own C I T) (hT:T<=100000) (es:ByteArray) (hes:es.size<=1000000) (ev:Value) (L:List Att)
 (hv:j3 w 6 ev L.length (k7 L)) (hL:L.length<=1000) (hLf:∀a∈L,a.name.size<=1000000/\a.v.text.size<=1000000):
 Calls Tryz.prog 66 #[.pointer (some ⟨b,0,none⟩),.agg #[.string es,ev]] w (b2i w I es L):=by
 obtain ⟨m1,m2,h⟩:=h;obtain ⟨a,cap,rfl⟩:∃a c,ev= .slice a L.length c:=by obtain ⟨-,a,c,h, -⟩:=hv;exact ⟨a,c,h⟩
 obtain ⟨wa,aD,ah,ae,au⟩:=g8 w (.cells #[.string es,.slice a L.length cap] 31);obtain ⟨wb,hwb,ay,ak,aO⟩:=g8 wa (.map #[] 0);have hm2:=ah.trans ay zi;have hib:=h.mod hm2 zi;have hbz:b<w.heap.size:=h.olow _ h.ob.1;have hmz:m1<w.heap.size:=h.olow _ h.ob.2.1;have BK:m2<w.heap.size:=h.olow _ h.ob.2.2;have hsz:w.heap.size<wa.heap.size:=by rw [<-aD];exact Nat.lt_of_lt_of_eq (Nat.lt_succ_self _) (Array.size_push _).symm
 have hmc:p6 wb 3 wa.heap.size 0 (fun _=>none):=hwb▸p6.made wa 3;have c1:wb.cell? ⟨w.heap.size,1,none⟩=some (.slice a L.length cap):=d6 (ay.heap ae (fun h=>h)) rfl;have hvb:=hv.mod hm2 zi;have di:b5s wb wa.heap.size T I L (.int .i64 ((0:Nat):Int)) wb:=⟨0,rfl,Nat.zero_le _,⟨0,_,hmc,Nat.zero_le _,fun id=>rfl,fun id=>by simp [a1I]⟩,Mod.refl _ _⟩;have hge:=ay.heap ae (fun h=>h);obtain ⟨H,Hv,aF,aB,aH,bD,jB,aT,bq,yY,yM,dX⟩:=zh12 h hv aD ah ae hwb ay ak hm2 hib hmc hvb;obtain ⟨fe,Nr⟩:=zh2 di hge;clear h hv aD ah ae hwb ay ak hm2 hib hmc hvb di hge au aO
 go_enter Tryz.func66,Tryz.ntmps66
 go_wp2_with (first|(rw [show w.alloc _=wa from aF.out])|(rw [show wa.alloc _=wb from bD.out]))
 go_loopw [18] (fun i wr=>b5s wb wa.heap.size T I L i wr) (fun i _=>L.length - (intOf i).toNat)
 case atStart=>exact fe.out
 case round=>
  revert wr;intro wA hrel;obtain ⟨j,rfl,hj,hcn,hmr⟩:=hrel;by_cases hlt:j<L.length
  ·have hlt':(j:Int)<L.length:=zo
   obtain ⟨x,hxj⟩:∃x,L[j]? =some x:=⟨_,zz5 hlt⟩;have fZ:=hLf x (zz8 hxj);obtain ⟨g,off,rfl,hf0⟩:∃g off,a=some ⟨g,off,none⟩/\e9 w g (off+j*6) x.cells:=a1F Att.cells_length Hv.out hxj;have hgl:g<w.heap.size:=World.block_lt_of_cell? w _ (hf0 0 _ rfl);have hf:e9 wA g (off+j*6) x.cells:=(hf0.mod bq.out (fun h=>h)).mod hmr (fun h=>by have h':g=wa.heap.size:=h;omega);obtain ⟨wz,hwz,ai,aj,aJ⟩:=g8 wA (.cells x.cells.toArray 112);have wY:=hmr.trans (ai.mono (G:=fun k=>k=wa.heap.size) (fun _ _ h=>h.elim)) zi;have Im:W9 w b m1 m2 own C I T:=H.out;obtain ⟨n2,f2,g1,g2,g3,g4,g5⟩:=yY.out.pm;obtain ⟨v,hvv⟩:∃v,(f2 (Lit.str x.name)).getD Z0=v:=⟨_,rfl⟩;obtain ⟨ps,p1,p2,p3,p4⟩:=g3 x.name;rw [hvv] at p1 p3;obtain ⟨va,vc,rfl,yR⟩:=p1.shape;have ol:∀k,(Value.slice va ps.length vc).ownBlock=some k->k<w.heap.size:=fun k hk=>H.out.olow k (p3 k hk);have hpr:∀y F,Mod F wb y->(∀k,F k->w.heap.size<=k)->j3 y 8 (.slice va ps.length vc) ps.length (pls ps):=fun y F hy hF=>p1.rd.mod hy (fun k hk h=>by have h1:=ol k hk;have h2:=hF k h;omega)
   have hSb:b6C b m2 wA.heap.size (.slice va ps.length vc) x wz.drew:=by
    have hg2:p6 wz.drew 9 m2 n2 f2:=(g1.mod wY (fun h=>by have h':m2=wa.heap.size:=h;omega)).mod ((Mod.refl (fun _=>False) wz).drew) (fun h=>h);refine ⟨d6 (wY.heap yY.out.row (fun h=>by have h':b=wa.heap.size:=h;omega)) rfl,d6 aj rfl, ?_⟩;rw [<-hvv];exact hg2.look r6 Tryz.underlying130 (a9v _) (WideMaps.keyOf_string_mk Tryz.underlying9 (by unfold maxLen;omega))
   have gK:∀p∈ps,p.2.fits/\(Lit.int .i64 p.1).wf=true:=fun p hp=>by
    have h1:p.2∈T0 (B7 I p.1) x.name:=by rw [<-p4 p.1];exact List.mem_map_of_mem (List.mem_filter.2 ⟨hp,by simp⟩)
    cases hq:B7 I p.1 with
    |none=>rw [hq] at h1;cases h1
    |some q=>
     rw [hq] at h1;exact ⟨(H.out.wf _ (a0P hq)).2.2 _ (List.mem_filter.1 h1).1,(H.out.wf _ (a0P hq)).1⟩
   have hcz:=hcn.mod ai (fun h=>h)
   have hz0:wa.heap.size<wA.heap.size:=by
    have h1:=hmr.size;have h2:=(zz7 aT.out).1;omega
   obtain ⟨cB,NE,aK,Pw,Hf,bi,bn,aN,Io,G1,G2,G3⟩:=zh12 hxj hcn hmr hf0 hf hwz ai aj wY g1 g2 g3;obtain ⟨G4,G5,uQ,P1,P3,P4,ER,u7,uP,Hcz,b7f⟩:=zh11 g4 g5 hvv p1 p3 p4 ol hpr gK hcz Im;clear hxj hcn hmr hf0 hf hwz ai aj wY g1 g2 g3 g4 g5 hvv p1 p3 p4 ol hpr gK hcz Im aJ
   go_wp2_with (first|((with_reducible refine d8 112 (.tmp 20) ?_);refine ⟨g,off+j*6,rfl,x.cells,Hf.out,zk,zk, ?_⟩)|((with_reducible refine d9 112 (.tmp 7) (.tmp 21) ?_);refine ⟨rfl,x.cells,rfl,rfl,zk,rfl, ?_⟩;rw [bi.out]))
   have hS:=hSb;refine i8 [.rd 0,.rd 1,.rd 2,.rd 3,.rd 4,.rd 5,.rd 6,.rd 7,.rd 8] [0,1,2,3,4,5,6,7,8] (b6C b m2 wA.heap.size (.slice va ps.length vc) x) zk zk (fun _ _ d _ _ h=>(by cases d<;>exact h)) ?_
   iterate 9 (
    refine n4 rfl ?_ (fun _=>hS) ?_ (fun w0 h0=> ?_) (fun K hK=> ?_)
    ·exact zg
    rotate_left
    ·(try simp only [zz1,zz2,zz3])
     first
      |(obtain ⟨f0,f1,f2⟩:=h0 rfl;clear h0;go_simp;with_reducible rfl)
      |(clear h0;go_simp;with_reducible rfl)
    (try simp only [zz1,zz2,zz3])
    go_simp;refine hK _ ?_;clear hK K)
   refine m6 ?_
   have ze:b5t wz.drew wa.heap.size (j*T) (a1I I (L.take j)) x ps (.int .i64 ((0:Nat):Int)) wz.drew:=
    ⟨0,rfl,Nat.zero_le _,((Hcz.out.mod ((Mod.refl (fun _=>False) wz).drew) (fun h=>h))).cong zo (fun id=>by simp),Mod.refl _ _⟩
   obtain ⟨Ip,HSb⟩:=zh2 ze hSb;clear ze hSb hS
   go_wp2_with fail
   go_loopw [30] (fun i wr=>b5t wz.drew wa.heap.size (j*T) (a1I I (L.take j)) x ps i wr) (fun i _=>ps.length - (intOf i).toNat)
   case atStart=>exact Ip.out
   case round=>
    obtain ⟨k,rfl,hk,oN,bg⟩:=hrel;by_cases hlt2:k<ps.length
    ·have Iq:(k:Int)<ps.length:=zo
     obtain ⟨y,hyk⟩:∃y,ps[k]? =some y:=⟨_,zz5 hlt2⟩;have hyf:=(uP.out y (zz8 hyk)).1.v.text;have Wh:=Maps.keyOf_int_mk (P:=Tryz.prog) Tryz.underlying3 (uP.out y (zz8 hyk)).2;obtain ⟨pg,poff,rfl,hpc⟩:∃pg poff,va=some ⟨pg,poff,none⟩/\e9 wr pg (poff+k*8) (S7 y):=a1F a5D (u7.out wr (fun k=>k=wa.heap.size) (Io.out.drew.trans bg zi) (fun k hk=>zo)) hyk;obtain ⟨wp,hwp,BL,BM,Qf⟩:=g8 wr (.cells (S7 y).toArray 157);have qY:Mod (fun k=>k=wa.heap.size) wz wp:=(((Mod.refl (fun k=>k=wa.heap.size) wz).drew).trans bg zi).trans (BL.mono (fun _ _ h=>h.elim)) zi;have hga:e9 wp wA.heap.size 0 x.cells:=(e9.row aN.out).mod qY (fun h=>by have h':wA.heap.size=wa.heap.size:=h;omega);have wZ:e9 wp wA.heap.size 1 x.v.cells:=e9.part (l:=[.string x.name]) (n:=1) hga rfl;have Qg:e9 wp wr.heap.size 0 (S7 y):=e9.row BM;have xc:e9 wp wr.heap.size 1 y.2.cells:=e9.part (l:=[.int .i64 y.1]) (n:=1) Qg rfl;have e1:=wZ.all (show x.v.cells.length=5 from rfl);have e2:=wZ.is (show x.v.cells.length=5 from rfl);have e3:=xc.all (Cnd.cells_length y.2);have e4:=xc.is (Cnd.cells_length y.2);have hho:=a4s y.2 x.v zo zo wp;obtain ⟨hv,Fj⟩:∃hv,y.2.holds x.v=hv:=⟨_,rfl⟩;rw [Fj] at hho;obtain ⟨Wi,Qh,Hwp,Ir,b7g,Wj,qM,b7h,Hgp,b7i,jm,NJ⟩:=zh12 hyk hpc hwp BL BM qY hga wZ Qg xc hho Fj;obtain ⟨Iu,eG,Wl⟩:=zh3 oN bg Wh;clear hyk hpc hwp BL BM qY hga wZ Qg xc hho Fj oN bg Wh Qf
     go_wp2_with (first|((with_reducible refine d8 157 (.tmp 32) ?_);refine ⟨pg,poff+k*8,rfl,S7 y,Qh.out,zk,zk, ?_⟩)|((with_reducible refine d9 157 (.tmp 9) (.tmp 33) ?_);refine ⟨rfl,S7 y,rfl,rfl,zk,rfl, ?_⟩;rw [Hwp.out]))
     refine jm.out.mono ?_;rintro e w3 ⟨rfl,aC⟩;obtain ⟨n,f,q1,q2,q3,q4⟩:=Iu.out;obtain ⟨G,hG⟩:∃G:Int->Nat,G=fun id=>a1I I (L.take j) id+((ps.take k).filter fun p=>p.1==id&&p.2.holds x.v).length:=⟨_,rfl⟩;rw [<-hG] at q3 q4;have dL:Mod (fun k=>k=wa.heap.size) wz.drew w3:=(eG.out.trans (Ir.out.mono (fun _ _ h=>h.elim)) zi).trans (aC.mono (fun _ _ h=>h.elim)) zi;have qZ:=Ir.out.trans aC zi;have q13:=q1.mod qZ (fun h=>h)
     have hstp:∀id,(a1I I (L.take j) id+((ps.take (k+1)).filter fun p=>p.1==id&&p.2.holds x.v).length)=G id+if y.1=id/\hv=true then 1 else 0:=fun id=>by
      rw [hG];simp only [];rw [List.take_add_one,Wi.out,List.filter_append,zz4,Option.toList_some,List.filter_cons,NJ.out,List.filter_nil,Nat.add_assoc];congr 1;congr 1;by_cases e:y.1=id
      ·rw [beq_iff_eq.2 e];cases hv<;>simp [e]
      rw [beq_eq_false_iff_ne.2 e];simp [e]
     cases hv with
     | false=>
      obtain ⟨HG,Q1,Q2,Q3,Q4,oO,Qi,Q13,BN,bA⟩:=zh10 hG q1 q2 q3 q4 dL qZ q13 hstp aC;clear hG q1 q2 q3 q4 dL qZ q13 hstp aC
      go_wp2_with fail
      go_roundw
      case rel=>
       refine ⟨k+1,by go_num,hlt2, ?_,oO.out⟩;exact (a2k.cong ⟨n,f,Q13.out,Q2.out,Q3.out,Q4.out⟩ zo (fun id=>by rw [BN.out];simp))
      case measure=>simp [intOf];omega
     | true=>
      obtain ⟨c,hc⟩:∃c,G y.1=c:=⟨_,rfl⟩
      have hcb:c<=100000*1000+100000:=by
       rw [<-hc];have h1:=q4 y.1;have h2:j*T<=1000*100000:=Nat.mul_le_mul zo hT;omega
      have hnb:n<maxLen:=by
       have h2:j*T<=1000*100000:=Nat.mul_le_mul zo hT;unfold maxLen;omega
      have hlk:(Instr.lookup 175 (.map (some wa.heap.size)) (.int .i64 y.1) false).run Tryz.prog w3= .ok (.int .i64 c) w3:=by
       rw [q13.look r5 Tryz.underlying175 (a6L w3) Wl.out,q3,hc]
      have c9:w3.cell? ⟨wr.heap.size,0,none⟩=some (.int .i64 y.1):=aC.cell (Hgp.out 0 _ rfl) (fun h=>h);have hz3:wa.heap.size<w3.heap.size:=by have h1:=dL.size;have h2:wz.drew.heap.size=wz.heap.size:=rfl;have h3:=bn.out.size;omega
      obtain ⟨HG,Q1,Q2,Q3,Q4,oO,Qi,Q13,BN,bA,Hc,gM⟩:=zh12 hG q1 q2 q3 q4 dL qZ q13 hstp aC hc hnb;clear hG q1 q2 q3 q4 dL qZ q13 hstp aC hc hnb
      go_wp2_with ((with_reducible refine P6 175 (.tmp 39) (.tmp 41) (.tmp 43) ?_);refine ⟨3,3,wa.heap.size,n,f,.int .i64 y.1,Q13.out,r5,Tryz.underlying175,gM.out,rfl,Wl.out, ?_⟩;intro w5 hM' hm';have Qj:=Lib.hid hM';have Fp:=Lib.hid hm';clear hM' hm')
      go_roundw
      case rel=>
       refine ⟨k+1,by go_num,hlt2, ?_,oO.out.trans Fp.out zi⟩;exact a2k.inc Q2.out Q3.out Q4.out Hc.out Qj.out (fun id=>by rw [BN.out];simp)
      case measure=>simp [intOf];omega
    obtain rfl:k=ps.length:=zo
    rw [List.take_length] at oN
    have hcA:a2k wr wa.heap.size ((j+1)*T) (a1I I (L.take (j+1))):=oN.cong (by rw [Nat.add_mul,Nat.one_mul];exact Nat.add_le_add_left p2 _) (fun id=>by
     rw [List.take_add_one,cB.out,Option.toList_some,b0p,<-P4.out id,List.filter_map,zz10,List.filter_filter];congr 2;congr 1;funext p
     exact Bool.and_comm _ _)
    have fQ:=Io.out.drew.trans bg zi;obtain ⟨Iu,Qk,BJ,eG⟩:=zh4 oN hcA fQ bg;clear oN hcA fQ bg
    go_wp2_with fail
    go_roundw
    case rel=>exact ⟨j+1,by go_num,hlt,Qk.out,BJ.out⟩
    case measure=>simp [intOf];omega
  obtain rfl:j=L.length:=zo
  rw [List.take_length] at hcn;obtain ⟨ff,hf1,hf2⟩:=yY.out.fm;have hfA:=hf1.mod hmr (fun h=>by have h':m1=wa.heap.size:=h;omega);have hlow:=H.out.low
  have hso:=a8a hfA zo H.out.nd (fun x=>by
   have h1:=hf2 x;constructor
   ·intro hx;obtain ⟨q,hq⟩:=a6N hx;rw [hq] at h1
    cases hv:ff (.int .i64 x) with
    |some v=>rfl
    |none=>rw [hv] at h1;exact h1.elim
   ·intro hx
    cases hq:B7 I x with
    |some q=>exact List.mem_map_of_mem (a0P hq)
    |none=>
     rw [hq] at h1
     cases hv:ff (.int .i64 x) with
     |none=>rw [hv] at hx;cases hx
     |some v=>rw [hv] at h1;exact h1.elim)
  have cA:wA.cell? ⟨b,0,none⟩=some (.map (some m1)):=d6 (hmr.heap yY.out.row (fun h=>by have h':b=wa.heap.size:=h;omega)) rfl;obtain ⟨NE,Hf1,lL,Iw,oK,aK⟩:=zh6 hcn hf1 hf2 hfA hso hmr;clear hcn hf1 hf2 hfA hso hmr
  go_wp2_with fail
  refine (b2c (some m1) wA).mono ?_;rintro e wK ⟨rfl,rfl⟩
  go_wp2_with fail
  refine oK.out.mono ?_;rintro e w4 ⟨sv,rfl,xe,gZ,aR⟩;obtain ⟨ids,jb⟩:∃ids,W8 (I.map Prod.fst)=ids:=⟨_,rfl⟩;rw [jb,zz10] at xe;obtain ⟨sa,sc,rfl,hsc⟩:=xe.shape;have rf:Mod (fun k=>k=wa.heap.size) wb w4:=(aK.out.alloc _).trans (aR.mono (fun _ _ h=>h.elim)) zi;have Iy:=(NE.out.mod ((Mod.refl (fun _=>False) wA).alloc _) (fun h=>h)).mod aR (fun h=>h);have nN:=(Iw.out.mod ((Mod.refl (fun _=>False) wA).alloc _) (fun h=>h)).mod aR (fun h=>h);have hrow4:=rf.heap yY.out.row (fun h=>by have h':b=wa.heap.size:=h;omega);have hge4:=rf.heap Nr.out (fun h=>by have h':w.heap.size=wa.heap.size:=h;omega)
  have Ql:ids.length<=100000:=by
   rw [<-jb,show (W8 (I.map Prod.fst)).length=(I.map Prod.fst).length from (List.mergeSort_perm _ leI).length_eq,zz10];omega
  have zf:b5u w4 I es L (.slice none 0 0) (.int .i64 ((0:Nat):Int)) w4:=⟨0,[],none,0,rfl,Nat.zero_le _,rfl,rfl,j2.nil _ _ _,fun k hk=>by simp [Value.ownBlock] at hk,Mod.refl _ _⟩;have hz4:wb.heap.size<=w4.heap.size:=rf.size;obtain ⟨Qm,NG,dN,Qn,Qo,xg,iw,Qp,iy,Iz⟩:=zh10 xe gZ aR rf Iy nN hrow4 hge4 jb zf;clear xe gZ aR rf Iy nN hrow4 hge4 jb zf
  go_wp2_with fail
  go_loopw [10,53] (fun ov i wr=>b5u w4 I es L ov i wr) (fun _ i _=>ids.length - (intOf i).toNat)
  case atStart=>exact Iz.out
  case round=>
   obtain ⟨j,o,oa,oc,rfl,hj,ho,rfl,hown,hof,bg⟩:=hrel;rw [iy.out] at hj ho;by_cases hlt:j<ids.length
   ·have hlt':(j:Int)<ids.length:=zo
    obtain ⟨id,rq⟩:∃id,ids[j]? =some id:=⟨_,zz5 hlt⟩
    have oP:id∈I.map Prod.fst:=by
     rw [<-a45,iy.out];exact zz8 rq
    obtain ⟨q,hq⟩:=a6N oP;have hqm:=a0P hq;have hkey:keyOf Tryz.prog 3 (.int .i64 id)=some (.int .i64 id):=Maps.keyOf_int_mk Tryz.underlying3 (H.out.wf _ hqm).1;have hfi:=lL.out id;rw [hq] at hfi
    cases fC:ff (.int .i64 id) with
    |none=>rw [fC] at hfi;exact hfi.elim
    |some fv=>
     rw [fC] at hfi;obtain ⟨qa,qc,rfl, -, -⟩:=hfi;obtain ⟨sg,soff,rfl,cid⟩:∃g off,sa=some ⟨g,off,none⟩/\wr.cell? ⟨g,off+j,none⟩=some (.int .i64 id):=a34 (Qm.out.rd.mod bg zi) rq;have cb:wr.cell? ⟨b,0,none⟩=some (.map (some m1)):=d6 (bg.heap iw.out (fun h=>h)) rfl
     have hl1:(Instr.lookup 129 (.map (some m1)) (.int .i64 id) false).run Tryz.prog wr= .ok (.agg #[.string q.1,.slice qa q.2.length qc]) wr:=by
      rw [(xg.out.mod bg (fun h=>h)).look r5 Tryz.underlying129 (D5 wr) hkey,fC];rfl
     obtain ⟨wz,hwz,ai,aj,aJ⟩:=g8 wr (.cells #[.string q.1,.slice qa q.2.length qc] 26);obtain ⟨n,f,q1,q2,q3,q4⟩:=(Qo.out.mod bg (fun h=>h)).mod ai (fun h=>h);obtain ⟨c,hc⟩:∃c,a1I I L id=c:=⟨_,rfl⟩
     have hl2:(Instr.lookup 175 (.map (some wa.heap.size)) (.int .i64 id) false).run Tryz.prog wz= .ok (.int .i64 c) wz:=by
      rw [q1.look r5 Tryz.underlying175 (a6L wz) hkey,q3,hc]
     have ce:wz.cell? ⟨w.heap.size,0,none⟩=some (.string es):=d6 ((bg.trans ai zi).heap Qp.out (fun h=>h)) rfl;have cf0:wz.cell? ⟨wr.heap.size,0,none⟩=some (.string q.1):=d6 aj rfl;have cf1:wz.cell? ⟨wr.heap.size,1,none⟩=some (.slice qa q.2.length qc):=d6 aj rfl;obtain ⟨t,ht⟩:∃t,((c:Int)==(q.2.length:Int))=t:=⟨_,rfl⟩
     have hmb:a4G I es L id=(t&&m8 es q.1):=by
      unfold a4G;rw [hq];simp only [];rw [hc,<-ht];congr 1;rw [Bool.eq_iff_iff,beq_iff_eq,beq_iff_eq];omega
     have hnx:(ids.take (j+1)).filter (a4G I es L)=o++if (t&&m8 es q.1)=true then [id] else []:=by
      rw [List.take_add_one,rq,List.filter_append,<-ho,Option.toList_some,List.filter_cons,hmb,List.filter_nil]
     have hun:=a14 es q.1 zo (Nat.le_trans (H.out.sc _ hqm) zd) wz;obtain ⟨u,hu⟩:∃u,m8 es q.1=u:=⟨_,rfl⟩;rw [hu] at hun hnx;have hol:o.length<=100000:=by rw [ho];exact Nat.le_trans (List.length_filter_le _ _) (by rw [List.length_take];omega)
     have BK:=bg.trans ai zi;have jC:=hown.mod ai zi;obtain ⟨Ho,aZ,uL,eG,b7j,IA,Hq,Hqm,fO,yX,bi,bn⟩:=zh12 ho hown hof bg rq oP hq hqm hkey fC hwz ai;obtain ⟨aN,Q1,Q2,Q3,Q4,Hc,bW,dn,uK,BO,nG⟩:=zh11 aj q1 q2 q3 q4 hc hmb hnx hun BK jC;clear ho hown hof bg rq oP hq hqm hkey fC hwz ai aj q1 q2 q3 q4 hc hmb hnx hun BK jC aJ
     cases t with
     |false=>
      have cz:(ids.take (j+1)).filter (a4G I es L)=o:=by rw [dn.out];simp
      have bT:=zh cz;clear cz
      go_wp2_with ((with_reducible refine d9 26 (.tmp 13) (.tmp 62) ?_);refine ⟨rfl,[.string q.1,.slice qa q.2.length qc],rfl,rfl,zk,rfl, ?_⟩;rw [bi.out])
      go_roundw
      case rel=>exact ⟨j+1,o,oa,oc,by go_num,by rw [iy.out];exact hlt,by rw [iy.out];exact bT.out.symm,rfl,nG.out,uL.out,BO.out⟩
      case measure=>simp [intOf];omega
     | true=>
      go_wp2_with ((with_reducible refine d9 26 (.tmp 13) (.tmp 62) ?_);refine ⟨rfl,[.string q.1,.slice qa q.2.length qc],rfl,rfl,zk,rfl, ?_⟩;rw [bi.out])
      refine uK.out.mono ?_;rintro e w5 ⟨rfl,gN⟩;obtain rfl:=gN.symm
      cases u with
      |false=>
       have cz:(ids.take (j+1)).filter (a4G I es L)=o:=by rw [dn.out];simp
       have bT:=zh cz;clear cz
       go_wp2_with fail
       go_roundw
       case rel=>exact ⟨j+1,o,oa,oc,by go_num,by rw [iy.out];exact hlt,by rw [iy.out];exact bT.out.symm,rfl,nG.out,uL.out,BO.out⟩
       case measure=>simp [intOf];omega
      | true=>
       have cz:(ids.take (j+1)).filter (a4G I es L)=o++[id]:=by rw [dn.out];simp
       obtain ⟨wq,hwq,xh,Qq,Qr⟩:=g8 wz (.cells #[.int .i64 id] 3);have hrq:j3 wq 1 (.slice (some ⟨wz.heap.size,0,none⟩) 1 1) 1 [.int .i64 id]:=hwq▸j3.one wz [.int .i64 id] 3 rfl;have hone:∀v∈([.int .i64 id]:List Value),v.oneCell'=true:=fun v hv=>zz15 (show ([.int .i64 id]:List Value).all (·.oneCell')=true from rfl) v hv;have hoq:=nG.out.mod xh zi;have IB:=BO.out.trans xh zi;obtain ⟨bT,Hwq,b7k,Qs,aX,BP,IC⟩:=zh7 cz hwq xh hrq hone hoq IB;clear cz hwq xh hrq hone hoq IB Qq Qr
       go_wp2_with (first|(rw [show wz.alloc _=wq from Hwq.out])|((with_reducible refine l0 (.tmp 77) (.tmp 79) 97 ?_);refine ⟨rfl,3,1,8,b5J,.slice oa o.length oc,o.length,o.map (Value.int .i64),rfl,BP.out,_,1,[.int .i64 id],rfl,Qs.out,aX.out,zo,by unfold maxLen;omega, ?_⟩;intro ad cap5 w5 hA;have HA:=Lib.hid hA;clear hA))
       go_roundw
       case rel=>
        refine ⟨j+1,o++[id],ad,cap5,by go_num,by rw [iy.out];exact hlt,by rw [iy.out];exact bT.out.symm,by rw [zz4];rfl, ?_, ?_, ?_⟩
        ·rw [zz4,List.map_append];exact HA.out.1
        ·intro k hk;rcases HA.out.2.2 with h3|⟨k',h3,h4⟩
         ·exact uL.out k (h3▸hk)
         rw [h3] at hk;cases hk
         have:=IC.out.size;omega
        exact IC.out.upon HA.out.2.1 (fun k hk=> .inr (uL.out k hk))
       case measure=>simp [intOf];omega
   obtain rfl:j=ids.length:=zo
   rw [List.take_length] at ho;have Wm:a6M I es L=o:=by unfold a6M;rw [iy.out,ho]
   have zl:Mod (fun _=>False) w wr:=(bq.out.upon Qn.out (fun k hk=> .inr (by have h':k=wa.heap.size:=hk;omega))).trans bg zi;obtain ⟨Ho,aZ,uL,eG,Hom,Fs⟩:=zh6 ho hown hof bg Wm zl;clear ho hown hof bg Wm zl
   go_wp2_with fail
   go_ret;exact ⟨_,rfl,by rw [Hom.out];exact aZ.out,fun k hk=>by have h1:=uL.out k hk;have h2:=bq.out.size;omega,Fs.out⟩
end
open Go.RowKit
theorem a8i:a1C 0=0:=by decide+kernel
theorem a6O {x:Nat} (hx:x<2^64) (hn:I5 x):a1C (m4 x)=a1C x:=by
 rw [U3 hx hn];by_cases h:m7 x=0
 ·rw [if_pos h,a8i];unfold a1C;rw [h];split<;>rfl
 rw [if_neg h]
theorem b4s:fEq a9U a9U=false:=by decide+kernel
theorem b5O:fEq 0 0=true:=by decide+kernel
theorem b0r (x:Nat):fEq (m4 x) (m4 x)=fEq x x:=by
 unfold m4
 cases h:fEq x x with
 |false=>rw [if_neg zd];exact b4s
 |true=>
  rw [if_pos rfl];split
  ·exact b5O
  exact h
theorem Z1 {v:V} (h:0<=v.kind/\v.kind<=3):v.canon.kind=v.kind:=by
 unfold V.canon;split
 ·rename_i h;exact h.symm
 split
 ·rename_i h;exact h.symm
 split
 ·rename_i h;exact h.symm
 split
 ·rename_i h;exact h.symm
 omega
theorem a1g {v:V} (h:0<=v.kind/\v.kind<=3):v.canon.void=v.void:=by
 unfold V.void;rw [Z1 h];by_cases h1:v.kind=1
 ·have:v.canon.num=m4 v.num:=by unfold V.canon;rw [if_neg zo,if_pos h1]
  rw [this,b0r]
 rw [beq_eq_false_iff_ne.2 h1];rfl
theorem b0s {a v:V} (h:0<=v.kind/\v.kind<=3) (hk:a.kind=v.kind) (ha:a.void=false) (hv:v.void=false) (hn:v.num<2^64):V.cmp a v.canon=V.cmp a v:=by
 unfold V.cmp;by_cases h0:a.kind=0
 ·rw [if_pos h0,if_pos h0];have:v.canon.int=v.int:=by unfold V.canon;rw [if_pos (hk▸h0)]
  rw [this]
 rw [if_neg h0,if_neg h0];by_cases h1:a.kind=1
 ·rw [if_pos h1,if_pos h1];have e:v.canon.num=m4 v.num:=by unfold V.canon;rw [if_neg zo,if_pos (hk▸h1)]
  have na:=U8 ha h1;have nv:=U8 hv (hk▸h1);have nc:=U8 (a:=v.canon) (by rw [a1g h];exact hv) (by rw [Z1 h];omega);rw [e] at nc⊢;rw [J5 na nc,J5 nc na,J5 na nv,J5 nv na,a6O hn nv]
 rw [if_neg h1,if_neg h1];by_cases h2:a.kind=2
 ·rw [if_pos h2,if_pos h2];have:v.canon.text=v.text:=by unfold V.canon;rw [if_neg zo,if_neg zo,if_pos zo]
  rw [this]
 rw [if_neg h2,if_neg h2];have:v.canon.yes=v.yes:=by unfold V.canon;rw [if_neg zo,if_neg zo,if_neg zo,if_pos zo]
 rw [this]
theorem a8j {a v:V} (h:0<=v.kind/\v.kind<=3) (hn:v.num<2^64):q7 a v.canon=q7 a v:=by
 by_cases hq:a.kind=v.kind/\a.void=false/\v.void=false
 ·rw [Y9 hq.1 hq.2.1 hq.2.2,Y9 (by rw [Z1 h];exact hq.1) hq.2.1 (by rw [a1g h];exact hq.2.2),b0s h hq.1 hq.2.1 hq.2.2 hn]
 rw [a3o hq,a3o (by rw [Z1 h,a1g h];exact hq)]
theorem a8k {c:Cnd} (h:0<=c.v.kind/\c.v.kind<=3) (hn:c.v.num<2^64) (v:V):c.norm.holds v=c.holds v:=by
 unfold Cnd.norm;by_cases h7:c.op=7
 ·rw [if_pos h7];unfold Cnd.holds;rw [if_pos rfl,if_pos h7]
 rw [if_neg h7];unfold Cnd.holds;simp only [];rw [a8j h hn];by_cases h6:c.op=6
 ·rw [if_neg h7,if_neg h7,if_pos h6,if_pos h6];by_cases hq:v.kind=c.v.kind/\v.void=false/\c.v.void=false
  ·by_cases h2:v.kind=2
   ·have:c.v.canon.text=c.v.text:=by unfold V.canon;rw [if_neg zo,if_neg zo,if_pos zo]
    rw [this]
   rw [beq_eq_false_iff_ne.2 h2];simp
  rw [a3o hq];rfl
 rw [if_neg h7,if_neg h7,if_neg h6,if_neg h6]
theorem a47 (c:Cnd):c.norm.name=c.name:=by unfold Cnd.norm;split<;>rfl
theorem a9w (c:Cnd):c.norm.op=c.op:=by
 unfold Cnd.norm;split
 ·rename_i h;exact h.symm
 rfl
def okC (c:Cnd):Prop:=(0<=c.op/\c.op<=7)/\c.v.num<2^64
theorem a8l {a b c:Cnd} {i j k:Nat} (ha:okC a) (hb:okC b) (hc:okC c) (hik:i=k->a=c) (h1:L6 b j i a=true) (h2:L6 c k j b=true):L6 c k i a=true:=by
 unfold L6 at*;simp only [Bool.and_eq_true,Bool.or_eq_true,decide_eq_true_eq,Bool.not_eq_true'] at*;obtain ⟨n1,p1,q1⟩:=h1;obtain ⟨n2,p2,q2⟩:=h2;have hac:=a0O ha.1 hb.1 hc.1 ha.2 hb.2 hc.2 p1 p2
 have key:J6 c a=true->i<k:=fun h=>by
  have h3:J6 b a=true:=a0O hb.1 hc.1 ha.1 hb.2 hc.2 ha.2 p2 h;have h4:J6 c b=true:=a0O hc.1 ha.1 hb.1 hc.2 ha.2 hb.2 h p1;rcases q1 with q1|q1
  ·rcases q2 with q2|q2
   ·omega
   rw [h4] at q2;cases q2
  rw [h3] at q1;cases q1
 by_cases oG:J6 c a=true
 ·have:=key oG;exact ⟨zo,hac,.inl this⟩
 exact ⟨fun e=>oG (by rw [hik e];exact a6B hc.1 hc.2),hac,.inr (by rw [Bool.eq_false_iff];exact oG)⟩
theorem b0t {α:Type} {p q:α->Bool} {l:List α} (h:∀x∈l,p x=true->q x=true) {x:α} (hx:x∈l) (hq:q x=true) (hp:p x=false):(l.filter p).length<(l.filter q).length:=by
 induction l with
 |nil=>cases hx
 | cons y l ih=>
  have hle:(l.filter p).length<=(l.filter q).length:=by
   clear ih hx;have h':∀x∈l,p x=true->q x=true:=fun x hx=>h x (List.mem_cons_of_mem _ hx);clear h
   induction l with
   |nil=>exact Nat.le_refl _
   |cons z l ih2=>
    have:=ih2 (fun x hx=>h' x (List.mem_cons_of_mem _ hx));rw [List.filter_cons,List.filter_cons];have hz:=h' z (List.mem_cons_self ..);cases hpz:p z<;>cases hqz:q z
    ·simpa using this
    ·simp;omega
    ·rw [hz hpz] at hqz;cases hqz
    simpa using this
  rw [List.filter_cons,List.filter_cons];rcases List.mem_cons.1 hx with rfl|hx
  ·rw [hp,hq];simp;omega
  have h1:=ih (fun x hx=>h x (List.mem_cons_of_mem _ hx)) hx;have hy:=h y (List.mem_cons_self ..);cases hpy:p y<;>cases Wn:q y
  ·simpa using h1
  ·simp;omega
  ·rw [hy hpy] at Wn;cases Wn
  simpa using h1
theorem a6P (s:List Cnd) (hs:∀c∈s,okC c):∀(n i:Nat) (c:Cnd),s[i]? =some c->(s.zipIdx.filter fun p=>L6 c i p.2 p.1).length<=n->∃k d,s[k]? =some d/\M6 s k d=false/\J6 d c=true
 |n,i,c,hc,hn=>by
  have oc:=hs c (zz8 hc)
  cases hb:M6 s i c with
  |false=>exact ⟨i,c,hc,hb,a6B oc.1 oc.2⟩
  | true=>
   unfold M6 at hb;obtain ⟨⟨a,k⟩,hm,hna⟩:=List.any_eq_true.1 hb;have hk:=List.mem_zipIdx_iff_getElem?.1 hm;simp only at hk hna;have oa:=hs a (zz8 hk)
   have hlt:=b0t (p:=fun p=>L6 a k p.2 p.1) (q:=fun p=>L6 c i p.2 p.1) (l:=s.zipIdx) (fun x hx hp=>by
    have hxk:=List.mem_zipIdx_iff_getElem?.1 hx;refine a8l (hs _ (zz8 hxk)) oa oc (fun e=> ?_) hp hna;rw [e,hc] at hxk
    exact (Option.some.inj hxk).symm) hm hna (by unfold L6;simp)
   match n,hn with
   |0,hn=>omega
   | n+1,hn=>
    obtain ⟨k',d,h1,h2,h3⟩:=a6P s hs n k a hk zo
    have hac:J6 a c=true:=by
     unfold L6 at hna;simp only [Bool.and_eq_true] at hna;exact hna.2.1
    have od:=hs d (zz8 h1);exact ⟨k',d,h1,h2,a0O od.1 oa.1 oc.1 od.2 oa.2 oc.2 h3 hac⟩
theorem b0u {s:List Cnd} {k:Nat} {d:Cnd} (h:s[k]? =some d) (hn:M6 s k d=false):d∈A9 s s.length:=by
 unfold A9;rw [List.take_length];exact List.mem_filterMap.2 ⟨(d,k),List.mem_zipIdx_iff_getElem?.2 h,by simp [hn]⟩
theorem b0v {l:List Cnd} (hl:∀c∈l,okC c) (M:Cnd->Bool) (hm:∀a b,okC a->okC b->J6 a b=true->M a=true->M b=true) (hn:∀c∈l,M c.norm=M c) (ho:∀c∈l,okC c.norm):(j4 l).all M=l.all M:=by
 rw [Bool.eq_iff_iff,List.all_eq_true,List.all_eq_true]
 have os:∀c∈L7 l,okC c:=fun c hc=>by
  obtain ⟨d,hd,rfl⟩:=R7 hc;exact ho d hd
 constructor
 ·intro h c hc;rw [<-hn c hc];have hcs:c.norm∈L7 l:=(a0b ltC _).mem_iff.2 (List.mem_map_of_mem hc);obtain ⟨i,hi⟩:=List.mem_iff_getElem?.1 hcs;obtain ⟨k,d,h1,h2,h3⟩:=a6P (L7 l) os _ i c.norm hi (Nat.le_refl _)
  have hd:d∈j4 l:=by
   unfold j4;rw [<-a0M];exact b0u h1 h2
  exact hm d c.norm (os d (zz8 h1)) (ho c hc) h3 (h d hd)
 intro h c hc;obtain ⟨d,hd,rfl⟩:=R7 (a0Q hc);rw [hn d hd];exact h d hd
def a4H (a:Att) (c:Cnd):Bool:=c.name.data.toList==a.name.data.toList&&c.holds a.v
def a5F (q:List Cnd) (L:List Att):Nat:=(L.map fun a=>(q.filter (a4H a)).length).sum
theorem b2j (L:List Att):a5F [] L=0:=by
 unfold a5F
 induction L with
 |nil=>rfl
 |cons a L ih=>rw [List.map_cons,List.sum_cons,ih];rfl
theorem b0w (c:Cnd) (q:List Cnd) (L:List Att):a5F (c::q) L=(L.filter fun a=>a4H a c).length+a5F q L:=by
 unfold a5F
 induction L with
 |nil=>rfl
 |cons a L ih=>
  rw [List.map_cons,List.sum_cons,List.map_cons,List.sum_cons,ih,List.filter_cons,List.filter_cons];cases a4H a c<;>simp<;>omega
theorem b4t {L:List Att} (hL:(L.map fun a=>a.name.data.toList).Nodup) (c:Cnd):(L.filter fun a=>a4H a c).length=if o4 c L=true then 1 else 0:=by
 have hit:∀a:Att,(a.name.toList==c.name.toList&&c.holds a.v)=a4H a c:=fun a=>by
  unfold a4H;rw [ByteArray.toList_eq,ByteArray.toList_eq,Bool.beq_comm]
 unfold o4;simp only [hit]
 induction L with
 |nil=>rfl
 | cons a L ih=>
  rw [List.map_cons,List.nodup_cons] at hL;rw [List.filter_cons,List.any_cons]
  cases h:a4H a c with
  |false=>
   rw [if_neg zd,Bool.false_or];exact ih hL.2
  | true=>
   rw [if_pos rfl,Bool.true_or,if_pos rfl,zz9]
   have:L.filter (fun a=>a4H a c)=[]:=by
    rw [List.filter_eq_nil_iff];intro b hb hbc;unfold a4H at h hbc;rw [Bool.and_eq_true,beq_iff_eq] at h hbc;exact hL.1 (by rw [<-h.1,hbc.1];exact List.mem_map_of_mem hb)
   rw [this];rfl
theorem b4u {L:List Att} (hL:(L.map fun a=>a.name.data.toList).Nodup) (q:List Cnd):a5F q L<=q.length/\(a5F q L=q.length↔∀c∈q,o4 c L=true):=by
 induction q with
 |nil=>rw [b2j];simp
 | cons c q ih=>
  rw [b0w,b4t hL,zz9];obtain ⟨h1,h2⟩:=ih
  cases h:o4 c L with
  |false=>
   refine ⟨by simp;omega,⟨fun e=> ?_,fun e=> ?_⟩⟩
   ·simp at e;omega
   ·have:=e c (List.mem_cons_self ..);rw [h] at this;cases this
  | true=>
   refine ⟨by simp;omega,⟨fun e=> ?_,fun e=> ?_⟩⟩
   ·intro d hd;rcases List.mem_cons.1 hd with rfl|hd
    ·exact h
    exact h2.1 (by simp at e;omega) d hd
   have:=h2.2 (fun d hd=>e d (List.mem_cons_of_mem _ hd));simp;omega
theorem b5P {I:List (Int×Fil)} {id:Int} {q:Fil} (h:B7 I id=some q) (L:List Att):a1I I L id=a5F q.2 L:=by
 unfold a1I a5F;rw [h];congr 1;congr 1;funext a;unfold T0;simp only [List.filter_filter];congr 1;congr 1;funext c;unfold a4H;exact Bool.and_comm _ _
def z8 (f:Fil) (es:ByteArray) (L:List Att):Bool:=m8 es f.1&&f.2.all fun c=>o4 c L
theorem b0x {I:List (Int×Fil)} {id:Int} {q:Fil} (h:B7 I id=some q) {L:List Att} (hL:(L.map fun a=>a.name.data.toList).Nodup) (es:ByteArray):a4G I es L id=z8 q es L:=by
 unfold a4G z8;rw [h];simp only [];rw [b5P h,Bool.and_comm];congr 1;rw [Bool.eq_iff_iff,beq_iff_eq,List.all_eq_true];exact (b4u hL q.2).2
theorem a8m {a b:Cnd} (ha:okC a) (hb:okC b) (h:J6 a b=true) (L:List Att) (hm:o4 a L=true):o4 b L=true:=by
 have hn:=((a0N a b ha.1 hb.1 ha.2 hb.2).1 h).1;unfold o4 at*;obtain ⟨x,hx,h1⟩:=List.any_eq_true.1 hm;rw [Bool.and_eq_true] at h1;refine List.any_eq_true.2 ⟨x,hx, ?_⟩;rw [Bool.and_eq_true,<-hn];exact ⟨h1.1,b0i ha.1 hb.1 ha.2 hb.2 h h1.2⟩
structure Cnd.whole (c:Cnd):Prop where
 op:0<=c.op/\c.op<=7
 kind:0<=c.v.kind/\c.v.kind<=3
 num:c.v.num<2^64
theorem a6Q {c:Cnd} (h:c.whole):okC c/\okC c.norm:=by
 refine ⟨⟨h.op,h.num⟩,⟨by rw [a9w];exact h.op, ?_⟩⟩;unfold Cnd.norm;split
 ·exact (by decide:(0:Nat)<2^64)
 show c.v.canon.num<2^64;unfold V.canon;split
 ·exact (by decide:(0:Nat)<2^64)
 split
 ·exact R2 h.num
 split
 ·exact (by decide:(0:Nat)<2^64)
 split<;>exact (by decide:(0:Nat)<2^64)
theorem a2l {sc:ByteArray} {l:List Cnd} (hl:∀c∈l,c.whole) (es:ByteArray) (L:List Att):z8 (sc,j4 l) es L=z8 (sc,l) es L:=by
 unfold z8;simp only []
 rw [b0v (fun c hc=>(a6Q (hl c hc)).1) (fun c=>o4 c L) (fun a b ha hb h hm=>a8m ha hb h L hm) (fun c hc=>by
  unfold o4;rw [a47];congr 1;funext a
  rw [a8k (hl c hc).kind (hl c hc).num]) (fun c hc=>(a6Q (hl c hc)).2)]
section
open Go.RowKit Go.Sort
def U9:List (List UInt8)->List (List UInt8)
 |[]=>[]
 |k::l=>if k∈U9 l then U9 l else k::U9 l
theorem b0y {l:List (List UInt8)} {k:List UInt8}:k∈U9 l↔k∈l:=by
 induction l generalizing k with
 |nil=>exact Iff.rfl
 | cons a l ih=>
  unfold U9;split
  ·rename_i h
   rw [ih,List.mem_cons];exact ⟨.inr,fun h2=>h2.elim (fun e=>by rw [e];exact ih.1 h) id⟩
  rw [List.mem_cons,List.mem_cons,ih]
theorem a2K (l:List (List UInt8)):(U9 l).Nodup:=by
 induction l with
 |nil=>exact List.nodup_nil
 | cons a l ih=>
  unfold U9;split
  ·exact ih
  rename_i h
  exact List.nodup_cons.2 ⟨h,ih⟩
def Z2 (M:List (Int×Fil)) (td:Int) (k:List UInt8):Option Fil:=(M.find? fun p=> !(p.1==td)&&j5 p.2==k).map Prod.snd
def a2m (M:List (Int×Fil)) (td:Int):List (List UInt8):=K2 (U9 ((M.filter fun p=> !(p.1==td)).map fun p=>j5 p.2))
def a8n (f g:Fil):Bool:=b6Z f.1 f.2 g.1 g.2
def a6R (g:List UInt8->Option Fil) (ks:List (List UInt8)) (k:List UInt8) (f:Fil):Bool:=
 ks.any fun j=>match g j with|some h=>decide (j≠k)&&(a8n h f&&(decide (j<k)|| !a8n f h))|none=>false
def B8 (M:List (Int×Fil)) (td:Int):List Fil:=(a2m M td).filterMap fun k=>(Z2 M td k).filter fun f=> !a6R (Z2 M td) (a2m M td) k f
theorem a0S {L:List (List UInt8)} {x:List UInt8}:x∈K2 L↔x∈L:=(List.mergeSort_perm L leB).mem_iff
theorem b2k {L:List (List UInt8)} (h:L.Nodup):(K2 L).Pairwise (· < ·):=by
 have h1:(K2 L).Pairwise (fun a b=>leB a b=true):=by
  unfold K2;refine List.pairwise_mergeSort (fun a b c h1 h2=> ?_) (fun a b=> ?_) L
  ·unfold leB at*;simp only [decide_eq_true_eq] at*;exact List.le_trans h1 h2
  unfold leB;simp only [Bool.or_eq_true,decide_eq_true_eq];exact List.le_total a b
 have h2:(K2 L).Nodup:=(List.mergeSort_perm L leB).nodup_iff.2 h;refine (h1.and h2).imp fun {a b} h=> ?_
 have h3:a<=b:=by
  have:=h.1;unfold leB at this;simpa using this
 exact Classical.byContradiction fun h4=>h.2 (List.le_antisymm h3 h4)
theorem I7 {M:List (Int×Fil)} {td:Int} {k:List UInt8} {q:Fil} (h:Z2 M td k=some q):j5 q=k/\∃x,x≠td/\(x,q)∈M:=by
 unfold Z2 at h;obtain ⟨p,h1,rfl⟩:=Option.map_eq_some_iff.1 h;have h2:=List.find?_some h1;simp only [Bool.and_eq_true,beq_iff_eq,Bool.not_eq_true',beq_eq_false_iff_ne] at h2;exact ⟨h2.2,p.1,h2.1,List.mem_of_find?_eq_some h1⟩
theorem a6S {M:List (Int×Fil)} {td x:Int} {q:Fil} (h:(x,q)∈M) (hx:x≠td):∃r,Z2 M td (j5 q)=some r:=by
 cases h1:Z2 M td (j5 q) with
 |some r=>exact ⟨r,rfl⟩
 |none=>
  unfold Z2 at h1;rw [Option.map_eq_none_iff,List.find?_eq_none] at h1;have:=h1 _ h;simp [hx] at this
theorem b2l {M:List (Int×Fil)} {td:Int} {k:List UInt8}:k∈a2m M td↔∃q,Z2 M td k=some q:=by
 unfold a2m;rw [a0S,b0y];constructor
 ·intro h;obtain ⟨p,h1,rfl⟩:=List.mem_map.1 h;obtain ⟨h1,h2⟩:=List.mem_filter.1 h1;exact a6S (x:=p.1) h1 (by simpa using h2)
 rintro ⟨q,h⟩;obtain ⟨rfl,x,h1,h2⟩:=I7 h;exact List.mem_map.2 ⟨(x,q),List.mem_filter.2 ⟨h2,by simpa using h1⟩,rfl⟩
theorem b4v (M:List (Int×Fil)) (td:Int):(a2m M td).Pairwise (· < ·):=b2k (a2K _)
theorem b2m {M:List (Int×Fil)} {td:Int} {f:Fil} (h:f∈B8 M td):Z2 M td (j5 f)=some f/\a6R (Z2 M td) (a2m M td) (j5 f) f=false:=by
 unfold B8 at h;obtain ⟨k,h1,h2⟩:=List.mem_filterMap.1 h;obtain ⟨h3,h4⟩:=Option.filter_eq_some_iff.1 h2;obtain ⟨rfl, -⟩:=I7 h3;exact ⟨h3,by simpa using h4⟩
theorem a9x (M:List (Int×Fil)) (td:Int):(B8 M td).Pairwise fun a b=>j5 a<j5 b:=by
 unfold B8;rw [List.pairwise_filterMap];refine (b4v M td).imp fun {a b} h f hf g hg=> ?_;obtain ⟨h3, -⟩:=Option.filter_eq_some_iff.1 hf;obtain ⟨h4, -⟩:=Option.filter_eq_some_iff.1 hg;rw [(I7 h3).1,(I7 h4).1];exact h
end
end Go.Proofs.YtebhabpahfmodaaGreatDoor
