/- Lemmas. -/
import Derived.Test.YtdmjoodhaeijmaaGreatDoorZn23
set_option maxHeartbeats 40000000
set_option maxRecDepth 20000
namespace Go.Proofs.YtdmjoodhaeijmaaGreatDoor
section
open Go.RowKit
theorem a5q (p:Int×Cnd):(a3w p).length=8:=rfl
theorem b37 {α:Type} {f:α->List Value} {sz:Nat} (hf:∀a,(f a).length=sz) (l:List α) {k j:Nat} {a:α} {u:Value} (h:l[k]? =some a) (hj:(f a)[j]? =some u):(l.flatMap f)[k*sz+j]? =some u:=by
 induction l generalizing k with
 |nil=>simp at h
 | cons b l ih=>
  rw [List.flatMap_cons];have hl:=(zz6 hj).1
  cases k with
  |zero=>
   simp only [List.getElem?_cons_zero,Option.some.injEq] at h;subst h;rw [List.getElem?_append_left zo,Nat.zero_mul,Nat.zero_add,hj]
  |succ k=>
   rw [List.getElem?_cons_succ] at h;rw [List.getElem?_append_right (by rw [hf,Nat.add_mul];omega),hf,show (k+1)*sz+j - sz=k*sz+j by rw [Nat.add_mul];omega];exact ih h
theorem a8N {α:Type} {f:α->List Value} {sz:Nat} (hf:∀a,(f a).length=sz) {w:World} {a:Option Addr} {cap:Nat} {l:List α} {j:Nat} {x:α} (h:i8 w sz (.slice a l.length cap) l.length (l.flatMap f)) (hx:l[j]? =some x):∃g off,a=some ⟨g,off,none⟩/\d8 w g (off+j*sz) (f x):=by
 obtain ⟨-,a',c',h1, -,h3,h4⟩:=h;cases h1
 cases a with
 |none=>have:=(zz6 hx).1;exact absurd (h3 rfl) zo
 |some b=>
  obtain ⟨g',off',h5,h6⟩:=h4 _ rfl (by have:=(zz6 hx).1;omega);refine ⟨g',off',by rw [h5],fun i u hu=> ?_⟩;have:=h6 (j*sz+i) u (b37 hf _ hx hu);rw [Nat.add_assoc];exact this
def b6Q (I:List (Int×Fil)) (id:Int):List (Int×Fil):=I.filter fun p=> !(p.1==id)
attribute [local go_sem ↓] K7
end
section
open Go.RowKit
def a2F (I:List (Int×Fil)) (L:List Att) (id:Int):Nat:=(L.map fun a=>((a11 (a0z I id) a.name).filter fun c=>c.holds a.v).length).sum
theorem a9K (I:List (Int×Fil)) (L:List Att) (a:Att) (id:Int):a2F I (L++[a]) id=a2F I L id+((a11 (a0z I id) a.name).filter fun c=>c.holds a.v).length:=by
 unfold a2F;rw [List.map_append,List.sum_append];simp
def a14 (w:World) (mc K:Nat) (g:Int->Nat):Prop:=∃n f,l8 w 3 mc n f/\n<=K/\(∀id:Int,(f (.int .i64 id)).getD (.int .i64 0)= .int .i64 (g id))/\∀id,g id<=K
theorem a14.mod {w w':World} {mc K:Nat} {g:Int->Nat} {F:Nat->Prop} (h:a14 w mc K g) (hm:Mod F w w') (hF:¬F mc):a14 w' mc K g:=by
 obtain ⟨n,f,h1,h2⟩:=h;exact ⟨n,f,h1.mod hm hF,h2⟩
theorem a14.cong {w:World} {mc K K':Nat} {g g':Int->Nat} (h:a14 w mc K g) (hK:K<=K') (hg:∀id,g' id=g id):a14 w mc K' g':=by
 obtain ⟨n,f,h1,h2,h3,h4⟩:=h;exact ⟨n,f,h1,Nat.le_trans h2 hK,fun id=>by rw [hg];exact h3 id,fun id=>by rw [hg];exact Nat.le_trans (h4 id) hK⟩
theorem a14.inc {w':World} {mc n K:Nat} {g g':Int->Nat} {f:Lit->Option Value} {id:Int} {c:Nat} (h2:n<=K) (h3:∀id:Int,(f (.int .i64 id)).getD (.int .i64 0)= .int .i64 (g id)) (h4:∀id,g id<=K) (hc:g id=c)
 (h:l8 w' 3 mc (if (f (.int .i64 id)).isSome then n else n+1) (T5 f (.int .i64 id) (.int .i64 (c+1)))) (hg:∀x,g' x=g x+if id=x then 1 else 0):a14 w' mc (K+1) g':=by
 refine ⟨_,_,h,by split<;>omega,fun x=> ?_,fun x=>by rw [hg];have:=h4 x;split<;>omega⟩;rw [hg];unfold T5;by_cases e:x=id
 ·rw [if_pos (by rw [e]),if_pos e.symm,e,hc];simp
 rw [if_neg (fun h=>e (Lit.int.inj h).2),if_neg (fun h=>e h.symm)];exact h3 x
theorem a6o (w:World):(zeroValue 3).run Tryz.prog w= .ok (.int .i64 0) w:=zk
def b5g (wb:World) (mc T:Nat) (I:List (Int×Fil)) (L:List Att) (i:Value) (wr:World):Prop:=
 ∃j:Nat,i= .int .i64 j/\j<=L.length/\a14 wr mc (j*T) (a2F I (L.take j))/\Mod (fun k=>k=mc) wb wr
def b5h (wb:World) (mc K:Nat) (g:Int->Nat) (x:Att) (ps:List (Int×Cnd)) (i:Value) (wr:World):Prop:=
 ∃j:Nat,i= .int .i64 j/\j<=ps.length/\a14 wr mc (K+j) (fun id=>g id+((ps.take j).filter fun p=>p.1==id&&p.2.holds x.v).length)/\Mod (fun k=>k=mc) wb wr
def a6p (I:List (Int×Fil)) (es:ByteArray) (L:List Att) (id:Int):Bool:=match a0z I id with
 |some q=>a2F I L id==q.2.length&&A7 es q.1
 |none=>false
def a5r (I:List (Int×Fil)) (es:ByteArray) (L:List Att):List Int:=(a0y (I.map Prod.fst)).filter (a6p I es L)
def b5i (w4:World) (I:List (Int×Fil)) (es:ByteArray) (L:List Att) (ov i:Value) (wr:World):Prop:=
 ∃(j:Nat) (o:List Int) (oa:Option Addr) (oc:Nat),i= .int .i64 j/\j<=(a0y (I.map Prod.fst)).length/\o=((a0y (I.map Prod.fst)).take j).filter (a6p I es L)/\ov= .slice oa o.length oc/\g7 wr 3 1 ov o.length (o.map (Value.int .i64))/\(∀k,ov.ownBlock=some k->w4.heap.size<=k)/\Mod (fun _=>False) w4 wr
def b1E (w:World) (I:List (Int×Fil)) (es:ByteArray) (L:List Att) (e:Ending) (w':World):Prop:=
 ∃v,e= .returned v/\g7 w' 3 1 v (a5r I es L).length ((a5r I es L).map (Value.int .i64))/\(∀k,v.ownBlock=some k->w.heap.size<=k)/\Mod (fun _=>False) w w'
theorem a4A {L:List Int} {x:Int}:x∈a0y L↔x∈L:=(List.mergeSort_perm L leI).mem_iff
theorem a6q {I:List (Int×Fil)} {id:Int} (h:id∈I.map Prod.fst):∃q,a0z I id=some q:=by
 cases hq:a0z I id with
 |some q=>exact ⟨q,rfl⟩
 |none=>exact absurd h (a9I hq)
theorem a3A {w:World} {a:Option Addr} {n cap:Nat} {l:List Int} {j:Nat} {x:Int} (h:i8 w 1 (.slice a n cap) n (l.map (Value.int .i64))) (hx:l[j]? =some x):∃g off,a=some ⟨g,off,none⟩/\w.cell? ⟨g,off+j,none⟩=some (.int .i64 x):=by
 obtain ⟨h0,a',c',h1, -,h3,h4⟩:=h;cases h1
 have hj:=(zz6 hx).1;have hn:n=l.length:=by rw [zz10] at h0;omega
 cases a with
 |none=>exact absurd (h3 rfl) zo
 |some b=>
  obtain ⟨g',off',h5,h6⟩:=h4 _ rfl zo;exact ⟨g',off',by rw [h5],h6 j _ (by rw [List.getElem?_map,hx];rfl)⟩
def b6s (b m2 cb:Nat) (v:Value) (x:Att) (y:World):Prop:=
 y.cell? ⟨b,1,none⟩=some (.map (some m2))/\y.cell? ⟨cb,0,none⟩=some (.string x.name)/\(Instr.lookup 183 (.map (some m2)) (.string x.name) false).run Tryz.prog y= .ok v y
theorem d8.part {w:World} {g off:Nat} {l m:List Value} (h:d8 w g off (l++m)) {n:Nat} (hn:l.length=n):d8 w g (off+n) m:=fun j u hu=>by
 have:=h (n+j) u (by rw [List.getElem?_append_right zo,<-hn,Nat.add_sub_cancel_left];exact hu);rwa [<-Nat.add_assoc] at this
attribute [local go_sem ↓] K7
theorem a9L (w:World) (b:Nat) (own C:Nat->Prop) (I:List (Int×Fil)) (T:Nat) (h:Idx w b own C I T) (hT:T<=100000) (es:ByteArray) (hes:es.size<=1000000) (ev:Value) (L:List Att)
 (hv:i8 w 6 ev L.length (I4 L)) (hL:L.length<=1000) (Ry:∀a∈L,a.name.size<=1000000/\a.v.text.size<=1000000):
 Calls Tryz.prog 117 #[.pointer (some ⟨b,0,none⟩),.agg #[.string es,ev]] w (b1E w I es L):=by
 obtain ⟨m1,m2,h⟩:=h;obtain ⟨a,cap,rfl⟩:∃a c,ev= .slice a L.length c:=by obtain ⟨-,a,c,h, -⟩:=hv;exact ⟨a,c,h⟩
 obtain ⟨wa,ak,ae,aa,ah⟩:=g6 w (.cells #[.string es,.slice a L.length cap] 39);obtain ⟨wb,hwb,ay,aA,aU⟩:=g6 wa (.map #[] 0);have hm2:=ae.trans ay zi;have hib:=h.mod hm2 zi;have hbz:b<w.heap.size:=h.olow _ h.ob.1;have hmz:m1<w.heap.size:=h.olow _ h.ob.2.1;have xL:m2<w.heap.size:=h.olow _ h.ob.2.2;have hsz:w.heap.size<wa.heap.size:=by rw [<-ak];exact Nat.lt_of_lt_of_eq (Nat.lt_succ_self _) (Array.size_push _).symm
 have hmc:l8 wb 3 wa.heap.size 0 (fun _=>none):=hwb▸l8.made wa 3;have c1:wb.cell? ⟨w.heap.size,1,none⟩=some (.slice a L.length cap):=d6 (ay.heap aa (fun h=>h)) rfl;have hvb:=hv.mod hm2 zi;have bO:b5g wb wa.heap.size T I L (.int .i64 ((0:Nat):Int)) wb:=⟨0,rfl,Nat.zero_le _,⟨0,_,hmc,Nat.zero_le _,fun id=>rfl,fun id=>by simp [a2F]⟩,Mod.refl _ _⟩;have hge:=ay.heap aa (fun h=>h);refine hh8 h hv ak ae aa hwb ay aA fun H Hv aB ai aC bN sK bq=> ?_;refine hh6 hm2 hib hmc hvb bO hge fun aS Al nz dY dP GK=> ?_;clear h hv ak ae aa hwb ay aA hm2 hib hmc hvb bO hge ah aU
 go_enter Tryz.func117,Tryz.ntmps117
 go_wp2_with (first|(rw [show w.alloc _=wa from aB.out])|(rw [show wa.alloc _=wb from bN.out]))
 go_loopw [18] (fun i wr=>b5g wb wa.heap.size T I L i wr) (fun i _=>L.length - (intOf i).toNat)
 case atStart=>exact dP.out
 case round=>
  revert wr;intro wA hrel;obtain ⟨j,rfl,hj,hcn,hmr⟩:=hrel;by_cases hlt:j<L.length
  ·have hlt':(j:Int)<L.length:=zo
   obtain ⟨x,hxj⟩:∃x,L[j]? =some x:=⟨_,zz5 hlt⟩;have fO:=Ry x (zz8 hxj);obtain ⟨g,off,rfl,hf0⟩:∃g off,a=some ⟨g,off,none⟩/\d8 w g (off+j*6) x.cells:=a8N Att.cells_length Hv.out hxj;have hgl:g<w.heap.size:=World.block_lt_of_cell? w _ (hf0 0 _ rfl);have hf:d8 wA g (off+j*6) x.cells:=(hf0.mod aS.out (fun h=>h)).mod hmr (fun h=>by have h':g=wa.heap.size:=h;omega);obtain ⟨wz,hwz,ag,aj,aF⟩:=g6 wA (.cells x.cells.toArray 98);have sM:=hmr.trans (ag.mono (G:=fun k=>k=wa.heap.size) (fun _ _ h=>h.elim)) zi;have Ca:a0g w b m1 m2 own C I T:=H.out;obtain ⟨n2,f2,g1,g2,g3,g4,g5⟩:=Al.out.pm;obtain ⟨v,hvv⟩:∃v,(f2 (Lit.str x.name)).getD a5o=v:=⟨_,rfl⟩;obtain ⟨ps,p1,p2,p3,p4⟩:=g3 x.name;rw [hvv] at p1 p3;obtain ⟨va,vc,rfl,lI⟩:=p1.shape;have rC:∀k,(Value.slice va ps.length vc).ownBlock=some k->k<w.heap.size:=fun k hk=>H.out.olow k (p3 k hk);have hpr:∀y F,Mod F wb y->(∀k,F k->w.heap.size<=k)->i8 y 8 (.slice va ps.length vc) ps.length (pls ps):=fun y F hy hF=>p1.rd.mod hy (fun k hk h=>by have h1:=rC k hk;have h2:=hF k h;omega)
   have hSb:b6s b m2 wA.heap.size (.slice va ps.length vc) x wz.drew:=by
    have hg2:l8 wz.drew 9 m2 n2 f2:=(g1.mod sM (fun h=>by have h':m2=wa.heap.size:=h;omega)).mod ((Mod.refl (fun _=>False) wz).drew) (fun h=>h);refine ⟨d6 (sM.heap Al.out.row (fun h=>by have h':b=wa.heap.size:=h;omega)) rfl,d6 aj rfl, ?_⟩;rw [<-hvv];exact hg2.look A2 Tryz.underlying183 (b32 _) (WideMaps.keyOf_string_mk Tryz.underlying9 (by unfold maxLen;omega))
   have fQ:∀p∈ps,p.2.fits/\(Lit.int .i64 p.1).wf=true:=fun p hp=>by
    have h1:p.2∈a11 (a0z I p.1) x.name:=by rw [<-p4 p.1];exact List.mem_map_of_mem (List.mem_filter.2 ⟨hp,by simp⟩)
    cases hq:a0z I p.1 with
    |none=>rw [hq] at h1;cases h1
    |some q=>
     rw [hq] at h1;exact ⟨(H.out.wf _ (a0T hq)).2.2 _ (List.mem_filter.1 h1).1,(H.out.wf _ (a0T hq)).1⟩
   have hcz:=hcn.mod ag (fun h=>h)
   have hz0:wa.heap.size<wA.heap.size:=by
    have h1:=hmr.size;have h2:=(zz7 bq.out).1;omega
   refine hh8 hxj hcn hmr hf0 hf hwz ag aj fun dX GD aL Jf Hf aX bE aJ=> ?_;refine hh8 sM g1 g2 g3 g4 g5 hvv p1 fun Cb G1 G2 G3 G4 G5 uM P1=> ?_;refine hh7 p3 p4 rC hpr fQ hcz Ca fun P3 P4 Og rD xA Rz RA=> ?_;clear hxj hcn hmr hf0 hf hwz ag aj sM g1 g2 g3 g4 g5 hvv p1 p3 p4 rC hpr fQ hcz Ca aF
   go_wp2_with (first|((with_reducible refine e9 98 (.tmp 20) ?_);refine ⟨g,off+j*6,rfl,x.cells,Hf.out,zk,zk, ?_⟩)|((with_reducible refine d9 98 (.tmp 7) (.tmp 21) ?_);refine ⟨rfl,x.cells,rfl,rfl,zk,rfl, ?_⟩;rw [aX.out]))
   have hS:=hSb;refine i6 [.rd 0,.rd 1,.rd 2,.rd 3,.rd 4,.rd 5,.rd 6,.rd 7,.rd 8] [0,1,2,3,4,5,6,7,8] (b6s b m2 wA.heap.size (.slice va ps.length vc) x) zk zk (fun _ _ d _ _ h=>(by cases d<;>exact h)) ?_
   iterate 9 (
    refine wrd hS fun K hK=> ?_
    go_simp;refine hK _ ?_;clear hK K)
   refine p8 ?_
   have uS:b5h wz.drew wa.heap.size (j*T) (a2F I (L.take j)) x ps (.int .i64 ((0:Nat):Int)) wz.drew:=
    ⟨0,rfl,Nat.zero_le _,((Rz.out.mod ((Mod.refl (fun _=>False) wz).drew) (fun h=>h))).cong zo (fun id=>by simp),Mod.refl _ _⟩
   refine hh2 uS hSb fun Cc WQ=> ?_;clear uS hSb hS
   go_wp2_with fail
   go_loopw [30] (fun i wr=>b5h wz.drew wa.heap.size (j*T) (a2F I (L.take j)) x ps i wr) (fun i _=>ps.length - (intOf i).toNat)
   case atStart=>exact Cc.out
   case round=>
    obtain ⟨k,rfl,hk,lK,aP⟩:=hrel;by_cases hlt2:k<ps.length
    ·have Ce:(k:Int)<ps.length:=zo
     obtain ⟨y,hyk⟩:∃y,ps[k]? =some y:=⟨_,zz5 hlt2⟩;have WR:=(xA.out y (zz8 hyk)).1.v.text;have Oh:=Maps.keyOf_int_mk (P:=Tryz.prog) Tryz.underlying3 (xA.out y (zz8 hyk)).2;obtain ⟨pg,poff,rfl,hpc⟩:∃pg poff,va=some ⟨pg,poff,none⟩/\d8 wr pg (poff+k*8) (a3w y):=a8N a5q (rD.out wr (fun k=>k=wa.heap.size) (Cb.out.drew.trans aP zi) (fun k hk=>zo)) hyk;obtain ⟨wp,hwp,xM,xN,Jq⟩:=g6 wr (.cells (a3w y).toArray 229);have nX:Mod (fun k=>k=wa.heap.size) wz wp:=(((Mod.refl (fun k=>k=wa.heap.size) wz).drew).trans aP zi).trans (xM.mono (fun _ _ h=>h.elim)) zi;have hga:d8 wp wA.heap.size 0 x.cells:=(d8.row aJ.out).mod nX (fun h=>by have h':wA.heap.size=wa.heap.size:=h;omega);have sN:d8 wp wA.heap.size 1 x.v.cells:=d8.part (l:=[.string x.name]) (n:=1) hga rfl;have Jr:d8 wp wr.heap.size 0 (a3w y):=d8.row xN;have sO:d8 wp wr.heap.size 1 y.2.cells:=d8.part (l:=[.int .i64 y.1]) (n:=1) Jr rfl;have e1:=sN.all (show x.v.cells.length=5 from rfl);have e2:=sN.is (show x.v.cells.length=5 from rfl);have e3:=sO.all (Cnd.cells_length y.2);have e4:=sO.is (Cnd.cells_length y.2);have hho:=a3q y.2 x.v zo zo wp;obtain ⟨hv,Am⟩:∃hv,y.2.holds x.v=hv:=⟨_,rfl⟩;rw [Am] at hho;refine hh8 hyk hpc hwp xM xN nX hga sN fun RB Js RD Cf RF Oi ku RG=> ?_;refine hh7 Jr sO hho Am lK aP Oh fun RH RJ lH Gy Cg dK Oj=> ?_;clear hyk hpc hwp xM xN nX hga sN Jr sO hho Am lK aP Oh Jq
     go_wp2_with (first|((with_reducible refine e9 229 (.tmp 32) ?_);refine ⟨pg,poff+k*8,rfl,a3w y,Js.out,zk,zk, ?_⟩)|((with_reducible refine d9 229 (.tmp 9) (.tmp 33) ?_);refine ⟨rfl,a3w y,rfl,rfl,zk,rfl, ?_⟩;rw [RD.out]))
     refine lH.out.mono ?_;rintro e w3 ⟨rfl,au⟩;obtain ⟨n,f,q1,q2,q3,q4⟩:=Cg.out;obtain ⟨G,hG⟩:∃G:Int->Nat,G=fun id=>a2F I (L.take j) id+((ps.take k).filter fun p=>p.1==id&&p.2.holds x.v).length:=⟨_,rfl⟩;rw [<-hG] at q3 q4;have ed:Mod (fun k=>k=wa.heap.size) wz.drew w3:=(dK.out.trans (Cf.out.mono (fun _ _ h=>h.elim)) zi).trans (au.mono (fun _ _ h=>h.elim)) zi;have nY:=Cf.out.trans au zi;have q13:=q1.mod nY (fun h=>h)
     have hstp:∀id,(a2F I (L.take j) id+((ps.take (k+1)).filter fun p=>p.1==id&&p.2.holds x.v).length)=G id+if y.1=id/\hv=true then 1 else 0:=fun id=>by
      rw [hG];simp only [];rw [List.take_add_one,RB.out,List.filter_append,zz4,Option.toList_some,List.filter_cons,Gy.out,List.filter_nil,Nat.add_assoc];congr 1;congr 1;by_cases e:y.1=id
      ·rw [beq_iff_eq.2 e];cases hv<;>simp [e]
      rw [beq_eq_false_iff_ne.2 e];simp [e]
     cases hv with
     | false=>
      refine hh8 hG q1 q2 q3 q4 ed nY q13 fun HG Q1 Q2 Q3 Q4 lL Jt Q13=> ?_;refine hh2 hstp au fun xO aZ=> ?_;clear hG q1 q2 q3 q4 ed nY q13 hstp au
      go_wp2_with fail
      go_roundw
      case rel=>
       refine ⟨k+1,by go_num,hlt2, ?_,lL.out⟩;exact (a14.cong ⟨n,f,Q13.out,Q2.out,Q3.out,Q4.out⟩ zo (fun id=>by rw [xO.out];simp))
      case measure=>simp [intOf];omega
     | true=>
      obtain ⟨c,hc⟩:∃c,G y.1=c:=⟨_,rfl⟩
      have hcb:c<=100000*1000+100000:=by
       rw [<-hc];have h1:=q4 y.1;have h2:j*T<=1000*100000:=Nat.mul_le_mul zo hT;omega
      have hnb:n<maxLen:=by
       have h2:j*T<=1000*100000:=Nat.mul_le_mul zo hT;unfold maxLen;omega
      have hlk:(Instr.lookup 235 (.map (some wa.heap.size)) (.int .i64 y.1) false).run Tryz.prog w3= .ok (.int .i64 c) w3:=by
       rw [q13.look A5 Tryz.underlying235 (a6o w3) Oj.out,q3,hc]
      have c9:w3.cell? ⟨wr.heap.size,0,none⟩=some (.int .i64 y.1):=au.cell (RH.out 0 _ rfl) (fun h=>h);have hz3:wa.heap.size<w3.heap.size:=by have h1:=ed.size;have h2:wz.drew.heap.size=wz.heap.size:=rfl;have h3:=bE.out.size;omega
      refine hh8 hG q1 q2 q3 q4 ed nY q13 fun HG Q1 Q2 Q3 Q4 lL Jt Q13=> ?_;refine hh4 hstp au hc hnb fun xO aZ Hc kz=> ?_;clear hG q1 q2 q3 q4 ed nY q13 hstp au hc hnb
      go_wp2_with ((with_reducible refine P9 235 (.tmp 39) (.tmp 41) (.tmp 43) ?_);refine ⟨3,3,wa.heap.size,n,f,.int .i64 y.1,Q13.out,A5,Tryz.underlying235,kz.out,rfl,Oj.out, ?_⟩;intro w5 hM' hm';have Ju:=Lib.hid hM';have Ao:=Lib.hid hm';clear hM' hm')
      go_roundw
      case rel=>
       refine ⟨k+1,by go_num,hlt2, ?_,lL.out.trans Ao.out zi⟩;exact a14.inc Q2.out Q3.out Q4.out Hc.out Ju.out (fun id=>by rw [xO.out];simp)
      case measure=>simp [intOf];omega
    obtain rfl:k=ps.length:=zo
    rw [List.take_length] at lK
    have hcA:a14 wr wa.heap.size ((j+1)*T) (a2F I (L.take (j+1))):=lK.cong (by rw [Nat.add_mul,Nat.one_mul];exact Nat.add_le_add_left p2 _) (fun id=>by
     rw [List.take_add_one,dX.out,Option.toList_some,a9K,<-P4.out id,List.filter_map,zz10,List.filter_filter];congr 2;congr 1;funext p
     exact Bool.and_comm _ _)
    have nZ:=Cb.out.drew.trans aP zi;refine hh4 lK hcA nZ aP fun Cg Jv Jw dK=> ?_;clear lK hcA nZ aP
    go_wp2_with fail
    go_roundw
    case rel=>exact ⟨j+1,by go_num,hlt,Jv.out,Jw.out⟩
    case measure=>simp [intOf];omega
  obtain rfl:j=L.length:=zo
  rw [List.take_length] at hcn;obtain ⟨ff,hf1,hf2⟩:=Al.out.fm;have hfA:=hf1.mod hmr (fun h=>by have h':m1=wa.heap.size:=h;omega);have hlow:=H.out.low
  have hso:=a7L hfA zo H.out.nd (fun x=>by
   have h1:=hf2 x;constructor
   ·intro hx;obtain ⟨q,hq⟩:=a6q hx;rw [hq] at h1
    cases hv:ff (.int .i64 x) with
    |some v=>rfl
    |none=>rw [hv] at h1;exact h1.elim
   ·intro hx
    cases hq:a0z I x with
    |some q=>exact List.mem_map_of_mem (a0T hq)
    |none=>
     rw [hq] at h1
     cases hv:ff (.int .i64 x) with
     |none=>rw [hv] at hx;cases hx
     |some v=>rw [hv] at h1;exact h1.elim)
  have cA:wA.cell? ⟨b,0,none⟩=some (.map (some m1)):=d6 (hmr.heap Al.out.row (fun h=>by have h':b=wa.heap.size:=h;omega)) rfl;refine hh6 hcn hf1 hf2 hfA hso hmr fun GD Hf1 kv Ch jA aL=> ?_;clear hcn hf1 hf2 hfA hso hmr
  go_wp2_with fail
  refine (b1D (some m1) wA).mono ?_;rintro e wK ⟨rfl,rfl⟩
  go_wp2_with fail
  refine jA.out.mono ?_;rintro e w4 ⟨sv,rfl,sP,fw,aM⟩;obtain ⟨ids,gp⟩:∃ids,a0y (I.map Prod.fst)=ids:=⟨_,rfl⟩;rw [gp,zz10] at sP;obtain ⟨sa,sc,rfl,hsc⟩:=sP.shape;have og:Mod (fun k=>k=wa.heap.size) wb w4:=(aL.out.alloc _).trans (aM.mono (fun _ _ h=>h.elim)) zi;have Ci:=(GD.out.mod ((Mod.refl (fun _=>False) wA).alloc _) (fun h=>h)).mod aM (fun h=>h);have kG:=(Ch.out.mod ((Mod.refl (fun _=>False) wA).alloc _) (fun h=>h)).mod aM (fun h=>h);have hrow4:=og.heap Al.out.row (fun h=>by have h':b=wa.heap.size:=h;omega);have hge4:=og.heap GK.out (fun h=>by have h':w.heap.size=wa.heap.size:=h;omega)
  have Jy:ids.length<=100000:=by
   rw [<-gp,show (a0y (I.map Prod.fst)).length=(I.map Prod.fst).length from (List.mergeSort_perm _ leI).length_eq,zz10];omega
  have uT:b5i w4 I es L (.slice none 0 0) (.int .i64 ((0:Nat):Int)) w4:=⟨0,[],none,0,rfl,Nat.zero_le _,rfl,rfl,g7.nil _ _ _,fun k hk=>by simp [Value.ownBlock] at hk,Mod.refl _ _⟩;have WS:wb.heap.size<=w4.heap.size:=og.size;refine hh8 sP fw aM og Ci kG hrow4 hge4 fun Jz GH fu JA JB sQ oh JC=> ?_;refine hh2 gp uT fun fC Cj=> ?_;clear sP fw aM og Ci kG hrow4 hge4 gp uT
  go_wp2_with fail
  go_loopw [10,53] (fun ov i wr=>b5i w4 I es L ov i wr) (fun _ i _=>ids.length - (intOf i).toNat)
  case atStart=>exact Cj.out
  case round=>
   obtain ⟨j,o,oa,oc,rfl,hj,ho,rfl,hown,hof,aP⟩:=hrel;rw [fC.out] at hj ho;by_cases hlt:j<ids.length
   ·have hlt':(j:Int)<ids.length:=zo
    obtain ⟨id,ol⟩:∃id,ids[j]? =some id:=⟨_,zz5 hlt⟩
    have lM:id∈I.map Prod.fst:=by
     rw [<-a4A,fC.out];exact zz8 ol
    obtain ⟨q,hq⟩:=a6q lM;have hqm:=a0T hq;have hkey:keyOf Tryz.prog 3 (.int .i64 id)=some (.int .i64 id):=Maps.keyOf_int_mk Tryz.underlying3 (H.out.wf _ hqm).1;have hfi:=kv.out id;rw [hq] at hfi
    cases iM:ff (.int .i64 id) with
    |none=>rw [iM] at hfi;exact hfi.elim
    |some fv=>
     rw [iM] at hfi;obtain ⟨qa,qc,rfl, -, -⟩:=hfi;obtain ⟨sg,soff,rfl,cid⟩:∃g off,sa=some ⟨g,off,none⟩/\wr.cell? ⟨g,off+j,none⟩=some (.int .i64 id):=a3A (Jz.out.rd.mod aP zi) ol;have cb:wr.cell? ⟨b,0,none⟩=some (.map (some m1)):=d6 (aP.heap oh.out (fun h=>h)) rfl
     have hl1:(Instr.lookup 182 (.map (some m1)) (.int .i64 id) false).run Tryz.prog wr= .ok (.agg #[.string q.1,.slice qa q.2.length qc]) wr:=by
      rw [(sQ.out.mod aP (fun h=>h)).look A5 Tryz.underlying182 (I0 wr) hkey,iM];rfl
     obtain ⟨wz,hwz,ag,aj,aF⟩:=g6 wr (.cells #[.string q.1,.slice qa q.2.length qc] 34);obtain ⟨n,f,q1,q2,q3,q4⟩:=(JB.out.mod aP (fun h=>h)).mod ag (fun h=>h);obtain ⟨c,hc⟩:∃c,a2F I L id=c:=⟨_,rfl⟩
     have hl2:(Instr.lookup 235 (.map (some wa.heap.size)) (.int .i64 id) false).run Tryz.prog wz= .ok (.int .i64 c) wz:=by
      rw [q1.look A5 Tryz.underlying235 (a6o wz) hkey,q3,hc]
     have ce:wz.cell? ⟨w.heap.size,0,none⟩=some (.string es):=d6 ((aP.trans ag zi).heap JC.out (fun h=>h)) rfl;have cf0:wz.cell? ⟨wr.heap.size,0,none⟩=some (.string q.1):=d6 aj rfl;have cf1:wz.cell? ⟨wr.heap.size,1,none⟩=some (.slice qa q.2.length qc):=d6 aj rfl;obtain ⟨t,ht⟩:∃t,((c:Int)==(q.2.length:Int))=t:=⟨_,rfl⟩
     have hmb:a6p I es L id=(t&&A7 es q.1):=by
      unfold a6p;rw [hq];simp only [];rw [hc,<-ht];congr 1;rw [Bool.eq_iff_iff,beq_iff_eq,beq_iff_eq];omega
     have hnx:(ids.take (j+1)).filter (a6p I es L)=o++if (t&&A7 es q.1)=true then [id] else []:=by
      rw [List.take_add_one,ol,List.filter_append,<-ho,Option.toList_some,List.filter_cons,hmb,List.filter_nil]
     have hun:=a1M es q.1 zo (Nat.le_trans (H.out.sc _ hqm) zd) wz;obtain ⟨u,hu⟩:∃u,A7 es q.1=u:=⟨_,rfl⟩;rw [hu] at hun hnx;have hol:o.length<=100000:=by rw [ho];exact Nat.le_trans (List.length_filter_le _ _) (by rw [List.length_take];omega)
     have xL:=aP.trans ag zi;have kD:=hown.mod ag zi;refine hh8 ho hown hof aP ol lM hq hqm fun Ho bA rE dK RL Cm Hq RN=> ?_;refine hh8 hkey iM hwz ag aj q1 q2 q3 fun eu Ap aX bE aJ Q1 Q2 Q3=> ?_;refine hh7 q4 hc hmb hnx hun xL kD fun Q4 Hc eQ fD Cn xP rA=> ?_;clear ho hown hof aP ol lM hq hqm hkey iM hwz ag aj q1 q2 q3 q4 hc hmb hnx hun xL kD aF
     cases t with
     |false=>
      have dF:(ids.take (j+1)).filter (a6p I es L)=o:=by rw [fD.out];simp
      refine hh1 dF fun dQ=> ?_;clear dF
      go_wp2_with ((with_reducible refine d9 34 (.tmp 13) (.tmp 62) ?_);refine ⟨rfl,[.string q.1,.slice qa q.2.length qc],rfl,rfl,zk,rfl, ?_⟩;rw [aX.out])
      go_roundw
      case rel=>exact ⟨j+1,o,oa,oc,by go_num,by rw [fC.out];exact hlt,by rw [fC.out];exact dQ.out.symm,rfl,rA.out,rE.out,xP.out⟩
      case measure=>simp [intOf];omega
     | true=>
      go_wp2_with ((with_reducible refine d9 34 (.tmp 13) (.tmp 62) ?_);refine ⟨rfl,[.string q.1,.slice qa q.2.length qc],rfl,rfl,zk,rfl, ?_⟩;rw [aX.out])
      refine Cn.out.mono ?_;rintro e w5 ⟨rfl,gN⟩;obtain rfl:=gN.symm
      cases u with
      |false=>
       have dF:(ids.take (j+1)).filter (a6p I es L)=o:=by rw [fD.out];simp
       refine hh1 dF fun dQ=> ?_;clear dF
       go_wp2_with fail
       go_roundw
       case rel=>exact ⟨j+1,o,oa,oc,by go_num,by rw [fC.out];exact hlt,by rw [fC.out];exact dQ.out.symm,rfl,rA.out,rE.out,xP.out⟩
       case measure=>simp [intOf];omega
      | true=>
       have dF:(ids.take (j+1)).filter (a6p I es L)=o++[id]:=by rw [fD.out];simp
       obtain ⟨wq,hwq,sS,JD,JE⟩:=g6 wz (.cells #[.int .i64 id] 3);have hrq:i8 wq 1 (.slice (some ⟨wz.heap.size,0,none⟩) 1 1) 1 [.int .i64 id]:=hwq▸i8.one wz [.int .i64 id] 3 rfl;have hone:∀v∈([.int .i64 id]:List Value),v.oneCell'=true:=fun v hv=>zz15 (show ([.int .i64 id]:List Value).all (·.oneCell')=true from rfl) v hv;have hoq:=rA.out.mod sS zi;have Co:=xP.out.trans sS zi;refine hh7 dF hwq sS hrq hone hoq Co fun dQ RO RP RQ aI xQ Cq=> ?_;clear dF hwq sS hrq hone hoq Co JD JE
       go_wp2_with (first|(rw [show wz.alloc _=wq from RO.out])|((with_reducible refine l6 (.tmp 77) (.tmp 79) 29 ?_);refine ⟨rfl,3,1,8,a1d,.slice oa o.length oc,o.length,o.map (Value.int .i64),rfl,xQ.out,_,1,[.int .i64 id],rfl,RQ.out,aI.out,zo,by unfold maxLen;omega, ?_⟩;intro ad cap5 w5 hA;have HA:=Lib.hid hA;clear hA))
       go_roundw
       case rel=>
        refine ⟨j+1,o++[id],ad,cap5,by go_num,by rw [fC.out];exact hlt,by rw [fC.out];exact dQ.out.symm,by rw [zz4];rfl, ?_, ?_, ?_⟩
        ·rw [zz4,List.map_append];exact HA.out.1
        ·intro k hk;rcases HA.out.2.2 with h3|⟨k',h3,h4⟩
         ·exact rE.out k (h3▸hk)
         rw [h3] at hk;cases hk
         have:=Cq.out.size;omega
        exact Cq.out.upon HA.out.2.1 (fun k hk=> .inr (rE.out k hk))
       case measure=>simp [intOf];omega
   obtain rfl:j=ids.length:=zo
   rw [List.take_length] at ho;have Ol:a5r I es L=o:=by unfold a5r;rw [fC.out,ho]
   have uU:Mod (fun _=>False) w wr:=(aS.out.upon JA.out (fun k hk=> .inr (by have h':k=wa.heap.size:=hk;omega))).trans aP zi;refine hh6 ho hown hof aP Ol uU fun Ho bA rE dK RU xR=> ?_;clear ho hown hof aP Ol uU
   go_wp2_with fail
   go_ret;exact ⟨_,rfl,by rw [RU.out];exact bA.out,fun k hk=>by have h1:=rE.out k hk;have h2:=aS.out.size;omega,xR.out⟩
end
end Go.Proofs.YtdmjoodhaeijmaaGreatDoor
