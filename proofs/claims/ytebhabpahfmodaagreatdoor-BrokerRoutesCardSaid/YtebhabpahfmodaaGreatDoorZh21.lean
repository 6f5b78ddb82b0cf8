/- Lemmas. -/
import Derived.Test.YtebhabpahfmodaaGreatDoorZh20
import Derived.Test.YtebhabpahfmodaaGreatDoorZh16
import Derived.Maps.OwnSet
import Derived.Maps.Own
import Derived.Shelf.SlIter.Nil
import Derived.Shelf.SlIterI.Nil
import Derived.Shelf.SortM.Plain
import Derived.Shelf.SortM.SortNone
set_option maxHeartbeats 40000000
set_option maxRecDepth 20000
namespace Go.Proofs.YtebhabpahfmodaaGreatDoor
open Go.RowKit
def Ru.rightB (r:Ru):Bool:=
 if r.kind=4 then decide (0<=r.at_) else
 if r.kind<0\/4<r.kind\/r.tenant<0\/4<=r.tenant\/o9 r.who=false then false else
 if r.kind=0 then decide (0<=r.broker)&&decide (r.broker<6) else
 if r.kind=3 then o9 r.name&&A4 r.sc else l9 r.sc r.cs
theorem a99 (r:Ru) (w:World) (h:r.ok w):Calls Tryz.prog 92 #[.agg r.cells.toArray] w fun e w'=>e= .returned (.bool r.rightB)/\Mod (fun _=>False) w w':=by
 obtain ⟨wa,aD,ah,ae,au⟩:=g8 w (.cells r.cells.toArray 28);have c0:wa.cell? ⟨w.heap.size,0,none⟩=some (.int .i64 r.kind):=d6 ae rfl;have c1:wa.cell? ⟨w.heap.size,1,none⟩=some (.int .i64 r.tenant):=d6 ae rfl;have c2:wa.cell? ⟨w.heap.size,2,none⟩=some (.string r.who):=d6 ae rfl;have c3:wa.cell? ⟨w.heap.size,3,none⟩=some (.int .i64 r.broker):=d6 ae rfl;have c4:wa.cell? ⟨w.heap.size,4,none⟩=some (.string r.sc):=d6 ae rfl;have c5:wa.cell? ⟨w.heap.size,5,none⟩=some (.slice r.ca r.cs.length r.cc):=d6 ae rfl;have c6:wa.cell? ⟨w.heap.size,6,none⟩=some (.string r.name):=d6 ae rfl;have c7:wa.cell? ⟨w.heap.size,7,none⟩=some (.int .i64 r.at_):=d6 ae rfl;have hnw:=a1y r.who (by have:=h.who;omega) wa;have hnn:=a1y r.name (by have:=h.name;omega) wa;have lZ:=V0 r.sc (by have:=h.sc;omega) wa;have hfr:=I8 wa r.sc r.cv r.cs (h.rd.mod ah zi) (by have:=h.len;omega) (by have:=h.sc;omega) (fun c hc=>by have:=(h.cname c hc).1;omega);have ND:r.rightB=r.rightB:=rfl
 conv at ND=>rhs;unfold Ru.rightB
 obtain ⟨R,hR⟩:∃R,r.rightB=R:=⟨_,rfl⟩;rw [hR] at ND⊢;obtain ⟨aF,aB,iY,Bb,yQ,bB,VO⟩:=zh7 aD ah hnw hnn lZ hfr ND;clear aD ah hnw hnn lZ hfr ND ae au h hR
 cases hk4:r.kind==4 with
 |true=>
  have e:R=decide (0<=r.at_):=by rw [VO.out,if_pos (beq_iff_eq.1 hk4)]
  rw [e]
  go_enter Tryz.func92,Tryz.ntmps92
  go_wp2_with (rw [show w.alloc _=wa from aF.out])
  go_ret;exact ⟨rfl,aB.out⟩
 |false=>
 have GV:¬r.kind=4:=by simpa using hk4
 have e4:R=_:=VO.out.trans (if_neg GV);have E4:=zh e4;clear e4 GV;by_cases h1:r.kind<0
 ·have e:R=false:=by rw [E4.out,if_pos (.inl h1)]
  rw [e]
  go_enter Tryz.func92,Tryz.ntmps92
  go_wp2_with (rw [show w.alloc _=wa from aF.out])
  go_ret;exact ⟨rfl,aB.out⟩
 by_cases h2:4<r.kind
 ·have e:R=false:=by rw [E4.out,if_pos (.inr (.inl h2))]
  rw [e]
  go_enter Tryz.func92,Tryz.ntmps92
  go_wp2_with (rw [show w.alloc _=wa from aF.out])
  go_ret;exact ⟨rfl,aB.out⟩
 by_cases h3:r.tenant<0
 ·have e:R=false:=by rw [E4.out,if_pos (.inr (.inr (.inl h3)))]
  rw [e]
  go_enter Tryz.func92,Tryz.ntmps92
  go_wp2_with (rw [show w.alloc _=wa from aF.out])
  go_ret;exact ⟨rfl,aB.out⟩
 by_cases h4:4<=r.tenant
 ·have e:R=false:=by rw [E4.out,if_pos (.inr (.inr (.inr (.inl h4))))]
  rw [e]
  go_enter Tryz.func92,Tryz.ntmps92
  go_wp2_with (rw [show w.alloc _=wa from aF.out])
  go_ret;exact ⟨rfl,aB.out⟩
 have h1':0<=r.kind:=zo
 have h2':r.kind<=4:=zo
 have h3':0<=r.tenant:=zo
 have h4':r.tenant<4:=zo
 cases hn:o9 r.who with
 |false=>
  have e:R=false:=by rw [E4.out,if_pos (.inr (.inr (.inr (.inr hn))))]
  rw [e];rw [hn] at iY;clear hn h1 h2 h3 h4 e
  go_enter Tryz.func92,Tryz.ntmps92
  go_wp2_with (rw [show w.alloc _=wa from aF.out])
  refine iY.out.mono ?_;rintro e w' ⟨rfl,rfl⟩
  go_wp2
  go_ret;exact ⟨rfl,aB.out⟩
 |true=>
 have hno:¬(r.kind<0\/4<r.kind\/r.tenant<0\/4<=r.tenant\/o9 r.who=false):=by
  rintro (h|h|h|h|h)
  ·exact h1 h
  ·exact h2 h
  ·exact h3 h
  ·exact h4 h
  rw [hn] at h;cases h
 have e5:R=_:=E4.out.trans (if_neg hno);rw [hn] at iY;have E5:=zh e5;clear hn e5 hno h1 h2 h3 h4
 cases hk0:r.kind==0 with
 | true=>
  have e:R=(decide (0<=r.broker)&&decide (r.broker<6)):=by rw [E5.out,if_pos (beq_iff_eq.1 hk0)]
  rw [e];clear e;by_cases hb:0<=r.broker
  ·rw [decide_eq_true hb,Bool.true_and]
   go_enter Tryz.func92,Tryz.ntmps92
   go_wp2_with (rw [show w.alloc _=wa from aF.out])
   refine iY.out.mono ?_;rintro e w' ⟨rfl,rfl⟩
   go_wp2
   go_ret;exact ⟨rfl,aB.out⟩
  ·have hb':r.broker<0:=zo
   rw [decide_eq_false hb,Bool.false_and];clear hb
   go_enter Tryz.func92,Tryz.ntmps92
   go_wp2_with (rw [show w.alloc _=wa from aF.out])
   refine iY.out.mono ?_;rintro e w' ⟨rfl,rfl⟩
   go_wp2
   go_ret;exact ⟨rfl,aB.out⟩
 |false=>
 have hk0':¬r.kind=0:=by simpa using hk0
 have e6:R=_:=E5.out.trans (if_neg hk0');have E6:=zh e6;clear e6 hk0'
 cases hk3:r.kind==3 with
 | true=>
  have e:R=(o9 r.name&&A4 r.sc):=by rw [E6.out,if_pos (beq_iff_eq.1 hk3)]
  rw [e];clear e
  cases hn:o9 r.name with
  |false=>
   rw [hn] at Bb;rw [Bool.false_and];clear hn
   go_enter Tryz.func92,Tryz.ntmps92
   go_wp2_with (rw [show w.alloc _=wa from aF.out])
   refine iY.out.mono ?_;rintro e w' ⟨rfl,rfl⟩
   go_wp2_with fail
   refine Bb.out.mono ?_;rintro e w' ⟨rfl,rfl⟩
   go_wp2
   go_ret;exact ⟨rfl,aB.out⟩
  |true=>
   rw [hn] at Bb;rw [Bool.true_and];clear hn
   go_enter Tryz.func92,Tryz.ntmps92
   go_wp2_with (rw [show w.alloc _=wa from aF.out])
   refine iY.out.mono ?_;rintro e w' ⟨rfl,rfl⟩
   go_wp2_with fail
   refine Bb.out.mono ?_;rintro e w' ⟨rfl,rfl⟩
   go_wp2_with fail
   refine yQ.out.mono ?_;rintro e w2 ⟨rfl,hm2⟩;have bq:=Lib.hid (aB.out.trans hm2 zi);clear hm2
   go_wp2
   go_ret;exact ⟨rfl,bq.out⟩
 |false=>
  have GX:¬r.kind=3:=by simpa using hk3
  have e:R=l9 r.sc r.cs:=by rw [E6.out,if_neg GX]
  rw [e];clear e GX
  go_enter Tryz.func92,Tryz.ntmps92
  go_wp2_with (rw [show w.alloc _=wa from aF.out])
  refine iY.out.mono ?_;rintro e w' ⟨rfl,rfl⟩
  go_wp2_with fail
  refine bB.out.mono ?_;rintro e w2 ⟨rfl,hm2⟩;have bq:=Lib.hid (aB.out.trans hm2 zi);clear hm2
  go_wp2
  go_ret;exact ⟨rfl,bq.out⟩
end Go.Proofs.YtebhabpahfmodaaGreatDoor
namespace Go.Proofs.YtebhabpahfmodaaGreatDoor
open Go.RowKit
theorem a2J {α:Type} (p:α->Bool) {l:List α} {j:Nat} {x:α} (h:l[j]? =some x):(l.take (j+1)).filter p=(l.take j).filter p++(if p x=true then [x] else []):=by
 rw [List.take_add_one,List.filter_append,h];congr 1;simp only [Option.toList,List.filter_cons,List.filter_nil]
end Go.Proofs.YtebhabpahfmodaaGreatDoor
namespace Go.Proofs.YtebhabpahfmodaaGreatDoor
open Go.RowKit
theorem a9u (n:Int) (k:Nat) (hk:k<63):bits .and .i64 n ((2^k - 1:Nat):Int)=n%((2^k:Nat):Int):=by
 have hp:2^k<2^63:=Nat.pow_lt_pow_right zd hk;have hp0:0<2^k:=Nat.two_pow_pos k
 have h127:(BitVec.ofInt 64 ((2^k - 1:Nat):Int)).toNat=2^k - 1:=by
  rw [BitVec.toNat_ofInt];omega
 have key:(BitVec.ofInt 64 n&&&BitVec.ofInt 64 ((2^k - 1:Nat):Int)).toNat=(n%((2^64:Nat):Int)).toNat%2^k:=by
  rw [BitVec.toNat_and,BitVec.toNat_ofInt,h127,Nat.and_two_pow_sub_one_eq_mod]
 show IntKind.i64.wrap ((BitVec.ofInt 64 n&&&BitVec.ofInt 64 ((2^k - 1:Nat):Int)).toNat:Nat)=n%((2^k:Nat):Int);rw [key,IntKind.wrap_i64];have h1:(n%((2^64:Nat):Int)).toNat%2^k<2^k:=Nat.mod_lt _ hp0
 have h2:(((n%((2^64:Nat):Int)).toNat%2^k:Nat):Int)=n%((2^k:Nat):Int):=by
  rw [Int.natCast_emod,Int.toNat_of_nonneg (Int.emod_nonneg _ zd)];exact Int.emod_emod_of_dvd n (by exact_mod_cast Nat.pow_dvd_pow 2 zo)
 rw [<-h2]
 generalize (n%((2^64:Nat):Int)).toNat%2^k=q at*
 omega
theorem b6w (n:Int):∃t:Nat,bits .and .i64 n 1=t/\t<2:=⟨(n%2).toNat,by
 have:=a9u n 1 zd;have e:bits .and .i64 n 1=n%2:=this;rw [e]
 omega,zo⟩
theorem b6Y (n:Int):∃t:Nat,bits .and .i64 n 3=t/\t<4:=⟨(n%4).toNat,by
 have:=a9u n 2 zd;have e:bits .and .i64 n 3=n%4:=this;rw [e]
 omega,zo⟩
def b0a (gs:ByteArray) (m:List Cnd) (r:Ru):Bool:=m.any Cnd.voidB||(r.cs.all (fun c=>m.any fun d=>J6 d c)&&m8 gs r.sc)
theorem Ru.right_is {r:Ru} (h:r.rightB=true):(r.kind=0->0<=r.broker)/\(r.kind=1\/r.kind=2->l9 r.sc r.cs=true):=by
 unfold Ru.rightB at h;by_cases h4:r.kind=4
 ·exact ⟨fun hk=>zo,fun hk=>zo⟩
 rw [if_neg h4] at h;by_cases hw:r.kind<0\/4<r.kind\/r.tenant<0\/4<=r.tenant\/o9 r.who=false
 ·rw [if_pos hw] at h;cases h
 rw [if_neg hw] at h;constructor
 ·intro hk;rw [if_pos hk] at h;simp only [Bool.and_eq_true,decide_eq_true_eq] at h;exact h.1
 intro hk;have h0:¬r.kind=0:=zo
 have h3:¬r.kind=3:=zo
 rw [if_neg h0,if_neg h3] at h;exact h
theorem Ru.of_kind {r:Ru} {k t:Int} {who:ByteArray} (h:r.of k t who=true):r.kind=k:=by
 unfold Ru.of at h;simp only [Bool.and_eq_true,beq_iff_eq] at h;exact h.1
theorem a4T (w:World) (r:Ru) (hr:r.ok w) (hrn:∀c∈r.cs,c.v.num<2^64) (gs:ByteArray) (gv:Value) (m:List Cnd) (hg:j3 w 7 gv m.length (m5 m)) (jX:m.length<=9223372036854775807) (hgs:gs.size<=9223372036854775807)
 (hm:∀d∈m,d.v.text.size<=9223372036854775807/\d.v.num<2^64):
 Calls Tryz.prog 72 #[.agg #[.string r.sc,r.cv],.agg #[.string gs,gv]] w fun e w'=>e= .returned (.bool (b0a gs m r))/\Mod (fun _=>False) w w':=
 a2G J6 w r.sc r.cv r.cs hr.rd hr.len hr.sc gs gv m hg jX hgs (fun d hd c hc wx _=>Y2 d c (hm d hd).1 (hr.cname c hc).2 (hm d hd).2 (hrn c hc) wx)
end Go.Proofs.YtebhabpahfmodaaGreatDoor
namespace Go.Proofs.YtebhabpahfmodaaGreatDoor
open Go.ChangeShapes Go.WideShapes Go.ChangeAt Go.RowKit
section
variable {H:Type} {enc:TypeId×Value->H} {W:World}
theorem b0b {w:World} {a:Addr} {v:Value} (h:w.cell? a=some v):a.spot=none:=by
 unfold World.cell? at h;split at h
 ·split at h
  ·cases h
  rename_i hs;simpa using hs
 ·cases h
end
theorem b0c {n:Nat} (h:n<=maxLen):n<=9223372036854775807:=by simp only [maxLen] at h;omega
end Go.Proofs.YtebhabpahfmodaaGreatDoor
namespace Go.Proofs.YtebhabpahfmodaaGreatDoor
open Go.ChangeShapes Go.WideShapes Go.ChangeAt Go.RowKit
section
variable {H:Type} {enc:TypeId×Value->H} {W:World}
theorem a0u {e:TypeId}:∀{l:List (DataW H)} {d:DataW H} {n:Nat},d∈l->n∈DataW.weights Tryz.prog e d->n∈DataW.weightsAll Tryz.prog e l
 |a::l,d,n,hd,hn=>by
  unfold DataW.weightsAll;rcases List.mem_cons.1 hd with rfl|hd
  ·exact List.mem_append_left _ hn
  exact List.mem_append_right _ (a0u hd hn)
theorem D2:∀{ts:List TypeId} {l:List (DataW H)} {i:Nat} {t:TypeId} {d:DataW H} {n:Nat},ts[i]? =some t->l[i]? =some d->n∈DataW.weights Tryz.prog t d->n∈DataW.weightsEach Tryz.prog ts l
 |[],_,_,_,_,_,h,_,_=>by simp at h
 |_::_,[],_,_,_,_,_,h,_=>by simp at h
 |a::ts,b::l,0,t,d,n,h1,h2,hn=>by
  unfold DataW.weightsEach;simp only [List.getElem?_cons_zero,Option.some.injEq] at h1 h2;subst h1 h2;exact List.mem_append_left _ hn
 |a::ts,b::l,i+1,t,d,n,h1,h2,hn=>by
  unfold DataW.weightsEach;rw [List.getElem?_cons_succ] at h1 h2;exact List.mem_append_right _ (D2 h1 h2 hn)
theorem n9 {ty:TypeId} {fs:Array Field} (ht:Tryz.prog.underlying ty=some (.struct fs)) {l:List (DataW H)} {i:Nat} {t:TypeId} {d:DataW H} {n:Nat} (h1:(fs.toList.map (·.type))[i]? =some t) (h2:l[i]? =some d) (hn:n∈DataW.weights Tryz.prog t d):
 n∈DataW.weights Tryz.prog ty (.agg l:DataW H):=by
 unfold DataW.weights;rw [ht];exact D2 h1 h2 hn
theorem a5z {ty e:TypeId} (ht:Tryz.prog.underlying ty=some (.slice e)) {l r:List (DataW H)} {d:DataW H} {n:Nat} (hd:d∈l) (hn:n∈DataW.weights Tryz.prog e d):n∈DataW.weights Tryz.prog ty (.slice l r:DataW H):=by
 unfold DataW.weights;rw [ht];exact List.mem_cons_of_mem _ (List.mem_append_left _ (a0u hd hn))
theorem a0L {α:Type} {t e:TypeId} {sz:Nat} (cells:α->List Value) (hlen:∀x,(cells x).length=sz) (hsz:0<sz) (ht:Tryz.prog.underlying t=some (.slice e)) (he:Tryz.prog.cellsOf e=sz) (x0:α) (p:α->Prop)
 (hone:∀(fuel:Nat) (cs:List Value) (y:DataW H×List MemPlace),DataW.trod enc Tryz.prog W 0 (fun _=>true) true fuel e cs=some y->(∀n∈DataW.weights Tryz.prog e y.1,n<=reachBytes)->∃x,cs=cells x/\p x)
 {fuel:Nat} {v:Value} {y:DataW H×List MemPlace} (h:DataW.trod enc Tryz.prog W 0 (fun _=>true) true fuel t [v]=some y) (hw:∀n∈DataW.weights Tryz.prog t y.1,n<=reachBytes):
 ∃l:List α,j3 W sz v l.length (l.flatMap cells)/\l.length<=maxLen/\∀x∈l,p x:=by
 rcases Go.Deep.open_slice ht h with ⟨hcs, -⟩|⟨a,len,cap',m',k,D,Pl,hcs, -,hlc,hcm,hmm,ZU,hcell⟩
 ·have hcs:v=Value.slice none 0 0:=by simpa using hcs
  subst hcs;exact ⟨[],⟨by simp,none,0,rfl,Nat.le_refl _,fun _=>rfl,fun b hb _=>(by cases hb)⟩,Nat.zero_le _,fun x hx=>(by cases hx)⟩
 have hcs:v=Value.slice (some a) len cap':=by simpa using hcs
 subst hcs;simp only [if_true] at hmm;subst hmm;rw [he] at hcell
 have hall:∀i,i<len->∃x:α,(∀q u,(cells x)[q]? =some u->W.cell? ((a.add (i*sz)).add q)=some u)/\p x:=fun i hi=>by
  obtain ⟨cs,h1,h2⟩:=hcell i zo;obtain ⟨x,rfl,h3⟩:=hone _ _ _ h2 (fun n hn=>hw n (by rw [ZU];exact a5z ht (List.mem_map.2 ⟨i,List.mem_range.2 hi,rfl⟩) hn));obtain ⟨-,h5,h6⟩:=World.cells?_some h1;refine ⟨x,fun q u hq=> ?_,h3⟩;have:=h6 q (by have:=(zz6 hq).1;rw [hlen] at this;exact this);rw [hq] at this;exact this
 obtain ⟨F,hF⟩:∃F:Nat->α,∀i,i<len->(∀q u,(cells (F i))[q]? =some u->W.cell? ((a.add (i*sz)).add q)=some u)/\p (F i):=
  ⟨fun i=>if h:i<len then (hall i h).choose else x0,fun i hi=>by simp only [dif_pos hi];exact (hall i hi).choose_spec⟩
 have hl:((List.range len).map F).length=len:=by simp
 have hfl:∀l:List α,(l.flatMap cells).length=l.length*sz:=fun l=>by
  induction l with
  |nil=>simp
  |cons b l ih=>rw [List.flatMap_cons,zz4,ih,hlen,zz9,Nat.add_mul];omega
 have hget:∀(l:List α) (j:Nat) (u:Value),(l.flatMap cells)[j]? =some u->∃x,l[j / sz]? =some x/\(cells x)[j%sz]? =some u:=fun l=>by
  induction l with
  |nil=>intro j u h;simp at h
  | cons b l ih=>
   intro j u h;rw [List.flatMap_cons] at h;rcases Nat.lt_or_ge j sz with hj|hj
   ·rw [List.getElem?_append_left (by rw [hlen];exact hj)] at h;exact ⟨b,by rw [Nat.div_eq_of_lt hj];rfl,by rw [Nat.mod_eq_of_lt hj];exact h⟩
   rw [List.getElem?_append_right (by rw [hlen];exact hj),hlen] at h;obtain ⟨x,h1,h2⟩:=ih _ _ h
   have e1:j / sz=(j - sz) / sz+1:=by
    rw [Nat.div_eq j sz,if_pos ⟨hsz,hj⟩]
   have e2:j%sz=(j - sz)%sz:=Nat.mod_eq_sub_mod hj;exact ⟨x,by rw [e1,List.getElem?_cons_succ];exact h1,by rw [e2];exact h2⟩
 refine ⟨(List.range len).map F,⟨by rw [hfl],some a,m',by rw [hl],by rw [hl];exact hlc,(fun h=>by cases h),fun b hb hn=> ?_⟩,by rw [hl];omega,fun x hx=> ?_⟩
 ·cases hb
  rw [hl] at hn
  have hsp:a.spot=none:=by
   have h0:=(hF 0 hn).1 0
   cases hc:(cells (F 0))[0]? with
   |none=>
    have:=List.getElem?_eq_none_iff.1 hc;rw [hlen] at this;omega
   |some u=>
    have:=h0 u hc;rw [Nat.zero_mul] at this;exact b0b this
  obtain ⟨g,off,spot⟩:=a;have hsp:spot=none:=hsp;subst hsp;refine ⟨g,off,rfl,fun j u hu=> ?_⟩;obtain ⟨x,hx1,hx2⟩:=hget _ _ _ hu;rw [List.getElem?_map] at hx1;by_cases hj:j / sz<len
  ·rw [List.getElem?_range hj] at hx1;simp only [Option.map_some,Option.some.injEq] at hx1;subst hx1;have:=(hF _ hj).1 _ _ hx2;rw [A7,A7] at this;have e:=Nat.div_add_mod j sz;rw [Nat.mul_comm] at e;rw [show off+j=off+j / sz*sz+j%sz by omega];exact this
  rw [List.getElem?_eq_none (by simpa using hj)] at hx1;cases hx1
 obtain ⟨i,hi,rfl⟩:=List.mem_map.1 hx;exact (hF i (List.mem_range.1 hi)).2
structure V.inn (v:V):Prop where
 int: -9223372036854775808<=v.int/\v.int<=9223372036854775807
 num:v.num<2^64
 text:v.text.size<=reachBytes
structure Cnd.inn (c:Cnd):Prop where
 name:c.name.size<=reachBytes
 v:c.v.inn
structure b17 (W:World) (sc:ByteArray) (a:Option Addr) (cap:Nat) (cs:List Cnd):Prop where
 rd:j3 W 7 (.slice a cs.length cap) cs.length (m5 cs)
 sc:sc.size<=reachBytes
 len:cs.length<=maxLen
 cs:∀c∈cs,c.inn
structure Ru.inn (W:World) (r:Ru):Prop where
 who:r.who.size<=reachBytes
 name:r.name.size<=reachBytes
 fil:b17 W r.sc r.ca r.cc r.cs
theorem a4U {fuel:Nat} {cs:List Value} {x:DataW H×List MemPlace} (h:DataW.trod enc Tryz.prog W 0 (fun _=>true) true fuel 85 cs=some x) (hw:∀n∈DataW.weights Tryz.prog 85 x.1,n<=reachBytes):∃v:V,cs=v.cells/\v.inn:=by
 obtain ⟨xs,n1, -,hxd,hlen,hxs,hf⟩:=DataW.trod_struct Tryz.underlying85 h;rw [show Tryz.prog.cellsOf 85=5 by kernel_rfl] at hlen
 have hx:∀i,i<5->∃y,xs[i]? =some y:=fun i hi=>by
  simp at hxs;exact ⟨_,zz5 zo⟩
 rw [hxd] at hw;have hw:∀n∈DataW.weights Tryz.prog 85 (.agg (xs.map (·.1)):DataW H),n<=reachBytes:=hw
 match cs,hlen with
 |[c0,c1,c2,c3,c4],_=>
  obtain ⟨y0,h0⟩:=hx 0 zo;have f0:DataW.trod enc Tryz.prog W 0 (fun _=>true) true n1 3 (([c0,c1,c2,c3,c4].drop 0).take (Tryz.prog.cellsOf 3))=xs[0]? :=hf 0 _ rfl;rw [h0,show Tryz.prog.cellsOf 3=1 by kernel_rfl] at f0;obtain ⟨z0,e0, -,w0⟩:=DataW.trod_int Tryz.underlying3 f0;have e0:[c0]=[.int .i64 z0]:=e0;have g0: -9223372036854775808<=z0/\z0<=9223372036854775807:=by simpa [Lit.wf,IntKind.min,IntKind.max,IntKind.signed,IntKind.bits] using w0
  obtain ⟨y1,h1⟩:=hx 1 zo;have f1:DataW.trod enc Tryz.prog W 0 (fun _=>true) true n1 2 (([c0,c1,c2,c3,c4].drop 1).take (Tryz.prog.cellsOf 2))=xs[1]? :=hf 1 _ rfl;rw [h1,show Tryz.prog.cellsOf 2=1 by kernel_rfl] at f1;obtain ⟨z1,e1, -,w1⟩:=DataW.trod_int Tryz.underlying2 f1;have e1:[c1]=[.int .i64 z1]:=e1;have g1: -9223372036854775808<=z1/\z1<=9223372036854775807:=by simpa [Lit.wf,IntKind.min,IntKind.max,IntKind.signed,IntKind.bits] using w1
  obtain ⟨y2,h2⟩:=hx 2 zo;have f2:DataW.trod enc Tryz.prog W 0 (fun _=>true) true n1 83 (([c0,c1,c2,c3,c4].drop 2).take (Tryz.prog.cellsOf 83))=xs[2]? :=hf 2 _ rfl;rw [h2,show Tryz.prog.cellsOf 83=1 by kernel_rfl] at f2;obtain ⟨z2,e2,w2⟩:=b3D Tryz.underlying83 f2;have e2:[c2]=[.float .f64 z2]:=e2;obtain ⟨y3,h3⟩:=hx 3 zo;have f3:DataW.trod enc Tryz.prog W 0 (fun _=>true) true n1 9 (([c0,c1,c2,c3,c4].drop 3).take (Tryz.prog.cellsOf 9))=xs[3]? :=hf 3 _ rfl;rw [h3,show Tryz.prog.cellsOf 9=1 by kernel_rfl] at f3;obtain ⟨z3,e3,u3, -⟩:=DataW.trod_string Tryz.underlying9 f3;have e3:[c3]=[.string z3]:=e3;have g3:z3.size<=reachBytes:=hw _ (n9 Tryz.underlying85 (i:=3) (t:=9) rfl (by rw [List.getElem?_map,h3];rfl) (by rw [u3];simp [DataW.weights]));obtain ⟨y4,h4⟩:=hx 4 zo;have f4:DataW.trod enc Tryz.prog W 0 (fun _=>true) true n1 4 (([c0,c1,c2,c3,c4].drop 4).take (Tryz.prog.cellsOf 4))=xs[4]? :=hf 4 _ rfl;rw [h4,show Tryz.prog.cellsOf 4=1 by kernel_rfl] at f4;obtain ⟨z4,e4, -⟩:=DataW.trod_bool Tryz.underlying4 f4;have e4:[c4]=[.bool z4]:=e4;cases e0
  cases e1
  cases e2
  cases e3
  cases e4
  exact ⟨⟨z0,z1,z2,z3,z4⟩,rfl,g1,w2,g3⟩
theorem b0d {fuel:Nat} {cs:List Value} {x:DataW H×List MemPlace} (h:DataW.trod enc Tryz.prog W 0 (fun _=>true) true fuel 87 cs=some x) (hw:∀n∈DataW.weights Tryz.prog 87 x.1,n<=reachBytes):∃c:Cnd,cs=c.cells/\c.inn:=by
 obtain ⟨xs,n1, -,hxd,hlen,hxs,hf⟩:=DataW.trod_struct Tryz.underlying87 h;rw [show Tryz.prog.cellsOf 87=7 by kernel_rfl] at hlen
 have hx:∀i,i<3->∃y,xs[i]? =some y:=fun i hi=>by
  simp at hxs;exact ⟨_,zz5 zo⟩
 rw [hxd] at hw;have hw:∀n∈DataW.weights Tryz.prog 87 (.agg (xs.map (·.1)):DataW H),n<=reachBytes:=hw
 match cs,hlen with
 |[c0,c1,c2,c3,c4,c5,c6],_=>
  obtain ⟨y0,h0⟩:=hx 0 zo;have f0:DataW.trod enc Tryz.prog W 0 (fun _=>true) true n1 9 (([c0,c1,c2,c3,c4,c5,c6].drop 0).take (Tryz.prog.cellsOf 9))=xs[0]? :=hf 0 _ rfl;rw [h0,show Tryz.prog.cellsOf 9=1 by kernel_rfl] at f0;obtain ⟨z0,e0,u0, -⟩:=DataW.trod_string Tryz.underlying9 f0;have e0:[c0]=[.string z0]:=e0;have g0:z0.size<=reachBytes:=hw _ (n9 Tryz.underlying87 (i:=0) (t:=9) rfl (by rw [List.getElem?_map,h0];rfl) (by rw [u0];simp [DataW.weights]));obtain ⟨y1,h1⟩:=hx 1 zo;have f1:DataW.trod enc Tryz.prog W 0 (fun _=>true) true n1 3 (([c0,c1,c2,c3,c4,c5,c6].drop 1).take (Tryz.prog.cellsOf 3))=xs[1]? :=hf 1 _ rfl;rw [h1,show Tryz.prog.cellsOf 3=1 by kernel_rfl] at f1;obtain ⟨z1,e1, -,w1⟩:=DataW.trod_int Tryz.underlying3 f1;have e1:[c1]=[.int .i64 z1]:=e1;have g1: -9223372036854775808<=z1/\z1<=9223372036854775807:=by simpa [Lit.wf,IntKind.min,IntKind.max,IntKind.signed,IntKind.bits] using w1
  obtain ⟨y2,h2⟩:=hx 2 zo;have f2:DataW.trod enc Tryz.prog W 0 (fun _=>true) true n1 85 (([c0,c1,c2,c3,c4,c5,c6].drop 2).take (Tryz.prog.cellsOf 85))=xs[2]? :=hf 2 _ rfl;rw [h2,show Tryz.prog.cellsOf 85=5 by kernel_rfl] at f2;obtain ⟨z2,e2,g2⟩:=a4U f2 (fun n hn=>hw n (n9 Tryz.underlying87 (i:=2) (t:=85) rfl (by rw [List.getElem?_map,h2];rfl) hn));have e2:[c2,c3,c4,c5,c6]=[.int .i64 z2.kind,.int .i64 z2.int,.float .f64 z2.num,.string z2.text,.bool z2.yes]:=e2;cases e0
  cases e1
  cases e2
  exact ⟨⟨z0,z1,z2⟩,rfl,g0,g2⟩
theorem a2g {fuel:Nat} {cs:List Value} {x:DataW H×List MemPlace} (h:DataW.trod enc Tryz.prog W 0 (fun _=>true) true fuel 26 cs=some x) (hw:∀n∈DataW.weights Tryz.prog 26 x.1,n<=reachBytes):∃(sc:ByteArray) (a:Option Addr) (cap:Nat) (l:List Cnd),cs=[.string sc,.slice a l.length cap]/\b17 W sc a cap l:=by
 obtain ⟨xs,n1, -,hxd,hlen,hxs,hf⟩:=DataW.trod_struct Tryz.underlying26 h;rw [show Tryz.prog.cellsOf 26=2 by kernel_rfl] at hlen
 have hx:∀i,i<2->∃y,xs[i]? =some y:=fun i hi=>by
  simp at hxs;exact ⟨_,zz5 zo⟩
 rw [hxd] at hw;have hw:∀n∈DataW.weights Tryz.prog 26 (.agg (xs.map (·.1)):DataW H),n<=reachBytes:=hw
 match cs,hlen with
 | [c0,c1],_=>
  obtain ⟨y0,h0⟩:=hx 0 zo;have f0:DataW.trod enc Tryz.prog W 0 (fun _=>true) true n1 9 (([c0,c1].drop 0).take (Tryz.prog.cellsOf 9))=xs[0]? :=hf 0 _ rfl;rw [h0,show Tryz.prog.cellsOf 9=1 by kernel_rfl] at f0;obtain ⟨z0,e0,u0, -⟩:=DataW.trod_string Tryz.underlying9 f0;have e0:[c0]=[.string z0]:=e0;have g0:z0.size<=reachBytes:=hw _ (n9 Tryz.underlying26 (i:=0) (t:=9) rfl (by rw [List.getElem?_map,h0];rfl) (by rw [u0];simp [DataW.weights]));obtain ⟨y1,h1⟩:=hx 1 zo;have f1:DataW.trod enc Tryz.prog W 0 (fun _=>true) true n1 24 (([c0,c1].drop 1).take (Tryz.prog.cellsOf 24))=xs[1]? :=hf 1 _ rfl;rw [h1,show Tryz.prog.cellsOf 24=1 by kernel_rfl] at f1;have f1:DataW.trod enc Tryz.prog W 0 (fun _=>true) true n1 24 [c1]=some y1:=f1;obtain ⟨l1,k1,m1,p1⟩:=a0L (W:=W) (v:=c1) (sz:=7) Cnd.cells Cnd.cells_length zd Tryz.underlying24 zk ⟨⟨#[]⟩,0,V.zero⟩ Cnd.inn (fun _ _ _ h hw=>b0d h hw) f1 (fun n hn=>hw n (n9 Tryz.underlying26 (i:=1) (t:=24) rfl (by rw [List.getElem?_map,h1];rfl) hn))
  obtain ⟨a1,cap1,rfl⟩:∃A cap,c1= .slice A l1.length cap:=by
   obtain ⟨-,a',c',k5, -⟩:=k1;exact ⟨a',c',k5⟩
  cases e0
  exact ⟨z0,a1,cap1,l1,rfl,k1,g0,m1,p1⟩
theorem a3S {fuel:Nat} {cs:List Value} {x:DataW H×List MemPlace} (h:DataW.trod enc Tryz.prog W 0 (fun _=>true) true fuel 28 cs=some x) (hw:∀n∈DataW.weights Tryz.prog 28 x.1,n<=reachBytes):∃r:Ru,cs=r.cells/\r.inn W:=by
 obtain ⟨xs,n1, -,hxd,hlen,hxs,hf⟩:=DataW.trod_struct Tryz.underlying28 h;rw [show Tryz.prog.cellsOf 28=8 by kernel_rfl] at hlen
 have hx:∀i,i<7->∃y,xs[i]? =some y:=fun i hi=>by
  simp at hxs;exact ⟨_,zz5 zo⟩
 rw [hxd] at hw;have hw:∀n∈DataW.weights Tryz.prog 28 (.agg (xs.map (·.1)):DataW H),n<=reachBytes:=hw
 match cs,hlen with
 |[c0,c1,c2,c3,c4,c5,c6,c7],_=>
  obtain ⟨y0,h0⟩:=hx 0 zo;have f0:DataW.trod enc Tryz.prog W 0 (fun _=>true) true n1 3 (([c0,c1,c2,c3,c4,c5,c6,c7].drop 0).take (Tryz.prog.cellsOf 3))=xs[0]? :=hf 0 _ rfl;rw [h0,show Tryz.prog.cellsOf 3=1 by kernel_rfl] at f0;obtain ⟨z0,e0, -,w0⟩:=DataW.trod_int Tryz.underlying3 f0;have e0:[c0]=[.int .i64 z0]:=e0;have g0: -9223372036854775808<=z0/\z0<=9223372036854775807:=by simpa [Lit.wf,IntKind.min,IntKind.max,IntKind.signed,IntKind.bits] using w0
  obtain ⟨y1,h1⟩:=hx 1 zo;have f1:DataW.trod enc Tryz.prog W 0 (fun _=>true) true n1 3 (([c0,c1,c2,c3,c4,c5,c6,c7].drop 1).take (Tryz.prog.cellsOf 3))=xs[1]? :=hf 1 _ rfl;rw [h1,show Tryz.prog.cellsOf 3=1 by kernel_rfl] at f1;obtain ⟨z1,e1, -,w1⟩:=DataW.trod_int Tryz.underlying3 f1;have e1:[c1]=[.int .i64 z1]:=e1;have g1: -9223372036854775808<=z1/\z1<=9223372036854775807:=by simpa [Lit.wf,IntKind.min,IntKind.max,IntKind.signed,IntKind.bits] using w1
  obtain ⟨y2,h2⟩:=hx 2 zo;have f2:DataW.trod enc Tryz.prog W 0 (fun _=>true) true n1 9 (([c0,c1,c2,c3,c4,c5,c6,c7].drop 2).take (Tryz.prog.cellsOf 9))=xs[2]? :=hf 2 _ rfl;rw [h2,show Tryz.prog.cellsOf 9=1 by kernel_rfl] at f2;obtain ⟨z2,e2,u2, -⟩:=DataW.trod_string Tryz.underlying9 f2;have e2:[c2]=[.string z2]:=e2;have g2:z2.size<=reachBytes:=hw _ (n9 Tryz.underlying28 (i:=2) (t:=9) rfl (by rw [List.getElem?_map,h2];rfl) (by rw [u2];simp [DataW.weights]));obtain ⟨y3,h3⟩:=hx 3 zo;have f3:DataW.trod enc Tryz.prog W 0 (fun _=>true) true n1 3 (([c0,c1,c2,c3,c4,c5,c6,c7].drop 3).take (Tryz.prog.cellsOf 3))=xs[3]? :=hf 3 _ rfl;rw [h3,show Tryz.prog.cellsOf 3=1 by kernel_rfl] at f3;obtain ⟨z3,e3, -,w3⟩:=DataW.trod_int Tryz.underlying3 f3;have e3:[c3]=[.int .i64 z3]:=e3;have g3: -9223372036854775808<=z3/\z3<=9223372036854775807:=by simpa [Lit.wf,IntKind.min,IntKind.max,IntKind.signed,IntKind.bits] using w3
  obtain ⟨y4,h4⟩:=hx 4 zo;have f4:DataW.trod enc Tryz.prog W 0 (fun _=>true) true n1 26 (([c0,c1,c2,c3,c4,c5,c6,c7].drop 4).take (Tryz.prog.cellsOf 26))=xs[4]? :=hf 4 _ rfl;rw [h4,show Tryz.prog.cellsOf 26=2 by kernel_rfl] at f4;obtain ⟨s4,a4,k4,l4,e4,g4⟩:=a2g f4 (fun n hn=>hw n (n9 Tryz.underlying28 (i:=4) (t:=26) rfl (by rw [List.getElem?_map,h4];rfl) hn));have e4:[c4,c5]=[.string s4,.slice a4 l4.length k4]:=e4;obtain ⟨y5,h5⟩:=hx 5 zo;have f5:DataW.trod enc Tryz.prog W 0 (fun _=>true) true n1 9 (([c0,c1,c2,c3,c4,c5,c6,c7].drop 6).take (Tryz.prog.cellsOf 9))=xs[5]? :=hf 5 _ rfl;rw [h5,show Tryz.prog.cellsOf 9=1 by kernel_rfl] at f5;obtain ⟨z5,e5,u5, -⟩:=DataW.trod_string Tryz.underlying9 f5;have e5:[c6]=[.string z5]:=e5;have g5:z5.size<=reachBytes:=hw _ (n9 Tryz.underlying28 (i:=5) (t:=9) rfl (by rw [List.getElem?_map,h5];rfl) (by rw [u5];simp [DataW.weights]));obtain ⟨y6,h6⟩:=hx 6 zo;have f6:DataW.trod enc Tryz.prog W 0 (fun _=>true) true n1 3 (([c0,c1,c2,c3,c4,c5,c6,c7].drop 7).take (Tryz.prog.cellsOf 3))=xs[6]? :=hf 6 _ rfl;rw [h6,show Tryz.prog.cellsOf 3=1 by kernel_rfl] at f6;obtain ⟨z6,e6, -,w6⟩:=DataW.trod_int Tryz.underlying3 f6;have e6:[c7]=[.int .i64 z6]:=e6;have g6: -9223372036854775808<=z6/\z6<=9223372036854775807:=by simpa [Lit.wf,IntKind.min,IntKind.max,IntKind.signed,IntKind.bits] using w6
  cases e0
  cases e1
  cases e2
  cases e3
  cases e4
  cases e5
  cases e6
  exact ⟨⟨z0,z1,z2,z3,s4,a4,k4,z5,z6,l4⟩,rfl,g2,g5,g4⟩
theorem a6z {base:Nat} {v:Value} {d:DataW H} {p:List MemPlace} (hok:Value.okWide Tryz.prog W .any base 22 v)
 (h:DataW.Trod enc Tryz.prog W 0 (fun _=>true) true 22 v d p) (hw:∀n∈DataW.weights Tryz.prog 22 d,n<=reachBytes):∃l:List Ru,j3 W 8 v l.length (rus l)/\l.length<=maxLen/\∀r∈l,r.inn W:=by
 obtain ⟨m,hm⟩:=h;obtain ⟨A,n,cap,rfl⟩:=okWide_slice Tryz.underlying22 hok;obtain ⟨l,h1,h2,h3⟩:=a0L (W:=W) (v:= .slice A n cap) (sz:=8) Ru.cells Ru.cells_length zd Tryz.underlying22 zk ⟨0,0,⟨#[]⟩,0,⟨#[]⟩,none,0,⟨#[]⟩,0,[]⟩ (fun r=>r.inn W) (fun _ _ _ h hw=>a3S h hw) hm hw;exact ⟨l,h1,h2,h3⟩
end
end Go.Proofs.YtebhabpahfmodaaGreatDoor
namespace Go.Proofs.YtebhabpahfmodaaGreatDoor
open Go.RowKit
def a3a:Value->Option (DataW Value×List MemPlace):=fun v=>some (.held v,[])
def p6 (w:World) (kt:TypeId) (b n:Nat) (f:Lit->Option Value):Prop:=
 ∃D:DataW Value,w.ownsMap Tryz.prog kt a3a b n D/\Maps.size D=n/\(∀kl z,D.atKey kl (.held z)= .held ((f kl).getD z))/\∀kl,Maps.has D kl=(f kl).isSome
open Classical in
noncomputable def P5 (f:Lit->Option Value) (kl:Lit) (v:Value):Lit->Option Value:=fun k=>if k=kl then some v else f k
open Classical in
noncomputable def b18 (f:Lit->Option Value) (kl:Lit):Lit->Option Value:=fun k=>if k=kl then none else f k
@[go_sem] theorem b1q (t:TypeId) (w:World):(Instr.makeMap t none).run Tryz.prog w= .ok (.map (some w.heap.size)) (w.alloc (.map #[] 0)):=rfl
theorem a07 {w:World} {kt:TypeId} {b n:Nat} {D:DataW Value} (h:w.ownsMap Tryz.prog kt a3a b n D):w.ownsMap Tryz.prog kt a3a b (Maps.size D) D:=by
 obtain ⟨es,clock,h1,h2, -,rfl⟩:=h;exact ⟨es,clock,h1,h2,by simp [Maps.size,length_sorted],rfl⟩
theorem p6.made (w:World) (kt:TypeId):p6 (w.alloc (.map #[] 0)) kt w.heap.size 0 (fun _=>none):=
 ⟨.map [],World.ownsMap_made _ _ _ _,rfl,fun _ _=>rfl,fun _=>rfl⟩
theorem p6.mod {w w':World} {kt:TypeId} {b n:Nat} {f:Lit->Option Value} {F:Nat->Prop} (h:p6 w kt b n f) (hm:Mod F w w') (hF:¬F b):p6 w' kt b n f:=by
 obtain ⟨D,⟨es,clock,h1,h2⟩,h3⟩:=h;exact ⟨D,⟨es,clock,hm.heap h1 hF,h2⟩,h3⟩
theorem p6.lt {w:World} {kt:TypeId} {b n:Nat} {f:Lit->Option Value} (h:p6 w kt b n f):b<w.heap.size:=by
 obtain ⟨D,h1, -⟩:=h;exact h1.lt
theorem p6.look {w:World} {kt t e:TypeId} {b n:Nat} {f:Lit->Option Value} (h:p6 w kt b n f) (K:Maps.Keyed Tryz.prog kt) (ht:Tryz.prog.underlying t=some (.map kt e)) {z:Value} (hz:(zeroValue e).run Tryz.prog w= .ok z w) {key:Value} {kl:Lit} (hkey:keyOf Tryz.prog kt key=some kl):
 (Instr.lookup t (.map (some b)) key false).run Tryz.prog w= .ok ((f kl).getD z) w:=by
 obtain ⟨D,h1, -,h3, -⟩:=h;obtain ⟨v,ps,hrun,hv⟩:=h1.lookup K ht hz (zd:= .held z) (zp:=[]) rfl hkey;rw [h3] at hv;simp only [a3a,Option.some.injEq,Prod.mk.injEq,DataW.held.injEq] at hv;rw [hrun,hv.1]
theorem p6.look_ok {w:World} {kt t e:TypeId} {b n:Nat} {f:Lit->Option Value} (h:p6 w kt b n f) (K:Maps.Keyed Tryz.prog kt) (ht:Tryz.prog.underlying t=some (.map kt e)) {z:Value} (hz:(zeroValue e).run Tryz.prog w= .ok z w) {key:Value} {kl:Lit} (hkey:keyOf Tryz.prog kt key=some kl):
 (Instr.lookup t (.map (some b)) key true).run Tryz.prog w= .ok (.tuple #[(f kl).getD z,.bool (f kl).isSome]) w:=by
 obtain ⟨D,h1, -,h3,h4⟩:=h;obtain ⟨v,ps,hrun,hv⟩:=h1.look_ok K ht hz (zd:= .held z) (zp:=[]) rfl hkey;rw [h3] at hv;simp only [a3a,Option.some.injEq,Prod.mk.injEq,DataW.held.injEq] at hv;rw [hrun,hv.1,h4]
theorem p6.len {w:World} {kt t e:TypeId} {b n:Nat} {f:Lit->Option Value} (h:p6 w kt b n f) (ht:Tryz.prog.underlying t=some (.map kt e)) (ty:TypeId):
 (Builtin.len_ #[t] ty #[.map (some b)]).run Tryz.prog w= .ok (.int .i64 n) w:=by
 obtain ⟨D,h1,h2, -⟩:=h;rw [h1.len ht ty,h2]
theorem a2h {w w':World} {b:Nat} (h:w.grownBy w' (some b)):Mod (fun k=>k=b) w w':=⟨h.os,h.tape,h.output,h.size,fun k hk hn=>h.block k hk (fun e=>hn (Option.some.inj e))⟩
theorem p6.put {w:World} {kt t e:TypeId} {b n:Nat} {f:Lit->Option Value} (h:p6 w kt b n f) (K:Maps.Keyed Tryz.prog kt) (ht:Tryz.prog.underlying t=some (.map kt e)) (hn:n<maxLen) {key:Value} {kl:Lit} (hkey:keyOf Tryz.prog kt key=some kl) (v:Value):
 ∃w',(Instr.mapUpdate t (.map (some b)) key v).run Tryz.prog w= .ok () w'/\p6 w' kt b (if (f kl).isSome then n else n+1) (P5 f kl v)/\Mod (fun k=>k=b) w w':=by
 obtain ⟨D,h1,h2,h3,h4⟩:=h;obtain ⟨w',hrun,r1,r2⟩:=h1.update K ht hn hkey (val:=v) (d:= .held v) (ps:=[]) rfl;have hs:=Maps.size_put (k:=kl) (h1.tidy K) (.held v);rw [h2,h4] at hs;refine ⟨w',hrun,⟨D.put kl (.held v), ?_,hs,fun k z=> ?_,fun k=> ?_⟩,a2h r2⟩
 ·rw [<-hs];exact a07 r1
 ·unfold P5;by_cases e:k=kl
  ·subst e;rw [if_pos rfl,Maps.atKey_put_same h1.isMap (K.key hkey)];rfl
  rw [if_neg e,Maps.atKey_put_other e,h3]
 unfold P5;by_cases e:k=kl
 ·subst e;rw [if_pos rfl,Maps.has_put_same h1.isMap (K.key hkey)];rfl
 rw [if_neg e,Maps.has_put_other e,h4]
theorem p6.del {w:World} {kt t e:TypeId} {b n:Nat} {f:Lit->Option Value} (h:p6 w kt b n f) (K:Maps.Keyed Tryz.prog kt) (ht:Tryz.prog.underlying t=some (.map kt e)) {key:Value} {kl:Lit} (hkey:keyOf Tryz.prog kt key=some kl) (ty:TypeId):
 ∃w',(Builtin.delete_ #[t,kt] ty #[.map (some b),key]).run Tryz.prog w= .ok (.tuple #[]) w'/\p6 w' kt b (if (f kl).isSome then n - 1 else n) (b18 f kl)/\Mod (fun k=>k=b) w w':=by
 obtain ⟨D,h1,h2,h3,h4⟩:=h;obtain ⟨w',hrun,r1,r2⟩:=h1.drop K ht hkey ty;have hs:=Maps.size_del (k:=kl) (h1.tidy K);rw [h2,h4] at hs;have hs2:Maps.size (D.del kl)=if (f kl).isSome then n - 1 else n:=by split at hs<;>simp_all<;>omega
 refine ⟨w',hrun,⟨D.del kl, ?_,hs2,fun k z=> ?_,fun k=> ?_⟩,a2h r2.grown⟩
 ·rw [<-hs2];exact a07 r1
 ·unfold b18;by_cases e:k=kl
  ·subst e;rw [if_pos rfl,Maps.atKey_del_same];rfl
  rw [if_neg e,Maps.atKey_del_other e,h3]
 unfold b18;by_cases e:k=kl
 ·subst e;rw [if_pos rfl,Maps.has_del_same];rfl
 rw [if_neg e,Maps.has_del_other e,h4]
theorem P6 {w:World} {ops:Array Oper} {rest:List Oper} {a:Act} {Q:Exit->Act->World->Prop} {d:Option Tmp} {tp:TypeId} {pos:String} {af:Array Edge} (t:TypeId) (m x v:Operand)
 (h:∃(kt e:TypeId) (b n:Nat) (f:Lit->Option Value) (kl:Lit),p6 w kt b n f/\Maps.Keyed Tryz.prog kt/\Tryz.prog.underlying t=some (.map kt e)/\n<maxLen/\a.eval m= .map (some b)/\keyOf Tryz.prog kt (a.eval x)=some kl/\
   ∀w',p6 w' kt b (if (f kl).isSome then n else n+1) (P5 f kl (a.eval v))->Mod (fun k=>k=b) w w'->wpList Tryz.prog ops Q rest (a.put d undef) w'):
 wpList Tryz.prog ops Q (⟨d,.mapUpdate t m x v,tp,pos,af,none⟩::rest) a w:=by
 obtain ⟨kt,e,b,n,f,kl,h1,K,ht,hn,hm,hkey,hK⟩:=h;refine wpList_plain rfl fun K' hK'=> ?_;obtain ⟨w',hrun,r1,r2⟩:=h1.put K ht hn hkey (a.eval v);unfold Oper.wp;simp [execOp,hm,hrun,Result.andThen];exact hK' _ _ (hK w' r1 r2)
end Go.Proofs.YtebhabpahfmodaaGreatDoor
namespace Go.Proofs
open Go.Shelf
def Tryz.isorted63_ren:Go.Shelf.Ren:=⟨fun|6=>63|8=>97|9=>57|11=>144|13=>91|12=>90|23=>142|24=>143|14=>133|15=>134|16=>135|17=>136|18=>137|19=>138|20=>139|21=>140|22=>141|25=>167|26=>168|27=>169|28=>170|29=>171|30=>172|31=>192|n=>n,fun|26=>9|28=>146|24=>77|0=>0|3=>3|37=>169|48=>208|50=>198|4=>4|40=>202|39=>201|45=>151|5=>5|9=>9|51=>224|55=>228|57=>252|58=>253|33=>76|n=>n,fun|n=>n⟩
theorem Tryz.isorted63:Go.Proofs.SlLaysZ.n6 Tryz.prog Tryz.isorted63_ren:={
 mixed:=by kernel_rfl
 f6:=⟨Tryz.f63.name,by decide,Tryz.func63.trans (congrArg some (by kernel_rfl))⟩
 f8:=⟨Tryz.f97.name,by decide,Tryz.func97.trans (congrArg some (by kernel_rfl))⟩
 f11:=⟨Tryz.f144.name,by decide,Tryz.func144.trans (congrArg some (by kernel_rfl))⟩
 t0:=Tryz.underlying0
 a0:=Tryz.isAgg0
 z0:=Tryz.sizeOf0
 v0:=Tryz.zeroValue0
 t24:=Tryz.underlying77
 a24:=Tryz.isAgg77
 z24:=Tryz.sizeOf77
 v24:=Tryz.zeroValue77
 t26:=Tryz.underlying9
 a26:=Tryz.isAgg9
 z26:=Tryz.sizeOf9
 v26:=Tryz.zeroValue9
 t28:=Tryz.underlying146
 a28:=Tryz.isAgg146
 z28:=Tryz.sizeOf146
 v28:=Tryz.zeroValue146
 i26:=by kernel_rfl}
def Tryz.isort57_ren:Go.Shelf.Ren:=⟨fun|6=>57|8=>91|9=>90|19=>142|20=>143|21=>133|22=>134|23=>135|24=>136|25=>137|26=>138|27=>139|28=>140|29=>141|36=>167|31=>168|32=>169|37=>170|38=>171|39=>172|41=>192|n=>n,fun|27=>77|29=>9|3=>3|32=>169|26=>77|0=>0|44=>208|46=>198|4=>4|36=>202|35=>201|41=>151|5=>5|9=>9|53=>224|57=>228|63=>252|64=>253|n=>n,fun|n=>n⟩
theorem Tryz.isort57:Go.Proofs.SlLaysM.n6 Tryz.prog Tryz.isort57_ren:={
 mixed:=by kernel_rfl
 f6:=⟨Tryz.f57.name,by decide,Tryz.func57.trans (congrArg some (by kernel_rfl))⟩
 f8:=Tryz.func91.trans (congrArg some (by kernel_rfl))
 f9:=⟨Tryz.f90.name,by decide,Tryz.func90.trans (congrArg some (by kernel_rfl))⟩
 f19:=Tryz.func142.trans (congrArg some (by kernel_rfl))
 f20:=Tryz.func143.trans (congrArg some (by kernel_rfl))
 f21:=⟨Tryz.f133.name,by decide,Tryz.func133.trans (congrArg some (by kernel_rfl))⟩
 f22:=⟨Tryz.f134.name,by decide,Tryz.func134.trans (congrArg some (by kernel_rfl))⟩
 f23:=⟨Tryz.f135.name,by decide,Tryz.func135.trans (congrArg some (by kernel_rfl))⟩
 f24:=⟨Tryz.f136.name,by decide,Tryz.func136.trans (congrArg some (by kernel_rfl))⟩
 f25:=⟨Tryz.f137.name,by decide,Tryz.func137.trans (congrArg some (by kernel_rfl))⟩
 f26:=⟨Tryz.f138.name,by decide,Tryz.func138.trans (congrArg some (by kernel_rfl))⟩
 f27:=⟨Tryz.f139.name,by decide,Tryz.func139.trans (congrArg some (by kernel_rfl))⟩
 f28:=⟨Tryz.f140.name,by decide,Tryz.func140.trans (congrArg some (by kernel_rfl))⟩
 f29:=⟨Tryz.f141.name,by decide,Tryz.func141.trans (congrArg some (by kernel_rfl))⟩
 f31:=Tryz.func168.trans (congrArg some (by kernel_rfl))
 f32:=Tryz.func169.trans (congrArg some (by kernel_rfl))
 f36:=⟨Tryz.f167.name,by decide,Tryz.func167.trans (congrArg some (by kernel_rfl))⟩
 f37:=⟨Tryz.f170.name,by decide,Tryz.func170.trans (congrArg some (by kernel_rfl))⟩
 f38:=⟨Tryz.f171.name,by decide,Tryz.func171.trans (congrArg some (by kernel_rfl))⟩
 f39:=⟨Tryz.f172.name,by decide,Tryz.func172.trans (congrArg some (by kernel_rfl))⟩
 f41:=⟨Tryz.f192.name,by decide,Tryz.func192.trans (congrArg some (by kernel_rfl))⟩
 t0:=Tryz.underlying0
 a0:=Tryz.isAgg0
 z0:=Tryz.sizeOf0
 v0:=Tryz.zeroValue0
 t3:=Tryz.underlying3
 a3:=Tryz.isAgg3
 z3:=Tryz.sizeOf3
 v3:=Tryz.zeroValue3
 t4:=Tryz.underlying4
 a4:=Tryz.isAgg4
 z4:=Tryz.sizeOf4
 v4:=Tryz.zeroValue4
 t5:=Tryz.underlying5
 a5:=Tryz.isAgg5
 z5:=Tryz.sizeOf5
 v5:=Tryz.zeroValue5
 t9:=Tryz.underlying9
 a9:=Tryz.isAgg9
 z9:=Tryz.sizeOf9
 v9:=Tryz.zeroValue9
 t26:=Tryz.underlying77
 a26:=Tryz.isAgg77
 z26:=Tryz.sizeOf77
 v26:=Tryz.zeroValue77
 t27:=Tryz.underlying77
 a27:=Tryz.isAgg77
 z27:=Tryz.sizeOf77
 v27:=Tryz.zeroValue77
 t29:=Tryz.underlying9
 a29:=Tryz.isAgg9
 z29:=Tryz.sizeOf9
 v29:=Tryz.zeroValue9
 t32:=Tryz.underlying169
 a32:=Tryz.isAgg169
 z32:=Tryz.sizeOf169
 v32:=Tryz.zeroValue169
 t35:=Tryz.underlying201
 a35:=Tryz.isAgg201
 z35:=Tryz.sizeOf201
 v35:=Tryz.zeroValue201
 t36:=Tryz.underlying202
 a36:=Tryz.isAgg202
 z36:=Tryz.sizeOf202
 v36:=Tryz.zeroValue202
 t41:=Tryz.underlying151
 a41:=Tryz.isAgg151
 z41:=Tryz.sizeOf151
 v41:=Tryz.zeroValue151
 t44:=Tryz.underlying208
 a44:=Tryz.isAgg208
 z44:=Tryz.sizeOf208
 v44:=Tryz.zeroValue208
 t46:=Tryz.underlying198
 a46:=Tryz.isAgg198
 z46:=Tryz.sizeOf198
 v46:=Tryz.zeroValue198
 t53:=Tryz.underlying224
 a53:=Tryz.isAgg224
 z53:=Tryz.sizeOf224
 v53:=Tryz.zeroValue224
 t57:=Tryz.underlying228
 a57:=Tryz.isAgg228
 z57:=Tryz.sizeOf228
 v57:=Tryz.zeroValue228
 t63:=Tryz.underlying252
 a63:=Tryz.isAgg252
 z63:=Tryz.sizeOf252
 v63:=Tryz.zeroValue252
 t64:=Tryz.underlying253
 a64:=Tryz.isAgg253
 z64:=Tryz.sizeOf253
 v64:=Tryz.zeroValue253}
def Tryz.ikeys64_ren:Go.Shelf.Ren:=⟨fun|7=>64|10=>98|n=>n,fun|23=>142|26=>9|3=>26|28=>146|0=>0|27=>145|33=>76|4=>4|n=>n,fun|n=>n⟩
theorem Tryz.ikeys64:Go.Proofs.SlLaysZ.n7 Tryz.prog Tryz.ikeys64_ren:={
 mixed:=by kernel_rfl
 f7:=⟨Tryz.f64.name,by decide,Tryz.func64.trans (congrArg some (by kernel_rfl))⟩
 f10:=⟨Tryz.f98.name,by decide,Tryz.func98.trans (congrArg some (by kernel_rfl))⟩
 t0:=Tryz.underlying0
 a0:=Tryz.isAgg0
 z0:=Tryz.sizeOf0
 v0:=Tryz.zeroValue0
 t4:=Tryz.underlying4
 a4:=Tryz.isAgg4
 z4:=Tryz.sizeOf4
 v4:=Tryz.zeroValue4
 t23:=Tryz.underlying142
 a23:=Tryz.isAgg142
 z23:=Tryz.sizeOf142
 v23:=Tryz.zeroValue142
 t26:=Tryz.underlying9
 a26:=Tryz.isAgg9
 z26:=Tryz.sizeOf9
 v26:=Tryz.zeroValue9
 t27:=Tryz.underlying145
 a27:=Tryz.isAgg145
 z27:=Tryz.sizeOf145
 v27:=Tryz.zeroValue145
 t28:=Tryz.underlying146
 a28:=Tryz.isAgg146
 z28:=Tryz.sizeOf146
 v28:=Tryz.zeroValue146
 t33:=Tryz.underlying76
 a33:=Tryz.isAgg76
 z33:=Tryz.sizeOf76
 v33:=Tryz.zeroValue76}
open Go.RowKit Go.Maps Go.Sort in
theorem Tryz.isorts64 (m:Nat):AnyZ.SortsIn Tryz.prog Tryz.isorted63_ren Fence.wide m:=
 ⟨fun blk off cap ss W hH hblk hsz=>callsIn_wide.2 (AnyM.slices_Sort_string Tryz.isort57 blk off cap ss W hH hblk hsz),
  fun p cap W=>callsIn_wide.2 (AnyM.slices_Sort_string_none Tryz.isort57 p cap W)⟩
open Go.RowKit Go.Maps Go.Sort in
theorem Tryz.maps_Keys_64 (mb:Option Nat) (W:World):Calls Tryz.prog 64 #[.map mb] W fun e w'=>e= .returned (.func (.func 98) #[] #[.pointer (some ⟨W.heap.size,0,none⟩)])/\w'=W.alloc (.cells #[.map mb] 142):=
 (callsIn_wide (n:=5)).1 (AnyZ.keys_in Tryz.ikeys64 Fence.wide 5 trivial rfl mb W)
open Go.RowKit Go.Maps Go.Sort in
theorem Tryz.slices_Sorted_64 {H:Type} (b nn:Nat) (D0:DataW H) (R:Value->Option (DataW H×List MemPlace)) (w:World) (hown:w.ownsMap Tryz.prog 9 R b nn D0) (hmax:Maps.size D0<=maxLen) (hbytes:Maps.size D0*16<=140737488355328):
 Calls Tryz.prog 63 #[.func (.func 98) #[] #[.pointer (some ⟨w.heap.size,0,none⟩)]] (w.alloc (.cells #[.map (some b)] 142)) fun e w'=>∃(v:Value) (ss:List (List UInt8)),e= .returned v/\ss.Perm (strKeys D0)/\
  w'.ownsRow (w.alloc (.cells #[.map (some b)] 142)).heap.size 9 1 v ss.length ((ss.mergeSort (fun x y=>decide (x<=y))).map encStr)/\(v= .slice none 0 0↔ss=[])/\Below (w.alloc (.cells #[.map (some b)] 142)).heap.size (w.alloc (.cells #[.map (some b)] 142)) w':=by
 have hbl:=hown.lt
 have hseq:SeqGives Fence.wide 2 Tryz.prog 98 #[.pointer (some ⟨w.heap.size,0,none⟩)] encStr (fun ss=>ss.Perm (strKeys D0)) (Maps.size D0) (w.alloc (.cells #[.map (some b)] 142)):=
  AnyZ.keys_gives (ρ:=Tryz.ikeys64_ren) {Tryz.ikeys64 with} Fence.wide _ trivial rfl (by omega) w.heap.size b nn D0 _ (by simp) (by simp) (by
   obtain ⟨es,clock,hb,Ft,hs,hD⟩:=hown
   exact ⟨es,clock,(Below.heap_alloc _ _ b hbl).trans hb,Ft,hs,hD⟩)
 exact (callsIn_wide (n:=5)).1 (AnyZ.sorted_in Tryz.isorted63 Fence.wide 5 trivial trivial trivial trivial rfl (by omega) (Tryz.isorts64 _) (enters_of Tryz.func57 (by kernel_rfl) rfl) 98 #[.pointer (some ⟨w.heap.size,0,none⟩)] trivial (enters_of Tryz.func98 (by kernel_rfl) rfl) _ _ hmax hbytes _ hseq)
open Go.RowKit Go.Maps Go.Sort in
theorem Tryz.slices_Sorted_nil_64 (w:World):
 Calls Tryz.prog 63 #[.func (.func 98) #[] #[.pointer (some ⟨w.heap.size,0,none⟩)]] (w.alloc (.cells #[.map none] 142)) fun e w'=>e= .returned (.slice none 0 0)/\Below (w.alloc (.cells #[.map none] 142)).heap.size (w.alloc (.cells #[.map none] 142)) w':=by
 have hseq:SeqGives Fence.wide 2 Tryz.prog 98 #[.pointer (some ⟨w.heap.size,0,none⟩)] encStr (fun ss:List (List UInt8)=>ss=[]) 0 (w.alloc (.cells #[.map none] 142)):=
  AnyZ.keys_gives_nil (ρ:=Tryz.ikeys64_ren) {Tryz.ikeys64 with} Fence.wide _ trivial rfl w.heap.size _ (by simp) (by simp)
 refine ((callsIn_wide (n:=5)).1 (AnyZ.sorted_in Tryz.isorted63 Fence.wide 5 trivial trivial trivial trivial rfl (by omega) (Tryz.isorts64 _) (enters_of Tryz.func57 (by kernel_rfl) rfl) 98 #[.pointer (some ⟨w.heap.size,0,none⟩)] trivial (enters_of Tryz.func98 (by kernel_rfl) rfl) _ 0 (Nat.zero_le _) (by omega) _ hseq)).mono ?_;rintro e w' ⟨v,ss,rfl,rfl,hrow,hnil,hb⟩;obtain rfl:v= .slice none 0 0:=hnil.2 rfl;exact ⟨rfl,hb⟩
def Tryz.isorted100_ren:Go.Shelf.Ren:=⟨fun|6=>100|8=>145|9=>146|11=>173|13=>91|12=>174|23=>142|24=>143|14=>193|15=>194|16=>195|17=>196|18=>197|19=>198|20=>199|21=>200|22=>201|25=>222|26=>168|27=>169|28=>223|29=>224|30=>225|31=>251|n=>n,fun|26=>3|28=>178|24=>97|0=>0|3=>3|37=>169|48=>208|50=>198|4=>4|40=>202|39=>201|45=>151|5=>5|9=>9|51=>224|55=>228|57=>252|58=>253|33=>212|n=>n,fun|n=>n⟩
theorem Tryz.isorted100:Go.Proofs.SlLaysZI.n6 Tryz.prog Tryz.isorted100_ren:={
 mixed:=by kernel_rfl
 f6:=⟨Tryz.f100.name,by decide,Tryz.func100.trans (congrArg some (by kernel_rfl))⟩
 f8:=⟨Tryz.f145.name,by decide,Tryz.func145.trans (congrArg some (by kernel_rfl))⟩
 f11:=⟨Tryz.f173.name,by decide,Tryz.func173.trans (congrArg some (by kernel_rfl))⟩
 t0:=Tryz.underlying0
 a0:=Tryz.isAgg0
 z0:=Tryz.sizeOf0
 v0:=Tryz.zeroValue0
 t24:=Tryz.underlying97
 a24:=Tryz.isAgg97
 z24:=Tryz.sizeOf97
 v24:=Tryz.zeroValue97
 t26:=Tryz.underlying3
 a26:=Tryz.isAgg3
 z26:=Tryz.sizeOf3
 v26:=Tryz.zeroValue3
 t28:=Tryz.underlying178
 a28:=Tryz.isAgg178
 z28:=Tryz.sizeOf178
 v28:=Tryz.zeroValue178
 i26:=by kernel_rfl}
def Tryz.isort146_ren:Go.Shelf.Ren:=⟨fun|5=>146|8=>91|7=>174|19=>142|20=>143|10=>193|11=>194|12=>195|13=>196|14=>197|15=>198|16=>199|17=>200|18=>201|30=>222|31=>168|32=>169|33=>223|34=>224|35=>225|40=>251|n=>n,fun|23=>97|25=>3|3=>3|32=>169|22=>97|0=>0|44=>208|46=>198|4=>4|36=>202|35=>201|41=>151|5=>5|9=>9|53=>224|57=>228|63=>252|64=>253|n=>n,fun|n=>n⟩
theorem Tryz.isort146:Go.Proofs.SlLaysM.n5 Tryz.prog Tryz.isort146_ren:={
 mixed:=by kernel_rfl
 f5:=⟨Tryz.f146.name,by decide,Tryz.func146.trans (congrArg some (by kernel_rfl))⟩
 f7:=⟨Tryz.f174.name,by decide,Tryz.func174.trans (congrArg some (by kernel_rfl))⟩
 f8:=Tryz.func91.trans (congrArg some (by kernel_rfl))
 f10:=⟨Tryz.f193.name,by decide,Tryz.func193.trans (congrArg some (by kernel_rfl))⟩
 f11:=⟨Tryz.f194.name,by decide,Tryz.func194.trans (congrArg some (by kernel_rfl))⟩
 f12:=⟨Tryz.f195.name,by decide,Tryz.func195.trans (congrArg some (by kernel_rfl))⟩
 f13:=⟨Tryz.f196.name,by decide,Tryz.func196.trans (congrArg some (by kernel_rfl))⟩
 f14:=⟨Tryz.f197.name,by decide,Tryz.func197.trans (congrArg some (by kernel_rfl))⟩
 f15:=⟨Tryz.f198.name,by decide,Tryz.func198.trans (congrArg some (by kernel_rfl))⟩
 f16:=⟨Tryz.f199.name,by decide,Tryz.func199.trans (congrArg some (by kernel_rfl))⟩
 f17:=⟨Tryz.f200.name,by decide,Tryz.func200.trans (congrArg some (by kernel_rfl))⟩
 f18:=⟨Tryz.f201.name,by decide,Tryz.func201.trans (congrArg some (by kernel_rfl))⟩
 f19:=Tryz.func142.trans (congrArg some (by kernel_rfl))
 f20:=Tryz.func143.trans (congrArg some (by kernel_rfl))
 f30:=⟨Tryz.f222.name,by decide,Tryz.func222.trans (congrArg some (by kernel_rfl))⟩
 f31:=Tryz.func168.trans (congrArg some (by kernel_rfl))
 f32:=Tryz.func169.trans (congrArg some (by kernel_rfl))
 f33:=⟨Tryz.f223.name,by decide,Tryz.func223.trans (congrArg some (by kernel_rfl))⟩
 f34:=⟨Tryz.f224.name,by decide,Tryz.func224.trans (congrArg some (by kernel_rfl))⟩
 f35:=⟨Tryz.f225.name,by decide,Tryz.func225.trans (congrArg some (by kernel_rfl))⟩
 f40:=⟨Tryz.f251.name,by decide,Tryz.func251.trans (congrArg some (by kernel_rfl))⟩
 t0:=Tryz.underlying0
 a0:=Tryz.isAgg0
 z0:=Tryz.sizeOf0
 v0:=Tryz.zeroValue0
 t3:=Tryz.underlying3
 a3:=Tryz.isAgg3
 z3:=Tryz.sizeOf3
 v3:=Tryz.zeroValue3
 t4:=Tryz.underlying4
 a4:=Tryz.isAgg4
 z4:=Tryz.sizeOf4
 v4:=Tryz.zeroValue4
 t5:=Tryz.underlying5
 a5:=Tryz.isAgg5
 z5:=Tryz.sizeOf5
 v5:=Tryz.zeroValue5
 t9:=Tryz.underlying9
 a9:=Tryz.isAgg9
 z9:=Tryz.sizeOf9
 v9:=Tryz.zeroValue9
 t22:=Tryz.underlying97
 a22:=Tryz.isAgg97
 z22:=Tryz.sizeOf97
 v22:=Tryz.zeroValue97
 t23:=Tryz.underlying97
 a23:=Tryz.isAgg97
 z23:=Tryz.sizeOf97
 v23:=Tryz.zeroValue97
 t25:=Tryz.underlying3
 a25:=Tryz.isAgg3
 z25:=Tryz.sizeOf3
 v25:=Tryz.zeroValue3
 t32:=Tryz.underlying169
 a32:=Tryz.isAgg169
 z32:=Tryz.sizeOf169
 v32:=Tryz.zeroValue169
 t35:=Tryz.underlying201
 a35:=Tryz.isAgg201
 z35:=Tryz.sizeOf201
 v35:=Tryz.zeroValue201
 t36:=Tryz.underlying202
 a36:=Tryz.isAgg202
 z36:=Tryz.sizeOf202
 v36:=Tryz.zeroValue202
 t41:=Tryz.underlying151
 a41:=Tryz.isAgg151
 z41:=Tryz.sizeOf151
 v41:=Tryz.zeroValue151
 t44:=Tryz.underlying208
 a44:=Tryz.isAgg208
 z44:=Tryz.sizeOf208
 v44:=Tryz.zeroValue208
 t46:=Tryz.underlying198
 a46:=Tryz.isAgg198
 z46:=Tryz.sizeOf198
 v46:=Tryz.zeroValue198
 t53:=Tryz.underlying224
 a53:=Tryz.isAgg224
 z53:=Tryz.sizeOf224
 v53:=Tryz.zeroValue224
 t57:=Tryz.underlying228
 a57:=Tryz.isAgg228
 z57:=Tryz.sizeOf228
 v57:=Tryz.zeroValue228
 t63:=Tryz.underlying252
 a63:=Tryz.isAgg252
 z63:=Tryz.sizeOf252
 v63:=Tryz.zeroValue252
 t64:=Tryz.underlying253
 a64:=Tryz.isAgg253
 z64:=Tryz.sizeOf253
 v64:=Tryz.zeroValue253}
def Tryz.ikeys101_ren:Go.Shelf.Ren:=⟨fun|7=>101|10=>147|n=>n,fun|23=>129|26=>3|3=>26|28=>178|0=>0|27=>177|33=>212|4=>4|n=>n,fun|n=>n⟩
theorem Tryz.ikeys101:Go.Proofs.SlLaysZI.n7 Tryz.prog Tryz.ikeys101_ren:={
 mixed:=by kernel_rfl
 f7:=⟨Tryz.f101.name,by decide,Tryz.func101.trans (congrArg some (by kernel_rfl))⟩
 f10:=⟨Tryz.f147.name,by decide,Tryz.func147.trans (congrArg some (by kernel_rfl))⟩
 t0:=Tryz.underlying0
 a0:=Tryz.isAgg0
 z0:=Tryz.sizeOf0
 v0:=Tryz.zeroValue0
 t4:=Tryz.underlying4
 a4:=Tryz.isAgg4
 z4:=Tryz.sizeOf4
 v4:=Tryz.zeroValue4
 t23:=Tryz.underlying129
 a23:=Tryz.isAgg129
 z23:=Tryz.sizeOf129
 v23:=Tryz.zeroValue129
 t26:=Tryz.underlying3
 a26:=Tryz.isAgg3
 z26:=Tryz.sizeOf3
 v26:=Tryz.zeroValue3
 t27:=Tryz.underlying177
 a27:=Tryz.isAgg177
 z27:=Tryz.sizeOf177
 v27:=Tryz.zeroValue177
 t28:=Tryz.underlying178
 a28:=Tryz.isAgg178
 z28:=Tryz.sizeOf178
 v28:=Tryz.zeroValue178
 t33:=Tryz.underlying212
 a33:=Tryz.isAgg212
 z33:=Tryz.sizeOf212
 v33:=Tryz.zeroValue212}
open Go.RowKit Go.Maps Go.Sort in
theorem Tryz.isorts101 (m:Nat):AnyZI.SortsIn Tryz.prog Tryz.isorted100_ren Fence.wide m:=
 ⟨fun blk off cap ss W hH hblk hsz=>callsIn_wide.2 (AnyM.slices_Sort_int Tryz.isort146 blk off cap ss W hH hblk hsz),
  fun p cap W=>callsIn_wide.2 (AnyM.slices_Sort_int_none Tryz.isort146 p cap W)⟩
open Go.RowKit Go.Maps Go.Sort in
theorem Tryz.maps_Keys_101 (mb:Option Nat) (W:World):Calls Tryz.prog 101 #[.map mb] W fun e w'=>e= .returned (.func (.func 147) #[] #[.pointer (some ⟨W.heap.size,0,none⟩)])/\w'=W.alloc (.cells #[.map mb] 129):=
 (callsIn_wide (n:=5)).1 (AnyZI.keys_in Tryz.ikeys101 Fence.wide 5 trivial rfl mb W)
open Go.RowKit Go.Maps Go.Sort in
theorem Tryz.slices_Sorted_101 {H:Type} (b nn:Nat) (D0:DataW H) (R:Value->Option (DataW H×List MemPlace)) (w:World) (hown:w.ownsMap Tryz.prog 3 R b nn D0) (hmax:Maps.size D0<=maxLen) (hbytes:Maps.size D0*8<=140737488355328):
 Calls Tryz.prog 100 #[.func (.func 147) #[] #[.pointer (some ⟨w.heap.size,0,none⟩)]] (w.alloc (.cells #[.map (some b)] 129)) fun e w'=>∃(v:Value) (ss:List Int),e= .returned v/\ss.Perm (intKeys D0)/\
  w'.ownsRow (w.alloc (.cells #[.map (some b)] 129)).heap.size 3 1 v ss.length ((ss.mergeSort (fun x y=>decide (x<=y))).map encZ)/\(v= .slice none 0 0↔ss=[])/\Below (w.alloc (.cells #[.map (some b)] 129)).heap.size (w.alloc (.cells #[.map (some b)] 129)) w':=by
 have hbl:=hown.lt
 have hseq:SeqGives Fence.wide 2 Tryz.prog 147 #[.pointer (some ⟨w.heap.size,0,none⟩)] encZ (fun ss=>ss.Perm (intKeys D0)) (Maps.size D0) (w.alloc (.cells #[.map (some b)] 129)):=
  AnyZI.keys_gives (ρ:=Tryz.ikeys101_ren) {Tryz.ikeys101 with} Fence.wide _ trivial rfl (by omega) w.heap.size b nn D0 _ (by simp) (by simp) (by
   obtain ⟨es,clock,hb,Ft,hs,hD⟩:=hown
   exact ⟨es,clock,(Below.heap_alloc _ _ b hbl).trans hb,Ft,hs,hD⟩)
 exact (callsIn_wide (n:=5)).1 (AnyZI.sorted_in Tryz.isorted100 Fence.wide 5 trivial trivial trivial trivial rfl (by omega) (Tryz.isorts101 _) (enters_of Tryz.func146 (by kernel_rfl) rfl) 147 #[.pointer (some ⟨w.heap.size,0,none⟩)] trivial (enters_of Tryz.func147 (by kernel_rfl) rfl) _ _ hmax hbytes _ hseq)
end Go.Proofs
