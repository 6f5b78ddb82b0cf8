/- Lemmas. -/
import Derived.Test.YtaenebdppkjhoaaGreatDoorZg21
import Derived.Test.YtaenebdppkjhoaaGreatDoorZg17
namespace Go.Proofs.YtaenebdppkjhoaaGreatDoor
set_option maxRecDepth 20000
set_option maxHeartbeats 40000000
section
open Go.RowKit
def Ru.rightB (r:Ru):Bool:=
 if r.kind=4 then decide (0<=r.at_) else
 if r.kind<0\/4<r.kind\/r.tenant<0\/4<=r.tenant\/n4 r.who=false then false else
 if r.kind=0 then decide (0<=r.broker)&&decide (r.broker<6) else
 if r.kind=3 then n4 r.name&&s5 r.sc else j5 r.sc r.cs
theorem a81 (r:Ru) (w:World) (h:r.ok w):Calls Tryz.prog 84 #[.agg r.cells.toArray] w fun e w'=>e= .returned (.bool r.rightB)/\Mod (fun _=>False) w w':=by
 obtain ⟨wa,hwa,hmwa,hgwa,hzwa⟩:=e8 w (.cells r.cells.toArray 35);have c0:wa.cell? ⟨w.heap.size,0,none⟩=some (.int .i64 r.kind):=d6 hgwa rfl;have c1:wa.cell? ⟨w.heap.size,1,none⟩=some (.int .i64 r.tenant):=d6 hgwa rfl;have c2:wa.cell? ⟨w.heap.size,2,none⟩=some (.string r.who):=d6 hgwa rfl;have c3:wa.cell? ⟨w.heap.size,3,none⟩=some (.int .i64 r.broker):=d6 hgwa rfl;have c4:wa.cell? ⟨w.heap.size,4,none⟩=some (.string r.sc):=d6 hgwa rfl;have c5:wa.cell? ⟨w.heap.size,5,none⟩=some (.slice r.ca r.cs.length r.cc):=d6 hgwa rfl;have c6:wa.cell? ⟨w.heap.size,6,none⟩=some (.string r.name):=d6 hgwa rfl;have c7:wa.cell? ⟨w.heap.size,7,none⟩=some (.int .i64 r.at_):=d6 hgwa rfl;have hnw:=a1i r.who (by have:=h.who;omega) wa;have hnn:=a1i r.name (by have:=h.name;omega) wa;have hsr:=M2 r.sc (by have:=h.sc;omega) wa;have hfr:=D6 wa r.sc r.cv r.cs (h.rd.mod hmwa (fun _ _ h=>h)) (by have:=h.len;omega) (by have:=h.sc;omega) (fun c hc=>by have:=(h.cname c hc).1;omega);have hRd:r.rightB=r.rightB:=rfl
 conv at hRd=>rhs;unfold Ru.rightB
 obtain ⟨R,hR⟩:∃R,r.rightB=R:=⟨_,rfl⟩;rw [hR] at hRd⊢;obtain ⟨Hwa,Hmwa,Hnw,Hnn,Hsr,Hfr,HRd⟩:=zh7 hwa hmwa hnw hnn hsr hfr hRd;clear hwa hmwa hnw hnn hsr hfr hRd hgwa hzwa h hR
 cases hk4:r.kind==4 with
 |true=>
  have e:R=decide (0<=r.at_):=by rw [HRd.out,if_pos (beq_iff_eq.1 hk4)]
  rw [e]
  go_enter Tryz.func84,Tryz.ntmps84
  go_wp2_with (first|(rw [show w.alloc _=wa from Hwa.out])|fail)
  go_ret;exact ⟨rfl,Hmwa.out⟩
 |false=>
 have hk4':¬r.kind=4:=by simpa using hk4
 have e4:R=_:=HRd.out.trans (if_neg hk4');have E4:=zh e4;clear e4 hk4';by_cases h1:r.kind<0
 ·have e:R=false:=by rw [E4.out,if_pos (.inl h1)]
  rw [e]
  go_enter Tryz.func84,Tryz.ntmps84
  go_wp2_with (first|(rw [show w.alloc _=wa from Hwa.out])|fail)
  go_ret;exact ⟨rfl,Hmwa.out⟩
 by_cases h2:4<r.kind
 ·have e:R=false:=by rw [E4.out,if_pos (.inr (.inl h2))]
  rw [e]
  go_enter Tryz.func84,Tryz.ntmps84
  go_wp2_with (first|(rw [show w.alloc _=wa from Hwa.out])|fail)
  go_ret;exact ⟨rfl,Hmwa.out⟩
 by_cases h3:r.tenant<0
 ·have e:R=false:=by rw [E4.out,if_pos (.inr (.inr (.inl h3)))]
  rw [e]
  go_enter Tryz.func84,Tryz.ntmps84
  go_wp2_with (first|(rw [show w.alloc _=wa from Hwa.out])|fail)
  go_ret;exact ⟨rfl,Hmwa.out⟩
 by_cases h4:4<=r.tenant
 ·have e:R=false:=by rw [E4.out,if_pos (.inr (.inr (.inr (.inl h4))))]
  rw [e]
  go_enter Tryz.func84,Tryz.ntmps84
  go_wp2_with (first|(rw [show w.alloc _=wa from Hwa.out])|fail)
  go_ret;exact ⟨rfl,Hmwa.out⟩
 have h1':0<=r.kind:=by omega
 have h2':r.kind<=4:=by omega
 have h3':0<=r.tenant:=by omega
 have h4':r.tenant<4:=by omega
 cases hn:n4 r.who with
 |false=>
  have e:R=false:=by rw [E4.out,if_pos (.inr (.inr (.inr (.inr hn))))]
  rw [e];rw [hn] at Hnw;clear hn h1 h2 h3 h4 e
  go_enter Tryz.func84,Tryz.ntmps84
  go_wp2_with (first|(rw [show w.alloc _=wa from Hwa.out])|fail)
  refine Hnw.out.mono ?_;rintro e w' ⟨rfl,rfl⟩
  go_wp2
  go_ret;exact ⟨rfl,Hmwa.out⟩
 |true=>
 have hno:¬(r.kind<0\/4<r.kind\/r.tenant<0\/4<=r.tenant\/n4 r.who=false):=by
  rintro (h|h|h|h|h)
  ·exact h1 h
  ·exact h2 h
  ·exact h3 h
  ·exact h4 h
  rw [hn] at h;cases h
 have e5:R=_:=E4.out.trans (if_neg hno);rw [hn] at Hnw;have E5:=zh e5;clear hn e5 hno h1 h2 h3 h4
 cases hk0:r.kind==0 with
 | true=>
  have e:R=(decide (0<=r.broker)&&decide (r.broker<6)):=by rw [E5.out,if_pos (beq_iff_eq.1 hk0)]
  rw [e];clear e;by_cases hb:0<=r.broker
  ·rw [decide_eq_true hb,Bool.true_and]
   go_enter Tryz.func84,Tryz.ntmps84
   go_wp2_with (first|(rw [show w.alloc _=wa from Hwa.out])|fail)
   refine Hnw.out.mono ?_;rintro e w' ⟨rfl,rfl⟩
   go_wp2
   go_ret;exact ⟨rfl,Hmwa.out⟩
  ·have hb':r.broker<0:=by omega
   rw [decide_eq_false hb,Bool.false_and];clear hb
   go_enter Tryz.func84,Tryz.ntmps84
   go_wp2_with (first|(rw [show w.alloc _=wa from Hwa.out])|fail)
   refine Hnw.out.mono ?_;rintro e w' ⟨rfl,rfl⟩
   go_wp2
   go_ret;exact ⟨rfl,Hmwa.out⟩
 |false=>
 have hk0':¬r.kind=0:=by simpa using hk0
 have e6:R=_:=E5.out.trans (if_neg hk0');have E6:=zh e6;clear e6 hk0'
 cases hk3:r.kind==3 with
 | true=>
  have e:R=(n4 r.name&&s5 r.sc):=by rw [E6.out,if_pos (beq_iff_eq.1 hk3)]
  rw [e];clear e
  cases hn:n4 r.name with
  |false=>
   rw [hn] at Hnn;rw [Bool.false_and];clear hn
   go_enter Tryz.func84,Tryz.ntmps84
   go_wp2_with (first|(rw [show w.alloc _=wa from Hwa.out])|fail)
   refine Hnw.out.mono ?_;rintro e w' ⟨rfl,rfl⟩
   go_wp2_with fail
   refine Hnn.out.mono ?_;rintro e w' ⟨rfl,rfl⟩
   go_wp2
   go_ret;exact ⟨rfl,Hmwa.out⟩
  |true=>
   rw [hn] at Hnn;rw [Bool.true_and];clear hn
   go_enter Tryz.func84,Tryz.ntmps84
   go_wp2_with (first|(rw [show w.alloc _=wa from Hwa.out])|fail)
   refine Hnw.out.mono ?_;rintro e w' ⟨rfl,rfl⟩
   go_wp2_with fail
   refine Hnn.out.mono ?_;rintro e w' ⟨rfl,rfl⟩
   go_wp2_with fail
   refine Hsr.out.mono ?_;rintro e w2 ⟨rfl,hm2⟩;have Hm2:=Lib.hid (Hmwa.out.trans hm2 (fun _ _ h=>h));clear hm2
   go_wp2
   go_ret;exact ⟨rfl,Hm2.out⟩
 |false=>
  have hk3':¬r.kind=3:=by simpa using hk3
  have e:R=j5 r.sc r.cs:=by rw [E6.out,if_neg hk3']
  rw [e];clear e hk3'
  go_enter Tryz.func84,Tryz.ntmps84
  go_wp2_with (first|(rw [show w.alloc _=wa from Hwa.out])|fail)
  refine Hnw.out.mono ?_;rintro e w' ⟨rfl,rfl⟩
  go_wp2_with fail
  refine Hfr.out.mono ?_;rintro e w2 ⟨rfl,hm2⟩;have Hm2:=Lib.hid (Hmwa.out.trans hm2 (fun _ _ h=>h));clear hm2
  go_wp2
  go_ret;exact ⟨rfl,Hm2.out⟩
theorem a12 {α:Type} (p:α->Bool) {l:List α} {j:Nat} {x:α} (h:l[j]? =some x):(l.take (j+1)).filter p=(l.take j).filter p++(if p x=true then [x] else []):=by
 rw [List.take_add_one,List.filter_append,h];congr 1;simp only [Option.toList,List.filter_cons,List.filter_nil]
theorem a8f (n:Int) (k:Nat) (hk:k<63):bits .and .i64 n ((2^k - 1:Nat):Int)=n%((2^k:Nat):Int):=by
 have hp:2^k<2^63:=Nat.pow_lt_pow_right (by decide) hk;have hp0:0<2^k:=Nat.two_pow_pos k
 have h127:(BitVec.ofInt 64 ((2^k - 1:Nat):Int)).toNat=2^k - 1:=by
  rw [BitVec.toNat_ofInt];omega
 have key:(BitVec.ofInt 64 n&&&BitVec.ofInt 64 ((2^k - 1:Nat):Int)).toNat=(n%((2^64:Nat):Int)).toNat%2^k:=by
  rw [BitVec.toNat_and,BitVec.toNat_ofInt,h127,Nat.and_two_pow_sub_one_eq_mod]
 show IntKind.i64.wrap ((BitVec.ofInt 64 n&&&BitVec.ofInt 64 ((2^k - 1:Nat):Int)).toNat:Nat)=n%((2^k:Nat):Int);rw [key,IntKind.wrap_i64];have h1:(n%((2^64:Nat):Int)).toNat%2^k<2^k:=Nat.mod_lt _ hp0
 have h2:(((n%((2^64:Nat):Int)).toNat%2^k:Nat):Int)=n%((2^k:Nat):Int):=by
  rw [Int.natCast_emod,Int.toNat_of_nonneg (Int.emod_nonneg _ (by decide))];exact Int.emod_emod_of_dvd n (by exact_mod_cast Nat.pow_dvd_pow 2 (by omega))
 rw [<-h2]
 generalize (n%((2^64:Nat):Int)).toNat%2^k=q at*
 omega
theorem b5B (n:Int):∃t:Nat,bits .and .i64 n 1=t/\t<2:=⟨(n%2).toNat,by
 have:=a8f n 1 (by decide);have e:bits .and .i64 n 1=n%2:=this;rw [e]
 omega,by omega⟩
theorem b5i (n:Int):∃t:Nat,bits .and .i64 n 3=t/\t<4:=⟨(n%4).toNat,by
 have:=a8f n 2 (by decide);have e:bits .and .i64 n 3=n%4:=this;rw [e]
 omega,by omega⟩
def b0O (gs:ByteArray) (m:List Cnd) (r:Ru):Bool:=m.any Cnd.voidB||(r.cs.all (fun c=>m.any fun d=>a2g d c)&&s6 gs r.sc)
def b0P (l:List Ru):Prop:=∀r∈l,∀c∈r.cs,c.v.num<2^64
theorem b0P.filter {l:List Ru} {p:Ru->Bool} (h:b0P l):b0P (l.filter p):=fun r hr=>h r (List.mem_filter.1 hr).1
theorem a3Y (w:World) (r:Ru) (hr:r.ok w) (hrn:∀c∈r.cs,c.v.num<2^64) (gs:ByteArray) (gv:Value) (m:List Cnd) (hg:j0 w 7 gv m.length (l6 m)) (hml:m.length<=9223372036854775807) (hgs:gs.size<=9223372036854775807)
 (hm:∀d∈m,d.v.text.size<=9223372036854775807/\d.v.num<2^64):
 Calls Tryz.prog 99 #[.agg #[.string r.sc,r.cv],.agg #[.string gs,gv]] w fun e w'=>e= .returned (.bool (b0O gs m r))/\Mod (fun _=>False) w w':=
 a10 a2g w r.sc r.cv r.cs hr.rd hr.len hr.sc gs gv m hg hml hgs (fun d hd c hc wx _=>U8 d c (hm d hd).1 (hr.cname c hc).2 (hm d hd).2 (hrn c hc) wx)
end
section
open Go.ChangeShapes Go.WideShapes Go.ChangeAt Go.RowKit
section
variable {H:Type} {enc:TypeId×Value->H} {W:World}
theorem a82 {w:World} {a:Addr} {v:Value} (h:w.cell? a=some v):a.spot=none:=by
 unfold World.cell? at h;split at h
 ·split at h
  ·cases h
  rename_i hs;simpa using hs
 ·cases h
end
theorem a83 {n:Nat} (h:n<=maxLen):n<=9223372036854775807:=by simp only [maxLen] at h;omega
end
section
open Go.ChangeShapes Go.WideShapes Go.ChangeAt Go.RowKit
section
variable {H:Type} {enc:TypeId×Value->H} {W:World}
theorem Y5 {e:TypeId}:∀{l:List (DataW H)} {d:DataW H} {n:Nat},d∈l->n∈DataW.weights Tryz.prog e d->n∈DataW.weightsAll Tryz.prog e l
 |a::l,d,n,hd,hn=>by
  unfold DataW.weightsAll;rcases List.mem_cons.1 hd with rfl|hd
  ·exact List.mem_append_left _ hn
  exact List.mem_append_right _ (Y5 hd hn)
theorem B5:∀{ts:List TypeId} {l:List (DataW H)} {i:Nat} {t:TypeId} {d:DataW H} {n:Nat},ts[i]? =some t->l[i]? =some d->n∈DataW.weights Tryz.prog t d->n∈DataW.weightsEach Tryz.prog ts l
 |[],_,_,_,_,_,h,_,_=>by simp at h
 |_::_,[],_,_,_,_,_,h,_=>by simp at h
 |a::ts,b::l,0,t,d,n,h1,h2,hn=>by
  unfold DataW.weightsEach;simp only [List.getElem?_cons_zero,Option.some.injEq] at h1 h2;subst h1 h2;exact List.mem_append_left _ hn
 |a::ts,b::l,i+1,t,d,n,h1,h2,hn=>by
  unfold DataW.weightsEach;rw [List.getElem?_cons_succ] at h1 h2;exact List.mem_append_right _ (B5 h1 h2 hn)
theorem o4 {ty:TypeId} {fs:Array Field} (ht:Tryz.prog.underlying ty=some (.struct fs)) {l:List (DataW H)} {i:Nat} {t:TypeId} {d:DataW H} {n:Nat} (h1:(fs.toList.map (·.type))[i]? =some t) (h2:l[i]? =some d) (hn:n∈DataW.weights Tryz.prog t d):
 n∈DataW.weights Tryz.prog ty (.agg l:DataW H):=by
 unfold DataW.weights;rw [ht];exact B5 h1 h2 hn
theorem a4H {ty e:TypeId} (ht:Tryz.prog.underlying ty=some (.slice e)) {l r:List (DataW H)} {d:DataW H} {n:Nat} (hd:d∈l) (hn:n∈DataW.weights Tryz.prog e d):n∈DataW.weights Tryz.prog ty (.slice l r:DataW H):=by
 unfold DataW.weights;rw [ht];exact List.mem_cons_of_mem _ (List.mem_append_left _ (Y5 hd hn))
theorem a0f {α:Type} {t e:TypeId} {sz:Nat} (cells:α->List Value) (hlen:∀x,(cells x).length=sz) (hsz:0<sz) (ht:Tryz.prog.underlying t=some (.slice e)) (he:Tryz.prog.cellsOf e=sz) (x0:α) (p:α->Prop)
 (hone:∀(fuel:Nat) (cs:List Value) (y:DataW H×List MemPlace),DataW.trod enc Tryz.prog W 0 (fun _=>true) true fuel e cs=some y->(∀n∈DataW.weights Tryz.prog e y.1,n<=reachBytes)->∃x,cs=cells x/\p x)
 {fuel:Nat} {v:Value} {y:DataW H×List MemPlace} (h:DataW.trod enc Tryz.prog W 0 (fun _=>true) true fuel t [v]=some y) (hw:∀n∈DataW.weights Tryz.prog t y.1,n<=reachBytes):
 ∃l:List α,j0 W sz v l.length (l.flatMap cells)/\l.length<=maxLen/\∀x∈l,p x:=by
 rcases Go.Deep.open_slice ht h with ⟨hcs, -⟩|⟨a,len,cap',m',k,D,Pl,hcs, -,hlc,hcm,hmm,hyd,hcell⟩
 ·have hcs:v=Value.slice none 0 0:=by simpa using hcs
  subst hcs;exact ⟨[],⟨by simp,none,0,rfl,Nat.le_refl _,fun _=>rfl,fun b hb _=>(by cases hb)⟩,Nat.zero_le _,fun x hx=>(by cases hx)⟩
 have hcs:v=Value.slice (some a) len cap':=by simpa using hcs
 subst hcs;simp only [if_true] at hmm;subst hmm;rw [he] at hcell
 have hall:∀i,i<len->∃x:α,(∀q u,(cells x)[q]? =some u->W.cell? ((a.add (i*sz)).add q)=some u)/\p x:=fun i hi=>by
  obtain ⟨cs,h1,h2⟩:=hcell i (by omega);obtain ⟨x,rfl,h3⟩:=hone _ _ _ h2 (fun n hn=>hw n (by rw [hyd];exact a4H ht (List.mem_map.2 ⟨i,List.mem_range.2 hi,rfl⟩) hn));obtain ⟨-,h5,h6⟩:=World.cells?_some h1;refine ⟨x,fun q u hq=> ?_,h3⟩;have:=h6 q (by have:=(zz6 hq).1;rw [hlen] at this;exact this);rw [hq] at this;exact this
 obtain ⟨F,hF⟩:∃F:Nat->α,∀i,i<len->(∀q u,(cells (F i))[q]? =some u->W.cell? ((a.add (i*sz)).add q)=some u)/\p (F i):=
  ⟨fun i=>if h:i<len then (hall i h).choose else x0,fun i hi=>by simp only [dif_pos hi];exact (hall i hi).choose_spec⟩
 have hl:((List.range len).map F).length=len:=by simp
 have hfl:∀l:List α,(l.flatMap cells).length=l.length*sz:=fun l=>by
  induction l with
  |nil=>simp
  |cons b l ih=>rw [List.flatMap_cons,zz4,ih,hlen,zz9,Nat.add_mul];omega
 have hget:∀(l:List α) (j:Nat) (u:Value),(l.flatMap cells)[j]? =some u->∃x,l[j / sz]? =some x/\(cells x)[j%sz]? =some u:=fun l=>by
  induction l with
  |nil=>intro j u h;simp at h
  | cons b l ih=>
   intro j u h;rw [List.flatMap_cons] at h;rcases Nat.lt_or_ge j sz with hj|hj
   ·rw [List.getElem?_append_left (by rw [hlen];exact hj)] at h;exact ⟨b,by rw [Nat.div_eq_of_lt hj];rfl,by rw [Nat.mod_eq_of_lt hj];exact h⟩
   rw [List.getElem?_append_right (by rw [hlen];exact hj),hlen] at h;obtain ⟨x,h1,h2⟩:=ih _ _ h
   have e1:j / sz=(j - sz) / sz+1:=by
    rw [Nat.div_eq j sz,if_pos ⟨hsz,hj⟩]
   have e2:j%sz=(j - sz)%sz:=Nat.mod_eq_sub_mod hj;exact ⟨x,by rw [e1,List.getElem?_cons_succ];exact h1,by rw [e2];exact h2⟩
 refine ⟨(List.range len).map F,⟨by rw [hfl],some a,m',by rw [hl],by rw [hl];exact hlc,(fun h=>by cases h),fun b hb hn=> ?_⟩,by rw [hl];omega,fun x hx=> ?_⟩
 ·cases hb
  rw [hl] at hn
  have hsp:a.spot=none:=by
   have h0:=(hF 0 hn).1 0
   cases hc:(cells (F 0))[0]? with
   |none=>
    have:=List.getElem?_eq_none_iff.1 hc;rw [hlen] at this;omega
   |some u=>
    have:=h0 u hc;rw [Nat.zero_mul] at this;exact a82 this
  obtain ⟨g,off,spot⟩:=a;have hsp:spot=none:=hsp;subst hsp;refine ⟨g,off,rfl,fun j u hu=> ?_⟩;obtain ⟨x,hx1,hx2⟩:=hget _ _ _ hu;rw [List.getElem?_map] at hx1;by_cases hj:j / sz<len
  ·rw [List.getElem?_range hj] at hx1;simp only [Option.map_some,Option.some.injEq] at hx1;subst hx1;have:=(hF _ hj).1 _ _ hx2;rw [t7,t7] at this;have e:=Nat.div_add_mod j sz;rw [Nat.mul_comm] at e;rw [show off+j=off+j / sz*sz+j%sz by omega];exact this
  rw [List.getElem?_eq_none (by simpa using hj)] at hx1;cases hx1
 obtain ⟨i,hi,rfl⟩:=List.mem_map.1 hx;exact (hF i (List.mem_range.1 hi)).2
structure V.inn (v:V):Prop where
 int: -9223372036854775808<=v.int/\v.int<=9223372036854775807
 num:v.num<2^64
 text:v.text.size<=reachBytes
structure Cnd.inn (c:Cnd):Prop where
 name:c.name.size<=reachBytes
 v:c.v.inn
structure b0Q (W:World) (sc:ByteArray) (a:Option Addr) (cap:Nat) (cs:List Cnd):Prop where
 rd:j0 W 7 (.slice a cs.length cap) cs.length (l6 cs)
 sc:sc.size<=reachBytes
 len:cs.length<=maxLen
 cs:∀c∈cs,c.inn
structure Ru.inn (W:World) (r:Ru):Prop where
 who:r.who.size<=reachBytes
 name:r.name.size<=reachBytes
 fil:b0Q W r.sc r.ca r.cc r.cs
theorem a3Z {fuel:Nat} {cs:List Value} {x:DataW H×List MemPlace} (h:DataW.trod enc Tryz.prog W 0 (fun _=>true) true fuel 68 cs=some x) (hw:∀n∈DataW.weights Tryz.prog 68 x.1,n<=reachBytes):∃v:V,cs=v.cells/\v.inn:=by
 obtain ⟨xs,n1, -,hxd,hlen,hxs,hf⟩:=DataW.trod_struct Tryz.underlying68 h;rw [show Tryz.prog.cellsOf 68=5 by kernel_rfl] at hlen
 have hx:∀i,i<5->∃y,xs[i]? =some y:=fun i hi=>by
  simp at hxs;exact ⟨_,zz5 (by omega)⟩
 rw [hxd] at hw;have hw:∀n∈DataW.weights Tryz.prog 68 (.agg (xs.map (·.1)):DataW H),n<=reachBytes:=hw
 match cs,hlen with
 |[c0,c1,c2,c3,c4],_=>
  obtain ⟨y0,h0⟩:=hx 0 (by omega);have f0:DataW.trod enc Tryz.prog W 0 (fun _=>true) true n1 3 (([c0,c1,c2,c3,c4].drop 0).take (Tryz.prog.cellsOf 3))=xs[0]? :=hf 0 _ rfl;rw [h0,show Tryz.prog.cellsOf 3=1 by kernel_rfl] at f0;obtain ⟨z0,e0, -,w0⟩:=DataW.trod_int Tryz.underlying3 f0;have e0:[c0]=[.int .i64 z0]:=e0;have g0: -9223372036854775808<=z0/\z0<=9223372036854775807:=by simpa [Lit.wf,IntKind.min,IntKind.max,IntKind.signed,IntKind.bits] using w0
  obtain ⟨y1,h1⟩:=hx 1 (by omega);have f1:DataW.trod enc Tryz.prog W 0 (fun _=>true) true n1 2 (([c0,c1,c2,c3,c4].drop 1).take (Tryz.prog.cellsOf 2))=xs[1]? :=hf 1 _ rfl;rw [h1,show Tryz.prog.cellsOf 2=1 by kernel_rfl] at f1;obtain ⟨z1,e1, -,w1⟩:=DataW.trod_int Tryz.underlying2 f1;have e1:[c1]=[.int .i64 z1]:=e1;have g1: -9223372036854775808<=z1/\z1<=9223372036854775807:=by simpa [Lit.wf,IntKind.min,IntKind.max,IntKind.signed,IntKind.bits] using w1
  obtain ⟨y2,h2⟩:=hx 2 (by omega);have f2:DataW.trod enc Tryz.prog W 0 (fun _=>true) true n1 66 (([c0,c1,c2,c3,c4].drop 2).take (Tryz.prog.cellsOf 66))=xs[2]? :=hf 2 _ rfl;rw [h2,show Tryz.prog.cellsOf 66=1 by kernel_rfl] at f2;obtain ⟨z2,e2,w2⟩:=a97 Tryz.underlying66 f2;have e2:[c2]=[.float .f64 z2]:=e2;obtain ⟨y3,h3⟩:=hx 3 (by omega);have f3:DataW.trod enc Tryz.prog W 0 (fun _=>true) true n1 9 (([c0,c1,c2,c3,c4].drop 3).take (Tryz.prog.cellsOf 9))=xs[3]? :=hf 3 _ rfl;rw [h3,show Tryz.prog.cellsOf 9=1 by kernel_rfl] at f3;obtain ⟨z3,e3,u3, -⟩:=DataW.trod_string Tryz.underlying9 f3;have e3:[c3]=[.string z3]:=e3;have g3:z3.size<=reachBytes:=hw _ (o4 Tryz.underlying68 (i:=3) (t:=9) rfl (by rw [List.getElem?_map,h3];rfl) (by rw [u3];simp [DataW.weights]));obtain ⟨y4,h4⟩:=hx 4 (by omega);have f4:DataW.trod enc Tryz.prog W 0 (fun _=>true) true n1 4 (([c0,c1,c2,c3,c4].drop 4).take (Tryz.prog.cellsOf 4))=xs[4]? :=hf 4 _ rfl;rw [h4,show Tryz.prog.cellsOf 4=1 by kernel_rfl] at f4;obtain ⟨z4,e4, -⟩:=DataW.trod_bool Tryz.underlying4 f4;have e4:[c4]=[.bool z4]:=e4;cases e0
  cases e1
  cases e2
  cases e3
  cases e4
  exact ⟨⟨z0,z1,z2,z3,z4⟩,rfl,g1,w2,g3⟩
theorem a84 {fuel:Nat} {cs:List Value} {x:DataW H×List MemPlace} (h:DataW.trod enc Tryz.prog W 0 (fun _=>true) true fuel 132 cs=some x) (hw:∀n∈DataW.weights Tryz.prog 132 x.1,n<=reachBytes):∃c:Cnd,cs=c.cells/\c.inn:=by
 obtain ⟨xs,n1, -,hxd,hlen,hxs,hf⟩:=DataW.trod_struct Tryz.underlying132 h;rw [show Tryz.prog.cellsOf 132=7 by kernel_rfl] at hlen
 have hx:∀i,i<3->∃y,xs[i]? =some y:=fun i hi=>by
  simp at hxs;exact ⟨_,zz5 (by omega)⟩
 rw [hxd] at hw;have hw:∀n∈DataW.weights Tryz.prog 132 (.agg (xs.map (·.1)):DataW H),n<=reachBytes:=hw
 match cs,hlen with
 |[c0,c1,c2,c3,c4,c5,c6],_=>
  obtain ⟨y0,h0⟩:=hx 0 (by omega);have f0:DataW.trod enc Tryz.prog W 0 (fun _=>true) true n1 9 (([c0,c1,c2,c3,c4,c5,c6].drop 0).take (Tryz.prog.cellsOf 9))=xs[0]? :=hf 0 _ rfl;rw [h0,show Tryz.prog.cellsOf 9=1 by kernel_rfl] at f0;obtain ⟨z0,e0,u0, -⟩:=DataW.trod_string Tryz.underlying9 f0;have e0:[c0]=[.string z0]:=e0;have g0:z0.size<=reachBytes:=hw _ (o4 Tryz.underlying132 (i:=0) (t:=9) rfl (by rw [List.getElem?_map,h0];rfl) (by rw [u0];simp [DataW.weights]));obtain ⟨y1,h1⟩:=hx 1 (by omega);have f1:DataW.trod enc Tryz.prog W 0 (fun _=>true) true n1 3 (([c0,c1,c2,c3,c4,c5,c6].drop 1).take (Tryz.prog.cellsOf 3))=xs[1]? :=hf 1 _ rfl;rw [h1,show Tryz.prog.cellsOf 3=1 by kernel_rfl] at f1;obtain ⟨z1,e1, -,w1⟩:=DataW.trod_int Tryz.underlying3 f1;have e1:[c1]=[.int .i64 z1]:=e1;have g1: -9223372036854775808<=z1/\z1<=9223372036854775807:=by simpa [Lit.wf,IntKind.min,IntKind.max,IntKind.signed,IntKind.bits] using w1
  obtain ⟨y2,h2⟩:=hx 2 (by omega);have f2:DataW.trod enc Tryz.prog W 0 (fun _=>true) true n1 68 (([c0,c1,c2,c3,c4,c5,c6].drop 2).take (Tryz.prog.cellsOf 68))=xs[2]? :=hf 2 _ rfl;rw [h2,show Tryz.prog.cellsOf 68=5 by kernel_rfl] at f2;obtain ⟨z2,e2,g2⟩:=a3Z f2 (fun n hn=>hw n (o4 Tryz.underlying132 (i:=2) (t:=68) rfl (by rw [List.getElem?_map,h2];rfl) hn));have e2:[c2,c3,c4,c5,c6]=[.int .i64 z2.kind,.int .i64 z2.int,.float .f64 z2.num,.string z2.text,.bool z2.yes]:=e2;cases e0
  cases e1
  cases e2
  exact ⟨⟨z0,z1,z2⟩,rfl,g0,g2⟩
theorem a30 {fuel:Nat} {cs:List Value} {x:DataW H×List MemPlace} (h:DataW.trod enc Tryz.prog W 0 (fun _=>true) true fuel 33 cs=some x) (hw:∀n∈DataW.weights Tryz.prog 33 x.1,n<=reachBytes):∃(sc:ByteArray) (a:Option Addr) (cap:Nat) (l:List Cnd),cs=[.string sc,.slice a l.length cap]/\b0Q W sc a cap l:=by
 obtain ⟨xs,n1, -,hxd,hlen,hxs,hf⟩:=DataW.trod_struct Tryz.underlying33 h;rw [show Tryz.prog.cellsOf 33=2 by kernel_rfl] at hlen
 have hx:∀i,i<2->∃y,xs[i]? =some y:=fun i hi=>by
  simp at hxs;exact ⟨_,zz5 (by omega)⟩
 rw [hxd] at hw;have hw:∀n∈DataW.weights Tryz.prog 33 (.agg (xs.map (·.1)):DataW H),n<=reachBytes:=hw
 match cs,hlen with
 | [c0,c1],_=>
  obtain ⟨y0,h0⟩:=hx 0 (by omega);have f0:DataW.trod enc Tryz.prog W 0 (fun _=>true) true n1 9 (([c0,c1].drop 0).take (Tryz.prog.cellsOf 9))=xs[0]? :=hf 0 _ rfl;rw [h0,show Tryz.prog.cellsOf 9=1 by kernel_rfl] at f0;obtain ⟨z0,e0,u0, -⟩:=DataW.trod_string Tryz.underlying9 f0;have e0:[c0]=[.string z0]:=e0;have g0:z0.size<=reachBytes:=hw _ (o4 Tryz.underlying33 (i:=0) (t:=9) rfl (by rw [List.getElem?_map,h0];rfl) (by rw [u0];simp [DataW.weights]));obtain ⟨y1,h1⟩:=hx 1 (by omega);have f1:DataW.trod enc Tryz.prog W 0 (fun _=>true) true n1 31 (([c0,c1].drop 1).take (Tryz.prog.cellsOf 31))=xs[1]? :=hf 1 _ rfl;rw [h1,show Tryz.prog.cellsOf 31=1 by kernel_rfl] at f1;have f1:DataW.trod enc Tryz.prog W 0 (fun _=>true) true n1 31 [c1]=some y1:=f1;obtain ⟨l1,k1,m1,p1⟩:=a0f (W:=W) (v:=c1) (sz:=7) Cnd.cells Cnd.cells_length (by decide) Tryz.underlying31 (by kernel_rfl) ⟨⟨#[]⟩,0,V.zero⟩ Cnd.inn (fun _ _ _ h hw=>a84 h hw) f1 (fun n hn=>hw n (o4 Tryz.underlying33 (i:=1) (t:=31) rfl (by rw [List.getElem?_map,h1];rfl) hn))
  obtain ⟨a1,cap1,rfl⟩:∃A cap,c1= .slice A l1.length cap:=by
   obtain ⟨-,a',c',k5, -⟩:=k1;exact ⟨a',c',k5⟩
  cases e0
  exact ⟨z0,a1,cap1,l1,rfl,k1,g0,m1,p1⟩
theorem a6T {fuel:Nat} {cs:List Value} {x:DataW H×List MemPlace} (h:DataW.trod enc Tryz.prog W 0 (fun _=>true) true fuel 35 cs=some x) (hw:∀n∈DataW.weights Tryz.prog 35 x.1,n<=reachBytes):∃r:Ru,cs=r.cells/\r.inn W:=by
 obtain ⟨xs,n1, -,hxd,hlen,hxs,hf⟩:=DataW.trod_struct Tryz.underlying35 h;rw [show Tryz.prog.cellsOf 35=8 by kernel_rfl] at hlen
 have hx:∀i,i<7->∃y,xs[i]? =some y:=fun i hi=>by
  simp at hxs;exact ⟨_,zz5 (by omega)⟩
 rw [hxd] at hw;have hw:∀n∈DataW.weights Tryz.prog 35 (.agg (xs.map (·.1)):DataW H),n<=reachBytes:=hw
 match cs,hlen with
 |[c0,c1,c2,c3,c4,c5,c6,c7],_=>
  obtain ⟨y0,h0⟩:=hx 0 (by omega);have f0:DataW.trod enc Tryz.prog W 0 (fun _=>true) true n1 3 (([c0,c1,c2,c3,c4,c5,c6,c7].drop 0).take (Tryz.prog.cellsOf 3))=xs[0]? :=hf 0 _ rfl;rw [h0,show Tryz.prog.cellsOf 3=1 by kernel_rfl] at f0;obtain ⟨z0,e0, -,w0⟩:=DataW.trod_int Tryz.underlying3 f0;have e0:[c0]=[.int .i64 z0]:=e0;have g0: -9223372036854775808<=z0/\z0<=9223372036854775807:=by simpa [Lit.wf,IntKind.min,IntKind.max,IntKind.signed,IntKind.bits] using w0
  obtain ⟨y1,h1⟩:=hx 1 (by omega);have f1:DataW.trod enc Tryz.prog W 0 (fun _=>true) true n1 3 (([c0,c1,c2,c3,c4,c5,c6,c7].drop 1).take (Tryz.prog.cellsOf 3))=xs[1]? :=hf 1 _ rfl;rw [h1,show Tryz.prog.cellsOf 3=1 by kernel_rfl] at f1;obtain ⟨z1,e1, -,w1⟩:=DataW.trod_int Tryz.underlying3 f1;have e1:[c1]=[.int .i64 z1]:=e1;have g1: -9223372036854775808<=z1/\z1<=9223372036854775807:=by simpa [Lit.wf,IntKind.min,IntKind.max,IntKind.signed,IntKind.bits] using w1
  obtain ⟨y2,h2⟩:=hx 2 (by omega);have f2:DataW.trod enc Tryz.prog W 0 (fun _=>true) true n1 9 (([c0,c1,c2,c3,c4,c5,c6,c7].drop 2).take (Tryz.prog.cellsOf 9))=xs[2]? :=hf 2 _ rfl;rw [h2,show Tryz.prog.cellsOf 9=1 by kernel_rfl] at f2;obtain ⟨z2,e2,u2, -⟩:=DataW.trod_string Tryz.underlying9 f2;have e2:[c2]=[.string z2]:=e2;have g2:z2.size<=reachBytes:=hw _ (o4 Tryz.underlying35 (i:=2) (t:=9) rfl (by rw [List.getElem?_map,h2];rfl) (by rw [u2];simp [DataW.weights]));obtain ⟨y3,h3⟩:=hx 3 (by omega);have f3:DataW.trod enc Tryz.prog W 0 (fun _=>true) true n1 3 (([c0,c1,c2,c3,c4,c5,c6,c7].drop 3).take (Tryz.prog.cellsOf 3))=xs[3]? :=hf 3 _ rfl;rw [h3,show Tryz.prog.cellsOf 3=1 by kernel_rfl] at f3;obtain ⟨z3,e3, -,w3⟩:=DataW.trod_int Tryz.underlying3 f3;have e3:[c3]=[.int .i64 z3]:=e3;have g3: -9223372036854775808<=z3/\z3<=9223372036854775807:=by simpa [Lit.wf,IntKind.min,IntKind.max,IntKind.signed,IntKind.bits] using w3
  obtain ⟨y4,h4⟩:=hx 4 (by omega);have f4:DataW.trod enc Tryz.prog W 0 (fun _=>true) true n1 33 (([c0,c1,c2,c3,c4,c5,c6,c7].drop 4).take (Tryz.prog.cellsOf 33))=xs[4]? :=hf 4 _ rfl;rw [h4,show Tryz.prog.cellsOf 33=2 by kernel_rfl] at f4;obtain ⟨s4,a4,k4,l4,e4,g4⟩:=a30 f4 (fun n hn=>hw n (o4 Tryz.underlying35 (i:=4) (t:=33) rfl (by rw [List.getElem?_map,h4];rfl) hn));have e4:[c4,c5]=[.string s4,.slice a4 l4.length k4]:=e4;obtain ⟨y5,h5⟩:=hx 5 (by omega);have f5:DataW.trod enc Tryz.prog W 0 (fun _=>true) true n1 9 (([c0,c1,c2,c3,c4,c5,c6,c7].drop 6).take (Tryz.prog.cellsOf 9))=xs[5]? :=hf 5 _ rfl;rw [h5,show Tryz.prog.cellsOf 9=1 by kernel_rfl] at f5;obtain ⟨z5,e5,u5, -⟩:=DataW.trod_string Tryz.underlying9 f5;have e5:[c6]=[.string z5]:=e5;have g5:z5.size<=reachBytes:=hw _ (o4 Tryz.underlying35 (i:=5) (t:=9) rfl (by rw [List.getElem?_map,h5];rfl) (by rw [u5];simp [DataW.weights]));obtain ⟨y6,h6⟩:=hx 6 (by omega);have f6:DataW.trod enc Tryz.prog W 0 (fun _=>true) true n1 3 (([c0,c1,c2,c3,c4,c5,c6,c7].drop 7).take (Tryz.prog.cellsOf 3))=xs[6]? :=hf 6 _ rfl;rw [h6,show Tryz.prog.cellsOf 3=1 by kernel_rfl] at f6;obtain ⟨z6,e6, -,w6⟩:=DataW.trod_int Tryz.underlying3 f6;have e6:[c7]=[.int .i64 z6]:=e6;have g6: -9223372036854775808<=z6/\z6<=9223372036854775807:=by simpa [Lit.wf,IntKind.min,IntKind.max,IntKind.signed,IntKind.bits] using w6
  cases e0
  cases e1
  cases e2
  cases e3
  cases e4
  cases e5
  cases e6
  exact ⟨⟨z0,z1,z2,z3,s4,a4,k4,z5,z6,l4⟩,rfl,g2,g5,g4⟩
theorem a5u {base:Nat} {v:Value} {d:DataW H} {p:List MemPlace} (hok:Value.okWide Tryz.prog W .any base 22 v)
 (h:DataW.Trod enc Tryz.prog W 0 (fun _=>true) true 22 v d p) (hw:∀n∈DataW.weights Tryz.prog 22 d,n<=reachBytes):∃l:List Ru,j0 W 8 v l.length (rus l)/\l.length<=maxLen/\∀r∈l,r.inn W:=by
 obtain ⟨m,hm⟩:=h;obtain ⟨A,n,cap,rfl⟩:=okWide_slice Tryz.underlying22 hok;obtain ⟨l,h1,h2,h3⟩:=a0f (W:=W) (v:= .slice A n cap) (sz:=8) Ru.cells Ru.cells_length (by decide) Tryz.underlying22 (by kernel_rfl) ⟨0,0,⟨#[]⟩,0,⟨#[]⟩,none,0,⟨#[]⟩,0,[]⟩ (fun r=>r.inn W) (fun _ _ _ h hw=>a6T h hw) hm hw;exact ⟨l,h1,h2,h3⟩
end
end
section
open Go.RowKit
structure PRu where
 kind:Int
 tenant:Int
 who:ByteArray
 broker:Int
 sc:ByteArray
 cs:List Cnd
 name:ByteArray
 at_:Int
def PRu.zero:PRu:=⟨0,0,⟨#[]⟩,0,⟨#[]⟩,[],⟨#[]⟩,0⟩
def PRu.lies (p:PRu) (a:Option Addr) (c:Nat):Ru:=⟨p.kind,p.tenant,p.who,p.broker,p.sc,a,c,p.name,p.at_,p.cs⟩
def PRu.rightB (p:PRu):Bool:=(p.lies none 0).rightB
end
end Go.Proofs.YtaenebdppkjhoaaGreatDoor
