/- Lemmas of this claim. -/
import Derived.Test.YtaenebdppkjhoaaGreatDoorZd15
import Derived.Test.YtaenebdppkjhoaaGreatDoorZd26
import Derived.Test.YtaenebdppkjhoaaGreatDoorZd19
import Derived.Maps.OwnSet
import Derived.Maps.Own
import Derived.Shelf.SlIter.Nil
import Derived.Shelf.SlIterI.Nil
import Derived.Shelf.SortM.Plain
import Derived.Shelf.SortM.SortNone
namespace Go.Proofs.YtaenebdppkjhoaaGreatDoor
set_option maxHeartbeats 40000000
set_option maxRecDepth 20000
open Go.RowKit
theorem and_pow (n:Int) (k:Nat) (hk:k<63):bits .and .i64 n ((2^k - 1:Nat):Int)=n%((2^k:Nat):Int):=by
 have hp:2^k<2^63:=Nat.pow_lt_pow_right (by decide) hk
 have hp0:0<2^k:=Nat.two_pow_pos k
 have h127:(BitVec.ofInt 64 ((2^k - 1:Nat):Int)).toNat=2^k - 1:=by
  rw [BitVec.toNat_ofInt]
  omega
 have key:(BitVec.ofInt 64 n&&&BitVec.ofInt 64 ((2^k - 1:Nat):Int)).toNat=(n%((2^64:Nat):Int)).toNat%2^k:=by
  rw [BitVec.toNat_and,BitVec.toNat_ofInt,h127,Nat.and_two_pow_sub_one_eq_mod]
 show IntKind.i64.wrap ((BitVec.ofInt 64 n&&&BitVec.ofInt 64 ((2^k - 1:Nat):Int)).toNat:Nat)=n%((2^k:Nat):Int)
 rw [key,IntKind.wrap_i64]
 have h1:(n%((2^64:Nat):Int)).toNat%2^k<2^k:=Nat.mod_lt _ hp0
 have h2:(((n%((2^64:Nat):Int)).toNat%2^k:Nat):Int)=n%((2^k:Nat):Int):=by
  rw [Int.natCast_emod,Int.toNat_of_nonneg (Int.emod_nonneg _ (by decide))]
  exact Int.emod_emod_of_dvd n (by exact_mod_cast Nat.pow_dvd_pow 2 (by omega))
 rw [←h2]
 generalize (n%((2^64:Nat):Int)).toNat%2^k=q at*
 omega
theorem and1 (n:Int):∃t:Nat,bits .and .i64 n 1=t∧t<2:=⟨(n%2).toNat,by
 have:=and_pow n 1 (by decide)
 have e:bits .and .i64 n 1=n%2:=this
 rw [e]
 omega,by omega⟩
theorem and3 (n:Int):∃t:Nat,bits .and .i64 n 3=t∧t<4:=⟨(n%4).toNat,by
 have:=and_pow n 2 (by decide)
 have e:bits .and .i64 n 3=n%4:=this
 rw [e]
 omega,by omega⟩
def covB (gs:ByteArray) (m:List Cnd) (r:Ru):Bool:=m.any Cnd.voidB||(r.cs.all (fun c=>m.any fun d=>impB d c)&&underB gs r.sc)
def RuNum (l:List Ru):Prop:=∀r∈l,∀c∈r.cs,c.v.num<2^64
theorem RuNum.filter {l:List Ru} {p:Ru→Bool} (h:RuNum l):RuNum (l.filter p):=fun r hr=>h r (List.mem_filter.1 hr).1
theorem covers_at (w:World) (r:Ru) (hr:r.ok w) (hrn:∀c∈r.cs,c.v.num<2^64) (gs:ByteArray) (gv:Value) (m:List Cnd) (hg:RdSl w 7 gv m.length (cnds m)) (hml:m.length≤9223372036854775807) (hgs:gs.size≤9223372036854775807)
 (hm:∀d∈m,d.v.text.size≤9223372036854775807∧d.v.num<2^64):
 Calls Tryz.prog 99 #[.agg #[.string r.sc,r.cv],.agg #[.string gs,gv]] w fun e w'=>e= .returned (.bool (covB gs m r))∧Mod (fun _=>False) w w':=
 covers_over impB w r.sc r.cv r.cs hr.rd hr.len hr.sc gs gv m hg hml hgs (fun d hd c hc wx _=>implies_at d c (hm d hd).1 (hr.cname c hc).2 (hm d hd).2 (hrn c hc) wx)
end Go.Proofs.YtaenebdppkjhoaaGreatDoor
namespace Go.Proofs.YtaenebdppkjhoaaGreatDoor
set_option maxRecDepth 20000
open Go.ChangeShapes Go.WideShapes Go.ChangeAt Go.RowKit
section
variable {H:Type} {enc:TypeId×Value→H} {W:World}
theorem spot_none {w:World} {a:Addr} {v:Value} (h:w.cell? a=some v):a.spot=none:=by
 unfold World.cell? at h
 split at h
 ·split at h
  ·cases h
  ·rename_i hs;simpa using hs
 ·cases h
end
theorem le63 {n:Nat} (h:n≤maxLen):n≤9223372036854775807:=by simp only [maxLen] at h;omega
end Go.Proofs.YtaenebdppkjhoaaGreatDoor
namespace Go.Proofs.YtaenebdppkjhoaaGreatDoor
set_option maxRecDepth 20000
open Go.ChangeShapes Go.WideShapes Go.ChangeAt Go.RowKit
section
variable {H:Type} {enc:TypeId×Value→H} {W:World}
theorem weightsAll_mem {e:TypeId}:∀{l:List (DataW H)} {d:DataW H} {n:Nat},d∈l→n∈DataW.weights Tryz.prog e d→n∈DataW.weightsAll Tryz.prog e l
 |a::l,d,n,hd,hn=>by
  unfold DataW.weightsAll
  rcases List.mem_cons.1 hd with rfl|hd
  ·exact List.mem_append_left _ hn
  ·exact List.mem_append_right _ (weightsAll_mem hd hn)
theorem weightsEach_mem:∀{ts:List TypeId} {l:List (DataW H)} {i:Nat} {t:TypeId} {d:DataW H} {n:Nat},ts[i]? =some t→l[i]? =some d→n∈DataW.weights Tryz.prog t d→n∈DataW.weightsEach Tryz.prog ts l
 |[],_,_,_,_,_,h,_,_=>by simp at h
 |_::_,[],_,_,_,_,_,h,_=>by simp at h
 |a::ts,b::l,0,t,d,n,h1,h2,hn=>by
  unfold DataW.weightsEach
  simp only [List.getElem?_cons_zero,Option.some.injEq] at h1 h2
  subst h1 h2
  exact List.mem_append_left _ hn
 |a::ts,b::l,i+1,t,d,n,h1,h2,hn=>by
  unfold DataW.weightsEach
  rw [List.getElem?_cons_succ] at h1 h2
  exact List.mem_append_right _ (weightsEach_mem h1 h2 hn)
theorem weights_part {ty:TypeId} {fs:Array Field} (ht:Tryz.prog.underlying ty=some (.struct fs)) {l:List (DataW H)} {i:Nat} {t:TypeId} {d:DataW H} {n:Nat} (h1:(fs.toList.map (·.type))[i]? =some t) (h2:l[i]? =some d) (hn:n∈DataW.weights Tryz.prog t d):
 n∈DataW.weights Tryz.prog ty (.agg l:DataW H):=by
 unfold DataW.weights
 rw [ht]
 exact weightsEach_mem h1 h2 hn
theorem weights_elem {ty e:TypeId} (ht:Tryz.prog.underlying ty=some (.slice e)) {l r:List (DataW H)} {d:DataW H} {n:Nat} (hd:d∈l) (hn:n∈DataW.weights Tryz.prog e d):n∈DataW.weights Tryz.prog ty (.slice l r:DataW H):=by
 unfold DataW.weights
 rw [ht]
 exact List.mem_cons_of_mem _ (List.mem_append_left _ (weightsAll_mem hd hn))
theorem open_roww {α:Type} {t e:TypeId} {sz:Nat} (cells:α→List Value) (hlen:∀x,(cells x).length=sz) (hsz:0<sz) (ht:Tryz.prog.underlying t=some (.slice e)) (he:Tryz.prog.cellsOf e=sz) (x0:α) (p:α→Prop)
 (hone:∀(fuel:Nat) (cs:List Value) (y:DataW H×List MemPlace),DataW.trod enc Tryz.prog W 0 (fun _=>true) true fuel e cs=some y→(∀n∈DataW.weights Tryz.prog e y.1,n≤reachBytes)→∃x,cs=cells x∧p x)
 {fuel:Nat} {v:Value} {y:DataW H×List MemPlace} (h:DataW.trod enc Tryz.prog W 0 (fun _=>true) true fuel t [v]=some y) (hw:∀n∈DataW.weights Tryz.prog t y.1,n≤reachBytes):
 ∃l:List α,RdSl W sz v l.length (l.flatMap cells)∧l.length≤maxLen∧∀x∈l,p x:=by
 rcases Go.Deep.open_slice ht h with ⟨hcs, -⟩|⟨a,len,cap',m',k,D,Pl,hcs, -,hlc,hcm,hmm,hyd,hcell⟩
 ·have hcs:v=Value.slice none 0 0:=by simpa using hcs
  subst hcs
  exact ⟨[],⟨by simp,none,0,rfl,Nat.le_refl _,fun _=>rfl,fun b hb _=>(by cases hb)⟩,Nat.zero_le _,fun x hx=>(by cases hx)⟩
 ·have hcs:v=Value.slice (some a) len cap':=by simpa using hcs
  subst hcs
  simp only [if_true] at hmm
  subst hmm
  rw [he] at hcell
  have hall:∀i,i<len→∃x:α,(∀q u,(cells x)[q]? =some u→W.cell? ((a.add (i*sz)).add q)=some u)∧p x:=fun i hi=>by
   obtain ⟨cs,h1,h2⟩:=hcell i (by omega)
   obtain ⟨x,rfl,h3⟩:=hone _ _ _ h2 (fun n hn=>hw n (by rw [hyd];exact weights_elem ht (List.mem_map.2 ⟨i,List.mem_range.2 hi,rfl⟩) hn))
   obtain ⟨-,h5,h6⟩:=World.cells?_some h1
   refine ⟨x,fun q u hq=> ?_,h3⟩
   have:=h6 q (by have:=(List.getElem?_eq_some_iff.1 hq).1;rw [hlen] at this;exact this)
   rw [hq] at this
   exact this
  obtain ⟨F,hF⟩:∃F:Nat→α,∀i,i<len→(∀q u,(cells (F i))[q]? =some u→W.cell? ((a.add (i*sz)).add q)=some u)∧p (F i):=
   ⟨fun i=>if h:i<len then (hall i h).choose else x0,fun i hi=>by simp only [dif_pos hi];exact (hall i hi).choose_spec⟩
  have hl:((List.range len).map F).length=len:=by simp
  have hfl:∀l:List α,(l.flatMap cells).length=l.length*sz:=fun l=>by
   induction l with
   |nil=>simp
   |cons b l ih=>rw [List.flatMap_cons,List.length_append,ih,hlen,List.length_cons,Nat.add_mul];omega
  have hget:∀(l:List α) (j:Nat) (u:Value),(l.flatMap cells)[j]? =some u→∃x,l[j / sz]? =some x∧(cells x)[j%sz]? =some u:=fun l=>by
   induction l with
   |nil=>intro j u h;simp at h
   | cons b l ih=>
    intro j u h
    rw [List.flatMap_cons] at h
    rcases Nat.lt_or_ge j sz with hj|hj
    ·rw [List.getElem?_append_left (by rw [hlen];exact hj)] at h
     exact ⟨b,by rw [Nat.div_eq_of_lt hj];rfl,by rw [Nat.mod_eq_of_lt hj];exact h⟩
    ·rw [List.getElem?_append_right (by rw [hlen];exact hj),hlen] at h
     obtain ⟨x,h1,h2⟩:=ih _ _ h
     have e1:j / sz=(j - sz) / sz+1:=by
      rw [Nat.div_eq j sz,if_pos ⟨hsz,hj⟩]
     have e2:j%sz=(j - sz)%sz:=Nat.mod_eq_sub_mod hj
     exact ⟨x,by rw [e1,List.getElem?_cons_succ];exact h1,by rw [e2];exact h2⟩
  refine ⟨(List.range len).map F,⟨by rw [hfl],some a,m',by rw [hl],by rw [hl];exact hlc,(fun h=>by cases h),fun b hb hn=> ?_⟩,by rw [hl];omega,fun x hx=> ?_⟩
  ·cases hb
   rw [hl] at hn
   have hsp:a.spot=none:=by
    have h0:=(hF 0 hn).1 0
    cases hc:(cells (F 0))[0]? with
    |none=>
     have:=List.getElem?_eq_none_iff.1 hc
     rw [hlen] at this
     omega
    |some u=>
     have:=h0 u hc
     rw [Nat.zero_mul] at this
     exact spot_none this
   obtain ⟨g,off,spot⟩:=a
   have hsp:spot=none:=hsp
   subst hsp
   refine ⟨g,off,rfl,fun j u hu=> ?_⟩
   obtain ⟨x,hx1,hx2⟩:=hget _ _ _ hu
   rw [List.getElem?_map] at hx1
   by_cases hj:j / sz<len
   ·rw [List.getElem?_range hj] at hx1
    simp only [Option.map_some,Option.some.injEq] at hx1
    subst hx1
    have:=(hF _ hj).1 _ _ hx2
    rw [addr_add,addr_add] at this
    have e:=Nat.div_add_mod j sz
    rw [Nat.mul_comm] at e
    rw [show off+j=off+j / sz*sz+j%sz by omega]
    exact this
   ·rw [List.getElem?_eq_none (by simpa using hj)] at hx1
    cases hx1
  ·obtain ⟨i,hi,rfl⟩:=List.mem_map.1 hx
   exact (hF i (List.mem_range.1 hi)).2
structure V.inn (v:V):Prop where
 int: -9223372036854775808≤v.int∧v.int≤9223372036854775807
 num:v.num<2^64
 text:v.text.size≤reachBytes
structure Cnd.inn (c:Cnd):Prop where
 name:c.name.size≤reachBytes
 v:c.v.inn
structure FilIn (W:World) (sc:ByteArray) (a:Option Addr) (cap:Nat) (cs:List Cnd):Prop where
 rd:RdSl W 7 (.slice a cs.length cap) cs.length (cnds cs)
 sc:sc.size≤reachBytes
 len:cs.length≤maxLen
 cs:∀c∈cs,c.inn
structure Ru.inn (W:World) (r:Ru):Prop where
 who:r.who.size≤reachBytes
 name:r.name.size≤reachBytes
 fil:FilIn W r.sc r.ca r.cc r.cs
theorem open_valw {fuel:Nat} {cs:List Value} {x:DataW H×List MemPlace} (h:DataW.trod enc Tryz.prog W 0 (fun _=>true) true fuel 68 cs=some x) (hw:∀n∈DataW.weights Tryz.prog 68 x.1,n≤reachBytes):∃v:V,cs=v.cells∧v.inn:=by
 obtain ⟨xs,n1, -,hxd,hlen,hxs,hf⟩:=DataW.trod_struct Tryz.underlying68 h
 rw [show Tryz.prog.cellsOf 68=5 by kernel_rfl] at hlen
 have hx:∀i,i<5→∃y,xs[i]? =some y:=fun i hi=>by
  simp at hxs
  exact ⟨_,List.getElem?_eq_getElem (by omega)⟩
 rw [hxd] at hw
 have hw:∀n∈DataW.weights Tryz.prog 68 (.agg (xs.map (·.1)):DataW H),n≤reachBytes:=hw
 match cs,hlen with
 |[c0,c1,c2,c3,c4],_=>
  obtain ⟨y0,h0⟩:=hx 0 (by omega)
  have f0:DataW.trod enc Tryz.prog W 0 (fun _=>true) true n1 3 (([c0,c1,c2,c3,c4].drop 0).take (Tryz.prog.cellsOf 3))=xs[0]? :=hf 0 _ rfl
  rw [h0,show Tryz.prog.cellsOf 3=1 by kernel_rfl] at f0
  obtain ⟨z0,e0, -,w0⟩:=DataW.trod_int Tryz.underlying3 f0
  have e0:[c0]=[.int .i64 z0]:=e0
  have g0: -9223372036854775808≤z0∧z0≤9223372036854775807:=by simpa [Lit.wf,IntKind.min,IntKind.max,IntKind.signed,IntKind.bits] using w0
  obtain ⟨y1,h1⟩:=hx 1 (by omega)
  have f1:DataW.trod enc Tryz.prog W 0 (fun _=>true) true n1 2 (([c0,c1,c2,c3,c4].drop 1).take (Tryz.prog.cellsOf 2))=xs[1]? :=hf 1 _ rfl
  rw [h1,show Tryz.prog.cellsOf 2=1 by kernel_rfl] at f1
  obtain ⟨z1,e1, -,w1⟩:=DataW.trod_int Tryz.underlying2 f1
  have e1:[c1]=[.int .i64 z1]:=e1
  have g1: -9223372036854775808≤z1∧z1≤9223372036854775807:=by simpa [Lit.wf,IntKind.min,IntKind.max,IntKind.signed,IntKind.bits] using w1
  obtain ⟨y2,h2⟩:=hx 2 (by omega)
  have f2:DataW.trod enc Tryz.prog W 0 (fun _=>true) true n1 66 (([c0,c1,c2,c3,c4].drop 2).take (Tryz.prog.cellsOf 66))=xs[2]? :=hf 2 _ rfl
  rw [h2,show Tryz.prog.cellsOf 66=1 by kernel_rfl] at f2
  obtain ⟨z2,e2,w2⟩:=trod_f64 Tryz.underlying66 f2
  have e2:[c2]=[.float .f64 z2]:=e2
  obtain ⟨y3,h3⟩:=hx 3 (by omega)
  have f3:DataW.trod enc Tryz.prog W 0 (fun _=>true) true n1 9 (([c0,c1,c2,c3,c4].drop 3).take (Tryz.prog.cellsOf 9))=xs[3]? :=hf 3 _ rfl
  rw [h3,show Tryz.prog.cellsOf 9=1 by kernel_rfl] at f3
  obtain ⟨z3,e3,u3, -⟩:=DataW.trod_string Tryz.underlying9 f3
  have e3:[c3]=[.string z3]:=e3
  have g3:z3.size≤reachBytes:=hw _ (weights_part Tryz.underlying68 (i:=3) (t:=9) rfl (by rw [List.getElem?_map,h3];rfl) (by rw [u3];simp [DataW.weights]))
  obtain ⟨y4,h4⟩:=hx 4 (by omega)
  have f4:DataW.trod enc Tryz.prog W 0 (fun _=>true) true n1 4 (([c0,c1,c2,c3,c4].drop 4).take (Tryz.prog.cellsOf 4))=xs[4]? :=hf 4 _ rfl
  rw [h4,show Tryz.prog.cellsOf 4=1 by kernel_rfl] at f4
  obtain ⟨z4,e4, -⟩:=DataW.trod_bool Tryz.underlying4 f4
  have e4:[c4]=[.bool z4]:=e4
  cases e0
  cases e1
  cases e2
  cases e3
  cases e4
  exact ⟨⟨z0,z1,z2,z3,z4⟩,rfl,g1,w2,g3⟩
theorem open_cndw {fuel:Nat} {cs:List Value} {x:DataW H×List MemPlace} (h:DataW.trod enc Tryz.prog W 0 (fun _=>true) true fuel 132 cs=some x) (hw:∀n∈DataW.weights Tryz.prog 132 x.1,n≤reachBytes):∃c:Cnd,cs=c.cells∧c.inn:=by
 obtain ⟨xs,n1, -,hxd,hlen,hxs,hf⟩:=DataW.trod_struct Tryz.underlying132 h
 rw [show Tryz.prog.cellsOf 132=7 by kernel_rfl] at hlen
 have hx:∀i,i<3→∃y,xs[i]? =some y:=fun i hi=>by
  simp at hxs
  exact ⟨_,List.getElem?_eq_getElem (by omega)⟩
 rw [hxd] at hw
 have hw:∀n∈DataW.weights Tryz.prog 132 (.agg (xs.map (·.1)):DataW H),n≤reachBytes:=hw
 match cs,hlen with
 |[c0,c1,c2,c3,c4,c5,c6],_=>
  obtain ⟨y0,h0⟩:=hx 0 (by omega)
  have f0:DataW.trod enc Tryz.prog W 0 (fun _=>true) true n1 9 (([c0,c1,c2,c3,c4,c5,c6].drop 0).take (Tryz.prog.cellsOf 9))=xs[0]? :=hf 0 _ rfl
  rw [h0,show Tryz.prog.cellsOf 9=1 by kernel_rfl] at f0
  obtain ⟨z0,e0,u0, -⟩:=DataW.trod_string Tryz.underlying9 f0
  have e0:[c0]=[.string z0]:=e0
  have g0:z0.size≤reachBytes:=hw _ (weights_part Tryz.underlying132 (i:=0) (t:=9) rfl (by rw [List.getElem?_map,h0];rfl) (by rw [u0];simp [DataW.weights]))
  obtain ⟨y1,h1⟩:=hx 1 (by omega)
  have f1:DataW.trod enc Tryz.prog W 0 (fun _=>true) true n1 3 (([c0,c1,c2,c3,c4,c5,c6].drop 1).take (Tryz.prog.cellsOf 3))=xs[1]? :=hf 1 _ rfl
  rw [h1,show Tryz.prog.cellsOf 3=1 by kernel_rfl] at f1
  obtain ⟨z1,e1, -,w1⟩:=DataW.trod_int Tryz.underlying3 f1
  have e1:[c1]=[.int .i64 z1]:=e1
  have g1: -9223372036854775808≤z1∧z1≤9223372036854775807:=by simpa [Lit.wf,IntKind.min,IntKind.max,IntKind.signed,IntKind.bits] using w1
  obtain ⟨y2,h2⟩:=hx 2 (by omega)
  have f2:DataW.trod enc Tryz.prog W 0 (fun _=>true) true n1 68 (([c0,c1,c2,c3,c4,c5,c6].drop 2).take (Tryz.prog.cellsOf 68))=xs[2]? :=hf 2 _ rfl
  rw [h2,show Tryz.prog.cellsOf 68=5 by kernel_rfl] at f2
  obtain ⟨z2,e2,g2⟩:=open_valw f2 (fun n hn=>hw n (weights_part Tryz.underlying132 (i:=2) (t:=68) rfl (by rw [List.getElem?_map,h2];rfl) hn))
  have e2:[c2,c3,c4,c5,c6]=[.int .i64 z2.kind,.int .i64 z2.int,.float .f64 z2.num,.string z2.text,.bool z2.yes]:=e2
  cases e0
  cases e1
  cases e2
  exact ⟨⟨z0,z1,z2⟩,rfl,g0,g2⟩
theorem open_filw {fuel:Nat} {cs:List Value} {x:DataW H×List MemPlace} (h:DataW.trod enc Tryz.prog W 0 (fun _=>true) true fuel 33 cs=some x) (hw:∀n∈DataW.weights Tryz.prog 33 x.1,n≤reachBytes):∃(sc:ByteArray) (a:Option Addr) (cap:Nat) (l:List Cnd),cs=[.string sc,.slice a l.length cap]∧FilIn W sc a cap l:=by
 obtain ⟨xs,n1, -,hxd,hlen,hxs,hf⟩:=DataW.trod_struct Tryz.underlying33 h
 rw [show Tryz.prog.cellsOf 33=2 by kernel_rfl] at hlen
 have hx:∀i,i<2→∃y,xs[i]? =some y:=fun i hi=>by
  simp at hxs
  exact ⟨_,List.getElem?_eq_getElem (by omega)⟩
 rw [hxd] at hw
 have hw:∀n∈DataW.weights Tryz.prog 33 (.agg (xs.map (·.1)):DataW H),n≤reachBytes:=hw
 match cs,hlen with
 | [c0,c1],_=>
  obtain ⟨y0,h0⟩:=hx 0 (by omega)
  have f0:DataW.trod enc Tryz.prog W 0 (fun _=>true) true n1 9 (([c0,c1].drop 0).take (Tryz.prog.cellsOf 9))=xs[0]? :=hf 0 _ rfl
  rw [h0,show Tryz.prog.cellsOf 9=1 by kernel_rfl] at f0
  obtain ⟨z0,e0,u0, -⟩:=DataW.trod_string Tryz.underlying9 f0
  have e0:[c0]=[.string z0]:=e0
  have g0:z0.size≤reachBytes:=hw _ (weights_part Tryz.underlying33 (i:=0) (t:=9) rfl (by rw [List.getElem?_map,h0];rfl) (by rw [u0];simp [DataW.weights]))
  obtain ⟨y1,h1⟩:=hx 1 (by omega)
  have f1:DataW.trod enc Tryz.prog W 0 (fun _=>true) true n1 31 (([c0,c1].drop 1).take (Tryz.prog.cellsOf 31))=xs[1]? :=hf 1 _ rfl
  rw [h1,show Tryz.prog.cellsOf 31=1 by kernel_rfl] at f1
  have f1:DataW.trod enc Tryz.prog W 0 (fun _=>true) true n1 31 [c1]=some y1:=f1
  obtain ⟨l1,k1,m1,p1⟩:=open_roww (W:=W) (v:=c1) (sz:=7) Cnd.cells Cnd.cells_length (by decide) Tryz.underlying31 (by kernel_rfl) ⟨⟨#[]⟩,0,V.zero⟩ Cnd.inn (fun _ _ _ h hw=>open_cndw h hw) f1 (fun n hn=>hw n (weights_part Tryz.underlying33 (i:=1) (t:=31) rfl (by rw [List.getElem?_map,h1];rfl) hn))
  obtain ⟨a1,cap1,rfl⟩:∃A cap,c1= .slice A l1.length cap:=by
   obtain ⟨-,a',c',k5, -⟩:=k1
   exact ⟨a',c',k5⟩
  cases e0
  exact ⟨z0,a1,cap1,l1,rfl,k1,g0,m1,p1⟩
theorem open_rulew {fuel:Nat} {cs:List Value} {x:DataW H×List MemPlace} (h:DataW.trod enc Tryz.prog W 0 (fun _=>true) true fuel 35 cs=some x) (hw:∀n∈DataW.weights Tryz.prog 35 x.1,n≤reachBytes):∃r:Ru,cs=r.cells∧r.inn W:=by
 obtain ⟨xs,n1, -,hxd,hlen,hxs,hf⟩:=DataW.trod_struct Tryz.underlying35 h
 rw [show Tryz.prog.cellsOf 35=8 by kernel_rfl] at hlen
 have hx:∀i,i<7→∃y,xs[i]? =some y:=fun i hi=>by
  simp at hxs
  exact ⟨_,List.getElem?_eq_getElem (by omega)⟩
 rw [hxd] at hw
 have hw:∀n∈DataW.weights Tryz.prog 35 (.agg (xs.map (·.1)):DataW H),n≤reachBytes:=hw
 match cs,hlen with
 |[c0,c1,c2,c3,c4,c5,c6,c7],_=>
  obtain ⟨y0,h0⟩:=hx 0 (by omega)
  have f0:DataW.trod enc Tryz.prog W 0 (fun _=>true) true n1 3 (([c0,c1,c2,c3,c4,c5,c6,c7].drop 0).take (Tryz.prog.cellsOf 3))=xs[0]? :=hf 0 _ rfl
  rw [h0,show Tryz.prog.cellsOf 3=1 by kernel_rfl] at f0
  obtain ⟨z0,e0, -,w0⟩:=DataW.trod_int Tryz.underlying3 f0
  have e0:[c0]=[.int .i64 z0]:=e0
  have g0: -9223372036854775808≤z0∧z0≤9223372036854775807:=by simpa [Lit.wf,IntKind.min,IntKind.max,IntKind.signed,IntKind.bits] using w0
  obtain ⟨y1,h1⟩:=hx 1 (by omega)
  have f1:DataW.trod enc Tryz.prog W 0 (fun _=>true) true n1 3 (([c0,c1,c2,c3,c4,c5,c6,c7].drop 1).take (Tryz.prog.cellsOf 3))=xs[1]? :=hf 1 _ rfl
  rw [h1,show Tryz.prog.cellsOf 3=1 by kernel_rfl] at f1
  obtain ⟨z1,e1, -,w1⟩:=DataW.trod_int Tryz.underlying3 f1
  have e1:[c1]=[.int .i64 z1]:=e1
  have g1: -9223372036854775808≤z1∧z1≤9223372036854775807:=by simpa [Lit.wf,IntKind.min,IntKind.max,IntKind.signed,IntKind.bits] using w1
  obtain ⟨y2,h2⟩:=hx 2 (by omega)
  have f2:DataW.trod enc Tryz.prog W 0 (fun _=>true) true n1 9 (([c0,c1,c2,c3,c4,c5,c6,c7].drop 2).take (Tryz.prog.cellsOf 9))=xs[2]? :=hf 2 _ rfl
  rw [h2,show Tryz.prog.cellsOf 9=1 by kernel_rfl] at f2
  obtain ⟨z2,e2,u2, -⟩:=DataW.trod_string Tryz.underlying9 f2
  have e2:[c2]=[.string z2]:=e2
  have g2:z2.size≤reachBytes:=hw _ (weights_part Tryz.underlying35 (i:=2) (t:=9) rfl (by rw [List.getElem?_map,h2];rfl) (by rw [u2];simp [DataW.weights]))
  obtain ⟨y3,h3⟩:=hx 3 (by omega)
  have f3:DataW.trod enc Tryz.prog W 0 (fun _=>true) true n1 3 (([c0,c1,c2,c3,c4,c5,c6,c7].drop 3).take (Tryz.prog.cellsOf 3))=xs[3]? :=hf 3 _ rfl
  rw [h3,show Tryz.prog.cellsOf 3=1 by kernel_rfl] at f3
  obtain ⟨z3,e3, -,w3⟩:=DataW.trod_int Tryz.underlying3 f3
  have e3:[c3]=[.int .i64 z3]:=e3
  have g3: -9223372036854775808≤z3∧z3≤9223372036854775807:=by simpa [Lit.wf,IntKind.min,IntKind.max,IntKind.signed,IntKind.bits] using w3
  obtain ⟨y4,h4⟩:=hx 4 (by omega)
  have f4:DataW.trod enc Tryz.prog W 0 (fun _=>true) true n1 33 (([c0,c1,c2,c3,c4,c5,c6,c7].drop 4).take (Tryz.prog.cellsOf 33))=xs[4]? :=hf 4 _ rfl
  rw [h4,show Tryz.prog.cellsOf 33=2 by kernel_rfl] at f4
  obtain ⟨s4,a4,k4,l4,e4,g4⟩:=open_filw f4 (fun n hn=>hw n (weights_part Tryz.underlying35 (i:=4) (t:=33) rfl (by rw [List.getElem?_map,h4];rfl) hn))
  have e4:[c4,c5]=[.string s4,.slice a4 l4.length k4]:=e4
  obtain ⟨y5,h5⟩:=hx 5 (by omega)
  have f5:DataW.trod enc Tryz.prog W 0 (fun _=>true) true n1 9 (([c0,c1,c2,c3,c4,c5,c6,c7].drop 6).take (Tryz.prog.cellsOf 9))=xs[5]? :=hf 5 _ rfl
  rw [h5,show Tryz.prog.cellsOf 9=1 by kernel_rfl] at f5
  obtain ⟨z5,e5,u5, -⟩:=DataW.trod_string Tryz.underlying9 f5
  have e5:[c6]=[.string z5]:=e5
  have g5:z5.size≤reachBytes:=hw _ (weights_part Tryz.underlying35 (i:=5) (t:=9) rfl (by rw [List.getElem?_map,h5];rfl) (by rw [u5];simp [DataW.weights]))
  obtain ⟨y6,h6⟩:=hx 6 (by omega)
  have f6:DataW.trod enc Tryz.prog W 0 (fun _=>true) true n1 3 (([c0,c1,c2,c3,c4,c5,c6,c7].drop 7).take (Tryz.prog.cellsOf 3))=xs[6]? :=hf 6 _ rfl
  rw [h6,show Tryz.prog.cellsOf 3=1 by kernel_rfl] at f6
  obtain ⟨z6,e6, -,w6⟩:=DataW.trod_int Tryz.underlying3 f6
  have e6:[c7]=[.int .i64 z6]:=e6
  have g6: -9223372036854775808≤z6∧z6≤9223372036854775807:=by simpa [Lit.wf,IntKind.min,IntKind.max,IntKind.signed,IntKind.bits] using w6
  cases e0
  cases e1
  cases e2
  cases e3
  cases e4
  cases e5
  cases e6
  exact ⟨⟨z0,z1,z2,z3,s4,a4,k4,z5,z6,l4⟩,rfl,g2,g5,g4⟩
theorem open_rulesw {base:Nat} {v:Value} {d:DataW H} {p:List MemPlace} (hok:Value.okWide Tryz.prog W .any base 22 v)
 (h:DataW.Trod enc Tryz.prog W 0 (fun _=>true) true 22 v d p) (hw:∀n∈DataW.weights Tryz.prog 22 d,n≤reachBytes):∃l:List Ru,RdSl W 8 v l.length (rus l)∧l.length≤maxLen∧∀r∈l,r.inn W:=by
 obtain ⟨m,hm⟩:=h
 obtain ⟨A,n,cap,rfl⟩:=okWide_slice Tryz.underlying22 hok
 obtain ⟨l,h1,h2,h3⟩:=open_roww (W:=W) (v:= .slice A n cap) (sz:=8) Ru.cells Ru.cells_length (by decide) Tryz.underlying22 (by kernel_rfl) ⟨0,0,⟨#[]⟩,0,⟨#[]⟩,none,0,⟨#[]⟩,0,[]⟩ (fun r=>r.inn W) (fun _ _ _ h hw=>open_rulew h hw) hm hw
 exact ⟨l,h1,h2,h3⟩
end
end Go.Proofs.YtaenebdppkjhoaaGreatDoor
namespace Go.Proofs.YtaenebdppkjhoaaGreatDoor
set_option maxRecDepth 20000
open Go.RowKit
def rawR:Value→Option (DataW Value×List MemPlace):=fun v=>some (.held v,[])
def MapR (w:World) (kt:TypeId) (b n:Nat) (f:Lit→Option Value):Prop:=
 ∃D:DataW Value,w.ownsMap Tryz.prog kt rawR b n D∧Maps.size D=n∧(∀kl z,D.atKey kl (.held z)= .held ((f kl).getD z))∧∀kl,Maps.has D kl=(f kl).isSome
open Classical in
noncomputable def putF (f:Lit→Option Value) (kl:Lit) (v:Value):Lit→Option Value:=fun k=>if k=kl then some v else f k
open Classical in
noncomputable def delF (f:Lit→Option Value) (kl:Lit):Lit→Option Value:=fun k=>if k=kl then none else f k
@[go_sem] theorem run_makeMap_raw (t:TypeId) (w:World):(Instr.makeMap t none).run Tryz.prog w= .ok (.map (some w.heap.size)) (w.alloc (.map #[] 0)):=rfl
theorem ownsMap_tight {w:World} {kt:TypeId} {b n:Nat} {D:DataW Value} (h:w.ownsMap Tryz.prog kt rawR b n D):w.ownsMap Tryz.prog kt rawR b (Maps.size D) D:=by
 obtain ⟨es,clock,h1,h2, -,rfl⟩:=h
 exact ⟨es,clock,h1,h2,by simp [Maps.size,length_sorted],rfl⟩
theorem MapR.made (w:World) (kt:TypeId):MapR (w.alloc (.map #[] 0)) kt w.heap.size 0 (fun _=>none):=
 ⟨.map [],World.ownsMap_made _ _ _ _,rfl,fun _ _=>rfl,fun _=>rfl⟩
theorem MapR.mod {w w':World} {kt:TypeId} {b n:Nat} {f:Lit→Option Value} {F:Nat→Prop} (h:MapR w kt b n f) (hm:Mod F w w') (hF:¬F b):MapR w' kt b n f:=by
 obtain ⟨D,⟨es,clock,h1,h2⟩,h3⟩:=h
 exact ⟨D,⟨es,clock,hm.heap h1 hF,h2⟩,h3⟩
theorem MapR.lt {w:World} {kt:TypeId} {b n:Nat} {f:Lit→Option Value} (h:MapR w kt b n f):b<w.heap.size:=by
 obtain ⟨D,h1, -⟩:=h
 exact h1.lt
theorem MapR.look {w:World} {kt t e:TypeId} {b n:Nat} {f:Lit→Option Value} (h:MapR w kt b n f) (K:Maps.Keyed Tryz.prog kt) (ht:Tryz.prog.underlying t=some (.map kt e)) {z:Value} (hz:(zeroValue e).run Tryz.prog w= .ok z w) {key:Value} {kl:Lit} (hkey:keyOf Tryz.prog kt key=some kl):
 (Instr.lookup t (.map (some b)) key false).run Tryz.prog w= .ok ((f kl).getD z) w:=by
 obtain ⟨D,h1, -,h3, -⟩:=h
 obtain ⟨v,ps,hrun,hv⟩:=h1.lookup K ht hz (zd:= .held z) (zp:=[]) rfl hkey
 rw [h3] at hv
 simp only [rawR,Option.some.injEq,Prod.mk.injEq,DataW.held.injEq] at hv
 rw [hrun,hv.1]
theorem MapR.look_ok {w:World} {kt t e:TypeId} {b n:Nat} {f:Lit→Option Value} (h:MapR w kt b n f) (K:Maps.Keyed Tryz.prog kt) (ht:Tryz.prog.underlying t=some (.map kt e)) {z:Value} (hz:(zeroValue e).run Tryz.prog w= .ok z w) {key:Value} {kl:Lit} (hkey:keyOf Tryz.prog kt key=some kl):
 (Instr.lookup t (.map (some b)) key true).run Tryz.prog w= .ok (.tuple #[(f kl).getD z,.bool (f kl).isSome]) w:=by
 obtain ⟨D,h1, -,h3,h4⟩:=h
 obtain ⟨v,ps,hrun,hv⟩:=h1.look_ok K ht hz (zd:= .held z) (zp:=[]) rfl hkey
 rw [h3] at hv
 simp only [rawR,Option.some.injEq,Prod.mk.injEq,DataW.held.injEq] at hv
 rw [hrun,hv.1,h4]
theorem MapR.len {w:World} {kt t e:TypeId} {b n:Nat} {f:Lit→Option Value} (h:MapR w kt b n f) (ht:Tryz.prog.underlying t=some (.map kt e)) (ty:TypeId):
 (Builtin.len_ #[t] ty #[.map (some b)]).run Tryz.prog w= .ok (.int .i64 n) w:=by
 obtain ⟨D,h1,h2, -⟩:=h
 rw [h1.len ht ty,h2]
theorem grown_mod {w w':World} {b:Nat} (h:w.grownBy w' (some b)):Mod (fun k=>k=b) w w':=⟨h.os,h.tape,h.output,h.size,fun k hk hn=>h.block k hk (fun e=>hn (Option.some.inj e))⟩
theorem MapR.put {w:World} {kt t e:TypeId} {b n:Nat} {f:Lit→Option Value} (h:MapR w kt b n f) (K:Maps.Keyed Tryz.prog kt) (ht:Tryz.prog.underlying t=some (.map kt e)) (hn:n<maxLen) {key:Value} {kl:Lit} (hkey:keyOf Tryz.prog kt key=some kl) (v:Value):
 ∃w',(Instr.mapUpdate t (.map (some b)) key v).run Tryz.prog w= .ok () w'∧MapR w' kt b (if (f kl).isSome then n else n+1) (putF f kl v)∧Mod (fun k=>k=b) w w':=by
 obtain ⟨D,h1,h2,h3,h4⟩:=h
 obtain ⟨w',hrun,r1,r2⟩:=h1.update K ht hn hkey (val:=v) (d:= .held v) (ps:=[]) rfl
 have hs:=Maps.size_put (k:=kl) (h1.tidy K) (.held v)
 rw [h2,h4] at hs
 refine ⟨w',hrun,⟨D.put kl (.held v), ?_,hs,fun k z=> ?_,fun k=> ?_⟩,grown_mod r2⟩
 ·rw [←hs];exact ownsMap_tight r1
 ·unfold putF
  by_cases e:k=kl
  ·subst e;rw [if_pos rfl,Maps.atKey_put_same h1.isMap (K.key hkey)];rfl
  ·rw [if_neg e,Maps.atKey_put_other e,h3]
 ·unfold putF
  by_cases e:k=kl
  ·subst e;rw [if_pos rfl,Maps.has_put_same h1.isMap (K.key hkey)];rfl
  ·rw [if_neg e,Maps.has_put_other e,h4]
theorem MapR.del {w:World} {kt t e:TypeId} {b n:Nat} {f:Lit→Option Value} (h:MapR w kt b n f) (K:Maps.Keyed Tryz.prog kt) (ht:Tryz.prog.underlying t=some (.map kt e)) {key:Value} {kl:Lit} (hkey:keyOf Tryz.prog kt key=some kl) (ty:TypeId):
 ∃w',(Builtin.delete_ #[t,kt] ty #[.map (some b),key]).run Tryz.prog w= .ok (.tuple #[]) w'∧MapR w' kt b (if (f kl).isSome then n - 1 else n) (delF f kl)∧Mod (fun k=>k=b) w w':=by
 obtain ⟨D,h1,h2,h3,h4⟩:=h
 obtain ⟨w',hrun,r1,r2⟩:=h1.drop K ht hkey ty
 have hs:=Maps.size_del (k:=kl) (h1.tidy K)
 rw [h2,h4] at hs
 have hs2:Maps.size (D.del kl)=if (f kl).isSome then n - 1 else n:=by split at hs<;>simp_all<;>omega
 refine ⟨w',hrun,⟨D.del kl, ?_,hs2,fun k z=> ?_,fun k=> ?_⟩,grown_mod r2.grown⟩
 ·rw [←hs2];exact ownsMap_tight r1
 ·unfold delF
  by_cases e:k=kl
  ·subst e;rw [if_pos rfl,Maps.atKey_del_same];rfl
  ·rw [if_neg e,Maps.atKey_del_other e,h3]
 ·unfold delF
  by_cases e:k=kl
  ·subst e;rw [if_pos rfl,Maps.has_del_same];rfl
  ·rw [if_neg e,Maps.has_del_other e,h4]
theorem wpList_mput_lit {w:World} {ops:Array Oper} {rest:List Oper} {a:Act} {Q:Exit→Act→World→Prop} {d:Option Tmp} {tp:TypeId} {pos:String} {af:Array Edge} (t:TypeId) (m x v:Operand)
 (h:∃(kt e:TypeId) (b n:Nat) (f:Lit→Option Value) (kl:Lit),MapR w kt b n f∧Maps.Keyed Tryz.prog kt∧Tryz.prog.underlying t=some (.map kt e)∧n<maxLen∧a.eval m= .map (some b)∧keyOf Tryz.prog kt (a.eval x)=some kl∧
   ∀w',MapR w' kt b (if (f kl).isSome then n else n+1) (putF f kl (a.eval v))→Mod (fun k=>k=b) w w'→wpList Tryz.prog ops Q rest (a.put d undef) w'):
 wpList Tryz.prog ops Q (⟨d,.mapUpdate t m x v,tp,pos,af,none⟩::rest) a w:=by
 obtain ⟨kt,e,b,n,f,kl,h1,K,ht,hn,hm,hkey,hK⟩:=h
 refine wpList_plain rfl fun K' hK'=> ?_
 obtain ⟨w',hrun,r1,r2⟩:=h1.put K ht hn hkey (a.eval v)
 unfold Oper.wp
 simp [execOp,hm,hrun,Result.andThen]
 exact hK' _ _ (hK w' r1 r2)
end Go.Proofs.YtaenebdppkjhoaaGreatDoor
namespace Go.Proofs
open Go.Shelf
def Tryz.isorted96_ren:Go.Shelf.Ren:=⟨fun|6=>96|8=>129|9=>82|11=>175|13=>116|12=>115|23=>162|24=>163|14=>153|15=>154|16=>155|17=>156|18=>157|19=>158|20=>159|21=>160|22=>161|25=>186|26=>187|27=>188|28=>189|29=>190|30=>191|31=>211|n=>n,fun|26=>9|28=>177|24=>74|0=>0|3=>3|37=>194|48=>231|50=>221|4=>4|40=>225|39=>224|45=>166|5=>5|9=>9|51=>244|55=>248|57=>271|58=>272|33=>76|n=>n,fun|n=>n⟩
theorem Tryz.isorted96:Go.Proofs.SlLaysZ.n6 Tryz.prog Tryz.isorted96_ren:={
 mixed:=by kernel_rfl
 f6:=⟨Tryz.f96.name,by decide,Tryz.func96.trans (congrArg some (by kernel_rfl))⟩
 f8:=⟨Tryz.f129.name,by decide,Tryz.func129.trans (congrArg some (by kernel_rfl))⟩
 f11:=⟨Tryz.f175.name,by decide,Tryz.func175.trans (congrArg some (by kernel_rfl))⟩
 t0:=Tryz.underlying0
 a0:=Tryz.isAgg0
 z0:=Tryz.sizeOf0
 v0:=Tryz.zeroValue0
 t24:=Tryz.underlying74
 a24:=Tryz.isAgg74
 z24:=Tryz.sizeOf74
 v24:=Tryz.zeroValue74
 t26:=Tryz.underlying9
 a26:=Tryz.isAgg9
 z26:=Tryz.sizeOf9
 v26:=Tryz.zeroValue9
 t28:=Tryz.underlying177
 a28:=Tryz.isAgg177
 z28:=Tryz.sizeOf177
 v28:=Tryz.zeroValue177
 i26:=by kernel_rfl}
def Tryz.isort82_ren:Go.Shelf.Ren:=⟨fun|6=>82|8=>116|9=>115|19=>162|20=>163|21=>153|22=>154|23=>155|24=>156|25=>157|26=>158|27=>159|28=>160|29=>161|36=>186|31=>187|32=>188|37=>189|38=>190|39=>191|41=>211|n=>n,fun|27=>74|29=>9|3=>3|32=>194|26=>74|0=>0|44=>231|46=>221|4=>4|36=>225|35=>224|41=>166|5=>5|9=>9|53=>244|57=>248|63=>271|64=>272|n=>n,fun|n=>n⟩
theorem Tryz.isort82:Go.Proofs.SlLaysM.n6 Tryz.prog Tryz.isort82_ren:={
 mixed:=by kernel_rfl
 f6:=⟨Tryz.f82.name,by decide,Tryz.func82.trans (congrArg some (by kernel_rfl))⟩
 f8:=Tryz.func116.trans (congrArg some (by kernel_rfl))
 f9:=⟨Tryz.f115.name,by decide,Tryz.func115.trans (congrArg some (by kernel_rfl))⟩
 f19:=Tryz.func162.trans (congrArg some (by kernel_rfl))
 f20:=Tryz.func163.trans (congrArg some (by kernel_rfl))
 f21:=⟨Tryz.f153.name,by decide,Tryz.func153.trans (congrArg some (by kernel_rfl))⟩
 f22:=⟨Tryz.f154.name,by decide,Tryz.func154.trans (congrArg some (by kernel_rfl))⟩
 f23:=⟨Tryz.f155.name,by decide,Tryz.func155.trans (congrArg some (by kernel_rfl))⟩
 f24:=⟨Tryz.f156.name,by decide,Tryz.func156.trans (congrArg some (by kernel_rfl))⟩
 f25:=⟨Tryz.f157.name,by decide,Tryz.func157.trans (congrArg some (by kernel_rfl))⟩
 f26:=⟨Tryz.f158.name,by decide,Tryz.func158.trans (congrArg some (by kernel_rfl))⟩
 f27:=⟨Tryz.f159.name,by decide,Tryz.func159.trans (congrArg some (by kernel_rfl))⟩
 f28:=⟨Tryz.f160.name,by decide,Tryz.func160.trans (congrArg some (by kernel_rfl))⟩
 f29:=⟨Tryz.f161.name,by decide,Tryz.func161.trans (congrArg some (by kernel_rfl))⟩
 f31:=Tryz.func187.trans (congrArg some (by kernel_rfl))
 f32:=Tryz.func188.trans (congrArg some (by kernel_rfl))
 f36:=⟨Tryz.f186.name,by decide,Tryz.func186.trans (congrArg some (by kernel_rfl))⟩
 f37:=⟨Tryz.f189.name,by decide,Tryz.func189.trans (congrArg some (by kernel_rfl))⟩
 f38:=⟨Tryz.f190.name,by decide,Tryz.func190.trans (congrArg some (by kernel_rfl))⟩
 f39:=⟨Tryz.f191.name,by decide,Tryz.func191.trans (congrArg some (by kernel_rfl))⟩
 f41:=⟨Tryz.f211.name,by decide,Tryz.func211.trans (congrArg some (by kernel_rfl))⟩
 t0:=Tryz.underlying0
 a0:=Tryz.isAgg0
 z0:=Tryz.sizeOf0
 v0:=Tryz.zeroValue0
 t3:=Tryz.underlying3
 a3:=Tryz.isAgg3
 z3:=Tryz.sizeOf3
 v3:=Tryz.zeroValue3
 t4:=Tryz.underlying4
 a4:=Tryz.isAgg4
 z4:=Tryz.sizeOf4
 v4:=Tryz.zeroValue4
 t5:=Tryz.underlying5
 a5:=Tryz.isAgg5
 z5:=Tryz.sizeOf5
 v5:=Tryz.zeroValue5
 t9:=Tryz.underlying9
 a9:=Tryz.isAgg9
 z9:=Tryz.sizeOf9
 v9:=Tryz.zeroValue9
 t26:=Tryz.underlying74
 a26:=Tryz.isAgg74
 z26:=Tryz.sizeOf74
 v26:=Tryz.zeroValue74
 t27:=Tryz.underlying74
 a27:=Tryz.isAgg74
 z27:=Tryz.sizeOf74
 v27:=Tryz.zeroValue74
 t29:=Tryz.underlying9
 a29:=Tryz.isAgg9
 z29:=Tryz.sizeOf9
 v29:=Tryz.zeroValue9
 t32:=Tryz.underlying194
 a32:=Tryz.isAgg194
 z32:=Tryz.sizeOf194
 v32:=Tryz.zeroValue194
 t35:=Tryz.underlying224
 a35:=Tryz.isAgg224
 z35:=Tryz.sizeOf224
 v35:=Tryz.zeroValue224
 t36:=Tryz.underlying225
 a36:=Tryz.isAgg225
 z36:=Tryz.sizeOf225
 v36:=Tryz.zeroValue225
 t41:=Tryz.underlying166
 a41:=Tryz.isAgg166
 z41:=Tryz.sizeOf166
 v41:=Tryz.zeroValue166
 t44:=Tryz.underlying231
 a44:=Tryz.isAgg231
 z44:=Tryz.sizeOf231
 v44:=Tryz.zeroValue231
 t46:=Tryz.underlying221
 a46:=Tryz.isAgg221
 z46:=Tryz.sizeOf221
 v46:=Tryz.zeroValue221
 t53:=Tryz.underlying244
 a53:=Tryz.isAgg244
 z53:=Tryz.sizeOf244
 v53:=Tryz.zeroValue244
 t57:=Tryz.underlying248
 a57:=Tryz.isAgg248
 z57:=Tryz.sizeOf248
 v57:=Tryz.zeroValue248
 t63:=Tryz.underlying271
 a63:=Tryz.isAgg271
 z63:=Tryz.sizeOf271
 v63:=Tryz.zeroValue271
 t64:=Tryz.underlying272
 a64:=Tryz.isAgg272
 z64:=Tryz.sizeOf272
 v64:=Tryz.zeroValue272}
def Tryz.ikeys97_ren:Go.Shelf.Ren:=⟨fun|7=>97|10=>130|n=>n,fun|23=>174|26=>9|3=>33|28=>177|0=>0|27=>176|33=>76|4=>4|n=>n,fun|n=>n⟩
theorem Tryz.ikeys97:Go.Proofs.SlLaysZ.n7 Tryz.prog Tryz.ikeys97_ren:={
 mixed:=by kernel_rfl
 f7:=⟨Tryz.f97.name,by decide,Tryz.func97.trans (congrArg some (by kernel_rfl))⟩
 f10:=⟨Tryz.f130.name,by decide,Tryz.func130.trans (congrArg some (by kernel_rfl))⟩
 t0:=Tryz.underlying0
 a0:=Tryz.isAgg0
 z0:=Tryz.sizeOf0
 v0:=Tryz.zeroValue0
 t4:=Tryz.underlying4
 a4:=Tryz.isAgg4
 z4:=Tryz.sizeOf4
 v4:=Tryz.zeroValue4
 t23:=Tryz.underlying174
 a23:=Tryz.isAgg174
 z23:=Tryz.sizeOf174
 v23:=Tryz.zeroValue174
 t26:=Tryz.underlying9
 a26:=Tryz.isAgg9
 z26:=Tryz.sizeOf9
 v26:=Tryz.zeroValue9
 t27:=Tryz.underlying176
 a27:=Tryz.isAgg176
 z27:=Tryz.sizeOf176
 v27:=Tryz.zeroValue176
 t28:=Tryz.underlying177
 a28:=Tryz.isAgg177
 z28:=Tryz.sizeOf177
 v28:=Tryz.zeroValue177
 t33:=Tryz.underlying76
 a33:=Tryz.isAgg76
 z33:=Tryz.sizeOf76
 v33:=Tryz.zeroValue76}
open Go.RowKit Go.Maps Go.Sort in
theorem Tryz.isorts97 (m:Nat):AnyZ.SortsIn Tryz.prog Tryz.isorted96_ren Fence.wide m:=
 ⟨fun blk off cap ss W hH hblk hsz=>callsIn_wide.2 (AnyM.slices_Sort_string Tryz.isort82 blk off cap ss W hH hblk hsz),
  fun p cap W=>callsIn_wide.2 (AnyM.slices_Sort_string_none Tryz.isort82 p cap W)⟩
open Go.RowKit Go.Maps Go.Sort in
theorem Tryz.maps_Keys_97 (mb:Option Nat) (W:World):Calls Tryz.prog 97 #[.map mb] W fun e w'=>e= .returned (.func (.func 130) #[] #[.pointer (some ⟨W.heap.size,0,none⟩)])∧w'=W.alloc (.cells #[.map mb] 174):=
 (callsIn_wide (n:=5)).1 (AnyZ.keys_in Tryz.ikeys97 Fence.wide 5 trivial rfl mb W)
open Go.RowKit Go.Maps Go.Sort in
theorem Tryz.slices_Sorted_97 {H:Type} (b nn:Nat) (D0:DataW H) (R:Value→Option (DataW H×List MemPlace)) (w:World) (hown:w.ownsMap Tryz.prog 9 R b nn D0) (hmax:Maps.size D0≤maxLen) (hbytes:Maps.size D0*16≤140737488355328):
 Calls Tryz.prog 96 #[.func (.func 130) #[] #[.pointer (some ⟨w.heap.size,0,none⟩)]] (w.alloc (.cells #[.map (some b)] 174)) fun e w'=>∃(v:Value) (ss:List (List UInt8)),e= .returned v∧ss.Perm (strKeys D0)∧
  w'.ownsRow (w.alloc (.cells #[.map (some b)] 174)).heap.size 9 1 v ss.length ((ss.mergeSort (fun x y=>decide (x≤y))).map encStr)∧(v= .slice none 0 0↔ss=[])∧Below (w.alloc (.cells #[.map (some b)] 174)).heap.size (w.alloc (.cells #[.map (some b)] 174)) w':=by
 have hbl:=hown.lt
 have hseq:SeqGives Fence.wide 2 Tryz.prog 130 #[.pointer (some ⟨w.heap.size,0,none⟩)] encStr (fun ss=>ss.Perm (strKeys D0)) (Maps.size D0) (w.alloc (.cells #[.map (some b)] 174)):=
  AnyZ.keys_gives (ρ:=Tryz.ikeys97_ren) {Tryz.ikeys97 with} Fence.wide _ trivial rfl (by omega) w.heap.size b nn D0 _ (by simp) (by simp) (by
   obtain ⟨es,clock,hb,Ft,hs,hD⟩:=hown
   exact ⟨es,clock,(Below.heap_alloc _ _ b hbl).trans hb,Ft,hs,hD⟩)
 exact (callsIn_wide (n:=5)).1 (AnyZ.sorted_in Tryz.isorted96 Fence.wide 5 trivial trivial trivial trivial rfl (by omega) (Tryz.isorts97 _) (enters_of Tryz.func82 (by kernel_rfl) rfl) 130 #[.pointer (some ⟨w.heap.size,0,none⟩)] trivial (enters_of Tryz.func130 (by kernel_rfl) rfl) _ _ hmax hbytes _ hseq)
open Go.RowKit Go.Maps Go.Sort in
theorem Tryz.slices_Sorted_nil_97 (w:World):
 Calls Tryz.prog 96 #[.func (.func 130) #[] #[.pointer (some ⟨w.heap.size,0,none⟩)]] (w.alloc (.cells #[.map none] 174)) fun e w'=>e= .returned (.slice none 0 0)∧Below (w.alloc (.cells #[.map none] 174)).heap.size (w.alloc (.cells #[.map none] 174)) w':=by
 have hseq:SeqGives Fence.wide 2 Tryz.prog 130 #[.pointer (some ⟨w.heap.size,0,none⟩)] encStr (fun ss:List (List UInt8)=>ss=[]) 0 (w.alloc (.cells #[.map none] 174)):=
  AnyZ.keys_gives_nil (ρ:=Tryz.ikeys97_ren) {Tryz.ikeys97 with} Fence.wide _ trivial rfl w.heap.size _ (by simp) (by simp)
 refine ((callsIn_wide (n:=5)).1 (AnyZ.sorted_in Tryz.isorted96 Fence.wide 5 trivial trivial trivial trivial rfl (by omega) (Tryz.isorts97 _) (enters_of Tryz.func82 (by kernel_rfl) rfl) 130 #[.pointer (some ⟨w.heap.size,0,none⟩)] trivial (enters_of Tryz.func130 (by kernel_rfl) rfl) _ 0 (Nat.zero_le _) (by omega) _ hseq)).mono ?_
 rintro e w' ⟨v,ss,rfl,rfl,hrow,hnil,hb⟩
 obtain rfl:v= .slice none 0 0:=hnil.2 rfl
 exact ⟨rfl,hb⟩
end Go.Proofs
