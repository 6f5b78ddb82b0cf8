/- Lemmas of this claim. -/
import Derived.Test.YtaenebdppkjhoaaGreatDoorZd4
import Derived.Lib.Bytealg
import Derived.OrdersHeld
import Derived.KernelRfl
namespace Go.Proofs.YtaenebdppkjhoaaGreatDoor
set_option maxRecDepth 20000
set_option maxHeartbeats 40000000
section
open Go.RowKit
theorem less_cons (a b:UInt8) (s t:List UInt8):Op.bytesLess (a::s) (b::t)=if a<b then true else if b<a then false else Op.bytesLess s t:=by
 rw [Op.bytesLess]
 by_cases h1:a<b
 ·simp [h1]
 ·by_cases h2:b<a
  ·have h3:(a==b)=false:=by
    rw [beq_eq_false_iff_ne]
    rintro rfl
    exact h1 h2
   simp [h1,h2,h3]
  ·have h3:a=b:=UInt8.toNat.inj (by
    have h4:¬a.toNat<b.toNat:=h1
    have h5:¬b.toNat<a.toNat:=h2
    omega)
   simp [h3]
theorem cmp_cons (a b:UInt8) (s t:List UInt8):Lib.compareBytes (a::s) (b::t)=if a<b then -1 else if b<a then 1 else Lib.compareBytes s t:=by
 rw [Lib.compareBytes]
theorem cmp_less:∀a b:List UInt8,(Lib.compareBytes a b<0)↔Op.bytesLess a b=true
 |[],[]=>by decide
 |[],b::t=>by simp [Lib.compareBytes,Op.bytesLess]
 |a::s,[]=>by simp [Lib.compareBytes,Op.bytesLess]
 | a::s,b::t=>by
  rw [less_cons,cmp_cons]
  split
  ·simp
  ·split
   ·simp
   ·exact cmp_less s t
theorem cmp_zero:∀a b:List UInt8,(Lib.compareBytes a b=0)↔a=b
 |[],[]=>by decide
 |[],b::t=>by simp [Lib.compareBytes]
 |a::s,[]=>by simp [Lib.compareBytes]
 | a ::s,b::t=>by
  rw [cmp_cons]
  split
  ·rename_i h
   constructor
   ·intro h';cases h'
   ·intro h';cases h';exact absurd h (by simp)
  ·rename_i h
   split
   ·rename_i h1
    constructor
    ·intro h';cases h'
    ·intro h';cases h';exact absurd h1 h
   ·rename_i h1
    have hab:a=b:=by
     have h2:¬a.toNat<b.toNat:=h
     have h3:¬b.toNat<a.toNat:=h1
     exact UInt8.toNat.inj (by omega)
    subst hab
    rw [cmp_zero s t]
    simp
theorem less_trans:∀a b c:List UInt8,Op.bytesLess a b=true→Op.bytesLess b c=true→Op.bytesLess a c=true
 |_,[],[],_,h=>by simp [Op.bytesLess] at h
 |[],[],_::_,h,_=>by simp [Op.bytesLess] at h
 |_::_,[],_::_,h,_=>by simp [Op.bytesLess] at h
 |_,_::_,[],_,h=>by simp [Op.bytesLess] at h
 |[],_::_,_::_,_,_=>by simp [Op.bytesLess]
 | a ::s,b::t,c::u,h,k=>by
  rw [less_cons] at h k⊢
  have e:∀x y:UInt8,x<y↔x.toNat<y.toNat:=fun _ _=>Iff.rfl
  by_cases h1:a<b
  ·by_cases k1:b<c
   ·rw [if_pos (by rw [e] at*;omega)]
   ·by_cases k2:c<b
    ·rw [if_neg k1,if_pos k2] at k;cases k
    ·rw [if_pos (by rw [e] at*;omega)]
  ·by_cases h2:b<a
   ·rw [if_neg h1,if_pos h2] at h;cases h
   ·rw [if_neg h1,if_neg h2] at h
    by_cases k1:b<c
    ·rw [if_pos (by rw [e] at*;omega)]
    ·by_cases k2:c<b
     ·rw [if_neg k1,if_pos k2] at k;cases k
     ·rw [if_neg k1,if_neg k2] at k
      rw [if_neg (by rw [e] at*;omega),if_neg (by rw [e] at*;omega)]
      exact less_trans s t u h k
theorem cmps_at (a b:ByteArray) (w:World):Calls Tryz.prog 111 #[.string a,.string b] w fun e w'=>e= .returned (.int .i64 (Lib.compareBytes a.data.toList b.data.toList))∧w'=w:=by
 go_enter Tryz.func111,Tryz.ntmps111
 go_wp2
 rw [run_callFunc_extern Tryz.func146 (by kernel_rfl) (by kernel_rfl) (by kernel_rfl) (e:=Extern.BytealgCompare.compare) (by kernel_rfl),Lib.run_compareString]
 simp only [Result.andThen]
 rw [Oper.upon_value]
 go_wp2
 go_ret
 exact ⟨rfl,rfl⟩
theorem cmp_at (a b:ByteArray) (w:World):Calls Tryz.prog 75 #[.string a,.string b] w fun e w'=>e= .returned (.int .i64 (Lib.compareBytes a.data.toList b.data.toList))∧w'=w:=by
 go_enter Tryz.func75,Tryz.ntmps75
 go_wp2_with fail
 refine (cmps_at a b w).mono ?_
 rintro e w' ⟨rfl,rfl⟩
 go_wp2
 go_ret
 exact ⟨rfl,rfl⟩
section
variable {P:Program} {ops:Array Oper} {Q:Exit→Act→World→Prop} {md:Region.Mode} {S:World→Prop} {T:Nat→Bool}
def reachB (md:Region.Mode) (ops:Array Oper):Nat→Nat→Nat→Bool
 |0,_,_=>false
 |fuel+1,j,i=>match ops[j]? with
  |some o=>o.after.any fun e=>Region.binds md e&&(e.on==i||reachB md ops fuel e.on i)
  |none=>false
def ClosedL (md:Region.Mode) (ops:Array Oper) (listed:Array Bool):Prop:=
 ∀j oj,ops[j]? =some oj→listed.getD j false=true→∀e∈oj.after,Region.binds md e=true→listed.getD e.on false=true
theorem ClosedL.reach {listed:Array Bool} (hc:ClosedL md ops listed):∀(fuel j i:Nat),listed.getD j false=true→reachB md ops fuel j i=true→listed.getD i false=true
 |0,_,_,_,h=>by simp [reachB] at h
 | fuel+1,j,i,hj,h=>by
  unfold reachB at h
  split at h
  ·rename_i o ho
   obtain ⟨e,he,hb⟩:=Array.any_eq_true'.1 h
   simp only [Bool.and_eq_true,Bool.or_eq_true,beq_iff_eq] at hb
   have hl:=hc j o ho hj e he hb.1
   rcases hb.2 with rfl|hr
   ·exact hl
   ·exact hc.reach fuel e.on i hl hr
  ·cases h
theorem reach_ready {listed:Array Bool} (hc:ClosedL md ops listed) {fuel j i:Nat} (hj:j∈Region.ready md ops listed) (h:reachB md ops fuel j i=true):listed.getD i false=true:=by
 cases fuel with
 |zero=>simp [reachB] at h
 |succ fuel=>
  obtain ⟨_,o,ho,hall⟩:=mem_ready.1 hj
  unfold reachB at h
  simp only [ho] at h
  obtain ⟨e,he,hb⟩:=Array.any_eq_true'.1 h
  simp only [Bool.and_eq_true,Bool.or_eq_true,beq_iff_eq] at hb
  have hl:=hall e he hb.1
  rcases hb.2 with rfl|hr
  ·exact hl
  ·exact hc.reach fuel e.on i hl hr
theorem ClosedL.set {listed:Array Bool} (hc:ClosedL md ops listed) {j:Nat} (hj:j∈Region.ready md ops listed):ClosedL md ops (listed.setIfInBounds j true):=by
 intro k ok hk hl e he hb
 by_cases hjk:j=k
 ·subst hjk
  obtain ⟨_,o,ho,hall⟩:=mem_ready.1 hj
  obtain rfl:o=ok:=Option.some.inj (ho.symm.trans hk)
  exact getD_set_true (hall e he hb)
 ·rw [getD_set_ne false hjk] at hl
  exact getD_set_true (hc k ok hk hl e he hb)
def wpAnyG (P:Program) (md:Region.Mode) (ops:Array Oper) (Q:Exit→Act→World→Prop) (S:World→Prop) (T:Nat→Bool):Nat→Array Bool→Act→World→Prop
 |0,listed,a,w=>Region.ready md ops listed=[]∧Q .normal a w
 |fuel+1,listed,a,w=>
  (Region.ready md ops listed=[]→Q .normal a w)∧
  ∀i∈Region.ready md ops listed,wpOp P ops Q i (fun a' w'=>(T i=true→S w→S w')∧wpAnyG P md ops Q S T fuel (listed.setIfInBounds i true) a' w') a w
theorem wpAny_of_G:∀(fuel:Nat) (listed:Array Bool) (a:Act) (w:World),wpAnyG P md ops Q S T fuel listed a w→wpAny P md ops Q fuel listed a w
 |0,_,_,_,h=>h
 |fuel+1,_,_,_,h=>⟨h.1,fun i hi=>wpOp_mono (fun a' w' h'=>wpAny_of_G fuel _ a' w' h'.2) (h.2 i hi)⟩
theorem wpAnyG_first {S':World→Prop} {i:Nat} {oi:Oper} {v:Value} (hi:ops[i]? =some oi) (hsel:∀(j:Nat) (o:Oper) cs b,ops[j]? =some o→o.op≠ .select cs b)
 (hQ:∀c a w,Q (.panic c) (a.put oi.dst v) w→Q (.panic c) a w):
 ∀(fuel:Nat) (listed:Array Bool) (a:Act) (w:World),ClosedL md ops listed→
  (∀j oj,ops[j]? =some oj→j≠i→listed.getD j true=false→(∀e∈oj.after,Region.binds md e=true→e.on≠i)→oi.apart ops oj=true)→
  (∀j,j<ops.size→j≠i→listed.getD j true=false→reachB md ops ops.size j i=false→∀w w',(T j=true→S w→S w')→S' w→S' w')→
  i∈Region.ready md ops listed→YieldsIf P ops S' oi v a→S' w→
  wpAnyG P md ops Q S T fuel (listed.setIfInBounds i true) (a.put oi.dst v) w→wpAnyG P md ops Q S T (fuel+1) listed a w:=by
 intro fuel
 induction fuel with
 | zero=>
  intro listed a w hc _ _ hr hy hS' H
  refine ⟨fun h=>(by rw [h] at hr;cases hr),fun j hj=> ?_⟩
  by_cases hji:j=i
  ·subst hji;exact hy.wpOp hi hS' ⟨fun _ h=>h,H⟩
  ·have:=ready_mono hj hji
   rw [H.1] at this
   cases this
 | succ fuel ih=>
  intro listed a w hc hfree hT hr hy hS' H
  refine ⟨fun h=>(by rw [h] at hr;cases hr),fun j hj=> ?_⟩
  by_cases hji:j=i
  ·subst hji;exact hy.wpOp hi hS' ⟨fun _ h=>h,H⟩
  ·have h1:=H.2 j (ready_mono hj hji)
   obtain ⟨hjun,oj,hoj,hall⟩:=mem_ready.1 hj
   have hiun:listed.getD i false=false:=by
    have h0:=(mem_ready.1 hr).1
    rcases Nat.lt_or_ge i listed.size with h'|h'
    ·simp [h'] at h0⊢;exact h0
    ·simp [Array.getElem?_eq_none h'] at h0
   have hnot:∀e∈oj.after,Region.binds md e=true→e.on≠i:=fun e he hb heq=>by
    have h1:=hall e he hb
    rw [heq,hiun] at h1
    cases h1
   have hreach:reachB md ops ops.size j i=false:=by
    cases hb:reachB md ops ops.size j i with
    |false=>rfl
    |true=>have:=reach_ready hc hj hb;rw [hiun] at this;cases this
   have h2:=wpOp_putIf hoj (hfree j oj hoj hji hjun hnot) (fun cs b=>hsel i oi cs b hi) (fun cs b=>hsel j oj cs b hoj) hQ hy h1
   have hfree':∀k ok,ops[k]? =some ok→k≠i→(listed.setIfInBounds j true).getD k true=false→
    (∀e∈ok.after,Region.binds md e=true→e.on≠i)→oi.apart ops ok=true:=fun k ok hk hki hun hno=>by
    refine hfree k ok hk hki ?_ hno
    by_cases hjk:j=k
    ·subst hjk;exact hjun
    ·rw [getD_set_ne true hjk] at hun;exact hun
   have hT':∀k,k<ops.size→k≠i→(listed.setIfInBounds j true).getD k true=false→reachB md ops ops.size k i=false→∀w w',(T k=true→S w→S w')→S' w→S' w':=fun k hks hki hun hno=>by
    refine hT k hks hki ?_ hno
    by_cases hjk:j=k
    ·subst hjk;exact hjun
    ·rw [getD_set_ne true hjk] at hun;exact hun
   have hSj:=hT j (Array.getElem?_eq_some_iff.1 hoj).1 hji hjun hreach
   refine wpOp_mono (fun a' w' h3=> ?_) h2
   obtain ⟨hy3,hTS,H3⟩:=h3
   exact ⟨hTS,ih (listed.setIfInBounds j true) a' w' (hc.set hj) hfree' hT' (ready_mono hr (Ne.symm hji)) hy3 (hSj w w' hTS hS') (by rw [Array.setIfInBounds_comm _ _ hji];exact H3)⟩
def pureOp:Op→Bool
 | .move _| .assign _| .pick .. | .nilCheck _| .fieldAddr .. | .field .. | .binOp .. | .unOp .. | .build .. | .extract .. | .indexAddr .. | .slice .. =>true
 | .call {callee:= .builtin .len,..}=>true
 | .call {callee:= .builtin .cap,..}=>true
 |_=>false
def Reads (P:Program) {α:Type} (c:Sem α):Prop:=∀w,(∃v,c.run P w= .ok v w)∨∃e w',c.run P w= .halt e w'
def Makes (P:Program) {α:Type} (c:Sem α):Prop:=∀w,(∃v x,c.run P w= .ok v (World.alloc w x))∨∃e w',c.run P w= .halt e w'
theorem Reads.pure {α:Type} (v:α):Reads P (Pure.pure v:Sem α):=fun w=> .inl ⟨v,by simp⟩
theorem Reads.halt {α:Type} (e:Halt):Reads P (Sem.halt e:Sem α):=fun w=> .inr ⟨e,w,rfl⟩
theorem Makes.halt {α:Type} (e:Halt):Makes P (Sem.halt e:Sem α):=fun w=> .inr ⟨e,w,rfl⟩
theorem Reads.bind {α β:Type} {c:Sem α} {f:α→Sem β} (h:Reads P c) (hf:∀v,Reads P (f v)):Reads P (c>>=f):=fun w=>by
 rw [Sem.run_bind]
 rcases h w with ⟨v,hv⟩|⟨e,w',he⟩
 ·rw [hv];exact hf v w
 ·rw [he];exact .inr ⟨e,w',rfl⟩
theorem Makes.bind {α β:Type} {c:Sem α} {f:α→Sem β} (h:Reads P c) (hf:∀v,Makes P (f v)):Makes P (c>>=f):=fun w=>by
 rw [Sem.run_bind]
 rcases h w with ⟨v,hv⟩|⟨e,w',he⟩
 ·rw [hv];exact hf v w
 ·rw [he];exact .inr ⟨e,w',rfl⟩
theorem Reads.typeInfo (t:TypeId):Reads P (typeInfo t):=fun w=>by
 unfold Go.typeInfo
 cases hq:P.info? t with
 |none=>exact .inr ⟨.stuck _,w,by simp [hq,stuck];rfl⟩
 |some i=>exact .inl ⟨i,by simp [hq]⟩
theorem Reads.underlying (t:TypeId):Reads P (underlying t):=fun w=>by
 unfold Go.underlying
 cases hq:P.underlying t with
 |none=>exact .inr ⟨.stuck _,w,by simp [hq,stuck];rfl⟩
 |some i=>exact .inl ⟨i,by simp [hq]⟩
theorem Reads.sizeOf (t:TypeId):Reads P (sizeOf t):=by
 unfold Go.sizeOf
 exact Reads.bind (Reads.typeInfo t) fun v=>Reads.pure _
theorem Reads.zeroValue (t:TypeId):Reads P (zeroValue t):=by
 unfold Go.zeroValue
 refine Reads.bind (Reads.typeInfo t) fun v=> ?_
 cases v.zero with
 |none=>exact Reads.halt _
 |some z=>exact Reads.pure z
theorem Makes.newRow (t:TypeId) (cs:Array Value) (f:Addr→Value):Makes P (do Pure.pure (f (←newRow t cs))):=fun w=> .inl ⟨f ⟨w.heap.size,0,none⟩,.cells cs t,by simp [Go.newRow]⟩
theorem Makes.buildSlice (t:TypeId) (n:Nat) (parts:Array (Nat×Value)):Makes P (Instr.buildSlice t n parts):=by
 unfold Instr.buildSlice
 refine Makes.bind (Reads.underlying t) fun d=> ?_
 split
 ·rename_i elem
  refine Makes.bind (Reads.sizeOf elem) fun size=> ?_
  have fin:∀zero:Array Value,Makes P (match Instr.fill (fun i=>some (i*size,size)) ((Array.range (n*size)).map (zero[· %zero.size]!)) parts.toList with
   |some cells=>(do Pure.pure (Value.slice (some (←Go.newRow elem cells)) n n):Sem Value)
   |_=>stuck "buildSlice: a part of the wrong size"):=fun zero=>by
   split
   ·rename_i cells _
    exact Makes.newRow elem cells fun a=> .slice (some a) n n
   ·exact Makes.halt _
  split
  ·dsimp only
   split
   ·exact Makes.bind (Reads.halt _) fun _=>fin _
   ·exact fin _
  ·dsimp only
   split
   ·exact Makes.bind (Reads.halt _) fun _=>Makes.bind (Reads.zeroValue elem) fun z=>fin z.cells
   ·exact Makes.bind (Reads.zeroValue elem) fun z=>fin z.cells
 ·exact Makes.halt _
end
end
section
open Go.RowKit
inductive Stp where
 |rd (i:Nat)
 |go (i:Nat)
 |both (i j:Nat)
section
variable {P:Program} {ops:Array Oper} {Q:Exit→Act→World→Prop} {md:Region.Mode} {S:World→Prop} {T:Nat→Bool}
def scriptOk (md:Region.Mode) (ops:Array Oper) (T:Nat→Bool):List Stp→Array Bool→Bool
 |[],listed=>(Region.ready md ops listed).isEmpty
 | .rd i::r,listed=>decide (i<ops.size)&&Region.free md ops listed i&&(Region.ready md ops listed).contains i&&
  (((ops[i]?).map (fun o=>pureOp o.op)).getD false||(List.range ops.size).all fun j=>j==i||listed.getD j true||reachB md ops ops.size j i||T j)&&
  scriptOk md ops T r (listed.setIfInBounds i true)
 | .go i::r,listed=>Region.ready md ops listed==[i]&&scriptOk md ops T r (listed.setIfInBounds i true)
 | .both i j::r,listed=>decide (i≠j)&&Region.ready md ops listed==[i,j]&&Region.ready md ops (listed.setIfInBounds i true)==[j]&&Region.ready md ops (listed.setIfInBounds j true)==[i]&&
  scriptOk md ops T r ((listed.setIfInBounds i true).setIfInBounds j true)
def count:List Stp→Nat
 |[]=>0
 | .rd _::r=>count r+1
 | .go _::r=>count r+1
 | .both _ _::r=>count r+2
def goOp (P:Program) (ops:Array Oper) (Q:Exit→Act→World→Prop) (S:World→Prop) (T:Nat→Bool) (i:Nat) (K:Act→World→Prop) (a:Act) (w:World):Prop:=
 wpOp P ops Q i (fun a' w'=>(T i=true→S w→S w')∧K a' w') a w
def walkM (P:Program) (ops:Array Oper) (Q:Exit→Act→World→Prop) (S:World→Prop) (T:Nat→Bool):List Stp→Act→World→Prop
 |[],a,w=>Q .normal a w
 | .rd i::r,a,w=>∀o,ops[i]? =some o→(pureOp o.op=false→S w)∧∃v,YieldsIf P ops (fun w=>pureOp o.op=false→S w) o v a∧walkM P ops Q S T r (a.put o.dst v) w
 | .go i::r,a,w=>goOp P ops Q S T i (fun a' w'=>walkM P ops Q S T r a' w') a w
 | .both i j::r,a,w=>goOp P ops Q S T i (goOp P ops Q S T j (fun a' w'=>walkM P ops Q S T r a' w')) a w∧goOp P ops Q S T j (goOp P ops Q S T i (fun a' w'=>walkM P ops Q S T r a' w')) a w
theorem goOp_mono {i:Nat} {K K':Act→World→Prop} {a:Act} {w:World} (h:∀a w,K a w→K' a w) (hh:goOp P ops Q S T i K a w):goOp P ops Q S T i K' a w:=
 wpOp_mono (fun a' w' h'=>⟨h'.1,h a' w' h'.2⟩) hh
theorem walk_all (hsel:Region.noSelect ops=true) (hQ:∀(c:List PanicEntry) (a:Act) (d:Option Tmp) (v:Value) (w:World),Q (.panic c) (a.put d v) w→Q (.panic c) a w):
 ∀(r:List Stp) (listed:Array Bool) (a:Act) (w:World),scriptOk md ops T r listed=true→ClosedL md ops listed→walkM P ops Q S T r a w→wpAnyG P md ops Q S T (count r) listed a w
 |[],listed,a,w,hok,_,h=>by
  simp only [scriptOk,List.isEmpty_iff] at hok
  exact ⟨hok,h⟩
 | .rd i::r,listed,a,w,hok,hc,h=>by
  simp only [scriptOk,Bool.and_eq_true,decide_eq_true_eq] at hok
  obtain ⟨⟨⟨⟨hi,hf⟩,hr⟩,hp⟩,hok⟩:=hok
  obtain ⟨o,ho⟩:∃o,ops[i]? =some o:=⟨_,Array.getElem?_eq_getElem hi⟩
  obtain ⟨hSw,v,hy,h⟩:=h o ho
  have hri:i∈Region.ready md ops listed:=by simpa using hr
  exact wpAnyG_first (S:=S) (T:=T) (S':=fun w=>pureOp o.op=false→S w) ho (Region.noSelect_spec hsel) (fun c a w=>hQ c a o.dst v w) (count r) listed a w hc (Region.free_spec ho hf)
   (fun j hj hji hun hre w w' hT h hpf=>by
     simp only [ho,Option.map_some,Option.getD_some,hpf,Bool.false_or,List.all_eq_true,List.mem_range,Bool.or_eq_true,beq_iff_eq] at hp
     rcases hp j hj with ((h1|h1)|h1)|h1
     ·exact absurd h1 hji
     ·rw [hun] at h1;cases h1
     ·rw [hre] at h1;cases h1
     ·exact hT h1 (h hpf))
   hri hy hSw (walk_all hsel hQ r (listed.setIfInBounds i true) (a.put o.dst v) w hok (hc.set hri) h)
 | .go i::r,listed,a,w,hok,hc,h=>by
  simp only [scriptOk,Bool.and_eq_true,beq_iff_eq] at hok
  obtain ⟨hr,hok⟩:=hok
  have hri:i∈Region.ready md ops listed:=by rw [hr];simp
  refine ⟨fun h0=>(by rw [hr] at h0;cases h0),fun j hj=> ?_⟩
  rw [hr] at hj
  obtain rfl:j=i:=by simpa using hj
  have h:goOp P ops Q S T j (fun a' w'=>walkM P ops Q S T r a' w') a w:=h
  exact wpOp_mono (fun a' w' h'=>⟨h'.1,walk_all hsel hQ r _ a' w' hok (hc.set hri) h'.2⟩) h
 | .both i j::r,listed,a,w,hok,hc,h=>by
  simp only [scriptOk,Bool.and_eq_true,beq_iff_eq,decide_eq_true_eq] at hok
  obtain ⟨⟨⟨⟨hij,hr⟩,hr1⟩,hr2⟩,hok⟩:=hok
  have hri:i∈Region.ready md ops listed:=by rw [hr];simp
  have hrj:j∈Region.ready md ops listed:=by rw [hr];simp
  have hrj2:j∈Region.ready md ops (listed.setIfInBounds i true):=by rw [hr1];simp
  refine ⟨fun h0=>(by rw [hr] at h0;cases h0),fun k hk=> ?_⟩
  rw [hr] at hk
  have hk':k=i∨k=j:=by simpa using hk
  have hA:goOp P ops Q S T i (goOp P ops Q S T j (fun a' w'=>walkM P ops Q S T r a' w')) a w:=h.1
  have hB:goOp P ops Q S T j (goOp P ops Q S T i (fun a' w'=>walkM P ops Q S T r a' w')) a w:=h.2
  rcases hk' with rfl|rfl
  ·refine wpOp_mono (fun a' w' h'=>⟨h'.1, ?_⟩) hA
   refine ⟨fun h0=>(by rw [hr1] at h0;cases h0),fun k' hk'=> ?_⟩
   rw [hr1] at hk'
   obtain rfl:k'=j:=by simpa using hk'
   exact wpOp_mono (fun a' w' h'=>⟨h'.1,walk_all hsel hQ r _ a' w' hok ((hc.set hri).set hrj2) h'.2⟩) h'.2
  ·refine wpOp_mono (fun a' w' h'=>⟨h'.1, ?_⟩) hB
   refine ⟨fun h0=>(by rw [hr2] at h0;cases h0),fun k' hk'=> ?_⟩
   rw [hr2] at hk'
   obtain rfl:k'=i:=by simpa using hk'
   rw [Array.setIfInBounds_comm _ _ hij.symm]
   exact wpOp_mono (fun a' w' h'=>⟨h'.1,walk_all hsel hQ r _ a' w' hok ((hc.set hri).set hrj2) h'.2⟩) h'.2
structure WM (P:Program) (ops:Array Oper) (Q:Exit→Act→World→Prop) (S:World→Prop) (T:Nat→Bool) (r:List Stp) (a:Act) (w:World):Prop where
 out:walkM P ops Q S T r a w
structure GO (P:Program) (ops:Array Oper) (Q:Exit→Act→World→Prop) (S:World→Prop) (T:Nat→Bool) (i:Nat) (K:Act→World→Prop) (a:Act) (w:World):Prop where
 out:goOp P ops Q S T i K a w
theorem wp_region_script {id:Nat} {a:Act} {w:World} {l:List Oper} (r:List Stp) (ks:List Nat) (S:World→Prop) (hm:P.follows .mixedOrders=true)
 (hB:(Region.noSelect l.toArray&&(decide (count r=l.length)&&scriptOk .any l.toArray (fun j=>ks.contains j) r (Array.replicate l.toArray.size false)))=true)
 (hQ:∀(c:List PanicEntry) (a:Act) (d:Option Tmp) (v:Value) (w:World),Q (.panic c) (a.put d v) w→Q (.panic c) a w)
 (h:WM P l.toArray Q S (fun j=>ks.contains j) r a w.drew):(Code.region id l.toArray true).wp P Q a w:=by
 simp only [Bool.and_eq_true,decide_eq_true_eq] at hB
 obtain ⟨hsel,hlen,hok⟩:=hB
 have hcl:ClosedL .any l.toArray (Array.replicate l.toArray.size false):=fun j oj _ hl=>by
  exfalso
  rcases Nat.lt_or_ge j l.toArray.size with h'|h'<;>simp_all
 refine wp_region_any hm (wpAny_of_G (S:=S) (T:=fun j=>ks.contains j) _ _ _ _ ?_)
 have key:=walk_all (md:= .any) (ops:=l.toArray) (P:=P) (Q:=Q) (S:=S) (T:=fun j=>ks.contains j) hsel hQ r (Array.replicate l.toArray.size false) a w.drew hok hcl h.out
 rw [hlen] at key
 simpa using key
theorem walk_nil {a:Act} {w:World} (h:Q .normal a w):WM P ops Q S T [] a w:=⟨h⟩
theorem walk_rd {i:Nat} {r:List Stp} {o:Oper} {a:Act} {w:World} (ho:ops[i]? =some o) (hw:Region.wanted o (yielded ops a.tmps)=true) (hSw:pureOp o.op=false→S w) (v:Value)
 (hy:∀w,(pureOp o.op=false→S w)→(execOp a.eval o).run P w= .ok (.value v) w)
 (h:∀K:Act→Prop,(∀a',WM P ops Q S T r a' w→K a')→K (a.put o.dst v)):WM P ops Q S T (.rd i::r) a w:=
 ⟨fun o' ho'=>by
  obtain rfl:o=o':=Option.some.inj (ho.symm.trans ho')
  exact ⟨hSw,v,.inl ⟨hw,hy⟩,h _ fun _ h=>h.out⟩⟩
theorem go_yes {i:Nat} {o:Oper} {K:Act→World→Prop} {a:Act} {w:World} (ho:ops[i]? =some o) (hw:Region.wanted o (yielded ops a.tmps)=true)
 (h:∀K':Act→World→Prop,(∀a' w',(T i=true→S w→S w')→K a' w'→K' a' w')→o.wp P a w K' Q):GO P ops Q S T i K a w:=by
 constructor
 unfold goOp wpOp
 simp only [ho]
 rw [if_pos hw]
 exact .inl (h _ fun _ _ h1 h2=>⟨h1,h2⟩)
theorem walk_one {i:Nat} {r:List Stp} {a:Act} {w:World} (h:GO P ops Q S T i (fun a' w'=>WM P ops Q S T r a' w') a w):WM P ops Q S T (.go i::r) a w:=by
 constructor
 show goOp P ops Q S T i (fun a' w'=>walkM P ops Q S T r a' w') a w
 exact goOp_mono (fun _ _ h'=>h'.out) h.out
end
end
section
open Go.RowKit
theorem idxs_at (s:ByteArray) (w:World):Calls Tryz.prog 165 #[.string s,.int .u8 47] w fun e w'=>e= .returned (.int .i64 (Lib.indexByte s.data.toList 47))∧w'=w:=by
 go_enter Tryz.func165,Tryz.ntmps165
 go_wp2
 rw [run_callFunc_extern Tryz.func193 (by kernel_rfl) (by kernel_rfl) (by kernel_rfl) (e:=Extern.BytealgIndexByte.indexByte) (by kernel_rfl),Lib.run_indexByteString]
 simp only [Result.andThen]
 rw [Oper.upon_value]
 go_wp2
 go_ret
 exact ⟨rfl,rfl⟩
theorem idx_at (s:ByteArray) (w:World):Calls Tryz.prog 119 #[.string s,.string ⟨#[47]⟩] w fun e w'=>e= .returned (.int .i64 (Lib.indexByte s.data.toList 47))∧w'=w:=by
 have hi:=idxs_at s w
 obtain ⟨R,hR⟩:∃R,Lib.indexByte s.data.toList 47=R:=⟨_,rfl⟩
 rw [hR] at hi⊢
 have Hi:=Lib.hid hi
 have HR:=Lib.hid hR
 clear hi hR
 cases he:([47]:List UInt8)==s.toList with
 |true=>
  go_enter Tryz.func119,Tryz.ntmps119
  go_wp2_with fail
  go_ret
  refine ⟨?_,rfl⟩
  have hs:s.data.toList=[47]:=by rw [←ByteArray.toList_eq];exact (beq_iff_eq.1 he).symm
  have h0:R=0:=by rw [←HR.out,hs];rfl
  rw [h0]
  rfl
 |false=>
  go_enter Tryz.func119,Tryz.ntmps119
  go_wp2_with fail
  refine Hi.out.mono ?_
  rintro e w' ⟨rfl,rfl⟩
  go_wp2
  go_ret
  exact ⟨rfl,rfl⟩
theorem indexByte_cases:∀(l:List UInt8) (c:UInt8),Lib.indexByte l c= -1∨∃i:Nat,Lib.indexByte l c=i
 |[],c=> .inl rfl
 |b::l,c=>by
  rw [Lib.indexByte]
  split
  ·exact .inr ⟨0,rfl⟩
  ·rcases indexByte_cases l c with h|⟨i,h⟩
   ·rw [h];exact .inl rfl
   ·rw [h]
    split
    ·exact .inl rfl
    ·exact .inr ⟨i+1,by omega⟩
theorem indexByte_lt:∀{l:List UInt8} {c:UInt8} {i:Nat},Lib.indexByte l c=i→i<l.length
 |[],c,i,h=>by simp [Lib.indexByte] at h
 |b::l,c,i,h=>by
  rw [Lib.indexByte] at h
  rw [List.length_cons]
  split at h
  ·omega
  ·rcases indexByte_cases l c with h1|⟨k,h1⟩
   ·rw [h1] at h
    have h:(-1:Int)=i:=h
    omega
   ·have:=indexByte_lt h1
    rw [h1] at h
    split at h<;>omega
theorem cuts_yes (s:ByteArray) (hs:s.size≤9223372036854775807) (I:Nat) (hI:Lib.indexByte s.data.toList 47=I) (w:World):
 Calls Tryz.prog 89 #[.string s,.string ⟨#[47]⟩] w fun e w'=>e= .returned (.tuple #[.string (s.extract 0 I),.string (s.extract (I+1) s.size),.bool true])∧Mod (fun _=>False) w w':=by
 have hi:=idx_at s w
 rw [hI] at hi
 have hlt:I<s.size:=indexByte_lt hI
 have hlt':(I:Int)<s.size:=by omega
 have hs':(s.size:Int)≤9223372036854775807:=by omega
 have Hi:=Lib.hid hi
 clear hi hI hs
 go_enter Tryz.func89,Tryz.ntmps89
 go_wp2_with fail
 refine Hi.out.mono ?_
 rintro e w' ⟨rfl,rfl⟩
 go_wp2_with fail
 have hi2:(I:Int)≤s.size:=by omega
 have hi3:(I:Int)+1≤s.size:=by omega
 have hw3:IntKind.i64.wrap ((I:Int)+1)=(I:Int)+1:=by rw [IntKind.wrap_i64];omega
 have hb3:(0:Int)≤(I:Int)+1:=by omega
 have htn2:((I:Int)+1).toNat=I+1:=by omega
 have hS:(fun _:World=>True) w'.drew:=trivial
 refine wp_region_script [.rd 0,.rd 1,.rd 2,.rd 3,.rd 4,.rd 5,.rd 6,.rd 7,.rd 8,.rd 9,.rd 10,.rd 11] [] (fun _:World=>True) (by kernel_rfl) (by kernel_rfl) (fun _ _ d _ _ h=>(by cases d<;>exact h)) ?_
 iterate 12 (
  refine walk_rd rfl ?_ (fun _=>hS) ?_ (fun w0 h0=> ?_) (fun K hK=> ?_)
  ·(try simp only [List.getElem_toArray]);(try simp only [List.getElem_cons_succ]);(try simp only [List.getElem_cons_zero])
   go_simp;done
  rotate_left
  ·(try simp only [List.getElem_toArray]);(try simp only [List.getElem_cons_succ]);(try simp only [List.getElem_cons_zero])
   first
    |(obtain - :=h0 rfl;clear h0;go_simp;with_reducible rfl)
    |(clear h0;go_simp;with_reducible rfl)
  (try simp only [List.getElem_toArray]);(try simp only [List.getElem_cons_succ]);(try simp only [List.getElem_cons_zero])
  go_simp;refine hK _ ?_;clear hK K)
 refine walk_nil ?_
 go_wp2
 go_ret3
 exact ⟨rfl,(Mod.refl _ _).drew⟩
theorem cuts_no (s:ByteArray) (hI:Lib.indexByte s.data.toList 47= -1) (w:World):
 Calls Tryz.prog 89 #[.string s,.string ⟨#[47]⟩] w fun e w'=>e= .returned (.tuple #[.string s,.string ⟨#[]⟩,.bool false])∧Mod (fun _=>False) w w':=by
 have hi:=idx_at s w
 rw [hI] at hi
 have Hi:=Lib.hid hi
 clear hi hI
 go_enter Tryz.func89,Tryz.ntmps89
 go_wp2_with fail
 refine Hi.out.mono ?_
 rintro e w' ⟨rfl,rfl⟩
 go_wp2
 go_ret3
 exact ⟨rfl,Mod.refl _ _⟩
def cutS (s:ByteArray):ByteArray×ByteArray×Bool:=if 0≤Lib.indexByte s.data.toList 47 then (s.extract 0 (Lib.indexByte s.data.toList 47).toNat,s.extract ((Lib.indexByte s.data.toList 47).toNat+1) s.size,true) else (s,⟨#[]⟩,false)
theorem cut_at (s:ByteArray) (hs:s.size≤9223372036854775807) (w:World):
 Calls Tryz.prog 53 #[.string s,.string ⟨#[47]⟩] w fun e w'=>e= .returned (.tuple #[.string (cutS s).1,.string (cutS s).2.1,.bool (cutS s).2.2])∧Mod (fun _=>False) w w':=by
 have hc:Calls Tryz.prog 89 #[.string s,.string ⟨#[47]⟩] w fun e w'=>e= .returned (.tuple #[.string (cutS s).1,.string (cutS s).2.1,.bool (cutS s).2.2])∧Mod (fun _=>False) w w':=by
  rcases indexByte_cases s.data.toList 47 with h|⟨I,h⟩
  ·have e:cutS s=(s,⟨#[]⟩,false):=by unfold cutS;rw [h];rfl
   rw [e]
   exact cuts_no s h w
  ·have e:cutS s=(s.extract 0 I,s.extract (I+1) s.size,true):=by
    unfold cutS
    rw [h,if_pos (by omega)]
    rfl
   rw [e]
   exact cuts_yes s hs I h w
 generalize cutS s=C at hc⊢
 have Hc:=Lib.hid hc
 clear hc hs
 go_enter Tryz.func53,Tryz.ntmps53
 go_wp2_with fail
 refine Hc.out.mono ?_
 rintro e w' ⟨rfl,hm⟩
 have Hm:=Lib.hid hm
 clear hm
 go_wp2
 go_ret3
 exact ⟨rfl,Hm.out⟩
theorem cut_rest {s:ByteArray} (h:(cutS s).2.2=true):(cutS s).2.1.size<s.size:=by
 unfold cutS at h⊢
 split at h
 ·rename_i h0
  rw [if_pos h0]
  rcases indexByte_cases s.data.toList 47 with h1|⟨I,h1⟩
  ·omega
  ·have hlt:I<s.size:=indexByte_lt h1
   rw [h1]
   show (s.extract (I+1) s.size).size<s.size
   rw [ByteArray.size_extract]
   omega
 ·cases h
theorem cut_sum {s:ByteArray} (h:(cutS s).2.2=true):(cutS s).1.size+1+(cutS s).2.1.size=s.size:=by
 unfold cutS at h⊢
 split at h
 ·rename_i h0
  rw [if_pos h0]
  rcases indexByte_cases s.data.toList 47 with h1|⟨I,h1⟩
  ·omega
  ·have hlt:I<s.size:=indexByte_lt h1
   rw [h1]
   show (s.extract 0 I).size+1+(s.extract (I+1) s.size).size=s.size
   rw [ByteArray.size_extract,ByteArray.size_extract]
   omega
 ·cases h
theorem cut_size (s:ByteArray):(cutS s).1.size≤s.size∧(cutS s).2.1.size≤s.size:=by
 unfold cutS
 split
 ·constructor
  ·show (s.extract _ _).size≤_
   rw [ByteArray.size_extract]
   omega
  ·show (s.extract _ _).size≤_
   rw [ByteArray.size_extract]
   omega
 ·exact ⟨Nat.le_refl _,Nat.zero_le _⟩
def scN:Nat→ByteArray→Option Nat
 |0,_=>none
 |f+1,s=>if isName (cutS s).1=true then (if (cutS s).2.2=true then (scN f (cutS s).2.1).map (· +1) else some 1) else none
theorem scN_succ (f:Nat) (s:ByteArray):scN (f+1) s=if isName (cutS s).1=true then (if (cutS s).2.2=true then (scN f (cutS s).2.1).map (· +1) else some 1) else none:=rfl
theorem scN_fuel:∀(f g:Nat) (s:ByteArray),s.size<f→s.size<g→scN f s=scN g s
 |0,_,s,h,_=>by omega
 |_+1,0,s,_,h=>by omega
 |f+1,g+1,s,h1,h2=>by
  rw [scN_succ,scN_succ]
  split
  ·split
   ·rename_i h
    have:=cut_rest h
    rw [scN_fuel f g (cutS s).2.1 (by omega) (by omega)]
   ·rfl
  ·rfl
def scM (n:Nat) (s:ByteArray):Bool:=match scN (s.size+1) s with
 |some k=>decide (n+k≤4)
 |none=>false
def scRight (s:ByteArray):Bool:=s.toList.isEmpty||scM 0 s
theorem name_pos {s:ByteArray} (h:isName s=true):0<s.size:=by
 unfold isName at h
 simp only [Bool.and_eq_true,decide_eq_true_eq] at h
 omega
theorem scM_no {n:Nat} {s:ByteArray} (h:isName (cutS s).1=false):scM n s=false:=by
 unfold scM
 rw [scN_succ,if_neg (by rw [h];decide)]
theorem scM_more {n:Nat} {s:ByteArray} (h:isName (cutS s).1=true) (hm:(cutS s).2.2=true):scM n s=scM (n+1) (cutS s).2.1:=by
 have:=cut_rest hm
 unfold scM
 rw [scN_succ,if_pos h,if_pos hm,scN_fuel s.size ((cutS s).2.1.size+1) _ (by omega) (by omega)]
 cases scN ((cutS s).2.1.size+1) (cutS s).2.1 with
 |none=>rfl
 |some k=>
  show decide (n+(k+1)≤4)=decide (n+1+k≤4)
  congr 1
  rw [Nat.add_assoc,Nat.add_comm 1 k]
theorem scM_last {n:Nat} {s:ByteArray} (h:isName (cutS s).1=true) (hm:(cutS s).2.2=false):scM n s=decide (n+1≤4):=by
 unfold scM
 rw [scN_succ,if_pos h,if_neg (by rw [hm];decide)]
theorem scope_right (s:ByteArray) (hs:s.size≤9223372036854775807) (w:World):Calls Tryz.prog 20 #[.string s] w fun e w'=>e= .returned (.bool (scRight s))∧Mod (fun _=>False) w w':=by
 cases he:s.toList.isEmpty with
 |true=>
  have h2:scRight s=true:=by unfold scRight;rw [he];rfl
  rw [h2]
  clear h2 hs
  go_enter Tryz.func20,Tryz.ntmps20
  go_wp2
  go_ret
  exact ⟨rfl,Mod.refl _ _⟩
 | false=>
  obtain ⟨R,hR⟩:∃R,scRight s=R:=⟨_,rfl⟩
  have hR0:scM 0 s=R:=by rw [←hR];unfold scRight;rw [he];rfl
  rw [hR]
  have hs':(s.size:Int)≤9223372036854775807:=by omega
  have HR0:=Lib.hid hR0
  clear hR0 hR
  go_enter Tryz.func20,Tryz.ntmps20
  go_wp2_with fail
  go_loopw [3,4,5] (fun tn tr tm wr=>∃(n:Nat) (r:ByteArray) (more:Bool),tn= .int .i64 n∧tr= .string r∧tm= .bool more∧2*n≤s.size+2∧(more=true→2*n+r.size≤s.size)∧R=(if more then scM n r else decide (n≤4))∧Mod (fun _=>False) w wr)
   (fun _ tr tm _=>match tr,tm with| .string r,.bool true=>r.size+1|_,_=>0)
  case atStart=>exact ⟨0,s,true,rfl,rfl,rfl,by omega,fun _=>by omega,HR0.out.symm,Mod.refl _ _⟩
  case round=>
   obtain ⟨n,r,more,rfl,rfl,rfl,hn,hnr,hRr,hm⟩:=hrel
   cases more with
   | true=>
    have hnr:=hnr rfl
    have hRr:R=scM n r:=hRr
    have hn':(n:Int)≤4611686018427387905:=by omega
    have hr':(r.size:Int)≤9223372036854775807:=by omega
    have hct:=cut_at r (by omega) wr
    have hrs:=@cut_sum r
    have hcs:=cut_size r
    have h1:=@scM_no n r
    have h2:=@scM_more n r
    have h3:=@scM_last n r
    obtain ⟨⟨a,b,c⟩,hC⟩:∃C,cutS r=C:=⟨_,rfl⟩
    rw [hC] at hct hrs hcs h1 h2 h3
    simp only at hct hrs hcs h1 h2 h3
    have hct:Calls Tryz.prog 53 #[.string r,.string ⟨#[47]⟩] wr fun e w'=>e= .returned (.tuple #[.string a,.string b,.bool c])∧Mod (fun _=>False) wr w':=hct
    have HRr:=Lib.hid hRr
    have Hm:=Lib.hid hm
    have Hct:=Lib.hid hct
    have HC:=Lib.hid hC
    have H1:=Lib.hid h1
    have H2:=Lib.hid h2
    have H3:=Lib.hid h3
    have Hrs:=Lib.hid hrs
    clear hRr hm hct hC h1 h2 h3 hrs
    go_wp2_with fail
    refine Hct.out.mono ?_
    rintro e w1 ⟨rfl,hm1⟩
    have Hm1:=Lib.hid (Hm.out.trans hm1 (fun _ _ h=>h))
    clear hm1
    go_wp2_with fail
    refine (name_at a (by omega) w1).mono ?_
    rintro e w2 ⟨rfl,hw⟩
    subst hw
    cases hna:isName a with
    |false=>
     have Hna:=Lib.hid hna
     clear hna
     go_wp2
     go_ret
     exact ⟨by rw [HRr.out,H1.out Hna.out];rfl,Hm1.out⟩
    | true=>
     have Hna:=Lib.hid hna
     clear hna
     go_wp2_with fail
     go_roundw
     case rel=>
      cases c with
      |true=>exact ⟨n+1,b,true,by go_num,rfl,rfl,by omega,(fun _=>by have:=Hrs.out rfl;have:=name_pos Hna.out;omega),(by rw [HRr.out,H2.out Hna.out rfl];rfl),Hm1.out⟩
      |false=>exact ⟨n+1,b,false,by go_num,rfl,rfl,by omega,(fun h=>by cases h),(by rw [HRr.out,H3.out Hna.out rfl];rfl),Hm1.out⟩
     case measure=>
      cases c with
      |true=>
       have:=Hrs.out rfl
       show b.size+1<r.size+1
       omega
      |false=>show 0<r.size+1;omega
   |false=>
    have hRr:R=decide (n≤4):=hRr
    have HRr:=Lib.hid hRr
    have Hm:=Lib.hid hm
    clear hRr hm
    go_wp2
    go_ret
    refine ⟨?_,Hm.out⟩
    show Ending.returned (.bool (decide ((n:Int)≤4)))=_
    rw [HRr.out]
    congr 2
    exact decide_eq_decide.2 (by omega)
section
variable {P:Program} {w:World} {ops:Array Oper} {rest:List Oper} {a:Act} {Q:Exit→Act→World→Prop} {d:Option Tmp} {tp:TypeId} {pos:String} {af:Array Edge}
theorem all_one {cs:List Value} (h:cs.all (·.oneCell')=true):∀u∈cs,u.oneCell'=true:=fun u hu=>List.all_eq_true.1 h u hu
theorem wpList_store_lit {cur:Array Value} {t:TypeId} (ty:TypeId) (x y:Operand)
 (h:a.eval x= .pointer (some ⟨w.heap.size,0,none⟩)∧∃cs:List Value,a.eval y= .agg cs.toArray∧cs.length=cur.size∧(P.info? ty).map (·.size)=some cs.length∧cs.all (·.oneCell')=true∧
   wpList P ops Q rest (a.put d undef) (w.alloc (.cells cs.toArray t))):wpList P ops Q (⟨d,.store ty x y,tp,pos,af,none⟩::rest) a (w.alloc (.cells cur t)):=by
 obtain ⟨hx,cs,hy,hl,hi,h1,h⟩:=h
 exact wpList_store_new rfl ty x y rfl hx cur t cs hy hl hi (all_one h1) h
theorem wpList_load_lit (ty:TypeId) (x:Operand)
 (h:∃g off,a.eval x= .pointer (some ⟨g,off,none⟩)∧∃cs:List Value,CellsAt w g off cs∧(match P.underlying ty with|some (.struct _)=>true|some (.array _ _)=>true|_=>false)=true∧(P.info? ty).map (·.size)=some cs.length∧
   wpList P ops Q rest (a.put d (.agg cs.toArray)) w):wpList P ops Q (⟨d,.load ty x,tp,pos,af,none⟩::rest) a w:=by
 obtain ⟨g,off,hx,cs,hc,hu,hi,h⟩:=h
 exact wpList_load_cells rfl ty x rfl g off hx cs hc hu hi h
theorem wpList_append_lit {at1:Array TypeId} (s y:Operand) (t:TypeId)
 (h:at1=#[t,t]∧∃(e:TypeId) (sz bytes:Nat),SliceT P t e sz bytes∧∃(v:Value) (n:Nat) (xs:List Value),a.eval s=v∧OwnSl w e sz v n xs∧∃(x:Value) (m:Nat) (news:List Value),a.eval y=x∧RdSl w sz x m news∧(∀u∈news,u.oneCell'=true)∧
   (n+m)*bytes≤140737488355328∧n+m≤maxLen∧∀ad cap w',Appended w e sz v (n+m) (xs++news) (.slice ad (n+m) cap) w'→wpList P ops Q rest (a.put d (.slice ad (n+m) cap)) w'):
 wpList P ops Q (⟨d,.call {callee:= .builtin .append,args:=#[s,y],argTypes:=at1},tp,pos,af,none⟩::rest) a w:=by
 obtain ⟨rfl,e,sz,bytes,hT,v,n,xs,hs,hown,x,m,news,hy,hx,h1,hb,hm,hK⟩:=h
 exact wpList_append_sl rfl s y t rfl e sz bytes hT v n xs hs hown x m news hy hx h1 hb hm hK
theorem wpList_store_row_lit (ty:TypeId) (x y:Operand)
 (h:∃g,a.eval x= .pointer (some ⟨g,0,none⟩)∧∃(cur:Array Value) (t:TypeId),w.heap[g]? =some (.cells cur t (0,0))∧∃cs:List Value,a.eval y= .agg cs.toArray∧cs.length=cur.size∧(P.info? ty).map (·.size)=some cs.length∧cs.all (·.oneCell')=true∧
   ∀w',w'.heap[g]? =some (.cells cs.toArray t (0,0))→Mod (fun k=>k=g) w w'→wpList P ops Q rest (a.put d undef) w'):wpList P ops Q (⟨d,.store ty x y,tp,pos,af,none⟩::rest) a w:=by
 obtain ⟨g,hx,cur,t,hg,cs,hy,hl,hi,h1,h⟩:=h
 exact wpList_store_row rfl ty x y rfl g hx cur t hg cs hy cs.length rfl hl.symm hi h1 h
end
end
end Go.Proofs.YtaenebdppkjhoaaGreatDoor
