/- Lemmas. -/
import Derived.Test.YtdmjoodhaeijmaaGreatDoorZn0
import Derived.Lib.Hide
import Derived.Test.YtdmjoodhaeijmaaGreatDoorProg
import Derived.WalkKit
import Derived.OrdersHeld
import Derived.KernelRfl
import Derived.Tactics
set_option maxHeartbeats 40000000
set_option maxRecDepth 20000
namespace Go.Proofs.YtdmjoodhaeijmaaGreatDoor
section
open Go.RowKit
theorem hh1 {G p0:Prop} (a0:p0) (f:Hid p0->G):G:=f a0
theorem hh2 {G p0 p1:Prop} (a0:p0) (a1:p1) (f:Hid p0->Hid p1->G):G:=f a0 a1
theorem hh3 {G p0 p1 p2:Prop} (a0:p0) (a1:p1) (a2:p2) (f:Hid p0->Hid p1->Hid p2->G):G:=f a0 a1 a2
theorem hh4 {G p0 p1 p2 p3:Prop} (a0:p0) (a1:p1) (a2:p2) (a3:p3) (f:Hid p0->Hid p1->Hid p2->Hid p3->G):G:=f a0 a1 a2 a3
theorem hh5 {G p0 p1 p2 p3 p4:Prop} (a0:p0) (a1:p1) (a2:p2) (a3:p3) (a4:p4) (f:Hid p0->Hid p1->Hid p2->Hid p3->Hid p4->G):G:=f a0 a1 a2 a3 a4
theorem hh6 {G p0 p1 p2 p3 p4 p5:Prop} (a0:p0) (a1:p1) (a2:p2) (a3:p3) (a4:p4) (a5:p5) (f:Hid p0->Hid p1->Hid p2->Hid p3->Hid p4->Hid p5->G):G:=f a0 a1 a2 a3 a4 a5
theorem hh7 {G p0 p1 p2 p3 p4 p5 p6:Prop} (a0:p0) (a1:p1) (a2:p2) (a3:p3) (a4:p4) (a5:p5) (a6:p6) (f:Hid p0->Hid p1->Hid p2->Hid p3->Hid p4->Hid p5->Hid p6->G):G:=f a0 a1 a2 a3 a4 a5 a6
theorem hh8 {G p0 p1 p2 p3 p4 p5 p6 p7:Prop} (a0:p0) (a1:p1) (a2:p2) (a3:p3) (a4:p4) (a5:p5) (a6:p6) (a7:p7) (f:Hid p0->Hid p1->Hid p2->Hid p3->Hid p4->Hid p5->Hid p6->Hid p7->G):G:=f a0 a1 a2 a3 a4 a5 a6 a7
section
variable {P:Program} {ops:Array Oper} {Q:Exit->Act->World->Prop} {md:Region.Mode} {S:World->Prop} {T:Nat->Bool}
def K9 (md:Region.Mode) (ops:Array Oper):Nat->Nat->Nat->Bool
 |0,_,_=>false
 |fuel+1,j,i=>match ops[j]? with
  |some o=>o.after.any fun e=>Region.binds md e&&(e.on==i||K9 md ops fuel e.on i)
  |none=>false
def E9 (md:Region.Mode) (ops:Array Oper) (listed:Array Bool):Prop:=
 ∀j oj,ops[j]? =some oj->listed.getD j false=true->∀e∈oj.after,Region.binds md e=true->listed.getD e.on false=true
theorem E9.reach {listed:Array Bool} (hc:E9 md ops listed):∀(fuel j i:Nat),listed.getD j false=true->K9 md ops fuel j i=true->listed.getD i false=true
 |0,_,_,_,h=>by simp [K9] at h
 | fuel+1,j,i,hj,h=>by
  unfold K9 at h;split at h
  ·rename_i o ho
   obtain ⟨e,he,hb⟩:=Array.any_eq_true'.1 h;simp only [Bool.and_eq_true,Bool.or_eq_true,beq_iff_eq] at hb;have hl:=hc j o ho hj e he hb.1;rcases hb.2 with rfl|hr
   ·exact hl
   exact hc.reach fuel e.on i hl hr
  ·cases h
theorem a5U {listed:Array Bool} (hc:E9 md ops listed) {fuel j i:Nat} (hj:j∈Region.ready md ops listed) (h:K9 md ops fuel j i=true):listed.getD i false=true:=by
 cases fuel with
 |zero=>simp [K9] at h
 |succ fuel=>
  obtain ⟨_,o,ho,hall⟩:=mem_ready.1 hj;unfold K9 at h;simp only [ho] at h;obtain ⟨e,he,hb⟩:=Array.any_eq_true'.1 h;simp only [Bool.and_eq_true,Bool.or_eq_true,beq_iff_eq] at hb;have hl:=hall e he hb.1;rcases hb.2 with rfl|hr
  ·exact hl
  exact hc.reach fuel e.on i hl hr
theorem E9.set {listed:Array Bool} (hc:E9 md ops listed) {j:Nat} (hj:j∈Region.ready md ops listed):E9 md ops (listed.setIfInBounds j true):=by
 intro k ok hk hl e he hb;by_cases hjk:j=k
 ·subst hjk;obtain ⟨_,o,ho,hall⟩:=mem_ready.1 hj;obtain rfl:o=ok:=Option.some.inj (ho.symm.trans hk);exact getD_set_true (hall e he hb)
 rw [getD_set_ne false hjk] at hl;exact getD_set_true (hc k ok hk hl e he hb)
def W3 (P:Program) (md:Region.Mode) (ops:Array Oper) (Q:Exit->Act->World->Prop) (S:World->Prop) (T:Nat->Bool):Nat->Array Bool->Act->World->Prop
 |0,listed,a,w=>Region.ready md ops listed=[]/\Q .normal a w
 |fuel+1,listed,a,w=>
  (Region.ready md ops listed=[]->Q .normal a w)/\
  ∀i∈Region.ready md ops listed,wpOp P ops Q i (fun a' w'=>(T i=true->S w->S w')/\W3 P md ops Q S T fuel (listed.setIfInBounds i true) a' w') a w
theorem Y5:∀(fuel:Nat) (listed:Array Bool) (a:Act) (w:World),W3 P md ops Q S T fuel listed a w->wpAny P md ops Q fuel listed a w
 |0,_,_,_,h=>h
 |fuel+1,_,_,_,h=>⟨h.1,fun i hi=>wpOp_mono (fun a' w' h'=>Y5 fuel _ a' w' h'.2) (h.2 i hi)⟩
theorem Y6 {S':World->Prop} {i:Nat} {oi:Oper} {v:Value} (hi:ops[i]? =some oi) (hsel:∀(j:Nat) (o:Oper) cs b,ops[j]? =some o->o.op≠ .select cs b)
 (hQ:∀c a w,Q (.panic c) (a.put oi.dst v) w->Q (.panic c) a w):
 ∀(fuel:Nat) (listed:Array Bool) (a:Act) (w:World),E9 md ops listed->
  (∀j oj,ops[j]? =some oj->j≠i->listed.getD j true=false->(∀e∈oj.after,Region.binds md e=true->e.on≠i)->oi.apart ops oj=true)->
  (∀j,j<ops.size->j≠i->listed.getD j true=false->K9 md ops ops.size j i=false->∀w w',(T j=true->S w->S w')->S' w->S' w')->
  i∈Region.ready md ops listed->YieldsIf P ops S' oi v a->S' w->
  W3 P md ops Q S T fuel (listed.setIfInBounds i true) (a.put oi.dst v) w->W3 P md ops Q S T (fuel+1) listed a w:=by
 intro fuel
 induction fuel with
 | zero=>
  intro listed a w hc _ _ hr hy hS' H;refine ⟨fun h=>(by rw [h] at hr;cases hr),fun j hj=> ?_⟩;by_cases hji:j=i
  ·subst hji;exact hy.wpOp hi hS' ⟨fun _ h=>h,H⟩
  ·have:=ready_mono hj hji;rw [H.1] at this;cases this
 | succ fuel ih=>
  intro listed a w hc hfree hT hr hy hS' H;refine ⟨fun h=>(by rw [h] at hr;cases hr),fun j hj=> ?_⟩;by_cases hji:j=i
  ·subst hji;exact hy.wpOp hi hS' ⟨fun _ h=>h,H⟩
  have h1:=H.2 j (ready_mono hj hji);obtain ⟨hjun,oj,hoj,hall⟩:=mem_ready.1 hj
  have Bf:listed.getD i false=false:=by
   have h0:=(mem_ready.1 hr).1;rcases Nat.lt_or_ge i listed.size with h'|h'
   ·simp [h'] at h0⊢;exact h0
   simp [Array.getElem?_eq_none h'] at h0
  have hnot:∀e∈oj.after,Region.binds md e=true->e.on≠i:=fun e he hb heq=>by
   have h1:=hall e he hb;rw [heq,Bf] at h1;cases h1
  have wZ:K9 md ops ops.size j i=false:=by
   cases hb:K9 md ops ops.size j i with
   |false=>rfl
   |true=>have:=a5U hc hj hb;rw [Bf] at this;cases this
  have h2:=wpOp_putIf hoj (hfree j oj hoj hji hjun hnot) (fun cs b=>hsel i oi cs b hi) (fun cs b=>hsel j oj cs b hoj) hQ hy h1
  have hfree':∀k ok,ops[k]? =some ok->k≠i->(listed.setIfInBounds j true).getD k true=false->
   (∀e∈ok.after,Region.binds md e=true->e.on≠i)->oi.apart ops ok=true:=fun k ok hk hki hun hno=>by
   refine hfree k ok hk hki ?_ hno;by_cases hjk:j=k
   ·subst hjk;exact hjun
   rw [getD_set_ne true hjk] at hun;exact hun
  have hT':∀k,k<ops.size->k≠i->(listed.setIfInBounds j true).getD k true=false->K9 md ops ops.size k i=false->∀w w',(T k=true->S w->S w')->S' w->S' w':=fun k hks hki hun hno=>by
   refine hT k hks hki ?_ hno;by_cases hjk:j=k
   ·subst hjk;exact hjun
   rw [getD_set_ne true hjk] at hun;exact hun
  have hSj:=hT j (zz7 hoj).1 hji hjun wZ;refine wpOp_mono (fun a' w' h3=> ?_) h2;obtain ⟨hy3,ND,H3⟩:=h3;exact ⟨ND,ih (listed.setIfInBounds j true) a' w' (hc.set hj) hfree' hT' (ready_mono hr (Ne.symm hji)) hy3 (hSj w w' ND hS') (by rw [Array.setIfInBounds_comm _ _ hji];exact H3)⟩
def I7:Op->Bool
 | .move _| .assign _| .pick .. | .nilCheck _| .fieldAddr .. | .field .. | .binOp .. | .unOp .. | .build .. | .extract .. | .indexAddr .. | .slice .. =>true
 | .call {callee:= .builtin .len,..}=>true
 | .call {callee:= .builtin .cap,..}=>true
 |_=>false
def a5V:Op->Bool
 | .alloc _| .box .. | .buildSlice .. =>true
 |_=>false
def a5c (md:Region.Mode) (ops:Array Oper) (m:Nat):Nat->Nat->Array Bool->Bool
 |0,_,_=>true
 |n+1,i,listed=>Region.free md ops listed i&&(Region.ready md ops listed).contains i&&
  (((ops[i]?).map (fun o=>I7 o.op)).getD false||(List.range ops.size).all fun j=>j==i||listed.getD j true||K9 md ops ops.size j i||decide (j<m))&&
  a5c md ops m n (i+1) (listed.setIfInBounds i true)
def a0p:Nat->Nat->Array Bool->Array Bool
 |0,_,listed=>listed
 |n+1,i,listed=>a0p n (i+1) (listed.setIfInBounds i true)
def a2Y (md:Region.Mode) (ops:Array Oper):Nat->Nat->Array Bool->Bool
 |0,_,listed=>(Region.ready md ops listed).isEmpty
 |n+1,i,listed=>Region.ready md ops listed==[i]&&a2Y md ops n (i+1) (listed.setIfInBounds i true)
def b5a (ops:Array Oper) (n m:Nat):Bool:=(List.range ops.size).all fun j=>decide (j<n)||decide (m<=j)||((ops[j]?).map (fun o=>a5V o.op)).getD false
def b0R (md:Region.Mode) (ops:Array Oper) (n m:Nat):Bool:=
 Region.noSelect ops&&decide (n<=ops.size)&&b5a ops n m&&a5c md ops m n 0 (Array.replicate ops.size false)&&
  a2Y md ops (ops.size - n) n (a0p n 0 (Array.replicate ops.size false))
def a1Q (P:Program) (ops:Array Oper) (S:World->Prop) (K:Act->Prop):List Oper->Act->Prop
 |[],a=>K a
 |o::rest,a=>∃v,YieldsIf P ops (fun w=>I7 o.op=false->S w) o v a/\a1Q P ops S K rest (a.put o.dst v)
theorem S7 {K:Act->Prop} {a:Act} (h:K a):a1Q P ops S K [] a:=h
theorem O4 {K:Act->Prop} {a:Act} {o:Oper} {rest:List Oper} {v:Value} (hg:o.guard=none) (hy:∀w,(I7 o.op=false->S w)->(execOp a.eval o).run P w= .ok (.value v) w)
 (h:a1Q P ops S K rest (a.put o.dst v)):a1Q P ops S K (o::rest) a:=⟨v,.inl ⟨by simp [Region.wanted,hg],hy⟩,h⟩
theorem a5W {m:Nat} (hsel:Region.noSelect ops=true) (hQ:∀(c:List PanicEntry) (a:Act) (d:Option Tmp) (v:Value) (w:World),Q (.panic c) (a.put d v) w->Q (.panic c) a w) {fuel:Nat} {w:World} (hS:S w) {K:Act->Prop}:
 ∀(hs:List Oper) (i:Nat) (listed:Array Bool) (a:Act),(∀j,j<hs.length->ops[i+j]? =hs[j]?)->a5c md ops m hs.length i listed=true->E9 md ops listed->a1Q P ops S K hs a->
  (∀a',K a'->E9 md ops (a0p hs.length i listed)->W3 P md ops Q S (fun j=>decide (j<m)) fuel (a0p hs.length i listed) a' w)->W3 P md ops Q S (fun j=>decide (j<m)) (hs.length+fuel) listed a w
 |[],i,listed,a,_,_,hc,hst,hK=>by
  simp only [List.length_nil,Nat.zero_add];exact hK a hst hc
 | o ::hs,i,listed,a,hix,hok,hc,hst,hK=>by
  simp only [zz9,a5c,Bool.and_eq_true] at hok;obtain ⟨⟨⟨hf,hr⟩,hp⟩,hok⟩:=hok;obtain ⟨v,hy,hst⟩:=hst;have ho:ops[i]? =some o:=by simpa using hix 0 (by simp)
  have lh:i∈Region.ready md ops listed:=by simpa using hr
  have:=Y6 (S:=S) (T:=fun j=>decide (j<m)) (S':=fun w=>I7 o.op=false->S w) ho (Region.noSelect_spec hsel) (fun c a w=>hQ c a o.dst v w) (hs.length+fuel) listed a w hc (Region.free_spec ho hf)
   (fun j hj hji hun hre w w' hT h fQ=>by
     simp only [ho,Option.map_some,Option.getD_some,fQ,Bool.false_or,List.all_eq_true,List.mem_range,Bool.or_eq_true,beq_iff_eq] at hp;rcases hp j hj with ((h1|h1)|h1)|h1
     ·exact absurd h1 hji
     ·rw [hun] at h1;cases h1
     ·rw [hre] at h1;cases h1
     ·exact hT h1 (h fQ))
   lh hy (fun _=>hS)
   (a5W hsel hQ hS hs (i+1) (listed.setIfInBounds i true) (a.put o.dst v) (fun j hj=>by have:=hix (j+1) (by simpa using hj);simpa [Nat.add_assoc,Nat.add_comm 1 j] using this) hok (hc.set lh) hst
     (fun a' ha' hc'=>hK a' ha' hc'))
  rw [zz9,Nat.add_right_comm];exact this
def B4 (P:Program) {α:Type} (c:Sem α):Prop:=∀w,(∃v,c.run P w= .ok v w)\/∃e w',c.run P w= .halt e w'
def F0 (P:Program) {α:Type} (c:Sem α):Prop:=∀w,(∃v x,c.run P w= .ok v (World.alloc w x))\/∃e w',c.run P w= .halt e w'
theorem B4.pure {α:Type} (v:α):B4 P (Pure.pure v:Sem α):=fun w=> .inl ⟨v,by simp⟩
theorem B4.halt {α:Type} (e:Halt):B4 P (Sem.halt e:Sem α):=fun w=> .inr ⟨e,w,rfl⟩
theorem F0.halt {α:Type} (e:Halt):F0 P (Sem.halt e:Sem α):=fun w=> .inr ⟨e,w,rfl⟩
theorem B4.bind {α β:Type} {c:Sem α} {f:α->Sem β} (h:B4 P c) (hf:∀v,B4 P (f v)):B4 P (c>>=f):=fun w=>by
 rw [Sem.run_bind];rcases h w with ⟨v,hv⟩|⟨e,w',he⟩
 ·rw [hv];exact hf v w
 rw [he];exact .inr ⟨e,w',rfl⟩
theorem F0.bind {α β:Type} {c:Sem α} {f:α->Sem β} (h:B4 P c) (hf:∀v,F0 P (f v)):F0 P (c>>=f):=fun w=>by
 rw [Sem.run_bind];rcases h w with ⟨v,hv⟩|⟨e,w',he⟩
 ·rw [hv];exact hf v w
 rw [he];exact .inr ⟨e,w',rfl⟩
theorem B4.typeInfo (t:TypeId):B4 P (typeInfo t):=fun w=>by
 unfold Go.typeInfo
 cases hq:P.info? t with
 |none=>exact .inr ⟨.stuck _,w,by simp [hq,stuck];rfl⟩
 |some i=>exact .inl ⟨i,by simp [hq]⟩
theorem B4.underlying (t:TypeId):B4 P (underlying t):=fun w=>by
 unfold Go.underlying
 cases hq:P.underlying t with
 |none=>exact .inr ⟨.stuck _,w,by simp [hq,stuck];rfl⟩
 |some i=>exact .inl ⟨i,by simp [hq]⟩
theorem B4.sizeOf (t:TypeId):B4 P (sizeOf t):=by
 unfold Go.sizeOf;exact B4.bind (B4.typeInfo t) fun v=>B4.pure _
theorem B4.zeroValue (t:TypeId):B4 P (zeroValue t):=by
 unfold Go.zeroValue;refine B4.bind (B4.typeInfo t) fun v=> ?_
 cases v.zero with
 |none=>exact B4.halt _
 |some z=>exact B4.pure z
theorem F0.newRow (t:TypeId) (cs:Array Value) (f:Addr->Value):F0 P (do Pure.pure (f (<-newRow t cs))):=fun w=> .inl ⟨f ⟨w.heap.size,0,none⟩,.cells cs t,by simp [Go.newRow]⟩
theorem F0.buildSlice (t:TypeId) (n:Nat) (parts:Array (Nat×Value)):F0 P (Instr.buildSlice t n parts):=by
 unfold Instr.buildSlice;refine F0.bind (B4.underlying t) fun d=> ?_;split
 ·rename_i elem
  refine F0.bind (B4.sizeOf elem) fun size=> ?_
  have fin:∀zero:Array Value,F0 P (match Instr.fill (fun i=>some (i*size,size)) ((Array.range (n*size)).map (zero[· %zero.size]!)) parts.toList with
   |some cells=>(do Pure.pure (Value.slice (some (<-Go.newRow elem cells)) n n):Sem Value)
   |_=>stuck "buildSlice: a part of the wrong size"):=fun zero=>by
   split
   ·rename_i cells _
    exact F0.newRow elem cells fun a=> .slice (some a) n n
   exact F0.halt _
  split
  ·dsimp only
   split
   ·exact F0.bind (B4.halt _) fun _=>fin _
   exact fin _
  dsimp only
  split
  ·exact F0.bind (B4.halt _) fun _=>F0.bind (B4.zeroValue elem) fun z=>fin z.cells
  exact F0.bind (B4.zeroValue elem) fun z=>fin z.cells
 exact F0.halt _
theorem a9g {o:Oper} (h:a5V o.op=true) (ρ:Operand->Value) (w:World):
 (∃v x,(execOp ρ o).run P w= .ok (.value v) (World.alloc w x))\/(∃e w',(execOp ρ o).run P w= .halt e w'):=by
 obtain ⟨dst,op,type,pos,after,guard⟩:=o
 have val:∀{c:Sem Value},F0 P c->(∃v x,(do Pure.pure (Next.value (<-c)):Sem Next).run P w= .ok (.value v) (World.alloc w x))\/(∃e w',(do Pure.pure (Next.value (<-c)):Sem Next).run P w= .halt e w'):=fun {c} h=>by
  rcases h w with ⟨v,x,hr⟩|⟨e,w',hr⟩
  ·exact .inl ⟨v,x,by simp [hr]⟩
  exact .inr ⟨e,w',by simp [hr]⟩
 cases op<;>simp only [a5V,Bool.false_eq_true] at h
 case alloc e=>exact val (c:=Instr.alloc e true (.tuple #[])) (F0.bind (B4.zeroValue e) fun z=>F0.newRow e z.cells fun a=> .pointer (some a))
 case box e v=>exact val (c:=Instr.box e (ρ v)) (F0.newRow e (ρ v).cells fun a=> .pointer (some a))
 case buildSlice t n parts=>exact val (F0.buildSlice t n _)
theorem b0S {o:Oper} {a:Act} {w:World} {K:Act->World->Prop} (h:a5V o.op=true) (Aa:∀w x,S w->S (World.alloc w x)) (hw:o.wp P a w K Q):o.wp P a w (fun a' w'=>(S w->S w')/\K a' w') Q:=by
 unfold Oper.wp at*;rcases a9g (P:=P) h a.eval w with ⟨v,x,hr⟩|⟨e,w',hr⟩
 ·rw [hr] at hw⊢;exact ⟨fun hs=>Aa _ _ hs,hw⟩
 rw [hr] at hw⊢;cases e<;>exact hw
theorem a5X {n m:Nat} (Aa:∀w x,S w->S (World.alloc w x)) (hnew:b5a ops n m=true):
 ∀(ts:List Oper) (i:Nat) (listed:Array Bool) (a:Act) (w:World),n<=i->(∀j,j<ts.length->ops[i+j]? =ts[j]?)->a2Y md ops ts.length i listed=true->wpList P ops Q ts a w->
  W3 P md ops Q S (fun j=>decide (j<m)) ts.length listed a w
 |[],i,listed,a,w,_,_,hok,h=>by
  simp only [List.length_nil,a2Y,List.isEmpty_iff] at hok;exact ⟨hok,h⟩
 | o::ts,i,listed,a,w,hni,hix,hok,h=>by
  simp only [zz9,a2Y,Bool.and_eq_true,beq_iff_eq] at hok;obtain ⟨hr,hok⟩:=hok;have ho:ops[i]? =some o:=by simpa using hix 0 (by simp)
  have Qx:i<ops.size:=(zz7 ho).1
  have hnx:i<m->a5V o.op=true:=fun him=>by
   have:=zz15 hnew i (List.mem_range.2 Qx);simp only [Bool.or_eq_true,decide_eq_true_eq,ho,Option.map_some,Option.getD_some] at this;rcases this with (h1|h1)|h1
   ·omega
   ·omega
   exact h1
  have ih:∀a' w',wpList P ops Q ts a' w'->W3 P md ops Q S (fun j=>decide (j<m)) ts.length (listed.setIfInBounds i true) a' w':=fun a' w' h'=>
   a5X Aa hnew ts (i+1) (listed.setIfInBounds i true) a' w' zo (fun j hj=>by have:=hix (j+1) (by simpa using hj);simpa [Nat.add_assoc,Nat.add_comm 1 j] using this) hok h'
  refine ⟨fun h0=>(by rw [hr] at h0;cases h0),fun j hj=> ?_⟩;rw [hr] at hj;obtain rfl:j=i:=by simpa using hj
  unfold wpOp;simp only [ho];simp only [wpList] at h;split
  ·rename_i hw
   simp only [hw,if_true] at h;refine h.imp (fun h=> ?_) id;by_cases him:j<m
   ·exact Oper.wp_mono (fun a' w' h'=>⟨fun _=>h'.1,ih _ _ h'.2⟩) (b0S (hnx him) Aa h)
   exact Oper.wp_mono (fun a' w' h'=>⟨fun hT=>absurd (by simpa using hT) him,ih _ _ h'⟩) h
  rename_i hw
  simp only [hw] at h;exact ⟨fun _ hs=>hs,ih _ _ h⟩
theorem A8 {w:World} {a:Addr} {v:Value} (h:w.cell? a=some v) (o:Obj):(w.alloc o).cell? a=some v:=(World.cell?_alloc_lt w o a (World.block_lt_of_cell? w a h)).trans h
theorem G6 {id:Nat} {a:Act} {w:World} {l:List Oper} (n m:Nat) (S:World->Prop) (hm:P.follows .mixedOrders=true) (hB:b0R .any l.toArray n m=true)
 (hQ:∀(c:List PanicEntry) (a:Act) (d:Option Tmp) (v:Value) (w:World),Q (.panic c) (a.put d v) w->Q (.panic c) a w) (Aa:∀w x,S w->S (World.alloc w x)) (hS:S w.drew)
 (h:a1Q P l.toArray S (fun a'=>wpList P l.toArray Q (l.drop n) a' w.drew) (l.take n) a):(Code.region id l.toArray true).wp P Q a w:=by
 simp only [b0R,Bool.and_eq_true,decide_eq_true_eq] at hB;obtain ⟨⟨⟨⟨hsel,hn⟩,hnew⟩,hhead⟩,Bg⟩:=hB;have hnl:n<=l.length:=by simpa using hn
 have htl:(l.take n).length=n:=by simp;omega
 have hdl:(l.drop n).length=l.toArray.size - n:=by simp
 have hcl:E9 .any l.toArray (Array.replicate l.toArray.size false):=fun j oj _ hl=>by
  exfalso;rcases Nat.lt_or_ge j l.toArray.size with h'|h'<;>simp_all
 refine wp_region_any hm (Y5 (S:=S) (T:=fun j=>decide (j<m)) _ _ _ _ ?_)
 have key:=a5W (m:=m) (md:= .any) (ops:=l.toArray) (P:=P) (Q:=Q) hsel hQ (fuel:=l.toArray.size - n) (w:=w.drew) hS (l.take n) 0 (Array.replicate l.toArray.size false) a
  (fun j hj=>by rw [htl] at hj;simp [hj]) (by rw [htl];exact hhead) hcl h
  (fun a' ha' _=>by
    rw [htl];have:=a5X (md:= .any) (P:=P) (Q:=Q) (S:=S) Aa hnew (l.drop n) n (a0p n 0 (Array.replicate l.toArray.size false)) a' w.drew (Nat.le_refl n) (fun j _=>by simp [List.getElem?_drop]) (by rw [hdl];exact Bg) ha'
    rwa [hdl] at this)
 rw [htl,show n+(l.toArray.size - n)=l.toArray.size by simp;omega] at key;exact key
end
end
section
open Go.RowKit
inductive Stp where
 |rd (i:Nat)
 |go (i:Nat)
 |both (i j:Nat)
section
variable {P:Program} {ops:Array Oper} {Q:Exit->Act->World->Prop} {md:Region.Mode} {S:World->Prop} {T:Nat->Bool}
def L0 (md:Region.Mode) (ops:Array Oper) (T:Nat->Bool):List Stp->Array Bool->Bool
 |[],listed=>(Region.ready md ops listed).isEmpty
 | .rd i::r,listed=>decide (i<ops.size)&&Region.free md ops listed i&&(Region.ready md ops listed).contains i&&
  (((ops[i]?).map (fun o=>I7 o.op)).getD false||(List.range ops.size).all fun j=>j==i||listed.getD j true||K9 md ops ops.size j i||T j)&&
  L0 md ops T r (listed.setIfInBounds i true)
 | .go i::r,listed=>Region.ready md ops listed==[i]&&L0 md ops T r (listed.setIfInBounds i true)
 | .both i j::r,listed=>decide (i≠j)&&Region.ready md ops listed==[i,j]&&Region.ready md ops (listed.setIfInBounds i true)==[j]&&Region.ready md ops (listed.setIfInBounds j true)==[i]&&
  L0 md ops T r ((listed.setIfInBounds i true).setIfInBounds j true)
def a4q:List Stp->Nat
 |[]=>0
 | .rd _::r=>a4q r+1
 | .go _::r=>a4q r+1
 | .both _ _::r=>a4q r+2
def a1c (P:Program) (ops:Array Oper) (Q:Exit->Act->World->Prop) (S:World->Prop) (T:Nat->Bool) (i:Nat) (K:Act->World->Prop) (a:Act) (w:World):Prop:=
 wpOp P ops Q i (fun a' w'=>(T i=true->S w->S w')/\K a' w') a w
def a03 (P:Program) (ops:Array Oper) (Q:Exit->Act->World->Prop) (S:World->Prop) (T:Nat->Bool):List Stp->Act->World->Prop
 |[],a,w=>Q .normal a w
 | .rd i::r,a,w=>∀o,ops[i]? =some o->(I7 o.op=false->S w)/\∃v,YieldsIf P ops (fun w=>I7 o.op=false->S w) o v a/\a03 P ops Q S T r (a.put o.dst v) w
 | .go i::r,a,w=>a1c P ops Q S T i (fun a' w'=>a03 P ops Q S T r a' w') a w
 | .both i j::r,a,w=>a1c P ops Q S T i (a1c P ops Q S T j (fun a' w'=>a03 P ops Q S T r a' w')) a w/\a1c P ops Q S T j (a1c P ops Q S T i (fun a' w'=>a03 P ops Q S T r a' w')) a w
theorem a9h {i:Nat} {K K':Act->World->Prop} {a:Act} {w:World} (h:∀a w,K a w->K' a w) (hh:a1c P ops Q S T i K a w):a1c P ops Q S T i K' a w:=
 wpOp_mono (fun a' w' h'=>⟨h'.1,h a' w' h'.2⟩) hh
theorem a0q (hsel:Region.noSelect ops=true) (hQ:∀(c:List PanicEntry) (a:Act) (d:Option Tmp) (v:Value) (w:World),Q (.panic c) (a.put d v) w->Q (.panic c) a w):
 ∀(r:List Stp) (listed:Array Bool) (a:Act) (w:World),L0 md ops T r listed=true->E9 md ops listed->a03 P ops Q S T r a w->W3 P md ops Q S T (a4q r) listed a w
 |[],listed,a,w,hok,_,h=>by
  simp only [L0,List.isEmpty_iff] at hok;exact ⟨hok,h⟩
 | .rd i::r,listed,a,w,hok,hc,h=>by
  simp only [L0,Bool.and_eq_true,decide_eq_true_eq] at hok;obtain ⟨⟨⟨⟨hi,hf⟩,hr⟩,hp⟩,hok⟩:=hok;obtain ⟨o,ho⟩:∃o,ops[i]? =some o:=⟨_,Array.getElem?_eq_getElem hi⟩;obtain ⟨hSw,v,hy,h⟩:=h o ho;have lh:i∈Region.ready md ops listed:=by simpa using hr
  exact Y6 (S:=S) (T:=T) (S':=fun w=>I7 o.op=false->S w) ho (Region.noSelect_spec hsel) (fun c a w=>hQ c a o.dst v w) (a4q r) listed a w hc (Region.free_spec ho hf)
   (fun j hj hji hun hre w w' hT h fQ=>by
     simp only [ho,Option.map_some,Option.getD_some,fQ,Bool.false_or,List.all_eq_true,List.mem_range,Bool.or_eq_true,beq_iff_eq] at hp;rcases hp j hj with ((h1|h1)|h1)|h1
     ·exact absurd h1 hji
     ·rw [hun] at h1;cases h1
     ·rw [hre] at h1;cases h1
     ·exact hT h1 (h fQ))
   lh hy hSw (a0q hsel hQ r (listed.setIfInBounds i true) (a.put o.dst v) w hok (hc.set lh) h)
 | .go i::r,listed,a,w,hok,hc,h=>by
  simp only [L0,Bool.and_eq_true,beq_iff_eq] at hok;obtain ⟨hr,hok⟩:=hok;have lh:i∈Region.ready md ops listed:=by rw [hr];simp
  refine ⟨fun h0=>(by rw [hr] at h0;cases h0),fun j hj=> ?_⟩;rw [hr] at hj;obtain rfl:j=i:=by simpa using hj
  have h:a1c P ops Q S T j (fun a' w'=>a03 P ops Q S T r a' w') a w:=h;exact wpOp_mono (fun a' w' h'=>⟨h'.1,a0q hsel hQ r _ a' w' hok (hc.set lh) h'.2⟩) h
 | .both i j::r,listed,a,w,hok,hc,h=>by
  simp only [L0,Bool.and_eq_true,beq_iff_eq,decide_eq_true_eq] at hok;obtain ⟨⟨⟨⟨hij,hr⟩,hr1⟩,hr2⟩,hok⟩:=hok;have lh:i∈Region.ready md ops listed:=by rw [hr];simp
  have Gs:j∈Region.ready md ops listed:=by rw [hr];simp
  have Bh:j∈Region.ready md ops (listed.setIfInBounds i true):=by rw [hr1];simp
  refine ⟨fun h0=>(by rw [hr] at h0;cases h0),fun k hk=> ?_⟩;rw [hr] at hk;have hk':k=i\/k=j:=by simpa using hk
  have hA:a1c P ops Q S T i (a1c P ops Q S T j (fun a' w'=>a03 P ops Q S T r a' w')) a w:=h.1;have hB:a1c P ops Q S T j (a1c P ops Q S T i (fun a' w'=>a03 P ops Q S T r a' w')) a w:=h.2;rcases hk' with rfl|rfl
  ·refine wpOp_mono (fun a' w' h'=>⟨h'.1, ?_⟩) hA;refine ⟨fun h0=>(by rw [hr1] at h0;cases h0),fun k' hk'=> ?_⟩;rw [hr1] at hk';obtain rfl:k'=j:=by simpa using hk'
   exact wpOp_mono (fun a' w' h'=>⟨h'.1,a0q hsel hQ r _ a' w' hok ((hc.set lh).set Bh) h'.2⟩) h'.2
  refine wpOp_mono (fun a' w' h'=>⟨h'.1, ?_⟩) hB;refine ⟨fun h0=>(by rw [hr2] at h0;cases h0),fun k' hk'=> ?_⟩;rw [hr2] at hk';obtain rfl:k'=i:=by simpa using hk'
  rw [Array.setIfInBounds_comm _ _ hij.symm];exact wpOp_mono (fun a' w' h'=>⟨h'.1,a0q hsel hQ r _ a' w' hok ((hc.set lh).set Bh) h'.2⟩) h'.2
structure WM (P:Program) (ops:Array Oper) (Q:Exit->Act->World->Prop) (S:World->Prop) (T:Nat->Bool) (r:List Stp) (a:Act) (w:World):Prop where
 out:a03 P ops Q S T r a w
structure GO (P:Program) (ops:Array Oper) (Q:Exit->Act->World->Prop) (S:World->Prop) (T:Nat->Bool) (i:Nat) (K:Act->World->Prop) (a:Act) (w:World):Prop where
 out:a1c P ops Q S T i K a w
theorem i6 {id:Nat} {a:Act} {w:World} {l:List Oper} (r:List Stp) (ks:List Nat) (S:World->Prop) (hm:P.follows .mixedOrders=true)
 (hB:(Region.noSelect l.toArray&&(decide (a4q r=l.length)&&L0 .any l.toArray (fun j=>ks.contains j) r (Array.replicate l.toArray.size false)))=true)
 (hQ:∀(c:List PanicEntry) (a:Act) (d:Option Tmp) (v:Value) (w:World),Q (.panic c) (a.put d v) w->Q (.panic c) a w)
 (h:WM P l.toArray Q S (fun j=>ks.contains j) r a w.drew):(Code.region id l.toArray true).wp P Q a w:=by
 simp only [Bool.and_eq_true,decide_eq_true_eq] at hB;obtain ⟨hsel,hlen,hok⟩:=hB
 have hcl:E9 .any l.toArray (Array.replicate l.toArray.size false):=fun j oj _ hl=>by
  exfalso;rcases Nat.lt_or_ge j l.toArray.size with h'|h'<;>simp_all
 refine wp_region_any hm (Y5 (S:=S) (T:=fun j=>ks.contains j) _ _ _ _ ?_);have key:=a0q (md:= .any) (ops:=l.toArray) (P:=P) (Q:=Q) (S:=S) (T:=fun j=>ks.contains j) hsel hQ r (Array.replicate l.toArray.size false) a w.drew hok hcl h.out;rw [hlen] at key;simpa using key
theorem p8 {a:Act} {w:World} (h:Q .normal a w):WM P ops Q S T [] a w:=⟨h⟩
theorem a1s {i:Nat} {r:List Stp} {o:Oper} {a:Act} {w:World} (ho:ops[i]? =some o) (hw:Region.wanted o (yielded ops a.tmps)=true) (hSw:I7 o.op=false->S w) (v:Value)
 (hy:∀w,(I7 o.op=false->S w)->(execOp a.eval o).run P w= .ok (.value v) w)
 (h:∀K:Act->Prop,(∀a',WM P ops Q S T r a' w->K a')->K (a.put o.dst v)):WM P ops Q S T (.rd i::r) a w:=
 ⟨fun o' ho'=>by
  obtain rfl:o=o':=Option.some.inj (ho.symm.trans ho')
  exact ⟨hSw,v,.inl ⟨hw,hy⟩,h _ fun _ h=>h.out⟩⟩
theorem g8 {i:Nat} {o:Oper} {K:Act->World->Prop} {a:Act} {w:World} (ho:ops[i]? =some o) (hw:Region.wanted o (yielded ops a.tmps)=true)
 (h:∀K':Act->World->Prop,(∀a' w',(T i=true->S w->S w')->K a' w'->K' a' w')->o.wp P a w K' Q):GO P ops Q S T i K a w:=by
 constructor;unfold a1c wpOp;simp only [ho];rw [if_pos hw];exact .inl (h _ fun _ _ h1 h2=>⟨h1,h2⟩)
theorem b0T {i:Nat} {r:List Stp} {a:Act} {w:World} (h:GO P ops Q S T i (fun a' w'=>WM P ops Q S T r a' w') a w):WM P ops Q S T (.go i::r) a w:=by
 constructor;show a1c P ops Q S T i (fun a' w'=>a03 P ops Q S T r a' w') a w;exact a9h (fun _ _ h'=>h'.out) h.out
theorem wrd {i:Nat} {r:List Stp} {o:Oper} {d:Option Tmp} {a:Act} {w:World} {v:Value} (hS:S w) (h:∀K:Act->Prop,(∀a',WM P ops Q S T r a' w->K a')->K (a.put d v))
 (ho:ops[i]? =some o:=by exact rfl)
 (hd:o.dst=d:=by ((try simp only [zz1,zz2,zz3]));exact rfl)
 (hw:Region.wanted o (yielded ops a.tmps)=true:=by ((try simp only [zz1,zz2,zz3]));go_simp;done)
 (hy:∀w,(I7 o.op=false->S w)->(execOp a.eval o).run P w= .ok (.value v) w:=by intro w0 h0;((try simp only [zz1,zz2,zz3]));first|(have h1:=h0 rfl;clear h0;(try cases h1);go_simp;with_reducible rfl)|(clear h0;go_simp;with_reducible rfl)):WM P ops Q S T (.rd i::r) a w:=a1s ho hw (fun _=>hS) v hy (hd▸h)
theorem wgo {i:Nat} {r:List Stp} {o:Oper} {a:Act} {w:World} (h:∀K:Act->World->Prop,(∀a' w',(T i=true->S w->S w')->WM P ops Q S T r a' w'->K a' w')->o.wp P a w K Q)
 (ho:ops[i]? =some o:=by exact rfl)
 (hw:Region.wanted o (yielded ops a.tmps)=true:=by ((try simp only [zz1,zz2,zz3]));go_simp;done):WM P ops Q S T (.go i::r) a w:=b0T (g8 ho hw h)
end
end
end Go.Proofs.YtdmjoodhaeijmaaGreatDoor
