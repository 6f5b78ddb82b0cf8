/- Lemmas. -/
import Derived.Test.YtaenebdppkjhoaaGreatDoorZg4
import Derived.Lib.Bytealg
import Derived.OrdersHeld
import Derived.KernelRfl
namespace Go.Proofs.YtaenebdppkjhoaaGreatDoor
set_option maxRecDepth 20000
set_option maxHeartbeats 40000000
section
open Go.RowKit
theorem a0m (a b:UInt8) (s t:List UInt8):Op.bytesLess (a::s) (b::t)=if a<b then true else if b<a then false else Op.bytesLess s t:=by
 rw [Op.bytesLess];by_cases h1:a<b
 ·simp [h1]
 by_cases h2:b<a
 ·have h3:(a==b)=false:=by
   rw [beq_eq_false_iff_ne];rintro rfl;exact h1 h2
  simp [h1,h2,h3]
 have h3:a=b:=UInt8.toNat.inj (by
  have h4:¬a.toNat<b.toNat:=h1;have h5:¬b.toNat<a.toNat:=h2
  omega)
 simp [h3]
theorem a1o (a b:UInt8) (s t:List UInt8):Lib.compareBytes (a::s) (b::t)=if a<b then -1 else if b<a then 1 else Lib.compareBytes s t:=by
 rw [Lib.compareBytes]
theorem Z4:∀a b:List UInt8,(Lib.compareBytes a b<0)↔Op.bytesLess a b=true
 |[],[]=>by decide
 |[],b::t=>by simp [Lib.compareBytes,Op.bytesLess]
 |a::s,[]=>by simp [Lib.compareBytes,Op.bytesLess]
 | a::s,b::t=>by
  rw [a0m,a1o];split
  ·simp
  split
  ·simp
  exact Z4 s t
theorem a3x:∀a b:List UInt8,(Lib.compareBytes a b=0)↔a=b
 |[],[]=>by decide
 |[],b::t=>by simp [Lib.compareBytes]
 |a::s,[]=>by simp [Lib.compareBytes]
 | a ::s,b::t=>by
  rw [a1o];split
  ·rename_i h
   constructor
   ·intro h';cases h'
   intro h';cases h';exact absurd h (by simp)
  rename_i h
  split
  ·rename_i h1
   constructor
   ·intro h';cases h'
   intro h';cases h';exact absurd h1 h
  rename_i h1
  have hab:a=b:=by
   have h2:¬a.toNat<b.toNat:=h;have h3:¬b.toNat<a.toNat:=h1;exact UInt8.toNat.inj (by omega)
  subst hab;rw [a3x s t];simp
theorem P5:∀a b c:List UInt8,Op.bytesLess a b=true->Op.bytesLess b c=true->Op.bytesLess a c=true
 |_,[],[],_,h=>by simp [Op.bytesLess] at h
 |[],[],_::_,h,_=>by simp [Op.bytesLess] at h
 |_::_,[],_::_,h,_=>by simp [Op.bytesLess] at h
 |_,_::_,[],_,h=>by simp [Op.bytesLess] at h
 |[],_::_,_::_,_,_=>by simp [Op.bytesLess]
 | a ::s,b::t,c::u,h,k=>by
  rw [a0m] at h k⊢;have e:∀x y:UInt8,x<y↔x.toNat<y.toNat:=fun _ _=>Iff.rfl;by_cases h1:a<b
  ·by_cases k1:b<c
   ·rw [if_pos (by rw [e] at*;omega)]
   by_cases k2:c<b
   ·rw [if_neg k1,if_pos k2] at k;cases k
   rw [if_pos (by rw [e] at*;omega)]
  by_cases h2:b<a
  ·rw [if_neg h1,if_pos h2] at h;cases h
  rw [if_neg h1,if_neg h2] at h;by_cases k1:b<c
  ·rw [if_pos (by rw [e] at*;omega)]
  by_cases k2:c<b
  ·rw [if_neg k1,if_pos k2] at k;cases k
  rw [if_neg k1,if_neg k2] at k;rw [if_neg (by rw [e] at*;omega),if_neg (by rw [e] at*;omega)];exact P5 s t u h k
theorem a2c:∀a:List UInt8,Op.bytesLess a a=false
 |[]=>rfl
 |a::s=>by
  have e:¬a<a:=by simp
  rw [a0m,if_neg e,if_neg e,a2c s]
theorem a7P (a b:List UInt8) (h:Op.bytesLess a b=false) (hne:a≠b):Op.bytesLess b a=true:=by
 induction a generalizing b with
 |nil=>cases b with
  |nil=>exact absurd rfl hne
  |cons b t=>simp [Op.bytesLess] at h
 | cons a s ih=>cases b with
  |nil=>simp [Op.bytesLess]
  | cons b t=>
   rw [a0m] at h⊢;by_cases h1:a<b
   ·rw [if_pos h1] at h;cases h
   rw [if_neg h1] at h;by_cases h2:b<a
   ·rw [if_pos h2]
   rw [if_neg h2] at h;rw [if_neg h2,if_neg h1]
   have hab:a=b:=by
    have h2:¬b.toNat<a.toNat:=h2;have h3:¬a.toNat<b.toNat:=h1;exact UInt8.toNat.inj (by omega)
   subst hab;exact ih t h (fun h=>hne (by rw [h]))
theorem b3Y (a b:ByteArray) (w:World):Calls Tryz.prog 111 #[.string a,.string b] w fun e w'=>e= .returned (.int .i64 (Lib.compareBytes a.data.toList b.data.toList))/\w'=w:=by
 go_enter Tryz.func111,Tryz.ntmps111
 go_wp2
 rw [run_callFunc_extern Tryz.func146 (by kernel_rfl) (by kernel_rfl) (by kernel_rfl) (e:=Extern.BytealgCompare.compare) (by kernel_rfl),Lib.run_compareString];simp only [Result.andThen];rw [Oper.upon_value]
 go_wp2
 go_ret;exact ⟨rfl,rfl⟩
theorem a7Q (a b:ByteArray) (w:World):Calls Tryz.prog 75 #[.string a,.string b] w fun e w'=>e= .returned (.int .i64 (Lib.compareBytes a.data.toList b.data.toList))/\w'=w:=by
 go_enter Tryz.func75,Tryz.ntmps75
 go_wp2_with fail
 refine (b3Y a b w).mono ?_;rintro e w' ⟨rfl,rfl⟩
 go_wp2
 go_ret;exact ⟨rfl,rfl⟩
section
variable {P:Program} {ops:Array Oper} {Q:Exit->Act->World->Prop} {md:Region.Mode} {S:World->Prop} {T:Nat->Bool}
def K7 (md:Region.Mode) (ops:Array Oper):Nat->Nat->Nat->Bool
 |0,_,_=>false
 |fuel+1,j,i=>match ops[j]? with
  |some o=>o.after.any fun e=>Region.binds md e&&(e.on==i||K7 md ops fuel e.on i)
  |none=>false
def I9 (md:Region.Mode) (ops:Array Oper) (listed:Array Bool):Prop:=
 ∀j oj,ops[j]? =some oj->listed.getD j false=true->∀e∈oj.after,Region.binds md e=true->listed.getD e.on false=true
theorem I9.reach {listed:Array Bool} (hc:I9 md ops listed):∀(fuel j i:Nat),listed.getD j false=true->K7 md ops fuel j i=true->listed.getD i false=true
 |0,_,_,_,h=>by simp [K7] at h
 | fuel+1,j,i,hj,h=>by
  unfold K7 at h;split at h
  ·rename_i o ho
   obtain ⟨e,he,hb⟩:=Array.any_eq_true'.1 h;simp only [Bool.and_eq_true,Bool.or_eq_true,beq_iff_eq] at hb;have hl:=hc j o ho hj e he hb.1;rcases hb.2 with rfl|hr
   ·exact hl
   exact hc.reach fuel e.on i hl hr
  ·cases h
theorem a6f {listed:Array Bool} (hc:I9 md ops listed) {fuel j i:Nat} (hj:j∈Region.ready md ops listed) (h:K7 md ops fuel j i=true):listed.getD i false=true:=by
 cases fuel with
 |zero=>simp [K7] at h
 |succ fuel=>
  obtain ⟨_,o,ho,hall⟩:=mem_ready.1 hj;unfold K7 at h;simp only [ho] at h;obtain ⟨e,he,hb⟩:=Array.any_eq_true'.1 h;simp only [Bool.and_eq_true,Bool.or_eq_true,beq_iff_eq] at hb;have hl:=hall e he hb.1;rcases hb.2 with rfl|hr
  ·exact hl
  exact hc.reach fuel e.on i hl hr
theorem I9.set {listed:Array Bool} (hc:I9 md ops listed) {j:Nat} (hj:j∈Region.ready md ops listed):I9 md ops (listed.setIfInBounds j true):=by
 intro k ok hk hl e he hb;by_cases hjk:j=k
 ·subst hjk;obtain ⟨_,o,ho,hall⟩:=mem_ready.1 hj;obtain rfl:o=ok:=Option.some.inj (ho.symm.trans hk);exact getD_set_true (hall e he hb)
 rw [getD_set_ne false hjk] at hl;exact getD_set_true (hc k ok hk hl e he hb)
def a1T (P:Program) (md:Region.Mode) (ops:Array Oper) (Q:Exit->Act->World->Prop) (S:World->Prop) (T:Nat->Bool):Nat->Array Bool->Act->World->Prop
 |0,listed,a,w=>Region.ready md ops listed=[]/\Q .normal a w
 |fuel+1,listed,a,w=>
  (Region.ready md ops listed=[]->Q .normal a w)/\
  ∀i∈Region.ready md ops listed,wpOp P ops Q i (fun a' w'=>(T i=true->S w->S w')/\a1T P md ops Q S T fuel (listed.setIfInBounds i true) a' w') a w
theorem a0O:∀(fuel:Nat) (listed:Array Bool) (a:Act) (w:World),a1T P md ops Q S T fuel listed a w->wpAny P md ops Q fuel listed a w
 |0,_,_,_,h=>h
 |fuel+1,_,_,_,h=>⟨h.1,fun i hi=>wpOp_mono (fun a' w' h'=>a0O fuel _ a' w' h'.2) (h.2 i hi)⟩
theorem a1p {S':World->Prop} {i:Nat} {oi:Oper} {v:Value} (hi:ops[i]? =some oi) (hsel:∀(j:Nat) (o:Oper) cs b,ops[j]? =some o->o.op≠ .select cs b)
 (hQ:∀c a w,Q (.panic c) (a.put oi.dst v) w->Q (.panic c) a w):
 ∀(fuel:Nat) (listed:Array Bool) (a:Act) (w:World),I9 md ops listed->
  (∀j oj,ops[j]? =some oj->j≠i->listed.getD j true=false->(∀e∈oj.after,Region.binds md e=true->e.on≠i)->oi.apart ops oj=true)->
  (∀j,j<ops.size->j≠i->listed.getD j true=false->K7 md ops ops.size j i=false->∀w w',(T j=true->S w->S w')->S' w->S' w')->
  i∈Region.ready md ops listed->YieldsIf P ops S' oi v a->S' w->
  a1T P md ops Q S T fuel (listed.setIfInBounds i true) (a.put oi.dst v) w->a1T P md ops Q S T (fuel+1) listed a w:=by
 intro fuel
 induction fuel with
 | zero=>
  intro listed a w hc _ _ hr hy hS' H;refine ⟨fun h=>(by rw [h] at hr;cases hr),fun j hj=> ?_⟩;by_cases hji:j=i
  ·subst hji;exact hy.wpOp hi hS' ⟨fun _ h=>h,H⟩
  ·have:=ready_mono hj hji;rw [H.1] at this;cases this
 | succ fuel ih=>
  intro listed a w hc hfree hT hr hy hS' H;refine ⟨fun h=>(by rw [h] at hr;cases hr),fun j hj=> ?_⟩;by_cases hji:j=i
  ·subst hji;exact hy.wpOp hi hS' ⟨fun _ h=>h,H⟩
  have h1:=H.2 j (ready_mono hj hji);obtain ⟨hjun,oj,hoj,hall⟩:=mem_ready.1 hj
  have hiun:listed.getD i false=false:=by
   have h0:=(mem_ready.1 hr).1;rcases Nat.lt_or_ge i listed.size with h'|h'
   ·simp [h'] at h0⊢;exact h0
   simp [Array.getElem?_eq_none h'] at h0
  have hnot:∀e∈oj.after,Region.binds md e=true->e.on≠i:=fun e he hb heq=>by
   have h1:=hall e he hb;rw [heq,hiun] at h1;cases h1
  have hreach:K7 md ops ops.size j i=false:=by
   cases hb:K7 md ops ops.size j i with
   |false=>rfl
   |true=>have:=a6f hc hj hb;rw [hiun] at this;cases this
  have h2:=wpOp_putIf hoj (hfree j oj hoj hji hjun hnot) (fun cs b=>hsel i oi cs b hi) (fun cs b=>hsel j oj cs b hoj) hQ hy h1
  have hfree':∀k ok,ops[k]? =some ok->k≠i->(listed.setIfInBounds j true).getD k true=false->
   (∀e∈ok.after,Region.binds md e=true->e.on≠i)->oi.apart ops ok=true:=fun k ok hk hki hun hno=>by
   refine hfree k ok hk hki ?_ hno;by_cases hjk:j=k
   ·subst hjk;exact hjun
   rw [getD_set_ne true hjk] at hun;exact hun
  have hT':∀k,k<ops.size->k≠i->(listed.setIfInBounds j true).getD k true=false->K7 md ops ops.size k i=false->∀w w',(T k=true->S w->S w')->S' w->S' w':=fun k hks hki hun hno=>by
   refine hT k hks hki ?_ hno;by_cases hjk:j=k
   ·subst hjk;exact hjun
   rw [getD_set_ne true hjk] at hun;exact hun
  have hSj:=hT j (zz7 hoj).1 hji hjun hreach;refine wpOp_mono (fun a' w' h3=> ?_) h2;obtain ⟨hy3,hTS,H3⟩:=h3;exact ⟨hTS,ih (listed.setIfInBounds j true) a' w' (hc.set hj) hfree' hT' (ready_mono hr (Ne.symm hji)) hy3 (hSj w w' hTS hS') (by rw [Array.setIfInBounds_comm _ _ hji];exact H3)⟩
def S7:Op->Bool
 | .move _| .assign _| .pick .. | .nilCheck _| .fieldAddr .. | .field .. | .binOp .. | .unOp .. | .build .. | .extract .. | .indexAddr .. | .slice .. =>true
 | .call {callee:= .builtin .len,..}=>true
 | .call {callee:= .builtin .cap,..}=>true
 |_=>false
def z7 (P:Program) {α:Type} (c:Sem α):Prop:=∀w,(∃v,c.run P w= .ok v w)\/∃e w',c.run P w= .halt e w'
def J0 (P:Program) {α:Type} (c:Sem α):Prop:=∀w,(∃v x,c.run P w= .ok v (World.alloc w x))\/∃e w',c.run P w= .halt e w'
theorem z7.pure {α:Type} (v:α):z7 P (Pure.pure v:Sem α):=fun w=> .inl ⟨v,by simp⟩
theorem z7.halt {α:Type} (e:Halt):z7 P (Sem.halt e:Sem α):=fun w=> .inr ⟨e,w,rfl⟩
theorem J0.halt {α:Type} (e:Halt):J0 P (Sem.halt e:Sem α):=fun w=> .inr ⟨e,w,rfl⟩
theorem z7.bind {α β:Type} {c:Sem α} {f:α->Sem β} (h:z7 P c) (hf:∀v,z7 P (f v)):z7 P (c>>=f):=fun w=>by
 rw [Sem.run_bind];rcases h w with ⟨v,hv⟩|⟨e,w',he⟩
 ·rw [hv];exact hf v w
 rw [he];exact .inr ⟨e,w',rfl⟩
theorem J0.bind {α β:Type} {c:Sem α} {f:α->Sem β} (h:z7 P c) (hf:∀v,J0 P (f v)):J0 P (c>>=f):=fun w=>by
 rw [Sem.run_bind];rcases h w with ⟨v,hv⟩|⟨e,w',he⟩
 ·rw [hv];exact hf v w
 rw [he];exact .inr ⟨e,w',rfl⟩
theorem z7.typeInfo (t:TypeId):z7 P (typeInfo t):=fun w=>by
 unfold Go.typeInfo
 cases hq:P.info? t with
 |none=>exact .inr ⟨.stuck _,w,by simp [hq,stuck];rfl⟩
 |some i=>exact .inl ⟨i,by simp [hq]⟩
theorem z7.underlying (t:TypeId):z7 P (underlying t):=fun w=>by
 unfold Go.underlying
 cases hq:P.underlying t with
 |none=>exact .inr ⟨.stuck _,w,by simp [hq,stuck];rfl⟩
 |some i=>exact .inl ⟨i,by simp [hq]⟩
theorem z7.sizeOf (t:TypeId):z7 P (sizeOf t):=by
 unfold Go.sizeOf;exact z7.bind (z7.typeInfo t) fun v=>z7.pure _
theorem z7.zeroValue (t:TypeId):z7 P (zeroValue t):=by
 unfold Go.zeroValue;refine z7.bind (z7.typeInfo t) fun v=> ?_
 cases v.zero with
 |none=>exact z7.halt _
 |some z=>exact z7.pure z
theorem J0.newRow (t:TypeId) (cs:Array Value) (f:Addr->Value):J0 P (do Pure.pure (f (<-newRow t cs))):=fun w=> .inl ⟨f ⟨w.heap.size,0,none⟩,.cells cs t,by simp [Go.newRow]⟩
theorem J0.buildSlice (t:TypeId) (n:Nat) (parts:Array (Nat×Value)):J0 P (Instr.buildSlice t n parts):=by
 unfold Instr.buildSlice;refine J0.bind (z7.underlying t) fun d=> ?_;split
 ·rename_i elem
  refine J0.bind (z7.sizeOf elem) fun size=> ?_
  have fin:∀zero:Array Value,J0 P (match Instr.fill (fun i=>some (i*size,size)) ((Array.range (n*size)).map (zero[· %zero.size]!)) parts.toList with
   |some cells=>(do Pure.pure (Value.slice (some (<-Go.newRow elem cells)) n n):Sem Value)
   |_=>stuck "buildSlice: a part of the wrong size"):=fun zero=>by
   split
   ·rename_i cells _
    exact J0.newRow elem cells fun a=> .slice (some a) n n
   exact J0.halt _
  split
  ·dsimp only
   split
   ·exact J0.bind (z7.halt _) fun _=>fin _
   exact fin _
  dsimp only
  split
  ·exact J0.bind (z7.halt _) fun _=>J0.bind (z7.zeroValue elem) fun z=>fin z.cells
  exact J0.bind (z7.zeroValue elem) fun z=>fin z.cells
 exact J0.halt _
end
end
section
open Go.RowKit
inductive Stp where
 |rd (i:Nat)
 |go (i:Nat)
 |both (i j:Nat)
section
variable {P:Program} {ops:Array Oper} {Q:Exit->Act->World->Prop} {md:Region.Mode} {S:World->Prop} {T:Nat->Bool}
def J1 (md:Region.Mode) (ops:Array Oper) (T:Nat->Bool):List Stp->Array Bool->Bool
 |[],listed=>(Region.ready md ops listed).isEmpty
 | .rd i::r,listed=>decide (i<ops.size)&&Region.free md ops listed i&&(Region.ready md ops listed).contains i&&
  (((ops[i]?).map (fun o=>S7 o.op)).getD false||(List.range ops.size).all fun j=>j==i||listed.getD j true||K7 md ops ops.size j i||T j)&&
  J1 md ops T r (listed.setIfInBounds i true)
 | .go i::r,listed=>Region.ready md ops listed==[i]&&J1 md ops T r (listed.setIfInBounds i true)
 | .both i j::r,listed=>decide (i≠j)&&Region.ready md ops listed==[i,j]&&Region.ready md ops (listed.setIfInBounds i true)==[j]&&Region.ready md ops (listed.setIfInBounds j true)==[i]&&
  J1 md ops T r ((listed.setIfInBounds i true).setIfInBounds j true)
def count:List Stp->Nat
 |[]=>0
 | .rd _::r=>count r+1
 | .go _::r=>count r+1
 | .both _ _::r=>count r+2
def a0P (P:Program) (ops:Array Oper) (Q:Exit->Act->World->Prop) (S:World->Prop) (T:Nat->Bool) (i:Nat) (K:Act->World->Prop) (a:Act) (w:World):Prop:=
 wpOp P ops Q i (fun a' w'=>(T i=true->S w->S w')/\K a' w') a w
def a0D (P:Program) (ops:Array Oper) (Q:Exit->Act->World->Prop) (S:World->Prop) (T:Nat->Bool):List Stp->Act->World->Prop
 |[],a,w=>Q .normal a w
 | .rd i::r,a,w=>∀o,ops[i]? =some o->(S7 o.op=false->S w)/\∃v,YieldsIf P ops (fun w=>S7 o.op=false->S w) o v a/\a0D P ops Q S T r (a.put o.dst v) w
 | .go i::r,a,w=>a0P P ops Q S T i (fun a' w'=>a0D P ops Q S T r a' w') a w
 | .both i j::r,a,w=>a0P P ops Q S T i (a0P P ops Q S T j (fun a' w'=>a0D P ops Q S T r a' w')) a w/\a0P P ops Q S T j (a0P P ops Q S T i (fun a' w'=>a0D P ops Q S T r a' w')) a w
theorem a9U {i:Nat} {K K':Act->World->Prop} {a:Act} {w:World} (h:∀a w,K a w->K' a w) (hh:a0P P ops Q S T i K a w):a0P P ops Q S T i K' a w:=
 wpOp_mono (fun a' w' h'=>⟨h'.1,h a' w' h'.2⟩) hh
theorem Z5 (hsel:Region.noSelect ops=true) (hQ:∀(c:List PanicEntry) (a:Act) (d:Option Tmp) (v:Value) (w:World),Q (.panic c) (a.put d v) w->Q (.panic c) a w):
 ∀(r:List Stp) (listed:Array Bool) (a:Act) (w:World),J1 md ops T r listed=true->I9 md ops listed->a0D P ops Q S T r a w->a1T P md ops Q S T (count r) listed a w
 |[],listed,a,w,hok,_,h=>by
  simp only [J1,List.isEmpty_iff] at hok;exact ⟨hok,h⟩
 | .rd i::r,listed,a,w,hok,hc,h=>by
  simp only [J1,Bool.and_eq_true,decide_eq_true_eq] at hok;obtain ⟨⟨⟨⟨hi,hf⟩,hr⟩,hp⟩,hok⟩:=hok;obtain ⟨o,ho⟩:∃o,ops[i]? =some o:=⟨_,Array.getElem?_eq_getElem hi⟩;obtain ⟨hSw,v,hy,h⟩:=h o ho;have hri:i∈Region.ready md ops listed:=by simpa using hr
  exact a1p (S:=S) (T:=T) (S':=fun w=>S7 o.op=false->S w) ho (Region.noSelect_spec hsel) (fun c a w=>hQ c a o.dst v w) (count r) listed a w hc (Region.free_spec ho hf)
   (fun j hj hji hun hre w w' hT h hpf=>by
     simp only [ho,Option.map_some,Option.getD_some,hpf,Bool.false_or,List.all_eq_true,List.mem_range,Bool.or_eq_true,beq_iff_eq] at hp;rcases hp j hj with ((h1|h1)|h1)|h1
     ·exact absurd h1 hji
     ·rw [hun] at h1;cases h1
     ·rw [hre] at h1;cases h1
     ·exact hT h1 (h hpf))
   hri hy hSw (Z5 hsel hQ r (listed.setIfInBounds i true) (a.put o.dst v) w hok (hc.set hri) h)
 | .go i::r,listed,a,w,hok,hc,h=>by
  simp only [J1,Bool.and_eq_true,beq_iff_eq] at hok;obtain ⟨hr,hok⟩:=hok;have hri:i∈Region.ready md ops listed:=by rw [hr];simp
  refine ⟨fun h0=>(by rw [hr] at h0;cases h0),fun j hj=> ?_⟩;rw [hr] at hj;obtain rfl:j=i:=by simpa using hj
  have h:a0P P ops Q S T j (fun a' w'=>a0D P ops Q S T r a' w') a w:=h;exact wpOp_mono (fun a' w' h'=>⟨h'.1,Z5 hsel hQ r _ a' w' hok (hc.set hri) h'.2⟩) h
 | .both i j::r,listed,a,w,hok,hc,h=>by
  simp only [J1,Bool.and_eq_true,beq_iff_eq,decide_eq_true_eq] at hok;obtain ⟨⟨⟨⟨hij,hr⟩,hr1⟩,hr2⟩,hok⟩:=hok;have hri:i∈Region.ready md ops listed:=by rw [hr];simp
  have hrj:j∈Region.ready md ops listed:=by rw [hr];simp
  have hrj2:j∈Region.ready md ops (listed.setIfInBounds i true):=by rw [hr1];simp
  refine ⟨fun h0=>(by rw [hr] at h0;cases h0),fun k hk=> ?_⟩;rw [hr] at hk;have hk':k=i\/k=j:=by simpa using hk
  have hA:a0P P ops Q S T i (a0P P ops Q S T j (fun a' w'=>a0D P ops Q S T r a' w')) a w:=h.1;have hB:a0P P ops Q S T j (a0P P ops Q S T i (fun a' w'=>a0D P ops Q S T r a' w')) a w:=h.2;rcases hk' with rfl|rfl
  ·refine wpOp_mono (fun a' w' h'=>⟨h'.1, ?_⟩) hA;refine ⟨fun h0=>(by rw [hr1] at h0;cases h0),fun k' hk'=> ?_⟩;rw [hr1] at hk';obtain rfl:k'=j:=by simpa using hk'
   exact wpOp_mono (fun a' w' h'=>⟨h'.1,Z5 hsel hQ r _ a' w' hok ((hc.set hri).set hrj2) h'.2⟩) h'.2
  refine wpOp_mono (fun a' w' h'=>⟨h'.1, ?_⟩) hB;refine ⟨fun h0=>(by rw [hr2] at h0;cases h0),fun k' hk'=> ?_⟩;rw [hr2] at hk';obtain rfl:k'=i:=by simpa using hk'
  rw [Array.setIfInBounds_comm _ _ hij.symm];exact wpOp_mono (fun a' w' h'=>⟨h'.1,Z5 hsel hQ r _ a' w' hok ((hc.set hri).set hrj2) h'.2⟩) h'.2
structure WM (P:Program) (ops:Array Oper) (Q:Exit->Act->World->Prop) (S:World->Prop) (T:Nat->Bool) (r:List Stp) (a:Act) (w:World):Prop where
 out:a0D P ops Q S T r a w
structure GO (P:Program) (ops:Array Oper) (Q:Exit->Act->World->Prop) (S:World->Prop) (T:Nat->Bool) (i:Nat) (K:Act->World->Prop) (a:Act) (w:World):Prop where
 out:a0P P ops Q S T i K a w
theorem g8 {id:Nat} {a:Act} {w:World} {l:List Oper} (r:List Stp) (ks:List Nat) (S:World->Prop) (hm:P.follows .mixedOrders=true)
 (hB:(Region.noSelect l.toArray&&(decide (count r=l.length)&&J1 .any l.toArray (fun j=>ks.contains j) r (Array.replicate l.toArray.size false)))=true)
 (hQ:∀(c:List PanicEntry) (a:Act) (d:Option Tmp) (v:Value) (w:World),Q (.panic c) (a.put d v) w->Q (.panic c) a w)
 (h:WM P l.toArray Q S (fun j=>ks.contains j) r a w.drew):(Code.region id l.toArray true).wp P Q a w:=by
 simp only [Bool.and_eq_true,decide_eq_true_eq] at hB;obtain ⟨hsel,hlen,hok⟩:=hB
 have hcl:I9 .any l.toArray (Array.replicate l.toArray.size false):=fun j oj _ hl=>by
  exfalso;rcases Nat.lt_or_ge j l.toArray.size with h'|h'<;>simp_all
 refine wp_region_any hm (a0O (S:=S) (T:=fun j=>ks.contains j) _ _ _ _ ?_);have key:=Z5 (md:= .any) (ops:=l.toArray) (P:=P) (Q:=Q) (S:=S) (T:=fun j=>ks.contains j) hsel hQ r (Array.replicate l.toArray.size false) a w.drew hok hcl h.out;rw [hlen] at key;simpa using key
theorem j8 {a:Act} {w:World} (h:Q .normal a w):WM P ops Q S T [] a w:=⟨h⟩
theorem l5 {i:Nat} {r:List Stp} {o:Oper} {a:Act} {w:World} (ho:ops[i]? =some o) (hw:Region.wanted o (yielded ops a.tmps)=true) (hSw:S7 o.op=false->S w) (v:Value)
 (hy:∀w,(S7 o.op=false->S w)->(execOp a.eval o).run P w= .ok (.value v) w)
 (h:∀K:Act->Prop,(∀a',WM P ops Q S T r a' w->K a')->K (a.put o.dst v)):WM P ops Q S T (.rd i::r) a w:=
 ⟨fun o' ho'=>by
  obtain rfl:o=o':=Option.some.inj (ho.symm.trans ho')
  exact ⟨hSw,v,.inl ⟨hw,hy⟩,h _ fun _ h=>h.out⟩⟩
theorem g9 {i:Nat} {o:Oper} {K:Act->World->Prop} {a:Act} {w:World} (ho:ops[i]? =some o) (hw:Region.wanted o (yielded ops a.tmps)=true)
 (h:∀K':Act->World->Prop,(∀a' w',(T i=true->S w->S w')->K a' w'->K' a' w')->o.wp P a w K' Q):GO P ops Q S T i K a w:=by
 constructor;unfold a0P wpOp;simp only [ho];rw [if_pos hw];exact .inl (h _ fun _ _ h1 h2=>⟨h1,h2⟩)
theorem g7 {i:Nat} {r:List Stp} {a:Act} {w:World} (h:GO P ops Q S T i (fun a' w'=>WM P ops Q S T r a' w') a w):WM P ops Q S T (.go i::r) a w:=by
 constructor;show a0P P ops Q S T i (fun a' w'=>a0D P ops Q S T r a' w') a w;exact a9U (fun _ _ h'=>h'.out) h.out
end
end
section
open Go.RowKit
theorem b3Z (s:ByteArray) (w:World):Calls Tryz.prog 165 #[.string s,.int .u8 47] w fun e w'=>e= .returned (.int .i64 (Lib.indexByte s.data.toList 47))/\w'=w:=by
 go_enter Tryz.func165,Tryz.ntmps165
 go_wp2
 rw [run_callFunc_extern Tryz.func193 (by kernel_rfl) (by kernel_rfl) (by kernel_rfl) (e:=Extern.BytealgIndexByte.indexByte) (by kernel_rfl),Lib.run_indexByteString];simp only [Result.andThen];rw [Oper.upon_value]
 go_wp2
 go_ret;exact ⟨rfl,rfl⟩
theorem b2e (s:ByteArray) (w:World):Calls Tryz.prog 119 #[.string s,.string ⟨#[47]⟩] w fun e w'=>e= .returned (.int .i64 (Lib.indexByte s.data.toList 47))/\w'=w:=by
 have hi:=b3Z s w;obtain ⟨R,hR⟩:∃R,Lib.indexByte s.data.toList 47=R:=⟨_,rfl⟩;rw [hR] at hi⊢;obtain ⟨Hi,HR⟩:=zh2 hi hR;clear hi hR
 cases he:([47]:List UInt8)==s.toList with
 |true=>
  go_enter Tryz.func119,Tryz.ntmps119
  go_wp2_with fail
  go_ret;refine ⟨?_,rfl⟩;have hs:s.data.toList=[47]:=by rw [<-ByteArray.toList_eq];exact (beq_iff_eq.1 he).symm
  have h0:R=0:=by rw [<-HR.out,hs];rfl
  rw [h0];rfl
 |false=>
  go_enter Tryz.func119,Tryz.ntmps119
  go_wp2_with fail
  refine Hi.out.mono ?_;rintro e w' ⟨rfl,rfl⟩
  go_wp2
  go_ret;exact ⟨rfl,rfl⟩
theorem B8:∀(l:List UInt8) (c:UInt8),Lib.indexByte l c= -1\/∃i:Nat,Lib.indexByte l c=i
 |[],c=> .inl rfl
 |b::l,c=>by
  rw [Lib.indexByte];split
  ·exact .inr ⟨0,rfl⟩
  rcases B8 l c with h|⟨i,h⟩
  ·rw [h];exact .inl rfl
  rw [h];split
  ·exact .inl rfl
  exact .inr ⟨i+1,by omega⟩
theorem N5:∀{l:List UInt8} {c:UInt8} {i:Nat},Lib.indexByte l c=i->i<l.length
 |[],c,i,h=>by simp [Lib.indexByte] at h
 |b::l,c,i,h=>by
  rw [Lib.indexByte] at h;rw [zz9];split at h
  ·omega
  rcases B8 l c with h1|⟨k,h1⟩
  ·rw [h1] at h;have h:(-1:Int)=i:=h;omega
  have:=N5 h1;rw [h1] at h;split at h<;>omega
theorem b2f (s:ByteArray) (hs:s.size<=9223372036854775807) (I:Nat) (hI:Lib.indexByte s.data.toList 47=I) (w:World):
 Calls Tryz.prog 89 #[.string s,.string ⟨#[47]⟩] w fun e w'=>e= .returned (.tuple #[.string (s.extract 0 I),.string (s.extract (I+1) s.size),.bool true])/\Mod (fun _=>False) w w':=by
 have hi:=b2e s w;rw [hI] at hi;have hlt:I<s.size:=N5 hI;have hlt':(I:Int)<s.size:=by omega
 have hs':(s.size:Int)<=9223372036854775807:=by omega
 have Hi:=zh hi;clear hi hI hs
 go_enter Tryz.func89,Tryz.ntmps89
 go_wp2_with fail
 refine Hi.out.mono ?_;rintro e w' ⟨rfl,rfl⟩
 go_wp2_with fail
 have hi2:(I:Int)<=s.size:=by omega
 have hi3:(I:Int)+1<=s.size:=by omega
 have hw3:IntKind.i64.wrap ((I:Int)+1)=(I:Int)+1:=by rw [IntKind.wrap_i64];omega
 have hb3:(0:Int)<=(I:Int)+1:=by omega
 have htn2:((I:Int)+1).toNat=I+1:=by omega
 have hS:(fun _:World=>True) w'.drew:=trivial;refine g8 [.rd 0,.rd 1,.rd 2,.rd 3,.rd 4,.rd 5,.rd 6,.rd 7,.rd 8,.rd 9,.rd 10,.rd 11] [] (fun _:World=>True) (by kernel_rfl) (by kernel_rfl) (fun _ _ d _ _ h=>(by cases d<;>exact h)) ?_
 iterate 12 (
  refine l5 rfl ?_ (fun _=>hS) ?_ (fun w0 h0=> ?_) (fun K hK=> ?_)
  ·(try simp only [zz1]);(try simp only [zz2]);(try simp only [zz3]);go_simp;done
  rotate_left
  ·(try simp only [zz1]);(try simp only [zz2]);(try simp only [zz3])
   first
    |(obtain - :=h0 rfl;clear h0;go_simp;with_reducible rfl)
    |(clear h0;go_simp;with_reducible rfl)
  (try simp only [zz1]);(try simp only [zz2]);(try simp only [zz3])
  go_simp;refine hK _ ?_;clear hK K)
 refine j8 ?_
 go_wp2
 go_ret3
 exact ⟨rfl,(Mod.refl _ _).drew⟩
theorem b30 (s:ByteArray) (hI:Lib.indexByte s.data.toList 47= -1) (w:World):
 Calls Tryz.prog 89 #[.string s,.string ⟨#[47]⟩] w fun e w'=>e= .returned (.tuple #[.string s,.string ⟨#[]⟩,.bool false])/\Mod (fun _=>False) w w':=by
 have hi:=b2e s w;rw [hI] at hi;have Hi:=zh hi;clear hi hI
 go_enter Tryz.func89,Tryz.ntmps89
 go_wp2_with fail
 refine Hi.out.mono ?_;rintro e w' ⟨rfl,rfl⟩
 go_wp2
 go_ret3
 exact ⟨rfl,Mod.refl _ _⟩
def r6 (s:ByteArray):ByteArray×ByteArray×Bool:=if 0<=Lib.indexByte s.data.toList 47 then (s.extract 0 (Lib.indexByte s.data.toList 47).toNat,s.extract ((Lib.indexByte s.data.toList 47).toNat+1) s.size,true) else (s,⟨#[]⟩,false)
theorem b44 (s:ByteArray) (hs:s.size<=9223372036854775807) (w:World):
 Calls Tryz.prog 53 #[.string s,.string ⟨#[47]⟩] w fun e w'=>e= .returned (.tuple #[.string (r6 s).1,.string (r6 s).2.1,.bool (r6 s).2.2])/\Mod (fun _=>False) w w':=by
 have hc:Calls Tryz.prog 89 #[.string s,.string ⟨#[47]⟩] w fun e w'=>e= .returned (.tuple #[.string (r6 s).1,.string (r6 s).2.1,.bool (r6 s).2.2])/\Mod (fun _=>False) w w':=by
  rcases B8 s.data.toList 47 with h|⟨I,h⟩
  ·have e:r6 s=(s,⟨#[]⟩,false):=by unfold r6;rw [h];rfl
   rw [e];exact b30 s h w
  have e:r6 s=(s.extract 0 I,s.extract (I+1) s.size,true):=by
   unfold r6;rw [h,if_pos (by omega)];rfl
  rw [e];exact b2f s hs I h w
 generalize r6 s=C at hc⊢
 have Hc:=zh hc;clear hc hs
 go_enter Tryz.func53,Tryz.ntmps53
 go_wp2_with fail
 refine Hc.out.mono ?_;rintro e w' ⟨rfl,hm⟩;have Hm:=zh hm;clear hm
 go_wp2
 go_ret3
 exact ⟨rfl,Hm.out⟩
theorem a6g {s:ByteArray} (h:(r6 s).2.2=true):(r6 s).2.1.size<s.size:=by
 unfold r6 at h⊢;split at h
 ·rename_i h0
  rw [if_pos h0];rcases B8 s.data.toList 47 with h1|⟨I,h1⟩
  ·omega
  have hlt:I<s.size:=N5 h1;rw [h1];show (s.extract (I+1) s.size).size<s.size;rw [ByteArray.size_extract];omega
 ·cases h
theorem b31 {s:ByteArray} (h:(r6 s).2.2=true):(r6 s).1.size+1+(r6 s).2.1.size=s.size:=by
 unfold r6 at h⊢;split at h
 ·rename_i h0
  rw [if_pos h0];rcases B8 s.data.toList 47 with h1|⟨I,h1⟩
  ·omega
  have hlt:I<s.size:=N5 h1;rw [h1];show (s.extract 0 I).size+1+(s.extract (I+1) s.size).size=s.size;rw [ByteArray.size_extract,ByteArray.size_extract];omega
 ·cases h
theorem b2g (s:ByteArray):(r6 s).1.size<=s.size/\(r6 s).2.1.size<=s.size:=by
 unfold r6;split
 ·constructor
  ·show (s.extract _ _).size<=_;rw [ByteArray.size_extract];omega
  show (s.extract _ _).size<=_;rw [ByteArray.size_extract];omega
 exact ⟨Nat.le_refl _,Nat.zero_le _⟩
def scN:Nat->ByteArray->Option Nat
 |0,_=>none
 |f+1,s=>if n4 (r6 s).1=true then (if (r6 s).2.2=true then (scN f (r6 s).2.1).map (· +1) else some 1) else none
theorem P6 (f:Nat) (s:ByteArray):scN (f+1) s=if n4 (r6 s).1=true then (if (r6 s).2.2=true then (scN f (r6 s).2.1).map (· +1) else some 1) else none:=rfl
theorem a6h:∀(f g:Nat) (s:ByteArray),s.size<f->s.size<g->scN f s=scN g s
 |0,_,s,h,_=>by omega
 |_+1,0,s,_,h=>by omega
 |f+1,g+1,s,h1,h2=>by
  rw [P6,P6];split
  ·split
   ·rename_i h
    have:=a6g h;rw [a6h f g (r6 s).2.1 (by omega) (by omega)]
   rfl
  rfl
def scM (n:Nat) (s:ByteArray):Bool:=match scN (s.size+1) s with
 |some k=>decide (n+k<=4)
 |none=>false
def s5 (s:ByteArray):Bool:=s.toList.isEmpty||scM 0 s
theorem b2h {s:ByteArray} (h:n4 s=true):0<s.size:=by
 unfold n4 at h;simp only [Bool.and_eq_true,decide_eq_true_eq] at h;omega
theorem b45 {n:Nat} {s:ByteArray} (h:n4 (r6 s).1=false):scM n s=false:=by
 unfold scM;rw [P6,if_neg (by rw [h];decide)]
theorem b2i {n:Nat} {s:ByteArray} (h:n4 (r6 s).1=true) (hm:(r6 s).2.2=true):scM n s=scM (n+1) (r6 s).2.1:=by
 have:=a6g hm;unfold scM;rw [P6,if_pos h,if_pos hm,a6h s.size ((r6 s).2.1.size+1) _ (by omega) (by omega)]
 cases scN ((r6 s).2.1.size+1) (r6 s).2.1 with
 |none=>rfl
 |some k=>
  show decide (n+(k+1)<=4)=decide (n+1+k<=4);congr 1;rw [Nat.add_assoc,Nat.add_comm 1 k]
theorem b2j {n:Nat} {s:ByteArray} (h:n4 (r6 s).1=true) (hm:(r6 s).2.2=false):scM n s=decide (n+1<=4):=by
 unfold scM;rw [P6,if_pos h,if_neg (by rw [hm];decide)]
theorem M2 (s:ByteArray) (hs:s.size<=9223372036854775807) (w:World):Calls Tryz.prog 20 #[.string s] w fun e w'=>e= .returned (.bool (s5 s))/\Mod (fun _=>False) w w':=by
 cases he:s.toList.isEmpty with
 |true=>
  have h2:s5 s=true:=by unfold s5;rw [he];rfl
  rw [h2];clear h2 hs
  go_enter Tryz.func20,Tryz.ntmps20
  go_wp2
  go_ret;exact ⟨rfl,Mod.refl _ _⟩
 | false=>
  obtain ⟨R,hR⟩:∃R,s5 s=R:=⟨_,rfl⟩;have hR0:scM 0 s=R:=by rw [<-hR];unfold s5;rw [he];rfl
  rw [hR];have hs':(s.size:Int)<=9223372036854775807:=by omega
  have HR0:=zh hR0;clear hR0 hR
  go_enter Tryz.func20,Tryz.ntmps20
  go_wp2_with fail
  go_loopw [3,4,5] (fun tn tr tm wr=>∃(n:Nat) (r:ByteArray) (more:Bool),tn= .int .i64 n/\tr= .string r/\tm= .bool more/\2*n<=s.size+2/\(more=true->2*n+r.size<=s.size)/\R=(if more then scM n r else decide (n<=4))/\Mod (fun _=>False) w wr)
   (fun _ tr tm _=>match tr,tm with| .string r,.bool true=>r.size+1|_,_=>0)
  case atStart=>exact ⟨0,s,true,rfl,rfl,rfl,by omega,fun _=>by omega,HR0.out.symm,Mod.refl _ _⟩
  case round=>
   obtain ⟨n,r,more,rfl,rfl,rfl,hn,hnr,hRr,hm⟩:=hrel
   cases more with
   | true=>
    have hnr:=hnr rfl;have hRr:R=scM n r:=hRr;have hn':(n:Int)<=4611686018427387905:=by omega
    have hr':(r.size:Int)<=9223372036854775807:=by omega
    have hct:=b44 r (by omega) wr;have hrs:=@b31 r;have hcs:=b2g r;have h1:=@b45 n r;have h2:=@b2i n r;have h3:=@b2j n r;obtain ⟨⟨a,b,c⟩,hC⟩:∃C,r6 r=C:=⟨_,rfl⟩;rw [hC] at hct hrs hcs h1 h2 h3;simp only at hct hrs hcs h1 h2 h3;have hct:Calls Tryz.prog 53 #[.string r,.string ⟨#[47]⟩] wr fun e w'=>e= .returned (.tuple #[.string a,.string b,.bool c])/\Mod (fun _=>False) wr w':=hct;obtain ⟨HRr,Hm,Hct,HC,H1,H2,H3,Hrs⟩:=zh8 hRr hm hct hC h1 h2 h3 hrs;clear hRr hm hct hC h1 h2 h3 hrs
    go_wp2_with fail
    refine Hct.out.mono ?_;rintro e w1 ⟨rfl,hm1⟩;have Hm1:=Lib.hid (Hm.out.trans hm1 (fun _ _ h=>h));clear hm1
    go_wp2_with fail
    refine (a1i a (by omega) w1).mono ?_;rintro e w2 ⟨rfl,hw⟩;subst hw
    cases hna:n4 a with
    |false=>
     have Hna:=zh hna;clear hna
     go_wp2
     go_ret;exact ⟨by rw [HRr.out,H1.out Hna.out];rfl,Hm1.out⟩
    | true=>
     have Hna:=zh hna;clear hna
     go_wp2_with fail
     go_roundw
     case rel=>
      cases c with
      |true=>exact ⟨n+1,b,true,by go_num,rfl,rfl,by omega,(fun _=>by have:=Hrs.out rfl;have:=b2h Hna.out;omega),(by rw [HRr.out,H2.out Hna.out rfl];rfl),Hm1.out⟩
      |false=>exact ⟨n+1,b,false,by go_num,rfl,rfl,by omega,(fun h=>by cases h),(by rw [HRr.out,H3.out Hna.out rfl];rfl),Hm1.out⟩
     case measure=>
      cases c with
      |true=>
       have:=Hrs.out rfl;show b.size+1<r.size+1;omega
      |false=>show 0<r.size+1;omega
   |false=>
    have hRr:R=decide (n<=4):=hRr;obtain ⟨HRr,Hm⟩:=zh2 hRr hm;clear hRr hm
    go_wp2
    go_ret;refine ⟨?_,Hm.out⟩;show Ending.returned (.bool (decide ((n:Int)<=4)))=_;rw [HRr.out];congr 2;exact decide_eq_decide.2 (by omega)
end
end Go.Proofs.YtaenebdppkjhoaaGreatDoor
