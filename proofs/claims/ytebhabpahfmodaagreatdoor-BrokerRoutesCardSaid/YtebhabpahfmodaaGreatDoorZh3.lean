/- Lemmas. -/
import Derived.Test.YtebhabpahfmodaaGreatDoorZh2
import Derived.Lib.Bytealg
import Derived.OrdersHeld
import Derived.KernelRfl
set_option maxHeartbeats 40000000
set_option maxRecDepth 20000
namespace Go.Proofs.YtebhabpahfmodaaGreatDoor
section
open Go.RowKit
theorem a0T (a b:UInt8) (s t:List UInt8):Op.bytesLess (a::s) (b::t)=if a<b then true else if b<a then false else Op.bytesLess s t:=by
 rw [Op.bytesLess];by_cases h1:a<b
 ·simp [h1]
 by_cases h2:b<a
 ·have h3:(a==b)=false:=by
   rw [beq_eq_false_iff_ne];rintro rfl;exact h1 h2
  simp [h1,h2,h3]
 have h3:a=b:=UInt8.toNat.inj (by
  have h4:¬a.toNat<b.toNat:=h1;have h5:¬b.toNat<a.toNat:=h2
  omega)
 simp [h3]
theorem D6 (a b:UInt8) (s t:List UInt8):Lib.compareBytes (a::s) (b::t)=if a<b then -1 else if b<a then 1 else Lib.compareBytes s t:=by
 rw [Lib.compareBytes]
theorem a0w:∀a b:List UInt8,(Lib.compareBytes a b<0)↔Op.bytesLess a b=true
 |[],[]=>zd
 |[],b::t=>by simp [Lib.compareBytes,Op.bytesLess]
 |a::s,[]=>by simp [Lib.compareBytes,Op.bytesLess]
 | a::s,b::t=>by
  rw [a0T,D6];split
  ·simp
  split
  ·simp
  exact a0w s t
theorem T5:∀a b:List UInt8,(Lib.compareBytes a b=0)↔a=b
 |[],[]=>zd
 |[],b::t=>by simp [Lib.compareBytes]
 |a::s,[]=>by simp [Lib.compareBytes]
 | a ::s,b::t=>by
  rw [D6];split
  ·rename_i h
   constructor
   ·intro h';cases h'
   intro h';cases h';exact absurd h (by simp)
  rename_i h
  split
  ·rename_i h1
   constructor
   ·intro h';cases h'
   intro h';cases h';exact absurd h1 h
  rename_i h1
  have hab:a=b:=by
   have h2:¬a.toNat<b.toNat:=h;have h3:¬b.toNat<a.toNat:=h1;exact UInt8.toNat.inj zo
  subst hab;rw [T5 s t];simp
theorem Z3:∀a b c:List UInt8,Op.bytesLess a b=true->Op.bytesLess b c=true->Op.bytesLess a c=true
 |_,[],[],_,h=>by simp [Op.bytesLess] at h
 |[],[],_::_,h,_=>by simp [Op.bytesLess] at h
 |_::_,[],_::_,h,_=>by simp [Op.bytesLess] at h
 |_,_::_,[],_,h=>by simp [Op.bytesLess] at h
 |[],_::_,_::_,_,_=>by simp [Op.bytesLess]
 | a ::s,b::t,c::u,h,k=>by
  rw [a0T] at h k⊢;have e:∀x y:UInt8,x<y↔x.toNat<y.toNat:=fun _ _=>Iff.rfl;by_cases h1:a<b
  ·by_cases k1:b<c
   ·rw [if_pos (by rw [e] at*;omega)]
   by_cases k2:c<b
   ·rw [if_neg k1,if_pos k2] at k;cases k
   rw [if_pos (by rw [e] at*;omega)]
  by_cases h2:b<a
  ·rw [if_neg h1,if_pos h2] at h;cases h
  rw [if_neg h1,if_neg h2] at h;by_cases k1:b<c
  ·rw [if_pos (by rw [e] at*;omega)]
  by_cases k2:c<b
  ·rw [if_neg k1,if_pos k2] at k;cases k
  rw [if_neg k1,if_neg k2] at k;rw [if_neg (by rw [e] at*;omega),if_neg (by rw [e] at*;omega)];exact Z3 s t u h k
theorem a0x:∀a:List UInt8,Op.bytesLess a a=false
 |[]=>rfl
 |a::s=>by
  have e:¬a<a:=by simp
  rw [a0T,if_neg e,if_neg e,a0x s]
theorem a8s (a b:List UInt8) (h:Op.bytesLess a b=false) (hne:a≠b):Op.bytesLess b a=true:=by
 induction a generalizing b with
 |nil=>cases b with
  |nil=>exact absurd rfl hne
  |cons b t=>simp [Op.bytesLess] at h
 | cons a s ih=>cases b with
  |nil=>simp [Op.bytesLess]
  | cons b t=>
   rw [a0T] at h⊢;by_cases h1:a<b
   ·rw [if_pos h1] at h;cases h
   rw [if_neg h1] at h;by_cases h2:b<a
   ·rw [if_pos h2]
   rw [if_neg h2] at h;rw [if_neg h2,if_neg h1]
   have hab:a=b:=by
    have h2:¬b.toNat<a.toNat:=h2;have h3:¬a.toNat<b.toNat:=h1;exact UInt8.toNat.inj zo
   subst hab;exact ih t h (fun h=>hne (by rw [h]))
theorem b4x (a b:ByteArray) (w:World):Calls Tryz.prog 81 #[.string a,.string b] w fun e w'=>e= .returned (.int .i64 (Lib.compareBytes a.data.toList b.data.toList))/\w'=w:=by
 go_enter Tryz.func81,Tryz.ntmps81
 go_wp2
 rw [run_callFunc_extern Tryz.func120 zk zk zk (e:=Extern.BytealgCompare.compare) zk,Lib.run_compareString];simp only [Result.andThen];rw [Oper.upon_value]
 go_wp2
 go_ret;exact ⟨rfl,rfl⟩
theorem a8t (a b:ByteArray) (w:World):Calls Tryz.prog 45 #[.string a,.string b] w fun e w'=>e= .returned (.int .i64 (Lib.compareBytes a.data.toList b.data.toList))/\w'=w:=by
 go_enter Tryz.func45,Tryz.ntmps45
 go_wp2_with fail
 refine (b4x a b w).mono ?_;rintro e w' ⟨rfl,rfl⟩
 go_wp2
 go_ret;exact ⟨rfl,rfl⟩
section
variable {P:Program} {ops:Array Oper} {Q:Exit->Act->World->Prop} {md:Region.Mode} {S:World->Prop} {T:Nat->Bool}
def G8 (md:Region.Mode) (ops:Array Oper):Nat->Nat->Nat->Bool
 |0,_,_=>false
 |fuel+1,j,i=>match ops[j]? with
  |some o=>o.after.any fun e=>Region.binds md e&&(e.on==i||G8 md ops fuel e.on i)
  |none=>false
def F0 (md:Region.Mode) (ops:Array Oper) (listed:Array Bool):Prop:=
 ∀j oj,ops[j]? =some oj->listed.getD j false=true->∀e∈oj.after,Region.binds md e=true->listed.getD e.on false=true
theorem F0.reach {listed:Array Bool} (hc:F0 md ops listed):∀(fuel j i:Nat),listed.getD j false=true->G8 md ops fuel j i=true->listed.getD i false=true
 |0,_,_,_,h=>by simp [G8] at h
 | fuel+1,j,i,hj,h=>by
  unfold G8 at h;split at h
  ·rename_i o ho
   obtain ⟨e,he,hb⟩:=Array.any_eq_true'.1 h;simp only [Bool.and_eq_true,Bool.or_eq_true,beq_iff_eq] at hb;have hl:=hc j o ho hj e he hb.1;rcases hb.2 with rfl|hr
   ·exact hl
   exact hc.reach fuel e.on i hl hr
  ·cases h
theorem a2M {listed:Array Bool} (hc:F0 md ops listed) {fuel j i:Nat} (hj:j∈Region.ready md ops listed) (h:G8 md ops fuel j i=true):listed.getD i false=true:=by
 cases fuel with
 |zero=>simp [G8] at h
 |succ fuel=>
  obtain ⟨_,o,ho,hall⟩:=mem_ready.1 hj;unfold G8 at h;simp only [ho] at h;obtain ⟨e,he,hb⟩:=Array.any_eq_true'.1 h;simp only [Bool.and_eq_true,Bool.or_eq_true,beq_iff_eq] at hb;have hl:=hall e he hb.1;rcases hb.2 with rfl|hr
  ·exact hl
  exact hc.reach fuel e.on i hl hr
theorem F0.set {listed:Array Bool} (hc:F0 md ops listed) {j:Nat} (hj:j∈Region.ready md ops listed):F0 md ops (listed.setIfInBounds j true):=by
 intro k ok hk hl e he hb;by_cases hjk:j=k
 ·subst hjk;obtain ⟨_,o,ho,hall⟩:=mem_ready.1 hj;obtain rfl:o=ok:=Option.some.inj (ho.symm.trans hk);exact getD_set_true (hall e he hb)
 rw [getD_set_ne false hjk] at hl;exact getD_set_true (hc k ok hk hl e he hb)
def a2p (P:Program) (md:Region.Mode) (ops:Array Oper) (Q:Exit->Act->World->Prop) (S:World->Prop) (T:Nat->Bool):Nat->Array Bool->Act->World->Prop
 |0,listed,a,w=>Region.ready md ops listed=[]/\Q .normal a w
 |fuel+1,listed,a,w=>
  (Region.ready md ops listed=[]->Q .normal a w)/\
  ∀i∈Region.ready md ops listed,wpOp P ops Q i (fun a' w'=>(T i=true->S w->S w')/\a2p P md ops Q S T fuel (listed.setIfInBounds i true) a' w') a w
theorem a1i:∀(fuel:Nat) (listed:Array Bool) (a:Act) (w:World),a2p P md ops Q S T fuel listed a w->wpAny P md ops Q fuel listed a w
 |0,_,_,_,h=>h
 |fuel+1,_,_,_,h=>⟨h.1,fun i hi=>wpOp_mono (fun a' w' h'=>a1i fuel _ a' w' h'.2) (h.2 i hi)⟩
theorem a1K {S':World->Prop} {i:Nat} {oi:Oper} {v:Value} (hi:ops[i]? =some oi) (hsel:∀(j:Nat) (o:Oper) cs b,ops[j]? =some o->o.op≠ .select cs b)
 (hQ:∀c a w,Q (.panic c) (a.put oi.dst v) w->Q (.panic c) a w):
 ∀(fuel:Nat) (listed:Array Bool) (a:Act) (w:World),F0 md ops listed->
  (∀j oj,ops[j]? =some oj->j≠i->listed.getD j true=false->(∀e∈oj.after,Region.binds md e=true->e.on≠i)->oi.apart ops oj=true)->
  (∀j,j<ops.size->j≠i->listed.getD j true=false->G8 md ops ops.size j i=false->∀w w',(T j=true->S w->S w')->S' w->S' w')->
  i∈Region.ready md ops listed->YieldsIf P ops S' oi v a->S' w->
  a2p P md ops Q S T fuel (listed.setIfInBounds i true) (a.put oi.dst v) w->a2p P md ops Q S T (fuel+1) listed a w:=by
 intro fuel
 induction fuel with
 | zero=>
  intro listed a w hc _ _ hr hy hS' H;refine ⟨fun h=>(by rw [h] at hr;cases hr),fun j hj=> ?_⟩;by_cases hji:j=i
  ·subst hji;exact hy.wpOp hi hS' ⟨fun _ h=>h,H⟩
  ·have:=ready_mono hj hji;rw [H.1] at this;cases this
 | succ fuel ih=>
  intro listed a w hc hfree hT hr hy hS' H;refine ⟨fun h=>(by rw [h] at hr;cases hr),fun j hj=> ?_⟩;by_cases hji:j=i
  ·subst hji;exact hy.wpOp hi hS' ⟨fun _ h=>h,H⟩
  have h1:=H.2 j (ready_mono hj hji);obtain ⟨hjun,oj,hoj,hall⟩:=mem_ready.1 hj
  have rH:listed.getD i false=false:=by
   have h0:=(mem_ready.1 hr).1;rcases Nat.lt_or_ge i listed.size with h'|h'
   ·simp [h'] at h0⊢;exact h0
   simp [Array.getElem?_eq_none h'] at h0
  have hnot:∀e∈oj.after,Region.binds md e=true->e.on≠i:=fun e he hb heq=>by
   have h1:=hall e he hb;rw [heq,rH] at h1;cases h1
  have mr:G8 md ops ops.size j i=false:=by
   cases hb:G8 md ops ops.size j i with
   |false=>rfl
   |true=>have:=a2M hc hj hb;rw [rH] at this;cases this
  have h2:=wpOp_putIf hoj (hfree j oj hoj hji hjun hnot) (fun cs b=>hsel i oi cs b hi) (fun cs b=>hsel j oj cs b hoj) hQ hy h1
  have hfree':∀k ok,ops[k]? =some ok->k≠i->(listed.setIfInBounds j true).getD k true=false->
   (∀e∈ok.after,Region.binds md e=true->e.on≠i)->oi.apart ops ok=true:=fun k ok hk hki hun hno=>by
   refine hfree k ok hk hki ?_ hno;by_cases hjk:j=k
   ·subst hjk;exact hjun
   rw [getD_set_ne true hjk] at hun;exact hun
  have hT':∀k,k<ops.size->k≠i->(listed.setIfInBounds j true).getD k true=false->G8 md ops ops.size k i=false->∀w w',(T k=true->S w->S w')->S' w->S' w':=fun k hks hki hun hno=>by
   refine hT k hks hki ?_ hno;by_cases hjk:j=k
   ·subst hjk;exact hjun
   rw [getD_set_ne true hjk] at hun;exact hun
  have hSj:=hT j (zz7 hoj).1 hji hjun mr;refine wpOp_mono (fun a' w' h3=> ?_) h2;obtain ⟨hy3,IZ,H3⟩:=h3;exact ⟨IZ,ih (listed.setIfInBounds j true) a' w' (hc.set hj) hfree' hT' (ready_mono hr (Ne.symm hji)) hy3 (hSj w w' IZ hS') (by rw [Array.setIfInBounds_comm _ _ hji];exact H3)⟩
def L8:Op->Bool
 | .move _| .assign _| .pick .. | .nilCheck _| .fieldAddr .. | .field .. | .binOp .. | .unOp .. | .build .. | .extract .. | .indexAddr .. | .slice .. =>true
 | .call {callee:= .builtin .len,..}=>true
 | .call {callee:= .builtin .cap,..}=>true
 |_=>false
end
end
section
open Go.RowKit
inductive Stp where
 |rd (i:Nat)
 |go (i:Nat)
 |both (i j:Nat)
section
variable {P:Program} {ops:Array Oper} {Q:Exit->Act->World->Prop} {md:Region.Mode} {S:World->Prop} {T:Nat->Bool}
def A2 (md:Region.Mode) (ops:Array Oper) (T:Nat->Bool):List Stp->Array Bool->Bool
 |[],listed=>(Region.ready md ops listed).isEmpty
 | .rd i::r,listed=>decide (i<ops.size)&&Region.free md ops listed i&&(Region.ready md ops listed).contains i&&
  (((ops[i]?).map (fun o=>L8 o.op)).getD false||(List.range ops.size).all fun j=>j==i||listed.getD j true||G8 md ops ops.size j i||T j)&&
  A2 md ops T r (listed.setIfInBounds i true)
 | .go i::r,listed=>Region.ready md ops listed==[i]&&A2 md ops T r (listed.setIfInBounds i true)
 | .both i j::r,listed=>decide (i≠j)&&Region.ready md ops listed==[i,j]&&Region.ready md ops (listed.setIfInBounds i true)==[j]&&Region.ready md ops (listed.setIfInBounds j true)==[i]&&
  A2 md ops T r ((listed.setIfInBounds i true).setIfInBounds j true)
def a1L:List Stp->Nat
 |[]=>0
 | .rd _::r=>a1L r+1
 | .go _::r=>a1L r+1
 | .both _ _::r=>a1L r+2
def a1j (P:Program) (ops:Array Oper) (Q:Exit->Act->World->Prop) (S:World->Prop) (T:Nat->Bool) (i:Nat) (K:Act->World->Prop) (a:Act) (w:World):Prop:=
 wpOp P ops Q i (fun a' w'=>(T i=true->S w->S w')/\K a' w') a w
def a08 (P:Program) (ops:Array Oper) (Q:Exit->Act->World->Prop) (S:World->Prop) (T:Nat->Bool):List Stp->Act->World->Prop
 |[],a,w=>Q .normal a w
 | .rd i::r,a,w=>∀o,ops[i]? =some o->(L8 o.op=false->S w)/\∃v,YieldsIf P ops (fun w=>L8 o.op=false->S w) o v a/\a08 P ops Q S T r (a.put o.dst v) w
 | .go i::r,a,w=>a1j P ops Q S T i (fun a' w'=>a08 P ops Q S T r a' w') a w
 | .both i j::r,a,w=>a1j P ops Q S T i (a1j P ops Q S T j (fun a' w'=>a08 P ops Q S T r a' w')) a w/\a1j P ops Q S T j (a1j P ops Q S T i (fun a' w'=>a08 P ops Q S T r a' w')) a w
theorem b0A {i:Nat} {K K':Act->World->Prop} {a:Act} {w:World} (h:∀a w,K a w->K' a w) (hh:a1j P ops Q S T i K a w):a1j P ops Q S T i K' a w:=
 wpOp_mono (fun a' w' h'=>⟨h'.1,h a' w' h'.2⟩) hh
theorem a0y (hsel:Region.noSelect ops=true) (hQ:∀(c:List PanicEntry) (a:Act) (d:Option Tmp) (v:Value) (w:World),Q (.panic c) (a.put d v) w->Q (.panic c) a w):
 ∀(r:List Stp) (listed:Array Bool) (a:Act) (w:World),A2 md ops T r listed=true->F0 md ops listed->a08 P ops Q S T r a w->a2p P md ops Q S T (a1L r) listed a w
 |[],listed,a,w,hok,_,h=>by
  simp only [A2,List.isEmpty_iff] at hok;exact ⟨hok,h⟩
 | .rd i::r,listed,a,w,hok,hc,h=>by
  simp only [A2,Bool.and_eq_true,decide_eq_true_eq] at hok;obtain ⟨⟨⟨⟨hi,hf⟩,hr⟩,hp⟩,hok⟩:=hok;obtain ⟨o,ho⟩:∃o,ops[i]? =some o:=⟨_,Array.getElem?_eq_getElem hi⟩;obtain ⟨hSw,v,hy,h⟩:=h o ho;have eU:i∈Region.ready md ops listed:=by simpa using hr
  exact a1K (S:=S) (T:=T) (S':=fun w=>L8 o.op=false->S w) ho (Region.noSelect_spec hsel) (fun c a w=>hQ c a o.dst v w) (a1L r) listed a w hc (Region.free_spec ho hf)
   (fun j hj hji hun hre w w' hT h gK=>by
     simp only [ho,Option.map_some,Option.getD_some,gK,Bool.false_or,List.all_eq_true,List.mem_range,Bool.or_eq_true,beq_iff_eq] at hp;rcases hp j hj with ((h1|h1)|h1)|h1
     ·exact absurd h1 hji
     ·rw [hun] at h1;cases h1
     ·rw [hre] at h1;cases h1
     ·exact hT h1 (h gK))
   eU hy hSw (a0y hsel hQ r (listed.setIfInBounds i true) (a.put o.dst v) w hok (hc.set eU) h)
 | .go i::r,listed,a,w,hok,hc,h=>by
  simp only [A2,Bool.and_eq_true,beq_iff_eq] at hok;obtain ⟨hr,hok⟩:=hok;have eU:i∈Region.ready md ops listed:=by rw [hr];simp
  refine ⟨fun h0=>(by rw [hr] at h0;cases h0),fun j hj=> ?_⟩;rw [hr] at hj;obtain rfl:j=i:=by simpa using hj
  have h:a1j P ops Q S T j (fun a' w'=>a08 P ops Q S T r a' w') a w:=h;exact wpOp_mono (fun a' w' h'=>⟨h'.1,a0y hsel hQ r _ a' w' hok (hc.set eU) h'.2⟩) h
 | .both i j::r,listed,a,w,hok,hc,h=>by
  simp only [A2,Bool.and_eq_true,beq_iff_eq,decide_eq_true_eq] at hok;obtain ⟨⟨⟨⟨hij,hr⟩,hr1⟩,hr2⟩,hok⟩:=hok;have eU:i∈Region.ready md ops listed:=by rw [hr];simp
  have Gg:j∈Region.ready md ops listed:=by rw [hr];simp
  have rJ:j∈Region.ready md ops (listed.setIfInBounds i true):=by rw [hr1];simp
  refine ⟨fun h0=>(by rw [hr] at h0;cases h0),fun k hk=> ?_⟩;rw [hr] at hk;have hk':k=i\/k=j:=by simpa using hk
  have hA:a1j P ops Q S T i (a1j P ops Q S T j (fun a' w'=>a08 P ops Q S T r a' w')) a w:=h.1;have hB:a1j P ops Q S T j (a1j P ops Q S T i (fun a' w'=>a08 P ops Q S T r a' w')) a w:=h.2;rcases hk' with rfl|rfl
  ·refine wpOp_mono (fun a' w' h'=>⟨h'.1, ?_⟩) hA;refine ⟨fun h0=>(by rw [hr1] at h0;cases h0),fun k' hk'=> ?_⟩;rw [hr1] at hk';obtain rfl:k'=j:=by simpa using hk'
   exact wpOp_mono (fun a' w' h'=>⟨h'.1,a0y hsel hQ r _ a' w' hok ((hc.set eU).set rJ) h'.2⟩) h'.2
  refine wpOp_mono (fun a' w' h'=>⟨h'.1, ?_⟩) hB;refine ⟨fun h0=>(by rw [hr2] at h0;cases h0),fun k' hk'=> ?_⟩;rw [hr2] at hk';obtain rfl:k'=i:=by simpa using hk'
  rw [Array.setIfInBounds_comm _ _ hij.symm];exact wpOp_mono (fun a' w' h'=>⟨h'.1,a0y hsel hQ r _ a' w' hok ((hc.set eU).set rJ) h'.2⟩) h'.2
structure WM (P:Program) (ops:Array Oper) (Q:Exit->Act->World->Prop) (S:World->Prop) (T:Nat->Bool) (r:List Stp) (a:Act) (w:World):Prop where
 out:a08 P ops Q S T r a w
structure GO (P:Program) (ops:Array Oper) (Q:Exit->Act->World->Prop) (S:World->Prop) (T:Nat->Bool) (i:Nat) (K:Act->World->Prop) (a:Act) (w:World):Prop where
 out:a1j P ops Q S T i K a w
theorem i8 {id:Nat} {a:Act} {w:World} {l:List Oper} (r:List Stp) (ks:List Nat) (S:World->Prop) (hm:P.follows .mixedOrders=true)
 (hB:(Region.noSelect l.toArray&&(decide (a1L r=l.length)&&A2 .any l.toArray (fun j=>ks.contains j) r (Array.replicate l.toArray.size false)))=true)
 (hQ:∀(c:List PanicEntry) (a:Act) (d:Option Tmp) (v:Value) (w:World),Q (.panic c) (a.put d v) w->Q (.panic c) a w)
 (h:WM P l.toArray Q S (fun j=>ks.contains j) r a w.drew):(Code.region id l.toArray true).wp P Q a w:=by
 simp only [Bool.and_eq_true,decide_eq_true_eq] at hB;obtain ⟨hsel,hlen,hok⟩:=hB
 have hcl:F0 .any l.toArray (Array.replicate l.toArray.size false):=fun j oj _ hl=>by
  exfalso;rcases Nat.lt_or_ge j l.toArray.size with h'|h'<;>simp_all
 refine wp_region_any hm (a1i (S:=S) (T:=fun j=>ks.contains j) _ _ _ _ ?_);have key:=a0y (md:= .any) (ops:=l.toArray) (P:=P) (Q:=Q) (S:=S) (T:=fun j=>ks.contains j) hsel hQ r (Array.replicate l.toArray.size false) a w.drew hok hcl h.out;rw [hlen] at key;simpa using key
theorem m6 {a:Act} {w:World} (h:Q .normal a w):WM P ops Q S T [] a w:=⟨h⟩
theorem n4 {i:Nat} {r:List Stp} {o:Oper} {a:Act} {w:World} (ho:ops[i]? =some o) (hw:Region.wanted o (yielded ops a.tmps)=true) (hSw:L8 o.op=false->S w) (v:Value)
 (hy:∀w,(L8 o.op=false->S w)->(execOp a.eval o).run P w= .ok (.value v) w)
 (h:∀K:Act->Prop,(∀a',WM P ops Q S T r a' w->K a')->K (a.put o.dst v)):WM P ops Q S T (.rd i::r) a w:=
 ⟨fun o' ho'=>by
  obtain rfl:o=o':=Option.some.inj (ho.symm.trans ho')
  exact ⟨hSw,v,.inl ⟨hw,hy⟩,h _ fun _ h=>h.out⟩⟩
theorem j0 {i:Nat} {o:Oper} {K:Act->World->Prop} {a:Act} {w:World} (ho:ops[i]? =some o) (hw:Region.wanted o (yielded ops a.tmps)=true)
 (h:∀K':Act->World->Prop,(∀a' w',(T i=true->S w->S w')->K a' w'->K' a' w')->o.wp P a w K' Q):GO P ops Q S T i K a w:=by
 constructor;unfold a1j wpOp;simp only [ho];rw [if_pos hw];exact .inl (h _ fun _ _ h1 h2=>⟨h1,h2⟩)
theorem i6 {i:Nat} {r:List Stp} {a:Act} {w:World} (h:GO P ops Q S T i (fun a' w'=>WM P ops Q S T r a' w') a w):WM P ops Q S T (.go i::r) a w:=by
 constructor;show a1j P ops Q S T i (fun a' w'=>a08 P ops Q S T r a' w') a w;exact b0A (fun _ _ h'=>h'.out) h.out
end
end
section
open Go.RowKit
theorem b4y (s:ByteArray) (w:World):Calls Tryz.prog 163 #[.string s,.int .u8 47] w fun e w'=>e= .returned (.int .i64 (Lib.indexByte s.data.toList 47))/\w'=w:=by
 go_enter Tryz.func163,Tryz.ntmps163
 go_wp2
 rw [run_callFunc_extern Tryz.func190 zk zk zk (e:=Extern.BytealgIndexByte.indexByte) zk,Lib.run_indexByteString];simp only [Result.andThen];rw [Oper.upon_value]
 go_wp2
 go_ret;exact ⟨rfl,rfl⟩
theorem b2p (s:ByteArray) (w:World):Calls Tryz.prog 131 #[.string s,.string ⟨#[47]⟩] w fun e w'=>e= .returned (.int .i64 (Lib.indexByte s.data.toList 47))/\w'=w:=by
 have hi:=b4y s w;obtain ⟨R,hR⟩:∃R,Lib.indexByte s.data.toList 47=R:=⟨_,rfl⟩;rw [hR] at hi⊢;obtain ⟨Hi,HR⟩:=zh2 hi hR;clear hi hR
 cases he:([47]:List UInt8)==s.toList with
 |true=>
  go_enter Tryz.func131,Tryz.ntmps131
  go_wp2_with fail
  go_ret;refine ⟨?_,rfl⟩;have hs:s.data.toList=[47]:=by rw [<-ByteArray.toList_eq];exact (beq_iff_eq.1 he).symm
  have h0:R=0:=by rw [<-HR.out,hs];rfl
  rw [h0];rfl
 |false=>
  go_enter Tryz.func131,Tryz.ntmps131
  go_wp2_with fail
  refine Hi.out.mono ?_;rintro e w' ⟨rfl,rfl⟩
  go_wp2
  go_ret;exact ⟨rfl,rfl⟩
theorem D7:∀(l:List UInt8) (c:UInt8),Lib.indexByte l c= -1\/∃i:Nat,Lib.indexByte l c=i
 |[],c=> .inl rfl
 |b::l,c=>by
  rw [Lib.indexByte];split
  ·exact .inr ⟨0,rfl⟩
  rcases D7 l c with h|⟨i,h⟩
  ·rw [h];exact .inl rfl
  rw [h];split
  ·exact .inl rfl
  exact .inr ⟨i+1,zo⟩
theorem Q5:∀{l:List UInt8} {c:UInt8} {i:Nat},Lib.indexByte l c=i->i<l.length
 |[],c,i,h=>by simp [Lib.indexByte] at h
 |b::l,c,i,h=>by
  rw [Lib.indexByte] at h;rw [zz9];split at h
  ·omega
  rcases D7 l c with h1|⟨k,h1⟩
  ·rw [h1] at h;have h:(-1:Int)=i:=h;omega
  have:=Q5 h1;rw [h1] at h;split at h<;>omega
theorem b2q (s:ByteArray) (hs:s.size<=9223372036854775807) (I:Nat) (hI:Lib.indexByte s.data.toList 47=I) (w:World):
 Calls Tryz.prog 88 #[.string s,.string ⟨#[47]⟩] w fun e w'=>e= .returned (.tuple #[.string (s.extract 0 I),.string (s.extract (I+1) s.size),.bool true])/\Mod (fun _=>False) w w':=by
 have hi:=b2p s w;rw [hI] at hi;have hlt:I<s.size:=Q5 hI;have hlt':(I:Int)<s.size:=zo
 have hs':(s.size:Int)<=9223372036854775807:=zo
 have Hi:=zh hi;clear hi hI hs
 go_enter Tryz.func88,Tryz.ntmps88
 go_wp2_with fail
 refine Hi.out.mono ?_;rintro e w' ⟨rfl,rfl⟩
 go_wp2_with fail
 have hi2:(I:Int)<=s.size:=zo
 have hi3:(I:Int)+1<=s.size:=zo
 have hw3:IntKind.i64.wrap ((I:Int)+1)=(I:Int)+1:=by rw [IntKind.wrap_i64];omega
 have hb3:(0:Int)<=(I:Int)+1:=zo
 have Ih:((I:Int)+1).toNat=I+1:=zo
 have hS:(fun _:World=>True) w'.drew:=trivial;refine i8 [.rd 0,.rd 1,.rd 2,.rd 3,.rd 4,.rd 5,.rd 6,.rd 7,.rd 8,.rd 9,.rd 10,.rd 11] [] (fun _:World=>True) zk zk (fun _ _ d _ _ h=>(by cases d<;>exact h)) ?_
 iterate 12 (
  refine n4 rfl ?_ (fun _=>hS) ?_ (fun w0 h0=> ?_) (fun K hK=> ?_)
  ·exact zg
  rotate_left
  ·(try simp only [zz1,zz2,zz3])
   first
    |(obtain - :=h0 rfl;clear h0;go_simp;with_reducible rfl)
    |(clear h0;go_simp;with_reducible rfl)
  (try simp only [zz1,zz2,zz3])
  go_simp;refine hK _ ?_;clear hK K)
 refine m6 ?_
 go_wp2
 go_ret3
 exact ⟨rfl,(Mod.refl _ _).drew⟩
theorem b4z (s:ByteArray) (hI:Lib.indexByte s.data.toList 47= -1) (w:World):
 Calls Tryz.prog 88 #[.string s,.string ⟨#[47]⟩] w fun e w'=>e= .returned (.tuple #[.string s,.string ⟨#[]⟩,.bool false])/\Mod (fun _=>False) w w':=by
 have hi:=b2p s w;rw [hI] at hi;have Hi:=zh hi;clear hi hI
 go_enter Tryz.func88,Tryz.ntmps88
 go_wp2_with fail
 refine Hi.out.mono ?_;rintro e w' ⟨rfl,rfl⟩
 go_wp2
 go_ret3
 exact ⟨rfl,Mod.refl _ _⟩
def t8 (s:ByteArray):ByteArray×ByteArray×Bool:=if 0<=Lib.indexByte s.data.toList 47 then (s.extract 0 (Lib.indexByte s.data.toList 47).toNat,s.extract ((Lib.indexByte s.data.toList 47).toNat+1) s.size,true) else (s,⟨#[]⟩,false)
theorem b5T (s:ByteArray) (hs:s.size<=9223372036854775807) (w:World):
 Calls Tryz.prog 54 #[.string s,.string ⟨#[47]⟩] w fun e w'=>e= .returned (.tuple #[.string (t8 s).1,.string (t8 s).2.1,.bool (t8 s).2.2])/\Mod (fun _=>False) w w':=by
 have hc:Calls Tryz.prog 88 #[.string s,.string ⟨#[47]⟩] w fun e w'=>e= .returned (.tuple #[.string (t8 s).1,.string (t8 s).2.1,.bool (t8 s).2.2])/\Mod (fun _=>False) w w':=by
  rcases D7 s.data.toList 47 with h|⟨I,h⟩
  ·have e:t8 s=(s,⟨#[]⟩,false):=by unfold t8;rw [h];rfl
   rw [e];exact b4z s h w
  have e:t8 s=(s.extract 0 I,s.extract (I+1) s.size,true):=by
   unfold t8;rw [h,if_pos zo];rfl
  rw [e];exact b2q s hs I h w
 generalize t8 s=C at hc⊢
 have Hc:=zh hc;clear hc hs
 go_enter Tryz.func54,Tryz.ntmps54
 go_wp2_with fail
 refine Hc.out.mono ?_;rintro e w' ⟨rfl,hm⟩;have Hm:=zh hm;clear hm
 go_wp2
 go_ret3
 exact ⟨rfl,Hm.out⟩
theorem a6W {s:ByteArray} (h:(t8 s).2.2=true):(t8 s).2.1.size<s.size:=by
 unfold t8 at h⊢;split at h
 ·rename_i h0
  rw [if_pos h0];rcases D7 s.data.toList 47 with h1|⟨I,h1⟩
  ·omega
  have hlt:I<s.size:=Q5 h1;rw [h1];show (s.extract (I+1) s.size).size<s.size;rw [ByteArray.size_extract];omega
 ·cases h
theorem b4A {s:ByteArray} (h:(t8 s).2.2=true):(t8 s).1.size+1+(t8 s).2.1.size=s.size:=by
 unfold t8 at h⊢;split at h
 ·rename_i h0
  rw [if_pos h0];rcases D7 s.data.toList 47 with h1|⟨I,h1⟩
  ·omega
  have hlt:I<s.size:=Q5 h1;rw [h1];show (s.extract 0 I).size+1+(s.extract (I+1) s.size).size=s.size;rw [ByteArray.size_extract,ByteArray.size_extract];omega
 ·cases h
theorem b2r (s:ByteArray):(t8 s).1.size<=s.size/\(t8 s).2.1.size<=s.size:=by
 unfold t8;split
 ·constructor
  ·show (s.extract _ _).size<=_;rw [ByteArray.size_extract];omega
  show (s.extract _ _).size<=_;rw [ByteArray.size_extract];omega
 exact ⟨Nat.le_refl _,Nat.zero_le _⟩
def scN:Nat->ByteArray->Option Nat
 |0,_=>none
 |f+1,s=>if o9 (t8 s).1=true then (if (t8 s).2.2=true then (scN f (t8 s).2.1).map (· +1) else some 1) else none
theorem T6 (f:Nat) (s:ByteArray):scN (f+1) s=if o9 (t8 s).1=true then (if (t8 s).2.2=true then (scN f (t8 s).2.1).map (· +1) else some 1) else none:=rfl
theorem a6X:∀(f g:Nat) (s:ByteArray),s.size<f->s.size<g->scN f s=scN g s
 |0,_,s,h,_=>zo
 |_+1,0,s,_,h=>zo
 |f+1,g+1,s,h1,h2=>by
  rw [T6,T6];split
  ·split
   ·rename_i h
    have:=a6W h;rw [a6X f g (t8 s).2.1 zo zo]
   rfl
  rfl
def scM (n:Nat) (s:ByteArray):Bool:=match scN (s.size+1) s with
 |some k=>decide (n+k<=4)
 |none=>false
def A4 (s:ByteArray):Bool:=s.toList.isEmpty||scM 0 s
theorem b2s {s:ByteArray} (h:o9 s=true):0<s.size:=by
 unfold o9 at h;simp only [Bool.and_eq_true,decide_eq_true_eq] at h;omega
theorem b5U {n:Nat} {s:ByteArray} (h:o9 (t8 s).1=false):scM n s=false:=by
 unfold scM;rw [T6,if_neg (by rw [h];decide)]
theorem b2t {n:Nat} {s:ByteArray} (h:o9 (t8 s).1=true) (hm:(t8 s).2.2=true):scM n s=scM (n+1) (t8 s).2.1:=by
 have:=a6W hm;unfold scM;rw [T6,if_pos h,if_pos hm,a6X s.size ((t8 s).2.1.size+1) _ zo zo]
 cases scN ((t8 s).2.1.size+1) (t8 s).2.1 with
 |none=>rfl
 |some k=>
  show decide (n+(k+1)<=4)=decide (n+1+k<=4);congr 1;rw [Nat.add_assoc,Nat.add_comm 1 k]
theorem b2u {n:Nat} {s:ByteArray} (h:o9 (t8 s).1=true) (hm:(t8 s).2.2=false):scM n s=decide (n+1<=4):=by
 unfold scM;rw [T6,if_pos h,if_neg (by rw [hm];decide)]
theorem V0 (s:ByteArray) (hs:s.size<=9223372036854775807) (w:World):Calls Tryz.prog 22 #[.string s] w fun e w'=>e= .returned (.bool (A4 s))/\Mod (fun _=>False) w w':=by
 cases he:s.toList.isEmpty with
 |true=>
  have h2:A4 s=true:=by unfold A4;rw [he];rfl
  rw [h2];clear h2 hs
  go_enter Tryz.func22,Tryz.ntmps22
  go_wp2
  go_ret;exact ⟨rfl,Mod.refl _ _⟩
 | false=>
  obtain ⟨R,hR⟩:∃R,A4 s=R:=⟨_,rfl⟩;have hR0:scM 0 s=R:=by rw [<-hR];unfold A4;rw [he];rfl
  rw [hR];have hs':(s.size:Int)<=9223372036854775807:=zo
  have HR0:=zh hR0;clear hR0 hR
  go_enter Tryz.func22,Tryz.ntmps22
  go_wp2_with fail
  go_loopw [3,4,5] (fun tn tr tm wr=>∃(n:Nat) (r:ByteArray) (more:Bool),tn= .int .i64 n/\tr= .string r/\tm= .bool more/\2*n<=s.size+2/\(more=true->2*n+r.size<=s.size)/\R=(if more then scM n r else decide (n<=4))/\Mod (fun _=>False) w wr)
   (fun _ tr tm _=>match tr,tm with| .string r,.bool true=>r.size+1|_,_=>0)
  case atStart=>exact ⟨0,s,true,rfl,rfl,rfl,zo,fun _=>zo,HR0.out.symm,Mod.refl _ _⟩
  case round=>
   obtain ⟨n,r,more,rfl,rfl,rfl,hn,hnr,hRr,hm⟩:=hrel
   cases more with
   | true=>
    have hnr:=hnr rfl;have hRr:R=scM n r:=hRr;have hn':(n:Int)<=4611686018427387905:=zo
    have hr':(r.size:Int)<=9223372036854775807:=zo
    have hct:=b5T r zo wr;have hrs:=@b4A r;have hcs:=b2r r;have h1:=@b5U n r;have h2:=@b2t n r;have h3:=@b2u n r;obtain ⟨⟨a,b,c⟩,hC⟩:∃C,t8 r=C:=⟨_,rfl⟩;rw [hC] at hct hrs hcs h1 h2 h3;simp only at hct hrs hcs h1 h2 h3;have hct:Calls Tryz.prog 54 #[.string r,.string ⟨#[47]⟩] wr fun e w'=>e= .returned (.tuple #[.string a,.string b,.bool c])/\Mod (fun _=>False) wr w':=hct;obtain ⟨zx,Hm,uM,HC,H1,H2,H3,NF⟩:=zh8 hRr hm hct hC h1 h2 h3 hrs;clear hRr hm hct hC h1 h2 h3 hrs
    go_wp2_with fail
    refine uM.out.mono ?_;rintro e w1 ⟨rfl,hm1⟩;have dB:=Lib.hid (Hm.out.trans hm1 zi);clear hm1
    go_wp2_with fail
    refine (a1y a zo w1).mono ?_;rintro e w2 ⟨rfl,hw⟩;subst hw
    cases hna:o9 a with
    |false=>
     have Ja:=zh hna;clear hna
     go_wp2
     go_ret;exact ⟨by rw [zx.out,H1.out Ja.out];rfl,dB.out⟩
    | true=>
     have Ja:=zh hna;clear hna
     go_wp2_with fail
     go_roundw
     case rel=>
      cases c with
      |true=>exact ⟨n+1,b,true,by go_num,rfl,rfl,zo,(fun _=>by have:=NF.out rfl;have:=b2s Ja.out;omega),(by rw [zx.out,H2.out Ja.out rfl];rfl),dB.out⟩
      |false=>exact ⟨n+1,b,false,by go_num,rfl,rfl,zo,(fun h=>by cases h),(by rw [zx.out,H3.out Ja.out rfl];rfl),dB.out⟩
     case measure=>
      cases c with
      |true=>
       have:=NF.out rfl;show b.size+1<r.size+1;omega
      |false=>show 0<r.size+1;omega
   |false=>
    have hRr:R=decide (n<=4):=hRr;obtain ⟨zx,Hm⟩:=zh2 hRr hm;clear hRr hm
    go_wp2
    go_ret;refine ⟨?_,Hm.out⟩;show Ending.returned (.bool (decide ((n:Int)<=4)))=_;rw [zx.out];congr 2;exact decide_eq_decide.2 zo
section
variable {P:Program} {w:World} {ops:Array Oper} {rest:List Oper} {a:Act} {Q:Exit->Act->World->Prop} {d:Option Tmp} {tp:TypeId} {pos:String} {af:Array Edge}
theorem a9z {cs:List Value} (h:cs.all (·.oneCell')=true):∀u∈cs,u.oneCell'=true:=fun u hu=>zz15 h u hu
theorem d9 {cur:Array Value} {t:TypeId} (ty:TypeId) (x y:Operand)
 (h:a.eval x= .pointer (some ⟨w.heap.size,0,none⟩)/\∃cs:List Value,a.eval y= .agg cs.toArray/\cs.length=cur.size/\(P.info? ty).map (·.size)=some cs.length/\cs.all (·.oneCell')=true/\
   wpList P ops Q rest (a.put d undef) (w.alloc (.cells cs.toArray t))):wpList P ops Q (⟨d,.store ty x y,tp,pos,af,none⟩::rest) a (w.alloc (.cells cur t)):=by
 obtain ⟨hx,cs,hy,hl,hi,h1,h⟩:=h;exact N3 rfl ty x y rfl hx cur t cs hy hl hi (a9z h1) h
theorem d8 (ty:TypeId) (x:Operand)
 (h:∃g off,a.eval x= .pointer (some ⟨g,off,none⟩)/\∃cs:List Value,e9 w g off cs/\(match P.underlying ty with|some (.struct _)=>true|some (.array _ _)=>true|_=>false)=true/\(P.info? ty).map (·.size)=some cs.length/\
   wpList P ops Q rest (a.put d (.agg cs.toArray)) w):wpList P ops Q (⟨d,.load ty x,tp,pos,af,none⟩::rest) a w:=by
 obtain ⟨g,off,hx,cs,hc,hu,hi,h⟩:=h;exact q8 rfl ty x rfl g off hx cs hc hu hi h
theorem l0 {at1:Array TypeId} (s y:Operand) (t:TypeId)
 (h:at1=#[t,t]/\∃(e:TypeId) (sz bytes:Nat),E7 P t e sz bytes/\∃(v:Value) (n:Nat) (xs:List Value),a.eval s=v/\j2 w e sz v n xs/\∃(x:Value) (m:Nat) (news:List Value),a.eval y=x/\j3 w sz x m news/\(∀u∈news,u.oneCell'=true)/\
   (n+m)*bytes<=140737488355328/\n+m<=maxLen/\∀ad cap w',q5 w e sz v (n+m) (xs++news) (.slice ad (n+m) cap) w'->wpList P ops Q rest (a.put d (.slice ad (n+m) cap)) w'):
 wpList P ops Q (⟨d,.call {callee:= .builtin .append,args:=#[s,y],argTypes:=at1},tp,pos,af,none⟩::rest) a w:=by
 obtain ⟨rfl,e,sz,bytes,hT,v,n,xs,hs,hown,x,m,news,hy,hx,h1,hb,hm,hK⟩:=h;exact M9 rfl s y t rfl e sz bytes hT v n xs hs hown x m news hy hx h1 hb hm hK
theorem j9 (ty:TypeId) (x y:Operand)
 (h:∃g,a.eval x= .pointer (some ⟨g,0,none⟩)/\∃(cur:Array Value) (t:TypeId),w.heap[g]? =some (.cells cur t (0,0))/\∃cs:List Value,a.eval y= .agg cs.toArray/\cs.length=cur.size/\(P.info? ty).map (·.size)=some cs.length/\cs.all (·.oneCell')=true/\
   ∀w',w'.heap[g]? =some (.cells cs.toArray t (0,0))->Mod (fun k=>k=g) w w'->wpList P ops Q rest (a.put d undef) w'):wpList P ops Q (⟨d,.store ty x y,tp,pos,af,none⟩::rest) a w:=by
 obtain ⟨g,hx,cur,t,hg,cs,hy,hl,hi,h1,h⟩:=h;exact A1 rfl ty x y rfl g hx cur t hg cs hy cs.length rfl hl.symm hi h1 h
end
end
open Go.RowKit
def r8 (l:List Att):Prop:=∀(i j:Nat) (x y:Att),i<j->l[i]? =some x->l[j]? =some y->Op.bytesLess x.name.data.toList y.name.data.toList=true
theorem r8.less {l:List Att} (h:r8 l) {i j:Nat} {x y:Att} {s:List UInt8} (hij:i<j) (hx:l[i]? =some x) (hy:l[j]? =some y) (hl:Op.bytesLess y.name.data.toList s=true):Op.bytesLess x.name.data.toList s=true:=
 Z3 _ _ _ (h i j x y hij hx hy) hl
theorem r8.more {l:List Att} (h:r8 l) {i j:Nat} {x y:Att} {s:List UInt8} (hij:i<j) (hx:l[i]? =some x) (hy:l[j]? =some y) (hl:Op.bytesLess x.name.data.toList s=false):Op.bytesLess y.name.data.toList s=false:=
 Bool.eq_false_iff.2 fun hh=>by rw [h.less hij hx hy hh] at hl;cases hl
def pos (l:List Att) (s:ByteArray):Nat:=(l.takeWhile fun a=>Op.bytesLess a.name.data.toList s.data.toList).length
def there (l:List Att) (s:ByteArray):Bool:=match l[pos l s]? with|some a=>a.name.data.toList==s.data.toList|none=>false
theorem b2v:∀(l:List Att) (s:ByteArray) (i:Nat),i<=l.length->(∀k x,k<i->l[k]? =some x->Op.bytesLess x.name.data.toList s.data.toList=true)->(∀x,l[i]? =some x->Op.bytesLess x.name.data.toList s.data.toList=false)->pos l s=i
 |[],s,i,hi,_,_=>by
  have:i=0:=by simpa using hi
  subst this;rfl
 |a::l,s,0,_,_,h=>by
  have:=h a rfl;unfold pos;rw [List.takeWhile_cons,this];rfl
 |a::l,s,i+1,hi,h1,h2=>by
  have ha:=h1 0 a zo rfl;have ih:=b2v l s i (by simpa using hi) (fun k x hk hx=>h1 (k+1) x zo (by simpa using hx)) (fun x hx=>h2 x (by simpa using hx));unfold pos at ih⊢;rw [List.takeWhile_cons,ha];simp only [if_true,zz9,ih]
theorem b2w (l:List Att) (s:ByteArray):pos l s<=l.length:=by
 unfold pos;exact (List.takeWhile_prefix _).length_le
theorem b5v (x:Att) (s:ByteArray) (w:World):Calls Tryz.prog 112 #[.agg x.cells.toArray,.string s] w fun e w'=>e= .returned (.int .i64 (Lib.compareBytes x.name.data.toList s.data.toList))/\Mod (fun _=>False) w w':=by
 obtain ⟨nm,v⟩:=x;obtain ⟨wa,aD,ah,ae,au⟩:=g8 w (.cells (⟨nm,v⟩:Att).cells.toArray 112);have Hc:=Lib.hid (a8t nm s wa);have c0:wa.cell? ⟨w.heap.size,0,none⟩=some (.string nm):=d6 ae rfl;obtain ⟨aF,aB,aH,ry⟩:=zh4 aD ah ae au;clear aD ah ae au
 go_enter Tryz.func112,Tryz.ntmps112
 go_wp2_with (rw [show w.alloc _=wa from aF.out])
 refine Hc.out.mono ?_;rintro e w' ⟨rfl,rfl⟩
 go_wp2
 go_ret;exact ⟨rfl,aB.out⟩
theorem a8u (w:World) (a:Option Addr) (cap:Nat) (l:List Att) (hv:j3 w 6 (.slice a l.length cap) l.length (k7 l)) (hll:l.length<=1000000) (hr:r8 l) (s:ByteArray):
 Calls Tryz.prog 111 #[.slice a l.length cap,.string s,.func (.func 112) #[] #[]] w fun e w'=>
  e= .returned (.tuple #[.int .i64 (pos l s),.bool (there l s)])/\Mod (fun _=>False) w w':=by
 have bN:(l.length:Int)<=1000000:=zo
 have hcf:∀args w,(callFunc 112 args).run Tryz.prog w= .ok (.enter 112 args) w:=fun args w=>by simp [go_sem]
 obtain ⟨-,a',cap',h1,hcap,hnil,hrd⟩:=hv;cases h1
 have bf:(l.length:Int)<=cap:=zo
 obtain ⟨Hr,iq,mg,Jb⟩:=zh4 hr hrd hcf hnil;clear hr hrd hcf hnil
 go_enter Tryz.func111,Tryz.ntmps111
 go_wp2_with fail
 go_loopw [9,10] (fun ti tj wr=>∃i j:Nat,ti= .int .i64 i/\tj= .int .i64 j/\i<=j/\j<=l.length/\Mod (fun _=>False) w wr/\(∀k x,k<i->l[k]? =some x->Op.bytesLess x.name.data.toList s.data.toList=true)/\
  (∀k x,j<=k->l[k]? =some x->Op.bytesLess x.name.data.toList s.data.toList=false)) (fun ti tj _=>(intOf tj).toNat - (intOf ti).toNat)
 case atStart=>exact ⟨0,l.length,rfl,rfl,Nat.zero_le _,Nat.le_refl _,Mod.refl _ _,fun k x hk=>zo,fun k x hk hx=>by
  have:=(zz6 hx).1;omega⟩
 case round=>
  obtain ⟨i,j,rfl,rfl,hij,hjl,hm,hlo,hhi⟩:=hrel;obtain ⟨Hm,PP,NM⟩:=zh3 hm hlo hhi;clear hm hlo hhi;by_cases hlt:i<j
  ·have hlt':(i:Int)<j:=zo
   have hj':(j:Int)<=1000000:=zo
   obtain ⟨h,hh,hih,hhj⟩:∃h:Nat,((i:Int)+(j:Int)) / 2=(h:Int)/\i<=h/\h<j:=⟨(i+j) / 2,zo,zo,zo⟩;have hhl:(h:Int)<l.length:=zo
   obtain ⟨x,hx⟩:∃x,l[h]? =some x:=⟨_,zz5 zo⟩
   obtain ⟨b,rfl⟩:∃b,a=some b:=by
    cases a with
    |none=>exact absurd (Jb.out rfl) zo
    |some b=>exact ⟨b,rfl⟩
   obtain ⟨g,off,rfl,hc⟩:=iq.out b rfl zo
   have hf:e9 wr g (off+h*6) x.cells:=fun q u hu=>by
    have:=Hm.out.cell (hc (6*h+q) u (Y6 l hx hu)) id;rw [show off+h*6+q=off+(6*h+q) by omega];exact this
   have c0:wr.cell? ⟨g,off+h*6,none⟩=some (.string x.name):=hf 0 _ rfl;have c1:wr.cell? ⟨g,off+h*6+1,none⟩=some (.int .i64 x.v.kind):=hf 1 _ rfl;have c2:wr.cell? ⟨g,off+h*6+2,none⟩=some (.int .i64 x.v.int):=hf 2 _ rfl;have c3:wr.cell? ⟨g,off+h*6+3,none⟩=some (.float .f64 x.v.num):=hf 3 _ rfl;have c4:wr.cell? ⟨g,off+h*6+4,none⟩=some (.string x.v.text):=hf 4 _ rfl;have c5:wr.cell? ⟨g,off+h*6+5,none⟩=some (.bool x.v.yes):=hf 5 _ rfl;have hf1:=b5v x s wr;have hcl:=a0w x.name.data.toList s.data.toList
   generalize Lib.compareBytes x.name.data.toList s.data.toList=C at hf1 hcl
   obtain ⟨Hx,Hc,Hf,Hf1,lQ⟩:=zh5 hx hc hf hf1 hcl;clear hx hc hf hf1 hcl;have hcall:=mg.out
   go_wp2_with fail
   refine Hf1.out.mono ?_;rintro e w2 ⟨rfl,hm2⟩;have aC:=Hm.out.trans hm2 zi;have bA:=zh aC;clear aC hm2 hcall Hf1 c0 c1 c2 c3 c4 c5;by_cases hC:C<0
   ·have hl:Op.bytesLess x.name.data.toList s.data.toList=true:=lQ.out.1 hC;have Hl:=zh hl;clear hl
    go_wp2_with fail
    go_roundw
    case rel=>
     refine ⟨h+1,j,by go_num,rfl,zo,hjl,bA.out,fun k y hk hy=> ?_,NM.out⟩;rcases Nat.lt_succ_iff_lt_or_eq.1 hk with hk|rfl
     ·exact Hr.out.less hk hy Hx.out Hl.out
     rw [Hx.out] at hy;cases hy;exact Hl.out
    case measure=>simp [intOf];omega
   have hl:Op.bytesLess x.name.data.toList s.data.toList=false:=Bool.eq_false_iff.2 fun h=>hC (lQ.out.2 h);have Hl:=zh hl;clear hl
   go_wp2_with fail
   go_roundw
   case rel=>
    refine ⟨i,h,rfl,rfl,hih,zo,bA.out,PP.out,fun k y hk hy=> ?_⟩;rcases Nat.lt_or_eq_of_le hk with hk|rfl
    ·exact Hr.out.more hk Hx.out hy Hl.out
    rw [Hx.out] at hy;cases hy;exact Hl.out
   case measure=>simp [intOf];omega
  obtain rfl:i=j:=zo
  have hpos:=b2v l s i hjl PP.out (fun x hx=>NM.out i x (Nat.le_refl _) hx);by_cases hin:i<l.length
  ·have hin':(i:Int)<l.length:=zo
   obtain ⟨x,hx⟩:∃x,l[i]? =some x:=⟨_,zz5 hin⟩
   obtain ⟨b,rfl⟩:∃b,a=some b:=by
    cases a with
    |none=>exact absurd (Jb.out rfl) zo
    |some b=>exact ⟨b,rfl⟩
   obtain ⟨g,off,rfl,hc⟩:=iq.out b rfl zo
   have hf:e9 wr g (off+i*6) x.cells:=fun q u hu=>by
    have:=Hm.out.cell (hc (6*i+q) u (Y6 l hx hu)) id;rw [show off+i*6+q=off+(6*i+q) by omega];exact this
   have c0:wr.cell? ⟨g,off+i*6,none⟩=some (.string x.name):=hf 0 _ rfl;have c1:wr.cell? ⟨g,off+i*6+1,none⟩=some (.int .i64 x.v.kind):=hf 1 _ rfl;have c2:wr.cell? ⟨g,off+i*6+2,none⟩=some (.int .i64 x.v.int):=hf 2 _ rfl;have c3:wr.cell? ⟨g,off+i*6+3,none⟩=some (.float .f64 x.v.num):=hf 3 _ rfl;have c4:wr.cell? ⟨g,off+i*6+4,none⟩=some (.string x.v.text):=hf 4 _ rfl;have c5:wr.cell? ⟨g,off+i*6+5,none⟩=some (.bool x.v.yes):=hf 5 _ rfl;have hf1:=b5v x s wr
   have hth:there l s=(Lib.compareBytes x.name.data.toList s.data.toList==0):=by
    unfold there;rw [hpos,hx];have:=T5 x.name.data.toList s.data.toList;rw [Bool.eq_iff_iff,beq_iff_eq,beq_iff_eq,this]
   generalize Lib.compareBytes x.name.data.toList s.data.toList=C at hf1 hth
   obtain ⟨Hx,Hc,Hf,Hf1,qJ,AL⟩:=zh6 hx hc hf hf1 hpos hth;clear hx hc hf hf1 hpos hth;have hcall:=mg.out
   go_wp2_with fail
   refine Hf1.out.mono ?_;rintro e w2 ⟨rfl,hm2⟩;have aC:=Hm.out.trans hm2 zi;have bA:=zh aC;clear aC hm2 hcall Hf1 c0 c1 c2 c3 c4 c5
   go_wp2
   go_ret2
   exact ⟨by rw [qJ.out,AL.out];rfl,bA.out⟩
  have hin':(l.length:Int)<=i:=zo
  have hth:there l s=false:=by
   unfold there;rw [hpos,List.getElem?_eq_none zo]
  obtain ⟨qJ,AL⟩:=zh2 hpos hth;clear hpos hth
  go_wp2
  go_ret2
  exact ⟨by rw [qJ.out,AL.out];rfl,Hm.out⟩
theorem a9A (w:World) (sc:ByteArray) (av:Value) (l:List Att) (hv:j3 w 6 av l.length (k7 l)) (hll:l.length<=1000000) (hr:r8 l) (s:ByteArray):
 Calls Tryz.prog 75 #[.agg #[.string sc,av],.string s] w fun e w'=>e= .returned (.tuple #[.int .i64 (pos l s),.bool (there l s)])/\Mod (fun _=>False) w w':=by
 obtain ⟨a,cap,rfl⟩:∃a c,av= .slice a l.length c:=by obtain ⟨-,a,c,h, -⟩:=hv;exact ⟨a,c,h⟩
 obtain ⟨wa,aD,ah,ae,au⟩:=g8 w (.cells #[.string sc,.slice a l.length cap] 31);have c0:wa.cell? ⟨w.heap.size,1,none⟩=some (.slice a l.length cap):=d6 ae rfl;have Hb:=Lib.hid (a8u wa a cap l (hv.mod ah zi) hll hr s);obtain ⟨aF,aB,aH,ry⟩:=zh4 aD ah ae au;clear aD ah ae au hv hr
 go_enter Tryz.func75,Tryz.ntmps75
 go_wp2_with (rw [show w.alloc _=wa from aF.out])
 refine Hb.out.mono ?_;rintro e w' ⟨rfl,hm⟩;have Hm:=zh hm;clear hm
 go_wp2
 go_ret2
 exact ⟨rfl,aB.out.trans Hm.out zi⟩
structure Cnd where
 name:ByteArray
 op:Int
 v:V
def Cnd.cells (a:Cnd):List Value:= .string a.name:: .int .i64 a.op::a.v.cells
theorem Cnd.cells_length (a:Cnd):a.cells.length=7:=rfl
def m5 (l:List Cnd):List Value:=l.flatMap Cnd.cells
theorem b4B (l:List Cnd) {k j:Nat} {a:Cnd} {u:Value} (h:l[k]? =some a) (hj:a.cells[j]? =some u):(m5 l)[7*k+j]? =some u:=by
 induction l generalizing k with
 |nil=>simp at h
 | cons b l ih=>
  unfold m5 at ih⊢;rw [List.flatMap_cons]
  cases k with
  |zero=>
   simp only [List.getElem?_cons_zero,Option.some.injEq] at h;subst h;have:=(zz6 hj).1;rw [List.getElem?_append_left zo,Nat.mul_zero,Nat.zero_add,hj]
  |succ k=>
   rw [List.getElem?_cons_succ] at h;rw [List.getElem?_append_right (by rw [Cnd.cells_length];omega),Cnd.cells_length,show 7*(k+1)+j - 7=7*k+j by omega];exact ih h
theorem a0z {w:World} {g:Nat} {x:Cnd} {t:TypeId} (h:w.heap[g]? =some (.cells x.cells.toArray t (0,0))):e9 w g 2 x.v.cells:=fun j u hu=>by
 have:=e9.row h (j+2) u (by simpa [Cnd.cells] using hu);rw [show 2+j=0+(j+2) by omega];exact this
theorem a2N (l m:List Cnd):m5 (l++m)=m5 l++m5 m:=by unfold m5;simp
theorem b2x (l:List Cnd):∀u∈m5 l,u.oneCell'=true:=fun u hu=>by
 unfold m5 at hu;obtain ⟨x, -,hx⟩:=List.mem_flatMap.1 hu;exact zz15 (show x.cells.all (·.oneCell')=true from rfl) u hx
theorem a6Y:(Tryz.prog.info? 87).map (·.size)=some 7:=zk
theorem G9 {w:World} {a:Option Addr} {cap:Nat} {l:List Cnd} {j:Nat} {x:Cnd} (h:j3 w 7 (.slice a l.length cap) l.length (m5 l)) (hx:l[j]? =some x):∃g off,a=some ⟨g,off,none⟩/\e9 w g (off+j*7) x.cells:=by
 obtain ⟨-,a',c',h1, -,h3,h4⟩:=h;cases h1
 cases a with
 |none=>have:=(zz6 hx).1;exact absurd (h3 rfl) zo
 |some b=>
  obtain ⟨g',off',h5,h6⟩:=h4 _ rfl (by have:=(zz6 hx).1;omega);refine ⟨g',off',by rw [h5],fun i u hu=> ?_⟩;have:=h6 (7*j+i) u (b4B _ hx hu);rw [show off'+j*7+i=off'+(7*j+i) by omega];exact this
def Cnd.rightB (c:Cnd):Bool:=o9 c.name&&(decide (0<=c.op)&&(decide (c.op<=7)&&c.v.right))
theorem a8v (c:Cnd) (hn:c.name.size<=9223372036854775807) (w:World):Calls Tryz.prog 27 #[.agg c.cells.toArray] w fun e w'=>e= .returned (.bool c.rightB)/\Mod (fun _=>False) w w':=by
 obtain ⟨wa,aD,ah,ae,au⟩:=g8 w (.cells c.cells.toArray 87);have c0:wa.cell? ⟨w.heap.size,0,none⟩=some (.string c.name):=d6 ae rfl;have c1:wa.cell? ⟨w.heap.size,1,none⟩=some (.int .i64 c.op):=d6 ae rfl;have c2:wa.cell? ⟨w.heap.size,2,none⟩=some (.int .i64 c.v.kind):=d6 ae rfl;have c3:wa.cell? ⟨w.heap.size,3,none⟩=some (.int .i64 c.v.int):=d6 ae rfl;have c4:wa.cell? ⟨w.heap.size,4,none⟩=some (.float .f64 c.v.num):=d6 ae rfl;have c5:wa.cell? ⟨w.heap.size,5,none⟩=some (.string c.v.text):=d6 ae rfl;have c6:wa.cell? ⟨w.heap.size,6,none⟩=some (.bool c.v.yes):=d6 ae rfl;have hnm:=a1y c.name zo wa;obtain ⟨ik,aF,aB⟩:=zh3 hnm aD ah;clear hnm aD ah ae au hn
 cases h1:o9 c.name with
 |false=>
  rw [show c.rightB=false by unfold Cnd.rightB;rw [h1];rfl];rw [h1] at ik;clear h1
  go_enter Tryz.func27,Tryz.ntmps27
  go_wp2_with (rw [show w.alloc _=wa from aF.out])
  refine ik.out.mono ?_;rintro e w' ⟨rfl,rfl⟩
  go_wp2
  go_ret;exact ⟨rfl,aB.out⟩
 | true=>
  rw [show c.rightB=(decide (0<=c.op)&&(decide (c.op<=7)&&c.v.right)) by unfold Cnd.rightB;rw [h1];rfl];rw [h1] at ik;clear h1;by_cases h2:0<=c.op;rotate_left
  ·have h2':c.op<0:=zo
   rw [show (decide (0<=c.op)&&(decide (c.op<=7)&&c.v.right))=false by rw [decide_eq_false h2,Bool.false_and]];clear h2
   go_enter Tryz.func27,Tryz.ntmps27
   go_wp2_with (rw [show w.alloc _=wa from aF.out])
   refine ik.out.mono ?_;rintro e w' ⟨rfl,rfl⟩
   go_wp2
   go_ret;exact ⟨rfl,aB.out⟩
  by_cases h3:c.op<=7;rotate_left
  ·have h3':7<c.op:=zo
   rw [show (decide (0<=c.op)&&(decide (c.op<=7)&&c.v.right))=false by rw [decide_eq_false h3,Bool.false_and,Bool.and_false]];clear h3
   go_enter Tryz.func27,Tryz.ntmps27
   go_wp2_with (rw [show w.alloc _=wa from aF.out])
   refine ik.out.mono ?_;rintro e w' ⟨rfl,rfl⟩
   go_wp2
   go_ret;exact ⟨rfl,aB.out⟩
  rw [show (decide (0<=c.op)&&(decide (c.op<=7)&&c.v.right))=c.v.right by rw [decide_eq_true h2,decide_eq_true h3,Bool.true_and,Bool.true_and]];have gL:=a2I c.v wa;have Ic:=zh gL;clear gL
  go_enter Tryz.func27,Tryz.ntmps27
  go_wp2_with (rw [show w.alloc _=wa from aF.out])
  refine ik.out.mono ?_;rintro e w' ⟨rfl,rfl⟩
  go_wp2_with fail
  refine Ic.out.mono ?_;rintro e w2 ⟨rfl,hm2⟩;have bq:=Lib.hid (aB.out.trans hm2 zi);clear hm2
  go_wp2
  go_ret;exact ⟨rfl,bq.out⟩
def l9 (sc:ByteArray) (l:List Cnd):Bool:=l.all Cnd.rightB&&(A4 sc&&decide (l.length<=6))
theorem I8 (w:World) (sc:ByteArray) (av:Value) (l:List Cnd) (hv:j3 w 7 av l.length (m5 l)) (hll:l.length<=9223372036854775807) (hsc:sc.size<=9223372036854775807) (hn:∀c∈l,c.name.size<=9223372036854775807):
 Calls Tryz.prog 8 #[.agg #[.string sc,av]] w fun e w'=>e= .returned (.bool (l9 sc l))/\Mod (fun _=>False) w w':=by
 obtain ⟨a,cap,rfl,hcap⟩:∃a c,av= .slice a l.length c/\l.length<=c:=by obtain ⟨-,a,c,h,h2, -⟩:=hv;exact ⟨a,c,h,h2⟩
 have bN:(l.length:Int)<=9223372036854775807:=zo
 have bf:(l.length:Int)<=cap:=zo
 obtain ⟨wa,aD,ah,ae,au⟩:=g8 w (.cells #[.string sc,.slice a l.length cap] 26);have hva:=hv.mod ah zi;have hg:=ae;have c1:wa.cell? ⟨w.heap.size,1,none⟩=some (.slice a l.length cap):=d6 ae rfl;obtain ⟨R,hR⟩:∃R,l9 sc l=R:=⟨_,rfl⟩;rw [hR];have hqz:w.heap.size<wa.heap.size:=zo
 have Jc:=hsc;obtain ⟨Hv,Hn,aF,aB,aH,dC,HR,Hg⟩:=zh8 hv hn aD ah ae hva hR hg;clear hv hn aD ah ae hva hR hg au hll hsc
 go_enter Tryz.func8,Tryz.ntmps8
 go_wp2_with (rw [show w.alloc _=wa from aF.out])
 go_loopw [8] (fun i wr=>∃j:Nat,i= .int .i64 j/\j<=l.length/\Mod (fun _=>False) wa wr/\(∀(k:Nat) (x:Cnd),k<j->l[k]? =some x->x.rightB=true)) (fun i _=>l.length - (intOf i).toNat)
 case atStart=>exact ⟨0,rfl,Nat.zero_le _,Mod.refl _ _,fun k x hk=>zo⟩
 case round=>
  obtain ⟨j,rfl,hj,hmr,hall⟩:=hrel;by_cases hlt:j<l.length
  ·have hlt':(j:Int)<l.length:=zo
   obtain ⟨x,hxj⟩:∃x,l[j]? =some x:=⟨_,zz5 hlt⟩;have hxm:=zz8 hxj;obtain ⟨g,off,rfl,hf⟩:∃g off,a=some ⟨g,off,none⟩/\e9 wr g (off+j*7) x.cells:=G9 (dC.out.mod hmr zi) hxj;obtain ⟨wz,hwz,ai,aj,aJ⟩:=g8 wr (.cells x.cells.toArray 87);have hmz:=hmr.trans ai zi;have hcr:=a8v x (Hn.out x hxm) wz;obtain ⟨aK,aM,cB,fH,Hf,bi,bn,aN,bG,vT⟩:=zh10 hmr hall hxj hxm hf hwz ai aj hmz hcr;clear hmr hall hxj hxm hf hwz ai aj hmz hcr aJ
   go_wp2_with (first|((with_reducible refine d8 87 (.tmp 10) ?_);refine ⟨g,off+j*7,rfl,x.cells,Hf.out,zk,zk, ?_⟩)|((with_reducible refine d9 87 (.tmp 4) (.tmp 11) ?_);refine ⟨rfl,x.cells,rfl,rfl,zk,rfl, ?_⟩;rw [bi.out])|((with_reducible refine d8 87 (.tmp 4) ?_);refine ⟨wr.heap.size,0,rfl,x.cells,e9.row aN.out,zk,zk, ?_⟩))
   refine vT.out.mono ?_;rintro e w3 ⟨rfl,aC⟩;have bA:=Lib.hid (bG.out.trans aC zi);clear aC
   cases hs:x.rightB with
   | true=>
    have Hs:=zh hs;clear hs
    go_wp2_with fail
    go_roundw
    case rel=>
     refine ⟨j+1,by go_num,hlt,bA.out,fun k x' hk hx'=> ?_⟩;rcases Nat.lt_succ_iff_lt_or_eq.1 hk with hk|rfl
     ·exact aM.out k x' hk hx'
     rw [cB.out] at hx';cases hx';exact Hs.out
    case measure=>simp [intOf];omega
   | false=>
    have Hs:=zh hs;clear hs
    go_wp2
    go_ret;refine ⟨?_,aB.out.trans bA.out zi⟩
    have hf:l9 sc l=false:=by
     unfold l9;rw [List.all_eq_false.2 ⟨x,fH.out,by rw [Hs.out];decide⟩,Bool.false_and]
    rw [<-HR.out,hf];rfl
  obtain rfl:j=l.length:=zo
  have hgr:=hmr.heap Hg.out id;have c0:wr.cell? ⟨w.heap.size,0,none⟩=some (.string sc):=d6 hgr rfl;have c1:wr.cell? ⟨w.heap.size,1,none⟩=some (.slice a l.length cap):=d6 hgr rfl;have lZ:=V0 sc Jc wr
  have hfr:l9 sc l=(A4 sc&&decide (l.length<=6)):=by
   unfold l9
   rw [List.all_eq_true.2 fun x hx=>by
    obtain ⟨k,hk⟩:=List.mem_iff_getElem?.1 hx
    exact hall k x (zz6 hk).1 hk,Bool.true_and]
  rw [HR.out] at hfr;have bg:=aB.out.trans hmr zi;obtain ⟨eG,yQ,bB,nL⟩:=zh4 bg lZ hfr hgr;clear bg lZ hfr hgr hmr hall
  go_wp2_with fail
  refine yQ.out.mono ?_;rintro e w3 ⟨rfl,aC⟩;have hg3:=aC.heap nL.out id;have c1:w3.cell? ⟨w.heap.size,1,none⟩=some (.slice a l.length cap):=d6 hg3 rfl;have bA:=Lib.hid (eG.out.trans aC zi);clear aC hg3
  cases hs:A4 sc with
  |false=>
   have Hs:=zh hs;clear hs
   go_wp2
   go_ret;refine ⟨?_,bA.out⟩;rw [bB.out,Hs.out];rfl
  |true=>
   have Hs:=zh hs;clear hs
   go_wp2
   go_ret;refine ⟨?_,bA.out⟩;rw [bB.out,Hs.out,Bool.true_and];show Ending.returned (.bool (decide ((l.length:Int)<=6)))=_;congr 2;exact decide_eq_decide.2 zo
structure Ru where
 kind:Int
 tenant:Int
 who:ByteArray
 broker:Int
 sc:ByteArray
 ca:Option Addr
 cc:Nat
 name:ByteArray
 at_:Int
 cs:List Cnd
def Ru.cv (r:Ru):Value:= .slice r.ca r.cs.length r.cc
def Ru.cells (r:Ru):List Value:=[.int .i64 r.kind,.int .i64 r.tenant,.string r.who,.int .i64 r.broker,.string r.sc,.slice r.ca r.cs.length r.cc,.string r.name,.int .i64 r.at_]
theorem Ru.cells_length (a:Ru):a.cells.length=8:=rfl
def rus (l:List Ru):List Value:=l.flatMap Ru.cells
theorem b5V (l:List Ru) {k j:Nat} {a:Ru} {u:Value} (h:l[k]? =some a) (hj:a.cells[j]? =some u):(rus l)[8*k+j]? =some u:=by
 induction l generalizing k with
 |nil=>simp at h
 | cons b l ih=>
  unfold rus at ih⊢;rw [List.flatMap_cons]
  cases k with
  |zero=>
   simp only [List.getElem?_cons_zero,Option.some.injEq] at h;subst h;have:=(zz6 hj).1;rw [List.getElem?_append_left zo,Nat.mul_zero,Nat.zero_add,hj]
  |succ k=>
   rw [List.getElem?_cons_succ] at h;rw [List.getElem?_append_right (by rw [Ru.cells_length];omega),Ru.cells_length,show 8*(k+1)+j - 8=8*k+j by omega];exact ih h
theorem a39 (l:List Ru):(rus l).length=l.length*8:=by
 induction l with
 |nil=>rfl
 |cons a l ih=>
  show (a.cells++rus l).length=_;rw [zz4,ih,Ru.cells_length,zz9];omega
theorem Z4 (l m:List Ru):rus (l++m)=rus l++rus m:=by unfold rus;simp
theorem a1M (a:Ru) (l:List Ru):rus (a::l)=a.cells++rus l:=by unfold rus;simp
structure Ru.ok (w:World) (r:Ru):Prop where
 rd:j3 w 7 r.cv r.cs.length (m5 r.cs)
 len:r.cs.length<=9223372036854775807
 who:r.who.size<=9223372036854775807
 sc:r.sc.size<=9223372036854775807
 name:r.name.size<=9223372036854775807
 cname:∀c∈r.cs,c.name.size<=9223372036854775807/\c.v.text.size<=9223372036854775807
theorem Ru.ok.mod {w w':World} {r:Ru} (h:r.ok w) (hm:Mod (fun _=>False) w w'):r.ok w':=⟨h.rd.mod hm zi,h.len,h.who,h.sc,h.name,h.cname⟩
structure I9 (w:World) (v:Value) (l:List Ru):Prop where
 rd:j3 w 8 v l.length (rus l)
 ok:∀r∈l,r.ok w
theorem I9.mod {w w':World} {v:Value} {l:List Ru} (h:I9 w v l) (hm:Mod (fun _=>False) w w'):I9 w' v l:=⟨h.rd.mod hm zi,fun r hr=>(h.ok r hr).mod hm⟩
theorem F1 {w:World} {a:Option Addr} {cap:Nat} {l:List Ru} {j:Nat} {x:Ru} (h:I9 w (.slice a l.length cap) l) (hx:l[j]? =some x):∃g off,a=some ⟨g,off,none⟩/\e9 w g (off+j*8) x.cells:=by
 obtain ⟨-,a',c',h1, -,h3,h4⟩:=h.rd;cases h1
 cases a with
 |none=>have:=(zz6 hx).1;exact absurd (h3 rfl) zo
 |some b=>
  obtain ⟨g',off',h5,h6⟩:=h4 _ rfl (by have:=(zz6 hx).1;omega);refine ⟨g',off',by rw [h5],fun i u hu=> ?_⟩;have:=h6 (8*j+i) u (b5V _ hx hu);rw [show off'+j*8+i=off'+(8*j+i) by omega];exact this
def Ru.of (r:Ru) (kind tenant:Int) (who:ByteArray):Bool:=r.kind==kind&&(r.tenant==tenant&&r.who.toList==who.toList)
theorem b5w (r:Ru) (kind tenant:Int) (who:ByteArray) (w:World):Calls Tryz.prog 71 #[.agg r.cells.toArray,.int .i64 kind,.int .i64 tenant,.string who] w fun e w'=>e= .returned (.bool (r.of kind tenant who))/\Mod (fun _=>False) w w':=by
 obtain ⟨wa,aD,ah,ae,au⟩:=g8 w (.cells r.cells.toArray 28);have c0:wa.cell? ⟨w.heap.size,0,none⟩=some (.int .i64 r.kind):=d6 ae rfl;have c1:wa.cell? ⟨w.heap.size,1,none⟩=some (.int .i64 r.tenant):=d6 ae rfl;have c2:wa.cell? ⟨w.heap.size,2,none⟩=some (.string r.who):=d6 ae rfl;obtain ⟨aF,aB⟩:=zh2 aD ah;clear aD ah ae au
 cases h1:r.kind==kind with
 |false=>
  rw [show r.of kind tenant who=false by unfold Ru.of;rw [h1];rfl]
  go_enter Tryz.func71,Tryz.ntmps71
  go_wp2_with (rw [show w.alloc _=wa from aF.out])
  go_ret;exact ⟨rfl,aB.out⟩
 | true=>
  cases h2:r.tenant==tenant with
  |false=>
   rw [show r.of kind tenant who=false by unfold Ru.of;rw [h1,h2];rfl]
   go_enter Tryz.func71,Tryz.ntmps71
   go_wp2_with (rw [show w.alloc _=wa from aF.out])
   go_ret;exact ⟨rfl,aB.out⟩
  |true=>
   rw [show r.of kind tenant who=(r.who.toList==who.toList) by unfold Ru.of;rw [h1,h2];rfl]
   go_enter Tryz.func71,Tryz.ntmps71
   go_wp2_with (rw [show w.alloc _=wa from aF.out])
   go_ret;exact ⟨rfl,aB.out⟩
end Go.Proofs.YtebhabpahfmodaaGreatDoor
