/- Lemmas. -/
import Derived.Test.YtebhabpahfmodaaGreatDoorZh3
import Derived.Lib.Strings
import Derived.Laws.IdiomCopy
import Derived.Lib.Overlaps
set_option maxHeartbeats 40000000
set_option maxRecDepth 20000
namespace Go.Proofs.YtebhabpahfmodaaGreatDoor
section
open Go.RowKit
def C4 (s p:ByteArray):Bool:=p.data.toList.isPrefixOf s.data.toList
theorem a13 {s p:ByteArray} (h:s.size<p.size):C4 s p=false:=by
 unfold C4;rw [Bool.eq_false_iff];intro hp;have:=(List.isPrefixOf_iff_prefix.1 hp).length_le;have h1:p.data.toList.length=p.size:=rfl;have h2:s.data.toList.length=s.size:=rfl;omega
theorem a0F {s p:ByteArray}:((s.extract 0 p.size).toList==p.toList)=C4 s p:=by
 unfold C4;rw [ByteArray.toList_eq,ByteArray.toList_eq,Bool.eq_iff_iff,beq_iff_eq,List.isPrefixOf_iff_prefix,List.prefix_iff_eq_take]
 have h1:(s.extract 0 p.size).data.toList=s.data.toList.take p.size:=by
  rw [ByteArray.data_extract,Array.toList_extract];simp
 rw [h1];have h2:p.data.toList.length=p.size:=rfl;rw [h2];exact ⟨fun h=>h.symm,fun h=>h.symm⟩
theorem a9b (s p:ByteArray) (hs:s.size<=9223372036854775807) (hp:p.size<=9223372036854775807) (w:World):Calls Tryz.prog 132 #[.string s,.string p] w fun e w'=>e= .returned (.bool (C4 s p))/\w'=w:=by
 have hs':(s.size:Int)<=9223372036854775807:=zo
 have hp':(p.size:Int)<=9223372036854775807:=zo
 by_cases h:p.size<=s.size
 ·have h':(p.size:Int)<=s.size:=zo
  rw [<-a0F];clear hs hp
  go_enter Tryz.func132,Tryz.ntmps132
  go_wp2
  go_ret;exact ⟨rfl,rfl⟩
 have h':(s.size:Int)<p.size:=zo
 rw [a13 zo];clear hs hp h
 go_enter Tryz.func132,Tryz.ntmps132
 go_wp2
 go_ret;exact ⟨rfl,rfl⟩
theorem a0Z (s p:ByteArray) (hs:s.size<=9223372036854775807) (hp:p.size<=9223372036854775807) (w:World):Calls Tryz.prog 89 #[.string s,.string p] w fun e w'=>e= .returned (.bool (C4 s p))/\w'=w:=by
 have Hc:=Lib.hid (a9b s p hs hp w);clear hs hp
 go_enter Tryz.func89,Tryz.ntmps89
 go_wp2_with fail
 refine Hc.out.mono ?_;rintro e w' ⟨rfl,rfl⟩
 go_wp2
 go_ret;exact ⟨rfl,rfl⟩
def m8 (s top:ByteArray):Bool:=top.toList.isEmpty||(s.toList==top.toList||(C4 s top&&s.data.toList[top.size]? ==some 47))
theorem a14 (s top:ByteArray) (hs:s.size<=9223372036854775807) (hp:top.size<=9223372036854775807) (w:World):Calls Tryz.prog 56 #[.string s,.string top] w fun e w'=>e= .returned (.bool (m8 s top))/\w'=w:=by
 have hc:=a0Z s top hs hp w
 cases h1:top.toList.isEmpty with
 |true=>
  rw [show m8 s top=true by unfold m8;rw [h1];rfl];clear hc hs hp
  go_enter Tryz.func56,Tryz.ntmps56
  go_wp2
  go_ret;exact ⟨rfl,rfl⟩
 |false=>
 cases h2:s.toList==top.toList with
 |true=>
  rw [show m8 s top=true by unfold m8;rw [h1,h2];rfl];clear hc hs hp
  go_enter Tryz.func56,Tryz.ntmps56
  go_wp2
  go_ret;exact ⟨rfl,rfl⟩
 |false=>
 have hu:m8 s top=(C4 s top&&s.data.toList[top.size]? ==some 47):=by unfold m8;rw [h1,h2];rfl
 rw [hu]
 cases h3:C4 s top with
 |false=>
  rw [h3] at hc;have Hc:=zh hc;rw [Bool.false_and];clear hc hs hp hu h3
  go_enter Tryz.func56,Tryz.ntmps56
  go_wp2_with fail
  refine Hc.out.mono ?_;rintro e w' ⟨rfl,rfl⟩
  go_wp2
  go_ret;exact ⟨rfl,rfl⟩
 | true=>
  rw [h3] at hc
  have hlt:top.size<s.size:=by
   have h4:=List.isPrefixOf_iff_prefix.1 (show top.data.toList.isPrefixOf s.data.toList=true from h3);rcases Nat.lt_or_eq_of_le h4.length_le with h5|h5
   ·exact h5
   have:=h4.eq_of_length h5;rw [ByteArray.toList_eq,ByteArray.toList_eq,this,beq_self_eq_true] at h2;cases h2
  have hlt':(top.size:Int)<s.size:=zo
  have YU:(top.size:Int)<=9223372036854775807:=zo
  have hs':(s.size:Int)<=9223372036854775807:=zo
  have hg:s.data.toList[top.size]? =some s[top.size]:=zz5 hlt
  have hb:(s.data.toList[top.size]? ==some 47)=((s[top.size].toNat:Int)==47):=by
   rw [hg,Bool.eq_iff_iff,beq_iff_eq,beq_iff_eq];constructor
   ·intro h;have h:=Option.some.inj h;rw [h];rfl
   intro h;congr 1;exact UInt8.toNat.inj (by have:(47:UInt8).toNat=47:=rfl;omega)
  rw [Bool.true_and,hb];have Hc:=zh hc;clear hc hs hp hu h3 hg hb
  go_enter Tryz.func56,Tryz.ntmps56
  go_wp2_with fail
  refine Hc.out.mono ?_;rintro e w' ⟨rfl,rfl⟩
  go_wp2
  go_ret;exact ⟨rfl,rfl⟩
section
variable {P:Program} {ops:Array Oper} {Q:Exit->Act->World->Prop} {md:Region.Mode} {T:Nat->Bool}
def a4p (P:Program) (md:Region.Mode) (ops:Array Oper) (Q:Exit->Act->World->Prop) (T:Nat->Bool):Nat->Array Bool->Act->World->Prop
 |0,listed,a,w=>Region.ready md ops listed=[]/\Q .normal a w
 |fuel+1,listed,a,w=>
  (Region.ready md ops listed=[]->Q .normal a w)/\
  ∀i∈Region.ready md ops listed,wpOp P ops Q i (fun a' w'=>(T i=true->Mod (fun _=>False) w w')/\a4p P md ops Q T fuel (listed.setIfInBounds i true) a' w') a w
theorem a4q:∀(fuel:Nat) (listed:Array Bool) (a:Act) (w:World),a4p P md ops Q T fuel listed a w->wpAny P md ops Q fuel listed a w
 |0,_,_,_,h=>h
 |fuel+1,_,_,_,h=>⟨h.1,fun i hi=>wpOp_mono (fun a' w' h'=>a4q fuel _ a' w' h'.2) (h.2 i hi)⟩
theorem a6b {S':World->Prop} {i:Nat} {oi:Oper} {v:Value} (hi:ops[i]? =some oi) (hsel:∀(j:Nat) (o:Oper) cs b,ops[j]? =some o->o.op≠ .select cs b)
 (hQ:∀c a w,Q (.panic c) (a.put oi.dst v) w->Q (.panic c) a w):
 ∀(fuel:Nat) (listed:Array Bool) (a:Act) (w:World),F0 md ops listed->
  (∀j oj,ops[j]? =some oj->j≠i->listed.getD j true=false->(∀e∈oj.after,Region.binds md e=true->e.on≠i)->oi.apart ops oj=true)->
  (∀j,j<ops.size->j≠i->listed.getD j true=false->G8 md ops ops.size j i=false->∀w w',(T j=true->Mod (fun _=>False) w w')->S' w->S' w')->
  i∈Region.ready md ops listed->YieldsIf P ops S' oi v a->S' w->
  a4p P md ops Q T fuel (listed.setIfInBounds i true) (a.put oi.dst v) w->a4p P md ops Q T (fuel+1) listed a w:=by
 intro fuel
 induction fuel with
 | zero=>
  intro listed a w hc _ _ hr hy hS' H;refine ⟨fun h=>(by rw [h] at hr;cases hr),fun j hj=> ?_⟩;by_cases hji:j=i
  ·subst hji;exact hy.wpOp hi hS' ⟨fun _=>Mod.refl _ _,H⟩
  ·have:=ready_mono hj hji;rw [H.1] at this;cases this
 | succ fuel ih=>
  intro listed a w hc hfree hT hr hy hS' H;refine ⟨fun h=>(by rw [h] at hr;cases hr),fun j hj=> ?_⟩;by_cases hji:j=i
  ·subst hji;exact hy.wpOp hi hS' ⟨fun _=>Mod.refl _ _,H⟩
  have h1:=H.2 j (ready_mono hj hji);obtain ⟨hjun,oj,hoj,hall⟩:=mem_ready.1 hj
  have rH:listed.getD i false=false:=by
   have h0:=(mem_ready.1 hr).1;rcases Nat.lt_or_ge i listed.size with h'|h'
   ·simp [h'] at h0⊢;exact h0
   simp [Array.getElem?_eq_none h'] at h0
  have hnot:∀e∈oj.after,Region.binds md e=true->e.on≠i:=fun e he hb heq=>by
   have h1:=hall e he hb;rw [heq,rH] at h1;cases h1
  have mr:G8 md ops ops.size j i=false:=by
   cases hb:G8 md ops ops.size j i with
   |false=>rfl
   |true=>have:=a2M hc hj hb;rw [rH] at this;cases this
  have h2:=wpOp_putIf hoj (hfree j oj hoj hji hjun hnot) (fun cs b=>hsel i oi cs b hi) (fun cs b=>hsel j oj cs b hoj) hQ hy h1
  have hfree':∀k ok,ops[k]? =some ok->k≠i->(listed.setIfInBounds j true).getD k true=false->
   (∀e∈ok.after,Region.binds md e=true->e.on≠i)->oi.apart ops ok=true:=fun k ok hk hki hun hno=>by
   refine hfree k ok hk hki ?_ hno;by_cases hjk:j=k
   ·subst hjk;exact hjun
   rw [getD_set_ne true hjk] at hun;exact hun
  have hT':∀k,k<ops.size->k≠i->(listed.setIfInBounds j true).getD k true=false->G8 md ops ops.size k i=false->∀w w',(T k=true->Mod (fun _=>False) w w')->S' w->S' w':=fun k hks hki hun hno=>by
   refine hT k hks hki ?_ hno;by_cases hjk:j=k
   ·subst hjk;exact hjun
   rw [getD_set_ne true hjk] at hun;exact hun
  have hSj:=hT j (zz7 hoj).1 hji hjun mr;refine wpOp_mono (fun a' w' h3=> ?_) h2;obtain ⟨hy3,IZ,H3⟩:=h3;exact ⟨IZ,ih (listed.setIfInBounds j true) a' w' (hc.set hj) hfree' hT' (ready_mono hr (Ne.symm hji)) hy3 (hSj w w' IZ hS') (by rw [Array.setIfInBounds_comm _ _ hji];exact H3)⟩
def goR (P:Program) (ops:Array Oper) (Q:Exit->Act->World->Prop) (T:Nat->Bool) (i:Nat) (K:Act->World->Prop) (a:Act) (w:World):Prop:=
 wpOp P ops Q i (fun a' w'=>(T i=true->Mod (fun _=>False) w w')/\K a' w') a w
def a1d (P:Program) (ops:Array Oper) (Q:Exit->Act->World->Prop) (T:Nat->Bool):List Stp->Act->World->Prop
 |[],a,w=>Q .normal a w
 | .rd i::r,a,w=>∀o,ops[i]? =some o->∃S:World->Prop,(∀w w',Mod (fun _=>False) w w'->S w->S w')/\(L8 o.op=false->S w)/\∃v,YieldsIf P ops (fun w=>L8 o.op=false->S w) o v a/\a1d P ops Q T r (a.put o.dst v) w
 | .go i::r,a,w=>goR P ops Q T i (fun a' w'=>a1d P ops Q T r a' w') a w
 | .both i j::r,a,w=>goR P ops Q T i (goR P ops Q T j (fun a' w'=>a1d P ops Q T r a' w')) a w/\goR P ops Q T j (goR P ops Q T i (fun a' w'=>a1d P ops Q T r a' w')) a w
theorem b3G {i:Nat} {K K':Act->World->Prop} {a:Act} {w:World} (h:∀a w,K a w->K' a w) (hh:goR P ops Q T i K a w):goR P ops Q T i K' a w:=
 wpOp_mono (fun a' w' h'=>⟨h'.1,h a' w' h'.2⟩) hh
theorem X8 (hsel:Region.noSelect ops=true) (hQ:∀(c:List PanicEntry) (a:Act) (d:Option Tmp) (v:Value) (w:World),Q (.panic c) (a.put d v) w->Q (.panic c) a w):
 ∀(r:List Stp) (listed:Array Bool) (a:Act) (w:World),A2 md ops T r listed=true->F0 md ops listed->a1d P ops Q T r a w->a4p P md ops Q T (a1L r) listed a w
 |[],listed,a,w,hok,_,h=>by
  simp only [A2,List.isEmpty_iff] at hok;exact ⟨hok,h⟩
 | .rd i::r,listed,a,w,hok,hc,h=>by
  simp only [A2,Bool.and_eq_true,decide_eq_true_eq] at hok;obtain ⟨⟨⟨⟨hi,hf⟩,hr⟩,hp⟩,hok⟩:=hok;obtain ⟨o,ho⟩:∃o,ops[i]? =some o:=⟨_,Array.getElem?_eq_getElem hi⟩;obtain ⟨S,Nl,hSw,v,hy,h⟩:=h o ho;have eU:i∈Region.ready md ops listed:=by simpa using hr
  exact a6b (T:=T) (S':=fun w=>L8 o.op=false->S w) ho (Region.noSelect_spec hsel) (fun c a w=>hQ c a o.dst v w) (a1L r) listed a w hc (Region.free_spec ho hf)
   (fun j hj hji hun hre w w' hT h gK=>by
     simp only [ho,Option.map_some,Option.getD_some,gK,Bool.false_or,List.all_eq_true,List.mem_range,Bool.or_eq_true,beq_iff_eq] at hp;rcases hp j hj with ((h1|h1)|h1)|h1
     ·exact absurd h1 hji
     ·rw [hun] at h1;cases h1
     ·rw [hre] at h1;cases h1
     ·exact Nl _ _ (hT h1) (h gK))
   eU hy hSw (X8 hsel hQ r (listed.setIfInBounds i true) (a.put o.dst v) w hok (hc.set eU) h)
 | .go i::r,listed,a,w,hok,hc,h=>by
  simp only [A2,Bool.and_eq_true,beq_iff_eq] at hok;obtain ⟨hr,hok⟩:=hok;have eU:i∈Region.ready md ops listed:=by rw [hr];simp
  refine ⟨fun h0=>(by rw [hr] at h0;cases h0),fun j hj=> ?_⟩;rw [hr] at hj;obtain rfl:j=i:=by simpa using hj
  have h:goR P ops Q T j (fun a' w'=>a1d P ops Q T r a' w') a w:=h;exact wpOp_mono (fun a' w' h'=>⟨h'.1,X8 hsel hQ r _ a' w' hok (hc.set eU) h'.2⟩) h
 | .both i j::r,listed,a,w,hok,hc,h=>by
  simp only [A2,Bool.and_eq_true,beq_iff_eq,decide_eq_true_eq] at hok;obtain ⟨⟨⟨⟨hij,hr⟩,hr1⟩,hr2⟩,hok⟩:=hok;have eU:i∈Region.ready md ops listed:=by rw [hr];simp
  have Gg:j∈Region.ready md ops listed:=by rw [hr];simp
  have rJ:j∈Region.ready md ops (listed.setIfInBounds i true):=by rw [hr1];simp
  refine ⟨fun h0=>(by rw [hr] at h0;cases h0),fun k hk=> ?_⟩;rw [hr] at hk;have hk':k=i\/k=j:=by simpa using hk
  have hA:goR P ops Q T i (goR P ops Q T j (fun a' w'=>a1d P ops Q T r a' w')) a w:=h.1;have hB:goR P ops Q T j (goR P ops Q T i (fun a' w'=>a1d P ops Q T r a' w')) a w:=h.2;rcases hk' with rfl|rfl
  ·refine wpOp_mono (fun a' w' h'=>⟨h'.1, ?_⟩) hA;refine ⟨fun h0=>(by rw [hr1] at h0;cases h0),fun k' hk'=> ?_⟩;rw [hr1] at hk';obtain rfl:k'=j:=by simpa using hk'
   exact wpOp_mono (fun a' w' h'=>⟨h'.1,X8 hsel hQ r _ a' w' hok ((hc.set eU).set rJ) h'.2⟩) h'.2
  refine wpOp_mono (fun a' w' h'=>⟨h'.1, ?_⟩) hB;refine ⟨fun h0=>(by rw [hr2] at h0;cases h0),fun k' hk'=> ?_⟩;rw [hr2] at hk';obtain rfl:k'=i:=by simpa using hk'
  rw [Array.setIfInBounds_comm _ _ hij.symm];exact wpOp_mono (fun a' w' h'=>⟨h'.1,X8 hsel hQ r _ a' w' hok ((hc.set eU).set rJ) h'.2⟩) h'.2
structure WR (P:Program) (ops:Array Oper) (Q:Exit->Act->World->Prop) (T:Nat->Bool) (r:List Stp) (a:Act) (w:World):Prop where
 out:a1d P ops Q T r a w
structure GR (P:Program) (ops:Array Oper) (Q:Exit->Act->World->Prop) (T:Nat->Bool) (i:Nat) (K:Act->World->Prop) (a:Act) (w:World):Prop where
 out:goR P ops Q T i K a w
theorem a0j {id:Nat} {a:Act} {w:World} {l:List Oper} (r:List Stp) (ks:List Nat) (hm:P.follows .mixedOrders=true)
 (hB:(Region.noSelect l.toArray&&(decide (a1L r=l.length)&&A2 .any l.toArray (fun j=>ks.contains j) r (Array.replicate l.toArray.size false)))=true)
 (hQ:∀(c:List PanicEntry) (a:Act) (d:Option Tmp) (v:Value) (w:World),Q (.panic c) (a.put d v) w->Q (.panic c) a w)
 (h:WR P l.toArray Q (fun j=>ks.contains j) r a w.drew):(Code.region id l.toArray true).wp P Q a w:=by
 simp only [Bool.and_eq_true,decide_eq_true_eq] at hB;obtain ⟨hsel,hlen,hok⟩:=hB
 have hcl:F0 .any l.toArray (Array.replicate l.toArray.size false):=fun j oj _ hl=>by
  exfalso;rcases Nat.lt_or_ge j l.toArray.size with h'|h'<;>simp_all
 refine wp_region_any hm (a4q (T:=fun j=>ks.contains j) _ _ _ _ ?_);have key:=X8 (md:= .any) (ops:=l.toArray) (P:=P) (Q:=Q) (T:=fun j=>ks.contains j) hsel hQ r (Array.replicate l.toArray.size false) a w.drew hok hcl h.out;rw [hlen] at key;simpa using key
theorem a7A {a:Act} {w:World} (h:Q .normal a w):WR P ops Q T [] a w:=⟨h⟩
theorem a00 {i:Nat} {r:List Stp} {o:Oper} {a:Act} {w:World} (ho:ops[i]? =some o) (hp:L8 o.op=false) (hw:Region.wanted o (yielded ops a.tmps)=true) (S:World->Prop) (hst:∀w w',Mod (fun _=>False) w w'->S w->S w') (hSw:S w) (v:Value)
 (hy:∀w,S w->(execOp a.eval o).run P w= .ok (.value v) w)
 (h:∀K:Act->Prop,(∀a',WR P ops Q T r a' w->K a')->K (a.put o.dst v)):WR P ops Q T (.rd i::r) a w:=
 ⟨fun o' ho'=>by
  obtain rfl:o=o':=Option.some.inj (ho.symm.trans ho')
  exact ⟨S,hst,fun _=>hSw,v,.inl ⟨hw,fun w0 h0=>hy w0 (h0 hp)⟩,h _ fun _ h=>h.out⟩⟩
theorem K7 {i:Nat} {r:List Stp} {o:Oper} {a:Act} {w:World} (ho:ops[i]? =some o) (hw:Region.wanted o (yielded ops a.tmps)=true) (v:Value)
 (hy:∀w,(execOp a.eval o).run P w= .ok (.value v) w)
 (h:∀K:Act->Prop,(∀a',WR P ops Q T r a' w->K a')->K (a.put o.dst v)):WR P ops Q T (.rd i::r) a w:=
 ⟨fun o' ho'=>by
  obtain rfl:o=o':=Option.some.inj (ho.symm.trans ho')
  exact ⟨fun _=>True,fun _ _ _ h=>h,fun _=>trivial,v,.inl ⟨hw,fun w0 _=>hy w0⟩,h _ fun _ h=>h.out⟩⟩
theorem a15 {i:Nat} {r:List Stp} {o:Oper} {a:Act} {w:World} (ho:ops[i]? =some o) (hw:Region.wanted o (yielded ops a.tmps)=false)
 (h:∀K:Act->Prop,(∀a',WR P ops Q T r a' w->K a')->K (a.put o.dst undef)):WR P ops Q T (.rd i::r) a w:=
 ⟨fun o' ho'=>by
  obtain rfl:o=o':=Option.some.inj (ho.symm.trans ho')
  exact ⟨fun _=>True,fun _ _ _ h=>h,fun _=>trivial,undef,.inr ⟨hw,rfl⟩,h _ fun _ h=>h.out⟩⟩
theorem U4 {i:Nat} {o:Oper} {K:Act->World->Prop} {a:Act} {w:World} (ho:ops[i]? =some o) (hw:Region.wanted o (yielded ops a.tmps)=true)
 (h:∀K':Act->World->Prop,(∀a' w',(T i=true->Mod (fun _=>False) w w')->K a' w'->K' a' w')->o.wp P a w K' Q):GR P ops Q T i K a w:=by
 constructor;unfold goR wpOp;simp only [ho];rw [if_pos hw];exact .inl (h _ fun _ _ h1 h2=>⟨h1,h2⟩)
theorem b1i {i:Nat} {o:Oper} {K:Act->World->Prop} {a:Act} {w:World} (ho:ops[i]? =some o) (hw:Region.wanted o (yielded ops a.tmps)=false)
 (h:∀K':Act->Prop,(∀a',K a' w->K' a')->K' (a.put o.dst undef)):GR P ops Q T i K a w:=by
 constructor;unfold goR wpOp;simp only [ho];rw [if_neg (by rw [hw];decide)];exact ⟨fun _=>Mod.refl _ _,h _ fun _ h=>h⟩
theorem X9 {i:Nat} {r:List Stp} {a:Act} {w:World} (h:GR P ops Q T i (fun a' w'=>WR P ops Q T r a' w') a w):WR P ops Q T (.go i::r) a w:=by
 constructor;show goR P ops Q T i (fun a' w'=>a1d P ops Q T r a' w') a w;exact b3G (fun _ _ h'=>h'.out) h.out
end
end
section
open Go.RowKit
def sgn (l m:Bool):Int:=if l then -1 else if m then 1 else 0
def V.cmp (a b:V):Int:=if a.kind=0 then sgn (decide (a.int<b.int)) (decide (b.int<a.int)) else if a.kind=1 then sgn (fLt a.num b.num) (fLt b.num a.num) else
 if a.kind=2 then Lib.compareBytes a.text.data.toList b.text.data.toList else sgn (!a.yes&&b.yes) (a.yes&& !b.yes)
def V.alike (a b:V):Bool:=a.kind==b.kind&&(!a.void&& !b.void)
def q7 (a b:V):Int×Bool:=if V.alike a b=true then (V.cmp a b,true) else (0,false)
theorem a01 (l m:Bool) (w:World):Calls Tryz.prog 160 #[.bool l,.bool m] w fun e w'=>e= .returned (.int .i64 (sgn l m))/\w'=w:=by
 cases l with
 |true=>
  go_enter Tryz.func160,Tryz.ntmps160
  go_wp2
  go_ret;exact ⟨rfl,rfl⟩
 | false=>
  cases m with
  |true=>
   go_enter Tryz.func160,Tryz.ntmps160
   go_wp2
   go_ret;exact ⟨rfl,rfl⟩
  |false=>
   go_enter Tryz.func160,Tryz.ntmps160
   go_wp2
   go_ret;exact ⟨rfl,rfl⟩
theorem a4r (a b:V) (w:World):Calls Tryz.prog 126 #[.agg a.cells.toArray,.agg b.cells.toArray] w fun e w'=>e= .returned (.tuple #[.int .i64 (q7 a b).1,.bool (q7 a b).2])/\Mod (fun _=>False) w w':=by
 obtain ⟨wa,aD,ah,ae,au⟩:=g8 w (.cells a.cells.toArray 85);obtain ⟨wb,hwb,ay,ak,aO⟩:=g8 wa (.cells b.cells.toArray 85);have hmb:=ah.trans ay zi;have hgA:=ay.heap ae id;have c0:wb.cell? ⟨w.heap.size,0,none⟩=some (.int .i64 a.kind):=d6 hgA rfl;have c1:wb.cell? ⟨w.heap.size,1,none⟩=some (.int .i64 a.int):=d6 hgA rfl;have c2:wb.cell? ⟨w.heap.size,2,none⟩=some (.float .f64 a.num):=d6 hgA rfl;have c3:wb.cell? ⟨w.heap.size,3,none⟩=some (.string a.text):=d6 hgA rfl;have c4:wb.cell? ⟨w.heap.size,4,none⟩=some (.bool a.yes):=d6 hgA rfl;have d0:wb.cell? ⟨wa.heap.size,0,none⟩=some (.int .i64 b.kind):=d6 ak rfl;have d1:wb.cell? ⟨wa.heap.size,1,none⟩=some (.int .i64 b.int):=d6 ak rfl;have d2:wb.cell? ⟨wa.heap.size,2,none⟩=some (.float .f64 b.num):=d6 ak rfl;have d3:wb.cell? ⟨wa.heap.size,3,none⟩=some (.string b.text):=d6 ak rfl;have d4:wb.cell? ⟨wa.heap.size,4,none⟩=some (.bool b.yes):=d6 ak rfl;have hlz:w.heap.size<wa.heap.size:=zo
 have hva:=Y5 a wb;obtain ⟨aF,bD,bW,dC,nD,aT⟩:=zh6 aD hwb hmb hva hgA ak;clear aD hwb hmb hva hgA ak ah ay ae au aO
 cases hk:a.kind==b.kind with
 |false=>
  have hkn:(a.kind !=b.kind)=true:=by simp [bne,hk]
  have E:=Lib.hid (show q7 a b=(0,false) by unfold q7 V.alike;rw [hk];rfl)
  go_enter Tryz.func126,Tryz.ntmps126
  go_wp2_with (first|(rw [show w.alloc _=wa from aF.out])|(rw [show wa.alloc _=wb from bD.out]))
  go_ret2
  exact ⟨by rw [E.out];rfl,bW.out⟩
 |true=>
 have hkn:(a.kind !=b.kind)=false:=by simp [bne,hk]
 cases hv:a.void with
 |true=>
  have E:=Lib.hid (show q7 a b=(0,false) by unfold q7 V.alike;rw [hk,hv];rfl);rw [hv] at dC;clear hv
  go_enter Tryz.func126,Tryz.ntmps126
  go_wp2_with (first|(rw [show w.alloc _=wa from aF.out])|(rw [show wa.alloc _=wb from bD.out]))
  refine dC.out.mono ?_;rintro e w2 ⟨rfl,hm2⟩;have bq:=Lib.hid (bW.out.trans hm2 zi);clear hm2
  go_wp2
  go_ret2
  exact ⟨by rw [E.out];rfl,bq.out⟩
 |false=>
 obtain ⟨YV,NJ⟩:=zh2 hk hv;rw [hv] at dC;clear hv hk
 go_enter Tryz.func126,Tryz.ntmps126
 go_wp2_with (first|(rw [show w.alloc _=wa from aF.out])|(rw [show wa.alloc _=wb from bD.out]))
 refine dC.out.mono ?_;rintro e w2 ⟨rfl,hm2⟩;have hA2:=hm2.heap nD.out id;have hB2:=hm2.heap aT.out id;have aG:=bW.out.trans hm2 zi;have d0:w2.cell? ⟨wa.heap.size,0,none⟩=some (.int .i64 b.kind):=d6 hB2 rfl;have d1:w2.cell? ⟨wa.heap.size,1,none⟩=some (.int .i64 b.int):=d6 hB2 rfl;have d2:w2.cell? ⟨wa.heap.size,2,none⟩=some (.float .f64 b.num):=d6 hB2 rfl;have d3:w2.cell? ⟨wa.heap.size,3,none⟩=some (.string b.text):=d6 hB2 rfl;have d4:w2.cell? ⟨wa.heap.size,4,none⟩=some (.bool b.yes):=d6 hB2 rfl;have hvb:=Y5 b w2;obtain ⟨HA2,HB2,aI,dX⟩:=zh4 hA2 hB2 aG hvb;clear hA2 hB2 aG hvb hm2 c0 c1 c2 c3 c4
 cases hv2:b.void with
 |true=>
  have E:=Lib.hid (show q7 a b=(0,false) by unfold q7 V.alike;rw [YV.out,NJ.out,hv2];rfl);rw [hv2] at dX;clear hv2
  go_wp2_with fail
  refine dX.out.mono ?_;rintro e w3 ⟨rfl,aC⟩;have bA:=Lib.hid (aI.out.trans aC zi);clear aC
  go_wp2
  go_ret2
  exact ⟨by rw [E.out];rfl,bA.out⟩
 |false=>
 have E:=Lib.hid (show q7 a b=(V.cmp a b,true) by unfold q7 V.alike;rw [YV.out,NJ.out,hv2];rfl);rw [hv2] at dX;clear hv2
 go_wp2_with fail
 refine dX.out.mono ?_;rintro e w3 ⟨rfl,aC⟩;have hA3:=aC.heap HA2.out id;have hB3:=aC.heap HB2.out id;have c0:w3.cell? ⟨w.heap.size,0,none⟩=some (.int .i64 a.kind):=d6 hA3 rfl;have c1:w3.cell? ⟨w.heap.size,1,none⟩=some (.int .i64 a.int):=d6 hA3 rfl;have c2:w3.cell? ⟨w.heap.size,2,none⟩=some (.float .f64 a.num):=d6 hA3 rfl;have c3:w3.cell? ⟨w.heap.size,3,none⟩=some (.string a.text):=d6 hA3 rfl;have c4:w3.cell? ⟨w.heap.size,4,none⟩=some (.bool a.yes):=d6 hA3 rfl;have d1:w3.cell? ⟨wa.heap.size,1,none⟩=some (.int .i64 b.int):=d6 hB3 rfl;have d2:w3.cell? ⟨wa.heap.size,2,none⟩=some (.float .f64 b.num):=d6 hB3 rfl;have d3:w3.cell? ⟨wa.heap.size,3,none⟩=some (.string b.text):=d6 hB3 rfl;have d4:w3.cell? ⟨wa.heap.size,4,none⟩=some (.bool b.yes):=d6 hB3 rfl;have aS:=aI.out.trans aC zi;obtain ⟨eH,HB3,aP⟩:=zh3 hA3 hB3 aS;clear hA3 hB3 aS aC dX dC HA2 HB2
 cases h0:a.kind==0 with
 |true=>
  have E2:=Lib.hid (show V.cmp a b=_ from if_pos (beq_iff_eq.1 h0))
  go_wp2_with fail
  refine (a01 _ _ w3).mono ?_;rintro e w4 ⟨rfl,rfl⟩
  go_wp2
  go_ret2
  exact ⟨by rw [E.out,E2.out];rfl,aP.out⟩
 |false=>
 have h0':¬a.kind=0:=by simpa using h0
 have E0:=Lib.hid (show V.cmp a b=_ from if_neg h0');clear h0'
 cases h1:a.kind==1 with
 |true=>
  have E2:=Lib.hid (E0.out.trans (if_pos (beq_iff_eq.1 h1)))
  go_wp2_with fail
  go_quiet ((first|(go_at_call 161;exact Calls.quiet_of_same (b3S _ _ _))|(go_at_call 160;exact Calls.quiet_of_same (a01 _ _ _))))
  go_wp2
  go_ret2
  exact ⟨by rw [E.out,E2.out];rfl,aP.out.drewN _⟩
 |false=>
 have h1':¬a.kind=1:=by simpa using h1
 have E1:=Lib.hid (E0.out.trans (if_neg h1'));clear h1'
 cases h2:a.kind==2 with
 |true=>
  have E2:=Lib.hid (E1.out.trans (if_pos (beq_iff_eq.1 h2)))
  go_wp2_with fail
  refine (a8t a.text b.text w3).mono ?_;rintro e w4 ⟨rfl,rfl⟩
  go_wp2
  go_ret2
  exact ⟨by rw [E.out,E2.out];rfl,aP.out⟩
 | false=>
  have h2':¬a.kind=2:=by simpa using h2
  have E2:=Lib.hid (E1.out.trans (if_neg h2'));clear h2'
  cases hya:a.yes with
  | true=>
   rw [hya] at E2 c4
   cases hyb:b.yes with
   |true=>
    rw [hyb] at E2 d4
    go_wp2_with fail
    refine (a01 _ _ w3).mono ?_;rintro e w4 ⟨rfl,rfl⟩
    go_wp2
    go_ret2
    exact ⟨by rw [E.out,E2.out];rfl,aP.out⟩
   |false=>
    rw [hyb] at E2 d4
    go_wp2_with fail
    refine (a01 _ _ w3).mono ?_;rintro e w4 ⟨rfl,rfl⟩
    go_wp2
    go_ret2
    exact ⟨by rw [E.out,E2.out];rfl,aP.out⟩
  | false=>
   rw [hya] at E2 c4
   cases hyb:b.yes with
   |true=>
    rw [hyb] at E2 d4
    go_wp2_with fail
    refine (a01 _ _ w3).mono ?_;rintro e w4 ⟨rfl,rfl⟩
    go_wp2
    go_ret2
    exact ⟨by rw [E.out,E2.out];rfl,aP.out⟩
   |false=>
    rw [hyb] at E2 d4
    go_wp2_with fail
    refine (a01 _ _ w3).mono ?_;rintro e w4 ⟨rfl,rfl⟩
    go_wp2
    go_ret2
    exact ⟨by rw [E.out,E2.out];rfl,aP.out⟩
def Cnd.holds (c:Cnd) (v:V):Bool:=
 if c.op=7 then true else if c.op=6 then (q7 v c.v).2&&(v.kind==2&&C4 v.text c.v.text) else if c.op=0 then (q7 v c.v).2&&(q7 v c.v).1==0 else
 if c.op=1 then (q7 v c.v).2&&(q7 v c.v).1 !=0 else if c.op=2 then (q7 v c.v).2&&decide ((q7 v c.v).1<0) else if c.op=3 then (q7 v c.v).2&&decide ((q7 v c.v).1<=0) else
 if c.op=4 then (q7 v c.v).2&&decide (0<(q7 v c.v).1) else if c.op=5 then (q7 v c.v).2&&decide (0<=(q7 v c.v).1) else false
theorem j1 {a b:Bool} (h:b=a):Ending.returned (.bool a)= .returned (.bool b):=by rw [h]
theorem a4s (c:Cnd) (v:V) (hc:c.v.text.size<=9223372036854775807) (hv:v.text.size<=9223372036854775807) (w:World):
 Calls Tryz.prog 99 #[.agg c.cells.toArray,.agg v.cells.toArray] w fun e w'=>e= .returned (.bool (c.holds v))/\Mod (fun _=>False) w w':=by
 obtain ⟨wa,aD,ah,ae,au⟩:=g8 w (.cells c.cells.toArray 87);obtain ⟨wb,hwb,ay,ak,aO⟩:=g8 wa (.cells v.cells.toArray 85);have hmb:=ah.trans ay zi;have hgA:=ay.heap ae id;have hcm:=a4r v c.v wb;obtain ⟨R,hR⟩:∃R,c.holds v=R:=⟨_,rfl⟩;rw [hR];unfold Cnd.holds at hR;obtain ⟨⟨n,ok⟩,hn⟩:∃p,q7 v c.v=p:=⟨_,rfl⟩;rw [hn] at hcm hR;simp only at hcm hR;have gK:=fun wx=>a0Z v.text c.v.text hv hc wx;have hlz:w.heap.size<wa.heap.size:=zo
 obtain ⟨aF,bD,bW,nD,aT,jY,HR,Hn,uP⟩:=zh9 aD hwb hmb hgA ak hcm hR hn gK;clear aD hwb hmb hgA ak hcm hR hn gK ah ay ae au aO hc hv
 go_enter Tryz.func99,Tryz.ntmps99
 go_wp2_with (first|(rw [show w.alloc _=wa from aF.out])|(rw [show wa.alloc _=wb from bD.out])|((with_reducible refine d8 85 (.tmp 3) ?_);refine ⟨wa.heap.size,0,rfl,v.cells,e9.row aT.out,zk,zk, ?_⟩)|((with_reducible refine d8 85 (.tmp 9) ?_);refine ⟨w.heap.size,2,rfl,c.v.cells,a0z nD.out,zk,zk, ?_⟩))
 refine jY.out.mono ?_;rintro e w2 ⟨rfl,hm2⟩;have hA2:=hm2.heap nD.out id;have hB2:=hm2.heap aT.out id;have aG:=bW.out.trans hm2 zi;have c1:w2.cell? ⟨w.heap.size,1,none⟩=some (.int .i64 c.op):=d6 hA2 rfl;have c5:w2.cell? ⟨w.heap.size,5,none⟩=some (.string c.v.text):=d6 hA2 rfl;have d0:w2.cell? ⟨wa.heap.size,0,none⟩=some (.int .i64 v.kind):=d6 hB2 rfl;have d3:w2.cell? ⟨wa.heap.size,3,none⟩=some (.string v.text):=d6 hB2 rfl;have qI:=uP.out w2;obtain ⟨aI,Ba⟩:=zh2 aG qI;clear aG qI hm2 hA2 hB2 jY nD aT uP aF bD bW
 cases ok with
 |false=>
  go_wp2
  all_goals (go_ret;refine ⟨j1 (HR.out.symm.trans (by (try simp only [beq_iff_eq,beq_eq_false_iff_ne,ne_eq] at*);simp [*])),aI.out⟩)
 | true=>
  cases hvk:v.kind==2 with
  |false=>
   go_wp2
   all_goals (go_ret;refine ⟨j1 (HR.out.symm.trans (by (try simp only [beq_iff_eq,beq_eq_false_iff_ne,ne_eq] at*);simp [*])),aI.out⟩)
  |true=>
   go_wp2_with (refine Ba.out.mono ?_;rintro e w3 ⟨rfl,rfl⟩)
   all_goals (go_ret;refine ⟨j1 (HR.out.symm.trans (by (try simp only [beq_iff_eq,beq_eq_false_iff_ne,ne_eq] at*);simp [*])),aI.out⟩)
theorem Q9 {P:Program} (w:World) (dT sT ty elem:TypeId) (sz g o dLen dCap:Nat) (a:Addr) (sLen sCap:Nat) (cs:List Value) (cur:Array Value) (t:TypeId)
 (hg:w.heap[g]? =some (.cells cur t (0,0))) (hu:P.underlying dT=some (.slice elem)) (hs:(P.info? elem).map (·.size)=some sz) (hn:cs.length=Nat.min sLen dLen*sz)
 (hsrc:∀j v,cs[j]? =some v->w.cell? (a.add j)=some v) (hl:o+cs.length<=cur.size) (h1:∀v∈cs,v.oneCell'=true):
 (Builtin.copy_ #[dT,sT] ty #[.slice (some ⟨g,o,none⟩) dLen dCap,.slice (some a) sLen sCap]).run P w= .ok (goInt (Nat.min sLen dLen)) (w.setRow g (cur.toList.take o++cs++cur.toList.drop (o+cs.length)).toArray):=by
 have hld:=run_loadCells_list (P:=P) w a cs hsrc;have hst:=run_storeCells_at P g o t cs 0 cur w hg (by simpa using hl) h1;simp only [Nat.add_zero] at hst
 cases hq:P.info? elem with
 |none=>simp [hq] at hs
 |some i=>
  have hi:i.size=sz:=by simpa [hq] using hs
  simp [Builtin.copy_,run_underlying hu,Builtin.lenOf,Builtin.firstCells,sizeOf,typeInfo,hq,hi,<-hn,hld,hst]
section
variable {P:Program} {w:World} {ops:Array Oper} {rest:List Oper} {a:Act} {Q:Exit->Act->World->Prop} {d:Option Tmp} {tp:TypeId} {pos:String} {af:Array Edge}
theorem a0G {o:Oper} {K:Act->World->Prop} (d s:Operand) (t t':TypeId) (ho:o.op= .call {callee:= .builtin .copy,args:=#[d,s],argTypes:=#[t,t']})
 {v':Value} {w':World} (hr:(Builtin.copy_ #[t,t'] o.type #[a.eval d,a.eval s]).run P w= .ok v' w') (h:K (a.put o.dst v') w'):o.wp P a w K Q:=by
 unfold Oper.wp execOp;simp only [ho,resolve,invoke,builtin,Sem.run_bind,Sem.run_pure,Result.andThen_ok,List.map_toArray,List.map_cons,List.map_nil,hr];exact h
theorem a0k {at1:Array TypeId} (x s:Operand)
 (h:∃(t t':TypeId),at1=#[t,t']/\∃(v':Value) (w':World),(Builtin.copy_ #[t,t'] tp #[a.eval x,a.eval s]).run P w= .ok v' w'/\wpList P ops Q rest (a.put d v') w'):
 wpList P ops Q (⟨d,.call {callee:= .builtin .copy,args:=#[x,s],argTypes:=at1},tp,pos,af,none⟩::rest) a w:=by
 obtain ⟨t,t',rfl,v',w',hr,h⟩:=h;exact wpList_plain rfl fun _ hK=>a0G x s t t' rfl hr (hK _ _ h)
theorem a16 {at1:Array TypeId} (x s:Operand)
 (h:∃(t t':TypeId),at1=#[t,t']/\∃(v':Value) (w':World),(Builtin.append_ #[t,t'] tp #[a.eval x,a.eval s]).run P w= .ok v' w'/\wpList P ops Q rest (a.put d v') w'):
 wpList P ops Q (⟨d,.call {callee:= .builtin .append,args:=#[x,s],argTypes:=at1},tp,pos,af,none⟩::rest) a w:=by
 obtain ⟨t,t',rfl,v',w',hr,h⟩:=h;refine wpList_plain rfl fun K hK=> ?_;unfold Oper.wp execOp;simp only [resolve,invoke,builtin,Sem.run_bind,Sem.run_pure,Result.andThen_ok,List.map_toArray,List.map_cons,List.map_nil,hr];exact hK _ _ h
end
theorem a4t {P:Program} {w:World} (ty:TypeId) (g off:Nat) (cur:Array Value) (t:TypeId) (cs:List Value) (hg:w.heap[g]? =some (.cells cur t (0,0))) (hl:off+cs.length<=cur.size)
 (hi:(P.info? ty).map (·.size)=some cs.length) (h1:∀u∈cs,u.oneCell'=true):
 (storeVar ty ⟨g,off,none⟩ (.agg cs.toArray)).run P w= .ok () (w.setRow g (cur.toList.take off++cs++cur.toList.drop (off+cs.length)).toArray):=by
 have hst:=run_storeCells_at P g off t cs 0 cur w hg zo h1
 cases hq:P.info? ty with
 |none=>simp [hq] at hi
 |some i=>
  have hs:i.size=cs.length:=by simpa [hq] using hi
  simp only [Nat.add_zero] at hst;simp [storeVar,Value.cells,sizeOf,typeInfo,hq,hs,hst]
theorem s5 {P:Program} {w:World} {ops:Array Oper} {rest:List Oper} {a:Act} {Q:Exit->Act->World->Prop} {d:Option Tmp} {tp:TypeId} {pos:String} {af:Array Edge} (ty:TypeId) (x y:Operand)
 (h:∃g off,a.eval x= .pointer (some ⟨g,off,none⟩)/\∃(cur:Array Value) (t:TypeId),w.heap[g]? =some (.cells cur t (0,0))/\∃cs:List Value,a.eval y= .agg cs.toArray/\off+cs.length<=cur.size/\(P.info? ty).map (·.size)=some cs.length/\cs.all (·.oneCell')=true/\
   ∀w',w'=w.setRow g (cur.toList.take off++cs++cur.toList.drop (off+cs.length)).toArray->Mod (fun k=>k=g) w w'->wpList P ops Q rest (a.put d undef) w'):wpList P ops Q (⟨d,.store ty x y,tp,pos,af,none⟩::rest) a w:=by
 obtain ⟨g,off,hx,cur,t,hg,cs,hy,hl,hi,h1,h⟩:=h;refine wpList_plain rfl fun K hK=> ?_;have hr:=a4t (P:=P) (w:=w) ty g off cur t cs hg hl hi (a9z h1);unfold Oper.wp execOp;simp only [hx,hy,Instr.storeAt,Instr.sureAddr,Sem.run_bind,Sem.run_pure,Result.andThen_ok,hr];exact hK _ _ (h _ rfl ((Mod.refl (fun k=>k=g) w).setRow (fun _=>rfl) _))
theorem a2D {P:Program} (w:World) (t u ty e:TypeId) (i:TypeInfo) (z:Value) (ht:P.underlying t=some (.slice e)) (hu:P.underlying u=some (.int .i64)) (hi:P.info? e=some i) (hz:i.zero=some z)
 (sz:Nat) (hsize:i.size=sz) (hzs:z.cells.size=sz)
 (g off n cap:Nat) (xs:List Value) (hx:j3 w sz (.slice (some ⟨g,off,none⟩) n cap) n xs) (m:Nat) (hm:m<=1000000) (hno:cap<n+m) (hbytes:(n+m)*i.bytes<=140737488355328) (hmax:n+m<=maxLen):
 ∃c,n+m<=c/\c<=maxLen/\(Builtin.append_ #[t,u] ty #[.slice (some ⟨g,off,none⟩) n cap,.int .i64 (m:Int)]).run P w=
  .ok (.slice (some ⟨w.heap.size,0,none⟩) (n+m) c) (w.drew.alloc (.cells (xs.toArray++(Builtin.zeroCells z.cells m++Builtin.zeroCells z.cells (c - (n+m)))) e)):=by
 have hai:∀w:World,(asInt (Value.int .i64 (m:Int))).run P w= .ok (m:Int) w:=fun _=>rfl;have hm0:¬((m:Int)<0):=zo
 have b8D:¬(281474976710656<(m:Int)):=zo
 have hwr:IntKind.i64.wrap (m:Int)=m:=by rw [IntKind.wrap_i64];omega
 have hge:=grownCap_ge w (n+m) cap e;have hcm:grownCap w (n+m) cap e<=maxLen:=grownCap_le_maxLen w (n+m) cap e hmax;refine ⟨grownCap w (n+m) cap e,hge,hcm, ?_⟩;obtain ⟨hxl,a2,c2,hv2,hnc,_,hcc⟩:=hx;cases hv2
 have hcc:∀j u,xs[j]? =some u->w.cell? ⟨g,off+j,none⟩=some u:=fun j u hu=>by
  have hn0:0<n:=by
   rcases Nat.eq_zero_or_pos n with h|h
   ·have h1:=(zz6 hu).1;rw [hxl,h,Nat.zero_mul] at h1;omega
   exact h
  obtain ⟨g2,off2,he,h⟩:=hcc _ rfl hn0;cases he
  exact h j u hu
 have hfo:=run_firstCells_some (P:=P) w.drew sz n ⟨g,off,none⟩ n cap xs hxl (fun j u hu=>by rw [A7];exact hcc j u hu);have hn:¬(n+m<=cap):=zo
 have h0:m≠0:=zo
 have h63':¬(9223372036854775807<((n:Int)+(m:Int))):=by simp only [maxLen] at hmax;omega
 have h48':¬(281474976710656<Builtin.nextslicecap (n+m) cap*i.bytes):=by have:=growslice_fits (bytes:=i.bytes) hno hbytes;omega
 have Vw:¬(281474976710656<(m:Int)*(i.bytes:Int)):=by
  have h1:m*i.bytes<=(n+m)*i.bytes:=Nat.mul_le_mul_right _ zo;have h2:((m*i.bytes:Nat):Int)=(m:Int)*(i.bytes:Int):=by rw [Int.natCast_mul]
  omega
 simp [Builtin.append_,run_underlying ht,run_underlying hu,sizeOf,typeInfo,zeroValue,hi,hz,hsize,hai,hwr,hm0,Vw,hn,h63',h48',Question.forced,hfo,newRow,grownCap,Array.append_assoc];intro h;have hz0:Builtin.zeroCells z.cells m=#[]:=Array.eq_empty_of_size_eq_zero (by rw [size_zeroCells,hzs];exact h);rw [hz0,Array.empty_append]
theorem b3H {α:Type} {L A X B C:List α} {off n:Nat} (hoff:off<=L.length) (h:(L.drop off).take n=A++(X++B)) (hC:C.length=X.length) (hn:n=A.length+(X.length+B.length)):
 ((L.take (off+A.length)++C++L.drop (off+A.length+C.length)).drop off).take n=A++(C++B):=by
 obtain ⟨R,hR⟩:∃R,L=L.take off++((A++(X++B))++R):=⟨(L.drop off).drop n,by rw [<-h,List.take_append_drop,List.take_append_drop]⟩;have hP:(L.take off).length=off:=by rw [List.length_take];omega
 generalize L.take off=Q at hR hP
 have e1:L.take (off+A.length)=Q++A:=by
  rw [hR,show Q++(A++(X++B)++R)=(Q++A)++(X++(B++R)) by simp,show off+A.length=(Q++A).length by rw [zz4,hP],List.take_left]
 have e2:L.drop (off+A.length+C.length)=B++R:=by
  rw [hR,show Q++(A++(X++B)++R)=((Q++A)++X)++(B++R) by simp,show off+A.length+C.length=((Q++A)++X).length by rw [zz4,zz4,hP,hC],List.drop_left]
 rw [e1,e2,show Q++A++C++(B++R)=Q++((A++(C++B))++R) by simp]
 conv=>lhs;arg 2;arg 1;rw [<-hP]
 rw [List.drop_left,show n=(A++(C++B)).length by rw [zz4,zz4,hC];exact hn,List.take_left]
theorem a9c {α:Type} {L A B X:List α} {off:Nat} (hoff:off+A.length+B.length+X.length<=L.length) (h:(L.drop off).take (A.length+B.length)=A++B):
 let L1:=L.take (off+A.length+X.length)++B++L.drop (off+A.length+X.length+B.length)
 let L2:=L1.take (off+A.length)++X++L1.drop (off+A.length+X.length)
 (L2.drop off).take (A.length+X.length+B.length)=A++(X++B)/\L2.length=L.length:=by
 intro L1 L2;obtain ⟨R,hR⟩:∃R,L=L.take off++((A++B)++R):=⟨(L.drop off).drop (A.length+B.length),by rw [<-h,List.take_append_drop,List.take_append_drop]⟩;have hP:(L.take off).length=off:=by rw [List.length_take];omega
 generalize L.take off=Q at hR hP
 have hlen:L.length=off+A.length+B.length+R.length:=by rw [hR];simp;omega
 obtain ⟨Y,hY⟩:∃Y,Y=(B++R).take X.length:=⟨_,rfl⟩;have hYl:Y.length=X.length:=by rw [hY,List.length_take,zz4];omega
 have e1:L.take (off+A.length+X.length)=Q++(A++Y):=by
  rw [hR,show Q++(A++B++R)=(Q++A)++(B++R) by simp only [zz12],show off+A.length+X.length=(Q++A).length+X.length by rw [zz4,hP],List.take_length_add_append,<-hY];simp
 obtain ⟨Z,hZ⟩:∃Z,L.drop (off+A.length+X.length+B.length)=Z:=⟨_,rfl⟩;have h1:L1=Q++(A++(Y++(B++Z))):=by simp only [L1,e1,hZ];simp
 have e2:L1.take (off+A.length)=Q++A:=by
  rw [h1,show Q++(A++(Y++(B++Z)))=(Q++A)++(Y++(B++Z)) by simp,show off+A.length=(Q++A).length by rw [zz4,hP],List.take_left]
 have e3:L1.drop (off+A.length+X.length)=B++Z:=by
  rw [h1,show Q++(A++(Y++(B++Z)))=(Q++(A++Y))++(B++Z) by simp,show off+A.length+X.length=(Q++(A++Y)).length by rw [zz4,zz4,hP,hYl];omega,List.drop_left]
 have h2:L2=Q++((A++(X++B))++Z):=by simp only [L2,e2,e3];simp
 refine ⟨?_, ?_⟩
 ·rw [h2,show A.length+X.length+B.length=(A++(X++B)).length by rw [zz4,zz4];omega]
  conv=>lhs;arg 2;arg 1;rw [<-hP]
  rw [List.drop_left,List.take_left]
 have hZl:Z.length=L.length - (off+A.length+X.length+B.length):=by rw [<-hZ,List.length_drop]
 rw [h2];simp only [zz4,hZl,hP];omega
end
open Go.RowKit
def Cnd.voidB (c:Cnd):Bool:=(c.op !=7&&c.v.void)||(c.op==6&&c.v.kind !=2)
theorem a2E (c:Cnd) (w:World):Calls Tryz.prog 125 #[.agg c.cells.toArray] w fun e w'=>e= .returned (.bool c.voidB)/\Mod (fun _=>False) w w':=by
 obtain ⟨wa,aD,ah,ae,au⟩:=g8 w (.cells c.cells.toArray 87);have c1:wa.cell? ⟨w.heap.size,1,none⟩=some (.int .i64 c.op):=d6 ae rfl;have c2:wa.cell? ⟨w.heap.size,2,none⟩=some (.int .i64 c.v.kind):=d6 ae rfl;have c3:wa.cell? ⟨w.heap.size,3,none⟩=some (.int .i64 c.v.int):=d6 ae rfl;have c4:wa.cell? ⟨w.heap.size,4,none⟩=some (.float .f64 c.v.num):=d6 ae rfl;have c5:wa.cell? ⟨w.heap.size,5,none⟩=some (.string c.v.text):=d6 ae rfl;have c6:wa.cell? ⟨w.heap.size,6,none⟩=some (.bool c.v.yes):=d6 ae rfl;have hvv:=Y5 c.v wa;obtain ⟨R,hR⟩:∃R,c.voidB=R:=⟨_,rfl⟩;rw [hR];unfold Cnd.voidB at hR;obtain ⟨vd,hvd⟩:∃b,c.v.void=b:=⟨_,rfl⟩;rw [hvd] at hvv hR;obtain ⟨aF,aB,aH,uQ,HR⟩:=zh5 aD ah ae hvv hR;clear aD ah ae hvv hR hvd au
 cases h7:c.op==7 with
 |true=>
  have Ph:(c.op !=7)=false:=by simp [bne,h7]
  have h6:(c.op==6)=false:=by rw [beq_iff_eq] at h7;rw [h7];rfl
  go_enter Tryz.func125,Tryz.ntmps125
  go_wp2_with (rw [show w.alloc _=wa from aF.out])
  go_ret;exact ⟨j1 (HR.out.symm.trans (by simp [*])),aB.out⟩
 | false=>
  have Ph:(c.op !=7)=true:=by simp [bne,h7]
  go_enter Tryz.func125,Tryz.ntmps125
  go_wp2_with (rw [show w.alloc _=wa from aF.out])
  refine uQ.out.mono ?_;rintro e w2 ⟨rfl,hm2⟩;have hg2:=hm2.heap aH.out id;have d1:w2.cell? ⟨w.heap.size,1,none⟩=some (.int .i64 c.op):=d6 hg2 rfl;have d2:w2.cell? ⟨w.heap.size,2,none⟩=some (.int .i64 c.v.kind):=d6 hg2 rfl;have bq:=Lib.hid (aB.out.trans hm2 zi);clear hm2 hg2 c1 c2 c3 c4 c5 c6
  cases vd with
  |true=>
   go_wp2
   go_ret;exact ⟨j1 (HR.out.symm.trans (by simp [*])),bq.out⟩
  | false=>
   cases h6:c.op==6 with
   |true=>
    go_wp2
    go_ret;exact ⟨j1 (HR.out.symm.trans (by simp [*])),bq.out⟩
   |false=>
    go_wp2
    go_ret;exact ⟨j1 (HR.out.symm.trans (by simp [*])),bq.out⟩
theorem b1j (F:FuncId) (cap:Array Value) (hF:∀args w,(callFunc F args).run Tryz.prog w= .ok (.enter F args) w) (p:Cnd->Bool) (w:World) (v:Value) (l:List Cnd) (hv:j3 w 7 v l.length (m5 l)) (hll:l.length<=9223372036854775807)
 (hp:∀c∈l,∀wx,Mod (fun _=>False) w wx->Calls Tryz.prog F (#[.agg c.cells.toArray]++cap) wx fun e w'=>e= .returned (.bool (p c))/\Mod (fun _=>False) wx w'):
 Calls Tryz.prog 151 #[v,.func (.func F) #[] cap] w fun e w'=>∃n:Int,e= .returned (.int .i64 n)/\(decide (0<=n)=l.any p)/\Mod (fun _=>False) w w':=by
 obtain ⟨a,ca,rfl,hcap⟩:∃a c,v= .slice a l.length c/\l.length<=c:=by obtain ⟨-,a,c,h,h2, -⟩:=hv;exact ⟨a,c,h,h2⟩
 have bN:(l.length:Int)<=9223372036854775807:=zo
 have bf:(l.length:Int)<=ca:=zo
 obtain ⟨R,hR⟩:∃R,l.any p=R:=⟨_,rfl⟩;rw [hR];obtain ⟨Hv,Hp,HR,HF⟩:=zh4 hv hp hR hF;clear hv hp hR hF hll
 go_enter Tryz.func151,Tryz.ntmps151
 go_wp2_with fail
 go_loopw [8] (fun i wr=>∃j:Nat,i= .int .i64 j/\j<=l.length/\Mod (fun _=>False) w wr/\(∀(k:Nat) (x:Cnd),k<j->l[k]? =some x->p x=false)) (fun i _=>l.length - (intOf i).toNat)
 case atStart=>exact ⟨0,rfl,Nat.zero_le _,Mod.refl _ _,fun k x hk=>zo⟩
 case round=>
  obtain ⟨j,rfl,hj,hmr,hall⟩:=hrel;by_cases hlt:j<l.length
  ·have hlt':(j:Int)<l.length:=zo
   obtain ⟨x,hxj⟩:∃x,l[j]? =some x:=⟨_,zz5 hlt⟩;have hxm:=zz8 hxj;obtain ⟨g,off,rfl,hf⟩:∃g off,a=some ⟨g,off,none⟩/\e9 wr g (off+j*7) x.cells:=G9 (Hv.out.mod hmr zi) hxj;have hpx:=Hp.out x hxm wr hmr;obtain ⟨aK,aM,cB,fH,Hf,GA⟩:=zh6 hmr hall hxj hxm hf hpx;clear hmr hall hxj hxm hf hpx;have hF2:=HF.out
   go_wp2_with ((with_reducible refine d8 87 (.tmp 14) ?_);refine ⟨g,off+j*7,rfl,x.cells,Hf.out,zk,zk, ?_⟩)
   refine GA.out.mono ?_;rintro e w3 ⟨rfl,aC⟩;have bA:=Lib.hid (aK.out.trans aC zi);clear aC hF2
   cases hs:p x with
   | false=>
    have Hs:=zh hs;clear hs
    go_wp2_with fail
    go_roundw
    case rel=>
     refine ⟨j+1,by go_num,hlt,bA.out,fun k x' hk hx'=> ?_⟩;rcases Nat.lt_succ_iff_lt_or_eq.1 hk with hk|rfl
     ·exact aM.out k x' hk hx'
     rw [cB.out] at hx';cases hx';exact Hs.out
    case measure=>simp [intOf];omega
   |true=>
    have Hs:=zh hs;clear hs
    go_wp2
    go_ret;refine ⟨(j:Int),rfl, ?_,bA.out⟩;rw [<-HR.out,List.any_eq_true.2 ⟨x,fH.out,Hs.out⟩];exact decide_eq_true zo
  obtain rfl:j=l.length:=zo
  obtain ⟨aK,aM⟩:=zh2 hmr hall;clear hmr hall
  go_wp2
  go_ret;refine ⟨-1,rfl, ?_,aK.out⟩
  rw [<-HR.out,List.any_eq_false.2 fun x hx=>by
   obtain ⟨k,hk⟩:=List.mem_iff_getElem?.1 hx;rw [aM.out k x (zz6 hk).1 hk]
   decide]
  rfl
theorem a2X (F:FuncId) (cap:Array Value) (hF:∀args w,(callFunc F args).run Tryz.prog w= .ok (.enter F args) w) (p:Cnd->Bool) (w:World) (v:Value) (l:List Cnd) (hv:j3 w 7 v l.length (m5 l)) (hll:l.length<=9223372036854775807)
 (hp:∀c∈l,∀wx,Mod (fun _=>False) w wx->Calls Tryz.prog F (#[.agg c.cells.toArray]++cap) wx fun e w'=>e= .returned (.bool (p c))/\Mod (fun _=>False) wx w'):
 Calls Tryz.prog 108 #[v,.func (.func F) #[] cap] w fun e w'=>e= .returned (.bool (l.any p))/\Mod (fun _=>False) w w':=by
 have Hi:=Lib.hid (b1j F cap hF p w v l hv hll hp);obtain ⟨R,hR⟩:∃R,l.any p=R:=⟨_,rfl⟩;rw [hR] at Hi⊢;clear hF hv hp hR
 go_enter Tryz.func108,Tryz.ntmps108
 go_wp2_with fail
 refine Hi.out.mono ?_;rintro e w3 ⟨n,rfl,hn,aC⟩;obtain ⟨Hn,bA⟩:=zh2 hn aC;clear hn aC
 go_wp2
 go_ret;exact ⟨j1 Hn.out.symm,bA.out⟩
theorem b3I:∀(args:Array Value) (W:World),Sem.run Tryz.prog (callFunc 125 args) W= .ok (.enter 125 args) W:=fun args w=>by simp [go_sem]
theorem a7B (w:World) (sc:ByteArray) (cv:Value) (l:List Cnd) (hv:j3 w 7 cv l.length (m5 l)) (hll:l.length<=9223372036854775807):
 Calls Tryz.prog 107 #[.agg #[.string sc,cv]] w fun e w'=>e= .returned (.bool (l.any Cnd.voidB))/\Mod (fun _=>False) w w':=by
 obtain ⟨a,cap,rfl⟩:∃a c,cv= .slice a l.length c:=by obtain ⟨-,a,c,h, -⟩:=hv;exact ⟨a,c,h⟩
 obtain ⟨wa,aD,ah,ae,au⟩:=g8 w (.cells #[.string sc,.slice a l.length cap] 26);have c1:wa.cell? ⟨w.heap.size,1,none⟩=some (.slice a l.length cap):=d6 ae rfl;have hct:=a2X 125 #[] b3I Cnd.voidB wa _ l (hv.mod ah zi) hll (fun c _ wx _=>a2E c wx);obtain ⟨aF,aB,uM⟩:=zh3 aD ah hct;clear aD ah hct ae au hv
 go_enter Tryz.func107,Tryz.ntmps107
 go_wp2_with (rw [show w.alloc _=wa from aF.out])
 refine uM.out.mono ?_;rintro e w3 ⟨rfl,aC⟩;have bA:=Lib.hid (aB.out.trans aC zi);clear aC
 go_wp2
 go_ret;exact ⟨rfl,bA.out⟩
end Go.Proofs.YtebhabpahfmodaaGreatDoor
