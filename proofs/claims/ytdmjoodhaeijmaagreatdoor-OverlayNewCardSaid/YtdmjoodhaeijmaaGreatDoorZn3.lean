/- Lemmas. -/
import Derived.Test.YtdmjoodhaeijmaaGreatDoorZn2
import Derived.Laws.Cover1
import Derived.Lib.Bytealg
set_option maxHeartbeats 40000000
set_option maxRecDepth 20000
namespace Go.Proofs.YtdmjoodhaeijmaaGreatDoor
section
open Go.RowKit
structure Att where
 name:ByteArray
 v:V
def Att.cells (a:Att):List Value:= .string a.name::a.v.cells
theorem Att.cells_length (a:Att):a.cells.length=6:=rfl
def I4 (l:List Att):List Value:=l.flatMap Att.cells
theorem a5z (l:List Att) {k j:Nat} {a:Att} {u:Value} (h:l[k]? =some a) (hj:a.cells[j]? =some u):(I4 l)[6*k+j]? =some u:=by
 induction l generalizing k with
 |nil=>simp at h
 | cons b l ih=>
  unfold I4 at ih⊢;rw [List.flatMap_cons]
  cases k with
  |zero=>
   simp only [List.getElem?_cons_zero,Option.some.injEq] at h;subst h;have:=(zz6 hj).1;rw [List.getElem?_append_left zo,Nat.mul_zero,Nat.zero_add,hj]
  |succ k=>
   rw [List.getElem?_cons_succ] at h;rw [List.getElem?_append_right (by rw [Att.cells_length];omega),Att.cells_length,show 6*(k+1)+j - 6=6*k+j by omega];exact ih h
section
variable {P:Program} {a:Act} {w:World} {C:World->Prop}
structure QW (P:Program) (ops:Array Oper) (C:World->Prop) (Q:Act->Prop) (l:List Oper) (a:Act):Prop where
 out:wpQuiet P ops C Q l a
theorem g9 {id:Nat} {Q:Exit->Act->World->Prop} {l:List Oper} (hm:P.follows .mixedOrders=true) (hB:Region.lexB .any l.toArray=true)
 (h:QW P l.toArray (fun w'=>Mod (fun _=>False) w w') (fun a'=>∀w',Mod (fun _=>False) w w'->Q .normal a' w') l a):(Code.region id l.toArray true).wp P Q a w:=
 wp_region_quiet (C:=fun w'=>Mod (fun _=>False) w w') hm hB ((Mod.refl _ w).drew) (by simpa using h.out)
theorem a9W {o:Oper} {K:Act->Prop} (u:Value) (h:∀w,C w->(execOp a.eval o).run P w= .ok (.value u) w) (hk:K (a.put o.dst u)):o.quiet P a C K:=
 ⟨u,fun w hw=>by unfold Oper.quietAt;rw [h w hw];exact ⟨rfl,rfl⟩,hk⟩
theorem a7V {o:Oper} {K:Act->Prop} {f:FuncId} {args:Array Value} (u:Value) (h:∀w,C w->(execOp a.eval o).run P w= .ok (.enter f args) w) (hc:∀w,C w->Calls P f args w fun e w''=>e= .returned u/\C w'')
 (hk:K (a.put o.dst u)):o.quiet P a C K:=
 ⟨u,fun w hw=>by unfold Oper.quietAt;rw [h w hw];exact ⟨rfl,hc w hw⟩,hk⟩
theorem a4F {ops:Array Oper} {rest:List Oper} {o:Oper} {Q:Act->Prop} (hg:Region.wanted o (yielded ops a.tmps)=true) (h:o.quiet P a C (wpQuiet P ops C Q rest)):QW P ops C Q (o::rest) a:=by
 constructor;unfold wpQuiet;rw [if_pos hg];exact h
theorem b1T {ops:Array Oper} {rest:List Oper} {o:Oper} {Q:Act->Prop} (hg:Region.wanted o (yielded ops a.tmps)=false) (h:wpQuiet P ops C Q rest (a.put o.dst undef)):QW P ops C Q (o::rest) a:=by
 constructor;unfold wpQuiet;rw [if_neg (by rw [hg];decide)];exact h
theorem j1 {ops:Array Oper} {rest:List Oper} {o:Oper} {Q:Act->Prop} (hg:Region.wanted o (yielded ops a.tmps)=false) (h:∀K:Act->Prop,(∀a,QW P ops C Q rest a->K a)->K (a.put o.dst undef)):QW P ops C Q (o::rest) a:=
 b1T hg (h _ fun _ h=>h.out)
theorem l9 {ops:Array Oper} {rest:List Oper} {o:Oper} {Q:Act->Prop} (hg:Region.wanted o (yielded ops a.tmps)=true) (u:Value) (hr:∀w,C w->(execOp a.eval o).run P w= .ok (.value u) w)
 (h:∀K:Act->Prop,(∀a,QW P ops C Q rest a->K a)->K (a.put o.dst u)):QW P ops C Q (o::rest) a:=
 a4F hg (a9W u hr (h _ fun _ h=>h.out))
theorem q7 {ops:Array Oper} {rest:List Oper} {o:Oper} {Q:Act->Prop} (hg:Region.wanted o (yielded ops a.tmps)=true) (f:FuncId) (args:Array Value) (u:Value) (hr:∀w,C w->(execOp a.eval o).run P w= .ok (.enter f args) w)
 (hc:∀w,C w->Calls P f args w fun e w''=>e= .returned u/\C w'') (h:∀K:Act->Prop,(∀a,QW P ops C Q rest a->K a)->K (a.put o.dst u)):QW P ops C Q (o::rest) a:=
 a4F hg (a7V u hr hc (h _ fun _ h=>h.out))
theorem j8 {ops:Array Oper} {Q:Act->Prop} (h:Q a):QW P ops C Q [] a:=⟨h⟩
end
def b6v (l:List Att) (k:Nat):Bool:=
 match l[k]? with
 |none=>true
 |some a=>r4 a.name&&a.v.right&&(match k with|0=>true|k+1=>match l[k]? with|none=>true|some b=>Op.bytesLess b.name.toList a.name.toList)&&a.v.kept
def a5A (l:List Att):Bool:=(List.range l.length).all (b6v l)&&decide (l.length<=8)
theorem a7W:(match Tryz.prog.underlying 96 with|some (.struct _)=>true|some (.array _ _)=>true|_=>false)=true:=zk
theorem b1U:(Tryz.prog.info? 96).map (·.size)=some 5:=zk
@[go_sem ↓] theorem b4m {ρ:Operand->Value} {dst:Option Tmp} {x:Operand} {type:TypeId} {pos:String} {after:Array Edge} {guard:Option (Nat×Bool)} {w:World} (h:a4b w (ρ x) 5):
 Sem.run Tryz.prog (execOp ρ ⟨dst,.load 96 x,type,pos,after,guard⟩) w= .ok (.value (.agg (W7 w (ρ x) 5))) w:=L7 a7W b1U h
end
open Go.RowKit
theorem a19 (a b:UInt8) (s t:List UInt8):Op.bytesLess (a::s) (b::t)=if a<b then true else if b<a then false else Op.bytesLess s t:=by
 rw [Op.bytesLess];by_cases h1:a<b
 ·simp [h1]
 by_cases h2:b<a
 ·have h3:(a==b)=false:=by
   rw [beq_eq_false_iff_ne];rintro rfl;exact h1 h2
  simp [h1,h2,h3]
 have h3:a=b:=UInt8.toNat.inj (by
  have h4:¬a.toNat<b.toNat:=h1;have h5:¬b.toNat<a.toNat:=h2
  omega)
 simp [h3]
theorem a1G (a b:UInt8) (s t:List UInt8):Lib.compareBytes (a::s) (b::t)=if a<b then -1 else if b<a then 1 else Lib.compareBytes s t:=by
 rw [Lib.compareBytes]
theorem a0C:∀a b:List UInt8,(Lib.compareBytes a b<0)↔Op.bytesLess a b=true
 |[],[]=>zd
 |[],b::t=>by simp [Lib.compareBytes,Op.bytesLess]
 |a::s,[]=>by simp [Lib.compareBytes,Op.bytesLess]
 | a::s,b::t=>by
  rw [a19,a1G];split
  ·simp
  split
  ·simp
  exact a0C s t
theorem a3I:∀a b:List UInt8,(Lib.compareBytes a b=0)↔a=b
 |[],[]=>zd
 |[],b::t=>by simp [Lib.compareBytes]
 |a::s,[]=>by simp [Lib.compareBytes]
 | a ::s,b::t=>by
  rw [a1G];split
  ·rename_i h
   constructor
   ·intro h';cases h'
   intro h';cases h';exact absurd h (by simp)
  rename_i h
  split
  ·rename_i h1
   constructor
   ·intro h';cases h'
   intro h';cases h';exact absurd h1 h
  rename_i h1
  have hab:a=b:=by
   have h2:¬a.toNat<b.toNat:=h;have h3:¬b.toNat<a.toNat:=h1;exact UInt8.toNat.inj zo
  subst hab;rw [a3I s t];simp
theorem a1j:∀a b c:List UInt8,Op.bytesLess a b=true->Op.bytesLess b c=true->Op.bytesLess a c=true
 |_,[],[],_,h=>by simp [Op.bytesLess] at h
 |[],[],_::_,h,_=>by simp [Op.bytesLess] at h
 |_::_,[],_::_,h,_=>by simp [Op.bytesLess] at h
 |_,_::_,[],_,h=>by simp [Op.bytesLess] at h
 |[],_::_,_::_,_,_=>by simp [Op.bytesLess]
 | a ::s,b::t,c::u,h,k=>by
  rw [a19] at h k⊢;have e:∀x y:UInt8,x<y↔x.toNat<y.toNat:=fun _ _=>Iff.rfl;by_cases h1:a<b
  ·by_cases k1:b<c
   ·rw [if_pos (by rw [e] at*;omega)]
   by_cases k2:c<b
   ·rw [if_neg k1,if_pos k2] at k;cases k
   rw [if_pos (by rw [e] at*;omega)]
  by_cases h2:b<a
  ·rw [if_neg h1,if_pos h2] at h;cases h
  rw [if_neg h1,if_neg h2] at h;by_cases k1:b<c
  ·rw [if_pos (by rw [e] at*;omega)]
  by_cases k2:c<b
  ·rw [if_neg k1,if_pos k2] at k;cases k
  rw [if_neg k1,if_neg k2] at k;rw [if_neg (by rw [e] at*;omega),if_neg (by rw [e] at*;omega)];exact a1j s t u h k
theorem a2u:∀a:List UInt8,Op.bytesLess a a=false
 |[]=>rfl
 |a::s=>by
  have e:¬a<a:=by simp
  rw [a19,if_neg e,if_neg e,a2u s]
theorem b4n (a b:ByteArray) (w:World):Calls Tryz.prog 130 #[.string a,.string b] w fun e w'=>e= .returned (.int .i64 (Lib.compareBytes a.data.toList b.data.toList))/\w'=w:=by
 go_enter Tryz.func130,Tryz.ntmps130
 go_wp2
 rw [run_callFunc_extern Tryz.func161 zk zk zk (e:=Extern.BytealgCompare.compare) zk,Lib.run_compareString];simp only [Result.andThen];rw [Oper.upon_value]
 go_wp2
 go_ret;exact ⟨rfl,rfl⟩
theorem a7X (a b:ByteArray) (w:World):Calls Tryz.prog 103 #[.string a,.string b] w fun e w'=>e= .returned (.int .i64 (Lib.compareBytes a.data.toList b.data.toList))/\w'=w:=by
 go_enter Tryz.func103,Tryz.ntmps103
 go_wp2_with fail
 refine (b4n a b w).mono ?_;rintro e w' ⟨rfl,rfl⟩
 go_wp2
 go_ret;exact ⟨rfl,rfl⟩
end Go.Proofs.YtdmjoodhaeijmaaGreatDoor
