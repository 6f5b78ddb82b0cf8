/- Lemmas. -/
import Derived.Test.YtaenebdppkjhoaaGreatDoorZf3
import Derived.Laws.Cover1
namespace Go.Proofs.YtaenebdppkjhoaaGreatDoor
set_option maxRecDepth 20000
set_option maxHeartbeats 40000000
section
open Go.RowKit
def C4 (i:Nat) (b:UInt8):Bool:=(decide (97<=b.toNat)&&decide (b.toNat<=122))||(decide (0<i)&&decide (48<=b.toNat)&&decide (b.toNat<=57))
def o6 (s:ByteArray):Bool:=(s.data.toList.zipIdx.all fun x=>C4 x.2 x.1)&&(decide (s.size≠0)&&decide (s.size<=12))
theorem M6 {s:ByteArray} {k:Nat} {b:UInt8} (h:s.data.toList[k]? =some b) (hb:C4 k b=false):o6 s=false:=by
 unfold o6
 have:(s.data.toList.zipIdx.all fun x=>C4 x.2 x.1)=false:=by
  rw [List.all_eq_false];exact ⟨(b,k),List.mem_zipIdx_iff_getElem?.2 h,by simp [hb]⟩
 rw [this,Bool.false_and]
theorem a6Q {s:ByteArray} (h:∀j b,j<s.size->s.data.toList[j]? =some b->C4 j b=true):o6 s=(decide (s.size≠0)&&decide (s.size<=12)):=by
 unfold o6
 have:(s.data.toList.zipIdx.all fun x=>C4 x.2 x.1)=true:=by
  rw [List.all_eq_true];rintro ⟨b,k⟩ hm;have hb:=List.mem_zipIdx_iff_getElem?.1 hm;have hk:=(zz6 hb).1;exact h k b hk hb
 rw [this,Bool.true_and]
theorem a2a (s:ByteArray) (hs:s.size<=9223372036854775807) (w:World):Calls Tryz.prog 50 #[.string s] w fun e w'=>e= .returned (.bool (o6 s))/\w'=w:=by
 have hs':(s.size:Int)<=9223372036854775807:=by omega
 have Hs:=zh hs;clear hs;obtain ⟨R,hR⟩:∃R,o6 s=R:=⟨_,rfl⟩;rw [hR];have HR:=zh hR;clear hR
 go_enter Tryz.func50,Tryz.ntmps50
 go_wp2_with fail
 go_loopw [6] (fun i wr=>∃k:Nat,k<=s.size/\i= .int .i64 k/\wr=w/\(∀j b,j<k->s.data.toList[j]? =some b->C4 j b=true)) (fun i _=>s.size - (intOf i).toNat)
 case atStart=>exact ⟨0,Nat.zero_le _,rfl,rfl,fun j b hj=>by omega⟩
 case round=>
  obtain ⟨k,hk,rfl,hw,hall⟩:=hrel;subst hw;by_cases hlt:k<s.size
  ·have hlt':(k:Int)<s.size:=by omega
   have Hall:=zh hall;clear hall
   have hsk:s.data.toList[k]? =some s[k]:=by
    rw [zz5 (show k<s.data.toList.length from hlt)];rfl
   have Hsk:=zh hsk;clear hsk;have hcase:((97:Int)<=(s[k].toNat:Int)/\(s[k].toNat:Int)<=122)\/(((s[k].toNat:Int)<97\/(122:Int)<(s[k].toNat:Int))/\0<k/\(48:Int)<=(s[k].toNat:Int)/\(s[k].toNat:Int)<=57)\/((s[k].toNat:Int)<97/\k=0)\/((122:Int)<(s[k].toNat:Int)/\k=0)\/(0<k/\(s[k].toNat:Int)<48)\/(0<k/\(57:Int)<(s[k].toNat:Int)/\(s[k].toNat:Int)<97)\/(0<k/\(122:Int)<(s[k].toNat:Int)):=by omega
   rcases hcase with ⟨h1,h2⟩|⟨h1,h2,h3,h4⟩|⟨h1,h2⟩|⟨h1,h2⟩|⟨h1,h2⟩|⟨h1,h2,h3⟩|⟨h1,h2⟩
   ·go_wp2
    go_roundw
    case rel=>
     refine ⟨k+1,by omega,by go_num,trivial,fun j b hj hb=> ?_⟩;rcases Nat.lt_succ_iff_lt_or_eq.1 hj with hj|hj
     ·exact Hall.out j b hj hb
     subst hj;rw [Hsk.out] at hb;cases hb
     unfold C4;simp only [Bool.or_eq_true,Bool.and_eq_true,decide_eq_true_eq];omega
    case measure=>simp [intOf];omega
   ·have h0':(0:Int)<k:=by omega
    have h5:(s[k].toNat:Int)<97:=by omega
    clear h1
    go_wp2
    go_roundw
    case rel=>
     refine ⟨k+1,by omega,by go_num,trivial,fun j b hj hb=> ?_⟩;rcases Nat.lt_succ_iff_lt_or_eq.1 hj with hj|hj
     ·exact Hall.out j b hj hb
     subst hj;rw [Hsk.out] at hb;cases hb
     unfold C4;simp only [Bool.or_eq_true,Bool.and_eq_true,decide_eq_true_eq];omega
    case measure=>simp [intOf];omega
   ·subst h2
    go_wp2
    all_goals first
     |(exfalso;omega)
     | (go_ret
        refine ⟨congrArg (fun b=>Ending.returned (.bool b)) (((HR.out).symm.trans (M6 Hsk.out ?_)).symm),rfl⟩;unfold C4;simp only [Bool.or_eq_false_iff,Bool.and_eq_false_iff,decide_eq_false_iff_not]
        omega)
   ·subst h2;have h5:(97:Int)<=(s[0].toNat:Int):=by omega
    have hd122:decide ((s[0].toNat:Int)<=122)=false:=decide_eq_false (by omega)
    go_wp2
    all_goals first
     |(exfalso;omega)
     | (go_ret
        refine ⟨congrArg (fun b=>Ending.returned (.bool b)) (((HR.out).symm.trans (M6 Hsk.out ?_)).symm),rfl⟩;unfold C4;simp only [Bool.or_eq_false_iff,Bool.and_eq_false_iff,decide_eq_false_iff_not]
        omega)
   ·have h0':(0:Int)<k:=by omega
    have h5:(s[k].toNat:Int)<97:=by omega
    go_wp2
    all_goals first
     |(exfalso;omega)
     | (go_ret
        refine ⟨congrArg (fun b=>Ending.returned (.bool b)) (((HR.out).symm.trans (M6 Hsk.out ?_)).symm),rfl⟩;unfold C4;simp only [Bool.or_eq_false_iff,Bool.and_eq_false_iff,decide_eq_false_iff_not]
        omega)
   ·have h0':(0:Int)<k:=by omega
    have h5:(48:Int)<=(s[k].toNat:Int):=by omega
    have hd57:decide ((s[k].toNat:Int)<=57)=false:=decide_eq_false (by omega)
    go_wp2
    all_goals first
     |(exfalso;omega)
     | (go_ret
        refine ⟨congrArg (fun b=>Ending.returned (.bool b)) (((HR.out).symm.trans (M6 Hsk.out ?_)).symm),rfl⟩;unfold C4;simp only [Bool.or_eq_false_iff,Bool.and_eq_false_iff,decide_eq_false_iff_not]
        omega)
   have h0':(0:Int)<k:=by omega
   have h5:(97:Int)<=(s[k].toNat:Int):=by omega
   have h6:(48:Int)<=(s[k].toNat:Int):=by omega
   have h7:(57:Int)<(s[k].toNat:Int):=by omega
   have hd57:decide ((s[k].toNat:Int)<=57)=false:=decide_eq_false (by omega);have hd122:decide ((s[k].toNat:Int)<=122)=false:=decide_eq_false (by omega)
   go_wp2
   all_goals first
    |(exfalso;omega)
    | (go_ret
       refine ⟨congrArg (fun b=>Ending.returned (.bool b)) (((HR.out).symm.trans (M6 Hsk.out ?_)).symm),rfl⟩;unfold C4;simp only [Bool.or_eq_false_iff,Bool.and_eq_false_iff,decide_eq_false_iff_not]
       omega)
  obtain rfl:k=s.size:=by omega
  have hn:=a6Q hall;rw [HR.out] at hn;clear hall
  have hse:s.toList.isEmpty=decide (s.size=0):=by
   rw [ByteArray.toList_eq];show s.data.toList.isEmpty=decide (s.data.toList.length=0);cases s.data.toList<;>simp
  have hd:((s.size:Int)<=12)=(s.size<=12):=by apply propext;omega
  by_cases h0:s.size=0
  ·rw [decide_eq_true h0] at hse;rw [decide_eq_false (by simp [h0]),Bool.false_and] at hn;have HN:=zh hn;clear hn h0 hd
   go_wp2
   go_ret;exact ⟨by rw [HN.out];rfl,rfl⟩
  rw [decide_eq_false h0] at hse;rw [decide_eq_true h0,Bool.true_and] at hn;obtain ⟨HN,HD⟩:=zh2 hn hd;clear hn h0 hd
  go_wp2
  go_ret;refine ⟨?_,rfl⟩;rw [HN.out];exact congrArg (fun b=>Ending.returned (.bool b)) (by simp only [HD.out])
structure Att where
 name:ByteArray
 v:V
def Att.cells (a:Att):List Value:= .string a.name::a.v.cells
theorem Att.cells_length (a:Att):a.cells.length=6:=rfl
def C5 (l:List Att):List Value:=l.flatMap Att.cells
theorem a4u (l:List Att) {k j:Nat} {a:Att} {u:Value} (h:l[k]? =some a) (hj:a.cells[j]? =some u):(C5 l)[6*k+j]? =some u:=by
 induction l generalizing k with
 |nil=>simp at h
 | cons b l ih=>
  unfold C5 at ih⊢;rw [List.flatMap_cons]
  cases k with
  |zero=>
   simp only [List.getElem?_cons_zero,Option.some.injEq] at h;subst h;have:=(zz6 hj).1;rw [List.getElem?_append_left (by omega),Nat.mul_zero,Nat.zero_add,hj]
  |succ k=>
   rw [List.getElem?_cons_succ] at h;rw [List.getElem?_append_right (by rw [Att.cells_length];omega),Att.cells_length,show 6*(k+1)+j - 6=6*k+j by omega];exact ih h
section
variable {P:Program} {a:Act} {w:World} {C:World->Prop}
structure QW (P:Program) (ops:Array Oper) (C:World->Prop) (Q:Act->Prop) (l:List Oper) (a:Act):Prop where
 out:wpQuiet P ops C Q l a
theorem i8 {id:Nat} {Q:Exit->Act->World->Prop} {l:List Oper} (hm:P.follows .mixedOrders=true) (hB:Region.lexB .any l.toArray=true)
 (h:QW P l.toArray (fun w'=>Mod (fun _=>False) w w') (fun a'=>∀w',Mod (fun _=>False) w w'->Q .normal a' w') l a):(Code.region id l.toArray true).wp P Q a w:=
 wp_region_quiet (C:=fun w'=>Mod (fun _=>False) w w') hm hB ((Mod.refl _ w).drew) (by simpa using h.out)
theorem a8P {o:Oper} {K:Act->Prop} (u:Value) (h:∀w,C w->(execOp a.eval o).run P w= .ok (.value u) w) (hk:K (a.put o.dst u)):o.quiet P a C K:=
 ⟨u,fun w hw=>by unfold Oper.quietAt;rw [h w hw];exact ⟨rfl,rfl⟩,hk⟩
theorem a6R {o:Oper} {K:Act->Prop} {f:FuncId} {args:Array Value} (u:Value) (h:∀w,C w->(execOp a.eval o).run P w= .ok (.enter f args) w) (hc:∀w,C w->Calls P f args w fun e w''=>e= .returned u/\C w'')
 (hk:K (a.put o.dst u)):o.quiet P a C K:=
 ⟨u,fun w hw=>by unfold Oper.quietAt;rw [h w hw];exact ⟨rfl,hc w hw⟩,hk⟩
theorem a3R {ops:Array Oper} {rest:List Oper} {o:Oper} {Q:Act->Prop} (hg:Region.wanted o (yielded ops a.tmps)=true) (h:o.quiet P a C (wpQuiet P ops C Q rest)):QW P ops C Q (o::rest) a:=by
 constructor;unfold wpQuiet;rw [if_pos hg];exact h
theorem b0W {ops:Array Oper} {rest:List Oper} {o:Oper} {Q:Act->Prop} (hg:Region.wanted o (yielded ops a.tmps)=false) (h:wpQuiet P ops C Q rest (a.put o.dst undef)):QW P ops C Q (o::rest) a:=by
 constructor;unfold wpQuiet;rw [if_neg (by rw [hg];decide)];exact h
theorem j8 {ops:Array Oper} {rest:List Oper} {o:Oper} {Q:Act->Prop} (hg:Region.wanted o (yielded ops a.tmps)=false) (h:∀K:Act->Prop,(∀a,QW P ops C Q rest a->K a)->K (a.put o.dst undef)):QW P ops C Q (o::rest) a:=
 b0W hg (h _ fun _ h=>h.out)
theorem m7 {ops:Array Oper} {rest:List Oper} {o:Oper} {Q:Act->Prop} (hg:Region.wanted o (yielded ops a.tmps)=true) (u:Value) (hr:∀w,C w->(execOp a.eval o).run P w= .ok (.value u) w)
 (h:∀K:Act->Prop,(∀a,QW P ops C Q rest a->K a)->K (a.put o.dst u)):QW P ops C Q (o::rest) a:=
 a3R hg (a8P u hr (h _ fun _ h=>h.out))
theorem o9 {ops:Array Oper} {rest:List Oper} {o:Oper} {Q:Act->Prop} (hg:Region.wanted o (yielded ops a.tmps)=true) (f:FuncId) (args:Array Value) (u:Value) (hr:∀w,C w->(execOp a.eval o).run P w= .ok (.enter f args) w)
 (hc:∀w,C w->Calls P f args w fun e w''=>e= .returned u/\C w'') (h:∀K:Act->Prop,(∀a,QW P ops C Q rest a->K a)->K (a.put o.dst u)):QW P ops C Q (o::rest) a:=
 a3R hg (a6R u hr hc (h _ fun _ h=>h.out))
theorem l5 {ops:Array Oper} {Q:Act->Prop} (h:Q a):QW P ops C Q [] a:=⟨h⟩
end
theorem a6S:(match Tryz.prog.underlying 68 with|some (.struct _)=>true|some (.array _ _)=>true|_=>false)=true:=by kernel_rfl
theorem b0X:(Tryz.prog.info? 68).map (·.size)=some 5:=by kernel_rfl
@[go_sem ↓] theorem b2Y {ρ:Operand->Value} {dst:Option Tmp} {x:Operand} {type:TypeId} {pos:String} {after:Array Edge} {guard:Option (Nat×Bool)} {w:World} (h:a4c w (ρ x) 5):
 Sem.run Tryz.prog (execOp ρ ⟨dst,.load 68 x,type,pos,after,guard⟩) w= .ok (.value (.agg (T6 w (ρ x) 5))) w:=A0 a6S b0X h
end
end Go.Proofs.YtaenebdppkjhoaaGreatDoor
