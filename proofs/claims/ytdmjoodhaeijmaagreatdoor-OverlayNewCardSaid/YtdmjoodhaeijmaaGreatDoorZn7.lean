/- Lemmas. -/
import Derived.Test.YtdmjoodhaeijmaaGreatDoorZn4
import Derived.Laws.IdiomCopy
import Derived.Lib.Overlaps
set_option maxHeartbeats 40000000
set_option maxRecDepth 20000
namespace Go.Proofs.YtdmjoodhaeijmaaGreatDoor
section
open Go.RowKit
def Ru.rightB (r:Ru):Bool:=
 if r.kind=4 then decide (0<=r.at_) else
 if r.kind<0\/4<r.kind\/r.tenant<0\/4<=r.tenant\/r4 r.who=false then false else
 if r.kind=0 then decide (0<=r.broker)&&decide (r.broker<6) else
 if r.kind=3 then r4 r.name&&B5 r.sc else l0 r.sc r.cs
theorem b0K (r:Ru) (w:World) (h:r.ok w):Calls Tryz.prog 98 #[.agg r.cells.toArray] w fun e w'=>e= .returned (.bool r.rightB)/\Mod (fun _=>False) w w':=by
 obtain ⟨wa,ak,ae,aa,ah⟩:=g6 w (.cells r.cells.toArray 36);have c0:wa.cell? ⟨w.heap.size,0,none⟩=some (.int .i64 r.kind):=d6 aa rfl;have c1:wa.cell? ⟨w.heap.size,1,none⟩=some (.int .i64 r.tenant):=d6 aa rfl;have c2:wa.cell? ⟨w.heap.size,2,none⟩=some (.string r.who):=d6 aa rfl;have c3:wa.cell? ⟨w.heap.size,3,none⟩=some (.int .i64 r.broker):=d6 aa rfl;have c4:wa.cell? ⟨w.heap.size,4,none⟩=some (.string r.sc):=d6 aa rfl;have c5:wa.cell? ⟨w.heap.size,5,none⟩=some (.slice r.ca r.cs.length r.cc):=d6 aa rfl;have c6:wa.cell? ⟨w.heap.size,6,none⟩=some (.string r.name):=d6 aa rfl;have c7:wa.cell? ⟨w.heap.size,7,none⟩=some (.int .i64 r.at_):=d6 aa rfl;have hnw:=a2Q r.who (by have:=h.who;omega) wa;have hnn:=a2Q r.name (by have:=h.name;omega) wa;have ES:=a2x r.sc (by have:=h.sc;omega) wa;have hfr:=Z9 wa r.sc r.cv r.cs (h.rd.mod ae zi) (by have:=h.len;omega) (by have:=h.sc;omega) (fun c hc=>by have:=(h.cname c hc).1;omega);have IG:r.rightB=r.rightB:=rfl
 conv at IG=>rhs;unfold Ru.rightB
 obtain ⟨R,hR⟩:∃R,r.rightB=R:=⟨_,rfl⟩;rw [hR] at IG⊢;refine hh7 ak ae hnw hnn ES hfr IG fun aB ai jC wR Mj aW Qw=> ?_;clear ak ae hnw hnn ES hfr IG aa ah h hR
 cases hk4:r.kind==4 with
 |true=>
  have e:R=decide (0<=r.at_):=by rw [Qw.out,if_pos (beq_iff_eq.1 hk4)]
  rw [e]
  go_enter Tryz.func98,Tryz.ntmps98
  go_wp2_with (rw [show w.alloc _=wa from aB.out])
  go_ret;exact ⟨rfl,ai.out⟩
 |false=>
 have Gn:¬r.kind=4:=by simpa using hk4
 have e4:R=_:=Qw.out.trans (if_neg Gn);have E4:=zh e4;clear e4 Gn;by_cases h1:r.kind<0
 ·have e:R=false:=by rw [E4.out,if_pos (.inl h1)]
  rw [e]
  go_enter Tryz.func98,Tryz.ntmps98
  go_wp2_with (rw [show w.alloc _=wa from aB.out])
  go_ret;exact ⟨rfl,ai.out⟩
 by_cases h2:4<r.kind
 ·have e:R=false:=by rw [E4.out,if_pos (.inr (.inl h2))]
  rw [e]
  go_enter Tryz.func98,Tryz.ntmps98
  go_wp2_with (rw [show w.alloc _=wa from aB.out])
  go_ret;exact ⟨rfl,ai.out⟩
 by_cases h3:r.tenant<0
 ·have e:R=false:=by rw [E4.out,if_pos (.inr (.inr (.inl h3)))]
  rw [e]
  go_enter Tryz.func98,Tryz.ntmps98
  go_wp2_with (rw [show w.alloc _=wa from aB.out])
  go_ret;exact ⟨rfl,ai.out⟩
 by_cases h4:4<=r.tenant
 ·have e:R=false:=by rw [E4.out,if_pos (.inr (.inr (.inr (.inl h4))))]
  rw [e]
  go_enter Tryz.func98,Tryz.ntmps98
  go_wp2_with (rw [show w.alloc _=wa from aB.out])
  go_ret;exact ⟨rfl,ai.out⟩
 have h1':0<=r.kind:=zo
 have h2':r.kind<=4:=zo
 have h3':0<=r.tenant:=zo
 have h4':r.tenant<4:=zo
 cases hn:r4 r.who with
 |false=>
  have e:R=false:=by rw [E4.out,if_pos (.inr (.inr (.inr (.inr hn))))]
  rw [e];rw [hn] at jC;clear hn h1 h2 h3 h4 e
  go_enter Tryz.func98,Tryz.ntmps98
  go_wp2_with (rw [show w.alloc _=wa from aB.out])
  refine jC.out.mono ?_;rintro e w' ⟨rfl,rfl⟩
  go_wp2
  go_ret;exact ⟨rfl,ai.out⟩
 |true=>
 have hno:¬(r.kind<0\/4<r.kind\/r.tenant<0\/4<=r.tenant\/r4 r.who=false):=by
  rintro (h|h|h|h|h)
  ·exact h1 h
  ·exact h2 h
  ·exact h3 h
  ·exact h4 h
  rw [hn] at h;cases h
 have e5:R=_:=E4.out.trans (if_neg hno);rw [hn] at jC;have E5:=zh e5;clear hn e5 hno h1 h2 h3 h4
 cases hk0:r.kind==0 with
 | true=>
  have e:R=(decide (0<=r.broker)&&decide (r.broker<6)):=by rw [E5.out,if_pos (beq_iff_eq.1 hk0)]
  rw [e];clear e;by_cases hb:0<=r.broker
  ·rw [decide_eq_true hb,Bool.true_and]
   go_enter Tryz.func98,Tryz.ntmps98
   go_wp2_with (rw [show w.alloc _=wa from aB.out])
   refine jC.out.mono ?_;rintro e w' ⟨rfl,rfl⟩
   go_wp2
   go_ret;exact ⟨rfl,ai.out⟩
  ·have hb':r.broker<0:=zo
   rw [decide_eq_false hb,Bool.false_and];clear hb
   go_enter Tryz.func98,Tryz.ntmps98
   go_wp2_with (rw [show w.alloc _=wa from aB.out])
   refine jC.out.mono ?_;rintro e w' ⟨rfl,rfl⟩
   go_wp2
   go_ret;exact ⟨rfl,ai.out⟩
 |false=>
 have hk0':¬r.kind=0:=by simpa using hk0
 have e6:R=_:=E5.out.trans (if_neg hk0');have E6:=zh e6;clear e6 hk0'
 cases hk3:r.kind==3 with
 | true=>
  have e:R=(r4 r.name&&B5 r.sc):=by rw [E6.out,if_pos (beq_iff_eq.1 hk3)]
  rw [e];clear e
  cases hn:r4 r.name with
  |false=>
   rw [hn] at wR;rw [Bool.false_and];clear hn
   go_enter Tryz.func98,Tryz.ntmps98
   go_wp2_with (rw [show w.alloc _=wa from aB.out])
   refine jC.out.mono ?_;rintro e w' ⟨rfl,rfl⟩
   go_wp2_with fail
   refine wR.out.mono ?_;rintro e w' ⟨rfl,rfl⟩
   go_wp2
   go_ret;exact ⟨rfl,ai.out⟩
  |true=>
   rw [hn] at wR;rw [Bool.true_and];clear hn
   go_enter Tryz.func98,Tryz.ntmps98
   go_wp2_with (rw [show w.alloc _=wa from aB.out])
   refine jC.out.mono ?_;rintro e w' ⟨rfl,rfl⟩
   go_wp2_with fail
   refine wR.out.mono ?_;rintro e w' ⟨rfl,rfl⟩
   go_wp2_with fail
   refine Mj.out.mono ?_;rintro e w2 ⟨rfl,hm2⟩;have aS:=Lib.hid (ai.out.trans hm2 zi);clear hm2
   go_wp2
   go_ret;exact ⟨rfl,aS.out⟩
 |false=>
  have Gp:¬r.kind=3:=by simpa using hk3
  have e:R=l0 r.sc r.cs:=by rw [E6.out,if_neg Gp]
  rw [e];clear e Gp
  go_enter Tryz.func98,Tryz.ntmps98
  go_wp2_with (rw [show w.alloc _=wa from aB.out])
  refine jC.out.mono ?_;rintro e w' ⟨rfl,rfl⟩
  go_wp2_with fail
  refine aW.out.mono ?_;rintro e w2 ⟨rfl,hm2⟩;have aS:=Lib.hid (ai.out.trans hm2 zi);clear hm2
  go_wp2
  go_ret;exact ⟨rfl,aS.out⟩
structure PRu where
 kind:Int
 tenant:Int
 who:ByteArray
 broker:Int
 sc:ByteArray
 cs:List Cnd
 name:ByteArray
 at_:Int
def PRu.zero:PRu:=⟨0,0,⟨#[]⟩,0,⟨#[]⟩,[],⟨#[]⟩,0⟩
def PRu.lies (p:PRu) (a:Option Addr) (c:Nat):Ru:=⟨p.kind,p.tenant,p.who,p.broker,p.sc,a,c,p.name,p.at_,p.cs⟩
def PRu.rightB (p:PRu):Bool:=(p.lies none 0).rightB
section
variable {P:Program} {w:World} {ops:Array Oper} {rest:List Oper} {a:Act} {Q:Exit->Act->World->Prop} {d:Option Tmp} {tp:TypeId} {pos:String} {af:Array Edge}
end
theorem a3Z {P:Program} {w:World} (ty:TypeId) (g off:Nat) (cur:Array Value) (t:TypeId) (cs:List Value) (hg:w.heap[g]? =some (.cells cur t (0,0))) (hl:off+cs.length<=cur.size)
 (hi:(P.info? ty).map (·.size)=some cs.length) (h1:∀u∈cs,u.oneCell'=true):
 (storeVar ty ⟨g,off,none⟩ (.agg cs.toArray)).run P w= .ok () (w.setRow g (cur.toList.take off++cs++cur.toList.drop (off+cs.length)).toArray):=by
 have hst:=run_storeCells_at P g off t cs 0 cur w hg zo h1
 cases hq:P.info? ty with
 |none=>simp [hq] at hi
 |some i=>
  have hs:i.size=cs.length:=by simpa [hq] using hi
  simp only [Nat.add_zero] at hst;simp [storeVar,Value.cells,sizeOf,typeInfo,hq,hs,hst]
theorem a0o {P:Program} {w:World} {ops:Array Oper} {rest:List Oper} {a:Act} {Q:Exit->Act->World->Prop} {d:Option Tmp} {tp:TypeId} {pos:String} {af:Array Edge} (ty:TypeId) (x y:Operand)
 (h:∃g off,a.eval x= .pointer (some ⟨g,off,none⟩)/\∃(cur:Array Value) (t:TypeId),w.heap[g]? =some (.cells cur t (0,0))/\∃cs:List Value,a.eval y= .agg cs.toArray/\off+cs.length<=cur.size/\(P.info? ty).map (·.size)=some cs.length/\cs.all (·.oneCell')=true/\
   ∀w',w'=w.setRow g (cur.toList.take off++cs++cur.toList.drop (off+cs.length)).toArray->Mod (fun k=>k=g) w w'->wpList P ops Q rest (a.put d undef) w'):wpList P ops Q (⟨d,.store ty x y,tp,pos,af,none⟩::rest) a w:=by
 obtain ⟨g,off,hx,cur,t,hg,cs,hy,hl,hi,h1,h⟩:=h;refine wpList_plain rfl fun K hK=> ?_;have hr:=a3Z (P:=P) (w:=w) ty g off cur t cs hg hl hi (a83 h1);unfold Oper.wp execOp;simp only [hx,hy,Instr.storeAt,Instr.sureAddr,Sem.run_bind,Sem.run_pure,Result.andThen_ok,hr];exact hK _ _ (h _ rfl ((Mod.refl (fun k=>k=g) w).setRow (fun _=>rfl) _))
end
end Go.Proofs.YtdmjoodhaeijmaaGreatDoor
