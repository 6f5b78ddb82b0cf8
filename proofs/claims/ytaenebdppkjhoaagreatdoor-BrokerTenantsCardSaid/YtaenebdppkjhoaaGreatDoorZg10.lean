/- Lemmas. -/
import Derived.Test.YtaenebdppkjhoaaGreatDoorRows
import Derived.ProofKit
import Derived.OpenShut
import Derived.Carry
import Derived.Test.YtaenebdppkjhoaaGreatDoorZg7
import Derived.Deep.Grids
import Derived.Lib.SmallJoins
namespace Go.Proofs.YtaenebdppkjhoaaGreatDoor
set_option maxRecDepth 20000
set_option maxHeartbeats 40000000
section
open Go.ChangeShapes Go.WideShapes Go.ChangeAt Go.RowKit
theorem a96:ownKnob Tryz.prog.godebug=none:=by kernel_rfl
theorem b2z:laidOutB Tryz.prog=true:=by kernel_rfl
theorem a0S {H:Type} {enc:TypeId×Value->H} {P:Program} (hl:laidOutB P=true) {W W':World} (hb:Below W.heap.size W W'):∀{ts:List TypeId} {vs:List Value} {ds:List (DataW H)} {ps:List MemPlace}
 (_:ts.all (fun t=>P.readableRec t&&decide (t<P.types.size))=true) (_:DataW.TrodAll enc P W 0 (fun _=>true) true ts vs ds ps) (_:∀x∈ps,x.block<W.heap.size),DataW.TrodAll enc P W' 0 (fun b=>decide (b<W.heap.size)) true ts vs ds ps
 |[],vs,ds,ps,_,h,_=>by
  obtain ⟨rfl,rfl,rfl⟩:=trodAll_nil h;exact trodAll_mk0
 |t::ts,vs,ds,ps,hr,h,hlt=>by
  obtain ⟨v,vs',d,ds',p,q,rfl,rfl,rfl,h1,h2⟩:=trodAll_cons h;simp only [List.all_cons,Bool.and_eq_true,decide_eq_true_eq] at hr;exact trodAll_cons_mk (Below.trod hl hr.1.1 hr.1.2 h1 hb (fun x hx=>hlt x (List.mem_append_left _ hx))) (a0S hl hb hr.2 h2 (fun x hx=>hlt x (List.mem_append_right _ hx)))
theorem a8G {H:Type} {enc:TypeId×Value->H} {f:Func} {s:ChangeSpec} {apart fresh handsOn:Bool} {W W':World} {args:Array Value} {v:Value} {ds gs:List (DataW H)} {before:List MemPlace}
 (hW:DataW.Whole enc Tryz.prog f.params.toList s.vars apart W args.toList ds gs before)
 (hA:DataW.TrodAll enc Tryz.prog W 0 (fun _=>true) true f.params.toList args.toList ds before)
 (hr:f.params.toList.all (fun t=>Tryz.prog.readableRec t&&decide (t<Tryz.prog.types.size))=true) (hds:(s.fn H (ds++gs)).args=ds)
 (hres:∀(b:Nat) (sp:Nat->Bool) (hd:Bool),DataW.TrodAll enc Tryz.prog W' b sp hd f.resultTypes.toList (v.resultList f.resultTypes.size) (s.fn H (ds++gs)).results [])
 (hvars:∀sp:Nat->Bool,DataW.TrodVars enc Tryz.prog W' sp s.vars (s.fn H (ds++gs)).vars [])
 (hb:Below W.heap.size W W'):s.post enc Tryz.prog f apart fresh handsOn false W args v W':=by
 have hold:∀p∈before,p.block<W.heap.size:=fun p hp=>by simpa using hW.lt p hp
 have hargs:=a0S b2z hb hr hA hold;refine ⟨ds,gs,before,[],before,[],hW,hres _ _ _, ?_,hvars _,World.keptBut_mono (fun p hp=>⟨hp,by simpa using hp⟩) (hb.frame (· ∈before)),fun h=>by cases h⟩;rw [hds];exact hargs
theorem a97 {H:Type} {enc:TypeId×Value->H} {W:World} {base:Nat} {spare:Nat->Bool} {held:Bool} {fuel:Nat} {t:TypeId} {cs:List Value} {x:DataW H×List MemPlace} (ht:Tryz.prog.underlying t=some (.float .f64))
 (h:DataW.trod enc Tryz.prog W base spare held fuel t cs=some x):∃b,cs=[.float .f64 b]/\b<2^64:=by
 cases fuel with
 |zero=>simp [DataW.trod] at h
 |succ n=>
  unfold DataW.trod at h;rw [ht] at h;split at h
  all_goals first
   |(simp_all;done)
   | (rename_i k k' b heq
      simp only [Option.some.injEq,TypeDesc.float.injEq] at heq;subst heq;split at h
      ·rename_i hc
       obtain ⟨rfl,hw⟩:=hc;simp only [Lit.wf,decide_eq_true_eq] at hw;exact ⟨_,rfl,hw⟩
      ·cases h)
end
section
open Go.RowKit
def a0T (r:Nat):Nat:=(if r<2^52 then r else 2^52+r%2^52)<<<(r / 2^52 - 1)
theorem a5b {r s:Nat} (h:r<s):a0T r<a0T s:=by
 unfold a0T;rw [Nat.shiftLeft_eq,Nat.shiftLeft_eq];have hr:=Nat.div_add_mod r (2^52);have hs:=Nat.div_add_mod s (2^52);have hrm:=Nat.mod_lt r (show 0<2^52 by decide);have hsm:=Nat.mod_lt s (show 0<2^52 by decide);have hde:r / 2^52<=s / 2^52:=Nat.div_le_div_right (by omega)
 generalize r / 2^52=e at*
 generalize s / 2^52=d at*
 generalize r%2^52=p at*
 generalize s%2^52=q at*
 rcases Nat.lt_or_eq_of_le hde with hlt|rfl
 ·have h2:¬s<2^52:=by omega
  rw [if_neg h2];have hp:2^(e - 1)<=2^(d - 1):=Nat.pow_le_pow_right (by decide) (by omega);by_cases he:e=0
  ·subst he;have h1:r<2^52:=by omega
   rw [if_pos h1];have h3:1<=2^(d - 1):=Nat.one_le_two_pow;have h4:r*2^(0 - 1)=r:=by simp
   rw [h4]
   calc r<2^52:=h1
    _=2^52*1:=by rw [Nat.mul_one]
    _<=(2^52+q)*2^(d - 1):=Nat.mul_le_mul (by omega) h3
  have h1:¬r<2^52:=by omega
  rw [if_neg h1];have h3:2^(d - 1)=2^(d - 1 - e)*2^e:=by rw [<-Nat.pow_add];congr 1;omega
  have h4:2^e=2*2^(e - 1):=by
   conv=>lhs;rw [show e=(e - 1)+1 by omega,Nat.pow_succ]
   rw [Nat.mul_comm]
  have h5:1<=2^(d - 1 - e):=Nat.one_le_two_pow;have h6:1<=2^(e - 1):=Nat.one_le_two_pow
  have h7:2*2^(e - 1)<=2^(d - 1):=by
   rw [h3,h4]
   calc 2*2^(e - 1)=1*(2*2^(e - 1)):=by rw [Nat.one_mul]
    _<=2^(d - 1 - e)*(2*2^(e - 1)):=Nat.mul_le_mul_right _ h5
  calc (2^52+p)*2^(e - 1)<(2^52*2)*2^(e - 1):=Nat.mul_lt_mul_of_pos_right (by omega) (by omega)
   _=2^52*(2*2^(e - 1)):=by rw [Nat.mul_assoc]
   _<=2^52*2^(d - 1):=Nat.mul_le_mul_left _ h7
   _<=(2^52+q)*2^(d - 1):=Nat.mul_le_mul_right _ (by omega)
 have h6:0<2^(e - 1):=Nat.two_pow_pos _;refine Nat.mul_lt_mul_of_pos_right ?_ h6;by_cases he:e=0
 ·subst he;rw [if_pos (by omega),if_pos (by omega)];exact h
 rw [if_neg (by omega),if_neg (by omega)];omega
theorem a1v {r s:Nat} (h:a0T r=a0T s):r=s:=by
 rcases Nat.lt_trichotomy r s with h1|h1|h1
 ·have:=a5b h1;omega
 ·exact h1
 have:=a5b h1;omega
theorem a6s {r:Nat}:a0T r=0↔r=0:=⟨fun h=>a1v (h.trans (by decide)),fun h=>by subst h;decide⟩
def J5 (x:Nat):Bool:=x / 2^63%2==1
def n9 (x:Nat):Nat:=x%2^63
def a0t (x:Nat):Prop:=n9 x<=9218868437227405312
theorem X7 {x:Nat} (h:n9 x<9218868437227405312):
 FloatKind.f64.format.read x= .number (J5 x) (if n9 x<2^52 then n9 x else 2^52+n9 x%2^52) (-1074+(n9 x / 2^52 - 1:Nat)):=by
 have e1:FloatKind.f64.format.signWeight=2^63:=by decide
 have e2:FloatKind.f64.format.binade=2^52:=by decide
 have e3:FloatKind.f64.format.infRung=9218868437227405312:=by decide
 have e4:FloatKind.f64.format.leastPlace= -1074:=by decide
 unfold Ieee.Format.read;rw [e1,e2,e3,e4];show (if n9 x<2^52 then Ieee.Datum.number (J5 x) (n9 x) (-1074) else if n9 x<9218868437227405312 then Ieee.Datum.number (J5 x) (2^52+n9 x%2^52) (-1074+((n9 x / 2^52 - 1:Nat):Int)) else if n9 x=9218868437227405312 then Ieee.Datum.infinity (J5 x) else .nan (J5 x) (n9 x - 9218868437227405312))=_;by_cases h1:n9 x<2^52
 ·rw [if_pos h1,if_pos h1,Nat.div_eq_of_lt h1];rfl
 rw [if_neg h1,if_neg h1,if_pos h]
theorem X8 {x:Nat} (h:n9 x=9218868437227405312):FloatKind.f64.format.read x= .infinity (J5 x):=by
 have e1:FloatKind.f64.format.signWeight=2^63:=by decide
 have e2:FloatKind.f64.format.binade=2^52:=by decide
 have e3:FloatKind.f64.format.infRung=9218868437227405312:=by decide
 unfold Ieee.Format.read;rw [e1,e2,e3];show (if n9 x<2^52 then Ieee.Datum.number (J5 x) (n9 x) _ else if n9 x<9218868437227405312 then Ieee.Datum.number (J5 x) (2^52+n9 x%2^52) _ else if n9 x=9218868437227405312 then Ieee.Datum.infinity (J5 x) else .nan (J5 x) (n9 x - 9218868437227405312))=_;rw [if_neg (by omega),if_neg (by omega),if_pos h]
theorem a98 {x:Nat} (h:9218868437227405312<n9 x):∃n,FloatKind.f64.format.read x= .nan (J5 x) n:=by
 have e1:FloatKind.f64.format.signWeight=2^63:=by decide
 have e2:FloatKind.f64.format.binade=2^52:=by decide
 have e3:FloatKind.f64.format.infRung=9218868437227405312:=by decide
 unfold Ieee.Format.read;rw [e1,e2,e3];refine ⟨n9 x - 9218868437227405312, ?_⟩;show (if n9 x<2^52 then Ieee.Datum.number (J5 x) (n9 x) _ else if n9 x<9218868437227405312 then Ieee.Datum.number (J5 x) (2^52+n9 x%2^52) _ else if n9 x=9218868437227405312 then Ieee.Datum.infinity (J5 x) else .nan (J5 x) (n9 x - 9218868437227405312))=_;rw [if_neg (by omega),if_neg (by omega),if_neg (by omega)]
theorem a70 {x:Nat}:fEq x x=true↔a0t x:=by
 unfold a0t fEq Ieee.Format.order;rcases Nat.lt_trichotomy (n9 x) 9218868437227405312 with h|h|h
 ·rw [X7 h];simp only [Ieee.Datum.order,beq_iff_eq,Option.some.injEq];constructor
  ·intro _;omega
  intro _;exact Int.compare_eq_eq.2 rfl
 ·rw [X8 h];simp only [Ieee.Datum.order,beq_iff_eq,Option.some.injEq];constructor
  ·intro _;omega
  intro _;exact Nat.compare_eq_eq.2 rfl
 obtain ⟨n,hn⟩:=a98 h;rw [hn];simp only [Ieee.Datum.order];constructor
 ·intro h;cases h
 intro _;omega
theorem a71 (m a b:Nat) (hb:b<=a):m<<<a=(m<<<(a - b))*2^b:=by
 rw [Nat.shiftLeft_eq,Nat.shiftLeft_eq,Nat.mul_assoc,<-Nat.pow_add];congr 2;omega
theorem a8H {s t:Bool} {m n i j:Nat}:Ieee.signed s m ((-1074+(i:Int)) - min (-1074+(i:Int)) (-1074+(j:Int))).toNat=Ieee.signed t n ((-1074+(j:Int)) - min (-1074+(i:Int)) (-1074+(j:Int))).toNat↔m<<<i=n<<<j/\(s=t\/m<<<i=0):=by
 have hi:((-1074+(i:Int)) - min (-1074+(i:Int)) (-1074+(j:Int))).toNat=i - min i j:=by omega
 have hj:((-1074+(j:Int)) - min (-1074+(i:Int)) (-1074+(j:Int))).toNat=j - min i j:=by omega
 rw [hi,hj];have h1:=a71 m i (min i j) (Nat.min_le_left _ _);have h2:=a71 n j (min i j) (Nat.min_le_right _ _);have hp:0<2^min i j:=Nat.two_pow_pos _;rw [h1,h2];clear h1 h2 hi hj;unfold Ieee.signed
 generalize m<<<(i - min i j)=A
 generalize n<<<(j - min i j)=B
 generalize 2^min i j=P at hp
 have hAB:A*P=B*P↔A=B:=⟨fun h=>Nat.eq_of_mul_eq_mul_right hp h,fun h=>by rw [h]⟩
 have hA0:A*P=0↔A=0:=⟨fun h=>by
  rcases Nat.mul_eq_zero.1 h with h|h
  ·exact h
  ·omega,fun h=>by rw [h,Nat.zero_mul]⟩
 rw [hAB,hA0];clear hAB hA0 hp;cases s<;>cases t<;>simp<;>omega
theorem b2A {x y:Nat} (hx:x<2^64) (hy:y<2^64) (hnx:a0t x) (hny:a0t y):fEq x y=true↔x=y\/(n9 x=0/\n9 y=0):=by
 have hxr:x=(if J5 x then 2^63 else 0)+n9 x:=by
  unfold J5 n9;split
  ·rename_i h;rw [beq_iff_eq] at h;omega
  rename_i h;rw [beq_iff_eq] at h;omega
 have hyr:y=(if J5 y then 2^63 else 0)+n9 y:=by
  unfold J5 n9;split
  ·rename_i h;rw [beq_iff_eq] at h;omega
  rename_i h;rw [beq_iff_eq] at h;omega
 have hxy:x=y↔J5 x=J5 y/\n9 x=n9 y:=by
  constructor
  ·intro h;subst h;exact ⟨rfl,rfl⟩
  rintro ⟨h1,h2⟩;rw [hxr,hyr,h1,h2]
 unfold a0t at hnx hny;rw [hxy];unfold fEq Ieee.Format.order;rcases Nat.lt_or_eq_of_le hnx with h1|h1<;>rcases Nat.lt_or_eq_of_le hny with h2|h2
 ·rw [X7 h1,X7 h2];simp only [Ieee.Datum.order,beq_iff_eq,Option.some.injEq];rw [Int.compare_eq_eq,a8H];show a0T (n9 x)=a0T (n9 y)/\(J5 x=J5 y\/a0T (n9 x)=0)↔_;rw [a6s];constructor
  ·rintro ⟨h3,h4|h4⟩
   ·exact .inl ⟨h4,a1v h3⟩
   exact .inr ⟨h4,by rw [<-a1v h3];exact h4⟩
  rintro (⟨h3,h4⟩|⟨h3,h4⟩)
  ·exact ⟨by rw [h4],.inl h3⟩
  exact ⟨by rw [h3,h4],.inr h3⟩
 ·rw [X7 h1,X8 h2];simp only [Ieee.Datum.order,beq_iff_eq,Option.some.injEq];constructor
  ·intro h;cases hs:J5 y<;>rw [hs] at h<;>cases h
  rintro (⟨_,h⟩|⟨_,h⟩)<;>omega
 ·rw [X8 h1,X7 h2];simp only [Ieee.Datum.order,beq_iff_eq,Option.some.injEq];constructor
  ·intro h;cases hs:J5 x<;>rw [hs] at h<;>cases h
  rintro (⟨_,h⟩|⟨h,_⟩)<;>omega
 rw [X8 h1,X8 h2];simp only [Ieee.Datum.order,beq_iff_eq,Option.some.injEq];rw [Nat.compare_eq_eq];constructor
 ·intro h;refine .inl ⟨?_,by omega⟩;cases hs:J5 x<;>cases ht:J5 y<;>rw [hs,ht] at h<;>first|rfl|exact absurd h (by decide)
 rintro (⟨h,_⟩|⟨h,_⟩)
 ·rw [h]
 omega
theorem a5c {x:Nat} (hx:x<2^64) (hn:a0t x):fEq x 0=true↔n9 x=0:=by
 rw [b2A hx (by decide) hn (by unfold a0t n9;decide)];have h0:n9 0=0:=by decide
 constructor
 ·rintro (h|h)
  ·rw [h];exact h0
  exact h.1
 intro h;exact .inr ⟨h,h0⟩
theorem a6t {x:Nat} (hx:x<2^64) (hn:a0t x):m5 x=if n9 x=0 then 0 else x:=by
 unfold m5;rw [if_pos (a70.2 hn)];by_cases h:n9 x=0
 ·rw [if_pos h,if_pos ((a5c hx hn).2 h)]
 rw [if_neg h,if_neg (fun h'=>h ((a5c hx hn).1 h'))]
end
end Go.Proofs.YtaenebdppkjhoaaGreatDoor
