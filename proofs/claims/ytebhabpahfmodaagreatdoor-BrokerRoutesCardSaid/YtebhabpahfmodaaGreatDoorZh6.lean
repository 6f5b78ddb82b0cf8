/- Lemmas. -/
import Derived.Test.YtebhabpahfmodaaGreatDoorRows
import Derived.ProofKit
import Derived.OpenShut
import Derived.Carry
import Derived.Test.YtebhabpahfmodaaGreatDoorZh3
import Derived.Deep.Grids
import Derived.Lib.SmallJoins
set_option maxHeartbeats 40000000
set_option maxRecDepth 20000
namespace Go.Proofs.YtebhabpahfmodaaGreatDoor
section
open Go.ChangeShapes Go.WideShapes Go.ChangeAt Go.RowKit
theorem b3C:ownKnob Tryz.prog.godebug=none:=zk
theorem b5k:laidOutB Tryz.prog=true:=zk
theorem a11 {H:Type} {enc:TypeId×Value->H} {P:Program} (hl:laidOutB P=true) {W W':World} (hb:Below W.heap.size W W'):∀{ts:List TypeId} {vs:List Value} {ds:List (DataW H)} {ps:List MemPlace}
 (_:ts.all (fun t=>P.readableRec t&&decide (t<P.types.size))=true) (_:DataW.TrodAll enc P W 0 (fun _=>true) true ts vs ds ps) (_:∀x∈ps,x.block<W.heap.size),DataW.TrodAll enc P W' 0 (fun b=>decide (b<W.heap.size)) true ts vs ds ps
 |[],vs,ds,ps,_,h,_=>by
  obtain ⟨rfl,rfl,rfl⟩:=trodAll_nil h;exact trodAll_mk0
 |t::ts,vs,ds,ps,hr,h,hlt=>by
  obtain ⟨v,vs',d,ds',p,q,rfl,rfl,rfl,h1,h2⟩:=trodAll_cons h;simp only [List.all_cons,Bool.and_eq_true,decide_eq_true_eq] at hr;exact trodAll_cons_mk (Below.trod hl hr.1.1 hr.1.2 h1 hb (fun x hx=>hlt x (List.mem_append_left _ hx))) (a11 hl hb hr.2 h2 (fun x hx=>hlt x (List.mem_append_right _ hx)))
theorem b1g {H:Type} {enc:TypeId×Value->H} {f:Func} {s:ChangeSpec} {apart fresh handsOn:Bool} {W W':World} {args:Array Value} {v:Value} {ds gs:List (DataW H)} {before:List MemPlace}
 (hW:DataW.Whole enc Tryz.prog f.params.toList s.vars apart W args.toList ds gs before)
 (hA:DataW.TrodAll enc Tryz.prog W 0 (fun _=>true) true f.params.toList args.toList ds before)
 (hr:f.params.toList.all (fun t=>Tryz.prog.readableRec t&&decide (t<Tryz.prog.types.size))=true) (hds:(s.fn H (ds++gs)).args=ds)
 (hres:∀(b:Nat) (sp:Nat->Bool) (hd:Bool),DataW.TrodAll enc Tryz.prog W' b sp hd f.resultTypes.toList (v.resultList f.resultTypes.size) (s.fn H (ds++gs)).results [])
 (hvars:∀sp:Nat->Bool,DataW.TrodVars enc Tryz.prog W' sp s.vars (s.fn H (ds++gs)).vars [])
 (hb:Below W.heap.size W W'):s.post enc Tryz.prog f apart fresh handsOn false W args v W':=by
 have hold:∀p∈before,p.block<W.heap.size:=fun p hp=>by simpa using hW.lt p hp
 have hargs:=a11 b5k hb hr hA hold;refine ⟨ds,gs,before,[],before,[],hW,hres _ _ _, ?_,hvars _,World.keptBut_mono (fun p hp=>⟨hp,by simpa using hp⟩) (hb.frame (· ∈before)),fun h=>by cases h⟩;rw [hds];exact hargs
theorem b3D {H:Type} {enc:TypeId×Value->H} {W:World} {base:Nat} {spare:Nat->Bool} {held:Bool} {fuel:Nat} {t:TypeId} {cs:List Value} {x:DataW H×List MemPlace} (ht:Tryz.prog.underlying t=some (.float .f64))
 (h:DataW.trod enc Tryz.prog W base spare held fuel t cs=some x):∃b,cs=[.float .f64 b]/\b<2^64:=by
 cases fuel with
 |zero=>simp [DataW.trod] at h
 |succ n=>
  unfold DataW.trod at h;rw [ht] at h;split at h
  all_goals first
   |(simp_all;done)
   | (rename_i k k' b heq
      simp only [Option.some.injEq,TypeDesc.float.injEq] at heq;subst heq;split at h
      ·rename_i hc
       obtain ⟨rfl,hw⟩:=hc;simp only [Lit.wf,decide_eq_true_eq] at hw;exact ⟨_,rfl,hw⟩
      ·cases h)
end
open Go.RowKit
theorem a89 (a b:Ieee.Datum):b.order a=(a.order b).map Ordering.swap:=by
 cases a<;>cases b
 all_goals simp only [Ieee.Datum.order,Option.map_none,Option.map_some,Option.some.injEq]
 ·rename_i s m i t n j
  rw [Int.min_comm j i,<-Int.compare_swap]
 ·rename_i s m i t
  cases t<;>rfl
 ·rename_i s t n j
  cases s<;>rfl
 rename_i s t
 cases s<;>cases t<;>rfl
theorem a4o (f:Ieee.Format) (x y:Nat):f.order y x=(f.order x y).map Ordering.swap:=a89 _ _
theorem b6T (x y:Nat):(FloatKind.f64.format.order x y==some .gt)=fLt y x:=by
 unfold fLt;rw [a4o _ x y]
 cases FloatKind.f64.format.order x y with
 |none=>rfl
 |some o=>cases o<;>rfl
def O7 (r:Nat):Nat:=(if r<2^52 then r else 2^52+r%2^52)<<<(r / 2^52 - 1)
theorem a12 {r s:Nat} (h:r<s):O7 r<O7 s:=by
 unfold O7;rw [Nat.shiftLeft_eq,Nat.shiftLeft_eq];have hr:=Nat.div_add_mod r (2^52);have hs:=Nat.div_add_mod s (2^52);have hrm:=Nat.mod_lt r (show 0<2^52 by decide);have hsm:=Nat.mod_lt s (show 0<2^52 by decide);have hde:r / 2^52<=s / 2^52:=Nat.div_le_div_right zo
 generalize r / 2^52=e at*
 generalize s / 2^52=d at*
 generalize r%2^52=p at*
 generalize s%2^52=q at*
 rcases Nat.lt_or_eq_of_le hde with hlt|rfl
 ·have h2:¬s<2^52:=zo
  rw [if_neg h2];have hp:2^(e - 1)<=2^(d - 1):=Nat.pow_le_pow_right zd zo;by_cases he:e=0
  ·subst he;have h1:r<2^52:=zo
   rw [if_pos h1];have h3:1<=2^(d - 1):=Nat.one_le_two_pow;have h4:r*2^(0 - 1)=r:=by simp
   rw [h4]
   calc r<2^52:=h1
    _=2^52*1:=by rw [Nat.mul_one]
    _<=(2^52+q)*2^(d - 1):=Nat.mul_le_mul zo h3
  have h1:¬r<2^52:=zo
  rw [if_neg h1];have h3:2^(d - 1)=2^(d - 1 - e)*2^e:=by rw [<-Nat.pow_add];congr 1;omega
  have h4:2^e=2*2^(e - 1):=by
   conv=>lhs;rw [show e=(e - 1)+1 by omega,Nat.pow_succ]
   rw [Nat.mul_comm]
  have h5:1<=2^(d - 1 - e):=Nat.one_le_two_pow;have h6:1<=2^(e - 1):=Nat.one_le_two_pow
  have h7:2*2^(e - 1)<=2^(d - 1):=by
   rw [h3,h4]
   calc 2*2^(e - 1)=1*(2*2^(e - 1)):=by rw [Nat.one_mul]
    _<=2^(d - 1 - e)*(2*2^(e - 1)):=Nat.mul_le_mul_right _ h5
  calc (2^52+p)*2^(e - 1)<(2^52*2)*2^(e - 1):=Nat.mul_lt_mul_of_pos_right zo zo
   _=2^52*(2*2^(e - 1)):=by rw [Nat.mul_assoc]
   _<=2^52*2^(d - 1):=Nat.mul_le_mul_left _ h7
   _<=(2^52+q)*2^(d - 1):=Nat.mul_le_mul_right _ zo
 have h6:0<2^(e - 1):=Nat.two_pow_pos _;refine Nat.mul_lt_mul_of_pos_right ?_ h6;by_cases he:e=0
 ·subst he;rw [if_pos zo,if_pos zo];exact h
 rw [if_neg zo,if_neg zo];omega
theorem a2C {r s:Nat} (h:O7 r=O7 s):r=s:=by
 rcases Nat.lt_trichotomy r s with h1|h1|h1
 ·have:=a12 h1;omega
 ·exact h1
 have:=a12 h1;omega
theorem a1o {r:Nat}:O7 r=0↔r=0:=⟨fun h=>a2C (h.trans zd),fun h=>by subst h;decide⟩
def D8 (x:Nat):Bool:=x / 2^63%2==1
def m7 (x:Nat):Nat:=x%2^63
def I5 (x:Nat):Prop:=m7 x<=9218868437227405312
theorem C2 {x:Nat} (h:m7 x<9218868437227405312):
 FloatKind.f64.format.read x= .number (D8 x) (if m7 x<2^52 then m7 x else 2^52+m7 x%2^52) (-1074+(m7 x / 2^52 - 1:Nat)):=by
 have e1:FloatKind.f64.format.signWeight=2^63:=zd
 have e2:FloatKind.f64.format.binade=2^52:=zd
 have e3:FloatKind.f64.format.infRung=9218868437227405312:=zd
 have e4:FloatKind.f64.format.leastPlace= -1074:=zd
 unfold Ieee.Format.read;rw [e1,e2,e3,e4];show (if m7 x<2^52 then Ieee.Datum.number (D8 x) (m7 x) (-1074) else if m7 x<9218868437227405312 then Ieee.Datum.number (D8 x) (2^52+m7 x%2^52) (-1074+((m7 x / 2^52 - 1:Nat):Int)) else if m7 x=9218868437227405312 then Ieee.Datum.infinity (D8 x) else .nan (D8 x) (m7 x - 9218868437227405312))=_;by_cases h1:m7 x<2^52
 ·rw [if_pos h1,if_pos h1,Nat.div_eq_of_lt h1];rfl
 rw [if_neg h1,if_neg h1,if_pos h]
theorem C3 {x:Nat} (h:m7 x=9218868437227405312):FloatKind.f64.format.read x= .infinity (D8 x):=by
 have e1:FloatKind.f64.format.signWeight=2^63:=zd
 have e2:FloatKind.f64.format.binade=2^52:=zd
 have e3:FloatKind.f64.format.infRung=9218868437227405312:=zd
 unfold Ieee.Format.read;rw [e1,e2,e3];show (if m7 x<2^52 then Ieee.Datum.number (D8 x) (m7 x) _ else if m7 x<9218868437227405312 then Ieee.Datum.number (D8 x) (2^52+m7 x%2^52) _ else if m7 x=9218868437227405312 then Ieee.Datum.infinity (D8 x) else .nan (D8 x) (m7 x - 9218868437227405312))=_;rw [if_neg zo,if_neg zo,if_pos h]
theorem b3E {x:Nat} (h:9218868437227405312<m7 x):∃n,FloatKind.f64.format.read x= .nan (D8 x) n:=by
 have e1:FloatKind.f64.format.signWeight=2^63:=zd
 have e2:FloatKind.f64.format.binade=2^52:=zd
 have e3:FloatKind.f64.format.infRung=9218868437227405312:=zd
 unfold Ieee.Format.read;rw [e1,e2,e3];refine ⟨m7 x - 9218868437227405312, ?_⟩;show (if m7 x<2^52 then Ieee.Datum.number (D8 x) (m7 x) _ else if m7 x<9218868437227405312 then Ieee.Datum.number (D8 x) (2^52+m7 x%2^52) _ else if m7 x=9218868437227405312 then Ieee.Datum.infinity (D8 x) else .nan (D8 x) (m7 x - 9218868437227405312))=_;rw [if_neg zo,if_neg zo,if_neg zo]
theorem C9 {x:Nat}:fEq x x=true↔I5 x:=by
 unfold I5 fEq Ieee.Format.order;rcases Nat.lt_trichotomy (m7 x) 9218868437227405312 with h|h|h
 ·rw [C2 h];simp only [Ieee.Datum.order,beq_iff_eq,Option.some.injEq];constructor
  ·intro _;omega
  intro _;exact Int.compare_eq_eq.2 rfl
 ·rw [C3 h];simp only [Ieee.Datum.order,beq_iff_eq,Option.some.injEq];constructor
  ·intro _;omega
  intro _;exact Nat.compare_eq_eq.2 rfl
 obtain ⟨n,hn⟩:=b3E h;rw [hn];simp only [Ieee.Datum.order];constructor
 ·intro h;cases h
 intro _;omega
theorem a3v (m a b:Nat) (hb:b<=a):m<<<a=(m<<<(a - b))*2^b:=by
 rw [Nat.shiftLeft_eq,Nat.shiftLeft_eq,Nat.mul_assoc,<-Nat.pow_add];congr 2;omega
theorem b1h {s t:Bool} {m n i j:Nat}:Ieee.signed s m ((-1074+(i:Int)) - min (-1074+(i:Int)) (-1074+(j:Int))).toNat=Ieee.signed t n ((-1074+(j:Int)) - min (-1074+(i:Int)) (-1074+(j:Int))).toNat↔m<<<i=n<<<j/\(s=t\/m<<<i=0):=by
 have hi:((-1074+(i:Int)) - min (-1074+(i:Int)) (-1074+(j:Int))).toNat=i - min i j:=zo
 have hj:((-1074+(j:Int)) - min (-1074+(i:Int)) (-1074+(j:Int))).toNat=j - min i j:=zo
 rw [hi,hj];have h1:=a3v m i (min i j) (Nat.min_le_left _ _);have h2:=a3v n j (min i j) (Nat.min_le_right _ _);have hp:0<2^min i j:=Nat.two_pow_pos _;rw [h1,h2];clear h1 h2 hi hj;unfold Ieee.signed
 generalize m<<<(i - min i j)=A
 generalize n<<<(j - min i j)=B
 generalize 2^min i j=P at hp
 have PS:A*P=B*P↔A=B:=⟨fun h=>Nat.eq_of_mul_eq_mul_right hp h,fun h=>by rw [h]⟩
 have Bw:A*P=0↔A=0:=⟨fun h=>by
  rcases Nat.mul_eq_zero.1 h with h|h
  ·exact h
  ·omega,fun h=>by rw [h,Nat.zero_mul]⟩
 rw [PS,Bw];clear PS Bw hp;cases s<;>cases t<;>simp<;>omega
theorem a9S {x y:Nat} (hx:x<2^64) (hy:y<2^64) (hnx:I5 x) (hny:I5 y):fEq x y=true↔x=y\/(m7 x=0/\m7 y=0):=by
 have hxr:x=(if D8 x then 2^63 else 0)+m7 x:=by
  unfold D8 m7;split
  ·rename_i h;rw [beq_iff_eq] at h;omega
  rename_i h;rw [beq_iff_eq] at h;omega
 have Vf:y=(if D8 y then 2^63 else 0)+m7 y:=by
  unfold D8 m7;split
  ·rename_i h;rw [beq_iff_eq] at h;omega
  rename_i h;rw [beq_iff_eq] at h;omega
 have hxy:x=y↔D8 x=D8 y/\m7 x=m7 y:=by
  constructor
  ·intro h;subst h;exact ⟨rfl,rfl⟩
  rintro ⟨h1,h2⟩;rw [hxr,Vf,h1,h2]
 unfold I5 at hnx hny;rw [hxy];unfold fEq Ieee.Format.order;rcases Nat.lt_or_eq_of_le hnx with h1|h1<;>rcases Nat.lt_or_eq_of_le hny with h2|h2
 ·rw [C2 h1,C2 h2];simp only [Ieee.Datum.order,beq_iff_eq,Option.some.injEq];rw [Int.compare_eq_eq,b1h];show O7 (m7 x)=O7 (m7 y)/\(D8 x=D8 y\/O7 (m7 x)=0)↔_;rw [a1o];constructor
  ·rintro ⟨h3,h4|h4⟩
   ·exact .inl ⟨h4,a2C h3⟩
   exact .inr ⟨h4,by rw [<-a2C h3];exact h4⟩
  rintro (⟨h3,h4⟩|⟨h3,h4⟩)
  ·exact ⟨by rw [h4],.inl h3⟩
  exact ⟨by rw [h3,h4],.inr h3⟩
 ·rw [C2 h1,C3 h2];simp only [Ieee.Datum.order,beq_iff_eq,Option.some.injEq];constructor
  ·intro h;cases hs:D8 y<;>rw [hs] at h<;>cases h
  rintro (⟨_,h⟩|⟨_,h⟩)<;>omega
 ·rw [C3 h1,C2 h2];simp only [Ieee.Datum.order,beq_iff_eq,Option.some.injEq];constructor
  ·intro h;cases hs:D8 x<;>rw [hs] at h<;>cases h
  rintro (⟨_,h⟩|⟨h,_⟩)<;>omega
 rw [C3 h1,C3 h2];simp only [Ieee.Datum.order,beq_iff_eq,Option.some.injEq];rw [Nat.compare_eq_eq];constructor
 ·intro h;refine .inl ⟨?_,zo⟩;cases hs:D8 x<;>cases ht:D8 y<;>rw [hs,ht] at h<;>first|rfl|exact absurd h zd
 rintro (⟨h,_⟩|⟨h,_⟩)
 ·rw [h]
 omega
theorem a7z {x:Nat} (hx:x<2^64) (hn:I5 x):fEq x 0=true↔m7 x=0:=by
 rw [a9S hx zd hn (by unfold I5 m7;decide)];have h0:m7 0=0:=zd
 constructor
 ·rintro (h|h)
  ·rw [h];exact h0
  exact h.1
 intro h;exact .inr ⟨h,h0⟩
theorem U3 {x:Nat} (hx:x<2^64) (hn:I5 x):m4 x=if m7 x=0 then 0 else x:=by
 unfold m4;rw [if_pos (C9.2 hn)];by_cases h:m7 x=0
 ·rw [if_pos h,if_pos ((a7z hx hn).2 h)]
 rw [if_neg h,if_neg (fun h'=>h ((a7z hx hn).1 h'))]
theorem b5l {x y:Nat} (hx:x<2^64) (hy:y<2^64) (hnx:I5 x) (hny:I5 y):a02 x=a02 y↔m4 x=m4 y:=by
 have hc:∀{x:Nat},x<2^64->I5 x->m4 x<2^64/\I5 (m4 x):=fun {x} hx hn=>by
  rw [U3 hx hn];split
  ·exact ⟨zd,by unfold I5 m7;decide⟩
  exact ⟨hx,hn⟩
 obtain ⟨h1,h2⟩:=hc hx hnx;obtain ⟨h3,h4⟩:=hc hy hny;unfold a02;rw [if_pos (C9.2 h2),if_pos (C9.2 h4)];constructor
 ·intro h;split at h<;>split at h<;>omega
 intro h;rw [h]
theorem a9a {x y:Nat} (hx:x<2^64) (hy:y<2^64) (hnx:fEq x x=true) (hny:fEq y y=true):(a02 x==a02 y)=fEq x y:=by
 rw [C9] at hnx hny;rw [Bool.eq_iff_iff,beq_iff_eq,b5l hx hy hnx hny,a9S hx hy hnx hny,U3 hx hnx,U3 hy hny];constructor
 ·intro h;split at h<;>split at h
  ·exact .inr ⟨by assumption,by assumption⟩
  ·rename_i h1 h2;subst h;exact absurd zd h2
  ·rename_i h1 h2;subst h;exact absurd zd h1
  exact .inl h
 rintro (h|⟨h,h'⟩)
 ·rw [h]
 rw [if_pos h,if_pos h']
theorem b3F {x y:Nat} (hnx:fEq x x=true) (hny:fEq y y=true):fEq x y=(!fLt x y&& !fLt y x):=by
 have hno:FloatKind.f64.format.order x y≠none:=by
  rw [C9] at hnx hny;unfold I5 at hnx hny;unfold Ieee.Format.order;rcases Nat.lt_or_eq_of_le hnx with h1|h1<;>rcases Nat.lt_or_eq_of_le hny with h2|h2
  ·rw [C2 h1,C2 h2];simp [Ieee.Datum.order]
  ·rw [C2 h1,C3 h2];simp [Ieee.Datum.order]
  ·rw [C3 h1,C2 h2];simp [Ieee.Datum.order]
  rw [C3 h1,C3 h2];simp [Ieee.Datum.order]
 unfold fEq fLt;rw [a4o _ x y]
 cases h:FloatKind.f64.format.order x y with
 |none=>exact absurd h hno
 |some o=>cases o<;>rfl
end Go.Proofs.YtebhabpahfmodaaGreatDoor
