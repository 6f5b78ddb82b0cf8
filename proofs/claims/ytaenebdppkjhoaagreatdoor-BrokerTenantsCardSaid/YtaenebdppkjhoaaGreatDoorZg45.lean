/- Lemmas. -/
import Derived.Test.YtaenebdppkjhoaaGreatDoorZg42
namespace Go.Proofs.YtaenebdppkjhoaaGreatDoor
set_option maxRecDepth 20000
set_option maxHeartbeats 40000000
section
open Go.RowKit
def b1Y (L:List PRu) (tenant:Int) (who:ByteArray) (es:ByteArray) (el:List Att):Bool:=
 (a0y L tenant who).isSome&&L.any fun p=>(p.lies none 0).of 1 tenant who&&H5 p.sc p.cs es el
theorem b3S (l:List Ru) (tenant:Int) (who:ByteArray) (es:ByteArray) (el:List Att):
 b1Y (l.map Ru.pru) tenant who es el=((A5 l tenant who).isSome&&l.any fun r=>r.of 1 tenant who&&H5 r.sc r.cs es el):=by
 unfold b1Y;rw [a07,List.any_map];rfl
def BS.pubE (B:BS) (id tenant:Int) (who:ByteArray) (es:ByteArray) (el:List Att):Int:=
 if (o7 el&&s5 es)=true then if B.there id tenant who=true then if b1Y (atP B.L B.L.length) tenant who es el=true then 0 else 5 else 3 else 1
structure PbS (wa:World) (k:Nat) (es:ByteArray) (ea:Option Addr) (n ec:Nat) (y:World):Prop where
 e0:y.cell? ⟨k,0,none⟩=some (.string es)
 e1:y.cell? ⟨k,1,none⟩=some (.slice ea n ec)
 md:Mod (fun _=>False) wa y
theorem a0C {l:List Att} (h:o7 l=true):Go.Proofs.YtaenebdppkjhoaaGreatDoor.u7 l:=by
 unfold o7 at h;simp only [Bool.and_eq_true,List.all_eq_true,decide_eq_true_eq] at h
 have st:∀(k:Nat) (x y:Att),l[k]? =some x->l[k+1]? =some y->Op.bytesLess x.name.data.toList y.name.data.toList=true:=fun k x y hx hy=>by
  have h1:=h.1 (k+1) (List.mem_range.2 (zz6 hy).1);rw [a8y hy (q:=x) (by simpa using hx)] at h1;simp only [Bool.and_eq_true,Bool.or_eq_true,decide_eq_true_eq] at h1;have h2:=h1.1.2;rw [ByteArray.toList_eq,ByteArray.toList_eq] at h2;rcases h2 with h2|h2
  ·omega
  exact h2
 suffices∀(d i:Nat) (x y:Att),l[i]? =some x->l[i+1+d]? =some y->Op.bytesLess x.name.data.toList y.name.data.toList=true from fun i j x y hij hx hy=>this (j - i - 1) i x y hx (by rw [show i+1+(j - i - 1)=j by omega];exact hy)
 intro d
 induction d with
 |zero=>intro i x y hx hy;exact st i x y hx hy
 |succ d ih=>
  intro i x y hx hy;obtain ⟨z,hz⟩:∃z,l[i+1+d]? =some z:=⟨_,zz5 (by have:=(zz6 hy).1;omega)⟩;exact P5 _ _ _ (ih i x z hx hz) (st (i+1+d) z y hz hy)
end
end Go.Proofs.YtaenebdppkjhoaaGreatDoor
