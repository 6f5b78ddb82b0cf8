/- Lemmas. -/
import Derived.Test.YtdmjoodhaeijmaaGreatDoorZn22
import Derived.Test.YtdmjoodhaeijmaaGreatDoorZn25
set_option maxHeartbeats 40000000
set_option maxRecDepth 20000
namespace Go.Proofs.YtdmjoodhaeijmaaGreatDoor
open Go.RowKit
def a2S (c:Cnd) (l:List Att):Bool:=l.any fun a=>a.name.toList==c.name.toList&&c.holds a.v
theorem a9M (c:Cnd):c.norm.name=c.name:=by unfold Cnd.norm;split<;>rfl
theorem b38 (c:Cnd):c.norm.op=c.op:=by
 unfold Cnd.norm;split
 ·rename_i h;exact h.symm
 rfl
def a05 (f:Fil) (es:ByteArray) (L:List Att):Bool:=A7 es f.1&&f.2.all fun c=>a2S c L
section
open Go.RowKit Go.Sort
def V8:List (List UInt8)->List (List UInt8)
 |[]=>[]
 |k::l=>if k∈V8 l then V8 l else k::V8 l
theorem a9N {l:List (List UInt8)} {k:List UInt8}:k∈V8 l↔k∈l:=by
 induction l generalizing k with
 |nil=>exact Iff.rfl
 | cons a l ih=>
  unfold V8;split
  ·rename_i h
   rw [ih,List.mem_cons];exact ⟨.inr,fun h2=>h2.elim (fun e=>by rw [e];exact ih.1 h) id⟩
  rw [List.mem_cons,List.mem_cons,ih]
theorem a2q (l:List (List UInt8)):(V8 l).Nodup:=by
 induction l with
 |nil=>exact List.nodup_nil
 | cons a l ih=>
  unfold V8;split
  ·exact ih
  rename_i h
  exact List.nodup_cons.2 ⟨h,ih⟩
def Z3 (M:List (Int×Fil)) (td:Int) (k:List UInt8):Option Fil:=(M.find? fun p=> !(p.1==td)&&i7 p.2==k).map Prod.snd
def a15 (M:List (Int×Fil)) (td:Int):List (List UInt8):=K4 (V8 ((M.filter fun p=> !(p.1==td)).map fun p=>i7 p.2))
def b1F (f g:Fil):Bool:=b6L f.1 f.2 g.1 g.2
def a6r (g:List UInt8->Option Fil) (ks:List (List UInt8)) (k:List UInt8) (f:Fil):Bool:=
 ks.any fun j=>match g j with|some h=>decide (j≠k)&&(b1F h f&&(decide (j<k)|| !b1F f h))|none=>false
def C3 (M:List (Int×Fil)) (td:Int):List Fil:=(a15 M td).filterMap fun k=>(Z3 M td k).filter fun f=> !a6r (Z3 M td) (a15 M td) k f
theorem a16 {L:List (List UInt8)} {x:List UInt8}:x∈K4 L↔x∈L:=(List.mergeSort_perm L leB).mem_iff
theorem b1G {L:List (List UInt8)} (h:L.Nodup):(K4 L).Pairwise (· < ·):=by
 have h1:(K4 L).Pairwise (fun a b=>leB a b=true):=by
  unfold K4;refine List.pairwise_mergeSort (fun a b c h1 h2=> ?_) (fun a b=> ?_) L
  ·unfold leB at*;simp only [decide_eq_true_eq] at*;exact List.le_trans h1 h2
  unfold leB;simp only [Bool.or_eq_true,decide_eq_true_eq];exact List.le_total a b
 have h2:(K4 L).Nodup:=(List.mergeSort_perm L leB).nodup_iff.2 h;refine (h1.and h2).imp fun {a b} h=> ?_
 have h3:a<=b:=by
  have:=h.1;unfold leB at this;simpa using this
 exact Classical.byContradiction fun h4=>h.2 (List.le_antisymm h3 h4)
theorem C8 {M:List (Int×Fil)} {td:Int} {k:List UInt8} {q:Fil} (h:Z3 M td k=some q):i7 q=k/\∃x,x≠td/\(x,q)∈M:=by
 unfold Z3 at h;obtain ⟨p,h1,rfl⟩:=Option.map_eq_some_iff.1 h;have h2:=List.find?_some h1;simp only [Bool.and_eq_true,beq_iff_eq,Bool.not_eq_true',beq_eq_false_iff_ne] at h2;exact ⟨h2.2,p.1,h2.1,List.mem_of_find?_eq_some h1⟩
theorem a6s {M:List (Int×Fil)} {td x:Int} {q:Fil} (h:(x,q)∈M) (hx:x≠td):∃r,Z3 M td (i7 q)=some r:=by
 cases h1:Z3 M td (i7 q) with
 |some r=>exact ⟨r,rfl⟩
 |none=>
  unfold Z3 at h1;rw [Option.map_eq_none_iff,List.find?_eq_none] at h1;have:=h1 _ h;simp [hx] at this
theorem b1H {M:List (Int×Fil)} {td:Int} {k:List UInt8}:k∈a15 M td↔∃q,Z3 M td k=some q:=by
 unfold a15;rw [a16,a9N];constructor
 ·intro h;obtain ⟨p,h1,rfl⟩:=List.mem_map.1 h;obtain ⟨h1,h2⟩:=List.mem_filter.1 h1;exact a6s (x:=p.1) h1 (by simpa using h2)
 rintro ⟨q,h⟩;obtain ⟨rfl,x,h1,h2⟩:=C8 h;exact List.mem_map.2 ⟨(x,q),List.mem_filter.2 ⟨h2,by simpa using h1⟩,rfl⟩
theorem b39 (M:List (Int×Fil)) (td:Int):(a15 M td).Pairwise (· < ·):=b1G (a2q _)
theorem a3B {M:List (Int×Fil)} {td:Int} {f:Fil} (h:f∈C3 M td):Z3 M td (i7 f)=some f/\a6r (Z3 M td) (a15 M td) (i7 f) f=false:=by
 unfold C3 at h;obtain ⟨k,h1,h2⟩:=List.mem_filterMap.1 h;obtain ⟨h3,h4⟩:=Option.filter_eq_some_iff.1 h2;obtain ⟨rfl, -⟩:=C8 h3;exact ⟨h3,by simpa using h4⟩
theorem a8O (M:List (Int×Fil)) (td:Int):(C3 M td).Pairwise fun a b=>i7 a<i7 b:=by
 unfold C3;rw [List.pairwise_filterMap];refine (b39 M td).imp fun {a b} h f hf g hg=> ?_;obtain ⟨h3, -⟩:=Option.filter_eq_some_iff.1 hf;obtain ⟨h4, -⟩:=Option.filter_eq_some_iff.1 hg;rw [(C8 h3).1,(C8 h4).1];exact h
end
end Go.Proofs.YtdmjoodhaeijmaaGreatDoor
