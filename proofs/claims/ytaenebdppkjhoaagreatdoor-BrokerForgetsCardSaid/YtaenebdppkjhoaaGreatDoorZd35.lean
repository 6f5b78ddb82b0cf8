/- Lemmas of this claim. -/
import Derived.Test.YtaenebdppkjhoaaGreatDoorZd33
import Derived.Test.YtaenebdppkjhoaaGreatDoorZd30
namespace Go.Proofs.YtaenebdppkjhoaaGreatDoor
set_option maxRecDepth 20000
set_option maxHeartbeats 40000000
section
open Go.RowKit
def CntR (w:World) (mc K:Nat) (g:Int→Nat):Prop:=∃n f,MapR w 3 mc n f∧n≤K∧(∀id:Int,(f (.int .i64 id)).getD (.int .i64 0)= .int .i64 (g id))∧∀id,g id≤K
theorem CntR.mod {w w':World} {mc K:Nat} {g:Int→Nat} {F:Nat→Prop} (h:CntR w mc K g) (hm:Mod F w w') (hF:¬F mc):CntR w' mc K g:=by
 obtain ⟨n,f,h1,h2⟩:=h
 exact ⟨n,f,h1.mod hm hF,h2⟩
theorem CntR.cong {w:World} {mc K K':Nat} {g g':Int→Nat} (h:CntR w mc K g) (hK:K≤K') (hg:∀id,g' id=g id):CntR w mc K' g':=by
 obtain ⟨n,f,h1,h2,h3,h4⟩:=h
 exact ⟨n,f,h1,Nat.le_trans h2 hK,fun id=>by rw [hg];exact h3 id,fun id=>by rw [hg];exact Nat.le_trans (h4 id) hK⟩
theorem rd_int {w:World} {a:Option Addr} {n cap:Nat} {l:List Int} {j:Nat} {x:Int} (h:RdSl w 1 (.slice a n cap) n (l.map (Value.int .i64))) (hx:l[j]? =some x):∃g off,a=some ⟨g,off,none⟩∧w.cell? ⟨g,off+j,none⟩=some (.int .i64 x):=by
 obtain ⟨h0,a',c',h1, -,h3,h4⟩:=h
 cases h1
 have hj:=(List.getElem?_eq_some_iff.1 hx).1
 have hn:n=l.length:=by rw [List.length_map] at h0;omega
 cases a with
 |none=>exact absurd (h3 rfl) (by omega)
 |some b=>
  obtain ⟨g',off',h5,h6⟩:=h4 _ rfl (by omega)
  exact ⟨g',off',by rw [h5],h6 j _ (by rw [List.getElem?_map,hx];rfl)⟩
theorem CellsAt.part {w:World} {g off:Nat} {l m:List Value} (h:CellsAt w g off (l++m)) {n:Nat} (hn:l.length=n):CellsAt w g (off+n) m:=fun j u hu=>by
 have:=h (n+j) u (by rw [List.getElem?_append_right (by omega),←hn,Nat.add_sub_cancel_left];exact hu)
 rwa [←Nat.add_assoc] at this
attribute [local go_sem ↓] run_load_cd
end
section
open Go.RowKit
theorem norm_name (c:Cnd):c.norm.name=c.name:=by unfold Cnd.norm;split<;>rfl
theorem norm_op (c:Cnd):c.norm.op=c.op:=by
 unfold Cnd.norm
 split
 ·rename_i h;exact h.symm
 ·rfl
theorem filter_lt {α:Type} {p q:α→Bool} {l:List α} (h:∀x∈l,p x=true→q x=true) {x:α} (hx:x∈l) (hq:q x=true) (hp:p x=false):(l.filter p).length<(l.filter q).length:=by
 induction l with
 |nil=>cases hx
 | cons y l ih=>
  have hle:(l.filter p).length≤(l.filter q).length:=by
   clear ih hx
   have h':∀x∈l,p x=true→q x=true:=fun x hx=>h x (List.mem_cons_of_mem _ hx)
   clear h
   induction l with
   |nil=>exact Nat.le_refl _
   |cons z l ih2=>
    have:=ih2 (fun x hx=>h' x (List.mem_cons_of_mem _ hx))
    rw [List.filter_cons,List.filter_cons]
    have hz:=h' z (List.mem_cons_self ..)
    cases hpz:p z<;>cases hqz:q z
    ·simpa using this
    ·simp;omega
    ·rw [hz hpz] at hqz;cases hqz
    ·simpa using this
  rw [List.filter_cons,List.filter_cons]
  rcases List.mem_cons.1 hx with rfl|hx
  ·rw [hp,hq];simp;omega
  ·have h1:=ih (fun x hx=>h x (List.mem_cons_of_mem _ hx)) hx
   have hy:=h y (List.mem_cons_self ..)
   cases hpy:p y<;>cases hqy:q y
   ·simpa using h1
   ·simp;omega
   ·rw [hy hpy] at hqy;cases hqy
   ·simpa using h1
structure Cnd.whole (c:Cnd):Prop where
 op:0≤c.op∧c.op≤7
 kind:0≤c.v.kind∧c.v.kind≤3
 num:c.v.num<2^64
end
section
open Go.RowKit Go.Sort
def onceS:List (List UInt8)→List (List UInt8)
 |[]=>[]
 |k::l=>if k∈onceS l then onceS l else k::onceS l
theorem onceS_mem {l:List (List UInt8)} {k:List UInt8}:k∈onceS l↔k∈l:=by
 induction l generalizing k with
 |nil=>exact Iff.rfl
 | cons a l ih=>
  unfold onceS
  split
  ·rename_i h
   rw [ih,List.mem_cons]
   exact ⟨.inr,fun h2=>h2.elim (fun e=>by rw [e];exact ih.1 h) id⟩
  ·rw [List.mem_cons,List.mem_cons,ih]
theorem onceS_nodup (l:List (List UInt8)):(onceS l).Nodup:=by
 induction l with
 |nil=>exact List.nodup_nil
 | cons a l ih=>
  unfold onceS
  split
  ·exact ih
  ·rename_i h
   exact List.nodup_cons.2 ⟨h,ih⟩
def allF (M:List (Int×Fil)) (td:Int) (k:List UInt8):Option Fil:=(M.find? fun p=> !(p.1==td)&&keyF p.2==k).map Prod.snd
def allK (M:List (Int×Fil)) (td:Int):List (List UInt8):=riseS (onceS ((M.filter fun p=> !(p.1==td)).map fun p=>keyF p.2))
def covQ (f g:Fil):Bool:=covF f.1 f.2 g.1 g.2
def covdF (g:List UInt8→Option Fil) (ks:List (List UInt8)) (k:List UInt8) (f:Fil):Bool:=
 ks.any fun j=>match g j with|some h=>decide (j≠k)&&(covQ h f&&(decide (j<k)|| !covQ f h))|none=>false
def outL (M:List (Int×Fil)) (td:Int):List Fil:=(allK M td).filterMap fun k=>(allF M td k).filter fun f=> !covdF (allF M td) (allK M td) k f
theorem riseS_mem {L:List (List UInt8)} {x:List UInt8}:x∈riseS L↔x∈L:=(List.mergeSort_perm L leB).mem_iff
theorem riseS_lt {L:List (List UInt8)} (h:L.Nodup):(riseS L).Pairwise (· < ·):=by
 have h1:(riseS L).Pairwise (fun a b=>leB a b=true):=by
  unfold riseS
  refine List.pairwise_mergeSort (fun a b c h1 h2=> ?_) (fun a b=> ?_) L
  ·unfold leB at*
   simp only [decide_eq_true_eq] at*
   exact List.le_trans h1 h2
  ·unfold leB
   simp only [Bool.or_eq_true,decide_eq_true_eq]
   exact List.le_total a b
 have h2:(riseS L).Nodup:=(List.mergeSort_perm L leB).nodup_iff.2 h
 refine (h1.and h2).imp fun {a b} h=> ?_
 have h3:a≤b:=by
  have:=h.1
  unfold leB at this
  simpa using this
 exact Classical.byContradiction fun h4=>h.2 (List.le_antisymm h3 h4)
theorem allF_some {M:List (Int×Fil)} {td:Int} {k:List UInt8} {q:Fil} (h:allF M td k=some q):keyF q=k∧∃x,x≠td∧(x,q)∈M:=by
 unfold allF at h
 obtain ⟨p,h1,rfl⟩:=Option.map_eq_some_iff.1 h
 have h2:=List.find?_some h1
 simp only [Bool.and_eq_true,beq_iff_eq,Bool.not_eq_true',beq_eq_false_iff_ne] at h2
 exact ⟨h2.2,p.1,h2.1,List.mem_of_find?_eq_some h1⟩
theorem allF_has {M:List (Int×Fil)} {td x:Int} {q:Fil} (h:(x,q)∈M) (hx:x≠td):∃r,allF M td (keyF q)=some r:=by
 cases h1:allF M td (keyF q) with
 |some r=>exact ⟨r,rfl⟩
 |none=>
  unfold allF at h1
  rw [Option.map_eq_none_iff,List.find?_eq_none] at h1
  have:=h1 _ h
  simp [hx] at this
theorem allK_mem {M:List (Int×Fil)} {td:Int} {k:List UInt8}:k∈allK M td↔∃q,allF M td k=some q:=by
 unfold allK
 rw [riseS_mem,onceS_mem]
 constructor
 ·intro h
  obtain ⟨p,h1,rfl⟩:=List.mem_map.1 h
  obtain ⟨h1,h2⟩:=List.mem_filter.1 h1
  exact allF_has (x:=p.1) h1 (by simpa using h2)
 ·rintro ⟨q,h⟩
  obtain ⟨rfl,x,h1,h2⟩:=allF_some h
  exact List.mem_map.2 ⟨(x,q),List.mem_filter.2 ⟨h2,by simpa using h1⟩,rfl⟩
theorem allK_lt (M:List (Int×Fil)) (td:Int):(allK M td).Pairwise (· < ·):=riseS_lt (onceS_nodup _)
def TabOk (M:List (Int×Fil)):Prop:=∀p∈M,okCs p.2.2
theorem outL_mem {M:List (Int×Fil)} {td:Int} {f:Fil} (h:f∈outL M td):allF M td (keyF f)=some f∧covdF (allF M td) (allK M td) (keyF f) f=false:=by
 unfold outL at h
 obtain ⟨k,h1,h2⟩:=List.mem_filterMap.1 h
 obtain ⟨h3,h4⟩:=Option.filter_eq_some_iff.1 h2
 obtain ⟨rfl, -⟩:=allF_some h3
 exact ⟨h3,by simpa using h4⟩
theorem outL_lt (M:List (Int×Fil)) (td:Int):(outL M td).Pairwise fun a b=>keyF a<keyF b:=by
 unfold outL
 rw [List.pairwise_filterMap]
 refine (allK_lt M td).imp fun {a b} h f hf g hg=> ?_
 obtain ⟨h3, -⟩:=Option.filter_eq_some_iff.1 hf
 obtain ⟨h4, -⟩:=Option.filter_eq_some_iff.1 hg
 rw [(allF_some h3).1,(allF_some h4).1]
 exact h
theorem covQ_trans {a b c:Fil} (ha:okCs a.2) (hb:okCs b.2) (hc:okCs c.2) (h1:covQ a b=true) (h2:covQ b c=true):covQ a c=true:=covF_trans ha hb hc h1 h2
theorem outL_cover {M:List (Int×Fil)} {td:Int} (hM:TabOk M):∀(n:Nat) (k:List UInt8) (f:Fil),allF M td k=some f→
 ((allK M td).filter fun j=>match allF M td j with|some h=>decide (j≠k)&&(covQ h f&&(decide (j<k)|| !covQ f h))|none=>false).length≤n→∃g∈outL M td,covQ g f=true
 | n, k, f,hf,hn=>by
  have okf:okCs f.2:=by
   obtain ⟨-,x, -,h⟩:=allF_some hf
   exact hM _ h
  have hkf:=(allF_some hf).1
  cases hb:covdF (allF M td) (allK M td) k f with
  |false=>
   refine ⟨f, ?_,covF_refl okf⟩
   unfold outL
   exact List.mem_filterMap.2 ⟨k,allK_mem.2 ⟨f,hf⟩,Option.filter_eq_some_iff.2 ⟨hf,by simp [hb]⟩⟩
  | true =>
   unfold covdF at hb
   obtain ⟨j,hj,hb⟩:=List.any_eq_true.1 hb
   obtain ⟨h,hh⟩:=allK_mem.1 hj
   have hkh:=(allF_some hh).1
   have okh:okCs h.2:=by
    obtain ⟨-,x, -,h⟩:=allF_some hh
    exact hM _ h
   rw [hh] at hb
   simp only [Bool.and_eq_true,decide_eq_true_eq,Bool.or_eq_true,Bool.not_eq_true'] at hb
   obtain ⟨hne,hc,ho⟩:=hb
   have hlt:=filter_lt (l:=allK M td) (x:=j)
    (p:=fun i=>match allF M td i with|some r=>decide (i≠j)&&(covQ r h&&(decide (i<j)|| !covQ h r))|none=>false)
    (q:=fun i=>match allF M td i with|some r=>decide (i≠k)&&(covQ r f&&(decide (i<k)|| !covQ f r))|none=>false) (fun i hi hp=>by
      cases hr:allF M td i with
      |none=>rw [hr] at hp;cases hp
      | some r=>
       have okr:okCs r.2:=by
        obtain ⟨-,x, -,h⟩:=allF_some hr
        exact hM _ h
       rw [hr] at hp
       simp only [Bool.and_eq_true,decide_eq_true_eq,Bool.or_eq_true,Bool.not_eq_true'] at hp⊢
       obtain ⟨p1,p2,p3⟩:=hp
       have hrf:=covQ_trans okr okh okf p2 hc
       refine ⟨fun e=> ?_,hrf, ?_⟩
       ·subst e
        rw [hf] at hr
        cases hr
        have h1:i<j:=p3.resolve_right (by rw [hc];simp)
        have h2:j<i:=ho.resolve_right (by rw [p2];simp)
        exact absurd h2 (List.lt_asymm h1)
       ·cases hfr:covQ f r with
        |false=>exact .inr rfl
        |true=>
         have h1:=covQ_trans okf okr okh hfr p2
         have h2:=covQ_trans okh okf okr hc hfr
         have h3:i<j:=p3.resolve_right (by rw [h2];simp)
         have h4:j<k:=ho.resolve_right (by rw [h1];simp)
         exact .inl (List.lt_trans h3 h4)) hj (by rw [hh];simp [hne,hc,ho]) (by rw [hh];simp)
   match n,hn with
   |0,hn=>omega
   | n+1,hn=>
    obtain ⟨g,hg,hgc⟩:=outL_cover hM n j h hh (by omega)
    have okg:okCs g.2:=by
     obtain ⟨-,x, -,h⟩:=allF_some (outL_mem hg).1
     exact hM _ h
    exact ⟨g,hg,covQ_trans okg okh okf hgc hc⟩
end
section
open Go.RowKit
abbrev Ow:=Nat→Nat
structure Owd (w0 w:World) (ow:Ow):Prop where
 hi:∀k,ow k≠0→k<w.heap.size
 lo:∀k,ow k≠0→w0.heap.size≤k
 laid:Laid w0 w
structure Mov (F:Nat→Prop) (w:World) (ow:Ow) (w':World) (ow':Ow):Prop where
 md:Mod (fun k=>F (ow k)) w w'
 old:∀k,k<w.heap.size→ow' k=ow k
 new:∀k,w.heap.size≤k→ow' k=0∨ow' k=1∨F (ow' k)
 top:∀k,w'.heap.size≤k→ow' k=0
theorem Owd.zero {w0 w:World} {ow:Ow} (h:Owd w0 w ow) {k:Nat} (hk:w.heap.size≤k):ow k=0:=by
 by_cases e:ow k=0
 ·exact e
 ·have:=h.hi k e;omega
theorem Mov.owd {F:Nat→Prop} {w0 w w':World} {ow ow':Ow} (s:Mov F w ow w' ow') (h:Owd w0 w ow) (h0:¬F 0):Owd w0 w' ow':=by
 refine ⟨fun k hk=> ?_,fun k hk=> ?_,h.laid.mod s.md (fun k hk hf=> ?_)⟩
 ·by_cases hl:k<w'.heap.size
  ·exact hl
  ·exact absurd (s.top k (by omega)) hk
 ·by_cases hl:k<w.heap.size
  ·rw [s.old k hl] at hk;exact h.lo k hk
  ·have:=h.laid.size;omega
 ·have hf':F (ow k):=hf
  by_cases e:ow k=0
  ·rw [e] at hf';exact h0 hf'
  ·have:=h.lo k e;omega
theorem Mov.refl {F:Nat→Prop} {w0 w:World} {ow:Ow} (h:Owd w0 w ow):Mov F w ow w ow:=
 ⟨Mod.refl _ _,fun _ _=>rfl,fun _ hk=> .inl (h.zero hk),fun _ hk=>h.zero hk⟩
theorem Mov.of {w0 w w':World} {ow:Ow} (h:Owd w0 w ow) (hm:Mod (fun _=>False) w w') (F:Nat→Prop):Mov F w ow w' ow:=
 ⟨hm.mono (fun _ _ h=>h.elim),fun _ _=>rfl,fun _ hk=> .inl (h.zero hk),fun _ hk=>h.zero (Nat.le_trans hm.size hk)⟩
theorem Mov.mono {F G:Nat→Prop} {w w':World} {ow ow':Ow} (s:Mov F w ow w' ow') (h:∀t,F t→G t):Mov G w ow w' ow':=
 ⟨s.md.mono (fun _ _ hf=>h _ hf),s.old,fun k hk=>(s.new k hk).imp_right (fun h2=>h2.imp_right (h _)),s.top⟩
theorem Mov.trans {F:Nat→Prop} {w w' w'':World} {ow ow' ow'':Ow} (s:Mov F w ow w' ow') (t:Mov F w' ow' w'' ow''):Mov F w ow w'' ow'':=by
 refine ⟨s.md.trans t.md (fun k hk hf=> ?_),fun k hk=> ?_,fun k hk=> ?_,t.top⟩
 ·have hf':F (ow' k):=hf
  rw [s.old k hk] at hf'
  exact hf'
 ·rw [t.old k (Nat.lt_of_lt_of_le hk s.md.size),s.old k hk]
 ·by_cases hl:k<w'.heap.size
  ·rw [t.old k hl];exact s.new k hk
  ·exact t.new k (by omega)
theorem Mov.upon {F G:Nat→Prop} {w w' w'':World} {ow ow' ow'':Ow} (s:Mov F w ow w' ow') (t:Mov G w' ow' w'' ow'') (hG:∀k,G (ow' k)→F (ow' k)∨w.heap.size≤k) (hn:∀t,G t→F t∨t=1):Mov F w ow w'' ow'':=by
 refine ⟨s.md.trans t.md (fun k hk hf=> ?_),fun k hk=> ?_,fun k hk=> ?_,t.top⟩
 ·rcases hG k hf with h|h
  ·have h':F (ow' k):=h
   rw [s.old k hk] at h'
   exact h'
  ·omega
 ·rw [t.old k (Nat.lt_of_lt_of_le hk s.md.size),s.old k hk]
 ·by_cases hl:k<w'.heap.size
  ·rw [t.old k hl];exact s.new k hk
  ·rcases t.new k (by omega) with h|h|h
   ·exact .inl h
   ·exact .inr (.inl h)
   ·exact (hn _ h).elim (fun h=> .inr (.inr h)) (fun h=> .inr (.inl h))
noncomputable def tagOne (ow:Ow) (b t:Nat):Ow:=fun k=>if k=b then t else ow k
theorem tagOne_at (ow:Ow) (b t:Nat):tagOne ow b t b=t:=if_pos rfl
theorem tagOne_ne (ow:Ow) {b k:Nat} (t:Nat) (h:k≠b):tagOne ow b t k=ow k:=if_neg h
theorem Mov.alloc {F:Nat→Prop} {w0 w:World} {ow:Ow} (h:Owd w0 w ow) (o:Obj) (t:Nat) (ht:t=0∨t=1∨F t):Mov F w ow (w.alloc o) (tagOne ow w.heap.size t):=by
 have hz:(w.alloc o).heap.size=w.heap.size+1:=by simp
 refine ⟨(Mod.refl _ w).alloc o,fun k hk=>tagOne_ne _ _ (by omega),fun k hk=> ?_,fun k hk=> ?_⟩
 ·by_cases e:k=w.heap.size
  ·subst e;rw [tagOne_at];exact ht
  ·rw [tagOne_ne _ _ e];exact .inl (h.zero hk)
 ·rw [tagOne_ne _ _ (by omega)];exact h.zero (by omega)
theorem Mov.wrote {F:Nat→Prop} {w0 w w':World} {ow:Ow} (h:Owd w0 w ow) {G:Nat→Prop} (hm:Mod G w w') (hG:∀k,G k→F (ow k)):Mov F w ow w' ow:=
 ⟨hm.mono (fun k _ hk=>hG k hk),fun _ _=>rfl,fun _ hk=> .inl (h.zero hk),fun _ hk=>h.zero (Nat.le_trans hm.size hk)⟩
noncomputable def tagNew (w w':World) (ow:Ow) (own' C':Nat→Prop) (c:Nat):Ow:=by
 classical exact fun k=>if k<w.heap.size then ow k else if k<w'.heap.size then (if own' k then c else if C' k then 0 else 1) else 0
theorem tagNew_old {w w':World} {ow:Ow} {own' C':Nat→Prop} {c k:Nat} (h:k<w.heap.size):tagNew w w' ow own' C' c k=ow k:=by
 unfold tagNew;rw [if_pos h]
theorem tagNew_own {w w':World} {ow:Ow} {own' C':Nat→Prop} {c k:Nat} (h:w.heap.size≤k) (h2:k<w'.heap.size) (h3:own' k):tagNew w w' ow own' C' c k=c:=by
 unfold tagNew;rw [if_neg (by omega),if_pos h2,if_pos h3]
theorem tagNew_C {w w':World} {ow:Ow} {own' C':Nat→Prop} {c k:Nat} (h:w.heap.size≤k) (h2:k<w'.heap.size) (h3:¬own' k) (h4:C' k):tagNew w w' ow own' C' c k=0:=by
 unfold tagNew;rw [if_neg (by omega),if_pos h2,if_neg h3,if_pos h4]
theorem tagNew_top {w w':World} {ow:Ow} {own' C':Nat→Prop} {c k:Nat} (h:w.heap.size≤k) (h2:w'.heap.size≤k):tagNew w w' ow own' C' c k=0:=by
 unfold tagNew;rw [if_neg (by omega),if_neg (by omega)]
theorem tagNew_is {w w':World} {ow:Ow} {own' C':Nat→Prop} {c k:Nat} (h:w.heap.size≤k) (h2:tagNew w w' ow own' C' c k=c) (hc:2≤c):own' k∧k<w'.heap.size:=by
 by_cases hk:k<w'.heap.size
 ·refine ⟨?_,hk⟩
  by_cases ho:own' k
  ·exact ho
  ·unfold tagNew at h2
   rw [if_neg (by omega),if_pos hk,if_neg ho] at h2
   split at h2<;>omega
 ·rw [tagNew_top h (by omega)] at h2;omega
theorem Mov.tag {F:Nat→Prop} {w w':World} {ow:Ow} {own' C':Nat→Prop} {c:Nat} (hF:F c) (hm:Mod (fun k=>F (ow k)) w w'):Mov F w ow w' (tagNew w w' ow own' C' c):=by
 refine ⟨hm,fun k hk=>tagNew_old hk,fun k hk=> ?_,fun k hk=>tagNew_top (Nat.le_trans hm.size hk) hk⟩
 by_cases h2:k<w'.heap.size
 ·by_cases ho:own' k
  ·refine .inr (.inr ?_)
   rw [tagNew_own hk h2 ho]
   exact hF
  ·by_cases hC:C' k
   ·exact .inl (tagNew_C hk h2 ho hC)
   ·right;left
    unfold tagNew
    rw [if_neg (by omega),if_pos h2,if_neg ho,if_neg hC]
 ·exact .inl (tagNew_top hk (by omega))
theorem Mov.mod0 {F:Nat→Prop} {w0 w w':World} {ow ow':Ow} (s:Mov F w ow w' ow') (h:Owd w0 w ow) (hm:Mod (fun _=>False) w0 w) (h0:¬F 0):Mod (fun _=>False) w0 w':=
 hm.upon s.md (fun b hb=> .inr (h.lo b (fun e=>h0 (by
  have hb':F (ow b):=hb
  rw [e] at hb'
  exact hb'))))
structure ConSl (w:World) (ow:Ow) (sz:Nat) (v:Value) (n:Nat) (xs:List Value):Prop where
 rd:RdSl w sz v n xs
 con:0<n→∀b,v.ownBlock=some b→ow b=0
theorem RdSl.mod1 {w w':World} {F:Nat→Prop} {sz:Nat} {v:Value} {n:Nat} {xs:List Value} (h:RdSl w sz v n xs) (hm:Mod F w w') (hd:0<n→∀b,v.ownBlock=some b→¬F b):RdSl w' sz v n xs:=by
 obtain ⟨h1,a,c,rfl,h3,h4,h5⟩:=h
 refine ⟨h1,a,c,rfl,h3,h4,fun b hb hn=> ?_⟩
 obtain ⟨g,off,h6,h7⟩:=h5 b hb hn
 refine ⟨g,off,h6,fun j u hu=>hm.cell (h7 j u hu) (hd hn g ?_)⟩
 rw [hb,h6]
 rfl
theorem RdSl.low {w:World} {sz:Nat} {v:Value} {n:Nat} {xs:List Value} (h:RdSl w sz v n xs) (hs:0<sz) (hn:0<n):∀b,v.ownBlock=some b→b<w.heap.size:=fun b hb=>by
 obtain ⟨h1,a,c,rfl,h3,h4,h5⟩:=h
 cases a with
 |none=>exact absurd (h4 rfl) (by omega)
 |some a=>
  obtain ⟨g,off,h6,h7⟩:=h5 a rfl hn
  subst h6
  cases hb
  have hl:0<xs.length:=by rw [h1];exact Nat.mul_pos hn hs
  exact World.block_lt_of_cell? w _ (h7 0 xs[0] (List.getElem?_eq_getElem hl))
theorem ConSl.nil (w:World) (ow:Ow) (sz:Nat):ConSl w ow sz (.slice none 0 0) 0 []:=⟨⟨by simp,none,0,rfl,Nat.le_refl _,fun _=>rfl,fun b hb _=>(by cases hb)⟩,fun h=>absurd h (by omega)⟩
theorem ConSl.mov {F:Nat→Prop} {w w':World} {ow ow':Ow} {sz:Nat} {v:Value} {n:Nat} {xs:List Value} (h:ConSl w ow sz v n xs) (s:Mov F w ow w' ow') (h0:¬F 0) (hs:0<sz):ConSl w' ow' sz v n xs:=by
 refine ⟨h.rd.mod1 s.md (fun hn b hb hf=> ?_),fun hn b hb=> ?_⟩
 ·have hf':F (ow b):=hf
  rw [h.con hn b hb] at hf'
  exact h0 hf'
 ·rw [s.old b (h.rd.low hs hn b hb)]
  exact h.con hn b hb
theorem ConSl.of_rd {w0 w:World} {ow:Ow} {sz:Nat} {v:Value} {n:Nat} {xs:List Value} (hw:Owd w0 w ow) (h:RdSl w0 sz v n xs) (hs:0<sz):ConSl w ow sz v n xs:=by
 have hz:∀b,b<w0.heap.size→ow b=0:=fun b hb=>by
  by_cases e:ow b=0
  ·exact e
  ·have:=hw.lo b e;omega
 have hm:Mod (fun k=>w0.heap.size≤k) w0 w:=Mod.of_below hw.laid.below
 exact ⟨h.mod1 hm (fun hn b hb hf=>by have:=h.low hs hn b hb;omega),fun hn b hb=>hz b (h.low hs hn b hb)⟩
abbrev Lr:=PRu×Option Addr×Nat
def Lr.ru (x:Lr):Ru:=x.1.lies x.2.1 x.2.2
structure PRu.fine (p:PRu):Prop where
 who:p.who.size≤1000000
 sc:p.sc.size≤1000000
 name:p.name.size≤1000000
 len:p.cs.length≤1000
 cs:∀c∈p.cs,c.fits
theorem PRu.fine.ok {p:PRu} (h:p.fine) {w:World} {a:Option Addr} {c:Nat} (hr:RdSl w 7 (.slice a p.cs.length c) p.cs.length (cnds p.cs)):(p.lies a c).ok w:=by
 refine ⟨hr, ?_, ?_, ?_, ?_,fun c hc=> ?_⟩
 ·have:=h.len;show p.cs.length≤_;omega
 ·have:=h.who;show p.who.size≤_;omega
 ·have:=h.sc;show p.sc.size≤_;omega
 ·have:=h.name;show p.name.size≤_;omega
 ·have h1:=(h.cs c hc).name
  have h2:=(h.cs c hc).v.text
  omega
theorem PRu.fine.kept {p:PRu} (h:p.fine):p.kept.fine:=by
 unfold PRu.kept
 split
 ·exact ⟨h.who,h.sc,h.name,Nat.le_trans (normC_len p.cs) h.len,normC_fits h.cs⟩
 ·exact h
structure LrOk (w:World) (ow:Ow) (x:Lr):Prop where
 cs:ConSl w ow 7 x.ru.cv x.1.cs.length (cnds x.1.cs)
 fine:x.1.fine
theorem LrOk.ok {w:World} {ow:Ow} {x:Lr} (h:LrOk w ow x):x.ru.ok w:=h.fine.ok h.cs.rd
theorem LrOk.mov {F:Nat→Prop} {w w':World} {ow ow':Ow} {x:Lr} (h:LrOk w ow x) (s:Mov F w ow w' ow') (h0:¬F 0):LrOk w' ow' x:=⟨h.cs.mov s h0 (by omega),h.fine⟩
theorem ruSl_of {w:World} {ow:Ow} {v:Value} {L:List Lr} (h:RdSl w 8 v L.length (rus (L.map Lr.ru))) (hx:∀x∈L,LrOk w ow x):RuSl w v (L.map Lr.ru):=by
 refine ⟨by rw [List.length_map];exact h,fun r hr=> ?_⟩
 obtain ⟨x,h1,rfl⟩:=List.mem_map.1 hr
 exact (hx x h1).ok
structure LogSl (w:World) (ow:Ow) (c g:Nat) (v:Value) (L:List Lr):Prop where
 sl:OwnSl w 35 8 v L.length (rus (L.map Lr.ru))
 vb:∀b,v.ownBlock=some b→ow b=c∧b≠g
 each:∀x∈L,LrOk w ow x
theorem LogSl.ru {w:World} {ow:Ow} {c g:Nat} {v:Value} {L:List Lr} (h:LogSl w ow c g v L):RuSl w v (L.map Lr.ru):=ruSl_of h.sl.rd h.each
structure LogAt (w:World) (ow:Ow) (c d g:Nat) (rest:List Value) (t:TypeId) (v:Value) (L:List Lr):Prop where
 row:w.heap[g]? =some (.cells (v::rest).toArray t (0,0))
 tag:ow g=c
 sl:LogSl w ow d g v L
theorem LogSl.mov {F:Nat→Prop} {w w':World} {ow ow':Ow} {c g:Nat} {v:Value} {L:List Lr} (h:LogSl w ow c g v L) (s:Mov F w ow w' ow') (h0:¬F 0) (hc:¬F c):LogSl w' ow' c g v L:=by
 refine ⟨h.sl.mod s.md (fun b hb hf=> ?_),fun b hb=> ?_,fun x hx=>(h.each x hx).mov s h0⟩
 ·have hf':F (ow b):=hf
  rw [(h.vb b hb).1] at hf'
  exact hc hf'
 ·rw [s.old b (h.sl.lt b hb)];exact h.vb b hb
theorem LogAt.mov {F:Nat→Prop} {w w':World} {ow ow':Ow} {c d g:Nat} {rest:List Value} {t:TypeId} {v:Value} {L:List Lr} (h:LogAt w ow c d g rest t v L) (s:Mov F w ow w' ow') (h0:¬F 0) (hc:¬F c) (hd:¬F d):LogAt w' ow' c d g rest t v L:=by
 have hg:=(Array.getElem?_eq_some_iff.1 h.row).1
 refine ⟨s.md.heap h.row (fun hf=> ?_),by rw [s.old g hg];exact h.tag,h.sl.mov s h0 hd⟩
 have hf':F (ow g):=hf
 rw [h.tag] at hf'
 exact hc hf'
end
end Go.Proofs.YtaenebdppkjhoaaGreatDoor
