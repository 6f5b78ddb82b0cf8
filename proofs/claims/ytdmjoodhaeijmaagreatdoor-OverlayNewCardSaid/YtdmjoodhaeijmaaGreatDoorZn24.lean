/- Lemmas. -/
import Derived.Test.YtdmjoodhaeijmaaGreatDoorZn23
import Derived.Test.YtdmjoodhaeijmaaGreatDoorZn22
set_option maxHeartbeats 40000000
set_option maxRecDepth 20000
namespace Go.Proofs.YtdmjoodhaeijmaaGreatDoor
open Go.RowKit
abbrev Ow:=Nat->Nat
structure Owd (w0 w:World) (ow:Ow):Prop where
 hi:∀k,ow k≠0->k<w.heap.size
 lo:∀k,ow k≠0->w0.heap.size<=k
 laid:L4 w0 w
structure Mov (F:Nat->Prop) (w:World) (ow:Ow) (w':World) (ow':Ow):Prop where
 md:Mod (fun k=>F (ow k)) w w'
 old:∀k,k<w.heap.size->ow' k=ow k
 new:∀k,w.heap.size<=k->ow' k=0\/ow' k=1\/F (ow' k)
 top:∀k,w'.heap.size<=k->ow' k=0
theorem Owd.zero {w0 w:World} {ow:Ow} (h:Owd w0 w ow) {k:Nat} (hk:w.heap.size<=k):ow k=0:=by
 by_cases e:ow k=0
 ·exact e
 have:=h.hi k e;omega
theorem Mov.owd {F:Nat->Prop} {w0 w w':World} {ow ow':Ow} (s:Mov F w ow w' ow') (h:Owd w0 w ow) (h0:¬F 0):Owd w0 w' ow':=by
 refine ⟨fun k hk=> ?_,fun k hk=> ?_,h.laid.mod s.md (fun k hk hf=> ?_)⟩
 ·by_cases hl:k<w'.heap.size
  ·exact hl
  exact absurd (s.top k zo) hk
 ·by_cases hl:k<w.heap.size
  ·rw [s.old k hl] at hk;exact h.lo k hk
  have:=h.laid.size;omega
 have hf':F (ow k):=hf;by_cases e:ow k=0
 ·rw [e] at hf';exact h0 hf'
 have:=h.lo k e;omega
theorem Mov.refl {F:Nat->Prop} {w0 w:World} {ow:Ow} (h:Owd w0 w ow):Mov F w ow w ow:=
 ⟨Mod.refl _ _,fun _ _=>rfl,fun _ hk=> .inl (h.zero hk),fun _ hk=>h.zero hk⟩
theorem Mov.of {w0 w w':World} {ow:Ow} (h:Owd w0 w ow) (hm:Mod (fun _=>False) w w') (F:Nat->Prop):Mov F w ow w' ow:=
 ⟨hm.mono (fun _ _ h=>h.elim),fun _ _=>rfl,fun _ hk=> .inl (h.zero hk),fun _ hk=>h.zero (Nat.le_trans hm.size hk)⟩
theorem Mov.mono {F G:Nat->Prop} {w w':World} {ow ow':Ow} (s:Mov F w ow w' ow') (h:∀t,F t->G t):Mov G w ow w' ow':=
 ⟨s.md.mono (fun _ _ hf=>h _ hf),s.old,fun k hk=>(s.new k hk).imp_right (fun h2=>h2.imp_right (h _)),s.top⟩
theorem Mov.trans {F:Nat->Prop} {w w' w'':World} {ow ow' ow'':Ow} (s:Mov F w ow w' ow') (t:Mov F w' ow' w'' ow''):Mov F w ow w'' ow'':=by
 refine ⟨s.md.trans t.md (fun k hk hf=> ?_),fun k hk=> ?_,fun k hk=> ?_,t.top⟩
 ·have hf':F (ow' k):=hf;rw [s.old k hk] at hf';exact hf'
 ·rw [t.old k (zz13 hk s.md.size),s.old k hk]
 by_cases hl:k<w'.heap.size
 ·rw [t.old k hl];exact s.new k hk
 exact t.new k zo
noncomputable def Q0 (ow:Ow) (b t:Nat):Ow:=fun k=>if k=b then t else ow k
theorem C7 (ow:Ow) (b t:Nat):Q0 ow b t b=t:=if_pos rfl
theorem a0U (ow:Ow) {b k:Nat} (t:Nat) (h:k≠b):Q0 ow b t k=ow k:=if_neg h
theorem Mov.alloc {F:Nat->Prop} {w0 w:World} {ow:Ow} (h:Owd w0 w ow) (o:Obj) (t:Nat) (ht:t=0\/t=1\/F t):Mov F w ow (w.alloc o) (Q0 ow w.heap.size t):=by
 have hz:(w.alloc o).heap.size=w.heap.size+1:=by simp
 refine ⟨(Mod.refl _ w).alloc o,fun k hk=>a0U _ _ zo,fun k hk=> ?_,fun k hk=> ?_⟩
 ·by_cases e:k=w.heap.size
  ·subst e;rw [C7];exact ht
  rw [a0U _ _ e];exact .inl (h.zero hk)
 rw [a0U _ _ zo];exact h.zero zo
theorem Mov.wrote {F:Nat->Prop} {w0 w w':World} {ow:Ow} (h:Owd w0 w ow) {G:Nat->Prop} (hm:Mod G w w') (hG:∀k,G k->F (ow k)):Mov F w ow w' ow:=
 ⟨hm.mono (fun k _ hk=>hG k hk),fun _ _=>rfl,fun _ hk=> .inl (h.zero hk),fun _ hk=>h.zero (Nat.le_trans hm.size hk)⟩
noncomputable def A6 (w w':World) (ow:Ow) (own' C':Nat->Prop) (c:Nat):Ow:=by
 classical exact fun k=>if k<w.heap.size then ow k else if k<w'.heap.size then (if own' k then c else if C' k then 0 else 1) else 0
theorem D7 {w w':World} {ow:Ow} {own' C':Nat->Prop} {c k:Nat} (h:k<w.heap.size):A6 w w' ow own' C' c k=ow k:=by
 unfold A6;rw [if_pos h]
theorem O1 {w w':World} {ow:Ow} {own' C':Nat->Prop} {c k:Nat} (h:w.heap.size<=k) (h2:k<w'.heap.size) (h3:own' k):A6 w w' ow own' C' c k=c:=by
 unfold A6;rw [if_neg zo,if_pos h2,if_pos h3]
theorem a1C {w w':World} {ow:Ow} {own' C':Nat->Prop} {c k:Nat} (h:w.heap.size<=k) (h2:k<w'.heap.size) (h3:¬own' k) (h4:C' k):A6 w w' ow own' C' c k=0:=by
 unfold A6;rw [if_neg zo,if_pos h2,if_neg h3,if_pos h4]
theorem a1h {w w':World} {ow:Ow} {own' C':Nat->Prop} {c k:Nat} (h:w.heap.size<=k) (h2:w'.heap.size<=k):A6 w w' ow own' C' c k=0:=by
 unfold A6;rw [if_neg zo,if_neg zo]
theorem a4z {w w':World} {ow:Ow} {own' C':Nat->Prop} {c k:Nat} (h:w.heap.size<=k) (h2:A6 w w' ow own' C' c k=c) (hc:2<=c):own' k/\k<w'.heap.size:=by
 by_cases hk:k<w'.heap.size
 ·refine ⟨?_,hk⟩;by_cases ho:own' k
  ·exact ho
  unfold A6 at h2;rw [if_neg zo,if_pos hk,if_neg ho] at h2;split at h2<;>omega
 rw [a1h h zo] at h2;omega
theorem Mov.tag {F:Nat->Prop} {w w':World} {ow:Ow} {own' C':Nat->Prop} {c:Nat} (hF:F c) (hm:Mod (fun k=>F (ow k)) w w'):Mov F w ow w' (A6 w w' ow own' C' c):=by
 refine ⟨hm,fun k hk=>D7 hk,fun k hk=> ?_,fun k hk=>a1h (Nat.le_trans hm.size hk) hk⟩;by_cases h2:k<w'.heap.size
 ·by_cases ho:own' k
  ·refine .inr (.inr ?_);rw [O1 hk h2 ho];exact hF
  by_cases hC:C' k
  ·exact .inl (a1C hk h2 ho hC)
  right;left;unfold A6;rw [if_neg zo,if_pos h2,if_neg ho,if_neg hC]
 exact .inl (a1h hk zo)
theorem Mov.mod0 {F:Nat->Prop} {w0 w w':World} {ow ow':Ow} (s:Mov F w ow w' ow') (h:Owd w0 w ow) (hm:Mod (fun _=>False) w0 w) (h0:¬F 0):Mod (fun _=>False) w0 w':=
 hm.upon s.md (fun b hb=> .inr (h.lo b (fun e=>h0 (by
  have hb':F (ow b):=hb;rw [e] at hb'
  exact hb'))))
structure q6 (w:World) (ow:Ow) (sz:Nat) (v:Value) (n:Nat) (xs:List Value):Prop where
 rd:i8 w sz v n xs
 con:0<n->∀b,v.ownBlock=some b->ow b=0
theorem i8.mod1 {w w':World} {F:Nat->Prop} {sz:Nat} {v:Value} {n:Nat} {xs:List Value} (h:i8 w sz v n xs) (hm:Mod F w w') (hd:0<n->∀b,v.ownBlock=some b->¬F b):i8 w' sz v n xs:=by
 obtain ⟨h1,a,c,rfl,h3,h4,h5⟩:=h;refine ⟨h1,a,c,rfl,h3,h4,fun b hb hn=> ?_⟩;obtain ⟨g,off,h6,h7⟩:=h5 b hb hn;refine ⟨g,off,h6,fun j u hu=>hm.cell (h7 j u hu) (hd hn g ?_)⟩;rw [hb,h6];rfl
theorem i8.low {w:World} {sz:Nat} {v:Value} {n:Nat} {xs:List Value} (h:i8 w sz v n xs) (hs:0<sz) (hn:0<n):∀b,v.ownBlock=some b->b<w.heap.size:=fun b hb=>by
 obtain ⟨h1,a,c,rfl,h3,h4,h5⟩:=h
 cases a with
 |none=>exact absurd (h4 rfl) zo
 |some a=>
  obtain ⟨g,off,h6,h7⟩:=h5 a rfl hn;subst h6;cases hb
  have hl:0<xs.length:=by rw [h1];exact Nat.mul_pos hn hs
  exact World.block_lt_of_cell? w _ (h7 0 xs[0] (zz5 hl))
theorem q6.nil (w:World) (ow:Ow) (sz:Nat):q6 w ow sz (.slice none 0 0) 0 []:=⟨⟨by simp,none,0,rfl,Nat.le_refl _,fun _=>rfl,fun b hb _=>(by cases hb)⟩,fun h=>absurd h zo⟩
theorem q6.mov {F:Nat->Prop} {w w':World} {ow ow':Ow} {sz:Nat} {v:Value} {n:Nat} {xs:List Value} (h:q6 w ow sz v n xs) (s:Mov F w ow w' ow') (h0:¬F 0) (hs:0<sz):q6 w' ow' sz v n xs:=by
 refine ⟨h.rd.mod1 s.md (fun hn b hb hf=> ?_),fun hn b hb=> ?_⟩
 ·have hf':F (ow b):=hf;rw [h.con hn b hb] at hf';exact h0 hf'
 rw [s.old b (h.rd.low hs hn b hb)];exact h.con hn b hb
abbrev Lr:=PRu×Option Addr×Nat
def Lr.ru (x:Lr):Ru:=x.1.lies x.2.1 x.2.2
structure PRu.fine (p:PRu):Prop where
 who:p.who.size<=1000000
 sc:p.sc.size<=1000000
 name:p.name.size<=1000000
 len:p.cs.length<=1000
 cs:∀c∈p.cs,c.fits
theorem PRu.fine.ok {p:PRu} (h:p.fine) {w:World} {a:Option Addr} {c:Nat} (hr:i8 w 7 (.slice a p.cs.length c) p.cs.length (q8 p.cs)):(p.lies a c).ok w:=by
 refine ⟨hr, ?_, ?_, ?_, ?_,fun c hc=> ?_⟩
 ·have:=h.len;show p.cs.length<=_;omega
 ·have:=h.who;show p.who.size<=_;omega
 ·have:=h.sc;show p.sc.size<=_;omega
 ·have:=h.name;show p.name.size<=_;omega
 have h1:=(h.cs c hc).name;have h2:=(h.cs c hc).v.text;omega
theorem PRu.fine.kept {p:PRu} (h:p.fine):p.kept.fine:=by
 unfold PRu.kept;split
 ·exact ⟨h.who,h.sc,h.name,Nat.le_trans (X5 p.cs) h.len,Z2 h.cs⟩
 exact h
structure a5p (w:World) (ow:Ow) (x:Lr):Prop where
 cs:q6 w ow 7 x.ru.cv x.1.cs.length (q8 x.1.cs)
 fine:x.1.fine
theorem a5p.ok {w:World} {ow:Ow} {x:Lr} (h:a5p w ow x):x.ru.ok w:=h.fine.ok h.cs.rd
theorem a5p.mov {F:Nat->Prop} {w w':World} {ow ow':Ow} {x:Lr} (h:a5p w ow x) (s:Mov F w ow w' ow') (h0:¬F 0):a5p w' ow' x:=⟨h.cs.mov s h0 zo,h.fine⟩
theorem b35 {w:World} {ow:Ow} {v:Value} {L:List Lr} (h:i8 w 8 v L.length (rus (L.map Lr.ru))) (hx:∀x∈L,a5p w ow x):Q5 w v (L.map Lr.ru):=by
 refine ⟨by rw [zz10];exact h,fun r hr=> ?_⟩;obtain ⟨x,h1,rfl⟩:=List.mem_map.1 hr;exact (hx x h1).ok
structure a2p (w:World) (ow:Ow) (c g:Nat) (v:Value) (L:List Lr):Prop where
 sl:g7 w 36 8 v L.length (rus (L.map Lr.ru))
 vb:∀b,v.ownBlock=some b->ow b=c/\b≠g
 each:∀x∈L,a5p w ow x
theorem a2p.ru {w:World} {ow:Ow} {c g:Nat} {v:Value} {L:List Lr} (h:a2p w ow c g v L):Q5 w v (L.map Lr.ru):=b35 h.sl.rd h.each
structure M5 (w:World) (ow:Ow) (c d g:Nat) (rest:List Value) (t:TypeId) (v:Value) (L:List Lr):Prop where
 row:w.heap[g]? =some (.cells (v::rest).toArray t (0,0))
 tag:ow g=c
 sl:a2p w ow d g v L
theorem a2p.mov {F:Nat->Prop} {w w':World} {ow ow':Ow} {c g:Nat} {v:Value} {L:List Lr} (h:a2p w ow c g v L) (s:Mov F w ow w' ow') (h0:¬F 0) (hc:¬F c):a2p w' ow' c g v L:=by
 refine ⟨h.sl.mod s.md (fun b hb hf=> ?_),fun b hb=> ?_,fun x hx=>(h.each x hx).mov s h0⟩
 ·have hf':F (ow b):=hf;rw [(h.vb b hb).1] at hf';exact hc hf'
 rw [s.old b (h.sl.lt b hb)];exact h.vb b hb
theorem M5.mov {F:Nat->Prop} {w w':World} {ow ow':Ow} {c d g:Nat} {rest:List Value} {t:TypeId} {v:Value} {L:List Lr} (h:M5 w ow c d g rest t v L) (s:Mov F w ow w' ow') (h0:¬F 0) (hc:¬F c) (hd:¬F d):M5 w' ow' c d g rest t v L:=by
 have hg:=(zz7 h.row).1;refine ⟨s.md.heap h.row (fun hf=> ?_),by rw [s.old g hg];exact h.tag,h.sl.mov s h0 hd⟩;have hf':F (ow g):=hf;rw [h.tag] at hf';exact hc hf'
theorem a6m (l:List Att):(I4 l).length=l.length*6:=by
 induction l with
 |nil=>rfl
 |cons a l ih=>
  show (a.cells++I4 l).length=_;rw [zz4,ih,Att.cells_length,zz9];omega
theorem a6n (l m:List Att):I4 (l++m)=I4 l++I4 m:=by unfold I4;simp
theorem b36:B7 Tryz.prog 37 98 6 64:=I8 zk zk
end Go.Proofs.YtdmjoodhaeijmaaGreatDoor
