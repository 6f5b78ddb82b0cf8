/- Lemmas. -/
import Derived.Test.YtaenebdppkjhoaaGreatDoorZf28
import Derived.Test.YtaenebdppkjhoaaGreatDoorZf27
namespace Go.Proofs.YtaenebdppkjhoaaGreatDoor
set_option maxRecDepth 20000
set_option maxHeartbeats 40000000
section
open Go.RowKit
abbrev Ow:=Nat->Nat
structure Owd (w0 w:World) (ow:Ow):Prop where
 hi:∀k,ow k≠0->k<w.heap.size
 lo:∀k,ow k≠0->w0.heap.size<=k
 laid:C6 w0 w
structure Mov (F:Nat->Prop) (w:World) (ow:Ow) (w':World) (ow':Ow):Prop where
 md:Mod (fun k=>F (ow k)) w w'
 old:∀k,k<w.heap.size->ow' k=ow k
 new:∀k,w.heap.size<=k->ow' k=0\/ow' k=1\/F (ow' k)
 top:∀k,w'.heap.size<=k->ow' k=0
theorem Owd.zero {w0 w:World} {ow:Ow} (h:Owd w0 w ow) {k:Nat} (hk:w.heap.size<=k):ow k=0:=by
 by_cases e:ow k=0
 ·exact e
 have:=h.hi k e;omega
theorem Mov.owd {F:Nat->Prop} {w0 w w':World} {ow ow':Ow} (s:Mov F w ow w' ow') (h:Owd w0 w ow) (h0:¬F 0):Owd w0 w' ow':=by
 refine ⟨fun k hk=> ?_,fun k hk=> ?_,h.laid.mod s.md (fun k hk hf=> ?_)⟩
 ·by_cases hl:k<w'.heap.size
  ·exact hl
  exact absurd (s.top k (by omega)) hk
 ·by_cases hl:k<w.heap.size
  ·rw [s.old k hl] at hk;exact h.lo k hk
  have:=h.laid.size;omega
 have hf':F (ow k):=hf;by_cases e:ow k=0
 ·rw [e] at hf';exact h0 hf'
 have:=h.lo k e;omega
theorem Mov.refl {F:Nat->Prop} {w0 w:World} {ow:Ow} (h:Owd w0 w ow):Mov F w ow w ow:=
 ⟨Mod.refl _ _,fun _ _=>rfl,fun _ hk=> .inl (h.zero hk),fun _ hk=>h.zero hk⟩
theorem Mov.of {w0 w w':World} {ow:Ow} (h:Owd w0 w ow) (hm:Mod (fun _=>False) w w') (F:Nat->Prop):Mov F w ow w' ow:=
 ⟨hm.mono (fun _ _ h=>h.elim),fun _ _=>rfl,fun _ hk=> .inl (h.zero hk),fun _ hk=>h.zero (Nat.le_trans hm.size hk)⟩
theorem Mov.mono {F G:Nat->Prop} {w w':World} {ow ow':Ow} (s:Mov F w ow w' ow') (h:∀t,F t->G t):Mov G w ow w' ow':=
 ⟨s.md.mono (fun _ _ hf=>h _ hf),s.old,fun k hk=>(s.new k hk).imp_right (fun h2=>h2.imp_right (h _)),s.top⟩
theorem Mov.trans {F:Nat->Prop} {w w' w'':World} {ow ow' ow'':Ow} (s:Mov F w ow w' ow') (t:Mov F w' ow' w'' ow''):Mov F w ow w'' ow'':=by
 refine ⟨s.md.trans t.md (fun k hk hf=> ?_),fun k hk=> ?_,fun k hk=> ?_,t.top⟩
 ·have hf':F (ow' k):=hf;rw [s.old k hk] at hf';exact hf'
 ·rw [t.old k (zz13 hk s.md.size),s.old k hk]
 by_cases hl:k<w'.heap.size
 ·rw [t.old k hl];exact s.new k hk
 exact t.new k (by omega)
theorem Mov.upon {F G:Nat->Prop} {w w' w'':World} {ow ow' ow'':Ow} (s:Mov F w ow w' ow') (t:Mov G w' ow' w'' ow'') (hG:∀k,G (ow' k)->F (ow' k)\/w.heap.size<=k) (hn:∀t,G t->F t\/t=1):Mov F w ow w'' ow'':=by
 refine ⟨s.md.trans t.md (fun k hk hf=> ?_),fun k hk=> ?_,fun k hk=> ?_,t.top⟩
 ·rcases hG k hf with h|h
  ·have h':F (ow' k):=h;rw [s.old k hk] at h';exact h'
  omega
 ·rw [t.old k (zz13 hk s.md.size),s.old k hk]
 by_cases hl:k<w'.heap.size
 ·rw [t.old k hl];exact s.new k hk
 rcases t.new k (by omega) with h|h|h
 ·exact .inl h
 ·exact .inr (.inl h)
 exact (hn _ h).elim (fun h=> .inr (.inr h)) (fun h=> .inr (.inl h))
noncomputable def p7 (ow:Ow) (b t:Nat):Ow:=fun k=>if k=b then t else ow k
theorem A5 (ow:Ow) (b t:Nat):p7 ow b t b=t:=if_pos rfl
theorem R7 (ow:Ow) {b k:Nat} (t:Nat) (h:k≠b):p7 ow b t k=ow k:=if_neg h
theorem Mov.alloc {F:Nat->Prop} {w0 w:World} {ow:Ow} (h:Owd w0 w ow) (o:Obj) (t:Nat) (ht:t=0\/t=1\/F t):Mov F w ow (w.alloc o) (p7 ow w.heap.size t):=by
 have hz:(w.alloc o).heap.size=w.heap.size+1:=by simp
 refine ⟨(Mod.refl _ w).alloc o,fun k hk=>R7 _ _ (by omega),fun k hk=> ?_,fun k hk=> ?_⟩
 ·by_cases e:k=w.heap.size
  ·subst e;rw [A5];exact ht
  rw [R7 _ _ e];exact .inl (h.zero hk)
 rw [R7 _ _ (by omega)];exact h.zero (by omega)
theorem Mov.wrote {F:Nat->Prop} {w0 w w':World} {ow:Ow} (h:Owd w0 w ow) {G:Nat->Prop} (hm:Mod G w w') (hG:∀k,G k->F (ow k)):Mov F w ow w' ow:=
 ⟨hm.mono (fun k _ hk=>hG k hk),fun _ _=>rfl,fun _ hk=> .inl (h.zero hk),fun _ hk=>h.zero (Nat.le_trans hm.size hk)⟩
noncomputable def p8 (w w':World) (ow:Ow) (own' C':Nat->Prop) (c:Nat):Ow:=by
 classical exact fun k=>if k<w.heap.size then ow k else if k<w'.heap.size then (if own' k then c else if C' k then 0 else 1) else 0
theorem o5 {w w':World} {ow:Ow} {own' C':Nat->Prop} {c k:Nat} (h:k<w.heap.size):p8 w w' ow own' C' c k=ow k:=by
 unfold p8;rw [if_pos h]
theorem C3 {w w':World} {ow:Ow} {own' C':Nat->Prop} {c k:Nat} (h:w.heap.size<=k) (h2:k<w'.heap.size) (h3:own' k):p8 w w' ow own' C' c k=c:=by
 unfold p8;rw [if_neg (by omega),if_pos h2,if_pos h3]
theorem a0N {w w':World} {ow:Ow} {own' C':Nat->Prop} {c k:Nat} (h:w.heap.size<=k) (h2:k<w'.heap.size) (h3:¬own' k) (h4:C' k):p8 w w' ow own' C' c k=0:=by
 unfold p8;rw [if_neg (by omega),if_pos h2,if_neg h3,if_pos h4]
theorem a0m {w w':World} {ow:Ow} {own' C':Nat->Prop} {c k:Nat} (h:w.heap.size<=k) (h2:w'.heap.size<=k):p8 w w' ow own' C' c k=0:=by
 unfold p8;rw [if_neg (by omega),if_neg (by omega)]
theorem a3F {w w':World} {ow:Ow} {own' C':Nat->Prop} {c k:Nat} (h:w.heap.size<=k) (h2:p8 w w' ow own' C' c k=c) (hc:2<=c):own' k/\k<w'.heap.size:=by
 by_cases hk:k<w'.heap.size
 ·refine ⟨?_,hk⟩;by_cases ho:own' k
  ·exact ho
  unfold p8 at h2;rw [if_neg (by omega),if_pos hk,if_neg ho] at h2;split at h2<;>omega
 rw [a0m h (by omega)] at h2;omega
theorem Mov.tag {F:Nat->Prop} {w w':World} {ow:Ow} {own' C':Nat->Prop} {c:Nat} (hF:F c) (hm:Mod (fun k=>F (ow k)) w w'):Mov F w ow w' (p8 w w' ow own' C' c):=by
 refine ⟨hm,fun k hk=>o5 hk,fun k hk=> ?_,fun k hk=>a0m (Nat.le_trans hm.size hk) hk⟩;by_cases h2:k<w'.heap.size
 ·by_cases ho:own' k
  ·refine .inr (.inr ?_);rw [C3 hk h2 ho];exact hF
  by_cases hC:C' k
  ·exact .inl (a0N hk h2 ho hC)
  right;left;unfold p8;rw [if_neg (by omega),if_pos h2,if_neg ho,if_neg hC]
 exact .inl (a0m hk (by omega))
theorem Mov.mod0 {F:Nat->Prop} {w0 w w':World} {ow ow':Ow} (s:Mov F w ow w' ow') (h:Owd w0 w ow) (hm:Mod (fun _=>False) w0 w) (h0:¬F 0):Mod (fun _=>False) w0 w':=
 hm.upon s.md (fun b hb=> .inr (h.lo b (fun e=>h0 (by
  have hb':F (ow b):=hb;rw [e] at hb'
  exact hb'))))
structure m4 (w:World) (ow:Ow) (sz:Nat) (v:Value) (n:Nat) (xs:List Value):Prop where
 rd:j2 w sz v n xs
 con:0<n->∀b,v.ownBlock=some b->ow b=0
theorem j2.mod1 {w w':World} {F:Nat->Prop} {sz:Nat} {v:Value} {n:Nat} {xs:List Value} (h:j2 w sz v n xs) (hm:Mod F w w') (hd:0<n->∀b,v.ownBlock=some b->¬F b):j2 w' sz v n xs:=by
 obtain ⟨h1,a,c,rfl,h3,h4,h5⟩:=h;refine ⟨h1,a,c,rfl,h3,h4,fun b hb hn=> ?_⟩;obtain ⟨g,off,h6,h7⟩:=h5 b hb hn;refine ⟨g,off,h6,fun j u hu=>hm.cell (h7 j u hu) (hd hn g ?_)⟩;rw [hb,h6];rfl
theorem j2.low {w:World} {sz:Nat} {v:Value} {n:Nat} {xs:List Value} (h:j2 w sz v n xs) (hs:0<sz) (hn:0<n):∀b,v.ownBlock=some b->b<w.heap.size:=fun b hb=>by
 obtain ⟨h1,a,c,rfl,h3,h4,h5⟩:=h
 cases a with
 |none=>exact absurd (h4 rfl) (by omega)
 |some a=>
  obtain ⟨g,off,h6,h7⟩:=h5 a rfl hn;subst h6;cases hb
  have hl:0<xs.length:=by rw [h1];exact Nat.mul_pos hn hs
  exact World.block_lt_of_cell? w _ (h7 0 xs[0] (zz5 hl))
theorem m4.nil (w:World) (ow:Ow) (sz:Nat):m4 w ow sz (.slice none 0 0) 0 []:=⟨⟨by simp,none,0,rfl,Nat.le_refl _,fun _=>rfl,fun b hb _=>(by cases hb)⟩,fun h=>absurd h (by omega)⟩
theorem m4.mov {F:Nat->Prop} {w w':World} {ow ow':Ow} {sz:Nat} {v:Value} {n:Nat} {xs:List Value} (h:m4 w ow sz v n xs) (s:Mov F w ow w' ow') (h0:¬F 0) (hs:0<sz):m4 w' ow' sz v n xs:=by
 refine ⟨h.rd.mod1 s.md (fun hn b hb hf=> ?_),fun hn b hb=> ?_⟩
 ·have hf':F (ow b):=hf;rw [h.con hn b hb] at hf';exact h0 hf'
 rw [s.old b (h.rd.low hs hn b hb)];exact h.con hn b hb
theorem m4.of_rd {w0 w:World} {ow:Ow} {sz:Nat} {v:Value} {n:Nat} {xs:List Value} (hw:Owd w0 w ow) (h:j2 w0 sz v n xs) (hs:0<sz):m4 w ow sz v n xs:=by
 have hz:∀b,b<w0.heap.size->ow b=0:=fun b hb=>by
  by_cases e:ow b=0
  ·exact e
  have:=hw.lo b e;omega
 have hm:Mod (fun k=>w0.heap.size<=k) w0 w:=Mod.of_below hw.laid.below;exact ⟨h.mod1 hm (fun hn b hb hf=>by have:=h.low hs hn b hb;omega),fun hn b hb=>hz b (h.low hs hn b hb)⟩
abbrev Lr:=PRu×Option Addr×Nat
def Lr.ru (x:Lr):Ru:=x.1.lies x.2.1 x.2.2
structure PRu.fine (p:PRu):Prop where
 who:p.who.size<=1000000
 sc:p.sc.size<=1000000
 name:p.name.size<=1000000
 len:p.cs.length<=1000
 cs:∀c∈p.cs,c.fits
theorem PRu.fine.ok {p:PRu} (h:p.fine) {w:World} {a:Option Addr} {c:Nat} (hr:j2 w 7 (.slice a p.cs.length c) p.cs.length (k7 p.cs)):(p.lies a c).ok w:=by
 refine ⟨hr, ?_, ?_, ?_, ?_,fun c hc=> ?_⟩
 ·have:=h.len;show p.cs.length<=_;omega
 ·have:=h.who;show p.who.size<=_;omega
 ·have:=h.sc;show p.sc.size<=_;omega
 ·have:=h.name;show p.name.size<=_;omega
 have h1:=(h.cs c hc).name;have h2:=(h.cs c hc).v.text;omega
theorem PRu.fine.kept {p:PRu} (h:p.fine):p.kept.fine:=by
 unfold PRu.kept;split
 ·exact ⟨h.who,h.sc,h.name,Nat.le_trans (F2 p.cs) h.len,D9 h.cs⟩
 exact h
structure a1W (w:World) (ow:Ow) (x:Lr):Prop where
 cs:m4 w ow 7 x.ru.cv x.1.cs.length (k7 x.1.cs)
 fine:x.1.fine
theorem a1W.ok {w:World} {ow:Ow} {x:Lr} (h:a1W w ow x):x.ru.ok w:=h.fine.ok h.cs.rd
theorem a1W.mov {F:Nat->Prop} {w w':World} {ow ow':Ow} {x:Lr} (h:a1W w ow x) (s:Mov F w ow w' ow') (h0:¬F 0):a1W w' ow' x:=⟨h.cs.mov s h0 (by omega),h.fine⟩
theorem b2s {w:World} {ow:Ow} {v:Value} {L:List Lr} (h:j2 w 8 v L.length (rus (L.map Lr.ru))) (hx:∀x∈L,a1W w ow x):K5 w v (L.map Lr.ru):=by
 refine ⟨by rw [zz10];exact h,fun r hr=> ?_⟩;obtain ⟨x,h1,rfl⟩:=List.mem_map.1 hr;exact (hx x h1).ok
structure N5 (w:World) (ow:Ow) (c g:Nat) (v:Value) (L:List Lr):Prop where
 sl:i7 w 35 8 v L.length (rus (L.map Lr.ru))
 vb:∀b,v.ownBlock=some b->ow b=c/\b≠g
 each:∀x∈L,a1W w ow x
theorem N5.ru {w:World} {ow:Ow} {c g:Nat} {v:Value} {L:List Lr} (h:N5 w ow c g v L):K5 w v (L.map Lr.ru):=b2s h.sl.rd h.each
structure I6 (w:World) (ow:Ow) (c d g:Nat) (rest:List Value) (t:TypeId) (v:Value) (L:List Lr):Prop where
 row:w.heap[g]? =some (.cells (v::rest).toArray t (0,0))
 tag:ow g=c
 sl:N5 w ow d g v L
theorem N5.mov {F:Nat->Prop} {w w':World} {ow ow':Ow} {c g:Nat} {v:Value} {L:List Lr} (h:N5 w ow c g v L) (s:Mov F w ow w' ow') (h0:¬F 0) (hc:¬F c):N5 w' ow' c g v L:=by
 refine ⟨h.sl.mod s.md (fun b hb hf=> ?_),fun b hb=> ?_,fun x hx=>(h.each x hx).mov s h0⟩
 ·have hf':F (ow b):=hf;rw [(h.vb b hb).1] at hf';exact hc hf'
 rw [s.old b (h.sl.lt b hb)];exact h.vb b hb
theorem I6.mov {F:Nat->Prop} {w w':World} {ow ow':Ow} {c d g:Nat} {rest:List Value} {t:TypeId} {v:Value} {L:List Lr} (h:I6 w ow c d g rest t v L) (s:Mov F w ow w' ow') (h0:¬F 0) (hc:¬F c) (hd:¬F d):I6 w' ow' c d g rest t v L:=by
 have hg:=(zz7 h.row).1;refine ⟨s.md.heap h.row (fun hf=> ?_),by rw [s.old g hg];exact h.tag,h.sl.mov s h0 hd⟩;have hf':F (ow g):=hf;rw [h.tag] at hf';exact hc hf'
theorem a5b (l:List Att):(C5 l).length=l.length*6:=by
 induction l with
 |nil=>rfl
 |cons a l ih=>
  show (a.cells++C5 l).length=_;rw [zz4,ih,Att.cells_length,zz9];omega
theorem a5c (l m:List Att):C5 (l++m)=C5 l++C5 m:=by unfold C5;simp
theorem b2t:B6 Tryz.prog 44 70 6 64:=K7 (by kernel_rfl) (by kernel_rfl)
end
end Go.Proofs.YtaenebdppkjhoaaGreatDoor
