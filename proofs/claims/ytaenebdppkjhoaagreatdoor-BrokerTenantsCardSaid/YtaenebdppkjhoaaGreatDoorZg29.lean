/- Lemmas. -/
import Derived.Test.YtaenebdppkjhoaaGreatDoorZg28
import Derived.Test.YtaenebdppkjhoaaGreatDoorZg27
namespace Go.Proofs.YtaenebdppkjhoaaGreatDoor
set_option maxRecDepth 20000
set_option maxHeartbeats 40000000
section
open Go.RowKit
abbrev Ow:=Nat->Nat
structure Owd (w0 w:World) (ow:Ow):Prop where
 hi:∀k,ow k≠0->k<w.heap.size
 lo:∀k,ow k≠0->w0.heap.size<=k
 laid:J3 w0 w
structure Mov (F:Nat->Prop) (w:World) (ow:Ow) (w':World) (ow':Ow):Prop where
 md:Mod (fun k=>F (ow k)) w w'
 old:∀k,k<w.heap.size->ow' k=ow k
 new:∀k,w.heap.size<=k->ow' k=0\/ow' k=1\/F (ow' k)
 top:∀k,w'.heap.size<=k->ow' k=0
theorem Owd.zero {w0 w:World} {ow:Ow} (h:Owd w0 w ow) {k:Nat} (hk:w.heap.size<=k):ow k=0:=by
 by_cases e:ow k=0
 ·exact e
 have:=h.hi k e;omega
theorem Mov.owd {F:Nat->Prop} {w0 w w':World} {ow ow':Ow} (s:Mov F w ow w' ow') (h:Owd w0 w ow) (h0:¬F 0):Owd w0 w' ow':=by
 refine ⟨fun k hk=> ?_,fun k hk=> ?_,h.laid.mod s.md (fun k hk hf=> ?_)⟩
 ·by_cases hl:k<w'.heap.size
  ·exact hl
  exact absurd (s.top k (by omega)) hk
 ·by_cases hl:k<w.heap.size
  ·rw [s.old k hl] at hk;exact h.lo k hk
  have:=h.laid.size;omega
 have hf':F (ow k):=hf;by_cases e:ow k=0
 ·rw [e] at hf';exact h0 hf'
 have:=h.lo k e;omega
theorem Mov.refl {F:Nat->Prop} {w0 w:World} {ow:Ow} (h:Owd w0 w ow):Mov F w ow w ow:=
 ⟨Mod.refl _ _,fun _ _=>rfl,fun _ hk=> .inl (h.zero hk),fun _ hk=>h.zero hk⟩
theorem Mov.of {w0 w w':World} {ow:Ow} (h:Owd w0 w ow) (hm:Mod (fun _=>False) w w') (F:Nat->Prop):Mov F w ow w' ow:=
 ⟨hm.mono (fun _ _ h=>h.elim),fun _ _=>rfl,fun _ hk=> .inl (h.zero hk),fun _ hk=>h.zero (Nat.le_trans hm.size hk)⟩
theorem Mov.mono {F G:Nat->Prop} {w w':World} {ow ow':Ow} (s:Mov F w ow w' ow') (h:∀t,F t->G t):Mov G w ow w' ow':=
 ⟨s.md.mono (fun _ _ hf=>h _ hf),s.old,fun k hk=>(s.new k hk).imp_right (fun h2=>h2.imp_right (h _)),s.top⟩
theorem Mov.trans {F:Nat->Prop} {w w' w'':World} {ow ow' ow'':Ow} (s:Mov F w ow w' ow') (t:Mov F w' ow' w'' ow''):Mov F w ow w'' ow'':=by
 refine ⟨s.md.trans t.md (fun k hk hf=> ?_),fun k hk=> ?_,fun k hk=> ?_,t.top⟩
 ·have hf':F (ow' k):=hf;rw [s.old k hk] at hf';exact hf'
 ·rw [t.old k (zz13 hk s.md.size),s.old k hk]
 by_cases hl:k<w'.heap.size
 ·rw [t.old k hl];exact s.new k hk
 exact t.new k (by omega)
theorem Mov.upon {F G:Nat->Prop} {w w' w'':World} {ow ow' ow'':Ow} (s:Mov F w ow w' ow') (t:Mov G w' ow' w'' ow'') (hG:∀k,G (ow' k)->F (ow' k)\/w.heap.size<=k) (hn:∀t,G t->F t\/t=1):Mov F w ow w'' ow'':=by
 refine ⟨s.md.trans t.md (fun k hk hf=> ?_),fun k hk=> ?_,fun k hk=> ?_,t.top⟩
 ·rcases hG k hf with h|h
  ·have h':F (ow' k):=h;rw [s.old k hk] at h';exact h'
  omega
 ·rw [t.old k (zz13 hk s.md.size),s.old k hk]
 by_cases hl:k<w'.heap.size
 ·rw [t.old k hl];exact s.new k hk
 rcases t.new k (by omega) with h|h|h
 ·exact .inl h
 ·exact .inr (.inl h)
 exact (hn _ h).elim (fun h=> .inr (.inr h)) (fun h=> .inr (.inl h))
noncomputable def r7 (ow:Ow) (b t:Nat):Ow:=fun k=>if k=b then t else ow k
theorem D4 (ow:Ow) (b t:Nat):r7 ow b t b=t:=if_pos rfl
theorem T8 (ow:Ow) {b k:Nat} (t:Nat) (h:k≠b):r7 ow b t k=ow k:=if_neg h
theorem Mov.alloc {F:Nat->Prop} {w0 w:World} {ow:Ow} (h:Owd w0 w ow) (o:Obj) (t:Nat) (ht:t=0\/t=1\/F t):Mov F w ow (w.alloc o) (r7 ow w.heap.size t):=by
 have hz:(w.alloc o).heap.size=w.heap.size+1:=by simp
 refine ⟨(Mod.refl _ w).alloc o,fun k hk=>T8 _ _ (by omega),fun k hk=> ?_,fun k hk=> ?_⟩
 ·by_cases e:k=w.heap.size
  ·subst e;rw [D4];exact ht
  rw [T8 _ _ e];exact .inl (h.zero hk)
 rw [T8 _ _ (by omega)];exact h.zero (by omega)
theorem Mov.wrote {F:Nat->Prop} {w0 w w':World} {ow:Ow} (h:Owd w0 w ow) {G:Nat->Prop} (hm:Mod G w w') (hG:∀k,G k->F (ow k)):Mov F w ow w' ow:=
 ⟨hm.mono (fun k _ hk=>hG k hk),fun _ _=>rfl,fun _ hk=> .inl (h.zero hk),fun _ hk=>h.zero (Nat.le_trans hm.size hk)⟩
noncomputable def r8 (w w':World) (ow:Ow) (own' C':Nat->Prop) (c:Nat):Ow:=by
 classical exact fun k=>if k<w.heap.size then ow k else if k<w'.heap.size then (if own' k then c else if C' k then 0 else 1) else 0
theorem q7 {w w':World} {ow:Ow} {own' C':Nat->Prop} {c k:Nat} (h:k<w.heap.size):r8 w w' ow own' C' c k=ow k:=by
 unfold r8;rw [if_pos h]
theorem F1 {w w':World} {ow:Ow} {own' C':Nat->Prop} {c k:Nat} (h:w.heap.size<=k) (h2:k<w'.heap.size) (h3:own' k):r8 w w' ow own' C' c k=c:=by
 unfold r8;rw [if_neg (by omega),if_pos h2,if_pos h3]
theorem a04 {w w':World} {ow:Ow} {own' C':Nat->Prop} {c k:Nat} (h:w.heap.size<=k) (h2:k<w'.heap.size) (h3:¬own' k) (h4:C' k):r8 w w' ow own' C' c k=0:=by
 unfold r8;rw [if_neg (by omega),if_pos h2,if_neg h3,if_pos h4]
theorem a0H {w w':World} {ow:Ow} {own' C':Nat->Prop} {c k:Nat} (h:w.heap.size<=k) (h2:w'.heap.size<=k):r8 w w' ow own' C' c k=0:=by
 unfold r8;rw [if_neg (by omega),if_neg (by omega)]
theorem a4c {w w':World} {ow:Ow} {own' C':Nat->Prop} {c k:Nat} (h:w.heap.size<=k) (h2:r8 w w' ow own' C' c k=c) (hc:2<=c):own' k/\k<w'.heap.size:=by
 by_cases hk:k<w'.heap.size
 ·refine ⟨?_,hk⟩;by_cases ho:own' k
  ·exact ho
  unfold r8 at h2;rw [if_neg (by omega),if_pos hk,if_neg ho] at h2;split at h2<;>omega
 rw [a0H h (by omega)] at h2;omega
theorem Mov.tag {F:Nat->Prop} {w w':World} {ow:Ow} {own' C':Nat->Prop} {c:Nat} (hF:F c) (hm:Mod (fun k=>F (ow k)) w w'):Mov F w ow w' (r8 w w' ow own' C' c):=by
 refine ⟨hm,fun k hk=>q7 hk,fun k hk=> ?_,fun k hk=>a0H (Nat.le_trans hm.size hk) hk⟩;by_cases h2:k<w'.heap.size
 ·by_cases ho:own' k
  ·refine .inr (.inr ?_);rw [F1 hk h2 ho];exact hF
  by_cases hC:C' k
  ·exact .inl (a04 hk h2 ho hC)
  right;left;unfold r8;rw [if_neg (by omega),if_pos h2,if_neg ho,if_neg hC]
 exact .inl (a0H hk (by omega))
theorem Mov.mod0 {F:Nat->Prop} {w0 w w':World} {ow ow':Ow} (s:Mov F w ow w' ow') (h:Owd w0 w ow) (hm:Mod (fun _=>False) w0 w) (h0:¬F 0):Mod (fun _=>False) w0 w':=
 hm.upon s.md (fun b hb=> .inr (h.lo b (fun e=>h0 (by
  have hb':F (ow b):=hb;rw [e] at hb'
  exact hb'))))
structure l9 (w:World) (ow:Ow) (sz:Nat) (v:Value) (n:Nat) (xs:List Value):Prop where
 rd:j0 w sz v n xs
 con:0<n->∀b,v.ownBlock=some b->ow b=0
theorem j0.mod1 {w w':World} {F:Nat->Prop} {sz:Nat} {v:Value} {n:Nat} {xs:List Value} (h:j0 w sz v n xs) (hm:Mod F w w') (hd:0<n->∀b,v.ownBlock=some b->¬F b):j0 w' sz v n xs:=by
 obtain ⟨h1,a,c,rfl,h3,h4,h5⟩:=h;refine ⟨h1,a,c,rfl,h3,h4,fun b hb hn=> ?_⟩;obtain ⟨g,off,h6,h7⟩:=h5 b hb hn;refine ⟨g,off,h6,fun j u hu=>hm.cell (h7 j u hu) (hd hn g ?_)⟩;rw [hb,h6];rfl
theorem j0.low {w:World} {sz:Nat} {v:Value} {n:Nat} {xs:List Value} (h:j0 w sz v n xs) (hs:0<sz) (hn:0<n):∀b,v.ownBlock=some b->b<w.heap.size:=fun b hb=>by
 obtain ⟨h1,a,c,rfl,h3,h4,h5⟩:=h
 cases a with
 |none=>exact absurd (h4 rfl) (by omega)
 |some a=>
  obtain ⟨g,off,h6,h7⟩:=h5 a rfl hn;subst h6;cases hb
  have hl:0<xs.length:=by rw [h1];exact Nat.mul_pos hn hs
  exact World.block_lt_of_cell? w _ (h7 0 xs[0] (zz5 hl))
theorem l9.nil (w:World) (ow:Ow) (sz:Nat):l9 w ow sz (.slice none 0 0) 0 []:=⟨⟨by simp,none,0,rfl,Nat.le_refl _,fun _=>rfl,fun b hb _=>(by cases hb)⟩,fun h=>absurd h (by omega)⟩
theorem l9.mov {F:Nat->Prop} {w w':World} {ow ow':Ow} {sz:Nat} {v:Value} {n:Nat} {xs:List Value} (h:l9 w ow sz v n xs) (s:Mov F w ow w' ow') (h0:¬F 0) (hs:0<sz):l9 w' ow' sz v n xs:=by
 refine ⟨h.rd.mod1 s.md (fun hn b hb hf=> ?_),fun hn b hb=> ?_⟩
 ·have hf':F (ow b):=hf;rw [h.con hn b hb] at hf';exact h0 hf'
 rw [s.old b (h.rd.low hs hn b hb)];exact h.con hn b hb
theorem l9.of_rd {w0 w:World} {ow:Ow} {sz:Nat} {v:Value} {n:Nat} {xs:List Value} (hw:Owd w0 w ow) (h:j0 w0 sz v n xs) (hs:0<sz):l9 w ow sz v n xs:=by
 have hz:∀b,b<w0.heap.size->ow b=0:=fun b hb=>by
  by_cases e:ow b=0
  ·exact e
  have:=hw.lo b e;omega
 have hm:Mod (fun k=>w0.heap.size<=k) w0 w:=Mod.of_below hw.laid.below;exact ⟨h.mod1 hm (fun hn b hb hf=>by have:=h.low hs hn b hb;omega),fun hn b hb=>hz b (h.low hs hn b hb)⟩
abbrev Lr:=PRu×Option Addr×Nat
def Lr.ru (x:Lr):Ru:=x.1.lies x.2.1 x.2.2
structure PRu.fine (p:PRu):Prop where
 who:p.who.size<=1000000
 sc:p.sc.size<=1000000
 name:p.name.size<=1000000
 len:p.cs.length<=1000
 cs:∀c∈p.cs,c.fits
theorem PRu.fine.ok {p:PRu} (h:p.fine) {w:World} {a:Option Addr} {c:Nat} (hr:j0 w 7 (.slice a p.cs.length c) p.cs.length (l6 p.cs)):(p.lies a c).ok w:=by
 refine ⟨hr, ?_, ?_, ?_, ?_,fun c hc=> ?_⟩
 ·have:=h.len;show p.cs.length<=_;omega
 ·have:=h.who;show p.who.size<=_;omega
 ·have:=h.sc;show p.sc.size<=_;omega
 ·have:=h.name;show p.name.size<=_;omega
 have h1:=(h.cs c hc).name;have h2:=(h.cs c hc).v.text;omega
theorem PRu.fine.kept {p:PRu} (h:p.fine):p.kept.fine:=by
 unfold PRu.kept;split
 ·exact ⟨h.who,h.sc,h.name,Nat.le_trans (G6 p.cs) h.len,F0 h.cs⟩
 exact h
structure a2m (w:World) (ow:Ow) (x:Lr):Prop where
 cs:l9 w ow 7 x.ru.cv x.1.cs.length (l6 x.1.cs)
 fine:x.1.fine
theorem a2m.ok {w:World} {ow:Ow} {x:Lr} (h:a2m w ow x):x.ru.ok w:=h.fine.ok h.cs.rd
theorem a2m.mov {F:Nat->Prop} {w w':World} {ow ow':Ow} {x:Lr} (h:a2m w ow x) (s:Mov F w ow w' ow') (h0:¬F 0):a2m w' ow' x:=⟨h.cs.mov s h0 (by omega),h.fine⟩
theorem b3f {w:World} {ow:Ow} {v:Value} {L:List Lr} (h:j0 w 8 v L.length (rus (L.map Lr.ru))) (hx:∀x∈L,a2m w ow x):K8 w v (L.map Lr.ru):=by
 refine ⟨by rw [zz10];exact h,fun r hr=> ?_⟩;obtain ⟨x,h1,rfl⟩:=List.mem_map.1 hr;exact (hx x h1).ok
structure O6 (w:World) (ow:Ow) (c g:Nat) (v:Value) (L:List Lr):Prop where
 sl:i7 w 35 8 v L.length (rus (L.map Lr.ru))
 vb:∀b,v.ownBlock=some b->ow b=c/\b≠g
 each:∀x∈L,a2m w ow x
theorem O6.ru {w:World} {ow:Ow} {c g:Nat} {v:Value} {L:List Lr} (h:O6 w ow c g v L):K8 w v (L.map Lr.ru):=b3f h.sl.rd h.each
structure J4 (w:World) (ow:Ow) (c d g:Nat) (rest:List Value) (t:TypeId) (v:Value) (L:List Lr):Prop where
 row:w.heap[g]? =some (.cells (v::rest).toArray t (0,0))
 tag:ow g=c
 sl:O6 w ow d g v L
theorem O6.mov {F:Nat->Prop} {w w':World} {ow ow':Ow} {c g:Nat} {v:Value} {L:List Lr} (h:O6 w ow c g v L) (s:Mov F w ow w' ow') (h0:¬F 0) (hc:¬F c):O6 w' ow' c g v L:=by
 refine ⟨h.sl.mod s.md (fun b hb hf=> ?_),fun b hb=> ?_,fun x hx=>(h.each x hx).mov s h0⟩
 ·have hf':F (ow b):=hf;rw [(h.vb b hb).1] at hf';exact hc hf'
 rw [s.old b (h.sl.lt b hb)];exact h.vb b hb
theorem J4.mov {F:Nat->Prop} {w w':World} {ow ow':Ow} {c d g:Nat} {rest:List Value} {t:TypeId} {v:Value} {L:List Lr} (h:J4 w ow c d g rest t v L) (s:Mov F w ow w' ow') (h0:¬F 0) (hc:¬F c) (hd:¬F d):J4 w' ow' c d g rest t v L:=by
 have hg:=(zz7 h.row).1;refine ⟨s.md.heap h.row (fun hf=> ?_),by rw [s.old g hg];exact h.tag,h.sl.mov s h0 hd⟩;have hf':F (ow g):=hf;rw [h.tag] at hf';exact hc hf'
theorem A8 (l:List Att):(j7 l).length=l.length*6:=by
 induction l with
 |nil=>rfl
 |cons a l ih=>
  show (a.cells++j7 l).length=_;rw [zz4,ih,Att.cells_length,zz9];omega
theorem r9 (l m:List Att):j7 (l++m)=j7 l++j7 m:=by unfold j7;simp
theorem G7 (a:Att) (l:List Att):j7 (a::l)=a.cells++j7 l:=by unfold j7;simp
theorem a5C (l:List Att):∀u∈j7 l,u.oneCell'=true:=fun u hu=>by
 unfold j7 at hu;obtain ⟨x, -,hx⟩:=List.mem_flatMap.1 hu;exact zz15 (show x.cells.all (·.oneCell')=true from rfl) u hx
theorem a05:D8 Tryz.prog 44 70 6 64:=O4 (by kernel_rfl) (by kernel_rfl)
theorem T9:(Tryz.prog.info? 70).map (·.size)=some 6:=by kernel_rfl
theorem a5D (w:World):(Go.sizeOf 70).run Tryz.prog w= .ok 6 w:=by
 have:=T9
 cases hq:Tryz.prog.info? 70 with
 |none=>rw [hq] at this;cases this
 |some i=>
  rw [hq] at this;have hs:i.size=6:=by simpa using this
  simp [Go.sizeOf,typeInfo,hq,hs]
theorem a5E {w:World} {g:Nat} {cs:Array Value} {t:TypeId} {fr:Nat×Nat} (h:w.heap[g]? =some (.cells cs t fr)):w.shape? g=some (t,cs.size):=by
 unfold World.shape?;rw [h]
theorem a66 {w:World} {g k:Nat} {cs:Array Value} {t:TypeId} (h:w.heap[g]? =some (.cells cs t (0,0))):w.frozen? {block:=g,off:=k}=false:=L7 h
theorem a67 (w:World) (sv:Value) (l:List Att) (x:Att) (hown:i7 w 70 6 sv l.length (j7 l)) (hl:l.length<=100000) (vb:Nat) (hvb:w.heap[vb]? =some (.cells x.cells.toArray 70 (0,0))):
 Calls Tryz.prog 109 #[sv,.int .i64 l.length,.slice (some ⟨vb,0,none⟩) 1 1] w fun e w'=>∃v',e= .returned v'/\
  t8 w 70 6 sv (l.length+1) (j7 (l++[x])) v' w':=by
 obtain ⟨a,cap,rfl,hcap⟩:=hown.shape;have hl':(l.length:Int)<=100000:=by omega
 have hcap':(l.length:Int)<=cap:=by omega
 have hrd:j0 w 6 (.slice (some ⟨vb,0,none⟩) 1 1) 1 x.cells:=⟨by simp [Att.cells_length],_,_,rfl,by omega,(fun h=>by cases h),fun b hb _=>⟨vb,0,(by cases hb;rfl),fun j u hu=>by
  rw [Nat.zero_add]
  exact d6 hvb (by simpa using hu)⟩⟩
 have hx1:∀u∈x.cells,u.oneCell'=true:=zz15 (show x.cells.all (·.oneCell')=true from rfl);by_cases hb:cap=l.length
 ·subst hb;obtain ⟨Hown,Hvb,Hrd,Hx1⟩:=zh4 hown hvb hrd hx1;clear hown hvb hrd hx1
  go_enter Tryz.func109,Tryz.ntmps109
  go_wp2_with (first|((with_reducible refine j6 (.tmp 23) (.tmp 24) 44 ?_);refine ⟨rfl,70,6,64,a05,.slice a l.length l.length,l.length,j7 l,rfl,Hown.out,_,1,x.cells,rfl,Hrd.out,Hx1.out,by omega,by unfold maxLen;omega, ?_⟩;intro ad cap2 w2 hA;have HAp:=Lib.hid hA;clear hA)|fail)
  go_ret;exact ⟨_,rfl,by have:=HAp.out;rw [r9,G7];simpa [j7] using this⟩
 obtain ⟨Hown,Hvb,Hrd,Hx1⟩:=zh4 hown hvb hrd hx1;clear hown hvb hrd hx1
 go_enter Tryz.func109,Tryz.ntmps109
 go_wp2_with (first|((with_reducible refine j6 (.tmp 23) (.tmp 24) 44 ?_);refine ⟨rfl,70,6,64,a05,.slice a l.length cap,l.length,j7 l,rfl,Hown.out,_,1,x.cells,rfl,Hrd.out,Hx1.out,by omega,by unfold maxLen;omega, ?_⟩;intro ad cap2 w2 hA;have HAp:=Lib.hid hA;clear hA)|fail)
 go_ret;exact ⟨_,rfl,by have:=HAp.out;rw [r9,G7];simpa [j7] using this⟩
theorem a68 (w:World) (sv:Value) (l:List Att) (i:Nat) (x:Att) (hown:i7 w 70 6 sv l.length (j7 l)) (hi:i<l.length) (hl:l.length<=100000) (vb:Nat) (hvb:w.heap[vb]? =some (.cells x.cells.toArray 70 (0,0)))
 (hne:∀b,sv.ownBlock=some b->b≠vb):
 Calls Tryz.prog 109 #[sv,.int .i64 i,.slice (some ⟨vb,0,none⟩) 1 1] w fun e w'=>∃v',e= .returned v'/\
  t8 w 70 6 sv (l.length+1) (j7 (l.take i++x::l.drop i)) v' w':=by
 obtain ⟨a,cap,rfl,hcap⟩:=hown.shape;have hl':(l.length:Int)<=100000:=by omega
 have hi':(i:Int)<l.length:=by omega
 have hcap':(l.length:Int)<=cap:=by omega
 rcases hown.2 with ⟨-,h0⟩|⟨g,off,cap',cur,hv,hg,hn,hc,hs,ht⟩
 ·omega
 cases hv
 have hx1:∀u∈x.cells,u.oneCell'=true:=zz15 (show x.cells.all (·.oneCell')=true from rfl);have hgv:g≠vb:=hne g rfl
 have hcells:∀j u,(j7 l)[j]? =some u->w.cell? ⟨g,off+j,none⟩=some u:=by
  obtain ⟨-,a',c',h1, -, -,h4⟩:=hown.rd;cases h1
  intro j u hu
  obtain ⟨g',off',h5,h6⟩:=h4 _ rfl (by
   have:=(zz6 hu).1;rw [A8] at this
   omega)
  cases h5
  exact h6 j u hu
 have hsplit:j7 l=j7 (l.take i)++j7 (l.drop i):=by rw [<-r9,List.take_append_drop]
 have htl:(j7 (l.take i)).length=i*6:=by rw [A8,List.length_take];congr 1;omega
 have hdl:(j7 (l.drop i)).length=(l.length - i)*6:=by rw [A8,List.length_drop]
 by_cases hroom:l.length+1<=cap
 ·have hroom':(l.length:Int)+1<=cap:=by omega
  have hb1:¬(cap=i):=by omega
  have hb2:¬(cap=i+1):=by omega
  have hsz:off+(l.length+1)*6<=cur.size:=by have:=Nat.mul_le_mul_right 6 hroom;omega
  have hov:∀lb cb,(callFunc 142 #[.slice (some ⟨vb,0,none⟩) 1 1,.slice (some ⟨g,off+(i+1)*6,none⟩) lb cb]).run Tryz.prog w= .ok (.value (.bool false)) w:=fun lb cb=>by
   rw [run_callFunc_extern Tryz.func142 (by kernel_rfl) (by kernel_rfl) (by kernel_rfl) (e:=Extern.SlicesOverlaps.overlaps #[44,44] #[4]) (by kernel_rfl),
    Lib.run_overlaps_apart w 44 4 70 Tryz.underlying44 6 a5D ⟨vb,0,none⟩ ⟨g,off+(i+1)*6,none⟩ 1 1 lb cb (Ne.symm hgv) 70 70 6 cur.size (a5E hvb) (a5E hg) (by omega) (L7 hvb) (a66 hvb)]
   rfl
  have hcp1:∀ty dc sc,(Builtin.copy_ #[44,44] ty #[.slice (some ⟨g,off+(i+1)*6,none⟩) (l.length - i) dc,.slice (some ⟨g,off+i*6,none⟩) (l.length+1 - i) sc]).run Tryz.prog w.drew= .ok (goInt ((l.length - i:Nat):Int)) (w.drew.setRow g (cur.toList.take (off+(i+1)*6)++j7 (l.drop i)++cur.toList.drop (off+(i+1)*6+(j7 (l.drop i)).length)).toArray):=fun ty dc sc=>by
   have hmin:Nat.min (l.length+1 - i) (l.length - i)=l.length - i:=by simp only [Nat.min_def];split<;>omega
   have:=N1 (P:=Tryz.prog) w.drew 44 44 ty 70 6 g (off+(i+1)*6) (l.length - i) dc ⟨g,off+i*6,none⟩ (l.length+1 - i) sc (j7 (l.drop i)) cur 70 hg Tryz.underlying44 T9 (by rw [hmin,hdl])
    (fun j v hj=>by
      have:=hcells (i*6+j) v (by rw [hsplit,List.getElem?_append_right (by omega),htl,Nat.add_sub_cancel_left];exact hj);rw [t7,Nat.add_assoc]
      exact this) (by rw [hdl];omega) (a5C _)
   rw [hmin] at this;exact this
  obtain ⟨cur1,hcur1⟩:∃c,(cur.toList.take (off+(i+1)*6)++j7 (l.drop i)++cur.toList.drop (off+(i+1)*6+(j7 (l.drop i)).length)).toArray=c:=⟨_,rfl⟩;rw [hcur1] at hcp1
  have hc1s:cur1.size=cur.size:=by
   rw [<-hcur1];simp only [List.size_toArray,zz4,List.length_take,List.length_drop,Array.length_toList (xs:=cur),hdl];omega
  obtain ⟨w1,hw1⟩:∃w1,w.drew.setRow g cur1=w1:=⟨_,rfl⟩;have hm1:Mod (fun k=>k=g) w w1:=hw1▸((Mod.refl (fun k=>k=g) w).drew).setRow (fun _=>rfl) _;have hg1:w1.heap[g]? =some (.cells cur1 70 (0,0)):=hw1▸setRow_heap w.drew g cur _ _ _ hg;have hv1:=hm1.heap hvb (fun h=>hgv h.symm)
  have hcp2:∀ty dc,(Builtin.copy_ #[44,44] ty #[.slice (some ⟨g,off+i*6,none⟩) (l.length+1 - i) dc,.slice (some ⟨vb,0,none⟩) 1 1]).run Tryz.prog w1= .ok (goInt 1) (w1.setRow g (cur1.toList.take (off+i*6)++x.cells++cur1.toList.drop (off+i*6+x.cells.length)).toArray):=fun ty dc=>by
   have hmin:Nat.min 1 (l.length+1 - i)=1:=by simp only [Nat.min_def];split<;>omega
   have:=N1 (P:=Tryz.prog) w1 44 44 ty 70 6 g (off+i*6) (l.length+1 - i) dc ⟨vb,0,none⟩ 1 1 x.cells cur1 70 hg1 Tryz.underlying44 T9 (by rw [hmin];rfl)
    (fun j v hj=>by rw [t7,Nat.zero_add];exact d6 hv1 (by simpa using hj)) (by rw [hc1s,Att.cells_length];omega) hx1
   rw [hmin] at this;exact this
  have hshift:=a6v (L:=cur.toList) (A:=j7 (l.take i)) (B:=j7 (l.drop i)) (X:=x.cells) (off:=off) (by rw [htl,hdl,Att.cells_length,Array.length_toList (xs:=cur)];omega) (by rw [htl,hdl,<-Nat.add_mul,show i+(l.length - i)=l.length by omega,ht,hsplit]);rw [htl,hdl,Att.cells_length] at hshift;obtain ⟨w2,hw2⟩:∃w2,w1.setRow g (cur1.toList.take (off+i*6)++x.cells++cur1.toList.drop (off+i*6+x.cells.length)).toArray=w2:=⟨_,rfl⟩;rw [hw2] at hcp2
  have hA:t8 w 70 6 (.slice (some ⟨g,off,none⟩) l.length cap) (l.length+1) (j7 (l.take i++x::l.drop i)) (.slice (some ⟨g,off,none⟩) (l.length+1) cap) w2:=by
   have hlx:(j7 (l.take i++x::l.drop i)).length=(l.length+1)*6:=by rw [r9,G7,zz4,zz4,htl,hdl,Att.cells_length];omega
   refine ⟨⟨hlx,.inr ⟨g,off,cap,_,rfl,hw2▸setRow_heap w1 g cur1 _ _ _ hg1,hroom,hc, ?_, ?_⟩⟩,(hm1.trans (hw2▸(Mod.refl (fun k=>k=g) w1).setRow (fun _=>rfl) _) (fun _ _ h=>h)).mono (fun k _ hk=>by rw [hk];rfl),.inl rfl⟩
   ·simp only [List.size_toArray,zz4,List.length_take,List.length_drop,Array.length_toList (xs:=cur1),hc1s,Att.cells_length];omega
   have h2:=hshift.1;rw [<-hcur1];rw [show off+i*6+6=off+(i+1)*6 by omega] at h2;simp only [hdl,Att.cells_length];rw [show off+i*6+6=off+(i+1)*6 by omega,show (l.length+1)*6=i*6+6+(l.length - i)*6 by omega,r9,G7];exact h2
  have htn:((l.length:Int)+1).toNat=l.length+1:=by omega
  have htn2:((i:Int)+1).toNat=i+1:=by omega
  have hw3:IntKind.i64.wrap ((i:Int)+1)=(i:Int)+1:=by rw [IntKind.wrap_i64];omega
  have hb3:(0:Int)<=(i:Int)+1:=by omega
  have hb4:(i:Int)+1<=(l.length:Int)+1:=by omega
  have hi2:(i:Int)<=(l.length:Int)+1:=by omega
  obtain ⟨Hov,Hown,Hvb,Hg,Ht,Hx1,Hcells,Hsplit,Htl,Hdl,Hshift,HA⟩:=zh12 hov hown hvb hg ht hx1 hcells hsplit htl hdl hshift hA;obtain ⟨Hm1,Hg1,Hv1,Hcur1,Hw2,Hw1,Hcp1,Hcp2,Hc1s⟩:=zh9 hm1 hg1 hv1 hcur1 hw2 hw1 hcp1 hcp2 hc1s;clear hown hvb hg ht hx1 hcells hsplit htl hdl hshift hA hm1 hg1 hv1 hcur1 hw2 hw1 hcp1 hcp2 hc1s hs
  go_enter Tryz.func109,Tryz.ntmps109
  go_wp2_with fail
  clear hov;have hS:(fun _:World=>True) w.drew:=trivial;refine g8 [.rd 0,.rd 1,.rd 2,.rd 3,.rd 4,.rd 5,.rd 6,.rd 7,.go 8] [] (fun _:World=>True) (by kernel_rfl) (by kernel_rfl) (fun _ _ d _ _ h=>(by cases d<;>exact h)) ?_
  iterate 8 (
   refine l5 rfl ?_ (fun _=>hS) ?_ (fun w0 h0=> ?_) (fun K hK=> ?_)
   ·(try simp only [zz1]);(try simp only [zz2]);(try simp only [zz3]);go_simp;done
   rotate_left
   ·(try simp only [zz1]);(try simp only [zz2]);(try simp only [zz3])
    first
     |(obtain - :=h0 rfl;clear h0;go_simp;with_reducible rfl)
     |(clear h0;go_simp;with_reducible rfl)
   (try simp only [zz1]);(try simp only [zz2]);(try simp only [zz3])
   go_simp;refine hK _ ?_;clear hK K)
  refine g7 (g9 rfl ?_ (fun K hK=> ?_))
  ·(try simp only [zz1]);(try simp only [zz2]);(try simp only [zz3]);go_simp;done
  (try simp only [zz1]);(try simp only [zz2]);(try simp only [zz3]);refine X9 (.tmp 73) (.tmp 76) 44 44 rfl (Hcp1.out _ _ _) ?_;rw [Hw1.out];refine hK _ _ (fun h=>absurd h (by decide)) ?_;clear hK K;refine j8 ?_
  go_wp2_with (first|((with_reducible refine W9 (.tmp 80) (.tmp 81) ?_);refine ⟨_,_,rfl,_,_,Hcp2.out _ _, ?_⟩)|fail)
  go_ret;exact ⟨_,rfl,HA.out⟩
 have hroom':(cap:Int)<l.length+1:=by omega
 have hb1:¬(cap=i):=by omega
 have hsz:off+cap*6<=cur.size:=hs;obtain ⟨i0,z,hi0,hz0,hz1,hz2,hzs⟩:=a05.2;have hrd0:j0 w 6 (.slice (some ⟨g,off,none⟩) i cap) i (j7 (l.take i)):=⟨by rw [htl],_,_,rfl,by omega,(fun h=>by cases h),fun b hb _=>⟨g,off,(by cases hb;rfl),fun j u hu=>hcells j u (by rw [hsplit,List.getElem?_append_left (zz6 hu).1];exact hu)⟩⟩;obtain ⟨c,hc1,hc2,hap⟩:=a1w (P:=Tryz.prog) w 44 3 44 70 i0 z Tryz.underlying44 Tryz.underlying3 hi0 hz0 6 hz1 (by rw [hzs]) g off i cap (j7 (l.take i)) hrd0 (l.length+1 - i) (by omega) (by omega) (by rw [hz2];omega) (by unfold maxLen;omega);rw [show i+(l.length+1 - i)=l.length+1 by omega] at hc1 hap;obtain ⟨curA,hcurA⟩:∃cA,(j7 (l.take i)).toArray++(Builtin.zeroCells z.cells (l.length+1 - i)++Builtin.zeroCells z.cells (c - (l.length+1)))=cA:=⟨_,rfl⟩;rw [hcurA] at hap
 have hAs:curA.size=c*6:=by
  rw [<-hcurA];simp only [Array.size_append,List.size_toArray,size_zeroCells,hzs,htl];omega
 have hAt:curA.toList.take (i*6)=j7 (l.take i):=by
  rw [<-hcurA,Array.toList_append,<-htl];exact List.take_left
 obtain ⟨wA,hwA⟩:∃wA,w.drew.alloc (.cells curA 70)=wA:=⟨_,rfl⟩;rw [hwA] at hap;have hmA:Mod (fun _=>False) w wA:=hwA▸((Mod.refl (fun _=>False) w).drew).alloc _;have hgA:wA.heap[w.heap.size]? =some (.cells curA 70 (0,0)):=hwA▸heap_alloc_new w.drew _;have hvA:=hmA.heap hvb (fun h=>h);have hgl:g<w.heap.size:=(zz7 hg).1
 have hcp1:∀ty dc,(Builtin.copy_ #[44,44] ty #[.slice (some ⟨w.heap.size,i*6,none⟩) (l.length+1 - i) dc,.slice (some ⟨vb,0,none⟩) 1 1]).run Tryz.prog wA= .ok (goInt 1) (wA.setRow w.heap.size (curA.toList.take (i*6)++x.cells++curA.toList.drop (i*6+x.cells.length)).toArray):=fun ty dc=>by
  have hmin:Nat.min 1 (l.length+1 - i)=1:=by simp only [Nat.min_def];split<;>omega
  have:=N1 (P:=Tryz.prog) wA 44 44 ty 70 6 w.heap.size (i*6) (l.length+1 - i) dc ⟨vb,0,none⟩ 1 1 x.cells curA 70 hgA Tryz.underlying44 T9 (by rw [hmin];rfl)
   (fun j v hj=>by rw [t7,Nat.zero_add];exact d6 hvA (by simpa using hj)) (by rw [hAs,Att.cells_length];omega) hx1
  rw [hmin] at this;exact this
 obtain ⟨cur1,hcur1⟩:∃c,(curA.toList.take (i*6)++x.cells++curA.toList.drop (i*6+x.cells.length)).toArray=c:=⟨_,rfl⟩;rw [hcur1] at hcp1
 have hc1s:cur1.size=c*6:=by
  rw [<-hcur1];simp only [List.size_toArray,zz4,List.length_take,List.length_drop,Array.length_toList (xs:=curA),hAs,Att.cells_length];omega
 have h1t:cur1.toList.take ((i+1)*6)=j7 (l.take i)++x.cells:=by
  rw [<-hcur1,hAt,zz12];show (j7 (l.take i)++(x.cells++_)).take _=_;rw [<-zz12,show (i+1)*6=(j7 (l.take i)++x.cells).length by rw [zz4,htl,Att.cells_length];omega,List.take_left]
 obtain ⟨w1,hw1⟩:∃w1,wA.setRow w.heap.size cur1=w1:=⟨_,rfl⟩;rw [hw1] at hcp1;have hm1:Mod (fun _=>False) w w1:=hmA.upon (hw1▸(Mod.refl (fun k=>k=w.heap.size) wA).setRow (fun _=>rfl) _) (fun b hb=> .inr (by omega));have hg1:w1.heap[w.heap.size]? =some (.cells cur1 70 (0,0)):=hw1▸setRow_heap wA w.heap.size curA _ _ _ hgA
 have hcp2:∀ty dc sc,(Builtin.copy_ #[44,44] ty #[.slice (some ⟨w.heap.size,(i+1)*6,none⟩) (l.length - i) dc,.slice (some ⟨g,off+i*6,none⟩) (l.length - i) sc]).run Tryz.prog w1.drew= .ok (goInt ((l.length - i:Nat):Int)) (w1.drew.setRow w.heap.size (cur1.toList.take ((i+1)*6)++j7 (l.drop i)++cur1.toList.drop ((i+1)*6+(j7 (l.drop i)).length)).toArray):=fun ty dc sc=>by
  have hmin:Nat.min (l.length - i) (l.length - i)=l.length - i:=by simp only [Nat.min_def];split<;>omega
  have:=N1 (P:=Tryz.prog) w1.drew 44 44 ty 70 6 w.heap.size ((i+1)*6) (l.length - i) dc ⟨g,off+i*6,none⟩ (l.length - i) sc (j7 (l.drop i)) cur1 70 hg1 Tryz.underlying44 T9 (by rw [hmin,hdl])
   (fun j v hj=>by
     have:=hcells (i*6+j) v (by rw [hsplit,List.getElem?_append_right (by omega),htl,Nat.add_sub_cancel_left];exact hj);rw [t7,Nat.add_assoc]
     exact hm1.cell this (fun h=>h)) (by rw [hdl,hc1s];omega) (a5C _)
  rw [hmin] at this;exact this
 obtain ⟨cur2,hcur2⟩:∃c,(cur1.toList.take ((i+1)*6)++j7 (l.drop i)++cur1.toList.drop ((i+1)*6+(j7 (l.drop i)).length)).toArray=c:=⟨_,rfl⟩;rw [hcur2] at hcp2;obtain ⟨w2,hw2⟩:∃w2,w1.drew.setRow w.heap.size cur2=w2:=⟨_,rfl⟩;rw [hw2] at hcp2
 have hA:t8 w 70 6 (.slice (some ⟨g,off,none⟩) l.length cap) (l.length+1) (j7 (l.take i++x::l.drop i)) (.slice (some ⟨w.heap.size,0,none⟩) (l.length+1) c) w2:=by
  have hlx:(j7 (l.take i++x::l.drop i)).length=(l.length+1)*6:=by rw [r9,G7,zz4,zz4,htl,hdl,Att.cells_length];omega
  refine ⟨⟨hlx,.inr ⟨w.heap.size,0,c,cur2,rfl,hw2▸setRow_heap w1.drew w.heap.size cur1 _ _ _ hg1,hc1,hc2, ?_, ?_⟩⟩,(hm1.upon (hw2▸((Mod.refl (fun k=>k=w.heap.size) w1).drew).setRow (fun _=>rfl) _) (fun b hb=> .inr (by omega))).mono (fun k _ hk=>hk.elim),.inr ⟨w.heap.size,rfl,Nat.le_refl _⟩⟩
  ·rw [<-hcur2];simp only [List.size_toArray,zz4,List.length_take,List.length_drop,Array.length_toList (xs:=cur1),hc1s,hdl];omega
  rw [<-hcur2,List.drop_zero,h1t];show ((j7 (l.take i)++x.cells)++j7 (l.drop i)++_).take _=_;have he:j7 (l.take i++x::l.drop i)=(j7 (l.take i)++x.cells)++j7 (l.drop i):=by rw [r9,G7,zz12]
  rw [<-he,<-hlx,List.take_left]
 have htn:((l.length:Int)+1 - i).toNat=l.length+1 - i:=by omega
 have hw3:IntKind.i64.wrap ((i:Int)+1)=(i:Int)+1:=by rw [IntKind.wrap_i64];omega
 have hb3:(0:Int)<=(i:Int)+1:=by omega
 have hb4:(i:Int)+1<=(l.length:Int)+1:=by omega
 have htn2:((i:Int)+1).toNat=i+1:=by omega
 have hb5:¬(c=i):=by omega
 have hb6:¬(c=i+1):=by omega
 have hb7:(i:Int)<=c:=by omega
 have hb8:(l.length:Int)+1<=c:=by omega
 rw [show ((l.length+1 - i:Nat):Int)=(l.length:Int)+1 - i by omega] at hap;obtain ⟨Hown,Hvb,Hg,Ht,Hx1,Hcells,Hsplit,Htl,Hdl,HA,Hm1,Hg1⟩:=zh12 hown hvb hg ht hx1 hcells hsplit htl hdl hA hm1 hg1;obtain ⟨Hcur1,Hcur2,Hw2,Hw1,Hcp1,Hcp2,Hc1s,Hap,Hrd0,H1t,HAt,HAs⟩:=zh12 hcur1 hcur2 hw2 hw1 hcp1 hcp2 hc1s hap hrd0 h1t hAt hAs;obtain ⟨HcurA,HwA,HmA,HgA,HvA⟩:=zh5 hcurA hwA hmA hgA hvA;clear hown hvb hg ht hx1 hcells hsplit htl hdl hA hm1 hg1 hcur1 hcur2 hw2 hw1 hcp1 hcp2 hc1s hap hrd0 h1t hAt hAs hcurA hwA hmA hgA hvA hs hsz
 go_enter Tryz.func109,Tryz.ntmps109
 go_wp2_with (first|((with_reducible refine a0V (.tmp 34) (.tmp 39) ?_);refine ⟨_,_,rfl,_,_,Hap.out, ?_⟩)|((with_reducible refine W9 (.tmp 43) (.tmp 44) ?_);refine ⟨_,_,rfl,_,_,Hcp1.out _ _, ?_⟩)|fail)
 have hi2:(i:Int)<=(l.length:Int):=by omega
 refine g8 [.rd 0,.rd 1,.rd 2,.rd 3,.rd 4,.rd 5,.rd 6,.rd 7,.go 8] [] (fun _:World=>True) (by kernel_rfl) (by kernel_rfl) (fun _ _ d _ _ h=>(by cases d<;>exact h)) ?_;have hS:(fun _:World=>True) w1.drew:=trivial
 iterate 8 (
  refine l5 rfl ?_ (fun _=>hS) ?_ (fun w0 h0=> ?_) (fun K hK=> ?_)
  ·(try simp only [zz1]);(try simp only [zz2]);(try simp only [zz3]);go_simp;done
  rotate_left
  ·(try simp only [zz1]);(try simp only [zz2]);(try simp only [zz3])
   first
    |(obtain - :=h0 rfl;clear h0;go_simp;with_reducible rfl)
    |(clear h0;go_simp;with_reducible rfl)
  (try simp only [zz1]);(try simp only [zz2]);(try simp only [zz3])
  go_simp;refine hK _ ?_;clear hK K)
 refine g7 (g9 rfl ?_ (fun K hK=> ?_))
 ·(try simp only [zz1]);(try simp only [zz2]);(try simp only [zz3]);go_simp;done
 (try simp only [zz1]);(try simp only [zz2]);(try simp only [zz3]);refine X9 (.tmp 50) (.tmp 53) 44 44 rfl (Hcp2.out _ _ _) ?_;refine hK _ _ (fun h=>absurd h (by decide)) ?_;clear hK K;refine j8 ?_
 go_wp2_with fail
 go_ret;exact ⟨_,rfl,HA.out⟩
theorem a9b (w:World) (sv:Value) (l:List Att) (i:Nat) (x:Att) (hown:i7 w 70 6 sv l.length (j7 l)) (hi:i<=l.length) (hl:l.length<=100000) (vb:Nat) (hvb:w.heap[vb]? =some (.cells x.cells.toArray 70 (0,0)))
 (hne:∀b,sv.ownBlock=some b->b≠vb):
 Calls Tryz.prog 109 #[sv,.int .i64 i,.slice (some ⟨vb,0,none⟩) 1 1] w fun e w'=>∃v',e= .returned v'/\
  t8 w 70 6 sv (l.length+1) (j7 (l.take i++x::l.drop i)) v' w':=by
 rcases Nat.lt_or_eq_of_le hi with h|rfl
 ·exact a68 w sv l i x hown h hl vb hvb hne
 rw [List.take_length,List.drop_length];exact a67 w sv l x hown hl vb hvb
end
end Go.Proofs.YtaenebdppkjhoaaGreatDoor
