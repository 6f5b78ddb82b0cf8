/- Lemmas. -/
import Derived.Test.YtebhabpahfmodaaGreatDoorZh26
import Derived.Test.YtebhabpahfmodaaGreatDoorZh23
set_option maxHeartbeats 40000000
set_option maxRecDepth 20000
namespace Go.Proofs.YtebhabpahfmodaaGreatDoor
open Go.RowKit
abbrev Ow:=Nat->Nat
structure Owd (w0 w:World) (ow:Ow):Prop where
 hi:∀k,ow k≠0->k<w.heap.size
 lo:∀k,ow k≠0->w0.heap.size<=k
 laid:N8 w0 w
structure Mov (F:Nat->Prop) (w:World) (ow:Ow) (w':World) (ow':Ow):Prop where
 md:Mod (fun k=>F (ow k)) w w'
 old:∀k,k<w.heap.size->ow' k=ow k
 new:∀k,w.heap.size<=k->ow' k=0\/ow' k=1\/F (ow' k)
 top:∀k,w'.heap.size<=k->ow' k=0
theorem Owd.zero {w0 w:World} {ow:Ow} (h:Owd w0 w ow) {k:Nat} (hk:w.heap.size<=k):ow k=0:=by
 by_cases e:ow k=0
 ·exact e
 have:=h.hi k e;omega
theorem Mov.owd {F:Nat->Prop} {w0 w w':World} {ow ow':Ow} (s:Mov F w ow w' ow') (h:Owd w0 w ow) (h0:¬F 0):Owd w0 w' ow':=by
 refine ⟨fun k hk=> ?_,fun k hk=> ?_,h.laid.mod s.md (fun k hk hf=> ?_)⟩
 ·by_cases hl:k<w'.heap.size
  ·exact hl
  exact absurd (s.top k zo) hk
 ·by_cases hl:k<w.heap.size
  ·rw [s.old k hl] at hk;exact h.lo k hk
  have:=h.laid.size;omega
 have hf':F (ow k):=hf;by_cases e:ow k=0
 ·rw [e] at hf';exact h0 hf'
 have:=h.lo k e;omega
theorem Mov.refl {F:Nat->Prop} {w0 w:World} {ow:Ow} (h:Owd w0 w ow):Mov F w ow w ow:=
 ⟨Mod.refl _ _,fun _ _=>rfl,fun _ hk=> .inl (h.zero hk),fun _ hk=>h.zero hk⟩
theorem Mov.of {w0 w w':World} {ow:Ow} (h:Owd w0 w ow) (hm:Mod (fun _=>False) w w') (F:Nat->Prop):Mov F w ow w' ow:=
 ⟨hm.mono (fun _ _ h=>h.elim),fun _ _=>rfl,fun _ hk=> .inl (h.zero hk),fun _ hk=>h.zero (Nat.le_trans hm.size hk)⟩
theorem Mov.mono {F G:Nat->Prop} {w w':World} {ow ow':Ow} (s:Mov F w ow w' ow') (h:∀t,F t->G t):Mov G w ow w' ow':=
 ⟨s.md.mono (fun _ _ hf=>h _ hf),s.old,fun k hk=>(s.new k hk).imp_right (fun h2=>h2.imp_right (h _)),s.top⟩
theorem Mov.trans {F:Nat->Prop} {w w' w'':World} {ow ow' ow'':Ow} (s:Mov F w ow w' ow') (t:Mov F w' ow' w'' ow''):Mov F w ow w'' ow'':=by
 refine ⟨s.md.trans t.md (fun k hk hf=> ?_),fun k hk=> ?_,fun k hk=> ?_,t.top⟩
 ·have hf':F (ow' k):=hf;rw [s.old k hk] at hf';exact hf'
 ·rw [t.old k (zz13 hk s.md.size),s.old k hk]
 by_cases hl:k<w'.heap.size
 ·rw [t.old k hl];exact s.new k hk
 exact t.new k zo
noncomputable def r9 (ow:Ow) (b t:Nat):Ow:=fun k=>if k=b then t else ow k
theorem E3 (ow:Ow) (b t:Nat):r9 ow b t b=t:=if_pos rfl
theorem X1 (ow:Ow) {b k:Nat} (t:Nat) (h:k≠b):r9 ow b t k=ow k:=if_neg h
theorem Mov.alloc {F:Nat->Prop} {w0 w:World} {ow:Ow} (h:Owd w0 w ow) (o:Obj) (t:Nat) (ht:t=0\/t=1\/F t):Mov F w ow (w.alloc o) (r9 ow w.heap.size t):=by
 have hz:(w.alloc o).heap.size=w.heap.size+1:=by simp
 refine ⟨(Mod.refl _ w).alloc o,fun k hk=>X1 _ _ zo,fun k hk=> ?_,fun k hk=> ?_⟩
 ·by_cases e:k=w.heap.size
  ·subst e;rw [E3];exact ht
  rw [X1 _ _ e];exact .inl (h.zero hk)
 rw [X1 _ _ zo];exact h.zero zo
theorem Mov.wrote {F:Nat->Prop} {w0 w w':World} {ow:Ow} (h:Owd w0 w ow) {G:Nat->Prop} (hm:Mod G w w') (hG:∀k,G k->F (ow k)):Mov F w ow w' ow:=
 ⟨hm.mono (fun k _ hk=>hG k hk),fun _ _=>rfl,fun _ hk=> .inl (h.zero hk),fun _ hk=>h.zero (Nat.le_trans hm.size hk)⟩
noncomputable def s6 (w w':World) (ow:Ow) (own' C':Nat->Prop) (c:Nat):Ow:=by
 classical exact fun k=>if k<w.heap.size then ow k else if k<w'.heap.size then (if own' k then c else if C' k then 0 else 1) else 0
theorem p9 {w w':World} {ow:Ow} {own' C':Nat->Prop} {c k:Nat} (h:k<w.heap.size):s6 w w' ow own' C' c k=ow k:=by
 unfold s6;rw [if_pos h]
theorem G7 {w w':World} {ow:Ow} {own' C':Nat->Prop} {c k:Nat} (h:w.heap.size<=k) (h2:k<w'.heap.size) (h3:own' k):s6 w w' ow own' C' c k=c:=by
 unfold s6;rw [if_neg zo,if_pos h2,if_pos h3]
theorem a1H {w w':World} {ow:Ow} {own' C':Nat->Prop} {c k:Nat} (h:w.heap.size<=k) (h2:k<w'.heap.size) (h3:¬own' k) (h4:C' k):s6 w w' ow own' C' c k=0:=by
 unfold s6;rw [if_neg zo,if_pos h2,if_neg h3,if_pos h4]
theorem a1f {w w':World} {ow:Ow} {own' C':Nat->Prop} {c k:Nat} (h:w.heap.size<=k) (h2:w'.heap.size<=k):s6 w w' ow own' C' c k=0:=by
 unfold s6;rw [if_neg zo,if_neg zo]
theorem a43 {w w':World} {ow:Ow} {own' C':Nat->Prop} {c k:Nat} (h:w.heap.size<=k) (h2:s6 w w' ow own' C' c k=c) (hc:2<=c):own' k/\k<w'.heap.size:=by
 by_cases hk:k<w'.heap.size
 ·refine ⟨?_,hk⟩;by_cases ho:own' k
  ·exact ho
  unfold s6 at h2;rw [if_neg zo,if_pos hk,if_neg ho] at h2;split at h2<;>omega
 rw [a1f h zo] at h2;omega
theorem Mov.tag {F:Nat->Prop} {w w':World} {ow:Ow} {own' C':Nat->Prop} {c:Nat} (hF:F c) (hm:Mod (fun k=>F (ow k)) w w'):Mov F w ow w' (s6 w w' ow own' C' c):=by
 refine ⟨hm,fun k hk=>p9 hk,fun k hk=> ?_,fun k hk=>a1f (Nat.le_trans hm.size hk) hk⟩;by_cases h2:k<w'.heap.size
 ·by_cases ho:own' k
  ·refine .inr (.inr ?_);rw [G7 hk h2 ho];exact hF
  by_cases hC:C' k
  ·exact .inl (a1H hk h2 ho hC)
  right;left;unfold s6;rw [if_neg zo,if_pos h2,if_neg ho,if_neg hC]
 exact .inl (a1f hk zo)
theorem Mov.mod0 {F:Nat->Prop} {w0 w w':World} {ow ow':Ow} (s:Mov F w ow w' ow') (h:Owd w0 w ow) (hm:Mod (fun _=>False) w0 w) (h0:¬F 0):Mod (fun _=>False) w0 w':=
 hm.upon s.md (fun b hb=> .inr (h.lo b (fun e=>h0 (by
  have hb':F (ow b):=hb;rw [e] at hb'
  exact hb'))))
structure o3 (w:World) (ow:Ow) (sz:Nat) (v:Value) (n:Nat) (xs:List Value):Prop where
 rd:j3 w sz v n xs
 con:0<n->∀b,v.ownBlock=some b->ow b=0
theorem j3.mod1 {w w':World} {F:Nat->Prop} {sz:Nat} {v:Value} {n:Nat} {xs:List Value} (h:j3 w sz v n xs) (hm:Mod F w w') (hd:0<n->∀b,v.ownBlock=some b->¬F b):j3 w' sz v n xs:=by
 obtain ⟨h1,a,c,rfl,h3,h4,h5⟩:=h;refine ⟨h1,a,c,rfl,h3,h4,fun b hb hn=> ?_⟩;obtain ⟨g,off,h6,h7⟩:=h5 b hb hn;refine ⟨g,off,h6,fun j u hu=>hm.cell (h7 j u hu) (hd hn g ?_)⟩;rw [hb,h6];rfl
theorem j3.low {w:World} {sz:Nat} {v:Value} {n:Nat} {xs:List Value} (h:j3 w sz v n xs) (hs:0<sz) (hn:0<n):∀b,v.ownBlock=some b->b<w.heap.size:=fun b hb=>by
 obtain ⟨h1,a,c,rfl,h3,h4,h5⟩:=h
 cases a with
 |none=>exact absurd (h4 rfl) zo
 |some a=>
  obtain ⟨g,off,h6,h7⟩:=h5 a rfl hn;subst h6;cases hb
  have hl:0<xs.length:=by rw [h1];exact Nat.mul_pos hn hs
  exact World.block_lt_of_cell? w _ (h7 0 xs[0] (zz5 hl))
theorem o3.nil (w:World) (ow:Ow) (sz:Nat):o3 w ow sz (.slice none 0 0) 0 []:=⟨⟨by simp,none,0,rfl,Nat.le_refl _,fun _=>rfl,fun b hb _=>(by cases hb)⟩,fun h=>absurd h zo⟩
theorem o3.mov {F:Nat->Prop} {w w':World} {ow ow':Ow} {sz:Nat} {v:Value} {n:Nat} {xs:List Value} (h:o3 w ow sz v n xs) (s:Mov F w ow w' ow') (h0:¬F 0) (hs:0<sz):o3 w' ow' sz v n xs:=by
 refine ⟨h.rd.mod1 s.md (fun hn b hb hf=> ?_),fun hn b hb=> ?_⟩
 ·have hf':F (ow b):=hf;rw [h.con hn b hb] at hf';exact h0 hf'
 rw [s.old b (h.rd.low hs hn b hb)];exact h.con hn b hb
theorem o3.of_rd {w0 w:World} {ow:Ow} {sz:Nat} {v:Value} {n:Nat} {xs:List Value} (hw:Owd w0 w ow) (h:j3 w0 sz v n xs) (hs:0<sz):o3 w ow sz v n xs:=by
 have hz:∀b,b<w0.heap.size->ow b=0:=fun b hb=>by
  by_cases e:ow b=0
  ·exact e
  have:=hw.lo b e;omega
 have hm:Mod (fun k=>w0.heap.size<=k) w0 w:=Mod.of_below hw.laid.below;exact ⟨h.mod1 hm (fun hn b hb hf=>by have:=h.low hs hn b hb;omega),fun hn b hb=>hz b (h.low hs hn b hb)⟩
abbrev Lr:=PRu×Option Addr×Nat
def Lr.ru (x:Lr):Ru:=x.1.lies x.2.1 x.2.2
structure PRu.fine (p:PRu):Prop where
 who:p.who.size<=1000000
 sc:p.sc.size<=1000000
 name:p.name.size<=1000000
 len:p.cs.length<=1000
 cs:∀c∈p.cs,c.fits
theorem PRu.fine.ok {p:PRu} (h:p.fine) {w:World} {a:Option Addr} {c:Nat} (hr:j3 w 7 (.slice a p.cs.length c) p.cs.length (m5 p.cs)):(p.lies a c).ok w:=by
 refine ⟨hr, ?_, ?_, ?_, ?_,fun c hc=> ?_⟩
 ·have:=h.len;show p.cs.length<=_;omega
 ·have:=h.who;show p.who.size<=_;omega
 ·have:=h.sc;show p.sc.size<=_;omega
 ·have:=h.name;show p.name.size<=_;omega
 have h1:=(h.cs c hc).name;have h2:=(h.cs c hc).v.text;omega
theorem PRu.fine.kept {p:PRu} (h:p.fine):p.kept.fine:=by
 unfold PRu.kept;split
 ·exact ⟨h.who,h.sc,h.name,Nat.le_trans (D9 p.cs) h.len,G6 h.cs⟩
 exact h
structure a3c (w:World) (ow:Ow) (x:Lr):Prop where
 cs:o3 w ow 7 x.ru.cv x.1.cs.length (m5 x.1.cs)
 fine:x.1.fine
theorem a3c.ok {w:World} {ow:Ow} {x:Lr} (h:a3c w ow x):x.ru.ok w:=h.fine.ok h.cs.rd
theorem a3c.mov {F:Nat->Prop} {w w':World} {ow ow':Ow} {x:Lr} (h:a3c w ow x) (s:Mov F w ow w' ow') (h0:¬F 0):a3c w' ow' x:=⟨h.cs.mov s h0 zo,h.fine⟩
theorem b4r {w:World} {ow:Ow} {v:Value} {L:List Lr} (h:j3 w 8 v L.length (rus (L.map Lr.ru))) (hx:∀x∈L,a3c w ow x):I9 w v (L.map Lr.ru):=by
 refine ⟨by rw [zz10];exact h,fun r hr=> ?_⟩;obtain ⟨x,h1,rfl⟩:=List.mem_map.1 hr;exact (hx x h1).ok
structure O4 (w:World) (ow:Ow) (c g:Nat) (v:Value) (L:List Lr):Prop where
 sl:j2 w 28 8 v L.length (rus (L.map Lr.ru))
 vb:∀b,v.ownBlock=some b->ow b=c/\b≠g
 each:∀x∈L,a3c w ow x
theorem O4.ru {w:World} {ow:Ow} {c g:Nat} {v:Value} {L:List Lr} (h:O4 w ow c g v L):I9 w v (L.map Lr.ru):=b4r h.sl.rd h.each
structure M7 (w:World) (ow:Ow) (c d g:Nat) (rest:List Value) (t:TypeId) (v:Value) (L:List Lr):Prop where
 row:w.heap[g]? =some (.cells (v::rest).toArray t (0,0))
 tag:ow g=c
 sl:O4 w ow d g v L
theorem O4.mov {F:Nat->Prop} {w w':World} {ow ow':Ow} {c g:Nat} {v:Value} {L:List Lr} (h:O4 w ow c g v L) (s:Mov F w ow w' ow') (h0:¬F 0) (hc:¬F c):O4 w' ow' c g v L:=by
 refine ⟨h.sl.mod s.md (fun b hb hf=> ?_),fun b hb=> ?_,fun x hx=>(h.each x hx).mov s h0⟩
 ·have hf':F (ow b):=hf;rw [(h.vb b hb).1] at hf';exact hc hf'
 rw [s.old b (h.sl.lt b hb)];exact h.vb b hb
theorem M7.mov {F:Nat->Prop} {w w':World} {ow ow':Ow} {c d g:Nat} {rest:List Value} {t:TypeId} {v:Value} {L:List Lr} (h:M7 w ow c d g rest t v L) (s:Mov F w ow w' ow') (h0:¬F 0) (hc:¬F c) (hd:¬F d):M7 w' ow' c d g rest t v L:=by
 have hg:=(zz7 h.row).1;refine ⟨s.md.heap h.row (fun hf=> ?_),by rw [s.old g hg];exact h.tag,h.sl.mov s h0 hd⟩;have hf':F (ow g):=hf;rw [h.tag] at hf';exact hc hf'
theorem B0 (l:List Att):(k7 l).length=l.length*6:=by
 induction l with
 |nil=>rfl
 |cons a l ih=>
  show (a.cells++k7 l).length=_;rw [zz4,ih,Att.cells_length,zz9];omega
theorem r7 (l m:List Att):k7 (l++m)=k7 l++k7 m:=by unfold k7;simp
theorem K3 (a:Att) (l:List Att):k7 (a::l)=a.cells++k7 l:=by unfold k7;simp
theorem a6I (l:List Att):∀u∈k7 l,u.oneCell'=true:=fun u hu=>by
 unfold k7 at hu;obtain ⟨x, -,hx⟩:=List.mem_flatMap.1 hu;exact zz15 (show x.cells.all (·.oneCell')=true from rfl) u hx
theorem a0R:E7 Tryz.prog 29 112 6 64:=O8 zk zk
theorem X2:(Tryz.prog.info? 112).map (·.size)=some 6:=zk
theorem a6J (w:World):(Go.sizeOf 112).run Tryz.prog w= .ok 6 w:=by
 have:=X2
 cases hq:Tryz.prog.info? 112 with
 |none=>rw [hq] at this;cases this
 |some i=>
  rw [hq] at this;have hs:i.size=6:=by simpa using this
  simp [Go.sizeOf,typeInfo,hq,hs]
theorem a6K {w:World} {g:Nat} {cs:Array Value} {t:TypeId} {fr:Nat×Nat} (h:w.heap[g]? =some (.cells cs t fr)):w.shape? g=some (t,cs.size):=by
 unfold World.shape?;rw [h]
theorem a8f {w:World} {g k:Nat} {cs:Array Value} {t:TypeId} (h:w.heap[g]? =some (.cells cs t (0,0))):w.frozen? {block:=g,off:=k}=false:=J1 h
theorem a8g (w:World) (sv:Value) (l:List Att) (x:Att) (hown:j2 w 112 6 sv l.length (k7 l)) (hl:l.length<=100000) (vb:Nat) (hvb:w.heap[vb]? =some (.cells x.cells.toArray 112 (0,0))):
 Calls Tryz.prog 76 #[sv,.int .i64 l.length,.slice (some ⟨vb,0,none⟩) 1 1] w fun e w'=>∃v',e= .returned v'/\
  q5 w 112 6 sv (l.length+1) (k7 (l++[x])) v' w':=by
 obtain ⟨a,cap,rfl,hcap⟩:=hown.shape;have hl':(l.length:Int)<=100000:=zo
 have bf:(l.length:Int)<=cap:=zo
 have hrd:j3 w 6 (.slice (some ⟨vb,0,none⟩) 1 1) 1 x.cells:=⟨by simp [Att.cells_length],_,_,rfl,zo,(fun h=>by cases h),fun b hb _=>⟨vb,0,(by cases hb;rfl),fun j u hu=>by
  rw [Nat.zero_add]
  exact d6 hvb (by simpa using hu)⟩⟩
 have hx1:∀u∈x.cells,u.oneCell'=true:=zz15 (show x.cells.all (·.oneCell')=true from rfl);by_cases hb:cap=l.length
 ·subst hb;obtain ⟨aZ,dX,iq,BB⟩:=zh4 hown hvb hrd hx1;clear hown hvb hrd hx1
  go_enter Tryz.func76,Tryz.ntmps76
  go_wp2_with ((with_reducible refine l0 (.tmp 23) (.tmp 24) 29 ?_);refine ⟨rfl,112,6,64,a0R,.slice a l.length l.length,l.length,k7 l,rfl,aZ.out,_,1,x.cells,rfl,iq.out,BB.out,zo,by unfold maxLen;omega, ?_⟩;intro ad cap2 w2 hA;have BC:=Lib.hid hA;clear hA)
  go_ret;exact ⟨_,rfl,by have:=BC.out;rw [r7,K3];simpa [k7] using this⟩
 obtain ⟨aZ,dX,iq,BB⟩:=zh4 hown hvb hrd hx1;clear hown hvb hrd hx1
 go_enter Tryz.func76,Tryz.ntmps76
 go_wp2_with ((with_reducible refine l0 (.tmp 23) (.tmp 24) 29 ?_);refine ⟨rfl,112,6,64,a0R,.slice a l.length cap,l.length,k7 l,rfl,aZ.out,_,1,x.cells,rfl,iq.out,BB.out,zo,by unfold maxLen;omega, ?_⟩;intro ad cap2 w2 hA;have BC:=Lib.hid hA;clear hA)
 go_ret;exact ⟨_,rfl,by have:=BC.out;rw [r7,K3];simpa [k7] using this⟩
theorem a8h (w:World) (sv:Value) (l:List Att) (i:Nat) (x:Att) (hown:j2 w 112 6 sv l.length (k7 l)) (hi:i<l.length) (hl:l.length<=100000) (vb:Nat) (hvb:w.heap[vb]? =some (.cells x.cells.toArray 112 (0,0)))
 (hne:∀b,sv.ownBlock=some b->b≠vb):
 Calls Tryz.prog 76 #[sv,.int .i64 i,.slice (some ⟨vb,0,none⟩) 1 1] w fun e w'=>∃v',e= .returned v'/\
  q5 w 112 6 sv (l.length+1) (k7 (l.take i++x::l.drop i)) v' w':=by
 obtain ⟨a,cap,rfl,hcap⟩:=hown.shape;have hl':(l.length:Int)<=100000:=zo
 have hi':(i:Int)<l.length:=zo
 have bf:(l.length:Int)<=cap:=zo
 rcases hown.2 with ⟨-,h0⟩|⟨g,off,cap',cur,hv,hg,hn,hc,hs,ht⟩
 ·omega
 cases hv
 have hx1:∀u∈x.cells,u.oneCell'=true:=zz15 (show x.cells.all (·.oneCell')=true from rfl);have hgv:g≠vb:=hne g rfl
 have hcells:∀j u,(k7 l)[j]? =some u->w.cell? ⟨g,off+j,none⟩=some u:=by
  obtain ⟨-,a',c',h1, -, -,h4⟩:=hown.rd;cases h1
  intro j u hu
  obtain ⟨g',off',h5,h6⟩:=h4 _ rfl (by
   have:=(zz6 hu).1;rw [B0] at this
   omega)
  cases h5
  exact h6 j u hu
 have hsplit:k7 l=k7 (l.take i)++k7 (l.drop i):=by rw [<-r7,List.take_append_drop]
 have htl:(k7 (l.take i)).length=i*6:=by rw [B0,List.length_take];congr 1;omega
 have hdl:(k7 (l.drop i)).length=(l.length - i)*6:=by rw [B0,List.length_drop]
 by_cases hroom:l.length+1<=cap
 ·have hroom':(l.length:Int)+1<=cap:=zo
  have hb1:¬(cap=i):=zo
  have hb2:¬(cap=i+1):=zo
  have hsz:off+(l.length+1)*6<=cur.size:=by have:=Nat.mul_le_mul_right 6 hroom;omega
  have hov:∀lb cb,(callFunc 113 #[.slice (some ⟨vb,0,none⟩) 1 1,.slice (some ⟨g,off+(i+1)*6,none⟩) lb cb]).run Tryz.prog w= .ok (.value (.bool false)) w:=fun lb cb=>by
   rw [run_callFunc_extern Tryz.func113 zk zk zk (e:=Extern.SlicesOverlaps.overlaps #[29,29] #[4]) zk,
    Lib.run_overlaps_apart w 29 4 112 Tryz.underlying29 6 a6J ⟨vb,0,none⟩ ⟨g,off+(i+1)*6,none⟩ 1 1 lb cb (Ne.symm hgv) 112 112 6 cur.size (a6K hvb) (a6K hg) zo (J1 hvb) (a8f hvb)]
   rfl
  have hcp1:∀ty dc sc,(Builtin.copy_ #[29,29] ty #[.slice (some ⟨g,off+(i+1)*6,none⟩) (l.length - i) dc,.slice (some ⟨g,off+i*6,none⟩) (l.length+1 - i) sc]).run Tryz.prog w.drew= .ok (goInt ((l.length - i:Nat):Int)) (w.drew.setRow g (cur.toList.take (off+(i+1)*6)++k7 (l.drop i)++cur.toList.drop (off+(i+1)*6+(k7 (l.drop i)).length)).toArray):=fun ty dc sc=>by
   have hmin:Nat.min (l.length+1 - i) (l.length - i)=l.length - i:=by simp only [Nat.min_def];split<;>omega
   have:=Q9 (P:=Tryz.prog) w.drew 29 29 ty 112 6 g (off+(i+1)*6) (l.length - i) dc ⟨g,off+i*6,none⟩ (l.length+1 - i) sc (k7 (l.drop i)) cur 112 hg Tryz.underlying29 X2 (by rw [hmin,hdl])
    (fun j v hj=>by
      have:=hcells (i*6+j) v (by rw [hsplit,List.getElem?_append_right zo,htl,Nat.add_sub_cancel_left];exact hj);rw [A7,Nat.add_assoc]
      exact this) (by rw [hdl];omega) (a6I _)
   rw [hmin] at this;exact this
  obtain ⟨cur1,dQ⟩:∃c,(cur.toList.take (off+(i+1)*6)++k7 (l.drop i)++cur.toList.drop (off+(i+1)*6+(k7 (l.drop i)).length)).toArray=c:=⟨_,rfl⟩;rw [dQ] at hcp1
  have jE:cur1.size=cur.size:=by
   rw [<-dQ];simp only [List.size_toArray,zz4,List.length_take,List.length_drop,Array.length_toList (xs:=cur),hdl];omega
  obtain ⟨w1,hw1⟩:∃w1,w.drew.setRow g cur1=w1:=⟨_,rfl⟩;have hm1:Mod (fun k=>k=g) w w1:=hw1▸((Mod.refl (fun k=>k=g) w).drew).setRow (fun _=>rfl) _;have hg1:w1.heap[g]? =some (.cells cur1 112 (0,0)):=hw1▸setRow_heap w.drew g cur _ _ _ hg;have hv1:=hm1.heap hvb (fun h=>hgv h.symm)
  have hcp2:∀ty dc,(Builtin.copy_ #[29,29] ty #[.slice (some ⟨g,off+i*6,none⟩) (l.length+1 - i) dc,.slice (some ⟨vb,0,none⟩) 1 1]).run Tryz.prog w1= .ok (goInt 1) (w1.setRow g (cur1.toList.take (off+i*6)++x.cells++cur1.toList.drop (off+i*6+x.cells.length)).toArray):=fun ty dc=>by
   have hmin:Nat.min 1 (l.length+1 - i)=1:=by simp only [Nat.min_def];split<;>omega
   have:=Q9 (P:=Tryz.prog) w1 29 29 ty 112 6 g (off+i*6) (l.length+1 - i) dc ⟨vb,0,none⟩ 1 1 x.cells cur1 112 hg1 Tryz.underlying29 X2 (by rw [hmin];rfl)
    (fun j v hj=>by rw [A7,Nat.zero_add];exact d6 hv1 (by simpa using hj)) (by rw [jE,Att.cells_length];omega) hx1
   rw [hmin] at this;exact this
  have hshift:=a9c (L:=cur.toList) (A:=k7 (l.take i)) (B:=k7 (l.drop i)) (X:=x.cells) (off:=off) (by rw [htl,hdl,Att.cells_length,Array.length_toList (xs:=cur)];omega) (by rw [htl,hdl,<-Nat.add_mul,show i+(l.length - i)=l.length by omega,ht,hsplit]);rw [htl,hdl,Att.cells_length] at hshift;obtain ⟨w2,hw2⟩:∃w2,w1.setRow g (cur1.toList.take (off+i*6)++x.cells++cur1.toList.drop (off+i*6+x.cells.length)).toArray=w2:=⟨_,rfl⟩;rw [hw2] at hcp2
  have hA:q5 w 112 6 (.slice (some ⟨g,off,none⟩) l.length cap) (l.length+1) (k7 (l.take i++x::l.drop i)) (.slice (some ⟨g,off,none⟩) (l.length+1) cap) w2:=by
   have hlx:(k7 (l.take i++x::l.drop i)).length=(l.length+1)*6:=by rw [r7,K3,zz4,zz4,htl,hdl,Att.cells_length];omega
   refine ⟨⟨hlx,.inr ⟨g,off,cap,_,rfl,hw2▸setRow_heap w1 g cur1 _ _ _ hg1,hroom,hc, ?_, ?_⟩⟩,(hm1.trans (hw2▸(Mod.refl (fun k=>k=g) w1).setRow (fun _=>rfl) _) zi).mono (fun k _ hk=>by rw [hk];rfl),.inl rfl⟩
   ·simp only [List.size_toArray,zz4,List.length_take,List.length_drop,Array.length_toList (xs:=cur1),jE,Att.cells_length];omega
   have h2:=hshift.1;rw [<-dQ];rw [show off+i*6+6=off+(i+1)*6 by omega] at h2;simp only [hdl,Att.cells_length];rw [show off+i*6+6=off+(i+1)*6 by omega,show (l.length+1)*6=i*6+6+(l.length - i)*6 by omega,r7,K3];exact h2
  have htn:((l.length:Int)+1).toNat=l.length+1:=zo
  have Ih:((i:Int)+1).toNat=i+1:=zo
  have hw3:IntKind.i64.wrap ((i:Int)+1)=(i:Int)+1:=by rw [IntKind.wrap_i64];omega
  have hb3:(0:Int)<=(i:Int)+1:=zo
  have hb4:(i:Int)+1<=(l.length:Int)+1:=zo
  have hi2:(i:Int)<=(l.length:Int)+1:=zo
  obtain ⟨Ii,aZ,dX,Hg,Ht,BB,BD,BF,PZ,Qa,Qb,HA⟩:=zh12 hov hown hvb hg ht hx1 hcells hsplit htl hdl hshift hA;obtain ⟨dB,lJ,Gj,Ij,EW,oD,BG,BH,Qc⟩:=zh9 hm1 hg1 hv1 dQ hw2 hw1 hcp1 hcp2 jE;clear hown hvb hg ht hx1 hcells hsplit htl hdl hshift hA hm1 hg1 hv1 dQ hw2 hw1 hcp1 hcp2 jE hs
  go_enter Tryz.func76,Tryz.ntmps76
  go_wp2_with fail
  clear hov;have hS:(fun _:World=>True) w.drew:=trivial;refine i8 [.rd 0,.rd 1,.rd 2,.rd 3,.rd 4,.rd 5,.rd 6,.rd 7,.go 8] [] (fun _:World=>True) zk zk (fun _ _ d _ _ h=>(by cases d<;>exact h)) ?_
  iterate 8 (
   refine n4 rfl ?_ (fun _=>hS) ?_ (fun w0 h0=> ?_) (fun K hK=> ?_)
   ·exact zg
   rotate_left
   ·(try simp only [zz1,zz2,zz3])
    first
     |(obtain - :=h0 rfl;clear h0;go_simp;with_reducible rfl)
     |(clear h0;go_simp;with_reducible rfl)
   (try simp only [zz1,zz2,zz3])
   go_simp;refine hK _ ?_;clear hK K)
  refine i6 (j0 rfl ?_ (fun K hK=> ?_))
  ·exact zg
  (try simp only [zz1,zz2,zz3]);refine a0G (.tmp 73) (.tmp 76) 29 29 rfl (BG.out _ _ _) ?_;rw [oD.out];refine hK _ _ (fun h=>absurd h zd) ?_;clear hK K;refine m6 ?_
  go_wp2_with ((with_reducible refine a0k (.tmp 80) (.tmp 81) ?_);refine ⟨_,_,rfl,_,_,BH.out _ _, ?_⟩)
  go_ret;exact ⟨_,rfl,HA.out⟩
 have hroom':(cap:Int)<l.length+1:=zo
 have hb1:¬(cap=i):=zo
 have hsz:off+cap*6<=cur.size:=hs;obtain ⟨i0,z,hi0,hz0,hz1,hz2,hzs⟩:=a0R.2;have BI:j3 w 6 (.slice (some ⟨g,off,none⟩) i cap) i (k7 (l.take i)):=⟨by rw [htl],_,_,rfl,zo,(fun h=>by cases h),fun b hb _=>⟨g,off,(by cases hb;rfl),fun j u hu=>hcells j u (by rw [hsplit,List.getElem?_append_left (zz6 hu).1];exact hu)⟩⟩;obtain ⟨c,hc1,hc2,hap⟩:=a2D (P:=Tryz.prog) w 29 3 29 112 i0 z Tryz.underlying29 Tryz.underlying3 hi0 hz0 6 hz1 (by rw [hzs]) g off i cap (k7 (l.take i)) BI (l.length+1 - i) zo zo (by rw [hz2];omega) (by unfold maxLen;omega);rw [show i+(l.length+1 - i)=l.length+1 by omega] at hc1 hap;obtain ⟨curA,kL⟩:∃cA,(k7 (l.take i)).toArray++(Builtin.zeroCells z.cells (l.length+1 - i)++Builtin.zeroCells z.cells (c - (l.length+1)))=cA:=⟨_,rfl⟩;rw [kL] at hap
 have hAs:curA.size=c*6:=by
  rw [<-kL];simp only [Array.size_append,List.size_toArray,size_zeroCells,hzs,htl];omega
 have hAt:curA.toList.take (i*6)=k7 (l.take i):=by
  rw [<-kL,Array.toList_append,<-htl];exact List.take_left
 obtain ⟨wA,Ik⟩:∃wA,w.drew.alloc (.cells curA 112)=wA:=⟨_,rfl⟩;rw [Ik] at hap;have fQ:Mod (fun _=>False) w wA:=Ik▸((Mod.refl (fun _=>False) w).drew).alloc _;have hgA:wA.heap[w.heap.size]? =some (.cells curA 112 (0,0)):=Ik▸heap_alloc_new w.drew _;have Qd:=fQ.heap hvb id;have hgl:g<w.heap.size:=(zz7 hg).1
 have hcp1:∀ty dc,(Builtin.copy_ #[29,29] ty #[.slice (some ⟨w.heap.size,i*6,none⟩) (l.length+1 - i) dc,.slice (some ⟨vb,0,none⟩) 1 1]).run Tryz.prog wA= .ok (goInt 1) (wA.setRow w.heap.size (curA.toList.take (i*6)++x.cells++curA.toList.drop (i*6+x.cells.length)).toArray):=fun ty dc=>by
  have hmin:Nat.min 1 (l.length+1 - i)=1:=by simp only [Nat.min_def];split<;>omega
  have:=Q9 (P:=Tryz.prog) wA 29 29 ty 112 6 w.heap.size (i*6) (l.length+1 - i) dc ⟨vb,0,none⟩ 1 1 x.cells curA 112 hgA Tryz.underlying29 X2 (by rw [hmin];rfl)
   (fun j v hj=>by rw [A7,Nat.zero_add];exact d6 Qd (by simpa using hj)) (by rw [hAs,Att.cells_length];omega) hx1
  rw [hmin] at this;exact this
 obtain ⟨cur1,dQ⟩:∃c,(curA.toList.take (i*6)++x.cells++curA.toList.drop (i*6+x.cells.length)).toArray=c:=⟨_,rfl⟩;rw [dQ] at hcp1
 have jE:cur1.size=c*6:=by
  rw [<-dQ];simp only [List.size_toArray,zz4,List.length_take,List.length_drop,Array.length_toList (xs:=curA),hAs,Att.cells_length];omega
 have Qe:cur1.toList.take ((i+1)*6)=k7 (l.take i)++x.cells:=by
  rw [<-dQ,hAt,zz12];show (k7 (l.take i)++(x.cells++_)).take _=_;rw [<-zz12,show (i+1)*6=(k7 (l.take i)++x.cells).length by rw [zz4,htl,Att.cells_length];omega,List.take_left]
 obtain ⟨w1,hw1⟩:∃w1,wA.setRow w.heap.size cur1=w1:=⟨_,rfl⟩;rw [hw1] at hcp1;have hm1:Mod (fun _=>False) w w1:=fQ.upon (hw1▸(Mod.refl (fun k=>k=w.heap.size) wA).setRow (fun _=>rfl) _) (fun b hb=> .inr zo);have hg1:w1.heap[w.heap.size]? =some (.cells cur1 112 (0,0)):=hw1▸setRow_heap wA w.heap.size curA _ _ _ hgA
 have hcp2:∀ty dc sc,(Builtin.copy_ #[29,29] ty #[.slice (some ⟨w.heap.size,(i+1)*6,none⟩) (l.length - i) dc,.slice (some ⟨g,off+i*6,none⟩) (l.length - i) sc]).run Tryz.prog w1.drew= .ok (goInt ((l.length - i:Nat):Int)) (w1.drew.setRow w.heap.size (cur1.toList.take ((i+1)*6)++k7 (l.drop i)++cur1.toList.drop ((i+1)*6+(k7 (l.drop i)).length)).toArray):=fun ty dc sc=>by
  have hmin:Nat.min (l.length - i) (l.length - i)=l.length - i:=by simp only [Nat.min_def];split<;>omega
  have:=Q9 (P:=Tryz.prog) w1.drew 29 29 ty 112 6 w.heap.size ((i+1)*6) (l.length - i) dc ⟨g,off+i*6,none⟩ (l.length - i) sc (k7 (l.drop i)) cur1 112 hg1 Tryz.underlying29 X2 (by rw [hmin,hdl])
   (fun j v hj=>by
     have:=hcells (i*6+j) v (by rw [hsplit,List.getElem?_append_right zo,htl,Nat.add_sub_cancel_left];exact hj);rw [A7,Nat.add_assoc]
     exact hm1.cell this id) (by rw [hdl,jE];omega) (a6I _)
  rw [hmin] at this;exact this
 obtain ⟨cur2,kM⟩:∃c,(cur1.toList.take ((i+1)*6)++k7 (l.drop i)++cur1.toList.drop ((i+1)*6+(k7 (l.drop i)).length)).toArray=c:=⟨_,rfl⟩;rw [kM] at hcp2;obtain ⟨w2,hw2⟩:∃w2,w1.drew.setRow w.heap.size cur2=w2:=⟨_,rfl⟩;rw [hw2] at hcp2
 have hA:q5 w 112 6 (.slice (some ⟨g,off,none⟩) l.length cap) (l.length+1) (k7 (l.take i++x::l.drop i)) (.slice (some ⟨w.heap.size,0,none⟩) (l.length+1) c) w2:=by
  have hlx:(k7 (l.take i++x::l.drop i)).length=(l.length+1)*6:=by rw [r7,K3,zz4,zz4,htl,hdl,Att.cells_length];omega
  refine ⟨⟨hlx,.inr ⟨w.heap.size,0,c,cur2,rfl,hw2▸setRow_heap w1.drew w.heap.size cur1 _ _ _ hg1,hc1,hc2, ?_, ?_⟩⟩,(hm1.upon (hw2▸((Mod.refl (fun k=>k=w.heap.size) w1).drew).setRow (fun _=>rfl) _) (fun b hb=> .inr zo)).mono (fun k _ hk=>hk.elim),.inr ⟨w.heap.size,rfl,Nat.le_refl _⟩⟩
  ·rw [<-kM];simp only [List.size_toArray,zz4,List.length_take,List.length_drop,Array.length_toList (xs:=cur1),jE,hdl];omega
  rw [<-kM,List.drop_zero,Qe];show ((k7 (l.take i)++x.cells)++k7 (l.drop i)++_).take _=_;have he:k7 (l.take i++x::l.drop i)=(k7 (l.take i)++x.cells)++k7 (l.drop i):=by rw [r7,K3,zz12]
  rw [<-he,<-hlx,List.take_left]
 have htn:((l.length:Int)+1 - i).toNat=l.length+1 - i:=zo
 have hw3:IntKind.i64.wrap ((i:Int)+1)=(i:Int)+1:=by rw [IntKind.wrap_i64];omega
 have hb3:(0:Int)<=(i:Int)+1:=zo
 have hb4:(i:Int)+1<=(l.length:Int)+1:=zo
 have Ih:((i:Int)+1).toNat=i+1:=zo
 have hb5:¬(c=i):=zo
 have hb6:¬(c=i+1):=zo
 have qL:(i:Int)<=c:=zo
 have Il:(l.length:Int)+1<=c:=zo
 rw [show ((l.length+1 - i:Nat):Int)=(l.length:Int)+1 - i by omega] at hap;obtain ⟨aZ,dX,Hg,Ht,BB,BD,BF,PZ,Qa,HA,dB,lJ⟩:=zh12 hown hvb hg ht hx1 hcells hsplit htl hdl hA hm1 hg1;obtain ⟨Ij,Wd,EW,oD,BG,BH,Qc,Nv,b7e,H1t,HAt,HAs⟩:=zh12 dQ kM hw2 hw1 hcp1 hcp2 jE hap BI Qe hAt hAs;obtain ⟨We,HwA,BJ,nD,HvA⟩:=zh5 kL Ik fQ hgA Qd;clear hown hvb hg ht hx1 hcells hsplit htl hdl hA hm1 hg1 dQ kM hw2 hw1 hcp1 hcp2 jE hap BI Qe hAt hAs kL Ik fQ hgA Qd hs hsz
 go_enter Tryz.func76,Tryz.ntmps76
 go_wp2_with (first|((with_reducible refine a16 (.tmp 34) (.tmp 39) ?_);refine ⟨_,_,rfl,_,_,Nv.out, ?_⟩)|((with_reducible refine a0k (.tmp 43) (.tmp 44) ?_);refine ⟨_,_,rfl,_,_,BG.out _ _, ?_⟩))
 have hi2:(i:Int)<=(l.length:Int):=zo
 refine i8 [.rd 0,.rd 1,.rd 2,.rd 3,.rd 4,.rd 5,.rd 6,.rd 7,.go 8] [] (fun _:World=>True) zk zk (fun _ _ d _ _ h=>(by cases d<;>exact h)) ?_;have hS:(fun _:World=>True) w1.drew:=trivial
 iterate 8 (
  refine n4 rfl ?_ (fun _=>hS) ?_ (fun w0 h0=> ?_) (fun K hK=> ?_)
  ·exact zg
  rotate_left
  ·(try simp only [zz1,zz2,zz3])
   first
    |(obtain - :=h0 rfl;clear h0;go_simp;with_reducible rfl)
    |(clear h0;go_simp;with_reducible rfl)
  (try simp only [zz1,zz2,zz3])
  go_simp;refine hK _ ?_;clear hK K)
 refine i6 (j0 rfl ?_ (fun K hK=> ?_))
 ·exact zg
 (try simp only [zz1,zz2,zz3]);refine a0G (.tmp 50) (.tmp 53) 29 29 rfl (BH.out _ _ _) ?_;refine hK _ _ (fun h=>absurd h zd) ?_;clear hK K;refine m6 ?_
 go_wp2_with fail
 go_ret;exact ⟨_,rfl,HA.out⟩
theorem b0o (w:World) (sv:Value) (l:List Att) (i:Nat) (x:Att) (hown:j2 w 112 6 sv l.length (k7 l)) (hi:i<=l.length) (hl:l.length<=100000) (vb:Nat) (hvb:w.heap[vb]? =some (.cells x.cells.toArray 112 (0,0)))
 (hne:∀b,sv.ownBlock=some b->b≠vb):
 Calls Tryz.prog 76 #[sv,.int .i64 i,.slice (some ⟨vb,0,none⟩) 1 1] w fun e w'=>∃v',e= .returned v'/\
  q5 w 112 6 sv (l.length+1) (k7 (l.take i++x::l.drop i)) v' w':=by
 rcases Nat.lt_or_eq_of_le hi with h|rfl
 ·exact a8h w sv l i x hown h hl vb hvb hne
 rw [List.take_length,List.drop_length];exact a8g w sv l x hown hl vb hvb
end Go.Proofs.YtebhabpahfmodaaGreatDoor
