/- Lemmas. -/
import Derived.Test.YtaenebdppkjhoaaGreatDoorZg36
import Derived.Test.YtaenebdppkjhoaaGreatDoorZg37
namespace Go.Proofs.YtaenebdppkjhoaaGreatDoor
set_option maxRecDepth 20000
set_option maxHeartbeats 40000000
section
open Go.RowKit
def BS.told (B:BS) (t:Nat) (near:List Int):BS:={B with R:=upd B.R t {B.R t with G:=C6 (B.R t).M near (B.R t).G,K:=(B.R t).K+near.length}}
theorem BS.told_nil (B:BS) (t:Nat):B.told t []=B:=by
 unfold BS.told
 have:upd B.R t {B.R t with G:=C6 (B.R t).M [] (B.R t).G,K:=(B.R t).K+([]:List Int).length}=B.R:=by
  funext j;unfold upd;split
  ·rename_i e;rw [e];rfl
  rfl
 rw [this]
theorem BS.told_R (B:BS) (t:Nat) (near:List Int):(B.told t near).R t={B.R t with G:=C6 (B.R t).M near (B.R t).G,K:=(B.R t).K+near.length}:=S5 _ _ _
theorem BS.told_snoc (B:BS) (t:Nat) (near:List Int) (n:Int):B.told t (near++[n])={B.told t near with R:=upd (B.told t near).R t {(B.told t near).R t with G:=S6 ((B.told t near).R t).G n (x6 (B.R t).M n),K:=((B.told t near).R t).K+1}}:=by
 rw [BS.told_R];unfold BS.told;congr 1;funext j;unfold upd;by_cases e:j=t
 ·rw [if_pos e,if_pos e,a7k,zz4,List.length_singleton];rfl
 rw [if_neg e,if_neg e];exact (if_neg e).symm
theorem a9z (B:BS) (t:Nat) (near:List Int) (n:Int):q9 (B.R t).M t (near++[n]) (B.R t).G=q9 (B.R t).M t near (B.R t).G++I5 n t (((B.told t near).R t).G n) (x6 (B.R t).M n):=by
 rw [a7l,BS.told_R]
theorem A1.told {w:World} {ow:Ow} {c g:Nat} {id:Int} {near:List Int} {B:BS} {a:BAd} (h:A1 w ow c g id near B a) {t:Nat} {G:Int->List Fil} {K:Nat} (hs:D7 w ow (c+13+t) (a.mb t) G K):
 A1 w ow c g id near {B with R:=upd B.R t {B.R t with G:=G,K:=K}} a:=by
 refine ⟨h.c2,h.log,h.near,fun j hj=> ?_⟩;have h1:=h.rea j hj;by_cases e:j=t
 ·subst e;show a1e w ow c j (a.tb j) (a.ib j) (a.sb j) (a.mb j) (upd B.R j _ j);rw [S5];exact ⟨h1.tab,h1.idx,h1.sub,hs⟩
 show a1e w ow c j (a.tb j) (a.ib j) (a.sb j) (a.mb j) (upd B.R t _ j);rw [W0 _ _ e];exact h1
structure Far (F:Nat->Prop) (w:World) (ow:Ow) (w':World) (ow':Ow):Prop where
 md:Mod (fun k=>F (ow k)) w w'
 old:∀k,k<w.heap.size->ow' k=ow k
theorem Mov.far {F:Nat->Prop} {w w':World} {ow ow':Ow} (s:Mov F w ow w' ow'):Far F w ow w' ow':=⟨s.md,s.old⟩
theorem Far.trans {F:Nat->Prop} {w w' w'':World} {ow ow' ow'':Ow} (s:Far F w ow w' ow') (t:Far F w' ow' w'' ow''):Far F w ow w'' ow'':=by
 refine ⟨s.md.trans t.md (fun k hk hf=> ?_),fun k hk=> ?_⟩
 ·have hf':F (ow' k):=hf;rw [s.old k hk] at hf';exact hf'
 rw [t.old k (zz13 hk s.md.size),s.old k hk]
theorem Far.upon {F G:Nat->Prop} {w w' w'':World} {ow ow' ow'':Ow} (s:Far F w ow w' ow') (t:Far G w' ow' w'' ow'') (hG:∀k,G (ow' k)->F (ow' k)\/w.heap.size<=k):Far F w ow w'' ow'':=by
 refine ⟨s.md.trans t.md (fun k hk hf=> ?_),fun k hk=> ?_⟩
 ·rcases hG k hf with h|h
  ·rw [s.old k hk] at h;exact h
  omega
 rw [t.old k (zz13 hk s.md.size),s.old k hk]
theorem l9.far {F:Nat->Prop} {w w':World} {ow ow':Ow} {sz:Nat} {v:Value} {n:Nat} {xs:List Value} (h:l9 w ow sz v n xs) (s:Far F w ow w' ow') (h0:¬F 0) (hs:0<sz):l9 w' ow' sz v n xs:=by
 refine ⟨h.rd.mod1 s.md (fun hn b hb hf=> ?_),fun hn b hb=> ?_⟩
 ·have hf':F (ow b):=hf;rw [h.con hn b hb] at hf';exact h0 hf'
 rw [s.old b (h.rd.low hs hn b hb)];exact h.con hn b hb
theorem a7g.far {F:Nat->Prop} {w w':World} {ow ow':Ow} {v:Option Value} {q:Option Fil} (h:a7g w ow v q) (s:Far F w ow w' ow') (h0:¬F 0):a7g w' ow' v q:=by
 cases v<;>cases q
 ·trivial
 ·exact h
 ·exact h
 obtain ⟨a,cap,h1,h2⟩:=h;exact ⟨a,cap,h1,h2.far s h0 (by omega)⟩
theorem W1.far {F:Nat->Prop} {w w':World} {ow ow':Ow} {mi c:Nat} {l:List Fil} (h:W1 w ow mi l) (ht:ow mi=c) (s:Far F w ow w' ow') (h0:¬F 0) (hc:¬F c):W1 w' ow' mi l/\ow' mi=c:=by
 obtain ⟨f,h1,h2⟩:=h
 exact ⟨⟨f,h1.mod s.md (fun hf=>by
  have hf':F (ow mi):=hf;rw [ht] at hf'
  exact hc hf'),fun k=>(h2 k).far s h0⟩,by rw [s.old mi h1.lt];exact ht⟩
theorem Y9.far {F:Nat->Prop} {w w':World} {ow ow':Ow} {c mb:Nat} {v:Option Value} {l:List Fil} (h:Y9 w ow c mb v l) (s:Far F w ow w' ow') (h0:¬F 0) (hc:¬F c):Y9 w' ow' c mb v l:=by
 cases v
 ·exact h
 obtain ⟨mi,h1,h2,h3,h4⟩:=h;obtain ⟨h5,h6⟩:=h4.far h3 s h0 hc;exact ⟨mi,h1,h2,h6,h5⟩
theorem D7.far {F:Nat->Prop} {w w':World} {ow ow':Ow} {c mb:Nat} {G:Int->List Fil} {K:Nat} (h:D7 w ow c mb G K) (s:Far F w ow w' ow') (h0:¬F 0) (hc:¬F c):D7 w' ow' c mb G K:=by
 obtain ⟨n,f,h1,h2,h3⟩:=h.mp
 exact ⟨by rw [s.old mb h1.lt];exact h.tag,⟨n,f,h1.mod s.md (fun hf=>by
  have hf':F (ow mb):=hf;rw [h.tag] at hf'
  exact hc hf'),h2,fun id=>(h3 id).far s h0 hc⟩,h.lt⟩
theorem Y9.keyV {w:World} {ow:Ow} {c mb:Nat} {v:Option Value} {l:List Fil} (h:Y9 w ow c mb v l):∃m,v.getD (.map none)= .map m/\a4R w ow (.map m) l:=by
 cases v
 ·exact ⟨none,rfl,.inl ⟨rfl,h⟩⟩
 obtain ⟨mi,rfl, -, -,h4⟩:=h;exact ⟨some mi,rfl,.inr ⟨mi,rfl,h4⟩⟩
end
section
open Go.RowKit Go.Sort
theorem Z2 {o:Oper} {a:Act} {w w':World} {K:Act->World->Prop} {Q:Exit->Act->World->Prop} (t:TypeId) (m x v:Operand) (ho:o.op= .mapUpdate t m x v)
 (h:(Instr.mapUpdate t (a.eval m) (a.eval x) (a.eval v)).run Tryz.prog w= .ok () w') (hK:K (a.put o.dst undef) w'):o.wp Tryz.prog a w K Q:=by
 unfold Oper.wp;simp [execOp,ho,h,Result.andThen];exact hK
theorem a2q {w:World} {ops:Array Oper} {rest:List Oper} {a:Act} {Q:Exit->Act->World->Prop} {d:Option Tmp} {tp:TypeId} {pos:String} {af:Array Edge} (t:TypeId) (m x v:Operand)
 (h:∃w',(Instr.mapUpdate t (a.eval m) (a.eval x) (a.eval v)).run Tryz.prog w= .ok () w'/\wpList Tryz.prog ops Q rest (a.put d undef) w'):
 wpList Tryz.prog ops Q (⟨d,.mapUpdate t m x v,tp,pos,af,none⟩::rest) a w:=by
 obtain ⟨w',h1,h2⟩:=h;refine wpList_plain rfl fun K' hK'=> ?_;exact Z2 t m x v rfl h1 (hK' _ _ h2)
theorem a9A (l:List (List UInt8)):(L9 l).length<=l.length:=by
 induction l with
 |nil=>exact Nat.le_refl _
 |cons a l ih=>
  unfold L9;split
  ·exact Nat.le_trans ih (Nat.le_succ _)
  rw [zz9,zz9];omega
theorem W3 (M:List (Int×Fil)) (td:Int):(x6 M td).length<=M.length:=by
 unfold x6 a1L F9;refine Nat.le_trans (List.length_filterMap_le _ _) ?_;rw [List.length_mergeSort];refine Nat.le_trans (a9A _) ?_;rw [zz10];exact List.length_filter_le _ _
theorem b4S {l:List Fil} (h:l.Pairwise fun a b=>i6 a<i6 b) {k:Nat} {f:Fil} (hk:l[k]? =some f):kF (l.take k) (i6 f)=none:=by
 unfold kF;rw [List.find?_eq_none];intro x hx e;have e':i6 x=i6 f:=by simpa using e
 rw [<-List.take_append_drop k l] at h;have h1:=(List.pairwise_append.1 h).2.2 x hx f (zz8 (i:=0) (by rw [List.getElem?_drop];simpa using hk));rw [e'] at h1;exact absurd h1 (List.lt_irrefl _)
theorem a9B (M:List (Int×Fil)) (ten:Int) (l m:List Int) (G:Int->List Fil):q9 M ten (l++m) G=q9 M ten l G++q9 M ten m (C6 M l G):=by
 induction l generalizing G with
 |nil=>rfl
 |cons a l ih=>
  show I5 a ten (G a) (x6 M a)++q9 M ten (l++m) (S6 G a (x6 M a))=(I5 a ten (G a) (x6 M a)++q9 M ten l (S6 G a (x6 M a)))++_;rw [ih,zz12];rfl
theorem a7y {M:List (Int×Fil)} {ten:Int} {near:List Int} {j:Nat} {n:Int} (hj:near[j]? =some n) (G:Int->List Fil):
 (q9 M ten (near.take j) G).length+(I5 n ten (C6 M (near.take j) G n) (x6 M n)).length<=(q9 M ten near G).length:=by
 obtain ⟨hl,rfl⟩:=zz6 hj;have e:near=near.take j++(near[j]::near.drop (j+1)):=by rw [<-List.drop_eq_getElem_cons hl,List.take_append_drop]
 have h:q9 M ten near G=q9 M ten (near.take j) G++(I5 near[j] ten (C6 M (near.take j) G near[j]) (x6 M near[j])++q9 M ten (near.drop (j+1)) (S6 (C6 M (near.take j) G) near[j] (x6 M near[j]))):=
  (congrArg (fun l=>q9 M ten l G) e).trans (a9B M ten (near.take j) _ G)
 rw [h,zz4,zz4];omega
theorem a9C {M:List (Int×Fil)} {near:List Int} {G:Int->List Fil} {X:Nat} (hG:∀n,(G n).length<=X) (hM:M.length<=X) (n:Int):(C6 M near G n).length<=X:=by
 by_cases h:n∈near
 ·rw [a1c h];exact Nat.le_trans (W3 M n) hM
 rw [a0i h];exact hG n
theorem a4V {M:List (Int×Fil)} (h:∀p∈M,okQ p.2) (n:Int):∀q∈x6 M n,okQ q:=fun q hq=>by
 obtain ⟨-,x, -,hx⟩:=D5 (b09 hq).1;exact h _ hx
theorem a8z {q:Fil} (h:okQ q):(i6 q).length<=maxLen:=by
 have h2:=E9 q.1 q.2 h.2.1;have h3:=h.1;have h4:=h.2.2;show (p9 q.1 q.2).length<=maxLen;unfold maxLen;omega
structure GOk (G:Int->List Fil):Prop where
 len:∀n,(G n).length<=1000000
 ok:∀n,∀q∈G n,okQ q
theorem GOk.refr {M:List (Int×Fil)} {G:Int->List Fil} (h:GOk G) (hM:M.length<=1000000) (hq:∀p∈M,okQ p.2) (near:List Int):GOk (C6 M near G):=by
 refine ⟨a9C h.len hM,fun n q hn=> ?_⟩;by_cases hi:n∈near
 ·rw [a1c hi] at hn;exact a4V hq n q hn
 rw [a0i hi] at hn;exact h.ok n q hn
theorem a4o (a b:List Fil) (k:Nat):(C5 (a.take k) b).length<=(C5 a b).length:=((List.take_sublist k a).filter _).length_le
theorem a4p (n ten:Int) (a b:List Fil):(I5 n ten a b).length=(C5 b a).length+(C5 a b).length:=by unfold I5;simp
theorem Y9.keyV2 {w:World} {ow:Ow} {c mb:Nat} {v:Option Value} {l:List Fil} {m:Option Nat} (h:Y9 w ow c mb v l) (hm:v.getD (.map none)= .map m):a4R w ow (.map m) l:=by
 obtain ⟨m',h1,h2⟩:=h.keyV;rw [hm] at h1;cases h1
 exact h2
theorem J4.far {F:Nat->Prop} {w w':World} {ow ow':Ow} {c d g:Nat} {rest:List Value} {t:TypeId} {v:Value} {L:List Lr} (h:J4 w ow c d g rest t v L) (s:Far F w ow w' ow') (h0:¬F 0) (hc:¬F c) (hd:¬F d):J4 w' ow' c d g rest t v L:=by
 have hg:=(zz7 h.row).1;refine ⟨s.md.heap h.row (fun hf=> ?_),by rw [s.old g hg];exact h.tag,h.sl.sl.mod s.md (fun b hb hf=> ?_),fun b hb=> ?_,fun x hx=>⟨(h.sl.each x hx).cs.far s h0 (by omega),(h.sl.each x hx).fine⟩⟩
 ·have hf':F (ow g):=hf;rw [h.tag] at hf';exact hc hf'
 ·have hf':F (ow b):=hf;rw [(h.sl.vb b hb).1] at hf';exact hd hf'
 rw [s.old b (h.sl.sl.lt b hb)];exact h.sl.vb b hb
theorem C1.far {F:Nat->Prop} {w0 w w':World} {ow ow':Ow} {c b:Nat} {M:List (Int×Fil)} {N:Nat} (h:C1 w ow c b M N) (hw:Owd w0 w ow) (hw':Owd w0 w' ow') (s:Far F w ow w' ow') (h0:¬F 0) (hc:¬F c) (h2:2<=c):C1 w' ow' c b M N:=by
 have h1:Tab w' b (fun k=>ow k=c) (fun k=>ow k=0/\k<w.heap.size) M N:=Tab.mod h s.md (fun k _ hf=>by
  have hf':F (ow k):=hf
  exact ⟨fun e=>hc (by rw [<-e];exact hf'),fun e=>h0 (by rw [<-e.1];exact hf')⟩)
 refine h1.cong (fun k hk=> ?_) (fun k hk=> ?_) (fun k hk hk2=> ?_) (fun k hk=> ?_) (fun k hk=>hk.2)
 ·have hk':ow k=c:=hk;show ow' k=c;rw [s.old k (hw.hi k (by omega))];exact hk'
 ·exact ⟨by rw [s.old k hk.2];exact hk.1,zz13 hk.2 s.md.size⟩
 ·have hk':ow' k=c:=hk;have:=hk2.1;omega
 have hk':ow' k=c:=hk;exact hw'.hi k (by omega)
theorem P9.far {F:Nat->Prop} {w0 w w':World} {ow ow':Ow} {c b:Nat} {I:List (Int×Fil)} {T:Nat} (h:P9 w ow c b I T) (hw:Owd w0 w ow) (hw':Owd w0 w' ow') (s:Far F w ow w' ow') (h0:¬F 0) (hc:¬F c) (h2:2<=c):P9 w' ow' c b I T:=by
 have h1:Idx w' b (fun k=>ow k=c) (fun k=>ow k=0/\k<w.heap.size) I T:=Idx.mod2 h s.md (fun k _ hf=>by
  have hf':F (ow k):=hf
  exact ⟨fun e=>hc (by rw [<-e];exact hf'),fun e=>h0 (by rw [<-e.1];exact hf')⟩)
 obtain ⟨m1,m2,h1⟩:=h1;refine ⟨m1,m2,h1.cong (fun k hk=> ?_) (fun k hk=> ?_) (fun k hk hk2=> ?_) (fun k hk=> ?_) (fun k hk=>hk.2)⟩
 ·have hk':ow k=c:=hk;show ow' k=c;rw [s.old k (hw.hi k (by omega))];exact hk'
 ·exact ⟨by rw [s.old k hk.2];exact hk.1,zz13 hk.2 s.md.size⟩
 ·have hk':ow' k=c:=hk;have:=hk2.1;omega
 have hk':ow' k=c:=hk;exact hw'.hi k (by omega)
theorem a4M.far {F:Nat->Prop} {w w':World} {ow ow':Ow} {v:Option Value} {q:Option (ByteArray×Fil)} (h:a4M w ow v q) (s:Far F w ow w' ow') (h0:¬F 0):a4M w' ow' v q:=by
 cases v<;>cases q
 ·trivial
 ·exact h
 ·exact h
 obtain ⟨a,cap,h1,h2⟩:=h;exact ⟨a,cap,h1,h2.far s h0 (by omega)⟩
theorem A9.far {F:Nat->Prop} {w w':World} {ow ow':Ow} {c b:Nat} {S:List Sb} (h:A9 w ow c b S) (s:Far F w ow w' ow') (h0:¬F 0) (hc:¬F c):A9 w' ow' c b S:=by
 obtain ⟨f,h1,h2⟩:=h.mp
 exact ⟨by rw [s.old b h1.lt];exact h.tag,h.nd,f,h1.mod s.md (fun hf=>by
  have hf':F (ow b):=hf;rw [h.tag] at hf'
  exact hc hf'),fun id=>(h2 id).far s h0⟩
theorem A1.far {F:Nat->Prop} {w0 w w':World} {ow ow':Ow} {c g:Nat} {id:Int} {near:List Int} {B:BS} {a:BAd} (h:A1 w ow c g id near B a) (hw:Owd w0 w ow) (hw':Owd w0 w' ow') (s:Far F w ow w' ow') (h0:¬F 0) (hF:∀t,F t->t<c\/c+18<=t):A1 w' ow' c g id near B a:=by
 obtain ⟨L,h1,h2⟩:=h.log;have hn:∀t,c<=t->t<c+18->¬F t:=fun t h1 h2 h3=>by have:=hF t h3;omega
 have hc:=h.c2;refine ⟨h.c2,⟨L,h1.far s h0 (hn c (by omega) (by omega)) (hn (c+17) (by omega) (by omega)),h2⟩,h.near.far s h0 (by omega),fun t ht=> ?_⟩;have hr:=h.rea t ht;exact ⟨hr.tab.far hw hw' s h0 (hn _ (by omega) (by omega)) (by omega),hr.idx.far hw hw' s h0 (hn _ (by omega) (by omega)) (by omega),hr.sub.far s h0 (hn _ (by omega) (by omega)),hr.snt.far s h0 (hn _ (by omega) (by omega))⟩
theorem A1.told2 {w0 w w':World} {ow ow':Ow} {c g:Nat} {id:Int} {near:List Int} {B:BS} {a:BAd} (h:A1 w ow c g id near B a) (hw:Owd w0 w ow) {t:Nat} (s:Mov (fun q=>q=c+13+t) w ow w' ow') (ht:t<4) {G:Int->List Fil} {K:Nat} (hs:D7 w' ow' (c+13+t) (a.mb t) G K):
 A1 w' ow' c g id near {B with R:=upd B.R t {B.R t with G:=G,K:=K}} a:=by
 have hc:=h.c2;obtain ⟨L,h1,h2⟩:=h.log;refine ⟨h.c2,⟨L,h1.mov s (by omega) (by omega) (by omega),h2⟩,h.near.mov s (by omega) (by omega),fun j hj=> ?_⟩;have hr:=h.rea j hj;by_cases e:j=t
 ·subst e;show a1e w' ow' c j (a.tb j) (a.ib j) (a.sb j) (a.mb j) (upd B.R j _ j);rw [S5];exact ⟨hr.tab.mov hw s (by omega) (by omega) (by omega),hr.idx.mov hw s (by omega) (by omega) (by omega),hr.sub.mov s (by omega) (by omega),hs⟩
 show a1e w' ow' c j (a.tb j) (a.ib j) (a.sb j) (a.mb j) (upd B.R t _ j);rw [W0 _ _ e];exact hr.mov hw s (by omega) ⟨by omega,by omega,by omega,by omega⟩ hc
theorem X5.sub {w:World} {ow:Ow} {f:Fil} {a:Option Addr} {c:Nat} (h:l9 w ow 7 (.slice a f.2.length c) f.2.length (l6 f.2)):X5 w ow ⟨Mg.sub f,none,0,a,c,none,0⟩:=⟨l9.nil _ _ _,h,l9.nil _ _ _⟩
theorem X5.uns {w:World} {ow:Ow} {f:Fil} {a:Option Addr} {c:Nat} (h:l9 w ow 7 (.slice a f.2.length c) f.2.length (l6 f.2)):X5 w ow ⟨Mg.uns f,none,0,a,c,none,0⟩:=⟨l9.nil _ _ _,h,l9.nil _ _ _⟩
theorem x7.tsub {w0:World} {q:Nat} (O:x7 w0 q) {w:World} {ow:Ow} {s:O.σ} {td ten:Int} {f:Fil} {a:Option Addr} {c:Nat} (hw:Owd w0 w ow) (hO:O.inv w ow s) (hc:O.cnt s<=400000000000) (ht:O.okTo td ten) (h:l9 w ow 7 (.slice a f.2.length c) f.2.length (l6 f.2)):
 Calls Tryz.prog 294 #[.pointer (some ⟨q,0,none⟩),.int .i64 td,.int .i64 ten,.agg #[.int .i64 1,.int .i64 0,.int .i64 0,.int .i64 0,.string ⟨#[]⟩,.int .i64 0,.string ⟨#[]⟩,.slice none 0 0,.string ⟨#[]⟩,.int .i64 0,.string f.1,.slice a f.2.length c,.string ⟨#[]⟩,.slice none 0 0,.int .i64 0,.string ⟨#[]⟩,.int .i64 0]] w
  fun e w'=>e= .returned (.tuple #[])/\∃ow',O.inv w' ow' (O.send s td ten (Mg.sub f))/\Mov O.tg w ow w' ow':=
 O.hsend hw hO hc ht (X5.sub h)
theorem x7.tuns {w0:World} {q:Nat} (O:x7 w0 q) {w:World} {ow:Ow} {s:O.σ} {td ten:Int} {f:Fil} {a:Option Addr} {c:Nat} (hw:Owd w0 w ow) (hO:O.inv w ow s) (hc:O.cnt s<=400000000000) (ht:O.okTo td ten) (h:l9 w ow 7 (.slice a f.2.length c) f.2.length (l6 f.2)):
 Calls Tryz.prog 294 #[.pointer (some ⟨q,0,none⟩),.int .i64 td,.int .i64 ten,.agg #[.int .i64 2,.int .i64 0,.int .i64 0,.int .i64 0,.string ⟨#[]⟩,.int .i64 0,.string ⟨#[]⟩,.slice none 0 0,.string ⟨#[]⟩,.int .i64 0,.string f.1,.slice a f.2.length c,.string ⟨#[]⟩,.slice none 0 0,.int .i64 0,.string ⟨#[]⟩,.int .i64 0]] w
  fun e w'=>e= .returned (.tuple #[])/\∃ow',O.inv w' ow' (O.send s td ten (Mg.uns f))/\Mov O.tg w ow w' ow':=
 O.hsend hw hO hc ht (X5.uns h)
end
section
open Go.RowKit
theorem b1I {S:List Sb} {id:Int} (h:y8 S id=none) (q:ByteArray×Fil) (x:Int):y8 (S++[(id,q)]) x=if x=id then some q else y8 S x:=by
 unfold y8 at*;rw [List.find?_append];by_cases e:x=id
 ·subst e;rw [Option.map_eq_none_iff] at h;rw [if_pos rfl,h];simp
 rw [if_neg e];have:(id==x)=false:=by rw [beq_eq_false_iff_ne];exact fun e2=>e e2.symm
 simp [this]
theorem a9D {S:List Sb} {id:Int} (h:y8 S id=none):id∉S.map Prod.fst:=by
 unfold y8 at h;rw [Option.map_eq_none_iff,List.find?_eq_none] at h;intro hm;obtain ⟨p,hp,rfl⟩:=List.mem_map.1 hm;exact h p hp (by simp)
theorem a1S {S:List Sb} {id:Int} {q:ByteArray×Fil} (h:y8 S id=some q):(id,q)∈S:=by
 unfold y8 at h;obtain ⟨p,h1,rfl⟩:=Option.map_eq_some_iff.1 h;have h2:=List.find?_some h1;have h3:p.1=id:=by simpa using h2
 subst h3;exact List.mem_of_find?_eq_some h1
theorem b1J (S:List Sb) (id x:Int):y8 (a09 S id) x=if x=id then none else y8 S x:=by
 unfold y8 a09;rw [a13];by_cases e:x=id
 ·subst e;rw [if_pos rfl,Option.map_eq_none_iff,List.find?_eq_none];intro p _;cases (p.1==x)<;>simp
 rw [if_neg e];congr 1;refine a4b fun p _=> ?_;by_cases h:p.1=x
 ·have:(p.1==id)=false:=by rw [beq_eq_false_iff_ne];exact fun h2=>e (h.symm.trans h2)
  simp [this]
 have:(p.1==x)=false:=by rw [beq_eq_false_iff_ne];exact h
 simp [this]
theorem b1K {S:List Sb} {id:Int} (hn:(S.map Prod.fst).Nodup):(a09 S id).length=if (y8 S id).isSome then S.length - 1 else S.length:=by
 induction S with
 |nil=>rfl
 | cons p S ih=>
  rw [List.map_cons,List.nodup_cons] at hn;have ih:=ih hn.2;unfold a09 y8 at*;rw [List.filter_cons,List.find?_cons];by_cases e:p.1=id
  ·have hb:(p.1==id)=true:=by simpa using e
   have h1:S.filter (fun q=> !(q.1==id))=S:=List.filter_eq_self.2 fun q hq=>by
    have:q.1≠id:=fun h=>hn.1 (by rw [e,<-h];exact List.mem_map_of_mem hq);simpa using this
   rw [hb,if_neg (by decide),h1];simp
  have hb:(p.1==id)=false:=by simpa using e
  rw [hb,if_pos (by decide),zz9,ih,zz9]
  cases hf:(S.find? fun q=>q.1==id) with
  |none=>simp
  |some q=>
   have:0<S.length:=List.length_pos_of_mem (List.mem_of_find?_eq_some hf);simp;omega
theorem b3L {S:List Sb} (hn:(S.map Prod.fst).Nodup) (id:Int):((a09 S id).map Prod.fst).Nodup:=List.Sublist.nodup ((List.filter_sublist (p:=fun q:Sb=> !(q.1==id)) (l:=S)).map Prod.fst) hn
theorem a58 (w:World):(zeroValue 137).run Tryz.prog w= .ok (.agg #[.string ⟨#[]⟩,.string ⟨#[]⟩,.slice none 0 0]) w:=by kernel_rfl
theorem A9.beside {w0 w w':World} {ow:Ow} {q:Option (ByteArray×Fil)} {v:Option Value} {b:Nat} (hw:Owd w0 w ow) (h:a4M w ow v q) (hm:Mod (fun k=>k=b) w w') (hb:ow b≠0):a4M w' ow v q:=
 h.mov (Mov.wrote (F:=fun t=>t=ow b) hw hm (fun k hk=>by rw [hk])) (fun e=>hb e.symm)
theorem A9.put {w0 w:World} {ow:Ow} {c b:Nat} {S:List Sb} (hw:Owd w0 w ow) (h:A9 w ow c b S) (hn:S.length<maxLen) (hc:c≠0) (id:Int) (hid:(Lit.int .i64 id).wf=true) (hq:y8 S id=none) (who:ByteArray) (f:Fil) (a:Option Addr) (cap:Nat)
 (hv:l9 w ow 7 (.slice a f.2.length cap) f.2.length (l6 f.2)):
 ∃w',(Instr.mapUpdate 56 (.map (some b)) (.int .i64 id) (.agg #[.string who,.string f.1,.slice a f.2.length cap])).run Tryz.prog w= .ok () w'/\A9 w' ow c b (S++[(id,who,f)])/\Mod (fun k=>k=b) w w':=by
 obtain ⟨g,h1,h2⟩:=h.mp;have hb:ow b≠0:=by rw [h.tag];exact hc
 have hg:g (.int .i64 id)=none:=by
  have:=h2 id;rw [hq] at this
  cases hf:g (.int .i64 id) with
  |none=>rfl
  |some v=>rw [hf] at this;exact this.elim
 obtain ⟨w',r1,r2,r3⟩:=h1.put m7 Tryz.underlying56 hn (Maps.keyOf_int_mk Tryz.underlying3 hid) (.agg #[.string who,.string f.1,.slice a f.2.length cap]);rw [hg] at r2;refine ⟨w',r1,⟨h.tag, ?_,_,by rw [zz4,List.length_singleton];exact r2,fun x=> ?_⟩,r3⟩
 ·rw [List.map_append,List.map_singleton];refine List.nodup_append.2 ⟨h.nd,by simp,fun x hx y hy e=> ?_⟩;have hy':y=id:=by simpa using hy
  exact a9D hq (by rw [<-hy',<-e];exact hx)
 rw [b1I hq];unfold C0;by_cases e:x=id
 ·subst e;rw [if_pos rfl,if_pos rfl];exact ⟨a,cap,rfl,hv.mov (Mov.wrote (F:=fun t=>t=ow b) hw r3 (fun k hk=>by rw [hk])) (fun e=>hb e.symm) (by omega)⟩
 rw [if_neg e,if_neg (fun e2=>e (by cases e2;rfl))];exact A9.beside hw (h2 x) r3 hb
theorem A9.del {w0 w:World} {ow:Ow} {c b:Nat} {S:List Sb} (hw:Owd w0 w ow) (h:A9 w ow c b S) (hc:c≠0) (id:Int) (hid:(Lit.int .i64 id).wf=true) (ty:TypeId):
 ∃w',(Builtin.delete_ #[56,3] ty #[.map (some b),.int .i64 id]).run Tryz.prog w= .ok (.tuple #[]) w'/\A9 w' ow c b (a09 S id)/\Mod (fun k=>k=b) w w':=by
 obtain ⟨g,h1,h2⟩:=h.mp;have hb:ow b≠0:=by rw [h.tag];exact hc
 obtain ⟨w',r1,r2,r3⟩:=h1.del m7 Tryz.underlying56 (Maps.keyOf_int_mk Tryz.underlying3 hid) ty
 have hs:(g (.int .i64 id)).isSome=(y8 S id).isSome:=by
  have:=h2 id;cases hf:g (.int .i64 id)<;>cases hq:y8 S id<;>rw [hf,hq] at this<;>first|exact this.elim|rfl
 rw [hs,<-b1K h.nd] at r2;refine ⟨w',r1,⟨h.tag,b3L h.nd id,_,r2,fun x=> ?_⟩,r3⟩;rw [b1J];unfold a2k;by_cases e:x=id
 ·subst e;rw [if_pos rfl,if_pos rfl];trivial
 rw [if_neg e,if_neg (fun e2=>e (by cases e2;rfl))];exact A9.beside hw (h2 x) r3 hb
theorem A9.ask {w:World} {ow:Ow} {c b:Nat} {S:List Sb} (h:A9 w ow c b S) (id:Int) (hid:(Lit.int .i64 id).wf=true):
 ∃(q:ByteArray×Fil) (a:Option Addr) (cap:Nat),(Instr.lookup 56 (.map (some b)) (.int .i64 id) true).run Tryz.prog w= .ok (.tuple #[.agg #[.string q.1,.string q.2.1,.slice a q.2.2.length cap],.bool (y8 S id).isSome]) w/\
  (Instr.lookup 56 (.map (some b)) (.int .i64 id) false).run Tryz.prog w= .ok (.agg #[.string q.1,.string q.2.1,.slice a q.2.2.length cap]) w/\(∀p,y8 S id=some p->p=q/\l9 w ow 7 (.slice a q.2.2.length cap) q.2.2.length (l6 q.2.2)):=by
 obtain ⟨g,h1,h2⟩:=h.mp;have hk:=Maps.keyOf_int_mk Tryz.underlying3 hid;have h3:=h1.look_ok m7 Tryz.underlying56 (a58 w) hk;have h4:=h1.look m7 Tryz.underlying56 (a58 w) hk;have h5:=h2 id
 cases hf:g (.int .i64 id) with
 |none=>
  rw [hf] at h3 h4 h5
  cases hq:y8 S id with
  |none=>exact ⟨(⟨#[]⟩,⟨#[]⟩,[]),none,0,h3,h4,fun p hp=>by cases hp⟩
  |some p=>rw [hq] at h5;exact h5.elim
 | some v=>
  rw [hf] at h3 h4 h5
  cases hq:y8 S id with
  |none=>rw [hq] at h5;exact h5.elim
  |some p=>
   rw [hq] at h5;obtain ⟨a,cap,rfl,hc⟩:=h5;exact ⟨p,a,cap,h3,h4,fun p2 hp=>by cases hp;exact ⟨rfl,hc⟩⟩
theorem A9.len {w:World} {ow:Ow} {c b:Nat} {S:List Sb} (h:A9 w ow c b S) (ty:TypeId):(Builtin.len_ #[56] ty #[.map (some b)]).run Tryz.prog w= .ok (.int .i64 S.length) w:=by
 obtain ⟨g,h1, -⟩:=h.mp;exact h1.len Tryz.underlying56 ty
theorem D7.del {w0 w:World} {ow:Ow} {c mb:Nat} {G:Int->List Fil} {K:Nat} (hw:Owd w0 w ow) (h:D7 w ow c mb G K) (hc:c≠0) (n:Int) (hnw:(Lit.int .i64 n).wf=true) (ty:TypeId):
 ∃w',(Builtin.delete_ #[57,3] ty #[.map (some mb),.int .i64 n]).run Tryz.prog w= .ok (.tuple #[]) w'/\D7 w' ow c mb (S6 G n []) K/\Mod (fun k=>k=mb) w w':=by
 obtain ⟨m,f,h1,h2,h3⟩:=h.mp;have hmb:ow mb≠0:=by rw [h.tag];exact hc
 obtain ⟨w',r1,r2,r3⟩:=h1.del m7 Tryz.underlying57 (Maps.keyOf_int_mk Tryz.underlying3 hnw) ty;refine ⟨w',r1,⟨h.tag,⟨_,_,r2, ?_,fun id=> ?_⟩,fun id=> ?_⟩,r3⟩
 ·split<;>omega
 ·unfold a2k;by_cases e:id=n
  ·subst e;rw [if_pos rfl,a1a];rfl
  rw [if_neg (fun e2=>e (by cases e2;rfl)),a1b _ _ e];have h4:=h3 id
  cases hf:f (.int .i64 id) with
  |none=>rw [hf] at h4;exact h4
  |some v=>
   rw [hf] at h4;obtain ⟨mi,g1,g2,g3,g4⟩:=h4;exact ⟨mi,g1,g2,g3,g4.beside hw r3 g2 hmb⟩
 by_cases e:id=n
 ·rw [e,a1a];exact List.Pairwise.nil
 rw [a1b _ _ e];exact h.lt id
theorem A1.logs {w:World} {ow:Ow} {c g:Nat} {id:Int} {near:List Int} {B:BS} {a:BAd} (h:A1 w ow c g id near B a):
 ∃(l:List Ru) (la:Option Addr) (lc:Nat),l.map Ru.pru=B.L/\l.length=B.L.length/\a.v= .slice la l.length lc/\w.cell? ⟨g,0,none⟩=some (.slice la l.length lc)/\K8 w (.slice la l.length lc) l/\(∀r∈l,r.pru.fine/\l9 w ow 7 r.cv r.cs.length (l6 r.cs)):=by
 obtain ⟨L,hl,hL⟩:=h.log;obtain ⟨la,lc,hv, -⟩:∃a' cc,a.v= .slice a' L.length cc/\L.length<=cc:=by obtain ⟨-,a,cc,h,h2, -⟩:=hl.sl.sl.rd;exact ⟨a,cc,h,h2⟩
 have hn:(L.map Lr.ru).length=L.length:=zz10 _;refine ⟨L.map Lr.ru,la,lc,by rw [a8n];exact hL,by rw [hn,<-hL,zz10],by rw [hn];exact hv,by rw [hn,<-hv];exact d6 hl.row rfl, ?_,fun r hr=> ?_⟩
 ·have:=hl.sl.ru;rw [hn,<-hv];exact this
 obtain ⟨x,hx,rfl⟩:=List.mem_map.1 hr;have h1:=hl.sl.each x hx;exact ⟨by rw [b4H];exact h1.fine,h1.cs⟩
theorem A1.at_ {w:World} {ow:Ow} {c g:Nat} {id:Int} {near:List Int} {B:BS} {a:BAd} (h:A1 w ow c g id near B a) (hL:B.L.length<=40):
 ∃l:List Ru,l.map Ru.pru=B.L/\(∀r∈l,r.pru.fine/\l9 w ow 7 r.cv r.cs.length (l6 r.cs))/\(∀wx,Mod (fun _=>False) w wx->Calls Tryz.prog 15 #[.pointer (some ⟨g,0,none⟩)] wx fun e w'=>e= .returned (.int .i64 B.L.length)/\wx=w')/\
  ∀wx (vr:Int),Mod (fun _=>False) w wx->Calls Tryz.prog 16 #[.pointer (some ⟨g,0,none⟩),.int .i64 vr] wx fun e w'=>∃v,e= .returned v/\K8 w' v (atR l (O9 vr B.L.length))/\(∀b,v.ownBlock=some b->wx.heap.size<=b)/\Mod (fun _=>False) wx w':=by
 obtain ⟨l,la,lc,h1,h2,h3,h4,h5,h6⟩:=h.logs;refine ⟨l,h1,h6,fun wx hx=> ?_,fun wx vr hx=> ?_⟩
 ·have:=a08 wx g la l.length lc (hx.cell h4 (fun h=>h));rw [h2] at this;exact this
 have hr:=h5.mod hx;have:=b4O wx g la lc l (hx.cell h4 (fun h=>h)) hr (by omega) vr;rw [h2] at this;exact this.mono fun e w' ⟨v,he,ho,hb,hm⟩=>⟨v,he,⟨ho.rd,fun r hr'=>(hr.ok r (a4S hr')).mod hm⟩,hb,hm⟩
theorem a2E (l:List Ru) (n:Nat):(atR l n).length<=l.length:=by
 unfold atR;refine Nat.le_trans (List.length_filterMap_le _ _) ?_;rw [List.length_zipIdx,List.length_take];omega
def b1L (id:Int):Option Int->Bool
 |some x=>decide (x=id)
 |none=>false
def BS.there (B:BS) (id:Int) (tenant:Int) (who:ByteArray):Bool:=b1L id (a0y (atP B.L B.L.length) tenant who)
theorem a0M (n:Nat):O9 (n:Int) n=n:=by unfold O9;omega
theorem a59 (w:World) (ow:Ow) (c g:Nat) (id:Int) (near:List Int) (B:BS) (h:Bro w ow c g id near B) (hL:B.L.length<=40) (tenant:Int) (who:ByteArray):
 Calls Tryz.prog 54 #[.pointer (some ⟨g,0,none⟩),.int .i64 tenant,.string who] w fun e w'=>e= .returned (.bool (B.there id tenant who))/\Mod (fun _=>False) w w':=by
 obtain ⟨a,h⟩:=h;obtain ⟨l,hlB, -,hle,hat⟩:=h.at_ hL;obtain ⟨L,hlog, -⟩:=h.log;have c1:w.cell? ⟨g,1,none⟩=some (.int .i64 id):=d6 hlog.row rfl;obtain ⟨R,hR⟩:∃R,B.there id tenant who=R:=⟨_,rfl⟩;rw [hR];have hS:(fun y:World=>Mod (fun _=>False) w y) w.drew:=(Mod.refl _ w).drew;have hlen40:(B.L.length:Int)<=40:=by omega
 obtain ⟨H,Hle,Hat,HlB,HR,Hlog⟩:=zh6 h hle hat hlB hR hlog;clear h hle hat hlB hR hlog
 go_enter Tryz.func54,Tryz.ntmps54
 go_wp2_with fail
 refine g8 [.rd 0,.rd 1,.rd 2,.rd 3,.rd 4,.rd 5,.rd 8,.rd 9,.go 6,.go 7,.go 10,.rd 11,.rd 12,.rd 13,.go 14,.go 15] [0,1,2,3,4,5,6,7,8,9,10,11,12,13] (fun y:World=>Mod (fun _=>False) w y) (by kernel_rfl) (by kernel_rfl) (fun _ _ d _ _ h=>(by cases d<;>exact h)) ?_
 iterate 8 (
  refine l5 rfl ?_ (fun _=>hS) ?_ (fun w0 h0=> ?_) (fun K hK=> ?_)
  ·(try simp only [zz1]);(try simp only [zz2]);(try simp only [zz3]);go_simp;done
  rotate_left
  ·(try simp only [zz1]);(try simp only [zz2]);(try simp only [zz3])
   first
    |(obtain h1:=h0 rfl;clear h0;go_simp;with_reducible rfl)
    |(clear h0;go_simp;with_reducible rfl)
  (try simp only [zz1]);(try simp only [zz2]);(try simp only [zz3])
  go_simp;refine hK _ ?_;clear hK K)
 refine g7 (g9 rfl ?_ (fun K hK=> ?_))
 ·(try simp only [zz1]);(try simp only [zz2]);(try simp only [zz3]);go_simp;done
 go_wp2_with fail
 refine (Hle.out w.drew hS).mono ?_;rintro e w1 ⟨rfl,rfl⟩;refine hK _ _ (fun _ h=>h) ?_;clear hK K;refine g7 (g9 rfl ?_ (fun K hK=> ?_))
 ·(try simp only [zz1]);(try simp only [zz2]);(try simp only [zz3]);go_simp;done
 go_wp2_with fail
 refine (Hat.out w.drew _ hS).mono ?_;rintro e w2 ⟨v2,rfl,hru, -,hm2⟩;rw [a0M] at hru;have hS2:Mod (fun _=>False) w w2:=hS.trans hm2 (fun _ _ h=>h);refine hK _ _ (fun _ h=>h.trans hm2 (fun _ _ h=>h)) ?_;clear hK K hS;have hl40:l.length<=40:=by rw [<-congrArg List.length HlB.out,zz10] at hL;exact hL
 have hho:=a2r w2 v2 (atR l B.L.length) hru (by have:=a2E l B.L.length;omega) tenant who;have hhe:A5 (atR l B.L.length) tenant who=a0y (atP B.L B.L.length) tenant who:=by rw [<-a07,a2D,HlB.out]
 rw [hhe] at hho;obtain ⟨O,hO⟩:∃O,a0y (atP B.L B.L.length) tenant who=O:=⟨_,rfl⟩;rw [hO] at hho;have hRO:R=b1L id O:=by rw [<-HR.out];unfold BS.there;rw [hO]
 obtain ⟨Hho,HRO,Hru,Hhe,HO,HS2⟩:=zh6 hho hRO hru hhe hO hS2;clear hho hRO hru hhe hO hS2 hm2;refine g7 (g9 rfl ?_ (fun K hK=> ?_))
 ·(try simp only [zz1]);(try simp only [zz2]);(try simp only [zz3]);go_simp;done
 go_wp2_with fail
 refine Hho.out.mono ?_;rintro e w3 ⟨rfl,hm3⟩;have hS:Mod (fun _=>False) w w3:=HS2.out.trans hm3 (fun _ _ h=>h);refine hK _ _ (fun _ h=>h.trans hm3 (fun _ _ h=>h)) ?_;clear hK K;have c3:w3.cell? ⟨g,1,none⟩=some (.int .i64 id):=hS.cell c1 (fun h=>h);clear hm3
 iterate 3 (
  refine l5 rfl ?_ (fun _=>hS) ?_ (fun w0 h0=> ?_) (fun K hK=> ?_)
  ·(try simp only [zz1]);(try simp only [zz2]);(try simp only [zz3]);go_simp;done
  rotate_left
  ·(try simp only [zz1]);(try simp only [zz2]);(try simp only [zz3])
   first
    |(obtain h1:=h0 rfl;clear h0;go_simp;with_reducible rfl)
    |(clear h0;go_simp;with_reducible rfl)
  (try simp only [zz1]);(try simp only [zz2]);(try simp only [zz3])
  go_simp;refine hK _ ?_;clear hK K)
 refine g7 (g9 rfl ?_ (fun K hK=> ?_))
 ·(try simp only [zz1]);(try simp only [zz2]);(try simp only [zz3]);go_simp;done
 (try simp only [zz1]);(try simp only [zz2]);(try simp only [zz3]);go_simp;refine hK _ _ (fun h=>absurd h (by decide)) ?_;clear hK K;refine g7 (g9 rfl ?_ (fun K hK=> ?_))
 ·(try simp only [zz1]);(try simp only [zz2]);(try simp only [zz3]);go_simp;done
 (try simp only [zz1]);(try simp only [zz2]);(try simp only [zz3]);go_simp;refine hK _ _ (fun h=>absurd h (by decide)) ?_;clear hK K;refine j8 ?_;have HS:=zh hS;clear hS
 cases O with
 |none=>
  go_wp2
  go_ret;exact ⟨by rw [HRO.out];rfl,HS.out⟩
 |some y=>
  go_wp2
  go_ret;exact ⟨by rw [HRO.out];rfl,HS.out⟩
end
end Go.Proofs.YtaenebdppkjhoaaGreatDoor
