/- Lemmas. -/
import Derived.Test.YtebhabpahfmodaaGreatDoorZh34
import Derived.Test.YtebhabpahfmodaaGreatDoorZh35
set_option maxHeartbeats 40000000
set_option maxRecDepth 20000
namespace Go.Proofs.YtebhabpahfmodaaGreatDoor
open Go.RowKit
def BS.told (B:BS) (t:Nat) (near:List Int):BS:={B with R:=upd B.R t {B.R t with G:=I0 (B.R t).M near (B.R t).G,K:=(B.R t).K+near.length}}
theorem BS.told_nil (B:BS) (t:Nat):B.told t []=B:=by
 unfold BS.told
 have:upd B.R t {B.R t with G:=I0 (B.R t).M [] (B.R t).G,K:=(B.R t).K+([]:List Int).length}=B.R:=by
  funext j;unfold upd;split
  ·rename_i e;rw [e];rfl
  rfl
 rw [this]
theorem BS.told_R (B:BS) (t:Nat) (near:List Int):(B.told t near).R t={B.R t with G:=I0 (B.R t).M near (B.R t).G,K:=(B.R t).K+near.length}:=a1k _ _ _
theorem BS.told_snoc (B:BS) (t:Nat) (near:List Int) (n:Int):B.told t (near++[n])={B.told t near with R:=upd (B.told t near).R t {(B.told t near).R t with G:=T8 ((B.told t near).R t).G n (B8 (B.R t).M n),K:=((B.told t near).R t).K+1}}:=by
 rw [BS.told_R];unfold BS.told;congr 1;funext j;unfold upd;by_cases e:j=t
 ·rw [if_pos e,if_pos e,a8B,zz4,List.length_singleton];rfl
 rw [if_neg e,if_neg e];exact (if_neg e).symm
theorem b0P (B:BS) (t:Nat) (near:List Int) (n:Int):A3 (B.R t).M t (near++[n]) (B.R t).G=A3 (B.R t).M t near (B.R t).G++X4 n t (((B.told t near).R t).G n) (B8 (B.R t).M n):=by
 rw [a8C,BS.told_R]
structure Far (F:Nat->Prop) (w:World) (ow:Ow) (w':World) (ow':Ow):Prop where
 md:Mod (fun k=>F (ow k)) w w'
 old:∀k,k<w.heap.size->ow' k=ow k
theorem Mov.far {F:Nat->Prop} {w w':World} {ow ow':Ow} (s:Mov F w ow w' ow'):Far F w ow w' ow':=⟨s.md,s.old⟩
theorem Far.trans {F:Nat->Prop} {w w' w'':World} {ow ow' ow'':Ow} (s:Far F w ow w' ow') (t:Far F w' ow' w'' ow''):Far F w ow w'' ow'':=by
 refine ⟨s.md.trans t.md (fun k hk hf=> ?_),fun k hk=> ?_⟩
 ·have hf':F (ow' k):=hf;rw [s.old k hk] at hf';exact hf'
 rw [t.old k (zz13 hk s.md.size),s.old k hk]
theorem o3.far {F:Nat->Prop} {w w':World} {ow ow':Ow} {sz:Nat} {v:Value} {n:Nat} {xs:List Value} (h:o3 w ow sz v n xs) (s:Far F w ow w' ow') (h0:¬F 0) (hs:0<sz):o3 w' ow' sz v n xs:=by
 refine ⟨h.rd.mod1 s.md (fun hn b hb hf=> ?_),fun hn b hb=> ?_⟩
 ·have hf':F (ow b):=hf;rw [h.con hn b hb] at hf';exact h0 hf'
 rw [s.old b (h.rd.low hs hn b hb)];exact h.con hn b hb
theorem a8x.far {F:Nat->Prop} {w w':World} {ow ow':Ow} {v:Option Value} {q:Option Fil} (h:a8x w ow v q) (s:Far F w ow w' ow') (h0:¬F 0):a8x w' ow' v q:=by
 cases v<;>cases q
 ·trivial
 ·exact h
 ·exact h
 obtain ⟨a,cap,h1,h2⟩:=h;exact ⟨a,cap,h1,h2.far s h0 zo⟩
theorem Z6.far {F:Nat->Prop} {w w':World} {ow ow':Ow} {mi c:Nat} {l:List Fil} (h:Z6 w ow mi l) (ht:ow mi=c) (s:Far F w ow w' ow') (h0:¬F 0) (hc:¬F c):Z6 w' ow' mi l/\ow' mi=c:=by
 obtain ⟨f,h1,h2⟩:=h
 exact ⟨⟨f,h1.mod s.md (fun hf=>by
  have hf':F (ow mi):=hf;rw [ht] at hf'
  exact hc hf'),fun k=>(h2 k).far s h0⟩,by rw [s.old mi h1.lt];exact ht⟩
theorem a0A.far {F:Nat->Prop} {w w':World} {ow ow':Ow} {c mb:Nat} {v:Option Value} {l:List Fil} (h:a0A w ow c mb v l) (s:Far F w ow w' ow') (h0:¬F 0) (hc:¬F c):a0A w' ow' c mb v l:=by
 cases v
 ·exact h
 obtain ⟨mi,h1,h2,h3,h4⟩:=h;obtain ⟨h5,h6⟩:=h4.far h3 s h0 hc;exact ⟨mi,h1,h2,h6,h5⟩
theorem M8.far {F:Nat->Prop} {w w':World} {ow ow':Ow} {c mb:Nat} {G:Int->List Fil} {K:Nat} (h:M8 w ow c mb G K) (s:Far F w ow w' ow') (h0:¬F 0) (hc:¬F c):M8 w' ow' c mb G K:=by
 obtain ⟨n,f,h1,h2,h3⟩:=h.mp
 exact ⟨by rw [s.old mb h1.lt];exact h.tag,⟨n,f,h1.mod s.md (fun hf=>by
  have hf':F (ow mb):=hf;rw [h.tag] at hf'
  exact hc hf'),h2,fun id=>(h3 id).far s h0 hc⟩,h.lt⟩
theorem a0A.keyV {w:World} {ow:Ow} {c mb:Nat} {v:Option Value} {l:List Fil} (h:a0A w ow c mb v l):∃m,v.getD (.map none)= .map m/\a5O w ow (.map m) l:=by
 cases v
 ·exact ⟨none,rfl,.inl ⟨rfl,h⟩⟩
 obtain ⟨mi,rfl, -, -,h4⟩:=h;exact ⟨some mi,rfl,.inr ⟨mi,rfl,h4⟩⟩
section
open Go.RowKit Go.Sort
theorem a0C {o:Oper} {a:Act} {w w':World} {K:Act->World->Prop} {Q:Exit->Act->World->Prop} (t:TypeId) (m x v:Operand) (ho:o.op= .mapUpdate t m x v)
 (h:(Instr.mapUpdate t (a.eval m) (a.eval x) (a.eval v)).run Tryz.prog w= .ok () w') (hK:K (a.put o.dst undef) w'):o.wp Tryz.prog a w K Q:=by
 unfold Oper.wp;simp [execOp,ho,h,Result.andThen];exact hK
theorem a3f {w:World} {ops:Array Oper} {rest:List Oper} {a:Act} {Q:Exit->Act->World->Prop} {d:Option Tmp} {tp:TypeId} {pos:String} {af:Array Edge} (t:TypeId) (m x v:Operand)
 (h:∃w',(Instr.mapUpdate t (a.eval m) (a.eval x) (a.eval v)).run Tryz.prog w= .ok () w'/\wpList Tryz.prog ops Q rest (a.put d undef) w'):
 wpList Tryz.prog ops Q (⟨d,.mapUpdate t m x v,tp,pos,af,none⟩::rest) a w:=by
 obtain ⟨w',h1,h2⟩:=h;refine wpList_plain rfl fun K' hK'=> ?_;exact a0C t m x v rfl h1 (hK' _ _ h2)
theorem b0Q (l:List (List UInt8)):(U9 l).length<=l.length:=by
 induction l with
 |nil=>exact Nat.le_refl _
 |cons a l ih=>
  unfold U9;split
  ·exact Nat.le_trans ih (Nat.le_succ _)
  rw [zz9,zz9];omega
theorem a0W (M:List (Int×Fil)) (td:Int):(B8 M td).length<=M.length:=by
 unfold B8 a2m K2;refine Nat.le_trans (List.length_filterMap_le _ _) ?_;rw [List.length_mergeSort];refine Nat.le_trans (b0Q _) ?_;rw [zz10];exact List.length_filter_le _ _
theorem b55 {l:List Fil} (h:l.Pairwise fun a b=>j5 a<j5 b) {k:Nat} {f:Fil} (hk:l[k]? =some f):kF (l.take k) (j5 f)=none:=by
 unfold kF;rw [List.find?_eq_none];intro x hx e;have e':j5 x=j5 f:=by simpa using e
 rw [<-List.take_append_drop k l] at h;have h1:=(List.pairwise_append.1 h).2.2 x hx f (zz8 (i:=0) (by rw [List.getElem?_drop];simpa using hk));rw [e'] at h1;exact absurd h1 (List.lt_irrefl _)
theorem b0R (M:List (Int×Fil)) (ten:Int) (l m:List Int) (G:Int->List Fil):A3 M ten (l++m) G=A3 M ten l G++A3 M ten m (I0 M l G):=by
 induction l generalizing G with
 |nil=>rfl
 |cons a l ih=>
  show X4 a ten (G a) (B8 M a)++A3 M ten (l++m) (T8 G a (B8 M a))=(X4 a ten (G a) (B8 M a)++A3 M ten l (T8 G a (B8 M a)))++_;rw [ih,zz12];rfl
theorem a8K {M:List (Int×Fil)} {ten:Int} {near:List Int} {j:Nat} {n:Int} (hj:near[j]? =some n) (G:Int->List Fil):
 (A3 M ten (near.take j) G).length+(X4 n ten (I0 M (near.take j) G n) (B8 M n)).length<=(A3 M ten near G).length:=by
 obtain ⟨hl,rfl⟩:=zz6 hj;have e:near=near.take j++(near[j]::near.drop (j+1)):=by rw [<-List.drop_eq_getElem_cons hl,List.take_append_drop]
 have h:A3 M ten near G=A3 M ten (near.take j) G++(X4 near[j] ten (I0 M (near.take j) G near[j]) (B8 M near[j])++A3 M ten (near.drop (j+1)) (T8 (I0 M (near.take j) G) near[j] (B8 M near[j]))):=
  (congrArg (fun l=>A3 M ten l G) e).trans (b0R M ten (near.take j) _ G)
 rw [h,zz4,zz4];omega
theorem b0S {M:List (Int×Fil)} {near:List Int} {G:Int->List Fil} {X:Nat} (hG:∀n,(G n).length<=X) (hM:M.length<=X) (n:Int):(I0 M near G n).length<=X:=by
 by_cases h:n∈near
 ·rw [a4b h];exact Nat.le_trans (a0W M n) hM
 rw [a0U h];exact hG n
theorem a5R {M:List (Int×Fil)} (h:∀p∈M,okQ p.2) (n:Int):∀q∈B8 M n,okQ q:=fun q hq=>by
 obtain ⟨-,x, -,hx⟩:=I7 (b2m hq).1;exact h _ hx
theorem a9L {q:Fil} (h:okQ q):(j5 q).length<=maxLen:=by
 have h2:=J8 q.1 q.2 h.2.1;have h3:=h.1;have h4:=h.2.2;show (q6 q.1 q.2).length<=maxLen;unfold maxLen;omega
structure GOk (G:Int->List Fil):Prop where
 len:∀n,(G n).length<=1000000
 ok:∀n,∀q∈G n,okQ q
theorem GOk.refr {M:List (Int×Fil)} {G:Int->List Fil} (h:GOk G) (hM:M.length<=1000000) (hq:∀p∈M,okQ p.2) (near:List Int):GOk (I0 M near G):=by
 refine ⟨b0S h.len hM,fun n q hn=> ?_⟩;by_cases hi:n∈near
 ·rw [a4b hi] at hn;exact a5R hq n q hn
 rw [a0U hi] at hn;exact h.ok n q hn
theorem a5g (a b:List Fil) (k:Nat):(K4 (a.take k) b).length<=(K4 a b).length:=((List.take_sublist k a).filter _).length_le
theorem a5h (n ten:Int) (a b:List Fil):(X4 n ten a b).length=(K4 b a).length+(K4 a b).length:=by unfold X4;simp
theorem a0A.keyV2 {w:World} {ow:Ow} {c mb:Nat} {v:Option Value} {l:List Fil} {m:Option Nat} (h:a0A w ow c mb v l) (hm:v.getD (.map none)= .map m):a5O w ow (.map m) l:=by
 obtain ⟨m',h1,h2⟩:=h.keyV;rw [hm] at h1;cases h1
 exact h2
theorem M7.far {F:Nat->Prop} {w w':World} {ow ow':Ow} {c d g:Nat} {rest:List Value} {t:TypeId} {v:Value} {L:List Lr} (h:M7 w ow c d g rest t v L) (s:Far F w ow w' ow') (h0:¬F 0) (hc:¬F c) (hd:¬F d):M7 w' ow' c d g rest t v L:=by
 have hg:=(zz7 h.row).1;refine ⟨s.md.heap h.row (fun hf=> ?_),by rw [s.old g hg];exact h.tag,h.sl.sl.mod s.md (fun b hb hf=> ?_),fun b hb=> ?_,fun x hx=>⟨(h.sl.each x hx).cs.far s h0 zo,(h.sl.each x hx).fine⟩⟩
 ·have hf':F (ow g):=hf;rw [h.tag] at hf';exact hc hf'
 ·have hf':F (ow b):=hf;rw [(h.sl.vb b hb).1] at hf';exact hd hf'
 rw [s.old b (h.sl.sl.lt b hb)];exact h.sl.vb b hb
theorem I3.far {F:Nat->Prop} {w0 w w':World} {ow ow':Ow} {c b:Nat} {M:List (Int×Fil)} {N:Nat} (h:I3 w ow c b M N) (hw:Owd w0 w ow) (hw':Owd w0 w' ow') (s:Far F w ow w' ow') (h0:¬F 0) (hc:¬F c) (h2:2<=c):I3 w' ow' c b M N:=by
 have h1:Tab w' b (fun k=>ow k=c) (fun k=>ow k=0/\k<w.heap.size) M N:=Tab.mod h s.md (fun k _ hf=>by
  have hf':F (ow k):=hf
  exact ⟨fun e=>hc (by rw [<-e];exact hf'),fun e=>h0 (by rw [<-e.1];exact hf')⟩)
 refine h1.cong (fun k hk=> ?_) (fun k hk=> ?_) (fun k hk hk2=> ?_) (fun k hk=> ?_) (fun k hk=>hk.2)
 ·have hk':ow k=c:=hk;show ow' k=c;rw [s.old k (hw.hi k zo)];exact hk'
 ·exact ⟨by rw [s.old k hk.2];exact hk.1,zz13 hk.2 s.md.size⟩
 ·have hk':ow' k=c:=hk;have:=hk2.1;omega
 have hk':ow' k=c:=hk;exact hw'.hi k zo
theorem a03.far {F:Nat->Prop} {w0 w w':World} {ow ow':Ow} {c b:Nat} {I:List (Int×Fil)} {T:Nat} (h:a03 w ow c b I T) (hw:Owd w0 w ow) (hw':Owd w0 w' ow') (s:Far F w ow w' ow') (h0:¬F 0) (hc:¬F c) (h2:2<=c):a03 w' ow' c b I T:=by
 have h1:Idx w' b (fun k=>ow k=c) (fun k=>ow k=0/\k<w.heap.size) I T:=Idx.mod2 h s.md (fun k _ hf=>by
  have hf':F (ow k):=hf
  exact ⟨fun e=>hc (by rw [<-e];exact hf'),fun e=>h0 (by rw [<-e.1];exact hf')⟩)
 obtain ⟨m1,m2,h1⟩:=h1;refine ⟨m1,m2,h1.cong (fun k hk=> ?_) (fun k hk=> ?_) (fun k hk hk2=> ?_) (fun k hk=> ?_) (fun k hk=>hk.2)⟩
 ·have hk':ow k=c:=hk;show ow' k=c;rw [s.old k (hw.hi k zo)];exact hk'
 ·exact ⟨by rw [s.old k hk.2];exact hk.1,zz13 hk.2 s.md.size⟩
 ·have hk':ow' k=c:=hk;have:=hk2.1;omega
 have hk':ow' k=c:=hk;exact hw'.hi k zo
theorem a5J.far {F:Nat->Prop} {w w':World} {ow ow':Ow} {v:Option Value} {q:Option (ByteArray×Fil)} (h:a5J w ow v q) (s:Far F w ow w' ow') (h0:¬F 0):a5J w' ow' v q:=by
 cases v<;>cases q
 ·trivial
 ·exact h
 ·exact h
 obtain ⟨a,cap,h1,h2⟩:=h;exact ⟨a,cap,h1,h2.far s h0 zo⟩
theorem K5.far {F:Nat->Prop} {w w':World} {ow ow':Ow} {c b:Nat} {S:List Sb} (h:K5 w ow c b S) (s:Far F w ow w' ow') (h0:¬F 0) (hc:¬F c):K5 w' ow' c b S:=by
 obtain ⟨f,h1,h2⟩:=h.mp
 exact ⟨by rw [s.old b h1.lt];exact h.tag,h.nd,f,h1.mod s.md (fun hf=>by
  have hf':F (ow b):=hf;rw [h.tag] at hf'
  exact hc hf'),fun id=>(h2 id).far s h0⟩
theorem J0.far {F:Nat->Prop} {w0 w w':World} {ow ow':Ow} {c g:Nat} {id:Int} {near:List Int} {B:BS} {a:BAd} (h:J0 w ow c g id near B a) (hw:Owd w0 w ow) (hw':Owd w0 w' ow') (s:Far F w ow w' ow') (h0:¬F 0) (hF:∀t,F t->t<c\/c+18<=t):J0 w' ow' c g id near B a:=by
 obtain ⟨L,h1,h2⟩:=h.log;have hn:∀t,c<=t->t<c+18->¬F t:=fun t h1 h2 h3=>by have:=hF t h3;omega
 have hc:=h.c2;refine ⟨h.c2,⟨L,h1.far s h0 (hn c zo zo) (hn (c+17) zo zo),h2⟩,h.near.far s h0 zo,fun t ht=> ?_⟩;have hr:=h.rea t ht;exact ⟨hr.tab.far hw hw' s h0 (hn _ zo zo) zo,hr.idx.far hw hw' s h0 (hn _ zo zo) zo,hr.sub.far s h0 (hn _ zo zo),hr.snt.far s h0 (hn _ zo zo)⟩
theorem J0.told2 {w0 w w':World} {ow ow':Ow} {c g:Nat} {id:Int} {near:List Int} {B:BS} {a:BAd} (h:J0 w ow c g id near B a) (hw:Owd w0 w ow) {t:Nat} (s:Mov (fun q=>q=c+13+t) w ow w' ow') (ht:t<4) {G:Int->List Fil} {K:Nat} (hs:M8 w' ow' (c+13+t) (a.mb t) G K):
 J0 w' ow' c g id near {B with R:=upd B.R t {B.R t with G:=G,K:=K}} a:=by
 have hc:=h.c2;obtain ⟨L,h1,h2⟩:=h.log;refine ⟨h.c2,⟨L,h1.mov s zo zo zo,h2⟩,h.near.mov s zo zo,fun j hj=> ?_⟩;have hr:=h.rea j hj;by_cases e:j=t
 ·subst e;show a3d w' ow' c j (a.tb j) (a.ib j) (a.sb j) (a.mb j) (upd B.R j _ j);rw [a1k];exact ⟨hr.tab.mov hw s zo zo zo,hr.idx.mov hw s zo zo zo,hr.sub.mov s zo zo,hs⟩
 show a3d w' ow' c j (a.tb j) (a.ib j) (a.sb j) (a.mb j) (upd B.R t _ j);rw [a2q _ _ e];exact hr.mov hw s zo ⟨zo,zo,zo,zo⟩ hc
theorem X3.sub {w:World} {ow:Ow} {f:Fil} {a:Option Addr} {c:Nat} (h:o3 w ow 7 (.slice a f.2.length c) f.2.length (m5 f.2)):X3 w ow ⟨Mg.sub f,none,0,a,c,none,0⟩:=⟨o3.nil _ _ _,h,o3.nil _ _ _⟩
theorem X3.uns {w:World} {ow:Ow} {f:Fil} {a:Option Addr} {c:Nat} (h:o3 w ow 7 (.slice a f.2.length c) f.2.length (m5 f.2)):X3 w ow ⟨Mg.uns f,none,0,a,c,none,0⟩:=⟨o3.nil _ _ _,h,o3.nil _ _ _⟩
theorem B6.tsub {w0:World} {q:Nat} (O:B6 w0 q) {w:World} {ow:Ow} {s:O.σ} {td ten:Int} {f:Fil} {a:Option Addr} {c:Nat} (hw:Owd w0 w ow) (hO:O.inv w ow s) (hc:O.cnt s<=400000000000) (ht:O.okTo td ten) (h:o3 w ow 7 (.slice a f.2.length c) f.2.length (m5 f.2)):
 Calls Tryz.prog 274 #[.pointer (some ⟨q,0,none⟩),.int .i64 td,.int .i64 ten,.agg #[.int .i64 1,.int .i64 0,.int .i64 0,.int .i64 0,.string ⟨#[]⟩,.int .i64 0,.string ⟨#[]⟩,.slice none 0 0,.string ⟨#[]⟩,.int .i64 0,.string f.1,.slice a f.2.length c,.string ⟨#[]⟩,.slice none 0 0,.int .i64 0,.string ⟨#[]⟩,.int .i64 0]] w
  fun e w'=>e= .returned (.tuple #[])/\∃ow',O.inv w' ow' (O.send s td ten (Mg.sub f))/\Mov O.tg w ow w' ow':=
 O.hsend hw hO hc ht (X3.sub h)
theorem B6.tuns {w0:World} {q:Nat} (O:B6 w0 q) {w:World} {ow:Ow} {s:O.σ} {td ten:Int} {f:Fil} {a:Option Addr} {c:Nat} (hw:Owd w0 w ow) (hO:O.inv w ow s) (hc:O.cnt s<=400000000000) (ht:O.okTo td ten) (h:o3 w ow 7 (.slice a f.2.length c) f.2.length (m5 f.2)):
 Calls Tryz.prog 274 #[.pointer (some ⟨q,0,none⟩),.int .i64 td,.int .i64 ten,.agg #[.int .i64 2,.int .i64 0,.int .i64 0,.int .i64 0,.string ⟨#[]⟩,.int .i64 0,.string ⟨#[]⟩,.slice none 0 0,.string ⟨#[]⟩,.int .i64 0,.string f.1,.slice a f.2.length c,.string ⟨#[]⟩,.slice none 0 0,.int .i64 0,.string ⟨#[]⟩,.int .i64 0]] w
  fun e w'=>e= .returned (.tuple #[])/\∃ow',O.inv w' ow' (O.send s td ten (Mg.uns f))/\Mov O.tg w ow w' ow':=
 O.hsend hw hO hc ht (X3.uns h)
end
theorem b2W {S:List Sb} {id:Int} (h:T7 S id=none) (q:ByteArray×Fil) (x:Int):T7 (S++[(id,q)]) x=if x=id then some q else T7 S x:=by
 unfold T7 at*;rw [List.find?_append];by_cases e:x=id
 ·subst e;rw [Option.map_eq_none_iff] at h;rw [if_pos rfl,h];simp
 rw [if_neg e];have:(id==x)=false:=by rw [beq_eq_false_iff_ne];exact fun e2=>e e2.symm
 simp [this]
theorem b0T {S:List Sb} {id:Int} (h:T7 S id=none):id∉S.map Prod.fst:=by
 unfold T7 at h;rw [Option.map_eq_none_iff,List.find?_eq_none] at h;intro hm;obtain ⟨p,hp,rfl⟩:=List.mem_map.1 hm;exact h p hp (by simp)
theorem a7d (w:World):(zeroValue 109).run Tryz.prog w= .ok (.agg #[.string ⟨#[]⟩,.string ⟨#[]⟩,.slice none 0 0]) w:=zk
theorem K5.beside {w0 w w':World} {ow:Ow} {q:Option (ByteArray×Fil)} {v:Option Value} {b:Nat} (hw:Owd w0 w ow) (h:a5J w ow v q) (hm:Mod (fun k=>k=b) w w') (hb:ow b≠0):a5J w' ow v q:=
 h.mov (Mov.wrote (F:=fun t=>t=ow b) hw hm (fun k hk=>by rw [hk])) (fun e=>hb e.symm)
theorem K5.put {w0 w:World} {ow:Ow} {c b:Nat} {S:List Sb} (hw:Owd w0 w ow) (h:K5 w ow c b S) (hn:S.length<maxLen) (hc:c≠0) (id:Int) (hid:(Lit.int .i64 id).wf=true) (hq:T7 S id=none) (who:ByteArray) (f:Fil) (a:Option Addr) (cap:Nat)
 (hv:o3 w ow 7 (.slice a f.2.length cap) f.2.length (m5 f.2)):
 ∃w',(Instr.mapUpdate 91 (.map (some b)) (.int .i64 id) (.agg #[.string who,.string f.1,.slice a f.2.length cap])).run Tryz.prog w= .ok () w'/\K5 w' ow c b (S++[(id,who,f)])/\Mod (fun k=>k=b) w w':=by
 obtain ⟨g,h1,h2⟩:=h.mp;have hb:ow b≠0:=by rw [h.tag];exact hc
 have hg:g (.int .i64 id)=none:=by
  have:=h2 id;rw [hq] at this
  cases hf:g (.int .i64 id) with
  |none=>rfl
  |some v=>rw [hf] at this;exact this.elim
 obtain ⟨w',r1,r2,r3⟩:=h1.put r5 Tryz.underlying91 hn (Maps.keyOf_int_mk Tryz.underlying3 hid) (.agg #[.string who,.string f.1,.slice a f.2.length cap]);rw [hg] at r2;refine ⟨w',r1,⟨h.tag, ?_,_,by rw [zz4,List.length_singleton];exact r2,fun x=> ?_⟩,r3⟩
 ·rw [List.map_append,List.map_singleton];refine List.nodup_append.2 ⟨h.nd,by simp,fun x hx y hy e=> ?_⟩;have hy':y=id:=by simpa using hy
  exact b0T hq (by rw [<-hy',<-e];exact hx)
 rw [b2W hq];unfold P5;by_cases e:x=id
 ·subst e;rw [if_pos rfl,if_pos rfl];exact ⟨a,cap,rfl,hv.mov (Mov.wrote (F:=fun t=>t=ow b) hw r3 (fun k hk=>by rw [hk])) (fun e=>hb e.symm) zo⟩
 rw [if_neg e,if_neg (fun e2=>e (by cases e2;rfl))];exact K5.beside hw (h2 x) r3 hb
theorem K5.ask {w:World} {ow:Ow} {c b:Nat} {S:List Sb} (h:K5 w ow c b S) (id:Int) (hid:(Lit.int .i64 id).wf=true):
 ∃(q:ByteArray×Fil) (a:Option Addr) (cap:Nat),(Instr.lookup 91 (.map (some b)) (.int .i64 id) true).run Tryz.prog w= .ok (.tuple #[.agg #[.string q.1,.string q.2.1,.slice a q.2.2.length cap],.bool (T7 S id).isSome]) w/\
  (Instr.lookup 91 (.map (some b)) (.int .i64 id) false).run Tryz.prog w= .ok (.agg #[.string q.1,.string q.2.1,.slice a q.2.2.length cap]) w/\(∀p,T7 S id=some p->p=q/\o3 w ow 7 (.slice a q.2.2.length cap) q.2.2.length (m5 q.2.2)):=by
 obtain ⟨g,h1,h2⟩:=h.mp;have hk:=Maps.keyOf_int_mk Tryz.underlying3 hid;have h3:=h1.look_ok r5 Tryz.underlying91 (a7d w) hk;have h4:=h1.look r5 Tryz.underlying91 (a7d w) hk;have h5:=h2 id
 cases hf:g (.int .i64 id) with
 |none=>
  rw [hf] at h3 h4 h5
  cases hq:T7 S id with
  |none=>exact ⟨(⟨#[]⟩,⟨#[]⟩,[]),none,0,h3,h4,fun p hp=>by cases hp⟩
  |some p=>rw [hq] at h5;exact h5.elim
 | some v=>
  rw [hf] at h3 h4 h5
  cases hq:T7 S id with
  |none=>rw [hq] at h5;exact h5.elim
  |some p=>
   rw [hq] at h5;obtain ⟨a,cap,rfl,hc⟩:=h5;exact ⟨p,a,cap,h3,h4,fun p2 hp=>by cases hp;exact ⟨rfl,hc⟩⟩
theorem K5.len {w:World} {ow:Ow} {c b:Nat} {S:List Sb} (h:K5 w ow c b S) (ty:TypeId):(Builtin.len_ #[91] ty #[.map (some b)]).run Tryz.prog w= .ok (.int .i64 S.length) w:=by
 obtain ⟨g,h1, -⟩:=h.mp;exact h1.len Tryz.underlying91 ty
theorem J0.logs {w:World} {ow:Ow} {c g:Nat} {id:Int} {near:List Int} {B:BS} {a:BAd} (h:J0 w ow c g id near B a):
 ∃(l:List Ru) (la:Option Addr) (lc:Nat),l.map Ru.pru=B.L/\l.length=B.L.length/\a.v= .slice la l.length lc/\w.cell? ⟨g,0,none⟩=some (.slice la l.length lc)/\I9 w (.slice la l.length lc) l/\(∀r∈l,r.pru.fine/\o3 w ow 7 r.cv r.cs.length (m5 r.cs)):=by
 obtain ⟨L,hl,hL⟩:=h.log;obtain ⟨la,lc,hv, -⟩:∃a' cc,a.v= .slice a' L.length cc/\L.length<=cc:=by obtain ⟨-,a,cc,h,h2, -⟩:=hl.sl.sl.rd;exact ⟨a,cc,h,h2⟩
 have hn:(L.map Lr.ru).length=L.length:=zz10 _;refine ⟨L.map Lr.ru,la,lc,by rw [a9B];exact hL,by rw [hn,<-hL,zz10],by rw [hn];exact hv,by rw [hn,<-hv];exact d6 hl.row rfl, ?_,fun r hr=> ?_⟩
 ·have:=hl.sl.ru;rw [hn,<-hv];exact this
 obtain ⟨x,hx,rfl⟩:=List.mem_map.1 hr;have h1:=hl.sl.each x hx;exact ⟨by rw [b5W];exact h1.fine,h1.cs⟩
theorem J0.at_ {w:World} {ow:Ow} {c g:Nat} {id:Int} {near:List Int} {B:BS} {a:BAd} (h:J0 w ow c g id near B a) (hL:B.L.length<=40):
 ∃l:List Ru,l.map Ru.pru=B.L/\(∀r∈l,r.pru.fine/\o3 w ow 7 r.cv r.cs.length (m5 r.cs))/\(∀wx,Mod (fun _=>False) w wx->Calls Tryz.prog 31 #[.pointer (some ⟨g,0,none⟩)] wx fun e w'=>e= .returned (.int .i64 B.L.length)/\wx=w')/\
  ∀wx (vr:Int),Mod (fun _=>False) w wx->Calls Tryz.prog 35 #[.pointer (some ⟨g,0,none⟩),.int .i64 vr] wx fun e w'=>∃v,e= .returned v/\I9 w' v (atR l (O0 vr B.L.length))/\(∀b,v.ownBlock=some b->wx.heap.size<=b)/\Mod (fun _=>False) wx w':=by
 obtain ⟨l,la,lc,h1,h2,h3,h4,h5,h6⟩:=h.logs;refine ⟨l,h1,h6,fun wx hx=> ?_,fun wx vr hx=> ?_⟩
 ·have:=a3r wx g la l.length lc (hx.cell h4 (fun h=>h));rw [h2] at this;exact this
 have hr:=h5.mod hx;have:=b52 wx g la lc l (hx.cell h4 (fun h=>h)) hr zo vr;rw [h2] at this;exact this.mono fun e w' ⟨v,he,ho,hb,hm⟩=>⟨v,he,⟨ho.rd,fun r hr'=>(hr.ok r (a3u hr')).mod hm⟩,hb,hm⟩
theorem a5S (l:List Ru) (n:Nat):(atR l n).length<=l.length:=by
 unfold atR;refine Nat.le_trans (List.length_filterMap_le _ _) ?_;rw [List.length_zipIdx,List.length_take];omega
def b2X (id:Int):Option Int->Bool
 |some x=>decide (x=id)
 |none=>false
def BS.there (B:BS) (id:Int) (tenant:Int) (who:ByteArray):Bool:=b2X id (a1A (atP B.L B.L.length) tenant who)
theorem a4h (n:Nat):O0 (n:Int) n=n:=by unfold O0;omega
theorem b2Y (w:World) (ow:Ow) (c g:Nat) (id:Int) (near:List Int) (B:BS) (h:Bro w ow c g id near B) (hL:B.L.length<=40) (tenant:Int) (who:ByteArray):
 Calls Tryz.prog 33 #[.pointer (some ⟨g,0,none⟩),.int .i64 tenant,.string who] w fun e w'=>e= .returned (.bool (B.there id tenant who))/\Mod (fun _=>False) w w':=by
 obtain ⟨a,h⟩:=h;obtain ⟨l,hlB, -,hle,hat⟩:=h.at_ hL;obtain ⟨L,aV, -⟩:=h.log;have c1:w.cell? ⟨g,1,none⟩=some (.int .i64 id):=d6 aV.row rfl;obtain ⟨R,hR⟩:∃R,B.there id tenant who=R:=⟨_,rfl⟩;rw [hR];have hS:(fun y:World=>Mod (fun _=>False) w y) w.drew:=(Mod.refl _ w).drew;have RJ:(B.L.length:Int)<=40:=zo
 obtain ⟨H,FQ,xM,Db,HR,iL⟩:=zh6 h hle hat hlB hR aV;clear h hle hat hlB hR aV
 go_enter Tryz.func33,Tryz.ntmps33
 go_wp2_with fail
 refine i8 [.rd 0,.rd 1,.rd 2,.rd 3,.rd 4,.rd 5,.rd 8,.rd 9,.go 6,.go 7,.go 10,.rd 11,.rd 12,.rd 13,.go 14,.go 15] [0,1,2,3,4,5,6,7,8,9,10,11,12,13] (fun y:World=>Mod (fun _=>False) w y) zk zk (fun _ _ d _ _ h=>(by cases d<;>exact h)) ?_
 iterate 8 (
  refine n4 rfl ?_ (fun _=>hS) ?_ (fun w0 h0=> ?_) (fun K hK=> ?_)
  ·exact zg
  rotate_left
  ·(try simp only [zz1,zz2,zz3])
   first
    |(obtain h1:=h0 rfl;clear h0;go_simp;with_reducible rfl)
    |(clear h0;go_simp;with_reducible rfl)
  (try simp only [zz1,zz2,zz3])
  go_simp;refine hK _ ?_;clear hK K)
 refine i6 (j0 rfl ?_ (fun K hK=> ?_))
 ·exact zg
 go_wp2_with fail
 refine (FQ.out w.drew hS).mono ?_;rintro e w1 ⟨rfl,rfl⟩;refine hK _ _ (fun _ h=>h) ?_;clear hK K;refine i6 (j0 rfl ?_ (fun K hK=> ?_))
 ·exact zg
 go_wp2_with fail
 refine (xM.out w.drew _ hS).mono ?_;rintro e w2 ⟨v2,rfl,fE, -,hm2⟩;rw [a4h] at fE;have hS2:Mod (fun _=>False) w w2:=hS.trans hm2 zi;refine hK _ _ (fun _ h=>h.trans hm2 zi) ?_;clear hK K hS;have Cg:l.length<=40:=by rw [<-congrArg List.length Db.out,zz10] at hL;exact hL
 have hho:=a5t w2 v2 (atR l B.L.length) fE (by have:=a5S l B.L.length;omega) tenant who;have RL:q9 (atR l B.L.length) tenant who=a1A (atP B.L B.L.length) tenant who:=by rw [<-a4a,a3t,Db.out]
 rw [RL] at hho;obtain ⟨O,hO⟩:∃O,a1A (atP B.L B.L.length) tenant who=O:=⟨_,rfl⟩;rw [hO] at hho;have Xg:R=b2X id O:=by rw [<-HR.out];unfold BS.there;rw [hO]
 obtain ⟨jm,Xh,xu,Hhe,HO,HS2⟩:=zh6 hho Xg fE RL hO hS2;clear hho Xg fE RL hO hS2 hm2;refine i6 (j0 rfl ?_ (fun K hK=> ?_))
 ·exact zg
 go_wp2_with fail
 refine jm.out.mono ?_;rintro e w3 ⟨rfl,aC⟩;have hS:Mod (fun _=>False) w w3:=HS2.out.trans aC zi;refine hK _ _ (fun _ h=>h.trans aC zi) ?_;clear hK K;have c3:w3.cell? ⟨g,1,none⟩=some (.int .i64 id):=hS.cell c1 (fun h=>h);clear aC
 iterate 3 (
  refine n4 rfl ?_ (fun _=>hS) ?_ (fun w0 h0=> ?_) (fun K hK=> ?_)
  ·exact zg
  rotate_left
  ·(try simp only [zz1,zz2,zz3])
   first
    |(obtain h1:=h0 rfl;clear h0;go_simp;with_reducible rfl)
    |(clear h0;go_simp;with_reducible rfl)
  (try simp only [zz1,zz2,zz3])
  go_simp;refine hK _ ?_;clear hK K)
 refine i6 (j0 rfl ?_ (fun K hK=> ?_))
 ·exact zg
 (try simp only [zz1,zz2,zz3]);go_simp;refine hK _ _ (fun h=>absurd h zd) ?_;clear hK K;refine i6 (j0 rfl ?_ (fun K hK=> ?_))
 ·exact zg
 (try simp only [zz1,zz2,zz3]);go_simp;refine hK _ _ (fun h=>absurd h zd) ?_;clear hK K;refine m6 ?_;have HS:=zh hS;clear hS
 cases O with
 |none=>
  go_wp2
  go_ret;exact ⟨by rw [Xh.out];rfl,HS.out⟩
 |some y=>
  go_wp2
  go_ret;exact ⟨by rw [Xh.out];rfl,HS.out⟩
end Go.Proofs.YtebhabpahfmodaaGreatDoor
