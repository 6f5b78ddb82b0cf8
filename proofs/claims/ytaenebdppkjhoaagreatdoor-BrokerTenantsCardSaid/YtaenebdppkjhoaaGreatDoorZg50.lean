/- Lemmas. -/
import Derived.Test.YtaenebdppkjhoaaGreatDoorZg49
namespace Go.Proofs.YtaenebdppkjhoaaGreatDoor
set_option maxRecDepth 20000
set_option maxHeartbeats 40000000
section
open Go.RowKit
theorem b2k (S:List Sd) (H:List Hn) (l:List Hn):List.foldl (fun (s:List Sd×List Hn) (x:Hn)=>(s.1,s.2++[(x.1,x.2.1,x.2.2)])) (S,H) l=(S,H++l):=by
 induction l generalizing H with
 |nil=>rw [List.foldl_nil,zz11]
 |cons x l ih=>
  rw [List.foldl_cons];have:=ih (H++[(x.1,x.2.1,x.2.2)]);rw [zz12] at this;exact this
theorem b32 {w0:World} {q c:Nat} {h2:2<=c} (S:List Sd) (H:List Hn) (l:List Hn):(I8 w0 q c h2).shows (S,H) l=(S,H++l):=b2k S H l
theorem a6i {w0:World} {q c:Nat} {h2:2<=c} {w':World} {ow':Ow} {p:Prop} [hd:Decidable p] {S SL:List Sd} {H HL:List Hn} (h:(I8 w0 q c h2).inv w' ow' (if p then (I8 w0 q c h2).sends ((I8 w0 q c h2).shows (S,H) HL) SL else (S,H))):
 OtI w' ow' c q (S++if p then SL else []) (H++if p then HL else []):=by
 have e:(I8 w0 q c h2).sends ((I8 w0 q c h2).shows (S,H) HL) SL=(S++SL,H++HL):=(congrArg (fun s=>(I8 w0 q c h2).sends s SL) (b32 S H HL)).trans (a0k S (H++HL) SL)
 cases hd with
 |isTrue hp=>
  have h1:(I8 w0 q c h2).inv w' ow' (S++SL,H++HL):=(congrArg (fun s=>(I8 w0 q c h2).inv w' ow' s) e).mp h;exact h1
 |isFalse hp=>
  show OtI w' ow' c q (S++[]) (H++[]);rw [zz11,zz11];exact h
theorem C2.new {w wr:World} {owr:Ow} {g:Nat} {P:List PRu} {B:BS} {j:Nat} (ho:Owd w wr owr) (hb:Bro wr owr 2 g 0 [1,2] B) (hL:B.L=P) (hR:X6 B j) (hmd:Mod (fun _=>False) w wr) {w5:World} (hw5:wr.alloc (.cells #[.slice none 0 0,.slice none 0 0] 39)=w5):
 C2 w w5 (r7 owr wr.heap.size 40) g wr.heap.size P B j [] []/\Mov (fun t=>t=40) wr owr w5 (r7 owr wr.heap.size 40):=by
 obtain ⟨hO,hm⟩:=OtI.new (c:=40) ho;rw [hw5] at hO hm;exact ⟨⟨hm.owd ho (by omega),hb.mov ho hm (by omega) (fun t e=>by omega),hL,hR,hO,by show 0+0<=_;omega,hmd.trans (hw5▸(Mod.refl (fun _=>False) wr).alloc _) (fun _ _ h=>h)⟩,hm⟩
theorem BS.endB_L (B:BS) (near:List Int) (t:Nat) (k:Int) (f:Fil):(B.endB near t k f).L=B.L:=by
 unfold BS.endB;split<;>rfl
theorem BS.endS_len {B:BS} {t:Nat} (hR:RS.Go (B.R t)) (hM:(B.R t).M.length<=(B.R t).N) (k:Int) (f:Fil):(B.endS [1,2] t k f).length<=4000000:=by
 unfold BS.endS;split
 ·exact Nat.zero_le _
 have h2:(((B.R t).unsub k).trem (-1) f).M.length<=(B.R t).M.length:=List.length_filter_le _ _;have h3:=hR.n;exact N8 (near:=[1,2]) hR.g.len (by omega) t
theorem C2.drop {w wr:World} {owr:Ow} {g q:Nat} {P:List PRu} {B:BS} {j:Nat} {S:List Sd} {H:List Hn} (h:C2 w wr owr g q P B j S H) (hj:j<=100) (hs:X3 B) (t:Nat) (ht:t<4) (who:ByteArray) (k:Int) (hkw:(Lit.int .i64 k).wf=true):
 Calls Tryz.prog 36 #[.pointer (some ⟨g,0,none⟩),.iface 43 (.pointer (some ⟨q,0,none⟩)),.int .i64 t,.string who,.int .i64 k] wr fun e w'=>
  (e= .returned (.int .i64 3)/\B.dropE t who k=3/\C2 w w' owr g q P B j S H/\Mod (fun _=>False) wr w')\/
  (e= .returned (.int .i64 0)/\∃p ow',y8 (B.R t).S k=some p/\p.1=who/\C2 w w' ow' g q P (B.endB [1,2] t k p.2) (j+1) (S++B.endS [1,2] t k p.2) H/\Mov (M1 2 t (fun t=>t=40)) wr owr w' ow'):=by
 have hR:=h.go (by omega) t ht;have hc:=h.cnt;refine (b3V w wr owr h.ow 2 g 0 [1,2] B h.br (by decide) a1l t ht q (I8 w q 40 (by omega)) (S,H) h.O (fun t ht=>by have h':t=40:=ht;omega) (fun _ _=>trivial) (by show S.length+H.length<=_;omega) hR (fun p hp=>⟨(h.R t ht).sf p hp,(hs t ht).q p hp⟩) who k hkw).mono ?_;rintro e w' (⟨he,h1,hm⟩|⟨he,p,ow',h1,h2,hb,hO,hm⟩)
 ·exact .inl ⟨he,h1,h.mod hm,hm⟩
 refine .inr ⟨he,p,ow',h1,h2, ?_,hm⟩;rw [a0k] at hO
 have h0:¬M1 2 t (fun t=>t=40) 0:=fun h=>by
  rcases h with h|h
  ·omega
  ·cases h
 have hl:=BS.endS_len hR (h.low t ht) k p.2;exact ⟨hm.owd h.ow h0,hb,by rw [BS.endB_L];exact h.L,h.R.end_ t ht k p.2,hO,by rw [zz4];omega,hm.mod0 h.ow h.md h0⟩
structure R6 (t:Nat) (S:List Sd) (H:List Hn):Prop where
 s:∀x∈S,(x.1=1\/x.1=2)/\x.2.1=(t:Int)
 h:∀x∈H,x.1=(t:Int)/\x.2.2.kind=1
 n:S.length+H.length<=10
theorem R6.nil (t:Nat):R6 t [] []:=⟨fun x hx=>(by cases hx),fun x hx=>(by cases hx),Nat.zero_le _⟩
theorem R6.rou {B:BS} {j:Nat} {t:Nat} (h:B7 (B.R t) j) (frm:Int) (m:Mg):R6 t (G8 (B.R t).M [1,2] t frm m) (B.rouH t m):=by
 refine ⟨fun x hx=> ?_,fun x hx=>a9S hx, ?_⟩
 ·obtain ⟨h1,h2⟩:=a9R hx;exact ⟨by simpa using h1,h2⟩
 have h1:=a4s (B.R t).M [1,2] t frm m
 have h2:(B.rouH t m).length<=8:=by
  refine Nat.le_trans (a9N _ _ _ _ _) ?_;refine Nat.le_trans (List.length_filter_le _ _) ?_;unfold Y6;rw [List.length_mergeSort,zz10,h.is,zz10];exact h.s
 have h3:([1,2]:List Int).length=2:=rfl;omega
theorem C2.pub {w wr:World} {owr:Ow} {g q:Nat} {P:List PRu} {B:BS} {j:Nat} {S:List Sd} {H:List Hn} (h:C2 w wr owr g q P B j S H) (hP:P.length<=40) (hj:j<=100) (hroom:S.length+H.length+10<=j*4000000+1000000) (hs:X3 B) (t:Nat) (ht:t<4) (who:ByteArray) (ser:Int)
 (es:ByteArray) (ea:Option Addr) (ec:Nat) (el:List Att) (hx:l9 wr owr 6 (.slice ea el.length ec) el.length (j7 el)) (hes:es.size<=1000) (hel:el.length<=1000) (heq:∀a∈el,a.name.size<=1000):
 Calls Tryz.prog 23 #[.pointer (some ⟨g,0,none⟩),.iface 43 (.pointer (some ⟨q,0,none⟩)),.int .i64 t,.string who,.int .i64 ser,.agg #[.string es,.slice ea el.length ec]] wr fun e w'=>e= .returned (.int .i64 (B.pubE 0 t who es el))/\
  ∃ow' S' H',R6 t S' H'/\C2 w w' ow' g q P B j (S++S') (H++H')/\Mov (fun t=>t=40) wr owr w' ow':=by
 obtain ⟨hI1,hI2⟩:=(hs t ht).ask (h.R t ht) (by omega);have hT:=(h.R t ht).t;have hN:=(h.R t ht).n;refine (a7O w wr owr h.ow 2 g 0 [1,2] B h.br (by rw [h.L];exact hP) (by decide) a1l t ht q (I8 w q 40 (by omega)) (S,H) h.O (fun t ht=>by have h':t=40:=ht;omega) (fun _ _=>trivial) (by show S.length+H.length<=_;omega) (by omega) (by omega) hI1 hI2 who ser es ea ec el hx hes hel heq).mono ?_;rintro e w' ⟨he,ow',hb,hO,hm⟩;have hO':=a6i hO;obtain ⟨S',hS'⟩:∃S',(if B.pubE 0 t who es el=0 then G8 (B.R t).M [1,2] t (-1) (Mg.said B.L.length ser who es el) else [])=S':=⟨_,rfl⟩;obtain ⟨H',hH'⟩:∃H',(if B.pubE 0 t who es el=0 then B.rouH t (Mg.said B.L.length ser who es el) else [])=H':=⟨_,rfl⟩;rw [hS',hH'] at hO'
 have hev:R6 t S' H':=by
  rw [<-hS',<-hH'];split
  ·exact R6.rou (h.R t ht) _ _
  exact R6.nil t
 have h0:¬(fun t=>t=40) 0:=by intro h;cases h
 have hn:=hev.n;exact ⟨he,ow',S',H',hev,⟨hm.owd h.ow h0,hb,h.L,h.R,hO',by rw [zz4,zz4];omega,hm.mod0 h.ow h.md h0⟩,hm⟩
theorem C2.ev {w wr:World} {owr:Ow} {g q:Nat} {P:List PRu} {B:BS} {j:Nat} {S:List Sd} {H:List Hn} (h:C2 w wr owr g q P B j S H) (hP:P.length<=40) (hj:j<=100) (hroom:S.length+H.length+10<=j*4000000+1000000) (hs:X3 B) (t:Nat) (ht:t<4) (frm:Int) (x:Mv) (hx:X5 wr owr x) (hev:a9I x.m.es x.m.el) (hk:x.m.kind=3):
 Calls Tryz.prog 26 #[.pointer (some ⟨g,0,none⟩),.iface 43 (.pointer (some ⟨q,0,none⟩)),.int .i64 frm,.int .i64 t,.agg x.cells.toArray] wr fun e w'=>e= .returned (.bool (decide (x.m.ver<=P.length)))/\
  ∃ow' S' H',R6 t S' H'/\(S',H')=(if x.m.ver<=P.length then (G8 (B.R t).M [1,2] t frm x.m,B.rouH t x.m) else ([],[]))/\C2 w w' ow' g q P B j (S++S') (H++H')/\Mov (fun t=>t=40) wr owr w' ow':=by
 obtain ⟨hI1,hI2⟩:=(hs t ht).ask (h.R t ht) (by omega);have hT:=(h.R t ht).t;have hN:=(h.R t ht).n;refine (b3X w wr owr h.ow 2 g 0 [1,2] B h.br (by rw [h.L];exact hP) (by decide) a1l t ht q (I8 w q 40 (by omega)) (S,H) h.O (fun t ht=>by have h':t=40:=ht;omega) (fun _ _=>trivial) (by show S.length+H.length<=_;omega) (by omega) (by omega) hI1 hI2 frm x hx hev (by omega)).mono ?_;rintro e w' ⟨he,ow',hb,hO,hm⟩;rw [h.L] at he hO;have hO':=a6i hO;obtain ⟨S',hS'⟩:∃S',(if x.m.ver<=P.length then G8 (B.R t).M [1,2] t frm x.m else [])=S':=⟨_,rfl⟩;obtain ⟨H',hH'⟩:∃H',(if x.m.ver<=P.length then B.rouH t x.m else [])=H':=⟨_,rfl⟩;rw [hS',hH'] at hO'
 have hev:R6 t S' H':=by
  rw [<-hS',<-hH'];split
  ·exact R6.rou (h.R t ht) _ _
  exact R6.nil t
 have heq:(S',H')=(if x.m.ver<=P.length then (G8 (B.R t).M [1,2] t frm x.m,B.rouH t x.m) else ([],[])):=by
  rw [<-hS',<-hH'];split<;>rfl
 have h0:¬(fun t=>t=40) 0:=by intro h;cases h
 have hn:=hev.n;exact ⟨he,ow',S',H',hev,heq,⟨hm.owd h.ow h0,hb,h.L,h.R,hO',by rw [zz4,zz4];omega,hm.mod0 h.ow h.md h0⟩,hm⟩
def W5 (t:Nat) (S:List Sd):Prop:=∀x∈S,(x.1=1\/x.1=2)/\x.2.1=(t:Int)
theorem W5.nil (t:Nat):W5 t []:=fun x hx=>(by cases hx)
theorem W5.app {t:Nat} {S S':List Sd} (h:W5 t S) (h':W5 t S'):W5 t (S++S'):=fun x hx=>(zz14 hx).elim (h x) (h' x)
theorem W5.refr (M:List (Int×Fil)) (t:Nat) (G:Int->List Fil):W5 t (q9 M t [1,2] G):=fun x hx=>by
 obtain ⟨h1,h2⟩:=a9Q hx;exact ⟨by simpa using h1,h2⟩
theorem W5.take (B:BS) (t:Nat) (frm:Int) (f:Fil) (on:Bool):W5 t (B.takeS [1,2] t frm f on):=by
 unfold BS.takeS;split
 ·exact W5.refr _ _ _
 exact W5.nil t
theorem W5.sub (B:BS) (id:Int) (t:Nat) (who:ByteArray) (k:Int) (fs:ByteArray) (fl:List Cnd):W5 t (B.subS id [1,2] t who k fs fl):=by
 unfold BS.subS;split
 ·exact W5.refr _ _ _
 exact W5.nil t
theorem C2.ev1 {w wr:World} {owr:Ow} {g q:Nat} {P:List PRu} {B:BS} {j:Nat} {S:List Sd} {H:List Hn} (h:C2 w wr owr g q P B j S H) (hP:P.length<=40) (hj:j<=100) (hroom:S.length+H.length+10<=j*4000000+1000000) (hs:X3 B) (t:Nat) (ht:t<4) (frm ver ser:Int) (org es:ByteArray) (ea:Option Addr) (ec:Nat) (el:List Att)
 (hx:l9 wr owr 6 (.slice ea el.length ec) el.length (j7 el)) (hev:a9I es el):
 Calls Tryz.prog 26 #[.pointer (some ⟨g,0,none⟩),.iface 43 (.pointer (some ⟨q,0,none⟩)),.int .i64 frm,.int .i64 t,.agg #[.int .i64 3,.int .i64 0,.int .i64 0,.int .i64 0,.string ⟨#[]⟩,.int .i64 0,.string ⟨#[]⟩,.slice none 0 0,.string ⟨#[]⟩,.int .i64 0,
  .string ⟨#[]⟩,.slice none 0 0,.string es,.slice ea el.length ec,.int .i64 ver,.string org,.int .i64 ser]] wr fun e w'=>e= .returned (.bool (decide (ver<=P.length)))/\
  ∃ow' S' H',R6 t S' H'/\C2 w w' ow' g q P B j (S++S') (H++H')/\Mov (fun t=>t=40) wr owr w' ow':=by
 refine (h.ev hP hj hroom hs t ht frm ⟨Mg.said ver ser org es el,none,0,none,0,ea,ec⟩ ⟨l9.nil _ _ _,l9.nil _ _ _,hx⟩ hev rfl).mono ?_;rintro e w' ⟨he,ow',S',H',h1, -,h2,h3⟩;exact ⟨he,ow',S',H',h1,h2,h3⟩
def T0 (l:List PRu):List PRu:=l.foldl P8 []
theorem a6j (l:List PRu) (p:PRu):T0 (l++[p])=P8 (T0 l) p:=by unfold T0;rw [List.foldl_append];rfl
theorem a1q (l:List PRu):(T0 l).length<=40:=by
 unfold T0
 have h:∀(l:List PRu) (Q:List PRu),Q.length<=40->(l.foldl P8 Q).length<=40:=fun l=>by
  induction l with
  |nil=>exact fun Q h=>h
  |cons a l ih=>exact fun Q h=>ih _ (a62 h a)
 exact h l [] (by decide)
theorem O6.app {w0 w wz w6:World} {ow:Ow} {d g:Nat} {v v':Value} {L:List Lr} {x:Lr} (_hw:Owd w0 w ow) (h2:2<=d) (hg:g<w.heap.size) (h:O6 w ow d g v L) (hz:Mod (fun _=>False) w wz) (hx:a2m w ow x)
 (hA:t8 wz 35 8 v (L.length+1) (rus (L.map Lr.ru)++x.ru.cells) v' w6):∃ow',O6 w6 ow' d g v' (L++[x])/\Mov (fun t=>t=d) w ow w6 ow':=by
 obtain ⟨hA1,hA2,hA3⟩:=hA;have hzs:=hz.size;have hsz:=hA2.size;have hvb:∀b,v.ownBlock=some b->b<w.heap.size:=fun b hb=>h.sl.lt b hb;have hmA:Mod (j1 v) w w6:=(hz.mono (fun _ _ h=>h.elim)).trans hA2 (fun b hb h=>h);have hmF:Mod (fun k=>ow k=d) w w6:=hmA.mono (fun k _ hk=>(h.vb k hk).1)
 have hv'b:∀b,v'.ownBlock=some b->(v.ownBlock=some b/\b<w.heap.size)\/(wz.heap.size<=b/\b<w6.heap.size):=fun b hb=>by
  rcases hA3 with e|⟨k,e,hk⟩
  ·rw [e] at hb;exact .inl ⟨hb,hvb b hb⟩
  have:=hA1.lt b hb;rw [hb] at e;cases e
  exact .inr ⟨hk,by omega⟩
 have hmv:Mov (fun t=>t=d) w ow w6 (r8 w w6 ow (j1 v') (fun _=>True) d):=Mov.tag rfl hmF;refine ⟨_,⟨?_,fun b hb=>⟨?_, ?_⟩,fun q hq=> ?_⟩,hmv⟩
 ·rw [zz4,List.map_append,a0Q];have e:rus ([x].map Lr.ru)=x.ru.cells:=by simp [rus]
  rw [e];exact hA1
 ·rcases hv'b b hb with h1|h1
  ·rw [q7 h1.2];exact (h.vb b h1.1).1
  exact F1 (by omega) h1.2 hb
 ·rcases hv'b b hb with h1|h1
  ·exact (h.vb b h1.1).2
  omega
 rcases zz14 hq with hq|hq
 ·exact (h.each q hq).mov hmv (by omega)
 rw [List.mem_singleton.1 hq];exact hx.mov hmv (by omega)
theorem Owd.loc {w0 w:World} {ow:Ow} (h:Owd w0 w ow) (o:Obj):Mov (fun t=>t=1) w ow (w.alloc o) (r7 ow w.heap.size 1):=Mov.alloc h o 1 (.inr (.inl rfl))
structure Z6 (w1:World) (ow1:Ow) (w:World) (ow:Ow):Prop where
 z:∀k,ow1 k=0\/ow1 k=50
 at_:∀k,k<w1.heap.size->ow k=ow1 k
 md:Mod (fun _=>False) w1 w
theorem Z6.refl {w:World} {ow:Ow} (h:∀k,ow k=0\/ow k=50):Z6 w ow w ow:=⟨h,fun _ _=>rfl,Mod.refl _ _⟩
theorem Z6.mov {w1:World} {ow1:Ow} {w:World} {ow:Ow} (h:Z6 w1 ow1 w ow) {F:Nat->Prop} {w':World} {ow':Ow} (s:Mov F w ow w' ow') (h0:¬F 0) (h50:¬F 50):Z6 w1 ow1 w' ow':=
 ⟨h.z,fun k hk=>(s.old k (zz13 hk h.md.size)).trans (h.at_ k hk),h.md.trans s.md fun k hk hF=>by
  have e:=h.at_ k hk;rcases h.z k with h1|h1
  ·rw [e,h1] at hF;exact h0 hF
  ·rw [e,h1] at hF
   exact h50 hF⟩
def b46 (w w1:World) (ow1:Ow) (l:List Ru) (g gl q:Nat) (vm i:Value) (wr:World):Prop:=
 ∃(j:Nat) (owr:Ow) (P:List PRu) (vL:Value) (L M:List Lr) (S:List Sd),i= .int .i64 j/\j<=l.length/\P=T0 ((l.take j).map Ru.pru)/\Owd w wr owr/\Bro wr owr 2 g 0 [1,2] ⟨P,fun _=>RS.zero⟩/\J4 wr owr 60 60 gl [] 53 vL L/\L.map Prod.fst=P/\
  O6 wr owr 61 gl vm M/\M.map Prod.fst=P/\OtI wr owr 40 q S []/\S.length<=2*j/\Mod (fun _=>False) w wr/\Z6 w1 ow1 wr owr
def a42 (w w1:World) (ow1:Ow) (l:List Ru) (e:Ending) (w':World):Prop:=
 ∃(ow':Ow) (g gl:Nat) (vm:Value) (M:List Lr),e= .returned (.tuple #[.pointer (some ⟨g,0,none⟩),vm])/\Owd w w' ow'/\Bro w' ow' 2 g 0 [1,2] ⟨T0 (l.map Ru.pru),fun _=>RS.zero⟩/\O6 w' ow' 61 gl vm M/\M.map Prod.fst=T0 (l.map Ru.pru)/\Mod (fun _=>False) w w'/\Z6 w1 ow1 w' ow'
theorem a7R (w w1:World) (ow1:Ow) (hw1:Owd w w1 ow1) (hm1:Mod (fun _=>False) w w1) (hz1:∀k,ow1 k=0\/ow1 k=50) (v:Value) (l:List Ru) (hv:K8 w v l) (hl80:l.length<=80) (hfi:∀r∈l,r.pru.fine):Calls Tryz.prog 17 #[v] w1 (a42 w w1 ow1 l):=by
 obtain ⟨a,cap,rfl,hcap⟩:∃a c,v= .slice a l.length c/\l.length<=c:=by obtain ⟨-,a,c,h,h2, -⟩:=hv.rd;exact ⟨a,c,h,h2⟩
 have hcap':(l.length:Int)<=cap:=by omega
 have hl80':(l.length:Int)<=80:=by omega
 obtain ⟨wa,hwa,hmwa,hgwa,hzwa⟩:=e8 w1 (.cells #[.int .i64 1,.int .i64 2] 3);have hva:=Mov.of hw1 hmwa (fun _=>False);have hka:=(Z6.refl hz1).mov hva (fun h=>h) (fun h=>h);have hmwa:=hm1.trans hmwa (fun _ _ h=>h);have hoa:Owd w wa ow1:=hva.owd hw1 (fun h=>h);have hrd:j0 wa 1 (.slice (some ⟨w1.heap.size,0,none⟩) 2 2) 2 [.int .i64 1,.int .i64 2]:=⟨rfl,_,_,rfl,Nat.le_refl _,(fun h=>by cases h),fun b hb _=>⟨_,0,(by cases hb;rfl),fun j u hu=>by rw [Nat.zero_add];exact d6 hgwa (by simpa using hu)⟩⟩;have hnew:=a8x w wa ow1 2 hoa (by omega) 0 (.slice (some ⟨w1.heap.size,0,none⟩) 2 2) [1,2] hrd (by decide);obtain ⟨Hv,Hfi,Hwa,Hmwa,Hnew,Hoa⟩:=zh6 hv hfi hwa hmwa hnew hoa;clear hv hfi hwa hmwa hnew hoa hgwa hzwa hrd hcap hva hw1 hm1
 go_enter Tryz.func17,Tryz.ntmps17
 go_wp2_with (first|(rw [show w1.alloc _=wa from Hwa.out])|fail)
 refine Hnew.out.mono ?_;rintro e w3 ⟨g,ow3,rfl,ho3,hb3,hm3⟩;obtain ⟨hO4,hm4⟩:=OtI.new (c:=40) ho3;obtain ⟨w4,hw4⟩:∃w4:World,w3.alloc (.cells #[.slice none 0 0,.slice none 0 0] 39)=w4:=⟨_,rfl⟩;rw [hw4] at hO4 hm4;have hb4:=hb3.mov ho3 hm4 (by omega) (fun t e=>by omega);have ho4:=hm4.owd ho3 (by omega);have hk4:=(hka.mov hm3 (by omega) (by omega)).mov hm4 (by omega) (by omega);have hr3:Mod (fun _=>False) w w3:=hm3.mod0 Hoa.out Hmwa.out (by omega);have hr4:=hm4.mod0 ho3 hr3 (by omega);have hrp:=a9u w w4 _ 60 ho4 (by omega);have hq3:w3.heap.size<w4.heap.size:=by rw [<-hw4];simp
 obtain ⟨Ho3,Hb3,Hm3,HO4,Hm4,Hw4,Hb4,Ho4,Hr3,Hr4,Hrp,Hq3⟩:=zh12 ho3 hb3 hm3 hO4 hm4 hw4 hb4 ho4 hr3 hr4 hrp hq3;clear ho3 hb3 hm3 hO4 hm4 hw4 hb4 ho4 hr3 hr4 hrp hq3
 go_wp2_with (first|(rw [show w3.alloc _=w4 from Hw4.out])|fail)
 refine Hrp.out.mono ?_;rintro e w5 ⟨gl,ow5,rfl,hlg,hm5,hm5'⟩;have hb5:=Hb4.out.mov Ho4.out hm5 (by omega) (fun t e=>by omega);have hO5:=HO4.out.mov hm5 (by omega) (by omega);have ho5:=hm5.owd Ho4.out (by omega);have hr5:=hm5.mod0 Ho4.out Hr4.out (by omega);have hk5:=hk4.mov hm5 (by omega) (by omega);obtain ⟨Hb5,Ho5,HO5,Hr5,Hlg,Hm5⟩:=zh6 hb5 ho5 hO5 hr5 hlg hm5;clear hb5 ho5 hO5 hr5 hlg hm5 hm5'
 go_wp2_with fail
 go_loopw [6,19] (fun vm i wr=>b46 w w1 ow1 l g gl w3.heap.size vm i wr) (fun _ i _=>l.length - (intOf i).toNat)
 case atStart=>exact ⟨0,ow5,[],.slice none 0 0,[],[],[],rfl,Nat.zero_le _,rfl,Ho5.out,Hb5.out,Hlg.out,rfl,⟨i7.nil _ _ _,fun b hb=>(by cases hb),fun x hx=>(by cases hx)⟩,rfl,HO5.out,Nat.zero_le _,Hr5.out,hk5⟩
 case round=>
  obtain ⟨j,owr,P,vL,L,M,S,rfl,hj,hPj,hor,hbr,hlr,hLP,hMr,hMP,hOr,hSl,hmr,hkr⟩:=hrel;by_cases hlt:j<l.length
  ·have hlt':(j:Int)<l.length:=by omega
   obtain ⟨x,hxj⟩:∃x,l[j]? =some x:=⟨_,zz5 hlt⟩;have hxm:=zz8 hxj;obtain ⟨g2,off,rfl,hf⟩:∃g2 off,a=some ⟨g2,off,none⟩/\e7 wr g2 (off+j*8) x.cells:=L0 (Hv.out.mod hmr) hxj;have hP40:P.length<=40:=by rw [hPj];exact a1q _
   have hPn:T0 ((l.take (j+1)).map Ru.pru)=P8 P x.pru:=by rw [List.take_add_one,hxj,Option.toList_some,List.map_append,hPj];exact a6j _ _
   have hMl:M.length=P.length:=by rw [<-hMP,zz10]
   obtain ⟨am,cm,rfl, -⟩:∃a' cc,u6= .slice a' M.length cc/\M.length<=cc:=by obtain ⟨-,a,cc,h,h2, -⟩:=hMr.sl.rd;exact ⟨a,cc,h,h2⟩
   rw [show Value.slice am M.length cm=Value.slice am P.length cm by rw [hMl]] at hMr⊢;obtain ⟨wz,hwz,hmwz,hgwz,hzwz⟩:=e8 wr (.cells x.cells.toArray 35);have hlz:=hor.loc (.cells x.cells.toArray 35);rw [hwz] at hlz;obtain ⟨oz,hozd⟩:∃oz:Ow,r7 owr wr.heap.size 1=oz:=⟨_,rfl⟩;rw [hozd] at hlz;have hoz1:oz wr.heap.size=1:=by rw [<-hozd];exact D4 _ _ _
   have hoz:=hlz.owd hor (by omega);have hbz:=hbr.mov hor hlz (by omega) (fun t e=>by omega);have hLz:=hlr.mov hlz (by omega) (by omega) (by omega);have hMz:=hMr.mov hlz (by omega) (by omega);have hOz:=hOr.mov hlz (by omega) (by omega);have hrz:=hmr.trans hmwz (fun _ _ h=>h);have hkz:=hkr.mov hlz (by omega) (by omega);have hgz:wz.heap[wr.heap.size]? =some (.cells ([.int .i64 x.kind,.int .i64 x.tenant,.string x.who,.int .i64 x.broker,.string x.sc,.slice x.ca x.cs.length x.cc,.string x.name,.int .i64 x.at_]:List Value).toArray 35 (0,0)):=hgwz;have hxz:a2m wz oz (x.pru,x.ca,x.cc):=⟨l9.of_rd hoz (Hv.out.ok x hxm).rd (by omega),Hfi.out x hxm⟩;have hgll:=(zz7 hlr.row).1
   have hadd:Calls Tryz.prog 13 #[.pointer (some ⟨gl,0,none⟩),.agg #[.int .i64 x.kind,.int .i64 x.tenant,.string x.who,.int .i64 x.broker,.string x.sc,.slice x.ca x.cs.length x.cc,.string x.name,.int .i64 x.at_]] wz (a2C wz oz 60 60 gl [] 53 L x.pru):=
    a8u w wz oz 60 60 gl [] 53 vL L hoz ⟨by omega,by omega⟩ hLz (by have:=congrArg List.length hLP;rw [zz10] at this;omega) x.pru x.ca x.cc hxz.cs.rd hxz.fine
   obtain ⟨R,hR⟩:∃R,a1G P x.pru=R:=⟨_,rfl⟩;have hP':(P.length:Int)<=40:=by omega
   have hj80:j<=80:=by omega
   obtain ⟨Hmr,Hor,Hbr,Hlr,HMr,HMP,HOr,Hxj,Hxm,Hf,Hwz,Hmwz⟩:=zh12 hmr hor hbr hlr hMr hMP hOr hxj hxm hf hwz hmwz;obtain ⟨Hgwz,Hlz,Hozd,Hoz1,Hoz,Hbz,HLz,HMz,HOz,Hrz,Hgz,Hxz⟩:=zh12 hgwz hlz hozd hoz1 hoz hbz hLz hMz hOz hrz hgz hxz;obtain ⟨Hadd,HR,HLP,HPn,HPj,HMl,Hgll⟩:=zh7 hadd hR hLP hPn hPj hMl hgll;clear hmr hor hbr hlr hMr hMP hOr hxj hxm hf hwz hmwz hgwz hlz hozd hoz1 hoz hbz hLz hMz hOz hrz hgz hxz hadd hR hLP hPn hPj hMl hgll hzwz;have hgz':=Hgz.out
   go_wp2_with (first|((with_reducible refine d9 35 (.tmp 21) ?_);refine ⟨g2,off+j*8,rfl,x.cells,Hf.out,by kernel_rfl,by kernel_rfl, ?_⟩)|((with_reducible refine d8 35 (.tmp 10) (.tmp 22) ?_);refine ⟨rfl,x.cells,rfl,rfl,by kernel_rfl,rfl, ?_⟩;rw [Hwz.out])|((with_reducible refine d9 35 (.tmp 10) ?_);refine ⟨wr.heap.size,0,rfl,[.int .i64 x.kind,.int .i64 x.tenant,.string x.who,.int .i64 x.broker,.string x.sc,.slice x.ca x.cs.length x.cc,.string x.name,.int .i64 x.at_],e7.row Hgz.out,by kernel_rfl,by kernel_rfl, ?_⟩)|fail)
   refine Hadd.out.mono ?_;rintro e w5 ⟨rfl,ow5,v5,L5,hl5,hp5,hm5⟩;rw [HLP.out,HR.out];rw [HLP.out] at hp5;have ho5:=hm5.owd Hoz.out (by omega);have hb5:=Hbz.out.mov Hoz.out hm5 (by omega) (fun t e=>by omega);have hM5:=HMz.out.mov hm5 (by omega) (by omega);have hO5:=HOz.out.mov hm5 (by omega) (by omega);have hx5:=Hxz.out.mov hm5 (by omega);have hr5:=hm5.mod0 Hoz.out Hrz.out (by omega);have hk5:=hkz.mov hm5 (by omega) (by omega);have hg5:=hm5.md.heap Hgz.out (by rw [Hoz1.out];omega);have ho51:ow5 wr.heap.size=1:=by rw [hm5.old _ (zz7 Hgz.out).1];exact Hoz1.out
   clear hgz';by_cases hR0:R=0;rotate_left
   ·have hb1:(R==0)=false:=by simpa using hR0
    have hpk:P8 P x.pru=P:=by unfold P8;rw [HR.out,if_neg hR0]
    obtain ⟨Hl5,Hp5,Hm5,Ho5,Hb5,HM5,HO5,Hx5,Hr5,Hg5,Ho51,Hpk⟩:=zh12 hl5 hp5 hm5 ho5 hb5 hM5 hO5 hx5 hr5 hg5 ho51 hpk;clear hl5 hp5 hm5 ho5 hb5 hM5 hO5 hx5 hr5 hg5 ho51 hpk
    go_wp2_with fail
    go_roundw
    case rel=>exact ⟨j+1,ow5,P,_,_,M,S,by go_num,hlt,by rw [HPn.out,Hpk.out],Ho5.out,Hb5.out,Hl5.out,by rw [Hp5.out,Hpk.out],HM5.out,HMP.out,HO5.out,by omega,Hr5.out,hk5⟩
    case measure=>simp [intOf];omega
   subst hR0;have hok:C7 P P.length x.pru=true:=by unfold C7;rw [HR.out,decide_eq_true rfl];rfl
   have hpk:P8 P x.pru=P++[x.pru.kept]:=by unfold P8;rw [HR.out,if_pos rfl]
   have hle:Calls Tryz.prog 14 #[.pointer (some ⟨g,0,none⟩),.iface 43 (.pointer (some ⟨w3.heap.size,0,none⟩)),.int .i64 P.length,.agg #[.int .i64 x.kind,.int .i64 x.tenant,.string x.who,.int .i64 x.broker,.string x.sc,.slice x.ca x.cs.length x.cc,.string x.name,.int .i64 x.at_],.int .i64 1] w5 (a1R (I8 w w3.heap.size 40 (by omega)) w5 ow5 2 g 0 [1,2] ⟨P,fun _=>RS.zero⟩ (S,[]) P.length x.pru 1):=
    a5W w w5 ow5 2 g 0 [1,2] _ ho5 hb5 hP40 w3.heap.size (I8 w w3.heap.size 40 (by omega)) (S,[]) hO5 (fun t ht=>by have h':t=40:=ht;omega) (show S.length+0+2<=400000000000 by omega) (by decide) (fun _ _=>trivial) P.length x.pru x.ca x.cc hx5 1
   have hg5':=hg5;have y0:w5.cell? ⟨wr.heap.size,0,none⟩=some (.int .i64 x.kind):=d6 hg5' rfl;have y1:w5.cell? ⟨wr.heap.size,1,none⟩=some (.int .i64 x.tenant):=d6 hg5' rfl;have y2:w5.cell? ⟨wr.heap.size,2,none⟩=some (.string x.who):=d6 hg5' rfl;have y3:w5.cell? ⟨wr.heap.size,3,none⟩=some (.int .i64 x.broker):=d6 hg5' rfl;have y4:w5.cell? ⟨wr.heap.size,4,none⟩=some (.string x.sc):=d6 hg5' rfl;have y5:w5.cell? ⟨wr.heap.size,5,none⟩=some (.slice x.ca x.cs.length x.cc):=d6 hg5' rfl;have y6:w5.cell? ⟨wr.heap.size,6,none⟩=some (.string x.name):=d6 hg5' rfl;have y7:w5.cell? ⟨wr.heap.size,7,none⟩=some (.int .i64 x.at_):=d6 hg5' rfl;clear hg5';obtain ⟨Hl5,Hp5,Hm5,Ho5,Hb5,HM5,HO5,Hx5,Hr5,Hg5,Ho51,Hle⟩:=zh12 hl5 hp5 hm5 ho5 hb5 hM5 hO5 hx5 hr5 hg5 ho51 hle;have Hpk:=zh hpk;clear hl5 hp5 hm5 ho5 hb5 hM5 hO5 hx5 hr5 hg5 ho51 hle hpk
   go_wp2_with fail
   refine Hle.out.mono ?_;rintro e w6 ⟨rfl,ow6,hb6,hO6,hm6⟩;clear y0 y1 y2 y3 y4 y5 y6 y7;rw [show C7 (⟨P,fun _=>RS.zero⟩:BS).L (↑P.length) x.pru=true from hok] at hO6⊢;rw [if_pos rfl,a0k] at hO6
   have hb6':Bro w6 ow6 2 g 0 [1,2] ⟨P8 P x.pru,fun _=>RS.zero⟩:=by
    have:=hb6;unfold BS.learn at this;rw [show C7 (⟨P,fun _=>RS.zero⟩:BS).L (↑P.length) x.pru=true from hok] at this;exact this
   have hSn:(S++I6 [1,2] 1 (P.length:Int) x.pru).length<=2*(j+1):=by have:=a0K [1,2] 1 (P.length:Int) x.pru;rw [zz4];have e:([1,2]:List Int).length=2:=rfl;omega
   have ho6:=hm6.owd Ho5.out (by show¬((0=2\/0=2+17)\/0=40);omega);have hr6:=hm6.mod0 Ho5.out Hr5.out (by show¬((0=2\/0=2+17)\/0=40);omega);have hk6:=hk5.mov hm6 (by show¬((0=2\/0=2+17)\/0=40);omega) (by show¬((50=2\/50=2+17)\/50=40);omega);have hl6:=Hl5.out.mov hm6 (by show¬((0=2\/0=2+17)\/0=40);omega) (by show¬((60=2\/60=2+17)\/60=40);omega) (by show¬((60=2\/60=2+17)\/60=40);omega);have hM6:=HM5.out.mov hm6 (by show¬((0=2\/0=2+17)\/0=40);omega) (by show¬((61=2\/61=2+17)\/61=40);omega);have hx6:=Hx5.out.mov hm6 (by show¬((0=2\/0=2+17)\/0=40);omega);have hg6:=hm6.md.heap Hg5.out (by rw [Ho51.out];show¬((1=2\/1=2+17)\/1=40);omega);have ho61:ow6 wr.heap.size=1:=by rw [hm6.old _ (zz7 Hg5.out).1];exact Ho51.out
   have hfine:=hx6.fine;have hfr:=D6 w6 x.sc (.slice x.ca x.cs.length x.cc) x.cs hx6.cs.rd (by have h1:x.cs.length<=1000:=hfine.len;omega) (by have h1:x.sc.size<=1000000:=hfine.sc;omega) (fun c hc=>by have:=(hfine.cs c hc).name;omega);have e4:w6.cell? ⟨wr.heap.size,4,none⟩=some (.string x.sc):=d6 hg6 rfl;have e5:w6.cell? ⟨wr.heap.size,5,none⟩=some (.slice x.ca x.cs.length x.cc):=d6 hg6 rfl;obtain ⟨Hb6',Ho6,Hr6,Hl6,HM6,Hx6,Hg6,Ho61,HO6,Hfr,HSn,Hfine⟩:=zh12 hb6' ho6 hr6 hl6 hM6 hx6 hg6 ho61 hO6 hfr hSn hfine;clear hb6' ho6 hr6 hl6 hM6 hx6 hg6 ho61 hO6 hfr hSn hfine hb6 hm6 hok
   go_wp2_with fail
   refine Hfr.out.mono ?_;rintro e w7 ⟨rfl,hm7⟩;have hv7:=Mov.of Ho6.out hm7 (fun _=>False);have ho7:=hv7.owd Ho6.out (fun h=>h);have hb7:=Hb6'.out.mov Ho6.out hv7 (fun h=>h) (fun _ h=>h.elim);have hl7:=Hl6.out.mov hv7 (fun h=>h) (fun h=>h) (fun h=>h);have hM7:=HM6.out.mov hv7 (fun h=>h) (fun h=>h);have hO7:=OtI.mov HO6.out hv7 (fun h=>h) (fun h=>h);have hx7:=Hx6.out.mov hv7 (fun h=>h);have hg7:=hm7.heap Hg6.out (fun h=>h);have hr7:=Hr6.out.trans hm7 (fun _ _ h=>h);have hk7:=hk6.mov hv7 (fun h=>h) (fun h=>h)
   cases hfb:j5 x.sc x.cs with
   |false=>
    have hkk:x.pru.kept=x.pru:=by unfold PRu.kept;rw [show j5 x.pru.sc x.pru.cs=false from hfb];rfl
    obtain ⟨Ho7,Hb7,Hl7,HM7,HO7,Hx7,Hg7,Hr7,Hv7,Hm7,Hkk,Hfb⟩:=zh12 ho7 hb7 hl7 hM7 hO7 hx7 hg7 hr7 hv7 hm7 hkk hfb;clear ho7 hb7 hl7 hM7 hO7 hx7 hg7 hr7 hv7 hm7 hkk hfb;clear e4 e5;obtain ⟨wS,hwS,hmwS,hgwS,hzwS⟩:=e8 w7 (.cells (x.pru.lies x.ca x.cc).cells.toArray 35);have hwS':w7.alloc (.cells #[.int .i64 x.kind,.int .i64 x.tenant,.string x.who,.int .i64 x.broker,.string x.sc,.slice x.ca x.cs.length x.cc,.string x.name,.int .i64 x.at_] 35)=wS:=hwS;have hrdS:j0 wS 8 (.slice (some ⟨w7.heap.size,0,none⟩) 1 1) 1 (x.pru.lies x.ca x.cc).cells:=hwS▸j0.one w7 (x.pru.lies x.ca x.cc).cells 35 rfl;have hslS:=HM7.out.sl.mod hmwS (fun _ _ h=>h);have hone:∀u∈(x.pru.lies x.ca x.cc).cells,u.oneCell'=true:=fun u hu=>zz15 (show (x.pru.lies x.ca x.cc).cells.all (·.oneCell')=true from rfl) u hu;rw [HMl.out] at hslS;have hglS:gl<w7.heap.size:=(zz7 Hl7.out.row).1;obtain ⟨HwS',HrdS,HslS,Hone,HmwS,HglS⟩:=zh6 hwS' hrdS hslS hone hmwS hglS;clear hwS' hrdS hslS hone hmwS hglS hwS hgwS hzwS
    go_wp2_with (first|((with_reducible refine d9 35 (.tmp 10) ?_);refine ⟨wr.heap.size,0,rfl,[.int .i64 x.kind,.int .i64 x.tenant,.string x.who,.int .i64 x.broker,.string x.sc,.slice x.ca x.cs.length x.cc,.string x.name,.int .i64 x.at_],e7.row Hg7.out,by kernel_rfl,by kernel_rfl, ?_⟩)|(rw [show w7.alloc _=wS from HwS'.out])|((with_reducible refine j6 (.tmp 42) (.tmp 44) 22 ?_);refine ⟨rfl,35,8,104,Z1,.slice am P.length cm,P.length,rus (M.map Lr.ru),rfl,HslS.out,_,1,(x.pru.lies x.ca x.cc).cells,rfl,HrdS.out,Hone.out,by omega,by unfold maxLen;omega, ?_⟩;intro ad cp2 w9 hA;have HA:=Lib.hid hA;clear hA)|fail)
    have hA2:=HA.out;rw [<-HMl.out] at hA2;obtain ⟨ow9,hM9,hv9⟩:=O6.app (d:=61) (v:= .slice am M.length cm) (x:=(x.pru,x.ca,x.cc)) Ho7.out (by omega) HglS.out (by rw [HMl.out];exact HM7.out) HmwS.out Hx7.out hA2;have ho9:=hv9.owd Ho7.out (by omega);have hb9:=Hb7.out.mov Ho7.out hv9 (by omega) (fun t e=>by omega);have hl9:=Hl7.out.mov hv9 (by omega) (by omega) (by omega);have hO9:=OtI.mov HO7.out hv9 (by omega) (by omega);have hr9:=hv9.mod0 Ho7.out Hr7.out (by omega);have hk9:=hk7.mov hv9 (by omega) (by omega);rw [HMl.out] at hM9;have hM9':(M++[(x.pru,x.ca,x.cc)]).map Prod.fst=P8 P x.pru:=by rw [List.map_append,HMP.out,Hpk.out,Hkk.out];rfl
    obtain ⟨HM9,Hv9,Ho9,Hb9,Hl9,HO9,Hr9,HM9'⟩:=zh8 hM9 hv9 ho9 hb9 hl9 hO9 hr9 hM9';clear hM9 hv9 ho9 hb9 hl9 hO9 hr9 hM9' hA2;clear HA
    go_roundw
    case rel=>exact ⟨j+1,ow9,_,_,_,_,_,by go_num,hlt,HPn.out.symm,Ho9.out,Hb9.out,Hl9.out,Hp5.out,HM9.out,HM9'.out,HO9.out,HSn.out,Hr9.out,hk9⟩
    case measure=>simp [intOf];omega
   | true=>
    have hfl:=K4 hfb;have hkp:x.pru.kept={x.pru with cs:=j2 x.cs}:=by unfold PRu.kept;rw [if_pos (show j5 x.pru.sc x.pru.cs=true from hfb)];rfl
    have hnr:=a0h w w7 ho7.laid x.sc (.slice x.ca x.cs.length x.cc) x.cs hx7.cs.rd (by have:=hfl.2.1;omega) Hfine.out.cs;obtain ⟨nl,hnl⟩:∃nl,j2 x.cs=nl:=⟨_,rfl⟩;rw [hnl] at hnr hkp;have e4:w7.cell? ⟨wr.heap.size,4,none⟩=some (.string x.sc):=d6 hg7 rfl;have e5:w7.cell? ⟨wr.heap.size,5,none⟩=some (.slice x.ca x.cs.length x.cc):=d6 hg7 rfl;obtain ⟨Ho7,Hb7,Hl7,HM7,HO7,Hx7,Hg7,Hr7,Hv7,Hm7,Hfl,Hkp⟩:=zh12 ho7 hb7 hl7 hM7 hO7 hx7 hg7 hr7 hv7 hm7 hfl hkp;obtain ⟨Hnr,Hnl,Hfb⟩:=zh3 hnr hnl hfb;clear ho7 hb7 hl7 hM7 hO7 hx7 hg7 hr7 hv7 hm7 hfl hkp hnr hnl hfb
    go_wp2_with fail
    refine Hnr.out.mono ?_;rintro e w8 ⟨na,nc,rfl,hno,hnb,hm8⟩;have hv8:=Mov.of Ho7.out hm8 (fun _=>False);have ho8:=hv8.owd Ho7.out (fun h=>h);have hg8:=hm8.heap Hg7.out (fun h=>h);have hgl8:=(zz7 hg8).1;have hgl7:=(zz7 Hg7.out).1;have hkk:x.pru.kept=({x.pru with cs:=nl}:PRu):=Hkp.out;have hkf:({x.pru with cs:=nl}:PRu).fine:=by rw [<-hkk];exact Hfine.out.kept
    have hnb1:∀b,(Value.slice am P.length cm).ownBlock=some b->b≠wr.heap.size:=fun b hb e=>by have h1:=(HM7.out.vb b hb).1;rw [e,Ho61.out] at h1;omega
    have hslY:∀(wy:World) (o:Obj),Mod (fun b=>b=wr.heap.size) w8 wy->i7 (wy.alloc o) 35 8 (.slice am P.length cm) P.length (rus (M.map Lr.ru)):=fun wy o hmy=>by
     have h1:=((HM7.out.sl.mod hm8 (fun _ _ h=>h)).mod hmy (fun b hb e=>hnb1 b hb e)).alloc o;rw [HMl.out] at h1;exact h1
    have hone:∀u∈(({x.pru with cs:=nl}:PRu).lies na nc).cells,u.oneCell'=true:=fun u hu=>zz15 (show (({x.pru with cs:=nl}:PRu).lies na nc).cells.all (·.oneCell')=true from rfl) u hu;obtain ⟨Hno,Hnb,Hm8,Hv8,Ho8,Hg8,Hkk,Hkf,HslY,Hone⟩:=zh10 hno hnb hm8 hv8 ho8 hg8 hkk hkf hslY hone;clear hno hnb hm8 hv8 ho8 hg8 hkk hkf hslY hone
    go_wp2_with (first|((with_reducible refine r5 33 (.tmp 41) (.tmp 40) ?_);refine ⟨wr.heap.size,4,rfl,_,_,Hg8.out,[.string x.sc,.slice na nl.length nc],rfl,Nat.le_of_ble_eq_true rfl,by kernel_rfl,rfl, ?_⟩;intro wy hey hmy;have hgy:wy.heap[wr.heap.size]? =some (.cells ([.int .i64 x.kind,.int .i64 x.tenant,.string x.who,.int .i64 x.broker,.string x.sc,.slice na nl.length nc,.string x.name,.int .i64 x.at_]:List Value).toArray 35 (0,0)):=hey▸setRow_heap w8 wr.heap.size _ _ _ _ Hg8.out;have Hgy:=Lib.hid hgy;have Hmy:=Lib.hid hmy;clear hey hgy hmy)|((with_reducible refine d9 35 (.tmp 10) ?_);refine ⟨wr.heap.size,0,rfl,[.int .i64 x.kind,.int .i64 x.tenant,.string x.who,.int .i64 x.broker,.string x.sc,.slice na nl.length nc,.string x.name,.int .i64 x.at_],e7.row Hgy.out,by kernel_rfl,by kernel_rfl, ?_⟩)|((with_reducible refine j6 (.tmp 42) (.tmp 44) 22 ?_);refine ⟨rfl,35,8,104,Z1,.slice am P.length cm,P.length,rus (M.map Lr.ru),rfl,HslY.out wy _ Hmy.out,_,1,(({x.pru with cs:=nl}:PRu).lies na nc).cells,rfl,j0.one wy (({x.pru with cs:=nl}:PRu).lies na nc).cells 35 rfl,Hone.out,by omega,by unfold maxLen;omega, ?_⟩;intro ad cp2 w9 hA;have HA:=Lib.hid hA;clear hA)|fail)
    have hvy:Mov (fun t=>t=1) w8 ow6 wy ow6:=Mov.wrote Ho8.out Hmy.out (fun b hb=>by have hb':b=wr.heap.size:=hb;rw [hb'];exact Ho61.out);have hoy:=hvy.owd Ho8.out (by omega);have hry:=hvy.mod0 Ho8.out (Hr7.out.trans Hm8.out (fun _ _ h=>h)) (by omega);have hby:=(Hb7.out.mov Ho7.out Hv8.out (fun h=>h) (fun _ h=>h.elim)).mov Ho8.out hvy (by omega) (fun t e=>by omega);have hly:=(Hl7.out.mov Hv8.out (fun h=>h) (fun h=>h) (fun h=>h)).mov hvy (by omega) (by omega) (by omega);have hMy:=(HM7.out.mov Hv8.out (fun h=>h) (fun h=>h)).mov hvy (by omega) (by omega);have hOy:=OtI.mov (OtI.mov HO7.out Hv8.out (fun h=>h) (fun h=>h)) hvy (by omega) (by omega);have hxy:a2m wy ow6 (({x.pru with cs:=nl}:PRu),na,nc):=⟨⟨(Hno.out.mod Hmy.out (fun b hb e=>by have h1:=Hnb.out b hb;have h3:b=wr.heap.size:=e;have h4:=(zz7 Hg7.out).1;omega)).rd,fun _ b hb=>Ho7.out.zero (Hnb.out b hb)⟩,Hkf.out⟩;have hgly:gl<wy.heap.size:=(zz7 hly.row).1;obtain ⟨Hvy,Hoy,Hry,Hby,Hly,HMy,HOy,Hxy,Hgly⟩:=zh9 hvy hoy hry hby hly hMy hOy hxy hgly;clear hvy hoy hry hby hly hMy hOy hxy hgly;have hA2:=HA.out;rw [<-HMl.out] at hA2;obtain ⟨ow9,hM9,hv9⟩:=O6.app (d:=61) (v:= .slice am M.length cm) (x:=(({x.pru with cs:=nl}:PRu),na,nc)) Hoy.out (by omega) Hgly.out (by rw [HMl.out];exact HMy.out) ((Mod.refl (fun _=>False) wy).alloc _) Hxy.out hA2;have ho9:=hv9.owd Hoy.out (by omega);have hb9:=Hby.out.mov Hoy.out hv9 (by omega) (fun t e=>by omega);have hl9:=Hly.out.mov hv9 (by omega) (by omega) (by omega);have hO9:=OtI.mov HOy.out hv9 (by omega) (by omega);have hr9:=hv9.mod0 Hoy.out Hry.out (by omega);have hk9:=((hk7.mov Hv8.out (fun h=>h) (fun h=>h)).mov Hvy.out (by omega) (by omega)).mov hv9 (by omega) (by omega);rw [HMl.out] at hM9;have hM9':(M++[(({x.pru with cs:=nl}:PRu),na,nc)]).map Prod.fst=P8 P x.pru:=by rw [List.map_append,HMP.out,Hpk.out,Hkk.out];rfl
    obtain ⟨HM9,Hv9,Ho9,Hb9,Hl9,HO9,Hr9,HM9'⟩:=zh8 hM9 hv9 ho9 hb9 hl9 hO9 hr9 hM9';clear hM9 hv9 ho9 hb9 hl9 hO9 hr9 hM9' hA2;clear HA
    go_roundw
    case rel=>exact ⟨j+1,ow9,_,_,_,_,_,by go_num,hlt,HPn.out.symm,Ho9.out,Hb9.out,Hl9.out,Hp5.out,HM9.out,HM9'.out,HO9.out,HSn.out,Hr9.out,hk9⟩
    case measure=>simp [intOf];omega
  obtain rfl:j=l.length:=by omega
  rw [List.take_length] at hPj;obtain ⟨Hor,Hbr,Hlr,HMr,HMP,HOr,Hmr,HPj⟩:=zh8 hor hbr hlr hMr hMP hOr hmr hPj;clear hor hbr hlr hMr hMP hOr hmr hPj hLP hSl
  go_wp2
  go_ret2
  exact ⟨owr,g,gl,_,M,rfl,Hor.out,by rw [<-HPj.out];exact Hbr.out,HMr.out,by rw [<-HPj.out];exact HMP.out,Hmr.out,hkr⟩
structure a3P (wS wT wr:World) (tb:Nat) (cells:List Value) (L:Nat->List Fr):Prop where
 len:cells.length=4
 row:wr.heap[tb]? =some (.cells cells.toArray 91 (0,0))
 lt:tb<wT.heap.size
 sl:∀t,t<4->∃a cap,cells[t]? =some (.slice a (L t).length cap)/\i7 wr 33 2 (.slice a (L t).length cap) (L t).length ((L t).flatMap Fr.cells)/\∀b,(Value.slice a (L t).length cap).ownBlock=some b->wT.heap.size<=b
 ne:∀(t u:Nat) (v v':Value) (b:Nat),t≠u->cells[t]? =some v->cells[u]? =some v'->v.ownBlock=some b->v'.ownBlock≠some b
 rd:∀t,t<4->∀f∈L t,j0 wS 7 (.slice f.a f.cs.length f.c) f.cs.length (l6 f.cs)
 md:Mod (fun k=>k=tb) wT wr
 m0:Mod (fun _=>False) wS wr
 tb0:wS.heap.size<=tb
theorem a3P.new {wS wT:World} {tb:Nat} (h:wT.heap[tb]? =some (.cells #[.slice none 0 0,.slice none 0 0,.slice none 0 0,.slice none 0 0] 91 (0,0))) (hm:Mod (fun _=>False) wS wT) (h0:wS.heap.size<=tb):a3P wS wT wT tb [.slice none 0 0,.slice none 0 0,.slice none 0 0,.slice none 0 0] (fun _=>[]):=by
 refine ⟨rfl,h,(zz7 h).1,fun t ht=>⟨none,0, ?_,i7.nil _ _ _,fun b hb=>(by cases hb)⟩,fun t u v v' b hn hv hv' hb=> ?_,fun t ht f hf=>(by cases hf),Mod.refl _ _,hm,h0⟩
 ·have h4:t=0\/t=1\/t=2\/t=3:=by omega
  rcases h4 with rfl|rfl|rfl|rfl<;>rfl
 have hm:=zz8 hv;simp only [List.mem_cons,List.not_mem_nil,or_false,or_self] at hm;subst hm;cases hb
theorem a3P.mod {wS wT wr w':World} {tb:Nat} {cells:List Value} {L:Nat->List Fr} (h:a3P wS wT wr tb cells L) (hm:Mod (fun _=>False) wr w'):a3P wS wT w' tb cells L:=
 ⟨h.len,hm.heap h.row (fun h=>h),h.lt,fun t ht=>by
  obtain ⟨a,cap,h1,h2,h3⟩:=h.sl t ht
  exact ⟨a,cap,h1,h2.mod hm (fun _ _ h=>h),h3⟩,h.ne,h.rd,h.md.trans (hm.mono (fun _ _ h=>h.elim)) (fun _ _ h=>h),h.m0.trans hm (fun _ _ h=>h),h.tb0⟩
theorem a3P.cell {wS wT wr:World} {tb:Nat} {cells:List Value} {L:Nat->List Fr} (h:a3P wS wT wr tb cells L) {t:Nat} {v:Value} (hv:cells[t]? =some v):wr.cell? ⟨tb,t,none⟩=some v:=(cell_of_row wr tb t _ _ _ h.row).trans (by simpa using hv)
theorem a3P.app {wS wT wr wz w6 w7:World} {tb:Nat} {cells:List Value} {L:Nat->List Fr} (h:a3P wS wT wr tb cells L) {t:Nat} (ht:t<4) {a:Option Addr} {cap:Nat} (hc:cells[t]? =some (.slice a (L t).length cap)) (fr:Fr) (hfr:j0 wS 7 (.slice fr.a fr.cs.length fr.c) fr.cs.length (l6 fr.cs))
 (hz:Mod (fun _=>False) wr wz) {v':Value} (hA:t8 wz 33 2 (.slice a (L t).length cap) ((L t).length+1) ((L t).flatMap Fr.cells++fr.cells) v' w6) (h7:w7.heap[tb]? =some (.cells (cells.set t v').toArray 91 (0,0))) (hm7:Mod (fun k=>k=tb) w6 w7):
 a3P wS wT w7 tb (cells.set t v') (upd L t (L t++[fr])):=by
 obtain ⟨hA1,hA2,hA3⟩:=hA;have hlt:=h.lt;have hsz:=h.md.size;have hzs:=hz.size;obtain ⟨a0,c0,hc0,ho0,hb0⟩:=h.sl t ht;rw [hc] at hc0;cases hc0
 have hvb:∀b,v'.ownBlock=some b->((Value.slice a (L t).length cap).ownBlock=some b/\wT.heap.size<=b)\/wz.heap.size<=b:=fun b hb=>by
  rcases hA3 with e|⟨k,e,hk⟩
  ·rw [e] at hb;exact .inl ⟨hb,hb0 b hb⟩
  rw [e] at hb;cases hb
  exact .inr hk
 have hl4:=h.len
 have hset:∀u v,(cells.set t v')[u]? =some v->(u=t/\v=v')\/(u≠t/\cells[u]? =some v/\u<4):=fun u v hu=>by
  rw [List.getElem?_set] at hu;by_cases e:t=u
  ·rw [if_pos e,if_pos (by omega)] at hu;exact .inl ⟨e.symm,(Option.some.inj hu).symm⟩
  rw [if_neg e] at hu;exact .inr ⟨fun e2=>e e2.symm,hu,by have:=(zz6 hu).1;omega⟩
 refine ⟨by rw [List.length_set];exact h.len,h7,h.lt,fun u hu=> ?_,fun x y v w b hn hv hw hb hb'=> ?_,fun u hu f hf=> ?_, ?_, ?_,h.tb0⟩
 ·by_cases e:u=t
  ·subst e;obtain ⟨a',c',e', -⟩:=hA1.shape;rw [S5];refine ⟨a',c', ?_, ?_,fun b hb=> ?_⟩
   ·rw [List.getElem?_set_self (by omega),e',zz4];rfl
   ·rw [zz4,List.flatMap_append]
    have h1:=hA1.mod hm7 (fun b hb e=>by
     have h2:b=tb:=e
     rcases hvb b hb with h3|h3<;>omega)
    rw [e'] at h1;simpa using h1
   rw [zz4] at hb;have hb2:v'.ownBlock=some b:=by rw [e'];exact hb
   rcases hvb b hb2 with h3|h3<;>omega
  rw [W0 _ _ e];obtain ⟨a1,c1,h1,h2,h3⟩:=h.sl u hu;refine ⟨a1,c1,by rw [List.getElem?_set_ne (fun e2=>e e2.symm)];exact h1,((h2.mod hz (fun _ _ h=>h)).mod hA2 (fun b hb hin=>h.ne u t _ _ b e h1 hc hb hin)).mod hm7 (fun b hb e=> ?_),h3⟩;have h4:b=tb:=e;have:=h3 b hb;omega
 ·have old:∀(u:Nat) (v:Value),u<4->cells[u]? =some v->∀b,v.ownBlock=some b->b<wr.heap.size:=fun u v hu hc b hb=>by
   obtain ⟨a1,c1,h1,h2, -⟩:=h.sl u hu;rw [h1] at hc;cases hc
   exact h2.lt b hb
  rcases hset x v hv with ⟨rfl,rfl⟩|⟨h1,h2,h2'⟩
  ·rcases hset y w hw with ⟨rfl,rfl⟩|⟨h3,h4,h4'⟩
   ·exact hn rfl
   rcases hvb b hb with h5|h5
   ·exact h.ne _ _ _ _ b hn hc h4 h5.1 hb'
   have:=old y w h4' h4 b hb';omega
  rcases hset y w hw with ⟨rfl,rfl⟩|⟨h3,h4,h4'⟩
  ·rcases hvb b hb' with h5|h5
   ·exact h.ne _ _ _ _ b hn h2 hc hb h5.1
   have:=old x v h2' h2 b hb;omega
  exact h.ne _ _ _ _ b hn h2 h4 hb hb'
 ·by_cases e:u=t
  ·subst e;rw [S5] at hf;rcases zz14 hf with hf|hf
   ·exact h.rd u hu f hf
   rw [List.mem_singleton.1 hf];exact hfr
  rw [W0 _ _ e] at hf;exact h.rd u hu f hf
 ·refine ((h.md.trans (hz.mono (fun _ _ h=>h.elim)) (fun _ _ h=>h)).upon hA2 (fun b hb=> .inr (hb0 b hb))).trans hm7 (fun _ _ h=>h)
 have h0:=h.tb0;refine ((h.m0.trans hz (fun _ _ h=>h)).upon hA2 (fun b hb=> .inr (by have:=hb0 b hb;omega))).upon hm7 (fun b hb=> .inr ?_);have h1:b=tb:=hb;omega
end
section
open Go.RowKit Go.Sort
structure a3Q (w:World) (ma:Nat) (R:List (Int×Fr)) (td:Int) (A:List UInt8->Option Fr):Prop where
 m:RIn w A ma
 a:∀k g,A k=some g->∃x,x≠td/\a3q R x k=some g
theorem a3Q.mod {w w':World} {ma:Nat} {R:List (Int×Fr)} {td:Int} {A:List UInt8->Option Fr} {F:Nat->Prop} (h:a3Q w ma R td A) (hm:Mod F w w') (h1:¬F ma):a3Q w' ma R td A:=⟨h.m.mod hm h1,h.a⟩
theorem a3Q.low {w:World} {ma:Nat} {R:List (Int×Fr)} {td:Int} {A:List UInt8->Option Fr} (h:a3Q w ma R td A) {n:Nat} {f:Lit->Option Value} (hm:l8 w 9 ma n f) (hf:∀k,f (.string k)=(A k).map Fr.val):n<=R.length:=by
 have hnd:((L9 (R.map fun p=>b4T p.2)).filter fun k=>(A k).isSome).Nodup:=(Y8 _).filter _
 have h1:=hm.count o6 Tryz.underlying9 hnd (fun k=>by
  rw [List.mem_filter,a4e,hf];constructor
  ·intro h2;rw [Option.isSome_map];exact h2.2
  ·intro h2;rw [Option.isSome_map] at h2;refine ⟨?_,h2⟩;obtain ⟨g,hg⟩:=Option.isSome_iff_exists.1 h2;obtain ⟨x, -,h3⟩:=h.a k g hg;obtain ⟨h4,rfl⟩:=a9E h3
   exact List.mem_map.2 ⟨_,h4,rfl⟩)
 have ho:∀l:List (List UInt8),(L9 l).length<=l.length:=fun l=>by
  induction l with
  |nil=>exact Nat.le_refl _
  |cons a l ih=>
   unfold L9;split
   ·exact Nat.le_trans ih (Nat.le_succ _)
   exact Nat.succ_le_succ ih
 rw [h1];refine Nat.le_trans (List.length_filter_le _ _) (Nat.le_trans (ho _) ?_);rw [zz10];exact Nat.le_refl _
theorem a3Q.put {w:World} {ma:Nat} {R:List (Int×Fr)} {td:Int} {A:List UInt8->Option Fr} (h:a3Q w ma R td A) {x:Int} {k:List UInt8} {g:Fr} (hx:x≠td) (hg:a3q R x k=some g):
 ∃n f,l8 w 9 ma n f/\n<=R.length/\∀w' m,l8 w' 9 ma m (C0 f (.string k) (.agg #[.string g.sc,.slice g.a g.cs.length g.c]))->a3Q w' ma R td (fun j=>if j=k then some g else A j):=by
 obtain ⟨n,f,h1,h2⟩:=h.m;refine ⟨n,f,h1,h.low h1 h2,fun w' m hm=>⟨⟨m,_,hm,fun j=> ?_⟩,fun j q hq=> ?_⟩⟩
 ·unfold C0;by_cases e:j=k
  ·subst e;rw [if_pos rfl];show _=Option.map Fr.val (if j=j then some g else A j);rw [if_pos rfl];rfl
  rw [if_neg (fun h=>e (Lit.string.inj h))];show _=Option.map Fr.val (if j=k then some g else A j);rw [if_neg e];exact h2 j
 have hq:(if j=k then some g else A j)=some q:=hq;by_cases e:j=k
 ·subst e;rw [if_pos rfl] at hq;cases hq
  exact ⟨x,hx,hg⟩
 rw [if_neg e] at hq;exact h.a j q hq
theorem a3Q.new {w:World} {ma:Nat} {R:List (Int×Fr)} {td:Int} {n:Nat} (h:l8 w 9 ma n (fun _=>none)):a3Q w ma R td (fun _=>none):=⟨⟨n,_,h,fun _=>rfl⟩,fun k g h=>by cases h⟩
end
section
open Go.RowKit
theorem b47 {F:Int} (h:F=1\/F=2):(Lit.int .i64 F).wf=true:=by rcases h with rfl|rfl<;>decide
structure TdS (tb t B:Nat) (ten:Int) (fs:ByteArray) (fa:Option Addr) (n fc:Nat) (v:Value) (y:World):Prop where
 y1:y.cell? ⟨B,1,none⟩=some (.int .i64 ten)
 y12:y.cell? ⟨B,12,none⟩=some (.string fs)
 y13:y.cell? ⟨B,13,none⟩=some (.slice fa n fc)
 v0:y.cell? ⟨tb,t,none⟩=some v
theorem TdS.mod {tb t B:Nat} {ten:Int} {fs:ByteArray} {fa:Option Addr} {n fc:Nat} {v:Value} {y z:World} (h:TdS tb t B ten fs fa n fc v y) (hm:Mod (fun _=>False) y z):TdS tb t B ten fs fa n fc v z:=⟨hm.cell h.y1 (fun h=>h),hm.cell h.y12 (fun h=>h),hm.cell h.y13 (fun h=>h),hm.cell h.v0 (fun h=>h)⟩
theorem TdS.mod2 {F:Nat->Prop} {tb t B:Nat} {ten:Int} {fs:ByteArray} {fa:Option Addr} {n fc:Nat} {v:Value} {y z:World} (h:TdS tb t B ten fs fa n fc v y) (hm:Mod F y z) (h1:¬F B) (h2:¬F tb):TdS tb t B ten fs fa n fc v z:=⟨hm.cell h.y1 h1,hm.cell h.y12 h1,hm.cell h.y13 h1,hm.cell h.v0 h2⟩
theorem a9V {p:Att->Prop} (l:List Att) (h:∀a∈l,p a.canon):∀a∈O8 l,p a:=by
 unfold O8
 suffices∀(l acc:List Att),(∀a∈l,p a.canon)->(∀a∈acc,p a)->∀a∈l.foldl (fun acc a=>putA acc a.canon) acc,p a from this l [] h (by simp)
 intro l
 induction l with
 |nil=>intro acc _ h;exact h
 | cons a l ih=>
  intro acc h1 h2;refine ih _ (fun b hb=>h1 b (by simp [hb])) fun b hb=> ?_;have ha:=h1 a (by simp);have hb:b∈putA acc a.canon:=hb;unfold putA at hb;split at hb
  ·rcases zz14 hb with hb|hb
   ·exact h2 b (List.mem_of_mem_take hb)
   rcases List.mem_cons.1 hb with rfl|hb
   ·exact ha
   exact h2 b (List.mem_of_mem_drop hb)
  rcases zz14 hb with hb|hb
  ·exact h2 b (List.mem_of_mem_take hb)
  rcases List.mem_cons.1 hb with rfl|hb
  ·exact ha
  exact h2 b (List.mem_of_mem_drop hb)
theorem b48 (s:ByteArray) (l:List Att):a9I (a7d s) (a2o l):=by
 refine ⟨?_,a8m l,a7e l,fun a ha=> ?_⟩
 ·unfold a7d;split
  ·rename_i h
   exact V9 h
  exact Nat.zero_le _
 have h1:=a4L (b1b ha).2 (List.mem_singleton.2 rfl);refine ⟨a2B h1.1, ?_⟩;have h3:=h1.2;unfold V.right at h3;simp only [Bool.and_eq_true,decide_eq_true_eq] at h3;exact h3.2.2
structure TnE (wr:World) (owr:Ow) (ge:Nat) (s7:ByteArray) (sv:Value) (l7:List Att):Prop where
 el:l9 wr owr 6 sv l7.length (j7 l7)
 tag:owr ge=50
 row:wr.heap[ge]? =some (.cells #[.string s7,sv] 46 (0,0))
theorem TnE.mov {F:Nat->Prop} {wr w':World} {owr ow':Ow} {ge:Nat} {s7:ByteArray} {sv:Value} {l7:List Att} (h:TnE wr owr ge s7 sv l7) (s:Mov F wr owr w' ow') (h0:¬F 0) (h50:¬F 50):TnE w' ow' ge s7 sv l7:=
 ⟨h.el.mov s h0 (by omega),by rw [s.old ge (zz7 h.row).1];exact h.tag,s.md.heap h.row (fun hf=>h50 (by have hf':F (owr ge):=hf;rwa [h.tag] at hf'))⟩
structure TnI (w wr:World) (owr:Ow) (g ge:Nat) (P:List PRu) (B:BS) (j:Nat) (s7:ByteArray) (sv:Value) (l7:List Att):Prop where
 ow:Owd w wr owr
 br:Bro wr owr 2 g 0 [1,2] B
 L:B.L=P
 R:X6 B j
 S:X3 B
 md:Mod (fun _=>False) w wr
 e:TnE wr owr ge s7 sv l7
theorem TnI.mov {w wr w':World} {owr:Ow} {g ge:Nat} {P:List PRu} {B:BS} {j:Nat} {s7:ByteArray} {sv:Value} {l7:List Att} (h:TnI w wr owr g ge P B j s7 sv l7) (s:Mov (fun _=>False) wr owr w' owr):TnI w w' owr g ge P B j s7 sv l7:=
 ⟨s.owd h.ow (fun h=>h),h.br.mov h.ow s (fun h=>h) (fun _ h=>h.elim),h.L,h.R,h.S,s.mod0 h.ow h.md (fun h=>h),h.e.mov s (fun h=>h) (fun h=>h)⟩
theorem TnI.next {w wr:World} {owr:Ow} {g ge:Nat} {P:List PRu} {B:BS} {j:Nat} {s7:ByteArray} {sv:Value} {l7:List Att} (h:TnI w wr owr g ge P B j s7 sv l7):TnI w wr owr g ge P B (j+1) s7 sv l7:=
 ⟨h.ow,h.br,h.L,fun t ht=>(h.R t ht).mono (Nat.le_succ _),h.S,h.md,h.e⟩
theorem TnI.of {w wr:World} {owr:Ow} {g q ge:Nat} {P:List PRu} {B:BS} {j:Nat} {S:List Sd} {H:List Hn} {s7:ByteArray} {sv:Value} {l7:List Att} (h:C2 w wr owr g q P B j S H) (hs:X3 B) (he:TnE wr owr ge s7 sv l7):TnI w wr owr g ge P B j s7 sv l7:=⟨h.ow,h.br,h.L,h.R,hs,h.md,he⟩
theorem a7S (t:Nat) {k:Nat} (hk:k=0\/k=50) (ht:t<4):¬M1 2 t (fun t=>t=40) k:=fun h=>by
 rcases h with h|h
 ·omega
 have h':k=40:=h;omega
theorem a8B {a b j:Nat} (h:a+b<=4900000):a+b+10<=(j+1)*4000000+1000000:=Nat.le_trans (show a+b+10<=4000000+1000000 by omega) (Nat.add_le_add_right (Nat.le_mul_of_pos_left _ (Nat.succ_pos j)) _)
def b5w (w:World) (g ge:Nat) (P:List PRu) (s7:ByteArray) (sv:Value) (l7:List Att) (n:Nat) (i:Value) (wr:World):Prop:=∃(j:Nat) (owr:Ow) (B:BS),i= .int .i64 j/\j<=n/\TnI w wr owr g ge P B j s7 sv l7
theorem a3R (w:World) (hl0:J3 w w) (v:Value) (l:List Ru) (hv:K8 w v l) (hll:l.length<=9223372036854775807) (hin:∀r∈l,b3P r) (av:Value) (A:List As) (hA:a6Z w av A) (hAl:A.length<=9223372036854775807) (hAi:∀x∈A,b0W x)
 (es:ByteArray) (ev:Value) (q:List Att) (hq:j0 w 6 ev q.length (j7 q)) (hql:q.length<=9223372036854775807) (hes:es.size<=9223372036854775807) (hqn:∀a∈q,a.name.size<=140737488355328/\a.v.text.size<=140737488355328):
 Calls Tryz.prog 8 #[v,av,.agg #[.string es,ev]] w fun e w'=>e= .returned (.bool true)/\Mod (fun _=>False) w w':=by
 obtain ⟨a,cap,rfl,hcap⟩:∃a c,v= .slice a l.length c/\l.length<=c:=by obtain ⟨-,a,c,h,h2, -⟩:=hv.rd;exact ⟨a,c,h,h2⟩
 obtain ⟨aa,acap,rfl,hacap⟩:∃a c,av= .slice a A.length c/\A.length<=c:=by obtain ⟨-,a,c,h,h2, -⟩:=hA.rd;exact ⟨a,c,h,h2⟩
 obtain ⟨qa,qc,rfl,hqc⟩:∃a c,ev= .slice a q.length c/\q.length<=c:=by obtain ⟨-,a,c,h,h2, -⟩:=hq;exact ⟨a,c,h,h2⟩
 have hAl':(A.length:Int)<=9223372036854775807:=by omega
 have hacap':(A.length:Int)<=acap:=by omega
 have hes':(es.size:Int)<=9223372036854775807:=by omega
 have hql':(q.length:Int)<=9223372036854775807:=by omega
 have hqc':(q.length:Int)<=qc:=by omega
 obtain ⟨wb,hwb,hmwb,hgwb,hzwb⟩:=e8 w (.cells #[.string es,.slice qa q.length qc] 46);have hob:=(⟨fun k h=>absurd rfl h,fun k h=>absurd rfl h,hl0⟩:Owd w w (fun _=>0));have hvb:Mov (fun t=>t=50) w (fun _=>0) _ _:=Mov.alloc hob (.cells #[.string es,.slice qa q.length qc] 46) 50 (.inr (.inr rfl));rw [hwb] at hvb;obtain ⟨owb,howb⟩:∃o:Ow,r7 (fun _=>0) w.heap.size 50=o:=⟨_,rfl⟩;rw [howb] at hvb;have hob1:=hvb.owd hob (by omega);have hoe:owb w.heap.size=50:=by rw [<-howb];exact D4 _ _ _
 have hz50:∀k,owb k=0\/owb k=50:=fun k=>by
  rw [<-howb];unfold r7;split
  ·exact .inr rfl
  exact .inl rfl
 have hft:=b1W w wb (hl0.mod0 hmwb);obtain ⟨Hl0,Hft,Hv,Hin,HA,HAi,Hll,Hq,Hqn,Hwb,Hmwb,Hgwb⟩:=zh12 hl0 hft hv hin hA hAi hll hq hqn hwb hmwb hgwb;obtain ⟨Hvb,Hob,Hob1,Howb,Hoe,Hz50⟩:=zh6 hvb hob hob1 howb hoe hz50;clear hl0 hft hv hin hA hAi hll hq hqn hwb hmwb hgwb hvb hob hob1 howb hoe hz50 hcap hacap hqc hzwb
 go_enter Tryz.func8,Tryz.ntmps8
 go_wp2_with (first|(rw [show w.alloc _=wb from Hwb.out])|fail)
 refine Hft.out.mono ?_;rintro e w1 ⟨rfl,hm1⟩;have hmb1:=hm1;have hm1:=Hmwb.out.trans hm1 (fun _ _ h=>h);have hli:=a6o w1 (.slice a l.length cap) l (Hv.out.mod hm1) Hll.out (fun r hr=>⟨(Hin.out r hr).who,(Hin.out r hr).name,(Hin.out r hr).sc,fun c hc=>((Hin.out r hr).cs c hc).1⟩);obtain ⟨Hm1,Hmb1,Hli⟩:=zh3 hm1 hmb1 hli;clear hm1 hmb1 hli Hft
 go_wp2_with fail
 refine Hli.out.mono ?_;rintro e w2 ⟨b,rfl,hb,hm2⟩;have hmb2:=Hmb1.out.trans hm2 (fun _ _ h=>h);have hm02:=Hm1.out.trans hm2 (fun _ _ h=>h);have hla:=a60 w2 (.slice aa A.length acap) A (HA.out.mod hm02) hAl HAi.out;obtain ⟨Hm02,Hmb2,Hb,Hla⟩:=zh4 hm02 hmb2 hb hla;clear hm02 hmb2 hb hla hm2
 cases b with
 |false=>
  go_wp2
  go_ret;exact ⟨rfl,Hm02.out⟩
 |true=>
 obtain ⟨hl80,hli2⟩:=Hb.out rfl;have Hli2:=zh hli2;clear hli2
 go_wp2_with fail
 refine Hla.out.mono ?_;rintro e w3 ⟨b2,rfl,hb2,hm3⟩;have hmb3:=Hmb2.out.trans hm3 (fun _ _ h=>h);have hm03:=Hm02.out.trans hm3 (fun _ _ h=>h);have hG3:=hmb3.heap Hgwb.out (fun h=>h);have g0:w3.cell? ⟨w.heap.size,0,none⟩=some (.string es):=d6 hG3 rfl;have g1:w3.cell? ⟨w.heap.size,1,none⟩=some (.slice qa q.length qc):=d6 hG3 rfl;obtain ⟨Hm03,Hmb3,Hb2,HG3⟩:=zh4 hm03 hmb3 hb2 hG3;clear hm03 hmb3 hb2 hG3 hm3
 cases b2 with
 |false=>
  go_wp2
  go_ret;exact ⟨rfl,Hm03.out⟩
 |true=>
 obtain ⟨hA30,hAlt⟩:=Hb2.out rfl;by_cases hs60:es.size<=60;rotate_left
 ·have hs60':(60:Int)<es.size:=by omega
  have HAlt:=zh hAlt;clear hAlt
  go_wp2
  go_ret;exact ⟨rfl,Hm03.out⟩
 have hs60':(es.size:Int)<=60:=by omega
 have hs60n:¬(60:Int)<es.size:=by omega
 by_cases hq20:q.length<=20;rotate_left
 ·have hq20':(20:Int)<q.length:=by omega
  have HAlt:=zh hAlt;clear hAlt
  go_wp2
  go_ret;exact ⟨rfl,Hm03.out⟩
 have hq20':(q.length:Int)<=20:=by omega
 have hq20n:¬(20:Int)<q.length:=by omega
 have hfi:∀r∈l,r.pru.fine:=fun r hr=>(Hin.out r hr).fine (Hli2.out r hr);have hv3:=Mov.of Hob1.out Hmb3.out (fun _=>False);have ho3:=hv3.owd Hob1.out (fun h=>h);have hlr:=a7R w w3 owb ho3 Hm03.out Hz50.out (.slice a l.length cap) l Hv.out hl80 hfi;obtain ⟨HAlt,Hfi,Hlr,Hv3,Ho3⟩:=zh5 hAlt hfi hlr hv3 ho3;clear hAlt hfi hlr hv3 ho3
 go_wp2_with fail
 refine Hlr.out.mono ?_;rintro e w4 ⟨ow4,gb,gl,vm,M,rfl,ho4,hb4, -, -,hm04,hk4⟩;obtain ⟨P,hP⟩:∃P,T0 (l.map Ru.pru)=P:=⟨_,rfl⟩;have hPl:=a1q (l.map Ru.pru);rw [hP] at hPl hb4;have hG4:=hk4.md.heap HG3.out (fun h=>h);have hoe4:ow4 w.heap.size=50:=by rw [hk4.at_ _ (zz7 HG3.out).1];exact Hoe.out
 have hev:=b4F w4 es (.slice qa q.length qc) q (Hq.out.mod hm04 (fun _ _ h=>h)) (by omega) (by omega) (a9V q fun a ha=>by have:=(Hqn.out a ha).1;show a.canon.name.size<=_;have e:a.canon.name=a.name:=rfl;rw [e];omega);obtain ⟨s7,hs7⟩:∃s7,a7d es=s7:=⟨_,rfl⟩;obtain ⟨l7,hl7⟩:∃l7,a2o q=l7:=⟨_,rfl⟩;have hok7:=b48 es q;rw [hs7,hl7] at hev hok7;have g0:w4.cell? ⟨w.heap.size,0,none⟩=some (.string es):=d6 hG4 rfl;have g1:w4.cell? ⟨w.heap.size,1,none⟩=some (.slice qa q.length qc):=d6 hG4 rfl;obtain ⟨Ho4,Hb4,Hm04,Hk4,HP,HG4,Hoe4,Hev,Hs7,Hl7,Hok7⟩:=zh11 ho4 hb4 hm04 hk4 hP hG4 hoe4 hev hs7 hl7 hok7;clear ho4 hb4 hm04 hk4 hP hG4 hoe4 hev hs7 hl7 hok7
 go_wp2_with fail
 refine Hev.out.mono ?_;rintro e w5 ⟨v7,rfl,hv7,hv7b,hm5⟩;obtain ⟨sa,sc,rfl, -⟩:=hv7.shape;have hG5:=hm5.heap HG4.out (fun h=>h);clear g0 g1;obtain ⟨Hv7,Hv7b,Hm5⟩:=zh3 hv7 hv7b hm5;clear hv7 hv7b hm5;have Hg5:=zh hG5;clear hG5
 have hs2:∀(wy:World),Mod (fun k=>k=w.heap.size) w5 wy->Mov (fun t=>t=50) w4 ow4 wy ow4:=fun wy hm=>by
  have h1:=Mov.of Ho4.out Hm5.out (fun t=>t=50);have h2:=h1.owd Ho4.out (by omega);exact h1.trans (Mov.wrote h2 hm (fun k hk=>by have hk':k=w.heap.size:=hk;rw [hk'];exact Hoe4.out))
 have Hs2:=zh hs2;clear hs2
 go_wp2_with (first|((with_reducible refine r5 46 (.tmp 5) (.tmp 48) ?_);refine ⟨w.heap.size,0,rfl,_,_,Hg5.out,[.string s7,.slice sa l7.length sc],rfl,Nat.le_of_ble_eq_true rfl,by kernel_rfl,rfl, ?_⟩;intro w6 he6 hm6;have hG6:w6.heap[w.heap.size]? =some (.cells #[.string s7,.slice sa l7.length sc] 46 (0,0)):=he6▸setRow_heap w5 w.heap.size _ _ _ _ Hg5.out;have HG6:=Lib.hid hG6;have Hm6:=Lib.hid hm6;clear he6 hG6 hm6)|fail)
 have hsv:=Hs2.out w6 Hm6.out;have ho6:=hsv.owd Ho4.out (by omega);have hb6:=Hb4.out.mov Ho4.out hsv (by omega) (fun t e=>by omega);have hm06:=hsv.mod0 Ho4.out Hm04.out (by omega);have hc6:l9 w6 ow4 6 (.slice sa l7.length sc) l7.length (j7 l7):=⟨(Hv7.out.rd).mod Hm6.out (fun b hb e=>by have h1:=Hv7b.out b hb;have h3:b=w.heap.size:=e;have h4:=(zz7 HG4.out).1;omega),fun _ b hb=>Ho4.out.zero (Hv7b.out b hb)⟩;have ht6:TnI w w6 ow4 gb w.heap.size P ⟨P,fun _=>RS.zero⟩ 0 s7 (.slice sa l7.length sc) l7:=⟨ho6,hb6,rfl,fun t _=>B7.zero,fun t _=>Z3.zero,hm06,⟨hc6,Hoe4.out,HG6.out⟩⟩;obtain ⟨Hsv,Ho6,Hb6,Hm06,Hc6,Ht6⟩:=zh6 hsv ho6 hb6 hm06 hc6 ht6;clear hsv ho6 hb6 hm06 hc6 ht6
 go_loopw [51] (fun i wr=>b5w w gb w.heap.size P s7 (.slice sa l7.length sc) l7 A.length i wr) (fun i _=>A.length - (intOf i).toNat)
 case atStart=>exact ⟨0,_,_,rfl,Nat.zero_le _,Ht6.out⟩
 case round=>
  obtain ⟨j,owr,B,rfl,hj,hI⟩:=hrel;by_cases hlt:j<A.length
  ·have hlt':(j:Int)<A.length:=by omega
   obtain ⟨x,hxj⟩:∃x,A[j]? =some x:=⟨_,zz5 hlt⟩;have hxm:=zz8 hxj;have hvr:=HA.out.mod hI.md;have hmr:=hI.md;obtain ⟨ga,offa,rfl,hf⟩:=b0X hvr hxj;have hxi:=HAi.out x hxm;have hxl:=HAlt.out x hxm;obtain ⟨hfs,hfl,hft⟩:=hxi.fits hxl;obtain ⟨wz,hwz,hmwz,hgwz,hzwz⟩:=e8 wr (.cells x.cells.toArray 84);have hwz':wr.alloc (.cells #[.int .i64 x.kind,.int .i64 x.tenant,.int .i64 x.frm,.string x.who,.string x.sc,.slice x.a x.cs.length x.c] 84)=wz:=hwz;have hmz:=hmr.trans hmwz (fun _ _ h=>h);have hcs:=fun wx (hx:Mod (fun _=>False) wz wx)=>((hvr.mod hmwz).cs x hxm).mod hx (fun _ _ h=>h);have hri:=D6 wz x.sc (.slice x.a x.cs.length x.c) x.cs (hcs wz (Mod.refl _ _)) (by omega) (by omega) (fun c hc=>by have:=(hft c hc).name;omega);obtain ⟨R,hR⟩:∃R,j5 x.sc x.cs=R:=⟨_,rfl⟩;rw [hR] at hri;have z4:wz.cell? ⟨wr.heap.size,4,none⟩=some (.string x.sc):=d6 hgwz rfl;have z5:wz.cell? ⟨wr.heap.size,5,none⟩=some (.slice x.a x.cs.length x.c):=d6 hgwz rfl;obtain ⟨Hmr,Hxj,Hxm,Hvr,Hf,Hxi,Hxl,Hft,Hwz,Hwz',Hmwz,Hgwz⟩:=zh12 hmr hxj hxm hvr hf hxi hxl hft hwz hwz' hmwz hgwz;obtain ⟨Hmz,Hcs,Hri,HR,HI⟩:=zh5 hmz hcs hri hR hI;clear hmr hxj hxm hvr hf hxi hxl hft hwz hwz' hmwz hgwz hmz hcs hri hR hI hzwz hfs hfl
   go_wp2_with (first|((with_reducible refine d9 84 (.tmp 54) ?_);refine ⟨ga,offa+j*6,rfl,[.int .i64 x.kind,.int .i64 x.tenant,.int .i64 x.frm,.string x.who,.string x.sc,.slice x.a x.cs.length x.c],Hf.out,by kernel_rfl,by kernel_rfl, ?_⟩)|((with_reducible refine d8 84 (.tmp 10) (.tmp 55) ?_);refine ⟨rfl,[.int .i64 x.kind,.int .i64 x.tenant,.int .i64 x.frm,.string x.who,.string x.sc,.slice x.a x.cs.length x.c],rfl,rfl,by kernel_rfl,rfl, ?_⟩;rw [Hwz'.out])|fail)
   refine Hri.out.mono ?_;rintro e w7 ⟨rfl,hm7⟩
   cases R with
   |false=>
    have hs7:=Mov.of HI.out.ow (Hmwz.out.trans hm7 (fun _ _ h=>h)) (fun _=>False);have hI7:=HI.out.mov hs7;obtain ⟨Hs7,HI7⟩:=zh2 hs7 hI7;clear hs7 hI7 hm7 z4 z5
    go_wp2_with fail
    go_roundw
    case rel=>exact ⟨j+1,owr,B,by go_num,hlt,HI7.out.next⟩
    case measure=>simp [intOf];omega
   |true=>
    have hs7:=Mov.of HI.out.ow (Hmwz.out.trans hm7 (fun _ _ h=>h)) (fun _=>False);have hI7:=HI.out.mov hs7;have hg7:=hm7.heap Hgwz.out (fun h=>h);obtain ⟨w8,hw8⟩:∃w8:World,w7.alloc (.cells #[.slice none 0 0,.slice none 0 0] 39)=w8:=⟨_,rfl⟩;obtain ⟨hA8,hs8⟩:=C2.new hI7.ow hI7.br hI7.L hI7.R hI7.md hw8;have hm8:Mod (fun _=>False) w7 w8:=hw8▸(Mod.refl (fun _=>False) w7).alloc _;have hE8:=hI7.e.mov hs8 (by omega) (by omega);have hc8:=Hcs.out w8 (hm7.trans hm8 (fun _ _ h=>h));have hg8:=hm8.heap hg7 (fun h=>h)
    have hz8:r7 owr w7.heap.size 40 wr.heap.size=0:=by
     rw [hs8.old _ (zz7 hg7).1];exact HI.out.ow.zero (Nat.le_refl _)
    have y0:w8.cell? ⟨wr.heap.size,0,none⟩=some (.int .i64 x.kind):=d6 hg8 rfl;have y1:w8.cell? ⟨wr.heap.size,1,none⟩=some (.int .i64 x.tenant):=d6 hg8 rfl;have y2:w8.cell? ⟨wr.heap.size,2,none⟩=some (.int .i64 x.frm):=d6 hg8 rfl;have y3:w8.cell? ⟨wr.heap.size,3,none⟩=some (.string x.who):=d6 hg8 rfl;have y4:w8.cell? ⟨wr.heap.size,4,none⟩=some (.string x.sc):=d6 hg8 rfl;have y5:w8.cell? ⟨wr.heap.size,5,none⟩=some (.slice x.a x.cs.length x.c):=d6 hg8 rfl;obtain ⟨owo,howo⟩:∃o:Ow,r7 owr w7.heap.size 40=o:=⟨_,rfl⟩;rw [howo] at hA8 hs8 hE8 hz8;have hBS:=hI7.S;obtain ⟨hfs,hfl, -⟩:=Hxi.out.fits Hxl.out;obtain ⟨kk,hkk,hkk4⟩:=b5i x.kind;obtain ⟨t,ht,ht4⟩:=b5i x.tenant;by_cases hk1:kk=1
    case' pos=>
     obtain ⟨u,hu,hu2⟩:=b5B x.frm;have hkb:((kk:Int)==1)=true:=by rw [hk1];rfl
     have hF:((1:Int)+u)=1\/((1:Int)+u)=2:=by omega
     have hwr:wrap64 ((1:Int)+u)=1+u:=a0o (by omega) (by omega);have hta:=hA8.take1 (by omega) t ht4 (1+(u:Int)) (b47 hF) hc8 HR.out Hft.out;have hB9:=hBS.take [1,2] t (1+(u:Int)) (x.sc,j2 x.cs) true;have hT9:=W5.take B t (1+(u:Int)) (x.sc,j2 x.cs) true;have hn9:=BS.takeS_len (hA8.go (by omega) t ht4) (hA8.low t ht4) (1+(u:Int)) (x.sc,j2 x.cs) true;obtain ⟨Hs7,HI7,Hg7,Hw8,HA8,Hs8,Hm8,HE8,Hc8,Hg8,Hz8,Howo⟩:=zh12 hs7 hI7 hg7 hw8 hA8 hs8 hm8 hE8 hc8 hg8 hz8 howo;obtain ⟨HBS,Hta,HF,HB9,HT9⟩:=zh5 hBS hta hF hB9 hT9;clear hs7 hI7 hg7 hw8 hA8 hs8 hm8 hE8 hc8 hg8 hz8 howo hBS hta hF hB9 hT9 hm7 z4 z5 hk1
     go_wp2_with (first|(rw [show w7.alloc _=w8 from Hw8.out])|fail)
     refine Hta.out.mono ?_;rintro e w9 ⟨rfl,ow9,hI9,hs9⟩;obtain ⟨B9,hBe⟩:∃B9,B.takeB [1,2] t (1+(u:Int)) (x.sc,j2 x.cs) true=B9:=⟨_,rfl⟩;obtain ⟨S9,hSe⟩:∃S9,B.takeS [1,2] t (1+(u:Int)) (x.sc,j2 x.cs) true=S9:=⟨_,rfl⟩;have hB9:=HB9.out;have hT9:=HT9.out;rw [hBe] at hI9 hB9;rw [hSe] at hI9 hT9 hn9;clear HB9 HT9 Hta
    case' neg=>
     have hkb:((kk:Int)==1)=false:=by rw [beq_eq_false_iff_ne];omega
     have hsu:=hA8.sub hPl (by omega) t ht4 x.who x.sc x.a x.c x.cs hc8 hfs hfl Hft.out;have hB9:=hBS.sub hI7.R 0 [1,2] ht4 x.who x.sc Hft.out;have hT9:=W5.sub B 0 t x.who j x.sc x.cs;have hn9:=BS.subS_len (hA8.go (by omega) t ht4) (hA8.low t ht4) 0 x.who j x.sc x.cs;obtain ⟨Hs7,HI7,Hg7,Hw8,HA8,Hs8,Hm8,HE8,Hc8,Hg8,Hz8,Howo⟩:=zh12 hs7 hI7 hg7 hw8 hA8 hs8 hm8 hE8 hc8 hg8 hz8 howo;obtain ⟨HBS,Hsu,HB9,HT9⟩:=zh4 hBS hsu hB9 hT9;clear hs7 hI7 hg7 hw8 hA8 hs8 hm8 hE8 hc8 hg8 hz8 howo hBS hsu hB9 hT9 hm7 z4 z5 hk1
     go_wp2_with (first|(rw [show w7.alloc _=w8 from Hw8.out])|fail)
     refine Hsu.out.mono ?_;rintro e w9 ⟨rfl,ow9,hI9,hs9⟩;obtain ⟨B9,hBe⟩:∃B9,B.subB 0 [1,2] t x.who j x.sc x.cs=B9:=⟨_,rfl⟩;obtain ⟨S9,hSe⟩:∃S9,B.subS 0 [1,2] t x.who j x.sc x.cs=S9:=⟨_,rfl⟩;have hB9:=HB9.out;have hT9:=HT9.out;rw [hBe] at hI9 hB9;rw [hSe] at hI9 hT9 hn9;clear HB9 HT9 Hsu
    all_goals
     rw [List.nil_append] at hI9;have hE9:=HE8.out.mov hs9 (a7S t (.inl rfl) ht4) (a7S t (.inr rfl) ht4);have hg9:=hs9.md.heap Hg8.out (fun hf=>a7S t (.inl rfl) ht4 (by have hf':M1 2 t (fun t=>t=40) (owo wr.heap.size):=hf;rwa [Hz8.out] at hf'));have hz9:ow9 wr.heap.size=0:=by rw [hs9.old _ (zz7 Hg8.out).1];exact Hz8.out
     have hroom9:S9.length+([]:List Hn).length+10<=(j+1)*4000000+1000000:=a8B (by rw [List.length_nil];omega);have hpu:=hI9.pub hPl (by omega) hroom9 hB9 t ht4 x.who j s7 sa sc l7 hE9.el (by have:=Hok7.out.es;omega) (by have:=Hok7.out.len;omega) (fun a ha=>by have:=(Hok7.out.each a ha).1;omega);clear y0 y1 y2 y3 y4 y5;have y3:w9.cell? ⟨wr.heap.size,3,none⟩=some (.string x.who):=d6 hg9 rfl;have e0:w9.cell? ⟨w.heap.size,0,none⟩=some (.string s7):=d6 hE9.row rfl;have e1:w9.cell? ⟨w.heap.size,1,none⟩=some (.slice sa l7.length sc):=d6 hE9.row rfl;obtain ⟨HI9,HE9,Hg9,Hz9,Hpu,HB9,HT9,Hs9,HBe,HSe⟩:=zh10 hI9 hE9 hg9 hz9 hpu hB9 hT9 hs9 hBe hSe;clear hI9 hE9 hg9 hz9 hpu hB9 hT9 hs9 hBe hSe
     go_wp2_with fail
     refine Hpu.out.mono ?_;rintro e w10 ⟨rfl,ow10,S1,H1,hev1,hI10,hs10⟩;have hE10:=HE9.out.mov hs10 (by omega) (by omega);have hn1:=hev1.n;have hno:=hI10.br;obtain ⟨aC,hbC⟩:=hno;obtain ⟨lC,la,lc, -,hlC, -,cC, -, -⟩:=hbC.logs;have hlC2:lC.length=P.length:=by rw [<-hI10.L];exact hlC
     have hle:∀wx,Mod (fun _=>False) w10 wx->Calls Tryz.prog 15 #[.pointer (some ⟨gb,0,none⟩)] wx fun e w'=>e= .returned (.int .i64 P.length)/\wx=w':=fun wx hm=>by
      have:=a08 wx gb la lC.length lc (hm.cell cC (fun h=>h));rw [hlC2] at this;exact this
     have hroom:(S9++S1).length+(([]:List Hn)++H1).length+10<=(j+1)*4000000+1000000:=a8B (by rw [zz4,List.nil_append];omega);have hFS:∀wx,Mod (fun _=>False) w10 wx->PbS w10 w.heap.size s7 sa l7.length sc wx:=fun wx hm=>⟨hm.cell (d6 hE10.row rfl) (fun h=>h),hm.cell (d6 hE10.row rfl) (fun h=>h),hm⟩
     have hro:∀wx,Mod (fun _=>False) w10 wx->Calls Tryz.prog 26 #[.pointer (some ⟨gb,0,none⟩),.iface 43 (.pointer (some ⟨w7.heap.size,0,none⟩)),.int .i64 1,.int .i64 t,.agg #[.int .i64 3,.int .i64 0,.int .i64 0,.int .i64 0,.string ⟨#[]⟩,.int .i64 0,.string ⟨#[]⟩,.slice none 0 0,.string ⟨#[]⟩,.int .i64 0,
      .string ⟨#[]⟩,.slice none 0 0,.string s7,.slice sa l7.length sc,.int .i64 P.length,.string ⟨#[113]⟩,.int .i64 0]] wx fun e w'=>(∃b,e= .returned (.bool b))/\∃ow' S2 H2,R6 t S2 H2/\C2 w w' ow' gb w7.heap.size P B9 (j+1) ((S9++S1)++S2) (([]++H1)++H2)/\TnE w' ow' w.heap.size s7 (.slice sa l7.length sc) l7:=fun wx hm=>by
      have hs:=Mov.of hI10.ow hm (fun _=>False);refine ((hI10.mod hm).ev1 hPl (by omega) hroom HB9.out t ht4 1 P.length 0 ⟨#[113]⟩ s7 sa sc l7 (hE10.el.mov hs (fun h=>h) (by omega)) Hok7.out).mono ?_;rintro e w' ⟨he,ow',S2,H2,h1,h2,h3⟩;exact ⟨⟨_,he⟩,ow',S2,H2,h1,h2,(hE10.mov hs (fun h=>h) (fun h=>h)).mov h3 (by omega) (by omega)⟩
     clear y3 e0 e1;obtain ⟨Hev1,HI10,Hs10,HE10,HbC,HlC,HlC2,Hle,HFS,Hro⟩:=zh10 hev1 hI10 hs10 hE10 hbC hlC hlC2 hle hFS hro;clear hev1 hI10 hs10 hE10 hbC hlC hlC2 hle hFS hro cC
     go_wp2_with fail
     have hS:PbS w10 w.heap.size s7 sa l7.length sc w10.drew:=HFS.out _ ((Mod.refl _ w10).drew);refine g8 [.rd 0,.rd 1,.rd 2,.rd 3,.rd 4,.rd 5,.rd 6,.go 7,.go 8,.go 9] [0,1,2,3,4,5,6,7,8] (PbS w10 w.heap.size s7 sa l7.length sc) (by kernel_rfl) (by kernel_rfl) (fun _ _ d _ _ h=>(by cases d<;>exact h)) ?_
     iterate 7 (
      refine l5 rfl ?_ (fun _=>hS) ?_ (fun w0 h0=> ?_) (fun K hK=> ?_)
      ·(try simp only [zz1]);(try simp only [zz2]);(try simp only [zz3]);go_simp;done
      rotate_left
      ·(try simp only [zz1]);(try simp only [zz2]);(try simp only [zz3])
       first
        |(obtain ⟨f0,f1, -⟩:=h0 rfl;clear h0;go_simp;with_reducible rfl)
        |(clear h0;go_simp;with_reducible rfl)
      (try simp only [zz1]);(try simp only [zz2]);(try simp only [zz3])
      go_simp;refine hK _ ?_;clear hK K)
     refine g7 (g9 rfl ?_ (fun K hK=> ?_))
     ·(try simp only [zz1]);(try simp only [zz2]);(try simp only [zz3]);go_simp;done
     go_wp2_with fail
     refine ((Hle.out w10.drew ((Mod.refl _ w10).drew))).mono ?_;rintro e w6 ⟨rfl,rfl⟩;refine hK _ _ (fun _ h=>h) ?_;clear hK K;refine g7 (g9 rfl ?_ (fun K hK=> ?_))
     ·(try simp only [zz1]);(try simp only [zz2]);(try simp only [zz3]);go_simp;done
     (try simp only [zz1]);(try simp only [zz2]);(try simp only [zz3]);go_simp;refine hK _ _ (fun _ h=>h) ?_;clear hK K;refine g7 (g9 rfl ?_ (fun K hK=> ?_))
     ·(try simp only [zz1]);(try simp only [zz2]);(try simp only [zz3]);go_simp;done
     go_wp2_with fail
     refine (Hro.out w10.drew ((Mod.refl _ w10).drew)).mono ?_;rintro e w11 ⟨⟨b11,rfl⟩,ow11,S2,H2,hev2,hI11,hE11⟩;refine hK _ _ (fun h=>absurd h (by decide)) ?_;clear hK K hS;refine j8 ?_;have hSx:W5 t ((S9++S1)++S2):=(HT9.out.app Hev1.out.s).app hev2.s
     have hHx:∀x∈([]++H1)++H2,x.1=(t:Int)/\x.2.2.kind=1:=fun x hx=>by
      rcases zz14 hx with hx|hx
      ·exact Hev1.out.h x hx
      exact hev2.h x hx
     have hlx:=hI11.cnt;obtain ⟨v1,v2,S',H',hot,hSd,hHd⟩:=hI11.O;rw [<-hSd] at hSx;rw [<-hHd] at hHx
     have hSl:S'.length<=4900000:=by
      have h1:=congrArg List.length hSd;rw [zz10,zz4,zz4] at h1;have h2:=Hev1.out.n;have h3:=hev2.n;omega
     have hHl:H'.length<=4900000:=by
      have h1:=congrArg List.length hHd;rw [zz10,zz4,List.nil_append] at h1;have h2:=Hev1.out.n;have h3:=hev2.n;omega
     clear hlx;obtain ⟨a1,c1,rfl,hc1⟩:∃a c,v1= .slice a S'.length c/\S'.length<=c:=by obtain ⟨-,a,c,h,h2, -⟩:=hot.s1.rd;exact ⟨a,c,h,h2⟩
     obtain ⟨a2,c2,rfl,hc2⟩:∃a c,v2= .slice a H'.length c/\H'.length<=c:=by obtain ⟨-,a,c,h,h2, -⟩:=hot.s2.rd;exact ⟨a,c,h,h2⟩
     have hc1':(S'.length:Int)<=c1:=by omega
     have hc2':(H'.length:Int)<=c2:=by omega
     have hTn:=TnI.of hI11 HB9.out hE11;have hro2:=hot.row;have o0:w11.cell? ⟨w7.heap.size,0,none⟩=some (.slice a1 S'.length c1):=d6 hro2 rfl;have o1:w11.cell? ⟨w7.heap.size,1,none⟩=some (.slice a2 H'.length c2):=d6 hro2 rfl;have hm11:Mod (fun _=>False) w11 w11:=Mod.refl _ _;obtain ⟨Hev2,HI11,HE11,HSx,HHx,Hot,HSd,HHd,HTn,Hro2,Hm11⟩:=zh11 hev2 hI11 hE11 hSx hHx hot hSd hHd hTn hro2 hm11;clear hev2 hI11 hE11 hSx hHx hot hSd hHd hTn hro2 hm11 hc1 hc2
     go_wp2_with fail
     go_loopw [108] (fun i wr=>∃k:Nat,i= .int .i64 k/\k<=S'.length/\Mod (fun _=>False) w11 wr) (fun i _=>S'.length - (intOf i).toNat)
     case atStart=>exact ⟨0,rfl,Nat.zero_le _,Hm11.out⟩
     case round=>
      obtain ⟨k,rfl,hk,hmk⟩:=hrel;obtain ⟨wq,rfl⟩:∃x:World,x=wr:=⟨_,rfl⟩;by_cases hlk:k<S'.length
      ·have hlk':(k:Int)<S'.length:=by omega
       obtain ⟨x,hxk⟩:∃x,S'[k]? =some x:=⟨_,zz5 hlk⟩;obtain ⟨gs,offs,rfl,hcf⟩:=a0x (f:=Sv.cells) (sz:=19) (fun _=>rfl) (Hot.out.s1.rd.mod hmk (fun _ _ h=>h)) hxk;obtain ⟨hto,hten⟩:=HSx.out x.sd (List.mem_map_of_mem (zz8 hxk));obtain ⟨td,ten,m⟩:=x;obtain rfl:ten=(t:Int):=hten;have hto:td=1\/td=2:=hto;obtain ⟨wv,hwv,hmwv,hgwv,hzwv⟩:=e8 wq (.cells (Sv.cells (td,(t:Int),m)).toArray 50);have hwv':wq.alloc (.cells #[.int .i64 td,.int .i64 t,.int .i64 m.m.kind,.int .i64 m.m.at_,.int .i64 m.m.rule.kind,.int .i64 m.m.rule.tenant,.string m.m.rule.who,.int .i64 m.m.rule.broker,.string m.m.rule.sc,.slice m.ra m.m.rule.cs.length m.rc,.string m.m.rule.name,.int .i64 m.m.rule.at_,.string m.m.fs,.slice m.fa m.m.fl.length m.fc,.string m.m.es,.slice m.ea m.m.el.length m.ec,.int .i64 m.m.ver,.string m.m.org,.int .i64 m.m.ser] 50)=wv:=hwv;have hmv:=hmk.trans hmwv (fun _ _ h=>h);have y0:wv.cell? ⟨wq.heap.size,0,none⟩=some (.int .i64 td):=d6 hgwv rfl;have y1:wv.cell? ⟨wq.heap.size,1,none⟩=some (.int .i64 t):=d6 hgwv rfl;obtain ⟨Hmk,Hxk,Hcf,Hwv,Hwv',Hmwv,Hgwv,Hmv⟩:=zh8 hmk hxk hcf hwv hwv' hmwv hgwv hmv;clear hmk hxk hcf hwv hwv' hmwv hgwv hmv hzwv;rcases hto with rfl|rfl
       ·go_wp2_with (first|((with_reducible refine d9 50 (.tmp 110) ?_);refine ⟨gs,offs+k*19,rfl,[.int .i64 1,.int .i64 t,.int .i64 m.m.kind,.int .i64 m.m.at_,.int .i64 m.m.rule.kind,.int .i64 m.m.rule.tenant,.string m.m.rule.who,.int .i64 m.m.rule.broker,.string m.m.rule.sc,.slice m.ra m.m.rule.cs.length m.rc,.string m.m.rule.name,.int .i64 m.m.rule.at_,.string m.m.fs,.slice m.fa m.m.fl.length m.fc,.string m.m.es,.slice m.ea m.m.el.length m.ec,.int .i64 m.m.ver,.string m.m.org,.int .i64 m.m.ser],Hcf.out,by kernel_rfl,by kernel_rfl, ?_⟩)|((with_reducible refine d8 50 (.tmp 14) (.tmp 111) ?_);refine ⟨rfl,[.int .i64 1,.int .i64 t,.int .i64 m.m.kind,.int .i64 m.m.at_,.int .i64 m.m.rule.kind,.int .i64 m.m.rule.tenant,.string m.m.rule.who,.int .i64 m.m.rule.broker,.string m.m.rule.sc,.slice m.ra m.m.rule.cs.length m.rc,.string m.m.rule.name,.int .i64 m.m.rule.at_,.string m.m.fs,.slice m.fa m.m.fl.length m.fc,.string m.m.es,.slice m.ea m.m.el.length m.ec,.int .i64 m.m.ver,.string m.m.org,.int .i64 m.m.ser],rfl,rfl,by kernel_rfl,rfl, ?_⟩;rw [Hwv'.out])|fail)
        go_roundw
        case rel=>exact ⟨k+1,by go_num,hlk,Hmv.out⟩
        case measure=>simp [intOf];omega
       go_wp2_with (first|((with_reducible refine d9 50 (.tmp 110) ?_);refine ⟨gs,offs+k*19,rfl,[.int .i64 2,.int .i64 t,.int .i64 m.m.kind,.int .i64 m.m.at_,.int .i64 m.m.rule.kind,.int .i64 m.m.rule.tenant,.string m.m.rule.who,.int .i64 m.m.rule.broker,.string m.m.rule.sc,.slice m.ra m.m.rule.cs.length m.rc,.string m.m.rule.name,.int .i64 m.m.rule.at_,.string m.m.fs,.slice m.fa m.m.fl.length m.fc,.string m.m.es,.slice m.ea m.m.el.length m.ec,.int .i64 m.m.ver,.string m.m.org,.int .i64 m.m.ser],Hcf.out,by kernel_rfl,by kernel_rfl, ?_⟩)|((with_reducible refine d8 50 (.tmp 14) (.tmp 111) ?_);refine ⟨rfl,[.int .i64 2,.int .i64 t,.int .i64 m.m.kind,.int .i64 m.m.at_,.int .i64 m.m.rule.kind,.int .i64 m.m.rule.tenant,.string m.m.rule.who,.int .i64 m.m.rule.broker,.string m.m.rule.sc,.slice m.ra m.m.rule.cs.length m.rc,.string m.m.rule.name,.int .i64 m.m.rule.at_,.string m.m.fs,.slice m.fa m.m.fl.length m.fc,.string m.m.es,.slice m.ea m.m.el.length m.ec,.int .i64 m.m.ver,.string m.m.org,.int .i64 m.m.ser],rfl,rfl,by kernel_rfl,rfl, ?_⟩;rw [Hwv'.out])|fail)
       go_roundw
       case rel=>exact ⟨k+1,by go_num,hlk,Hmv.out⟩
       case measure=>simp [intOf];omega
      obtain rfl:k=S'.length:=by omega
      have p1:wq.cell? ⟨w7.heap.size,1,none⟩=some (.slice a2 H'.length c2):=hmk.cell (d6 Hro2.out rfl) (fun h=>h);clear o0 o1;have hm12:Mod (fun _=>False) wq wq:=Mod.refl _ _;obtain ⟨Hmk,Hm12⟩:=zh2 hmk hm12;clear hmk hm12
      go_wp2_with fail
      go_loopw [130] (fun i wr=>∃k:Nat,i= .int .i64 k/\k<=H'.length/\Mod (fun _=>False) wq wr) (fun i _=>H'.length - (intOf i).toNat)
      case atStart=>exact ⟨0,rfl,Nat.zero_le _,Hm12.out⟩
      case round=>
       obtain ⟨k,rfl,hk,hmk2⟩:=hrel;have hmk3:=Hmk.out.trans hmk2 (fun _ _ h=>h);by_cases hlk:k<H'.length
       ·have hlk':(k:Int)<H'.length:=by omega
        obtain ⟨x,hxk⟩:∃x,H'[k]? =some x:=⟨_,zz5 hlk⟩;obtain ⟨gs,offs,rfl,hcf⟩:=a0x (f:=Go.Proofs.YtaenebdppkjhoaaGreatDoor.Hv.cells) (sz:=11) (fun _=>rfl) (Hot.out.s2.rd.mod hmk3 (fun _ _ h=>h)) hxk;obtain ⟨hten,hkd⟩:=HHx.out x.hn (List.mem_map_of_mem (zz8 hxk));obtain ⟨ten,who,m⟩:=x;obtain rfl:ten=(t:Int):=hten;have hkd:m.t.kind=1:=hkd;obtain ⟨wv,hwv,hmwv,hgwv,hzwv⟩:=e8 wr (.cells (Go.Proofs.YtaenebdppkjhoaaGreatDoor.Hv.cells ((t:Int),who,m)).toArray 114);have hwv':wr.alloc (.cells #[.int .i64 t,.string who,.int .i64 m.t.kind,.int .i64 m.t.op,.int .i64 m.t.err,.int .i64 m.t.sub,.int .i64 m.t.ser,.int .i64 m.t.ver,.string m.t.org,.string m.t.es,.slice m.ea m.t.el.length m.ec] 114)=wv:=hwv;have hmv:=hmk2.trans hmwv (fun _ _ h=>h);have y0:wv.cell? ⟨wr.heap.size,0,none⟩=some (.int .i64 t):=d6 hgwv rfl;have y2:wv.cell? ⟨wr.heap.size,2,none⟩=some (.int .i64 m.t.kind):=d6 hgwv rfl;rw [hkd] at y2;obtain ⟨Hmk2,Hmk3,Hxk,Hcf,Hwv,Hwv',Hmwv,Hgwv,Hmv,Hkd⟩:=zh10 hmk2 hmk3 hxk hcf hwv hwv' hmwv hgwv hmv hkd;clear hmk2 hmk3 hxk hcf hwv hwv' hmwv hgwv hmv hkd hzwv
        go_wp2_with (first|((with_reducible refine d9 114 (.tmp 132) ?_);refine ⟨gs,offs+k*11,rfl,[.int .i64 t,.string who,.int .i64 m.t.kind,.int .i64 m.t.op,.int .i64 m.t.err,.int .i64 m.t.sub,.int .i64 m.t.ser,.int .i64 m.t.ver,.string m.t.org,.string m.t.es,.slice m.ea m.t.el.length m.ec],Hcf.out,by kernel_rfl,by kernel_rfl, ?_⟩)|((with_reducible refine d8 114 (.tmp 16) (.tmp 133) ?_);refine ⟨rfl,[.int .i64 t,.string who,.int .i64 m.t.kind,.int .i64 m.t.op,.int .i64 m.t.err,.int .i64 m.t.sub,.int .i64 m.t.ser,.int .i64 m.t.ver,.string m.t.org,.string m.t.es,.slice m.ea m.t.el.length m.ec],rfl,rfl,by kernel_rfl,rfl, ?_⟩;rw [Hwv'.out])|fail)
        go_roundw
        case rel=>exact ⟨k+1,by go_num,hlk,Hmv.out⟩
        case measure=>simp [intOf];omega
       obtain rfl:k=H'.length:=by omega
       have hTnE:=HTn.out.mov (Mov.of HI11.out.ow hmk3 (fun _=>False));obtain ⟨HTnE,Hmk2,Hmk3⟩:=zh3 hTnE hmk2 hmk3;clear hTnE hmk2 hmk3
       go_wp2_with fail
       go_roundw
       case rel=>exact ⟨j+1,ow11,B9,by go_num,hlt,HTnE.out⟩
       case measure=>simp [intOf];omega
  obtain rfl:j=A.length:=by omega
  have hmE:=hI.md;obtain ⟨HI,HmE⟩:=zh2 hI hmE;clear hI hmE
  go_wp2
  go_ret;exact ⟨rfl,HmE.out⟩
end
end Go.Proofs.YtaenebdppkjhoaaGreatDoor
