/- Lemmas. -/
import Derived.Test.YtebhabpahfmodaaGreatDoorZh45
set_option maxHeartbeats 40000000
set_option maxRecDepth 20000
namespace Go.Proofs.YtebhabpahfmodaaGreatDoor
open Go.RowKit
def b6e {w0:World} {q:Nat} (O:B6 w0 q) (w:World) (ow:Ow) (c g:Nat) (id:Int) (near:List Int) (B:BS) (t:Nat) (s:O.σ) (frm:Int) (m:Mg) (e:Ending) (w':World):Prop:=
 e= .returned (.bool (decide (m.ver<=B.L.length)))/\∃ow',Bro w' ow' c g id near B/\O.inv w' ow' (if m.ver<=B.L.length then O.sends (O.shows s (B.rouH t m)) (K6 (B.R t).M near t frm m) else s)/\Mov O.tg w ow w' ow'
theorem b44 (w0 w:World) (ow:Ow) (hw:Owd w0 w ow) (c g:Nat) (id:Int) (near:List Int) (B:BS) (h:Bro w ow c g id near B) (hL:B.L.length<=40) (hnl:near.length<=1000) (hnw:∀n∈near,(Lit.int .i64 n).wf=true) (t:Nat) (ht:t<4)
 (q:Nat) (O:B6 w0 q) (s:O.σ) (hO:O.inv w ow s) (jy:∀t,O.tg t->t<c\/c+18<=t) (hto:∀n∈near,O.okTo n t) (hcnt:O.cnt s<=300000000000) (hT:(B.R t).T<=100000) (hN:(B.R t).N<=100000)
 (DT:∀k∈(B.R t).I.map Prod.fst,(Lit.int .i64 k).wf=true/\∃q,T7 (B.R t).S k=some q/\okQ q.2) (Tu:(B.R t).I.length<=1000) (frm:Int) (x:Mv) (hx:X3 w ow x) (he:a8M x.m.es x.m.el) (hk:x.m.kind≠0/\x.m.kind≠1/\x.m.kind≠2):
 Calls Tryz.prog 9 #[.pointer (some ⟨g,0,none⟩),.iface 51 (.pointer (some ⟨q,0,none⟩)),.int .i64 frm,.int .i64 t,.agg x.cells.toArray] w (b6e O w ow c g id near B t s frm x.m):=by
 by_cases hv:x.m.ver<=B.L.length
 case neg=>
  refine (a5f w ow c g id near B h _ frm t x hk zo hL).mono ?_;rintro e w' ⟨rfl,hm⟩;have hs:=Mov.of hw hm (fun _=>False);refine ⟨by rw [decide_eq_false hv],ow,h.mov hw hs (fun h=>h) (fun _ h=>h.elim), ?_,hs.mono (fun _ h=>h.elim)⟩;rw [if_neg hv];exact O.mov hO hw hs (fun h=>h) (fun _ h=>h.elim)
 obtain ⟨a,h⟩:=h;obtain ⟨L,aV,xI⟩:=h.log;have kN:L.length=B.L.length:=by rw [<-xI,zz10]
 obtain ⟨av,acap,kg, -⟩:∃a' cc,a.v= .slice a' L.length cc/\L.length<=cc:=by obtain ⟨-,a,cc,h,h2, -⟩:=aV.sl.sl.rd;exact ⟨a,cc,h,h2⟩
 rw [kg,kN] at aV;obtain ⟨k1,k2,k3⟩:=hk;obtain ⟨wa,aD,ah,ae,au⟩:=g8 w (.cells x.cells.toArray 33);have m0:wa.cell? ⟨w.heap.size,0,none⟩=some (.int .i64 x.m.kind):=d6 ae rfl;have m14:wa.cell? ⟨w.heap.size,14,none⟩=some (.int .i64 x.m.ver):=d6 ae rfl;have hgg:=ah.heap aV.row (fun h=>h);have hF:∀wx,Mod (fun _=>False) wa wx->wx.cell? ⟨w.heap.size,14,none⟩=some (.int .i64 x.m.ver)/\Mod (fun _=>False) wa wx:=fun wx hx=>⟨hx.cell m14 (fun h=>h),hx⟩;have hpl:∀wx,Mod (fun _=>False) wa wx->Calls Tryz.prog 31 #[.pointer (some ⟨g,0,none⟩)] wx fun e w'=>e= .returned (.int .i64 B.L.length)/\Mod (fun _=>False) wa w':=fun wx hx=>(a3r wx g av B.L.length acap (hx.cell (d6 hgg rfl) (fun h=>h))).mono fun e w' ⟨he,hm⟩=>⟨he,hm▸hx⟩;have hb:Bro w ow c g id near B:=⟨a,h⟩
 have hro:∀wx,Mod (fun _=>False) w wx->Calls Tryz.prog 32 #[.pointer (some ⟨g,0,none⟩),.iface 51 (.pointer (some ⟨q,0,none⟩)),.int .i64 t,.int .i64 frm,.agg x.cells.toArray] wx fun e w'=>e= .returned (.tuple #[])/\∃ow',Bro w' ow' c g id near B/\O.inv w' ow' (O.sends (O.shows s (B.rouH t x.m)) (K6 (B.R t).M near t frm x.m))/\Mov O.tg w ow w' ow':=fun wx hm=>by
  have hs:=Mov.of hw hm (fun _=>False);refine (b3j w0 wx ow (hs.owd hw (fun h=>h)) c g id near B (hb.mov hw hs (fun h=>h) (fun _ h=>h.elim)) hL hnl hnw t ht q O s (O.mov hO hw hs (fun h=>h) (fun _ h=>h.elim)) jy hto hcnt hT hN DT Tu frm x (hx.mov hs (fun h=>h)) he).mono ?_;rintro e w' ⟨he,ow',h1,h2,h3⟩;exact ⟨he,ow',h1,h2,(hs.mono (fun _ h=>h.elim)).trans h3⟩
 obtain ⟨Hw,HO,kw,vD,HIS,iY,Hb,Oq,Hx,He,H,iL⟩:=zh12 hw hO jy hto DT hnw hb hro hx he h aV;obtain ⟨aF,aB,aH,Rv,HF,Hpl⟩:=zh6 aD ah ae hgg hF hpl;clear hw hO jy hto DT hnw hb hro hx he h aV aD ah ae hgg hF hpl au xI kN kg m14
 go_enter Tryz.func9,Tryz.ntmps9
 go_wp2_with (rw [show w.alloc _=wa from aF.out])
 refine i7 zk zk ?_
 iterate 7 (first
  | (refine j6 ?_ (fun K hK=> ?_)
     ·first|(go_simp;done)|(go_simp;simp [undef];done)
     go_simp;refine hK _ ?_;clear hK K)
  | (refine j7 ?_ ?_ (fun w' hw'=> ?_) (fun K hK=> ?_)
     ·first|(go_simp;done)|(go_simp;simp [undef];done)
     rotate_left
     ·obtain ⟨f0, -⟩:=HF.out w' hw';go_simp;rfl
     go_simp;refine hK _ ?_;clear hK K)
  | (refine m9 ?_ ?_ ?_ ?_ (fun w' hw'=> ?_) ?_ (fun K hK=> ?_)
     ·first|(go_simp;done)|(go_simp;simp [undef];done)
     rotate_left 3
     ·obtain ⟨f0, -⟩:=HF.out w' hw';go_simp;constructor<;>rfl
     ·first|with_reducible exact Hpl.out
     go_simp;refine hK _ ?_;clear hK K))
 refine j8 (fun w' hw'=> ?_);have hmx:=aB.out.trans hw' zi;have hgx:=hw'.heap aH.out (fun h=>h);have hrx:=Oq.out w' hmx;obtain ⟨qB,LC⟩:=zh2 hmx hrx;clear hmx hrx hw'
 go_wp2_with ((with_reducible refine d8 33 (.tmp 9) ?_);refine ⟨w.heap.size,0,rfl,x.cells,e9.row hgx,zk,zk, ?_⟩)
 refine LC.out.mono ?_;rintro e w7 ⟨rfl,h7⟩;have H7:=zh h7;clear h7
 go_wp2
 go_ret;obtain ⟨ow7,h1,h2,h3⟩:=H7.out;refine ⟨by rw [decide_eq_true hv];rfl,ow7,h1, ?_,h3⟩;rw [if_pos hv];exact h2
theorem b3k (S:List Sd) (H:List Hn) (l:List Hn):List.foldl (fun (s:List Sd×List Hn) (x:Hn)=>(s.1,s.2++[(x.1,x.2.1,x.2.2)])) (S,H) l=(S,H++l):=by
 induction l generalizing H with
 |nil=>rw [List.foldl_nil,zz11]
 |cons x l ih=>
  rw [List.foldl_cons];have:=ih (H++[(x.1,x.2.1,x.2.2)]);rw [zz12] at this;exact this
theorem b45 {w0:World} {q c:Nat} {h2:2<=c} (S:List Sd) (H:List Hn) (l:List Hn):(O6 w0 q c h2).shows (S,H) l=(S,H++l):=b3k S H l
theorem b3l {w0:World} {q c:Nat} {h2:2<=c} {w':World} {ow':Ow} {p:Prop} [hd:Decidable p] {S SL:List Sd} {H HL:List Hn} (h:(O6 w0 q c h2).inv w' ow' (if p then (O6 w0 q c h2).sends ((O6 w0 q c h2).shows (S,H) HL) SL else (S,H))):
 OtI w' ow' c q (S++if p then SL else []) (H++if p then HL else []):=by
 have e:(O6 w0 q c h2).sends ((O6 w0 q c h2).shows (S,H) HL) SL=(S++SL,H++HL):=(congrArg (fun s=>(O6 w0 q c h2).sends s SL) (b45 S H HL)).trans (a1S S (H++HL) SL)
 cases hd with
 |isTrue hp=>
  have h1:(O6 w0 q c h2).inv w' ow' (S++SL,H++HL):=(congrArg (fun s=>(O6 w0 q c h2).inv w' ow' s) e).mp h;exact h1
 |isFalse hp=>
  show OtI w' ow' c q (S++[]) (H++[]);rw [zz11,zz11];exact h
theorem M3.new {w wr:World} {owr:Ow} {g:Nat} {P:List PRu} {B:BS} {j:Nat} (ho:Owd w wr owr) (hb:Bro wr owr 2 g 0 [1,2] B) (hL:B.L=P) (hR:a2w B j) (hmd:Mod (fun _=>False) w wr) {w5:World} (gN:wr.alloc (.cells #[.slice none 0 0,.slice none 0 0] 49)=w5):
 M3 w w5 (r9 owr wr.heap.size 40) g wr.heap.size P B j [] []/\Mov (fun t=>t=40) wr owr w5 (r9 owr wr.heap.size 40):=by
 obtain ⟨hO,hm⟩:=OtI.new (c:=40) ho;rw [gN] at hO hm;exact ⟨⟨hm.owd ho zo,hb.mov ho hm zo (fun t e=>zo),hL,hR,hO,by show 0+0<=_;omega,hmd.trans (gN▸(Mod.refl (fun _=>False) wr).alloc _) zi⟩,hm⟩
structure a2T (t:Nat) (S:List Sd) (H:List Hn):Prop where
 s:∀x∈S,(x.1=1\/x.1=2)/\x.2.1=(t:Int)
 h:∀x∈H,x.1=(t:Int)/\x.2.2.kind=1
 n:S.length+H.length<=10
theorem a2T.nil (t:Nat):a2T t [] []:=⟨fun x hx=>(by cases hx),fun x hx=>(by cases hx),Nat.zero_le _⟩
theorem a2T.rou {B:BS} {j:Nat} {t:Nat} (h:L0 (B.R t) j) (frm:Int) (m:Mg):a2T t (K6 (B.R t).M [1,2] t frm m) (B.rouH t m):=by
 refine ⟨fun x hx=> ?_,fun x hx=>b05 hx, ?_⟩
 ·obtain ⟨h1,h2⟩:=b04 hx;exact ⟨by simpa using h1,h2⟩
 have h1:=a5m (B.R t).M [1,2] t frm m
 have h2:(B.rouH t m).length<=8:=by
  refine Nat.le_trans (b03 _ _ _ _ _) ?_;refine Nat.le_trans (List.length_filter_le _ _) ?_;unfold W8;rw [List.length_mergeSort,zz10,h.is,zz10];exact h.s
 have h3:([1,2]:List Int).length=2:=rfl;omega
theorem M3.ev {w wr:World} {owr:Ow} {g q:Nat} {P:List PRu} {B:BS} {j:Nat} {S:List Sd} {H:List Hn} (h:M3 w wr owr g q P B j S H) (hP:P.length<=40) (hj:j<=100) (hroom:S.length+H.length+10<=j*4000000+1000000) (hs:a1W B) (t:Nat) (ht:t<4) (frm:Int) (x:Mv) (hx:X3 wr owr x) (hev:a8M x.m.es x.m.el) (hk:x.m.kind=3):
 Calls Tryz.prog 9 #[.pointer (some ⟨g,0,none⟩),.iface 51 (.pointer (some ⟨q,0,none⟩)),.int .i64 frm,.int .i64 t,.agg x.cells.toArray] wr fun e w'=>e= .returned (.bool (decide (x.m.ver<=P.length)))/\
  ∃ow' S' H',a2T t S' H'/\(S',H')=(if x.m.ver<=P.length then (K6 (B.R t).M [1,2] t frm x.m,B.rouH t x.m) else ([],[]))/\M3 w w' ow' g q P B j (S++S') (H++H')/\Mov (fun t=>t=40) wr owr w' ow':=by
 obtain ⟨hI1,hI2⟩:=(hs t ht).ask (h.R t ht) zo;have hT:=(h.R t ht).t;have hN:=(h.R t ht).n;refine (b44 w wr owr h.ow 2 g 0 [1,2] B h.br (by rw [h.L];exact hP) zd a54 t ht q (O6 w q 40 zo) (S,H) h.O (fun t ht=>by have h':t=40:=ht;omega) (fun _ _=>trivial) (by show S.length+H.length<=_;omega) zo zo hI1 hI2 frm x hx hev zo).mono ?_;rintro e w' ⟨he,ow',hb,hO,hm⟩;rw [h.L] at he hO;have XP:=b3l hO;obtain ⟨S',hS'⟩:∃S',(if x.m.ver<=P.length then K6 (B.R t).M [1,2] t frm x.m else [])=S':=⟨_,rfl⟩;obtain ⟨H',vM⟩:∃H',(if x.m.ver<=P.length then B.rouH t x.m else [])=H':=⟨_,rfl⟩;rw [hS',vM] at XP
 have hev:a2T t S' H':=by
  rw [<-hS',<-vM];split
  ·exact a2T.rou (h.R t ht) _ _
  exact a2T.nil t
 have heq:(S',H')=(if x.m.ver<=P.length then (K6 (B.R t).M [1,2] t frm x.m,B.rouH t x.m) else ([],[])):=by
  rw [<-hS',<-vM];split<;>rfl
 have h0:¬(fun t=>t=40) 0:=by intro h;cases h
 have hn:=hev.n;exact ⟨he,ow',S',H',hev,heq,⟨hm.owd h.ow h0,hb,h.L,h.R,XP,by rw [zz4,zz4];omega,hm.mod0 h.ow h.md h0⟩,hm⟩
structure V5 (w:World) (ow:Ow) (c:Nat) (T:TypeId) (k:Nat) (v:Value) (n:Nat) (xs:List Value):Prop where
 sl:j2 w T k v n xs
 vb:∀b,v.ownBlock=some b->ow b=c
theorem V5.nil (w:World) (ow:Ow) (c:Nat) (T:TypeId) (k:Nat):V5 w ow c T k (.slice none 0 0) 0 []:=⟨j2.nil _ _ _,fun b hb=>(by cases hb)⟩
theorem V5.mov {F:Nat->Prop} {w w':World} {ow ow':Ow} {c:Nat} {T:TypeId} {k:Nat} {v:Value} {n:Nat} {xs:List Value} (h:V5 w ow c T k v n xs) (s:Mov F w ow w' ow') (hc:¬F c):V5 w' ow' c T k v n xs:=
 ⟨h.sl.mod s.md (fun b hb hf=>hc (by have hf':F (ow b):=hf;rwa [h.vb b hb] at hf')),fun b hb=>by rw [s.old b (h.sl.lt b hb)];exact h.vb b hb⟩
theorem V5.app {w0 w wz w6:World} {ow:Ow} {c:Nat} {T:TypeId} {k:Nat} {v v':Value} {n m:Nat} {xs ys:List Value} (hw:Owd w0 w ow) (h:V5 w ow c T k v n xs) (hz:Mod (fun _=>False) w wz) (hA:q5 wz T k v m ys v' w6):∃ow',V5 w6 ow' c T k v' m ys/\Mov (fun t=>t=c) w ow w6 ow':=by
 obtain ⟨hA1,hA2,hA3⟩:=hA;have hzs:=hz.size;have hsz:=hA2.size;have hvb:∀b,v.ownBlock=some b->b<w.heap.size:=fun b hb=>h.sl.lt b hb;have fQ:Mod (l5 v) w w6:=(hz.mono (fun _ _ h=>h.elim)).trans hA2 (fun b hb h=>h);have fF:Mod (fun k=>ow k=c) w w6:=fQ.mono (fun k _ hk=>h.vb k hk)
 have fA:∀b,v'.ownBlock=some b->(v.ownBlock=some b/\b<w.heap.size)\/(wz.heap.size<=b/\b<w6.heap.size):=fun b hb=>by
  rcases hA3 with e|⟨k,e,hk⟩
  ·rw [e] at hb;exact .inl ⟨hb,hvb b hb⟩
  have:=hA1.lt b hb;rw [hb] at e;cases e
  exact .inr ⟨hk,zo⟩
 refine ⟨s6 w w6 ow (l5 v') (fun _=>True) c,⟨hA1,fun b hb=> ?_⟩,Mov.tag rfl fF⟩;rcases fA b hb with h1|h1
 ·rw [p9 h1.2];exact h.vb b h1.1
 exact G7 zo h1.2 hb
def M4 (l:List PRu):List PRu:=l.foldl M5 []
theorem a7s (l:List PRu) (p:PRu):M4 (l++[p])=M5 (M4 l) p:=by unfold M4;rw [List.foldl_append];rfl
theorem a1Y (l:List PRu):(M4 l).length<=40:=by
 unfold M4
 have h:∀(l:List PRu) (Q:List PRu),Q.length<=40->(l.foldl M5 Q).length<=40:=fun l=>by
  induction l with
  |nil=>exact fun Q h=>h
  |cons a l ih=>exact fun Q h=>ih _ (a76 h a)
 exact h l [] zd
theorem O4.app {w0 w wz w6:World} {ow:Ow} {d g:Nat} {v v':Value} {L:List Lr} {x:Lr} (_hw:Owd w0 w ow) (h2:2<=d) (hg:g<w.heap.size) (h:O4 w ow d g v L) (hz:Mod (fun _=>False) w wz) (hx:a3c w ow x)
 (hA:q5 wz 28 8 v (L.length+1) (rus (L.map Lr.ru)++x.ru.cells) v' w6):∃ow',O4 w6 ow' d g v' (L++[x])/\Mov (fun t=>t=d) w ow w6 ow':=by
 obtain ⟨hA1,hA2,hA3⟩:=hA;have hzs:=hz.size;have hsz:=hA2.size;have hvb:∀b,v.ownBlock=some b->b<w.heap.size:=fun b hb=>h.sl.lt b hb;have fQ:Mod (l5 v) w w6:=(hz.mono (fun _ _ h=>h.elim)).trans hA2 (fun b hb h=>h);have fF:Mod (fun k=>ow k=d) w w6:=fQ.mono (fun k _ hk=>(h.vb k hk).1)
 have fA:∀b,v'.ownBlock=some b->(v.ownBlock=some b/\b<w.heap.size)\/(wz.heap.size<=b/\b<w6.heap.size):=fun b hb=>by
  rcases hA3 with e|⟨k,e,hk⟩
  ·rw [e] at hb;exact .inl ⟨hb,hvb b hb⟩
  have:=hA1.lt b hb;rw [hb] at e;cases e
  exact .inr ⟨hk,zo⟩
 have hmv:Mov (fun t=>t=d) w ow w6 (s6 w w6 ow (l5 v') (fun _=>True) d):=Mov.tag rfl fF;refine ⟨_,⟨?_,fun b hb=>⟨?_, ?_⟩,fun q hq=> ?_⟩,hmv⟩
 ·rw [zz4,List.map_append,Z4];have e:rus ([x].map Lr.ru)=x.ru.cells:=by simp [rus]
  rw [e];exact hA1
 ·rcases fA b hb with h1|h1
  ·rw [p9 h1.2];exact (h.vb b h1.1).1
  exact G7 zo h1.2 hb
 ·rcases fA b hb with h1|h1
  ·exact (h.vb b h1.1).2
  omega
 rcases zz14 hq with hq|hq
 ·exact (h.each q hq).mov hmv zo
 rw [List.mem_singleton.1 hq];exact hx.mov hmv zo
theorem Owd.loc {w0 w:World} {ow:Ow} (h:Owd w0 w ow) (o:Obj):Mov (fun t=>t=1) w ow (w.alloc o) (r9 ow w.heap.size 1):=Mov.alloc h o 1 (.inr (.inl rfl))
section
open Go.RowKit Go.Sort
theorem b46 (w:World) (x y:Fr) (hx:j3 w 7 (.slice x.a x.cs.length x.c) x.cs.length (m5 x.cs)) (hy:j3 w 7 (.slice y.a y.cs.length y.c) y.cs.length (m5 y.cs)) (hxo:okQ x.fil) (CB:okQ y.fil) (cx:a4D x.cs) (cy:a4D y.cs):
 Calls Tryz.prog 41 #[.agg #[.string x.sc,.slice x.a x.cs.length x.c],.agg #[.string y.sc,.slice y.a y.cs.length y.c]] w fun e w'=>e= .returned (.bool (a8n x.fil y.fil))/\Mod (fun _=>False) w w':=by
 have h1:x.cs.length<=19:=hxo.1;have h2:y.cs.length<=19:=CB.1;have h3:x.sc.size<=1000000:=hxo.2.2;have h4:y.sc.size<=1000000:=CB.2.2
 have e:a8n x.fil y.fil=(y.cs.any Cnd.voidB||(x.cs.all (fun c=>y.cs.any fun d=>J2 d c)&&m8 y.sc x.sc)):=by
  show (y.cs.any Cnd.voidB||(x.cs.all (fun c=>y.cs.any fun d=>J6 d c)&&m8 y.sc x.sc))=_
  have e2:(x.cs.all fun c=>y.cs.any fun d=>J6 d c)=(x.cs.all fun c=>y.cs.any fun d=>J2 d c):=by
   rw [Bool.eq_iff_iff,List.all_eq_true,List.all_eq_true];refine forall_congr' fun c=>forall_congr' fun hc=> ?_;rw [List.any_eq_true,List.any_eq_true];refine exists_congr fun d=>and_congr_right fun hd=> ?_;rw [b1L (cy d hd).2 (cx c hc).2 (cy d hd).1.1 (cy d hd).1.2]
  rw [e2]
 rw [e];exact a72 w x.sc _ x.cs hx zo zo (fun c hc=>by have:=(hxo.2.1 c hc).v.text;omega) y.sc _ y.cs hy zo zo (fun c hc=>by have:=(CB.2.1 c hc).v.text;omega)
end
end Go.Proofs.YtebhabpahfmodaaGreatDoor
