/- Lemmas. -/
import Derived.Test.YtaenebdppkjhoaaGreatDoorZf48
namespace Go.Proofs.YtaenebdppkjhoaaGreatDoor
set_option maxRecDepth 20000
set_option maxHeartbeats 40000000
section
open Go.RowKit
def Mg.said (ver ser:Int) (who es:ByteArray) (el:List Att):Mg:=⟨3,0,PRu.zero,⟨#[]⟩,[],es,el,ver,who,ser⟩
def b4k {w0:World} {q:Nat} (O:s5 w0 q) (w:World) (ow:Ow) (c g:Nat) (id:Int) (near:List Int) (B:BS) (t:Nat) (s:O.σ) (frm:Int) (m:Mg) (e:Ending) (w':World):Prop:=
 e= .returned (.bool (decide (m.ver<=B.L.length)))/\∃ow',Bro w' ow' c g id near B/\O.inv w' ow' (if m.ver<=B.L.length then O.sends (O.shows s (B.rouH t m)) (L7 (B.R t).M near t frm m) else s)/\Mov O.tg w ow w' ow'
theorem b29 (w0 w:World) (ow:Ow) (hw:Owd w0 w ow) (c g:Nat) (id:Int) (near:List Int) (B:BS) (h:Bro w ow c g id near B) (hL:B.L.length<=40) (hnl:near.length<=1000) (hnw:∀n∈near,(Lit.int .i64 n).wf=true) (t:Nat) (ht:t<4)
 (q:Nat) (O:s5 w0 q) (s:O.σ) (hO:O.inv w ow s) (hOt:∀t,O.tg t->t<c\/c+18<=t) (hto:∀n∈near,O.okTo n t) (hcnt:O.cnt s<=300000000000) (hT:(B.R t).T<=100000) (hN:(B.R t).N<=100000)
 (hIS:∀k∈(B.R t).I.map Prod.fst,(Lit.int .i64 k).wf=true/\∃q,r9 (B.R t).S k=some q/\okQ q.2) (hIl:(B.R t).I.length<=1000) (frm:Int) (x:Mv) (hx:V6 w ow x) (he:b4h x.m.es x.m.el) (hk:x.m.kind≠0/\x.m.kind≠1/\x.m.kind≠2):
 Calls Tryz.prog 26 #[.pointer (some ⟨g,0,none⟩),.iface 43 (.pointer (some ⟨q,0,none⟩)),.int .i64 frm,.int .i64 t,.agg x.cells.toArray] w (b4k O w ow c g id near B t s frm x.m):=by
 by_cases hv:x.m.ver<=B.L.length
 case neg=>
  refine (a3N w ow c g id near B h _ frm t x hk (by omega) hL).mono ?_;rintro e w' ⟨rfl,hm⟩;have hs:=Mov.of hw hm (fun _=>False);refine ⟨by rw [decide_eq_false hv],ow,h.mov hw hs (fun h=>h) (fun _ h=>h.elim), ?_,hs.mono (fun _ h=>h.elim)⟩;rw [if_neg hv];exact O.mov hO hw hs (fun h=>h) (fun _ h=>h.elim)
 obtain ⟨a,h⟩:=h;obtain ⟨L,hlog,hLB⟩:=h.log;have hLl:L.length=B.L.length:=by rw [<-hLB,zz10]
 obtain ⟨av,acap,hav, -⟩:∃a' cc,a.v= .slice a' L.length cc/\L.length<=cc:=by obtain ⟨-,a,cc,h,h2, -⟩:=hlog.sl.sl.rd;exact ⟨a,cc,h,h2⟩
 rw [hav,hLl] at hlog;obtain ⟨k1,k2,k3⟩:=hk;obtain ⟨wa,hwa,hmwa,hgwa,hzwa⟩:=e9 w (.cells x.cells.toArray 48);have m0:wa.cell? ⟨w.heap.size,0,none⟩=some (.int .i64 x.m.kind):=d6 hgwa rfl;have m14:wa.cell? ⟨w.heap.size,14,none⟩=some (.int .i64 x.m.ver):=d6 hgwa rfl;have hgg:=hmwa.heap hlog.row (fun h=>h);have hF:∀wx,Mod (fun _=>False) wa wx->wx.cell? ⟨w.heap.size,14,none⟩=some (.int .i64 x.m.ver)/\Mod (fun _=>False) wa wx:=fun wx hx=>⟨hx.cell m14 (fun h=>h),hx⟩;have hpl:∀wx,Mod (fun _=>False) wa wx->Calls Tryz.prog 15 #[.pointer (some ⟨g,0,none⟩)] wx fun e w'=>e= .returned (.int .i64 B.L.length)/\Mod (fun _=>False) wa w':=fun wx hx=>(a18 wx g av B.L.length acap (hx.cell (d6 hgg rfl) (fun h=>h))).mono fun e w' ⟨he,hm⟩=>⟨he,hm▸hx⟩;have hb:Bro w ow c g id near B:=⟨a,h⟩
 have hro:∀wx,Mod (fun _=>False) w wx->Calls Tryz.prog 56 #[.pointer (some ⟨g,0,none⟩),.iface 43 (.pointer (some ⟨q,0,none⟩)),.int .i64 t,.int .i64 frm,.agg x.cells.toArray] wx fun e w'=>e= .returned (.tuple #[])/\∃ow',Bro w' ow' c g id near B/\O.inv w' ow' (O.sends (O.shows s (B.rouH t x.m)) (L7 (B.R t).M near t frm x.m))/\Mov O.tg w ow w' ow':=fun wx hm=>by
  have hs:=Mov.of hw hm (fun _=>False);refine (b1l w0 wx ow (hs.owd hw (fun h=>h)) c g id near B (hb.mov hw hs (fun h=>h) (fun _ h=>h.elim)) hL hnl hnw t ht q O s (O.mov hO hw hs (fun h=>h) (fun _ h=>h.elim)) hOt hto hcnt hT hN hIS hIl frm x (hx.mov hs (fun h=>h)) he).mono ?_;rintro e w' ⟨he,ow',h1,h2,h3⟩;exact ⟨he,ow',h1,h2,(hs.mono (fun _ h=>h.elim)).trans h3⟩
 obtain ⟨Hw,HO,HOt,Hto,HIS,Hnw,Hb,Hro,Hx,He,H,Hlog⟩:=zh12 hw hO hOt hto hIS hnw hb hro hx he h hlog;obtain ⟨Hwa,Hmwa,Hgwa,Hgg,HF,Hpl⟩:=zh6 hwa hmwa hgwa hgg hF hpl;clear hw hO hOt hto hIS hnw hb hro hx he h hlog hwa hmwa hgwa hgg hF hpl hzwa hLB hLl hav m14
 go_enter Tryz.func26,Tryz.ntmps26
 go_wp2_with (first|(rw [show w.alloc _=wa from Hwa.out])|fail)
 refine i8 (by kernel_rfl) (by kernel_rfl) ?_
 iterate 7 (first
  | (refine j8 ?_ (fun K hK=> ?_)
     ·first|(go_simp;done)|(go_simp;simp [undef];done)
     go_simp;refine hK _ ?_;clear hK K)
  | (refine m7 ?_ ?_ (fun w' hw'=> ?_) (fun K hK=> ?_)
     ·first|(go_simp;done)|(go_simp;simp [undef];done)
     rotate_left
     ·obtain ⟨f0, -⟩:=HF.out w' hw';go_simp;rfl
     go_simp;refine hK _ ?_;clear hK K)
  | (refine o9 ?_ ?_ ?_ ?_ (fun w' hw'=> ?_) ?_ (fun K hK=> ?_)
     ·first|(go_simp;done)|(go_simp;simp [undef];done)
     rotate_left 3
     ·obtain ⟨f0, -⟩:=HF.out w' hw';go_simp;constructor<;>rfl
     ·first|with_reducible exact Hpl.out
     go_simp;refine hK _ ?_;clear hK K))
 refine l5 (fun w' hw'=> ?_);have hmx:=Hmwa.out.trans hw' (fun _ _ h=>h);have hgx:=hw'.heap Hgwa.out (fun h=>h);have hrx:=Hro.out w' hmx;obtain ⟨Hmx,Hrx⟩:=zh2 hmx hrx;clear hmx hrx hw'
 go_wp2_with (first|((with_reducible refine d9 48 (.tmp 9) ?_);refine ⟨w.heap.size,0,rfl,x.cells,e7.row hgx,by kernel_rfl,by kernel_rfl, ?_⟩)|fail)
 refine Hrx.out.mono ?_;rintro e w7 ⟨rfl,h7⟩;have H7:=zh h7;clear h7
 go_wp2
 go_ret;obtain ⟨ow7,h1,h2,h3⟩:=H7.out;refine ⟨by rw [decide_eq_true hv];rfl,ow7,h1, ?_,h3⟩;rw [if_pos hv];exact h2
theorem b1m (S:List Sd) (H:List Hn) (l:List Hn):List.foldl (fun (s:List Sd×List Hn) (x:Hn)=>(s.1,s.2++[(x.1,x.2.1,x.2.2)])) (S,H) l=(S,H++l):=by
 induction l generalizing H with
 |nil=>rw [List.foldl_nil,zz11]
 |cons x l ih=>
  rw [List.foldl_cons];have:=ih (H++[(x.1,x.2.1,x.2.2)]);rw [zz12] at this;exact this
theorem b3a {w0:World} {q c:Nat} {h2:2<=c} (S:List Sd) (H:List Hn) (l:List Hn):(I7 w0 q c h2).shows (S,H) l=(S,H++l):=b1m S H l
theorem b1n {w0:World} {q c:Nat} {h2:2<=c} {w':World} {ow':Ow} {p:Prop} [hd:Decidable p] {S SL:List Sd} {H HL:List Hn} (h:(I7 w0 q c h2).inv w' ow' (if p then (I7 w0 q c h2).sends ((I7 w0 q c h2).shows (S,H) HL) SL else (S,H))):
 OtI w' ow' c q (S++if p then SL else []) (H++if p then HL else []):=by
 have e:(I7 w0 q c h2).sends ((I7 w0 q c h2).shows (S,H) HL) SL=(S++SL,H++HL):=(congrArg (fun s=>(I7 w0 q c h2).sends s SL) (b3a S H HL)).trans (Z1 S (H++HL) SL)
 cases hd with
 |isTrue hp=>
  have h1:(I7 w0 q c h2).inv w' ow' (S++SL,H++HL):=(congrArg (fun s=>(I7 w0 q c h2).inv w' ow' s) e).mp h;exact h1
 |isFalse hp=>
  show OtI w' ow' c q (S++[]) (H++[]);rw [zz11,zz11];exact h
theorem D2.new {w wr:World} {owr:Ow} {g:Nat} {P:List PRu} {B:BS} {j:Nat} (ho:Owd w wr owr) (hb:Bro wr owr 2 g 0 [1,2] B) (hL:B.L=P) (hR:V7 B j) (hmd:Mod (fun _=>False) w wr) {w5:World} (hw5:wr.alloc (.cells #[.slice none 0 0,.slice none 0 0] 39)=w5):
 D2 w w5 (p7 owr wr.heap.size 40) g wr.heap.size P B j [] []/\Mov (fun t=>t=40) wr owr w5 (p7 owr wr.heap.size 40):=by
 obtain ⟨hO,hm⟩:=OtI.new (c:=40) ho;rw [hw5] at hO hm;exact ⟨⟨hm.owd ho (by omega),hb.mov ho hm (by omega) (fun t e=>by omega),hL,hR,hO,by show 0+0<=_;omega,hmd.trans (hw5▸(Mod.refl (fun _=>False) wr).alloc _) (fun _ _ h=>h)⟩,hm⟩
theorem BS.endB_L (B:BS) (near:List Int) (t:Nat) (k:Int) (f:Fil):(B.endB near t k f).L=B.L:=by
 unfold BS.endB;split<;>rfl
theorem BS.endS_len {B:BS} {t:Nat} (hR:RS.Go (B.R t)) (hM:(B.R t).M.length<=(B.R t).N) (k:Int) (f:Fil):(B.endS [1,2] t k f).length<=4000000:=by
 unfold BS.endS;split
 ·exact Nat.zero_le _
 have h2:(((B.R t).unsub k).trem (-1) f).M.length<=(B.R t).M.length:=List.length_filter_le _ _;have h3:=hR.n;exact M7 (near:=[1,2]) hR.g.len (by omega) t
theorem D2.drop {w wr:World} {owr:Ow} {g q:Nat} {P:List PRu} {B:BS} {j:Nat} {S:List Sd} {H:List Hn} (h:D2 w wr owr g q P B j S H) (hj:j<=100) (hs:a0Y B) (t:Nat) (ht:t<4) (who:ByteArray) (k:Int) (hkw:(Lit.int .i64 k).wf=true):
 Calls Tryz.prog 36 #[.pointer (some ⟨g,0,none⟩),.iface 43 (.pointer (some ⟨q,0,none⟩)),.int .i64 t,.string who,.int .i64 k] wr fun e w'=>
  (e= .returned (.int .i64 3)/\B.dropE t who k=3/\D2 w w' owr g q P B j S H/\Mod (fun _=>False) wr w')\/
  (e= .returned (.int .i64 0)/\∃p ow',r9 (B.R t).S k=some p/\p.1=who/\D2 w w' ow' g q P (B.endB [1,2] t k p.2) (j+1) (S++B.endS [1,2] t k p.2) H/\Mov (L0 2 t (fun t=>t=40)) wr owr w' ow'):=by
 have hR:=h.go (by omega) t ht;have hc:=h.cnt;refine (b27 w wr owr h.ow 2 g 0 [1,2] B h.br (by decide) a2c t ht q (I7 w q 40 (by omega)) (S,H) h.O (fun t ht=>by have h':t=40:=ht;omega) (fun _ _=>trivial) (by show S.length+H.length<=_;omega) hR (fun p hp=>⟨(h.R t ht).sf p hp,(hs t ht).q p hp⟩) who k hkw).mono ?_;rintro e w' (⟨he,h1,hm⟩|⟨he,p,ow',h1,h2,hb,hO,hm⟩)
 ·exact .inl ⟨he,h1,h.mod hm,hm⟩
 refine .inr ⟨he,p,ow',h1,h2, ?_,hm⟩;rw [Z1] at hO
 have h0:¬L0 2 t (fun t=>t=40) 0:=fun h=>by
  rcases h with h|h
  ·omega
  ·cases h
 have hl:=BS.endS_len hR (h.low t ht) k p.2;exact ⟨hm.owd h.ow h0,hb,by rw [BS.endB_L];exact h.L,h.R.end_ t ht k p.2,hO,by rw [zz4];omega,hm.mod0 h.ow h.md h0⟩
structure a1L (t:Nat) (S:List Sd) (H:List Hn):Prop where
 s:∀x∈S,(x.1=1\/x.1=2)/\x.2.1=(t:Int)
 h:∀x∈H,x.1=(t:Int)/\x.2.2.kind=1
 n:S.length+H.length<=10
theorem a1L.nil (t:Nat):a1L t [] []:=⟨fun x hx=>(by cases hx),fun x hx=>(by cases hx),Nat.zero_le _⟩
theorem a1L.rou {B:BS} {j:Nat} {t:Nat} (h:A3 (B.R t) j) (frm:Int) (m:Mg):a1L t (L7 (B.R t).M [1,2] t frm m) (B.rouH t m):=by
 refine ⟨fun x hx=> ?_,fun x hx=>a83 hx, ?_⟩
 ·obtain ⟨h1,h2⟩:=a82 hx;exact ⟨by simpa using h1,h2⟩
 have h1:=a3U (B.R t).M [1,2] t frm m
 have h2:(B.rouH t m).length<=8:=by
  refine Nat.le_trans (a8Y _ _ _ _ _) ?_;refine Nat.le_trans (List.length_filter_le _ _) ?_;unfold W6;rw [List.length_mergeSort,zz10,h.is,zz10];exact h.s
 have h3:([1,2]:List Int).length=2:=rfl;omega
theorem D2.ev {w wr:World} {owr:Ow} {g q:Nat} {P:List PRu} {B:BS} {j:Nat} {S:List Sd} {H:List Hn} (h:D2 w wr owr g q P B j S H) (hP:P.length<=40) (hj:j<=100) (hroom:S.length+H.length+10<=j*4000000+1000000) (hs:a0Y B) (t:Nat) (ht:t<4) (frm:Int) (x:Mv) (hx:V6 wr owr x) (hev:b4h x.m.es x.m.el) (hk:x.m.kind=3):
 Calls Tryz.prog 26 #[.pointer (some ⟨g,0,none⟩),.iface 43 (.pointer (some ⟨q,0,none⟩)),.int .i64 frm,.int .i64 t,.agg x.cells.toArray] wr fun e w'=>e= .returned (.bool (decide (x.m.ver<=P.length)))/\
  ∃ow' S' H',a1L t S' H'/\(S',H')=(if x.m.ver<=P.length then (L7 (B.R t).M [1,2] t frm x.m,B.rouH t x.m) else ([],[]))/\D2 w w' ow' g q P B j (S++S') (H++H')/\Mov (fun t=>t=40) wr owr w' ow':=by
 obtain ⟨hI1,hI2⟩:=(hs t ht).ask (h.R t ht) (by omega);have hT:=(h.R t ht).t;have hN:=(h.R t ht).n;refine (b29 w wr owr h.ow 2 g 0 [1,2] B h.br (by rw [h.L];exact hP) (by decide) a2c t ht q (I7 w q 40 (by omega)) (S,H) h.O (fun t ht=>by have h':t=40:=ht;omega) (fun _ _=>trivial) (by show S.length+H.length<=_;omega) (by omega) (by omega) hI1 hI2 frm x hx hev (by omega)).mono ?_;rintro e w' ⟨he,ow',hb,hO,hm⟩;rw [h.L] at he hO;have hO':=b1n hO;obtain ⟨S',hS'⟩:∃S',(if x.m.ver<=P.length then L7 (B.R t).M [1,2] t frm x.m else [])=S':=⟨_,rfl⟩;obtain ⟨H',hH'⟩:∃H',(if x.m.ver<=P.length then B.rouH t x.m else [])=H':=⟨_,rfl⟩;rw [hS',hH'] at hO'
 have hev:a1L t S' H':=by
  rw [<-hS',<-hH'];split
  ·exact a1L.rou (h.R t ht) _ _
  exact a1L.nil t
 have heq:(S',H')=(if x.m.ver<=P.length then (L7 (B.R t).M [1,2] t frm x.m,B.rouH t x.m) else ([],[])):=by
  rw [<-hS',<-hH'];split<;>rfl
 have h0:¬(fun t=>t=40) 0:=by intro h;cases h
 have hn:=hev.n;exact ⟨he,ow',S',H',hev,heq,⟨hm.owd h.ow h0,hb,h.L,h.R,hO',by rw [zz4,zz4];omega,hm.mod0 h.ow h.md h0⟩,hm⟩
def Z7 (t:Nat) (S:List Sd):Prop:=∀x∈S,(x.1=1\/x.1=2)/\x.2.1=(t:Int)
theorem Z7.nil (t:Nat):Z7 t []:=fun x hx=>(by cases hx)
theorem Z7.app {t:Nat} {S S':List Sd} (h:Z7 t S) (h':Z7 t S'):Z7 t (S++S'):=fun x hx=>(zz14 hx).elim (h x) (h' x)
theorem Z7.refr (M:List (Int×Fil)) (t:Nat) (G:Int->List Fil):Z7 t (o7 M t [1,2] G):=fun x hx=>by
 obtain ⟨h1,h2⟩:=a81 hx;exact ⟨by simpa using h1,h2⟩
theorem Z7.take (B:BS) (t:Nat) (frm:Int) (f:Fil) (on:Bool):Z7 t (B.takeS [1,2] t frm f on):=by
 unfold BS.takeS;split
 ·exact Z7.refr _ _ _
 exact Z7.nil t
theorem Z7.sub (B:BS) (id:Int) (t:Nat) (who:ByteArray) (k:Int) (fs:ByteArray) (fl:List Cnd):Z7 t (B.subS id [1,2] t who k fs fl):=by
 unfold BS.subS;split
 ·exact Z7.refr _ _ _
 exact Z7.nil t
def ntK (t:Nat) (k:List UInt8):List UInt8:=UInt8.ofNat t::k
structure a0t (F:Lit->Option Value) (T:Int->List UInt8->Bool):Prop where
 at_:∀(t:Nat) k v,t<4->F (.string (ntK t k))=some v->v= .bool (T t k)
 out:∀kl v,F kl=some v->∃(t:Nat) (k:List UInt8),t<4/\kl= .string (ntK t k)
theorem a0t.nil (T:Int->List UInt8->Bool):a0t (fun _=>none) T:=⟨fun _ _ _ _ h=>(by cases h),fun _ _ h=>(by cases h)⟩
theorem b3b {t t':Nat} {k k':List UInt8} (ht:t<4) (ht':t'<4) (h:ntK t k=ntK t' k'):t=t'/\k=k':=by
 unfold ntK at h;obtain ⟨h1,h2⟩:=List.cons.inj h;refine ⟨?_,h2⟩;have h3:=congrArg UInt8.toNat h1;rw [UInt8.toNat_ofNat',UInt8.toNat_ofNat'] at h3;omega
theorem a0t.put {F:Lit->Option Value} {T:Int->List UInt8->Bool} (h:a0t F T) {t:Nat} (ht:t<4) (k:List UInt8) (b:Bool):a0t (Go.Proofs.YtaenebdppkjhoaaGreatDoor.u7 F (.string (ntK t k)) (.bool b)) (fun t' k'=>if t'=(t:Int)/\k'=k then b else T t' k'):=by
 refine ⟨fun t' k' v ht' hv=> ?_,fun kl v hv=> ?_⟩
 ·unfold Go.Proofs.YtaenebdppkjhoaaGreatDoor.u7 at hv;by_cases e:Lit.string (ntK t' k')=Lit.string (ntK t k)
  ·rw [if_pos e] at hv;obtain ⟨e1,e2⟩:=b3b ht' ht (by injection e);subst e1;subst e2;rw [if_pos ⟨rfl,rfl⟩];exact (Option.some.inj hv).symm
  rw [if_neg e] at hv
  rw [if_neg (fun hh=>e (by
   have h1:t'=t:=by omega
   rw [h1,hh.2]))]
  exact h.at_ t' k' v ht' hv
 unfold Go.Proofs.YtaenebdppkjhoaaGreatDoor.u7 at hv;by_cases e:kl=Lit.string (ntK t k)
 ·exact ⟨t,k,ht,e⟩
 rw [if_neg e] at hv;exact h.out kl v hv
theorem a7a {T:Int->List UInt8->Bool} {S:List Sd} {i:Nat} {x:Sd} (h:S[i]? =some x):B3 T (S.take (i+1))=if x.1=1 then (fun t k=>if t=x.2.1/\k=g7 (x.2.2.fs,x.2.2.fl) then decide (x.2.2.kind=1) else B3 T (S.take i) t k) else B3 T (S.take i):=by
 rw [List.take_add_one,h,Option.toList_some,a1t];rfl
theorem a0t.off {F:Lit->Option Value} {T:Int->List UInt8->Bool} (h:a0t F T) (hT:∀t k,T t k=false) {kl:Lit} {v:Value} (hv:F kl=some v):v= .bool false:=by
 obtain ⟨t,k,ht,rfl⟩:=h.out kl v hv;rw [h.at_ t k v ht hv,hT]
structure a0i (w:World) (ow:Ow) (c:Nat) (T:TypeId) (k:Nat) (v:Value) (n:Nat) (xs:List Value):Prop where
 sl:i7 w T k v n xs
 vb:∀b,v.ownBlock=some b->ow b=c
theorem a0i.nil (w:World) (ow:Ow) (c:Nat) (T:TypeId) (k:Nat):a0i w ow c T k (.slice none 0 0) 0 []:=⟨i7.nil _ _ _,fun b hb=>(by cases hb)⟩
theorem a0i.mov {F:Nat->Prop} {w w':World} {ow ow':Ow} {c:Nat} {T:TypeId} {k:Nat} {v:Value} {n:Nat} {xs:List Value} (h:a0i w ow c T k v n xs) (s:Mov F w ow w' ow') (hc:¬F c):a0i w' ow' c T k v n xs:=
 ⟨h.sl.mod s.md (fun b hb hf=>hc (by have hf':F (ow b):=hf;rwa [h.vb b hb] at hf')),fun b hb=>by rw [s.old b (h.sl.lt b hb)];exact h.vb b hb⟩
theorem a0i.app {w0 w wz w6:World} {ow:Ow} {c:Nat} {T:TypeId} {k:Nat} {v v':Value} {n m:Nat} {xs ys:List Value} (hw:Owd w0 w ow) (h:a0i w ow c T k v n xs) (hz:Mod (fun _=>False) w wz) (hA:x6 wz T k v m ys v' w6):∃ow',a0i w6 ow' c T k v' m ys/\Mov (fun t=>t=c) w ow w6 ow':=by
 obtain ⟨hA1,hA2,hA3⟩:=hA;have hzs:=hz.size;have hsz:=hA2.size;have hvb:∀b,v.ownBlock=some b->b<w.heap.size:=fun b hb=>h.sl.lt b hb;have hmA:Mod (j0 v) w w6:=(hz.mono (fun _ _ h=>h.elim)).trans hA2 (fun b hb h=>h);have hmF:Mod (fun k=>ow k=c) w w6:=hmA.mono (fun k _ hk=>h.vb k hk)
 have hv'b:∀b,v'.ownBlock=some b->(v.ownBlock=some b/\b<w.heap.size)\/(wz.heap.size<=b/\b<w6.heap.size):=fun b hb=>by
  rcases hA3 with e|⟨k,e,hk⟩
  ·rw [e] at hb;exact .inl ⟨hb,hvb b hb⟩
  have:=hA1.lt b hb;rw [hb] at e;cases e
  exact .inr ⟨hk,by omega⟩
 refine ⟨p8 w w6 ow (j0 v') (fun _=>True) c,⟨hA1,fun b hb=> ?_⟩,Mov.tag rfl hmF⟩;rcases hv'b b hb with h1|h1
 ·rw [o5 h1.2];exact h.vb b h1.1
 exact C3 (by omega) h1.2 hb
structure Q0 (w:World) (ow:Ow) (c:Nat) (kt:TypeId) (b n:Nat) (f:Lit->Option Value):Prop where
 m:j6 w kt b n f
 tag:ow b=c
theorem Q0.mov {F:Nat->Prop} {w w':World} {ow ow':Ow} {c:Nat} {kt:TypeId} {b n:Nat} {f:Lit->Option Value} (h:Q0 w ow c kt b n f) (s:Mov F w ow w' ow') (hc:¬F c):Q0 w' ow' c kt b n f:=
 ⟨h.m.mod s.md (fun hf=>hc (by have hf':F (ow b):=hf;rwa [h.tag] at hf')),by rw [s.old b h.m.lt];exact h.tag⟩
theorem Q0.put {w0 w w':World} {ow:Ow} {c:Nat} {kt:TypeId} {b n n':Nat} {f f':Lit->Option Value} (hw:Owd w0 w ow) (h:Q0 w ow c kt b n f) (hm:j6 w' kt b n' f') (hd:Mod (fun k=>k=b) w w'):Q0 w' ow c kt b n' f'/\Mov (fun t=>t=c) w ow w' ow:=
 ⟨⟨hm,h.tag⟩,Mov.wrote hw hd (fun k hk=>by rw [hk];exact h.tag)⟩
theorem Q0.made {w0 w:World} {ow:Ow} (c:Nat) (kt:TypeId) (hw:Owd w0 w ow):Q0 (w.alloc (.map #[] 0)) (p7 ow w.heap.size c) c kt w.heap.size 0 (fun _=>none)/\Mov (fun t=>t=c) w ow (w.alloc (.map #[] 0)) (p7 ow w.heap.size c):=
 ⟨⟨j6.made w kt,A5 _ _ _⟩,Mov.alloc hw _ c (.inr (.inr rfl))⟩
def NtS (t:Nat) (S:List Sd):Prop:=∀x∈S,x.2.1=(t:Int)/\okQ (x.2.2.fs,x.2.2.fl)
structure NtR (C bm B:Nat) (t:Nat) (k:Int) (fs:ByteArray) (fa:Option Addr) (n fc:Nat) (y:World):Prop where
 c0:y.cell? ⟨C,0,none⟩=some (.map (some bm))
 y1:y.cell? ⟨B,1,none⟩=some (.int .i64 t)
 y2:y.cell? ⟨B,2,none⟩=some (.int .i64 k)
 y12:y.cell? ⟨B,12,none⟩=some (.string fs)
 y13:y.cell? ⟨B,13,none⟩=some (.slice fa n fc)
theorem NtR.mod {C bm B:Nat} {t:Nat} {k:Int} {fs:ByteArray} {fa:Option Addr} {n fc:Nat} {y z:World} (h:NtR C bm B t k fs fa n fc y) (hm:Mod (fun _=>False) y z):NtR C bm B t k fs fa n fc z:=⟨hm.cell h.c0 (fun h=>h),hm.cell h.y1 (fun h=>h),hm.cell h.y2 (fun h=>h),hm.cell h.y12 (fun h=>h),hm.cell h.y13 (fun h=>h)⟩
def b3B (w:World) (bm n0:Nat) (T:Int->List UInt8->Bool) (S:List Sv) (i:Value) (wr:World):Prop:=
 ∃(j n:Nat) (F:Lit->Option Value),i= .int .i64 j/\j<=S.length/\n<=n0+j/\j6 wr 9 bm n F/\a0t F (B3 T ((S.map Sv.sd).take j))/\Mod (fun k=>k=bm) w wr
theorem a85 {t:Nat} (h:t<4):IntKind.u8.wrap (t:Int)=(t:Int):=by
 have h4:t=0\/t=1\/t=2\/t=3:=by omega
 rcases h4 with rfl|rfl|rfl|rfl<;>rfl
theorem b1o {t:Nat} (h:t<4):(UInt8.ofNat t).toNat=t:=by
 rw [UInt8.toNat_ofNat'];omega
theorem a2Y {t:Nat} (h:t<4) {y y':World} {b:Nat} (hg:y.heap[b]? =some (.cells #[.int .u8 t] 5 (0,0))) (hm:Mod (fun _=>False) y y'):(convert 97 9 (.slice (some ⟨b,0,none⟩) 1 1)).run Tryz.prog y'= .ok (.string (str [UInt8.ofNat t])) y':=by
 refine a2v (bs:=[UInt8.ofNat t]) rfl (fun j u hu=> ?_)
 obtain ⟨rfl,rfl⟩:j=0/\u=UInt8.ofNat t:=by
  cases j with
  |zero=>exact ⟨rfl,(Option.some.inj hu).symm⟩
  |succ j=>cases hu
 rw [b1o h];exact hm.cell (d6 hg rfl) (fun h=>h)
theorem b3c (w0 w:World) (hl:C6 w0 w) (C bm n0:Nat) (F:Lit->Option Value) (T:Int->List UInt8->Bool) (hC:w.heap[C]? =some (.cells #[.map (some bm)] 96 (0,0))) (hM:j6 w 9 bm n0 F) (hF:a0t F T) (hlo:w0.heap.size<=bm) (hCb:C≠bm)
 (S:List Sv) (v1 v2:Value) (hS1:j2 w 19 v1 S.length (svs S)) (hb1:∀b,v1.ownBlock=some b->b≠bm) (t:Nat) (ht:t<4) (hS:NtS t (S.map Sv.sd)) (hfl:∀x∈S,j2 w 7 (.slice x.2.2.fa x.2.2.m.fl.length x.2.2.fc) x.2.2.m.fl.length (k7 x.2.2.m.fl)) (hfb:∀x∈S,0<x.2.2.m.fl.length->∀b,(Value.slice x.2.2.fa x.2.2.m.fl.length x.2.2.fc).ownBlock=some b->b≠bm)
 (hSl:S.length<=100000000) (hn0:n0<=10000000000):
 Calls Tryz.prog 34 #[.agg #[v1,v2],.pointer (some ⟨C,0,none⟩)] w fun e w'=>e= .returned (.tuple #[])/\∃n F',j6 w' 9 bm n F'/\n<=n0+S.length/\a0t F' (B3 T (S.map Sv.sd))/\Mod (fun k=>k=bm) w w':=by
 obtain ⟨a1,c1,rfl,hc1⟩:∃a c,v1= .slice a S.length c/\S.length<=c:=by obtain ⟨-,a,c,h,h2, -⟩:=hS1;exact ⟨a,c,h,h2⟩
 have hc1':(S.length:Int)<=c1:=by omega
 have hbl:=hM.lt;obtain ⟨wa,hwa,hmwa,hgwa,hzwa⟩:=e9 w (.cells #[.slice a1 S.length c1,v2] 39);have hM1:=hM.mod hmwa (fun h=>h);have hm1:Mod (fun k=>k=bm) w wa:=hmwa.mono (fun _ _ h=>h.elim);have a0:wa.cell? ⟨w.heap.size,0,none⟩=some (.slice a1 S.length c1):=d6 hgwa rfl;obtain ⟨Hl,HC,HM,HF,HS1,Hb1,HS,Hfl,Hfb,Hwa,Hmwa,Hgwa⟩:=zh12 hl hC hM hF hS1 hb1 hS hfl hfb hwa hmwa hgwa;obtain ⟨HM1,Hm1⟩:=zh2 hM1 hm1;clear hl hC hM hF hS1 hb1 hS hfl hfb hwa hmwa hgwa hM1 hm1 hzwa hc1
 go_enter Tryz.func34,Tryz.ntmps34
 go_wp2_with (first|(rw [show w.alloc _=wa from Hwa.out])|fail)
 go_loopw [8] (fun i wr=>b3B w bm n0 T S i wr) (fun i _=>S.length - (intOf i).toNat)
 case atStart=>exact ⟨0,n0,F,rfl,Nat.zero_le _,Nat.le_refl _,HM1.out,HF.out,Hm1.out⟩
 case round=>
  obtain ⟨j,n,Fj,rfl,hj,hn,hMr,hFr,hmr⟩:=hrel;by_cases hlt:j<S.length
  ·have hlt':(j:Int)<S.length:=by omega
   obtain ⟨x,hxj⟩:∃x,S[j]? =some x:=⟨_,zz5 hlt⟩;have hxm:=zz8 hxj;have hsd:(S.map Sv.sd)[j]? =some x.sd:=by rw [List.getElem?_map,hxj];rfl
   have hrs:=HS1.out.mod hmr (fun b hb e=>Hb1.out b hb e);obtain ⟨gs,offs,rfl,hcf⟩:=a0e (f:=Sv.cells) (sz:=19) (fun _=>rfl) hrs hxj;have hfr:=(Hfl.out x hxm).mod1 hmr (fun h0 b hb e=>Hfb.out x hxm h0 b hb e);obtain ⟨hten,hokq⟩:=HS.out x.sd (List.mem_map_of_mem hxm);have hnt:=a7a (T:=T) hsd;obtain ⟨td,ten,m⟩:=x;obtain rfl:ten=(t:Int):=hten;have hokq:okQ (m.m.fs,m.m.fl):=hokq;obtain ⟨wz,hwz,hmwz,hgwz,hzwz⟩:=e9 wr (.cells (Sv.cells (td,(t:Int),m)).toArray 50);have hwz':wr.alloc (.cells #[.int .i64 td,.int .i64 t,.int .i64 m.m.kind,.int .i64 m.m.at_,.int .i64 m.m.rule.kind,.int .i64 m.m.rule.tenant,.string m.m.rule.who,.int .i64 m.m.rule.broker,.string m.m.rule.sc,.slice m.ra m.m.rule.cs.length m.rc,.string m.m.rule.name,.int .i64 m.m.rule.at_,.string m.m.fs,.slice m.fa m.m.fl.length m.fc,.string m.m.es,.slice m.ea m.m.el.length m.ec,.int .i64 m.m.ver,.string m.m.org,.int .i64 m.m.ser] 50)=wz:=hwz;have hmz:Mod (fun k=>k=bm) w wz:=hmr.trans (hmwz.mono (fun _ _ h=>h.elim)) (fun _ _ h=>h);have hMz:=hMr.mod hmwz (fun h=>h);have y0:wz.cell? ⟨wr.heap.size,0,none⟩=some (.int .i64 td):=d6 hgwz rfl;by_cases h1:td=1;rotate_left
   ·have hb1:(td==1)=false:=by simpa using h1
    have hF2:a0t Fj (B3 T ((S.map Sv.sd).take (j+1))):=by rw [hnt,if_neg (show¬(Sv.sd (td,(t:Int),m)).1=1 from h1)];exact hFr
    obtain ⟨Hn,HMr,HFr,Hmr,Hxj,Hxm,Hsd,Hrs,Hcf,Hfr,Hnt,Hokq⟩:=zh12 hn hMr hFr hmr hxj hxm hsd hrs hcf hfr hnt hokq;obtain ⟨Hwz,Hwz',Hmwz,Hgwz,Hmz,HMz,HF2⟩:=zh7 hwz hwz' hmwz hgwz hmz hMz hF2;clear hn hMr hFr hmr hxj hxm hsd hrs hcf hfr hnt hokq hwz hwz' hmwz hgwz hmz hMz hF2 hzwz h1
    go_wp2_with (first|((with_reducible refine d9 50 (.tmp 10) ?_);refine ⟨gs,offs+j*19,rfl,[.int .i64 td,.int .i64 t,.int .i64 m.m.kind,.int .i64 m.m.at_,.int .i64 m.m.rule.kind,.int .i64 m.m.rule.tenant,.string m.m.rule.who,.int .i64 m.m.rule.broker,.string m.m.rule.sc,.slice m.ra m.m.rule.cs.length m.rc,.string m.m.rule.name,.int .i64 m.m.rule.at_,.string m.m.fs,.slice m.fa m.m.fl.length m.fc,.string m.m.es,.slice m.ea m.m.el.length m.ec,.int .i64 m.m.ver,.string m.m.org,.int .i64 m.m.ser],Hcf.out,by kernel_rfl,by kernel_rfl, ?_⟩)|((with_reducible refine d8 50 (.tmp 4) (.tmp 11) ?_);refine ⟨rfl,[.int .i64 td,.int .i64 t,.int .i64 m.m.kind,.int .i64 m.m.at_,.int .i64 m.m.rule.kind,.int .i64 m.m.rule.tenant,.string m.m.rule.who,.int .i64 m.m.rule.broker,.string m.m.rule.sc,.slice m.ra m.m.rule.cs.length m.rc,.string m.m.rule.name,.int .i64 m.m.rule.at_,.string m.m.fs,.slice m.fa m.m.fl.length m.fc,.string m.m.es,.slice m.ea m.m.el.length m.ec,.int .i64 m.m.ver,.string m.m.org,.int .i64 m.m.ser],rfl,rfl,by kernel_rfl,rfl, ?_⟩;rw [Hwz'.out])|fail)
    go_roundw
    case rel=>exact ⟨j+1,n,Fj,by go_num,hlt,by have:=Hn.out;omega,HMz.out,HF2.out,Hmz.out⟩
    case measure=>simp [intOf];omega
   subst h1;have hR0:NtR C bm wr.heap.size t m.m.kind m.m.fs m.fa m.m.fl.length m.fc wz:=⟨hmz.cell (d6 HC.out rfl) (fun h=>hCb h),d6 hgwz rfl,d6 hgwz rfl,d6 hgwz rfl,d6 hgwz rfl⟩;obtain ⟨kb,hkb⟩:∃kb,(m.m.kind==1)=kb:=⟨_,rfl⟩;have hkb':decide (m.m.kind=1)=kb:=by rw [<-hkb];by_cases e:m.m.kind=1<;>simp [e]
   have hlz:C6 w0 wz:=Hl.out.mod hmz (fun k hk e=>by have h':k=bm:=e;omega)
   have hpr:∀wx,Mod (fun _=>False) wz wx->Calls Tryz.prog 35 #[.agg #[.string m.m.fs,.slice m.fa m.m.fl.length m.fc]] wx fun e w'=>e= .returned (.string (str (g7 (m.m.fs,m.m.fl))))/\Mod (fun _=>False) wx w':=fun wx hx=>
    M5 w0 wx (C6.mod hlz hx (fun _ _ h=>h.elim)) m.m.fs (.slice m.fa m.m.fl.length m.fc) m.m.fl (hfr.mod (hmwz.trans hx (fun _ _ h=>h)) (fun _ _ h=>h)) (by have h1:m.m.fl.length<=19:=hokq.1;omega) hokq.2.2 hokq.2.1
   have hpl:(g7 (m.m.fs,m.m.fl)).length<=1000000000:=by
    have h1:=C0 m.m.fs m.m.fl hokq.2.1;have h2:m.m.fl.length<=19:=hokq.1;have h3:m.m.fs.size<=1000000:=hokq.2.2;have h4:(g7 (m.m.fs,m.m.fl)).length=(o4 m.m.fs m.m.fl).length:=rfl;omega
   have hu8:=a85 ht;have hcat:¬9223372036854775807<(str [UInt8.ofNat t]).size+(str (g7 (m.m.fs,m.m.fl))).size:=by rw [G8,G8];have e:[UInt8.ofNat t].length=1:=rfl;omega
   have hkey:keyOf Tryz.prog 9 (.string (str [UInt8.ofNat t]++str (g7 (m.m.fs,m.m.fl))))=some (.string (ntK t (g7 (m.m.fs,m.m.fl)))):=by
    have h1:=WideMaps.keyOf_string_mk Tryz.underlying9 (s:=str [UInt8.ofNat t]++str (g7 (m.m.fs,m.m.fl))) (by rw [ByteArray.size_append,G8,G8];unfold maxLen;have e:[UInt8.ofNat t].length=1:=rfl;omega);rw [h1];congr 2
   have hput:∀wx,j6 wx 9 bm n Fj->∃w',(Instr.mapUpdate 96 (.map (some bm)) (.string (str [UInt8.ofNat t]++str (g7 (m.m.fs,m.m.fl)))) (.bool kb)).run Tryz.prog wx= .ok () w'/\j6 w' 9 bm (if (Fj (.string (ntK t (g7 (m.m.fs,m.m.fl))))).isSome then n else n+1) (Go.Proofs.YtaenebdppkjhoaaGreatDoor.u7 Fj (.string (ntK t (g7 (m.m.fs,m.m.fl)))) (.bool kb))/\Mod (fun k=>k=bm) wx w':=fun wx h=>h.put m6 Tryz.underlying96 (by unfold maxLen;omega) hkey _
   have hF2:a0t (Go.Proofs.YtaenebdppkjhoaaGreatDoor.u7 Fj (.string (ntK t (g7 (m.m.fs,m.m.fl)))) (.bool kb)) (B3 T ((S.map Sv.sd).take (j+1))):=by
    rw [hnt,if_pos (show (Sv.sd ((1:Int),(t:Int),m)).1=1 from rfl)];have h2:=hFr.put ht (g7 (m.m.fs,m.m.fl)) kb;rw [<-hkb'] at h2⊢;exact h2
   have hend:∀w4 w5,Mod (fun _=>False) wz w4->∀n',n'=(if (Fj (.string (ntK t (g7 (m.m.fs,m.m.fl))))).isSome then n else n+1)->j6 w5 9 bm n' (Go.Proofs.YtaenebdppkjhoaaGreatDoor.u7 Fj (.string (ntK t (g7 (m.m.fs,m.m.fl)))) (.bool kb))->Mod (fun k=>k=bm) w4 w5->b3B w bm n0 T S (.int .i64 ((j+1:Nat):Int)) w5:=fun w4 w5 h4 n' hn' h5 h6=>by
    refine ⟨j+1,n',_,rfl,hlt, ?_,h5,hF2,hmz.trans ((h4.mono (fun _ _ h=>h.elim)).trans h6 (fun _ _ h=>h)) (fun _ _ h=>h)⟩;rw [hn'];split<;>omega
   obtain ⟨Hn,HMr,HFr,Hmr,Hxj,Hxm,Hsd,Hrs,Hcf,Hfr,Hnt,Hokq⟩:=zh12 hn hMr hFr hmr hxj hxm hsd hrs hcf hfr hnt hokq;obtain ⟨Hwz,Hwz',Hmwz,Hgwz,Hmz,HMz,HR0,Hkb',Hlz,Hpr,Hpl,Hkey⟩:=zh12 hwz hwz' hmwz hgwz hmz hMz hR0 hkb' hlz hpr hpl hkey;obtain ⟨Hput,HF2,Hend⟩:=zh3 hput hF2 hend;clear hn hMr hFr hmr hxj hxm hsd hrs hcf hfr hnt hokq hwz hwz' hmwz hgwz hmz hMz hR0 hkb' hlz hpr hpl hkey hput hF2 hend hzwz
   go_wp2_with (first|((with_reducible refine d9 50 (.tmp 10) ?_);refine ⟨gs,offs+j*19,rfl,[.int .i64 1,.int .i64 t,.int .i64 m.m.kind,.int .i64 m.m.at_,.int .i64 m.m.rule.kind,.int .i64 m.m.rule.tenant,.string m.m.rule.who,.int .i64 m.m.rule.broker,.string m.m.rule.sc,.slice m.ra m.m.rule.cs.length m.rc,.string m.m.rule.name,.int .i64 m.m.rule.at_,.string m.m.fs,.slice m.fa m.m.fl.length m.fc,.string m.m.es,.slice m.ea m.m.el.length m.ec,.int .i64 m.m.ver,.string m.m.org,.int .i64 m.m.ser],Hcf.out,by kernel_rfl,by kernel_rfl, ?_⟩)|((with_reducible refine d8 50 (.tmp 4) (.tmp 11) ?_);refine ⟨rfl,[.int .i64 1,.int .i64 t,.int .i64 m.m.kind,.int .i64 m.m.at_,.int .i64 m.m.rule.kind,.int .i64 m.m.rule.tenant,.string m.m.rule.who,.int .i64 m.m.rule.broker,.string m.m.rule.sc,.slice m.ra m.m.rule.cs.length m.rc,.string m.m.rule.name,.int .i64 m.m.rule.at_,.string m.m.fs,.slice m.fa m.m.fl.length m.fc,.string m.m.es,.slice m.ea m.m.el.length m.ec,.int .i64 m.m.ver,.string m.m.org,.int .i64 m.m.ser],rfl,rfl,by kernel_rfl,rfl, ?_⟩;rw [Hwz'.out])|fail)
   refine X0 [0,1,2,3,4,5,6,7,8,9,10,11,12,13,14] (NtR C bm wr.heap.size t m.m.kind m.m.fs m.fa m.m.fl.length m.fc) (by kernel_rfl) (by kernel_rfl) (fun _ _ d _ _ h=>(by cases d<;>exact h)) ?_;have hS:NtR C bm wr.heap.size t m.m.kind m.m.fs m.fa m.m.fl.length m.fc wz.drew:=HR0.out.mod ((Mod.refl _ wz).drew);have hmy:Mod (fun _=>False) wz wz.drew:=(Mod.refl _ wz).drew;obtain ⟨wy,hwy⟩:∃q:World,wz.drew=q:=⟨_,rfl⟩;rw [hwy] at hS hmy⊢;clear hwy;refine N7 (i:=0) (by kernel_rfl) rfl ?_ (fun _=>hS) ?_ (fun w0 h0=> ?_) (fun K hK=> ?_)
   ·(try simp only [zz1]);(try simp only [zz2]);(try simp only [zz3]);go_simp;done
   rotate_left
   ·(try simp only [zz1]);(try simp only [zz2]);(try simp only [zz3])
    first
     |(obtain ⟨f0,f1,f2,f12,f13⟩:=h0 rfl;clear h0;go_simp;with_reducible rfl)
     |(clear h0;go_simp;with_reducible rfl)
   (try simp only [zz1]);(try simp only [zz2]);(try simp only [zz3]);go_simp;refine hK _ ?_;clear hK K;refine N7 (i:=1) (by kernel_rfl) rfl ?_ (fun _=>hS) ?_ (fun w0 h0=> ?_) (fun K hK=> ?_)
   ·(try simp only [zz1]);(try simp only [zz2]);(try simp only [zz3]);go_simp;done
   rotate_left
   ·(try simp only [zz1]);(try simp only [zz2]);(try simp only [zz3])
    first
     |(obtain ⟨f0,f1,f2,f12,f13⟩:=h0 rfl;clear h0;go_simp;with_reducible rfl)
     |(clear h0;go_simp;with_reducible rfl)
   (try simp only [zz1]);(try simp only [zz2]);(try simp only [zz3]);go_simp;refine hK _ ?_;clear hK K;refine N7 (i:=2) (by kernel_rfl) rfl ?_ (fun _=>hS) ?_ (fun w0 h0=> ?_) (fun K hK=> ?_)
   ·(try simp only [zz1]);(try simp only [zz2]);(try simp only [zz3]);go_simp;done
   rotate_left
   ·(try simp only [zz1]);(try simp only [zz2]);(try simp only [zz3])
    first
     |(obtain ⟨f0,f1,f2,f12,f13⟩:=h0 rfl;clear h0;go_simp;with_reducible rfl)
     |(clear h0;go_simp;with_reducible rfl)
   (try simp only [zz1]);(try simp only [zz2]);(try simp only [zz3]);go_simp;refine hK _ ?_;clear hK K;refine N7 (i:=3) (by kernel_rfl) rfl ?_ (fun _=>hS) ?_ (fun w0 h0=> ?_) (fun K hK=> ?_)
   ·(try simp only [zz1]);(try simp only [zz2]);(try simp only [zz3]);go_simp;done
   rotate_left
   ·(try simp only [zz1]);(try simp only [zz2]);(try simp only [zz3])
    first
     |(obtain ⟨f0,f1,f2,f12,f13⟩:=h0 rfl;clear h0;go_simp;with_reducible rfl)
     |(clear h0;go_simp;with_reducible rfl)
   (try simp only [zz1]);(try simp only [zz2]);(try simp only [zz3]);go_simp;refine hK _ ?_;clear hK K;refine N7 (i:=6) (by kernel_rfl) rfl ?_ (fun _=>hS) ?_ (fun w0 h0=> ?_) (fun K hK=> ?_)
   ·(try simp only [zz1]);(try simp only [zz2]);(try simp only [zz3]);go_simp;done
   rotate_left
   ·(try simp only [zz1]);(try simp only [zz2]);(try simp only [zz3])
    first
     |(obtain ⟨f0,f1,f2,f12,f13⟩:=h0 rfl;clear h0;go_simp;with_reducible rfl)
     |(clear h0;go_simp;with_reducible rfl)
   (try simp only [zz1]);(try simp only [zz2]);(try simp only [zz3]);go_simp;refine hK _ ?_;clear hK K;refine N7 (i:=7) (by kernel_rfl) rfl ?_ (fun _=>hS) ?_ (fun w0 h0=> ?_) (fun K hK=> ?_)
   ·(try simp only [zz1]);(try simp only [zz2]);(try simp only [zz3]);go_simp;done
   rotate_left
   ·(try simp only [zz1]);(try simp only [zz2]);(try simp only [zz3])
    first
     |(obtain ⟨f0,f1,f2,f12,f13⟩:=h0 rfl;clear h0;go_simp;with_reducible rfl)
     |(clear h0;go_simp;with_reducible rfl)
   (try simp only [zz1]);(try simp only [zz2]);(try simp only [zz3]);go_simp;refine hK _ ?_;clear hK K;refine N7 (i:=8) (by kernel_rfl) rfl ?_ (fun _=>hS) ?_ (fun w0 h0=> ?_) (fun K hK=> ?_)
   ·(try simp only [zz1]);(try simp only [zz2]);(try simp only [zz3]);go_simp;done
   rotate_left
   ·(try simp only [zz1]);(try simp only [zz2]);(try simp only [zz3])
    first
     |(obtain ⟨f0,f1,f2,f12,f13⟩:=h0 rfl;clear h0;go_simp;with_reducible rfl)
     |(clear h0;go_simp;with_reducible rfl)
   (try simp only [zz1]);(try simp only [zz2]);(try simp only [zz3]);go_simp;refine hK _ ?_;clear hK K;refine N7 (i:=11) (by kernel_rfl) rfl ?_ (fun _=>hS) ?_ (fun w0 h0=> ?_) (fun K hK=> ?_)
   ·(try simp only [zz1]);(try simp only [zz2]);(try simp only [zz3]);go_simp;done
   rotate_left
   ·(try simp only [zz1]);(try simp only [zz2]);(try simp only [zz3])
    first
     |(obtain ⟨f0,f1,f2,f12,f13⟩:=h0 rfl;clear h0;go_simp;with_reducible rfl)
     |(clear h0;go_simp;with_reducible rfl)
   (try simp only [zz1]);(try simp only [zz2]);(try simp only [zz3]);go_simp;refine hK _ ?_;clear hK K;refine N7 (i:=12) (by kernel_rfl) rfl ?_ (fun _=>hS) ?_ (fun w0 h0=> ?_) (fun K hK=> ?_)
   ·(try simp only [zz1]);(try simp only [zz2]);(try simp only [zz3]);go_simp;done
   rotate_left
   ·(try simp only [zz1]);(try simp only [zz2]);(try simp only [zz3])
    first
     |(obtain ⟨f0,f1,f2,f12,f13⟩:=h0 rfl;clear h0;go_simp;with_reducible rfl)
     |(clear h0;go_simp;with_reducible rfl)
   (try simp only [zz1]);(try simp only [zz2]);(try simp only [zz3]);go_simp;refine hK _ ?_;clear hK K;refine N7 (i:=13) (by kernel_rfl) rfl ?_ (fun _=>hS) ?_ (fun w0 h0=> ?_) (fun K hK=> ?_)
   ·(try simp only [zz1]);(try simp only [zz2]);(try simp only [zz3]);go_simp;done
   rotate_left
   ·(try simp only [zz1]);(try simp only [zz2]);(try simp only [zz3])
    first
     |(obtain ⟨f0,f1,f2,f12,f13⟩:=h0 rfl;clear h0;go_simp;with_reducible rfl)
     |(clear h0;go_simp;with_reducible rfl)
   (try simp only [zz1]);(try simp only [zz2]);(try simp only [zz3]);go_simp;refine hK _ ?_;clear hK K;refine N7 (i:=14) (by kernel_rfl) rfl ?_ (fun _=>hS) ?_ (fun w0 h0=> ?_) (fun K hK=> ?_)
   ·(try simp only [zz1]);(try simp only [zz2]);(try simp only [zz3]);go_simp;done
   rotate_left
   ·(try simp only [zz1]);(try simp only [zz2]);(try simp only [zz3])
    first
     |(obtain ⟨f0,f1,f2,f12,f13⟩:=h0 rfl;clear h0;go_simp;with_reducible rfl)
     |(clear h0;go_simp;with_reducible rfl)
   (try simp only [zz1]);(try simp only [zz2]);(try simp only [zz3]);go_simp;refine hK _ ?_;clear hK K;refine b0o (i:=4) (j:=9) (by kernel_rfl) (g8 rfl ?_ (fun K hK=> ?_)) (g8 rfl ?_ (fun K hK=> ?_))
   ·(try simp only [zz1]);(try simp only [zz2]);(try simp only [zz3]);go_simp;done
   ·(try simp only [zz1]);(try simp only [zz2]);(try simp only [zz3]);go_simp;obtain ⟨wb,hwb,hmwb,hgwb, -⟩:=e9 wy (.cells #[.int .u8 t] 5);rw [hwb];have hMwb:Mod (fun _=>False) wz wb:=hmy.trans hmwb (fun _ _ h=>h);refine hK _ _ (fun _ h=>h.mod hmwb) ?_;clear hK K hwb;refine b0o (i:=5) (j:=9) (by kernel_rfl) (g8 rfl ?_ (fun K hK=> ?_)) (g8 rfl ?_ (fun K hK=> ?_))
    ·(try simp only [zz1]);(try simp only [zz2]);(try simp only [zz3]);go_simp;done
    ·(try simp only [zz1]);(try simp only [zz2]);(try simp only [zz3]);have hcv:=a2Y (b:=wy.heap.size) ht hgwb (Mod.refl _ _);go_simp;refine hK _ _ (fun _ h=>h) ?_;clear hK K hcv;refine P8 (i:=9) (by kernel_rfl) (g8 rfl ?_ (fun K hK=> ?_))
     ·(try simp only [zz1]);(try simp only [zz2]);(try simp only [zz3]);go_simp;done
     go_wp2_with fail
     refine (Hpr.out wb hMwb).mono ?_;rintro e wc ⟨rfl,hmwc⟩;have hMwc:Mod (fun _=>False) wz wc:=hMwb.trans hmwc (fun _ _ h=>h);refine hK _ _ (fun _ h=>h.mod hmwc) ?_;clear hK K;refine P8 (i:=10) (by kernel_rfl) (g8 rfl ?_ (fun K hK=> ?_))
     ·(try simp only [zz1]);(try simp only [zz2]);(try simp only [zz3]);go_simp;done
     (try simp only [zz1]);(try simp only [zz2]);(try simp only [zz3]);go_simp;refine hK _ _ (fun _ h=>h) ?_;clear hK K;obtain ⟨w5,hrun,hm5,hd5⟩:=Hput.out wc (HMz.out.mod hMwc (fun h=>h));have hNx:=Hend.out wc w5 hMwc _ rfl hm5 hd5;refine P8 (i:=15) (by kernel_rfl) (g8 rfl ?_ (fun K hK=> ?_))
     ·(try simp only [zz1]);(try simp only [zz2]);(try simp only [zz3]);go_simp;done
     (try simp only [zz1]);(try simp only [zz2]);(try simp only [zz3]);refine F7 96 _ _ _ rfl hrun ?_;refine hK _ _ (fun h=>absurd h (by decide)) ?_;clear hK K;refine a6C (by kernel_rfl) ?_;have HNx:=zh hNx;clear hNx hm5 hd5 hrun
     go_wp2_with fail
     go_roundw
     case rel=>exact HNx.out
     case measure=>simp [intOf];omega
    ·(try simp only [zz1]);(try simp only [zz2]);(try simp only [zz3]);go_simp;done
    go_wp2_with fail
    refine (Hpr.out wb hMwb).mono ?_;rintro e wc ⟨rfl,hmwc⟩;have hMwc:Mod (fun _=>False) wz wc:=hMwb.trans hmwc (fun _ _ h=>h);refine hK _ _ (fun _ h=>h.mod hmwc) ?_;clear hK K;refine P8 (i:=5) (by kernel_rfl) (g8 rfl ?_ (fun K hK=> ?_))
    ·(try simp only [zz1]);(try simp only [zz2]);(try simp only [zz3]);go_simp;done
    (try simp only [zz1]);(try simp only [zz2]);(try simp only [zz3]);have hcv:=a2Y (b:=wy.heap.size) ht hgwb (hmwc);go_simp;refine hK _ _ (fun _ h=>h) ?_;clear hK K hcv;refine P8 (i:=10) (by kernel_rfl) (g8 rfl ?_ (fun K hK=> ?_))
    ·(try simp only [zz1]);(try simp only [zz2]);(try simp only [zz3]);go_simp;done
    (try simp only [zz1]);(try simp only [zz2]);(try simp only [zz3]);go_simp;refine hK _ _ (fun _ h=>h) ?_;clear hK K;obtain ⟨w5,hrun,hm5,hd5⟩:=Hput.out wc (HMz.out.mod hMwc (fun h=>h));have hNx:=Hend.out wc w5 hMwc _ rfl hm5 hd5;refine P8 (i:=15) (by kernel_rfl) (g8 rfl ?_ (fun K hK=> ?_))
    ·(try simp only [zz1]);(try simp only [zz2]);(try simp only [zz3]);go_simp;done
    (try simp only [zz1]);(try simp only [zz2]);(try simp only [zz3]);refine F7 96 _ _ _ rfl hrun ?_;refine hK _ _ (fun h=>absurd h (by decide)) ?_;clear hK K;refine a6C (by kernel_rfl) ?_;have HNx:=zh hNx;clear hNx hm5 hd5 hrun
    go_wp2_with fail
    go_roundw
    case rel=>exact HNx.out
    case measure=>simp [intOf];omega
   ·(try simp only [zz1]);(try simp only [zz2]);(try simp only [zz3]);go_simp;done
   go_wp2_with fail
   refine (Hpr.out wy hmy).mono ?_;rintro e wb ⟨rfl,hmwb⟩;have hMwb:Mod (fun _=>False) wz wb:=hmy.trans hmwb (fun _ _ h=>h);refine hK _ _ (fun _ h=>h.mod hmwb) ?_;clear hK K;refine P8 (i:=4) (by kernel_rfl) (g8 rfl ?_ (fun K hK=> ?_))
   ·(try simp only [zz1]);(try simp only [zz2]);(try simp only [zz3]);go_simp;done
   (try simp only [zz1]);(try simp only [zz2]);(try simp only [zz3]);go_simp;obtain ⟨wc,hwc,hmwc,hgwc, -⟩:=e9 wb (.cells #[.int .u8 t] 5);rw [hwc];have hMwc:Mod (fun _=>False) wz wc:=hMwb.trans hmwc (fun _ _ h=>h);refine hK _ _ (fun _ h=>h.mod hmwc) ?_;clear hK K hwc;refine P8 (i:=5) (by kernel_rfl) (g8 rfl ?_ (fun K hK=> ?_))
   ·(try simp only [zz1]);(try simp only [zz2]);(try simp only [zz3]);go_simp;done
   (try simp only [zz1]);(try simp only [zz2]);(try simp only [zz3]);have hcv:=a2Y (b:=wb.heap.size) ht hgwc (Mod.refl _ _);go_simp;refine hK _ _ (fun _ h=>h) ?_;clear hK K hcv;refine P8 (i:=10) (by kernel_rfl) (g8 rfl ?_ (fun K hK=> ?_))
   ·(try simp only [zz1]);(try simp only [zz2]);(try simp only [zz3]);go_simp;done
   (try simp only [zz1]);(try simp only [zz2]);(try simp only [zz3]);go_simp;refine hK _ _ (fun _ h=>h) ?_;clear hK K;obtain ⟨w5,hrun,hm5,hd5⟩:=Hput.out wc (HMz.out.mod hMwc (fun h=>h));have hNx:=Hend.out wc w5 hMwc _ rfl hm5 hd5;refine P8 (i:=15) (by kernel_rfl) (g8 rfl ?_ (fun K hK=> ?_))
   ·(try simp only [zz1]);(try simp only [zz2]);(try simp only [zz3]);go_simp;done
   (try simp only [zz1]);(try simp only [zz2]);(try simp only [zz3]);refine F7 96 _ _ _ rfl hrun ?_;refine hK _ _ (fun h=>absurd h (by decide)) ?_;clear hK K;refine a6C (by kernel_rfl) ?_;have HNx:=zh hNx;clear hNx hm5 hd5 hrun
   go_wp2_with fail
   go_roundw
   case rel=>exact HNx.out
   case measure=>simp [intOf];omega
  obtain rfl:j=S.length:=by omega
  rw [List.take_of_length_le (by rw [zz10];exact Nat.le_refl _)] at hFr;obtain ⟨HMr,HFr,Hmr,Hn⟩:=zh4 hMr hFr hmr hn;clear hMr hFr hmr hn
  go_wp2
  go_end0
  exact ⟨rfl,n,Fj,HMr.out,Hn.out,HFr.out,Hmr.out⟩
end
end Go.Proofs.YtaenebdppkjhoaaGreatDoor
