/- Lemmas. -/
import Derived.Test.YtaenebdppkjhoaaGreatDoorZg47
namespace Go.Proofs.YtaenebdppkjhoaaGreatDoor
set_option maxRecDepth 20000
set_option maxHeartbeats 40000000
section
open Go.RowKit
def BS.dropE (B:BS) (t:Nat) (who:ByteArray) (k:Int):Int:=match y8 (B.R t).S k with
 |some q=>if q.1=who then 0 else 3
 |none=>3
def RS.unsub (R:RS) (k:Int):RS:={R with S:=a09 R.S k,I:=U0 R.I k}
def RS.has (R:RS) (f:Fil):Bool:=R.S.any fun p=>i6 p.2.2==i6 f
def BS.endB (B:BS) (near:List Int) (t:Nat) (k:Int) (f:Fil):BS:=if ((B.R t).unsub k).has f then B.setR t ((B.R t).unsub k) else B.anew t (((B.R t).unsub k).trem (-1) f) near
def BS.endS (B:BS) (near:List Int) (t:Nat) (k:Int) (f:Fil):List Sd:=if ((B.R t).unsub k).has f then [] else q9 (((B.R t).unsub k).trem (-1) f).M t near (B.R t).G
def b18 {w0:World} {q:Nat} (O:x7 w0 q) (w:World) (ow:Ow) (c g:Nat) (id:Int) (near:List Int) (B:BS) (t:Nat) (s:O.σ) (who:ByteArray) (k:Int) (e:Ending) (w':World):Prop:=
 (e= .returned (.int .i64 3)/\B.dropE t who k=3/\Mod (fun _=>False) w w')\/
 (e= .returned (.int .i64 0)/\∃q ow',y8 (B.R t).S k=some q/\q.1=who/\Bro w' ow' c g id near (B.endB near t k q.2)/\O.inv w' ow' (O.sends s (B.endS near t k q.2))/\Mov (M1 c t O.tg) w ow w' ow')
def b4k (w2:World) (sb r:Nat) (S:List Sb) (F:Lit->Option Value) (f:Fil) (wr:World):Prop:=
 ∃(left:Lit->Bool) (cnt:Nat),a0G wr 3 sb r F left cnt/\(∀p∈S,left (.int .i64 p.1)=false->i6 p.2.2≠i6 f)/\Mod (fun _=>False) w2 wr
structure b4l (g t k tb:Nat) (fs:ByteArray) (fa:Option Addr) (n fc:Nat) (y:World):Prop where
 t0:y.cell? ⟨g,3+t*4,none⟩=some (.pointer (some ⟨tb,0,none⟩))
 e0:y.cell? ⟨k,1,none⟩=some (.string fs)
 e1:y.cell? ⟨k,2,none⟩=some (.slice fa n fc)
theorem a1m {S:List Sb} (hn:(S.map Prod.fst).Nodup) {p:Sb} (hp:p∈S):y8 S p.1=some p.2:=by
 unfold y8
 induction S with
 |nil=>cases hp
 | cons a S ih=>
  rw [List.map_cons,List.nodup_cons] at hn;rw [List.find?_cons];rcases List.mem_cons.1 hp with rfl|hp
  ·simp
  have:(a.1==p.1)=false:=by
   rw [beq_eq_false_iff_ne];intro e;exact hn.1 (by rw [e];exact List.mem_map_of_mem hp)
  rw [this];exact ih hn.2 hp
theorem b3V (w0 w:World) (ow:Ow) (hw:Owd w0 w ow) (c g:Nat) (id:Int) (near:List Int) (B:BS) (h:Bro w ow c g id near B) (hnl:near.length<=1000) (hnw:∀n∈near,(Lit.int .i64 n).wf=true) (t:Nat) (ht:t<4)
 (q:Nat) (O:x7 w0 q) (s:O.σ) (hO:O.inv w ow s) (hOt:∀t,O.tg t->t<c\/c+18<=t) (hto:∀n∈near,O.okTo n t) (hcnt:O.cnt s<=300000000000) (hR:RS.Go (B.R t)) (hS:∀p∈(B.R t).S,okN p.2.2/\okQ p.2.2) (who:ByteArray) (k:Int) (hkw:(Lit.int .i64 k).wf=true):
 Calls Tryz.prog 36 #[.pointer (some ⟨g,0,none⟩),.iface 43 (.pointer (some ⟨q,0,none⟩)),.int .i64 t,.string who,.int .i64 k] w (b18 O w ow c g id near B t s who k):=by
 obtain ⟨a,h⟩:=h;have ht4:(t:Int)<4:=by omega
 have ht0:(0:Int)<=t:=by omega
 have hc2:=h.c2;have hrea:=h.rea t ht;obtain ⟨q0,q1,q2, -⟩:=h.cells ht;obtain ⟨q,qa,qc,hask, -,hq⟩:=hrea.sub.ask k hkw;obtain ⟨wa,hwa,hmwa,hgwa,hzwa⟩:=e8 w (.cells #[.string q.1,.string q.2.1,.slice qa q.2.2.length qc] 137);obtain ⟨ok,hok⟩:∃ok,(y8 (B.R t).S k).isSome=ok:=⟨_,rfl⟩;rw [hok] at hask;have b0:wa.cell? ⟨w.heap.size,0,none⟩=some (.string q.1):=d6 hgwa rfl
 cases ok with
 | false=>
  have hn:y8 (B.R t).S k=none:=by
   cases hf:y8 (B.R t).S k with
   |none=>rfl
   |some p=>rw [hf] at hok;cases hok
  have hE:B.dropE t who k=3:=by unfold BS.dropE;rw [hn]
  obtain ⟨Hw,H,Hnw,HO,HOt,Hto,HR,HS,Hkw,Hrea,Hq,Hwa⟩:=zh12 hw h hnw hO hOt hto hR hS hkw hrea hq hwa;obtain ⟨Hmwa,Hgwa,Hok,Hn,HE⟩:=zh5 hmwa hgwa hok hn hE;clear hw h hnw hO hOt hto hR hS hkw hrea hq hwa hmwa hgwa hok hn hE hzwa
  go_enter Tryz.func36,Tryz.ntmps36
  go_wp2_with (first|((with_reducible refine d8 137 (.tmp 12) (.tmp 28) ?_);refine ⟨rfl,[.string q.1,.string q.2.1,.slice qa q.2.2.length qc],rfl,rfl,by kernel_rfl,rfl, ?_⟩;rw [Hwa.out])|fail)
  go_ret;exact .inl ⟨rfl,HE.out,Hmwa.out⟩
 |true=>
 obtain ⟨p,hp⟩:=Option.isSome_iff_exists.1 hok;obtain ⟨rfl,hcon⟩:=hq p hp;by_cases hwho:p.1=who;rotate_left
 ·have hE:B.dropE t who k=3:=by unfold BS.dropE;rw [hp];exact if_neg hwho
  have hb1:(p.1.data.toList==who.data.toList)=false:=by
   rw [beq_eq_false_iff_ne];intro e;exact hwho (ByteArray.ext (Array.toList_inj.1 e))
  have hb2:(p.1.toList==who.toList)=false:=by rw [ByteArray.toList_eq,ByteArray.toList_eq];exact hb1
  obtain ⟨Hw,H,Hnw,HO,HOt,Hto,HR,HS,Hkw,Hrea,Hq,Hwa⟩:=zh12 hw h hnw hO hOt hto hR hS hkw hrea hq hwa;obtain ⟨Hmwa,Hgwa,Hok,Hp,HE,Hcon⟩:=zh6 hmwa hgwa hok hp hE hcon;clear hw h hnw hO hOt hto hR hS hkw hrea hq hwa hmwa hgwa hok hp hE hcon hzwa hwho
  go_enter Tryz.func36,Tryz.ntmps36
  go_wp2_with (first|((with_reducible refine d8 137 (.tmp 12) (.tmp 28) ?_);refine ⟨rfl,[.string p.1,.string p.2.1,.slice qa p.2.2.length qc],rfl,rfl,by kernel_rfl,rfl, ?_⟩;rw [Hwa.out])|fail)
  go_ret;exact .inl ⟨rfl,HE.out,Hmwa.out⟩
 subst hwho;have hb1:(p.1.data.toList==p.1.data.toList)=true:=by simp
 have hb2:(p.1.toList==p.1.toList)=true:=by simp
 have hpm:=a1S hp;obtain ⟨hpN,hpQ⟩:=hS _ hpm;have hsa:=Mov.of hw hmwa (fun _=>False);have howa:=hsa.owd hw (fun h=>h);have hba:=h.mov hw hsa (fun h=>h) (fun _ h=>h.elim);have hOa:=O.mov hO hw hsa (fun h=>h) (fun _ h=>h.elim);have hra:=hba.rea t ht;obtain ⟨w1,hdel,hsub1,hm1⟩:=A9.del howa hra.sub (by omega) k hkw 0;have s1:Mov (fun q=>q=c+9+t) wa ow w1 ow:=Mov.wrote howa hm1 (fun b hb=>by rw [show b=a.sb t from hb];exact hra.sub.tag);have how1:=s1.owd howa (by omega);have hb1':A1 w1 ow c g id near (B.setR t {B.R t with S:=a09 (B.R t).S k}) a:=hba.realm howa ht s1 (fun q hq=> .inr (.inr (.inl hq))) ⟨hra.tab.mov howa s1 (by omega) (by omega) (by omega),hra.idx.mov howa s1 (by omega) (by omega) (by omega),hsub1,hra.snt.mov s1 (by omega) (by omega)⟩
 have hsbl:a.sb t<w.heap.size:=by
  obtain ⟨_,h1, -⟩:=hrea.sub.mp;exact h1.lt
 have hg1:=hm1.heap hgwa (fun e=>by have h2:w.heap.size=a.sb t:=e;omega);have hO1:=O.mov hOa howa s1 (by omega) (fun q e he=>by have:=hOt q he;omega);have hcon1:=(hcon.mov hsa (fun h=>h) (by omega)).mov s1 (by omega) (by omega);have hr1:=hb1'.rea t ht;rw [BS.setR_at] at hr1;obtain ⟨-,q11, -, -⟩:=hb1'.cells ht;have hix:=b15 w0 w1 ow how1 (c+5+t) (a.ib t) (by omega) _ _ hr1.idx (by have:=hR.t;show (B.R t).T<=100000;omega) k hkw;have hmv1:Mov (M1 c t O.tg) w ow w1 ow:=(hsa.mono (fun _ h=>h.elim)).trans (s1.mono (fun _ h=> .inl (.inr (.inr (.inl h)))));obtain ⟨Hw,H,Hnw,HO,HOt,Hto,HR,HS,Hkw,Hrea,Hq,Hwa⟩:=zh12 hw h hnw hO hOt hto hR hS hkw hrea hq hwa;obtain ⟨Hmwa,Hgwa,Hok,Hp,Hcon,Hpm,HpN,HpQ,Hsa,Howa,Hba,HOa⟩:=zh12 hmwa hgwa hok hp hcon hpm hpN hpQ hsa howa hba hOa;obtain ⟨Hra,Hsub1,Hm1,S1,How1,Hb1',Hg1,HO1,Hcon1,Hr1,Hix,Hmv1⟩:=zh12 hra hsub1 hm1 s1 how1 hb1' hg1 hO1 hcon1 hr1 hix hmv1;clear hw h hnw hO hOt hto hR hS hkw hrea hq hwa hmwa hgwa hok hp hcon hpm hpN hpQ hsa howa hba hOa hra hsub1 hm1 s1 how1 hb1' hg1 hO1 hcon1 hr1 hix hmv1 hzwa
 go_enter Tryz.func36,Tryz.ntmps36
 have q2a:wa.cell? ⟨g,3+t*4+2,none⟩=some (.map (some (a.sb t))):=Hmwa.out.cell q2 (fun h=>h)
 go_wp2_with (first|((with_reducible refine d8 137 (.tmp 12) (.tmp 28) ?_);refine ⟨rfl,[.string p.1,.string p.2.1,.slice qa p.2.2.length qc],rfl,rfl,by kernel_rfl,rfl, ?_⟩;rw [Hwa.out])|fail)
 refine Hix.out.mono ?_;rintro e w2 ⟨⟨r,rfl⟩,hi2,s2⟩;have how2:=s2.owd How1.out (by omega)
 have hb2':A1 w2 ow c g id near (B.setR t ((B.R t).unsub k)) a:=by
  have h1:=Hb1'.out.realm How1.out ht s2 (fun q hq=> .inr (.inl hq)) (R:=(B.R t).unsub k) ⟨Hr1.out.tab.mov How1.out s2 (by omega) (by omega) (by omega),hi2,Hr1.out.sub.mov s2 (by omega) (by omega),Hr1.out.snt.mov s2 (by omega) (by omega)⟩;rw [BS.setR_set] at h1;exact h1
 have hr2:=hb2'.rea t ht;rw [BS.setR_at] at hr2;obtain ⟨S',hS'⟩:∃S',a09 (B.R t).S k=S':=⟨_,rfl⟩;have hsub2:A9 w2 ow (c+9+t) (a.sb t) S':=hS'▸hr2.sub;have hSS:∀x∈S',okN x.2.2/\okQ x.2.2:=fun x hx=>HS.out x (by rw [<-hS'] at hx;exact (List.mem_filter.1 hx).1);have hhas:((B.R t).unsub k).has p.2=S'.any fun x=>i6 x.2.2==i6 p.2:=by rw [<-hS'];rfl
 obtain ⟨F,hF1,hF2⟩:=hsub2.mp;obtain ⟨q20, -,q22, -⟩:=hb2'.cells ht;have how0:ow w.heap.size=0:=Hw.out.zero (Nat.le_refl _)
 have hg2:=s2.md.heap Hg1.out (fun e=>by
  have h2:ow w.heap.size=c+5+t:=e
  omega)
 have hcon2:=Hcon1.out.mov s2 (by omega) (by omega);have hO2:=O.mov HO1.out How1.out s2 (by omega) (fun q e he=>by have:=HOt.out q he;omega);have hmv2:=Hmv1.out.trans (s2.mono (G:=M1 c t O.tg) (fun _ h=> .inl (.inr (.inl h))));have hwl2:=(zz7 hg2).1;obtain ⟨How2,Hb2',Hr2,HS',Hsub2,HSS,Hhas,HF1,HF2,Hg2,Hcon2,HO2⟩:=zh12 how2 hb2' hr2 hS' hsub2 hSS hhas hF1 hF2 hg2 hcon2 hO2;obtain ⟨Hmv2,Hi2,S2⟩:=zh3 hmv2 hi2 s2;clear how2 hb2' hr2 hS' hsub2 hSS hhas hF1 hF2 hg2 hcon2 hO2 hmv2 hi2 s2 how0
 go_wp2_with (first|((at_range;refine I4 rfl _ 56 rfl 3 137 m7 Tryz.underlying56 (a.sb t) _ F rfl HF1.out ?_;intro wF hrg hmF hzF))|fail)
 have hrel0:b4k w2 (a.sb t) w2.heap.size S' F p.2 wF:=⟨_,_,hrg,(fun x hx hl=>by
  have h1:=HF2.out x.1;rw [a1m Hsub2.out.nd hx] at h1;have h2:(F (.int .i64 x.1)).isSome=false:=hl
  cases h3:F (.int .i64 x.1) with
  |none=>rw [h3] at h1;exact h1.elim
  |some v=>rw [h3] at h2;cases h2),hmF⟩
 have hsb2:a.sb t<w2.heap.size:=HF1.out.lt;obtain ⟨Hrel0,Hrg,HmF⟩:=zh3 hrel0 hrg hmF;clear hrel0 hrg hmF hzF
 go_frame
 go_loopw [54] (fun _ wr=>b4k w2 (a.sb t) w2.heap.size S' F p.2 wr) (fun _ wr=>wr.rangeLeft (a.sb t) w2.heap.size)
 case atStart=>exact Hrel0.out
 case round=>
  revert wr;intro wl hrel;obtain ⟨left,cnt,hrg,hno,hmr⟩:=hrel;have hsl:=Mov.of How2.out hmr (fun _=>False);have howl:=hsl.owd How2.out (fun h=>h);have hgl:=hmr.heap Hg2.out (fun h=>h);have hconl:=Hcon2.out.mov hsl (fun h=>h) (by omega);have hbl:=Hb2'.out.mov How2.out hsl (fun h=>h) (fun _ h=>h.elim);have hOl:=O.mov HO2.out How2.out hsl (fun h=>h) (fun _ h=>h.elim);obtain ⟨Hno,Hmr,Hsl,Howl,Hgl,Hconl,Hbl,HOl⟩:=zh8 hno hmr hsl howl hgl hconl hbl hOl;clear hno hmr hsl howl hgl hconl hbl hOl
  go_wp2_with (first|((at_next;refine K9 rfl _ rfl 3 m7 (Value.int .i64) (Lit.int .i64) (b4b _ Tryz.underlying3) (b5l _ Tryz.underlying3) (a.sb t) w2.heap.size F left cnt rfl hrg ?_ ?_))|fail)
  ·intro hl0
   have hfalse:(S'.any fun x=>i6 x.2.2==i6 p.2)=false:=by
    rw [List.any_eq_false];intro x hx e;exact Hno.out x hx (hl0 _) (by simpa using e)
   have hR2:RS.Go (((B.R t).unsub k).trem (-1) p.2):=by
    have h1:=HR.out;refine ⟨h1.n,h1.t,h1.k,h1.g,a3v h1.m _ _, ?_⟩;exact Nat.le_trans (List.length_filter_le _ _) h1.s
   have hd:=(Mod.refl (fun _=>False) wl).drew;have hvd:=Mov.of Howl.out hd (fun _=>False);have howd:=hvd.owd Howl.out (fun h=>h);have hbd:=Hbl.out.mov Howl.out hvd (fun h=>h) (fun _ h=>h.elim);have hOd:=O.mov HOl.out Howl.out hvd (fun h=>h) (fun _ h=>h.elim);have hcond:=Hconl.out.mov hvd (fun h=>h) (by omega);have hgd:=hd.heap Hgl.out (fun h=>h);have hrd:=hbd.rea t ht;rw [BS.setR_at] at hrd;have hrm:=a6d w0 wl.drew ow howd (c+1+t) (a.tb t) (by omega) ((B.R t).unsub k) hrd.tab (by have:=HR.out.n;show (B.R t).N<=100000;omega) (-1) (by decide) p.2.1 qa qc p.2.2 hcond.rd (by have:=HpQ.out.1;omega) HpQ.out.2.1 HpQ.out.2.2;rw [b12 HpN.out] at hrm;have hS:b4l g t w.heap.size (a.tb t) p.2.1 qa p.2.2.length qc wl.drew:=⟨(hbd.cells ht).1,d6 hgd rfl,d6 hgd rfl⟩;obtain ⟨Hl0,Hfalse,HR2,Hd,Hvd,Howd,Hbd,HOd,Hcond,Hgd,Hrd,Hrm⟩:=zh12 hl0 hfalse hR2 hd hvd howd hbd hOd hcond hgd hrd hrm;have Hrg:=zh hrg;clear hl0 hfalse hR2 hd hvd howd hbd hOd hcond hgd hrd hrm hrg
   go_wp2_with fail
   refine g8 [.rd 0,.rd 1,.rd 2,.rd 3,.rd 4,.rd 5,.go 6] [0,1,2,3,4,5] (b4l g t w.heap.size (a.tb t) p.2.1 qa p.2.2.length qc) (by kernel_rfl) (by kernel_rfl) (fun _ _ d _ _ h=>(by cases d<;>exact h)) ?_
   iterate 6 (
    refine l5 rfl ?_ (fun _=>hS) ?_ (fun w0 h0=> ?_) (fun K hK=> ?_)
    ·(try simp only [zz1]);(try simp only [zz2]);(try simp only [zz3]);go_simp;done
    rotate_left
    ·(try simp only [zz1]);(try simp only [zz2]);(try simp only [zz3])
     first
      |(obtain ⟨f0,f1,f2⟩:=h0 rfl;clear h0;go_simp;with_reducible rfl)
      |(clear h0;go_simp;with_reducible rfl)
    (try simp only [zz1]);(try simp only [zz2]);(try simp only [zz3])
    go_simp;refine hK _ ?_;clear hK K)
   refine g7 (g9 rfl ?_ (fun K hK=> ?_))
   ·(try simp only [zz1]);(try simp only [zz2]);(try simp only [zz3]);go_simp;done
   go_wp2_with fail
   refine Hrm.out.mono ?_;rintro e w3 ⟨rfl,hT3,s3⟩;refine hK _ _ (fun h=>absurd h (by decide)) ?_;clear hK K hS;refine j8 ?_;have how3:=s3.owd Howd.out (by omega)
   have hb3:A1 w3 ow c g id near (B.setR t (((B.R t).unsub k).trem (-1) p.2)) a:=by
    have h1:=Hbd.out.realm Howd.out ht s3 (fun q hq=> .inl hq) (R:=((B.R t).unsub k).trem (-1) p.2) ⟨hT3,Hrd.out.idx.mov Howd.out s3 (by omega) (by omega) (by omega),Hrd.out.sub.mov s3 (by omega) (by omega),Hrd.out.snt.mov s3 (by omega) (by omega)⟩;rw [BS.setR_set] at h1;exact h1
   have hO3:=O.mov HOd.out Howd.out s3 (by omega) (fun q e he=>by have:=HOt.out q he;omega);have hRs:=BS.setR_at B t (((B.R t).unsub k).trem (-1) p.2);obtain ⟨href, -⟩:=a7I w0 w3 ow c g id near (B.setR t (((B.R t).unsub k).trem (-1) p.2)) a how3 hb3 q O s hO3 HOt.out t ht hcnt hnl Hnw.out Hto.out (by rw [hRs];exact HR2.out);have hmv3:=((Hmv2.out.trans (Hsl.out.mono (G:=M1 c t O.tg) (fun _ h=>h.elim))).trans (Hvd.out.mono (fun _ h=>h.elim))).trans (s3.mono (fun _ h=> .inl (.inl h)));obtain ⟨HT3,S3,How3,Hb3,HO3,HRs,Href,Hmv3⟩:=zh8 hT3 s3 how3 hb3 hO3 hRs href hmv3;clear hT3 s3 how3 hb3 hO3 hRs href hmv3
   go_wp2_with fail
   refine Href.out.mono ?_;rintro e w4 ⟨rfl,ow4,hb4,hO4,hm4⟩;rw [BS.told_set] at hb4;rw [HRs.out] at hO4;have hmv4:=Hmv3.out.trans (hm4.mono (G:=M1 c t O.tg) (fun q h=>h.elim (fun h=> .inl (.inr (.inr (.inr h)))) (fun h=> .inr h)));obtain ⟨Hb4,HO4,Hm4,Hmv4⟩:=zh4 hb4 hO4 hm4 hmv4;clear hb4 hO4 hm4 hmv4
   go_wp2
   go_ret;refine .inr ⟨rfl,p,ow4,Hp.out,rfl, ?_, ?_,Hmv4.out⟩
   ·unfold BS.endB;rw [Hhas.out,Hfalse.out,if_neg (by decide)];exact Hb4.out
   unfold BS.endS;rw [Hhas.out,Hfalse.out,if_neg (by decide)];exact HO4.out
  intro x cv wu cnt' hkey hlx hFx hrg' hlt hmu hzu hen;have h1:=HF2.out x;rw [hFx] at h1
  obtain ⟨y,hy,a1,c1,rfl,hcy⟩:∃y,y8 S' x=some y/\∃a1 c1,cv= .agg #[.string y.1,.string y.2.1,.slice a1 y.2.2.length c1]/\l9 w2 ow 7 (.slice a1 y.2.2.length c1) y.2.2.length (l6 y.2.2):=by
   cases hq:y8 S' x with
   |none=>rw [hq] at h1;exact h1.elim
   |some y=>rw [hq] at h1;obtain ⟨a1,c1,e1,e2⟩:=h1;exact ⟨y,rfl,a1,c1,e1,e2⟩
  obtain ⟨hyN,hyQ⟩:=HSS.out _ (a1S hy);have hmlu:Mod (fun _=>False) w2 wu:=Hmr.out.upon hmu (fun b hb=> .inr (Nat.le_of_eq (show w2.heap.size=b from (show b=w2.heap.size from hb).symm)));obtain ⟨wz,hwz,hmwz,hgwz,hzwz⟩:=e8 wu (.cells #[.string y.1,.string y.2.1,.slice a1 y.2.2.length c1] 137);have hm2z:=hmlu.trans hmwz (fun _ _ h=>h);have hg2z:=hm2z.heap Hg2.out (fun h=>h);have hlaid:∀wx,Mod (fun _=>False) wz wx->J3 w0 wx:=fun wx hx=>How2.out.laid.mod0 (hm2z.trans hx (fun _ _ h=>h))
  have hpT:∀wx,Mod (fun _=>False) wz wx->Calls Tryz.prog 35 #[.agg #[.string y.2.1,.slice a1 y.2.2.length c1]] wx fun e w'=>e= .returned (.string (str (i6 y.2)))/\Mod (fun _=>False) wz w':=fun wx hx=>
   (T5 w0 wx (hlaid wx hx) y.2.1 (.slice a1 y.2.2.length c1) y.2.2 (hcy.rd.mod (hm2z.trans hx (fun _ _ h=>h)) (fun _ _ h=>h)) (by have h9:y.2.2.length<=19:=hyQ.1;omega) hyQ.2.2 hyQ.2.1).mono fun e w' ⟨he,hm⟩=>⟨he,hx.trans hm (fun _ _ h=>h)⟩
  have hpS:∀wx,Mod (fun _=>False) wz wx->Calls Tryz.prog 35 #[.agg #[.string p.2.1,.slice qa p.2.2.length qc]] wx fun e w'=>e= .returned (.string (str (i6 p.2)))/\Mod (fun _=>False) wz w':=fun wx hx=>
   (T5 w0 wx (hlaid wx hx) p.2.1 (.slice qa p.2.2.length qc) p.2.2 (Hcon2.out.rd.mod (hm2z.trans hx (fun _ _ h=>h)) (fun _ _ h=>h)) (by have:=HpQ.out.1;omega) HpQ.out.2.2 HpQ.out.2.1).mono fun e w' ⟨he,hm⟩=>⟨he,hx.trans hm (fun _ _ h=>h)⟩
  have hrgz:=hrg'.mod hmwz (fun h=>h) (fun h=>h)
  have hTS:∀wx,Mod (fun _=>False) wz wx->wx.cell? ⟨wu.heap.size,1,none⟩=some (.string y.2.1)/\wx.cell? ⟨wu.heap.size,2,none⟩=some (.slice a1 y.2.2.length c1)/\wx.cell? ⟨w.heap.size,1,none⟩=some (.string p.2.1)/\wx.cell? ⟨w.heap.size,2,none⟩=some (.slice qa p.2.2.length qc):=fun wx hx=>
   ⟨hx.cell (d6 hgwz rfl) (fun h=>h),hx.cell (d6 hgwz rfl) (fun h=>h),hx.cell (d6 hg2z rfl) (fun h=>h),hx.cell (d6 hg2z rfl) (fun h=>h)⟩
  have hst:S'.any (fun z=>i6 z.2.2==i6 p.2)=true\/i6 y.2≠i6 p.2:=by
   by_cases hk:i6 y.2=i6 p.2
   ·exact .inl (List.any_eq_true.2 ⟨(x,y),a1S hy,by simp [hk]⟩)
   exact .inr hk
  by_cases hk:i6 y.2=i6 p.2
  ·have htrue:(S'.any fun z=>i6 z.2.2==i6 p.2)=true:=hst.resolve_right (fun h=>h hk);rw [hk] at hpT;obtain ⟨Hrg,Hkey,Hlx,HFx,Hrg',Hmu,Hzu,Hcy,Hy,HyN,HyQ,Hmlu⟩:=zh12 hrg hkey hlx hFx hrg' hmu hzu hcy hy hyN hyQ hmlu;obtain ⟨Hwz,Hmwz,Hgwz,Hm2z,Hg2z,Hlaid,HpT,HpS,Hrgz,HTS,Hst,Htrue⟩:=zh12 hwz hmwz hgwz hm2z hg2z hlaid hpT hpS hrgz hTS hst htrue;clear hrg hkey hlx hFx hrg' hmu hzu hcy hy hyN hyQ hmlu hwz hmwz hgwz hm2z hg2z hlaid hpT hpS hrgz hTS hst htrue hzwz hk
   go_wp2_with (first|((with_reducible refine d8 137 (.tmp 15) (.tmp 57) ?_);refine ⟨rfl,[.string y.1,.string y.2.1,.slice a1 y.2.2.length c1],rfl,rfl,by kernel_rfl,rfl, ?_⟩;rw [Hwz.out])|fail)
   refine i8 (by kernel_rfl) (by kernel_rfl) ?_
   iterate 7 (first
    | (refine k7 ?_ (fun K hK=> ?_)
       ·first|(go_simp;done)|(go_simp;simp [undef];done)
       go_simp;refine hK _ ?_;clear hK K)
    | (refine m8 ?_ ?_ (fun w' hw'=> ?_) (fun K hK=> ?_)
       ·first|(go_simp;done)|(go_simp;simp [undef];done)
       rotate_left
       ·obtain ⟨f0,f1,f2,f3⟩:=HTS.out w' hw';go_simp;rfl
       go_simp;refine hK _ ?_;clear hK K)
    | (refine p8 ?_ ?_ ?_ ?_ (fun w' hw'=> ?_) ?_ (fun K hK=> ?_)
       ·first|(go_simp;done)|(go_simp;simp [undef];done)
       rotate_left 3
       ·obtain ⟨f0,f1,f2,f3⟩:=HTS.out w' hw';go_simp;constructor<;>rfl
       ·first|with_reducible exact HpT.out|with_reducible exact HpS.out
       go_simp;refine hK _ ?_;clear hK K))
   refine m4 (fun w' hw'=> ?_);have hm2x:=Hm2z.out.trans hw' (fun _ _ h=>h);have hvx:=Mov.of How2.out hm2x (fun _=>False);have hbx:=Hb2'.out.mov How2.out hvx (fun h=>h) (fun _ h=>h.elim);have hOx:=O.mov HO2.out How2.out hvx (fun h=>h) (fun _ h=>h.elim);have hmvx:=Hmv2.out.trans (hvx.mono (G:=M1 c t O.tg) (fun _ h=>h.elim));obtain ⟨Hm2x,Hvx,Hbx,HOx,Hmvx⟩:=zh5 hm2x hvx hbx hOx hmvx;clear hm2x hvx hbx hOx hmvx hw'
   go_wp2
   go_ret;refine .inr ⟨rfl,p,ow,Hp.out,rfl, ?_, ?_,Hmvx.out⟩
   ·unfold BS.endB;rw [Hhas.out,Htrue.out,if_pos rfl];exact ⟨a,Hbx.out⟩
   unfold BS.endS;rw [Hhas.out,Htrue.out,if_pos rfl];exact HOx.out
  have hno2:∀z∈S',(left (.int .i64 z.1)&& !(Lit.int .i64 z.1).sameKey (.int .i64 x))=false->i6 z.2.2≠i6 p.2:=fun z hz hl=>by
   rw [b01] at hl;by_cases e:z.1=x
   ·have h2:=a1m Hsub2.out.nd hz;rw [e,hy] at h2;rw [<-Option.some.inj h2];exact hk
   have e2:(z.1==x)=false:=by rw [beq_eq_false_iff_ne];exact e
   rw [e2,Bool.not_false,Bool.and_true] at hl;exact Hno.out z hz hl
  have hq1:(str (i6 y.2)).data.toList=i6 y.2:=by simp [str]
  have hq2:(str (i6 p.2)).data.toList=i6 p.2:=by simp [str]
  have hc1:((str (i6 y.2)).data.toList==(str (i6 p.2)).data.toList)=false:=by rw [hq1,hq2,beq_eq_false_iff_ne];exact hk
  have hc2:((str (i6 y.2)).toList==(str (i6 p.2)).toList)=false:=by rw [ByteArray.toList_eq,ByteArray.toList_eq];exact hc1
  obtain ⟨s1,hs1⟩:∃s1,str (i6 y.2)=s1:=⟨_,rfl⟩;obtain ⟨s2,hs2⟩:∃s2,str (i6 p.2)=s2:=⟨_,rfl⟩;rw [hs1] at hpT hc1 hc2;rw [hs2] at hpS hc1 hc2;obtain ⟨Hrg,Hkey,Hlx,HFx,Hrg',Hmu,Hzu,Hcy,Hy,HyN,HyQ,Hmlu⟩:=zh12 hrg hkey hlx hFx hrg' hmu hzu hcy hy hyN hyQ hmlu;obtain ⟨Hwz,Hmwz,Hgwz,Hm2z,Hg2z,Hlaid,HpT,HpS,Hrgz,HTS,Hst,Hno2⟩:=zh12 hwz hmwz hgwz hm2z hg2z hlaid hpT hpS hrgz hTS hst hno2;obtain ⟨Hs1,Hs2⟩:=zh2 hs1 hs2;clear hrg hkey hlx hFx hrg' hmu hzu hcy hy hyN hyQ hmlu hwz hmwz hgwz hm2z hg2z hlaid hpT hpS hrgz hTS hst hno2 hs1 hs2 hzwz hk hq1 hq2
  go_wp2_with (first|((with_reducible refine d8 137 (.tmp 15) (.tmp 57) ?_);refine ⟨rfl,[.string y.1,.string y.2.1,.slice a1 y.2.2.length c1],rfl,rfl,by kernel_rfl,rfl, ?_⟩;rw [Hwz.out])|fail)
  refine i8 (by kernel_rfl) (by kernel_rfl) ?_
  iterate 7 (first
   | (refine k7 ?_ (fun K hK=> ?_)
      ·first|(go_simp;done)|(go_simp;simp [undef];done)
      go_simp;refine hK _ ?_;clear hK K)
   | (refine m8 ?_ ?_ (fun w' hw'=> ?_) (fun K hK=> ?_)
      ·first|(go_simp;done)|(go_simp;simp [undef];done)
      rotate_left
      ·obtain ⟨f0,f1,f2,f3⟩:=HTS.out w' hw';go_simp;rfl
      go_simp;refine hK _ ?_;clear hK K)
   | (refine p8 ?_ ?_ ?_ ?_ (fun w' hw'=> ?_) ?_ (fun K hK=> ?_)
      ·first|(go_simp;done)|(go_simp;simp [undef];done)
      rotate_left 3
      ·obtain ⟨f0,f1,f2,f3⟩:=HTS.out w' hw';go_simp;constructor<;>rfl
      ·first|with_reducible exact HpT.out|with_reducible exact HpS.out
      go_simp;refine hK _ ?_;clear hK K))
  refine m4 (fun w' hw'=> ?_);have hm2x:=Hm2z.out.trans hw' (fun _ _ h=>h);have hrgx:=Hrgz.out.mod hw' (fun h=>h) (fun h=>h);obtain ⟨Hm2x,Hrgx⟩:=zh2 hm2x hrgx;clear hm2x hrgx hw'
  go_wp2_with fail
  go_roundw
  case rel=>exact ⟨_,cnt',Hrgx.out,Hno2.out,Hm2x.out⟩
  case measure=>rw [Hrgx.out.left_eq,Hrg.out.left_eq];exact hlt
def a3w (A:List PRu) (t:Int) (who es:ByteArray) (L:List Att):List Att:=a4j (A.map fun p=>p.lies none 0) t who es L
theorem b19 (l:List Ru) (t:Int) (who es:ByteArray) (L:List Att):a3w (l.map Ru.pru) t who es L=a4j l t who es L:=by
 unfold a3w a4j K6 W2;rw [List.map_map,List.filter_map,List.map_map];rfl
def F2 (S:List Sb) (A:List PRu) (t:Int) (m:Mg) (id:Int):Option Hn:=match y8 S id with
 |none=>none
 |some q=>if a6b A t q.1 q.2.1 q.2.2&&H5 q.2.1 q.2.2 m.es (a3w A t q.1 m.es m.el) then some (t,q.1,⟨1,0,0,id,m.ser,m.ver,m.org,m.es,a3w A t q.1 m.es m.el⟩) else none
def a2a (S:List Sb) (A:List PRu) (t:Int) (m:Mg) (ids:List Int):List Hn:=ids.filterMap (F2 S A t m)
theorem a7J {S:List Sb} {A:List PRu} {t:Int} {m:Mg} {ids:List Int} {j:Nat} {id:Int} (h:ids[j]? =some id):a2a S A t m (ids.take (j+1))=a2a S A t m (ids.take j)++(F2 S A t m id).toList:=by
 unfold a2a;rw [List.take_add_one,h,Option.toList_some,List.filterMap_append]
 have e:List.filterMap (F2 S A t m) [id]=(F2 S A t m id).toList:=by
  rw [List.filterMap_cons];cases F2 S A t m id<;>rfl
 rw [e]
def BS.rouH (B:BS) (t:Nat) (m:Mg):List Hn:=a2a (B.R t).S (atP B.L (O9 m.ver B.L.length)) t m (a9f (B.R t).I m.es m.el)
def b2a (M:List (Int×Fil)) (frm:Int) (m:Mg) (n:Int):Bool:= !(n==frm)&&(a3N M n).any fun q=>a0z q m.es m.el
def G8 (M:List (Int×Fil)) (near:List Int) (t frm:Int) (m:Mg):List Sd:=(near.filter (b2a M frm m)).map fun n=>(n,t,m)
theorem a7K {M:List (Int×Fil)} {near:List Int} {t frm:Int} {m:Mg} {j:Nat} {n:Int} (h:near[j]? =some n):G8 M (near.take (j+1)) t frm m=G8 M (near.take j) t frm m++if b2a M frm m n then [(n,t,m)] else []:=by
 unfold G8;rw [List.take_add_one,h,Option.toList_some,List.filter_append,List.map_append];congr 1;cases hw:b2a M frm m n<;>simp [hw]
theorem a4s (M:List (Int×Fil)) (near:List Int) (t frm:Int) (m:Mg):(G8 M near t frm m).length<=near.length:=by
 unfold G8;rw [zz10];exact List.length_filter_le _ _
theorem a9N (S:List Sb) (A:List PRu) (t:Int) (m:Mg) (ids:List Int):(a2a S A t m ids).length<=ids.length:=List.length_filterMap_le _ _
variable {w0:World} {q:Nat}
def x7.shows (O:x7 w0 q) (s:O.σ) (l:List Hn):O.σ:=l.foldl (fun s x=>O.shw s x.1 x.2.1 x.2.2) s
theorem x7.shows_app (O:x7 w0 q) (s:O.σ) (l m:List Hn):O.shows s (l++m)=O.shows (O.shows s l) m:=List.foldl_append ..
theorem x7.shows_one (O:x7 w0 q) (s:O.σ) (l:List Hn) (x:Hn):O.shows s (l++[x])=O.shw (O.shows s l) x.1 x.2.1 x.2.2:=by rw [O.shows_app];rfl
theorem x7.shows_cnt (O:x7 w0 q) (s:O.σ) (l:List Hn):O.cnt (O.shows s l)<=O.cnt s+l.length:=by
 induction l generalizing s with
 |nil=>exact Nat.le_refl _
 |cons x l ih=>
  have h1:=ih (O.shw s x.1 x.2.1 x.2.2);have h2:=O.cshw s x.1 x.2.1 x.2.2;show O.cnt (O.shows (O.shw s x.1 x.2.1 x.2.2) l)<=_;rw [zz9];omega
theorem x7.tshow (O:x7 w0 q) {w:World} {ow:Ow} {s:O.σ} {ten id ser ver:Int} {who org es:ByteArray} {sl:List Att} {a:Option Addr} {c:Nat} (hw:Owd w0 w ow) (hO:O.inv w ow s) (hc:O.cnt s<=400000000000) (h0:0<=ten) (h3:ten<=3) (h:l9 w ow 6 (.slice a sl.length c) sl.length (j7 sl)):
 Calls Tryz.prog 295 #[.pointer (some ⟨q,0,none⟩),.int .i64 ten,.string who,.agg #[.int .i64 1,.int .i64 0,.int .i64 0,.int .i64 id,.int .i64 ser,.int .i64 ver,.string org,.string es,.slice a sl.length c]] w
  fun e w'=>e= .returned (.tuple #[])/\∃ow',O.inv w' ow' (O.shw s ten who ⟨1,0,0,id,ser,ver,org,es,sl⟩)/\Mov O.tg w ow w' ow':=
 O.hshw (x:=⟨⟨1,0,0,id,ser,ver,org,es,sl⟩,a,c⟩) hw hO hc h0 h3 ⟨h⟩
theorem x7.tsend (O:x7 w0 q) {w:World} {ow:Ow} {s:O.σ} {td ten:Int} {x:Mv} (hw:Owd w0 w ow) (hO:O.inv w ow s) (hc:O.cnt s<=400000000000) (ht:O.okTo td ten) (h:X5 w ow x):
 Calls Tryz.prog 294 #[.pointer (some ⟨q,0,none⟩),.int .i64 td,.int .i64 ten,.agg #[.int .i64 x.m.kind,.int .i64 x.m.at_,.int .i64 x.m.rule.kind,.int .i64 x.m.rule.tenant,.string x.m.rule.who,.int .i64 x.m.rule.broker,.string x.m.rule.sc,.slice x.ra x.m.rule.cs.length x.rc,.string x.m.rule.name,.int .i64 x.m.rule.at_,
  .string x.m.fs,.slice x.fa x.m.fl.length x.fc,.string x.m.es,.slice x.ea x.m.el.length x.ec,.int .i64 x.m.ver,.string x.m.org,.int .i64 x.m.ser]] w
  fun e w'=>e= .returned (.tuple #[])/\∃ow',O.inv w' ow' (O.send s td ten x.m)/\Mov O.tg w ow w' ow':=
 O.hsend hw hO hc ht h
theorem b2b {w:World} {ow:Ow} {v:Value} {l:List Ru} (h:l9 w ow 8 v l.length (rus l)) (hf:∀r∈l,r.pru.fine/\l9 w ow 7 r.cv r.cs.length (l6 r.cs)):K8 w v l:=⟨h.rd,fun r hr=>(hf r hr).1.ok (hf r hr).2.rd⟩
theorem b2c {A:List PRu} {t:Int} {who es:ByteArray} {L:List Att}:(a3w A t who es L).Sublist L:=List.filter_sublist
theorem a9O {l m:List Att} (h:l.Sublist m) (hm:Go.Proofs.YtaenebdppkjhoaaGreatDoor.u7 m):Go.Proofs.YtaenebdppkjhoaaGreatDoor.u7 l:=by
 intro i j x y hij hx hy;have hp:m.Pairwise fun x y=>Op.bytesLess x.name.data.toList y.name.data.toList=true:=List.pairwise_iff_getElem.2 fun i j hi hj hij=>hm i j _ _ hij (zz5 hi) (zz5 hj);have hq:=hp.sublist h;obtain ⟨h1,rfl⟩:=zz6 hx;obtain ⟨h2,rfl⟩:=zz6 hy;exact List.pairwise_iff_getElem.1 hq i j h1 h2 hij
end
end Go.Proofs.YtaenebdppkjhoaaGreatDoor
