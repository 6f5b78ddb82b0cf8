/- Lemmas of this claim. -/
import Derived.Test.YtaenebdppkjhoaaGreatDoorZd49
import Derived.Test.YtaenebdppkjhoaaGreatDoorZd42
namespace Go.Proofs.YtaenebdppkjhoaaGreatDoor
set_option maxRecDepth 20000
set_option maxHeartbeats 40000000
section
open Go.RowKit
structure RInv (R:RS) (j:Nat):Prop where
 n:R.N≤j
 t:R.T≤20*j
 k:R.K≤2*j
 m:∀p∈R.M,okN p.2
 s:R.S.length≤8
 sf:∀p∈R.S,okN p.2.2
 si:∀p∈R.S,0≤p.1∧p.1<j
 is:R.I=R.S.map fun p=>(p.1,p.2.2)
 g:∀n,R.G n=if n=1∨n=2 then outL R.M n else []
theorem RInv.zero:RInv RS.zero 0:=⟨Nat.le_refl _,Nat.le_refl _,Nat.le_refl _,fun p hp=>(by cases hp),(by decide),fun p hp=>(by cases hp),fun p hp=>(by cases hp),rfl,fun n=>(by
 show []=if n=1∨n=2 then outL [] n else []
 rw [List.eq_nil_of_length_eq_zero (Nat.le_zero.1 (outL_le [] n))]
 split<;>rfl)⟩
theorem RInv.mono {R:RS} {j k:Nat} (h:RInv R j) (hk:j≤k):RInv R k:=by
 have h1:=h.n
 have h2:=h.t
 have h3:=h.k
 exact ⟨by omega,by omega,by omega,h.m,h.s,h.sf,fun p hp=>⟨(h.si p hp).1,by have:=(h.si p hp).2;omega⟩,h.is,h.g⟩
theorem refr_g {M:List (Int×Fil)} {G:Int→List Fil} (h:∀n,¬(n=1∨n=2)→G n=[]) (n:Int):refrG M [1,2] G n=if n=1∨n=2 then outL M n else []:=by
 by_cases hn:n=1∨n=2
 ·rw [if_pos hn]
  exact refrG_in (by simpa using hn)
 ·rw [if_neg hn,refrG_not (by simpa using hn)]
  exact h n hn
theorem RInv.none {R:RS} {j:Nat} (h:RInv R j):subF R.S j=Option.none∧idxF R.I j=Option.none:=by
 have h1:subF R.S j=Option.none:=by
  unfold subF
  rw [Option.map_eq_none_iff,List.find?_eq_none]
  intro p hp e
  have:=(h.si p hp).2
  have e2:p.1=(j:Int):=by simpa using e
  omega
 refine ⟨h1, ?_⟩
 unfold idxF
 rw [Option.map_eq_none_iff,List.find?_eq_none,h.is]
 intro p hp e
 obtain ⟨q,hq,rfl⟩:=List.mem_map.1 hp
 have:=(h.si q hq).2
 have e2:q.1=(j:Int):=by simpa using e
 omega
theorem RInv.go {R:RS} {j:Nat} (h:RInv R j) (hj:j≤900) {w:World} {ow:Ow} {c b:Nat} (hT:TabC w ow c b R.M R.N):R.Go:=by
 have h1:=h.n
 have h2:=h.t
 have h3:=h.k
 have h4:=TabC.len hT
 have hq:∀p∈R.M,okQ p.2:=fun p hp=>by
  obtain ⟨mo,hat⟩:=hT
  exact ⟨(hat.wf _ hp).2.1,(hat.wf _ hp).2.2,hat.sc _ hp⟩
 refine ⟨by omega,by omega,by omega,⟨fun n=> ?_,fun n q hn=> ?_⟩,h.m,by have:=h.s;omega⟩
 ·rw [h.g]
  split
  ·have:=outL_le R.M n;omega
  ·exact Nat.zero_le _
 ·rw [h.g] at hn
  split at hn
  ·exact outL_ok hq n q hn
  ·cases hn
theorem RInv.tadd {R:RS} {j:Nat} (h:RInv R j) (frm:Int) {f:Fil} (hf:okN f):RInv ((R.tadd frm f).refr [1,2]) (j+1):=by
 obtain ⟨e1,e2,e3,e4,e5⟩:=R.tadd_eq frm f
 have h1:=h.n
 have h2:=h.t
 have h3:=h.k
 have h4:=R.tadd_n frm f
 refine ⟨?_, ?_, ?_,RS.tadd_m h.m frm hf, ?_, ?_, ?_, ?_,fun n=> ?_⟩
 ·show (R.tadd frm f).N≤j+1;omega
 ·show (R.tadd frm f).T≤_;rw [e5];omega
 ·show (R.tadd frm f).K+2≤_;rw [e2];omega
 ·show (R.tadd frm f).S.length≤8;rw [e3];exact h.s
 ·show∀p∈(R.tadd frm f).S,okN p.2.2;rw [e3];exact h.sf
 ·show∀p∈(R.tadd frm f).S,0≤p.1∧p.1<(j+1:Nat);rw [e3];exact fun p hp=>⟨(h.si p hp).1,by have:=(h.si p hp).2;omega⟩
 ·show (R.tadd frm f).I=(R.tadd frm f).S.map _;rw [e3,e4];exact h.is
 ·show refrG (R.tadd frm f).M [1,2] (R.tadd frm f).G n=_
  rw [e1]
  exact refr_g (fun m hm=>by rw [h.g,if_neg hm]) n
theorem RInv.trem {R:RS} {j:Nat} (h:RInv R j) (frm:Int) (f:Fil):RInv ((R.trem frm f).refr [1,2]) (j+1):=by
 have h1:=h.n
 have h2:=h.t
 have h3:=h.k
 refine ⟨?_, ?_, ?_,okN_tabD h.m frm _,h.s,h.sf,fun p hp=>⟨(h.si p hp).1,by have:=(h.si p hp).2;omega⟩,h.is,fun n=>refr_g (fun m hm=>by show R.G m=[];rw [h.g,if_neg hm]) n⟩
 ·show R.N≤j+1;omega
 ·show R.T≤_;omega
 ·show R.K+2≤_;omega
theorem RInv.hear {R:RS} {j:Nat} (h:RInv R j) (frm:Int) {f:Fil} (hf:okN f) (on:Bool):RInv ((R.hear frm f on).refr [1,2]) (j+1):=by
 cases on with
 |true=>exact h.tadd frm hf
 |false=>exact h.trem frm f
theorem RInv.addSI {R:RS} {j:Nat} (h:RInv R j) (who:ByteArray) {f:Fil} (hf:okN f):(∀p∈((R.addS j who f).addI j f).S,okN p.2.2)∧(∀p∈((R.addS j who f).addI j f).S,0≤p.1∧p.1<(j+1:Nat))∧((R.addS j who f).addI j f).I=((R.addS j who f).addI j f).S.map fun p=>(p.1,p.2.2):=by
 refine ⟨fun p hp=> ?_,fun p hp=> ?_, ?_⟩
 ·rcases List.mem_append.1 hp with hp|hp
  ·exact h.sf p hp
  ·rw [List.mem_singleton.1 hp];exact hf
 ·rcases List.mem_append.1 hp with hp|hp
  ·exact ⟨(h.si p hp).1,by have:=(h.si p hp).2;omega⟩
  ·rw [List.mem_singleton.1 hp]
   exact ⟨by show (0:Int)≤j;omega,by show (j:Int)<(j+1:Nat);omega⟩
 ·show R.I++[((j:Int),f)]=(R.S++[((j:Int),who,f)]).map _
  rw [List.map_append,h.is]
  rfl
theorem RInv.sub {R:RS} {j:Nat} (h:RInv R j) (h8:R.S.length≠8) (who:ByteArray) {f:Fil} (hf:okN f):RInv ((R.sub j who f).refr [1,2]) (j+1):=by
 obtain ⟨a1,a2,a3⟩:=h.addSI who hf
 obtain ⟨Q,hQ⟩:∃Q,(R.addS j who f).addI j f=Q:=⟨_,rfl⟩
 have qn:Q.N=R.N:=by rw [←hQ];rfl
 have qt:Q.T=R.T+20:=by rw [←hQ];rfl
 have qk:Q.K=R.K:=by rw [←hQ];rfl
 have qm:Q.M=R.M:=by rw [←hQ];rfl
 have qg:Q.G=R.G:=by rw [←hQ];rfl
 have qs:Q.S.length=R.S.length+1:=by rw [←hQ];show (R.S++[_]).length=_;rw [List.length_append];rfl
 rw [hQ] at a1 a2 a3
 have e0:R.sub j who f=Q.tadd (-1) f:=by rw [←hQ];rfl
 rw [e0]
 obtain ⟨e1,e2,e3,e4,e5⟩:=Q.tadd_eq (-1) f
 have h1:=h.n
 have h2:=h.t
 have h3:=h.k
 have h5:=h.s
 have h4:=Q.tadd_n (-1) f
 refine ⟨?_, ?_, ?_,RS.tadd_m (by rw [qm];exact h.m) _ hf, ?_, ?_, ?_, ?_,fun n=> ?_⟩
 ·show (Q.tadd (-1) f).N≤j+1;omega
 ·show (Q.tadd (-1) f).T≤_;rw [e5];omega
 ·show (Q.tadd (-1) f).K+2≤_;rw [e2];omega
 ·show (Q.tadd (-1) f).S.length≤8;rw [e3];omega
 ·show∀p∈(Q.tadd (-1) f).S,okN p.2.2;rw [e3];exact a1
 ·show∀p∈(Q.tadd (-1) f).S,0≤p.1∧p.1<(j+1:Nat);rw [e3];exact a2
 ·show (Q.tadd (-1) f).I=(Q.tadd (-1) f).S.map _;rw [e3,e4];exact a3
 ·show refrG (Q.tadd (-1) f).M [1,2] (Q.tadd (-1) f).G n=_
  rw [e1,qg]
  exact refr_g (fun m hm=>by rw [h.g,if_neg hm]) n
def BInv (B:BS) (j:Nat):Prop:=∀t,t<4→RInv (B.R t) j
theorem BInv.set {B:BS} {j k:Nat} (h:BInv B j) (hk:j≤k) {t:Nat} {R:RS} (hR:RInv R k):BInv (B.setR t R) k:=fun i hi=>by
 by_cases e:i=t
 ·subst e
  rw [BS.setR_at]
  exact hR
 ·rw [BS.setR_ne _ _ e]
  exact (h i hi).mono hk
theorem BInv.take {B:BS} {j:Nat} (h:BInv B j) {t:Nat} (ht:t<4) (frm:Int) {f:Fil} (hf:okN f) (on:Bool):BInv (B.takeB [1,2] t frm f on) (j+1):=by
 unfold BS.takeB
 split
 ·exact h.set (Nat.le_succ _) ((h t ht).hear frm hf on)
 ·exact fun i hi=>(h i hi).mono (Nat.le_succ _)
theorem BInv.sub {B:BS} {j:Nat} (h:BInv B j) {t:Nat} (ht:t<4) (id:Int) (who fs:ByteArray) {fl:List Cnd} (hf:filRight fs fl=true→okN (fs,normC fl)):BInv (B.subB id [1,2] t who j fs fl) (j+1):=by
 unfold BS.subB
 split
 ·rename_i h0
  unfold BS.subE at h0
  split at h0
  ·rename_i hr
   split at h0
   ·split at h0
    ·split at h0
     ·cases h0
     ·rename_i h8
      exact h.set (Nat.le_succ _) ((h t ht).sub h8 who (hf hr))
    ·cases h0
   ·cases h0
  ·cases h0
 ·exact fun i hi=>(h i hi).mono (Nat.le_succ _)
theorem BS.takeB_L (B:BS) (near:List Int) (t:Nat) (frm:Int) (f:Fil) (on:Bool):(B.takeB near t frm f on).L=B.L:=by
 unfold BS.takeB
 split<;>rfl
theorem BS.subB_L (B:BS) (id:Int) (near:List Int) (t:Nat) (who:ByteArray) (k:Int) (fs:ByteArray) (fl:List Cnd):(B.subB id near t who k fs fl).L=B.L:=by
 unfold BS.subB
 split<;>rfl
def BS.upto (B:BS) (f:RS→RS) (k:Nat):BS:={B with R:=fun j=>if j<k then f (B.R j) else B.R j}
theorem BS.upto_zero (B:BS) (f:RS→RS):B.upto f 0=B:=by
 unfold BS.upto
 simp
theorem BS.upto_at (B:BS) (f:RS→RS) (k:Nat):(B.upto f k).R k=B.R k:=if_neg (by omega)
theorem BS.upto_succ (B:BS) (f:RS→RS) (k:Nat):B.upto f (k+1)=(B.upto f k).setR k (f (B.R k)):=by
 unfold BS.upto BS.setR
 congr 1
 funext j
 unfold upd
 show (if j<k+1 then f (B.R j) else B.R j)=if j=k then f (B.R k) else (if j<k then f (B.R j) else B.R j)
 by_cases e:j=k
 ·subst e
  rw [if_pos rfl,if_pos (by omega)]
 ·rw [if_neg e]
  by_cases h:j<k
  ·rw [if_pos h,if_pos (by omega)]
  ·rw [if_neg h,if_neg (by omega)]
def upS (R:Nat→RS) (g:Nat→RS→List Sd):Nat→List Sd
 |0=>[]
 |k+1=>upS R g k++g k (R k)
def RS.lose (n:Int) (gone:Bool) (R:RS):RS:={R with M:=if gone then tabX R.M n else R.M,G:=updI R.G n []}
def RS.loseR (n:Int) (gone:Bool) (near:List Int) (R:RS):RS:=(R.lose n gone).refr near
def loseS (n:Int) (gone:Bool) (near:List Int) (t:Nat) (R:RS):List Sd:=refrS (R.lose n gone).M t near (R.lose n gone).G
def polS (n:Int) (L:List PRu):List Sd:=L.zipIdx.map fun p=>(n, -1,Mg.pol p.2 p.1)
theorem polS_succ {L:List PRu} {j:Nat} {p:PRu} (h:L[j]? =some p) (n:Int):polS n (L.take (j+1))=polS n (L.take j)++[(n, -1,Mg.pol j p)]:=by
 have hj:=(List.getElem?_eq_some_iff.1 h).1
 have hl:(L.take j).length=j:=by rw [List.length_take];omega
 unfold polS
 rw [List.take_add_one,h,Option.toList_some,List.zipIdx_append,List.map_append,hl]
 simp
theorem GOk.none {G:Int→List Fil} (h:GOk G) (n:Int):GOk (updI G n []):=by
 refine ⟨fun m=> ?_,fun m q hq=> ?_⟩
 ·unfold updI
  split
  ·exact Nat.zero_le _
  ·exact h.len m
 ·unfold updI at hq
  split at hq
  ·cases hq
  ·exact h.ok m q hq
theorem RS.Go.lose {R:RS} (h:R.Go) (n:Int) (gone:Bool):(R.lose n gone).Go:=by
 refine ⟨h.n,h.t,h.k,h.g.none n,fun p hp=> ?_,h.s⟩
 cases gone with
 |true=>exact h.m p (tabX_sub hp)
 |false=>exact h.m p hp
theorem BroA.lose {w0 w:World} {ow:Ow} {c g:Nat} {id:Int} {near:List Int} {B:BS} {a:BAd} (h:BroA w ow c g id near B a) (hw:Owd w0 w ow) {t:Nat} (ht:t<4) (n:Int) (hnw:(Lit.int .i64 n).wf=true):
 ∃w',(Builtin.delete_ #[57,3] 0 #[.map (some (a.mb t)),.int .i64 n]).run Tryz.prog w= .ok (.tuple #[]) w'∧BroA w' ow c g id near (B.setR t ((B.R t).lose n false)) a∧Mov (fun q=>q=c+13+t) w ow w' ow∧Owd w0 w' ow:=by
 have hr:=h.rea t ht
 have hc:=h.c2
 obtain ⟨w',h1,h2,h3⟩:=SentC.del hw hr.snt (by omega) n hnw 0
 have s:Mov (fun q=>q=c+13+t) w ow w' ow:=Mov.wrote hw h3 (fun b hb=>by rw [show b=a.mb t from hb];exact hr.snt.tag)
 exact ⟨w',h1,h.realm hw ht s (fun q hq=> .inr (.inr (.inr hq))) ⟨hr.tab.mov hw s (by omega) (by omega) (by omega),hr.idx.mov hw s (by omega) (by omega) (by omega),hr.sub.mov s (by omega) (by omega),h2⟩,s,s.owd hw (by omega)⟩
theorem BroA.drop {w0 w w':World} {ow:Ow} {c g:Nat} {id:Int} {near:List Int} {B:BS} {a:BAd} (h:BroA w ow c g id near B a) (hw:Owd w0 w ow) {t:Nat} (ht:t<4) {M:List (Int×Fil)} (hT:TabC w' ow (c+1+t) (a.tb t) M (B.R t).N) (s:Mov (fun q=>q=c+1+t) w ow w' ow):
 BroA w' ow c g id near (B.setR t {B.R t with M:=M}) a:=by
 have hr:=h.rea t ht
 have hc:=h.c2
 exact h.realm hw ht s (fun q hq=> .inl hq) ⟨hT,hr.idx.mov hw s (by omega) (by omega) (by omega),hr.sub.mov s (by omega) (by omega),hr.snt.mov s (by omega) (by omega)⟩
theorem refresh_go (w0 w:World) (ow:Ow) (c g:Nat) (id:Int) (near:List Int) (B:BS) (a:BAd) (hw:Owd w0 w ow) (h:BroA w ow c g id near B a) (q:Nat) (O:OutK w0 q) (s:O.σ) (hO:O.inv w ow s) (hOt:∀t,O.tg t→t<c∨c+18≤t) (t:Nat) (ht:t<4)
 (hcnt:O.cnt s≤300000000000) (hnl:near.length≤1000) (hnw:∀n∈near,(Lit.int .i64 n).wf=true) (hto:∀n∈near,O.okTo n t) (hR:RS.Go (B.R t)):
 Calls Tryz.prog 59 #[.pointer (some ⟨g,0,none⟩),.iface 43 (.pointer (some ⟨q,0,none⟩)),.int .i64 t] w (RefrPost O w ow c g id near B t s)∧(refrS (B.R t).M t near (B.R t).G).length≤2000000000:=by
 have hMl:(B.R t).M.length≤1000000:=Nat.le_trans (TabC.len (h.rea t ht).tab) (by have:=hR.n;omega)
 have hlen:=refrS_len (near:=near) hR.g.len hMl t
 have hl2:near.length*(2*1000000)≤1000*(2*1000000):=Nat.mul_le_mul_right _ hnl
 exact ⟨refresh_at w0 w ow c g id near B hw ⟨a,h⟩ q O s hO hOt t ht (by omega) hnl hnw hto (by have:=hR.n;omega) hR.k hR.g (okM_inj hR.m),by omega⟩
def LsRel {w0:World} {q:Nat} (O:OutK w0 q) (w:World) (ow:Ow) (c g:Nat) (id:Int) (near:List Int) (B:BS) (n:Int) (gone:Bool) (s:O.σ) (i:Value) (wr:World):Prop:=
 ∃(k:Nat) (owr:Ow),i= .int .i64 k∧k≤4∧Bro wr owr c g id near (B.upto (RS.loseR n gone near) k)∧O.inv wr owr (O.sends s (upS B.R (loseS n gone near) k))∧O.cnt (O.sends s (upS B.R (loseS n gone near) k))≤O.cnt s+k*2000000000∧Mov (fun q=>(c<q∧q<c+17)∨O.tg q) w ow wr owr∧Owd w0 wr owr
def ForgPost {w0:World} {q:Nat} (O:OutK w0 q) (w:World) (ow:Ow) (c g:Nat) (id:Int) (near:List Int) (B:BS) (n:Int) (s:O.σ) (e:Ending) (w':World):Prop:=
 e= .returned (.tuple #[])∧∃ow',Bro w' ow' c g id near (B.upto (RS.loseR n true near) 4)∧O.inv w' ow' (O.sends s (upS B.R (loseS n true near) 4))∧Mov (fun q=>(c<q∧q<c+17)∨O.tg q) w ow w' ow'
def AnnPost {w0:World} {q:Nat} (O:OutK w0 q) (w:World) (ow:Ow) (c g:Nat) (id:Int) (near:List Int) (B:BS) (n:Int) (s:O.σ) (e:Ending) (w':World):Prop:=
 e= .returned (.tuple #[])∧∃ow',Bro w' ow' c g id near (B.upto (RS.loseR n false near) 4)∧O.inv w' ow' (O.sends s (polS n B.L++upS B.R (loseS n false near) 4))∧Mov (fun q=>(c<q∧q<c+17)∨O.tg q) w ow w' ow'
theorem forget_at (w0 w:World) (ow:Ow) (hw:Owd w0 w ow) (c g:Nat) (id:Int) (near:List Int) (B:BS) (h:Bro w ow c g id near B) (hnl:near.length≤1000) (hnw:∀n∈near,(Lit.int .i64 n).wf=true)
 (q:Nat) (O:OutK w0 q) (s:O.σ) (hO:O.inv w ow s) (hOt:∀t,O.tg t→t<c∨c+18≤t) (hto:∀n∈near,∀t:Nat,t<4→O.okTo n t) (hcnt:O.cnt s≤200000000000) (hR:∀t,t<4→RS.Go (B.R t)) (n:Int) (hn:(Lit.int .i64 n).wf=true):
 Calls Tryz.prog 28 #[.pointer (some ⟨g,0,none⟩),.iface 43 (.pointer (some ⟨q,0,none⟩)),.int .i64 n] w (ForgPost O w ow c g id near B n s):=by
 obtain ⟨a,h⟩:=h
 have hb0:BroA w ow c g id near (B.upto (RS.loseR n true near) 0) a:=by rw [BS.upto_zero];exact h
 have hm0:Mov (fun q=>(c<q∧q<c+17)∨O.tg q) w ow w ow:=Mov.refl hw
 have Hw:=Lib.hid hw
 have H:=Lib.hid h
 have HO:=Lib.hid hO
 have HOt:=Lib.hid hOt
 have Hto:=Lib.hid hto
 have HR:=Lib.hid hR
 have Hn:=Lib.hid hn
 have Hnw:=Lib.hid hnw
 have Hb0:=Lib.hid hb0
 have Hm0:=Lib.hid hm0
 clear hw h hO hOt hto hR hn hnw hb0 hm0
 go_enter Tryz.func28,Tryz.ntmps28
 go_wp2_with fail
 go_loopw [8] (fun i wr=>LsRel O w ow c g id near B n true s i wr) (fun i _=>4 - (intOf i).toNat)
 case atStart=>exact ⟨0,ow,rfl,Nat.zero_le _,⟨a,Hb0.out⟩,HO.out,by show O.cnt s≤_;omega,Hm0.out,Hw.out⟩
 case round=>
  obtain ⟨k,owr,rfl,hk,⟨a,hbr⟩,hOr,hcr,hmr,how⟩:=hrel
  by_cases hlt:k<4
  ·have hlt':(k:Int)<4:=by omega
   have hk0:(0:Int)≤k:=by omega
   have hRk:=BS.upto_at B (RS.loseR n true near) k
   have hrea:=hbr.rea k hlt
   have hc2:=hbr.c2
   rw [hRk] at hrea
   obtain ⟨q0, -, -, -⟩:=hbr.cells hlt
   have hdr:=tabC_drop w0 wr owr how (c+1+k) (a.tb k) (by omega) _ _ hrea.tab n Hn.out
   have Hbr:=Lib.hid hbr
   have HOr:=Lib.hid hOr
   have Hmr:=Lib.hid hmr
   have How:=Lib.hid how
   have HRk:=Lib.hid hRk
   have Hrea:=Lib.hid hrea
   have Hdr:=Lib.hid hdr
   clear hbr hOr hmr how hRk hrea hdr
   go_wp2_with fail
   refine Hdr.out.mono ?_
   rintro e w1 ⟨rfl,hT,s1⟩
   have how1:=s1.owd How.out (by omega)
   have hb1:=Hbr.out.drop How.out hlt (M:=tabX (B.R k).M n) (by rw [HRk.out];exact hT) s1
   obtain ⟨-, -, -,q3⟩:=hb1.cells hlt
   have hO1:=O.mov HOr.out How.out s1 (by omega) (fun q e he=>by have:=HOt.out q he;omega)
   obtain ⟨w2,hdel,hb2,s2,how2⟩:=hb1.lose how1 hlt n Hn.out
   have hO2:=O.mov hO1 how1 s2 (by omega) (fun q e he=>by have:=HOt.out q he;omega)
   have hR2:((B.upto (RS.loseR n true near) k).setR k {(B.upto (RS.loseR n true near) k).R k with M:=tabX (B.R k).M n}).setR k ((((B.upto (RS.loseR n true near) k).setR k {(B.upto (RS.loseR n true near) k).R k with M:=tabX (B.R k).M n}).R k).lose n false)=(B.upto (RS.loseR n true near) k).setR k ((B.R k).lose n true):=by
    rw [BS.setR_set,BS.setR_at,HRk.out]
    rfl
   rw [hR2] at hb2
   have hRl:=BS.setR_at (B.upto (RS.loseR n true near) k) k ((B.R k).lose n true)
   obtain ⟨href,hl⟩:=refresh_go w0 w2 owr c g id near ((B.upto (RS.loseR n true near) k).setR k ((B.R k).lose n true)) a how2 hb2 q O _ hO2 HOt.out k hlt (by omega) hnl Hnw.out (fun m hm=>Hto.out m hm k hlt) (by rw [hRl];exact (HR.out k hlt).lose n true)
   have hm2:=(Hmr.out.trans (s1.mono (G:=fun q=>(c<q∧q<c+17)∨O.tg q) (fun q h=> .inl (by omega)))).trans (s2.mono (fun q h=> .inl (by omega)))
   rw [hRl] at hl
   have HT:=Lib.hid hT
   have S1:=Lib.hid s1
   have How1:=Lib.hid how1
   have Hb1:=Lib.hid hb1
   have HO1:=Lib.hid hO1
   have Hb2:=Lib.hid hb2
   have S2:=Lib.hid s2
   have How2:=Lib.hid how2
   have HO2:=Lib.hid hO2
   have HR2:=Lib.hid hR2
   have HRl:=Lib.hid hRl
   have Href:=Lib.hid href
   have Hm2:=Lib.hid hm2
   clear hT s1 how1 hb1 hO1 hb2 s2 how2 hO2 hR2 hRl href hm2
   go_wp2_with fail
   refine Href.out.mono ?_
   rintro e w3 ⟨rfl,ow3,hb3,hO3,hm3⟩
   rw [BS.told_set] at hb3
   rw [HRl.out] at hO3
   have hup:(B.upto (RS.loseR n true near) k).anew k ((B.R k).lose n true) near=B.upto (RS.loseR n true near) (k+1):=(BS.upto_succ _ _ _).symm
   rw [hup] at hb3
   have hm3':=Hm2.out.trans (hm3.mono (G:=fun q=>(c<q∧q<c+17)∨O.tg q) (fun q h=>h.elim (fun h=> .inl (by omega)) (fun h=> .inr h)))
   have ht00:¬((c<0∧0<c+17)∨O.tg 0):=fun h=>by
    rcases h with h|h
    ·omega
    ·have:=O.t2 0 h;omega
   have how3:=hm3'.owd Hw.out ht00
   have hSS:O.sends (O.sends s (upS B.R (loseS n true near) k)) (refrS ((B.R k).lose n true).M k near ((B.R k).lose n true).G)=O.sends s (upS B.R (loseS n true near) (k+1)):=(O.sends_app _ _ _).symm
   have hct:=O.sends_cnt (O.sends s (upS B.R (loseS n true near) k)) (refrS ((B.R k).lose n true).M k near ((B.R k).lose n true).G)
   rw [hSS] at hO3 hct
   have Hb3:=Lib.hid hb3
   have HO3:=Lib.hid hO3
   have Hm3:=Lib.hid hm3
   have Hup:=Lib.hid hup
   have Hm3':=Lib.hid hm3'
   have How3:=Lib.hid how3
   have HSS:=Lib.hid hSS
   clear hb3 hO3 hm3 hup hm3' how3 hSS ht00
   go_wp2_with fail
   go_roundw
   case rel=>exact ⟨k+1,ow3,by go_num,hlt,Hb3.out,HO3.out,by omega,Hm3'.out,How3.out⟩
   case measure=>simp [intOf];omega
  ·obtain rfl:k=4:=by omega
   have Hbr:=Lib.hid hbr
   have HOr:=Lib.hid hOr
   have Hmr:=Lib.hid hmr
   have How:=Lib.hid how
   clear hbr hOr hmr how
   go_wp2
   go_end0
   exact ⟨rfl,owr,⟨a,Hbr.out⟩,HOr.out,Hmr.out⟩
theorem announce_at (w0 w:World) (ow:Ow) (hw:Owd w0 w ow) (c g:Nat) (id:Int) (near:List Int) (B:BS) (h:Bro w ow c g id near B) (hL:B.L.length≤40) (hnl:near.length≤1000) (hnw:∀n∈near,(Lit.int .i64 n).wf=true)
 (q:Nat) (O:OutK w0 q) (s:O.σ) (hO:O.inv w ow s) (hOt:∀t,O.tg t→t<c∨c+18≤t) (hto:∀n∈near,∀t:Nat,t<4→O.okTo n t) (hcnt:O.cnt s≤200000000000) (hR:∀t,t<4→RS.Go (B.R t)) (n:Int) (hn:(Lit.int .i64 n).wf=true) (hton:O.okTo n (-1)):
 Calls Tryz.prog 30 #[.pointer (some ⟨g,0,none⟩),.iface 43 (.pointer (some ⟨q,0,none⟩)),.int .i64 n] w (AnnPost O w ow c g id near B n s):=by
 obtain ⟨a,h⟩:=h
 have hm0:Mov O.tg w ow w ow:=Mov.refl hw
 have ht0:¬O.tg 0:=fun h=>by have:=O.t2 0 h;omega
 obtain ⟨l0,la,lc, -,hl0, -,c0, -, -⟩:=h.logs
 have hlen:=plen_at w g la l0.length lc c0
 rw [hl0] at hlen
 have hL40:(B.L.length:Int)≤40:=by omega
 have Hw:=Lib.hid hw
 have H:=Lib.hid h
 have HO:=Lib.hid hO
 have HOt:=Lib.hid hOt
 have Hto:=Lib.hid hto
 have HR:=Lib.hid hR
 have Hn:=Lib.hid hn
 have Hnw:=Lib.hid hnw
 have Hm0:=Lib.hid hm0
 have Hton:=Lib.hid hton
 have Hlen:=Lib.hid hlen
 have Ht0:=Lib.hid ht0
 clear hw h hO hOt hto hR hn hnw hm0 hton hlen ht0 c0 hl0
 go_enter Tryz.func30,Tryz.ntmps30
 go_wp2_with fail
 refine Hlen.out.mono ?_
 rintro e w1 ⟨rfl,rfl⟩
 go_wp2_with fail
 go_loopw [14] (fun i wr=>∃(j:Nat) (owr:Ow),i= .int .i64 j∧j≤B.L.length∧BroA wr owr c g id near B a∧O.inv wr owr (O.sends s (polS n (B.L.take j)))∧O.cnt (O.sends s (polS n (B.L.take j)))≤O.cnt s+j∧Mov O.tg w ow wr owr∧Owd w0 wr owr) (fun i _=>B.L.length - (intOf i).toNat)
 case atStart=>exact ⟨0,ow,rfl,Nat.zero_le _,H.out,HO.out,Nat.le_refl _,Hm0.out,Hw.out⟩
 case round=>
  obtain ⟨j,owr,rfl,hj,hbr,hOr,hcr,hmr,how⟩:=hrel
  by_cases hlt:j<B.L.length
  ·have hlt':(j:Int)<B.L.length:=by omega
   obtain ⟨l,la,lc,hlB,hll,hlv,c0,hrs,hfin⟩:=hbr.logs
   have hru:=rule_at wr g la lc l c0 hrs (by omega) j
   obtain ⟨r,hr⟩:∃r,l[j]? =some r:=⟨_,List.getElem?_eq_getElem (by omega)⟩
   have hrr:ruleR l j=some r:=by unfold ruleR;rw [if_neg (by omega)];simpa using hr
   rw [hrr] at hru
   have hp:B.L[j]? =some r.pru:=by rw [←hlB,List.getElem?_map,hr];rfl
   have hru':Calls Tryz.prog 65 #[.pointer (some ⟨g,0,none⟩),.int .i64 j] wr fun e w'=>e= .returned (.tuple #[.agg #[.int .i64 r.kind,.int .i64 r.tenant,.string r.who,.int .i64 r.broker,.string r.sc,.slice r.ca r.cs.length r.cc,.string r.name,.int .i64 r.at_],.bool true])∧Mod (fun _=>False) wr w':=hru
   have hsu:=polS_succ hp n
   obtain ⟨hrf,hrc⟩:=hfin r (List.mem_of_getElem? hr)
   have Hbr:=Lib.hid hbr
   have HOr:=Lib.hid hOr
   have Hmr:=Lib.hid hmr
   have How:=Lib.hid how
   have HlB:=Lib.hid hlB
   have Hlv:=Lib.hid hlv
   have Hrs:=Lib.hid hrs
   have Hfin:=Lib.hid hfin
   have Hr:=Lib.hid hr
   have Hrr:=Lib.hid hrr
   have Hp:=Lib.hid hp
   have Hru:=Lib.hid hru
   have Hru':=Lib.hid hru'
   have Hsu:=Lib.hid hsu
   have Hrf:=Lib.hid hrf
   have Hrc:=Lib.hid hrc
   clear hbr hOr hmr how hlB hlv hrs hfin hr hrr hp hru hru' hsu hrf hrc c0
   go_wp2_with fail
   refine Hru'.out.mono ?_
   rintro e w2 ⟨rfl,hm2⟩
   obtain ⟨w3,hw3,hmw3,hgw3,hzw3⟩:=allocE w2 (.cells #[.int .i64 r.kind,.int .i64 r.tenant,.string r.who,.int .i64 r.broker,.string r.sc,.slice r.ca r.cs.length r.cc,.string r.name,.int .i64 r.at_] 35)
   have hm13:=hm2.trans hmw3 (fun _ _ h=>h)
   have s3:=Mov.of How.out hm13 (fun _=>False)
   have how3:=s3.owd How.out (fun h=>h)
   have hO3:=O.mov HOr.out How.out s3 (fun h=>h) (fun _ h=>h.elim)
   have hb3:=Hbr.out.mov How.out s3 (fun h=>h) (fun _ h=>h.elim)
   have hmv:MvOk w3 owr ⟨Mg.pol j r.pru,r.ca,r.cc,none,0,none,0⟩:=⟨⟨Hrc.out.mov s3 (fun h=>h) (by omega),Hrf.out⟩,ConSl.nil _ _ _,ConSl.nil _ _ _⟩
   have hsend:Calls Tryz.prog 294 #[.pointer (some ⟨q,0,none⟩),.int .i64 n,.int .i64 (-1),.agg #[.int .i64 0,.int .i64 j,.int .i64 r.kind,.int .i64 r.tenant,.string r.who,.int .i64 r.broker,.string r.sc,.slice r.ca r.cs.length r.cc,.string r.name,.int .i64 r.at_,
    .string ⟨#[]⟩,.slice none 0 0,.string ⟨#[]⟩,.slice none 0 0,.int .i64 0,.string ⟨#[]⟩,.int .i64 0]] w3 fun e w'=>e= .returned (.tuple #[])∧∃ow',O.inv w' ow' (O.send (O.sends s (polS n (B.L.take j))) n (-1) (Mg.pol j r.pru))∧Mov O.tg w3 owr w' ow':=
    O.hsend how3 hO3 (by omega) Hton.out hmv
   have hcs:=O.csend (O.sends s (polS n (B.L.take j))) n (-1) (Mg.pol j r.pru)
   have hgw:=hgw3
   have Hm2:=Lib.hid hm2
   have Hm13:=Lib.hid hm13
   have S3:=Lib.hid s3
   have How3:=Lib.hid how3
   have HO3:=Lib.hid hO3
   have Hb3:=Lib.hid hb3
   have Hmv:=Lib.hid hmv
   have Hsend:=Lib.hid hsend
   have Hgw:=Lib.hid hgw
   have Hw3:=Lib.hid hw3
   clear hm2 hm13 s3 how3 hO3 hb3 hmv hsend hgw hw3 hgw3 hmw3 hzw3
   go_wp2_with (first|((with_reducible refine wpList_store_lit 35 (.tmp 7) (.tmp 23) ?_);refine ⟨rfl,[.int .i64 r.kind,.int .i64 r.tenant,.string r.who,.int .i64 r.broker,.string r.sc,.slice r.ca r.cs.length r.cc,.string r.name,.int .i64 r.at_],rfl,rfl,by kernel_rfl,rfl, ?_⟩;rw [Hw3.out])|((with_reducible refine wpList_load_lit 35 (.tmp 7) ?_);refine ⟨w2.heap.size,0,rfl,[.int .i64 r.kind,.int .i64 r.tenant,.string r.who,.int .i64 r.broker,.string r.sc,.slice r.ca r.cs.length r.cc,.string r.name,.int .i64 r.at_],CellsAt.row Hgw.out,by kernel_rfl,by kernel_rfl, ?_⟩)|fail)
   refine Hsend.out.mono ?_
   rintro e w4 ⟨rfl,ow4,hO4,hm4⟩
   have how4:=hm4.owd How3.out Ht0.out
   have hb4:=Hb3.out.mov How3.out hm4 Ht0.out HOt.out
   have hmr4:=(Hmr.out.trans (S3.out.mono (G:=O.tg) (fun _ h=>h.elim))).trans hm4
   have How4:=Lib.hid how4
   have Hb4:=Lib.hid hb4
   have Hmr4:=Lib.hid hmr4
   have HO4:=Lib.hid hO4
   have Hm4:=Lib.hid hm4
   clear how4 hb4 hmr4 hO4 hm4
   go_wp2_with fail
   go_roundw
   case rel=>exact ⟨j+1,ow4,by go_num,hlt,Hb4.out,by rw [Hsu.out,O.sends_one];exact HO4.out,by rw [Hsu.out,O.sends_one];exact Nat.le_trans hcs (by omega),Hmr4.out,How4.out⟩
   case measure=>simp [intOf];omega
  ·obtain rfl:j=B.L.length:=by omega
   rw [List.take_length] at hOr hcr
   obtain ⟨S,hS⟩:∃S,O.sends s (polS n B.L)=S:=⟨_,rfl⟩
   rw [hS] at hOr hcr
   have hb0:BroA wr owr c g id near (B.upto (RS.loseR n false near) 0) a:=by rw [BS.upto_zero];exact hbr
   have hmr0:=hmr.mono (G:=fun q=>(c<q∧q<c+17)∨O.tg q) (fun _ h=> .inr h)
   obtain ⟨wp,rfl⟩:∃x:World,x=wr:=⟨_,rfl⟩
   have hrf0:Mov (fun q=>(c<q∧q<c+17)∨O.tg q) wp owr wp owr:=Mov.refl how
   have Hbr:=Lib.hid hbr
   have HOr:=Lib.hid hOr
   have Hmr:=Lib.hid hmr
   have How:=Lib.hid how
   have HS:=Lib.hid hS
   have Hb0:=Lib.hid hb0
   have Hmr0:=Lib.hid hmr0
   have Hrf0:=Lib.hid hrf0
   clear hbr hOr hmr how hS hb0 hmr0 hrf0
   go_wp2_with fail
   go_loopw [32] (fun i wr=>LsRel O wp owr c g id near B n false S i wr) (fun i _=>4 - (intOf i).toNat)
   case atStart=>exact ⟨0,owr,rfl,Nat.zero_le _,⟨a,Hb0.out⟩,HOr.out,by show O.cnt S≤_;omega,Hrf0.out,How.out⟩
   case round=>
    obtain ⟨k,owx,rfl,hk,⟨a,hbx⟩,hOx,hcx,hmx,howx⟩:=hrel
    by_cases hlt:k<4
    ·have hlt':(k:Int)<4:=by omega
     have hk0:(0:Int)≤k:=by omega
     have hRk:=BS.upto_at B (RS.loseR n false near) k
     have hc2:=hbx.c2
     obtain ⟨-, -, -,q3⟩:=hbx.cells hlt
     obtain ⟨w2,hdel,hb2,s2,how2⟩:=hbx.lose howx hlt n Hn.out
     have hO2:=O.mov hOx howx s2 (by omega) (fun q e he=>by have:=HOt.out q he;omega)
     rw [hRk] at hb2
     have hRl:=BS.setR_at (B.upto (RS.loseR n false near) k) k ((B.R k).lose n false)
     obtain ⟨href,hl⟩:=refresh_go w0 w2 owx c g id near ((B.upto (RS.loseR n false near) k).setR k ((B.R k).lose n false)) a how2 hb2 q O _ hO2 HOt.out k hlt (by omega) hnl Hnw.out (fun m hm=>Hto.out m hm k hlt) (by rw [hRl];exact (HR.out k hlt).lose n false)
     have hm2:=hmx.trans (s2.mono (G:=fun q=>(c<q∧q<c+17)∨O.tg q) (fun q h=> .inl (by omega)))
     rw [hRl] at hl
     have Hbx:=Lib.hid hbx
     have HOx:=Lib.hid hOx
     have Hmx:=Lib.hid hmx
     have Howx:=Lib.hid howx
     have HRk:=Lib.hid hRk
     have Hb2:=Lib.hid hb2
     have S2:=Lib.hid s2
     have How2:=Lib.hid how2
     have HO2:=Lib.hid hO2
     have HRl:=Lib.hid hRl
     have Href:=Lib.hid href
     have Hm2:=Lib.hid hm2
     clear hbx hOx hmx howx hRk hb2 s2 how2 hO2 hRl href hm2
     go_wp2_with fail
     refine Href.out.mono ?_
     rintro e w3 ⟨rfl,ow3,hb3,hO3,hm3⟩
     rw [BS.told_set] at hb3
     rw [HRl.out] at hO3
     have hup:(B.upto (RS.loseR n false near) k).anew k ((B.R k).lose n false) near=B.upto (RS.loseR n false near) (k+1):=(BS.upto_succ _ _ _).symm
     rw [hup] at hb3
     have hm3':=Hm2.out.trans (hm3.mono (G:=fun q=>(c<q∧q<c+17)∨O.tg q) (fun q h=>h.elim (fun h=> .inl (by omega)) (fun h=> .inr h)))
     have ht00:¬((c<0∧0<c+17)∨O.tg 0):=fun h=>by
      rcases h with h|h
      ·omega
      ·exact Ht0.out h
     have how3:=hm3'.owd How.out ht00
     have hSS:O.sends (O.sends S (upS B.R (loseS n false near) k)) (refrS ((B.R k).lose n false).M k near ((B.R k).lose n false).G)=O.sends S (upS B.R (loseS n false near) (k+1)):=(O.sends_app _ _ _).symm
     have hct:=O.sends_cnt (O.sends S (upS B.R (loseS n false near) k)) (refrS ((B.R k).lose n false).M k near ((B.R k).lose n false).G)
     rw [hSS] at hO3 hct
     have Hb3:=Lib.hid hb3
     have HO3:=Lib.hid hO3
     have Hm3:=Lib.hid hm3
     have Hup:=Lib.hid hup
     have Hm3':=Lib.hid hm3'
     have How3:=Lib.hid how3
     have HSS:=Lib.hid hSS
     clear hb3 hO3 hm3 hup hm3' how3 hSS ht00
     go_wp2_with fail
     go_roundw
     case rel=>exact ⟨k+1,ow3,by go_num,hlt,Hb3.out,HO3.out,by omega,Hm3'.out,How3.out⟩
     case measure=>simp [intOf];omega
    ·obtain rfl:k=4:=by omega
     have hmz:=Hmr0.out.trans hmx
     have Hbx:=Lib.hid hbx
     have HOx:=Lib.hid hOx
     have Hmx:=Lib.hid hmx
     have Howx:=Lib.hid howx
     have Hmz:=Lib.hid hmz
     clear hbx hOx hmx howx hmz
     go_wp2
     go_end0
     exact ⟨rfl,owx,⟨a,Hbx.out⟩,by rw [O.sends_app,HS.out];exact HOx.out,Hmz.out⟩
theorem allQ_drop (M:List (Int×Fil)) (n:Int):allQ (tabX M n) n=[]:=by
 unfold allQ
 have e:keysL (tabX M n) n=[]:=List.eq_nil_iff_forall_not_mem.2 fun k hk=>by
  rw [keysL_mem,tabF_drop,if_pos rfl] at hk
  cases hk
 rw [e,show riseS []=[] from List.mergeSort_nil]
 rfl
theorem allQ_in {M:List (Int×Fil)} {n:Int} {f:Fil} (h:f∈allQ M n):(n,f)∈M:=by
 unfold allQ at h
 obtain ⟨k, -,h2⟩:=List.mem_filterMap.1 h
 exact (tabF_some h2).1
theorem lackF_self (l:List Fil):lackF l l=[]:=List.filter_eq_nil_iff.2 fun f hf=>by
 have h:(kF l (keyF f)).isSome=true:=kF_in.2 (List.mem_map_of_mem hf)
 cases hk:kF l (keyF f) with
 |none=>rw [hk] at h;cases h
 |some q=>simp
theorem RInv.lose {R:RS} {j:Nat} (h:RInv R j) (n:Int) (gone:Bool):RInv (R.loseR n gone [1,2]) (j+1):=by
 have h1:=h.n
 have h2:=h.t
 have h3:=h.k
 refine ⟨?_, ?_, ?_,fun p hp=> ?_,h.s,h.sf,fun p hp=>⟨(h.si p hp).1,by have:=(h.si p hp).2;omega⟩,h.is,fun m=>refr_g (fun m hm=> ?_) m⟩
 ·show R.N≤j+1;omega
 ·show R.T≤_;omega
 ·show R.K+2≤_;omega
 ·have hp':p∈(if gone then tabX R.M n else R.M):=hp
  cases gone with
  |true=>exact h.m p (tabX_sub hp')
  |false=>exact h.m p hp'
 ·show updI R.G n [] m=[]
  unfold updI
  split
  ·rfl
  ·rw [h.g,if_neg hm]
theorem loseS_new {R:RS} {j:Nat} (h:RInv R j) (t:Nat):loseS 2 false [1,2] t R=(outL R.M 2).map fun f=>((2:Int),(t:Int),Mg.sub f):=by
 show tellN 1 t (updI R.G 2 [] 1) (outL R.M 1)++(tellN 2 t (updI (updI R.G 2 []) 1 (outL R.M 1) 2) (outL R.M 2)++[])=_
 have e1:updI R.G 2 [] 1=outL R.M 1:=by
  rw [updI_ne _ _ (by decide),h.g]
  rfl
 have e2:updI (updI R.G 2 []) 1 (outL R.M 1) 2=[]:=by rw [updI_ne _ _ (by decide),updI_at]
 rw [e1,e2,List.append_nil]
 unfold tellN
 rw [lackF_self,lackF_nil,show lackF [] (outL R.M 2)=[] from rfl]
 simp
def polN (S:List Sd):Nat:=(S.filter fun x=>decide (x.2.2.kind=0)).length
def toldL (S:List Sd) (t:Nat):List Fil:=(S.filter fun x=>decide (x.2.2.kind=1)&&decide (x.2.1=(t:Int))).map fun x=>(x.2.2.fs,x.2.2.fl)
theorem polN_succ {S:List Sd} {k:Nat} {x:Sd} (h:S[k]? =some x):polN (S.take (k+1))=polN (S.take k)+if x.2.2.kind=0 then 1 else 0:=by
 unfold polN
 rw [List.take_add_one,h,Option.toList_some,List.filter_append,List.length_append]
 by_cases e:x.2.2.kind=0<;>simp [e]
theorem toldL_succ {S:List Sd} {k:Nat} {x:Sd} (h:S[k]? =some x) (t:Nat):toldL (S.take (k+1)) t=toldL (S.take k) t++if x.2.2.kind=1∧x.2.1=(t:Int) then [(x.2.2.fs,x.2.2.fl)] else []:=by
 unfold toldL
 rw [List.take_add_one,h,Option.toList_some,List.filter_append,List.map_append]
 congr 1
 by_cases e:x.2.2.kind=1∧x.2.1=(t:Int)
 ·rw [if_pos e];simp [e.1,e.2]
 ·rw [if_neg e]
  have:(decide (x.2.2.kind=1)&&decide (x.2.1=(t:Int)))=false:=by
   rw [Bool.eq_false_iff]
   intro h
   simp only [Bool.and_eq_true,decide_eq_true_eq] at h
   exact e h
  simp [this]
def SaidOk (S:List Sd):Prop:=∀k x,S[k]? =some x→x.1=2∧((x.2.2.kind=0∧x.2.1= -1∧x.2.2.at_=((polN (S.take k):Nat):Int))∨(x.2.2.kind=1∧∃t:Nat,t<4∧x.2.1=(t:Int)))
theorem polS_at {L:List PRu} {k:Nat} {x:Sd} (h:(polS 2 L)[k]? =some x):∃p,x=(2, -1,Mg.pol k p):=by
 unfold polS at h
 rw [List.getElem?_map,Option.map_eq_some_iff] at h
 obtain ⟨⟨p,i⟩,h1,rfl⟩:=h
 rw [List.getElem?_zipIdx,Option.map_eq_some_iff] at h1
 obtain ⟨p',h2,h3⟩:=h1
 cases h3
 exact ⟨p,by simp⟩
theorem polS_len (L:List PRu):(polS 2 L).length=L.length:=by unfold polS;simp
theorem polN_pol (S:List Sd) (h:∀x∈S,x.2.2.kind=0):polN S=S.length:=by
 unfold polN
 rw [List.filter_eq_self.2 fun x hx=>by simp [h x hx]]
theorem polS_zero {L:List PRu} {x:Sd} (h:x∈polS 2 L):x.2.2.kind=0∧x.2.1= -1:=by
 obtain ⟨k,hk⟩:=List.mem_iff_getElem?.1 h
 obtain ⟨p,rfl⟩:=polS_at hk
 exact ⟨rfl,rfl⟩
theorem said_ok {L:List PRu} {A:List Sd} (hA:∀x∈A,x.1=2∧x.2.2.kind=1∧∃t:Nat,t<4∧x.2.1=(t:Int)):SaidOk (polS 2 L++A):=fun k x hx=>by
 by_cases hk:k<(polS 2 L).length
 ·rw [List.getElem?_append_left hk] at hx
  have hz:∀y∈(polS 2 L).take k,y.2.2.kind=0:=fun y hy=>(polS_zero (List.mem_of_mem_take hy)).1
  obtain ⟨p,rfl⟩:=polS_at hx
  refine ⟨rfl,.inl ⟨rfl,rfl, ?_⟩⟩
  rw [List.take_append_of_le_length (Nat.le_of_lt hk),polN_pol _ hz,List.length_take]
  show (k:Int)=_
  omega
 ·rw [List.getElem?_append_right (by omega)] at hx
  obtain ⟨h1,h2,h3⟩:=hA x (List.mem_of_getElem? hx)
  exact ⟨h1,.inr ⟨h2,h3⟩⟩
theorem polN_app (S T:List Sd):polN (S++T)=polN S+polN T:=by unfold polN;simp
theorem toldL_app (S T:List Sd) (t:Nat):toldL (S++T) t=toldL S t++toldL T t:=by unfold toldL;simp
def subsS (Q:Nat→List Fil) (t:Nat):List Sd:=(Q t).map fun f=>((2:Int),(t:Int),Mg.sub f)
theorem subsS_mem {Q:Nat→List Fil} {t:Nat} (ht:t<4) {x:Sd} (h:x∈subsS Q t):x.1=2∧x.2.2.kind=1∧∃t:Nat,t<4∧x.2.1=t:=by
 obtain ⟨f, -,rfl⟩:=List.mem_map.1 h
 exact ⟨rfl,rfl,t,ht,rfl⟩
theorem subsS_pol (Q:Nat→List Fil) (t:Nat):polN (subsS Q t)=0:=by
 unfold polN subsS
 rw [List.length_eq_zero_iff,List.filter_eq_nil_iff]
 intro x hx
 obtain ⟨f, -,rfl⟩:=List.mem_map.1 hx
 simp [Mg.sub]
theorem subsS_told (Q:Nat→List Fil) (s t:Nat):toldL (subsS Q s) t=if s=t then Q t else []:=by
 unfold toldL subsS
 by_cases e:s=t
 ·subst e
  rw [if_pos rfl,List.filter_eq_self.2 fun x hx=>by
   obtain ⟨f, -,rfl⟩:=List.mem_map.1 hx
   simp [Mg.sub],List.map_map]
  exact List.map_id' _
 ·rw [if_neg e,List.filter_eq_nil_iff.2 fun x hx=>by
   obtain ⟨f, -,rfl⟩:=List.mem_map.1 hx
   have:¬(s:Int)=t:=by omega
   simp [this]]
  rfl
def annS (L:List PRu) (Q:Nat→List Fil):List Sd:=polS 2 L++(subsS Q 0++subsS Q 1++subsS Q 2++subsS Q 3)
theorem annS_ok (L:List PRu) (Q:Nat→List Fil):SaidOk (annS L Q):=said_ok fun x hx=>by
 rcases List.mem_append.1 hx with hx|hx
 ·rcases List.mem_append.1 hx with hx|hx
  ·rcases List.mem_append.1 hx with hx|hx
   ·exact subsS_mem (by decide) hx
   ·exact subsS_mem (by decide) hx
  ·exact subsS_mem (by decide) hx
 ·exact subsS_mem (by decide) hx
theorem annS_pol (L:List PRu) (Q:Nat→List Fil):polN (annS L Q)=L.length:=by
 unfold annS
 rw [polN_app,polN_app,polN_app,polN_app,subsS_pol,subsS_pol,subsS_pol,subsS_pol,polN_pol _ (fun x hx=>(polS_zero hx).1),polS_len]
 rfl
theorem annS_told (L:List PRu) (Q:Nat→List Fil) {t:Nat} (ht:t<4):toldL (annS L Q) t=Q t:=by
 have h0:toldL (polS 2 L) t=[]:=by
  unfold toldL
  rw [List.filter_eq_nil_iff.2 fun x hx=>by
   have:=(polS_zero hx).1
   simp [this]]
  rfl
 unfold annS
 rw [toldL_app,toldL_app,toldL_app,toldL_app,h0,subsS_told,subsS_told,subsS_told,subsS_told]
 have h4:t=0∨t=1∨t=2∨t=3:=by omega
 rcases h4 with rfl|rfl|rfl|rfl<;>simp
theorem annS_len (L:List PRu) (Q:Nat→List Fil) {X:Nat} (hQ:∀t,t<4→(Q t).length≤X):(annS L Q).length≤L.length+4*X:=by
 unfold annS subsS
 have h0:=hQ 0 (by decide)
 have h1:=hQ 1 (by decide)
 have h2:=hQ 2 (by decide)
 have h3:=hQ 3 (by decide)
 simp only [List.length_append,List.length_map,polS_len]
 omega
theorem ann_is {B:BS} {j:Nat} (h:BInv B j) (L:List PRu):polS 2 L++upS B.R (loseS 2 false [1,2]) 4=annS L fun t=>outL (B.R t).M 2:=by
 show polS 2 L++((([]++loseS 2 false [1,2] 0 (B.R 0))++loseS 2 false [1,2] 1 (B.R 1))++loseS 2 false [1,2] 2 (B.R 2)++loseS 2 false [1,2] 3 (B.R 3))=_
 rw [loseS_new (h 0 (by decide)),loseS_new (h 1 (by decide)),loseS_new (h 2 (by decide)),loseS_new (h 3 (by decide)),List.nil_append]
 rfl
theorem BInv.upto {B:BS} {j:Nat} (h:BInv B j) (n:Int) (gone:Bool):BInv (B.upto (RS.loseR n gone [1,2]) 4) (j+1):=fun t ht=>by
 have e:(B.upto (RS.loseR n gone [1,2]) 4).R t=(B.R t).loseR n gone [1,2]:=if_pos ht
 rw [e]
 exact (h t ht).lose n gone
theorem okN_cs {q:Fil} (h:okN q):okCs q.2:=by
 obtain ⟨l,h1,h2,h3⟩:=h
 rw [h3]
 exact fun c hc=>⟨(normC_fine h1 h2 c hc).op,(normC_fine h1 h2 c hc).num⟩
theorem forg_cov {M:List (Int×Fil)} (hM:∀p∈M,okN p.2) {f:Fil} (h:f∈allQ M 1):∃g∈outL M 2,covQ g f=true:=by
 have hm:=allQ_in h
 obtain ⟨r,hr⟩:=allF_has hm (show (1:Int)≠2 by decide)
 obtain ⟨h1,y, -,h2⟩:=allF_some hr
 obtain rfl:r=f:=okN_inj (hM _ h2) (hM _ hm) h1
 exact outL_cover (fun p hp=>okN_cs (hM p hp)) _ _ _ hr (Nat.le_refl _)
structure Told (wS wT wr:World) (tb:Nat) (cells:List Value) (L:Nat→List Fr):Prop where
 len:cells.length=4
 row:wr.heap[tb]? =some (.cells cells.toArray 91 (0,0))
 lt:tb<wT.heap.size
 sl:∀t,t<4→∃a cap,cells[t]? =some (.slice a (L t).length cap)∧OwnSl wr 33 2 (.slice a (L t).length cap) (L t).length ((L t).flatMap Fr.cells)∧∀b,(Value.slice a (L t).length cap).ownBlock=some b→wT.heap.size≤b
 ne:∀(t u:Nat) (v v':Value) (b:Nat),t≠u→cells[t]? =some v→cells[u]? =some v'→v.ownBlock=some b→v'.ownBlock≠some b
 rd:∀t,t<4→∀f∈L t,RdSl wS 7 (.slice f.a f.cs.length f.c) f.cs.length (cnds f.cs)
 md:Mod (fun k=>k=tb) wT wr
 m0:Mod (fun _=>False) wS wr
 tb0:wS.heap.size≤tb
theorem Told.new {wS wT:World} {tb:Nat} (h:wT.heap[tb]? =some (.cells #[.slice none 0 0,.slice none 0 0,.slice none 0 0,.slice none 0 0] 91 (0,0))) (hm:Mod (fun _=>False) wS wT) (h0:wS.heap.size≤tb):Told wS wT wT tb [.slice none 0 0,.slice none 0 0,.slice none 0 0,.slice none 0 0] (fun _=>[]):=by
 refine ⟨rfl,h,(Array.getElem?_eq_some_iff.1 h).1,fun t ht=>⟨none,0, ?_,OwnSl.nil _ _ _,fun b hb=>(by cases hb)⟩,fun t u v v' b hn hv hv' hb=> ?_,fun t ht f hf=>(by cases hf),Mod.refl _ _,hm,h0⟩
 ·have h4:t=0∨t=1∨t=2∨t=3:=by omega
  rcases h4 with rfl|rfl|rfl|rfl<;>rfl
 ·have hm:=List.mem_of_getElem? hv
  simp only [List.mem_cons,List.not_mem_nil,or_false,or_self] at hm
  subst hm
  cases hb
theorem Told.mod {wS wT wr w':World} {tb:Nat} {cells:List Value} {L:Nat→List Fr} (h:Told wS wT wr tb cells L) (hm:Mod (fun _=>False) wr w'):Told wS wT w' tb cells L:=
 ⟨h.len,hm.heap h.row (fun h=>h),h.lt,fun t ht=>by
  obtain ⟨a,cap,h1,h2,h3⟩:=h.sl t ht
  exact ⟨a,cap,h1,h2.mod hm (fun _ _ h=>h),h3⟩,h.ne,h.rd,h.md.trans (hm.mono (fun _ _ h=>h.elim)) (fun _ _ h=>h),h.m0.trans hm (fun _ _ h=>h),h.tb0⟩
theorem Told.cell {wS wT wr:World} {tb:Nat} {cells:List Value} {L:Nat→List Fr} (h:Told wS wT wr tb cells L) {t:Nat} {v:Value} (hv:cells[t]? =some v):wr.cell? ⟨tb,t,none⟩=some v:=(cell_of_row wr tb t _ _ _ h.row).trans (by simpa using hv)
theorem Told.rdc {wS wT wr:World} {tb:Nat} {cells:List Value} {L:Nat→List Fr} (h:Told wS wT wr tb cells L) {t:Nat} (ht:t<4) {f:Fr} (hf:f∈L t):RdSl wr 7 (.slice f.a f.cs.length f.c) f.cs.length (cnds f.cs):=(h.rd t ht f hf).mod h.m0 (fun _ _ h=>h)
theorem Told.app {wS wT wr wz w6 w7:World} {tb:Nat} {cells:List Value} {L:Nat→List Fr} (h:Told wS wT wr tb cells L) {t:Nat} (ht:t<4) {a:Option Addr} {cap:Nat} (hc:cells[t]? =some (.slice a (L t).length cap)) (fr:Fr) (hfr:RdSl wS 7 (.slice fr.a fr.cs.length fr.c) fr.cs.length (cnds fr.cs))
 (hz:Mod (fun _=>False) wr wz) {v':Value} (hA:Appended wz 33 2 (.slice a (L t).length cap) ((L t).length+1) ((L t).flatMap Fr.cells++fr.cells) v' w6) (h7:w7.heap[tb]? =some (.cells (cells.set t v').toArray 91 (0,0))) (hm7:Mod (fun k=>k=tb) w6 w7):
 Told wS wT w7 tb (cells.set t v') (upd L t (L t++[fr])):=by
 obtain ⟨hA1,hA2,hA3⟩:=hA
 have hlt:=h.lt
 have hsz:=h.md.size
 have hzs:=hz.size
 obtain ⟨a0,c0,hc0,ho0,hb0⟩:=h.sl t ht
 rw [hc] at hc0
 cases hc0
 have hvb:∀b,v'.ownBlock=some b→((Value.slice a (L t).length cap).ownBlock=some b∧wT.heap.size≤b)∨wz.heap.size≤b:=fun b hb=>by
  rcases hA3 with e|⟨k,e,hk⟩
  ·rw [e] at hb
   exact .inl ⟨hb,hb0 b hb⟩
  ·rw [e] at hb
   cases hb
   exact .inr hk
 have hl4:=h.len
 have hset:∀u v,(cells.set t v')[u]? =some v→(u=t∧v=v')∨(u≠t∧cells[u]? =some v∧u<4):=fun u v hu=>by
  rw [List.getElem?_set] at hu
  by_cases e:t=u
  ·rw [if_pos e,if_pos (by omega)] at hu
   exact .inl ⟨e.symm,(Option.some.inj hu).symm⟩
  ·rw [if_neg e] at hu
   exact .inr ⟨fun e2=>e e2.symm,hu,by have:=(List.getElem?_eq_some_iff.1 hu).1;omega⟩
 refine ⟨by rw [List.length_set];exact h.len,h7,h.lt,fun u hu=> ?_,fun x y v w b hn hv hw hb hb'=> ?_,fun u hu f hf=> ?_, ?_, ?_,h.tb0⟩
 ·by_cases e:u=t
  ·subst e
   obtain ⟨a',c',e', -⟩:=hA1.shape
   rw [upd_at]
   refine ⟨a',c', ?_, ?_,fun b hb=> ?_⟩
   ·rw [List.getElem?_set_self (by omega),e',List.length_append]
    rfl
   ·rw [List.length_append,List.flatMap_append]
    have h1:=hA1.mod hm7 (fun b hb e=>by
     have h2:b=tb:=e
     rcases hvb b hb with h3|h3<;>omega)
    rw [e'] at h1
    simpa using h1
   ·rw [List.length_append] at hb
    have hb2:v'.ownBlock=some b:=by rw [e'];exact hb
    rcases hvb b hb2 with h3|h3<;>omega
  ·rw [upd_ne _ _ e]
   obtain ⟨a1,c1,h1,h2,h3⟩:=h.sl u hu
   refine ⟨a1,c1,by rw [List.getElem?_set_ne (fun e2=>e e2.symm)];exact h1,((h2.mod hz (fun _ _ h=>h)).mod hA2 (fun b hb hin=>h.ne u t _ _ b e h1 hc hb hin)).mod hm7 (fun b hb e=> ?_),h3⟩
   have h4:b=tb:=e
   have:=h3 b hb
   omega
 ·have old:∀(u:Nat) (v:Value),u<4→cells[u]? =some v→∀b,v.ownBlock=some b→b<wr.heap.size:=fun u v hu hc b hb=>by
   obtain ⟨a1,c1,h1,h2, -⟩:=h.sl u hu
   rw [h1] at hc
   cases hc
   exact h2.lt b hb
  rcases hset x v hv with ⟨rfl,rfl⟩|⟨h1,h2,h2'⟩
  ·rcases hset y w hw with ⟨rfl,rfl⟩|⟨h3,h4,h4'⟩
   ·exact hn rfl
   ·rcases hvb b hb with h5|h5
    ·exact h.ne _ _ _ _ b hn hc h4 h5.1 hb'
    ·have:=old y w h4' h4 b hb'
     omega
  ·rcases hset y w hw with ⟨rfl,rfl⟩|⟨h3,h4,h4'⟩
   ·rcases hvb b hb' with h5|h5
    ·exact h.ne _ _ _ _ b hn h2 hc hb h5.1
    ·have:=old x v h2' h2 b hb
     omega
   ·exact h.ne _ _ _ _ b hn h2 h4 hb hb'
 ·by_cases e:u=t
  ·subst e
   rw [upd_at] at hf
   rcases List.mem_append.1 hf with hf|hf
   ·exact h.rd u hu f hf
   ·rw [List.mem_singleton.1 hf];exact hfr
  ·rw [upd_ne _ _ e] at hf
   exact h.rd u hu f hf
 ·refine ((h.md.trans (hz.mono (fun _ _ h=>h.elim)) (fun _ _ h=>h)).upon hA2 (fun b hb=> .inr (hb0 b hb))).trans hm7 (fun _ _ h=>h)
 ·have h0:=h.tb0
  refine ((h.m0.trans hz (fun _ _ h=>h)).upon hA2 (fun b hb=> .inr (by have:=hb0 b hb;omega))).upon hm7 (fun b hb=> .inr ?_)
  have h1:b=tb:=hb
  omega
def TdRel (wS wT:World) (tb:Nat) (S:List Sv) (nv i:Value) (wr:World):Prop:=
 ∃(k:Nat) (cells:List Value) (L:Nat→List Fr),nv= .int .i64 ((polN ((S.map Sv.sd).take k):Nat):Int)∧i= .int .i64 k∧k≤S.length∧Told wS wT wr tb cells L∧∀t,t<4→(L t).map Fr.fil=toldL ((S.map Sv.sd).take k) t
theorem polN_le (S:List Sd) (k:Nat):polN (S.take k)≤k:=by
 unfold polN
 refine Nat.le_trans (List.length_filter_le _ _) ?_
 rw [List.length_take]
 omega
structure AskI (w wr:World) (owr:Ow) (g q:Nat) (P:List PRu) (B:BS) (j:Nat) (S:List Sd) (H:List Hn):Prop where
 ow:Owd w wr owr
 br:Bro wr owr 2 g 0 [1,2] B
 L:B.L=P
 R:BInv B j
 O:OtI wr owr 40 q S H
 cnt:S.length+H.length≤j*4000000+1000000
 md:Mod (fun _=>False) w wr
theorem AskI.go {w wr:World} {owr:Ow} {g q:Nat} {P:List PRu} {B:BS} {j:Nat} {S:List Sd} {H:List Hn} (h:AskI w wr owr g q P B j S H) (hj:j≤900) (t:Nat) (ht:t<4):RS.Go (B.R t):=by
 obtain ⟨a,hb⟩:=h.br
 exact (h.R t ht).go hj (hb.rea t ht).tab
theorem AskI.low {w wr:World} {owr:Ow} {g q:Nat} {P:List PRu} {B:BS} {j:Nat} {S:List Sd} {H:List Hn} (h:AskI w wr owr g q P B j S H) (t:Nat) (ht:t<4):(B.R t).M.length≤(B.R t).N:=by
 obtain ⟨a,hb⟩:=h.br
 exact TabC.len (hb.rea t ht).tab
theorem AskI.mod {w wr w':World} {owr:Ow} {g q:Nat} {P:List PRu} {B:BS} {j:Nat} {S:List Sd} {H:List Hn} (h:AskI w wr owr g q P B j S H) (hm:Mod (fun _=>False) wr w'):AskI w w' owr g q P B j S H:=
 have s:=Mov.of h.ow hm (fun _=>False)
 ⟨s.owd h.ow (fun h=>h),h.br.mov h.ow s (fun h=>h) (fun _ h=>h.elim),h.L,h.R,h.O.mov s (fun h=>h) (fun h=>h),h.cnt,h.md.trans hm (fun _ _ h=>h)⟩
theorem near_wf:∀n∈([1,2]:List Int),(Lit.int .i64 n).wf=true:=by decide
theorem RS.hear_M (R:RS) (frm:Int) (f:Fil) (on:Bool):(R.hear frm f on).M.length≤R.M.length+1∧(R.hear frm f on).G=R.G:=by
 cases on with
 | true=>
  refine ⟨?_,(R.tadd_eq frm f).1⟩
  show (R.tadd frm f).M.length≤_
  unfold RS.tadd
  split
  ·show (R.M++[_]).length≤_
   rw [List.length_append]
   exact Nat.le_refl _
  ·exact Nat.le_succ _
 |false=>
  refine ⟨Nat.le_trans (List.length_filter_le _ _) (Nat.le_succ _),rfl⟩
theorem BS.takeS_len {B:BS} {t:Nat} (hR:RS.Go (B.R t)) (hM:(B.R t).M.length≤(B.R t).N) (frm:Int) (f:Fil) (on:Bool):(B.takeS [1,2] t frm f on).length≤4000000:=by
 unfold BS.takeS
 split
 ·obtain ⟨h1, -⟩:=(B.R t).hear_M frm f on
  exact refrS_len (near:=[1,2]) hR.g.len (by have:=hR.n;omega) t
 ·exact Nat.zero_le _
theorem BS.subS_len {B:BS} {t:Nat} (hR:RS.Go (B.R t)) (hM:(B.R t).M.length≤(B.R t).N) (id:Int) (who:ByteArray) (k:Int) (fs:ByteArray) (fl:List Cnd):(B.subS id [1,2] t who k fs fl).length≤4000000:=by
 unfold BS.subS
 split
 ·obtain ⟨h1, -⟩:=(((B.R t).addS k who (fs,normC fl)).addI k (fs,normC fl)).hear_M (-1) (fs,normC fl) true
  exact refrS_len (near:=[1,2]) hR.g.len (by have:=hR.n;have h2:((B.R t).sub k who (fs,normC fl)).M.length≤(B.R t).M.length+1:=h1;omega) t
 ·exact Nat.zero_le _
theorem AskI.take {w wr:World} {owr:Ow} {g q:Nat} {P:List PRu} {B:BS} {j:Nat} {S:List Sd} {H:List Hn} (h:AskI w wr owr g q P B j S H) (hj:j≤40) (t:Nat) (ht:t<4) (frm:Int) (hfw:(Lit.int .i64 frm).wf=true) (on:Bool)
 (x:Mv) (hk:x.m.kind=tkK on) (hf:RdSl wr 7 (.slice x.fa x.m.fl.length x.fc) x.m.fl.length (cnds x.m.fl)) (hfr:filRight x.m.fs x.m.fl=true) (hft:∀c∈x.m.fl,c.fits):
 Calls Tryz.prog 26 #[.pointer (some ⟨g,0,none⟩),.iface 43 (.pointer (some ⟨q,0,none⟩)),.int .i64 frm,.int .i64 t,.agg x.cells.toArray] wr fun e w'=>e= .returned (.bool true)∧
  ∃ow',AskI w w' ow' g q P (B.takeB [1,2] t frm (x.m.fs,normC x.m.fl) on) (j+1) (S++B.takeS [1,2] t frm (x.m.fs,normC x.m.fl) on) H∧Mov (reaF 2 t (fun t=>t=40)) wr owr w' ow':=by
 have hR:=h.go (by omega) t ht
 have hl:=BS.takeS_len hR (h.low t ht) frm (x.m.fs,normC x.m.fl) on
 have hc:=h.cnt
 refine (take_sub on w wr owr h.ow 2 g 0 [1,2] B h.br (by decide) near_wf t ht q (out17 w q 40 (by omega)) (S,H) h.O (fun t ht=>by have h':t=40:=ht;omega) (fun _ _=>trivial) (by show S.length+H.length≤_;omega) hR frm hfw x hk hf hfr hft).mono ?_
 rintro e w' ⟨he,ow',hb,hO,hm⟩
 rw [sends17] at hO
 have h0:¬reaF 2 t (fun t=>t=40) 0:=fun h=>by
  rcases h with h|h
  ·omega
  ·cases h
 exact ⟨he,ow',⟨hm.owd h.ow h0,hb,by rw [BS.takeB_L];exact h.L,h.R.take ht frm (okN_of hfr hft) on,hO,by rw [List.length_append];omega,hm.mod0 h.ow h.md h0⟩,hm⟩
theorem AskI.take1 {w wr:World} {owr:Ow} {g q:Nat} {P:List PRu} {B:BS} {j:Nat} {S:List Sd} {H:List Hn} (h:AskI w wr owr g q P B j S H) (hj:j≤40) (t:Nat) (ht:t<4) (frm:Int) (hfw:(Lit.int .i64 frm).wf=true)
 {fs:ByteArray} {fa:Option Addr} {fc:Nat} {fl:List Cnd} (hf:RdSl wr 7 (.slice fa fl.length fc) fl.length (cnds fl)) (hfr:filRight fs fl=true) (hft:∀c∈fl,c.fits):
 Calls Tryz.prog 26 #[.pointer (some ⟨g,0,none⟩),.iface 43 (.pointer (some ⟨q,0,none⟩)),.int .i64 frm,.int .i64 t,.agg #[.int .i64 1,.int .i64 0,.int .i64 0,.int .i64 0,.string ⟨#[]⟩,.int .i64 0,.string ⟨#[]⟩,.slice none 0 0,.string ⟨#[]⟩,.int .i64 0,
  .string fs,.slice fa fl.length fc,.string ⟨#[]⟩,.slice none 0 0,.int .i64 0,.string ⟨#[]⟩,.int .i64 0]] wr fun e w'=>e= .returned (.bool true)∧
  ∃ow',AskI w w' ow' g q P (B.takeB [1,2] t frm (fs,normC fl) true) (j+1) (S++B.takeS [1,2] t frm (fs,normC fl) true) H∧Mov (reaF 2 t (fun t=>t=40)) wr owr w' ow':=
 h.take hj t ht frm hfw true ⟨Mg.sub (fs,fl),none,0,fa,fc,none,0⟩ rfl hf hfr hft
theorem AskI.next {w wr:World} {owr:Ow} {g q:Nat} {P:List PRu} {B:BS} {j:Nat} {S:List Sd} {H:List Hn} (h:AskI w wr owr g q P B j S H):AskI w wr owr g q P B (j+1) S H:=
 ⟨h.ow,h.br,h.L,fun t ht=>(h.R t ht).mono (Nat.le_succ _),h.O,Nat.le_trans h.cnt (Nat.add_le_add_right (Nat.mul_le_mul_right _ (Nat.le_succ _)) _),h.md⟩
theorem AskI.sub {w wr:World} {owr:Ow} {g q:Nat} {P:List PRu} {B:BS} {j:Nat} {S:List Sd} {H:List Hn} (h:AskI w wr owr g q P B j S H) (hP:P.length≤40) (hj:j≤40) (t:Nat) (ht:t<4) (who:ByteArray)
 (fs:ByteArray) (fa:Option Addr) (fc:Nat) (fl:List Cnd) (hf:RdSl wr 7 (.slice fa fl.length fc) fl.length (cnds fl)) (hfs:fs.size≤1000000) (hfl:fl.length≤1000) (hft:∀c∈fl,c.fits):
 Calls Tryz.prog 27 #[.pointer (some ⟨g,0,none⟩),.iface 43 (.pointer (some ⟨q,0,none⟩)),.int .i64 t,.string who,.int .i64 j,.agg #[.string fs,.slice fa fl.length fc]] wr fun e w'=>e= .returned (.int .i64 (B.subE 0 t who fs fl))∧
  ∃ow',AskI w w' ow' g q P (B.subB 0 [1,2] t who j fs fl) (j+1) (S++B.subS 0 [1,2] t who j fs fl) H∧Mov (reaF 2 t (fun t=>t=40)) wr owr w' ow':=by
 have hR:=h.go (by omega) t ht
 have hl:=BS.subS_len hR (h.low t ht) 0 who j fs fl
 have hc:=h.cnt
 obtain ⟨hn1,hn2⟩:=(h.R t ht).none
 refine (subscribe_at w wr owr h.ow 2 g 0 [1,2] B h.br (by rw [h.L];exact hP) (by decide) near_wf t ht q (out17 w q 40 (by omega)) (S,H) h.O (fun t ht=>by have h':t=40:=ht;omega) (fun _ _=>trivial) (by show S.length+H.length≤_;omega) hR who j (wf_small ⟨by omega,by omega⟩) hn1 hn2 fs fa fc fl hf hfs hfl hft).mono ?_
 rintro e w' ⟨he,ow',hb,hO,hm⟩
 rw [sends17] at hO
 have h0:¬reaF 2 t (fun t=>t=40) 0:=fun h=>by
  rcases h with h|h
  ·omega
  ·cases h
 exact ⟨he,ow',⟨hm.owd h.ow h0,hb,by rw [BS.subB_L];exact h.L,h.R.sub ht 0 who fs (fun hr=>okN_of hr hft),hO,by rw [List.length_append];omega,hm.mod0 h.ow h.md h0⟩,hm⟩
theorem heard_at (w:World) (ow:Ow) (c g:Nat) (id:Int) (near:List Int) (B:BS) (h:Bro w ow c g id near B) (t:Nat) (ht:t<4) (hN:(B.R t).N≤100000) (n:Int) (hn:(Lit.int .i64 n).wf=true):
 Calls Tryz.prog 29 #[.pointer (some ⟨g,0,none⟩),.int .i64 t,.int .i64 n] w (TAllPost w (fun k=>ow k=0∧k<w.heap.size) (allQ (B.R t).M n)):=by
 obtain ⟨a,h⟩:=h
 obtain ⟨q0, -, -, -⟩:=h.cells ht
 have ht4:(t:Int)<4:=by omega
 have ht0:(0:Int)≤t:=by omega
 have hall:=tall_at w (a.tb t) _ _ (B.R t).M (B.R t).N (h.rea t ht).tab hN n hn
 have H:=Lib.hid h
 have Hn:=Lib.hid hn
 have Hall:=Lib.hid hall
 clear h hn hall
 go_enter Tryz.func29,Tryz.ntmps29
 go_wp2_with fail
 refine Hall.out.mono ?_
 rintro e w' ⟨v,l,rfl,h1⟩
 have H1:=Lib.hid h1
 clear h1
 go_wp2
 go_ret
 exact ⟨v,l,rfl,H1.out⟩
theorem subs_at (w:World) (ow:Ow) (c g:Nat) (id:Int) (near:List Int) (B:BS) (h:Bro w ow c g id near B) (t:Nat) (ht:t<4):
 Calls Tryz.prog 33 #[.pointer (some ⟨g,0,none⟩),.int .i64 t] w fun e w'=>e= .returned (.int .i64 (B.R t).S.length)∧w=w':=by
 obtain ⟨a,h⟩:=h
 obtain ⟨-, -,q2, -⟩:=h.cells ht
 have ht4:(t:Int)<4:=by omega
 have ht0:(0:Int)≤t:=by omega
 have hlen:=fun ty=>(h.rea t ht).sub.len ty
 have H:=Lib.hid h
 clear h
 go_enter Tryz.func33,Tryz.ntmps33
 go_wp2
 go_ret
 exact ⟨rfl,rfl⟩
end
end Go.Proofs.YtaenebdppkjhoaaGreatDoor
