/- Lemmas. -/
import Derived.Test.YtdmjoodhaeijmaaGreatDoorZn42
set_option maxHeartbeats 40000000
set_option maxRecDepth 20000
namespace Go.Proofs.YtdmjoodhaeijmaaGreatDoor
section
open Go.RowKit
theorem y7.le {w0 w:World} {ow:Ow} {q c c' k:Nat} {a:NAd} {L:List Lr} {s:NS} (h:y7 w0 w ow q a L s c k) (hc:c<=c'):y7 w0 w ow q a L s c' k:=
 ⟨h.base,h.side.le hc,h.sz.le hc,h.nok,h.log,h.lg,h.tree,h.bs,h.bb,h.bro,h.ops,h.ser,h.pubs,h.told⟩
theorem y7.setK {w0 w w':World} {ow ow':Ow} {q c k:Nat} {a:NAd} {L:List Lr} {s:NS} (h:y7 w0 w ow q a L s c k) (hw:Owd w0 w ow) (hN:0<s.N.length) {x y z:Int} (hl:M4 s.N x y z=true) {K:LK} (hL:C9 w' ow' (cl x y z) (a.lb x y z) K) (m:Mov (fun k=>k=cl x y z) w ow w' ow') (hx:K.Good/\K.base<=400000000000/\K.q.length+K.lost<=c):y7 w0 w' ow' q a L {s with K:=D9 s.K x y z K} c k:=by
 have hge:=O9 x y z;refine h.call (B:=s.B 0) hw hN ((h.bro 0 hN).mov hw m zo (fun t ht=>by have ht':t=cl x y z:=ht;omega)) (h.side.pushed h.nok.wf hl hL m) ⟨fun i j t ht=> ?_,h.sz.tr⟩ (m.mono (fun t ht=> .inr (.inr (.inr (.inr (.inr (by have ht':t=cl x y z:=ht;omega))))))) ?_
 ·show (D9 s.K x y z K i j t).Good/\(D9 s.K x y z K i j t).base<=_/\(D9 s.K x y z K i j t).q.length+(D9 s.K x y z K i j t).lost<=c;by_cases e:i=x/\j=y/\t=z
  ·obtain ⟨rfl,rfl,rfl⟩:=e;rw [R8];exact hx
  rw [R9 _ _ e];exact h.sz.lk i j t ht
 rw [NS.setB_self];exact ⟨rfl,rfl,rfl,rfl,rfl,rfl,rfl,rfl,rfl⟩
theorem a4X {a:LK} {X:List Mv} (hX:X.map Mv.m=a.q):(∃v,v∈X/\(Y0 a X).asks=some v.lm/\a.asks=some v.m)\/((Y0 a X).asks=none/\a.asks=none):=by
 obtain ⟨ep,q,ph,got,base,lost⟩:=a;have hX:X.map Mv.m=q:=hX;subst hX
 cases X with
 |nil=>cases ph<;>cases got<;>exact .inr ⟨rfl,rfl⟩
 |cons v X=>
  cases ph<;>cases got
  case sent.false=>exact .inl ⟨v,List.mem_cons_self,rfl,rfl⟩
  all_goals exact .inr ⟨rfl,rfl⟩
theorem b0p {a:LK} {X:List Mv} (hX:X.map Mv.m=a.q):∃X',(Y0 a X).next=Y0 a.next X'/\X'.map Mv.m=a.next.q/\∀v∈X',v∈X:=by
 obtain ⟨ep,q,ph,got,base,lost⟩:=a;have hX:X.map Mv.m=q:=hX;subst hX
 cases ph with
 |wait=>cases X<;>exact ⟨_,rfl,rfl,fun _ h=>h⟩
 |sent=>cases X<;>exact ⟨_,rfl,rfl,fun _ h=>h⟩
 |back=>
  refine ⟨X.tail, ?_, ?_,fun v hv=>List.mem_of_mem_tail hv⟩
  ·cases X<;>rfl
  ·cases X<;>rfl
theorem LK.Good.next {a:LK} (h:a.Good):a.next.Good:=by
 obtain ⟨ep,q,ph,got,base,lost⟩:=a;obtain ⟨h1,h2⟩:=h;cases ph<;>cases q<;>simp_all [LK.Good,LK.next]
theorem LK.next_sz (a:LK):a.next.q.length+a.next.lost<=a.q.length+a.lost/\a.next.base<=a.base+1:=by
 obtain ⟨ep,q,ph,got,base,lost⟩:=a;cases ph<;>cases q<;>simp [LK.next]<;>omega
theorem C9.next {w w':World} {ow:Ow} {c b:Nat} {a:LK} {X:List Mv} {F:Nat->Prop} (hX:X.map Mv.m=a.q) (h3:∀x∈X,R4 w ow x) (h4:∀k,F k->ow k=c) (h0:c≠0) (h:p9 w w' b F (Y0 a X).next.toL):∃ow',C9 w' ow' c b a.next/\Mov (fun t=>t=c) w ow w' ow':=by
 obtain ⟨X',h5,h6,h7⟩:=b0p hX;rw [h5] at h;exact C9.to h4 h h6 h0 (fun x hx=>h3 x (h7 x hx))
theorem NS.take_no {s:NS} {i:Nat} {frm ten:Int} {m:Mg} (h:(s.take i frm ten m).1=false):(s.take i frm ten m).2=s:=by
 unfold NS.take at h⊢;split at h
 ·cases h
 rename_i h1
 rw [if_neg h1];split at h
 ·cases h
 rename_i h2
 rw [if_neg h2];split at h
 ·cases h
 rename_i h3
 rw [if_neg h3];split at h
 ·cases h
 rename_i h4
 rw [if_neg h4]
theorem b2Q {w0 w:World} {ow:Ow} {q c k:Nat} {a:NAd} {L:List Lr} {s:NS} (hw:Owd w0 w ow) (h:y7 w0 w ow q a L s c k) (hN:0<s.N.length) {x y z ten:Int} (hl:M4 s.N x y z=true) (hb:(s.K x y z).base<=300000000000) (ft:Nat) (cap:Array Value) (c':Nat) (hcc:c<=c')
 (hcf:∀(args:Array Value) (W:World),Sem.run Tryz.prog (callFunc ft args) W= .ok (.enter ft args) W)
 (ht:∀(v:Mv) (pin:Option a4n) (w1:World),v.m∈(s.K x y z).q->Mod (fun _=>False) w w1->R4 w1 ow v->U5 y.toNat pin->Y2 w1 ow pin->Calls Tryz.prog ft (#[.agg v.cells.toArray]++cap) w1 fun e w2=>e= .returned (.bool (s.take y.toNat x ten v.m).1)/\U7 w0 w1 ow q y.toNat a L k pin (s.take y.toNat x ten v.m).2 c' w2):
 Calls Tryz.prog 56 #[.pointer (some ⟨a.lb x y z,0,none⟩),.func (.func ft) #[] cap] w fun e w'=>e= .returned (.bool (s.step x y ten z).1)/\∃ow',y7 w0 w' ow' q a L (s.step x y ten z).2 c' k/\Mov (Q6 y.toNat) w ow w' ow':=by
 obtain ⟨X,F,h1,h2,h3,h4⟩:=h.side.lnk.lk x y z hl;have hge:=O9 x y z;have hsz:=h.sz.lk x y z hl;have hgood:=a4V h2 hsz.1 zo;have g:=a3S hl;have hwf:=h.nok.wf _ _ g.1
 have hne:x≠y:=fun e=>by
  subst e;have h5:=h.nok.ir x;rw [g.1] at h5;cases h5
 have hyn:(y.toNat:Int)=y:=by have:=(h.nok.rng _ _ g.1).2;omega
 have Ms:U5 y.toNat (some ⟨x,y,z,a.lb x y z,F,(Y0 (s.K x y z) X).toL⟩):=by
  rw [hyn];have hz:wfI z:=F2 zo;exact ⟨hwf.1,hwf.2,hz,hne⟩
 have hQ:∀v∈X,v.m∈(s.K x y z).q:=fun v hv=>by rw [<-h2];exact List.mem_map_of_mem hv
 have hcl:∀t,t=cl x y z->Q6 y.toNat t:=fun t ht=> .inr (.inr (.inr (.inr (.inr zo))));have h0:¬Q6 y.toNat 0:=fun h=>by unfold Q6 sdT at h;omega
 have hn:=LK.next_sz (s.K x y z);refine (b2e (a.lb x y z) F (Y0 (s.K x y z) X) ft cap w h1 hgood (fun r w2=>∃v,v∈X/\(s.K x y z).asks=some v.m/\r=(s.take y.toNat x ten v.m).1/\∃w1,Mod (fun _=>False) w w1/\U7 w0 w1 ow q y.toNat a L k (some ⟨x,y,z,a.lb x y z,F,(Y0 (s.K x y z) X).toL⟩) (s.take y.toNat x ten v.m).2 c' w2) hcf ?_).mono ?_
 ·intro lm hlm w1 hL1 hm1;rcases a4X h2 with ⟨v,hv,e1,e2⟩|⟨e1,e2⟩
  rotate_left
  ·rw [e1] at hlm;cases hlm
  rw [e1] at hlm;cases hlm
  have hs1:=Mov.of hw hm1 (fun _=>False);refine (ht v _ w1 (hQ v hv) hm1 ((h3 v hv).mov hs1 id) Ms ⟨hL1,h4⟩).mono ?_;rintro e w2 ⟨he,ow2,hA2,hM2,hp2⟩;refine ⟨_,he,hp2.1,⟨v,hv,e2,rfl,w1,hm1,ow2,hA2,hM2,hp2⟩,fun k hk cs hc=> ?_⟩;exact hM2.md.heap hc (fun hf=>h0 (by have hf':Q6 y.toNat (ow k):=hf;rwa [hw.zero hk] at hf'))
 rintro e w' (⟨p1,p2,p3⟩|⟨lm,p1,⟨p2,p3,v,hv,e2,er,w1,hm1,ow2,hA2,hM2,hp2⟩|⟨p2,w2,⟨v,hv,e2,er,w1,hm1,ow2,hA2,hM2,hp2⟩,p4,p5⟩⟩)
 ·rcases a4X h2 with ⟨v,hv,e1, -⟩|⟨e1,e2⟩
  ·rw [e1] at p1;cases p1
  obtain ⟨ow',hL,hM⟩:=C9.next h2 h3 h4 zo p3;have hA:=(h.setK hw hN hl hL hM ⟨hsz.1.next,zo,zo⟩).le hcc
  have es:s.step x y ten z=(!(s.K x y z).q.isEmpty,{s with K:=D9 s.K x y z (s.K x y z).next}):=by
   unfold NS.step;rw [e2]
  rw [es];refine ⟨?_,ow',hA,hM.mono hcl⟩
  have e3:(Y0 (s.K x y z) X).q.isEmpty=(s.K x y z).q.isEmpty:=by
   rw [<-h2];show (X.map Mv.lm).isEmpty=(X.map Mv.m).isEmpty;cases X<;>rfl
  rw [p2,e3]
 ·have es:s.step x y ten z=(false,s):=by
   unfold NS.step;rw [e2];show (if (s.take y.toNat x ten v.m).1=true then _ else _)=_;rw [<-er];rfl
  rw [NS.take_no er.symm] at hA2;rw [es];exact ⟨p2,ow2,hA2,(Mov.of hw hm1 _).trans hM2⟩
 have es:s.step x y ten z=(true,{(s.take y.toNat x ten v.m).2 with K:=D9 (s.take y.toNat x ten v.m).2.K x y z (s.K x y z).next}):=by
  unfold NS.step;rw [e2];show (if (s.take y.toNat x ten v.m).1=true then _ else _)=_;rw [<-er];rfl
 have hs1:=Mov.of hw hm1 (Q6 y.toNat);have hw2:=(hs1.trans hM2).owd hw h0;obtain ⟨ow',hL,hM⟩:=C9.next (c:=cl x y z) h2 (fun u hu=>((h3 u hu).mov (hs1.trans hM2) h0)) hp2.2 zo p5;have eN:=(s.take_same y.toNat x ten v.m).2;have hA:=hA2.setK hw2 (by rw [eN];exact hN) (by rw [eN];exact hl) hL hM ⟨hsz.1.next,zo,zo⟩;rw [es];exact ⟨p2,ow',hA,(hs1.trans hM2).trans (hM.mono hcl)⟩
theorem b2R (w:World) (ow:Ow) (c b:Nat) (a:LK) (h0:c≠0) (h:C9 w ow c b a) (hg:a.Good):
 Calls Tryz.prog 55 #[.pointer (some ⟨b,0,none⟩)] w fun e w'=>e= .returned (.bool (decide (a.ph≠ .wait)))/\∃ow',C9 w' ow' c b a.lose/\Mov (fun t=>t=c) w ow w' ow':=by
 obtain ⟨X,F,h1,h2,h3,h4⟩:=h;have fin:∀(e:Ending) (w':World),e= .returned (.bool (decide (a.ph≠ .wait)))/\p9 w w' b F (Y0 a.lose X).toL->e= .returned (.bool (decide (a.ph≠ .wait)))/\∃ow',C9 w' ow' c b a.lose/\Mov (fun t=>t=c) w ow w' ow':=fun e w' ⟨he,hl⟩=>⟨he,C9.to (a':=a.lose) h4 hl h2 h0 h3⟩;refine Calls.mono ?_ fin;clear fin h3 h4;obtain ⟨ep,q,ph,got,base,lost⟩:=a;obtain ⟨g1,g2⟩:=hg;have h2:X.map Mv.m=q:=h2
 cases ph with
 |wait=>
  refine (a9z h1 rfl (by cases X<;>rfl)).mono fun e w' ⟨he,hw⟩=>⟨he, ?_⟩;subst hw;exact p9.refl h1
 |sent=>
  cases X with
  |nil=>have:=(g1 h2.symm).1;cases this
  |cons v X=>exact (a6a h1 rfl ⟨ep,base,v.lm⟩ [] rfl).mono fun e w' ⟨he,hl⟩=>⟨he,hl⟩
 |back=>
  cases X with
  |nil=>have:=(g1 h2.symm).1;cases this
  |cons v X=>exact (b1n h1 ⟨ep,base⟩ [] rfl).mono fun e w' ⟨he,hl⟩=>⟨he,hl⟩
theorem LK.Good.lose {a:LK} (h:a.Good):a.lose.Good:=⟨fun e=>⟨rfl,(h.1 e).2⟩,fun e=>by cases e⟩
def a0n (t:Nat):Prop:=2<=t/\(t<200\/400<=t)
theorem a6X {i:Nat} (hi:i<6) {t:Nat} (h:Q6 i t):a0n t:=by
 unfold Q6 sdT at h;unfold a0n;omega
theorem b2S:¬a0n 0:=fun h=>by unfold a0n at h;omega
structure X1 (w0 w:World) (ow:Ow) (q tp:Nat) (s:NS) (k j:Nat):Prop where
 own:Owd w0 w ow
 wi:WI s k j
 mem:∃a L c n,y7 w0 w ow q a L s c n/\a.tp=tp/\c<=1000000*k/\n<=k
def E3 (w0 w:World) (ow:Ow) (q tp:Nat) (s':NS) (k j:Nat) (w':World):Prop:=∃ow',X1 w0 w' ow' q tp s' k j/\Mov a0n w ow w' ow'
theorem X1.still {w0 w w':World} {ow:Ow} {q tp:Nat} {s:NS} {k j:Nat} (h:X1 w0 w ow q tp s k j) (hm:Mod (fun _=>False) w w'):X1 w0 w' ow q tp s k j:=by
 obtain ⟨a,L,c,n,h1,h2,h3,h4⟩:=h.mem;have hs:=Mov.of h.own hm (fun _=>False);exact ⟨hs.owd h.own id,h.wi,a,L,c,n,h1.call (B:=s.B 0) h.own h.wi.pos ((h1.bro 0 h.wi.pos).mov h.own hs id (fun _ h=>h.elim)) (h1.side.mov hs id (fun _ h=>h.elim)) h1.sz (hs.mono (fun _ h=>h.elim)) (by rw [NS.setB_self];exact Agr.refl s),h2,h3,h4⟩
theorem X1.mono {w0 w:World} {ow:Ow} {q tp:Nat} {s:NS} {k k' j j':Nat} (h:X1 w0 w ow q tp s k j) (hk:k<=k') (hj:j<=j'):X1 w0 w ow q tp s k' j':=by
 obtain ⟨a,L,c,n,h1,h2,h3,h4⟩:=h.mem;exact ⟨h.own,h.wi.mono hk hj,a,L,c,n,h1,h2,Nat.le_trans h3 (Nat.mul_le_mul_left _ hk),Nat.le_trans h4 hk⟩
theorem E3.still {w0 w w':World} {ow:Ow} {q tp:Nat} {s:NS} {k k' j j':Nat} (h:X1 w0 w ow q tp s k j) (hm:Mod (fun _=>False) w w') (hk:k<=k') (hj:j<=j'):E3 w0 w ow q tp s k' j' w':=
 ⟨ow,(h.still hm).mono hk hj,Mov.of h.own hm a0n⟩
section
variable {w0 w w':World} {ow ow':Ow} {q c k:Nat} {a:NAd} {L:List Lr} {s:NS}
theorem y7.over {F:Nat->Prop} {a':NAd} {L':List Lr} {s':NS} {c' k':Nat} (h:y7 w0 w ow q a L s c k) (hw:Owd w0 w ow) (m:Mov F w ow w' ow') (h0:¬F 0) (h4:¬F 4) (hS:A1 w' ow' q a' s' c') (hz:Sz s' c') (eN:s'.N=s.N)
 (hl:M5 w' ow' 2 3 q (a'.rest s'.subs) 54 a'.v L') (UV:L'.map Prod.fst=s'.L) (et:a'.tp=a.tp) (eb:a'.bv=a.bv) (eg:a'.bg=a.bg) (Mt:∀i,i<s.N.length->Bro w' ow' (20+20*i) (a.bg i) i (s.near i) (s'.B i))
 (hops:a8e w' ow' 8 a'.om s'.ops k') (Mw:a8e w' ow' 9 a'.sm s'.ser k') (Fg:∃X,X.map Pv.p=s'.pubs/\GrS w' ow' 10 67 6 Pv.cells b4K a'.pv X) (htold:∃X,X.map Nv.s=s'.told/\GrS w' ow' 11 63 7 Nv.cells b4L a'.nv X):y7 w0 w' ow' q a' L' s' c' k':=by
 refine ⟨m.mod0 hw h.base h0,hS,hz,by rw [eN];exact h.nok,hl,UV,by rw [et,eN];exact h.tree, ?_,fun b hb=> ?_,fun i hi=> ?_,hops,Mw,Fg,htold⟩
 ·rw [eb,eg,eN]
  exact h.bs.mod m.md (fun b hb hf=>by
   have hf':F (ow b):=hf;rw [h.bb b hb] at hf'
   exact h4 hf')
 ·rw [eb] at hb;rw [m.old b (h.bs.lt b hb)];exact h.bb b hb
 rw [eN] at hi;have en:s'.near i=s.near i:=by unfold NS.near;rw [eN]
 rw [eg,en];exact Mt i hi
theorem y7.pubs' {F:Nat->Prop} (h:y7 w0 w ow q a L s c k) (m:Mov F w ow w' ow') (h0:¬F 0) (hF:¬F 10):∃X,X.map Pv.p=s.pubs/\GrS w' ow' 10 67 6 Pv.cells b4K a.pv X:=by
 obtain ⟨X,h1,h2⟩:=h.pubs;exact ⟨X,h1,h2.mov m hF (fun x hx=>q6.mov hx m h0 zo)⟩
theorem y7.told' {F:Nat->Prop} (h:y7 w0 w ow q a L s c k) (m:Mov F w ow w' ow') (h0:¬F 0) (hF:¬F 11):∃X,X.map Nv.s=s.told/\GrS w' ow' 11 63 7 Nv.cells b4L a.nv X:=by
 obtain ⟨X,h1,h2⟩:=h.told;exact ⟨X,h1,h2.mov m hF (fun x hx=>q6.mov hx m h0 zo)⟩
theorem y7.logged (h:y7 w0 w ow q a L s c k) (hw:Owd w0 w ow) (m:Mov (fun t=>t=2\/t=3) w ow w' ow') {v:Value} {L':List Lr} {P:List PRu} (hl:M5 w' ow' 2 3 q (a.rest s.subs) 54 v L') (hp:L'.map Prod.fst=P):y7 w0 w' ow' q {a with v:=v} L' {s with L:=P} c k:=by
 have hu:∀b,a.uv.ownBlock=some b->¬(ow b=2\/ow b=3):=fun b hb e=>by have:=h.side.ub b hb;omega
 refine h.over hw m zo zo ⟨hl.row,hl.tag,h.side.up.mod m.md (fun b hb hf=>hu b hb hf),fun b hb=>by rw [m.old b (h.side.up.lt b hb)];exact h.side.ub b hb,h.side.lnk.mov m zo zo (fun i j t e=>by have:=O9 i j t;omega),h.side.trc.mov m zo zo (fun t who e=>by have:=a4T t who;omega)⟩ ⟨h.sz.lk,h.sz.tr⟩ rfl hl hp rfl rfl rfl (fun i hi=>(h.bro i hi).mov hw m zo (fun t ht=>zo)) (h.ops.mov m zo) (h.ser.mov m zo) (h.pubs' m zo zo) (h.told' m zo zo)
end
end
section
open Go.RowKit
theorem y7.still {w0 w w':World} {ow ow':Ow} {q c k:Nat} {a:NAd} {L:List Lr} {s:NS} (h:y7 w0 w ow q a L s c k) (hw:Owd w0 w ow) (hN:0<s.N.length) (m:Mov (fun _=>False) w ow w' ow'):y7 w0 w' ow' q a L s c k:=
 h.call (B:=s.B 0) hw hN ((h.bro 0 hN).mov hw m id (fun _ h=>h.elim)) (h.side.mov m id (fun _ h=>h.elim)) h.sz (m.mono (fun _ h=>h.elim)) (by rw [NS.setB_self];exact Agr.refl s)
def b5q (w0 w:World) (ow:Ow) (q:Nat) (a:NAd) (L:List Lr) (s:NS) (c k:Nat) (m:Nat) (wr:World):Prop:=
 ∃(owr:Ow) (s':NS) (c':Nat),y7 w0 wr owr q a L s' c' k/\Owd w0 wr owr/\Mov (Q6 0) w ow wr owr/\F3 s'/\m=s'.L.length - (s'.B 0).L.length/\c'+6*m<=c+240/\s'.N=s.N/\s'.up=s.up/\s'.L=s.L/\(s.up 0=false->s'=s)/\NS.teachK m s'=NS.teachK (s.L.length - (s.B 0).L.length) s
theorem a6Y:(match Tryz.prog.underlying 36 with|some (.struct _)=>true|some (.array _ _)=>true|_=>false)=true:=zk
theorem a0X:(Tryz.prog.info? 36).map (·.size)=some 8:=zk
theorem a08 {ρ:Operand->Value} {dst:Option Tmp} {x:Operand} {type:TypeId} {pos:String} {after:Array Edge} {guard:Option (Nat×Bool)} {w:World} (h:a4b w (ρ x) 8):
 Sem.run Tryz.prog (execOp ρ ⟨dst,.load 36 x,type,pos,after,guard⟩) w= .ok (.value (.agg (W7 w (ρ x) 8))) w:=L7 a6Y a0X h
attribute [local go_sem ↓] a08
theorem b2T (w0 w:World) (ow:Ow) (hw:Owd w0 w ow) (q c k:Nat) (a:NAd) (L:List Lr) (s:NS) (h:y7 w0 w ow q a L s c k) (hN:0<s.N.length) (hP:F3 s) (hc:c<=200000000000):
 Calls Tryz.prog 51 #[.pointer (some ⟨q,0,none⟩)] w fun e w'=>e= .returned (.tuple #[])/\∃c',c'<=c+240/\U7 w0 w ow q 0 a L k none s.teach c' w':=by
 have rO:=h.nok.len;obtain ⟨ba,bc,hbv,hbc⟩:=h.bs.shape;have hbs:=h.bs;rw [hbv] at hbs;obtain ⟨gb,ob,rfl,hb0⟩:=a0H (j:=0) (u:=ptr (a.bg 0)) hbs.rd (by simp [hN]);rw [Nat.add_zero] at hb0
 replace hb0:w.cell? ⟨gb,ob,none⟩=some (.pointer (some ⟨a.bg 0,0,none⟩)):=hb0
 have c2:w.cell? ⟨q,2,none⟩=some (.slice (some ⟨gb,ob,none⟩) s.N.length bc):=by rw [<-hbv];exact h.side.cellN rfl
 have hN':(0:Int)<s.N.length:=zo
 have Fh:(s.N.length:Int)<=bc:=zo
 have hst:b5q w0 w ow q a L s c k (s.L.length - (s.B 0).L.length) w:=⟨ow,s,c,h,hw,Mov.refl hw,hP,rfl,by have:=hP.len;omega,rfl,rfl,rfl,fun _=>rfl,rfl⟩;refine hh6 h hw hP hbv hbs hst fun H Hw HP UW eP kM=> ?_;clear h hw hP hbv hbs hst
 go_enter Tryz.func51,Tryz.ntmps51
 go_wp2_with fail
 go_loopg [] (s.L.length - (s.B 0).L.length) (fun n wr=>b5q w0 w ow q a L s c k n wr)
 case atStart=>exact kM.out
 case round=>
  obtain ⟨owr,s',c',hA,hwr,hmr,zL,hm,hcr,eN,eup,eL,eZ,eT⟩:=hrel;have hN1:0<s'.N.length:=by rw [eN];exact hN
  obtain ⟨ua,uc,gJ,huc⟩:=hA.side.up.shape;have hup:=hA.side.up;rw [gJ] at hup;obtain ⟨gu,ou,rfl,hu0⟩:=a0H hup.rd (Y1 (up:=s'.up) hN1);rw [Nat.add_zero] at hu0;have q3:wr.cell? ⟨q,3,none⟩=some (.slice (some ⟨gu,ou,none⟩) s'.N.length uc):=by rw [<-gJ];exact hA.side.cellN rfl
  have q0:wr.cell? ⟨q,0,none⟩=some a.v:=hA.side.cellN rfl;have UX:(0:Int)<s'.N.length:=zo
  have fG:L.length=s'.L.length:=by rw [<-hA.lg,zz10]
  obtain ⟨la,lc,hla,hlc⟩:∃a' cc,a.v= .slice a' L.length cc/\L.length<=cc:=by obtain ⟨-,a,cc,h,h2, -⟩:=hA.log.sl.sl.rd;exact ⟨a,cc,h,h2⟩
  obtain ⟨bB,hB⟩:=hA.bro 0 hN1;obtain ⟨LB,kR,mh⟩:=hB.log;have Mx:LB.length=(s'.B 0).L.length:=by rw [<-mh,zz10]
  obtain ⟨ba2,bc2,mq,hbc2⟩:∃a' cc,bB.v= .slice a' LB.length cc/\LB.length<=cc:=by obtain ⟨-,a,cc,h,h2, -⟩:=kR.sl.sl.rd;exact ⟨a,cc,h,h2⟩
  have b0:wr.cell? ⟨a.bg 0,0,none⟩=some (.slice ba2 (s'.B 0).L.length bc2):=by rw [<-Mx,<-mq];exact d6 kR.row rfl
  rw [hla,fG] at q0;have hl1:∀wx,Mod (fun _=>False) wr wx->Calls Tryz.prog 13 #[.pointer (some ⟨a.bg 0,0,none⟩)] wx fun e w'=>e= .returned (.int .i64 (s'.B 0).L.length)/\Mod (fun _=>False) wr w':=fun wx hx=>(R3 wx (a.bg 0) ba2 (s'.B 0).L.length bc2 (hx.cell b0 id)).mono fun e w' ⟨he,hm⟩=>⟨he,hm▸hx⟩;have hl2:∀wx,Mod (fun _=>False) wr wx->Calls Tryz.prog 13 #[.pointer (some ⟨q,0,none⟩)] wx fun e w'=>e= .returned (.int .i64 s'.L.length)/\Mod (fun _=>False) wr w':=fun wx hx=>(R3 wx q la s'.L.length lc (hx.cell q0 id)).mono fun e w' ⟨he,hm⟩=>⟨he,hm▸hx⟩;have hF:∀wx,Mod (fun _=>False) wr wx->wx.cell? ⟨q,3,none⟩=some (.slice (some ⟨gu,ou,none⟩) s'.N.length uc)/\wx.cell? ⟨gu,ou,none⟩=some (.bool (s'.up 0)):=fun wx hx=>⟨hx.cell q3 id,hx.cell hu0 id⟩
  have hrl:∀x,L[(s'.B 0).L.length]? =some x->∀wx,Mod (fun _=>False) wr wx->Calls Tryz.prog 40 #[.pointer (some ⟨q,0,none⟩),.int .i64 (s'.B 0).L.length] wx fun e w'=>e= .returned (.tuple #[.agg #[.int .i64 x.1.kind,.int .i64 x.1.tenant,.string x.1.who,.int .i64 x.1.broker,.string x.1.sc,.slice x.2.1 x.1.cs.length x.2.2,.string x.1.name,.int .i64 x.1.at_],.bool true])/\Mod (fun _=>False) wx w':=fun x hx wx hm=>by
   have hmap:(L.map Lr.ru).length=s'.L.length:=by rw [zz10,fG]
   have UY:=zL.len;have hc0:wx.cell? ⟨q,0,none⟩=some (.slice la (L.map Lr.ru).length lc):=by rw [hmap];exact hm.cell q0 id
   have nE:Q5 wx (.slice la (L.map Lr.ru).length lc) (L.map Lr.ru):=by
    have h1:=hA.log.sl.ru.mod hm;rw [hla,fG,<-hmap] at h1;exact h1
   have h1:=a8Q wx q la lc (L.map Lr.ru) hc0 nE zo ((s'.B 0).L.length:Nat)
   have h2:M6 (L.map Lr.ru) ((s'.B 0).L.length:Nat)=some x.ru:=by
    unfold M6;rw [if_neg zo,Int.toNat_natCast,List.getElem?_map,hx];rfl
   rw [h2] at h1;exact h1
  have hl0:∀wx,Mod (fun _=>False) wr wx->Calls Tryz.prog 13 #[.pointer (some ⟨a.bg 0,0,none⟩)] wx fun e w'=>e= .returned (.int .i64 (s'.B 0).L.length)/\wx=w':=fun wx hx=>R3 wx (a.bg 0) ba2 (s'.B 0).L.length bc2 (hx.cell b0 id)
  have fK:∀x,L[(s'.B 0).L.length]? =some x->∀wx,Mod (fun _=>False) wr wx->Calls Tryz.prog 73 #[.pointer (some ⟨a.bg 0,0,none⟩),.iface 138 (.agg #[.pointer (some ⟨q,0,none⟩),.int .i64 0]),.int .i64 (s'.B 0).L.length,.agg #[.int .i64 x.1.kind,.int .i64 x.1.tenant,.string x.1.who,.int .i64 x.1.broker,.string x.1.sc,.slice x.2.1 x.1.cs.length x.2.2,.string x.1.name,.int .i64 x.1.at_],.int .i64 (-1)] wx
   fun e w'=>e= .returned (.bool true)/\∃ow' c2,y7 w0 w' ow' q a L (s'.learn 0 (s'.B 0).L.length x.1 (-1)) c2 k/\c2<=c'+6/\Owd w0 w' ow'/\Mov (Q6 0) w ow w' ow':=fun x hx wx hm=>by
   have hs:=Mov.of hwr hm (fun _=>False);have hwx:=hs.owd hwr id;have hxp:s'.L[(s'.B 0).L.length]? =some x.1:=by rw [<-hA.lg,List.getElem?_map,hx];rfl
   have h1:=a4W (pin:=none) trivial trivial hwx (hA.still hwr hN1 hs) hN1 (zL.bl hN1) zo (s'.B 0).L.length x.1 x.2.1 x.2.2 ((hA.log.sl.each x (zz8 hx)).mov hs id) (-1);rw [(zL.next hN1 hxp).1] at h1;refine h1.mono ?_;rintro e w' ⟨he,c2,hc2,ow',h3,h4, -⟩;exact ⟨he,ow',c2,h3,hc2,h4.owd hwx (fun h=>by unfold Q6 sdT at h;omega),(hmr.trans (hs.mono (fun _ h=>h.elim))).trans h4⟩
  have hnx:∀x,L[(s'.B 0).L.length]? =some x->F3 (s'.learn 0 (s'.B 0).L.length x.1 (-1))/\(s'.learn 0 (s'.B 0).L.length x.1 (-1)).L=s'.L/\(s'.learn 0 (s'.B 0).L.length x.1 (-1)).N=s'.N/\(s'.learn 0 (s'.B 0).L.length x.1 (-1)).up=s'.up/\((s'.learn 0 (s'.B 0).L.length x.1 (-1)).B 0).L.length=(s'.B 0).L.length+1/\∀m,NS.teachK (m+1) s'=NS.teachK m (s'.learn 0 (s'.B 0).L.length x.1 (-1)):=fun x hx=>by
   have hxp:s'.L[(s'.B 0).L.length]? =some x.1:=by rw [<-hA.lg,List.getElem?_map,hx];rfl
   have hlt:=(zz6 hxp).1;obtain ⟨e1,e2,e3,e4⟩:=s'.learn_L 0 (s'.B 0).L.length x.1 (-1);refine ⟨zL.learn hN1 hxp (-1),e1,e2,e3, ?_,fun m=> ?_⟩
   ·rw [e4,J0,(zL.next hN1 hxp).2,List.length_take];omega
   show (match s'.L[(s'.B 0).L.length]? with|none=>s'|some p=>NS.teachK m (s'.learn 0 (s'.B 0).L.length p (-1)))=_;rw [hxp]
  refine hh8 hA hwr hmr zL hcr hB kR hF fun HA Ip aL XI iP HB PV HF=> ?_;refine hh8 hl0 hl1 hl2 hrl fK hnx eN eup fun uZ Az jF Hrl zM fD EN Eup=> ?_;refine hh3 eL eZ eT fun EL EZ ET=> ?_;clear hA hwr hmr zL hcr hB kR hF hl0 hl1 hl2 hrl fK hnx eN eup eL eZ eT hup q3 hu0 q0 b0 hla mq gJ
  have PW:∀w',Mod (fun _=>False) wr w'->s'=s.teach->∃c',c'<=c+240/\U7 w0 w ow q 0 a L k none s.teach c' w':=fun w' hw' he=>by
   have hs:=Mov.of Ip.out hw' (fun _=>False);refine ⟨c',by have:=iP.out;omega,owr, ?_,aL.out.trans (hs.mono (fun _ h=>h.elim)),trivial⟩;rw [<-he];exact HA.out.still Ip.out hN1 hs
  have PX:=zh PW;clear PW;obtain ⟨b,hb⟩:∃b,s'.up 0=b:=⟨_,rfl⟩;rw [hb] at HF;cases b
  ·go_wp2_with fail
   refine g9 zk zk ?_
   iterate 17 (first
    | (refine j1 ?_ (fun K hK=> ?_)
       ·first|(go_simp;done)|(go_simp;simp [undef];done)
       go_simp;refine hK _ ?_;clear hK K)
    | (refine l9 ?_ ?_ (fun w' hw'=> ?_) (fun K hK=> ?_)
       ·first|(go_simp;done)|(go_simp;simp [undef];done)
       rotate_left
       ·obtain ⟨f0,f1⟩:=HF.out w' hw';go_simp;rfl
       go_simp;refine hK _ ?_;clear hK K)
    | (refine q7 ?_ ?_ ?_ ?_ (fun w' hw'=> ?_) ?_ (fun K hK=> ?_)
       ·first|(go_simp;done)|(go_simp;simp [undef];done)
       rotate_left 3
       ·obtain ⟨f0,f1⟩:=HF.out w' hw';go_simp;constructor<;>rfl
       ·first|with_reducible first|exact Az.out|exact jF.out
       go_simp;refine hK _ ?_;clear hK K))
   refine j8 (fun w' hw'=> ?_)
   go_wp2_with fail
   go_end0
   have e:=EZ.out (by rw [<-Eup.out];exact hb);exact ⟨rfl,PX.out w' hw' (by unfold NS.teach;rw [<-Eup.out,hb];exact e)⟩
  by_cases hlt:(s'.B 0).L.length<s'.L.length
  ·have d1:=decide_eq_true hlt;have d2:decide (((s'.B 0).L.length:Int)<(s'.L.length:Int))=true:=decide_eq_true zo;obtain ⟨x,hx⟩:∃x,L[(s'.B 0).L.length]? =some x:=⟨_,zz5 (by rw [fG];exact hlt)⟩;obtain ⟨n1,n2,n3,n4,n5,n6⟩:=fD.out x hx;have hrl:=Hrl.out x hx;have fK:=zM.out x hx;obtain ⟨cs,hcs⟩:∃cs:List Value,[.int .i64 x.1.kind,.int .i64 x.1.tenant,.string x.1.who,.int .i64 x.1.broker,.string x.1.sc,.slice x.2.1 x.1.cs.length x.2.2,.string x.1.name,.int .i64 x.1.at_]=cs:=⟨_,rfl⟩;have hone:∀u∈cs,u.oneCell'=true:=by rw [<-hcs];exact fun u hu=>zz15 (show ([.int .i64 x.1.kind,.int .i64 x.1.tenant,.string x.1.who,.int .i64 x.1.broker,.string x.1.sc,.slice x.2.1 x.1.cs.length x.2.2,.string x.1.name,.int .i64 x.1.at_]:List Value).all (·.oneCell')=true from rfl) u hu
   have hcl:cs.length=8:=by rw [<-hcs];rfl
   have hrl2:∀wx,Mod (fun _=>False) wr wx->Calls Tryz.prog 40 #[.pointer (some ⟨q,0,none⟩),.int .i64 (s'.B 0).L.length] wx fun e w'=>e= .returned (.tuple #[.agg cs.toArray,.bool true])/\Mod (fun _=>False) wx w':=by rw [<-hcs];exact hrl
   have hle2:∀wx,Mod (fun _=>False) wr wx->Calls Tryz.prog 73 #[.pointer (some ⟨a.bg 0,0,none⟩),.iface 138 (.agg #[.pointer (some ⟨q,0,none⟩),.int .i64 0]),.int .i64 (s'.B 0).L.length,.agg cs.toArray,.int .i64 (-1)] wx
    fun e w'=>e= .returned (.bool true)/\∃ow' c2,y7 w0 w' ow' q a L (s'.learn 0 (s'.B 0).L.length x.1 (-1)) c2 k/\c2<=c'+6/\Owd w0 w' ow'/\Mov (Q6 0) w ow w' ow':=by rw [<-hcs];exact fK
   refine hh8 hx n1 n2 n3 n4 n5 n6 hrl2 fun Hx N1 N2 N3 N4 N5 N6 zN=> ?_;refine hh4 hle2 hone hcs hcl fun qH aI iI dO=> ?_;clear hx n1 n2 n3 n4 n5 n6 hrl2 hle2 hone hcs hcl hrl fK
   go_wp2_with fail
   refine g9 zk zk ?_
   iterate 17 (first
    | (refine j1 ?_ (fun K hK=> ?_)
       ·first|(go_simp;done)|(go_simp;simp [undef];done)
       go_simp;refine hK _ ?_;clear hK K)
    | (refine l9 ?_ ?_ (fun w' hw'=> ?_) (fun K hK=> ?_)
       ·first|(go_simp;done)|(go_simp;simp [undef];done)
       rotate_left
       ·obtain ⟨f0,f1⟩:=HF.out w' hw';go_simp;rfl
       go_simp;refine hK _ ?_;clear hK K)
    | (refine q7 ?_ ?_ ?_ ?_ (fun w' hw'=> ?_) ?_ (fun K hK=> ?_)
       ·first|(go_simp;done)|(go_simp;simp [undef];done)
       rotate_left 3
       ·obtain ⟨f0,f1⟩:=HF.out w' hw';go_simp;constructor<;>rfl
       ·first|with_reducible first|exact Az.out|exact jF.out
       go_simp;refine hK _ ?_;clear hK K))
   refine j8 (fun w' hw'=> ?_)
   go_wp2_with fail
   refine M1 [0,1,2,3,4,5,6,7,8,9,10,11,12,13] (fun _=>True) zk zk (fun _ _ d _ _ h=>(by cases d<;>exact h)) ?_;obtain ⟨wy,kH⟩:∃y:World,w'.drew=y:=⟨_,rfl⟩;have rM:Mod (fun _=>False) wr wy:=kH▸hw'.trans ((Mod.refl _ w').drew) zi;rw [kH];clear kH;have hS:(fun _:World=>True) wy:=trivial;refine wan 0 hS fun K hK=> ?_;go_simp;refine hK _ ?_;clear hK K;refine wan 1 hS fun K hK=> ?_;go_simp;refine hK _ ?_;clear hK K;refine wan 2 hS fun K hK=> ?_;go_simp;refine hK _ ?_;clear hK K;refine wan 3 hS fun K hK=> ?_;go_simp;refine hK _ ?_;clear hK K;refine wan 4 hS fun K hK=> ?_;go_simp;refine hK _ ?_;clear hK K;refine wan 5 hS fun K hK=> ?_;go_simp;refine hK _ ?_;clear hK K;refine a0D (i:=6) (j:=11) zk (g8 rfl ?_ (fun K hK=> ?_)) (g8 rfl ?_ (fun K hK=> ?_))
   ·exact zg
   ·go_wp2_with fail
    refine (uZ.out wy rM).mono ?_;rintro e _ ⟨rfl,rfl⟩;refine hK _ _ (fun _ h=>h) ?_;clear hK K;refine a0D (i:=7) (j:=11) zk (g8 rfl ?_ (fun K hK=> ?_)) (g8 rfl ?_ (fun K hK=> ?_))
    ·exact zg
    ·go_wp2_with fail
     refine (zN.out wy rM).mono ?_;rintro e wu ⟨rfl,mwu⟩;have mR:Mod (fun _=>False) wr wu:=rM.trans mwu zi;refine hK _ _ (fun _ h=>h) ?_;clear hK K;refine wan 8 hS fun K hK=> ?_;go_simp;refine hK _ ?_;clear hK K;refine wan 9 hS fun K hK=> ?_;go_simp;refine hK _ ?_;clear hK K;refine wan 10 hS fun K hK=> ?_;go_simp;refine hK _ ?_;clear hK K;refine j9 (i:=11) zk (g8 rfl ?_ (fun K hK=> ?_))
     ·exact zg
     (try simp only [zz1,zz2,zz3]);go_simp;obtain ⟨wb,ewb,mwb,gwb, -⟩:=g6 wu (.cells #[.int .i64 0,.int .i64 0,.string ⟨#[]⟩,.int .i64 0,.string ⟨#[]⟩,.slice none 0 0,.string ⟨#[]⟩,.int .i64 0] 36);rw [ewb];have hwb:Mod (fun _=>False) wr wb:=mR.trans mwb zi;have hbb:=mR.size;refine hK _ _ (fun _ h=>h) ?_;clear hK K ewb;obtain ⟨bb,eb⟩:∃b,wu.heap.size=b:=⟨_,rfl⟩;rw [eb] at gwb hbb⊢;obtain ⟨wf,rfl⟩:∃y:World,y=wb:=⟨_,rfl⟩;have gbf:=gwb;have hwf:=hwb;have hbf:=hbb;refine j9 (i:=12) zk (g8 rfl ?_ (fun K hK=> ?_))
     ·exact zg
     (try simp only [zz1,zz2,zz3]);obtain ⟨wg,ewg⟩:∃y:World,wf.setRow bb cs.toArray=y:=⟨_,rfl⟩;refine L8 36 (.tmp 3) (.tmp 37) rfl bb rfl #[.int .i64 0,.int .i64 0,.string ⟨#[]⟩,.int .i64 0,.string ⟨#[]⟩,.slice none 0 0,.string ⟨#[]⟩,.int .i64 0] 36 gbf cs rfl (by rw [dO.out];rfl) (by rw [dO.out];exact a0X) aI.out ?_;rw [ewg];have hwg:Mod (fun _=>False) wr wg:=hwf.upon (ewg▸(Mod.refl (fun k=>k=bb) wf).setRow (fun _=>rfl) _) (fun k hk=> .inr (by have h':k=bb:=hk;omega));have ggf:wg.heap[bb]? =some (.cells cs.toArray 36 (0,0)):=by rw [<-ewg];exact setRow_heap wf bb _ _ _ _ gbf
     refine hK _ _ (fun _ h=>h) ?_;clear hK K ewg;refine wan 13 hS fun K hK=> ?_;go_simp;refine hK _ ?_;clear hK K;refine T9 zk ?_;have hS0:∀y,Mod (fun _=>False) wg y->l4 y bb 0 8/\cellsOf y bb 0 8=cs.toArray:=fun y hy=>⟨(d8.row (hy.heap ggf id)).all dO.out,(d8.row (hy.heap ggf id)).is dO.out⟩;refine hh2 hwg hS0 fun Fj ji=> ?_;clear hwg hS0 ggf gbf hwf hbf
     go_wp2_with fail
     refine i6 [.rd 0,.rd 1,.rd 2,.rd 3,.rd 4,.rd 5,.rd 6,.rd 8,.go 7,.go 9] [0,1,2,3,4,5,6,7,8] (fun y:World=>l4 y bb 0 8/\cellsOf y bb 0 8=cs.toArray) zk zk (fun _ _ d _ _ h=>(by cases d<;>exact h)) ?_;have hS:=ji.out wg.drew ((Mod.refl _ wg).drew);have hgd:Mod (fun _=>False) wr wg.drew:=Fj.out.trans ((Mod.refl _ wg).drew) zi
     iterate 8 (
      refine wrd hS fun K hK=> ?_
      go_simp;refine hK _ ?_;clear hK K)
     refine wgo fun K hK=> ?_
     go_wp2_with fail
     refine (uZ.out wg.drew hgd).mono ?_;rintro e _ ⟨rfl,rfl⟩;refine hK _ _ (fun _ h=>h) ?_;clear hK K;refine wgo fun K hK=> ?_
     go_wp2_with fail
     refine (qH.out wg.drew hgd).mono ?_;rintro e wl ⟨rfl,ow2,c2,hA2,hc2,aG,hM2⟩;refine hK _ _ (fun h=>absurd h zd) ?_;clear hK K hS;refine p8 ?_;refine hh3 hA2 aG hM2 fun HA2 dN vT=> ?_;clear hA2 aG hM2 hgd
     go_wp2_with fail
     go_roundg (gk - 1)
     case measure=>omega
     case rel=>
      have e1:=N2.out;have e2:=N5.out;have hcr:=iP.out;refine ⟨ow2,_,c2,HA2.out,dN.out,vT.out,N1.out, ?_, ?_,N3.out.trans EN.out,N4.out.trans Eup.out,N2.out.trans EL.out,fun h=> ?_, ?_⟩
      ·rw [e1,e2];omega
      ·omega
      ·rw [<-Eup.out,hb] at h;cases h
      have h1:=N6.out (gk - 1);rw [<-h1,show gk - 1+1=gk by omega];exact ET.out
    ·exact zg
    (try simp only [zz1,zz2,zz3]);go_simp;obtain ⟨wb,ewb,mwb,gwb, -⟩:=g6 wy (.cells #[.int .i64 0,.int .i64 0,.string ⟨#[]⟩,.int .i64 0,.string ⟨#[]⟩,.slice none 0 0,.string ⟨#[]⟩,.int .i64 0] 36);rw [ewb];have hwb:Mod (fun _=>False) wr wb:=rM.trans mwb zi;have hbb:=rM.size;refine hK _ _ (fun _ h=>h) ?_;clear hK K ewb;obtain ⟨bb,eb⟩:∃b,wy.heap.size=b:=⟨_,rfl⟩;rw [eb] at gwb hbb⊢;refine j9 (i:=7) zk (g8 rfl ?_ (fun K hK=> ?_))
    ·exact zg
    go_wp2_with fail
    refine (zN.out wb hwb).mono ?_;rintro e wu ⟨rfl,mwu⟩;have mR:Mod (fun _=>False) wr wu:=hwb.trans mwu zi;refine hK _ _ (fun _ h=>h) ?_;clear hK K;refine wan 8 hS fun K hK=> ?_;go_simp;refine hK _ ?_;clear hK K;refine wan 9 hS fun K hK=> ?_;go_simp;refine hK _ ?_;clear hK K;refine wan 10 hS fun K hK=> ?_;go_simp;refine hK _ ?_;clear hK K;obtain ⟨wf,rfl⟩:∃y:World,y=wu:=⟨_,rfl⟩;have gbf:=mwu.heap gwb id;have hwf:=mR;have hbf:=hbb;refine j9 (i:=12) zk (g8 rfl ?_ (fun K hK=> ?_))
    ·exact zg
    (try simp only [zz1,zz2,zz3]);obtain ⟨wg,ewg⟩:∃y:World,wf.setRow bb cs.toArray=y:=⟨_,rfl⟩;refine L8 36 (.tmp 3) (.tmp 37) rfl bb rfl #[.int .i64 0,.int .i64 0,.string ⟨#[]⟩,.int .i64 0,.string ⟨#[]⟩,.slice none 0 0,.string ⟨#[]⟩,.int .i64 0] 36 gbf cs rfl (by rw [dO.out];rfl) (by rw [dO.out];exact a0X) aI.out ?_;rw [ewg];have hwg:Mod (fun _=>False) wr wg:=hwf.upon (ewg▸(Mod.refl (fun k=>k=bb) wf).setRow (fun _=>rfl) _) (fun k hk=> .inr (by have h':k=bb:=hk;omega));have ggf:wg.heap[bb]? =some (.cells cs.toArray 36 (0,0)):=by rw [<-ewg];exact setRow_heap wf bb _ _ _ _ gbf
    refine hK _ _ (fun _ h=>h) ?_;clear hK K ewg;refine wan 13 hS fun K hK=> ?_;go_simp;refine hK _ ?_;clear hK K;refine T9 zk ?_;have hS0:∀y,Mod (fun _=>False) wg y->l4 y bb 0 8/\cellsOf y bb 0 8=cs.toArray:=fun y hy=>⟨(d8.row (hy.heap ggf id)).all dO.out,(d8.row (hy.heap ggf id)).is dO.out⟩;refine hh2 hwg hS0 fun Fj ji=> ?_;clear hwg hS0 ggf gbf hwf hbf
    go_wp2_with fail
    refine i6 [.rd 0,.rd 1,.rd 2,.rd 3,.rd 4,.rd 5,.rd 6,.rd 8,.go 7,.go 9] [0,1,2,3,4,5,6,7,8] (fun y:World=>l4 y bb 0 8/\cellsOf y bb 0 8=cs.toArray) zk zk (fun _ _ d _ _ h=>(by cases d<;>exact h)) ?_;have hS:=ji.out wg.drew ((Mod.refl _ wg).drew);have hgd:Mod (fun _=>False) wr wg.drew:=Fj.out.trans ((Mod.refl _ wg).drew) zi
    iterate 8 (
     refine wrd hS fun K hK=> ?_
     go_simp;refine hK _ ?_;clear hK K)
    refine wgo fun K hK=> ?_
    go_wp2_with fail
    refine (uZ.out wg.drew hgd).mono ?_;rintro e _ ⟨rfl,rfl⟩;refine hK _ _ (fun _ h=>h) ?_;clear hK K;refine wgo fun K hK=> ?_
    go_wp2_with fail
    refine (qH.out wg.drew hgd).mono ?_;rintro e wl ⟨rfl,ow2,c2,hA2,hc2,aG,hM2⟩;refine hK _ _ (fun h=>absurd h zd) ?_;clear hK K hS;refine p8 ?_;refine hh3 hA2 aG hM2 fun HA2 dN vT=> ?_;clear hA2 aG hM2 hgd
    go_wp2_with fail
    go_roundg (gk - 1)
    case measure=>omega
    case rel=>
     have e1:=N2.out;have e2:=N5.out;have hcr:=iP.out;refine ⟨ow2,_,c2,HA2.out,dN.out,vT.out,N1.out, ?_, ?_,N3.out.trans EN.out,N4.out.trans Eup.out,N2.out.trans EL.out,fun h=> ?_, ?_⟩
     ·rw [e1,e2];omega
     ·omega
     ·rw [<-Eup.out,hb] at h;cases h
     have h1:=N6.out (gk - 1);rw [<-h1,show gk - 1+1=gk by omega];exact ET.out
   ·exact zg
   (try simp only [zz1,zz2,zz3]);go_simp;obtain ⟨wb,ewb,mwb,gwb, -⟩:=g6 wy (.cells #[.int .i64 0,.int .i64 0,.string ⟨#[]⟩,.int .i64 0,.string ⟨#[]⟩,.slice none 0 0,.string ⟨#[]⟩,.int .i64 0] 36);rw [ewb];have hwb:Mod (fun _=>False) wr wb:=rM.trans mwb zi;have hbb:=rM.size;refine hK _ _ (fun _ h=>h) ?_;clear hK K ewb;obtain ⟨bb,eb⟩:∃b,wy.heap.size=b:=⟨_,rfl⟩;rw [eb] at gwb hbb⊢;refine j9 (i:=6) zk (g8 rfl ?_ (fun K hK=> ?_))
   ·exact zg
   go_wp2_with fail
   refine (uZ.out wb hwb).mono ?_;rintro e _ ⟨rfl,rfl⟩;refine hK _ _ (fun _ h=>h) ?_;clear hK K;refine j9 (i:=7) zk (g8 rfl ?_ (fun K hK=> ?_))
   ·exact zg
   go_wp2_with fail
   refine (zN.out wb hwb).mono ?_;rintro e wu ⟨rfl,mwu⟩;have mR:Mod (fun _=>False) wr wu:=hwb.trans mwu zi;refine hK _ _ (fun _ h=>h) ?_;clear hK K;refine wan 8 hS fun K hK=> ?_;go_simp;refine hK _ ?_;clear hK K;refine wan 9 hS fun K hK=> ?_;go_simp;refine hK _ ?_;clear hK K;refine wan 10 hS fun K hK=> ?_;go_simp;refine hK _ ?_;clear hK K;obtain ⟨wf,rfl⟩:∃y:World,y=wu:=⟨_,rfl⟩;have gbf:=mwu.heap gwb id;have hwf:=mR;have hbf:=hbb;refine j9 (i:=12) zk (g8 rfl ?_ (fun K hK=> ?_))
   ·exact zg
   (try simp only [zz1,zz2,zz3]);obtain ⟨wg,ewg⟩:∃y:World,wf.setRow bb cs.toArray=y:=⟨_,rfl⟩;refine L8 36 (.tmp 3) (.tmp 37) rfl bb rfl #[.int .i64 0,.int .i64 0,.string ⟨#[]⟩,.int .i64 0,.string ⟨#[]⟩,.slice none 0 0,.string ⟨#[]⟩,.int .i64 0] 36 gbf cs rfl (by rw [dO.out];rfl) (by rw [dO.out];exact a0X) aI.out ?_;rw [ewg];have hwg:Mod (fun _=>False) wr wg:=hwf.upon (ewg▸(Mod.refl (fun k=>k=bb) wf).setRow (fun _=>rfl) _) (fun k hk=> .inr (by have h':k=bb:=hk;omega));have ggf:wg.heap[bb]? =some (.cells cs.toArray 36 (0,0)):=by rw [<-ewg];exact setRow_heap wf bb _ _ _ _ gbf
   refine hK _ _ (fun _ h=>h) ?_;clear hK K ewg;refine wan 13 hS fun K hK=> ?_;go_simp;refine hK _ ?_;clear hK K;refine T9 zk ?_;have hS0:∀y,Mod (fun _=>False) wg y->l4 y bb 0 8/\cellsOf y bb 0 8=cs.toArray:=fun y hy=>⟨(d8.row (hy.heap ggf id)).all dO.out,(d8.row (hy.heap ggf id)).is dO.out⟩;refine hh2 hwg hS0 fun Fj ji=> ?_;clear hwg hS0 ggf gbf hwf hbf
   go_wp2_with fail
   refine i6 [.rd 0,.rd 1,.rd 2,.rd 3,.rd 4,.rd 5,.rd 6,.rd 8,.go 7,.go 9] [0,1,2,3,4,5,6,7,8] (fun y:World=>l4 y bb 0 8/\cellsOf y bb 0 8=cs.toArray) zk zk (fun _ _ d _ _ h=>(by cases d<;>exact h)) ?_;have hS:=ji.out wg.drew ((Mod.refl _ wg).drew);have hgd:Mod (fun _=>False) wr wg.drew:=Fj.out.trans ((Mod.refl _ wg).drew) zi
   iterate 8 (
    refine wrd hS fun K hK=> ?_
    go_simp;refine hK _ ?_;clear hK K)
   refine wgo fun K hK=> ?_
   go_wp2_with fail
   refine (uZ.out wg.drew hgd).mono ?_;rintro e _ ⟨rfl,rfl⟩;refine hK _ _ (fun _ h=>h) ?_;clear hK K;refine wgo fun K hK=> ?_
   go_wp2_with fail
   refine (qH.out wg.drew hgd).mono ?_;rintro e wl ⟨rfl,ow2,c2,hA2,hc2,aG,hM2⟩;refine hK _ _ (fun h=>absurd h zd) ?_;clear hK K hS;refine p8 ?_;refine hh3 hA2 aG hM2 fun HA2 dN vT=> ?_;clear hA2 aG hM2 hgd
   go_wp2_with fail
   go_roundg (gk - 1)
   case measure=>omega
   case rel=>
    have e1:=N2.out;have e2:=N5.out;have hcr:=iP.out;refine ⟨ow2,_,c2,HA2.out,dN.out,vT.out,N1.out, ?_, ?_,N3.out.trans EN.out,N4.out.trans Eup.out,N2.out.trans EL.out,fun h=> ?_, ?_⟩
    ·rw [e1,e2];omega
    ·omega
    ·rw [<-Eup.out,hb] at h;cases h
    have h1:=N6.out (gk - 1);rw [<-h1,show gk - 1+1=gk by omega];exact ET.out
  have d1:=decide_eq_false hlt;have d2:decide (((s'.B 0).L.length:Int)<(s'.L.length:Int))=false:=decide_eq_false zo;have hm0:gk=0:=zo
  go_wp2_with fail
  refine g9 zk zk ?_
  iterate 17 (first
   | (refine j1 ?_ (fun K hK=> ?_)
      ·first|(go_simp;done)|(go_simp;simp [undef];done)
      go_simp;refine hK _ ?_;clear hK K)
   | (refine l9 ?_ ?_ (fun w' hw'=> ?_) (fun K hK=> ?_)
      ·first|(go_simp;done)|(go_simp;simp [undef];done)
      rotate_left
      ·obtain ⟨f0,f1⟩:=HF.out w' hw';go_simp;rfl
      go_simp;refine hK _ ?_;clear hK K)
   | (refine q7 ?_ ?_ ?_ ?_ (fun w' hw'=> ?_) ?_ (fun K hK=> ?_)
      ·first|(go_simp;done)|(go_simp;simp [undef];done)
      rotate_left 3
      ·obtain ⟨f0,f1⟩:=HF.out w' hw';go_simp;constructor<;>rfl
      ·first|with_reducible first|exact Az.out|exact jF.out
      go_simp;refine hK _ ?_;clear hK K))
  refine j8 (fun w' hw'=> ?_)
  go_wp2_with fail
  go_end0
  refine ⟨rfl,PX.out w' hw' ?_⟩;unfold NS.teach;rw [<-Eup.out,hb,if_pos rfl,<-ET.out,hm0];rfl
end
open Go.RowKit
theorem a6Z {w:World} {B sz n:Nat} {e:TypeId} {v:Value} {xs:List Value} (h:w.ownsRow B e sz v n xs):∀b,v.ownBlock=some b->B<=b:=by
 obtain ⟨h1,h2⟩:=h;rcases h2 with ⟨rfl,h⟩|⟨g,cap,cur,rfl,h2,h3,h4,h5,h6,h7⟩
 ·exact fun k hk=>by cases hk
 exact fun k hk=>by cases hk;exact h2
theorem b0q (w:World) (v:Value) (l:List Int) (h:g7 w 3 1 v l.length (F9 l)) (hl:l.length<=1000000):
 Calls Tryz.prog 41 #[v] w fun e w'=>∃v',e= .returned v'/\g7 w' 3 1 v' l.length (F9 l)/\Mod (fun _=>False) w w'/\∀b,v'.ownBlock=some b->w.heap.size<=b:=by
 have hrd:=h.rd;rcases h.2 with ⟨rfl,h0⟩|⟨g,off,cap,cur,rfl,hg,hn,hc,hs,ht⟩
 ·obtain rfl:l=[]:=List.eq_nil_of_length_eq_zero h0;refine (Tryz.slices_Clone_int_nil 0 0 w).mono fun e w' h=> ?_;obtain ⟨rfl,rfl⟩:=h;exact ⟨_,rfl,g7.nil _ _ _,Mod.refl _ _,fun b hb=>by cases hb⟩
 by_cases hp:0<l.length
 ·refine (Tryz.slices_Clone_int g off l.length cap l w (Nat.le_refl _) zo (fun j hj=> ?_)).mono fun e w' h=> ?_
  ·obtain ⟨-,a,c,h1, -, -,h4⟩:=hrd;cases h1
   obtain ⟨g',off',h5,h6⟩:=h4 _ rfl hp;cases h5
   refine h6 j _ ?_;rw [R6 (zz5 hj)];simp [List.getD,hj]
  obtain ⟨v',rfl,h1, -,h3⟩:=h;rw [List.take_length] at h1;exact ⟨v',rfl,a82 h1,a4K h3,a6Z h1⟩
 obtain rfl:l=[]:=List.eq_nil_of_length_eq_zero zo;refine (Tryz.slices_Clone_int_zero _ cap w).mono fun e w' h=> ?_;obtain ⟨v',rfl,h1, -,h3⟩:=h;exact ⟨v',rfl,a82 h1,a4K h3,a6Z h1⟩
theorem a3T (w:World) (t:Nat) (N:List (List Int)) (b:Int) (h:U0 w t N) (hN:N.length<=1000) (hl:∀l∈N,l.length<=1000000):
 Calls Tryz.prog 25 #[.pointer (some ⟨t,0,none⟩),.int .i64 b] w fun e w'=>∃v',e= .returned v'/\g7 w' 3 1 v' (m5 N b).length (F9 (m5 N b))/\Mod (fun _=>False) w w'/\∀b,v'.ownBlock=some b->w.heap.size<=b:=by
 obtain ⟨g,vs,ht,hg,hv,ho⟩:=h.rd;have ct:w.cell? ⟨t,0,none⟩=some (.slice (some ⟨g,0,none⟩) N.length N.length):=d6 ht rfl;have hN':(N.length:Int)<=1000:=zo
 by_cases hb:b<0
 ·have e:m5 N b=[]:=by unfold m5;rw [if_pos hb]
  rw [e];clear ht ho h hg e hl
  go_enter Tryz.func25,Tryz.ntmps25
  go_wp2
  go_ret;exact ⟨_,rfl,g7.nil _ _ _,Mod.refl _ _,fun b hb=>by cases hb⟩
 obtain ⟨k,rfl⟩:∃k:Nat,b=k:=⟨b.toNat,zo⟩;by_cases hk:k<N.length
 ·have hk':(k:Int)<N.length:=zo
  obtain ⟨v,hvk⟩:∃v,vs[k]? =some v:=⟨_,zz5 zo⟩;obtain ⟨l,hlk⟩:∃v,N[k]? =some v:=⟨_,zz5 zo⟩;rw [a6K hlk];have c:w.cell? ⟨g,k,none⟩=some v:=(cell_of_row w g k _ _ _ hg).trans (by simpa using hvk);have hcl:=b0q w v l (ho k v l hvk hlk) (hl l (zz8 hlk));refine hh1 hcl fun dO=> ?_;clear hcl ht ho h hg hl hvk hlk hv
  go_enter Tryz.func25,Tryz.ntmps25
  go_wp2_with fail
  refine dO.out.mono ?_;rintro e w2 ⟨v',rfl,h1,h2,h3⟩;refine hh3 h1 h2 h3 fun H1 H2 H3=> ?_;clear h1 h2 h3 dO
  go_wp2
  go_ret;exact ⟨_,rfl,H1.out,H2.out,H3.out⟩
 have e:m5 N k=[]:=by
  unfold m5;rw [if_neg hb,Int.toNat_natCast];simp [List.getD,List.getElem?_eq_none (Nat.le_of_not_lt hk)]
 rw [e];have hk':(N.length:Int)<=k:=zo
 clear ht ho h hg e hl
 go_enter Tryz.func25,Tryz.ntmps25
 go_wp2
 go_ret;exact ⟨_,rfl,g7.nil _ _ _,Mod.refl _ _,fun b hb=>by cases hb⟩
end Go.Proofs.YtdmjoodhaeijmaaGreatDoor
