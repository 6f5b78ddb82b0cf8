/- Lemmas. -/
import Derived.Test.YtdmjoodhaeijmaaGreatDoorZn41
set_option maxHeartbeats 40000000
set_option maxRecDepth 20000
namespace Go.Proofs.YtdmjoodhaeijmaaGreatDoor
section
open Go.RowKit
structure F3 (s:NS):Prop where
 len:s.L.length<=40
 chk:∀i p,s.L[i]? =some p->R2 (s.L.take i) p=0/\p.kept=p
 pre:∀i,i<s.N.length->∃n,n<=s.L.length/\(s.B i).L=s.L.take n
 hm:∀(i:Nat) p,s.L[i]? =some p->p.kind=0->p.broker<s.N.length
theorem F3.next {s:NS} (h:F3 s) {i:Nat} (hi:i<s.N.length) {p:PRu} (hp:s.L[(s.B i).L.length]? =some p):A3 (s.B i).L (s.B i).L.length p=true/\((s.B i).learn (s.B i).L.length p).L=s.L.take ((s.B i).L.length+1):=by
 obtain ⟨n,hn,hB⟩:=h.pre i hi;have hl:(s.B i).L.length=n:=by rw [hB,List.length_take];omega
 rw [hl] at hp⊢;obtain ⟨h1,h2⟩:=h.chk n p hp
 have h3:A3 (s.B i).L n p=true:=by
  unfold A3;rw [hl,hB,h1];simp
 refine ⟨h3, ?_⟩;show (if A3 (s.B i).L n p then I9 (s.B i).L p else (s.B i).L)=_;rw [if_pos h3];unfold I9;rw [hB,h1,if_pos rfl,h2,List.take_add_one,hp];rfl
theorem NS.learn_L (s:NS) (i:Nat) (at_:Int) (p:PRu) (frm:Int):(s.learn i at_ p frm).L=s.L/\(s.learn i at_ p frm).N=s.N/\(s.learn i at_ p frm).up=s.up/\(s.learn i at_ p frm).B=upd s.B i ((s.B i).learn at_ p):=by
 have h:=Agr.sends i (s.setB i ((s.B i).learn at_ p)) (if A3 (s.B i).L at_ p then I3 (s.near i) frm at_ p else []);exact ⟨h.L,h.N,h.up,h.B⟩
theorem F3.learn {s:NS} (h:F3 s) {i:Nat} (hi:i<s.N.length) {p:PRu} (hp:s.L[(s.B i).L.length]? =some p) (frm:Int):F3 (s.learn i (s.B i).L.length p frm):=by
 obtain ⟨e1,e2,e3,e4⟩:=s.learn_L i (s.B i).L.length p frm;have hlt:=(zz6 hp).1;refine ⟨by rw [e1];exact h.len,fun j r hr=> ?_,fun j hj=> ?_,by rw [e1,e2];exact h.hm⟩
 ·rw [e1] at hr⊢;exact h.chk j r hr
 rw [e2] at hj;rw [e1,e4];by_cases e:j=i
 ·subst e;rw [J0,(h.next hi hp).2];exact ⟨_,zo,rfl⟩
 rw [L9 _ _ e];exact h.pre j hj
theorem F3.told {s:NS} (h:F3 s) {i:Nat} (hi:i<s.N.length) {n:Nat} {p:PRu} (hp:s.L[n]? =some p) (frm:Int):F3 (s.learn i n p frm):=by
 by_cases e:n=(s.B i).L.length
 ·subst e;exact h.learn hi hp frm
 have hf:A3 (s.B i).L n p=false:=by
  unfold A3;rw [decide_eq_false (by omega:¬(n:Int)=((s.B i).L.length:Int))];rfl
 obtain ⟨e1,e2,e3,e4⟩:=s.learn_L i n p frm
 have e5:(s.B i).learn n p=s.B i:=by
  unfold BS.learn;rw [hf];rfl
 refine ⟨by rw [e1];exact h.len,fun j r hr=> ?_,fun j hj=> ?_,by rw [e1,e2];exact h.hm⟩
 ·rw [e1] at hr⊢;exact h.chk j r hr
 rw [e2] at hj;rw [e1,e4,e5];by_cases e:j=i
 ·subst e;rw [J0];exact h.pre j hj
 rw [L9 _ _ e];exact h.pre j hj
theorem F3.bl {s:NS} (h:F3 s) {i:Nat} (hi:i<s.N.length):(s.B i).L.length<=40:=by
 obtain ⟨n,h1,h2⟩:=h.pre i hi;have:=h.len;rw [h2,List.length_take];omega
theorem U6 {sc:ByteArray} {l:List Cnd} (hr:l0 sc l=true) (hn:∀c∈l,c.v.num<2^64):l0 sc (j7 l)=true:=by
 have hf:=a1k hr hn;have hl:=X5 l;unfold l0 at hr⊢;simp only [Bool.and_eq_true,List.all_eq_true,decide_eq_true_eq] at hr⊢;refine ⟨fun c hc=> ?_,hr.2.1,zo⟩;have h1:=hf c hc;unfold Cnd.rightB;simp only [Bool.and_eq_true,decide_eq_true_eq];exact ⟨h1.name,h1.op.1,h1.op.2,h1.v⟩
theorem PRu.kept_eq (p:PRu):p.kept.kind=p.kind/\p.kept.tenant=p.tenant/\p.kept.who=p.who/\p.kept.broker=p.broker/\p.kept.at_=p.at_:=by
 unfold PRu.kept;split<;>exact ⟨rfl,rfl,rfl,rfl,rfl⟩
theorem PRu.kept_no {p:PRu} (h:l0 p.sc p.cs=false):p.kept=p:=by
 unfold PRu.kept;rw [if_neg (by rw [h];decide)]
theorem PRu.kept_yes {p:PRu} (h:l0 p.sc p.cs=true):p.kept={p with cs:=j7 p.cs}:=by
 unfold PRu.kept;rw [if_pos h]
theorem PRu.kept_kept {p:PRu} (hn:∀c∈p.cs,c.v.num<2^64):p.kept.kept=p.kept:=by
 cases h:l0 p.sc p.cs with
 |true=>
  rw [PRu.kept_yes h,PRu.kept_yes (p:={p with cs:=j7 p.cs}) (U6 h hn)];show ({p with cs:=j7 (j7 p.cs)}:PRu)=_;rw [a3N]
 |false=>rw [PRu.kept_no h,PRu.kept_no h]
theorem PRu.kept_right {p:PRu} (hn:∀c∈p.cs,c.v.num<2^64):p.kept.rightB=p.rightB:=by
 cases h:l0 p.sc p.cs with
 |true=>
  rw [PRu.kept_yes h];unfold PRu.rightB Ru.rightB;show (if p.kind=4 then decide (0<=p.at_) else if p.kind<0\/4<p.kind\/p.tenant<0\/4<=p.tenant\/r4 p.who=false then false else if p.kind=0 then decide (0<=p.broker)&&decide (p.broker<6) else if p.kind=3 then r4 p.name&&B5 p.sc else l0 p.sc (j7 p.cs))=(if p.kind=4 then decide (0<=p.at_) else if p.kind<0\/4<p.kind\/p.tenant<0\/4<=p.tenant\/r4 p.who=false then false else if p.kind=0 then decide (0<=p.broker)&&decide (p.broker<6) else if p.kind=3 then r4 p.name&&B5 p.sc else l0 p.sc p.cs);rw [h,U6 h hn]
 |false=>rw [PRu.kept_no h]
theorem b0k (L:List PRu) {p:PRu} (hn:∀c∈p.cs,c.v.num<2^64):R2 L p.kept=R2 L p:=by
 obtain ⟨h1,h2,h3, -,h5⟩:=p.kept_eq;unfold R2;have e:a4f L p.kept=a4f L p:=by unfold a4f;rw [h5]
 rw [PRu.kept_right hn,e,h1,h2,h3]
theorem a87 {L:List PRu} {p:PRu} (h:R2 L p=0):I9 L p=L++[p.kept]:=if_pos h
theorem F3.add {s:NS} (h:F3 s) {p:PRu} (hn:∀c∈p.cs,c.v.num<2^64) (hb:p.kind=0->p.broker<s.N.length) (hc:R2 s.L p=0):F3 {s with L:=I9 s.L p}:=by
 have e:=a87 hc;refine ⟨a7J h.len p,fun i r hr=> ?_,fun i hi=> ?_,fun i r hr=> ?_⟩
 ·have hr:(I9 s.L p)[i]? =some r:=hr;show R2 ((I9 s.L p).take i) r=0/\_;rw [e] at hr⊢;by_cases hl:i<s.L.length
  ·rw [List.getElem?_append_left hl] at hr;rw [List.take_append_of_le_length (Nat.le_of_lt hl)];exact h.chk i r hr
  have hi:i=s.L.length:=by
   have:=(zz6 hr).1;rw [zz4,List.length_singleton] at this;omega
  subst hi;rw [List.getElem?_append_right (Nat.le_refl _),Nat.sub_self] at hr;obtain rfl:p.kept=r:=Option.some.inj hr;rw [List.take_left' rfl];exact ⟨(b0k s.L hn).trans hc,PRu.kept_kept hn⟩
 ·obtain ⟨n,h1,h2⟩:=h.pre i hi;show∃n,n<=(I9 s.L p).length/\(s.B i).L=(I9 s.L p).take n;rw [e];refine ⟨n,by rw [zz4];omega, ?_⟩;rw [List.take_append_of_le_length h1];exact h2
 have hr:(I9 s.L p)[i]? =some r:=hr;rw [e] at hr;by_cases hl:i<s.L.length
 ·rw [List.getElem?_append_left hl] at hr;exact h.hm i r hr
 have hi:i=s.L.length:=by
  have:=(zz6 hr).1;rw [zz4,List.length_singleton] at this;omega
 subst hi;rw [List.getElem?_append_right (Nat.le_refl _),Nat.sub_self] at hr;obtain rfl:p.kept=r:=Option.some.inj hr;obtain ⟨h1, -, -,h4, -⟩:=p.kept_eq;rw [h1,h4];exact hb
theorem I5 {N:List (List Int)} {i n:Int} (h:n∈m5 N i):n9 N i n=true:=by
 unfold n9;rw [List.any_eq_true];exact ⟨n,h,by simp⟩
theorem a2d {N:List (List Int)} {i n t:Int} (h:n∈m5 N i) (ht: -1<=t/\t<4):M4 N i n t=true:=by
 unfold M4;rw [I5 h,decide_eq_true ht.1,decide_eq_true ht.2];rfl
theorem a5M {i t:Nat} (hi:i<6) (h:sdT t):t<20+20*i\/20+20*i+18<=t:=by unfold sdT at h;omega
def U7 (w0 w:World) (ow:Ow) (q i:Nat) (a:NAd) (L:List Lr) (k:Nat) (pin:Option a4n) (s':NS) (c':Nat) (w':World):Prop:=∃ow',y7 w0 w' ow' q a L s' c' k/\Mov (Q6 i) w ow w' ow'/\Y2 w' ow' pin
theorem a4W {w0 w:World} {ow:Ow} {q c k i:Nat} {a:NAd} {L:List Lr} {s:NS} {pin:Option a4n} (hpn:U5 i pin) (hpk:Y2 w ow pin) (hw:Owd w0 w ow) (h:y7 w0 w ow q a L s c k) (hi:i<s.N.length) (hL:(s.B i).L.length<=40) (hc:c<=300000000000) (at_:Int) (p:PRu) (ra:Option Addr) (rc:Nat) (hx:a5p w ow (p,ra,rc)) (frm:Int):
 Calls Tryz.prog 73 #[.pointer (some ⟨a.bg i,0,none⟩),.iface 138 (.agg #[.pointer (some ⟨q,0,none⟩),.int .i64 i]),.int .i64 at_,.agg (p.lies ra rc).cells.toArray,.int .i64 frm] w
  fun e w'=>e= .returned (.bool (A3 (s.B i).L at_ p))/\∃c',c'<=c+6/\U7 w0 w ow q i a L k pin (s.learn i at_ p frm) c' w':=by
 have rO:=h.nok.len;have hnl:=h.nok.nl i;refine (b1Y w0 w ow (20+20*i) (a.bg i) i (s.near i) (s.B i) hw (h.bro i hi) hL q (i:Int) (Q8 w0 q i a s.N h.nok hi pin hpn) (s.setB i ((s.B i).learn at_ p),c) ⟨h.side.setB _ _,h.sz.setB _ _,rfl,hpk⟩ (fun t ht=>a5M zo ht) (by show c+(m5 s.N i).length<=_;omega) (by show (m5 s.N i).length<=_;omega) (fun n hn=>a2d hn zo) at_ p ra rc hx frm).mono ?_;rintro e w' ⟨he,ow',hB,hO,hM⟩;rw [a0I] at hO;obtain ⟨h1,h2, -,h3⟩:=hO;refine ⟨he,_, ?_,ow',h.call hw hi hB h1 h2 (hM.mono (fun t ht=> ?_)) (Agr.sends _ _ _),hM.mono (fun t ht=> ?_),h3⟩
 ·have hl:(if A3 (s.B i).L at_ p then I3 (s.near i) frm at_ p else []).length<=6:=by
   split
   ·exact Nat.le_trans (Z6 _ _ _ _) hnl
   exact Nat.zero_le _
  exact Nat.add_le_add_left hl c
 all_goals
  rcases ht with ht|ht
  ·exact .inl zo
  exact .inr ht
theorem NS.setB_self (s:NS) (i:Nat):s.setB i (s.B i)=s:=by
 have:upd s.B i (s.B i)=s.B:=by
  funext j;unfold upd;split
  ·rename_i e;rw [e]
  rfl
 unfold NS.setB;rw [this]
theorem b2P {i t q:Nat} (ht:t<4) (h:b2k (20+20*i) t sdT q):Q6 i q:=by
 rcases h with h|h
 ·exact .inl zo
 exact .inr h
section
variable {w0 w:World} {ow:Ow} {q c k i:Nat} {a:NAd} {L:List Lr} {s:NS} {pin:Option a4n}
theorem y7.wfn (h:y7 w0 w ow q a L s c k):∀n∈s.near i,(Lit.int .i64 n).wf=true:=fun n hn=>(h.nok.wf _ _ (I5 hn)).2
theorem a8h {hN:NOk s.N} {hi:i<s.N.length} {hpn:U5 i pin} {w':World} {ow':Ow} {H:List Hn} {S:List Sd} (h:(Q8 w0 q i a s.N hN hi pin hpn).inv w' ow' ((Q8 w0 q i a s.N hN hi pin hpn).sends ((Q8 w0 q i a s.N hN hi pin hpn).shows (s,c) H) S)):
 A1 w' ow' q a (NS.sends i (NS.shows s H) S) (c+H.length+S.length)/\Sz (NS.sends i (NS.shows s H) S) (c+H.length+S.length)/\Y2 w' ow' pin:=by
 have e:(Q8 w0 q i a s.N hN hi pin hpn).sends ((Q8 w0 q i a s.N hN hi pin hpn).shows (s,c) H) S=(NS.sends i (NS.shows s H) S,c+H.length+S.length):=(congrArg (fun st=>(Q8 w0 q i a s.N hN hi pin hpn).sends st S) (a6V s c H)).trans (a0I _ _ S);have h1:=(congrArg (fun st=>(Q8 w0 q i a s.N hN hi pin hpn).inv w' ow' st) e).mp h;exact ⟨h1.1,h1.2.1,h1.2.2.2⟩
theorem a6W (on:Bool) (hpn:U5 i pin) (hpk:Y2 w ow pin) (hw:Owd w0 w ow) (h:y7 w0 w ow q a L s c k) (hi:i<s.N.length) (t:Nat) (ht:t<4) (hc:c<=300000000000) (hR:RS.Go ((s.B i).R t)) (frm:Int) (hfw:(Lit.int .i64 frm).wf=true)
 (x:Mv) (hk:x.m.kind=tkK on) (hf:i8 w 7 (.slice x.fa x.m.fl.length x.fc) x.m.fl.length (q8 x.m.fl)) (hfr:l0 x.m.fs x.m.fl=true) (hft:∀c∈x.m.fl,c.fits):
 Calls Tryz.prog 58 #[.pointer (some ⟨a.bg i,0,none⟩),.iface 138 (.agg #[.pointer (some ⟨q,0,none⟩),.int .i64 i]),.int .i64 frm,.int .i64 t,.agg x.cells.toArray] w
  fun e w'=>e= .returned (.bool true)/\U7 w0 w ow q i a L k pin (NS.sends i (s.setB i ((s.B i).takeB (s.near i) t frm (x.m.fs,j7 x.m.fl) on)) ((s.B i).takeS (s.near i) t frm (x.m.fs,j7 x.m.fl) on)) (c+((s.B i).takeS (s.near i) t frm (x.m.fs,j7 x.m.fl) on).length) w':=by
 have rO:=h.nok.len;have hnl:=h.nok.nl i;refine (b2p on w0 w ow hw (20+20*i) (a.bg i) i (s.near i) (s.B i) (h.bro i hi) (by show (m5 s.N i).length<=_;omega) h.wfn t ht q (i:Int) (Q8 w0 q i a s.N h.nok hi pin hpn) (s.setB i ((s.B i).takeB (s.near i) t frm (x.m.fs,j7 x.m.fl) on),c) ⟨h.side.setB _ _,h.sz.setB _ _,rfl,hpk⟩ (fun t ht=>a5M zo ht) (fun n hn=>a2d hn zo) hc hR frm hfw x hk hf hfr hft).mono ?_;rintro e w' ⟨he,ow',hB,hO,hM⟩;rw [a0I] at hO;obtain ⟨h1,h2, -,h3⟩:=hO;have hM':=hM.mono (G:=Q6 i) (fun p hp=>b2P ht hp);exact ⟨he,ow',h.call hw hi hB h1 h2 hM' (Agr.sends _ _ _),hM',h3⟩
theorem b0l (hpn:U5 i pin) (hpk:Y2 w ow pin) (hw:Owd w0 w ow) (h:y7 w0 w ow q a L s c k) (hi:i<s.N.length) (hL:(s.B i).L.length<=40) (t:Nat) (ht:t<4) (hc:c<=300000000000) (hT:((s.B i).R t).T<=100000) (OG:((s.B i).R t).N<=1000000)
 (uk:∀k∈((s.B i).R t).I.map Prod.fst,(Lit.int .i64 k).wf=true/\∃q,a0A ((s.B i).R t).S k=some q/\okQ q.2/\q.1.size<=1000000) (Ey:((s.B i).R t).I.length<=1000) (frm:Int) (x:Mv) (hx:R4 w ow x) (he:a7Z x.m.es x.m.el) (hk:x.m.kind≠0/\x.m.kind≠1/\x.m.kind≠2):
 Calls Tryz.prog 58 #[.pointer (some ⟨a.bg i,0,none⟩),.iface 138 (.agg #[.pointer (some ⟨q,0,none⟩),.int .i64 i]),.int .i64 frm,.int .i64 t,.agg x.cells.toArray] w
  fun e w'=>e= .returned (.bool (decide (x.m.ver<=(s.B i).L.length)))/\U7 w0 w ow q i a L k pin (if x.m.ver<=(s.B i).L.length then s.route i t frm x.m else s) (if x.m.ver<=(s.B i).L.length then c+((s.B i).rouH t x.m).length+(V9 ((s.B i).R t).M (s.near i) t frm x.m).length else c) w':=by
 have rO:=h.nok.len;have hnl:=h.nok.nl i;refine (b4B w0 w ow hw (20+20*i) (a.bg i) i (s.near i) (s.B i) (h.bro i hi) hL (by show (m5 s.N i).length<=_;omega) h.wfn t ht q (i:Int) (Q8 w0 q i a s.N h.nok hi pin hpn) (s,c) ⟨h.side,h.sz,rfl,hpk⟩ (fun t ht=>a5M zo ht) (fun n hn=>a2d hn zo) hc hT OG uk Ey frm x hx he hk).mono ?_;rintro e w' ⟨he,ow',hB,hO,hM⟩;have hM':=hM.mono (G:=Q6 i) (fun p hp=> .inr hp);refine ⟨he,ow', ?_⟩;split
 ·rename_i hv
  obtain ⟨h1,h2,h3⟩:=a8h ((congrArg (fun st=>(Q8 w0 q i a s.N h.nok hi pin hpn).inv w' ow' st) (if_pos hv)).mp hO);exact ⟨h.call hw hi hB h1 h2 hM' (by rw [NS.setB_self];exact (Agr.shows _ _).trans (Agr.sends _ _ _)),hM',h3⟩
 rename_i hv
 obtain ⟨h1,h2, -,h3⟩:=(congrArg (fun st=>(Q8 w0 q i a s.N h.nok hi pin hpn).inv w' ow' st) (if_neg hv)).mp hO;exact ⟨h.call hw hi hB h1 h2 hM' (by rw [NS.setB_self];exact Agr.refl s),hM',h3⟩
end
end
section
open Go.RowKit
structure P2 (L:List PRu) (t:Int) (m:Mg):Prop where
 kd:m.kind=0\/m.kind=1\/m.kind=2\/m.kind=3
 pol:m.kind=0->∃i:Nat,m.at_=i/\L[i]? =some m.rule
 ten:m.kind≠0->0<=t/\t<4
 fil:m.kind=1\/m.kind=2->okF (m.fs,m.fl)
 ev:m.kind=3->a7Z m.es m.el
theorem P2.rule {L:List PRu} {t:Int} {i:Nat} {p:PRu} (h:L[i]? =some p):P2 L t (Mg.pol i p):=
 ⟨.inl rfl,fun _=>⟨i,rfl,h⟩,fun h=>absurd rfl h,fun h=>by have h':(0:Int)=1\/(0:Int)=2:=h;omega,fun h=>by have h':(0:Int)=3:=h;omega⟩
theorem P2.filt {L:List PRu} {t:Int} {m:Mg} (hk:m.kind=1\/m.kind=2) (ht:0<=t/\t<4) (hf:okF (m.fs,m.fl)):P2 L t m:=
 ⟨zo,fun h=>zo,fun _=>ht,fun _=>hf,fun h=>zo⟩
theorem P2.evnt {L:List PRu} {t:Int} {m:Mg} (hk:m.kind=3) (ht:0<=t/\t<4) (hf:a7Z m.es m.el):P2 L t m:=
 ⟨zo,fun h=>zo,fun _=>ht,fun h=>zo,fun _=>hf⟩
theorem P2.grow {L L':List PRu} {t:Int} {m:Mg} (h:P2 L t m) (hp:∀(i:Nat) p,L[i]? =some p->L'[i]? =some p):P2 L' t m:=
 ⟨h.kd,fun e=>by obtain ⟨i,h1,h2⟩:=h.pol e;exact ⟨i,h1,hp _ _ h2⟩,h.ten,h.fil,h.ev⟩
def a4o (L:List PRu) (S:List Sd):Prop:=∀x∈S,P2 L x.2.1 x.2.2
theorem a4o.nil (L:List PRu):a4o L []:=fun x hx=>(by cases hx)
theorem b0m (L:List PRu) {M:List (Int×Fil)} {t:Nat} (ht:t<4) {near:List Int} (hn:near.length<=6) {G:Int->List Fil} {k:Nat} (hM:∀p∈M,okF p.2) (yM:M.length<=k) (hG:∀n,∀q∈G n,okF q) (UU:∀n,(G n).length<=k):a4o L (y9 M t near G)/\(y9 M t near G).length<=12*k:=by
 refine ⟨fun x hx=> ?_, ?_⟩
 ·obtain ⟨-,h2,h3,h4⟩:=b2O hx hM hG;exact P2.filt h3 (by rw [h2];omega) h4
 have h1:=a4L (near:=near) UU yM (t:Int);have h2:=Nat.mul_le_mul_right (2*k) hn;omega
theorem a8i {L:List PRu} {near:List Int} (hn:near.length<=6) (frm:Int) {n:Nat} {p:PRu} (h:L[n]? =some p):a4o L (I3 near frm n p)/\(I3 near frm n p).length<=6:=
 ⟨fun x hx=>by
  obtain ⟨y, -,rfl⟩:=List.mem_map.1 hx
  exact P2.rule h,Nat.le_trans (Z6 _ _ _ _) hn⟩
def BI (B:BS) (k:Nat) (u:Nat->Nat):Prop:=∀t,t<4->RI (B.R t) k (u t)
section
variable {B:BS} {k k':Nat} {u u':Nat->Nat} {near:List Int} {t:Nat}
theorem BI.zero (L:List PRu) (k:Nat) (u:Nat->Nat):BI ⟨L,fun _=>RS.zero⟩ k u:=fun _ _=>RI.zero _ _
theorem BI.mono (h:BI B k u) (hk:k<=k') (hu:∀t,u t<=u' t):BI B k' u':=fun t ht=>(h t ht).mono hk (hu t)
theorem BI.setR (h:BI B k u) (hk:k<=k') {R:RS} (hR:RI R k' (u t)):BI (B.setR t R) k' u:=fun j hj=>by
 by_cases e:j=t
 ·subst e;rw [BS.setR_at];exact hR
 rw [BS.setR_ne B R e];exact (h j hj).mono hk (Nat.le_refl _)
theorem BI.takeB (h:BI B k u) (hn:near.length<=6) (ht:t<4) (frm:Int) {f:Fil} (hf:okF f) (on:Bool):BI (B.takeB near t frm f on) (k+2) u:=by
 unfold BS.takeB;split
 ·exact h.setR (k':=k+2) zo (((h t ht).hear frm hf on).refr hn)
 exact h.mono zo (fun _=>Nat.le_refl _)
theorem BI.takeS (L:List PRu) (h:BI B k u) (hn:near.length<=6) (ht:t<4) (frm:Int) {f:Fil} (hf:okF f) (on:Bool):a4o L (B.takeS near t frm f on)/\(B.takeS near t frm f on).length<=12*(k+1):=by
 unfold BS.takeS;split
 ·have h1:=(h t ht).hear frm hf on;have h2:=h t ht;exact b0m L ht hn h1.ok (Nat.le_trans h1.len h1.n) h2.go (fun n=>Nat.le_succ_of_le (h2.gl n))
 exact ⟨a4o.nil L,Nat.zero_le _⟩
end
structure WI (s:NS) (k j:Nat):Prop where
 nok:NOk s.N
 pos:0<s.N.length
 pol:F3 s
 bi:∀i,i<s.N.length->BI (s.B i) k s.subs
 mg:∀i j t,∀m∈(s.K i j t).q,P2 s.L t m
 bs:∀i j t,(s.K i j t).base<=k/\(s.K i j t).epoch<=k
 op:∀t who,s.ops t who<=k
 sr:∀t who,s.ser t who<=k
 sb:∀t,s.subs t<=j
 pl:s.pubs.length<=k
 tl:s.told.length<=k
theorem F3.same {s s':NS} (h:F3 s) (eN:s'.N=s.N) (eL:s'.L=s.L) (eB:∀i,(s'.B i).L=(s.B i).L):F3 s':=
 ⟨by rw [eL];exact h.len,by rw [eL];exact h.chk,by rw [eN,eL];intro i hi;rw [eB];exact h.pre i hi,by rw [eN,eL];exact h.hm⟩
theorem WI.mono {s:NS} {k k' j j':Nat} (h:WI s k j) (hk:k<=k') (hj:j<=j'):WI s k' j':=
 ⟨h.nok,h.pos,h.pol,fun i hi=>(h.bi i hi).mono hk (fun _=>Nat.le_refl _),h.mg,fun a b c=>⟨Nat.le_trans (h.bs a b c).1 hk,Nat.le_trans (h.bs a b c).2 hk⟩,fun a b=>Nat.le_trans (h.op a b) hk,fun a b=>Nat.le_trans (h.sr a b) hk,fun a=>Nat.le_trans (h.sb a) hj,Nat.le_trans h.pl hk,Nat.le_trans h.tl hk⟩
theorem LK.push_mg {L:List PRu} {a:LK} {t:Int} (h:∀m∈a.q,P2 L t m) {m:Mg} (hm:P2 L t m):∀x∈(a.push m).q,P2 L t x:=fun x hx=>by
 unfold LK.push at hx;split at hx
 ·exact h x hx
 rcases zz14 hx with hx|hx
 ·exact h x hx
 rw [List.mem_singleton.1 hx];exact hm
theorem LK.push_epoch (a:LK) (m:Mg):(a.push m).epoch=a.epoch:=by
 unfold LK.push;split<;>rfl
theorem b50 {L:List PRu} (sid:Int) (s:NS) (td ten:Int) (m:Mg) (hm:P2 L ten m) (h:∀i j t,∀m∈(s.K i j t).q,P2 L t m):(∀i j t,∀x∈((NS.send sid s td ten m).K i j t).q,P2 L t x)/\∀i j t,((NS.send sid s td ten m).K i j t).base=(s.K i j t).base/\((NS.send sid s td ten m).K i j t).epoch=(s.K i j t).epoch:=by
 unfold NS.send;split
 ·refine ⟨fun i j t x hx=> ?_,fun i j t=> ?_⟩
  ·have hx:x∈(D9 s.K sid td ten ((s.K sid td ten).push m) i j t).q:=hx;by_cases e:i=sid/\j=td/\t=ten
   ·obtain ⟨rfl,rfl,rfl⟩:=e;rw [R8] at hx;exact LK.push_mg (h i j t) hm x hx
   rw [R9 _ _ e] at hx;exact h i j t x hx
  show (D9 s.K sid td ten ((s.K sid td ten).push m) i j t).base=_/\(D9 s.K sid td ten ((s.K sid td ten).push m) i j t).epoch=_;by_cases e:i=sid/\j=td/\t=ten
  ·obtain ⟨rfl,rfl,rfl⟩:=e;rw [R8,LK.push_base,LK.push_epoch];exact ⟨rfl,rfl⟩
  rw [R9 _ _ e];exact ⟨rfl,rfl⟩
 exact ⟨h,fun _ _ _=>⟨rfl,rfl⟩⟩
theorem b4O {L:List PRu} (sid:Int) {S:List Sd} (hS:a4o L S):∀(s:NS),(∀i j t,∀m∈(s.K i j t).q,P2 L t m)->(∀i j t,∀x∈((NS.sends sid s S).K i j t).q,P2 L t x)/\∀i j t,((NS.sends sid s S).K i j t).base=(s.K i j t).base/\((NS.sends sid s S).K i j t).epoch=(s.K i j t).epoch:=by
 induction S with
 |nil=>exact fun s h=>⟨h,fun _ _ _=>⟨rfl,rfl⟩⟩
 |cons x S ih=>
  intro s h;obtain ⟨h1,h2⟩:=b50 sid s x.1 x.2.1 x.2.2 (hS x List.mem_cons_self) h;obtain ⟨h3,h4⟩:=ih (fun y hy=>hS y (List.mem_cons_of_mem _ hy)) _ h1;exact ⟨h3,fun i j t=>⟨(h4 i j t).1.trans (h2 i j t).1,(h4 i j t).2.trans (h2 i j t).2⟩⟩
theorem b4P (s:NS) (H:List Hn):(s.shows H).K=s.K:=by
 induction H generalizing s with
 |nil=>rfl
 |cons x H ih=>exact ih (NS.shw s x.1 x.2.1 x.2.2)
theorem WI.call {s:NS} {k j i:Nat} (h:WI s k j) (hi:i<s.N.length) {B:BS} (hB:BI B (k+2) s.subs) (H:List Hn) {S:List Sd} (hS:a4o s.L S) (hP:F3 (NS.sends i ((s.setB i B).shows H) S)):WI (NS.sends i ((s.setB i B).shows H) S) (k+2) j:=by
 have hA:=(Agr.shows (s.setB i B) H).trans (Agr.sends i ((s.setB i B).shows H) S);have PU:((s.setB i B).shows H).K=s.K:=b4P _ H;obtain ⟨h1,h2⟩:=b4O i hS ((s.setB i B).shows H) (by rw [PU];exact h.mg);rw [PU] at h2;have eN:(NS.sends i ((s.setB i B).shows H) S).N=s.N:=hA.N;have eL:(NS.sends i ((s.setB i B).shows H) S).L=s.L:=hA.L;have eS:(NS.sends i ((s.setB i B).shows H) S).subs=s.subs:=hA.subs;have eB:(NS.sends i ((s.setB i B).shows H) S).B=upd s.B i B:=hA.B;refine ⟨by rw [eN];exact h.nok,by rw [eN];exact h.pos,hP,fun a ha=> ?_,by rw [eL];exact h1,fun a b c=>by rw [(h2 a b c).1,(h2 a b c).2];have:=h.bs a b c;omega,fun a b=> ?_,fun a b=> ?_,fun a=>by rw [eS];exact h.sb a, ?_, ?_⟩
 ·rw [eN] at ha;rw [eB,eS];by_cases e:a=i
  ·subst e;rw [J0];exact hB
  rw [L9 _ _ e];exact (h.bi a ha).mono zo (fun _=>Nat.le_refl _)
 ·rw [show (NS.sends i ((s.setB i B).shows H) S).ops=s.ops from hA.ops];exact Nat.le_trans (h.op a b) zo
 ·rw [show (NS.sends i ((s.setB i B).shows H) S).ser=s.ser from hA.ser];exact Nat.le_trans (h.sr a b) zo
 ·rw [show (NS.sends i ((s.setB i B).shows H) S).pubs=s.pubs from hA.pubs];exact Nat.le_trans h.pl zo
 rw [show (NS.sends i ((s.setB i B).shows H) S).told=s.told from hA.told];exact Nat.le_trans h.tl zo
theorem F3.call {s:NS} {i:Nat} (h:F3 s) {B:BS} (hL:B.L=(s.B i).L) (H:List Hn) (S:List Sd):F3 (NS.sends i ((s.setB i B).shows H) S):=by
 have hA:=(Agr.shows (s.setB i B) H).trans (Agr.sends i ((s.setB i B).shows H) S);refine h.same hA.N hA.L (fun a=> ?_);rw [show (NS.sends i ((s.setB i B).shows H) S).B=upd s.B i B from hA.B];by_cases e:a=i
 ·subst e;rw [J0];exact hL
 rw [L9 _ _ e]
section
variable {s:NS} {k j i:Nat}
theorem WI.nl (h:WI s k j) (i:Nat):(s.near i).length<=6:=h.nok.nl i
theorem a5N (B:BS) (near:List Int) (t:Nat) (frm:Int) (f:Fil) (on:Bool):(B.takeB near t frm f on).L=B.L:=by
 unfold BS.takeB;split<;>rfl
theorem WI.learn (h:WI s k j) (hi:i<s.N.length) {n:Nat} {p:PRu} (hp:s.L[n]? =some p) (frm:Int):WI (s.learn i n p frm) (k+2) j:=
 h.call hi (B:=(s.B i).learn n p) ((h.bi i hi).mono zo (fun _=>Nat.le_refl _)) [] (by
  split
  ·exact (a8i (h.nl i) frm hp).1
  ·exact a4o.nil _) (h.pol.told hi hp frm)
theorem WI.hear (h:WI s k j) (hi:i<s.N.length) {t:Nat} (ht:t<4) (frm:Int) {f:Fil} (hf:okF f) (on:Bool):WI (NS.sends i (s.setB i ((s.B i).takeB (s.near i) t frm f on)) ((s.B i).takeS (s.near i) t frm f on)) (k+2) j:=
 h.call hi ((h.bi i hi).takeB (h.nl i) ht frm hf on) [] ((h.bi i hi).takeS s.L (h.nl i) ht frm hf on).1 (h.pol.call (a5N _ _ _ _ _ _) [] _)
theorem b0n {L:List PRu} {M:List (Int×Fil)} {near:List Int} {t:Nat} (ht:t<4) {frm:Int} {m:Mg} (hk:m.kind=3) (he:a7Z m.es m.el):a4o L (V9 M near t frm m):=fun x hx=>by
 obtain ⟨n, -,rfl⟩:=List.mem_map.1 hx;exact P2.evnt hk (by show 0<=(t:Int)/\(t:Int)<4;omega) he
theorem WI.route (h:WI s k j) (hi:i<s.N.length) {t:Nat} (ht:t<4) (frm:Int) {m:Mg} (hk:m.kind=3) (he:a7Z m.es m.el):WI (s.route i t frm m) (k+2) j:=by
 have h1:=h.call hi (B:=s.B i) ((h.bi i hi).mono zo (fun _=>Nat.le_refl _)) ((s.B i).rouH t m) (S:=V9 ((s.B i).R t).M (s.near i) t frm m) (b0n ht hk he) (h.pol.call rfl _ _);rw [NS.setB_self] at h1;exact h1
end
end
open Go.RowKit
theorem b0o {N:List (List Int)} {i n:Int} (h:n9 N i n=true):n∈m5 N i:=by
 unfold n9 at h;obtain ⟨x,hx,e⟩:=List.any_eq_true.1 h;have e:x=n:=by simpa using e
 rw [<-e];exact hx
theorem WI.add {s:NS} {k j:Nat} (h:WI s k j) {p:PRu} (hn:∀c∈p.cs,c.v.num<2^64) (hb:p.kind=0->p.broker<s.N.length) (hc:R2 s.L p=0):WI {s with L:=I9 s.L p} k j:=
 ⟨h.nok,h.pos,h.pol.add hn hb hc,h.bi,fun a b c m hm=>(h.mg a b c m hm).grow (fun i q hq=>by
  show (I9 s.L p)[i]? =some q;rw [a87 hc,List.getElem?_append_left (zz6 hq).1]
  exact hq),h.bs,h.op,h.sr,h.sb,h.pl,h.tl⟩
theorem WI.teachK:∀(n:Nat) {s:NS} {k j:Nat},WI s k j->WI (NS.teachK n s) (k+2*n) j
 |0,_,_,_,h=>h
 | n+1,s,k,j,h=>by
  unfold NS.teachK;split
  ·exact h.mono zo (Nat.le_refl _)
  rename_i p hp
  exact (WI.teachK n (h.learn h.pos hp (-1))).mono zo (Nat.le_refl _)
theorem WI.teach {s:NS} {k j:Nat} (h:WI s k j):WI s.teach (k+80) j:=by
 have:=h.pol.len;unfold NS.teach;split
 ·exact (WI.teachK _ h).mono zo (Nat.le_refl _)
 exact h.mono zo (Nat.le_refl _)
theorem NS.take_same (s:NS) (i:Nat) (frm ten:Int) (m:Mg):(s.take i frm ten m).2.L=s.L/\(s.take i frm ten m).2.N=s.N:=by
 unfold NS.take;split
 ·exact ⟨(s.learn_L i m.at_ m.rule frm).1,(s.learn_L i m.at_ m.rule frm).2.1⟩
 split
 ·exact ⟨(Agr.sends i _ _).L,(Agr.sends i _ _).N⟩
 split
 ·exact ⟨(Agr.sends i _ _).L,(Agr.sends i _ _).N⟩
 split
 ·exact ⟨((Agr.shows s _).trans (Agr.sends i _ _)).L,((Agr.shows s _).trans (Agr.sends i _ _)).N⟩
 exact ⟨rfl,rfl⟩
theorem WI.take {s:NS} {k j:Nat} (h:WI s k j) {i:Nat} (hi:i<s.N.length) (frm:Int) {ten t:Int} (hte:0<=t->ten=t) {m:Mg} (hm:P2 s.L t m):WI (s.take i frm ten m).2 (k+2) j:=by
 have hn:okF (m.fs,m.fl)->okF (m.fs,j7 m.fl):=fun hf=>by
  have e:j7 m.fl=m.fl:=a3O hf.1;rw [e];exact hf
 unfold NS.take;split
 ·rename_i hk
  obtain ⟨n,h1,h2⟩:=hm.pol hk;rw [h1];exact h.learn hi h2 frm
 rename_i hk
 obtain ⟨h1,h2⟩:=hm.ten hk;have e:=hte h1;have eU:ten.toNat<4:=zo
 split
 ·rename_i hk1
  exact h.hear hi eU frm (hn (hm.fil (.inl hk1))) true
 split
 ·rename_i hk2
  exact h.hear hi eU frm (hn (hm.fil (.inr hk2))) false
 have hk3:m.kind=3:=by have:=hm.kd;omega
 split
 ·exact h.route hi eU frm hk3 (hm.ev hk3)
 exact h.mono zo (Nat.le_refl _)
theorem LK.next_q (a:LK):(∀m∈a.next.q,m∈a.q)/\a.next.base<=a.base+1/\a.next.epoch=a.epoch:=by
 unfold LK.next;split
 ·exact ⟨fun _ h=>h,Nat.le_succ _,rfl⟩
 ·exact ⟨fun _ h=>h,Nat.le_succ _,rfl⟩
 ·exact ⟨fun _ h=>h,Nat.le_succ _,rfl⟩
 exact ⟨fun m h=>List.mem_of_mem_tail h,Nat.le_refl _,rfl⟩
theorem LK.asks_in {a:LK} {m:Mg} (h:a.asks=some m):m∈a.q:=by
 unfold LK.asks at h;split at h
 ·rename_i e
  cases h
  rw [e];exact List.mem_cons_self
 ·cases h
theorem WI.setK {s:NS} {k j:Nat} (h:WI s k j) (a b c:Int) {x:LK} (hq:∀m∈x.q,P2 s.L c m) (hb:x.base<=k/\x.epoch<=k):WI {s with K:=D9 s.K a b c x} k j:=by
 refine ⟨h.nok,h.pos,h.pol.same rfl rfl (fun _=>rfl),h.bi,fun i i2 t m hm=> ?_,fun i i2 t=> ?_,h.op,h.sr,h.sb,h.pl,h.tl⟩
 ·have hm:m∈(D9 s.K a b c x i i2 t).q:=hm;by_cases e:i=a/\i2=b/\t=c
  ·obtain ⟨rfl,rfl,rfl⟩:=e;rw [R8] at hm;exact hq m hm
  rw [R9 _ _ e] at hm;exact h.mg i i2 t m hm
 show (D9 s.K a b c x i i2 t).base<=k/\(D9 s.K a b c x i i2 t).epoch<=k;by_cases e:i=a/\i2=b/\t=c
 ·obtain ⟨rfl,rfl,rfl⟩:=e;rw [R8];exact hb
 rw [R9 _ _ e];exact h.bs i i2 t
theorem WI.step {s:NS} {k j:Nat} (h:WI s k j) {frm to_ ten t:Int} (hi:to_.toNat<s.N.length) (hte:0<=t->ten=t):WI (s.step frm to_ ten t).2 (k+2) j:=by
 have hb:=h.bs frm to_ t;obtain ⟨hq,hq2⟩:=LK.next_q (s.K frm to_ t);unfold NS.step;split
 ·exact (h.mono (k':=k+2) zo (Nat.le_refl _)).setK frm to_ t (fun m hm=>h.mg frm to_ t m (hq m hm)) zo
 rename_i m hm
 have h1:=h.take hi frm hte (h.mg frm to_ t m (LK.asks_in hm));split
 ·exact h1.setK frm to_ t (fun x hx=>by rw [(s.take_same _ _ _ _).1];exact h.mg frm to_ t x (hq x hx)) zo
 exact h.mono zo (Nat.le_refl _)
theorem WI.pick {s:NS} {k j:Nat} (h:WI s k j) (o:PO):WI (s.pick o).2 (k+2) j:=by
 have hm2:=h.mono (k':=k+2) zo (Nat.le_refl j);unfold NS.pick;split
 ·exact hm2
 rename_i hl
 have hl1:n9 s.N o.frm o.to_=true:=by
  cases hq:n9 s.N o.frm o.to_ with
  |true=>rfl
  |false=>exact absurd (.inl hq) hl
 have hr:=(h.nok.rng _ _ hl1).2;split
 ·exact hm2
 split
 ·split
  ·exact hm2
  exact hm2.setK _ _ _ (h.mg _ _ _) (by have:=h.bs o.frm o.to_ (max o.ten (-1));exact ⟨Nat.le_trans this.1 zo,Nat.le_trans this.2 zo⟩)
 exact h.step zo (fun h0=>zo)
theorem WI.new {N:List (List Int)} (hN:NOk N) (hp:0<N.length):WI (NS.new N) 0 0:=
 ⟨hN,hp,⟨Nat.zero_le _,fun i p hp=>(by cases hp),fun i _=>⟨0,Nat.le_refl _,rfl⟩,fun i p hp=>(by cases hp)⟩,fun _ _=>BI.zero _ _ _,fun _ _ _ m hm=>(by cases hm),fun _ _ _=>⟨Nat.le_refl _,Nat.le_refl _⟩,fun _ _=>Nat.le_refl _,fun _ _=>Nat.le_refl _,fun _=>Nat.le_refl _,Nat.le_refl _,Nat.le_refl _⟩
end Go.Proofs.YtdmjoodhaeijmaaGreatDoor
