/- Lemmas. -/
import Derived.Test.YtdmjoodhaeijmaaGreatDoorZn36
import Derived.Test.YtdmjoodhaeijmaaGreatDoorZn37
import Derived.Test.YtdmjoodhaeijmaaGreatDoorZn39
import Derived.Test.YtdmjoodhaeijmaaGreatDoorZn34
import Derived.DeepKeys4
import Derived.WideKeyEntry
set_option maxHeartbeats 40000000
set_option maxRecDepth 20000
namespace Go.Proofs.YtdmjoodhaeijmaaGreatDoor
section
open Go.RowKit
structure LK where
 epoch:Nat
 q:List Mg
 ph:Ph
 got:Bool
 base:Nat
 lost:Nat
def LK.zero:LK:=⟨0,[],.wait,false,0,0⟩
def evC (q:List Mg):Nat:=(q.filter fun m=>m.kind==3).length
def LK.push (a:LK) (m:Mg):LK:=if m.kind=3/\6<=evC a.q then {a with lost:=a.lost+1} else {a with q:=a.q++[m]}
def LK.asks (a:LK):Option Mg:=match a.ph,a.got,a.q with| .sent,false,m::_=>some m|_,_,_=>none
def LK.next (a:LK):LK:=match a.ph,a.q with
 | .wait,[]=>a
 | .wait,_::_=>{a with ph:= .sent}
 | .sent,_=>{a with ph:= .back,got:=true}
 | .back,q=>{a with q:=q.tail,ph:= .wait,got:=false,base:=a.base+1}
def LK.lose (a:LK):LK:={a with ph:= .wait}
def LK.reset (a:LK):LK:=⟨a.epoch+1,[],.wait,false,0,a.lost⟩
def LK.Good (a:LK):Prop:=(a.q=[]->a.ph= .wait/\a.got=false)/\(a.ph= .back->a.got=true)
structure Pb where
 ten:Int
 ser:Int
 ver:Int
 who:ByteArray
 es:ByteArray
 el:List Att
structure Sn where
 ten:Int
 id:Int
 bro:Int
 who:ByteArray
 fs:ByteArray
 fl:List Cnd
 gone:Bool
structure NS where
 N:List (List Int)
 L:List PRu
 B:Nat->BS
 up:Nat->Bool
 K:Int->Int->Int->LK
 T:Int->ByteArray->List Tg
 ops:Int->ByteArray->Nat
 ser:Int->ByteArray->Nat
 subs:Nat->Nat
 pubs:List Pb
 told:List Sn
def D9 (f:Int->Int->Int->LK) (a b c:Int) (x:LK):Int->Int->Int->LK:=fun i j k=>if i=a/\j=b/\k=c then x else f i j k
theorem R8 (f:Int->Int->Int->LK) (a b c:Int) (x:LK):D9 f a b c x a b c=x:=if_pos ⟨rfl,rfl,rfl⟩
theorem R9 (f:Int->Int->Int->LK) {a b c i j k:Int} (x:LK) (h:¬(i=a/\j=b/\k=c)):D9 f a b c x i j k=f i j k:=if_neg h
def a5K {α:Type} (f:Int->ByteArray->α) (t:Int) (w:ByteArray) (x:α):Int->ByteArray->α:=fun i j=>if i=t/\j.data.toList=w.data.toList then x else f i j
theorem a84 {α:Type} (f:Int->ByteArray->α) (t:Int) (w:ByteArray) (x:α):a5K f t w x t w=x:=if_pos ⟨rfl,rfl⟩
theorem a85 {α:Type} (f:Int->ByteArray->α) {t i:Int} {w j:ByteArray} (x:α) (h:¬(i=t/\j=w)):a5K f t w x i j=f i j:=if_neg (fun e=>h ⟨e.1,by
 have h1:=e.2;obtain ⟨⟨a⟩⟩:=j;obtain ⟨⟨b⟩⟩:=w;have h2:a=b:=h1
 rw [h2]⟩)
def NS.near (s:NS) (i:Nat):List Int:=m5 s.N i
def NS.setB (s:NS) (i:Nat) (B:BS):NS:={s with B:=upd s.B i B}
def NS.send (sid:Int) (s:NS) (td ten:Int) (m:Mg):NS:=if s.up td.toNat then {s with K:=D9 s.K sid td ten ((s.K sid td ten).push m)} else s
def NS.sends (sid:Int) (s:NS) (l:List Sd):NS:=l.foldl (fun s x=>NS.send sid s x.1 x.2.1 x.2.2) s
def NS.shw (s:NS) (ten:Int) (who:ByteArray) (t:Tg):NS:={s with T:=a5K s.T ten who (s.T ten who++[t])}
def NS.shows (s:NS) (l:List Hn):NS:=l.foldl (fun s x=>NS.shw s x.1 x.2.1 x.2.2) s
def NS.learn (s:NS) (i:Nat) (at_:Int) (p:PRu) (frm:Int):NS:=
 NS.sends i (s.setB i ((s.B i).learn at_ p)) (if A3 (s.B i).L at_ p then I3 (s.near i) frm at_ p else [])
def NS.teachK:Nat->NS->NS
 |0,s=>s
 |k+1,s=>match s.L[(s.B 0).L.length]? with
  |none=>s
  |some p=>NS.teachK k (s.learn 0 (s.B 0).L.length p (-1))
def NS.teach (s:NS):NS:=if s.up 0 then NS.teachK (s.L.length - (s.B 0).L.length) s else s
def NS.rule (s:NS) (p:PRu):Int×NS:=
 if p.kind=0/\(s.N.length:Int)<=p.broker then (3,s) else if R2 s.L p=0 then (0,NS.teach {s with L:=I9 s.L p}) else (R2 s.L p,s)
def NS.route (s:NS) (i t:Nat) (frm:Int) (m:Mg):NS:=NS.sends i (s.shows ((s.B i).rouH t m)) (V9 ((s.B i).R t).M (s.near i) t frm m)
def Tg.rep (op:Nat) (err:Int):Tg:=⟨0,op,err,0,0,0,⟨#[]⟩,⟨#[]⟩,[]⟩
def b6A (l:List Sn) (f:Sn->Bool):List Sn:=l.map fun x=>{x with gone:=x.gone||f x}
def NS.work (s:NS) (o:PO) (i:Nat) (n:Nat):Tg×NS:=
 if o.kind=1 then
  (if (s.B i).pubE i o.ten o.who o.esc o.es=0 then
    ({ Tg.rep n 0 with ser:=s.ser o.ten o.who,ver:=(s.B i).L.length},
      {s.route i o.ten.toNat (-1) (Mg.said (s.B i).L.length (s.ser o.ten o.who) o.who o.esc o.es) with
       pubs:=s.pubs++[⟨o.ten,s.ser o.ten o.who,(s.B i).L.length,o.who,o.esc,o.es⟩]
       ser:=a5K s.ser o.ten o.who (s.ser o.ten o.who+1)})
  else (Tg.rep n ((s.B i).pubE i o.ten o.who o.esc o.es),s))
 else if o.kind=2 then
  (if (s.B i).subE i o.ten.toNat o.who o.fsc o.fs=0 then
    ({ Tg.rep n 0 with sub:=s.subs o.ten.toNat,ver:=(s.B i).L.length},
      {NS.sends i (s.setB i ((s.B i).subB i (s.near i) o.ten.toNat o.who (s.subs o.ten.toNat) o.fsc o.fs)) ((s.B i).subS i (s.near i) o.ten.toNat o.who (s.subs o.ten.toNat) o.fsc o.fs) with
       told:=s.told++[⟨o.ten,s.subs o.ten.toNat,i,o.who,o.fsc,o.fs,false⟩]
       subs:=upd s.subs o.ten.toNat (s.subs o.ten.toNat+1)})
  else (Tg.rep n ((s.B i).subE i o.ten.toNat o.who o.fsc o.fs),s))
 else match a0A ((s.B i).R o.ten.toNat).S o.sub with
  |none=>(Tg.rep n 3,s)
  | some q=>if q.1=o.who then
   ({ Tg.rep n 0 with sub:=o.sub},
     {NS.sends i (s.setB i ((s.B i).endB (s.near i) o.ten.toNat o.sub q.2)) ((s.B i).endS (s.near i) o.ten.toNat o.sub q.2) with
      told:=b6A s.told fun x=>x.ten==o.ten&&x.id==o.sub})
   else (Tg.rep n 3,s)
def NS.client (s:NS) (o:PO):Int×NS:=
 match a1A (atP s.L s.L.length) o.ten o.who with
 |none=>(3,s)
 |some h=>
  have n:=s.ops o.ten o.who+1;have s1:NS:={s with ops:=a5K s.ops o.ten o.who n,T:=a5K s.T o.ten o.who (s.T o.ten o.who++[Tg.rep n 0])};have r:=if s.up h.toNat then s1.work o h.toNat n else (Tg.rep n 7,s1)
  (r.1.err,{r.2 with T:=a5K r.2.T o.ten o.who ((r.2.T o.ten o.who).set (s.T o.ten o.who).length r.1)})
def NS.take (s:NS) (i:Nat) (frm ten:Int) (m:Mg):Bool×NS:=
 if m.kind=0 then (true,s.learn i m.at_ m.rule frm)
 else if m.kind=1 then (true,NS.sends i (s.setB i ((s.B i).takeB (s.near i) ten.toNat frm (m.fs,j7 m.fl) true)) ((s.B i).takeS (s.near i) ten.toNat frm (m.fs,j7 m.fl) true))
 else if m.kind=2 then (true,NS.sends i (s.setB i ((s.B i).takeB (s.near i) ten.toNat frm (m.fs,j7 m.fl) false)) ((s.B i).takeS (s.near i) ten.toNat frm (m.fs,j7 m.fl) false))
 else if m.ver<=(s.B i).L.length then (true,s.route i ten.toNat frm m) else (false,s)
def NS.step (s:NS) (frm to_ ten t:Int):Bool×NS:=
 match (s.K frm to_ t).asks with
 |none=>(!(s.K frm to_ t).q.isEmpty,{s with K:=D9 s.K frm to_ t (s.K frm to_ t).next})
 |some m=>if (s.take to_.toNat frm ten m).1 then (true,{(s.take to_.toNat frm ten m).2 with K:=D9 (s.take to_.toNat frm ten m).2.K frm to_ t (s.K frm to_ t).next}) else (false,s)
def NS.pick (s:NS) (o:PO):Int×NS:=
 if n9 s.N o.frm o.to_=false\/4<=o.ten then (3,s)
 else if s.up o.frm.toNat=false\/s.up o.to_.toNat=false then (7,s)
 else if o.kind=5 then
  (if (s.K o.frm o.to_ (max o.ten (-1))).ph= .wait then (8,s) else (0,{s with K:=D9 s.K o.frm o.to_ (max o.ten (-1)) (s.K o.frm o.to_ (max o.ten (-1))).lose}))
 else ((if (s.step o.frm o.to_ o.ten (max o.ten (-1))).1 then 0 else 8),(s.step o.frm o.to_ o.ten (max o.ten (-1))).2)
def NS.reset (s:NS) (b:Int):NS:={s with K:=fun i j k=>if i=b\/j=b then (s.K i j k).reset else s.K i j k}
def NS.forget (s:NS) (i:Nat) (b:Int):NS:=NS.sends i (s.setB i ((s.B i).upto (RS.loseR b true (s.near i)) 4)) (upS (s.B i).R (b5m b true (s.near i)) 4)
def NS.announce (s:NS) (i:Nat) (b:Int):NS:=NS.sends i (s.setB i ((s.B i).upto (RS.loseR b false (s.near i)) 4)) (b6T b (s.B i).L++upS (s.B i).R (b5m b false (s.near i)) 4)
def NS.forgets (b:Int):List Int->NS->NS
 |[],s=>s
 |i::l,s=>NS.forgets b l (if s.up i.toNat then s.forget i.toNat b else s)
def NS.announces (b:Nat):List Int->NS->NS
 |[],s=>s
 |i::l,s=>NS.announces b l (if s.up i.toNat then (s.announce b i).announce i.toNat b else s)
def NS.crash (s:NS) (b:Int):Int×NS:=
 if b<0\/(s.N.length:Int)<=b\/s.up b.toNat=false then (3,s)
 else (0,NS.forgets b (s.near b.toNat) {(NS.reset {s with up:=upd s.up b.toNat false,B:=upd s.B b.toNat ⟨(s.B b.toNat).L,fun _=>RS.zero⟩} b) with told:=b6A s.told fun x=>x.bro==b})
def NS.start (s:NS) (b:Int):Int×NS:=
 if b<0\/(s.N.length:Int)<=b\/s.up b.toNat=true then (3,s)
 else (0,(fun s:NS=>if b=0 then s.teach else s) (NS.announces b.toNat (s.near b.toNat) (NS.reset {s with up:=upd s.up b.toNat true} b)))
def NS.do_ (s:NS) (o:PO):Int×NS:=
 if o.kind=0 then s.rule o.r
 else if o.kind=1\/o.kind=2\/o.kind=3 then s.client o
 else if o.kind=4\/o.kind=5 then s.pick o
 else if o.kind=6 then s.crash o.frm
 else if o.kind=7 then s.start o.frm
 else (3,s)
def NS.new (N:List (List Int)):NS:=⟨N,[],fun _=>⟨[],fun _=>RS.zero⟩,fun i=>decide (i<N.length),fun _ _ _=>LK.zero,fun _ _=>[],fun _ _=>0,fun _ _=>0,fun _=>0,[],[]⟩
def X8:List UInt8->Nat
 |[]=>0
 |b::l=>b.toNat+1+257*X8 l
theorem a2c:∀{a b:List UInt8},X8 a=X8 b->a=b
 |[],[],_=>rfl
 |[],b::l,h=>by simp only [X8] at h;omega
 |a::l,[],h=>by simp only [X8] at h;omega
 |a::l,b::m,h=>by
  simp only [X8] at h;have ha:a.toNat<256:=a.toNat_lt;have hb:b.toNat<256:=b.toNat_lt;have h1:a.toNat=b.toNat:=zo
  have h2:X8 l=X8 m:=zo
  rw [UInt8.toNat.inj h1,a2c h2]
def b6B:Lit->Nat
 | .string l=>X8 l
 |_=>0
def wfI (i:Int):Prop:=(Lit.int .i64 i).wf=true
def a8d (i j t:Int):Value:= .agg #[.int .i64 i,.int .i64 j,.int .i64 t]
def b0h (t:Int) (who:ByteArray):Value:= .agg #[.int .i64 t,.string who]
def a1m (i j t:Int):Lit:= .string (keyBytes [.int .i64 i,.int .i64 j,.int .i64 t])
def a0m (t:Int) (who:ByteArray):Lit:= .string (keyBytes [.int .i64 t,.string who.data.toList])
theorem b5p:laidOutB Tryz.prog=true:=zk
theorem b4H:(101:TypeId)<Tryz.prog.types.size:=of_decide_eq_true zk
theorem b4I:(122:TypeId)<Tryz.prog.types.size:=of_decide_eq_true zk
theorem X9:Maps.Keyed Tryz.prog 101:=Maps.Keyed.of_law (deep_law_laid b5p (m:=2) zo b4H zk zk)
theorem a86:WideMaps.KeyLaw Tryz.prog 122:=deep_law_laid b5p (m:=2) zo b4I zk zk
theorem a4S:Maps.Keyed Tryz.prog 122:=Maps.Keyed.of_law a86
def cl (i j t:Int):Nat:=400+2*b6B (a1m i j t)
def ct (t:Int) (who:ByteArray):Nat:=401+2*b6B (a0m t who)
theorem b2H (i j t t':Int) (who:ByteArray):cl i j t≠ct t' who:=by unfold cl ct;omega
theorem O9 (i j t:Int):400<=cl i j t:=Nat.le_add_right _ _
theorem a4T (t:Int) (who:ByteArray):400<=ct t who:=by unfold ct;omega
structure GrS {α:Type} (w:World) (ow:Ow) (c:Nat) (e:TypeId) (sz:Nat) (cells:α->List Value) (ok:World->Ow->α->Prop) (v:Value) (X:List α):Prop where
 sl:g7 w e sz v X.length (X.flatMap cells)
 vb:∀b,v.ownBlock=some b->ow b=c
 ok:∀x∈X,ok w ow x
section
variable {α:Type} {w0 w w' wz w6:World} {ow ow':Ow} {c:Nat} {e:TypeId} {sz:Nat} {cells:α->List Value} {ok:World->Ow->α->Prop} {v v':Value} {X:List α}
theorem GrS.nil (w:World) (ow:Ow) (c:Nat) (e:TypeId) (sz:Nat) (cells:α->List Value) (ok:World->Ow->α->Prop):GrS w ow c e sz cells ok (.slice none 0 0) []:=⟨g7.nil _ _ _,fun b hb=>(by cases hb),fun x hx=>(by cases hx)⟩
theorem GrS.mov {F:Nat->Prop} (h:GrS w ow c e sz cells ok v X) (s:Mov F w ow w' ow') (hc:¬F c) (hok:∀x,ok w ow x->ok w' ow' x):GrS w' ow' c e sz cells ok v X:=
 ⟨h.sl.mod s.md (fun b hb hf=>by have hf':F (ow b):=hf;rw [h.vb b hb] at hf';exact hc hf'),fun b hb=>by rw [s.old b (h.sl.lt b hb)];exact h.vb b hb,fun x hx=>hok x (h.ok x hx)⟩
theorem GrS.app {x:α} (h:GrS w ow c e sz cells ok v X) (hz:Mod (fun _=>False) w wz) (hA:B9 wz e sz v (X.length+1) (X.flatMap cells++cells x) v' w6) (hok:∀(ow':Ow) y,Mov (fun t=>t=c) w ow w6 ow'->(y∈X\/y=x)->ok w6 ow' y):
 ∃ow',GrS w6 ow' c e sz cells ok v' (X++[x])/\Mov (fun t=>t=c) w ow w6 ow'/\∀b,v'.ownBlock=some b->v.ownBlock=some b\/w.heap.size<=b:=by
 obtain ⟨hA1,hA2,hA3⟩:=hA;have hzs:=hz.size;have hsz:=hA2.size;have nZ:Mod (inBlock v) w w6:=(hz.mono (fun _ _ h=>h.elim)).trans hA2 (fun b hb h=>h);have dh:Mod (fun k=>ow k=c) w w6:=nZ.mono (fun k _ hk=>h.vb k hk);have hmv:Mov (fun t=>t=c) w ow w6 (A6 w w6 ow (inBlock v') (fun _=>True) c):=Mov.tag rfl dh
 have lZ:∀b,v'.ownBlock=some b->(v.ownBlock=some b/\b<w.heap.size)\/(wz.heap.size<=b/\b<w6.heap.size):=fun b hb=>by
  rcases hA3 with e|⟨k,e,hk⟩
  ·rw [e] at hb;exact .inl ⟨hb,h.sl.lt b hb⟩
  have:=hA1.lt b hb;rw [hb] at e;cases e
  exact .inr ⟨hk,zo⟩
 refine ⟨_,⟨?_,fun b hb=> ?_,fun y hy=>hok _ y hmv ?_⟩,hmv,fun b hb=>(lZ b hb).imp And.left (fun h=>zo)⟩
 ·rw [zz4,List.flatMap_append];have e:List.flatMap cells [x]=cells x:=by simp
  rw [e];exact hA1
 ·rcases lZ b hb with h1|h1
  ·rw [D7 h1.2];exact h.vb b h1.1
  exact O1 zo h1.2 hb
 rcases zz14 hy with hy|hy
 ·exact .inl hy
 exact .inr (List.mem_singleton.1 hy)
end
def Mv.lm (x:Mv):F8:=⟨x.m.kind,x.m.at_,x.cells.drop 2⟩
def Y0 (a:LK) (X:List Mv):LS:=⟨a.epoch,X.map Mv.lm,a.ph,a.got,a.base,a.lost⟩
def C9 (w:World) (ow:Ow) (c b:Nat) (a:LK):Prop:=
 ∃(X:List Mv) (F:Nat->Prop),m6 w b F (Y0 a X).toL/\X.map Mv.m=a.q/\(∀x∈X,R4 w ow x)/\∀k,F k->ow k=c
theorem m6.in_ {w:World} {b:Nat} {F:Nat->Prop} {L:C2} (h:m6 w b F L) {k:Nat} (hk:F k):k<w.heap.size:=by
 obtain ⟨cur,e,h1, -⟩:=h.elem k hk;exact (zz7 h1).1
theorem C9.mov {F:Nat->Prop} {w w':World} {ow ow':Ow} {c b:Nat} {a:LK} (h:C9 w ow c b a) (s:Mov F w ow w' ow') (h0:¬F 0) (hc:¬F c):C9 w' ow' c b a:=by
 obtain ⟨X,G,h1,h2,h3,h4⟩:=h;have hlt:=fun k hk=>h1.in_ (k:=k) hk;refine ⟨X,G,h1.mod s.md (fun k hk hf=> ?_),h2,fun x hx=>(h3 x hx).mov s h0,fun k hk=>by rw [s.old k (hlt k hk)];exact h4 k hk⟩;have hf':F (ow k):=hf;rw [h4 k hk] at hf';exact hc hf'
theorem C9.to {w w':World} {ow:Ow} {c b:Nat} {a':LK} {X:List Mv} {F:Nat->Prop} (h4:∀k,F k->ow k=c) (h:p9 w w' b F (Y0 a' X).toL) (hq:X.map Mv.m=a'.q) (h0:c≠0) (hX:∀x∈X,R4 w ow x):
 ∃ow',C9 w' ow' c b a'/\Mov (fun t=>t=c) w ow w' ow':=by
 obtain ⟨F',h1,hm,h2⟩:=h;have hmv:Mov (fun t=>t=c) w ow w' (A6 w w' ow F' (fun _=>False) c):=Mov.tag rfl (hm.mono (fun k _ hk=>h4 k hk));have hlt:=fun k hk=>h1.in_ (k:=k) hk;refine ⟨_,⟨X,F',h1,hq,fun x hx=>(hX x hx).mov hmv (fun e=>h0 e.symm),fun k hk=> ?_⟩,hmv⟩;by_cases hl:k<w.heap.size
 ·rw [D7 hl];rcases h2 k hk with h|h
  ·exact h4 k h
  omega
 exact O1 zo (hlt k hk) hk
def M4 (N:List (List Int)) (i j t:Int):Bool:=n9 N i j&&decide (-1<=t)&&decide (t<4)
structure b2I (w:World) (ow:Ow) (mb:Nat) (lb:Int->Int->Int->Nat) (N:List (List Int)) (K:Int->Int->Int->LK):Prop where
 tag:ow mb=6
 mp:∃k f,l8 w 101 mb k f/\k<=1000/\∀i j t,wfI i->wfI j->wfI t->f (a1m i j t)=if M4 N i j t then some (ptr (lb i j t)) else none
 lk:∀i j t,M4 N i j t=true->C9 w ow (cl i j t) (lb i j t) (K i j t)
theorem b2I.mov {F:Nat->Prop} {w w':World} {ow ow':Ow} {mb:Nat} {lb:Int->Int->Int->Nat} {N:List (List Int)} {K:Int->Int->Int->LK} (h:b2I w ow mb lb N K) (s:Mov F w ow w' ow') (h0:¬F 0) (h6:¬F 6) (hF:∀i j t,¬F (cl i j t)):b2I w' ow' mb lb N K:=by
 obtain ⟨k,f,h1,h2,h3⟩:=h.mp;obtain ⟨h4,h5⟩:=l7 h1 h.tag s h6;exact ⟨h5,⟨k,f,h4,h2,h3⟩,fun i j t ht=>(h.lk i j t ht).mov s h0 (hF i j t)⟩
def TrV (w:World) (ow:Ow) (t:Int) (who:ByteArray):Option Value->List Tg->Prop
 |none,l=>l=[]
 |some v,l=>∃X:List Tv,X.map Tv.t=l/\GrS w ow (ct t who) 79 9 Tv.cells a3C v X
theorem TrV.mov {F:Nat->Prop} {w w':World} {ow ow':Ow} {t:Int} {who:ByteArray} {v:Option Value} {l:List Tg} (h:TrV w ow t who v l) (s:Mov F w ow w' ow') (h0:¬F 0) (hc:¬F (ct t who)):TrV w' ow' t who v l:=by
 cases v with
 |none=>exact h
 |some v=>
  obtain ⟨X,h1,h2⟩:=h;exact ⟨X,h1,h2.mov s hc (fun x hx=>hx.mov s h0)⟩
structure b4J (w:World) (ow:Ow) (mb:Nat) (T:Int->ByteArray->List Tg) (n:Nat):Prop where
 tag:ow mb=7
 mp:∃k f,l8 w 122 mb k f/\k<=n/\∀t who,wfI t->who.size<=1000000->TrV w ow t who (f (a0m t who)) (T t who)
theorem b4J.mov {F:Nat->Prop} {w w':World} {ow ow':Ow} {mb:Nat} {T:Int->ByteArray->List Tg} {n:Nat} (h:b4J w ow mb T n) (s:Mov F w ow w' ow') (h0:¬F 0) (h7:¬F 7) (hF:∀t who,¬F (ct t who)):b4J w' ow' mb T n:=by
 obtain ⟨k,f,h1,h2,h3⟩:=h.mp;obtain ⟨h4,h5⟩:=l7 h1 h.tag s h7;exact ⟨h5,⟨k,f,h4,h2,fun t who ht hz=>(h3 t who ht hz).mov s h0 (hF t who)⟩⟩
structure a8e (w:World) (ow:Ow) (c mb:Nat) (T:Int->ByteArray->Nat) (n:Nat):Prop where
 tag:ow mb=c
 mp:∃k f,l8 w 122 mb k f/\k<=n/\∀t who,wfI t->who.size<=1000000->(f (a0m t who)).getD (.int .i64 0)= .int .i64 (T t who)
theorem a8e.mov {F:Nat->Prop} {w w':World} {ow ow':Ow} {c mb:Nat} {T:Int->ByteArray->Nat} {n:Nat} (h:a8e w ow c mb T n) (s:Mov F w ow w' ow') (hc:¬F c):a8e w' ow' c mb T n:=by
 obtain ⟨k,f,h1,h2,h3⟩:=h.mp;obtain ⟨h4,h5⟩:=l7 h1 h.tag s hc;exact ⟨h5,⟨k,f,h4,h2,h3⟩⟩
structure Pv where
 p:Pb
 a:Option Addr
 c:Nat
def Pv.cells (x:Pv):List Value:=[.int .i64 x.p.ten,.int .i64 x.p.ser,.int .i64 x.p.ver,.string x.p.who,.string x.p.es,.slice x.a x.p.el.length x.c]
def b4K (w:World) (ow:Ow) (x:Pv):Prop:=q6 w ow 6 (.slice x.a x.p.el.length x.c) x.p.el.length (I4 x.p.el)
structure Nv where
 s:Sn
 a:Option Addr
 c:Nat
def Nv.cells (x:Nv):List Value:=[.int .i64 x.s.ten,.int .i64 x.s.id,.int .i64 x.s.bro,.string x.s.who,.string x.s.fs,.slice x.a x.s.fl.length x.c,.bool x.s.gone]
def b4L (w:World) (ow:Ow) (x:Nv):Prop:=q6 w ow 7 (.slice x.a x.s.fl.length x.c) x.s.fl.length (q8 x.s.fl)
structure NAd where
 v:Value
 tp:Nat
 bv:Value
 uv:Value
 lm:Nat
 tm:Nat
 om:Nat
 sm:Nat
 pv:Value
 nv:Value
 bg:Nat->Nat
 lb:Int->Int->Int->Nat
def NAd.rest (a:NAd) (u:Nat->Nat):List Value:=[ptr a.tp,a.bv,a.uv,.map (some a.lm),.map (some a.tm),.map (some a.om),.map (some a.sm),.int .i64 (u 0),.int .i64 (u 1),.int .i64 (u 2),.int .i64 (u 3),a.pv,a.nv]
structure A1 (w:World) (ow:Ow) (q:Nat) (a:NAd) (s:NS) (n:Nat):Prop where
 row:w.heap[q]? =some (.cells (a.v::a.rest s.subs).toArray 54 (0,0))
 tag:ow q=2
 up:g7 w 4 1 a.uv s.N.length ((List.range s.N.length).map fun i=> .bool (s.up i))
 ub:∀b,a.uv.ownBlock=some b->ow b=5
 lnk:b2I w ow a.lm a.lb s.N s.K
 trc:b4J w ow a.tm s.T n
def sdT (t:Nat):Prop:=t=2\/t=5\/t=6\/t=7\/400<=t
theorem A1.mov {F:Nat->Prop} {w w':World} {ow ow':Ow} {q n:Nat} {a:NAd} {s:NS} (h:A1 w ow q a s n) (m:Mov F w ow w' ow') (h0:¬F 0) (hF:∀t,F t->¬sdT t):A1 w' ow' q a s n:=by
 have hn:∀t,sdT t->¬F t:=fun t ht hf=>hF t hf ht;have hq:=(zz7 h.row).1;refine ⟨m.md.heap h.row (fun hf=> ?_),by rw [m.old q hq];exact h.tag,h.up.mod m.md (fun b hb hf=> ?_),fun b hb=>by rw [m.old b (h.up.lt b hb)];exact h.ub b hb,h.lnk.mov m h0 (hn 6 (.inr (.inr (.inl rfl)))) (fun i j t=>hn _ (.inr (.inr (.inr (.inr (O9 i j t)))))),h.trc.mov m h0 (hn 7 (.inr (.inr (.inr (.inl rfl))))) (fun t who=>hn _ (.inr (.inr (.inr (.inr (a4T t who))))))⟩
 ·have hf':F (ow q):=hf;rw [h.tag] at hf';exact hn 2 (.inl rfl) hf'
 have hf':F (ow b):=hf;rw [h.ub b hb] at hf';exact hn 5 (.inr (.inl rfl)) hf'
theorem A1.le {w:World} {ow:Ow} {q n n':Nat} {a:NAd} {s:NS} (h:A1 w ow q a s n) (hn:n<=n'):A1 w ow q a s n':=by
 obtain ⟨k,f,h1,h2,h3⟩:=h.trc.mp;exact ⟨h.row,h.tag,h.up,h.ub,h.lnk,⟨h.trc.tag,⟨k,f,h1,Nat.le_trans h2 hn,h3⟩⟩⟩
end
open Go.RowKit
theorem a1I {d:Nat} {n:Int} (h:wfI n):Tryz.prog.keyLits (d+1) 3 [.int .i64 n]=some [.int .i64 n]:=by
 unfold wfI at h;unfold Program.keyLits;rw [Tryz.underlying3];simp [h]
theorem b2J {d:Nat} {s:ByteArray} (h:s.size<=maxLen):Tryz.prog.keyLits (d+1) 9 [.string s]=some [.string s.data.toList]:=by
 unfold Program.keyLits;rw [Tryz.underlying9];simp [h]
theorem a4U:∃m,Tryz.prog.types.size=m+1:=Nat.exists_eq_succ_of_ne_zero (of_decide_eq_true zk)
theorem a0W {i j t:Int} (hi:wfI i) (hj:wfI j) (ht:wfI t):keyOf Tryz.prog 101 (a8d i j t)=some (a1m i j t):=by
 have hu:=Tryz.underlying101;have hk:Tryz.prog.keyType 101=true:=zk
 have hf:(a8d i j t).formed Tryz.prog 101=true:=zk
 have hc:Tryz.prog.cellsOf 101=3:=zk
 have h1:Tryz.prog.cellsOf 3=1:=zk
 have hl:Tryz.prog.keyLits (Tryz.prog.types.size+1) 101 (a8d i j t).cells.toList=some [.int .i64 i,.int .i64 j,.int .i64 t]:=by
  obtain ⟨m,hm⟩:=a4U;rw [hm];show Tryz.prog.keyLits (m+1+1) 101 [.int .i64 i,.int .i64 j,.int .i64 t]=_;unfold Program.keyLits;rw [hu];simp [hc,h1,a1I hi,a1I hj,a1I ht]
 unfold keyOf;rw [hu];simp only [hk,hf,hl];rfl
theorem a2W {t:Int} {who:ByteArray} (ht:wfI t) (hw:who.size<=maxLen):keyOf Tryz.prog 122 (b0h t who)=some (a0m t who):=by
 have hu:=Tryz.underlying122;have hk:Tryz.prog.keyType 122=true:=zk
 have hf:(b0h t who).formed Tryz.prog 122=true:=zk
 have hc:Tryz.prog.cellsOf 122=2:=zk
 have h1:Tryz.prog.cellsOf 3=1:=zk
 have h2:Tryz.prog.cellsOf 9=1:=zk
 have hl:Tryz.prog.keyLits (Tryz.prog.types.size+1) 122 (b0h t who).cells.toList=some [.int .i64 t,.string who.data.toList]:=by
  obtain ⟨m,hm⟩:=a4U;rw [hm];show Tryz.prog.keyLits (m+1+1) 122 [.int .i64 t,.string who]=_;unfold Program.keyLits;rw [hu];simp [hc,h1,h2,a1I ht,b2J hw]
 unfold keyOf;rw [hu];simp only [hk,hf,hl];rfl
theorem a6R {i j t i' j' t':Int} (hi:wfI i) (hj:wfI j) (ht:wfI t) (hi':wfI i') (hj':wfI j') (ht':wfI t') (h:a1m i j t=a1m i' j' t'):i=i'/\j=j'/\t=t':=by
 have h1:=X9.inj (a0W hi hj ht) (h▸a0W hi' hj' ht');unfold a8d at h1;simpa using h1
theorem a6S {t t':Int} {who who':ByteArray} (ht:wfI t) (ht':wfI t') (hw:who.size<=maxLen) (hw':who'.size<=maxLen) (h:a0m t who=a0m t' who'):t=t'/\who=who':=by
 have h1:=a4S.inj (a2W ht hw) (h▸a2W ht' hw');unfold b0h at h1;simpa using h1
theorem a8f {i j t i' j' t':Int} (hi:wfI i) (hj:wfI j) (ht:wfI t) (hi':wfI i') (hj':wfI j') (ht':wfI t') (h:cl i j t=cl i' j' t'):i=i'/\j=j'/\t=t':=by
 refine a6R hi hj ht hi' hj' ht' ?_;have h2:400+2*X8 (keyBytes [.int .i64 i,.int .i64 j,.int .i64 t])=400+2*X8 (keyBytes [.int .i64 i',.int .i64 j',.int .i64 t']):=h;have h3:=a2c (a:=keyBytes [.int .i64 i,.int .i64 j,.int .i64 t]) (b:=keyBytes [.int .i64 i',.int .i64 j',.int .i64 t']) zo;unfold a1m;rw [h3]
theorem b5Y {t t':Int} {who who':ByteArray} (ht:wfI t) (ht':wfI t') (hw:who.size<=maxLen) (hw':who'.size<=maxLen) (h:ct t who=ct t' who'):t=t'/\who=who':=by
 refine a6S ht ht' hw hw' ?_;have h2:401+2*X8 (keyBytes [.int .i64 t,.string who.data.toList])=401+2*X8 (keyBytes [.int .i64 t',.string who'.data.toList]):=h;have h3:=a2c (a:=keyBytes [.int .i64 t,.string who.data.toList]) (b:=keyBytes [.int .i64 t',.string who'.data.toList]) zo;unfold a0m;rw [h3]
theorem l8.same {w w':World} {kt:TypeId} {b n:Nat} {f:Lit->Option Value} (h:l8 w kt b n f) (e:w'.heap[b]? =w.heap[b]?):l8 w' kt b n f:=by
 obtain ⟨D,⟨es,clock,h1,h2⟩,h3⟩:=h;exact ⟨D,⟨es,clock,e.trans h1,h2⟩,h3⟩
theorem a1J (w:World) (b:Nat) (o:Obj):Mod (fun k=>k=b) w (ChangeMaps.setBlock w b o):=by
 refine ⟨rfl,rfl,rfl,by simp [ChangeMaps.setBlock],fun k hk hn=> ?_⟩;have hn':k≠b:=hn;simp [ChangeMaps.setBlock,Array.getElem?_setIfInBounds,Ne.symm hn']
theorem l8.entry {w:World} {kt t e:TypeId} {b n:Nat} {f:Lit->Option Value} (h:l8 w kt b n f) (K:WideMaps.KeyLaw Tryz.prog kt) (ht:Tryz.prog.underlying t=some (.map kt e)) (hn:n<maxLen) {z:Value} (hz:∀u:World,(zeroValue e).run Tryz.prog u= .ok z u) {key:Value} {kl:Lit} (hkey:keyOf Tryz.prog kt key=some kl):
 ∃(st:Nat) (w1:World),(Instr.mapEntry t (.map (some b)) key).run Tryz.prog w= .ok (.tuple #[(f kl).getD z,goInt st]) w1/\Mod (fun k=>k=b) w w1/\
  ∀(w2:World) (val:Value),w2.heap[b]? =w1.heap[b]? ->∃w3,(Instr.entryStore t (.map (some b)) (goInt st) val).run Tryz.prog w2= .ok () w3/\l8 w3 kt b (if (f kl).isSome then n else n+1) (T5 f kl val)/\Mod (fun k=>k=b) w2 w3:=by
 have kQ:=h.look (Maps.Keyed.of_law K) ht (hz w) hkey;obtain ⟨w9,hput,Xy,iD⟩:=h.put (Maps.Keyed.of_law K) ht hn hkey (.bool true);have h':=h;obtain ⟨D,⟨es,clock,hb,hF, -⟩, -⟩:=h;obtain ⟨v0,st,es1,clock1,h1,h2,h3⟩:=WideElems.entry_then_store K ht hz hb hF hkey;have hbl:=(zz7 hb).1
 have hset:∀(u:World) (o:Obj),b<u.heap.size->(ChangeMaps.setBlock u b o).heap[b]? =some o:=fun u o hu=>by
  simp [ChangeMaps.setBlock,hu]
 have hv:v0=(f kl).getD z:=by
  rcases K.find w hkey es.toList hF.keys with ⟨k1,k2⟩|⟨j,e1,k1,k2,k3⟩
  ·rw [show (Instr.lookup t (.map (some b)) key false).run Tryz.prog w= .ok z w from by
    simp [Instr.lookup,run_underlying ht,MapKept.run_getObj_map hb,K.check w es.isEmpty hkey,k1,hz,Result.andThen]] at kQ
   rcases h2 with ⟨e0,m1,m2,m3⟩|⟨m1,m2⟩
   ·exact absurd m2 (k2 e0 m1)
   rw [m2];simpa using kQ
  rw [show (Instr.lookup t (.map (some b)) key false).run Tryz.prog w= .ok e1.val w from by
   simp [Instr.lookup,run_underlying ht,MapKept.run_getObj_map hb,K.check w es.isEmpty hkey,k1,hz,Result.andThen]] at kQ
  rcases h2 with ⟨e0,m1,m2,m3⟩|⟨m1,m2⟩
  ·have e01:e0=e1:=by
    have hp:=((MapKept.stamped_iff es clock).1 hF.stamped).2.2;obtain ⟨i,hi,hie⟩:=List.mem_iff_getElem.1 m1;obtain ⟨hj,Mk⟩:=zz6 k2;rw [List.pairwise_iff_getElem] at hp;rcases Nat.lt_trichotomy i j with hij|hij|hij
    ·exact absurd (by rw [hie,Mk,m2,k3]) (hp i j hi hj hij)
    ·subst hij;rw [<-hie,<-Mk]
    exact absurd (by rw [hie,Mk,m2,k3]) (hp j i hj hi hij)
   rw [m3,e01];simpa using kQ
  exact absurd k3 (m1 e1 (zz8 k2))
 rw [hv] at h1;refine ⟨st,_,h1,a1J w b _,fun w2 val hw2=> ?_⟩;rw [hset w _ hbl] at hw2;obtain ⟨es',clock',h4,h5⟩:=h3 w2 val hw2;obtain ⟨w8,vP,UE, -⟩:=h'.put (Maps.Keyed.of_law K) ht hn hkey val;rw [h5] at vP;cases vP
 have UF:=(zz7 hw2).1;refine ⟨_,h4,UE.same ?_,a1J w2 b _⟩;rw [hset w2 _ UF,hset w _ hbl]
theorem a5L {w w':World} {o:Oper} {a:Act} {K:Act->World->Prop} {Q:Exit->Act->World->Prop} {v:Value} (t:TypeId) (m x:Operand) (hop:o.op= .mapEntry t m x) {mv xv:Value} (hm:a.eval m=mv) (hx:a.eval x=xv) (hr:(Instr.mapEntry t mv xv).run Tryz.prog w= .ok v w') (hK:K (a.put o.dst v) w'):o.wp Tryz.prog a w K Q:=by
 unfold Oper.wp;simp [execOp,hop,hm,hx,hr,Result.andThen];exact hK
theorem a4m {w w':World} {o:Oper} {a:Act} {K:Act->World->Prop} {Q:Exit->Act->World->Prop} (t:TypeId) (m s x:Operand) (hop:o.op= .entryStore t m s x) {mv sv xv:Value} (hm:a.eval m=mv) (hs:a.eval s=sv) (hx:a.eval x=xv) (hr:(Instr.entryStore t mv sv xv).run Tryz.prog w= .ok () w') (hK:K (a.put o.dst undef) w'):o.wp Tryz.prog a w K Q:=by
 unfold Oper.wp;simp [execOp,hop,hm,hs,hx,hr,Result.andThen];exact hK
theorem a8g:(match Tryz.prog.underlying 79 with|some (.struct _)=>true|some (.array _ _)=>true|_=>false)=true:=zk
theorem b2K:(Tryz.prog.info? 79).map (·.size)=some 9:=zk
@[go_sem ↓] theorem b4M {ρ:Operand->Value} {dst:Option Tmp} {x:Operand} {type:TypeId} {pos:String} {after:Array Edge} {guard:Option (Nat×Bool)} {w:World} (h:a4b w (ρ x) 9):
 Sem.run Tryz.prog (execOp ρ ⟨dst,.load 79 x,type,pos,after,guard⟩) w= .ok (.value (.agg (W7 w (ρ x) 9))) w:=L7 a8g b2K h
theorem Mv.lm_ok (x:Mv):x.lm.ok:=⟨rfl,fun u hu=>zz15 (show (x.cells.drop 2).all (·.oneCell')=true from rfl) u hu⟩
theorem b5Z (X:List Mv):C4 (X.map Mv.lm)=evC (X.map Mv.m):=by
 unfold C4 evC
 induction X with
 |nil=>rfl
 |cons x X ih=>
  simp only [List.map_cons,List.filter_cons];have e:(x.lm.kind==3)=(x.m.kind==3):=rfl;rw [e];split
  ·rw [zz9,zz9,ih]
  exact ih
theorem a4V {a:LK} {X:List Mv} (hX:X.map Mv.m=a.q) (h:a.Good) (hb:a.base<=400000000000):(Y0 a X).Good:=by
 refine ⟨fun e=>h.1 ?_,h.2, ?_⟩
 ·have e':X.map Mv.lm=[]:=e;rw [<-hX,List.map_eq_nil_iff.1 e'];rfl
 show a.base<=_;omega
theorem b2L (w0 w:World) (ow:Ow) (_hw:Owd w0 w ow) (c b:Nat) (a:LK) (h0:c≠0) (h:C9 w ow c b a) (hg:a.Good) (hb:a.base<=400000000000) (hq:a.q.length+a.lost<=400000000000) (x:Mv) (hx:R4 w ow x):
 Calls Tryz.prog 304 #[.pointer (some ⟨b,0,none⟩),.agg x.cells.toArray] w fun e w'=>(∃r,e= .returned (.bool r))/\∃ow',C9 w' ow' c b (a.push x.m)/\Mov (fun t=>t=c) w ow w' ow':=by
 obtain ⟨X,F,h1,h2,h3,h4⟩:=h;have Xz:(X.map Mv.lm).length=a.q.length:=by rw [<-h2,zz10,zz10]
 refine (b2f b F (Y0 a X) x.lm w h1 (a4V h2 hg hb) x.lm_ok (by show (X.map Mv.lm).length<=_;omega) (by show a.lost<=_;omega)).mono ?_;have hev:C4 (Y0 a X).q=evC a.q:=by rw [<-h2];exact b5Z X
 rintro e w' (⟨p1,p2,p3⟩|⟨p1,p2,p3⟩)
 ·refine ⟨⟨_,p2⟩, ?_⟩;rw [hev] at p1;have ea:a.push x.m={a with q:=a.q++[x.m]}:=if_neg p1;rw [ea]
  have es:({Y0 a X with q:=(Y0 a X).q++[x.lm]}:LS)=Y0 {a with q:=a.q++[x.m]} (X++[x]):=by
   unfold Y0;rw [List.map_append];rfl
  rw [es] at p3;exact C9.to h4 p3 (by rw [List.map_append,h2];rfl) h0 (fun y hy=>(zz14 hy).elim (h3 y) (fun hy=>by rw [List.mem_singleton.1 hy];exact hx))
 refine ⟨⟨_,p2⟩, ?_⟩;rw [hev] at p1;have ea:a.push x.m={a with lost:=a.lost+1}:=if_pos p1;rw [ea];exact C9.to (a':={a with lost:=a.lost+1}) (X:=X) h4 p3 h2 h0 h3
structure SdS (k q lm n:Nat) (sid:Int) (f:Lit->Option Value) (cs:List Value) (y:World):Prop where
 f0:y.cell? ⟨k,0,none⟩=some (.pointer (some ⟨q,0,none⟩))
 f1:y.cell? ⟨k,1,none⟩=some (.int .i64 sid)
 f2:y.cell? ⟨q,4,none⟩=some (.map (some lm))
 f3:l4 y (k+1) 0 17
 f4:cellsOf y (k+1) 0 17=cs.toArray
 mp:l8 y 101 lm n f
theorem SdS.mod {k q lm n:Nat} {sid:Int} {f:Lit->Option Value} {cs:List Value} {y z:World} (h:SdS k q lm n sid f cs y) (hm:Mod (fun _=>False) y z) (hk:cs.length=17):SdS k q lm n sid f cs z:=by
 have h1:d8 y (k+1) 0 cs:=by
  have h2:=h.f3.at;rw [h.f4] at h2;simpa using h2
 have h2:=h1.mod hm id;exact ⟨hm.cell h.f0 id,hm.cell h.f1 id,hm.cell h.f2 id,h2.all hk,h2.is hk,h.mp.mod hm id⟩
def b2M (w:World) (ow:Ow) (q n:Nat) (a:NAd) (s:NS) (c:Nat) (e:Ending) (w':World):Prop:=e= .returned (.tuple #[])/\∃ow',A1 w' ow' q a s n/\Mov (fun t=>t=c) w ow w' ow'
theorem A1.cellN {w:World} {ow:Ow} {q n:Nat} {a:NAd} {s:NS} (h:A1 w ow q a s n) {j:Nat} {v:Value} (hj:(a.v::a.rest s.subs)[j]? =some v):w.cell? ⟨q,j,none⟩=some v:=d6 h.row (by simpa using hj)
theorem Y1 {up:Nat->Bool} {n i:Nat} (hi:i<n):((List.range n).map fun i=>Value.bool (up i))[i]? =some (.bool (up i)):=by simp [hi]
theorem a0H {w:World} {a:Option Addr} {n cap j:Nat} {xs:List Value} {u:Value} (h:i8 w 1 (.slice a n cap) n xs) (hx:xs[j]? =some u):∃g off,a=some ⟨g,off,none⟩/\w.cell? ⟨g,off+j,none⟩=some u:=by
 obtain ⟨h0,a',c',h1, -,h3,h4⟩:=h;cases h1
 have hj:=(zz6 hx).1
 cases a with
 |none=>exact absurd (h3 rfl) zo
 |some b=>
  obtain ⟨g',off',h5,h6⟩:=h4 _ rfl zo;exact ⟨g',off',by rw [h5],h6 j _ hx⟩
theorem F2 {n:Int} (h: -1000<=n/\n<=1000000000):wfI n:=by
 unfold wfI;simp [Lit.wf,IntKind.min,IntKind.max,IntKind.signed,IntKind.bits];omega
theorem a3S {N:List (List Int)} {i j t:Int} (h:M4 N i j t=true):n9 N i j=true/\ -1<=t/\t<4:=by
 unfold M4 at h;simp only [Bool.and_eq_true,decide_eq_true_eq] at h;exact ⟨h.1.1,h.1.2,h.2⟩
theorem A1.pushed {w w':World} {ow ow':Ow} {q n:Nat} {a:NAd} {s:NS} (h:A1 w ow q a s n) (hwf:∀i j,n9 s.N i j=true->wfI i/\wfI j) {i j t:Int} (hl:M4 s.N i j t=true) {L:LK} (hL:C9 w' ow' (cl i j t) (a.lb i j t) L) (m:Mov (fun k=>k=cl i j t) w ow w' ow'):
 A1 w' ow' q a {s with K:=D9 s.K i j t L} n:=by
 have hge:=O9 i j t;have h0:∀k,k<400->¬(k=cl i j t):=fun k hk=>zo
 have hq:=(zz7 h.row).1
 have hF:∀b c,ow b=c->c<400->¬(fun k=>ow k=cl i j t) b:=fun b c e hc e2=>by
  have e2:ow b=cl i j t:=e2;omega
 obtain ⟨k,f,h1,h2,h3⟩:=h.lnk.mp;obtain ⟨h4,h5⟩:=l7 h1 h.lnk.tag m (h0 6 zo)
 refine ⟨m.md.heap h.row (hF q 2 h.tag zo),by rw [m.old q hq];exact h.tag,h.up.mod m.md (fun b hb=>hF b 5 (h.ub b hb) zo),fun b hb=>by rw [m.old b (h.up.lt b hb)];exact h.ub b hb,⟨h5,⟨k,f,h4,h2,h3⟩,fun i' j' t' ht=> ?_⟩,h.trc.mov m (h0 0 zo) (h0 7 zo) (fun t' who e=>by
  have e:ct t' who=cl i j t:=e
  exact b2H i j t t' who e.symm)⟩
 have g1:=a3S hl;have g2:=a3S ht;by_cases e:i'=i/\j'=j/\t'=t
 ·obtain ⟨rfl,rfl,rfl⟩:=e;show C9 w' ow' _ _ (D9 s.K i' j' t' L i' j' t');rw [R8];exact hL
 show C9 w' ow' _ _ (D9 s.K i j t L i' j' t');rw [R9 _ _ e];refine (h.lnk.lk i' j' t' ht).mov m (h0 0 zo) (fun e2=>e ?_);have e2:cl i' j' t'=cl i j t:=e2;exact a8f (hwf _ _ g2.1).1 (hwf _ _ g2.1).2 (F2 zo) (hwf _ _ g1.1).1 (hwf _ _ g1.1).2 (F2 zo) e2
theorem b0i (w0 w:World) (ow:Ow) (hw:Owd w0 w ow) (q n:Nat) (a:NAd) (s:NS) (h:A1 w ow q a s n) (hwf:∀i j,n9 s.N i j=true->wfI i/\wfI j) (sid td:Nat) (ten:Int) (hl:M4 s.N sid td ten=true) (ht:td<s.N.length) (hN:s.N.length<=6) (UG:sid<6) (mP: -1<=ten/\ten<4)
 (hg:(s.K sid td ten).Good) (hb:(s.K sid td ten).base<=400000000000) (hq:(s.K sid td ten).q.length+(s.K sid td ten).lost<=400000000000) (x:Mv) (hx:R4 w ow x):
 Calls Tryz.prog 302 #[.agg #[.pointer (some ⟨q,0,none⟩),.int .i64 sid],.int .i64 td,.int .i64 ten,.agg x.cells.toArray] w (b2M w ow q n a (NS.send sid s td ten x.m) (cl sid td ten)):=by
 obtain ⟨ua,uc,gJ,huc⟩:=h.up.shape;have uz:=h.up;rw [gJ] at uz;obtain ⟨gu,ou,rfl,Ml⟩:=a0H uz.rd (Y1 (up:=s.up) ht);obtain ⟨k,f,hmp,hk,hf⟩:=h.lnk.mp;have bX:f (a1m sid td ten)=some (ptr (a.lb sid td ten)):=by rw [hf _ _ _ (F2 zo) (F2 zo) (F2 zo),if_pos hl]
 have hkey:keyOf Tryz.prog 101 (a8d sid td ten)=some (a1m sid td ten):=a0W (F2 zo) (F2 zo) (F2 zo);have hlk:=h.lnk.lk _ _ _ hl;have hc3:w.cell? ⟨q,3,none⟩=some (.slice (some ⟨gu,ou,none⟩) s.N.length uc):=by rw [<-gJ];exact h.cellN rfl
 have hc4:=h.cellN (j:=4) rfl;obtain ⟨wa,ak,ae,aa,ah⟩:=g6 w (.cells #[.pointer (some ⟨q,0,none⟩),.int .i64 sid] 138);obtain ⟨wb,hwb,ay,aA,aU⟩:=g6 wa (.cells x.cells.toArray 135);have hmb:=ae.trans ay zi;have hzb:wb.heap.size=w.heap.size+2:=zo
 have hga:=ay.heap aa id;have b0:wb.cell? ⟨w.heap.size,0,none⟩=some (.pointer (some ⟨q,0,none⟩)):=d6 hga rfl;have b3:wb.cell? ⟨q,3,none⟩=some (.slice (some ⟨gu,ou,none⟩) s.N.length uc):=hmb.cell hc3 id;have bu:wb.cell? ⟨gu,ou+td,none⟩=some (.bool (s.up td)):=hmb.cell Ml id;have hN':(s.N.length:Int)<=6:=zo
 have ht':(td:Int)<s.N.length:=zo
 have EU:(s.N.length:Int)<=uc:=zo
 have hS0:SdS w.heap.size q a.lm k sid f x.cells wb:=⟨b0,d6 hga rfl,hmb.cell hc4 id,by rw [<-ah];exact (d8.row aA).all rfl,by rw [<-ah];exact (d8.row aA).is rfl,hmp.mod hmb id⟩;have hsb:=Mov.of hw hmb (fun _=>False)
 have EW:∀wx,Mod (fun _=>False) wb wx->Calls Tryz.prog 304 #[ptr (a.lb sid td ten),.agg x.cells.toArray] wx fun e w'=>(∃r,e= .returned (.bool r))/\∃ow',C9 w' ow' (cl sid td ten) (a.lb sid td ten) ((s.K sid td ten).push x.m)/\Mov (fun t=>t=cl sid td ten) wx ow w' ow':=fun wx hm=>by
  have hsx:=Mov.of hw (hmb.trans hm zi) (fun _=>False);exact b2L w0 wx ow (hsx.owd hw id) (cl sid td ten) (a.lb sid td ten) (s.K sid td ten) (by have:=O9 sid td ten;omega) (hlk.mov hsx id id) hg hb hq x (hx.mov hsx id)
 have vQ:∀wx,Mod (fun _=>False) wb wx->A1 wx ow q a s n:=fun wx hm=>h.mov (Mov.of hw (hmb.trans hm zi) (fun _=>False)) id (fun _ h=>h.elim);obtain ⟨U,hU⟩:∃U,s.up td=U:=⟨_,rfl⟩;rw [hU] at bu;have hz:∀u:World,(zeroValue 99).run Tryz.prog u= .ok (.pointer none) u:=fun u=>zk
 have hlk2:∀wx,l8 wx 101 a.lm k f->(Instr.lookup 47 (.map (some a.lm)) (.agg #[.int .i64 sid,.int .i64 td,.int .i64 ten]) false).run Tryz.prog wx= .ok (ptr (a.lb sid td ten)) wx:=fun wx hm=>by
  have:=hm.look X9 Tryz.underlying47 (hz wx) hkey;rw [bX] at this;exact this
 refine hh8 h hx hw uz gJ hmp hf bX fun H Hx Hw UH Mm Io Hf jB=> ?_;refine hh8 hkey hlk hc3 hc4 ak hwb ae aa fun eu GX XA XB aB bN ai aC=> ?_;refine hh8 ay aA hmb hga hS0 hsb EW vQ fun sK bq eQ ku ji xH Mo vR=> ?_;refine hh6 hU hz hlk2 hg Ml hwf fun HU Hz zI Hg XC Kj=> ?_;clear h hx hw uz gJ hmp hf bX hkey hlk hc3 hc4 ak hwb ae aa ay aA hmb hga hS0 hsb EW vQ hU hz hlk2 hg Ml hwf hk hzb hN mP
 go_enter Tryz.func302,Tryz.ntmps302
 cases U with
 | false=>
  go_wp2_with (first|(rw [show w.alloc _=wa from aB.out])|(rw [show wa.alloc _=wb from bN.out]))
  go_end0
  refine ⟨rfl,ow, ?_,Mov.of Hw.out eQ.out _⟩
  have e:NS.send sid s td ten x.m=s:=by
   unfold NS.send;rw [Int.toNat_natCast,HU.out];rfl
  rw [e];exact vR.out wb (Mod.refl _ _)
 | true=>
  go_wp2_with (first|(rw [show w.alloc _=wa from aB.out])|(rw [show wa.alloc _=wb from bN.out]))
  have hS:=ji.out.mod ((Mod.refl (fun _=>False) wb).drew) rfl;refine i6 [.rd 0,.rd 1,.rd 2,.rd 3,.rd 4,.rd 5,.rd 6,.rd 7,.rd 8,.rd 9,.rd 10,.rd 11,.go 12] [0,1,2,3,4,5,6,7,8,9,10,11] (SdS w.heap.size q a.lm k sid f x.cells) zk zk (fun _ _ d _ _ h=>(by cases d<;>exact h)) ?_
  iterate 10 (
   refine wrd hS fun K hK=> ?_
   go_simp;refine hK _ ?_;clear hK K)
  refine a1s rfl ?_ (fun _=>hS) ?_ (fun w0 h0=> ?_) (fun K hK=> ?_)
  ·exact zg
  rotate_left
  ·(try simp only [zz1,zz2,zz3]);have hl2:=zI.out w0 (h0 rfl).mp;clear h0;go_simp;with_reducible rfl
  (try simp only [zz1,zz2,zz3]);go_simp;refine hK _ ?_;clear hK K;refine wrd hS fun K hK=> ?_;go_simp;refine hK _ ?_;clear hK K;refine wgo fun K hK=> ?_
  go_wp2_with fail
  refine (Mo.out wb.drew ((Mod.refl (fun _=>False) wb).drew)).mono ?_;rintro e w' ⟨⟨r,rfl⟩,ow',hL,hM⟩;refine hK _ _ (fun h=>absurd h zd) ?_;clear hK K;refine p8 ?_;have hfin:=(vR.out wb.drew ((Mod.refl (fun _=>False) wb).drew)).pushed Kj.out hl hL hM;have hmv:Mov (fun t=>t=cl sid td ten) w ow w' ow':=(Mov.of Hw.out (eQ.out.trans ((Mod.refl (fun _=>False) wb).drew) zi) _).trans hM;refine hh4 hL hM hfin hmv fun HL HM bF kL=> ?_;clear hL hM hfin hmv
  go_wp2_with fail
  go_end0
  refine ⟨rfl,ow', ?_,kL.out⟩
  have e:NS.send sid s td ten x.m={s with K:=D9 s.K sid td ten ((s.K sid td ten).push x.m)}:=by
   unfold NS.send;rw [Int.toNat_natCast,HU.out];rfl
  rw [e];exact bF.out
end Go.Proofs.YtdmjoodhaeijmaaGreatDoor
