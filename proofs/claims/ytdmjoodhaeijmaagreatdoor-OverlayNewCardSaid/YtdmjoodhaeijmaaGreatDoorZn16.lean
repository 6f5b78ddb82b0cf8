/- Lemmas. -/
import Derived.Test.YtdmjoodhaeijmaaGreatDoorZn14
import Derived.Test.YtdmjoodhaeijmaaGreatDoorZn5
import Derived.Lib.PrintData
set_option maxHeartbeats 40000000
set_option maxRecDepth 20000
namespace Go.Proofs.YtdmjoodhaeijmaaGreatDoor
def V.prt (v:V):List UInt8:=
 if v.kind=0 then Lib.itoa v.int else if v.kind=1 then S9 (m8 v.num) else if v.kind=2 then a3g Lib.goPrintTabs v.text else if v.yes then [121,101,115] else [110,111]
def G7 (op:Int):List UInt8:=
 if op=0 then [61] else if op=1 then [33,61] else if op=2 then [60] else if op=3 then [60,61] else if op=4 then [62] else if op=5 then [62,61] else if op=6 then [94] else if op=7 then [104,97,115] else []
def Cnd.prt (c:Cnd):List UInt8:=if c.op=7 then [104,97,115,32]++c.name.data.toList else c.name.data.toList++[32]++G7 c.op++[32]++c.v.prt
def K3:List Cnd->List UInt8
 |[]=>[]
 |c::l=>[32,38,32]++c.prt++K3 l
def a0f:List Cnd->List UInt8
 |[]=>[]
 |c::l=>[32]++c.prt++K3 l
def t8 (sc:ByteArray) (l:List Cnd):List UInt8:=sc.data.toList++[58]++a0f l
def Cnd.norm (c:Cnd):Cnd:=if c.op=7 then ⟨c.name,7,V.zero⟩ else ⟨c.name,c.op,c.v.canon⟩
structure Cnd.fine (c:Cnd):Prop where
 name:r4 c.name=true
 op:0<=c.op/\c.op<=7
 v:c.v.right=true
 num:c.v.num<2^64
 is:c.norm=c
theorem a3i {x:Nat} (hx:x<2^64):b5z (m8 x):=by
 by_cases hn:a1a x
 ·rw [a8u hx hn];unfold a1a r6 at hn;unfold r6;split
  ·exact ⟨zo,fun h=>zo,fun _=>rfl⟩
  exact ⟨hx,fun h1 h2=>zo,fun h=>zo⟩
 have hf:fEq x x=false:=by rw [Bool.eq_false_iff];exact fun h=>hn (a9c.1 h)
 unfold m8;rw [hf,if_neg zd];exact ⟨zd,fun _ _=>rfl,fun h=>absurd h zd⟩
def a5f (r:List UInt8):Prop:=r=[]\/∃q,r=32::q
theorem N9 (r:List UInt8):a5f (32::r):= .inr ⟨r,rfl⟩
theorem a0v {a b r q:List UInt8} (ha:∀c∈a,c≠32) (hb:∀c∈b,c≠32) (hr:a5f r) (hq:a5f q) (h:a++r=b++q):a=b/\r=q:=by
 have key:∀{l x:List UInt8},(∀c∈l,c≠32)->a5f x->(l++x).takeWhile (· !=32)=l/\(l++x).dropWhile (· !=32)=x:=by
  intro l x hl hx;have hl':∀c∈l,(c !=32)=true:=fun c hc=>by rw [bne_iff_ne];exact hl c hc
  rw [List.takeWhile_append_of_pos hl',List.dropWhile_append_of_pos hl'];rcases hx with rfl|⟨y,rfl⟩
  ·exact ⟨zz11 _,rfl⟩
  exact ⟨zz11 _,rfl⟩
 have k1:=key ha hr;have k2:=key hb hq;rw [h] at k1;exact ⟨k1.1.symm.trans k2.1,k1.2.symm.trans k2.2⟩
theorem a3j {s:ByteArray} (h:r4 s=true):(∀c∈s.data.toList,(97<=c.toNat/\c.toNat<=122)\/(48<=c.toNat/\c.toNat<=57))/\∃c r,s.data.toList=c::r/\97<=c.toNat/\c.toNat<=122:=by
 unfold r4 at h;rw [Bool.and_eq_true,Bool.and_eq_true,List.all_eq_true] at h;obtain ⟨h1,h2, -⟩:=h;have at_:∀(i:Nat) (c:UInt8),s.data.toList[i]? =some c->G8 i c=true:=fun i c hc=>h1 (c,i) (List.mk_mem_zipIdx_iff_getElem?.2 hc);constructor
 ·intro c hc;obtain ⟨i,hi⟩:=List.getElem?_of_mem hc;have:=at_ i c hi;unfold G8 at this;simp only [Bool.or_eq_true,Bool.and_eq_true,decide_eq_true_eq] at this;omega
 ·cases hl:s.data.toList with
  |nil=>
   have hz:s.size=0:=by show s.data.size=0;rw [<-Array.length_toList,hl];rfl
   rw [hz] at h2;simp at h2
  |cons c r=>
   have:=at_ 0 c (by rw [hl];rfl);unfold G8 at this;simp only [Bool.or_eq_true,Bool.and_eq_true,decide_eq_true_eq,Nat.lt_irrefl,false_and,or_false] at this;exact ⟨c,r,rfl,this⟩
theorem X2 {s:ByteArray} (h:r4 s=true):∀c∈s.data.toList,c≠32:=by
 intro c hc e;subst e;have:=(a3j h).1 32 hc;revert this;decide
theorem a5g {s t:ByteArray} (h:s.data.toList=t.data.toList):s=t:=ByteArray.ext (Array.toList_inj.1 h)
theorem a3k (n:Int):(∀c∈Lib.itoa n,q9 c\/c=45)/\∃c r,Lib.itoa n=c::r:=by
 unfold Lib.itoa;split
 ·refine ⟨fun c hc=> ?_,_,_,rfl⟩;rcases List.mem_cons.1 hc with rfl|hc
  ·exact .inr rfl
  exact .inl ((a0r _).2.1 c hc)
 refine ⟨fun c hc=> .inl ((a0r _).2.1 c hc), ?_⟩
 cases hd:Lib.decDigits n.toNat with
 |nil=>exact absurd hd (a0r _).2.2.2
 |cons c r=>exact ⟨c,r,rfl⟩
theorem a8I {a b:Nat} (h:Lib.decDigits a=Lib.decDigits b):a=b:=by
 rw [<-(a0r a).1,<-(a0r b).1,h]
theorem b1f {a b:Int} (h:Lib.itoa a=Lib.itoa b):a=b:=by
 have hd:∀(u:Nat) (r:List UInt8),Lib.decDigits u≠45::r:=fun u r e=>by
  have:=(a0r u).2.1 45 (by rw [e];exact List.mem_cons_self);unfold q9 at this;revert this;decide
 unfold Lib.itoa at h;split at h<;>split at h
 ·have:=a8I (List.cons.inj h).2;omega
 ·exact absurd h.symm (hd _ _)
 ·exact absurd h (hd _ _)
 have:=a8I h;omega
theorem a1y {v:V} (hk:v.kind≠2):(∀c∈v.prt,c≠32)/\∃c r,v.prt=c::r/\c≠34:=by
 unfold V.prt;by_cases h0:v.kind=0
 ·rw [if_pos h0];obtain ⟨h1,c,r,h2⟩:=a3k v.int;refine ⟨fun c hc e=> ?_,c,r,h2,fun e=> ?_⟩
  ·subst e;rcases h1 32 hc with h|h
   ·unfold q9 at h;revert h;decide
   revert h;decide
  subst e;rcases h1 34 (by rw [h2];exact List.mem_cons_self) with h|h
  ·unfold q9 at h;revert h;decide
  revert h;decide
 rw [if_neg h0];by_cases h1:v.kind=1
 ·rw [if_pos h1];obtain ⟨⟨c,r,h2⟩,h3, -, -⟩:=a1v (m8 v.num);refine ⟨fun c hc e=> ?_,c,r,h2,fun e=> ?_⟩
  ·subst e;have:=h3 32 hc;unfold A9 at this;revert this;decide
  subst e;have:=h3 34 (by rw [h2];exact List.mem_cons_self);unfold A9 at this;revert this;decide
 rw [if_neg h1,if_neg hk];split
 ·exact ⟨zd,_,_,rfl,zd⟩
 exact ⟨zd,_,_,rfl,zd⟩
theorem b1g {u v:V} {r q:List UInt8} (hu:u.right=true) (hv:v.right=true) (nu:u.num<2^64) (nv:v.num<2^64) (cu:u.canon=u) (cv:v.canon=v) (hr:a5f r) (hq:a5f q) (h:u.prt++r=v.prt++q):u=v/\r=q:=by
 have kr:∀{x:V},x.right=true->x.kind=0\/x.kind=1\/x.kind=2\/x.kind=3:=by
  intro x hx;unfold V.right at hx;simp only [Bool.and_eq_true,decide_eq_true_eq] at hx;omega
 have q2:∀{x:V},x.kind=2->x.prt=a3g Lib.goPrintTabs x.text:=fun h=>by unfold V.prt;rw [if_neg zo,if_neg zo,if_pos h]
 have p0:∀{x:V},x.kind=0->x.prt=Lib.itoa x.int:=fun h=>by unfold V.prt;rw [if_pos h]
 have p1:∀{x:V},x.kind=1->x.prt=S9 (m8 x.num):=fun h=>by unfold V.prt;rw [if_neg zo,if_pos h]
 have p3:∀{x:V},x.kind=3->x.prt=if x.yes then [121,101,115] else [110,111]:=fun h=>by unfold V.prt;rw [if_neg zo,if_neg zo,if_neg zo]
 have c0:∀{x:V},x.canon=x->x.kind=0->x={V.zero with kind:=0,int:=x.int}:=fun h e=>by
  conv=>lhs;rw [<-h]
  unfold V.canon;rw [if_pos e]
 have c1:∀{x:V},x.canon=x->x.kind=1->x={V.zero with kind:=1,num:=m8 x.num}:=fun h e=>by
  conv=>lhs;rw [<-h]
  unfold V.canon;rw [if_neg zo,if_pos e]
 have c2:∀{x:V},x.canon=x->x.kind=2->x={V.zero with kind:=2,text:=x.text}:=fun h e=>by
  conv=>lhs;rw [<-h]
  unfold V.canon;rw [if_neg zo,if_neg zo,if_pos e]
 have c3:∀{x:V},x.canon=x->x.kind=3->x={V.zero with kind:=3,yes:=x.yes}:=fun h e=>by
  conv=>lhs;rw [<-h]
  unfold V.canon;rw [if_neg zo,if_neg zo,if_neg zo,if_pos e]
 by_cases hk:u.kind=2<;>by_cases hl:v.kind=2
 ·rw [q2 hk,q2 hl] at h;obtain ⟨h1,h2⟩:=b1b _ _ _ _ _ h;refine ⟨?_,h2⟩;rw [c2 cu hk,c2 cv hl,h1]
 ·exfalso;obtain ⟨-,c,x,h1,h2⟩:=a1y hl;rw [q2 hk,h1] at h;obtain ⟨y,hy⟩:=a4u Lib.goPrintTabs u.text;rw [hy] at h;exact h2 (List.cons.inj h).1.symm
 ·exfalso;obtain ⟨-,c,x,h1,h2⟩:=a1y hk;rw [q2 hl,h1] at h;obtain ⟨y,hy⟩:=a4u Lib.goPrintTabs v.text;rw [hy] at h;exact h2 (List.cons.inj h).1
 obtain ⟨he,hrq⟩:=a0v (a1y hk).1 (a1y hl).1 hr hq h;refine ⟨?_,hrq⟩;clear h
 have i1:∀{x y:V},x.kind=0->y.kind=1->x.prt≠y.prt:=by
  intro x y hx hy e;rw [p0 hx,p1 hy] at e;have hs:=(a1v (m8 y.num)).2.2.2;rw [<-e] at hs;unfold R1 at hs;rw [List.any_eq_true] at hs;obtain ⟨c,hc,hcs⟩:=hs;simp only [Bool.or_eq_true,beq_iff_eq] at hcs;rcases (a3k x.int).1 c hc with hd|hd
  ·unfold q9 at hd;rcases hcs with ((rfl|rfl)|rfl)|rfl<;>revert hd<;>decide
  subst hd;revert hcs;decide
 have i3:∀{x y:V},x.kind=0->y.kind=3->x.prt≠y.prt:=by
  intro x y hx hy e;rw [p0 hx,p3 hy] at e;have:∀c,c∈(if y.yes=true then ([121,101,115]:List UInt8) else [110,111])->q9 c\/c=45:=fun c hc=>(a3k x.int).1 c (by rw [e];exact hc);cases hy:y.yes
  ·rw [hy] at this;have:=this 110 zd;unfold q9 at this;revert this;decide
  rw [hy] at this;have:=this 121 zd;unfold q9 at this;revert this;decide
 have n3:∀{x y:V},x.kind=1->y.kind=3->x.prt≠y.prt:=by
  intro x y hx hy e;rw [p1 hx,p3 hy] at e;obtain ⟨-,h1,h2, -⟩:=a1v (m8 x.num);rw [e] at h1 h2;cases hy:y.yes
  ·rw [hy] at h2;exact h2 _ rfl
  rw [hy] at h1;have:=h1 121 zd;unfold A9 at this;revert this;decide
 rcases kr hu with a|a|a|a<;>rcases kr hv with b|b|b|b
 ·rw [c0 cu a,c0 cv b];rw [p0 a,p0 b] at he;rw [b1f he]
 ·exact absurd he (i1 a b)
 ·exact absurd b hl
 ·exact absurd he (i3 a b)
 ·exact absurd he.symm (i1 b a)
 ·rw [c1 cu a,c1 cv b];rw [p1 a,p1 b] at he;rw [b06 (a3i nu) (a3i nv) he]
 ·exact absurd b hl
 ·exact absurd he (n3 a b)
 ·exact absurd a hk
 ·exact absurd a hk
 ·exact absurd a hk
 ·exact absurd a hk
 ·exact absurd he.symm (i3 b a)
 ·exact absurd he.symm (n3 b a)
 ·exact absurd b hl
 rw [c3 cu a,c3 cv b];rw [p3 a,p3 b] at he
 have:u.yes=v.yes:=by
  cases hx:u.yes<;>cases hy:v.yes<;>rw [hx,hy] at he<;>first|rfl|(exfalso;revert he;decide)
 rw [this]
theorem b1h {o:Int} (h:0<=o/\o<=7) (h7:o≠7):o=0\/o=1\/o=2\/o=3\/o=4\/o=5\/o=6:=zo
theorem b3N {o p:Int} (h:0<=o/\o<=7) (k:0<=p/\p<=7) (e:G7 o=G7 p):o=p:=by
 have a:∀x:Int,0<=x/\x<=7->x=0\/x=1\/x=2\/x=3\/x=4\/x=5\/x=6\/x=7:=fun x hx=>zo
 rcases a o h with rfl|rfl|rfl|rfl|rfl|rfl|rfl|rfl<;>rcases a p k with rfl|rfl|rfl|rfl|rfl|rfl|rfl|rfl<;>first|rfl|(exfalso;revert e;decide)
theorem a4v {o:Int} (h:0<=o/\o<=7):∀c∈G7 o,c≠32:=by
 have a:o=0\/o=1\/o=2\/o=3\/o=4\/o=5\/o=6\/o=7:=zo
 rcases a with rfl|rfl|rfl|rfl|rfl|rfl|rfl|rfl<;>decide
theorem a9p {o:Int} (h:0<=o/\o<=7) (h7:o≠7):∃c r,G7 o=c::r/\(c.toNat<97/\(c.toNat<48\/57<c.toNat)):=by
 rcases b1h h h7 with rfl|rfl|rfl|rfl|rfl|rfl|rfl
 all_goals exact ⟨_,_,rfl,zd⟩
theorem a8J {c d:Cnd} {r q:List UInt8} (hc:c.fine) (hd:d.fine) (hr:a5f r) (hq:a5f q) (h:c.prt++r=d.prt++q):c=d/\r=q:=by
 have eh:∀{x:Cnd},x.fine->x.op=7->x=⟨x.name,7,V.zero⟩:=fun hx e=>by
  conv=>lhs;rw [<-hx.is]
  unfold Cnd.norm;rw [if_pos e]
 have en:∀{x:Cnd},x.fine->x.op≠7->x=⟨x.name,x.op,x.v.canon⟩:=fun hx e=>by
  conv=>lhs;rw [<-hx.is]
  unfold Cnd.norm;rw [if_neg e]
 have mix:∀{x y:Cnd} {a b:List UInt8},x.fine->y.fine->x.op=7->y.op≠7->x.prt++a≠y.prt++b:=by
  intro x y a b hx hy e f g;unfold Cnd.prt at g;rw [if_pos e,if_neg f] at g
  have g2:[104,97,115]++(32::(x.name.data.toList++a))=y.name.data.toList++(32::(G7 y.op++(32::(y.v.prt++b)))):=by
   simpa [List.append_assoc] using g
  obtain ⟨-,h2⟩:=a0v zd (X2 hy.name) (N9 _) (N9 _) g2;have h3:=(List.cons.inj h2).2;obtain ⟨c1,r1,h4,h5⟩:=(a3j hx.name).2;obtain ⟨c2,r2,h6,h7⟩:=a9p hy.op f;rw [h4,h6] at h3;have:=(List.cons.inj h3).1;subst this;omega
 by_cases e:c.op=7<;>by_cases f:d.op=7
 ·unfold Cnd.prt at h;rw [if_pos e,if_pos f,zz12,zz12] at h;obtain ⟨h1,h2⟩:=a0v (X2 hc.name) (X2 hd.name) hr hq (List.append_cancel_left h);exact ⟨by rw [eh hc e,eh hd f,a5g h1],h2⟩
 ·exact absurd h (mix hc hd e f)
 ·exact absurd h.symm (mix hd hc f e)
 unfold Cnd.prt at h;rw [if_neg e,if_neg f] at h
 have g2:c.name.data.toList++(32::(G7 c.op++(32::(c.v.prt++r))))=d.name.data.toList++(32::(G7 d.op++(32::(d.v.prt++q)))):=by
  simpa [List.append_assoc] using h
 obtain ⟨h1,h2⟩:=a0v (X2 hc.name) (X2 hd.name) (N9 _) (N9 _) g2;obtain ⟨h3,h4⟩:=a0v (a4v hc.op) (a4v hd.op) (N9 _) (N9 _) (List.cons.inj h2).2
 have cc:c.v.canon=c.v:=by
  have:=en hc e;have:=congrArg Cnd.v this;exact this.symm
 have cd:d.v.canon=d.v:=by
  have:=en hd f;have:=congrArg Cnd.v this;exact this.symm
 obtain ⟨h5,h6⟩:=b1g hc.v hd.v hc.num hd.num cc cd hr hq (List.cons.inj h4).2;refine ⟨?_,h6⟩;have h7:=b3N hc.op hd.op h3;have h8:=a5g h1;clear h h1 h2 h3 h4 g2 cc cd eh en mix e f hc hd;cases c;cases d
 simp only at h5 h7 h8;rw [h5,h7,h8]
theorem a0P (l:List Cnd):a5f (K3 l):=by
 cases l with
 |nil=>exact .inl rfl
 |cons c l=>exact .inr ⟨_,rfl⟩
theorem b1i:∀{l m:List Cnd},(∀c∈l,c.fine)->(∀c∈m,c.fine)->K3 l=K3 m->l=m:=by
 intro l
 induction l with
 |nil=>
  intro m _ _ h
  cases m with
  |nil=>rfl
  |cons d m=>simp [K3] at h
 | cons c l ih=>
  intro m hl hm h
  cases m with
  |nil=>simp [K3] at h
  |cons d m=>
   unfold K3 at h;rw [zz12,zz12] at h;obtain ⟨h1,h2⟩:=a8J (hl c List.mem_cons_self) (hm d List.mem_cons_self) (a0P l) (a0P m) (List.append_cancel_left h);rw [h1,ih (fun x hx=>hl x (List.mem_cons_of_mem _ hx)) (fun x hx=>hm x (List.mem_cons_of_mem _ hx)) h2]
theorem b3O {s t:ByteArray} {l m:List Cnd} (hs:∀c∈s.data.toList,c≠58) (ht:∀c∈t.data.toList,c≠58) (hl:∀c∈l,c.fine) (hm:∀c∈m,c.fine) (h:t8 s l=t8 t m):s=t/\l=m:=by
 have rest:∀(u:ByteArray) (k:List Cnd),t8 u k=u.data.toList++58::a0f k:=fun u k=>by unfold t8;simp
 rw [rest,rest] at h
 have key:∀{x y:List UInt8},(∀c∈x,c≠58)->(x++58::y).takeWhile (· !=58)=x/\(x++58::y).dropWhile (· !=58)=58::y:=by
  intro x y hx;have hx':∀c∈x,(c !=58)=true:=fun c hc=>by rw [bne_iff_ne];exact hx c hc
  rw [List.takeWhile_append_of_pos hx',List.dropWhile_append_of_pos hx'];exact ⟨zz11 _,rfl⟩
 have k1:=key (y:=a0f l) hs;have k2:=key (y:=a0f m) ht;rw [h] at k1;refine ⟨a5g (k1.1.symm.trans k2.1), ?_⟩;have hab:a0f l=a0f m:=(List.cons.inj (k1.2.symm.trans k2.2)).2
 cases l with
 |nil=>
  cases m with
  |nil=>rfl
  |cons d m=>simp [a0f] at hab
 | cons c l=>
  cases m with
  |nil=>simp [a0f] at hab
  |cons d m=>
   have hab:[32]++c.prt++K3 l=[32]++d.prt++K3 m:=hab;rw [zz12,zz12] at hab;obtain ⟨h1,h2⟩:=a8J (hl c List.mem_cons_self) (hm d List.mem_cons_self) (a0P l) (a0P m) (List.append_cancel_left hab);rw [h1,b1i (fun x hx=>hl x (List.mem_cons_of_mem _ hx)) (fun x hx=>hm x (List.mem_cons_of_mem _ hx)) h2]
end Go.Proofs.YtdmjoodhaeijmaaGreatDoor
