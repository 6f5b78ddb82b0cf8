/- Lemmas. -/
import Derived.Test.YtebhabpahfmodaaGreatDoorZh27
import Derived.Test.YtebhabpahfmodaaGreatDoorZh28
set_option maxHeartbeats 40000000
set_option maxRecDepth 20000
namespace Go.Proofs.YtebhabpahfmodaaGreatDoor
section
open Go.RowKit
structure Mg where
 kind:Int
 at_:Int
 rule:PRu
 fs:ByteArray
 fl:List Cnd
 es:ByteArray
 el:List Att
 ver:Int
 org:ByteArray
 ser:Int
structure Mv where
 m:Mg
 ra:Option Addr
 rc:Nat
 fa:Option Addr
 fc:Nat
 ea:Option Addr
 ec:Nat
def Mv.cells (x:Mv):List Value:=
 [.int .i64 x.m.kind,.int .i64 x.m.at_,.int .i64 x.m.rule.kind,.int .i64 x.m.rule.tenant,.string x.m.rule.who,.int .i64 x.m.rule.broker,.string x.m.rule.sc,.slice x.ra x.m.rule.cs.length x.rc,.string x.m.rule.name,.int .i64 x.m.rule.at_,
  .string x.m.fs,.slice x.fa x.m.fl.length x.fc,.string x.m.es,.slice x.ea x.m.el.length x.ec,.int .i64 x.m.ver,.string x.m.org,.int .i64 x.m.ser]
structure X3 (w:World) (ow:Ow) (x:Mv):Prop where
 ru:o3 w ow 7 (.slice x.ra x.m.rule.cs.length x.rc) x.m.rule.cs.length (m5 x.m.rule.cs)
 fl:o3 w ow 7 (.slice x.fa x.m.fl.length x.fc) x.m.fl.length (m5 x.m.fl)
 el:o3 w ow 6 (.slice x.ea x.m.el.length x.ec) x.m.el.length (k7 x.m.el)
theorem X3.mov {F:Nat->Prop} {w w':World} {ow ow':Ow} {x:Mv} (h:X3 w ow x) (s:Mov F w ow w' ow') (h0:¬F 0):X3 w' ow' x:=⟨h.ru.mov s h0 zo,h.fl.mov s h0 zo,h.el.mov s h0 zo⟩
structure Tg where
 kind:Int
 op:Int
 err:Int
 sub:Int
 ser:Int
 ver:Int
 org:ByteArray
 es:ByteArray
 el:List Att
structure Tv where
 t:Tg
 ea:Option Addr
 ec:Nat
def Tv.cells (x:Tv):List Value:=
 [.int .i64 x.t.kind,.int .i64 x.t.op,.int .i64 x.t.err,.int .i64 x.t.sub,.int .i64 x.t.ser,.int .i64 x.t.ver,.string x.t.org,.string x.t.es,.slice x.ea x.t.el.length x.ec]
structure a8w (w:World) (ow:Ow) (x:Tv):Prop where
 el:o3 w ow 6 (.slice x.ea x.t.el.length x.ec) x.t.el.length (k7 x.t.el)
theorem a8w.mov {F:Nat->Prop} {w w':World} {ow ow':Ow} {x:Tv} (h:a8w w ow x) (s:Mov F w ow w' ow') (h0:¬F 0):a8w w' ow' x:=⟨h.el.mov s h0 zo⟩
abbrev Sb:=Int×ByteArray×Fil
def T7 (S:List Sb) (id:Int):Option (ByteArray×Fil):=(S.find? fun p=>p.1==id).map Prod.snd
def kF (l:List Fil) (k:List UInt8):Option Fil:=l.find? fun f=>j5 f==k
structure RS where
 M:List (Int×Fil)
 N:Nat
 I:List (Int×Fil)
 T:Nat
 S:List Sb
 G:Int->List Fil
 K:Nat
def RS.zero:RS:=⟨[],0,[],0,[],fun _=>[],0⟩
structure BS where
 L:List PRu
 R:Nat->RS
def upd {α:Type} (f:Nat->α) (i:Nat) (x:α):Nat->α:=fun j=>if j=i then x else f j
theorem a1k {α:Type} (f:Nat->α) (i:Nat) (x:α):upd f i x i=x:=if_pos rfl
theorem a2q {α:Type} (f:Nat->α) {i j:Nat} (x:α) (h:j≠i):upd f i x j=f j:=if_neg h
def T8 {α:Type} (f:Int->α) (i:Int) (x:α):Int->α:=fun j=>if j=i then x else f j
theorem V3 {α:Type} (f:Int->α) (i:Int) (x:α):T8 f i x i=x:=if_pos rfl
theorem Z5 {α:Type} (f:Int->α) {i j:Int} (x:α) (h:j≠i):T8 f i x j=f j:=if_neg h
def Mg.zero:Mg:=⟨0,0,PRu.zero,⟨#[]⟩,[],⟨#[]⟩,[],0,⟨#[]⟩,0⟩
def Mg.pol (i:Int) (p:PRu):Mg:={Mg.zero with at_:=i,rule:=p}
def Mg.sub (f:Fil):Mg:={Mg.zero with kind:=1,fs:=f.1,fl:=f.2}
def Mg.uns (f:Fil):Mg:={Mg.zero with kind:=2,fs:=f.1,fl:=f.2}
abbrev Sd:=Int×Int×Mg
def K4 (a b:List Fil):List Fil:=a.filter fun f=>(kF b (j5 f)).isNone
def X4 (n ten:Int) (was want:List Fil):List Sd:=(K4 want was).map (fun f=>(n,ten,Mg.sub f))++(K4 was want).map (fun f=>(n,ten,Mg.uns f))
def I0 (M:List (Int×Fil)):List Int->(Int->List Fil)->(Int->List Fil)
 |[],G=>G
 |n::near,G=>I0 M near (T8 G n (B8 M n))
def A3 (M:List (Int×Fil)) (ten:Int):List Int->(Int->List Fil)->List Sd
 |[],_=>[]
 |n::near,G=>X4 n ten (G n) (B8 M n)++A3 M ten near (T8 G n (B8 M n))
def RS.refr (R:RS) (near:List Int):RS:={R with G:=I0 R.M near R.G,K:=R.K+near.length}
def L9 (near:List Int) (frm:Int) (i:Int) (p:PRu):List Sd:=(near.filter fun n=> !(n==frm)).map fun n=>(n, -1,Mg.pol i p)
theorem a0U {M:List (Int×Fil)} {near:List Int} {G:Int->List Fil} {n:Int} (h:n∉near):I0 M near G n=G n:=by
 induction near generalizing G with
 |nil=>rfl
 |cons a near ih=>
  unfold I0;rw [ih (fun h2=>h (List.mem_cons_of_mem _ h2)),Z5 _ _ (fun e=>h (by rw [e];exact List.mem_cons_self ..))]
theorem a4b {M:List (Int×Fil)} {near:List Int} {G:Int->List Fil} {n:Int} (h:n∈near):I0 M near G n=B8 M n:=by
 induction near generalizing G with
 |nil=>cases h
 | cons a near ih=>
  unfold I0;by_cases h2:n∈near
  ·exact ih h2
  rw [a0U h2];rcases List.mem_cons.1 h with rfl|h3
  ·exact V3 _ _ _
  exact absurd h3 h2
def a6Z (w:World) (e:Ending) (w':World):Prop:=∃b own,e= .returned (.pointer (some ⟨b,0,none⟩))/\Tab w' b own (fun _=>False) [] 0/\(∀k,own k->w.heap.size<=k)/\Mod (fun _=>False) w w'
theorem a1N (w:World):Calls Tryz.prog 21 #[] w (a6Z w):=by
 obtain ⟨wa,aD,ah,ae,au⟩:=g8 w (.map #[] 0);obtain ⟨wb,hwb,ay,ak,aO⟩:=g8 wa (.cells #[.map (some w.heap.size)] 134);have h1:p6 wb 3 w.heap.size 0 (fun _=>none):=(aD▸p6.made w 3:p6 wa 3 w.heap.size 0 (fun _=>none)).mod ay id
 have hi:a0e wb wa.heap.size w.heap.size (fun k=>k=w.heap.size\/k=wa.heap.size) (fun _=>False) [] 0:=
  ⟨ak,⟨.inr rfl,.inl rfl⟩,zo,⟨0,_,h1,Nat.le_refl _,fun _ _=>rfl,fun x y mi h=>(by cases h)⟩,List.Pairwise.nil,Nat.le_refl _,fun _ _ h=>h,fun k hk=>zo,fun _ h=>h.elim,fun p hp=>(by cases hp),fun p hp=>(by cases hp)⟩
 have hm:Mod (fun _=>False) w wb:=ah.trans ay zi;have hz:=au;obtain ⟨aF,bD,H1,Hi,Hm,aT,aH,Hz⟩:=zh8 aD hwb h1 hi hm ak ae hz;clear aD hwb h1 hi hm ak ae hz ah ay aO au
 go_enter Tryz.func21,Tryz.ntmps21
 go_wp2_with (first|(rw [show w.alloc _=wa from aF.out])|(rw [show wa.alloc _=wb from bD.out]))
 go_ret;refine ⟨wa.heap.size,_,rfl,⟨_,Hi.out⟩,fun k hk=> ?_,Hm.out⟩;have:=Hz.out;rcases hk with rfl|rfl<;>omega
def b2A (w:World) (b:Nat) (own C:Nat->Prop) (M:List (Int×Fil)) (N:Nat) (id:Int) (q:Fil) (e:Ending) (w':World):Prop:=
 (o5 M id (j5 q)≠none/\e= .returned (.bool false)/\Mod (fun _=>False) w w')\/
 (o5 M id (j5 q)=none/\e= .returned (.bool true)/\∃own' C',Tab w' b own' C' (M++[(id,q)]) (N+1)/\(∀k,own k->own' k)/\(∀k,own' k->own k\/w.heap.size<=k)/\(∀k,C' k->C k\/w.heap.size<=k)/\Mod own w w')
theorem a9D {w w8:World} {b mo mi N n8:Nat} {own own' C C':Nat->Prop} {M:List (Int×Fil)} {f f8:Lit->Option Value} {id:Int} {q:Fil} (h:a0e w b mo own C M N)
 (hf1:∀id:Int,a3b w own C b mo N (o5 M id) (f (.int .i64 id))) (hf2:∀(x y:Int) mi,f (.int .i64 x)=some (.map (some mi))->f (.int .i64 y)=some (.map (some mi))->x=y) (hq:o5 M id (j5 q)=none)
 (hO:p6 w8 3 mo n8 f8) (Ce:n8<=N+1) (oW:f8 (.int .i64 id)=some (.map (some mi))) (hfx:∀x:Int,x≠id->f8 (.int .i64 x)=f (.int .i64 x)) (ja:own' mi/\mi≠b/\mi≠mo/\mi<w8.heap.size) (hmx:∀x:Int,x≠id->f (.int .i64 x)≠some (.map (some mi)))
 (hK:KAt w8 own' C' mi (N+1) (o5 (M++[(id,q)]) id)) (hm:Mod (fun k=>k=mi\/k=mo) w w8) (ho1:∀k,own k->own' k) (ho2:∀k,own' k->own k\/k=mi) (hmo:mi<w.heap.size->own mi)
 (WF:∀k,C k->C' k) (hC2:∀k,C' k->k<w8.heap.size) (hd:∀k,own' k->¬C' k) (hwf:(Lit.int .i64 id).wf=true/\q.2.length<=19/\∀c∈q.2,c.fits) (hsc:q.1.size<=1000000):a0e w8 b mo own' C' (M++[(id,q)]) (N+1):=by
 have QJ:∀k,k<w.heap.size->(k=mi\/k=mo)->¬C k:=fun k hk hf=>by
  rcases hf with rfl|rfl
  ·exact h.dis _ (hmo hk)
  exact h.dis _ h.ob.2
 refine ⟨hm.heap h.row (fun hf=> ?_),⟨ho1 _ h.ob.1,ho1 _ h.ob.2⟩,h.ne,⟨n8,f8,hO,Ce,fun x=> ?_,fun x y m hx hy=> ?_⟩, ?_, ?_,hd,fun k hk=> ?_,hC2,fun p hp=> ?_,fun p hp=> ?_⟩
 ·rcases hf with hf|hf
  ·exact ja.2.1 hf.symm
  exact h.ne hf
 ·by_cases e:x=id
  ·subst e;rw [oW];exact ⟨mi,rfl,ja.1,ja.2.1,ja.2.2.1,hK⟩
  rw [hfx x e];have h1:=(hf1 x).mod hm (fun m hm' hf=> ?_) QJ
  ·refine h1.cong (fun k hk hC ho=> ?_) ho1 WF (Nat.le_succ N) (fun k=> ?_)
   ·rcases ho2 k ho with h2|h2
    ·exact h2
    exact absurd (WF k hC) (hd k ho)
   rw [a30 hq,if_neg (fun h=>e h.1)]
  rcases hf with hf|hf
  ·subst hf;exact hmx x e hm'
  subst hf;have h2:=hf1 x;rw [hm'] at h2;obtain ⟨m',e', -, -,h3, -⟩:=h2;cases e'
  exact h3 rfl
 ·by_cases ex:x=id<;>by_cases ey:y=id
  ·rw [ex,ey]
  ·subst ex;rw [oW] at hx;cases hx
   rw [hfx y ey] at hy;exact absurd hy (hmx y ey)
  ·subst ey;rw [oW] at hy;cases hy
   rw [hfx x ex] at hx;exact absurd hx (hmx x ex)
  rw [hfx x ex] at hx;rw [hfx y ey] at hy;exact hf2 x y m hx hy
 ·rw [List.pairwise_append];refine ⟨h.nd,List.pairwise_singleton _ _,fun p hp r hr e=> ?_⟩;obtain rfl:r=(id,q):=by simpa using hr
  obtain ⟨x,p⟩:=p;obtain ⟨rfl,e2⟩:=e;exact a2j hq p hp e2
 ·rw [zz4];have:=h.low;simp;omega
 ·rcases ho2 k hk with h1|rfl
  ·exact zz13 (h.olow k h1) hm.size
  exact ja.2.2.2
 ·rcases zz14 hp with hp|hp
  ·exact h.wf p hp
  obtain rfl:p=(id,q):=by simpa using hp
  exact hwf
 rcases zz14 hp with hp|hp
 ·exact h.sc p hp
 obtain rfl:p=(id,q):=by simpa using hp
 exact hsc
theorem Q6 (w:World):(zeroValue 142).run Tryz.prog w= .ok (.map none) w:=zk
theorem X5 (k:List UInt8) (hk:k.length<=maxLen):keyOf Tryz.prog 9 (.string (str k))=some (.string k):=by
 have h:=WideMaps.keyOf_string_mk (s:=str k) Tryz.underlying9 (by simpa [str,ByteArray.size] using hk);simpa [str] using h
theorem a9E {w:World} {own C:Nat->Prop} {b mo N:Nat} {g:List UInt8->Option Fil} {v:Option Value} (h:a3b w own C b mo N g v) (k:List UInt8) (hk:k.length<=maxLen):
 ∃s a n c,(Instr.lookup 142 (v.getD (.map none)) (.string (str k)) true).run Tryz.prog w= .ok (.tuple #[.agg #[.string s,.slice a n c],.bool (g k).isSome]) w:=by
 cases v with
 |none=>
  refine ⟨⟨#[]⟩,none,0,0, ?_⟩;rw [h k];simpa using Maps.look_nil (w:=w) true r6 Tryz.underlying142 (D5 w) (X5 k hk)
 | some v=>
  obtain ⟨mi,rfl, -, -, -,n,f,h1, -,h2⟩:=h;have h3:=h1.look_ok r6 Tryz.underlying142 (D5 w) (X5 k hk);have h4:=h2 k;cases hf:f (.string k)<;>cases hg:g k<;>rw [hf,hg] at h4
  ·rw [hf] at h3;exact ⟨_,_,_,_,h3⟩
  ·exact h4.elim
  ·exact h4.elim
  obtain ⟨a,cap,rfl, -⟩:=h4;rw [hf] at h3;exact ⟨_,_,_,_,h3⟩
theorem a3b.val {w:World} {own C:Nat->Prop} {b mo N:Nat} {g:List UInt8->Option Fil} {v:Option Value} (h:a3b w own C b mo N g v):
 (v=none/\v.getD (.map none)= .map none/\∀k,g k=none)\/∃mi,v=some (.map (some mi))/\v.getD (.map none)= .map (some mi)/\own mi/\mi≠b/\mi≠mo/\KAt w own C mi N g:=by
 cases v with
 |none=>exact .inl ⟨rfl,rfl,h⟩
 |some v=>
  obtain ⟨mi,rfl,h⟩:=h;exact .inr ⟨mi,rfl,rfl,h⟩
theorem a9F {w w6:World} {own own' C C':Nat->Prop} {mi N n:Nat} {g g':List UInt8->Option Fil} {fi:Lit->Option Value} {key:List UInt8} {v:Value} {q:Fil} (h2:n<=N) (h3:∀k,D4 w own C (fi (.string k)) (g k))
 (h6:p6 w6 9 mi (if (fi (.string key)).isSome then n else n+1) (P5 fi (.string key) v)) (hm:Mod (fun k=>k=mi) w w6) (ja:¬C mi) (hq:D4 w6 own' C' (some v) (some q))
 (ho:∀k,k<w.heap.size->C k->own' k->own k) (hC:∀k,C k->C' k) (hg:∀k,g' k=if k=key then some q else g k):KAt w6 own' C' mi (N+1) g':=by
 refine ⟨_,_,h6,by split<;>omega,fun k=> ?_⟩;rw [hg];unfold P5;by_cases e:k=key
 ·rw [if_pos e,if_pos (by rw [e])];exact hq
 rw [if_neg e,if_neg (fun h=>e (Lit.string.inj h))];have h4:=(h3 k).mod2 hm (fun k _ e h=>ja (e▸h));have h5:=h3 k;cases hf:fi (.string k)<;>cases hk:g k<;>rw [hf,hk] at h4 h5
 ·trivial
 ·exact h4
 ·exact h4
 obtain ⟨a,cap,e1,e2,e3⟩:=h4;obtain ⟨a',cap',e1', -,e3'⟩:=h5;rw [e1] at e1';cases e1'
 exact ⟨a,cap,e1,e2,fun k hk=>⟨(e3 k hk).1,fun h=>(e3 k hk).2.1 (ho k (e3' k hk).1 (e3 k hk).2.2 h),hC k (e3 k hk).2.2⟩⟩
def b4D (b mo mi bx:Nat) (id:Int) (sc:ByteArray) (na:Option Addr) (n nc:Nat) (y:World):Prop:=
 y.cell? ⟨b,0,none⟩=some (.map (some mo))/\y.cell? ⟨bx,0,none⟩=some (.string sc)/\y.cell? ⟨bx,1,none⟩=some (.slice na n nc)/\(Instr.lookup 92 (.map (some mo)) (.int .i64 id) false).run Tryz.prog y= .ok (.map (some mi)) y
theorem b4E (bm:Nat) (w:World):(binOp .eql 142 (.map (some bm)) (.map none)).run Tryz.prog w= .ok (.bool false) w:=zk
theorem b5X (w:World):(binOp .eql 142 (.map none) (.map none)).run Tryz.prog w= .ok (.bool true) w:=zk
attribute [local go_sem] b4E b5X
theorem b4F (w0 w:World) (hl:N8 w0 w) (b:Nat) (own C:Nat->Prop) (M:List (Int×Fil)) (N:Nat) (h:Tab w b own C M N) (hN:N<=100000) (hown:∀k,own k->w0.heap.size<=k) (id:Int) (hid:(Lit.int .i64 id).wf=true)
 (sc:ByteArray) (cv:Value) (l:List Cnd) (hv:j3 w 7 cv l.length (m5 l)) (hll:l.length<20) (hcs:∀c∈l,c.fits) (hsc:sc.size<=1000000):
 Calls Tryz.prog 28 #[.pointer (some ⟨b,0,none⟩),.int .i64 id,.agg #[.string sc,cv]] w (b2A w b own C M N id (sc,j4 l)):=by
 obtain ⟨mo,h⟩:=h;obtain ⟨a,cap,rfl,hcap⟩:∃a c,cv= .slice a l.length c/\l.length<=c:=by obtain ⟨-,a,c,h,h2, -⟩:=hv;exact ⟨a,c,h,h2⟩
 obtain ⟨nl,hnl⟩:∃nl,j4 l=nl:=⟨_,rfl⟩;rw [hnl];obtain ⟨wa,aD,ah,ae,au⟩:=g8 w (.cells #[.string sc,.slice a l.length cap] 26);have hva:=hv.mod ah zi;have hnm:=Y7 w0 wa (hl.mod0 ah) sc (.slice a l.length cap) l hva hll hcs;rw [hnl] at hnm;have c0:wa.cell? ⟨w.heap.size,0,none⟩=some (.string sc):=d6 ae rfl;have c1:wa.cell? ⟨w.heap.size,1,none⟩=some (.slice a l.length cap):=d6 ae rfl;have nJ:nl.length<20:=by rw [<-hnl];exact Nat.lt_of_le_of_lt (D9 l) hll
 have hnf:∀c∈nl,c.fits:=by rw [<-hnl];exact G6 hcs
 obtain ⟨key,hkey⟩:∃key,q6 sc nl=key:=⟨_,rfl⟩;have hkl:key.length<=1000000000:=by have:=J8 sc nl hnf;rw [hkey] at this;omega
 have Jg:j5 (sc,nl)=key:=hkey;obtain ⟨Hl,H,Hv,dC,gY,aF,aB,aH,ik,aZ,Hid,yZ⟩:=zh12 hl h hv hva hcs aD ah ae hnm hown hid hnf;obtain ⟨fO,vo,Hnl⟩:=zh3 hkey Jg hnl;clear hl h hv hva hcs aD ah ae hnm hown hid hnf hkey Jg hnl au
 go_enter Tryz.func28,Tryz.ntmps28
 go_wp2_with (rw [show w.alloc _=wa from aF.out])
 refine ik.out.mono ?_;rintro e w2 ⟨na,nc,rfl,hno,hnb,hm2⟩;have hg2:=hm2.heap aH.out (fun h=>h);have aG:=aB.out.trans hm2 zi;obtain ⟨Hno,gM,bq,uR,aI⟩:=zh5 hno hnb hm2 hg2 aG;clear hno hnb hm2 hg2 aG c0 c1
 go_wp2_with ((with_reducible refine j9 26 (.tmp 5) (.tmp 11) ?_);refine ⟨w.heap.size,rfl,_,_,uR.out,[.string sc,.slice na nl.length nc],rfl,rfl,zk,rfl, ?_⟩;intro w3 hg3 fP;have k0:w3.cell? ⟨w.heap.size,0,none⟩=some (.string sc):=d6 hg3 rfl;have k1:w3.cell? ⟨w.heap.size,1,none⟩=some (.slice na nl.length nc):=d6 hg3 rfl;have gm:=Lib.hid hg3;have jD:=Lib.hid fP;clear hg3 fP)
 have hsz:w.heap.size<wa.heap.size:=(zz7 aH.out).1;have Ci:=Hno.out.mod jD.out (fun k hk e=>by have h1:=gM.out k hk;have h2:k=w.heap.size:=e;omega);have hl3:N8 w0 w3:=(Hl.out.mod0 aI.out).mod jD.out (fun k hk e=>by have h1:=Hl.out.size;have h2:k=w.heap.size:=e;omega);have hpr:=a2e w0 w3 hl3 sc (.slice na nl.length nc) nl Ci.rd zo hsc yZ.out;rw [fO.out] at hpr;obtain ⟨QK,Hl3,u7⟩:=zh3 Ci hl3 hpr;clear Ci hl3 hpr
 go_wp2_with fail
 refine u7.out.mono ?_;rintro e w4 ⟨rfl,aR⟩;have dZ:Mod (fun k=>k=w.heap.size) w w4:=((aI.out.mono (G:=fun k=>k=w.heap.size) (fun _ _ h=>h.elim)).trans jD.out zi).trans (aR.mono (G:=fun k=>k=w.heap.size) (fun _ _ h=>h.elim)) zi;have hg4:=aR.heap gm.out (fun h=>h);have mD:=H.out.mod dZ (fun k hk e=>by have h2:k=w.heap.size:=e;omega);have Cj:=QK.out.mod aR zi;obtain ⟨n,f,hf1,hf2,hf3,nN⟩:=mD.om;have hlk:=hf1.look r5 Tryz.underlying92 (Q6 w4) (Maps.keyOf_int_mk Tryz.underlying3 Hid.out);obtain ⟨s,fa,fn,fc,hlk2⟩:=a9E (hf3 id) key (by unfold maxLen;omega);obtain ⟨ok,hok⟩:∃ok,(o5 M id key).isSome=ok:=⟨_,rfl⟩;rw [hok] at hlk2;have b0:w4.cell? ⟨b,0,none⟩=some (.map (some mo)):=d6 mD.row rfl;obtain ⟨w5,gN,ed,rM,Cm⟩:=g8 w4 (.cells #[.string s,.slice fa fn fc] 26);have Jh:=ed;have Cn:=mD.mod ed (fun _ _ h=>h.elim);have hg5:=ed.heap hg4 (fun h=>h);have e0:w5.cell? ⟨w.heap.size,0,none⟩=some (.string sc):=d6 hg5 rfl;have e1:w5.cell? ⟨w.heap.size,1,none⟩=some (.slice na nl.length nc):=d6 hg5 rfl;have b5:w5.cell? ⟨b,0,none⟩=some (.map (some mo)):=d6 Cn.row rfl;have jI:=Cj.mod ed zi;have hv5:=fun x=>(hf3 x).mod ed zi (fun _ _ h=>h.elim);have gH:=hf1.mod ed (fun h=>h);have Co:=gH.look r5 Tryz.underlying92 (Q6 w5) (Maps.keyOf_int_mk Tryz.underlying3 Hid.out);have hval:=(hv5 id).val;obtain ⟨vv,hvv⟩:∃vv,(f (.int .i64 id)).getD (.map none)=vv:=⟨_,rfl⟩;rw [hvv] at hlk hlk2 Co hval;have bH:Mod (fun k=>k=w.heap.size) w w5:=dZ.trans (ed.mono (fun _ _ h=>h.elim)) zi;have zA:Mod (fun _=>False) w w5:=(Mod.refl (fun _=>False) w).upon bH (fun k hk=> .inr (Nat.le_of_eq (Eq.symm hk)));have rO:∀k,(Value.slice na nl.length nc).ownBlock=some k->w.heap.size<=k/\k<w5.heap.size:=fun k hk=>⟨by have h1:=gM.out k hk;have h2:=aB.out.size;omega,jI.lt k hk⟩;obtain ⟨b7q,xx,je,oZ,Cq,mE,xy,uQ,bO,rP,fT,Ht4⟩:=zh12 Jh Cn hg5 jI hv5 gH hval hvv bH zA rO mD;obtain ⟨GY,b7r,Hf1,lL,Cr,xg,dN,qW,QL,QM,qA,eP⟩:=zh12 hg4 Cj hf1 hf2 hf3 nN aR dZ ed rM gN hok;clear Jh Cn hg5 jI hv5 gH hval hvv bH zA rO mD hg4 Cj hf1 hf2 hf3 nN aR dZ ed rM gN hok Cm k0 k1;have hkx:=Maps.keyOf_int_mk Tryz.underlying3 Hid.out;have b7s:w.heap.size<w5.heap.size:=(zz7 je.out).1;have QN:mo<w.heap.size:=H.out.olow _ H.out.ob.2;have hbw:b<w.heap.size:=H.out.olow _ H.out.ob.1
 cases ok with
 |true=>
  go_wp2_with ((with_reducible refine d9 26 (.tmp 8) (.tmp 23) ?_);refine ⟨rfl,[.string s,.slice fa fn fc],rfl,rfl,zk,rfl, ?_⟩;rw [qA.out])
  go_ret;refine .inl ⟨fun h=> ?_,rfl,rP.out⟩;have h1:=eP.out;rw [vo.out] at h;rw [h] at h1;cases h1
 | false=>
  have nI:o5 M id key=none:=by
   have h1:=eP.out
   cases h2:o5 M id key with
   |none=>rfl
   |some q=>rw [h2] at h1;cases h1
  rcases xy.out with ⟨hfn,rfl,hgn⟩|⟨mi,hfn,rfl,jJ,xz,rQ,Ji⟩
  ·obtain ⟨w6,jc,bL,dR,jd⟩:=g8 w5 (.map #[] 0);have lS:=mE.out.mod bL (fun h=>h);have WG:p6 w6 9 w5.heap.size 0 (fun _=>none):=jc▸p6.made w5 9;obtain ⟨uZ,vw,Hgn,oQ,Jj,kP,zB,HI6,Jk⟩:=zh9 nI hfn hgn jc bL dR lS WG hkx;clear nI hfn hgn jc bL dR lS WG hkx jd
   go_wp2_with (first|((with_reducible refine d9 26 (.tmp 8) (.tmp 23) ?_);refine ⟨rfl,[.string s,.slice fa fn fc],rfl,rfl,zk,rfl, ?_⟩;rw [qA.out])|(rw [show w5.alloc _=w6 from oQ.out])|((with_reducible refine P6 92 (.tmp 36) (.tmp 37) (.tmp 38) ?_);refine ⟨3,142,mo,n,f,.int .i64 id,zB.out,r5,Tryz.underlying92,by unfold maxLen;have:=lL.out;omega,rfl,Jk.out, ?_⟩;intro w7 Cs bu;have xA:=Lib.hid Cs;have nQ:=Lib.hid bu;clear Cs bu))
   have rR:Mod (fun k=>k=mo) w5 w7:=(Jj.out.mono (fun _ _ h=>h.elim)).trans nQ.out zi;have iI:=HI6.out.mod nQ.out (fun h=>by have h1:w5.heap.size=mo:=h;omega);have hd7:Mod (fun _=>False) w7 w7.drew:=(Mod.refl _ _).drew;have Ct:=(xA.out.mod hd7 (fun h=>h)).look r5 Tryz.underlying92 (Q6 w7.drew) Jk.out;have gK:P5 f (.int .i64 id) (.map (some w5.heap.size)) (.int .i64 id)=some (.map (some w5.heap.size)):=by unfold P5;rw [if_pos rfl]
   have hS:b4D b mo w5.heap.size w.heap.size id sc na nl.length nc w7.drew:=by
    refine ⟨(rR.cell b5 H.out.ne),rR.cell e0 (fun h=>by have h1:w.heap.size=mo:=h;omega),rR.cell e1 (fun h=>by have h1:w.heap.size=mo:=h;omega), ?_⟩;rw [Ct];show Result.ok ((P5 f (.int .i64 id) (.map (some w5.heap.size)) (.int .i64 id)).getD (.map none)) w7.drew=_;rw [gK];rfl
   have Jl:=iI.mod hd7 (fun h=>h);obtain ⟨QO,Jm,Hd7,b7t,uP,QP⟩:=zh6 rR iI hd7 Ct gK Jl;clear rR iI hd7 Ct gK Jl;refine i8 [.rd 0,.rd 1,.rd 2,.rd 3,.rd 4,.rd 5,.rd 6,.rd 7,.go 8] [0,1,2,3,4,5,6,7] (b4D b mo w5.heap.size w.heap.size id sc na nl.length nc) zk zk (fun _ _ d _ _ h=>(by cases d<;>exact h)) ?_
   iterate 8 (
    refine n4 rfl ?_ (fun _=>hS) ?_ (fun w0 h0=> ?_) (fun K hK=> ?_)
    ·exact zg
    rotate_left
    ·(try simp only [zz1,zz2,zz3])
     first
      |(obtain ⟨f0,f1,f2,f3⟩:=h0 rfl;clear h0;go_simp;with_reducible rfl)
      |(clear h0;go_simp;with_reducible rfl)
    (try simp only [zz1,zz2,zz3])
    go_simp;refine hK _ ?_;clear hK K)
   refine i6 (j0 rfl ?_ (fun K hK=> ?_))
   ·exact zg
   (try simp only [zz1,zz2,zz3]);refine a3p 142 _ _ _ rfl ?_;refine ⟨9,26,w5.heap.size,0,(fun _=>none),.string key,QP.out,r6,Tryz.underlying142,by unfold maxLen;omega,rfl,X5 key (by unfold maxLen;omega), ?_⟩;intro w8 Cu dE;refine hK _ _ (fun h=>absurd h zd) ?_;clear hK K hS;refine m6 ?_;have rT:=Hd7.out.mono (G:=fun k=>k=w5.heap.size) (fun _ _ h=>h.elim)|>.trans dE zi;have eX:Mod (fun k=>k=w5.heap.size\/k=mo) w5 w8:=(QO.out.mono (fun _ _ h=> .inr h)).trans (rT.mono (fun _ _ h=> .inl h)) (fun _ _ h=>h)
   have mF:=oZ.out.mod eX (fun k hk h=>by
    have h1:=fT.out k hk
    rcases h with h|h<;>omega)
   have lT:=xA.out.mod rT (fun h=>by have h1:mo=w5.heap.size:=h;omega);have pq:=eX.size;have hw8:w5.heap.size<w8.heap.size:=zz13 Jm.out.lt rT.size;have hqk:o5 M id (j5 (sc,nl))=none:=by rw [vo.out];exact uZ.out
   have rU:KAt w8 (fun k=>own k\/k=w5.heap.size) (fun k=>C k\/(Value.slice na nl.length nc).ownBlock=some k) w5.heap.size (N+1) (o5 (M++[(id,(sc,nl))]) id):=
    a9F (w:=w7.drew) (own:=own) (C:=C) (N:=N) (n:=0) (g:=o5 M id) (fi:=fun _=>none) (key:=key) (q:=(sc,nl)) (Nat.zero_le _) (fun k=>by rw [Hgn.out k];trivial) Cu dE
     (fun h=>by have:=xx.out.clow _ h;omega) ⟨na,nc,rfl,mF,fun k hk=>⟨zz13 (fT.out k hk).2 pq,fun h=>by
       have h1:=fT.out k hk;rcases h with h|h
       ·have:=H.out.olow _ h;omega
       ·omega,.inr hk⟩⟩ (fun k hk hc h=>h.elim (fun h=>h) fun e=>by have:=xx.out.clow _ hc;omega) (fun _=> .inl) (fun k=>by rw [a30 hqk,vo.out];simp)
   have hT:=a9D (w:=w5) (w8:=w8) (mi:=w5.heap.size) (own':=fun k=>own k\/k=w5.heap.size) (C':=fun k=>C k\/(Value.slice na nl.length nc).ownBlock=some k) xx.out Cq.out xg.out hqk lT (by have:=lL.out;split<;>omega) uP.out
    (fun x hx=>by unfold P5;rw [if_neg (fun h=>hx (by cases h;rfl))]) ⟨.inr rfl,zo,zo,hw8⟩ (fun x _ h=>by
      have h1:=Cq.out x;rw [h] at h1;obtain ⟨mi,e, -, -, -,h2⟩:=h1;cases e
      exact absurd h2.lt (Nat.lt_irrefl _)) rU eX (fun _=> .inl) (fun _ h=>h) (fun h=>absurd h (Nat.lt_irrefl _)) (fun _=> .inl)
    (fun k h=>h.elim (fun h=>zz13 (xx.out.clow _ h) pq) (fun h=>zz13 (fT.out k h).2 pq)) (fun k h1 h2=>by
      rcases h1 with h1|h1<;>rcases h2 with h2|h2
      ·exact H.out.dis _ h1 h2
      ·have:=H.out.olow _ h1;have:=fT.out k h2;omega
      ·have:=xx.out.clow _ h2;omega
      ·have:=fT.out k h2;omega) ⟨Hid.out,Nat.le_of_lt_succ nJ,yZ.out⟩ hsc
   have kU:Mod own w w8:=(rP.out.mono (fun _ _ h=>h.elim)).trans eX (fun k hk h=>by
    rcases h with h|h
    ·omega
    ·rw [h];exact H.out.ob.2)
   obtain ⟨HT,rV,b7u,QQ,QR,FC,WH,HM8,Cv,FD⟩:=zh10 hT kU rT eX mF lT rU Cu dE hqk;clear hT kU rT eX mF lT rU Cu dE hqk
   go_wp2_with fail
   go_ret;exact .inr ⟨FD.out,rfl,_,_,⟨mo,HT.out⟩,fun _=> .inl,fun k h=>h.elim .inl (fun e=> .inr zo),fun k h=>h.elim .inl (fun h=> .inr (fT.out k h).1),rV.out⟩
  obtain ⟨ni,fi,hi1,hi2,hi3⟩:=Ji;have hd5:Mod (fun _=>False) w5 w5.drew:=(Mod.refl _ _).drew;have xB:=(mE.out.mod hd5 (fun h=>h)).look r5 Tryz.underlying92 (Q6 w5.drew) hkx;rw [uQ.out] at xB;have hS:b4D b mo mi w.heap.size id sc na nl.length nc w5.drew:=⟨b5,e0,e1,xB⟩;have Jn:=hi1.mod hd5 (fun h=>h);have WI:=hi1.lt;have QS:mi<w.heap.size:=H.out.olow _ jJ;obtain ⟨uZ,vw,rW,yT,qy,NN,Hd5,b7v,QT,Jk⟩:=zh10 nI hfn jJ hi1 hi2 hi3 hd5 xB Jn hkx;clear nI hfn jJ hi1 hi2 hi3 hd5 xB Jn hkx
  go_wp2_with ((with_reducible refine d9 26 (.tmp 8) (.tmp 23) ?_);refine ⟨rfl,[.string s,.slice fa fn fc],rfl,rfl,zk,rfl, ?_⟩;rw [qA.out])
  refine i8 [.rd 0,.rd 1,.rd 2,.rd 3,.rd 4,.rd 5,.rd 6,.rd 7,.go 8] [0,1,2,3,4,5,6,7] (b4D b mo mi w.heap.size id sc na nl.length nc) zk zk (fun _ _ d _ _ h=>(by cases d<;>exact h)) ?_
  iterate 8 (
   refine n4 rfl ?_ (fun _=>hS) ?_ (fun w0 h0=> ?_) (fun K hK=> ?_)
   ·exact zg
   rotate_left
   ·(try simp only [zz1,zz2,zz3])
    first
     |(obtain ⟨f0,f1,f2,f3⟩:=h0 rfl;clear h0;go_simp;with_reducible rfl)
     |(clear h0;go_simp;with_reducible rfl)
   (try simp only [zz1,zz2,zz3])
   go_simp;refine hK _ ?_;clear hK K)
  refine i6 (j0 rfl ?_ (fun K hK=> ?_))
  ·exact zg
  (try simp only [zz1,zz2,zz3]);refine a3p 142 _ _ _ rfl ?_;refine ⟨9,26,mi,ni,fi,.string key,QT.out,r6,Tryz.underlying142,by unfold maxLen;have:=qy.out;omega,rfl,X5 key (by unfold maxLen;omega), ?_⟩;intro w8 Cu dE;refine hK _ _ (fun h=>absurd h zd) ?_;clear hK K hS;refine m6 ?_;have eX:Mod (fun k=>k=mi) w5 w8:=(Hd5.out.mono (fun _ _ h=>h.elim)).trans dE zi;have rX:Mod (fun k=>k=mi\/k=mo) w5 w8:=eX.mono (fun _ _ h=> .inl h)
  have mF:=oZ.out.mod eX (fun k hk h=>by
   have h1:=fT.out k hk;have h2:k=mi:=h
   omega)
  have lT:=mE.out.mod eX (fun h=>rQ h.symm);have pq:=eX.size;have hqk:o5 M id (j5 (sc,nl))=none:=by rw [vo.out];exact uZ.out
  have rU:KAt w8 own (fun k=>C k\/(Value.slice na nl.length nc).ownBlock=some k) mi (N+1) (o5 (M++[(id,(sc,nl))]) id):=
   a9F (w:=w5) (own:=own) (C:=C) (N:=N) (n:=ni) (g:=o5 M id) (fi:=fi) (key:=key) (q:=(sc,nl)) qy.out NN.out Cu eX
    (H.out.dis _ rW.out) ⟨na,nc,rfl,mF,fun k hk=>⟨zz13 (fT.out k hk).2 pq,fun h=>by
      have h1:=fT.out k hk;have:=H.out.olow _ h
      omega,.inr hk⟩⟩ (fun k hk hc h=>h) (fun _=> .inl) (fun k=>by rw [a30 hqk,vo.out];simp)
  have hT:=a9D (w:=w5) (w8:=w8) (mi:=mi) (own':=own) (C':=fun k=>C k\/(Value.slice na nl.length nc).ownBlock=some k) xx.out Cq.out xg.out hqk lT (by have:=lL.out;omega) vw.out
   (fun x hx=>rfl) ⟨rW.out,xz,rQ,zo⟩ (fun x hx h=>hx (xg.out x id mi h vw.out)) rU rX (fun _ h=>h) (fun _ h=> .inl h) (fun _=>rW.out) (fun _=> .inl)
   (fun k h=>h.elim (fun h=>zz13 (xx.out.clow _ h) pq) (fun h=>zz13 (fT.out k h).2 pq)) (fun k h1 h2=>by
     rcases h2 with h2|h2
     ·exact H.out.dis _ h1 h2
     ·have:=H.out.olow _ h1;have:=fT.out k h2;omega) ⟨Hid.out,Nat.le_of_lt_succ nJ,yZ.out⟩ hsc
  have kU:Mod own w w8:=(rP.out.mono (fun _ _ h=>h.elim)).trans eX (fun k hk h=>by
   have h2:k=mi:=h
   rw [h2];exact rW.out)
  obtain ⟨HT,rV,QQ,WJ,QR,FC,WH,HM8,Cv,FD⟩:=zh10 hT kU eX rX mF lT rU Cu dE hqk;clear hT kU eX rX mF lT rU Cu dE hqk
  go_wp2_with fail
  go_ret;exact .inr ⟨FD.out,rfl,_,_,⟨mo,HT.out⟩,fun _ h=>h,fun k h=> .inl h,fun k h=>h.elim .inl (fun h=> .inr (fT.out k h).1),rV.out⟩
end
section
open Go.RowKit
theorem a0e.cong {w:World} {b mo:Nat} {own own' C C':Nat->Prop} {M:List (Int×Fil)} {N:Nat} (h:a0e w b mo own C M N) (h1:∀k,own k->own' k) (h2:∀k,C k->C' k) (h3:∀k,own' k->¬C' k) (h4:∀k,own' k->k<w.heap.size) (h5:∀k,C' k->k<w.heap.size) (h6:∀k,C k->own' k->own k):a0e w b mo own' C' M N:=by
 refine ⟨h.row,⟨h1 _ h.ob.1,h1 _ h.ob.2⟩,h.ne, ?_,h.nd,h.low,h3,h4,h5,h.wf,h.sc⟩;obtain ⟨n,f,g1,g2,g3,g4⟩:=h.om;exact ⟨n,f,g1,g2,fun id=>(g3 id).cong (fun k _ hc ho=>h6 k hc ho) h1 h2 (Nat.le_refl _) (fun _=>rfl),g4⟩
theorem Tab.cong {w:World} {b:Nat} {own own' C C':Nat->Prop} {M:List (Int×Fil)} {N:Nat} (h:Tab w b own C M N) (h1:∀k,own k->own' k) (h2:∀k,C k->C' k) (h3:∀k,own' k->¬C' k) (h4:∀k,own' k->k<w.heap.size) (h5:∀k,C' k->k<w.heap.size):Tab w b own' C' M N:=by
 obtain ⟨mo,h⟩:=h;exact ⟨mo,h.cong h1 h2 h3 h4 h5 (fun k hc ho=>absurd (h2 k hc) (h3 k ho))⟩
def I3 (w:World) (ow:Ow) (c b:Nat) (M:List (Int×Fil)) (N:Nat):Prop:=Tab w b (fun k=>ow k=c) (fun k=>ow k=0/\k<w.heap.size) M N
theorem I3.mov {F:Nat->Prop} {w0 w w':World} {ow ow':Ow} {c b:Nat} {M:List (Int×Fil)} {N:Nat} (h:I3 w ow c b M N) (hw:Owd w0 w ow) (s:Mov F w ow w' ow') (h0:¬F 0) (hc:¬F c) (h2:2<=c):I3 w' ow' c b M N:=by
 have h1:Tab w' b (fun k=>ow k=c) (fun k=>ow k=0/\k<w.heap.size) M N:=Tab.mod h s.md (fun k _ hf=>by
  have hf':F (ow k):=hf
  exact ⟨fun e=>hc (by rw [<-e];exact hf'),fun e=>h0 (by rw [<-e.1];exact hf')⟩)
 refine h1.cong (fun k hk=> ?_) (fun k hk=> ?_) (fun k hk hk2=> ?_) (fun k hk=> ?_) (fun k hk=>hk.2)
 ·have hk':ow k=c:=hk;show ow' k=c;rw [s.old k (hw.hi k zo)];exact hk'
 ·exact ⟨by rw [s.old k hk.2];exact hk.1,zz13 hk.2 s.md.size⟩
 ·have hk':ow' k=c:=hk;have:=hk2.1;omega
 have hk':ow' k=c:=hk;by_cases hl:k<w'.heap.size
 ·exact hl
 rw [s.top k zo] at hk';omega
theorem I3.new {w0 w w':World} {ow:Ow} {c b:Nat} {own' C':Nat->Prop} {M:List (Int×Fil)} {N:Nat} (hw:Owd w0 w ow) (h2:2<=c) (h:Tab w' b own' C' M N) (ho:∀k,own' k->ow k=c\/w.heap.size<=k)
 (hC:∀k,C' k->(ow k=0/\k<w.heap.size)\/w.heap.size<=k) (hm:Mod (fun k=>ow k=c) w w'):I3 w' (s6 w w' ow own' C' c) c b M N:=by
 have hl:=h.low;obtain ⟨mo,hat⟩:=h;have hd:=hat.dis;refine Tab.cong (own:=own') (C:=C') ⟨mo,hat⟩ (fun k hk=> ?_) (fun k hk=> ?_) (fun k hk hk2=> ?_) (fun k hk=> ?_) (fun k hk=>hk.2)
 ·show s6 w w' ow own' C' c k=c;rcases ho k hk with e|e
  ·rw [p9 (hw.hi k zo)];exact e
  exact G7 e (hl.1 k hk) hk
 ·refine ⟨?_,hl.2 k hk⟩;rcases hC k hk with e|e
  ·rw [p9 e.2];exact e.1
  exact a1H e (hl.2 k hk) (fun ho=>hd k ho hk) hk
 ·have hk':s6 w w' ow own' C' c k=c:=hk;have:=hk2.1;omega
 have hk':s6 w w' ow own' C' c k=c:=hk;by_cases e:k<w.heap.size
 ·exact zz13 e hm.size
 exact (a43 zo hk' h2).2
theorem W9.cong {w:World} {b m1 m2:Nat} {own own' C C':Nat->Prop} {I:List (Int×Fil)} {T:Nat} (h:W9 w b m1 m2 own C I T) (h1:∀k,own k->own' k) (h2:∀k,C k->C' k) (h3:∀k,own' k->¬C' k) (h4:∀k,own' k->k<w.heap.size) (h5:∀k,C' k->k<w.heap.size):W9 w b m1 m2 own' C' I T:=by
 refine ⟨h.row,h.nd,⟨h1 _ h.ob.1,h1 _ h.ob.2.1,h1 _ h.ob.2.2⟩,h.ne, ?_,h.pm.cong (fun k _ hk=>h1 k hk) (fun _ _=>rfl) (Nat.le_refl _),h.low,h4,h5,h.wf,h.sc⟩;obtain ⟨f,g1,g2⟩:=h.fm;exact ⟨f,g1,fun id=>(g2 id).cong (fun k _ hc ho=>absurd (h2 k hc) (h3 k ho)) h2⟩
def a03 (w:World) (ow:Ow) (c b:Nat) (I:List (Int×Fil)) (T:Nat):Prop:=Idx w b (fun k=>ow k=c) (fun k=>ow k=0/\k<w.heap.size) I T
theorem a03.mov {F:Nat->Prop} {w0 w w':World} {ow ow':Ow} {c b:Nat} {I:List (Int×Fil)} {T:Nat} (h:a03 w ow c b I T) (hw:Owd w0 w ow) (s:Mov F w ow w' ow') (h0:¬F 0) (hc:¬F c) (h2:2<=c):a03 w' ow' c b I T:=by
 have h1:Idx w' b (fun k=>ow k=c) (fun k=>ow k=0/\k<w.heap.size) I T:=Idx.mod2 h s.md (fun k _ hf=>by
  have hf':F (ow k):=hf
  exact ⟨fun e=>hc (by rw [<-e];exact hf'),fun e=>h0 (by rw [<-e.1];exact hf')⟩)
 obtain ⟨m1,m2,h1⟩:=h1;refine ⟨m1,m2,h1.cong (fun k hk=> ?_) (fun k hk=> ?_) (fun k hk hk2=> ?_) (fun k hk=> ?_) (fun k hk=>hk.2)⟩
 ·have hk':ow k=c:=hk;show ow' k=c;rw [s.old k (hw.hi k zo)];exact hk'
 ·exact ⟨by rw [s.old k hk.2];exact hk.1,zz13 hk.2 s.md.size⟩
 ·have hk':ow' k=c:=hk;have:=hk2.1;omega
 have hk':ow' k=c:=hk;by_cases hl:k<w'.heap.size
 ·exact hl
 rw [s.top k zo] at hk';omega
theorem a03.new {w0 w w':World} {ow:Ow} {c b:Nat} {own' C':Nat->Prop} {I:List (Int×Fil)} {T:Nat} (hw:Owd w0 w ow) (h2:2<=c) (h:Idx w' b own' C' I T) (ho:∀k,own' k->ow k=c\/w.heap.size<=k) (hd:∀k,own' k->¬C' k)
 (hC:∀k,C' k->(ow k=0/\k<w.heap.size)\/w.heap.size<=k) (hm:Mod (fun k=>ow k=c) w w'):a03 w' (s6 w w' ow own' C' c) c b I T:=by
 have hl:=h.low;obtain ⟨m1,m2,hat⟩:=h;refine ⟨m1,m2,hat.cong (fun k hk=> ?_) (fun k hk=> ?_) (fun k hk hk2=> ?_) (fun k hk=> ?_) (fun k hk=>hk.2)⟩
 ·show s6 w w' ow own' C' c k=c;rcases ho k hk with e|e
  ·rw [p9 (hw.hi k zo)];exact e
  exact G7 e (hl.1 k hk) hk
 ·refine ⟨?_,hl.2 k hk⟩;rcases hC k hk with e|e
  ·rw [p9 e.2];exact e.1
  exact a1H e (hl.2 k hk) (fun ho=>hd k ho hk) hk
 ·have hk':s6 w w' ow own' C' c k=c:=hk;have:=hk2.1;omega
 have hk':s6 w w' ow own' C' c k=c:=hk;by_cases e:k<w.heap.size
 ·exact zz13 e hm.size
 exact (a43 zo hk' h2).2
def a8x (w:World) (ow:Ow):Option Value->Option Fil->Prop
 |none,none=>True
 |some v,some q=>∃a cap,v= .agg #[.string q.1,.slice a q.2.length cap]/\o3 w ow 7 (.slice a q.2.length cap) q.2.length (m5 q.2)
 |_,_=>False
theorem a8x.mov {F:Nat->Prop} {w w':World} {ow ow':Ow} {v:Option Value} {q:Option Fil} (h:a8x w ow v q) (s:Mov F w ow w' ow') (h0:¬F 0):a8x w' ow' v q:=by
 cases v<;>cases q
 ·trivial
 ·exact h
 ·exact h
 obtain ⟨a,cap,h1,h2⟩:=h;exact ⟨a,cap,h1,h2.mov s h0 zo⟩
def a5J (w:World) (ow:Ow):Option Value->Option (ByteArray×Fil)->Prop
 |none,none=>True
 |some v,some q=>∃a cap,v= .agg #[.string q.1,.string q.2.1,.slice a q.2.2.length cap]/\o3 w ow 7 (.slice a q.2.2.length cap) q.2.2.length (m5 q.2.2)
 |_,_=>False
theorem a5J.mov {F:Nat->Prop} {w w':World} {ow ow':Ow} {v:Option Value} {q:Option (ByteArray×Fil)} (h:a5J w ow v q) (s:Mov F w ow w' ow') (h0:¬F 0):a5J w' ow' v q:=by
 cases v<;>cases q
 ·trivial
 ·exact h
 ·exact h
 obtain ⟨a,cap,h1,h2⟩:=h;exact ⟨a,cap,h1,h2.mov s h0 zo⟩
theorem a4c {F:Nat->Prop} {w w':World} {ow ow':Ow} {kt:TypeId} {b n c:Nat} {f:Lit->Option Value} (h:p6 w kt b n f) (ht:ow b=c) (s:Mov F w ow w' ow') (hc:¬F c):p6 w' kt b n f/\ow' b=c:=by
 refine ⟨h.mod s.md (fun hf=> ?_),by rw [s.old b h.lt];exact ht⟩;have hf':F (ow b):=hf;rw [ht] at hf';exact hc hf'
structure K5 (w:World) (ow:Ow) (c b:Nat) (S:List Sb):Prop where
 tag:ow b=c
 nd:(S.map Prod.fst).Nodup
 mp:∃f,p6 w 3 b S.length f/\∀id:Int,a5J w ow (f (.int .i64 id)) (T7 S id)
theorem K5.mov {F:Nat->Prop} {w w':World} {ow ow':Ow} {c b:Nat} {S:List Sb} (h:K5 w ow c b S) (s:Mov F w ow w' ow') (h0:¬F 0) (hc:¬F c):K5 w' ow' c b S:=by
 obtain ⟨f,h1,h2⟩:=h.mp;obtain ⟨h3,h4⟩:=a4c h1 h.tag s hc;exact ⟨h4,h.nd,f,h3,fun id=>(h2 id).mov s h0⟩
def Z6 (w:World) (ow:Ow) (mi:Nat) (l:List Fil):Prop:=∃f,p6 w 9 mi l.length f/\∀k,a8x w ow (f (.string k)) (kF l k)
theorem Z6.mov {F:Nat->Prop} {w w':World} {ow ow':Ow} {mi c:Nat} {l:List Fil} (h:Z6 w ow mi l) (ht:ow mi=c) (s:Mov F w ow w' ow') (h0:¬F 0) (hc:¬F c):Z6 w' ow' mi l/\ow' mi=c:=by
 obtain ⟨f,h1,h2⟩:=h;obtain ⟨h3,h4⟩:=a4c h1 ht s hc;exact ⟨⟨f,h3,fun k=>(h2 k).mov s h0⟩,h4⟩
def a0A (w:World) (ow:Ow) (c mb:Nat):Option Value->List Fil->Prop
 |none,l=>l=[]
 |some v,l=>∃mi,v= .map (some mi)/\mi≠mb/\ow mi=c/\Z6 w ow mi l
theorem a0A.mov {F:Nat->Prop} {w w':World} {ow ow':Ow} {c mb:Nat} {v:Option Value} {l:List Fil} (h:a0A w ow c mb v l) (s:Mov F w ow w' ow') (h0:¬F 0) (hc:¬F c):a0A w' ow' c mb v l:=by
 cases v
 ·exact h
 obtain ⟨mi,h1,h2,h3,h4⟩:=h;obtain ⟨h5,h6⟩:=h4.mov h3 s h0 hc;exact ⟨mi,h1,h2,h6,h5⟩
structure M8 (w:World) (ow:Ow) (c mb:Nat) (G:Int->List Fil) (K:Nat):Prop where
 tag:ow mb=c
 mp:∃n f,p6 w 3 mb n f/\n<=K/\∀id:Int,a0A w ow c mb (f (.int .i64 id)) (G id)
 lt:∀id,(G id).Pairwise fun a b=>j5 a<j5 b
theorem M8.mov {F:Nat->Prop} {w w':World} {ow ow':Ow} {c mb:Nat} {G:Int->List Fil} {K:Nat} (h:M8 w ow c mb G K) (s:Mov F w ow w' ow') (h0:¬F 0) (hc:¬F c):M8 w' ow' c mb G K:=by
 obtain ⟨n,f,h1,h2,h3⟩:=h.mp;obtain ⟨h4,h5⟩:=a4c h1 h.tag s hc;exact ⟨h5,⟨n,f,h4,h2,fun id=>(h3 id).mov s h0 hc⟩,h.lt⟩
structure BAd where
 v:Value
 nv:Value
 tb:Nat->Nat
 ib:Nat->Nat
 sb:Nat->Nat
 mb:Nat->Nat
def ptr (b:Nat):Value:= .pointer (some ⟨b,0,none⟩)
def BAd.rest (a:BAd) (id:Int):List Value:=
 [.int .i64 id,a.nv,ptr (a.tb 0),ptr (a.ib 0),.map (some (a.sb 0)),.map (some (a.mb 0)),ptr (a.tb 1),ptr (a.ib 1),.map (some (a.sb 1)),.map (some (a.mb 1)),
  ptr (a.tb 2),ptr (a.ib 2),.map (some (a.sb 2)),.map (some (a.mb 2)),ptr (a.tb 3),ptr (a.ib 3),.map (some (a.sb 3)),.map (some (a.mb 3))]
structure a3d (w:World) (ow:Ow) (c t tb ib sb mb:Nat) (R:RS):Prop where
 tab:I3 w ow (c+1+t) tb R.M R.N
 idx:a03 w ow (c+5+t) ib R.I R.T
 sub:K5 w ow (c+9+t) sb R.S
 snt:M8 w ow (c+13+t) mb R.G R.K
structure J0 (w:World) (ow:Ow) (c g:Nat) (id:Int) (near:List Int) (B:BS) (a:BAd):Prop where
 c2:2<=c
 log:∃L:List Lr,M7 w ow c (c+17) g (a.rest id) 100 a.v L/\L.map Prod.fst=B.L
 near:o3 w ow 1 a.nv near.length (near.map (Value.int .i64))
 rea:∀t,t<4->a3d w ow c t (a.tb t) (a.ib t) (a.sb t) (a.mb t) (B.R t)
def Bro (w:World) (ow:Ow) (c g:Nat) (id:Int) (near:List Int) (B:BS):Prop:=∃a,J0 w ow c g id near B a
theorem a3d.mov {F:Nat->Prop} {w0 w w':World} {ow ow':Ow} {c t tb ib sb mb:Nat} {R:RS} (h:a3d w ow c t tb ib sb mb R) (hw:Owd w0 w ow) (s:Mov F w ow w' ow') (h0:¬F 0) (hF:¬F (c+1+t)/\¬F (c+5+t)/\¬F (c+9+t)/\¬F (c+13+t)) (h2:2<=c):a3d w' ow' c t tb ib sb mb R:=
 ⟨h.tab.mov hw s h0 hF.1 zo,h.idx.mov hw s h0 hF.2.1 zo,h.sub.mov s h0 hF.2.2.1,h.snt.mov s h0 hF.2.2.2⟩
theorem J0.mov {F:Nat->Prop} {w0 w w':World} {ow ow':Ow} {c g:Nat} {id:Int} {near:List Int} {B:BS} {a:BAd} (h:J0 w ow c g id near B a) (hw:Owd w0 w ow) (s:Mov F w ow w' ow') (h0:¬F 0) (hF:∀t,F t->t<c\/c+18<=t):J0 w' ow' c g id near B a:=by
 obtain ⟨L,h1,h2⟩:=h.log;have hn:∀t,c<=t->t<c+18->¬F t:=fun t h1 h2 h3=>by have:=hF t h3;omega
 exact ⟨h.c2,⟨L,h1.mov s h0 (hn c zo zo) (hn (c+17) zo zo),h2⟩,h.near.mov s h0 zo,fun t ht=>(h.rea t ht).mov hw s h0 ⟨hn _ zo zo,hn _ zo zo,hn _ zo zo,hn _ zo zo⟩ h.c2⟩
theorem Bro.mov {F:Nat->Prop} {w0 w w':World} {ow ow':Ow} {c g:Nat} {id:Int} {near:List Int} {B:BS} (h:Bro w ow c g id near B) (hw:Owd w0 w ow) (s:Mov F w ow w' ow') (h0:¬F 0) (hF:∀t,F t->t<c\/c+18<=t):Bro w' ow' c g id near B:=by
 obtain ⟨a,h⟩:=h;exact ⟨a,h.mov hw s h0 hF⟩
section
variable {P:Program} {ops:Array Oper} {Q:Exit->Act->World->Prop} {md:Region.Mode} {S:World->Prop} {T:Nat->Bool}
structure AN (P:Program) (md:Region.Mode) (ops:Array Oper) (Q:Exit->Act->World->Prop) (S:World->Prop) (T:Nat->Bool) (fuel:Nat) (listed:Array Bool) (a:Act) (w:World):Prop where
 out:Region.noSelect ops=true->(∀(c:List PanicEntry) (a:Act) (d:Option Tmp) (v:Value) (w:World),Q (.panic c) (a.put d v) w->Q (.panic c) a w)->F0 md ops listed->a2p P md ops Q S T fuel listed a w
theorem a4d {id:Nat} {a:Act} {w:World} {l:List Oper} (ks:List Nat) (S:World->Prop) (hm:P.follows .mixedOrders=true) (hsel:Region.noSelect l.toArray=true)
 (hQ:∀(c:List PanicEntry) (a:Act) (d:Option Tmp) (v:Value) (w:World),Q (.panic c) (a.put d v) w->Q (.panic c) a w)
 (h:AN P .any l.toArray Q S (fun j=>ks.contains j) l.length (Array.replicate l.toArray.size false) a w.drew):(Code.region id l.toArray true).wp P Q a w:=by
 have hcl:F0 .any l.toArray (Array.replicate l.toArray.size false):=fun j oj _ hl=>by
  exfalso;rcases Nat.lt_or_ge j l.toArray.size with h'|h'<;>simp_all
 refine wp_region_any hm (a1i (S:=S) (T:=fun j=>ks.contains j) _ _ _ _ ?_);have key:=h.out hsel hQ hcl;simpa using key
def b6D (md:Region.Mode) (ops:Array Oper) (T:Nat->Bool) (i:Nat) (listed:Array Bool):Bool:=
 decide (i<ops.size)&&Region.free md ops listed i&&(Region.ready md ops listed).contains i&&
  (((ops[i]?).map (fun o=>L8 o.op)).getD false||(List.range ops.size).all fun j=>j==i||listed.getD j true||G8 md ops ops.size j i||T j)
theorem a9G {i fuel:Nat} {listed:Array Bool} {o:Oper} {a:Act} {w:World} (hok:b6D md ops T i listed=true) (ho:ops[i]? =some o) (hw:Region.wanted o (yielded ops a.tmps)=true) (hSw:L8 o.op=false->S w) (v:Value)
 (hy:∀w,(L8 o.op=false->S w)->(execOp a.eval o).run P w= .ok (.value v) w)
 (h:∀K:Act->Prop,(∀a',AN P md ops Q S T fuel (listed.setIfInBounds i true) a' w->K a')->K (a.put o.dst v)):AN P md ops Q S T (fuel+1) listed a w:=by
 refine ⟨fun hsel hQ hc=> ?_⟩;unfold b6D at hok;simp only [Bool.and_eq_true,decide_eq_true_eq] at hok;obtain ⟨⟨⟨hi,hf⟩,hr⟩,hp⟩:=hok;have eU:i∈Region.ready md ops listed:=by simpa using hr
 have h':=(h _ fun _ h=>h).out hsel hQ (hc.set eU)
 exact a1K (S:=S) (T:=T) (S':=fun w=>L8 o.op=false->S w) ho (Region.noSelect_spec hsel) (fun c a w=>hQ c a o.dst v w) fuel listed a w hc (Region.free_spec ho hf)
  (fun j hj hji hun hre w w' hT h gK=>by
    simp only [ho,Option.map_some,Option.getD_some,gK,Bool.false_or,List.all_eq_true,List.mem_range,Bool.or_eq_true,beq_iff_eq] at hp;rcases hp j hj with ((h1|h1)|h1)|h1
    ·exact absurd h1 hji
    ·rw [hun] at h1;cases h1
    ·rw [hre] at h1;cases h1
    ·exact hT h1 (h gK))
  eU (.inl ⟨hw,hy⟩) hSw h'
end
end
section
open Go.RowKit
theorem b2B {P:Program} {md:Region.Mode} {ops:Array Oper} {Q:Exit->Act->World->Prop} {S:World->Prop} {T:Nat->Bool} (I:Nat->Array Bool->Act->World->Prop)
 (h0:∀listed a w,I 0 listed a w->Region.ready md ops listed=[]/\Q .normal a w)
 (hs:∀n listed a w,I (n+1) listed a w->∃js:List Nat,Region.ready md ops listed=js/\js≠[]/\∀i∈js,GO P ops Q S T i (fun a' w'=>I n (listed.setIfInBounds i true) a' w') a w):
 ∀{n:Nat} {listed:Array Bool} {a:Act} {w:World},I n listed a w->AN P md ops Q S T n listed a w
 |0,listed,a,w,h=>⟨fun _ _ _=>h0 listed a w h⟩
 |n+1,listed,a,w,h=>by
  obtain ⟨js,hr,hne,hg⟩:=hs n listed a w h;exact ⟨fun hsel hQ hc=>⟨fun e=>absurd (hr.symm.trans e) hne,fun i hi=>wpOp_mono (fun _ _ h'=>⟨h'.1,(b2B I h0 hs h'.2).out hsel hQ (hc.set hi)⟩) (hg i (hr▸hi)).out⟩⟩
section
variable {P:Program} {w:World} {ops:Array Oper} {rest:List Oper} {a:Act} {Q:Exit->Act->World->Prop} {d:Option Tmp} {tp:TypeId} {pos:String} {af:Array Edge} {g:Nat×Bool}
variable {P:Program} {w:World}
theorem a2r (ty:TypeId) (g off:Nat) (cur:Array Value) (t:TypeId) (cs:List Value) (hg:w.heap[g]? =some (.cells cur t (0,0))) (hl:off+cs.length<=cur.size)
 (hi:(P.info? ty).map (·.size)=some cs.length) (h1:∀u∈cs,u.oneCell'=true):
 (storeVar ty ⟨g,off,none⟩ (.agg cs.toArray)).run P w= .ok () (w.setRow g (cur.toList.take off++cs++cur.toList.drop (off+cs.length)).toArray):=by
 have hst:=run_storeCells_at P g off t cs 0 cur w hg zo h1
 cases hq:P.info? ty with
 |none=>simp [hq] at hi
 |some i=>
  have hs:i.size=cs.length:=by simpa [hq] using hi
  simp only [Nat.add_zero] at hst;simp [storeVar,Value.cells,sizeOf,typeInfo,hq,hs,hst]
theorem a5K {o:Oper} {a:Act} {K:Act->World->Prop} {Q:Exit->Act->World->Prop} (ty:TypeId) (x y:Operand) (ho:o.op= .store ty x y) (g off:Nat)
 (hx:a.eval x= .pointer (some ⟨g,off,none⟩)) (cur:Array Value) (t:TypeId) (hg:w.heap[g]? =some (.cells cur t (0,0))) (cs:List Value) (hy:a.eval y= .agg cs.toArray) (hl:off+cs.length<=cur.size)
 (hi:(P.info? ty).map (·.size)=some cs.length) (h1:∀u∈cs,u.oneCell'=true)
 (h:K (a.put o.dst undef) (w.setRow g (cur.toList.take off++cs++cur.toList.drop (off+cs.length)).toArray)):o.wp P a w K Q:=by
 have hr:=a2r (P:=P) (w:=w) ty g off cur t cs hg hl hi h1;unfold Oper.wp execOp;simp only [ho,hx,hy,Instr.storeAt,Instr.sureAddr,Sem.run_bind,Sem.run_pure,Result.andThen_ok,hr];exact h
end
end
end Go.Proofs.YtebhabpahfmodaaGreatDoor
