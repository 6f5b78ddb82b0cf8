/- Lemmas. -/
import Derived.Test.YtdmjoodhaeijmaaGreatDoorZn24
import Derived.Test.YtdmjoodhaeijmaaGreatDoorZn26
set_option maxHeartbeats 40000000
set_option maxRecDepth 20000
namespace Go.Proofs.YtdmjoodhaeijmaaGreatDoor
section
open Go.RowKit
structure Mg where
 kind:Int
 at_:Int
 rule:PRu
 fs:ByteArray
 fl:List Cnd
 es:ByteArray
 el:List Att
 ver:Int
 org:ByteArray
 ser:Int
structure Mv where
 m:Mg
 ra:Option Addr
 rc:Nat
 fa:Option Addr
 fc:Nat
 ea:Option Addr
 ec:Nat
def Mv.cells (x:Mv):List Value:=
 [.int .i64 x.m.kind,.int .i64 x.m.at_,.int .i64 x.m.rule.kind,.int .i64 x.m.rule.tenant,.string x.m.rule.who,.int .i64 x.m.rule.broker,.string x.m.rule.sc,.slice x.ra x.m.rule.cs.length x.rc,.string x.m.rule.name,.int .i64 x.m.rule.at_,
  .string x.m.fs,.slice x.fa x.m.fl.length x.fc,.string x.m.es,.slice x.ea x.m.el.length x.ec,.int .i64 x.m.ver,.string x.m.org,.int .i64 x.m.ser]
structure R4 (w:World) (ow:Ow) (x:Mv):Prop where
 ru:q6 w ow 7 (.slice x.ra x.m.rule.cs.length x.rc) x.m.rule.cs.length (q8 x.m.rule.cs)
 fl:q6 w ow 7 (.slice x.fa x.m.fl.length x.fc) x.m.fl.length (q8 x.m.fl)
 el:q6 w ow 6 (.slice x.ea x.m.el.length x.ec) x.m.el.length (I4 x.m.el)
theorem R4.mov {F:Nat->Prop} {w w':World} {ow ow':Ow} {x:Mv} (h:R4 w ow x) (s:Mov F w ow w' ow') (h0:¬F 0):R4 w' ow' x:=⟨h.ru.mov s h0 zo,h.fl.mov s h0 zo,h.el.mov s h0 zo⟩
structure Tg where
 kind:Int
 op:Int
 err:Int
 sub:Int
 ser:Int
 ver:Int
 org:ByteArray
 es:ByteArray
 el:List Att
structure Tv where
 t:Tg
 ea:Option Addr
 ec:Nat
def Tv.cells (x:Tv):List Value:=
 [.int .i64 x.t.kind,.int .i64 x.t.op,.int .i64 x.t.err,.int .i64 x.t.sub,.int .i64 x.t.ser,.int .i64 x.t.ver,.string x.t.org,.string x.t.es,.slice x.ea x.t.el.length x.ec]
theorem Tv.cells_one (x:Tv):∀u∈x.cells,u.oneCell'=true:=fun u hu=>zz15 (show x.cells.all (·.oneCell')=true from rfl) u hu
structure a3C (w:World) (ow:Ow) (x:Tv):Prop where
 el:q6 w ow 6 (.slice x.ea x.t.el.length x.ec) x.t.el.length (I4 x.t.el)
theorem a3C.mov {F:Nat->Prop} {w w':World} {ow ow':Ow} {x:Tv} (h:a3C w ow x) (s:Mov F w ow w' ow') (h0:¬F 0):a3C w' ow' x:=⟨h.el.mov s h0 zo⟩
abbrev Sb:=Int×ByteArray×Fil
def a0A (S:List Sb) (id:Int):Option (ByteArray×Fil):=(S.find? fun p=>p.1==id).map Prod.snd
def b6R (S:List Sb) (id:Int):List Sb:=S.filter fun p=> !(p.1==id)
def kF (l:List Fil) (k:List UInt8):Option Fil:=l.find? fun f=>i7 f==k
structure RS where
 M:List (Int×Fil)
 N:Nat
 I:List (Int×Fil)
 T:Nat
 S:List Sb
 G:Int->List Fil
 K:Nat
def RS.zero:RS:=⟨[],0,[],0,[],fun _=>[],0⟩
structure BS where
 L:List PRu
 R:Nat->RS
def upd {α:Type} (f:Nat->α) (i:Nat) (x:α):Nat->α:=fun j=>if j=i then x else f j
theorem J0 {α:Type} (f:Nat->α) (i:Nat) (x:α):upd f i x i=x:=if_pos rfl
theorem L9 {α:Type} (f:Nat->α) {i j:Nat} (x:α) (h:j≠i):upd f i x j=f j:=if_neg h
def Z4 {α:Type} (f:Int->α) (i:Int) (x:α):Int->α:=fun j=>if j=i then x else f j
theorem a5t {α:Type} (f:Int->α) (i:Int) (x:α):Z4 f i x i=x:=if_pos rfl
theorem a5u {α:Type} (f:Int->α) {i j:Int} (x:α) (h:j≠i):Z4 f i x j=f j:=if_neg h
def Mg.zero:Mg:=⟨0,0,PRu.zero,⟨#[]⟩,[],⟨#[]⟩,[],0,⟨#[]⟩,0⟩
def Mg.pol (i:Int) (p:PRu):Mg:={Mg.zero with at_:=i,rule:=p}
def Mg.sub (f:Fil):Mg:={Mg.zero with kind:=1,fs:=f.1,fl:=f.2}
def Mg.uns (f:Fil):Mg:={Mg.zero with kind:=2,fs:=f.1,fl:=f.2}
abbrev Sd:=Int×Int×Mg
def K5 (a b:List Fil):List Fil:=a.filter fun f=>(kF b (i7 f)).isNone
def T8 (n ten:Int) (was want:List Fil):List Sd:=(K5 want was).map (fun f=>(n,ten,Mg.sub f))++(K5 was want).map (fun f=>(n,ten,Mg.uns f))
def J2 (M:List (Int×Fil)):List Int->(Int->List Fil)->(Int->List Fil)
 |[],G=>G
 |n::near,G=>J2 M near (Z4 G n (C3 M n))
def y9 (M:List (Int×Fil)) (ten:Int):List Int->(Int->List Fil)->List Sd
 |[],_=>[]
 |n::near,G=>T8 n ten (G n) (C3 M n)++y9 M ten near (Z4 G n (C3 M n))
def RS.refr (R:RS) (near:List Int):RS:={R with G:=J2 R.M near R.G,K:=R.K+near.length}
def I3 (near:List Int) (frm:Int) (i:Int) (p:PRu):List Sd:=(near.filter fun n=> !(n==frm)).map fun n=>(n, -1,Mg.pol i p)
theorem a0V {M:List (Int×Fil)} {near:List Int} {G:Int->List Fil} {n:Int} (h:n∉near):J2 M near G n=G n:=by
 induction near generalizing G with
 |nil=>rfl
 |cons a near ih=>
  unfold J2;rw [ih (fun h2=>h (List.mem_cons_of_mem _ h2)),a5u _ _ (fun e=>h (by rw [e];exact List.mem_cons_self ..))]
theorem a3D {M:List (Int×Fil)} {near:List Int} {G:Int->List Fil} {n:Int} (h:n∈near):J2 M near G n=C3 M n:=by
 induction near generalizing G with
 |nil=>cases h
 | cons a near ih=>
  unfold J2;by_cases h2:n∈near
  ·exact ih h2
  rw [a0V h2];rcases List.mem_cons.1 h with rfl|h3
  ·exact a5t _ _ _
  exact absurd h3 h2
theorem a7O (M:List (Int×Fil)) (near:List Int) (n:Int) (G:Int->List Fil):J2 M (near++[n]) G=Z4 (J2 M near G) n (C3 M n):=by
 induction near generalizing G with
 |nil=>rfl
 |cons a near ih=>exact ih _
theorem a7P (M:List (Int×Fil)) (ten:Int) (near:List Int) (n:Int) (G:Int->List Fil):y9 M ten (near++[n]) G=y9 M ten near G++T8 n ten (J2 M near G n) (C3 M n):=by
 induction near generalizing G with
 |nil=>simp [y9,J2]
 |cons a near ih=>
  show T8 a ten (G a) (C3 M a)++y9 M ten (near++[n]) (Z4 G a (C3 M a))=(T8 a ten (G a) (C3 M a)++y9 M ten near (Z4 G a (C3 M a)))++_;rw [ih,zz12];rfl
theorem b5j {l:List Fil} (h:l.Pairwise fun a b=>i7 a<i7 b) {i:Nat} {f:Fil} (hi:l[i]? =some f):kF l (i7 f)=some f:=by
 unfold kF
 induction l generalizing i with
 |nil=>cases hi
 | cons a l ih=>
  rw [List.pairwise_cons] at h
  cases i with
  |zero=>
   cases hi
   rw [List.find?_cons];simp
  | succ i=>
   have hi':l[i]? =some f:=hi;have h1:=h.1 f (zz8 hi');rw [List.find?_cons]
   have hne:(i7 a==i7 f)=false:=by
    rw [beq_eq_false_iff_ne];intro e;rw [e] at h1;exact absurd h1 (List.lt_irrefl _)
   rw [hne];exact ih h.2 hi'
theorem a3E {a b:List Fil} {j:Nat} {f:Fil} (h:a[j]? =some f):K5 (a.take (j+1)) b=K5 (a.take j) b++if (kF b (i7 f)).isNone then [f] else []:=by
 unfold K5;rw [List.take_add_one,h,Option.toList_some,List.filter_append];congr 1;cases hk:(kF b (i7 f)).isNone<;>simp [hk]
def a6u (w:World) (e:Ending) (w':World):Prop:=∃b own,e= .returned (.pointer (some ⟨b,0,none⟩))/\Tab w' b own (fun _=>False) [] 0/\(∀k,own k->w.heap.size<=k)/\Mod (fun _=>False) w w'
theorem a2T (w:World):Calls Tryz.prog 66 #[] w (a6u w):=by
 obtain ⟨wa,ak,ae,aa,ah⟩:=g6 w (.map #[] 0);obtain ⟨wb,hwb,ay,aA,aU⟩:=g6 wa (.cells #[.map (some w.heap.size)] 181);have h1:l8 wb 3 w.heap.size 0 (fun _=>none):=(ak▸l8.made w 3:l8 wa 3 w.heap.size 0 (fun _=>none)).mod ay id
 have hi:a0h wb wa.heap.size w.heap.size (fun k=>k=w.heap.size\/k=wa.heap.size) (fun _=>False) [] 0:=
  ⟨aA,⟨.inr rfl,.inl rfl⟩,zo,⟨0,_,h1,Nat.le_refl _,fun _ _=>rfl,fun x y mi h=>(by cases h)⟩,List.Pairwise.nil,Nat.le_refl _,fun _ _ h=>h,fun k hk=>zo,fun _ h=>h.elim,fun p hp=>(by cases hp),fun p hp=>(by cases hp)⟩
 have hm:Mod (fun _=>False) w wb:=ae.trans ay zi;have hz:=ah;refine hh8 ak hwb h1 hi hm aA aa hz fun aB bN H1 Hi Hm bq aC Hz=> ?_;clear ak hwb h1 hi hm aA aa hz ae ay aU ah
 go_enter Tryz.func66,Tryz.ntmps66
 go_wp2_with (first|(rw [show w.alloc _=wa from aB.out])|(rw [show wa.alloc _=wb from bN.out]))
 go_ret;refine ⟨wa.heap.size,_,rfl,⟨_,Hi.out⟩,fun k hk=> ?_,Hm.out⟩;have:=Hz.out;rcases hk with rfl|rfl<;>omega
def b1L (w:World) (b:Nat) (own C:Nat->Prop) (M:List (Int×Fil)) (N:Nat) (id:Int) (q:Fil) (e:Ending) (w':World):Prop:=
 (r8 M id (i7 q)≠none/\e= .returned (.bool false)/\Mod (fun _=>False) w w')\/
 (r8 M id (i7 q)=none/\e= .returned (.bool true)/\∃own' C',Tab w' b own' C' (M++[(id,q)]) (N+1)/\(∀k,own k->own' k)/\(∀k,own' k->own k\/w.heap.size<=k)/\(∀k,C' k->C k\/w.heap.size<=k)/\Mod own w w')
theorem a8R {w w8:World} {b mo mi N n8:Nat} {own own' C C':Nat->Prop} {M:List (Int×Fil)} {f f8:Lit->Option Value} {id:Int} {q:Fil} (h:a0h w b mo own C M N)
 (hf1:∀id:Int,a2E w own C b mo N (r8 M id) (f (.int .i64 id))) (hf2:∀(x y:Int) mi,f (.int .i64 x)=some (.map (some mi))->f (.int .i64 y)=some (.map (some mi))->x=y) (hq:r8 M id (i7 q)=none)
 (hO:l8 w8 3 mo n8 f8) (Oq:n8<=N+1) (lQ:f8 (.int .i64 id)=some (.map (some mi))) (hfx:∀x:Int,x≠id->f8 (.int .i64 x)=f (.int .i64 x)) (gm:own' mi/\mi≠b/\mi≠mo/\mi<w8.heap.size) (hmx:∀x:Int,x≠id->f (.int .i64 x)≠some (.map (some mi)))
 (hK:KAt w8 own' C' mi (N+1) (r8 (M++[(id,q)]) id)) (hm:Mod (fun k=>k=mi\/k=mo) w w8) (ho1:∀k,own k->own' k) (ho2:∀k,own' k->own k\/k=mi) (hmo:mi<w.heap.size->own mi)
 (Ot:∀k,C k->C' k) (hC2:∀k,C' k->k<w8.heap.size) (hd:∀k,own' k->¬C' k) (hwf:(Lit.int .i64 id).wf=true/\q.2.length<=19/\∀c∈q.2,c.fits) (hsc:q.1.size<=1000000):a0h w8 b mo own' C' (M++[(id,q)]) (N+1):=by
 have JK:∀k,k<w.heap.size->(k=mi\/k=mo)->¬C k:=fun k hk hf=>by
  rcases hf with rfl|rfl
  ·exact h.dis _ (hmo hk)
  exact h.dis _ h.ob.2
 refine ⟨hm.heap h.row (fun hf=> ?_),⟨ho1 _ h.ob.1,ho1 _ h.ob.2⟩,h.ne,⟨n8,f8,hO,Oq,fun x=> ?_,fun x y m hx hy=> ?_⟩, ?_, ?_,hd,fun k hk=> ?_,hC2,fun p hp=> ?_,fun p hp=> ?_⟩
 ·rcases hf with hf|hf
  ·exact gm.2.1 hf.symm
  exact h.ne hf
 ·by_cases e:x=id
  ·subst e;rw [lQ];exact ⟨mi,rfl,gm.1,gm.2.1,gm.2.2.1,hK⟩
  rw [hfx x e];have h1:=(hf1 x).mod hm (fun m hm' hf=> ?_) JK
  ·refine h1.cong (fun k hk hC ho=> ?_) ho1 Ot (Nat.le_succ N) (fun k=> ?_)
   ·rcases ho2 k ho with h2|h2
    ·exact h2
    exact absurd (Ot k hC) (hd k ho)
   rw [a3z hq,if_neg (fun h=>e h.1)]
  rcases hf with hf|hf
  ·subst hf;exact hmx x e hm'
  subst hf;have h2:=hf1 x;rw [hm'] at h2;obtain ⟨m',e', -, -,h3, -⟩:=h2;cases e'
  exact h3 rfl
 ·by_cases ex:x=id<;>by_cases ey:y=id
  ·rw [ex,ey]
  ·subst ex;rw [lQ] at hx;cases hx
   rw [hfx y ey] at hy;exact absurd hy (hmx y ey)
  ·subst ey;rw [lQ] at hy;cases hy
   rw [hfx x ex] at hx;exact absurd hx (hmx x ex)
  rw [hfx x ex] at hx;rw [hfx y ey] at hy;exact hf2 x y m hx hy
 ·rw [List.pairwise_append];refine ⟨h.nd,List.pairwise_singleton _ _,fun p hp r hr e=> ?_⟩;obtain rfl:r=(id,q):=by simpa using hr
  obtain ⟨x,p⟩:=p;obtain ⟨rfl,e2⟩:=e;exact a13 hq p hp e2
 ·rw [zz4];have:=h.low;simp;omega
 ·rcases ho2 k hk with h1|rfl
  ·exact zz13 (h.olow k h1) hm.size
  exact gm.2.2.2
 ·rcases zz14 hp with hp|hp
  ·exact h.wf p hp
  obtain rfl:p=(id,q):=by simpa using hp
  exact hwf
 rcases zz14 hp with hp|hp
 ·exact h.sc p hp
 obtain rfl:p=(id,q):=by simpa using hp
 exact hsc
theorem R5 (w:World):(zeroValue 202).run Tryz.prog w= .ok (.map none) w:=zk
theorem X7 (k:List UInt8) (hk:k.length<=maxLen):keyOf Tryz.prog 9 (.string (str k))=some (.string k):=by
 have h:=WideMaps.keyOf_string_mk (s:=str k) Tryz.underlying9 (by simpa [str,ByteArray.size] using hk);simpa [str] using h
theorem a8S {w:World} {own C:Nat->Prop} {b mo N:Nat} {g:List UInt8->Option Fil} {v:Option Value} (h:a2E w own C b mo N g v) (k:List UInt8) (hk:k.length<=maxLen):
 ∃s a n c,(Instr.lookup 202 (v.getD (.map none)) (.string (str k)) true).run Tryz.prog w= .ok (.tuple #[.agg #[.string s,.slice a n c],.bool (g k).isSome]) w:=by
 cases v with
 |none=>
  refine ⟨⟨#[]⟩,none,0,0, ?_⟩;rw [h k];simpa using Maps.look_nil (w:=w) true A2 Tryz.underlying202 (I0 w) (X7 k hk)
 | some v=>
  obtain ⟨mi,rfl, -, -, -,n,f,h1, -,h2⟩:=h;have h3:=h1.look_ok A2 Tryz.underlying202 (I0 w) (X7 k hk);have h4:=h2 k;cases hf:f (.string k)<;>cases hg:g k<;>rw [hf,hg] at h4
  ·rw [hf] at h3;exact ⟨_,_,_,_,h3⟩
  ·exact h4.elim
  ·exact h4.elim
  obtain ⟨a,cap,rfl, -⟩:=h4;rw [hf] at h3;exact ⟨_,_,_,_,h3⟩
theorem a2E.val {w:World} {own C:Nat->Prop} {b mo N:Nat} {g:List UInt8->Option Fil} {v:Option Value} (h:a2E w own C b mo N g v):
 (v=none/\v.getD (.map none)= .map none/\∀k,g k=none)\/∃mi,v=some (.map (some mi))/\v.getD (.map none)= .map (some mi)/\own mi/\mi≠b/\mi≠mo/\KAt w own C mi N g:=by
 cases v with
 |none=>exact .inl ⟨rfl,rfl,h⟩
 |some v=>
  obtain ⟨mi,rfl,h⟩:=h;exact .inr ⟨mi,rfl,rfl,h⟩
theorem a8T {w w6:World} {own own' C C':Nat->Prop} {mi N n:Nat} {g g':List UInt8->Option Fil} {fi:Lit->Option Value} {key:List UInt8} {v:Value} {q:Fil} (h2:n<=N) (h3:∀k,G9 w own C (fi (.string k)) (g k))
 (h6:l8 w6 9 mi (if (fi (.string key)).isSome then n else n+1) (T5 fi (.string key) v)) (hm:Mod (fun k=>k=mi) w w6) (gm:¬C mi) (hq:G9 w6 own' C' (some v) (some q))
 (ho:∀k,k<w.heap.size->C k->own' k->own k) (hC:∀k,C k->C' k) (hg:∀k,g' k=if k=key then some q else g k):KAt w6 own' C' mi (N+1) g':=by
 refine ⟨_,_,h6,by split<;>omega,fun k=> ?_⟩;rw [hg];unfold T5;by_cases e:k=key
 ·rw [if_pos e,if_pos (by rw [e])];exact hq
 rw [if_neg e,if_neg (fun h=>e (Lit.string.inj h))];have h4:=(h3 k).mod2 hm (fun k _ e h=>gm (e▸h));have h5:=h3 k;cases hf:fi (.string k)<;>cases hk:g k<;>rw [hf,hk] at h4 h5
 ·trivial
 ·exact h4
 ·exact h4
 obtain ⟨a,cap,e1,e2,e3⟩:=h4;obtain ⟨a',cap',e1', -,e3'⟩:=h5;rw [e1] at e1';cases e1'
 exact ⟨a,cap,e1,e2,fun k hk=>⟨(e3 k hk).1,fun h=>(e3 k hk).2.1 (ho k (e3' k hk).1 (e3 k hk).2.2 h),hC k (e3 k hk).2.2⟩⟩
def b4a (b mo mi bx:Nat) (id:Int) (sc:ByteArray) (na:Option Addr) (n nc:Nat) (y:World):Prop:=
 y.cell? ⟨b,0,none⟩=some (.map (some mo))/\y.cell? ⟨bx,0,none⟩=some (.string sc)/\y.cell? ⟨bx,1,none⟩=some (.slice na n nc)/\(Instr.lookup 113 (.map (some mo)) (.int .i64 id) false).run Tryz.prog y= .ok (.map (some mi)) y
theorem b4b (bm:Nat) (w:World):(binOp .eql 202 (.map (some bm)) (.map none)).run Tryz.prog w= .ok (.bool false) w:=zk
theorem b5G (w:World):(binOp .eql 202 (.map none) (.map none)).run Tryz.prog w= .ok (.bool true) w:=zk
attribute [local go_sem] b4b b5G
theorem b4c (w0 w:World) (hl:L4 w0 w) (b:Nat) (own C:Nat->Prop) (M:List (Int×Fil)) (N:Nat) (h:Tab w b own C M N) (hN:N<=1000000) (hown:∀k,own k->w0.heap.size<=k) (id:Int) (hid:(Lit.int .i64 id).wf=true)
 (sc:ByteArray) (cv:Value) (l:List Cnd) (hv:i8 w 7 cv l.length (q8 l)) (hll:l.length<20) (hcs:∀c∈l,c.fits) (hsc:sc.size<=1000000):
 Calls Tryz.prog 80 #[.pointer (some ⟨b,0,none⟩),.int .i64 id,.agg #[.string sc,cv]] w (b1L w b own C M N id (sc,j7 l)):=by
 obtain ⟨mo,h⟩:=h;obtain ⟨a,cap,rfl,hcap⟩:∃a c,cv= .slice a l.length c/\l.length<=c:=by obtain ⟨-,a,c,h,h2, -⟩:=hv;exact ⟨a,c,h,h2⟩
 obtain ⟨nl,hnl⟩:∃nl,j7 l=nl:=⟨_,rfl⟩;rw [hnl];obtain ⟨wa,ak,ae,aa,ah⟩:=g6 w (.cells #[.string sc,.slice a l.length cap] 34);have hva:=hv.mod ae zi;have hnm:=a5n w0 wa (hl.mod0 ae) sc (.slice a l.length cap) l hva hll hcs;rw [hnl] at hnm;have c0:wa.cell? ⟨w.heap.size,0,none⟩=some (.string sc):=d6 aa rfl;have c1:wa.cell? ⟨w.heap.size,1,none⟩=some (.slice a l.length cap):=d6 aa rfl;have oC:nl.length<20:=by rw [<-hnl];exact Nat.lt_of_le_of_lt (X5 l) hll
 have hnf:∀c∈nl,c.fits:=by rw [<-hnl];exact Z2 hcs
 obtain ⟨key,hkey⟩:∃key,t8 sc nl=key:=⟨_,rfl⟩;have hkl:key.length<=1000000000:=by have:=J7 sc nl hnf;rw [hkey] at this;omega
 have Cx:i7 (sc,nl)=key:=hkey;refine hh8 hl h hv hva hcs ak ae aa fun Hl H Hv dE iI aB ai aC=> ?_;refine hh7 hnm hown hid hnf hkey Cx hnl fun gY bA Hid xB eu rG Hnl=> ?_;clear hl h hv hva hcs ak ae aa hnm hown hid hnf hkey Cx hnl ah
 go_enter Tryz.func80,Tryz.ntmps80
 go_wp2_with (rw [show w.alloc _=wa from aB.out])
 refine gY.out.mono ?_;rintro e w2 ⟨na,nc,rfl,hno,hnb,hm2⟩;have hg2:=hm2.heap aC.out (fun h=>h);have aK:=ai.out.trans hm2 zi;refine hh5 hno hnb hm2 hg2 aK fun Hno kz aS uI aN=> ?_;clear hno hnb hm2 hg2 aK c0 c1
 go_wp2_with ((with_reducible refine m7 34 (.tmp 5) (.tmp 11) ?_);refine ⟨w.heap.size,rfl,_,_,uI.out,[.string sc,.slice na nl.length nc],rfl,rfl,zk,rfl, ?_⟩;intro w3 hg3 cB;have k0:w3.cell? ⟨w.heap.size,0,none⟩=some (.string sc):=d6 hg3 rfl;have k1:w3.cell? ⟨w.heap.size,1,none⟩=some (.slice na nl.length nc):=d6 hg3 rfl;have gP:=Lib.hid hg3;have oq:=Lib.hid cB;clear hg3 cB)
 have hsz:w.heap.size<wa.heap.size:=(zz7 aC.out).1;have xS:=Hno.out.mod oq.out (fun k hk e=>by have h1:=kz.out k hk;have h2:k=w.heap.size:=e;omega);have hl3:L4 w0 w3:=(Hl.out.mod0 aN.out).mod oq.out (fun k hk e=>by have h1:=Hl.out.size;have h2:k=w.heap.size:=e;omega);have hpr:=a1W w0 w3 hl3 sc (.slice na nl.length nc) nl xS.rd zo hsc xB.out;rw [eu.out] at hpr;refine hh3 xS hl3 hpr fun JL Sa rD=> ?_;clear xS hl3 hpr
 go_wp2_with fail
 refine rD.out.mono ?_;rintro e w4 ⟨rfl,aM⟩;have gq:Mod (fun k=>k=w.heap.size) w w4:=((aN.out.mono (G:=fun k=>k=w.heap.size) (fun _ _ h=>h.elim)).trans oq.out zi).trans (aM.mono (G:=fun k=>k=w.heap.size) (fun _ _ h=>h.elim)) zi;have hg4:=aM.heap gP.out (fun h=>h);have eU:=H.out.mod gq (fun k hk e=>by have h2:k=w.heap.size:=e;omega);have xU:=JL.out.mod aM zi;obtain ⟨n,f,hf1,hf2,hf3,kG⟩:=eU.om;have hlk:=hf1.look A5 Tryz.underlying113 (R5 w4) (Maps.keyOf_int_mk Tryz.underlying3 Hid.out);obtain ⟨s,fa,fn,fc,hlk2⟩:=a8S (hf3 id) key (by unfold maxLen;omega);obtain ⟨ok,hok⟩:∃ok,(r8 M id key).isSome=ok:=⟨_,rfl⟩;rw [hok] at hlk2;have b0:w4.cell? ⟨b,0,none⟩=some (.map (some mo)):=d6 eU.row rfl;obtain ⟨w5,gN,cK,jG,oD⟩:=g6 w4 (.cells #[.string s,.slice fa fn fc] 34);have Cy:=cK;have xV:=eU.mod cK (fun _ _ h=>h.elim);have hg5:=cK.heap hg4 (fun h=>h);have e0:w5.cell? ⟨w.heap.size,0,none⟩=some (.string sc):=d6 hg5 rfl;have e1:w5.cell? ⟨w.heap.size,1,none⟩=some (.slice na nl.length nc):=d6 hg5 rfl;have b5:w5.cell? ⟨b,0,none⟩=some (.map (some mo)):=d6 xV.row rfl;have gZ:=xU.mod cK zi;have hv5:=fun x=>(hf3 x).mod cK zi (fun _ _ h=>h.elim);have oG:=hf1.mod cK (fun h=>h);have xW:=oG.look A5 Tryz.underlying113 (R5 w5) (Maps.keyOf_int_mk Tryz.underlying3 Hid.out);have hval:=(hv5 id).val;obtain ⟨vv,hvv⟩:∃vv,(f (.int .i64 id)).getD (.map none)=vv:=⟨_,rfl⟩;rw [hvv] at hlk hlk2 xW hval;have bD:Mod (fun k=>k=w.heap.size) w w5:=gq.trans (cK.mono (fun _ _ h=>h.elim)) zi;have uW:Mod (fun _=>False) w w5:=(Mod.refl (fun _=>False) w).upon bD (fun k hk=> .inr (Nat.le_of_eq (Eq.symm hk)));have oH:∀k,(Value.slice na nl.length nc).ownBlock=some k->w.heap.size<=k/\k<w5.heap.size:=fun k hk=>⟨by have h1:=kz.out k hk;have h2:=ai.out.size;omega,gZ.lt k hk⟩;refine hh8 Cy xV hg5 gZ hv5 oG hval hvv fun Sc sW sZ lS Cz Aq tq uM=> ?_;refine hh8 bD uW oH eU hg4 xU hf1 hf2 fun bK oI eD Sg NV Si Hf1 kv=> ?_;refine hh8 hf3 kG aM gq cK jG gN hok fun xX sQ fu xY JM JN xZ bY=> ?_;clear Cy xV hg5 gZ hv5 oG hval hvv bD uW oH eU hg4 xU hf1 hf2 hf3 kG aM gq cK jG gN hok oD k0 k1;have hkx:=Maps.keyOf_int_mk Tryz.underlying3 Hid.out;have Sj:w.heap.size<w5.heap.size:=(zz7 sZ.out).1;have JO:mo<w.heap.size:=H.out.olow _ H.out.ob.2;have hbw:b<w.heap.size:=H.out.olow _ H.out.ob.1
 cases ok with
 |true=>
  go_wp2_with ((with_reducible refine d9 34 (.tmp 8) (.tmp 23) ?_);refine ⟨rfl,[.string s,.slice fa fn fc],rfl,rfl,zk,rfl, ?_⟩;rw [xZ.out])
  go_ret;refine .inl ⟨fun h=> ?_,rfl,oI.out⟩;have h1:=bY.out;rw [rG.out] at h;rw [h] at h1;cases h1
 | false=>
  have uX:r8 M id key=none:=by
   have h1:=bY.out
   cases h2:r8 M id key with
   |none=>rfl
   |some q=>rw [h2] at h1;cases h1
  rcases tq.out with ⟨hfn,rfl,hgn⟩|⟨mi,hfn,rfl,ig,tu,oJ,CB⟩
  ·obtain ⟨w6,jH,dG,gy,jI⟩:=g6 w5 (.map #[] 0);have oK:=Aq.out.mod dG (fun h=>h);have Ou:l8 w6 9 w5.heap.size 0 (fun _=>none):=jH▸l8.made w5 9;refine hh8 uX hfn hgn jH dG gy oK Ou fun CE GM Sk Ar CF tC Au Sl=> ?_;refine hh1 hkx fun CG=> ?_;clear uX hfn hgn jH dG gy oK Ou hkx jI
   go_wp2_with (first|((with_reducible refine d9 34 (.tmp 8) (.tmp 23) ?_);refine ⟨rfl,[.string s,.slice fa fn fc],rfl,rfl,zk,rfl, ?_⟩;rw [xZ.out])|(rw [show w5.alloc _=w6 from Ar.out])|((with_reducible refine P9 113 (.tmp 36) (.tmp 37) (.tmp 38) ?_);refine ⟨3,202,mo,n,f,.int .i64 id,Au.out,A5,Tryz.underlying113,by unfold maxLen;have:=kv.out;omega,rfl,CG.out, ?_⟩;intro w7 Ov bP;have Ox:=Lib.hid Ov;have nG:=Lib.hid bP;clear Ov bP))
   have iW:Mod (fun k=>k=mo) w5 w7:=(CF.out.mono (fun _ _ h=>h.elim)).trans nG.out zi;have JP:=Sl.out.mod nG.out (fun h=>by have h1:w5.heap.size=mo:=h;omega);have hd7:Mod (fun _=>False) w7 w7.drew:=(Mod.refl _ _).drew;have yc:=(Ox.out.mod hd7 (fun h=>h)).look A5 Tryz.underlying113 (R5 w7.drew) CG.out;have fQ:T5 f (.int .i64 id) (.map (some w5.heap.size)) (.int .i64 id)=some (.map (some w5.heap.size)):=by unfold T5;rw [if_pos rfl]
   have hS:b4a b mo w5.heap.size w.heap.size id sc na nl.length nc w7.drew:=by
    refine ⟨(iW.cell b5 H.out.ne),iW.cell e0 (fun h=>by have h1:w.heap.size=mo:=h;omega),iW.cell e1 (fun h=>by have h1:w.heap.size=mo:=h;omega), ?_⟩;rw [yc];show Result.ok ((T5 f (.int .i64 id) (.map (some w5.heap.size)) (.int .i64 id)).getD (.map none)) w7.drew=_;rw [fQ];rfl
   have CJ:=JP.mod hd7 (fun h=>h);refine hh6 iW JP hd7 yc fQ CJ fun yf Sm Sq Sr xA JQ=> ?_;clear iW JP hd7 yc fQ CJ;refine i6 [.rd 0,.rd 1,.rd 2,.rd 3,.rd 4,.rd 5,.rd 6,.rd 7,.go 8] [0,1,2,3,4,5,6,7] (b4a b mo w5.heap.size w.heap.size id sc na nl.length nc) zk zk (fun _ _ d _ _ h=>(by cases d<;>exact h)) ?_
   iterate 8 (
    refine wrd hS fun K hK=> ?_
    go_simp;refine hK _ ?_;clear hK K)
   refine wgo fun K hK=> ?_;(try simp only [zz1,zz2,zz3]);refine a8M 202 _ _ _ rfl ?_;refine ⟨9,34,w5.heap.size,0,(fun _=>none),.string key,JQ.out,A2,Tryz.underlying202,by unfold maxLen;omega,rfl,X7 key (by unfold maxLen;omega), ?_⟩;intro w8 yg dC;refine hK _ _ (fun h=>absurd h zd) ?_;clear hK K hS;refine p8 ?_;have oL:=Sq.out.mono (G:=fun k=>k=w5.heap.size) (fun _ _ h=>h.elim)|>.trans dC zi;have dL:Mod (fun k=>k=w5.heap.size\/k=mo) w5 w8:=(yf.out.mono (fun _ _ h=> .inr h)).trans (oL.mono (fun _ _ h=> .inl h)) (fun _ _ h=>h)
   have jJ:=lS.out.mod dL (fun k hk h=>by
    have h1:=eD.out k hk
    rcases h with h|h<;>omega)
   have lT:=Ox.out.mod oL (fun h=>by have h1:mo=w5.heap.size:=h;omega);have yh:=dL.size;have hw8:w5.heap.size<w8.heap.size:=zz13 Sm.out.lt oL.size;have hqk:r8 M id (i7 (sc,nl))=none:=by rw [rG.out];exact CE.out
   have oM:KAt w8 (fun k=>own k\/k=w5.heap.size) (fun k=>C k\/(Value.slice na nl.length nc).ownBlock=some k) w5.heap.size (N+1) (r8 (M++[(id,(sc,nl))]) id):=
    a8T (w:=w7.drew) (own:=own) (C:=C) (N:=N) (n:=0) (g:=r8 M id) (fi:=fun _=>none) (key:=key) (q:=(sc,nl)) (Nat.zero_le _) (fun k=>by rw [Sk.out k];trivial) yg dC
     (fun h=>by have:=sW.out.clow _ h;omega) ⟨na,nc,rfl,jJ,fun k hk=>⟨zz13 (eD.out k hk).2 yh,fun h=>by
       have h1:=eD.out k hk;rcases h with h|h
       ·have:=H.out.olow _ h;omega
       ·omega,.inr hk⟩⟩ (fun k hk hc h=>h.elim (fun h=>h) fun e=>by have:=sW.out.clow _ hc;omega) (fun _=> .inl) (fun k=>by rw [a3z hqk,rG.out];simp)
   have hT:=a8R (w:=w5) (w8:=w8) (mi:=w5.heap.size) (own':=fun k=>own k\/k=w5.heap.size) (C':=fun k=>C k\/(Value.slice na nl.length nc).ownBlock=some k) sW.out Cz.out sQ.out hqk lT (by have:=kv.out;split<;>omega) xA.out
    (fun x hx=>by unfold T5;rw [if_neg (fun h=>hx (by cases h;rfl))]) ⟨.inr rfl,zo,zo,hw8⟩ (fun x _ h=>by
      have h1:=Cz.out x;rw [h] at h1;obtain ⟨mi,e, -, -, -,h2⟩:=h1;cases e
      exact absurd h2.lt (Nat.lt_irrefl _)) oM dL (fun _=> .inl) (fun _ h=>h) (fun h=>absurd h (Nat.lt_irrefl _)) (fun _=> .inl)
    (fun k h=>h.elim (fun h=>zz13 (sW.out.clow _ h) yh) (fun h=>zz13 (eD.out k h).2 yh)) (fun k h1 h2=>by
      rcases h1 with h1|h1<;>rcases h2 with h2|h2
      ·exact H.out.dis _ h1 h2
      ·have:=H.out.olow _ h1;have:=eD.out k h2;omega
      ·have:=sW.out.clow _ h2;omega
      ·have:=eD.out k h2;omega) ⟨Hid.out,Nat.le_of_lt_succ oC,xB.out⟩ hsc
   have iX:Mod own w w8:=(oI.out.mono (fun _ _ h=>h.elim)).trans dL (fun k hk h=>by
    rcases h with h|h
    ·omega
    ·rw [h];exact H.out.ob.2)
   refine hh8 hT iX oL dL jJ lT oM yg fun HT oN Su JR JS GN Oy Sv=> ?_;refine hh2 dC hqk fun oO GQ=> ?_;clear hT iX oL dL jJ lT oM yg dC hqk
   go_wp2_with fail
   go_ret;exact .inr ⟨GQ.out,rfl,_,_,⟨mo,HT.out⟩,fun _=> .inl,fun k h=>h.elim .inl (fun e=> .inr zo),fun k h=>h.elim .inl (fun h=> .inr (eD.out k h).1),oN.out⟩
  obtain ⟨ni,fi,hi1,hi2,hi3⟩:=CB;have hd5:Mod (fun _=>False) w5 w5.drew:=(Mod.refl _ _).drew;have tF:=(Aq.out.mod hd5 (fun h=>h)).look A5 Tryz.underlying113 (R5 w5.drew) hkx;rw [uM.out] at tF;have hS:b4a b mo mi w.heap.size id sc na nl.length nc w5.drew:=⟨b5,e0,e1,tF⟩;have oP:=hi1.mod hd5 (fun h=>h);have Oz:=hi1.lt;have JU:mi<w.heap.size:=H.out.olow _ ig;refine hh8 uX hfn ig hi1 hi2 hi3 hd5 tF fun CE GM oQ uP su GR Sw Sy=> ?_;refine hh2 oP hkx fun yj CG=> ?_;clear uX hfn ig hi1 hi2 hi3 hd5 tF oP hkx
  go_wp2_with ((with_reducible refine d9 34 (.tmp 8) (.tmp 23) ?_);refine ⟨rfl,[.string s,.slice fa fn fc],rfl,rfl,zk,rfl, ?_⟩;rw [xZ.out])
  refine i6 [.rd 0,.rd 1,.rd 2,.rd 3,.rd 4,.rd 5,.rd 6,.rd 7,.go 8] [0,1,2,3,4,5,6,7] (b4a b mo mi w.heap.size id sc na nl.length nc) zk zk (fun _ _ d _ _ h=>(by cases d<;>exact h)) ?_
  iterate 8 (
   refine wrd hS fun K hK=> ?_
   go_simp;refine hK _ ?_;clear hK K)
  refine wgo fun K hK=> ?_;(try simp only [zz1,zz2,zz3]);refine a8M 202 _ _ _ rfl ?_;refine ⟨9,34,mi,ni,fi,.string key,yj.out,A2,Tryz.underlying202,by unfold maxLen;have:=su.out;omega,rfl,X7 key (by unfold maxLen;omega), ?_⟩;intro w8 yg dC;refine hK _ _ (fun h=>absurd h zd) ?_;clear hK K hS;refine p8 ?_;have dL:Mod (fun k=>k=mi) w5 w8:=(Sw.out.mono (fun _ _ h=>h.elim)).trans dC zi;have oU:Mod (fun k=>k=mi\/k=mo) w5 w8:=dL.mono (fun _ _ h=> .inl h)
  have jJ:=lS.out.mod dL (fun k hk h=>by
   have h1:=eD.out k hk;have h2:k=mi:=h
   omega)
  have lT:=Aq.out.mod dL (fun h=>oJ h.symm);have yh:=dL.size;have hqk:r8 M id (i7 (sc,nl))=none:=by rw [rG.out];exact CE.out
  have oM:KAt w8 own (fun k=>C k\/(Value.slice na nl.length nc).ownBlock=some k) mi (N+1) (r8 (M++[(id,(sc,nl))]) id):=
   a8T (w:=w5) (own:=own) (C:=C) (N:=N) (n:=ni) (g:=r8 M id) (fi:=fi) (key:=key) (q:=(sc,nl)) su.out GR.out yg dL
    (H.out.dis _ oQ.out) ⟨na,nc,rfl,jJ,fun k hk=>⟨zz13 (eD.out k hk).2 yh,fun h=>by
      have h1:=eD.out k hk;have:=H.out.olow _ h
      omega,.inr hk⟩⟩ (fun k hk hc h=>h) (fun _=> .inl) (fun k=>by rw [a3z hqk,rG.out];simp)
  have hT:=a8R (w:=w5) (w8:=w8) (mi:=mi) (own':=own) (C':=fun k=>C k\/(Value.slice na nl.length nc).ownBlock=some k) sW.out Cz.out sQ.out hqk lT (by have:=kv.out;omega) GM.out
   (fun x hx=>rfl) ⟨oQ.out,tu,oJ,zo⟩ (fun x hx h=>hx (sQ.out x id mi h GM.out)) oM oU (fun _ h=>h) (fun _ h=> .inl h) (fun _=>oQ.out) (fun _=> .inl)
   (fun k h=>h.elim (fun h=>zz13 (sW.out.clow _ h) yh) (fun h=>zz13 (eD.out k h).2 yh)) (fun k h1 h2=>by
     rcases h2 with h2|h2
     ·exact H.out.dis _ h1 h2
     ·have:=H.out.olow _ h1;have:=eD.out k h2;omega) ⟨Hid.out,Nat.le_of_lt_succ oC,xB.out⟩ hsc
  have iX:Mod own w w8:=(oI.out.mono (fun _ _ h=>h.elim)).trans dL (fun k hk h=>by
   have h2:k=mi:=h
   rw [h2];exact oQ.out)
  refine hh8 hT iX dL oU jJ lT oM yg fun HT oN JR OA JS GN Oy Sv=> ?_;refine hh2 dC hqk fun oO GQ=> ?_;clear hT iX dL oU jJ lT oM yg dC hqk
  go_wp2_with fail
  go_ret;exact .inr ⟨GQ.out,rfl,_,_,⟨mo,HT.out⟩,fun _ h=>h,fun k h=> .inl h,fun k h=>h.elim .inl (fun h=> .inr (eD.out k h).1),oN.out⟩
end
open Go.RowKit
theorem a0h.cong {w:World} {b mo:Nat} {own own' C C':Nat->Prop} {M:List (Int×Fil)} {N:Nat} (h:a0h w b mo own C M N) (h1:∀k,own k->own' k) (h2:∀k,C k->C' k) (h3:∀k,own' k->¬C' k) (h4:∀k,own' k->k<w.heap.size) (h5:∀k,C' k->k<w.heap.size) (h6:∀k,C k->own' k->own k):a0h w b mo own' C' M N:=by
 refine ⟨h.row,⟨h1 _ h.ob.1,h1 _ h.ob.2⟩,h.ne, ?_,h.nd,h.low,h3,h4,h5,h.wf,h.sc⟩;obtain ⟨n,f,g1,g2,g3,g4⟩:=h.om;exact ⟨n,f,g1,g2,fun id=>(g3 id).cong (fun k _ hc ho=>h6 k hc ho) h1 h2 (Nat.le_refl _) (fun _=>rfl),g4⟩
theorem Tab.cong {w:World} {b:Nat} {own own' C C':Nat->Prop} {M:List (Int×Fil)} {N:Nat} (h:Tab w b own C M N) (h1:∀k,own k->own' k) (h2:∀k,C k->C' k) (h3:∀k,own' k->¬C' k) (h4:∀k,own' k->k<w.heap.size) (h5:∀k,C' k->k<w.heap.size):Tab w b own' C' M N:=by
 obtain ⟨mo,h⟩:=h;exact ⟨mo,h.cong h1 h2 h3 h4 h5 (fun k hc ho=>absurd (h2 k hc) (h3 k ho))⟩
def J9 (w:World) (ow:Ow) (c b:Nat) (M:List (Int×Fil)) (N:Nat):Prop:=Tab w b (fun k=>ow k=c) (fun k=>ow k=0/\k<w.heap.size) M N
theorem J9.mov {F:Nat->Prop} {w0 w w':World} {ow ow':Ow} {c b:Nat} {M:List (Int×Fil)} {N:Nat} (h:J9 w ow c b M N) (hw:Owd w0 w ow) (s:Mov F w ow w' ow') (h0:¬F 0) (hc:¬F c) (h2:2<=c):J9 w' ow' c b M N:=by
 have h1:Tab w' b (fun k=>ow k=c) (fun k=>ow k=0/\k<w.heap.size) M N:=Tab.mod h s.md (fun k _ hf=>by
  have hf':F (ow k):=hf
  exact ⟨fun e=>hc (by rw [<-e];exact hf'),fun e=>h0 (by rw [<-e.1];exact hf')⟩)
 refine h1.cong (fun k hk=> ?_) (fun k hk=> ?_) (fun k hk hk2=> ?_) (fun k hk=> ?_) (fun k hk=>hk.2)
 ·have hk':ow k=c:=hk;show ow' k=c;rw [s.old k (hw.hi k zo)];exact hk'
 ·exact ⟨by rw [s.old k hk.2];exact hk.1,zz13 hk.2 s.md.size⟩
 ·have hk':ow' k=c:=hk;have:=hk2.1;omega
 have hk':ow' k=c:=hk;by_cases hl:k<w'.heap.size
 ·exact hl
 rw [s.top k zo] at hk';omega
theorem J9.new {w0 w w':World} {ow:Ow} {c b:Nat} {own' C':Nat->Prop} {M:List (Int×Fil)} {N:Nat} (hw:Owd w0 w ow) (h2:2<=c) (h:Tab w' b own' C' M N) (ho:∀k,own' k->ow k=c\/w.heap.size<=k)
 (hC:∀k,C' k->(ow k=0/\k<w.heap.size)\/w.heap.size<=k) (hm:Mod (fun k=>ow k=c) w w'):J9 w' (A6 w w' ow own' C' c) c b M N:=by
 have hl:=h.low;obtain ⟨mo,hat⟩:=h;have hd:=hat.dis;refine Tab.cong (own:=own') (C:=C') ⟨mo,hat⟩ (fun k hk=> ?_) (fun k hk=> ?_) (fun k hk hk2=> ?_) (fun k hk=> ?_) (fun k hk=>hk.2)
 ·show A6 w w' ow own' C' c k=c;rcases ho k hk with e|e
  ·rw [D7 (hw.hi k zo)];exact e
  exact O1 e (hl.1 k hk) hk
 ·refine ⟨?_,hl.2 k hk⟩;rcases hC k hk with e|e
  ·rw [D7 e.2];exact e.1
  exact a1C e (hl.2 k hk) (fun ho=>hd k ho hk) hk
 ·have hk':A6 w w' ow own' C' c k=c:=hk;have:=hk2.1;omega
 have hk':A6 w w' ow own' C' c k=c:=hk;by_cases e:k<w.heap.size
 ·exact zz13 e hm.size
 exact (a4z zo hk' h2).2
theorem a0g.cong {w:World} {b m1 m2:Nat} {own own' C C':Nat->Prop} {I:List (Int×Fil)} {T:Nat} (h:a0g w b m1 m2 own C I T) (h1:∀k,own k->own' k) (h2:∀k,C k->C' k) (h3:∀k,own' k->¬C' k) (h4:∀k,own' k->k<w.heap.size) (h5:∀k,C' k->k<w.heap.size):a0g w b m1 m2 own' C' I T:=by
 refine ⟨h.row,h.nd,⟨h1 _ h.ob.1,h1 _ h.ob.2.1,h1 _ h.ob.2.2⟩,h.ne, ?_,h.pm.cong (fun k _ hk=>h1 k hk) (fun _ _=>rfl) (Nat.le_refl _),h.low,h4,h5,h.wf,h.sc⟩;obtain ⟨f,g1,g2⟩:=h.fm;exact ⟨f,g1,fun id=>(g2 id).cong (fun k _ hc ho=>absurd (h2 k hc) (h3 k ho)) h2⟩
def a17 (w:World) (ow:Ow) (c b:Nat) (I:List (Int×Fil)) (T:Nat):Prop:=Idx w b (fun k=>ow k=c) (fun k=>ow k=0/\k<w.heap.size) I T
theorem a17.mov {F:Nat->Prop} {w0 w w':World} {ow ow':Ow} {c b:Nat} {I:List (Int×Fil)} {T:Nat} (h:a17 w ow c b I T) (hw:Owd w0 w ow) (s:Mov F w ow w' ow') (h0:¬F 0) (hc:¬F c) (h2:2<=c):a17 w' ow' c b I T:=by
 have h1:Idx w' b (fun k=>ow k=c) (fun k=>ow k=0/\k<w.heap.size) I T:=Idx.mod2 h s.md (fun k _ hf=>by
  have hf':F (ow k):=hf
  exact ⟨fun e=>hc (by rw [<-e];exact hf'),fun e=>h0 (by rw [<-e.1];exact hf')⟩)
 obtain ⟨m1,m2,h1⟩:=h1;refine ⟨m1,m2,h1.cong (fun k hk=> ?_) (fun k hk=> ?_) (fun k hk hk2=> ?_) (fun k hk=> ?_) (fun k hk=>hk.2)⟩
 ·have hk':ow k=c:=hk;show ow' k=c;rw [s.old k (hw.hi k zo)];exact hk'
 ·exact ⟨by rw [s.old k hk.2];exact hk.1,zz13 hk.2 s.md.size⟩
 ·have hk':ow' k=c:=hk;have:=hk2.1;omega
 have hk':ow' k=c:=hk;by_cases hl:k<w'.heap.size
 ·exact hl
 rw [s.top k zo] at hk';omega
theorem a17.new {w0 w w':World} {ow:Ow} {c b:Nat} {own' C':Nat->Prop} {I:List (Int×Fil)} {T:Nat} (hw:Owd w0 w ow) (h2:2<=c) (h:Idx w' b own' C' I T) (ho:∀k,own' k->ow k=c\/w.heap.size<=k) (hd:∀k,own' k->¬C' k)
 (hC:∀k,C' k->(ow k=0/\k<w.heap.size)\/w.heap.size<=k) (hm:Mod (fun k=>ow k=c) w w'):a17 w' (A6 w w' ow own' C' c) c b I T:=by
 have hl:=h.low;obtain ⟨m1,m2,hat⟩:=h;refine ⟨m1,m2,hat.cong (fun k hk=> ?_) (fun k hk=> ?_) (fun k hk hk2=> ?_) (fun k hk=> ?_) (fun k hk=>hk.2)⟩
 ·show A6 w w' ow own' C' c k=c;rcases ho k hk with e|e
  ·rw [D7 (hw.hi k zo)];exact e
  exact O1 e (hl.1 k hk) hk
 ·refine ⟨?_,hl.2 k hk⟩;rcases hC k hk with e|e
  ·rw [D7 e.2];exact e.1
  exact a1C e (hl.2 k hk) (fun ho=>hd k ho hk) hk
 ·have hk':A6 w w' ow own' C' c k=c:=hk;have:=hk2.1;omega
 have hk':A6 w w' ow own' C' c k=c:=hk;by_cases e:k<w.heap.size
 ·exact zz13 e hm.size
 exact (a4z zo hk' h2).2
def a7Q (w:World) (ow:Ow):Option Value->Option Fil->Prop
 |none,none=>True
 |some v,some q=>∃a cap,v= .agg #[.string q.1,.slice a q.2.length cap]/\q6 w ow 7 (.slice a q.2.length cap) q.2.length (q8 q.2)
 |_,_=>False
theorem a7Q.mov {F:Nat->Prop} {w w':World} {ow ow':Ow} {v:Option Value} {q:Option Fil} (h:a7Q w ow v q) (s:Mov F w ow w' ow') (h0:¬F 0):a7Q w' ow' v q:=by
 cases v<;>cases q
 ·trivial
 ·exact h
 ·exact h
 obtain ⟨a,cap,h1,h2⟩:=h;exact ⟨a,cap,h1,h2.mov s h0 zo⟩
def a7R (w:World) (ow:Ow):Option Value->Option (ByteArray×Fil)->Prop
 |none,none=>True
 |some v,some q=>∃a cap,v= .agg #[.string q.1,.string q.2.1,.slice a q.2.2.length cap]/\q6 w ow 7 (.slice a q.2.2.length cap) q.2.2.length (q8 q.2.2)
 |_,_=>False
theorem a7R.mov {F:Nat->Prop} {w w':World} {ow ow':Ow} {v:Option Value} {q:Option (ByteArray×Fil)} (h:a7R w ow v q) (s:Mov F w ow w' ow') (h0:¬F 0):a7R w' ow' v q:=by
 cases v<;>cases q
 ·trivial
 ·exact h
 ·exact h
 obtain ⟨a,cap,h1,h2⟩:=h;exact ⟨a,cap,h1,h2.mov s h0 zo⟩
theorem l7 {F:Nat->Prop} {w w':World} {ow ow':Ow} {kt:TypeId} {b n c:Nat} {f:Lit->Option Value} (h:l8 w kt b n f) (ht:ow b=c) (s:Mov F w ow w' ow') (hc:¬F c):l8 w' kt b n f/\ow' b=c:=by
 refine ⟨h.mod s.md (fun hf=> ?_),by rw [s.old b h.lt];exact ht⟩;have hf':F (ow b):=hf;rw [ht] at hf';exact hc hf'
structure a0i (w:World) (ow:Ow) (c b:Nat) (S:List Sb):Prop where
 tag:ow b=c
 nd:(S.map Prod.fst).Nodup
 mp:∃f,l8 w 3 b S.length f/\∀id:Int,a7R w ow (f (.int .i64 id)) (a0A S id)
theorem a0i.mov {F:Nat->Prop} {w w':World} {ow ow':Ow} {c b:Nat} {S:List Sb} (h:a0i w ow c b S) (s:Mov F w ow w' ow') (h0:¬F 0) (hc:¬F c):a0i w' ow' c b S:=by
 obtain ⟨f,h1,h2⟩:=h.mp;obtain ⟨h3,h4⟩:=l7 h1 h.tag s hc;exact ⟨h4,h.nd,f,h3,fun id=>(h2 id).mov s h0⟩
def Z5 (w:World) (ow:Ow) (mi:Nat) (l:List Fil):Prop:=∃f,l8 w 9 mi l.length f/\∀k,a7Q w ow (f (.string k)) (kF l k)
theorem Z5.mov {F:Nat->Prop} {w w':World} {ow ow':Ow} {mi c:Nat} {l:List Fil} (h:Z5 w ow mi l) (ht:ow mi=c) (s:Mov F w ow w' ow') (h0:¬F 0) (hc:¬F c):Z5 w' ow' mi l/\ow' mi=c:=by
 obtain ⟨f,h1,h2⟩:=h;obtain ⟨h3,h4⟩:=l7 h1 ht s hc;exact ⟨⟨f,h3,fun k=>(h2 k).mov s h0⟩,h4⟩
def a0B (w:World) (ow:Ow) (c mb:Nat):Option Value->List Fil->Prop
 |none,l=>l=[]
 |some v,l=>∃mi,v= .map (some mi)/\mi≠mb/\ow mi=c/\Z5 w ow mi l
theorem a0B.mov {F:Nat->Prop} {w w':World} {ow ow':Ow} {c mb:Nat} {v:Option Value} {l:List Fil} (h:a0B w ow c mb v l) (s:Mov F w ow w' ow') (h0:¬F 0) (hc:¬F c):a0B w' ow' c mb v l:=by
 cases v
 ·exact h
 obtain ⟨mi,h1,h2,h3,h4⟩:=h;obtain ⟨h5,h6⟩:=h4.mov h3 s h0 hc;exact ⟨mi,h1,h2,h6,h5⟩
structure M7 (w:World) (ow:Ow) (c mb:Nat) (G:Int->List Fil) (K:Nat):Prop where
 tag:ow mb=c
 mp:∃n f,l8 w 3 mb n f/\n<=K/\∀id:Int,a0B w ow c mb (f (.int .i64 id)) (G id)
 lt:∀id,(G id).Pairwise fun a b=>i7 a<i7 b
theorem M7.mov {F:Nat->Prop} {w w':World} {ow ow':Ow} {c mb:Nat} {G:Int->List Fil} {K:Nat} (h:M7 w ow c mb G K) (s:Mov F w ow w' ow') (h0:¬F 0) (hc:¬F c):M7 w' ow' c mb G K:=by
 obtain ⟨n,f,h1,h2,h3⟩:=h.mp;obtain ⟨h4,h5⟩:=l7 h1 h.tag s hc;exact ⟨h5,⟨n,f,h4,h2,fun id=>(h3 id).mov s h0 hc⟩,h.lt⟩
structure BAd where
 v:Value
 nv:Value
 tb:Nat->Nat
 ib:Nat->Nat
 sb:Nat->Nat
 mb:Nat->Nat
def ptr (b:Nat):Value:= .pointer (some ⟨b,0,none⟩)
def BAd.rest (a:BAd) (id:Int):List Value:=
 [.int .i64 id,a.nv,ptr (a.tb 0),ptr (a.ib 0),.map (some (a.sb 0)),.map (some (a.mb 0)),ptr (a.tb 1),ptr (a.ib 1),.map (some (a.sb 1)),.map (some (a.mb 1)),
  ptr (a.tb 2),ptr (a.ib 2),.map (some (a.sb 2)),.map (some (a.mb 2)),ptr (a.tb 3),ptr (a.ib 3),.map (some (a.sb 3)),.map (some (a.mb 3))]
structure a3F (w:World) (ow:Ow) (c t tb ib sb mb:Nat) (R:RS):Prop where
 tab:J9 w ow (c+1+t) tb R.M R.N
 idx:a17 w ow (c+5+t) ib R.I R.T
 sub:a0i w ow (c+9+t) sb R.S
 snt:M7 w ow (c+13+t) mb R.G R.K
structure M0 (w:World) (ow:Ow) (c g:Nat) (id:Int) (near:List Int) (B:BS) (a:BAd):Prop where
 c2:2<=c
 log:∃L:List Lr,M5 w ow c (c+17) g (a.rest id) 118 a.v L/\L.map Prod.fst=B.L
 near:q6 w ow 1 a.nv near.length (near.map (Value.int .i64))
 rea:∀t,t<4->a3F w ow c t (a.tb t) (a.ib t) (a.sb t) (a.mb t) (B.R t)
def Bro (w:World) (ow:Ow) (c g:Nat) (id:Int) (near:List Int) (B:BS):Prop:=∃a,M0 w ow c g id near B a
theorem a3F.mov {F:Nat->Prop} {w0 w w':World} {ow ow':Ow} {c t tb ib sb mb:Nat} {R:RS} (h:a3F w ow c t tb ib sb mb R) (hw:Owd w0 w ow) (s:Mov F w ow w' ow') (h0:¬F 0) (hF:¬F (c+1+t)/\¬F (c+5+t)/\¬F (c+9+t)/\¬F (c+13+t)) (h2:2<=c):a3F w' ow' c t tb ib sb mb R:=
 ⟨h.tab.mov hw s h0 hF.1 zo,h.idx.mov hw s h0 hF.2.1 zo,h.sub.mov s h0 hF.2.2.1,h.snt.mov s h0 hF.2.2.2⟩
theorem M0.mov {F:Nat->Prop} {w0 w w':World} {ow ow':Ow} {c g:Nat} {id:Int} {near:List Int} {B:BS} {a:BAd} (h:M0 w ow c g id near B a) (hw:Owd w0 w ow) (s:Mov F w ow w' ow') (h0:¬F 0) (hF:∀t,F t->t<c\/c+18<=t):M0 w' ow' c g id near B a:=by
 obtain ⟨L,h1,h2⟩:=h.log;have hn:∀t,c<=t->t<c+18->¬F t:=fun t h1 h2 h3=>by have:=hF t h3;omega
 exact ⟨h.c2,⟨L,h1.mov s h0 (hn c zo zo) (hn (c+17) zo zo),h2⟩,h.near.mov s h0 zo,fun t ht=>(h.rea t ht).mov hw s h0 ⟨hn _ zo zo,hn _ zo zo,hn _ zo zo,hn _ zo zo⟩ h.c2⟩
theorem Bro.mov {F:Nat->Prop} {w0 w w':World} {ow ow':Ow} {c g:Nat} {id:Int} {near:List Int} {B:BS} (h:Bro w ow c g id near B) (hw:Owd w0 w ow) (s:Mov F w ow w' ow') (h0:¬F 0) (hF:∀t,F t->t<c\/c+18<=t):Bro w' ow' c g id near B:=by
 obtain ⟨a,h⟩:=h;exact ⟨a,h.mov hw s h0 hF⟩
theorem b4d (w0 w:World) (hl:L4 w0 w) (sc:ByteArray) (cv:Value) (l:List Cnd) (hv:i8 w 7 cv l.length (q8 l)) (hll:l.length<20) (hcs:∀c∈l,c.fits) (hsc:sc.size<=1000000):
 Calls Tryz.prog 116 #[.agg #[.string sc,cv]] w fun e w'=>e= .returned (.string (str (i7 (sc,j7 l))))/\Mod (fun _=>False) w w':=by
 obtain ⟨wa,ak,ae,aa,ah⟩:=g6 w (.cells #[.string sc,cv] 34);have hnm:=a5n w0 wa (hl.mod0 ae) sc cv l (hv.mod ae zi) hll hcs;have c0:wa.cell? ⟨w.heap.size,0,none⟩=some (.string sc):=d6 aa rfl;have c1:wa.cell? ⟨w.heap.size,1,none⟩=some cv:=d6 aa rfl;obtain ⟨nl,hnl⟩:∃nl,j7 l=nl:=⟨_,rfl⟩;rw [hnl] at hnm⊢;have hnf:∀c∈nl,c.fits:=by rw [<-hnl];exact Z2 hcs
 have hlen:nl.length<20:=by rw [<-hnl];exact Nat.lt_of_le_of_lt (X5 l) hll
 refine hh8 hl hv hcs hnm hnl hnf ak ae fun Hl Hv iI gY Hnl xB aB ai=> ?_;refine hh1 aa fun aC=> ?_;clear hl hv hcs hnm hnl hnf ak ae aa ah
 go_enter Tryz.func116,Tryz.ntmps116
 go_wp2_with (rw [show w.alloc _=wa from aB.out])
 refine gY.out.mono ?_;rintro e w2 ⟨na,nc,rfl,hno,hnb,hm2⟩;have aK:=ai.out.trans hm2 zi;have hpr:=a1W w0 w2 (Hl.out.mod0 aK) sc (.slice na nl.length nc) nl hno.rd zo hsc xB.out;refine hh5 hno hnb hm2 aK hpr fun Hno kz aS aN rD=> ?_;clear hno hnb hm2 aK hpr
 go_wp2_with fail
 refine rD.out.mono ?_;rintro e w3 ⟨rfl,au⟩;have hm:=aN.out.trans au zi;refine hh1 hm fun Hm=> ?_;clear hm
 go_wp2_with fail
 go_ret;exact ⟨rfl,Hm.out⟩
theorem b4e {w w6:World} {own C:Nat->Prop} {mi N n6:Nat} {g g':List UInt8->Option Fil} {fi:Lit->Option Value} {key:List UInt8} (h3:∀k,G9 w own C (fi (.string k)) (g k))
 (h6:l8 w6 9 mi n6 (b1C fi (.string key))) (hn:n6<=N) (hm:Mod (fun k=>k=mi) w w6) (gm:¬C mi) (hg:∀k,g' k=if k=key then none else g k):KAt w6 own C mi N g':=by
 refine ⟨_,_,h6,hn,fun k=> ?_⟩;rw [hg];unfold b1C;by_cases e:k=key
 ·rw [if_pos e,if_pos (by rw [e])];trivial
 rw [if_neg e,if_neg (fun h=>e (Lit.string.inj h))];exact (h3 k).mod2 hm (fun k _ e h=>gm (e▸h))
theorem a1D {M:List (Int×Fil)} {p:Int×Fil} {id:Int} {k:List UInt8} (h:p∈a4h M id k):p∈M:=(List.mem_filter.1 h).1
theorem b4f {w w8:World} {b mo mi N n:Nat} {own C:Nat->Prop} {M:List (Int×Fil)} {f:Lit->Option Value} {id:Int} {key:List UInt8} (h:a0h w b mo own C M N) (hO:l8 w 3 mo n f) (hn:n<=N)
 (hf1:∀id:Int,a2E w own C b mo N (r8 M id) (f (.int .i64 id))) (hf2:∀(x y:Int) mi,f (.int .i64 x)=some (.map (some mi))->f (.int .i64 y)=some (.map (some mi))->x=y)
 (lQ:f (.int .i64 id)=some (.map (some mi))) (gm:own mi/\mi≠b/\mi≠mo) (hK:KAt w8 own C mi N (r8 (a4h M id key) id)) (hm:Mod (fun k=>k=mi) w w8):a0h w8 b mo own C (a4h M id key) N:=by
 refine ⟨hm.heap h.row (fun e=>gm.2.1 e.symm),h.ob,h.ne,⟨n,f,hO.mod hm (fun e=>gm.2.2 e.symm),hn,fun x=> ?_,hf2⟩,h.nd.sublist List.filter_sublist,Nat.le_trans (List.length_filter_le _ _) h.low,h.dis,fun k hk=>zz13 (h.olow k hk) hm.size,fun k hk=>zz13 (h.clow k hk) hm.size,fun p hp=>h.wf p (a1D hp),fun p hp=>h.sc p (a1D hp)⟩;by_cases e:x=id
 ·subst e;rw [lQ];exact ⟨mi,rfl,gm.1,gm.2.1,gm.2.2,hK⟩
 have h1:=(hf1 x).mod hm (fun m hm' hf=>e (hf2 x id mi (by rw [hm',hf]) lQ)) (fun k hk hf hc=>h.dis k (hf▸gm.1) hc);exact h1.cong (fun k _ _ h=>h) (fun _ h=>h) (fun _ h=>h) (Nat.le_refl _) (fun k=>by rw [a6l,if_neg (fun h=>e h.1)])
def b1M (w:World) (b:Nat) (own C:Nat->Prop) (M:List (Int×Fil)) (N:Nat) (id:Int) (k:List UInt8) (e:Ending) (w':World):Prop:=
 (r8 M id k=none/\e= .returned (.bool false)/\Mod (fun _=>False) w w')\/(r8 M id k≠none/\e= .returned (.bool true)/\Tab w' b own C (a4h M id k) N/\Mod own w w')
theorem b4g (w0 w:World) (hl:L4 w0 w) (b:Nat) (own C:Nat->Prop) (M:List (Int×Fil)) (N:Nat) (h:Tab w b own C M N) (_hN:N<=1000000) (id:Int) (hid:(Lit.int .i64 id).wf=true)
 (sc:ByteArray) (cv:Value) (l:List Cnd) (hv:i8 w 7 cv l.length (q8 l)) (hll:l.length<20) (hcs:∀c∈l,c.fits) (hsc:sc.size<=1000000):
 Calls Tryz.prog 82 #[.pointer (some ⟨b,0,none⟩),.int .i64 id,.agg #[.string sc,cv]] w (b1M w b own C M N id (i7 (sc,j7 l))):=by
 obtain ⟨mo,h⟩:=h;obtain ⟨a,cap,rfl,hcap⟩:∃a c,cv= .slice a l.length c/\l.length<=c:=by obtain ⟨-,a,c,h,h2, -⟩:=hv;exact ⟨a,c,h,h2⟩
 obtain ⟨wa,ak,ae,aa,ah⟩:=g6 w (.cells #[.string sc,.slice a l.length cap] 34);have hk:=b4d w0 wa (hl.mod0 ae) sc (.slice a l.length cap) l (hv.mod ae zi) hll hcs hsc;have tH:=J7 sc (j7 l) (Z2 hcs);have oC:(j7 l).length<20:=Nat.lt_of_le_of_lt (X5 l) hll;obtain ⟨key,hkey⟩:∃key,i7 (sc,j7 l)=key:=⟨_,rfl⟩;rw [hkey] at hk⊢;have hkl:key.length<=1000000000:=by rw [show t8 sc (j7 l)=key from hkey] at tH;omega
 have c0:wa.cell? ⟨w.heap.size,0,none⟩=some (.string sc):=d6 aa rfl;have c1:wa.cell? ⟨w.heap.size,1,none⟩=some (.slice a l.length cap):=d6 aa rfl;refine hh8 hl h hv hcs ak ae aa hk fun Hl H Hv iI aB ai aC Hk=> ?_;refine hh2 hid hkey fun Hid eu=> ?_;clear hl h hv hcs ak ae aa hk hid hkey ah tH
 go_enter Tryz.func82,Tryz.ntmps82
 go_wp2_with (rw [show w.alloc _=wa from aB.out])
 refine Hk.out.mono ?_;rintro e w4 ⟨rfl,aM⟩;have aV:=ai.out.trans aM zi;have eU:=H.out.mod aV (fun _ _ h=>h.elim);obtain ⟨n,f,hf1,hf2,hf3,kG⟩:=eU.om;have hlk:=hf1.look A5 Tryz.underlying113 (R5 w4) (Maps.keyOf_int_mk Tryz.underlying3 Hid.out);obtain ⟨s,fa,fn,fc,hlk2⟩:=a8S (hf3 id) key (by unfold maxLen;omega);obtain ⟨ok,hok⟩:∃ok,(r8 M id key).isSome=ok:=⟨_,rfl⟩;rw [hok] at hlk2;have b0:w4.cell? ⟨b,0,none⟩=some (.map (some mo)):=d6 eU.row rfl;obtain ⟨w5,gN,cK,jG,oD⟩:=g6 w4 (.cells #[.string s,.slice fa fn fc] 34);have xV:=eU.mod cK (fun _ _ h=>h.elim);have b5:w5.cell? ⟨b,0,none⟩=some (.map (some mo)):=d6 xV.row rfl;have hv5:=fun x=>(hf3 x).mod cK zi (fun _ _ h=>h.elim);have oG:=hf1.mod cK (fun h=>h);have xW:=oG.look A5 Tryz.underlying113 (R5 w5) (Maps.keyOf_int_mk Tryz.underlying3 Hid.out);have hval:=(hv5 id).val;obtain ⟨vv,hvv⟩:∃vv,(f (.int .i64 id)).getD (.map none)=vv:=⟨_,rfl⟩;rw [hvv] at hlk hlk2 xW hval;have bD:=aV.trans cK zi;refine hh8 xV hv5 oG hval hvv bD eU hf1 fun sW Cz Aq tq uM bK Sg Hf1=> ?_;refine hh8 hf2 hf3 kG aM aV cK jG gN fun kv xX sQ fu bS JM JN xZ=> ?_;refine hh1 hok fun bY=> ?_;clear xV hv5 oG hval hvv bD eU hf1 hf2 hf3 kG aM aV cK jG gN hok oD c0 c1
 cases ok with
 |false=>
  go_wp2_with ((with_reducible refine d9 34 (.tmp 8) (.tmp 21) ?_);refine ⟨rfl,[.string s,.slice fa fn fc],rfl,rfl,zk,rfl, ?_⟩;rw [xZ.out])
  go_ret;refine .inl ⟨?_,rfl,bK.out⟩;have h1:=bY.out
  cases h2:r8 M id key with
  |none=>rfl
  |some q=>rw [h2] at h1;cases h1
 | true=>
  have uX:r8 M id key≠none:=fun h=>by have h1:=bY.out;rw [h] at h1;cases h1
  rcases tq.out with ⟨-, -,hgn⟩|⟨mi,hfn,rfl,ig,tu,oJ,CB⟩
  ·exact absurd (hgn key) uX
  obtain ⟨ni,fi,hi1,hi2,hi3⟩:=CB;obtain ⟨w8,hd1,hd2,hd3⟩:=hi1.del A2 Tryz.underlying202 (X7 key (by unfold maxLen;omega)) 0;have oM:KAt w8 own C mi N (r8 (a4h M id key) id):=b4e hi3 hd2 (by split<;>omega) hd3 (H.out.dis _ ig) (fun k=>by rw [a6l];simp);have hT:=b4f sW.out Aq.out kv.out Cz.out sQ.out hfn ⟨ig,tu,oJ⟩ oM hd3
  have iX:Mod own w w8:=(bK.out.mono (fun _ _ h=>h.elim)).trans hd3 (fun k hk h=>by
   have h2:k=mi:=h
   rw [h2];exact ig)
  refine hh8 uX hfn ig hi1 hi2 hi3 hd2 hd3 fun CE GM oQ uP su GR WT WU=> ?_;refine hh3 oM hT iX fun Oy HT oN=> ?_;clear uX hfn ig hi1 hi2 hi3 hd2 hd3 oM hT iX
  go_wp2_with ((with_reducible refine d9 34 (.tmp 8) (.tmp 21) ?_);refine ⟨rfl,[.string s,.slice fa fn fc],rfl,rfl,zk,rfl, ?_⟩;rw [xZ.out])
  go_ret;exact .inr ⟨CE.out,rfl,⟨mo,HT.out⟩,oN.out⟩
theorem b1N {l:List Att} {s:ByteArray} {k:Nat} {x:Att} (hk:k<pos l s) (hx:l[k]? =some x):Op.bytesLess x.name.data.toList s.data.toList=true:=by
 induction l generalizing k with
 |nil=>simp at hx
 | cons a l ih=>
  by_cases ha:Op.bytesLess a.name.data.toList s.data.toList=true
  ·have hp:pos (a::l) s=pos l s+1:=by unfold pos;rw [List.takeWhile_cons,if_pos ha];rfl
   cases k with
   |zero=>cases hx;exact ha
   |succ k=>exact ih (k:=k) zo (by simpa using hx)
  have hp:pos (a::l) s=0:=by unfold pos;rw [List.takeWhile_cons,if_neg ha];rfl
  omega
theorem b4h {l:List Att} (hr:M8 l) {s:ByteArray} {k:Nat} {x:Att} (hk:pos l s<=k) (hx:l[k]? =some x):Op.bytesLess x.name.data.toList s.data.toList=false:=by
 obtain ⟨y,hy⟩:∃y,l[pos l s]? =some y:=⟨_,zz5 (by have:=(zz6 hx).1;omega)⟩
 have hyn:Op.bytesLess y.name.data.toList s.data.toList=false:=by
  clear hk hx hr
  induction l with
  |nil=>simp at hy
  | cons a l ih=>
   by_cases ha:Op.bytesLess a.name.data.toList s.data.toList=true
   ·have hp:pos (a::l) s=pos l s+1:=by unfold pos;rw [List.takeWhile_cons,if_pos ha];rfl
    rw [hp,List.getElem?_cons_succ] at hy;exact ih hy
   have hp:pos (a::l) s=0:=by unfold pos;rw [List.takeWhile_cons,if_neg ha];rfl
   rw [hp,List.getElem?_cons_zero] at hy;cases hy
   exact Bool.eq_false_iff.2 ha
 rcases Nat.lt_or_eq_of_le hk with h|rfl
 ·exact hr.more h hy hx hyn
 rw [hy] at hx;cases hx;exact hyn
theorem a6v {α:Type} (p:α->Bool) {l:List α} {j:Nat} {x:α} (h:l[j]? =some x):(l.take (j+1)).filter p=(l.take j).filter p++(if p x=true then [x] else []):=by
 rw [List.take_add_one,List.filter_append,h];congr 1;simp only [Option.toList,List.filter_cons,List.filter_nil]
theorem a8U {s:ByteArray} (h:r4 s=true):s.size<=12:=by
 unfold r4 at h;simp only [Bool.and_eq_true,decide_eq_true_eq] at h;exact h.2.2
theorem b6I {l:List Att} (h:a5A l=true) {a:Att} (ha:a∈l):r4 a.name=true/\a.v.right=true:=by
 unfold a5A at h;simp only [Bool.and_eq_true,List.all_eq_true,decide_eq_true_eq] at h;obtain ⟨k,hk⟩:=List.mem_iff_getElem?.1 ha;have:=h.1 k (List.mem_range.2 (zz6 hk).1);unfold b6v at this;rw [hk] at this;simp only [Bool.and_eq_true] at this;exact ⟨this.1.1.1,this.1.1.2⟩
theorem b5H (s:ByteArray):s.size<=(A4 s).1.size+1+(A4 s).2.1.size:=by
 unfold A4;split
 ·simp only [ByteArray.size_extract];omega
 show s.size<=s.size+1+_;omega
theorem a6w:∀(f:Nat) (s:ByteArray) (k:Nat),scN f s=some k->s.size<=13*k
 |0,s,k,h=>by cases h
 | f +1,s,k,h=>by
  rw [U3] at h;have hc:=b5H s;by_cases h1:r4 (A4 s).1=true
  ·rw [if_pos h1] at h;have hn:=a8U h1;by_cases h2:(A4 s).2.2=true
   ·rw [if_pos h2] at h
    cases h3:scN f (A4 s).2.1 with
    |none=>rw [h3] at h;cases h
    |some k'=>
     rw [h3] at h;have h4:k'+1=k:=by simpa using h
     have:=a6w f _ k' h3;omega
   rw [if_neg h2] at h
   have h4:(A4 s).1=s:=by
    unfold A4 at h2⊢;split
    ·rename_i h5;rw [if_pos h5] at h2;exact absurd rfl h2
    rfl
   rw [h4] at hn;have h4:1=k:=by simpa using h
   omega
  rw [if_neg h1] at h;cases h
theorem a5v {s:ByteArray} (h:B5 s=true):s.size<=52:=by
 unfold B5 at h;rw [Bool.or_eq_true] at h;rcases h with h|h
 ·rw [List.isEmpty_iff,ByteArray.toList_eq] at h;have:s.size=s.data.toList.length:=by rw [Array.length_toList];rfl
  rw [this,h];exact Nat.zero_le _
 unfold scM at h
 cases h1:scN (s.size+1) s with
 |none=>rw [h1] at h;cases h
 |some k=>
  rw [h1] at h;have:=a6w _ _ _ h1;simp only [decide_eq_true_eq] at h;omega
theorem a3G {sc:ByteArray} {l:List Cnd} (h:l0 sc l=true):sc.size<=52/\l.length<=6/\∀c∈l,c.name.size<=12/\(0<=c.op/\c.op<=7)/\(0<=c.v.kind/\c.v.kind<=3)/\c.v.text.size<=40:=by
 unfold l0 at h;simp only [Bool.and_eq_true,List.all_eq_true,decide_eq_true_eq] at h;refine ⟨a5v h.2.1,h.2.2,fun c hc=> ?_⟩;have h1:=h.1 c hc;unfold Cnd.rightB V.right at h1;simp only [Bool.and_eq_true,decide_eq_true_eq] at h1;exact ⟨a8U h1.1,⟨h1.2.1,h1.2.2.1⟩,⟨h1.2.2.2.1,h1.2.2.2.2.1⟩,h1.2.2.2.2.2⟩
structure Fr where
 sc:ByteArray
 a:Option Addr
 c:Nat
 cs:List Cnd
def Fr.cells (f:Fr):List Value:=[.string f.sc,.slice f.a f.cs.length f.c]
def Fr.fil (f:Fr):Fil:=(f.sc,f.cs)
section
open Go.RowKit Go.Sort
theorem a1E (mb:Option Nat) (w:World):Calls Tryz.prog 115 #[.map mb] w fun e w'=>e= .returned (.func (.func 142) #[] #[.pointer (some ⟨w.heap.size,0,none⟩)])/\w'=w.alloc (.cells #[.map mb] 202):=
 Tryz.maps_Keys_115 mb w
theorem a1i {w:World} {b n:Nat} {f:Lit->Option Value} (h:l8 w 9 b n f) (hn:n<=1000000000000) {L:List (List UInt8)} (hnd:L.Nodup) (hm:∀x,x∈L↔(f (.string x)).isSome=true):
 Calls Tryz.prog 114 #[.func (.func 142) #[] #[.pointer (some ⟨w.heap.size,0,none⟩)]] (w.alloc (.cells #[.map (some b)] 202)) (T6 (w.alloc (.cells #[.map (some b)] 202)) 9 ((K4 L).map encStr)):=by
 obtain ⟨D,h1,h2,h3⟩:=h.keysS A2 Tryz.underlying9 hnd hm;refine (Tryz.slices_Sorted_115 b n D a2D w h1 (by rw [h3];unfold maxLen;omega) (by rw [h3];omega)).mono ?_;rintro e w' ⟨v,ss,rfl,hp,hrow, -,hb⟩;obtain ⟨r1,r2⟩:=a6h hrow;have hs:ss.mergeSort (fun x y=>decide (x<=y))=K4 L:=mergeSort_of_perm (hp.trans h2.symm);have hl:ss.length=(K4 L).length:=by rw [<-hs,List.length_mergeSort]
 rw [hs,hl] at r1;exact ⟨v,rfl,by rw [zz10];exact r1,r2,⟨hb.os,hb.tape,hb.output,hb.size,fun k hk _=>hb.block k hk⟩⟩
theorem a2r (w:World):
 Calls Tryz.prog 114 #[.func (.func 142) #[] #[.pointer (some ⟨w.heap.size,0,none⟩)]] (w.alloc (.cells #[.map none] 202)) (T6 (w.alloc (.cells #[.map none] 202)) 9 []):=by
 refine (Tryz.slices_Sorted_nil_115 w).mono ?_;rintro e w' ⟨rfl,hb⟩;exact ⟨_,rfl,g7.nil _ _ _,fun k hk=>by simp [Value.ownBlock] at hk,⟨hb.os,hb.tape,hb.output,hb.size,fun k hk _=>hb.block k hk⟩⟩
theorem a5w {α:Type} {enc:α->Value} {w:World} {a:Option Addr} {n cap:Nat} {l:List α} {j:Nat} {x:α} (h:i8 w 1 (.slice a n cap) n (l.map enc)) (hx:l[j]? =some x):∃g off,a=some ⟨g,off,none⟩/\w.cell? ⟨g,off+j,none⟩=some (enc x):=by
 obtain ⟨h0,a',c',h1, -,h3,h4⟩:=h;cases h1
 have hj:=(zz6 hx).1;have hn:n=l.length:=by rw [zz10] at h0;omega
 cases a with
 |none=>exact absurd (h3 rfl) zo
 |some ad=>
  obtain ⟨g,off,rfl,hc⟩:=h4 ad rfl zo;refine ⟨g,off,rfl,hc j (enc x) ?_⟩;rw [List.getElem?_map,hx];rfl
def FrC (w:World) (C:Nat->Prop) (f:Fr):Prop:=g7 w 126 7 (.slice f.a f.cs.length f.c) f.cs.length (q8 f.cs)/\∀k,(Value.slice f.a f.cs.length f.c).ownBlock=some k->k<w.heap.size/\C k
theorem FrC.mod {w w':World} {F C:Nat->Prop} {f:Fr} (h:FrC w C f) (hm:Mod F w w') (hF:∀k,k<w.heap.size->F k->¬C k):FrC w' C f:=⟨h.1.mod hm (fun k hk hf=>hF k (h.2 k hk).1 hf (h.2 k hk).2),fun k hk=>⟨zz13 (h.2 k hk).1 hm.size,(h.2 k hk).2⟩⟩
theorem a3H {w:World} {own C:Nat->Prop} {v:Option Value} {q:Option Fil} (h:G9 w own C v q) (hq:q≠none):∃f:Fr,v=some (.agg #[.string f.sc,.slice f.a f.cs.length f.c])/\q=some f.fil/\FrC w C f:=by
 cases v<;>cases q
 ·exact absurd rfl hq
 ·exact h.elim
 ·exact h.elim
 rename_i v q
 obtain ⟨a,cap,rfl,h2,h3⟩:=h;exact ⟨⟨q.1,a,cap,q.2⟩,rfl,rfl,h2,fun k hk=>⟨(h3 k hk).1,(h3 k hk).2.2⟩⟩
theorem b5k:B7 Tryz.prog 203 34 2 40:=I8 zk zk
def a06 (M:List (Int×Fil)) (id:Int):List (List UInt8):=(M.filter fun p=>p.1==id).map fun p=>i7 p.2
theorem a18 {M:List (Int×Fil)} {id:Int} {k:List UInt8}:k∈a06 M id↔(r8 M id k).isSome=true:=by
 unfold a06;constructor
 ·intro h;obtain ⟨p,h0,rfl⟩:=List.mem_map.1 h;obtain ⟨h1,h2⟩:=List.mem_filter.1 h0
  cases hf:r8 M id (i7 p.2) with
  |some q=>rfl
  |none=>
   obtain ⟨x,q⟩:=p;have e:x=id:=by simpa using h2
   subst e;exact absurd rfl (a13 hf q h1)
 intro h
 cases hf:r8 M id k with
 |none=>rw [hf] at h;cases h
 |some q=>
  obtain ⟨h1,h2⟩:=X6 hf;exact List.mem_map.2 ⟨(id,q),List.mem_filter.2 ⟨h1,by simp⟩,h2⟩
theorem a6x {M:List (Int×Fil)} (h:M.Pairwise fun p q=>¬(p.1=q.1/\i7 p.2=i7 q.2)) (id:Int):(a06 M id).Nodup:=by
 unfold a06;refine List.pairwise_map.2 ((h.filter _).imp_of_mem fun {a b} ha hb h e=>h ⟨?_,e⟩);have h1:=(List.mem_filter.1 ha).2;have h2:=(List.mem_filter.1 hb).2;simp only [beq_iff_eq] at h1 h2;rw [h1,h2]
theorem a4B (M:List (Int×Fil)) (id:Int):(a06 M id).length<=M.length:=by
 unfold a06;rw [zz10];exact List.length_filter_le _ _
def a4i (M:List (Int×Fil)) (id:Int):List Fil:=(K4 (a06 M id)).filterMap (r8 M id)
def a6y (w:World) (C:Nat->Prop) (L:List Fil) (e:Ending) (w':World):Prop:=
 ∃v,∃l:List Fr,e= .returned v/\g7 w' 34 2 v l.length (l.flatMap Fr.cells)/\(∀k,v.ownBlock=some k->w.heap.size<=k)/\l.map Fr.fil=L/\(∀f∈l,FrC w' C f)/\Mod (fun _=>False) w w'
def a5x (w1:World) (C:Nat->Prop) (K:List (List UInt8)) (g:List UInt8->Option Fil) (ov iv:Value) (wr:World):Prop:=
 ∃(j:Nat) (l:List Fr) (oa:Option Addr) (oc:Nat),iv= .int .i64 j/\j<=K.length/\l.length<=j/\ov= .slice oa l.length oc/\l.map Fr.fil=(K.take j).filterMap g/\g7 wr 34 2 ov l.length (l.flatMap Fr.cells)/\(∀k,ov.ownBlock=some k->w1.heap.size<=k)/\(∀f∈l,FrC wr C f)/\Mod (fun _=>False) w1 wr
theorem b4i (w:World) (b:Nat) (own C:Nat->Prop) (M:List (Int×Fil)) (N:Nat) (h:Tab w b own C M N) (hN:N<=1000000) (id:Int) (hid:(Lit.int .i64 id).wf=true):
 Calls Tryz.prog 151 #[.pointer (some ⟨b,0,none⟩),.int .i64 id] w (a6y w C (a4i M id)):=by
 obtain ⟨mo,h⟩:=h;have b0:w.cell? ⟨b,0,none⟩=some (.map (some mo)):=d6 h.row rfl;obtain ⟨n,f,hf1,hf2,hf3,kG⟩:=h.om;have hkx:=Maps.keyOf_int_mk Tryz.underlying3 hid;have hlk:=hf1.look A5 Tryz.underlying113 (R5 w) hkx;have hval:=(hf3 id).val;obtain ⟨vv,hvv⟩:∃vv,(f (.int .i64 id)).getD (.map none)=vv:=⟨_,rfl⟩;rw [hvv] at hlk hval
 obtain ⟨mb,rfl,hsort⟩:∃mb,vv= .map mb/\Calls Tryz.prog 114 #[.func (.func 142) #[] #[.pointer (some ⟨w.heap.size,0,none⟩)]] (w.alloc (.cells #[.map mb] 202)) (T6 (w.alloc (.cells #[.map mb] 202)) 9 ((K4 (a06 M id)).map encStr)):=by
  rcases hval with ⟨-,rfl,hg⟩|⟨mi, -,rfl, -, -, -,CB⟩
  ·have e:a06 M id=[]:=List.eq_nil_iff_forall_not_mem.2 fun k hk=>by rw [a18,hg k] at hk;cases hk
   refine ⟨none,rfl, ?_⟩;rw [e,show K4 []=[] from List.mergeSort_nil];exact a2r w
  obtain ⟨ni,fi,hi1,hi2,hi3⟩:=CB;refine ⟨some mi,rfl,a1i hi1 zo (a6x h.nd id) (fun k=> ?_)⟩;rw [a18];have h3:=hi3 k;cases hk1:fi (.string k)<;>cases hk2:r8 M id k<;>rw [hk1,hk2] at h3
  ·exact Iff.rfl
  ·exact h3.elim
  ·exact h3.elim
  exact Iff.rfl
 have hkeys:=a1E mb w;obtain ⟨w1,hw1⟩:∃w1:World,w.alloc (.cells #[.map mb] 202)=w1:=⟨_,rfl⟩;have hm1:Mod (fun _=>False) w w1:=hw1▸(Mod.refl (fun _=>False) w).alloc _;rw [hw1] at hsort hkeys;obtain ⟨K,hK⟩:∃K,K4 (a06 M id)=K:=⟨_,rfl⟩
 have SA:K.length<=1000000:=by
  rw [<-hK];unfold K4;rw [List.length_mergeSort];exact Nat.le_trans (a4B M id) (Nat.le_trans h.low hN)
 have hKs:∀k∈K,(r8 M id k).isSome=true:=fun k hk=>by rw [<-hK,a16] at hk;exact a18.1 hk
 rw [hK] at hsort;unfold a4i;rw [hK];refine hh8 h hf1 hf2 hf3 kG hkx hvv hval fun H Hf1 kv xX sQ CG uM tq=> ?_;refine hh6 hsort hkeys hw1 hm1 hK hKs fun iY iZ gW dn HK SB=> ?_;clear h hf1 hf2 hf3 kG hkx hvv hval hsort hkeys hw1 hm1 hK hKs
 go_enter Tryz.func151,Tryz.ntmps151
 go_wp2_with fail
 refine iZ.out.mono ?_;rintro e wx ⟨rfl,hwx⟩;obtain rfl:=hwx.symm
 go_wp2_with fail
 refine iY.out.mono ?_;rintro e w2 ⟨sv,rfl,hso,hsb,hm2⟩;obtain ⟨sa,sc,rfl, -⟩:=hso.shape;rw [zz10] at hso⊢;have aK:=dn.out.trans hm2 zi;have bO:a5x w2 C K (r8 M id) (.slice none 0 0) (.int .i64 ((0:Nat):Int)) w2:=⟨0,[],none,0,rfl,Nat.zero_le _,Nat.le_refl _,rfl,rfl,g7.nil _ _ _,fun k hk=>by simp [Value.ownBlock] at hk,fun f hf=>(by cases hf),Mod.refl _ _⟩;refine hh5 hso hsb hm2 aK bO fun jA xH aS aN dP=> ?_;clear hso hsb hm2 aK bO
 go_wp2_with fail
 go_loopw [5,17] (fun ov i wr=>a5x w2 C K (r8 M id) ov i wr) (fun _ i _=>K.length - (intOf i).toNat)
 case atStart=>exact dP.out
 case round=>
  revert wr;intro wr hrel;obtain ⟨j,l,oa,oc,rfl,hj,hlj,rfl,hlq,hown,ik,hfc,hmr⟩:=hrel;have bL:=aN.out.trans hmr zi;by_cases hlt:j<K.length
  ·have hlt':(j:Int)<K.length:=zo
   obtain ⟨k,hkj⟩:∃k,K[j]? =some k:=⟨_,zz5 hlt⟩;have hks:=SB.out k (zz8 hkj)
   have oV:k.length<=maxLen:=by
    cases hq:r8 M id k with
    |none=>rw [hq] at hks;cases hks
    |some q=>
     obtain ⟨h1,h2⟩:=X6 hq;have h3:=H.out.wf _ h1;have h4:=J7 q.1 q.2 h3.2.2;have h5:=H.out.sc _ h1;rw [show t8 q.1 q.2=k from h2] at h4;have h6:=h3.2.1;simp only [] at h6 h5;unfold maxLen;omega
   obtain ⟨g,off,rfl,ck⟩:=a5w (jA.out.rd.mod hmr zi) hkj;have ck':wr.cell? ⟨g,off+j,none⟩=some (.string (str k)):=ck;have ht:=H.out.mod bL (fun _ _ h=>h.elim);have br:wr.cell? ⟨b,0,none⟩=some (.map (some mo)):=d6 ht.row rfl;have hv:=(xX.out id).mod bL zi (fun _ _ h=>h.elim);have hlr:=(Hf1.out.mod bL (fun h=>h)).look A5 Tryz.underlying113 (R5 wr) CG.out;rw [uM.out] at hlr;have hvl:=hv.val;rw [uM.out] at hvl;rcases hvl with ⟨-, -,hg⟩|⟨mi, -,hmb, -, -, -,ni,fi,hi1,hi2,hi3⟩
   ·rw [hg k] at hks;cases hks
   cases hmb
   obtain ⟨fr,iM,iN,hfr⟩:=a3H (hi3 k) (fun h=>by rw [h] at hks;cases hks);have tJ:=hi1.look A2 Tryz.underlying202 (I0 wr) (X7 k oV);rw [iM] at tJ;have JV:(Instr.lookup 202 (.map (some mi)) (.string (str k)) false).run Tryz.prog wr= .ok (.agg #[.string fr.sc,.slice fr.a fr.cs.length fr.c]) wr:=tJ
   have hnx:(l++[fr]).map Fr.fil=(K.take (j+1)).filterMap (r8 M id):=by
    rw [List.take_add_one,hkj,List.filterMap_append,<-hlq,List.map_append,Option.toList_some];congr 1;rw [List.filterMap_cons,iN];rfl
   obtain ⟨wz,hwz,ag,aj,aF⟩:=g6 wr (.cells #[.string fr.sc,.slice fr.a fr.cs.length fr.c] 34);have hrz:i8 wz 2 (.slice (some ⟨wr.heap.size,0,none⟩) 1 1) 1 [.string fr.sc,.slice fr.a fr.cs.length fr.c]:=hwz▸i8.one wr [.string fr.sc,.slice fr.a fr.cs.length fr.c] 34 rfl;have hone:∀u∈([.string fr.sc,.slice fr.a fr.cs.length fr.c]:List Value),u.oneCell'=true:=fun u hu=>zz15 (show ([.string fr.sc,.slice fr.a fr.cs.length fr.c]:List Value).all (·.oneCell')=true from rfl) u hu;have kD:=hown.mod ag zi;have oW:=hmr.trans ag zi
   have oZ:∀f∈l++[fr],FrC wz C f:=fun f hf=>by
    rcases zz14 hf with hf|hf
    ·exact (hfc f hf).mod ag (fun _ _ h=>h.elim)
    obtain rfl:f=fr:=by simpa using hf
    exact hfr.mod ag (fun _ _ h=>h.elim)
   refine hh8 hkj hks ck ht hv hi1 hi2 hi3 fun GU GV Ck Ht Hv uP su GR=> ?_;refine hh8 iM iN hfr tJ hnx hwz ag aj fun Ap Av aW SC fD aX bE aJ=> ?_;refine hh8 hrz hone kD oW oZ hown ik hfc fun xI aI rA pq yl bA gz kC=> ?_;refine hh4 hmr bL hlq oV fun aL fF Aw JW=> ?_;clear hkj hks ck ht hv hi1 hi2 hi3 iM iN hfr tJ hnx hwz ag aj hrz hone kD oW oZ hown ik hfc hmr bL hlq oV aF
   go_wp2_with (first|((with_reducible refine C0 203 (.tmp 29) ?_);refine ⟨34,2,Tryz.underlying203,zk,zk,zd,zd,[.string fr.sc,.slice fr.a fr.cs.length fr.c],rfl,rfl, ?_⟩;rw [aX.out])|((with_reducible refine l6 (.tmp 21) (.tmp 30) 203 ?_);refine ⟨rfl,34,2,40,b5k,.slice oa l.length oc,l.length,l.flatMap Fr.cells,rfl,rA.out,_,1,[.string fr.sc,.slice fr.a fr.cs.length fr.c],rfl,xI.out,aI.out,zo,by unfold maxLen;omega, ?_⟩;intro ad cap5 w5 hA;have HA:=Lib.hid hA;clear hA))
   go_roundw
   case rel=>
    refine ⟨j+1,l++[fr],ad,cap5,by go_num,hlt,by rw [zz4,List.length_singleton];omega,by rw [zz4];rfl,fD.out, ?_, ?_,fun f hf=>(yl.out f hf).mod HA.out.2.1 (fun k hk h=> ?_),pq.out.upon HA.out.2.1 (fun k hk=> .inr (gz.out k hk))⟩
    ·rw [zz4,List.flatMap_append];exact HA.out.1
    ·intro k hk;rcases HA.out.2.2 with h3|⟨k',h3,h4⟩
     ·exact gz.out k (h3▸hk)
     rw [h3] at hk;cases hk
     have:=pq.out.size;omega
    intro hc;have h1:=H.out.clow _ hc;have h2:=gz.out k h;have h3:=aN.out.size;omega
   case measure=>simp [intOf];omega
  obtain rfl:j=K.length:=zo
  rw [List.take_length] at hlq;refine hh6 hlq hown ik hfc hmr bL fun Aw bA gz kC aL fF=> ?_;clear hlq hown ik hfc hmr bL
  go_wp2_with fail
  go_ret;exact ⟨_,l,rfl,bA.out,fun k hk=>Nat.le_trans aN.out.size (gz.out k hk),Aw.out,kC.out,fF.out⟩
theorem b5I {l:List Fil} {q:Fil} (h:kF l (i7 q)=none) (k:List UInt8):kF (l++[q]) k=if k=i7 q then some q else kF l k:=by
 unfold kF at*;rw [List.find?_append];by_cases e:k=i7 q
 ·rw [if_pos e,e,h];simp
 rw [if_neg e];have h2:(i7 q==k)=false:=by rw [beq_eq_false_iff_ne];exact fun e2=>e e2.symm
 simp [h2]
theorem Z5.put {w0 w:World} {ow:Ow} {mi:Nat} {l:List Fil} (hw:Owd w0 w ow) (h:Z5 w ow mi l) (hn:l.length<maxLen) (gm:ow mi≠0) (q:Fil) (hk:(i7 q).length<=maxLen) (hq:kF l (i7 q)=none) (a:Option Addr) (cap:Nat) (hv:q6 w ow 7 (.slice a q.2.length cap) q.2.length (q8 q.2)):
 ∃w',(Instr.mapUpdate 202 (.map (some mi)) (.string (str (i7 q))) (.agg #[.string q.1,.slice a q.2.length cap])).run Tryz.prog w= .ok () w'/\Z5 w' ow mi (l++[q])/\Mod (fun k=>k=mi) w w':=by
 obtain ⟨f,h1,h2⟩:=h
 have hfn:f (.string (i7 q))=none:=by
  have:=h2 (i7 q);rw [hq] at this
  cases hf:f (.string (i7 q)) with
  |none=>rfl
  |some v=>rw [hf] at this;exact this.elim
 obtain ⟨w',r1,r2,r3⟩:=h1.put A2 Tryz.underlying202 hn (X7 (i7 q) hk) (.agg #[.string q.1,.slice a q.2.length cap]);have s:Mov (fun t=>t=ow mi) w ow w' ow:=Mov.wrote hw r3 (fun k hk=>by rw [hk]);have h0:¬((0:Nat)=ow mi):=fun e=>gm e.symm;refine ⟨w',r1,⟨T5 f (.string (i7 q)) (.agg #[.string q.1,.slice a q.2.length cap]), ?_,fun k=> ?_⟩,r3⟩
 ·rw [hfn] at r2;rw [zz4,List.length_singleton];exact r2
 rw [b5I hq];unfold T5;by_cases e:k=i7 q
 ·subst e;rw [if_pos rfl,if_pos rfl];exact ⟨a,cap,rfl,hv.mov s h0 zo⟩
 rw [if_neg e,if_neg (fun e2=>e (by cases e2;rfl))];exact (h2 k).mov s h0
def a5y (w:World) (ow:Ow) (v:Value) (l:List Fil):Prop:=(v= .map none/\l=[])\/∃mi,v= .map (some mi)/\Z5 w ow mi l
theorem a5y.ask {w:World} {ow:Ow} {v:Value} {l:List Fil} (h:a5y w ow v l) (k:List UInt8) (hk:k.length<=maxLen):
 ∃(q:Fil) (a:Option Addr) (cap:Nat),(Instr.lookup 202 v (.string (str k)) true).run Tryz.prog w= .ok (.tuple #[.agg #[.string q.1,.slice a q.2.length cap],.bool (kF l k).isSome]) w/\
  (Instr.lookup 202 v (.string (str k)) false).run Tryz.prog w= .ok (.agg #[.string q.1,.slice a q.2.length cap]) w/\(∀p,kF l k=some p->p=q/\q6 w ow 7 (.slice a q.2.length cap) q.2.length (q8 q.2)):=by
 rcases h with ⟨rfl,rfl⟩|⟨mi,rfl,f,h1,h2⟩
 ·refine ⟨(⟨#[]⟩,[]),none,0, ?_, ?_,fun p hp=>by cases hp⟩
  ·rw [show (kF [] k).isSome=false from rfl];simpa using Maps.look_nil (w:=w) true A2 Tryz.underlying202 (I0 w) (X7 k hk)
  simpa using Maps.look_nil (w:=w) false A2 Tryz.underlying202 (I0 w) (X7 k hk)
 have h3:=h1.look_ok A2 Tryz.underlying202 (I0 w) (X7 k hk);have h4:=h1.look A2 Tryz.underlying202 (I0 w) (X7 k hk);have h5:=h2 k
 cases hf:f (.string k) with
 |none=>
  rw [hf] at h3 h4 h5
  cases hq:kF l k with
  |none=>exact ⟨(⟨#[]⟩,[]),none,0,h3,h4,fun p hp=>by cases hp⟩
  |some p=>rw [hq] at h5;exact h5.elim
 | some v=>
  rw [hf] at h3 h4 h5
  cases hq:kF l k with
  |none=>rw [hq] at h5;exact h5.elim
  |some p=>
   rw [hq] at h5;obtain ⟨a,cap,rfl,hc⟩:=h5;exact ⟨p,a,cap,h3,h4,fun p2 hp=>by cases hp;exact ⟨rfl,hc⟩⟩
theorem b6t {l:List Fil} {k:List UInt8}:(kF l k).isSome=true↔k∈l.map i7:=by
 unfold kF;rw [List.find?_isSome,List.mem_map];constructor
 ·rintro ⟨f,h1,h2⟩;exact ⟨f,h1,by simpa using h2⟩
 rintro ⟨f,h1,h2⟩;exact ⟨f,h1,by simpa using h2⟩
theorem a7S {L:List (List UInt8)} (h:L.Pairwise (· < ·)):K4 L=L:=by
 unfold K4;refine List.mergeSort_of_pairwise (h.imp fun {a b} hab=> ?_);unfold leB;exact decide_eq_true (List.le_of_lt hab)
theorem a5y.sorted {w:World} {ow:Ow} {mb:Option Nat} {l:List Fil} (h:a5y w ow (.map mb) l) (hn:l.length<=1000000) (hp:l.Pairwise fun a b=>i7 a<i7 b):
 Calls Tryz.prog 114 #[.func (.func 142) #[] #[.pointer (some ⟨w.heap.size,0,none⟩)]] (w.alloc (.cells #[.map mb] 202)) (T6 (w.alloc (.cells #[.map mb] 202)) 9 ((l.map i7).map encStr)):=by
 rcases h with ⟨e,rfl⟩|⟨mi,e,f,h1,h2⟩
 ·cases e
  exact a2r w
 ·cases e
  have hpw:(l.map i7).Pairwise (· < ·):=List.pairwise_map.2 hp
  have h3:=a1i h1 zo (L:=l.map i7) (hpw.imp fun {a b} hab e=>absurd (e▸hab) (List.lt_irrefl _)) (fun x=>by
   rw [<-b6t];have h4:=h2 x
   cases hf:f (.string x)<;>cases hq:kF l x<;>rw [hf,hq] at h4<;>first|exact h4.elim|simp)
  rw [a7S hpw] at h3;exact h3
theorem Z5.beside {w0 w w':World} {ow:Ow} {mi b:Nat} {l:List Fil} (hw:Owd w0 w ow) (h:Z5 w ow mi l) (hm:Mod (fun k=>k=b) w w') (hn:mi≠b) (hb:ow b≠0):Z5 w' ow mi l:=by
 obtain ⟨f,h1,h2⟩:=h;have s:Mov (fun t=>t=ow b) w ow w' ow:=Mov.wrote hw hm (fun k hk=>by rw [hk]);exact ⟨f,h1.mod hm hn,fun k=>(h2 k).mov s (fun e=>hb e.symm)⟩
theorem M7.put {w0 w:World} {ow:Ow} {c mb:Nat} {G:Int->List Fil} {K:Nat} (hw:Owd w0 w ow) (h:M7 w ow c mb G K) (hK:K<maxLen) (hc:c≠0) (n:Int) (hnw:(Lit.int .i64 n).wf=true) (b:Nat) (hb:ow b=c) (hbn:b≠mb) (l:List Fil) (hl:Z5 w ow b l)
 (hp:l.Pairwise fun a b=>i7 a<i7 b):
 ∃w',(Instr.mapUpdate 113 (.map (some mb)) (.int .i64 n) (.map (some b))).run Tryz.prog w= .ok () w'/\M7 w' ow c mb (Z4 G n l) (K+1)/\Mod (fun k=>k=mb) w w':=by
 obtain ⟨m,f,h1,h2,h3⟩:=h.mp;have hmb:ow mb≠0:=by rw [h.tag];exact hc
 obtain ⟨w',r1,r2,r3⟩:=h1.put A5 Tryz.underlying113 (Nat.lt_of_le_of_lt h2 hK) (Maps.keyOf_int_mk Tryz.underlying3 hnw) (.map (some b));refine ⟨w',r1,⟨h.tag,⟨_,_,r2, ?_,fun id=> ?_⟩,fun id=> ?_⟩,r3⟩
 ·split<;>omega
 ·unfold T5;by_cases e:id=n
  ·subst e;rw [if_pos rfl,a5t];exact ⟨b,rfl,hbn,hb,hl.beside hw r3 hbn hmb⟩
  rw [if_neg (fun e2=>e (by cases e2;rfl)),a5u _ _ e];have h4:=h3 id
  cases hf:f (.int .i64 id) with
  |none=>rw [hf] at h4;exact h4
  |some v=>
   rw [hf] at h4;obtain ⟨mi,g1,g2,g3,g4⟩:=h4;exact ⟨mi,g1,g2,g3,g4.beside hw r3 g2 hmb⟩
 by_cases e:id=n
 ·rw [e,a5t];exact hp
 rw [a5u _ _ e];exact h.lt id
end
section
abbrev Hn:=Int×ByteArray×Tg
structure D5 (w0:World) (q:Nat) (sid:Int) where
 σ:Type
 inv:World->Ow->σ->Prop
 tg:Nat->Prop
 t2:∀t,tg t->2<=t
 cnt:σ->Nat
 okTo:Int->Int->Prop
 send:σ->Int->Int->Mg->σ
 shw:σ->Int->ByteArray->Tg->σ
 csend:∀s td ten m,cnt (send s td ten m)<=cnt s+1
 cshw:∀s ten who t,cnt (shw s ten who t)<=cnt s+1
 mov:∀{F:Nat->Prop} {w w':World} {ow ow':Ow} {s:σ},inv w ow s->Owd w0 w ow->Mov F w ow w' ow'->¬F 0->(∀t,F t->¬tg t)->inv w' ow' s
 hsend:∀{w:World} {ow:Ow} {s:σ} {td ten:Int} {x:Mv},Owd w0 w ow->inv w ow s->cnt s<=400000000000->okTo td ten->R4 w ow x->
  Calls Tryz.prog 302 #[.agg #[.pointer (some ⟨q,0,none⟩),.int .i64 sid],.int .i64 td,.int .i64 ten,.agg x.cells.toArray] w fun e w'=>e= .returned (.tuple #[])/\∃ow',inv w' ow' (send s td ten x.m)/\Mov tg w ow w' ow'
 hshw:∀{w:World} {ow:Ow} {s:σ} {ten:Int} {who:ByteArray} {x:Tv},Owd w0 w ow->inv w ow s->cnt s<=400000000000->0<=ten->ten<=3->who.size<=1000000->a3C w ow x->
  Calls Tryz.prog 303 #[.agg #[.pointer (some ⟨q,0,none⟩),.int .i64 sid],.int .i64 ten,.string who,.agg x.cells.toArray] w fun e w'=>e= .returned (.tuple #[])/\∃ow',inv w' ow' (shw s ten who x.t)/\Mov tg w ow w' ow'
variable {w0:World} {q:Nat} {sid:Int}
def D5.sends (O:D5 w0 q sid) (s:O.σ) (l:List Sd):O.σ:=l.foldl (fun s x=>O.send s x.1 x.2.1 x.2.2) s
theorem D5.sends_app (O:D5 w0 q sid) (s:O.σ) (l m:List Sd):O.sends s (l++m)=O.sends (O.sends s l) m:=List.foldl_append ..
theorem D5.sends_one (O:D5 w0 q sid) (s:O.σ) (l:List Sd) (x:Sd):O.sends s (l++[x])=O.send (O.sends s l) x.1 x.2.1 x.2.2:=by rw [O.sends_app];rfl
theorem D5.sends_cnt (O:D5 w0 q sid) (s:O.σ) (l:List Sd):O.cnt (O.sends s l)<=O.cnt s+l.length:=by
 induction l generalizing s with
 |nil=>exact Nat.le_refl _
 |cons x l ih=>
  have h1:=ih (O.send s x.1 x.2.1 x.2.2);have h2:=O.csend s x.1 x.2.1 x.2.2;show O.cnt (O.sends (O.send s x.1 x.2.1 x.2.2) l)<=_;rw [zz9];omega
theorem b1O:∀(args:Array Value) (W:World),Sem.run Tryz.prog (callFunc 175 args) W= .ok (.enter 175 args) W:=fun args w=>by simp [go_sem]
theorem b4j (p:Bool) (c d:Cnd) (k:Nat) (w:World) (hk:w.heap[k]? =some (.cells c.cells.toArray 126 (0,0)))
 (hp:∀wx,Mod (fun _=>False) w wx->Calls Tryz.prog 133 #[.agg d.cells.toArray,.agg c.cells.toArray] wx fun e w'=>e= .returned (.bool p)/\Mod (fun _=>False) wx w'):
 Calls Tryz.prog 175 (#[.agg d.cells.toArray]++#[.pointer (some ⟨k,0,none⟩)]) w fun e w'=>e= .returned (.bool p)/\Mod (fun _=>False) w w':=by
 obtain ⟨wa,ak,ae,aa,ah⟩:=g6 w (.cells d.cells.toArray 126);have hkl:=(zz7 hk).1;have hka:=ae.heap hk id;have uY:=hp wa ae;refine hh5 ak ae aa hka uY fun aB ai aC SE SF=> ?_;clear ak ae aa hka uY ah hk hp;show Calls Tryz.prog 175 #[.agg d.cells.toArray,.pointer (some ⟨k,0,none⟩)] w _
 go_enter Tryz.func175,Tryz.ntmps175
 go_wp2_with (first|(rw [show w.alloc _=wa from aB.out])|((with_reducible refine e9 126 (.tmp 2) ?_);refine ⟨w.heap.size,0,rfl,d.cells,d8.row aC.out,zk,zk, ?_⟩)|((with_reducible refine e9 126 (.tmp 1) ?_);refine ⟨k,0,rfl,c.cells,d8.row SE.out,zk,zk, ?_⟩))
 refine SF.out.mono ?_;rintro e w2 ⟨rfl,hm2⟩;have aS:=Lib.hid (ai.out.trans hm2 zi);clear hm2
 go_wp2
 go_ret;exact ⟨rfl,aS.out⟩
theorem a2s (f:Cnd->Cnd->Bool) (w:World) (sc:ByteArray) (cv:Value) (l:List Cnd) (hv:i8 w 7 cv l.length (q8 l)) (hll:l.length<=9223372036854775807) (hsc:sc.size<=9223372036854775807)
 (gs:ByteArray) (gv:Value) (m:List Cnd) (hg:i8 w 7 gv m.length (q8 m)) (dw:m.length<=9223372036854775807) (hgs:gs.size<=9223372036854775807)
 (hp:∀d∈m,∀c∈l,∀wx,Mod (fun _=>False) w wx->Calls Tryz.prog 133 #[.agg d.cells.toArray,.agg c.cells.toArray] wx fun e w'=>e= .returned (.bool (f d c))/\Mod (fun _=>False) wx w'):
 Calls Tryz.prog 135 #[.agg #[.string sc,cv],.agg #[.string gs,gv]] w fun e w'=>e= .returned (.bool (m.any Cnd.voidB||(l.all (fun c=>m.any fun d=>f d c)&&A7 gs sc)))/\Mod (fun _=>False) w w':=by
 obtain ⟨a,cap,rfl,hcap⟩:∃a c,cv= .slice a l.length c/\l.length<=c:=by obtain ⟨-,a,c,h,h2, -⟩:=hv;exact ⟨a,c,h,h2⟩
 obtain ⟨ga,gcap,rfl,OB⟩:∃a c,gv= .slice a m.length c/\m.length<=c:=by obtain ⟨-,a,c,h,h2, -⟩:=hg;exact ⟨a,c,h,h2⟩
 have df:(l.length:Int)<=9223372036854775807:=zo
 have bG:(l.length:Int)<=cap:=zo
 obtain ⟨wa,ak,ae,aa,ah⟩:=g6 w (.cells #[.string sc,.slice a l.length cap] 34);obtain ⟨wb,hwb,ay,aA,aU⟩:=g6 wa (.cells #[.string gs,.slice ga m.length gcap] 34);have hmb:=ae.trans ay zi;have hF:=ay.heap aa id;have d0:wb.cell? ⟨wa.heap.size,0,none⟩=some (.string gs):=d6 aA rfl;have d1:wb.cell? ⟨wa.heap.size,1,none⟩=some (.slice ga m.length gcap):=d6 aA rfl;have hvd:=a6b wb gs (.slice ga m.length gcap) m (hg.mod hmb zi) dw;obtain ⟨R,hR⟩:∃R,(m.any Cnd.voidB||(l.all (fun c=>m.any fun d=>f d c)&&A7 gs sc))=R:=⟨_,rfl⟩;rw [hR];have hqz:w.heap.size<wa.heap.size:=zo
 refine hh8 hv hg hp ak hwb hmb hF aA fun Hv Hg Hp aB bN eQ HF bq=> ?_;refine hh5 hvd hR hsc hgs dw fun JX HR JY SG ym=> ?_;clear hv hg hp ak hwb hmb hF aA hvd hR hsc hgs dw ae ay aa ah aU hll
 go_enter Tryz.func135,Tryz.ntmps135
 go_wp2_with (first|(rw [show w.alloc _=wa from aB.out])|(rw [show wa.alloc _=wb from bN.out]))
 refine JX.out.mono ?_;rintro e w1 ⟨rfl,hm1⟩;have bH:=eQ.out.trans hm1 zi;have hF1:=hm1.heap HF.out id;have hG1:=hm1.heap bq.out id;have c1:w1.cell? ⟨w.heap.size,1,none⟩=some (.slice a l.length cap):=d6 hF1 rfl;have hv1:=Hv.out.mod bH zi;refine hh4 bH hF1 hG1 hv1 fun bJ Cu OC GJ=> ?_;clear bH hF1 hG1 hv1 hm1 d0 d1 JX
 cases rC:m.any Cnd.voidB with
 |true=>
  have Og:=zh rC;clear rC
  go_wp2
  go_ret;exact ⟨by rw [<-HR.out,Og.out];rfl,bJ.out⟩
 |false=>
 have HR:=Lib.hid (show (l.all (fun c=>m.any fun d=>f d c)&&A7 gs sc)=R by rw [<-HR.out,rC];rfl);clear rC
 go_wp2_with fail
 go_loopw [12] (fun i wr=>∃j:Nat,i= .int .i64 j/\j<=l.length/\Mod (fun _=>False) w1 wr/\(∀(k:Nat) (x:Cnd),k<j->l[k]? =some x->(m.any fun d=>f d x)=true)) (fun i _=>l.length - (intOf i).toNat)
 case atStart=>exact ⟨0,rfl,Nat.zero_le _,Mod.refl _ _,fun k x hk=>zo⟩
 case round=>
  obtain ⟨j,rfl,hj,hmr,hall⟩:=hrel;by_cases hlt:j<l.length
  ·have hlt':(j:Int)<l.length:=zo
   obtain ⟨x,hxj⟩:∃x,l[j]? =some x:=⟨_,zz5 hlt⟩;have hxm:=zz8 hxj;obtain ⟨g,off,rfl,hf⟩:∃g off,a=some ⟨g,off,none⟩/\d8 wr g (off+j*7) x.cells:=U4 (GJ.out.mod hmr zi) hxj;obtain ⟨wz,hwz,ag,aj,aF⟩:=g6 wr (.cells x.cells.toArray 126);have hmz:=hmr.trans ag zi;have fV:=bJ.out.trans hmz zi;have hge:=hmz.heap OC.out id;have e1:wz.cell? ⟨wa.heap.size,1,none⟩=some (.slice ga m.length gcap):=d6 hge rfl
   have hct:=a2n 175 #[.pointer (some ⟨wr.heap.size,0,none⟩)] b1O (fun d=>f d x) wz (.slice ga m.length gcap) m (Hg.out.mod fV zi) ym.out
    (fun d hd wx hwx=>b4j (f d x) x d wr.heap.size wx (hwx.heap aj id) (fun wy kH=>Hp.out d hd x hxm wy ((fV.trans hwx zi).trans kH zi)))
   have WV:∀(fn:Fn) (first cap:Array Value) (w:World),(Instr.makeFunc fn first cap).run Tryz.prog w= .ok (.func fn first cap) w:=fun _ _ _ _=>rfl;refine hh8 hmr hall hxj hxm hf hwz aj hmz fun aL aO dX iJ Hf aX aJ bC=> ?_;refine hh2 hct fV fun uN nV=> ?_;clear hmr hall hxj hxm hf hwz aj hmz hct fV aF ag hge c1
   go_wp2_with (first|((with_reducible refine e9 126 (.tmp 14) ?_);refine ⟨g,off+j*7,rfl,x.cells,Hf.out,zk,zk, ?_⟩)|((with_reducible refine d9 126 (.tmp 6) (.tmp 15) ?_);refine ⟨rfl,x.cells,rfl,rfl,zk,rfl, ?_⟩;rw [aX.out]))
   refine uN.out.mono ?_;rintro e w3 ⟨rfl,au⟩;have aZ:=Lib.hid (bC.out.trans au zi);clear au e1
   cases hs:m.any (fun d=>f d x) with
   | true=>
    have Hs:=zh hs;clear hs
    go_wp2_with fail
    go_roundw
    case rel=>
     refine ⟨j+1,by go_num,hlt,aZ.out,fun k x' hk hx'=> ?_⟩;rcases Nat.lt_succ_iff_lt_or_eq.1 hk with hk|rfl
     ·exact aO.out k x' hk hx'
     rw [dX.out] at hx';cases hx';exact Hs.out
    case measure=>simp [intOf];omega
   |false=>
    have Hs:=zh hs;clear hs
    go_wp2
    go_ret;refine ⟨?_,bJ.out.trans aZ.out zi⟩;rw [<-HR.out,List.all_eq_false.2 ⟨x,iJ.out,by rw [Hs.out];decide⟩,Bool.false_and];rfl
  obtain rfl:j=l.length:=zo
  have hgr:=hmr.heap Cu.out id;have hge:=hmr.heap OC.out id;have c0:wr.cell? ⟨w.heap.size,0,none⟩=some (.string sc):=d6 hgr rfl;have e0:wr.cell? ⟨wa.heap.size,0,none⟩=some (.string gs):=d6 hge rfl;have hun:=a1M gs sc SG.out JY.out wr
  have hfr:R=A7 gs sc:=by
   rw [<-HR.out,List.all_eq_true.2 fun x hx=>by
    obtain ⟨k,hk⟩:=List.mem_iff_getElem?.1 hx
    exact hall k x (zz6 hk).1 hk,Bool.true_and]
  have aP:=bJ.out.trans hmr zi;refine hh3 aP hun hfr fun dK Cn aW=> ?_;clear aP hun hfr hmr hall hgr hge
  go_wp2_with fail
  refine Cn.out.mono ?_;rintro e w3 ⟨rfl,rfl⟩
  go_wp2
  go_ret;refine ⟨?_,dK.out⟩;rw [aW.out];rfl
theorem a6z (m:Ru->Bool) (w:World) (v:Value) (l:List Ru) (hv:Q5 w v l) (hll:l.length<=9223372036854775807) (tenant:Int) (who:ByteArray) (es:ByteArray) (ea:Option Addr) (en ec:Nat)
 (hm:∀r∈l,∀wx,Mod (fun _=>False) w wx->r.of 2 tenant who=true->Calls Tryz.prog 135 #[.agg #[.string r.sc,r.cv],.agg #[.string es,.slice ea en ec]] wx fun e w'=>e= .returned (.bool (m r))/\Mod (fun _=>False) wx w'):
 Calls Tryz.prog 109 #[v,.int .i64 tenant,.string who,.agg #[.string es,.slice ea en ec]] w fun e w'=>
  e= .returned (.bool ((K0 l tenant who).isSome&&l.any fun r=>r.of 2 tenant who&&m r))/\Mod (fun _=>False) w w':=by
 obtain ⟨a,cap,rfl,hcap⟩:∃a c,v= .slice a l.length c/\l.length<=c:=by obtain ⟨-,a,c,h,h2, -⟩:=hv.rd;exact ⟨a,c,h,h2⟩
 have df:(l.length:Int)<=9223372036854775807:=zo
 have bG:(l.length:Int)<=cap:=zo
 obtain ⟨wa,ak,ae,aa,ah⟩:=g6 w (.cells #[.string es,.slice ea en ec] 34);have hva:=hv.mod ae;have hho:=a9b wa (.slice a l.length cap) l hva hll tenant who;have hqz:w.heap.size<wa.heap.size:=zo
 obtain ⟨R,hR⟩:∃R,((K0 l tenant who).isSome&&l.any fun r=>r.of 2 tenant who&&m r)=R:=⟨_,rfl⟩;rw [hR];refine hh8 hv hm ak ae aa hva hho hR fun Hv Hm aB ai aC dE lH HR=> ?_;clear hv hm ak ae aa hva hho hR ah hll
 go_enter Tryz.func109,Tryz.ntmps109
 go_wp2_with (rw [show w.alloc _=wa from aB.out])
 refine lH.out.mono ?_;rintro e w1 ⟨rfl,hm1⟩;have bH:=ai.out.trans hm1 zi;have hg1:=hm1.heap aC.out id;refine hh2 bH hg1 fun bJ Ad=> ?_;clear bH hg1 hm1 lH
 cases hh:K0 l tenant who with
 |none=>
  have Hh:=zh hh;clear hh
  go_wp2
  go_ret;refine ⟨?_,bJ.out⟩;rw [<-HR.out,Hh.out];rfl
 |some h0=>
 have hR2:(l.any fun r=>r.of 2 tenant who&&m r)=R:=by rw [<-HR.out,hh];rfl
 refine hh1 hR2 fun HR2=> ?_;clear hR2 hh HR
 go_wp2_with fail
 go_loopw [24] (fun i wr=>∃j:Nat,i= .int .i64 j/\j<=l.length/\Mod (fun _=>False) w1 wr/\(∀(k:Nat) (x:Ru),k<j->l[k]? =some x->(x.of 2 tenant who&&m x)=false)) (fun i _=>l.length - (intOf i).toNat)
 case atStart=>exact ⟨0,rfl,Nat.zero_le _,Mod.refl _ _,fun k x hk=>zo⟩
 case round=>
  obtain ⟨j,rfl,hj,hmr,hall⟩:=hrel;by_cases hlt:j<l.length
  ·have hlt':(j:Int)<l.length:=zo
   obtain ⟨x,hxj⟩:∃x,l[j]? =some x:=⟨_,zz5 hlt⟩;have hxm:=zz8 hxj;have bL:=bJ.out.trans hmr zi;obtain ⟨g,off,rfl,hf⟩:∃g off,a=some ⟨g,off,none⟩/\d8 wr g (off+j*8) x.cells:=a0a (Hv.out.mod bL) hxj;obtain ⟨wz,hwz,ag,aj,aF⟩:=g6 wr (.cells x.cells.toArray 36);have fV:=bL.trans ag zi;have hof:=b5o x 2 tenant who wz;have hlz:wr.heap.size<wz.heap.size:=zo
   refine hh8 hmr hall hxj hxm bL hf hwz ag fun aL aO dX iJ fF Hf aX bE=> ?_;refine hh3 aj fV hof fun aJ nV rE=> ?_;clear hmr hall hxj hxm bL hf hwz ag aj fV hof aF
   go_wp2_with (first|((with_reducible refine e9 36 (.tmp 26) ?_);refine ⟨g,off+j*8,rfl,x.cells,Hf.out,zk,zk, ?_⟩)|((with_reducible refine d9 36 (.tmp 12) (.tmp 27) ?_);refine ⟨rfl,x.cells,rfl,rfl,zk,rfl, ?_⟩;rw [aX.out])|((with_reducible refine e9 36 (.tmp 12) ?_);refine ⟨wr.heap.size,0,rfl,x.cells,d8.row aJ.out,zk,zk, ?_⟩))
   refine rE.out.mono ?_;rintro e w3 ⟨rfl,au⟩;have aR:=nV.out.trans au zi;have fE:=(aL.out.trans bE.out zi).trans au zi;have hg3:=au.heap aJ.out id;have JZ:=fE.heap Ad.out id;have b4:w3.cell? ⟨wr.heap.size,4,none⟩=some (.string x.sc):=d6 hg3 rfl;have b5:w3.cell? ⟨wr.heap.size,5,none⟩=some (.slice x.ca x.cs.length x.cc):=d6 hg3 rfl;have e0:w3.cell? ⟨w.heap.size,0,none⟩=some (.string es):=d6 JZ rfl;have e1:w3.cell? ⟨w.heap.size,1,none⟩=some (.slice ea en ec):=d6 JZ rfl;have hmt:=Hm.out x iJ.out w3 aR;refine hh3 aR fE hmt fun aT oz xm=> ?_;clear aR fE hmt au hg3 JZ
   cases hs:x.of 2 tenant who with
   | false=>
    have Hs:=zh hs;clear hs
    go_wp2_with fail
    go_roundw
    case rel=>
     refine ⟨j+1,by go_num,hlt,oz.out,fun k x' hk hx'=> ?_⟩;rcases Nat.lt_succ_iff_lt_or_eq.1 hk with hk|rfl
     ·exact aO.out k x' hk hx'
     rw [dX.out] at hx';cases hx';rw [Hs.out];rfl
    case measure=>simp [intOf];omega
   | true=>
    have Hs:=zh hs;have xm:=Lib.hid (xm.out hs);clear hs
    go_wp2_with fail
    refine xm.out.mono ?_;rintro e w4 ⟨rfl,aM⟩;have aV:=aT.out.trans aM zi;have CK:=oz.out.trans aM zi;refine hh2 aV CK fun bS Ka=> ?_;clear aV CK aM b4 b5 e0 e1
    cases ht:m x with
    | false=>
     have Ht:=zh ht;clear ht
     go_wp2_with fail
     go_roundw
     case rel=>
      refine ⟨j+1,by go_num,hlt,Ka.out,fun k x' hk hx'=> ?_⟩;rcases Nat.lt_succ_iff_lt_or_eq.1 hk with hk|rfl
      ·exact aO.out k x' hk hx'
      rw [dX.out] at hx';cases hx';rw [Hs.out,Ht.out];rfl
     case measure=>simp [intOf];omega
    |true=>
     have Ht:=zh ht;clear ht
     go_wp2
     go_ret;refine ⟨?_,bS.out⟩;rw [<-HR2.out,List.any_eq_true.2 ⟨x,iJ.out,by rw [Hs.out,Ht.out];rfl⟩];rfl
  obtain rfl:j=l.length:=zo
  have bL:=bJ.out.trans hmr zi
  have hf:R=false:=by
   rw [<-HR2.out,List.any_eq_false.2 fun x hx=>by
    obtain ⟨k,hk⟩:=List.mem_iff_getElem?.1 hx;rw [hall k x (zz6 hk).1 hk]
    decide]
  refine hh2 bL hf fun fF Hf=> ?_;clear bL hf hmr hall
  go_wp2
  go_ret;refine ⟨?_,fF.out⟩;rw [Hf.out];rfl
def a8V (w:World) (own C:Nat->Prop) (md ms r B:Nat) (fs:Lit->Option Value) (gs gd:List UInt8->Option Fil) (wr:World):Prop:=
 ∃(left:Lit->Bool) (cnt n:Nat) (g:List UInt8->Option Fil) (fm:Lit->Option Value),l8 wr 9 md n fm/\n+cnt<=B/\(∀k,G9 wr own C (fm (.string k)) (g k))/\a3x wr 9 ms r fs left cnt/\
  (∀k,g k=if (gs k).isSome&& !left (.string k) then gs k else gd k)/\Mod (fun k=>k=md) w wr
theorem G9.some {w:World} {own C:Nat->Prop} {v:Option Value} {q:Option Fil} (h:G9 w own C v q):v.isSome=q.isSome:=by
 cases v<;>cases q
 ·rfl
 ·exact h.elim
 ·exact h.elim
 rfl
theorem b1P (w:World) (own C:Nat->Prop) (md ms Nd ns:Nat) (gd gs:List UInt8->Option Fil) (fs:Lit->Option Value) (hd:KAt w own C md Nd gd) (hs:l8 w 9 ms ns fs) (hsv:∀k,G9 w own C (fs (.string k)) (gs k)) (hne:md≠ms) (hC:¬C md) (OD:∀k,C k->k<w.heap.size) (hB:Nd+ns<=100000000000000):
 Calls Tryz.prog 138 #[.map (some md),.map (some ms)] w fun e w'=>e= .returned (.tuple #[])/\KAt w' own C md (Nd+ns) (fun k=>(gs k).or (gd k))/\Mod (fun k=>k=md) w w':=by
 obtain ⟨n0,fd,h1,h2,h3⟩:=hd;have SH:=h1.lt;have SI:=hs.lt;refine hh5 hs hsv h1 h2 h3 fun Hs Ay H1 H2 H3=> ?_;clear hs hsv h1 h2 h3
 go_enter Tryz.func138,Tryz.ntmps138
 go_wp2_with ((at_range;refine T7 rfl _ 202 rfl 9 34 A2 Tryz.underlying202 ms ns fs rfl Hs.out ?_;intro wF hrg dh CL))
 have bO:a8V w own C md ms w.heap.size (Nd+ns) fs gs gd wF:=⟨_,_,n0,gd,fd,H1.out.mod dh id,by have:=H2.out;omega,fun k=>(H3.out k).mod2 dh (fun _ _ h=>h.elim),hrg,fun k=>by
  have e:=(Ay.out k).some;rw [e]
  cases (gs k).isSome<;>rfl,dh.mono (fun _ _ h=>h.elim)⟩
 refine hh3 bO hrg dh fun dP jK tK=> ?_;clear bO hrg dh CL
 go_frame
 go_loopw [8] (fun _ wr=>a8V w own C md ms w.heap.size (Nd+ns) fs gs gd wr) (fun _ wr=>wr.rangeLeft ms w.heap.size)
 case atStart=>exact dP.out
 case round=>
  revert wr;intro wl hrel;obtain ⟨left,cnt,n,g,fm,hm1,hn,hv,hrg,hg,hmr⟩:=hrel;refine hh4 hm1 hv hg hmr fun dn Hv Hg aL=> ?_;clear hm1 hv hg hmr
  go_wp2_with ((at_next;refine W8 rfl _ rfl 9 A2 encStr Lit.string (b5f _ Tryz.underlying9) (b6r _ Tryz.underlying9) ms w.heap.size fs left cnt rfl hrg ?_ ?_))
  ·intro hl0
   have hK:KAt wl own C md (Nd+ns) (fun k=>(gs k).or (gd k)):=⟨n,fm,dn.out,zo,fun k=>by
    have h:=Hv.out k;rw [Hg.out k,hl0] at h;show G9 wl own C _ ((gs k).or (gd k))
    cases hk:gs k with
    |none=>rw [hk] at h;exact h
    |some q=>rw [hk] at h;exact h⟩
   refine hh3 hrg hl0 hK fun jK uZ HK=> ?_;clear hrg hl0 hK
   go_wp2_with fail
   go_end0
   exact ⟨rfl,HK.out,aL.out⟩
  intro k c wu cnt' hkey hlk hfc eX hlt2 hmu hzu hen;obtain ⟨fr,iM,iN,hfr⟩:=a3H (Ay.out k) (fun h=>by have h1:=(Ay.out k).some;rw [hfc,h] at h1;cases h1);rw [hfc] at iM;obtain rfl:=Option.some.inj iM;obtain ⟨wv,hwv,gB,iq,Kb⟩:=g6 wu (.cells #[.string fr.sc,.slice fr.a fr.cs.length fr.c] 34);have pu:Mod (fun _=>False) w wl->True:=fun _=>trivial;have SK:=aL.out.size;have CO:=(dn.out.mod hmu (fun h=>by have h':md=w.heap.size:=h;omega)).mod gB id;have v2:wv.cell? ⟨wu.heap.size,0,none⟩=some (.string fr.sc):=d6 iq rfl;have v3:wv.cell? ⟨wu.heap.size,1,none⟩=some (.slice fr.a fr.cs.length fr.c):=d6 iq rfl;have pz:=eX.mod gB id id;have u7:Mod (fun k=>k=md) w wv:=(aL.out.upon hmu (fun k hk=> .inr (Nat.le_of_eq (Eq.symm hk)))).trans gB (fun _ _ h=>h.elim);have hnm:n<maxLen:=by unfold maxLen;omega
  refine hh8 hkey hlk hfc eX hmu hzu iN hfr fun eu GX kC lU ve Kc Av aW=> ?_;refine hh7 hwv gB iq pz CO u7 hrg fun GY CP Ke lV Kg CQ jK=> ?_;clear hkey hlk hfc eX hmu hzu iN hfr hwv gB iq pz CO u7 hrg
  go_wp2_with (first|((with_reducible refine d9 34 (.tmp 5) (.tmp 12) ?_);refine ⟨rfl,[.string fr.sc,.slice fr.a fr.cs.length fr.c],rfl,rfl,zk,rfl, ?_⟩;rw [GY.out])|((with_reducible refine P9 202 (.tmp 13) (.tmp 14) (.tmp 15) ?_);refine ⟨9,34,md,n,fm,.string k,Kg.out,A2,Tryz.underlying202,hnm,rfl,eu.out, ?_⟩;intro w8 hM' hm';have Ju:=Lib.hid hM';have Ao:=Lib.hid hm';clear hM' hm'))
  go_roundw
  case rel=>
   have CR:Mod (fun k=>k=md) w w8:=CQ.out.trans Ao.out zi;have Kh:Mod (fun k=>k=md\/k=w.heap.size) wl w8:=((ve.out.mono (fun _ _ h=> .inr h)).trans (CP.out.mono (fun _ _ h=>h.elim)) (fun _ _ h=>h)).trans (Ao.out.mono (fun _ _ h=> .inl h)) (fun _ _ h=>h);refine ⟨_,cnt',_,fun x=>if x=k then gs k else g x,_,Ju.out,by split<;>omega,fun x=> ?_,lV.out.mod Ao.out (fun h=>hne h.symm) (fun h=>by have h':w.heap.size=md:=h;omega),fun x=> ?_,CR⟩
   ·unfold T5;show G9 w8 own C _ (if x=k then gs k else g x);by_cases e:x=k
    ·subst e;rw [if_pos rfl,if_pos rfl,Av.out];obtain ⟨h4,h5⟩:=aW.out;have h6:=(Ay.out x).mod2 CR (fun k _ hk h=>hC (hk▸h));rw [kC.out,Av.out] at h6;exact h6
    rw [if_neg (fun h=>e (Lit.string.inj h)),if_neg e];have h0:=Hv.out x
    have hlow:∀k',k'<wl.heap.size->(k'=md\/k'=w.heap.size)->C k'->False:=fun k' _ h hc=>by
     rcases h with h|h
     ·exact hC (h▸hc)
     have:=OD _ hc;omega
    exact h0.mod2 Kh (fun k' hk' h hc=>hlow k' hk' h hc)
   show (if x=k then gs k else g x)=if ((gs x).isSome&& !(left (.string x)&& !(Lit.string x).sameKey (.string k)))=true then gs x else gd x
   by_cases e:x=k
   ·subst e;rw [if_pos rfl,a3y,Av.out];simp
   rw [if_neg e,Hg.out x,a3y];have:(x==k)=false:=by rw [beq_eq_false_iff_ne];exact e
   rw [this,Bool.not_false,Bool.and_true]
  case measure=>rw [(lV.out.mod Ao.out (fun h=>hne h.symm) (fun h=>by have h':w.heap.size=md:=h;omega)).left_eq,jK.out.left_eq];exact hlt2
end
end Go.Proofs.YtdmjoodhaeijmaaGreatDoor
