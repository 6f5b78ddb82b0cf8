/- Lemmas. -/
import Derived.Test.YtaenebdppkjhoaaGreatDoorZg29
import Derived.Test.YtaenebdppkjhoaaGreatDoorZg30
namespace Go.Proofs.YtaenebdppkjhoaaGreatDoor
set_option maxRecDepth 20000
set_option maxHeartbeats 40000000
section
open Go.RowKit
structure Mg where
 kind:Int
 at_:Int
 rule:PRu
 fs:ByteArray
 fl:List Cnd
 es:ByteArray
 el:List Att
 ver:Int
 org:ByteArray
 ser:Int
structure Mv where
 m:Mg
 ra:Option Addr
 rc:Nat
 fa:Option Addr
 fc:Nat
 ea:Option Addr
 ec:Nat
def Mv.ru (x:Mv):Ru:=x.m.rule.lies x.ra x.rc
def Mv.cells (x:Mv):List Value:=
 [.int .i64 x.m.kind,.int .i64 x.m.at_,.int .i64 x.m.rule.kind,.int .i64 x.m.rule.tenant,.string x.m.rule.who,.int .i64 x.m.rule.broker,.string x.m.rule.sc,.slice x.ra x.m.rule.cs.length x.rc,.string x.m.rule.name,.int .i64 x.m.rule.at_,
  .string x.m.fs,.slice x.fa x.m.fl.length x.fc,.string x.m.es,.slice x.ea x.m.el.length x.ec,.int .i64 x.m.ver,.string x.m.org,.int .i64 x.m.ser]
theorem Mv.cells_length (x:Mv):x.cells.length=17:=rfl
structure X5 (w:World) (ow:Ow) (x:Mv):Prop where
 ru:l9 w ow 7 (.slice x.ra x.m.rule.cs.length x.rc) x.m.rule.cs.length (l6 x.m.rule.cs)
 fl:l9 w ow 7 (.slice x.fa x.m.fl.length x.fc) x.m.fl.length (l6 x.m.fl)
 el:l9 w ow 6 (.slice x.ea x.m.el.length x.ec) x.m.el.length (j7 x.m.el)
theorem X5.mov {F:Nat->Prop} {w w':World} {ow ow':Ow} {x:Mv} (h:X5 w ow x) (s:Mov F w ow w' ow') (h0:¬F 0):X5 w' ow' x:=⟨h.ru.mov s h0 (by omega),h.fl.mov s h0 (by omega),h.el.mov s h0 (by omega)⟩
structure Tg where
 kind:Int
 op:Int
 err:Int
 sub:Int
 ser:Int
 ver:Int
 org:ByteArray
 es:ByteArray
 el:List Att
structure Tv where
 t:Tg
 ea:Option Addr
 ec:Nat
def Tv.cells (x:Tv):List Value:=
 [.int .i64 x.t.kind,.int .i64 x.t.op,.int .i64 x.t.err,.int .i64 x.t.sub,.int .i64 x.t.ser,.int .i64 x.t.ver,.string x.t.org,.string x.t.es,.slice x.ea x.t.el.length x.ec]
theorem Tv.cells_length (x:Tv):x.cells.length=9:=rfl
structure a7f (w:World) (ow:Ow) (x:Tv):Prop where
 el:l9 w ow 6 (.slice x.ea x.t.el.length x.ec) x.t.el.length (j7 x.t.el)
theorem a7f.mov {F:Nat->Prop} {w w':World} {ow ow':Ow} {x:Tv} (h:a7f w ow x) (s:Mov F w ow w' ow') (h0:¬F 0):a7f w' ow' x:=⟨h.el.mov s h0 (by omega)⟩
abbrev Sb:=Int×ByteArray×Fil
def y8 (S:List Sb) (id:Int):Option (ByteArray×Fil):=(S.find? fun p=>p.1==id).map Prod.snd
def a09 (S:List Sb) (id:Int):List Sb:=S.filter fun p=> !(p.1==id)
def kF (l:List Fil) (k:List UInt8):Option Fil:=l.find? fun f=>i6 f==k
structure RS where
 M:List (Int×Fil)
 N:Nat
 I:List (Int×Fil)
 T:Nat
 S:List Sb
 G:Int->List Fil
 K:Nat
def RS.zero:RS:=⟨[],0,[],0,[],fun _=>[],0⟩
structure BS where
 L:List PRu
 R:Nat->RS
def upd {α:Type} (f:Nat->α) (i:Nat) (x:α):Nat->α:=fun j=>if j=i then x else f j
theorem S5 {α:Type} (f:Nat->α) (i:Nat) (x:α):upd f i x i=x:=if_pos rfl
theorem W0 {α:Type} (f:Nat->α) {i j:Nat} (x:α) (h:j≠i):upd f i x j=f j:=if_neg h
def S6 {α:Type} (f:Int->α) (i:Int) (x:α):Int->α:=fun j=>if j=i then x else f j
theorem a1a {α:Type} (f:Int->α) (i:Int) (x:α):S6 f i x i=x:=if_pos rfl
theorem a1b {α:Type} (f:Int->α) {i j:Int} (x:α) (h:j≠i):S6 f i x j=f j:=if_neg h
def Mg.zero:Mg:=⟨0,0,PRu.zero,⟨#[]⟩,[],⟨#[]⟩,[],0,⟨#[]⟩,0⟩
def Mg.pol (i:Int) (p:PRu):Mg:={Mg.zero with at_:=i,rule:=p}
def Mg.sub (f:Fil):Mg:={Mg.zero with kind:=1,fs:=f.1,fl:=f.2}
def Mg.uns (f:Fil):Mg:={Mg.zero with kind:=2,fs:=f.1,fl:=f.2}
abbrev Sd:=Int×Int×Mg
def C5 (a b:List Fil):List Fil:=a.filter fun f=>(kF b (i6 f)).isNone
def I5 (n ten:Int) (was want:List Fil):List Sd:=(C5 want was).map (fun f=>(n,ten,Mg.sub f))++(C5 was want).map (fun f=>(n,ten,Mg.uns f))
def C6 (M:List (Int×Fil)):List Int->(Int->List Fil)->(Int->List Fil)
 |[],G=>G
 |n::near,G=>C6 M near (S6 G n (x6 M n))
def q9 (M:List (Int×Fil)) (ten:Int):List Int->(Int->List Fil)->List Sd
 |[],_=>[]
 |n::near,G=>I5 n ten (G n) (x6 M n)++q9 M ten near (S6 G n (x6 M n))
def RS.refr (R:RS) (near:List Int):RS:={R with G:=C6 R.M near R.G,K:=R.K+near.length}
def I6 (near:List Int) (frm:Int) (i:Int) (p:PRu):List Sd:=(near.filter fun n=> !(n==frm)).map fun n=>(n, -1,Mg.pol i p)
theorem a0i {M:List (Int×Fil)} {near:List Int} {G:Int->List Fil} {n:Int} (h:n∉near):C6 M near G n=G n:=by
 induction near generalizing G with
 |nil=>rfl
 |cons a near ih=>
  unfold C6;rw [ih (fun h2=>h (List.mem_cons_of_mem _ h2)),a1b _ _ (fun e=>h (by rw [e];exact List.mem_cons_self ..))]
theorem a1c {M:List (Int×Fil)} {near:List Int} {G:Int->List Fil} {n:Int} (h:n∈near):C6 M near G n=x6 M n:=by
 induction near generalizing G with
 |nil=>cases h
 | cons a near ih=>
  unfold C6;by_cases h2:n∈near
  ·exact ih h2
  rw [a0i h2];rcases List.mem_cons.1 h with rfl|h3
  ·exact a1a _ _ _
  exact absurd h3 h2
def a5O (w:World) (e:Ending) (w':World):Prop:=∃b own,e= .returned (.pointer (some ⟨b,0,none⟩))/\Tab w' b own (fun _=>False) [] 0/\(∀k,own k->w.heap.size<=k)/\Mod (fun _=>False) w w'
theorem a1d (w:World):Calls Tryz.prog 44 #[] w (a5O w):=by
 obtain ⟨wa,hwa,hmwa,hgwa,hzwa⟩:=e8 w (.map #[] 0);obtain ⟨wb,hwb,hmwb,hgwb,hzwb⟩:=e8 wa (.cells #[.map (some w.heap.size)] 162);have h1:l8 wb 3 w.heap.size 0 (fun _=>none):=(hwa▸l8.made w 3:l8 wa 3 w.heap.size 0 (fun _=>none)).mod hmwb (fun h=>h)
 have hi:X2 wb wa.heap.size w.heap.size (fun k=>k=w.heap.size\/k=wa.heap.size) (fun _=>False) [] 0:=
  ⟨hgwb,⟨.inr rfl,.inl rfl⟩,by omega,⟨0,_,h1,Nat.le_refl _,fun _ _=>rfl,fun x y mi h=>(by cases h)⟩,List.Pairwise.nil,Nat.le_refl _,fun _ _ h=>h,fun k hk=>by omega,fun _ h=>h.elim,fun p hp=>(by cases hp),fun p hp=>(by cases hp)⟩
 have hm:Mod (fun _=>False) w wb:=hmwa.trans hmwb (fun _ _ h=>h);have hz:=hzwa;obtain ⟨Hwa,Hwb,H1,Hi,Hm,Hgwb,Hgwa,Hz⟩:=zh8 hwa hwb h1 hi hm hgwb hgwa hz;clear hwa hwb h1 hi hm hgwb hgwa hz hmwa hmwb hzwb hzwa
 go_enter Tryz.func44,Tryz.ntmps44
 go_wp2_with (first|(rw [show w.alloc _=wa from Hwa.out])|(rw [show wa.alloc _=wb from Hwb.out])|fail)
 go_ret;refine ⟨wa.heap.size,_,rfl,⟨_,Hi.out⟩,fun k hk=> ?_,Hm.out⟩;have:=Hz.out;rcases hk with rfl|rfl<;>omega
def b1e (w:World) (b:Nat) (own C:Nat->Prop) (M:List (Int×Fil)) (N:Nat) (id:Int) (q:Fil) (e:Ending) (w':World):Prop:=
 (o8 M id (i6 q)≠none/\e= .returned (.bool false)/\Mod (fun _=>False) w w')\/
 (o8 M id (i6 q)=none/\e= .returned (.bool true)/\∃own' C',Tab w' b own' C' (M++[(id,q)]) (N+1)/\(∀k,own k->own' k)/\(∀k,own' k->own k\/w.heap.size<=k)/\(∀k,C' k->C k\/w.heap.size<=k)/\Mod own w w')
theorem a8p {w w8:World} {b mo mi N n8:Nat} {own own' C C':Nat->Prop} {M:List (Int×Fil)} {f f8:Lit->Option Value} {id:Int} {q:Fil} (h:X2 w b mo own C M N)
 (hf1:∀id:Int,a2l w own C b mo N (o8 M id) (f (.int .i64 id))) (hf2:∀(x y:Int) mi,f (.int .i64 x)=some (.map (some mi))->f (.int .i64 y)=some (.map (some mi))->x=y) (hq:o8 M id (i6 q)=none)
 (hO:l8 w8 3 mo n8 f8) (hn8:n8<=N+1) (hfid:f8 (.int .i64 id)=some (.map (some mi))) (hfx:∀x:Int,x≠id->f8 (.int .i64 x)=f (.int .i64 x)) (hmi:own' mi/\mi≠b/\mi≠mo/\mi<w8.heap.size) (hmx:∀x:Int,x≠id->f (.int .i64 x)≠some (.map (some mi)))
 (hK:KAt w8 own' C' mi (N+1) (o8 (M++[(id,q)]) id)) (hm:Mod (fun k=>k=mi\/k=mo) w w8) (ho1:∀k,own k->own' k) (ho2:∀k,own' k->own k\/k=mi) (hmo:mi<w.heap.size->own mi)
 (hC1:∀k,C k->C' k) (hC2:∀k,C' k->k<w8.heap.size) (hd:∀k,own' k->¬C' k) (hwf:(Lit.int .i64 id).wf=true/\q.2.length<=19/\∀c∈q.2,c.fits) (hsc:q.1.size<=1000000):X2 w8 b mo own' C' (M++[(id,q)]) (N+1):=by
 have hmoC:∀k,k<w.heap.size->(k=mi\/k=mo)->¬C k:=fun k hk hf=>by
  rcases hf with rfl|rfl
  ·exact h.dis _ (hmo hk)
  exact h.dis _ h.ob.2
 refine ⟨hm.heap h.row (fun hf=> ?_),⟨ho1 _ h.ob.1,ho1 _ h.ob.2⟩,h.ne,⟨n8,f8,hO,hn8,fun x=> ?_,fun x y m hx hy=> ?_⟩, ?_, ?_,hd,fun k hk=> ?_,hC2,fun p hp=> ?_,fun p hp=> ?_⟩
 ·rcases hf with hf|hf
  ·exact hmi.2.1 hf.symm
  exact h.ne hf
 ·by_cases e:x=id
  ·subst e;rw [hfid];exact ⟨mi,rfl,hmi.1,hmi.2.1,hmi.2.2.1,hK⟩
  rw [hfx x e];have h1:=(hf1 x).mod hm (fun m hm' hf=> ?_) hmoC
  ·refine h1.cong (fun k hk hC ho=> ?_) ho1 hC1 (Nat.le_succ N) (fun k=> ?_)
   ·rcases ho2 k ho with h2|h2
    ·exact h2
    exact absurd (hC1 k hC) (hd k ho)
   rw [a3g hq,if_neg (fun h=>e h.1)]
  rcases hf with hf|hf
  ·subst hf;exact hmx x e hm'
  subst hf;have h2:=hf1 x;rw [hm'] at h2;obtain ⟨m',e', -, -,h3, -⟩:=h2;cases e'
  exact h3 rfl
 ·by_cases ex:x=id<;>by_cases ey:y=id
  ·rw [ex,ey]
  ·subst ex;rw [hfid] at hx;cases hx
   rw [hfx y ey] at hy;exact absurd hy (hmx y ey)
  ·subst ey;rw [hfid] at hy;cases hy
   rw [hfx x ex] at hx;exact absurd hx (hmx x ex)
  rw [hfx x ex] at hx;rw [hfx y ey] at hy;exact hf2 x y m hx hy
 ·rw [List.pairwise_append];refine ⟨h.nd,List.pairwise_singleton _ _,fun p hp r hr e=> ?_⟩;obtain rfl:r=(id,q):=by simpa using hr
  obtain ⟨x,p⟩:=p;obtain ⟨rfl,e2⟩:=e;exact a1J hq p hp e2
 ·rw [zz4];have:=h.low;simp;omega
 ·rcases ho2 k hk with h1|rfl
  ·exact zz13 (h.olow k h1) hm.size
  exact hmi.2.2.2
 ·rcases zz14 hp with hp|hp
  ·exact h.wf p hp
  obtain rfl:p=(id,q):=by simpa using hp
  exact hwf
 rcases zz14 hp with hp|hp
 ·exact h.sc p hp
 obtain rfl:p=(id,q):=by simpa using hp
 exact hsc
theorem N4 (w:World):(zeroValue 174).run Tryz.prog w= .ok (.map none) w:=by kernel_rfl
theorem R5 (k:List UInt8) (hk:k.length<=maxLen):keyOf Tryz.prog 9 (.string (str k))=some (.string k):=by
 have h:=WideMaps.keyOf_string_mk (s:=str k) Tryz.underlying9 (by simpa [str,ByteArray.size] using hk);simpa [str] using h
theorem a8q {w:World} {own C:Nat->Prop} {b mo N:Nat} {g:List UInt8->Option Fil} {v:Option Value} (h:a2l w own C b mo N g v) (k:List UInt8) (hk:k.length<=maxLen):
 ∃s a n c,(Instr.lookup 174 (v.getD (.map none)) (.string (str k)) true).run Tryz.prog w= .ok (.tuple #[.agg #[.string s,.slice a n c],.bool (g k).isSome]) w:=by
 cases v with
 |none=>
  refine ⟨⟨#[]⟩,none,0,0, ?_⟩;rw [h k];simpa using Maps.look_nil (w:=w) true o6 Tryz.underlying174 (u4 w) (R5 k hk)
 | some v=>
  obtain ⟨mi,rfl, -, -, -,n,f,h1, -,h2⟩:=h;have h3:=h1.look_ok o6 Tryz.underlying174 (u4 w) (R5 k hk);have h4:=h2 k;cases hf:f (.string k)<;>cases hg:g k<;>rw [hf,hg] at h4
  ·rw [hf] at h3;exact ⟨_,_,_,_,h3⟩
  ·exact h4.elim
  ·exact h4.elim
  obtain ⟨a,cap,rfl, -⟩:=h4;rw [hf] at h3;exact ⟨_,_,_,_,h3⟩
theorem a2l.val {w:World} {own C:Nat->Prop} {b mo N:Nat} {g:List UInt8->Option Fil} {v:Option Value} (h:a2l w own C b mo N g v):
 (v=none/\v.getD (.map none)= .map none/\∀k,g k=none)\/∃mi,v=some (.map (some mi))/\v.getD (.map none)= .map (some mi)/\own mi/\mi≠b/\mi≠mo/\KAt w own C mi N g:=by
 cases v with
 |none=>exact .inl ⟨rfl,rfl,h⟩
 |some v=>
  obtain ⟨mi,rfl,h⟩:=h;exact .inr ⟨mi,rfl,rfl,h⟩
theorem a8r {w w6:World} {own own' C C':Nat->Prop} {mi N n:Nat} {g g':List UInt8->Option Fil} {fi:Lit->Option Value} {key:List UInt8} {v:Value} {q:Fil} (h2:n<=N) (h3:∀k,A7 w own C (fi (.string k)) (g k))
 (h6:l8 w6 9 mi (if (fi (.string key)).isSome then n else n+1) (C0 fi (.string key) v)) (hm:Mod (fun k=>k=mi) w w6) (hmi:¬C mi) (hq:A7 w6 own' C' (some v) (some q))
 (ho:∀k,k<w.heap.size->C k->own' k->own k) (hC:∀k,C k->C' k) (hg:∀k,g' k=if k=key then some q else g k):KAt w6 own' C' mi (N+1) g':=by
 refine ⟨_,_,h6,by split<;>omega,fun k=> ?_⟩;rw [hg];unfold C0;by_cases e:k=key
 ·rw [if_pos e,if_pos (by rw [e])];exact hq
 rw [if_neg e,if_neg (fun h=>e (Lit.string.inj h))];have h4:=(h3 k).mod2 hm (fun k _ e h=>hmi (e▸h));have h5:=h3 k;cases hf:fi (.string k)<;>cases hk:g k<;>rw [hf,hk] at h4 h5
 ·trivial
 ·exact h4
 ·exact h4
 obtain ⟨a,cap,e1,e2,e3⟩:=h4;obtain ⟨a',cap',e1', -,e3'⟩:=h5;rw [e1] at e1';cases e1'
 exact ⟨a,cap,e1,e2,fun k hk=>⟨(e3 k hk).1,fun h=>(e3 k hk).2.1 (ho k (e3' k hk).1 (e3 k hk).2.2 h),hC k (e3 k hk).2.2⟩⟩
def b3l (b mo mi bx:Nat) (id:Int) (sc:ByteArray) (na:Option Addr) (n nc:Nat) (y:World):Prop:=
 y.cell? ⟨b,0,none⟩=some (.map (some mo))/\y.cell? ⟨bx,0,none⟩=some (.string sc)/\y.cell? ⟨bx,1,none⟩=some (.slice na n nc)/\(Instr.lookup 57 (.map (some mo)) (.int .i64 id) false).run Tryz.prog y= .ok (.map (some mi)) y
theorem b3m (bm:Nat) (w:World):(binOp .eql 174 (.map (some bm)) (.map none)).run Tryz.prog w= .ok (.bool false) w:=by kernel_rfl
theorem b4I (w:World):(binOp .eql 174 (.map none) (.map none)).run Tryz.prog w= .ok (.bool true) w:=by kernel_rfl
attribute [local go_sem] b3m b4I
theorem b3n (w0 w:World) (hl:J3 w0 w) (b:Nat) (own C:Nat->Prop) (M:List (Int×Fil)) (N:Nat) (h:Tab w b own C M N) (hN:N<=100000) (hown:∀k,own k->w0.heap.size<=k) (id:Int) (hid:(Lit.int .i64 id).wf=true)
 (sc:ByteArray) (cv:Value) (l:List Cnd) (hv:j0 w 7 cv l.length (l6 l)) (hll:l.length<20) (hcs:∀c∈l,c.fits) (hsc:sc.size<=1000000):
 Calls Tryz.prog 58 #[.pointer (some ⟨b,0,none⟩),.int .i64 id,.agg #[.string sc,cv]] w (b1e w b own C M N id (sc,j2 l)):=by
 obtain ⟨mo,h⟩:=h;obtain ⟨a,cap,rfl,hcap⟩:∃a c,cv= .slice a l.length c/\l.length<=c:=by obtain ⟨-,a,c,h,h2, -⟩:=hv;exact ⟨a,c,h,h2⟩
 obtain ⟨nl,hnl⟩:∃nl,j2 l=nl:=⟨_,rfl⟩;rw [hnl];obtain ⟨wa,hwa,hmwa,hgwa,hzwa⟩:=e8 w (.cells #[.string sc,.slice a l.length cap] 33);have hva:=hv.mod hmwa (fun _ _ h=>h);have hnm:=a0h w0 wa (hl.mod0 hmwa) sc (.slice a l.length cap) l hva hll hcs;rw [hnl] at hnm;have c0:wa.cell? ⟨w.heap.size,0,none⟩=some (.string sc):=d6 hgwa rfl;have c1:wa.cell? ⟨w.heap.size,1,none⟩=some (.slice a l.length cap):=d6 hgwa rfl;have hnlen:nl.length<20:=by rw [<-hnl];exact Nat.lt_of_le_of_lt (G6 l) hll
 have hnf:∀c∈nl,c.fits:=by rw [<-hnl];exact F0 hcs
 obtain ⟨key,hkey⟩:∃key,p9 sc nl=key:=⟨_,rfl⟩;have hkl:key.length<=1000000000:=by have:=E9 sc nl hnf;rw [hkey] at this;omega
 have hkF:i6 (sc,nl)=key:=hkey;obtain ⟨Hl,H,Hv,Hva,Hcs,Hwa,Hmwa,Hgwa,Hnm,Hown,Hid,Hnf⟩:=zh12 hl h hv hva hcs hwa hmwa hgwa hnm hown hid hnf;obtain ⟨Hkey,HkF,Hnl⟩:=zh3 hkey hkF hnl;clear hl h hv hva hcs hwa hmwa hgwa hnm hown hid hnf hkey hkF hnl hzwa
 go_enter Tryz.func58,Tryz.ntmps58
 go_wp2_with (first|(rw [show w.alloc _=wa from Hwa.out])|fail)
 refine Hnm.out.mono ?_;rintro e w2 ⟨na,nc,rfl,hno,hnb,hm2⟩;have hg2:=hm2.heap Hgwa.out (fun h=>h);have hm02:=Hmwa.out.trans hm2 (fun _ _ h=>h);obtain ⟨Hno,Hnb,Hm2,Hg2,Hm02⟩:=zh5 hno hnb hm2 hg2 hm02;clear hno hnb hm2 hg2 hm02 c0 c1
 go_wp2_with (first|((with_reducible refine j3 33 (.tmp 5) (.tmp 11) ?_);refine ⟨w.heap.size,rfl,_,_,Hg2.out,[.string sc,.slice na nl.length nc],rfl,rfl,by kernel_rfl,rfl, ?_⟩;intro w3 hg3 hmw3;have k0:w3.cell? ⟨w.heap.size,0,none⟩=some (.string sc):=d6 hg3 rfl;have k1:w3.cell? ⟨w.heap.size,1,none⟩=some (.slice na nl.length nc):=d6 hg3 rfl;have Hg3:=Lib.hid hg3;have Hmw3:=Lib.hid hmw3;clear hg3 hmw3)|fail)
 have hsz:w.heap.size<wa.heap.size:=(zz7 Hgwa.out).1;have hno3:=Hno.out.mod Hmw3.out (fun k hk e=>by have h1:=Hnb.out k hk;have h2:k=w.heap.size:=e;omega);have hl3:J3 w0 w3:=(Hl.out.mod0 Hm02.out).mod Hmw3.out (fun k hk e=>by have h1:=Hl.out.size;have h2:k=w.heap.size:=e;omega);have hpr:=T5 w0 w3 hl3 sc (.slice na nl.length nc) nl hno3.rd (by omega) hsc Hnf.out;rw [Hkey.out] at hpr;obtain ⟨Hno3,Hl3,Hpr⟩:=zh3 hno3 hl3 hpr;clear hno3 hl3 hpr
 go_wp2_with fail
 refine Hpr.out.mono ?_;rintro e w4 ⟨rfl,hm4⟩;have hm24:Mod (fun k=>k=w.heap.size) w w4:=((Hm02.out.mono (G:=fun k=>k=w.heap.size) (fun _ _ h=>h.elim)).trans Hmw3.out (fun _ _ h=>h)).trans (hm4.mono (G:=fun k=>k=w.heap.size) (fun _ _ h=>h.elim)) (fun _ _ h=>h);have hg4:=hm4.heap Hg3.out (fun h=>h);have ht4:=H.out.mod hm24 (fun k hk e=>by have h2:k=w.heap.size:=e;omega);have hno4:=Hno3.out.mod hm4 (fun _ _ h=>h);obtain ⟨n,f,hf1,hf2,hf3,hf4⟩:=ht4.om;have hlk:=hf1.look m7 Tryz.underlying57 (N4 w4) (Maps.keyOf_int_mk Tryz.underlying3 Hid.out);obtain ⟨s,fa,fn,fc,hlk2⟩:=a8q (hf3 id) key (by unfold maxLen;omega);obtain ⟨ok,hok⟩:∃ok,(o8 M id key).isSome=ok:=⟨_,rfl⟩;rw [hok] at hlk2;have b0:w4.cell? ⟨b,0,none⟩=some (.map (some mo)):=d6 ht4.row rfl;obtain ⟨w5,hw5,hmw5,hgw5,hzw5⟩:=e8 w4 (.cells #[.string s,.slice fa fn fc] 33);have hm45:=hmw5;have ht5:=ht4.mod hmw5 (fun _ _ h=>h.elim);have hg5:=hmw5.heap hg4 (fun h=>h);have e0:w5.cell? ⟨w.heap.size,0,none⟩=some (.string sc):=d6 hg5 rfl;have e1:w5.cell? ⟨w.heap.size,1,none⟩=some (.slice na nl.length nc):=d6 hg5 rfl;have b5:w5.cell? ⟨b,0,none⟩=some (.map (some mo)):=d6 ht5.row rfl;have hno5:=hno4.mod hmw5 (fun _ _ h=>h);have hv5:=fun x=>(hf3 x).mod hmw5 (fun _ _ h=>h) (fun _ _ h=>h.elim);have ho5:=hf1.mod hmw5 (fun h=>h);have hlk5:=ho5.look m7 Tryz.underlying57 (N4 w5) (Maps.keyOf_int_mk Tryz.underlying3 Hid.out);have hval:=(hv5 id).val;obtain ⟨vv,hvv⟩:∃vv,(f (.int .i64 id)).getD (.map none)=vv:=⟨_,rfl⟩;rw [hvv] at hlk hlk2 hlk5 hval;have hm05:Mod (fun k=>k=w.heap.size) w w5:=hm24.trans (hmw5.mono (fun _ _ h=>h.elim)) (fun _ _ h=>h);have hm05':Mod (fun _=>False) w w5:=(Mod.refl (fun _=>False) w).upon hm05 (fun k hk=> .inr (Nat.le_of_eq (Eq.symm hk)));have hnb5:∀k,(Value.slice na nl.length nc).ownBlock=some k->w.heap.size<=k/\k<w5.heap.size:=fun k hk=>⟨by have h1:=Hnb.out k hk;have h2:=Hmwa.out.size;omega,hno5.lt k hk⟩;obtain ⟨Hm45,Ht5,Hg5,Hno5,Hv5,Ho5,Hval,Hvv,Hm05,Hm05',Hnb5,Ht4⟩:=zh12 hm45 ht5 hg5 hno5 hv5 ho5 hval hvv hm05 hm05' hnb5 ht4;obtain ⟨Hg4,Hno4,Hf1,Hf2,Hf3,Hf4,Hm4,Hm24,Hmw5,Hgw5,Hw5,Hok⟩:=zh12 hg4 hno4 hf1 hf2 hf3 hf4 hm4 hm24 hmw5 hgw5 hw5 hok;clear hm45 ht5 hg5 hno5 hv5 ho5 hval hvv hm05 hm05' hnb5 ht4 hg4 hno4 hf1 hf2 hf3 hf4 hm4 hm24 hmw5 hgw5 hw5 hok hzw5 k0 k1;have hkx:=Maps.keyOf_int_mk Tryz.underlying3 Hid.out;have hwsz:w.heap.size<w5.heap.size:=(zz7 Hg5.out).1;have hmow:mo<w.heap.size:=H.out.olow _ H.out.ob.2;have hbw:b<w.heap.size:=H.out.olow _ H.out.ob.1
 cases ok with
 |true=>
  go_wp2_with (first|((with_reducible refine d8 33 (.tmp 8) (.tmp 23) ?_);refine ⟨rfl,[.string s,.slice fa fn fc],rfl,rfl,by kernel_rfl,rfl, ?_⟩;rw [Hw5.out])|fail)
  go_ret;refine .inl ⟨fun h=> ?_,rfl,Hm05'.out⟩;have h1:=Hok.out;rw [HkF.out] at h;rw [h] at h1;cases h1
 | false=>
  have hqn:o8 M id key=none:=by
   have h1:=Hok.out
   cases h2:o8 M id key with
   |none=>rfl
   |some q=>rw [h2] at h1;cases h1
  rcases Hval.out with ⟨hfn,rfl,hgn⟩|⟨mi,hfn,rfl,homi,hmib,hmio,hKA⟩
  ·obtain ⟨w6,hw6,hmw6,hgw6,hzw6⟩:=e8 w5 (.map #[] 0);have hO6:=Ho5.out.mod hmw6 (fun h=>h);have hI6:l8 w6 9 w5.heap.size 0 (fun _=>none):=hw6▸l8.made w5 9;obtain ⟨Hqn,Hfn,Hgn,Hw6,Hmw6,Hgw6,HO6,HI6,Hkx⟩:=zh9 hqn hfn hgn hw6 hmw6 hgw6 hO6 hI6 hkx;clear hqn hfn hgn hw6 hmw6 hgw6 hO6 hI6 hkx hzw6
   go_wp2_with (first|((with_reducible refine d8 33 (.tmp 8) (.tmp 23) ?_);refine ⟨rfl,[.string s,.slice fa fn fc],rfl,rfl,by kernel_rfl,rfl, ?_⟩;rw [Hw5.out])|(rw [show w5.alloc _=w6 from Hw6.out])|((with_reducible refine M5 57 (.tmp 36) (.tmp 37) (.tmp 38) ?_);refine ⟨3,174,mo,n,f,.int .i64 id,HO6.out,m7,Tryz.underlying57,by unfold maxLen;have:=Hf2.out;omega,rfl,Hkx.out, ?_⟩;intro w7 hM7 hm7;have HM7:=Lib.hid hM7;have Hm7:=Lib.hid hm7;clear hM7 hm7)|fail)
   have hm57:Mod (fun k=>k=mo) w5 w7:=(Hmw6.out.mono (fun _ _ h=>h.elim)).trans Hm7.out (fun _ _ h=>h);have hI7:=HI6.out.mod Hm7.out (fun h=>by have h1:w5.heap.size=mo:=h;omega);have hd7:Mod (fun _=>False) w7 w7.drew:=(Mod.refl _ _).drew;have hlk7:=(HM7.out.mod hd7 (fun h=>h)).look m7 Tryz.underlying57 (N4 w7.drew) Hkx.out;have hpf:C0 f (.int .i64 id) (.map (some w5.heap.size)) (.int .i64 id)=some (.map (some w5.heap.size)):=by unfold C0;rw [if_pos rfl]
   have hS:b3l b mo w5.heap.size w.heap.size id sc na nl.length nc w7.drew:=by
    refine ⟨(hm57.cell b5 H.out.ne),hm57.cell e0 (fun h=>by have h1:w.heap.size=mo:=h;omega),hm57.cell e1 (fun h=>by have h1:w.heap.size=mo:=h;omega), ?_⟩;rw [hlk7];show Result.ok ((C0 f (.int .i64 id) (.map (some w5.heap.size)) (.int .i64 id)).getD (.map none)) w7.drew=_;rw [hpf];rfl
   have hI7d:=hI7.mod hd7 (fun h=>h);obtain ⟨Hm57,HI7,Hd7,Hlk7,Hpf,HI7d⟩:=zh6 hm57 hI7 hd7 hlk7 hpf hI7d;clear hm57 hI7 hd7 hlk7 hpf hI7d;refine g8 [.rd 0,.rd 1,.rd 2,.rd 3,.rd 4,.rd 5,.rd 6,.rd 7,.go 8] [0,1,2,3,4,5,6,7] (b3l b mo w5.heap.size w.heap.size id sc na nl.length nc) (by kernel_rfl) (by kernel_rfl) (fun _ _ d _ _ h=>(by cases d<;>exact h)) ?_
   iterate 8 (
    refine l5 rfl ?_ (fun _=>hS) ?_ (fun w0 h0=> ?_) (fun K hK=> ?_)
    ·(try simp only [zz1]);(try simp only [zz2]);(try simp only [zz3]);go_simp;done
    rotate_left
    ·(try simp only [zz1]);(try simp only [zz2]);(try simp only [zz3])
     first
      |(obtain ⟨f0,f1,f2,f3⟩:=h0 rfl;clear h0;go_simp;with_reducible rfl)
      |(clear h0;go_simp;with_reducible rfl)
    (try simp only [zz1]);(try simp only [zz2]);(try simp only [zz3])
    go_simp;refine hK _ ?_;clear hK K)
   refine g7 (g9 rfl ?_ (fun K hK=> ?_))
   ·(try simp only [zz1]);(try simp only [zz2]);(try simp only [zz3]);go_simp;done
   (try simp only [zz1]);(try simp only [zz2]);(try simp only [zz3]);refine a03 174 _ _ _ rfl ?_;refine ⟨9,33,w5.heap.size,0,(fun _=>none),.string key,HI7d.out,o6,Tryz.underlying174,by unfold maxLen;omega,rfl,R5 key (by unfold maxLen;omega), ?_⟩;intro w8 hM8 hm8;refine hK _ _ (fun h=>absurd h (by decide)) ?_;clear hK K hS;refine j8 ?_;have hm78:=Hd7.out.mono (G:=fun k=>k=w5.heap.size) (fun _ _ h=>h.elim)|>.trans hm8 (fun _ _ h=>h);have hm58:Mod (fun k=>k=w5.heap.size\/k=mo) w5 w8:=(Hm57.out.mono (fun _ _ h=> .inr h)).trans (hm78.mono (fun _ _ h=> .inl h)) (fun _ _ h=>h)
   have hno8:=Hno5.out.mod hm58 (fun k hk h=>by
    have h1:=Hnb5.out k hk
    rcases h with h|h<;>omega)
   have hO8:=HM7.out.mod hm78 (fun h=>by have h1:mo=w5.heap.size:=h;omega);have hz8:=hm58.size;have hw8:w5.heap.size<w8.heap.size:=zz13 HI7.out.lt hm78.size;have hqk:o8 M id (i6 (sc,nl))=none:=by rw [HkF.out];exact Hqn.out
   have hK8:KAt w8 (fun k=>own k\/k=w5.heap.size) (fun k=>C k\/(Value.slice na nl.length nc).ownBlock=some k) w5.heap.size (N+1) (o8 (M++[(id,(sc,nl))]) id):=
    a8r (w:=w7.drew) (own:=own) (C:=C) (N:=N) (n:=0) (g:=o8 M id) (fi:=fun _=>none) (key:=key) (q:=(sc,nl)) (Nat.zero_le _) (fun k=>by rw [Hgn.out k];trivial) hM8 hm8
     (fun h=>by have:=Ht5.out.clow _ h;omega) ⟨na,nc,rfl,hno8,fun k hk=>⟨zz13 (Hnb5.out k hk).2 hz8,fun h=>by
       have h1:=Hnb5.out k hk;rcases h with h|h
       ·have:=H.out.olow _ h;omega
       ·omega,.inr hk⟩⟩ (fun k hk hc h=>h.elim (fun h=>h) fun e=>by have:=Ht5.out.clow _ hc;omega) (fun _=> .inl) (fun k=>by rw [a3g hqk,HkF.out];simp)
   have hT:=a8p (w:=w5) (w8:=w8) (mi:=w5.heap.size) (own':=fun k=>own k\/k=w5.heap.size) (C':=fun k=>C k\/(Value.slice na nl.length nc).ownBlock=some k) Ht5.out Hv5.out Hf4.out hqk hO8 (by have:=Hf2.out;split<;>omega) Hpf.out
    (fun x hx=>by unfold C0;rw [if_neg (fun h=>hx (by cases h;rfl))]) ⟨.inr rfl,by omega,by omega,hw8⟩ (fun x _ h=>by
      have h1:=Hv5.out x;rw [h] at h1;obtain ⟨mi,e, -, -, -,h2⟩:=h1;cases e
      exact absurd h2.lt (Nat.lt_irrefl _)) hK8 hm58 (fun _=> .inl) (fun _ h=>h) (fun h=>absurd h (Nat.lt_irrefl _)) (fun _=> .inl)
    (fun k h=>h.elim (fun h=>zz13 (Ht5.out.clow _ h) hz8) (fun h=>zz13 (Hnb5.out k h).2 hz8)) (fun k h1 h2=>by
      rcases h1 with h1|h1<;>rcases h2 with h2|h2
      ·exact H.out.dis _ h1 h2
      ·have:=H.out.olow _ h1;have:=Hnb5.out k h2;omega
      ·have:=Ht5.out.clow _ h2;omega
      ·have:=Hnb5.out k h2;omega) ⟨Hid.out,Nat.le_of_lt_succ hnlen,Hnf.out⟩ hsc
   have hm08:Mod own w w8:=(Hm05'.out.mono (fun _ _ h=>h.elim)).trans hm58 (fun k hk h=>by
    rcases h with h|h
    ·omega
    ·rw [h];exact H.out.ob.2)
   obtain ⟨HT,Hm08,Hm78,Hm58,Hno8,HO8,HK8,HM8,Hm8,Hqk⟩:=zh10 hT hm08 hm78 hm58 hno8 hO8 hK8 hM8 hm8 hqk;clear hT hm08 hm78 hm58 hno8 hO8 hK8 hM8 hm8 hqk
   go_wp2_with fail
   go_ret;exact .inr ⟨Hqk.out,rfl,_,_,⟨mo,HT.out⟩,fun _=> .inl,fun k h=>h.elim .inl (fun e=> .inr (by omega)),fun k h=>h.elim .inl (fun h=> .inr (Hnb5.out k h).1),Hm08.out⟩
  obtain ⟨ni,fi,hi1,hi2,hi3⟩:=hKA;have hd5:Mod (fun _=>False) w5 w5.drew:=(Mod.refl _ _).drew;have hlk6:=(Ho5.out.mod hd5 (fun h=>h)).look m7 Tryz.underlying57 (N4 w5.drew) hkx;rw [Hvv.out] at hlk6;have hS:b3l b mo mi w.heap.size id sc na nl.length nc w5.drew:=⟨b5,e0,e1,hlk6⟩;have hid5:=hi1.mod hd5 (fun h=>h);have hmilt:=hi1.lt;have hmiw:mi<w.heap.size:=H.out.olow _ homi;obtain ⟨Hqn,Hfn,Homi,Hi1,Hi2,Hi3,Hd5,Hlk6,Hid5,Hkx⟩:=zh10 hqn hfn homi hi1 hi2 hi3 hd5 hlk6 hid5 hkx;clear hqn hfn homi hi1 hi2 hi3 hd5 hlk6 hid5 hkx
  go_wp2_with (first|((with_reducible refine d8 33 (.tmp 8) (.tmp 23) ?_);refine ⟨rfl,[.string s,.slice fa fn fc],rfl,rfl,by kernel_rfl,rfl, ?_⟩;rw [Hw5.out])|fail)
  refine g8 [.rd 0,.rd 1,.rd 2,.rd 3,.rd 4,.rd 5,.rd 6,.rd 7,.go 8] [0,1,2,3,4,5,6,7] (b3l b mo mi w.heap.size id sc na nl.length nc) (by kernel_rfl) (by kernel_rfl) (fun _ _ d _ _ h=>(by cases d<;>exact h)) ?_
  iterate 8 (
   refine l5 rfl ?_ (fun _=>hS) ?_ (fun w0 h0=> ?_) (fun K hK=> ?_)
   ·(try simp only [zz1]);(try simp only [zz2]);(try simp only [zz3]);go_simp;done
   rotate_left
   ·(try simp only [zz1]);(try simp only [zz2]);(try simp only [zz3])
    first
     |(obtain ⟨f0,f1,f2,f3⟩:=h0 rfl;clear h0;go_simp;with_reducible rfl)
     |(clear h0;go_simp;with_reducible rfl)
   (try simp only [zz1]);(try simp only [zz2]);(try simp only [zz3])
   go_simp;refine hK _ ?_;clear hK K)
  refine g7 (g9 rfl ?_ (fun K hK=> ?_))
  ·(try simp only [zz1]);(try simp only [zz2]);(try simp only [zz3]);go_simp;done
  (try simp only [zz1]);(try simp only [zz2]);(try simp only [zz3]);refine a03 174 _ _ _ rfl ?_;refine ⟨9,33,mi,ni,fi,.string key,Hid5.out,o6,Tryz.underlying174,by unfold maxLen;have:=Hi2.out;omega,rfl,R5 key (by unfold maxLen;omega), ?_⟩;intro w8 hM8 hm8;refine hK _ _ (fun h=>absurd h (by decide)) ?_;clear hK K hS;refine j8 ?_;have hm58:Mod (fun k=>k=mi) w5 w8:=(Hd5.out.mono (fun _ _ h=>h.elim)).trans hm8 (fun _ _ h=>h);have hm58':Mod (fun k=>k=mi\/k=mo) w5 w8:=hm58.mono (fun _ _ h=> .inl h)
  have hno8:=Hno5.out.mod hm58 (fun k hk h=>by
   have h1:=Hnb5.out k hk;have h2:k=mi:=h
   omega)
  have hO8:=Ho5.out.mod hm58 (fun h=>hmio h.symm);have hz8:=hm58.size;have hqk:o8 M id (i6 (sc,nl))=none:=by rw [HkF.out];exact Hqn.out
  have hK8:KAt w8 own (fun k=>C k\/(Value.slice na nl.length nc).ownBlock=some k) mi (N+1) (o8 (M++[(id,(sc,nl))]) id):=
   a8r (w:=w5) (own:=own) (C:=C) (N:=N) (n:=ni) (g:=o8 M id) (fi:=fi) (key:=key) (q:=(sc,nl)) Hi2.out Hi3.out hM8 hm58
    (H.out.dis _ Homi.out) ⟨na,nc,rfl,hno8,fun k hk=>⟨zz13 (Hnb5.out k hk).2 hz8,fun h=>by
      have h1:=Hnb5.out k hk;have:=H.out.olow _ h
      omega,.inr hk⟩⟩ (fun k hk hc h=>h) (fun _=> .inl) (fun k=>by rw [a3g hqk,HkF.out];simp)
  have hT:=a8p (w:=w5) (w8:=w8) (mi:=mi) (own':=own) (C':=fun k=>C k\/(Value.slice na nl.length nc).ownBlock=some k) Ht5.out Hv5.out Hf4.out hqk hO8 (by have:=Hf2.out;omega) Hfn.out
   (fun x hx=>rfl) ⟨Homi.out,hmib,hmio,by omega⟩ (fun x hx h=>hx (Hf4.out x id mi h Hfn.out)) hK8 hm58' (fun _ h=>h) (fun _ h=> .inl h) (fun _=>Homi.out) (fun _=> .inl)
   (fun k h=>h.elim (fun h=>zz13 (Ht5.out.clow _ h) hz8) (fun h=>zz13 (Hnb5.out k h).2 hz8)) (fun k h1 h2=>by
     rcases h2 with h2|h2
     ·exact H.out.dis _ h1 h2
     ·have:=H.out.olow _ h1;have:=Hnb5.out k h2;omega) ⟨Hid.out,Nat.le_of_lt_succ hnlen,Hnf.out⟩ hsc
  have hm08:Mod own w w8:=(Hm05'.out.mono (fun _ _ h=>h.elim)).trans hm58 (fun k hk h=>by
   have h2:k=mi:=h
   rw [h2];exact Homi.out)
  obtain ⟨HT,Hm08,Hm58,Hm58',Hno8,HO8,HK8,HM8,Hm8,Hqk⟩:=zh10 hT hm08 hm58 hm58' hno8 hO8 hK8 hM8 hm8 hqk;clear hT hm08 hm58 hm58' hno8 hO8 hK8 hM8 hm8 hqk
  go_wp2_with fail
  go_ret;exact .inr ⟨Hqk.out,rfl,_,_,⟨mo,HT.out⟩,fun _ h=>h,fun k h=> .inl h,fun k h=>h.elim .inl (fun h=> .inr (Hnb5.out k h).1),Hm08.out⟩
end
section
open Go.RowKit
theorem X2.cong {w:World} {b mo:Nat} {own own' C C':Nat->Prop} {M:List (Int×Fil)} {N:Nat} (h:X2 w b mo own C M N) (h1:∀k,own k->own' k) (h2:∀k,C k->C' k) (h3:∀k,own' k->¬C' k) (h4:∀k,own' k->k<w.heap.size) (h5:∀k,C' k->k<w.heap.size) (h6:∀k,C k->own' k->own k):X2 w b mo own' C' M N:=by
 refine ⟨h.row,⟨h1 _ h.ob.1,h1 _ h.ob.2⟩,h.ne, ?_,h.nd,h.low,h3,h4,h5,h.wf,h.sc⟩;obtain ⟨n,f,g1,g2,g3,g4⟩:=h.om;exact ⟨n,f,g1,g2,fun id=>(g3 id).cong (fun k _ hc ho=>h6 k hc ho) h1 h2 (Nat.le_refl _) (fun _=>rfl),g4⟩
theorem Tab.cong {w:World} {b:Nat} {own own' C C':Nat->Prop} {M:List (Int×Fil)} {N:Nat} (h:Tab w b own C M N) (h1:∀k,own k->own' k) (h2:∀k,C k->C' k) (h3:∀k,own' k->¬C' k) (h4:∀k,own' k->k<w.heap.size) (h5:∀k,C' k->k<w.heap.size):Tab w b own' C' M N:=by
 obtain ⟨mo,h⟩:=h;exact ⟨mo,h.cong h1 h2 h3 h4 h5 (fun k hc ho=>absurd (h2 k hc) (h3 k ho))⟩
def C1 (w:World) (ow:Ow) (c b:Nat) (M:List (Int×Fil)) (N:Nat):Prop:=Tab w b (fun k=>ow k=c) (fun k=>ow k=0/\k<w.heap.size) M N
theorem C1.mov {F:Nat->Prop} {w0 w w':World} {ow ow':Ow} {c b:Nat} {M:List (Int×Fil)} {N:Nat} (h:C1 w ow c b M N) (hw:Owd w0 w ow) (s:Mov F w ow w' ow') (h0:¬F 0) (hc:¬F c) (h2:2<=c):C1 w' ow' c b M N:=by
 have h1:Tab w' b (fun k=>ow k=c) (fun k=>ow k=0/\k<w.heap.size) M N:=Tab.mod h s.md (fun k _ hf=>by
  have hf':F (ow k):=hf
  exact ⟨fun e=>hc (by rw [<-e];exact hf'),fun e=>h0 (by rw [<-e.1];exact hf')⟩)
 refine h1.cong (fun k hk=> ?_) (fun k hk=> ?_) (fun k hk hk2=> ?_) (fun k hk=> ?_) (fun k hk=>hk.2)
 ·have hk':ow k=c:=hk;show ow' k=c;rw [s.old k (hw.hi k (by omega))];exact hk'
 ·exact ⟨by rw [s.old k hk.2];exact hk.1,zz13 hk.2 s.md.size⟩
 ·have hk':ow' k=c:=hk;have:=hk2.1;omega
 have hk':ow' k=c:=hk;by_cases hl:k<w'.heap.size
 ·exact hl
 rw [s.top k (by omega)] at hk';omega
theorem C1.new {w0 w w':World} {ow:Ow} {c b:Nat} {own' C':Nat->Prop} {M:List (Int×Fil)} {N:Nat} (hw:Owd w0 w ow) (h2:2<=c) (h:Tab w' b own' C' M N) (ho:∀k,own' k->ow k=c\/w.heap.size<=k)
 (hC:∀k,C' k->(ow k=0/\k<w.heap.size)\/w.heap.size<=k) (hm:Mod (fun k=>ow k=c) w w'):C1 w' (r8 w w' ow own' C' c) c b M N:=by
 have hl:=h.low;obtain ⟨mo,hat⟩:=h;have hd:=hat.dis;refine Tab.cong (own:=own') (C:=C') ⟨mo,hat⟩ (fun k hk=> ?_) (fun k hk=> ?_) (fun k hk hk2=> ?_) (fun k hk=> ?_) (fun k hk=>hk.2)
 ·show r8 w w' ow own' C' c k=c;rcases ho k hk with e|e
  ·rw [q7 (hw.hi k (by omega))];exact e
  exact F1 e (hl.1 k hk) hk
 ·refine ⟨?_,hl.2 k hk⟩;rcases hC k hk with e|e
  ·rw [q7 e.2];exact e.1
  exact a04 e (hl.2 k hk) (fun ho=>hd k ho hk) hk
 ·have hk':r8 w w' ow own' C' c k=c:=hk;have:=hk2.1;omega
 have hk':r8 w w' ow own' C' c k=c:=hk;by_cases e:k<w.heap.size
 ·exact zz13 e hm.size
 exact (a4c (by omega) hk' h2).2
theorem Q8.cong {w:World} {b m1 m2:Nat} {own own' C C':Nat->Prop} {I:List (Int×Fil)} {T:Nat} (h:Q8 w b m1 m2 own C I T) (h1:∀k,own k->own' k) (h2:∀k,C k->C' k) (h3:∀k,own' k->¬C' k) (h4:∀k,own' k->k<w.heap.size) (h5:∀k,C' k->k<w.heap.size):Q8 w b m1 m2 own' C' I T:=by
 refine ⟨h.row,h.nd,⟨h1 _ h.ob.1,h1 _ h.ob.2.1,h1 _ h.ob.2.2⟩,h.ne, ?_,h.pm.cong (fun k _ hk=>h1 k hk) (fun _ _=>rfl) (Nat.le_refl _),h.low,h4,h5,h.wf,h.sc⟩;obtain ⟨f,g1,g2⟩:=h.fm;exact ⟨f,g1,fun id=>(g2 id).cong (fun k _ hc ho=>absurd (h2 k hc) (h3 k ho)) h2⟩
def P9 (w:World) (ow:Ow) (c b:Nat) (I:List (Int×Fil)) (T:Nat):Prop:=Idx w b (fun k=>ow k=c) (fun k=>ow k=0/\k<w.heap.size) I T
theorem P9.mov {F:Nat->Prop} {w0 w w':World} {ow ow':Ow} {c b:Nat} {I:List (Int×Fil)} {T:Nat} (h:P9 w ow c b I T) (hw:Owd w0 w ow) (s:Mov F w ow w' ow') (h0:¬F 0) (hc:¬F c) (h2:2<=c):P9 w' ow' c b I T:=by
 have h1:Idx w' b (fun k=>ow k=c) (fun k=>ow k=0/\k<w.heap.size) I T:=Idx.mod2 h s.md (fun k _ hf=>by
  have hf':F (ow k):=hf
  exact ⟨fun e=>hc (by rw [<-e];exact hf'),fun e=>h0 (by rw [<-e.1];exact hf')⟩)
 obtain ⟨m1,m2,h1⟩:=h1;refine ⟨m1,m2,h1.cong (fun k hk=> ?_) (fun k hk=> ?_) (fun k hk hk2=> ?_) (fun k hk=> ?_) (fun k hk=>hk.2)⟩
 ·have hk':ow k=c:=hk;show ow' k=c;rw [s.old k (hw.hi k (by omega))];exact hk'
 ·exact ⟨by rw [s.old k hk.2];exact hk.1,zz13 hk.2 s.md.size⟩
 ·have hk':ow' k=c:=hk;have:=hk2.1;omega
 have hk':ow' k=c:=hk;by_cases hl:k<w'.heap.size
 ·exact hl
 rw [s.top k (by omega)] at hk';omega
theorem P9.new {w0 w w':World} {ow:Ow} {c b:Nat} {own' C':Nat->Prop} {I:List (Int×Fil)} {T:Nat} (hw:Owd w0 w ow) (h2:2<=c) (h:Idx w' b own' C' I T) (ho:∀k,own' k->ow k=c\/w.heap.size<=k) (hd:∀k,own' k->¬C' k)
 (hC:∀k,C' k->(ow k=0/\k<w.heap.size)\/w.heap.size<=k) (hm:Mod (fun k=>ow k=c) w w'):P9 w' (r8 w w' ow own' C' c) c b I T:=by
 have hl:=h.low;obtain ⟨m1,m2,hat⟩:=h;refine ⟨m1,m2,hat.cong (fun k hk=> ?_) (fun k hk=> ?_) (fun k hk hk2=> ?_) (fun k hk=> ?_) (fun k hk=>hk.2)⟩
 ·show r8 w w' ow own' C' c k=c;rcases ho k hk with e|e
  ·rw [q7 (hw.hi k (by omega))];exact e
  exact F1 e (hl.1 k hk) hk
 ·refine ⟨?_,hl.2 k hk⟩;rcases hC k hk with e|e
  ·rw [q7 e.2];exact e.1
  exact a04 e (hl.2 k hk) (fun ho=>hd k ho hk) hk
 ·have hk':r8 w w' ow own' C' c k=c:=hk;have:=hk2.1;omega
 have hk':r8 w w' ow own' C' c k=c:=hk;by_cases e:k<w.heap.size
 ·exact zz13 e hm.size
 exact (a4c (by omega) hk' h2).2
def a7g (w:World) (ow:Ow):Option Value->Option Fil->Prop
 |none,none=>True
 |some v,some q=>∃a cap,v= .agg #[.string q.1,.slice a q.2.length cap]/\l9 w ow 7 (.slice a q.2.length cap) q.2.length (l6 q.2)
 |_,_=>False
theorem a7g.mov {F:Nat->Prop} {w w':World} {ow ow':Ow} {v:Option Value} {q:Option Fil} (h:a7g w ow v q) (s:Mov F w ow w' ow') (h0:¬F 0):a7g w' ow' v q:=by
 cases v<;>cases q
 ·trivial
 ·exact h
 ·exact h
 obtain ⟨a,cap,h1,h2⟩:=h;exact ⟨a,cap,h1,h2.mov s h0 (by omega)⟩
def a4M (w:World) (ow:Ow):Option Value->Option (ByteArray×Fil)->Prop
 |none,none=>True
 |some v,some q=>∃a cap,v= .agg #[.string q.1,.string q.2.1,.slice a q.2.2.length cap]/\l9 w ow 7 (.slice a q.2.2.length cap) q.2.2.length (l6 q.2.2)
 |_,_=>False
theorem a4M.mov {F:Nat->Prop} {w w':World} {ow ow':Ow} {v:Option Value} {q:Option (ByteArray×Fil)} (h:a4M w ow v q) (s:Mov F w ow w' ow') (h0:¬F 0):a4M w' ow' v q:=by
 cases v<;>cases q
 ·trivial
 ·exact h
 ·exact h
 obtain ⟨a,cap,h1,h2⟩:=h;exact ⟨a,cap,h1,h2.mov s h0 (by omega)⟩
theorem a3k {F:Nat->Prop} {w w':World} {ow ow':Ow} {kt:TypeId} {b n c:Nat} {f:Lit->Option Value} (h:l8 w kt b n f) (ht:ow b=c) (s:Mov F w ow w' ow') (hc:¬F c):l8 w' kt b n f/\ow' b=c:=by
 refine ⟨h.mod s.md (fun hf=> ?_),by rw [s.old b h.lt];exact ht⟩;have hf':F (ow b):=hf;rw [ht] at hf';exact hc hf'
structure A9 (w:World) (ow:Ow) (c b:Nat) (S:List Sb):Prop where
 tag:ow b=c
 nd:(S.map Prod.fst).Nodup
 mp:∃f,l8 w 3 b S.length f/\∀id:Int,a4M w ow (f (.int .i64 id)) (y8 S id)
theorem A9.mov {F:Nat->Prop} {w w':World} {ow ow':Ow} {c b:Nat} {S:List Sb} (h:A9 w ow c b S) (s:Mov F w ow w' ow') (h0:¬F 0) (hc:¬F c):A9 w' ow' c b S:=by
 obtain ⟨f,h1,h2⟩:=h.mp;obtain ⟨h3,h4⟩:=a3k h1 h.tag s hc;exact ⟨h4,h.nd,f,h3,fun id=>(h2 id).mov s h0⟩
def W1 (w:World) (ow:Ow) (mi:Nat) (l:List Fil):Prop:=∃f,l8 w 9 mi l.length f/\∀k,a7g w ow (f (.string k)) (kF l k)
theorem W1.mov {F:Nat->Prop} {w w':World} {ow ow':Ow} {mi c:Nat} {l:List Fil} (h:W1 w ow mi l) (ht:ow mi=c) (s:Mov F w ow w' ow') (h0:¬F 0) (hc:¬F c):W1 w' ow' mi l/\ow' mi=c:=by
 obtain ⟨f,h1,h2⟩:=h;obtain ⟨h3,h4⟩:=a3k h1 ht s hc;exact ⟨⟨f,h3,fun k=>(h2 k).mov s h0⟩,h4⟩
def Y9 (w:World) (ow:Ow) (c mb:Nat):Option Value->List Fil->Prop
 |none,l=>l=[]
 |some v,l=>∃mi,v= .map (some mi)/\mi≠mb/\ow mi=c/\W1 w ow mi l
theorem Y9.mov {F:Nat->Prop} {w w':World} {ow ow':Ow} {c mb:Nat} {v:Option Value} {l:List Fil} (h:Y9 w ow c mb v l) (s:Mov F w ow w' ow') (h0:¬F 0) (hc:¬F c):Y9 w' ow' c mb v l:=by
 cases v
 ·exact h
 obtain ⟨mi,h1,h2,h3,h4⟩:=h;obtain ⟨h5,h6⟩:=h4.mov h3 s h0 hc;exact ⟨mi,h1,h2,h6,h5⟩
structure D7 (w:World) (ow:Ow) (c mb:Nat) (G:Int->List Fil) (K:Nat):Prop where
 tag:ow mb=c
 mp:∃n f,l8 w 3 mb n f/\n<=K/\∀id:Int,Y9 w ow c mb (f (.int .i64 id)) (G id)
 lt:∀id,(G id).Pairwise fun a b=>i6 a<i6 b
theorem D7.mov {F:Nat->Prop} {w w':World} {ow ow':Ow} {c mb:Nat} {G:Int->List Fil} {K:Nat} (h:D7 w ow c mb G K) (s:Mov F w ow w' ow') (h0:¬F 0) (hc:¬F c):D7 w' ow' c mb G K:=by
 obtain ⟨n,f,h1,h2,h3⟩:=h.mp;obtain ⟨h4,h5⟩:=a3k h1 h.tag s hc;exact ⟨h5,⟨n,f,h4,h2,fun id=>(h3 id).mov s h0 hc⟩,h.lt⟩
structure BAd where
 v:Value
 nv:Value
 tb:Nat->Nat
 ib:Nat->Nat
 sb:Nat->Nat
 mb:Nat->Nat
def ptr (b:Nat):Value:= .pointer (some ⟨b,0,none⟩)
def BAd.rest (a:BAd) (id:Int):List Value:=
 [.int .i64 id,a.nv,ptr (a.tb 0),ptr (a.ib 0),.map (some (a.sb 0)),.map (some (a.mb 0)),ptr (a.tb 1),ptr (a.ib 1),.map (some (a.sb 1)),.map (some (a.mb 1)),
  ptr (a.tb 2),ptr (a.ib 2),.map (some (a.sb 2)),.map (some (a.mb 2)),ptr (a.tb 3),ptr (a.ib 3),.map (some (a.sb 3)),.map (some (a.mb 3))]
structure a1e (w:World) (ow:Ow) (c t tb ib sb mb:Nat) (R:RS):Prop where
 tab:C1 w ow (c+1+t) tb R.M R.N
 idx:P9 w ow (c+5+t) ib R.I R.T
 sub:A9 w ow (c+9+t) sb R.S
 snt:D7 w ow (c+13+t) mb R.G R.K
structure A1 (w:World) (ow:Ow) (c g:Nat) (id:Int) (near:List Int) (B:BS) (a:BAd):Prop where
 c2:2<=c
 log:∃L:List Lr,J4 w ow c (c+17) g (a.rest id) 62 a.v L/\L.map Prod.fst=B.L
 near:l9 w ow 1 a.nv near.length (near.map (Value.int .i64))
 rea:∀t,t<4->a1e w ow c t (a.tb t) (a.ib t) (a.sb t) (a.mb t) (B.R t)
def Bro (w:World) (ow:Ow) (c g:Nat) (id:Int) (near:List Int) (B:BS):Prop:=∃a,A1 w ow c g id near B a
theorem a1e.mov {F:Nat->Prop} {w0 w w':World} {ow ow':Ow} {c t tb ib sb mb:Nat} {R:RS} (h:a1e w ow c t tb ib sb mb R) (hw:Owd w0 w ow) (s:Mov F w ow w' ow') (h0:¬F 0) (hF:¬F (c+1+t)/\¬F (c+5+t)/\¬F (c+9+t)/\¬F (c+13+t)) (h2:2<=c):a1e w' ow' c t tb ib sb mb R:=
 ⟨h.tab.mov hw s h0 hF.1 (by omega),h.idx.mov hw s h0 hF.2.1 (by omega),h.sub.mov s h0 hF.2.2.1,h.snt.mov s h0 hF.2.2.2⟩
theorem A1.mov {F:Nat->Prop} {w0 w w':World} {ow ow':Ow} {c g:Nat} {id:Int} {near:List Int} {B:BS} {a:BAd} (h:A1 w ow c g id near B a) (hw:Owd w0 w ow) (s:Mov F w ow w' ow') (h0:¬F 0) (hF:∀t,F t->t<c\/c+18<=t):A1 w' ow' c g id near B a:=by
 obtain ⟨L,h1,h2⟩:=h.log;have hn:∀t,c<=t->t<c+18->¬F t:=fun t h1 h2 h3=>by have:=hF t h3;omega
 exact ⟨h.c2,⟨L,h1.mov s h0 (hn c (by omega) (by omega)) (hn (c+17) (by omega) (by omega)),h2⟩,h.near.mov s h0 (by omega),fun t ht=>(h.rea t ht).mov hw s h0 ⟨hn _ (by omega) (by omega),hn _ (by omega) (by omega),hn _ (by omega) (by omega),hn _ (by omega) (by omega)⟩ h.c2⟩
theorem Bro.mov {F:Nat->Prop} {w0 w w':World} {ow ow':Ow} {c g:Nat} {id:Int} {near:List Int} {B:BS} (h:Bro w ow c g id near B) (hw:Owd w0 w ow) (s:Mov F w ow w' ow') (h0:¬F 0) (hF:∀t,F t->t<c\/c+18<=t):Bro w' ow' c g id near B:=by
 obtain ⟨a,h⟩:=h;exact ⟨a,h.mov hw s h0 hF⟩
section
variable {P:Program} {ops:Array Oper} {Q:Exit->Act->World->Prop} {md:Region.Mode} {S:World->Prop} {T:Nat->Bool}
structure AN (P:Program) (md:Region.Mode) (ops:Array Oper) (Q:Exit->Act->World->Prop) (S:World->Prop) (T:Nat->Bool) (fuel:Nat) (listed:Array Bool) (a:Act) (w:World):Prop where
 out:Region.noSelect ops=true->(∀(c:List PanicEntry) (a:Act) (d:Option Tmp) (v:Value) (w:World),Q (.panic c) (a.put d v) w->Q (.panic c) a w)->I9 md ops listed->a1T P md ops Q S T fuel listed a w
theorem a3l {id:Nat} {a:Act} {w:World} {l:List Oper} (ks:List Nat) (S:World->Prop) (hm:P.follows .mixedOrders=true) (hsel:Region.noSelect l.toArray=true)
 (hQ:∀(c:List PanicEntry) (a:Act) (d:Option Tmp) (v:Value) (w:World),Q (.panic c) (a.put d v) w->Q (.panic c) a w)
 (h:AN P .any l.toArray Q S (fun j=>ks.contains j) l.length (Array.replicate l.toArray.size false) a w.drew):(Code.region id l.toArray true).wp P Q a w:=by
 have hcl:I9 .any l.toArray (Array.replicate l.toArray.size false):=fun j oj _ hl=>by
  exfalso;rcases Nat.lt_or_ge j l.toArray.size with h'|h'<;>simp_all
 refine wp_region_any hm (a0O (S:=S) (T:=fun j=>ks.contains j) _ _ _ _ ?_);have key:=h.out hsel hQ hcl;simpa using key
def b5o (md:Region.Mode) (ops:Array Oper) (T:Nat->Bool) (i:Nat) (listed:Array Bool):Bool:=
 decide (i<ops.size)&&Region.free md ops listed i&&(Region.ready md ops listed).contains i&&
  (((ops[i]?).map (fun o=>S7 o.op)).getD false||(List.range ops.size).all fun j=>j==i||listed.getD j true||K7 md ops ops.size j i||T j)
theorem a8s {i fuel:Nat} {listed:Array Bool} {o:Oper} {a:Act} {w:World} (hok:b5o md ops T i listed=true) (ho:ops[i]? =some o) (hw:Region.wanted o (yielded ops a.tmps)=true) (hSw:S7 o.op=false->S w) (v:Value)
 (hy:∀w,(S7 o.op=false->S w)->(execOp a.eval o).run P w= .ok (.value v) w)
 (h:∀K:Act->Prop,(∀a',AN P md ops Q S T fuel (listed.setIfInBounds i true) a' w->K a')->K (a.put o.dst v)):AN P md ops Q S T (fuel+1) listed a w:=by
 refine ⟨fun hsel hQ hc=> ?_⟩;unfold b5o at hok;simp only [Bool.and_eq_true,decide_eq_true_eq] at hok;obtain ⟨⟨⟨hi,hf⟩,hr⟩,hp⟩:=hok;have hri:i∈Region.ready md ops listed:=by simpa using hr
 have h':=(h _ fun _ h=>h).out hsel hQ (hc.set hri)
 exact a1p (S:=S) (T:=T) (S':=fun w=>S7 o.op=false->S w) ho (Region.noSelect_spec hsel) (fun c a w=>hQ c a o.dst v w) fuel listed a w hc (Region.free_spec ho hf)
  (fun j hj hji hun hre w w' hT h hpf=>by
    simp only [ho,Option.map_some,Option.getD_some,hpf,Bool.false_or,List.all_eq_true,List.mem_range,Bool.or_eq_true,beq_iff_eq] at hp;rcases hp j hj with ((h1|h1)|h1)|h1
    ·exact absurd h1 hji
    ·rw [hun] at h1;cases h1
    ·rw [hre] at h1;cases h1
    ·exact hT h1 (h hpf))
  hri (.inl ⟨hw,hy⟩) hSw h'
end
end
section
open Go.RowKit
theorem b1f {P:Program} {md:Region.Mode} {ops:Array Oper} {Q:Exit->Act->World->Prop} {S:World->Prop} {T:Nat->Bool} (I:Nat->Array Bool->Act->World->Prop)
 (h0:∀listed a w,I 0 listed a w->Region.ready md ops listed=[]/\Q .normal a w)
 (hs:∀n listed a w,I (n+1) listed a w->∃js:List Nat,Region.ready md ops listed=js/\js≠[]/\∀i∈js,GO P ops Q S T i (fun a' w'=>I n (listed.setIfInBounds i true) a' w') a w):
 ∀{n:Nat} {listed:Array Bool} {a:Act} {w:World},I n listed a w->AN P md ops Q S T n listed a w
 |0,listed,a,w,h=>⟨fun _ _ _=>h0 listed a w h⟩
 |n+1,listed,a,w,h=>by
  obtain ⟨js,hr,hne,hg⟩:=hs n listed a w h;exact ⟨fun hsel hQ hc=>⟨fun e=>absurd (hr.symm.trans e) hne,fun i hi=>wpOp_mono (fun _ _ h'=>⟨h'.1,(b1f I h0 hs h'.2).out hsel hQ (hc.set hi)⟩) (hg i (hr▸hi)).out⟩⟩
section
variable {P:Program} {w:World} {ops:Array Oper} {rest:List Oper} {a:Act} {Q:Exit->Act->World->Prop} {d:Option Tmp} {tp:TypeId} {pos:String} {af:Array Edge} {g:Nat×Bool}
variable {P:Program} {w:World}
theorem a1O (ty:TypeId) (g off:Nat) (cur:Array Value) (t:TypeId) (cs:List Value) (hg:w.heap[g]? =some (.cells cur t (0,0))) (hl:off+cs.length<=cur.size)
 (hi:(P.info? ty).map (·.size)=some cs.length) (h1:∀u∈cs,u.oneCell'=true):
 (storeVar ty ⟨g,off,none⟩ (.agg cs.toArray)).run P w= .ok () (w.setRow g (cur.toList.take off++cs++cur.toList.drop (off+cs.length)).toArray):=by
 have hst:=run_storeCells_at P g off t cs 0 cur w hg (by omega) h1
 cases hq:P.info? ty with
 |none=>simp [hq] at hi
 |some i=>
  have hs:i.size=cs.length:=by simpa [hq] using hi
  simp only [Nat.add_zero] at hst;simp [storeVar,Value.cells,sizeOf,typeInfo,hq,hs,hst]
theorem a4N {o:Oper} {a:Act} {K:Act->World->Prop} {Q:Exit->Act->World->Prop} (ty:TypeId) (x y:Operand) (ho:o.op= .store ty x y) (g off:Nat)
 (hx:a.eval x= .pointer (some ⟨g,off,none⟩)) (cur:Array Value) (t:TypeId) (hg:w.heap[g]? =some (.cells cur t (0,0))) (cs:List Value) (hy:a.eval y= .agg cs.toArray) (hl:off+cs.length<=cur.size)
 (hi:(P.info? ty).map (·.size)=some cs.length) (h1:∀u∈cs,u.oneCell'=true)
 (h:K (a.put o.dst undef) (w.setRow g (cur.toList.take off++cs++cur.toList.drop (off+cs.length)).toArray)):o.wp P a w K Q:=by
 have hr:=a1O (P:=P) (w:=w) ty g off cur t cs hg hl hi h1;unfold Oper.wp execOp;simp only [ho,hx,hy,Instr.storeAt,Instr.sureAddr,Sem.run_bind,Sem.run_pure,Result.andThen_ok,hr];exact h
end
end
end Go.Proofs.YtaenebdppkjhoaaGreatDoor
