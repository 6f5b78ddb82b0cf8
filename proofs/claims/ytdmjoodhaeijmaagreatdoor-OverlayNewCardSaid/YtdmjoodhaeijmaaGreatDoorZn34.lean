/- Lemmas. -/
import Derived.Test.YtdmjoodhaeijmaaGreatDoorZn18
import Derived.Test.YtdmjoodhaeijmaaGreatDoorZn32
set_option maxHeartbeats 40000000
set_option maxRecDepth 20000
namespace Go.Proofs.YtdmjoodhaeijmaaGreatDoor
open Go.RowKit
inductive Ph where
 |wait|sent|back
deriving DecidableEq
structure LS where
 epoch:Nat
 q:List F8
 ph:Ph
 got:Bool
 base:Nat
 lost:Nat
def LS.toL (a:LS):C2 where
 epoch:=a.epoch
 out:=a.q
 base:=a.base
 flight:=match a.ph,a.q with| .sent,m::_=>[⟨a.epoch,a.base,m⟩]|_,_=>[]
 acks:=match a.ph with| .back=>[⟨a.epoch,a.base⟩]|_=>[]
 want:=a.base+if a.got then 1 else 0
 lost:=a.lost
def LS.Good (a:LS):Prop:=(a.q=[]->a.ph= .wait/\a.got=false)/\(a.ph= .back->a.got=true)/\a.base<=4611686018427387000
def LS.asks (a:LS):Option F8:=match a.ph,a.got,a.q with| .sent,false,m::_=>some m|_,_,_=>none
def LS.next (a:LS):LS:=match a.ph,a.q with
 | .wait,[]=>a
 | .wait,_::_=>{a with ph:= .sent}
 | .sent,_=>{a with ph:= .back,got:=true}
 | .back,q=>{a with q:=q.tail,ph:= .wait,got:=false,base:=a.base+1}
theorem p9.refl {w:World} {b:Nat} {F:Nat->Prop} {L:C2} (h:m6 w b F L):p9 w w b F L:=⟨F,h,Mod.refl F w,fun _ h=> .inl h⟩
theorem b2e (b:Nat) (F:Nat->Prop) (a:LS) (ft:Nat) (cap:Array Value) (w:World) (h:m6 w b F a.toL) (hg:a.Good)
 (R:Bool->World->Prop) (hcf:∀(args:Array Value) (W:World),Sem.run Tryz.prog (callFunc ft args) W= .ok (.enter ft args) W)
 (ht:∀m,a.asks=some m->∀w1,m6 w1 b F a.toL->Mod (fun _=>False) w w1->Calls Tryz.prog ft (#[.agg m.cells.toArray]++cap) w1 fun e w2=>∃r,e= .returned (.bool r)/\m6 w2 b F a.toL/\R r w2/\
   (∀(k:Nat),w.heap.size<=k->∀(c:Array Value),w1.heap[k]? =some (Obj.cells c 162 (0,0))->w2.heap[k]? =some (Obj.cells c 162 (0,0)))):
 Calls Tryz.prog 56 #[.pointer (some ⟨b,0,none⟩),.func (.func ft) #[] cap] w fun e w'=>
  (a.asks=none/\e= .returned (.bool (!a.q.isEmpty))/\p9 w w' b F a.next.toL)\/
  (∃m,a.asks=some m/\((e= .returned (.bool false)/\m6 w' b F a.toL/\R false w')\/(e= .returned (.bool true)/\∃w2,R true w2/\m6 w2 b F a.toL/\p9 w2 w' b F a.next.toL))):=by
 obtain ⟨ep,q,ph,got,base,lost⟩:=a;obtain ⟨g1,g2,g3⟩:=hg;have g3:base<=4611686018427387000:=g3
 cases ph with
 | wait=>
  cases q with
  |nil=>
   refine (a9u b F _ _ w h rfl rfl rfl).mono fun e w' ⟨he,hw⟩=> .inl ⟨rfl,he, ?_⟩;subst hw;exact p9.refl h
  |cons m q=>exact (a9v b F _ _ w h rfl rfl m q rfl).mono fun e w' ⟨he,hl⟩=> .inl ⟨rfl,he,hl⟩
 | sent=>
  cases q with
  |nil=>have:=(g1 rfl).1;cases this
  |cons m q=>
   cases got with
   |false=>exact (a9x b F _ ft cap w h rfl ⟨ep,base,m⟩ rfl rfl rfl (by simp [LS.toL];omega) R hcf (ht m rfl)).mono fun e w' hl=> .inr ⟨m,rfl,hl⟩
   |true=>exact (b1o b F _ _ w h rfl ⟨ep,base,m⟩ rfl rfl (by simp [LS.toL])).mono fun e w' ⟨he,hl⟩=> .inl ⟨rfl,he,hl⟩
 | back=>
  cases q with
  |nil=>have:=(g1 rfl).1;cases this
  |cons m q=>
   obtain rfl:got=true:=g2 rfl;exact (b1l b F _ ⟨ep,base⟩ [] _ w h rfl (by simp [LS.toL];omega) m q rfl rfl rfl).mono fun e w' ⟨he,hl⟩=> .inl ⟨rfl,he,hl⟩
def LS.zero:LS:=⟨0,[],.wait,false,0,0⟩
theorem a6G (w:World):∃F,m6 (w.alloc (.cells #[.int .i64 0,.slice none 0 0,.int .i64 0,.slice none 0 0,.slice none 0 0,.int .i64 0,.int .i64 0] 89)) w.heap.size F LS.zero.toL/\∀k,F k->w.heap.size<=k:=by
 refine ⟨_,⟨.slice none 0 0,.slice none 0 0,.slice none 0 0,⟨heap_alloc_new w _,g7.nil _ _ _,g7.nil _ _ _,g7.nil _ _ _,fun k=>Iff.rfl,⟨fun m hm=>(by simp [LS.zero,LS.toL] at hm),fun m hm=>(by simp [LS.zero,LS.toL] at hm)⟩⟩⟩,fun k hk=> ?_⟩;rcases hk with rfl|hk|hk|hk
 ·exact Nat.le_refl _
 all_goals simp [inBlock,Value.ownBlock] at hk
theorem b2f (b:Nat) (F:Nat->Prop) (a:LS) (m:F8) (w:World) (h:m6 w b F a.toL) (hg:a.Good) (hm:m.ok) (hlen:a.q.length<=400000000000) (hl:a.lost<=400000000000):
 Calls Tryz.prog 304 #[.pointer (some ⟨b,0,none⟩),.agg m.cells.toArray] w fun e w'=>
  (¬(m.kind=3/\6<=C4 a.q)/\e= .returned (.bool true)/\p9 w w' b F {a with q:=a.q++[m]}.toL)\/
  ((m.kind=3/\6<=C4 a.q)/\e= .returned (.bool false)/\p9 w w' b F {a with lost:=a.lost+1}.toL):=by
 by_cases hc:m.kind=3/\6<=C4 a.q
 ·exact (a9t b F _ m w h hc.1 hc.2 (by simp [LS.toL];omega)).mono fun e w' ⟨he,hl⟩=> .inr ⟨hc,he,hl⟩
 refine (b3R b F _ m w h hm (by by_cases hk:m.kind=3;exact .inr (by have:=fun h=>hc ⟨hk,h⟩;simp only [LS.toL];omega);exact .inl hk) (by simpa [LS.toL] using hlen)).mono fun e w' ⟨he,hl⟩=> .inl ⟨hc,he, ?_⟩;obtain ⟨ep,q,ph,got,base,lost⟩:=a
 have:({({epoch:=ep,q:=q,ph:=ph,got:=got,base:=base,lost:=lost}:LS).toL with out:=q++[m]}:C2)=({epoch:=ep,q:=q++[m],ph:=ph,got:=got,base:=base,lost:=lost}:LS).toL:=by
  cases ph<;>cases q<;>simp [LS.toL]
  have:=(hg.1 rfl).1;cases this
 exact this▸hl
structure Own (w0 w:World) (b:Nat) (a:LS):Prop where
 at_:∃F,m6 w b F a.toL/\∀k,F k->w0.heap.size<=k
 good:a.Good
 below:Below w0.heap.size w0 w
theorem b4v (w:World):Own w (w.alloc (.cells #[.int .i64 0,.slice none 0 0,.int .i64 0,.slice none 0 0,.slice none 0 0,.int .i64 0,.int .i64 0] 89)) w.heap.size LS.zero:=by
 obtain ⟨F,h1,h2⟩:=a6G w;exact ⟨⟨F,h1,h2⟩,⟨fun _=>⟨rfl,rfl⟩,fun h=>(by cases h),by simp [LS.zero]⟩,(Below.refl _ _).alloc (Nat.le_refl _) _⟩
theorem Own.link {w0 w:World} {b:Nat} {a:LS} (h:Own w0 w b a):∃F,m6 w b F a.toL:=let ⟨F,h,_⟩:=h.at_;⟨F,h⟩
theorem LS.flight_le (a:LS):a.toL.flight.length<=400000000000:=by
 obtain ⟨ep,q,ph,got,base,lost⟩:=a;cases ph<;>cases q<;>simp [LS.toL]
theorem LS.acks_le (a:LS):a.toL.acks.length<=400000000000:=by
 obtain ⟨ep,q,ph,got,base,lost⟩:=a;cases ph<;>simp [LS.toL]
theorem b2g (w0:World) (b:Nat) (a:LS) (w:World) (h:Own w0 w b a):Calls Tryz.prog 30 #[.pointer (some ⟨b,0,none⟩)] w fun e w'=>e= .returned (.bool a.q.isEmpty)/\∃n,w'=w.drewN n:=by
 obtain ⟨F,h1⟩:=h.link;have:=b3U h1 a.flight_le a.acks_le
 have he:(a.toL.out.isEmpty&&(a.toL.flight.isEmpty&&a.toL.acks.isEmpty))=a.q.isEmpty:=by
  have hg:=h.good;obtain ⟨ep,q,ph,got,base,lost⟩:=a;cases ph<;>cases q<;>simp_all [LS.toL,LS.Good]
 rwa [he] at this
structure TS where
 near:List (List Int)
 root:List Int
def TS.step (s:TS) (a b:Nat):TS:=
 ⟨(s.near.set a (s.near.getD a []++[(b:Int)])).set b (s.near.getD b []++[(a:Int)]),s.root.map fun r=>if r=s.root.getD b 0 then s.root.getD a 0 else r⟩
def goT (n:Int):List (Int×Int)->TS->Int×TS
 |[],s=>(0,s)
 |p::ps,s=>
  if p.1<0\/p.2<0\/n<=p.1\/n<=p.2\/p.1=p.2 then (3,s) else
  if s.root.getD p.1.toNat 0=s.root.getD p.2.toNat 0 then (1,s) else goT n ps (s.step p.1.toNat p.2.toNat)
def D8 (n:Nat):TS:=⟨List.replicate n [],(List.range n).map Int.ofNat⟩
def K6 (l:List Int):List Int:=l.mergeSort fun x y=>decide (x<=y)
def a4k (n:Int) (ps:List (Int×Int)):Int×List (List Int):=
 if n<1\/6<n then (3,[]) else
 if (goT n ps (D8 n.toNat)).1=0 then (if (ps.length:Int)=n - 1 then (0,(goT n ps (D8 n.toNat)).2.near.map K6) else (1,[])) else ((goT n ps (D8 n.toNat)).1,[])
theorem a3K (n:Int) (p:Int×Int) (ps:List (Int×Int)) (s:TS):goT n (p::ps) s=if p.1<0\/p.2<0\/n<=p.1\/n<=p.2\/p.1=p.2 then (3,s) else
 if s.root.getD p.1.toNat 0=s.root.getD p.2.toNat 0 then (1,s) else goT n ps (s.step p.1.toNat p.2.toNat):=rfl
theorem a1l (n:Int):∀(l m:List (Int×Int)) (s:TS),goT n (l++m) s=if (goT n l s).1=0 then goT n m (goT n l s).2 else goT n l s
 |[],m,s=>rfl
 | p::l,m,s=>by
  rw [List.cons_append,a3K,a3K];split
  ·rw [if_neg (show¬(3:Int)=0 by decide)]
  split
  ·rw [if_neg (show¬(1:Int)=0 by decide)]
  exact a1l n l m _
theorem b2h {n:Int} {ps:List (Int×Int)} {j:Nat} {p:Int×Int} {s s0:TS} (h:goT n (ps.take j) s0=(0,s)) (hp:ps[j]? =some p):goT n (ps.take (j+1)) s0=goT n [p] s:=by
 rw [List.take_add_one,hp,a1l,h];rfl
theorem b2i {n:Int} {ps:List (Int×Int)} {j:Nat} {s0:TS} (h:(goT n (ps.take j) s0).1≠0):goT n ps s0=goT n (ps.take j) s0:=by
 conv=>lhs;rw [<-List.take_append_drop j ps]
 rw [a1l,if_neg h]
section
def F9 (l:List Int):List Value:=l.map (Value.int .i64)
theorem a6H (l:List Int):(F9 l).length=l.length:=by simp [F9]
theorem a6I (l m:List Int):F9 (l++m)=F9 l++F9 m:=by simp [F9]
theorem R6 {l:List Int} {k:Nat} {x:Int} (h:l[k]? =some x):(F9 l)[k]? =some (.int .i64 x):=by simp [F9,h]
theorem a0E {α:Type} {l:List α} {i j:Nat} {v u:α} (h:(l.set i v)[j]? =some u):(i=j/\u=v/\i<l.length)\/(i≠j/\l[j]? =some u):=by
 by_cases hij:i=j
 ·subst hij;have hl:=(zz6 h).1;rw [List.length_set] at hl;rw [List.getElem?_set_self hl] at h;exact .inl ⟨rfl,(Option.some.inj h).symm,hl⟩
 rw [List.getElem?_set_ne hij] at h;exact .inr ⟨hij,h⟩
structure TB (w:World) (base t g r n:Nat) (gs vs:List Value) (near:List (List Int)) (root:List Int):Prop where
 ht:w.heap[t]? =some (.cells #[.slice (some ⟨g,0,none⟩) n n] 106 (0,0))
 hg:w.heap[g]? =some (.cells gs.toArray 29 (0,0))
 hr:w.heap[r]? =some (.cells (F9 root).toArray 3 (0,0))
 sz:base<=w.heap.size
 lg:gs.length=n
 lv:vs.length=n
 ln:near.length=n
 lr:root.length=n
 lt:t<base/\g<base/\r<base/\t≠g/\t≠r/\g≠r
 own:∀(i:Nat) (v:Value) (l:List Int),vs[i]? =some v->near[i]? =some l->g7 w 3 1 v l.length (F9 l)
 fresh:∀(i:Nat) (v:Value) (b:Nat),vs[i]? =some v->v.ownBlock=some b->base<=b
 apart:∀(i j:Nat) (v u:Value) (b:Nat),i≠j->vs[i]? =some v->vs[j]? =some u->v.ownBlock=some b->u.ownBlock≠some b
section
variable {w w':World} {base t g r n:Nat} {gs vs:List Value} {near:List (List Int)} {root:List Int}
theorem TB.mod (h:TB w base t g r n gs vs near root) (hm:Mod (fun _=>False) w w'):TB w' base t g r n gs vs near root:=
 ⟨hm.heap h.ht id,hm.heap h.hg id,hm.heap h.hr id,Nat.le_trans h.sz hm.size,h.lg,h.lv,h.ln,h.lr,h.lt,fun i v l h1 h2=>(h.own i v l h1 h2).mod hm zi,h.fresh,h.apart⟩
theorem TB.app (h:TB w base t g r n gs vs near root) {i:Nat} {v v':Value} {l:List Int} {x:Int} (hv:vs[i]? =some v)
 (hA:B9 w 3 1 v (l.length+1) (F9 l++[.int .i64 x]) v' w'):TB w' base t g r n gs (vs.set i v') (near.set i (l++[x])) root:=by
 obtain ⟨h1,h2,h3⟩:=hA;have hb:=h.sz;have hi:i<vs.length:=(zz6 hv).1;have hne:∀k,k<base->¬inBlock v k:=fun k hk hin=>by have:=h.fresh i v k hv hin;omega
 have hlt:=h.lt
 have hnew:∀b,v'.ownBlock=some b->v.ownBlock=some b\/w.heap.size<=b:=fun b hb'=>by
  rcases h3 with e|⟨k,e,hk⟩
  ·exact .inl (by rw [<-e];exact hb')
  rw [e] at hb';cases hb';exact .inr hk
 have hold:∀j u b,j≠i->vs[j]? =some u->u.ownBlock=some b->v'.ownBlock≠some b:=fun j u b hj hu hub hvb=>by
  rcases hnew b hvb with e|e
  ·exact h.apart j i u v b hj hu hv hub e
  ·cases hq:near[j]? with
   |none=>have:=List.getElem?_eq_none_iff.1 hq;have:=(zz6 hu).1;have:=h.lv;have:=h.ln;omega
   |some q=>have:=(h.own j u q hu hq).lt b hub;omega
 refine ⟨h2.heap h.ht (hne _ hlt.1),h2.heap h.hg (hne _ hlt.2.1),h2.heap h.hr (hne _ hlt.2.2.1),Nat.le_trans h.sz h2.size,h.lg,by rw [List.length_set];exact h.lv,by rw [List.length_set];exact h.ln,h.lr,hlt,fun j u q hu hq=> ?_,fun j u b hu hub=> ?_,fun j k u y b hjk hu hy hub hyb=> ?_⟩
 ·rcases a0E hu with ⟨rfl,rfl, -⟩|⟨hij,hu⟩
  ·rcases a0E hq with ⟨-,rfl, -⟩|⟨hij, -⟩
   ·rw [zz4,a6I];exact h1
   exact absurd rfl hij
  rcases a0E hq with ⟨e, -, -⟩|⟨-,hq⟩
  ·exact absurd e hij
  refine (h.own j u q hu hq).mod h2 (fun b hb hin=> ?_);exact h.apart j i u v b (fun e=>hij e.symm) hu hv hb hin
 ·rcases a0E hu with ⟨rfl,rfl, -⟩|⟨-,hu⟩
  ·rcases hnew b hub with e|e
   ·exact h.fresh _ _ b hv e
   omega
  exact h.fresh j u b hu hub
 rcases a0E hu with ⟨e1,e2, -⟩|⟨-,hu2⟩
 ·rcases a0E hy with ⟨e, -, -⟩|⟨-,hy2⟩
  ·exact hjk (e1▸e)
  exact hold k y b (fun e=>hjk (e1▸e.symm)) hy2 hyb (e2▸hub)
 rcases a0E hy with ⟨e1,e2, -⟩|⟨-,hy2⟩
 ·exact hold j u b (fun e=>hjk (e.trans e1)) hu2 hub (e2▸hyb)
 exact h.apart j k u y b hjk hu2 hy2 hub hyb
theorem a81 (l:List Value) (i:Nat) (v:Value):l.toArray.setIfInBounds i v=(l.set i v).toArray:=by simp
theorem TB.store (h:TB w base t g r n gs vs near root) (i:Nat) (v:Value):TB (w.setCell ⟨g,i,none⟩ v) base t g r n (gs.set i v) vs near root:=by
 have hlt:=h.lt;refine ⟨(heap_setCell_other w _ _ v (by show t≠g;omega)).trans h.ht,by have:=j6 (i:=i) (v:=v) h.hg;rw [a81] at this;exact this,(heap_setCell_other w _ _ v (by show r≠g;omega)).trans h.hr,by simpa using h.sz,by rw [List.length_set];exact h.lg,h.lv,h.ln,h.lr,hlt,fun j u q hu hq=> ?_,h.fresh,h.apart⟩;exact (h.own j u q hu hq).setCell (fun hin=>by have:=h.fresh j u g hu hin;omega) v
theorem TB.rootSet (h:TB w base t g r n gs vs near root) (i:Nat) (x:Int):TB (w.setCell ⟨r,i,none⟩ (.int .i64 x)) base t g r n gs vs near (root.set i x):=by
 have hlt:=h.lt;refine ⟨(heap_setCell_other w _ _ _ (by show t≠r;omega)).trans h.ht,(heap_setCell_other w _ _ _ (by show g≠r;omega)).trans h.hg, ?_,by simpa using h.sz,h.lg,h.lv,h.ln,by rw [List.length_set];exact h.lr,hlt,fun j u q hu hq=> ?_,h.fresh,h.apart⟩
 ·have:=j6 (i:=i) (v:= .int .i64 x) h.hr;rw [a81] at this;rw [this];unfold F9;rw [List.map_set]
 exact (h.own j u q hu hq).setCell (fun hin=>by have:=h.fresh j u r hu hin;omega) _
end
theorem TB.put {w w':World} {base t g r n:Nat} {gs vs:List Value} {near:List (List Int)} {root:List Int} (h:TB w base t g r n gs vs near root) {i:Nat} {v:Value} {l:List Int} (hv:vs[i]? =some v)
 (ho:g7 w' 3 1 v l.length (F9 l)) (hm:Mod (inBlock v) w w'):TB w' base t g r n gs vs (near.set i l) root:=by
 have hb:=h.sz;have hne:∀k,k<base->¬inBlock v k:=fun k hk hin=>by have:=h.fresh i v k hv hin;omega
 have hlt:=h.lt;refine ⟨hm.heap h.ht (hne _ hlt.1),hm.heap h.hg (hne _ hlt.2.1),hm.heap h.hr (hne _ hlt.2.2.1),Nat.le_trans h.sz hm.size,h.lg,h.lv,by rw [List.length_set];exact h.ln,h.lr,hlt,fun j u q hu hq=> ?_,h.fresh,h.apart⟩;rcases a0E hq with ⟨rfl,rfl, -⟩|⟨hij,hq⟩
 ·rw [hv] at hu;cases hu
  exact ho
 exact (h.own j u q hu hq).mod hm (fun b hb hin=>h.apart j i u v b (fun e=>hij e.symm) hu hv hb hin)
def part {α:Type} (f:α->α) (k:Nat) (l:List α):List α:=(l.take k).map f++l.drop k
theorem a4J {α:Type} (f:α->α) (l:List α):part f 0 l=l:=by simp [part]
theorem a6J {α:Type} (f:α->α) (l:List α):part f l.length l=l.map f:=by simp [part]
theorem a5F {α:Type} {f:α->α} {k:Nat} {l:List α} {x:α} (h:l[k]? =some x):(part f k l)[k]? =some x:=by
 have hk:=(zz6 h).1;unfold part;rw [List.getElem?_append_right (by simp;omega)];simp;rw [<-h];congr 1;omega
theorem a3L {α:Type} {f:α->α} {k:Nat} {l:List α} {x:α} (h:l[k]? =some x):(part f k l).set k (f x)=part f (k+1) l:=by
 have hk:=(zz6 h).1;unfold part;have hl:((l.take k).map f).length=k:=by simp;omega
 rw [List.set_append_right _ _ zo,hl,Nat.sub_self,List.drop_eq_getElem_cons hk,List.set_cons_zero,List.take_add_one,h,List.map_append];simp
theorem a97 {α:Type} {f:α->α} {k:Nat} {l:List α} {x:α} (h:l[k]? =some x) (hf:f x=x):part f k l=part f (k+1) l:=by
 rw [<-a3L h,hf];have:=a5F (f:=f) h;obtain ⟨h1,h2⟩:=zz6 this
 conv=>rhs;rw [<-h2]
 rw [List.set_getElem_self]
structure U0 (w:World) (t:Nat) (N:List (List Int)):Prop where
 rd:∃(g:Nat) (vs:List Value),w.heap[t]? =some (.cells #[.slice (some ⟨g,0,none⟩) N.length N.length] 106 (0,0))/\w.heap[g]? =some (.cells vs.toArray 29 (0,0))/\vs.length=N.length/\
  ∀(i:Nat) (v:Value) (l:List Int),vs[i]? =some v->N[i]? =some l->g7 w 3 1 v l.length (F9 l)
theorem U0.mod {w w':World} {t:Nat} {N:List (List Int)} (h:U0 w t N) (hm:Mod (fun _=>False) w w'):U0 w' t N:=by
 obtain ⟨g,vs,h1,h2,h3,h4⟩:=h.rd;exact ⟨g,vs,hm.heap h1 id,hm.heap h2 id,h3,fun i v l a b=>(h4 i v l a b).mod hm zi⟩
theorem TB.tree {w:World} {base t g r n:Nat} {gs:List Value} {near:List (List Int)} {root:List Int} (h:TB w base t g r n gs gs near root):U0 w t near:=
 ⟨⟨g,gs,by rw [h.ln];exact h.ht,h.hg,by rw [h.lg,h.ln],h.own⟩⟩
end
theorem a82 {w:World} {B sz n:Nat} {e:TypeId} {v:Value} {xs:List Value} (h:w.ownsRow B e sz v n xs):g7 w e sz v n xs:=by
 obtain ⟨h1,h2⟩:=h;refine ⟨h1, ?_⟩;rcases h2 with h|⟨g,cap,cur,h1, -,h3,h4,h5,h6,h7⟩
 ·exact .inl h
 exact .inr ⟨g,0,cap,cur,h1,h3,h4,h5,zo,by simpa using h7⟩
theorem a4K {w w':World} (h:Below w.heap.size w w'):Mod (fun _=>False) w w':=⟨h.os,h.tape,h.output,h.size,fun k hk _=>h.block k hk⟩
def m5 (N:List (List Int)) (b:Int):List Int:=if b<0 then [] else N.getD b.toNat []
theorem a6K {N:List (List Int)} {b:Nat} {l:List Int} (h:N[b]? =some l):m5 N b=l:=by
 unfold m5;rw [if_neg zo,Int.toNat_natCast];simp [List.getD,h]
theorem a5G (w:World) (t:Nat) (N:List (List Int)) (h:U0 w t N):
 Calls Tryz.prog 12 #[.pointer (some ⟨t,0,none⟩)] w fun e w'=>e= .returned (.int .i64 N.length)/\w'=w:=by
 obtain ⟨g,vs,ht,hg,hv,ho⟩:=h.rd;have ct:w.cell? ⟨t,0,none⟩=some (.slice (some ⟨g,0,none⟩) N.length N.length):=d6 ht rfl;clear ht ho h
 go_enter Tryz.func12,Tryz.ntmps12
 go_wp2
 go_ret;exact ⟨rfl,rfl⟩
def n9 (N:List (List Int)) (a b:Int):Bool:=(m5 N a).any (· ==b)
end Go.Proofs.YtdmjoodhaeijmaaGreatDoor
