/- Lemmas. -/
import Derived.Test.YtdmjoodhaeijmaaGreatDoorZn30
set_option maxHeartbeats 40000000
set_option maxRecDepth 20000
namespace Go.Proofs.YtdmjoodhaeijmaaGreatDoor
section
open Go.RowKit
section
variable {P:Program} {ops:Array Oper} {Q:Exit->Act->World->Prop} {md:Region.Mode} {S:World->Prop} {T:Nat->Bool}
structure AN (P:Program) (md:Region.Mode) (ops:Array Oper) (Q:Exit->Act->World->Prop) (S:World->Prop) (T:Nat->Bool) (fuel:Nat) (listed:Array Bool) (a:Act) (w:World):Prop where
 out:Region.noSelect ops=true->(∀(c:List PanicEntry) (a:Act) (d:Option Tmp) (v:Value) (w:World),Q (.panic c) (a.put d v) w->Q (.panic c) a w)->E9 md ops listed->W3 P md ops Q S T fuel listed a w
theorem M1 {id:Nat} {a:Act} {w:World} {l:List Oper} (ks:List Nat) (S:World->Prop) (hm:P.follows .mixedOrders=true) (hsel:Region.noSelect l.toArray=true)
 (hQ:∀(c:List PanicEntry) (a:Act) (d:Option Tmp) (v:Value) (w:World),Q (.panic c) (a.put d v) w->Q (.panic c) a w)
 (h:AN P .any l.toArray Q S (fun j=>ks.contains j) l.length (Array.replicate l.toArray.size false) a w.drew):(Code.region id l.toArray true).wp P Q a w:=by
 have hcl:E9 .any l.toArray (Array.replicate l.toArray.size false):=fun j oj _ hl=>by
  exfalso;rcases Nat.lt_or_ge j l.toArray.size with h'|h'<;>simp_all
 refine wp_region_any hm (Y5 (S:=S) (T:=fun j=>ks.contains j) _ _ _ _ ?_);have key:=h.out hsel hQ hcl;simpa using key
def b5N (md:Region.Mode) (ops:Array Oper) (T:Nat->Bool) (i:Nat) (listed:Array Bool):Bool:=
 decide (i<ops.size)&&Region.free md ops listed i&&(Region.ready md ops listed).contains i&&
  (((ops[i]?).map (fun o=>I7 o.op)).getD false||(List.range ops.size).all fun j=>j==i||listed.getD j true||K9 md ops ops.size j i||T j)
theorem J3 {i fuel:Nat} {listed:Array Bool} {o:Oper} {a:Act} {w:World} (hok:b5N md ops T i listed=true) (ho:ops[i]? =some o) (hw:Region.wanted o (yielded ops a.tmps)=true) (hSw:I7 o.op=false->S w) (v:Value)
 (hy:∀w,(I7 o.op=false->S w)->(execOp a.eval o).run P w= .ok (.value v) w)
 (h:∀K:Act->Prop,(∀a',AN P md ops Q S T fuel (listed.setIfInBounds i true) a' w->K a')->K (a.put o.dst v)):AN P md ops Q S T (fuel+1) listed a w:=by
 refine ⟨fun hsel hQ hc=> ?_⟩;unfold b5N at hok;simp only [Bool.and_eq_true,decide_eq_true_eq] at hok;obtain ⟨⟨⟨hi,hf⟩,hr⟩,hp⟩:=hok;have lh:i∈Region.ready md ops listed:=by simpa using hr
 have h':=(h _ fun _ h=>h).out hsel hQ (hc.set lh)
 exact Y6 (S:=S) (T:=T) (S':=fun w=>I7 o.op=false->S w) ho (Region.noSelect_spec hsel) (fun c a w=>hQ c a o.dst v w) fuel listed a w hc (Region.free_spec ho hf)
  (fun j hj hji hun hre w w' hT h fQ=>by
    simp only [ho,Option.map_some,Option.getD_some,fQ,Bool.false_or,List.all_eq_true,List.mem_range,Bool.or_eq_true,beq_iff_eq] at hp;rcases hp j hj with ((h1|h1)|h1)|h1
    ·exact absurd h1 hji
    ·rw [hun] at h1;cases h1
    ·rw [hre] at h1;cases h1
    ·exact hT h1 (h fQ))
  lh (.inl ⟨hw,hy⟩) hSw h'
theorem j9 {i fuel:Nat} {listed:Array Bool} {a:Act} {w:World} (hr:(Region.ready md ops listed==[i])=true) (h:GO P ops Q S T i (fun a' w'=>AN P md ops Q S T fuel (listed.setIfInBounds i true) a' w') a w):AN P md ops Q S T (fuel+1) listed a w:=by
 refine ⟨fun hsel hQ hc=> ?_⟩;have hr:Region.ready md ops listed=[i]:=by simpa using hr
 refine ⟨fun h0=>(by rw [hr] at h0;cases h0),fun j hj=> ?_⟩;have hj':j∈Region.ready md ops listed:=hj;rw [hr] at hj;obtain rfl:j=i:=by simpa using hj
 exact wpOp_mono (fun a' w' h'=>⟨h'.1,h'.2.out hsel hQ (hc.set hj')⟩) h.out
theorem a0D {i j fuel:Nat} {listed:Array Bool} {a:Act} {w:World} (hr:(Region.ready md ops listed==[i,j])=true) (h1:GO P ops Q S T i (fun a' w'=>AN P md ops Q S T fuel (listed.setIfInBounds i true) a' w') a w)
 (h2:GO P ops Q S T j (fun a' w'=>AN P md ops Q S T fuel (listed.setIfInBounds j true) a' w') a w):AN P md ops Q S T (fuel+1) listed a w:=by
 refine ⟨fun hsel hQ hc=> ?_⟩;have hr:Region.ready md ops listed=[i,j]:=by simpa using hr
 refine ⟨fun h0=>(by rw [hr] at h0;cases h0),fun k hk=> ?_⟩;have hk':k∈Region.ready md ops listed:=hk;rw [hr] at hk;have hk2:k=i\/k=j:=by simpa using hk
 rcases hk2 with rfl|rfl
 ·exact wpOp_mono (fun a' w' h'=>⟨h'.1,h'.2.out hsel hQ (hc.set hk')⟩) h1.out
 exact wpOp_mono (fun a' w' h'=>⟨h'.1,h'.2.out hsel hQ (hc.set hk')⟩) h2.out
theorem T9 {listed:Array Bool} {a:Act} {w:World} (hr:(Region.ready md ops listed).isEmpty=true) (h:Q .normal a w):AN P md ops Q S T 0 listed a w:=
 ⟨fun _ _ _=>⟨by simpa using hr,h⟩⟩
theorem wan {fuel:Nat} {listed:Array Bool} {o:Oper} {d:Option Tmp} {a:Act} {w:World} {v:Value} (i:Nat) (hS:S w) (h:∀K:Act->Prop,(∀a',AN P md ops Q S T fuel (listed.setIfInBounds i true) a' w->K a')->K (a.put d v))
 (hok:b5N md ops T i listed=true:=by kernel_rfl)
 (ho:ops[i]? =some o:=by exact rfl)
 (hd:o.dst=d:=by ((try simp only [zz1,zz2,zz3]));exact rfl)
 (hw:Region.wanted o (yielded ops a.tmps)=true:=by ((try simp only [zz1,zz2,zz3]));go_simp;done)
 (hy:∀w,(I7 o.op=false->S w)->(execOp a.eval o).run P w= .ok (.value v) w:=by intro w0 h0;((try simp only [zz1,zz2,zz3]));first|(have h1:=h0 rfl;clear h0;(try cases h1);go_simp;with_reducible rfl)|(clear h0;go_simp;with_reducible rfl)):AN P md ops Q S T (fuel+1) listed a w:=J3 hok ho hw (fun _=>hS) v hy (hd▸h)
end
end
section
open Go.RowKit
theorem b19 {P:Program} {md:Region.Mode} {ops:Array Oper} {Q:Exit->Act->World->Prop} {S:World->Prop} {T:Nat->Bool} (I:Nat->Array Bool->Act->World->Prop)
 (h0:∀listed a w,I 0 listed a w->Region.ready md ops listed=[]/\Q .normal a w)
 (hs:∀n listed a w,I (n+1) listed a w->∃js:List Nat,Region.ready md ops listed=js/\js≠[]/\∀i∈js,GO P ops Q S T i (fun a' w'=>I n (listed.setIfInBounds i true) a' w') a w):
 ∀{n:Nat} {listed:Array Bool} {a:Act} {w:World},I n listed a w->AN P md ops Q S T n listed a w
 |0,listed,a,w,h=>⟨fun _ _ _=>h0 listed a w h⟩
 |n+1,listed,a,w,h=>by
  obtain ⟨js,hr,hne,hg⟩:=hs n listed a w h;exact ⟨fun hsel hQ hc=>⟨fun e=>absurd (hr.symm.trans e) hne,fun i hi=>wpOp_mono (fun _ _ h'=>⟨h'.1,(b19 I h0 hs h'.2).out hsel hQ (hc.set hi)⟩) (hg i (hr▸hi)).out⟩⟩
section
variable {P:Program} {w:World} {ops:Array Oper} {rest:List Oper} {a:Act} {Q:Exit->Act->World->Prop} {d:Option Tmp} {tp:TypeId} {pos:String} {af:Array Edge} {g:Nat×Bool}
variable {P:Program} {w:World}
theorem a2b (ty:TypeId) (g off:Nat) (cur:Array Value) (t:TypeId) (cs:List Value) (hg:w.heap[g]? =some (.cells cur t (0,0))) (hl:off+cs.length<=cur.size)
 (hi:(P.info? ty).map (·.size)=some cs.length) (h1:∀u∈cs,u.oneCell'=true):
 (storeVar ty ⟨g,off,none⟩ (.agg cs.toArray)).run P w= .ok () (w.setRow g (cur.toList.take off++cs++cur.toList.drop (off+cs.length)).toArray):=by
 have hst:=run_storeCells_at P g off t cs 0 cur w hg zo h1
 cases hq:P.info? ty with
 |none=>simp [hq] at hi
 |some i=>
  have hs:i.size=cs.length:=by simpa [hq] using hi
  simp only [Nat.add_zero] at hst;simp [storeVar,Value.cells,sizeOf,typeInfo,hq,hs,hst]
theorem a5E {o:Oper} {a:Act} {K:Act->World->Prop} {Q:Exit->Act->World->Prop} (ty:TypeId) (x y:Operand) (ho:o.op= .store ty x y) (g off:Nat)
 (hx:a.eval x= .pointer (some ⟨g,off,none⟩)) (cur:Array Value) (t:TypeId) (hg:w.heap[g]? =some (.cells cur t (0,0))) (cs:List Value) (hy:a.eval y= .agg cs.toArray) (hl:off+cs.length<=cur.size)
 (hi:(P.info? ty).map (·.size)=some cs.length) (h1:∀u∈cs,u.oneCell'=true)
 (h:K (a.put o.dst undef) (w.setRow g (cur.toList.take off++cs++cur.toList.drop (off+cs.length)).toArray)):o.wp P a w K Q:=by
 have hr:=a2b (P:=P) (w:=w) ty g off cur t cs hg hl hi h1;unfold Oper.wp execOp;simp only [ho,hx,hy,Instr.storeAt,Instr.sureAddr,Sem.run_bind,Sem.run_pure,Result.andThen_ok,hr];exact h
end
end
section
open Go.RowKit
def CrF (c j t:Nat):Prop:=t=c\/t=c+1+j\/t=c+5+j\/t=c+9+j\/t=c+13+j
structure a01 (w0 wr:World) (owr:Ow) (c j:Nat) (x8 x9 x10 x11:Option Nat) (y:World) (oy:Ow):Prop where
 mv:Mov (CrF c j) wr owr y oy
 o:Owd w0 y oy
 f8:∀b,x8=some b->J9 y oy (c+1+j) b [] 0
 f9:∀b,x9=some b->a17 y oy (c+5+j) b [] 0
 f10:∀b,x10=some b->a0i y oy (c+9+j) b []
 f11:∀b,x11=some b->M7 y oy (c+13+j) b (fun _=>[]) 0
section
variable {w0 wr y y':World} {owr oy oy':Ow} {c j:Nat} {x8 x9 x10 x11:Option Nat}
theorem a01.keep {t0:Nat} (h:a01 w0 wr owr c j x8 x9 x10 x11 y oy) (s:Mov (fun t=>t=t0) y oy y' oy') (h2:2<=c) (hj:j<4) (ht:CrF c j t0):
 Mov (CrF c j) wr owr y' oy'/\Owd w0 y' oy'/\(t0≠c+1+j->∀b,x8=some b->J9 y' oy' (c+1+j) b [] 0)/\(t0≠c+5+j->∀b,x9=some b->a17 y' oy' (c+5+j) b [] 0)/\
  (t0≠c+9+j->∀b,x10=some b->a0i y' oy' (c+9+j) b [])/\(t0≠c+13+j->∀b,x11=some b->M7 y' oy' (c+13+j) b (fun _=>[]) 0):=by
 have hn0:¬(0=t0):=by unfold CrF at ht;omega
 exact ⟨h.mv.trans (s.mono fun t e=>e▸ht),s.owd h.o hn0,fun hn b hb=>(h.f8 b hb).mov h.o s hn0 (fun e=>hn e.symm) zo,fun hn b hb=>(h.f9 b hb).mov h.o s hn0 (fun e=>hn e.symm) zo,
  fun hn b hb=>(h.f10 b hb).mov s hn0 (fun e=>hn e.symm),fun hn b hb=>(h.f11 b hb).mov s hn0 (fun e=>hn e.symm)⟩
theorem a01.s8 {e:Ending} (h:a01 w0 wr owr c j none x9 x10 x11 y oy) (h2:2<=c) (hj:j<4) (hp:a6u y e y'):∃b oy',e= .returned (ptr b)/\a01 w0 wr owr c j (some b) x9 x10 x11 y' oy'/\Mov (fun t=>t=c+1+j) y oy y' oy':=by
 obtain ⟨b,own,rfl,hT,ho,hm⟩:=hp;have hmv:Mov (fun t=>t=c+1+j) y oy y' (A6 y y' oy own (fun _=>False) (c+1+j)):=Mov.tag rfl (hm.mono (fun _ _ h=>h.elim));obtain ⟨a1,a2,a3,a4,a5,a6⟩:=h.keep hmv h2 hj (.inr (.inl rfl));refine ⟨b,_,rfl,⟨a1,a2,fun b' hb=> ?_,a4 zo,a5 zo,a6 zo⟩,hmv⟩;cases hb
 exact J9.new h.o zo hT (fun k hk=> .inr (ho k hk)) (fun k hk=>hk.elim) (hm.mono (fun _ _ h=>h.elim))
theorem a01.s9 {e:Ending} (h:a01 w0 wr owr c j x8 none x10 x11 y oy) (h2:2<=c) (hj:j<4) (hp:a6i y e y'):∃b oy',e= .returned (ptr b)/\a01 w0 wr owr c j x8 (some b) x10 x11 y' oy'/\Mov (fun t=>t=c+5+j) y oy y' oy':=by
 obtain ⟨b,own,rfl,hT,ho,hm⟩:=hp;have hmv:Mov (fun t=>t=c+5+j) y oy y' (A6 y y' oy own (fun _=>False) (c+5+j)):=Mov.tag rfl (hm.mono (fun _ _ h=>h.elim));obtain ⟨a1,a2,a3,a4,a5,a6⟩:=h.keep hmv h2 hj (.inr (.inr (.inl rfl)));refine ⟨b,_,rfl,⟨a1,a2,a3 zo,fun b' hb=> ?_,a5 zo,a6 zo⟩,hmv⟩;cases hb
 exact a17.new h.o zo hT (fun k hk=> .inr (ho k hk).1) (fun k _ h=>h) (fun k hk=>hk.elim) (hm.mono (fun _ _ h=>h.elim))
theorem a01.s10 (h:a01 w0 wr owr c j x8 x9 none x11 y oy) (h2:2<=c) (hj:j<4):∃oy',a01 w0 wr owr c j x8 x9 (some y.heap.size) x11 (y.alloc (.map #[] 0)) oy'/\Mov (fun t=>t=c+9+j) y oy (y.alloc (.map #[] 0)) oy':=by
 have hmv:Mov (fun t=>t=c+9+j) y oy (y.alloc (.map #[] 0)) (Q0 oy y.heap.size (c+9+j)):=Mov.alloc h.o _ _ (.inr (.inr rfl));obtain ⟨a1,a2,a3,a4,a5,a6⟩:=h.keep hmv h2 hj (.inr (.inr (.inr (.inl rfl))));refine ⟨_,⟨a1,a2,a3 zo,a4 zo,fun b' hb=> ?_,a6 zo⟩,hmv⟩;cases hb
 exact ⟨C7 _ _ _,List.nodup_nil,_,l8.made y 3,fun id=>trivial⟩
theorem a01.s11 (h:a01 w0 wr owr c j x8 x9 x10 none y oy) (h2:2<=c) (hj:j<4):∃oy',a01 w0 wr owr c j x8 x9 x10 (some y.heap.size) (y.alloc (.map #[] 0)) oy'/\Mov (fun t=>t=c+13+j) y oy (y.alloc (.map #[] 0)) oy':=by
 have hmv:Mov (fun t=>t=c+13+j) y oy (y.alloc (.map #[] 0)) (Q0 oy y.heap.size (c+13+j)):=Mov.alloc h.o _ _ (.inr (.inr rfl));obtain ⟨a1,a2,a3,a4,a5,a6⟩:=h.keep hmv h2 hj (.inr (.inr (.inr (.inr rfl))));refine ⟨_,⟨a1,a2,a3 zo,a4 zo,a5 zo,fun b' hb=> ?_⟩,hmv⟩;cases hb
 exact ⟨C7 _ _ _,⟨0,_,l8.made y 3,Nat.le_refl _,fun id=>rfl⟩,fun id=>List.Pairwise.nil⟩
end
def ov (u:Value) (f:Nat->Value):Option Nat->Value
 |some b=>f b
 |none=>u
def crN (x8 x9 x10 x11:Option Nat) (d:Nat):Nat:=(if x8.isSome then 1 else 0)+(if x9.isSome then 1 else 0)+(if x10.isSome then 1 else 0)+(if x11.isSome then 1 else 0)+d
def crL (x8 x9 x10 x11:Option Nat) (d:Nat):Array Bool:=#[true,true,x8.isSome,x9.isSome,x10.isSome,x11.isSome,Nat.ble 1 d,true,true,Nat.ble 2 d,Nat.ble 3 d]
def O7 (b:Nat):Value:= .map (some b)
def crA (g j:Nat) (u8 u9 u10 u11 u12 u15 u16:Value) (x8 x9 x10 x11:Option Nat) (d:Nat):Act:=
 ⟨#[.pointer (some ⟨g,0,none⟩),undef,.int .i64 j,.int .i64 j,.bool true,.int .i64 j,.pointer (some ⟨g,0,none⟩),.int .i64 j,ov u8 ptr x8,ov u9 ptr x9,ov u10 O7 x10,ov u11 O7 x11,
  if Nat.ble 1 d then .agg #[ov u8 ptr x8,ov u9 ptr x9,ov u10 O7 x10,ov u11 O7 x11] else u12,.pointer (some ⟨g,0,none⟩),.pointer (some ⟨g,3,none⟩),if Nat.ble 2 d then .pointer (some ⟨g,3+4*j,none⟩) else u15,u16],[]⟩
def CrI (w0 wr:World) (owr:Ow) (c g j:Nat) (row:List Value) (u8 u9 u10 u11 u12 u15 u16:Value) (n:Nat) (listed:Array Bool) (A:Act) (y:World):Prop:=
 ∃(x8 x9 x10 x11:Option Nat) (d:Nat) (oy:Ow),crN x8 x9 x10 x11 d+n=7/\(x9.isSome=true->x8.isSome=true)/\d<=3/\(0<d->x9.isSome=true/\x10.isSome=true/\x11.isSome=true)/\listed=crL x8 x9 x10 x11 d/\A=crA g j u8 u9 u10 u11 u12 u15 u16 x8 x9 x10 x11 d/\
  a01 w0 wr owr c j x8 x9 x10 x11 y oy/\y.heap[g]? =some (.cells (if Nat.ble 3 d then row.take (3+4*j)++[ov u8 ptr x8,ov u9 ptr x9,ov u10 O7 x10,ov u11 O7 x11]++row.drop (3+4*j+4) else row).toArray 118 (0,0))/\oy g=c
end
open Go.RowKit
def b2a (w0 w:World) (ow:Ow) (c g:Nat) (id:Int) (v nv:Value) (L:List Lr) (nr:List Value) (i:Value) (wr:World):Prop:=
 ∃(j:Nat) (owr:Ow) (R:List Value) (tb ib sb mb:Nat->Nat),i= .int .i64 j/\j<=4/\R.length=16/\Owd w0 wr owr/\Mov (fun t=>c<=t/\t<c+18) w ow wr owr/\wr.heap[g]? =some (.cells (v:: .int .i64 id::nv::R).toArray 118 (0,0))/\owr g=c/\
  a2p wr owr (c+17) g v L/\q6 wr owr 1 nv nr.length nr/\∀t,t<j->R[4*t]? =some (ptr (tb t))/\R[4*t+1]? =some (ptr (ib t))/\R[4*t+2]? =some (O7 (sb t))/\R[4*t+3]? =some (O7 (mb t))/\a3F wr owr c t (tb t) (ib t) (sb t) (mb t) RS.zero
def a94 (w0 w:World) (ow:Ow) (c g:Nat) (id:Int) (near:List Int) (P:List PRu) (e:Ending) (w':World):Prop:=
 e= .returned (.tuple #[])/\∃ow',Owd w0 w' ow'/\Bro w' ow' c g id near ⟨P,fun _=>RS.zero⟩/\Mov (fun t=>c<=t/\t<c+18) w ow w' ow'
theorem b5O {R:List Value} {tb ib sb mb:Nat->Nat} (hR:R.length=16) (h:∀t,t<4->R[4*t]? =some (ptr (tb t))/\R[4*t+1]? =some (ptr (ib t))/\R[4*t+2]? =some (O7 (sb t))/\R[4*t+3]? =some (O7 (mb t))) (v nv:Value) (id:Int):
 .int .i64 id::nv::R=BAd.rest ⟨v,nv,tb,ib,sb,mb⟩ id:=by
 have h0:=h 0 zo;have h1:=h 1 zo;have h2:=h 2 zo;have h3:=h 3 zo;unfold BAd.rest;refine congrArg _ (congrArg _ ?_);apply List.ext_getElem?;intro i
 match i with
 |0=>exact h0.1
 |1=>exact h0.2.1
 |2=>exact h0.2.2.1
 |3=>exact h0.2.2.2
 |4=>exact h1.1
 |5=>exact h1.2.1
 |6=>exact h1.2.2.1
 |7=>exact h1.2.2.2
 |8=>exact h2.1
 |9=>exact h2.2.1
 |10=>exact h2.2.2.1
 |11=>exact h2.2.2.2
 |12=>exact h3.1
 |13=>exact h3.2.1
 |14=>exact h3.2.2.1
 |15=>exact h3.2.2.2
 |i+16=>rw [List.getElem?_eq_none zo,List.getElem?_eq_none (by simp)]
theorem b5P {v a nv:Value} {R:List Value} {j:Nat} (hR:R.length=16) (hj:j<4) (p q r s:Value):
 ∃R',(v::a::nv::R).take (3+4*j)++[p,q,r,s]++(v::a::nv::R).drop (3+4*j+4)=v::a::nv::R'/\R'.length=16/\(∀i,i<4*j->R'[i]? =R[i]?)/\R'[4*j]? =some p/\R'[4*j+1]? =some q/\R'[4*j+2]? =some r/\R'[4*j+3]? =some s:=by
 refine ⟨R.take (4*j)++[p,q,r,s]++R.drop (4*j+4), ?_,by simp;omega,fun i hi=> ?_, ?_, ?_, ?_, ?_⟩
 ·rw [show 3+4*j=(4*j)+3 by omega,show 4*j+3+4=(4*j+4)+3 by omega];rfl
 ·rw [zz12,List.getElem?_append_left (by simp;omega),List.getElem?_take,if_pos hi]
 all_goals
  rw [zz12,List.getElem?_append_right (by simp;omega)];have e:(R.take (4*j)).length=4*j:=by simp;omega
  rw [e]
 ·rw [Nat.sub_self];rfl
 ·rw [show 4*j+1 - 4*j=1 by omega];rfl
 ·rw [show 4*j+2 - 4*j=2 by omega];rfl
 rw [show 4*j+3 - 4*j=3 by omega];rfl
theorem b2b (w0 w:World) (ow:Ow) (c g:Nat) (id:Int) (near:List Int) (hw:Owd w0 w ow) (h2:2<=c) (v nv:Value) (L:List Lr) (R0:List Value) (hR0:R0.length=16)
 (hrow:w.heap[g]? =some (.cells (v:: .int .i64 id::nv::R0).toArray 118 (0,0))) (htag:ow g=c) (aQ:a2p w ow (c+17) g v L) (dS:q6 w ow 1 nv near.length (near.map (Value.int .i64))):
 Calls Tryz.prog 47 #[.pointer (some ⟨g,0,none⟩)] w (a94 w0 w ow c g id near (L.map Prod.fst)):=by
 have hst:b2a w0 w ow c g id v nv L (near.map (Value.int .i64)) (.int .i64 0) w:=⟨0,ow,R0,fun _=>0,fun _=>0,fun _=>0,fun _=>0,rfl,zo,hR0,hw,Mov.refl hw,hrow,htag,aQ,by rw [zz10];exact dS,fun t ht=>absurd ht zo⟩;refine hh1 hst fun kM=> ?_;clear hst hrow aQ dS htag hw
 go_enter Tryz.func47,Tryz.ntmps47
 go_wp2_with fail
 go_loopw [3] (fun i wr=>b2a w0 w ow c g id v nv L (near.map (Value.int .i64)) i wr) (fun i _=>4 - (intOf i).toNat)
 case atStart=>exact kM.out
 case round=>
  obtain ⟨j,owr,R,tb,ib,sb,mb,rfl,hj,hR,hor,hmr,hrr,htr,hlr,hnr,hall⟩:=hrel;by_cases hlt:j<4
  ·have hlt':(j:Int)<4:=zo
   have hj0:(0:Int)<=j:=zo
   have hod:Owd w0 wr.drew owr:=⟨hor.hi,hor.lo,⟨hor.laid.at0,hor.laid.n64,⟨hor.laid.below.os,hor.laid.below.tape,hor.laid.below.output,hor.laid.below.size,hor.laid.below.block⟩⟩⟩;have hs0:a01 w0 wr.drew owr c j none none none none wr.drew owr:=⟨Mov.refl hod,hod,fun b hb=>(by cases hb),fun b hb=>(by cases hb),fun b hb=>(by cases hb),fun b hb=>(by cases hb)⟩;obtain ⟨row,hrw⟩:∃row,(v:: .int .i64 id::nv::R:List Value)=row:=⟨_,rfl⟩;have hrl:row.length=19:=by rw [<-hrw];simp [hR]
   rw [hrw] at hrr;refine hh8 hor hmr hlr hnr hall hod hs0 hrw fun yK aL Tw yz aO Xb Gv Tx=> ?_;refine hh2 hrr hrl fun GI Hrl=> ?_;clear hor hmr hlr hnr hall hod hs0 hrw hrr hrl
   go_wp2_with fail
   refine M1 [0,1,7,8] (fun _:World=>True) zk zk (fun _ _ d _ _ h=>(by cases d<;>exact h)) ?_;have hS:(fun _:World=>True) wr.drew:=trivial;refine wan 0 hS fun K hK=> ?_;go_simp;refine hK _ ?_;clear hK K;refine wan 1 hS fun K hK=> ?_;go_simp;refine hK _ ?_;clear hK K;refine wan 7 hS fun K hK=> ?_;go_simp;refine hK _ ?_;clear hK K;refine wan 8 hS fun K hK=> ?_;go_simp;refine hK _ ?_;clear hK K;refine b19 (CrI w0 wr.drew owr c g j row u8 u9 u10 u11 u12 u15 u16) (fun listed A y hI=> ?_) (fun n listed A y hI=> ?_) (n:=7) ⟨none,none,none,none,0,owr,zd,(fun h=>by cases h),zo,(fun h=>absurd h zo),rfl,rfl,Gv.out,GI.out,htr⟩
   ·obtain ⟨x8,x9,x10,x11,d,oy,hn,AB,hd3,hd0,rfl,rfl,hst,hrow,htag⟩:=hI;obtain rfl:d=3:=by unfold crN at hn;split at hn<;>split at hn<;>split at hn<;>split at hn<;>omega
    obtain ⟨k9,k10,k11⟩:=hd0 zo;have k8:=AB k9;obtain ⟨b8,rfl⟩:=Option.isSome_iff_exists.1 k8;obtain ⟨b9,rfl⟩:=Option.isSome_iff_exists.1 k9;obtain ⟨b10,rfl⟩:=Option.isSome_iff_exists.1 k10;obtain ⟨b11,rfl⟩:=Option.isSome_iff_exists.1 k11;refine ⟨zk, ?_⟩;have hrow':y.heap[g]? =some (.cells (row.take (3+4*j)++[ptr b8,ptr b9,O7 b10,O7 b11]++row.drop (3+4*j+4)).toArray 118 (0,0)):=hrow;rw [<-Tx.out] at hrow';obtain ⟨R',Ty,hR2,Ib,r0,r1,r2,r3⟩:=b5P (v:=v) (a:= .int .i64 id) (nv:=nv) (j:=j) hR hlt (ptr b8) (ptr b9) (O7 b10) (O7 b11);rw [Ty] at hrow';have hmv:Mov (CrF c j) wr owr y oy:=⟨((Mod.refl _ wr).drew).trans hst.mv.md zi,hst.mv.old,hst.mv.new,hst.mv.top⟩;have hcf:∀t,CrF c j t->c<=t/\t<c+18:=fun t ht=>by unfold CrF at ht;omega
    have hn0:¬CrF c j 0:=by unfold CrF;omega
    have hnx:b2a w0 w ow c g id v nv L (near.map (Value.int .i64)) (.int .i64 ((j+1:Nat):Int)) y:=by
     refine ⟨j+1,oy,R',upd tb j b8,upd ib j b9,upd sb j b10,upd mb j b11,rfl,zo,hR2,hst.o,aL.out.trans (hmv.mono hcf),hrow',htag, ?_,yz.out.mov hmv hn0 zo,fun t ht=> ?_⟩
     ·exact Tw.out.mov hmv hn0 (by unfold CrF;omega)
     by_cases e:t=j
     ·subst e;rw [J0,J0,J0,J0];exact ⟨r0,r1,r2,r3,hst.f8 b8 rfl,hst.f9 b9 rfl,hst.f10 b10 rfl,hst.f11 b11 rfl⟩
     rw [L9 _ _ e,L9 _ _ e,L9 _ _ e,L9 _ _ e];obtain ⟨q0,q1,q2,q3,q4⟩:=aO.out t zo;refine ⟨by rw [Ib _ zo];exact q0,by rw [Ib _ zo];exact q1,by rw [Ib _ zo];exact q2,by rw [Ib _ zo];exact q3,q4.mov yK.out hmv hn0 ?_ h2⟩;unfold CrF;omega
    clear hst hrow hrow' htag hmv;refine hh1 hnx fun fD=> ?_;clear hnx;simp only [crA,ov]
    go_wp2_with fail
    go_roundw
    case rel=>exact fD.out
    case measure=>simp [intOf];omega
   obtain ⟨x8,x9,x10,x11,d,oy,hn,AB,hd3,hd0,rfl,rfl,hst,hrow,htag⟩:=hI;have hgl:=(zz7 hrow).1;rcases x8 with _|b8<;>rcases x9 with _|b9<;>rcases x10 with _|b10<;>rcases x11 with _|b11
   ·obtain rfl:d=0:=by
     by_cases h:0<d
     ·obtain ⟨k9,k10,k11⟩:=hd0 h
      first|exact absurd k9 zd|exact absurd k10 zd|exact absurd k11 zd
     omega
    have hn1:n+1=7:=by simp [crN] at hn;omega
    refine ⟨[2,4,5],zk,zd,List.forall_mem_cons.2 ⟨?_,List.forall_mem_cons.2 ⟨?_,List.forall_mem_cons.2 ⟨?_,fun _ h=>by cases h⟩⟩⟩⟩
    ·refine g8 rfl ?_ (fun K hK=> ?_)
     ·exact zg
     (try simp only [zz1,zz2,zz3]);simp only [crA,ov];go_simp;refine (a2T y).mono ?_;rintro e y' hp;obtain ⟨b,oy',rfl,hst',aD⟩:=hst.s8 h2 hlt hp;refine hK _ _ (fun _ _=>trivial) ⟨(some b),none,none,none,0,oy',by simp [crN];omega,(fun h=>by first|rfl|cases h),zo,(fun h=>absurd h zo),rfl,rfl,hst',aD.md.heap hrow (fun e=> ?_),by rw [aD.old g hgl];exact htag⟩;have e':oy g=c+1+j:=e;omega
    ·refine g8 rfl ?_ (fun K hK=> ?_)
     ·exact zg
     (try simp only [zz1,zz2,zz3]);simp only [crA,ov];go_simp;obtain ⟨oy',hst',aD⟩:=hst.s10 h2 hlt;refine hK _ _ (fun _ _=>trivial) ⟨none,none,(some y.heap.size),none,0,oy',by simp [crN];omega,(fun h=>by first|rfl|cases h),zo,(fun h=>absurd h zo),rfl,rfl,hst',aD.md.heap hrow (fun e=> ?_),by rw [aD.old g hgl];exact htag⟩;have e':oy g=c+9+j:=e;omega
    refine g8 rfl ?_ (fun K hK=> ?_)
    ·exact zg
    (try simp only [zz1,zz2,zz3]);simp only [crA,ov];go_simp;obtain ⟨oy',hst',aD⟩:=hst.s11 h2 hlt;refine hK _ _ (fun _ _=>trivial) ⟨none,none,none,(some y.heap.size),0,oy',by simp [crN];omega,(fun h=>by first|rfl|cases h),zo,(fun h=>absurd h zo),rfl,rfl,hst',aD.md.heap hrow (fun e=> ?_),by rw [aD.old g hgl];exact htag⟩;have e':oy g=c+13+j:=e;omega
   ·obtain rfl:d=0:=by
     by_cases h:0<d
     ·obtain ⟨k9,k10,k11⟩:=hd0 h
      first|exact absurd k9 zd|exact absurd k10 zd|exact absurd k11 zd
     omega
    have hn1:n+1=6:=by simp [crN] at hn;omega
    refine ⟨[2,4],zk,zd,List.forall_mem_cons.2 ⟨?_,List.forall_mem_cons.2 ⟨?_,fun _ h=>by cases h⟩⟩⟩
    ·refine g8 rfl ?_ (fun K hK=> ?_)
     ·exact zg
     (try simp only [zz1,zz2,zz3]);simp only [crA,ov];go_simp;refine (a2T y).mono ?_;rintro e y' hp;obtain ⟨b,oy',rfl,hst',aD⟩:=hst.s8 h2 hlt hp;refine hK _ _ (fun _ _=>trivial) ⟨(some b),none,none,(some b11),0,oy',by simp [crN];omega,(fun h=>by first|rfl|cases h),zo,(fun h=>absurd h zo),rfl,rfl,hst',aD.md.heap hrow (fun e=> ?_),by rw [aD.old g hgl];exact htag⟩;have e':oy g=c+1+j:=e;omega
    refine g8 rfl ?_ (fun K hK=> ?_)
    ·exact zg
    (try simp only [zz1,zz2,zz3]);simp only [crA,ov];go_simp;obtain ⟨oy',hst',aD⟩:=hst.s10 h2 hlt;refine hK _ _ (fun _ _=>trivial) ⟨none,none,(some y.heap.size),(some b11),0,oy',by simp [crN];omega,(fun h=>by first|rfl|cases h),zo,(fun h=>absurd h zo),rfl,rfl,hst',aD.md.heap hrow (fun e=> ?_),by rw [aD.old g hgl];exact htag⟩;have e':oy g=c+9+j:=e;omega
   ·obtain rfl:d=0:=by
     by_cases h:0<d
     ·obtain ⟨k9,k10,k11⟩:=hd0 h
      first|exact absurd k9 zd|exact absurd k10 zd|exact absurd k11 zd
     omega
    have hn1:n+1=6:=by simp [crN] at hn;omega
    refine ⟨[2,5],zk,zd,List.forall_mem_cons.2 ⟨?_,List.forall_mem_cons.2 ⟨?_,fun _ h=>by cases h⟩⟩⟩
    ·refine g8 rfl ?_ (fun K hK=> ?_)
     ·exact zg
     (try simp only [zz1,zz2,zz3]);simp only [crA,ov];go_simp;refine (a2T y).mono ?_;rintro e y' hp;obtain ⟨b,oy',rfl,hst',aD⟩:=hst.s8 h2 hlt hp;refine hK _ _ (fun _ _=>trivial) ⟨(some b),none,(some b10),none,0,oy',by simp [crN];omega,(fun h=>by first|rfl|cases h),zo,(fun h=>absurd h zo),rfl,rfl,hst',aD.md.heap hrow (fun e=> ?_),by rw [aD.old g hgl];exact htag⟩;have e':oy g=c+1+j:=e;omega
    refine g8 rfl ?_ (fun K hK=> ?_)
    ·exact zg
    (try simp only [zz1,zz2,zz3]);simp only [crA,ov];go_simp;obtain ⟨oy',hst',aD⟩:=hst.s11 h2 hlt;refine hK _ _ (fun _ _=>trivial) ⟨none,none,(some b10),(some y.heap.size),0,oy',by simp [crN];omega,(fun h=>by first|rfl|cases h),zo,(fun h=>absurd h zo),rfl,rfl,hst',aD.md.heap hrow (fun e=> ?_),by rw [aD.old g hgl];exact htag⟩;have e':oy g=c+13+j:=e;omega
   ·obtain rfl:d=0:=by
     by_cases h:0<d
     ·obtain ⟨k9,k10,k11⟩:=hd0 h
      first|exact absurd k9 zd|exact absurd k10 zd|exact absurd k11 zd
     omega
    have hn1:n+1=5:=by simp [crN] at hn;omega
    refine ⟨[2],zk,zd,List.forall_mem_cons.2 ⟨?_,fun _ h=>by cases h⟩⟩;refine g8 rfl ?_ (fun K hK=> ?_)
    ·exact zg
    (try simp only [zz1,zz2,zz3]);simp only [crA,ov];go_simp;refine (a2T y).mono ?_;rintro e y' hp;obtain ⟨b,oy',rfl,hst',aD⟩:=hst.s8 h2 hlt hp;refine hK _ _ (fun _ _=>trivial) ⟨(some b),none,(some b10),(some b11),0,oy',by simp [crN];omega,(fun h=>by first|rfl|cases h),zo,(fun h=>absurd h zo),rfl,rfl,hst',aD.md.heap hrow (fun e=> ?_),by rw [aD.old g hgl];exact htag⟩;have e':oy g=c+1+j:=e;omega
   ·exact absurd (AB rfl) zd
   ·exact absurd (AB rfl) zd
   ·exact absurd (AB rfl) zd
   ·exact absurd (AB rfl) zd
   ·obtain rfl:d=0:=by
     by_cases h:0<d
     ·obtain ⟨k9,k10,k11⟩:=hd0 h
      first|exact absurd k9 zd|exact absurd k10 zd|exact absurd k11 zd
     omega
    have hn1:n+1=6:=by simp [crN] at hn;omega
    refine ⟨[3,4,5],zk,zd,List.forall_mem_cons.2 ⟨?_,List.forall_mem_cons.2 ⟨?_,List.forall_mem_cons.2 ⟨?_,fun _ h=>by cases h⟩⟩⟩⟩
    ·refine g8 rfl ?_ (fun K hK=> ?_)
     ·exact zg
     (try simp only [zz1,zz2,zz3]);simp only [crA,ov];go_simp;refine (a2R y).mono ?_;rintro e y' hp;obtain ⟨b,oy',rfl,hst',aD⟩:=hst.s9 h2 hlt hp;refine hK _ _ (fun _ _=>trivial) ⟨(some b8),(some b),none,none,0,oy',by simp [crN];omega,(fun h=>by first|rfl|cases h),zo,(fun h=>absurd h zo),rfl,rfl,hst',aD.md.heap hrow (fun e=> ?_),by rw [aD.old g hgl];exact htag⟩;have e':oy g=c+5+j:=e;omega
    ·refine g8 rfl ?_ (fun K hK=> ?_)
     ·exact zg
     (try simp only [zz1,zz2,zz3]);simp only [crA,ov];go_simp;obtain ⟨oy',hst',aD⟩:=hst.s10 h2 hlt;refine hK _ _ (fun _ _=>trivial) ⟨(some b8),none,(some y.heap.size),none,0,oy',by simp [crN];omega,(fun h=>by first|rfl|cases h),zo,(fun h=>absurd h zo),rfl,rfl,hst',aD.md.heap hrow (fun e=> ?_),by rw [aD.old g hgl];exact htag⟩;have e':oy g=c+9+j:=e;omega
    refine g8 rfl ?_ (fun K hK=> ?_)
    ·exact zg
    (try simp only [zz1,zz2,zz3]);simp only [crA,ov];go_simp;obtain ⟨oy',hst',aD⟩:=hst.s11 h2 hlt;refine hK _ _ (fun _ _=>trivial) ⟨(some b8),none,none,(some y.heap.size),0,oy',by simp [crN];omega,(fun h=>by first|rfl|cases h),zo,(fun h=>absurd h zo),rfl,rfl,hst',aD.md.heap hrow (fun e=> ?_),by rw [aD.old g hgl];exact htag⟩;have e':oy g=c+13+j:=e;omega
   ·obtain rfl:d=0:=by
     by_cases h:0<d
     ·obtain ⟨k9,k10,k11⟩:=hd0 h
      first|exact absurd k9 zd|exact absurd k10 zd|exact absurd k11 zd
     omega
    have hn1:n+1=5:=by simp [crN] at hn;omega
    refine ⟨[3,4],zk,zd,List.forall_mem_cons.2 ⟨?_,List.forall_mem_cons.2 ⟨?_,fun _ h=>by cases h⟩⟩⟩
    ·refine g8 rfl ?_ (fun K hK=> ?_)
     ·exact zg
     (try simp only [zz1,zz2,zz3]);simp only [crA,ov];go_simp;refine (a2R y).mono ?_;rintro e y' hp;obtain ⟨b,oy',rfl,hst',aD⟩:=hst.s9 h2 hlt hp;refine hK _ _ (fun _ _=>trivial) ⟨(some b8),(some b),none,(some b11),0,oy',by simp [crN];omega,(fun h=>by first|rfl|cases h),zo,(fun h=>absurd h zo),rfl,rfl,hst',aD.md.heap hrow (fun e=> ?_),by rw [aD.old g hgl];exact htag⟩;have e':oy g=c+5+j:=e;omega
    refine g8 rfl ?_ (fun K hK=> ?_)
    ·exact zg
    (try simp only [zz1,zz2,zz3]);simp only [crA,ov];go_simp;obtain ⟨oy',hst',aD⟩:=hst.s10 h2 hlt;refine hK _ _ (fun _ _=>trivial) ⟨(some b8),none,(some y.heap.size),(some b11),0,oy',by simp [crN];omega,(fun h=>by first|rfl|cases h),zo,(fun h=>absurd h zo),rfl,rfl,hst',aD.md.heap hrow (fun e=> ?_),by rw [aD.old g hgl];exact htag⟩;have e':oy g=c+9+j:=e;omega
   ·obtain rfl:d=0:=by
     by_cases h:0<d
     ·obtain ⟨k9,k10,k11⟩:=hd0 h
      first|exact absurd k9 zd|exact absurd k10 zd|exact absurd k11 zd
     omega
    have hn1:n+1=5:=by simp [crN] at hn;omega
    refine ⟨[3,5],zk,zd,List.forall_mem_cons.2 ⟨?_,List.forall_mem_cons.2 ⟨?_,fun _ h=>by cases h⟩⟩⟩
    ·refine g8 rfl ?_ (fun K hK=> ?_)
     ·exact zg
     (try simp only [zz1,zz2,zz3]);simp only [crA,ov];go_simp;refine (a2R y).mono ?_;rintro e y' hp;obtain ⟨b,oy',rfl,hst',aD⟩:=hst.s9 h2 hlt hp;refine hK _ _ (fun _ _=>trivial) ⟨(some b8),(some b),(some b10),none,0,oy',by simp [crN];omega,(fun h=>by first|rfl|cases h),zo,(fun h=>absurd h zo),rfl,rfl,hst',aD.md.heap hrow (fun e=> ?_),by rw [aD.old g hgl];exact htag⟩;have e':oy g=c+5+j:=e;omega
    refine g8 rfl ?_ (fun K hK=> ?_)
    ·exact zg
    (try simp only [zz1,zz2,zz3]);simp only [crA,ov];go_simp;obtain ⟨oy',hst',aD⟩:=hst.s11 h2 hlt;refine hK _ _ (fun _ _=>trivial) ⟨(some b8),none,(some b10),(some y.heap.size),0,oy',by simp [crN];omega,(fun h=>by first|rfl|cases h),zo,(fun h=>absurd h zo),rfl,rfl,hst',aD.md.heap hrow (fun e=> ?_),by rw [aD.old g hgl];exact htag⟩;have e':oy g=c+13+j:=e;omega
   ·obtain rfl:d=0:=by
     by_cases h:0<d
     ·obtain ⟨k9,k10,k11⟩:=hd0 h
      first|exact absurd k9 zd|exact absurd k10 zd|exact absurd k11 zd
     omega
    have hn1:n+1=4:=by simp [crN] at hn;omega
    refine ⟨[3],zk,zd,List.forall_mem_cons.2 ⟨?_,fun _ h=>by cases h⟩⟩;refine g8 rfl ?_ (fun K hK=> ?_)
    ·exact zg
    (try simp only [zz1,zz2,zz3]);simp only [crA,ov];go_simp;refine (a2R y).mono ?_;rintro e y' hp;obtain ⟨b,oy',rfl,hst',aD⟩:=hst.s9 h2 hlt hp;refine hK _ _ (fun _ _=>trivial) ⟨(some b8),(some b),(some b10),(some b11),0,oy',by simp [crN];omega,(fun h=>by first|rfl|cases h),zo,(fun h=>absurd h zo),rfl,rfl,hst',aD.md.heap hrow (fun e=> ?_),by rw [aD.old g hgl];exact htag⟩;have e':oy g=c+5+j:=e;omega
   ·obtain rfl:d=0:=by
     by_cases h:0<d
     ·obtain ⟨k9,k10,k11⟩:=hd0 h
      first|exact absurd k9 zd|exact absurd k10 zd|exact absurd k11 zd
     omega
    have hn1:n+1=5:=by simp [crN] at hn;omega
    refine ⟨[4,5],zk,zd,List.forall_mem_cons.2 ⟨?_,List.forall_mem_cons.2 ⟨?_,fun _ h=>by cases h⟩⟩⟩
    ·refine g8 rfl ?_ (fun K hK=> ?_)
     ·exact zg
     (try simp only [zz1,zz2,zz3]);simp only [crA,ov];go_simp;obtain ⟨oy',hst',aD⟩:=hst.s10 h2 hlt;refine hK _ _ (fun _ _=>trivial) ⟨(some b8),(some b9),(some y.heap.size),none,0,oy',by simp [crN];omega,(fun h=>by first|rfl|cases h),zo,(fun h=>absurd h zo),rfl,rfl,hst',aD.md.heap hrow (fun e=> ?_),by rw [aD.old g hgl];exact htag⟩;have e':oy g=c+9+j:=e;omega
    refine g8 rfl ?_ (fun K hK=> ?_)
    ·exact zg
    (try simp only [zz1,zz2,zz3]);simp only [crA,ov];go_simp;obtain ⟨oy',hst',aD⟩:=hst.s11 h2 hlt;refine hK _ _ (fun _ _=>trivial) ⟨(some b8),(some b9),none,(some y.heap.size),0,oy',by simp [crN];omega,(fun h=>by first|rfl|cases h),zo,(fun h=>absurd h zo),rfl,rfl,hst',aD.md.heap hrow (fun e=> ?_),by rw [aD.old g hgl];exact htag⟩;have e':oy g=c+13+j:=e;omega
   ·obtain rfl:d=0:=by
     by_cases h:0<d
     ·obtain ⟨k9,k10,k11⟩:=hd0 h
      first|exact absurd k9 zd|exact absurd k10 zd|exact absurd k11 zd
     omega
    have hn1:n+1=4:=by simp [crN] at hn;omega
    refine ⟨[4],zk,zd,List.forall_mem_cons.2 ⟨?_,fun _ h=>by cases h⟩⟩;refine g8 rfl ?_ (fun K hK=> ?_)
    ·exact zg
    (try simp only [zz1,zz2,zz3]);simp only [crA,ov];go_simp;obtain ⟨oy',hst',aD⟩:=hst.s10 h2 hlt;refine hK _ _ (fun _ _=>trivial) ⟨(some b8),(some b9),(some y.heap.size),(some b11),0,oy',by simp [crN];omega,(fun h=>by first|rfl|cases h),zo,(fun h=>absurd h zo),rfl,rfl,hst',aD.md.heap hrow (fun e=> ?_),by rw [aD.old g hgl];exact htag⟩;have e':oy g=c+9+j:=e;omega
   ·obtain rfl:d=0:=by
     by_cases h:0<d
     ·obtain ⟨k9,k10,k11⟩:=hd0 h
      first|exact absurd k9 zd|exact absurd k10 zd|exact absurd k11 zd
     omega
    have hn1:n+1=4:=by simp [crN] at hn;omega
    refine ⟨[5],zk,zd,List.forall_mem_cons.2 ⟨?_,fun _ h=>by cases h⟩⟩;refine g8 rfl ?_ (fun K hK=> ?_)
    ·exact zg
    (try simp only [zz1,zz2,zz3]);simp only [crA,ov];go_simp;obtain ⟨oy',hst',aD⟩:=hst.s11 h2 hlt;refine hK _ _ (fun _ _=>trivial) ⟨(some b8),(some b9),(some b10),(some y.heap.size),0,oy',by simp [crN];omega,(fun h=>by first|rfl|cases h),zo,(fun h=>absurd h zo),rfl,rfl,hst',aD.md.heap hrow (fun e=> ?_),by rw [aD.old g hgl];exact htag⟩;have e':oy g=c+13+j:=e;omega
   have hd:d=0\/d=1\/d=2:=by simp [crN] at hn;omega
   rcases hd with rfl|rfl|rfl
   ·have hn1:n+1=3:=by simp [crN] at hn;omega
    refine ⟨[6],zk,zd,List.forall_mem_cons.2 ⟨?_,fun _ h=>by cases h⟩⟩;refine g8 rfl ?_ (fun K hK=> ?_)
    ·exact zg
    (try simp only [zz1,zz2,zz3]);simp only [crA,ov];go_simp;refine hK _ _ (fun _ _=>trivial) ⟨some b8,some b9,some b10,some b11,1,oy,by simp [crN];omega,(fun _=>rfl),zo,(fun _=>⟨rfl,rfl,rfl⟩),rfl, ?_,hst,hrow,htag⟩
    first|rfl|(rw [show 3+j*4=3+4*j by omega];rfl)
   ·have hn1:n+1=2:=by simp [crN] at hn;omega
    refine ⟨[9],zk,zd,List.forall_mem_cons.2 ⟨?_,fun _ h=>by cases h⟩⟩;refine g8 rfl ?_ (fun K hK=> ?_)
    ·exact zg
    (try simp only [zz1,zz2,zz3]);simp only [crA,ov];go_simp;refine hK _ _ (fun _ _=>trivial) ⟨some b8,some b9,some b10,some b11,2,oy,by simp [crN];omega,(fun _=>rfl),zo,(fun _=>⟨rfl,rfl,rfl⟩),rfl, ?_,hst,hrow,htag⟩
    first|rfl|(rw [show 3+j*4=3+4*j by omega];rfl)
   have hn1:n+1=1:=by simp [crN] at hn;omega
   refine ⟨[10],zk,zd,List.forall_mem_cons.2 ⟨?_,fun _ h=>by cases h⟩⟩;refine g8 rfl ?_ (fun K hK=> ?_)
   ·exact zg
   (try simp only [zz1,zz2,zz3]);simp only [crA,ov];have hrl:row.length=19:=Hrl.out;have vB:y.heap[g]? =some (.cells row.toArray 118 (0,0)):=hrow;refine a5E 115 (.tmp 15) (.tmp 12) rfl g (3+4*j) rfl _ _ vB [ptr b8,ptr b9,O7 b10,O7 b11] rfl (by simp [hrl];omega) zk (fun u hu=>zz15 (show [ptr b8,ptr b9,O7 b10,O7 b11].all (·.oneCell')=true from rfl) u hu) ?_;obtain ⟨y',hy'⟩:∃q,y.setRow g (row.toArray.toList.take (3+4*j)++[ptr b8,ptr b9,O7 b10,O7 b11]++row.toArray.toList.drop (3+4*j+4)).toArray=q:=⟨_,rfl⟩;have hg':y'.heap[g]? =some (.cells (row.take (3+4*j)++[ptr b8,ptr b9,O7 b10,O7 b11]++row.drop (3+4*j+4)).toArray 118 (0,0)):=hy'▸setRow_heap y g _ _ _ (0,0) vB;have hm':Mod (fun k=>k=g) y y':=hy'▸(Mod.refl (fun k=>k=g) y).setRow (fun _=>rfl) _;have aD:Mov (fun t=>t=c) y oy y' oy:=Mov.wrote hst.o hm' (fun k hk=>by have hk':k=g:=hk;rw [hk'];exact htag);obtain ⟨a1,a2,a3,a4,a5,a6⟩:=hst.keep aD h2 hlt (.inl rfl);refine hK _ _ (fun h=>absurd h zd) ?_;have hy2:y.setRow g (row.toArray.toList.take (3+4*j)++[ptr b8,ptr b9,O7 b10,O7 b11]++row.toArray.toList.drop (3+4*j+[ptr b8,ptr b9,O7 b10,O7 b11].length)).toArray=y':=hy';rw [hy2];exact ⟨some b8,some b9,some b10,some b11,3,oy,by simp [crN];omega,(fun _=>rfl),zo,(fun _=>⟨rfl,rfl,rfl⟩),rfl,rfl,⟨a1,a2,a3 zo,a4 zo,a5 zo,a6 zo⟩,hg',htag⟩
  obtain rfl:j=4:=zo
  have mq:M0 wr owr c g id near ⟨L.map Prod.fst,fun _=>RS.zero⟩ ⟨v,nv,tb,ib,sb,mb⟩:=by
   refine ⟨h2,⟨L,⟨?_,htr,hlr⟩,rfl⟩,by have:=hnr;rw [zz10] at this;exact this,fun t ht=>(hall t ht).2.2.2.2⟩;rw [<-b5O hR (fun t ht=>⟨(hall t ht).1,(hall t ht).2.1,(hall t ht).2.2.1,(hall t ht).2.2.2.1⟩) v nv id];exact hrr
  refine hh3 mq hmr hor fun H9 aL yK=> ?_;clear mq hmr hor hlr hnr hall hrr
  go_wp2
  go_end0
  exact ⟨rfl,owr,yK.out,⟨_,H9.out⟩,aL.out⟩
theorem a4H {w:World} {B sz n:Nat} {e:TypeId} {v:Value} {xs:List Value} (h:w.ownsRow B e sz v n xs):g7 w e sz v n xs/\∀k,v.ownBlock=some k->B<=k:=by
 obtain ⟨h1,h2⟩:=h;rcases h2 with ⟨rfl,h⟩|⟨g,cap,cur,rfl,h2,h3,h4,h5,h6,h7⟩
 ·exact ⟨⟨h1,.inl ⟨rfl,h⟩⟩,fun k hk=>by cases hk⟩
 exact ⟨⟨h1,.inr ⟨g,0,cap,cur,rfl,h3,h4,h5,zo,by simpa using h7⟩⟩,fun k hk=>by cases hk;exact h2⟩
theorem a4I {w w':World} (h:Below w.heap.size w w'):Mod (fun _=>False) w w':=⟨h.os,h.tape,h.output,h.size,fun k hk _=>h.block k hk⟩
def a95 (w:World) (l:List Int) (e:Ending) (w':World):Prop:=
 ∃v',e= .returned v'/\g7 w' 3 1 v' l.length (l.map (Value.int .i64))/\(∀k,v'.ownBlock=some k->w.heap.size<=k)/\Mod (fun _=>False) w w'
theorem b2c (w:World) (v:Value) (l:List Int) (h:i8 w 1 v l.length (l.map (Value.int .i64))) (hl:l.length<=1000000):Calls Tryz.prog 41 #[v] w (a95 w l):=by
 obtain ⟨h1,a,cap,rfl,h3,h4,h5⟩:=h
 cases a with
 |none=>
  obtain rfl:l=[]:=List.eq_nil_of_length_eq_zero (h4 rfl);refine (Tryz.slices_Clone_int_nil 0 cap w).mono fun e w' h=> ?_;obtain ⟨rfl,rfl⟩:=h;exact ⟨_,rfl,g7.nil _ _ _,(fun k hk=>by cases hk),Mod.refl _ _⟩
 | some b=>
  by_cases hp:0<l.length
  ·obtain ⟨g,off,rfl,h6⟩:=h5 b rfl hp;refine (Tryz.slices_Clone_int g off l.length cap l w (Nat.le_refl _) zo (fun j hj=> ?_)).mono fun e w' h=> ?_
   ·refine h6 j _ ?_;rw [List.getElem?_map,zz5 hj];simp [List.getD,hj]
   obtain ⟨v',rfl,h1, -,h3⟩:=h;rw [List.take_length] at h1;obtain ⟨h7,h8⟩:=a4H h1;exact ⟨v',rfl,h7,h8,a4I h3⟩
  obtain rfl:l=[]:=List.eq_nil_of_length_eq_zero zo;refine (Tryz.slices_Clone_int_zero b cap w).mono fun e w' h=> ?_;obtain ⟨v',rfl,h1, -,h3⟩:=h;obtain ⟨h7,h8⟩:=a4H h1;exact ⟨v',rfl,h7,h8,a4I h3⟩
def b2d (w0 w:World) (ow:Ow) (c:Nat) (id:Int) (near:List Int) (e:Ending) (w':World):Prop:=
 ∃g ow',e= .returned (.pointer (some ⟨g,0,none⟩))/\Owd w0 w' ow'/\Bro w' ow' c g id near ⟨[],fun _=>RS.zero⟩/\Mov (fun t=>c<=t/\t<c+18) w ow w' ow'
def b5l:List Value:=[.pointer none,.pointer none,.map none,.map none,.pointer none,.pointer none,.map none,.map none,.pointer none,.pointer none,.map none,.map none,.pointer none,.pointer none,.map none,.map none]
theorem a2V (w0 w:World) (ow:Ow) (c:Nat) (hw:Owd w0 w ow) (h2:2<=c) (id:Int) (nv0:Value) (near:List Int) (hn:i8 w 1 nv0 near.length (near.map (Value.int .i64))) (hnl:near.length<=1000):
 Calls Tryz.prog 31 #[.int .i64 id,nv0] w (b2d w0 w ow c id near):=by
 have hcl:=b2c w nv0 near hn zo;obtain ⟨a0,c0,rfl, -⟩:∃a c,nv0= .slice a near.length c/\True:=by obtain ⟨-,a,c,h, -⟩:=hn;exact ⟨a,c,h,trivial⟩
 refine hh3 hcl hw hn fun dO Hw Hn=> ?_;clear hcl hw hn
 go_enter Tryz.func31,Tryz.ntmps31
 go_wp2_with fail
 refine dO.out.mono ?_;rintro e w1 ⟨nv,rfl,hno,hnb,hm1⟩;obtain ⟨na,nc,rfl, -⟩:=hno.shape;obtain ⟨wa,ak,ae,aa,ah⟩:=g6 w1 (.cells (.slice none 0 0:: .int .i64 id:: .slice na near.length nc::b5l).toArray 118);have dR:w1.alloc (.cells #[.slice none 0 0,.int .i64 id,.slice na near.length nc,.pointer none,.pointer none,.map none,.map none,.pointer none,.pointer none,.map none,.map none,.pointer none,.pointer none,.map none,.map none,.pointer none,.pointer none,.map none,.map none] 118)=wa:=ak;have hs1:Mov (fun t=>c<=t/\t<c+18) w ow w1 ow:=Mov.of Hw.out hm1 _;have ho1:=hs1.owd Hw.out zo;have hsa:Mov (fun t=>c<=t/\t<c+18) w1 ow wa (Q0 ow w1.heap.size c):=ak▸Mov.alloc ho1 _ c (.inr (.inr ⟨Nat.le_refl _,zo⟩));have hoa:=hsa.owd ho1 zo;have hnz:∀b,(Value.slice na near.length nc).ownBlock=some b->b<w1.heap.size:=hno.lt
 have hcon:q6 wa (Q0 ow w1.heap.size c) 1 (.slice na near.length nc) near.length (near.map (Value.int .i64)):=by
  refine ⟨(hno.mod ae zi).rd,fun _ b hb=> ?_⟩;rw [a0U _ _ (by have:=hnz b hb;omega)];exact Hw.out.zero (hnb b hb)
 have hcr:=b2b w0 wa (Q0 ow w1.heap.size c) c w1.heap.size id near hoa h2 (.slice none 0 0) (.slice na near.length nc) [] b5l rfl aa (C7 _ _ _) ⟨g7.nil _ _ _,fun b hb=>(by cases hb),fun x hx=>(by cases hx)⟩ hcon;have hs:=hs1.trans hsa;refine hh3 dR hcr hs fun gX iP Hs=> ?_;clear dR hcr hs hno hnb hm1 aa ae ah ak hs1 ho1 hsa hoa hnz hcon
 go_wp2_with (rw [show w1.alloc _=wa from gX.out])
 refine iP.out.mono ?_;rintro e w2 ⟨rfl,ow2,ho2,hb2,hm2⟩;have hs2:=Hs.out.trans hm2;refine hh3 ho2 hb2 hs2 fun Ai Hb2 nH=> ?_;clear ho2 hb2 hs2 hm2
 go_wp2_with fail
 go_ret;exact ⟨w1.heap.size,ow2,rfl,Ai.out,Hb2.out,nH.out⟩
theorem a96 (w:World) (ow:Ow) (c g:Nat) (id:Int) (near:List Int) (B:BS) (h:Bro w ow c g id near B) (o:Value) (frm ten:Int) (x:Mv) (hk:x.m.kind≠0/\x.m.kind≠1/\x.m.kind≠2) (hv:(B.L.length:Int)<x.m.ver) (_hL:B.L.length<=40):
 Calls Tryz.prog 58 #[.pointer (some ⟨g,0,none⟩),o,.int .i64 frm,.int .i64 ten,.agg x.cells.toArray] w fun e w'=>e= .returned (.bool false)/\Mod (fun _=>False) w w':=by
 obtain ⟨a,h⟩:=h;obtain ⟨L,aQ,mh⟩:=h.log;have fG:L.length=B.L.length:=by rw [<-mh,zz10]
 obtain ⟨av,acap,kJ, -⟩:∃a' cc,a.v= .slice a' L.length cc/\L.length<=cc:=by obtain ⟨-,a,cc,h,h2, -⟩:=aQ.sl.sl.rd;exact ⟨a,cc,h,h2⟩
 rw [kJ,fG] at aQ;obtain ⟨k1,k2,k3⟩:=hk;obtain ⟨wa,ak,ae,aa,ah⟩:=g6 w (.cells x.cells.toArray 135);have m0:wa.cell? ⟨w.heap.size,0,none⟩=some (.int .i64 x.m.kind):=d6 aa rfl;have m14:wa.cell? ⟨w.heap.size,14,none⟩=some (.int .i64 x.m.ver):=d6 aa rfl;have hgg:=ae.heap aQ.row (fun h=>h);have hF:∀wx,Mod (fun _=>False) wa wx->wx.cell? ⟨w.heap.size,14,none⟩=some (.int .i64 x.m.ver)/\Mod (fun _=>False) w wx:=fun wx hx=>⟨hx.cell m14 (fun h=>h),ae.trans hx zi⟩;have hpl:∀wx,Mod (fun _=>False) wa wx->Calls Tryz.prog 13 #[.pointer (some ⟨g,0,none⟩)] wx fun e w'=>e= .returned (.int .i64 B.L.length)/\Mod (fun _=>False) wa w':=fun wx hx=>(R3 wx g av B.L.length acap (hx.cell (d6 hgg rfl) (fun h=>h))).mono fun e w' ⟨he,hm⟩=>⟨he,hm▸hx⟩;refine hh8 h aQ ak ae aa hgg hF hpl fun H jd aB ai aC KE HF Hpl=> ?_;clear h aQ ak ae aa hgg hF hpl ah mh fG kJ m14
 go_enter Tryz.func58,Tryz.ntmps58
 go_wp2_with (rw [show w.alloc _=wa from aB.out])
 refine g9 zk zk ?_
 iterate 7 (first
  | (refine j1 ?_ (fun K hK=> ?_)
     ·first|(go_simp;done)|(go_simp;simp [undef];done)
     go_simp;refine hK _ ?_;clear hK K)
  | (refine l9 ?_ ?_ (fun w' hw'=> ?_) (fun K hK=> ?_)
     ·first|(go_simp;done)|(go_simp;simp [undef];done)
     rotate_left
     ·obtain ⟨f0, -⟩:=HF.out w' hw';go_simp;rfl
     go_simp;refine hK _ ?_;clear hK K)
  | (refine q7 ?_ ?_ ?_ ?_ (fun w' hw'=> ?_) ?_ (fun K hK=> ?_)
     ·first|(go_simp;done)|(go_simp;simp [undef];done)
     rotate_left 3
     ·obtain ⟨f0, -⟩:=HF.out w' hw';go_simp;constructor<;>rfl
     ·first|with_reducible exact Hpl.out
     go_simp;refine hK _ ?_;clear hK K))
 refine j8 (fun w' hw'=> ?_);have hmx:=(HF.out w' hw').2;refine hh1 hmx fun nI=> ?_;clear hmx hw'
 go_wp2
 go_ret;exact ⟨rfl,nI.out⟩
end Go.Proofs.YtdmjoodhaeijmaaGreatDoor
