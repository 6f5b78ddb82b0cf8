/- Lemmas. -/
import Derived.Test.YtdmjoodhaeijmaaGreatDoorZn15
set_option maxHeartbeats 40000000
set_option maxRecDepth 20000
namespace Go.Proofs.YtdmjoodhaeijmaaGreatDoor
section
open Go.RowKit
structure F8 where
 kind:Int
 at_:Int
 rest:List Value
def F8.cells (m:F8):List Value:= .int .i64 m.kind:: .int .i64 m.at_::m.rest
def F8.ok (m:F8):Prop:=m.rest.length=15/\(∀u∈m.rest,u.oneCell'=true)
theorem F8.ok.len {m:F8} (h:m.ok):m.cells.length=17:=by simp [F8.cells,h.1]
theorem F8.ok.one {m:F8} (h:m.ok):∀u∈m.cells,u.oneCell'=true:=by
 intro u hu;simp only [F8.cells,List.mem_cons] at hu;rcases hu with rfl|rfl|hu
 ·rfl
 ·rfl
 exact h.2 u hu
def C4 (l:List F8):Nat:=(l.filter fun m=>m.kind==3).length
theorem a7z (l:List F8):C4 l<=l.length:=List.length_filter_le _ _
theorem a5h (l:List F8) (k:Nat) (h:k<l.length):C4 (l.take (k+1))=C4 (l.take k)+if l[k].kind=3 then 1 else 0:=by
 unfold C4;rw [List.take_succ_eq_append_getElem h,List.filter_append,zz4];by_cases hk:l[k].kind=3<;>simp [hk]
def J8 {α:Type} (f:α->List Value) (l:List α):List Value:=l.flatMap f
theorem a59 {α:Type} (f:α->List Value) (sz:Nat):∀(l:List α) (_:∀x∈l,(f x).length=sz) (k:Nat) (h:k<l.length) (j:Nat) (_:j<sz),(J8 f l)[k*sz+j]? =(f l[k])[j]?
 |[],_,k,h,_,_=>by simp at h
 |x::l,hl,0,_,j,hj=>by
  have h1:(f x).length=sz:=hl x (by simp);simp [J8,List.getElem?_append_left (show j<(f x).length by omega)]
 |x::l,hl,k+1,h,j,hj=>by
  have h1:(f x).length=sz:=hl x (by simp);have ih:=a59 f sz l (fun y hy=>hl y (by simp [hy])) k (by simpa using h) j hj;simp only [J8,List.flatMap_cons] at ih⊢;rw [List.getElem?_append_right (by rw [h1,Nat.add_mul];omega),h1,show (k+1)*sz+j - sz=k*sz+j by rw [Nat.add_mul];omega];simpa using ih
theorem a5i {α:Type} (f:α->List Value) (sz:Nat) (l:List α) (hl:∀x∈l,(f x).length=sz):(J8 f l).length=l.length*sz:=by
 induction l with
 |nil=>simp [J8]
 |cons x l ih=>
  have h1:(f x).length=sz:=hl x (by simp);have:=ih fun y hy=>hl y (by simp [hy]);simp only [J8,List.flatMap_cons,zz4,zz9] at this⊢;rw [this,h1,Nat.add_mul];omega
theorem i8.elem {α:Type} {w:World} {sz:Nat} {g off n cap:Nat} {f:α->List Value} {l:List α} (h:i8 w sz (.slice (some ⟨g,off,none⟩) n cap) n (J8 f l)) (hl:∀x∈l,(f x).length=sz) (k:Nat) (hk:k<l.length):
 d8 w g (off+k*sz) (f l[k]):=by
 intro j u hu
 have hj:j<sz:=by
  have:=(zz6 hu).1;rw [hl _ (List.getElem_mem hk)] at this;exact this
 have hn:n=l.length:=by
  have h1:=h.1;rw [a5i f sz l hl] at h1;exact (Nat.eq_of_mul_eq_mul_right zo h1).symm
 obtain ⟨_,a,c,hv,_,_,hc⟩:=h;cases hv
 obtain ⟨g',off',he,hc⟩:=hc _ rfl zo;cases he
 have:=hc (k*sz+j) u (by rw [a59 f sz l hl k hk j hj];exact hu);rwa [<-Nat.add_assoc] at this
theorem Y9:(match Tryz.prog.underlying 135 with|some (.struct _)=>true|some (.array _ _)=>true|_=>false)=true:=zk
theorem X3:(Tryz.prog.info? 135).map (·.size)=some 17:=zk
@[go_sem ↓] theorem b5c (dst:Option Tmp) (x:Operand) (type:TypeId) (pos:String) (after:Array Edge) (guard:Option (Nat×Bool)) (a:Act) (w:World) (K:Act->World->Prop) (Q:Exit->Act->World->Prop) (h:a4b w (a.eval x) 17):
 Oper.wp Tryz.prog ⟨dst,.load 135 x,type,pos,after,guard⟩ a w K Q=K (a.put dst (.agg (W7 w (a.eval x) 17))) w:=a2o Y9 X3 h
@[go_sem ↓] theorem b3Q (ρ:Operand->Value) (dst:Option Tmp) (x:Operand) (type:TypeId) (pos:String) (after:Array Edge) (guard:Option (Nat×Bool)) (w:World) (h:a4b w (ρ x) 17):
 Sem.run Tryz.prog (execOp ρ ⟨dst,.load 135 x,type,pos,after,guard⟩) w= .ok (.value (.agg (W7 w (ρ x) 17))) w:=L7 Y9 X3 h
theorem a7A (b g off n c:Nat) (l:List F8) (w:World) (h1:w.cell? ⟨b,1,none⟩=some (.slice (some ⟨g,off,none⟩) n c)) (hn:n=l.length) (hl:∀m∈l,m.ok)
 (hrd:i8 w 17 (.slice (some ⟨g,off,none⟩) n c) n (J8 F8.cells l)) (hsz:n<=maxLen):
 Calls Tryz.prog 305 #[.pointer (some ⟨b,0,none⟩)] w fun e w'=>e= .returned (.int .i64 (C4 l))/\Mod (fun _=>False) w w':=by
 unfold maxLen at hsz;have hel:=fun k hk=>hrd.elem (fun m hm=>(hl m hm).len) k hk;have QY:=Lib.hid hel;clear hel;have Hn:=Lib.hid hn;clear hn;have Hl:=Lib.hid hl;clear hl;clear hrd
 go_enter Tryz.func305,Tryz.ntmps305
 go_wp2
 go_loopw [3,11] (fun s i wr=>∃k:Nat,k<=n/\i= .int .i64 k/\s= .int .i64 (C4 (l.take k))/\Mod (fun _=>False) w wr) (fun _ i _=>n - (intOf i).toNat)
 case atStart=>exact ⟨0,Nat.zero_le _,rfl,rfl,Mod.refl _ _⟩
 case round=>
  obtain ⟨k,hk,rfl,rfl,hm⟩:=hrel;have hc:=a7z (l.take k);have hcl:(l.take k).length<=k:=List.length_take_le _ _;by_cases hlt:k<n
  ·have hkl:k<l.length:=by have:=Hn.out;omega
   have hcells:=(QY.out k hkl).mod hm (by simp);have uJ:=(Hl.out _ (List.getElem_mem hkl)).len;have hone:=(Hl.out _ (List.getElem_mem hkl)).one;have aI:=Lib.hid hone;clear hone;have Hlen:=Lib.hid uJ;clear uJ;have hk0:l[k].cells[0]? =some (Value.int .i64 l[k].kind):=rfl;have hsucc:=a5h l k hkl;by_cases hk3:l[k].kind=3
   ·have hb3:(l[k].kind==3)=true:=by simp [hk3]
    rw [if_pos hk3] at hsucc;have Hs:=Lib.hid hsucc;clear hsucc hk3
    go_wp2_with (first
     |(refine L6 rfl 135 _ rfl g (off+k*17) rfl l[k].cells hcells Y9 (by rw [Hlen.out];exact X3) ?_)
     |(refine C5 rfl 135 _ _ rfl rfl _ _ l[k].cells rfl (by rw [Hlen.out];rfl) (by rw [Hlen.out];exact X3) aI.out ?_))
    go_roundw
    case rel=>exact ⟨k+1,zo,by go_num,by rw [Hs.out];go_num,hm.alloc _⟩
    case measure=>simp [intOf];omega
   have hb3:(l[k].kind==3)=false:=by simp [hk3]
   rw [if_neg hk3] at hsucc;have Hs:=Lib.hid hsucc;clear hsucc hk3
   go_wp2_with (first
    |(refine L6 rfl 135 _ rfl g (off+k*17) rfl l[k].cells hcells Y9 (by rw [Hlen.out];exact X3) ?_)
    |(refine C5 rfl 135 _ _ rfl rfl _ _ l[k].cells rfl (by rw [Hlen.out];rfl) (by rw [Hlen.out];exact X3) aI.out ?_))
   go_roundw
   case rel=>exact ⟨k+1,zo,by go_num,by rw [Hs.out];go_num,hm.alloc _⟩
   case measure=>simp [intOf];omega
  go_wp2
  go_ret;have:k=l.length:=by have:=Hn.out;omega
  subst this;exact ⟨by simp,hm⟩
theorem a2m (b c:Nat) (a:Option Addr) (w:World) (h1:w.cell? ⟨b,1,none⟩=some (.slice a 0 c)):
 Calls Tryz.prog 305 #[.pointer (some ⟨b,0,none⟩)] w fun e w'=>e= .returned (.int .i64 0)/\w=w':=by
 go_enter Tryz.func305,Tryz.ntmps305
 go_wp2
 go_rounds 1
 go_ret;exact ⟨rfl,rfl⟩
structure LPk where
 epoch:Nat
 seq:Nat
 msg:F8
def LPk.cells (p:LPk):List Value:= .int .i64 p.epoch:: .int .i64 p.seq::p.msg.cells
theorem LPk.len {p:LPk} (h:p.msg.ok):p.cells.length=19:=by simp [LPk.cells,h.len]
structure a3r where
 epoch:Nat
 seq:Nat
def a3r.cells (p:a3r):List Value:=[.int .i64 p.epoch,.int .i64 p.seq]
structure C2 where
 epoch:Nat
 out:List F8
 base:Nat
 flight:List LPk
 acks:List a3r
 want:Nat
 lost:Nat
def C2.ok (L:C2):Prop:=(∀m∈L.out,m.ok)/\(∀p∈L.flight,p.msg.ok)
structure P7 (w:World) (b:Nat) (F:Nat->Prop) (L:C2) (vo vf va:Value):Prop where
 row:w.heap[b]? =some (.cells #[.int .i64 L.epoch,vo,.int .i64 L.base,vf,va,.int .i64 L.want,.int .i64 L.lost] 89 (0,0))
 out:g7 w 135 17 vo L.out.length (J8 F8.cells L.out)
 flight:g7 w 162 19 vf L.flight.length (J8 LPk.cells L.flight)
 acks:g7 w 160 2 va L.acks.length (J8 a3r.cells L.acks)
 foot:∀k,F k↔k=b\/inBlock vo k\/inBlock vf k\/inBlock va k
 ok:L.ok
def m6 (w:World) (b:Nat) (F:Nat->Prop) (L:C2):Prop:=∃vo vf va,P7 w b F L vo vf va
section
variable {w w':World} {b:Nat} {F:Nat->Prop} {L:C2}
theorem P7.mod {G:Nat->Prop} {vo vf va:Value} (h:P7 w b F L vo vf va) (hm:Mod G w w') (hd:∀k,F k->¬G k):P7 w' b F L vo vf va:=
 ⟨hm.heap h.row (hd _ ((h.foot _).2 (.inl rfl))),h.out.mod hm fun _ hk=>hd _ ((h.foot _).2 (.inr (.inl hk))),h.flight.mod hm fun _ hk=>hd _ ((h.foot _).2 (.inr (.inr (.inl hk)))),
  h.acks.mod hm fun _ hk=>hd _ ((h.foot _).2 (.inr (.inr (.inr hk)))),h.foot,h.ok⟩
theorem m6.mod {G:Nat->Prop} (h:m6 w b F L) (hm:Mod G w w') (hd:∀k,F k->¬G k):m6 w' b F L:=by
 obtain ⟨vo,vf,va,h⟩:=h;exact ⟨vo,vf,va,h.mod hm hd⟩
theorem m6.lt (h:m6 w b F L):b<w.heap.size:=by
 obtain ⟨vo,vf,va,h⟩:=h;exact (zz7 h.row).1
theorem m6.elem (h:m6 w b F L):∀k,F k->∃cur e,w.heap[k]? =some (.cells cur e (0,0))/\(e=89\/e=135\/e=162\/e=160):=by
 obtain ⟨vo,vf,va,h⟩:=h;intro k hk;rcases (h.foot k).1 hk with rfl|hk|hk|hk
 ·exact ⟨_,_,h.row,.inl rfl⟩
 ·obtain ⟨c,hc⟩:=h.out.elem k hk;exact ⟨c,_,hc,.inr (.inl rfl)⟩
 ·obtain ⟨c,hc⟩:=h.flight.elem k hk;exact ⟨c,_,hc,.inr (.inr (.inl rfl))⟩
 obtain ⟨c,hc⟩:=h.acks.elem k hk;exact ⟨c,_,hc,.inr (.inr (.inr rfl))⟩
theorem g7.apart {e e':TypeId} {sz n sz' n':Nat} {v v':Value} {xs xs':List Value} (h:g7 w e sz v n xs) (h':g7 w e' sz' v' n' xs') (hne:e≠e'):∀k,inBlock v k->¬inBlock v' k:=by
 intro k hk hk';obtain ⟨cur,hc⟩:=h'.elem k hk';exact h.ne hc hne k hk rfl
end
theorem b1k:B7 Tryz.prog 85 135 17 232:=I8 zk zk
theorem a9r:B7 Tryz.prog 86 162 19 248:=I8 zk zk
theorem a5j:B7 Tryz.prog 87 160 2 16:=I8 zk zk
theorem a4w (b:Nat) (F:Nat->Prop) (L:C2) (w:World) (h:m6 w b F L):
 Calls Tryz.prog 305 #[.pointer (some ⟨b,0,none⟩)] w fun e w'=>e= .returned (.int .i64 (C4 L.out))/\Mod (fun _=>False) w w':=by
 obtain ⟨vo,vf,va,h1,h2,h3,h4,h5,h6⟩:=h;have hrd:=h2.rd;have hle:=h2.le;obtain ⟨hl,a,cap,rfl,hc,hn,_⟩:=hrd;have hc1:w.cell? ⟨b,1,none⟩=some (.slice a L.out.length cap):=by rw [cell_of_row w b 1 _ _ _ h1];rfl
 cases a with
 |none=>
  have h0:=hn rfl;have e0:L.out=[]:=List.eq_nil_of_length_eq_zero h0;rw [h0] at hc1;refine (a2m b cap none w hc1).mono fun e w' ⟨he,hw⟩=>⟨?_,hw▸Mod.refl _ _⟩;rw [he,e0];rfl
 | some ad=>
  obtain ⟨_,a2,cap2,hv,_,_,hcc⟩:=h2.rd;cases hv
  by_cases hz:L.out.length=0
  ·rw [hz] at hc1;refine (a2m b cap (some ad) w hc1).mono fun e w' ⟨he,hw⟩=>⟨?_,hw▸Mod.refl _ _⟩;rw [he,List.eq_nil_of_length_eq_zero hz];rfl
  obtain ⟨g,off,he,_⟩:=hcc ad rfl zo;subst he;exact a7A b g off _ cap L.out w hc1 rfl h6.1 h2.rd hle
def p9 (w w':World) (b:Nat) (F:Nat->Prop) (L:C2):Prop:=∃F',m6 w' b F' L/\Mod F w w'/\∀k,F' k->F k\/w.heap.size<=k
theorem p9.mk {w w':World} {b:Nat} {F:Nat->Prop} {L:C2} {vo vf va:Value} (hb:F b)
 (row:w'.heap[b]? =some (.cells #[.int .i64 L.epoch,vo,.int .i64 L.base,vf,va,.int .i64 L.want,.int .i64 L.lost] 89 (0,0)))
 (out:g7 w' 135 17 vo L.out.length (J8 F8.cells L.out)) (flight:g7 w' 162 19 vf L.flight.length (J8 LPk.cells L.flight)) (acks:g7 w' 160 2 va L.acks.length (J8 a3r.cells L.acks))
 (ok:L.ok) (hm:Mod F w w') (h1:∀k,inBlock vo k->F k\/w.heap.size<=k) (h2:∀k,inBlock vf k->F k\/w.heap.size<=k) (h3:∀k,inBlock va k->F k\/w.heap.size<=k):p9 w w' b F L:=
 ⟨fun k=>k=b\/inBlock vo k\/inBlock vf k\/inBlock va k,⟨vo,vf,va,row,out,flight,acks,fun k=>Iff.rfl,ok⟩,hm,fun k hk=>by
  rcases hk with rfl|hk|hk|hk
  ·exact .inl hb
  ·exact h1 k hk
  ·exact h2 k hk
  ·exact h3 k hk⟩
theorem p9.from {w0 w w':World} {b:Nat} {F:Nat->Prop} {L:C2} (h:p9 w w' b F L) (hm:Mod (fun _=>False) w0 w):p9 w0 w' b F L:=by
 obtain ⟨F',h1,h2,h3⟩:=h;refine ⟨F',h1,(hm.mono (G:=F) (fun _ _ h=>h.elim)).trans h2 zi,fun k hk=> ?_⟩;rcases h3 k hk with h|h
 ·exact .inl h
 exact .inr (Nat.le_trans hm.size h)
theorem a9s {α:Type} (f:α->List Value) (l:List α) (x:α):J8 f l++f x=J8 f (l++[x]):=by simp [J8]
theorem P7.pushed {w w0 w2:World} {b:Nat} {F:Nat->Prop} {L:C2} {vo vf va:Value} {m:F8} {ad:Option Addr} {cap:Nat} (h:P7 w b F L vo vf va) (h0:Mod (fun _=>False) w w0) (hm:m.ok)
 (hA:B9 w0 135 17 vo (L.out.length+1) (J8 F8.cells L.out++m.cells) (.slice ad (L.out.length+1) cap) w2):
 p9 w (w2.setCell ⟨b,1,none⟩ (.slice ad (L.out.length+1) cap)) b F {L with out:=L.out++[m]}:=by
 have hF:=fun k=>(h.foot k).2;have i0:=h.mod h0 (by simp);have hsz:w.heap.size<=w0.heap.size:=h0.size;obtain ⟨a1,a2,a3⟩:=hA;have nob:¬inBlock vo b:=fun hi=>i0.out.ne i0.row zd b hi rfl;have r2:=a2.heap i0.row nob;have of2:=i0.flight.mod a2 (i0.flight.apart i0.out zd);have oa2:=i0.acks.mod a2 (i0.acks.apart i0.out zd);have hle:Mod F w w2:=(h0.mono (G:=F) (fun _ _ h=>h.elim)).trans a2 fun k _ hk=>hF k (.inr (.inl hk));refine p9.mk (vo:= .slice ad (L.out.length+1) cap) (vf:=vf) (va:=va) (hF b (.inl rfl)) ?_ ?_ ?_ ?_ ⟨fun x hx=> ?_,h.ok.2⟩ (hle.setCell (fun _=>hF b (.inl rfl)) _) (fun k hk=> ?_) (fun k hk=> .inl (hF k (.inr (.inr (.inl hk))))) (fun k hk=> .inl (hF k (.inr (.inr (.inr hk)))))
 ·exact j6 r2
 ·have:=a1.setCell (a:=⟨b,1,none⟩) (fun hi=>a1.ne r2 zd b hi rfl) (.slice ad (L.out.length+1) cap);rw [a9s] at this;simpa using this
 ·exact of2.setCell (fun hi=>of2.ne r2 zd b hi rfl) _
 ·exact oa2.setCell (fun hi=>oa2.ne r2 zd b hi rfl) _
 ·rcases zz14 hx with hx|hx
  ·exact h.ok.1 x hx
  simp at hx;subst hx;exact hm
 rcases a3 with a3|⟨j,hj,hjs⟩
 ·exact .inl (hF k (.inr (.inl (by unfold inBlock at hk⊢;rw [<-a3];exact hk))))
 unfold inBlock at hk;rw [hj] at hk;cases hk;exact .inr zo
theorem a7B (b:Nat) (F:Nat->Prop) (L:C2) (m:F8) (w:World) (h:m6 w b F L) (hm:m.ok) (hk3:m.kind=3) (hev:C4 L.out<6) (hlen:L.out.length<=400000000000):
 Calls Tryz.prog 304 #[.pointer (some ⟨b,0,none⟩),.agg m.cells.toArray] w fun e w'=>e= .returned (.bool true)/\p9 w w' b F {L with out:=L.out++[m]}:=by
 have hk0:m.cells[0]? =some (Value.int .i64 m.kind):=rfl;have hbw:=h.lt;have hb3:(m.kind==3)=true:=by simp [hk3]
 have Hk:=Lib.hid hk3;clear hk3
 go_enter Tryz.func304,Tryz.ntmps304
 go_wp2_with fail
 refine (a4w b F L _ ?h).mono ?_
 case h=>exact h.mod ((Mod.refl (fun _=>False) w).alloc _) (by simp)
 rintro e w1 ⟨rfl,hm1⟩;have hmw:Mod (fun _=>False) w w1:=((Mod.refl (fun _=>False) w).alloc _).trans hm1 (by simp);have hL1:=h.mod hmw (by simp);have nQ:w1.heap[w.heap.size]? =some (.cells m.cells.toArray 135 (0,0)):=hm1.heap (heap_alloc_new w _) (by simp);obtain ⟨vo,vf,va,hL⟩:=hL1;have h1:=hL.row;have dw:=hm.len;have lu:d8 w1 w.heap.size 0 m.cells:=by simpa using d8.row nQ
 have HX:=lu.all dw;have HY:=lu.is dw;clear lu;have c1:w1.cell? ⟨b,1,none⟩=some vo:=d6 h1 rfl;have f1:w1.frozen? ⟨b,1,none⟩=false:=r9 h1;have BA:Hid (∀k,k=b->¬inBlock vo k):=Lib.hid fun k hk hi=>hL.out.ne h1 zd k hi hk;have rY:b<w1.heap.size:=zz13 hbw hmw.size;have nR:=zh hlen;have HF:∀A:Array Value,A.size=17->List.foldl (fun cs x=>cs.setIfInBounds x.snd x.fst) A m.cells.zipIdx=m.cells.toArray:=fun A hA=>a1f _ A (by rw [hA,dw]);have aI:=Lib.hid hm.one;obtain ⟨H1,HL,rZ⟩:=zh3 h1 hL hmw;clear hL hlen h hk0 nQ hmw h1
 go_wp2_with fail
 go_region_law ((refine a0w rfl (.tmp 24) (.tmp 26) 85 rfl 135 17 232 b1k vo L.out.length (J8 F8.cells L.out) rfl ((HL.out.out.alloc _).drew) (.slice (some ⟨w1.heap.size,0,none⟩) 1 1) 1 m.cells rfl (i8.oneD w1 m.cells 135 dw) aI.out (by have:=nR.out;omega) (by have:=nR.out;unfold maxLen;omega) ?_;intro ad cap w2 hA;have hb2:=(hA.2.1.heap (k:=b) (o:=Obj.cells _ _ (0,0)) ((_root_.Go.heap_alloc_old _ _ rY).trans H1.out) (fun hi=>BA.out b rfl hi));have c2:w2.cell? ⟨b,1,none⟩=some vo:=d6 hb2 rfl;have f2:w2.frozen? ⟨b,1,none⟩=false:=r9 hb2;have lD:=Lib.hid hA;clear hA hb2))
 all_goals
  go_wp2
  go_ret;exact ⟨rfl,(HL.out.pushed (((Mod.refl _ _).alloc _).drew) hm lD.out).from rZ.out⟩
theorem a7C (b:Nat) (F:Nat->Prop) (L:C2) (m:F8) (w:World) (h:m6 w b F L) (hm:m.ok) (hk3:m.kind≠3) (hlen:L.out.length<=400000000000):
 Calls Tryz.prog 304 #[.pointer (some ⟨b,0,none⟩),.agg m.cells.toArray] w fun e w'=>e= .returned (.bool true)/\p9 w w' b F {L with out:=L.out++[m]}:=by
 have hk0:m.cells[0]? =some (Value.int .i64 m.kind):=rfl;have hbw:=h.lt;have hb3:(m.kind==3)=false:=by simp [hk3]
 have Hk:=Lib.hid hk3;clear hk3
 go_enter Tryz.func304,Tryz.ntmps304
 obtain ⟨w1,hw1⟩:∃w1:World,w1=w.alloc (.cells m.cells.toArray 135):=⟨_,rfl⟩;have hmw:Mod (fun _=>False) w w1:=hw1▸(Mod.refl (fun _=>False) w).alloc _;have nQ:w1.heap[w.heap.size]? =some (.cells m.cells.toArray 135 (0,0)):=hw1▸heap_alloc_new w _;have gW:=Lib.hid hw1;clear hw1;have hL1:=h.mod hmw (by simp)
 go_wp2_with fail
 rw [<-gW.out];obtain ⟨vo,vf,va,hL⟩:=hL1;have h1:=hL.row;have dw:=hm.len;have lu:d8 w1 w.heap.size 0 m.cells:=by simpa using d8.row nQ
 have HX:=lu.all dw;have HY:=lu.is dw;clear lu;have c1:w1.cell? ⟨b,1,none⟩=some vo:=d6 h1 rfl;have f1:w1.frozen? ⟨b,1,none⟩=false:=r9 h1;have BA:Hid (∀k,k=b->¬inBlock vo k):=Lib.hid fun k hk hi=>hL.out.ne h1 zd k hi hk;have rY:b<w1.heap.size:=zz13 hbw hmw.size;have nR:=zh hlen;have HF:∀A:Array Value,A.size=17->List.foldl (fun cs x=>cs.setIfInBounds x.snd x.fst) A m.cells.zipIdx=m.cells.toArray:=fun A hA=>a1f _ A (by rw [hA,dw]);have aI:=Lib.hid hm.one;obtain ⟨H1,HL,rZ⟩:=zh3 h1 hL hmw;clear hL hlen h hk0 nQ hmw h1
 go_wp2_with fail
 go_region_law ((refine a0w rfl (.tmp 24) (.tmp 26) 85 rfl 135 17 232 b1k vo L.out.length (J8 F8.cells L.out) rfl ((HL.out.out.alloc _).drew) (.slice (some ⟨w1.heap.size,0,none⟩) 1 1) 1 m.cells rfl (i8.oneD w1 m.cells 135 dw) aI.out (by have:=nR.out;omega) (by have:=nR.out;unfold maxLen;omega) ?_;intro ad cap w2 hA;have hb2:=(hA.2.1.heap (k:=b) (o:=Obj.cells _ _ (0,0)) ((_root_.Go.heap_alloc_old _ _ rY).trans H1.out) (fun hi=>BA.out b rfl hi));have c2:w2.cell? ⟨b,1,none⟩=some vo:=d6 hb2 rfl;have f2:w2.frozen? ⟨b,1,none⟩=false:=r9 hb2;have lD:=Lib.hid hA;clear hA hb2))
 all_goals
  go_wp2
  go_ret;exact ⟨rfl,(HL.out.pushed (((Mod.refl _ _).alloc _).drew) hm lD.out).from rZ.out⟩
theorem b3R (b:Nat) (F:Nat->Prop) (L:C2) (m:F8) (w:World) (h:m6 w b F L) (hm:m.ok) (hroom:m.kind≠3\/C4 L.out<6) (hlen:L.out.length<=400000000000):
 Calls Tryz.prog 304 #[.pointer (some ⟨b,0,none⟩),.agg m.cells.toArray] w fun e w'=>e= .returned (.bool true)/\p9 w w' b F {L with out:=L.out++[m]}:=by
 by_cases hk3:m.kind=3
 ·exact a7B b F L m w h hm hk3 zo hlen
 exact a7C b F L m w h hm hk3 hlen
theorem a9t (b:Nat) (F:Nat->Prop) (L:C2) (m:F8) (w:World) (h:m6 w b F L) (hk3:m.kind=3) (hfull:6<=C4 L.out) (NN:L.lost<=4611686018427387904):
 Calls Tryz.prog 304 #[.pointer (some ⟨b,0,none⟩),.agg m.cells.toArray] w fun e w'=>e= .returned (.bool false)/\p9 w w' b F {L with lost:=L.lost+1}:=by
 have hk0:m.cells[0]? =some (Value.int .i64 m.kind):=rfl;have hbw:=h.lt;have hb3:(m.kind==3)=true:=by simp [hk3]
 have Hk:=Lib.hid hk3;clear hk3
 go_enter Tryz.func304,Tryz.ntmps304
 go_wp2_with fail
 refine (a4w b F L _ ?h).mono ?_
 case h=>exact h.mod ((Mod.refl (fun _=>False) w).alloc _) (by simp)
 rintro e w1 ⟨rfl,hm1⟩;have hmw:Mod (fun _=>False) w w1:=((Mod.refl (fun _=>False) w).alloc _).trans hm1 (by simp);obtain ⟨vo,vf,va,hL1⟩:=h.mod hmw (by simp);have c1:w1.cell? ⟨b,6,none⟩=some (.int .i64 L.lost):=d6 hL1.row rfl;have f1:w1.frozen? ⟨b,6,none⟩=false:=r9 hL1.row;have HL:=Lib.hid hL1;clear hL1 h;have rZ:=Lib.hid hmw;clear hmw hm1
 go_wp2
 go_ret;refine ⟨rfl,p9.from ?_ rZ.out⟩;have h:=HL.out;have hF:=fun k=>(h.foot k).2
 refine p9.mk (vo:=vo) (vf:=vf) (va:=va) (hF b (.inl rfl)) ?_ (h.out.setCell (fun hi=>h.out.ne h.row zd b hi rfl) _) (h.flight.setCell (fun hi=>h.flight.ne h.row zd b hi rfl) _)
  (h.acks.setCell (fun hi=>h.acks.ne h.row zd b hi rfl) _) h.ok ((Mod.refl F w1).setCell (fun _=>hF b (.inl rfl)) _) (fun k hk=> .inl (hF k (.inr (.inl hk)))) (fun k hk=> .inl (hF k (.inr (.inr (.inl hk))))) (fun k hk=> .inl (hF k (.inr (.inr (.inr hk)))))
 exact j6 h.row
end
section
open Go.RowKit
theorem g7.head {w:World} {e:TypeId} {sz:Nat} {v:Value} {α:Type} {f:α->List Value} {x:α} {l:List α} (h:g7 w e sz v (x::l).length (J8 f (x::l))) (hx:(f x).length=sz):
 ∃g off cap,v= .slice (some ⟨g,off,none⟩) (l.length+1) cap/\1<=cap/\l.length+1<=cap/\d8 w g off (f x)/\g<w.heap.size/\
  ∃off',(cap=1/\l=[]/\off'=off\/¬cap=1/\off'=off+sz)/\g7 w e sz (.slice (some ⟨g,off',none⟩) l.length (cap - 1)) l.length (J8 f l):=by
 obtain ⟨a,cap,rfl,hn⟩:=h.shape;simp only [zz9] at h hn;obtain ⟨g,off,rfl,h1,ht⟩:=h.tail;have hd:(J8 f (x::l)).drop sz=J8 f l:=by simp [J8,<-hx]
 rw [hd] at ht;refine ⟨g,off,cap,rfl,h1,hn, ?_,h.lt g rfl,_, ?_,ht⟩
 case refine_2=>
  by_cases hc:cap=1
  ·exact .inl ⟨hc,List.eq_nil_of_length_eq_zero zo,by simp [hc]⟩
  exact .inr ⟨hc,by simp [hc]⟩
 intro j u hu;obtain ⟨_,a,c,hv,_,_,hc⟩:=h.rd;cases hv
 obtain ⟨g',off',he,hc⟩:=hc _ rfl (by first|omega|simp);cases he
 exact hc j u (by simp only [J8,List.flatMap_cons];rw [List.getElem?_append_left (zz6 hu).1];exact hu)
theorem P7.close {w w':World} {b:Nat} {F:Nat->Prop} {L L':C2} {vo vf va vo' vf' va':Value} (h:P7 w b F L vo vf va) (hm:Mod (fun k=>k=b) w w')
 (row:w'.heap[b]? =some (.cells #[.int .i64 L'.epoch,vo',.int .i64 L'.base,vf',va',.int .i64 L'.want,.int .i64 L'.lost] 89 (0,0)))
 (out:g7 w 135 17 vo' L'.out.length (J8 F8.cells L'.out)) (flight:g7 w 162 19 vf' L'.flight.length (J8 LPk.cells L'.flight)) (acks:g7 w 160 2 va' L'.acks.length (J8 a3r.cells L'.acks))
 (bo:∀k,inBlock vo' k->inBlock vo k) (bf:∀k,inBlock vf' k->inBlock vf k) (ba:∀k,inBlock va' k->inBlock va k) (ok:L'.ok):p9 w w' b F L':=by
 have hF:=fun k=>(h.foot k).2
 refine p9.mk (hF b (.inl rfl)) row (out.mod hm fun k hk=>out.ne h.row zd k hk) (flight.mod hm fun k hk=>flight.ne h.row zd k hk) (acks.mod hm fun k hk=>acks.ne h.row zd k hk) ok
  (hm.mono fun k _ hk=>hk▸hF b (.inl rfl)) (fun k hk=> .inl (hF k (.inr (.inl (bo k hk))))) (fun k hk=> .inl (hF k (.inr (.inr (.inl (bf k hk)))))) (fun k hk=> .inl (hF k (.inr (.inr (.inr (ba k hk))))))
theorem g7.none_of {w:World} {e:TypeId} {sz:Nat} {v:Value} {xs:List Value} (h:g7 w e sz v 0 xs):∃a cap,v= .slice a 0 cap:=by
 obtain ⟨a,cap,h,_⟩:=h.shape;exact ⟨a,cap,h⟩
theorem P7.sent {w w0 w2:World} {b:Nat} {F:Nat->Prop} {L:C2} {vo vf va:Value} {p:LPk} {ad:Option Addr} {cap:Nat} (h:P7 w b F L vo vf va) (h0:Mod (fun _=>False) w w0) (hp:p.msg.ok)
 (hA:B9 w0 162 19 vf 1 p.cells (.slice ad 1 cap) w2):
 p9 w (w2.setCell ⟨b,3,none⟩ (.slice ad 1 cap)) b F {L with flight:=[p]}:=by
 have hF:=fun k=>(h.foot k).2;have i0:=h.mod h0 (by simp);have hsz:w.heap.size<=w0.heap.size:=h0.size;obtain ⟨a1,a2,a3⟩:=hA;have r2:=a2.heap i0.row fun hi=>i0.flight.ne i0.row zd b hi rfl;have oo2:=i0.out.mod a2 (i0.out.apart i0.flight zd);have oa2:=i0.acks.mod a2 (i0.acks.apart i0.flight zd);have hle:Mod F w w2:=(h0.mono (G:=F) (fun _ _ h=>h.elim)).trans a2 fun k _ hk=>hF k (.inr (.inr (.inl hk)))
 refine p9.mk (vo:=vo) (vf:= .slice ad 1 cap) (va:=va) (hF b (.inl rfl)) (j6 r2) (oo2.setCell (fun hi=>oo2.ne r2 zd b hi rfl) _) ?_ (oa2.setCell (fun hi=>oa2.ne r2 zd b hi rfl) _) ⟨h.ok.1,fun x hx=> ?_⟩ (hle.setCell (fun _=>hF b (.inl rfl)) _)
  (fun k hk=> .inl (hF k (.inr (.inl hk)))) (fun k hk=> ?_) (fun k hk=> .inl (hF k (.inr (.inr (.inr hk)))))
 ·have:=a1.setCell (a:=⟨b,3,none⟩) (fun hi=>a1.ne r2 zd b hi rfl) (.slice ad 1 cap);simpa [J8] using this
 ·simp at hx;subst hx;exact hp
 rcases a3 with a3|⟨j,hj,hjs⟩
 ·exact .inl (hF k (.inr (.inr (.inl (by unfold inBlock at hk⊢;rw [<-a3];exact hk)))))
 unfold inBlock at hk;rw [hj] at hk;cases hk;exact .inr zo
theorem P7.acked {w w0 w2:World} {b:Nat} {F:Nat->Prop} {L:C2} {vo vf va vf':Value} {a:a3r} {ad:Option Addr} {cap want':Nat} (h:P7 w b F L vo vf va) (h0:Mod (fun k=>k=b) w w0)
 (row0:w0.heap[b]? =some (.cells #[.int .i64 L.epoch,vo,.int .i64 L.base,vf',va,.int .i64 want',.int .i64 L.lost] 89 (0,0))) (fl:g7 w 162 19 vf' 0 []) (bf:∀k,inBlock vf' k->inBlock vf k)
 (hA:B9 w0 160 2 va 1 a.cells (.slice ad 1 cap) w2):
 p9 w (w2.setCell ⟨b,4,none⟩ (.slice ad 1 cap)) b F {L with flight:=[],acks:=[a],want:=want'}:=by
 have hF:=fun k=>(h.foot k).2;have hsz:w.heap.size<=w0.heap.size:=h0.size;have o0:=h.out.mod h0 fun k hk=>h.out.ne h.row zd k hk;have f0:=fl.mod h0 fun k hk=>fl.ne h.row zd k hk;have k0:=h.acks.mod h0 fun k hk=>h.acks.ne h.row zd k hk;obtain ⟨a1,a2,a3⟩:=hA;have r2:=a2.heap row0 fun hi=>k0.ne row0 zd b hi rfl;have oo2:=o0.mod a2 (o0.apart k0 zd);have of2:=f0.mod a2 (f0.apart k0 zd);have hle:Mod F w w2:=(h0.mono (G:=F) (fun k _ hk=>hk▸hF b (.inl rfl))).trans a2 fun k _ hk=>hF k (.inr (.inr (.inr hk)))
 refine p9.mk (vo:=vo) (vf:=vf') (va:= .slice ad 1 cap) (hF b (.inl rfl)) (j6 r2) (oo2.setCell (fun hi=>oo2.ne r2 zd b hi rfl) _) (of2.setCell (fun hi=>of2.ne r2 zd b hi rfl) _) ?_ ⟨h.ok.1,fun x hx=>by simp at hx⟩ (hle.setCell (fun _=>hF b (.inl rfl)) _)
  (fun k hk=> .inl (hF k (.inr (.inl hk)))) (fun k hk=> .inl (hF k (.inr (.inr (.inl (bf k hk)))))) (fun k hk=> ?_)
 ·have:=a1.setCell (a:=⟨b,4,none⟩) (fun hi=>a1.ne r2 zd b hi rfl) (.slice ad 1 cap);simpa [J8] using this
 rcases a3 with a3|⟨j,hj,hjs⟩
 ·exact .inl (hF k (.inr (.inr (.inr (by unfold inBlock at hk⊢;rw [<-a3];exact hk)))))
 unfold inBlock at hk;rw [hj] at hk;cases hk;exact .inr zo
theorem b1l (b:Nat) (F:Nat->Prop) (L:C2) (a:a3r) (rest:List a3r) (tk:Value) (w:World) (h:m6 w b F L) (ha:L.acks=a::rest) (hb:L.base<=4611686018427387904) (m:F8) (outs:List F8) (ho:L.out=m::outs) (he:a.epoch=L.epoch) (hs:a.seq=L.base):
 Calls Tryz.prog 56 #[.pointer (some ⟨b,0,none⟩),tk] w fun e w'=>e= .returned (.bool true)/\p9 w w' b F {L with acks:=rest,out:=outs,base:=L.base+1}:=by
 obtain ⟨vo,vf,va,hL⟩:=h;have bT:=hL.acks;rw [ha] at bT;obtain ⟨g,off,cap,rfl,hc1,hcap,hcells,hgw,off',hoff,hown⟩:=bT.head rfl;have kw:=hL.out;rw [ho] at kw;have jD:m.ok:=hL.ok.1 m (by rw [ho];simp);obtain ⟨g2,off2,cap2,rfl,BB,hcap2,_,sj,off2',ky,hown2⟩:=kw.head jD.len;have k0:w.cell? ⟨g,off,none⟩=some (.int .i64 a.epoch):=hcells 0 _ rfl;have k1:w.cell? ⟨g,off+1,none⟩=some (.int .i64 a.seq):=hcells 1 _ rfl;have c0:w.cell? ⟨b,0,none⟩=some (.int .i64 L.epoch):=d6 hL.row rfl;have c1:w.cell? ⟨b,1,none⟩=some (.slice (some ⟨g2,off2,none⟩) (outs.length+1) cap2):=d6 hL.row rfl;have c2:w.cell? ⟨b,2,none⟩=some (.int .i64 L.base):=d6 hL.row rfl;have c4:w.cell? ⟨b,4,none⟩=some (.slice (some ⟨g,off,none⟩) (rest.length+1) cap):=d6 hL.row rfl;have fr:∀j,w.frozen? ⟨b,j,none⟩=false:=fun j=>r9 hL.row;have hbw:b<w.heap.size:=(zz7 hL.row).1;have hl1:(rest.length:Int)<=9223372036854775806:=by have:=bT.le;unfold maxLen at this;simp only [zz9] at this;omega
 have hl2:(outs.length:Int)<=9223372036854775806:=by have:=kw.le;unfold maxLen at this;simp only [zz9] at this;omega
 obtain ⟨HL,bA,gM,Ha,Ho⟩:=zh5 hL hown hown2 ha ho;clear hL hown bT hcells kw hown2 ha ho;rcases hoff with ⟨rfl,rfl,rfl⟩|⟨hne,rfl⟩<;>rcases ky with ⟨rfl,rfl,rfl⟩|⟨hne2,rfl⟩
 all_goals
  go_enter Tryz.func56,Tryz.ntmps56
  go_wp2_with fail
  go_quiet (fail)
  go_wp2_with fail
  go_region
  go_wp2
  go_ret;refine ⟨rfl,HL.out.close (vf':=vf) ?_ ?_ gM.out HL.out.flight bA.out (fun _ h=>h) (fun _ h=>h) (fun _ h=>h) ⟨fun x hx=>HL.out.ok.1 x (by rw [Ho.out];simp [hx]),HL.out.ok.2⟩⟩
  ·exact (((((Mod.refl (fun k=>k=b) w).setCell (fun _=>rfl) _).alloc _).drewN _).setCell (fun _=>rfl) _).setCell (fun _=>rfl) _
  exact j6 (j6 (J1 (j6 HL.out.row)))
theorem a9u (b:Nat) (F:Nat->Prop) (L:C2) (tk:Value) (w:World) (h:m6 w b F L) (ha:L.acks=[]) (hf:L.flight=[]) (ho:L.out=[]):
 Calls Tryz.prog 56 #[.pointer (some ⟨b,0,none⟩),tk] w fun e w'=>e= .returned (.bool false)/\w=w':=by
 obtain ⟨vo,vf,va,hL⟩:=h;have h1:=hL.acks;have h2:=hL.flight;have h3:=hL.out;rw [ha] at h1;rw [hf] at h2;rw [ho] at h3;obtain ⟨a1,p1,rfl⟩:=h1.none_of;obtain ⟨a2,p2,rfl⟩:=h2.none_of;obtain ⟨a3,p3,rfl⟩:=h3.none_of;have c1:w.cell? ⟨b,1,none⟩=some (.slice a3 0 p3):=d6 hL.row rfl;have c3:w.cell? ⟨b,3,none⟩=some (.slice a2 0 p2):=d6 hL.row rfl;have c4:w.cell? ⟨b,4,none⟩=some (.slice a1 0 p1):=d6 hL.row rfl;clear hL h1 h2 h3 ha hf ho
 go_enter Tryz.func56,Tryz.ntmps56
 go_wp2
 go_ret;exact ⟨rfl,rfl⟩
theorem a9v (b:Nat) (F:Nat->Prop) (L:C2) (tk:Value) (w:World) (h:m6 w b F L) (ha:L.acks=[]) (hf:L.flight=[]) (m:F8) (outs:List F8) (ho:L.out=m::outs):
 Calls Tryz.prog 56 #[.pointer (some ⟨b,0,none⟩),tk] w fun e w'=>e= .returned (.bool true)/\p9 w w' b F {L with flight:=[⟨L.epoch,L.base,m⟩]}:=by
 obtain ⟨vo,vf,va,hL⟩:=h;have jD:m.ok:=hL.ok.1 m (by rw [ho];simp);have h1:=hL.acks;have h2:=hL.flight;have h3:=hL.out;rw [ha] at h1;rw [hf] at h2;rw [ho] at h3;obtain ⟨a1,p1,rfl⟩:=h1.none_of;obtain ⟨a2,p2,rfl⟩:=h2.none_of;obtain ⟨g2,off2,cap2,rfl,BB,hcap2,hcells,sj,_⟩:=h3.head jD.len;have dw:=jD.len;have HX:=hcells.all dw;have HY:=hcells.is dw;have hl2:(outs.length:Int)<=9223372036854775806:=by have:=h3.le;unfold maxLen at this;simp only [zz9] at this;omega
 have c0:w.cell? ⟨b,0,none⟩=some (.int .i64 L.epoch):=d6 hL.row rfl;have c2:w.cell? ⟨b,2,none⟩=some (.int .i64 L.base):=d6 hL.row rfl;have c1:w.cell? ⟨b,1,none⟩=some (.slice (some ⟨g2,off2,none⟩) (outs.length+1) cap2):=d6 hL.row rfl;have c3:w.cell? ⟨b,3,none⟩=some (.slice a2 0 p2):=d6 hL.row rfl;have c4:w.cell? ⟨b,4,none⟩=some (.slice a1 0 p1):=d6 hL.row rfl;have fr:∀j,w.frozen? ⟨b,j,none⟩=false:=fun j=>r9 hL.row;have hbw:b<w.heap.size:=(zz7 hL.row).1;obtain ⟨p,hp⟩:∃p:LPk,p=⟨L.epoch,L.base,m⟩:=⟨_,rfl⟩;have hpl:p.cells.length=19:=LPk.len (p:=p) (by rw [hp];exact jD)
 have WH:∀z0 z1 z2 z3 z4 z5 z6 z7 z8 z9 z10 z11 z12 z13 z14 z15 z16:Value,List.foldl (fun cs x=>cs.setIfInBounds (2+x.snd) x.fst) #[Value.int .i64 L.epoch,Value.int .i64 L.base,z0,z1,z2,z3,z4,z5,z6,z7,z8,z9,z10,z11,z12,z13,z14,z15,z16] m.cells.zipIdx=p.cells.toArray:=by
  intros
  rw [a4c 2 m.cells _ (by simp [dw]),hp,dw];simp [LPk.cells]
 have HF:∀A:Array Value,A.size=19->List.foldl (fun cs x=>cs.setIfInBounds x.snd x.fst) A p.cells.zipIdx=p.cells.toArray:=fun A hA=>a1f _ A (by rw [hA,hpl])
 have hone:∀u∈p.cells,u.oneCell'=true:=by
  rw [hp];intro u hu;simp only [LPk.cells,List.mem_cons] at hu;rcases hu with rfl|rfl|hu
  ·rfl
  ·rfl
  exact jD.one u hu
 have hfl:=hL.flight;rw [hf] at hfl;have bQ:=zh hfl;have xB:Hid (¬inBlock (.slice a2 0 p2) b):=Lib.hid fun hi=>hL.flight.ne hL.row zd b hi rfl;obtain ⟨xC,aI,Hp,Ho,HL⟩:=zh5 hcells hone hp ho hL;clear hL h1 h2 h3 ha hf hcells ho hp hone hfl
 go_enter Tryz.func56,Tryz.ntmps56
 go_wp2_with fail
 refine G6 20 21 (fun x=>x.cell? ⟨b,0,none⟩=some (.int .i64 L.epoch)/\x.cell? ⟨b,2,none⟩=some (.int .i64 L.base)/\x.cell? ⟨b,1,none⟩=some (.slice (some ⟨g2,off2,none⟩) (outs.length+1) cap2)/\x.cell? ⟨b,3,none⟩=some (.slice a2 0 p2)/\d8 x g2 off2 m.cells)
  zk zk (fun _ _ d _ _ h=>(by cases d<;>exact h)) (fun w x h=>⟨A8 h.1 x,A8 h.2.1 x,A8 h.2.2.1 x,A8 h.2.2.2.1 x,h.2.2.2.2.old x⟩) ⟨c0,c2,c1,c3,xC.out⟩ ?_
 simp only [List.take_succ_cons,List.take_zero,List.drop_succ_cons,List.drop_zero]
 repeat
  refine O4 (v:= ?_) rfl (fun w0 h0=> ?_) ?_;rotate_left
  first
   |(have h1:=h0 rfl;clear h0;obtain ⟨s0,s2,s1,s3,s5⟩:=h1;have s6:=s5.all dw;have s7:=s5.is dw;clear s5;go_simp;with_reducible rfl)
   |(clear h0;go_simp;with_reducible rfl)
  simp only [Act.put,List.setIfInBounds_toArray,List.set_cons_zero,List.set_cons_succ]
 refine S7 ?_
 go_wp2_with ((refine t7 rfl (.tmp 149) (.tmp 165) 86 rfl 162 19 248 a9r (.slice a2 0 p2) 0 [] rfl ((bQ.out.alloc _).drew) _ 1 p.cells rfl (i8.oneD w p.cells 162 hpl) aI.out zd zd ?_;intro ad cap w2 hA;have hb2:=hA.2.1.heap (k:=b) (J1 (w:=w) HL.out.row) xB.out;have k3:w2.cell? ⟨b,3,none⟩=some (.slice a2 0 p2):=d6 hb2 rfl;have f3:w2.frozen? ⟨b,3,none⟩=false:=r9 hb2;have lD:=Lib.hid hA;clear hA hb2))
 go_ret;refine ⟨rfl, ?_⟩;have:=HL.out.sent (((Mod.refl _ _).alloc _).drew) (by rw [Hp.out];exact jD) lD.out;rw [Hp.out] at this;exact this
theorem a9w:(match Tryz.prog.underlying 162 with|some (.struct _)=>true|some (.array _ _)=>true|_=>false)=true:=zk
theorem a5k:(Tryz.prog.info? 162).map (·.size)=some 19:=zk
@[go_sem ↓] theorem b5C (dst:Option Tmp) (x:Operand) (type:TypeId) (pos:String) (after:Array Edge) (guard:Option (Nat×Bool)) (a:Act) (w:World) (K:Act->World->Prop) (Q:Exit->Act->World->Prop) (h:a4b w (a.eval x) 19):
 Oper.wp Tryz.prog ⟨dst,.load 162 x,type,pos,after,guard⟩ a w K Q=K (a.put dst (.agg (W7 w (a.eval x) 19))) w:=a2o a9w a5k h
theorem LPk.one {p:LPk} (h:p.msg.ok):∀u∈p.cells,u.oneCell'=true:=by
 intro u hu;simp only [LPk.cells,List.mem_cons] at hu;rcases hu with rfl|rfl|hu
 ·rfl
 ·rfl
 exact h.one u hu
theorem a9x (b:Nat) (F:Nat->Prop) (L:C2) (ft:Nat) (cap:Array Value) (w:World) (h:m6 w b F L) (ha:L.acks=[]) (p:LPk) (hf:L.flight=[p]) (he:p.epoch=L.epoch) (hs:p.seq=L.want) (hw:L.want<=4611686018427387904)
 (R:Bool->World->Prop) (hcf:∀(args:Array Value) (W:World),Sem.run Tryz.prog (callFunc ft args) W= .ok (.enter ft args) W) (ht:∀w1,m6 w1 b F L->Mod (fun _=>False) w w1->Calls Tryz.prog ft (#[.agg p.msg.cells.toArray]++cap) w1 fun e w2=>∃r,e= .returned (.bool r)/\m6 w2 b F L/\R r w2/\(∀(k:Nat),w.heap.size<=k->∀(c:Array Value),w1.heap[k]? =some (Obj.cells c 162 (0,0))->w2.heap[k]? =some (Obj.cells c 162 (0,0)))):
 Calls Tryz.prog 56 #[.pointer (some ⟨b,0,none⟩),.func (.func ft) #[] cap] w fun e w'=>
  (e= .returned (.bool false)/\m6 w' b F L/\R false w')\/
  (e= .returned (.bool true)/\∃w2,R true w2/\m6 w2 b F L/\p9 w2 w' b F {L with flight:=[],acks:=[⟨p.epoch,p.seq⟩],want:=L.want+1}):=by
 have hL1:=h;obtain ⟨vo,vf,va,hL⟩:=hL1;have jE:p.msg.ok:=hL.ok.2 p (by rw [hf];simp);have h1:=hL.acks;have h2:=hL.flight;rw [ha] at h1;rw [hf] at h2;obtain ⟨a1,p1,rfl⟩:=h1.none_of;have hpl:=LPk.len jE;have dw:=jE.len;obtain ⟨g,off,cp,rfl,hc1,hcap,hcells,hgw,off',hoff,hown⟩:=h2.head hpl;have HX:=hcells.all hpl;have HY:=hcells.is hpl;have c3:w.cell? ⟨b,3,none⟩=some (.slice (some ⟨g,off,none⟩) 1 cp):=d6 hL.row rfl;have c4:w.cell? ⟨b,4,none⟩=some (.slice a1 0 p1):=d6 hL.row rfl;have c0:w.cell? ⟨b,0,none⟩=some (.int .i64 L.epoch):=d6 hL.row rfl;have c5:w.cell? ⟨b,5,none⟩=some (.int .i64 L.want):=d6 hL.row rfl;have hbw:b<w.heap.size:=(zz7 hL.row).1;have q0:p.cells[0]? =some (.int .i64 p.epoch):=rfl;have q1:p.cells[1]? =some (.int .i64 p.seq):=rfl;obtain ⟨w1,hw1⟩:∃w1:World,w1=w.alloc (.cells p.cells.toArray 162):=⟨_,rfl⟩;have hm1:Mod (fun _=>False) w w1:=hw1▸(Mod.refl (fun _=>False) w).alloc _;have hbx:w1.heap[w.heap.size]? =some (.cells p.cells.toArray 162 (0,0)):=hw1▸heap_alloc_new w _;have hbc:d8 w1 w.heap.size 0 p.cells:=by simpa using d8.row hbx
 have b0:w1.cell? ⟨w.heap.size,0,none⟩=some (.int .i64 p.epoch):=hbc 0 _ rfl;have b1:w1.cell? ⟨w.heap.size,1,none⟩=some (.int .i64 p.seq):=hbc 1 _ rfl
 have uK:d8 w1 w.heap.size 2 p.msg.cells:=fun j u hu=>by
  have:=hbc (j+2) u (by simpa [LPk.cells] using hu);rwa [show 0+(j+2)=2+j by omega] at this
 have rq:=uK.all dw;have NP:=uK.is dw;have hL1:=h.mod hm1 (by simp);have d0:w1.cell? ⟨b,0,none⟩=some (.int .i64 L.epoch):=hm1.cell c0 (by simp);have d5:w1.cell? ⟨b,5,none⟩=some (.int .i64 L.want):=hm1.cell c5 (by simp);obtain ⟨gW,dn,QZ,Ra,NQ⟩:=zh5 hw1 hm1 hL1 hbc hbx;have aI:=Lib.hid (LPk.one jE);obtain ⟨HL,H,bA,BC,Rb,Ht,xz,nA⟩:=zh8 hL h hown hoff h2 ht ha hf;clear hL h1 h2 ha hf hcells hown hoff h ht hw1 hm1 hL1 hbc uK hbx
 go_enter Tryz.func56,Tryz.ntmps56
 go_wp2_with ((refine C5 rfl 162 _ _ rfl rfl _ _ p.cells rfl (by rw [hpl];rfl) (by rw [hpl];exact a5k) aI.out ?_))
 rw [<-gW.out]
 go_quiet (fail)
 go_wp2_with fail
 refine (Ht.out _ (QZ.out.mod ((Mod.refl (fun _=>False) w1).drewN nq) (by simp)) (dn.out.drewN nq)).mono ?_;rintro e w2 ⟨r,rfl,hL2,hR,hkp⟩;obtain ⟨vo2,vf2,va2,hI⟩:=hL2;have h1:=hI.acks;have h2:=hI.flight;rw [xz.out] at h1;rw [nA.out] at h2;obtain ⟨a2,p2,rfl⟩:=h1.none_of;obtain ⟨g2,off2,cp2,rfl,BB,hcap2, -,sj,off2',ky,hown2⟩:=h2.head hpl;have lF:w2.heap[w.heap.size]? =some (.cells p.cells.toArray 162 (0,0)):=hkp _ (Nat.le_refl _) _ NQ.out;have e0:w2.cell? ⟨w.heap.size,0,none⟩=some (.int .i64 p.epoch):=d6 lF (by simpa using q0);have e1:w2.cell? ⟨w.heap.size,1,none⟩=some (.int .i64 p.seq):=d6 lF (by simpa using q1);have j0:w2.cell? ⟨b,0,none⟩=some (.int .i64 L.epoch):=d6 hI.row rfl;have j3:w2.cell? ⟨b,3,none⟩=some (.slice (some ⟨g2,off2,none⟩) 1 cp2):=d6 hI.row rfl;have j4:w2.cell? ⟨b,4,none⟩=some (.slice a2 0 p2):=d6 hI.row rfl;have j5:w2.cell? ⟨b,5,none⟩=some (.int .i64 L.want):=d6 hI.row rfl;have fr:∀j,w2.frozen? ⟨b,j,none⟩=false:=fun j=>r9 hI.row;have hbs:¬b=w.heap.size:=zo
 have hbw2:b<w2.heap.size:=(zz7 hI.row).1;have Rc:w.heap.size<w2.heap.size:=(zz7 lF).1;have h1':=hI.acks;rw [xz.out] at h1';have Hk:=zh h1';have iQ:Hid (¬inBlock (.slice a2 0 p2) b):=Lib.hid fun hi=>hI.acks.ne hI.row zd b hi rfl;have kz:Hid (¬inBlock (.slice a2 0 p2) w.heap.size):=Lib.hid fun hi=>hI.acks.ne lF zd _ hi rfl;obtain ⟨HI,BD,HR,gM⟩:=zh4 hI lF hR hown2;clear hI h1 h2 hkp lF hR hown2 h1' b0 b1 d0 d5 HX HY rq NP c0 c3 c4 c5 hcf
 cases r with
 |false=>
  clear ky
  go_wp2
  go_ret;exact Or.inl ⟨rfl,⟨_,_,_,HI.out⟩,HR.out⟩
 | true=>
  rcases ky with ⟨rfl, -,rfl⟩|⟨hne,rfl⟩
  ·go_wp2_with fail
   go_region
   go_wp2_with fail
   refine G6 10 11 (fun x=>x.cell? ⟨b,4,none⟩=some (.slice a2 0 p2)/\x.cell? ⟨w.heap.size,0,none⟩=some (.int .i64 L.epoch)/\x.cell? ⟨w.heap.size,1,none⟩=some (.int .i64 L.want))
    zk zk (fun _ _ d _ _ h=>(by cases d<;>exact h)) (fun w x h=>⟨A8 h.1 x,A8 h.2.1 x,A8 h.2.2 x⟩) (by refine ⟨?_, ?_, ?_⟩<;>go_simp) ?_
   simp only [List.take_succ_cons,List.take_zero,List.drop_succ_cons,List.drop_zero]
   repeat
    refine O4 (v:= ?_) rfl (fun w0 h0=> ?_) ?_;rotate_left
    first
     |(have h1:=h0 rfl;clear h0;obtain ⟨s4,s0,s1⟩:=h1;go_simp;with_reducible rfl)
     |(clear h0;go_simp;with_reducible rfl)
    simp only [Act.put,List.setIfInBounds_toArray,List.set_cons_zero,List.set_cons_succ]
   refine S7 ?_;have hro:=j6 (i:=3) (v:= .slice (some ⟨g2,off2',none⟩) 0 0) (j6 (i:=5) (v:= .int .i64 (L.want+1)) HI.out.row);have hmo:Mod (fun k=>k=b) w2 ((w2.setCell ⟨b,5,none⟩ (.int .i64 (L.want+1))).setCell ⟨b,3,none⟩ (.slice (some ⟨g2,off2',none⟩) 0 0)):=((Mod.refl (fun k=>k=b) w2).setCell (fun _=>rfl) _).setCell (fun _=>rfl) _;have hko:=(Hk.out.setCell (a:=⟨b,5,none⟩) iQ.out (.int .i64 (L.want+1))).setCell (a:=⟨b,3,none⟩) iQ.out (.slice (some ⟨g2,off2',none⟩) 0 0)
   generalize hw3:((w2.setCell ⟨b,5,none⟩ (.int .i64 (L.want+1))).setCell ⟨b,3,none⟩ (.slice (some ⟨g2,off2',none⟩) 0 0))=w3 at*
   obtain ⟨lG,ry,xD,nC⟩:=zh4 hro hmo hko hw3;clear hro hmo hko hw3
   go_wp2_with ((refine t7 rfl (.tmp 128) (.tmp 134) 87 rfl 160 2 16 a5j (.slice a2 0 p2) 0 [] rfl (((xD.out.alloc _).drew).drew) _ 1 [.int .i64 L.epoch,.int .i64 L.want] rfl (i8.oneD w3.drew [.int .i64 L.epoch,.int .i64 L.want] 160 rfl) (by simp [Value.oneCell']) zd zd ?_;intro ad cq w4 hA;have hb4:=hA.2.1.heap (k:=b) (J1 (w:=w3) lG.out) iQ.out;have k4:w4.cell? ⟨b,4,none⟩=some (.slice a2 0 p2):=d6 hb4 rfl;have f4:w4.frozen? ⟨b,4,none⟩=false:=r9 hb4;have lD:=Lib.hid hA;clear hA hb4))
   go_ret;refine Or.inr ⟨rfl,w2,HR.out,⟨_,_,_,HI.out⟩, ?_⟩;rw [he,hs];exact HI.out.acked (a:=⟨L.epoch,L.want⟩) (((ry.out.alloc _).drew).drew) (J1 lG.out) gM.out (fun _ h=>h) lD.out
  go_wp2_with fail
  go_region
  go_wp2_with fail
  refine G6 10 11 (fun x=>x.cell? ⟨b,4,none⟩=some (.slice a2 0 p2)/\x.cell? ⟨w.heap.size,0,none⟩=some (.int .i64 L.epoch)/\x.cell? ⟨w.heap.size,1,none⟩=some (.int .i64 L.want))
   zk zk (fun _ _ d _ _ h=>(by cases d<;>exact h)) (fun w x h=>⟨A8 h.1 x,A8 h.2.1 x,A8 h.2.2 x⟩) (by refine ⟨?_, ?_, ?_⟩<;>go_simp) ?_
  simp only [List.take_succ_cons,List.take_zero,List.drop_succ_cons,List.drop_zero]
  repeat
   refine O4 (v:= ?_) rfl (fun w0 h0=> ?_) ?_;rotate_left
   first
    |(have h1:=h0 rfl;clear h0;obtain ⟨s4,s0,s1⟩:=h1;go_simp;with_reducible rfl)
    |(clear h0;go_simp;with_reducible rfl)
   simp only [Act.put,List.setIfInBounds_toArray,List.set_cons_zero,List.set_cons_succ]
  refine S7 ?_;have hro:=j6 (i:=3) (v:= .slice (some ⟨g2,(off2+19),none⟩) 0 (cp2 - 1)) (j6 (i:=5) (v:= .int .i64 (L.want+1)) HI.out.row);have hmo:Mod (fun k=>k=b) w2 ((w2.setCell ⟨b,5,none⟩ (.int .i64 (L.want+1))).setCell ⟨b,3,none⟩ (.slice (some ⟨g2,(off2+19),none⟩) 0 (cp2 - 1))):=((Mod.refl (fun k=>k=b) w2).setCell (fun _=>rfl) _).setCell (fun _=>rfl) _;have hko:=(Hk.out.setCell (a:=⟨b,5,none⟩) iQ.out (.int .i64 (L.want+1))).setCell (a:=⟨b,3,none⟩) iQ.out (.slice (some ⟨g2,(off2+19),none⟩) 0 (cp2 - 1))
  generalize hw3:((w2.setCell ⟨b,5,none⟩ (.int .i64 (L.want+1))).setCell ⟨b,3,none⟩ (.slice (some ⟨g2,(off2+19),none⟩) 0 (cp2 - 1)))=w3 at*
  obtain ⟨lG,ry,xD,nC⟩:=zh4 hro hmo hko hw3;clear hro hmo hko hw3
  go_wp2_with ((refine t7 rfl (.tmp 128) (.tmp 134) 87 rfl 160 2 16 a5j (.slice a2 0 p2) 0 [] rfl (((xD.out.alloc _).drew).drew) _ 1 [.int .i64 L.epoch,.int .i64 L.want] rfl (i8.oneD w3.drew [.int .i64 L.epoch,.int .i64 L.want] 160 rfl) (by simp [Value.oneCell']) zd zd ?_;intro ad cq w4 hA;have hb4:=hA.2.1.heap (k:=b) (J1 (w:=w3) lG.out) iQ.out;have k4:w4.cell? ⟨b,4,none⟩=some (.slice a2 0 p2):=d6 hb4 rfl;have f4:w4.frozen? ⟨b,4,none⟩=false:=r9 hb4;have lD:=Lib.hid hA;clear hA hb4))
  go_ret;refine Or.inr ⟨rfl,w2,HR.out,⟨_,_,_,HI.out⟩, ?_⟩;rw [he,hs];exact HI.out.acked (a:=⟨L.epoch,L.want⟩) (((ry.out.alloc _).drew).drew) (J1 lG.out) gM.out (fun _ h=>h) lD.out
section
variable {w:World} {b:Nat} {F:Nat->Prop} {L:C2}
theorem b3S (h:m6 w b F L):Calls Tryz.prog 42 #[.pointer (some ⟨b,0,none⟩)] w fun e w'=>e= .returned (.int .i64 L.out.length)/\w=w':=by
 obtain ⟨vo,vf,va,hL⟩:=h;obtain ⟨a,c,rfl,_⟩:=hL.out.shape;have c1:w.cell? ⟨b,1,none⟩=some (.slice a L.out.length c):=d6 hL.row rfl;clear hL
 go_enter Tryz.func42,Tryz.ntmps42
 go_wp2
 go_ret;exact ⟨rfl,rfl⟩
theorem b1m (h:m6 w b F L):Calls Tryz.prog 43 #[.pointer (some ⟨b,0,none⟩)] w fun e w'=>e= .returned (.int .i64 L.epoch)/\w=w':=by
 obtain ⟨vo,vf,va,hL⟩:=h;have c1:w.cell? ⟨b,0,none⟩=some (.int .i64 L.epoch):=d6 hL.row rfl;clear hL
 go_enter Tryz.func43,Tryz.ntmps43
 go_wp2
 go_ret;exact ⟨rfl,rfl⟩
theorem b3T (h:m6 w b F L):Calls Tryz.prog 44 #[.pointer (some ⟨b,0,none⟩)] w fun e w'=>e= .returned (.int .i64 L.lost)/\w=w':=by
 obtain ⟨vo,vf,va,hL⟩:=h;have c1:w.cell? ⟨b,6,none⟩=some (.int .i64 L.lost):=d6 hL.row rfl;clear hL
 go_enter Tryz.func44,Tryz.ntmps44
 go_wp2
 go_ret;exact ⟨rfl,rfl⟩
theorem a9y (h:m6 w b F L) (h1:L.flight.length<=400000000000) (h2:L.acks.length<=400000000000):Calls Tryz.prog 46 #[.pointer (some ⟨b,0,none⟩)] w fun e w'=>e= .returned (.int .i64 (L.flight.length+L.acks.length:Nat))/\∃n,w'=w.drewN n:=by
 obtain ⟨vo,vf,va,hL⟩:=h;obtain ⟨a,c,rfl,_⟩:=hL.flight.shape;obtain ⟨a',c',rfl,_⟩:=hL.acks.shape;have c1:w.cell? ⟨b,3,none⟩=some (.slice a L.flight.length c):=d6 hL.row rfl;have c2:w.cell? ⟨b,4,none⟩=some (.slice a' L.acks.length c'):=d6 hL.row rfl;have e1:(L.flight.length:Int)<=400000000000:=zo
 have e2:(L.acks.length:Int)<=400000000000:=zo
 clear hL h1 h2
 go_enter Tryz.func46,Tryz.ntmps46
 go_wp2_with fail
 go_quiet (fail)
 go_wp2
 go_ret;exact ⟨by simp,_,rfl⟩
theorem b3U (h:m6 w b F L) (h1:L.flight.length<=400000000000) (h2:L.acks.length<=400000000000):Calls Tryz.prog 30 #[.pointer (some ⟨b,0,none⟩)] w fun e w'=>e= .returned (.bool (L.out.isEmpty&&(L.flight.isEmpty&&L.acks.isEmpty)))/\∃n,w'=w.drewN n:=by
 have hf:=a9y h h1 h2;obtain ⟨vo,vf,va,hL⟩:=h;obtain ⟨a,c,rfl,_⟩:=hL.out.shape;have c1:w.cell? ⟨b,1,none⟩=some (.slice a L.out.length c):=d6 hL.row rfl;have Hf:=zh hf;clear hL h1 h2 hf
 cases ho:L.out with
 | nil=>
  rw [ho] at c1;clear ho
  go_enter Tryz.func30,Tryz.ntmps30
  go_wp2_with fail
  refine Hf.out.mono ?_;rintro e w' ⟨rfl,n,rfl⟩
  go_wp2
  go_ret;refine ⟨?_,n,rfl⟩;show Ending.returned (.bool ((L.flight.length:Int)+L.acks.length==0))=_
  have hd:((L.flight.length:Int)+L.acks.length==0)=(L.flight.isEmpty&&L.acks.isEmpty):=by
   rw [Bool.eq_iff_iff];cases L.flight<;>cases L.acks<;>simp<;>omega
  rw [hd];simp
 |cons m l=>
  rw [ho] at c1;have hne:((((m::l).length:Nat):Int)==0)=false:=by simp;omega
  clear ho
  go_enter Tryz.func30,Tryz.ntmps30
  go_wp2_with fail
  go_ret;exact ⟨by simp,0,rfl⟩
theorem a9z (h:m6 w b F L) (ha:L.acks=[]) (hf:L.flight=[]):Calls Tryz.prog 55 #[.pointer (some ⟨b,0,none⟩)] w fun e w'=>e= .returned (.bool false)/\w=w':=by
 obtain ⟨vo,vf,va,hL⟩:=h;have h1:=hL.acks;have h2:=hL.flight;rw [ha] at h1;rw [hf] at h2;obtain ⟨a1,p1,rfl⟩:=h1.none_of;obtain ⟨a2,p2,rfl⟩:=h2.none_of;have c3:w.cell? ⟨b,3,none⟩=some (.slice a2 0 p2):=d6 hL.row rfl;have c4:w.cell? ⟨b,4,none⟩=some (.slice a1 0 p1):=d6 hL.row rfl;clear hL h1 h2 ha hf
 go_enter Tryz.func55,Tryz.ntmps55
 go_wp2
 go_ret;exact ⟨rfl,rfl⟩
theorem b1n (h:m6 w b F L) (x:a3r) (rest:List a3r) (ha:L.acks=x::rest):Calls Tryz.prog 55 #[.pointer (some ⟨b,0,none⟩)] w fun e w'=>e= .returned (.bool true)/\p9 w w' b F {L with acks:=rest}:=by
 obtain ⟨vo,vf,va,hL⟩:=h;have bT:=hL.acks;rw [ha] at bT;obtain ⟨g,off,cap,rfl,hc1,hcap,hcells,hgw,off',hoff,hown⟩:=bT.head rfl;have hl1:(rest.length:Int)<=9223372036854775806:=by have:=bT.le;unfold maxLen at this;simp only [zz9] at this;omega
 have c4:w.cell? ⟨b,4,none⟩=some (.slice (some ⟨g,off,none⟩) (rest.length+1) cap):=d6 hL.row rfl;have fr:∀j,w.frozen? ⟨b,j,none⟩=false:=fun j=>r9 hL.row;obtain ⟨HL,bA⟩:=zh2 hL hown;clear hL hown bT hcells ha;rcases hoff with ⟨rfl,rfl,rfl⟩|⟨hne,rfl⟩
 all_goals
  go_enter Tryz.func55,Tryz.ntmps55
  go_wp2
  go_ret;refine ⟨rfl,HL.out.close (vf':=vf) ((Mod.refl (fun k=>k=b) w).setCell (fun _=>rfl) _) (j6 HL.out.row) HL.out.out HL.out.flight bA.out (fun _ h=>h) (fun _ h=>h) (fun _ h=>h) HL.out.ok⟩
theorem a6a (h:m6 w b F L) (ha:L.acks=[]) (x:LPk) (rest:List LPk) (hf:L.flight=x::rest):Calls Tryz.prog 55 #[.pointer (some ⟨b,0,none⟩)] w fun e w'=>e= .returned (.bool true)/\p9 w w' b F {L with flight:=rest}:=by
 obtain ⟨vo,vf,va,hL⟩:=h;have bT:=hL.acks;rw [ha] at bT;obtain ⟨a1,p1,rfl⟩:=bT.none_of;have hfl:=hL.flight;rw [hf] at hfl;obtain ⟨g,off,cap,rfl,hc1,hcap,hcells,hgw,off',hoff,hown⟩:=hfl.head (LPk.len (hL.ok.2 x (by rw [hf];simp)));have hl1:(rest.length:Int)<=9223372036854775806:=by have:=hfl.le;unfold maxLen at this;simp only [zz9] at this;omega
 have c3:w.cell? ⟨b,3,none⟩=some (.slice (some ⟨g,off,none⟩) (rest.length+1) cap):=d6 hL.row rfl;have c4:w.cell? ⟨b,4,none⟩=some (.slice a1 0 p1):=d6 hL.row rfl;have fr:∀j,w.frozen? ⟨b,j,none⟩=false:=fun j=>r9 hL.row;obtain ⟨HL,bA,Hf⟩:=zh3 hL hown hf;clear hL hown bT hfl hcells ha hf;rcases hoff with ⟨rfl,rfl,rfl⟩|⟨hne,rfl⟩
 all_goals
  go_enter Tryz.func55,Tryz.ntmps55
  go_wp2
  go_ret;refine ⟨rfl,HL.out.close (va':= .slice a1 0 p1) ((Mod.refl (fun k=>k=b) w).setCell (fun _=>rfl) _) (j6 HL.out.row) HL.out.out bA.out HL.out.acks (fun _ h=>h) (fun _ h=>h) (fun _ h=>h) ⟨HL.out.ok.1,fun p hp=>HL.out.ok.2 p (by rw [Hf.out];simp [hp])⟩⟩
end
end
open Go.RowKit
theorem b1o (b:Nat) (F:Nat->Prop) (L:C2) (tk:Value) (w:World) (h:m6 w b F L) (ha:L.acks=[]) (p:LPk) (hf:L.flight=[p]) (he:p.epoch=L.epoch) (hs:p.seq≠L.want):
 Calls Tryz.prog 56 #[.pointer (some ⟨b,0,none⟩),tk] w fun e w'=>e= .returned (.bool true)/\p9 w w' b F {L with flight:=[],acks:=[⟨p.epoch,p.seq⟩]}:=by
 have hL1:=h;obtain ⟨vo,vf,va,hL⟩:=hL1;have jE:p.msg.ok:=hL.ok.2 p (by rw [hf];simp);have h1:=hL.acks;have h2:=hL.flight;rw [ha] at h1;rw [hf] at h2;obtain ⟨a1,p1,rfl⟩:=h1.none_of;have hpl:=LPk.len jE;have dw:=jE.len;obtain ⟨g,off,cp,rfl,hc1,hcap,hcells,hgw,off',hoff,hown⟩:=h2.head hpl;have HX:=hcells.all hpl;have HY:=hcells.is hpl;have c3:w.cell? ⟨b,3,none⟩=some (.slice (some ⟨g,off,none⟩) 1 cp):=d6 hL.row rfl;have c4:w.cell? ⟨b,4,none⟩=some (.slice a1 0 p1):=d6 hL.row rfl;have c0:w.cell? ⟨b,0,none⟩=some (.int .i64 L.epoch):=d6 hL.row rfl;have c5:w.cell? ⟨b,5,none⟩=some (.int .i64 L.want):=d6 hL.row rfl;have hbw:b<w.heap.size:=(zz7 hL.row).1;have q0:p.cells[0]? =some (.int .i64 p.epoch):=rfl;have q1:p.cells[1]? =some (.int .i64 p.seq):=rfl;obtain ⟨w1,hw1⟩:∃w1:World,w1=w.alloc (.cells p.cells.toArray 162):=⟨_,rfl⟩;have hm1:Mod (fun _=>False) w w1:=hw1▸(Mod.refl (fun _=>False) w).alloc _;have hbx:w1.heap[w.heap.size]? =some (.cells p.cells.toArray 162 (0,0)):=hw1▸heap_alloc_new w _;have hbc:d8 w1 w.heap.size 0 p.cells:=by simpa using d8.row hbx
 have b0:w1.cell? ⟨w.heap.size,0,none⟩=some (.int .i64 p.epoch):=hbc 0 _ rfl;have b1:w1.cell? ⟨w.heap.size,1,none⟩=some (.int .i64 p.seq):=hbc 1 _ rfl
 have uK:d8 w1 w.heap.size 2 p.msg.cells:=fun j u hu=>by
  have:=hbc (j+2) u (by simpa [LPk.cells] using hu);rwa [show 0+(j+2)=2+j by omega] at this
 have rq:=uK.all dw;have NP:=uK.is dw;have hL1:=h.mod hm1 (by simp);have d3:w1.cell? ⟨b,3,none⟩=some (.slice (some ⟨g,off,none⟩) 1 cp):=hm1.cell c3 (by simp);have d4:w1.cell? ⟨b,4,none⟩=some (.slice a1 0 p1):=hm1.cell c4 (by simp);have fr:∀j,w1.frozen? ⟨b,j,none⟩=false:=fun j=>r9 (hm1.heap hL.row (by simp));have rY:b<w1.heap.size:=zz13 hbw hm1.size;have Re:w.heap.size<w1.heap.size:=(zz7 hbx).1;have hbs:¬b=w.heap.size:=zo
 have hI1:=hL.mod hm1 (by simp);have d0:w1.cell? ⟨b,0,none⟩=some (.int .i64 L.epoch):=hm1.cell c0 (by simp);have hne:((p.seq:Int)==(L.want:Int))=false:=by simp;omega
 have d5:w1.cell? ⟨b,5,none⟩=some (.int .i64 L.want):=hm1.cell c5 (by simp);obtain ⟨gW,dn,HI1⟩:=zh3 hw1 hm1 hI1;have iQ:Hid (¬inBlock (.slice a1 0 p1) b):=Lib.hid fun hi=>hL.acks.ne hL.row zd b hi rfl;have hk1:=hI1.acks;rw [ha] at hk1;have Hk:=zh hk1;have hown1:=hown.mod hm1 (by simp);obtain ⟨uL,Ra,NQ⟩:=zh3 hown1 hbc hbx;have aI:=Lib.hid (LPk.one jE);obtain ⟨HL,H,bA,BC,Rb,xz,nA⟩:=zh7 hL h hown hoff h2 ha hf;clear hL h1 h2 ha hf hcells hown hoff h hw1 hm1 hI1 hk1 hown1 hbc uK hbx
 go_enter Tryz.func56,Tryz.ntmps56
 go_wp2_with ((refine C5 rfl 162 _ _ rfl rfl _ _ p.cells rfl (by rw [hpl];rfl) (by rw [hpl];exact a5k) aI.out ?_))
 rw [<-gW.out];have BF:=BC.out
 go_quiet (fail)
 rcases BF with ⟨rfl, -,rfl⟩|⟨hne1,rfl⟩
 ·go_wp2_with fail
  refine G6 10 11 (fun x=>x.cell? ⟨b,4,none⟩=some (.slice a1 0 p1)/\x.cell? ⟨w.heap.size,0,none⟩=some (.int .i64 L.epoch)/\x.cell? ⟨w.heap.size,1,none⟩=some (.int .i64 p.seq))
   zk zk (fun _ _ d _ _ h=>(by cases d<;>exact h)) (fun w x h=>⟨A8 h.1 x,A8 h.2.1 x,A8 h.2.2 x⟩) (by refine ⟨?_, ?_, ?_⟩<;>go_simp) ?_
  simp only [List.take_succ_cons,List.take_zero,List.drop_succ_cons,List.drop_zero]
  repeat
   refine O4 (v:= ?_) rfl (fun w0 h0=> ?_) ?_;rotate_left
   first
    |(have h1:=h0 rfl;clear h0;obtain ⟨s4,s0,s1⟩:=h1;go_simp;with_reducible rfl)
    |(clear h0;go_simp;with_reducible rfl)
   simp only [Act.put,List.setIfInBounds_toArray,List.set_cons_zero,List.set_cons_succ]
  refine S7 ?_;have hro:=j6 (i:=3) (v:= .slice (some ⟨g,off',none⟩) 0 0) (a1e HI1.out.row nq);have hmo:Mod (fun k=>k=b) w1 ((w1.drewN nq).setCell ⟨b,3,none⟩ (.slice (some ⟨g,off',none⟩) 0 0)):=((Mod.refl (fun k=>k=b) w1).drewN nq).setCell (fun _=>rfl) _;have hko:=(Hk.out.drewN nq).setCell (a:=⟨b,3,none⟩) iQ.out (.slice (some ⟨g,off',none⟩) 0 0)
  generalize hw3:(w1.drewN nq).setCell ⟨b,3,none⟩ (.slice (some ⟨g,off',none⟩) 0 0)=w3 at*
  obtain ⟨lG,ry,xD,nC⟩:=zh4 hro hmo hko hw3;clear hro hmo hko hw3
  go_wp2_with ((refine t7 rfl (.tmp 128) (.tmp 134) 87 rfl 160 2 16 a5j (.slice a1 0 p1) 0 [] rfl ((xD.out.alloc _).drew) _ 1 [.int .i64 L.epoch,.int .i64 p.seq] rfl (i8.oneD w3 [.int .i64 L.epoch,.int .i64 p.seq] 160 rfl) (by simp [Value.oneCell']) zd zd ?_;intro ad cq w4 hA;have hb4:=hA.2.1.heap (k:=b) (J1 (w:=w3) lG.out) iQ.out;have k4:w4.cell? ⟨b,4,none⟩=some (.slice a1 0 p1):=d6 hb4 rfl;have f4:w4.frozen? ⟨b,4,none⟩=false:=r9 hb4;have lD:=Lib.hid hA;clear hA hb4))
  go_ret;refine ⟨rfl,p9.from ?_ dn.out⟩;rw [he];exact HI1.out.acked (a:=⟨L.epoch,p.seq⟩) ((ry.out.alloc _).drew) (J1 lG.out) uL.out (fun _ h=>h) lD.out
 go_wp2_with fail
 refine G6 10 11 (fun x=>x.cell? ⟨b,4,none⟩=some (.slice a1 0 p1)/\x.cell? ⟨w.heap.size,0,none⟩=some (.int .i64 L.epoch)/\x.cell? ⟨w.heap.size,1,none⟩=some (.int .i64 p.seq))
  zk zk (fun _ _ d _ _ h=>(by cases d<;>exact h)) (fun w x h=>⟨A8 h.1 x,A8 h.2.1 x,A8 h.2.2 x⟩) (by refine ⟨?_, ?_, ?_⟩<;>go_simp) ?_
 simp only [List.take_succ_cons,List.take_zero,List.drop_succ_cons,List.drop_zero]
 repeat
  refine O4 (v:= ?_) rfl (fun w0 h0=> ?_) ?_;rotate_left
  first
   |(have h1:=h0 rfl;clear h0;obtain ⟨s4,s0,s1⟩:=h1;go_simp;with_reducible rfl)
   |(clear h0;go_simp;with_reducible rfl)
  simp only [Act.put,List.setIfInBounds_toArray,List.set_cons_zero,List.set_cons_succ]
 refine S7 ?_;have hro:=j6 (i:=3) (v:= .slice (some ⟨g,(off+19),none⟩) 0 (cp - 1)) (a1e HI1.out.row nq);have hmo:Mod (fun k=>k=b) w1 ((w1.drewN nq).setCell ⟨b,3,none⟩ (.slice (some ⟨g,(off+19),none⟩) 0 (cp - 1))):=((Mod.refl (fun k=>k=b) w1).drewN nq).setCell (fun _=>rfl) _;have hko:=(Hk.out.drewN nq).setCell (a:=⟨b,3,none⟩) iQ.out (.slice (some ⟨g,(off+19),none⟩) 0 (cp - 1))
 generalize hw3:(w1.drewN nq).setCell ⟨b,3,none⟩ (.slice (some ⟨g,(off+19),none⟩) 0 (cp - 1))=w3 at*
 obtain ⟨lG,ry,xD,nC⟩:=zh4 hro hmo hko hw3;clear hro hmo hko hw3
 go_wp2_with ((refine t7 rfl (.tmp 128) (.tmp 134) 87 rfl 160 2 16 a5j (.slice a1 0 p1) 0 [] rfl ((xD.out.alloc _).drew) _ 1 [.int .i64 L.epoch,.int .i64 p.seq] rfl (i8.oneD w3 [.int .i64 L.epoch,.int .i64 p.seq] 160 rfl) (by simp [Value.oneCell']) zd zd ?_;intro ad cq w4 hA;have hb4:=hA.2.1.heap (k:=b) (J1 (w:=w3) lG.out) iQ.out;have k4:w4.cell? ⟨b,4,none⟩=some (.slice a1 0 p1):=d6 hb4 rfl;have f4:w4.frozen? ⟨b,4,none⟩=false:=r9 hb4;have lD:=Lib.hid hA;clear hA hb4))
 go_ret;refine ⟨rfl,p9.from ?_ dn.out⟩;rw [he];exact HI1.out.acked (a:=⟨L.epoch,p.seq⟩) ((ry.out.alloc _).drew) (J1 lG.out) uL.out (fun _ h=>h) lD.out
end Go.Proofs.YtdmjoodhaeijmaaGreatDoor
