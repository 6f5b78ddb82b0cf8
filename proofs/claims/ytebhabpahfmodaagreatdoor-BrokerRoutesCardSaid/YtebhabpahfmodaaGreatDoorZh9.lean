/- Lemmas. -/
import Derived.Test.YtebhabpahfmodaaGreatDoorZh3
import Derived.Great.BuildSlice
set_option maxHeartbeats 40000000
set_option maxRecDepth 20000
namespace Go.Proofs.YtebhabpahfmodaaGreatDoor
section
open Go.RowKit
theorem B3 {P:Program} {w:World} {ops:Array Oper} {rest:List Oper} {a:Act} {Q:Exit->Act->World->Prop} {d:Option Tmp} {tp:TypeId} {pos:String} {af:Array Edge} (t:TypeId) (x:Operand)
 (h:∃(e:TypeId) (sz:Nat),P.underlying t=some (.slice e)/\(P.info? e).map (·.size)=some sz/\((P.info? e).bind (·.zero)).isSome=true/\0<sz/\sz<=1000/\∃cs:List Value,a.eval x= .agg cs.toArray/\cs.length=sz/\
   wpList P ops Q rest (a.put d (.slice (some ⟨w.heap.size,0,none⟩) 1 1)) (w.alloc (.cells cs.toArray e))):wpList P ops Q (⟨d,.buildSlice t 1 #[(0,x)],tp,pos,af,none⟩::rest) a w:=by
 obtain ⟨e,sz,hu,hs,hz,h0,h1,cs,hx,hl,h⟩:=h
 cases hi:P.info? e with
 |none=>simp [hi] at hs
 |some i=>
  rw [hi] at hs hz;simp only [Option.map_some,Option.some.injEq,Option.bind_some] at hs hz;obtain ⟨z,hzz⟩:=Option.isSome_iff_exists.1 hz;refine wpList_buildSlice rfl t e 1 #[(0,x)] rfl cs.toArray i z hu hi hzz (by rw [hs];omega) (by rw [hs];omega) ?_ h;have hf:=Great.fill_whole (s:=sz) h0 [.agg cs.toArray] ((Array.range (1*sz)).map (z.cells[· %z.cells.size]!)) (fun v hv=>by rw [List.mem_singleton.1 hv];simp [Value.cells,hl]) (by simp);rw [hs];have e1:(#[(0,x)].map fun (i,x)=>(i,a.eval x)).toList=[(0,Value.agg cs.toArray)]:=by simp [hx]
  rw [e1];simpa [Value.cells] using hf
theorem b6o {α:Type} {L A X B C:List α} {off n:Nat} (hoff:off<=L.length) (h:(L.drop off).take n=A++(X++B)) (hC:C.length=X.length) (hn:n=A.length+(X.length+B.length)):
 ((L.take (off+A.length)++C++L.drop (off+A.length+C.length)).drop off).take n=A++(C++B):=by
 obtain ⟨R,hR⟩:∃R,L=L.take off++((A++(X++B))++R):=⟨(L.drop off).drop n,by rw [<-h,List.take_append_drop,List.take_append_drop]⟩;have hP:(L.take off).length=off:=by rw [List.length_take];omega
 generalize L.take off=Q at hR hP
 have e1:L.take (off+A.length)=Q++A:=by
  rw [hR,show Q++(A++(X++B)++R)=(Q++A)++(X++(B++R)) by simp,show off+A.length=(Q++A).length by rw [zz4,hP],List.take_left]
 have e2:L.drop (off+A.length+C.length)=B++R:=by
  rw [hR,show Q++(A++(X++B)++R)=((Q++A)++X)++(B++R) by simp,show off+A.length+C.length=((Q++A)++X).length by rw [zz4,zz4,hP,hC],List.drop_left]
 rw [e1,e2,show Q++A++C++(B++R)=Q++((A++(C++B))++R) by simp]
 conv=>lhs;arg 2;arg 1;rw [<-hP]
 rw [List.drop_left,show n=(A++(C++B)).length by rw [zz4,zz4,hC];exact hn,List.take_left]
theorem V7 {α:Type} {f:α->List Value} {sz:Nat} (hf:∀a,(f a).length=sz) (l:List α):(l.flatMap f).length=l.length*sz:=by
 induction l with
 |nil=>simp
 |cons a l ih=>rw [List.flatMap_cons,zz4,ih,hf,zz9,Nat.add_mul];omega
theorem b3K {α:Type} {f:α->List Value} {sz:Nat} (hf:∀a,(f a).length=sz) {e:TypeId} {w:World} {v:Value} {l:List α} {j:Nat} (h:j2 w e sz v l.length (l.flatMap f)) (hj:j<l.length) (c:α):
 ∃g off cap cur,v= .slice (some ⟨g,off,none⟩) l.length cap/\w.heap[g]? =some (.cells cur e (0,0))/\off+j*sz+sz<=cur.size/\l.length<=cap/\
 j2 (w.setRow g (cur.toList.take (off+j*sz)++f c++cur.toList.drop (off+j*sz+(f c).length)).toArray) e sz v l.length ((l.set j c).flatMap f):=by
 rcases h.2 with ⟨-,h0⟩|⟨g,off,cap,cur,hv,hg,hn,hc,hs,ht⟩
 ·omega
 have hsz:off+l.length*sz<=cur.size:=by
  have:l.length*sz<=cap*sz:=Nat.mul_le_mul_right _ hn;omega
 have hjs:j*sz+sz<=l.length*sz:=by
  have:(j+1)*sz<=l.length*sz:=Nat.mul_le_mul_right _ hj;rw [Nat.add_mul,Nat.one_mul] at this;exact this
 have hsplit:l=l.take j++l[j]::l.drop (j+1):=by
  rw [<-List.drop_eq_getElem_cons hj,List.take_append_drop]
 have htl:(l.take j).length=j:=by rw [List.length_take];omega
 have hset:l.set j c=l.take j++c::l.drop (j+1):=by rw [List.set_eq_take_append_cons_drop,if_pos hj]
 have hdl:(l.drop (j+1)).length=l.length - (j+1):=List.length_drop ..
 have hlen:l.length*sz=j*sz+(sz+(l.length - (j+1))*sz):=by
  conv=>lhs;rw [show l.length=j+(1+(l.length - (j+1))) by omega]
  rw [Nat.add_mul,Nat.add_mul,Nat.one_mul]
 refine ⟨g,off,cap,cur,hv,hg,zo,hn,⟨by rw [V7 hf,List.length_set],.inr ⟨g,off,cap,_,hv,setRow_heap w g cur _ _ _ hg,hn,hc, ?_, ?_⟩⟩⟩
 ·simp only [List.size_toArray,zz4,List.length_take,List.length_drop,Array.length_toList,hf];omega
 have hq:=b6o (L:=cur.toList) (A:=(l.take j).flatMap f) (X:=f l[j]) (B:=(l.drop (j+1)).flatMap f) (C:=f c) (off:=off) (n:=l.length*sz) (by rw [Array.length_toList];omega)
  (by rw [ht];(conv=>lhs;rw [hsplit]);rw [List.flatMap_append,List.flatMap_cons]) (by rw [hf,hf]) (by rw [V7 hf,V7 hf,htl,hdl,hf];exact hlen)
 rw [V7 hf,htl] at hq;rw [hset,List.flatMap_append,List.flatMap_cons];exact hq
theorem a6c {P:Program} {w:World} (ty:TypeId) (g off:Nat) (cur:Array Value) (t:TypeId) (cs:List Value) (hg:w.heap[g]? =some (.cells cur t (0,0))) (hl:off+cs.length<=cur.size)
 (hi:(P.info? ty).map (·.size)=some cs.length) (h1:∀u∈cs,u.oneCell'=true):
 (storeVar ty ⟨g,off,none⟩ (.agg cs.toArray)).run P w= .ok () (w.setRow g (cur.toList.take off++cs++cur.toList.drop (off+cs.length)).toArray):=by
 have hst:=run_storeCells_at P g off t cs 0 cur w hg zo h1
 cases hq:P.info? ty with
 |none=>simp [hq] at hi
 |some i=>
  have hs:i.size=cs.length:=by simpa [hq] using hi
  simp only [Nat.add_zero] at hst;simp [storeVar,Value.cells,sizeOf,typeInfo,hq,hs,hst]
theorem a0H {P:Program} {w:World} {o:Oper} {a:Act} {K:Act->World->Prop} {Q:Exit->Act->World->Prop} (ty:TypeId) (x y:Operand) (ho:o.op= .store ty x y) (g off:Nat)
 (hx:a.eval x= .pointer (some ⟨g,off,none⟩)) (cur:Array Value) (t:TypeId) (hg:w.heap[g]? =some (.cells cur t (0,0))) (cs:List Value) (hy:a.eval y= .agg cs.toArray) (hl:off+cs.length<=cur.size)
 (hi:(P.info? ty).map (·.size)=some cs.length) (h1:∀u∈cs,u.oneCell'=true)
 (h:K (a.put o.dst undef) (w.setRow g (cur.toList.take off++cs++cur.toList.drop (off+cs.length)).toArray)):o.wp P a w K Q:=by
 have hr:=a6c (P:=P) (w:=w) ty g off cur t cs hg hl hi h1;unfold Oper.wp execOp;simp only [ho,hx,hy,Instr.storeAt,Instr.sureAddr,Sem.run_bind,Sem.run_pure,Result.andThen_ok,hr];exact h
def U5 (lt:Cnd->Cnd->Bool) (x:Cnd):List Cnd->List Cnd
 |[]=>[x]
 |y::r=>if lt x y then y::U5 lt x r else x::y::r
def a4u (lt:Cnd->Cnd->Bool) (s:List Cnd) (x:Cnd):List Cnd:=(U5 lt x s.reverse).reverse
def F3 (lt:Cnd->Cnd->Bool) (l:List Cnd):List Cnd:=l.foldl (a4u lt) []
theorem a9e (lt:Cnd->Cnd->Bool) (x:Cnd) (p q:List Cnd) (h:∀y∈p,lt x y=true):U5 lt x (p++q)=p++U5 lt x q:=by
 induction p with
 |nil=>rfl
 |cons y p ih=>
  have e:=ih fun z hz=>h z (List.mem_cons_of_mem _ hz);show (if lt x y=true then y::U5 lt x (p++q) else _)=_;rw [if_pos (h y List.mem_cons_self),e];rfl
theorem a5r {lt:Cnd->Cnd->Bool} {s:List Cnd} {x:Cnd} {j:Nat} (hj:j<=s.length) (h:∀y∈s.drop j,lt x y=true) (hs:∀k y,j=k+1->s[k]? =some y->lt x y=false):a4u lt s x=s.take j++x::s.drop j:=by
 have hsp:s.reverse=(s.drop j).reverse++(s.take j).reverse:=by rw [<-List.reverse_append,List.take_append_drop]
 unfold a4u;rw [hsp,a9e lt x _ _ (fun y hy=>h y (List.mem_reverse.1 hy))]
 have hq:U5 lt x (s.take j).reverse=x::(s.take j).reverse:=by
  cases j with
  |zero=>rfl
  |succ k=>
   have hk:k<s.length:=hj;rw [List.take_succ_eq_append_getElem hk,List.reverse_append];show (if lt x s[k]=true then _ else _)=_;rw [if_neg (by rw [hs k s[k] rfl (zz5 hk)];decide)];rfl
 rw [hq];simp
theorem a0a (lt:Cnd->Cnd->Bool) (l:List Cnd) (x:Cnd):F3 lt (l++[x])=a4u lt (F3 lt l) x:=by unfold F3;rw [List.foldl_append];rfl
theorem a2Y (lt:Cnd->Cnd->Bool) (x:Cnd) (s:List Cnd):(U5 lt x s).Perm (x::s):=by
 induction s with
 |nil=>exact List.Perm.refl _
 |cons y r ih=>
  unfold U5;split
  ·exact (ih.cons y).trans (List.Perm.swap x y r)
  exact List.Perm.refl _
theorem b1m (lt:Cnd->Cnd->Bool) (s:List Cnd) (x:Cnd):(a4u lt s x).Perm (x::s):=by
 unfold a4u;exact (List.reverse_perm _).trans ((a2Y lt x _).trans ((List.reverse_perm s).cons x))
theorem a0b (lt:Cnd->Cnd->Bool) (l:List Cnd):(F3 lt l).Perm l:=by
 suffices∀r:List Cnd,(F3 lt r.reverse).Perm r.reverse by
  have:=this l.reverse;rwa [List.reverse_reverse] at this
 intro r
 induction r with
 |nil=>exact List.Perm.refl _
 |cons x r ih=>
  rw [List.reverse_cons,a0a];exact (b1m lt _ x).trans ((ih.cons x).trans (List.perm_append_singleton x r.reverse).symm)
theorem a0c (lt:Cnd->Cnd->Bool) (l:List Cnd):(F3 lt l).length=l.length:=(a0b lt l).length_eq
theorem a6d:(match Tryz.prog.underlying 87 with|some (.struct _)=>true|some (.array _ _)=>true|_=>false)=true:=zk
theorem K9 {ρ:Operand->Value} {dst:Option Tmp} {x:Operand} {type:TypeId} {pos:String} {after:Array Edge} {guard:Option (Nat×Bool)} {w:World} (h:a6e w (ρ x) 7):
 Sem.run Tryz.prog (execOp ρ ⟨dst,.load 87 x,type,pos,after,guard⟩) w= .ok (.value (.agg (a0l w (ρ x) 7))) w:=I6 a6d a6Y h
attribute [local go_sem ↓] K9
def a3w (w:World) (v:Value) (l:List Cnd) (e:Ending) (w':World):Prop:=e= .returned (.tuple #[])/\j2 w' 87 7 v l.length (m5 l)/\Mod (l5 v) w w'
def mvL (s rest:List Cnd) (x:Cnd) (j:Nat):List Cnd:=s.take j++x::(s.drop j++rest)
theorem a9f {s rest:List Cnd} {x:Cnd} {j:Nat} (hj:j<=s.length):(mvL s rest x j).length=s.length+1+rest.length:=by
 unfold mvL;simp only [zz4,zz9,List.length_take,List.length_drop];omega
theorem b6p {s rest:List Cnd} {x:Cnd} {j:Nat} (hj:j<=s.length):(mvL s rest x j)[j]? =some x:=by
 unfold mvL;have:(s.take j).length=j:=by rw [List.length_take];omega
 rw [List.getElem?_append_right zo,this,Nat.sub_self];rfl
theorem b3L {s rest:List Cnd} {x:Cnd} {k:Nat} (hk:k<s.length):(mvL s rest x (k+1))[k]? =some s[k]:=by
 unfold mvL;rw [List.getElem?_append_left (by rw [List.length_take];omega),List.getElem?_take,if_pos zo,zz5 hk]
theorem b3M {s rest:List Cnd} {x:Cnd} {k:Nat} (hk:k<s.length):((mvL s rest x (k+1)).set (k+1) s[k]).set k x=mvL s rest x k:=by
 unfold mvL;have h1:(s.take (k+1)).length=k+1:=by rw [List.length_take];omega
 have h2:(s.take k).length=k:=by rw [List.length_take];omega
 have h3:s.take (k+1)=s.take k++[s[k]]:=List.take_succ_eq_append_getElem hk;have h4:s.drop k=s[k]::s.drop (k+1):=List.drop_eq_getElem_cons hk;rw [List.set_append_right _ _ zo,h1,Nat.sub_self,List.set_cons_zero,h3,zz12,List.set_append_right _ _ zo,h2,Nat.sub_self,h4];rfl
theorem b5o {s rest:List Cnd} {x:Cnd}:mvL s rest x s.length=s++x::rest:=by
 unfold mvL;rw [List.take_length,List.drop_length];rfl
def b6U (w:World) (v:Value) (n:Nat) (lt:Cnd->Cnd->Bool) (s rest:List Cnd) (x:Cnd) (k:Nat) (i:Value) (wr:World):Prop:=
 ∃j:Nat,i= .int .i64 j/\j<=k/\j2 wr 87 7 v n (m5 (mvL s rest x j))/\Mod (l5 v) w wr/\∀y∈s.drop j,lt x y=true
theorem b1n (F:FuncId) (hF:∀args w,(callFunc F args).run Tryz.prog w= .ok (.enter F args) w) (cf:Cnd->Cnd->Int) (w:World) (v:Value) (l:List Cnd) (hv:j2 w 87 7 v l.length (m5 l)) (hll:l.length<=1000)
 (hp:∀a∈l,∀b∈l,∀wx,Mod (l5 v) w wx->Calls Tryz.prog F #[.agg a.cells.toArray,.agg b.cells.toArray] wx fun e w'=>e= .returned (.int .i64 (cf a b))/\Mod (fun _=>False) wx w'):
 Calls Tryz.prog 118 #[v,.int .i64 0,.int .i64 l.length,.func (.func F) #[] #[]] w (a3w w v (F3 (fun a b=>decide (cf a b<0)) l)):=by
 obtain ⟨a,cap,rfl,hcap⟩:=hv.shape;obtain ⟨lt,hlt⟩:∃lt:Cnd->Cnd->Bool,(fun a b=>decide (cf a b<0))=lt:=⟨_,rfl⟩;have hlt2:∀a b,decide (cf a b<0)=lt a b:=fun a b=>by rw [<-hlt]
 rw [hlt];have bN:(l.length:Int)<=1000:=zo
 have bf:(l.length:Int)<=cap:=zo
 obtain ⟨Hv,Hp,HF,Xk,Dh⟩:=zh5 hv hp hF hlt hlt2;clear hv hp hF hlt hlt2
 go_enter Tryz.func118,Tryz.ntmps118
 go_wp2_with fail
 go_loopw [8] (fun i wr=>∃k:Nat,i= .int .i64 k/\1<=k/\k<=l.length+1/\j2 wr 87 7 (.slice a l.length cap) l.length (m5 (F3 lt (l.take k)++l.drop k))/\Mod (l5 (.slice a l.length cap)) w wr) (fun i _=>l.length - (intOf i).toNat)
 case atStart=>
  refine ⟨1,rfl,Nat.le_refl _,zo, ?_,Mod.refl _ _⟩
  have:F3 lt (l.take 1)++l.drop 1=l:=by
   cases l with
   |nil=>rfl
   |cons x l=>rfl
  rw [this];exact Hv.out
 case round=>
  obtain ⟨k,rfl,hk1,hk,hov,hmv⟩:=hrel;by_cases hkl:k<l.length
  ·have hkl':(k:Int)<l.length:=zo
   obtain ⟨x,hx⟩:∃x,l[k]? =some x:=⟨_,zz5 hkl⟩;have hxm:=zz8 hx;obtain ⟨s,hs⟩:∃s,F3 lt (l.take k)=s:=⟨_,rfl⟩;obtain ⟨rest,hrest⟩:∃r,l.drop (k+1)=r:=⟨_,rfl⟩;have hsl:s.length=k:=by rw [<-hs,a0c,List.length_take];omega
   have hsm:∀y∈s,y∈l:=fun y hy=>by
    rw [<-hs] at hy;exact List.mem_of_mem_take ((a0b lt _).mem_iff.1 hy)
   have hdr:l.drop k=x::rest:=by
    rw [List.drop_eq_getElem_cons hkl,hrest];congr 1;exact (zz6 hx).2
   have hlen:s.length+1+rest.length=l.length:=by rw [hsl,<-hrest,List.length_drop];omega
   have hnext:F3 lt (l.take (k+1))=a4u lt s x:=by
    rw [List.take_succ_eq_append_getElem hkl,a0a,hs];congr 1;exact (zz6 hx).2
   rw [hs,hdr,<-b5o,hsl] at hov;obtain ⟨Hx,fH,Hs,Az,oM,Hsm,Hdr,Hlen,iA,Ii,nS⟩:=zh11 hx hxm hs hrest hsl hsm hdr hlen hnext hov hmv;clear hx hxm hs hrest hsl hsm hdr hlen hnext hov hmv
   go_wp2_with fail
   go_loopw [9] (fun i wq=>b6U w (.slice a l.length cap) l.length lt s rest x k i wq) (fun i _=>(intOf i).toNat)
   case atStart=>exact ⟨k,by go_num,Nat.le_refl _,Ii.out,nS.out,fun y hy=>by rw [List.drop_of_length_le (Nat.le_of_eq oM.out)] at hy;cases hy⟩
   case round=>
    obtain ⟨j,rfl,hj,hoq,dJ,hall⟩:=hrel;rcases j with _|j
    ·have hfin:a4u lt s x++rest=mvL s rest x 0:=by
      rw [a5r (j:=0) (Nat.zero_le _) hall (fun k y hk=>zo)];rfl
     obtain ⟨BP,kG,aM,cZ⟩:=zh4 hoq dJ hall hfin;clear hoq dJ hall hfin
     go_wp2_with fail
     refine i7 zk zk ?_
     iterate 17 (first
      | (refine j6 ?_ (fun K hK=> ?_)
         ·first|(go_simp;done)|(go_simp;simp [undef];done)
         go_simp;refine hK _ ?_;clear hK K)
      | (refine j7 ?_ ?_ (fun w' hw'=> ?_) (fun K hK=> ?_)
         ·first|(go_simp;done)|(go_simp;simp [undef];done)
         rotate_left
         ·skip
          go_simp;rfl
         go_simp;refine hK _ ?_;clear hK K))
     refine j8 (fun w' hw'=> ?_);have bS:=zh hw';clear hw'
     go_wp2_with fail
     refine ⟨⟨k+1,by go_num,zo,zo, ?_,kG.out.trans bS.out (fun _ _ h=>h.elim)⟩,by simp [intOf];omega⟩;rw [iA.out,show l.drop (k+1)=rest from Az.out,cZ.out];exact BP.out.mod bS.out zi
    have hjs:j<s.length:=by have:=oM.out;omega
    obtain ⟨y,hy⟩:∃y,s[j]? =some y:=⟨_,zz5 hjs⟩;have hye:s[j]=y:=(zz6 hy).2;have hym:=Hsm.out y (zz8 hy);have hjl:j+1<l.length:=by have:=Hlen.out;omega
    have b8I:((j:Int)+1)<l.length:=zo
    have hj0:(j:Int)<l.length:=zo
    have jX:(mvL s rest x (j+1)).length=l.length:=by rw [a9f zo,Hlen.out]
    obtain ⟨g,off,hga,hfx⟩:∃g off,a=some ⟨g,off,none⟩/\e9 wr g (off+(j+1)*7) x.cells:=G9 (by rw [jX];exact hoq.rd) (b6p zo);subst hga;obtain ⟨g',off',hga,Ar⟩:=G9 (j:=j) (x:=y) (by rw [jX];exact hoq.rd) (by rw [b3L hjs,hye]);cases hga
    have hcl:=fun (wx:World) (hx:Mod (fun _=>False) wr wx)=>(Hp.out x fH.out y hym wx (dJ.trans hx (fun _ _ h=>h.elim))).mono fun e w'' (h:_/\_)=>(⟨h.1,hx.trans h.2 zi⟩:e= .returned (.int .i64 (cf x y))/\Mod (fun _=>False) wr w'')
    have hf:∀w',Mod (fun _=>False) wr w'->(l8 w' g (off+(j+1)*7) 7/\cellsOf w' g (off+(j+1)*7) 7=x.cells.toArray)/\l8 w' g (off+j*7) 7/\cellsOf w' g (off+j*7) 7=y.cells.toArray:=fun w' hw'=>
     ⟨⟨(hfx.mod hw' id).all rfl,(hfx.mod hw' id).is rfl⟩,(Ar.mod hw' id).all rfl,(Ar.mod hw' id).is rfl⟩
    have a1:IntKind.i64.wrap (j:Int)=j:=by rw [IntKind.wrap_i64];omega
    have a2:(0:Int)<j+1:=zo
    have a3:(0:Int)<=j+1:=zo
    obtain ⟨C,hC⟩:∃C,cf x y=C:=⟨_,rfl⟩;have EQ:=Dh.out x y;rw [hC] at hcl EQ
    cases hs2:lt x y with
    |true=>
     rw [hs2] at EQ;obtain ⟨BP,kG,aM,Hy,Vx,AJ,vQ,Hfy,lQ,Hf,HC,qK⟩:=zh12 hoq dJ hall hy hye jX hfx Ar hcl hf hC hs2;clear hoq dJ hall hy hye jX hfx Ar hcl hf hC hs2 hym
     go_wp2_with fail
     refine i7 zk zk ?_
     iterate 17 (first
      | (refine j6 ?_ (fun K hK=> ?_)
         ·first|(go_simp;done)|(go_simp;simp [undef];done)
         go_simp;refine hK _ ?_;clear hK K)
      | (refine j7 ?_ ?_ (fun w' hw'=> ?_) (fun K hK=> ?_)
         ·first|(go_simp;done)|(go_simp;simp [undef];done)
         rotate_left
         ·obtain ⟨⟨f1,f2⟩,f3,f4⟩:=Hf.out w' hw';have f5:=HF.out;go_simp;rfl
         go_simp;refine hK _ ?_;clear hK K)
      | (refine m9 ?_ ?_ ?_ ?_ (fun w' hw'=> ?_) ?_ (fun K hK=> ?_)
         ·first|(go_simp;done)|(go_simp;simp [undef];done)
         rotate_left 3
         ·obtain ⟨⟨f1,f2⟩,f3,f4⟩:=Hf.out w' hw';have f5:=HF.out;go_simp;constructor<;>rfl
         ·first|with_reducible exact lQ.out
         go_simp;refine hK _ ?_;clear hK K))
     refine j8 (fun w' hw'=> ?_);have hb1:=Hf.out w' hw';have hox:=BP.out.mod hw' zi;have hmx:=kG.out.trans hw' (fun _ _ h=>h.elim);obtain ⟨wx,hwx⟩:∃wx:World,wx=w':=⟨_,rfl⟩;rw [<-hwx] at hb1 hox hmx⊢;clear hwx hw';obtain ⟨Hox,qB⟩:=zh2 hox hmx;clear hox hmx
     go_wp2_with fail
     have hS:(fun z:World=>(l8 z g (off+(j+1)*7) 7/\cellsOf z g (off+(j+1)*7) 7=x.cells.toArray)/\l8 z g (off+j*7) 7/\cellsOf z g (off+j*7) 7=y.cells.toArray) wx.drew:=hb1;refine i8 [.rd 0,.rd 1,.rd 2,.rd 3,.rd 4,.rd 5,.rd 6,.rd 7,.rd 8,.rd 9,.rd 10,.rd 11,.rd 12,.rd 13,.rd 14,.go 15,.go 16,.go 17] [0,1,2,3,4,5,6,7,8,9,10,11,12,13,14] (fun z:World=>(l8 z g (off+(j+1)*7) 7/\cellsOf z g (off+(j+1)*7) 7=x.cells.toArray)/\l8 z g (off+j*7) 7/\cellsOf z g (off+j*7) 7=y.cells.toArray) zk zk (fun _ _ d _ _ h=>(by cases d<;>exact h)) ?_
     iterate 15 (
      refine n4 rfl ?_ (fun _=>hS) ?_ (fun w0 h0=> ?_) (fun K hK=> ?_)
      ·exact zg
      rotate_left
      ·(try simp only [zz1,zz2,zz3])
       first
        |(obtain ⟨⟨f1,f2⟩,f3,f4⟩:=h0 rfl;clear h0;go_simp;with_reducible rfl)
        |(clear h0;go_simp;with_reducible rfl)
      (try simp only [zz1,zz2,zz3])
      go_simp;refine hK _ ?_;clear hK K)
     have hoe:=b3K (f:=Cnd.cells) (fun _=>rfl) (l:=mvL s rest x (j+1)) (j:=j+1) (w:=wx.drew) (by rw [AJ.out];exact Hox.out) (by rw [AJ.out];exact hjl) y;rw [AJ.out] at hoe;obtain ⟨g1,off1,cap1,cur1,e1,e2,e3, -,e5⟩:=hoe;cases e1
     have Vy:(cur1.toList.take (off+(j+1)*7)++y.cells++cur1.toList.drop (off+(j+1)*7+y.cells.length)).toArray=(cur1.toList.take (off+(j+1)*7)++y.cells++cur1.toList.drop (off+(j+1)*7+y.cells.length)).toArray:=rfl;refine i6 (j0 rfl ?_ (fun K hK=> ?_))
     ·exact zg
     (try simp only [zz1,zz2,zz3]);refine a0H 87 (.tmp 51) (.tmp 46) rfl g (off+(j+1)*7) rfl cur1 87 e2 y.cells rfl e3 zk (fun u hu=>zz15 (show y.cells.all (·.oneCell')=true from rfl) u hu) ?_;obtain ⟨w1,hw1⟩:∃w1:World,wx.drew.setRow g (cur1.toList.take (off+(j+1)*7)++y.cells++cur1.toList.drop (off+(j+1)*7+y.cells.length)).toArray=w1:=⟨_,rfl⟩;rw [hw1] at e5⊢;have hm1:Mod (l5 (.slice (some ⟨g,off,none⟩) l.length cap)) wx w1:=hw1▸((Mod.refl _ wx).drew).setRow (fun _=>by simp [l5,Value.ownBlock]) _;refine hK _ _ (fun h=>absurd h zd) ?_;clear hK K hw1 e2 e3 Vy hS;refine i6 (j0 rfl ?_ (fun K hK=> ?_))
     ·exact zg
     (try simp only [zz1,zz2,zz3]);go_simp;refine hK _ _ (fun h=>absurd h zd) ?_;clear hK K;have hl2:((mvL s rest x (j+1)).set (j+1) y).length=l.length:=by rw [List.length_set];exact AJ.out
     have hoe:=b3K (f:=Cnd.cells) (fun _=>rfl) (l:=(mvL s rest x (j+1)).set (j+1) y) (j:=j) (w:=w1) (by rw [hl2];exact e5) (by rw [hl2];omega) x;rw [hl2] at hoe;obtain ⟨g2,off2,cap2,cur2,e1,e2,e3, -,e6⟩:=hoe;cases e1
     have hsw:=b3M (rest:=rest) (x:=x) hjs;rw [Vx.out] at hsw;rw [hsw] at e6;refine i6 (j0 rfl ?_ (fun K hK=> ?_))
     ·exact zg
     (try simp only [zz1,zz2,zz3]);refine a0H 87 (.tmp 52) (.tmp 50) rfl g (off+j*7) rfl cur2 87 e2 x.cells rfl e3 zk (fun u hu=>zz15 (show x.cells.all (·.oneCell')=true from rfl) u hu) ?_;obtain ⟨w2,hw2⟩:∃w2:World,w1.setRow g (cur2.toList.take (off+j*7)++x.cells++cur2.toList.drop (off+j*7+x.cells.length)).toArray=w2:=⟨_,rfl⟩;rw [hw2] at e6⊢;have hm2:Mod (l5 (.slice (some ⟨g,off,none⟩) l.length cap)) wx w2:=hw2▸hm1.setRow (fun _=>by simp [l5,Value.ownBlock]) _;refine hK _ _ (fun h=>absurd h zd) ?_;clear hK K hw2 e2 e3 e5 hm1 hl2 hsw;refine m6 ?_;have Nn:=qB.out.trans hm2 zi
     have hal:∀z∈s.drop j,lt x z=true:=fun z hz=>by
      rw [List.drop_eq_getElem_cons hjs] at hz;rcases List.mem_cons.1 hz with rfl|hz
      ·rw [Vx.out];exact qK.out
      exact aM.out z hz
     obtain ⟨E6,Vz,Hal⟩:=zh3 e6 Nn hal;clear e6 Nn hal hm2
     go_wp2_with fail
     exact ⟨⟨j,rfl,zo,E6.out,Vz.out,Hal.out⟩,by simp [intOf]⟩
    | false=>
     rw [hs2] at EQ
     have hfin:a4u lt s x++rest=mvL s rest x (j+1):=by
      rw [a5r (j:=j+1) zo hall (fun k z hk hz=>by
       cases hk
       rw [hy] at hz;cases hz
       exact hs2)]
      unfold mvL;simp
     obtain ⟨BP,kG,aM,Hy,Vx,AJ,vQ,Hfy,lQ,Hf,HC,qK⟩:=zh12 hoq dJ hall hy hye jX hfx Ar hcl hf hC hs2;have cZ:=zh hfin;clear hoq dJ hall hy hye jX hfx Ar hcl hf hC hs2 hfin hym
     go_wp2_with fail
     refine i7 zk zk ?_
     iterate 17 (first
      | (refine j6 ?_ (fun K hK=> ?_)
         ·first|(go_simp;done)|(go_simp;simp [undef];done)
         go_simp;refine hK _ ?_;clear hK K)
      | (refine j7 ?_ ?_ (fun w' hw'=> ?_) (fun K hK=> ?_)
         ·first|(go_simp;done)|(go_simp;simp [undef];done)
         rotate_left
         ·obtain ⟨⟨f1,f2⟩,f3,f4⟩:=Hf.out w' hw';have f5:=HF.out;go_simp;rfl
         go_simp;refine hK _ ?_;clear hK K)
      | (refine m9 ?_ ?_ ?_ ?_ (fun w' hw'=> ?_) ?_ (fun K hK=> ?_)
         ·first|(go_simp;done)|(go_simp;simp [undef];done)
         rotate_left 3
         ·obtain ⟨⟨f1,f2⟩,f3,f4⟩:=Hf.out w' hw';have f5:=HF.out;go_simp;constructor<;>rfl
         ·first|with_reducible exact lQ.out
         go_simp;refine hK _ ?_;clear hK K))
     refine j8 (fun w' hw'=> ?_);have bS:=zh hw';clear hw'
     go_wp2_with fail
     refine ⟨⟨k+1,by go_num,zo,zo, ?_,kG.out.trans bS.out (fun _ _ h=>h.elim)⟩,by simp [intOf];omega⟩;rw [iA.out,show l.drop (k+1)=rest from Az.out,cZ.out];exact BP.out.mod bS.out zi
  have hkl':(l.length:Int)<=k:=zo
  have hfin:F3 lt (l.take k)++l.drop k=F3 lt l:=by
   rw [List.take_of_length_le zo,List.drop_of_length_le zo,zz11]
  rw [hfin] at hov;obtain ⟨Ii,nS,cZ⟩:=zh3 hov hmv hfin;clear hov hmv hfin
  go_wp2_with fail
  go_end0
  exact ⟨rfl,by rw [a0c];exact Ii.out,nS.out⟩
theorem b1o (F:FuncId) (hF:∀args w,(callFunc F args).run Tryz.prog w= .ok (.enter F args) w) (cf:Cnd->Cnd->Int) (w:World) (v:Value) (l:List Cnd) (hv:j2 w 87 7 v l.length (m5 l)) (hll:l.length<20)
 (hp:∀a∈l,∀b∈l,∀wx,Mod (l5 v) w wx->Calls Tryz.prog F #[.agg a.cells.toArray,.agg b.cells.toArray] wx fun e w'=>e= .returned (.int .i64 (cf a b))/\Mod (fun _=>False) wx w'):
 Calls Tryz.prog 80 #[v,.int .i64 l.length,.func (.func F) #[] #[]] w (a3w w v (F3 (fun a b=>decide (cf a b<0)) l)):=by
 have hin:=b1n F hF cf w v l hv zo hp;obtain ⟨a,cap,rfl,hcap⟩:=hv.shape;have h1:decide ((20:Int)<=l.length)=false:=by simp;omega
 have h2:decide ((20:Int)<l.length)=false:=by simp;omega
 have bN:(l.length:Int)<20:=zo
 obtain ⟨R,hR⟩:∃R,F3 (fun a b=>decide (cf a b<0)) l=R:=⟨_,rfl⟩;rw [hR] at hin⊢;obtain ⟨Hv,Hp,HF,nH,HR⟩:=zh5 hv hp hF hin hR;clear hv hp hF hin hR
 go_enter Tryz.func80,Tryz.ntmps80
 go_wp2_with fail
 go_loopw [7,8] (fun a b wr=>a= .int .i64 0/\b= .int .i64 20/\wr=w) (fun _ _ _=>0)
 case atStart=>exact ⟨rfl,rfl,rfl⟩
 case round=>
  obtain ⟨rfl,rfl,rfl⟩:=hrel
  go_wp2_with fail
  refine nH.out.mono ?_;rintro e w2 ⟨rfl,ho2,hm2⟩;obtain ⟨uY,bq⟩:=zh2 ho2 hm2;clear ho2 hm2
  go_wp2_with fail
  go_loopw [6] (fun a wr=>a= .int .i64 20/\wr=w2) (fun _ _=>0)
  case atStart=>exact ⟨rfl,rfl⟩
  case round=>
   obtain ⟨rfl,rfl⟩:=hrel
   go_wp2_with fail
   go_end0
   exact ⟨rfl,uY.out,bq.out⟩
theorem b5p (F:FuncId) (hF:∀args w,(callFunc F args).run Tryz.prog w= .ok (.enter F args) w) (cf:Cnd->Cnd->Int) (w:World) (v:Value) (l:List Cnd) (hv:j2 w 87 7 v l.length (m5 l)) (hll:l.length<20)
 (hp:∀a∈l,∀b∈l,∀wx,Mod (l5 v) w wx->Calls Tryz.prog F #[.agg a.cells.toArray,.agg b.cells.toArray] wx fun e w'=>e= .returned (.int .i64 (cf a b))/\Mod (fun _=>False) wx w'):
 Calls Tryz.prog 43 #[v,.func (.func F) #[] #[]] w (a3w w v (F3 (fun a b=>decide (cf a b<0)) l)):=by
 have hin:=b1o F hF cf w v l hv hll hp;obtain ⟨a,cap,rfl,hcap⟩:=hv.shape;have bN:(l.length:Int)<20:=zo
 obtain ⟨R,hR⟩:∃R,F3 (fun a b=>decide (cf a b<0)) l=R:=⟨_,rfl⟩;rw [hR] at hin⊢;obtain ⟨Hv,Hp,HF,nH,HR⟩:=zh5 hv hp hF hin hR;clear hv hp hF hin hR
 go_enter Tryz.func43,Tryz.ntmps43
 go_wp2_with fail
 refine nH.out.mono ?_;rintro e w2 ⟨rfl,ho2,hm2⟩;obtain ⟨uY,bq⟩:=zh2 ho2 hm2;clear ho2 hm2
 go_wp2_with fail
 go_end0
 exact ⟨rfl,uY.out,bq.out⟩
end
end Go.Proofs.YtebhabpahfmodaaGreatDoor
