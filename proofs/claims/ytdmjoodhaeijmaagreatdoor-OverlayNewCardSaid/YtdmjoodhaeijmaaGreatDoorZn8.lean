/- Lemmas. -/
import Derived.Test.YtdmjoodhaeijmaaGreatDoorZn4
import Derived.Great.BuildSlice
set_option maxHeartbeats 40000000
set_option maxRecDepth 20000
namespace Go.Proofs.YtdmjoodhaeijmaaGreatDoor
section
open Go.RowKit
theorem C0 {P:Program} {w:World} {ops:Array Oper} {rest:List Oper} {a:Act} {Q:Exit->Act->World->Prop} {d:Option Tmp} {tp:TypeId} {pos:String} {af:Array Edge} (t:TypeId) (x:Operand)
 (h:∃(e:TypeId) (sz:Nat),P.underlying t=some (.slice e)/\(P.info? e).map (·.size)=some sz/\((P.info? e).bind (·.zero)).isSome=true/\0<sz/\sz<=1000/\∃cs:List Value,a.eval x= .agg cs.toArray/\cs.length=sz/\
   wpList P ops Q rest (a.put d (.slice (some ⟨w.heap.size,0,none⟩) 1 1)) (w.alloc (.cells cs.toArray e))):wpList P ops Q (⟨d,.buildSlice t 1 #[(0,x)],tp,pos,af,none⟩::rest) a w:=by
 obtain ⟨e,sz,hu,hs,hz,h0,h1,cs,hx,hl,h⟩:=h
 cases hi:P.info? e with
 |none=>simp [hi] at hs
 |some i=>
  rw [hi] at hs hz;simp only [Option.map_some,Option.some.injEq,Option.bind_some] at hs hz;obtain ⟨z,hzz⟩:=Option.isSome_iff_exists.1 hz;refine wpList_buildSlice rfl t e 1 #[(0,x)] rfl cs.toArray i z hu hi hzz (by rw [hs];omega) (by rw [hs];omega) ?_ h;have hf:=Great.fill_whole (s:=sz) h0 [.agg cs.toArray] ((Array.range (1*sz)).map (z.cells[· %z.cells.size]!)) (fun v hv=>by rw [List.mem_singleton.1 hv];simp [Value.cells,hl]) (by simp);rw [hs];have e1:(#[(0,x)].map fun (i,x)=>(i,a.eval x)).toList=[(0,Value.agg cs.toArray)]:=by simp [hx]
  rw [e1];simpa [Value.cells] using hf
theorem b6e {α:Type} {L A X B C:List α} {off n:Nat} (hoff:off<=L.length) (h:(L.drop off).take n=A++(X++B)) (hC:C.length=X.length) (hn:n=A.length+(X.length+B.length)):
 ((L.take (off+A.length)++C++L.drop (off+A.length+C.length)).drop off).take n=A++(C++B):=by
 obtain ⟨R,hR⟩:∃R,L=L.take off++((A++(X++B))++R):=⟨(L.drop off).drop n,by rw [<-h,List.take_append_drop,List.take_append_drop]⟩;have hP:(L.take off).length=off:=by rw [List.length_take];omega
 generalize L.take off=Q at hR hP
 have e1:L.take (off+A.length)=Q++A:=by
  rw [hR,show Q++(A++(X++B)++R)=(Q++A)++(X++(B++R)) by simp,show off+A.length=(Q++A).length by rw [zz4,hP],List.take_left]
 have e2:L.drop (off+A.length+C.length)=B++R:=by
  rw [hR,show Q++(A++(X++B)++R)=((Q++A)++X)++(B++R) by simp,show off+A.length+C.length=((Q++A)++X).length by rw [zz4,zz4,hP,hC],List.drop_left]
 rw [e1,e2,show Q++A++C++(B++R)=Q++((A++(C++B))++R) by simp]
 conv=>lhs;arg 2;arg 1;rw [<-hP]
 rw [List.drop_left,show n=(A++(C++B)).length by rw [zz4,zz4,hC];exact hn,List.take_left]
theorem W1 {α:Type} {f:α->List Value} {sz:Nat} (hf:∀a,(f a).length=sz) (l:List α):(l.flatMap f).length=l.length*sz:=by
 induction l with
 |nil=>simp
 |cons a l ih=>rw [List.flatMap_cons,zz4,ih,hf,zz9,Nat.add_mul];omega
theorem b3p {α:Type} {f:α->List Value} {sz:Nat} (hf:∀a,(f a).length=sz) {e:TypeId} {w:World} {v:Value} {l:List α} {j:Nat} (h:g7 w e sz v l.length (l.flatMap f)) (hj:j<l.length) (c:α):
 ∃g off cap cur,v= .slice (some ⟨g,off,none⟩) l.length cap/\w.heap[g]? =some (.cells cur e (0,0))/\off+j*sz+sz<=cur.size/\l.length<=cap/\
 g7 (w.setRow g (cur.toList.take (off+j*sz)++f c++cur.toList.drop (off+j*sz+(f c).length)).toArray) e sz v l.length ((l.set j c).flatMap f):=by
 rcases h.2 with ⟨-,h0⟩|⟨g,off,cap,cur,hv,hg,hn,hc,hs,ht⟩
 ·omega
 have hsz:off+l.length*sz<=cur.size:=by
  have:l.length*sz<=cap*sz:=Nat.mul_le_mul_right _ hn;omega
 have hjs:j*sz+sz<=l.length*sz:=by
  have:(j+1)*sz<=l.length*sz:=Nat.mul_le_mul_right _ hj;rw [Nat.add_mul,Nat.one_mul] at this;exact this
 have hsplit:l=l.take j++l[j]::l.drop (j+1):=by
  rw [<-List.drop_eq_getElem_cons hj,List.take_append_drop]
 have htl:(l.take j).length=j:=by rw [List.length_take];omega
 have hset:l.set j c=l.take j++c::l.drop (j+1):=by rw [List.set_eq_take_append_cons_drop,if_pos hj]
 have hdl:(l.drop (j+1)).length=l.length - (j+1):=List.length_drop ..
 have hlen:l.length*sz=j*sz+(sz+(l.length - (j+1))*sz):=by
  conv=>lhs;rw [show l.length=j+(1+(l.length - (j+1))) by omega]
  rw [Nat.add_mul,Nat.add_mul,Nat.one_mul]
 refine ⟨g,off,cap,cur,hv,hg,zo,hn,⟨by rw [W1 hf,List.length_set],.inr ⟨g,off,cap,_,hv,setRow_heap w g cur _ _ _ hg,hn,hc, ?_, ?_⟩⟩⟩
 ·simp only [List.size_toArray,zz4,List.length_take,List.length_drop,Array.length_toList,hf];omega
 have hq:=b6e (L:=cur.toList) (A:=(l.take j).flatMap f) (X:=f l[j]) (B:=(l.drop (j+1)).flatMap f) (C:=f c) (off:=off) (n:=l.length*sz) (by rw [Array.length_toList];omega)
  (by rw [ht];(conv=>lhs;rw [hsplit]);rw [List.flatMap_append,List.flatMap_cons]) (by rw [hf,hf]) (by rw [W1 hf,W1 hf,htl,hdl,hf];exact hlen)
 rw [W1 hf,htl] at hq;rw [hset,List.flatMap_append,List.flatMap_cons];exact hq
theorem a5S {P:Program} {w:World} (ty:TypeId) (g off:Nat) (cur:Array Value) (t:TypeId) (cs:List Value) (hg:w.heap[g]? =some (.cells cur t (0,0))) (hl:off+cs.length<=cur.size)
 (hi:(P.info? ty).map (·.size)=some cs.length) (h1:∀u∈cs,u.oneCell'=true):
 (storeVar ty ⟨g,off,none⟩ (.agg cs.toArray)).run P w= .ok () (w.setRow g (cur.toList.take off++cs++cur.toList.drop (off+cs.length)).toArray):=by
 have hst:=run_storeCells_at P g off t cs 0 cur w hg zo h1
 cases hq:P.info? ty with
 |none=>simp [hq] at hi
 |some i=>
  have hs:i.size=cs.length:=by simpa [hq] using hi
  simp only [Nat.add_zero] at hst;simp [storeVar,Value.cells,sizeOf,typeInfo,hq,hs,hst]
theorem a0M {P:Program} {w:World} {o:Oper} {a:Act} {K:Act->World->Prop} {Q:Exit->Act->World->Prop} (ty:TypeId) (x y:Operand) (ho:o.op= .store ty x y) (g off:Nat)
 (hx:a.eval x= .pointer (some ⟨g,off,none⟩)) (cur:Array Value) (t:TypeId) (hg:w.heap[g]? =some (.cells cur t (0,0))) (cs:List Value) (hy:a.eval y= .agg cs.toArray) (hl:off+cs.length<=cur.size)
 (hi:(P.info? ty).map (·.size)=some cs.length) (h1:∀u∈cs,u.oneCell'=true)
 (h:K (a.put o.dst undef) (w.setRow g (cur.toList.take off++cs++cur.toList.drop (off+cs.length)).toArray)):o.wp P a w K Q:=by
 have hr:=a5S (P:=P) (w:=w) ty g off cur t cs hg hl hi h1;unfold Oper.wp execOp;simp only [ho,hx,hy,Instr.storeAt,Instr.sureAddr,Sem.run_bind,Sem.run_pure,Result.andThen_ok,hr];exact h
def V3 (lt:Cnd->Cnd->Bool) (x:Cnd):List Cnd->List Cnd
 |[]=>[x]
 |y::r=>if lt x y then y::V3 lt x r else x::y::r
def a30 (lt:Cnd->Cnd->Bool) (s:List Cnd) (x:Cnd):List Cnd:=(V3 lt x s.reverse).reverse
def F7 (lt:Cnd->Cnd->Bool) (l:List Cnd):List Cnd:=l.foldl (a30 lt) []
theorem a8w (lt:Cnd->Cnd->Bool) (x:Cnd) (p q:List Cnd) (h:∀y∈p,lt x y=true):V3 lt x (p++q)=p++V3 lt x q:=by
 induction p with
 |nil=>rfl
 |cons y p ih=>
  have e:=ih fun z hz=>h z (List.mem_cons_of_mem _ hz);show (if lt x y=true then y::V3 lt x (p++q) else _)=_;rw [if_pos (h y List.mem_cons_self),e];rfl
theorem a5b {lt:Cnd->Cnd->Bool} {s:List Cnd} {x:Cnd} {j:Nat} (hj:j<=s.length) (h:∀y∈s.drop j,lt x y=true) (hs:∀k y,j=k+1->s[k]? =some y->lt x y=false):a30 lt s x=s.take j++x::s.drop j:=by
 have hsp:s.reverse=(s.drop j).reverse++(s.take j).reverse:=by rw [<-List.reverse_append,List.take_append_drop]
 unfold a30;rw [hsp,a8w lt x _ _ (fun y hy=>h y (List.mem_reverse.1 hy))]
 have hq:V3 lt x (s.take j).reverse=x::(s.take j).reverse:=by
  cases j with
  |zero=>rfl
  |succ k=>
   have hk:k<s.length:=hj;rw [List.take_succ_eq_append_getElem hk,List.reverse_append];show (if lt x s[k]=true then _ else _)=_;rw [if_neg (by rw [hs k s[k] rfl (zz5 hk)];decide)];rfl
 rw [hq];simp
theorem a0c (lt:Cnd->Cnd->Bool) (l:List Cnd) (x:Cnd):F7 lt (l++[x])=a30 lt (F7 lt l) x:=by unfold F7;rw [List.foldl_append];rfl
theorem a2A (lt:Cnd->Cnd->Bool) (x:Cnd) (s:List Cnd):(V3 lt x s).Perm (x::s):=by
 induction s with
 |nil=>exact List.Perm.refl _
 |cons y r ih=>
  unfold V3;split
  ·exact (ih.cons y).trans (List.Perm.swap x y r)
  exact List.Perm.refl _
theorem b0L (lt:Cnd->Cnd->Bool) (s:List Cnd) (x:Cnd):(a30 lt s x).Perm (x::s):=by
 unfold a30;exact (List.reverse_perm _).trans ((a2A lt x _).trans ((List.reverse_perm s).cons x))
theorem a1q (lt:Cnd->Cnd->Bool) (l:List Cnd):(F7 lt l).Perm l:=by
 suffices∀r:List Cnd,(F7 lt r.reverse).Perm r.reverse by
  have:=this l.reverse;rwa [List.reverse_reverse] at this
 intro r
 induction r with
 |nil=>exact List.Perm.refl _
 |cons x r ih=>
  rw [List.reverse_cons,a0c];exact (b0L lt _ x).trans ((ih.cons x).trans (List.perm_append_singleton x r.reverse).symm)
theorem a0d (lt:Cnd->Cnd->Bool) (l:List Cnd):(F7 lt l).length=l.length:=(a1q lt l).length_eq
theorem a5T:(match Tryz.prog.underlying 126 with|some (.struct _)=>true|some (.array _ _)=>true|_=>false)=true:=zk
theorem K7 {ρ:Operand->Value} {dst:Option Tmp} {x:Operand} {type:TypeId} {pos:String} {after:Array Edge} {guard:Option (Nat×Bool)} {w:World} (h:a4b w (ρ x) 7):
 Sem.run Tryz.prog (execOp ρ ⟨dst,.load 126 x,type,pos,after,guard⟩) w= .ok (.value (.agg (W7 w (ρ x) 7))) w:=L7 a5T b2G h
attribute [local go_sem ↓] K7
def a2X (w:World) (v:Value) (l:List Cnd) (e:Ending) (w':World):Prop:=e= .returned (.tuple #[])/\g7 w' 126 7 v l.length (q8 l)/\Mod (inBlock v) w w'
def mvL (s rest:List Cnd) (x:Cnd) (j:Nat):List Cnd:=s.take j++x::(s.drop j++rest)
theorem a8x {s rest:List Cnd} {x:Cnd} {j:Nat} (hj:j<=s.length):(mvL s rest x j).length=s.length+1+rest.length:=by
 unfold mvL;simp only [zz4,zz9,List.length_take,List.length_drop];omega
theorem b6f {s rest:List Cnd} {x:Cnd} {j:Nat} (hj:j<=s.length):(mvL s rest x j)[j]? =some x:=by
 unfold mvL;have:(s.take j).length=j:=by rw [List.length_take];omega
 rw [List.getElem?_append_right zo,this,Nat.sub_self];rfl
theorem b3q {s rest:List Cnd} {x:Cnd} {k:Nat} (hk:k<s.length):(mvL s rest x (k+1))[k]? =some s[k]:=by
 unfold mvL;rw [List.getElem?_append_left (by rw [List.length_take];omega),List.getElem?_take,if_pos zo,zz5 hk]
theorem b3r {s rest:List Cnd} {x:Cnd} {k:Nat} (hk:k<s.length):((mvL s rest x (k+1)).set (k+1) s[k]).set k x=mvL s rest x k:=by
 unfold mvL;have h1:(s.take (k+1)).length=k+1:=by rw [List.length_take];omega
 have h2:(s.take k).length=k:=by rw [List.length_take];omega
 have h3:s.take (k+1)=s.take k++[s[k]]:=List.take_succ_eq_append_getElem hk;have h4:s.drop k=s[k]::s.drop (k+1):=List.drop_eq_getElem_cons hk;rw [List.set_append_right _ _ zo,h1,Nat.sub_self,List.set_cons_zero,h3,zz12,List.set_append_right _ _ zo,h2,Nat.sub_self,h4];rfl
theorem b46 {s rest:List Cnd} {x:Cnd}:mvL s rest x s.length=s++x::rest:=by
 unfold mvL;rw [List.take_length,List.drop_length];rfl
def b6F (w:World) (v:Value) (n:Nat) (lt:Cnd->Cnd->Bool) (s rest:List Cnd) (x:Cnd) (k:Nat) (i:Value) (wr:World):Prop:=
 ∃j:Nat,i= .int .i64 j/\j<=k/\g7 wr 126 7 v n (q8 (mvL s rest x j))/\Mod (inBlock v) w wr/\∀y∈s.drop j,lt x y=true
theorem b0M (F:FuncId) (hF:∀args w,(callFunc F args).run Tryz.prog w= .ok (.enter F args) w) (cf:Cnd->Cnd->Int) (w:World) (v:Value) (l:List Cnd) (hv:g7 w 126 7 v l.length (q8 l)) (hll:l.length<=1000)
 (hp:∀a∈l,∀b∈l,∀wx,Mod (inBlock v) w wx->Calls Tryz.prog F #[.agg a.cells.toArray,.agg b.cells.toArray] wx fun e w'=>e= .returned (.int .i64 (cf a b))/\Mod (fun _=>False) wx w'):
 Calls Tryz.prog 159 #[v,.int .i64 0,.int .i64 l.length,.func (.func F) #[] #[]] w (a2X w v (F7 (fun a b=>decide (cf a b<0)) l)):=by
 obtain ⟨a,cap,rfl,hcap⟩:=hv.shape;obtain ⟨lt,hlt⟩:∃lt:Cnd->Cnd->Bool,(fun a b=>decide (cf a b<0))=lt:=⟨_,rfl⟩;have hlt2:∀a b,decide (cf a b<0)=lt a b:=fun a b=>by rw [<-hlt]
 rw [hlt];have df:(l.length:Int)<=1000:=zo
 have bG:(l.length:Int)<=cap:=zo
 refine hh5 hv hp hF hlt hlt2 fun Hv Hp HF Yl yQ=> ?_;clear hv hp hF hlt hlt2
 go_enter Tryz.func159,Tryz.ntmps159
 go_wp2_with fail
 go_loopw [8] (fun i wr=>∃k:Nat,i= .int .i64 k/\1<=k/\k<=l.length+1/\g7 wr 126 7 (.slice a l.length cap) l.length (q8 (F7 lt (l.take k)++l.drop k))/\Mod (inBlock (.slice a l.length cap)) w wr) (fun i _=>l.length - (intOf i).toNat)
 case atStart=>
  refine ⟨1,rfl,Nat.le_refl _,zo, ?_,Mod.refl _ _⟩
  have:F7 lt (l.take 1)++l.drop 1=l:=by
   cases l with
   |nil=>rfl
   |cons x l=>rfl
  rw [this];exact Hv.out
 case round=>
  obtain ⟨k,rfl,hk1,hk,hov,hmv⟩:=hrel;by_cases hkl:k<l.length
  ·have hkl':(k:Int)<l.length:=zo
   obtain ⟨x,hx⟩:∃x,l[k]? =some x:=⟨_,zz5 hkl⟩;have hxm:=zz8 hx;obtain ⟨s,hs⟩:∃s,F7 lt (l.take k)=s:=⟨_,rfl⟩;obtain ⟨rest,hrest⟩:∃r,l.drop (k+1)=r:=⟨_,rfl⟩;have hsl:s.length=k:=by rw [<-hs,a0d,List.length_take];omega
   have hsm:∀y∈s,y∈l:=fun y hy=>by
    rw [<-hs] at hy;exact List.mem_of_mem_take ((a1q lt _).mem_iff.1 hy)
   have hdr:l.drop k=x::rest:=by
    rw [List.drop_eq_getElem_cons hkl,hrest];congr 1;exact (zz6 hx).2
   have hlen:s.length+1+rest.length=l.length:=by rw [hsl,<-hrest,List.length_drop];omega
   have hnext:F7 lt (l.take (k+1))=a30 lt s x:=by
    rw [List.take_succ_eq_append_getElem hkl,a0c,hs];congr 1;exact (zz6 hx).2
   rw [hs,hdr,<-b46,hsl] at hov;refine hh8 hx hxm hs hrest hsl hsm hdr hlen fun Hx iJ Hs wX uQ Hsm Ym Hlen=> ?_;refine hh3 hnext hov hmv fun kU Il kL=> ?_;clear hx hxm hs hrest hsl hsm hdr hlen hnext hov hmv
   go_wp2_with fail
   go_loopw [9] (fun i wq=>b6F w (.slice a l.length cap) l.length lt s rest x k i wq) (fun i _=>(intOf i).toNat)
   case atStart=>exact ⟨k,by go_num,Nat.le_refl _,Il.out,kL.out,fun y hy=>by rw [List.drop_of_length_le (Nat.le_of_eq uQ.out)] at hy;cases hy⟩
   case round=>
    obtain ⟨j,rfl,hj,hoq,zY,hall⟩:=hrel;rcases j with _|j
    ·have hfin:a30 lt s x++rest=mvL s rest x 0:=by
      rw [a5b (j:=0) (Nat.zero_le _) hall (fun k y hk=>zo)];rfl
     refine hh4 hoq zY hall hfin fun xQ Gq aO bF=> ?_;clear hoq zY hall hfin
     go_wp2_with fail
     refine g9 zk zk ?_
     iterate 17 (first
      | (refine j1 ?_ (fun K hK=> ?_)
         ·first|(go_simp;done)|(go_simp;simp [undef];done)
         go_simp;refine hK _ ?_;clear hK K)
      | (refine l9 ?_ ?_ (fun w' hw'=> ?_) (fun K hK=> ?_)
         ·first|(go_simp;done)|(go_simp;simp [undef];done)
         rotate_left
         ·skip
          go_simp;rfl
         go_simp;refine hK _ ?_;clear hK K))
     refine j8 (fun w' hw'=> ?_);have dJ:=zh hw';clear hw'
     go_wp2_with fail
     refine ⟨⟨k+1,by go_num,zo,zo, ?_,Gq.out.trans dJ.out (fun _ _ h=>h.elim)⟩,by simp [intOf];omega⟩;rw [kU.out,show l.drop (k+1)=rest from wX.out,bF.out];exact xQ.out.mod dJ.out zi
    have hjs:j<s.length:=by have:=uQ.out;omega
    obtain ⟨y,hy⟩:∃y,s[j]? =some y:=⟨_,zz5 hjs⟩;have hye:s[j]=y:=(zz6 hy).2;have hym:=Hsm.out y (zz8 hy);have hjl:j+1<l.length:=by have:=Hlen.out;omega
    have Wj:((j:Int)+1)<l.length:=zo
    have hj0:(j:Int)<l.length:=zo
    have dw:(mvL s rest x (j+1)).length=l.length:=by rw [a8x zo,Hlen.out]
    obtain ⟨g,off,hga,hfx⟩:∃g off,a=some ⟨g,off,none⟩/\d8 wr g (off+(j+1)*7) x.cells:=U4 (by rw [dw];exact hoq.rd) (b6f zo);subst hga;obtain ⟨g',off',hga,mU⟩:=U4 (j:=j) (x:=y) (by rw [dw];exact hoq.rd) (by rw [b3q hjs,hye]);cases hga
    have hcl:=fun (wx:World) (hx:Mod (fun _=>False) wr wx)=>(Hp.out x iJ.out y hym wx (zY.trans hx (fun _ _ h=>h.elim))).mono fun e w'' (h:_/\_)=>(⟨h.1,hx.trans h.2 zi⟩:e= .returned (.int .i64 (cf x y))/\Mod (fun _=>False) wr w'')
    have hf:∀w',Mod (fun _=>False) wr w'->(l4 w' g (off+(j+1)*7) 7/\cellsOf w' g (off+(j+1)*7) 7=x.cells.toArray)/\l4 w' g (off+j*7) 7/\cellsOf w' g (off+j*7) 7=y.cells.toArray:=fun w' hw'=>
     ⟨⟨(hfx.mod hw' id).all rfl,(hfx.mod hw' id).is rfl⟩,(mU.mod hw' id).all rfl,(mU.mod hw' id).is rfl⟩
    have a1:IntKind.i64.wrap (j:Int)=j:=by rw [IntKind.wrap_i64];omega
    have a2:(0:Int)<j+1:=zo
    have a3:(0:Int)<=j+1:=zo
    obtain ⟨C,hC⟩:∃C,cf x y=C:=⟨_,rfl⟩;have zZ:=yQ.out x y;rw [hC] at hcl zZ
    cases hs2:lt x y with
    |true=>
     rw [hs2] at zZ;refine hh8 hoq zY hall hy hye dw hfx mU fun xQ Gq aO Hy Ny ym Wl Wm=> ?_;refine hh4 hcl hf hC hs2 fun dO Hf HC nH=> ?_;clear hoq zY hall hy hye dw hfx mU hcl hf hC hs2 hym
     go_wp2_with fail
     refine g9 zk zk ?_
     iterate 17 (first
      | (refine j1 ?_ (fun K hK=> ?_)
         ·first|(go_simp;done)|(go_simp;simp [undef];done)
         go_simp;refine hK _ ?_;clear hK K)
      | (refine l9 ?_ ?_ (fun w' hw'=> ?_) (fun K hK=> ?_)
         ·first|(go_simp;done)|(go_simp;simp [undef];done)
         rotate_left
         ·obtain ⟨⟨f1,f2⟩,f3,f4⟩:=Hf.out w' hw';have f5:=HF.out;go_simp;rfl
         go_simp;refine hK _ ?_;clear hK K)
      | (refine q7 ?_ ?_ ?_ ?_ (fun w' hw'=> ?_) ?_ (fun K hK=> ?_)
         ·first|(go_simp;done)|(go_simp;simp [undef];done)
         rotate_left 3
         ·obtain ⟨⟨f1,f2⟩,f3,f4⟩:=Hf.out w' hw';have f5:=HF.out;go_simp;constructor<;>rfl
         ·first|with_reducible exact dO.out
         go_simp;refine hK _ ?_;clear hK K))
     refine j8 (fun w' hw'=> ?_);have hb1:=Hf.out w' hw';have hox:=xQ.out.mod hw' zi;have hmx:=Gq.out.trans hw' (fun _ _ h=>h.elim);obtain ⟨wx,hwx⟩:∃wx:World,wx=w':=⟨_,rfl⟩;rw [<-hwx] at hb1 hox hmx⊢;clear hwx hw';refine hh2 hox hmx fun Wn nI=> ?_;clear hox hmx
     go_wp2_with fail
     have hS:(fun z:World=>(l4 z g (off+(j+1)*7) 7/\cellsOf z g (off+(j+1)*7) 7=x.cells.toArray)/\l4 z g (off+j*7) 7/\cellsOf z g (off+j*7) 7=y.cells.toArray) wx.drew:=hb1;refine i6 [.rd 0,.rd 1,.rd 2,.rd 3,.rd 4,.rd 5,.rd 6,.rd 7,.rd 8,.rd 9,.rd 10,.rd 11,.rd 12,.rd 13,.rd 14,.go 15,.go 16,.go 17] [0,1,2,3,4,5,6,7,8,9,10,11,12,13,14] (fun z:World=>(l4 z g (off+(j+1)*7) 7/\cellsOf z g (off+(j+1)*7) 7=x.cells.toArray)/\l4 z g (off+j*7) 7/\cellsOf z g (off+j*7) 7=y.cells.toArray) zk zk (fun _ _ d _ _ h=>(by cases d<;>exact h)) ?_
     iterate 15 (
      refine wrd hS fun K hK=> ?_
      go_simp;refine hK _ ?_;clear hK K)
     have hoe:=b3p (f:=Cnd.cells) (fun _=>rfl) (l:=mvL s rest x (j+1)) (j:=j+1) (w:=wx.drew) (by rw [ym.out];exact Wn.out) (by rw [ym.out];exact hjl) y;rw [ym.out] at hoe;obtain ⟨g1,off1,cap1,cur1,e1,e2,e3, -,e5⟩:=hoe;cases e1
     have Nz:(cur1.toList.take (off+(j+1)*7)++y.cells++cur1.toList.drop (off+(j+1)*7+y.cells.length)).toArray=(cur1.toList.take (off+(j+1)*7)++y.cells++cur1.toList.drop (off+(j+1)*7+y.cells.length)).toArray:=rfl;refine wgo fun K hK=> ?_;(try simp only [zz1,zz2,zz3]);refine a0M 126 (.tmp 51) (.tmp 46) rfl g (off+(j+1)*7) rfl cur1 126 e2 y.cells rfl e3 zk (fun u hu=>zz15 (show y.cells.all (·.oneCell')=true from rfl) u hu) ?_;obtain ⟨w1,hw1⟩:∃w1:World,wx.drew.setRow g (cur1.toList.take (off+(j+1)*7)++y.cells++cur1.toList.drop (off+(j+1)*7+y.cells.length)).toArray=w1:=⟨_,rfl⟩;rw [hw1] at e5⊢;have hm1:Mod (inBlock (.slice (some ⟨g,off,none⟩) l.length cap)) wx w1:=hw1▸((Mod.refl _ wx).drew).setRow (fun _=>by simp [inBlock,Value.ownBlock]) _;refine hK _ _ (fun h=>absurd h zd) ?_;clear hK K hw1 e2 e3 Nz hS;refine wgo fun K hK=> ?_;(try simp only [zz1,zz2,zz3]);go_simp;refine hK _ _ (fun h=>absurd h zd) ?_;clear hK K;have hl2:((mvL s rest x (j+1)).set (j+1) y).length=l.length:=by rw [List.length_set];exact ym.out
     have hoe:=b3p (f:=Cnd.cells) (fun _=>rfl) (l:=(mvL s rest x (j+1)).set (j+1) y) (j:=j) (w:=w1) (by rw [hl2];exact e5) (by rw [hl2];omega) x;rw [hl2] at hoe;obtain ⟨g2,off2,cap2,cur2,e1,e2,e3, -,e6⟩:=hoe;cases e1
     have hsw:=b3r (rest:=rest) (x:=x) hjs;rw [Ny.out] at hsw;rw [hsw] at e6;refine wgo fun K hK=> ?_;(try simp only [zz1,zz2,zz3]);refine a0M 126 (.tmp 52) (.tmp 50) rfl g (off+j*7) rfl cur2 126 e2 x.cells rfl e3 zk (fun u hu=>zz15 (show x.cells.all (·.oneCell')=true from rfl) u hu) ?_;obtain ⟨w2,hw2⟩:∃w2:World,w1.setRow g (cur2.toList.take (off+j*7)++x.cells++cur2.toList.drop (off+j*7+x.cells.length)).toArray=w2:=⟨_,rfl⟩;rw [hw2] at e6⊢;have hm2:Mod (inBlock (.slice (some ⟨g,off,none⟩) l.length cap)) wx w2:=hw2▸hm1.setRow (fun _=>by simp [inBlock,Value.ownBlock]) _;refine hK _ _ (fun h=>absurd h zd) ?_;clear hK K hw2 e2 e3 e5 hm1 hl2 hsw;refine p8 ?_;have Gr:=nI.out.trans hm2 zi
     have hal:∀z∈s.drop j,lt x z=true:=fun z hz=>by
      rw [List.drop_eq_getElem_cons hjs] at hz;rcases List.mem_cons.1 hz with rfl|hz
      ·rw [Ny.out];exact nH.out
      exact aO.out z hz
     refine hh3 e6 Gr hal fun E6 NA Wo=> ?_;clear e6 Gr hal hm2
     go_wp2_with fail
     exact ⟨⟨j,rfl,zo,E6.out,NA.out,Wo.out⟩,by simp [intOf]⟩
    | false=>
     rw [hs2] at zZ
     have hfin:a30 lt s x++rest=mvL s rest x (j+1):=by
      rw [a5b (j:=j+1) zo hall (fun k z hk hz=>by
       cases hk
       rw [hy] at hz;cases hz
       exact hs2)]
      unfold mvL;simp
     refine hh8 hoq zY hall hy hye dw hfx mU fun xQ Gq aO Hy Ny ym Wl Wm=> ?_;refine hh5 hcl hf hC hs2 hfin fun dO Hf HC nH bF=> ?_;clear hoq zY hall hy hye dw hfx mU hcl hf hC hs2 hfin hym
     go_wp2_with fail
     refine g9 zk zk ?_
     iterate 17 (first
      | (refine j1 ?_ (fun K hK=> ?_)
         ·first|(go_simp;done)|(go_simp;simp [undef];done)
         go_simp;refine hK _ ?_;clear hK K)
      | (refine l9 ?_ ?_ (fun w' hw'=> ?_) (fun K hK=> ?_)
         ·first|(go_simp;done)|(go_simp;simp [undef];done)
         rotate_left
         ·obtain ⟨⟨f1,f2⟩,f3,f4⟩:=Hf.out w' hw';have f5:=HF.out;go_simp;rfl
         go_simp;refine hK _ ?_;clear hK K)
      | (refine q7 ?_ ?_ ?_ ?_ (fun w' hw'=> ?_) ?_ (fun K hK=> ?_)
         ·first|(go_simp;done)|(go_simp;simp [undef];done)
         rotate_left 3
         ·obtain ⟨⟨f1,f2⟩,f3,f4⟩:=Hf.out w' hw';have f5:=HF.out;go_simp;constructor<;>rfl
         ·first|with_reducible exact dO.out
         go_simp;refine hK _ ?_;clear hK K))
     refine j8 (fun w' hw'=> ?_);have dJ:=zh hw';clear hw'
     go_wp2_with fail
     refine ⟨⟨k+1,by go_num,zo,zo, ?_,Gq.out.trans dJ.out (fun _ _ h=>h.elim)⟩,by simp [intOf];omega⟩;rw [kU.out,show l.drop (k+1)=rest from wX.out,bF.out];exact xQ.out.mod dJ.out zi
  have hkl':(l.length:Int)<=k:=zo
  have hfin:F7 lt (l.take k)++l.drop k=F7 lt l:=by
   rw [List.take_of_length_le zo,List.drop_of_length_le zo,zz11]
  rw [hfin] at hov;refine hh3 hov hmv hfin fun Il kL bF=> ?_;clear hov hmv hfin
  go_wp2_with fail
  go_end0
  exact ⟨rfl,by rw [a0d];exact Il.out,kL.out⟩
theorem b0N (F:FuncId) (hF:∀args w,(callFunc F args).run Tryz.prog w= .ok (.enter F args) w) (cf:Cnd->Cnd->Int) (w:World) (v:Value) (l:List Cnd) (hv:g7 w 126 7 v l.length (q8 l)) (hll:l.length<20)
 (hp:∀a∈l,∀b∈l,∀wx,Mod (inBlock v) w wx->Calls Tryz.prog F #[.agg a.cells.toArray,.agg b.cells.toArray] wx fun e w'=>e= .returned (.int .i64 (cf a b))/\Mod (fun _=>False) wx w'):
 Calls Tryz.prog 129 #[v,.int .i64 l.length,.func (.func F) #[] #[]] w (a2X w v (F7 (fun a b=>decide (cf a b<0)) l)):=by
 have hin:=b0M F hF cf w v l hv zo hp;obtain ⟨a,cap,rfl,hcap⟩:=hv.shape;have h1:decide ((20:Int)<=l.length)=false:=by simp;omega
 have h2:decide ((20:Int)<l.length)=false:=by simp;omega
 have df:(l.length:Int)<20:=zo
 obtain ⟨R,hR⟩:∃R,F7 (fun a b=>decide (cf a b<0)) l=R:=⟨_,rfl⟩;rw [hR] at hin⊢;refine hh5 hv hp hF hin hR fun Hv Hp HF NB HR=> ?_;clear hv hp hF hin hR
 go_enter Tryz.func129,Tryz.ntmps129
 go_wp2_with fail
 go_loopw [7,8] (fun a b wr=>a= .int .i64 0/\b= .int .i64 20/\wr=w) (fun _ _ _=>0)
 case atStart=>exact ⟨rfl,rfl,rfl⟩
 case round=>
  obtain ⟨rfl,rfl,rfl⟩:=hrel
  go_wp2_with fail
  refine NB.out.mono ?_;rintro e w2 ⟨rfl,ho2,hm2⟩;refine hh2 ho2 hm2 fun Ai aS=> ?_;clear ho2 hm2
  go_wp2_with fail
  go_loopw [6] (fun a wr=>a= .int .i64 20/\wr=w2) (fun _ _=>0)
  case atStart=>exact ⟨rfl,rfl⟩
  case round=>
   obtain ⟨rfl,rfl⟩:=hrel
   go_wp2_with fail
   go_end0
   exact ⟨rfl,Ai.out,aS.out⟩
theorem b47 (F:FuncId) (hF:∀args w,(callFunc F args).run Tryz.prog w= .ok (.enter F args) w) (cf:Cnd->Cnd->Int) (w:World) (v:Value) (l:List Cnd) (hv:g7 w 126 7 v l.length (q8 l)) (hll:l.length<20)
 (hp:∀a∈l,∀b∈l,∀wx,Mod (inBlock v) w wx->Calls Tryz.prog F #[.agg a.cells.toArray,.agg b.cells.toArray] wx fun e w'=>e= .returned (.int .i64 (cf a b))/\Mod (fun _=>False) wx w'):
 Calls Tryz.prog 101 #[v,.func (.func F) #[] #[]] w (a2X w v (F7 (fun a b=>decide (cf a b<0)) l)):=by
 have hin:=b0N F hF cf w v l hv hll hp;obtain ⟨a,cap,rfl,hcap⟩:=hv.shape;have df:(l.length:Int)<20:=zo
 obtain ⟨R,hR⟩:∃R,F7 (fun a b=>decide (cf a b<0)) l=R:=⟨_,rfl⟩;rw [hR] at hin⊢;refine hh5 hv hp hF hin hR fun Hv Hp HF NB HR=> ?_;clear hv hp hF hin hR
 go_enter Tryz.func101,Tryz.ntmps101
 go_wp2_with fail
 refine NB.out.mono ?_;rintro e w2 ⟨rfl,ho2,hm2⟩;refine hh2 ho2 hm2 fun Ai aS=> ?_;clear ho2 hm2
 go_wp2_with fail
 go_end0
 exact ⟨rfl,Ai.out,aS.out⟩
end
end Go.Proofs.YtdmjoodhaeijmaaGreatDoor
