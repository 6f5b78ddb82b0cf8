/- Lemmas. -/
import Derived.Test.YtaenebdppkjhoaaGreatDoorZg5
namespace Go.Proofs.YtaenebdppkjhoaaGreatDoor
set_option maxRecDepth 20000
set_option maxHeartbeats 40000000
section
open Go.RowKit
section
variable {P:Program} {w:World} {ops:Array Oper} {rest:List Oper} {a:Act} {Q:Exit->Act->World->Prop} {d:Option Tmp} {tp:TypeId} {pos:String} {af:Array Edge}
theorem a8E {cs:List Value} (h:cs.all (·.oneCell')=true):∀u∈cs,u.oneCell'=true:=fun u hu=>zz15 h u hu
theorem d8 {cur:Array Value} {t:TypeId} (ty:TypeId) (x y:Operand)
 (h:a.eval x= .pointer (some ⟨w.heap.size,0,none⟩)/\∃cs:List Value,a.eval y= .agg cs.toArray/\cs.length=cur.size/\(P.info? ty).map (·.size)=some cs.length/\cs.all (·.oneCell')=true/\
   wpList P ops Q rest (a.put d undef) (w.alloc (.cells cs.toArray t))):wpList P ops Q (⟨d,.store ty x y,tp,pos,af,none⟩::rest) a (w.alloc (.cells cur t)):=by
 obtain ⟨hx,cs,hy,hl,hi,h1,h⟩:=h;exact K3 rfl ty x y rfl hx cur t cs hy hl hi (a8E h1) h
theorem d9 (ty:TypeId) (x:Operand)
 (h:∃g off,a.eval x= .pointer (some ⟨g,off,none⟩)/\∃cs:List Value,e7 w g off cs/\(match P.underlying ty with|some (.struct _)=>true|some (.array _ _)=>true|_=>false)=true/\(P.info? ty).map (·.size)=some cs.length/\
   wpList P ops Q rest (a.put d (.agg cs.toArray)) w):wpList P ops Q (⟨d,.load ty x,tp,pos,af,none⟩::rest) a w:=by
 obtain ⟨g,off,hx,cs,hc,hu,hi,h⟩:=h;exact q6 rfl ty x rfl g off hx cs hc hu hi h
theorem j6 {at1:Array TypeId} (s y:Operand) (t:TypeId)
 (h:at1=#[t,t]/\∃(e:TypeId) (sz bytes:Nat),D8 P t e sz bytes/\∃(v:Value) (n:Nat) (xs:List Value),a.eval s=v/\i7 w e sz v n xs/\∃(x:Value) (m:Nat) (news:List Value),a.eval y=x/\j0 w sz x m news/\(∀u∈news,u.oneCell'=true)/\
   (n+m)*bytes<=140737488355328/\n+m<=maxLen/\∀ad cap w',t8 w e sz v (n+m) (xs++news) (.slice ad (n+m) cap) w'->wpList P ops Q rest (a.put d (.slice ad (n+m) cap)) w'):
 wpList P ops Q (⟨d,.call {callee:= .builtin .append,args:=#[s,y],argTypes:=at1},tp,pos,af,none⟩::rest) a w:=by
 obtain ⟨rfl,e,sz,bytes,hT,v,n,xs,hs,hown,x,m,news,hy,hx,h1,hb,hm,hK⟩:=h;exact K2 rfl s y t rfl e sz bytes hT v n xs hs hown x m news hy hx h1 hb hm hK
theorem j3 (ty:TypeId) (x y:Operand)
 (h:∃g,a.eval x= .pointer (some ⟨g,0,none⟩)/\∃(cur:Array Value) (t:TypeId),w.heap[g]? =some (.cells cur t (0,0))/\∃cs:List Value,a.eval y= .agg cs.toArray/\cs.length=cur.size/\(P.info? ty).map (·.size)=some cs.length/\cs.all (·.oneCell')=true/\
   ∀w',w'.heap[g]? =some (.cells cs.toArray t (0,0))->Mod (fun k=>k=g) w w'->wpList P ops Q rest (a.put d undef) w'):wpList P ops Q (⟨d,.store ty x y,tp,pos,af,none⟩::rest) a w:=by
 obtain ⟨g,hx,cur,t,hg,cs,hy,hl,hi,h1,h⟩:=h;exact v8 rfl ty x y rfl g hx cur t hg cs hy cs.length rfl hl.symm hi h1 h
end
end
section
open Go.RowKit
def u7 (l:List Att):Prop:=∀(i j:Nat) (x y:Att),i<j->l[i]? =some x->l[j]? =some y->Op.bytesLess x.name.data.toList y.name.data.toList=true
theorem u7.less {l:List Att} (h:u7 l) {i j:Nat} {x y:Att} {s:List UInt8} (hij:i<j) (hx:l[i]? =some x) (hy:l[j]? =some y) (hl:Op.bytesLess y.name.data.toList s=true):Op.bytesLess x.name.data.toList s=true:=
 P5 _ _ _ (h i j x y hij hx hy) hl
theorem u7.more {l:List Att} (h:u7 l) {i j:Nat} {x y:Att} {s:List UInt8} (hij:i<j) (hx:l[i]? =some x) (hy:l[j]? =some y) (hl:Op.bytesLess x.name.data.toList s=false):Op.bytesLess y.name.data.toList s=false:=
 Bool.eq_false_iff.2 fun hh=>by rw [h.less hij hx hy hh] at hl;cases hl
def pos (l:List Att) (s:ByteArray):Nat:=(l.takeWhile fun a=>Op.bytesLess a.name.data.toList s.data.toList).length
def there (l:List Att) (s:ByteArray):Bool:=match l[pos l s]? with|some a=>a.name.data.toList==s.data.toList|none=>false
theorem b2r:∀(l:List Att) (s:ByteArray) (i:Nat),i<=l.length->(∀k x,k<i->l[k]? =some x->Op.bytesLess x.name.data.toList s.data.toList=true)->(∀x,l[i]? =some x->Op.bytesLess x.name.data.toList s.data.toList=false)->pos l s=i
 |[],s,i,hi,_,_=>by
  have:i=0:=by simpa using hi
  subst this;rfl
 |a::l,s,0,_,_,h=>by
  have:=h a rfl;unfold pos;rw [List.takeWhile_cons,this];rfl
 |a::l,s,i+1,hi,h1,h2=>by
  have ha:=h1 0 a (by omega) rfl;have ih:=b2r l s i (by simpa using hi) (fun k x hk hx=>h1 (k+1) x (by omega) (by simpa using hx)) (fun x hx=>h2 x (by simpa using hx));unfold pos at ih⊢;rw [List.takeWhile_cons,ha];simp only [if_true,zz9,ih]
theorem b2s (l:List Att) (s:ByteArray):pos l s<=l.length:=by
 unfold pos;exact (List.takeWhile_prefix _).length_le
theorem b4n (x:Att) (s:ByteArray) (w:World):Calls Tryz.prog 141 #[.agg x.cells.toArray,.string s] w fun e w'=>e= .returned (.int .i64 (Lib.compareBytes x.name.data.toList s.data.toList))/\Mod (fun _=>False) w w':=by
 obtain ⟨nm,v⟩:=x;obtain ⟨wa,hwa,hmwa,hgwa,hzwa⟩:=e8 w (.cells (⟨nm,v⟩:Att).cells.toArray 70);have Hc:=Lib.hid (a7Q nm s wa);have c0:wa.cell? ⟨w.heap.size,0,none⟩=some (.string nm):=d6 hgwa rfl;obtain ⟨Hwa,Hmwa,Hgwa,Hzwa⟩:=zh4 hwa hmwa hgwa hzwa;clear hwa hmwa hgwa hzwa
 go_enter Tryz.func141,Tryz.ntmps141
 go_wp2_with (first|(rw [show w.alloc _=wa from Hwa.out])|fail)
 refine Hc.out.mono ?_;rintro e w' ⟨rfl,rfl⟩
 go_wp2
 go_ret;exact ⟨rfl,Hmwa.out⟩
theorem a7T (w:World) (a:Option Addr) (cap:Nat) (l:List Att) (hv:j0 w 6 (.slice a l.length cap) l.length (j7 l)) (hll:l.length<=1000000) (hr:u7 l) (s:ByteArray):
 Calls Tryz.prog 140 #[.slice a l.length cap,.string s,.func (.func 141) #[] #[]] w fun e w'=>
  e= .returned (.tuple #[.int .i64 (pos l s),.bool (there l s)])/\Mod (fun _=>False) w w':=by
 have hll':(l.length:Int)<=1000000:=by omega
 have hcf:∀args w,(callFunc 141 args).run Tryz.prog w= .ok (.enter 141 args) w:=fun args w=>by simp [go_sem]
 obtain ⟨-,a',cap',h1,hcap,hnil,hrd⟩:=hv;cases h1
 have hcap':(l.length:Int)<=cap:=by omega
 obtain ⟨Hr,Hrd,Hcf,Hnil⟩:=zh4 hr hrd hcf hnil;clear hr hrd hcf hnil
 go_enter Tryz.func140,Tryz.ntmps140
 go_wp2_with fail
 go_loopw [9,10] (fun ti tj wr=>∃i j:Nat,ti= .int .i64 i/\tj= .int .i64 j/\i<=j/\j<=l.length/\Mod (fun _=>False) w wr/\(∀k x,k<i->l[k]? =some x->Op.bytesLess x.name.data.toList s.data.toList=true)/\
  (∀k x,j<=k->l[k]? =some x->Op.bytesLess x.name.data.toList s.data.toList=false)) (fun ti tj _=>(intOf tj).toNat - (intOf ti).toNat)
 case atStart=>exact ⟨0,l.length,rfl,rfl,Nat.zero_le _,Nat.le_refl _,Mod.refl _ _,fun k x hk=>by omega,fun k x hk hx=>by
  have:=(zz6 hx).1;omega⟩
 case round=>
  obtain ⟨i,j,rfl,rfl,hij,hjl,hm,hlo,hhi⟩:=hrel;obtain ⟨Hm,Hlo,Hhi⟩:=zh3 hm hlo hhi;clear hm hlo hhi;by_cases hlt:i<j
  ·have hlt':(i:Int)<j:=by omega
   have hj':(j:Int)<=1000000:=by omega
   obtain ⟨h,hh,hih,hhj⟩:∃h:Nat,((i:Int)+(j:Int)) / 2=(h:Int)/\i<=h/\h<j:=⟨(i+j) / 2,by omega,by omega,by omega⟩;have hhl:(h:Int)<l.length:=by omega
   obtain ⟨x,hx⟩:∃x,l[h]? =some x:=⟨_,zz5 (by omega)⟩
   obtain ⟨b,rfl⟩:∃b,a=some b:=by
    cases a with
    |none=>exact absurd (Hnil.out rfl) (by omega)
    |some b=>exact ⟨b,rfl⟩
   obtain ⟨g,off,rfl,hc⟩:=Hrd.out b rfl (by omega)
   have hf:e7 wr g (off+h*6) x.cells:=fun q u hu=>by
    have:=Hm.out.cell (hc (6*h+q) u (a0j l hx hu)) (fun h=>h);rw [show off+h*6+q=off+(6*h+q) by omega];exact this
   have c0:wr.cell? ⟨g,off+h*6,none⟩=some (.string x.name):=hf 0 _ rfl;have c1:wr.cell? ⟨g,off+h*6+1,none⟩=some (.int .i64 x.v.kind):=hf 1 _ rfl;have c2:wr.cell? ⟨g,off+h*6+2,none⟩=some (.int .i64 x.v.int):=hf 2 _ rfl;have c3:wr.cell? ⟨g,off+h*6+3,none⟩=some (.float .f64 x.v.num):=hf 3 _ rfl;have c4:wr.cell? ⟨g,off+h*6+4,none⟩=some (.string x.v.text):=hf 4 _ rfl;have c5:wr.cell? ⟨g,off+h*6+5,none⟩=some (.bool x.v.yes):=hf 5 _ rfl;have hf1:=b4n x s wr;have hcl:=Z4 x.name.data.toList s.data.toList
   generalize Lib.compareBytes x.name.data.toList s.data.toList=C at hf1 hcl
   obtain ⟨Hx,Hc,Hf,Hf1,Hcl⟩:=zh5 hx hc hf hf1 hcl;clear hx hc hf hf1 hcl;have hcall:=Hcf.out
   go_wp2_with fail
   refine Hf1.out.mono ?_;rintro e w2 ⟨rfl,hm2⟩;have hm3:=Hm.out.trans hm2 (fun _ _ h=>h);have Hm3:=zh hm3;clear hm3 hm2 hcall Hf1 c0 c1 c2 c3 c4 c5;by_cases hC:C<0
   ·have hl:Op.bytesLess x.name.data.toList s.data.toList=true:=Hcl.out.1 hC;have Hl:=zh hl;clear hl
    go_wp2_with fail
    go_roundw
    case rel=>
     refine ⟨h+1,j,by go_num,rfl,by omega,hjl,Hm3.out,fun k y hk hy=> ?_,Hhi.out⟩;rcases Nat.lt_succ_iff_lt_or_eq.1 hk with hk|rfl
     ·exact Hr.out.less hk hy Hx.out Hl.out
     rw [Hx.out] at hy;cases hy;exact Hl.out
    case measure=>simp [intOf];omega
   have hl:Op.bytesLess x.name.data.toList s.data.toList=false:=Bool.eq_false_iff.2 fun h=>hC (Hcl.out.2 h);have Hl:=zh hl;clear hl
   go_wp2_with fail
   go_roundw
   case rel=>
    refine ⟨i,h,rfl,rfl,hih,by omega,Hm3.out,Hlo.out,fun k y hk hy=> ?_⟩;rcases Nat.lt_or_eq_of_le hk with hk|rfl
    ·exact Hr.out.more hk Hx.out hy Hl.out
    rw [Hx.out] at hy;cases hy;exact Hl.out
   case measure=>simp [intOf];omega
  obtain rfl:i=j:=by omega
  have hpos:=b2r l s i hjl Hlo.out (fun x hx=>Hhi.out i x (Nat.le_refl _) hx);by_cases hin:i<l.length
  ·have hin':(i:Int)<l.length:=by omega
   obtain ⟨x,hx⟩:∃x,l[i]? =some x:=⟨_,zz5 hin⟩
   obtain ⟨b,rfl⟩:∃b,a=some b:=by
    cases a with
    |none=>exact absurd (Hnil.out rfl) (by omega)
    |some b=>exact ⟨b,rfl⟩
   obtain ⟨g,off,rfl,hc⟩:=Hrd.out b rfl (by omega)
   have hf:e7 wr g (off+i*6) x.cells:=fun q u hu=>by
    have:=Hm.out.cell (hc (6*i+q) u (a0j l hx hu)) (fun h=>h);rw [show off+i*6+q=off+(6*i+q) by omega];exact this
   have c0:wr.cell? ⟨g,off+i*6,none⟩=some (.string x.name):=hf 0 _ rfl;have c1:wr.cell? ⟨g,off+i*6+1,none⟩=some (.int .i64 x.v.kind):=hf 1 _ rfl;have c2:wr.cell? ⟨g,off+i*6+2,none⟩=some (.int .i64 x.v.int):=hf 2 _ rfl;have c3:wr.cell? ⟨g,off+i*6+3,none⟩=some (.float .f64 x.v.num):=hf 3 _ rfl;have c4:wr.cell? ⟨g,off+i*6+4,none⟩=some (.string x.v.text):=hf 4 _ rfl;have c5:wr.cell? ⟨g,off+i*6+5,none⟩=some (.bool x.v.yes):=hf 5 _ rfl;have hf1:=b4n x s wr
   have hth:there l s=(Lib.compareBytes x.name.data.toList s.data.toList==0):=by
    unfold there;rw [hpos,hx];have:=a3x x.name.data.toList s.data.toList;rw [Bool.eq_iff_iff,beq_iff_eq,beq_iff_eq,this]
   generalize Lib.compareBytes x.name.data.toList s.data.toList=C at hf1 hth
   obtain ⟨Hx,Hc,Hf,Hf1,Hpos,Hth⟩:=zh6 hx hc hf hf1 hpos hth;clear hx hc hf hf1 hpos hth;have hcall:=Hcf.out
   go_wp2_with fail
   refine Hf1.out.mono ?_;rintro e w2 ⟨rfl,hm2⟩;have hm3:=Hm.out.trans hm2 (fun _ _ h=>h);have Hm3:=zh hm3;clear hm3 hm2 hcall Hf1 c0 c1 c2 c3 c4 c5
   go_wp2
   go_ret2
   exact ⟨by rw [Hpos.out,Hth.out];rfl,Hm3.out⟩
  have hin':(l.length:Int)<=i:=by omega
  have hth:there l s=false:=by
   unfold there;rw [hpos,List.getElem?_eq_none (by omega)]
  obtain ⟨Hpos,Hth⟩:=zh2 hpos hth;clear hpos hth
  go_wp2
  go_ret2
  exact ⟨by rw [Hpos.out,Hth.out];rfl,Hm.out⟩
theorem a8F (w:World) (sc:ByteArray) (av:Value) (l:List Att) (hv:j0 w 6 av l.length (j7 l)) (hll:l.length<=1000000) (hr:u7 l) (s:ByteArray):
 Calls Tryz.prog 108 #[.agg #[.string sc,av],.string s] w fun e w'=>e= .returned (.tuple #[.int .i64 (pos l s),.bool (there l s)])/\Mod (fun _=>False) w w':=by
 obtain ⟨a,cap,rfl⟩:∃a c,av= .slice a l.length c:=by obtain ⟨-,a,c,h, -⟩:=hv;exact ⟨a,c,h⟩
 obtain ⟨wa,hwa,hmwa,hgwa,hzwa⟩:=e8 w (.cells #[.string sc,.slice a l.length cap] 46);have c0:wa.cell? ⟨w.heap.size,1,none⟩=some (.slice a l.length cap):=d6 hgwa rfl;have Hb:=Lib.hid (a7T wa a cap l (hv.mod hmwa (fun _ _ h=>h)) hll hr s);obtain ⟨Hwa,Hmwa,Hgwa,Hzwa⟩:=zh4 hwa hmwa hgwa hzwa;clear hwa hmwa hgwa hzwa hv hr
 go_enter Tryz.func108,Tryz.ntmps108
 go_wp2_with (first|(rw [show w.alloc _=wa from Hwa.out])|fail)
 refine Hb.out.mono ?_;rintro e w' ⟨rfl,hm⟩;have Hm:=zh hm;clear hm
 go_wp2
 go_ret2
 exact ⟨rfl,Hmwa.out.trans Hm.out (fun _ _ h=>h)⟩
structure Cnd where
 name:ByteArray
 op:Int
 v:V
def Cnd.cells (a:Cnd):List Value:= .string a.name:: .int .i64 a.op::a.v.cells
theorem Cnd.cells_length (a:Cnd):a.cells.length=7:=rfl
def l6 (l:List Cnd):List Value:=l.flatMap Cnd.cells
theorem b34 (l:List Cnd) {k j:Nat} {a:Cnd} {u:Value} (h:l[k]? =some a) (hj:a.cells[j]? =some u):(l6 l)[7*k+j]? =some u:=by
 induction l generalizing k with
 |nil=>simp at h
 | cons b l ih=>
  unfold l6 at ih⊢;rw [List.flatMap_cons]
  cases k with
  |zero=>
   simp only [List.getElem?_cons_zero,Option.some.injEq] at h;subst h;have:=(zz6 hj).1;rw [List.getElem?_append_left (by omega),Nat.mul_zero,Nat.zero_add,hj]
  |succ k=>
   rw [List.getElem?_cons_succ] at h;rw [List.getElem?_append_right (by rw [Cnd.cells_length];omega),Cnd.cells_length,show 7*(k+1)+j - 7=7*k+j by omega];exact ih h
theorem Z7 {w:World} {g:Nat} {x:Cnd} {t:TypeId} (h:w.heap[g]? =some (.cells x.cells.toArray t (0,0))):e7 w g 2 x.v.cells:=fun j u hu=>by
 have:=e7.row h (j+2) u (by simpa [Cnd.cells] using hu);rw [show 2+j=0+(j+2) by omega];exact this
theorem a2d (l m:List Cnd):l6 (l++m)=l6 l++l6 m:=by unfold l6;simp
theorem b2t (l:List Cnd):∀u∈l6 l,u.oneCell'=true:=fun u hu=>by
 unfold l6 at hu;obtain ⟨x, -,hx⟩:=List.mem_flatMap.1 hu;exact zz15 (show x.cells.all (·.oneCell')=true from rfl) u hx
theorem a6n:(Tryz.prog.info? 132).map (·.size)=some 7:=by kernel_rfl
theorem J2 {w:World} {a:Option Addr} {cap:Nat} {l:List Cnd} {j:Nat} {x:Cnd} (h:j0 w 7 (.slice a l.length cap) l.length (l6 l)) (hx:l[j]? =some x):∃g off,a=some ⟨g,off,none⟩/\e7 w g (off+j*7) x.cells:=by
 obtain ⟨-,a',c',h1, -,h3,h4⟩:=h;cases h1
 cases a with
 |none=>have:=(zz6 hx).1;exact absurd (h3 rfl) (by omega)
 |some b=>
  obtain ⟨g',off',h5,h6⟩:=h4 _ rfl (by have:=(zz6 hx).1;omega);refine ⟨g',off',by rw [h5],fun i u hu=> ?_⟩;have:=h6 (7*j+i) u (b34 _ hx hu);rw [show off'+j*7+i=off'+(7*j+i) by omega];exact this
def Cnd.rightB (c:Cnd):Bool:=n4 c.name&&(decide (0<=c.op)&&(decide (c.op<=7)&&c.v.right))
theorem a7U (c:Cnd) (hn:c.name.size<=9223372036854775807) (w:World):Calls Tryz.prog 57 #[.agg c.cells.toArray] w fun e w'=>e= .returned (.bool c.rightB)/\Mod (fun _=>False) w w':=by
 obtain ⟨wa,hwa,hmwa,hgwa,hzwa⟩:=e8 w (.cells c.cells.toArray 132);have c0:wa.cell? ⟨w.heap.size,0,none⟩=some (.string c.name):=d6 hgwa rfl;have c1:wa.cell? ⟨w.heap.size,1,none⟩=some (.int .i64 c.op):=d6 hgwa rfl;have c2:wa.cell? ⟨w.heap.size,2,none⟩=some (.int .i64 c.v.kind):=d6 hgwa rfl;have c3:wa.cell? ⟨w.heap.size,3,none⟩=some (.int .i64 c.v.int):=d6 hgwa rfl;have c4:wa.cell? ⟨w.heap.size,4,none⟩=some (.float .f64 c.v.num):=d6 hgwa rfl;have c5:wa.cell? ⟨w.heap.size,5,none⟩=some (.string c.v.text):=d6 hgwa rfl;have c6:wa.cell? ⟨w.heap.size,6,none⟩=some (.bool c.v.yes):=d6 hgwa rfl;have hnm:=a1i c.name (by omega) wa;obtain ⟨Hnm,Hwa,Hmwa⟩:=zh3 hnm hwa hmwa;clear hnm hwa hmwa hgwa hzwa hn
 cases h1:n4 c.name with
 |false=>
  rw [show c.rightB=false by unfold Cnd.rightB;rw [h1];rfl];rw [h1] at Hnm;clear h1
  go_enter Tryz.func57,Tryz.ntmps57
  go_wp2_with (first|(rw [show w.alloc _=wa from Hwa.out])|fail)
  refine Hnm.out.mono ?_;rintro e w' ⟨rfl,rfl⟩
  go_wp2
  go_ret;exact ⟨rfl,Hmwa.out⟩
 | true=>
  rw [show c.rightB=(decide (0<=c.op)&&(decide (c.op<=7)&&c.v.right)) by unfold Cnd.rightB;rw [h1];rfl];rw [h1] at Hnm;clear h1;by_cases h2:0<=c.op;rotate_left
  ·have h2':c.op<0:=by omega
   rw [show (decide (0<=c.op)&&(decide (c.op<=7)&&c.v.right))=false by rw [decide_eq_false h2,Bool.false_and]];clear h2
   go_enter Tryz.func57,Tryz.ntmps57
   go_wp2_with (first|(rw [show w.alloc _=wa from Hwa.out])|fail)
   refine Hnm.out.mono ?_;rintro e w' ⟨rfl,rfl⟩
   go_wp2
   go_ret;exact ⟨rfl,Hmwa.out⟩
  by_cases h3:c.op<=7;rotate_left
  ·have h3':7<c.op:=by omega
   rw [show (decide (0<=c.op)&&(decide (c.op<=7)&&c.v.right))=false by rw [decide_eq_false h3,Bool.false_and,Bool.and_false]];clear h3
   go_enter Tryz.func57,Tryz.ntmps57
   go_wp2_with (first|(rw [show w.alloc _=wa from Hwa.out])|fail)
   refine Hnm.out.mono ?_;rintro e w' ⟨rfl,rfl⟩
   go_wp2
   go_ret;exact ⟨rfl,Hmwa.out⟩
  rw [show (decide (0<=c.op)&&(decide (c.op<=7)&&c.v.right))=c.v.right by rw [decide_eq_true h2,decide_eq_true h3,Bool.true_and,Bool.true_and]];have hvr:=a14 c.v wa;have Hvr:=zh hvr;clear hvr
  go_enter Tryz.func57,Tryz.ntmps57
  go_wp2_with (first|(rw [show w.alloc _=wa from Hwa.out])|fail)
  refine Hnm.out.mono ?_;rintro e w' ⟨rfl,rfl⟩
  go_wp2_with fail
  refine Hvr.out.mono ?_;rintro e w2 ⟨rfl,hm2⟩;have Hm2:=Lib.hid (Hmwa.out.trans hm2 (fun _ _ h=>h));clear hm2
  go_wp2
  go_ret;exact ⟨rfl,Hm2.out⟩
def j5 (sc:ByteArray) (l:List Cnd):Bool:=l.all Cnd.rightB&&(s5 sc&&decide (l.length<=6))
theorem D6 (w:World) (sc:ByteArray) (av:Value) (l:List Cnd) (hv:j0 w 7 av l.length (l6 l)) (hll:l.length<=9223372036854775807) (hsc:sc.size<=9223372036854775807) (hn:∀c∈l,c.name.size<=9223372036854775807):
 Calls Tryz.prog 25 #[.agg #[.string sc,av]] w fun e w'=>e= .returned (.bool (j5 sc l))/\Mod (fun _=>False) w w':=by
 obtain ⟨a,cap,rfl,hcap⟩:∃a c,av= .slice a l.length c/\l.length<=c:=by obtain ⟨-,a,c,h,h2, -⟩:=hv;exact ⟨a,c,h,h2⟩
 have hll':(l.length:Int)<=9223372036854775807:=by omega
 have hcap':(l.length:Int)<=cap:=by omega
 obtain ⟨wa,hwa,hmwa,hgwa,hzwa⟩:=e8 w (.cells #[.string sc,.slice a l.length cap] 33);have hva:=hv.mod hmwa (fun _ _ h=>h);have hg:=hgwa;have c1:wa.cell? ⟨w.heap.size,1,none⟩=some (.slice a l.length cap):=d6 hgwa rfl;obtain ⟨R,hR⟩:∃R,j5 sc l=R:=⟨_,rfl⟩;rw [hR];have hqz:w.heap.size<wa.heap.size:=by omega
 have hsc':=hsc;obtain ⟨Hv,Hn,Hwa,Hmwa,Hgwa,Hva,HR,Hg⟩:=zh8 hv hn hwa hmwa hgwa hva hR hg;clear hv hn hwa hmwa hgwa hva hR hg hzwa hll hsc
 go_enter Tryz.func25,Tryz.ntmps25
 go_wp2_with (first|(rw [show w.alloc _=wa from Hwa.out])|fail)
 go_loopw [8] (fun i wr=>∃j:Nat,i= .int .i64 j/\j<=l.length/\Mod (fun _=>False) wa wr/\(∀(k:Nat) (x:Cnd),k<j->l[k]? =some x->x.rightB=true)) (fun i _=>l.length - (intOf i).toNat)
 case atStart=>exact ⟨0,rfl,Nat.zero_le _,Mod.refl _ _,fun k x hk=>by omega⟩
 case round=>
  obtain ⟨j,rfl,hj,hmr,hall⟩:=hrel;by_cases hlt:j<l.length
  ·have hlt':(j:Int)<l.length:=by omega
   obtain ⟨x,hxj⟩:∃x,l[j]? =some x:=⟨_,zz5 hlt⟩;have hxm:=zz8 hxj;obtain ⟨g,off,rfl,hf⟩:∃g off,a=some ⟨g,off,none⟩/\e7 wr g (off+j*7) x.cells:=J2 (Hva.out.mod hmr (fun _ _ h=>h)) hxj;obtain ⟨wz,hwz,hmwz,hgwz,hzwz⟩:=e8 wr (.cells x.cells.toArray 132);have hmz:=hmr.trans hmwz (fun _ _ h=>h);have hcr:=a7U x (Hn.out x hxm) wz;obtain ⟨Hmr,Hall,Hxj,Hxm,Hf,Hwz,Hmwz,Hgwz,Hmz,Hcr⟩:=zh10 hmr hall hxj hxm hf hwz hmwz hgwz hmz hcr;clear hmr hall hxj hxm hf hwz hmwz hgwz hmz hcr hzwz
   go_wp2_with (first|((with_reducible refine d9 132 (.tmp 10) ?_);refine ⟨g,off+j*7,rfl,x.cells,Hf.out,by kernel_rfl,by kernel_rfl, ?_⟩)|((with_reducible refine d8 132 (.tmp 4) (.tmp 11) ?_);refine ⟨rfl,x.cells,rfl,rfl,by kernel_rfl,rfl, ?_⟩;rw [Hwz.out])|((with_reducible refine d9 132 (.tmp 4) ?_);refine ⟨wr.heap.size,0,rfl,x.cells,e7.row Hgwz.out,by kernel_rfl,by kernel_rfl, ?_⟩)|fail)
   refine Hcr.out.mono ?_;rintro e w3 ⟨rfl,hm3⟩;have Hm3:=Lib.hid (Hmz.out.trans hm3 (fun _ _ h=>h));clear hm3
   cases hs:x.rightB with
   | true=>
    have Hs:=zh hs;clear hs
    go_wp2_with fail
    go_roundw
    case rel=>
     refine ⟨j+1,by go_num,hlt,Hm3.out,fun k x' hk hx'=> ?_⟩;rcases Nat.lt_succ_iff_lt_or_eq.1 hk with hk|rfl
     ·exact Hall.out k x' hk hx'
     rw [Hxj.out] at hx';cases hx';exact Hs.out
    case measure=>simp [intOf];omega
   | false=>
    have Hs:=zh hs;clear hs
    go_wp2
    go_ret;refine ⟨?_,Hmwa.out.trans Hm3.out (fun _ _ h=>h)⟩
    have hf:j5 sc l=false:=by
     unfold j5;rw [List.all_eq_false.2 ⟨x,Hxm.out,by rw [Hs.out];decide⟩,Bool.false_and]
    rw [<-HR.out,hf];rfl
  obtain rfl:j=l.length:=by omega
  have hgr:=hmr.heap Hg.out (fun h=>h);have c0:wr.cell? ⟨w.heap.size,0,none⟩=some (.string sc):=d6 hgr rfl;have c1:wr.cell? ⟨w.heap.size,1,none⟩=some (.slice a l.length cap):=d6 hgr rfl;have hsr:=M2 sc hsc' wr
  have hfr:j5 sc l=(s5 sc&&decide (l.length<=6)):=by
   unfold j5
   rw [List.all_eq_true.2 fun x hx=>by
    obtain ⟨k,hk⟩:=List.mem_iff_getElem?.1 hx
    exact hall k x (zz6 hk).1 hk,Bool.true_and]
  rw [HR.out] at hfr;have hmr2:=Hmwa.out.trans hmr (fun _ _ h=>h);obtain ⟨Hmr2,Hsr,Hfr,Hgr⟩:=zh4 hmr2 hsr hfr hgr;clear hmr2 hsr hfr hgr hmr hall
  go_wp2_with fail
  refine Hsr.out.mono ?_;rintro e w3 ⟨rfl,hm3⟩;have hg3:=hm3.heap Hgr.out (fun h=>h);have c1:w3.cell? ⟨w.heap.size,1,none⟩=some (.slice a l.length cap):=d6 hg3 rfl;have Hm3:=Lib.hid (Hmr2.out.trans hm3 (fun _ _ h=>h));clear hm3 hg3
  cases hs:s5 sc with
  |false=>
   have Hs:=zh hs;clear hs
   go_wp2
   go_ret;refine ⟨?_,Hm3.out⟩;rw [Hfr.out,Hs.out];rfl
  |true=>
   have Hs:=zh hs;clear hs
   go_wp2
   go_ret;refine ⟨?_,Hm3.out⟩;rw [Hfr.out,Hs.out,Bool.true_and];show Ending.returned (.bool (decide ((l.length:Int)<=6)))=_;congr 2;exact decide_eq_decide.2 (by omega)
structure Ru where
 kind:Int
 tenant:Int
 who:ByteArray
 broker:Int
 sc:ByteArray
 ca:Option Addr
 cc:Nat
 name:ByteArray
 at_:Int
 cs:List Cnd
def Ru.cv (r:Ru):Value:= .slice r.ca r.cs.length r.cc
def Ru.cells (r:Ru):List Value:=[.int .i64 r.kind,.int .i64 r.tenant,.string r.who,.int .i64 r.broker,.string r.sc,.slice r.ca r.cs.length r.cc,.string r.name,.int .i64 r.at_]
theorem Ru.cells_length (a:Ru):a.cells.length=8:=rfl
def rus (l:List Ru):List Value:=l.flatMap Ru.cells
theorem b49 (l:List Ru) {k j:Nat} {a:Ru} {u:Value} (h:l[k]? =some a) (hj:a.cells[j]? =some u):(rus l)[8*k+j]? =some u:=by
 induction l generalizing k with
 |nil=>simp at h
 | cons b l ih=>
  unfold rus at ih⊢;rw [List.flatMap_cons]
  cases k with
  |zero=>
   simp only [List.getElem?_cons_zero,Option.some.injEq] at h;subst h;have:=(zz6 hj).1;rw [List.getElem?_append_left (by omega),Nat.mul_zero,Nat.zero_add,hj]
  |succ k=>
   rw [List.getElem?_cons_succ] at h;rw [List.getElem?_append_right (by rw [Ru.cells_length];omega),Ru.cells_length,show 8*(k+1)+j - 8=8*k+j by omega];exact ih h
theorem a7V (l:List Ru):(rus l).length=l.length*8:=by
 induction l with
 |nil=>rfl
 |cons a l ih=>
  show (a.cells++rus l).length=_;rw [zz4,ih,Ru.cells_length,zz9];omega
theorem a0Q (l m:List Ru):rus (l++m)=rus l++rus m:=by unfold rus;simp
theorem a3y (a:Ru) (l:List Ru):rus (a::l)=a.cells++rus l:=by unfold rus;simp
structure Ru.ok (w:World) (r:Ru):Prop where
 rd:j0 w 7 r.cv r.cs.length (l6 r.cs)
 len:r.cs.length<=9223372036854775807
 who:r.who.size<=9223372036854775807
 sc:r.sc.size<=9223372036854775807
 name:r.name.size<=9223372036854775807
 cname:∀c∈r.cs,c.name.size<=9223372036854775807/\c.v.text.size<=9223372036854775807
theorem Ru.ok.mod {w w':World} {r:Ru} (h:r.ok w) (hm:Mod (fun _=>False) w w'):r.ok w':=⟨h.rd.mod hm (fun _ _ h=>h),h.len,h.who,h.sc,h.name,h.cname⟩
structure K8 (w:World) (v:Value) (l:List Ru):Prop where
 rd:j0 w 8 v l.length (rus l)
 ok:∀r∈l,r.ok w
theorem K8.mod {w w':World} {v:Value} {l:List Ru} (h:K8 w v l) (hm:Mod (fun _=>False) w w'):K8 w' v l:=⟨h.rd.mod hm (fun _ _ h=>h),fun r hr=>(h.ok r hr).mod hm⟩
theorem L0 {w:World} {a:Option Addr} {cap:Nat} {l:List Ru} {j:Nat} {x:Ru} (h:K8 w (.slice a l.length cap) l) (hx:l[j]? =some x):∃g off,a=some ⟨g,off,none⟩/\e7 w g (off+j*8) x.cells:=by
 obtain ⟨-,a',c',h1, -,h3,h4⟩:=h.rd;cases h1
 cases a with
 |none=>have:=(zz6 hx).1;exact absurd (h3 rfl) (by omega)
 |some b=>
  obtain ⟨g',off',h5,h6⟩:=h4 _ rfl (by have:=(zz6 hx).1;omega);refine ⟨g',off',by rw [h5],fun i u hu=> ?_⟩;have:=h6 (8*j+i) u (b49 _ hx hu);rw [show off'+j*8+i=off'+(8*j+i) by omega];exact this
def Ru.of (r:Ru) (kind tenant:Int) (who:ByteArray):Bool:=r.kind==kind&&(r.tenant==tenant&&r.who.toList==who.toList)
theorem b2u (r:Ru) (kind tenant:Int) (who:ByteArray) (w:World):Calls Tryz.prog 90 #[.agg r.cells.toArray,.int .i64 kind,.int .i64 tenant,.string who] w fun e w'=>e= .returned (.bool (r.of kind tenant who))/\Mod (fun _=>False) w w':=by
 obtain ⟨wa,hwa,hmwa,hgwa,hzwa⟩:=e8 w (.cells r.cells.toArray 35);have c0:wa.cell? ⟨w.heap.size,0,none⟩=some (.int .i64 r.kind):=d6 hgwa rfl;have c1:wa.cell? ⟨w.heap.size,1,none⟩=some (.int .i64 r.tenant):=d6 hgwa rfl;have c2:wa.cell? ⟨w.heap.size,2,none⟩=some (.string r.who):=d6 hgwa rfl;obtain ⟨Hwa,Hmwa⟩:=zh2 hwa hmwa;clear hwa hmwa hgwa hzwa
 cases h1:r.kind==kind with
 |false=>
  rw [show r.of kind tenant who=false by unfold Ru.of;rw [h1];rfl]
  go_enter Tryz.func90,Tryz.ntmps90
  go_wp2_with (first|(rw [show w.alloc _=wa from Hwa.out])|fail)
  go_ret;exact ⟨rfl,Hmwa.out⟩
 | true=>
  cases h2:r.tenant==tenant with
  |false=>
   rw [show r.of kind tenant who=false by unfold Ru.of;rw [h1,h2];rfl]
   go_enter Tryz.func90,Tryz.ntmps90
   go_wp2_with (first|(rw [show w.alloc _=wa from Hwa.out])|fail)
   go_ret;exact ⟨rfl,Hmwa.out⟩
  |true=>
   rw [show r.of kind tenant who=(r.who.toList==who.toList) by unfold Ru.of;rw [h1,h2];rfl]
   go_enter Tryz.func90,Tryz.ntmps90
   go_wp2_with (first|(rw [show w.alloc _=wa from Hwa.out])|fail)
   go_ret;exact ⟨rfl,Hmwa.out⟩
end
end Go.Proofs.YtaenebdppkjhoaaGreatDoor
