/- Lemmas. -/
import Derived.Test.YtaenebdppkjhoaaGreatDoorZg3
import Derived.Laws.Cover1
namespace Go.Proofs.YtaenebdppkjhoaaGreatDoor
set_option maxRecDepth 20000
set_option maxHeartbeats 40000000
section
open Go.RowKit
def D3 (i:Nat) (b:UInt8):Bool:=(decide (97<=b.toNat)&&decide (b.toNat<=122))||(decide (0<i)&&decide (48<=b.toNat)&&decide (b.toNat<=57))
def n4 (s:ByteArray):Bool:=(s.data.toList.zipIdx.all fun x=>D3 x.2 x.1)&&(decide (s.size≠0)&&decide (s.size<=12))
theorem N7 {s:ByteArray} {k:Nat} {b:UInt8} (h:s.data.toList[k]? =some b) (hb:D3 k b=false):n4 s=false:=by
 unfold n4
 have:(s.data.toList.zipIdx.all fun x=>D3 x.2 x.1)=false:=by
  rw [List.all_eq_false];exact ⟨(b,k),List.mem_zipIdx_iff_getElem?.2 h,by simp [hb]⟩
 rw [this,Bool.false_and]
theorem a7t {s:ByteArray} (h:∀j b,j<s.size->s.data.toList[j]? =some b->D3 j b=true):n4 s=(decide (s.size≠0)&&decide (s.size<=12)):=by
 unfold n4
 have:(s.data.toList.zipIdx.all fun x=>D3 x.2 x.1)=true:=by
  rw [List.all_eq_true];rintro ⟨b,k⟩ hm;have hb:=List.mem_zipIdx_iff_getElem?.1 hm;have hk:=(zz6 hb).1;exact h k b hk hb
 rw [this,Bool.true_and]
theorem a1i (s:ByteArray) (hs:s.size<=9223372036854775807) (w:World):Calls Tryz.prog 50 #[.string s] w fun e w'=>e= .returned (.bool (n4 s))/\w'=w:=by
 have hs':(s.size:Int)<=9223372036854775807:=by omega
 have Hs:=zh hs;clear hs;obtain ⟨R,hR⟩:∃R,n4 s=R:=⟨_,rfl⟩;rw [hR];have HR:=zh hR;clear hR
 go_enter Tryz.func50,Tryz.ntmps50
 go_wp2_with fail
 go_loopw [6] (fun i wr=>∃k:Nat,k<=s.size/\i= .int .i64 k/\wr=w/\(∀j b,j<k->s.data.toList[j]? =some b->D3 j b=true)) (fun i _=>s.size - (intOf i).toNat)
 case atStart=>exact ⟨0,Nat.zero_le _,rfl,rfl,fun j b hj=>by omega⟩
 case round=>
  obtain ⟨k,hk,rfl,hw,hall⟩:=hrel;subst hw;by_cases hlt:k<s.size
  ·have hlt':(k:Int)<s.size:=by omega
   have Hall:=zh hall;clear hall
   have hsk:s.data.toList[k]? =some s[k]:=by
    rw [zz5 (show k<s.data.toList.length from hlt)];rfl
   have Hsk:=zh hsk;clear hsk;have hcase:((97:Int)<=(s[k].toNat:Int)/\(s[k].toNat:Int)<=122)\/(((s[k].toNat:Int)<97\/(122:Int)<(s[k].toNat:Int))/\0<k/\(48:Int)<=(s[k].toNat:Int)/\(s[k].toNat:Int)<=57)\/((s[k].toNat:Int)<97/\k=0)\/((122:Int)<(s[k].toNat:Int)/\k=0)\/(0<k/\(s[k].toNat:Int)<48)\/(0<k/\(57:Int)<(s[k].toNat:Int)/\(s[k].toNat:Int)<97)\/(0<k/\(122:Int)<(s[k].toNat:Int)):=by omega
   rcases hcase with ⟨h1,h2⟩|⟨h1,h2,h3,h4⟩|⟨h1,h2⟩|⟨h1,h2⟩|⟨h1,h2⟩|⟨h1,h2,h3⟩|⟨h1,h2⟩
   ·go_wp2
    go_roundw
    case rel=>
     refine ⟨k+1,by omega,by go_num,trivial,fun j b hj hb=> ?_⟩;rcases Nat.lt_succ_iff_lt_or_eq.1 hj with hj|hj
     ·exact Hall.out j b hj hb
     subst hj;rw [Hsk.out] at hb;cases hb
     unfold D3;simp only [Bool.or_eq_true,Bool.and_eq_true,decide_eq_true_eq];omega
    case measure=>simp [intOf];omega
   ·have h0':(0:Int)<k:=by omega
    have h5:(s[k].toNat:Int)<97:=by omega
    clear h1
    go_wp2
    go_roundw
    case rel=>
     refine ⟨k+1,by omega,by go_num,trivial,fun j b hj hb=> ?_⟩;rcases Nat.lt_succ_iff_lt_or_eq.1 hj with hj|hj
     ·exact Hall.out j b hj hb
     subst hj;rw [Hsk.out] at hb;cases hb
     unfold D3;simp only [Bool.or_eq_true,Bool.and_eq_true,decide_eq_true_eq];omega
    case measure=>simp [intOf];omega
   ·subst h2
    go_wp2
    all_goals first
     |(exfalso;omega)
     | (go_ret
        refine ⟨congrArg (fun b=>Ending.returned (.bool b)) (((HR.out).symm.trans (N7 Hsk.out ?_)).symm),rfl⟩;unfold D3;simp only [Bool.or_eq_false_iff,Bool.and_eq_false_iff,decide_eq_false_iff_not]
        omega)
   ·subst h2;have h5:(97:Int)<=(s[0].toNat:Int):=by omega
    have hd122:decide ((s[0].toNat:Int)<=122)=false:=decide_eq_false (by omega)
    go_wp2
    all_goals first
     |(exfalso;omega)
     | (go_ret
        refine ⟨congrArg (fun b=>Ending.returned (.bool b)) (((HR.out).symm.trans (N7 Hsk.out ?_)).symm),rfl⟩;unfold D3;simp only [Bool.or_eq_false_iff,Bool.and_eq_false_iff,decide_eq_false_iff_not]
        omega)
   ·have h0':(0:Int)<k:=by omega
    have h5:(s[k].toNat:Int)<97:=by omega
    go_wp2
    all_goals first
     |(exfalso;omega)
     | (go_ret
        refine ⟨congrArg (fun b=>Ending.returned (.bool b)) (((HR.out).symm.trans (N7 Hsk.out ?_)).symm),rfl⟩;unfold D3;simp only [Bool.or_eq_false_iff,Bool.and_eq_false_iff,decide_eq_false_iff_not]
        omega)
   ·have h0':(0:Int)<k:=by omega
    have h5:(48:Int)<=(s[k].toNat:Int):=by omega
    have hd57:decide ((s[k].toNat:Int)<=57)=false:=decide_eq_false (by omega)
    go_wp2
    all_goals first
     |(exfalso;omega)
     | (go_ret
        refine ⟨congrArg (fun b=>Ending.returned (.bool b)) (((HR.out).symm.trans (N7 Hsk.out ?_)).symm),rfl⟩;unfold D3;simp only [Bool.or_eq_false_iff,Bool.and_eq_false_iff,decide_eq_false_iff_not]
        omega)
   have h0':(0:Int)<k:=by omega
   have h5:(97:Int)<=(s[k].toNat:Int):=by omega
   have h6:(48:Int)<=(s[k].toNat:Int):=by omega
   have h7:(57:Int)<(s[k].toNat:Int):=by omega
   have hd57:decide ((s[k].toNat:Int)<=57)=false:=decide_eq_false (by omega);have hd122:decide ((s[k].toNat:Int)<=122)=false:=decide_eq_false (by omega)
   go_wp2
   all_goals first
    |(exfalso;omega)
    | (go_ret
       refine ⟨congrArg (fun b=>Ending.returned (.bool b)) (((HR.out).symm.trans (N7 Hsk.out ?_)).symm),rfl⟩;unfold D3;simp only [Bool.or_eq_false_iff,Bool.and_eq_false_iff,decide_eq_false_iff_not]
       omega)
  obtain rfl:k=s.size:=by omega
  have hn:=a7t hall;rw [HR.out] at hn;clear hall
  have hse:s.toList.isEmpty=decide (s.size=0):=by
   rw [ByteArray.toList_eq];show s.data.toList.isEmpty=decide (s.data.toList.length=0);cases s.data.toList<;>simp
  have hd:((s.size:Int)<=12)=(s.size<=12):=by apply propext;omega
  by_cases h0:s.size=0
  ·rw [decide_eq_true h0] at hse;rw [decide_eq_false (by simp [h0]),Bool.false_and] at hn;have HN:=zh hn;clear hn h0 hd
   go_wp2
   go_ret;exact ⟨by rw [HN.out];rfl,rfl⟩
  rw [decide_eq_false h0] at hse;rw [decide_eq_true h0,Bool.true_and] at hn;obtain ⟨HN,HD⟩:=zh2 hn hd;clear hn h0 hd
  go_wp2
  go_ret;refine ⟨?_,rfl⟩;rw [HN.out];exact congrArg (fun b=>Ending.returned (.bool b)) (by simp only [HD.out])
structure Att where
 name:ByteArray
 v:V
def Att.cells (a:Att):List Value:= .string a.name::a.v.cells
theorem Att.cells_length (a:Att):a.cells.length=6:=rfl
def j7 (l:List Att):List Value:=l.flatMap Att.cells
theorem a0j (l:List Att) {k j:Nat} {a:Att} {u:Value} (h:l[k]? =some a) (hj:a.cells[j]? =some u):(j7 l)[6*k+j]? =some u:=by
 induction l generalizing k with
 |nil=>simp at h
 | cons b l ih=>
  unfold j7 at ih⊢;rw [List.flatMap_cons]
  cases k with
  |zero=>
   simp only [List.getElem?_cons_zero,Option.some.injEq] at h;subst h;have:=(zz6 hj).1;rw [List.getElem?_append_left (by omega),Nat.mul_zero,Nat.zero_add,hj]
  |succ k=>
   rw [List.getElem?_cons_succ] at h;rw [List.getElem?_append_right (by rw [Att.cells_length];omega),Att.cells_length,show 6*(k+1)+j - 6=6*k+j by omega];exact ih h
section
variable {P:Program} {a:Act} {w:World} {C:World->Prop}
structure QW (P:Program) (ops:Array Oper) (C:World->Prop) (Q:Act->Prop) (l:List Oper) (a:Act):Prop where
 out:wpQuiet P ops C Q l a
theorem i8 {id:Nat} {Q:Exit->Act->World->Prop} {l:List Oper} (hm:P.follows .mixedOrders=true) (hB:Region.lexB .any l.toArray=true)
 (h:QW P l.toArray (fun w'=>Mod (fun _=>False) w w') (fun a'=>∀w',Mod (fun _=>False) w w'->Q .normal a' w') l a):(Code.region id l.toArray true).wp P Q a w:=
 wp_region_quiet (C:=fun w'=>Mod (fun _=>False) w w') hm hB ((Mod.refl _ w).drew) (by simpa using h.out)
theorem a9y {o:Oper} {K:Act->Prop} (u:Value) (h:∀w,C w->(execOp a.eval o).run P w= .ok (.value u) w) (hk:K (a.put o.dst u)):o.quiet P a C K:=
 ⟨u,fun w hw=>by unfold Oper.quietAt;rw [h w hw];exact ⟨rfl,rfl⟩,hk⟩
theorem a7u {o:Oper} {K:Act->Prop} {f:FuncId} {args:Array Value} (u:Value) (h:∀w,C w->(execOp a.eval o).run P w= .ok (.enter f args) w) (hc:∀w,C w->Calls P f args w fun e w''=>e= .returned u/\C w'')
 (hk:K (a.put o.dst u)):o.quiet P a C K:=
 ⟨u,fun w hw=>by unfold Oper.quietAt;rw [h w hw];exact ⟨rfl,hc w hw⟩,hk⟩
theorem a4n {ops:Array Oper} {rest:List Oper} {o:Oper} {Q:Act->Prop} (hg:Region.wanted o (yielded ops a.tmps)=true) (h:o.quiet P a C (wpQuiet P ops C Q rest)):QW P ops C Q (o::rest) a:=by
 constructor;unfold wpQuiet;rw [if_pos hg];exact h
theorem b1G {ops:Array Oper} {rest:List Oper} {o:Oper} {Q:Act->Prop} (hg:Region.wanted o (yielded ops a.tmps)=false) (h:wpQuiet P ops C Q rest (a.put o.dst undef)):QW P ops C Q (o::rest) a:=by
 constructor;unfold wpQuiet;rw [if_neg (by rw [hg];decide)];exact h
theorem k7 {ops:Array Oper} {rest:List Oper} {o:Oper} {Q:Act->Prop} (hg:Region.wanted o (yielded ops a.tmps)=false) (h:∀K:Act->Prop,(∀a,QW P ops C Q rest a->K a)->K (a.put o.dst undef)):QW P ops C Q (o::rest) a:=
 b1G hg (h _ fun _ h=>h.out)
theorem m8 {ops:Array Oper} {rest:List Oper} {o:Oper} {Q:Act->Prop} (hg:Region.wanted o (yielded ops a.tmps)=true) (u:Value) (hr:∀w,C w->(execOp a.eval o).run P w= .ok (.value u) w)
 (h:∀K:Act->Prop,(∀a,QW P ops C Q rest a->K a)->K (a.put o.dst u)):QW P ops C Q (o::rest) a:=
 a4n hg (a9y u hr (h _ fun _ h=>h.out))
theorem p8 {ops:Array Oper} {rest:List Oper} {o:Oper} {Q:Act->Prop} (hg:Region.wanted o (yielded ops a.tmps)=true) (f:FuncId) (args:Array Value) (u:Value) (hr:∀w,C w->(execOp a.eval o).run P w= .ok (.enter f args) w)
 (hc:∀w,C w->Calls P f args w fun e w''=>e= .returned u/\C w'') (h:∀K:Act->Prop,(∀a,QW P ops C Q rest a->K a)->K (a.put o.dst u)):QW P ops C Q (o::rest) a:=
 a4n hg (a7u u hr hc (h _ fun _ h=>h.out))
theorem m4 {ops:Array Oper} {Q:Act->Prop} (h:Q a):QW P ops C Q [] a:=⟨h⟩
end
def a7v (l:List Att) (k:Nat):Bool:=
 match l[k]? with
 |none=>true
 |some a=>n4 a.name&&a.v.right&&(match k with|0=>true|k+1=>match l[k]? with|none=>true|some b=>Op.bytesLess b.name.toList a.name.toList)&&a.v.kept
def o7 (l:List Att):Bool:=(List.range l.length).all (a7v l)&&decide (l.length<=8)
theorem a8y {l:List Att} {k:Nat} {x q:Att} (h:l[k]? =some x) (hq:l[k - 1]? =some q):a7v l k=(n4 x.name&&x.v.right&&(decide (k=0)||Op.bytesLess q.name.toList x.name.toList)&&x.v.kept):=by
 unfold a7v;rw [h]
 cases k with
 |zero=>rfl
 |succ k=>
  rw [Nat.add_sub_cancel] at hq;simp only [hq];rw [decide_eq_false (by omega),Bool.false_or]
theorem a7w {l:List Att} {k:Nat} (hk:k<l.length) (h:a7v l k=false):o7 l=false:=by
 unfold o7;rw [List.all_eq_false.2 ⟨k,List.mem_range.2 hk,by rw [h];decide⟩,Bool.false_and]
theorem a55 {l:List Att} (h:∀j,j<l.length->a7v l j=true):o7 l=decide (l.length<=8):=by
 unfold o7;rw [List.all_eq_true.2 fun j hj=>h j (List.mem_range.1 hj),Bool.true_and]
theorem b3J {p:Prop} (n r z l k:Bool) (h1:n=false->p) (h2:n=true->r=false->p) (h3:n=true->r=true->z=true->k=false->p) (h4:n=true->r=true->z=true->k=true->p)
 (h5:n=true->r=true->z=false->l=false->p) (h6:n=true->r=true->z=false->l=true->k=false->p) (h7:n=true->r=true->z=false->l=true->k=true->p):p:=by
 cases n
 ·exact h1 rfl
 cases r
 ·exact h2 rfl rfl
 cases z
 ·cases l
  ·exact h5 rfl rfl rfl rfl
  cases k
  ·exact h6 rfl rfl rfl rfl rfl
  exact h7 rfl rfl rfl rfl rfl
 ·cases k
  ·exact h3 rfl rfl rfl rfl
  exact h4 rfl rfl rfl rfl
theorem a7x:(match Tryz.prog.underlying 68 with|some (.struct _)=>true|some (.array _ _)=>true|_=>false)=true:=by kernel_rfl
theorem b1H:(Tryz.prog.info? 68).map (·.size)=some 5:=by kernel_rfl
@[go_sem ↓] theorem b3K {ρ:Operand->Value} {dst:Option Tmp} {x:Operand} {type:TypeId} {pos:String} {after:Array Edge} {guard:Option (Nat×Bool)} {w:World} (h:a4E w (ρ x) 5):
 Sem.run Tryz.prog (execOp ρ ⟨dst,.load 68 x,type,pos,after,guard⟩) w= .ok (.value (.agg (V4 w (ρ x) 5))) w:=B3 a7x b1H h
theorem a56 (sc:ByteArray) (av:Value) (l:List Att) (w:World) (h:j0 w 6 av l.length (j7 l)) (hl:l.length<=100000) (hsz:∀x∈l,x.name.size<=9223372036854775807):
 Calls Tryz.prog 19 #[.agg #[.string sc,av]] w fun e w'=>e= .returned (.bool (o7 l))/\Mod (fun _=>False) w w':=by
 have h0:=h;obtain ⟨h1,a,cap,rfl,h2,h3,h4⟩:=h;have hl':(l.length:Int)<=100000:=by omega
 obtain ⟨R,hR⟩:∃R,o7 l=R:=⟨_,rfl⟩;rw [hR];obtain ⟨HR,H0,H4,H1,H3,Hsz⟩:=zh6 hR h0 h4 h1 h3 hsz;clear h0 h4 h1 hl hR h3 hsz
 go_enter Tryz.func19,Tryz.ntmps19
 go_wp2_with fail
 go_loopw [8] (fun i wr=>∃k:Nat,k<=l.length/\i= .int .i64 k/\Mod (fun _=>False) (w.alloc (.cells #[.string sc,.slice a l.length cap] 46)) wr/\(∀j,j<k->a7v l j=true)) (fun i _=>l.length - (intOf i).toNat)
 case atStart=>exact ⟨0,Nat.zero_le _,rfl,Mod.refl _ _,fun j hj=>by omega⟩
 case round=>
  obtain ⟨k,hk,rfl,hm,hall⟩:=hrel;have hbox:=hm.heap (heap_alloc_new w _) (by simp);have hm0:Mod (fun _=>False) w wr:=((Mod.refl (fun _=>False) w).alloc _).trans hm (fun _ _ h=>h);obtain ⟨Hbox,Hm0,Hall,Hm⟩:=zh4 hbox hm0 hall hm;clear hbox hm0 hall hm;by_cases hlt:k<l.length
  ·have hlt':(k:Int)<l.length:=by omega
   obtain ⟨x,hx⟩:∃x,l[k]? =some x:=⟨_,zz5 hlt⟩
   obtain ⟨b,hab⟩:∃b,a=some b:=by
    cases a with
    |none=>have:=H3.out rfl;omega
    |some b=>exact ⟨b,rfl⟩
   obtain ⟨p,off,rfl,hc⟩:=H4.out b hab (by omega);subst hab
   have hxs:e7 wr p (off+k*6) x.cells:=by
    intro j u hu;have:=Hm0.out.cell (hc (6*k+j) u (a0j l hx hu)) (by simp);rw [show off+k*6+j=off+(6*k+j) by omega];exact this
   have c0:wr.cell? ⟨p,off+k*6,none⟩=some (.string x.name):=hxs 0 _ rfl;have c1:wr.cell? ⟨p,off+k*6+1,none⟩=some (.int .i64 x.v.kind):=hxs 1 _ rfl;have c2:wr.cell? ⟨p,off+k*6+2,none⟩=some (.int .i64 x.v.int):=hxs 2 _ rfl;have c3:wr.cell? ⟨p,off+k*6+3,none⟩=some (.float .f64 x.v.num):=hxs 3 _ rfl;have c4:wr.cell? ⟨p,off+k*6+4,none⟩=some (.string x.v.text):=hxs 4 _ rfl;have c5:wr.cell? ⟨p,off+k*6+5,none⟩=some (.bool x.v.yes):=hxs 5 _ rfl;obtain ⟨Hxs,Hc,Hx⟩:=zh3 hxs hc hx;clear hxs hc hx H3 H4
   go_wp2_with (first|(refine K3 rfl 70 (.tmp 4) (.tmp 12) rfl rfl _ 70 x.cells rfl rfl (by kernel_rfl) (fun u hu=>zz15 (show x.cells.all (·.oneCell')=true from rfl) u hu) ?_)|fail)
   have hW:=heap_alloc_new wr (.cells x.cells.toArray 70);obtain ⟨q,hq⟩:∃q,l[k - 1]? =some q:=⟨_,zz5 (by omega)⟩
   have hcq:wr.cell? ⟨p,off+(k - 1)*6,none⟩=some (.string q.name):=by
    have:=Hm0.out.cell (Hc.out (6*(k - 1)+0) (.string q.name) (a0j l hq rfl)) (by simp);rw [show off+(k - 1)*6=off+(6*(k - 1)+0) by omega];exact this
   have hf:∀w',Mod (fun _=>False) (wr.alloc (.cells x.cells.toArray 70)) w'->w'.cell? ⟨wr.heap.size,0,none⟩=some (.string x.name)/\j9 w' wr.heap.size 1 5/\cellsOf w' wr.heap.size 1 5=x.v.cells.toArray/\w'.cell? ⟨w.heap.size,1,none⟩=some (.slice (some ⟨p,off,none⟩) l.length cap)/\w'.cell? ⟨p,off+(k - 1)*6,none⟩=some (.string q.name):=by
    intro w' hw';have h1:=hw'.heap hW (by simp);have h2:e7 w' wr.heap.size 1 x.v.cells:=fun j u hu=>by have:=e7.row h1 (j+1) u (by simpa [Att.cells] using hu);rw [show 1+j=0+(j+1) by omega];exact this
    have hmq:Mod (fun _=>False) wr w':=((Mod.refl (fun _=>False) wr).alloc _).trans hw' (fun _ _ h=>h);exact ⟨d6 h1 rfl,h2.all rfl,h2.is rfl,d6 (hw'.heap (a5r Hbox.out) (by simp)) rfl,hmq.cell hcq (by simp)⟩
   have Hf:=zh hf
   have hname:∀w',Mod (fun _=>False) (wr.alloc (.cells x.cells.toArray 70)) w'->Calls Tryz.prog 50 #[.string x.name] w' fun e w''=>e= .returned (.bool (n4 x.name))/\Mod (fun _=>False) (wr.alloc (.cells x.cells.toArray 70)) w'':=
    fun w' hw'=>(a1i x.name (Hsz.out x (zz8 Hx.out)) w').mono fun e w'' h=>⟨h.1,h.2▸hw'⟩
   have hrg:∀w',Mod (fun _=>False) (wr.alloc (.cells x.cells.toArray 70)) w'->Calls Tryz.prog 51 #[.agg x.v.cells.toArray] w' fun e w''=>e= .returned (.bool x.v.right)/\Mod (fun _=>False) (wr.alloc (.cells x.cells.toArray 70)) w'':=
    fun w' hw'=>(a14 x.v w').mono fun e w'' h=>⟨h.1,hw'.trans h.2 (fun _ _ h=>h)⟩
   have hkp:∀w',Mod (fun _=>False) (wr.alloc (.cells x.cells.toArray 70)) w'->Calls Tryz.prog 52 #[.agg x.v.cells.toArray] w' fun e w''=>e= .returned (.bool x.v.kept)/\Mod (fun _=>False) (wr.alloc (.cells x.cells.toArray 70)) w'':=
    fun w' hw'=>(b3g x.v w').mono fun e w'' h=>⟨h.1,hw'.trans h.2 (fun _ _ h=>h)⟩
   obtain ⟨Hname,Hrg,Hkp⟩:=zh3 hname hrg hkp;have hok:=a8y Hx.out hq;have Hok:=zh hok;have hM:=Hm.out.alloc (.cells x.cells.toArray 70);have HM:=zh hM;clear hM;clear hf hW hname hrg hkp hq hcq hok c0 c1 c2 c3 c4 c5;refine b3J (n4 x.name) x.v.right (decide (k=0)) (Op.bytesLess q.name.toList x.name.toList) x.v.kept (fun hn=> ?_) (fun hn hr=> ?_) (fun hn hr hz hkt=> ?_) (fun hn hr hz hkt=> ?_) (fun hn hr hz hls=> ?_) (fun hn hr hz hls hkt=> ?_) (fun hn hr hz hls hkt=> ?_)
   all_goals try rw [hn] at Hname Hok
   all_goals try rw [hr] at Hrg Hok
   all_goals try rw [hkt] at Hkp Hok
   all_goals try rw [hz] at Hok
   all_goals try rw [hls] at Hok
   all_goals try simp only [decide_eq_true_eq,decide_eq_false_iff_not] at hz
   all_goals clear Hx Hxs Hc Hsz
   all_goals try (obtain rfl:=hz)
   all_goals try (
    rcases Nat.eq_zero_or_pos k with hk0|hk0
    ·exfalso;omega
    obtain ⟨m,hmk⟩:∃m,k=m+1:=⟨k - 1,by omega⟩;subst hmk;have hmw:IntKind.i64.wrap (m:Int)=m:=by rw [IntKind.wrap_i64];omega
    have hml:(m:Int)<l.length:=by omega)
   all_goals try rw [Nat.add_sub_cancel] at Hf
   all_goals refine i8 (by kernel_rfl) (by kernel_rfl) ?_
   all_goals
    iterate 32 (first
     | (refine k7 ?_ (fun K hK=> ?_)
        ·first|(go_simp;done)|(go_simp;simp [undef];done)
        go_simp;refine hK _ ?_;clear hK K)
     | (refine m8 ?_ ?_ (fun w' hw'=> ?_) (fun K hK=> ?_)
        ·first|(go_simp;done)|(go_simp;simp [undef];done)
        rotate_left
        ·obtain ⟨f1,f2,f3,f4,f5⟩:=Hf.out w' hw';go_simp;rfl
        go_simp;refine hK _ ?_;clear hK K)
     | (refine p8 ?_ ?_ ?_ ?_ (fun w' hw'=> ?_) ?_ (fun K hK=> ?_)
        ·first|(go_simp;done)|(go_simp;simp [undef];done)
        rotate_left 3
        ·obtain ⟨f1,f2,f3,f4,f5⟩:=Hf.out w' hw';go_simp;constructor<;>rfl
        ·first|exact Hname.out|exact Hrg.out|exact Hkp.out
        go_simp;refine hK _ ?_;clear hK K))
   all_goals refine m4 (fun w' hw'=> ?_)
   all_goals have hM2:=HM.out.trans hw' (fun _ _ h=>h)
   all_goals have hM0:=((Mod.refl (fun _=>False) w).alloc _).trans hM2 (fun _ _ h=>h)
   all_goals have HM2:=Lib.hid hM2
   all_goals have HM0:=Lib.hid hM0
   all_goals have Hok':=Lib.hid Hok.out
   all_goals clear hM2 hM0 hw' Hok
   all_goals go_wp2
   all_goals first
    | (go_ret
       exact ⟨congrArg (fun b=>Ending.returned (.bool b)) ((a7w (by omega) Hok'.out).symm.trans HR.out),HM0.out⟩)
    | (go_roundw
       case rel=>
        refine ⟨_,hlt,by go_num,HM2.out,fun j hj=> ?_⟩;rcases Nat.lt_succ_iff_lt_or_eq.1 hj with hj|rfl
        ·exact Hall.out j hj
        exact Hok'.out
       case measure=>simp [intOf];omega)
  obtain rfl:k=l.length:=by omega
  have hn:=a55 Hall.out;rw [HR.out] at hn;have hd:decide ((l.length:Int)<=8)=R:=by rw [hn];congr 1;apply propext;omega
  have HD:=zh hd;have cb:wr.cell? ⟨w.heap.size,1,none⟩=some (.slice a l.length cap):=d6 Hbox.out rfl;clear hn hd
  go_wp2
  go_ret;exact ⟨congrArg (fun b=>Ending.returned (.bool b)) HD.out,Hm0.out⟩
end
end Go.Proofs.YtaenebdppkjhoaaGreatDoor
