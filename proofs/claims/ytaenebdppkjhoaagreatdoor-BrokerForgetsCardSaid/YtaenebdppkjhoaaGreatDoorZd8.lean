/- Lemmas of this claim. -/
import Derived.Test.YtaenebdppkjhoaaGreatDoorZd5
namespace Go.Proofs.YtaenebdppkjhoaaGreatDoor
set_option maxRecDepth 20000
set_option maxHeartbeats 40000000
section
open Go.RowKit
def rises (l:List Att):Prop:=∀(i j:Nat) (x y:Att),i<j→l[i]? =some x→l[j]? =some y→Op.bytesLess x.name.data.toList y.name.data.toList=true
theorem rises.less {l:List Att} (h:rises l) {i j:Nat} {x y:Att} {s:List UInt8} (hij:i<j) (hx:l[i]? =some x) (hy:l[j]? =some y) (hl:Op.bytesLess y.name.data.toList s=true):Op.bytesLess x.name.data.toList s=true:=
 less_trans _ _ _ (h i j x y hij hx hy) hl
theorem rises.more {l:List Att} (h:rises l) {i j:Nat} {x y:Att} {s:List UInt8} (hij:i<j) (hx:l[i]? =some x) (hy:l[j]? =some y) (hl:Op.bytesLess x.name.data.toList s=false):Op.bytesLess y.name.data.toList s=false:=
 Bool.eq_false_iff.2 fun hh=>by rw [h.less hij hx hy hh] at hl;cases hl
def pos (l:List Att) (s:ByteArray):Nat:=(l.takeWhile fun a=>Op.bytesLess a.name.data.toList s.data.toList).length
def there (l:List Att) (s:ByteArray):Bool:=match l[pos l s]? with|some a=>a.name.data.toList==s.data.toList|none=>false
structure Cnd where
 name:ByteArray
 op:Int
 v:V
def Cnd.cells (a:Cnd):List Value:= .string a.name:: .int .i64 a.op::a.v.cells
theorem Cnd.cells_length (a:Cnd):a.cells.length=7:=rfl
def cnds (l:List Cnd):List Value:=l.flatMap Cnd.cells
theorem cnds_at (l:List Cnd) {k j:Nat} {a:Cnd} {u:Value} (h:l[k]? =some a) (hj:a.cells[j]? =some u):(cnds l)[7*k+j]? =some u:=by
 induction l generalizing k with
 |nil=>simp at h
 | cons b l ih=>
  unfold cnds at ih⊢
  rw [List.flatMap_cons]
  cases k with
  |zero=>
   simp only [List.getElem?_cons_zero,Option.some.injEq] at h
   subst h
   have:=(List.getElem?_eq_some_iff.1 hj).1
   rw [List.getElem?_append_left (by omega),Nat.mul_zero,Nat.zero_add,hj]
  |succ k=>
   rw [List.getElem?_cons_succ] at h
   rw [List.getElem?_append_right (by rw [Cnd.cells_length];omega),Cnd.cells_length,show 7*(k+1)+j - 7=7*k+j by omega]
   exact ih h
theorem cells_from2 {w:World} {g:Nat} {x:Cnd} {t:TypeId} (h:w.heap[g]? =some (.cells x.cells.toArray t (0,0))):CellsAt w g 2 x.v.cells:=fun j u hu=>by
 have:=CellsAt.row h (j+2) u (by simpa [Cnd.cells] using hu)
 rw [show 2+j=0+(j+2) by omega]
 exact this
theorem cnds_append (l m:List Cnd):cnds (l++m)=cnds l++cnds m:=by unfold cnds;simp
theorem cnds_one (l:List Cnd):∀u∈cnds l,u.oneCell'=true:=fun u hu=>by
 unfold cnds at hu
 obtain ⟨x, -,hx⟩:=List.mem_flatMap.1 hu
 exact List.all_eq_true.1 (show x.cells.all (·.oneCell')=true from rfl) u hx
theorem cnd_size:(Tryz.prog.info? 132).map (·.size)=some 7:=by kernel_rfl
theorem rd_cnd {w:World} {a:Option Addr} {cap:Nat} {l:List Cnd} {j:Nat} {x:Cnd} (h:RdSl w 7 (.slice a l.length cap) l.length (cnds l)) (hx:l[j]? =some x):∃g off,a=some ⟨g,off,none⟩∧CellsAt w g (off+j*7) x.cells:=by
 obtain ⟨-,a',c',h1, -,h3,h4⟩:=h
 cases h1
 cases a with
 |none=>have:=(List.getElem?_eq_some_iff.1 hx).1;exact absurd (h3 rfl) (by omega)
 |some b=>
  obtain ⟨g',off',h5,h6⟩:=h4 _ rfl (by have:=(List.getElem?_eq_some_iff.1 hx).1;omega)
  refine ⟨g',off',by rw [h5],fun i u hu=> ?_⟩
  have:=h6 (7*j+i) u (cnds_at _ hx hu)
  rw [show off'+j*7+i=off'+(7*j+i) by omega]
  exact this
def Cnd.rightB (c:Cnd):Bool:=isName c.name&&(decide (0≤c.op)&&(decide (c.op≤7)&&c.v.right))
theorem cond_right (c:Cnd) (hn:c.name.size≤9223372036854775807) (w:World):Calls Tryz.prog 57 #[.agg c.cells.toArray] w fun e w'=>e= .returned (.bool c.rightB)∧Mod (fun _=>False) w w':=by
 obtain ⟨wa,hwa,hmwa,hgwa,hzwa⟩:=allocE w (.cells c.cells.toArray 132)
 have c0:wa.cell? ⟨w.heap.size,0,none⟩=some (.string c.name):=cell_of hgwa rfl
 have c1:wa.cell? ⟨w.heap.size,1,none⟩=some (.int .i64 c.op):=cell_of hgwa rfl
 have c2:wa.cell? ⟨w.heap.size,2,none⟩=some (.int .i64 c.v.kind):=cell_of hgwa rfl
 have c3:wa.cell? ⟨w.heap.size,3,none⟩=some (.int .i64 c.v.int):=cell_of hgwa rfl
 have c4:wa.cell? ⟨w.heap.size,4,none⟩=some (.float .f64 c.v.num):=cell_of hgwa rfl
 have c5:wa.cell? ⟨w.heap.size,5,none⟩=some (.string c.v.text):=cell_of hgwa rfl
 have c6:wa.cell? ⟨w.heap.size,6,none⟩=some (.bool c.v.yes):=cell_of hgwa rfl
 have hnm:=name_at c.name (by omega) wa
 have Hnm:=Lib.hid hnm
 have Hwa:=Lib.hid hwa
 have Hmwa:=Lib.hid hmwa
 clear hnm hwa hmwa hgwa hzwa hn
 cases h1:isName c.name with
 |false=>
  rw [show c.rightB=false by unfold Cnd.rightB;rw [h1];rfl]
  rw [h1] at Hnm
  clear h1
  go_enter Tryz.func57,Tryz.ntmps57
  go_wp2_with (first|(rw [show w.alloc _=wa from Hwa.out])|fail)
  refine Hnm.out.mono ?_
  rintro e w' ⟨rfl,rfl⟩
  go_wp2
  go_ret
  exact ⟨rfl,Hmwa.out⟩
 | true=>
  rw [show c.rightB=(decide (0≤c.op)&&(decide (c.op≤7)&&c.v.right)) by unfold Cnd.rightB;rw [h1];rfl]
  rw [h1] at Hnm
  clear h1
  by_cases h2:0≤c.op
  rotate_left
  ·have h2':c.op<0:=by omega
   rw [show (decide (0≤c.op)&&(decide (c.op≤7)&&c.v.right))=false by rw [decide_eq_false h2,Bool.false_and]]
   clear h2
   go_enter Tryz.func57,Tryz.ntmps57
   go_wp2_with (first|(rw [show w.alloc _=wa from Hwa.out])|fail)
   refine Hnm.out.mono ?_
   rintro e w' ⟨rfl,rfl⟩
   go_wp2
   go_ret
   exact ⟨rfl,Hmwa.out⟩
  by_cases h3:c.op≤7
  rotate_left
  ·have h3':7<c.op:=by omega
   rw [show (decide (0≤c.op)&&(decide (c.op≤7)&&c.v.right))=false by rw [decide_eq_false h3,Bool.false_and,Bool.and_false]]
   clear h3
   go_enter Tryz.func57,Tryz.ntmps57
   go_wp2_with (first|(rw [show w.alloc _=wa from Hwa.out])|fail)
   refine Hnm.out.mono ?_
   rintro e w' ⟨rfl,rfl⟩
   go_wp2
   go_ret
   exact ⟨rfl,Hmwa.out⟩
  rw [show (decide (0≤c.op)&&(decide (c.op≤7)&&c.v.right))=c.v.right by rw [decide_eq_true h2,decide_eq_true h3,Bool.true_and,Bool.true_and]]
  have hvr:=value_right c.v wa
  have Hvr:=Lib.hid hvr
  clear hvr
  go_enter Tryz.func57,Tryz.ntmps57
  go_wp2_with (first|(rw [show w.alloc _=wa from Hwa.out])|fail)
  refine Hnm.out.mono ?_
  rintro e w' ⟨rfl,rfl⟩
  go_wp2_with fail
  refine Hvr.out.mono ?_
  rintro e w2 ⟨rfl,hm2⟩
  have Hm2:=Lib.hid (Hmwa.out.trans hm2 (fun _ _ h=>h))
  clear hm2
  go_wp2
  go_ret
  exact ⟨rfl,Hm2.out⟩
def filRight (sc:ByteArray) (l:List Cnd):Bool:=l.all Cnd.rightB&&(scRight sc&&decide (l.length≤6))
theorem filter_right (w:World) (sc:ByteArray) (av:Value) (l:List Cnd) (hv:RdSl w 7 av l.length (cnds l)) (hll:l.length≤9223372036854775807) (hsc:sc.size≤9223372036854775807) (hn:∀c∈l,c.name.size≤9223372036854775807):
 Calls Tryz.prog 25 #[.agg #[.string sc,av]] w fun e w'=>e= .returned (.bool (filRight sc l))∧Mod (fun _=>False) w w':=by
 obtain ⟨a,cap,rfl,hcap⟩:∃a c,av= .slice a l.length c∧l.length≤c:=by obtain ⟨-,a,c,h,h2, -⟩:=hv;exact ⟨a,c,h,h2⟩
 have hll':(l.length:Int)≤9223372036854775807:=by omega
 have hcap':(l.length:Int)≤cap:=by omega
 obtain ⟨wa,hwa,hmwa,hgwa,hzwa⟩:=allocE w (.cells #[.string sc,.slice a l.length cap] 33)
 have hva:=hv.mod hmwa (fun _ _ h=>h)
 have hg:=hgwa
 have c1:wa.cell? ⟨w.heap.size,1,none⟩=some (.slice a l.length cap):=cell_of hgwa rfl
 obtain ⟨R,hR⟩:∃R,filRight sc l=R:=⟨_,rfl⟩
 rw [hR]
 have hqz:w.heap.size<wa.heap.size:=by omega
 have hsc':=hsc
 have Hv:=Lib.hid hv
 have Hn:=Lib.hid hn
 have Hwa:=Lib.hid hwa
 have Hmwa:=Lib.hid hmwa
 have Hgwa:=Lib.hid hgwa
 have Hva:=Lib.hid hva
 have HR:=Lib.hid hR
 have Hg:=Lib.hid hg
 clear hv hn hwa hmwa hgwa hva hR hg hzwa hll hsc
 go_enter Tryz.func25,Tryz.ntmps25
 go_wp2_with (first|(rw [show w.alloc _=wa from Hwa.out])|fail)
 go_loopw [8] (fun i wr=>∃j:Nat,i= .int .i64 j∧j≤l.length∧Mod (fun _=>False) wa wr∧(∀(k:Nat) (x:Cnd),k<j→l[k]? =some x→x.rightB=true)) (fun i _=>l.length - (intOf i).toNat)
 case atStart=>exact ⟨0,rfl,Nat.zero_le _,Mod.refl _ _,fun k x hk=>by omega⟩
 case round=>
  obtain ⟨j,rfl,hj,hmr,hall⟩:=hrel
  by_cases hlt:j<l.length
  ·have hlt':(j:Int)<l.length:=by omega
   obtain ⟨x,hxj⟩:∃x,l[j]? =some x:=⟨_,List.getElem?_eq_getElem hlt⟩
   have hxm:=List.mem_of_getElem? hxj
   obtain ⟨g,off,rfl,hf⟩:∃g off,a=some ⟨g,off,none⟩∧CellsAt wr g (off+j*7) x.cells:=rd_cnd (Hva.out.mod hmr (fun _ _ h=>h)) hxj
   obtain ⟨wz,hwz,hmwz,hgwz,hzwz⟩:=allocE wr (.cells x.cells.toArray 132)
   have hmz:=hmr.trans hmwz (fun _ _ h=>h)
   have hcr:=cond_right x (Hn.out x hxm) wz
   have Hmr:=Lib.hid hmr
   have Hall:=Lib.hid hall
   have Hxj:=Lib.hid hxj
   have Hxm:=Lib.hid hxm
   have Hf:=Lib.hid hf
   have Hwz:=Lib.hid hwz
   have Hmwz:=Lib.hid hmwz
   have Hgwz:=Lib.hid hgwz
   have Hmz:=Lib.hid hmz
   have Hcr:=Lib.hid hcr
   clear hmr hall hxj hxm hf hwz hmwz hgwz hmz hcr hzwz
   go_wp2_with (first|((with_reducible refine wpList_load_lit 132 (.tmp 10) ?_);refine ⟨g,off+j*7,rfl,x.cells,Hf.out,by kernel_rfl,by kernel_rfl, ?_⟩)|((with_reducible refine wpList_store_lit 132 (.tmp 4) (.tmp 11) ?_);refine ⟨rfl,x.cells,rfl,rfl,by kernel_rfl,rfl, ?_⟩;rw [Hwz.out])|((with_reducible refine wpList_load_lit 132 (.tmp 4) ?_);refine ⟨wr.heap.size,0,rfl,x.cells,CellsAt.row Hgwz.out,by kernel_rfl,by kernel_rfl, ?_⟩)|fail)
   refine Hcr.out.mono ?_
   rintro e w3 ⟨rfl,hm3⟩
   have Hm3:=Lib.hid (Hmz.out.trans hm3 (fun _ _ h=>h))
   clear hm3
   cases hs:x.rightB with
   | true=>
    have Hs:=Lib.hid hs
    clear hs
    go_wp2_with fail
    go_roundw
    case rel=>
     refine ⟨j+1,by go_num,hlt,Hm3.out,fun k x' hk hx'=> ?_⟩
     rcases Nat.lt_succ_iff_lt_or_eq.1 hk with hk|rfl
     ·exact Hall.out k x' hk hx'
     ·rw [Hxj.out] at hx';cases hx';exact Hs.out
    case measure=>simp [intOf];omega
   | false=>
    have Hs:=Lib.hid hs
    clear hs
    go_wp2
    go_ret
    refine ⟨?_,Hmwa.out.trans Hm3.out (fun _ _ h=>h)⟩
    have hf:filRight sc l=false:=by
     unfold filRight
     rw [List.all_eq_false.2 ⟨x,Hxm.out,by rw [Hs.out];decide⟩,Bool.false_and]
    rw [←HR.out,hf]
    rfl
  ·obtain rfl:j=l.length:=by omega
   have hgr:=hmr.heap Hg.out (fun h=>h)
   have c0:wr.cell? ⟨w.heap.size,0,none⟩=some (.string sc):=cell_of hgr rfl
   have c1:wr.cell? ⟨w.heap.size,1,none⟩=some (.slice a l.length cap):=cell_of hgr rfl
   have hsr:=scope_right sc hsc' wr
   have hfr:filRight sc l=(scRight sc&&decide (l.length≤6)):=by
    unfold filRight
    rw [List.all_eq_true.2 fun x hx=>by
     obtain ⟨k,hk⟩:=List.mem_iff_getElem?.1 hx
     exact hall k x (List.getElem?_eq_some_iff.1 hk).1 hk,Bool.true_and]
   rw [HR.out] at hfr
   have hmr2:=Hmwa.out.trans hmr (fun _ _ h=>h)
   have Hmr2:=Lib.hid hmr2
   have Hsr:=Lib.hid hsr
   have Hfr:=Lib.hid hfr
   have Hgr:=Lib.hid hgr
   clear hmr2 hsr hfr hgr hmr hall
   go_wp2_with fail
   refine Hsr.out.mono ?_
   rintro e w3 ⟨rfl,hm3⟩
   have hg3:=hm3.heap Hgr.out (fun h=>h)
   have c1:w3.cell? ⟨w.heap.size,1,none⟩=some (.slice a l.length cap):=cell_of hg3 rfl
   have Hm3:=Lib.hid (Hmr2.out.trans hm3 (fun _ _ h=>h))
   clear hm3 hg3
   cases hs:scRight sc with
   |false=>
    have Hs:=Lib.hid hs
    clear hs
    go_wp2
    go_ret
    refine ⟨?_,Hm3.out⟩
    rw [Hfr.out,Hs.out]
    rfl
   |true=>
    have Hs:=Lib.hid hs
    clear hs
    go_wp2
    go_ret
    refine ⟨?_,Hm3.out⟩
    rw [Hfr.out,Hs.out,Bool.true_and]
    show Ending.returned (.bool (decide ((l.length:Int)≤6)))=_
    congr 2
    exact decide_eq_decide.2 (by omega)
structure Ru where
 kind:Int
 tenant:Int
 who:ByteArray
 broker:Int
 sc:ByteArray
 ca:Option Addr
 cc:Nat
 name:ByteArray
 at_:Int
 cs:List Cnd
def Ru.cv (r:Ru):Value:= .slice r.ca r.cs.length r.cc
def Ru.cells (r:Ru):List Value:=[.int .i64 r.kind,.int .i64 r.tenant,.string r.who,.int .i64 r.broker,.string r.sc,.slice r.ca r.cs.length r.cc,.string r.name,.int .i64 r.at_]
theorem Ru.cells_length (a:Ru):a.cells.length=8:=rfl
def rus (l:List Ru):List Value:=l.flatMap Ru.cells
theorem rus_at (l:List Ru) {k j:Nat} {a:Ru} {u:Value} (h:l[k]? =some a) (hj:a.cells[j]? =some u):(rus l)[8*k+j]? =some u:=by
 induction l generalizing k with
 |nil=>simp at h
 | cons b l ih=>
  unfold rus at ih⊢
  rw [List.flatMap_cons]
  cases k with
  |zero=>
   simp only [List.getElem?_cons_zero,Option.some.injEq] at h
   subst h
   have:=(List.getElem?_eq_some_iff.1 hj).1
   rw [List.getElem?_append_left (by omega),Nat.mul_zero,Nat.zero_add,hj]
  |succ k=>
   rw [List.getElem?_cons_succ] at h
   rw [List.getElem?_append_right (by rw [Ru.cells_length];omega),Ru.cells_length,show 8*(k+1)+j - 8=8*k+j by omega]
   exact ih h
theorem rus_length (l:List Ru):(rus l).length=l.length*8:=by
 induction l with
 |nil=>rfl
 |cons a l ih=>
  show (a.cells++rus l).length=_
  rw [List.length_append,ih,Ru.cells_length,List.length_cons]
  omega
theorem rus_append (l m:List Ru):rus (l++m)=rus l++rus m:=by unfold rus;simp
theorem rus_cons (a:Ru) (l:List Ru):rus (a::l)=a.cells++rus l:=by unfold rus;simp
structure Ru.ok (w:World) (r:Ru):Prop where
 rd:RdSl w 7 r.cv r.cs.length (cnds r.cs)
 len:r.cs.length≤9223372036854775807
 who:r.who.size≤9223372036854775807
 sc:r.sc.size≤9223372036854775807
 name:r.name.size≤9223372036854775807
 cname:∀c∈r.cs,c.name.size≤9223372036854775807∧c.v.text.size≤9223372036854775807
theorem Ru.ok.mod {w w':World} {r:Ru} (h:r.ok w) (hm:Mod (fun _=>False) w w'):r.ok w':=⟨h.rd.mod hm (fun _ _ h=>h),h.len,h.who,h.sc,h.name,h.cname⟩
structure RuSl (w:World) (v:Value) (l:List Ru):Prop where
 rd:RdSl w 8 v l.length (rus l)
 ok:∀r∈l,r.ok w
theorem RuSl.mod {w w':World} {v:Value} {l:List Ru} (h:RuSl w v l) (hm:Mod (fun _=>False) w w'):RuSl w' v l:=⟨h.rd.mod hm (fun _ _ h=>h),fun r hr=>(h.ok r hr).mod hm⟩
theorem rd_rule {w:World} {a:Option Addr} {cap:Nat} {l:List Ru} {j:Nat} {x:Ru} (h:RuSl w (.slice a l.length cap) l) (hx:l[j]? =some x):∃g off,a=some ⟨g,off,none⟩∧CellsAt w g (off+j*8) x.cells:=by
 obtain ⟨-,a',c',h1, -,h3,h4⟩:=h.rd
 cases h1
 cases a with
 |none=>have:=(List.getElem?_eq_some_iff.1 hx).1;exact absurd (h3 rfl) (by omega)
 |some b=>
  obtain ⟨g',off',h5,h6⟩:=h4 _ rfl (by have:=(List.getElem?_eq_some_iff.1 hx).1;omega)
  refine ⟨g',off',by rw [h5],fun i u hu=> ?_⟩
  have:=h6 (8*j+i) u (rus_at _ hx hu)
  rw [show off'+j*8+i=off'+(8*j+i) by omega]
  exact this
def Ru.of (r:Ru) (kind tenant:Int) (who:ByteArray):Bool:=r.kind==kind&&(r.tenant==tenant&&r.who.toList==who.toList)
theorem of_at (r:Ru) (kind tenant:Int) (who:ByteArray) (w:World):Calls Tryz.prog 90 #[.agg r.cells.toArray,.int .i64 kind,.int .i64 tenant,.string who] w fun e w'=>e= .returned (.bool (r.of kind tenant who))∧Mod (fun _=>False) w w':=by
 obtain ⟨wa,hwa,hmwa,hgwa,hzwa⟩:=allocE w (.cells r.cells.toArray 35)
 have c0:wa.cell? ⟨w.heap.size,0,none⟩=some (.int .i64 r.kind):=cell_of hgwa rfl
 have c1:wa.cell? ⟨w.heap.size,1,none⟩=some (.int .i64 r.tenant):=cell_of hgwa rfl
 have c2:wa.cell? ⟨w.heap.size,2,none⟩=some (.string r.who):=cell_of hgwa rfl
 have Hwa:=Lib.hid hwa
 have Hmwa:=Lib.hid hmwa
 clear hwa hmwa hgwa hzwa
 cases h1:r.kind==kind with
 |false=>
  rw [show r.of kind tenant who=false by unfold Ru.of;rw [h1];rfl]
  go_enter Tryz.func90,Tryz.ntmps90
  go_wp2_with (first|(rw [show w.alloc _=wa from Hwa.out])|fail)
  go_ret
  exact ⟨rfl,Hmwa.out⟩
 | true=>
  cases h2:r.tenant==tenant with
  |false=>
   rw [show r.of kind tenant who=false by unfold Ru.of;rw [h1,h2];rfl]
   go_enter Tryz.func90,Tryz.ntmps90
   go_wp2_with (first|(rw [show w.alloc _=wa from Hwa.out])|fail)
   go_ret
   exact ⟨rfl,Hmwa.out⟩
  |true=>
   rw [show r.of kind tenant who=(r.who.toList==who.toList) by unfold Ru.of;rw [h1,h2];rfl]
   go_enter Tryz.func90,Tryz.ntmps90
   go_wp2_with (first|(rw [show w.alloc _=wa from Hwa.out])|fail)
   go_ret
   exact ⟨rfl,Hmwa.out⟩
end
end Go.Proofs.YtaenebdppkjhoaaGreatDoor
