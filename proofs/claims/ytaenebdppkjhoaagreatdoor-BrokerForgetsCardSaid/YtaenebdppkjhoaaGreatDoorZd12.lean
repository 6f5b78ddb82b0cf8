/- Lemmas of this claim. -/
import Derived.Test.YtaenebdppkjhoaaGreatDoorZd8
import Derived.Lib.Strings
import Derived.Laws.IdiomCopy
import Derived.Lib.Overlaps
namespace Go.Proofs.YtaenebdppkjhoaaGreatDoor
set_option maxRecDepth 20000
set_option maxHeartbeats 40000000
section
open Go.RowKit
def prefB (s p:ByteArray):Bool:=p.data.toList.isPrefixOf s.data.toList
theorem prefix_short {s p:ByteArray} (h:s.size<p.size):prefB s p=false:=by
 unfold prefB
 rw [Bool.eq_false_iff]
 intro hp
 have:=(List.isPrefixOf_iff_prefix.1 hp).length_le
 have h1:p.data.toList.length=p.size:=rfl
 have h2:s.data.toList.length=s.size:=rfl
 omega
theorem prefix_take {s p:ByteArray}:((s.extract 0 p.size).toList==p.toList)=prefB s p:=by
 unfold prefB
 rw [ByteArray.toList_eq,ByteArray.toList_eq,Bool.eq_iff_iff,beq_iff_eq,List.isPrefixOf_iff_prefix,List.prefix_iff_eq_take]
 have h1:(s.extract 0 p.size).data.toList=s.data.toList.take p.size:=by
  rw [ByteArray.data_extract,Array.toList_extract]
  simp
 rw [h1]
 have h2:p.data.toList.length=p.size:=rfl
 rw [h2]
 exact ⟨fun h=>h.symm,fun h=>h.symm⟩
theorem prefixl_at (s p:ByteArray) (hs:s.size≤9223372036854775807) (hp:p.size≤9223372036854775807) (w:World):Calls Tryz.prog 152 #[.string s,.string p] w fun e w'=>e= .returned (.bool (prefB s p))∧w'=w:=by
 have hs':(s.size:Int)≤9223372036854775807:=by omega
 have hp':(p.size:Int)≤9223372036854775807:=by omega
 by_cases h:p.size≤s.size
 ·have h':(p.size:Int)≤s.size:=by omega
  rw [←prefix_take]
  clear hs hp
  go_enter Tryz.func152,Tryz.ntmps152
  go_wp2
  go_ret
  exact ⟨rfl,rfl⟩
 ·have h':(s.size:Int)<p.size:=by omega
  rw [prefix_short (by omega)]
  clear hs hp h
  go_enter Tryz.func152,Tryz.ntmps152
  go_wp2
  go_ret
  exact ⟨rfl,rfl⟩
theorem prefix_at (s p:ByteArray) (hs:s.size≤9223372036854775807) (hp:p.size≤9223372036854775807) (w:World):Calls Tryz.prog 114 #[.string s,.string p] w fun e w'=>e= .returned (.bool (prefB s p))∧w'=w:=by
 have Hc:=Lib.hid (prefixl_at s p hs hp w)
 clear hs hp
 go_enter Tryz.func114,Tryz.ntmps114
 go_wp2_with fail
 refine Hc.out.mono ?_
 rintro e w' ⟨rfl,rfl⟩
 go_wp2
 go_ret
 exact ⟨rfl,rfl⟩
def underB (s top:ByteArray):Bool:=top.toList.isEmpty||(s.toList==top.toList||(prefB s top&&s.data.toList[top.size]? ==some 47))
theorem under_at (s top:ByteArray) (hs:s.size≤9223372036854775807) (hp:top.size≤9223372036854775807) (w:World):Calls Tryz.prog 81 #[.string s,.string top] w fun e w'=>e= .returned (.bool (underB s top))∧w'=w:=by
 have hc:=prefix_at s top hs hp w
 cases h1:top.toList.isEmpty with
 |true=>
  rw [show underB s top=true by unfold underB;rw [h1];rfl]
  clear hc hs hp
  go_enter Tryz.func81,Tryz.ntmps81
  go_wp2
  go_ret
  exact ⟨rfl,rfl⟩
 |false=>
 cases h2:s.toList==top.toList with
 |true=>
  rw [show underB s top=true by unfold underB;rw [h1,h2];rfl]
  clear hc hs hp
  go_enter Tryz.func81,Tryz.ntmps81
  go_wp2
  go_ret
  exact ⟨rfl,rfl⟩
 |false=>
 have hu:underB s top=(prefB s top&&s.data.toList[top.size]? ==some 47):=by unfold underB;rw [h1,h2];rfl
 rw [hu]
 cases h3:prefB s top with
 |false=>
  rw [h3] at hc
  have Hc:=Lib.hid hc
  rw [Bool.false_and]
  clear hc hs hp hu h3
  go_enter Tryz.func81,Tryz.ntmps81
  go_wp2_with fail
  refine Hc.out.mono ?_
  rintro e w' ⟨rfl,rfl⟩
  go_wp2
  go_ret
  exact ⟨rfl,rfl⟩
 | true=>
  rw [h3] at hc
  have hlt:top.size<s.size:=by
   have h4:=List.isPrefixOf_iff_prefix.1 (show top.data.toList.isPrefixOf s.data.toList=true from h3)
   rcases Nat.lt_or_eq_of_le h4.length_le with h5|h5
   ·exact h5
   ·have:=h4.eq_of_length h5
    rw [ByteArray.toList_eq,ByteArray.toList_eq,this,beq_self_eq_true] at h2
    cases h2
  have hlt':(top.size:Int)<s.size:=by omega
  have htop':(top.size:Int)≤9223372036854775807:=by omega
  have hs':(s.size:Int)≤9223372036854775807:=by omega
  have hg:s.data.toList[top.size]? =some s[top.size]:=List.getElem?_eq_getElem hlt
  have hb:(s.data.toList[top.size]? ==some 47)=((s[top.size].toNat:Int)==47):=by
   rw [hg,Bool.eq_iff_iff,beq_iff_eq,beq_iff_eq]
   constructor
   ·intro h
    have h:=Option.some.inj h
    rw [h]
    rfl
   ·intro h
    congr 1
    exact UInt8.toNat.inj (by have:(47:UInt8).toNat=47:=rfl;omega)
  rw [Bool.true_and,hb]
  have Hc:=Lib.hid hc
  clear hc hs hp hu h3 hg hb
  go_enter Tryz.func81,Tryz.ntmps81
  go_wp2_with fail
  refine Hc.out.mono ?_
  rintro e w' ⟨rfl,rfl⟩
  go_wp2
  go_ret
  exact ⟨rfl,rfl⟩
def sgn (l m:Bool):Int:=if l then -1 else if m then 1 else 0
def V.cmp (a b:V):Int:=if a.kind=0 then sgn (decide (a.int<b.int)) (decide (b.int<a.int)) else if a.kind=1 then sgn (fLt a.num b.num) (fLt b.num a.num) else
 if a.kind=2 then Lib.compareBytes a.text.data.toList b.text.data.toList else sgn (!a.yes&&b.yes) (a.yes&& !b.yes)
def V.alike (a b:V):Bool:=a.kind==b.kind&&(!a.void&& !b.void)
def cmpV (a b:V):Int×Bool:=if V.alike a b=true then (V.cmp a b,true) else (0,false)
theorem sign_at (l m:Bool) (w:World):Calls Tryz.prog 183 #[.bool l,.bool m] w fun e w'=>e= .returned (.int .i64 (sgn l m))∧w'=w:=by
 cases l with
 |true=>
  go_enter Tryz.func183,Tryz.ntmps183
  go_wp2
  go_ret
  exact ⟨rfl,rfl⟩
 | false=>
  cases m with
  |true=>
   go_enter Tryz.func183,Tryz.ntmps183
   go_wp2
   go_ret
   exact ⟨rfl,rfl⟩
  |false=>
   go_enter Tryz.func183,Tryz.ntmps183
   go_wp2
   go_ret
   exact ⟨rfl,rfl⟩
theorem compare_at (a b:V) (w:World):Calls Tryz.prog 148 #[.agg a.cells.toArray,.agg b.cells.toArray] w fun e w'=>e= .returned (.tuple #[.int .i64 (cmpV a b).1,.bool (cmpV a b).2])∧Mod (fun _=>False) w w':=by
 obtain ⟨wa,hwa,hmwa,hgwa,hzwa⟩:=allocE w (.cells a.cells.toArray 68)
 obtain ⟨wb,hwb,hmwb,hgwb,hzwb⟩:=allocE wa (.cells b.cells.toArray 68)
 have hmb:=hmwa.trans hmwb (fun _ _ h=>h)
 have hgA:=hmwb.heap hgwa (fun h=>h)
 have c0:wb.cell? ⟨w.heap.size,0,none⟩=some (.int .i64 a.kind):=cell_of hgA rfl
 have c1:wb.cell? ⟨w.heap.size,1,none⟩=some (.int .i64 a.int):=cell_of hgA rfl
 have c2:wb.cell? ⟨w.heap.size,2,none⟩=some (.float .f64 a.num):=cell_of hgA rfl
 have c3:wb.cell? ⟨w.heap.size,3,none⟩=some (.string a.text):=cell_of hgA rfl
 have c4:wb.cell? ⟨w.heap.size,4,none⟩=some (.bool a.yes):=cell_of hgA rfl
 have d0:wb.cell? ⟨wa.heap.size,0,none⟩=some (.int .i64 b.kind):=cell_of hgwb rfl
 have d1:wb.cell? ⟨wa.heap.size,1,none⟩=some (.int .i64 b.int):=cell_of hgwb rfl
 have d2:wb.cell? ⟨wa.heap.size,2,none⟩=some (.float .f64 b.num):=cell_of hgwb rfl
 have d3:wb.cell? ⟨wa.heap.size,3,none⟩=some (.string b.text):=cell_of hgwb rfl
 have d4:wb.cell? ⟨wa.heap.size,4,none⟩=some (.bool b.yes):=cell_of hgwb rfl
 have hlz:w.heap.size<wa.heap.size:=by omega
 have hva:=value_void a wb
 have Hwa:=Lib.hid hwa
 have Hwb:=Lib.hid hwb
 have Hmb:=Lib.hid hmb
 have Hva:=Lib.hid hva
 have HgA:=Lib.hid hgA
 have Hgwb:=Lib.hid hgwb
 clear hwa hwb hmb hva hgA hgwb hmwa hmwb hgwa hzwa hzwb
 cases hk:a.kind==b.kind with
 |false=>
  have hkn:(a.kind !=b.kind)=true:=by simp [bne,hk]
  have E:=Lib.hid (show cmpV a b=(0,false) by unfold cmpV V.alike;rw [hk];rfl)
  go_enter Tryz.func148,Tryz.ntmps148
  go_wp2_with (first|(rw [show w.alloc _=wa from Hwa.out])|(rw [show wa.alloc _=wb from Hwb.out])|fail)
  go_ret2
  exact ⟨by rw [E.out];rfl,Hmb.out⟩
 |true=>
 have hkn:(a.kind !=b.kind)=false:=by simp [bne,hk]
 cases hv:a.void with
 |true=>
  have E:=Lib.hid (show cmpV a b=(0,false) by unfold cmpV V.alike;rw [hk,hv];rfl)
  rw [hv] at Hva
  clear hv
  go_enter Tryz.func148,Tryz.ntmps148
  go_wp2_with (first|(rw [show w.alloc _=wa from Hwa.out])|(rw [show wa.alloc _=wb from Hwb.out])|fail)
  refine Hva.out.mono ?_
  rintro e w2 ⟨rfl,hm2⟩
  have Hm2:=Lib.hid (Hmb.out.trans hm2 (fun _ _ h=>h))
  clear hm2
  go_wp2
  go_ret2
  exact ⟨by rw [E.out];rfl,Hm2.out⟩
 |false=>
 have Hhk:=Lib.hid hk
 have Hhv:=Lib.hid hv
 rw [hv] at Hva
 clear hv hk
 go_enter Tryz.func148,Tryz.ntmps148
 go_wp2_with (first|(rw [show w.alloc _=wa from Hwa.out])|(rw [show wa.alloc _=wb from Hwb.out])|fail)
 refine Hva.out.mono ?_
 rintro e w2 ⟨rfl,hm2⟩
 have hA2:=hm2.heap HgA.out (fun h=>h)
 have hB2:=hm2.heap Hgwb.out (fun h=>h)
 have hm02:=Hmb.out.trans hm2 (fun _ _ h=>h)
 have d0:w2.cell? ⟨wa.heap.size,0,none⟩=some (.int .i64 b.kind):=cell_of hB2 rfl
 have d1:w2.cell? ⟨wa.heap.size,1,none⟩=some (.int .i64 b.int):=cell_of hB2 rfl
 have d2:w2.cell? ⟨wa.heap.size,2,none⟩=some (.float .f64 b.num):=cell_of hB2 rfl
 have d3:w2.cell? ⟨wa.heap.size,3,none⟩=some (.string b.text):=cell_of hB2 rfl
 have d4:w2.cell? ⟨wa.heap.size,4,none⟩=some (.bool b.yes):=cell_of hB2 rfl
 have hvb:=value_void b w2
 have HA2:=Lib.hid hA2
 have HB2:=Lib.hid hB2
 have Hm02:=Lib.hid hm02
 have Hvb:=Lib.hid hvb
 clear hA2 hB2 hm02 hvb hm2 c0 c1 c2 c3 c4
 cases hv2:b.void with
 |true=>
  have E:=Lib.hid (show cmpV a b=(0,false) by unfold cmpV V.alike;rw [Hhk.out,Hhv.out,hv2];rfl)
  rw [hv2] at Hvb
  clear hv2
  go_wp2_with fail
  refine Hvb.out.mono ?_
  rintro e w3 ⟨rfl,hm3⟩
  have Hm3:=Lib.hid (Hm02.out.trans hm3 (fun _ _ h=>h))
  clear hm3
  go_wp2
  go_ret2
  exact ⟨by rw [E.out];rfl,Hm3.out⟩
 |false=>
 have E:=Lib.hid (show cmpV a b=(V.cmp a b,true) by unfold cmpV V.alike;rw [Hhk.out,Hhv.out,hv2];rfl)
 rw [hv2] at Hvb
 clear hv2
 go_wp2_with fail
 refine Hvb.out.mono ?_
 rintro e w3 ⟨rfl,hm3⟩
 have hA3:=hm3.heap HA2.out (fun h=>h)
 have hB3:=hm3.heap HB2.out (fun h=>h)
 have c0:w3.cell? ⟨w.heap.size,0,none⟩=some (.int .i64 a.kind):=cell_of hA3 rfl
 have c1:w3.cell? ⟨w.heap.size,1,none⟩=some (.int .i64 a.int):=cell_of hA3 rfl
 have c2:w3.cell? ⟨w.heap.size,2,none⟩=some (.float .f64 a.num):=cell_of hA3 rfl
 have c3:w3.cell? ⟨w.heap.size,3,none⟩=some (.string a.text):=cell_of hA3 rfl
 have c4:w3.cell? ⟨w.heap.size,4,none⟩=some (.bool a.yes):=cell_of hA3 rfl
 have d1:w3.cell? ⟨wa.heap.size,1,none⟩=some (.int .i64 b.int):=cell_of hB3 rfl
 have d2:w3.cell? ⟨wa.heap.size,2,none⟩=some (.float .f64 b.num):=cell_of hB3 rfl
 have d3:w3.cell? ⟨wa.heap.size,3,none⟩=some (.string b.text):=cell_of hB3 rfl
 have d4:w3.cell? ⟨wa.heap.size,4,none⟩=some (.bool b.yes):=cell_of hB3 rfl
 have hm03:=Hm02.out.trans hm3 (fun _ _ h=>h)
 have HA3:=Lib.hid hA3
 have HB3:=Lib.hid hB3
 have Hm03:=Lib.hid hm03
 clear hA3 hB3 hm03 hm3 Hvb Hva HA2 HB2
 cases h0:a.kind==0 with
 |true=>
  have E2:=Lib.hid (show V.cmp a b=_ from if_pos (beq_iff_eq.1 h0))
  go_wp2_with fail
  refine (sign_at _ _ w3).mono ?_
  rintro e w4 ⟨rfl,rfl⟩
  go_wp2
  go_ret2
  exact ⟨by rw [E.out,E2.out];rfl,Hm03.out⟩
 |false=>
 have h0':¬a.kind=0:=by simpa using h0
 have E0:=Lib.hid (show V.cmp a b=_ from if_neg h0')
 clear h0'
 cases h1:a.kind==1 with
 |true=>
  have E2:=Lib.hid (E0.out.trans (if_pos (beq_iff_eq.1 h1)))
  go_wp2_with fail
  go_quiet ((first|(go_at_call 184;exact Calls.quiet_of_same (less_at _ _ _))|(go_at_call 183;exact Calls.quiet_of_same (sign_at _ _ _))))
  go_wp2
  go_ret2
  exact ⟨by rw [E.out,E2.out];rfl,Hm03.out.drewN _⟩
 |false=>
 have h1':¬a.kind=1:=by simpa using h1
 have E1:=Lib.hid (E0.out.trans (if_neg h1'))
 clear h1'
 cases h2:a.kind==2 with
 |true=>
  have E2:=Lib.hid (E1.out.trans (if_pos (beq_iff_eq.1 h2)))
  go_wp2_with fail
  refine (cmp_at a.text b.text w3).mono ?_
  rintro e w4 ⟨rfl,rfl⟩
  go_wp2
  go_ret2
  exact ⟨by rw [E.out,E2.out];rfl,Hm03.out⟩
 | false=>
  have h2':¬a.kind=2:=by simpa using h2
  have E2:=Lib.hid (E1.out.trans (if_neg h2'))
  clear h2'
  cases hya:a.yes with
  | true=>
   rw [hya] at E2 c4
   cases hyb:b.yes with
   |true=>
    rw [hyb] at E2 d4
    go_wp2_with fail
    refine (sign_at _ _ w3).mono ?_
    rintro e w4 ⟨rfl,rfl⟩
    go_wp2
    go_ret2
    exact ⟨by rw [E.out,E2.out];rfl,Hm03.out⟩
   |false=>
    rw [hyb] at E2 d4
    go_wp2_with fail
    refine (sign_at _ _ w3).mono ?_
    rintro e w4 ⟨rfl,rfl⟩
    go_wp2
    go_ret2
    exact ⟨by rw [E.out,E2.out];rfl,Hm03.out⟩
  | false=>
   rw [hya] at E2 c4
   cases hyb:b.yes with
   |true=>
    rw [hyb] at E2 d4
    go_wp2_with fail
    refine (sign_at _ _ w3).mono ?_
    rintro e w4 ⟨rfl,rfl⟩
    go_wp2
    go_ret2
    exact ⟨by rw [E.out,E2.out];rfl,Hm03.out⟩
   |false=>
    rw [hyb] at E2 d4
    go_wp2_with fail
    refine (sign_at _ _ w3).mono ?_
    rintro e w4 ⟨rfl,rfl⟩
    go_wp2
    go_ret2
    exact ⟨by rw [E.out,E2.out];rfl,Hm03.out⟩
def Cnd.holds (c:Cnd) (v:V):Bool:=
 if c.op=7 then true else if c.op=6 then (cmpV v c.v).2&&(v.kind==2&&prefB v.text c.v.text) else if c.op=0 then (cmpV v c.v).2&&(cmpV v c.v).1==0 else
 if c.op=1 then (cmpV v c.v).2&&(cmpV v c.v).1 !=0 else if c.op=2 then (cmpV v c.v).2&&decide ((cmpV v c.v).1<0) else if c.op=3 then (cmpV v c.v).2&&decide ((cmpV v c.v).1≤0) else
 if c.op=4 then (cmpV v c.v).2&&decide (0<(cmpV v c.v).1) else if c.op=5 then (cmpV v c.v).2&&decide (0≤(cmpV v c.v).1) else false
theorem ret_bool {a b:Bool} (h:b=a):Ending.returned (.bool a)= .returned (.bool b):=by rw [h]
theorem holds_at (c:Cnd) (v:V) (hc:c.v.text.size≤9223372036854775807) (hv:v.text.size≤9223372036854775807) (w:World):
 Calls Tryz.prog 121 #[.agg c.cells.toArray,.agg v.cells.toArray] w fun e w'=>e= .returned (.bool (c.holds v))∧Mod (fun _=>False) w w':=by
 obtain ⟨wa,hwa,hmwa,hgwa,hzwa⟩:=allocE w (.cells c.cells.toArray 132)
 obtain ⟨wb,hwb,hmwb,hgwb,hzwb⟩:=allocE wa (.cells v.cells.toArray 68)
 have hmb:=hmwa.trans hmwb (fun _ _ h=>h)
 have hgA:=hmwb.heap hgwa (fun h=>h)
 have hcm:=compare_at v c.v wb
 obtain ⟨R,hR⟩:∃R,c.holds v=R:=⟨_,rfl⟩
 rw [hR]
 unfold Cnd.holds at hR
 obtain ⟨⟨n,ok⟩,hn⟩:∃p,cmpV v c.v=p:=⟨_,rfl⟩
 rw [hn] at hcm hR
 simp only at hcm hR
 have hpf:=fun wx=>prefix_at v.text c.v.text hv hc wx
 have hlz:w.heap.size<wa.heap.size:=by omega
 have Hwa:=Lib.hid hwa
 have Hwb:=Lib.hid hwb
 have Hmb:=Lib.hid hmb
 have HgA:=Lib.hid hgA
 have Hgwb:=Lib.hid hgwb
 have Hcm:=Lib.hid hcm
 have HR:=Lib.hid hR
 have Hn:=Lib.hid hn
 have Hpf:=Lib.hid hpf
 clear hwa hwb hmb hgA hgwb hcm hR hn hpf hmwa hmwb hgwa hzwa hzwb hc hv
 go_enter Tryz.func121,Tryz.ntmps121
 go_wp2_with (first|(rw [show w.alloc _=wa from Hwa.out])|(rw [show wa.alloc _=wb from Hwb.out])|((with_reducible refine wpList_load_lit 68 (.tmp 3) ?_);refine ⟨wa.heap.size,0,rfl,v.cells,CellsAt.row Hgwb.out,by kernel_rfl,by kernel_rfl, ?_⟩)|((with_reducible refine wpList_load_lit 68 (.tmp 9) ?_);refine ⟨w.heap.size,2,rfl,c.v.cells,cells_from2 HgA.out,by kernel_rfl,by kernel_rfl, ?_⟩)|fail)
 refine Hcm.out.mono ?_
 rintro e w2 ⟨rfl,hm2⟩
 have hA2:=hm2.heap HgA.out (fun h=>h)
 have hB2:=hm2.heap Hgwb.out (fun h=>h)
 have hm02:=Hmb.out.trans hm2 (fun _ _ h=>h)
 have c1:w2.cell? ⟨w.heap.size,1,none⟩=some (.int .i64 c.op):=cell_of hA2 rfl
 have c5:w2.cell? ⟨w.heap.size,5,none⟩=some (.string c.v.text):=cell_of hA2 rfl
 have d0:w2.cell? ⟨wa.heap.size,0,none⟩=some (.int .i64 v.kind):=cell_of hB2 rfl
 have d3:w2.cell? ⟨wa.heap.size,3,none⟩=some (.string v.text):=cell_of hB2 rfl
 have hpf2:=Hpf.out w2
 have Hm02:=Lib.hid hm02
 have Hpf2:=Lib.hid hpf2
 clear hm02 hpf2 hm2 hA2 hB2 Hcm HgA Hgwb Hpf Hwa Hwb Hmb
 cases ok with
 |false=>
  go_wp2
  all_goals (go_ret;refine ⟨ret_bool (HR.out.symm.trans (by (try simp only [beq_iff_eq,beq_eq_false_iff_ne,ne_eq] at*);simp [*])),Hm02.out⟩)
 | true=>
  cases hvk:v.kind==2 with
  |false=>
   go_wp2
   all_goals (go_ret;refine ⟨ret_bool (HR.out.symm.trans (by (try simp only [beq_iff_eq,beq_eq_false_iff_ne,ne_eq] at*);simp [*])),Hm02.out⟩)
  |true=>
   go_wp2_with (refine Hpf2.out.mono ?_;rintro e w3 ⟨rfl,rfl⟩)
   all_goals (go_ret;refine ⟨ret_bool (HR.out.symm.trans (by (try simp only [beq_iff_eq,beq_eq_false_iff_ne,ne_eq] at*);simp [*])),Hm02.out⟩)
section
variable {P:Program} {w:World} {ops:Array Oper} {rest:List Oper} {a:Act} {Q:Exit→Act→World→Prop} {d:Option Tmp} {tp:TypeId} {pos:String} {af:Array Edge}
end
theorem run_store_part {P:Program} {w:World} (ty:TypeId) (g off:Nat) (cur:Array Value) (t:TypeId) (cs:List Value) (hg:w.heap[g]? =some (.cells cur t (0,0))) (hl:off+cs.length≤cur.size)
 (hi:(P.info? ty).map (·.size)=some cs.length) (h1:∀u∈cs,u.oneCell'=true):
 (storeVar ty ⟨g,off,none⟩ (.agg cs.toArray)).run P w= .ok () (w.setRow g (cur.toList.take off++cs++cur.toList.drop (off+cs.length)).toArray):=by
 have hst:=run_storeCells_at P g off t cs 0 cur w hg (by omega) h1
 cases hq:P.info? ty with
 |none=>simp [hq] at hi
 |some i=>
  have hs:i.size=cs.length:=by simpa [hq] using hi
  simp only [Nat.add_zero] at hst
  simp [storeVar,Value.cells,sizeOf,typeInfo,hq,hs,hst]
theorem wpList_store_part_lit {P:Program} {w:World} {ops:Array Oper} {rest:List Oper} {a:Act} {Q:Exit→Act→World→Prop} {d:Option Tmp} {tp:TypeId} {pos:String} {af:Array Edge} (ty:TypeId) (x y:Operand)
 (h:∃g off,a.eval x= .pointer (some ⟨g,off,none⟩)∧∃(cur:Array Value) (t:TypeId),w.heap[g]? =some (.cells cur t (0,0))∧∃cs:List Value,a.eval y= .agg cs.toArray∧off+cs.length≤cur.size∧(P.info? ty).map (·.size)=some cs.length∧cs.all (·.oneCell')=true∧
   ∀w',w'=w.setRow g (cur.toList.take off++cs++cur.toList.drop (off+cs.length)).toArray→Mod (fun k=>k=g) w w'→wpList P ops Q rest (a.put d undef) w'):wpList P ops Q (⟨d,.store ty x y,tp,pos,af,none⟩::rest) a w:=by
 obtain ⟨g,off,hx,cur,t,hg,cs,hy,hl,hi,h1,h⟩:=h
 refine wpList_plain rfl fun K hK=> ?_
 have hr:=run_store_part (P:=P) (w:=w) ty g off cur t cs hg hl hi (all_one h1)
 unfold Oper.wp execOp
 simp only [hx,hy,Instr.storeAt,Instr.sureAddr,Sem.run_bind,Sem.run_pure,Result.andThen_ok,hr]
 exact hK _ _ (h _ rfl ((Mod.refl (fun k=>k=g) w).setRow (fun _=>rfl) _))
end
section
open Go.RowKit
def Cnd.voidB (c:Cnd):Bool:=(c.op !=7&&c.v.void)||(c.op==6&&c.v.kind !=2)
theorem cond_void (c:Cnd) (w:World):Calls Tryz.prog 147 #[.agg c.cells.toArray] w fun e w'=>e= .returned (.bool c.voidB)∧Mod (fun _=>False) w w':=by
 obtain ⟨wa,hwa,hmwa,hgwa,hzwa⟩:=allocE w (.cells c.cells.toArray 132)
 have c1:wa.cell? ⟨w.heap.size,1,none⟩=some (.int .i64 c.op):=cell_of hgwa rfl
 have c2:wa.cell? ⟨w.heap.size,2,none⟩=some (.int .i64 c.v.kind):=cell_of hgwa rfl
 have c3:wa.cell? ⟨w.heap.size,3,none⟩=some (.int .i64 c.v.int):=cell_of hgwa rfl
 have c4:wa.cell? ⟨w.heap.size,4,none⟩=some (.float .f64 c.v.num):=cell_of hgwa rfl
 have c5:wa.cell? ⟨w.heap.size,5,none⟩=some (.string c.v.text):=cell_of hgwa rfl
 have c6:wa.cell? ⟨w.heap.size,6,none⟩=some (.bool c.v.yes):=cell_of hgwa rfl
 have hvv:=value_void c.v wa
 obtain ⟨R,hR⟩:∃R,c.voidB=R:=⟨_,rfl⟩
 rw [hR]
 unfold Cnd.voidB at hR
 obtain ⟨vd,hvd⟩:∃b,c.v.void=b:=⟨_,rfl⟩
 rw [hvd] at hvv hR
 have Hwa:=Lib.hid hwa
 have Hmwa:=Lib.hid hmwa
 have Hgwa:=Lib.hid hgwa
 have Hvv:=Lib.hid hvv
 have HR:=Lib.hid hR
 clear hwa hmwa hgwa hvv hR hvd hzwa
 cases h7:c.op==7 with
 |true=>
  have h7n:(c.op !=7)=false:=by simp [bne,h7]
  have h6:(c.op==6)=false:=by rw [beq_iff_eq] at h7;rw [h7];rfl
  go_enter Tryz.func147,Tryz.ntmps147
  go_wp2_with (first|(rw [show w.alloc _=wa from Hwa.out])|fail)
  go_ret
  exact ⟨ret_bool (HR.out.symm.trans (by simp [*])),Hmwa.out⟩
 | false=>
  have h7n:(c.op !=7)=true:=by simp [bne,h7]
  go_enter Tryz.func147,Tryz.ntmps147
  go_wp2_with (first|(rw [show w.alloc _=wa from Hwa.out])|fail)
  refine Hvv.out.mono ?_
  rintro e w2 ⟨rfl,hm2⟩
  have hg2:=hm2.heap Hgwa.out (fun h=>h)
  have d1:w2.cell? ⟨w.heap.size,1,none⟩=some (.int .i64 c.op):=cell_of hg2 rfl
  have d2:w2.cell? ⟨w.heap.size,2,none⟩=some (.int .i64 c.v.kind):=cell_of hg2 rfl
  have Hm2:=Lib.hid (Hmwa.out.trans hm2 (fun _ _ h=>h))
  clear hm2 hg2 c1 c2 c3 c4 c5 c6
  cases vd with
  |true=>
   go_wp2
   go_ret
   exact ⟨ret_bool (HR.out.symm.trans (by simp [*])),Hm2.out⟩
  | false=>
   cases h6:c.op==6 with
   |true=>
    go_wp2
    go_ret
    exact ⟨ret_bool (HR.out.symm.trans (by simp [*])),Hm2.out⟩
   |false=>
    go_wp2
    go_ret
    exact ⟨ret_bool (HR.out.symm.trans (by simp [*])),Hm2.out⟩
theorem indexc_at (F:FuncId) (cap:Array Value) (hF:∀args w,(callFunc F args).run Tryz.prog w= .ok (.enter F args) w) (p:Cnd→Bool) (w:World) (v:Value) (l:List Cnd) (hv:RdSl w 7 v l.length (cnds l)) (hll:l.length≤9223372036854775807)
 (hp:∀c∈l,∀wx,Mod (fun _=>False) w wx→Calls Tryz.prog F (#[.agg c.cells.toArray]++cap) wx fun e w'=>e= .returned (.bool (p c))∧Mod (fun _=>False) wx w'):
 Calls Tryz.prog 176 #[v,.func (.func F) #[] cap] w fun e w'=>∃n:Int,e= .returned (.int .i64 n)∧(decide (0≤n)=l.any p)∧Mod (fun _=>False) w w':=by
 obtain ⟨a,ca,rfl,hcap⟩:∃a c,v= .slice a l.length c∧l.length≤c:=by obtain ⟨-,a,c,h,h2, -⟩:=hv;exact ⟨a,c,h,h2⟩
 have hll':(l.length:Int)≤9223372036854775807:=by omega
 have hcap':(l.length:Int)≤ca:=by omega
 obtain ⟨R,hR⟩:∃R,l.any p=R:=⟨_,rfl⟩
 rw [hR]
 have Hv:=Lib.hid hv
 have Hp:=Lib.hid hp
 have HR:=Lib.hid hR
 have HF:=Lib.hid hF
 clear hv hp hR hF hll
 go_enter Tryz.func176,Tryz.ntmps176
 go_wp2_with fail
 go_loopw [8] (fun i wr=>∃j:Nat,i= .int .i64 j∧j≤l.length∧Mod (fun _=>False) w wr∧(∀(k:Nat) (x:Cnd),k<j→l[k]? =some x→p x=false)) (fun i _=>l.length - (intOf i).toNat)
 case atStart=>exact ⟨0,rfl,Nat.zero_le _,Mod.refl _ _,fun k x hk=>by omega⟩
 case round=>
  obtain ⟨j,rfl,hj,hmr,hall⟩:=hrel
  by_cases hlt:j<l.length
  ·have hlt':(j:Int)<l.length:=by omega
   obtain ⟨x,hxj⟩:∃x,l[j]? =some x:=⟨_,List.getElem?_eq_getElem hlt⟩
   have hxm:=List.mem_of_getElem? hxj
   obtain ⟨g,off,rfl,hf⟩:∃g off,a=some ⟨g,off,none⟩∧CellsAt wr g (off+j*7) x.cells:=rd_cnd (Hv.out.mod hmr (fun _ _ h=>h)) hxj
   have hpx:=Hp.out x hxm wr hmr
   have Hmr:=Lib.hid hmr
   have Hall:=Lib.hid hall
   have Hxj:=Lib.hid hxj
   have Hxm:=Lib.hid hxm
   have Hf:=Lib.hid hf
   have Hpx:=Lib.hid hpx
   clear hmr hall hxj hxm hf hpx
   have hF2:=HF.out
   go_wp2_with (first|((with_reducible refine wpList_load_lit 132 (.tmp 14) ?_);refine ⟨g,off+j*7,rfl,x.cells,Hf.out,by kernel_rfl,by kernel_rfl, ?_⟩)|fail)
   refine Hpx.out.mono ?_
   rintro e w3 ⟨rfl,hm3⟩
   have Hm3:=Lib.hid (Hmr.out.trans hm3 (fun _ _ h=>h))
   clear hm3 hF2
   cases hs:p x with
   | false=>
    have Hs:=Lib.hid hs
    clear hs
    go_wp2_with fail
    go_roundw
    case rel=>
     refine ⟨j+1,by go_num,hlt,Hm3.out,fun k x' hk hx'=> ?_⟩
     rcases Nat.lt_succ_iff_lt_or_eq.1 hk with hk|rfl
     ·exact Hall.out k x' hk hx'
     ·rw [Hxj.out] at hx';cases hx';exact Hs.out
    case measure=>simp [intOf];omega
   |true=>
    have Hs:=Lib.hid hs
    clear hs
    go_wp2
    go_ret
    refine ⟨(j:Int),rfl, ?_,Hm3.out⟩
    rw [←HR.out,List.any_eq_true.2 ⟨x,Hxm.out,Hs.out⟩]
    exact decide_eq_true (by omega)
  ·obtain rfl:j=l.length:=by omega
   have Hmr:=Lib.hid hmr
   have Hall:=Lib.hid hall
   clear hmr hall
   go_wp2
   go_ret
   refine ⟨-1,rfl, ?_,Hmr.out⟩
   rw [←HR.out,List.any_eq_false.2 fun x hx=>by
    obtain ⟨k,hk⟩:=List.mem_iff_getElem?.1 hx
    rw [Hall.out k x (List.getElem?_eq_some_iff.1 hk).1 hk]
    decide]
   rfl
theorem contains_at (F:FuncId) (cap:Array Value) (hF:∀args w,(callFunc F args).run Tryz.prog w= .ok (.enter F args) w) (p:Cnd→Bool) (w:World) (v:Value) (l:List Cnd) (hv:RdSl w 7 v l.length (cnds l)) (hll:l.length≤9223372036854775807)
 (hp:∀c∈l,∀wx,Mod (fun _=>False) w wx→Calls Tryz.prog F (#[.agg c.cells.toArray]++cap) wx fun e w'=>e= .returned (.bool (p c))∧Mod (fun _=>False) wx w'):
 Calls Tryz.prog 132 #[v,.func (.func F) #[] cap] w fun e w'=>e= .returned (.bool (l.any p))∧Mod (fun _=>False) w w':=by
 have Hi:=Lib.hid (indexc_at F cap hF p w v l hv hll hp)
 obtain ⟨R,hR⟩:∃R,l.any p=R:=⟨_,rfl⟩
 rw [hR] at Hi⊢
 clear hF hv hp hR
 go_enter Tryz.func132,Tryz.ntmps132
 go_wp2_with fail
 refine Hi.out.mono ?_
 rintro e w3 ⟨n,rfl,hn,hm3⟩
 have Hn:=Lib.hid hn
 have Hm3:=Lib.hid hm3
 clear hn hm3
 go_wp2
 go_ret
 exact ⟨ret_bool Hn.out.symm,Hm3.out⟩
theorem callVoid:∀(args:Array Value) (W:World),Sem.run Tryz.prog (callFunc 147 args) W= .ok (.enter 147 args) W:=fun args w=>by simp [go_sem]
theorem filter_void (w:World) (sc:ByteArray) (cv:Value) (l:List Cnd) (hv:RdSl w 7 cv l.length (cnds l)) (hll:l.length≤9223372036854775807):
 Calls Tryz.prog 131 #[.agg #[.string sc,cv]] w fun e w'=>e= .returned (.bool (l.any Cnd.voidB))∧Mod (fun _=>False) w w':=by
 obtain ⟨a,cap,rfl⟩:∃a c,cv= .slice a l.length c:=by obtain ⟨-,a,c,h, -⟩:=hv;exact ⟨a,c,h⟩
 obtain ⟨wa,hwa,hmwa,hgwa,hzwa⟩:=allocE w (.cells #[.string sc,.slice a l.length cap] 33)
 have c1:wa.cell? ⟨w.heap.size,1,none⟩=some (.slice a l.length cap):=cell_of hgwa rfl
 have hct:=contains_at 147 #[] callVoid Cnd.voidB wa _ l (hv.mod hmwa (fun _ _ h=>h)) hll (fun c _ wx _=>cond_void c wx)
 have Hwa:=Lib.hid hwa
 have Hmwa:=Lib.hid hmwa
 have Hct:=Lib.hid hct
 clear hwa hmwa hct hgwa hzwa hv
 go_enter Tryz.func131,Tryz.ntmps131
 go_wp2_with (first|(rw [show w.alloc _=wa from Hwa.out])|fail)
 refine Hct.out.mono ?_
 rintro e w3 ⟨rfl,hm3⟩
 have Hm3:=Lib.hid (Hmwa.out.trans hm3 (fun _ _ h=>h))
 clear hm3
 go_wp2
 go_ret
 exact ⟨rfl,Hm3.out⟩
def homeOf (l:List Ru) (tenant:Int) (who:ByteArray):Option Int:=(l.reverse.find? fun r=>r.of 0 tenant who).map Ru.broker
theorem homeOf_some {l:List Ru} {tenant:Int} {who:ByteArray} {j:Nat} {x:Ru} (hx:l[j]? =some x) (h:x.of 0 tenant who=true) (hr:∀(k:Nat) (y:Ru),j<k→l[k]? =some y→y.of 0 tenant who=false):homeOf l tenant who=some x.broker:=by
 have hj:=(List.getElem?_eq_some_iff.1 hx).1
 have hs:l=l.take j++x::l.drop (j+1):=by
  conv=>lhs;rw [←List.take_append_drop j l,List.drop_eq_getElem_cons hj]
  rw [List.getElem?_eq_getElem hj] at hx
  cases hx;rfl
 unfold homeOf
 rw [hs,List.reverse_append,List.reverse_cons,List.append_assoc,List.find?_append,List.find?_eq_none.2 (fun y hy=>by
  obtain ⟨k,hk⟩:=List.mem_iff_getElem?.1 (List.mem_reverse.1 hy)
  rw [List.getElem?_drop] at hk
  rw [hr _ y (by omega) hk]
  decide)]
 simp [h]
theorem homeOf_none {l:List Ru} {tenant:Int} {who:ByteArray} (hr:∀(k:Nat) (y:Ru),l[k]? =some y→y.of 0 tenant who=false):homeOf l tenant who=none:=by
 unfold homeOf
 rw [List.find?_eq_none.2 (fun y hy=>by
  obtain ⟨k,hk⟩:=List.mem_iff_getElem?.1 (List.mem_reverse.1 hy)
  rw [hr k y hk]
  decide)]
 rfl
theorem home_at (w:World) (v:Value) (l:List Ru) (hv:RuSl w v l) (hll:l.length≤9223372036854775807) (tenant:Int) (who:ByteArray):
 Calls Tryz.prog 85 #[v,.int .i64 tenant,.string who] w fun e w'=>e= .returned (.tuple #[.int .i64 ((homeOf l tenant who).getD 0),.bool (homeOf l tenant who).isSome])∧Mod (fun _=>False) w w':=by
 obtain ⟨a,cap,rfl,hcap⟩:∃a c,v= .slice a l.length c∧l.length≤c:=by obtain ⟨-,a,c,h,h2, -⟩:=hv.rd;exact ⟨a,c,h,h2⟩
 have hll':(l.length:Int)≤9223372036854775807:=by omega
 have hcap':(l.length:Int)≤cap:=by omega
 have hl0:(0:Int)≤l.length:=by omega
 obtain ⟨R,hR⟩:∃R,homeOf l tenant who=R:=⟨_,rfl⟩
 rw [hR]
 have Hv:=Lib.hid hv
 have HR:=Lib.hid hR
 clear hv hR hll
 go_enter Tryz.func85,Tryz.ntmps85
 go_wp2_with fail
 go_loopw [8] (fun i wr=>∃x:Int,i= .int .i64 x∧ -1≤x∧x<l.length∧Mod (fun _=>False) w wr∧(∀(k:Nat) (y:Ru),x<k→l[k]? =some y→y.of 0 tenant who=false)) (fun i _=>(intOf i+1).toNat)
 case atStart=>exact ⟨(l.length:Int) - 1,rfl,by omega,by omega,Mod.refl _ _,fun k y hk hy=>by have:=(List.getElem?_eq_some_iff.1 hy).1;omega⟩
 case round=>
  obtain ⟨x,rfl,hx0,hxl,hmr,hall⟩:=hrel
  by_cases hlt:0≤x
  ·obtain ⟨j,rfl⟩:∃j:Nat,x=j:=⟨x.toNat,by omega⟩
   obtain ⟨r,hrj⟩:∃x,l[j]? =some x:=⟨_,List.getElem?_eq_getElem (by omega)⟩
   obtain ⟨g,off,rfl,hf⟩:∃g off,a=some ⟨g,off,none⟩∧CellsAt wr g (off+j*8) r.cells:=rd_rule (Hv.out.mod hmr) hrj
   have hof:=of_at r 0 tenant who wr
   have Hmr:=Lib.hid hmr
   have Hall:=Lib.hid hall
   have Hrj:=Lib.hid hrj
   have Hf:=Lib.hid hf
   have Hof:=Lib.hid hof
   clear hmr hall hrj hf hof hx0
   go_wp2_with (first|((with_reducible refine wpList_load_lit 35 (.tmp 18) ?_);refine ⟨g,off+j*8,rfl,r.cells,Hf.out,by kernel_rfl,by kernel_rfl, ?_⟩)|fail)
   refine Hof.out.mono ?_
   rintro e w3 ⟨rfl,hm3⟩
   have hf3:=Hf.out.mod hm3 (fun h=>h)
   have b3:w3.cell? ⟨g,off+j*8+3,none⟩=some (.int .i64 r.broker):=hf3 3 _ rfl
   have Hm3:=Lib.hid (Hmr.out.trans hm3 (fun _ _ h=>h))
   clear hm3 hf3
   cases hs:r.of 0 tenant who with
   |true=>
    have Hs:=Lib.hid hs
    clear hs
    go_wp2
    go_ret2
    refine ⟨?_,Hm3.out⟩
    rw [←HR.out,homeOf_some Hrj.out Hs.out (fun k y hk hy=>Hall.out k y (by omega) hy)]
    rfl
   | false=>
    have Hs:=Lib.hid hs
    clear hs
    go_wp2_with fail
    go_roundw
    case rel=>
     refine ⟨(j:Int) - 1,rfl,by omega,by omega,Hm3.out,fun k y hk hy=> ?_⟩
     rcases Nat.lt_or_eq_of_le (show j≤k by omega) with hk|rfl
     ·exact Hall.out k y (by omega) hy
     ·rw [Hrj.out] at hy;cases hy;exact Hs.out
    case measure=>simp [intOf];try omega
  ·have hlt':x<0:=by omega
   have Hmr:=Lib.hid hmr
   have Hall:=Lib.hid hall
   clear hmr hall
   go_wp2
   go_ret2
   refine ⟨?_,Hmr.out⟩
   rw [←HR.out,homeOf_none (fun k y hy=>Hall.out k y (by omega) hy)]
   rfl
end
end Go.Proofs.YtaenebdppkjhoaaGreatDoor
