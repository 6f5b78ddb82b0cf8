/- Lemmas of this claim. -/
import Derived.Test.YtaenebdppkjhoaaGreatDoorZd21
namespace Go.Proofs.YtaenebdppkjhoaaGreatDoor
set_option maxRecDepth 20000
set_option maxHeartbeats 40000000
section
open Go.RowKit
theorem sgn_le (l m:Bool): -1≤sgn l m∧sgn l m≤1:=by cases l<;>cases m<;>decide
theorem cmp_le:∀a b:List UInt8, -1≤Lib.compareBytes a b∧Lib.compareBytes a b≤1
 |[],[]=>by decide
 |[],b::t=>by simp [Lib.compareBytes]
 |a::s,[]=>by simp [Lib.compareBytes]
 | a::s,b::t=>by
  rw [cmp_cons]
  split
  ·decide
  ·split
   ·decide
   ·exact cmp_le s t
theorem cmpV_le (a b:V): -1≤(cmpV a b).1∧(cmpV a b).1≤1:=by
 unfold cmpV
 split
 ·unfold V.cmp
  split
  ·exact sgn_le _ _
  ·split
   ·exact sgn_le _ _
   ·split
    ·exact cmp_le _ _
    ·exact sgn_le _ _
 ·decide
def rsideB (n strict other:Int) (a b:Cnd):Bool:=if b.op==strict||b.op==other then decide (n<0)||(n==0&& !(a.op==other&&b.op==strict)) else b.op==1&&(decide (n<0)||(n==0&&a.op==strict))
theorem rside_at (less:Bool) (strict other:Int) (a b:Cnd) (ha:a.v.text.size≤9223372036854775807) (hb:b.v.text.size≤9223372036854775807) (w:World):
 Calls Tryz.prog 102 #[.bool less,.int .i64 strict,.int .i64 other,.agg a.cells.toArray,.agg b.cells.toArray] w fun e w'=>e= .returned (.bool (rsideB (if less then (cmpV a.v b.v).1 else -(cmpV a.v b.v).1) strict other a b))∧Mod (fun _=>False) w w':=by
 obtain ⟨wa,hwa,hmwa,hgwa,hzwa⟩:=allocE w (.cells a.cells.toArray 132)
 obtain ⟨wb,hwb,hmwb,hgwb,hzwb⟩:=allocE wa (.cells b.cells.toArray 132)
 have hmb:=hmwa.trans hmwb (fun _ _ h=>h)
 have hA:=hmwb.heap hgwa (fun h=>h)
 have a0:wb.cell? ⟨w.heap.size,0,none⟩=some (.string a.name):=cell_of hA rfl
 have a1:wb.cell? ⟨w.heap.size,1,none⟩=some (.int .i64 a.op):=cell_of hA rfl
 have a2:wb.cell? ⟨w.heap.size,2,none⟩=some (.int .i64 a.v.kind):=cell_of hA rfl
 have a3:wb.cell? ⟨w.heap.size,3,none⟩=some (.int .i64 a.v.int):=cell_of hA rfl
 have a4:wb.cell? ⟨w.heap.size,4,none⟩=some (.float .f64 a.v.num):=cell_of hA rfl
 have a5:wb.cell? ⟨w.heap.size,5,none⟩=some (.string a.v.text):=cell_of hA rfl
 have a6:wb.cell? ⟨w.heap.size,6,none⟩=some (.bool a.v.yes):=cell_of hA rfl
 have b0:wb.cell? ⟨wa.heap.size,0,none⟩=some (.string b.name):=cell_of hgwb rfl
 have b1:wb.cell? ⟨wa.heap.size,1,none⟩=some (.int .i64 b.op):=cell_of hgwb rfl
 have b2:wb.cell? ⟨wa.heap.size,2,none⟩=some (.int .i64 b.v.kind):=cell_of hgwb rfl
 have b3:wb.cell? ⟨wa.heap.size,3,none⟩=some (.int .i64 b.v.int):=cell_of hgwb rfl
 have b4:wb.cell? ⟨wa.heap.size,4,none⟩=some (.float .f64 b.v.num):=cell_of hgwb rfl
 have b5:wb.cell? ⟨wa.heap.size,5,none⟩=some (.string b.v.text):=cell_of hgwb rfl
 have b6:wb.cell? ⟨wa.heap.size,6,none⟩=some (.bool b.v.yes):=cell_of hgwb rfl
 have hcm:=rcompare_at a.v b.v ha hb wb
 have hle:=cmpV_le a.v b.v
 obtain ⟨R,hR⟩:∃R,rsideB (if less then (cmpV a.v b.v).1 else -(cmpV a.v b.v).1) strict other a b=R:=⟨_,rfl⟩
 rw [hR]
 unfold rsideB at hR
 obtain ⟨⟨n,ok⟩,hn⟩:∃x,cmpV a.v b.v=x:=⟨_,rfl⟩
 rw [hn] at hcm hR hle
 simp only at hcm hR hle
 have hlz:w.heap.size<wa.heap.size:=by omega
 obtain ⟨hn1,hn2⟩:=hle
 have Hwa:=Lib.hid hwa
 have Hwb:=Lib.hid hwb
 have Hmb:=Lib.hid hmb
 have HA:=Lib.hid hA
 have Hgwb:=Lib.hid hgwb
 have Hcm:=Lib.hid hcm
 have HR:=Lib.hid hR
 clear hwa hwb hmb hA hgwb hcm hR hgwa hmwa hmwb hzwa hzwb ha hb hn
 go_enter Tryz.func102,Tryz.ntmps102
 go_wp2_with (first|(rw [show w.alloc _=wa from Hwa.out])|(rw [show wa.alloc _=wb from Hwb.out])|fail)
 refine Hcm.out.mono ?_
 rintro e w2 ⟨rfl,hm2⟩
 have hA2:=hm2.heap HA.out (fun h=>h)
 have hB2:=hm2.heap Hgwb.out (fun h=>h)
 have hm02:=Hmb.out.trans hm2 (fun _ _ h=>h)
 have HA2:=Lib.hid hA2
 have HB2:=Lib.hid hB2
 have Hm02:=Lib.hid hm02
 clear hA2 hB2 hm02 hm2 a0 a1 a2 a3 a4 a5 a6 b0 b1 b2 b3 b4 b5 b6 Hcm HA Hgwb Hmb
 have a0:w2.cell? ⟨w.heap.size,1,none⟩=some (.int .i64 a.op):=cell_of HA2.out rfl
 have b0:w2.cell? ⟨wa.heap.size,1,none⟩=some (.int .i64 b.op):=cell_of HB2.out rfl
 cases less with
 |true=>
  have HR:=Lib.hid (show (if b.op==strict||b.op==other then decide (n<0)||(n==0&& !(a.op==other&&b.op==strict)) else b.op==1&&(decide (n<0)||(n==0&&a.op==strict)))=R from HR.out)
  go_wp2
  all_goals (go_ret;exact ⟨ret_bool (HR.out.symm.trans (by first|(simp [*];done)|(simp_all;done))),Hm02.out⟩)
 |false=>
  obtain ⟨m,hm⟩:∃m, -n=m:=⟨_,rfl⟩
  have hneg:IntKind.i64.wrap (-n)=m:=by rw [←hm];exact IntWalk.i64_in _ (by omega)
  have HR:=Lib.hid (show (if b.op==strict||b.op==other then decide (m<0)||(m==0&& !(a.op==other&&b.op==strict)) else b.op==1&&(decide (m<0)||(m==0&&a.op==strict)))=R from by rw [←hm];exact HR.out)
  go_wp2
  all_goals (go_ret;exact ⟨ret_bool (HR.out.symm.trans (by first|(simp [*];done)|(simp_all;done))),Hm02.out⟩)
def rimpB (a b:Cnd):Bool:=
 if a.name.toList==b.name.toList then
  if a.voidB||b.op==7 then true else
  if a.op==7||(b.voidB||a.v.kind !=b.v.kind) then false else
  if a.op==0 then b.holds a.v else
  if a.op==1 then b.op==1&&((cmpV a.v b.v).2&&(cmpV a.v b.v).1==0) else
  if a.op==2||a.op==3 then rsideB (cmpV a.v b.v).1 2 3 a b else
  if a.op==4||a.op==5 then rsideB (-(cmpV a.v b.v).1) 4 5 a b else
  if b.op==6 then prefB a.v.text b.v.text else b.op==1&& !prefB b.v.text a.v.text
 else false
theorem rimplies_at (a b:Cnd) (ha:a.v.text.size≤9223372036854775807) (hb:b.v.text.size≤9223372036854775807) (w:World):
 Calls Tryz.prog 67 #[.agg a.cells.toArray,.agg b.cells.toArray] w fun e w'=>e= .returned (.bool (rimpB a b))∧Mod (fun _=>False) w w':=by
 obtain ⟨wa,hwa,hmwa,hgwa,hzwa⟩:=allocE w (.cells a.cells.toArray 132)
 obtain ⟨wb,hwb,hmwb,hgwb,hzwb⟩:=allocE wa (.cells b.cells.toArray 132)
 have hmb:=hmwa.trans hmwb (fun _ _ h=>h)
 have hA:=hmwb.heap hgwa (fun h=>h)
 have a0:wb.cell? ⟨w.heap.size,0,none⟩=some (.string a.name):=cell_of hA rfl
 have a1:wb.cell? ⟨w.heap.size,1,none⟩=some (.int .i64 a.op):=cell_of hA rfl
 have a2:wb.cell? ⟨w.heap.size,2,none⟩=some (.int .i64 a.v.kind):=cell_of hA rfl
 have a3:wb.cell? ⟨w.heap.size,3,none⟩=some (.int .i64 a.v.int):=cell_of hA rfl
 have a4:wb.cell? ⟨w.heap.size,4,none⟩=some (.float .f64 a.v.num):=cell_of hA rfl
 have a5:wb.cell? ⟨w.heap.size,5,none⟩=some (.string a.v.text):=cell_of hA rfl
 have a6:wb.cell? ⟨w.heap.size,6,none⟩=some (.bool a.v.yes):=cell_of hA rfl
 have b0:wb.cell? ⟨wa.heap.size,0,none⟩=some (.string b.name):=cell_of hgwb rfl
 have b1:wb.cell? ⟨wa.heap.size,1,none⟩=some (.int .i64 b.op):=cell_of hgwb rfl
 have b2:wb.cell? ⟨wa.heap.size,2,none⟩=some (.int .i64 b.v.kind):=cell_of hgwb rfl
 have b3:wb.cell? ⟨wa.heap.size,3,none⟩=some (.int .i64 b.v.int):=cell_of hgwb rfl
 have b4:wb.cell? ⟨wa.heap.size,4,none⟩=some (.float .f64 b.v.num):=cell_of hgwb rfl
 have b5:wb.cell? ⟨wa.heap.size,5,none⟩=some (.string b.v.text):=cell_of hgwb rfl
 have b6:wb.cell? ⟨wa.heap.size,6,none⟩=some (.bool b.v.yes):=cell_of hgwb rfl
 have hva:=rcvoid_at a wb
 have hvb:=rcvoid_at b
 have hho:=rholds_at b a.v hb ha
 have hs1:=rside_at true 2 3 a b ha hb
 have hs2:=rside_at false 4 5 a b ha hb
 have hp1:=rbegins_at a.v.text b.v.text ha hb
 have hp2:=rbegins_at b.v.text a.v.text hb ha
 have hcm:=rcompare_at a.v b.v ha hb
 obtain ⟨R,hR⟩:∃R,rimpB a b=R:=⟨_,rfl⟩
 rw [hR]
 unfold rimpB at hR
 obtain ⟨va,hva'⟩:∃x,a.voidB=x:=⟨_,rfl⟩
 obtain ⟨vb,hvb'⟩:∃x,b.voidB=x:=⟨_,rfl⟩
 obtain ⟨⟨n,ok⟩,hn⟩:∃x,cmpV a.v b.v=x:=⟨_,rfl⟩
 rw [hva'] at hva hR
 rw [hvb'] at hvb hR
 rw [hn] at hcm hR
 rw [if_pos rfl,hn] at hs1
 rw [if_neg (by decide),hn] at hs2
 simp only at hcm hR hs1 hs2
 have hlz:w.heap.size<wa.heap.size:=by omega
 have Hwa:=Lib.hid hwa
 have Hwb:=Lib.hid hwb
 have Hmb:=Lib.hid hmb
 have HA:=Lib.hid hA
 have Hgwb:=Lib.hid hgwb
 have Hva:=Lib.hid hva
 have Hvb:=Lib.hid hvb
 have Hho:=Lib.hid hho
 have Hs1:=Lib.hid hs1
 have Hs2:=Lib.hid hs2
 have Hp1:=Lib.hid hp1
 have Hp2:=Lib.hid hp2
 have Hcm:=Lib.hid hcm
 have HR:=Lib.hid hR
 clear hwa hwb hmb hA hgwb hva hvb hho hs1 hs2 hp1 hp2 hcm hR hgwa hmwa hmwb hzwa hzwb ha hb hva' hvb' hn
 cases hnm:a.name.toList==b.name.toList with
 |false=>
  go_enter Tryz.func67,Tryz.ntmps67
  go_wp2_with (first|(rw [show w.alloc _=wa from Hwa.out])|(rw [show wa.alloc _=wb from Hwb.out])|fail)
  go_ret
  exact ⟨ret_bool (HR.out.symm.trans (by simp [*])),Hmb.out⟩
 |true=>
 have HR:=Lib.hid (HR.out.symm.trans (if_pos hnm))
 go_enter Tryz.func67,Tryz.ntmps67
 go_wp2_with (first|(rw [show w.alloc _=wa from Hwa.out])|(rw [show wa.alloc _=wb from Hwb.out])|fail)
 refine Hva.out.mono ?_
 rintro e w2 ⟨rfl,hm2⟩
 have hA2:=hm2.heap HA.out (fun h=>h)
 have hB2:=hm2.heap Hgwb.out (fun h=>h)
 have hm02:=Hmb.out.trans hm2 (fun _ _ h=>h)
 have HA2:=Lib.hid hA2
 have HB2:=Lib.hid hB2
 have Hm02:=Lib.hid hm02
 clear hA2 hB2 hm02 hm2 hnm a0 a1 a2 a3 a4 a5 a6 b0 b1 b2 b3 b4 b5 b6 Hva
 have a0:w2.cell? ⟨w.heap.size,0,none⟩=some (.string a.name):=cell_of HA2.out rfl
 have a1:w2.cell? ⟨w.heap.size,1,none⟩=some (.int .i64 a.op):=cell_of HA2.out rfl
 have a2:w2.cell? ⟨w.heap.size,2,none⟩=some (.int .i64 a.v.kind):=cell_of HA2.out rfl
 have a3:w2.cell? ⟨w.heap.size,3,none⟩=some (.int .i64 a.v.int):=cell_of HA2.out rfl
 have a4:w2.cell? ⟨w.heap.size,4,none⟩=some (.float .f64 a.v.num):=cell_of HA2.out rfl
 have a5:w2.cell? ⟨w.heap.size,5,none⟩=some (.string a.v.text):=cell_of HA2.out rfl
 have a6:w2.cell? ⟨w.heap.size,6,none⟩=some (.bool a.v.yes):=cell_of HA2.out rfl
 have b0:w2.cell? ⟨wa.heap.size,0,none⟩=some (.string b.name):=cell_of HB2.out rfl
 have b1:w2.cell? ⟨wa.heap.size,1,none⟩=some (.int .i64 b.op):=cell_of HB2.out rfl
 have b2:w2.cell? ⟨wa.heap.size,2,none⟩=some (.int .i64 b.v.kind):=cell_of HB2.out rfl
 have b3:w2.cell? ⟨wa.heap.size,3,none⟩=some (.int .i64 b.v.int):=cell_of HB2.out rfl
 have b4:w2.cell? ⟨wa.heap.size,4,none⟩=some (.float .f64 b.v.num):=cell_of HB2.out rfl
 have b5:w2.cell? ⟨wa.heap.size,5,none⟩=some (.string b.v.text):=cell_of HB2.out rfl
 have b6:w2.cell? ⟨wa.heap.size,6,none⟩=some (.bool b.v.yes):=cell_of HB2.out rfl
 cases va with
 |true=>
  go_wp2
  go_ret
  exact ⟨ret_bool (HR.out.trans (by simp)),Hm02.out⟩
 |false=>
 cases h7:b.op==7 with
 |true=>
  go_wp2
  go_ret
  exact ⟨ret_bool (HR.out.trans (by simp [*])),Hm02.out⟩
 |false=>
 cases h8:a.op==7 with
 |true=>
  go_wp2
  go_ret
  exact ⟨ret_bool (HR.out.trans (by simp [*])),Hm02.out⟩
 |false=>
 go_wp2_with fail
 refine (Hvb.out _).mono ?_
 rintro e w3 ⟨rfl,hm3⟩
 have hA3:=hm3.heap HA2.out (fun h=>h)
 have hB3:=hm3.heap HB2.out (fun h=>h)
 have hm03:=Hm02.out.trans hm3 (fun _ _ h=>h)
 have HA3:=Lib.hid hA3
 have HB3:=Lib.hid hB3
 have Hm03:=Lib.hid hm03
 clear hA3 hB3 hm03 hm3 a0 a1 a2 a3 a4 a5 a6 b0 b1 b2 b3 b4 b5 b6 Hvb HA2 HB2 Hm02
 have a0:w3.cell? ⟨w.heap.size,0,none⟩=some (.string a.name):=cell_of HA3.out rfl
 have a1:w3.cell? ⟨w.heap.size,1,none⟩=some (.int .i64 a.op):=cell_of HA3.out rfl
 have a2:w3.cell? ⟨w.heap.size,2,none⟩=some (.int .i64 a.v.kind):=cell_of HA3.out rfl
 have a3:w3.cell? ⟨w.heap.size,3,none⟩=some (.int .i64 a.v.int):=cell_of HA3.out rfl
 have a4:w3.cell? ⟨w.heap.size,4,none⟩=some (.float .f64 a.v.num):=cell_of HA3.out rfl
 have a5:w3.cell? ⟨w.heap.size,5,none⟩=some (.string a.v.text):=cell_of HA3.out rfl
 have a6:w3.cell? ⟨w.heap.size,6,none⟩=some (.bool a.v.yes):=cell_of HA3.out rfl
 have b0:w3.cell? ⟨wa.heap.size,0,none⟩=some (.string b.name):=cell_of HB3.out rfl
 have b1:w3.cell? ⟨wa.heap.size,1,none⟩=some (.int .i64 b.op):=cell_of HB3.out rfl
 have b2:w3.cell? ⟨wa.heap.size,2,none⟩=some (.int .i64 b.v.kind):=cell_of HB3.out rfl
 have b3:w3.cell? ⟨wa.heap.size,3,none⟩=some (.int .i64 b.v.int):=cell_of HB3.out rfl
 have b4:w3.cell? ⟨wa.heap.size,4,none⟩=some (.float .f64 b.v.num):=cell_of HB3.out rfl
 have b5:w3.cell? ⟨wa.heap.size,5,none⟩=some (.string b.v.text):=cell_of HB3.out rfl
 have b6:w3.cell? ⟨wa.heap.size,6,none⟩=some (.bool b.v.yes):=cell_of HB3.out rfl
 cases vb with
 |true=>
  go_wp2
  go_ret
  exact ⟨ret_bool (HR.out.trans (by simp [*])),Hm03.out⟩
 |false=>
 cases hk:a.v.kind==b.v.kind with
 |false=>
  have hkn:(a.v.kind !=b.v.kind)=true:=by simp [bne,hk]
  go_wp2
  go_ret
  exact ⟨ret_bool (HR.out.trans (by simp [*])),Hm03.out⟩
 |true=>
 have hkn:(a.v.kind !=b.v.kind)=false:=by simp [bne,hk]
 clear hk
 go_wp2_with fail
 refine (Hcm.out _).mono ?_
 rintro e w4 ⟨rfl,hm4⟩
 have hA4:=hm4.heap HA3.out (fun h=>h)
 have hB4:=hm4.heap HB3.out (fun h=>h)
 have hm04:=Hm03.out.trans hm4 (fun _ _ h=>h)
 have HA4:=Lib.hid hA4
 have HB4:=Lib.hid hB4
 have Hm04:=Lib.hid hm04
 clear hA4 hB4 hm04 hm4 a0 a1 a2 a3 a4 a5 a6 b0 b1 b2 b3 b4 b5 b6 HA3 HB3 Hm03
 have a0:w4.cell? ⟨w.heap.size,0,none⟩=some (.string a.name):=cell_of HA4.out rfl
 have a1:w4.cell? ⟨w.heap.size,1,none⟩=some (.int .i64 a.op):=cell_of HA4.out rfl
 have a2:w4.cell? ⟨w.heap.size,2,none⟩=some (.int .i64 a.v.kind):=cell_of HA4.out rfl
 have a3:w4.cell? ⟨w.heap.size,3,none⟩=some (.int .i64 a.v.int):=cell_of HA4.out rfl
 have a4:w4.cell? ⟨w.heap.size,4,none⟩=some (.float .f64 a.v.num):=cell_of HA4.out rfl
 have a5:w4.cell? ⟨w.heap.size,5,none⟩=some (.string a.v.text):=cell_of HA4.out rfl
 have a6:w4.cell? ⟨w.heap.size,6,none⟩=some (.bool a.v.yes):=cell_of HA4.out rfl
 have b0:w4.cell? ⟨wa.heap.size,0,none⟩=some (.string b.name):=cell_of HB4.out rfl
 have b1:w4.cell? ⟨wa.heap.size,1,none⟩=some (.int .i64 b.op):=cell_of HB4.out rfl
 have b2:w4.cell? ⟨wa.heap.size,2,none⟩=some (.int .i64 b.v.kind):=cell_of HB4.out rfl
 have b3:w4.cell? ⟨wa.heap.size,3,none⟩=some (.int .i64 b.v.int):=cell_of HB4.out rfl
 have b4:w4.cell? ⟨wa.heap.size,4,none⟩=some (.float .f64 b.v.num):=cell_of HB4.out rfl
 have b5:w4.cell? ⟨wa.heap.size,5,none⟩=some (.string b.v.text):=cell_of HB4.out rfl
 have b6:w4.cell? ⟨wa.heap.size,6,none⟩=some (.bool b.v.yes):=cell_of HB4.out rfl
 have HR:=Lib.hid (HR.out.trans (by rw [h7,h8,hkn];rfl:_=(if a.op==0 then b.holds a.v else if a.op==1 then b.op==1&&(ok&&n==0) else if a.op==2||a.op==3 then rsideB n 2 3 a b else if a.op==4||a.op==5 then rsideB (-n) 4 5 a b else
  if b.op==6 then prefB a.v.text b.v.text else b.op==1&& !prefB b.v.text a.v.text)))
 clear h7 h8 hkn
 cases h0:a.op==0 with
 |true=>
  go_wp2_with fail
  refine (Hho.out _).mono ?_
  rintro e w5 ⟨rfl,hm5⟩
  have Hm5:=Lib.hid (Hm04.out.trans hm5 (fun _ _ h=>h))
  clear hm5
  go_wp2
  go_ret
  exact ⟨ret_bool (HR.out.trans (by simp [*])),Hm5.out⟩
 |false=>
 cases h1:a.op==1 with
 |true=>
  go_wp2
  all_goals (go_ret;exact ⟨ret_bool (HR.out.trans (by simp [*])),Hm04.out⟩)
 |false=>
 cases h2:a.op==2 with
 |true=>
  go_wp2_with fail
  refine (Hs1.out _).mono ?_
  rintro e w5 ⟨rfl,hm5⟩
  have Hm5:=Lib.hid (Hm04.out.trans hm5 (fun _ _ h=>h))
  clear hm5
  go_wp2
  go_ret
  exact ⟨ret_bool (HR.out.trans (by simp [*])),Hm5.out⟩
 |false=>
 cases h3:a.op==3 with
 |true=>
  go_wp2_with fail
  refine (Hs1.out _).mono ?_
  rintro e w5 ⟨rfl,hm5⟩
  have Hm5:=Lib.hid (Hm04.out.trans hm5 (fun _ _ h=>h))
  clear hm5
  go_wp2
  go_ret
  exact ⟨ret_bool (HR.out.trans (by simp [*])),Hm5.out⟩
 |false=>
 cases h4:a.op==4 with
 |true=>
  go_wp2_with fail
  refine (Hs2.out _).mono ?_
  rintro e w5 ⟨rfl,hm5⟩
  have Hm5:=Lib.hid (Hm04.out.trans hm5 (fun _ _ h=>h))
  clear hm5
  go_wp2
  go_ret
  exact ⟨ret_bool (HR.out.trans (by simp [*])),Hm5.out⟩
 |false=>
 cases h5:a.op==5 with
 |true=>
  go_wp2_with fail
  refine (Hs2.out _).mono ?_
  rintro e w5 ⟨rfl,hm5⟩
  have Hm5:=Lib.hid (Hm04.out.trans hm5 (fun _ _ h=>h))
  clear hm5
  go_wp2
  go_ret
  exact ⟨ret_bool (HR.out.trans (by simp [*])),Hm5.out⟩
 |false=>
 cases hb6:b.op==6 with
 |true=>
  go_wp2_with fail
  refine (Hp1.out _).mono ?_
  rintro e w5 ⟨rfl,rfl⟩
  go_wp2
  go_ret
  exact ⟨ret_bool (HR.out.trans (by simp [*])),Hm04.out⟩
 | false=>
  cases hb1:b.op==1 with
  |false=>
   go_wp2
   go_ret
   exact ⟨ret_bool (HR.out.trans (by simp [*])),Hm04.out⟩
  |true=>
   go_wp2_with fail
   refine (Hp2.out _).mono ?_
   rintro e w5 ⟨rfl,rfl⟩
   go_wp2
   go_ret
   exact ⟨ret_bool (HR.out.trans (by simp [*])),Hm04.out⟩
theorem V.same_cmp {a b:V} (ha:a.num<2^64) (hb:b.num<2^64) (hk:a.kind=b.kind) (hva:a.void=false) (hvb:b.void=false):V.same a b=((cmpV a b).2&&(cmpV a b).1==0):=by
 have hal:V.alike a b=true:=by unfold V.alike;rw [hva,hvb,hk];simp
 unfold cmpV
 rw [if_pos hal]
 show _=(true&&V.cmp a b==0)
 rw [Bool.true_and]
 unfold V.same V.cmp
 rw [hk,beq_self_eq_true,Bool.true_and]
 by_cases h0:b.kind=0
 ·rw [if_pos h0,if_pos h0]
  unfold sgn
  rcases Int.lt_trichotomy a.int b.int with h|h|h
  ·rw [decide_eq_true h,if_pos rfl,beq_eq_false_iff_ne.2 (by omega)];rfl
  ·rw [decide_eq_false (by omega),decide_eq_false (by omega),h,beq_self_eq_true];rfl
  ·rw [decide_eq_false (by omega),decide_eq_true h,beq_eq_false_iff_ne.2 (by omega)];rfl
 rw [if_neg h0,if_neg h0]
 by_cases h1:b.kind=1
 ·rw [if_pos h1,if_pos h1]
  have hfa:fEq a.num a.num=true:=by
   unfold V.void at hva
   rw [hk,h1] at hva
   simpa using hva
  have hfb:fEq b.num b.num=true:=by
   unfold V.void at hvb
   rw [h1] at hvb
   simpa using hvb
  rw [key_eq ha hb hfa hfb,eq_lt hfa hfb]
  cases fLt a.num b.num<;>cases fLt b.num a.num<;>rfl
 rw [if_neg h1,if_neg h1]
 by_cases h2:b.kind=2
 ·rw [if_pos h2,if_pos h2,Bool.eq_iff_iff,beq_iff_eq,beq_iff_eq,cmp_zero,ByteArray.toList_eq,ByteArray.toList_eq]
 rw [if_neg h2,if_neg h2]
 cases a.yes<;>cases b.yes<;>rfl
theorem rimp_imp {a b:Cnd} (ha:a.v.num<2^64) (hb:b.v.num<2^64) (h0:0≤a.op) (h7:a.op≤7):rimpB a b=impB a b:=by
 unfold rimpB impB
 split
 ·split
  ·rfl
  ·rename_i hv
   split
   ·rfl
   ·rename_i hw
    simp only [Bool.or_eq_true,not_or,Bool.not_eq_true,beq_eq_false_iff_ne,ne_eq,bne_iff_ne,Decidable.not_not] at hv hw
    obtain ⟨hva,hb7⟩:=hv
    obtain ⟨ha7,hvb,hk⟩:=hw
    have hk:a.v.kind=b.v.kind:=by simpa using hk
    have hva':a.v.void=false:=by
     unfold Cnd.voidB at hva
     rw [Bool.or_eq_false_iff] at hva
     have:=hva.1
     rw [show (a.op !=7)=true by simpa using ha7,Bool.true_and] at this
     exact this
    have hvb':b.v.void=false:=by
     unfold Cnd.voidB at hvb
     rw [Bool.or_eq_false_iff] at hvb
     have:=hvb.1
     rw [show (b.op !=7)=true by simpa using hb7,Bool.true_and] at this
     exact this
    rw [←V.same_cmp ha hb hk hva' hvb']
    generalize (cmpV a.v b.v).1=n
    generalize V.same a.v b.v=S
    generalize b.holds a.v=H
    generalize prefB a.v.text b.v.text=p
    generalize prefB b.v.text a.v.text=q
    have hn1:decide (-n<0)=decide (0<n):=by
     by_cases h:0<n
     ·rw [decide_eq_true h,decide_eq_true (by omega)]
     ·rw [decide_eq_false h,decide_eq_false (by omega)]
    have hn2:(-n==0)=(n==0):=by
     by_cases h:n=0
     ·rw [h];rfl
     ·rw [beq_eq_false_iff_ne.2 h,beq_eq_false_iff_ne.2 (by omega)]
    unfold rsideB sideL sideG belB aboB
    rw [hn1,hn2]
    generalize decide (0<n)=g
    generalize decide (n<0)=l
    generalize (n==0)=z
    rcases (by omega:a.op=0∨a.op=1∨a.op=2∨a.op=3∨a.op=4∨a.op=5∨a.op=6) with h|h|h|h|h|h|h
    all_goals
     rw [h]
     by_cases hb1:b.op=1
     ·rw [hb1];revert S p q g l z H;decide
     ·by_cases hb2:b.op=2
      ·rw [hb2];revert S p q g l z H;decide
      ·by_cases hb3:b.op=3
       ·rw [hb3];revert S p q g l z H;decide
       ·by_cases hb4:b.op=4
        ·rw [hb4];revert S p q g l z H;decide
        ·by_cases hb5:b.op=5
         ·rw [hb5];revert S p q g l z H;decide
         ·by_cases hb6:b.op=6
          ·rw [hb6];revert S p q g l z H;decide
          ·simp [hb1,hb2,hb3,hb4,hb5,hb6]
 ·rfl
end
end Go.Proofs.YtaenebdppkjhoaaGreatDoor
