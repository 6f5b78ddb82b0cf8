/- Lemmas of this claim. -/
import Derived.Test.YtaenebdppkjhoaaGreatDoorZd12
namespace Go.Proofs.YtaenebdppkjhoaaGreatDoor
set_option maxRecDepth 20000
set_option maxHeartbeats 40000000
section
open Go.RowKit
theorem same_at2 (x y:Nat) (hx:x<2^64) (hy:y<2^64) (w:World):
 Calls Tryz.prog 113 #[.float .f64 x,.float .f64 y] w fun e w'=>e= .returned (.bool (keyB x==keyB y))∧w'=w:=by
 have Hk1:=Lib.hid (key_at x hx w)
 have Hk2:=Lib.hid (key_at y hy w)
 go_enter Tryz.func113,Tryz.ntmps113
 go_wp2_with fail
 refine Hk1.out.mono ?_
 rintro e w1 ⟨rfl,rfl⟩
 go_wp2_with fail
 refine Hk2.out.mono ?_
 rintro e w2 ⟨rfl,rfl⟩
 go_wp2
 go_ret
 refine ⟨congrArg (fun b=>Ending.returned (.bool b)) ?_,rfl⟩
 by_cases h:keyB x=keyB y
 ·rw [h];simp
 ·rw [beq_eq_false_iff_ne.2 h,beq_eq_false_iff_ne.2 (by omega)]
def V.same (a b:V):Bool:=a.kind==b.kind&&(if a.kind=0 then a.int==b.int else if a.kind=1 then keyB a.num==keyB b.num else if a.kind=2 then a.text.toList==b.text.toList else a.yes==b.yes)
theorem value_same (a b:V) (ha:a.num<2^64) (hb:b.num<2^64) (w:World):
 Calls Tryz.prog 80 #[.agg a.cells.toArray,.agg b.cells.toArray] w fun e w'=>e= .returned (.bool (V.same a b))∧Mod (fun _=>False) w w':=by
 obtain ⟨k1,i1,n1,t1,y1⟩:=a
 obtain ⟨k2,i2,n2,t2,y2⟩:=b
 have hsm:=fun w=>same_at2 n1 n2 ha hb w
 have Hsm:=Lib.hid hsm
 have hm2:∀A B:Obj,Mod (fun _=>False) w ((w.alloc A).alloc B):=fun A B=>((Mod.refl _ w).alloc _).alloc _
 have Hm2:=Lib.hid hm2
 clear hsm hm2 ha hb
 unfold V.cells V.same
 by_cases hk:k1=k2
 ·subst hk
  have hkk:(k1==k1)=true:=by simp
  simp only [hkk,Bool.true_and]
  rcases (by omega:k1=0∨k1=1∨k1=2∨(k1≠0∧k1≠1∧k1≠2)) with h|h|h|⟨h0,h1,h2⟩
  ·subst h
   rw [if_pos rfl]
   go_enter Tryz.func80,Tryz.ntmps80
   go_wp2
   go_ret
   exact ⟨rfl,Hm2.out _ _⟩
  ·subst h
   rw [if_neg (by decide),if_pos rfl]
   go_enter Tryz.func80,Tryz.ntmps80
   go_wp2_with fail
   refine (Hsm.out _).mono ?_
   rintro e w2 ⟨rfl,rfl⟩
   go_wp2
   go_ret
   exact ⟨rfl,Hm2.out _ _⟩
  ·subst h
   rw [if_neg (by decide),if_neg (by decide),if_pos rfl]
   go_enter Tryz.func80,Tryz.ntmps80
   go_wp2
   go_ret
   exact ⟨rfl,Hm2.out _ _⟩
  ·rw [if_neg h0,if_neg h1,if_neg h2]
   go_enter Tryz.func80,Tryz.ntmps80
   go_wp2
   go_ret
   exact ⟨rfl,Hm2.out _ _⟩
 ·have hkk:(k1==k2)=false:=beq_eq_false_iff_ne.2 hk
  have hkn:(k1 !=k2)=true:=by simp [bne,hkk]
  simp only [hkk,Bool.false_and]
  go_enter Tryz.func80,Tryz.ntmps80
  go_wp2
  go_ret
  exact ⟨rfl,Hm2.out _ _⟩
def belB (op:Int):Bool:=op==2||op==3
def aboB (op:Int):Bool:=op==4||op==5
theorem below_at (op:Int) (w:World):Calls Tryz.prog 149 #[.int .i64 op] w fun e w'=>e= .returned (.tuple #[.bool (belB op),.bool (op==3)])∧w'=w:=by
 go_enter Tryz.func149,Tryz.ntmps149
 go_wp2
 all_goals (go_ret2;exact ⟨by simp [belB, *],rfl⟩)
theorem above_at (op:Int) (w:World):Calls Tryz.prog 150 #[.int .i64 op] w fun e w'=>e= .returned (.tuple #[.bool (aboB op),.bool (op==5)])∧w'=w:=by
 go_enter Tryz.func150,Tryz.ntmps150
 go_wp2
 all_goals (go_ret2;exact ⟨by simp [aboB, *],rfl⟩)
def sideL (n:Int) (a b:Cnd):Bool:=(belB b.op&&(decide (n<0)||(n==0&&(b.op==3|| !(a.op==3)))))||(b.op==1&&(decide (n<0)||(n==0&& !(a.op==3))))
def sideG (n:Int) (a b:Cnd):Bool:=(aboB b.op&&(decide (0<n)||(n==0&&(b.op==5|| !(a.op==5)))))||(b.op==1&&(decide (0<n)||(n==0&& !(a.op==5))))
def impB (a b:Cnd):Bool:=
 if a.name.toList==b.name.toList then
  if a.voidB||b.op==7 then true else
  if a.op==7||(b.voidB||a.v.kind !=b.v.kind) then false else
  if a.op==0 then b.holds a.v else
  if a.op==1 then b.op==1&&V.same a.v b.v else
  if a.op==6 then (b.op==6&&prefB a.v.text b.v.text)||(b.op==1&& !prefB b.v.text a.v.text) else
  if belB a.op then sideL (cmpV a.v b.v).1 a b else sideG (cmpV a.v b.v).1 a b
 else false
theorem implies_at (a b:Cnd) (ha:a.v.text.size≤9223372036854775807) (hb:b.v.text.size≤9223372036854775807) (han:a.v.num<2^64) (hbn:b.v.num<2^64) (w:World):
 Calls Tryz.prog 112 #[.agg a.cells.toArray,.agg b.cells.toArray] w fun e w'=>e= .returned (.bool (impB a b))∧Mod (fun _=>False) w w':=by
 obtain ⟨wa,hwa,hmwa,hgwa,hzwa⟩:=allocE w (.cells a.cells.toArray 132)
 obtain ⟨wb,hwb,hmwb,hgwb,hzwb⟩:=allocE wa (.cells b.cells.toArray 132)
 have hmb:=hmwa.trans hmwb (fun _ _ h=>h)
 have hA:=hmwb.heap hgwa (fun h=>h)
 have a0:wb.cell? ⟨w.heap.size,0,none⟩=some (.string a.name):=cell_of hA rfl
 have a1:wb.cell? ⟨w.heap.size,1,none⟩=some (.int .i64 a.op):=cell_of hA rfl
 have a2:wb.cell? ⟨w.heap.size,2,none⟩=some (.int .i64 a.v.kind):=cell_of hA rfl
 have a3:wb.cell? ⟨w.heap.size,3,none⟩=some (.int .i64 a.v.int):=cell_of hA rfl
 have a4:wb.cell? ⟨w.heap.size,4,none⟩=some (.float .f64 a.v.num):=cell_of hA rfl
 have a5:wb.cell? ⟨w.heap.size,5,none⟩=some (.string a.v.text):=cell_of hA rfl
 have a6:wb.cell? ⟨w.heap.size,6,none⟩=some (.bool a.v.yes):=cell_of hA rfl
 have b0:wb.cell? ⟨wa.heap.size,0,none⟩=some (.string b.name):=cell_of hgwb rfl
 have b1:wb.cell? ⟨wa.heap.size,1,none⟩=some (.int .i64 b.op):=cell_of hgwb rfl
 have b2:wb.cell? ⟨wa.heap.size,2,none⟩=some (.int .i64 b.v.kind):=cell_of hgwb rfl
 have b3:wb.cell? ⟨wa.heap.size,3,none⟩=some (.int .i64 b.v.int):=cell_of hgwb rfl
 have b4:wb.cell? ⟨wa.heap.size,4,none⟩=some (.float .f64 b.v.num):=cell_of hgwb rfl
 have b5:wb.cell? ⟨wa.heap.size,5,none⟩=some (.string b.v.text):=cell_of hgwb rfl
 have b6:wb.cell? ⟨wa.heap.size,6,none⟩=some (.bool b.v.yes):=cell_of hgwb rfl
 have hva:=cond_void a wb
 have hvb:=cond_void b
 have hho:=holds_at b a.v hb ha
 have hsm:=value_same a.v b.v han hbn
 have hp1:=prefix_at a.v.text b.v.text ha hb
 have hp2:=prefix_at b.v.text a.v.text hb ha
 have hcm:=compare_at a.v b.v
 obtain ⟨R,hR⟩:∃R,impB a b=R:=⟨_,rfl⟩
 rw [hR]
 unfold impB at hR
 obtain ⟨va,hva'⟩:∃x,a.voidB=x:=⟨_,rfl⟩
 obtain ⟨vb,hvb'⟩:∃x,b.voidB=x:=⟨_,rfl⟩
 obtain ⟨⟨n,ok⟩,hn⟩:∃x,cmpV a.v b.v=x:=⟨_,rfl⟩
 rw [hva'] at hva hR
 rw [hvb'] at hvb hR
 rw [hn] at hcm hR
 simp only at hcm hR
 have hlz:w.heap.size<wa.heap.size:=by omega
 have Hwa:=Lib.hid hwa
 have Hwb:=Lib.hid hwb
 have Hmb:=Lib.hid hmb
 have HA:=Lib.hid hA
 have Hgwb:=Lib.hid hgwb
 have Hva:=Lib.hid hva
 have Hvb:=Lib.hid hvb
 have Hho:=Lib.hid hho
 have Hsm:=Lib.hid hsm
 have Hp1:=Lib.hid hp1
 have Hp2:=Lib.hid hp2
 have Hcm:=Lib.hid hcm
 have HR:=Lib.hid hR
 clear hwa hwb hmb hA hgwb hva hvb hho hsm hp1 hp2 hcm hR hgwa hmwa hmwb hzwa hzwb ha hb han hbn hva' hvb' hn
 cases hnm:a.name.toList==b.name.toList with
 |false=>
  go_enter Tryz.func112,Tryz.ntmps112
  go_wp2_with (first|(rw [show w.alloc _=wa from Hwa.out])|(rw [show wa.alloc _=wb from Hwb.out])|fail)
  go_ret
  exact ⟨ret_bool (HR.out.symm.trans (by simp [*])),Hmb.out⟩
 |true=>
 have HR:=Lib.hid (HR.out.symm.trans (if_pos hnm))
 go_enter Tryz.func112,Tryz.ntmps112
 go_wp2_with (first|(rw [show w.alloc _=wa from Hwa.out])|(rw [show wa.alloc _=wb from Hwb.out])|fail)
 refine Hva.out.mono ?_
 rintro e w2 ⟨rfl,hm2⟩
 have hA2:=hm2.heap HA.out (fun h=>h)
 have hB2:=hm2.heap Hgwb.out (fun h=>h)
 have hm02:=Hmb.out.trans hm2 (fun _ _ h=>h)
 have HA2:=Lib.hid hA2
 have HB2:=Lib.hid hB2
 have Hm02:=Lib.hid hm02
 clear hA2 hB2 hm02 hm2 hnm a0 a1 a2 a3 a4 a5 a6 b0 b1 b2 b3 b4 b5 b6 Hva
 have a0:w2.cell? ⟨w.heap.size,0,none⟩=some (.string a.name):=cell_of HA2.out rfl
 have a1:w2.cell? ⟨w.heap.size,1,none⟩=some (.int .i64 a.op):=cell_of HA2.out rfl
 have a2:w2.cell? ⟨w.heap.size,2,none⟩=some (.int .i64 a.v.kind):=cell_of HA2.out rfl
 have a3:w2.cell? ⟨w.heap.size,3,none⟩=some (.int .i64 a.v.int):=cell_of HA2.out rfl
 have a4:w2.cell? ⟨w.heap.size,4,none⟩=some (.float .f64 a.v.num):=cell_of HA2.out rfl
 have a5:w2.cell? ⟨w.heap.size,5,none⟩=some (.string a.v.text):=cell_of HA2.out rfl
 have a6:w2.cell? ⟨w.heap.size,6,none⟩=some (.bool a.v.yes):=cell_of HA2.out rfl
 have b0:w2.cell? ⟨wa.heap.size,0,none⟩=some (.string b.name):=cell_of HB2.out rfl
 have b1:w2.cell? ⟨wa.heap.size,1,none⟩=some (.int .i64 b.op):=cell_of HB2.out rfl
 have b2:w2.cell? ⟨wa.heap.size,2,none⟩=some (.int .i64 b.v.kind):=cell_of HB2.out rfl
 have b3:w2.cell? ⟨wa.heap.size,3,none⟩=some (.int .i64 b.v.int):=cell_of HB2.out rfl
 have b4:w2.cell? ⟨wa.heap.size,4,none⟩=some (.float .f64 b.v.num):=cell_of HB2.out rfl
 have b5:w2.cell? ⟨wa.heap.size,5,none⟩=some (.string b.v.text):=cell_of HB2.out rfl
 have b6:w2.cell? ⟨wa.heap.size,6,none⟩=some (.bool b.v.yes):=cell_of HB2.out rfl
 cases va with
 |true=>
  go_wp2
  go_ret
  exact ⟨ret_bool (HR.out.trans (by simp)),Hm02.out⟩
 |false=>
 cases h7:b.op==7 with
 |true=>
  go_wp2
  go_ret
  exact ⟨ret_bool (HR.out.trans (by simp [*])),Hm02.out⟩
 |false=>
 cases h8:a.op==7 with
 |true=>
  go_wp2
  go_ret
  exact ⟨ret_bool (HR.out.trans (by simp [*])),Hm02.out⟩
 |false=>
 go_wp2_with fail
 refine (Hvb.out _).mono ?_
 rintro e w3 ⟨rfl,hm3⟩
 have hA3:=hm3.heap HA2.out (fun h=>h)
 have hB3:=hm3.heap HB2.out (fun h=>h)
 have hm03:=Hm02.out.trans hm3 (fun _ _ h=>h)
 have HA3:=Lib.hid hA3
 have HB3:=Lib.hid hB3
 have Hm03:=Lib.hid hm03
 clear hA3 hB3 hm03 hm3 a0 a1 a2 a3 a4 a5 a6 b0 b1 b2 b3 b4 b5 b6 Hvb HA2 HB2 Hm02
 have a0:w3.cell? ⟨w.heap.size,0,none⟩=some (.string a.name):=cell_of HA3.out rfl
 have a1:w3.cell? ⟨w.heap.size,1,none⟩=some (.int .i64 a.op):=cell_of HA3.out rfl
 have a2:w3.cell? ⟨w.heap.size,2,none⟩=some (.int .i64 a.v.kind):=cell_of HA3.out rfl
 have a3:w3.cell? ⟨w.heap.size,3,none⟩=some (.int .i64 a.v.int):=cell_of HA3.out rfl
 have a4:w3.cell? ⟨w.heap.size,4,none⟩=some (.float .f64 a.v.num):=cell_of HA3.out rfl
 have a5:w3.cell? ⟨w.heap.size,5,none⟩=some (.string a.v.text):=cell_of HA3.out rfl
 have a6:w3.cell? ⟨w.heap.size,6,none⟩=some (.bool a.v.yes):=cell_of HA3.out rfl
 have b0:w3.cell? ⟨wa.heap.size,0,none⟩=some (.string b.name):=cell_of HB3.out rfl
 have b1:w3.cell? ⟨wa.heap.size,1,none⟩=some (.int .i64 b.op):=cell_of HB3.out rfl
 have b2:w3.cell? ⟨wa.heap.size,2,none⟩=some (.int .i64 b.v.kind):=cell_of HB3.out rfl
 have b3:w3.cell? ⟨wa.heap.size,3,none⟩=some (.int .i64 b.v.int):=cell_of HB3.out rfl
 have b4:w3.cell? ⟨wa.heap.size,4,none⟩=some (.float .f64 b.v.num):=cell_of HB3.out rfl
 have b5:w3.cell? ⟨wa.heap.size,5,none⟩=some (.string b.v.text):=cell_of HB3.out rfl
 have b6:w3.cell? ⟨wa.heap.size,6,none⟩=some (.bool b.v.yes):=cell_of HB3.out rfl
 cases vb with
 |true=>
  go_wp2
  go_ret
  exact ⟨ret_bool (HR.out.trans (by simp [*])),Hm03.out⟩
 |false=>
 cases hk:a.v.kind==b.v.kind with
 |false=>
  have hkn:(a.v.kind !=b.v.kind)=true:=by simp [bne,hk]
  go_wp2
  go_ret
  exact ⟨ret_bool (HR.out.trans (by simp [*])),Hm03.out⟩
 |true=>
 have hkn:(a.v.kind !=b.v.kind)=false:=by simp [bne,hk]
 clear hk
 cases h0:a.op==0 with
 |true=>
  go_wp2_with fail
  refine (Hho.out _).mono ?_
  rintro e w4 ⟨rfl,hm4⟩
  have Hm4:=Lib.hid (Hm03.out.trans hm4 (fun _ _ h=>h))
  clear hm4
  go_wp2
  go_ret
  exact ⟨ret_bool (HR.out.trans (by simp [*])),Hm4.out⟩
 |false=>
 cases h1:a.op==1 with
 | true=>
  cases hb1:b.op==1 with
  |false=>
   go_wp2
   go_ret
   exact ⟨ret_bool (HR.out.trans (by simp [*])),Hm03.out⟩
  |true=>
   go_wp2_with fail
   refine (Hsm.out _).mono ?_
   rintro e w4 ⟨rfl,hm4⟩
   have Hm4:=Lib.hid (Hm03.out.trans hm4 (fun _ _ h=>h))
   clear hm4
   go_wp2
   go_ret
   exact ⟨ret_bool (HR.out.trans (by simp [*])),Hm4.out⟩
 |false=>
 cases h6:a.op==6 with
 | true=>
  cases hb6:b.op==6 with
  | true=>
   have hb1:(b.op==1)=false:=by rw [beq_iff_eq] at hb6;rw [hb6];rfl
   obtain ⟨pf,hpf⟩:∃x,prefB a.v.text b.v.text=x:=⟨_,rfl⟩
   rw [hpf] at Hp1 HR
   clear hpf
   go_wp2_with fail
   refine (Hp1.out _).mono ?_
   rintro e w4 ⟨rfl,rfl⟩
   cases pf with
   |true=>
    go_wp2
    go_ret
    exact ⟨ret_bool (HR.out.trans (by simp [*])),Hm03.out⟩
   |false=>
    go_wp2
    go_ret
    exact ⟨ret_bool (HR.out.trans (by simp [*])),Hm03.out⟩
  | false=>
   cases hb1:b.op==1 with
   |false=>
    go_wp2
    go_ret
    exact ⟨ret_bool (HR.out.trans (by simp [*])),Hm03.out⟩
   |true=>
    go_wp2_with fail
    refine (Hp2.out _).mono ?_
    rintro e w4 ⟨rfl,rfl⟩
    go_wp2
    go_ret
    exact ⟨ret_bool (HR.out.trans (by simp [*])),Hm03.out⟩
 |false=>
 go_wp2_with fail
 refine (Hcm.out _).mono ?_
 rintro e w4 ⟨rfl,hm4⟩
 have hA4:=hm4.heap HA3.out (fun h=>h)
 have hB4:=hm4.heap HB3.out (fun h=>h)
 have hm04:=Hm03.out.trans hm4 (fun _ _ h=>h)
 have HA4:=Lib.hid hA4
 have HB4:=Lib.hid hB4
 have Hm04:=Lib.hid hm04
 clear hA4 hB4 hm04 hm4 a0 a1 a2 a3 a4 a5 a6 b0 b1 b2 b3 b4 b5 b6 HA3 HB3 Hm03
 have a0:w4.cell? ⟨w.heap.size,1,none⟩=some (.int .i64 a.op):=cell_of HA4.out rfl
 have b0:w4.cell? ⟨wa.heap.size,1,none⟩=some (.int .i64 b.op):=cell_of HB4.out rfl
 go_wp2_with fail
 refine (below_at a.op w4).mono ?_
 rintro e w5 ⟨rfl,rfl⟩
 obtain ⟨x,hx⟩:∃x,belB a.op=x:=⟨_,rfl⟩
 obtain ⟨y3,hy3⟩:∃x,(a.op==3)=x:=⟨_,rfl⟩
 obtain ⟨y5,hy5⟩:∃x,(a.op==5)=x:=⟨_,rfl⟩
 obtain ⟨z3,hz3⟩:∃x,(b.op==3)=x:=⟨_,rfl⟩
 obtain ⟨z5,hz5⟩:∃x,(b.op==5)=x:=⟨_,rfl⟩
 obtain ⟨bl,hbl⟩:∃x,belB b.op=x:=⟨_,rfl⟩
 obtain ⟨al,hal⟩:∃x,aboB b.op=x:=⟨_,rfl⟩
 unfold sideL sideG at HR
 rw [hx,hy3,hy5,hz3,hz5,hbl,hal] at HR
 rw [hx,hy3]
 have hbb:=below_at b.op w5
 have hab:=above_at a.op w5
 have hbb2:=above_at b.op w5
 rw [hbl,hz3] at hbb
 rw [hy5] at hab
 rw [hal,hz5] at hbb2
 have Hbb:=Lib.hid hbb
 have Hab:=Lib.hid hab
 have Hbb2:=Lib.hid hbb2
 clear hbb hab hbb2 hx hy3 hy5 hz3 hz5 hbl hal
 cases x with
 |true=>
  go_wp2_with fail
  refine Hbb.out.mono ?_
  rintro e w6 ⟨rfl,rfl⟩
  go_wp2
  all_goals (go_ret;exact ⟨ret_bool (HR.out.trans (by first|(simp [*];done)|(rw [show decide (n<0)=false from decide_eq_false (by omega)];simp [*];done)|(rw [show decide (0<n)=false from decide_eq_false (by omega)];simp [*];done))),Hm04.out⟩)
 |false=>
  go_wp2_with fail
  refine Hab.out.mono ?_
  rintro e w6 ⟨rfl,rfl⟩
  go_wp2_with fail
  refine Hbb2.out.mono ?_
  rintro e w7 ⟨rfl,rfl⟩
  go_wp2
  all_goals (go_ret;exact ⟨ret_bool (HR.out.trans (by first|(simp [*];done)|(rw [show decide (n<0)=false from decide_eq_false (by omega)];simp [*];done)|(rw [show decide (0<n)=false from decide_eq_false (by omega)];simp [*];done))),Hm04.out⟩)
end
end Go.Proofs.YtaenebdppkjhoaaGreatDoor
