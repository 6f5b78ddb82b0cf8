/- Lemmas. -/
import Derived.Test.YtaenebdppkjhoaaGreatDoorZg7
import Derived.Lib.Strings
import Derived.Laws.IdiomCopy
import Derived.Lib.Overlaps
namespace Go.Proofs.YtaenebdppkjhoaaGreatDoor
set_option maxRecDepth 20000
set_option maxHeartbeats 40000000
section
open Go.RowKit
def W8 (s p:ByteArray):Bool:=p.data.toList.isPrefixOf s.data.toList
theorem a4w {s p:ByteArray} (h:s.size<p.size):W8 s p=false:=by
 unfold W8;rw [Bool.eq_false_iff];intro hp;have:=(List.isPrefixOf_iff_prefix.1 hp).length_le;have h1:p.data.toList.length=p.size:=rfl;have h2:s.data.toList.length=s.size:=rfl;omega
theorem a5d {s p:ByteArray}:((s.extract 0 p.size).toList==p.toList)=W8 s p:=by
 unfold W8;rw [ByteArray.toList_eq,ByteArray.toList_eq,Bool.eq_iff_iff,beq_iff_eq,List.isPrefixOf_iff_prefix,List.prefix_iff_eq_take]
 have h1:(s.extract 0 p.size).data.toList=s.data.toList.take p.size:=by
  rw [ByteArray.data_extract,Array.toList_extract];simp
 rw [h1];have h2:p.data.toList.length=p.size:=rfl;rw [h2];exact ⟨fun h=>h.symm,fun h=>h.symm⟩
theorem a6u (s p:ByteArray) (hs:s.size<=9223372036854775807) (hp:p.size<=9223372036854775807) (w:World):Calls Tryz.prog 152 #[.string s,.string p] w fun e w'=>e= .returned (.bool (W8 s p))/\w'=w:=by
 have hs':(s.size:Int)<=9223372036854775807:=by omega
 have hp':(p.size:Int)<=9223372036854775807:=by omega
 by_cases h:p.size<=s.size
 ·have h':(p.size:Int)<=s.size:=by omega
  rw [<-a5d];clear hs hp
  go_enter Tryz.func152,Tryz.ntmps152
  go_wp2
  go_ret;exact ⟨rfl,rfl⟩
 have h':(s.size:Int)<p.size:=by omega
 rw [a4w (by omega)];clear hs hp h
 go_enter Tryz.func152,Tryz.ntmps152
 go_wp2
 go_ret;exact ⟨rfl,rfl⟩
theorem Z9 (s p:ByteArray) (hs:s.size<=9223372036854775807) (hp:p.size<=9223372036854775807) (w:World):Calls Tryz.prog 114 #[.string s,.string p] w fun e w'=>e= .returned (.bool (W8 s p))/\w'=w:=by
 have Hc:=Lib.hid (a6u s p hs hp w);clear hs hp
 go_enter Tryz.func114,Tryz.ntmps114
 go_wp2_with fail
 refine Hc.out.mono ?_;rintro e w' ⟨rfl,rfl⟩
 go_wp2
 go_ret;exact ⟨rfl,rfl⟩
def s6 (s top:ByteArray):Bool:=top.toList.isEmpty||(s.toList==top.toList||(W8 s top&&s.data.toList[top.size]? ==some 47))
theorem a0U (s top:ByteArray) (hs:s.size<=9223372036854775807) (hp:top.size<=9223372036854775807) (w:World):Calls Tryz.prog 81 #[.string s,.string top] w fun e w'=>e= .returned (.bool (s6 s top))/\w'=w:=by
 have hc:=Z9 s top hs hp w
 cases h1:top.toList.isEmpty with
 |true=>
  rw [show s6 s top=true by unfold s6;rw [h1];rfl];clear hc hs hp
  go_enter Tryz.func81,Tryz.ntmps81
  go_wp2
  go_ret;exact ⟨rfl,rfl⟩
 |false=>
 cases h2:s.toList==top.toList with
 |true=>
  rw [show s6 s top=true by unfold s6;rw [h1,h2];rfl];clear hc hs hp
  go_enter Tryz.func81,Tryz.ntmps81
  go_wp2
  go_ret;exact ⟨rfl,rfl⟩
 |false=>
 have hu:s6 s top=(W8 s top&&s.data.toList[top.size]? ==some 47):=by unfold s6;rw [h1,h2];rfl
 rw [hu]
 cases h3:W8 s top with
 |false=>
  rw [h3] at hc;have Hc:=zh hc;rw [Bool.false_and];clear hc hs hp hu h3
  go_enter Tryz.func81,Tryz.ntmps81
  go_wp2_with fail
  refine Hc.out.mono ?_;rintro e w' ⟨rfl,rfl⟩
  go_wp2
  go_ret;exact ⟨rfl,rfl⟩
 | true=>
  rw [h3] at hc
  have hlt:top.size<s.size:=by
   have h4:=List.isPrefixOf_iff_prefix.1 (show top.data.toList.isPrefixOf s.data.toList=true from h3);rcases Nat.lt_or_eq_of_le h4.length_le with h5|h5
   ·exact h5
   have:=h4.eq_of_length h5;rw [ByteArray.toList_eq,ByteArray.toList_eq,this,beq_self_eq_true] at h2;cases h2
  have hlt':(top.size:Int)<s.size:=by omega
  have htop':(top.size:Int)<=9223372036854775807:=by omega
  have hs':(s.size:Int)<=9223372036854775807:=by omega
  have hg:s.data.toList[top.size]? =some s[top.size]:=zz5 hlt
  have hb:(s.data.toList[top.size]? ==some 47)=((s[top.size].toNat:Int)==47):=by
   rw [hg,Bool.eq_iff_iff,beq_iff_eq,beq_iff_eq];constructor
   ·intro h;have h:=Option.some.inj h;rw [h];rfl
   intro h;congr 1;exact UInt8.toNat.inj (by have:(47:UInt8).toNat=47:=rfl;omega)
  rw [Bool.true_and,hb];have Hc:=zh hc;clear hc hs hp hu h3 hg hb
  go_enter Tryz.func81,Tryz.ntmps81
  go_wp2_with fail
  refine Hc.out.mono ?_;rintro e w' ⟨rfl,rfl⟩
  go_wp2
  go_ret;exact ⟨rfl,rfl⟩
def sgn (l m:Bool):Int:=if l then -1 else if m then 1 else 0
def V.cmp (a b:V):Int:=if a.kind=0 then sgn (decide (a.int<b.int)) (decide (b.int<a.int)) else if a.kind=1 then sgn (fLt a.num b.num) (fLt b.num a.num) else
 if a.kind=2 then Lib.compareBytes a.text.data.toList b.text.data.toList else sgn (!a.yes&&b.yes) (a.yes&& !b.yes)
def V.alike (a b:V):Bool:=a.kind==b.kind&&(!a.void&& !b.void)
def J6 (a b:V):Int×Bool:=if V.alike a b=true then (V.cmp a b,true) else (0,false)
theorem a0a (l m:Bool) (w:World):Calls Tryz.prog 183 #[.bool l,.bool m] w fun e w'=>e= .returned (.int .i64 (sgn l m))/\w'=w:=by
 cases l with
 |true=>
  go_enter Tryz.func183,Tryz.ntmps183
  go_wp2
  go_ret;exact ⟨rfl,rfl⟩
 | false=>
  cases m with
  |true=>
   go_enter Tryz.func183,Tryz.ntmps183
   go_wp2
   go_ret;exact ⟨rfl,rfl⟩
  |false=>
   go_enter Tryz.func183,Tryz.ntmps183
   go_wp2
   go_ret;exact ⟨rfl,rfl⟩
theorem a2H (a b:V) (w:World):Calls Tryz.prog 148 #[.agg a.cells.toArray,.agg b.cells.toArray] w fun e w'=>e= .returned (.tuple #[.int .i64 (J6 a b).1,.bool (J6 a b).2])/\Mod (fun _=>False) w w':=by
 obtain ⟨wa,hwa,hmwa,hgwa,hzwa⟩:=e8 w (.cells a.cells.toArray 68);obtain ⟨wb,hwb,hmwb,hgwb,hzwb⟩:=e8 wa (.cells b.cells.toArray 68);have hmb:=hmwa.trans hmwb (fun _ _ h=>h);have hgA:=hmwb.heap hgwa (fun h=>h);have c0:wb.cell? ⟨w.heap.size,0,none⟩=some (.int .i64 a.kind):=d6 hgA rfl;have c1:wb.cell? ⟨w.heap.size,1,none⟩=some (.int .i64 a.int):=d6 hgA rfl;have c2:wb.cell? ⟨w.heap.size,2,none⟩=some (.float .f64 a.num):=d6 hgA rfl;have c3:wb.cell? ⟨w.heap.size,3,none⟩=some (.string a.text):=d6 hgA rfl;have c4:wb.cell? ⟨w.heap.size,4,none⟩=some (.bool a.yes):=d6 hgA rfl;have d0:wb.cell? ⟨wa.heap.size,0,none⟩=some (.int .i64 b.kind):=d6 hgwb rfl;have d1:wb.cell? ⟨wa.heap.size,1,none⟩=some (.int .i64 b.int):=d6 hgwb rfl;have d2:wb.cell? ⟨wa.heap.size,2,none⟩=some (.float .f64 b.num):=d6 hgwb rfl;have d3:wb.cell? ⟨wa.heap.size,3,none⟩=some (.string b.text):=d6 hgwb rfl;have d4:wb.cell? ⟨wa.heap.size,4,none⟩=some (.bool b.yes):=d6 hgwb rfl;have hlz:w.heap.size<wa.heap.size:=by omega
 have hva:=V7 a wb;obtain ⟨Hwa,Hwb,Hmb,Hva,HgA,Hgwb⟩:=zh6 hwa hwb hmb hva hgA hgwb;clear hwa hwb hmb hva hgA hgwb hmwa hmwb hgwa hzwa hzwb
 cases hk:a.kind==b.kind with
 |false=>
  have hkn:(a.kind !=b.kind)=true:=by simp [bne,hk]
  have E:=Lib.hid (show J6 a b=(0,false) by unfold J6 V.alike;rw [hk];rfl)
  go_enter Tryz.func148,Tryz.ntmps148
  go_wp2_with (first|(rw [show w.alloc _=wa from Hwa.out])|(rw [show wa.alloc _=wb from Hwb.out])|fail)
  go_ret2
  exact ⟨by rw [E.out];rfl,Hmb.out⟩
 |true=>
 have hkn:(a.kind !=b.kind)=false:=by simp [bne,hk]
 cases hv:a.void with
 |true=>
  have E:=Lib.hid (show J6 a b=(0,false) by unfold J6 V.alike;rw [hk,hv];rfl);rw [hv] at Hva;clear hv
  go_enter Tryz.func148,Tryz.ntmps148
  go_wp2_with (first|(rw [show w.alloc _=wa from Hwa.out])|(rw [show wa.alloc _=wb from Hwb.out])|fail)
  refine Hva.out.mono ?_;rintro e w2 ⟨rfl,hm2⟩;have Hm2:=Lib.hid (Hmb.out.trans hm2 (fun _ _ h=>h));clear hm2
  go_wp2
  go_ret2
  exact ⟨by rw [E.out];rfl,Hm2.out⟩
 |false=>
 obtain ⟨Hhk,Hhv⟩:=zh2 hk hv;rw [hv] at Hva;clear hv hk
 go_enter Tryz.func148,Tryz.ntmps148
 go_wp2_with (first|(rw [show w.alloc _=wa from Hwa.out])|(rw [show wa.alloc _=wb from Hwb.out])|fail)
 refine Hva.out.mono ?_;rintro e w2 ⟨rfl,hm2⟩;have hA2:=hm2.heap HgA.out (fun h=>h);have hB2:=hm2.heap Hgwb.out (fun h=>h);have hm02:=Hmb.out.trans hm2 (fun _ _ h=>h);have d0:w2.cell? ⟨wa.heap.size,0,none⟩=some (.int .i64 b.kind):=d6 hB2 rfl;have d1:w2.cell? ⟨wa.heap.size,1,none⟩=some (.int .i64 b.int):=d6 hB2 rfl;have d2:w2.cell? ⟨wa.heap.size,2,none⟩=some (.float .f64 b.num):=d6 hB2 rfl;have d3:w2.cell? ⟨wa.heap.size,3,none⟩=some (.string b.text):=d6 hB2 rfl;have d4:w2.cell? ⟨wa.heap.size,4,none⟩=some (.bool b.yes):=d6 hB2 rfl;have hvb:=V7 b w2;obtain ⟨HA2,HB2,Hm02,Hvb⟩:=zh4 hA2 hB2 hm02 hvb;clear hA2 hB2 hm02 hvb hm2 c0 c1 c2 c3 c4
 cases hv2:b.void with
 |true=>
  have E:=Lib.hid (show J6 a b=(0,false) by unfold J6 V.alike;rw [Hhk.out,Hhv.out,hv2];rfl);rw [hv2] at Hvb;clear hv2
  go_wp2_with fail
  refine Hvb.out.mono ?_;rintro e w3 ⟨rfl,hm3⟩;have Hm3:=Lib.hid (Hm02.out.trans hm3 (fun _ _ h=>h));clear hm3
  go_wp2
  go_ret2
  exact ⟨by rw [E.out];rfl,Hm3.out⟩
 |false=>
 have E:=Lib.hid (show J6 a b=(V.cmp a b,true) by unfold J6 V.alike;rw [Hhk.out,Hhv.out,hv2];rfl);rw [hv2] at Hvb;clear hv2
 go_wp2_with fail
 refine Hvb.out.mono ?_;rintro e w3 ⟨rfl,hm3⟩;have hA3:=hm3.heap HA2.out (fun h=>h);have hB3:=hm3.heap HB2.out (fun h=>h);have c0:w3.cell? ⟨w.heap.size,0,none⟩=some (.int .i64 a.kind):=d6 hA3 rfl;have c1:w3.cell? ⟨w.heap.size,1,none⟩=some (.int .i64 a.int):=d6 hA3 rfl;have c2:w3.cell? ⟨w.heap.size,2,none⟩=some (.float .f64 a.num):=d6 hA3 rfl;have c3:w3.cell? ⟨w.heap.size,3,none⟩=some (.string a.text):=d6 hA3 rfl;have c4:w3.cell? ⟨w.heap.size,4,none⟩=some (.bool a.yes):=d6 hA3 rfl;have d1:w3.cell? ⟨wa.heap.size,1,none⟩=some (.int .i64 b.int):=d6 hB3 rfl;have d2:w3.cell? ⟨wa.heap.size,2,none⟩=some (.float .f64 b.num):=d6 hB3 rfl;have d3:w3.cell? ⟨wa.heap.size,3,none⟩=some (.string b.text):=d6 hB3 rfl;have d4:w3.cell? ⟨wa.heap.size,4,none⟩=some (.bool b.yes):=d6 hB3 rfl;have hm03:=Hm02.out.trans hm3 (fun _ _ h=>h);obtain ⟨HA3,HB3,Hm03⟩:=zh3 hA3 hB3 hm03;clear hA3 hB3 hm03 hm3 Hvb Hva HA2 HB2
 cases h0:a.kind==0 with
 |true=>
  have E2:=Lib.hid (show V.cmp a b=_ from if_pos (beq_iff_eq.1 h0))
  go_wp2_with fail
  refine (a0a _ _ w3).mono ?_;rintro e w4 ⟨rfl,rfl⟩
  go_wp2
  go_ret2
  exact ⟨by rw [E.out,E2.out];rfl,Hm03.out⟩
 |false=>
 have h0':¬a.kind=0:=by simpa using h0
 have E0:=Lib.hid (show V.cmp a b=_ from if_neg h0');clear h0'
 cases h1:a.kind==1 with
 |true=>
  have E2:=Lib.hid (E0.out.trans (if_pos (beq_iff_eq.1 h1)))
  go_wp2_with fail
  go_quiet ((first|(go_at_call 184;exact Calls.quiet_of_same (b21 _ _ _))|(go_at_call 183;exact Calls.quiet_of_same (a0a _ _ _))))
  go_wp2
  go_ret2
  exact ⟨by rw [E.out,E2.out];rfl,Hm03.out.drewN _⟩
 |false=>
 have h1':¬a.kind=1:=by simpa using h1
 have E1:=Lib.hid (E0.out.trans (if_neg h1'));clear h1'
 cases h2:a.kind==2 with
 |true=>
  have E2:=Lib.hid (E1.out.trans (if_pos (beq_iff_eq.1 h2)))
  go_wp2_with fail
  refine (a7Q a.text b.text w3).mono ?_;rintro e w4 ⟨rfl,rfl⟩
  go_wp2
  go_ret2
  exact ⟨by rw [E.out,E2.out];rfl,Hm03.out⟩
 | false=>
  have h2':¬a.kind=2:=by simpa using h2
  have E2:=Lib.hid (E1.out.trans (if_neg h2'));clear h2'
  cases hya:a.yes with
  | true=>
   rw [hya] at E2 c4
   cases hyb:b.yes with
   |true=>
    rw [hyb] at E2 d4
    go_wp2_with fail
    refine (a0a _ _ w3).mono ?_;rintro e w4 ⟨rfl,rfl⟩
    go_wp2
    go_ret2
    exact ⟨by rw [E.out,E2.out];rfl,Hm03.out⟩
   |false=>
    rw [hyb] at E2 d4
    go_wp2_with fail
    refine (a0a _ _ w3).mono ?_;rintro e w4 ⟨rfl,rfl⟩
    go_wp2
    go_ret2
    exact ⟨by rw [E.out,E2.out];rfl,Hm03.out⟩
  | false=>
   rw [hya] at E2 c4
   cases hyb:b.yes with
   |true=>
    rw [hyb] at E2 d4
    go_wp2_with fail
    refine (a0a _ _ w3).mono ?_;rintro e w4 ⟨rfl,rfl⟩
    go_wp2
    go_ret2
    exact ⟨by rw [E.out,E2.out];rfl,Hm03.out⟩
   |false=>
    rw [hyb] at E2 d4
    go_wp2_with fail
    refine (a0a _ _ w3).mono ?_;rintro e w4 ⟨rfl,rfl⟩
    go_wp2
    go_ret2
    exact ⟨by rw [E.out,E2.out];rfl,Hm03.out⟩
def Cnd.holds (c:Cnd) (v:V):Bool:=
 if c.op=7 then true else if c.op=6 then (J6 v c.v).2&&(v.kind==2&&W8 v.text c.v.text) else if c.op=0 then (J6 v c.v).2&&(J6 v c.v).1==0 else
 if c.op=1 then (J6 v c.v).2&&(J6 v c.v).1 !=0 else if c.op=2 then (J6 v c.v).2&&decide ((J6 v c.v).1<0) else if c.op=3 then (J6 v c.v).2&&decide ((J6 v c.v).1<=0) else
 if c.op=4 then (J6 v c.v).2&&decide (0<(J6 v c.v).1) else if c.op=5 then (J6 v c.v).2&&decide (0<=(J6 v c.v).1) else false
theorem m6 {a b:Bool} (h:b=a):Ending.returned (.bool a)= .returned (.bool b):=by rw [h]
theorem a2I (c:Cnd) (v:V) (hc:c.v.text.size<=9223372036854775807) (hv:v.text.size<=9223372036854775807) (w:World):
 Calls Tryz.prog 121 #[.agg c.cells.toArray,.agg v.cells.toArray] w fun e w'=>e= .returned (.bool (c.holds v))/\Mod (fun _=>False) w w':=by
 obtain ⟨wa,hwa,hmwa,hgwa,hzwa⟩:=e8 w (.cells c.cells.toArray 132);obtain ⟨wb,hwb,hmwb,hgwb,hzwb⟩:=e8 wa (.cells v.cells.toArray 68);have hmb:=hmwa.trans hmwb (fun _ _ h=>h);have hgA:=hmwb.heap hgwa (fun h=>h);have hcm:=a2H v c.v wb;obtain ⟨R,hR⟩:∃R,c.holds v=R:=⟨_,rfl⟩;rw [hR];unfold Cnd.holds at hR;obtain ⟨⟨n,ok⟩,hn⟩:∃p,J6 v c.v=p:=⟨_,rfl⟩;rw [hn] at hcm hR;simp only at hcm hR;have hpf:=fun wx=>Z9 v.text c.v.text hv hc wx;have hlz:w.heap.size<wa.heap.size:=by omega
 obtain ⟨Hwa,Hwb,Hmb,HgA,Hgwb,Hcm,HR,Hn,Hpf⟩:=zh9 hwa hwb hmb hgA hgwb hcm hR hn hpf;clear hwa hwb hmb hgA hgwb hcm hR hn hpf hmwa hmwb hgwa hzwa hzwb hc hv
 go_enter Tryz.func121,Tryz.ntmps121
 go_wp2_with (first|(rw [show w.alloc _=wa from Hwa.out])|(rw [show wa.alloc _=wb from Hwb.out])|((with_reducible refine d9 68 (.tmp 3) ?_);refine ⟨wa.heap.size,0,rfl,v.cells,e7.row Hgwb.out,by kernel_rfl,by kernel_rfl, ?_⟩)|((with_reducible refine d9 68 (.tmp 9) ?_);refine ⟨w.heap.size,2,rfl,c.v.cells,Z7 HgA.out,by kernel_rfl,by kernel_rfl, ?_⟩)|fail)
 refine Hcm.out.mono ?_;rintro e w2 ⟨rfl,hm2⟩;have hA2:=hm2.heap HgA.out (fun h=>h);have hB2:=hm2.heap Hgwb.out (fun h=>h);have hm02:=Hmb.out.trans hm2 (fun _ _ h=>h);have c1:w2.cell? ⟨w.heap.size,1,none⟩=some (.int .i64 c.op):=d6 hA2 rfl;have c5:w2.cell? ⟨w.heap.size,5,none⟩=some (.string c.v.text):=d6 hA2 rfl;have d0:w2.cell? ⟨wa.heap.size,0,none⟩=some (.int .i64 v.kind):=d6 hB2 rfl;have d3:w2.cell? ⟨wa.heap.size,3,none⟩=some (.string v.text):=d6 hB2 rfl;have hpf2:=Hpf.out w2;obtain ⟨Hm02,Hpf2⟩:=zh2 hm02 hpf2;clear hm02 hpf2 hm2 hA2 hB2 Hcm HgA Hgwb Hpf Hwa Hwb Hmb
 cases ok with
 |false=>
  go_wp2
  all_goals (go_ret;refine ⟨m6 (HR.out.symm.trans (by (try simp only [beq_iff_eq,beq_eq_false_iff_ne,ne_eq] at*);simp [*])),Hm02.out⟩)
 | true=>
  cases hvk:v.kind==2 with
  |false=>
   go_wp2
   all_goals (go_ret;refine ⟨m6 (HR.out.symm.trans (by (try simp only [beq_iff_eq,beq_eq_false_iff_ne,ne_eq] at*);simp [*])),Hm02.out⟩)
  |true=>
   go_wp2_with (refine Hpf2.out.mono ?_;rintro e w3 ⟨rfl,rfl⟩)
   all_goals (go_ret;refine ⟨m6 (HR.out.symm.trans (by (try simp only [beq_iff_eq,beq_eq_false_iff_ne,ne_eq] at*);simp [*])),Hm02.out⟩)
theorem N1 {P:Program} (w:World) (dT sT ty elem:TypeId) (sz g o dLen dCap:Nat) (a:Addr) (sLen sCap:Nat) (cs:List Value) (cur:Array Value) (t:TypeId)
 (hg:w.heap[g]? =some (.cells cur t (0,0))) (hu:P.underlying dT=some (.slice elem)) (hs:(P.info? elem).map (·.size)=some sz) (hn:cs.length=Nat.min sLen dLen*sz)
 (hsrc:∀j v,cs[j]? =some v->w.cell? (a.add j)=some v) (hl:o+cs.length<=cur.size) (h1:∀v∈cs,v.oneCell'=true):
 (Builtin.copy_ #[dT,sT] ty #[.slice (some ⟨g,o,none⟩) dLen dCap,.slice (some a) sLen sCap]).run P w= .ok (goInt (Nat.min sLen dLen)) (w.setRow g (cur.toList.take o++cs++cur.toList.drop (o+cs.length)).toArray):=by
 have hld:=run_loadCells_list (P:=P) w a cs hsrc;have hst:=run_storeCells_at P g o t cs 0 cur w hg (by simpa using hl) h1;simp only [Nat.add_zero] at hst
 cases hq:P.info? elem with
 |none=>simp [hq] at hs
 |some i=>
  have hi:i.size=sz:=by simpa [hq] using hs
  simp [Builtin.copy_,run_underlying hu,Builtin.lenOf,Builtin.firstCells,sizeOf,typeInfo,hq,hi,<-hn,hld,hst]
section
variable {P:Program} {w:World} {ops:Array Oper} {rest:List Oper} {a:Act} {Q:Exit->Act->World->Prop} {d:Option Tmp} {tp:TypeId} {pos:String} {af:Array Edge}
theorem X9 {o:Oper} {K:Act->World->Prop} (d s:Operand) (t t':TypeId) (ho:o.op= .call {callee:= .builtin .copy,args:=#[d,s],argTypes:=#[t,t']})
 {v':Value} {w':World} (hr:(Builtin.copy_ #[t,t'] o.type #[a.eval d,a.eval s]).run P w= .ok v' w') (h:K (a.put o.dst v') w'):o.wp P a w K Q:=by
 unfold Oper.wp execOp;simp only [ho,resolve,invoke,builtin,Sem.run_bind,Sem.run_pure,Result.andThen_ok,List.map_toArray,List.map_cons,List.map_nil,hr];exact h
theorem W9 {at1:Array TypeId} (x s:Operand)
 (h:∃(t t':TypeId),at1=#[t,t']/\∃(v':Value) (w':World),(Builtin.copy_ #[t,t'] tp #[a.eval x,a.eval s]).run P w= .ok v' w'/\wpList P ops Q rest (a.put d v') w'):
 wpList P ops Q (⟨d,.call {callee:= .builtin .copy,args:=#[x,s],argTypes:=at1},tp,pos,af,none⟩::rest) a w:=by
 obtain ⟨t,t',rfl,v',w',hr,h⟩:=h;exact wpList_plain rfl fun _ hK=>X9 x s t t' rfl hr (hK _ _ h)
theorem a0V {at1:Array TypeId} (x s:Operand)
 (h:∃(t t':TypeId),at1=#[t,t']/\∃(v':Value) (w':World),(Builtin.append_ #[t,t'] tp #[a.eval x,a.eval s]).run P w= .ok v' w'/\wpList P ops Q rest (a.put d v') w'):
 wpList P ops Q (⟨d,.call {callee:= .builtin .append,args:=#[x,s],argTypes:=at1},tp,pos,af,none⟩::rest) a w:=by
 obtain ⟨t,t',rfl,v',w',hr,h⟩:=h;refine wpList_plain rfl fun K hK=> ?_;unfold Oper.wp execOp;simp only [resolve,invoke,builtin,Sem.run_bind,Sem.run_pure,Result.andThen_ok,List.map_toArray,List.map_cons,List.map_nil,hr];exact hK _ _ h
end
theorem a2J {P:Program} {w:World} (ty:TypeId) (g off:Nat) (cur:Array Value) (t:TypeId) (cs:List Value) (hg:w.heap[g]? =some (.cells cur t (0,0))) (hl:off+cs.length<=cur.size)
 (hi:(P.info? ty).map (·.size)=some cs.length) (h1:∀u∈cs,u.oneCell'=true):
 (storeVar ty ⟨g,off,none⟩ (.agg cs.toArray)).run P w= .ok () (w.setRow g (cur.toList.take off++cs++cur.toList.drop (off+cs.length)).toArray):=by
 have hst:=run_storeCells_at P g off t cs 0 cur w hg (by omega) h1
 cases hq:P.info? ty with
 |none=>simp [hq] at hi
 |some i=>
  have hs:i.size=cs.length:=by simpa [hq] using hi
  simp only [Nat.add_zero] at hst;simp [storeVar,Value.cells,sizeOf,typeInfo,hq,hs,hst]
theorem r5 {P:Program} {w:World} {ops:Array Oper} {rest:List Oper} {a:Act} {Q:Exit->Act->World->Prop} {d:Option Tmp} {tp:TypeId} {pos:String} {af:Array Edge} (ty:TypeId) (x y:Operand)
 (h:∃g off,a.eval x= .pointer (some ⟨g,off,none⟩)/\∃(cur:Array Value) (t:TypeId),w.heap[g]? =some (.cells cur t (0,0))/\∃cs:List Value,a.eval y= .agg cs.toArray/\off+cs.length<=cur.size/\(P.info? ty).map (·.size)=some cs.length/\cs.all (·.oneCell')=true/\
   ∀w',w'=w.setRow g (cur.toList.take off++cs++cur.toList.drop (off+cs.length)).toArray->Mod (fun k=>k=g) w w'->wpList P ops Q rest (a.put d undef) w'):wpList P ops Q (⟨d,.store ty x y,tp,pos,af,none⟩::rest) a w:=by
 obtain ⟨g,off,hx,cur,t,hg,cs,hy,hl,hi,h1,h⟩:=h;refine wpList_plain rfl fun K hK=> ?_;have hr:=a2J (P:=P) (w:=w) ty g off cur t cs hg hl hi (a8E h1);unfold Oper.wp execOp;simp only [hx,hy,Instr.storeAt,Instr.sureAddr,Sem.run_bind,Sem.run_pure,Result.andThen_ok,hr];exact hK _ _ (h _ rfl ((Mod.refl (fun k=>k=g) w).setRow (fun _=>rfl) _))
theorem a1w {P:Program} (w:World) (t u ty e:TypeId) (i:TypeInfo) (z:Value) (ht:P.underlying t=some (.slice e)) (hu:P.underlying u=some (.int .i64)) (hi:P.info? e=some i) (hz:i.zero=some z)
 (sz:Nat) (hsize:i.size=sz) (hzs:z.cells.size=sz)
 (g off n cap:Nat) (xs:List Value) (hx:j0 w sz (.slice (some ⟨g,off,none⟩) n cap) n xs) (m:Nat) (hm:m<=1000000) (hno:cap<n+m) (hbytes:(n+m)*i.bytes<=140737488355328) (hmax:n+m<=maxLen):
 ∃c,n+m<=c/\c<=maxLen/\(Builtin.append_ #[t,u] ty #[.slice (some ⟨g,off,none⟩) n cap,.int .i64 (m:Int)]).run P w=
  .ok (.slice (some ⟨w.heap.size,0,none⟩) (n+m) c) (w.drew.alloc (.cells (xs.toArray++(Builtin.zeroCells z.cells m++Builtin.zeroCells z.cells (c - (n+m)))) e)):=by
 have hai:∀w:World,(asInt (Value.int .i64 (m:Int))).run P w= .ok (m:Int) w:=fun _=>rfl;have hm0:¬((m:Int)<0):=by omega
 have hm48:¬(281474976710656<(m:Int)):=by omega
 have hwr:IntKind.i64.wrap (m:Int)=m:=by rw [IntKind.wrap_i64];omega
 have hge:=grownCap_ge w (n+m) cap e;have hcm:grownCap w (n+m) cap e<=maxLen:=grownCap_le_maxLen w (n+m) cap e hmax;refine ⟨grownCap w (n+m) cap e,hge,hcm, ?_⟩;obtain ⟨hxl,a2,c2,hv2,hnc,_,hcc⟩:=hx;cases hv2
 have hcc:∀j u,xs[j]? =some u->w.cell? ⟨g,off+j,none⟩=some u:=fun j u hu=>by
  have hn0:0<n:=by
   rcases Nat.eq_zero_or_pos n with h|h
   ·have h1:=(zz6 hu).1;rw [hxl,h,Nat.zero_mul] at h1;omega
   exact h
  obtain ⟨g2,off2,he,h⟩:=hcc _ rfl hn0;cases he
  exact h j u hu
 have hfo:=run_firstCells_some (P:=P) w.drew sz n ⟨g,off,none⟩ n cap xs hxl (fun j u hu=>by rw [t7];exact hcc j u hu);have hn:¬(n+m<=cap):=by omega
 have h0:m≠0:=by omega
 have h63':¬(9223372036854775807<((n:Int)+(m:Int))):=by simp only [maxLen] at hmax;omega
 have h48':¬(281474976710656<Builtin.nextslicecap (n+m) cap*i.bytes):=by have:=growslice_fits (bytes:=i.bytes) hno hbytes;omega
 have h48m:¬(281474976710656<(m:Int)*(i.bytes:Int)):=by
  have h1:m*i.bytes<=(n+m)*i.bytes:=Nat.mul_le_mul_right _ (by omega);have h2:((m*i.bytes:Nat):Int)=(m:Int)*(i.bytes:Int):=by rw [Int.natCast_mul]
  omega
 simp [Builtin.append_,run_underlying ht,run_underlying hu,sizeOf,typeInfo,zeroValue,hi,hz,hsize,hai,hwr,hm0,h48m,hn,h63',h48',Question.forced,hfo,newRow,grownCap,Array.append_assoc];intro h;have hz0:Builtin.zeroCells z.cells m=#[]:=Array.eq_empty_of_size_eq_zero (by rw [size_zeroCells,hzs];exact h);rw [hz0,Array.empty_append]
theorem a99 {α:Type} {L A X B C:List α} {off n:Nat} (hoff:off<=L.length) (h:(L.drop off).take n=A++(X++B)) (hC:C.length=X.length) (hn:n=A.length+(X.length+B.length)):
 ((L.take (off+A.length)++C++L.drop (off+A.length+C.length)).drop off).take n=A++(C++B):=by
 obtain ⟨R,hR⟩:∃R,L=L.take off++((A++(X++B))++R):=⟨(L.drop off).drop n,by rw [<-h,List.take_append_drop,List.take_append_drop]⟩;have hP:(L.take off).length=off:=by rw [List.length_take];omega
 generalize L.take off=Q at hR hP
 have e1:L.take (off+A.length)=Q++A:=by
  rw [hR,show Q++(A++(X++B)++R)=(Q++A)++(X++(B++R)) by simp,show off+A.length=(Q++A).length by rw [zz4,hP],List.take_left]
 have e2:L.drop (off+A.length+C.length)=B++R:=by
  rw [hR,show Q++(A++(X++B)++R)=((Q++A)++X)++(B++R) by simp,show off+A.length+C.length=((Q++A)++X).length by rw [zz4,zz4,hP,hC],List.drop_left]
 rw [e1,e2,show Q++A++C++(B++R)=Q++((A++(C++B))++R) by simp]
 conv=>lhs;arg 2;arg 1;rw [<-hP]
 rw [List.drop_left,show n=(A++(C++B)).length by rw [zz4,zz4,hC];exact hn,List.take_left]
theorem a6v {α:Type} {L A B X:List α} {off:Nat} (hoff:off+A.length+B.length+X.length<=L.length) (h:(L.drop off).take (A.length+B.length)=A++B):
 let L1:=L.take (off+A.length+X.length)++B++L.drop (off+A.length+X.length+B.length)
 let L2:=L1.take (off+A.length)++X++L1.drop (off+A.length+X.length)
 (L2.drop off).take (A.length+X.length+B.length)=A++(X++B)/\L2.length=L.length:=by
 intro L1 L2;obtain ⟨R,hR⟩:∃R,L=L.take off++((A++B)++R):=⟨(L.drop off).drop (A.length+B.length),by rw [<-h,List.take_append_drop,List.take_append_drop]⟩;have hP:(L.take off).length=off:=by rw [List.length_take];omega
 generalize L.take off=Q at hR hP
 have hlen:L.length=off+A.length+B.length+R.length:=by rw [hR];simp;omega
 obtain ⟨Y,hY⟩:∃Y,Y=(B++R).take X.length:=⟨_,rfl⟩;have hYl:Y.length=X.length:=by rw [hY,List.length_take,zz4];omega
 have e1:L.take (off+A.length+X.length)=Q++(A++Y):=by
  rw [hR,show Q++(A++B++R)=(Q++A)++(B++R) by simp only [zz12],show off+A.length+X.length=(Q++A).length+X.length by rw [zz4,hP],List.take_length_add_append,<-hY];simp
 obtain ⟨Z,hZ⟩:∃Z,L.drop (off+A.length+X.length+B.length)=Z:=⟨_,rfl⟩;have h1:L1=Q++(A++(Y++(B++Z))):=by simp only [L1,e1,hZ];simp
 have e2:L1.take (off+A.length)=Q++A:=by
  rw [h1,show Q++(A++(Y++(B++Z)))=(Q++A)++(Y++(B++Z)) by simp,show off+A.length=(Q++A).length by rw [zz4,hP],List.take_left]
 have e3:L1.drop (off+A.length+X.length)=B++Z:=by
  rw [h1,show Q++(A++(Y++(B++Z)))=(Q++(A++Y))++(B++Z) by simp,show off+A.length+X.length=(Q++(A++Y)).length by rw [zz4,zz4,hP,hYl];omega,List.drop_left]
 have h2:L2=Q++((A++(X++B))++Z):=by simp only [L2,e2,e3];simp
 refine ⟨?_, ?_⟩
 ·rw [h2,show A.length+X.length+B.length=(A++(X++B)).length by rw [zz4,zz4];omega]
  conv=>lhs;arg 2;arg 1;rw [<-hP]
  rw [List.drop_left,List.take_left]
 have hZl:Z.length=L.length - (off+A.length+X.length+B.length):=by rw [<-hZ,List.length_drop]
 rw [h2];simp only [zz4,hZl,hP];omega
end
section
open Go.RowKit
def Cnd.voidB (c:Cnd):Bool:=(c.op !=7&&c.v.void)||(c.op==6&&c.v.kind !=2)
theorem a1x (c:Cnd) (w:World):Calls Tryz.prog 147 #[.agg c.cells.toArray] w fun e w'=>e= .returned (.bool c.voidB)/\Mod (fun _=>False) w w':=by
 obtain ⟨wa,hwa,hmwa,hgwa,hzwa⟩:=e8 w (.cells c.cells.toArray 132);have c1:wa.cell? ⟨w.heap.size,1,none⟩=some (.int .i64 c.op):=d6 hgwa rfl;have c2:wa.cell? ⟨w.heap.size,2,none⟩=some (.int .i64 c.v.kind):=d6 hgwa rfl;have c3:wa.cell? ⟨w.heap.size,3,none⟩=some (.int .i64 c.v.int):=d6 hgwa rfl;have c4:wa.cell? ⟨w.heap.size,4,none⟩=some (.float .f64 c.v.num):=d6 hgwa rfl;have c5:wa.cell? ⟨w.heap.size,5,none⟩=some (.string c.v.text):=d6 hgwa rfl;have c6:wa.cell? ⟨w.heap.size,6,none⟩=some (.bool c.v.yes):=d6 hgwa rfl;have hvv:=V7 c.v wa;obtain ⟨R,hR⟩:∃R,c.voidB=R:=⟨_,rfl⟩;rw [hR];unfold Cnd.voidB at hR;obtain ⟨vd,hvd⟩:∃b,c.v.void=b:=⟨_,rfl⟩;rw [hvd] at hvv hR;obtain ⟨Hwa,Hmwa,Hgwa,Hvv,HR⟩:=zh5 hwa hmwa hgwa hvv hR;clear hwa hmwa hgwa hvv hR hvd hzwa
 cases h7:c.op==7 with
 |true=>
  have h7n:(c.op !=7)=false:=by simp [bne,h7]
  have h6:(c.op==6)=false:=by rw [beq_iff_eq] at h7;rw [h7];rfl
  go_enter Tryz.func147,Tryz.ntmps147
  go_wp2_with (first|(rw [show w.alloc _=wa from Hwa.out])|fail)
  go_ret;exact ⟨m6 (HR.out.symm.trans (by simp [*])),Hmwa.out⟩
 | false=>
  have h7n:(c.op !=7)=true:=by simp [bne,h7]
  go_enter Tryz.func147,Tryz.ntmps147
  go_wp2_with (first|(rw [show w.alloc _=wa from Hwa.out])|fail)
  refine Hvv.out.mono ?_;rintro e w2 ⟨rfl,hm2⟩;have hg2:=hm2.heap Hgwa.out (fun h=>h);have d1:w2.cell? ⟨w.heap.size,1,none⟩=some (.int .i64 c.op):=d6 hg2 rfl;have d2:w2.cell? ⟨w.heap.size,2,none⟩=some (.int .i64 c.v.kind):=d6 hg2 rfl;have Hm2:=Lib.hid (Hmwa.out.trans hm2 (fun _ _ h=>h));clear hm2 hg2 c1 c2 c3 c4 c5 c6
  cases vd with
  |true=>
   go_wp2
   go_ret;exact ⟨m6 (HR.out.symm.trans (by simp [*])),Hm2.out⟩
  | false=>
   cases h6:c.op==6 with
   |true=>
    go_wp2
    go_ret;exact ⟨m6 (HR.out.symm.trans (by simp [*])),Hm2.out⟩
   |false=>
    go_wp2
    go_ret;exact ⟨m6 (HR.out.symm.trans (by simp [*])),Hm2.out⟩
theorem a8I (F:FuncId) (cap:Array Value) (hF:∀args w,(callFunc F args).run Tryz.prog w= .ok (.enter F args) w) (p:Cnd->Bool) (w:World) (v:Value) (l:List Cnd) (hv:j0 w 7 v l.length (l6 l)) (hll:l.length<=9223372036854775807)
 (hp:∀c∈l,∀wx,Mod (fun _=>False) w wx->Calls Tryz.prog F (#[.agg c.cells.toArray]++cap) wx fun e w'=>e= .returned (.bool (p c))/\Mod (fun _=>False) wx w'):
 Calls Tryz.prog 176 #[v,.func (.func F) #[] cap] w fun e w'=>∃n:Int,e= .returned (.int .i64 n)/\(decide (0<=n)=l.any p)/\Mod (fun _=>False) w w':=by
 obtain ⟨a,ca,rfl,hcap⟩:∃a c,v= .slice a l.length c/\l.length<=c:=by obtain ⟨-,a,c,h,h2, -⟩:=hv;exact ⟨a,c,h,h2⟩
 have hll':(l.length:Int)<=9223372036854775807:=by omega
 have hcap':(l.length:Int)<=ca:=by omega
 obtain ⟨R,hR⟩:∃R,l.any p=R:=⟨_,rfl⟩;rw [hR];obtain ⟨Hv,Hp,HR,HF⟩:=zh4 hv hp hR hF;clear hv hp hR hF hll
 go_enter Tryz.func176,Tryz.ntmps176
 go_wp2_with fail
 go_loopw [8] (fun i wr=>∃j:Nat,i= .int .i64 j/\j<=l.length/\Mod (fun _=>False) w wr/\(∀(k:Nat) (x:Cnd),k<j->l[k]? =some x->p x=false)) (fun i _=>l.length - (intOf i).toNat)
 case atStart=>exact ⟨0,rfl,Nat.zero_le _,Mod.refl _ _,fun k x hk=>by omega⟩
 case round=>
  obtain ⟨j,rfl,hj,hmr,hall⟩:=hrel;by_cases hlt:j<l.length
  ·have hlt':(j:Int)<l.length:=by omega
   obtain ⟨x,hxj⟩:∃x,l[j]? =some x:=⟨_,zz5 hlt⟩;have hxm:=zz8 hxj;obtain ⟨g,off,rfl,hf⟩:∃g off,a=some ⟨g,off,none⟩/\e7 wr g (off+j*7) x.cells:=J2 (Hv.out.mod hmr (fun _ _ h=>h)) hxj;have hpx:=Hp.out x hxm wr hmr;obtain ⟨Hmr,Hall,Hxj,Hxm,Hf,Hpx⟩:=zh6 hmr hall hxj hxm hf hpx;clear hmr hall hxj hxm hf hpx;have hF2:=HF.out
   go_wp2_with (first|((with_reducible refine d9 132 (.tmp 14) ?_);refine ⟨g,off+j*7,rfl,x.cells,Hf.out,by kernel_rfl,by kernel_rfl, ?_⟩)|fail)
   refine Hpx.out.mono ?_;rintro e w3 ⟨rfl,hm3⟩;have Hm3:=Lib.hid (Hmr.out.trans hm3 (fun _ _ h=>h));clear hm3 hF2
   cases hs:p x with
   | false=>
    have Hs:=zh hs;clear hs
    go_wp2_with fail
    go_roundw
    case rel=>
     refine ⟨j+1,by go_num,hlt,Hm3.out,fun k x' hk hx'=> ?_⟩;rcases Nat.lt_succ_iff_lt_or_eq.1 hk with hk|rfl
     ·exact Hall.out k x' hk hx'
     rw [Hxj.out] at hx';cases hx';exact Hs.out
    case measure=>simp [intOf];omega
   |true=>
    have Hs:=zh hs;clear hs
    go_wp2
    go_ret;refine ⟨(j:Int),rfl, ?_,Hm3.out⟩;rw [<-HR.out,List.any_eq_true.2 ⟨x,Hxm.out,Hs.out⟩];exact decide_eq_true (by omega)
  obtain rfl:j=l.length:=by omega
  obtain ⟨Hmr,Hall⟩:=zh2 hmr hall;clear hmr hall
  go_wp2
  go_ret;refine ⟨-1,rfl, ?_,Hmr.out⟩
  rw [<-HR.out,List.any_eq_false.2 fun x hx=>by
   obtain ⟨k,hk⟩:=List.mem_iff_getElem?.1 hx;rw [Hall.out k x (zz6 hk).1 hk]
   decide]
  rfl
theorem a1Y (F:FuncId) (cap:Array Value) (hF:∀args w,(callFunc F args).run Tryz.prog w= .ok (.enter F args) w) (p:Cnd->Bool) (w:World) (v:Value) (l:List Cnd) (hv:j0 w 7 v l.length (l6 l)) (hll:l.length<=9223372036854775807)
 (hp:∀c∈l,∀wx,Mod (fun _=>False) w wx->Calls Tryz.prog F (#[.agg c.cells.toArray]++cap) wx fun e w'=>e= .returned (.bool (p c))/\Mod (fun _=>False) wx w'):
 Calls Tryz.prog 132 #[v,.func (.func F) #[] cap] w fun e w'=>e= .returned (.bool (l.any p))/\Mod (fun _=>False) w w':=by
 have Hi:=Lib.hid (a8I F cap hF p w v l hv hll hp);obtain ⟨R,hR⟩:∃R,l.any p=R:=⟨_,rfl⟩;rw [hR] at Hi⊢;clear hF hv hp hR
 go_enter Tryz.func132,Tryz.ntmps132
 go_wp2_with fail
 refine Hi.out.mono ?_;rintro e w3 ⟨n,rfl,hn,hm3⟩;obtain ⟨Hn,Hm3⟩:=zh2 hn hm3;clear hn hm3
 go_wp2
 go_ret;exact ⟨m6 Hn.out.symm,Hm3.out⟩
theorem b0a:∀(args:Array Value) (W:World),Sem.run Tryz.prog (callFunc 147 args) W= .ok (.enter 147 args) W:=fun args w=>by simp [go_sem]
theorem a5e (w:World) (sc:ByteArray) (cv:Value) (l:List Cnd) (hv:j0 w 7 cv l.length (l6 l)) (hll:l.length<=9223372036854775807):
 Calls Tryz.prog 131 #[.agg #[.string sc,cv]] w fun e w'=>e= .returned (.bool (l.any Cnd.voidB))/\Mod (fun _=>False) w w':=by
 obtain ⟨a,cap,rfl⟩:∃a c,cv= .slice a l.length c:=by obtain ⟨-,a,c,h, -⟩:=hv;exact ⟨a,c,h⟩
 obtain ⟨wa,hwa,hmwa,hgwa,hzwa⟩:=e8 w (.cells #[.string sc,.slice a l.length cap] 33);have c1:wa.cell? ⟨w.heap.size,1,none⟩=some (.slice a l.length cap):=d6 hgwa rfl;have hct:=a1Y 147 #[] b0a Cnd.voidB wa _ l (hv.mod hmwa (fun _ _ h=>h)) hll (fun c _ wx _=>a1x c wx);obtain ⟨Hwa,Hmwa,Hct⟩:=zh3 hwa hmwa hct;clear hwa hmwa hct hgwa hzwa hv
 go_enter Tryz.func131,Tryz.ntmps131
 go_wp2_with (first|(rw [show w.alloc _=wa from Hwa.out])|fail)
 refine Hct.out.mono ?_;rintro e w3 ⟨rfl,hm3⟩;have Hm3:=Lib.hid (Hmwa.out.trans hm3 (fun _ _ h=>h));clear hm3
 go_wp2
 go_ret;exact ⟨rfl,Hm3.out⟩
theorem a6w (f:Cnd->Bool) (w:World) (sc:ByteArray) (cv:Value) (l:List Cnd) (es:ByteArray) (ev:Value) (ea:Option Addr) (en ec:Nat) (hev:ev= .slice ea en ec) (hv:j0 w 7 cv l.length (l6 l)) (hll:l.length<=9223372036854775807) (hsc:sc.size<=9223372036854775807) (hes:es.size<=9223372036854775807)
 (hm:∀c∈l,∀wx,Mod (fun _=>False) w wx->Calls Tryz.prog 120 #[.agg c.cells.toArray,.agg #[.string es,ev]] wx fun e w'=>e= .returned (.bool (f c))/\Mod (fun _=>False) wx w'):
 Calls Tryz.prog 91 #[.agg #[.string sc,cv],.agg #[.string es,ev]] w fun e w'=>e= .returned (.bool (l.all f&&s6 es sc))/\Mod (fun _=>False) w w':=by
 subst hev;obtain ⟨a,cap,rfl,hcap⟩:∃a c,cv= .slice a l.length c/\l.length<=c:=by obtain ⟨-,a,c,h,h2, -⟩:=hv;exact ⟨a,c,h,h2⟩
 have hll':(l.length:Int)<=9223372036854775807:=by omega
 have hcap':(l.length:Int)<=cap:=by omega
 obtain ⟨wa,hwa,hmwa,hgwa,hzwa⟩:=e8 w (.cells #[.string sc,.slice a l.length cap] 33);obtain ⟨wb,hwb,hmwb,hgwb,hzwb⟩:=e8 wa (.cells #[.string es,.slice ea en ec] 46);have hmb:=hmwa.trans hmwb (fun _ _ h=>h);have hva:=hv.mod hmb (fun _ _ h=>h);have hg:=hmwb.heap hgwa (fun h=>h);have c0:wb.cell? ⟨w.heap.size,0,none⟩=some (.string sc):=d6 hg rfl;have c1:wb.cell? ⟨w.heap.size,1,none⟩=some (.slice a l.length cap):=d6 hg rfl;obtain ⟨R,hR⟩:∃R,(l.all f&&s6 es sc)=R:=⟨_,rfl⟩;rw [hR];have hqz:w.heap.size<wa.heap.size:=by omega
 obtain ⟨Hv,Hm,Hwa,Hwb,Hmb,Hgwa,Hgwb,Hva,HR,Hg,Hsc,Hes⟩:=zh12 hv hm hwa hwb hmb hgwa hgwb hva hR hg hsc hes;obtain ⟨Hmwa,Hmwb⟩:=zh2 hmwa hmwb;clear hv hm hwa hwb hmb hgwa hgwb hva hR hg hsc hes hmwa hmwb hzwa hzwb hll
 go_enter Tryz.func91,Tryz.ntmps91
 go_wp2_with (first|(rw [show w.alloc _=wa from Hwa.out])|(rw [show wa.alloc _=wb from Hwb.out])|fail)
 go_loopw [10] (fun i wr=>∃j:Nat,i= .int .i64 j/\j<=l.length/\Mod (fun _=>False) wb wr/\(∀(k:Nat) (x:Cnd),k<j->l[k]? =some x->f x=true)) (fun i _=>l.length - (intOf i).toNat)
 case atStart=>exact ⟨0,rfl,Nat.zero_le _,Mod.refl _ _,fun k x hk=>by omega⟩
 case round=>
  obtain ⟨j,rfl,hj,hmr,hall⟩:=hrel;by_cases hlt:j<l.length
  ·have hlt':(j:Int)<l.length:=by omega
   obtain ⟨x,hxj⟩:∃x,l[j]? =some x:=⟨_,zz5 hlt⟩;have hxm:=zz8 hxj;obtain ⟨g,off,rfl,hf⟩:∃g off,a=some ⟨g,off,none⟩/\e7 wr g (off+j*7) x.cells:=J2 (Hva.out.mod hmr (fun _ _ h=>h)) hxj;obtain ⟨wz,hwz,hmwz,hgwz,hzwz⟩:=e8 wr (.cells x.cells.toArray 132);have hmz:=hmr.trans hmwz (fun _ _ h=>h);have hge:=hmz.heap Hgwb.out (fun h=>h);have e0:wz.cell? ⟨wa.heap.size,0,none⟩=some (.string es):=d6 hge rfl;have e1:wz.cell? ⟨wa.heap.size,1,none⟩=some (.slice ea en ec):=d6 hge rfl;have hcr:=Hm.out x hxm wz (Hmb.out.trans hmz (fun _ _ h=>h));obtain ⟨Hmr,Hall,Hxj,Hxm,Hf,Hwz,Hmwz,Hgwz,Hmz,Hcr⟩:=zh10 hmr hall hxj hxm hf hwz hmwz hgwz hmz hcr;clear hmr hall hxj hxm hf hwz hmwz hgwz hmz hcr hzwz hge c0 c1
   go_wp2_with (first|((with_reducible refine d9 132 (.tmp 12) ?_);refine ⟨g,off+j*7,rfl,x.cells,Hf.out,by kernel_rfl,by kernel_rfl, ?_⟩)|((with_reducible refine d8 132 (.tmp 6) (.tmp 13) ?_);refine ⟨rfl,x.cells,rfl,rfl,by kernel_rfl,rfl, ?_⟩;rw [Hwz.out])|((with_reducible refine d9 132 (.tmp 6) ?_);refine ⟨wr.heap.size,0,rfl,x.cells,e7.row Hgwz.out,by kernel_rfl,by kernel_rfl, ?_⟩)|fail)
   refine Hcr.out.mono ?_;rintro e w3 ⟨rfl,hm3⟩;have Hm3:=Lib.hid (Hmz.out.trans hm3 (fun _ _ h=>h));clear hm3 e0 e1
   cases hs:f x with
   | true=>
    have Hs:=zh hs;clear hs
    go_wp2_with fail
    go_roundw
    case rel=>
     refine ⟨j+1,by go_num,hlt,Hm3.out,fun k x' hk hx'=> ?_⟩;rcases Nat.lt_succ_iff_lt_or_eq.1 hk with hk|rfl
     ·exact Hall.out k x' hk hx'
     rw [Hxj.out] at hx';cases hx';exact Hs.out
    case measure=>simp [intOf];omega
   |false=>
    have Hs:=zh hs;clear hs
    go_wp2
    go_ret;refine ⟨?_,Hmb.out.trans Hm3.out (fun _ _ h=>h)⟩;rw [<-HR.out,List.all_eq_false.2 ⟨x,Hxm.out,by rw [Hs.out];decide⟩,Bool.false_and];rfl
  obtain rfl:j=l.length:=by omega
  have hgr:=hmr.heap Hg.out (fun h=>h);have hge:=hmr.heap Hgwb.out (fun h=>h);have c0:wr.cell? ⟨w.heap.size,0,none⟩=some (.string sc):=d6 hgr rfl;have e0:wr.cell? ⟨wa.heap.size,0,none⟩=some (.string es):=d6 hge rfl;have hun:=a0U es sc Hes.out Hsc.out wr
  have hfr:R=s6 es sc:=by
   rw [<-HR.out,List.all_eq_true.2 fun x hx=>by
    obtain ⟨k,hk⟩:=List.mem_iff_getElem?.1 hx
    exact hall k x (zz6 hk).1 hk,Bool.true_and]
  have hmr2:=Hmb.out.trans hmr (fun _ _ h=>h);obtain ⟨Hmr2,Hun,Hfr⟩:=zh3 hmr2 hun hfr;clear hmr2 hun hfr hmr hall hgr hge
  go_wp2_with fail
  refine Hun.out.mono ?_;rintro e w3 ⟨rfl,rfl⟩
  go_wp2
  go_ret;refine ⟨?_,Hmr2.out⟩;rw [Hfr.out];rfl
def A5 (l:List Ru) (tenant:Int) (who:ByteArray):Option Int:=(l.reverse.find? fun r=>r.of 0 tenant who).map Ru.broker
theorem a5f {l:List Ru} {tenant:Int} {who:ByteArray} {j:Nat} {x:Ru} (hx:l[j]? =some x) (h:x.of 0 tenant who=true) (hr:∀(k:Nat) (y:Ru),j<k->l[k]? =some y->y.of 0 tenant who=false):A5 l tenant who=some x.broker:=by
 have hj:=(zz6 hx).1
 have hs:l=l.take j++x::l.drop (j+1):=by
  conv=>lhs;rw [<-List.take_append_drop j l,List.drop_eq_getElem_cons hj]
  rw [zz5 hj] at hx;cases hx;rfl
 unfold A5
 rw [hs,List.reverse_append,List.reverse_cons,zz12,List.find?_append,List.find?_eq_none.2 (fun y hy=>by
  obtain ⟨k,hk⟩:=List.mem_iff_getElem?.1 (List.mem_reverse.1 hy);rw [List.getElem?_drop] at hk;rw [hr _ y (by omega) hk]
  decide)]
 simp [h]
theorem a5g {l:List Ru} {tenant:Int} {who:ByteArray} (hr:∀(k:Nat) (y:Ru),l[k]? =some y->y.of 0 tenant who=false):A5 l tenant who=none:=by
 unfold A5
 rw [List.find?_eq_none.2 (fun y hy=>by
  obtain ⟨k,hk⟩:=List.mem_iff_getElem?.1 (List.mem_reverse.1 hy);rw [hr k y hk]
  decide)]
 rfl
theorem a2r (w:World) (v:Value) (l:List Ru) (hv:K8 w v l) (hll:l.length<=9223372036854775807) (tenant:Int) (who:ByteArray):
 Calls Tryz.prog 85 #[v,.int .i64 tenant,.string who] w fun e w'=>e= .returned (.tuple #[.int .i64 ((A5 l tenant who).getD 0),.bool (A5 l tenant who).isSome])/\Mod (fun _=>False) w w':=by
 obtain ⟨a,cap,rfl,hcap⟩:∃a c,v= .slice a l.length c/\l.length<=c:=by obtain ⟨-,a,c,h,h2, -⟩:=hv.rd;exact ⟨a,c,h,h2⟩
 have hll':(l.length:Int)<=9223372036854775807:=by omega
 have hcap':(l.length:Int)<=cap:=by omega
 have hl0:(0:Int)<=l.length:=by omega
 obtain ⟨R,hR⟩:∃R,A5 l tenant who=R:=⟨_,rfl⟩;rw [hR];obtain ⟨Hv,HR⟩:=zh2 hv hR;clear hv hR hll
 go_enter Tryz.func85,Tryz.ntmps85
 go_wp2_with fail
 go_loopw [8] (fun i wr=>∃x:Int,i= .int .i64 x/\ -1<=x/\x<l.length/\Mod (fun _=>False) w wr/\(∀(k:Nat) (y:Ru),x<k->l[k]? =some y->y.of 0 tenant who=false)) (fun i _=>(intOf i+1).toNat)
 case atStart=>exact ⟨(l.length:Int) - 1,rfl,by omega,by omega,Mod.refl _ _,fun k y hk hy=>by have:=(zz6 hy).1;omega⟩
 case round=>
  obtain ⟨x,rfl,hx0,hxl,hmr,hall⟩:=hrel;by_cases hlt:0<=x
  ·obtain ⟨j,rfl⟩:∃j:Nat,x=j:=⟨x.toNat,by omega⟩;obtain ⟨r,hrj⟩:∃x,l[j]? =some x:=⟨_,zz5 (by omega)⟩;obtain ⟨g,off,rfl,hf⟩:∃g off,a=some ⟨g,off,none⟩/\e7 wr g (off+j*8) r.cells:=L0 (Hv.out.mod hmr) hrj;have hof:=b2u r 0 tenant who wr;obtain ⟨Hmr,Hall,Hrj,Hf,Hof⟩:=zh5 hmr hall hrj hf hof;clear hmr hall hrj hf hof hx0
   go_wp2_with (first|((with_reducible refine d9 35 (.tmp 18) ?_);refine ⟨g,off+j*8,rfl,r.cells,Hf.out,by kernel_rfl,by kernel_rfl, ?_⟩)|fail)
   refine Hof.out.mono ?_;rintro e w3 ⟨rfl,hm3⟩;have hf3:=Hf.out.mod hm3 (fun h=>h);have b3:w3.cell? ⟨g,off+j*8+3,none⟩=some (.int .i64 r.broker):=hf3 3 _ rfl;have Hm3:=Lib.hid (Hmr.out.trans hm3 (fun _ _ h=>h));clear hm3 hf3
   cases hs:r.of 0 tenant who with
   |true=>
    have Hs:=zh hs;clear hs
    go_wp2
    go_ret2
    refine ⟨?_,Hm3.out⟩;rw [<-HR.out,a5f Hrj.out Hs.out (fun k y hk hy=>Hall.out k y (by omega) hy)];rfl
   | false=>
    have Hs:=zh hs;clear hs
    go_wp2_with fail
    go_roundw
    case rel=>
     refine ⟨(j:Int) - 1,rfl,by omega,by omega,Hm3.out,fun k y hk hy=> ?_⟩;rcases Nat.lt_or_eq_of_le (show j<=k by omega) with hk|rfl
     ·exact Hall.out k y (by omega) hy
     rw [Hrj.out] at hy;cases hy;exact Hs.out
    case measure=>simp [intOf];try omega
  have hlt':x<0:=by omega
  obtain ⟨Hmr,Hall⟩:=zh2 hmr hall;clear hmr hall
  go_wp2
  go_ret2
  refine ⟨?_,Hmr.out⟩;rw [<-HR.out,a5g (fun k y hy=>Hall.out k y (by omega) hy)];rfl
theorem a5h (m:Ru->Bool) (w:World) (v:Value) (l:List Ru) (hv:K8 w v l) (hll:l.length<=9223372036854775807) (tenant:Int) (who:ByteArray) (es:ByteArray) (ea:Option Addr) (en ec:Nat)
 (hm:∀r∈l,∀wx,Mod (fun _=>False) w wx->Calls Tryz.prog 91 #[.agg #[.string r.sc,r.cv],.agg #[.string es,.slice ea en ec]] wx fun e w'=>e= .returned (.bool (m r))/\Mod (fun _=>False) wx w'):
 Calls Tryz.prog 55 #[v,.int .i64 tenant,.string who,.agg #[.string es,.slice ea en ec]] w fun e w'=>
  e= .returned (.bool ((A5 l tenant who).isSome&&l.any fun r=>r.of 1 tenant who&&m r))/\Mod (fun _=>False) w w':=by
 obtain ⟨a,cap,rfl,hcap⟩:∃a c,v= .slice a l.length c/\l.length<=c:=by obtain ⟨-,a,c,h,h2, -⟩:=hv.rd;exact ⟨a,c,h,h2⟩
 have hll':(l.length:Int)<=9223372036854775807:=by omega
 have hcap':(l.length:Int)<=cap:=by omega
 obtain ⟨wa,hwa,hmwa,hgwa,hzwa⟩:=e8 w (.cells #[.string es,.slice ea en ec] 46);have hva:=hv.mod hmwa;have hho:=a2r wa (.slice a l.length cap) l hva hll tenant who;have hqz:w.heap.size<wa.heap.size:=by omega
 obtain ⟨R,hR⟩:∃R,((A5 l tenant who).isSome&&l.any fun r=>r.of 1 tenant who&&m r)=R:=⟨_,rfl⟩;rw [hR];obtain ⟨Hv,Hm,Hwa,Hmwa,Hgwa,Hva,Hho,HR⟩:=zh8 hv hm hwa hmwa hgwa hva hho hR;clear hv hm hwa hmwa hgwa hva hho hR hzwa hll
 go_enter Tryz.func55,Tryz.ntmps55
 go_wp2_with (first|(rw [show w.alloc _=wa from Hwa.out])|fail)
 refine Hho.out.mono ?_;rintro e w1 ⟨rfl,hm1⟩;have hm01:=Hmwa.out.trans hm1 (fun _ _ h=>h);have hg1:=hm1.heap Hgwa.out (fun h=>h);obtain ⟨Hm01,Hg1⟩:=zh2 hm01 hg1;clear hm01 hg1 hm1 Hho
 cases hh:A5 l tenant who with
 |none=>
  have Hh:=zh hh;clear hh
  go_wp2
  go_ret;refine ⟨?_,Hm01.out⟩;rw [<-HR.out,Hh.out];rfl
 |some h0=>
 have hR2:(l.any fun r=>r.of 1 tenant who&&m r)=R:=by rw [<-HR.out,hh];rfl
 have HR2:=zh hR2;clear hR2 hh HR
 go_wp2_with fail
 go_loopw [24] (fun i wr=>∃j:Nat,i= .int .i64 j/\j<=l.length/\Mod (fun _=>False) w1 wr/\(∀(k:Nat) (x:Ru),k<j->l[k]? =some x->(x.of 1 tenant who&&m x)=false)) (fun i _=>l.length - (intOf i).toNat)
 case atStart=>exact ⟨0,rfl,Nat.zero_le _,Mod.refl _ _,fun k x hk=>by omega⟩
 case round=>
  obtain ⟨j,rfl,hj,hmr,hall⟩:=hrel;by_cases hlt:j<l.length
  ·have hlt':(j:Int)<l.length:=by omega
   obtain ⟨x,hxj⟩:∃x,l[j]? =some x:=⟨_,zz5 hlt⟩;have hxm:=zz8 hxj;have hm0r:=Hm01.out.trans hmr (fun _ _ h=>h);obtain ⟨g,off,rfl,hf⟩:∃g off,a=some ⟨g,off,none⟩/\e7 wr g (off+j*8) x.cells:=L0 (Hv.out.mod hm0r) hxj;obtain ⟨wz,hwz,hmwz,hgwz,hzwz⟩:=e8 wr (.cells x.cells.toArray 35);have hm0z:=hm0r.trans hmwz (fun _ _ h=>h);have hof:=b2u x 1 tenant who wz;have hlz:wr.heap.size<wz.heap.size:=by omega
   obtain ⟨Hmr,Hall,Hxj,Hxm,Hm0r,Hf,Hwz,Hmwz,Hgwz,Hm0z,Hof⟩:=zh11 hmr hall hxj hxm hm0r hf hwz hmwz hgwz hm0z hof;clear hmr hall hxj hxm hm0r hf hwz hmwz hgwz hm0z hof hzwz
   go_wp2_with (first|((with_reducible refine d9 35 (.tmp 26) ?_);refine ⟨g,off+j*8,rfl,x.cells,Hf.out,by kernel_rfl,by kernel_rfl, ?_⟩)|((with_reducible refine d8 35 (.tmp 12) (.tmp 27) ?_);refine ⟨rfl,x.cells,rfl,rfl,by kernel_rfl,rfl, ?_⟩;rw [Hwz.out])|((with_reducible refine d9 35 (.tmp 12) ?_);refine ⟨wr.heap.size,0,rfl,x.cells,e7.row Hgwz.out,by kernel_rfl,by kernel_rfl, ?_⟩)|fail)
   refine Hof.out.mono ?_;rintro e w3 ⟨rfl,hm3⟩;have hm03:=Hm0z.out.trans hm3 (fun _ _ h=>h);have hm13:=(Hmr.out.trans Hmwz.out (fun _ _ h=>h)).trans hm3 (fun _ _ h=>h);have hg3:=hm3.heap Hgwz.out (fun h=>h);have he3:=hm13.heap Hg1.out (fun h=>h);have b4:w3.cell? ⟨wr.heap.size,4,none⟩=some (.string x.sc):=d6 hg3 rfl;have b5:w3.cell? ⟨wr.heap.size,5,none⟩=some (.slice x.ca x.cs.length x.cc):=d6 hg3 rfl;have e0:w3.cell? ⟨w.heap.size,0,none⟩=some (.string es):=d6 he3 rfl;have e1:w3.cell? ⟨w.heap.size,1,none⟩=some (.slice ea en ec):=d6 he3 rfl;have hmt:=Hm.out x Hxm.out w3 hm03;obtain ⟨Hm03,Hm13,Hmt⟩:=zh3 hm03 hm13 hmt;clear hm03 hm13 hmt hm3 hg3 he3
   cases hs:x.of 1 tenant who with
   | false=>
    have Hs:=zh hs;clear hs
    go_wp2_with fail
    go_roundw
    case rel=>
     refine ⟨j+1,by go_num,hlt,Hm13.out,fun k x' hk hx'=> ?_⟩;rcases Nat.lt_succ_iff_lt_or_eq.1 hk with hk|rfl
     ·exact Hall.out k x' hk hx'
     rw [Hxj.out] at hx';cases hx';rw [Hs.out];rfl
    case measure=>simp [intOf];omega
   | true=>
    have Hs:=zh hs;clear hs
    go_wp2_with fail
    refine Hmt.out.mono ?_;rintro e w4 ⟨rfl,hm4⟩;have hm04:=Hm03.out.trans hm4 (fun _ _ h=>h);have hm14:=Hm13.out.trans hm4 (fun _ _ h=>h);obtain ⟨Hm04,Hm14⟩:=zh2 hm04 hm14;clear hm04 hm14 hm4 b4 b5 e0 e1
    cases ht:m x with
    | false=>
     have Ht:=zh ht;clear ht
     go_wp2_with fail
     go_roundw
     case rel=>
      refine ⟨j+1,by go_num,hlt,Hm14.out,fun k x' hk hx'=> ?_⟩;rcases Nat.lt_succ_iff_lt_or_eq.1 hk with hk|rfl
      ·exact Hall.out k x' hk hx'
      rw [Hxj.out] at hx';cases hx';rw [Hs.out,Ht.out];rfl
     case measure=>simp [intOf];omega
    |true=>
     have Ht:=zh ht;clear ht
     go_wp2
     go_ret;refine ⟨?_,Hm04.out⟩;rw [<-HR2.out,List.any_eq_true.2 ⟨x,Hxm.out,by rw [Hs.out,Ht.out];rfl⟩];rfl
  obtain rfl:j=l.length:=by omega
  have hm0r:=Hm01.out.trans hmr (fun _ _ h=>h)
  have hf:R=false:=by
   rw [<-HR2.out,List.any_eq_false.2 fun x hx=>by
    obtain ⟨k,hk⟩:=List.mem_iff_getElem?.1 hx;rw [hall k x (zz6 hk).1 hk]
    decide]
  obtain ⟨Hm0r,Hf⟩:=zh2 hm0r hf;clear hm0r hf hmr hall
  go_wp2
  go_ret;refine ⟨?_,Hm0r.out⟩;rw [Hf.out];rfl
end
end Go.Proofs.YtaenebdppkjhoaaGreatDoor
