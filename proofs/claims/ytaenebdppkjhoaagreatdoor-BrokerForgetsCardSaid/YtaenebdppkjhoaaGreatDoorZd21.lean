/- Lemmas of this claim. -/
import Derived.Test.YtaenebdppkjhoaaGreatDoorZd18
import Derived.Test.YtaenebdppkjhoaaGreatDoorZd11
namespace Go.Proofs.YtaenebdppkjhoaaGreatDoor
set_option maxRecDepth 20000
set_option maxHeartbeats 40000000
section
open Go.RowKit
theorem rvoid_at (v:V) (w:World):Calls Tryz.prog 100 #[.agg v.cells.toArray] w fun e w'=>e= .returned (.bool v.void)∧Mod (fun _=>False) w w':=by
 obtain ⟨kind,int,num,text,yes⟩:=v
 unfold V.void V.cells
 have h1:=float_neq 66 num num
 cases hk:kind==1 with
 |true=>
  go_enter Tryz.func100,Tryz.ntmps100
  go_wp2
  go_ret
  exact ⟨rfl,(Mod.refl _ w).alloc _⟩
 |false=>
  go_enter Tryz.func100,Tryz.ntmps100
  go_wp2
  go_ret
  exact ⟨rfl,(Mod.refl _ w).alloc _⟩
theorem cmp_drop:∀(k:Nat) (a b:List UInt8),a.take k=b.take k→Lib.compareBytes a b=Lib.compareBytes (a.drop k) (b.drop k)
 |0,_,_,_=>rfl
 |k+1,[],[],_=>rfl
 |k+1,[],b::t,h=>by simp at h
 |k+1,a::s,[],h=>by simp at h
 | k+1,a::s,b::t,h=>by
  simp only [List.take_succ_cons,List.cons.injEq] at h
  obtain ⟨rfl,h⟩:=h
  have hlt:¬a<a:=by
   show¬a.toNat<a.toNat
   omega
  rw [cmp_cons,if_neg hlt,if_neg hlt,cmp_drop k s t h,List.drop_succ_cons,List.drop_succ_cons]
theorem cmp_here {a b:List UInt8} {k:Nat} {x y:UInt8} (h:a.take k=b.take k) (hx:a[k]? =some x) (hy:b[k]? =some y) (hne:x≠y):Lib.compareBytes a b=if x<y then -1 else 1:=by
 rw [cmp_drop k a b h]
 obtain ⟨h1,rfl⟩:=List.getElem?_eq_some_iff.1 hx
 obtain ⟨h2,rfl⟩:=List.getElem?_eq_some_iff.1 hy
 rw [List.drop_eq_getElem_cons h1,List.drop_eq_getElem_cons h2,cmp_cons]
 by_cases hl:a[k]<b[k]
 ·rw [if_pos hl,if_pos hl]
 ·rw [if_neg hl,if_neg hl,if_pos]
  have hn:¬a[k].toNat<b[k].toNat:=hl
  have hd:a[k].toNat≠b[k].toNat:=fun h=>hne (UInt8.toNat.inj h)
  show b[k].toNat<a[k].toNat
  omega
theorem cmp_end {a b:List UInt8} {k:Nat} (h:a.take k=b.take k) (hk:a.length≤k∨b.length≤k):Lib.compareBytes a b=if a.length<b.length then -1 else if b.length<a.length then 1 else 0:=by
 rw [cmp_drop k a b h]
 have hl:=congrArg List.length h
 rw [List.length_take,List.length_take] at hl
 cases hA:a.drop k with
 | nil=>
  have hA':a.length≤k:=by simpa using hA
  cases hB:b.drop k with
  |nil=>
   have hB':b.length≤k:=by simpa using hB
   rw [if_neg (by omega),if_neg (by omega)]
   rfl
  |cons y t=>
   have hB':¬b.length≤k:=fun h=>by rw [List.drop_eq_nil_of_le h] at hB;cases hB
   rw [if_pos (by omega)]
   rfl
 |cons x s=>
  have hA':¬a.length≤k:=fun h=>by rw [List.drop_eq_nil_of_le h] at hA;cases hA
  have hB':b.length≤k:=by omega
  rw [List.drop_eq_nil_of_le hB',if_neg (by omega),if_pos (by omega)]
  rfl
theorem rtexts_at (a b:ByteArray) (ha:a.size≤9223372036854775807) (hb:b.size≤9223372036854775807) (w:World):
 Calls Tryz.prog 134 #[.string a,.string b] w fun e w'=>e= .returned (.int .i64 (Lib.compareBytes a.data.toList b.data.toList))∧Mod (fun _=>False) w w':=by
 obtain ⟨R,hR⟩:∃R,Lib.compareBytes a.data.toList b.data.toList=R:=⟨_,rfl⟩
 rw [hR]
 have ha':(a.size:Int)≤9223372036854775807:=by omega
 have hb':(b.size:Int)≤9223372036854775807:=by omega
 have HR:=Lib.hid hR
 clear hR
 go_enter Tryz.func134,Tryz.ntmps134
 go_wp2_with fail
 go_loopw [5] (fun i wr=>∃k:Nat,i= .int .i64 k∧k≤a.size∧k≤b.size∧a.data.toList.take k=b.data.toList.take k∧Mod (fun _=>False) w wr) (fun i _=>a.size - (intOf i).toNat)
 case atStart=>exact ⟨0,rfl,Nat.zero_le _,Nat.zero_le _,rfl,Mod.refl _ _⟩
 case round=>
  obtain ⟨k,rfl,hka,hkb,htk,hmr⟩:=hrel
  have Htk:=Lib.hid htk
  have Hmr:=Lib.hid hmr
  clear htk hmr
  by_cases hla:k<a.size
  ·have hla':(k:Int)<a.size:=by omega
   by_cases hlb:k<b.size
   ·have hlb':(k:Int)<b.size:=by omega
    have hx:a.data.toList[k]? =some a[k]:=List.getElem?_eq_getElem hla
    have hy:b.data.toList[k]? =some b[k]:=List.getElem?_eq_getElem hlb
    by_cases he:a[k]=b[k]
    ·have he1:((a[k].toNat:Int)==(b[k].toNat:Int))=true:=by rw [he];exact beq_self_eq_true _
     have he2:(a[k].toNat==b[k].toNat)=true:=by rw [he];exact beq_self_eq_true _
     have htk2:a.data.toList.take (k+1)=b.data.toList.take (k+1):=by rw [List.take_add_one,List.take_add_one,hx,hy,he,Htk.out]
     have Htk2:=Lib.hid htk2
     clear htk2 hx hy he
     go_wp2_with fail
     go_quiet (fail)
     go_wp2_with fail
     go_roundw
     case rel=>exact ⟨k+1,by go_num,hla,hlb,Htk2.out,Hmr.out.drewN _⟩
     case measure=>simp [intOf];omega
    ·have he1:((a[k].toNat:Int)==(b[k].toNat:Int))=false:=by
      rw [beq_eq_false_iff_ne]
      intro h
      exact he (UInt8.toNat.inj (by omega))
     have he2:(a[k].toNat==b[k].toNat)=false:=by
      rw [beq_eq_false_iff_ne]
      intro h
      exact he (UInt8.toNat.inj h)
     have hc:=cmp_here Htk.out hx hy he
     by_cases hl:a[k]<b[k]
     ·have hc2:=HR.out.symm.trans (hc.trans (if_pos hl))
      have hl1:(a[k].toNat:Int)<b[k].toNat:=by have:a[k].toNat<b[k].toNat:=hl;omega
      have Hc2:=Lib.hid hc2
      clear hc2 hc hx hy he hl
      go_wp2_with fail
      go_quiet (fail)
      go_wp2_with fail
      go_quiet (fail)
      go_wp2_with fail
      go_ret
      exact ⟨by rw [Hc2.out];rfl,(Hmr.out.drewN _).drewN _⟩
     ·have hc2:=HR.out.symm.trans (hc.trans (if_neg hl))
      have hl1:(b[k].toNat:Int)≤a[k].toNat:=by have:¬a[k].toNat<b[k].toNat:=hl;omega
      have Hc2:=Lib.hid hc2
      clear hc2 hc hx hy he hl
      go_wp2_with fail
      go_quiet (fail)
      go_wp2_with fail
      go_quiet (fail)
      go_wp2_with fail
      go_ret
      exact ⟨by rw [Hc2.out];rfl,(Hmr.out.drewN _).drewN _⟩
   ·have hc:=cmp_end Htk.out (.inr (by show b.size≤k;omega))
    have hlb':(b.size:Int)≤k:=by omega
    have hd1:decide (a.size<b.size)=false:=decide_eq_false (by omega)
    have hc2:R=1:=by rw [←HR.out,hc,if_neg (by show¬a.size<b.size;omega),if_pos (by show b.size<a.size;omega)]
    have hd3:b.size<a.size:=by omega
    have Hc2:=Lib.hid hc2
    clear hc2 hc
    go_wp2_with fail
    go_ret
    exact ⟨by rw [Hc2.out];rfl,Hmr.out⟩
  ·have hc:=cmp_end Htk.out (.inl (by show a.size≤k;omega))
   have hla':(a.size:Int)≤k:=by omega
   by_cases hl:a.size<b.size
   ·have hc2:R= -1:=by rw [←HR.out,hc,if_pos (by show a.size<b.size;omega)]
    have Hc2:=Lib.hid hc2
    clear hc2 hc
    go_wp2_with fail
    go_ret
    exact ⟨by rw [Hc2.out];rfl,Hmr.out⟩
   ·have hc2:R=0:=by rw [←HR.out,hc,if_neg (by show¬a.size<b.size;omega),if_neg (by show¬b.size<a.size;omega)]
    have hd1:decide (a.size<b.size)=false:=decide_eq_false (by omega)
    have hd2:decide (b.size<a.size)=false:=decide_eq_false (by omega)
    have Hc2:=Lib.hid hc2
    clear hc2 hc hl
    go_wp2_with fail
    go_ret
    exact ⟨by rw [Hc2.out];rfl,Hmr.out⟩
theorem rbegins_at (s p:ByteArray) (hs:s.size≤9223372036854775807) (hp:p.size≤9223372036854775807) (w:World):Calls Tryz.prog 103 #[.string s,.string p] w fun e w'=>e= .returned (.bool (prefB s p))∧w'=w:=by
 have hs':(s.size:Int)≤9223372036854775807:=by omega
 have hp':(p.size:Int)≤9223372036854775807:=by omega
 by_cases h:p.size≤s.size
 ·have h':(p.size:Int)≤s.size:=by omega
  rw [←prefix_take]
  clear hs hp
  go_enter Tryz.func103,Tryz.ntmps103
  go_wp2
  go_ret
  exact ⟨rfl,rfl⟩
 ·have h':(s.size:Int)<p.size:=by omega
  rw [prefix_short (by omega)]
  clear hs hp h
  go_enter Tryz.func103,Tryz.ntmps103
  go_wp2
  go_ret
  exact ⟨rfl,rfl⟩
theorem rcompare_at (a b:V) (ha:a.text.size≤9223372036854775807) (hb:b.text.size≤9223372036854775807) (w:World):Calls Tryz.prog 101 #[.agg a.cells.toArray,.agg b.cells.toArray] w fun e w'=>
 e= .returned (.tuple #[.int .i64 (cmpV a b).1,.bool (cmpV a b).2])∧Mod (fun _=>False) w w':=by
 obtain ⟨wa,hwa,hmwa,hgwa,hzwa⟩:=allocE w (.cells a.cells.toArray 68)
 obtain ⟨wb,hwb,hmwb,hgwb,hzwb⟩:=allocE wa (.cells b.cells.toArray 68)
 have hmb:=hmwa.trans hmwb (fun _ _ h=>h)
 have hgA:=hmwb.heap hgwa (fun h=>h)
 have c0:wb.cell? ⟨w.heap.size,0,none⟩=some (.int .i64 a.kind):=cell_of hgA rfl
 have c1:wb.cell? ⟨w.heap.size,1,none⟩=some (.int .i64 a.int):=cell_of hgA rfl
 have c2:wb.cell? ⟨w.heap.size,2,none⟩=some (.float .f64 a.num):=cell_of hgA rfl
 have c3:wb.cell? ⟨w.heap.size,3,none⟩=some (.string a.text):=cell_of hgA rfl
 have c4:wb.cell? ⟨w.heap.size,4,none⟩=some (.bool a.yes):=cell_of hgA rfl
 have d0:wb.cell? ⟨wa.heap.size,0,none⟩=some (.int .i64 b.kind):=cell_of hgwb rfl
 have d1:wb.cell? ⟨wa.heap.size,1,none⟩=some (.int .i64 b.int):=cell_of hgwb rfl
 have d2:wb.cell? ⟨wa.heap.size,2,none⟩=some (.float .f64 b.num):=cell_of hgwb rfl
 have d3:wb.cell? ⟨wa.heap.size,3,none⟩=some (.string b.text):=cell_of hgwb rfl
 have d4:wb.cell? ⟨wa.heap.size,4,none⟩=some (.bool b.yes):=cell_of hgwb rfl
 have hlz:w.heap.size<wa.heap.size:=by omega
 have hva:=rvoid_at a wb
 have hvb:=rvoid_at b
 have htx:=rtexts_at a.text b.text ha hb
 have Hwa:=Lib.hid hwa
 have Hwb:=Lib.hid hwb
 have Hmb:=Lib.hid hmb
 have Hva:=Lib.hid hva
 have Hvb:=Lib.hid hvb
 have HgA:=Lib.hid hgA
 have Hgwb:=Lib.hid hgwb
 have Htx:=Lib.hid htx
 clear hwa hwb hmb hva hvb hgA hgwb htx hmwa hmwb hgwa hzwa hzwb ha hb
 cases hk:a.kind==b.kind with
 |false=>
  have E:=Lib.hid (show cmpV a b=(0,false) by unfold cmpV V.alike;rw [hk];rfl)
  have hkn:(a.kind !=b.kind)=true:=by simp [bne,hk]
  go_enter Tryz.func101,Tryz.ntmps101
  go_wp2_with (first|(rw [show w.alloc _=wa from Hwa.out])|(rw [show wa.alloc _=wb from Hwb.out])|fail)
  go_ret2
  exact ⟨by rw [E.out];rfl,Hmb.out⟩
 |true=>
 have hkn:(a.kind !=b.kind)=false:=by simp [bne,hk]
 go_enter Tryz.func101,Tryz.ntmps101
 go_wp2_with (first|(rw [show w.alloc _=wa from Hwa.out])|(rw [show wa.alloc _=wb from Hwb.out])|fail)
 refine Hva.out.mono ?_
 rintro e w2 ⟨rfl,hm2⟩
 have hA2:=hm2.heap HgA.out (fun h=>h)
 have hB2:=hm2.heap Hgwb.out (fun h=>h)
 have hm02:=Hmb.out.trans hm2 (fun _ _ h=>h)
 have Hk:=Lib.hid hk
 have HA2:=Lib.hid hA2
 have HB2:=Lib.hid hB2
 have Hm02:=Lib.hid hm02
 clear hA2 hB2 hm02 hm2 c0 c1 c2 c3 c4 d0 d1 d2 d3 d4 hk hkn Hva HgA Hgwb Hmb
 have c0:w2.cell? ⟨w.heap.size,0,none⟩=some (.int .i64 a.kind):=cell_of HA2.out rfl
 have c1:w2.cell? ⟨w.heap.size,1,none⟩=some (.int .i64 a.int):=cell_of HA2.out rfl
 have c2:w2.cell? ⟨w.heap.size,2,none⟩=some (.float .f64 a.num):=cell_of HA2.out rfl
 have c3:w2.cell? ⟨w.heap.size,3,none⟩=some (.string a.text):=cell_of HA2.out rfl
 have c4:w2.cell? ⟨w.heap.size,4,none⟩=some (.bool a.yes):=cell_of HA2.out rfl
 have d0:w2.cell? ⟨wa.heap.size,0,none⟩=some (.int .i64 b.kind):=cell_of HB2.out rfl
 have d1:w2.cell? ⟨wa.heap.size,1,none⟩=some (.int .i64 b.int):=cell_of HB2.out rfl
 have d2:w2.cell? ⟨wa.heap.size,2,none⟩=some (.float .f64 b.num):=cell_of HB2.out rfl
 have d3:w2.cell? ⟨wa.heap.size,3,none⟩=some (.string b.text):=cell_of HB2.out rfl
 have d4:w2.cell? ⟨wa.heap.size,4,none⟩=some (.bool b.yes):=cell_of HB2.out rfl
 obtain ⟨va,hva⟩:∃x,a.void=x:=⟨_,rfl⟩
 obtain ⟨vb,hvb⟩:∃x,b.void=x:=⟨_,rfl⟩
 rw [hva]
 have Hvb2:=Lib.hid (Hvb.out w2)
 rw [hvb] at Hvb2
 have Hva:=Lib.hid hva
 clear hva Hvb
 have Hvb:=Lib.hid hvb
 clear hvb
 cases va with
 |true=>
  have E:=Lib.hid (show cmpV a b=(0,false) by unfold cmpV V.alike;rw [Hk.out,Hva.out];rfl)
  go_wp2
  go_ret2
  exact ⟨by rw [E.out];rfl,Hm02.out⟩
 |false=>
 go_wp2_with fail
 refine Hvb2.out.mono ?_
 rintro e w3 ⟨rfl,hm3⟩
 have hA3:=hm3.heap HA2.out (fun h=>h)
 have hB3:=hm3.heap HB2.out (fun h=>h)
 have hm03:=Hm02.out.trans hm3 (fun _ _ h=>h)
 have HA3:=Lib.hid hA3
 have HB3:=Lib.hid hB3
 have Hm03:=Lib.hid hm03
 clear hA3 hB3 hm03 hm3 c0 c1 c2 c3 c4 d0 d1 d2 d3 d4 Hvb2 HA2 HB2 Hm02
 have c0:w3.cell? ⟨w.heap.size,0,none⟩=some (.int .i64 a.kind):=cell_of HA3.out rfl
 have c1:w3.cell? ⟨w.heap.size,1,none⟩=some (.int .i64 a.int):=cell_of HA3.out rfl
 have c2:w3.cell? ⟨w.heap.size,2,none⟩=some (.float .f64 a.num):=cell_of HA3.out rfl
 have c3:w3.cell? ⟨w.heap.size,3,none⟩=some (.string a.text):=cell_of HA3.out rfl
 have c4:w3.cell? ⟨w.heap.size,4,none⟩=some (.bool a.yes):=cell_of HA3.out rfl
 have d0:w3.cell? ⟨wa.heap.size,0,none⟩=some (.int .i64 b.kind):=cell_of HB3.out rfl
 have d1:w3.cell? ⟨wa.heap.size,1,none⟩=some (.int .i64 b.int):=cell_of HB3.out rfl
 have d2:w3.cell? ⟨wa.heap.size,2,none⟩=some (.float .f64 b.num):=cell_of HB3.out rfl
 have d3:w3.cell? ⟨wa.heap.size,3,none⟩=some (.string b.text):=cell_of HB3.out rfl
 have d4:w3.cell? ⟨wa.heap.size,4,none⟩=some (.bool b.yes):=cell_of HB3.out rfl
 cases vb with
 |true=>
  have E:=Lib.hid (show cmpV a b=(0,false) by unfold cmpV V.alike;rw [Hk.out,Hva.out,Hvb.out];rfl)
  go_wp2
  go_ret2
  exact ⟨by rw [E.out];rfl,Hm03.out⟩
 |false=>
 have E:=Lib.hid (show cmpV a b=(V.cmp a b,true) by unfold cmpV V.alike;rw [Hk.out,Hva.out,Hvb.out];rfl)
 have ec:V.cmp a b=_:=rfl
 conv at ec=>rhs;unfold V.cmp
 have Ec:=Lib.hid ec
 clear ec Hva Hvb Hk
 cases h0:a.kind==0 with
 |true=>
  have E2:=Lib.hid (Ec.out.trans (if_pos (beq_iff_eq.1 h0)))
  go_wp2
  all_goals (go_ret2;exact ⟨by rw [E.out,E2.out];first|(simp [sgn, *];done)|(rw [show sgn (decide (a.int<b.int)) (decide (b.int<a.int))=0 from by unfold sgn;rw [decide_eq_false (by omega),decide_eq_false (by omega)];rfl];rfl)|(rw [show sgn (decide (a.int<b.int)) (decide (b.int<a.int))=1 from by unfold sgn;rw [decide_eq_false (by omega),decide_eq_true (by omega)];rfl];rfl),Hm03.out⟩)
 |false=>
 have h0':¬a.kind=0:=by simpa using h0
 have E0:=Lib.hid (Ec.out.trans (if_neg h0'))
 clear h0' Ec
 cases h1:a.kind==1 with
 | true=>
  have E2:=Lib.hid (E0.out.trans (if_pos (beq_iff_eq.1 h1)))
  obtain ⟨l1,hl1⟩:∃x,fLt a.num b.num=x:=⟨_,rfl⟩
  obtain ⟨l2,hl2⟩:∃x,fLt b.num a.num=x:=⟨_,rfl⟩
  have h3:(FloatKind.f64.format.order a.num b.num==some Ordering.lt)=l1:=hl1
  have h4:(FloatKind.f64.format.order a.num b.num==some Ordering.gt)=l2:=(gt_lt _ _).trans hl2
  rw [hl1] at E2
  rw [hl2] at E2
  clear hl1 hl2
  cases l1<;>cases l2
  all_goals
   go_wp2
   go_ret2
   exact ⟨by rw [E.out,E2.out];rfl,Hm03.out⟩
 |false=>
 have h1':¬a.kind=1:=by simpa using h1
 have E1:=Lib.hid (E0.out.trans (if_neg h1'))
 clear h1' E0
 cases h2:a.kind==2 with
 |true=>
  have E2:=Lib.hid (E1.out.trans (if_pos (beq_iff_eq.1 h2)))
  go_wp2_with fail
  refine (Htx.out w3).mono ?_
  rintro e w4 ⟨rfl,hm4⟩
  have Hm4:=Lib.hid (Hm03.out.trans hm4 (fun _ _ h=>h))
  clear hm4
  go_wp2
  go_ret2
  exact ⟨by rw [E.out,E2.out];rfl,Hm4.out⟩
 | false=>
  have h2':¬a.kind=2:=by simpa using h2
  have E2:=Lib.hid (E1.out.trans (if_neg h2'))
  clear h2' E1
  obtain ⟨ya,hya⟩:∃x,a.yes=x:=⟨_,rfl⟩
  obtain ⟨yb,hyb⟩:∃x,b.yes=x:=⟨_,rfl⟩
  rw [hya] at E2 c4
  rw [hyb] at E2 d4
  clear hya hyb
  cases ya<;>cases yb
  all_goals
   go_wp2
   go_ret2
   exact ⟨by rw [E.out,E2.out];rfl,Hm03.out⟩
theorem rholds_at (c:Cnd) (v:V) (hc:c.v.text.size≤9223372036854775807) (hv:v.text.size≤9223372036854775807) (w:World):
 Calls Tryz.prog 77 #[.agg c.cells.toArray,.agg v.cells.toArray] w fun e w'=>e= .returned (.bool (c.holds v))∧Mod (fun _=>False) w w':=by
 obtain ⟨wa,hwa,hmwa,hgwa,hzwa⟩:=allocE w (.cells c.cells.toArray 132)
 obtain ⟨wb,hwb,hmwb,hgwb,hzwb⟩:=allocE wa (.cells v.cells.toArray 68)
 have hmb:=hmwa.trans hmwb (fun _ _ h=>h)
 have hgA:=hmwb.heap hgwa (fun h=>h)
 have hcm:=rcompare_at v c.v hv hc wb
 obtain ⟨R,hR⟩:∃R,c.holds v=R:=⟨_,rfl⟩
 rw [hR]
 unfold Cnd.holds at hR
 obtain ⟨⟨n,ok⟩,hn⟩:∃p,cmpV v c.v=p:=⟨_,rfl⟩
 rw [hn] at hcm hR
 simp only at hcm hR
 have hpf:=fun wx=>rbegins_at v.text c.v.text hv hc wx
 have hlz:w.heap.size<wa.heap.size:=by omega
 have c0:wb.cell? ⟨w.heap.size,0,none⟩=some (.string c.name):=cell_of hgA rfl
 have c1:wb.cell? ⟨w.heap.size,1,none⟩=some (.int .i64 c.op):=cell_of hgA rfl
 have c2:wb.cell? ⟨w.heap.size,2,none⟩=some (.int .i64 c.v.kind):=cell_of hgA rfl
 have c3:wb.cell? ⟨w.heap.size,3,none⟩=some (.int .i64 c.v.int):=cell_of hgA rfl
 have c4:wb.cell? ⟨w.heap.size,4,none⟩=some (.float .f64 c.v.num):=cell_of hgA rfl
 have c5:wb.cell? ⟨w.heap.size,5,none⟩=some (.string c.v.text):=cell_of hgA rfl
 have c6:wb.cell? ⟨w.heap.size,6,none⟩=some (.bool c.v.yes):=cell_of hgA rfl
 have d0:wb.cell? ⟨wa.heap.size,0,none⟩=some (.int .i64 v.kind):=cell_of hgwb rfl
 have d1:wb.cell? ⟨wa.heap.size,1,none⟩=some (.int .i64 v.int):=cell_of hgwb rfl
 have d2:wb.cell? ⟨wa.heap.size,2,none⟩=some (.float .f64 v.num):=cell_of hgwb rfl
 have d3:wb.cell? ⟨wa.heap.size,3,none⟩=some (.string v.text):=cell_of hgwb rfl
 have d4:wb.cell? ⟨wa.heap.size,4,none⟩=some (.bool v.yes):=cell_of hgwb rfl
 have Hwa:=Lib.hid hwa
 have Hwb:=Lib.hid hwb
 have Hmb:=Lib.hid hmb
 have HgA:=Lib.hid hgA
 have Hgwb:=Lib.hid hgwb
 have Hcm:=Lib.hid hcm
 have HR:=Lib.hid hR
 have Hn:=Lib.hid hn
 have Hpf:=Lib.hid hpf
 clear hwa hwb hmb hgA hgwb hcm hR hn hpf hmwa hmwb hgwa hzwa hzwb hc hv
 cases h7:c.op==7 with
 |true=>
  go_enter Tryz.func77,Tryz.ntmps77
  go_wp2_with (first|(rw [show w.alloc _=wa from Hwa.out])|(rw [show wa.alloc _=wb from Hwb.out])|fail)
  go_ret
  exact ⟨ret_bool (HR.out.symm.trans (by simp_all)),Hmb.out⟩
 |false=>
 go_enter Tryz.func77,Tryz.ntmps77
 go_wp2_with (first|(rw [show w.alloc _=wa from Hwa.out])|(rw [show wa.alloc _=wb from Hwb.out])|fail)
 refine Hcm.out.mono ?_
 rintro e w2 ⟨rfl,hm2⟩
 have hA2:=hm2.heap HgA.out (fun h=>h)
 have hB2:=hm2.heap Hgwb.out (fun h=>h)
 have hm02:=Hmb.out.trans hm2 (fun _ _ h=>h)
 have hpf2:=Hpf.out w2
 have Hm02:=Lib.hid hm02
 have Hpf2:=Lib.hid hpf2
 clear hm02 hpf2 hm2 Hcm HgA Hgwb Hpf Hwa Hwb Hmb c0 c1 c2 c3 c4 c5 c6 d0 d1 d2 d3 d4
 have c0:w2.cell? ⟨w.heap.size,0,none⟩=some (.string c.name):=cell_of hA2 rfl
 have c1:w2.cell? ⟨w.heap.size,1,none⟩=some (.int .i64 c.op):=cell_of hA2 rfl
 have c2:w2.cell? ⟨w.heap.size,2,none⟩=some (.int .i64 c.v.kind):=cell_of hA2 rfl
 have c3:w2.cell? ⟨w.heap.size,3,none⟩=some (.int .i64 c.v.int):=cell_of hA2 rfl
 have c4:w2.cell? ⟨w.heap.size,4,none⟩=some (.float .f64 c.v.num):=cell_of hA2 rfl
 have c5:w2.cell? ⟨w.heap.size,5,none⟩=some (.string c.v.text):=cell_of hA2 rfl
 have c6:w2.cell? ⟨w.heap.size,6,none⟩=some (.bool c.v.yes):=cell_of hA2 rfl
 have d0:w2.cell? ⟨wa.heap.size,0,none⟩=some (.int .i64 v.kind):=cell_of hB2 rfl
 have d1:w2.cell? ⟨wa.heap.size,1,none⟩=some (.int .i64 v.int):=cell_of hB2 rfl
 have d2:w2.cell? ⟨wa.heap.size,2,none⟩=some (.float .f64 v.num):=cell_of hB2 rfl
 have d3:w2.cell? ⟨wa.heap.size,3,none⟩=some (.string v.text):=cell_of hB2 rfl
 have d4:w2.cell? ⟨wa.heap.size,4,none⟩=some (.bool v.yes):=cell_of hB2 rfl
 clear hA2 hB2
 cases ok with
 |false=>
  go_wp2
  all_goals (go_ret;refine ⟨ret_bool (HR.out.symm.trans (by (try simp only [beq_eq_false_iff_ne,ne_eq] at*);simp [*])),Hm02.out⟩)
 | true=>
  cases hvk:v.kind==2 with
  |false=>
   go_wp2
   all_goals (go_ret;refine ⟨ret_bool (HR.out.symm.trans (by (try simp only [beq_iff_eq,beq_eq_false_iff_ne,ne_eq] at*);simp [*])),Hm02.out⟩)
  |true=>
   go_wp2_with (refine Hpf2.out.mono ?_;rintro e w3 ⟨rfl,rfl⟩)
   all_goals (go_ret;refine ⟨ret_bool (HR.out.symm.trans (by (try simp only [beq_iff_eq,beq_eq_false_iff_ne,ne_eq] at*);simp [*])),Hm02.out⟩)
theorem rcvoid_at (c:Cnd) (w:World):Calls Tryz.prog 66 #[.agg c.cells.toArray] w fun e w'=>e= .returned (.bool c.voidB)∧Mod (fun _=>False) w w':=by
 obtain ⟨wa,hwa,hmwa,hgwa,hzwa⟩:=allocE w (.cells c.cells.toArray 132)
 have c0:wa.cell? ⟨w.heap.size,0,none⟩=some (.string c.name):=cell_of hgwa rfl
 have c1:wa.cell? ⟨w.heap.size,1,none⟩=some (.int .i64 c.op):=cell_of hgwa rfl
 have c2:wa.cell? ⟨w.heap.size,2,none⟩=some (.int .i64 c.v.kind):=cell_of hgwa rfl
 have c3:wa.cell? ⟨w.heap.size,3,none⟩=some (.int .i64 c.v.int):=cell_of hgwa rfl
 have c4:wa.cell? ⟨w.heap.size,4,none⟩=some (.float .f64 c.v.num):=cell_of hgwa rfl
 have c5:wa.cell? ⟨w.heap.size,5,none⟩=some (.string c.v.text):=cell_of hgwa rfl
 have c6:wa.cell? ⟨w.heap.size,6,none⟩=some (.bool c.v.yes):=cell_of hgwa rfl
 have hvv:=rvoid_at c.v wa
 obtain ⟨R,hR⟩:∃R,c.voidB=R:=⟨_,rfl⟩
 rw [hR]
 unfold Cnd.voidB at hR
 obtain ⟨vd,hvd⟩:∃b,c.v.void=b:=⟨_,rfl⟩
 rw [hvd] at hvv hR
 have Hwa:=Lib.hid hwa
 have Hmwa:=Lib.hid hmwa
 have Hgwa:=Lib.hid hgwa
 have Hvv:=Lib.hid hvv
 have HR:=Lib.hid hR
 clear hwa hmwa hgwa hvv hR hvd hzwa
 cases h7:c.op==7 with
 |true=>
  have h7n:(c.op !=7)=false:=by simp [bne,h7]
  have h6:(c.op==6)=false:=by rw [beq_iff_eq] at h7;rw [h7];rfl
  go_enter Tryz.func66,Tryz.ntmps66
  go_wp2_with (first|(rw [show w.alloc _=wa from Hwa.out])|fail)
  go_ret
  exact ⟨ret_bool (HR.out.symm.trans (by simp [*])),Hmwa.out⟩
 | false=>
  have h7n:(c.op !=7)=true:=by simp [bne,h7]
  go_enter Tryz.func66,Tryz.ntmps66
  go_wp2_with (first|(rw [show w.alloc _=wa from Hwa.out])|fail)
  refine Hvv.out.mono ?_
  rintro e w2 ⟨rfl,hm2⟩
  have hg2:=hm2.heap Hgwa.out (fun h=>h)
  have d1:w2.cell? ⟨w.heap.size,1,none⟩=some (.int .i64 c.op):=cell_of hg2 rfl
  have d2:w2.cell? ⟨w.heap.size,2,none⟩=some (.int .i64 c.v.kind):=cell_of hg2 rfl
  have Hm2:=Lib.hid (Hmwa.out.trans hm2 (fun _ _ h=>h))
  clear hm2 hg2 c0 c1 c2 c3 c4 c5 c6
  cases vd with
  |true=>
   go_wp2
   go_ret
   exact ⟨ret_bool (HR.out.symm.trans (by simp [*])),Hm2.out⟩
  | false=>
   cases h6:c.op==6 with
   |true=>
    go_wp2
    go_ret
    exact ⟨ret_bool (HR.out.symm.trans (by simp [*])),Hm2.out⟩
   |false=>
    go_wp2
    go_ret
    exact ⟨ret_bool (HR.out.symm.trans (by simp [*])),Hm2.out⟩
end
end Go.Proofs.YtaenebdppkjhoaaGreatDoor
