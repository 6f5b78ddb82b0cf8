/- Lemmas. -/
import Derived.Test.YtebhabpahfmodaaGreatDoorZh13
import Derived.Test.YtebhabpahfmodaaGreatDoorZh6
set_option maxHeartbeats 40000000
set_option maxRecDepth 20000
namespace Go.Proofs.YtebhabpahfmodaaGreatDoor
open Go.RowKit
theorem a3D (v:V) (w:World):Calls Tryz.prog 116 #[.agg v.cells.toArray] w fun e w'=>e= .returned (.bool v.void)/\Mod (fun _=>False) w w':=by
 obtain ⟨kind,int,num,text,yes⟩:=v;unfold V.void V.cells;have h1:=a4K 83 num num
 cases hk:kind==1 with
 |true=>
  go_enter Tryz.func116,Tryz.ntmps116
  go_wp2
  go_ret;exact ⟨rfl,(Mod.refl _ w).alloc _⟩
 |false=>
  go_enter Tryz.func116,Tryz.ntmps116
  go_wp2
  go_ret;exact ⟨rfl,(Mod.refl _ w).alloc _⟩
theorem a3E:∀(k:Nat) (a b:List UInt8),a.take k=b.take k->Lib.compareBytes a b=Lib.compareBytes (a.drop k) (b.drop k)
 |0,_,_,_=>rfl
 |k+1,[],[],_=>rfl
 |k+1,[],b::t,h=>by simp at h
 |k+1,a::s,[],h=>by simp at h
 | k+1,a::s,b::t,h=>by
  simp only [List.take_succ_cons,List.cons.injEq] at h;obtain ⟨rfl,h⟩:=h
  have hlt:¬a<a:=by
   show¬a.toNat<a.toNat;omega
  rw [D6,if_neg hlt,if_neg hlt,a3E k s t h,List.drop_succ_cons,List.drop_succ_cons]
theorem b1E {a b:List UInt8} {k:Nat} {x y:UInt8} (h:a.take k=b.take k) (hx:a[k]? =some x) (hy:b[k]? =some y) (hne:x≠y):Lib.compareBytes a b=if x<y then -1 else 1:=by
 rw [a3E k a b h];obtain ⟨h1,rfl⟩:=zz6 hx;obtain ⟨h2,rfl⟩:=zz6 hy;rw [List.drop_eq_getElem_cons h1,List.drop_eq_getElem_cons h2,D6];by_cases hl:a[k]<b[k]
 ·rw [if_pos hl,if_pos hl]
 rw [if_neg hl,if_neg hl,if_pos];have hn:¬a[k].toNat<b[k].toNat:=hl;have hd:a[k].toNat≠b[k].toNat:=fun h=>hne (UInt8.toNat.inj h);show b[k].toNat<a[k].toNat;omega
theorem a9j {a b:List UInt8} {k:Nat} (h:a.take k=b.take k) (hk:a.length<=k\/b.length<=k):Lib.compareBytes a b=if a.length<b.length then -1 else if b.length<a.length then 1 else 0:=by
 rw [a3E k a b h];have hl:=congrArg List.length h;rw [List.length_take,List.length_take] at hl
 cases hA:a.drop k with
 | nil=>
  have hA':a.length<=k:=by simpa using hA
  cases hB:b.drop k with
  |nil=>
   have hB':b.length<=k:=by simpa using hB
   rw [if_neg zo,if_neg zo];rfl
  |cons y t=>
   have hB':¬b.length<=k:=fun h=>by rw [List.drop_eq_nil_of_le h] at hB;cases hB
   rw [if_pos zo];rfl
 |cons x s=>
  have hA':¬a.length<=k:=fun h=>by rw [List.drop_eq_nil_of_le h] at hA;cases hA
  have hB':b.length<=k:=zo
  rw [List.drop_eq_nil_of_le hB',if_neg zo,if_pos zo];rfl
theorem a9Z (a b:ByteArray) (ha:a.size<=9223372036854775807) (hb:b.size<=9223372036854775807) (w:World):
 Calls Tryz.prog 129 #[.string a,.string b] w fun e w'=>e= .returned (.int .i64 (Lib.compareBytes a.data.toList b.data.toList))/\Mod (fun _=>False) w w':=by
 obtain ⟨R,hR⟩:∃R,Lib.compareBytes a.data.toList b.data.toList=R:=⟨_,rfl⟩;rw [hR];have ha':(a.size:Int)<=9223372036854775807:=zo
 have hb':(b.size:Int)<=9223372036854775807:=zo
 have HR:=zh hR;clear hR
 go_enter Tryz.func129,Tryz.ntmps129
 go_wp2_with fail
 go_loopw [5] (fun i wr=>∃k:Nat,i= .int .i64 k/\k<=a.size/\k<=b.size/\a.data.toList.take k=b.data.toList.take k/\Mod (fun _=>False) w wr) (fun i _=>a.size - (intOf i).toNat)
 case atStart=>exact ⟨0,rfl,Nat.zero_le _,Nat.zero_le _,rfl,Mod.refl _ _⟩
 case round=>
  obtain ⟨k,rfl,hka,hkb,htk,hmr⟩:=hrel;obtain ⟨Gt,aK⟩:=zh2 htk hmr;clear htk hmr;by_cases hla:k<a.size
  ·have Pe:(k:Int)<a.size:=zo
   by_cases hlb:k<b.size
   ·have Pf:(k:Int)<b.size:=zo
    have hx:a.data.toList[k]? =some a[k]:=zz5 hla;have hy:b.data.toList[k]? =some b[k]:=zz5 hlb;by_cases he:a[k]=b[k]
    ·have he1:((a[k].toNat:Int)==(b[k].toNat:Int))=true:=by rw [he];exact beq_self_eq_true _
     have he2:(a[k].toNat==b[k].toNat)=true:=by rw [he];exact beq_self_eq_true _
     have Gu:a.data.toList.take (k+1)=b.data.toList.take (k+1):=by rw [List.take_add_one,List.take_add_one,hx,hy,he,Gt.out]
     have Pg:=zh Gu;clear Gu hx hy he
     go_wp2_with fail
     go_quiet (fail)
     go_wp2_with fail
     go_roundw
     case rel=>exact ⟨k+1,by go_num,hla,hlb,Pg.out,aK.out.drewN _⟩
     case measure=>simp [intOf];omega
    have he1:((a[k].toNat:Int)==(b[k].toNat:Int))=false:=by
     rw [beq_eq_false_iff_ne];intro h;exact he (UInt8.toNat.inj zo)
    have he2:(a[k].toNat==b[k].toNat)=false:=by
     rw [beq_eq_false_iff_ne];intro h;exact he (UInt8.toNat.inj h)
    have hc:=b1E Gt.out hx hy he;by_cases hl:a[k]<b[k]
    ·have hc2:=HR.out.symm.trans (hc.trans (if_pos hl));have hl1:(a[k].toNat:Int)<b[k].toNat:=by have:a[k].toNat<b[k].toNat:=hl;omega
     have oC:=zh hc2;clear hc2 hc hx hy he hl
     go_wp2_with fail
     go_quiet (fail)
     go_wp2_with fail
     go_quiet (fail)
     go_wp2_with fail
     go_ret;exact ⟨by rw [oC.out];rfl,(aK.out.drewN _).drewN _⟩
    have hc2:=HR.out.symm.trans (hc.trans (if_neg hl));have hl1:(b[k].toNat:Int)<=a[k].toNat:=by have:¬a[k].toNat<b[k].toNat:=hl;omega
    have oC:=zh hc2;clear hc2 hc hx hy he hl
    go_wp2_with fail
    go_quiet (fail)
    go_wp2_with fail
    go_quiet (fail)
    go_wp2_with fail
    go_ret;exact ⟨by rw [oC.out];rfl,(aK.out.drewN _).drewN _⟩
   have hc:=a9j Gt.out (.inr (by show b.size<=k;omega));have Pf:(b.size:Int)<=k:=zo
   have hd1:decide (a.size<b.size)=false:=decide_eq_false zo;have hc2:R=1:=by rw [<-HR.out,hc,if_neg (by show¬a.size<b.size;omega),if_pos (by show b.size<a.size;omega)]
   have hd3:b.size<a.size:=zo
   have oC:=zh hc2;clear hc2 hc
   go_wp2_with fail
   go_ret;exact ⟨by rw [oC.out];rfl,aK.out⟩
  have hc:=a9j Gt.out (.inl (by show a.size<=k;omega));have Pe:(a.size:Int)<=k:=zo
  by_cases hl:a.size<b.size
  ·have hc2:R= -1:=by rw [<-HR.out,hc,if_pos (by show a.size<b.size;omega)]
   have oC:=zh hc2;clear hc2 hc
   go_wp2_with fail
   go_ret;exact ⟨by rw [oC.out];rfl,aK.out⟩
  have hc2:R=0:=by rw [<-HR.out,hc,if_neg (by show¬a.size<b.size;omega),if_neg (by show¬b.size<a.size;omega)]
  have hd1:decide (a.size<b.size)=false:=decide_eq_false zo;have hd2:decide (b.size<a.size)=false:=decide_eq_false zo;have oC:=zh hc2;clear hc2 hc hl
  go_wp2_with fail
  go_ret;exact ⟨by rw [oC.out];rfl,aK.out⟩
theorem a1e (s p:ByteArray) (hs:s.size<=9223372036854775807) (hp:p.size<=9223372036854775807) (w:World):Calls Tryz.prog 86 #[.string s,.string p] w fun e w'=>e= .returned (.bool (C4 s p))/\w'=w:=by
 have hs':(s.size:Int)<=9223372036854775807:=zo
 have hp':(p.size:Int)<=9223372036854775807:=zo
 by_cases h:p.size<=s.size
 ·have h':(p.size:Int)<=s.size:=zo
  rw [<-a0F];clear hs hp
  go_enter Tryz.func86,Tryz.ntmps86
  go_wp2
  go_ret;exact ⟨rfl,rfl⟩
 have h':(s.size:Int)<p.size:=zo
 rw [a13 zo];clear hs hp h
 go_enter Tryz.func86,Tryz.ntmps86
 go_wp2
 go_ret;exact ⟨rfl,rfl⟩
theorem a0n (a b:V) (ha:a.text.size<=9223372036854775807) (hb:b.text.size<=9223372036854775807) (w:World):Calls Tryz.prog 85 #[.agg a.cells.toArray,.agg b.cells.toArray] w fun e w'=>
 e= .returned (.tuple #[.int .i64 (q7 a b).1,.bool (q7 a b).2])/\Mod (fun _=>False) w w':=by
 obtain ⟨wa,aD,ah,ae,au⟩:=g8 w (.cells a.cells.toArray 85);obtain ⟨wb,hwb,ay,ak,aO⟩:=g8 wa (.cells b.cells.toArray 85);have hmb:=ah.trans ay zi;have hgA:=ay.heap ae id;have c0:wb.cell? ⟨w.heap.size,0,none⟩=some (.int .i64 a.kind):=d6 hgA rfl;have c1:wb.cell? ⟨w.heap.size,1,none⟩=some (.int .i64 a.int):=d6 hgA rfl;have c2:wb.cell? ⟨w.heap.size,2,none⟩=some (.float .f64 a.num):=d6 hgA rfl;have c3:wb.cell? ⟨w.heap.size,3,none⟩=some (.string a.text):=d6 hgA rfl;have c4:wb.cell? ⟨w.heap.size,4,none⟩=some (.bool a.yes):=d6 hgA rfl;have d0:wb.cell? ⟨wa.heap.size,0,none⟩=some (.int .i64 b.kind):=d6 ak rfl;have d1:wb.cell? ⟨wa.heap.size,1,none⟩=some (.int .i64 b.int):=d6 ak rfl;have d2:wb.cell? ⟨wa.heap.size,2,none⟩=some (.float .f64 b.num):=d6 ak rfl;have d3:wb.cell? ⟨wa.heap.size,3,none⟩=some (.string b.text):=d6 ak rfl;have d4:wb.cell? ⟨wa.heap.size,4,none⟩=some (.bool b.yes):=d6 ak rfl;have hlz:w.heap.size<wa.heap.size:=zo
 have hva:=a3D a wb;have hvb:=a3D b;have htx:=a9Z a.text b.text ha hb;obtain ⟨aF,bD,bW,dC,dX,nD,aT,Zh⟩:=zh8 aD hwb hmb hva hvb hgA ak htx;clear aD hwb hmb hva hvb hgA ak htx ah ay ae au aO ha hb
 cases hk:a.kind==b.kind with
 |false=>
  have E:=Lib.hid (show q7 a b=(0,false) by unfold q7 V.alike;rw [hk];rfl);have hkn:(a.kind !=b.kind)=true:=by simp [bne,hk]
  go_enter Tryz.func85,Tryz.ntmps85
  go_wp2_with (first|(rw [show w.alloc _=wa from aF.out])|(rw [show wa.alloc _=wb from bD.out]))
  go_ret2
  exact ⟨by rw [E.out];rfl,bW.out⟩
 |true=>
 have hkn:(a.kind !=b.kind)=false:=by simp [bne,hk]
 go_enter Tryz.func85,Tryz.ntmps85
 go_wp2_with (first|(rw [show w.alloc _=wa from aF.out])|(rw [show wa.alloc _=wb from bD.out]))
 refine dC.out.mono ?_;rintro e w2 ⟨rfl,hm2⟩;have hA2:=hm2.heap nD.out id;have hB2:=hm2.heap aT.out id;have aG:=bW.out.trans hm2 zi;obtain ⟨Hk,HA2,HB2,aI⟩:=zh4 hk hA2 hB2 aG;clear hA2 hB2 aG hm2 c0 c1 c2 c3 c4 d0 d1 d2 d3 d4 hk hkn dC nD aT bW;have c0:w2.cell? ⟨w.heap.size,0,none⟩=some (.int .i64 a.kind):=d6 HA2.out rfl;have c1:w2.cell? ⟨w.heap.size,1,none⟩=some (.int .i64 a.int):=d6 HA2.out rfl;have c2:w2.cell? ⟨w.heap.size,2,none⟩=some (.float .f64 a.num):=d6 HA2.out rfl;have c3:w2.cell? ⟨w.heap.size,3,none⟩=some (.string a.text):=d6 HA2.out rfl;have c4:w2.cell? ⟨w.heap.size,4,none⟩=some (.bool a.yes):=d6 HA2.out rfl;have d0:w2.cell? ⟨wa.heap.size,0,none⟩=some (.int .i64 b.kind):=d6 HB2.out rfl;have d1:w2.cell? ⟨wa.heap.size,1,none⟩=some (.int .i64 b.int):=d6 HB2.out rfl;have d2:w2.cell? ⟨wa.heap.size,2,none⟩=some (.float .f64 b.num):=d6 HB2.out rfl;have d3:w2.cell? ⟨wa.heap.size,3,none⟩=some (.string b.text):=d6 HB2.out rfl;have d4:w2.cell? ⟨wa.heap.size,4,none⟩=some (.bool b.yes):=d6 HB2.out rfl;obtain ⟨va,hva⟩:∃x,a.void=x:=⟨_,rfl⟩;obtain ⟨vb,hvb⟩:∃x,b.void=x:=⟨_,rfl⟩;rw [hva];have AZ:=Lib.hid (dX.out w2);rw [hvb] at AZ;have dC:=zh hva;clear hva dX;have dX:=zh hvb;clear hvb
 cases va with
 |true=>
  have E:=Lib.hid (show q7 a b=(0,false) by unfold q7 V.alike;rw [Hk.out,dC.out];rfl)
  go_wp2
  go_ret2
  exact ⟨by rw [E.out];rfl,aI.out⟩
 |false=>
 go_wp2_with fail
 refine AZ.out.mono ?_;rintro e w3 ⟨rfl,aC⟩;have hA3:=aC.heap HA2.out id;have hB3:=aC.heap HB2.out id;have aS:=aI.out.trans aC zi;obtain ⟨eH,HB3,aP⟩:=zh3 hA3 hB3 aS;clear hA3 hB3 aS aC c0 c1 c2 c3 c4 d0 d1 d2 d3 d4 AZ HA2 HB2 aI;have c0:w3.cell? ⟨w.heap.size,0,none⟩=some (.int .i64 a.kind):=d6 eH.out rfl;have c1:w3.cell? ⟨w.heap.size,1,none⟩=some (.int .i64 a.int):=d6 eH.out rfl;have c2:w3.cell? ⟨w.heap.size,2,none⟩=some (.float .f64 a.num):=d6 eH.out rfl;have c3:w3.cell? ⟨w.heap.size,3,none⟩=some (.string a.text):=d6 eH.out rfl;have c4:w3.cell? ⟨w.heap.size,4,none⟩=some (.bool a.yes):=d6 eH.out rfl;have d0:w3.cell? ⟨wa.heap.size,0,none⟩=some (.int .i64 b.kind):=d6 HB3.out rfl;have d1:w3.cell? ⟨wa.heap.size,1,none⟩=some (.int .i64 b.int):=d6 HB3.out rfl;have d2:w3.cell? ⟨wa.heap.size,2,none⟩=some (.float .f64 b.num):=d6 HB3.out rfl;have d3:w3.cell? ⟨wa.heap.size,3,none⟩=some (.string b.text):=d6 HB3.out rfl;have d4:w3.cell? ⟨wa.heap.size,4,none⟩=some (.bool b.yes):=d6 HB3.out rfl
 cases vb with
 |true=>
  have E:=Lib.hid (show q7 a b=(0,false) by unfold q7 V.alike;rw [Hk.out,dC.out,dX.out];rfl)
  go_wp2
  go_ret2
  exact ⟨by rw [E.out];rfl,aP.out⟩
 |false=>
 have E:=Lib.hid (show q7 a b=(V.cmp a b,true) by unfold q7 V.alike;rw [Hk.out,dC.out,dX.out];rfl);have ec:V.cmp a b=_:=rfl
 conv at ec=>rhs;unfold V.cmp
 have Ec:=zh ec;clear ec dC dX Hk
 cases h0:a.kind==0 with
 |true=>
  have E2:=Lib.hid (Ec.out.trans (if_pos (beq_iff_eq.1 h0)))
  go_wp2
  all_goals (go_ret2;exact ⟨by rw [E.out,E2.out];first|(simp [sgn, *];done)|(rw [show sgn (decide (a.int<b.int)) (decide (b.int<a.int))=0 from by unfold sgn;rw [decide_eq_false zo,decide_eq_false zo];rfl];rfl)|(rw [show sgn (decide (a.int<b.int)) (decide (b.int<a.int))=1 from by unfold sgn;rw [decide_eq_false zo,decide_eq_true zo];rfl];rfl),aP.out⟩)
 |false=>
 have h0':¬a.kind=0:=by simpa using h0
 have E0:=Lib.hid (Ec.out.trans (if_neg h0'));clear h0' Ec
 cases h1:a.kind==1 with
 | true=>
  have E2:=Lib.hid (E0.out.trans (if_pos (beq_iff_eq.1 h1)));obtain ⟨l1,hl1⟩:∃x,fLt a.num b.num=x:=⟨_,rfl⟩;obtain ⟨l2,hl2⟩:∃x,fLt b.num a.num=x:=⟨_,rfl⟩;have h3:(FloatKind.f64.format.order a.num b.num==some Ordering.lt)=l1:=hl1;have h4:(FloatKind.f64.format.order a.num b.num==some Ordering.gt)=l2:=(b6T _ _).trans hl2;rw [hl1] at E2;rw [hl2] at E2;clear hl1 hl2;cases l1<;>cases l2
  all_goals
   go_wp2
   go_ret2
   exact ⟨by rw [E.out,E2.out];rfl,aP.out⟩
 |false=>
 have h1':¬a.kind=1:=by simpa using h1
 have E1:=Lib.hid (E0.out.trans (if_neg h1'));clear h1' E0
 cases h2:a.kind==2 with
 |true=>
  have E2:=Lib.hid (E1.out.trans (if_pos (beq_iff_eq.1 h2)))
  go_wp2_with fail
  refine (Zh.out w3).mono ?_;rintro e w4 ⟨rfl,aR⟩;have dN:=Lib.hid (aP.out.trans aR zi);clear aR
  go_wp2
  go_ret2
  exact ⟨by rw [E.out,E2.out];rfl,dN.out⟩
 | false=>
  have h2':¬a.kind=2:=by simpa using h2
  have E2:=Lib.hid (E1.out.trans (if_neg h2'));clear h2' E1;obtain ⟨ya,hya⟩:∃x,a.yes=x:=⟨_,rfl⟩;obtain ⟨yb,hyb⟩:∃x,b.yes=x:=⟨_,rfl⟩;rw [hya] at E2 c4;rw [hyb] at E2 d4;clear hya hyb;cases ya<;>cases yb
  all_goals
   go_wp2
   go_ret2
   exact ⟨by rw [E.out,E2.out];rfl,aP.out⟩
theorem a4M (c:Cnd) (v:V) (hc:c.v.text.size<=9223372036854775807) (hv:v.text.size<=9223372036854775807) (w:World):
 Calls Tryz.prog 48 #[.agg c.cells.toArray,.agg v.cells.toArray] w fun e w'=>e= .returned (.bool (c.holds v))/\Mod (fun _=>False) w w':=by
 obtain ⟨wa,aD,ah,ae,au⟩:=g8 w (.cells c.cells.toArray 87);obtain ⟨wb,hwb,ay,ak,aO⟩:=g8 wa (.cells v.cells.toArray 85);have hmb:=ah.trans ay zi;have hgA:=ay.heap ae id;have hcm:=a0n v c.v hv hc wb;obtain ⟨R,hR⟩:∃R,c.holds v=R:=⟨_,rfl⟩;rw [hR];unfold Cnd.holds at hR;obtain ⟨⟨n,ok⟩,hn⟩:∃p,q7 v c.v=p:=⟨_,rfl⟩;rw [hn] at hcm hR;simp only at hcm hR;have gK:=fun wx=>a1e v.text c.v.text hv hc wx;have hlz:w.heap.size<wa.heap.size:=zo
 have c0:wb.cell? ⟨w.heap.size,0,none⟩=some (.string c.name):=d6 hgA rfl;have c1:wb.cell? ⟨w.heap.size,1,none⟩=some (.int .i64 c.op):=d6 hgA rfl;have c2:wb.cell? ⟨w.heap.size,2,none⟩=some (.int .i64 c.v.kind):=d6 hgA rfl;have c3:wb.cell? ⟨w.heap.size,3,none⟩=some (.int .i64 c.v.int):=d6 hgA rfl;have c4:wb.cell? ⟨w.heap.size,4,none⟩=some (.float .f64 c.v.num):=d6 hgA rfl;have c5:wb.cell? ⟨w.heap.size,5,none⟩=some (.string c.v.text):=d6 hgA rfl;have c6:wb.cell? ⟨w.heap.size,6,none⟩=some (.bool c.v.yes):=d6 hgA rfl;have d0:wb.cell? ⟨wa.heap.size,0,none⟩=some (.int .i64 v.kind):=d6 ak rfl;have d1:wb.cell? ⟨wa.heap.size,1,none⟩=some (.int .i64 v.int):=d6 ak rfl;have d2:wb.cell? ⟨wa.heap.size,2,none⟩=some (.float .f64 v.num):=d6 ak rfl;have d3:wb.cell? ⟨wa.heap.size,3,none⟩=some (.string v.text):=d6 ak rfl;have d4:wb.cell? ⟨wa.heap.size,4,none⟩=some (.bool v.yes):=d6 ak rfl;obtain ⟨aF,bD,bW,nD,aT,jY,HR,Hn,uP⟩:=zh9 aD hwb hmb hgA ak hcm hR hn gK;clear aD hwb hmb hgA ak hcm hR hn gK ah ay ae au aO hc hv
 cases h7:c.op==7 with
 |true=>
  go_enter Tryz.func48,Tryz.ntmps48
  go_wp2_with (first|(rw [show w.alloc _=wa from aF.out])|(rw [show wa.alloc _=wb from bD.out]))
  go_ret;exact ⟨j1 (HR.out.symm.trans (by simp_all)),bW.out⟩
 |false=>
 go_enter Tryz.func48,Tryz.ntmps48
 go_wp2_with (first|(rw [show w.alloc _=wa from aF.out])|(rw [show wa.alloc _=wb from bD.out]))
 refine jY.out.mono ?_;rintro e w2 ⟨rfl,hm2⟩;have hA2:=hm2.heap nD.out id;have hB2:=hm2.heap aT.out id;have aG:=bW.out.trans hm2 zi;have qI:=uP.out w2;obtain ⟨aI,Ba⟩:=zh2 aG qI;clear aG qI hm2 jY nD aT uP aF bD bW c0 c1 c2 c3 c4 c5 c6 d0 d1 d2 d3 d4;have c0:w2.cell? ⟨w.heap.size,0,none⟩=some (.string c.name):=d6 hA2 rfl;have c1:w2.cell? ⟨w.heap.size,1,none⟩=some (.int .i64 c.op):=d6 hA2 rfl;have c2:w2.cell? ⟨w.heap.size,2,none⟩=some (.int .i64 c.v.kind):=d6 hA2 rfl;have c3:w2.cell? ⟨w.heap.size,3,none⟩=some (.int .i64 c.v.int):=d6 hA2 rfl;have c4:w2.cell? ⟨w.heap.size,4,none⟩=some (.float .f64 c.v.num):=d6 hA2 rfl;have c5:w2.cell? ⟨w.heap.size,5,none⟩=some (.string c.v.text):=d6 hA2 rfl;have c6:w2.cell? ⟨w.heap.size,6,none⟩=some (.bool c.v.yes):=d6 hA2 rfl;have d0:w2.cell? ⟨wa.heap.size,0,none⟩=some (.int .i64 v.kind):=d6 hB2 rfl;have d1:w2.cell? ⟨wa.heap.size,1,none⟩=some (.int .i64 v.int):=d6 hB2 rfl;have d2:w2.cell? ⟨wa.heap.size,2,none⟩=some (.float .f64 v.num):=d6 hB2 rfl;have d3:w2.cell? ⟨wa.heap.size,3,none⟩=some (.string v.text):=d6 hB2 rfl;have d4:w2.cell? ⟨wa.heap.size,4,none⟩=some (.bool v.yes):=d6 hB2 rfl;clear hA2 hB2
 cases ok with
 |false=>
  go_wp2
  all_goals (go_ret;refine ⟨j1 (HR.out.symm.trans (by (try simp only [beq_eq_false_iff_ne,ne_eq] at*);simp [*])),aI.out⟩)
 | true=>
  cases hvk:v.kind==2 with
  |false=>
   go_wp2
   all_goals (go_ret;refine ⟨j1 (HR.out.symm.trans (by (try simp only [beq_iff_eq,beq_eq_false_iff_ne,ne_eq] at*);simp [*])),aI.out⟩)
  |true=>
   go_wp2_with (refine Ba.out.mono ?_;rintro e w3 ⟨rfl,rfl⟩)
   all_goals (go_ret;refine ⟨j1 (HR.out.symm.trans (by (try simp only [beq_iff_eq,beq_eq_false_iff_ne,ne_eq] at*);simp [*])),aI.out⟩)
theorem a18 (c:Cnd) (w:World):Calls Tryz.prog 78 #[.agg c.cells.toArray] w fun e w'=>e= .returned (.bool c.voidB)/\Mod (fun _=>False) w w':=by
 obtain ⟨wa,aD,ah,ae,au⟩:=g8 w (.cells c.cells.toArray 87);have c0:wa.cell? ⟨w.heap.size,0,none⟩=some (.string c.name):=d6 ae rfl;have c1:wa.cell? ⟨w.heap.size,1,none⟩=some (.int .i64 c.op):=d6 ae rfl;have c2:wa.cell? ⟨w.heap.size,2,none⟩=some (.int .i64 c.v.kind):=d6 ae rfl;have c3:wa.cell? ⟨w.heap.size,3,none⟩=some (.int .i64 c.v.int):=d6 ae rfl;have c4:wa.cell? ⟨w.heap.size,4,none⟩=some (.float .f64 c.v.num):=d6 ae rfl;have c5:wa.cell? ⟨w.heap.size,5,none⟩=some (.string c.v.text):=d6 ae rfl;have c6:wa.cell? ⟨w.heap.size,6,none⟩=some (.bool c.v.yes):=d6 ae rfl;have hvv:=a3D c.v wa;obtain ⟨R,hR⟩:∃R,c.voidB=R:=⟨_,rfl⟩;rw [hR];unfold Cnd.voidB at hR;obtain ⟨vd,hvd⟩:∃b,c.v.void=b:=⟨_,rfl⟩;rw [hvd] at hvv hR;obtain ⟨aF,aB,aH,uQ,HR⟩:=zh5 aD ah ae hvv hR;clear aD ah ae hvv hR hvd au
 cases h7:c.op==7 with
 |true=>
  have Ph:(c.op !=7)=false:=by simp [bne,h7]
  have h6:(c.op==6)=false:=by rw [beq_iff_eq] at h7;rw [h7];rfl
  go_enter Tryz.func78,Tryz.ntmps78
  go_wp2_with (rw [show w.alloc _=wa from aF.out])
  go_ret;exact ⟨j1 (HR.out.symm.trans (by simp [*])),aB.out⟩
 | false=>
  have Ph:(c.op !=7)=true:=by simp [bne,h7]
  go_enter Tryz.func78,Tryz.ntmps78
  go_wp2_with (rw [show w.alloc _=wa from aF.out])
  refine uQ.out.mono ?_;rintro e w2 ⟨rfl,hm2⟩;have hg2:=hm2.heap aH.out id;have d1:w2.cell? ⟨w.heap.size,1,none⟩=some (.int .i64 c.op):=d6 hg2 rfl;have d2:w2.cell? ⟨w.heap.size,2,none⟩=some (.int .i64 c.v.kind):=d6 hg2 rfl;have bq:=Lib.hid (aB.out.trans hm2 zi);clear hm2 hg2 c0 c1 c2 c3 c4 c5 c6
  cases vd with
  |true=>
   go_wp2
   go_ret;exact ⟨j1 (HR.out.symm.trans (by simp [*])),bq.out⟩
  | false=>
   cases h6:c.op==6 with
   |true=>
    go_wp2
    go_ret;exact ⟨j1 (HR.out.symm.trans (by simp [*])),bq.out⟩
   |false=>
    go_wp2
    go_ret;exact ⟨j1 (HR.out.symm.trans (by simp [*])),bq.out⟩
end Go.Proofs.YtebhabpahfmodaaGreatDoor
