/- Lemmas. -/
import Derived.Test.YtdmjoodhaeijmaaGreatDoorZn4
import Derived.Lib.Strings
set_option maxHeartbeats 40000000
set_option maxRecDepth 20000
namespace Go.Proofs.YtdmjoodhaeijmaaGreatDoor
open Go.RowKit
def a0k (s p:ByteArray):Bool:=p.data.toList.isPrefixOf s.data.toList
theorem a5P {s p:ByteArray} (h:s.size<p.size):a0k s p=false:=by
 unfold a0k;rw [Bool.eq_false_iff];intro hp;have:=(List.isPrefixOf_iff_prefix.1 hp).length_le;have h1:p.data.toList.length=p.size:=rfl;have h2:s.data.toList.length=s.size:=rfl;omega
theorem a7c {s p:ByteArray}:((s.extract 0 p.size).toList==p.toList)=a0k s p:=by
 unfold a0k;rw [ByteArray.toList_eq,ByteArray.toList_eq,Bool.eq_iff_iff,beq_iff_eq,List.isPrefixOf_iff_prefix,List.prefix_iff_eq_take]
 have h1:(s.extract 0 p.size).data.toList=s.data.toList.take p.size:=by
  rw [ByteArray.data_extract,Array.toList_extract];simp
 rw [h1];have h2:p.data.toList.length=p.size:=rfl;rw [h2];exact ⟨fun h=>h.symm,fun h=>h.symm⟩
theorem a8r (s p:ByteArray) (hs:s.size<=9223372036854775807) (hp:p.size<=9223372036854775807) (w:World):Calls Tryz.prog 194 #[.string s,.string p] w fun e w'=>e= .returned (.bool (a0k s p))/\w'=w:=by
 have hs':(s.size:Int)<=9223372036854775807:=zo
 have hp':(p.size:Int)<=9223372036854775807:=zo
 by_cases h:p.size<=s.size
 ·have h':(p.size:Int)<=s.size:=zo
  rw [<-a7c];clear hs hp
  go_enter Tryz.func194,Tryz.ntmps194
  go_wp2
  go_ret;exact ⟨rfl,rfl⟩
 have h':(s.size:Int)<p.size:=zo
 rw [a5P zo];clear hs hp h
 go_enter Tryz.func194,Tryz.ntmps194
 go_wp2
 go_ret;exact ⟨rfl,rfl⟩
theorem a0Z (s p:ByteArray) (hs:s.size<=9223372036854775807) (hp:p.size<=9223372036854775807) (w:World):Calls Tryz.prog 168 #[.string s,.string p] w fun e w'=>e= .returned (.bool (a0k s p))/\w'=w:=by
 have Hc:=Lib.hid (a8r s p hs hp w);clear hs hp
 go_enter Tryz.func168,Tryz.ntmps168
 go_wp2_with fail
 refine Hc.out.mono ?_;rintro e w' ⟨rfl,rfl⟩
 go_wp2
 go_ret;exact ⟨rfl,rfl⟩
def A7 (s top:ByteArray):Bool:=top.toList.isEmpty||(s.toList==top.toList||(a0k s top&&s.data.toList[top.size]? ==some 47))
theorem a1M (s top:ByteArray) (hs:s.size<=9223372036854775807) (hp:top.size<=9223372036854775807) (w:World):Calls Tryz.prog 146 #[.string s,.string top] w fun e w'=>e= .returned (.bool (A7 s top))/\w'=w:=by
 have hc:=a0Z s top hs hp w
 cases h1:top.toList.isEmpty with
 |true=>
  rw [show A7 s top=true by unfold A7;rw [h1];rfl];clear hc hs hp
  go_enter Tryz.func146,Tryz.ntmps146
  go_wp2
  go_ret;exact ⟨rfl,rfl⟩
 |false=>
 cases h2:s.toList==top.toList with
 |true=>
  rw [show A7 s top=true by unfold A7;rw [h1,h2];rfl];clear hc hs hp
  go_enter Tryz.func146,Tryz.ntmps146
  go_wp2
  go_ret;exact ⟨rfl,rfl⟩
 |false=>
 have hu:A7 s top=(a0k s top&&s.data.toList[top.size]? ==some 47):=by unfold A7;rw [h1,h2];rfl
 rw [hu]
 cases h3:a0k s top with
 |false=>
  rw [h3] at hc;have Hc:=zh hc;rw [Bool.false_and];clear hc hs hp hu h3
  go_enter Tryz.func146,Tryz.ntmps146
  go_wp2_with fail
  refine Hc.out.mono ?_;rintro e w' ⟨rfl,rfl⟩
  go_wp2
  go_ret;exact ⟨rfl,rfl⟩
 | true=>
  rw [h3] at hc
  have hlt:top.size<s.size:=by
   have h4:=List.isPrefixOf_iff_prefix.1 (show top.data.toList.isPrefixOf s.data.toList=true from h3);rcases Nat.lt_or_eq_of_le h4.length_le with h5|h5
   ·exact h5
   have:=h4.eq_of_length h5;rw [ByteArray.toList_eq,ByteArray.toList_eq,this,beq_self_eq_true] at h2;cases h2
  have hlt':(top.size:Int)<s.size:=zo
  have Qp:(top.size:Int)<=9223372036854775807:=zo
  have hs':(s.size:Int)<=9223372036854775807:=zo
  have hg:s.data.toList[top.size]? =some s[top.size]:=zz5 hlt
  have hb:(s.data.toList[top.size]? ==some 47)=((s[top.size].toNat:Int)==47):=by
   rw [hg,Bool.eq_iff_iff,beq_iff_eq,beq_iff_eq];constructor
   ·intro h;have h:=Option.some.inj h;rw [h];rfl
   intro h;congr 1;exact UInt8.toNat.inj (by have:(47:UInt8).toNat=47:=rfl;omega)
  rw [Bool.true_and,hb];have Hc:=zh hc;clear hc hs hp hu h3 hg hb
  go_enter Tryz.func146,Tryz.ntmps146
  go_wp2_with fail
  refine Hc.out.mono ?_;rintro e w' ⟨rfl,rfl⟩
  go_wp2
  go_ret;exact ⟨rfl,rfl⟩
theorem a8s (f:Cnd->Bool) (w:World) (sc:ByteArray) (cv:Value) (l:List Cnd) (es:ByteArray) (ev:Value) (ea:Option Addr) (en ec:Nat) (hev:ev= .slice ea en ec) (hv:i8 w 7 cv l.length (q8 l)) (hll:l.length<=9223372036854775807) (hsc:sc.size<=9223372036854775807) (hes:es.size<=9223372036854775807)
 (hm:∀c∈l,∀wx,Mod (fun _=>False) w wx->Calls Tryz.prog 149 #[.agg c.cells.toArray,.agg #[.string es,ev]] wx fun e w'=>e= .returned (.bool (f c))/\Mod (fun _=>False) wx w'):
 Calls Tryz.prog 119 #[.agg #[.string sc,cv],.agg #[.string es,ev]] w fun e w'=>e= .returned (.bool (l.all f&&A7 es sc))/\Mod (fun _=>False) w w':=by
 subst hev;obtain ⟨a,cap,rfl,hcap⟩:∃a c,cv= .slice a l.length c/\l.length<=c:=by obtain ⟨-,a,c,h,h2, -⟩:=hv;exact ⟨a,c,h,h2⟩
 have df:(l.length:Int)<=9223372036854775807:=zo
 have bG:(l.length:Int)<=cap:=zo
 obtain ⟨wa,ak,ae,aa,ah⟩:=g6 w (.cells #[.string sc,.slice a l.length cap] 34);obtain ⟨wb,hwb,ay,aA,aU⟩:=g6 wa (.cells #[.string es,.slice ea en ec] 39);have hmb:=ae.trans ay zi;have hva:=hv.mod hmb zi;have hg:=ay.heap aa id;have c0:wb.cell? ⟨w.heap.size,0,none⟩=some (.string sc):=d6 hg rfl;have c1:wb.cell? ⟨w.heap.size,1,none⟩=some (.slice a l.length cap):=d6 hg rfl;obtain ⟨R,hR⟩:∃R,(l.all f&&A7 es sc)=R:=⟨_,rfl⟩;rw [hR];have hqz:w.heap.size<wa.heap.size:=zo
 refine hh8 hv hm ak hwb hmb aa aA hva fun Hv Hm aB bN eQ aC bq dE=> ?_;refine hh6 hR hg hsc hes ae ay fun HR Hg JY VQ ai sK=> ?_;clear hv hm ak hwb hmb aa aA hva hR hg hsc hes ae ay ah aU hll
 go_enter Tryz.func119,Tryz.ntmps119
 go_wp2_with (first|(rw [show w.alloc _=wa from aB.out])|(rw [show wa.alloc _=wb from bN.out]))
 go_loopw [10] (fun i wr=>∃j:Nat,i= .int .i64 j/\j<=l.length/\Mod (fun _=>False) wb wr/\(∀(k:Nat) (x:Cnd),k<j->l[k]? =some x->f x=true)) (fun i _=>l.length - (intOf i).toNat)
 case atStart=>exact ⟨0,rfl,Nat.zero_le _,Mod.refl _ _,fun k x hk=>zo⟩
 case round=>
  obtain ⟨j,rfl,hj,hmr,hall⟩:=hrel;by_cases hlt:j<l.length
  ·have hlt':(j:Int)<l.length:=zo
   obtain ⟨x,hxj⟩:∃x,l[j]? =some x:=⟨_,zz5 hlt⟩;have hxm:=zz8 hxj;obtain ⟨g,off,rfl,hf⟩:∃g off,a=some ⟨g,off,none⟩/\d8 wr g (off+j*7) x.cells:=U4 (dE.out.mod hmr zi) hxj;obtain ⟨wz,hwz,ag,aj,aF⟩:=g6 wr (.cells x.cells.toArray 126);have hmz:=hmr.trans ag zi;have hge:=hmz.heap bq.out id;have e0:wz.cell? ⟨wa.heap.size,0,none⟩=some (.string es):=d6 hge rfl;have e1:wz.cell? ⟨wa.heap.size,1,none⟩=some (.slice ea en ec):=d6 hge rfl;have hcr:=Hm.out x hxm wz (eQ.out.trans hmz zi);refine hh8 hmr hall hxj hxm hf hwz ag aj fun aL aO dX iJ Hf aX bE aJ=> ?_;refine hh2 hmz hcr fun bC iP=> ?_;clear hmr hall hxj hxm hf hwz ag aj hmz hcr aF hge c0 c1
   go_wp2_with (first|((with_reducible refine e9 126 (.tmp 12) ?_);refine ⟨g,off+j*7,rfl,x.cells,Hf.out,zk,zk, ?_⟩)|((with_reducible refine d9 126 (.tmp 6) (.tmp 13) ?_);refine ⟨rfl,x.cells,rfl,rfl,zk,rfl, ?_⟩;rw [aX.out])|((with_reducible refine e9 126 (.tmp 6) ?_);refine ⟨wr.heap.size,0,rfl,x.cells,d8.row aJ.out,zk,zk, ?_⟩))
   refine iP.out.mono ?_;rintro e w3 ⟨rfl,au⟩;have aZ:=Lib.hid (bC.out.trans au zi);clear au e0 e1
   cases hs:f x with
   | true=>
    have Hs:=zh hs;clear hs
    go_wp2_with fail
    go_roundw
    case rel=>
     refine ⟨j+1,by go_num,hlt,aZ.out,fun k x' hk hx'=> ?_⟩;rcases Nat.lt_succ_iff_lt_or_eq.1 hk with hk|rfl
     ·exact aO.out k x' hk hx'
     rw [dX.out] at hx';cases hx';exact Hs.out
    case measure=>simp [intOf];omega
   |false=>
    have Hs:=zh hs;clear hs
    go_wp2
    go_ret;refine ⟨?_,eQ.out.trans aZ.out zi⟩;rw [<-HR.out,List.all_eq_false.2 ⟨x,iJ.out,by rw [Hs.out];decide⟩,Bool.false_and];rfl
  obtain rfl:j=l.length:=zo
  have hgr:=hmr.heap Hg.out id;have hge:=hmr.heap bq.out id;have c0:wr.cell? ⟨w.heap.size,0,none⟩=some (.string sc):=d6 hgr rfl;have e0:wr.cell? ⟨wa.heap.size,0,none⟩=some (.string es):=d6 hge rfl;have hun:=a1M es sc VQ.out JY.out wr
  have hfr:R=A7 es sc:=by
   rw [<-HR.out,List.all_eq_true.2 fun x hx=>by
    obtain ⟨k,hk⟩:=List.mem_iff_getElem?.1 hx
    exact hall k x (zz6 hk).1 hk,Bool.true_and]
  have aP:=eQ.out.trans hmr zi;refine hh3 aP hun hfr fun dK Cn aW=> ?_;clear aP hun hfr hmr hall hgr hge
  go_wp2_with fail
  refine Cn.out.mono ?_;rintro e w3 ⟨rfl,rfl⟩
  go_wp2
  go_ret;refine ⟨?_,dK.out⟩;rw [aW.out];rfl
def K0 (l:List Ru) (tenant:Int) (who:ByteArray):Option Int:=(l.reverse.find? fun r=>r.of 0 tenant who).map Ru.broker
theorem a7d {l:List Ru} {tenant:Int} {who:ByteArray} {j:Nat} {x:Ru} (hx:l[j]? =some x) (h:x.of 0 tenant who=true) (hr:∀(k:Nat) (y:Ru),j<k->l[k]? =some y->y.of 0 tenant who=false):K0 l tenant who=some x.broker:=by
 have hj:=(zz6 hx).1
 have hs:l=l.take j++x::l.drop (j+1):=by
  conv=>lhs;rw [<-List.take_append_drop j l,List.drop_eq_getElem_cons hj]
  rw [zz5 hj] at hx;cases hx;rfl
 unfold K0
 rw [hs,List.reverse_append,List.reverse_cons,zz12,List.find?_append,List.find?_eq_none.2 (fun y hy=>by
  obtain ⟨k,hk⟩:=List.mem_iff_getElem?.1 (List.mem_reverse.1 hy);rw [List.getElem?_drop] at hk;rw [hr _ y zo hk]
  decide)]
 simp [h]
theorem a7e {l:List Ru} {tenant:Int} {who:ByteArray} (hr:∀(k:Nat) (y:Ru),l[k]? =some y->y.of 0 tenant who=false):K0 l tenant who=none:=by
 unfold K0
 rw [List.find?_eq_none.2 (fun y hy=>by
  obtain ⟨k,hk⟩:=List.mem_iff_getElem?.1 (List.mem_reverse.1 hy);rw [hr k y hk]
  decide)]
 rfl
theorem a9b (w:World) (v:Value) (l:List Ru) (hv:Q5 w v l) (hll:l.length<=9223372036854775807) (tenant:Int) (who:ByteArray):
 Calls Tryz.prog 52 #[v,.int .i64 tenant,.string who] w fun e w'=>e= .returned (.tuple #[.int .i64 ((K0 l tenant who).getD 0),.bool (K0 l tenant who).isSome])/\Mod (fun _=>False) w w':=by
 obtain ⟨a,cap,rfl,hcap⟩:∃a c,v= .slice a l.length c/\l.length<=c:=by obtain ⟨-,a,c,h,h2, -⟩:=hv.rd;exact ⟨a,c,h,h2⟩
 have df:(l.length:Int)<=9223372036854775807:=zo
 have bG:(l.length:Int)<=cap:=zo
 have hl0:(0:Int)<=l.length:=zo
 obtain ⟨R,hR⟩:∃R,K0 l tenant who=R:=⟨_,rfl⟩;rw [hR];refine hh2 hv hR fun Hv HR=> ?_;clear hv hR hll
 go_enter Tryz.func52,Tryz.ntmps52
 go_wp2_with fail
 go_loopw [8] (fun i wr=>∃x:Int,i= .int .i64 x/\ -1<=x/\x<l.length/\Mod (fun _=>False) w wr/\(∀(k:Nat) (y:Ru),x<k->l[k]? =some y->y.of 0 tenant who=false)) (fun i _=>(intOf i+1).toNat)
 case atStart=>exact ⟨(l.length:Int) - 1,rfl,zo,zo,Mod.refl _ _,fun k y hk hy=>by have:=(zz6 hy).1;omega⟩
 case round=>
  obtain ⟨x,rfl,hx0,hxl,hmr,hall⟩:=hrel;by_cases hlt:0<=x
  ·obtain ⟨j,rfl⟩:∃j:Nat,x=j:=⟨x.toNat,zo⟩;obtain ⟨r,Gs⟩:∃x,l[j]? =some x:=⟨_,zz5 zo⟩;obtain ⟨g,off,rfl,hf⟩:∃g off,a=some ⟨g,off,none⟩/\d8 wr g (off+j*8) r.cells:=a0a (Hv.out.mod hmr) Gs;have hof:=b5o r 0 tenant who wr;refine hh5 hmr hall Gs hf hof fun aL aO Qq Hf rE=> ?_;clear hmr hall Gs hf hof hx0
   go_wp2_with ((with_reducible refine e9 36 (.tmp 18) ?_);refine ⟨g,off+j*8,rfl,r.cells,Hf.out,zk,zk, ?_⟩)
   refine rE.out.mono ?_;rintro e w3 ⟨rfl,au⟩;have hf3:=Hf.out.mod au id;have b3:w3.cell? ⟨g,off+j*8+3,none⟩=some (.int .i64 r.broker):=hf3 3 _ rfl;have aZ:=Lib.hid (aL.out.trans au zi);clear au hf3
   cases hs:r.of 0 tenant who with
   |true=>
    have Hs:=zh hs;clear hs
    go_wp2
    go_ret2
    refine ⟨?_,aZ.out⟩;rw [<-HR.out,a7d Qq.out Hs.out (fun k y hk hy=>aO.out k y zo hy)];rfl
   | false=>
    have Hs:=zh hs;clear hs
    go_wp2_with fail
    go_roundw
    case rel=>
     refine ⟨(j:Int) - 1,rfl,zo,zo,aZ.out,fun k y hk hy=> ?_⟩;rcases Nat.lt_or_eq_of_le (show j<=k by omega) with hk|rfl
     ·exact aO.out k y zo hy
     rw [Qq.out] at hy;cases hy;exact Hs.out
    case measure=>simp [intOf];try omega
  have hlt':x<0:=zo
  obtain ⟨aL,aO⟩:=zh2 hmr hall;clear hmr hall
  go_wp2
  go_ret2
  refine ⟨?_,aL.out⟩;rw [<-HR.out,a7e (fun k y hy=>aO.out k y zo hy)];rfl
def a1N (r:Nat):Nat:=(if r<2^52 then r else 2^52+r%2^52)<<<(r / 2^52 - 1)
theorem a7f {r s:Nat} (h:r<s):a1N r<a1N s:=by
 unfold a1N;rw [Nat.shiftLeft_eq,Nat.shiftLeft_eq];have hr:=Nat.div_add_mod r (2^52);have hs:=Nat.div_add_mod s (2^52);have hrm:=Nat.mod_lt r (show 0<2^52 by decide);have hsm:=Nat.mod_lt s (show 0<2^52 by decide);have hde:r / 2^52<=s / 2^52:=Nat.div_le_div_right zo
 generalize r / 2^52=e at*
 generalize s / 2^52=d at*
 generalize r%2^52=p at*
 generalize s%2^52=q at*
 rcases Nat.lt_or_eq_of_le hde with hlt|rfl
 ·have h2:¬s<2^52:=zo
  rw [if_neg h2];have hp:2^(e - 1)<=2^(d - 1):=Nat.pow_le_pow_right zd zo;by_cases he:e=0
  ·subst he;have h1:r<2^52:=zo
   rw [if_pos h1];have h3:1<=2^(d - 1):=Nat.one_le_two_pow;have h4:r*2^(0 - 1)=r:=by simp
   rw [h4]
   calc r<2^52:=h1
    _=2^52*1:=by rw [Nat.mul_one]
    _<=(2^52+q)*2^(d - 1):=Nat.mul_le_mul zo h3
  have h1:¬r<2^52:=zo
  rw [if_neg h1];have h3:2^(d - 1)=2^(d - 1 - e)*2^e:=by rw [<-Nat.pow_add];congr 1;omega
  have h4:2^e=2*2^(e - 1):=by
   conv=>lhs;rw [show e=(e - 1)+1 by omega,Nat.pow_succ]
   rw [Nat.mul_comm]
  have h5:1<=2^(d - 1 - e):=Nat.one_le_two_pow;have h6:1<=2^(e - 1):=Nat.one_le_two_pow
  have h7:2*2^(e - 1)<=2^(d - 1):=by
   rw [h3,h4]
   calc 2*2^(e - 1)=1*(2*2^(e - 1)):=by rw [Nat.one_mul]
    _<=2^(d - 1 - e)*(2*2^(e - 1)):=Nat.mul_le_mul_right _ h5
  calc (2^52+p)*2^(e - 1)<(2^52*2)*2^(e - 1):=Nat.mul_lt_mul_of_pos_right zo zo
   _=2^52*(2*2^(e - 1)):=by rw [Nat.mul_assoc]
   _<=2^52*2^(d - 1):=Nat.mul_le_mul_left _ h7
   _<=(2^52+q)*2^(d - 1):=Nat.mul_le_mul_right _ zo
 have h6:0<2^(e - 1):=Nat.two_pow_pos _;refine Nat.mul_lt_mul_of_pos_right ?_ h6;by_cases he:e=0
 ·subst he;rw [if_pos zo,if_pos zo];exact h
 rw [if_neg zo,if_neg zo];omega
theorem a2h {r s:Nat} (h:a1N r=a1N s):r=s:=by
 rcases Nat.lt_trichotomy r s with h1|h1|h1
 ·have:=a7f h1;omega
 ·exact h1
 have:=a7f h1;omega
theorem a8t {r:Nat}:a1N r=0↔r=0:=⟨fun h=>a2h (h.trans zd),fun h=>by subst h;decide⟩
def O3 (x:Nat):Bool:=x / 2^63%2==1
def r6 (x:Nat):Nat:=x%2^63
def a1a (x:Nat):Prop:=r6 x<=9218868437227405312
theorem a0K {x:Nat} (h:r6 x<9218868437227405312):
 FloatKind.f64.format.read x= .number (O3 x) (if r6 x<2^52 then r6 x else 2^52+r6 x%2^52) (-1074+(r6 x / 2^52 - 1:Nat)):=by
 have e1:FloatKind.f64.format.signWeight=2^63:=zd
 have e2:FloatKind.f64.format.binade=2^52:=zd
 have e3:FloatKind.f64.format.infRung=9218868437227405312:=zd
 have e4:FloatKind.f64.format.leastPlace= -1074:=zd
 unfold Ieee.Format.read;rw [e1,e2,e3,e4];show (if r6 x<2^52 then Ieee.Datum.number (O3 x) (r6 x) (-1074) else if r6 x<9218868437227405312 then Ieee.Datum.number (O3 x) (2^52+r6 x%2^52) (-1074+((r6 x / 2^52 - 1:Nat):Int)) else if r6 x=9218868437227405312 then Ieee.Datum.infinity (O3 x) else .nan (O3 x) (r6 x - 9218868437227405312))=_;by_cases h1:r6 x<2^52
 ·rw [if_pos h1,if_pos h1,Nat.div_eq_of_lt h1];rfl
 rw [if_neg h1,if_neg h1,if_pos h]
theorem a0L {x:Nat} (h:r6 x=9218868437227405312):FloatKind.f64.format.read x= .infinity (O3 x):=by
 have e1:FloatKind.f64.format.signWeight=2^63:=zd
 have e2:FloatKind.f64.format.binade=2^52:=zd
 have e3:FloatKind.f64.format.infRung=9218868437227405312:=zd
 unfold Ieee.Format.read;rw [e1,e2,e3];show (if r6 x<2^52 then Ieee.Datum.number (O3 x) (r6 x) _ else if r6 x<9218868437227405312 then Ieee.Datum.number (O3 x) (2^52+r6 x%2^52) _ else if r6 x=9218868437227405312 then Ieee.Datum.infinity (O3 x) else .nan (O3 x) (r6 x - 9218868437227405312))=_;rw [if_neg zo,if_neg zo,if_pos h]
theorem b3h {x:Nat} (h:9218868437227405312<r6 x):∃n,FloatKind.f64.format.read x= .nan (O3 x) n:=by
 have e1:FloatKind.f64.format.signWeight=2^63:=zd
 have e2:FloatKind.f64.format.binade=2^52:=zd
 have e3:FloatKind.f64.format.infRung=9218868437227405312:=zd
 unfold Ieee.Format.read;rw [e1,e2,e3];refine ⟨r6 x - 9218868437227405312, ?_⟩;show (if r6 x<2^52 then Ieee.Datum.number (O3 x) (r6 x) _ else if r6 x<9218868437227405312 then Ieee.Datum.number (O3 x) (2^52+r6 x%2^52) _ else if r6 x=9218868437227405312 then Ieee.Datum.infinity (O3 x) else .nan (O3 x) (r6 x - 9218868437227405312))=_;rw [if_neg zo,if_neg zo,if_neg zo]
theorem a9c {x:Nat}:fEq x x=true↔a1a x:=by
 unfold a1a fEq Ieee.Format.order;rcases Nat.lt_trichotomy (r6 x) 9218868437227405312 with h|h|h
 ·rw [a0K h];simp only [Ieee.Datum.order,beq_iff_eq,Option.some.injEq];constructor
  ·intro _;omega
  intro _;exact Int.compare_eq_eq.2 rfl
 ·rw [a0L h];simp only [Ieee.Datum.order,beq_iff_eq,Option.some.injEq];constructor
  ·intro _;omega
  intro _;exact Nat.compare_eq_eq.2 rfl
 obtain ⟨n,hn⟩:=b3h h;rw [hn];simp only [Ieee.Datum.order];constructor
 ·intro h;cases h
 intro _;omega
theorem a9d (m a b:Nat) (hb:b<=a):m<<<a=(m<<<(a - b))*2^b:=by
 rw [Nat.shiftLeft_eq,Nat.shiftLeft_eq,Nat.mul_assoc,<-Nat.pow_add];congr 2;omega
theorem b0G {s t:Bool} {m n i j:Nat}:Ieee.signed s m ((-1074+(i:Int)) - min (-1074+(i:Int)) (-1074+(j:Int))).toNat=Ieee.signed t n ((-1074+(j:Int)) - min (-1074+(i:Int)) (-1074+(j:Int))).toNat↔m<<<i=n<<<j/\(s=t\/m<<<i=0):=by
 have hi:((-1074+(i:Int)) - min (-1074+(i:Int)) (-1074+(j:Int))).toNat=i - min i j:=zo
 have hj:((-1074+(j:Int)) - min (-1074+(i:Int)) (-1074+(j:Int))).toNat=j - min i j:=zo
 rw [hi,hj];have h1:=a9d m i (min i j) (Nat.min_le_left _ _);have h2:=a9d n j (min i j) (Nat.min_le_right _ _);have hp:0<2^min i j:=Nat.two_pow_pos _;rw [h1,h2];clear h1 h2 hi hj;unfold Ieee.signed
 generalize m<<<(i - min i j)=A
 generalize n<<<(j - min i j)=B
 generalize 2^min i j=P at hp
 have Qr:A*P=B*P↔A=B:=⟨fun h=>Nat.eq_of_mul_eq_mul_right hp h,fun h=>by rw [h]⟩
 have Be:A*P=0↔A=0:=⟨fun h=>by
  rcases Nat.mul_eq_zero.1 h with h|h
  ·exact h
  ·omega,fun h=>by rw [h,Nat.zero_mul]⟩
 rw [Qr,Be];clear Qr Be hp;cases s<;>cases t<;>simp<;>omega
theorem b44 {x y:Nat} (hx:x<2^64) (hy:y<2^64) (hnx:a1a x) (hny:a1a y):fEq x y=true↔x=y\/(r6 x=0/\r6 y=0):=by
 have VR:x=(if O3 x then 2^63 else 0)+r6 x:=by
  unfold O3 r6;split
  ·rename_i h;rw [beq_iff_eq] at h;omega
  rename_i h;rw [beq_iff_eq] at h;omega
 have VS:y=(if O3 y then 2^63 else 0)+r6 y:=by
  unfold O3 r6;split
  ·rename_i h;rw [beq_iff_eq] at h;omega
  rename_i h;rw [beq_iff_eq] at h;omega
 have hxy:x=y↔O3 x=O3 y/\r6 x=r6 y:=by
  constructor
  ·intro h;subst h;exact ⟨rfl,rfl⟩
  rintro ⟨h1,h2⟩;rw [VR,VS,h1,h2]
 unfold a1a at hnx hny;rw [hxy];unfold fEq Ieee.Format.order;rcases Nat.lt_or_eq_of_le hnx with h1|h1<;>rcases Nat.lt_or_eq_of_le hny with h2|h2
 ·rw [a0K h1,a0K h2];simp only [Ieee.Datum.order,beq_iff_eq,Option.some.injEq];rw [Int.compare_eq_eq,b0G];show a1N (r6 x)=a1N (r6 y)/\(O3 x=O3 y\/a1N (r6 x)=0)↔_;rw [a8t];constructor
  ·rintro ⟨h3,h4|h4⟩
   ·exact .inl ⟨h4,a2h h3⟩
   exact .inr ⟨h4,by rw [<-a2h h3];exact h4⟩
  rintro (⟨h3,h4⟩|⟨h3,h4⟩)
  ·exact ⟨by rw [h4],.inl h3⟩
  exact ⟨by rw [h3,h4],.inr h3⟩
 ·rw [a0K h1,a0L h2];simp only [Ieee.Datum.order,beq_iff_eq,Option.some.injEq];constructor
  ·intro h;cases hs:O3 y<;>rw [hs] at h<;>cases h
  rintro (⟨_,h⟩|⟨_,h⟩)<;>omega
 ·rw [a0L h1,a0K h2];simp only [Ieee.Datum.order,beq_iff_eq,Option.some.injEq];constructor
  ·intro h;cases hs:O3 x<;>rw [hs] at h<;>cases h
  rintro (⟨_,h⟩|⟨h,_⟩)<;>omega
 rw [a0L h1,a0L h2];simp only [Ieee.Datum.order,beq_iff_eq,Option.some.injEq];rw [Nat.compare_eq_eq];constructor
 ·intro h;refine .inl ⟨?_,zo⟩;cases hs:O3 x<;>cases ht:O3 y<;>rw [hs,ht] at h<;>first|rfl|exact absurd h zd
 rintro (⟨h,_⟩|⟨h,_⟩)
 ·rw [h]
 omega
theorem a7g {x:Nat} (hx:x<2^64) (hn:a1a x):fEq x 0=true↔r6 x=0:=by
 rw [b44 hx zd hn (by unfold a1a r6;decide)];have h0:r6 0=0:=zd
 constructor
 ·rintro (h|h)
  ·rw [h];exact h0
  exact h.1
 intro h;exact .inr ⟨h,h0⟩
theorem a8u {x:Nat} (hx:x<2^64) (hn:a1a x):m8 x=if r6 x=0 then 0 else x:=by
 unfold m8;rw [if_pos (a9c.2 hn)];by_cases h:r6 x=0
 ·rw [if_pos h,if_pos ((a7g hx hn).2 h)]
 rw [if_neg h,if_neg (fun h'=>h ((a7g hx hn).1 h'))]
end Go.Proofs.YtdmjoodhaeijmaaGreatDoor
