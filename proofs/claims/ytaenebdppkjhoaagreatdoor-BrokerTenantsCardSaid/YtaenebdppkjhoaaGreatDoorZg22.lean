/- Lemmas. -/
import Derived.Test.YtaenebdppkjhoaaGreatDoorZg20
import Derived.Test.YtaenebdppkjhoaaGreatDoorZg19
namespace Go.Proofs.YtaenebdppkjhoaaGreatDoor
set_option maxRecDepth 20000
set_option maxHeartbeats 40000000
section
open Go.RowKit
theorem X1.after {w w0 w':World} {p:Nat} {v v':Value} (hal:Mod (fun _=>False) w w0) (h:X1 w0 p v w' v'):X1 w p v w' v':=
 ⟨(hal.mono (fun _ _ h=>h.elim)).trans h.mod (fun _ _ h=>h),fun k hk=>(h.new k hk).imp id (fun h=>by have:=hal.size;omega)⟩
def b0M:List UInt8->Option (ByteArray×List UInt8)
 |[]=>none
 |x::t=>if x.toNat<=t.length then some (str (t.take x.toNat),t.drop x.toNat) else none
def D1:Nat->List UInt8->Option (List Att×List UInt8)
 |0,bs=>some ([],bs)
 |n+1,bs=>(b0M bs).bind fun p=>(b0L p.2).bind fun q=>(D1 n q.2).map fun z=>(⟨p.1,q.1⟩::z.1,z.2)
theorem a3G (bs:List UInt8):D1 0 bs=some ([],bs):=rfl
theorem a3H (n:Nat) (bs:List UInt8):D1 (n+1) bs=(b0M bs).bind fun p=>(b0L p.2).bind fun q=>(D1 n q.2).map fun z=>(⟨p.1,q.1⟩::z.1,z.2):=rfl
def a4G (l:List Att) (t bs:List UInt8) (k:Nat):Prop:=∀m,D1 (k+m) bs=(D1 m t).map fun z=>(l++z.1,z.2)
theorem a4G.start (bs:List UInt8):a4G [] bs bs 0:=fun m=>by rw [Nat.zero_add];cases D1 m bs<;>simp
theorem a4G.next {l:List Att} {t bs:List UInt8} {k:Nat} (h:a4G l t bs k) {s:ByteArray} {t1 t2:List UInt8} {v:V} (h1:b0M t=some (s,t1)) (h2:b0L t1=some (v,t2)):a4G (l++[⟨s,v⟩]) t2 bs (k+1):=fun m=>by
 rw [Nat.add_assoc,h (1+m),Nat.add_comm 1 m,a3H,h1];simp only [Option.bind_some,h2];cases D1 m t2<;>simp
theorem a4G.none {l:List Att} {t bs:List UInt8} {k n:Nat} (h:a4G l t bs k) (hk:k<n) (hr:∀m,D1 (m+1) t=none):D1 n bs=none:=by
 have:=h (n - k - 1+1);rw [hr,show k+(n - k - 1+1)=n by omega] at this;simpa using this
theorem a4G.done {l:List Att} {t bs:List UInt8} {k:Nat} (h:a4G l t bs k):D1 k bs=some (l,t):=by
 have:=h 0;rw [Nat.add_zero,a3G] at this;simpa using this
theorem Y4 (bs:List UInt8):(str bs).size=bs.length:=by
 show (str bs).data.size=bs.length;simp [str]
def a2Y:List (List UInt8):=[[61],[33,61],[60],[60,61],[62],[62,61],[94],[104,97,115]]
structure a2Z (w:World):Prop where
 num:Lays w
 prt:Lib.PrintTabsAt 11 12 13 14 Lib.goPrintTabs w
 utf:Lib.Utf8Tabs 9 10 w
 words:∀i s,a2Y[i]? =some s->w.cell? ⟨0,i,none⟩=some (.string (str s))
structure J3 (w0 w:World):Prop where
 at0:a2Z w0
 n64:16<=w0.heap.size
 below:Below w0.heap.size w0 w
theorem J3.size {w0 w:World} (h:J3 w0 w):w0.heap.size<=w.heap.size:=h.below.size
theorem J3.mod {w0 w w':World} {F:Nat->Prop} (h:J3 w0 w) (hm:Mod F w w') (hF:∀k,k<w0.heap.size->¬F k):J3 w0 w':=
 ⟨h.at0,h.n64,⟨hm.os.trans h.below.os,hm.tape.trans h.below.tape,hm.output.trans h.below.output,Nat.le_trans h.below.size hm.size,fun k hk=>(hm.block k (zz13 hk h.size) (hF k hk)).trans (h.below.block k hk)⟩⟩
theorem J3.mod0 {w0 w w':World} (h:J3 w0 w) (hm:Mod (fun _=>False) w w'):J3 w0 w':=h.mod hm fun _ _ h=>h
theorem J3.at_ {w0 w:World} (h:J3 w0 w):a2Z w:=by
 have hm:Mod (fun k=>w0.heap.size<=k) w0 w:=Mod.of_below h.below;have h64:=h.n64
 exact ⟨h.at0.num.mod hm (fun g hg h=>by omega),printTabs_below h.at0.prt h.below,Utf8Tabs_below h.at0.utf h.below,fun i s hs=>hm.cell (h.at0.words i s hs) (fun h=>by
  have:w0.heap.size<=0:=h
  omega)⟩
theorem a1B {w w':World} (h:Below w.heap.size w w'):Mod (fun _=>False) w w':=⟨h.os,h.tape,h.output,h.size,fun k hk _=>h.block k hk⟩
theorem b0N (w:World) (os:Array Obj):Mod (fun _=>False) w (Go.Sort.grow w os):=by
 refine ⟨rfl,rfl,rfl, ?_,fun k hk _=> ?_⟩
 ·show _<=(w.heap++os).size;simp
 show (w.heap++os)[k]? =_;rw [Array.getElem?_append,if_pos hk]
theorem E7 (a b:List UInt8):str (a++b)=str a++str b:=by
 apply ByteArray.ext;simp [str,ByteArray.data_append]
structure V.fits (v:V):Prop where
 int: -9223372036854775808<=v.int/\v.int<=9223372036854775807
 num:v.num<2^64
 text:v.text.size<=1000000
theorem a3I (l:List UInt8):Lib.containsAny l [46,101,73,78]=N3 l:=by
 unfold Lib.containsAny N3
 induction l with
 |nil=>rfl
 | cons b l ih=>
  rw [List.any_cons,Lib.indexAny,<-ih]
  have hb:([46,101,73,78]:List UInt8).contains b=(b==46||b==101||b==73||b==78):=by
   simp only [List.contains_cons,List.contains_nil,Bool.or_false,Bool.or_assoc]
  rw [hb]
  cases hc:(b==46||b==101||b==73||b==78) with
  |true=>simp
  | false=>
   simp only [Bool.false_eq_true,if_false,Bool.false_or];have:=Lib.indexAny_ge [46,101,73,78] l;by_cases h1:Lib.indexAny l [46,101,73,78]= -1
   ·rw [h1];rfl
   have:(Lib.indexAny l [46,101,73,78]== -1)=false:=by rw [beq_eq_false_iff_ne];exact h1
   rw [this];simp only [Bool.false_eq_true,if_false,decide_eq_decide];omega
theorem a3a (b:Nat):(∀c∈A2 b,t6 c)/\(A2 b).length<=1000:=by
 have e:O2 b=A2 b\/O2 b=A2 b++[46,48]:=by unfold O2;split;exact .inl rfl;exact .inr rfl
 have ht:=(a0Y b).2.1;constructor
 ·intro c hc;rcases e with e|e
  ·exact ht c (by rw [e];exact hc)
  exact ht c (by rw [e];exact List.mem_append_left _ hc)
 rcases a1z b with ⟨_,_,h⟩|⟨_,_,_,h⟩|⟨_,_,_,h⟩|⟨_,ds,dp,hc,hz,h0,hr,hv,h,hlen⟩
 ·rw [h];decide
 ·rw [h];decide
 ·rw [h];decide
 rw [h];unfold P7 y9 B0 O1 E8 j4
 repeat' split
 all_goals simp only [zz4,zz9,List.length_nil,List.length_take,List.length_drop,List.length_replicate]
 all_goals omega
theorem a80 (w0 w:World) (hl:J3 w0 w) (v:V) (hv:v.fits):Calls Tryz.prog 105 #[.agg v.cells.toArray] w fun e w'=>e= .returned (.string (str v.prt))/\Mod (fun _=>False) w w':=by
 have hla:=hl.at_;obtain ⟨kind,int,num,text,yes⟩:=v;have h1:=hv.int;have h2:=hv.num;have h3:=hv.text;simp only at h1 h2 h3;unfold V.prt V.cells;simp only;obtain ⟨wa,hwa,hmwa,hgwa,hzwa⟩:=e8 w (.cells #[.int .i64 kind,.int .i64 int,.float .f64 num,.string text,.bool yes] 68);have hlw:=hl.mod0 hmwa;have c0:wa.cell? ⟨w.heap.size,0,none⟩=some (.int .i64 kind):=d6 hgwa rfl;have c1:wa.cell? ⟨w.heap.size,1,none⟩=some (.int .i64 int):=d6 hgwa rfl;have c2:wa.cell? ⟨w.heap.size,2,none⟩=some (.float .f64 num):=d6 hgwa rfl;have c3:wa.cell? ⟨w.heap.size,3,none⟩=some (.string text):=d6 hgwa rfl;have c4:wa.cell? ⟨w.heap.size,4,none⟩=some (.bool yes):=d6 hgwa rfl;by_cases k0:kind=0
 ·rw [if_pos k0];subst k0;have hfi:=Tryz.strconv_FormatInt_10 int h1.1 h1.2 wa hlw.at_.num.u10;obtain ⟨s,hs⟩:∃s,Lib.itoa int=s:=⟨_,rfl⟩;rw [hs] at hfi⊢;obtain ⟨Hfi,Hs,Hwa,Hlw,Hla,Hl,Hgwa,Hmwa⟩:=zh8 hfi hs hwa hlw hla hl hgwa hmwa;clear hfi hs hwa hlw hla hl hgwa hmwa hv
  go_enter Tryz.func105,Tryz.ntmps105
  go_wp2_with (first|(rw [show w.alloc _=wa from Hwa.out])|fail)
  refine Hfi.out.mono ?_;rintro e w2 ⟨rfl,k,os,rfl⟩;have hm2:=Lib.hid (Hmwa.out.trans (((Mod.refl (fun _=>False) wa).drewN k).trans (b0N (wa.drewN k) os) (fun _ _ h=>h)) (fun _ _ h=>h))
  go_wp2
  go_ret;exact ⟨rfl,hm2.out⟩
 rw [if_neg k0];have d0:(kind==0)=false:=by rw [beq_eq_false_iff_ne];exact k0
 by_cases k1:kind=1
 ·rw [if_pos k1];subst k1;have hca:=fun wx=>a2X num wx;have hff:=fun (wx:World) (hx:J3 w0 wx)=>a3F wx hx.at_.num (by have:=hx.n64;have:=hx.size;omega) (m5 num) (a0e h2);have hch:=a3a (m5 num);have hsz:(str (A2 (m5 num))).size<=1000:=by rw [Y4];exact hch.2
  have hco:=fun (wx:World)=>Tryz.strings_ContainsAny_laid (str (A2 (m5 num))) ⟨#[46,101,73,78]⟩ wx (by omega) (by decide)
   (fun j b hb=>by
     have:=hch.1 b (zz8 (by simpa [str] using hb));have:=this.2
     omega) (fun j b hb=>by
     have hm:b∈([46,101,73,78]:List UInt8):=zz8 hb;simp only [List.mem_cons,List.not_mem_nil,or_false] at hm
     rcases hm with rfl|rfl|rfl|rfl<;>decide)
  have hsp:Lib.containsAny (str (A2 (m5 num))).data.toList (ByteArray.mk #[46,101,73,78]).data.toList=N3 (A2 (m5 num)):=by
   rw [<-a3I];simp [str]
  rw [hsp] at hco;obtain ⟨cb,hcb⟩:∃cb,m5 num=cb:=⟨_,rfl⟩;unfold O2;rw [hcb] at hca hff hco hsz⊢;obtain ⟨ft,hft⟩:∃ft,A2 cb=ft:=⟨_,rfl⟩;rw [hft] at hff hco hsz⊢;obtain ⟨fs,hfs⟩:∃fs,str ft=fs:=⟨_,rfl⟩;rw [hfs] at hff hco hsz
  cases hspf:N3 ft with
  |true=>
   rw [hspf] at hco;rw [if_pos rfl,hfs];obtain ⟨Hca,Hff,Hco,Hcb,Hft,Hfs,Hspf,Hwa,Hlw,Hla,Hl,Hgwa⟩:=zh12 hca hff hco hcb hft hfs hspf hwa hlw hla hl hgwa;obtain ⟨Hmwa,Hch,Hsp⟩:=zh3 hmwa hch hsp;clear hca hff hco hcb hft hfs hspf hwa hlw hla hl hgwa hmwa hch hsp hv
   go_enter Tryz.func105,Tryz.ntmps105
   go_wp2_with (first|(rw [show w.alloc _=wa from Hwa.out])|fail)
   refine (Hca.out _).mono ?_;rintro e w2 ⟨rfl,rfl⟩
   go_wp2_with fail
   refine (Hff.out _ Hlw.out).mono ?_;rintro e w3 ⟨rfl,hm3⟩;have Hm3:=zh hm3;clear hm3
   go_wp2_with fail
   refine (Hco.out _).mono ?_;rintro e w4 ⟨rfl,hb4⟩;have hm4:=Lib.hid (a1B hb4);clear hb4
   go_wp2
   go_ret;exact ⟨rfl,(Hmwa.out.trans Hm3.out (fun _ _ h=>h)).trans hm4.out (fun _ _ h=>h)⟩
  | false=>
   rw [hspf] at hco;rw [if_neg (by decide)]
   have hap:(Value.string (str (ft++[46,48])))= .string (fs++⟨#[46,48]⟩):=by
    rw [<-hfs,E7];rfl
   rw [hap];obtain ⟨Hca,Hff,Hco,Hcb,Hft,Hfs,Hspf,Hwa,Hlw,Hla,Hl,Hgwa⟩:=zh12 hca hff hco hcb hft hfs hspf hwa hlw hla hl hgwa;obtain ⟨Hmwa,Hch,Hsp,Hap⟩:=zh4 hmwa hch hsp hap;clear hca hff hco hcb hft hfs hspf hwa hlw hla hl hgwa hmwa hch hsp hap hv
   go_enter Tryz.func105,Tryz.ntmps105
   go_wp2_with (first|(rw [show w.alloc _=wa from Hwa.out])|fail)
   refine (Hca.out _).mono ?_;rintro e w2 ⟨rfl,rfl⟩
   go_wp2_with fail
   refine (Hff.out _ Hlw.out).mono ?_;rintro e w3 ⟨rfl,hm3⟩;have Hm3:=zh hm3;clear hm3
   go_wp2_with fail
   refine (Hco.out _).mono ?_;rintro e w4 ⟨rfl,hb4⟩;have hm4:=Lib.hid (a1B hb4);clear hb4
   go_wp2
   go_ret;exact ⟨rfl,(Hmwa.out.trans Hm3.out (fun _ _ h=>h)).trans hm4.out (fun _ _ h=>h)⟩
 rw [if_neg k1];have d1:(kind==1)=false:=by rw [beq_eq_false_iff_ne];exact k1
 by_cases k2:kind=2
 ·rw [if_pos k2];subst k2;have hqu:=Tryz.strconv_Quote Lib.goPrintTabs text wa (by omega) hlw.at_.prt hlw.at_.utf;have hq:strOfNums (Lib.quoteZ Lib.goPrintTabs text)=str (a2S Lib.goPrintTabs text):=rfl;rw [hq] at hqu;obtain ⟨s,hs⟩:∃s,str (a2S Lib.goPrintTabs text)=s:=⟨_,rfl⟩;rw [hs] at hqu⊢;obtain ⟨Hqu,Hs,Hwa,Hlw,Hla,Hl,Hgwa,Hmwa,Hq⟩:=zh9 hqu hs hwa hlw hla hl hgwa hmwa hq;clear hqu hs hwa hlw hla hl hgwa hmwa hq hv
  go_enter Tryz.func105,Tryz.ntmps105
  go_wp2_with (first|(rw [show w.alloc _=wa from Hwa.out])|fail)
  refine Hqu.out.mono ?_;rintro e w2 ⟨rfl,hb2⟩;have hm2:=Lib.hid (Hmwa.out.trans (a1B hb2) (fun _ _ h=>h));clear hb2
  go_wp2
  go_ret;exact ⟨rfl,hm2.out⟩
 rw [if_neg k2];have d2:(kind==2)=false:=by rw [beq_eq_false_iff_ne];exact k2
 obtain ⟨Hwa,Hlw,Hla,Hl,Hgwa,Hmwa⟩:=zh6 hwa hlw hla hl hgwa hmwa;clear hwa hlw hla hl hgwa hmwa hv k0 k1 k2;cases yes
 ·go_enter Tryz.func105,Tryz.ntmps105
  go_wp2_with (first|(rw [show w.alloc _=wa from Hwa.out])|fail)
  go_ret;exact ⟨rfl,Hmwa.out⟩
 go_enter Tryz.func105,Tryz.ntmps105
 go_wp2_with (first|(rw [show w.alloc _=wa from Hwa.out])|fail)
 go_ret;exact ⟨rfl,Hmwa.out⟩
theorem b23 (w0 w:World) (hl:J3 w0 w) (op:Int):Calls Tryz.prog 104 #[.int .i64 op] w fun e w'=>e= .returned (.string (str (C8 op)))/\w'=w:=by
 by_cases h0:0<=op
 ·by_cases h7:op<=7
  ·obtain ⟨k,rfl⟩:∃k:Nat,op=k:=⟨op.toNat,by omega⟩
   have hw:a2Y[k]? =some (C8 k):=by
    have:k=0\/k=1\/k=2\/k=3\/k=4\/k=5\/k=6\/k=7:=by omega
    rcases this with rfl|rfl|rfl|rfl|rfl|rfl|rfl|rfl<;>rfl
   have hc:=hl.at_.words k _ hw;obtain ⟨s,hs⟩:∃s,str (C8 k)=s:=⟨_,rfl⟩;rw [hs] at hc⊢;have a1:decide ((k:Int)<0)=false:=by simp
   have a2:decide ((7:Int)<k)=false:=by simp;omega
   have a3:(k:Int)<8:=by omega
   obtain ⟨Hs,Hw,Hl⟩:=zh3 hs hw hl;clear hs hw hl
   go_enter Tryz.func104,Tryz.ntmps104
   go_wp2
   go_ret;exact ⟨rfl,rfl⟩
  have e:C8 op=[]:=by unfold C8;rw [if_neg (by omega),if_neg (by omega),if_neg (by omega),if_neg (by omega),if_neg (by omega),if_neg (by omega),if_neg (by omega),if_neg (by omega)]
  rw [e];have h7':(7:Int)<op:=by omega
  go_enter Tryz.func104,Tryz.ntmps104
  go_wp2
  go_ret;exact ⟨rfl,rfl⟩
 have e:C8 op=[]:=by unfold C8;rw [if_neg (by omega),if_neg (by omega),if_neg (by omega),if_neg (by omega),if_neg (by omega),if_neg (by omega),if_neg (by omega),if_neg (by omega)]
 rw [e];have h0':op<0:=by omega
 go_enter Tryz.func104,Tryz.ntmps104
 go_wp2
 go_ret;exact ⟨rfl,rfl⟩
theorem a8e {v:V} (hv:v.fits):v.prt.length<=20000000:=by
 unfold V.prt;have hi:=hv.int;have ht:=hv.text;split
 ·unfold Lib.itoa;split
  ·have:=a75 v.int.natAbs (by omega);rw [zz9,Lib.decDigits_length];omega
  have:=a75 v.int.toNat (by omega);rw [Lib.decDigits_length];omega
 split
 ·have:=(a3a (m5 v.num)).2;unfold O2;split
  ·omega
  rw [zz4];simp;omega
 split
 ·have:=b0y Lib.goPrintTabs v.text;omega
 split<;>decide
theorem a1C (w0 w:World) (hl:J3 w0 w) (c:Cnd) (hv:c.v.fits) (hn:c.name.size<=1000000):Calls Tryz.prog 69 #[.agg c.cells.toArray] w fun e w'=>e= .returned (.string (str c.prt))/\Mod (fun _=>False) w w':=by
 obtain ⟨name,op,v⟩:=c;unfold Cnd.prt;simp only at hv hn⊢;obtain ⟨wa,hwa,hmwa,hgwa,hzwa⟩:=e8 w (.cells (Cnd.cells ⟨name,op,v⟩).toArray 132);have hlw:=hl.mod0 hmwa;have c0:wa.cell? ⟨w.heap.size,0,none⟩=some (.string name):=d6 hgwa rfl;have c1:wa.cell? ⟨w.heap.size,1,none⟩=some (.int .i64 op):=d6 hgwa rfl;by_cases h7:op=7
 ·rw [if_pos h7];subst h7
  have hap:(Value.string (str ([104,97,115,32]++name.data.toList)))= .string (⟨#[104,97,115,32]⟩++name):=by
   rw [E7];rfl
  rw [hap];obtain ⟨Hap,Hwa,Hlw,Hl,Hgwa,Hmwa⟩:=zh6 hap hwa hlw hl hgwa hmwa;clear hap hwa hlw hl hgwa hmwa hv
  go_enter Tryz.func69,Tryz.ntmps69
  go_wp2_with (first|(rw [show w.alloc _=wa from Hwa.out])|fail)
  go_ret;exact ⟨rfl,Hmwa.out⟩
 rw [if_neg h7];have d7:(op==7)=false:=by rw [beq_eq_false_iff_ne];exact h7
 have hwd:=fun (wx:World) (hx:Mod (fun _=>False) wa wx)=>(b23 w0 wx (hlw.mod0 hx) op).mono fun e w'' (h:_/\_)=>(⟨h.1,h.2.symm▸hx⟩:e= .returned (.string (str (C8 op)))/\Mod (fun _=>False) wa w'');have hvp:=fun (wx:World) (hx:Mod (fun _=>False) wa wx)=>(a80 w0 wx (hlw.mod0 hx) v hv).mono fun e w'' (h:_/\_)=>(⟨h.1,hx.trans h.2 (fun _ _ h=>h)⟩:e= .returned (.string (str v.prt))/\Mod (fun _=>False) wa w'')
 have hap:(Value.string (str (name.data.toList++[32]++C8 op++[32]++v.prt)))= .string (name++⟨#[32]⟩++str (C8 op)++⟨#[32]⟩++str v.prt):=by
  rw [E7,E7,E7,E7];rfl
 rw [hap];have hcv:e7 wa w.heap.size 2 v.cells:=Z7 hgwa
 have hws:(str (C8 op)).size<=3:=by
  rw [Y4];unfold C8
  repeat' split
  all_goals decide
 have hps:(str v.prt).size<=20000000:=by
  rw [Y4];exact a8e hv
 obtain ⟨wd,hwdd⟩:∃wd,str (C8 op)=wd:=⟨_,rfl⟩;obtain ⟨pt,hpt⟩:∃pt,str v.prt=pt:=⟨_,rfl⟩;rw [hwdd] at hws;rw [hpt] at hps;simp only [hwdd,hpt] at hwd hvp hap⊢;have s1:¬9223372036854775807<name.size+1:=by omega
 have s2:¬9223372036854775807<name.size+1+wd.size:=by omega
 have s3:¬9223372036854775807<name.size+1+wd.size+1:=by omega
 have s4:¬9223372036854775807<name.size+1+wd.size+1+pt.size:=by omega
 have hf0:∀w',Mod (fun _=>False) wa w'->w'.cell? ⟨w.heap.size,0,none⟩=some (.string name):=fun w' hw'=>hw'.cell c0 (fun h=>h);have hf1:∀w',Mod (fun _=>False) wa w'->w'.cell? ⟨w.heap.size,1,none⟩=some (.int .i64 op):=fun w' hw'=>hw'.cell c1 (fun h=>h);have hf2:∀w',Mod (fun _=>False) wa w'->j9 w' w.heap.size 2 5/\cellsOf w' w.heap.size 2 5=v.cells.toArray:=fun w' hw'=>⟨(hcv.mod hw' (fun h=>h)).all rfl,(hcv.mod hw' (fun h=>h)).is rfl⟩;obtain ⟨Hap,Hwa,Hlw,Hl,Hgwa,Hmwa,Hwd,Hvp,Hwdd,Hpt,Hcv,Hf0⟩:=zh12 hap hwa hlw hl hgwa hmwa hwd hvp hwdd hpt hcv hf0;obtain ⟨Hf1,Hf2⟩:=zh2 hf1 hf2;clear hap hwa hlw hl hgwa hmwa hwd hvp hwdd hpt hcv hf0 hf1 hf2 hv h7
 go_enter Tryz.func69,Tryz.ntmps69
 go_wp2_with (first|(rw [show w.alloc _=wa from Hwa.out])|fail)
 refine i8 (by kernel_rfl) (by kernel_rfl) ?_
 iterate 13 (first
  | (refine k7 ?_ (fun K hK=> ?_)
     ·first|(go_simp;done)|(go_simp;simp [undef];done)
     go_simp;refine hK _ ?_;clear hK K)
  | (refine m8 ?_ ?_ (fun w' hw'=> ?_) (fun K hK=> ?_)
     ·first|(go_simp;done)|(go_simp;simp [undef];done)
     rotate_left
     ·have f0:=Hf0.out w' hw';have f1:=Hf1.out w' hw';obtain ⟨f2,f3⟩:=Hf2.out w' hw';go_simp;rfl
     go_simp;refine hK _ ?_;clear hK K)
  | (refine p8 ?_ ?_ ?_ ?_ (fun w' hw'=> ?_) ?_ (fun K hK=> ?_)
     ·first|(go_simp;done)|(go_simp;simp [undef];done)
     rotate_left 3
     ·have f0:=Hf0.out w' hw';have f1:=Hf1.out w' hw';obtain ⟨f2,f3⟩:=Hf2.out w' hw';go_simp;constructor<;>rfl
     ·first|with_reducible exact Hwd.out|with_reducible exact Hvp.out
     go_simp;refine hK _ ?_;clear hK K))
 refine m4 (fun w' hw'=> ?_);have Hw':=Lib.hid (Hmwa.out.trans hw' (fun _ _ h=>h));clear hw'
 go_wp2
 go_ret;exact ⟨rfl,Hw'.out⟩
structure Cnd.fits (c:Cnd):Prop where
 v:c.v.fits
 name:c.name.size<=1000000
theorem a3b {c:Cnd} (h:c.fits):c.prt.length<=22000000:=by
 have h1:=a8e h.v;have h2:=h.name;have h3:c.name.data.toList.length=c.name.size:=by rw [Array.length_toList];rfl
 unfold Cnd.prt;split
 ·rw [zz4,h3];simp only [zz9,List.length_nil];omega
 rw [zz4,zz4,zz4,zz4,h3]
 have:(C8 c.op).length<=3:=by
  unfold C8
  repeat' split
  all_goals decide
 simp only [zz9,List.length_nil];omega
theorem a6S (l:List Cnd) (c:Cnd):F8 (l++[c])=F8 l++([32,38,32]++c.prt):=by
 induction l with
 |nil=>simp [F8]
 |cons d l ih=>
  show [32,38,32]++d.prt++F8 (l++[c])=[32,38,32]++d.prt++F8 l++_;rw [ih];simp
theorem a5t (sc:ByteArray) (l:List Cnd) (c:Cnd):p9 sc (l++[c])=(if l=[] then p9 sc l else p9 sc l++[32,38])++([32]++c.prt):=by
 cases l with
 |nil=>simp [p9,X0,F8]
 |cons d l=>
  rw [if_neg (by simp)];unfold p9;show sc.data.toList++[58]++([32]++d.prt++F8 (l++[c]))=sc.data.toList++[58]++([32]++d.prt++F8 l)++[32,38]++_;rw [a6S];simp
theorem E9 (sc:ByteArray) (l:List Cnd) (h:∀c∈l,c.fits):(p9 sc l).length<=sc.size+1+23000000*l.length:=by
 have key:∀m:List Cnd,(∀c∈m,c.fits)->(F8 m).length<=23000000*m.length:=by
  intro m
  induction m with
  |nil=>intro _;exact Nat.zero_le _
  |cons c m ih=>
   intro hm;have h1:=ih fun x hx=>hm x (List.mem_cons_of_mem _ hx);have h2:=a3b (hm c List.mem_cons_self);unfold F8;rw [zz4,zz4,zz9];simp only [zz9,List.length_nil];omega
 have hs:sc.data.toList.length=sc.size:=by rw [Array.length_toList];rfl
 unfold p9;rw [zz4,zz4,hs]
 cases l with
 |nil=>simp [X0]
 |cons c l=>
  have h1:=key l fun x hx=>h x (List.mem_cons_of_mem _ hx);have h2:=a3b (h c List.mem_cons_self);unfold X0;rw [zz4,zz4,zz9];simp only [zz9,List.length_nil];omega
theorem T5 (w0 w:World) (hl:J3 w0 w) (sc:ByteArray) (cv:Value) (l:List Cnd) (hv:j0 w 7 cv l.length (l6 l)) (hll:l.length<=1000) (hsc:sc.size<=1000000) (hcs:∀c∈l,c.fits):
 Calls Tryz.prog 35 #[.agg #[.string sc,cv]] w fun e w'=>e= .returned (.string (str (p9 sc l)))/\Mod (fun _=>False) w w':=by
 obtain ⟨a,cap,rfl,hcap⟩:∃a c,cv= .slice a l.length c/\l.length<=c:=by obtain ⟨-,a,c,h,h2, -⟩:=hv;exact ⟨a,c,h,h2⟩
 have hll':(l.length:Int)<=1000:=by omega
 have hcap':(l.length:Int)<=cap:=by omega
 obtain ⟨wa,hwa,hmwa,hgwa,hzwa⟩:=e8 w (.cells #[.string sc,.slice a l.length cap] 33);have hva:=hv.mod hmwa (fun _ _ h=>h);have hla:=hl.mod0 hmwa;have c0:wa.cell? ⟨w.heap.size,0,none⟩=some (.string sc):=d6 hgwa rfl;have c1:wa.cell? ⟨w.heap.size,1,none⟩=some (.slice a l.length cap):=d6 hgwa rfl;obtain ⟨R,hR⟩:∃R,str (p9 sc l)=R:=⟨_,rfl⟩;rw [hR]
 have hs0:str (p9 sc [])=sc++⟨#[58]⟩:=by
  unfold p9 X0;rw [zz11,E7];rfl
 obtain ⟨Hv,Hwa,Hgwa,Hva,HR,Hmwa,Hla,Hl,Hcs,Hs0⟩:=zh10 hv hwa hgwa hva hR hmwa hla hl hcs hs0;clear hv hwa hgwa hva hR hmwa hla hl hcs hs0 hzwa
 go_enter Tryz.func35,Tryz.ntmps35
 go_wp2_with (first|(rw [show w.alloc _=wa from Hwa.out])|fail)
 go_loopw [3,12] (fun s i wr=>∃j:Nat,i= .int .i64 j/\j<=l.length/\Mod (fun _=>False) wa wr/\s= .string (str (p9 sc (l.take j)))) (fun _ i _=>l.length - (intOf i).toNat)
 case atStart=>exact ⟨0,rfl,Nat.zero_le _,Mod.refl _ _,congrArg Value.string Hs0.out.symm⟩
 case round=>
  obtain ⟨j,rfl,hj,hmr,rfl⟩:=hrel;by_cases hlt:j<l.length
  ·have hlt':(j:Int)<l.length:=by omega
   obtain ⟨x,hxj⟩:∃x,l[j]? =some x:=⟨_,zz5 hlt⟩;have hxm:=zz8 hxj;obtain ⟨g,off,rfl,hf⟩:∃g off,a=some ⟨g,off,none⟩/\e7 wr g (off+j*7) x.cells:=J2 (Hva.out.mod hmr (fun _ _ h=>h)) hxj;obtain ⟨wz,hwz,hmwz,hgwz,hzwz⟩:=e8 wr (.cells x.cells.toArray 132);have hmz:=hmr.trans hmwz (fun _ _ h=>h);have hxf:=Hcs.out x hxm;have hcr:=a1C w0 wz (Hla.out.mod0 hmz) x hxf.v hxf.name
   have hsn:l.take (j+1)=l.take j++[x]:=by
    rw [List.take_succ_eq_append_getElem hlt];congr 2;exact (zz6 hxj).2
   have hfs:=a5t sc (l.take j) x;rw [<-hsn] at hfs;have hln:=E9 sc (l.take j) fun c hc=>Hcs.out c (List.mem_of_mem_take hc);have hlj:(l.take j).length<=1000:=by rw [List.length_take];omega
   have hlx:=a3b hxf;have hsz:(str (p9 sc (l.take j))).size<=100000000000:=by rw [Y4];omega
   have hsx:(str x.prt).size<=100000000000:=by rw [Y4];omega
   obtain ⟨s,hs⟩:∃s,str (p9 sc (l.take j))=s:=⟨_,rfl⟩;obtain ⟨px,hpx⟩:∃px,str x.prt=px:=⟨_,rfl⟩;rw [hs] at hsz⊢;rw [hpx] at hcr hsx;have s0:¬9223372036854775807<s.size+2:=by omega
   have s1:¬9223372036854775807<1+px.size:=by omega
   have s2:¬9223372036854775807<s.size+(1+px.size):=by omega
   have s3:¬9223372036854775807<s.size+2+(1+px.size):=by omega
   by_cases hj0:j=0
   ·subst hj0
    have hnew:str (p9 sc (l.take (0+1)))=s++(⟨#[32]⟩++px):=by
     rw [hfs,if_pos (by simp),E7,hs,E7,hpx];rfl
    obtain ⟨Hmr,Hxj,Hxm,Hf,Hwz,Hmwz,Hgwz,Hmz,Hcr,Hsn,Hfs,Hs⟩:=zh12 hmr hxj hxm hf hwz hmwz hgwz hmz hcr hsn hfs hs;obtain ⟨Hpx,Hnew,Hxf⟩:=zh3 hpx hnew hxf;clear hmr hxj hxm hf hwz hmwz hgwz hmz hcr hsn hfs hs hpx hnew hxf hzwz hln hlj hlx hsz hsx
    go_wp2_with (first|((with_reducible refine d9 132 (.tmp 15) ?_);refine ⟨g,off+0*7,rfl,x.cells,Hf.out,by kernel_rfl,by kernel_rfl, ?_⟩)|((with_reducible refine d8 132 (.tmp 5) (.tmp 16) ?_);refine ⟨rfl,x.cells,rfl,rfl,by kernel_rfl,rfl, ?_⟩;rw [Hwz.out])|((with_reducible refine d9 132 (.tmp 5) ?_);refine ⟨wr.heap.size,0,rfl,x.cells,e7.row Hgwz.out,by kernel_rfl,by kernel_rfl, ?_⟩)|fail)
    refine Hcr.out.mono ?_;rintro e w3 ⟨rfl,hm3⟩;have Hm3:=Lib.hid (Hmz.out.trans hm3 (fun _ _ h=>h));clear hm3
    go_wp2_with fail
    go_roundw
    case rel=>exact ⟨0+1,by go_num,hlt,Hm3.out,congrArg Value.string Hnew.out.symm⟩
    case measure=>simp [intOf];omega
   have hj1:(0:Int)<j:=by omega
   have hnew:str (p9 sc (l.take (j+1)))=s++⟨#[32,38]⟩++(⟨#[32]⟩++px):=by
    have hne:¬l.take j=[]:=fun h=>by
     have:=congrArg List.length h;rw [List.length_take,List.length_nil] at this;omega
    rw [hfs,if_neg hne,E7,E7,hs,E7,hpx];rfl
   obtain ⟨Hmr,Hxj,Hxm,Hf,Hwz,Hmwz,Hgwz,Hmz,Hcr,Hsn,Hfs,Hs⟩:=zh12 hmr hxj hxm hf hwz hmwz hgwz hmz hcr hsn hfs hs;obtain ⟨Hpx,Hnew,Hxf⟩:=zh3 hpx hnew hxf;clear hmr hxj hxm hf hwz hmwz hgwz hmz hcr hsn hfs hs hpx hnew hxf hzwz hln hlj hlx hsz hsx
   go_wp2_with (first|((with_reducible refine d9 132 (.tmp 15) ?_);refine ⟨g,off+j*7,rfl,x.cells,Hf.out,by kernel_rfl,by kernel_rfl, ?_⟩)|((with_reducible refine d8 132 (.tmp 5) (.tmp 16) ?_);refine ⟨rfl,x.cells,rfl,rfl,by kernel_rfl,rfl, ?_⟩;rw [Hwz.out])|((with_reducible refine d9 132 (.tmp 5) ?_);refine ⟨wr.heap.size,0,rfl,x.cells,e7.row Hgwz.out,by kernel_rfl,by kernel_rfl, ?_⟩)|fail)
   refine Hcr.out.mono ?_;rintro e w3 ⟨rfl,hm3⟩;have Hm3:=Lib.hid (Hmz.out.trans hm3 (fun _ _ h=>h));clear hm3
   go_wp2_with fail
   go_roundw
   case rel=>exact ⟨j+1,by go_num,hlt,Hm3.out,congrArg Value.string Hnew.out.symm⟩
   case measure=>simp [intOf];omega
  obtain rfl:j=l.length:=by omega
  have hfin:str (p9 sc (l.take l.length))=R:=by rw [List.take_length];exact HR.out
  rw [hfin];obtain ⟨Hmr,Hfin⟩:=zh2 hmr hfin;clear hmr hfin
  go_wp2
  go_ret;exact ⟨rfl,Hmwa.out.trans Hmr.out (fun _ _ h=>h)⟩
end
end Go.Proofs.YtaenebdppkjhoaaGreatDoor
