/- Lemmas. -/
import Derived.Test.YtdmjoodhaeijmaaGreatDoorZn15
import Derived.Test.YtdmjoodhaeijmaaGreatDoorZn16
set_option maxHeartbeats 40000000
set_option maxRecDepth 20000
namespace Go.Proofs.YtdmjoodhaeijmaaGreatDoor
open Go.RowKit
def a3l:List (List UInt8):=[[61],[33,61],[60],[60,61],[62],[62,61],[94],[104,97,115]]
structure a3m (w:World):Prop where
 num:Lays w
 prt:Lib.PrintTabsAt 11 12 13 14 Lib.goPrintTabs w
 utf:Lib.Utf8Tabs 9 10 w
 words:∀i s,a3l[i]? =some s->w.cell? ⟨1,i,none⟩=some (.string (str s))
structure L4 (w0 w:World):Prop where
 at0:a3m w0
 n64:16<=w0.heap.size
 below:Below w0.heap.size w0 w
theorem L4.size {w0 w:World} (h:L4 w0 w):w0.heap.size<=w.heap.size:=h.below.size
theorem L4.mod {w0 w w':World} {F:Nat->Prop} (h:L4 w0 w) (hm:Mod F w w') (hF:∀k,k<w0.heap.size->¬F k):L4 w0 w':=
 ⟨h.at0,h.n64,⟨hm.os.trans h.below.os,hm.tape.trans h.below.tape,hm.output.trans h.below.output,Nat.le_trans h.below.size hm.size,fun k hk=>(hm.block k (zz13 hk h.size) (hF k hk)).trans (h.below.block k hk)⟩⟩
theorem L4.mod0 {w0 w w':World} (h:L4 w0 w) (hm:Mod (fun _=>False) w w'):L4 w0 w':=h.mod hm fun _ _ h=>h
theorem L4.at_ {w0 w:World} (h:L4 w0 w):a3m w:=by
 have hm:Mod (fun k=>w0.heap.size<=k) w0 w:=Mod.of_below h.below;have h64:=h.n64
 exact ⟨h.at0.num.mod hm (fun g hg h=>zo),printTabs_below h.at0.prt h.below,Utf8Tabs_below h.at0.utf h.below,fun i s hs=>hm.cell (h.at0.words i s hs) (fun h=>by
  have:w0.heap.size<=1:=h
  omega)⟩
theorem a1U {w w':World} (h:Below w.heap.size w w'):Mod (fun _=>False) w w':=⟨h.os,h.tape,h.output,h.size,fun k hk _=>h.block k hk⟩
theorem b1j (w:World) (os:Array Obj):Mod (fun _=>False) w (Go.Sort.grow w os):=by
 refine ⟨rfl,rfl,rfl, ?_,fun k hk _=> ?_⟩
 ·show _<=(w.heap++os).size;simp
 show (w.heap++os)[k]? =_;rw [Array.getElem?_append,if_pos hk]
theorem J5 (a b:List UInt8):str (a++b)=str a++str b:=by
 apply ByteArray.ext;simp [str,ByteArray.data_append]
structure V.fits (v:V):Prop where
 int: -9223372036854775808<=v.int/\v.int<=9223372036854775807
 num:v.num<2^64
 text:v.text.size<=1000000
theorem a39 (l:List UInt8):Lib.containsAny l [46,101,73,78]=R1 l:=by
 unfold Lib.containsAny R1
 induction l with
 |nil=>rfl
 | cons b l ih=>
  rw [List.any_cons,Lib.indexAny,<-ih]
  have hb:([46,101,73,78]:List UInt8).contains b=(b==46||b==101||b==73||b==78):=by
   simp only [List.contains_cons,List.contains_nil,Bool.or_false,Bool.or_assoc]
  rw [hb]
  cases hc:(b==46||b==101||b==73||b==78) with
  |true=>simp
  | false=>
   simp only [Bool.false_eq_true,if_false,Bool.false_or];have:=Lib.indexAny_ge [46,101,73,78] l;by_cases h1:Lib.indexAny l [46,101,73,78]= -1
   ·rw [h1];rfl
   have:(Lib.indexAny l [46,101,73,78]== -1)=false:=by rw [beq_eq_false_iff_ne];exact h1
   rw [this];simp only [Bool.false_eq_true,if_false,decide_eq_decide];omega
theorem a3n (b:Nat):(∀c∈C1 b,A9 c)/\(C1 b).length<=1000:=by
 have e:S9 b=C1 b\/S9 b=C1 b++[46,48]:=by unfold S9;split;exact .inl rfl;exact .inr rfl
 have ht:=(a1v b).2.1;constructor
 ·intro c hc;rcases e with e|e
  ·exact ht c (by rw [e];exact hc)
  exact ht c (by rw [e];exact List.mem_append_left _ hc)
 rcases a1S b with ⟨_,_,h⟩|⟨_,_,_,h⟩|⟨_,_,_,h⟩|⟨_,ds,dp,hc,hz,h0,hr,hv,h,hlen⟩
 ·rw [h];decide
 ·rw [h];decide
 ·rw [h];decide
 rw [h];unfold V4 B6 D6 S8 J6 j2
 repeat' split
 all_goals simp only [zz4,zz9,List.length_nil,List.length_take,List.length_drop,List.length_replicate]
 all_goals omega
theorem a9q (w0 w:World) (hl:L4 w0 w) (v:V) (hv:v.fits):Calls Tryz.prog 132 #[.agg v.cells.toArray] w fun e w'=>e= .returned (.string (str v.prt))/\Mod (fun _=>False) w w':=by
 have hla:=hl.at_;obtain ⟨kind,int,num,text,yes⟩:=v;have h1:=hv.int;have h2:=hv.num;have h3:=hv.text;simp only at h1 h2 h3;unfold V.prt V.cells;simp only;obtain ⟨wa,ak,ae,aa,ah⟩:=g6 w (.cells #[.int .i64 kind,.int .i64 int,.float .f64 num,.string text,.bool yes] 96);have dD:=hl.mod0 ae;have c0:wa.cell? ⟨w.heap.size,0,none⟩=some (.int .i64 kind):=d6 aa rfl;have c1:wa.cell? ⟨w.heap.size,1,none⟩=some (.int .i64 int):=d6 aa rfl;have c2:wa.cell? ⟨w.heap.size,2,none⟩=some (.float .f64 num):=d6 aa rfl;have c3:wa.cell? ⟨w.heap.size,3,none⟩=some (.string text):=d6 aa rfl;have c4:wa.cell? ⟨w.heap.size,4,none⟩=some (.bool yes):=d6 aa rfl;by_cases k0:kind=0
 ·rw [if_pos k0];subst k0;have hfi:=Tryz.strconv_FormatInt_10 int h1.1 h1.2 wa dD.at_.num.u10;obtain ⟨s,hs⟩:∃s,Lib.itoa int=s:=⟨_,rfl⟩;rw [hs] at hfi⊢;refine hh8 hfi hs ak dD hla hl aa ae fun QR Hs aB rW qZ Hl aC ai=> ?_;clear hfi hs ak dD hla hl aa ae hv
  go_enter Tryz.func132,Tryz.ntmps132
  go_wp2_with (rw [show w.alloc _=wa from aB.out])
  refine QR.out.mono ?_;rintro e w2 ⟨rfl,k,os,rfl⟩;have hm2:=Lib.hid (ai.out.trans (((Mod.refl (fun _=>False) wa).drewN k).trans (b1j (wa.drewN k) os) zi) zi)
  go_wp2
  go_ret;exact ⟨rfl,hm2.out⟩
 rw [if_neg k0];have d0:(kind==0)=false:=by rw [beq_eq_false_iff_ne];exact k0
 by_cases k1:kind=1
 ·rw [if_pos k1];subst k1;have lu:=fun wx=>a3u num wx;have fT:=fun (wx:World) (hx:L4 w0 wx)=>a38 wx hx.at_.num (by have:=hx.n64;have:=hx.size;omega) (m8 num) (a0R h2);have hch:=a3n (m8 num);have hsz:(str (C1 (m8 num))).size<=1000:=by rw [a0u];exact hch.2
  have hco:=fun (wx:World)=>Tryz.strings_ContainsAny_laid (str (C1 (m8 num))) ⟨#[46,101,73,78]⟩ wx zo zd
   (fun j b hb=>by
     have:=hch.1 b (zz8 (by simpa [str] using hb));have:=this.2
     omega) (fun j b hb=>by
     have hm:b∈([46,101,73,78]:List UInt8):=zz8 hb;simp only [List.mem_cons,List.not_mem_nil,or_false] at hm
     rcases hm with rfl|rfl|rfl|rfl<;>decide)
  have hsp:Lib.containsAny (str (C1 (m8 num))).data.toList (ByteArray.mk #[46,101,73,78]).data.toList=R1 (C1 (m8 num)):=by
   rw [<-a39];simp [str]
  rw [hsp] at hco;obtain ⟨cb,hcb⟩:∃cb,m8 num=cb:=⟨_,rfl⟩;unfold S9;rw [hcb] at lu fT hco hsz⊢;obtain ⟨ft,hft⟩:∃ft,C1 cb=ft:=⟨_,rfl⟩;rw [hft] at fT hco hsz⊢;obtain ⟨fs,hfs⟩:∃fs,str ft=fs:=⟨_,rfl⟩;rw [hfs] at fT hco hsz
  cases lw:R1 ft with
  |true=>
   rw [lw] at hco;rw [if_pos rfl,hfs];refine hh8 lu fT hco hcb hft hfs lw ak fun xz rf Af QS NJ Jc Jd aB=> ?_;refine hh7 dD hla hl aa ae hch hsp fun rW qZ Hl aC ai Je QT=> ?_;clear lu fT hco hcb hft hfs lw ak dD hla hl aa ae hch hsp hv
   go_enter Tryz.func132,Tryz.ntmps132
   go_wp2_with (rw [show w.alloc _=wa from aB.out])
   refine (xz.out _).mono ?_;rintro e w2 ⟨rfl,rfl⟩
   go_wp2_with fail
   refine (rf.out _ rW.out).mono ?_;rintro e w3 ⟨rfl,au⟩;refine hh1 au fun aZ=> ?_;clear au
   go_wp2_with fail
   refine (Af.out _).mono ?_;rintro e w4 ⟨rfl,hb4⟩;have aM:=Lib.hid (a1U hb4);clear hb4
   go_wp2
   go_ret;exact ⟨rfl,(ai.out.trans aZ.out zi).trans aM.out zi⟩
  | false=>
   rw [lw] at hco;rw [if_neg zd]
   have hap:(Value.string (str (ft++[46,48])))= .string (fs++⟨#[46,48]⟩):=by
    rw [<-hfs,J5];rfl
   rw [hap];refine hh8 lu fT hco hcb hft hfs lw ak fun xz rf Af QS NJ Jc Jd aB=> ?_;refine hh8 dD hla hl aa ae hch hsp hap fun rW qZ Hl aC ai Je QT NK=> ?_;clear lu fT hco hcb hft hfs lw ak dD hla hl aa ae hch hsp hap hv
   go_enter Tryz.func132,Tryz.ntmps132
   go_wp2_with (rw [show w.alloc _=wa from aB.out])
   refine (xz.out _).mono ?_;rintro e w2 ⟨rfl,rfl⟩
   go_wp2_with fail
   refine (rf.out _ rW.out).mono ?_;rintro e w3 ⟨rfl,au⟩;refine hh1 au fun aZ=> ?_;clear au
   go_wp2_with fail
   refine (Af.out _).mono ?_;rintro e w4 ⟨rfl,hb4⟩;have aM:=Lib.hid (a1U hb4);clear hb4
   go_wp2
   go_ret;exact ⟨rfl,(ai.out.trans aZ.out zi).trans aM.out zi⟩
 rw [if_neg k1];have d1:(kind==1)=false:=by rw [beq_eq_false_iff_ne];exact k1
 by_cases k2:kind=2
 ·rw [if_pos k2];subst k2;have Gu:=Tryz.strconv_Quote Lib.goPrintTabs text wa zo dD.at_.prt dD.at_.utf;have hq:strOfNums (Lib.quoteZ Lib.goPrintTabs text)=str (a3g Lib.goPrintTabs text):=rfl;rw [hq] at Gu;obtain ⟨s,hs⟩:∃s,str (a3g Lib.goPrintTabs text)=s:=⟨_,rfl⟩;rw [hs] at Gu⊢;refine hh8 Gu hs ak dD hla hl aa ae fun QU Hs aB rW qZ Hl aC ai=> ?_;refine hh1 hq fun Hq=> ?_;clear Gu hs ak dD hla hl aa ae hq hv
  go_enter Tryz.func132,Tryz.ntmps132
  go_wp2_with (rw [show w.alloc _=wa from aB.out])
  refine QU.out.mono ?_;rintro e w2 ⟨rfl,hb2⟩;have hm2:=Lib.hid (ai.out.trans (a1U hb2) zi);clear hb2
  go_wp2
  go_ret;exact ⟨rfl,hm2.out⟩
 rw [if_neg k2];have d2:(kind==2)=false:=by rw [beq_eq_false_iff_ne];exact k2
 refine hh6 ak dD hla hl aa ae fun aB rW qZ Hl aC ai=> ?_;clear ak dD hla hl aa ae hv k0 k1 k2;cases yes
 ·go_enter Tryz.func132,Tryz.ntmps132
  go_wp2_with (rw [show w.alloc _=wa from aB.out])
  go_ret;exact ⟨rfl,ai.out⟩
 go_enter Tryz.func132,Tryz.ntmps132
 go_wp2_with (rw [show w.alloc _=wa from aB.out])
 go_ret;exact ⟨rfl,ai.out⟩
theorem b3P (w0 w:World) (hl:L4 w0 w) (op:Int):Calls Tryz.prog 131 #[.int .i64 op] w fun e w'=>e= .returned (.string (str (G7 op)))/\w'=w:=by
 by_cases h0:0<=op
 ·by_cases h7:op<=7
  ·obtain ⟨k,rfl⟩:∃k:Nat,op=k:=⟨op.toNat,zo⟩
   have hw:a3l[k]? =some (G7 k):=by
    have:k=0\/k=1\/k=2\/k=3\/k=4\/k=5\/k=6\/k=7:=zo
    rcases this with rfl|rfl|rfl|rfl|rfl|rfl|rfl|rfl<;>rfl
   have hc:=hl.at_.words k _ hw;obtain ⟨s,hs⟩:∃s,str (G7 k)=s:=⟨_,rfl⟩;rw [hs] at hc⊢;have a1:decide ((k:Int)<0)=false:=by simp
   have a2:decide ((7:Int)<k)=false:=by simp;omega
   have a3:(k:Int)<8:=zo
   refine hh3 hs hw hl fun Hs Hw Hl=> ?_;clear hs hw hl
   go_enter Tryz.func131,Tryz.ntmps131
   go_wp2
   go_ret;exact ⟨rfl,rfl⟩
  have e:G7 op=[]:=by unfold G7;rw [if_neg zo,if_neg zo,if_neg zo,if_neg zo,if_neg zo,if_neg zo,if_neg zo,if_neg zo]
  rw [e];have WF:(7:Int)<op:=zo
  go_enter Tryz.func131,Tryz.ntmps131
  go_wp2
  go_ret;exact ⟨rfl,rfl⟩
 have e:G7 op=[]:=by unfold G7;rw [if_neg zo,if_neg zo,if_neg zo,if_neg zo,if_neg zo,if_neg zo,if_neg zo,if_neg zo]
 rw [e];have h0':op<0:=zo
 go_enter Tryz.func131,Tryz.ntmps131
 go_wp2
 go_ret;exact ⟨rfl,rfl⟩
theorem a8K {v:V} (hv:v.fits):v.prt.length<=20000000:=by
 unfold V.prt;have hi:=hv.int;have ht:=hv.text;split
 ·unfold Lib.itoa;split
  ·have:=a8C v.int.natAbs zo;rw [zz9,Lib.decDigits_length];omega
  have:=a8C v.int.toNat zo;rw [Lib.decDigits_length];omega
 split
 ·have:=(a3n (m8 v.num)).2;unfold S9;split
  ·omega
  rw [zz4];simp;omega
 split
 ·have:=b1c Lib.goPrintTabs v.text;omega
 split<;>decide
theorem a1V (w0 w:World) (hl:L4 w0 w) (c:Cnd) (hv:c.v.fits) (hn:c.name.size<=1000000):Calls Tryz.prog 104 #[.agg c.cells.toArray] w fun e w'=>e= .returned (.string (str c.prt))/\Mod (fun _=>False) w w':=by
 obtain ⟨name,op,v⟩:=c;unfold Cnd.prt;simp only at hv hn⊢;obtain ⟨wa,ak,ae,aa,ah⟩:=g6 w (.cells (Cnd.cells ⟨name,op,v⟩).toArray 126);have dD:=hl.mod0 ae;have c0:wa.cell? ⟨w.heap.size,0,none⟩=some (.string name):=d6 aa rfl;have c1:wa.cell? ⟨w.heap.size,1,none⟩=some (.int .i64 op):=d6 aa rfl;by_cases h7:op=7
 ·rw [if_pos h7];subst h7
  have hap:(Value.string (str ([104,97,115,32]++name.data.toList)))= .string (⟨#[104,97,115,32]⟩++name):=by
   rw [J5];rfl
  rw [hap];refine hh6 hap ak dD hl aa ae fun NK aB rW Hl aC ai=> ?_;clear hap ak dD hl aa ae hv
  go_enter Tryz.func104,Tryz.ntmps104
  go_wp2_with (rw [show w.alloc _=wa from aB.out])
  go_ret;exact ⟨rfl,ai.out⟩
 rw [if_neg h7];have d7:(op==7)=false:=by rw [beq_eq_false_iff_ne];exact h7
 have hwd:=fun (wx:World) (hx:Mod (fun _=>False) wa wx)=>(b3P w0 wx (dD.mod0 hx) op).mono fun e w'' (h:_/\_)=>(⟨h.1,h.2.symm▸hx⟩:e= .returned (.string (str (G7 op)))/\Mod (fun _=>False) wa w'');have hvp:=fun (wx:World) (hx:Mod (fun _=>False) wa wx)=>(a9q w0 wx (dD.mod0 hx) v hv).mono fun e w'' (h:_/\_)=>(⟨h.1,hx.trans h.2 zi⟩:e= .returned (.string (str v.prt))/\Mod (fun _=>False) wa w'')
 have hap:(Value.string (str (name.data.toList++[32]++G7 op++[32]++v.prt)))= .string (name++⟨#[32]⟩++str (G7 op)++⟨#[32]⟩++str v.prt):=by
  rw [J5,J5,J5,J5];rfl
 rw [hap];have hcv:d8 wa w.heap.size 2 v.cells:=a0G aa
 have hws:(str (G7 op)).size<=3:=by
  rw [a0u];unfold G7
  repeat' split
  all_goals decide
 have hps:(str v.prt).size<=20000000:=by
  rw [a0u];exact a8K hv
 obtain ⟨wd,rX⟩:∃wd,str (G7 op)=wd:=⟨_,rfl⟩;obtain ⟨pt,hpt⟩:∃pt,str v.prt=pt:=⟨_,rfl⟩;rw [rX] at hws;rw [hpt] at hps;simp only [rX,hpt] at hwd hvp hap⊢;have s1:¬9223372036854775807<name.size+1:=zo
 have s2:¬9223372036854775807<name.size+1+wd.size:=zo
 have s3:¬9223372036854775807<name.size+1+wd.size+1:=zo
 have s4:¬9223372036854775807<name.size+1+wd.size+1+pt.size:=zo
 have hf0:∀w',Mod (fun _=>False) wa w'->w'.cell? ⟨w.heap.size,0,none⟩=some (.string name):=fun w' hw'=>hw'.cell c0 id;have hf1:∀w',Mod (fun _=>False) wa w'->w'.cell? ⟨w.heap.size,1,none⟩=some (.int .i64 op):=fun w' hw'=>hw'.cell c1 id;have hf2:∀w',Mod (fun _=>False) wa w'->l4 w' w.heap.size 2 5/\cellsOf w' w.heap.size 2 5=v.cells.toArray:=fun w' hw'=>⟨(hcv.mod hw' id).all rfl,(hcv.mod hw' id).is rfl⟩;refine hh8 hap ak dD hl aa ae hwd hvp fun NK aB rW Hl aC ai NL QV=> ?_;refine hh6 rX hpt hcv hf0 hf1 hf2 fun QX WG Bt Jf Hf1 kv=> ?_;clear hap ak dD hl aa ae hwd hvp rX hpt hcv hf0 hf1 hf2 hv h7
 go_enter Tryz.func104,Tryz.ntmps104
 go_wp2_with (rw [show w.alloc _=wa from aB.out])
 refine g9 zk zk ?_
 iterate 13 (first
  | (refine j1 ?_ (fun K hK=> ?_)
     ·first|(go_simp;done)|(go_simp;simp [undef];done)
     go_simp;refine hK _ ?_;clear hK K)
  | (refine l9 ?_ ?_ (fun w' hw'=> ?_) (fun K hK=> ?_)
     ·first|(go_simp;done)|(go_simp;simp [undef];done)
     rotate_left
     ·have f0:=Jf.out w' hw';have f1:=Hf1.out w' hw';obtain ⟨f2,f3⟩:=kv.out w' hw';go_simp;rfl
     go_simp;refine hK _ ?_;clear hK K)
  | (refine q7 ?_ ?_ ?_ ?_ (fun w' hw'=> ?_) ?_ (fun K hK=> ?_)
     ·first|(go_simp;done)|(go_simp;simp [undef];done)
     rotate_left 3
     ·have f0:=Jf.out w' hw';have f1:=Hf1.out w' hw';obtain ⟨f2,f3⟩:=kv.out w' hw';go_simp;constructor<;>rfl
     ·first|with_reducible exact NL.out|with_reducible exact QV.out
     go_simp;refine hK _ ?_;clear hK K))
 refine j8 (fun w' hw'=> ?_);have dJ:=Lib.hid (ai.out.trans hw' zi);clear hw'
 go_wp2
 go_ret;exact ⟨rfl,dJ.out⟩
structure Cnd.fits (c:Cnd):Prop where
 v:c.v.fits
 name:c.name.size<=1000000
theorem a3o {c:Cnd} (h:c.fits):c.prt.length<=22000000:=by
 have h1:=a8K h.v;have h2:=h.name;have h3:c.name.data.toList.length=c.name.size:=by rw [Array.length_toList];rfl
 unfold Cnd.prt;split
 ·rw [zz4,h3];simp only [zz9,List.length_nil];omega
 rw [zz4,zz4,zz4,zz4,h3]
 have:(G7 c.op).length<=3:=by
  unfold G7
  repeat' split
  all_goals decide
 simp only [zz9,List.length_nil];omega
theorem a7y (l:List Cnd) (c:Cnd):K3 (l++[c])=K3 l++([32,38,32]++c.prt):=by
 induction l with
 |nil=>simp [K3]
 |cons d l ih=>
  show [32,38,32]++d.prt++K3 (l++[c])=[32,38,32]++d.prt++K3 l++_;rw [ih];simp
theorem a58 (sc:ByteArray) (l:List Cnd) (c:Cnd):t8 sc (l++[c])=(if l=[] then t8 sc l else t8 sc l++[32,38])++([32]++c.prt):=by
 cases l with
 |nil=>simp [t8,a0f,K3]
 |cons d l=>
  rw [if_neg (by simp)];unfold t8;show sc.data.toList++[58]++([32]++d.prt++K3 (l++[c]))=sc.data.toList++[58]++([32]++d.prt++K3 l)++[32,38]++_;rw [a7y];simp
theorem J7 (sc:ByteArray) (l:List Cnd) (h:∀c∈l,c.fits):(t8 sc l).length<=sc.size+1+23000000*l.length:=by
 have key:∀m:List Cnd,(∀c∈m,c.fits)->(K3 m).length<=23000000*m.length:=by
  intro m
  induction m with
  |nil=>intro _;exact Nat.zero_le _
  |cons c m ih=>
   intro hm;have h1:=ih fun x hx=>hm x (List.mem_cons_of_mem _ hx);have h2:=a3o (hm c List.mem_cons_self);unfold K3;rw [zz4,zz4,zz9];simp only [zz9,List.length_nil];omega
 have hs:sc.data.toList.length=sc.size:=by rw [Array.length_toList];rfl
 unfold t8;rw [zz4,zz4,hs]
 cases l with
 |nil=>simp [a0f]
 |cons c l=>
  have h1:=key l fun x hx=>h x (List.mem_cons_of_mem _ hx);have h2:=a3o (h c List.mem_cons_self);unfold a0f;rw [zz4,zz4,zz9];simp only [zz9,List.length_nil];omega
theorem a1W (w0 w:World) (hl:L4 w0 w) (sc:ByteArray) (cv:Value) (l:List Cnd) (hv:i8 w 7 cv l.length (q8 l)) (hll:l.length<=1000) (hsc:sc.size<=1000000) (hcs:∀c∈l,c.fits):
 Calls Tryz.prog 112 #[.agg #[.string sc,cv]] w fun e w'=>e= .returned (.string (str (t8 sc l)))/\Mod (fun _=>False) w w':=by
 obtain ⟨a,cap,rfl,hcap⟩:∃a c,cv= .slice a l.length c/\l.length<=c:=by obtain ⟨-,a,c,h,h2, -⟩:=hv;exact ⟨a,c,h,h2⟩
 have df:(l.length:Int)<=1000:=zo
 have bG:(l.length:Int)<=cap:=zo
 obtain ⟨wa,ak,ae,aa,ah⟩:=g6 w (.cells #[.string sc,.slice a l.length cap] 34);have hva:=hv.mod ae zi;have hla:=hl.mod0 ae;have c0:wa.cell? ⟨w.heap.size,0,none⟩=some (.string sc):=d6 aa rfl;have c1:wa.cell? ⟨w.heap.size,1,none⟩=some (.slice a l.length cap):=d6 aa rfl;obtain ⟨R,hR⟩:∃R,str (t8 sc l)=R:=⟨_,rfl⟩;rw [hR]
 have hs0:str (t8 sc [])=sc++⟨#[58]⟩:=by
  unfold t8 a0f;rw [zz11,J5];rfl
 refine hh8 hv ak aa hva hR ae hla hl fun Hv aB aC dE HR ai qZ Hl=> ?_;refine hh2 hcs hs0 fun iI Gv=> ?_;clear hv ak aa hva hR ae hla hl hcs hs0 ah
 go_enter Tryz.func112,Tryz.ntmps112
 go_wp2_with (rw [show w.alloc _=wa from aB.out])
 go_loopw [3,12] (fun s i wr=>∃j:Nat,i= .int .i64 j/\j<=l.length/\Mod (fun _=>False) wa wr/\s= .string (str (t8 sc (l.take j)))) (fun _ i _=>l.length - (intOf i).toNat)
 case atStart=>exact ⟨0,rfl,Nat.zero_le _,Mod.refl _ _,congrArg Value.string Gv.out.symm⟩
 case round=>
  obtain ⟨j,rfl,hj,hmr,rfl⟩:=hrel;by_cases hlt:j<l.length
  ·have hlt':(j:Int)<l.length:=zo
   obtain ⟨x,hxj⟩:∃x,l[j]? =some x:=⟨_,zz5 hlt⟩;have hxm:=zz8 hxj;obtain ⟨g,off,rfl,hf⟩:∃g off,a=some ⟨g,off,none⟩/\d8 wr g (off+j*7) x.cells:=U4 (dE.out.mod hmr zi) hxj;obtain ⟨wz,hwz,ag,aj,aF⟩:=g6 wr (.cells x.cells.toArray 126);have hmz:=hmr.trans ag zi;have fO:=iI.out x hxm;have hcr:=a1V w0 wz (qZ.out.mod0 hmz) x fO.v fO.name
   have hsn:l.take (j+1)=l.take j++[x]:=by
    rw [List.take_succ_eq_append_getElem hlt];congr 2;exact (zz6 hxj).2
   have hfs:=a58 sc (l.take j) x;rw [<-hsn] at hfs;have hln:=J7 sc (l.take j) fun c hc=>iI.out c (List.mem_of_mem_take hc);have hlj:(l.take j).length<=1000:=by rw [List.length_take];omega
   have hlx:=a3o fO;have hsz:(str (t8 sc (l.take j))).size<=100000000000:=by rw [a0u];omega
   have hsx:(str x.prt).size<=100000000000:=by rw [a0u];omega
   obtain ⟨s,hs⟩:∃s,str (t8 sc (l.take j))=s:=⟨_,rfl⟩;obtain ⟨px,hpx⟩:∃px,str x.prt=px:=⟨_,rfl⟩;rw [hs] at hsz⊢;rw [hpx] at hcr hsx;have s0:¬9223372036854775807<s.size+2:=zo
   have s1:¬9223372036854775807<1+px.size:=zo
   have s2:¬9223372036854775807<s.size+(1+px.size):=zo
   have s3:¬9223372036854775807<s.size+2+(1+px.size):=zo
   by_cases hj0:j=0
   ·subst hj0
    have hnew:str (t8 sc (l.take (0+1)))=s++(⟨#[32]⟩++px):=by
     rw [hfs,if_pos (by simp),J5,hs,J5,hpx];rfl
    refine hh8 hmr hxj hxm hf hwz ag aj hmz fun aL dX iJ Hf aX bE aJ bC=> ?_;refine hh7 hcr hsn hfs hs hpx hnew fO fun iP Bu Jc Hs Bv nP Gx=> ?_;clear hmr hxj hxm hf hwz ag aj hmz hcr hsn hfs hs hpx hnew fO aF hln hlj hlx hsz hsx
    go_wp2_with (first|((with_reducible refine e9 126 (.tmp 15) ?_);refine ⟨g,off+0*7,rfl,x.cells,Hf.out,zk,zk, ?_⟩)|((with_reducible refine d9 126 (.tmp 5) (.tmp 16) ?_);refine ⟨rfl,x.cells,rfl,rfl,zk,rfl, ?_⟩;rw [aX.out])|((with_reducible refine e9 126 (.tmp 5) ?_);refine ⟨wr.heap.size,0,rfl,x.cells,d8.row aJ.out,zk,zk, ?_⟩))
    refine iP.out.mono ?_;rintro e w3 ⟨rfl,au⟩;have aZ:=Lib.hid (bC.out.trans au zi);clear au
    go_wp2_with fail
    go_roundw
    case rel=>exact ⟨0+1,by go_num,hlt,aZ.out,congrArg Value.string nP.out.symm⟩
    case measure=>simp [intOf];omega
   have hj1:(0:Int)<j:=zo
   have hnew:str (t8 sc (l.take (j+1)))=s++⟨#[32,38]⟩++(⟨#[32]⟩++px):=by
    have hne:¬l.take j=[]:=fun h=>by
     have:=congrArg List.length h;rw [List.length_take,List.length_nil] at this;omega
    rw [hfs,if_neg hne,J5,J5,hs,J5,hpx];rfl
   refine hh8 hmr hxj hxm hf hwz ag aj hmz fun aL dX iJ Hf aX bE aJ bC=> ?_;refine hh7 hcr hsn hfs hs hpx hnew fO fun iP Bu Jc Hs Bv nP Gx=> ?_;clear hmr hxj hxm hf hwz ag aj hmz hcr hsn hfs hs hpx hnew fO aF hln hlj hlx hsz hsx
   go_wp2_with (first|((with_reducible refine e9 126 (.tmp 15) ?_);refine ⟨g,off+j*7,rfl,x.cells,Hf.out,zk,zk, ?_⟩)|((with_reducible refine d9 126 (.tmp 5) (.tmp 16) ?_);refine ⟨rfl,x.cells,rfl,rfl,zk,rfl, ?_⟩;rw [aX.out])|((with_reducible refine e9 126 (.tmp 5) ?_);refine ⟨wr.heap.size,0,rfl,x.cells,d8.row aJ.out,zk,zk, ?_⟩))
   refine iP.out.mono ?_;rintro e w3 ⟨rfl,au⟩;have aZ:=Lib.hid (bC.out.trans au zi);clear au
   go_wp2_with fail
   go_roundw
   case rel=>exact ⟨j+1,by go_num,hlt,aZ.out,congrArg Value.string nP.out.symm⟩
   case measure=>simp [intOf];omega
  obtain rfl:j=l.length:=zo
  have hfin:str (t8 sc (l.take l.length))=R:=by rw [List.take_length];exact HR.out
  rw [hfin];refine hh2 hmr hfin fun aL bF=> ?_;clear hmr hfin
  go_wp2
  go_ret;exact ⟨rfl,ai.out.trans aL.out zi⟩
def sgn (l m:Bool):Int:=if l then -1 else if m then 1 else 0
def V.cmp (a b:V):Int:=if a.kind=0 then sgn (decide (a.int<b.int)) (decide (b.int<a.int)) else if a.kind=1 then sgn (fLt a.num b.num) (fLt b.num a.num) else
 if a.kind=2 then Lib.compareBytes a.text.data.toList b.text.data.toList else sgn (!a.yes&&b.yes) (a.yes&& !b.yes)
def V.alike (a b:V):Bool:=a.kind==b.kind&&(!a.void&& !b.void)
def O0 (a b:V):Int×Bool:=if V.alike a b=true then (V.cmp a b,true) else (0,false)
theorem a0Q (l m:Bool) (w:World):Calls Tryz.prog 195 #[.bool l,.bool m] w fun e w'=>e= .returned (.int .i64 (sgn l m))/\w'=w:=by
 cases l with
 |true=>
  go_enter Tryz.func195,Tryz.ntmps195
  go_wp2
  go_ret;exact ⟨rfl,rfl⟩
 | false=>
  cases m with
  |true=>
   go_enter Tryz.func195,Tryz.ntmps195
   go_wp2
   go_ret;exact ⟨rfl,rfl⟩
  |false=>
   go_enter Tryz.func195,Tryz.ntmps195
   go_wp2
   go_ret;exact ⟨rfl,rfl⟩
theorem a3p (a b:V) (w:World):Calls Tryz.prog 169 #[.agg a.cells.toArray,.agg b.cells.toArray] w fun e w'=>e= .returned (.tuple #[.int .i64 (O0 a b).1,.bool (O0 a b).2])/\Mod (fun _=>False) w w':=by
 obtain ⟨wa,ak,ae,aa,ah⟩:=g6 w (.cells a.cells.toArray 96);obtain ⟨wb,hwb,ay,aA,aU⟩:=g6 wa (.cells b.cells.toArray 96);have hmb:=ae.trans ay zi;have hgA:=ay.heap aa id;have c0:wb.cell? ⟨w.heap.size,0,none⟩=some (.int .i64 a.kind):=d6 hgA rfl;have c1:wb.cell? ⟨w.heap.size,1,none⟩=some (.int .i64 a.int):=d6 hgA rfl;have c2:wb.cell? ⟨w.heap.size,2,none⟩=some (.float .f64 a.num):=d6 hgA rfl;have c3:wb.cell? ⟨w.heap.size,3,none⟩=some (.string a.text):=d6 hgA rfl;have c4:wb.cell? ⟨w.heap.size,4,none⟩=some (.bool a.yes):=d6 hgA rfl;have d0:wb.cell? ⟨wa.heap.size,0,none⟩=some (.int .i64 b.kind):=d6 aA rfl;have d1:wb.cell? ⟨wa.heap.size,1,none⟩=some (.int .i64 b.int):=d6 aA rfl;have d2:wb.cell? ⟨wa.heap.size,2,none⟩=some (.float .f64 b.num):=d6 aA rfl;have d3:wb.cell? ⟨wa.heap.size,3,none⟩=some (.string b.text):=d6 aA rfl;have d4:wb.cell? ⟨wa.heap.size,4,none⟩=some (.bool b.yes):=d6 aA rfl;have hlz:w.heap.size<wa.heap.size:=zo
 have hva:=a1g a wb;refine hh6 ak hwb hmb hva hgA aA fun aB bN eQ dE Bw bq=> ?_;clear ak hwb hmb hva hgA aA ae ay aa ah aU
 cases hk:a.kind==b.kind with
 |false=>
  have hkn:(a.kind !=b.kind)=true:=by simp [bne,hk]
  have E:=Lib.hid (show O0 a b=(0,false) by unfold O0 V.alike;rw [hk];rfl)
  go_enter Tryz.func169,Tryz.ntmps169
  go_wp2_with (first|(rw [show w.alloc _=wa from aB.out])|(rw [show wa.alloc _=wb from bN.out]))
  go_ret2
  exact ⟨by rw [E.out];rfl,eQ.out⟩
 |true=>
 have hkn:(a.kind !=b.kind)=false:=by simp [bne,hk]
 cases hv:a.void with
 |true=>
  have E:=Lib.hid (show O0 a b=(0,false) by unfold O0 V.alike;rw [hk,hv];rfl);rw [hv] at dE;clear hv
  go_enter Tryz.func169,Tryz.ntmps169
  go_wp2_with (first|(rw [show w.alloc _=wa from aB.out])|(rw [show wa.alloc _=wb from bN.out]))
  refine dE.out.mono ?_;rintro e w2 ⟨rfl,hm2⟩;have aS:=Lib.hid (eQ.out.trans hm2 zi);clear hm2
  go_wp2
  go_ret2
  exact ⟨by rw [E.out];rfl,aS.out⟩
 |false=>
 obtain ⟨NM,Gy⟩:=zh2 hk hv;rw [hv] at dE;clear hv hk
 go_enter Tryz.func169,Tryz.ntmps169
 go_wp2_with (first|(rw [show w.alloc _=wa from aB.out])|(rw [show wa.alloc _=wb from bN.out]))
 refine dE.out.mono ?_;rintro e w2 ⟨rfl,hm2⟩;have hA2:=hm2.heap Bw.out id;have hB2:=hm2.heap bq.out id;have aK:=eQ.out.trans hm2 zi;have d0:w2.cell? ⟨wa.heap.size,0,none⟩=some (.int .i64 b.kind):=d6 hB2 rfl;have d1:w2.cell? ⟨wa.heap.size,1,none⟩=some (.int .i64 b.int):=d6 hB2 rfl;have d2:w2.cell? ⟨wa.heap.size,2,none⟩=some (.float .f64 b.num):=d6 hB2 rfl;have d3:w2.cell? ⟨wa.heap.size,3,none⟩=some (.string b.text):=d6 hB2 rfl;have d4:w2.cell? ⟨wa.heap.size,4,none⟩=some (.bool b.yes):=d6 hB2 rfl;have hvb:=a1g b w2;refine hh4 hA2 hB2 aK hvb fun HA2 HB2 aN dY=> ?_;clear hA2 hB2 aK hvb hm2 c0 c1 c2 c3 c4
 cases hv2:b.void with
 |true=>
  have E:=Lib.hid (show O0 a b=(0,false) by unfold O0 V.alike;rw [NM.out,Gy.out,hv2];rfl);rw [hv2] at dY;clear hv2
  go_wp2_with fail
  refine dY.out.mono ?_;rintro e w3 ⟨rfl,au⟩;have aZ:=Lib.hid (aN.out.trans au zi);clear au
  go_wp2
  go_ret2
  exact ⟨by rw [E.out];rfl,aZ.out⟩
 |false=>
 have E:=Lib.hid (show O0 a b=(V.cmp a b,true) by unfold O0 V.alike;rw [NM.out,Gy.out,hv2];rfl);rw [hv2] at dY;clear hv2
 go_wp2_with fail
 refine dY.out.mono ?_;rintro e w3 ⟨rfl,au⟩;have hA3:=au.heap HA2.out id;have hB3:=au.heap HB2.out id;have c0:w3.cell? ⟨w.heap.size,0,none⟩=some (.int .i64 a.kind):=d6 hA3 rfl;have c1:w3.cell? ⟨w.heap.size,1,none⟩=some (.int .i64 a.int):=d6 hA3 rfl;have c2:w3.cell? ⟨w.heap.size,2,none⟩=some (.float .f64 a.num):=d6 hA3 rfl;have c3:w3.cell? ⟨w.heap.size,3,none⟩=some (.string a.text):=d6 hA3 rfl;have c4:w3.cell? ⟨w.heap.size,4,none⟩=some (.bool a.yes):=d6 hA3 rfl;have d1:w3.cell? ⟨wa.heap.size,1,none⟩=some (.int .i64 b.int):=d6 hB3 rfl;have d2:w3.cell? ⟨wa.heap.size,2,none⟩=some (.float .f64 b.num):=d6 hB3 rfl;have d3:w3.cell? ⟨wa.heap.size,3,none⟩=some (.string b.text):=d6 hB3 rfl;have d4:w3.cell? ⟨wa.heap.size,4,none⟩=some (.bool b.yes):=d6 hB3 rfl;have aR:=aN.out.trans au zi;refine hh3 hA3 hB3 aR fun lC HB3 aT=> ?_;clear hA3 hB3 aR au dY dE HA2 HB2
 cases h0:a.kind==0 with
 |true=>
  have E2:=Lib.hid (show V.cmp a b=_ from if_pos (beq_iff_eq.1 h0))
  go_wp2_with fail
  refine (a0Q _ _ w3).mono ?_;rintro e w4 ⟨rfl,rfl⟩
  go_wp2
  go_ret2
  exact ⟨by rw [E.out,E2.out];rfl,aT.out⟩
 |false=>
 have h0':¬a.kind=0:=by simpa using h0
 have E0:=Lib.hid (show V.cmp a b=_ from if_neg h0');clear h0'
 cases h1:a.kind==1 with
 |true=>
  have E2:=Lib.hid (E0.out.trans (if_pos (beq_iff_eq.1 h1)))
  go_wp2_with fail
  go_quiet ((first|(go_at_call 196;exact Calls.quiet_of_same (b30 _ _ _))|(go_at_call 195;exact Calls.quiet_of_same (a0Q _ _ _))))
  go_wp2
  go_ret2
  exact ⟨by rw [E.out,E2.out];rfl,aT.out.drewN _⟩
 |false=>
 have h1':¬a.kind=1:=by simpa using h1
 have E1:=Lib.hid (E0.out.trans (if_neg h1'));clear h1'
 cases h2:a.kind==2 with
 |true=>
  have E2:=Lib.hid (E1.out.trans (if_pos (beq_iff_eq.1 h2)))
  go_wp2_with fail
  refine (a7X a.text b.text w3).mono ?_;rintro e w4 ⟨rfl,rfl⟩
  go_wp2
  go_ret2
  exact ⟨by rw [E.out,E2.out];rfl,aT.out⟩
 | false=>
  have h2':¬a.kind=2:=by simpa using h2
  have E2:=Lib.hid (E1.out.trans (if_neg h2'));clear h2'
  cases hya:a.yes with
  | true=>
   rw [hya] at E2 c4
   cases hyb:b.yes with
   |true=>
    rw [hyb] at E2 d4
    go_wp2_with fail
    refine (a0Q _ _ w3).mono ?_;rintro e w4 ⟨rfl,rfl⟩
    go_wp2
    go_ret2
    exact ⟨by rw [E.out,E2.out];rfl,aT.out⟩
   |false=>
    rw [hyb] at E2 d4
    go_wp2_with fail
    refine (a0Q _ _ w3).mono ?_;rintro e w4 ⟨rfl,rfl⟩
    go_wp2
    go_ret2
    exact ⟨by rw [E.out,E2.out];rfl,aT.out⟩
  | false=>
   rw [hya] at E2 c4
   cases hyb:b.yes with
   |true=>
    rw [hyb] at E2 d4
    go_wp2_with fail
    refine (a0Q _ _ w3).mono ?_;rintro e w4 ⟨rfl,rfl⟩
    go_wp2
    go_ret2
    exact ⟨by rw [E.out,E2.out];rfl,aT.out⟩
   |false=>
    rw [hyb] at E2 d4
    go_wp2_with fail
    refine (a0Q _ _ w3).mono ?_;rintro e w4 ⟨rfl,rfl⟩
    go_wp2
    go_ret2
    exact ⟨by rw [E.out,E2.out];rfl,aT.out⟩
def Cnd.holds (c:Cnd) (v:V):Bool:=
 if c.op=7 then true else if c.op=6 then (O0 v c.v).2&&(v.kind==2&&a0k v.text c.v.text) else if c.op=0 then (O0 v c.v).2&&(O0 v c.v).1==0 else
 if c.op=1 then (O0 v c.v).2&&(O0 v c.v).1 !=0 else if c.op=2 then (O0 v c.v).2&&decide ((O0 v c.v).1<0) else if c.op=3 then (O0 v c.v).2&&decide ((O0 v c.v).1<=0) else
 if c.op=4 then (O0 v c.v).2&&decide (0<(O0 v c.v).1) else if c.op=5 then (O0 v c.v).2&&decide (0<=(O0 v c.v).1) else false
theorem m9 {a b:Bool} (h:b=a):Ending.returned (.bool a)= .returned (.bool b):=by rw [h]
theorem a3q (c:Cnd) (v:V) (hc:c.v.text.size<=9223372036854775807) (hv:v.text.size<=9223372036854775807) (w:World):
 Calls Tryz.prog 143 #[.agg c.cells.toArray,.agg v.cells.toArray] w fun e w'=>e= .returned (.bool (c.holds v))/\Mod (fun _=>False) w w':=by
 obtain ⟨wa,ak,ae,aa,ah⟩:=g6 w (.cells c.cells.toArray 126);obtain ⟨wb,hwb,ay,aA,aU⟩:=g6 wa (.cells v.cells.toArray 96);have hmb:=ae.trans ay zi;have hgA:=ay.heap aa id;have hcm:=a3p v c.v wb;obtain ⟨R,hR⟩:∃R,c.holds v=R:=⟨_,rfl⟩;rw [hR];unfold Cnd.holds at hR;obtain ⟨⟨n,ok⟩,hn⟩:∃p,O0 v c.v=p:=⟨_,rfl⟩;rw [hn] at hcm hR;simp only at hcm hR;have fQ:=fun wx=>a0Z v.text c.v.text hv hc wx;have hlz:w.heap.size<wa.heap.size:=zo
 refine hh8 ak hwb hmb hgA aA hcm hR hn fun aB bN eQ Bw bq Gz HR Hn=> ?_;refine hh1 fQ fun xA=> ?_;clear ak hwb hmb hgA aA hcm hR hn fQ ae ay aa ah aU hc hv
 go_enter Tryz.func143,Tryz.ntmps143
 go_wp2_with (first|(rw [show w.alloc _=wa from aB.out])|(rw [show wa.alloc _=wb from bN.out])|((with_reducible refine e9 96 (.tmp 3) ?_);refine ⟨wa.heap.size,0,rfl,v.cells,d8.row bq.out,zk,zk, ?_⟩)|((with_reducible refine e9 96 (.tmp 9) ?_);refine ⟨w.heap.size,2,rfl,c.v.cells,a0G Bw.out,zk,zk, ?_⟩))
 refine Gz.out.mono ?_;rintro e w2 ⟨rfl,hm2⟩;have hA2:=hm2.heap Bw.out id;have hB2:=hm2.heap bq.out id;have aK:=eQ.out.trans hm2 zi;have c1:w2.cell? ⟨w.heap.size,1,none⟩=some (.int .i64 c.op):=d6 hA2 rfl;have c5:w2.cell? ⟨w.heap.size,5,none⟩=some (.string c.v.text):=d6 hA2 rfl;have d0:w2.cell? ⟨wa.heap.size,0,none⟩=some (.int .i64 v.kind):=d6 hB2 rfl;have d3:w2.cell? ⟨wa.heap.size,3,none⟩=some (.string v.text):=d6 hB2 rfl;have Bz:=xA.out w2;refine hh2 aK Bz fun aN Jg=> ?_;clear aK Bz hm2 hA2 hB2 Gz Bw bq xA aB bN eQ
 cases ok with
 |false=>
  go_wp2
  all_goals (go_ret;refine ⟨m9 (HR.out.symm.trans (by (try simp only [beq_iff_eq,beq_eq_false_iff_ne,ne_eq] at*);simp [*])),aN.out⟩)
 | true=>
  cases hvk:v.kind==2 with
  |false=>
   go_wp2
   all_goals (go_ret;refine ⟨m9 (HR.out.symm.trans (by (try simp only [beq_iff_eq,beq_eq_false_iff_ne,ne_eq] at*);simp [*])),aN.out⟩)
  |true=>
   go_wp2_with (refine Jg.out.mono ?_;rintro e w3 ⟨rfl,rfl⟩)
   all_goals (go_ret;refine ⟨m9 (HR.out.symm.trans (by (try simp only [beq_iff_eq,beq_eq_false_iff_ne,ne_eq] at*);simp [*])),aN.out⟩)
end Go.Proofs.YtdmjoodhaeijmaaGreatDoor
