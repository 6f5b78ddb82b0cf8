/- Lemmas. -/
import Derived.Test.YtebhabpahfmodaaGreatDoorZh40
import Derived.PinnedBridge
import Derived.Lib.LaidU8T
import Derived.Lib.LaidTab
import Derived.Lib.LaidPrint
set_option maxHeartbeats 40000000
set_option maxRecDepth 20000
namespace Go.Proofs.YtebhabpahfmodaaGreatDoor
open Go.RowKit
theorem a1T:reachBytes<=140737488355328:=zd
theorem Ru.inn.ok {W:World} {r:Ru} (h:r.inn W):r.ok W:=by
 have hr:=a1T;have h1:=h.who;have h2:=h.name;have h3:=h.fil.sc;refine ⟨h.fil.rd, ?_,zo,zo,zo,fun c hc=> ?_⟩
 ·exact b0c h.fil.len
 have h4:=(h.fil.cs c hc).name;have h5:=(h.fil.cs c hc).v.text;omega
theorem Ru.inn.rin {W:World} {r:Ru} (h:r.inn W):b4Z r:=by
 have hr:=a1T;refine ⟨Nat.le_trans h.who hr,Nat.le_trans h.name hr,Nat.le_trans h.fil.sc hr,fun c hc=> ?_⟩;have h4:=h.fil.cs c hc;exact ⟨⟨Nat.le_trans h4.name hr,Nat.le_trans h4.v.text hr⟩,h4.v.int,h4.v.num⟩
theorem b0Z {W:World} (hL:a3P W) (hN:16<=W.heap.size):N8 W W:=⟨hL,hN,⟨rfl,rfl,rfl,Nat.le_refl _,fun _ _=>rfl⟩⟩
section
open Go.ChangeShapes Go.WideShapes Go.ChangeAt Go.RowKit
section
variable {H:Type} {enc:TypeId×Value->H} {W:World}
structure As.inn (W:World) (x:As):Prop where
 who:x.who.size<=reachBytes
 fil:b17 W x.sc x.a x.c x.cs
theorem b00 {fuel:Nat} {cs:List Value} {x:DataW H×List MemPlace} (h:DataW.trod enc Tryz.prog W 0 (fun _=>true) true fuel 44 cs=some x) (hw:∀n∈DataW.weights Tryz.prog 44 x.1,n<=reachBytes):∃r:As,cs=r.cells/\r.inn W:=by
 obtain ⟨xs,n1, -,hxd,hlen,hxs,hf⟩:=DataW.trod_struct Tryz.underlying44 h;rw [show Tryz.prog.cellsOf 44=6 by kernel_rfl] at hlen
 have hx:∀i,i<5->∃y,xs[i]? =some y:=fun i hi=>by
  simp at hxs;exact ⟨_,zz5 zo⟩
 rw [hxd] at hw;have hw:∀n∈DataW.weights Tryz.prog 44 (.agg (xs.map (·.1)):DataW H),n<=reachBytes:=hw
 match cs,hlen with
 |[c0,c1,c2,c3,c4,c5],_=>
  obtain ⟨y0,h0⟩:=hx 0 zo;have f0:DataW.trod enc Tryz.prog W 0 (fun _=>true) true n1 3 (([c0,c1,c2,c3,c4,c5].drop 0).take (Tryz.prog.cellsOf 3))=xs[0]? :=hf 0 _ rfl;rw [h0,show Tryz.prog.cellsOf 3=1 by kernel_rfl] at f0;obtain ⟨z0,e0, -, -⟩:=DataW.trod_int Tryz.underlying3 f0;have e0:[c0]=[.int .i64 z0]:=e0;obtain ⟨y1,h1⟩:=hx 1 zo;have f1:DataW.trod enc Tryz.prog W 0 (fun _=>true) true n1 3 (([c0,c1,c2,c3,c4,c5].drop 1).take (Tryz.prog.cellsOf 3))=xs[1]? :=hf 1 _ rfl;rw [h1,show Tryz.prog.cellsOf 3=1 by kernel_rfl] at f1;obtain ⟨z1,e1, -, -⟩:=DataW.trod_int Tryz.underlying3 f1;have e1:[c1]=[.int .i64 z1]:=e1;obtain ⟨y2,h2⟩:=hx 2 zo;have f2:DataW.trod enc Tryz.prog W 0 (fun _=>true) true n1 3 (([c0,c1,c2,c3,c4,c5].drop 2).take (Tryz.prog.cellsOf 3))=xs[2]? :=hf 2 _ rfl;rw [h2,show Tryz.prog.cellsOf 3=1 by kernel_rfl] at f2;obtain ⟨z2,e2, -, -⟩:=DataW.trod_int Tryz.underlying3 f2;have e2:[c2]=[.int .i64 z2]:=e2;obtain ⟨y3,h3⟩:=hx 3 zo;have f3:DataW.trod enc Tryz.prog W 0 (fun _=>true) true n1 9 (([c0,c1,c2,c3,c4,c5].drop 3).take (Tryz.prog.cellsOf 9))=xs[3]? :=hf 3 _ rfl;rw [h3,show Tryz.prog.cellsOf 9=1 by kernel_rfl] at f3;obtain ⟨z3,e3,u3, -⟩:=DataW.trod_string Tryz.underlying9 f3;have e3:[c3]=[.string z3]:=e3;have g3:z3.size<=reachBytes:=hw _ (n9 Tryz.underlying44 (i:=3) (t:=9) rfl (by rw [List.getElem?_map,h3];rfl) (by rw [u3];simp [DataW.weights]));obtain ⟨y4,h4⟩:=hx 4 zo;have f4:DataW.trod enc Tryz.prog W 0 (fun _=>true) true n1 26 (([c0,c1,c2,c3,c4,c5].drop 4).take (Tryz.prog.cellsOf 26))=xs[4]? :=hf 4 _ rfl;rw [h4,show Tryz.prog.cellsOf 26=2 by kernel_rfl] at f4;obtain ⟨s4,a4,k4,l4,e4,g4⟩:=a2g f4 (fun n hn=>hw n (n9 Tryz.underlying44 (i:=4) (t:=26) rfl (by rw [List.getElem?_map,h4];rfl) hn));have e4:[c4,c5]=[.string s4,.slice a4 l4.length k4]:=e4;cases e0
  cases e1
  cases e2
  cases e3
  cases e4
  exact ⟨⟨z0,z1,z2,z3,s4,a4,k4,l4⟩,rfl,g3,g4⟩
theorem a8R {base:Nat} {v:Value} {d:DataW H} {p:List MemPlace} (hok:Value.okWide Tryz.prog W .any base 23 v)
 (h:DataW.Trod enc Tryz.prog W 0 (fun _=>true) true 23 v d p) (hw:∀n∈DataW.weights Tryz.prog 23 d,n<=reachBytes):∃l:List As,a8c W v l/\l.length<=maxLen/\∀r∈l,r.inn W:=by
 obtain ⟨m,hm⟩:=h;obtain ⟨A,n,cap,rfl⟩:=okWide_slice Tryz.underlying23 hok;obtain ⟨l,h1,h2,h3⟩:=a0L (W:=W) (v:= .slice A n cap) (sz:=6) As.cells (fun _=>rfl) zd Tryz.underlying23 zk ⟨0,0,0,⟨#[]⟩,⟨#[]⟩,none,0,[]⟩ (fun r=>r.inn W) (fun _ _ _ h hw=>b00 h hw) hm hw;exact ⟨l,⟨h1,fun x hx=>(h3 x hx).fil.rd⟩,h2,h3⟩
theorem As.inn.asin {x:As} (h:x.inn W):b2d x:=by
 have hr:=a1T;refine ⟨Nat.le_trans h.who hr,Nat.le_trans h.fil.sc hr,b0c h.fil.len,fun c hc=> ?_⟩;have h4:=h.fil.cs c hc;exact ⟨⟨Nat.le_trans h4.name hr,Nat.le_trans h4.v.text hr⟩,h4.v.int,h4.v.num⟩
end
end
section
open Go.RowKit Go.Lib
theorem b62 {a b:Bool} (h:a=true) (k:b=true):(a&&b)=true:=by subst h;subst k;rfl
theorem b58 {w:World} (h:VarReads Tryz.prog w "internal/strconv.uint64pow10" Rows.laid_internal_strconv_uint64pow10):Lib.TabIs Tryz.prog w "internal/strconv.uint64pow10" .u64 Lib.pow10Tab:=by
 obtain ⟨g,t,cs,fuel,p,hg,hty,hvar,hd⟩:=h
 obtain rfl:=Option.some.inj ((show Tryz.prog.globalNamed "internal/strconv.uint64pow10" =some 3 by kernel_rfl).symm.trans hg)
 obtain rfl:=Option.some.inj ((show (Tryz.prog.globals[(3:Nat)]?).map (·.type)=some 261 by kernel_rfl).symm.trans hty);have e:(Rows.laid_internal_strconv_uint64pow10:DataW Unit)=tabData .u64 Lib.pow10Tab:=zk
 rw [e] at hd;unfold TabIs;rw [hvar,<-cells_of_tab Tryz.underlying261 Tryz.underlying198 zk zk hd]
theorem b40:Go.Pinned.pow10Rows.length=696:=zk
theorem b59 {w:World} (h:VarReads Tryz.prog w "internal/strconv.pow10Tab" Rows.laid_internal_strconv_pow10Tab):
 ∀i,i<696->w.cell? ⟨7,i*2,none⟩=some (.int .u64 ((pw i).1:Int))/\w.cell? ⟨7,i*2+1,none⟩=some (.int .u64 ((pw i).2:Int)):=by
 obtain ⟨g,t,cs,fuel,p,hg,hty,hvar,hd⟩:=h
 obtain rfl:=Option.some.inj ((show Tryz.prog.globalNamed "internal/strconv.pow10Tab" =some 7 by kernel_rfl).symm.trans hg)
 obtain rfl:=Option.some.inj ((show (Tryz.prog.globals[(7:Nat)]?).map (·.type)=some 304 by kernel_rfl).symm.trans hty);intro i hi;obtain ⟨fuel',d,q,hdi,he⟩:=array_elem (ds:=Go.Pinned.pow10Rows.map fun x=> .agg [.lit (.int .u64 x.1),.lit (.int .u64 x.2)]) Tryz.underlying304 hd i hi
 have hpi:Go.Pinned.pow10Rows[i]? =some (pw i):=by
  have hl:i<Go.Pinned.pow10Rows.length:=by rw [b40];exact hi
  unfold pw;rw [List.getD_eq_getElem?_getD,zz5 hl];rfl
 rw [List.getElem?_map,hpi] at hdi;obtain rfl:=(Option.some.inj hdi).symm;have hc2:Tryz.prog.cellsOf 303=2:=zk
 have hc1:Tryz.prog.cellsOf 198=1:=zk
 rw [hc2] at he
 have hcs:=ints_of_struct (zs:=[((pw i).1:Int),((pw i).2:Int)]) Tryz.underlying303 (fun j f hj=>by
  match j,hj with
  |0,hj=>simp at hj;subst hj;exact ⟨Tryz.underlying198,rfl,hc1⟩
  |1,hj=>simp at hj;subst hj;exact ⟨Tryz.underlying198,rfl,hc1⟩
  |j+2,hj=>simp at hj) (by rw [hc2];rfl) he
 have e0:=congrArg (·[0]?) hcs;have e1:=congrArg (·[1]?) hcs;simp only [List.getElem?_take,List.getElem?_drop] at e0 e1;constructor
 ·rw [World.var?_cell hg hvar (i*2),<-Array.getElem?_toList];simpa using e0
 rw [World.var?_cell hg hvar (i*2+1),<-Array.getElem?_toList];simpa using e1
theorem b3b {w:World} (h:VarReads Tryz.prog w "gazette/cond.words" Rows.laid_gazette_cond_words):∀i s,a3O[i]? =some s→w.cell? ⟨1,i,none⟩=some (.string (str s)):=by
 obtain ⟨g,t,cs,fuel,p,hg,hty,hvar,hd⟩:=h
 obtain rfl:=Option.some.inj ((show Tryz.prog.globalNamed "gazette/cond.words" =some 1 by kernel_rfl).symm.trans hg)
 obtain rfl:=Option.some.inj ((show (Tryz.prog.globals[(1:Nat)]?).map (·.type)=some 192 by kernel_rfl).symm.trans hty);have e:(Rows.laid_gazette_cond_words:DataW Unit)= .agg (a3O.map fun s=> .lit (.string s)):=rfl;rw [e] at hd;intro i s hs;have hi:i<8:=(zz6 hs).1;obtain ⟨fuel',d,q,hdi,he⟩:=array_elem (ds:=a3O.map fun s=> .lit (.string s)) Tryz.underlying192 hd i hi;rw [List.getElem?_map,hs] at hdi;obtain rfl:=(Option.some.inj hdi).symm;obtain ⟨z,e1,e2, -⟩:=DataW.trod_string Tryz.underlying9 he;have hc1:Tryz.prog.cellsOf 9=1:=zk
 rw [hc1] at e1;have e3:=congrArg (·[0]?) e1;simp only [List.getElem?_take,List.getElem?_drop] at e3;rw [World.var?_cell hg hvar i,<-Array.getElem?_toList]
 have e4:z=str s:=by
  have h1:=congrArg Prod.fst e2;simp only [DataW.lit.injEq,Lit.string.injEq] at h1;apply ByteArray.ext;apply Array.toList_inj.1;simpa [str] using h1.symm
 simpa [e4] using e3
theorem b6a {w:World} (h3:VarReads Tryz.prog w "unicode/utf8.first" Rows.laid_unicode_utf8_first) (h4:VarReads Tryz.prog w "unicode/utf8.acceptRanges" Rows.laid_unicode_utf8_acceptRanges):Lib.Utf8Tabs 9 10 w:=by
 have e3:(Rows.laid_unicode_utf8_first:DataW Unit)=tabData .u8 firstTab:=Pinned.utf8First_eq;have e4:(Rows.laid_unicode_utf8_acceptRanges:DataW Unit)=acceptData:=zk
 rw [e3] at h3;rw [e4] at h4;have SH:Tryz.prog.cellsOf 5=1:=zk
 refine ⟨fun c hc=> ?_,fun i hi=> ?_⟩
 ·obtain ⟨g,t,cs,fuel,p,hg,hty,hvar,hd⟩:=h3
  obtain rfl:=Option.some.inj ((show Tryz.prog.globalNamed "unicode/utf8.first" =some 9 by kernel_rfl).symm.trans hg)
  obtain rfl:=Option.some.inj ((show (Tryz.prog.globals[(9:Nat)]?).map (·.type)=some 313 by kernel_rfl).symm.trans hty);have hcs:=cells_of_tab Tryz.underlying313 Tryz.underlying5 zk zk hd;have:=World.var?_cell hg hvar c;rw [this,<-Array.getElem?_toList,hcs];simp [firstTab,hc]
 ·obtain ⟨g,t,cs,fuel,p,hg,hty,hvar,hd⟩:=h4
  obtain rfl:=Option.some.inj ((show Tryz.prog.globalNamed "unicode/utf8.acceptRanges" =some 10 by kernel_rfl).symm.trans hg)
  obtain rfl:=Option.some.inj ((show (Tryz.prog.globals[(10:Nat)]?).map (·.type)=some 316 by kernel_rfl).symm.trans hty);obtain ⟨fuel',d,q,hdi,he⟩:=array_elem Tryz.underlying316 hd i hi;simp only [List.getElem?_map,List.getElem?_range hi,Option.map_some,Option.some.injEq] at hdi;subst hdi;have hc2:Tryz.prog.cellsOf 315=2:=zk
  rw [hc2] at he
  have hcs:=ints_of_struct Tryz.underlying315 (fun j f hj=>by
   match j,hj with
   |0,hj=>simp at hj;subst hj;exact ⟨Tryz.underlying5,rfl,SH⟩
   |1,hj=>simp at hj;subst hj;exact ⟨Tryz.underlying5,rfl,SH⟩
   |j+2,hj=>simp at hj) (by rw [hc2];rfl) he
  have e0:=congrArg (·[0]?) hcs;have e1:=congrArg (·[1]?) hcs;simp only [List.getElem?_take,List.getElem?_drop] at e0 e1;constructor
  ·rw [World.var?_cell hg hvar (2*i),<-Array.getElem?_toList];simpa [Nat.mul_comm] using e0
  rw [World.var?_cell hg hvar (2*i+1),<-Array.getElem?_toList];simpa [Nat.mul_comm] using e1
theorem b6b {w:World} (h20:VarReads Tryz.prog w "strconv.isPrint16" Rows.laid_strconv_isPrint16) (h21:VarReads Tryz.prog w "strconv.isNotPrint16" Rows.laid_strconv_isNotPrint16)
 (h22:VarReads Tryz.prog w "strconv.isPrint32" Rows.laid_strconv_isPrint32) (h23:VarReads Tryz.prog w "strconv.isNotPrint32" Rows.laid_strconv_isNotPrint32):
 Lib.PrintTabsAt 11 12 13 14 goPrintTabs w:=by
 have e1:(Rows.laid_strconv_isPrint16:DataW Unit)=sliceData .u16 goPrintTabs.p16:=Pinned.isPrint16_eq;have e2:(Rows.laid_strconv_isNotPrint16:DataW Unit)=sliceData .u16 goPrintTabs.n16:=Pinned.isNotPrint16_eq;have e3:(Rows.laid_strconv_isPrint32:DataW Unit)=sliceData .u32 goPrintTabs.p32:=Pinned.isPrint32_eq;have e4:(Rows.laid_strconv_isNotPrint32:DataW Unit)=sliceData .u16 goPrintTabs.n32:=Pinned.isNotPrint32_eq;rw [e1] at h20;rw [e2] at h21;rw [e3] at h22;rw [e4] at h23;have hc16:Tryz.prog.cellsOf 317=1:=zk
 have hc32:Tryz.prog.cellsOf 208=1:=zk
 refine ⟨tabSlice_of_reads zk zk Tryz.underlying318 Tryz.underlying317 hc16 zd h20,tabSlice_of_reads zk zk Tryz.underlying318 Tryz.underlying317 hc16 zd h21,
  tabSlice_of_reads zk zk Tryz.underlying320 Tryz.underlying208 hc32 zd h22,tabSlice_of_reads zk zk Tryz.underlying318 Tryz.underlying317 hc16 zd h23, ?_, ?_, ?_⟩<;>decide
def b5z:List (String×DataW Unit):=Rows.brokerRoutesRow.laid
theorem b41 {w:World} (h:laidMet Tryz.prog b5z w):a3P w where
 num:=⟨b58 (laidMet.reads h (zz8 (i:=3) rfl)),b59 (laidMet.reads h (zz8 (i:=7) rfl))⟩
 prt:=b6b (laidMet.reads h (zz8 (i:=11) rfl)) (laidMet.reads h (zz8 (i:=9) rfl)) (laidMet.reads h (zz8 (i:=12) rfl)) (laidMet.reads h (zz8 (i:=10) rfl))
 utf:=b6a (laidMet.reads h (zz8 (i:=13) rfl)) (laidMet.reads h (zz8 (i:=4) rfl))
 words:=b3b (laidMet.reads h (zz8 (i:=5) rfl))
theorem b01 {w:World} (h:laidMet Tryz.prog b5z w):16<=w.heap.size:=by
 obtain ⟨g,t,cs,fuel,p,hg,hty,hvar,hd⟩:=laidMet.reads h (zz8 (i:=8) rfl)
 obtain rfl:=Option.some.inj ((show Tryz.prog.globalNamed "strconv.isGraphic" =some 15 by kernel_rfl).symm.trans hg)
 unfold World.var? at hvar;rw [hg] at hvar;simp only [Option.bind_some] at hvar
 cases hb:w.heap[(15:Nat)]? with
 |none=>rw [hb] at hvar;cases hvar
 |some o=>
  have:=(zz7 hb).1;omega
end
end Go.Proofs.YtebhabpahfmodaaGreatDoor
