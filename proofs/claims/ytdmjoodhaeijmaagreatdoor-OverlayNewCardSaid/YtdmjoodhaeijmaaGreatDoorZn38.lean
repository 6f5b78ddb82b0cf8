/- Lemmas. -/
import Derived.Sort.Row
import Derived.Test.YtdmjoodhaeijmaaGreatDoorZn35
set_option maxHeartbeats 40000000
set_option maxRecDepth 20000
namespace Go.Proofs.YtdmjoodhaeijmaaGreatDoor
section
open Go.RowKit Go.Sort
def O2 (l:List (List UInt8)):List Value:=l.map encStr
theorem a2v (l:List (List UInt8)):(O2 l).length=l.length:=by simp [O2]
theorem a6N (l m:List (List UInt8)):O2 (l++m)=O2 l++O2 m:=by simp [O2]
theorem b4A {l:List (List UInt8)} {k:Nat} {x:List UInt8} (h:l[k]? =some x):(O2 l)[k]? =some (.string ⟨x.toArray⟩):=by simp [O2,h]
theorem a99 {w:World} {g n off:Nat} {os:Array Obj} {cur:Array Value} {e:TypeId} {fr:Nat×Nat} (d:Array (List UInt8)) (hb:w.heap[g]? =some (.cells cur e fr)):
 (grow (putRow encStr (Sort.ahead w n) g off d) os).heap[g]? =some (.cells (putCells encStr off d cur) e fr):=by
 have hg:g<w.heap.size:=(zz7 hb).1;rw [heap_grow_old _ _ (by simpa using hg)];simp [putRow,mapBlock,Sort.ahead,Array.getElem?_modify,hb,onCells]
theorem a76 {w:World} {g n off:Nat} {cur:Array Value} {e:TypeId} {fr:Nat×Nat} (d:Array (List UInt8)) (hb:w.heap[g]? =some (.cells cur e fr)):
 (putRow encStr (Sort.ahead w n) g off d).heap[g]? =some (.cells (putCells encStr off d cur) e fr):=by
 simp [putRow,mapBlock,Sort.ahead,Array.getElem?_modify,hb,onCells]
theorem b2q {w:World} {g n off:Nat} {os:Array Obj} (d:Array (List UInt8)):Mod (fun k=>k=g) w (grow (putRow encStr (Sort.ahead w n) g off d) os):=by
 refine ⟨rfl,rfl,rfl,by simp,fun k hk hne=> ?_⟩;rw [heap_grow_old _ _ (by simpa using hk)];have:g≠k:=fun e=>hne e.symm;simp [putRow,mapBlock,Sort.ahead,Array.getElem?_modify,this]
theorem b0a {w:World} {g n off:Nat} (d:Array (List UInt8)):Mod (fun k=>k=g) w (putRow encStr (Sort.ahead w n) g off d):=by
 refine ⟨rfl,rfl,rfl,by simp,fun k hk hne=> ?_⟩;have:g≠k:=fun e=>hne e.symm;simp [putRow,mapBlock,Sort.ahead,Array.getElem?_modify,this]
theorem a4N (cur:Array Value) (off:Nat) (ts us:List (List UInt8)) (h:off+(ts++us).length<=cur.size):((putCells encStr off (ts++us).toArray cur).toList.drop off).take ts.length=O2 ts:=by
 apply List.ext_getElem?;intro j;rw [zz4] at h;by_cases hj:j<ts.length
 ·rw [List.getElem?_take_of_lt hj,List.getElem?_drop,Array.getElem?_toList];have h1:j<ts.length+us.length:=zo
  simp [putCells,h1,hj,O2,show off+j<cur.size by omega,List.getElem!_eq_getElem?_getD]
 rw [List.getElem?_take_eq_none zo,List.getElem?_eq_none (by simp [O2];omega)]
theorem a4O {w:World} {g off:Nat} {cur:Array Value} {e:TypeId} (l:List (List UInt8)) (hg:w.heap[g]? =some (.cells cur e (0,0))) (ht:(cur.toList.drop off).take (l.length*1)=O2 l):Holds encStr w g off l.toArray:=fun j hj=>by
 have hj':j<l.length:=by simpa using hj
 have h1:(O2 l)[j]? =some (encStr l[j]):=by simp [O2,hj']
 rw [<-ht,List.getElem?_take_of_lt zo,List.getElem?_drop] at h1;refine ⟨?_,by simp [World.frozen?,hg]⟩;rw [cell_of_row w g (off+j) cur e (0,0) hg,<-Array.getElem?_toList,h1];simp [hj']
def a07 (l:List (List UInt8)):List (List UInt8):=l.mergeSort fun x y=>decide (x<=y)
theorem M2 (l:List (List UInt8)):(a07 l).length=l.length:=List.length_mergeSort l
theorem b2r (w:World) (v:Value) (l:List (List UInt8)) (h:g7 w 9 1 v l.length (O2 l)) (hl:l.length<4611686018427387904):
 Calls Tryz.prog 141 #[v] w fun e w'=>e= .returned (.tuple #[])/\g7 w' 9 1 v (a07 l).length (O2 (a07 l))/\Mod (inBlock v) w w':=by
 rcases h.2 with ⟨rfl,h0⟩|⟨g,off,cap,cur,rfl,hg,hn,hc,hs,ht⟩
 ·obtain rfl:l=[]:=List.eq_nil_of_length_eq_zero h0;refine (Tryz.slices_Sort_string_none none 0 w).mono fun e w' h=> ?_;obtain ⟨rfl,rfl⟩:=h;have h1:a07 []=[]:=by simp [a07]
  rw [h1];exact ⟨rfl,g7.nil _ _ _,Mod.refl _ _⟩
 have hgl:g<w.heap.size:=(zz7 hg).1;refine (Tryz.slices_Sort_string g off cap l w (a4O l hg ht) hgl hl).mono fun e w' h=> ?_;obtain ⟨rfl,n,os,rfl⟩:=h;have hsl:(l.mergeSort fun x y=>decide (x<=y))=a07 l:=rfl;rw [hsl];have hbl:off+(a07 l++[]).length<=cur.size:=by rw [zz11,M2];omega
 refine ⟨rfl,⟨by rw [a2v,Nat.mul_one],.inr ⟨g,off,cap,_,by rw [M2],a99 _ hg,by rw [M2];exact hn,hc,by simpa [putCells] using hs, ?_⟩⟩,(b2q _).mono (fun k _ hk=>by show some g=some k;rw [hk])⟩;have:=a4N cur off (a07 l) [] hbl;rw [zz11] at this;rw [Nat.mul_one];exact this
theorem a2H {α:Type} [DecidableEq α] [Inhabited α] (d:Array α):∀m,(Lib.compactUpTo d m).length<=m:=fun m=>by
 unfold Lib.compactUpTo;rw [zz10];exact Nat.le_trans (List.length_filter_le _ _) (by simp)
theorem a2w (l:List (List UInt8)):(Lib.compact l).length<=l.length:=a2H _ _
theorem a6O (w:World) (v:Value) (l:List (List UInt8)) (h:g7 w 9 1 v l.length (O2 l)) (hl:l.length<4611686018427387904):
 Calls Tryz.prog 182 #[v] w fun e w'=>∃v',e= .returned v'/\g7 w' 9 1 v' (Lib.compact l).length (O2 (Lib.compact l))/\Mod (inBlock v) w w'/\∀k,inBlock v' k->inBlock v k:=by
 rcases h.2 with ⟨rfl,h0⟩|⟨g,off,cap,cur,rfl,hg,hn,hc,hs,ht⟩
 ·obtain rfl:l=[]:=List.eq_nil_of_length_eq_zero h0;refine (Tryz.slices_Compact_string_empty none 0 w).mono fun e w' h=> ?_;obtain ⟨rfl,rfl⟩:=h;have h1:Lib.compact ([]:List (List UInt8))=[]:=rfl;rw [h1];exact ⟨_,rfl,g7.nil _ _ _,Mod.refl _ _,fun _ h=>h⟩
 have hgl:g<w.heap.size:=(zz7 hg).1;refine (Tryz.slices_Compact_string g off cap l w (a4O l hg ht) zo zo).mono fun e w' h=> ?_;obtain ⟨rfl,q,rfl⟩:=h;have hle:=a2w l;have hbl:off+(Lib.compact l++List.replicate (l.length - (Lib.compact l).length) []).length<=cur.size:=by rw [zz4,List.length_replicate];omega
 refine ⟨_,rfl,⟨by rw [a2v,Nat.mul_one],.inr ⟨g,off,cap,_,rfl,a76 _ hg,zo,hc,by simpa [putCells] using hs, ?_⟩⟩,(b0a _).mono (fun k _ hk=>by show some g=some k;rw [hk]),fun k hk=>hk⟩;have:=a4N cur off (Lib.compact l) _ hbl;rw [Nat.mul_one];exact this
theorem a5I (w:World) (v:Value) (l:List (List UInt8)) (h:i8 w 1 v l.length (O2 l)) (hl:l.length<=1000000) (x:ByteArray):
 Calls Tryz.prog 181 #[v,.string x] w fun e w'=>e= .returned (.bool (decide (x.data.toList∈l)))/\w'=w:=by
 obtain ⟨-,a,c,rfl,hn,h0,hb⟩:=h
 cases l with
 |nil=>
  refine (Tryz.slices_Contains_string_empty a c x w).mono fun e w' h=> ?_;obtain ⟨rfl,rfl⟩:=h;exact ⟨rfl,rfl⟩
 | cons y l=>
  cases a with
  |none=>exact absurd (h0 rfl) (by simp)
  | some b=>
   obtain ⟨g,off,rfl,hc⟩:=hb b rfl (by simp);refine (Tryz.slices_Contains_string g off (y::l).length c ((y::l).map fun z=>(⟨z.toArray⟩:ByteArray)) x w (by simp) zo (fun j hj=> ?_)).mono fun e w' h=> ?_
   ·have hj':j<(y::l).length:=by simpa using hj
    have h1:=hc j _ (b4A (zz5 hj'));rw [h1,List.getD_eq_getElem?_getD,List.getElem?_map,zz5 hj'];rfl
   obtain ⟨rfl,rfl⟩:=h;refine ⟨?_,rfl⟩;congr 2;rw [Bool.eq_iff_iff,Lib.containsS_iff,decide_eq_true_eq,List.take_of_length_le (by simp),List.mem_map];constructor
   ·rintro ⟨z,hz,rfl⟩;exact hz
   exact fun h=>⟨_,h,rfl⟩
def a5J (l:List (List UInt8)):List (List UInt8):=Lib.compact (a07 l)
theorem b2s (l:List (List UInt8)):(a5J l).length<=l.length:=Nat.le_trans (a2w _) (by rw [M2];exact Nat.le_refl _)
end
section
open Go.RowKit
theorem b5S:B7 Tryz.prog 205 9 1 16:=I8 zk zk
def Ru.hides (r:Ru) (tenant:Int) (who s:ByteArray):Bool:=r.of 3 tenant who&&A7 s r.sc
def Z8 (l:List Ru):List (List UInt8):=l.map fun r=>r.name.data.toList
def O8 (l:List Ru) (tenant:Int) (who s:ByteArray):List (List UInt8):=Z8 (l.filter fun r=>r.hides tenant who s)
theorem a4l (l m:List Ru):Z8 (l++m)=Z8 l++Z8 m:=by unfold Z8;simp
theorem b0b (w:World) (v:Value) (l:List Ru) (hv:Q5 w v l) (hll:l.length<=1000000) (tenant:Int) (who s:ByteArray) (hs:s.size<=9223372036854775807):
 Calls Tryz.prog 148 #[v,.int .i64 tenant,.string who,.string s] w fun e w'=>∃ov,e= .returned ov/\g7 w' 9 1 ov (a5J (O8 l tenant who s)).length (O2 (a5J (O8 l tenant who s)))/\(∀b,ov.ownBlock=some b->w.heap.size<=b)/\Mod (fun _=>False) w w':=by
 obtain ⟨a,cap,rfl,hcap⟩:∃a c,v= .slice a l.length c/\l.length<=c:=by obtain ⟨-,a,c,h,h2, -⟩:=hv.rd;exact ⟨a,c,h,h2⟩
 have df:(l.length:Int)<=1000000:=zo
 have bG:(l.length:Int)<=cap:=zo
 refine hh3 hv hs hll fun Hv Hs Px=> ?_;clear hv hs hll
 go_enter Tryz.func148,Tryz.ntmps148
 go_wp2_with fail
 go_loopw [9,14] (fun ov i wr=>∃j:Nat,i= .int .i64 j/\j<=l.length/\g7 wr 9 1 ov (O8 (l.take j) tenant who s).length (O2 (O8 (l.take j) tenant who s))/\(∀b,ov.ownBlock=some b->w.heap.size<=b)/\Mod (fun _=>False) w wr) (fun _ i _=>l.length - (intOf i).toNat)
 case atStart=>exact ⟨0,rfl,Nat.zero_le _,g7.nil _ _ _,fun b hb=>(by cases hb),Mod.refl _ _⟩
 case round=>
  obtain ⟨j,rfl,hj,hown,hfr,hmr⟩:=hrel;by_cases hlt:j<l.length
  ·have hlt':(j:Int)<l.length:=zo
   obtain ⟨x,hxj⟩:∃x,l[j]? =some x:=⟨_,zz5 hlt⟩;have hxm:=zz8 hxj;obtain ⟨g,off,rfl,hf⟩:∃g off,a=some ⟨g,off,none⟩/\d8 wr g (off+j*8) x.cells:=a0a (Hv.out.mod hmr) hxj
   have hnx:O8 (l.take (j+1)) tenant who s=O8 (l.take j) tenant who s++(if x.hides tenant who s=true then [x.name.data.toList] else []):=by
    unfold O8;rw [a6v (fun r:Ru=>r.hides tenant who s) hxj,a4l];split<;>rfl
   have hle:(O8 (l.take j) tenant who s).length<=j:=by unfold O8 Z8;rw [zz10];exact Nat.le_trans (List.length_filter_le _ _) (List.length_take_le _ _)
   obtain ⟨acc,hacc⟩:∃q,O8 (l.take j) tenant who s=q:=⟨_,rfl⟩;rw [hacc] at hown hnx hle;obtain ⟨nx,dF⟩:∃q,O8 (l.take (j+1)) tenant who s=q:=⟨_,rfl⟩;rw [dF] at hnx;obtain ⟨oa,oc,rfl, -⟩:=hown.shape;obtain ⟨wz,hwz,ag,aj,aF⟩:=g6 wr (.cells x.cells.toArray 36);have hmz:=hmr.trans ag zi;have hun:=a1M s x.sc Hs.out (Hv.out.ok x hxm).sc;have jk:=hown.mod ag zi;have c0:wz.cell? ⟨wr.heap.size,0,none⟩=some (.int .i64 x.kind):=d6 aj rfl;have c1:wz.cell? ⟨wr.heap.size,1,none⟩=some (.int .i64 x.tenant):=d6 aj rfl;have c2:wz.cell? ⟨wr.heap.size,2,none⟩=some (.string x.who):=d6 aj rfl;have c3:wz.cell? ⟨wr.heap.size,3,none⟩=some (.int .i64 x.broker):=d6 aj rfl;have c4:wz.cell? ⟨wr.heap.size,4,none⟩=some (.string x.sc):=d6 aj rfl;have c5:wz.cell? ⟨wr.heap.size,5,none⟩=some (.slice x.ca x.cs.length x.cc):=d6 aj rfl;have c6:wz.cell? ⟨wr.heap.size,6,none⟩=some (.string x.name):=d6 aj rfl;have hst:nx=acc++(if (x.of 3 tenant who&&A7 s x.sc)=true then [x.name.data.toList] else []):=hnx;obtain ⟨B,hB⟩:∃B,A7 s x.sc=B:=⟨_,rfl⟩;have Em:Calls Tryz.prog 146 #[.string s,.string x.sc] wz fun e w'=>e= .returned (.bool B)/\w'=wz:=hB▸hun wz;rw [hB] at hst;refine hh8 hxj hxm hf hwz hmz jk hfr hst fun dX iJ Hf aX bC jl aW kM=> ?_;refine hh2 dF Em fun dQ zl=> ?_;clear hxj hxm hf hwz hmz jk hfr hst dF Em aF ag hown hmr hacc aj hun hB hnx;have same:nx=acc->g7 wz 9 1 (.slice oa acc.length oc) (O8 (l.take (j+1)) tenant who s).length (O2 (O8 (l.take (j+1)) tenant who s)):=fun h=>by rw [dQ.out,h];exact jl.out
   have kN:=zh same;clear same;refine b1x x 3 tenant who (fun h1 h4=> ?_) (fun h1 h2 h4=> ?_) (fun h1 h2 h3 h4=> ?_) (fun h1 h2 h3 h4=> ?_)
   iterate 3 (
    have hq:nx=acc:=by rw [kM.out,h4];exact zz11 _
    have Hq:=Lib.hid (kN.out hq);clear h4 hq zl
    go_wp2_with (first|((with_reducible refine e9 36 (.tmp 16) ?_);refine ⟨g,off+j*8,rfl,x.cells,Hf.out,zk,zk, ?_⟩)|((with_reducible refine d9 36 (.tmp 11) (.tmp 17) ?_);refine ⟨rfl,x.cells,rfl,rfl,zk,rfl, ?_⟩;rw [aX.out]))
    go_roundw
    case rel=>exact ⟨j+1,by go_num,hlt,Hq.out,aW.out,bC.out⟩
    case measure=>simp [intOf];omega)
   have kM:=Lib.hid (show nx=acc++(if B=true then [x.name.data.toList] else []) from by have:=kM.out;rw [h4] at this;exact this);clear h4
   go_wp2_with (first|((with_reducible refine e9 36 (.tmp 16) ?_);refine ⟨g,off+j*8,rfl,x.cells,Hf.out,zk,zk, ?_⟩)|((with_reducible refine d9 36 (.tmp 11) (.tmp 17) ?_);refine ⟨rfl,x.cells,rfl,rfl,zk,rfl, ?_⟩;rw [aX.out]))
   refine zl.out.mono ?_;rintro e w8 ⟨rfl,rfl⟩;clear zl
   cases B with
   |false=>
    have hq:nx=acc:=by rw [kM.out];exact zz11 _
    have Hq:=Lib.hid (kN.out hq);clear hq
    go_wp2_with fail
    go_roundw
    case rel=>exact ⟨j+1,by go_num,hlt,Hq.out,aW.out,bC.out⟩
    case measure=>simp [intOf];omega
   | true=>
    have hnx2:nx=acc++[x.name.data.toList]:=kM.out;obtain ⟨wS,yE,jP,yF,yG⟩:=g6 w8 (.cells #[.string x.name] 9);have hrd:i8 wS 1 (.slice (some ⟨w8.heap.size,0,none⟩) 1 1) 1 [.string x.name]:=yE▸i8.one w8 [.string x.name] 9 rfl;have hownS:=jl.out.mod jP zi;have pV:=bC.out.trans jP zi;have hone:∀u∈[Value.string x.name],u.oneCell'=true:=fun u hu=>by rw [List.mem_singleton.1 hu];rfl
    have hlen:acc.length+1=(O8 (l.take (j+1)) tenant who s).length:=by rw [dQ.out,hnx2];simp
    have vH:O2 acc++[.string x.name]=O2 (O8 (l.take (j+1)) tenant who s):=by rw [dQ.out,hnx2,a6N];rfl
    refine hh7 hrd yE hownS pV hone hlen vH fun gG Uc pW pX aI Hlen En=> ?_;clear hrd yE hownS pV hone hlen vH jP yF yG hnx2 kM kN
    go_wp2_with (first|(rw [show w8.alloc _=wS from Uc.out])|((with_reducible refine l6 (.tmp 40) (.tmp 43) 205 ?_);refine ⟨rfl,9,1,16,b5S,.slice oa acc.length oc,acc.length,O2 acc,rfl,pW.out,_,1,[.string x.name],rfl,gG.out,aI.out,zo,by unfold maxLen;omega, ?_⟩;intro ad cap2 w4 hA;have HA:=Lib.hid hA;clear hA))
    have hown5:=HA.out.1;rw [En.out] at hown5
    have fA:∀b,(Value.slice ad (acc.length+1) cap2).ownBlock=some b->w.heap.size<=b:=fun b hb=>by
     rcases HA.out.2.2 with h|⟨k,h,hk⟩
     ·exact aW.out b (by rw [<-h];exact hb)
     rw [h] at hb;cases hb;have:=pX.out.size;omega
    have bD:Mod (fun _=>False) w w4:=pX.out.upon HA.out.2.1 (fun b hb=> .inr (aW.out b hb));refine hh3 hown5 fA bD fun pY mf bK=> ?_;clear hown5 fA bD HA
    go_roundw
    case rel=>exact ⟨j+1,by go_num,hlt,by rw [<-Hlen.out];exact pY.out,mf.out,bK.out⟩
    case measure=>simp [intOf];omega
  obtain rfl:j=l.length:=zo
  rw [List.take_length] at hown;have zm:(O8 l tenant who s).length<=l.length:=by unfold O8 Z8;rw [zz10];exact List.length_filter_le _ _
  obtain ⟨H,hH⟩:∃H,O8 l tenant who s=H:=⟨_,rfl⟩;rw [hH] at hown zm;obtain ⟨oa,oc,rfl, -⟩:=hown.shape;have hso:=b2r wr _ H hown (by have:=Px.out;omega);have LF:H.length<=1000000:=by have:=Px.out;omega
  refine hh5 hso hfr hmr LF hH fun jA aW aL Ud HH=> ?_;clear hso hfr hmr LF hH hown zm
  go_wp2_with fail
  refine jA.out.mono ?_;rintro e w1 ⟨rfl,hown1,hm1⟩;have bH:Mod (fun _=>False) w w1:=aL.out.upon hm1 (fun b hb=> .inr (aW.out b hb));have hsl:(a07 H).length<4611686018427387904:=by rw [M2];have:=Ud.out;omega
  have hco:=a6O w1 _ _ hown1 hsl;refine hh2 bH hco fun bJ Af=> ?_;clear bH hco hm1 hown1 jA aL hsl
  go_wp2_with fail
  refine Af.out.mono ?_;rintro e w2 ⟨v2,rfl,hown2,hm2,hb2⟩;have aK:Mod (fun _=>False) w w2:=bJ.out.upon hm2 (fun b hb=> .inr (aW.out b hb));refine hh3 aK hown2 hb2 fun aN gM Hb2=> ?_;clear aK hown2 hb2 hm2 Af bJ
  go_wp2
  go_ret;have hown3:g7 w2 9 1 v2 (a5J (O8 l tenant who s)).length (O2 (a5J (O8 l tenant who s))):=by rw [HH.out];exact gM.out
  exact ⟨_,rfl,hown3,fun b hb=>aW.out b (Hb2.out b hb),aN.out⟩
theorem b0c {α:Type} (p:α->Bool) {l:List α} {j:Nat} {x:α} (h:l[j]? =some x):(l.take (j+1)).filter p=(l.take j).filter p++(if p x=true then [x] else []):=by
 rw [List.take_add_one,h,List.filter_append];cases hp:p x<;>simp [hp]
def a0F (N:List (List UInt8)) (l:List Att):List Att:=l.filter fun a=> !decide (a.name.data.toList∈N)
theorem a77 (w:World) (es:ByteArray) (ea:Option Addr) (ec:Nat) (L:List Att) (hv:i8 w 6 (.slice ea L.length ec) L.length (I4 L)) (hll:L.length<=1000) (nv:Value) (N:List (List UInt8)) (hn:g7 w 9 1 nv N.length (O2 N)) (hN:N.length<=1000000):
 Calls Tryz.prog 147 #[.agg #[.string es,.slice ea L.length ec],nv] w fun e w'=>∃av,e= .returned (.agg #[.string es,av])/\g7 w' 98 6 av (a0F N L).length (I4 (a0F N L))/\
  (∀b,av.ownBlock=some b->w.heap.size<=b)/\Mod (fun _=>False) w w':=by
 obtain ⟨wa,ak,ae,aa,ah⟩:=g6 w (.cells #[.string es,.slice ea L.length ec] 39);obtain ⟨wb,hwb,ay,aA,aU⟩:=g6 wa (.cells #[.string ⟨#[]⟩,.slice none 0 0] 39);obtain ⟨w6,jH,dG,gy,jI⟩:=g6 wb (.cells #[.string es,.slice none 0 0] 39);have jT:=ae.trans (ay.trans dG zi) zi;have hga:=(ay.trans dG zi).heap aa id;have hgb:=dG.heap aA id;have hrd:=hv.mod jT zi;have hnd:=hn.rd.mod jT zi;have hnl:=hn.lt;have Eo:=ay.heap aa id;have c0:wb.cell? ⟨w.heap.size,0,none⟩=some (.string es):=d6 Eo rfl;have c1:w6.cell? ⟨w.heap.size,1,none⟩=some (.slice ea L.length ec):=d6 hga rfl
 have kJ:∀b,(Value.slice ea L.length ec).ownBlock=some b->0<L.length->b<w.heap.size:=fun b hb h0=>by
  obtain ⟨-,a',c',h1, -, -,h4⟩:=hv;cases h1
  cases ea with
  |none=>cases hb
  |some q=>
   obtain ⟨g,off,rfl,h5⟩:=h4 q rfl h0;have h9:0<(I4 L).length:=by rw [a6m];omega
   have h6:(I4 L)[0]? =some (I4 L)[0]:=zz5 h9;have h7:=World.block_lt_of_cell? w _ (h5 0 _ h6);have h8:some g=some b:=hb;cases h8
   exact h7
 have hz1:w.heap.size<wa.heap.size:=zo
 have hz2:wa.heap.size<wb.heap.size:=zo
 have hz3:wb.heap.size<w6.heap.size:=zo
 have fG:(L.length:Int)<=1000:=zo
 refine hh8 ak hwb jH jT hga hgb hrd hnd fun aB bN Ar jU ku rz gG Hnd=> ?_;refine hh6 hnl kJ gy hv hn hN fun Hnl OX tC Hv Hn HN=> ?_;clear ak hwb jH jT hga hgb hrd hnd hnl kJ gy hv hn hN ae ay dG aa aA ah aU jI Eo
 go_enter Tryz.func147,Tryz.ntmps147
 go_wp2_with (first|(rw [show w.alloc _=wa from aB.out])|(rw [show wa.alloc _=wb from bN.out])|((with_reducible refine d9 39 (.tmp 5) (.tmp 10) ?_);refine ⟨rfl,[.string es,.slice none 0 0],rfl,rfl,zk,rfl, ?_⟩;rw [Ar.out]))
 clear c0 c1
 go_loopw [14] (fun i wr=>∃(j n:Nat) (oa:Option Addr) (oc:Nat),i= .int .i64 j/\j<=L.length/\n=(a0F N (L.take j)).length/\wr.heap[wb.heap.size]? =some (.cells #[.string es,.slice oa n oc] 39 (0,0))/\
  g7 wr 98 6 (.slice oa n oc) n (I4 (a0F N (L.take j)))/\(∀b,(Value.slice oa n oc).ownBlock=some b->w6.heap.size<=b)/\Mod (fun k=>k=wb.heap.size) w6 wr) (fun i _=>L.length - (intOf i).toNat)
 case atStart=>exact ⟨0,0,none,0,rfl,Nat.zero_le _,rfl,tC.out,g7.nil _ _ _,fun b hb=>(by cases hb),Mod.refl _ _⟩
 case round=>
  obtain ⟨j,n,oa,oc,rfl,hj,hn,hrow,hown,hfo,hmr⟩:=hrel;by_cases hlt:j<L.length
  ·have hlt':(j:Int)<L.length:=zo
   obtain ⟨x,hxj⟩:∃x,L[j]? =some x:=⟨_,zz5 hlt⟩;obtain ⟨g,off,rfl,hf⟩:∃g off,ea=some ⟨g,off,none⟩/\d8 wr g (off+j*6) x.cells:=b1B (gG.out.mod hmr (fun b hb=>by have:=OX.out b hb zo;omega)) hxj;have hnx:=b0c (fun a:Att=> !decide (a.name.data.toList∈N)) hxj;obtain ⟨acc,hacc⟩:∃q,a0F N (L.take j)=q:=⟨_,rfl⟩;have hle:acc.length<=j:=by rw [<-hacc];exact Nat.le_trans (List.length_filter_le _ _) (List.length_take_le _ _)
   rw [hacc] at hn hown;obtain ⟨nx,dF⟩:∃q,a0F N (L.take (j+1))=q:=⟨_,rfl⟩;have zq:nx=acc++(if (!decide (x.name.data.toList∈N))=true then [x] else []):=by rw [<-dF,<-hacc];exact hnx
   have Oq:n<=1000:=zo
   have Ue:(n:Int)<=1000:=zo
   obtain ⟨wz,hwz,ag,aj,aF⟩:=g6 wr (.cells x.cells.toArray 98);have hlr:wb.heap.size<wr.heap.size:=(zz7 hrow).1;have vI:=ag.heap hrow id;have jk:=hown.mod ag zi;have hmz:Mod (fun k=>k=wb.heap.size) w6 wz:=hmr.trans ag (fun _ _ h=>h.elim);have Uf:wr.heap.size<wz.heap.size:=zo
   have x0:wz.cell? ⟨wr.heap.size,0,none⟩=some (.string x.name):=d6 aj rfl;have x1:wz.cell? ⟨wr.heap.size,1,none⟩=some (.int .i64 x.v.kind):=d6 aj rfl;have x2:wz.cell? ⟨wr.heap.size,2,none⟩=some (.int .i64 x.v.int):=d6 aj rfl;have x3:wz.cell? ⟨wr.heap.size,3,none⟩=some (.float .f64 x.v.num):=d6 aj rfl;have x4:wz.cell? ⟨wr.heap.size,4,none⟩=some (.string x.v.text):=d6 aj rfl;have x5:wz.cell? ⟨wr.heap.size,5,none⟩=some (.bool x.v.yes):=d6 aj rfl;have hct:=a5I wz nv N (Hnd.out.mod hmz (fun b hb=>by have:=Hnl.out b hb;omega)) HN.out x.name;obtain ⟨B,hB⟩:∃B,decide (x.name.data.toList∈N)=B:=⟨_,rfl⟩;rw [hB] at hct zq;refine hh8 hxj hf hwz aj vI jk hmz hn fun dX Hf aX aJ kP jl bC Hn=> ?_;refine hh4 zq dF hfo hct fun Ep dQ rH uN=> ?_;clear hxj hf hwz aj vI jk hmz hn zq dF hfo hct aF ag hacc hrow hown hmr hnx hB hle
   go_wp2_with (first|((with_reducible refine e9 98 (.tmp 16) ?_);refine ⟨g,off+j*6,rfl,x.cells,Hf.out,zk,zk, ?_⟩)|((with_reducible refine d9 98 (.tmp 7) (.tmp 17) ?_);refine ⟨rfl,x.cells,rfl,rfl,zk,rfl, ?_⟩;rw [aX.out]))
   refine uN.out.mono ?_;rintro e w8 ⟨rfl,rfl⟩;clear uN
   cases B with
   |true=>
    have jV:nx=acc:=by rw [Ep.out];exact zz11 _
    have bV:=jl.out;rw [<-jV,<-dQ.out] at bV;have hlen:n=(a0F N (L.take (j+1))).length:=by rw [dQ.out,jV];exact Hn.out
    refine hh2 bV hlen fun gQ Hlen=> ?_;clear bV hlen jV
    go_wp2_with fail
    go_roundw
    case rel=>exact ⟨j+1,n,oa,oc,by go_num,hlt,Hlen.out,kP.out,gQ.out,rH.out,bC.out⟩
    case measure=>simp [intOf];omega
   | false=>
    have jV:nx=acc++[x]:=Ep.out;obtain ⟨wT,hwT,di,jc,jM⟩:=g6 w8 (.cells x.cells.toArray 98);have iy:w8.alloc (.cells #[.string x.name,.int .i64 x.v.kind,.int .i64 x.v.int,.float .f64 x.v.num,.string x.v.text,.bool x.v.yes] 98)=wT:=hwT;have eF:i8 wT 6 (.slice (some ⟨w8.heap.size,0,none⟩) 1 1) 1 x.cells:=hwT▸i8.one w8 x.cells 98 rfl;have hone:∀u∈x.cells,u.oneCell'=true:=fun u hu=>zz15 (show x.cells.all (·.oneCell')=true from rfl) u hu;have vJ:=di.heap kP.out id;have vK:=jl.out.mod di zi;have Py:Mod (fun k=>k=wb.heap.size) w6 wT:=bC.out.trans di (fun _ _ h=>h.elim);have hlen:n+1=(a0F N (L.take (j+1))).length:=by rw [dQ.out,jV,zz4,<-Hn.out];rfl
    have Er:I4 acc++x.cells=I4 (a0F N (L.take (j+1))):=by rw [dQ.out,jV,a6n];simp [I4]
    have o1:w8.cell? ⟨wb.heap.size,1,none⟩=some (.slice oa n oc):=d6 kP.out rfl;have hl3:wb.heap.size<w8.heap.size:=(zz7 kP.out).1;have Ug:=aJ;refine hh8 iy eF hone vJ vK Py hlen Er fun Et pR aI Eu Ev Pz Hlen LG=> ?_;clear iy eF hone vJ vK Py hlen Er hwT di jc jM jV x0 x1 x2 x3 x4 x5
    go_wp2_with (first|((with_reducible refine e9 98 (.tmp 7) ?_);refine ⟨wr.heap.size,0,rfl,[.string x.name,.int .i64 x.v.kind,.int .i64 x.v.int,.float .f64 x.v.num,.string x.v.text,.bool x.v.yes],d8.row Ug.out,zk,zk, ?_⟩)|(rw [show w8.alloc _=wT from Et.out])|((with_reducible refine l6 (.tmp 24) (.tmp 26) 37 ?_);refine ⟨rfl,98,6,64,b36,.slice oa n oc,n,I4 acc,rfl,Ev.out,_,1,x.cells,rfl,pR.out,aI.out,zo,by unfold maxLen;omega, ?_⟩;intro ad cap2 w4 hA;have zt:¬inBlock (.slice oa n oc) wb.heap.size:=(fun h=>by have:=rH.out _ h;omega);have hrow4:=hA.2.1.heap Eu.out zt;have f1:w4.frozen? ⟨wb.heap.size,1,none⟩=false:=r9 hrow4;have e1:w4.cell? ⟨wb.heap.size,1,none⟩=some (.slice oa n oc):=d6 hrow4 rfl;have HA:=Lib.hid hA;have oh:=Lib.hid hrow4;have Uh:=Lib.hid zt;clear hA hrow4 zt))
    have fA:∀b,(Value.slice ad (n+1) cap2).ownBlock=some b->w6.heap.size<=b:=fun b hb=>by
     rcases HA.out.2.2 with h|⟨k,h,hk⟩
     ·exact rH.out b (by rw [<-h];exact hb)
     rw [h] at hb;cases hb;have:=Pz.out.size;omega
    have aM:Mod (fun k=>k=wb.heap.size) w6 w4:=Pz.out.upon HA.out.2.1 (fun b hb=> .inr (rH.out b hb));have bV:=HA.out.1;rw [LG.out] at bV;refine hh3 fA aM bV fun mf fu gQ=> ?_;clear fA aM bV HA
    go_roundw
    case rel=>
     refine ⟨j+1,n+1,ad,cap2,by go_num,hlt,Hlen.out,j6 oh.out,gQ.out.setCell (fun h=> ?_) _,mf.out,fu.out.setCell (fun _=>rfl) _⟩;have:=mf.out _ h;have h2:w6.heap.size<=wb.heap.size:=this;omega
    case measure=>simp [intOf];omega
  obtain rfl:j=L.length:=zo
  rw [List.take_length] at hn hown;have hgr:=hmr.heap rz.out zo;have bL:Mod (fun _=>False) w wr:=jU.out.upon hmr (fun b hb=> .inr zo);refine hh6 hrow hown hn hgr bL hfo fun LH bA Hn tV fF rH=> ?_;clear hrow hown hn hgr bL hfo hmr
  go_wp2_with (first|((with_reducible refine e9 39 (.tmp 5) ?_);refine ⟨wb.heap.size,0,rfl,[.string es,.slice oa n oc],d8.row LH.out,zk,zk, ?_⟩)|((with_reducible refine m7 39 (.tmp 4) (.tmp 30) ?_);refine ⟨wa.heap.size,rfl,_,_,tV.out,[.string es,.slice oa n oc],rfl,rfl,zk,rfl, ?_⟩;intro w9 PD iD;have Ui:=Lib.hid PD;have AO:=Lib.hid iD;clear PD iD))
  refine y4 rfl wa.heap.size rfl _ (d8.row Ui.out) zk zk rfl ⟨.slice oa n oc,rfl, ?_, ?_, ?_⟩
  ·rw [<-Hn.out];exact bA.out.mod AO.out (fun b hb=>by have:=rH.out b hb;have:=jU.out.size;omega)
  ·exact fun b hb=>by have:=rH.out b hb;have:=jU.out.size;omega
  exact fF.out.upon AO.out (fun b hb=> .inr zo)
def a4P (l:List Ru) (tenant:Int) (who es:ByteArray) (L:List Att):List Att:=a0F (a5J (O8 l tenant who es)) L
theorem b0d (w:World) (v:Value) (l:List Ru) (hv:Q5 w v l) (hll:l.length<=1000000) (tenant:Int) (who es:ByteArray) (hs:es.size<=9223372036854775807) (ea:Option Addr) (ec:Nat) (L:List Att) (hL:i8 w 6 (.slice ea L.length ec) L.length (I4 L)) (fG:L.length<=1000):
 Calls Tryz.prog 118 #[v,.int .i64 tenant,.string who,.agg #[.string es,.slice ea L.length ec]] w fun e w'=>∃av,e= .returned (.agg #[.string es,av])/\
  g7 w' 98 6 av (a4P l tenant who es L).length (I4 (a4P l tenant who es L))/\(∀b,av.ownBlock=some b->w.heap.size<=b)/\Mod (fun _=>False) w w':=by
 obtain ⟨a,cap,rfl,hcap⟩:∃a c,v= .slice a l.length c/\l.length<=c:=by obtain ⟨-,a,c,h,h2, -⟩:=hv.rd;exact ⟨a,c,h,h2⟩
 obtain ⟨wa,ak,ae,aa,ah⟩:=g6 w (.cells #[.string es,.slice ea L.length ec] 39);obtain ⟨wb,hwb,ay,aA,aU⟩:=g6 wa (.cells #[.string ⟨#[]⟩,.slice none 0 0] 39);have uj:=(ae.trans ay zi).drew;have hga:=a3s (ay.heap aa id);have hgb:=a3s aA;have hz1:w.heap.size<wa.heap.size:=zo
 have hz2:wa.heap.size<wb.heap.size:=zo
 have hvd:=hv.mod uj;have PE:=hL.mod uj zi;have hhd:=b0b wb.drew (.slice a l.length cap) l hvd hll tenant who es hs;have zm:(a5J (O8 l tenant who es)).length<=1000000:=Nat.le_trans (b2s _) (by unfold O8 Z8;rw [zz10];exact Nat.le_trans (List.length_filter_le _ _) hll);obtain ⟨R,hR⟩:∃R,a4P l tenant who es L=R:=⟨_,rfl⟩;have hR2:a0F (a5J (O8 l tenant who es)) L=R:=hR;obtain ⟨H,hH⟩:∃H,a5J (O8 l tenant who es)=H:=⟨_,rfl⟩;rw [hH] at hhd zm hR2;refine hh8 ak hwb hga hgb uj PE hhd fG fun aB bN ku rz LJ Uj PG Ia=> ?_;refine hh3 zm hR hR2 fun Uk HR HR2=> ?_;clear ak hwb hga hgb uj PE hhd fG zm hR hR2 hv hvd ae ay aa aA ah aU hll hcap hL hH hs
 go_enter Tryz.func118,Tryz.ntmps118
 go_wp2_with (first|(rw [show w.alloc _=wa from aB.out])|(rw [show wa.alloc _=wb from bN.out]))
 have hS:(fun y:World=>y.cell? ⟨w.heap.size,0,none⟩=some (.string es)/\y.cell? ⟨w.heap.size,1,none⟩=some (.slice ea L.length ec)) wb.drew:=⟨d6 ku.out rfl,d6 ku.out rfl⟩;refine i6 [.rd 0,.rd 1,.rd 2,.rd 3,.rd 4,.rd 5,.go 6,.go 7,.go 8] [0,1,2,3,4,5,6] (fun y:World=>y.cell? ⟨w.heap.size,0,none⟩=some (.string es)/\y.cell? ⟨w.heap.size,1,none⟩=some (.slice ea L.length ec)) zk zk (fun _ _ d _ _ h=>(by cases d<;>exact h)) ?_
 iterate 6 (
  refine wrd hS fun K hK=> ?_
  go_simp;refine hK _ ?_;clear hK K)
 refine wgo fun K hK=> ?_
 go_wp2_with fail
 refine PG.out.mono ?_;rintro e w1 ⟨hv1,rfl,hown1,LM,hm1⟩;have hz3:wb.heap.size<=w1.heap.size:=hm1.size;have hg1:=hm1.heap ku.out id;have Ew:=hm1.heap rz.out id;have hwo:=a77 w1 es ea ec L (Uj.out.mod hm1 zi) Ia.out hv1 H hown1 Uk.out;rw [HR2.out] at hwo;have bH:=LJ.out.trans hm1 zi;refine hK _ _ (fun _ _=>⟨d6 hg1 rfl,d6 hg1 rfl⟩) ?_;clear hK K hS;refine hh3 hwo Ew bH fun Jn LP bJ=> ?_;clear hwo Ew bH hg1 hm1 hown1 LM PG;refine wgo fun K hK=> ?_
 go_wp2_with fail
 refine Jn.out.mono ?_;rintro e w2 ⟨av,rfl,hown2,hfr2,hm2⟩;have zu:=hm2.heap LP.out id;have aK:=bJ.out.trans hm2 zi;have hfr:∀b,av.ownBlock=some b->wb.heap.size<=b:=fun b hb=>by have:=hfr2 b hb;omega
 obtain ⟨oa,oc,rfl, -⟩:=hown2.shape;refine hK _ _ (fun h=>absurd h zd) ?_;clear hK K;refine wgo fun K hK=> ?_;(try simp only [zz1,zz2,zz3]);refine L8 39 (.tmp 8) (.tmp 16) rfl wa.heap.size rfl _ _ zu [.string es,.slice oa R.length oc] rfl rfl zk (fun u hu=>zz15 rfl u hu) ?_;obtain ⟨w3,hw3⟩:∃q,w2.setRow wa.heap.size ([.string es,.slice oa R.length oc]:List Value).toArray=q:=⟨_,rfl⟩;have hg3:w3.heap[wa.heap.size]? =some (.cells ([.string es,.slice oa R.length oc]:List Value).toArray 39 (0,0)):=hw3▸setRow_heap w2 wa.heap.size _ _ _ (0,0) zu;have au:Mod (fun k=>k=wa.heap.size) w2 w3:=hw3▸(Mod.refl (fun k=>k=wa.heap.size) w2).setRow (fun _=>rfl) _;rw [hw3];refine hK _ _ (fun h=>absurd h zd) ?_;clear hK K;refine p8 ?_;have hown3:=hown2.mod au (fun b hb (e:b=wa.heap.size)=>by have:=hfr b hb;omega);have aR:Mod (fun _=>False) w w3:=aK.upon au (fun b hb=> .inr zo);refine hh4 hg3 hown3 aR hfr fun gP Ex aT aW=> ?_;clear hg3 hown3 aR hfr hw3 zu hown2 aK au hm2 hfr2
 go_wp2_with fail
 refine y4 rfl wa.heap.size rfl _ (d8.row gP.out) zk zk rfl ⟨_,rfl,by rw [HR.out];exact Ex.out,fun b hb=>by have:=aW.out b hb;omega,aT.out⟩
def a3P (A:List PRu) (t:Int) (who es:ByteArray) (L:List Att):List Att:=a4P (A.map fun p=>p.lies none 0) t who es L
theorem b2t (l:List Ru) (t:Int) (who es:ByteArray) (L:List Att):a3P (l.map Ru.pru) t who es L=a4P l t who es L:=by
 unfold a3P a4P O8 Z8;rw [List.map_map,List.filter_map,List.map_map];rfl
def M3 (S:List Sb) (A:List PRu) (t:Int) (m:Mg) (id:Int):Option Hn:=match a0A S id with
 |none=>none
 |some q=>if a98 A t q.1 q.2.1 q.2.2&&T4 q.2.1 q.2.2 m.es (a3P A t q.1 m.es m.el) then some (t,q.1,⟨1,0,0,id,m.ser,m.ver,m.org,m.es,a3P A t q.1 m.es m.el⟩) else none
def a4Q (S:List Sb) (A:List PRu) (t:Int) (m:Mg) (ids:List Int):List Hn:=ids.filterMap (M3 S A t m)
theorem a78 {S:List Sb} {A:List PRu} {t:Int} {m:Mg} {ids:List Int} {j:Nat} {id:Int} (h:ids[j]? =some id):a4Q S A t m (ids.take (j+1))=a4Q S A t m (ids.take j)++(M3 S A t m id).toList:=by
 unfold a4Q;rw [List.take_add_one,h,Option.toList_some,List.filterMap_append]
 have e:List.filterMap (M3 S A t m) [id]=(M3 S A t m id).toList:=by
  rw [List.filterMap_cons];cases M3 S A t m id<;>rfl
 rw [e]
def BS.rouH (B:BS) (t:Nat) (m:Mg):List Hn:=a4Q (B.R t).S (atP B.L (X0 m.ver B.L.length)) t m (a5r (B.R t).I m.es m.el)
def b2u (M:List (Int×Fil)) (frm:Int) (m:Mg) (n:Int):Bool:= !(n==frm)&&(a4i M n).any fun q=>a05 q m.es m.el
def V9 (M:List (Int×Fil)) (near:List Int) (t frm:Int) (m:Mg):List Sd:=(near.filter (b2u M frm m)).map fun n=>(n,t,m)
theorem a79 {M:List (Int×Fil)} {near:List Int} {t frm:Int} {m:Mg} {j:Nat} {n:Int} (h:near[j]? =some n):V9 M (near.take (j+1)) t frm m=V9 M (near.take j) t frm m++if b2u M frm m n then [(n,t,m)] else []:=by
 unfold V9;rw [List.take_add_one,h,Option.toList_some,List.filter_append,List.map_append];congr 1;cases hw:b2u M frm m n<;>simp [hw]
theorem a4R (M:List (Int×Fil)) (near:List Int) (t frm:Int) (m:Mg):(V9 M near t frm m).length<=near.length:=by
 unfold V9;rw [zz10];exact List.length_filter_le _ _
theorem b0e (S:List Sb) (A:List PRu) (t:Int) (m:Mg) (ids:List Int):(a4Q S A t m ids).length<=ids.length:=List.length_filterMap_le _ _
variable {w0:World} {q:Nat} {sid:Int}
def D5.shows (O:D5 w0 q sid) (s:O.σ) (l:List Hn):O.σ:=l.foldl (fun s x=>O.shw s x.1 x.2.1 x.2.2) s
theorem D5.shows_app (O:D5 w0 q sid) (s:O.σ) (l m:List Hn):O.shows s (l++m)=O.shows (O.shows s l) m:=List.foldl_append ..
theorem D5.shows_one (O:D5 w0 q sid) (s:O.σ) (l:List Hn) (x:Hn):O.shows s (l++[x])=O.shw (O.shows s l) x.1 x.2.1 x.2.2:=by rw [O.shows_app];rfl
theorem D5.shows_cnt (O:D5 w0 q sid) (s:O.σ) (l:List Hn):O.cnt (O.shows s l)<=O.cnt s+l.length:=by
 induction l generalizing s with
 |nil=>exact Nat.le_refl _
 |cons x l ih=>
  have h1:=ih (O.shw s x.1 x.2.1 x.2.2);have h2:=O.cshw s x.1 x.2.1 x.2.2;show O.cnt (O.shows (O.shw s x.1 x.2.1 x.2.2) l)<=_;rw [zz9];omega
theorem D5.tshow (O:D5 w0 q sid) {w:World} {ow:Ow} {s:O.σ} {ten id ser ver:Int} {who org es:ByteArray} {sl:List Att} {a:Option Addr} {c:Nat} (hw:Owd w0 w ow) (hO:O.inv w ow s) (hc:O.cnt s<=400000000000) (h0:0<=ten) (h3:ten<=3) (hwz:who.size<=1000000) (h:q6 w ow 6 (.slice a sl.length c) sl.length (I4 sl)):
 Calls Tryz.prog 303 #[.agg #[.pointer (some ⟨q,0,none⟩),.int .i64 sid],.int .i64 ten,.string who,.agg #[.int .i64 1,.int .i64 0,.int .i64 0,.int .i64 id,.int .i64 ser,.int .i64 ver,.string org,.string es,.slice a sl.length c]] w
  fun e w'=>e= .returned (.tuple #[])/\∃ow',O.inv w' ow' (O.shw s ten who ⟨1,0,0,id,ser,ver,org,es,sl⟩)/\Mov O.tg w ow w' ow':=
 O.hshw (x:=⟨⟨1,0,0,id,ser,ver,org,es,sl⟩,a,c⟩) hw hO hc h0 h3 hwz ⟨h⟩
theorem D5.tsend (O:D5 w0 q sid) {w:World} {ow:Ow} {s:O.σ} {td ten:Int} {x:Mv} (hw:Owd w0 w ow) (hO:O.inv w ow s) (hc:O.cnt s<=400000000000) (ht:O.okTo td ten) (h:R4 w ow x):
 Calls Tryz.prog 302 #[.agg #[.pointer (some ⟨q,0,none⟩),.int .i64 sid],.int .i64 td,.int .i64 ten,.agg #[.int .i64 x.m.kind,.int .i64 x.m.at_,.int .i64 x.m.rule.kind,.int .i64 x.m.rule.tenant,.string x.m.rule.who,.int .i64 x.m.rule.broker,.string x.m.rule.sc,.slice x.ra x.m.rule.cs.length x.rc,.string x.m.rule.name,.int .i64 x.m.rule.at_,
  .string x.m.fs,.slice x.fa x.m.fl.length x.fc,.string x.m.es,.slice x.ea x.m.el.length x.ec,.int .i64 x.m.ver,.string x.m.org,.int .i64 x.m.ser]] w
  fun e w'=>e= .returned (.tuple #[])/\∃ow',O.inv w' ow' (O.send s td ten x.m)/\Mov O.tg w ow w' ow':=
 O.hsend hw hO hc ht h
theorem b2v {w:World} {ow:Ow} {v:Value} {l:List Ru} (h:q6 w ow 8 v l.length (rus l)) (hf:∀r∈l,r.pru.fine/\q6 w ow 7 r.cv r.cs.length (q8 r.cs)):Q5 w v l:=⟨h.rd,fun r hr=>(hf r hr).1.ok (hf r hr).2.rd⟩
theorem b2w {A:List PRu} {t:Int} {who es:ByteArray} {L:List Att}:(a3P A t who es L).Sublist L:=List.filter_sublist
theorem b0f {l m:List Att} (h:l.Sublist m) (hm:M8 m):M8 l:=by
 intro i j x y hij hx hy;have hp:m.Pairwise fun x y=>Op.bytesLess x.name.data.toList y.name.data.toList=true:=List.pairwise_iff_getElem.2 fun i j hi hj hij=>hm i j _ _ hij (zz5 hi) (zz5 hj);have hq:=hp.sublist h;obtain ⟨h1,rfl⟩:=zz6 hx;obtain ⟨h2,rfl⟩:=zz6 hy;exact List.pairwise_iff_getElem.1 hq i j h1 h2 hij
def b0g {w0:World} {q:Nat} {sid:Int} (O:D5 w0 q sid) (w:World) (ow:Ow) (c g:Nat) (id:Int) (near:List Int) (B:BS) (t:Nat) (s:O.σ) (frm:Int) (m:Mg) (e:Ending) (w':World):Prop:=
 e= .returned (.tuple #[])/\∃ow',Bro w' ow' c g id near B/\O.inv w' ow' (O.sends (O.shows s (B.rouH t m)) (V9 (B.R t).M near t frm m))/\Mov O.tg w ow w' ow'
def b6z {w0:World} {q:Nat} {sid:Int} (O:D5 w0 q sid) (w:World) (ow:Ow) (s:O.σ) (f:Int->Option Hn) (ids:List Int) (i:Value) (wr:World):Prop:=
 ∃(j:Nat) (owr:Ow),i= .int .i64 j/\j<=ids.length/\O.inv wr owr (O.shows s ((ids.take j).filterMap f))/\Mov O.tg w ow wr owr
def b5T {w0:World} {q:Nat} {sid:Int} (O:D5 w0 q sid) (w:World) (ow:Ow) (s:O.σ) (M:List (Int×Fil)) (near:List Int) (t frm:Int) (m:Mg) (i:Value) (wr:World):Prop:=
 ∃(j:Nat) (owr:Ow),i= .int .i64 j/\j<=near.length/\O.inv wr owr (O.sends s (V9 M (near.take j) t frm m))/\Mov O.tg w ow wr owr
theorem J9.okR {w:World} {ow:Ow} {c b:Nat} {M:List (Int×Fil)} {N:Nat} (h:J9 w ow c b M N):∀p∈M,okQ p.2:=fun p hp=>by
 obtain ⟨mo,hat⟩:=h;exact ⟨(hat.wf _ hp).2.1,(hat.wf _ hp).2.2,hat.sc _ hp⟩
theorem b2x (w0 w:World) (ow:Ow) (hw:Owd w0 w ow) (c g:Nat) (id:Int) (near:List Int) (B:BS) (h:Bro w ow c g id near B) (hL:B.L.length<=40) (hnl:near.length<=1000) (hnw:∀n∈near,(Lit.int .i64 n).wf=true) (t:Nat) (ht:t<4)
 (q:Nat) (sid:Int) (O:D5 w0 q sid) (s:O.σ) (hO:O.inv w ow s) (je:∀t,O.tg t->t<c\/c+18<=t) (hto:∀n∈near,O.okTo n t) (hcnt:O.cnt s<=300000000000) (hT:(B.R t).T<=100000) (hN:(B.R t).N<=1000000)
 (uk:∀k∈(B.R t).I.map Prod.fst,(Lit.int .i64 k).wf=true/\∃q,a0A (B.R t).S k=some q/\okQ q.2/\q.1.size<=1000000) (Ey:(B.R t).I.length<=1000) (frm:Int) (x:Mv) (hx:R4 w ow x) (he:a7Z x.m.es x.m.el):
 Calls Tryz.prog 83 #[.pointer (some ⟨g,0,none⟩),.iface 138 (.agg #[.pointer (some ⟨q,0,none⟩),.int .i64 sid]),.int .i64 t,.int .i64 frm,.agg x.cells.toArray] w (b0g O w ow c g id near B t s frm x.m):=by
 obtain ⟨a,h⟩:=h;obtain ⟨l,hlB,hfin,hle,hat⟩:=h.at_ hL;obtain ⟨q0,q1,q2, -⟩:=h.cells ht;obtain ⟨L,aQ, -⟩:=h.log;obtain ⟨na,nc,kI,hnc⟩:∃a' cc,a.nv= .slice a' near.length cc/\near.length<=cc:=by obtain ⟨-,a,cc,h,h2, -⟩:=h.near.rd;exact ⟨a,cc,h,h2⟩
 have c2:w.cell? ⟨g,2,none⟩=some (.slice na near.length nc):=by rw [<-kI];exact d6 aQ.row rfl
 obtain ⟨wa,ak,ae,aa,ah⟩:=g6 w (.cells x.cells.toArray 135);have eU:(t:Int)<4:=zo
 have ht0:(0:Int)<=t:=zo
 have Dq:(near.length:Int)<=1000:=zo
 have hnc':(near.length:Int)<=nc:=zo
 have jg:=h.rea t ht;have Ez:¬O.tg 0:=fun h=>by have:=O.t2 0 h;omega
 have hF:∀wx,Mod (fun _=>False) wa wx->RtF wa w.heap.size g t (a.tb t) (a.ib t) x na near.length nc wx:=fun wx hm=>
  ⟨hm.cell (ae.cell q0 (fun h=>h)) (fun h=>h),hm.cell (ae.cell q1 (fun h=>h)) (fun h=>h),hm.cell (d6 aa rfl) (fun h=>h),hm.cell (d6 aa rfl) (fun h=>h),hm.cell (d6 aa rfl) (fun h=>h),hm.cell (ae.cell c2 (fun h=>h)) (fun h=>h),hm⟩
 obtain ⟨ids,gp⟩:∃ids,a5r (B.R t).I x.m.es x.m.el=ids:=⟨_,rfl⟩
 have him:∀wx,Mod (fun _=>False) wa wx->Calls Tryz.prog 117 #[.pointer (some ⟨a.ib t,0,none⟩),.agg #[.string x.m.es,.slice x.ea x.m.el.length x.ec]] wx (fun e w'=>∃v,e= .returned v/\g7 w' 3 1 v ids.length (ids.map (Value.int .i64))/\(∀k,v.ownBlock=some k->wx.heap.size<=k)/\Mod (fun _=>False) wx w'):=fun wx hm=>by
  have h1:=a9L wx (a.ib t) _ _ (B.R t).I (B.R t).T (Idx.mod jg.idx (ae.trans hm zi) zi) hT x.m.es (by have:=he.es;omega) (.slice x.ea x.m.el.length x.ec) x.m.el (hx.el.rd.mod (ae.trans hm zi) zi) (by have:=he.len;omega) (fun q hq=>by have:=he.each q hq;omega);rw [<-gp];exact h1
 have lM:∀k∈ids,(Lit.int .i64 k).wf=true/\∃q,a0A (B.R t).S k=some q/\okQ q.2/\q.1.size<=1000000:=fun k hk=>by
  rw [<-gp] at hk;exact uk k (a4A.1 (List.mem_filter.1 hk).1)
 have Jy:ids.length<=1000:=by
  rw [<-gp];refine Nat.le_trans (List.length_filter_le _ _) ?_;unfold a0y;rw [List.length_mergeSort,zz10];exact Ey
 refine hh8 hw h hat hlB hfin hle aQ hF fun Hw H Ul PH bF vL jd HF=> ?_;refine hh8 him jg hx he kI ak ae aa fun Un yN Hx He yJ aB ai aC=> ?_;refine hh8 gp lM uk hnw hO je hto Ez fun fC Cm HIS jC HO mr qd fJ=> ?_;clear hw h hat hlB hfin hle aQ hF him jg hx he kI ak ae aa gp lM uk hnw hO je hto Ez ah
 go_enter Tryz.func83,Tryz.ntmps83
 go_wp2_with (rw [show w.alloc _=wa from aB.out])
 have hS:RtF wa w.heap.size g t (a.tb t) (a.ib t) x na near.length nc wa.drew:=HF.out _ ((Mod.refl _ wa).drew);refine i6 [.rd 0,.rd 1,.rd 2,.rd 3,.rd 4,.go 5,.go 6] [0,1,2,3,4] (RtF wa w.heap.size g t (a.tb t) (a.ib t) x na near.length nc) zk zk (fun _ _ d _ _ h=>(by cases d<;>exact h)) ?_
 iterate 5 (
  refine wrd hS fun K hK=> ?_
  go_simp;refine hK _ ?_;clear hK K)
 refine wgo fun K hK=> ?_
 go_wp2_with fail
 refine (Ul.out _ _ (ai.out.trans hS.md zi)).mono ?_;rintro e w2 ⟨v2,rfl,nE,EA,hm2⟩;have hS2:=HF.out w2 (hS.md.trans hm2 zi);have vM:∀b,v2.ownBlock=some b->w.heap.size<=b:=fun b hb=>Nat.le_trans (Nat.le_trans ai.out.size hS.md.size) (EA b hb);refine hK _ _ (fun _ h=>HF.out _ (h.md.trans hm2 zi)) ?_;clear hK K hS;refine hh3 hS2 nE vM fun HS2 GL EB=> ?_;clear hS2 nE vM hm2 EA;refine wgo fun K hK=> ?_;(try simp only [zz1,zz2,zz3]);go_simp;refine hK _ _ (fun h=>absurd h zd) ?_;clear hK K;refine p8 ?_
 go_wp2_with fail
 have hS:=HF.out _ (HS2.out.md.drew);refine i6 [.rd 0,.rd 1,.rd 2,.rd 3,.rd 4,.rd 5,.rd 8,.go 6,.rd 7] [0,1,2,3,4,5,7,8] (RtF wa w.heap.size g t (a.tb t) (a.ib t) x na near.length nc) zk zk (fun _ _ d _ _ h=>(by cases d<;>exact h)) ?_
 iterate 7 (
  refine wrd hS fun K hK=> ?_
  go_simp;refine hK _ ?_;clear hK K)
 refine wgo fun K hK=> ?_
 go_wp2_with fail
 refine (Un.out _ hS.md).mono ?_;rintro e w3 ⟨iv,rfl,hov,hib,au⟩;obtain ⟨ia,ic,rfl,hic⟩:=hov.shape;have Uo:(ids.length:Int)<=ic:=zo
 have zw:∀b,(Value.slice ia ids.length ic).ownBlock=some b->w.heap.size<=b:=fun b hb=>Nat.le_trans (Nat.le_trans ai.out.size hS.md.size) (hib b hb);have ed:Mod (fun _=>False) w2 w3:=((Mod.refl (fun _=>False) w2).drew).trans au zi;have ul:=HF.out w3 (hS.md.trans au zi);refine hK _ _ (fun _ h=>HF.out _ (h.md.trans au zi)) ?_;clear hK K;have hS:=ul;refine wrd hS fun K hK=> ?_;go_simp;refine hK _ ?_;clear hK K;refine p8 ?_;have aR:=ai.out.trans ul.md zi;have hs3:=Mov.of Hw.out aR (fun _=>False);have dH:=hs3.owd Hw.out (fun h=>h);have hb3:=H.out.mov Hw.out hs3 (fun h=>h) (fun _ h=>h.elim);have hO3:=O.mov HO.out Hw.out hs3 (fun h=>h) (fun _ h=>h.elim);have hx3:=Hx.out.mov hs3 (fun h=>h);have hg3:=ul.md.heap aC.out (fun h=>h);have hcI:q6 w3 ow 1 (.slice ia ids.length ic) ids.length (ids.map (Value.int .i64)):=⟨hov.rd,fun _ b hb=>Hw.out.zero (zw b hb)⟩;obtain ⟨A,hA⟩:∃A,atR l (X0 x.m.ver B.L.length)=A:=⟨_,rfl⟩
 have Uq:A.length<=40:=by
  have h1:=b4r l (X0 x.m.ver B.L.length);have h2:=congrArg List.length PH.out;rw [zz10] at h2;rw [hA] at h1;omega
 have hcA:q6 w3 ow 8 v2 A.length (rus A):=by
  have h1:=GL.out.rd;rw [hA] at h1;exact ⟨h1.mod ed zi,fun _ b hb=>Hw.out.zero (EB.out b hb)⟩
 have hfA:∀r∈A,r.pru.fine/\q6 w3 ow 7 r.cv r.cs.length (q8 r.cs):=fun r hr=>by
  have h1:=bF.out r (a8Z (n:=X0 x.m.ver B.L.length) (by rw [hA];exact hr));exact ⟨h1.1,h1.2.mov hs3 (fun h=>h) zo⟩
 obtain ⟨AP,LQ⟩:∃AP,atP B.L (X0 x.m.ver B.L.length)=AP:=⟨_,rfl⟩;have EC:A.map Ru.pru=AP:=by rw [<-hA,b4o,PH.out,LQ]
 have ED:Mov O.tg w3 ow w3 ow:=Mov.refl dH;have EE:ow w.heap.size=0:=Hw.out.zero (Nat.le_refl _);refine hh8 hov hib zw ed ul hS aR hs3 fun Il Al Ur lL EF HS aT LU=> ?_;refine hh8 dH hb3 hO3 hx3 hg3 hcI hA hcA fun gF Hb3 uR PI gP Us HA Jv=> ?_;refine hh5 hfA LQ EC ED EE fun Ch Ut EG LV EH=> ?_;clear hov hib zw ed ul hS aR hs3 dH hb3 hO3 hx3 hg3 hcI hA hcA hfA LQ EC ED EE hic au
 go_wp2_with fail
 go_loopw [37] (fun i wr=>b6z O w3 ow s (M3 (B.R t).S AP t x.m) ids i wr) (fun i _=>ids.length - (intOf i).toNat)
 case atStart=>exact ⟨0,ow,rfl,Nat.zero_le _,uR.out,LV.out⟩
 case round=>
  obtain ⟨j,owr,rfl,hj,fP,hmr⟩:=hrel;have mK:=hmr.owd gF.out fJ.out;have hbr:=Hb3.out.mov gF.out hmr fJ.out mr.out;have hcr:=O.shows_cnt s ((ids.take j).filterMap (M3 (B.R t).S AP t x.m));have hcl:((ids.take j).filterMap (M3 (B.R t).S AP t x.m)).length<=1000:=Nat.le_trans (List.length_filterMap_le _ _) (by rw [List.length_take];omega)
  have hgr:=hmr.md.heap gP.out (fun hf=>fJ.out (by
   have hf':O.tg (ow w.heap.size):=hf;rw [EH.out] at hf'
   exact hf'))
  by_cases hlt:j<ids.length
  ·have hlt':(j:Int)<ids.length:=zo
   obtain ⟨k,hkj⟩:∃k,ids[j]? =some k:=⟨_,zz5 hlt⟩;obtain ⟨oV,q,hq,PK,hqz⟩:=Cm.out k (zz8 hkj);obtain ⟨gi,offi,rfl,ci⟩:=a3A (Us.out.mov hmr fJ.out zo).rd hkj;obtain ⟨q',qa,qc, -,hlk,hqc⟩:=(hbr.rea t ht).sub.ask k oV;obtain ⟨rfl,hcon⟩:=hqc q hq;obtain ⟨-, -,s2, -⟩:=hbr.cells ht;obtain ⟨wz,hwz,ag,aj,aF⟩:=g6 wr (.cells #[.string q.1,.string q.2.1,.slice qa q.2.2.length qc] 198);have hgz:=ag.heap hgr (fun h=>h);have hsz:=Mov.of mK ag (fun _=>False);have hmz:=hmr.trans (hsz.mono (G:=O.tg) (fun _ h=>h.elim));have dA:=hsz.owd mK (fun h=>h);have hxz:=PI.out.mov hmz fJ.out;have zx:=fun wx (hx:Mod (fun _=>False) wz wx)=>(b2v (Jv.out.mov hmz fJ.out zo) (fun r hr=>⟨(Ch.out r hr).1,(Ch.out r hr).2.mov hmz fJ.out zo⟩)).mod hx;have vN:=hcon.mov hsz (fun h=>h) zo;have hes:=He.out.es;have hev:=b0d wz v2 A (zx wz (Mod.refl _ _)) zo t q.1 x.m.es zo x.ea x.ec x.m.el hxz.el.rd (by have:=He.out.len;omega);rw [<-b2t,EG.out] at hev;obtain ⟨sl,hsl⟩:∃sl,a3P AP t q.1 x.m.es x.m.el=sl:=⟨_,rfl⟩;have hsub:sl.Sublist x.m.el:=hsl▸b2w;rw [hsl] at hev;obtain ⟨mo,hmo⟩:∃mo,a98 AP t q.1 q.2.1 q.2.2=mo:=⟨_,rfl⟩;obtain ⟨fm,hfm⟩:∃fm,T4 q.2.1 q.2.2 x.m.es sl=fm:=⟨_,rfl⟩
   have hone:M3 (B.R t).S AP t x.m k=if mo&&fm then some ((t:Int),q.1,⟨1,0,0,k,x.m.ser,x.m.ver,x.m.org,x.m.es,sl⟩) else none:=by
    unfold M3;rw [hq];show (if a98 AP t q.1 q.2.1 q.2.2&&T4 q.2.1 q.2.2 x.m.es (a3P AP t q.1 x.m.es x.m.el) then some _ else none)=_;rw [hsl,hmo,hfm]
   have hsu:=a78 (S:=(B.R t).S) (A:=AP) (t:=t) (m:=x.m) hkj;have hsu:(ids.take (j+1)).filterMap (M3 (B.R t).S AP t x.m)=(ids.take j).filterMap (M3 (B.R t).S AP t x.m)++(M3 (B.R t).S AP t x.m k).toList:=hsu;rw [hone] at hsu;have e12:wz.cell? ⟨w.heap.size,12,none⟩=some (.string x.m.es):=d6 hgz rfl;have e13:wz.cell? ⟨w.heap.size,13,none⟩=some (.slice x.ea x.m.el.length x.ec):=d6 hgz rfl;have e14:wz.cell? ⟨w.heap.size,14,none⟩=some (.int .i64 x.m.ver):=d6 hgz rfl;have e15:wz.cell? ⟨w.heap.size,15,none⟩=some (.string x.m.org):=d6 hgz rfl;have e16:wz.cell? ⟨w.heap.size,16,none⟩=some (.int .i64 x.m.ser):=d6 hgz rfl;have y0:wz.cell? ⟨wr.heap.size,0,none⟩=some (.string q.1):=d6 aj rfl;have y1:wz.cell? ⟨wr.heap.size,1,none⟩=some (.string q.2.1):=d6 aj rfl;have y2:wz.cell? ⟨wr.heap.size,2,none⟩=some (.slice qa q.2.2.length qc):=d6 aj rfl;refine hh8 fP hmr mK hbr hgr hkj hq PK fun qg aL EI bZ tV GU Hq zy=> ?_;refine hh8 hcon hqc oV hwz ag aj hgz hsz fun qh Xv JW aX bE aJ sJ AC=> ?_;refine hh8 hmz dA hxz zx vN hev hsl hsub fun bC fI Ob LW vO Uu uQ zA=> ?_;refine hh4 hmo hfm hone hsu fun ry mE aI dM=> ?_;clear fP hmr mK hbr hgr hkj hq PK hcon hqc oV hwz ag aj hgz hsz hmz dA hxz zx vN hev hsl hsub hmo hfm hone hsu aF
   go_wp2_with ((with_reducible refine d9 198 (.tmp 14) (.tmp 46) ?_);refine ⟨rfl,[.string q.1,.string q.2.1,.slice qa q.2.2.length qc],rfl,rfl,zk,rfl, ?_⟩;rw [aX.out])
   refine Uu.out.mono ?_;rintro e w5 ⟨av,rfl,hso,hsb,bR⟩;obtain ⟨sa,sc,rfl, -⟩:=hso.shape;obtain ⟨w6,jH,dG,gy,jI⟩:=g6 w5 (.cells #[.string x.m.es,.slice sa sl.length sc] 39);have mM:=bR.trans dG zi;have uo:=LW.out w6 mM
   have zB:=a6z (b4s q.2.1 q.2.2) w6 v2 A uo zo t q.1 q.2.1 qa q.2.2.length qc
    (fun r hr wx hwx ho=>a9Y wx r ((uo.ok r hr).mod hwx) (fun c hc=>((Ch.out r hr).1.cs c hc).v.num) q.2.1 (.slice qa q.2.2.length qc) q.2.2 (vO.out.rd.mod (mM.trans hwx zi) zi) (by have:=zy.out.1;omega) (by have:=zy.out.2.2;omega) (fun d hd=>⟨by have:=(zy.out.2.1 d hd).v.text;omega,(zy.out.2.1 d hd).v.num⟩))
   rw [<-b4z,EG.out,ry.out] at zB;have g6z:=mM.heap aJ.out (fun h=>h);have g6m:=mM.heap sJ.out (fun h=>h);have y0:w6.cell? ⟨wr.heap.size,0,none⟩=some (.string q.1):=d6 g6z rfl;have y1:w6.cell? ⟨wr.heap.size,1,none⟩=some (.string q.2.1):=d6 g6z rfl;have y2:w6.cell? ⟨wr.heap.size,2,none⟩=some (.slice qa q.2.2.length qc):=d6 g6z rfl;have zC:=hso.rd.mod dG zi;have EJ:∀wx,Mod (fun _=>False) w6 wx->q6 wx owr 6 (.slice sa sl.length sc) sl.length (I4 sl):=fun wx hx=>⟨zC.mod hx zi,fun _ b hb=>fI.out.zero (hsb b hb)⟩;refine hh8 hso hsb bR jH dG gy mM uo fun jA xH gD Ar CF tC LX Uv=> ?_;refine hh5 zB g6z g6m zC EJ fun LY G6z G6m Uw EK=> ?_;clear hso hsb bR jH dG gy mM uo zB g6z g6m zC EJ jI e12 e13 e14 e15 e16
   go_wp2_with ((with_reducible refine d9 39 (.tmp 15) (.tmp 53) ?_);refine ⟨rfl,[.string x.m.es,.slice sa sl.length sc],rfl,rfl,zk,rfl, ?_⟩;rw [Ar.out])
   refine LY.out.mono ?_;rintro e w7 ⟨rfl,bP⟩;have mO:=LX.out.trans bP zi;have hs7:=Mov.of fI.out mO (fun _=>False);have iE:=hs7.owd fI.out (fun h=>h);have jW:=bC.out.trans (hs7.mono (G:=O.tg) (fun _ h=>h.elim));have uq:=(O.mov qg.out EI.out AC.out (fun h=>h) (fun _ h=>h.elim));have uq:=O.mov uq fI.out hs7 (fun h=>h) (fun _ h=>h.elim);have g7z:=bP.heap G6z.out (fun h=>h);have g7m:=bP.heap G6m.out (fun h=>h);have g7e:=bP.heap tC.out (fun h=>h)
   cases mo with
   |false=>
    rw [Bool.false_and,if_neg zd,Option.toList_none,zz11] at dM;refine hh5 mO hs7 iE jW uq fun EM PL qA qB EO=> ?_;clear mO hs7 iE jW uq bP g7z g7m g7e
    go_wp2_with fail
    go_roundw
    case rel=>exact ⟨j+1,owr,by go_num,hlt,by rw [dM.out];exact EO.out,qB.out⟩
    case measure=>simp [intOf];omega
   | true=>
    have y1:w7.cell? ⟨wr.heap.size,1,none⟩=some (.string q.2.1):=d6 g7z rfl;have y2:w7.cell? ⟨wr.heap.size,2,none⟩=some (.slice qa q.2.2.length qc):=d6 g7z rfl;have z0:w7.cell? ⟨w5.heap.size,0,none⟩=some (.string x.m.es):=d6 g7e rfl;have z1:w7.cell? ⟨w5.heap.size,1,none⟩=some (.slice sa sl.length sc):=d6 g7e rfl
    have zD:=a1B w7 q.2.1 (.slice qa q.2.2.length qc) q.2.2 (vO.out.rd.mod mO zi) (by have:=zy.out.1;omega) (by have:=zy.out.2.2;omega) (fun d hd=>by have:=(zy.out.2.1 d hd).v.text;omega) x.m.es (.slice sa sl.length sc) sl (EK.out w7 bP).rd
     (by have:=zA.out.length_le;have:=He.out.len;omega) (b0f zA.out He.out.ris) (by have:=He.out.es;omega) (fun b hb=>by have:=(He.out.each b (zA.out.subset hb)).2;omega)
    rw [mE.out] at zD;refine hh8 mO hs7 iE jW uq bP g7z g7m fun EM PL qA qB EO nG G7z G7m=> ?_;refine hh2 g7e zD fun G7e LZ=> ?_;clear mO hs7 iE jW uq bP g7z g7m g7e zD
    go_wp2_with fail
    refine LZ.out.mono ?_;rintro e w8 ⟨rfl,dC⟩;have ut:=EM.out.trans dC zi;have zF:=Mov.of qA.out dC (fun _=>False);have qC:=zF.owd qA.out (fun h=>h);have uu:=qB.out.trans (zF.mono (G:=O.tg) (fun _ h=>h.elim));have lT:=O.mov EO.out qA.out zF (fun h=>h) (fun _ h=>h.elim);have g8z:=dC.heap G7z.out (fun h=>h);have g8m:=dC.heap G7m.out (fun h=>h);have g8e:=dC.heap G7e.out (fun h=>h)
    cases fm with
    |false=>
     rw [Bool.and_false,if_neg zd,Option.toList_none,zz11] at dM;refine hh5 ut zF qC uu lT fun Ma Ux Mc zG GN=> ?_;clear ut zF qC uu lT dC g8z g8m g8e
     go_wp2_with fail
     go_roundw
     case rel=>exact ⟨j+1,owr,by go_num,hlt,by rw [dM.out];exact GN.out,zG.out⟩
     case measure=>simp [intOf];omega
    |true=>
     rw [Bool.and_self,if_pos rfl,Option.toList_some] at dM;have y0:w8.cell? ⟨wr.heap.size,0,none⟩=some (.string q.1):=d6 g8z rfl;have z0:w8.cell? ⟨w5.heap.size,0,none⟩=some (.string x.m.es):=d6 g8e rfl;have z1:w8.cell? ⟨w5.heap.size,1,none⟩=some (.slice sa sl.length sc):=d6 g8e rfl;have e14:w8.cell? ⟨w.heap.size,14,none⟩=some (.int .i64 x.m.ver):=d6 g8m rfl;have e15:w8.cell? ⟨w.heap.size,15,none⟩=some (.string x.m.org):=d6 g8m rfl;have e16:w8.cell? ⟨w.heap.size,16,none⟩=some (.int .i64 x.m.ser):=d6 g8m rfl;have hsh:=O.tshow (id:=k) (ser:=x.m.ser) (ver:=x.m.ver) (who:=q.1) (org:=x.m.org) (es:=x.m.es) qC lT zo ht0 (by omega:(t:Int)<=3) hqz (EK.out w8 (nG.out.trans dC zi));refine hh8 ut zF qC uu lT dC g8z g8m fun Ma Ux Mc zG GN oO G8z G8m=> ?_;refine hh2 g8e hsh fun G8e NG=> ?_;clear ut zF qC uu lT dC g8z g8m g8e hsh
     go_wp2_with fail
     refine NG.out.mono ?_;rintro e w9 ⟨rfl,ow9,PM,iD⟩;have EP:=zG.out.trans iD;refine hh3 PM iD EP fun Uy AO Md=> ?_;clear PM iD EP
     go_wp2_with fail
     go_roundw
     case rel=>exact ⟨j+1,ow9,by go_num,hlt,by rw [dM.out,O.shows_one];exact Uy.out,Md.out⟩
     case measure=>simp [intOf];omega
  obtain rfl:j=ids.length:=zo
  rw [List.take_length] at fP hcr hcl;obtain ⟨s1,hs1⟩:∃s1,O.shows s (ids.filterMap (M3 (B.R t).S AP t x.m))=s1:=⟨_,rfl⟩;rw [hs1] at fP hcr
  have EQ:O.shows s (B.rouH t x.m)=s1:=by
   unfold BS.rouH a4Q;rw [fC.out,Ut.out];exact hs1
  have hcr:O.cnt s1<=O.cnt s+1000:=zo
  clear hcl hs1
  have e2:wr.cell? ⟨g,2,none⟩=some (.slice na near.length nc):=by
   obtain ⟨L5,hl5, -⟩:=hbr.log;rw [<-yJ.out];exact d6 hl5.row rfl
  refine hh6 fP hmr mK hbr hgr EQ fun qg aL EI bZ tV Me=> ?_;clear fP hmr mK hbr hgr EQ
  go_wp2_with fail
  go_loopw [87] (fun i wr=>b5T O w3 ow s1 (B.R t).M near t frm x.m i wr) (fun i _=>near.length - (intOf i).toNat)
  case atStart=>exact ⟨0,owr,rfl,Nat.zero_le _,qg.out,aL.out⟩
  case round=>
   obtain ⟨j,ow5,rfl,hj,nD,bR⟩:=hrel;have gI:=bR.owd gF.out fJ.out;have hb5:=Hb3.out.mov gF.out bR fJ.out mr.out
   have hg5:=bR.md.heap gP.out (fun hf=>fJ.out (by
    have hf':O.tg (ow w.heap.size):=hf;rw [EH.out] at hf'
    exact hf'))
   by_cases hlt:j<near.length
   ·have hlt':(j:Int)<near.length:=zo
    obtain ⟨n,gT⟩:∃x,near[j]? =some x:=⟨_,zz5 hlt⟩;have hnm:=zz8 gT;have hx5:=PI.out.mov bR fJ.out
    obtain ⟨gn,offn,hgn,hcn⟩:∃gn offn,na=some ⟨gn,offn,none⟩/\wr.cell? ⟨gn,offn+j,none⟩=some (.int .i64 n):=by
     have h1:=hb5.near.rd;rw [yJ.out] at h1;obtain ⟨gn,offn,h2,h3⟩:=a3A h1 gT;exact ⟨gn,offn,h2,h3⟩
    subst hgn;have uw:=hb5.rea t ht;have zH:=O.sends_cnt s1 (V9 (B.R t).M (near.take j) t frm x.m);have hl5:=a4R (B.R t).M (near.take j) t frm x.m;rw [List.length_take] at hl5;obtain ⟨b,hb⟩:∃b,(a4i (B.R t).M n).any (fun q=>a05 q x.m.es x.m.el)=b:=⟨_,rfl⟩;have hsu:=a79 (M:=(B.R t).M) (t:=t) (frm:=frm) (m:=x.m) gT
    have fT:∀wx,Mod (fun _=>False) wr wx->RtF wr w.heap.size g t (a.tb t) (a.ib t) x (some ⟨gn,offn,none⟩) near.length nc wx:=fun wx hm=>by
     obtain ⟨L5,hl5, -⟩:=hb5.log;obtain ⟨p0,p1, -, -⟩:=hb5.cells ht;have p2:wr.cell? ⟨g,2,none⟩=some (.slice (some ⟨gn,offn,none⟩) near.length nc):=by rw [<-yJ.out];exact d6 hl5.row rfl
     exact ⟨hm.cell p0 (fun h=>h),hm.cell p1 (fun h=>h),hm.cell (d6 hg5 rfl) (fun h=>h),hm.cell (d6 hg5 rfl) (fun h=>h),hm.cell (d6 hg5 rfl) (fun h=>h),hm.cell p2 (fun h=>h),hm⟩
    have Im:∀wx,Mod (fun _=>False) wr wx->Calls Tryz.prog 120 #[.pointer (some ⟨a.tb t,0,none⟩),.int .i64 n,.agg #[.string x.m.es,.slice x.ea x.m.el.length x.ec]] wx fun e w'=>e= .returned (.bool b)/\Mod (fun _=>False) wr w':=fun wx h=>by
     have h1:=a93 wx (a.tb t) _ _ (B.R t).M (B.R t).N (Tab.mod0 uw.tab h zi) hN (J9.okR uw.tab) n (jC.out n hnm) x.m.es x.ea x.ec x.m.el He.out.es (hx5.el.rd.mod h zi) He.out.len He.out.ris He.out.each;rw [hb] at h1;exact h1.mono fun e w' ⟨he,hm⟩=>⟨he,h.trans hm zi⟩
    have uy:=qd.out n hnm
    have hw1:b2u (B.R t).M frm x.m n=(!(n==frm)&&b):=by
     unfold b2u;rw [hb]
    rw [hw1] at hsu;clear hw1;by_cases hnf:n=frm
    ·have hq:(n !=frm)=false:=by simpa using hnf
     rw [show (n==frm)=true from by simpa using hnf,Bool.not_true,Bool.false_and,if_neg zd,zz11] at hsu;refine hh8 nD bR gI hb5 hg5 hx5 uw Im fun xK gD jm Hb5 sZ PN Uz Mf=> ?_;refine hh6 fT hnm gT uy hb hsu fun rf gY AA ER Hb dM=> ?_;clear nD bR gI hb5 hg5 hx5 uw Im fT hnm gT uy hb hsu
     go_wp2_with fail
     refine g9 zk zk ?_
     iterate 13 (first
      | (refine j1 ?_ (fun K hK=> ?_)
         ·first|(go_simp;done)|(go_simp;simp [undef];done)
         go_simp;refine hK _ ?_;clear hK K)
      | (refine l9 ?_ ?_ (fun w' hw'=> ?_) (fun K hK=> ?_)
         ·first|(go_simp;done)|(go_simp;simp [undef];done)
         rotate_left
         ·skip
          go_simp;rfl
         go_simp;refine hK _ ?_;clear hK K)
      | (refine q7 ?_ ?_ ?_ ?_ (fun w' hw'=> ?_) ?_ (fun K hK=> ?_)
         ·first|(go_simp;done)|(go_simp;simp [undef];done)
         rotate_left 3
         ·skip
          go_simp;constructor<;>rfl
         ·first|with_reducible exact Mf.out
         go_simp;refine hK _ ?_;clear hK K))
     refine j8 (fun w' hw'=> ?_);have hf:=rf.out w' hw';have hs6:=Mov.of jm.out hw' (fun _=>False);have cz:=gD.out.trans (hs6.mono (G:=O.tg) (fun _ h=>h.elim));have oK:=O.mov xK.out jm.out hs6 (fun h=>h) (fun _ h=>h.elim);refine hh4 hf cz oK hs6 fun Hf iU Au PP=> ?_;clear hf cz oK hs6 hw'
     go_wp2_with fail
     go_roundw
     case rel=>exact ⟨j+1,ow5,by go_num,hlt,by rw [dM.out];exact Au.out,iU.out⟩
     case measure=>simp [intOf];omega
    have hq:(n !=frm)=true:=by simpa using hnf
    rw [show (n==frm)=false from by simpa using hnf,Bool.not_false,Bool.true_and] at hsu;refine hh8 nD bR gI hb5 hg5 hx5 uw Im fun xK gD jm Hb5 sZ PN Uz Mf=> ?_;refine hh6 fT hnm gT uy hb hsu fun rf gY AA ER Hb dM=> ?_;clear nD bR gI hb5 hg5 hx5 uw Im fT hnm gT uy hb hsu
    go_wp2_with fail
    refine g9 zk zk ?_
    iterate 13 (first
     | (refine j1 ?_ (fun K hK=> ?_)
        ·first|(go_simp;done)|(go_simp;simp [undef];done)
        go_simp;refine hK _ ?_;clear hK K)
     | (refine l9 ?_ ?_ (fun w' hw'=> ?_) (fun K hK=> ?_)
        ·first|(go_simp;done)|(go_simp;simp [undef];done)
        rotate_left
        ·obtain ⟨f0,f1,f2,f3,f4,f5, -⟩:=rf.out w' hw';go_simp;rfl
        go_simp;refine hK _ ?_;clear hK K)
     | (refine q7 ?_ ?_ ?_ ?_ (fun w' hw'=> ?_) ?_ (fun K hK=> ?_)
        ·first|(go_simp;done)|(go_simp;simp [undef];done)
        rotate_left 3
        ·obtain ⟨f0,f1,f2,f3,f4,f5, -⟩:=rf.out w' hw';go_simp;constructor<;>rfl
        ·first|with_reducible exact Mf.out
        go_simp;refine hK _ ?_;clear hK K))
    refine j8 (fun w' hw'=> ?_);have hf:=rf.out w' hw';have hs6:=Mov.of jm.out hw' (fun _=>False);have qD:=hs6.owd jm.out (fun h=>h);have cz:=gD.out.trans (hs6.mono (G:=O.tg) (fun _ h=>h.elim));have oK:=O.mov xK.out jm.out hs6 (fun h=>h) (fun _ h=>h.elim);have hx6:=PN.out.mov hs6 (fun h=>h);have fB:=hw'.heap sZ.out (fun h=>h)
    cases b with
    |false=>
     rw [if_neg zd,zz11] at dM;refine hh7 hf cz oK hs6 qD hx6 fB fun Hf iU Au PP Mh UA sI=> ?_;clear hf cz oK hs6 qD hx6 fB hw'
     go_wp2_with fail
     go_roundw
     case rel=>exact ⟨j+1,ow5,by go_num,hlt,by rw [dM.out];exact Au.out,iU.out⟩
     case measure=>simp [intOf];omega
    |true=>
     rw [if_pos rfl] at dM;have hsn:=O.tsend (td:=n) (ten:=t) (x:=x) qD oK zo ER.out hx6;refine hh7 hf cz oK hs6 qD hx6 hsn fun Hf iU Au PP Mh UA Bu=> ?_;clear hf cz oK hs6 qD hx6 hsn hw'
     go_wp2_with ((with_reducible refine e9 135 (.tmp 9) ?_);refine ⟨w.heap.size,0,rfl,x.cells,d8.row fB,zk,zk, ?_⟩)
     refine Bu.out.mono ?_;rintro e w7 ⟨rfl,ow7,uq,bP⟩;have jW:=iU.out.trans bP;refine hh3 uq bP jW fun EO nG qB=> ?_;clear uq bP jW
     go_wp2_with fail
     go_roundw
     case rel=>exact ⟨j+1,ow7,by go_num,hlt,by rw [dM.out,O.sends_one];exact EO.out,qB.out⟩
     case measure=>simp [intOf];omega
   obtain rfl:j=near.length:=zo
   rw [List.take_length] at nD;have hm:=(LU.out.mono (G:=O.tg) (fun _ h=>h.elim)).trans bR;refine hh6 hm bR nD gI hb5 hg5 fun Hm gD xK jm Hb5 sZ=> ?_;clear hm bR nD gI hb5 hg5
   go_wp2
   go_end0
   exact ⟨rfl,ow5,⟨a,Hb5.out⟩,by rw [Me.out];exact xK.out,Hm.out⟩
def Mg.said (ver ser:Int) (who es:ByteArray) (el:List Att):Mg:=⟨3,0,PRu.zero,⟨#[]⟩,[],es,el,ver,who,ser⟩
end
end Go.Proofs.YtdmjoodhaeijmaaGreatDoor
