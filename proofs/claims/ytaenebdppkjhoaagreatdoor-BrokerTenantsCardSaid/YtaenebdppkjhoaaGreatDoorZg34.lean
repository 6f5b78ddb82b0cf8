/- Lemmas. -/
import Derived.Sort.Row
import Derived.Test.YtaenebdppkjhoaaGreatDoorZg31
namespace Go.Proofs.YtaenebdppkjhoaaGreatDoor
set_option maxRecDepth 20000
set_option maxHeartbeats 40000000
section
open Go.RowKit Go.Sort
def K5 (l:List (List UInt8)):List Value:=l.map encStr
theorem a16 (l:List (List UInt8)):(K5 l).length=l.length:=by simp [K5]
theorem a5P (l m:List (List UInt8)):K5 (l++m)=K5 l++K5 m:=by simp [K5]
theorem b3o {l:List (List UInt8)} {k:Nat} {x:List UInt8} (h:l[k]? =some x):(K5 l)[k]? =some (.string ⟨x.toArray⟩):=by simp [K5,h]
theorem a9o {w:World} {g n off:Nat} {os:Array Obj} {cur:Array Value} {e:TypeId} {fr:Nat×Nat} (d:Array (List UInt8)) (hb:w.heap[g]? =some (.cells cur e fr)):
 (grow (putRow encStr (Sort.ahead w n) g off d) os).heap[g]? =some (.cells (putCells encStr off d cur) e fr):=by
 have hg:g<w.heap.size:=(zz7 hb).1;rw [heap_grow_old _ _ (by simpa using hg)];simp [putRow,mapBlock,Sort.ahead,Array.getElem?_modify,hb,onCells]
theorem a7h {w:World} {g n off:Nat} {cur:Array Value} {e:TypeId} {fr:Nat×Nat} (d:Array (List UInt8)) (hb:w.heap[g]? =some (.cells cur e fr)):
 (putRow encStr (Sort.ahead w n) g off d).heap[g]? =some (.cells (putCells encStr off d cur) e fr):=by
 simp [putRow,mapBlock,Sort.ahead,Array.getElem?_modify,hb,onCells]
theorem b1g {w:World} {g n off:Nat} {os:Array Obj} (d:Array (List UInt8)):Mod (fun k=>k=g) w (grow (putRow encStr (Sort.ahead w n) g off d) os):=by
 refine ⟨rfl,rfl,rfl,by simp,fun k hk hne=> ?_⟩;rw [heap_grow_old _ _ (by simpa using hk)];have:g≠k:=fun e=>hne e.symm;simp [putRow,mapBlock,Sort.ahead,Array.getElem?_modify,this]
theorem a9p {w:World} {g n off:Nat} (d:Array (List UInt8)):Mod (fun k=>k=g) w (putRow encStr (Sort.ahead w n) g off d):=by
 refine ⟨rfl,rfl,rfl,by simp,fun k hk hne=> ?_⟩;have:g≠k:=fun e=>hne e.symm;simp [putRow,mapBlock,Sort.ahead,Array.getElem?_modify,this]
theorem a4g (cur:Array Value) (off:Nat) (ts us:List (List UInt8)) (h:off+(ts++us).length<=cur.size):((putCells encStr off (ts++us).toArray cur).toList.drop off).take ts.length=K5 ts:=by
 apply List.ext_getElem?;intro j;rw [zz4] at h;by_cases hj:j<ts.length
 ·rw [List.getElem?_take_of_lt hj,List.getElem?_drop,Array.getElem?_toList];have h1:j<ts.length+us.length:=by omega
  simp [putCells,h1,hj,K5,show off+j<cur.size by omega,List.getElem!_eq_getElem?_getD]
 rw [List.getElem?_take_eq_none (by omega),List.getElem?_eq_none (by simp [K5];omega)]
theorem a4h {w:World} {g off:Nat} {cur:Array Value} {e:TypeId} (l:List (List UInt8)) (hg:w.heap[g]? =some (.cells cur e (0,0))) (ht:(cur.toList.drop off).take (l.length*1)=K5 l):Holds encStr w g off l.toArray:=fun j hj=>by
 have hj':j<l.length:=by simpa using hj
 have h1:(K5 l)[j]? =some (encStr l[j]):=by simp [K5,hj']
 rw [<-ht,List.getElem?_take_of_lt (by omega),List.getElem?_drop] at h1;refine ⟨?_,by simp [World.frozen?,hg]⟩;rw [cell_of_row w g (off+j) cur e (0,0) hg,<-Array.getElem?_toList,h1];simp [hj']
def a0A (l:List (List UInt8)):List (List UInt8):=l.mergeSort fun x y=>decide (x<=y)
theorem I7 (l:List (List UInt8)):(a0A l).length=l.length:=List.length_mergeSort l
theorem b1h (w:World) (v:Value) (l:List (List UInt8)) (h:i7 w 9 1 v l.length (K5 l)) (hl:l.length<4611686018427387904):
 Calls Tryz.prog 82 #[v] w fun e w'=>e= .returned (.tuple #[])/\i7 w' 9 1 v (a0A l).length (K5 (a0A l))/\Mod (j1 v) w w':=by
 rcases h.2 with ⟨rfl,h0⟩|⟨g,off,cap,cur,rfl,hg,hn,hc,hs,ht⟩
 ·obtain rfl:l=[]:=List.eq_nil_of_length_eq_zero h0;refine (Tryz.slices_Sort_string_none none 0 w).mono fun e w' h=> ?_;obtain ⟨rfl,rfl⟩:=h;have h1:a0A []=[]:=by simp [a0A]
  rw [h1];exact ⟨rfl,i7.nil _ _ _,Mod.refl _ _⟩
 have hgl:g<w.heap.size:=(zz7 hg).1;refine (Tryz.slices_Sort_string g off cap l w (a4h l hg ht) hgl hl).mono fun e w' h=> ?_;obtain ⟨rfl,n,os,rfl⟩:=h;have hsl:(l.mergeSort fun x y=>decide (x<=y))=a0A l:=rfl;rw [hsl];have hbl:off+(a0A l++[]).length<=cur.size:=by rw [zz11,I7];omega
 refine ⟨rfl,⟨by rw [a16,Nat.mul_one],.inr ⟨g,off,cap,_,by rw [I7],a9o _ hg,by rw [I7];exact hn,hc,by simpa [putCells] using hs, ?_⟩⟩,(b1g _).mono (fun k _ hk=>by show some g=some k;rw [hk])⟩;have:=a4g cur off (a0A l) [] hbl;rw [zz11] at this;rw [Nat.mul_one];exact this
theorem a2p {α:Type} [DecidableEq α] [Inhabited α] (d:Array α):∀m,(Lib.compactUpTo d m).length<=m:=fun m=>by
 unfold Lib.compactUpTo;rw [zz10];exact Nat.le_trans (List.length_filter_le _ _) (by simp)
theorem a17 (l:List (List UInt8)):(Lib.compact l).length<=l.length:=a2p _ _
theorem a5Q (w:World) (v:Value) (l:List (List UInt8)) (h:i7 w 9 1 v l.length (K5 l)) (hl:l.length<4611686018427387904):
 Calls Tryz.prog 83 #[v] w fun e w'=>∃v',e= .returned v'/\i7 w' 9 1 v' (Lib.compact l).length (K5 (Lib.compact l))/\Mod (j1 v) w w'/\∀k,j1 v' k->j1 v k:=by
 rcases h.2 with ⟨rfl,h0⟩|⟨g,off,cap,cur,rfl,hg,hn,hc,hs,ht⟩
 ·obtain rfl:l=[]:=List.eq_nil_of_length_eq_zero h0;refine (Tryz.slices_Compact_string_empty none 0 w).mono fun e w' h=> ?_;obtain ⟨rfl,rfl⟩:=h;have h1:Lib.compact ([]:List (List UInt8))=[]:=rfl;rw [h1];exact ⟨_,rfl,i7.nil _ _ _,Mod.refl _ _,fun _ h=>h⟩
 have hgl:g<w.heap.size:=(zz7 hg).1;refine (Tryz.slices_Compact_string g off cap l w (a4h l hg ht) (by omega) (by omega)).mono fun e w' h=> ?_;obtain ⟨rfl,q,rfl⟩:=h;have hle:=a17 l;have hbl:off+(Lib.compact l++List.replicate (l.length - (Lib.compact l).length) []).length<=cur.size:=by rw [zz4,List.length_replicate];omega
 refine ⟨_,rfl,⟨by rw [a16,Nat.mul_one],.inr ⟨g,off,cap,_,rfl,a7h _ hg,by omega,hc,by simpa [putCells] using hs, ?_⟩⟩,(a9p _).mono (fun k _ hk=>by show some g=some k;rw [hk]),fun k hk=>hk⟩;have:=a4g cur off (Lib.compact l) _ hbl;rw [Nat.mul_one];exact this
theorem a4O (w:World) (v:Value) (l:List (List UInt8)) (h:j0 w 1 v l.length (K5 l)) (hl:l.length<=1000000) (x:ByteArray):
 Calls Tryz.prog 173 #[v,.string x] w fun e w'=>e= .returned (.bool (decide (x.data.toList∈l)))/\w'=w:=by
 obtain ⟨-,a,c,rfl,hn,h0,hb⟩:=h
 cases l with
 |nil=>
  refine (Tryz.slices_Contains_string_empty a c x w).mono fun e w' h=> ?_;obtain ⟨rfl,rfl⟩:=h;exact ⟨rfl,rfl⟩
 | cons y l=>
  cases a with
  |none=>exact absurd (h0 rfl) (by simp)
  | some b=>
   obtain ⟨g,off,rfl,hc⟩:=hb b rfl (by simp);refine (Tryz.slices_Contains_string g off (y::l).length c ((y::l).map fun z=>(⟨z.toArray⟩:ByteArray)) x w (by simp) (by omega) (fun j hj=> ?_)).mono fun e w' h=> ?_
   ·have hj':j<(y::l).length:=by simpa using hj
    have h1:=hc j _ (b3o (zz5 hj'));rw [h1,List.getD_eq_getElem?_getD,List.getElem?_map,zz5 hj'];rfl
   obtain ⟨rfl,rfl⟩:=h;refine ⟨?_,rfl⟩;congr 2;rw [Bool.eq_iff_iff,Lib.containsS_iff,decide_eq_true_eq,List.take_of_length_le (by simp),List.mem_map];constructor
   ·rintro ⟨z,hz,rfl⟩;exact hz
   exact fun h=>⟨_,h,rfl⟩
def a3L (l:List (List UInt8)):List (List UInt8):=Lib.compact (a0A l)
theorem a5R (l:List (List UInt8)):(a3L l).length<=l.length:=Nat.le_trans (a17 _) (by rw [I7];exact Nat.le_refl _)
end
section
open Go.RowKit
theorem b4J:D8 Tryz.prog 74 9 1 16:=O4 (by kernel_rfl) (by kernel_rfl)
def Ru.hides (r:Ru) (tenant:Int) (who s:ByteArray):Bool:=r.of 3 tenant who&&s6 s r.sc
def W2 (l:List Ru):List (List UInt8):=l.map fun r=>r.name.data.toList
def K6 (l:List Ru) (tenant:Int) (who s:ByteArray):List (List UInt8):=W2 (l.filter fun r=>r.hides tenant who s)
theorem a3M (l m:List Ru):W2 (l++m)=W2 l++W2 m:=by unfold W2;simp
theorem a4i (w:World) (v:Value) (l:List Ru) (hv:K8 w v l) (hll:l.length<=1000000) (tenant:Int) (who s:ByteArray) (hs:s.size<=9223372036854775807):
 Calls Tryz.prog 45 #[v,.int .i64 tenant,.string who,.string s] w fun e w'=>∃ov,e= .returned ov/\i7 w' 9 1 ov (a3L (K6 l tenant who s)).length (K5 (a3L (K6 l tenant who s)))/\(∀b,ov.ownBlock=some b->w.heap.size<=b)/\Mod (fun _=>False) w w':=by
 obtain ⟨a,cap,rfl,hcap⟩:∃a c,v= .slice a l.length c/\l.length<=c:=by obtain ⟨-,a,c,h,h2, -⟩:=hv.rd;exact ⟨a,c,h,h2⟩
 have hll':(l.length:Int)<=1000000:=by omega
 have hcap':(l.length:Int)<=cap:=by omega
 obtain ⟨Hv,Hs,Hll⟩:=zh3 hv hs hll;clear hv hs hll
 go_enter Tryz.func45,Tryz.ntmps45
 go_wp2_with fail
 go_loopw [9,14] (fun ov i wr=>∃j:Nat,i= .int .i64 j/\j<=l.length/\i7 wr 9 1 ov (K6 (l.take j) tenant who s).length (K5 (K6 (l.take j) tenant who s))/\(∀b,ov.ownBlock=some b->w.heap.size<=b)/\Mod (fun _=>False) w wr) (fun _ i _=>l.length - (intOf i).toNat)
 case atStart=>exact ⟨0,rfl,Nat.zero_le _,i7.nil _ _ _,fun b hb=>(by cases hb),Mod.refl _ _⟩
 case round=>
  obtain ⟨j,rfl,hj,hown,hfr,hmr⟩:=hrel;by_cases hlt:j<l.length
  ·have hlt':(j:Int)<l.length:=by omega
   obtain ⟨x,hxj⟩:∃x,l[j]? =some x:=⟨_,zz5 hlt⟩;have hxm:=zz8 hxj;obtain ⟨g,off,rfl,hf⟩:∃g off,a=some ⟨g,off,none⟩/\e7 wr g (off+j*8) x.cells:=L0 (Hv.out.mod hmr) hxj
   have hnx:K6 (l.take (j+1)) tenant who s=K6 (l.take j) tenant who s++(if x.hides tenant who s=true then [x.name.data.toList] else []):=by
    unfold K6;rw [a12 (fun r:Ru=>r.hides tenant who s) hxj,a3M];split<;>rfl
   have hle:(K6 (l.take j) tenant who s).length<=j:=by unfold K6 W2;rw [zz10];exact Nat.le_trans (List.length_filter_le _ _) (List.length_take_le _ _)
   obtain ⟨acc,hacc⟩:∃q,K6 (l.take j) tenant who s=q:=⟨_,rfl⟩;rw [hacc] at hown hnx hle;obtain ⟨nx,hnx'⟩:∃q,K6 (l.take (j+1)) tenant who s=q:=⟨_,rfl⟩;rw [hnx'] at hnx;obtain ⟨oa,oc,rfl, -⟩:=hown.shape;obtain ⟨wz,hwz,hmwz,hgwz,hzwz⟩:=e8 wr (.cells x.cells.toArray 35);have hmz:=hmr.trans hmwz (fun _ _ h=>h);have hun:=a0U s x.sc Hs.out (Hv.out.ok x hxm).sc;have hownz:=hown.mod hmwz (fun _ _ h=>h);have c0:wz.cell? ⟨wr.heap.size,0,none⟩=some (.int .i64 x.kind):=d6 hgwz rfl;have c1:wz.cell? ⟨wr.heap.size,1,none⟩=some (.int .i64 x.tenant):=d6 hgwz rfl;have c2:wz.cell? ⟨wr.heap.size,2,none⟩=some (.string x.who):=d6 hgwz rfl;have c3:wz.cell? ⟨wr.heap.size,3,none⟩=some (.int .i64 x.broker):=d6 hgwz rfl;have c4:wz.cell? ⟨wr.heap.size,4,none⟩=some (.string x.sc):=d6 hgwz rfl;have c5:wz.cell? ⟨wr.heap.size,5,none⟩=some (.slice x.ca x.cs.length x.cc):=d6 hgwz rfl;have c6:wz.cell? ⟨wr.heap.size,6,none⟩=some (.string x.name):=d6 hgwz rfl;have hst:nx=acc++(if (x.of 3 tenant who&&s6 s x.sc)=true then [x.name.data.toList] else []):=hnx;obtain ⟨B,hB⟩:∃B,s6 s x.sc=B:=⟨_,rfl⟩;have hunz:Calls Tryz.prog 81 #[.string s,.string x.sc] wz fun e w'=>e= .returned (.bool B)/\w'=wz:=hB▸hun wz;rw [hB] at hst;obtain ⟨Hxj,Hxm,Hf,Hwz,Hmz,Hownz,Hfr,Hst,Hnx',Hunz⟩:=zh10 hxj hxm hf hwz hmz hownz hfr hst hnx' hunz;clear hxj hxm hf hwz hmz hownz hfr hst hnx' hunz hzwz hmwz hown hmr hacc hgwz hun hB hnx;have same:nx=acc->i7 wz 9 1 (.slice oa acc.length oc) (K6 (l.take (j+1)) tenant who s).length (K5 (K6 (l.take (j+1)) tenant who s)):=fun h=>by rw [Hnx'.out,h];exact Hownz.out
   have Hsame:=zh same;clear same;refine b0l x 3 tenant who (fun h1 h4=> ?_) (fun h1 h2 h4=> ?_) (fun h1 h2 h3 h4=> ?_) (fun h1 h2 h3 h4=> ?_)
   iterate 3 (
    have hq:nx=acc:=by rw [Hst.out,h4];exact zz11 _
    have Hq:=Lib.hid (Hsame.out hq);clear h4 hq Hunz
    go_wp2_with (first|((with_reducible refine d9 35 (.tmp 16) ?_);refine ⟨g,off+j*8,rfl,x.cells,Hf.out,by kernel_rfl,by kernel_rfl, ?_⟩)|((with_reducible refine d8 35 (.tmp 11) (.tmp 17) ?_);refine ⟨rfl,x.cells,rfl,rfl,by kernel_rfl,rfl, ?_⟩;rw [Hwz.out])|fail)
    go_roundw
    case rel=>exact ⟨j+1,by go_num,hlt,Hq.out,Hfr.out,Hmz.out⟩
    case measure=>simp [intOf];omega)
   have Hst:=Lib.hid (show nx=acc++(if B=true then [x.name.data.toList] else []) from by have:=Hst.out;rw [h4] at this;exact this);clear h4
   go_wp2_with (first|((with_reducible refine d9 35 (.tmp 16) ?_);refine ⟨g,off+j*8,rfl,x.cells,Hf.out,by kernel_rfl,by kernel_rfl, ?_⟩)|((with_reducible refine d8 35 (.tmp 11) (.tmp 17) ?_);refine ⟨rfl,x.cells,rfl,rfl,by kernel_rfl,rfl, ?_⟩;rw [Hwz.out])|fail)
   refine Hunz.out.mono ?_;rintro e w8 ⟨rfl,rfl⟩;clear Hunz
   cases B with
   |false=>
    have hq:nx=acc:=by rw [Hst.out];exact zz11 _
    have Hq:=Lib.hid (Hsame.out hq);clear hq
    go_wp2_with fail
    go_roundw
    case rel=>exact ⟨j+1,by go_num,hlt,Hq.out,Hfr.out,Hmz.out⟩
    case measure=>simp [intOf];omega
   | true=>
    have hnx2:nx=acc++[x.name.data.toList]:=Hst.out;obtain ⟨wS,hwS,hmwS,hgwS,hzwS⟩:=e8 w8 (.cells #[.string x.name] 9);have hrd:j0 wS 1 (.slice (some ⟨w8.heap.size,0,none⟩) 1 1) 1 [.string x.name]:=hwS▸j0.one w8 [.string x.name] 9 rfl;have hownS:=Hownz.out.mod hmwS (fun _ _ h=>h);have hm0S:=Hmz.out.trans hmwS (fun _ _ h=>h);have hone:∀u∈[Value.string x.name],u.oneCell'=true:=fun u hu=>by rw [List.mem_singleton.1 hu];rfl
    have hlen:acc.length+1=(K6 (l.take (j+1)) tenant who s).length:=by rw [Hnx'.out,hnx2];simp
    have hstrs:K5 acc++[.string x.name]=K5 (K6 (l.take (j+1)) tenant who s):=by rw [Hnx'.out,hnx2,a5P];rfl
    obtain ⟨Hrd,HwS,HownS,Hm0S,Hone,Hlen,Hstrs⟩:=zh7 hrd hwS hownS hm0S hone hlen hstrs;clear hrd hwS hownS hm0S hone hlen hstrs hmwS hgwS hzwS hnx2 Hst Hsame
    go_wp2_with (first|(rw [show w8.alloc _=wS from HwS.out])|((with_reducible refine j6 (.tmp 40) (.tmp 43) 74 ?_);refine ⟨rfl,9,1,16,b4J,.slice oa acc.length oc,acc.length,K5 acc,rfl,HownS.out,_,1,[.string x.name],rfl,Hrd.out,Hone.out,by omega,by unfold maxLen;omega, ?_⟩;intro ad cap2 w4 hA;have HA:=Lib.hid hA;clear hA)|fail)
    have hown5:=HA.out.1;rw [Hstrs.out] at hown5
    have hfr5:∀b,(Value.slice ad (acc.length+1) cap2).ownBlock=some b->w.heap.size<=b:=fun b hb=>by
     rcases HA.out.2.2 with h|⟨k,h,hk⟩
     ·exact Hfr.out b (by rw [<-h];exact hb)
     rw [h] at hb;cases hb;have:=Hm0S.out.size;omega
    have hm05:Mod (fun _=>False) w w4:=Hm0S.out.upon HA.out.2.1 (fun b hb=> .inr (Hfr.out b hb));obtain ⟨Hown5,Hfr5,Hm05⟩:=zh3 hown5 hfr5 hm05;clear hown5 hfr5 hm05 HA
    go_roundw
    case rel=>exact ⟨j+1,by go_num,hlt,by rw [<-Hlen.out];exact Hown5.out,Hfr5.out,Hm05.out⟩
    case measure=>simp [intOf];omega
  obtain rfl:j=l.length:=by omega
  rw [List.take_length] at hown;have hHl:(K6 l tenant who s).length<=l.length:=by unfold K6 W2;rw [zz10];exact List.length_filter_le _ _
  obtain ⟨H,hH⟩:∃H,K6 l tenant who s=H:=⟨_,rfl⟩;rw [hH] at hown hHl;obtain ⟨oa,oc,rfl, -⟩:=hown.shape;have hso:=b1h wr _ H hown (by have:=Hll.out;omega);have hHm:H.length<=1000000:=by have:=Hll.out;omega
  obtain ⟨Hso,Hfr,Hmr,HHm,HH⟩:=zh5 hso hfr hmr hHm hH;clear hso hfr hmr hHm hH hown hHl
  go_wp2_with fail
  refine Hso.out.mono ?_;rintro e w1 ⟨rfl,hown1,hm1⟩;have hm01:Mod (fun _=>False) w w1:=Hmr.out.upon hm1 (fun b hb=> .inr (Hfr.out b hb));have hsl:(a0A H).length<4611686018427387904:=by rw [I7];have:=HHm.out;omega
  have hco:=a5Q w1 _ _ hown1 hsl;obtain ⟨Hm01,Hco⟩:=zh2 hm01 hco;clear hm01 hco hm1 hown1 Hso Hmr hsl
  go_wp2_with fail
  refine Hco.out.mono ?_;rintro e w2 ⟨v2,rfl,hown2,hm2,hb2⟩;have hm02:Mod (fun _=>False) w w2:=Hm01.out.upon hm2 (fun b hb=> .inr (Hfr.out b hb));obtain ⟨Hm02,Hown2,Hb2⟩:=zh3 hm02 hown2 hb2;clear hm02 hown2 hb2 hm2 Hco Hm01
  go_wp2
  go_ret;have hown3:i7 w2 9 1 v2 (a3L (K6 l tenant who s)).length (K5 (a3L (K6 l tenant who s))):=by rw [HH.out];exact Hown2.out
  exact ⟨_,rfl,hown3,fun b hb=>Hfr.out b (Hb2.out b hb),Hm02.out⟩
theorem a7i:(match Tryz.prog.underlying 70 with|some (.struct _)=>true|some (.array _ _)=>true|_=>false)=true:=by kernel_rfl
theorem b1i:(Tryz.prog.info? 70).map (·.size)=some 6:=by kernel_rfl
@[go_sem ↓] theorem b3p {ρ:Operand->Value} {dst:Option Tmp} {x:Operand} {type:TypeId} {pos:String} {after:Array Edge} {guard:Option (Nat×Bool)} {w:World} (h:a4E w (ρ x) 6):
 Sem.run Tryz.prog (execOp ρ ⟨dst,.load 70 x,type,pos,after,guard⟩) w= .ok (.value (.agg (V4 w (ρ x) 6))) w:=B3 a7i b1i h
theorem a9q {α:Type} (p:α->Bool) {l:List α} {j:Nat} {x:α} (h:l[j]? =some x):(l.take (j+1)).filter p=(l.take j).filter p++(if p x=true then [x] else []):=by
 rw [List.take_add_one,h,List.filter_append];cases hp:p x<;>simp [hp]
def Z0 (N:List (List UInt8)) (l:List Att):List Att:=l.filter fun a=> !decide (a.name.data.toList∈N)
theorem a7j (w:World) (es:ByteArray) (ea:Option Addr) (ec:Nat) (L:List Att) (hv:j0 w 6 (.slice ea L.length ec) L.length (j7 L)) (hll:L.length<=1000) (nv:Value) (N:List (List UInt8)) (hn:i7 w 9 1 nv N.length (K5 N)) (hN:N.length<=1000000):
 Calls Tryz.prog 124 #[.agg #[.string es,.slice ea L.length ec],nv] w fun e w'=>∃av,e= .returned (.agg #[.string es,av])/\i7 w' 70 6 av (Z0 N L).length (j7 (Z0 N L))/\
  (∀b,av.ownBlock=some b->w.heap.size<=b)/\Mod (fun _=>False) w w':=by
 obtain ⟨wa,hwa,hmwa,hgwa,hzwa⟩:=e8 w (.cells #[.string es,.slice ea L.length ec] 46);obtain ⟨wb,hwb,hmwb,hgwb,hzwb⟩:=e8 wa (.cells #[.string ⟨#[]⟩,.slice none 0 0] 46);obtain ⟨w6,hw6,hmw6,hgw6,hzw6⟩:=e8 wb (.cells #[.string es,.slice none 0 0] 46);have hm06:=hmwa.trans (hmwb.trans hmw6 (fun _ _ h=>h)) (fun _ _ h=>h);have hga:=(hmwb.trans hmw6 (fun _ _ h=>h)).heap hgwa (fun h=>h);have hgb:=hmw6.heap hgwb (fun h=>h);have hrd:=hv.mod hm06 (fun _ _ h=>h);have hnd:=hn.rd.mod hm06 (fun _ _ h=>h);have hnl:=hn.lt;have hgab:=hmwb.heap hgwa (fun h=>h);have c0:wb.cell? ⟨w.heap.size,0,none⟩=some (.string es):=d6 hgab rfl;have c1:w6.cell? ⟨w.heap.size,1,none⟩=some (.slice ea L.length ec):=d6 hga rfl
 have hav:∀b,(Value.slice ea L.length ec).ownBlock=some b->0<L.length->b<w.heap.size:=fun b hb h0=>by
  obtain ⟨-,a',c',h1, -, -,h4⟩:=hv;cases h1
  cases ea with
  |none=>cases hb
  |some q=>
   obtain ⟨g,off,rfl,h5⟩:=h4 q rfl h0;have h9:0<(j7 L).length:=by rw [A8];omega
   have h6:(j7 L)[0]? =some (j7 L)[0]:=zz5 h9;have h7:=World.block_lt_of_cell? w _ (h5 0 _ h6);have h8:some g=some b:=hb;cases h8
   exact h7
 have hz1:w.heap.size<wa.heap.size:=by omega
 have hz2:wa.heap.size<wb.heap.size:=by omega
 have hz3:wb.heap.size<w6.heap.size:=by omega
 have hLl:(L.length:Int)<=1000:=by omega
 obtain ⟨Hwa,Hwb,Hw6,Hm06,Hga,Hgb,Hrd,Hnd,Hnl,Hav,Hgw6,Hv⟩:=zh12 hwa hwb hw6 hm06 hga hgb hrd hnd hnl hav hgw6 hv;obtain ⟨Hn,HN⟩:=zh2 hn hN;clear hwa hwb hw6 hm06 hga hgb hrd hnd hnl hav hgw6 hv hn hN hmwa hmwb hmw6 hgwa hgwb hzwa hzwb hzw6 hgab
 go_enter Tryz.func124,Tryz.ntmps124
 go_wp2_with (first|(rw [show w.alloc _=wa from Hwa.out])|(rw [show wa.alloc _=wb from Hwb.out])|((with_reducible refine d8 46 (.tmp 5) (.tmp 10) ?_);refine ⟨rfl,[.string es,.slice none 0 0],rfl,rfl,by kernel_rfl,rfl, ?_⟩;rw [Hw6.out])|fail)
 clear c0 c1
 go_loopw [14] (fun i wr=>∃(j n:Nat) (oa:Option Addr) (oc:Nat),i= .int .i64 j/\j<=L.length/\n=(Z0 N (L.take j)).length/\wr.heap[wb.heap.size]? =some (.cells #[.string es,.slice oa n oc] 46 (0,0))/\
  i7 wr 70 6 (.slice oa n oc) n (j7 (Z0 N (L.take j)))/\(∀b,(Value.slice oa n oc).ownBlock=some b->w6.heap.size<=b)/\Mod (fun k=>k=wb.heap.size) w6 wr) (fun i _=>L.length - (intOf i).toNat)
 case atStart=>exact ⟨0,0,none,0,rfl,Nat.zero_le _,rfl,Hgw6.out,i7.nil _ _ _,fun b hb=>(by cases hb),Mod.refl _ _⟩
 case round=>
  obtain ⟨j,n,oa,oc,rfl,hj,hn,hrow,hown,hfo,hmr⟩:=hrel;by_cases hlt:j<L.length
  ·have hlt':(j:Int)<L.length:=by omega
   obtain ⟨x,hxj⟩:∃x,L[j]? =some x:=⟨_,zz5 hlt⟩;obtain ⟨g,off,rfl,hf⟩:∃g off,ea=some ⟨g,off,none⟩/\e7 wr g (off+j*6) x.cells:=a6C (Hrd.out.mod hmr (fun b hb=>by have:=Hav.out b hb (by omega);omega)) hxj;have hnx:=a9q (fun a:Att=> !decide (a.name.data.toList∈N)) hxj;obtain ⟨acc,hacc⟩:∃q,Z0 N (L.take j)=q:=⟨_,rfl⟩;have hle:acc.length<=j:=by rw [<-hacc];exact Nat.le_trans (List.length_filter_le _ _) (List.length_take_le _ _)
   rw [hacc] at hn hown;obtain ⟨nx,hnx'⟩:∃q,Z0 N (L.take (j+1))=q:=⟨_,rfl⟩;have hnx0:nx=acc++(if (!decide (x.name.data.toList∈N))=true then [x] else []):=by rw [<-hnx',<-hacc];exact hnx
   have hn8:n<=1000:=by omega
   have hn8':(n:Int)<=1000:=by omega
   obtain ⟨wz,hwz,hmwz,hgwz,hzwz⟩:=e8 wr (.cells x.cells.toArray 70);have hlr:wb.heap.size<wr.heap.size:=(zz7 hrow).1;have hrowz:=hmwz.heap hrow (fun h=>h);have hownz:=hown.mod hmwz (fun _ _ h=>h);have hmz:Mod (fun k=>k=wb.heap.size) w6 wz:=hmr.trans hmwz (fun _ _ h=>h.elim);have hlz2:wr.heap.size<wz.heap.size:=by omega
   have x0:wz.cell? ⟨wr.heap.size,0,none⟩=some (.string x.name):=d6 hgwz rfl;have x1:wz.cell? ⟨wr.heap.size,1,none⟩=some (.int .i64 x.v.kind):=d6 hgwz rfl;have x2:wz.cell? ⟨wr.heap.size,2,none⟩=some (.int .i64 x.v.int):=d6 hgwz rfl;have x3:wz.cell? ⟨wr.heap.size,3,none⟩=some (.float .f64 x.v.num):=d6 hgwz rfl;have x4:wz.cell? ⟨wr.heap.size,4,none⟩=some (.string x.v.text):=d6 hgwz rfl;have x5:wz.cell? ⟨wr.heap.size,5,none⟩=some (.bool x.v.yes):=d6 hgwz rfl;have hct:=a4O wz nv N (Hnd.out.mod hmz (fun b hb=>by have:=Hnl.out b hb;omega)) HN.out x.name;obtain ⟨B,hB⟩:∃B,decide (x.name.data.toList∈N)=B:=⟨_,rfl⟩;rw [hB] at hct hnx0;obtain ⟨Hxj,Hf,Hwz,Hgwz,Hrowz,Hownz,Hmz,Hn,Hnx0,Hnx',Hfo,Hct⟩:=zh12 hxj hf hwz hgwz hrowz hownz hmz hn hnx0 hnx' hfo hct;clear hxj hf hwz hgwz hrowz hownz hmz hn hnx0 hnx' hfo hct hzwz hmwz hacc hrow hown hmr hnx hB hle
   go_wp2_with (first|((with_reducible refine d9 70 (.tmp 16) ?_);refine ⟨g,off+j*6,rfl,x.cells,Hf.out,by kernel_rfl,by kernel_rfl, ?_⟩)|((with_reducible refine d8 70 (.tmp 7) (.tmp 17) ?_);refine ⟨rfl,x.cells,rfl,rfl,by kernel_rfl,rfl, ?_⟩;rw [Hwz.out])|fail)
   refine Hct.out.mono ?_;rintro e w8 ⟨rfl,rfl⟩;clear Hct
   cases B with
   |true=>
    have hnx3:nx=acc:=by rw [Hnx0.out];exact zz11 _
    have hown4:=Hownz.out;rw [<-hnx3,<-Hnx'.out] at hown4;have hlen:n=(Z0 N (L.take (j+1))).length:=by rw [Hnx'.out,hnx3];exact Hn.out
    obtain ⟨Hown4,Hlen⟩:=zh2 hown4 hlen;clear hown4 hlen hnx3
    go_wp2_with fail
    go_roundw
    case rel=>exact ⟨j+1,n,oa,oc,by go_num,hlt,Hlen.out,Hrowz.out,Hown4.out,Hfo.out,Hmz.out⟩
    case measure=>simp [intOf];omega
   | false=>
    have hnx3:nx=acc++[x]:=Hnx0.out;obtain ⟨wT,hwT,hmwT,hgwT,hzwT⟩:=e8 w8 (.cells x.cells.toArray 70);have hwT':w8.alloc (.cells #[.string x.name,.int .i64 x.v.kind,.int .i64 x.v.int,.float .f64 x.v.num,.string x.v.text,.bool x.v.yes] 70)=wT:=hwT;have hrdT:j0 wT 6 (.slice (some ⟨w8.heap.size,0,none⟩) 1 1) 1 x.cells:=hwT▸j0.one w8 x.cells 70 rfl;have hone:∀u∈x.cells,u.oneCell'=true:=fun u hu=>zz15 (show x.cells.all (·.oneCell')=true from rfl) u hu;have hrowT:=hmwT.heap Hrowz.out (fun h=>h);have hownT:=Hownz.out.mod hmwT (fun _ _ h=>h);have hmT:Mod (fun k=>k=wb.heap.size) w6 wT:=Hmz.out.trans hmwT (fun _ _ h=>h.elim);have hlen:n+1=(Z0 N (L.take (j+1))).length:=by rw [Hnx'.out,hnx3,zz4,<-Hn.out];rfl
    have hatt:j7 acc++x.cells=j7 (Z0 N (L.take (j+1))):=by rw [Hnx'.out,hnx3,r9];simp [j7]
    have o1:w8.cell? ⟨wb.heap.size,1,none⟩=some (.slice oa n oc):=d6 Hrowz.out rfl;have hl3:wb.heap.size<w8.heap.size:=(zz7 Hrowz.out).1;have Hxg:=Hgwz;obtain ⟨HwT',HrdT,Hone,HrowT,HownT,HmT,Hlen,Hatt⟩:=zh8 hwT' hrdT hone hrowT hownT hmT hlen hatt;clear hwT' hrdT hone hrowT hownT hmT hlen hatt hwT hmwT hgwT hzwT hnx3 x0 x1 x2 x3 x4 x5
    go_wp2_with (first|((with_reducible refine d9 70 (.tmp 7) ?_);refine ⟨wr.heap.size,0,rfl,[.string x.name,.int .i64 x.v.kind,.int .i64 x.v.int,.float .f64 x.v.num,.string x.v.text,.bool x.v.yes],e7.row Hxg.out,by kernel_rfl,by kernel_rfl, ?_⟩)|(rw [show w8.alloc _=wT from HwT'.out])|((with_reducible refine j6 (.tmp 24) (.tmp 26) 44 ?_);refine ⟨rfl,70,6,64,a05,.slice oa n oc,n,j7 acc,rfl,HownT.out,_,1,x.cells,rfl,HrdT.out,Hone.out,by omega,by unfold maxLen;omega, ?_⟩;intro ad cap2 w4 hA;have hne4:¬j1 (.slice oa n oc) wb.heap.size:=(fun h=>by have:=Hfo.out _ h;omega);have hrow4:=hA.2.1.heap HrowT.out hne4;have f1:w4.frozen? ⟨wb.heap.size,1,none⟩=false:=L7 hrow4;have e1:w4.cell? ⟨wb.heap.size,1,none⟩=some (.slice oa n oc):=d6 hrow4 rfl;have HA:=Lib.hid hA;have Hrow4:=Lib.hid hrow4;have Hne4:=Lib.hid hne4;clear hA hrow4 hne4)|fail)
    have hfr5:∀b,(Value.slice ad (n+1) cap2).ownBlock=some b->w6.heap.size<=b:=fun b hb=>by
     rcases HA.out.2.2 with h|⟨k,h,hk⟩
     ·exact Hfo.out b (by rw [<-h];exact hb)
     rw [h] at hb;cases hb;have:=HmT.out.size;omega
    have hm4:Mod (fun k=>k=wb.heap.size) w6 w4:=HmT.out.upon HA.out.2.1 (fun b hb=> .inr (Hfo.out b hb));have hown4:=HA.out.1;rw [Hatt.out] at hown4;obtain ⟨Hfr5,Hm4,Hown4⟩:=zh3 hfr5 hm4 hown4;clear hfr5 hm4 hown4 HA
    go_roundw
    case rel=>
     refine ⟨j+1,n+1,ad,cap2,by go_num,hlt,Hlen.out,p7 Hrow4.out,Hown4.out.setCell (fun h=> ?_) _,Hfr5.out,Hm4.out.setCell (fun _=>rfl) _⟩;have:=Hfr5.out _ h;have h2:w6.heap.size<=wb.heap.size:=this;omega
    case measure=>simp [intOf];omega
  obtain rfl:j=L.length:=by omega
  rw [List.take_length] at hn hown;have hgr:=hmr.heap Hgb.out (by omega);have hm0r:Mod (fun _=>False) w wr:=Hm06.out.upon hmr (fun b hb=> .inr (by omega));obtain ⟨Hrow,Hown,Hn,Hgr,Hm0r,Hfo⟩:=zh6 hrow hown hn hgr hm0r hfo;clear hrow hown hn hgr hm0r hfo hmr
  go_wp2_with (first|((with_reducible refine d9 46 (.tmp 5) ?_);refine ⟨wb.heap.size,0,rfl,[.string es,.slice oa n oc],e7.row Hrow.out,by kernel_rfl,by kernel_rfl, ?_⟩)|((with_reducible refine j3 46 (.tmp 4) (.tmp 30) ?_);refine ⟨wa.heap.size,rfl,_,_,Hgr.out,[.string es,.slice oa n oc],rfl,rfl,by kernel_rfl,rfl, ?_⟩;intro w9 hg9 hm9;have Hg9:=Lib.hid hg9;have Hm9:=Lib.hid hm9;clear hg9 hm9)|fail)
  refine o3 rfl wa.heap.size rfl _ (e7.row Hg9.out) (by kernel_rfl) (by kernel_rfl) rfl ⟨.slice oa n oc,rfl, ?_, ?_, ?_⟩
  ·rw [<-Hn.out];exact Hown.out.mod Hm9.out (fun b hb=>by have:=Hfo.out b hb;have:=Hm06.out.size;omega)
  ·exact fun b hb=>by have:=Hfo.out b hb;have:=Hm06.out.size;omega
  exact Hm0r.out.upon Hm9.out (fun b hb=> .inr (by omega))
def a4j (l:List Ru) (tenant:Int) (who es:ByteArray) (L:List Att):List Att:=Z0 (a3L (K6 l tenant who es)) L
theorem a9r (w:World) (v:Value) (l:List Ru) (hv:K8 w v l) (hll:l.length<=1000000) (tenant:Int) (who es:ByteArray) (hs:es.size<=9223372036854775807) (ea:Option Addr) (ec:Nat) (L:List Att) (hL:j0 w 6 (.slice ea L.length ec) L.length (j7 L)) (hLl:L.length<=1000):
 Calls Tryz.prog 93 #[v,.int .i64 tenant,.string who,.agg #[.string es,.slice ea L.length ec]] w fun e w'=>∃av,e= .returned (.agg #[.string es,av])/\
  i7 w' 70 6 av (a4j l tenant who es L).length (j7 (a4j l tenant who es L))/\(∀b,av.ownBlock=some b->w.heap.size<=b)/\Mod (fun _=>False) w w':=by
 obtain ⟨a,cap,rfl,hcap⟩:∃a c,v= .slice a l.length c/\l.length<=c:=by obtain ⟨-,a,c,h,h2, -⟩:=hv.rd;exact ⟨a,c,h,h2⟩
 obtain ⟨wa,hwa,hmwa,hgwa,hzwa⟩:=e8 w (.cells #[.string es,.slice ea L.length ec] 46);obtain ⟨wb,hwb,hmwb,hgwb,hzwb⟩:=e8 wa (.cells #[.string ⟨#[]⟩,.slice none 0 0] 46);have hm0b:=(hmwa.trans hmwb (fun _ _ h=>h)).drew;have hga:=C9 (hmwb.heap hgwa (fun h=>h));have hgb:=C9 hgwb;have hz1:w.heap.size<wa.heap.size:=by omega
 have hz2:wa.heap.size<wb.heap.size:=by omega
 have hvd:=hv.mod hm0b;have hLd:=hL.mod hm0b (fun _ _ h=>h);have hhd:=a4i wb.drew (.slice a l.length cap) l hvd hll tenant who es hs;have hHl:(a3L (K6 l tenant who es)).length<=1000000:=Nat.le_trans (a5R _) (by unfold K6 W2;rw [zz10];exact Nat.le_trans (List.length_filter_le _ _) hll);obtain ⟨R,hR⟩:∃R,a4j l tenant who es L=R:=⟨_,rfl⟩;have hR2:Z0 (a3L (K6 l tenant who es)) L=R:=hR;obtain ⟨H,hH⟩:∃H,a3L (K6 l tenant who es)=H:=⟨_,rfl⟩;rw [hH] at hhd hHl hR2;obtain ⟨Hwa,Hwb,Hga,Hgb,Hm0b,HLd,Hhd,HLl,HHl,HR,HR2⟩:=zh11 hwa hwb hga hgb hm0b hLd hhd hLl hHl hR hR2;clear hwa hwb hga hgb hm0b hLd hhd hLl hHl hR hR2 hv hvd hmwa hmwb hgwa hgwb hzwa hzwb hll hcap hL hH hs
 go_enter Tryz.func93,Tryz.ntmps93
 go_wp2_with (first|(rw [show w.alloc _=wa from Hwa.out])|(rw [show wa.alloc _=wb from Hwb.out])|fail)
 have hS:(fun y:World=>y.cell? ⟨w.heap.size,0,none⟩=some (.string es)/\y.cell? ⟨w.heap.size,1,none⟩=some (.slice ea L.length ec)) wb.drew:=⟨d6 Hga.out rfl,d6 Hga.out rfl⟩;refine g8 [.rd 0,.rd 1,.rd 2,.rd 3,.rd 4,.rd 5,.go 6,.go 7,.go 8] [0,1,2,3,4,5,6] (fun y:World=>y.cell? ⟨w.heap.size,0,none⟩=some (.string es)/\y.cell? ⟨w.heap.size,1,none⟩=some (.slice ea L.length ec)) (by kernel_rfl) (by kernel_rfl) (fun _ _ d _ _ h=>(by cases d<;>exact h)) ?_
 iterate 6 (
  refine l5 rfl ?_ (fun _=>hS) ?_ (fun w0 h0=> ?_) (fun K hK=> ?_)
  ·(try simp only [zz1]);(try simp only [zz2]);(try simp only [zz3]);go_simp;done
  rotate_left
  ·(try simp only [zz1]);(try simp only [zz2]);(try simp only [zz3])
   first
    |(obtain ⟨h1,h2⟩:=h0 rfl;clear h0;go_simp;with_reducible rfl)
    |(clear h0;go_simp;with_reducible rfl)
  (try simp only [zz1]);(try simp only [zz2]);(try simp only [zz3])
  go_simp;refine hK _ ?_;clear hK K)
 refine g7 (g9 rfl ?_ (fun K hK=> ?_))
 ·(try simp only [zz1]);(try simp only [zz2]);(try simp only [zz3]);go_simp;done
 go_wp2_with fail
 refine Hhd.out.mono ?_;rintro e w1 ⟨hv1,rfl,hown1,hfr1,hm1⟩;have hz3:wb.heap.size<=w1.heap.size:=hm1.size;have hg1:=hm1.heap Hga.out (fun h=>h);have hgb1:=hm1.heap Hgb.out (fun h=>h);have hwo:=a7j w1 es ea ec L (HLd.out.mod hm1 (fun _ _ h=>h)) HLl.out hv1 H hown1 HHl.out;rw [HR2.out] at hwo;have hm01:=Hm0b.out.trans hm1 (fun _ _ h=>h);refine hK _ _ (fun _ _=>⟨d6 hg1 rfl,d6 hg1 rfl⟩) ?_;clear hK K hS;obtain ⟨Hwo,Hgb1,Hm01⟩:=zh3 hwo hgb1 hm01;clear hwo hgb1 hm01 hg1 hm1 hown1 hfr1 Hhd;refine g7 (g9 rfl ?_ (fun K hK=> ?_))
 ·(try simp only [zz1]);(try simp only [zz2]);(try simp only [zz3]);go_simp;done
 go_wp2_with fail
 refine Hwo.out.mono ?_;rintro e w2 ⟨av,rfl,hown2,hfr2,hm2⟩;have hgb2:=hm2.heap Hgb1.out (fun h=>h);have hm02:=Hm01.out.trans hm2 (fun _ _ h=>h);have hfr:∀b,av.ownBlock=some b->wb.heap.size<=b:=fun b hb=>by have:=hfr2 b hb;omega
 obtain ⟨oa,oc,rfl, -⟩:=hown2.shape;refine hK _ _ (fun h=>absurd h (by decide)) ?_;clear hK K;refine g7 (g9 rfl ?_ (fun K hK=> ?_))
 ·(try simp only [zz1]);(try simp only [zz2]);(try simp only [zz3]);go_simp;done
 (try simp only [zz1]);(try simp only [zz2]);(try simp only [zz3]);refine V6 46 (.tmp 8) (.tmp 16) rfl wa.heap.size rfl _ _ hgb2 [.string es,.slice oa R.length oc] rfl rfl (by kernel_rfl) (fun u hu=>zz15 rfl u hu) ?_;obtain ⟨w3,hw3⟩:∃q,w2.setRow wa.heap.size ([.string es,.slice oa R.length oc]:List Value).toArray=q:=⟨_,rfl⟩;have hg3:w3.heap[wa.heap.size]? =some (.cells ([.string es,.slice oa R.length oc]:List Value).toArray 46 (0,0)):=hw3▸setRow_heap w2 wa.heap.size _ _ _ (0,0) hgb2;have hm3:Mod (fun k=>k=wa.heap.size) w2 w3:=hw3▸(Mod.refl (fun k=>k=wa.heap.size) w2).setRow (fun _=>rfl) _;rw [hw3];refine hK _ _ (fun h=>absurd h (by decide)) ?_;clear hK K;refine j8 ?_;have hown3:=hown2.mod hm3 (fun b hb (e:b=wa.heap.size)=>by have:=hfr b hb;omega);have hm03:Mod (fun _=>False) w w3:=hm02.upon hm3 (fun b hb=> .inr (by omega));obtain ⟨Hg3,Hown3,Hm03,Hfr⟩:=zh4 hg3 hown3 hm03 hfr;clear hg3 hown3 hm03 hfr hw3 hgb2 hown2 hm02 hm3 hm2 hfr2
 go_wp2_with fail
 refine o3 rfl wa.heap.size rfl _ (e7.row Hg3.out) (by kernel_rfl) (by kernel_rfl) rfl ⟨_,rfl,by rw [HR.out];exact Hown3.out,fun b hb=>by have:=Hfr.out b hb;omega,Hm03.out⟩
theorem b1j:a3L []=[]:=by
 have h:=a5R [];exact List.eq_nil_of_length_eq_zero (Nat.le_zero.1 h)
end
end Go.Proofs.YtaenebdppkjhoaaGreatDoor
