/- Lemmas. -/
import Derived.Sort.Row
import Derived.Test.YtebhabpahfmodaaGreatDoorZh29
set_option maxHeartbeats 40000000
set_option maxRecDepth 20000
namespace Go.Proofs.YtebhabpahfmodaaGreatDoor
section
open Go.RowKit Go.Sort
def N9 (l:List (List UInt8)):List Value:=l.map encStr
theorem a2O (l:List (List UInt8)):(N9 l).length=l.length:=by simp [N9]
theorem a60 (l m:List (List UInt8)):N9 (l++m)=N9 l++N9 m:=by simp [N9]
theorem b4G {l:List (List UInt8)} {k:Nat} {x:List UInt8} (h:l[k]? =some x):(N9 l)[k]? =some (.string ⟨x.toArray⟩):=by simp [N9,h]
theorem b0G {w:World} {g n off:Nat} {os:Array Obj} {cur:Array Value} {e:TypeId} {fr:Nat×Nat} (d:Array (List UInt8)) (hb:w.heap[g]? =some (.cells cur e fr)):
 (grow (putRow encStr (Sort.ahead w n) g off d) os).heap[g]? =some (.cells (putCells encStr off d cur) e fr):=by
 have hg:g<w.heap.size:=(zz7 hb).1;rw [heap_grow_old _ _ (by simpa using hg)];simp [putRow,mapBlock,Sort.ahead,Array.getElem?_modify,hb,onCells]
theorem a8y {w:World} {g n off:Nat} {cur:Array Value} {e:TypeId} {fr:Nat×Nat} (d:Array (List UInt8)) (hb:w.heap[g]? =some (.cells cur e fr)):
 (putRow encStr (Sort.ahead w n) g off d).heap[g]? =some (.cells (putCells encStr off d cur) e fr):=by
 simp [putRow,mapBlock,Sort.ahead,Array.getElem?_modify,hb,onCells]
theorem b2C {w:World} {g n off:Nat} {os:Array Obj} (d:Array (List UInt8)):Mod (fun k=>k=g) w (grow (putRow encStr (Sort.ahead w n) g off d) os):=by
 refine ⟨rfl,rfl,rfl,by simp,fun k hk hne=> ?_⟩;rw [heap_grow_old _ _ (by simpa using hk)];have:g≠k:=fun e=>hne e.symm;simp [putRow,mapBlock,Sort.ahead,Array.getElem?_modify,this]
theorem b0H {w:World} {g n off:Nat} (d:Array (List UInt8)):Mod (fun k=>k=g) w (putRow encStr (Sort.ahead w n) g off d):=by
 refine ⟨rfl,rfl,rfl,by simp,fun k hk hne=> ?_⟩;have:g≠k:=fun e=>hne e.symm;simp [putRow,mapBlock,Sort.ahead,Array.getElem?_modify,this]
theorem a5a (cur:Array Value) (off:Nat) (ts us:List (List UInt8)) (h:off+(ts++us).length<=cur.size):((putCells encStr off (ts++us).toArray cur).toList.drop off).take ts.length=N9 ts:=by
 apply List.ext_getElem?;intro j;rw [zz4] at h;by_cases hj:j<ts.length
 ·rw [List.getElem?_take_of_lt hj,List.getElem?_drop,Array.getElem?_toList];have h1:j<ts.length+us.length:=zo
  simp [putCells,h1,hj,N9,show off+j<cur.size by omega,List.getElem!_eq_getElem?_getD]
 rw [List.getElem?_take_eq_none zo,List.getElem?_eq_none (by simp [N9];omega)]
theorem a5b {w:World} {g off:Nat} {cur:Array Value} {e:TypeId} (l:List (List UInt8)) (hg:w.heap[g]? =some (.cells cur e (0,0))) (ht:(cur.toList.drop off).take (l.length*1)=N9 l):Holds encStr w g off l.toArray:=fun j hj=>by
 have hj':j<l.length:=by simpa using hj
 have h1:(N9 l)[j]? =some (encStr l[j]):=by simp [N9,hj']
 rw [<-ht,List.getElem?_take_of_lt zo,List.getElem?_drop] at h1;refine ⟨?_,by simp [World.frozen?,hg]⟩;rw [cell_of_row w g (off+j) cur e (0,0) hg,<-Array.getElem?_toList,h1];simp [hj']
def a0B (l:List (List UInt8)):List (List UInt8):=l.mergeSort fun x y=>decide (x<=y)
theorem M0 (l:List (List UInt8)):(a0B l).length=l.length:=List.length_mergeSort l
theorem b2D (w:World) (v:Value) (l:List (List UInt8)) (h:j2 w 9 1 v l.length (N9 l)) (hl:l.length<4611686018427387904):
 Calls Tryz.prog 57 #[v] w fun e w'=>e= .returned (.tuple #[])/\j2 w' 9 1 v (a0B l).length (N9 (a0B l))/\Mod (l5 v) w w':=by
 rcases h.2 with ⟨rfl,h0⟩|⟨g,off,cap,cur,rfl,hg,hn,hc,hs,ht⟩
 ·obtain rfl:l=[]:=List.eq_nil_of_length_eq_zero h0;refine (Tryz.slices_Sort_string_none none 0 w).mono fun e w' h=> ?_;obtain ⟨rfl,rfl⟩:=h;have h1:a0B []=[]:=by simp [a0B]
  rw [h1];exact ⟨rfl,j2.nil _ _ _,Mod.refl _ _⟩
 have hgl:g<w.heap.size:=(zz7 hg).1;refine (Tryz.slices_Sort_string g off cap l w (a5b l hg ht) hgl hl).mono fun e w' h=> ?_;obtain ⟨rfl,n,os,rfl⟩:=h;have hsl:(l.mergeSort fun x y=>decide (x<=y))=a0B l:=rfl;rw [hsl];have hbl:off+(a0B l++[]).length<=cur.size:=by rw [zz11,M0];omega
 refine ⟨rfl,⟨by rw [a2O,Nat.mul_one],.inr ⟨g,off,cap,_,by rw [M0],b0G _ hg,by rw [M0];exact hn,hc,by simpa [putCells] using hs, ?_⟩⟩,(b2C _).mono (fun k _ hk=>by show some g=some k;rw [hk])⟩;have:=a5a cur off (a0B l) [] hbl;rw [zz11] at this;rw [Nat.mul_one];exact this
theorem a3e {α:Type} [DecidableEq α] [Inhabited α] (d:Array α):∀m,(Lib.compactUpTo d m).length<=m:=fun m=>by
 unfold Lib.compactUpTo;rw [zz10];exact Nat.le_trans (List.length_filter_le _ _) (by simp)
theorem a2P (l:List (List UInt8)):(Lib.compact l).length<=l.length:=a3e _ _
theorem a61 (w:World) (v:Value) (l:List (List UInt8)) (h:j2 w 9 1 v l.length (N9 l)) (hl:l.length<4611686018427387904):
 Calls Tryz.prog 58 #[v] w fun e w'=>∃v',e= .returned v'/\j2 w' 9 1 v' (Lib.compact l).length (N9 (Lib.compact l))/\Mod (l5 v) w w'/\∀k,l5 v' k->l5 v k:=by
 rcases h.2 with ⟨rfl,h0⟩|⟨g,off,cap,cur,rfl,hg,hn,hc,hs,ht⟩
 ·obtain rfl:l=[]:=List.eq_nil_of_length_eq_zero h0;refine (Tryz.slices_Compact_string_empty none 0 w).mono fun e w' h=> ?_;obtain ⟨rfl,rfl⟩:=h;have h1:Lib.compact ([]:List (List UInt8))=[]:=rfl;rw [h1];exact ⟨_,rfl,j2.nil _ _ _,Mod.refl _ _,fun _ h=>h⟩
 have hgl:g<w.heap.size:=(zz7 hg).1;refine (Tryz.slices_Compact_string g off cap l w (a5b l hg ht) zo zo).mono fun e w' h=> ?_;obtain ⟨rfl,q,rfl⟩:=h;have hle:=a2P l;have hbl:off+(Lib.compact l++List.replicate (l.length - (Lib.compact l).length) []).length<=cur.size:=by rw [zz4,List.length_replicate];omega
 refine ⟨_,rfl,⟨by rw [a2O,Nat.mul_one],.inr ⟨g,off,cap,_,rfl,a8y _ hg,zo,hc,by simpa [putCells] using hs, ?_⟩⟩,(b0H _).mono (fun k _ hk=>by show some g=some k;rw [hk]),fun k hk=>hk⟩;have:=a5a cur off (Lib.compact l) _ hbl;rw [Nat.mul_one];exact this
theorem a5L (w:World) (v:Value) (l:List (List UInt8)) (h:j3 w 1 v l.length (N9 l)) (hl:l.length<=1000000) (x:ByteArray):
 Calls Tryz.prog 148 #[v,.string x] w fun e w'=>e= .returned (.bool (decide (x.data.toList∈l)))/\w'=w:=by
 obtain ⟨-,a,c,rfl,hn,h0,hb⟩:=h
 cases l with
 |nil=>
  refine (Tryz.slices_Contains_string_empty a c x w).mono fun e w' h=> ?_;obtain ⟨rfl,rfl⟩:=h;exact ⟨rfl,rfl⟩
 | cons y l=>
  cases a with
  |none=>exact absurd (h0 rfl) (by simp)
  | some b=>
   obtain ⟨g,off,rfl,hc⟩:=hb b rfl (by simp);refine (Tryz.slices_Contains_string g off (y::l).length c ((y::l).map fun z=>(⟨z.toArray⟩:ByteArray)) x w (by simp) zo (fun j hj=> ?_)).mono fun e w' h=> ?_
   ·have hj':j<(y::l).length:=by simpa using hj
    have h1:=hc j _ (b4G (zz5 hj'));rw [h1,List.getD_eq_getElem?_getD,List.getElem?_map,zz5 hj'];rfl
   obtain ⟨rfl,rfl⟩:=h;refine ⟨?_,rfl⟩;congr 2;rw [Bool.eq_iff_iff,Lib.containsS_iff,decide_eq_true_eq,List.take_of_length_le (by simp),List.mem_map];constructor
   ·rintro ⟨z,hz,rfl⟩;exact hz
   exact fun h=>⟨_,h,rfl⟩
theorem a0f (d:Array (List UInt8)) (x:List UInt8):∀m,x∈Lib.compactUpTo d m↔∃j,j<m/\d[j]! =x
 |0=>by simp [Lib.compactUpTo]
 | m +1=>by
  rw [Lib.compactUpTo_succ,List.mem_append,a0f d x m];constructor
  ·rintro (⟨j,hj,h⟩|h)
   ·exact ⟨j,zo,h⟩
   split at h
   ·exact ⟨m,zo,(List.mem_singleton.1 h).symm⟩
   ·cases h
  rintro ⟨j,hj,h⟩;by_cases hjm:j<m
  ·exact .inl ⟨j,hjm,h⟩
  obtain rfl:j=m:=zo
  cases hk:Lib.keeps d j
  ·simp only [Lib.keeps,decide_eq_false_iff_not,not_or,Classical.not_not] at hk;exact .inl ⟨j - 1,zo,hk.2▸h⟩
  exact .inr (by simp [h])
theorem a62 {l:List (List UInt8)} {x:List UInt8}:x∈Lib.compact l↔x∈l:=by
 unfold Lib.compact;rw [a0f,List.mem_iff_getElem];constructor
 ·rintro ⟨j,hj,h⟩;exact ⟨j,hj,by simpa [hj] using h⟩
 rintro ⟨j,hj,h⟩;exact ⟨j,hj,by simpa [hj] using h⟩
def a2s (l:List (List UInt8)):List (List UInt8):=Lib.compact (a0B l)
theorem b2E {l:List (List UInt8)} {x:List UInt8}:x∈a2s l↔x∈l:=by
 unfold a2s a0B;rw [a62,List.mem_mergeSort]
theorem a65 (l:List (List UInt8)):(a2s l).length<=l.length:=Nat.le_trans (a2P _) (by rw [M0];exact Nat.le_refl _)
end
open Go.RowKit
theorem b5Y:E7 Tryz.prog 77 9 1 16:=O8 zk zk
def Ru.hides (r:Ru) (tenant:Int) (who s:ByteArray):Bool:=r.of 3 tenant who&&m8 s r.sc
def W3 (l:List Ru):List (List UInt8):=l.map fun r=>r.name.data.toList
def M1 (l:List Ru) (tenant:Int) (who s:ByteArray):List (List UInt8):=W3 (l.filter fun r=>r.hides tenant who s)
theorem a4I (l m:List Ru):W3 (l++m)=W3 l++W3 m:=by unfold W3;simp
theorem a5c (w:World) (v:Value) (l:List Ru) (hv:I9 w v l) (hll:l.length<=1000000) (tenant:Int) (who s:ByteArray) (hs:s.size<=9223372036854775807):
 Calls Tryz.prog 23 #[v,.int .i64 tenant,.string who,.string s] w fun e w'=>∃ov,e= .returned ov/\j2 w' 9 1 ov (a2s (M1 l tenant who s)).length (N9 (a2s (M1 l tenant who s)))/\(∀b,ov.ownBlock=some b->w.heap.size<=b)/\Mod (fun _=>False) w w':=by
 obtain ⟨a,cap,rfl,hcap⟩:∃a c,v= .slice a l.length c/\l.length<=c:=by obtain ⟨-,a,c,h,h2, -⟩:=hv.rd;exact ⟨a,c,h,h2⟩
 have bN:(l.length:Int)<=1000000:=zo
 have bf:(l.length:Int)<=cap:=zo
 obtain ⟨Hv,Hs,Jo⟩:=zh3 hv hs hll;clear hv hs hll
 go_enter Tryz.func23,Tryz.ntmps23
 go_wp2_with fail
 go_loopw [9,14] (fun ov i wr=>∃j:Nat,i= .int .i64 j/\j<=l.length/\j2 wr 9 1 ov (M1 (l.take j) tenant who s).length (N9 (M1 (l.take j) tenant who s))/\(∀b,ov.ownBlock=some b->w.heap.size<=b)/\Mod (fun _=>False) w wr) (fun _ i _=>l.length - (intOf i).toNat)
 case atStart=>exact ⟨0,rfl,Nat.zero_le _,j2.nil _ _ _,fun b hb=>(by cases hb),Mod.refl _ _⟩
 case round=>
  obtain ⟨j,rfl,hj,hown,hfr,hmr⟩:=hrel;by_cases hlt:j<l.length
  ·have hlt':(j:Int)<l.length:=zo
   obtain ⟨x,hxj⟩:∃x,l[j]? =some x:=⟨_,zz5 hlt⟩;have hxm:=zz8 hxj;obtain ⟨g,off,rfl,hf⟩:∃g off,a=some ⟨g,off,none⟩/\e9 wr g (off+j*8) x.cells:=F1 (Hv.out.mod hmr) hxj
   have hnx:M1 (l.take (j+1)) tenant who s=M1 (l.take j) tenant who s++(if x.hides tenant who s=true then [x.name.data.toList] else []):=by
    unfold M1;rw [a2J (fun r:Ru=>r.hides tenant who s) hxj,a4I];split<;>rfl
   have hle:(M1 (l.take j) tenant who s).length<=j:=by unfold M1 W3;rw [zz10];exact Nat.le_trans (List.length_filter_le _ _) (List.length_take_le _ _)
   obtain ⟨acc,hacc⟩:∃q,M1 (l.take j) tenant who s=q:=⟨_,rfl⟩;rw [hacc] at hown hnx hle;obtain ⟨nx,cz⟩:∃q,M1 (l.take (j+1)) tenant who s=q:=⟨_,rfl⟩;rw [cz] at hnx;obtain ⟨oa,oc,rfl, -⟩:=hown.shape;obtain ⟨wz,hwz,ai,aj,aJ⟩:=g8 wr (.cells x.cells.toArray 28);have hmz:=hmr.trans ai zi;have hun:=a14 s x.sc Hs.out (Hv.out.ok x hxm).sc;have gu:=hown.mod ai zi;have c0:wz.cell? ⟨wr.heap.size,0,none⟩=some (.int .i64 x.kind):=d6 aj rfl;have c1:wz.cell? ⟨wr.heap.size,1,none⟩=some (.int .i64 x.tenant):=d6 aj rfl;have c2:wz.cell? ⟨wr.heap.size,2,none⟩=some (.string x.who):=d6 aj rfl;have c3:wz.cell? ⟨wr.heap.size,3,none⟩=some (.int .i64 x.broker):=d6 aj rfl;have c4:wz.cell? ⟨wr.heap.size,4,none⟩=some (.string x.sc):=d6 aj rfl;have c5:wz.cell? ⟨wr.heap.size,5,none⟩=some (.slice x.ca x.cs.length x.cc):=d6 aj rfl;have c6:wz.cell? ⟨wr.heap.size,6,none⟩=some (.string x.name):=d6 aj rfl;have hst:nx=acc++(if (x.of 3 tenant who&&m8 s x.sc)=true then [x.name.data.toList] else []):=hnx;obtain ⟨B,hB⟩:∃B,m8 s x.sc=B:=⟨_,rfl⟩;have Jp:Calls Tryz.prog 56 #[.string s,.string x.sc] wz fun e w'=>e= .returned (.bool B)/\w'=wz:=hB▸hun wz;rw [hB] at hst;obtain ⟨cB,fH,Hf,bi,bG,fu,bB,eD,bT,Cw⟩:=zh10 hxj hxm hf hwz hmz gu hfr hst cz Jp;clear hxj hxm hf hwz hmz gu hfr hst cz Jp aJ ai hown hmr hacc aj hun hB hnx;have same:nx=acc->j2 wz 9 1 (.slice oa acc.length oc) (M1 (l.take (j+1)) tenant who s).length (N9 (M1 (l.take (j+1)) tenant who s)):=fun h=>by rw [bT.out,h];exact fu.out
   have nR:=zh same;clear same;refine a1u x 3 tenant who (fun h1 h4=> ?_) (fun h1 h2 h4=> ?_) (fun h1 h2 h3 h4=> ?_) (fun h1 h2 h3 h4=> ?_)
   iterate 3 (
    have hq:nx=acc:=by rw [eD.out,h4];exact zz11 _
    have Hq:=Lib.hid (nR.out hq);clear h4 hq Cw
    go_wp2_with (first|((with_reducible refine d8 28 (.tmp 16) ?_);refine ⟨g,off+j*8,rfl,x.cells,Hf.out,zk,zk, ?_⟩)|((with_reducible refine d9 28 (.tmp 11) (.tmp 17) ?_);refine ⟨rfl,x.cells,rfl,rfl,zk,rfl, ?_⟩;rw [bi.out]))
    go_roundw
    case rel=>exact ⟨j+1,by go_num,hlt,Hq.out,bB.out,bG.out⟩
    case measure=>simp [intOf];omega)
   have eD:=Lib.hid (show nx=acc++(if B=true then [x.name.data.toList] else []) from by have:=eD.out;rw [h4] at this;exact this);clear h4
   go_wp2_with (first|((with_reducible refine d8 28 (.tmp 16) ?_);refine ⟨g,off+j*8,rfl,x.cells,Hf.out,zk,zk, ?_⟩)|((with_reducible refine d9 28 (.tmp 11) (.tmp 17) ?_);refine ⟨rfl,x.cells,rfl,rfl,zk,rfl, ?_⟩;rw [bi.out]))
   refine Cw.out.mono ?_;rintro e w8 ⟨rfl,rfl⟩;clear Cw
   cases B with
   |false=>
    have hq:nx=acc:=by rw [eD.out];exact zz11 _
    have Hq:=Lib.hid (nR.out hq);clear hq
    go_wp2_with fail
    go_roundw
    case rel=>exact ⟨j+1,by go_num,hlt,Hq.out,bB.out,bG.out⟩
    case measure=>simp [intOf];omega
   | true=>
    have hnx2:nx=acc++[x.name.data.toList]:=eD.out;obtain ⟨wS,gP,bX,iE,iF⟩:=g8 w8 (.cells #[.string x.name] 9);have hrd:j3 wS 1 (.slice (some ⟨w8.heap.size,0,none⟩) 1 1) 1 [.string x.name]:=gP▸j3.one w8 [.string x.name] 9 rfl;have hownS:=fu.out.mod bX zi;have kW:=bG.out.trans bX zi;have hone:∀u∈[Value.string x.name],u.oneCell'=true:=fun u hu=>by rw [List.mem_singleton.1 hu];rfl
    have hlen:acc.length+1=(M1 (l.take (j+1)) tenant who s).length:=by rw [bT.out,hnx2];simp
    have zC:N9 acc++[.string x.name]=N9 (M1 (l.take (j+1)) tenant who s):=by rw [bT.out,hnx2,a60];rfl
    obtain ⟨iq,WK,gz,kX,aX,Hlen,Jq⟩:=zh7 hrd gP hownS kW hone hlen zC;clear hrd gP hownS kW hone hlen zC bX iE iF hnx2 eD nR
    go_wp2_with (first|(rw [show w8.alloc _=wS from WK.out])|((with_reducible refine l0 (.tmp 40) (.tmp 43) 77 ?_);refine ⟨rfl,9,1,16,b5Y,.slice oa acc.length oc,acc.length,N9 acc,rfl,gz.out,_,1,[.string x.name],rfl,iq.out,aX.out,zo,by unfold maxLen;omega, ?_⟩;intro ad cap2 w4 hA;have HA:=Lib.hid hA;clear hA))
    have hown5:=HA.out.1;rw [Jq.out] at hown5
    have df:∀b,(Value.slice ad (acc.length+1) cap2).ownBlock=some b->w.heap.size<=b:=fun b hb=>by
     rcases HA.out.2.2 with h|⟨k,h,hk⟩
     ·exact bB.out b (by rw [<-h];exact hb)
     rw [h] at hb;cases hb;have:=kX.out.size;omega
    have bH:Mod (fun _=>False) w w4:=kX.out.upon HA.out.2.1 (fun b hb=> .inr (bB.out b hb));obtain ⟨fo,dD,bO⟩:=zh3 hown5 df bH;clear hown5 df bH HA
    go_roundw
    case rel=>exact ⟨j+1,by go_num,hlt,by rw [<-Hlen.out];exact fo.out,dD.out,bO.out⟩
    case measure=>simp [intOf];omega
  obtain rfl:j=l.length:=zo
  rw [List.take_length] at hown;have zD:(M1 l tenant who s).length<=l.length:=by unfold M1 W3;rw [zz10];exact List.length_filter_le _ _
  obtain ⟨H,hH⟩:∃H,M1 l tenant who s=H:=⟨_,rfl⟩;rw [hH] at hown zD;obtain ⟨oa,oc,rfl, -⟩:=hown.shape;have hso:=b2D wr _ H hown (by have:=Jo.out;omega);have QU:H.length<=1000000:=by have:=Jo.out;omega
  obtain ⟨oK,bB,aK,HHm,HH⟩:=zh5 hso hfr hmr QU hH;clear hso hfr hmr QU hH hown zD
  go_wp2_with fail
  refine oK.out.mono ?_;rintro e w1 ⟨rfl,hown1,hm1⟩;have bE:Mod (fun _=>False) w w1:=aK.out.upon hm1 (fun b hb=> .inr (bB.out b hb));have hsl:(a0B H).length<4611686018427387904:=by rw [M0];have:=HHm.out;omega
  have hco:=a61 w1 _ _ hown1 hsl;obtain ⟨bF,EX⟩:=zh2 bE hco;clear bE hco hm1 hown1 oK aK hsl
  go_wp2_with fail
  refine EX.out.mono ?_;rintro e w2 ⟨v2,rfl,hown2,hm2,hb2⟩;have aG:Mod (fun _=>False) w w2:=bF.out.upon hm2 (fun b hb=> .inr (bB.out b hb));obtain ⟨aI,rG,Hb2⟩:=zh3 aG hown2 hb2;clear aG hown2 hb2 hm2 EX bF
  go_wp2
  go_ret;have hown3:j2 w2 9 1 v2 (a2s (M1 l tenant who s)).length (N9 (a2s (M1 l tenant who s))):=by rw [HH.out];exact rG.out
  exact ⟨_,rfl,hown3,fun b hb=>bB.out b (Hb2.out b hb),aI.out⟩
theorem a8z:(match Tryz.prog.underlying 112 with|some (.struct _)=>true|some (.array _ _)=>true|_=>false)=true:=zk
theorem b2F:(Tryz.prog.info? 112).map (·.size)=some 6:=zk
@[go_sem ↓] theorem b4H {ρ:Operand->Value} {dst:Option Tmp} {x:Operand} {type:TypeId} {pos:String} {after:Array Edge} {guard:Option (Nat×Bool)} {w:World} (h:a6e w (ρ x) 6):
 Sem.run Tryz.prog (execOp ρ ⟨dst,.load 112 x,type,pos,after,guard⟩) w= .ok (.value (.agg (a0l w (ρ x) 6))) w:=I6 a8z b2F h
theorem a5d {α:Type} (p:α->Bool) {l:List α} {j:Nat} {x:α} (h:l[j]? =some x):(l.take (j+1)).filter p=(l.take j).filter p++(if p x=true then [x] else []):=by
 rw [List.take_add_one,h,List.filter_append];cases hp:p x<;>simp [hp]
def T9 (N:List (List UInt8)) (l:List Att):List Att:=l.filter fun a=> !decide (a.name.data.toList∈N)
theorem a8A (w:World) (es:ByteArray) (ea:Option Addr) (ec:Nat) (L:List Att) (hv:j3 w 6 (.slice ea L.length ec) L.length (k7 L)) (hll:L.length<=1000) (nv:Value) (N:List (List UInt8)) (hn:j2 w 9 1 nv N.length (N9 N)) (hN:N.length<=1000000):
 Calls Tryz.prog 102 #[.agg #[.string es,.slice ea L.length ec],nv] w fun e w'=>∃av,e= .returned (.agg #[.string es,av])/\j2 w' 112 6 av (T9 N L).length (k7 (T9 N L))/\
  (∀b,av.ownBlock=some b->w.heap.size<=b)/\Mod (fun _=>False) w w':=by
 obtain ⟨wa,aD,ah,ae,au⟩:=g8 w (.cells #[.string es,.slice ea L.length ec] 31);obtain ⟨wb,hwb,ay,ak,aO⟩:=g8 wa (.cells #[.string ⟨#[]⟩,.slice none 0 0] 31);obtain ⟨w6,jc,bL,dR,jd⟩:=g8 wb (.cells #[.string es,.slice none 0 0] 31);have dm:=ah.trans (ay.trans bL zi) zi;have hga:=(ay.trans bL zi).heap ae id;have hgb:=bL.heap ak id;have hrd:=hv.mod dm zi;have hnd:=hn.rd.mod dm zi;have hnl:=hn.lt;have rY:=ay.heap ae id;have c0:wb.cell? ⟨w.heap.size,0,none⟩=some (.string es):=d6 rY rfl;have c1:w6.cell? ⟨w.heap.size,1,none⟩=some (.slice ea L.length ec):=d6 hga rfl
 have kg:∀b,(Value.slice ea L.length ec).ownBlock=some b->0<L.length->b<w.heap.size:=fun b hb h0=>by
  obtain ⟨-,a',c',h1, -, -,h4⟩:=hv;cases h1
  cases ea with
  |none=>cases hb
  |some q=>
   obtain ⟨g,off,rfl,h5⟩:=h4 q rfl h0;have h9:0<(k7 L).length:=by rw [B0];omega
   have h6:(k7 L)[0]? =some (k7 L)[0]:=zz5 h9;have h7:=World.block_lt_of_cell? w _ (h5 0 _ h6);have h8:some g=some b:=hb;cases h8
   exact h7
 have hz1:w.heap.size<wa.heap.size:=zo
 have hz2:wa.heap.size<wb.heap.size:=zo
 have hz3:wb.heap.size<w6.heap.size:=zo
 have kN:(L.length:Int)<=1000:=zo
 obtain ⟨aF,bD,oQ,dA,qM,mf,iq,Hnd,Hnl,Fy,kP,Hv⟩:=zh12 aD hwb jc dm hga hgb hrd hnd hnl kg dR hv;obtain ⟨Hn,HN⟩:=zh2 hn hN;clear aD hwb jc dm hga hgb hrd hnd hnl kg dR hv hn hN ah ay bL ae ak au aO jd rY
 go_enter Tryz.func102,Tryz.ntmps102
 go_wp2_with (first|(rw [show w.alloc _=wa from aF.out])|(rw [show wa.alloc _=wb from bD.out])|((with_reducible refine d9 31 (.tmp 5) (.tmp 10) ?_);refine ⟨rfl,[.string es,.slice none 0 0],rfl,rfl,zk,rfl, ?_⟩;rw [oQ.out]))
 clear c0 c1
 go_loopw [14] (fun i wr=>∃(j n:Nat) (oa:Option Addr) (oc:Nat),i= .int .i64 j/\j<=L.length/\n=(T9 N (L.take j)).length/\wr.heap[wb.heap.size]? =some (.cells #[.string es,.slice oa n oc] 31 (0,0))/\
  j2 wr 112 6 (.slice oa n oc) n (k7 (T9 N (L.take j)))/\(∀b,(Value.slice oa n oc).ownBlock=some b->w6.heap.size<=b)/\Mod (fun k=>k=wb.heap.size) w6 wr) (fun i _=>L.length - (intOf i).toNat)
 case atStart=>exact ⟨0,0,none,0,rfl,Nat.zero_le _,rfl,kP.out,j2.nil _ _ _,fun b hb=>(by cases hb),Mod.refl _ _⟩
 case round=>
  obtain ⟨j,n,oa,oc,rfl,hj,hn,hrow,hown,hfo,hmr⟩:=hrel;by_cases hlt:j<L.length
  ·have hlt':(j:Int)<L.length:=zo
   obtain ⟨x,hxj⟩:∃x,L[j]? =some x:=⟨_,zz5 hlt⟩;obtain ⟨g,off,rfl,hf⟩:∃g off,ea=some ⟨g,off,none⟩/\e9 wr g (off+j*6) x.cells:=a3y (iq.out.mod hmr (fun b hb=>by have:=Fy.out b hb zo;omega)) hxj;have hnx:=a5d (fun a:Att=> !decide (a.name.data.toList∈N)) hxj;obtain ⟨acc,hacc⟩:∃q,T9 N (L.take j)=q:=⟨_,rfl⟩;have hle:acc.length<=j:=by rw [<-hacc];exact Nat.le_trans (List.length_filter_le _ _) (List.length_take_le _ _)
   rw [hacc] at hn hown;obtain ⟨nx,cz⟩:∃q,T9 N (L.take (j+1))=q:=⟨_,rfl⟩;have Cx:nx=acc++(if (!decide (x.name.data.toList∈N))=true then [x] else []):=by rw [<-cz,<-hacc];exact hnx
   have Ce:n<=1000:=zo
   have QV:(n:Int)<=1000:=zo
   obtain ⟨wz,hwz,ai,aj,aJ⟩:=g8 wr (.cells x.cells.toArray 112);have hlr:wb.heap.size<wr.heap.size:=(zz7 hrow).1;have iD:=ai.heap hrow id;have gu:=hown.mod ai zi;have hmz:Mod (fun k=>k=wb.heap.size) w6 wz:=hmr.trans ai (fun _ _ h=>h.elim);have QA:wr.heap.size<wz.heap.size:=zo
   have x0:wz.cell? ⟨wr.heap.size,0,none⟩=some (.string x.name):=d6 aj rfl;have x1:wz.cell? ⟨wr.heap.size,1,none⟩=some (.int .i64 x.v.kind):=d6 aj rfl;have x2:wz.cell? ⟨wr.heap.size,2,none⟩=some (.int .i64 x.v.int):=d6 aj rfl;have x3:wz.cell? ⟨wr.heap.size,3,none⟩=some (.float .f64 x.v.num):=d6 aj rfl;have x4:wz.cell? ⟨wr.heap.size,4,none⟩=some (.string x.v.text):=d6 aj rfl;have x5:wz.cell? ⟨wr.heap.size,5,none⟩=some (.bool x.v.yes):=d6 aj rfl;have hct:=a5L wz nv N (Hnd.out.mod hmz (fun b hb=>by have:=Hnl.out b hb;omega)) HN.out x.name;obtain ⟨B,hB⟩:∃B,decide (x.name.data.toList∈N)=B:=⟨_,rfl⟩;rw [hB] at hct Cx;obtain ⟨cB,Hf,bi,aN,gy,fu,bG,Hn,Jr,bT,fD,uM⟩:=zh12 hxj hf hwz aj iD gu hmz hn Cx cz hfo hct;clear hxj hf hwz aj iD gu hmz hn Cx cz hfo hct aJ ai hacc hrow hown hmr hnx hB hle
   go_wp2_with (first|((with_reducible refine d8 112 (.tmp 16) ?_);refine ⟨g,off+j*6,rfl,x.cells,Hf.out,zk,zk, ?_⟩)|((with_reducible refine d9 112 (.tmp 7) (.tmp 17) ?_);refine ⟨rfl,x.cells,rfl,rfl,zk,rfl, ?_⟩;rw [bi.out]))
   refine uM.out.mono ?_;rintro e w8 ⟨rfl,rfl⟩;clear uM
   cases B with
   |true=>
    have bR:nx=acc:=by rw [Jr.out];exact zz11 _
    have aQ:=fu.out;rw [<-bR,<-bT.out] at aQ;have hlen:n=(T9 N (L.take (j+1))).length:=by rw [bT.out,bR];exact Hn.out
    obtain ⟨bY,Hlen⟩:=zh2 aQ hlen;clear aQ hlen bR
    go_wp2_with fail
    go_roundw
    case rel=>exact ⟨j+1,n,oa,oc,by go_num,hlt,Hlen.out,gy.out,bY.out,fD.out,bG.out⟩
    case measure=>simp [intOf];omega
   | false=>
    have bR:nx=acc++[x]:=Jr.out;obtain ⟨wT,hwT,bC,eQ,eT⟩:=g8 w8 (.cells x.cells.toArray 112);have dK:w8.alloc (.cells #[.string x.name,.int .i64 x.v.kind,.int .i64 x.v.int,.float .f64 x.v.num,.string x.v.text,.bool x.v.yes] 112)=wT:=hwT;have bP:j3 wT 6 (.slice (some ⟨w8.heap.size,0,none⟩) 1 1) 1 x.cells:=hwT▸j3.one w8 x.cells 112 rfl;have hone:∀u∈x.cells,u.oneCell'=true:=fun u hu=>zz15 (show x.cells.all (·.oneCell')=true from rfl) u hu;have gB:=bC.heap gy.out id;have dz:=fu.out.mod bC zi;have xm:Mod (fun k=>k=wb.heap.size) w6 wT:=bG.out.trans bC (fun _ _ h=>h.elim);have hlen:n+1=(T9 N (L.take (j+1))).length:=by rw [bT.out,bR,zz4,<-Hn.out];rfl
    have kR:k7 acc++x.cells=k7 (T9 N (L.take (j+1))):=by rw [bT.out,bR,r7];simp [k7]
    have o1:w8.cell? ⟨wb.heap.size,1,none⟩=some (.slice oa n oc):=d6 gy.out rfl;have hl3:wb.heap.size<w8.heap.size:=(zz7 gy.out).1;have Hxg:=aN;obtain ⟨wX,kK,aX,rE,nM,IY,Hlen,rF⟩:=zh8 dK bP hone gB dz xm hlen kR;clear dK bP hone gB dz xm hlen kR hwT bC eQ eT bR x0 x1 x2 x3 x4 x5
    go_wp2_with (first|((with_reducible refine d8 112 (.tmp 7) ?_);refine ⟨wr.heap.size,0,rfl,[.string x.name,.int .i64 x.v.kind,.int .i64 x.v.int,.float .f64 x.v.num,.string x.v.text,.bool x.v.yes],e9.row Hxg.out,zk,zk, ?_⟩)|(rw [show w8.alloc _=wT from wX.out])|((with_reducible refine l0 (.tmp 24) (.tmp 26) 29 ?_);refine ⟨rfl,112,6,64,a0R,.slice oa n oc,n,k7 acc,rfl,nM.out,_,1,x.cells,rfl,kK.out,aX.out,zo,by unfold maxLen;omega, ?_⟩;intro ad cap2 w4 hA;have iG:¬l5 (.slice oa n oc) wb.heap.size:=(fun h=>by have:=fD.out _ h;omega);have hrow4:=hA.2.1.heap rE.out iG;have f1:w4.frozen? ⟨wb.heap.size,1,none⟩=false:=J1 hrow4;have e1:w4.cell? ⟨wb.heap.size,1,none⟩=some (.slice oa n oc):=d6 hrow4 rfl;have HA:=Lib.hid hA;have iw:=Lib.hid hrow4;have QD:=Lib.hid iG;clear hA hrow4 iG))
    have df:∀b,(Value.slice ad (n+1) cap2).ownBlock=some b->w6.heap.size<=b:=fun b hb=>by
     rcases HA.out.2.2 with h|⟨k,h,hk⟩
     ·exact fD.out b (by rw [<-h];exact hb)
     rw [h] at hb;cases hb;have:=IY.out.size;omega
    have aR:Mod (fun k=>k=wb.heap.size) w6 w4:=IY.out.upon HA.out.2.1 (fun b hb=> .inr (fD.out b hb));have aQ:=HA.out.1;rw [rF.out] at aQ;obtain ⟨dD,dN,bY⟩:=zh3 df aR aQ;clear df aR aQ HA
    go_roundw
    case rel=>
     refine ⟨j+1,n+1,ad,cap2,by go_num,hlt,Hlen.out,o6 iw.out,bY.out.setCell (fun h=> ?_) _,dD.out,dN.out.setCell (fun _=>rfl) _⟩;have:=dD.out _ h;have h2:w6.heap.size<=wb.heap.size:=this;omega
    case measure=>simp [intOf];omega
  obtain rfl:j=L.length:=zo
  rw [List.take_length] at hn hown;have hgr:=hmr.heap mf.out zo;have aU:Mod (fun _=>False) w wr:=dA.out.upon hmr (fun b hb=> .inr zo);obtain ⟨iH,aZ,Hn,nL,dw,fD⟩:=zh6 hrow hown hn hgr aU hfo;clear hrow hown hn hgr aU hfo hmr
  go_wp2_with (first|((with_reducible refine d8 31 (.tmp 5) ?_);refine ⟨wb.heap.size,0,rfl,[.string es,.slice oa n oc],e9.row iH.out,zk,zk, ?_⟩)|((with_reducible refine j9 31 (.tmp 4) (.tmp 30) ?_);refine ⟨wa.heap.size,rfl,_,_,nL.out,[.string es,.slice oa n oc],rfl,rfl,zk,rfl, ?_⟩;intro w9 jr ko;have lN:=Lib.hid jr;have xn:=Lib.hid ko;clear jr ko))
  refine o7 rfl wa.heap.size rfl _ (e9.row lN.out) zk zk rfl ⟨.slice oa n oc,rfl, ?_, ?_, ?_⟩
  ·rw [<-Hn.out];exact aZ.out.mod xn.out (fun b hb=>by have:=fD.out b hb;have:=dA.out.size;omega)
  ·exact fun b hb=>by have:=fD.out b hb;have:=dA.out.size;omega
  exact dw.out.upon xn.out (fun b hb=> .inr zo)
def I4 (l:List Ru) (tenant:Int) (who es:ByteArray) (L:List Att):List Att:=T9 (a2s (M1 l tenant who es)) L
theorem b0I (w:World) (v:Value) (l:List Ru) (hv:I9 w v l) (hll:l.length<=1000000) (tenant:Int) (who es:ByteArray) (hs:es.size<=9223372036854775807) (ea:Option Addr) (ec:Nat) (L:List Att) (hL:j3 w 6 (.slice ea L.length ec) L.length (k7 L)) (kN:L.length<=1000):
 Calls Tryz.prog 67 #[v,.int .i64 tenant,.string who,.agg #[.string es,.slice ea L.length ec]] w fun e w'=>∃av,e= .returned (.agg #[.string es,av])/\
  j2 w' 112 6 av (I4 l tenant who es L).length (k7 (I4 l tenant who es L))/\(∀b,av.ownBlock=some b->w.heap.size<=b)/\Mod (fun _=>False) w w':=by
 obtain ⟨a,cap,rfl,hcap⟩:∃a c,v= .slice a l.length c/\l.length<=c:=by obtain ⟨-,a,c,h,h2, -⟩:=hv.rd;exact ⟨a,c,h,h2⟩
 obtain ⟨wa,aD,ah,ae,au⟩:=g8 w (.cells #[.string es,.slice ea L.length ec] 31);obtain ⟨wb,hwb,ay,ak,aO⟩:=g8 wa (.cells #[.string ⟨#[]⟩,.slice none 0 0] 31);have xC:=(ah.trans ay zi).drew;have hga:=B4 (ay.heap ae id);have hgb:=B4 ak;have hz1:w.heap.size<wa.heap.size:=zo
 have hz2:wa.heap.size<wb.heap.size:=zo
 have hvd:=hv.mod xC;have WL:=hL.mod xC zi;have hhd:=a5c wb.drew (.slice a l.length cap) l hvd hll tenant who es hs;have zD:(a2s (M1 l tenant who es)).length<=1000000:=Nat.le_trans (a65 _) (by unfold M1 W3;rw [zz10];exact Nat.le_trans (List.length_filter_le _ _) hll);obtain ⟨R,hR⟩:∃R,I4 l tenant who es L=R:=⟨_,rfl⟩;have hR2:T9 (a2s (M1 l tenant who es)) L=R:=hR;obtain ⟨H,hH⟩:∃H,a2s (M1 l tenant who es)=H:=⟨_,rfl⟩;rw [hH] at hhd zD hR2;obtain ⟨aF,bD,qM,mf,QX,HLd,WN,NP,HHl,HR,HR2⟩:=zh11 aD hwb hga hgb xC WL hhd kN zD hR hR2;clear aD hwb hga hgb xC WL hhd kN zD hR hR2 hv hvd ah ay ae ak au aO hll hcap hL hH hs
 go_enter Tryz.func67,Tryz.ntmps67
 go_wp2_with (first|(rw [show w.alloc _=wa from aF.out])|(rw [show wa.alloc _=wb from bD.out]))
 have hS:(fun y:World=>y.cell? ⟨w.heap.size,0,none⟩=some (.string es)/\y.cell? ⟨w.heap.size,1,none⟩=some (.slice ea L.length ec)) wb.drew:=⟨d6 qM.out rfl,d6 qM.out rfl⟩;refine i8 [.rd 0,.rd 1,.rd 2,.rd 3,.rd 4,.rd 5,.go 6,.go 7,.go 8] [0,1,2,3,4,5,6] (fun y:World=>y.cell? ⟨w.heap.size,0,none⟩=some (.string es)/\y.cell? ⟨w.heap.size,1,none⟩=some (.slice ea L.length ec)) zk zk (fun _ _ d _ _ h=>(by cases d<;>exact h)) ?_
 iterate 6 (
  refine n4 rfl ?_ (fun _=>hS) ?_ (fun w0 h0=> ?_) (fun K hK=> ?_)
  ·exact zg
  rotate_left
  ·(try simp only [zz1,zz2,zz3])
   first
    |(obtain ⟨h1,h2⟩:=h0 rfl;clear h0;go_simp;with_reducible rfl)
    |(clear h0;go_simp;with_reducible rfl)
  (try simp only [zz1,zz2,zz3])
  go_simp;refine hK _ ?_;clear hK K)
 refine i6 (j0 rfl ?_ (fun K hK=> ?_))
 ·exact zg
 go_wp2_with fail
 refine WN.out.mono ?_;rintro e w1 ⟨hv1,rfl,hown1,QY,hm1⟩;have hz3:wb.heap.size<=w1.heap.size:=hm1.size;have hg1:=hm1.heap qM.out id;have Js:=hm1.heap mf.out id;have hwo:=a8A w1 es ea ec L (HLd.out.mod hm1 zi) NP.out hv1 H hown1 HHl.out;rw [HR2.out] at hwo;have bE:=QX.out.trans hm1 zi;refine hK _ _ (fun _ _=>⟨d6 hg1 rfl,d6 hg1 rfl⟩) ?_;clear hK K hS;obtain ⟨PO,QZ,bF⟩:=zh3 hwo Js bE;clear hwo Js bE hg1 hm1 hown1 QY WN;refine i6 (j0 rfl ?_ (fun K hK=> ?_))
 ·exact zg
 go_wp2_with fail
 refine PO.out.mono ?_;rintro e w2 ⟨av,rfl,hown2,hfr2,hm2⟩;have Cy:=hm2.heap QZ.out id;have aG:=bF.out.trans hm2 zi;have hfr:∀b,av.ownBlock=some b->wb.heap.size<=b:=fun b hb=>by have:=hfr2 b hb;omega
 obtain ⟨oa,oc,rfl, -⟩:=hown2.shape;refine hK _ _ (fun h=>absurd h zd) ?_;clear hK K;refine i6 (j0 rfl ?_ (fun K hK=> ?_))
 ·exact zg
 (try simp only [zz1,zz2,zz3]);refine a1q 31 (.tmp 8) (.tmp 16) rfl wa.heap.size rfl _ _ Cy [.string es,.slice oa R.length oc] rfl rfl zk (fun u hu=>zz15 rfl u hu) ?_;obtain ⟨w3,hw3⟩:∃q,w2.setRow wa.heap.size ([.string es,.slice oa R.length oc]:List Value).toArray=q:=⟨_,rfl⟩;have hg3:w3.heap[wa.heap.size]? =some (.cells ([.string es,.slice oa R.length oc]:List Value).toArray 31 (0,0)):=hw3▸setRow_heap w2 wa.heap.size _ _ _ (0,0) Cy;have aC:Mod (fun k=>k=wa.heap.size) w2 w3:=hw3▸(Mod.refl (fun k=>k=wa.heap.size) w2).setRow (fun _=>rfl) _;rw [hw3];refine hK _ _ (fun h=>absurd h zd) ?_;clear hK K;refine m6 ?_;have hown3:=hown2.mod aC (fun b hb (e:b=wa.heap.size)=>by have:=hfr b hb;omega);have aS:Mod (fun _=>False) w w3:=aG.upon aC (fun b hb=> .inr zo);obtain ⟨gm,iB,aP,bB⟩:=zh4 hg3 hown3 aS hfr;clear hg3 hown3 aS hfr hw3 Cy hown2 aG aC hm2 hfr2
 go_wp2_with fail
 refine o7 rfl wa.heap.size rfl _ (e9.row gm.out) zk zk rfl ⟨_,rfl,by rw [HR.out];exact iB.out,fun b hb=>by have:=bB.out b hb;omega,aP.out⟩
theorem b2G:a2s []=[]:=by
 have h:=a65 [];exact List.eq_nil_of_length_eq_zero (Nat.le_zero.1 h)
end Go.Proofs.YtebhabpahfmodaaGreatDoor
