/- Lemmas of this claim. -/
import Derived.Sort.Row
import Derived.Test.YtaenebdppkjhoaaGreatDoorZd32
namespace Go.Proofs.YtaenebdppkjhoaaGreatDoor
set_option maxRecDepth 20000
set_option maxHeartbeats 40000000
section
open Go.RowKit Go.Sort
def strs (l:List (List UInt8)):List Value:=l.map encStr
theorem strs_length (l:List (List UInt8)):(strs l).length=l.length:=by simp [strs]
theorem strs_append (l m:List (List UInt8)):strs (l++m)=strs l++strs m:=by simp [strs]
theorem heap_putS {w:World} {g n off:Nat} {os:Array Obj} {cur:Array Value} {e:TypeId} {fr:Nat×Nat} (d:Array (List UInt8)) (hb:w.heap[g]? =some (.cells cur e fr)):
 (grow (putRow encStr (Sort.ahead w n) g off d) os).heap[g]? =some (.cells (putCells encStr off d cur) e fr):=by
 have hg:g<w.heap.size:=(Array.getElem?_eq_some_iff.1 hb).1
 rw [heap_grow_old _ _ (by simpa using hg)]
 simp [putRow,mapBlock,Sort.ahead,Array.getElem?_modify,hb,onCells]
theorem heap_putS0 {w:World} {g n off:Nat} {cur:Array Value} {e:TypeId} {fr:Nat×Nat} (d:Array (List UInt8)) (hb:w.heap[g]? =some (.cells cur e fr)):
 (putRow encStr (Sort.ahead w n) g off d).heap[g]? =some (.cells (putCells encStr off d cur) e fr):=by
 simp [putRow,mapBlock,Sort.ahead,Array.getElem?_modify,hb,onCells]
theorem mod_putS {w:World} {g n off:Nat} {os:Array Obj} (d:Array (List UInt8)):Mod (fun k=>k=g) w (grow (putRow encStr (Sort.ahead w n) g off d) os):=by
 refine ⟨rfl,rfl,rfl,by simp,fun k hk hne=> ?_⟩
 rw [heap_grow_old _ _ (by simpa using hk)]
 have:g≠k:=fun e=>hne e.symm
 simp [putRow,mapBlock,Sort.ahead,Array.getElem?_modify,this]
theorem mod_putS0 {w:World} {g n off:Nat} (d:Array (List UInt8)):Mod (fun k=>k=g) w (putRow encStr (Sort.ahead w n) g off d):=by
 refine ⟨rfl,rfl,rfl,by simp,fun k hk hne=> ?_⟩
 have:g≠k:=fun e=>hne e.symm
 simp [putRow,mapBlock,Sort.ahead,Array.getElem?_modify,this]
theorem take_putS (cur:Array Value) (off:Nat) (ts us:List (List UInt8)) (h:off+(ts++us).length≤cur.size):((putCells encStr off (ts++us).toArray cur).toList.drop off).take ts.length=strs ts:=by
 apply List.ext_getElem?
 intro j
 rw [List.length_append] at h
 by_cases hj:j<ts.length
 ·rw [List.getElem?_take_of_lt hj,List.getElem?_drop,Array.getElem?_toList]
  have h1:j<ts.length+us.length:=by omega
  simp [putCells,h1,hj,strs,show off+j<cur.size by omega,List.getElem!_eq_getElem?_getD]
 ·rw [List.getElem?_take_eq_none (by omega),List.getElem?_eq_none (by simp [strs];omega)]
theorem holds_own {w:World} {g off:Nat} {cur:Array Value} {e:TypeId} (l:List (List UInt8)) (hg:w.heap[g]? =some (.cells cur e (0,0))) (ht:(cur.toList.drop off).take (l.length*1)=strs l):Holds encStr w g off l.toArray:=fun j hj=>by
 have hj':j<l.length:=by simpa using hj
 have h1:(strs l)[j]? =some (encStr l[j]):=by simp [strs,hj']
 rw [←ht,List.getElem?_take_of_lt (by omega),List.getElem?_drop] at h1
 refine ⟨?_,by simp [World.frozen?,hg]⟩
 rw [cell_of_row w g (off+j) cur e (0,0) hg,←Array.getElem?_toList,h1]
 simp [hj']
def sortL (l:List (List UInt8)):List (List UInt8):=l.mergeSort fun x y=>decide (x≤y)
theorem sortL_length (l:List (List UInt8)):(sortL l).length=l.length:=List.length_mergeSort l
theorem sort_str (w:World) (v:Value) (l:List (List UInt8)) (h:OwnSl w 9 1 v l.length (strs l)) (hl:l.length<4611686018427387904):
 Calls Tryz.prog 82 #[v] w fun e w'=>e= .returned (.tuple #[])∧OwnSl w' 9 1 v (sortL l).length (strs (sortL l))∧Mod (inBlock v) w w':=by
 rcases h.2 with ⟨rfl,h0⟩|⟨g,off,cap,cur,rfl,hg,hn,hc,hs,ht⟩
 ·obtain rfl:l=[]:=List.eq_nil_of_length_eq_zero h0
  refine (Tryz.slices_Sort_string_none none 0 w).mono fun e w' h=> ?_
  obtain ⟨rfl,rfl⟩:=h
  have h1:sortL []=[]:=by simp [sortL]
  rw [h1]
  exact ⟨rfl,OwnSl.nil _ _ _,Mod.refl _ _⟩
 ·have hgl:g<w.heap.size:=(Array.getElem?_eq_some_iff.1 hg).1
  refine (Tryz.slices_Sort_string g off cap l w (holds_own l hg ht) hgl hl).mono fun e w' h=> ?_
  obtain ⟨rfl,n,os,rfl⟩:=h
  have hsl:(l.mergeSort fun x y=>decide (x≤y))=sortL l:=rfl
  rw [hsl]
  have hbl:off+(sortL l++[]).length≤cur.size:=by rw [List.append_nil,sortL_length];omega
  refine ⟨rfl,⟨by rw [strs_length,Nat.mul_one],.inr ⟨g,off,cap,_,by rw [sortL_length],heap_putS _ hg,by rw [sortL_length];exact hn,hc,by simpa [putCells] using hs, ?_⟩⟩,(mod_putS _).mono (fun k _ hk=>by show some g=some k;rw [hk])⟩
  have:=take_putS cur off (sortL l) [] hbl
  rw [List.append_nil] at this
  rw [Nat.mul_one]
  exact this
theorem compactUpTo_len {α:Type} [DecidableEq α] [Inhabited α] (d:Array α):∀m,(Lib.compactUpTo d m).length≤m:=fun m=>by
 unfold Lib.compactUpTo
 rw [List.length_map]
 exact Nat.le_trans (List.length_filter_le _ _) (by simp)
theorem compact_len (l:List (List UInt8)):(Lib.compact l).length≤l.length:=compactUpTo_len _ _
theorem compact_str (w:World) (v:Value) (l:List (List UInt8)) (h:OwnSl w 9 1 v l.length (strs l)) (hl:l.length<4611686018427387904):
 Calls Tryz.prog 83 #[v] w fun e w'=>∃v',e= .returned v'∧OwnSl w' 9 1 v' (Lib.compact l).length (strs (Lib.compact l))∧Mod (inBlock v) w w'∧∀k,inBlock v' k→inBlock v k:=by
 rcases h.2 with ⟨rfl,h0⟩|⟨g,off,cap,cur,rfl,hg,hn,hc,hs,ht⟩
 ·obtain rfl:l=[]:=List.eq_nil_of_length_eq_zero h0
  refine (Tryz.slices_Compact_string_empty none 0 w).mono fun e w' h=> ?_
  obtain ⟨rfl,rfl⟩:=h
  have h1:Lib.compact ([]:List (List UInt8))=[]:=rfl
  rw [h1]
  exact ⟨_,rfl,OwnSl.nil _ _ _,Mod.refl _ _,fun _ h=>h⟩
 ·have hgl:g<w.heap.size:=(Array.getElem?_eq_some_iff.1 hg).1
  refine (Tryz.slices_Compact_string g off cap l w (holds_own l hg ht) (by omega) (by omega)).mono fun e w' h=> ?_
  obtain ⟨rfl,q,rfl⟩:=h
  have hle:=compact_len l
  have hbl:off+(Lib.compact l++List.replicate (l.length - (Lib.compact l).length) []).length≤cur.size:=by rw [List.length_append,List.length_replicate];omega
  refine ⟨_,rfl,⟨by rw [strs_length,Nat.mul_one],.inr ⟨g,off,cap,_,rfl,heap_putS0 _ hg,by omega,hc,by simpa [putCells] using hs, ?_⟩⟩,(mod_putS0 _).mono (fun k _ hk=>by show some g=some k;rw [hk]),fun k hk=>hk⟩
  have:=take_putS cur off (Lib.compact l) _ hbl
  rw [Nat.mul_one]
  exact this
def hidL (l:List (List UInt8)):List (List UInt8):=Lib.compact (sortL l)
theorem hidL_len (l:List (List UInt8)):(hidL l).length≤l.length:=Nat.le_trans (compact_len _) (by rw [sortL_length];exact Nat.le_refl _)
end
section
open Go.RowKit
theorem strs_T:SliceT Tryz.prog 74 9 1 16:=sliceT (by kernel_rfl) (by kernel_rfl)
def Ru.hides (r:Ru) (tenant:Int) (who s:ByteArray):Bool:=r.of 3 tenant who&&underB s r.sc
def namesL (l:List Ru):List (List UInt8):=l.map fun r=>r.name.data.toList
def hidR (l:List Ru) (tenant:Int) (who s:ByteArray):List (List UInt8):=namesL (l.filter fun r=>r.hides tenant who s)
theorem namesL_append (l m:List Ru):namesL (l++m)=namesL l++namesL m:=by unfold namesL;simp
theorem hidden_at (w:World) (v:Value) (l:List Ru) (hv:RuSl w v l) (hll:l.length≤1000000) (tenant:Int) (who s:ByteArray) (hs:s.size≤9223372036854775807):
 Calls Tryz.prog 45 #[v,.int .i64 tenant,.string who,.string s] w fun e w'=>∃ov,e= .returned ov∧OwnSl w' 9 1 ov (hidL (hidR l tenant who s)).length (strs (hidL (hidR l tenant who s)))∧(∀b,ov.ownBlock=some b→w.heap.size≤b)∧Mod (fun _=>False) w w':=by
 obtain ⟨a,cap,rfl,hcap⟩:∃a c,v= .slice a l.length c∧l.length≤c:=by obtain ⟨-,a,c,h,h2, -⟩:=hv.rd;exact ⟨a,c,h,h2⟩
 have hll':(l.length:Int)≤1000000:=by omega
 have hcap':(l.length:Int)≤cap:=by omega
 have Hv:=Lib.hid hv
 have Hs:=Lib.hid hs
 have Hll:=Lib.hid hll
 clear hv hs hll
 go_enter Tryz.func45,Tryz.ntmps45
 go_wp2_with fail
 go_loopw [9,14] (fun ov i wr=>∃j:Nat,i= .int .i64 j∧j≤l.length∧OwnSl wr 9 1 ov (hidR (l.take j) tenant who s).length (strs (hidR (l.take j) tenant who s))∧(∀b,ov.ownBlock=some b→w.heap.size≤b)∧Mod (fun _=>False) w wr) (fun _ i _=>l.length - (intOf i).toNat)
 case atStart=>exact ⟨0,rfl,Nat.zero_le _,OwnSl.nil _ _ _,fun b hb=>(by cases hb),Mod.refl _ _⟩
 case round=>
  obtain ⟨j,rfl,hj,hown,hfr,hmr⟩:=hrel
  by_cases hlt:j<l.length
  ·have hlt':(j:Int)<l.length:=by omega
   obtain ⟨x,hxj⟩:∃x,l[j]? =some x:=⟨_,List.getElem?_eq_getElem hlt⟩
   have hxm:=List.mem_of_getElem? hxj
   obtain ⟨g,off,rfl,hf⟩:∃g off,a=some ⟨g,off,none⟩∧CellsAt wr g (off+j*8) x.cells:=rd_rule (Hv.out.mod hmr) hxj
   have hnx:hidR (l.take (j+1)) tenant who s=hidR (l.take j) tenant who s++(if x.hides tenant who s=true then [x.name.data.toList] else []):=by
    unfold hidR
    rw [filter_take (fun r:Ru=>r.hides tenant who s) hxj,namesL_append]
    split<;>rfl
   have hle:(hidR (l.take j) tenant who s).length≤j:=by unfold hidR namesL;rw [List.length_map];exact Nat.le_trans (List.length_filter_le _ _) (List.length_take_le _ _)
   obtain ⟨acc,hacc⟩:∃q,hidR (l.take j) tenant who s=q:=⟨_,rfl⟩
   rw [hacc] at hown hnx hle
   obtain ⟨nx,hnx'⟩:∃q,hidR (l.take (j+1)) tenant who s=q:=⟨_,rfl⟩
   rw [hnx'] at hnx
   obtain ⟨oa,oc,rfl, -⟩:=hown.shape
   obtain ⟨wz,hwz,hmwz,hgwz,hzwz⟩:=allocE wr (.cells x.cells.toArray 35)
   have hmz:=hmr.trans hmwz (fun _ _ h=>h)
   have hun:=under_at s x.sc Hs.out (Hv.out.ok x hxm).sc
   have hownz:=hown.mod hmwz (fun _ _ h=>h)
   have c0:wz.cell? ⟨wr.heap.size,0,none⟩=some (.int .i64 x.kind):=cell_of hgwz rfl
   have c1:wz.cell? ⟨wr.heap.size,1,none⟩=some (.int .i64 x.tenant):=cell_of hgwz rfl
   have c2:wz.cell? ⟨wr.heap.size,2,none⟩=some (.string x.who):=cell_of hgwz rfl
   have c3:wz.cell? ⟨wr.heap.size,3,none⟩=some (.int .i64 x.broker):=cell_of hgwz rfl
   have c4:wz.cell? ⟨wr.heap.size,4,none⟩=some (.string x.sc):=cell_of hgwz rfl
   have c5:wz.cell? ⟨wr.heap.size,5,none⟩=some (.slice x.ca x.cs.length x.cc):=cell_of hgwz rfl
   have c6:wz.cell? ⟨wr.heap.size,6,none⟩=some (.string x.name):=cell_of hgwz rfl
   have hst:nx=acc++(if (x.of 3 tenant who&&underB s x.sc)=true then [x.name.data.toList] else []):=hnx
   obtain ⟨B,hB⟩:∃B,underB s x.sc=B:=⟨_,rfl⟩
   have hunz:Calls Tryz.prog 81 #[.string s,.string x.sc] wz fun e w'=>e= .returned (.bool B)∧w'=wz:=hB▸hun wz
   rw [hB] at hst
   have Hxj:=Lib.hid hxj
   have Hxm:=Lib.hid hxm
   have Hf:=Lib.hid hf
   have Hwz:=Lib.hid hwz
   have Hmz:=Lib.hid hmz
   have Hownz:=Lib.hid hownz
   have Hfr:=Lib.hid hfr
   have Hst:=Lib.hid hst
   have Hnx':=Lib.hid hnx'
   have Hunz:=Lib.hid hunz
   clear hxj hxm hf hwz hmz hownz hfr hst hnx' hunz hzwz hmwz hown hmr hacc hgwz hun hB hnx
   have same:nx=acc→OwnSl wz 9 1 (.slice oa acc.length oc) (hidR (l.take (j+1)) tenant who s).length (strs (hidR (l.take (j+1)) tenant who s)):=fun h=>by rw [Hnx'.out,h];exact Hownz.out
   have Hsame:=Lib.hid same
   clear same
   refine of_cases x 3 tenant who (fun h1 h4=> ?_) (fun h1 h2 h4=> ?_) (fun h1 h2 h3 h4=> ?_) (fun h1 h2 h3 h4=> ?_)
   iterate 3 (
    have hq:nx=acc:=by rw [Hst.out,h4];exact List.append_nil _
    have Hq:=Lib.hid (Hsame.out hq)
    clear h4 hq Hunz
    go_wp2_with (first|((with_reducible refine wpList_load_lit 35 (.tmp 16) ?_);refine ⟨g,off+j*8,rfl,x.cells,Hf.out,by kernel_rfl,by kernel_rfl, ?_⟩)|((with_reducible refine wpList_store_lit 35 (.tmp 11) (.tmp 17) ?_);refine ⟨rfl,x.cells,rfl,rfl,by kernel_rfl,rfl, ?_⟩;rw [Hwz.out])|fail)
    go_roundw
    case rel=>exact ⟨j+1,by go_num,hlt,Hq.out,Hfr.out,Hmz.out⟩
    case measure=>simp [intOf];omega)
   have Hst:=Lib.hid (show nx=acc++(if B=true then [x.name.data.toList] else []) from by have:=Hst.out;rw [h4] at this;exact this)
   clear h4
   go_wp2_with (first|((with_reducible refine wpList_load_lit 35 (.tmp 16) ?_);refine ⟨g,off+j*8,rfl,x.cells,Hf.out,by kernel_rfl,by kernel_rfl, ?_⟩)|((with_reducible refine wpList_store_lit 35 (.tmp 11) (.tmp 17) ?_);refine ⟨rfl,x.cells,rfl,rfl,by kernel_rfl,rfl, ?_⟩;rw [Hwz.out])|fail)
   refine Hunz.out.mono ?_
   rintro e w8 ⟨rfl,rfl⟩
   clear Hunz
   cases B with
   |false=>
    have hq:nx=acc:=by rw [Hst.out];exact List.append_nil _
    have Hq:=Lib.hid (Hsame.out hq)
    clear hq
    go_wp2_with fail
    go_roundw
    case rel=>exact ⟨j+1,by go_num,hlt,Hq.out,Hfr.out,Hmz.out⟩
    case measure=>simp [intOf];omega
   | true=>
    have hnx2:nx=acc++[x.name.data.toList]:=Hst.out
    obtain ⟨wS,hwS,hmwS,hgwS,hzwS⟩:=allocE w8 (.cells #[.string x.name] 9)
    have hrd:RdSl wS 1 (.slice (some ⟨w8.heap.size,0,none⟩) 1 1) 1 [.string x.name]:=hwS▸RdSl.one w8 [.string x.name] 9 rfl
    have hownS:=Hownz.out.mod hmwS (fun _ _ h=>h)
    have hm0S:=Hmz.out.trans hmwS (fun _ _ h=>h)
    have hone:∀u∈[Value.string x.name],u.oneCell'=true:=fun u hu=>by rw [List.mem_singleton.1 hu];rfl
    have hlen:acc.length+1=(hidR (l.take (j+1)) tenant who s).length:=by rw [Hnx'.out,hnx2];simp
    have hstrs:strs acc++[.string x.name]=strs (hidR (l.take (j+1)) tenant who s):=by rw [Hnx'.out,hnx2,strs_append];rfl
    have Hrd:=Lib.hid hrd
    have HwS:=Lib.hid hwS
    have HownS:=Lib.hid hownS
    have Hm0S:=Lib.hid hm0S
    have Hone:=Lib.hid hone
    have Hlen:=Lib.hid hlen
    have Hstrs:=Lib.hid hstrs
    clear hrd hwS hownS hm0S hone hlen hstrs hmwS hgwS hzwS hnx2 Hst Hsame
    go_wp2_with (first|(rw [show w8.alloc _=wS from HwS.out])|((with_reducible refine wpList_append_lit (.tmp 40) (.tmp 43) 74 ?_);refine ⟨rfl,9,1,16,strs_T,.slice oa acc.length oc,acc.length,strs acc,rfl,HownS.out,_,1,[.string x.name],rfl,Hrd.out,Hone.out,by omega,by unfold maxLen;omega, ?_⟩;intro ad cap2 w4 hA;have HA:=Lib.hid hA;clear hA)|fail)
    have hown5:=HA.out.1
    rw [Hstrs.out] at hown5
    have hfr5:∀b,(Value.slice ad (acc.length+1) cap2).ownBlock=some b→w.heap.size≤b:=fun b hb=>by
     rcases HA.out.2.2 with h|⟨k,h,hk⟩
     ·exact Hfr.out b (by rw [←h];exact hb)
     ·rw [h] at hb;cases hb
      have:=Hm0S.out.size
      omega
    have hm05:Mod (fun _=>False) w w4:=Hm0S.out.upon HA.out.2.1 (fun b hb=> .inr (Hfr.out b hb))
    have Hown5:=Lib.hid hown5
    have Hfr5:=Lib.hid hfr5
    have Hm05:=Lib.hid hm05
    clear hown5 hfr5 hm05 HA
    go_roundw
    case rel=>exact ⟨j+1,by go_num,hlt,by rw [←Hlen.out];exact Hown5.out,Hfr5.out,Hm05.out⟩
    case measure=>simp [intOf];omega
  ·obtain rfl:j=l.length:=by omega
   rw [List.take_length] at hown
   have hHl:(hidR l tenant who s).length≤l.length:=by unfold hidR namesL;rw [List.length_map];exact List.length_filter_le _ _
   obtain ⟨H,hH⟩:∃H,hidR l tenant who s=H:=⟨_,rfl⟩
   rw [hH] at hown hHl
   obtain ⟨oa,oc,rfl, -⟩:=hown.shape
   have hso:=sort_str wr _ H hown (by have:=Hll.out;omega)
   have hHm:H.length≤1000000:=by have:=Hll.out;omega
   have Hso:=Lib.hid hso
   have Hfr:=Lib.hid hfr
   have Hmr:=Lib.hid hmr
   have HHm:=Lib.hid hHm
   have HH:=Lib.hid hH
   clear hso hfr hmr hHm hH hown hHl
   go_wp2_with fail
   refine Hso.out.mono ?_
   rintro e w1 ⟨rfl,hown1,hm1⟩
   have hm01:Mod (fun _=>False) w w1:=Hmr.out.upon hm1 (fun b hb=> .inr (Hfr.out b hb))
   have hsl:(sortL H).length<4611686018427387904:=by rw [sortL_length];have:=HHm.out;omega
   have hco:=compact_str w1 _ _ hown1 hsl
   have Hm01:=Lib.hid hm01
   have Hco:=Lib.hid hco
   clear hm01 hco hm1 hown1 Hso Hmr hsl
   go_wp2_with fail
   refine Hco.out.mono ?_
   rintro e w2 ⟨v2,rfl,hown2,hm2,hb2⟩
   have hm02:Mod (fun _=>False) w w2:=Hm01.out.upon hm2 (fun b hb=> .inr (Hfr.out b hb))
   have Hm02:=Lib.hid hm02
   have Hown2:=Lib.hid hown2
   have Hb2:=Lib.hid hb2
   clear hm02 hown2 hb2 hm2 Hco Hm01
   go_wp2
   go_ret
   have hown3:OwnSl w2 9 1 v2 (hidL (hidR l tenant who s)).length (strs (hidL (hidR l tenant who s))):=by rw [HH.out];exact Hown2.out
   exact ⟨_,rfl,hown3,fun b hb=>Hfr.out b (Hb2.out b hb),Hm02.out⟩
theorem att_struct:(match Tryz.prog.underlying 70 with|some (.struct _)=>true|some (.array _ _)=>true|_=>false)=true:=by kernel_rfl
theorem att_size:(Tryz.prog.info? 70).map (·.size)=some 6:=by kernel_rfl
@[go_sem ↓] theorem run_load_att {ρ:Operand→Value} {dst:Option Tmp} {x:Operand} {type:TypeId} {pos:String} {after:Array Edge} {guard:Option (Nat×Bool)} {w:World} (h:AllV w (ρ x) 6):
 Sem.run Tryz.prog (execOp ρ ⟨dst,.load 70 x,type,pos,after,guard⟩) w= .ok (.value (.agg (cellsV w (ρ x) 6))) w:=run_load_all att_struct att_size h
theorem hidL_nil:hidL []=[]:=by
 have h:=hidL_len []
 exact List.eq_nil_of_length_eq_zero (Nat.le_zero.1 h)
end
end Go.Proofs.YtaenebdppkjhoaaGreatDoor
