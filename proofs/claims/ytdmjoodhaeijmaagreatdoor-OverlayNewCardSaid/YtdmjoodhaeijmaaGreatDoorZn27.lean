/- Lemmas. -/
import Derived.Test.YtdmjoodhaeijmaaGreatDoorZn24
set_option maxHeartbeats 40000000
set_option maxRecDepth 20000
namespace Go.Proofs.YtdmjoodhaeijmaaGreatDoor
open Go.RowKit
def Ru.pru (r:Ru):PRu:=⟨r.kind,r.tenant,r.who,r.broker,r.sc,r.cs,r.name,r.at_⟩
theorem b1I (x:Lr):x.ru.pru=x.1:=rfl
theorem a5s (L:List Lr):(L.map Lr.ru).map Ru.pru=L.map Prod.fst:=by
 rw [List.map_map];rfl
theorem a6t (l:List Ru) (tenant:Int) (who:ByteArray):a1A (l.map Ru.pru) tenant who=K0 l tenant who:=by
 unfold a1A K0;rw [List.map_map]
 have h:∀l:List Ru,((l.map ((fun p:PRu=>p.lies none 0)∘Ru.pru)).find? fun r=>r.of 0 tenant who).map Ru.broker=(l.find? fun r=>r.of 0 tenant who).map Ru.broker:=fun l=>by
  induction l with
  |nil=>rfl
  |cons a l ih=>
   rw [List.map_cons,List.find?_cons,List.find?_cons];have e:(((fun p:PRu=>p.lies none 0)∘Ru.pru) a).of 0 tenant who=a.of 0 tenant who:=rfl;rw [e];cases a.of 0 tenant who
   ·exact ih
   rfl
 rw [<-List.map_reverse];exact h l.reverse
theorem b1J (l:List Ru) (n:Nat):rus (l.take n)=(rus l).take (n*8):=by
 induction l generalizing n with
 |nil=>rw [List.take_nil];simp [rus]
 | cons a l ih=>
  cases n with
  |zero=>rw [Nat.zero_mul,List.take_zero];rfl
  |succ n=>
   rw [List.take_succ_cons,a3R,a3R,ih,Nat.add_mul,Nat.one_mul,Nat.add_comm,List.take_append];have e:a.cells.length=8:=Ru.cells_length a;rw [e,List.take_of_length_le (l:=a.cells) zo,Nat.add_sub_cancel_left]
theorem Q5.take {w:World} {a:Option Addr} {cap:Nat} {l:List Ru} (h:Q5 w (.slice a l.length cap) l) {n:Nat} (hn:n<=l.length):Q5 w (.slice a n cap) (l.take n):=by
 have hl:(l.take n).length=n:=by rw [List.length_take];omega
 obtain ⟨h1,a',cap',he,h3,h4,h5⟩:=h.rd;cases he
 refine ⟨⟨by rw [a8c],a,cap,by rw [hl],zo,fun e=>by have:=h4 e;omega,fun b hb h0=> ?_⟩,fun r hr=>h.ok r (List.mem_of_mem_take hr)⟩;obtain ⟨g,off,e,h6⟩:=h5 b hb zo;refine ⟨g,off,e,fun j u hu=>h6 j u ?_⟩;rw [b1J,List.getElem?_take] at hu;split at hu
 ·exact hu
 ·cases hu
theorem R3 (w:World) (g:Nat) (a:Option Addr) (n cap:Nat) (c0:w.cell? ⟨g,0,none⟩=some (.slice a n cap)):
 Calls Tryz.prog 13 #[.pointer (some ⟨g,0,none⟩)] w fun e w'=>e= .returned (.int .i64 n)/\w=w':=by
 go_enter Tryz.func13,Tryz.ntmps13
 go_wp2
 go_ret;exact ⟨rfl,rfl⟩
theorem a8P (w:World) (g:Nat) (a:Option Addr) (cap:Nat) (l:List Ru) (c0:w.cell? ⟨g,0,none⟩=some (.slice a l.length cap)) (hv:Q5 w (.slice a l.length cap) l) (hll:l.length<=1000) (i:Int) (n:Nat) (hn:n<=l.length):
 Calls Tryz.prog 75 #[.pointer (some ⟨g,0,none⟩),.int .i64 i,.int .i64 n] w fun e w'=>e= .returned (.bool (V7 (l.map Ru.pru) i n))/\Mod (fun _=>False) w w':=by
 have hcap:l.length<=cap:=by obtain ⟨-,a',c',h,h2, -⟩:=hv.rd;cases h;exact h2
 have bG:(n:Int)<=cap:=zo
 have hn':(n:Int)<=l.length:=zo
 have hn0:(0:Int)<=n:=zo
 have hv2:=hv.take hn;have hl2:(l.take n).length=n:=by rw [List.length_take];omega
 rw [show Value.slice a n cap=Value.slice a (l.take n).length cap by rw [hl2]] at hv2;obtain ⟨R,hR⟩:∃R,V7 (l.map Ru.pru) i n=R:=⟨_,rfl⟩;rw [hR];refine hh4 hv hv2 hR hl2 fun Hv Cr HR jF=> ?_;clear hv hv2 hR hl2 hcap hn
 go_enter Tryz.func75,Tryz.ntmps75
 go_wp2_with fail
 go_loopw [16] (fun i' wr=>∃j:Nat,i'= .int .i64 j/\j<=n/\Mod (fun _=>False) w wr/\(∀(k:Nat) (x:Ru),k<j->(l.take n)[k]? =some x->(decide (x.kind=4)&&decide (x.at_=i))=false)) (fun i' _=>n - (intOf i').toNat)
 case atStart=>exact ⟨0,rfl,Nat.zero_le _,Mod.refl _ _,fun k x hk=>zo⟩
 case round=>
  obtain ⟨j,rfl,hj,hmr,hall⟩:=hrel;by_cases hlt:j<n
  ·have hlt':(j:Int)<n:=zo
   obtain ⟨x,hxj⟩:∃x,(l.take n)[j]? =some x:=⟨_,zz5 (by rw [jF.out];exact hlt)⟩;obtain ⟨g2,off,rfl,hf⟩:∃g2 off,a=some ⟨g2,off,none⟩/\d8 wr g2 (off+j*8) x.cells:=a0a (Cr.out.mod hmr) hxj;obtain ⟨wz,hwz,ag,aj,aF⟩:=g6 wr (.cells x.cells.toArray 36);have hmz:=hmr.trans ag zi;have c0k:wz.cell? ⟨wr.heap.size,0,none⟩=some (.int .i64 x.kind):=d6 aj rfl;have c7k:wz.cell? ⟨wr.heap.size,7,none⟩=some (.int .i64 x.at_):=d6 aj rfl;refine hh8 hmr hall hxj hf hwz ag aj hmz fun aL aO dX Hf aX bE aJ bC=> ?_;clear hmr hall hxj hf hwz ag aj hmz aF;by_cases hk4:x.kind=4
   ·by_cases hat:x.at_=i
    ·go_wp2_with (first|((with_reducible refine e9 36 (.tmp 18) ?_);refine ⟨g2,off+j*8,rfl,x.cells,Hf.out,zk,zk, ?_⟩)|((with_reducible refine d9 36 (.tmp 8) (.tmp 19) ?_);refine ⟨rfl,x.cells,rfl,rfl,zk,rfl, ?_⟩;rw [aX.out]))
     go_ret;refine ⟨?_,bC.out⟩;rw [<-HR.out]
     have:V7 (l.map Ru.pru) i n=true:=by
      unfold V7;rw [<-List.map_take,List.any_eq_true];exact ⟨x.pru,List.mem_map.2 ⟨x,zz8 dX.out,rfl⟩,by simp [Ru.pru,hk4,hat]⟩
     rw [this];rfl
    go_wp2_with (first|((with_reducible refine e9 36 (.tmp 18) ?_);refine ⟨g2,off+j*8,rfl,x.cells,Hf.out,zk,zk, ?_⟩)|((with_reducible refine d9 36 (.tmp 8) (.tmp 19) ?_);refine ⟨rfl,x.cells,rfl,rfl,zk,rfl, ?_⟩;rw [aX.out]))
    go_roundw
    case rel=>
     refine ⟨j+1,by go_num,hlt,bC.out,fun k x' hk hx'=> ?_⟩;rcases Nat.lt_succ_iff_lt_or_eq.1 hk with hk|rfl
     ·exact aO.out k x' hk hx'
     rw [dX.out] at hx';cases hx';simp [hat]
    case measure=>simp [intOf];omega
   go_wp2_with (first|((with_reducible refine e9 36 (.tmp 18) ?_);refine ⟨g2,off+j*8,rfl,x.cells,Hf.out,zk,zk, ?_⟩)|((with_reducible refine d9 36 (.tmp 8) (.tmp 19) ?_);refine ⟨rfl,x.cells,rfl,rfl,zk,rfl, ?_⟩;rw [aX.out]))
   go_roundw
   case rel=>
    refine ⟨j+1,by go_num,hlt,bC.out,fun k x' hk hx'=> ?_⟩;rcases Nat.lt_succ_iff_lt_or_eq.1 hk with hk|rfl
    ·exact aO.out k x' hk hx'
    rw [dX.out] at hx';cases hx';simp [hk4]
   case measure=>simp [intOf];omega
  obtain rfl:j=n:=zo
  obtain ⟨aL,aO⟩:=zh2 hmr hall;clear hmr hall
  go_wp2
  go_ret;refine ⟨?_,aL.out⟩;rw [<-HR.out]
  have:V7 (l.map Ru.pru) i j=false:=by
   unfold V7;rw [<-List.map_take,List.any_eq_false];intro p hp;obtain ⟨x,hx,rfl⟩:=List.mem_map.1 hp;obtain ⟨k,hk⟩:=List.mem_iff_getElem?.1 hx;have hkl:=(zz6 hk).1;have h1:=aO.out k x (by rw [jF.out] at hkl;exact hkl) hk;intro h2;have h3:(decide (x.kind=4)&&decide (x.at_=i))=true:=h2;rw [h1] at h3;cases h3
  rw [this];rfl
theorem a9O (w:World) (g:Nat) (a:Option Addr) (cap:Nat) (l:List Ru) (c0:w.cell? ⟨g,0,none⟩=some (.slice a l.length cap)) (hv:Q5 w (.slice a l.length cap) l) (hll:l.length<=1000):
 Calls Tryz.prog 99 #[.pointer (some ⟨g,0,none⟩)] w fun e w'=>e= .returned (.int .i64 (F1 (l.map Ru.pru)))/\Mod (fun _=>False) w w':=by
 have df:(l.length:Int)<=1000:=zo
 have hcap:l.length<=cap:=by obtain ⟨-,a',c',h,h2, -⟩:=hv.rd;cases h;exact h2
 have bG:(l.length:Int)<=cap:=zo
 refine hh1 hv fun Hv=> ?_;clear hv hcap
 go_enter Tryz.func99,Tryz.ntmps99
 go_wp2_with fail
 go_loopw [3,11] (fun n i wr=>∃j:Nat,i= .int .i64 j/\j<=l.length/\n= .int .i64 (F1 ((l.take j).map Ru.pru))/\Mod (fun _=>False) w wr) (fun _ i _=>l.length - (intOf i).toNat)
 case atStart=>exact ⟨0,rfl,Nat.zero_le _,rfl,Mod.refl _ _⟩
 case round=>
  obtain ⟨j,rfl,hj,rfl,hmr⟩:=hrel;by_cases hlt:j<l.length
  ·have hlt':(j:Int)<l.length:=zo
   obtain ⟨x,hxj⟩:∃x,l[j]? =some x:=⟨_,zz5 hlt⟩;obtain ⟨g2,off,rfl,hf⟩:∃g2 off,a=some ⟨g2,off,none⟩/\d8 wr g2 (off+j*8) x.cells:=a0a (Hv.out.mod hmr) hxj;obtain ⟨wz,hwz,ag,aj,aF⟩:=g6 wr (.cells x.cells.toArray 36);have hmz:=hmr.trans ag zi;have c0k:wz.cell? ⟨wr.heap.size,0,none⟩=some (.int .i64 x.kind):=d6 aj rfl
   have hp1:F1 ((l.take (j+1)).map Ru.pru)=F1 ((l.take j).map Ru.pru)+if x.kind=0 then 1 else 0:=by
    rw [List.take_add_one,hxj,Option.toList_some,List.map_append];unfold F1;rw [List.filter_append,zz4];congr 1;show (List.filter _ [x.pru]).length=_;by_cases h0:x.kind=0
    ·rw [if_pos h0];simp [Ru.pru,h0]
    rw [if_neg h0];simp [Ru.pru,h0]
   have qY:F1 ((l.take j).map Ru.pru)<=j:=by
    unfold F1;refine Nat.le_trans (List.length_filter_le _ _) ?_;rw [zz10,List.length_take];omega
   obtain ⟨p,hp⟩:∃p,F1 ((l.take j).map Ru.pru)=p:=⟨_,rfl⟩;rw [hp] at hp1 qY⊢;refine hh8 hmr hxj hf hwz ag aj hmz hp1 fun aL dX Hf aX bE aJ bC BJ=> ?_;refine hh1 hp fun Hp=> ?_;clear hmr hxj hf hwz ag aj hmz hp1 hp aF;by_cases hk:x.kind=0
   ·go_wp2_with (first|((with_reducible refine e9 36 (.tmp 13) ?_);refine ⟨g2,off+j*8,rfl,x.cells,Hf.out,zk,zk, ?_⟩)|((with_reducible refine d9 36 (.tmp 5) (.tmp 14) ?_);refine ⟨rfl,x.cells,rfl,rfl,zk,rfl, ?_⟩;rw [aX.out]))
    go_roundw
    case rel=>
     refine ⟨j+1,by go_num,hlt, ?_,bC.out⟩;rw [BJ.out,if_pos hk];go_num
    case measure=>simp [intOf];omega
   go_wp2_with (first|((with_reducible refine e9 36 (.tmp 13) ?_);refine ⟨g2,off+j*8,rfl,x.cells,Hf.out,zk,zk, ?_⟩)|((with_reducible refine d9 36 (.tmp 5) (.tmp 14) ?_);refine ⟨rfl,x.cells,rfl,rfl,zk,rfl, ?_⟩;rw [aX.out]))
   go_roundw
   case rel=>
    refine ⟨j+1,by go_num,hlt, ?_,bC.out⟩;rw [BJ.out,if_neg hk];rfl
   case measure=>simp [intOf];omega
  obtain rfl:j=l.length:=zo
  have aL:=zh hmr;clear hmr
  go_wp2
  go_ret;refine ⟨?_,aL.out⟩;rw [List.take_of_length_le (Nat.le_refl _)];rfl
def M6 (l:List Ru) (i:Int):Option Ru:=if i<0 then none else l[i.toNat]?
def W9:Ru:=PRu.zero.lies none 0
theorem a8Q (w:World) (g:Nat) (a:Option Addr) (cap:Nat) (l:List Ru) (c0:w.cell? ⟨g,0,none⟩=some (.slice a l.length cap)) (hv:Q5 w (.slice a l.length cap) l) (hll:l.length<=1000) (i:Int):
 Calls Tryz.prog 40 #[.pointer (some ⟨g,0,none⟩),.int .i64 i] w fun e w'=>e= .returned (.tuple #[.agg ((M6 l i).getD W9).cells.toArray,.bool (M6 l i).isSome])/\Mod (fun _=>False) w w':=by
 have df:(l.length:Int)<=1000:=zo
 obtain ⟨wa,ak,ae,aa,ah⟩:=g6 w (.cells W9.cells.toArray 36);have hgl:g<w.heap.size:=World.block_lt_of_cell? w _ c0;have c0a:wa.cell? ⟨g,0,none⟩=some (.slice a l.length cap):=ae.cell c0 id;have hva:=hv.mod ae;have dR:w.alloc (.cells #[.int .i64 0,.int .i64 0,.string ⟨#[]⟩,.int .i64 0,.string ⟨#[]⟩,.slice none 0 0,.string ⟨#[]⟩,.int .i64 0] 36)=wa:=ak;refine hh5 hv hva dR ae aa fun Hv dE gX ai aC=> ?_;clear hv hva dR ae aa ah ak;by_cases h0:i<0
 ·have hr:M6 l i=none:=by unfold M6;rw [if_pos h0]
  rw [hr]
  go_enter Tryz.func40,Tryz.ntmps40
  go_wp2_with (first|(rw [show w.alloc _=wa from gX.out])|((with_reducible refine m7 36 (.tmp 4) (.tmp 17) ?_);refine ⟨w.heap.size,rfl,_,_,aC.out,W9.cells,rfl,rfl,zk,rfl, ?_⟩;intro w3 hg3 au;have gP:=Lib.hid hg3;have aZ:=Lib.hid au;have q1:=(d8.row hg3).all rfl;have q2:=(d8.row hg3).is rfl;clear hg3 au))
  refine bodyPost_ret (v:= .tuple #[.agg W9.cells.toArray,.bool false]) ?_ rfl ⟨rfl,ai.out.upon aZ.out (fun k hk=> .inr (Nat.le_of_eq (Eq.symm hk)))⟩;have hl:=r5 (P:=Tryz.prog) 36 w.heap.size 0 W9.cells (d8.row gP.out) zk zk;simp [results,Tryz.results40,Result.andThen,asAddr,hl]
 by_cases h1:(l.length:Int)<=i
 ·have hr:M6 l i=none:=by unfold M6;rw [if_neg h0,List.getElem?_eq_none zo]
  rw [hr]
  go_enter Tryz.func40,Tryz.ntmps40
  go_wp2_with (first|(rw [show w.alloc _=wa from gX.out])|((with_reducible refine m7 36 (.tmp 4) (.tmp 17) ?_);refine ⟨w.heap.size,rfl,_,_,aC.out,W9.cells,rfl,rfl,zk,rfl, ?_⟩;intro w3 hg3 au;have gP:=Lib.hid hg3;have aZ:=Lib.hid au;have q1:=(d8.row hg3).all rfl;have q2:=(d8.row hg3).is rfl;clear hg3 au))
  refine bodyPost_ret (v:= .tuple #[.agg W9.cells.toArray,.bool false]) ?_ rfl ⟨rfl,ai.out.upon aZ.out (fun k hk=> .inr (Nat.le_of_eq (Eq.symm hk)))⟩;have hl:=r5 (P:=Tryz.prog) 36 w.heap.size 0 W9.cells (d8.row gP.out) zk zk;simp [results,Tryz.results40,Result.andThen,asAddr,hl]
 obtain ⟨j,rfl⟩:∃j:Nat,i=j:=⟨i.toNat,zo⟩;have hlt:j<l.length:=zo
 obtain ⟨x,hxj⟩:∃x,l[j]? =some x:=⟨_,zz5 hlt⟩;have hr:M6 l j=some x:=by unfold M6;rw [if_neg h0];exact hxj
 obtain ⟨g2,off,rfl,hf⟩:∃g2 off,a=some ⟨g2,off,none⟩/\d8 wa g2 (off+j*8) x.cells:=a0a dE.out hxj;rw [hr];refine hh3 hr hxj hf fun Hr dX Hf=> ?_;clear hr hxj hf
 go_enter Tryz.func40,Tryz.ntmps40
 go_wp2_with (first|(rw [show w.alloc _=wa from gX.out])|((with_reducible refine e9 36 (.tmp 23) ?_);refine ⟨g2,off+j*8,rfl,x.cells,Hf.out,zk,zk, ?_⟩)|((with_reducible refine m7 36 (.tmp 4) (.tmp 24) ?_);refine ⟨w.heap.size,rfl,_,_,aC.out,x.cells,rfl,rfl,zk,rfl, ?_⟩;intro w3 hg3 au;have gP:=Lib.hid hg3;have aZ:=Lib.hid au;have q1:=(d8.row hg3).all rfl;have q2:=(d8.row hg3).is rfl;clear hg3 au))
 refine bodyPost_ret (v:= .tuple #[.agg x.cells.toArray,.bool true]) ?_ rfl ⟨rfl,ai.out.upon aZ.out (fun k hk=> .inr (Nat.le_of_eq (Eq.symm hk)))⟩;have hl:=r5 (P:=Tryz.prog) 36 w.heap.size 0 x.cells (d8.row gP.out) zk zk;simp [results,Tryz.results40,Result.andThen,asAddr,hl]
theorem a9P (l:List Ru) (i:Int):M6 l i=none->a4f (l.map Ru.pru) ⟨0,0,⟨#[]⟩,0,⟨#[]⟩,[],⟨#[]⟩,i⟩=false:=fun h=>by
 unfold M6 at h;unfold a4f;by_cases h0:i<0
 ·rw [if_pos h0]
 rw [if_neg h0] at h⊢;rw [List.getElem?_map,h];rfl
theorem a9Q {l:List Ru} {p:PRu} (h:M6 l p.at_=none):a4f (l.map Ru.pru) p=false:=a9P l p.at_ h
theorem a9R {l:List Ru} {p:PRu} {x:Ru} (h:M6 l p.at_=some x):a4f (l.map Ru.pru) p=(!(decide (x.kind=4))&& !(decide (x.kind=0))&& !V7 (l.map Ru.pru) p.at_ l.length):=by
 unfold M6 at h;unfold a4f;by_cases h0:p.at_<0
 ·rw [if_pos h0] at h;cases h
 rw [if_neg h0] at h⊢;rw [List.getElem?_map,h,zz10];rfl
theorem a9S {l:List Ru} {i:Int} {x:Ru} (h:M6 l i=some x):x∈l:=by
 unfold M6 at h;split at h
 ·cases h
 exact zz8 h
theorem b1K (w:World) (g:Nat) (a:Option Addr) (cap:Nat) (l:List Ru) (c0:w.cell? ⟨g,0,none⟩=some (.slice a l.length cap)) (hv:Q5 w (.slice a l.length cap) l) (hll:l.length<=40) (r:Ru) (hr:r.ok w):
 Calls Tryz.prog 71 #[.pointer (some ⟨g,0,none⟩),.agg r.cells.toArray] w fun e w'=>e= .returned (.int .i64 (R2 (l.map Ru.pru) r.pru))/\Mod (fun _=>False) w w':=by
 obtain ⟨wa,ak,ae,aa,ah⟩:=g6 w (.cells r.cells.toArray 36);have hgl:g<w.heap.size:=World.block_lt_of_cell? w _ c0;have hrt:=b0K r wa (hr.mod ae);have df:(l.length:Int)<=40:=zo
 obtain ⟨R,hR⟩:∃R,R2 (l.map Ru.pru) r.pru=R:=⟨_,rfl⟩;rw [hR];have hRr:r.pru.rightB=r.rightB:=rfl;have Om:=a6t l r.tenant r.who;have hlm:(l.map Ru.pru).length=l.length:=zz10 _
 have hF:∀wx,Mod (fun _=>False) wa wx->wx.cell? ⟨g,0,none⟩=some (.slice a l.length cap)/\wx.cell? ⟨w.heap.size,0,none⟩=some (.int .i64 r.kind)/\wx.cell? ⟨w.heap.size,1,none⟩=some (.int .i64 r.tenant)/\wx.cell? ⟨w.heap.size,2,none⟩=some (.string r.who)/\
  wx.cell? ⟨w.heap.size,7,none⟩=some (.int .i64 r.at_)/\Q5 wx (.slice a l.length cap) l/\Mod (fun _=>False) w wx:=fun wx hx=>
  ⟨hx.cell (ae.cell c0 id) id,hx.cell (d6 aa rfl) id,hx.cell (d6 aa rfl) id,hx.cell (d6 aa rfl) id,hx.cell (d6 aa rfl) id,(hv.mod ae).mod hx,ae.trans hx zi⟩
 have hgz:g≠w.heap.size:=zo
 refine hh8 hv hr ak ae aa hrt hR hRr fun Hv Hr aB ai aC RV HR uV=> ?_;refine hh3 Om hlm hF fun RX JF HF=> ?_;clear hv hr ak ae aa hrt hR hRr Om hlm hF ah c0 hgl
 go_enter Tryz.func71,Tryz.ntmps71
 go_wp2_with (first|(rw [show w.alloc _=wa from aB.out])|((with_reducible refine e9 36 (.tmp 3) ?_);refine ⟨w.heap.size,0,rfl,r.cells,d8.row aC.out,zk,zk, ?_⟩))
 refine RV.out.mono ?_;rintro e w1 ⟨rfl,hm1⟩;obtain ⟨f0,f1,f2,f3,f4,f5,f6⟩:=HF.out w1 hm1
 cases hb:r.rightB with
 |false=>
  have h1:R=1:=by rw [<-HR.out];unfold R2;rw [if_pos (uV.out.trans hb)]
  refine hh2 f6 h1 fun F6 H1=> ?_;clear f6 h1 f5 hm1 hb
  go_wp2
  go_ret;exact ⟨by rw [H1.out];rfl,F6.out⟩
 |true=>
 have hq1:¬r.pru.rightB=false:=by rw [uV.out,hb];decide
 by_cases Cs:l.length=40
 ·have h1:R=6:=by rw [<-HR.out];unfold R2;rw [if_neg hq1,if_pos (JF.out.trans Cs)]
  have Ct:(l.length:Int)=40:=zo
  refine hh2 f6 h1 fun F6 H1=> ?_;clear f6 h1 f5 hm1 hb hq1
  go_wp2
  go_ret;exact ⟨by rw [H1.out];rfl,F6.out⟩
 have Ct:¬(l.length:Int)=40:=zo
 have hq2:¬(l.map Ru.pru).length=40:=by rw [JF.out];exact Cs
 by_cases hk4:r.kind=4
 ·have hRv:R=if a4f (l.map Ru.pru) r.pru then 0 else 3:=by rw [<-HR.out];unfold R2;rw [if_neg hq1,if_neg hq2,if_pos (show r.pru.kind=4 from hk4)]
  have nE:=a8Q w1 g a cap l f0 f5 zo r.at_;refine hh5 hm1 hRv nE f5 f6 fun dn sU GL F5 F6=> ?_;clear hm1 hRv nE f5 f6 hb hq1 hq2
  go_wp2_with fail
  refine GL.out.mono ?_;rintro e w2 ⟨rfl,hm2⟩;have lN:=dn.out.trans hm2 zi
  cases hx:M6 l r.at_ with
  |none=>
   obtain ⟨w3,hw3,cB,iV,oo⟩:=g6 w2 (.cells W9.cells.toArray 36);have fE:=lN.trans cB zi;have h1:R=3:=by rw [sU.out,a9Q hx];rfl
   refine hh8 hx hm2 lN hw3 cB iV fE h1 fun Hx aS JG nC oq JH oz H1=> ?_;clear hx hm2 lN hw3 cB iV fE h1 oo f0 f1 f2 f3 f4
   go_wp2_with ((with_reducible refine d9 36 (.tmp 5) (.tmp 26) ?_);refine ⟨rfl,W9.cells,rfl,rfl,zk,rfl, ?_⟩;rw [nC.out])
   refine g9 zk zk ?_
   iterate 23 (first
    | (refine j1 ?_ (fun K hK=> ?_)
       ·first|(go_simp;done)|(go_simp;simp [undef];done)
       go_simp;refine hK _ ?_;clear hK K)
    | (refine l9 ?_ ?_ (fun w' hw'=> ?_) (fun K hK=> ?_)
       ·first|(go_simp;done)|(go_simp;simp [undef];done)
       rotate_left
       ·skip
        go_simp;rfl
       go_simp;refine hK _ ?_;clear hK K))
   refine j8 (fun w' hw'=> ?_);have dJ:=Lib.hid (HF.out w' (oz.out.trans hw' zi)).2.2.2.2.2.2;clear hw'
   go_wp2
   go_ret;exact ⟨by rw [H1.out];rfl,dJ.out⟩
  | some x=>
   have hxm:=a9S hx;obtain ⟨w3,hw3,cB,iV,oo⟩:=g6 w2 (.cells x.cells.toArray 36);have fE:=lN.trans cB zi;have JI:=a9R (p:=r.pru) hx
   have Oo:∀wx,Mod (fun _=>False) w3 wx->wx.cell? ⟨g,0,none⟩=some (.slice a l.length cap)/\wx.cell? ⟨w.heap.size,7,none⟩=some (.int .i64 r.at_)/\wx.cell? ⟨w2.heap.size,0,none⟩=some (.int .i64 x.kind)/\Mod (fun _=>False) w wx:=fun wx hx=>by
    obtain ⟨e0,e1,e2,e3,e4,e5,e6⟩:=HF.out wx (fE.trans hx zi);exact ⟨e0,e4,hx.cell (d6 iV rfl) id,e6⟩
   obtain ⟨G,hG⟩:∃G,V7 (l.map Ru.pru) r.at_ l.length=G:=⟨_,rfl⟩
   have hgo:∀wx,Mod (fun _=>False) w3 wx->Calls Tryz.prog 75 #[.pointer (some ⟨g,0,none⟩),.int .i64 r.at_,.int .i64 l.length] wx fun e w'=>e= .returned (.bool G)/\Mod (fun _=>False) w3 w':=fun wx hx=>by
    obtain ⟨e0,e1,e2,e3,e4,e5,e6⟩:=HF.out wx (fE.trans hx zi);have h1:=a8P wx g a cap l e0 e5 zo r.at_ l.length (Nat.le_refl _);rw [hG] at h1;exact h1.mono fun e w' ⟨he,hm⟩=>⟨he,hx.trans hm zi⟩
   rw [show V7 (l.map Ru.pru) r.pru.at_ l.length=G from hG] at JI;refine hh8 hx hxm hm2 lN hw3 cB iV fE fun Hx iJ aS JG nC oq JH oz=> ?_;refine hh4 JI Oo hgo hG fun JJ rF sV HG=> ?_;clear hx hxm hm2 lN hw3 cB iV fE JI Oo hgo hG oo f0 f1 f2 f3 f4;by_cases x4:x.kind=4
   ·have h1:R=3:=by rw [sU.out,JJ.out,decide_eq_true x4];rfl
    have t1:(x.kind==4)=true:=by simpa using x4
    refine hh1 h1 fun H1=> ?_;clear h1
    go_wp2_with ((with_reducible refine d9 36 (.tmp 5) (.tmp 26) ?_);refine ⟨rfl,x.cells,rfl,rfl,zk,rfl, ?_⟩;rw [nC.out])
    refine g9 zk zk ?_
    iterate 23 (first
     | (refine j1 ?_ (fun K hK=> ?_)
        ·first|(go_simp;done)|(go_simp;simp [undef];done)
        go_simp;refine hK _ ?_;clear hK K)
     | (refine l9 ?_ ?_ (fun w' hw'=> ?_) (fun K hK=> ?_)
        ·first|(go_simp;done)|(go_simp;simp [undef];done)
        rotate_left
        ·obtain ⟨f0,f1,f2,f3⟩:=rF.out w' hw';go_simp;rfl
        go_simp;refine hK _ ?_;clear hK K))
    refine j8 (fun w' hw'=> ?_);have dJ:=Lib.hid (rF.out w' hw').2.2.2;clear hw'
    go_wp2
    go_ret;exact ⟨by rw [H1.out];rfl,dJ.out⟩
   have t1:(x.kind==4)=false:=by simpa using x4
   by_cases x0:x.kind=0
   ·have h1:R=3:=by rw [sU.out,JJ.out,decide_eq_false x4,decide_eq_true x0];rfl
    have t2:(x.kind==0)=true:=by simpa using x0
    refine hh1 h1 fun H1=> ?_;clear h1
    go_wp2_with ((with_reducible refine d9 36 (.tmp 5) (.tmp 26) ?_);refine ⟨rfl,x.cells,rfl,rfl,zk,rfl, ?_⟩;rw [nC.out])
    refine g9 zk zk ?_
    iterate 23 (first
     | (refine j1 ?_ (fun K hK=> ?_)
        ·first|(go_simp;done)|(go_simp;simp [undef];done)
        go_simp;refine hK _ ?_;clear hK K)
     | (refine l9 ?_ ?_ (fun w' hw'=> ?_) (fun K hK=> ?_)
        ·first|(go_simp;done)|(go_simp;simp [undef];done)
        rotate_left
        ·obtain ⟨f0,f1,f2,f3⟩:=rF.out w' hw';go_simp;rfl
        go_simp;refine hK _ ?_;clear hK K))
    refine j8 (fun w' hw'=> ?_);have dJ:=Lib.hid (rF.out w' hw').2.2.2;clear hw'
    go_wp2
    go_ret;exact ⟨by rw [H1.out];rfl,dJ.out⟩
   have t2:(x.kind==0)=false:=by simpa using x0
   have h1:R=if G then 3 else 0:=by rw [sU.out,JJ.out,decide_eq_false x4,decide_eq_false x0];cases G<;>rfl
   cases G with
   |true=>
    refine hh1 h1 fun H1=> ?_;clear h1
    go_wp2_with ((with_reducible refine d9 36 (.tmp 5) (.tmp 26) ?_);refine ⟨rfl,x.cells,rfl,rfl,zk,rfl, ?_⟩;rw [nC.out])
    refine g9 zk zk ?_
    iterate 23 (first
     | (refine j1 ?_ (fun K hK=> ?_)
        ·first|(go_simp;done)|(go_simp;simp [undef];done)
        go_simp;refine hK _ ?_;clear hK K)
     | (refine l9 ?_ ?_ (fun w' hw'=> ?_) (fun K hK=> ?_)
        ·first|(go_simp;done)|(go_simp;simp [undef];done)
        rotate_left
        ·obtain ⟨f0,f1,f2,f3⟩:=rF.out w' hw';go_simp;rfl
        go_simp;refine hK _ ?_;clear hK K)
     | (refine q7 ?_ ?_ ?_ ?_ (fun w' hw'=> ?_) ?_ (fun K hK=> ?_)
        ·first|(go_simp;done)|(go_simp;simp [undef];done)
        rotate_left 3
        ·obtain ⟨f0,f1,f2,f3⟩:=rF.out w' hw';go_simp;constructor<;>rfl
        ·first|with_reducible exact sV.out
        go_simp;refine hK _ ?_;clear hK K))
    refine j8 (fun w' hw'=> ?_);have dJ:=Lib.hid (rF.out w' hw').2.2.2;clear hw'
    go_wp2
    go_ret;exact ⟨by rw [H1.out];rfl,dJ.out⟩
   | false=>
    refine hh1 h1 fun H1=> ?_;clear h1
    go_wp2_with ((with_reducible refine d9 36 (.tmp 5) (.tmp 26) ?_);refine ⟨rfl,x.cells,rfl,rfl,zk,rfl, ?_⟩;rw [nC.out])
    refine g9 zk zk ?_
    iterate 23 (first
     | (refine j1 ?_ (fun K hK=> ?_)
        ·first|(go_simp;done)|(go_simp;simp [undef];done)
        go_simp;refine hK _ ?_;clear hK K)
     | (refine l9 ?_ ?_ (fun w' hw'=> ?_) (fun K hK=> ?_)
        ·first|(go_simp;done)|(go_simp;simp [undef];done)
        rotate_left
        ·obtain ⟨f0,f1,f2,f3⟩:=rF.out w' hw';go_simp;rfl
        go_simp;refine hK _ ?_;clear hK K)
     | (refine q7 ?_ ?_ ?_ ?_ (fun w' hw'=> ?_) ?_ (fun K hK=> ?_)
        ·first|(go_simp;done)|(go_simp;simp [undef];done)
        rotate_left 3
        ·obtain ⟨f0,f1,f2,f3⟩:=rF.out w' hw';go_simp;constructor<;>rfl
        ·first|with_reducible exact sV.out
        go_simp;refine hK _ ?_;clear hK K))
    refine j8 (fun w' hw'=> ?_);have dJ:=Lib.hid (rF.out w' hw').2.2.2;clear hw'
    go_wp2
    go_ret;exact ⟨by rw [H1.out];rfl,dJ.out⟩
 obtain ⟨O,hO⟩:∃O,K0 l r.tenant r.who=O:=⟨_,rfl⟩
 have hRv:R=if r.kind=0 then (if O.isSome then 4 else if F1 (l.map Ru.pru)=12 then 6 else 0) else if O.isSome then 0 else 3:=by
  rw [<-HR.out];unfold R2;rw [if_neg hq1,if_neg hq2,if_neg (show¬r.pru.kind=4 from hk4),show a1A (l.map Ru.pru) r.pru.tenant r.pru.who=O from RX.out.trans hO];rfl
 have hho:∀wx,Mod (fun _=>False) w1 wx->Calls Tryz.prog 52 #[.slice a l.length cap,.int .i64 r.tenant,.string r.who] wx fun e w'=>e= .returned (.tuple #[.int .i64 (O.getD 0),.bool O.isSome])/\Mod (fun _=>False) w1 w':=fun wx hx=>by
  obtain ⟨e0,e1,e2,e3,e4,e5,e6⟩:=HF.out wx (hm1.trans hx zi);have h1:=a9b wx (.slice a l.length cap) l e5 zo r.tenant r.who;rw [hO] at h1;exact h1.mono fun e w' ⟨he,hm⟩=>⟨he,hx.trans hm zi⟩
 have hF1:∀wx,Mod (fun _=>False) w1 wx->wx.cell? ⟨g,0,none⟩=some (.slice a l.length cap)/\wx.cell? ⟨w.heap.size,0,none⟩=some (.int .i64 r.kind)/\wx.cell? ⟨w.heap.size,1,none⟩=some (.int .i64 r.tenant)/\wx.cell? ⟨w.heap.size,2,none⟩=some (.string r.who)/\Q5 wx (.slice a l.length cap) l/\Mod (fun _=>False) w wx:=fun wx hx=>by
  obtain ⟨e0,e1,e2,e3,e4,e5,e6⟩:=HF.out wx (hm1.trans hx zi);exact ⟨e0,e1,e2,e3,e5,e6⟩
 obtain ⟨S,hS⟩:∃S,O.isSome=S:=⟨_,rfl⟩;obtain ⟨D,hD⟩:∃D,O.getD 0=D:=⟨_,rfl⟩;rw [hS] at hRv;simp only [hS,hD] at hho;have t4:(r.kind==4)=false:=by simpa using hk4
 refine hh8 hm1 hRv hho hF1 f5 f6 hO hS fun dn sU lH Cu F5 F6 HO HS=> ?_;refine hh1 hD fun HD=> ?_;clear hm1 hRv hho hF1 f5 f6 hO hS hD hb hq1 hq2
 go_wp2_with fail
 refine g9 zk zk ?_
 iterate 14 (first
  | (refine j1 ?_ (fun K hK=> ?_)
     ·first|(go_simp;done)|(go_simp;simp [undef];done)
     go_simp;refine hK _ ?_;clear hK K)
  | (refine l9 ?_ ?_ (fun w' hw'=> ?_) (fun K hK=> ?_)
     ·first|(go_simp;done)|(go_simp;simp [undef];done)
     rotate_left
     ·obtain ⟨f0,f1,f2,f3,f4,f5⟩:=Cu.out w' hw';have F4:=Lib.hid f4;have F5:=Lib.hid f5;clear f4 f5;go_simp;rfl
     go_simp;refine hK _ ?_;clear hK K)
  | (refine q7 ?_ ?_ ?_ ?_ (fun w' hw'=> ?_) ?_ (fun K hK=> ?_)
     ·first|(go_simp;done)|(go_simp;simp [undef];done)
     rotate_left 3
     ·obtain ⟨f0,f1,f2,f3,f4,f5⟩:=Cu.out w' hw';have F4:=Lib.hid f4;have F5:=Lib.hid f5;clear f4 f5;go_simp;constructor<;>rfl
     ·first|with_reducible exact lH.out
     go_simp;refine hK _ ?_;clear hK K))
 refine j8 (fun w' hw'=> ?_);obtain ⟨e0,e1,e2,e3,e4,e5⟩:=Cu.out w' hw';clear f0 f1 f2 f3 f4;by_cases hk0:r.kind=0
 ·cases S with
  |true=>
   have h1:R=4:=by rw [sU.out,if_pos hk0];rfl
   refine hh2 h1 e5 fun H1 E5=> ?_;clear h1 e5 e4 hw'
   go_wp2
   go_ret;exact ⟨by rw [H1.out];rfl,E5.out⟩
  | false=>
   have hpe:=a9O w' g a cap l e0 e4 zo
   have qY:F1 (l.map Ru.pru)<=40:=by
    unfold F1;refine Nat.le_trans (List.length_filter_le _ _) ?_;rw [JF.out];omega
   have h1:R=if F1 (l.map Ru.pru)=12 then 6 else 0:=by rw [sU.out,if_pos hk0];rfl
   obtain ⟨p,hp⟩:∃p,F1 (l.map Ru.pru)=p:=⟨_,rfl⟩;rw [hp] at hpe qY h1;have RY:(p:Int)<=40:=zo
   refine hh4 h1 e5 hpe hp fun H1 E5 RZ Hp=> ?_;clear h1 e5 hpe hp e4 hw'
   go_wp2_with fail
   refine RZ.out.mono ?_;rintro e w3 ⟨rfl,au⟩;have aR:=E5.out.trans au zi;have b0:=au.cell e1 id;refine hh2 aR au fun aT aZ=> ?_;clear aR au;by_cases Cv:p=12
   ·have Cw:(p:Int)=12:=zo
    have h2:R=6:=by rw [H1.out,if_pos Cv]
    refine hh1 h2 fun H2=> ?_;clear h2
    go_wp2
    go_ret;exact ⟨by rw [H2.out];rfl,aT.out⟩
   have Cw:¬(p:Int)=12:=zo
   have h2:R=0:=by rw [H1.out,if_neg Cv]
   refine hh1 h2 fun H2=> ?_;clear h2
   go_wp2
   go_ret;exact ⟨by rw [H2.out];rfl,aT.out⟩
 ·cases S with
  |true=>
   have h1:R=0:=by rw [sU.out,if_neg hk0];rfl
   refine hh2 h1 e5 fun H1 E5=> ?_;clear h1 e5 e4 hw'
   go_wp2
   go_ret;exact ⟨by rw [H1.out];rfl,E5.out⟩
  |false=>
   have h1:R=3:=by rw [sU.out,if_neg hk0];rfl
   refine hh2 h1 e5 fun H1 E5=> ?_;clear h1 e5 e4 hw'
   go_wp2
   go_ret;exact ⟨by rw [H1.out];rfl,E5.out⟩
end Go.Proofs.YtdmjoodhaeijmaaGreatDoor
