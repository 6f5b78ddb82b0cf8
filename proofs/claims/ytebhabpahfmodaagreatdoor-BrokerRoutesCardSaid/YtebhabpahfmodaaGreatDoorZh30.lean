/- Lemmas. -/
import Derived.Test.YtebhabpahfmodaaGreatDoorZh27
set_option maxHeartbeats 40000000
set_option maxRecDepth 20000
namespace Go.Proofs.YtebhabpahfmodaaGreatDoor
open Go.RowKit
def Ru.pru (r:Ru):PRu:=⟨r.kind,r.tenant,r.who,r.broker,r.sc,r.cs,r.name,r.at_⟩
theorem b5W (x:Lr):x.ru.pru=x.1:=rfl
theorem a9B (L:List Lr):(L.map Lr.ru).map Ru.pru=L.map Prod.fst:=by
 rw [List.map_map];rfl
theorem a4a (l:List Ru) (tenant:Int) (who:ByteArray):a1A (l.map Ru.pru) tenant who=q9 l tenant who:=by
 unfold a1A q9;rw [List.map_map]
 have h:∀l:List Ru,((l.map ((fun p:PRu=>p.lies none 0)∘Ru.pru)).find? fun r=>r.of 0 tenant who).map Ru.broker=(l.find? fun r=>r.of 0 tenant who).map Ru.broker:=fun l=>by
  induction l with
  |nil=>rfl
  |cons a l ih=>
   rw [List.map_cons,List.find?_cons,List.find?_cons];have e:(((fun p:PRu=>p.lies none 0)∘Ru.pru) a).of 0 tenant who=a.of 0 tenant who:=rfl;rw [e];cases a.of 0 tenant who
   ·exact ih
   rfl
 rw [<-List.map_reverse];exact h l.reverse
theorem b2y (l:List Ru) (n:Nat):rus (l.take n)=(rus l).take (n*8):=by
 induction l generalizing n with
 |nil=>rw [List.take_nil];simp [rus]
 | cons a l ih=>
  cases n with
  |zero=>rw [Nat.zero_mul,List.take_zero];rfl
  |succ n=>
   rw [List.take_succ_cons,a1M,a1M,ih,Nat.add_mul,Nat.one_mul,Nat.add_comm,List.take_append];have e:a.cells.length=8:=Ru.cells_length a;rw [e,List.take_of_length_le (l:=a.cells) zo,Nat.add_sub_cancel_left]
theorem I9.take {w:World} {a:Option Addr} {cap:Nat} {l:List Ru} (h:I9 w (.slice a l.length cap) l) {n:Nat} (hn:n<=l.length):I9 w (.slice a n cap) (l.take n):=by
 have hl:(l.take n).length=n:=by rw [List.length_take];omega
 obtain ⟨h1,a',cap',he,h3,h4,h5⟩:=h.rd;cases he
 refine ⟨⟨by rw [a39],a,cap,by rw [hl],zo,fun e=>by have:=h4 e;omega,fun b hb h0=> ?_⟩,fun r hr=>h.ok r (List.mem_of_mem_take hr)⟩;obtain ⟨g,off,e,h6⟩:=h5 b hb zo;refine ⟨g,off,e,fun j u hu=>h6 j u ?_⟩;rw [b2y,List.getElem?_take] at hu;split at hu
 ·exact hu
 ·cases hu
theorem a3r (w:World) (g:Nat) (a:Option Addr) (n cap:Nat) (c0:w.cell? ⟨g,0,none⟩=some (.slice a n cap)):
 Calls Tryz.prog 31 #[.pointer (some ⟨g,0,none⟩)] w fun e w'=>e= .returned (.int .i64 n)/\w=w':=by
 go_enter Tryz.func31,Tryz.ntmps31
 go_wp2
 go_ret;exact ⟨rfl,rfl⟩
theorem a9C (w:World) (g:Nat) (a:Option Addr) (cap:Nat) (l:List Ru) (c0:w.cell? ⟨g,0,none⟩=some (.slice a l.length cap)) (hv:I9 w (.slice a l.length cap) l) (hll:l.length<=1000) (i:Int) (n:Nat) (hn:n<=l.length):
 Calls Tryz.prog 73 #[.pointer (some ⟨g,0,none⟩),.int .i64 i,.int .i64 n] w fun e w'=>e= .returned (.bool (D3 (l.map Ru.pru) i n))/\Mod (fun _=>False) w w':=by
 have hcap:l.length<=cap:=by obtain ⟨-,a',c',h,h2, -⟩:=hv.rd;cases h;exact h2
 have bf:(n:Int)<=cap:=zo
 have hn':(n:Int)<=l.length:=zo
 have hn0:(0:Int)<=n:=zo
 have hv2:=hv.take hn;have hl2:(l.take n).length=n:=by rw [List.length_take];omega
 rw [show Value.slice a n cap=Value.slice a (l.take n).length cap by rw [hl2]] at hv2;obtain ⟨R,hR⟩:∃R,D3 (l.map Ru.pru) i n=R:=⟨_,rfl⟩;rw [hR];obtain ⟨Hv,QE,HR,Cf⟩:=zh4 hv hv2 hR hl2;clear hv hv2 hR hl2 hcap hn
 go_enter Tryz.func73,Tryz.ntmps73
 go_wp2_with fail
 go_loopw [16] (fun i' wr=>∃j:Nat,i'= .int .i64 j/\j<=n/\Mod (fun _=>False) w wr/\(∀(k:Nat) (x:Ru),k<j->(l.take n)[k]? =some x->(decide (x.kind=4)&&decide (x.at_=i))=false)) (fun i' _=>n - (intOf i').toNat)
 case atStart=>exact ⟨0,rfl,Nat.zero_le _,Mod.refl _ _,fun k x hk=>zo⟩
 case round=>
  obtain ⟨j,rfl,hj,hmr,hall⟩:=hrel;by_cases hlt:j<n
  ·have hlt':(j:Int)<n:=zo
   obtain ⟨x,hxj⟩:∃x,(l.take n)[j]? =some x:=⟨_,zz5 (by rw [Cf.out];exact hlt)⟩;obtain ⟨g2,off,rfl,hf⟩:∃g2 off,a=some ⟨g2,off,none⟩/\e9 wr g2 (off+j*8) x.cells:=F1 (QE.out.mod hmr) hxj;obtain ⟨wz,hwz,ai,aj,aJ⟩:=g8 wr (.cells x.cells.toArray 28);have hmz:=hmr.trans ai zi;have c0k:wz.cell? ⟨wr.heap.size,0,none⟩=some (.int .i64 x.kind):=d6 aj rfl;have c7k:wz.cell? ⟨wr.heap.size,7,none⟩=some (.int .i64 x.at_):=d6 aj rfl;obtain ⟨aK,aM,cB,Hf,bi,bn,aN,bG⟩:=zh8 hmr hall hxj hf hwz ai aj hmz;clear hmr hall hxj hf hwz ai aj hmz aJ;by_cases hk4:x.kind=4
   ·by_cases hat:x.at_=i
    ·go_wp2_with (first|((with_reducible refine d8 28 (.tmp 18) ?_);refine ⟨g2,off+j*8,rfl,x.cells,Hf.out,zk,zk, ?_⟩)|((with_reducible refine d9 28 (.tmp 8) (.tmp 19) ?_);refine ⟨rfl,x.cells,rfl,rfl,zk,rfl, ?_⟩;rw [bi.out]))
     go_ret;refine ⟨?_,bG.out⟩;rw [<-HR.out]
     have:D3 (l.map Ru.pru) i n=true:=by
      unfold D3;rw [<-List.map_take,List.any_eq_true];exact ⟨x.pru,List.mem_map.2 ⟨x,zz8 cB.out,rfl⟩,by simp [Ru.pru,hk4,hat]⟩
     rw [this];rfl
    go_wp2_with (first|((with_reducible refine d8 28 (.tmp 18) ?_);refine ⟨g2,off+j*8,rfl,x.cells,Hf.out,zk,zk, ?_⟩)|((with_reducible refine d9 28 (.tmp 8) (.tmp 19) ?_);refine ⟨rfl,x.cells,rfl,rfl,zk,rfl, ?_⟩;rw [bi.out]))
    go_roundw
    case rel=>
     refine ⟨j+1,by go_num,hlt,bG.out,fun k x' hk hx'=> ?_⟩;rcases Nat.lt_succ_iff_lt_or_eq.1 hk with hk|rfl
     ·exact aM.out k x' hk hx'
     rw [cB.out] at hx';cases hx';simp [hat]
    case measure=>simp [intOf];omega
   go_wp2_with (first|((with_reducible refine d8 28 (.tmp 18) ?_);refine ⟨g2,off+j*8,rfl,x.cells,Hf.out,zk,zk, ?_⟩)|((with_reducible refine d9 28 (.tmp 8) (.tmp 19) ?_);refine ⟨rfl,x.cells,rfl,rfl,zk,rfl, ?_⟩;rw [bi.out]))
   go_roundw
   case rel=>
    refine ⟨j+1,by go_num,hlt,bG.out,fun k x' hk hx'=> ?_⟩;rcases Nat.lt_succ_iff_lt_or_eq.1 hk with hk|rfl
    ·exact aM.out k x' hk hx'
    rw [cB.out] at hx';cases hx';simp [hk4]
   case measure=>simp [intOf];omega
  obtain rfl:j=n:=zo
  obtain ⟨aK,aM⟩:=zh2 hmr hall;clear hmr hall
  go_wp2
  go_ret;refine ⟨?_,aK.out⟩;rw [<-HR.out]
  have:D3 (l.map Ru.pru) i j=false:=by
   unfold D3;rw [<-List.map_take,List.any_eq_false];intro p hp;obtain ⟨x,hx,rfl⟩:=List.mem_map.1 hp;obtain ⟨k,hk⟩:=List.mem_iff_getElem?.1 hx;have hkl:=(zz6 hk).1;have h1:=aM.out k x (by rw [Cf.out] at hkl;exact hkl) hk;intro h2;have h3:(decide (x.kind=4)&&decide (x.at_=i))=true:=h2;rw [h1] at h3;cases h3
  rw [this];rfl
theorem b0B (w:World) (g:Nat) (a:Option Addr) (cap:Nat) (l:List Ru) (c0:w.cell? ⟨g,0,none⟩=some (.slice a l.length cap)) (hv:I9 w (.slice a l.length cap) l) (hll:l.length<=1000):
 Calls Tryz.prog 94 #[.pointer (some ⟨g,0,none⟩)] w fun e w'=>e= .returned (.int .i64 (E8 (l.map Ru.pru)))/\Mod (fun _=>False) w w':=by
 have bN:(l.length:Int)<=1000:=zo
 have hcap:l.length<=cap:=by obtain ⟨-,a',c',h,h2, -⟩:=hv.rd;cases h;exact h2
 have bf:(l.length:Int)<=cap:=zo
 have Hv:=zh hv;clear hv hcap
 go_enter Tryz.func94,Tryz.ntmps94
 go_wp2_with fail
 go_loopw [3,11] (fun n i wr=>∃j:Nat,i= .int .i64 j/\j<=l.length/\n= .int .i64 (E8 ((l.take j).map Ru.pru))/\Mod (fun _=>False) w wr) (fun _ i _=>l.length - (intOf i).toNat)
 case atStart=>exact ⟨0,rfl,Nat.zero_le _,rfl,Mod.refl _ _⟩
 case round=>
  obtain ⟨j,rfl,hj,rfl,hmr⟩:=hrel;by_cases hlt:j<l.length
  ·have hlt':(j:Int)<l.length:=zo
   obtain ⟨x,hxj⟩:∃x,l[j]? =some x:=⟨_,zz5 hlt⟩;obtain ⟨g2,off,rfl,hf⟩:∃g2 off,a=some ⟨g2,off,none⟩/\e9 wr g2 (off+j*8) x.cells:=F1 (Hv.out.mod hmr) hxj;obtain ⟨wz,hwz,ai,aj,aJ⟩:=g8 wr (.cells x.cells.toArray 28);have hmz:=hmr.trans ai zi;have c0k:wz.cell? ⟨wr.heap.size,0,none⟩=some (.int .i64 x.kind):=d6 aj rfl
   have hp1:E8 ((l.take (j+1)).map Ru.pru)=E8 ((l.take j).map Ru.pru)+if x.kind=0 then 1 else 0:=by
    rw [List.take_add_one,hxj,Option.toList_some,List.map_append];unfold E8;rw [List.filter_append,zz4];congr 1;show (List.filter _ [x.pru]).length=_;by_cases h0:x.kind=0
    ·rw [if_pos h0];simp [Ru.pru,h0]
    rw [if_neg h0];simp [Ru.pru,h0]
   have Gn:E8 ((l.take j).map Ru.pru)<=j:=by
    unfold E8;refine Nat.le_trans (List.length_filter_le _ _) ?_;rw [zz10,List.length_take];omega
   obtain ⟨p,hp⟩:∃p,E8 ((l.take j).map Ru.pru)=p:=⟨_,rfl⟩;rw [hp] at hp1 Gn⊢;obtain ⟨aK,cB,Hf,bi,bn,aN,bG,AQ,Hp⟩:=zh9 hmr hxj hf hwz ai aj hmz hp1 hp;clear hmr hxj hf hwz ai aj hmz hp1 hp aJ;by_cases hk:x.kind=0
   ·go_wp2_with (first|((with_reducible refine d8 28 (.tmp 13) ?_);refine ⟨g2,off+j*8,rfl,x.cells,Hf.out,zk,zk, ?_⟩)|((with_reducible refine d9 28 (.tmp 5) (.tmp 14) ?_);refine ⟨rfl,x.cells,rfl,rfl,zk,rfl, ?_⟩;rw [bi.out]))
    go_roundw
    case rel=>
     refine ⟨j+1,by go_num,hlt, ?_,bG.out⟩;rw [AQ.out,if_pos hk];go_num
    case measure=>simp [intOf];omega
   go_wp2_with (first|((with_reducible refine d8 28 (.tmp 13) ?_);refine ⟨g2,off+j*8,rfl,x.cells,Hf.out,zk,zk, ?_⟩)|((with_reducible refine d9 28 (.tmp 5) (.tmp 14) ?_);refine ⟨rfl,x.cells,rfl,rfl,zk,rfl, ?_⟩;rw [bi.out]))
   go_roundw
   case rel=>
    refine ⟨j+1,by go_num,hlt, ?_,bG.out⟩;rw [AQ.out,if_neg hk];rfl
   case measure=>simp [intOf];omega
  obtain rfl:j=l.length:=zo
  have aK:=zh hmr;clear hmr
  go_wp2
  go_ret;refine ⟨?_,aK.out⟩;rw [List.take_of_length_le (Nat.le_refl _)];rfl
def P7 (l:List Ru) (i:Int):Option Ru:=if i<0 then none else l[i.toNat]?
def W2:Ru:=PRu.zero.lies none 0
theorem b4C (w:World) (g:Nat) (a:Option Addr) (cap:Nat) (l:List Ru) (c0:w.cell? ⟨g,0,none⟩=some (.slice a l.length cap)) (hv:I9 w (.slice a l.length cap) l) (hll:l.length<=1000) (i:Int):
 Calls Tryz.prog 93 #[.pointer (some ⟨g,0,none⟩),.int .i64 i] w fun e w'=>e= .returned (.tuple #[.agg ((P7 l i).getD W2).cells.toArray,.bool (P7 l i).isSome])/\Mod (fun _=>False) w w':=by
 have bN:(l.length:Int)<=1000:=zo
 obtain ⟨wa,aD,ah,ae,au⟩:=g8 w (.cells W2.cells.toArray 28);have hgl:g<w.heap.size:=World.block_lt_of_cell? w _ c0;have c0a:wa.cell? ⟨g,0,none⟩=some (.slice a l.length cap):=ah.cell c0 id;have hva:=hv.mod ah;have kS:w.alloc (.cells #[.int .i64 0,.int .i64 0,.string ⟨#[]⟩,.int .i64 0,.string ⟨#[]⟩,.slice none 0 0,.string ⟨#[]⟩,.int .i64 0] 28)=wa:=aD;obtain ⟨Hv,dC,kT,aB,aH⟩:=zh5 hv hva kS ah ae;clear hv hva kS ah ae au aD;by_cases h0:i<0
 ·have hr:P7 l i=none:=by unfold P7;rw [if_pos h0]
  rw [hr]
  go_enter Tryz.func93,Tryz.ntmps93
  go_wp2_with (first|(rw [show w.alloc _=wa from kT.out])|((with_reducible refine j9 28 (.tmp 4) (.tmp 17) ?_);refine ⟨w.heap.size,rfl,_,_,aH.out,W2.cells,rfl,rfl,zk,rfl, ?_⟩;intro w3 hg3 aC;have gm:=Lib.hid hg3;have bA:=Lib.hid aC;have q1:=(e9.row hg3).all rfl;have q2:=(e9.row hg3).is rfl;clear hg3 aC))
  refine bodyPost_ret (v:= .tuple #[.agg W2.cells.toArray,.bool false]) ?_ rfl ⟨rfl,aB.out.upon bA.out (fun k hk=> .inr (Nat.le_of_eq (Eq.symm hk)))⟩;have hl:=p7 (P:=Tryz.prog) 28 w.heap.size 0 W2.cells (e9.row gm.out) zk zk;simp [results,Tryz.results93,Result.andThen,asAddr,hl]
 by_cases h1:(l.length:Int)<=i
 ·have hr:P7 l i=none:=by unfold P7;rw [if_neg h0,List.getElem?_eq_none zo]
  rw [hr]
  go_enter Tryz.func93,Tryz.ntmps93
  go_wp2_with (first|(rw [show w.alloc _=wa from kT.out])|((with_reducible refine j9 28 (.tmp 4) (.tmp 17) ?_);refine ⟨w.heap.size,rfl,_,_,aH.out,W2.cells,rfl,rfl,zk,rfl, ?_⟩;intro w3 hg3 aC;have gm:=Lib.hid hg3;have bA:=Lib.hid aC;have q1:=(e9.row hg3).all rfl;have q2:=(e9.row hg3).is rfl;clear hg3 aC))
  refine bodyPost_ret (v:= .tuple #[.agg W2.cells.toArray,.bool false]) ?_ rfl ⟨rfl,aB.out.upon bA.out (fun k hk=> .inr (Nat.le_of_eq (Eq.symm hk)))⟩;have hl:=p7 (P:=Tryz.prog) 28 w.heap.size 0 W2.cells (e9.row gm.out) zk zk;simp [results,Tryz.results93,Result.andThen,asAddr,hl]
 obtain ⟨j,rfl⟩:∃j:Nat,i=j:=⟨i.toNat,zo⟩;have hlt:j<l.length:=zo
 obtain ⟨x,hxj⟩:∃x,l[j]? =some x:=⟨_,zz5 hlt⟩;have hr:P7 l j=some x:=by unfold P7;rw [if_neg h0];exact hxj
 obtain ⟨g2,off,rfl,hf⟩:∃g2 off,a=some ⟨g2,off,none⟩/\e9 wa g2 (off+j*8) x.cells:=F1 dC.out hxj;rw [hr];obtain ⟨Hr,cB,Hf⟩:=zh3 hr hxj hf;clear hr hxj hf
 go_enter Tryz.func93,Tryz.ntmps93
 go_wp2_with (first|(rw [show w.alloc _=wa from kT.out])|((with_reducible refine d8 28 (.tmp 23) ?_);refine ⟨g2,off+j*8,rfl,x.cells,Hf.out,zk,zk, ?_⟩)|((with_reducible refine j9 28 (.tmp 4) (.tmp 24) ?_);refine ⟨w.heap.size,rfl,_,_,aH.out,x.cells,rfl,rfl,zk,rfl, ?_⟩;intro w3 hg3 aC;have gm:=Lib.hid hg3;have bA:=Lib.hid aC;have q1:=(e9.row hg3).all rfl;have q2:=(e9.row hg3).is rfl;clear hg3 aC))
 refine bodyPost_ret (v:= .tuple #[.agg x.cells.toArray,.bool true]) ?_ rfl ⟨rfl,aB.out.upon bA.out (fun k hk=> .inr (Nat.le_of_eq (Eq.symm hk)))⟩;have hl:=p7 (P:=Tryz.prog) 28 w.heap.size 0 x.cells (e9.row gm.out) zk zk;simp [results,Tryz.results93,Result.andThen,asAddr,hl]
theorem b0C (l:List Ru) (i:Int):P7 l i=none->a75 (l.map Ru.pru) ⟨0,0,⟨#[]⟩,0,⟨#[]⟩,[],⟨#[]⟩,i⟩=false:=fun h=>by
 unfold P7 at h;unfold a75;by_cases h0:i<0
 ·rw [if_pos h0]
 rw [if_neg h0] at h⊢;rw [List.getElem?_map,h];rfl
theorem b0D {l:List Ru} {p:PRu} (h:P7 l p.at_=none):a75 (l.map Ru.pru) p=false:=b0C l p.at_ h
theorem b0E {l:List Ru} {p:PRu} {x:Ru} (h:P7 l p.at_=some x):a75 (l.map Ru.pru) p=(!(decide (x.kind=4))&& !(decide (x.kind=0))&& !D3 (l.map Ru.pru) p.at_ l.length):=by
 unfold P7 at h;unfold a75;by_cases h0:p.at_<0
 ·rw [if_pos h0] at h;cases h
 rw [if_neg h0] at h⊢;rw [List.getElem?_map,h,zz10];rfl
theorem b0F {l:List Ru} {i:Int} {x:Ru} (h:P7 l i=some x):x∈l:=by
 unfold P7 at h;split at h
 ·cases h
 exact zz8 h
theorem b2z (w:World) (g:Nat) (a:Option Addr) (cap:Nat) (l:List Ru) (c0:w.cell? ⟨g,0,none⟩=some (.slice a l.length cap)) (hv:I9 w (.slice a l.length cap) l) (hll:l.length<=40) (r:Ru) (hr:r.ok w):
 Calls Tryz.prog 59 #[.pointer (some ⟨g,0,none⟩),.agg r.cells.toArray] w fun e w'=>e= .returned (.int .i64 (a1B (l.map Ru.pru) r.pru))/\Mod (fun _=>False) w w':=by
 obtain ⟨wa,aD,ah,ae,au⟩:=g8 w (.cells r.cells.toArray 28);have hgl:g<w.heap.size:=World.block_lt_of_cell? w _ c0;have hrt:=a99 r wa (hr.mod ah);have bN:(l.length:Int)<=40:=zo
 obtain ⟨R,hR⟩:∃R,a1B (l.map Ru.pru) r.pru=R:=⟨_,rfl⟩;rw [hR];have hRr:r.pru.rightB=r.rightB:=rfl;have WC:=a4a l r.tenant r.who;have hlm:(l.map Ru.pru).length=l.length:=zz10 _
 have hF:∀wx,Mod (fun _=>False) wa wx->wx.cell? ⟨g,0,none⟩=some (.slice a l.length cap)/\wx.cell? ⟨w.heap.size,0,none⟩=some (.int .i64 r.kind)/\wx.cell? ⟨w.heap.size,1,none⟩=some (.int .i64 r.tenant)/\wx.cell? ⟨w.heap.size,2,none⟩=some (.string r.who)/\
  wx.cell? ⟨w.heap.size,7,none⟩=some (.int .i64 r.at_)/\I9 wx (.slice a l.length cap) l/\Mod (fun _=>False) w wx:=fun wx hx=>
  ⟨hx.cell (ah.cell c0 id) id,hx.cell (d6 ae rfl) id,hx.cell (d6 ae rfl) id,hx.cell (d6 ae rfl) id,hx.cell (d6 ae rfl) id,(hv.mod ah).mod hx,ah.trans hx zi⟩
 have hgz:g≠w.heap.size:=zo
 obtain ⟨Hv,Hr,aF,aB,aH,NL,HR,zx,HHo,FB,HF⟩:=zh11 hv hr aD ah ae hrt hR hRr WC hlm hF;clear hv hr aD ah ae hrt hR hRr WC hlm hF au c0 hgl
 go_enter Tryz.func59,Tryz.ntmps59
 go_wp2_with (first|(rw [show w.alloc _=wa from aF.out])|((with_reducible refine d8 28 (.tmp 3) ?_);refine ⟨w.heap.size,0,rfl,r.cells,e9.row aH.out,zk,zk, ?_⟩))
 refine NL.out.mono ?_;rintro e w1 ⟨rfl,hm1⟩;obtain ⟨f0,f1,f2,f3,f4,f5,f6⟩:=HF.out w1 hm1
 cases hb:r.rightB with
 |false=>
  have h1:R=1:=by rw [<-HR.out];unfold a1B;rw [if_pos (zx.out.trans hb)]
  obtain ⟨F6,H1⟩:=zh2 f6 h1;clear f6 h1 f5 hm1 hb
  go_wp2
  go_ret;exact ⟨by rw [H1.out];rfl,F6.out⟩
 |true=>
 have hq1:¬r.pru.rightB=false:=by rw [zx.out,hb];decide
 by_cases Cg:l.length=40
 ·have h1:R=6:=by rw [<-HR.out];unfold a1B;rw [if_neg hq1,if_pos (FB.out.trans Cg)]
  have Jd:(l.length:Int)=40:=zo
  obtain ⟨F6,H1⟩:=zh2 f6 h1;clear f6 h1 f5 hm1 hb hq1
  go_wp2
  go_ret;exact ⟨by rw [H1.out];rfl,F6.out⟩
 have Jd:¬(l.length:Int)=40:=zo
 have hq2:¬(l.map Ru.pru).length=40:=by rw [FB.out];exact Cg
 by_cases hk4:r.kind=4
 ·have hRv:R=if a75 (l.map Ru.pru) r.pru then 0 else 3:=by rw [<-HR.out];unfold a1B;rw [if_neg hq1,if_neg hq2,if_pos (show r.pru.kind=4 from hk4)]
  have fE:=b4C w1 g a cap l f0 f5 zo r.at_;obtain ⟨dB,xq,xu,F5,F6⟩:=zh5 hm1 hRv fE f5 f6;clear hm1 hRv fE f5 f6 hb hq1 hq2
  go_wp2_with fail
  refine xu.out.mono ?_;rintro e w2 ⟨rfl,hm2⟩;have oU:=dB.out.trans hm2 zi
  cases hx:P7 l r.at_ with
  |none=>
   obtain ⟨w3,hw3,fP,oV,Ch⟩:=g8 w2 (.cells W2.cells.toArray 28);have gT:=oU.trans fP zi;have h1:R=3:=by rw [xq.out,b0D hx];rfl
   obtain ⟨Hx,bq,QF,zy,jD,QG,qF,H1⟩:=zh8 hx hm2 oU hw3 fP oV gT h1;clear hx hm2 oU hw3 fP oV gT h1 Ch f0 f1 f2 f3 f4
   go_wp2_with ((with_reducible refine d9 28 (.tmp 5) (.tmp 26) ?_);refine ⟨rfl,W2.cells,rfl,rfl,zk,rfl, ?_⟩;rw [zy.out])
   refine i7 zk zk ?_
   iterate 23 (first
    | (refine j6 ?_ (fun K hK=> ?_)
       ·first|(go_simp;done)|(go_simp;simp [undef];done)
       go_simp;refine hK _ ?_;clear hK K)
    | (refine j7 ?_ ?_ (fun w' hw'=> ?_) (fun K hK=> ?_)
       ·first|(go_simp;done)|(go_simp;simp [undef];done)
       rotate_left
       ·skip
        go_simp;rfl
       go_simp;refine hK _ ?_;clear hK K))
   refine j8 (fun w' hw'=> ?_);have bS:=Lib.hid (HF.out w' (qF.out.trans hw' zi)).2.2.2.2.2.2;clear hw'
   go_wp2
   go_ret;exact ⟨by rw [H1.out];rfl,bS.out⟩
  | some x=>
   have hxm:=b0F hx;obtain ⟨w3,hw3,fP,oV,Ch⟩:=g8 w2 (.cells x.cells.toArray 28);have gT:=oU.trans fP zi;have QH:=b0E (p:=r.pru) hx
   have WE:∀wx,Mod (fun _=>False) w3 wx->wx.cell? ⟨g,0,none⟩=some (.slice a l.length cap)/\wx.cell? ⟨w.heap.size,7,none⟩=some (.int .i64 r.at_)/\wx.cell? ⟨w2.heap.size,0,none⟩=some (.int .i64 x.kind)/\Mod (fun _=>False) w wx:=fun wx hx=>by
    obtain ⟨e0,e1,e2,e3,e4,e5,e6⟩:=HF.out wx (gT.trans hx zi);exact ⟨e0,e4,hx.cell (d6 oV rfl) id,e6⟩
   obtain ⟨G,hG⟩:∃G,D3 (l.map Ru.pru) r.at_ l.length=G:=⟨_,rfl⟩
   have hgo:∀wx,Mod (fun _=>False) w3 wx->Calls Tryz.prog 73 #[.pointer (some ⟨g,0,none⟩),.int .i64 r.at_,.int .i64 l.length] wx fun e w'=>e= .returned (.bool G)/\Mod (fun _=>False) w3 w':=fun wx hx=>by
    obtain ⟨e0,e1,e2,e3,e4,e5,e6⟩:=HF.out wx (gT.trans hx zi);have h1:=a9C wx g a cap l e0 e5 zo r.at_ l.length (Nat.le_refl _);rw [hG] at h1;exact h1.mono fun e w' ⟨he,hm⟩=>⟨he,hx.trans hm zi⟩
   rw [show D3 (l.map Ru.pru) r.pru.at_ l.length=G from hG] at QH;obtain ⟨Hx,fH,bq,QF,zy,jD,QG,qF,QI,vk,xw,HG⟩:=zh12 hx hxm hm2 oU hw3 fP oV gT QH WE hgo hG;clear hx hxm hm2 oU hw3 fP oV gT QH WE hgo hG Ch f0 f1 f2 f3 f4;by_cases x4:x.kind=4
   ·have h1:R=3:=by rw [xq.out,QI.out,decide_eq_true x4];rfl
    have t1:(x.kind==4)=true:=by simpa using x4
    have H1:=zh h1;clear h1
    go_wp2_with ((with_reducible refine d9 28 (.tmp 5) (.tmp 26) ?_);refine ⟨rfl,x.cells,rfl,rfl,zk,rfl, ?_⟩;rw [zy.out])
    refine i7 zk zk ?_
    iterate 23 (first
     | (refine j6 ?_ (fun K hK=> ?_)
        ·first|(go_simp;done)|(go_simp;simp [undef];done)
        go_simp;refine hK _ ?_;clear hK K)
     | (refine j7 ?_ ?_ (fun w' hw'=> ?_) (fun K hK=> ?_)
        ·first|(go_simp;done)|(go_simp;simp [undef];done)
        rotate_left
        ·obtain ⟨f0,f1,f2,f3⟩:=vk.out w' hw';go_simp;rfl
        go_simp;refine hK _ ?_;clear hK K))
    refine j8 (fun w' hw'=> ?_);have bS:=Lib.hid (vk.out w' hw').2.2.2;clear hw'
    go_wp2
    go_ret;exact ⟨by rw [H1.out];rfl,bS.out⟩
   have t1:(x.kind==4)=false:=by simpa using x4
   by_cases x0:x.kind=0
   ·have h1:R=3:=by rw [xq.out,QI.out,decide_eq_false x4,decide_eq_true x0];rfl
    have t2:(x.kind==0)=true:=by simpa using x0
    have H1:=zh h1;clear h1
    go_wp2_with ((with_reducible refine d9 28 (.tmp 5) (.tmp 26) ?_);refine ⟨rfl,x.cells,rfl,rfl,zk,rfl, ?_⟩;rw [zy.out])
    refine i7 zk zk ?_
    iterate 23 (first
     | (refine j6 ?_ (fun K hK=> ?_)
        ·first|(go_simp;done)|(go_simp;simp [undef];done)
        go_simp;refine hK _ ?_;clear hK K)
     | (refine j7 ?_ ?_ (fun w' hw'=> ?_) (fun K hK=> ?_)
        ·first|(go_simp;done)|(go_simp;simp [undef];done)
        rotate_left
        ·obtain ⟨f0,f1,f2,f3⟩:=vk.out w' hw';go_simp;rfl
        go_simp;refine hK _ ?_;clear hK K))
    refine j8 (fun w' hw'=> ?_);have bS:=Lib.hid (vk.out w' hw').2.2.2;clear hw'
    go_wp2
    go_ret;exact ⟨by rw [H1.out];rfl,bS.out⟩
   have t2:(x.kind==0)=false:=by simpa using x0
   have h1:R=if G then 3 else 0:=by rw [xq.out,QI.out,decide_eq_false x4,decide_eq_false x0];cases G<;>rfl
   cases G with
   |true=>
    have H1:=zh h1;clear h1
    go_wp2_with ((with_reducible refine d9 28 (.tmp 5) (.tmp 26) ?_);refine ⟨rfl,x.cells,rfl,rfl,zk,rfl, ?_⟩;rw [zy.out])
    refine i7 zk zk ?_
    iterate 23 (first
     | (refine j6 ?_ (fun K hK=> ?_)
        ·first|(go_simp;done)|(go_simp;simp [undef];done)
        go_simp;refine hK _ ?_;clear hK K)
     | (refine j7 ?_ ?_ (fun w' hw'=> ?_) (fun K hK=> ?_)
        ·first|(go_simp;done)|(go_simp;simp [undef];done)
        rotate_left
        ·obtain ⟨f0,f1,f2,f3⟩:=vk.out w' hw';go_simp;rfl
        go_simp;refine hK _ ?_;clear hK K)
     | (refine m9 ?_ ?_ ?_ ?_ (fun w' hw'=> ?_) ?_ (fun K hK=> ?_)
        ·first|(go_simp;done)|(go_simp;simp [undef];done)
        rotate_left 3
        ·obtain ⟨f0,f1,f2,f3⟩:=vk.out w' hw';go_simp;constructor<;>rfl
        ·first|with_reducible exact xw.out
        go_simp;refine hK _ ?_;clear hK K))
    refine j8 (fun w' hw'=> ?_);have bS:=Lib.hid (vk.out w' hw').2.2.2;clear hw'
    go_wp2
    go_ret;exact ⟨by rw [H1.out];rfl,bS.out⟩
   | false=>
    have H1:=zh h1;clear h1
    go_wp2_with ((with_reducible refine d9 28 (.tmp 5) (.tmp 26) ?_);refine ⟨rfl,x.cells,rfl,rfl,zk,rfl, ?_⟩;rw [zy.out])
    refine i7 zk zk ?_
    iterate 23 (first
     | (refine j6 ?_ (fun K hK=> ?_)
        ·first|(go_simp;done)|(go_simp;simp [undef];done)
        go_simp;refine hK _ ?_;clear hK K)
     | (refine j7 ?_ ?_ (fun w' hw'=> ?_) (fun K hK=> ?_)
        ·first|(go_simp;done)|(go_simp;simp [undef];done)
        rotate_left
        ·obtain ⟨f0,f1,f2,f3⟩:=vk.out w' hw';go_simp;rfl
        go_simp;refine hK _ ?_;clear hK K)
     | (refine m9 ?_ ?_ ?_ ?_ (fun w' hw'=> ?_) ?_ (fun K hK=> ?_)
        ·first|(go_simp;done)|(go_simp;simp [undef];done)
        rotate_left 3
        ·obtain ⟨f0,f1,f2,f3⟩:=vk.out w' hw';go_simp;constructor<;>rfl
        ·first|with_reducible exact xw.out
        go_simp;refine hK _ ?_;clear hK K))
    refine j8 (fun w' hw'=> ?_);have bS:=Lib.hid (vk.out w' hw').2.2.2;clear hw'
    go_wp2
    go_ret;exact ⟨by rw [H1.out];rfl,bS.out⟩
 obtain ⟨O,hO⟩:∃O,q9 l r.tenant r.who=O:=⟨_,rfl⟩
 have hRv:R=if r.kind=0 then (if O.isSome then 4 else if E8 (l.map Ru.pru)=12 then 6 else 0) else if O.isSome then 0 else 3:=by
  rw [<-HR.out];unfold a1B;rw [if_neg hq1,if_neg hq2,if_neg (show¬r.pru.kind=4 from hk4),show a1A (l.map Ru.pru) r.pru.tenant r.pru.who=O from HHo.out.trans hO];rfl
 have hho:∀wx,Mod (fun _=>False) w1 wx->Calls Tryz.prog 70 #[.slice a l.length cap,.int .i64 r.tenant,.string r.who] wx fun e w'=>e= .returned (.tuple #[.int .i64 (O.getD 0),.bool O.isSome])/\Mod (fun _=>False) w1 w':=fun wx hx=>by
  obtain ⟨e0,e1,e2,e3,e4,e5,e6⟩:=HF.out wx (hm1.trans hx zi);have h1:=a5t wx (.slice a l.length cap) l e5 zo r.tenant r.who;rw [hO] at h1;exact h1.mono fun e w' ⟨he,hm⟩=>⟨he,hx.trans hm zi⟩
 have hF1:∀wx,Mod (fun _=>False) w1 wx->wx.cell? ⟨g,0,none⟩=some (.slice a l.length cap)/\wx.cell? ⟨w.heap.size,0,none⟩=some (.int .i64 r.kind)/\wx.cell? ⟨w.heap.size,1,none⟩=some (.int .i64 r.tenant)/\wx.cell? ⟨w.heap.size,2,none⟩=some (.string r.who)/\I9 wx (.slice a l.length cap) l/\Mod (fun _=>False) w wx:=fun wx hx=>by
  obtain ⟨e0,e1,e2,e3,e4,e5,e6⟩:=HF.out wx (hm1.trans hx zi);exact ⟨e0,e1,e2,e3,e5,e6⟩
 obtain ⟨S,hS⟩:∃S,O.isSome=S:=⟨_,rfl⟩;obtain ⟨D,hD⟩:∃D,O.getD 0=D:=⟨_,rfl⟩;rw [hS] at hRv;simp only [hS,hD] at hho;have t4:(r.kind==4)=false:=by simpa using hk4
 obtain ⟨dB,xq,jm,Gi,F5,F6,HO,HS,HD⟩:=zh9 hm1 hRv hho hF1 f5 f6 hO hS hD;clear hm1 hRv hho hF1 f5 f6 hO hS hD hb hq1 hq2
 go_wp2_with fail
 refine i7 zk zk ?_
 iterate 14 (first
  | (refine j6 ?_ (fun K hK=> ?_)
     ·first|(go_simp;done)|(go_simp;simp [undef];done)
     go_simp;refine hK _ ?_;clear hK K)
  | (refine j7 ?_ ?_ (fun w' hw'=> ?_) (fun K hK=> ?_)
     ·first|(go_simp;done)|(go_simp;simp [undef];done)
     rotate_left
     ·obtain ⟨f0,f1,f2,f3,f4,f5⟩:=Gi.out w' hw';have F4:=Lib.hid f4;have F5:=Lib.hid f5;clear f4 f5;go_simp;rfl
     go_simp;refine hK _ ?_;clear hK K)
  | (refine m9 ?_ ?_ ?_ ?_ (fun w' hw'=> ?_) ?_ (fun K hK=> ?_)
     ·first|(go_simp;done)|(go_simp;simp [undef];done)
     rotate_left 3
     ·obtain ⟨f0,f1,f2,f3,f4,f5⟩:=Gi.out w' hw';have F4:=Lib.hid f4;have F5:=Lib.hid f5;clear f4 f5;go_simp;constructor<;>rfl
     ·first|with_reducible exact jm.out
     go_simp;refine hK _ ?_;clear hK K))
 refine j8 (fun w' hw'=> ?_);obtain ⟨e0,e1,e2,e3,e4,e5⟩:=Gi.out w' hw';clear f0 f1 f2 f3 f4;by_cases hk0:r.kind=0
 ·cases S with
  |true=>
   have h1:R=4:=by rw [xq.out,if_pos hk0];rfl
   obtain ⟨H1,E5⟩:=zh2 h1 e5;clear h1 e5 e4 hw'
   go_wp2
   go_ret;exact ⟨by rw [H1.out];rfl,E5.out⟩
  | false=>
   have hpe:=b0B w' g a cap l e0 e4 zo
   have Gn:E8 (l.map Ru.pru)<=40:=by
    unfold E8;refine Nat.le_trans (List.length_filter_le _ _) ?_;rw [FB.out];omega
   have h1:R=if E8 (l.map Ru.pru)=12 then 6 else 0:=by rw [xq.out,if_pos hk0];rfl
   obtain ⟨p,hp⟩:∃p,E8 (l.map Ru.pru)=p:=⟨_,rfl⟩;rw [hp] at hpe Gn h1;have b7p:(p:Int)<=40:=zo
   obtain ⟨H1,E5,Hpe,Hp⟩:=zh4 h1 e5 hpe hp;clear h1 e5 hpe hp e4 hw'
   go_wp2_with fail
   refine Hpe.out.mono ?_;rintro e w3 ⟨rfl,aC⟩;have aS:=E5.out.trans aC zi;have b0:=aC.cell e1 id;obtain ⟨aP,bA⟩:=zh2 aS aC;clear aS aC;by_cases Je:p=12
   ·have Jf:(p:Int)=12:=zo
    have h2:R=6:=by rw [H1.out,if_pos Je]
    have H2:=zh h2;clear h2
    go_wp2
    go_ret;exact ⟨by rw [H2.out];rfl,aP.out⟩
   have Jf:¬(p:Int)=12:=zo
   have h2:R=0:=by rw [H1.out,if_neg Je]
   have H2:=zh h2;clear h2
   go_wp2
   go_ret;exact ⟨by rw [H2.out];rfl,aP.out⟩
 ·cases S with
  |true=>
   have h1:R=0:=by rw [xq.out,if_neg hk0];rfl
   obtain ⟨H1,E5⟩:=zh2 h1 e5;clear h1 e5 e4 hw'
   go_wp2
   go_ret;exact ⟨by rw [H1.out];rfl,E5.out⟩
  |false=>
   have h1:R=3:=by rw [xq.out,if_neg hk0];rfl
   obtain ⟨H1,E5⟩:=zh2 h1 e5;clear h1 e5 e4 hw'
   go_wp2
   go_ret;exact ⟨by rw [H1.out];rfl,E5.out⟩
end Go.Proofs.YtebhabpahfmodaaGreatDoor
