/- Lemmas. -/
import Derived.Test.YtaenebdppkjhoaaGreatDoorZg29
namespace Go.Proofs.YtaenebdppkjhoaaGreatDoor
set_option maxRecDepth 20000
set_option maxHeartbeats 40000000
section
open Go.RowKit
def Ru.pru (r:Ru):PRu:=⟨r.kind,r.tenant,r.who,r.broker,r.sc,r.cs,r.name,r.at_⟩
theorem b4H (x:Lr):x.ru.pru=x.1:=rfl
theorem a8n (L:List Lr):(L.map Lr.ru).map Ru.pru=L.map Prod.fst:=by
 rw [List.map_map];rfl
theorem a07 (l:List Ru) (tenant:Int) (who:ByteArray):a0y (l.map Ru.pru) tenant who=A5 l tenant who:=by
 unfold a0y A5;rw [List.map_map]
 have h:∀l:List Ru,((l.map ((fun p:PRu=>p.lies none 0)∘Ru.pru)).find? fun r=>r.of 0 tenant who).map Ru.broker=(l.find? fun r=>r.of 0 tenant who).map Ru.broker:=fun l=>by
  induction l with
  |nil=>rfl
  |cons a l ih=>
   rw [List.map_cons,List.find?_cons,List.find?_cons];have e:(((fun p:PRu=>p.lies none 0)∘Ru.pru) a).of 0 tenant who=a.of 0 tenant who:=rfl;rw [e];cases a.of 0 tenant who
   ·exact ih
   rfl
 rw [<-List.map_reverse];exact h l.reverse
theorem b1c (l:List Ru) (n:Nat):rus (l.take n)=(rus l).take (n*8):=by
 induction l generalizing n with
 |nil=>rw [List.take_nil];simp [rus]
 | cons a l ih=>
  cases n with
  |zero=>rw [Nat.zero_mul,List.take_zero];rfl
  |succ n=>
   rw [List.take_succ_cons,a3y,a3y,ih,Nat.add_mul,Nat.one_mul,Nat.add_comm,List.take_append];have e:a.cells.length=8:=Ru.cells_length a;rw [e,List.take_of_length_le (l:=a.cells) (by omega),Nat.add_sub_cancel_left]
theorem K8.take {w:World} {a:Option Addr} {cap:Nat} {l:List Ru} (h:K8 w (.slice a l.length cap) l) {n:Nat} (hn:n<=l.length):K8 w (.slice a n cap) (l.take n):=by
 have hl:(l.take n).length=n:=by rw [List.length_take];omega
 obtain ⟨h1,a',cap',he,h3,h4,h5⟩:=h.rd;cases he
 refine ⟨⟨by rw [a7V],a,cap,by rw [hl],by omega,fun e=>by have:=h4 e;omega,fun b hb h0=> ?_⟩,fun r hr=>h.ok r (List.mem_of_mem_take hr)⟩;obtain ⟨g,off,e,h6⟩:=h5 b hb (by omega);refine ⟨g,off,e,fun j u hu=>h6 j u ?_⟩;rw [b1c,List.getElem?_take] at hu;split at hu
 ·exact hu
 ·cases hu
theorem a08 (w:World) (g:Nat) (a:Option Addr) (n cap:Nat) (c0:w.cell? ⟨g,0,none⟩=some (.slice a n cap)):
 Calls Tryz.prog 15 #[.pointer (some ⟨g,0,none⟩)] w fun e w'=>e= .returned (.int .i64 n)/\w=w':=by
 go_enter Tryz.func15,Tryz.ntmps15
 go_wp2
 go_ret;exact ⟨rfl,rfl⟩
theorem a8o (w:World) (g:Nat) (a:Option Addr) (cap:Nat) (l:List Ru) (c0:w.cell? ⟨g,0,none⟩=some (.slice a l.length cap)) (hv:K8 w (.slice a l.length cap) l) (hll:l.length<=1000) (i:Int) (n:Nat) (hn:n<=l.length):
 Calls Tryz.prog 49 #[.pointer (some ⟨g,0,none⟩),.int .i64 i,.int .i64 n] w fun e w'=>e= .returned (.bool (Q9 (l.map Ru.pru) i n))/\Mod (fun _=>False) w w':=by
 have hcap:l.length<=cap:=by obtain ⟨-,a',c',h,h2, -⟩:=hv.rd;cases h;exact h2
 have hcap':(n:Int)<=cap:=by omega
 have hn':(n:Int)<=l.length:=by omega
 have hn0:(0:Int)<=n:=by omega
 have hv2:=hv.take hn;have hl2:(l.take n).length=n:=by rw [List.length_take];omega
 rw [show Value.slice a n cap=Value.slice a (l.take n).length cap by rw [hl2]] at hv2;obtain ⟨R,hR⟩:∃R,Q9 (l.map Ru.pru) i n=R:=⟨_,rfl⟩;rw [hR];obtain ⟨Hv,Hv2,HR,Hl2⟩:=zh4 hv hv2 hR hl2;clear hv hv2 hR hl2 hcap hn
 go_enter Tryz.func49,Tryz.ntmps49
 go_wp2_with fail
 go_loopw [16] (fun i' wr=>∃j:Nat,i'= .int .i64 j/\j<=n/\Mod (fun _=>False) w wr/\(∀(k:Nat) (x:Ru),k<j->(l.take n)[k]? =some x->(decide (x.kind=4)&&decide (x.at_=i))=false)) (fun i' _=>n - (intOf i').toNat)
 case atStart=>exact ⟨0,rfl,Nat.zero_le _,Mod.refl _ _,fun k x hk=>by omega⟩
 case round=>
  obtain ⟨j,rfl,hj,hmr,hall⟩:=hrel;by_cases hlt:j<n
  ·have hlt':(j:Int)<n:=by omega
   obtain ⟨x,hxj⟩:∃x,(l.take n)[j]? =some x:=⟨_,zz5 (by rw [Hl2.out];exact hlt)⟩;obtain ⟨g2,off,rfl,hf⟩:∃g2 off,a=some ⟨g2,off,none⟩/\e7 wr g2 (off+j*8) x.cells:=L0 (Hv2.out.mod hmr) hxj;obtain ⟨wz,hwz,hmwz,hgwz,hzwz⟩:=e8 wr (.cells x.cells.toArray 35);have hmz:=hmr.trans hmwz (fun _ _ h=>h);have c0k:wz.cell? ⟨wr.heap.size,0,none⟩=some (.int .i64 x.kind):=d6 hgwz rfl;have c7k:wz.cell? ⟨wr.heap.size,7,none⟩=some (.int .i64 x.at_):=d6 hgwz rfl;obtain ⟨Hmr,Hall,Hxj,Hf,Hwz,Hmwz,Hgwz,Hmz⟩:=zh8 hmr hall hxj hf hwz hmwz hgwz hmz;clear hmr hall hxj hf hwz hmwz hgwz hmz hzwz;by_cases hk4:x.kind=4
   ·by_cases hat:x.at_=i
    ·go_wp2_with (first|((with_reducible refine d9 35 (.tmp 18) ?_);refine ⟨g2,off+j*8,rfl,x.cells,Hf.out,by kernel_rfl,by kernel_rfl, ?_⟩)|((with_reducible refine d8 35 (.tmp 8) (.tmp 19) ?_);refine ⟨rfl,x.cells,rfl,rfl,by kernel_rfl,rfl, ?_⟩;rw [Hwz.out])|fail)
     go_ret;refine ⟨?_,Hmz.out⟩;rw [<-HR.out]
     have:Q9 (l.map Ru.pru) i n=true:=by
      unfold Q9;rw [<-List.map_take,List.any_eq_true];exact ⟨x.pru,List.mem_map.2 ⟨x,zz8 Hxj.out,rfl⟩,by simp [Ru.pru,hk4,hat]⟩
     rw [this];rfl
    go_wp2_with (first|((with_reducible refine d9 35 (.tmp 18) ?_);refine ⟨g2,off+j*8,rfl,x.cells,Hf.out,by kernel_rfl,by kernel_rfl, ?_⟩)|((with_reducible refine d8 35 (.tmp 8) (.tmp 19) ?_);refine ⟨rfl,x.cells,rfl,rfl,by kernel_rfl,rfl, ?_⟩;rw [Hwz.out])|fail)
    go_roundw
    case rel=>
     refine ⟨j+1,by go_num,hlt,Hmz.out,fun k x' hk hx'=> ?_⟩;rcases Nat.lt_succ_iff_lt_or_eq.1 hk with hk|rfl
     ·exact Hall.out k x' hk hx'
     rw [Hxj.out] at hx';cases hx';simp [hat]
    case measure=>simp [intOf];omega
   go_wp2_with (first|((with_reducible refine d9 35 (.tmp 18) ?_);refine ⟨g2,off+j*8,rfl,x.cells,Hf.out,by kernel_rfl,by kernel_rfl, ?_⟩)|((with_reducible refine d8 35 (.tmp 8) (.tmp 19) ?_);refine ⟨rfl,x.cells,rfl,rfl,by kernel_rfl,rfl, ?_⟩;rw [Hwz.out])|fail)
   go_roundw
   case rel=>
    refine ⟨j+1,by go_num,hlt,Hmz.out,fun k x' hk hx'=> ?_⟩;rcases Nat.lt_succ_iff_lt_or_eq.1 hk with hk|rfl
    ·exact Hall.out k x' hk hx'
    rw [Hxj.out] at hx';cases hx';simp [hk4]
   case measure=>simp [intOf];omega
  obtain rfl:j=n:=by omega
  obtain ⟨Hmr,Hall⟩:=zh2 hmr hall;clear hmr hall
  go_wp2
  go_ret;refine ⟨?_,Hmr.out⟩;rw [<-HR.out]
  have:Q9 (l.map Ru.pru) i j=false:=by
   unfold Q9;rw [<-List.map_take,List.any_eq_false];intro p hp;obtain ⟨x,hx,rfl⟩:=List.mem_map.1 hp;obtain ⟨k,hk⟩:=List.mem_iff_getElem?.1 hx;have hkl:=(zz6 hk).1;have h1:=Hall.out k x (by rw [Hl2.out] at hkl;exact hkl) hk;intro h2;have h3:(decide (x.kind=4)&&decide (x.at_=i))=true:=h2;rw [h1] at h3;cases h3
  rw [this];rfl
theorem a9j (w:World) (g:Nat) (a:Option Addr) (cap:Nat) (l:List Ru) (c0:w.cell? ⟨g,0,none⟩=some (.slice a l.length cap)) (hv:K8 w (.slice a l.length cap) l) (hll:l.length<=1000):
 Calls Tryz.prog 86 #[.pointer (some ⟨g,0,none⟩)] w fun e w'=>e= .returned (.int .i64 (C4 (l.map Ru.pru)))/\Mod (fun _=>False) w w':=by
 have hll':(l.length:Int)<=1000:=by omega
 have hcap:l.length<=cap:=by obtain ⟨-,a',c',h,h2, -⟩:=hv.rd;cases h;exact h2
 have hcap':(l.length:Int)<=cap:=by omega
 have Hv:=zh hv;clear hv hcap
 go_enter Tryz.func86,Tryz.ntmps86
 go_wp2_with fail
 go_loopw [3,11] (fun n i wr=>∃j:Nat,i= .int .i64 j/\j<=l.length/\n= .int .i64 (C4 ((l.take j).map Ru.pru))/\Mod (fun _=>False) w wr) (fun _ i _=>l.length - (intOf i).toNat)
 case atStart=>exact ⟨0,rfl,Nat.zero_le _,rfl,Mod.refl _ _⟩
 case round=>
  obtain ⟨j,rfl,hj,rfl,hmr⟩:=hrel;by_cases hlt:j<l.length
  ·have hlt':(j:Int)<l.length:=by omega
   obtain ⟨x,hxj⟩:∃x,l[j]? =some x:=⟨_,zz5 hlt⟩;obtain ⟨g2,off,rfl,hf⟩:∃g2 off,a=some ⟨g2,off,none⟩/\e7 wr g2 (off+j*8) x.cells:=L0 (Hv.out.mod hmr) hxj;obtain ⟨wz,hwz,hmwz,hgwz,hzwz⟩:=e8 wr (.cells x.cells.toArray 35);have hmz:=hmr.trans hmwz (fun _ _ h=>h);have c0k:wz.cell? ⟨wr.heap.size,0,none⟩=some (.int .i64 x.kind):=d6 hgwz rfl
   have hp1:C4 ((l.take (j+1)).map Ru.pru)=C4 ((l.take j).map Ru.pru)+if x.kind=0 then 1 else 0:=by
    rw [List.take_add_one,hxj,Option.toList_some,List.map_append];unfold C4;rw [List.filter_append,zz4];congr 1;show (List.filter _ [x.pru]).length=_;by_cases h0:x.kind=0
    ·rw [if_pos h0];simp [Ru.pru,h0]
    rw [if_neg h0];simp [Ru.pru,h0]
   have hpj:C4 ((l.take j).map Ru.pru)<=j:=by
    unfold C4;refine Nat.le_trans (List.length_filter_le _ _) ?_;rw [zz10,List.length_take];omega
   obtain ⟨p,hp⟩:∃p,C4 ((l.take j).map Ru.pru)=p:=⟨_,rfl⟩;rw [hp] at hp1 hpj⊢;obtain ⟨Hmr,Hxj,Hf,Hwz,Hmwz,Hgwz,Hmz,Hp1,Hp⟩:=zh9 hmr hxj hf hwz hmwz hgwz hmz hp1 hp;clear hmr hxj hf hwz hmwz hgwz hmz hp1 hp hzwz;by_cases hk:x.kind=0
   ·go_wp2_with (first|((with_reducible refine d9 35 (.tmp 13) ?_);refine ⟨g2,off+j*8,rfl,x.cells,Hf.out,by kernel_rfl,by kernel_rfl, ?_⟩)|((with_reducible refine d8 35 (.tmp 5) (.tmp 14) ?_);refine ⟨rfl,x.cells,rfl,rfl,by kernel_rfl,rfl, ?_⟩;rw [Hwz.out])|fail)
    go_roundw
    case rel=>
     refine ⟨j+1,by go_num,hlt, ?_,Hmz.out⟩;rw [Hp1.out,if_pos hk];go_num
    case measure=>simp [intOf];omega
   go_wp2_with (first|((with_reducible refine d9 35 (.tmp 13) ?_);refine ⟨g2,off+j*8,rfl,x.cells,Hf.out,by kernel_rfl,by kernel_rfl, ?_⟩)|((with_reducible refine d8 35 (.tmp 5) (.tmp 14) ?_);refine ⟨rfl,x.cells,rfl,rfl,by kernel_rfl,rfl, ?_⟩;rw [Hwz.out])|fail)
   go_roundw
   case rel=>
    refine ⟨j+1,by go_num,hlt, ?_,Hmz.out⟩;rw [Hp1.out,if_neg hk];rfl
   case measure=>simp [intOf];omega
  obtain rfl:j=l.length:=by omega
  have Hmr:=zh hmr;clear hmr
  go_wp2
  go_ret;refine ⟨?_,Hmr.out⟩;rw [List.take_of_length_le (Nat.le_refl _)];rfl
def M8 (l:List Ru) (i:Int):Option Ru:=if i<0 then none else l[i.toNat]?
def S4:Ru:=PRu.zero.lies none 0
theorem b3k (w:World) (g:Nat) (a:Option Addr) (cap:Nat) (l:List Ru) (c0:w.cell? ⟨g,0,none⟩=some (.slice a l.length cap)) (hv:K8 w (.slice a l.length cap) l) (hll:l.length<=1000) (i:Int):
 Calls Tryz.prog 65 #[.pointer (some ⟨g,0,none⟩),.int .i64 i] w fun e w'=>e= .returned (.tuple #[.agg ((M8 l i).getD S4).cells.toArray,.bool (M8 l i).isSome])/\Mod (fun _=>False) w w':=by
 have hll':(l.length:Int)<=1000:=by omega
 obtain ⟨wa,hwa,hmwa,hgwa,hzwa⟩:=e8 w (.cells S4.cells.toArray 35);have hgl:g<w.heap.size:=World.block_lt_of_cell? w _ c0;have c0a:wa.cell? ⟨g,0,none⟩=some (.slice a l.length cap):=hmwa.cell c0 (fun h=>h);have hva:=hv.mod hmwa;have hwa':w.alloc (.cells #[.int .i64 0,.int .i64 0,.string ⟨#[]⟩,.int .i64 0,.string ⟨#[]⟩,.slice none 0 0,.string ⟨#[]⟩,.int .i64 0] 35)=wa:=hwa;obtain ⟨Hv,Hva,Hwa',Hmwa,Hgwa⟩:=zh5 hv hva hwa' hmwa hgwa;clear hv hva hwa' hmwa hgwa hzwa hwa;by_cases h0:i<0
 ·have hr:M8 l i=none:=by unfold M8;rw [if_pos h0]
  rw [hr]
  go_enter Tryz.func65,Tryz.ntmps65
  go_wp2_with (first|(rw [show w.alloc _=wa from Hwa'.out])|((with_reducible refine j3 35 (.tmp 4) (.tmp 17) ?_);refine ⟨w.heap.size,rfl,_,_,Hgwa.out,S4.cells,rfl,rfl,by kernel_rfl,rfl, ?_⟩;intro w3 hg3 hm3;have Hg3:=Lib.hid hg3;have Hm3:=Lib.hid hm3;have q1:=(e7.row hg3).all rfl;have q2:=(e7.row hg3).is rfl;clear hg3 hm3)|fail)
  refine bodyPost_ret (v:= .tuple #[.agg S4.cells.toArray,.bool false]) ?_ rfl ⟨rfl,Hmwa.out.upon Hm3.out (fun k hk=> .inr (Nat.le_of_eq (Eq.symm hk)))⟩;have hl:=o5 (P:=Tryz.prog) 35 w.heap.size 0 S4.cells (e7.row Hg3.out) (by kernel_rfl) (by kernel_rfl);simp [results,Tryz.results65,Result.andThen,asAddr,hl]
 by_cases h1:(l.length:Int)<=i
 ·have hr:M8 l i=none:=by unfold M8;rw [if_neg h0,List.getElem?_eq_none (by omega)]
  rw [hr]
  go_enter Tryz.func65,Tryz.ntmps65
  go_wp2_with (first|(rw [show w.alloc _=wa from Hwa'.out])|((with_reducible refine j3 35 (.tmp 4) (.tmp 17) ?_);refine ⟨w.heap.size,rfl,_,_,Hgwa.out,S4.cells,rfl,rfl,by kernel_rfl,rfl, ?_⟩;intro w3 hg3 hm3;have Hg3:=Lib.hid hg3;have Hm3:=Lib.hid hm3;have q1:=(e7.row hg3).all rfl;have q2:=(e7.row hg3).is rfl;clear hg3 hm3)|fail)
  refine bodyPost_ret (v:= .tuple #[.agg S4.cells.toArray,.bool false]) ?_ rfl ⟨rfl,Hmwa.out.upon Hm3.out (fun k hk=> .inr (Nat.le_of_eq (Eq.symm hk)))⟩;have hl:=o5 (P:=Tryz.prog) 35 w.heap.size 0 S4.cells (e7.row Hg3.out) (by kernel_rfl) (by kernel_rfl);simp [results,Tryz.results65,Result.andThen,asAddr,hl]
 obtain ⟨j,rfl⟩:∃j:Nat,i=j:=⟨i.toNat,by omega⟩;have hlt:j<l.length:=by omega
 obtain ⟨x,hxj⟩:∃x,l[j]? =some x:=⟨_,zz5 hlt⟩;have hr:M8 l j=some x:=by unfold M8;rw [if_neg h0];exact hxj
 obtain ⟨g2,off,rfl,hf⟩:∃g2 off,a=some ⟨g2,off,none⟩/\e7 wa g2 (off+j*8) x.cells:=L0 Hva.out hxj;rw [hr];obtain ⟨Hr,Hxj,Hf⟩:=zh3 hr hxj hf;clear hr hxj hf
 go_enter Tryz.func65,Tryz.ntmps65
 go_wp2_with (first|(rw [show w.alloc _=wa from Hwa'.out])|((with_reducible refine d9 35 (.tmp 23) ?_);refine ⟨g2,off+j*8,rfl,x.cells,Hf.out,by kernel_rfl,by kernel_rfl, ?_⟩)|((with_reducible refine j3 35 (.tmp 4) (.tmp 24) ?_);refine ⟨w.heap.size,rfl,_,_,Hgwa.out,x.cells,rfl,rfl,by kernel_rfl,rfl, ?_⟩;intro w3 hg3 hm3;have Hg3:=Lib.hid hg3;have Hm3:=Lib.hid hm3;have q1:=(e7.row hg3).all rfl;have q2:=(e7.row hg3).is rfl;clear hg3 hm3)|fail)
 refine bodyPost_ret (v:= .tuple #[.agg x.cells.toArray,.bool true]) ?_ rfl ⟨rfl,Hmwa.out.upon Hm3.out (fun k hk=> .inr (Nat.le_of_eq (Eq.symm hk)))⟩;have hl:=o5 (P:=Tryz.prog) 35 w.heap.size 0 x.cells (e7.row Hg3.out) (by kernel_rfl) (by kernel_rfl);simp [results,Tryz.results65,Result.andThen,asAddr,hl]
theorem a9k (l:List Ru) (i:Int):M8 l i=none->a61 (l.map Ru.pru) ⟨0,0,⟨#[]⟩,0,⟨#[]⟩,[],⟨#[]⟩,i⟩=false:=fun h=>by
 unfold M8 at h;unfold a61;by_cases h0:i<0
 ·rw [if_pos h0]
 rw [if_neg h0] at h⊢;rw [List.getElem?_map,h];rfl
theorem a9l {l:List Ru} {p:PRu} (h:M8 l p.at_=none):a61 (l.map Ru.pru) p=false:=a9k l p.at_ h
theorem a9m {l:List Ru} {p:PRu} {x:Ru} (h:M8 l p.at_=some x):a61 (l.map Ru.pru) p=(!(decide (x.kind=4))&& !(decide (x.kind=0))&& !Q9 (l.map Ru.pru) p.at_ l.length):=by
 unfold M8 at h;unfold a61;by_cases h0:p.at_<0
 ·rw [if_pos h0] at h;cases h
 rw [if_neg h0] at h⊢;rw [List.getElem?_map,h,zz10];rfl
theorem a9n {l:List Ru} {i:Int} {x:Ru} (h:M8 l i=some x):x∈l:=by
 unfold M8 at h;split at h
 ·cases h
 exact zz8 h
theorem b1d (w:World) (g:Nat) (a:Option Addr) (cap:Nat) (l:List Ru) (c0:w.cell? ⟨g,0,none⟩=some (.slice a l.length cap)) (hv:K8 w (.slice a l.length cap) l) (hll:l.length<=40) (r:Ru) (hr:r.ok w):
 Calls Tryz.prog 48 #[.pointer (some ⟨g,0,none⟩),.agg r.cells.toArray] w fun e w'=>e= .returned (.int .i64 (a1G (l.map Ru.pru) r.pru))/\Mod (fun _=>False) w w':=by
 obtain ⟨wa,hwa,hmwa,hgwa,hzwa⟩:=e8 w (.cells r.cells.toArray 35);have hgl:g<w.heap.size:=World.block_lt_of_cell? w _ c0;have hrt:=a81 r wa (hr.mod hmwa);have hll':(l.length:Int)<=40:=by omega
 obtain ⟨R,hR⟩:∃R,a1G (l.map Ru.pru) r.pru=R:=⟨_,rfl⟩;rw [hR];have hRr:r.pru.rightB=r.rightB:=rfl;have hHo:=a07 l r.tenant r.who;have hlm:(l.map Ru.pru).length=l.length:=zz10 _
 have hF:∀wx,Mod (fun _=>False) wa wx->wx.cell? ⟨g,0,none⟩=some (.slice a l.length cap)/\wx.cell? ⟨w.heap.size,0,none⟩=some (.int .i64 r.kind)/\wx.cell? ⟨w.heap.size,1,none⟩=some (.int .i64 r.tenant)/\wx.cell? ⟨w.heap.size,2,none⟩=some (.string r.who)/\
  wx.cell? ⟨w.heap.size,7,none⟩=some (.int .i64 r.at_)/\K8 wx (.slice a l.length cap) l/\Mod (fun _=>False) w wx:=fun wx hx=>
  ⟨hx.cell (hmwa.cell c0 (fun h=>h)) (fun h=>h),hx.cell (d6 hgwa rfl) (fun h=>h),hx.cell (d6 hgwa rfl) (fun h=>h),hx.cell (d6 hgwa rfl) (fun h=>h),hx.cell (d6 hgwa rfl) (fun h=>h),(hv.mod hmwa).mod hx,hmwa.trans hx (fun _ _ h=>h)⟩
 have hgz:g≠w.heap.size:=by omega
 obtain ⟨Hv,Hr,Hwa,Hmwa,Hgwa,Hrt,HR,HRr,HHo,Hlm,HF⟩:=zh11 hv hr hwa hmwa hgwa hrt hR hRr hHo hlm hF;clear hv hr hwa hmwa hgwa hrt hR hRr hHo hlm hF hzwa c0 hgl
 go_enter Tryz.func48,Tryz.ntmps48
 go_wp2_with (first|(rw [show w.alloc _=wa from Hwa.out])|((with_reducible refine d9 35 (.tmp 3) ?_);refine ⟨w.heap.size,0,rfl,r.cells,e7.row Hgwa.out,by kernel_rfl,by kernel_rfl, ?_⟩)|fail)
 refine Hrt.out.mono ?_;rintro e w1 ⟨rfl,hm1⟩;obtain ⟨f0,f1,f2,f3,f4,f5,f6⟩:=HF.out w1 hm1
 cases hb:r.rightB with
 |false=>
  have h1:R=1:=by rw [<-HR.out];unfold a1G;rw [if_pos (HRr.out.trans hb)]
  obtain ⟨F6,H1⟩:=zh2 f6 h1;clear f6 h1 f5 hm1 hb
  go_wp2
  go_ret;exact ⟨by rw [H1.out];rfl,F6.out⟩
 |true=>
 have hq1:¬r.pru.rightB=false:=by rw [HRr.out,hb];decide
 by_cases hl40:l.length=40
 ·have h1:R=6:=by rw [<-HR.out];unfold a1G;rw [if_neg hq1,if_pos (Hlm.out.trans hl40)]
  have hl40':(l.length:Int)=40:=by omega
  obtain ⟨F6,H1⟩:=zh2 f6 h1;clear f6 h1 f5 hm1 hb hq1
  go_wp2
  go_ret;exact ⟨by rw [H1.out];rfl,F6.out⟩
 have hl40':¬(l.length:Int)=40:=by omega
 have hq2:¬(l.map Ru.pru).length=40:=by rw [Hlm.out];exact hl40
 by_cases hk4:r.kind=4
 ·have hRv:R=if a61 (l.map Ru.pru) r.pru then 0 else 3:=by rw [<-HR.out];unfold a1G;rw [if_neg hq1,if_neg hq2,if_pos (show r.pru.kind=4 from hk4)]
  have hru:=b3k w1 g a cap l f0 f5 (by omega) r.at_;obtain ⟨Hm1,HRv,Hru,F5,F6⟩:=zh5 hm1 hRv hru f5 f6;clear hm1 hRv hru f5 f6 hb hq1 hq2
  go_wp2_with fail
  refine Hru.out.mono ?_;rintro e w2 ⟨rfl,hm2⟩;have hm12:=Hm1.out.trans hm2 (fun _ _ h=>h)
  cases hx:M8 l r.at_ with
  |none=>
   obtain ⟨w3,hw3,hmw3,hgw3,hzw3⟩:=e8 w2 (.cells S4.cells.toArray 35);have hm13:=hm12.trans hmw3 (fun _ _ h=>h);have h1:R=3:=by rw [HRv.out,a9l hx];rfl
   obtain ⟨Hx,Hm2,Hm12,Hw3,Hmw3,Hgw3,Hm13,H1⟩:=zh8 hx hm2 hm12 hw3 hmw3 hgw3 hm13 h1;clear hx hm2 hm12 hw3 hmw3 hgw3 hm13 h1 hzw3 f0 f1 f2 f3 f4
   go_wp2_with (first|((with_reducible refine d8 35 (.tmp 5) (.tmp 26) ?_);refine ⟨rfl,S4.cells,rfl,rfl,by kernel_rfl,rfl, ?_⟩;rw [Hw3.out])|fail)
   refine i8 (by kernel_rfl) (by kernel_rfl) ?_
   iterate 23 (first
    | (refine k7 ?_ (fun K hK=> ?_)
       ·first|(go_simp;done)|(go_simp;simp [undef];done)
       go_simp;refine hK _ ?_;clear hK K)
    | (refine m8 ?_ ?_ (fun w' hw'=> ?_) (fun K hK=> ?_)
       ·first|(go_simp;done)|(go_simp;simp [undef];done)
       rotate_left
       ·skip
        go_simp;rfl
       go_simp;refine hK _ ?_;clear hK K))
   refine m4 (fun w' hw'=> ?_);have Hw':=Lib.hid (HF.out w' (Hm13.out.trans hw' (fun _ _ h=>h))).2.2.2.2.2.2;clear hw'
   go_wp2
   go_ret;exact ⟨by rw [H1.out];rfl,Hw'.out⟩
  | some x=>
   have hxm:=a9n hx;obtain ⟨w3,hw3,hmw3,hgw3,hzw3⟩:=e8 w2 (.cells x.cells.toArray 35);have hm13:=hm12.trans hmw3 (fun _ _ h=>h);have hrv:=a9m (p:=r.pru) hx
   have hF3:∀wx,Mod (fun _=>False) w3 wx->wx.cell? ⟨g,0,none⟩=some (.slice a l.length cap)/\wx.cell? ⟨w.heap.size,7,none⟩=some (.int .i64 r.at_)/\wx.cell? ⟨w2.heap.size,0,none⟩=some (.int .i64 x.kind)/\Mod (fun _=>False) w wx:=fun wx hx=>by
    obtain ⟨e0,e1,e2,e3,e4,e5,e6⟩:=HF.out wx (hm13.trans hx (fun _ _ h=>h));exact ⟨e0,e4,hx.cell (d6 hgw3 rfl) (fun h=>h),e6⟩
   obtain ⟨G,hG⟩:∃G,Q9 (l.map Ru.pru) r.at_ l.length=G:=⟨_,rfl⟩
   have hgo:∀wx,Mod (fun _=>False) w3 wx->Calls Tryz.prog 49 #[.pointer (some ⟨g,0,none⟩),.int .i64 r.at_,.int .i64 l.length] wx fun e w'=>e= .returned (.bool G)/\Mod (fun _=>False) w3 w':=fun wx hx=>by
    obtain ⟨e0,e1,e2,e3,e4,e5,e6⟩:=HF.out wx (hm13.trans hx (fun _ _ h=>h));have h1:=a8o wx g a cap l e0 e5 (by omega) r.at_ l.length (Nat.le_refl _);rw [hG] at h1;exact h1.mono fun e w' ⟨he,hm⟩=>⟨he,hx.trans hm (fun _ _ h=>h)⟩
   rw [show Q9 (l.map Ru.pru) r.pru.at_ l.length=G from hG] at hrv;obtain ⟨Hx,Hxm,Hm2,Hm12,Hw3,Hmw3,Hgw3,Hm13,Hrv,HF3,Hgo,HG⟩:=zh12 hx hxm hm2 hm12 hw3 hmw3 hgw3 hm13 hrv hF3 hgo hG;clear hx hxm hm2 hm12 hw3 hmw3 hgw3 hm13 hrv hF3 hgo hG hzw3 f0 f1 f2 f3 f4;by_cases x4:x.kind=4
   ·have h1:R=3:=by rw [HRv.out,Hrv.out,decide_eq_true x4];rfl
    have t1:(x.kind==4)=true:=by simpa using x4
    have H1:=zh h1;clear h1
    go_wp2_with (first|((with_reducible refine d8 35 (.tmp 5) (.tmp 26) ?_);refine ⟨rfl,x.cells,rfl,rfl,by kernel_rfl,rfl, ?_⟩;rw [Hw3.out])|fail)
    refine i8 (by kernel_rfl) (by kernel_rfl) ?_
    iterate 23 (first
     | (refine k7 ?_ (fun K hK=> ?_)
        ·first|(go_simp;done)|(go_simp;simp [undef];done)
        go_simp;refine hK _ ?_;clear hK K)
     | (refine m8 ?_ ?_ (fun w' hw'=> ?_) (fun K hK=> ?_)
        ·first|(go_simp;done)|(go_simp;simp [undef];done)
        rotate_left
        ·obtain ⟨f0,f1,f2,f3⟩:=HF3.out w' hw';go_simp;rfl
        go_simp;refine hK _ ?_;clear hK K))
    refine m4 (fun w' hw'=> ?_);have Hw':=Lib.hid (HF3.out w' hw').2.2.2;clear hw'
    go_wp2
    go_ret;exact ⟨by rw [H1.out];rfl,Hw'.out⟩
   have t1:(x.kind==4)=false:=by simpa using x4
   by_cases x0:x.kind=0
   ·have h1:R=3:=by rw [HRv.out,Hrv.out,decide_eq_false x4,decide_eq_true x0];rfl
    have t2:(x.kind==0)=true:=by simpa using x0
    have H1:=zh h1;clear h1
    go_wp2_with (first|((with_reducible refine d8 35 (.tmp 5) (.tmp 26) ?_);refine ⟨rfl,x.cells,rfl,rfl,by kernel_rfl,rfl, ?_⟩;rw [Hw3.out])|fail)
    refine i8 (by kernel_rfl) (by kernel_rfl) ?_
    iterate 23 (first
     | (refine k7 ?_ (fun K hK=> ?_)
        ·first|(go_simp;done)|(go_simp;simp [undef];done)
        go_simp;refine hK _ ?_;clear hK K)
     | (refine m8 ?_ ?_ (fun w' hw'=> ?_) (fun K hK=> ?_)
        ·first|(go_simp;done)|(go_simp;simp [undef];done)
        rotate_left
        ·obtain ⟨f0,f1,f2,f3⟩:=HF3.out w' hw';go_simp;rfl
        go_simp;refine hK _ ?_;clear hK K))
    refine m4 (fun w' hw'=> ?_);have Hw':=Lib.hid (HF3.out w' hw').2.2.2;clear hw'
    go_wp2
    go_ret;exact ⟨by rw [H1.out];rfl,Hw'.out⟩
   have t2:(x.kind==0)=false:=by simpa using x0
   have h1:R=if G then 3 else 0:=by rw [HRv.out,Hrv.out,decide_eq_false x4,decide_eq_false x0];cases G<;>rfl
   cases G with
   |true=>
    have H1:=zh h1;clear h1
    go_wp2_with (first|((with_reducible refine d8 35 (.tmp 5) (.tmp 26) ?_);refine ⟨rfl,x.cells,rfl,rfl,by kernel_rfl,rfl, ?_⟩;rw [Hw3.out])|fail)
    refine i8 (by kernel_rfl) (by kernel_rfl) ?_
    iterate 23 (first
     | (refine k7 ?_ (fun K hK=> ?_)
        ·first|(go_simp;done)|(go_simp;simp [undef];done)
        go_simp;refine hK _ ?_;clear hK K)
     | (refine m8 ?_ ?_ (fun w' hw'=> ?_) (fun K hK=> ?_)
        ·first|(go_simp;done)|(go_simp;simp [undef];done)
        rotate_left
        ·obtain ⟨f0,f1,f2,f3⟩:=HF3.out w' hw';go_simp;rfl
        go_simp;refine hK _ ?_;clear hK K)
     | (refine p8 ?_ ?_ ?_ ?_ (fun w' hw'=> ?_) ?_ (fun K hK=> ?_)
        ·first|(go_simp;done)|(go_simp;simp [undef];done)
        rotate_left 3
        ·obtain ⟨f0,f1,f2,f3⟩:=HF3.out w' hw';go_simp;constructor<;>rfl
        ·first|with_reducible exact Hgo.out
        go_simp;refine hK _ ?_;clear hK K))
    refine m4 (fun w' hw'=> ?_);have Hw':=Lib.hid (HF3.out w' hw').2.2.2;clear hw'
    go_wp2
    go_ret;exact ⟨by rw [H1.out];rfl,Hw'.out⟩
   | false=>
    have H1:=zh h1;clear h1
    go_wp2_with (first|((with_reducible refine d8 35 (.tmp 5) (.tmp 26) ?_);refine ⟨rfl,x.cells,rfl,rfl,by kernel_rfl,rfl, ?_⟩;rw [Hw3.out])|fail)
    refine i8 (by kernel_rfl) (by kernel_rfl) ?_
    iterate 23 (first
     | (refine k7 ?_ (fun K hK=> ?_)
        ·first|(go_simp;done)|(go_simp;simp [undef];done)
        go_simp;refine hK _ ?_;clear hK K)
     | (refine m8 ?_ ?_ (fun w' hw'=> ?_) (fun K hK=> ?_)
        ·first|(go_simp;done)|(go_simp;simp [undef];done)
        rotate_left
        ·obtain ⟨f0,f1,f2,f3⟩:=HF3.out w' hw';go_simp;rfl
        go_simp;refine hK _ ?_;clear hK K)
     | (refine p8 ?_ ?_ ?_ ?_ (fun w' hw'=> ?_) ?_ (fun K hK=> ?_)
        ·first|(go_simp;done)|(go_simp;simp [undef];done)
        rotate_left 3
        ·obtain ⟨f0,f1,f2,f3⟩:=HF3.out w' hw';go_simp;constructor<;>rfl
        ·first|with_reducible exact Hgo.out
        go_simp;refine hK _ ?_;clear hK K))
    refine m4 (fun w' hw'=> ?_);have Hw':=Lib.hid (HF3.out w' hw').2.2.2;clear hw'
    go_wp2
    go_ret;exact ⟨by rw [H1.out];rfl,Hw'.out⟩
 obtain ⟨O,hO⟩:∃O,A5 l r.tenant r.who=O:=⟨_,rfl⟩
 have hRv:R=if r.kind=0 then (if O.isSome then 4 else if C4 (l.map Ru.pru)=12 then 6 else 0) else if O.isSome then 0 else 3:=by
  rw [<-HR.out];unfold a1G;rw [if_neg hq1,if_neg hq2,if_neg (show¬r.pru.kind=4 from hk4),show a0y (l.map Ru.pru) r.pru.tenant r.pru.who=O from HHo.out.trans hO];rfl
 have hho:∀wx,Mod (fun _=>False) w1 wx->Calls Tryz.prog 85 #[.slice a l.length cap,.int .i64 r.tenant,.string r.who] wx fun e w'=>e= .returned (.tuple #[.int .i64 (O.getD 0),.bool O.isSome])/\Mod (fun _=>False) w1 w':=fun wx hx=>by
  obtain ⟨e0,e1,e2,e3,e4,e5,e6⟩:=HF.out wx (hm1.trans hx (fun _ _ h=>h));have h1:=a2r wx (.slice a l.length cap) l e5 (by omega) r.tenant r.who;rw [hO] at h1;exact h1.mono fun e w' ⟨he,hm⟩=>⟨he,hx.trans hm (fun _ _ h=>h)⟩
 have hF1:∀wx,Mod (fun _=>False) w1 wx->wx.cell? ⟨g,0,none⟩=some (.slice a l.length cap)/\wx.cell? ⟨w.heap.size,0,none⟩=some (.int .i64 r.kind)/\wx.cell? ⟨w.heap.size,1,none⟩=some (.int .i64 r.tenant)/\wx.cell? ⟨w.heap.size,2,none⟩=some (.string r.who)/\K8 wx (.slice a l.length cap) l/\Mod (fun _=>False) w wx:=fun wx hx=>by
  obtain ⟨e0,e1,e2,e3,e4,e5,e6⟩:=HF.out wx (hm1.trans hx (fun _ _ h=>h));exact ⟨e0,e1,e2,e3,e5,e6⟩
 obtain ⟨S,hS⟩:∃S,O.isSome=S:=⟨_,rfl⟩;obtain ⟨D,hD⟩:∃D,O.getD 0=D:=⟨_,rfl⟩;rw [hS] at hRv;simp only [hS,hD] at hho;have t4:(r.kind==4)=false:=by simpa using hk4
 obtain ⟨Hm1,HRv,Hho,HF1,F5,F6,HO,HS,HD⟩:=zh9 hm1 hRv hho hF1 f5 f6 hO hS hD;clear hm1 hRv hho hF1 f5 f6 hO hS hD hb hq1 hq2
 go_wp2_with fail
 refine i8 (by kernel_rfl) (by kernel_rfl) ?_
 iterate 14 (first
  | (refine k7 ?_ (fun K hK=> ?_)
     ·first|(go_simp;done)|(go_simp;simp [undef];done)
     go_simp;refine hK _ ?_;clear hK K)
  | (refine m8 ?_ ?_ (fun w' hw'=> ?_) (fun K hK=> ?_)
     ·first|(go_simp;done)|(go_simp;simp [undef];done)
     rotate_left
     ·obtain ⟨f0,f1,f2,f3,f4,f5⟩:=HF1.out w' hw';have F4:=Lib.hid f4;have F5:=Lib.hid f5;clear f4 f5;go_simp;rfl
     go_simp;refine hK _ ?_;clear hK K)
  | (refine p8 ?_ ?_ ?_ ?_ (fun w' hw'=> ?_) ?_ (fun K hK=> ?_)
     ·first|(go_simp;done)|(go_simp;simp [undef];done)
     rotate_left 3
     ·obtain ⟨f0,f1,f2,f3,f4,f5⟩:=HF1.out w' hw';have F4:=Lib.hid f4;have F5:=Lib.hid f5;clear f4 f5;go_simp;constructor<;>rfl
     ·first|with_reducible exact Hho.out
     go_simp;refine hK _ ?_;clear hK K))
 refine m4 (fun w' hw'=> ?_);obtain ⟨e0,e1,e2,e3,e4,e5⟩:=HF1.out w' hw';clear f0 f1 f2 f3 f4;by_cases hk0:r.kind=0
 ·cases S with
  |true=>
   have h1:R=4:=by rw [HRv.out,if_pos hk0];rfl
   obtain ⟨H1,E5⟩:=zh2 h1 e5;clear h1 e5 e4 hw'
   go_wp2
   go_ret;exact ⟨by rw [H1.out];rfl,E5.out⟩
  | false=>
   have hpe:=a9j w' g a cap l e0 e4 (by omega)
   have hpj:C4 (l.map Ru.pru)<=40:=by
    unfold C4;refine Nat.le_trans (List.length_filter_le _ _) ?_;rw [Hlm.out];omega
   have h1:R=if C4 (l.map Ru.pru)=12 then 6 else 0:=by rw [HRv.out,if_pos hk0];rfl
   obtain ⟨p,hp⟩:∃p,C4 (l.map Ru.pru)=p:=⟨_,rfl⟩;rw [hp] at hpe hpj h1;have hpj':(p:Int)<=40:=by omega
   obtain ⟨H1,E5,Hpe,Hp⟩:=zh4 h1 e5 hpe hp;clear h1 e5 hpe hp e4 hw'
   go_wp2_with fail
   refine Hpe.out.mono ?_;rintro e w3 ⟨rfl,hm3⟩;have hm03:=E5.out.trans hm3 (fun _ _ h=>h);have b0:=hm3.cell e1 (fun h=>h);obtain ⟨Hm03,Hm3⟩:=zh2 hm03 hm3;clear hm03 hm3;by_cases hp12:p=12
   ·have hp12':(p:Int)=12:=by omega
    have h2:R=6:=by rw [H1.out,if_pos hp12]
    have H2:=zh h2;clear h2
    go_wp2
    go_ret;exact ⟨by rw [H2.out];rfl,Hm03.out⟩
   have hp12':¬(p:Int)=12:=by omega
   have h2:R=0:=by rw [H1.out,if_neg hp12]
   have H2:=zh h2;clear h2
   go_wp2
   go_ret;exact ⟨by rw [H2.out];rfl,Hm03.out⟩
 ·cases S with
  |true=>
   have h1:R=0:=by rw [HRv.out,if_neg hk0];rfl
   obtain ⟨H1,E5⟩:=zh2 h1 e5;clear h1 e5 e4 hw'
   go_wp2
   go_ret;exact ⟨by rw [H1.out];rfl,E5.out⟩
  |false=>
   have h1:R=3:=by rw [HRv.out,if_neg hk0];rfl
   obtain ⟨H1,E5⟩:=zh2 h1 e5;clear h1 e5 e4 hw'
   go_wp2
   go_ret;exact ⟨by rw [H1.out];rfl,E5.out⟩
end
end Go.Proofs.YtaenebdppkjhoaaGreatDoor
