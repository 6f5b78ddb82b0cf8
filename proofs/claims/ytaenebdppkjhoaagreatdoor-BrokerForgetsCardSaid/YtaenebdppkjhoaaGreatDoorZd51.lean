/- Lemmas of this claim. -/
import Derived.Test.YtaenebdppkjhoaaGreatDoorZd50
namespace Go.Proofs.YtaenebdppkjhoaaGreatDoor
set_option maxRecDepth 20000
set_option maxHeartbeats 40000000
section
open Go.RowKit
def learnP (l:List PRu):List PRu:=l.foldl addP []
theorem learnP_snoc (l:List PRu) (p:PRu):learnP (l++[p])=addP (learnP l) p:=by unfold learnP;rw [List.foldl_append];rfl
theorem learnP_forty (l:List PRu):(learnP l).length≤40:=by
 unfold learnP
 have h:∀(l:List PRu) (Q:List PRu),Q.length≤40→(l.foldl addP Q).length≤40:=fun l=>by
  induction l with
  |nil=>exact fun Q h=>h
  |cons a l ih=>exact fun Q h=>ih _ (addP_forty h a)
 exact h l [] (by decide)
theorem LogSl.app {w0 w wz w6:World} {ow:Ow} {d g:Nat} {v v':Value} {L:List Lr} {x:Lr} (_hw:Owd w0 w ow) (h2:2≤d) (hg:g<w.heap.size) (h:LogSl w ow d g v L) (hz:Mod (fun _=>False) w wz) (hx:LrOk w ow x)
 (hA:Appended wz 35 8 v (L.length+1) (rus (L.map Lr.ru)++x.ru.cells) v' w6):∃ow',LogSl w6 ow' d g v' (L++[x])∧Mov (fun t=>t=d) w ow w6 ow':=by
 obtain ⟨hA1,hA2,hA3⟩:=hA
 have hzs:=hz.size
 have hsz:=hA2.size
 have hvb:∀b,v.ownBlock=some b→b<w.heap.size:=fun b hb=>h.sl.lt b hb
 have hmA:Mod (inBlock v) w w6:=(hz.mono (fun _ _ h=>h.elim)).trans hA2 (fun b hb h=>h)
 have hmF:Mod (fun k=>ow k=d) w w6:=hmA.mono (fun k _ hk=>(h.vb k hk).1)
 have hv'b:∀b,v'.ownBlock=some b→(v.ownBlock=some b∧b<w.heap.size)∨(wz.heap.size≤b∧b<w6.heap.size):=fun b hb=>by
  rcases hA3 with e|⟨k,e,hk⟩
  ·rw [e] at hb
   exact .inl ⟨hb,hvb b hb⟩
  ·have:=hA1.lt b hb
   rw [hb] at e
   cases e
   exact .inr ⟨hk,by omega⟩
 have hmv:Mov (fun t=>t=d) w ow w6 (tagNew w w6 ow (inBlock v') (fun _=>True) d):=Mov.tag rfl hmF
 refine ⟨_,⟨?_,fun b hb=>⟨?_, ?_⟩,fun q hq=> ?_⟩,hmv⟩
 ·rw [List.length_append,List.map_append,rus_append]
  have e:rus ([x].map Lr.ru)=x.ru.cells:=by simp [rus]
  rw [e]
  exact hA1
 ·rcases hv'b b hb with h1|h1
  ·rw [tagNew_old h1.2];exact (h.vb b h1.1).1
  ·exact tagNew_own (by omega) h1.2 hb
 ·rcases hv'b b hb with h1|h1
  ·exact (h.vb b h1.1).2
  ·omega
 ·rcases List.mem_append.1 hq with hq|hq
  ·exact (h.each q hq).mov hmv (by omega)
  ·rw [List.mem_singleton.1 hq]
   exact hx.mov hmv (by omega)
theorem laid_base {w0 w:World} (h:Laid w0 w):Laid w w:=⟨h.at_,Nat.le_trans h.n64 h.size,⟨rfl,rfl,rfl,Nat.le_refl _,fun _ _=>rfl⟩⟩
theorem Owd.loc {w0 w:World} {ow:Ow} (h:Owd w0 w ow) (o:Obj):Mov (fun t=>t=1) w ow (w.alloc o) (tagOne ow w.heap.size 1):=Mov.alloc h o 1 (.inr (.inl rfl))
def LdRel (w:World) (l:List Ru) (g gl q:Nat) (vm i:Value) (wr:World):Prop:=
 ∃(j:Nat) (owr:Ow) (P:List PRu) (vL:Value) (L M:List Lr) (S:List Sd),i= .int .i64 j∧j≤l.length∧P=learnP ((l.take j).map Ru.pru)∧Owd w wr owr∧Bro wr owr 2 g 0 [1,2] ⟨P,fun _=>RS.zero⟩∧LogAt wr owr 60 60 gl [] 53 vL L∧L.map Prod.fst=P∧
  LogSl wr owr 61 gl vm M∧M.map Prod.fst=P∧OtI wr owr 40 q S []∧S.length≤2*j∧Mod (fun _=>False) w wr
def LearnedPost (w:World) (l:List Ru) (e:Ending) (w':World):Prop:=
 ∃(ow':Ow) (g gl:Nat) (vm:Value) (M:List Lr),e= .returned (.tuple #[.pointer (some ⟨g,0,none⟩),vm])∧Owd w w' ow'∧Bro w' ow' 2 g 0 [1,2] ⟨learnP (l.map Ru.pru),fun _=>RS.zero⟩∧LogSl w' ow' 61 gl vm M∧M.map Prod.fst=learnP (l.map Ru.pru)∧Mod (fun _=>False) w w'
theorem learned_at (w:World) (hl0:Laid w w) (v:Value) (l:List Ru) (hv:RuSl w v l) (hl80:l.length≤80) (hfi:∀r∈l,r.pru.fine):Calls Tryz.prog 17 #[v] w (LearnedPost w l):=by
 obtain ⟨a,cap,rfl,hcap⟩:∃a c,v= .slice a l.length c∧l.length≤c:=by obtain ⟨-,a,c,h,h2, -⟩:=hv.rd;exact ⟨a,c,h,h2⟩
 have hcap':(l.length:Int)≤cap:=by omega
 have hl80':(l.length:Int)≤80:=by omega
 obtain ⟨wa,hwa,hmwa,hgwa,hzwa⟩:=allocE w (.cells #[.int .i64 1,.int .i64 2] 3)
 have hoa:Owd w wa (fun _=>0):=⟨fun k h=>absurd rfl h,fun k h=>absurd rfl h,hl0.mod0 hmwa⟩
 have hrd:RdSl wa 1 (.slice (some ⟨w.heap.size,0,none⟩) 2 2) 2 [.int .i64 1,.int .i64 2]:=⟨rfl,_,_,rfl,Nat.le_refl _,(fun h=>by cases h),fun b hb _=>⟨_,0,(by cases hb;rfl),fun j u hu=>by rw [Nat.zero_add];exact cell_of hgwa (by simpa using hu)⟩⟩
 have hnew:=bnew_at w wa (fun _=>0) 2 hoa (by omega) 0 (.slice (some ⟨w.heap.size,0,none⟩) 2 2) [1,2] hrd (by decide)
 have Hl0:=Lib.hid hl0
 have Hv:=Lib.hid hv
 have Hfi:=Lib.hid hfi
 have Hwa:=Lib.hid hwa
 have Hmwa:=Lib.hid hmwa
 have Hnew:=Lib.hid hnew
 have Hoa:=Lib.hid hoa
 clear hl0 hv hfi hwa hmwa hnew hoa hgwa hzwa hrd hcap
 go_enter Tryz.func17,Tryz.ntmps17
 go_wp2_with (first|(rw [show w.alloc _=wa from Hwa.out])|fail)
 refine Hnew.out.mono ?_
 rintro e w3 ⟨g,ow3,rfl,ho3,hb3,hm3⟩
 obtain ⟨hO4,hm4⟩:=OtI.new (c:=40) ho3
 obtain ⟨w4,hw4⟩:∃w4:World,w3.alloc (.cells #[.slice none 0 0,.slice none 0 0] 39)=w4:=⟨_,rfl⟩
 rw [hw4] at hO4 hm4
 have hb4:=hb3.mov ho3 hm4 (by omega) (fun t e=>by omega)
 have ho4:=hm4.owd ho3 (by omega)
 have hr3:Mod (fun _=>False) w w3:=hm3.mod0 Hoa.out Hmwa.out (by omega)
 have hr4:=hm4.mod0 ho3 hr3 (by omega)
 have hrp:=replay_at w w4 _ 60 ho4 (by omega)
 have hq3:w3.heap.size<w4.heap.size:=by rw [←hw4];simp
 have Ho3:=Lib.hid ho3
 have Hb3:=Lib.hid hb3
 have Hm3:=Lib.hid hm3
 have HO4:=Lib.hid hO4
 have Hm4:=Lib.hid hm4
 have Hw4:=Lib.hid hw4
 have Hb4:=Lib.hid hb4
 have Ho4:=Lib.hid ho4
 have Hr3:=Lib.hid hr3
 have Hr4:=Lib.hid hr4
 have Hrp:=Lib.hid hrp
 have Hq3:=Lib.hid hq3
 clear ho3 hb3 hm3 hO4 hm4 hw4 hb4 ho4 hr3 hr4 hrp hq3
 go_wp2_with (first|(rw [show w3.alloc _=w4 from Hw4.out])|fail)
 refine Hrp.out.mono ?_
 rintro e w5 ⟨gl,ow5,rfl,hlg,hm5,hm5'⟩
 have hb5:=Hb4.out.mov Ho4.out hm5 (by omega) (fun t e=>by omega)
 have hO5:=HO4.out.mov hm5 (by omega) (by omega)
 have ho5:=hm5.owd Ho4.out (by omega)
 have hr5:=hm5.mod0 Ho4.out Hr4.out (by omega)
 have Hb5:=Lib.hid hb5
 have Ho5:=Lib.hid ho5
 have HO5:=Lib.hid hO5
 have Hr5:=Lib.hid hr5
 have Hlg:=Lib.hid hlg
 have Hm5:=Lib.hid hm5
 clear hb5 ho5 hO5 hr5 hlg hm5 hm5'
 go_wp2_with fail
 go_loopw [6,19] (fun vm i wr=>LdRel w l g gl w3.heap.size vm i wr) (fun _ i _=>l.length - (intOf i).toNat)
 case atStart=>exact ⟨0,ow5,[],.slice none 0 0,[],[],[],rfl,Nat.zero_le _,rfl,Ho5.out,Hb5.out,Hlg.out,rfl,⟨OwnSl.nil _ _ _,fun b hb=>(by cases hb),fun x hx=>(by cases hx)⟩,rfl,HO5.out,Nat.zero_le _,Hr5.out⟩
 case round=>
  obtain ⟨j,owr,P,vL,L,M,S,rfl,hj,hPj,hor,hbr,hlr,hLP,hMr,hMP,hOr,hSl,hmr⟩:=hrel
  by_cases hlt:j<l.length
  ·have hlt':(j:Int)<l.length:=by omega
   obtain ⟨x,hxj⟩:∃x,l[j]? =some x:=⟨_,List.getElem?_eq_getElem hlt⟩
   have hxm:=List.mem_of_getElem? hxj
   obtain ⟨g2,off,rfl,hf⟩:∃g2 off,a=some ⟨g2,off,none⟩∧CellsAt wr g2 (off+j*8) x.cells:=rd_rule (Hv.out.mod hmr) hxj
   have hP40:P.length≤40:=by rw [hPj];exact learnP_forty _
   have hPn:learnP ((l.take (j+1)).map Ru.pru)=addP P x.pru:=by rw [List.take_add_one,hxj,Option.toList_some,List.map_append,hPj];exact learnP_snoc _ _
   have hMl:M.length=P.length:=by rw [←hMP,List.length_map]
   obtain ⟨am,cm,rfl, -⟩:∃a' cc,u6= .slice a' M.length cc∧M.length≤cc:=by obtain ⟨-,a,cc,h,h2, -⟩:=hMr.sl.rd;exact ⟨a,cc,h,h2⟩
   rw [show Value.slice am M.length cm=Value.slice am P.length cm by rw [hMl]] at hMr⊢
   obtain ⟨wz,hwz,hmwz,hgwz,hzwz⟩:=allocE wr (.cells x.cells.toArray 35)
   have hlz:=hor.loc (.cells x.cells.toArray 35)
   rw [hwz] at hlz
   obtain ⟨oz,hozd⟩:∃oz:Ow,tagOne owr wr.heap.size 1=oz:=⟨_,rfl⟩
   rw [hozd] at hlz
   have hoz1:oz wr.heap.size=1:=by rw [←hozd];exact tagOne_at _ _ _
   have hoz:=hlz.owd hor (by omega)
   have hbz:=hbr.mov hor hlz (by omega) (fun t e=>by omega)
   have hLz:=hlr.mov hlz (by omega) (by omega) (by omega)
   have hMz:=hMr.mov hlz (by omega) (by omega)
   have hOz:=hOr.mov hlz (by omega) (by omega)
   have hrz:=hmr.trans hmwz (fun _ _ h=>h)
   have hgz:wz.heap[wr.heap.size]? =some (.cells ([.int .i64 x.kind,.int .i64 x.tenant,.string x.who,.int .i64 x.broker,.string x.sc,.slice x.ca x.cs.length x.cc,.string x.name,.int .i64 x.at_]:List Value).toArray 35 (0,0)):=hgwz
   have hxz:LrOk wz oz (x.pru,x.ca,x.cc):=⟨ConSl.of_rd hoz (Hv.out.ok x hxm).rd (by omega),Hfi.out x hxm⟩
   have hgll:=(Array.getElem?_eq_some_iff.1 hlr.row).1
   have hadd:Calls Tryz.prog 13 #[.pointer (some ⟨gl,0,none⟩),.agg #[.int .i64 x.kind,.int .i64 x.tenant,.string x.who,.int .i64 x.broker,.string x.sc,.slice x.ca x.cs.length x.cc,.string x.name,.int .i64 x.at_]] wz (AddPost wz oz 60 60 gl [] 53 L x.pru):=
    padd_at w wz oz 60 60 gl [] 53 vL L hoz ⟨by omega,by omega⟩ hLz (by have:=congrArg List.length hLP;rw [List.length_map] at this;omega) x.pru x.ca x.cc hxz.cs.rd hxz.fine
   obtain ⟨R,hR⟩:∃R,chkP P x.pru=R:=⟨_,rfl⟩
   have hP':(P.length:Int)≤40:=by omega
   have hj80:j≤80:=by omega
   have Hmr:=Lib.hid hmr
   have Hor:=Lib.hid hor
   have Hbr:=Lib.hid hbr
   have Hlr:=Lib.hid hlr
   have HMr:=Lib.hid hMr
   have HMP:=Lib.hid hMP
   have HOr:=Lib.hid hOr
   have Hxj:=Lib.hid hxj
   have Hxm:=Lib.hid hxm
   have Hf:=Lib.hid hf
   have Hwz:=Lib.hid hwz
   have Hmwz:=Lib.hid hmwz
   have Hgwz:=Lib.hid hgwz
   have Hlz:=Lib.hid hlz
   have Hozd:=Lib.hid hozd
   have Hoz1:=Lib.hid hoz1
   have Hoz:=Lib.hid hoz
   have Hbz:=Lib.hid hbz
   have HLz:=Lib.hid hLz
   have HMz:=Lib.hid hMz
   have HOz:=Lib.hid hOz
   have Hrz:=Lib.hid hrz
   have Hgz:=Lib.hid hgz
   have Hxz:=Lib.hid hxz
   have Hadd:=Lib.hid hadd
   have HR:=Lib.hid hR
   have HLP:=Lib.hid hLP
   have HPn:=Lib.hid hPn
   have HPj:=Lib.hid hPj
   have HMl:=Lib.hid hMl
   have Hgll:=Lib.hid hgll
   clear hmr hor hbr hlr hMr hMP hOr hxj hxm hf hwz hmwz hgwz hlz hozd hoz1 hoz hbz hLz hMz hOz hrz hgz hxz hadd hR hLP hPn hPj hMl hgll hzwz
   have hgz':=Hgz.out
   go_wp2_with (first|((with_reducible refine wpList_load_lit 35 (.tmp 21) ?_);refine ⟨g2,off+j*8,rfl,x.cells,Hf.out,by kernel_rfl,by kernel_rfl, ?_⟩)|((with_reducible refine wpList_store_lit 35 (.tmp 10) (.tmp 22) ?_);refine ⟨rfl,x.cells,rfl,rfl,by kernel_rfl,rfl, ?_⟩;rw [Hwz.out])|((with_reducible refine wpList_load_lit 35 (.tmp 10) ?_);refine ⟨wr.heap.size,0,rfl,[.int .i64 x.kind,.int .i64 x.tenant,.string x.who,.int .i64 x.broker,.string x.sc,.slice x.ca x.cs.length x.cc,.string x.name,.int .i64 x.at_],CellsAt.row Hgz.out,by kernel_rfl,by kernel_rfl, ?_⟩)|fail)
   refine Hadd.out.mono ?_
   rintro e w5 ⟨rfl,ow5,v5,L5,hl5,hp5,hm5⟩
   rw [HLP.out,HR.out]
   rw [HLP.out] at hp5
   have ho5:=hm5.owd Hoz.out (by omega)
   have hb5:=Hbz.out.mov Hoz.out hm5 (by omega) (fun t e=>by omega)
   have hM5:=HMz.out.mov hm5 (by omega) (by omega)
   have hO5:=HOz.out.mov hm5 (by omega) (by omega)
   have hx5:=Hxz.out.mov hm5 (by omega)
   have hr5:=hm5.mod0 Hoz.out Hrz.out (by omega)
   have hg5:=hm5.md.heap Hgz.out (by rw [Hoz1.out];omega)
   have ho51:ow5 wr.heap.size=1:=by rw [hm5.old _ (Array.getElem?_eq_some_iff.1 Hgz.out).1];exact Hoz1.out
   clear hgz'
   by_cases hR0:R=0
   rotate_left
   ·have hb1:(R==0)=false:=by simpa using hR0
    have hpk:addP P x.pru=P:=by unfold addP;rw [HR.out,if_neg hR0]
    have Hl5:=Lib.hid hl5
    have Hp5:=Lib.hid hp5
    have Hm5:=Lib.hid hm5
    have Ho5:=Lib.hid ho5
    have Hb5:=Lib.hid hb5
    have HM5:=Lib.hid hM5
    have HO5:=Lib.hid hO5
    have Hx5:=Lib.hid hx5
    have Hr5:=Lib.hid hr5
    have Hg5:=Lib.hid hg5
    have Ho51:=Lib.hid ho51
    have Hpk:=Lib.hid hpk
    clear hl5 hp5 hm5 ho5 hb5 hM5 hO5 hx5 hr5 hg5 ho51 hpk
    go_wp2_with fail
    go_roundw
    case rel=>exact ⟨j+1,ow5,P,_,_,M,S,by go_num,hlt,by rw [HPn.out,Hpk.out],Ho5.out,Hb5.out,Hl5.out,by rw [Hp5.out,Hpk.out],HM5.out,HMP.out,HO5.out,by omega,Hr5.out⟩
    case measure=>simp [intOf];omega
   ·subst hR0
    have hok:learnOk P P.length x.pru=true:=by unfold learnOk;rw [HR.out,decide_eq_true rfl];rfl
    have hpk:addP P x.pru=P++[x.pru.kept]:=by unfold addP;rw [HR.out,if_pos rfl]
    have hle:Calls Tryz.prog 14 #[.pointer (some ⟨g,0,none⟩),.iface 43 (.pointer (some ⟨w3.heap.size,0,none⟩)),.int .i64 P.length,.agg #[.int .i64 x.kind,.int .i64 x.tenant,.string x.who,.int .i64 x.broker,.string x.sc,.slice x.ca x.cs.length x.cc,.string x.name,.int .i64 x.at_],.int .i64 1] w5 (LearnPost (out17 w w3.heap.size 40 (by omega)) w5 ow5 2 g 0 [1,2] ⟨P,fun _=>RS.zero⟩ (S,[]) P.length x.pru 1):=
     learn_at w w5 ow5 2 g 0 [1,2] _ ho5 hb5 hP40 w3.heap.size (out17 w w3.heap.size 40 (by omega)) (S,[]) hO5 (fun t ht=>by have h':t=40:=ht;omega) (show S.length+0+2≤400000000000 by omega) (by decide) (fun _ _=>trivial) P.length x.pru x.ca x.cc hx5 1
    have hg5':=hg5
    have y0:w5.cell? ⟨wr.heap.size,0,none⟩=some (.int .i64 x.kind):=cell_of hg5' rfl
    have y1:w5.cell? ⟨wr.heap.size,1,none⟩=some (.int .i64 x.tenant):=cell_of hg5' rfl
    have y2:w5.cell? ⟨wr.heap.size,2,none⟩=some (.string x.who):=cell_of hg5' rfl
    have y3:w5.cell? ⟨wr.heap.size,3,none⟩=some (.int .i64 x.broker):=cell_of hg5' rfl
    have y4:w5.cell? ⟨wr.heap.size,4,none⟩=some (.string x.sc):=cell_of hg5' rfl
    have y5:w5.cell? ⟨wr.heap.size,5,none⟩=some (.slice x.ca x.cs.length x.cc):=cell_of hg5' rfl
    have y6:w5.cell? ⟨wr.heap.size,6,none⟩=some (.string x.name):=cell_of hg5' rfl
    have y7:w5.cell? ⟨wr.heap.size,7,none⟩=some (.int .i64 x.at_):=cell_of hg5' rfl
    clear hg5'
    have Hl5:=Lib.hid hl5
    have Hp5:=Lib.hid hp5
    have Hm5:=Lib.hid hm5
    have Ho5:=Lib.hid ho5
    have Hb5:=Lib.hid hb5
    have HM5:=Lib.hid hM5
    have HO5:=Lib.hid hO5
    have Hx5:=Lib.hid hx5
    have Hr5:=Lib.hid hr5
    have Hg5:=Lib.hid hg5
    have Ho51:=Lib.hid ho51
    have Hle:=Lib.hid hle
    have Hpk:=Lib.hid hpk
    clear hl5 hp5 hm5 ho5 hb5 hM5 hO5 hx5 hr5 hg5 ho51 hle hpk
    go_wp2_with fail
    refine Hle.out.mono ?_
    rintro e w6 ⟨rfl,ow6,hb6,hO6,hm6⟩
    clear y0 y1 y2 y3 y4 y5 y6 y7
    rw [show learnOk (⟨P,fun _=>RS.zero⟩:BS).L (↑P.length) x.pru=true from hok] at hO6⊢
    rw [if_pos rfl,sends17] at hO6
    have hb6':Bro w6 ow6 2 g 0 [1,2] ⟨addP P x.pru,fun _=>RS.zero⟩:=by
     have:=hb6
     unfold BS.learn at this
     rw [show learnOk (⟨P,fun _=>RS.zero⟩:BS).L (↑P.length) x.pru=true from hok] at this
     exact this
    have hSn:(S++learnS [1,2] 1 (P.length:Int) x.pru).length≤2*(j+1):=by have:=learnS_len [1,2] 1 (P.length:Int) x.pru;rw [List.length_append];have e:([1,2]:List Int).length=2:=rfl;omega
    have ho6:=hm6.owd Ho5.out (by show¬((0=2∨0=2+17)∨0=40);omega)
    have hr6:=hm6.mod0 Ho5.out Hr5.out (by show¬((0=2∨0=2+17)∨0=40);omega)
    have hl6:=Hl5.out.mov hm6 (by show¬((0=2∨0=2+17)∨0=40);omega) (by show¬((60=2∨60=2+17)∨60=40);omega) (by show¬((60=2∨60=2+17)∨60=40);omega)
    have hM6:=HM5.out.mov hm6 (by show¬((0=2∨0=2+17)∨0=40);omega) (by show¬((61=2∨61=2+17)∨61=40);omega)
    have hx6:=Hx5.out.mov hm6 (by show¬((0=2∨0=2+17)∨0=40);omega)
    have hg6:=hm6.md.heap Hg5.out (by rw [Ho51.out];show¬((1=2∨1=2+17)∨1=40);omega)
    have ho61:ow6 wr.heap.size=1:=by rw [hm6.old _ (Array.getElem?_eq_some_iff.1 Hg5.out).1];exact Ho51.out
    have hfine:=hx6.fine
    have hfr:=filter_right w6 x.sc (.slice x.ca x.cs.length x.cc) x.cs hx6.cs.rd (by have h1:x.cs.length≤1000:=hfine.len;omega) (by have h1:x.sc.size≤1000000:=hfine.sc;omega) (fun c hc=>by have:=(hfine.cs c hc).name;omega)
    have e4:w6.cell? ⟨wr.heap.size,4,none⟩=some (.string x.sc):=cell_of hg6 rfl
    have e5:w6.cell? ⟨wr.heap.size,5,none⟩=some (.slice x.ca x.cs.length x.cc):=cell_of hg6 rfl
    have Hb6':=Lib.hid hb6'
    have Ho6:=Lib.hid ho6
    have Hr6:=Lib.hid hr6
    have Hl6:=Lib.hid hl6
    have HM6:=Lib.hid hM6
    have Hx6:=Lib.hid hx6
    have Hg6:=Lib.hid hg6
    have Ho61:=Lib.hid ho61
    have HO6:=Lib.hid hO6
    have Hfr:=Lib.hid hfr
    have HSn:=Lib.hid hSn
    have Hfine:=Lib.hid hfine
    clear hb6' ho6 hr6 hl6 hM6 hx6 hg6 ho61 hO6 hfr hSn hfine hb6 hm6 hok
    go_wp2_with fail
    refine Hfr.out.mono ?_
    rintro e w7 ⟨rfl,hm7⟩
    have hv7:=Mov.of Ho6.out hm7 (fun _=>False)
    have ho7:=hv7.owd Ho6.out (fun h=>h)
    have hb7:=Hb6'.out.mov Ho6.out hv7 (fun h=>h) (fun _ h=>h.elim)
    have hl7:=Hl6.out.mov hv7 (fun h=>h) (fun h=>h) (fun h=>h)
    have hM7:=HM6.out.mov hv7 (fun h=>h) (fun h=>h)
    have hO7:=OtI.mov HO6.out hv7 (fun h=>h) (fun h=>h)
    have hx7:=Hx6.out.mov hv7 (fun h=>h)
    have hg7:=hm7.heap Hg6.out (fun h=>h)
    have hr7:=Hr6.out.trans hm7 (fun _ _ h=>h)
    cases hfb:filRight x.sc x.cs with
    |false=>
     have hkk:x.pru.kept=x.pru:=by unfold PRu.kept;rw [show filRight x.pru.sc x.pru.cs=false from hfb];rfl
     have Ho7:=Lib.hid ho7
     have Hb7:=Lib.hid hb7
     have Hl7:=Lib.hid hl7
     have HM7:=Lib.hid hM7
     have HO7:=Lib.hid hO7
     have Hx7:=Lib.hid hx7
     have Hg7:=Lib.hid hg7
     have Hr7:=Lib.hid hr7
     have Hv7:=Lib.hid hv7
     have Hm7:=Lib.hid hm7
     have Hkk:=Lib.hid hkk
     have Hfb:=Lib.hid hfb
     clear ho7 hb7 hl7 hM7 hO7 hx7 hg7 hr7 hv7 hm7 hkk hfb
     clear e4 e5
     obtain ⟨wS,hwS,hmwS,hgwS,hzwS⟩:=allocE w7 (.cells (x.pru.lies x.ca x.cc).cells.toArray 35)
     have hwS':w7.alloc (.cells #[.int .i64 x.kind,.int .i64 x.tenant,.string x.who,.int .i64 x.broker,.string x.sc,.slice x.ca x.cs.length x.cc,.string x.name,.int .i64 x.at_] 35)=wS:=hwS
     have hrdS:RdSl wS 8 (.slice (some ⟨w7.heap.size,0,none⟩) 1 1) 1 (x.pru.lies x.ca x.cc).cells:=hwS▸RdSl.one w7 (x.pru.lies x.ca x.cc).cells 35 rfl
     have hslS:=HM7.out.sl.mod hmwS (fun _ _ h=>h)
     have hone:∀u∈(x.pru.lies x.ca x.cc).cells,u.oneCell'=true:=fun u hu=>List.all_eq_true.1 (show (x.pru.lies x.ca x.cc).cells.all (·.oneCell')=true from rfl) u hu
     rw [HMl.out] at hslS
     have hglS:gl<w7.heap.size:=(Array.getElem?_eq_some_iff.1 Hl7.out.row).1
     have HwS':=Lib.hid hwS'
     have HrdS:=Lib.hid hrdS
     have HslS:=Lib.hid hslS
     have Hone:=Lib.hid hone
     have HmwS:=Lib.hid hmwS
     have HglS:=Lib.hid hglS
     clear hwS' hrdS hslS hone hmwS hglS hwS hgwS hzwS
     go_wp2_with (first|((with_reducible refine wpList_load_lit 35 (.tmp 10) ?_);refine ⟨wr.heap.size,0,rfl,[.int .i64 x.kind,.int .i64 x.tenant,.string x.who,.int .i64 x.broker,.string x.sc,.slice x.ca x.cs.length x.cc,.string x.name,.int .i64 x.at_],CellsAt.row Hg7.out,by kernel_rfl,by kernel_rfl, ?_⟩)|(rw [show w7.alloc _=wS from HwS'.out])|((with_reducible refine wpList_append_lit (.tmp 42) (.tmp 44) 22 ?_);refine ⟨rfl,35,8,104,rules_T2,.slice am P.length cm,P.length,rus (M.map Lr.ru),rfl,HslS.out,_,1,(x.pru.lies x.ca x.cc).cells,rfl,HrdS.out,Hone.out,by omega,by unfold maxLen;omega, ?_⟩;intro ad cp2 w9 hA;have HA:=Lib.hid hA;clear hA)|fail)
     have hA2:=HA.out
     rw [←HMl.out] at hA2
     obtain ⟨ow9,hM9,hv9⟩:=LogSl.app (d:=61) (v:= .slice am M.length cm) (x:=(x.pru,x.ca,x.cc)) Ho7.out (by omega) HglS.out (by rw [HMl.out];exact HM7.out) HmwS.out Hx7.out hA2
     have ho9:=hv9.owd Ho7.out (by omega)
     have hb9:=Hb7.out.mov Ho7.out hv9 (by omega) (fun t e=>by omega)
     have hl9:=Hl7.out.mov hv9 (by omega) (by omega) (by omega)
     have hO9:=OtI.mov HO7.out hv9 (by omega) (by omega)
     have hr9:=hv9.mod0 Ho7.out Hr7.out (by omega)
     rw [HMl.out] at hM9
     have hM9':(M++[(x.pru,x.ca,x.cc)]).map Prod.fst=addP P x.pru:=by rw [List.map_append,HMP.out,Hpk.out,Hkk.out];rfl
     have HM9:=Lib.hid hM9
     have Hv9:=Lib.hid hv9
     have Ho9:=Lib.hid ho9
     have Hb9:=Lib.hid hb9
     have Hl9:=Lib.hid hl9
     have HO9:=Lib.hid hO9
     have Hr9:=Lib.hid hr9
     have HM9':=Lib.hid hM9'
     clear hM9 hv9 ho9 hb9 hl9 hO9 hr9 hM9' hA2
     clear HA
     go_roundw
     case rel=>exact ⟨j+1,ow9,_,_,_,_,_,by go_num,hlt,HPn.out.symm,Ho9.out,Hb9.out,Hl9.out,Hp5.out,HM9.out,HM9'.out,HO9.out,HSn.out,Hr9.out⟩
     case measure=>simp [intOf];omega
    | true=>
     have hfl:=fil_bounds hfb
     have hkp:x.pru.kept={x.pru with cs:=normC x.cs}:=by unfold PRu.kept;rw [if_pos (show filRight x.pru.sc x.pru.cs=true from hfb)];rfl
     have hnr:=norm_at w w7 ho7.laid x.sc (.slice x.ca x.cs.length x.cc) x.cs hx7.cs.rd (by have:=hfl.2.1;omega) Hfine.out.cs
     obtain ⟨nl,hnl⟩:∃nl,normC x.cs=nl:=⟨_,rfl⟩
     rw [hnl] at hnr hkp
     have e4:w7.cell? ⟨wr.heap.size,4,none⟩=some (.string x.sc):=cell_of hg7 rfl
     have e5:w7.cell? ⟨wr.heap.size,5,none⟩=some (.slice x.ca x.cs.length x.cc):=cell_of hg7 rfl
     have Ho7:=Lib.hid ho7
     have Hb7:=Lib.hid hb7
     have Hl7:=Lib.hid hl7
     have HM7:=Lib.hid hM7
     have HO7:=Lib.hid hO7
     have Hx7:=Lib.hid hx7
     have Hg7:=Lib.hid hg7
     have Hr7:=Lib.hid hr7
     have Hv7:=Lib.hid hv7
     have Hm7:=Lib.hid hm7
     have Hfl:=Lib.hid hfl
     have Hkp:=Lib.hid hkp
     have Hnr:=Lib.hid hnr
     have Hnl:=Lib.hid hnl
     have Hfb:=Lib.hid hfb
     clear ho7 hb7 hl7 hM7 hO7 hx7 hg7 hr7 hv7 hm7 hfl hkp hnr hnl hfb
     go_wp2_with fail
     refine Hnr.out.mono ?_
     rintro e w8 ⟨na,nc,rfl,hno,hnb,hm8⟩
     have hv8:=Mov.of Ho7.out hm8 (fun _=>False)
     have ho8:=hv8.owd Ho7.out (fun h=>h)
     have hg8:=hm8.heap Hg7.out (fun h=>h)
     have hgl8:=(Array.getElem?_eq_some_iff.1 hg8).1
     have hgl7:=(Array.getElem?_eq_some_iff.1 Hg7.out).1
     have hkk:x.pru.kept=({x.pru with cs:=nl}:PRu):=Hkp.out
     have hkf:({x.pru with cs:=nl}:PRu).fine:=by rw [←hkk];exact Hfine.out.kept
     have hnb1:∀b,(Value.slice am P.length cm).ownBlock=some b→b≠wr.heap.size:=fun b hb e=>by have h1:=(HM7.out.vb b hb).1;rw [e,Ho61.out] at h1;omega
     have hslY:∀(wy:World) (o:Obj),Mod (fun b=>b=wr.heap.size) w8 wy→OwnSl (wy.alloc o) 35 8 (.slice am P.length cm) P.length (rus (M.map Lr.ru)):=fun wy o hmy=>by
      have h1:=((HM7.out.sl.mod hm8 (fun _ _ h=>h)).mod hmy (fun b hb e=>hnb1 b hb e)).alloc o
      rw [HMl.out] at h1
      exact h1
     have hone:∀u∈(({x.pru with cs:=nl}:PRu).lies na nc).cells,u.oneCell'=true:=fun u hu=>List.all_eq_true.1 (show (({x.pru with cs:=nl}:PRu).lies na nc).cells.all (·.oneCell')=true from rfl) u hu
     have Hno:=Lib.hid hno
     have Hnb:=Lib.hid hnb
     have Hm8:=Lib.hid hm8
     have Hv8:=Lib.hid hv8
     have Ho8:=Lib.hid ho8
     have Hg8:=Lib.hid hg8
     have Hkk:=Lib.hid hkk
     have Hkf:=Lib.hid hkf
     have HslY:=Lib.hid hslY
     have Hone:=Lib.hid hone
     clear hno hnb hm8 hv8 ho8 hg8 hkk hkf hslY hone
     go_wp2_with (first|((with_reducible refine wpList_store_part_lit 33 (.tmp 41) (.tmp 40) ?_);refine ⟨wr.heap.size,4,rfl,_,_,Hg8.out,[.string x.sc,.slice na nl.length nc],rfl,Nat.le_of_ble_eq_true rfl,by kernel_rfl,rfl, ?_⟩;intro wy hey hmy;have hgy:wy.heap[wr.heap.size]? =some (.cells ([.int .i64 x.kind,.int .i64 x.tenant,.string x.who,.int .i64 x.broker,.string x.sc,.slice na nl.length nc,.string x.name,.int .i64 x.at_]:List Value).toArray 35 (0,0)):=hey▸setRow_heap w8 wr.heap.size _ _ _ _ Hg8.out;have Hgy:=Lib.hid hgy;have Hmy:=Lib.hid hmy;clear hey hgy hmy)|((with_reducible refine wpList_load_lit 35 (.tmp 10) ?_);refine ⟨wr.heap.size,0,rfl,[.int .i64 x.kind,.int .i64 x.tenant,.string x.who,.int .i64 x.broker,.string x.sc,.slice na nl.length nc,.string x.name,.int .i64 x.at_],CellsAt.row Hgy.out,by kernel_rfl,by kernel_rfl, ?_⟩)|((with_reducible refine wpList_append_lit (.tmp 42) (.tmp 44) 22 ?_);refine ⟨rfl,35,8,104,rules_T2,.slice am P.length cm,P.length,rus (M.map Lr.ru),rfl,HslY.out wy _ Hmy.out,_,1,(({x.pru with cs:=nl}:PRu).lies na nc).cells,rfl,RdSl.one wy (({x.pru with cs:=nl}:PRu).lies na nc).cells 35 rfl,Hone.out,by omega,by unfold maxLen;omega, ?_⟩;intro ad cp2 w9 hA;have HA:=Lib.hid hA;clear hA)|fail)
     have hvy:Mov (fun t=>t=1) w8 ow6 wy ow6:=Mov.wrote Ho8.out Hmy.out (fun b hb=>by have hb':b=wr.heap.size:=hb;rw [hb'];exact Ho61.out)
     have hoy:=hvy.owd Ho8.out (by omega)
     have hry:=hvy.mod0 Ho8.out (Hr7.out.trans Hm8.out (fun _ _ h=>h)) (by omega)
     have hby:=(Hb7.out.mov Ho7.out Hv8.out (fun h=>h) (fun _ h=>h.elim)).mov Ho8.out hvy (by omega) (fun t e=>by omega)
     have hly:=(Hl7.out.mov Hv8.out (fun h=>h) (fun h=>h) (fun h=>h)).mov hvy (by omega) (by omega) (by omega)
     have hMy:=(HM7.out.mov Hv8.out (fun h=>h) (fun h=>h)).mov hvy (by omega) (by omega)
     have hOy:=OtI.mov (OtI.mov HO7.out Hv8.out (fun h=>h) (fun h=>h)) hvy (by omega) (by omega)
     have hxy:LrOk wy ow6 (({x.pru with cs:=nl}:PRu),na,nc):=⟨⟨(Hno.out.mod Hmy.out (fun b hb e=>by have h1:=Hnb.out b hb;have h3:b=wr.heap.size:=e;have h4:=(Array.getElem?_eq_some_iff.1 Hg7.out).1;omega)).rd,fun _ b hb=>Ho7.out.zero (Hnb.out b hb)⟩,Hkf.out⟩
     have hgly:gl<wy.heap.size:=(Array.getElem?_eq_some_iff.1 hly.row).1
     have Hvy:=Lib.hid hvy
     have Hoy:=Lib.hid hoy
     have Hry:=Lib.hid hry
     have Hby:=Lib.hid hby
     have Hly:=Lib.hid hly
     have HMy:=Lib.hid hMy
     have HOy:=Lib.hid hOy
     have Hxy:=Lib.hid hxy
     have Hgly:=Lib.hid hgly
     clear hvy hoy hry hby hly hMy hOy hxy hgly
     have hA2:=HA.out
     rw [←HMl.out] at hA2
     obtain ⟨ow9,hM9,hv9⟩:=LogSl.app (d:=61) (v:= .slice am M.length cm) (x:=(({x.pru with cs:=nl}:PRu),na,nc)) Hoy.out (by omega) Hgly.out (by rw [HMl.out];exact HMy.out) ((Mod.refl (fun _=>False) wy).alloc _) Hxy.out hA2
     have ho9:=hv9.owd Hoy.out (by omega)
     have hb9:=Hby.out.mov Hoy.out hv9 (by omega) (fun t e=>by omega)
     have hl9:=Hly.out.mov hv9 (by omega) (by omega) (by omega)
     have hO9:=OtI.mov HOy.out hv9 (by omega) (by omega)
     have hr9:=hv9.mod0 Hoy.out Hry.out (by omega)
     rw [HMl.out] at hM9
     have hM9':(M++[(({x.pru with cs:=nl}:PRu),na,nc)]).map Prod.fst=addP P x.pru:=by rw [List.map_append,HMP.out,Hpk.out,Hkk.out];rfl
     have HM9:=Lib.hid hM9
     have Hv9:=Lib.hid hv9
     have Ho9:=Lib.hid ho9
     have Hb9:=Lib.hid hb9
     have Hl9:=Lib.hid hl9
     have HO9:=Lib.hid hO9
     have Hr9:=Lib.hid hr9
     have HM9':=Lib.hid hM9'
     clear hM9 hv9 ho9 hb9 hl9 hO9 hr9 hM9' hA2
     clear HA
     go_roundw
     case rel=>exact ⟨j+1,ow9,_,_,_,_,_,by go_num,hlt,HPn.out.symm,Ho9.out,Hb9.out,Hl9.out,Hp5.out,HM9.out,HM9'.out,HO9.out,HSn.out,Hr9.out⟩
     case measure=>simp [intOf];omega
  ·obtain rfl:j=l.length:=by omega
   rw [List.take_length] at hPj
   have Hor:=Lib.hid hor
   have Hbr:=Lib.hid hbr
   have Hlr:=Lib.hid hlr
   have HMr:=Lib.hid hMr
   have HMP:=Lib.hid hMP
   have HOr:=Lib.hid hOr
   have Hmr:=Lib.hid hmr
   have HPj:=Lib.hid hPj
   clear hor hbr hlr hMr hMP hOr hmr hPj hLP hSl
   go_wp2
   go_ret2
   exact ⟨owr,g,gl,_,M,rfl,Hor.out,by rw [←HPj.out];exact Hbr.out,HMr.out,by rw [←HPj.out];exact HMP.out,Hmr.out⟩
end
section
open Go.RowKit Go.Sort
structure Gath (w:World) (ma:Nat) (R:List (Int×Fr)) (td:Int) (A:List UInt8→Option Fr):Prop where
 m:RIn w A ma
 a:∀k g,A k=some g→∃x,x≠td∧refF R x k=some g
theorem Gath.mod {w w':World} {ma:Nat} {R:List (Int×Fr)} {td:Int} {A:List UInt8→Option Fr} {F:Nat→Prop} (h:Gath w ma R td A) (hm:Mod F w w') (h1:¬F ma):Gath w' ma R td A:=⟨h.m.mod hm h1,h.a⟩
theorem Gath.low {w:World} {ma:Nat} {R:List (Int×Fr)} {td:Int} {A:List UInt8→Option Fr} (h:Gath w ma R td A) {n:Nat} {f:Lit→Option Value} (hm:MapR w 9 ma n f) (hf:∀k,f (.string k)=(A k).map Fr.val):n≤R.length:=by
 have hnd:((onceS (R.map fun p=>keyR p.2)).filter fun k=>(A k).isSome).Nodup:=(onceS_nodup _).filter _
 have h1:=hm.count keyed_s Tryz.underlying9 hnd (fun k=>by
  rw [List.mem_filter,onceS_mem,hf]
  constructor
  ·intro h2
   rw [Option.isSome_map]
   exact h2.2
  ·intro h2
   rw [Option.isSome_map] at h2
   refine ⟨?_,h2⟩
   obtain ⟨g,hg⟩:=Option.isSome_iff_exists.1 h2
   obtain ⟨x, -,h3⟩:=h.a k g hg
   obtain ⟨h4,rfl⟩:=refF_some h3
   exact List.mem_map.2 ⟨_,h4,rfl⟩)
 have ho:∀l:List (List UInt8),(onceS l).length≤l.length:=fun l=>by
  induction l with
  |nil=>exact Nat.le_refl _
  |cons a l ih=>
   unfold onceS
   split
   ·exact Nat.le_trans ih (Nat.le_succ _)
   ·exact Nat.succ_le_succ ih
 rw [h1]
 refine Nat.le_trans (List.length_filter_le _ _) (Nat.le_trans (ho _) ?_)
 rw [List.length_map]
 exact Nat.le_refl _
theorem Gath.put {w:World} {ma:Nat} {R:List (Int×Fr)} {td:Int} {A:List UInt8→Option Fr} (h:Gath w ma R td A) {x:Int} {k:List UInt8} {g:Fr} (hx:x≠td) (hg:refF R x k=some g):
 ∃n f,MapR w 9 ma n f∧n≤R.length∧∀w' m,MapR w' 9 ma m (putF f (.string k) (.agg #[.string g.sc,.slice g.a g.cs.length g.c]))→Gath w' ma R td (fun j=>if j=k then some g else A j):=by
 obtain ⟨n,f,h1,h2⟩:=h.m
 refine ⟨n,f,h1,h.low h1 h2,fun w' m hm=>⟨⟨m,_,hm,fun j=> ?_⟩,fun j q hq=> ?_⟩⟩
 ·unfold putF
  by_cases e:j=k
  ·subst e
   rw [if_pos rfl]
   show _=Option.map Fr.val (if j=j then some g else A j)
   rw [if_pos rfl]
   rfl
  ·rw [if_neg (fun h=>e (Lit.string.inj h))]
   show _=Option.map Fr.val (if j=k then some g else A j)
   rw [if_neg e]
   exact h2 j
 ·have hq:(if j=k then some g else A j)=some q:=hq
  by_cases e:j=k
  ·subst e
   rw [if_pos rfl] at hq
   cases hq
   exact ⟨x,hx,hg⟩
  ·rw [if_neg e] at hq
   exact h.a j q hq
theorem Gath.new {w:World} {ma:Nat} {R:List (Int×Fr)} {td:Int} {n:Nat} (h:MapR w 9 ma n (fun _=>none)):Gath w ma R td (fun _=>none):=⟨⟨n,_,h,fun _=>rfl⟩,fun k g h=>by cases h⟩
theorem rcov_at (w:World) (x y:Fr) (hx:RdSl w 7 (.slice x.a x.cs.length x.c) x.cs.length (cnds x.cs)) (hy:RdSl w 7 (.slice y.a y.cs.length y.c) y.cs.length (cnds y.cs)) (hxo:okQ x.fil) (hyo:okQ y.fil) (cx:okCs x.cs) (cy:okCs y.cs):
 Calls Tryz.prog 31 #[.agg #[.string x.sc,.slice x.a x.cs.length x.c],.agg #[.string y.sc,.slice y.a y.cs.length y.c]] w fun e w'=>e= .returned (.bool (covQ x.fil y.fil))∧Mod (fun _=>False) w w':=by
 have h1:x.cs.length≤19:=hxo.1
 have h2:y.cs.length≤19:=hyo.1
 have h3:x.sc.size≤1000000:=hxo.2.2
 have h4:y.sc.size≤1000000:=hyo.2.2
 have e:covQ x.fil y.fil=(y.cs.any Cnd.voidB||(x.cs.all (fun c=>y.cs.any fun d=>rimpB d c)&&underB y.sc x.sc)):=by
  show (y.cs.any Cnd.voidB||(x.cs.all (fun c=>y.cs.any fun d=>impB d c)&&underB y.sc x.sc))=_
  have e2:(x.cs.all fun c=>y.cs.any fun d=>impB d c)=(x.cs.all fun c=>y.cs.any fun d=>rimpB d c):=by
   rw [Bool.eq_iff_iff,List.all_eq_true,List.all_eq_true]
   refine forall_congr' fun c=>forall_congr' fun hc=> ?_
   rw [List.any_eq_true,List.any_eq_true]
   refine exists_congr fun d=>and_congr_right fun hd=> ?_
   rw [rimp_imp (cy d hd).2 (cx c hc).2 (cy d hd).1.1 (cy d hd).1.2]
  rw [e2]
 rw [e]
 exact rcovers_at w x.sc _ x.cs hx (by omega) (by omega) (fun c hc=>by have:=(hxo.2.1 c hc).v.text;omega) y.sc _ y.cs hy (by omega) (by omega) (fun c hc=>by have:=(hyo.2.1 c hc).v.text;omega)
end
section
open Go.RowKit
theorem frm_wf {F:Int} (h:F=1∨F=2):(Lit.int .i64 F).wf=true:=by rcases h with rfl|rfl<;>decide
theorem bcrash_at (w0 w:World) (ow:Ow) (hw:Owd w0 w ow) (c g:Nat) (id:Int) (near:List Int) (B:BS) (h:Bro w ow c g id near B):Calls Tryz.prog 32 #[.pointer (some ⟨g,0,none⟩)] w (CrashPost w0 w ow c g id near B.L):=by
 obtain ⟨a,h⟩:=h
 obtain ⟨L,hl,hL⟩:=h.log
 have:=crash_at w0 w ow c g id near hw h.c2 a.v a.nv L ((a.rest id).drop 2) rfl hl.row hl.tag hl.sl h.near
 rw [hL] at this
 exact this
theorem TabC.okq {w:World} {ow:Ow} {c b:Nat} {M:List (Int×Fil)} {N:Nat} (h:TabC w ow c b M N):∀p∈M,okQ p.2:=fun p hp=>by
 obtain ⟨mo,hat⟩:=h
 exact ⟨(hat.wf _ hp).2.1,(hat.wf _ hp).2.2,hat.sc _ hp⟩
structure TdS (tb t B:Nat) (ten:Int) (fs:ByteArray) (fa:Option Addr) (n fc:Nat) (v:Value) (y:World):Prop where
 y1:y.cell? ⟨B,1,none⟩=some (.int .i64 ten)
 y12:y.cell? ⟨B,12,none⟩=some (.string fs)
 y13:y.cell? ⟨B,13,none⟩=some (.slice fa n fc)
 v0:y.cell? ⟨tb,t,none⟩=some v
theorem TdS.mod {tb t B:Nat} {ten:Int} {fs:ByteArray} {fa:Option Addr} {n fc:Nat} {v:Value} {y z:World} (h:TdS tb t B ten fs fa n fc v y) (hm:Mod (fun _=>False) y z):TdS tb t B ten fs fa n fc v z:=⟨hm.cell h.y1 (fun h=>h),hm.cell h.y12 (fun h=>h),hm.cell h.y13 (fun h=>h),hm.cell h.v0 (fun h=>h)⟩
theorem TdS.mod2 {F:Nat→Prop} {tb t B:Nat} {ten:Int} {fs:ByteArray} {fa:Option Addr} {n fc:Nat} {v:Value} {y z:World} (h:TdS tb t B ten fs fa n fc v y) (hm:Mod F y z) (h1:¬F B) (h2:¬F tb):TdS tb t B ten fs fa n fc v z:=⟨hm.cell h.y1 h1,hm.cell h.y12 h1,hm.cell h.y13 h1,hm.cell h.v0 h2⟩
theorem toldL_len (S:List Sd) (k t:Nat):(toldL (S.take k) t).length≤k:=by
 unfold toldL
 rw [List.length_map]
 refine Nat.le_trans (List.length_filter_le _ _) ?_
 rw [List.length_take]
 omega
theorem forg_any {M:List (Int×Fil)} {l lh:List Fr} (hM:∀p∈M,okN p.2) (hq:∀p∈M,okQ p.2) (h1:l.map Fr.fil=outL M 2) (h2:lh.map Fr.fil=allQ M 1):
 (∀f∈lh,(l.any fun g=>covQ g.fil f.fil)=true)∧(∀f∈lh,okQ f.fil∧okCs f.cs)∧(∀g∈l,okQ g.fil∧okCs g.cs)∧lh.length≤M.length∧l.length≤M.length:=by
 have hin:∀f∈lh,f.fil∈allQ M 1:=fun f hf=>by rw [←h2];exact List.mem_map_of_mem hf
 refine ⟨fun f hf=> ?_,fun f hf=>⟨hq _ (allQ_in (hin f hf)),okN_cs (hM _ (allQ_in (hin f hf)))⟩,fun g hg=> ?_, ?_, ?_⟩
 ·obtain ⟨g,hg,hc⟩:=forg_cov hM (hin f hf)
  rw [←h1] at hg
  obtain ⟨fr,hfr,e⟩:=List.mem_map.1 hg
  exact List.any_eq_true.2 ⟨fr,hfr,by rw [e];exact hc⟩
 ·have h3:g.fil∈outL M 2:=by rw [←h1];exact List.mem_map_of_mem hg
  obtain ⟨-,x, -,hx⟩:=allF_some (outL_mem h3).1
  exact ⟨hq _ hx,okN_cs (hM _ hx)⟩
 ·have h3:=congrArg List.length h2
  rw [List.length_map] at h3
  have h4:(allQ M 1).length≤M.length:=by
   unfold allQ riseS
   refine Nat.le_trans (List.length_filterMap_le _ _) ?_
   rw [List.length_mergeSort]
   exact keysL_len M 1
  omega
 ·have h3:=congrArg List.length h1
  rw [List.length_map] at h3
  have h4:=outL_le M 2
  omega
def FgRel (w3:World) (g q:Nat) (P:List PRu) (n:Nat) (i:Value) (wr:World):Prop:=∃(j:Nat) (owr:Ow) (B:BS) (S:List Sd),i= .int .i64 j∧j≤n∧AskI w3 wr owr g q P B j S []
theorem bforgets_walk (w:World) (hl0:Laid w w) (v:Value) (l:List Ru) (hv:RuSl w v l) (hll:l.length≤9223372036854775807) (hin:∀r∈l,RuIn r) (av:Value) (A:List As) (hA:AsSl w av A) (hAl:A.length≤9223372036854775807) (hAi:∀x∈A,AsIn x):
 Calls Tryz.prog 5 #[v,av] w fun e w'=>e= .returned (.bool true)∧Mod (fun _=>False) w w':=by
 obtain ⟨a,cap,rfl,hcap⟩:∃a c,v= .slice a l.length c∧l.length≤c:=by obtain ⟨-,a,c,h,h2, -⟩:=hv.rd;exact ⟨a,c,h,h2⟩
 obtain ⟨aa,acap,rfl,hacap⟩:∃a c,av= .slice a A.length c∧A.length≤c:=by obtain ⟨-,a,c,h,h2, -⟩:=hA.rd;exact ⟨a,c,h,h2⟩
 have hft:=fit17_at w w hl0
 have hAl':(A.length:Int)≤9223372036854775807:=by omega
 have hacap':(A.length:Int)≤acap:=by omega
 have Hl0:=Lib.hid hl0
 have Hft:=Lib.hid hft
 have Hv:=Lib.hid hv
 have Hin:=Lib.hid hin
 have HA:=Lib.hid hA
 have HAi:=Lib.hid hAi
 have Hll:=Lib.hid hll
 clear hl0 hft hv hin hA hAi hll hcap hacap
 go_enter Tryz.func5,Tryz.ntmps5
 go_wp2_with fail
 refine Hft.out.mono ?_
 rintro e w1 ⟨rfl,hm1⟩
 have hli:=light10f_at w1 (.slice a l.length cap) l (Hv.out.mod hm1) Hll.out (fun r hr=>⟨(Hin.out r hr).who,(Hin.out r hr).name,(Hin.out r hr).sc,fun c hc=>((Hin.out r hr).cs c hc).1⟩)
 have Hm1:=Lib.hid hm1
 have Hli:=Lib.hid hli
 clear hm1 hli Hft
 go_wp2_with fail
 refine Hli.out.mono ?_
 rintro e w2 ⟨b,rfl,hb,hm2⟩
 have hm02:=Hm1.out.trans hm2 (fun _ _ h=>h)
 have hla:=light17_at w2 (.slice aa A.length acap) A (HA.out.mod hm02) hAl HAi.out
 have Hm02:=Lib.hid hm02
 have Hb:=Lib.hid hb
 have Hla:=Lib.hid hla
 clear hm02 hb hla hm2
 cases b with
 |false=>
  go_wp2
  go_ret
  exact ⟨rfl,Hm02.out⟩
 |true=>
 obtain ⟨hl80,hli2⟩:=Hb.out rfl
 have Hli2:=Lib.hid hli2
 clear hli2
 go_wp2_with fail
 refine Hla.out.mono ?_
 rintro e w3 ⟨b2,rfl,hb2,hm3⟩
 have hm03:=Hm02.out.trans hm3 (fun _ _ h=>h)
 have Hm03:=Lib.hid hm03
 have Hb2:=Lib.hid hb2
 clear hm03 hb2 hm3
 cases b2 with
 |false=>
  go_wp2
  go_ret
  exact ⟨rfl,Hm03.out⟩
 |true=>
 obtain ⟨hA30,hAlt⟩:=Hb2.out rfl
 have hfi:∀r∈l,r.pru.fine:=fun r hr=>(Hin.out r hr).fine (Hli2.out r hr)
 have hlr:=learned_at w3 (laid_base (Hl0.out.mod0 Hm03.out)) (.slice a l.length cap) l (Hv.out.mod Hm03.out) hl80 hfi
 have HAlt:=Lib.hid hAlt
 have Hfi:=Lib.hid hfi
 have Hlr:=Lib.hid hlr
 clear hAlt hfi hlr
 go_wp2_with fail
 refine Hlr.out.mono ?_
 rintro e w4 ⟨ow4,gb,gl,vm,M,rfl,ho4,hb4,hM4,hMP,hm34⟩
 obtain ⟨P,hP⟩:∃P,learnP (l.map Ru.pru)=P:=⟨_,rfl⟩
 have hPl:=learnP_forty (l.map Ru.pru)
 rw [hP] at hPl hb4 hMP
 have hMl:M.length=P.length:=by rw [←hMP,List.length_map]
 obtain ⟨va,vc,rfl,hvc⟩:∃a c,vm= .slice a P.length c∧P.length≤c:=by obtain ⟨-,a,c,h,h2, -⟩:=hM4.sl.rd;rw [hMl] at h h2;exact ⟨a,c,h,h2⟩
 have hm04:=Hm03.out.trans hm34 (fun _ _ h=>h)
 obtain ⟨hO5,hm5⟩:=OtI.new (c:=40) ho4
 obtain ⟨w5,hw5⟩:∃w5:World,w4.alloc (.cells #[.slice none 0 0,.slice none 0 0] 39)=w5:=⟨_,rfl⟩
 rw [hw5] at hO5 hm5
 have ho5:=hm5.owd ho4 (by omega)
 have hmd5:Mod (fun _=>False) w4 w5:=hw5▸(Mod.refl (fun _=>False) w4).alloc _
 have hI5:AskI w3 w5 (tagOne ow4 w4.heap.size 40) gb w4.heap.size P ⟨P,fun _=>RS.zero⟩ 0 [] []:=⟨ho5,hb4.mov ho4 hm5 (by omega) (fun t e=>by omega),rfl,fun t _=>RInv.zero,hO5,Nat.zero_le _,hm34.trans hmd5 (fun _ _ h=>h)⟩
 have hm05:=hm04.trans hmd5 (fun _ _ h=>h)
 have Ho4:=Lib.hid ho4
 have Hb4:=Lib.hid hb4
 have HM4:=Lib.hid hM4
 have HMP:=Lib.hid hMP
 have Hm34:=Lib.hid hm34
 have HP:=Lib.hid hP
 have HMl:=Lib.hid hMl
 have Hm04:=Lib.hid hm04
 have HO5:=Lib.hid hO5
 have Hm5:=Lib.hid hm5
 have Hw5:=Lib.hid hw5
 have Ho5:=Lib.hid ho5
 have Hmd5:=Lib.hid hmd5
 have HI5:=Lib.hid hI5
 have Hm05:=Lib.hid hm05
 clear ho4 hb4 hM4 hMP hm34 hP hMl hm04 hO5 hm5 hw5 ho5 hmd5 hI5 hm05 hvc
 go_wp2_with (first|(rw [show w4.alloc _=w5 from Hw5.out])|fail)
 go_loopw [39] (fun i wr=>FgRel w3 gb w4.heap.size P A.length i wr) (fun i _=>A.length - (intOf i).toNat)
 case atStart=>exact ⟨0,_,_,[],rfl,Nat.zero_le _,HI5.out⟩
 case round =>
  obtain ⟨j,owr,B,S,rfl,hj,hI⟩:=hrel
  have hmr:=Hm03.out.trans hI.md (fun _ _ h=>h)
  by_cases hlt:j<A.length
  ·have hlt':(j:Int)<A.length:=by omega
   obtain ⟨x,hxj⟩:∃x,A[j]? =some x:=⟨_,List.getElem?_eq_getElem hlt⟩
   have hxm:=List.mem_of_getElem? hxj
   have hvr:=HA.out.mod hmr
   obtain ⟨ga,offa,rfl,hf⟩:=rd_ask hvr hxj
   have hxi:=HAi.out x hxm
   have hxl:=HAlt.out x hxm
   obtain ⟨hfs,hfl,hft⟩:=hxi.fits hxl
   obtain ⟨wz,hwz,hmwz,hgwz,hzwz⟩:=allocE wr (.cells x.cells.toArray 84)
   have hwz':wr.alloc (.cells #[.int .i64 x.kind,.int .i64 x.tenant,.int .i64 x.frm,.string x.who,.string x.sc,.slice x.a x.cs.length x.c] 84)=wz:=hwz
   have hmz:=hmr.trans hmwz (fun _ _ h=>h)
   have hcs:=fun wx (hx:Mod (fun _=>False) wz wx)=>((hvr.mod hmwz).cs x hxm).mod hx (fun _ _ h=>h)
   have hri:=filter_right wz x.sc (.slice x.a x.cs.length x.c) x.cs (hcs wz (Mod.refl _ _)) (by omega) (by omega) (fun c hc=>by have:=(hft c hc).name;omega)
   obtain ⟨R,hR⟩:∃R,filRight x.sc x.cs=R:=⟨_,rfl⟩
   rw [hR] at hri
   have z4:wz.cell? ⟨wr.heap.size,4,none⟩=some (.string x.sc):=cell_of hgwz rfl
   have z5:wz.cell? ⟨wr.heap.size,5,none⟩=some (.slice x.a x.cs.length x.c):=cell_of hgwz rfl
   have Hmr:=Lib.hid hmr
   have Hxj:=Lib.hid hxj
   have Hxm:=Lib.hid hxm
   have Hvr:=Lib.hid hvr
   have Hf:=Lib.hid hf
   have Hxi:=Lib.hid hxi
   have Hxl:=Lib.hid hxl
   have Hft:=Lib.hid hft
   have Hwz:=Lib.hid hwz
   have Hwz':=Lib.hid hwz'
   have Hmwz:=Lib.hid hmwz
   have Hgwz:=Lib.hid hgwz
   have Hmz:=Lib.hid hmz
   have Hcs:=Lib.hid hcs
   have Hri:=Lib.hid hri
   have HR:=Lib.hid hR
   have HI:=Lib.hid hI
   clear hmr hxj hxm hvr hf hxi hxl hft hwz hwz' hmwz hgwz hmz hcs hri hR hI hzwz hfs hfl
   go_wp2_with (first|((with_reducible refine wpList_load_lit 84 (.tmp 42) ?_);refine ⟨ga,offa+j*6,rfl,[.int .i64 x.kind,.int .i64 x.tenant,.int .i64 x.frm,.string x.who,.string x.sc,.slice x.a x.cs.length x.c],Hf.out,by kernel_rfl,by kernel_rfl, ?_⟩)|((with_reducible refine wpList_store_lit 84 (.tmp 9) (.tmp 43) ?_);refine ⟨rfl,[.int .i64 x.kind,.int .i64 x.tenant,.int .i64 x.frm,.string x.who,.string x.sc,.slice x.a x.cs.length x.c],rfl,rfl,by kernel_rfl,rfl, ?_⟩;rw [Hwz'.out])|fail)
   refine Hri.out.mono ?_
   rintro e w6 ⟨rfl,hm6⟩
   have hI6:=HI.out.mod (Hmwz.out.trans hm6 (fun _ _ h=>h))
   have hm06:=Hmz.out.trans hm6 (fun _ _ h=>h)
   have hg6:=hm6.heap Hgwz.out (fun h=>h)
   have hc6:=Hcs.out w6 hm6
   have y0:w6.cell? ⟨wr.heap.size,0,none⟩=some (.int .i64 x.kind):=cell_of hg6 rfl
   have y1:w6.cell? ⟨wr.heap.size,1,none⟩=some (.int .i64 x.tenant):=cell_of hg6 rfl
   have y2:w6.cell? ⟨wr.heap.size,2,none⟩=some (.int .i64 x.frm):=cell_of hg6 rfl
   have y3:w6.cell? ⟨wr.heap.size,3,none⟩=some (.string x.who):=cell_of hg6 rfl
   have y4:w6.cell? ⟨wr.heap.size,4,none⟩=some (.string x.sc):=cell_of hg6 rfl
   have y5:w6.cell? ⟨wr.heap.size,5,none⟩=some (.slice x.a x.cs.length x.c):=cell_of hg6 rfl
   obtain ⟨hfs,hfl, -⟩:=Hxi.out.fits Hxl.out
   cases R with
   |false=>
    have HI6:=Lib.hid hI6
    have Hm06:=Lib.hid hm06
    have Hg6:=Lib.hid hg6
    have Hc6:=Lib.hid hc6
    clear hI6 hm06 hg6 hc6 hm6 z4 z5
    go_wp2_with fail
    go_roundw
    case rel=>exact ⟨j+1,owr,B,S,by go_num,hlt,HI6.out.next⟩
    case measure=>simp [intOf];omega
   |true=>
   obtain ⟨kk,hkk,hkk4⟩:=and3 x.kind
   obtain ⟨t,ht,ht4⟩:=and3 x.tenant
   by_cases hk1:kk=1
   ·obtain ⟨u,hu,hu2⟩:=and1 x.frm
    have hkb:((kk:Int)==1)=true:=by rw [hk1];rfl
    have hF:((1:Int)+u)=1∨((1:Int)+u)=2:=by omega
    have hwr:wrap64 ((1:Int)+u)=1+u:=wrap64_of (by omega) (by omega)
    have hta:=hI6.take1 (by omega) t ht4 (1+(u:Int)) (frm_wf hF) hc6 HR.out Hft.out
    have HI6:=Lib.hid hI6
    have Hm06:=Lib.hid hm06
    have Hg6:=Lib.hid hg6
    have Hc6:=Lib.hid hc6
    have Hta:=Lib.hid hta
    have HF:=Lib.hid hF
    clear hI6 hm06 hg6 hc6 hta hF hm6 z4 z5 hk1
    go_wp2_with fail
    refine Hta.out.mono ?_
    rintro e w7 ⟨rfl,ow7,hI7, -⟩
    have HI7:=Lib.hid hI7
    clear hI7
    go_wp2_with fail
    go_roundw
    case rel=>exact ⟨j+1,ow7,_,_,by go_num,hlt,HI7.out⟩
    case measure=>simp [intOf];omega
   ·have hkb:((kk:Int)==1)=false:=by rw [beq_eq_false_iff_ne];omega
    have hsu:=hI6.sub hPl (by omega) t ht4 x.who x.sc x.a x.c x.cs hc6 hfs hfl Hft.out
    have HI6:=Lib.hid hI6
    have Hm06:=Lib.hid hm06
    have Hg6:=Lib.hid hg6
    have Hc6:=Lib.hid hc6
    have Hsu:=Lib.hid hsu
    clear hI6 hm06 hg6 hc6 hsu hm6 z4 z5 hk1
    go_wp2_with fail
    refine Hsu.out.mono ?_
    rintro e w7 ⟨rfl,ow7,hI7, -⟩
    have HI7:=Lib.hid hI7
    clear hI7
    go_wp2_with fail
    go_roundw
    case rel=>exact ⟨j+1,ow7,_,_,by go_num,hlt,HI7.out⟩
    case measure=>simp [intOf];omega
  ·obtain rfl :j=A.length:=by omega
   have hRg:=fun t ht=>hI.go (by omega) t ht
   have hcn:=hI.cnt
   have hfo:=forget_at w3 wr owr hI.ow 2 gb 0 [1,2] B hI.br (by decide) near_wf w4.heap.size (out17 w3 w4.heap.size 40 (by omega)) (S,[]) hI.O (fun t ht=>by have h':t=40:=ht;omega) (fun _ _ _ _=>trivial) (by show S.length+0≤_;rw [List.length_nil] at hcn;omega) hRg 2 (by decide)
   obtain ⟨wq,rfl⟩:∃x:World,x=wr:=⟨_,rfl⟩
   have HI:=Lib.hid hI
   have Hfo:=Lib.hid hfo
   have HRg:=Lib.hid hRg
   have Hmr:=Lib.hid hmr
   clear hI hfo hRg hmr hcn
   go_wp2_with fail
   refine Hfo.out.mono ?_
   rintro e w6 ⟨rfl,ow6,hb6,hO6,hm6⟩
   have h06:¬((2<0∧0<2+17)∨(out17 w3 w4.heap.size 40 (by omega)).tg 0):=fun h=>by
    rcases h with h|h
    ·omega
    ·cases h
   have ho6:=hm6.owd HI.out.ow h06
   have hmd6:=hm6.mod0 HI.out.ow HI.out.md h06
   obtain ⟨B1,hB1⟩:∃B1,B.upto (RS.loseR 2 true [1,2]) 4=B1:=⟨_,rfl⟩
   have hi1:BInv B1 (A.length+1):=hB1▸HI.out.R.upto 2 true
   have hL1:B1.L=P:=by rw [←hB1];exact HI.out.L
   have hM1:∀t,t<4→allQ (B1.R t).M 2=[]:=fun t ht=>by
    rw [←hB1,show (B.upto (RS.loseR 2 true [1,2]) 4).R t=(B.R t).loseR 2 true [1,2] from if_pos ht]
    exact allQ_drop _ _
   rw [hB1] at hb6
   have hm06:=Hm03.out.trans hmd6 (fun _ _ h=>h)
   have hN1:∀t,t<4→(B1.R t).N≤100000:=fun t ht=>by have:=(hi1 t ht).n;omega
   have hmi6:Mod (fun _=>False) w6 w6:=Mod.refl _ _
   have Hb6:=Lib.hid hb6
   have HO6:=Lib.hid hO6
   have Hm6:=Lib.hid hm6
   have Ho6:=Lib.hid ho6
   have Hmd6:=Lib.hid hmd6
   have HB1:=Lib.hid hB1
   have Hi1:=Lib.hid hi1
   have HL1:=Lib.hid hL1
   have HM1:=Lib.hid hM1
   have Hm06:=Lib.hid hm06
   have HN1:=Lib.hid hN1
   have Hmi6:=Lib.hid hmi6
   clear hb6 hO6 hm6 ho6 hmd6 hB1 hi1 hL1 hM1 hm06 hN1 hmi6 h06
   go_wp2_with fail
   go_loopw [80] (fun i wr=>∃t:Nat,i= .int .i64 t∧t≤4∧Mod (fun _=>False) w6 wr) (fun i _=>4 - (intOf i).toNat)
   case atStart=>exact ⟨0,rfl,Nat.zero_le _,Hmi6.out⟩
   case round =>
    obtain ⟨t,rfl,ht,hmt⟩:=hrel
    have hsr:=Mov.of Ho6.out hmt (fun _=>False)
    have hbr:=Hb6.out.mov Ho6.out hsr (fun h=>h) (fun _ h=>h.elim)
    by_cases hlt:t<4
    ·have hlt':(t:Int)<4:=by omega
     have hhe:=heard_at wr ow6 2 gb 0 [1,2] B1 hbr t hlt (HN1.out t hlt) 2 (by decide)
     rw [HM1.out t hlt] at hhe
     have Hmt:=Lib.hid hmt
     have Hbr:=Lib.hid hbr
     have Hhe:=Lib.hid hhe
     have Hsr:=Lib.hid hsr
     clear hmt hbr hhe hsr
     go_wp2_with fail
     refine Hhe.out.mono ?_
     rintro e w7 ⟨v7,l7,rfl,hv7, -,hl7, -,hm7⟩
     obtain rfl:l7=[]:=List.map_eq_nil_iff.1 hl7
     obtain ⟨a7,c7,rfl, -⟩:=hv7.shape
     have hmr7:=Hmt.out.trans hm7 (fun _ _ h=>h)
     have Hmr7:=Lib.hid hmr7
     clear hmr7 hm7 hv7 hl7
     go_wp2_with fail
     go_roundw
     case rel=>exact ⟨t+1,by go_num,hlt,Hmr7.out⟩
     case measure=>simp [intOf];omega
    ·obtain rfl:t=4:=by omega
     obtain ⟨wE,rfl⟩:∃x:World,x=wr:=⟨_,rfl⟩
     have hoE:=hsr.owd Ho6.out (fun h=>h)
     have hmE:=Hm06.out.trans hmt (fun _ _ h=>h)
     obtain ⟨hOp,hmp⟩:=OtI.new (c:=41) hoE
     obtain ⟨wp,hwp⟩:∃wp:World,wE.alloc (.cells #[.slice none 0 0,.slice none 0 0] 39)=wp:=⟨_,rfl⟩
     rw [hwp] at hOp hmp
     obtain ⟨owp,howp⟩:∃o:Ow,tagOne ow6 wE.heap.size 41=o:=⟨_,rfl⟩
     rw [howp] at hOp hmp
     have hop:=hmp.owd hoE (by omega)
     have hbp:=hbr.mov hoE hmp (by omega) (fun t e=>by omega)
     have hRp:∀t,t<4→RS.Go (B1.R t):=fun t ht=>by
      obtain ⟨a',hba⟩:=hbp
      exact (Hi1.out t ht).go (by omega) (hba.rea t ht).tab
     have hM1l:∀t,t<4→(B1.R t).M.length≤1000∧∀p∈(B1.R t).M,okQ p.2:=fun t ht=>by
      obtain ⟨a',hba⟩:=hbp
      have h1:=TabC.len (hba.rea t ht).tab
      have h2:=(Hi1.out t ht).n
      exact ⟨by omega,TabC.okq (hba.rea t ht).tab⟩
     have hmEp:Mod (fun _=>False) wE wp:=hwp▸(Mod.refl (fun _=>False) wE).alloc _
     have hmp0:=hmE.trans hmEp (fun _ _ h=>h)
     have hmd3:Mod (fun _=>False) w3 wp:=(Hmd6.out.trans hmt (fun _ _ h=>h)).trans hmEp (fun _ _ h=>h)
     have han:=announce_at w3 wp owp hop 2 gb 0 [1,2] B1 hbp (by rw [HL1.out];exact hPl) (by decide) near_wf wE.heap.size (out17 w3 wE.heap.size 41 (by omega)) ([],[]) hOp (fun t ht=>by have h':t=41:=ht;omega) (fun _ _ _ _=>trivial) (by show 0+0≤_;omega) hRp 2 (by decide) trivial
     have HM1l:=Lib.hid hM1l
     have Hmt:=Lib.hid hmt
     have Hsr:=Lib.hid hsr
     have Hbr:=Lib.hid hbr
     have HoE:=Lib.hid hoE
     have HmE:=Lib.hid hmE
     have HOp:=Lib.hid hOp
     have Hmp:=Lib.hid hmp
     have Hwp:=Lib.hid hwp
     have Howp:=Lib.hid howp
     have Hop:=Lib.hid hop
     have Hbp:=Lib.hid hbp
     have HRp:=Lib.hid hRp
     have HmEp:=Lib.hid hmEp
     have Hmp0:=Lib.hid hmp0
     have Hmd3:=Lib.hid hmd3
     have Han:=Lib.hid han
     clear hM1l hmt hsr hbr hoE hmE hOp hmp hwp howp hop hbp hRp hmEp hmp0 hmd3 han
     go_wp2_with (first|(rw [show wE.alloc _=wp from Hwp.out])|fail)
     refine Han.out.mono ?_
     rintro e wS ⟨rfl,owS,hbS,hOS,hmS⟩
     rw [sends17,List.nil_append,HL1.out,ann_is Hi1.out P] at hOS
     obtain ⟨v1,v2,S',H',hot,hSd, -⟩:=hOS
     obtain ⟨sa,sc,rfl,hsc⟩:∃a c,v1= .slice a S'.length c∧S'.length≤c:=by obtain ⟨-,a,c,h,h2, -⟩:=hot.s1.rd;exact ⟨a,c,h,h2⟩
     have hsc':(S'.length:Int)≤sc:=by omega
     have hSl:S'.length≤4040:=by
      have h1:=congrArg List.length hSd
      rw [List.length_map] at h1
      have h2:=annS_len P (fun t=>outL (B1.R t).M 2) (X:=1000) (fun t ht=>Nat.le_trans (outL_le _ _) (HM1l.out t ht).1)
      exact Nat.le_trans (Nat.le_of_eq h1) (Nat.le_trans h2 (by omega))
     obtain ⟨B2,hB2⟩:∃B2,B1.upto (RS.loseR 2 false [1,2]) 4=B2:=⟨_,rfl⟩
     have hM2:∀t,t<4→(B2.R t).M=(B1.R t).M∧(B2.R t).N=(B1.R t).N:=fun t ht=>by
      rw [←hB2,show (B1.upto (RS.loseR 2 false [1,2]) 4).R t=(B1.R t).loseR 2 false [1,2] from if_pos ht]
      exact ⟨rfl,rfl⟩
     have hL2:B2.L=P:=by rw [←hB2];exact HL1.out
     rw [hB2] at hbS
     have h0S:¬((2<0∧0<2+17)∨(out17 w3 wE.heap.size 41 (by omega)).tg 0):=fun h=>by
      rcases h with h|h
      ·omega
      ·cases h
     have hoS:=hmS.owd Hop.out h0S
     have hmdS:=hmS.mod0 Hop.out Hmd3.out h0S
     have hm0S:=Hm03.out.trans hmdS (fun _ _ h=>h)
     have hok:SaidOk (S'.map Sv.sd):=by rw [hSd];exact annS_ok _ _
     obtain ⟨wT,hwT,hmwT,hgwT,hzwT⟩:=allocE wS (.cells #[.slice none 0 0,.slice none 0 0,.slice none 0 0,.slice none 0 0] 91)
     have hT0:=Told.new hgwT hmwT (Nat.le_refl _)
     have hs1T:=hot.s1.mod hmwT (fun _ _ h=>h)
     have cS:wT.cell? ⟨wE.heap.size,0,none⟩=some (.slice sa S'.length sc):=hmwT.cell (cell_of hot.row rfl) (fun h=>h)
     have hSb:∀b,(Value.slice sa S'.length sc).ownBlock=some b→b<wS.heap.size:=fun b hb=>hot.s1.lt b hb
     have he1:∀x∈S',RdSl wS 7 (.slice x.2.2.fa x.2.2.m.fl.length x.2.2.fc) x.2.2.m.fl.length (cnds x.2.2.m.fl):=fun x hx=>(hot.e1 x hx).fl.rd
     have Hot:=Lib.hid hot
     have HSd:=Lib.hid hSd
     have HB2:=Lib.hid hB2
     have HM2:=Lib.hid hM2
     have HL2:=Lib.hid hL2
     have HbS:=Lib.hid hbS
     have HoS:=Lib.hid hoS
     have HmdS:=Lib.hid hmdS
     have Hm0S:=Lib.hid hm0S
     have Hok:=Lib.hid hok
     have HwT:=Lib.hid hwT
     have HmwT:=Lib.hid hmwT
     have HgwT:=Lib.hid hgwT
     have HT0:=Lib.hid hT0
     have Hs1T:=Lib.hid hs1T
     have HSb:=Lib.hid hSb
     have He1:=Lib.hid he1
     have HmS:=Lib.hid hmS
     clear hot hSd hB2 hM2 hL2 hbS hoS hmdS hm0S hok hwT hmwT hgwT hT0 hs1T hSb he1 hmS hsc h0S hzwT
     go_wp2_with (first|(rw [show wS.alloc _=wT from HwT.out])|fail)
     go_loopw [12,95] (fun nv i wr=>TdRel wS wT wS.heap.size S' nv i wr) (fun _ i _=>S'.length - (intOf i).toNat)
     case atStart=>exact ⟨0,_,_,rfl,rfl,Nat.zero_le _,HT0.out,fun t ht=>rfl⟩
     case round=>
      obtain ⟨k,cells,L,rfl,rfl,hk,hT,hLt⟩:=hrel
      have hpk:=polN_le (S'.map Sv.sd) k
      by_cases hlk:k<S'.length
      ·have hlk':(k:Int)<S'.length:=by omega
       obtain ⟨x,hxk⟩:∃x,S'[k]? =some x:=⟨_,List.getElem?_eq_getElem hlk⟩
       have hxm:=List.mem_of_getElem? hxk
       have hsd:(S'.map Sv.sd)[k]? =some x.sd:=by rw [List.getElem?_map,hxk];rfl
       have hrs:=Hs1T.out.rd.mod hT.md (fun b hb e=>by have h1:=HSb.out b hb;have h2:b=wS.heap.size:=e;omega)
       obtain ⟨gs,offs,rfl,hcf⟩:=rd_el (f:=Sv.cells) (sz:=19) (fun _=>rfl) hrs hxk
       have hfr:=He1.out x hxm
       obtain ⟨td,ten,m⟩:=x
       obtain ⟨hto,hkind⟩:=Hok.out k _ hsd
       obtain rfl:td=2:=hto
       have hps:=polN_succ hsd
       have hts:=fun t=>toldL_succ hsd t
       obtain ⟨p,hp⟩:∃p,polN ((S'.map Sv.sd).take k)=p:=⟨_,rfl⟩
       rw [hp] at hpk hps hkind⊢
       obtain ⟨wz,hwz,hmwz,hgwz,hzwz⟩:=allocE wr (.cells (Sv.cells (2,ten,m)).toArray 50)
       have hwz':wr.alloc (.cells #[.int .i64 2,.int .i64 ten,.int .i64 m.m.kind,.int .i64 m.m.at_,.int .i64 m.m.rule.kind,.int .i64 m.m.rule.tenant,.string m.m.rule.who,.int .i64 m.m.rule.broker,.string m.m.rule.sc,.slice m.ra m.m.rule.cs.length m.rc,.string m.m.rule.name,.int .i64 m.m.rule.at_,.string m.m.fs,.slice m.fa m.m.fl.length m.fc,.string m.m.es,.slice m.ea m.m.el.length m.ec,.int .i64 m.m.ver,.string m.m.org,.int .i64 m.m.ser] 50)=wz:=hwz
       have hTz:=hT.mod hmwz
       have y0:wz.cell? ⟨wr.heap.size,0,none⟩=some (.int .i64 2):=cell_of hgwz rfl
       have y1:wz.cell? ⟨wr.heap.size,1,none⟩=some (.int .i64 ten):=cell_of hgwz rfl
       have y2:wz.cell? ⟨wr.heap.size,2,none⟩=some (.int .i64 m.m.kind):=cell_of hgwz rfl
       have y3:wz.cell? ⟨wr.heap.size,3,none⟩=some (.int .i64 m.m.at_):=cell_of hgwz rfl
       have y12:wz.cell? ⟨wr.heap.size,12,none⟩=some (.string m.m.fs):=cell_of hgwz rfl
       have y13:wz.cell? ⟨wr.heap.size,13,none⟩=some (.slice m.fa m.m.fl.length m.fc):=cell_of hgwz rfl
       rcases hkind with ⟨hk0,hten,hat⟩|⟨hk1,t,ht,hten⟩
       ·have hk0':m.m.kind=0:=hk0
        have hten':ten= -1:=hten
        have hat':m.m.at_=(p:Int):=hat
        rw [hk0'] at y2
        rw [hten'] at y1
        rw [hat'] at y3
        rw [if_pos hk0] at hps
        have hLt2:∀t,t<4→(L t).map Fr.fil=toldL ((S'.map Sv.sd).take (k+1)) t:=fun t ht=>by
         rw [hts t,if_neg (fun h=>by rw [hk0] at h;exact absurd h.1 (by decide)),List.append_nil]
         exact hLt t ht
        have HT:=Lib.hid hT
        have HLt:=Lib.hid hLt
        have Hxk:=Lib.hid hxk
        have Hxm:=Lib.hid hxm
        have Hsd:=Lib.hid hsd
        have Hrs:=Lib.hid hrs
        have Hcf:=Lib.hid hcf
        have Hfr:=Lib.hid hfr
        have Hps:=Lib.hid hps
        have Hts:=Lib.hid hts
        have Hp:=Lib.hid hp
        have Hwz:=Lib.hid hwz
        have Hwz':=Lib.hid hwz'
        have Hmwz:=Lib.hid hmwz
        have Hgwz:=Lib.hid hgwz
        have HTz:=Lib.hid hTz
        have Hk0:=Lib.hid hk0
        have Hk0':=Lib.hid hk0'
        have Hten:=Lib.hid hten
        have Hten':=Lib.hid hten'
        have Hat:=Lib.hid hat
        have Hat':=Lib.hid hat'
        have HLt2:=Lib.hid hLt2
        clear hT hLt hxk hxm hsd hrs hcf hfr hps hts hp hwz hwz' hmwz hgwz hTz hk0 hk0' hten hten' hat hat' hLt2 hzwz
        go_wp2_with (first|((with_reducible refine wpList_load_lit 50 (.tmp 97) ?_);refine ⟨gs,offs+k*19,rfl,[.int .i64 2,.int .i64 ten,.int .i64 m.m.kind,.int .i64 m.m.at_,.int .i64 m.m.rule.kind,.int .i64 m.m.rule.tenant,.string m.m.rule.who,.int .i64 m.m.rule.broker,.string m.m.rule.sc,.slice m.ra m.m.rule.cs.length m.rc,.string m.m.rule.name,.int .i64 m.m.rule.at_,.string m.m.fs,.slice m.fa m.m.fl.length m.fc,.string m.m.es,.slice m.ea m.m.el.length m.ec,.int .i64 m.m.ver,.string m.m.org,.int .i64 m.m.ser],Hcf.out,by kernel_rfl,by kernel_rfl, ?_⟩)|((with_reducible refine wpList_store_lit 50 (.tmp 15) (.tmp 98) ?_);refine ⟨rfl,[.int .i64 2,.int .i64 ten,.int .i64 m.m.kind,.int .i64 m.m.at_,.int .i64 m.m.rule.kind,.int .i64 m.m.rule.tenant,.string m.m.rule.who,.int .i64 m.m.rule.broker,.string m.m.rule.sc,.slice m.ra m.m.rule.cs.length m.rc,.string m.m.rule.name,.int .i64 m.m.rule.at_,.string m.m.fs,.slice m.fa m.m.fl.length m.fc,.string m.m.es,.slice m.ea m.m.el.length m.ec,.int .i64 m.m.ver,.string m.m.org,.int .i64 m.m.ser],rfl,rfl,by kernel_rfl,rfl, ?_⟩;rw [Hwz'.out])|fail)
        go_roundw
        case rel=>exact ⟨k+1,cells,L,by rw [Hps.out];go_num,by go_num,hlk,HTz.out,HLt2.out⟩
        case measure=>simp [intOf];omega
       ·have hk1':m.m.kind=1:=hk1
        obtain rfl:ten=(t:Int):=hten
        rw [hk1'] at y2
        have ht4':(t:Int)<4:=by omega
        have ht0':(0:Int)≤t:=by omega
        rw [if_neg (by rw [hk1];decide),Nat.add_zero] at hps
        obtain ⟨a1,c1,hct,hot1,hob1⟩:=hT.sl t ht
        have hLl:(L t).length≤5000:=by
         have h1:=congrArg List.length (hLt t ht)
         rw [List.length_map] at h1
         have h2:=toldL_len (S'.map Sv.sd) k t
         omega
        have hLt2:∀u,u<4→(upd L t (L t++[⟨m.m.fs,m.fa,m.fc,m.m.fl⟩]) u).map Fr.fil=toldL ((S'.map Sv.sd).take (k+1)) u:=fun u hu=>by
         rw [hts u]
         by_cases e:u=t
         ·subst e
          rw [upd_at,if_pos ⟨hk1,rfl⟩,List.map_append,hLt u hu]
          rfl
         ·rw [upd_ne _ _ e,if_neg (fun h=>e (by have h2:(t:Int)=u:=h.2;omega)),List.append_nil]
          exact hLt u hu
        have hone:∀u∈([.string m.m.fs,.slice m.fa m.m.fl.length m.fc]:List Value),u.oneCell'=true:=fun u hu=>List.all_eq_true.1 (show ([.string m.m.fs,.slice m.fa m.m.fl.length m.fc]:List Value).all (·.oneCell')=true from rfl) u hu
        have hS0:TdS wS.heap.size t wr.heap.size t m.m.fs m.fa m.m.fl.length m.fc (.slice a1 (L t).length c1) wz:=⟨y1,y12,y13,hTz.cell hct⟩
        have hotz:=hot1.mod hmwz (fun _ _ h=>h)
        have htbl:wS.heap.size<wr.heap.size:=Nat.lt_of_lt_of_le hT.lt hT.md.size
        have hnb:¬inBlock (.slice a1 (L t).length c1) wS.heap.size:=fun e=>by
         have h1:=hob1 _ e
         have h2:=hT.lt
         omega
        have hnB:¬inBlock (.slice a1 (L t).length c1) wr.heap.size:=fun e=>absurd (hot1.lt _ e) (Nat.lt_irrefl _)
        have HnB:=Lib.hid hnB
        have HT:=Lib.hid hT
        have HLt:=Lib.hid hLt
        have Hxk:=Lib.hid hxk
        have Hxm:=Lib.hid hxm
        have Hsd:=Lib.hid hsd
        have Hrs:=Lib.hid hrs
        have Hcf:=Lib.hid hcf
        have Hfr:=Lib.hid hfr
        have Hps:=Lib.hid hps
        have Hts:=Lib.hid hts
        have Hp:=Lib.hid hp
        have Hwz:=Lib.hid hwz
        have Hwz':=Lib.hid hwz'
        have Hmwz:=Lib.hid hmwz
        have Hgwz:=Lib.hid hgwz
        have HTz:=Lib.hid hTz
        have Hk1:=Lib.hid hk1
        have Hk1':=Lib.hid hk1'
        have Hct:=Lib.hid hct
        have Hot1:=Lib.hid hot1
        have Hob1:=Lib.hid hob1
        have HLt2:=Lib.hid hLt2
        have Hone:=Lib.hid hone
        have HS0:=Lib.hid hS0
        have Hotz:=Lib.hid hotz
        have Hnb:=Lib.hid hnb
        clear hnB hT hLt hxk hxm hsd hrs hcf hfr hps hts hp hwz hwz' hmwz hgwz hTz hk1 hk1' hct hot1 hob1 hLt2 hone hS0 hotz hnb hzwz y1 y3 y12 y13
        go_wp2_with (first|((with_reducible refine wpList_load_lit 50 (.tmp 97) ?_);refine ⟨gs,offs+k*19,rfl,[.int .i64 2,.int .i64 t,.int .i64 m.m.kind,.int .i64 m.m.at_,.int .i64 m.m.rule.kind,.int .i64 m.m.rule.tenant,.string m.m.rule.who,.int .i64 m.m.rule.broker,.string m.m.rule.sc,.slice m.ra m.m.rule.cs.length m.rc,.string m.m.rule.name,.int .i64 m.m.rule.at_,.string m.m.fs,.slice m.fa m.m.fl.length m.fc,.string m.m.es,.slice m.ea m.m.el.length m.ec,.int .i64 m.m.ver,.string m.m.org,.int .i64 m.m.ser],Hcf.out,by kernel_rfl,by kernel_rfl, ?_⟩)|((with_reducible refine wpList_store_lit 50 (.tmp 15) (.tmp 98) ?_);refine ⟨rfl,[.int .i64 2,.int .i64 t,.int .i64 m.m.kind,.int .i64 m.m.at_,.int .i64 m.m.rule.kind,.int .i64 m.m.rule.tenant,.string m.m.rule.who,.int .i64 m.m.rule.broker,.string m.m.rule.sc,.slice m.ra m.m.rule.cs.length m.rc,.string m.m.rule.name,.int .i64 m.m.rule.at_,.string m.m.fs,.slice m.fa m.m.fl.length m.fc,.string m.m.es,.slice m.ea m.m.el.length m.ec,.int .i64 m.m.ver,.string m.m.org,.int .i64 m.m.ser],rfl,rfl,by kernel_rfl,rfl, ?_⟩;rw [Hwz'.out])|fail)
        have hS:=HS0.out.mod ((Mod.refl (fun _=>False) wz).drew)
        refine wp_region_script [.rd 0,.rd 1,.rd 2,.rd 3,.rd 4,.rd 5,.rd 6,.rd 7,.rd 8,.go 9,.go 10,.go 11,.go 12] [0,1,2,3,4,5,6,7,8,9,10] (TdS wS.heap.size t wr.heap.size t m.m.fs m.fa m.m.fl.length m.fc (.slice a1 (L t).length c1)) (by kernel_rfl) (by kernel_rfl) (fun _ _ d _ _ h=>(by cases d<;>exact h)) ?_
        iterate 9 (
         refine walk_rd rfl ?_ (fun _=>hS) ?_ (fun w0 h0=> ?_) (fun K hK=> ?_)
         ·(try simp only [List.getElem_toArray]);(try simp only [List.getElem_cons_succ]);(try simp only [List.getElem_cons_zero])
          go_simp;done
         rotate_left
         ·(try simp only [List.getElem_toArray]);(try simp only [List.getElem_cons_succ]);(try simp only [List.getElem_cons_zero])
          first
           |(obtain ⟨f0,f1,f2,f3⟩:=h0 rfl;clear h0;go_simp;with_reducible rfl)
           |(clear h0;go_simp;with_reducible rfl)
         (try simp only [List.getElem_toArray]);(try simp only [List.getElem_cons_succ]);(try simp only [List.getElem_cons_zero])
         go_simp;refine hK _ ?_;clear hK K)
        refine walk_one (go_yes rfl ?_ (fun K hK=> ?_))
        ·(try simp only [List.getElem_toArray]);(try simp only [List.getElem_cons_succ]);(try simp only [List.getElem_cons_zero])
         go_simp;done
        (try simp only [List.getElem_toArray]);(try simp only [List.getElem_cons_succ]);(try simp only [List.getElem_cons_zero])
        obtain ⟨wU,hwU,hmwU,hgwU,hzwU⟩:=allocE wz.drew (.cells #[.string m.m.fs,.slice m.fa m.m.fl.length m.fc] 33)
        have hwU':wz.drew.alloc (.cells #[.string m.m.fs,.slice m.fa m.m.fl.length m.fc] 33)=wU:=hwU
        go_simp
        refine hK _ _ (fun _ h=>h.mod hmwU) ?_
        clear hK K hS
        have hrdU:RdSl wU 2 (.slice (some ⟨wz.heap.size,0,none⟩) 1 1) 1 [.string m.m.fs,.slice m.fa m.m.fl.length m.fc]:=hwU▸RdSl.one wz.drew [.string m.m.fs,.slice m.fa m.m.fl.length m.fc] 33 rfl
        have hmzU:Mod (fun _=>False) wz wU:=((Mod.refl (fun _=>False) wz).drew).trans hmwU (fun _ _ h=>h)
        have hslU:=Hotz.out.mod hmzU (fun _ _ h=>h)
        have hgU:=hmzU.heap HTz.out.row (fun h=>h)
        have HrdU:=Lib.hid hrdU
        have HmzU:=Lib.hid hmzU
        have HslU:=Lib.hid hslU
        have HgU:=Lib.hid hgU
        have HwU:=Lib.hid hwU
        have HwU':=Lib.hid hwU'
        have HmwU:=Lib.hid hmwU
        have HgwU:=Lib.hid hgwU
        clear hrdU hmzU hslU hgU hwU hwU' hmwU hgwU hzwU
        refine walk_one (go_yes rfl ?_ (fun K hK=> ?_))
        ·(try simp only [List.getElem_toArray]);(try simp only [List.getElem_cons_succ]);(try simp only [List.getElem_cons_zero])
         go_simp;done
        (try simp only [List.getElem_toArray]);(try simp only [List.getElem_cons_succ]);(try simp only [List.getElem_cons_zero])
        refine wp_append_sl (.tmp 104) (.tmp 108) 89 rfl 33 2 40 filsT (.slice a1 (L t).length c1) (L t).length ((L t).flatMap Fr.cells) rfl HslU.out (.slice (some ⟨wz.heap.size,0,none⟩) 1 1) 1 [.string m.m.fs,.slice m.fa m.m.fl.length m.fc] rfl HrdU.out Hone.out (by omega) (by unfold maxLen;omega) (fun ad cap2 w7 hA=> ?_)
        refine hK _ _ (fun _ h=>h.mod2 hA.2.1 HnB.out Hnb.out) ?_
        clear hK K
        have hg7:=hA.2.1.heap HgU.out Hnb.out
        have k7:w7.cell? ⟨wS.heap.size,t,none⟩=some (.slice a1 (L t).length c1):=(cell_of_row w7 wS.heap.size t _ _ _ hg7).trans (by simpa using Hct.out)
        have f7:w7.frozen? ⟨wS.heap.size,t,none⟩=false:=fr_of hg7
        have HA:=Lib.hid hA
        have Hg7:=Lib.hid hg7
        clear hA hg7
        refine walk_one (go_yes rfl ?_ (fun K hK=> ?_))
        ·(try simp only [List.getElem_toArray]);(try simp only [List.getElem_cons_succ]);(try simp only [List.getElem_cons_zero])
         go_simp;done
        (try simp only [List.getElem_toArray]);(try simp only [List.getElem_cons_succ]);(try simp only [List.getElem_cons_zero])
        go_simp
        refine hK _ _ (fun h=>absurd h (by decide)) ?_
        clear hK K
        refine walk_one (go_yes rfl ?_ (fun K hK=> ?_))
        ·(try simp only [List.getElem_toArray]);(try simp only [List.getElem_cons_succ]);(try simp only [List.getElem_cons_zero])
         go_simp;done
        (try simp only [List.getElem_toArray]);(try simp only [List.getElem_cons_succ]);(try simp only [List.getElem_cons_zero])
        go_simp
        refine hK _ _ (fun h=>absurd h (by decide)) ?_
        clear hK K
        refine walk_nil ?_
        obtain ⟨w8,hw8⟩:∃w8:World,w7.setCell ⟨wS.heap.size,t,none⟩ (.slice ad ((L t).length+1) cap2)=w8:=⟨_,rfl⟩
        have hm8:Mod (fun k=>k=wS.heap.size) w7 w8:=hw8▸(Mod.refl (fun k=>k=wS.heap.size) w7).setCell (fun _=>rfl) _
        have hg8:w8.heap[wS.heap.size]? =some (.cells (cells.set t (.slice ad ((L t).length+1) cap2)).toArray 91 (0,0)):=by
         rw [←hw8]
         have:=heap_set (i:=t) (v:= .slice ad ((L t).length+1) cap2) Hg7.out
         simpa using this
        have hT8:=HT.out.app ht Hct.out ⟨m.m.fs,m.fa,m.fc,m.m.fl⟩ Hfr.out (Hmwz.out.trans HmzU.out (fun _ _ h=>h)) HA.out hg8 hm8
        rw [hw8]
        have Hw8:=Lib.hid hw8
        have Hm8:=Lib.hid hm8
        have Hg8:=Lib.hid hg8
        have HT8:=Lib.hid hT8
        clear hw8 hm8 hg8 hT8 k7 f7
        go_wp2_with fail
        go_roundw
        case rel=>exact ⟨k+1,_,_,by rw [Hps.out];rfl,by go_num,hlk,HT8.out,HLt2.out⟩
        case measure=>simp [intOf];omega
      ·obtain rfl:k=S'.length:=by omega
       have htk:(S'.map Sv.sd).take S'.length=annS P fun t=>outL (B1.R t).M 2:=by rw [List.take_of_length_le (by rw [List.length_map];exact Nat.le_refl _),HSd.out]
       have hpP:polN ((S'.map Sv.sd).take S'.length)=P.length:=by rw [htk,annS_pol]
       have hLt2:∀t,t<4→(L t).map Fr.fil=outL (B1.R t).M 2:=fun t ht=>by rw [hLt t ht,htk,annS_told _ _ ht]
       rw [hpP]
       obtain ⟨wL,rfl⟩:∃x:World,x=wr:=⟨_,rfl⟩
       have hmSL:Mod (fun _=>False) wS wL:=HmwT.out.upon hT.md (fun b hb=> .inr (Nat.le_of_eq (show wS.heap.size=b from (show b=wS.heap.size from hb).symm)))
       have hsL:=Mov.of HoS.out hmSL (fun _=>False)
       have hoL:=hsL.owd HoS.out (fun h=>h)
       have hbL:=HbS.out.mov HoS.out hsL (fun h=>h) (fun _ h=>h.elim)
       have hm3L:=HmdS.out.trans hmSL (fun _ _ h=>h)
       have hmLL:Mod (fun _=>False) wL wL:=Mod.refl _ _
       have Htk:=Lib.hid htk
       have HpP:=Lib.hid hpP
       have HLt2:=Lib.hid hLt2
       have HLt:=Lib.hid hLt
       have HT:=Lib.hid hT
       have HmSL:=Lib.hid hmSL
       have HsL:=Lib.hid hsL
       have HoL:=Lib.hid hoL
       have HbL:=Lib.hid hbL
       have Hm3L:=Lib.hid hm3L
       have HmLL:=Lib.hid hmLL
       clear htk hpP hLt2 hLt hT hmSL hsL hoL hbL hm3L hmLL hpk
       go_wp2_with fail
       go_loopw [138] (fun i wr=>∃t:Nat,i= .int .i64 t∧t≤4∧Mod (fun _=>False) wL wr) (fun i _=>4 - (intOf i).toNat)
       case atStart=>exact ⟨0,rfl,Nat.zero_le _,HmLL.out⟩
       case round=>
        obtain ⟨t,rfl,ht,hmt⟩:=hrel
        have hst:=Mov.of HoL.out hmt (fun _=>False)
        have hbt:=HbL.out.mov HoL.out hst (fun h=>h) (fun _ h=>h.elim)
        by_cases hlt:t<4
        ·have hlt':(t:Int)<4:=by omega
         have ht0':(0:Int)≤t:=by omega
         have hhe:=heard_at wr owS 2 gb 0 [1,2] B2 hbt t hlt (by rw [(HM2.out t hlt).2];exact HN1.out t hlt) 1 (by decide)
         rw [(HM2.out t hlt).1] at hhe
         have Hmt:=Lib.hid hmt
         have Hst:=Lib.hid hst
         have Hbt:=Lib.hid hbt
         have Hhe:=Lib.hid hhe
         clear hmt hst hbt hhe
         go_wp2_with fail
         refine Hhe.out.mono ?_
         rintro e wH ⟨vH,lh,rfl,hvH, -,hlh,hfH,hmH⟩
         obtain ⟨aH,cH,rfl,hcH⟩:=hvH.shape
         obtain ⟨hcov,hqH,hqL,hn1,hn2⟩:=forg_any (Hi1.out t hlt).m (HM1l.out t hlt).2 (HLt2.out t hlt) hlh
         have hn3:=(HM1l.out t hlt).1
         have hlhl:(lh.length:Int)≤1000:=by clear hcov hqH hqL;omega
         have hLtl:((L t).length:Int)≤1000:=by clear hcov hqH hqL;omega
         clear hn1 hn2 hn3
         have hcH':(lh.length:Int)≤cH:=by omega
         have hmLH:=Hmt.out.trans hmH (fun _ _ h=>h)
         obtain ⟨a2,c2,hct,hott, -⟩:=HT.out.sl t hlt
         obtain ⟨-,_,_,e2,hc2, -⟩:=hott.rd
         cases e2
         have hc2':((L t).length:Int)≤c2:=by omega
         have hmHH:Mod (fun _=>False) wH wH:=Mod.refl _ _
         have HvH:=Lib.hid hvH
         have Hlh:=Lib.hid hlh
         have HfH:=Lib.hid hfH
         have HmH:=Lib.hid hmH
         have Hcov:=Lib.hid hcov
         have HqH:=Lib.hid hqH
         have HqL:=Lib.hid hqL
         have HmLH:=Lib.hid hmLH
         have Hct:=Lib.hid hct
         have Hott:=Lib.hid hott
         have HmHH:=Lib.hid hmHH
         clear hvH hlh hfH hmH hcov hqH hqL hmLH hct hott hmHH hcH hc2
         go_wp2_with fail
         go_loopw [145] (fun i wr=>∃j:Nat,i= .int .i64 j∧j≤lh.length∧Mod (fun _=>False) wH wr) (fun i _=>lh.length - (intOf i).toNat)
         case atStart=>exact ⟨0,rfl,Nat.zero_le _,HmHH.out⟩
         case round=>
          obtain ⟨j,rfl,hj,hmj⟩:=hrel
          by_cases hlj:j<lh.length
          ·have hlj':(j:Int)<lh.length:=by omega
           obtain ⟨f,hfj⟩:∃f,lh[j]? =some f:=⟨_,List.getElem?_eq_getElem hlj⟩
           have hfm:=List.mem_of_getElem? hfj
           obtain ⟨gf,offf,rfl,hcf⟩:=rd_el (f:=Fr.cells) (sz:=2) (fun _=>rfl) (HvH.out.rd.mod hmj (fun _ _ h=>h)) hfj
           obtain ⟨wo,rfl⟩:∃x:World,x=wr:=⟨_,rfl⟩
           obtain ⟨wf,hwf,hmwf,hgwf,hzwf⟩:=allocE wo (.cells f.cells.toArray 33)
           have hwf':wo.alloc (.cells #[.string f.sc,.slice f.a f.cs.length f.c] 33)=wf:=hwf
           have hmHf:=hmj.trans hmwf (fun _ _ h=>h)
           have hmLf:=HmLH.out.trans hmHf (fun _ _ h=>h)
           have kt:wf.cell? ⟨wS.heap.size,t,none⟩=some (.slice a2 (L t).length c2):=(HT.out.mod hmLf).cell Hct.out
           have hff:=(HfH.out f hfm).1.rd.mod hmHf (fun _ _ h=>h)
           have hmff:Mod (fun _=>False) wf wf:=Mod.refl _ _
           have Hmj:=Lib.hid hmj
           have Hfj:=Lib.hid hfj
           have Hfm:=Lib.hid hfm
           have Hcf:=Lib.hid hcf
           have Hwf:=Lib.hid hwf
           have Hwf':=Lib.hid hwf'
           have Hmwf:=Lib.hid hmwf
           have Hgwf:=Lib.hid hgwf
           have HmHf:=Lib.hid hmHf
           have HmLf:=Lib.hid hmLf
           have Hff:=Lib.hid hff
           have Hmff:=Lib.hid hmff
           clear hmj hfj hfm hcf hwf hwf' hmwf hgwf hmHf hmLf hff hmff hzwf
           go_wp2_with (first|((with_reducible refine wpList_load_lit 33 (.tmp 147) ?_);refine ⟨gf,offf+j*2,rfl,[.string f.sc,.slice f.a f.cs.length f.c],Hcf.out,by kernel_rfl,by kernel_rfl, ?_⟩)|((with_reducible refine wpList_store_lit 33 (.tmp 18) (.tmp 148) ?_);refine ⟨rfl,[.string f.sc,.slice f.a f.cs.length f.c],rfl,rfl,by kernel_rfl,rfl, ?_⟩;rw [Hwf'.out])|fail)
           go_loopw [19,153] (fun ok i wr=>∃q:Nat,ok= .bool (((L t).take q).any fun g=>covQ g.fil f.fil)∧i= .int .i64 q∧q≤(L t).length∧Mod (fun _=>False) wf wr) (fun _ i _=>(L t).length - (intOf i).toNat)
           case atStart=>exact ⟨0,rfl,rfl,Nat.zero_le _,Hmff.out⟩
           case round=>
            obtain ⟨q,rfl,rfl,hq,hmq⟩:=hrel
            obtain ⟨ok,hok⟩:∃ok,(((L t).take q).any fun g=>covQ g.fil f.fil)=ok:=⟨_,rfl⟩
            rw [hok]
            by_cases hlq:q<(L t).length
            ·have hlq':(q:Int)<(L t).length:=by omega
             obtain ⟨g,hgq⟩:∃g,(L t)[q]? =some g:=⟨_,List.getElem?_eq_getElem hlq⟩
             have hgm:=List.mem_of_getElem? hgq
             have hmLq:=HmLf.out.trans hmq (fun _ _ h=>h)
             obtain ⟨gg,offg,rfl,hcg⟩:=rd_el (f:=Fr.cells) (sz:=2) (fun _=>rfl) (Hott.out.rd.mod hmLq (fun _ _ h=>h)) hgq
             obtain ⟨wg,hwg,hmwg,hgwg,hzwg⟩:=allocE wr (.cells g.cells.toArray 33)
             have hwg':wr.alloc (.cells #[.string g.sc,.slice g.a g.cs.length g.c] 33)=wg:=hwg
             have hmfg:=hmq.trans hmwg (fun _ _ h=>h)
             have hnx:(((L t).take (q+1)).any fun g=>covQ g.fil f.fil)=(ok||covQ g.fil f.fil):=by rw [List.take_add_one,hgq,Option.toList_some,List.any_append,hok];simp
             have n0:wg.cell? ⟨wr.heap.size,0,none⟩=some (.string g.sc):=cell_of hgwg rfl
             have n1:wg.cell? ⟨wr.heap.size,1,none⟩=some (.slice g.a g.cs.length g.c):=cell_of hgwg rfl
             have hgfg:=hmfg.heap Hgwf.out (fun h=>h)
             have m0:wg.cell? ⟨wo.heap.size,0,none⟩=some (.string f.sc):=cell_of hgfg rfl
             have m1:wg.cell? ⟨wo.heap.size,1,none⟩=some (.slice f.a f.cs.length f.c):=cell_of hgfg rfl
             have hrg:RdSl wg 7 (.slice g.a g.cs.length g.c) g.cs.length (cnds g.cs):=((HT.out.mod (hmLq.trans hmwg (fun _ _ h=>h))).rdc hlt hgm)
             have hrc:=rcov_at wg g f hrg (Hff.out.mod hmfg (fun _ _ h=>h)) (HqL.out g hgm).1 (HqH.out f Hfm.out).1 (HqL.out g hgm).2 (HqH.out f Hfm.out).2
             obtain ⟨cv,hcv⟩:∃cv,covQ g.fil f.fil=cv:=⟨_,rfl⟩
             rw [hcv] at hrc hnx
             cases ok with
             |true=>
              have Hok:=Lib.hid hok
              have Hmq:=Lib.hid hmq
              have Hgq:=Lib.hid hgq
              have Hgm:=Lib.hid hgm
              have HmLq:=Lib.hid hmLq
              have Hcg:=Lib.hid hcg
              have Hwg:=Lib.hid hwg
              have Hwg':=Lib.hid hwg'
              have Hmwg:=Lib.hid hmwg
              have Hgwg:=Lib.hid hgwg
              have Hmfg:=Lib.hid hmfg
              have Hnx:=Lib.hid hnx
              have Hgfg:=Lib.hid hgfg
              have Hrg:=Lib.hid hrg
              have Hrc:=Lib.hid hrc
              have Hcv:=Lib.hid hcv
              clear hok hmq hgq hgm hmLq hcg hwg hwg' hmwg hgwg hmfg hnx hgfg hrg hrc hcv hzwg
              go_wp2_with (first|((with_reducible refine wpList_load_lit 33 (.tmp 155) ?_);refine ⟨gg,offg+q*2,rfl,[.string g.sc,.slice g.a g.cs.length g.c],Hcg.out,by kernel_rfl,by kernel_rfl, ?_⟩)|((with_reducible refine wpList_store_lit 33 (.tmp 21) (.tmp 156) ?_);refine ⟨rfl,[.string g.sc,.slice g.a g.cs.length g.c],rfl,rfl,by kernel_rfl,rfl, ?_⟩;rw [Hwg'.out])|fail)
              go_roundw
              case rel=>exact ⟨q+1,by rw [Hnx.out];rfl,by go_num,hlq,Hmfg.out⟩
              case measure=>simp [intOf];omega
             |false=>
              have Hok:=Lib.hid hok
              have Hmq:=Lib.hid hmq
              have Hgq:=Lib.hid hgq
              have Hgm:=Lib.hid hgm
              have HmLq:=Lib.hid hmLq
              have Hcg:=Lib.hid hcg
              have Hwg:=Lib.hid hwg
              have Hwg':=Lib.hid hwg'
              have Hmwg:=Lib.hid hmwg
              have Hgwg:=Lib.hid hgwg
              have Hmfg:=Lib.hid hmfg
              have Hnx:=Lib.hid hnx
              have Hgfg:=Lib.hid hgfg
              have Hrg:=Lib.hid hrg
              have Hrc:=Lib.hid hrc
              have Hcv:=Lib.hid hcv
              clear hok hmq hgq hgm hmLq hcg hwg hwg' hmwg hgwg hmfg hnx hgfg hrg hrc hcv hzwg
              go_wp2_with (first|((with_reducible refine wpList_load_lit 33 (.tmp 155) ?_);refine ⟨gg,offg+q*2,rfl,[.string g.sc,.slice g.a g.cs.length g.c],Hcg.out,by kernel_rfl,by kernel_rfl, ?_⟩)|((with_reducible refine wpList_store_lit 33 (.tmp 21) (.tmp 156) ?_);refine ⟨rfl,[.string g.sc,.slice g.a g.cs.length g.c],rfl,rfl,by kernel_rfl,rfl, ?_⟩;rw [Hwg'.out])|fail)
              refine Hrc.out.mono ?_
              rintro e w9 ⟨rfl,hm9⟩
              have hmf9:=Hmfg.out.trans hm9 (fun _ _ h=>h)
              have Hmf9:=Lib.hid hmf9
              clear hmf9 hm9
              go_wp2_with fail
              go_roundw
              case rel=>exact ⟨q+1,by rw [Hnx.out];rfl,by go_num,hlq,Hmf9.out⟩
              case measure=>simp [intOf];omega
            ·obtain rfl:q=(L t).length:=by omega
             rw [List.take_length,Hcov.out f Hfm.out] at hok
             subst hok
             have hmHq:=HmHf.out.trans hmq (fun _ _ h=>h)
             have HmHq:=Lib.hid hmHq
             clear hmHq hmq
             go_wp2_with fail
             go_roundw
             case rel=>exact ⟨j+1,by go_num,hlj,HmHq.out⟩
             case measure=>simp [intOf];omega
          ·obtain rfl:j=lh.length:=by omega
           have hmLj:=HmLH.out.trans hmj (fun _ _ h=>h)
           have HmLj:=Lib.hid hmLj
           clear hmLj hmj
           go_wp2_with fail
           go_roundw
           case rel=>exact ⟨t+1,by go_num,hlt,HmLj.out⟩
           case measure=>simp [intOf];omega
        ·obtain rfl:t=4:=by omega
         have hoC:=hst.owd HoL.out (fun h=>h)
         have hm3C:=Hm3L.out.trans hmt (fun _ _ h=>h)
         have hcr:=bcrash_at w3 wr owS hoC 2 gb 0 [1,2] B2 hbt
         obtain ⟨wX,rfl⟩:∃x:World,x=wr:=⟨_,rfl⟩
         have Hmt:=Lib.hid hmt
         have Hst:=Lib.hid hst
         have Hbt:=Lib.hid hbt
         have HoC:=Lib.hid hoC
         have Hm3C:=Lib.hid hm3C
         have Hcr:=Lib.hid hcr
         clear hmt hst hbt hoC hm3C hcr
         go_wp2_with fail
         refine Hcr.out.mono ?_
         rintro e wC ⟨rfl,owC,hoC2,hbC,hmC⟩
         rw [HL2.out] at hbC
         have hm3C2:=hmC.mod0 HoC.out Hm3C.out (by omega)
         have hm0C:=Hm03.out.trans hm3C2 (fun _ _ h=>h)
         have hsu:Calls Tryz.prog 33 #[.pointer (some ⟨gb,0,none⟩),.int .i64 0] wC fun e w'=>e= .returned (.int .i64 0)∧wC=w':=subs_at wC owC 2 gb 0 [1,2] ⟨P,fun _=>RS.zero⟩ hbC 0 (by decide)
         have hhd:=heard_at wC owC 2 gb 0 [1,2] ⟨P,fun _=>RS.zero⟩ hbC 0 (by decide) (Nat.zero_le _) 1 (by decide)
         rw [show allQ (((⟨P,fun _=>RS.zero⟩:BS).R 0).M) 1=[] from allQ_nil 1] at hhd
         obtain ⟨aC,hbCA⟩:=hbC
         obtain ⟨lC,la,lc, -,hlC, -,cC, -, -⟩:=hbCA.logs
         have hle:=plen_at wC gb la lC.length lc cC
         rw [show lC.length=P.length from hlC] at hle
         have hP40:(P.length:Int)≤40:=by omega
         have HoC2:=Lib.hid hoC2
         have HmC:=Lib.hid hmC
         have Hm3C2:=Lib.hid hm3C2
         have Hm0C:=Lib.hid hm0C
         have Hsu:=Lib.hid hsu
         have Hhd:=Lib.hid hhd
         have HbCA:=Lib.hid hbCA
         have HlC:=Lib.hid hlC
         have Hle:=Lib.hid hle
         clear hoC2 hmC hm3C2 hm0C hsu hhd hbCA hlC hle cC
         go_wp2_with fail
         refine Hle.out.mono ?_
         rintro e w9 ⟨rfl,rfl⟩
         go_wp2_with fail
         refine Hsu.out.mono ?_
         rintro e w9 ⟨rfl,rfl⟩
         go_wp2_with fail
         refine Hhd.out.mono ?_
         rintro e w9 ⟨v9,l9,rfl,hv9, -,hl9, -,hm9⟩
         obtain rfl:l9=[]:=List.map_eq_nil_iff.1 hl9
         obtain ⟨a9,c9,rfl, -⟩:=hv9.shape
         have hm09:=Hm0C.out.trans hm9 (fun _ _ h=>h)
         have Hm09:=Lib.hid hm09
         clear hm09 hm9 hv9 hl9
         go_wp2
         go_ret
         exact ⟨rfl,Hm09.out⟩
end
end Go.Proofs.YtaenebdppkjhoaaGreatDoor
