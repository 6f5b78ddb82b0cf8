/- Lemmas. -/
import Derived.Test.YtebhabpahfmodaaGreatDoorZh48
set_option maxHeartbeats 40000000
set_option maxRecDepth 20000
namespace Go.Proofs.YtebhabpahfmodaaGreatDoor
open Go.RowKit
structure Dp where
 k:Int
 x:As
 t:Nat
def Dp.cells (d:Dp):List Value:= .int .i64 d.k::d.x.cells
def dps (l:List Dp):List Value:=l.flatMap Dp.cells
theorem b3n (l:List Dp) (d:Dp):dps (l++[d])=dps l++d.cells:=by unfold dps;simp
structure a0E (w1:World) (ow1:Ow) (w:World) (ow:Ow):Prop where
 z:∀k,ow1 k=0\/ow1 k=50
 at_:∀k,k<w1.heap.size->ow k=ow1 k
 md:Mod (fun _=>False) w1 w
theorem a0E.refl {w:World} {ow:Ow} (h:∀k,ow k=0\/ow k=50):a0E w ow w ow:=⟨h,fun _ _=>rfl,Mod.refl _ _⟩
theorem a0E.mov {w1:World} {ow1:Ow} {w:World} {ow:Ow} (h:a0E w1 ow1 w ow) {F:Nat->Prop} {w':World} {ow':Ow} (s:Mov F w ow w' ow') (h0:¬F 0) (h50:¬F 50):a0E w1 ow1 w' ow':=
 ⟨h.z,fun k hk=>(s.old k (zz13 hk h.md.size)).trans (h.at_ k hk),h.md.trans s.md fun k hk hF=>by
  have e:=h.at_ k hk;rcases h.z k with h1|h1
  ·rw [e,h1] at hF;exact h0 hF
  ·rw [e,h1] at hF
   exact h50 hF⟩
def b6g (w w1:World) (ow1:Ow) (l:List Ru) (g gl q:Nat) (vm i:Value) (wr:World):Prop:=
 ∃(j:Nat) (owr:Ow) (P:List PRu) (vL:Value) (L M:List Lr) (S:List Sd),i= .int .i64 j/\j<=l.length/\P=M4 ((l.take j).map Ru.pru)/\Owd w wr owr/\Bro wr owr 2 g 0 [1,2] ⟨P,fun _=>RS.zero⟩/\M7 wr owr 60 60 gl [] 96 vL L/\L.map Prod.fst=P/\
  O4 wr owr 61 gl vm M/\M.map Prod.fst=P/\OtI wr owr 40 q S []/\S.length<=2*j/\Mod (fun _=>False) w wr/\a0E w1 ow1 wr owr
def a55 (w w1:World) (ow1:Ow) (l:List Ru) (e:Ending) (w':World):Prop:=
 ∃(ow':Ow) (g gl:Nat) (vm:Value) (M:List Lr),e= .returned (.tuple #[.pointer (some ⟨g,0,none⟩),vm])/\Owd w w' ow'/\Bro w' ow' 2 g 0 [1,2] ⟨M4 (l.map Ru.pru),fun _=>RS.zero⟩/\O4 w' ow' 61 gl vm M/\M.map Prod.fst=M4 (l.map Ru.pru)/\Mod (fun _=>False) w w'/\a0E w1 ow1 w' ow'
theorem a85 (w w1:World) (ow1:Ow) (hw1:Owd w w1 ow1) (hm1:Mod (fun _=>False) w w1) (hz1:∀k,ow1 k=0\/ow1 k=50) (v:Value) (l:List Ru) (hv:I9 w v l) (Ef:l.length<=80) (hfi:∀r∈l,r.pru.fine):Calls Tryz.prog 7 #[v] w1 (a55 w w1 ow1 l):=by
 obtain ⟨a,cap,rfl,hcap⟩:∃a c,v= .slice a l.length c/\l.length<=c:=by obtain ⟨-,a,c,h,h2, -⟩:=hv.rd;exact ⟨a,c,h,h2⟩
 have bf:(l.length:Int)<=cap:=zo
 have XY:(l.length:Int)<=80:=zo
 obtain ⟨wa,aD,ah,ae,au⟩:=g8 w1 (.cells #[.int .i64 1,.int .i64 2] 3);have hva:=Mov.of hw1 ah (fun _=>False);have hka:=(a0E.refl hz1).mov hva id id;have ah:=hm1.trans ah zi;have hoa:Owd w wa ow1:=hva.owd hw1 id;have hrd:j3 wa 1 (.slice (some ⟨w1.heap.size,0,none⟩) 2 2) 2 [.int .i64 1,.int .i64 2]:=⟨rfl,_,_,rfl,Nat.le_refl _,(fun h=>by cases h),fun b hb _=>⟨_,0,(by cases hb;rfl),fun j u hu=>by rw [Nat.zero_add];exact d6 ae (by simpa using hu)⟩⟩;have hnew:=a9K w wa ow1 2 hoa zo 0 (.slice (some ⟨w1.heap.size,0,none⟩) 2 2) [1,2] hrd zd;obtain ⟨Hv,Bj,aF,aB,lY,Hoa⟩:=zh6 hv hfi aD ah hnew hoa;clear hv hfi aD ah hnew hoa ae au hrd hcap hva hw1 hm1
 go_enter Tryz.func7,Tryz.ntmps7
 go_wp2_with (rw [show w1.alloc _=wa from aF.out])
 refine lY.out.mono ?_;rintro e w3 ⟨g,ow3,rfl,ho3,hb3,aC⟩;obtain ⟨hO4,aR⟩:=OtI.new (c:=40) ho3;obtain ⟨w4,hw4⟩:∃w4:World,w3.alloc (.cells #[.slice none 0 0,.slice none 0 0] 49)=w4:=⟨_,rfl⟩;rw [hw4] at hO4 aR;have hb4:=hb3.mov ho3 aR zo (fun t e=>zo);have iV:=aR.owd ho3 zo;have hk4:=(hka.mov aC zo zo).mov aR zo zo;have hr3:Mod (fun _=>False) w w3:=aC.mod0 Hoa.out aB.out zo;have hr4:=aR.mod0 ho3 hr3 zo;have XZ:=b0O w w4 _ 60 iV zo;have hq3:w3.heap.size<w4.heap.size:=by rw [<-hw4];simp
 obtain ⟨Ya,Hb3,bA,PR,dN,Bu,Hb4,uX,Hr3,PV,Hrp,uO⟩:=zh12 ho3 hb3 aC hO4 aR hw4 hb4 iV hr3 hr4 XZ hq3;clear ho3 hb3 aC hO4 aR hw4 hb4 iV hr3 hr4 XZ hq3
 go_wp2_with (rw [show w3.alloc _=w4 from Bu.out])
 refine Hrp.out.mono ?_;rintro e w5 ⟨gl,ow5,rfl,BA,aW,TM⟩;have hb5:=Hb4.out.mov uX.out aW zo (fun t e=>zo);have iZ:=PR.out.mov aW zo zo;have gH:=aW.owd uX.out zo;have nX:=aW.mod0 uX.out PV.out zo;have hk5:=hk4.mov aW zo zo;obtain ⟨Hb5,mE,qz,Ed,NI,fJ⟩:=zh6 hb5 gH iZ nX BA aW;clear hb5 gH iZ nX BA aW TM
 go_wp2_with fail
 go_loopw [6,19] (fun vm i wr=>b6g w w1 ow1 l g gl w3.heap.size vm i wr) (fun _ i _=>l.length - (intOf i).toNat)
 case atStart=>exact ⟨0,ow5,[],.slice none 0 0,[],[],[],rfl,Nat.zero_le _,rfl,mE.out,Hb5.out,NI.out,rfl,⟨j2.nil _ _ _,fun b hb=>(by cases hb),fun x hx=>(by cases hx)⟩,rfl,qz.out,Nat.zero_le _,Ed.out,hk5⟩
 case round=>
  obtain ⟨j,owr,P,vL,L,M,S,rfl,hj,Eg,hor,hbr,hlr,Ot,Eh,vN,fG,Xf,hmr,hkr⟩:=hrel;by_cases hlt:j<l.length
  ·have hlt':(j:Int)<l.length:=zo
   obtain ⟨x,hxj⟩:∃x,l[j]? =some x:=⟨_,zz5 hlt⟩;have hxm:=zz8 hxj;obtain ⟨g2,off,rfl,hf⟩:∃g2 off,a=some ⟨g2,off,none⟩/\e9 wr g2 (off+j*8) x.cells:=F1 (Hv.out.mod hmr) hxj;have Ei:P.length<=40:=by rw [Eg];exact a1Y _
   have Yb:M4 ((l.take (j+1)).map Ru.pru)=M5 P x.pru:=by rw [List.take_add_one,hxj,Option.toList_some,List.map_append,Eg];exact a7s _ _
   have pM:M.length=P.length:=by rw [<-vN,zz10]
   obtain ⟨am,cm,rfl, -⟩:∃a' cc,u6= .slice a' M.length cc/\M.length<=cc:=by obtain ⟨-,a,cc,h,h2, -⟩:=Eh.sl.rd;exact ⟨a,cc,h,h2⟩
   rw [show Value.slice am M.length cm=Value.slice am P.length cm by rw [pM]] at Eh⊢;obtain ⟨wz,hwz,ai,aj,aJ⟩:=g8 wr (.cells x.cells.toArray 28);have hlz:=hor.loc (.cells x.cells.toArray 28);rw [hwz] at hlz;obtain ⟨oz,yo⟩:∃oz:Ow,r9 owr wr.heap.size 1=oz:=⟨_,rfl⟩;rw [yo] at hlz;have LH:oz wr.heap.size=1:=by rw [<-yo];exact E3 _ _ _
   have jC:=hlz.owd hor zo;have hbz:=hbr.mov hor hlz zo (fun t e=>zo);have hLz:=hlr.mov hlz zo zo zo;have Yc:=Eh.mov hlz zo zo;have kI:=fG.mov hlz zo zo;have hrz:=hmr.trans ai zi;have hkz:=hkr.mov hlz zo zo;have hgz:wz.heap[wr.heap.size]? =some (.cells ([.int .i64 x.kind,.int .i64 x.tenant,.string x.who,.int .i64 x.broker,.string x.sc,.slice x.ca x.cs.length x.cc,.string x.name,.int .i64 x.at_]:List Value).toArray 28 (0,0)):=aj;have hxz:a3c wz oz (x.pru,x.ca,x.cc):=⟨o3.of_rd jC (Hv.out.ok x hxm).rd zo,Bj.out x hxm⟩;have LJ:=(zz7 hlr.row).1
   have hadd:Calls Tryz.prog 26 #[.pointer (some ⟨gl,0,none⟩),.agg #[.int .i64 x.kind,.int .i64 x.tenant,.string x.who,.int .i64 x.broker,.string x.sc,.slice x.ca x.cs.length x.cc,.string x.name,.int .i64 x.at_]] wz (a3s wz oz 60 60 gl [] 96 L x.pru):=
    a9J w wz oz 60 60 gl [] 96 vL L jC ⟨zo,zo⟩ hLz (by have:=congrArg List.length Ot;rw [zz10] at this;omega) x.pru x.ca x.cc hxz.cs.rd hxz.fine
   obtain ⟨R,hR⟩:∃R,a1B P x.pru=R:=⟨_,rfl⟩;have hP':(P.length:Int)<=40:=zo
   have b8j:j<=80:=zo
   obtain ⟨aK,vz,bV,FE,Yd,Ad,pJ,cB,fH,Hf,bi,bn⟩:=zh12 hmr hor hbr hlr Eh vN fG hxj hxm hf hwz ai;obtain ⟨aN,Hlz,b8k,LK,nG,ou,HLz,HMz,yU,qV,lK,NH⟩:=zh12 aj hlz yo LH jC hbz hLz Yc kI hrz hgz hxz;obtain ⟨gG,HR,Ye,TN,TP,ky,b8l⟩:=zh7 hadd hR Ot Yb Eg pM LJ;clear hmr hor hbr hlr Eh vN fG hxj hxm hf hwz ai aj hlz yo LH jC hbz hLz Yc kI hrz hgz hxz hadd hR Ot Yb Eg pM LJ aJ;have TQ:=lK.out
   go_wp2_with (first|((with_reducible refine d8 28 (.tmp 21) ?_);refine ⟨g2,off+j*8,rfl,x.cells,Hf.out,zk,zk, ?_⟩)|((with_reducible refine d9 28 (.tmp 10) (.tmp 22) ?_);refine ⟨rfl,x.cells,rfl,rfl,zk,rfl, ?_⟩;rw [bi.out])|((with_reducible refine d8 28 (.tmp 10) ?_);refine ⟨wr.heap.size,0,rfl,[.int .i64 x.kind,.int .i64 x.tenant,.string x.who,.int .i64 x.broker,.string x.sc,.slice x.ca x.cs.length x.cc,.string x.name,.int .i64 x.at_],e9.row lK.out,zk,zk, ?_⟩))
   refine gG.out.mono ?_;rintro e w5 ⟨rfl,ow5,v5,L5,hl5,LM,aW⟩;rw [Ye.out,HR.out];rw [Ye.out] at LM;have gH:=aW.owd nG.out zo;have hb5:=ou.out.mov nG.out aW zo (fun t e=>zo);have Ou:=HMz.out.mov aW zo zo;have iZ:=yU.out.mov aW zo zo;have hx5:=NH.out.mov aW zo;have nX:=aW.mod0 nG.out qV.out zo;have hk5:=hkz.mov aW zo zo;have hg5:=aW.md.heap lK.out (by rw [LK.out];omega);have yt:ow5 wr.heap.size=1:=by rw [aW.old _ (zz7 lK.out).1];exact LK.out
   clear TQ;by_cases hR0:R=0;rotate_left
   ·have hb1:(R==0)=false:=by simpa using hR0
    have hpk:M5 P x.pru=P:=by unfold M5;rw [HR.out,if_neg hR0]
    obtain ⟨TR,Ov,fJ,mE,Hb5,TS,qz,LA,Ed,je,Ej,LP⟩:=zh12 hl5 LM aW gH hb5 Ou iZ hx5 nX hg5 yt hpk;clear hl5 LM aW gH hb5 Ou iZ hx5 nX hg5 yt hpk
    go_wp2_with fail
    go_roundw
    case rel=>exact ⟨j+1,ow5,P,_,_,M,S,by go_num,hlt,by rw [TN.out,LP.out],mE.out,Hb5.out,TR.out,by rw [Ov.out,LP.out],TS.out,Ad.out,qz.out,zo,Ed.out,hk5⟩
    case measure=>simp [intOf];omega
   subst hR0;have hok:F2 P P.length x.pru=true:=by unfold F2;rw [HR.out,decide_eq_true rfl];rfl
   have hpk:M5 P x.pru=P++[x.pru.kept]:=by unfold M5;rw [HR.out,if_pos rfl]
   have hle:Calls Tryz.prog 19 #[.pointer (some ⟨g,0,none⟩),.iface 51 (.pointer (some ⟨w3.heap.size,0,none⟩)),.int .i64 P.length,.agg #[.int .i64 x.kind,.int .i64 x.tenant,.string x.who,.int .i64 x.broker,.string x.sc,.slice x.ca x.cs.length x.cc,.string x.name,.int .i64 x.at_],.int .i64 1] w5 (a2u (O6 w w3.heap.size 40 zo) w5 ow5 2 g 0 [1,2] ⟨P,fun _=>RS.zero⟩ (S,[]) P.length x.pru 1):=
    a7b w w5 ow5 2 g 0 [1,2] _ gH hb5 Ei w3.heap.size (O6 w w3.heap.size 40 zo) (S,[]) iZ (fun t ht=>by have h':t=40:=ht;omega) (show S.length+0+2<=400000000000 by omega) zd (fun _ _=>trivial) P.length x.pru x.ca x.cc hx5 1
   have jR:=hg5;have y0:w5.cell? ⟨wr.heap.size,0,none⟩=some (.int .i64 x.kind):=d6 jR rfl;have y1:w5.cell? ⟨wr.heap.size,1,none⟩=some (.int .i64 x.tenant):=d6 jR rfl;have y2:w5.cell? ⟨wr.heap.size,2,none⟩=some (.string x.who):=d6 jR rfl;have y3:w5.cell? ⟨wr.heap.size,3,none⟩=some (.int .i64 x.broker):=d6 jR rfl;have y4:w5.cell? ⟨wr.heap.size,4,none⟩=some (.string x.sc):=d6 jR rfl;have y5:w5.cell? ⟨wr.heap.size,5,none⟩=some (.slice x.ca x.cs.length x.cc):=d6 jR rfl;have y6:w5.cell? ⟨wr.heap.size,6,none⟩=some (.string x.name):=d6 jR rfl;have y7:w5.cell? ⟨wr.heap.size,7,none⟩=some (.int .i64 x.at_):=d6 jR rfl;clear jR;obtain ⟨TR,Ov,fJ,mE,Hb5,TS,qz,LA,Ed,je,Ej,FQ⟩:=zh12 hl5 LM aW gH hb5 Ou iZ hx5 nX hg5 yt hle;have LP:=zh hpk;clear hl5 LM aW gH hb5 Ou iZ hx5 nX hg5 yt hle hpk
   go_wp2_with fail
   refine FQ.out.mono ?_;rintro e w6 ⟨rfl,ow6,hb6,lS,bU⟩;clear y0 y1 y2 y3 y4 y5 y6 y7;rw [show F2 (⟨P,fun _=>RS.zero⟩:BS).L (↑P.length) x.pru=true from hok] at lS⊢;rw [if_pos rfl,a1S] at lS
   have LQ:Bro w6 ow6 2 g 0 [1,2] ⟨M5 P x.pru,fun _=>RS.zero⟩:=by
    have:=hb6;unfold BS.learn at this;rw [show F2 (⟨P,fun _=>RS.zero⟩:BS).L (↑P.length) x.pru=true from hok] at this;exact this
   have Yf:(S++L9 [1,2] 1 (P.length:Int) x.pru).length<=2*(j+1):=by have:=a1n [1,2] 1 (P.length:Int) x.pru;rw [zz4];have e:([1,2]:List Int).length=2:=rfl;omega
   have vO:=bU.owd mE.out (by show¬((0=2\/0=2+17)\/0=40);omega);have Yg:=bU.mod0 mE.out Ed.out (by show¬((0=2\/0=2+17)\/0=40);omega);have hk6:=hk5.mov bU (by show¬((0=2\/0=2+17)\/0=40);omega) (by show¬((50=2\/50=2+17)\/50=40);omega);have zm:=TR.out.mov bU (by show¬((0=2\/0=2+17)\/0=40);omega) (by show¬((60=2\/60=2+17)\/60=40);omega) (by show¬((60=2\/60=2+17)\/60=40);omega);have Yh:=TS.out.mov bU (by show¬((0=2\/0=2+17)\/0=40);omega) (by show¬((61=2\/61=2+17)\/61=40);omega);have hx6:=LA.out.mov bU (by show¬((0=2\/0=2+17)\/0=40);omega);have bZ:=bU.md.heap je.out (by rw [Ej.out];show¬((1=2\/1=2+17)\/1=40);omega);have LU:ow6 wr.heap.size=1:=by rw [bU.old _ (zz7 je.out).1];exact Ej.out
   have lF:=hx6.fine;have hfr:=I8 w6 x.sc (.slice x.ca x.cs.length x.cc) x.cs hx6.cs.rd (by have h1:x.cs.length<=1000:=lF.len;omega) (by have h1:x.sc.size<=1000000:=lF.sc;omega) (fun c hc=>by have:=(lF.cs c hc).name;omega);have e4:w6.cell? ⟨wr.heap.size,4,none⟩=some (.string x.sc):=d6 bZ rfl;have e5:w6.cell? ⟨wr.heap.size,5,none⟩=some (.slice x.ca x.cs.length x.cc):=d6 bZ rfl;obtain ⟨TT,LV,Hr6,Hl6,HM6,TH,gU,LW,zB,bB,Yi,Ae⟩:=zh12 LQ vO Yg zm Yh hx6 bZ LU lS hfr Yf lF;clear LQ vO Yg zm Yh hx6 bZ LU lS hfr Yf lF hb6 bU hok
   go_wp2_with fail
   refine bB.out.mono ?_;rintro e w7 ⟨rfl,bu⟩;have hv7:=Mov.of LV.out bu (fun _=>False);have yu:=hv7.owd LV.out id;have qL:=TT.out.mov LV.out hv7 id (fun _ h=>h.elim);have lM:=Hl6.out.mov hv7 id id id;have Cs:=HM6.out.mov hv7 id id;have nW:=OtI.mov zB.out hv7 id id;have hx7:=TH.out.mov hv7 id;have dM:=bu.heap gU.out id;have Ox:=Hr6.out.trans bu zi;have Yj:=hk6.mov hv7 id id
   cases eZ:l9 x.sc x.cs with
   |false=>
    have hkk:x.pru.kept=x.pru:=by unfold PRu.kept;rw [show l9 x.pru.sc x.pru.cs=false from eZ];rfl
    obtain ⟨ug,LX,vg,xA,yj,Yk,mM,TU,Oy,nQ,xH,FM⟩:=zh12 yu qL lM Cs nW hx7 dM Ox hv7 bu hkk eZ;clear yu qL lM Cs nW hx7 dM Ox hv7 bu hkk eZ;clear e4 e5;obtain ⟨wS,gP,bX,iE,iF⟩:=g8 w7 (.cells (x.pru.lies x.ca x.cc).cells.toArray 28);have fw:w7.alloc (.cells #[.int .i64 x.kind,.int .i64 x.tenant,.string x.who,.int .i64 x.broker,.string x.sc,.slice x.ca x.cs.length x.cc,.string x.name,.int .i64 x.at_] 28)=wS:=gP;have kQ:j3 wS 8 (.slice (some ⟨w7.heap.size,0,none⟩) 1 1) 1 (x.pru.lies x.ca x.cc).cells:=gP▸j3.one w7 (x.pru.lies x.ca x.cc).cells 28 rfl;have qi:=xA.out.sl.mod bX zi;have hone:∀u∈(x.pru.lies x.ca x.cc).cells,u.oneCell'=true:=fun u hu=>zz15 (show (x.pru.lies x.ca x.cc).cells.all (·.oneCell')=true from rfl) u hu;rw [ky.out] at qi;have LY:gl<w7.heap.size:=(zz7 vg.out.row).1;obtain ⟨jG,El,Em,aX,En,TV⟩:=zh6 fw kQ qi hone bX LY;clear fw kQ qi hone bX LY gP iE iF
    go_wp2_with (first|((with_reducible refine d8 28 (.tmp 10) ?_);refine ⟨wr.heap.size,0,rfl,[.int .i64 x.kind,.int .i64 x.tenant,.string x.who,.int .i64 x.broker,.string x.sc,.slice x.ca x.cs.length x.cc,.string x.name,.int .i64 x.at_],e9.row mM.out,zk,zk, ?_⟩)|(rw [show w7.alloc _=wS from jG.out])|((with_reducible refine l0 (.tmp 42) (.tmp 44) 22 ?_);refine ⟨rfl,28,8,104,X6,.slice am P.length cm,P.length,rus (M.map Lr.ru),rfl,Em.out,_,1,(x.pru.lies x.ca x.cc).cells,rfl,El.out,aX.out,zo,by unfold maxLen;omega, ?_⟩;intro ad cp2 w9 hA;have HA:=Lib.hid hA;clear hA))
    have hA2:=HA.out;rw [<-ky.out] at hA2;obtain ⟨ow9,Eo,gJ⟩:=O4.app (d:=61) (v:= .slice am M.length cm) (x:=(x.pru,x.ca,x.cc)) ug.out zo TV.out (by rw [ky.out];exact xA.out) En.out Yk.out hA2;have LZ:=gJ.owd ug.out zo;have xW:=LX.out.mov ug.out gJ zo (fun t e=>zo);have Ma:=vg.out.mov gJ zo zo zo;have qD:=OtI.mov yj.out gJ zo zo;have vJ:=gJ.mod0 ug.out TU.out zo;have TW:=Yj.mov gJ zo zo;rw [ky.out] at Eo;have uh:(M++[(x.pru,x.ca,x.cc)]).map Prod.fst=M5 P x.pru:=by rw [List.map_append,Ad.out,LP.out,xH.out];rfl
    obtain ⟨TY,XJ,TZ,Oj,Ua,FU,DI,Ep⟩:=zh8 Eo gJ LZ xW Ma qD vJ uh;clear Eo gJ LZ xW Ma qD vJ uh hA2;clear HA
    go_roundw
    case rel=>exact ⟨j+1,ow9,_,_,_,_,_,by go_num,hlt,TN.out.symm,TZ.out,Oj.out,Ua.out,Ov.out,TY.out,Ep.out,FU.out,Yi.out,DI.out,TW⟩
    case measure=>simp [intOf];omega
   | true=>
    have hfl:=C7 eZ;have hkp:x.pru.kept={x.pru with cs:=j4 x.cs}:=by unfold PRu.kept;rw [if_pos (show l9 x.pru.sc x.pru.cs=true from eZ)];rfl
    have hnr:=Y7 w w7 yu.laid x.sc (.slice x.ca x.cs.length x.cc) x.cs hx7.cs.rd (by have:=hfl.2.1;omega) Ae.out.cs;obtain ⟨nl,hnl⟩:∃nl,j4 x.cs=nl:=⟨_,rfl⟩;rw [hnl] at hnr hkp;have e4:w7.cell? ⟨wr.heap.size,4,none⟩=some (.string x.sc):=d6 dM rfl;have e5:w7.cell? ⟨wr.heap.size,5,none⟩=some (.slice x.ca x.cs.length x.cc):=d6 dM rfl;obtain ⟨ug,LX,vg,xA,yj,Yk,mM,TU,Oy,nQ,dx,uV⟩:=zh12 yu qL lM Cs nW hx7 dM Ox hv7 bu hfl hkp;obtain ⟨Jt,Hnl,FM⟩:=zh3 hnr hnl eZ;clear yu qL lM Cs nW hx7 dM Ox hv7 bu hfl hkp hnr hnl eZ
    go_wp2_with fail
    refine Jt.out.mono ?_;rintro e w8 ⟨na,nc,rfl,hno,hnb,dE⟩;have tN:=Mov.of ug.out dE (fun _=>False);have Yl:=tN.owd ug.out id;have lC:=dE.heap mM.out id;have b8m:=(zz7 lC).1;have b8n:=(zz7 mM.out).1;have hkk:x.pru.kept=({x.pru with cs:=nl}:PRu):=uV.out;have Ym:({x.pru with cs:=nl}:PRu).fine:=by rw [<-hkk];exact Ae.out.kept
    have Ub:∀b,(Value.slice am P.length cm).ownBlock=some b->b≠wr.heap.size:=fun b hb e=>by have h1:=(xA.out.vb b hb).1;rw [e,LW.out] at h1;omega
    have Mc:∀(wy:World) (o:Obj),Mod (fun b=>b=wr.heap.size) w8 wy->j2 (wy.alloc o) 28 8 (.slice am P.length cm) P.length (rus (M.map Lr.ru)):=fun wy o Oz=>by
     have h1:=((xA.out.sl.mod dE zi).mod Oz (fun b hb e=>Ub b hb e)).alloc o;rw [ky.out] at h1;exact h1
    have hone:∀u∈(({x.pru with cs:=nl}:PRu).lies na nc).cells,u.oneCell'=true:=fun u hu=>zz15 (show (({x.pru with cs:=nl}:PRu).lies na nc).cells.all (·.oneCell')=true from rfl) u hu;obtain ⟨Hno,gM,Cv,FT,OA,vI,xH,Hkf,Uc,aX⟩:=zh10 hno hnb dE tN Yl lC hkk Ym Mc hone;clear hno hnb dE tN Yl lC hkk Ym Mc hone
    go_wp2_with (first|((with_reducible refine s5 26 (.tmp 41) (.tmp 40) ?_);refine ⟨wr.heap.size,4,rfl,_,_,vI.out,[.string x.sc,.slice na nl.length nc],rfl,Nat.le_of_ble_eq_true rfl,zk,rfl, ?_⟩;intro wy Yn Oz;have Yo:wy.heap[wr.heap.size]? =some (.cells ([.int .i64 x.kind,.int .i64 x.tenant,.string x.who,.int .i64 x.broker,.string x.sc,.slice na nl.length nc,.string x.name,.int .i64 x.at_]:List Value).toArray 28 (0,0)):=Yn▸setRow_heap w8 wr.heap.size _ _ _ _ vI.out;have Hgy:=Lib.hid Yo;have Ud:=Lib.hid Oz;clear Yn Yo Oz)|((with_reducible refine d8 28 (.tmp 10) ?_);refine ⟨wr.heap.size,0,rfl,[.int .i64 x.kind,.int .i64 x.tenant,.string x.who,.int .i64 x.broker,.string x.sc,.slice na nl.length nc,.string x.name,.int .i64 x.at_],e9.row Hgy.out,zk,zk, ?_⟩)|((with_reducible refine l0 (.tmp 42) (.tmp 44) 22 ?_);refine ⟨rfl,28,8,104,X6,.slice am P.length cm,P.length,rus (M.map Lr.ru),rfl,Uc.out wy _ Ud.out,_,1,(({x.pru with cs:=nl}:PRu).lies na nc).cells,rfl,j3.one wy (({x.pru with cs:=nl}:PRu).lies na nc).cells 28 rfl,aX.out,zo,by unfold maxLen;omega, ?_⟩;intro ad cp2 w9 hA;have HA:=Lib.hid hA;clear hA))
    have Af:Mov (fun t=>t=1) w8 ow6 wy ow6:=Mov.wrote OA.out Ud.out (fun b hb=>by have hb':b=wr.heap.size:=hb;rw [hb'];exact LW.out);have hoy:=Af.owd OA.out zo;have Yp:=Af.mod0 OA.out (TU.out.trans Cv.out zi) zo;have hby:=(LX.out.mov ug.out FT.out id (fun _ h=>h.elim)).mov OA.out Af zo (fun t e=>zo);have Ue:=(vg.out.mov FT.out id id id).mov Af zo zo zo;have Yq:=(xA.out.mov FT.out id id).mov Af zo zo;have Yr:=OtI.mov (OtI.mov yj.out FT.out id id) Af zo zo;have hxy:a3c wy ow6 (({x.pru with cs:=nl}:PRu),na,nc):=⟨⟨(Hno.out.mod Ud.out (fun b hb e=>by have h1:=gM.out b hb;have h3:b=wr.heap.size:=e;have h4:=(zz7 mM.out).1;omega)).rd,fun _ b hb=>ug.out.zero (gM.out b hb)⟩,Hkf.out⟩;have Md:gl<wy.heap.size:=(zz7 Ue.row).1;obtain ⟨Hvy,OB,Hry,Hby,Hly,HMy,HOy,Hxy,Uf⟩:=zh9 Af hoy Yp hby Ue Yq Yr hxy Md;clear Af hoy Yp hby Ue Yq Yr hxy Md;have hA2:=HA.out;rw [<-ky.out] at hA2;obtain ⟨ow9,Eo,gJ⟩:=O4.app (d:=61) (v:= .slice am M.length cm) (x:=(({x.pru with cs:=nl}:PRu),na,nc)) OB.out zo Uf.out (by rw [ky.out];exact HMy.out) ((Mod.refl (fun _=>False) wy).alloc _) Hxy.out hA2;have LZ:=gJ.owd OB.out zo;have xW:=Hby.out.mov OB.out gJ zo (fun t e=>zo);have Ma:=Hly.out.mov gJ zo zo zo;have qD:=OtI.mov HOy.out gJ zo zo;have vJ:=gJ.mod0 OB.out Hry.out zo;have TW:=((Yj.mov FT.out id id).mov Hvy.out zo zo).mov gJ zo zo;rw [ky.out] at Eo;have uh:(M++[(({x.pru with cs:=nl}:PRu),na,nc)]).map Prod.fst=M5 P x.pru:=by rw [List.map_append,Ad.out,LP.out,xH.out];rfl
    obtain ⟨TY,XJ,TZ,Oj,Ua,FU,DI,Ep⟩:=zh8 Eo gJ LZ xW Ma qD vJ uh;clear Eo gJ LZ xW Ma qD vJ uh hA2;clear HA
    go_roundw
    case rel=>exact ⟨j+1,ow9,_,_,_,_,_,by go_num,hlt,TN.out.symm,TZ.out,Oj.out,Ua.out,Ov.out,TY.out,Ep.out,FU.out,Yi.out,DI.out,TW⟩
    case measure=>simp [intOf];omega
  obtain rfl:j=l.length:=zo
  rw [List.take_length] at Eg;obtain ⟨vz,bV,FE,Yd,Ad,pJ,aK,TP⟩:=zh8 hor hbr hlr Eh vN fG hmr Eg;clear hor hbr hlr Eh vN fG hmr Eg Ot Xf
  go_wp2
  go_ret2
  exact ⟨owr,g,gl,_,M,rfl,vz.out,by rw [<-TP.out];exact bV.out,Yd.out,by rw [<-TP.out];exact Ad.out,aK.out,hkr⟩
theorem a5p {p:Att->Prop} (l:List Att) (h:∀a∈l,p a.canon):∀a∈T4 l,p a:=by
 unfold T4
 suffices∀(l acc:List Att),(∀a∈l,p a.canon)->(∀a∈acc,p a)->∀a∈l.foldl (fun acc a=>putA acc a.canon) acc,p a from this l [] h (by simp)
 intro l
 induction l with
 |nil=>intro acc _ h;exact h
 | cons a l ih=>
  intro acc h1 h2;refine ih _ (fun b hb=>h1 b (by simp [hb])) fun b hb=> ?_;have ha:=h1 a (by simp);have hb:b∈putA acc a.canon:=hb;unfold putA at hb;split at hb
  ·rcases zz14 hb with hb|hb
   ·exact h2 b (List.mem_of_mem_take hb)
   rcases List.mem_cons.1 hb with rfl|hb
   ·exact ha
   exact h2 b (List.mem_of_mem_drop hb)
  rcases zz14 hb with hb|hb
  ·exact h2 b (List.mem_of_mem_take hb)
  rcases List.mem_cons.1 hb with rfl|hb
  ·exact ha
  exact h2 b (List.mem_of_mem_drop hb)
theorem b6h (s:ByteArray) (l:List Att):a8M (a8q s) (a2n l):=by
 refine ⟨?_,a9y l,a8r l,fun a ha=> ?_⟩
 ·unfold a8q;split
  ·rename_i h
   exact a1J h
  exact Nat.zero_le _
 have h1:=b4w (b2o ha).2 (List.mem_singleton.2 rfl);refine ⟨a5H h1.1, ?_⟩;have h3:=h1.2;unfold V.right at h3;simp only [Bool.and_eq_true,decide_eq_true_eq] at h3;exact h3.2.2
theorem b6i {P:Program} {o:Oper} {a:Act} {w:World} {K:Act->World->Prop} {Q:Exit->Act->World->Prop} (s y:Operand) (t:TypeId) (hop:o.op=Op.call {callee:=Callee.builtin Builtin.append,args:=#[s,y],argTypes:=#[t,t]})
 (e:TypeId) (sz bytes:Nat) (hT:E7 P t e sz bytes) (v:Value) (n:Nat) (xs:List Value) (hs:a.eval s=v) (hown:j2 w e sz v n xs) (x:Value) (m:Nat) (news:List Value) (hy:a.eval y=x) (hx:j3 w sz x m news) (h1:∀u∈news,u.oneCell'=true)
 (hbytes:(n+m)*bytes<=140737488355328) (hmax:n+m<=maxLen)
 (hK:∀ad cap w',q5 w e sz v (n+m) (xs++news) (.slice ad (n+m) cap) w'->K (a.put o.dst (.slice ad (n+m) cap)) w'):o.wp P a w K Q:=by
 obtain ⟨ht,i0,z,hi,hz0,hz1,hz2,hzs⟩:=hT;obtain ⟨v',w',hrun,r1,r2,r3⟩:=V8 (P:=P) w t o.type e i0 z sz bytes ht hi hz0 hz1 hz2 hzs v n xs hown x m news hx h1 hbytes hmax;unfold Oper.wp;simp [execOp,hop,resolve,invoke,builtin,hs,hy,hrun,Result.andThen];obtain ⟨ad,cap,rfl,_⟩:=r1.shape;exact hK ad cap w' ⟨r1,r2,r3⟩
def O1 (l:List Ru) (tenant:Int) (who es:ByteArray) (x:Att):Bool:=l.any fun r=>r.of 3 tenant who&&(r.name.toList==x.name.toList&&m8 es r.sc)
theorem a7v {l:List Ru} {tenant:Int} {who es:ByteArray} {x:Att} {i:Nat} {r:Ru} (h:l[i]? =some r):
 O1 (l.take (i+1)) tenant who es x=(O1 (l.take i) tenant who es x||(r.of 3 tenant who&&(r.name.toList==x.name.toList&&m8 es r.sc))):=by
 unfold O1;rw [List.take_add_one,List.any_append,h];simp
theorem a86 (l:List Ru) (tenant:Int) (who es:ByteArray) (x:Att):O1 l tenant who es x=decide (x.name.data.toList∈a2s (M1 l tenant who es)):=by
 rw [Bool.eq_iff_iff,decide_eq_true_eq,b2E];unfold O1 M1 W3;rw [List.any_eq_true,List.mem_map];constructor
 ·rintro ⟨r,hr,h⟩;rw [Bool.and_eq_true,Bool.and_eq_true] at h;refine ⟨r,List.mem_filter.2 ⟨hr, ?_⟩,by rw [(Lib.bytes_beq_iff _ _).1 h.2.1]⟩;unfold Ru.hides;rw [h.1,h.2.2];rfl
 rintro ⟨r,hr,h⟩;obtain ⟨hr,h2⟩:=List.mem_filter.1 hr;unfold Ru.hides at h2;rw [Bool.and_eq_true] at h2
 have hn:r.name=x.name:=by
  have h3:r.name.data=x.name.data:=Array.ext' h;cases hx:x.name;cases hq:r.name
  rw [hx,hq] at h3;exact congrArg ByteArray.mk h3
 exact ⟨r,hr,by rw [h2.1,h2.2,(Lib.bytes_beq_iff _ _).2 hn];rfl⟩
theorem a2V (l:List Ru) (tenant:Int) (who es:ByteArray) (L:List Att):I4 l tenant who es L=L.filter fun a=> !O1 l tenant who es a:=by
 unfold I4 T9;congr 1;funext a;rw [a86]
theorem b3o (w:World) (v:Value) (l:List Ru) (hv:I9 w v l) (hll:l.length<=1000000) (tenant:Int) (who es:ByteArray) (hs:es.size<=9223372036854775807) (ea:Option Addr) (ec:Nat) (L:List Att) (hL:j3 w 6 (.slice ea L.length ec) L.length (k7 L)) (kN:L.length<=1000):
 Calls Tryz.prog 13 #[v,.int .i64 tenant,.string who,.agg #[.string es,.slice ea L.length ec]] w fun e w'=>∃av,e= .returned (.agg #[.string es,av])/\
  j2 w' 112 6 av (I4 l tenant who es L).length (k7 (I4 l tenant who es L))/\(∀b,av.ownBlock=some b->w.heap.size<=b)/\Mod (fun _=>False) w w':=by
 obtain ⟨a,cap,rfl,hcap⟩:∃a c,v= .slice a l.length c/\l.length<=c:=by obtain ⟨-,a,c,h,h2, -⟩:=hv.rd;exact ⟨a,c,h,h2⟩
 obtain ⟨hec⟩:L.length<=ec/\True:=by obtain ⟨-,a,c,h,h2, -⟩:=hL;cases h;exact ⟨h2,trivial⟩
 obtain ⟨wa,aD,ah,ae,au⟩:=g8 w (.cells #[.string es,.slice ea L.length ec] 31);obtain ⟨wb,hwb,ay,ak,aO⟩:=g8 wa (.cells #[.string ⟨#[]⟩,.slice none 0 0] 31);obtain ⟨w6,jc,bL,dR,jd⟩:=g8 wb (.cells #[.string es,.slice none 0 0] 31);have dm:=ah.trans (ay.trans bL zi) zi;have hga:=(ay.trans bL zi).heap ae id;have hgb:=bL.heap ak id;have hvd:=hv.mod dm;have hrd:=hL.mod dm zi;have rY:=ay.heap ae id;have c0:wb.cell? ⟨w.heap.size,0,none⟩=some (.string es):=d6 rY rfl;have hz1:w.heap.size<wa.heap.size:=zo
 have hz2:wa.heap.size<wb.heap.size:=zo
 have hz3:wb.heap.size<w6.heap.size:=zo
 have b8o:(L.length:Int)<=1000:=zo
 have bN:(l.length:Int)<=1000000:=zo
 have bf:(l.length:Int)<=cap:=zo
 have b8p:(L.length:Int)<=ec:=zo
 have kg:∀b,(Value.slice ea L.length ec).ownBlock=some b->0<L.length->b<w.heap.size:=fun b hb h0=>by
  obtain ⟨-,a',c',h1, -, -,h4⟩:=hL;cases h1
  cases ea with
  |none=>cases hb
  |some q=>
   obtain ⟨g,off,rfl,h5⟩:=h4 q rfl h0;have h9:0<(k7 L).length:=by rw [B0];omega
   have h6:(k7 L)[0]? =some (k7 L)[0]:=zz5 h9;have h7:=World.block_lt_of_cell? w _ (h5 0 _ h6);have h8:some g=some b:=hb;cases h8
   exact h7
 have hwk:∀b,(Value.slice a l.length cap).ownBlock=some b->0<l.length->b<w.heap.size:=fun b hb h0=>by
  obtain ⟨-,a',c',h1, -, -,h4⟩:=hv.rd;cases h1
  cases a with
  |none=>cases hb
  |some q=>
   obtain ⟨g,off,rfl,h5⟩:=h4 q rfl h0;have h9:0<(rus l).length:=by rw [a39];omega
   have h6:(rus l)[0]? =some (rus l)[0]:=zz5 h9;have h7:=World.block_lt_of_cell? w _ (h5 0 _ h6);have h8:some g=some b:=hb;cases h8
   exact h7
 obtain ⟨aF,bD,oQ,dA,qM,mf,AB,iq,Fy,OC,kP,Hv⟩:=zh12 aD hwb jc dm hga hgb hvd hrd kg hwk dR hv;obtain ⟨HL,Hs⟩:=zh2 hL hs;clear aD hwb jc dm hga hgb hvd hrd kg hwk dR hv hL hs ah ay bL ae ak au aO jd rY
 go_enter Tryz.func13,Tryz.ntmps13
 go_wp2_with (first|(rw [show w.alloc _=wa from aF.out])|(rw [show wa.alloc _=wb from bD.out])|((with_reducible refine d9 31 (.tmp 9) (.tmp 15) ?_);refine ⟨rfl,[.string es,.slice none 0 0],rfl,rfl,zk,rfl, ?_⟩;rw [oQ.out]))
 clear c0
 go_loopw [10] (fun i wr=>∃(j n:Nat) (oa:Option Addr) (oc:Nat),i= .int .i64 j/\j<=L.length/\n=(I4 l tenant who es (L.take j)).length/\wr.heap[wb.heap.size]? =some (.cells #[.string es,.slice oa n oc] 31 (0,0))/\
  j2 wr 112 6 (.slice oa n oc) n (k7 (I4 l tenant who es (L.take j)))/\(∀b,(Value.slice oa n oc).ownBlock=some b->w6.heap.size<=b)/\Mod (fun k=>k=wb.heap.size) w6 wr) (fun i _=>L.length - (intOf i).toNat)
 case atStart=>exact ⟨0,0,none,0,rfl,Nat.zero_le _,rfl,kP.out,j2.nil _ _ _,fun b hb=>(by cases hb),Mod.refl _ _⟩
 case round =>
  obtain ⟨j,n,oa,oc,rfl,hj,hn,hrow,hown,hfo,hmr⟩:=hrel;have hgr:=hmr.heap qM.out zo;obtain ⟨wo,rfl⟩:∃wo:World,wo=wr:=⟨_,rfl⟩;by_cases hlt:j<L.length
  ·have hlt':(j:Int)<L.length:=zo
   obtain ⟨x,hxj⟩:∃x,L[j]? =some x:=⟨_,zz5 hlt⟩;obtain ⟨ag,aoff,rfl,hf⟩:∃g off,ea=some ⟨g,off,none⟩/\e9 wo g (off+j*6) x.cells:=a3y (iq.out.mod hmr (fun b hb=>by have:=Fy.out b hb zo;omega)) hxj
   have hnx:I4 l tenant who es (L.take (j+1))=I4 l tenant who es (L.take j)++(if (!O1 l tenant who es x)=true then [x] else []):=by
    rw [a2V,a2V];exact a5d (fun a:Att=> !O1 l tenant who es a) hxj
   obtain ⟨acc,hacc⟩:∃q,I4 l tenant who es (L.take j)=q:=⟨_,rfl⟩;have hle:acc.length<=j:=by rw [<-hacc];exact Nat.le_trans (List.length_filter_le _ _) (List.length_take_le _ _)
   rw [hacc] at hn hown hnx;obtain ⟨nx,cz⟩:∃q,I4 l tenant who es (L.take (j+1))=q:=⟨_,rfl⟩;rw [cz] at hnx;have QV:(n:Int)<=1000:=zo
   have e1:wo.cell? ⟨w.heap.size,1,none⟩=some (.slice (some ⟨ag,aoff,none⟩) L.length ec):=d6 hgr rfl;have hlr:wb.heap.size<wo.heap.size:=(zz7 hrow).1;obtain ⟨cB,Hf,iH,aZ,aK,Hn,dn,bT,fD,nL⟩:=zh10 hxj hf hrow hown hmr hn hnx cz hfo hgr;clear hxj hf hrow hown hmr hn hnx cz hfo hgr hacc hle
   go_wp2_with fail
   go_loopw [11,12] (fun hv iv wr=>∃i:Nat,iv= .int .i64 i/\i<=l.length/\hv= .bool (O1 (l.take i) tenant who es x)/\Mod (fun _=>False) wo wr) (fun _ iv _=>l.length - (intOf iv).toNat)
   case atStart=>exact ⟨0,rfl,Nat.zero_le _,rfl,Mod.refl _ _⟩
   case round=>
    obtain ⟨i,rfl,hi,rfl,dJ⟩:=hrel;by_cases gp:i<l.length
    ·have Ju:(i:Int)<l.length:=zo
     obtain ⟨r,eU⟩:∃r,l[i]? =some r:=⟨_,zz5 gp⟩;have hrm:=zz8 eU
     obtain ⟨g,off,rfl,hrc⟩:∃g off,a=some ⟨g,off,none⟩/\e9 wo g (off+i*8) r.cells:=by
      obtain ⟨g,off,ha,h0⟩:=F1 AB.out eU;have hb:=OC.out g (by rw [ha];rfl) zo;exact ⟨g,off,ha,h0.mod aK.out zo⟩
     have hst:=a7v (tenant:=tenant) (who:=who) (es:=es) (x:=x) eU;have hun:=a2f es r.sc Hs.out (Hv.out.ok r hrm).sc
     have hfa:∀w',Mod (fun _=>False) wr w'->w'.cell? ⟨g,off+i*8,none⟩=some (.int .i64 r.kind)/\w'.cell? ⟨g,off+i*8+1,none⟩=some (.int .i64 r.tenant)/\w'.cell? ⟨g,off+i*8+2,none⟩=some (.string r.who)/\
      w'.cell? ⟨g,off+i*8+4,none⟩=some (.string r.sc)/\w'.cell? ⟨g,off+i*8+6,none⟩=some (.string r.name)/\w'.cell? ⟨w.heap.size,0,none⟩=some (.string es)/\
      w'.cell? ⟨w.heap.size,1,none⟩=some (.slice (some ⟨ag,aoff,none⟩) L.length ec)/\w'.cell? ⟨ag,aoff+j*6,none⟩=some (.string x.name):=fun w' hw'=>by
      have h1:=dJ.trans hw' zi;have h2:=hrc.mod h1 id;have h3:=h1.heap nL.out id;exact ⟨h2 0 _ rfl,h2 1 _ rfl,h2 2 _ rfl,h2 4 _ rfl,h2 6 _ rfl,d6 h3 rfl,d6 h3 rfl,(Hf.out.mod h1 id) 0 _ rfl⟩
     obtain ⟨acc2,Ag⟩:∃q,O1 (l.take i) tenant who es x=q:=⟨_,rfl⟩;rw [Ag] at hst⊢;obtain ⟨B,hB⟩:∃B,m8 es r.sc=B:=⟨_,rfl⟩;rw [hB] at hst
     have oG:∀w',Mod (fun _=>False) wr w'->Calls Tryz.prog 39 #[.string es,.string r.sc] w' fun e w''=>e= .returned (.bool B)/\Mod (fun _=>False) wr w'':=fun w' hw'=>
      (hun w').mono fun e w'' h=>by obtain ⟨rfl,rfl⟩:=h;exact ⟨by rw [hB],hw'⟩
     obtain ⟨kG,FX,eD,yO⟩:=zh4 dJ hfa hst oG;clear dJ hfa hst oG eU hrm hrc hun Ag hB;clear e1;refine a1u r 3 tenant who (fun h1 h4=> ?_) (fun h1 h2 h4=> ?_) (fun h1 h2 h3 h4=> ?_) (fun h1 h2 h3 h4=> ?_)
     iterate 3 (
      have eD:=Lib.hid (show O1 (l.take (i+1)) tenant who es x=acc2 by rw [eD.out,h4,Bool.false_and,Bool.or_false]);clear h4 yO
      go_wp2_with fail
      refine i7 zk zk ?_
      iterate 49 (first
       | (refine j6 ?_ (fun K hK=> ?_)
          ·first|(go_simp;done)|(go_simp;simp [undef];done)
          go_simp;refine hK _ ?_;clear hK K)
       | (refine j7 ?_ ?_ (fun w' hw'=> ?_) (fun K hK=> ?_)
          ·first|(go_simp;done)|(go_simp;simp [undef];done)
          rotate_left
          ·obtain ⟨f1,f2,f3,f4,f5,f6,f7,f8⟩:=FX.out w' hw';go_simp;rfl
          go_simp;refine hK _ ?_;clear hK K))
      refine j8 (fun w' hw'=> ?_);have bS:=Lib.hid (kG.out.trans hw' zi);clear hw'
      go_wp2_with fail
      go_roundw
      case rel=>exact ⟨i+1,by go_num,gp,by rw [eD.out],bS.out⟩
      case measure=>simp [intOf];omega)
     cases hnm:r.name.toList==x.name.toList with
     | false=>
      have eD:=Lib.hid (show O1 (l.take (i+1)) tenant who es x=acc2 by rw [eD.out,h4,hnm,Bool.false_and,Bool.and_false,Bool.or_false]);clear h4 yO
      go_wp2_with fail
      refine i7 zk zk ?_
      iterate 49 (first
       | (refine j6 ?_ (fun K hK=> ?_)
          ·first|(go_simp;done)|(go_simp;simp [undef];done)
          go_simp;refine hK _ ?_;clear hK K)
       | (refine j7 ?_ ?_ (fun w' hw'=> ?_) (fun K hK=> ?_)
          ·first|(go_simp;done)|(go_simp;simp [undef];done)
          rotate_left
          ·obtain ⟨f1,f2,f3,f4,f5,f6,f7,f8⟩:=FX.out w' hw';go_simp;rfl
          go_simp;refine hK _ ?_;clear hK K))
      refine j8 (fun w' hw'=> ?_);have bS:=Lib.hid (kG.out.trans hw' zi);clear hw' hnm
      go_wp2_with fail
      go_roundw
      case rel=>exact ⟨i+1,by go_num,gp,by rw [eD.out],bS.out⟩
      case measure=>simp [intOf];omega
     | true =>
      have eD:=Lib.hid (show O1 (l.take (i+1)) tenant who es x=(acc2||B) by rw [eD.out,h4,hnm,Bool.true_and,Bool.true_and]);clear h4
      cases B with
      | false=>
       have eD:=Lib.hid (show O1 (l.take (i+1)) tenant who es x=acc2 by rw [eD.out,Bool.or_false])
       go_wp2_with fail
       refine i7 zk zk ?_
       iterate 49 (first
        | (refine j6 ?_ (fun K hK=> ?_)
           ·first|(go_simp;done)|(go_simp;simp [undef];done)
           go_simp;refine hK _ ?_;clear hK K)
        | (refine j7 ?_ ?_ (fun w' hw'=> ?_) (fun K hK=> ?_)
           ·first|(go_simp;done)|(go_simp;simp [undef];done)
           rotate_left
           ·obtain ⟨f1,f2,f3,f4,f5,f6,f7,f8⟩:=FX.out w' hw';go_simp;rfl
           go_simp;refine hK _ ?_;clear hK K)
        | (refine m9 ?_ ?_ ?_ ?_ (fun w' hw'=> ?_) ?_ (fun K hK=> ?_)
           ·first|(go_simp;done)|(go_simp;simp [undef];done)
           rotate_left 3
           ·obtain ⟨f1,f2,f3,f4,f5,f6,f7,f8⟩:=FX.out w' hw';go_simp;constructor<;>rfl
           ·first|exact yO.out
           go_simp;refine hK _ ?_;clear hK K))
       refine j8 (fun w' hw'=> ?_);have bS:=Lib.hid (kG.out.trans hw' zi);clear hw' hnm
       go_wp2_with fail
       go_roundw
       case rel=>exact ⟨i+1,by go_num,gp,by rw [eD.out],bS.out⟩
       case measure=>simp [intOf];omega
      |true=>
       have eD:=Lib.hid (show O1 (l.take (i+1)) tenant who es x=true by rw [eD.out,Bool.or_true])
       go_wp2_with fail
       refine i7 zk zk ?_
       iterate 49 (first
        | (refine j6 ?_ (fun K hK=> ?_)
           ·first|(go_simp;done)|(go_simp;simp [undef];done)
           go_simp;refine hK _ ?_;clear hK K)
        | (refine j7 ?_ ?_ (fun w' hw'=> ?_) (fun K hK=> ?_)
           ·first|(go_simp;done)|(go_simp;simp [undef];done)
           rotate_left
           ·obtain ⟨f1,f2,f3,f4,f5,f6,f7,f8⟩:=FX.out w' hw';go_simp;rfl
           go_simp;refine hK _ ?_;clear hK K)
        | (refine m9 ?_ ?_ ?_ ?_ (fun w' hw'=> ?_) ?_ (fun K hK=> ?_)
           ·first|(go_simp;done)|(go_simp;simp [undef];done)
           rotate_left 3
           ·obtain ⟨f1,f2,f3,f4,f5,f6,f7,f8⟩:=FX.out w' hw';go_simp;constructor<;>rfl
           ·first|exact yO.out
           go_simp;refine hK _ ?_;clear hK K))
       refine j8 (fun w' hw'=> ?_);have bS:=Lib.hid (kG.out.trans hw' zi);clear hw' hnm
       go_wp2_with fail
       go_roundw
       case rel=>exact ⟨i+1,by go_num,gp,by rw [eD.out],bS.out⟩
       case measure=>simp [intOf];omega
    obtain rfl:i=l.length:=zo
    rw [List.take_length];have ui:=dJ.heap iH.out id;have hown1:=aZ.out.mod dJ zi;have hm1:Mod (fun k=>k=wb.heap.size) w6 wr:=aK.out.trans dJ (fun _ _ h=>h.elim);have b8q:wb.heap.size<wr.heap.size:=(zz7 ui).1;have hf1:=Hf.out.mod dJ id;have Me:=dJ.heap nL.out id;obtain ⟨B,hB⟩:∃B,O1 l tenant who es x=B:=⟨_,rfl⟩;have hnx2:nx=acc++(if (!B)=true then [x] else []):=by rw [<-hB];exact dn.out
    rw [hB];clear e1;obtain ⟨uj,Ah,dB,rD,Hf1,Ug⟩:=zh6 ui hown1 hm1 hnx2 hf1 Me;clear ui hown1 hm1 hnx2 hf1 Me dJ hB iH aZ aK dn Hf nL
    cases B with
    |true=>
     have bR:nx=acc:=by rw [rD.out];exact zz11 _
     have aQ:=Ah.out;rw [<-bR,<-bT.out] at aQ;have hlen:n=(I4 l tenant who es (L.take (j+1))).length:=by rw [bT.out,bR];exact Hn.out
     obtain ⟨bY,Hlen⟩:=zh2 aQ hlen;clear aQ hlen bR
     go_wp2_with fail
     go_roundw
     case rel=>exact ⟨j+1,n,oa,oc,by go_num,hlt,Hlen.out,uj.out,bY.out,fD.out,dB.out⟩
     case measure=>simp [intOf];omega
    | false=>
     have bR:nx=acc++[x]:=rD.out;have hone:∀u∈x.cells,u.oneCell'=true:=fun u hu=>zz15 (show x.cells.all (·.oneCell')=true from rfl) u hu;have hlen:n+1=(I4 l tenant who es (L.take (j+1))).length:=by rw [bT.out,bR,zz4,<-Hn.out];rfl
     have kR:k7 acc++x.cells=k7 (I4 l tenant who es (L.take (j+1))):=by rw [bT.out,bR,r7];simp [k7]
     have Uh:=fD.out;obtain ⟨aX,Hlen,rF⟩:=zh3 hone hlen kR;clear hone hlen kR bR
     go_wp2_with fail
     have hS:(fun y:World=>y.cell? ⟨wb.heap.size,1,none⟩=some (.slice oa n oc)/\y.cell? ⟨w.heap.size,1,none⟩=some (.slice (some ⟨ag,aoff,none⟩) L.length ec)/\l8 y ag (aoff+j*6) 6/\cellsOf y ag (aoff+j*6) 6=#[.string x.name,.int .i64 x.v.kind,.int .i64 x.v.int,.float .f64 x.v.num,.string x.v.text,.bool x.v.yes]) wr.drew:=
      ⟨d6 (B4 uj.out) rfl,d6 (B4 Ug.out) rfl,(Hf1.out.mod ((Mod.refl (fun _=>False) wr).drew) id).all rfl,(Hf1.out.mod ((Mod.refl (fun _=>False) wr).drew) id).is rfl⟩
     refine i8 [.rd 0,.rd 1,.rd 2,.rd 3,.rd 4,.rd 5,.rd 6,.go 7,.go 8,.go 9,.go 10] [0,1,2,3,4,5,6,7] (fun y:World=>y.cell? ⟨wb.heap.size,1,none⟩=some (.slice oa n oc)/\y.cell? ⟨w.heap.size,1,none⟩=some (.slice (some ⟨ag,aoff,none⟩) L.length ec)/\l8 y ag (aoff+j*6) 6/\cellsOf y ag (aoff+j*6) 6=#[.string x.name,.int .i64 x.v.kind,.int .i64 x.v.int,.float .f64 x.v.num,.string x.v.text,.bool x.v.yes]) zk zk (fun _ _ d _ _ h=>(by cases d<;>exact h)) ?_
     iterate 7 (
      refine n4 rfl ?_ (fun _=>hS) ?_ (fun w0 h0=> ?_) (fun K hK=> ?_)
      ·exact zg
      rotate_left
      ·(try simp only [zz1,zz2,zz3])
       first
        |(obtain ⟨h1,h2,h3,h5⟩:=h0 rfl;clear h0;go_simp;with_reducible rfl)
        |(clear h0;go_simp;with_reducible rfl)
      (try simp only [zz1,zz2,zz3])
      go_simp;refine hK _ ?_;clear hK K)
     refine i6 (j0 rfl ?_ (fun K hK=> ?_))
     ·exact zg
     (try simp only [zz1,zz2,zz3]);obtain ⟨wT,hwT,bC,eQ,eT⟩:=g8 wr.drew (.cells x.cells.toArray 112);have dK:wr.drew.alloc (.cells #[.string x.name,.int .i64 x.v.kind,.int .i64 x.v.int,.float .f64 x.v.num,.string x.v.text,.bool x.v.yes] 112)=wT:=hwT;go_simp;refine hK _ _ (fun _ h=>⟨bC.cell h.1 id,bC.cell h.2.1 id,((h.2.2.1.at).mod bC id).all (F7 _ _ _ _),by rw [((h.2.2.1.at).mod bC id).is (F7 _ _ _ _)];exact h.2.2.2⟩) ?_;clear hK K hS;have bP:j3 wT 6 (.slice (some ⟨wr.heap.size,0,none⟩) 1 1) 1 x.cells:=hwT▸j3.one wr.drew x.cells 112 rfl;have il:Mod (fun _=>False) wr wT:=((Mod.refl (fun _=>False) wr).drew).trans bC zi;have gB:=il.heap uj.out id;have dz:=Ah.out.mod il zi;have xm:Mod (fun k=>k=wb.heap.size) w6 wT:=dB.out.trans il (fun _ _ h=>h.elim);refine i6 (j0 rfl ?_ (fun K hK=> ?_))
     ·exact zg
     (try simp only [zz1,zz2,zz3]);refine b6i (.tmp 81) (.tmp 87) 29 rfl 112 6 64 a0R (.slice oa n oc) n (k7 acc) rfl dz (.slice (some ⟨wr.heap.size,0,none⟩) 1 1) 1 x.cells rfl bP aX.out zo (by unfold maxLen;omega) (fun ad cap2 w4 hA=> ?_);have iG:¬l5 (.slice oa n oc) wb.heap.size:=(fun h=>by have:=fD.out _ h;omega);have hrow4:=hA.2.1.heap gB iG;have f1:w4.frozen? ⟨wb.heap.size,1,none⟩=false:=J1 hrow4;have e1:w4.cell? ⟨wb.heap.size,1,none⟩=some (.slice oa n oc):=d6 hrow4 rfl;refine hK _ _ (fun h=>absurd h zd) ?_;clear hK K
     have df:∀b,(Value.slice ad (n+1) cap2).ownBlock=some b->w6.heap.size<=b:=fun b hb=>by
      rcases hA.2.2 with h|⟨k,h,hk⟩
      ·exact fD.out b (by rw [<-h];exact hb)
      rw [h] at hb;cases hb;have:=xm.size;omega
     have aR:Mod (fun k=>k=wb.heap.size) w6 w4:=xm.upon hA.2.1 (fun b hb=> .inr (fD.out b hb));have aQ:=hA.1;rw [rF.out] at aQ;obtain ⟨dD,dN,bY,iw⟩:=zh4 df aR aQ hrow4;clear df aR aQ hrow4 hA xm gB dz bP il hwT dK bC eQ eT iG Uh;refine i6 (j0 rfl ?_ (fun K hK=> ?_))
     ·exact zg
     (try simp only [zz1,zz2,zz3]);go_simp;refine hK _ _ (fun h=>absurd h zd) ?_;clear hK K;refine i6 (j0 rfl ?_ (fun K hK=> ?_))
     ·exact zg
     (try simp only [zz1,zz2,zz3]);go_simp;refine hK _ _ (fun h=>absurd h zd) ?_;clear hK K;refine m6 ?_
     go_wp2_with fail
     go_roundw
     case rel=>
      refine ⟨j+1,n+1,ad,cap2,by go_num,hlt,Hlen.out,o6 iw.out,bY.out.setCell (fun h=> ?_) _,dD.out,dN.out.setCell (fun _=>rfl) _⟩;have:=dD.out _ h;have h2:w6.heap.size<=wb.heap.size:=this;omega
     case measure=>simp [intOf];omega
  obtain rfl:j=L.length:=zo
  rw [List.take_length] at hn hown;have Mf:=hmr.heap mf.out zo;have aU:Mod (fun _=>False) w wo:=dA.out.upon hmr (fun b hb=> .inr zo);have e1:wo.cell? ⟨w.heap.size,1,none⟩=some (.slice ea L.length ec):=d6 hgr rfl;obtain ⟨iH,aZ,Hn,Ui,dw,fD⟩:=zh6 hrow hown hn Mf aU hfo;clear hrow hown hn Mf aU hfo hmr hgr
  go_wp2_with (first|((with_reducible refine d8 31 (.tmp 9) ?_);refine ⟨wb.heap.size,0,rfl,[.string es,.slice oa n oc],e9.row iH.out,zk,zk, ?_⟩)|((with_reducible refine j9 31 (.tmp 8) (.tmp 90) ?_);refine ⟨wa.heap.size,rfl,_,_,Ui.out,[.string es,.slice oa n oc],rfl,rfl,zk,rfl, ?_⟩;intro w9 jr ko;have lN:=Lib.hid jr;have xn:=Lib.hid ko;clear jr ko))
  refine o7 rfl wa.heap.size rfl _ (e9.row lN.out) zk zk rfl ⟨.slice oa n oc,rfl, ?_, ?_, ?_⟩
  ·rw [<-Hn.out];exact aZ.out.mod xn.out (fun b hb=>by have:=fD.out b hb;have:=dA.out.size;omega)
  ·exact fun b hb=>by have:=fD.out b hb;have:=dA.out.size;omega
  exact dw.out.upon xn.out (fun b hb=> .inr zo)
end Go.Proofs.YtebhabpahfmodaaGreatDoor
