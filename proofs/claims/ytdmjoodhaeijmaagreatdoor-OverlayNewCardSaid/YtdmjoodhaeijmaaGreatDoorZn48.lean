/- Lemmas. -/
import Derived.Test.YtdmjoodhaeijmaaGreatDoorZn47
import Derived.PinnedBridge
import Derived.Lib.LaidU8T
import Derived.Lib.LaidTab
import Derived.Lib.LaidPrint
set_option maxHeartbeats 40000000
set_option maxRecDepth 20000
namespace Go.Proofs.YtdmjoodhaeijmaaGreatDoor
section
open Go.RowKit
theorem a8o {W:World} (hL:a3m W) (hN:16<=W.heap.size):L4 W W:=⟨hL,hN,⟨rfl,rfl,rfl,Nat.le_refl _,fun _ _=>rfl⟩⟩
theorem a8p {w0 w:World} (h:L4 w0 w):L4 w w:=⟨h.at_,Nat.le_trans h.n64 h.size,⟨rfl,rfl,rfl,Nat.le_refl _,fun _ _=>rfl⟩⟩
theorem a0Y {w0 w:World} (h:L4 w0 w):Owd w w (fun _=>0):=⟨fun k h=>absurd rfl h,fun k h=>absurd rfl h,a8p h⟩
theorem b4Z:a0J.r.fine:=⟨zd,zd,zd,zd,fun c hc=>by cases hc⟩
theorem b40:l0 ⟨#[]⟩ []=true:=by decide+kernel
theorem b3a (w:World) (hl:L4 w w):Calls Tryz.prog 7 #[] w fun e w'=>e= .returned (.bool true)/\Mod (fun _=>False) w w':=by
 obtain ⟨wa,ak,ae,aa,ah⟩:=g6 w (.cells #[.int .i64 0,.int .i64 1] 84);have hrd:i8 wa 2 (.slice (some ⟨w.heap.size,0,none⟩) 1 1) 1 [.int .i64 0,.int .i64 1]:=ak▸i8.one w [.int .i64 0,.int .i64 1] 84 rfl;have hnew:=b20 2 (.slice (some ⟨w.heap.size,0,none⟩) 1 1) [(0,1)] wa hrd zd;have hn2:a4k 2 [(0,1)]=(0,N2):=a66 1 zd;rw [hn2] at hnew;refine hh4 ak ae hnew hl fun aB ai nP Hl=> ?_;clear ak ae hnew hl ah aa hrd
 go_enter Tryz.func7,Tryz.ntmps7
 go_wp2_with (rw [show w.alloc _=wa from aB.out])
 refine nP.out.mono ?_;rintro e w1 ⟨p,rfl, -,ht,hm1⟩;obtain ⟨t,rfl, -,hT⟩:=ht rfl;have hw1:Mod (fun _=>False) w w1:=ai.out.trans hm1 zi;have ho0:Owd w w (fun _=>0):=a0Y Hl.out;have ho1:Owd w1 w1 (fun _=>0):=a0Y ((Mov.of ho0 hw1 (fun _=>False)).owd ho0 id).laid;have hok:NOk N2:=a89 1 zd;have hnn:=a9a w1 w1 (fun _=>0) ho1 (Mod.refl _ w1) t N2 hT hok zd;refine hh7 hT hm1 hw1 ho0 ho1 hok hnn fun HT dn gW IC VB bY wR=> ?_;clear hT hm1 hw1 ho0 ho1 hok hnn ht
 go_wp2_with fail
 refine wR.out.mono ?_;rintro e w2 ⟨q,o2,rfl,hX2,hM2⟩;have hop:a0J.r={PRu.zero with who:=⟨#[97]⟩}:=rfl
 have hdo:=a8m hX2 zo a0J rfl [.int .i64 0,.int .i64 0,.string ⟨#[]⟩,.int .i64 0,.int .i64 0,.string ⟨#[97]⟩,.int .i64 0,.string ⟨#[]⟩,.slice none 0 0,.string ⟨#[]⟩,.int .i64 0,.string ⟨#[]⟩,.slice none 0 0,.string ⟨#[]⟩,.slice none 0 0,.int .i64 0,.int .i64 0,.int .i64 0] rfl rfl none 0
  (fun m u hu=>by
    have h1:=(zz6 hu).1;have h2:m<8:=h1;have h3:m=0\/m=1\/m=2\/m=3\/m=4\/m=5\/m=6\/m=7:=zo
    rcases h3 with rfl|rfl|rfl|rfl|rfl|rfl|rfl|rfl<;>exact hu) (g7.nil w2 126 7).rd b4Z (fun c hc=>by cases hc)
 refine hh3 hX2 hM2 hdo fun rq vT FO=> ?_;clear hX2 hM2 hdo hop
 go_wp2_with fail
 refine FO.out.mono ?_;rintro e w3 ⟨rfl,o3,eY,vZ⟩;obtain ⟨s1,hs1⟩:∃x,((NS.new N2).rule a0J.r).2=x:=⟨_,rfl⟩;have hr0:((NS.new N2).rule a0J.r).1=0:=b2W;have hR:(s1.settle 20).1=3:=by rw [<-hs1];exact a8j
 have hK1:((s1.settle 20).2.B 1).L.length=1:=by rw [<-hs1];exact b0t
 have hN1:s1.N=N2:=by rw [<-hs1];decide+kernel
 rw [hs1] at eY;rw [hr0];have hse:=a45 eY 20 zo (by rw [hR,hN1];decide) zo;rw [hR,hN1] at hse;refine hh8 eY vZ hs1 hr0 hR hK1 hN1 hse fun IB XT Ic XU HR VC VD Na=> ?_;clear eY vZ hs1 hr0 hR hK1 hN1 hse
 go_wp2_with fail
 refine Na.out.mono ?_;rintro e w4 ⟨rfl,o4,mV,wh⟩;obtain ⟨s4,hs4⟩:∃x,(s1.settle 20).2=x:=⟨_,rfl⟩;have hK1:=VC.out;rw [hs4] at mV hK1;have Nb:s4.N=N2:=by rw [<-hs4,(a4Y 20 s1).N,VD.out]
 obtain ⟨a,L,c,n,hA,htp,hc,hn⟩:=mV.mem;have zU:Mod (fun _=>False) w w4:=gW.out.trans hA.base zi
 have hkn:∀y,Mod (fun _=>False) w4 y->Calls Tryz.prog 15 #[.pointer (some ⟨q,0,none⟩),.int .i64 1] y fun e w'=>e= .returned (.int .i64 1)/\y=w':=fun y hy=>by
  have h1:=a47 (hA.still mV.own mV.wi.pos (Mov.of mV.own hy (fun _=>False))) (i:=1) (by rw [Nb];decide);rw [hK1] at h1;exact h1
 have Gb:=mV.own;obtain ⟨w5,gN⟩:∃y,w4.alloc (.cells #[.int .i64 0,.slice none 0 0,.int .i64 0,.slice none 0 0,.slice none 0 0,.int .i64 0,.int .i64 0] 89)=y:=⟨_,rfl⟩;have bR:Mod (fun _=>False) w4 w5:=gN▸(Mod.refl _ w4).alloc _;have Gc:=hkn w5 bR;have oP:Calls Tryz.prog 30 #[.pointer (some ⟨w4.heap.size,0,none⟩)] w5 fun e w'=>e= .returned (.bool true)/\∃n,w'=w5.drewN n:=b2g w4 w4.heap.size LS.zero w5 (gN▸b4v w4);have Gd:Mod (fun _=>False) w w5:=zU.trans bR zi
 have hbn:∀y,Mod (fun _=>False) w y->Calls Tryz.prog 31 #[.int .i64 0,.slice none 0 0] y fun e w'=>∃g,e= .returned (.pointer (some ⟨g,0,none⟩))/\Mod (fun _=>False) w w':=fun y hy=>by
  have hs:=Mov.of IC.out hy (fun _=>False);refine (a2V w y (fun _=>0) 2 (hs.owd IC.out id) zo 0 (.slice none 0 0) [] (g7.nil y 3 1).rd zd).mono ?_;rintro e w' ⟨g,o',he,ho', -,hm⟩;exact ⟨g,he,hm.mod0 (hs.owd IC.out id) hy zo⟩
 have hfr:∀y,Mod (fun _=>False) w y->Calls Tryz.prog 32 #[.agg #[.string ⟨#[]⟩,.slice none 0 0]] y fun e w'=>e= .returned (.bool true)/\Mod (fun _=>False) y w':=fun y hy=>by
  have h1:=Z9 y ⟨#[]⟩ (.slice none 0 0) [] (g7.nil y 126 7).rd;rw [b40] at h1;exact h1 zd zd (fun c hc=>by cases hc)
 refine hh8 mV wh hs4 Nb hA htp hc hn fun Vs XV XW XX HA MO Hc Hn=> ?_;refine hh8 zU hkn Gb bR Gc oP Gd hbn fun VE Ig VF gD Nc yj Nf VG=> ?_;refine hh1 hfr fun aW=> ?_;clear mV wh hs4 Nb hA htp hc hn zU hkn Gb bR Gc oP Gd hbn hfr
 go_wp2_with fail
 refine Nc.out.mono ?_;rintro e w6 ⟨rfl,h6⟩;subst h6
 go_wp2_with fail
 refine yj.out.mono ?_;rintro e w7 ⟨rfl,n7,hw7⟩;have bP:Mod (fun _=>False) w w7:=Nf.out.trans (by rw [hw7];exact (Mod.refl (fun _=>False) w5).drewN n7) zi;refine hh1 bP fun nG=> ?_;clear bP hw7
 go_wp2_with fail
 refine (VG.out w7 nG.out).mono ?_;rintro e w8 ⟨g,rfl,dC⟩;refine hh1 dC fun oO=> ?_;clear dC
 go_wp2_with fail
 refine (aW.out w8 oO.out).mono ?_;rintro e w9 ⟨rfl,iD⟩;have Gf:=oO.out.trans iD zi;refine hh1 Gf fun Ng=> ?_;clear Gf iD
 go_wp2_with fail
 go_ret;exact ⟨rfl,Ng.out⟩
theorem Y3 (w:World) (ps:List (Int×Int)):i8 (w.alloc (.cells (prs ps).toArray 84)) 2 (.slice (some ⟨w.heap.size,0,none⟩) ps.length ps.length) ps.length (prs ps):=by
 refine ⟨?_,_,_,rfl,Nat.le_refl _,fun h=>(by cases h),fun b hb _=>⟨w.heap.size,0,by cases hb;rfl,d8.new w _ _⟩⟩;unfold prs
 induction ps with
 |nil=>rfl
 |cons p ps ih=>rw [List.flatMap_cons,zz4,ih];simp only [zz9,List.length_nil];omega
theorem b0C (r:Nat) (h:r<6):(D2 r).length<=1000000:=by
 have h1:r=0\/r=1\/r=2\/r=3\/r=4\/r=5:=zo
 rcases h1 with rfl|rfl|rfl|rfl|rfl|rfl<;>decide
theorem b57 (k:Int):∃r:Nat,r<6/\(wrap64 (k.tmod 6+6)).tmod 6=(r:Int):=by
 have h1:=Int.lt_tmod_of_pos k (show (0:Int)<6 by decide);have h2:=Int.tmod_lt_of_pos k (show (0:Int)<6 by decide);have h3:wrap64 (k.tmod 6+6)=k.tmod 6+6:=by unfold wrap64;omega
 rw [h3,Int.tmod_eq_emod_of_nonneg zo];exact ⟨((k.tmod 6+6)%6).toNat,zo,zo⟩
theorem b0D (w:World) (k:Int):Calls Tryz.prog 10 #[.int .i64 k] w fun e w'=>∃t r,r<6/\e= .returned (.pointer (some ⟨t,0,none⟩))/\U0 w' t (a0j r)/\Mod (fun _=>False) w w':=by
 obtain ⟨w1,hw1,bM,hgw1,tX⟩:=g6 w (.cells #[] 84);obtain ⟨w2,hw2,cZ,sj,Nh⟩:=g6 w1 (.cells #[.int .i64 0,.int .i64 1] 84);obtain ⟨w3,hw3,cB,iV,oo⟩:=g6 w2 (.cells #[.int .i64 0,.int .i64 1,.int .i64 1,.int .i64 2] 84);obtain ⟨w4,hw4,fU,nT,nU⟩:=g6 w3 (.cells #[.int .i64 0,.int .i64 1,.int .i64 0,.int .i64 2,.int .i64 0,.int .i64 3] 84);obtain ⟨w5,gN,cK,jG,oD⟩:=g6 w4 (.cells #[.int .i64 0,.int .i64 1,.int .i64 1,.int .i64 2,.int .i64 2,.int .i64 3,.int .i64 1,.int .i64 4] 84);obtain ⟨w6,jH,dG,gy,jI⟩:=g6 w5 (.cells #[.int .i64 0,.int .i64 1,.int .i64 1,.int .i64 2,.int .i64 1,.int .i64 3,.int .i64 3,.int .i64 4,.int .i64 3,.int .i64 5] 84);obtain ⟨w7,hw7,Gg,jY,Ni⟩:=g6 w6 (.cells #[.slice (some ⟨w.heap.size,0,none⟩) 0 0,.slice (some ⟨w1.heap.size,0,none⟩) 1 1,.slice (some ⟨w2.heap.size,0,none⟩) 2 2,.slice (some ⟨w3.heap.size,0,none⟩) 3 3,.slice (some ⟨w4.heap.size,0,none⟩) 4 4,.slice (some ⟨w5.heap.size,0,none⟩) 5 5] 103);have m67:=Gg;have m57:=dG.trans m67 zi;have m47:=cK.trans m57 zi;have m37:=fU.trans m47 zi;have m27:=cB.trans m37 zi;have m17:=cZ.trans m27 zi;have m07:=bM.trans m17 zi;have hr0:i8 w7 2 (.slice (some ⟨w.heap.size,0,none⟩) 0 0) 0 (prs (D2 0)):=(hw1▸Y3 w (D2 0)).mod m17 zi;have hr1:i8 w7 2 (.slice (some ⟨w1.heap.size,0,none⟩) 1 1) 1 (prs (D2 1)):=(hw2▸Y3 w1 (D2 1)).mod m27 zi;have hr2:i8 w7 2 (.slice (some ⟨w2.heap.size,0,none⟩) 2 2) 2 (prs (D2 2)):=(hw3▸Y3 w2 (D2 2)).mod m37 zi;have hr3:i8 w7 2 (.slice (some ⟨w3.heap.size,0,none⟩) 3 3) 3 (prs (D2 3)):=(hw4▸Y3 w3 (D2 3)).mod m47 zi;have hr4:i8 w7 2 (.slice (some ⟨w4.heap.size,0,none⟩) 4 4) 4 (prs (D2 4)):=(gN▸Y3 w4 (D2 4)).mod m57 zi;have uw:i8 w7 2 (.slice (some ⟨w5.heap.size,0,none⟩) 5 5) 5 (prs (D2 5)):=(jH▸Y3 w5 (D2 5)).mod m67 zi;obtain ⟨r,hr,XY⟩:=b57 k;have d0:w7.cell? ⟨w6.heap.size,0,none⟩=some (.slice (some ⟨w.heap.size,0,none⟩) 0 0):=d6 jY rfl;have d1:w7.cell? ⟨w6.heap.size,1,none⟩=some (.slice (some ⟨w1.heap.size,0,none⟩) 1 1):=d6 jY rfl;have d2:w7.cell? ⟨w6.heap.size,2,none⟩=some (.slice (some ⟨w2.heap.size,0,none⟩) 2 2):=d6 jY rfl;have d3:w7.cell? ⟨w6.heap.size,3,none⟩=some (.slice (some ⟨w3.heap.size,0,none⟩) 3 3):=d6 jY rfl;have d4:w7.cell? ⟨w6.heap.size,4,none⟩=some (.slice (some ⟨w4.heap.size,0,none⟩) 4 4):=d6 jY rfl;have d5:w7.cell? ⟨w6.heap.size,5,none⟩=some (.slice (some ⟨w5.heap.size,0,none⟩) 5 5):=d6 jY rfl
 have hn:∀r,r<6->∀(wx:World) (v:Value),i8 wx 2 v (D2 r).length (prs (D2 r))->Calls Tryz.prog 29 #[.int .i64 (((D2 r).length:Int)+1),v] wx (W0 wx (0,a0j r)):=fun r hr wx v hv=>by
  have h1:=b20 ((D2 r).length+1) v (D2 r) wx hv (b0C r hr);rw [a66 r hr] at h1;exact h1
 have n0:Calls Tryz.prog 29 #[.int .i64 1,.slice (some ⟨w.heap.size,0,none⟩) 0 0] w7 (W0 w7 (0,a0j 0)):=hn 0 zd w7 _ hr0;have n1:Calls Tryz.prog 29 #[.int .i64 2,.slice (some ⟨w1.heap.size,0,none⟩) 1 1] w7 (W0 w7 (0,a0j 1)):=hn 1 zd w7 _ hr1;have n2:Calls Tryz.prog 29 #[.int .i64 3,.slice (some ⟨w2.heap.size,0,none⟩) 2 2] w7 (W0 w7 (0,a0j 2)):=hn 2 zd w7 _ hr2;have n3:Calls Tryz.prog 29 #[.int .i64 4,.slice (some ⟨w3.heap.size,0,none⟩) 3 3] w7 (W0 w7 (0,a0j 3)):=hn 3 zd w7 _ hr3;have n4:Calls Tryz.prog 29 #[.int .i64 5,.slice (some ⟨w4.heap.size,0,none⟩) 4 4] w7 (W0 w7 (0,a0j 4)):=hn 4 zd w7 _ hr4;have n5:Calls Tryz.prog 29 #[.int .i64 6,.slice (some ⟨w5.heap.size,0,none⟩) 5 5] w7 (W0 w7 (0,a0j 5)):=hn 5 zd w7 _ uw;refine hh8 m07 hn n0 n1 n2 n3 n4 n5 fun M07 Hn N0 N1 N2 N3 N4 N5=> ?_;clear m07 hn n0 n1 n2 n3 n4 n5 m17 m27 m37 m47 m57 m67 hr0 hr1 hr2 hr3 hr4 uw bM cZ cB fU cK dG Gg hgw1 sj iV nT jG gy jY tX Nh oo nU oD jI Ni
 go_enter Tryz.func10,Tryz.ntmps10
 have h6:r=0\/r=1\/r=2\/r=3\/r=4\/r=5:=zo
 clear hr;rcases h6 with rfl|rfl|rfl|rfl|rfl|rfl
 all_goals
  go_wp2_with fail
  with_reducible first|refine N0.out.mono ?_|refine N1.out.mono ?_|refine N2.out.mono ?_|refine N3.out.mono ?_|refine N4.out.mono ?_|refine N5.out.mono ?_
  rintro e w8 ⟨p,rfl, -,ht,dC⟩;obtain ⟨t,rfl, -,hT⟩:=ht rfl;have hm:=M07.out.trans dC zi;refine hh2 hT hm fun HT Hm=> ?_;clear hT hm ht dC
  go_wp2_with fail
  go_ret;exact ⟨t,_,zd,rfl,HT.out,Hm.out⟩
section
variable {w0 w:World} {ow:Ow} {q c n:Nat} {a:NAd} {L:List Lr} {s:NS}
theorem b3b (h:y7 w0 w ow q a L s c n) (hl:s.pubs.length<=1000000):Calls Tryz.prog 19 #[.pointer (some ⟨q,0,none⟩)] w fun e w'=>∃(ad:Option Addr) (cp:Nat) (X:List Pv),e= .returned (.slice ad s.pubs.length cp)/\X.map Pv.p=s.pubs/\g7 w' 67 6 (.slice ad s.pubs.length cp) s.pubs.length (X.flatMap Pv.cells)/\(∀x∈X,b4K w ow x)/\Mod (fun _=>False) w w':=by
 obtain ⟨X,hX,hG⟩:=h.pubs;obtain ⟨ta,tc,qy,htc⟩:∃a' cc,a.pv= .slice a' X.length cc/\X.length<=cc:=by obtain ⟨-,a,cc,h,h2, -⟩:=hG.sl.rd;exact ⟨a,cc,h,h2⟩
 have uA:X.length=s.pubs.length:=by rw [<-hX,zz10]
 have q12:w.cell? ⟨q,12,none⟩=some (.slice ta X.length tc):=by rw [<-qy];exact h.side.cellN rfl
 have hrd:=hG.sl.rd;rw [qy] at hrd
 have hone:∀u∈X.flatMap Pv.cells,u.oneCell'=true:=fun u hu=>by
  obtain ⟨x, -,h2⟩:=List.mem_flatMap.1 hu;exact b54 x u h2
 rw [<-uA] at hl⊢;have hok:=hG.ok;have hnil:=g7.nil w 67 6;refine hh7 h hX hG hrd hone hok hnil fun H HX HG gG aI bY jo=> ?_;clear h hX hG hrd hone hok hnil qy htc uA
 go_enter Tryz.func19,Tryz.ntmps19
 go_wp2_with ((with_reducible refine l6 (.const (.slice none 0 0)) (.tmp 6) 51 ?_);refine ⟨rfl,67,6,80,b56,.slice none 0 0,0,[],rfl,jo.out,_,X.length,X.flatMap Pv.cells,rfl,gG.out,aI.out,zo,by unfold maxLen;omega, ?_⟩;intro ad cp w6 hA;rw [Nat.zero_add] at*;rw [List.nil_append] at hA;have HA:=Lib.hid hA;clear hA)
 go_ret;obtain ⟨h1,h2,h3⟩:=HA.out;exact ⟨ad,cp,X,rfl,HX.out,h1,bY.out,h2.mono (fun k _ hk=>by simp [inBlock,Value.ownBlock] at hk)⟩
theorem b3c (h:y7 w0 w ow q a L s c n) (hl:s.told.length<=1000000):Calls Tryz.prog 18 #[.pointer (some ⟨q,0,none⟩)] w fun e w'=>∃(ad:Option Addr) (cp:Nat) (X:List Nv),e= .returned (.slice ad s.told.length cp)/\X.map Nv.s=s.told/\g7 w' 63 7 (.slice ad s.told.length cp) s.told.length (X.flatMap Nv.cells)/\(∀x∈X,b4L w ow x)/\Mod (fun _=>False) w w':=by
 obtain ⟨X,hX,hG⟩:=h.told;obtain ⟨ta,tc,qy,htc⟩:∃a' cc,a.nv= .slice a' X.length cc/\X.length<=cc:=by obtain ⟨-,a,cc,h,h2, -⟩:=hG.sl.rd;exact ⟨a,cc,h,h2⟩
 have uA:X.length=s.told.length:=by rw [<-hX,zz10]
 have q13:w.cell? ⟨q,13,none⟩=some (.slice ta X.length tc):=by rw [<-qy];exact h.side.cellN rfl
 have hrd:=hG.sl.rd;rw [qy] at hrd
 have hone:∀u∈X.flatMap Nv.cells,u.oneCell'=true:=fun u hu=>by
  obtain ⟨x, -,h2⟩:=List.mem_flatMap.1 hu;exact b53 x u h2
 rw [<-uA] at hl⊢;have hok:=hG.ok;have hnil:=g7.nil w 63 7;refine hh7 h hX hG hrd hone hok hnil fun H HX HG gG aI bY jo=> ?_;clear h hX hG hrd hone hok hnil qy htc uA
 go_enter Tryz.func18,Tryz.ntmps18
 go_wp2_with ((with_reducible refine l6 (.const (.slice none 0 0)) (.tmp 6) 52 ?_);refine ⟨rfl,63,7,88,b55,.slice none 0 0,0,[],rfl,jo.out,_,X.length,X.flatMap Nv.cells,rfl,gG.out,aI.out,zo,by unfold maxLen;omega, ?_⟩;intro ad cp w6 hA;rw [Nat.zero_add] at*;rw [List.nil_append] at hA;have HA:=Lib.hid hA;clear hA)
 go_ret;obtain ⟨h1,h2,h3⟩:=HA.out;exact ⟨ad,cp,X,rfl,HX.out,h1,bY.out,h2.mono (fun k _ hk=>by simp [inBlock,Value.ownBlock] at hk)⟩
theorem b41 (X:List Tv):∀u∈X.flatMap Tv.cells,u.oneCell'=true:=fun u hu=>by
 obtain ⟨x, -,h2⟩:=List.mem_flatMap.1 hu;exact x.cells_one u h2
theorem b0E (h:y7 w0 w ow q a L s c n) {t:Int} {who:ByteArray} (ht:wfI t) (hz:who.size<=1000000) (hl:(s.T t who).length<=100000000000):Calls Tryz.prog 23 #[.pointer (some ⟨q,0,none⟩),.int .i64 t,.string who] w fun e w'=>∃(ad:Option Addr) (cp:Nat) (X:List Tv),e= .returned (.slice ad (s.T t who).length cp)/\X.map Tv.t=s.T t who/\g7 w' 79 9 (.slice ad (s.T t who).length cp) (s.T t who).length (X.flatMap Tv.cells)/\(∀x∈X,a3C w ow x)/\Mod (fun _=>False) w w':=by
 obtain ⟨km,fm,hmp, -,hfm⟩:=h.side.trc.mp;obtain ⟨X,hX,hG⟩:=(hfm t who ht hz).sl;obtain ⟨v0,hv0⟩:∃v0,(fm (a0m t who)).getD (.slice none 0 0)=v0:=⟨_,rfl⟩;rw [hv0] at hG;obtain ⟨ta,tc,rfl,htc⟩:=hG.sl.shape;have uA:X.length=(s.T t who).length:=by rw [<-hX,zz10]
 have q5:w.cell? ⟨q,5,none⟩=some (.map (some a.tm)):=h.side.cellN rfl
 have hlk:(Instr.lookup 48 (.map (some a.tm)) (.agg #[.int .i64 t,.string who]) false).run Tryz.prog w= .ok (.slice ta X.length tc) w:=by
  have:=b24 hmp ht hz;rw [hv0] at this;exact this
 have hrd:=hG.sl.rd;have hone:=b41 X;rw [<-uA] at hl⊢;have hok:=hG.ok;have hnil:=g7.nil w 79 9;refine hh8 h hX hG hrd hone hok hnil hmp fun H HX HG gG aI bY jo Io=> ?_;refine hh4 hfm hv0 ht hz fun mE UI Ht Hz=> ?_;clear h hX hG hrd hone hok hnil hmp hfm hv0 ht hz htc uA
 go_enter Tryz.func23,Tryz.ntmps23
 go_wp2_with ((with_reducible refine l6 (.const (.slice none 0 0)) (.tmp 14) 74 ?_);refine ⟨rfl,79,9,104,a6U,.slice none 0 0,0,[],rfl,jo.out,_,X.length,X.flatMap Tv.cells,rfl,gG.out,aI.out,zo,by unfold maxLen;omega, ?_⟩;intro ad cp w6 hA;rw [Nat.zero_add] at*;rw [List.nil_append] at hA;have HA:=Lib.hid hA;clear hA)
 go_ret;obtain ⟨h1,h2,h3⟩:=HA.out;exact ⟨ad,cp,X,rfl,HX.out,h1,bY.out,h2.mono (fun k _ hk=>by simp [inBlock,Value.ownBlock] at hk)⟩
end
end
open Go.RowKit
theorem b3d {N:List (List Int)} (h:NOk N) (m:Nat):(NS.new N).settle m=(0,NS.new N):=by
 cases m with
 |zero=>rfl
 |succ m=>
  have h1:=b2V (s:=NS.new N) (fun i hi=>decide_eq_true hi) h (fun _ _ _=>rfl);unfold NS.settle;rw [h1];rfl
theorem b3e {N:List (List Int)} (h:NOk N) {i j t:Int} (hl:n9 N i j=true) (ht: -1<=t/\t<4):(NS.new N).pick (PO.pick i j t)=(8,NS.new N):=by
 have hr:=h.rng _ _ hl;exact a42 hl ht ⟨decide_eq_true (show i.toNat<N.length by omega),decide_eq_true (show j.toNat<N.length by omega)⟩ rfl
def OvL (w1 wb:World) (ob:Ow) (q t:Nat) (N:List (List Int)) (P:List (Int×Int×Int)) (wr:World):Prop:=∃owr,X1 w1 wr owr q t (NS.new N) (400+2*P.length) 0/\Mov a0n wb ob wr owr
def Ov2 (w1 wb:World) (ob:Ow) (q t:Nat) (N:List (List Int)) (i:Value) (wr:World):Prop:=∃n:Nat,i= .int .i64 n/\n<=N.length/\OvL w1 wb ob q t N (r7 N n) wr
def Ov3 (w1 wb:World) (ob:Ow) (q t:Nat) (N:List (List Int)) (n:Nat) (i:Value) (wr:World):Prop:=∃m:Nat,i= .int .i64 m/\m<=(m5 N n).length/\OvL w1 wb ob q t N (r7 N n++y6 N n m) wr
def Ov4 (w1 wb:World) (ob:Ow) (q t:Nat) (N:List (List Int)) (n m:Nat) (y:Int) (i:Value) (wr:World):Prop:=∃u:Nat,i= .int .i64 ((u:Int) - 1)/\u<=5/\OvL w1 wb ob q t N (r7 N n++y6 N n m++I6 n y u) wr
theorem b3f (r:Nat) (h:r<6):0<(a0j r).length:=by
 have h1:r=0\/r=1\/r=2\/r=3\/r=4\/r=5:=zo
 rcases h1 with rfl|rfl|rfl|rfl|rfl|rfl<;>decide
theorem a8q (w:World) (hl:L4 w w) (shape:Int):Calls Tryz.prog 6 #[.int .i64 shape] w fun e w'=>e= .returned (.bool true)/\Mod (fun _=>False) w w':=by
 have hfit:=b3a w hl;have htr:=fun y=>b0D y shape;refine hh3 hfit htr hl fun Nj Lb Hl=> ?_;clear hfit htr hl
 go_enter Tryz.func6,Tryz.ntmps6
 go_wp2_with fail
 refine Nj.out.mono ?_;rintro e wa ⟨rfl,ko⟩;have Ae:=zh ko;clear ko
 go_wp2_with fail
 refine (Lb.out wa).mono ?_;rintro e w1 ⟨t,r,hr,rfl,hT,hm1⟩;obtain ⟨N,hN⟩:∃N,a0j r=N:=⟨_,rfl⟩;have hok:=a89 r hr;have hpos:=b3f r hr;rw [hN] at hT hok hpos;have hw1:Mod (fun _=>False) w w1:=Ae.out.trans hm1 zi;have ho0:Owd w w (fun _=>0):=a0Y Hl.out;have ho1:Owd w1 w1 (fun _=>0):=a0Y ((Mov.of ho0 hw1 (fun _=>False)).owd ho0 id).laid;have hnn:=a9a w1 w1 (fun _=>0) ho1 (Mod.refl _ w1) t N hT hok hpos;have rO:=hok.len;refine hh8 hT hm1 hok hpos hw1 ho0 ho1 hnn fun HT dn bY lq gW IC VB wR=> ?_;refine hh1 hN fun HN=> ?_;clear hT hm1 hok hpos hw1 ho0 ho1 hnn hN
 go_wp2_with fail
 refine wR.out.mono ?_;rintro e w2 ⟨q,o2,rfl,hX2, -⟩;have hidle:=b3d bY.out 10;have hse:=a45 hX2 10 zo (by have:=U8 bY.out;rw [hidle];show 0+2*(D1 N).length*(0+1)<=39000;omega) zo;rw [hidle] at hse
 have hle2:Calls Tryz.prog 13 #[.pointer (some ⟨q,0,none⟩)] w2 fun e w'=>e= .returned (.int .i64 0)/\w2=w':=by
  obtain ⟨a,L,c,n,hA, -⟩:=hX2.mem;exact b4Y hA
 refine hh4 hX2 hidle hse hle2 fun rq Qj Na qH=> ?_;clear hX2 hidle hse hle2
 go_wp2_with fail
 refine qH.out.mono ?_;rintro e w9 ⟨rfl,h9⟩;subst h9
 go_wp2_with fail
 refine Na.out.mono ?_;rintro e w3 ⟨rfl,o3,eY, -⟩;have eY:X1 w1 w3 o3 q t (NS.new N) 400 0:=eY.mono (by have:=U8 bY.out;show 0+2*(D1 N).length*(0+1)<=400;omega) (Nat.le_refl _)
 have EW:∀y,Mod (fun _=>False) w3 y->Calls Tryz.prog 19 #[.pointer (some ⟨q,0,none⟩)] y fun e w'=>∃(ad:Option Addr) (cp:Nat),e= .returned (.slice ad 0 cp)/\Mod (fun _=>False) w3 w':=fun y hy=>by
  obtain ⟨a,L,c,n,hA, -⟩:=(eY.still hy).mem;exact (b3b hA (Nat.zero_le _)).mono fun e w' ⟨ad,cp,X,he,_,_,_,hm⟩=>⟨ad,cp,he,hy.trans hm zi⟩
 have hsu:∀y,Mod (fun _=>False) w3 y->Calls Tryz.prog 18 #[.pointer (some ⟨q,0,none⟩)] y fun e w'=>∃(ad:Option Addr) (cp:Nat),e= .returned (.slice ad 0 cp)/\Mod (fun _=>False) w3 w':=fun y hy=>by
  obtain ⟨a,L,c,n,hA, -⟩:=(eY.still hy).mem;exact (b3c hA (Nat.zero_le _)).mono fun e w' ⟨ad,cp,X,he,_,_,_,hm⟩=>⟨ad,cp,he,hy.trans hm zi⟩
 have hup:∀y,Mod (fun _=>False) w3 y->∀b:Int,¬(0<=b/\b<N.length)->Calls Tryz.prog 16 #[.pointer (some ⟨q,0,none⟩),.int .i64 b] y fun e w'=>e= .returned (.bool false)/\y=w':=fun y hy b hb=>by
  obtain ⟨a,L,c,n,hA, -⟩:=(eY.still hy).mem;have h1:=b28 hA b;rw [show decide (0<=b/\b<(NS.new N).N.length)=false from decide_eq_false hb,Bool.false_and] at h1;exact h1
 have htn:∀y,Mod (fun _=>False) w3 y->Calls Tryz.prog 11 #[.pointer (some ⟨q,0,none⟩)] y fun e w'=>e= .returned (.pointer (some ⟨t,0,none⟩))/\y=w':=fun y hy=>by
  obtain ⟨a,L,c,n,hA,htp, -⟩:=(eY.still hy).mem;have h1:=a7b hA;rw [htp] at h1;exact h1
 have htl:∀y,Mod (fun _=>False) w3 y->Calls Tryz.prog 12 #[.pointer (some ⟨t,0,none⟩)] y fun e w'=>e= .returned (.int .i64 N.length)/\y=w':=fun y hy=>by
  obtain ⟨a,L,c,n,hA,htp, -⟩:=(eY.still hy).mem;exact (a5G y t N (HT.out.mod hA.base)).mono fun e w' ⟨he,hw'⟩=>⟨he,hw'.symm⟩
 have hrel:Ov2 w1 w3 o3 q t N (.int .i64 0) w3:=⟨0,rfl,Nat.zero_le _,o3,eY,Mov.refl eY.own⟩;refine hh7 eY EW hsu hup htn htl hrel fun IB Mo dM MH Bq Fe uF=> ?_;clear eY EW hsu hup htn htl hrel
 go_wp2_with fail
 refine (Mo.out w3 (Mod.refl _ _)).mono ?_;rintro e w4 ⟨ad4,cp4,rfl,aM⟩;have fu:=zh aM;clear aM
 go_wp2_with fail
 refine (dM.out w4 fu.out).mono ?_;rintro e w5 ⟨ad5,cp5,rfl,bR⟩;have gD:=zh bR;clear bR
 go_wp2_with fail
 refine (MH.out w5 gD.out (-1) zo).mono ?_;rintro e w9 ⟨rfl,h9⟩;subst h9
 go_wp2_with fail
 refine (Bq.out w5 gD.out).mono ?_;rintro e w9 ⟨rfl,h9⟩;subst h9
 go_wp2_with fail
 refine (Fe.out w5 gD.out).mono ?_;rintro e w9 ⟨rfl,h9⟩;subst h9
 go_wp2_with fail
 refine (MH.out w5 gD.out N.length zo).mono ?_;rintro e w9 ⟨rfl,h9⟩;subst h9
 go_wp2_with fail
 refine (Bq.out w5 gD.out).mono ?_;rintro e w9 ⟨rfl,h9⟩;subst h9
 go_wp2_with fail
 refine (Fe.out w5 gD.out).mono ?_;rintro e w9 ⟨rfl,h9⟩;subst h9;have mW:=IB.out.still gD.out;have wU:Ov2 w1 w5 o3 q t N (.int .i64 0) w5:=⟨0,rfl,Nat.zero_le _,o3,mW,Mov.refl mW.own⟩;have Qf:(N.length:Int)<=6:=zo
 refine hh2 mW wU fun Qg Gh=> ?_;clear mW wU
 go_wp2_with fail
 go_loopw [47] (fun i wr=>Ov2 w1 w5 o3 q t N i wr) (fun i _=>N.length - (intOf i).toNat)
 case atStart=>exact Gh.out
 case round=>
  obtain ⟨n,rfl,hn,o6,rP,cz⟩:=hrel;by_cases hlt:n<N.length
  ·have hlt':(n:Int)<N.length:=zo
   obtain ⟨wq,rfl⟩:∃y:World,y=wr:=⟨_,rfl⟩
   obtain ⟨hu,hkn,Gi,hnr⟩:Calls Tryz.prog 16 #[.pointer (some ⟨q,0,none⟩),.int .i64 n] wq (fun e w'=>e= .returned (.bool true)/\wq=w')/\Calls Tryz.prog 15 #[.pointer (some ⟨q,0,none⟩),.int .i64 n] wq (fun e w'=>e= .returned (.int .i64 0)/\wq=w')/\
    Calls Tryz.prog 11 #[.pointer (some ⟨q,0,none⟩)] wq (fun e w'=>e= .returned (.pointer (some ⟨t,0,none⟩))/\wq=w')/\Calls Tryz.prog 25 #[.pointer (some ⟨t,0,none⟩),.int .i64 n] wq fun e w'=>∃v',e= .returned v'/\g7 w' 3 1 v' (m5 N n).length (F9 (m5 N n))/\Mod (fun _=>False) wq w'/\∀b,v'.ownBlock=some b->wq.heap.size<=b:=by
    obtain ⟨a,L,c,n',hA,htp, -, -⟩:=rP.mem;have h1:=b28 hA n;rw [show decide (0<=(n:Int)/\(n:Int)<(NS.new N).N.length)=true from decide_eq_true ⟨zo,hlt'⟩,Bool.true_and,show (NS.new N).up (n:Int).toNat=true from decide_eq_true zo] at h1;have h2:=a7b hA;rw [htp] at h2;exact ⟨h1,a47 hA hlt,h2,a3T wq t N n (HT.out.mod hA.base) zo bY.out.each⟩
   refine hh6 rP cz hu hkn Gi hnr fun FP iU Hu Ig Nk yz=> ?_;clear rP cz hu hkn Gi hnr
   go_wp2_with fail
   refine (Hu.out).mono ?_;rintro e w9 ⟨rfl,h9⟩;subst h9
   go_wp2_with fail
   refine (Ig.out).mono ?_;rintro e w9 ⟨rfl,h9⟩;subst h9
   go_wp2_with fail
   refine (Nk.out).mono ?_;rintro e w9 ⟨rfl,h9⟩;subst h9
   go_wp2_with fail
   refine yz.out.mono ?_;rintro e w7 ⟨v',rfl,hv',bP,hfr⟩;obtain ⟨nr,dV⟩:∃l,m5 N n=l:=⟨_,rfl⟩;rw [dV] at hv';have hnl:nr.length<=6:=by rw [<-dV];exact bY.out.nl n
   obtain ⟨va,vc,rfl,lI⟩:∃a cc,v'= .slice a nr.length cc/\nr.length<=cc:=by obtain ⟨-,a,cc,h,h2, -⟩:=hv'.rd;exact ⟨a,cc,h,h2⟩
   have yP:(nr.length:Int)<=vc:=zo
   have wV:=FP.out.still bP;have jv:Ov3 w1 w7 o6 q t N n (.int .i64 0) w7:=⟨0,rfl,Nat.zero_le _,o6,by rw [show y6 N n 0=[] from rfl,zz11];exact wV,Mov.refl wV.own⟩;have iW:Mov a0n w5 o3 w7 o6:=iU.out.trans ((Mov.of FP.out.own bP (fun _=>False)).mono (fun _ h=>h.elim));have hfr2:∀b,(Value.slice va nr.length vc).ownBlock=some b->o6 b=0:=fun b hb=>FP.out.own.zero (hfr b hb);refine hh8 dV hv' wV jv iW hfr2 hfr bP fun bW MJ VH qQ yf qR aW nG=> ?_;clear dV hv' wV jv iW hfr2 hfr bP lI
   go_wp2_with fail
   go_loopw [65] (fun i wr=>Ov3 w1 w7 o6 q t N n i wr) (fun i _=>nr.length - (intOf i).toNat)
   case atStart=>exact qQ.out
   case round=>
    obtain ⟨m3,rfl,au,o8,jZ,dC⟩:=hrel;rw [bW.out] at au;by_cases hlt3:m3<nr.length
    ·have wM:(m3:Int)<nr.length:=zo
     obtain ⟨wz,rfl⟩:∃y:World,y=wr:=⟨_,rfl⟩;obtain ⟨y,hy⟩:∃z,nr[m3]? =some z:=⟨_,zz5 hlt3⟩
     have hl2:n9 N n y=true:=by
      have h1:=zz8 hy;rw [<-bW.out] at h1;exact I5 h1
     have kH:=(bY.out.wf _ _ hl2).2;have hrd:=(MJ.out.mod dC.md (fun b hb hf=>b2S (by have hf':a0n (o6 b):=hf;rwa [qR.out b hb] at hf'))).rd;obtain ⟨gv,ov,rfl,hel⟩:=a0H (j:=m3) (u:= .int .i64 y) hrd (by rw [R6 hy]);have eO:Ov4 w1 wz o8 q t N n m3 y (.int .i64 (-1)) wz:=⟨0,rfl,Nat.zero_le _,o8,by rw [show I6 n y 0=[] from rfl,zz11];exact jZ,Mov.refl jZ.own⟩;refine hh7 jZ dC hy hl2 kH hrd eO fun Qk oO Hy jF wN gG jw=> ?_;clear jZ dC hy hl2 kH hrd eO
     go_wp2_with fail
     go_loopw [7] (fun i wr=>Ov4 w1 wz o8 q t N n m3 y i wr) (fun i _=>(4 - intOf i).toNat)
     case atStart=>exact jw.out
     case round=>
      obtain ⟨u,rfl,nK,o9,wW,iD⟩:=hrel;by_cases iF:u<5
      ·have wO:((u:Int) - 1)<4:=zo
       obtain ⟨wk,rfl⟩:∃y:World,y=wr:=⟨_,rfl⟩;have hbd:=a1o (y:=y) hlt (by rw [bW.out];exact hlt3) iF;have iG:=U8 bY.out;have hwn:wfI (n:Int):=F2 zo;have mR:wfI ((u:Int) - 1):=F2 zo
       obtain ⟨ak,Ql,hlo⟩:Calls Tryz.prog 26 #[.pointer (some ⟨q,0,none⟩),.int .i64 n,.int .i64 y,.int .i64 ((u:Int) - 1)] wk (fun e w'=>e= .returned (.int .i64 0)/\wk=w')/\Calls Tryz.prog 27 #[.pointer (some ⟨q,0,none⟩),.int .i64 n,.int .i64 y,.int .i64 ((u:Int) - 1)] wk (fun e w'=>e= .returned (.int .i64 0)/\wk=w')/\
        Calls Tryz.prog 28 #[.pointer (some ⟨q,0,none⟩),.int .i64 n,.int .i64 y,.int .i64 ((u:Int) - 1)] wk (fun e w'=>e= .returned (.int .i64 0)/\wk=w'):=by
        obtain ⟨a,L,c,n',hA, -⟩:=wW.mem;refine ⟨(a48 hA hwn wN.out mR).mono fun e w' ⟨he,hw⟩=>⟨?_,hw⟩,(b0B hA hwn wN.out mR).mono fun e w' ⟨he,hw⟩=>⟨?_,hw⟩,(b29 hA hwn wN.out mR).mono fun e w' ⟨he,hw⟩=>⟨?_,hw⟩⟩<;>rw [he]<;>split<;>rfl
       have hdo:=a3W wW zo zo (PO.pick n y ((u:Int) - 1)) (.inl rfl) mR hwn wN.out [.int .i64 4,.int .i64 ((u:Int) - 1),.string ⟨#[]⟩,.int .i64 0,.int .i64 0,.string ⟨#[]⟩,.int .i64 0,.string ⟨#[]⟩,.slice none 0 0,.string ⟨#[]⟩,.int .i64 0,.string ⟨#[]⟩,.slice none 0 0,.string ⟨#[]⟩,.slice none 0 0,.int .i64 0,.int .i64 n,.int .i64 y] rfl rfl rfl rfl rfl;rw [b3e bY.out jF.out zo] at hdo
       have hlen1:(r7 N n++y6 N n m3++I6 n y (u+1)).length=(r7 N n++y6 N n m3++I6 n y u).length+1:=by
        rw [a0b iF,<-zz12,zz4];rfl
       refine hh8 wW iD hbd iG hwn mR ak Ql fun VI AO LD FN XZ Ya aB VJ=> ?_;refine hh3 hlo hdo hlen1 fun BR FO qV=> ?_;clear wW iD hbd iG hwn mR ak Ql hlo hdo hlen1
       go_wp2_with fail
       refine (aB.out).mono ?_;rintro e w9 ⟨rfl,h9⟩;subst h9
       go_wp2_with fail
       refine (VJ.out).mono ?_;rintro e w9 ⟨rfl,h9⟩;subst h9
       go_wp2_with fail
       refine (BR.out).mono ?_;rintro e w9 ⟨rfl,h9⟩;subst h9
       go_wp2_with fail
       refine FO.out.mono ?_;rintro e w6 ⟨rfl,o10,zV,zW⟩;have hl1:=qV.out;have aH:Ov4 w1 wz o8 q t N n m3 y (.int .i64 u) w6:=⟨u+1,congrArg (Value.int .i64) zo,zo,o10,zV.mono zo (Nat.le_refl _),AO.out.trans zW⟩;refine hh4 zV zW aH hl1 fun VK VL bn Az=> ?_;clear zV zW aH hl1
       go_wp2_with fail
       go_roundw
       case rel=>exact bn.out
       case measure=>simp [intOf];omega
      obtain rfl:u=5:=zo
      have hP:r7 N n++y6 N n m3++I6 n y 5=r7 N n++y6 N n (m3+1):=by
       rw [a1n (by rw [bW.out];exact Hy.out),zz12];rfl
      rw [hP] at wW;have aH:Ov3 w1 w7 o6 q t N n (.int .i64 ((m3+1:Nat):Int)) wr:=⟨m3+1,rfl,by rw [bW.out];exact hlt3,o9,wW,oO.out.trans iD⟩;refine hh4 wW iD hP aH fun VI AO HP bn=> ?_;clear wW iD hP aH
      go_wp2_with fail
      go_roundw
      case rel=>exact bn.out
      case measure=>simp [intOf];omega
    obtain rfl:m3=nr.length:=zo
    have hP:r7 N n++y6 N n nr.length=r7 N (n+1):=by
     rw [<-bW.out,a2g,U9]
    rw [hP] at jZ;have aH:Ov2 w1 w5 o3 q t N (.int .i64 ((n+1:Nat):Int)) wr:=⟨n+1,rfl,hlt,o8,jZ,yf.out.trans dC⟩;refine hh4 jZ dC hP aH fun Qk oO HP bn=> ?_;clear jZ dC hP aH
    go_wp2_with fail
    go_roundw
    case rel=>exact bn.out
    case measure=>simp [intOf];omega
  obtain rfl:n=N.length:=zo
  have Qm:=a3X rP 8 zo [.int .i64 8,.int .i64 0,.string ⟨#[]⟩,.int .i64 0,.int .i64 0,.string ⟨#[]⟩,.int .i64 0,.string ⟨#[]⟩,.slice none 0 0,.string ⟨#[]⟩,.int .i64 0,.string ⟨#[]⟩,.slice none 0 0,.string ⟨#[]⟩,.slice none 0 0,.int .i64 0,.int .i64 0,.int .i64 0] rfl rfl;refine hh3 rP cz Qm fun FP iU VM=> ?_;clear rP cz Qm
  go_wp2_with fail
  refine VM.out.mono ?_;rintro e w6 ⟨rfl,o7,wV, -⟩;have Qn:=a3X wV (-1) zo [.int .i64 (-1),.int .i64 0,.string ⟨#[]⟩,.int .i64 0,.int .i64 0,.string ⟨#[]⟩,.int .i64 0,.string ⟨#[]⟩,.slice none 0 0,.string ⟨#[]⟩,.int .i64 0,.string ⟨#[]⟩,.slice none 0 0,.string ⟨#[]⟩,.slice none 0 0,.int .i64 0,.int .i64 0,.int .i64 0] rfl rfl;refine hh2 wV Qn fun VH VN=> ?_;clear wV Qn
  go_wp2_with fail
  refine VN.out.mono ?_;rintro e w7 ⟨rfl,o8,jZ, -⟩;obtain ⟨a,L,c,n',hA, -⟩:=jZ.mem;have Qo:=gW.out.trans hA.base zi
  have htc:Calls Tryz.prog 23 #[.pointer (some ⟨q,0,none⟩),.int .i64 0,.string ⟨#[97]⟩] w7 fun e w'=>∃(ad:Option Addr) (cp:Nat),e= .returned (.slice ad 0 cp)/\Mod (fun _=>False) w7 w':=
   (b0E hA (t:=0) (who:=⟨#[97]⟩) (F2 zo) zd (Nat.zero_le _)).mono fun e w' ⟨ad,cp,X,he,_,_,_,hm⟩=>⟨ad,cp,he,hm⟩
  have hwz:∀y,Mod (fun _=>False) w7 y->Calls Tryz.prog 26 #[.pointer (some ⟨q,0,none⟩),.int .i64 0,.int .i64 0,.int .i64 0] y fun e w'=>e= .returned (.int .i64 0)/\y=w':=fun y hy=>by
   have h1:=a48 (hA.still jZ.own jZ.wi.pos (Mov.of jZ.own hy (fun _=>False))) (fr:=0) (tw:=0) (te:=0) (F2 zo) (F2 zo) (F2 zo)
   have e1:M4 (NS.new N).N 0 0 0=false:=by
    unfold M4;rw [show n9 (NS.new N).N 0 0=false from bY.out.ir 0];rfl
   rw [e1] at h1;exact h1
  refine hh5 jZ hA Qo htc hwz fun Qk HA VO VP aX=> ?_;clear jZ hA Qo htc hwz
  go_wp2_with fail
  refine VP.out.mono ?_;rintro e w8 ⟨ad8,cp8,rfl,dC⟩;have oO:=zh dC;clear dC
  go_wp2_with fail
  refine (aX.out w8 oO.out).mono ?_;rintro e w9 ⟨rfl,h9⟩;subst h9
  go_wp2_with fail
  go_ret;exact ⟨rfl,VO.out.trans oO.out zi⟩
section
open Go.RowKit Go.Lib
theorem b6U {a b:Bool} (h:a=true) (k:b=true):(a&&b)=true:=by subst h;subst k;rfl
theorem b58 {w:World} (h:VarReads Tryz.prog w "internal/strconv.uint64pow10" Rows.laid_internal_strconv_uint64pow10):Lib.TabIs Tryz.prog w "internal/strconv.uint64pow10" .u64 Lib.pow10Tab:=by
 obtain ⟨g,t,cs,fuel,p,hg,hty,hvar,hd⟩:=h
 obtain rfl:=Option.some.inj ((show Tryz.prog.globalNamed "internal/strconv.uint64pow10" =some 3 by kernel_rfl).symm.trans hg)
 obtain rfl:=Option.some.inj ((show (Tryz.prog.globals[(3:Nat)]?).map (·.type)=some 307 by kernel_rfl).symm.trans hty);have e:(Rows.laid_internal_strconv_uint64pow10:DataW Unit)=tabData .u64 Lib.pow10Tab:=zk
 rw [e] at hd;unfold TabIs;rw [hvar,<-cells_of_tab Tryz.underlying307 Tryz.underlying179 zk zk hd]
theorem b42:Go.Pinned.pow10Rows.length=696:=zk
theorem b59 {w:World} (h:VarReads Tryz.prog w "internal/strconv.pow10Tab" Rows.laid_internal_strconv_pow10Tab):
 ∀i,i<696->w.cell? ⟨7,i*2,none⟩=some (.int .u64 ((pw i).1:Int))/\w.cell? ⟨7,i*2+1,none⟩=some (.int .u64 ((pw i).2:Int)):=by
 obtain ⟨g,t,cs,fuel,p,hg,hty,hvar,hd⟩:=h
 obtain rfl:=Option.some.inj ((show Tryz.prog.globalNamed "internal/strconv.pow10Tab" =some 7 by kernel_rfl).symm.trans hg)
 obtain rfl:=Option.some.inj ((show (Tryz.prog.globals[(7:Nat)]?).map (·.type)=some 347 by kernel_rfl).symm.trans hty);intro i hi;obtain ⟨fuel',d,q,hdi,he⟩:=array_elem (ds:=Go.Pinned.pow10Rows.map fun x=> .agg [.lit (.int .u64 x.1),.lit (.int .u64 x.2)]) Tryz.underlying347 hd i hi
 have hpi:Go.Pinned.pow10Rows[i]? =some (pw i):=by
  have hl:i<Go.Pinned.pow10Rows.length:=by rw [b42];exact hi
  unfold pw;rw [List.getD_eq_getElem?_getD,zz5 hl];rfl
 rw [List.getElem?_map,hpi] at hdi;obtain rfl:=(Option.some.inj hdi).symm;have hc2:Tryz.prog.cellsOf 346=2:=zk
 have hc1:Tryz.prog.cellsOf 179=1:=zk
 rw [hc2] at he
 have hcs:=ints_of_struct (zs:=[((pw i).1:Int),((pw i).2:Int)]) Tryz.underlying346 (fun j f hj=>by
  match j,hj with
  |0,hj=>simp at hj;subst hj;exact ⟨Tryz.underlying179,rfl,hc1⟩
  |1,hj=>simp at hj;subst hj;exact ⟨Tryz.underlying179,rfl,hc1⟩
  |j+2,hj=>simp at hj) (by rw [hc2];rfl) he
 have e0:=congrArg (·[0]?) hcs;have e1:=congrArg (·[1]?) hcs;simp only [List.getElem?_take,List.getElem?_drop] at e0 e1;constructor
 ·rw [World.var?_cell hg hvar (i*2),<-Array.getElem?_toList];simpa using e0
 rw [World.var?_cell hg hvar (i*2+1),<-Array.getElem?_toList];simpa using e1
theorem b3g {w:World} (h:VarReads Tryz.prog w "gazette/cond.words" Rows.laid_gazette_cond_words):∀i s,a3l[i]? =some s→w.cell? ⟨1,i,none⟩=some (.string (str s)):=by
 obtain ⟨g,t,cs,fuel,p,hg,hty,hvar,hd⟩:=h
 obtain rfl:=Option.some.inj ((show Tryz.prog.globalNamed "gazette/cond.words" =some 1 by kernel_rfl).symm.trans hg)
 obtain rfl:=Option.some.inj ((show (Tryz.prog.globals[(1:Nat)]?).map (·.type)=some 253 by kernel_rfl).symm.trans hty);have e:(Rows.laid_gazette_cond_words:DataW Unit)= .agg (a3l.map fun s=> .lit (.string s)):=rfl;rw [e] at hd;intro i s hs;have hi:i<8:=(zz6 hs).1;obtain ⟨fuel',d,q,hdi,he⟩:=array_elem (ds:=a3l.map fun s=> .lit (.string s)) Tryz.underlying253 hd i hi;rw [List.getElem?_map,hs] at hdi;obtain rfl:=(Option.some.inj hdi).symm;obtain ⟨z,e1,e2, -⟩:=DataW.trod_string Tryz.underlying9 he;have hc1:Tryz.prog.cellsOf 9=1:=zk
 rw [hc1] at e1;have e3:=congrArg (·[0]?) e1;simp only [List.getElem?_take,List.getElem?_drop] at e3;rw [World.var?_cell hg hvar i,<-Array.getElem?_toList]
 have e4:z=str s:=by
  have h1:=congrArg Prod.fst e2;simp only [DataW.lit.injEq,Lit.string.injEq] at h1;apply ByteArray.ext;apply Array.toList_inj.1;simpa [str] using h1.symm
 simpa [e4] using e3
theorem b6a {w:World} (h3:VarReads Tryz.prog w "unicode/utf8.first" Rows.laid_unicode_utf8_first) (h4:VarReads Tryz.prog w "unicode/utf8.acceptRanges" Rows.laid_unicode_utf8_acceptRanges):Lib.Utf8Tabs 9 10 w:=by
 have e3:(Rows.laid_unicode_utf8_first:DataW Unit)=tabData .u8 firstTab:=Pinned.utf8First_eq;have e4:(Rows.laid_unicode_utf8_acceptRanges:DataW Unit)=acceptData:=zk
 rw [e3] at h3;rw [e4] at h4;have zH:Tryz.prog.cellsOf 5=1:=zk
 refine ⟨fun c hc=> ?_,fun i hi=> ?_⟩
 ·obtain ⟨g,t,cs,fuel,p,hg,hty,hvar,hd⟩:=h3
  obtain rfl:=Option.some.inj ((show Tryz.prog.globalNamed "unicode/utf8.first" =some 9 by kernel_rfl).symm.trans hg)
  obtain rfl:=Option.some.inj ((show (Tryz.prog.globals[(9:Nat)]?).map (·.type)=some 356 by kernel_rfl).symm.trans hty);have hcs:=cells_of_tab Tryz.underlying356 Tryz.underlying5 zk zk hd;have:=World.var?_cell hg hvar c;rw [this,<-Array.getElem?_toList,hcs];simp [firstTab,hc]
 ·obtain ⟨g,t,cs,fuel,p,hg,hty,hvar,hd⟩:=h4
  obtain rfl:=Option.some.inj ((show Tryz.prog.globalNamed "unicode/utf8.acceptRanges" =some 10 by kernel_rfl).symm.trans hg)
  obtain rfl:=Option.some.inj ((show (Tryz.prog.globals[(10:Nat)]?).map (·.type)=some 359 by kernel_rfl).symm.trans hty);obtain ⟨fuel',d,q,hdi,he⟩:=array_elem Tryz.underlying359 hd i hi;simp only [List.getElem?_map,List.getElem?_range hi,Option.map_some,Option.some.injEq] at hdi;subst hdi;have hc2:Tryz.prog.cellsOf 358=2:=zk
  rw [hc2] at he
  have hcs:=ints_of_struct Tryz.underlying358 (fun j f hj=>by
   match j,hj with
   |0,hj=>simp at hj;subst hj;exact ⟨Tryz.underlying5,rfl,zH⟩
   |1,hj=>simp at hj;subst hj;exact ⟨Tryz.underlying5,rfl,zH⟩
   |j+2,hj=>simp at hj) (by rw [hc2];rfl) he
  have e0:=congrArg (·[0]?) hcs;have e1:=congrArg (·[1]?) hcs;simp only [List.getElem?_take,List.getElem?_drop] at e0 e1;constructor
  ·rw [World.var?_cell hg hvar (2*i),<-Array.getElem?_toList];simpa [Nat.mul_comm] using e0
  rw [World.var?_cell hg hvar (2*i+1),<-Array.getElem?_toList];simpa [Nat.mul_comm] using e1
theorem b6b {w:World} (h20:VarReads Tryz.prog w "strconv.isPrint16" Rows.laid_strconv_isPrint16) (h21:VarReads Tryz.prog w "strconv.isNotPrint16" Rows.laid_strconv_isNotPrint16)
 (h22:VarReads Tryz.prog w "strconv.isPrint32" Rows.laid_strconv_isPrint32) (h23:VarReads Tryz.prog w "strconv.isNotPrint32" Rows.laid_strconv_isNotPrint32):
 Lib.PrintTabsAt 11 12 13 14 goPrintTabs w:=by
 have e1:(Rows.laid_strconv_isPrint16:DataW Unit)=sliceData .u16 goPrintTabs.p16:=Pinned.isPrint16_eq;have e2:(Rows.laid_strconv_isNotPrint16:DataW Unit)=sliceData .u16 goPrintTabs.n16:=Pinned.isNotPrint16_eq;have e3:(Rows.laid_strconv_isPrint32:DataW Unit)=sliceData .u32 goPrintTabs.p32:=Pinned.isPrint32_eq;have e4:(Rows.laid_strconv_isNotPrint32:DataW Unit)=sliceData .u16 goPrintTabs.n32:=Pinned.isNotPrint32_eq;rw [e1] at h20;rw [e2] at h21;rw [e3] at h22;rw [e4] at h23;have hc16:Tryz.prog.cellsOf 360=1:=zk
 have hc32:Tryz.prog.cellsOf 177=1:=zk
 refine ⟨tabSlice_of_reads zk zk Tryz.underlying361 Tryz.underlying360 hc16 zd h20,tabSlice_of_reads zk zk Tryz.underlying361 Tryz.underlying360 hc16 zd h21,
  tabSlice_of_reads zk zk Tryz.underlying363 Tryz.underlying177 hc32 zd h22,tabSlice_of_reads zk zk Tryz.underlying361 Tryz.underlying360 hc16 zd h23, ?_, ?_, ?_⟩<;>decide
def b5s:List (String×DataW Unit):=Rows.overlayRulesRow.laid
theorem b43 {w:World} (h:laidMet Tryz.prog b5s w):a3m w where
 num:=⟨b58 (laidMet.reads h (zz8 (i:=3) rfl)),b59 (laidMet.reads h (zz8 (i:=7) rfl))⟩
 prt:=b6b (laidMet.reads h (zz8 (i:=11) rfl)) (laidMet.reads h (zz8 (i:=9) rfl)) (laidMet.reads h (zz8 (i:=12) rfl)) (laidMet.reads h (zz8 (i:=10) rfl))
 utf:=b6a (laidMet.reads h (zz8 (i:=13) rfl)) (laidMet.reads h (zz8 (i:=4) rfl))
 words:=b3g (laidMet.reads h (zz8 (i:=5) rfl))
theorem b0F {w:World} (h:laidMet Tryz.prog b5s w):16<=w.heap.size:=by
 obtain ⟨g,t,cs,fuel,p,hg,hty,hvar,hd⟩:=laidMet.reads h (zz8 (i:=8) rfl)
 obtain rfl:=Option.some.inj ((show Tryz.prog.globalNamed "strconv.isGraphic" =some 15 by kernel_rfl).symm.trans hg)
 unfold World.var? at hvar;rw [hg] at hvar;simp only [Option.bind_some] at hvar
 cases hb:w.heap[(15:Nat)]? with
 |none=>rw [hb] at hvar;cases hvar
 |some o=>
  have:=(zz7 hb).1;omega
end
end Go.Proofs.YtdmjoodhaeijmaaGreatDoor
