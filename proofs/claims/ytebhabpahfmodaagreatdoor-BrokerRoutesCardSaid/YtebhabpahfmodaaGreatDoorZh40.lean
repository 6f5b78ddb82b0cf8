/- Lemmas. -/
import Derived.Test.YtebhabpahfmodaaGreatDoorZh36
import Derived.Test.YtebhabpahfmodaaGreatDoorZh32
set_option maxHeartbeats 40000000
set_option maxRecDepth 20000
namespace Go.Proofs.YtebhabpahfmodaaGreatDoor
open Go.RowKit
def O6 (w0:World) (q c:Nat) (h2:2<=c):B6 w0 q where
 σ:=List Sd×List Hn
 inv:=fun w ow s=>OtI w ow c q s.1 s.2
 tg:=fun t=>t=c
 t2:=fun t h=>h▸h2
 cnt:=fun s=>s.1.length+s.2.length
 okTo:=fun _ _=>True
 send:=fun s td ten m=>(s.1++[(td,ten,m)],s.2)
 shw:=fun s ten who t=>(s.1,s.2++[(ten,who,t)])
 csend:=fun s td ten m=>by show (s.1++[(td,ten,m)]).length+s.2.length<=s.1.length+s.2.length+1;rw [zz4,List.length_singleton];omega
 cshw:=fun s ten who t=>by show s.1.length+(s.2++[(ten,who,t)]).length<=s.1.length+s.2.length+1;rw [zz4,List.length_singleton];omega
 mov:=fun h _ s h0 ht=>OtI.mov h s h0 (fun hf=>ht _ hf rfl)
 hsend:=fun {w ow s td ten x} hw h hc _ hx=>b4T w0 w ow c q s.1 s.2 hw h2 h zo td ten x hx
 hshw:=fun {w ow s ten who x} hw h hc _ _ hx=>b4U w0 w ow c q s.1 s.2 hw h2 h zo ten who x hx
theorem b4X (S:List Sd) (H:List Hn) (l:List Sd):List.foldl (fun (s:List Sd×List Hn) (x:Sd)=>(s.1++[(x.1,x.2.1,x.2.2)],s.2)) (S,H) l=(S++l,H):=by
 induction l generalizing S with
 |nil=>rw [List.foldl_nil,zz11]
 |cons x l ih=>
  rw [List.foldl_cons];have:=ih (S++[(x.1,x.2.1,x.2.2)]);rw [zz12] at this;exact this
theorem a1S {w0:World} {q c:Nat} {h2:2<=c} (S:List Sd) (H:List Hn) (l:List Sd):(O6 w0 q c h2).sends (S,H) l=(S++l,H):=b4X S H l
theorem OtI.new {w0 w:World} {ow:Ow} {c:Nat} (hw:Owd w0 w ow):OtI (w.alloc (.cells #[.slice none 0 0,.slice none 0 0] 49)) (r9 ow w.heap.size c) c w.heap.size [] []/\Mov (fun t=>t=c) w ow (w.alloc (.cells #[.slice none 0 0,.slice none 0 0] 49)) (r9 ow w.heap.size c):=by
 refine ⟨⟨.slice none 0 0,.slice none 0 0,[],[],⟨heap_alloc_new w _,E3 _ _ _,j2.nil _ _ _,fun b hb=>(by cases hb),j2.nil _ _ _,fun b hb=>(by cases hb),fun x hx=>(by cases hx),fun x hx=>(by cases hx)⟩,rfl,rfl⟩,Mov.alloc hw _ c (.inr (.inr rfl))⟩
def a2S:PRu:=⟨0,0,⟨#[97]⟩,0,⟨#[]⟩,[],⟨#[]⟩,0⟩
theorem a8Q:a2S.fine:=⟨zd,zd,zd,zd,fun c hc=>by cases hc⟩
theorem b28:F2 [] 0 a2S=true:=by decide+kernel
theorem b4Y:L9 [1] (-1) 0 a2S=[(1, -1,Mg.pol 0 a2S)]:=by unfold L9;simp
theorem b29:A4 ⟨#[]⟩=true:=by decide+kernel
theorem b56:l9 ⟨#[]⟩ []=true:=by decide+kernel
theorem b57:M1 [] 0 ⟨#[97]⟩ ⟨#[]⟩=[]:=rfl
def b6I:Mv:=⟨⟨3,0,PRu.zero,⟨#[]⟩,[],⟨#[]⟩,[],3,⟨#[]⟩,0⟩,none,0,none,0,none,0⟩
theorem b3a (w0 w:World) (hl:N8 w0 w):Calls Tryz.prog 4 #[] w fun e w'=>e= .returned (.bool true)/\Mod (fun _=>False) w w':=by
 have hw:Owd w0 w (fun _=>0):=⟨fun k h=>absurd rfl h,fun k h=>absurd rfl h,hl⟩;obtain ⟨wa,aD,ah,ae,au⟩:=g8 w (.cells #[.int .i64 1] 3);have hoa:Owd w0 wa (fun _=>0):=⟨fun k h=>absurd rfl h,fun k h=>absurd rfl h,hl.mod0 ah⟩;have hrd:j3 wa 1 (.slice (some ⟨w.heap.size,0,none⟩) 1 1) 1 [.int .i64 1]:=aD▸j3.one w [.int .i64 1] 3 rfl;have hnew:=a9K w0 wa (fun _=>0) 2 hoa zo 0 (.slice (some ⟨w.heap.size,0,none⟩) 1 1) [1] hrd zd;obtain ⟨aF,aB,lY⟩:=zh3 aD ah hnew;clear aD ah hnew au ae hw hoa hrd
 go_enter Tryz.func4,Tryz.ntmps4
 go_wp2_with (rw [show w.alloc _=wa from aF.out])
 refine lY.out.mono ?_;rintro e w1 ⟨g,ow1,rfl,ho1,hb1,hm1⟩;have hw1:Mod (fun _=>False) w w1:=aB.out.trans (hm1.md.mono (fun k _ h=>by have h':2<=0/\0<2+18:=h;omega)) zi;obtain ⟨hO2,hm2⟩:=OtI.new (c:=40) ho1;obtain ⟨w2,hw2⟩:∃w2:World,w1.alloc (.cells #[.slice none 0 0,.slice none 0 0] 49)=w2:=⟨_,rfl⟩;rw [hw2] at hO2 hm2;have hb2:=hb1.mov ho1 hm2 zo (fun t e=>zo);have ho2:=hm2.owd ho1 zo
 have hlt:Calls Tryz.prog 9 #[.pointer (some ⟨g,0,none⟩),.iface 51 (.pointer (some ⟨w1.heap.size,0,none⟩)),.int .i64 1,.int .i64 0,.agg #[.int .i64 3,.int .i64 0,.int .i64 0,.int .i64 0,.string ⟨#[]⟩,.int .i64 0,.string ⟨#[]⟩,.slice none 0 0,.string ⟨#[]⟩,.int .i64 0,.string ⟨#[]⟩,.slice none 0 0,.string ⟨#[]⟩,.slice none 0 0,.int .i64 3,.string ⟨#[]⟩,.int .i64 0]] w2 fun e w'=>e= .returned (.bool false)/\Mod (fun _=>False) w2 w':=
  a5f w2 _ 2 g 0 [1] _ hb2 (.iface 51 (.pointer (some ⟨w1.heap.size,0,none⟩))) 1 0 b6I zd zd zd
 have sS:Mod (fun _=>False) w1 w2:=hw2▸(Mod.refl (fun _=>False) w1).alloc _;obtain ⟨Ho1,Hb1,dB,oD,vE,bq,Hb2,uY,Xk,EW,CY⟩:=zh11 ho1 hb1 hm1 hw1 hO2 hm2 hb2 ho2 hlt hw2 sS;clear ho1 hb1 hm1 hw1 hO2 hm2 hb2 ho2 hlt hw2 sS
 go_wp2_with (rw [show w1.alloc _=w2 from EW.out])
 refine Xk.out.mono ?_;rintro e w3 ⟨rfl,dL⟩;have xN:=Mov.of uY.out dL (fun _=>False);have ho3:=xN.owd uY.out id;have hb3:=Hb2.out.mov uY.out xN id (fun _ h=>h.elim);have hO3:=vE.out.mov xN id id;have hx3:a3c w3 (r9 ow1 w1.heap.size 40) (a2S,none,0):=⟨o3.nil _ _ _,a8Q⟩
 have hle:Calls Tryz.prog 19 #[.pointer (some ⟨g,0,none⟩),.iface 51 (.pointer (some ⟨w1.heap.size,0,none⟩)),.int .i64 0,.agg #[.int .i64 0,.int .i64 0,.string ⟨#[97]⟩,.int .i64 0,.string ⟨#[]⟩,.slice none 0 0,.string ⟨#[]⟩,.int .i64 0],.int .i64 (-1)] w3 (a2u (O6 w0 w1.heap.size 40 zo) w3 (r9 ow1 w1.heap.size 40) 2 g 0 [1] ⟨[],fun _=>RS.zero⟩ ([],[]) 0 a2S (-1)):=
  a7b w0 w3 _ 2 g 0 [1] _ ho3 hb3 zd w1.heap.size (O6 w0 w1.heap.size 40 zo) ([],[]) hO3 (fun t ht=>by have h':t=40:=ht;omega) (show 0+0+1<=400000000000 by decide) zd (fun _ _=>trivial) 0 a2S none 0 hx3 (-1)
 have hw3:Mod (fun _=>False) w w3:=(oD.out.trans CY.out zi).trans dL zi
 have JW:w1.heap.size<w3.heap.size:=by
  have:=dL.size
  have h3:w1.heap.size<w2.heap.size:=by
   rw [<-EW.out];simp
  omega
 obtain ⟨FQ,zy,b7I⟩:=zh3 hle hw3 JW;clear hle hw3 JW dL xN ho3 hb3 hO3 hx3
 go_wp2_with fail
 refine FQ.out.mono ?_;rintro e w4 ⟨rfl,ow4, -,hO4,aR⟩;rw [b28,if_pos rfl,a1S,b4Y] at hO4;obtain ⟨v1,v2,S',H',hA,hS, -⟩:=hO4;have hS1:S'.length=1:=by have:=congrArg List.length hS;simpa using this
 obtain ⟨x,rfl⟩:=List.length_eq_one_iff.1 hS1
 have hx1:x.1=1:=by
  have h1:x.sd=(1, -1,Mg.pol 0 a2S):=by simpa using hS
  exact congrArg Prod.fst h1
 obtain ⟨a1,cp1,rfl,hcp⟩:=hA.s1.shape;have hs1:=hA.s1.rd
 obtain ⟨g1,o1,rfl,hc1⟩:∃g1 o1,a1=some ⟨g1,o1,none⟩/\w4.cell? ⟨g1,o1,none⟩=some (.int .i64 1):=by
  obtain ⟨-,a',c',he, -,h4,h5⟩:=hs1;cases he
  cases a1 with
  |none=>exact absurd (h4 rfl) (by simp)
  |some b=>
   obtain ⟨g1,o1,rfl,h6⟩:=h5 b rfl (by simp);refine ⟨g1,o1,rfl, ?_⟩;have:=h6 0 (.int .i64 x.1) rfl;rw [hx1] at this;exact this
 have c4:w4.cell? ⟨w1.heap.size,0,none⟩=some (.slice (some ⟨g1,o1,none⟩) 1 cp1):=d6 hA.row rfl
 have hw4:Mod (fun _=>False) w w4:=zy.out.upon aR.md (fun b hb=>by
  have hb':(r9 ow1 w1.heap.size 40 b=2\/r9 ow1 w1.heap.size 40 b=2+17)\/r9 ow1 w1.heap.size 40 b=40:=hb;by_cases e:b=w1.heap.size
  ·right;have:=oD.out.size;omega
  ·rw [X1 _ _ e] at hb';right;by_cases hlt:b<w.heap.size
   ·have h3:=dB.out.old b (by have:=aB.out.size;omega);omega
   ·omega)
 have hfr:=I8 w4 ⟨#[]⟩ (.slice none 0 0) [] ⟨rfl,none,0,rfl,Nat.le_refl _,fun _=>rfl,fun b hb=>by cases hb⟩ zd zd (fun c hc=>by cases hc);rw [b56] at hfr;have b7J:(1:Int)<=cp1:=by have:1<=cp1:=hcp;omega
 obtain ⟨Bu,bB⟩:=zh2 hw4 hfr;clear hw4 hfr hA hS hs1 aR hx1 hcp hS1
 go_wp2_with fail
 refine bB.out.mono ?_;rintro e w5 ⟨rfl,aW⟩;have gN:=Bu.out.trans aW zi;have hin:=a1E w5;obtain ⟨qA,nH⟩:=zh2 gN hin;clear gN hin aW c4 hc1
 go_wp2_with fail
 refine nH.out.mono ?_;rintro e w6 ⟨b6,own6,rfl, -, -,bU⟩;have jc:=qA.out.trans bU zi;have htn:=a1N w6;obtain ⟨oQ,Nu⟩:=zh2 jc htn;clear jc htn bU
 go_wp2_with fail
 refine Nu.out.mono ?_;rintro e w7 ⟨b7,own7,rfl, -, -,bu⟩;have hw7:=oQ.out.trans bu zi;have lZ:=V0 ⟨#[]⟩ zd w7;rw [b29] at lZ;obtain ⟨vC,yQ⟩:=zh2 hw7 lZ;clear hw7 lZ bu
 go_wp2_with fail
 refine yQ.out.mono ?_;rintro e w8 ⟨rfl,dE⟩;have hw8:=vC.out.trans dE zi;have hhi:=a5c w8 (.slice none 0 0) [] ⟨⟨rfl,none,0,rfl,Nat.le_refl _,fun _=>rfl,fun b hb=>by cases hb⟩,fun r hr=>by cases hr⟩ zd 0 ⟨#[97]⟩ ⟨#[]⟩ zd;rw [b57,b2G] at hhi;obtain ⟨zL,NM⟩:=zh2 hw8 hhi;clear hw8 hhi dE
 go_wp2_with fail
 refine NM.out.mono ?_;rintro e w9 ⟨ov9,rfl,hov, -,ko⟩;obtain ⟨oa9,oc9,rfl, -⟩:=hov.shape;have Xl:=zL.out.trans ko zi;have Hw9:=zh Xl;clear Xl ko hov
 go_wp2_with fail
 go_ret;exact ⟨rfl,Hw9.out⟩
structure b4Z (r:Ru):Prop where
 who:r.who.size<=140737488355328
 name:r.name.size<=140737488355328
 sc:r.sc.size<=140737488355328
 cs:∀c∈r.cs,(c.name.size<=140737488355328/\c.v.text.size<=140737488355328)/\(-9223372036854775808<=c.v.int/\c.v.int<=9223372036854775807)/\c.v.num<2^64
theorem b4Z.fine {r:Ru} (h:b4Z r) (hl:a5W r):r.pru.fine:=by
 have h1:=hl.who;have h2:=hl.fil.sum;have h3:=hl.fil.len;refine ⟨by show r.who.size<=_;omega,by show r.sc.size<=_;omega,by show r.name.size<=_;omega,by show r.cs.length<=_;omega,fun c hc=> ?_⟩;have h4:=h.cs c hc;have h5:=a5k (show c∈r.cs from hc);exact ⟨⟨h4.2.1,h4.2.2,zo⟩,zo⟩
end Go.Proofs.YtebhabpahfmodaaGreatDoor
