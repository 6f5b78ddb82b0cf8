/- Lemmas. -/
import Derived.Test.YtaenebdppkjhoaaGreatDoorZg39
import Derived.Test.YtaenebdppkjhoaaGreatDoorZg34
namespace Go.Proofs.YtaenebdppkjhoaaGreatDoor
set_option maxRecDepth 20000
set_option maxHeartbeats 40000000
section
open Go.RowKit
def I8 (w0:World) (q c:Nat) (h2:2<=c):x7 w0 q where
 σ:=List Sd×List Hn
 inv:=fun w ow s=>OtI w ow c q s.1 s.2
 tg:=fun t=>t=c
 t2:=fun t h=>h▸h2
 cnt:=fun s=>s.1.length+s.2.length
 okTo:=fun _ _=>True
 send:=fun s td ten m=>(s.1++[(td,ten,m)],s.2)
 shw:=fun s ten who t=>(s.1,s.2++[(ten,who,t)])
 csend:=fun s td ten m=>by show (s.1++[(td,ten,m)]).length+s.2.length<=s.1.length+s.2.length+1;rw [zz4,List.length_singleton];omega
 cshw:=fun s ten who t=>by show s.1.length+(s.2++[(ten,who,t)]).length<=s.1.length+s.2.length+1;rw [zz4,List.length_singleton];omega
 mov:=fun h _ s h0 ht=>OtI.mov h s h0 (fun hf=>ht _ hf rfl)
 hsend:=fun {w ow s td ten x} hw h hc _ hx=>b3H w0 w ow c q s.1 s.2 hw h2 h (by omega) td ten x hx
 hshw:=fun {w ow s ten who x} hw h hc _ _ hx=>b3I w0 w ow c q s.1 s.2 hw h2 h (by omega) ten who x hx
theorem b3N (S:List Sd) (H:List Hn) (l:List Sd):List.foldl (fun (s:List Sd×List Hn) (x:Sd)=>(s.1++[(x.1,x.2.1,x.2.2)],s.2)) (S,H) l=(S++l,H):=by
 induction l generalizing S with
 |nil=>rw [List.foldl_nil,zz11]
 |cons x l ih=>
  rw [List.foldl_cons];have:=ih (S++[(x.1,x.2.1,x.2.2)]);rw [zz12] at this;exact this
theorem a0k {w0:World} {q c:Nat} {h2:2<=c} (S:List Sd) (H:List Hn) (l:List Sd):(I8 w0 q c h2).sends (S,H) l=(S++l,H):=b3N S H l
theorem OtI.new {w0 w:World} {ow:Ow} {c:Nat} (hw:Owd w0 w ow):OtI (w.alloc (.cells #[.slice none 0 0,.slice none 0 0] 39)) (r7 ow w.heap.size c) c w.heap.size [] []/\Mov (fun t=>t=c) w ow (w.alloc (.cells #[.slice none 0 0,.slice none 0 0] 39)) (r7 ow w.heap.size c):=by
 refine ⟨⟨.slice none 0 0,.slice none 0 0,[],[],⟨heap_alloc_new w _,D4 _ _ _,i7.nil _ _ _,fun b hb=>(by cases hb),i7.nil _ _ _,fun b hb=>(by cases hb),fun x hx=>(by cases hx),fun x hx=>(by cases hx)⟩,rfl,rfl⟩,Mov.alloc hw _ c (.inr (.inr rfl))⟩
def a19:PRu:=⟨0,0,⟨#[97]⟩,0,⟨#[]⟩,[],⟨#[]⟩,0⟩
theorem a7A:a19.fine:=⟨by decide,by decide,by decide,by decide,fun c hc=>by cases hc⟩
theorem b1U:C7 [] 0 a19=true:=by decide+kernel
theorem b3O:I6 [1] (-1) 0 a19=[(1, -1,Mg.pol 0 a19)]:=by unfold I6;simp
theorem b1V:s5 ⟨#[]⟩=true:=by decide+kernel
theorem b4V:j5 ⟨#[]⟩ []=true:=by decide+kernel
theorem b4W:K6 [] 0 ⟨#[97]⟩ ⟨#[]⟩=[]:=rfl
def b5t:Mv:=⟨⟨3,0,PRu.zero,⟨#[]⟩,[],⟨#[]⟩,[],3,⟨#[]⟩,0⟩,none,0,none,0,none,0⟩
theorem b1W (w0 w:World) (hl:J3 w0 w):Calls Tryz.prog 9 #[] w fun e w'=>e= .returned (.bool true)/\Mod (fun _=>False) w w':=by
 have hw:Owd w0 w (fun _=>0):=⟨fun k h=>absurd rfl h,fun k h=>absurd rfl h,hl⟩;obtain ⟨wa,hwa,hmwa,hgwa,hzwa⟩:=e8 w (.cells #[.int .i64 1] 3);have hoa:Owd w0 wa (fun _=>0):=⟨fun k h=>absurd rfl h,fun k h=>absurd rfl h,hl.mod0 hmwa⟩;have hrd:j0 wa 1 (.slice (some ⟨w.heap.size,0,none⟩) 1 1) 1 [.int .i64 1]:=hwa▸j0.one w [.int .i64 1] 3 rfl;have hnew:=a8x w0 wa (fun _=>0) 2 hoa (by omega) 0 (.slice (some ⟨w.heap.size,0,none⟩) 1 1) [1] hrd (by decide);obtain ⟨Hwa,Hmwa,Hnew⟩:=zh3 hwa hmwa hnew;clear hwa hmwa hnew hzwa hgwa hw hoa hrd
 go_enter Tryz.func9,Tryz.ntmps9
 go_wp2_with (first|(rw [show w.alloc _=wa from Hwa.out])|fail)
 refine Hnew.out.mono ?_;rintro e w1 ⟨g,ow1,rfl,ho1,hb1,hm1⟩;have hw1:Mod (fun _=>False) w w1:=Hmwa.out.trans (hm1.md.mono (fun k _ h=>by have h':2<=0/\0<2+18:=h;omega)) (fun _ _ h=>h);obtain ⟨hO2,hm2⟩:=OtI.new (c:=40) ho1;obtain ⟨w2,hw2⟩:∃w2:World,w1.alloc (.cells #[.slice none 0 0,.slice none 0 0] 39)=w2:=⟨_,rfl⟩;rw [hw2] at hO2 hm2;have hb2:=hb1.mov ho1 hm2 (by omega) (fun t e=>by omega);have ho2:=hm2.owd ho1 (by omega)
 have hlt:Calls Tryz.prog 26 #[.pointer (some ⟨g,0,none⟩),.iface 43 (.pointer (some ⟨w1.heap.size,0,none⟩)),.int .i64 1,.int .i64 0,.agg #[.int .i64 3,.int .i64 0,.int .i64 0,.int .i64 0,.string ⟨#[]⟩,.int .i64 0,.string ⟨#[]⟩,.slice none 0 0,.string ⟨#[]⟩,.int .i64 0,.string ⟨#[]⟩,.slice none 0 0,.string ⟨#[]⟩,.slice none 0 0,.int .i64 3,.string ⟨#[]⟩,.int .i64 0]] w2 fun e w'=>e= .returned (.bool false)/\Mod (fun _=>False) w2 w':=
  a4m w2 _ 2 g 0 [1] _ hb2 (.iface 43 (.pointer (some ⟨w1.heap.size,0,none⟩))) 1 0 b5t (by decide) (by decide) (by decide)
 have hmw2:Mod (fun _=>False) w1 w2:=hw2▸(Mod.refl (fun _=>False) w1).alloc _;obtain ⟨Ho1,Hb1,Hm1,Hw1,HO2,Hm2,Hb2,Ho2,Hlt,Hw2,Hmw2⟩:=zh11 ho1 hb1 hm1 hw1 hO2 hm2 hb2 ho2 hlt hw2 hmw2;clear ho1 hb1 hm1 hw1 hO2 hm2 hb2 ho2 hlt hw2 hmw2
 go_wp2_with (first|(rw [show w1.alloc _=w2 from Hw2.out])|fail)
 refine Hlt.out.mono ?_;rintro e w3 ⟨rfl,hm23⟩;have hmv3:=Mov.of Ho2.out hm23 (fun _=>False);have ho3:=hmv3.owd Ho2.out (fun h=>h);have hb3:=Hb2.out.mov Ho2.out hmv3 (fun h=>h) (fun _ h=>h.elim);have hO3:=HO2.out.mov hmv3 (fun h=>h) (fun h=>h);have hx3:a2m w3 (r7 ow1 w1.heap.size 40) (a19,none,0):=⟨l9.nil _ _ _,a7A⟩
 have hle:Calls Tryz.prog 14 #[.pointer (some ⟨g,0,none⟩),.iface 43 (.pointer (some ⟨w1.heap.size,0,none⟩)),.int .i64 0,.agg #[.int .i64 0,.int .i64 0,.string ⟨#[97]⟩,.int .i64 0,.string ⟨#[]⟩,.slice none 0 0,.string ⟨#[]⟩,.int .i64 0],.int .i64 (-1)] w3 (a1R (I8 w0 w1.heap.size 40 (by omega)) w3 (r7 ow1 w1.heap.size 40) 2 g 0 [1] ⟨[],fun _=>RS.zero⟩ ([],[]) 0 a19 (-1)):=
  a5W w0 w3 _ 2 g 0 [1] _ ho3 hb3 (by decide) w1.heap.size (I8 w0 w1.heap.size 40 (by omega)) ([],[]) hO3 (fun t ht=>by have h':t=40:=ht;omega) (show 0+0+1<=400000000000 by decide) (by decide) (fun _ _=>trivial) 0 a19 none 0 hx3 (-1)
 have hw3:Mod (fun _=>False) w w3:=(Hw1.out.trans Hmw2.out (fun _ _ h=>h)).trans hm23 (fun _ _ h=>h)
 have hw13:w1.heap.size<w3.heap.size:=by
  have:=hm23.size
  have h3:w1.heap.size<w2.heap.size:=by
   rw [<-Hw2.out];simp
  omega
 obtain ⟨Hle,Hw3,Hw13⟩:=zh3 hle hw3 hw13;clear hle hw3 hw13 hm23 hmv3 ho3 hb3 hO3 hx3
 go_wp2_with fail
 refine Hle.out.mono ?_;rintro e w4 ⟨rfl,ow4, -,hO4,hm4⟩;rw [b1U,if_pos rfl,a0k,b3O] at hO4;obtain ⟨v1,v2,S',H',hA,hS, -⟩:=hO4;have hS1:S'.length=1:=by have:=congrArg List.length hS;simpa using this
 obtain ⟨x,rfl⟩:=List.length_eq_one_iff.1 hS1
 have hx1:x.1=1:=by
  have h1:x.sd=(1, -1,Mg.pol 0 a19):=by simpa using hS
  exact congrArg Prod.fst h1
 obtain ⟨a1,cp1,rfl,hcp⟩:=hA.s1.shape;have hs1:=hA.s1.rd
 obtain ⟨g1,o1,rfl,hc1⟩:∃g1 o1,a1=some ⟨g1,o1,none⟩/\w4.cell? ⟨g1,o1,none⟩=some (.int .i64 1):=by
  obtain ⟨-,a',c',he, -,h4,h5⟩:=hs1;cases he
  cases a1 with
  |none=>exact absurd (h4 rfl) (by simp)
  |some b=>
   obtain ⟨g1,o1,rfl,h6⟩:=h5 b rfl (by simp);refine ⟨g1,o1,rfl, ?_⟩;have:=h6 0 (.int .i64 x.1) rfl;rw [hx1] at this;exact this
 have c4:w4.cell? ⟨w1.heap.size,0,none⟩=some (.slice (some ⟨g1,o1,none⟩) 1 cp1):=d6 hA.row rfl
 have hw4:Mod (fun _=>False) w w4:=Hw3.out.upon hm4.md (fun b hb=>by
  have hb':(r7 ow1 w1.heap.size 40 b=2\/r7 ow1 w1.heap.size 40 b=2+17)\/r7 ow1 w1.heap.size 40 b=40:=hb;by_cases e:b=w1.heap.size
  ·right;have:=Hw1.out.size;omega
  ·rw [T8 _ _ e] at hb';right;by_cases hlt:b<w.heap.size
   ·have h3:=Hm1.out.old b (by have:=Hmwa.out.size;omega);omega
   ·omega)
 have hfr:=D6 w4 ⟨#[]⟩ (.slice none 0 0) [] ⟨rfl,none,0,rfl,Nat.le_refl _,fun _=>rfl,fun b hb=>by cases hb⟩ (by decide) (by decide) (fun c hc=>by cases hc);rw [b4V] at hfr;have hcp':(1:Int)<=cp1:=by have:1<=cp1:=hcp;omega
 obtain ⟨Hw4,Hfr⟩:=zh2 hw4 hfr;clear hw4 hfr hA hS hs1 hm4 hx1 hcp hS1
 go_wp2_with fail
 refine Hfr.out.mono ?_;rintro e w5 ⟨rfl,hm5⟩;have hw5:=Hw4.out.trans hm5 (fun _ _ h=>h);have hin:=a02 w5;obtain ⟨Hw5,Hin⟩:=zh2 hw5 hin;clear hw5 hin hm5 c4 hc1
 go_wp2_with fail
 refine Hin.out.mono ?_;rintro e w6 ⟨b6,own6,rfl, -, -,hm6⟩;have hw6:=Hw5.out.trans hm6 (fun _ _ h=>h);have htn:=a1d w6;obtain ⟨Hw6,Htn⟩:=zh2 hw6 htn;clear hw6 htn hm6
 go_wp2_with fail
 refine Htn.out.mono ?_;rintro e w7 ⟨b7,own7,rfl, -, -,hm7⟩;have hw7:=Hw6.out.trans hm7 (fun _ _ h=>h);have hsr:=M2 ⟨#[]⟩ (by decide) w7;rw [b1V] at hsr;obtain ⟨Hw7,Hsr⟩:=zh2 hw7 hsr;clear hw7 hsr hm7
 go_wp2_with fail
 refine Hsr.out.mono ?_;rintro e w8 ⟨rfl,hm8⟩;have hw8:=Hw7.out.trans hm8 (fun _ _ h=>h);have hhi:=a4i w8 (.slice none 0 0) [] ⟨⟨rfl,none,0,rfl,Nat.le_refl _,fun _=>rfl,fun b hb=>by cases hb⟩,fun r hr=>by cases hr⟩ (by decide) 0 ⟨#[97]⟩ ⟨#[]⟩ (by decide);rw [b4W,b1j] at hhi;obtain ⟨Hw8,Hhi⟩:=zh2 hw8 hhi;clear hw8 hhi hm8
 go_wp2_with fail
 refine Hhi.out.mono ?_;rintro e w9 ⟨ov9,rfl,hov, -,hm9⟩;obtain ⟨oa9,oc9,rfl, -⟩:=hov.shape;have hw9:=Hw8.out.trans hm9 (fun _ _ h=>h);have Hw9:=zh hw9;clear hw9 hm9 hov
 go_wp2_with fail
 go_ret;exact ⟨rfl,Hw9.out⟩
structure b3P (r:Ru):Prop where
 who:r.who.size<=140737488355328
 name:r.name.size<=140737488355328
 sc:r.sc.size<=140737488355328
 cs:∀c∈r.cs,(c.name.size<=140737488355328/\c.v.text.size<=140737488355328)/\(-9223372036854775808<=c.v.int/\c.v.int<=9223372036854775807)/\c.v.num<2^64
theorem b3P.fine {r:Ru} (h:b3P r) (hl:a48 r):r.pru.fine:=by
 have h1:=hl.who;have h2:=hl.fil.sum;have h3:=hl.fil.len;refine ⟨by show r.who.size<=_;omega,by show r.sc.size<=_;omega,by show r.name.size<=_;omega,by show r.cs.length<=_;omega,fun c hc=> ?_⟩;have h4:=h.cs c hc;have h5:=a4v (show c∈r.cs from hc);exact ⟨⟨h4.2.1,h4.2.2,by omega⟩,by omega⟩
end
end Go.Proofs.YtaenebdppkjhoaaGreatDoor
