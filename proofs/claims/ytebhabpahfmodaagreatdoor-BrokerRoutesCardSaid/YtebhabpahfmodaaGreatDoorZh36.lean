/- Lemmas. -/
import Derived.Test.YtebhabpahfmodaaGreatDoorZh25
import Derived.Test.YtebhabpahfmodaaGreatDoorZh35
set_option maxHeartbeats 40000000
set_option maxRecDepth 20000
namespace Go.Proofs.YtebhabpahfmodaaGreatDoor
open Go.RowKit
def b2T (w0 w:World) (ow:Ow) (c:Nat) (id:Int) (near:List Int) (e:Ending) (w':World):Prop:=
 ∃g ow',e= .returned (.pointer (some ⟨g,0,none⟩))/\Owd w0 w' ow'/\Bro w' ow' c g id near ⟨[],fun _=>RS.zero⟩/\Mov (fun t=>c<=t/\t<c+18) w ow w' ow'
def b5y:List Value:=[.pointer none,.pointer none,.map none,.map none,.pointer none,.pointer none,.map none,.map none,.pointer none,.pointer none,.map none,.map none,.pointer none,.pointer none,.map none,.map none]
theorem a9K (w0 w:World) (ow:Ow) (c:Nat) (hw:Owd w0 w ow) (h2:2<=c) (id:Int) (nv0:Value) (near:List Int) (hn:j3 w 1 nv0 near.length (near.map (Value.int .i64))) (hnl:near.length<=1000):
 Calls Tryz.prog 18 #[.int .i64 id,nv0] w (b2T w0 w ow c id near):=by
 have hcl:=b2f w nv0 near hn zo;obtain ⟨a0,c0,rfl, -⟩:∃a c,nv0= .slice a near.length c/\True:=by obtain ⟨-,a,c,h, -⟩:=hn;exact ⟨a,c,h,trivial⟩
 obtain ⟨lQ,Hw,Hn⟩:=zh3 hcl hw hn;clear hcl hw hn
 go_enter Tryz.func18,Tryz.ntmps18
 go_wp2_with fail
 refine lQ.out.mono ?_;rintro e w1 ⟨nv,rfl,hno,hnb,hm1⟩;obtain ⟨na,nc,rfl, -⟩:=hno.shape;obtain ⟨wa,aD,ah,ae,au⟩:=g8 w1 (.cells (.slice none 0 0:: .int .i64 id:: .slice na near.length nc::b5y).toArray 100);have kS:w1.alloc (.cells #[.slice none 0 0,.int .i64 id,.slice na near.length nc,.pointer none,.pointer none,.map none,.map none,.pointer none,.pointer none,.map none,.map none,.pointer none,.pointer none,.map none,.map none,.pointer none,.pointer none,.map none,.map none] 100)=wa:=aD;have hs1:Mov (fun t=>c<=t/\t<c+18) w ow w1 ow:=Mov.of Hw.out hm1 _;have ho1:=hs1.owd Hw.out zo;have hsa:Mov (fun t=>c<=t/\t<c+18) w1 ow wa (r9 ow w1.heap.size c):=aD▸Mov.alloc ho1 _ c (.inr (.inr ⟨Nat.le_refl _,zo⟩));have hoa:=hsa.owd ho1 zo;have hnz:∀b,(Value.slice na near.length nc).ownBlock=some b->b<w1.heap.size:=hno.lt
 have hcon:o3 wa (r9 ow w1.heap.size c) 1 (.slice na near.length nc) near.length (near.map (Value.int .i64)):=by
  refine ⟨(hno.mod ah zi).rd,fun _ b hb=> ?_⟩;rw [X1 _ _ (by have:=hnz b hb;omega)];exact Hw.out.zero (hnb b hb)
 have hcr:=b2I w0 wa (r9 ow w1.heap.size c) c w1.heap.size id near hoa h2 (.slice none 0 0) (.slice na near.length nc) [] b5y rfl ae (E3 _ _ _) ⟨j2.nil _ _ _,fun b hb=>(by cases hb),fun x hx=>(by cases hx)⟩ hcon;have hs:=hs1.trans hsa;obtain ⟨kT,vT,Hs⟩:=zh3 kS hcr hs;clear kS hcr hs hno hnb hm1 ae ah au aD hs1 ho1 hsa hoa hnz hcon
 go_wp2_with (rw [show w1.alloc _=wa from kT.out])
 refine vT.out.mono ?_;rintro e w2 ⟨rfl,ow2,ho2,hb2,hm2⟩;have hs2:=Hs.out.trans hm2;obtain ⟨uY,Hb2,qK⟩:=zh3 ho2 hb2 hs2;clear ho2 hb2 hs2 hm2
 go_wp2_with fail
 go_ret;exact ⟨w1.heap.size,ow2,rfl,uY.out,Hb2.out,qK.out⟩
theorem a5f (w:World) (ow:Ow) (c g:Nat) (id:Int) (near:List Int) (B:BS) (h:Bro w ow c g id near B) (o:Value) (frm ten:Int) (x:Mv) (hk:x.m.kind≠0/\x.m.kind≠1/\x.m.kind≠2) (hv:(B.L.length:Int)<x.m.ver) (_hL:B.L.length<=40):
 Calls Tryz.prog 9 #[.pointer (some ⟨g,0,none⟩),o,.int .i64 frm,.int .i64 ten,.agg x.cells.toArray] w fun e w'=>e= .returned (.bool false)/\Mod (fun _=>False) w w':=by
 obtain ⟨a,h⟩:=h;obtain ⟨L,aV,xI⟩:=h.log;have kN:L.length=B.L.length:=by rw [<-xI,zz10]
 obtain ⟨av,acap,kg, -⟩:∃a' cc,a.v= .slice a' L.length cc/\L.length<=cc:=by obtain ⟨-,a,cc,h,h2, -⟩:=aV.sl.sl.rd;exact ⟨a,cc,h,h2⟩
 rw [kg,kN] at aV;obtain ⟨k1,k2,k3⟩:=hk;obtain ⟨wa,aD,ah,ae,au⟩:=g8 w (.cells x.cells.toArray 33);have m0:wa.cell? ⟨w.heap.size,0,none⟩=some (.int .i64 x.m.kind):=d6 ae rfl;have m14:wa.cell? ⟨w.heap.size,14,none⟩=some (.int .i64 x.m.ver):=d6 ae rfl;have hgg:=ah.heap aV.row (fun h=>h);have hF:∀wx,Mod (fun _=>False) wa wx->wx.cell? ⟨w.heap.size,14,none⟩=some (.int .i64 x.m.ver)/\Mod (fun _=>False) w wx:=fun wx hx=>⟨hx.cell m14 (fun h=>h),ah.trans hx zi⟩;have hpl:∀wx,Mod (fun _=>False) wa wx->Calls Tryz.prog 31 #[.pointer (some ⟨g,0,none⟩)] wx fun e w'=>e= .returned (.int .i64 B.L.length)/\Mod (fun _=>False) wa w':=fun wx hx=>(a3r wx g av B.L.length acap (hx.cell (d6 hgg rfl) (fun h=>h))).mono fun e w' ⟨he,hm⟩=>⟨he,hm▸hx⟩;obtain ⟨H,iL,aF,aB,aH,Rv,HF,Hpl⟩:=zh8 h aV aD ah ae hgg hF hpl;clear h aV aD ah ae hgg hF hpl au xI kN kg m14
 go_enter Tryz.func9,Tryz.ntmps9
 go_wp2_with (rw [show w.alloc _=wa from aF.out])
 refine i7 zk zk ?_
 iterate 7 (first
  | (refine j6 ?_ (fun K hK=> ?_)
     ·first|(go_simp;done)|(go_simp;simp [undef];done)
     go_simp;refine hK _ ?_;clear hK K)
  | (refine j7 ?_ ?_ (fun w' hw'=> ?_) (fun K hK=> ?_)
     ·first|(go_simp;done)|(go_simp;simp [undef];done)
     rotate_left
     ·obtain ⟨f0, -⟩:=HF.out w' hw';go_simp;rfl
     go_simp;refine hK _ ?_;clear hK K)
  | (refine m9 ?_ ?_ ?_ ?_ (fun w' hw'=> ?_) ?_ (fun K hK=> ?_)
     ·first|(go_simp;done)|(go_simp;simp [undef];done)
     rotate_left 3
     ·obtain ⟨f0, -⟩:=HF.out w' hw';go_simp;constructor<;>rfl
     ·first|with_reducible exact Hpl.out
     go_simp;refine hK _ ?_;clear hK K))
 refine j8 (fun w' hw'=> ?_);have hmx:=(HF.out w' hw').2;have qB:=zh hmx;clear hmx hw'
 go_wp2
 go_ret;exact ⟨rfl,qB.out⟩
abbrev Sv:=Int×Int×Mv
def Sv.cells (x:Sv):List Value:= .int .i64 x.1:: .int .i64 x.2.1::x.2.2.cells
def Sv.sd (x:Sv):Sd:=(x.1,x.2.1,x.2.2.m)
abbrev Hv:=Int×ByteArray×Tv
def Hv.cells (x:Hv):List Value:= .int .i64 x.1:: .string x.2.1::x.2.2.cells
def Hv.hn (x:Hv):Hn:=(x.1,x.2.1,x.2.2.t)
def svs (l:List Sv):List Value:=l.flatMap Sv.cells
def hvs (l:List Hv):List Value:=l.flatMap Hv.cells
theorem a8G (l m:List Sv):svs (l++m)=svs l++svs m:=by unfold svs;simp
theorem a8H (l m:List Hv):hvs (l++m)=hvs l++hvs m:=by unfold hvs;simp
theorem b53 (x:Sv):∀u∈x.cells,u.oneCell'=true:=fun u hu=>zz15 (show x.cells.all (·.oneCell')=true from rfl) u hu
theorem b54 (x:Hv):∀u∈x.cells,u.oneCell'=true:=fun u hu=>zz15 (show x.cells.all (·.oneCell')=true from rfl) u hu
structure OtA (w:World) (ow:Ow) (c q:Nat) (v1 v2:Value) (S:List Sv) (H:List Hv):Prop where
 row:w.heap[q]? =some (.cells #[v1,v2] 49 (0,0))
 tag:ow q=c
 s1:j2 w 68 19 v1 S.length (svs S)
 b1:∀b,v1.ownBlock=some b->ow b=c/\b≠q/\v2.ownBlock≠some b
 s2:j2 w 65 11 v2 H.length (hvs H)
 b2:∀b,v2.ownBlock=some b->ow b=c/\b≠q/\v1.ownBlock≠some b
 e1:∀x∈S,X3 w ow x.2.2
 e2:∀x∈H,a8w w ow x.2.2
def OtI (w:World) (ow:Ow) (c q:Nat) (S:List Sd) (H:List Hn):Prop:=∃v1 v2 S' H',OtA w ow c q v1 v2 S' H'/\S'.map Sv.sd=S/\H'.map Hv.hn=H
theorem OtA.mov {F:Nat->Prop} {w w':World} {ow ow':Ow} {c q:Nat} {v1 v2:Value} {S:List Sv} {H:List Hv} (h:OtA w ow c q v1 v2 S H) (s:Mov F w ow w' ow') (h0:¬F 0) (hc:¬F c):OtA w' ow' c q v1 v2 S H:=by
 have hq:=(zz7 h.row).1;have hn:∀b,ow b=c->¬F (ow b):=fun b e hf=>hc (e▸hf)
 exact ⟨s.md.heap h.row (hn q h.tag),by rw [s.old q hq];exact h.tag,h.s1.mod s.md (fun b hb=>hn b (h.b1 b hb).1),fun b hb=>by rw [s.old b (h.s1.lt b hb)];exact h.b1 b hb,
  h.s2.mod s.md (fun b hb=>hn b (h.b2 b hb).1),fun b hb=>by rw [s.old b (h.s2.lt b hb)];exact h.b2 b hb,fun x hx=>(h.e1 x hx).mov s h0,fun x hx=>(h.e2 x hx).mov s h0⟩
theorem OtI.mov {F:Nat->Prop} {w w':World} {ow ow':Ow} {c q:Nat} {S:List Sd} {H:List Hn} (h:OtI w ow c q S H) (s:Mov F w ow w' ow') (h0:¬F 0) (hc:¬F c):OtI w' ow' c q S H:=by
 obtain ⟨v1,v2,S',H',h1,h2⟩:=h;exact ⟨v1,v2,S',H',h1.mov s h0 hc,h2⟩
theorem b4P:E7 Tryz.prog 46 68 19 248:=O8 zk zk
theorem b4Q:E7 Tryz.prog 47 65 11 128:=O8 zk zk
theorem OtA.app1 {w0 w wz w6 w7:World} {ow:Ow} {c q:Nat} {v1 v2 v':Value} {S:List Sv} {H:List Hv} {x:Sv} (_hw:Owd w0 w ow) (h2:2<=c) (h:OtA w ow c q v1 v2 S H) (hz:Mod (fun _=>False) w wz) (hx:X3 w ow x.2.2)
 (hA:q5 wz 68 19 v1 (S.length+1) (svs S++x.cells) v' w6) (h7:w7.heap[q]? =some (.cells #[v',v2] 49 (0,0))) (bu:Mod (fun k=>k=q) w6 w7):
 ∃ow',OtA w7 ow' c q v' v2 (S++[x]) H/\Mov (fun t=>t=c) w ow w7 ow':=by
 obtain ⟨hA1,hA2,hA3⟩:=hA;have xL:=(zz7 h.row).1;have hzs:=hz.size;have hsz:=hA2.size;have hs7:=bu.size;have fQ:Mod (l5 v1) w w6:=(hz.mono (fun _ _ h=>h.elim)).trans hA2 (fun b hb h=>h);have fF:Mod (fun k=>ow k=c) w w7:=(fQ.mono (fun k _ hk=>(h.b1 k hk).1)).trans bu (fun k _ hk=>by have hk':k=q:=hk;rw [hk'];exact h.tag);have hmv:Mov (fun t=>t=c) w ow w7 (s6 w w7 ow (l5 v') (fun _=>True) c):=Mov.tag rfl fF
 have fA:∀b,v'.ownBlock=some b->(v1.ownBlock=some b/\b<w.heap.size)\/(wz.heap.size<=b/\b<w7.heap.size):=fun b hb=>by
  rcases hA3 with e|⟨k,e,hk⟩
  ·rw [e] at hb;exact .inl ⟨hb,h.s1.lt b hb⟩
  have:=hA1.lt b hb;rw [hb] at e;cases e
  exact .inr ⟨hk,zo⟩
 have Xd:=h.s2.lt
 have hne:∀b,v'.ownBlock=some b->b≠q/\v2.ownBlock≠some b:=fun b hb=>by
  rcases fA b hb with h1|h1
  ·exact (h.b1 b h1.1).2
  exact ⟨zo,fun h3=>by have:=Xd b h3;omega⟩
 refine ⟨_,⟨h7,by rw [p9 xL];exact h.tag, ?_,fun b hb=>⟨?_,hne b hb⟩,(h.s2.mod fQ (fun b hb h3=>(h.b2 b hb).2.2 h3)).mod bu (fun b hb e=>(h.b2 b hb).2.1 e),fun b hb=>⟨by rw [p9 (Xd b hb)];exact (h.b2 b hb).1,(h.b2 b hb).2.1,fun h3=>(hne b h3).2 hb⟩,fun y hy=> ?_,fun y hy=>(h.e2 y hy).mov hmv zo⟩,hmv⟩
 ·rw [zz4,a8G];have e:svs [x]=x.cells:=by simp [svs]
  rw [e];exact hA1.mod bu (fun k hk e=>(hne k hk).1 e)
 ·rcases fA b hb with h1|h1
  ·rw [p9 h1.2];exact (h.b1 b h1.1).1
  exact G7 zo h1.2 hb
 rcases zz14 hy with hy|hy
 ·exact (h.e1 y hy).mov hmv zo
 obtain rfl:=List.mem_singleton.1 hy;exact hx.mov hmv zo
theorem OtA.app2 {w0 w wz w6 w7:World} {ow:Ow} {c q:Nat} {v1 v2 v':Value} {S:List Sv} {H:List Hv} {x:Hv} (_hw:Owd w0 w ow) (h2:2<=c) (h:OtA w ow c q v1 v2 S H) (hz:Mod (fun _=>False) w wz) (hx:a8w w ow x.2.2)
 (hA:q5 wz 65 11 v2 (H.length+1) (hvs H++x.cells) v' w6) (h7:w7.heap[q]? =some (.cells #[v1,v'] 49 (0,0))) (bu:Mod (fun k=>k=q) w6 w7):
 ∃ow',OtA w7 ow' c q v1 v' S (H++[x])/\Mov (fun t=>t=c) w ow w7 ow':=by
 obtain ⟨hA1,hA2,hA3⟩:=hA;have xL:=(zz7 h.row).1;have hzs:=hz.size;have hsz:=hA2.size;have hs7:=bu.size;have fQ:Mod (l5 v2) w w6:=(hz.mono (fun _ _ h=>h.elim)).trans hA2 (fun b hb h=>h);have fF:Mod (fun k=>ow k=c) w w7:=(fQ.mono (fun k _ hk=>(h.b2 k hk).1)).trans bu (fun k _ hk=>by have hk':k=q:=hk;rw [hk'];exact h.tag);have hmv:Mov (fun t=>t=c) w ow w7 (s6 w w7 ow (l5 v') (fun _=>True) c):=Mov.tag rfl fF
 have fA:∀b,v'.ownBlock=some b->(v2.ownBlock=some b/\b<w.heap.size)\/(wz.heap.size<=b/\b<w7.heap.size):=fun b hb=>by
  rcases hA3 with e|⟨k,e,hk⟩
  ·rw [e] at hb;exact .inl ⟨hb,h.s2.lt b hb⟩
  have:=hA1.lt b hb;rw [hb] at e;cases e
  exact .inr ⟨hk,zo⟩
 have Xe:=h.s1.lt
 have hne:∀b,v'.ownBlock=some b->b≠q/\v1.ownBlock≠some b:=fun b hb=>by
  rcases fA b hb with h1|h1
  ·exact (h.b2 b h1.1).2
  exact ⟨zo,fun h3=>by have:=Xe b h3;omega⟩
 refine ⟨_,⟨h7,by rw [p9 xL];exact h.tag,(h.s1.mod fQ (fun b hb h3=>(h.b1 b hb).2.2 h3)).mod bu (fun b hb e=>(h.b1 b hb).2.1 e),fun b hb=>⟨by rw [p9 (Xe b hb)];exact (h.b1 b hb).1,(h.b1 b hb).2.1,fun h3=>(hne b h3).2 hb⟩, ?_,fun b hb=>⟨?_,hne b hb⟩,fun y hy=>(h.e1 y hy).mov hmv zo,fun y hy=> ?_⟩,hmv⟩
 ·rw [zz4,a8H];have e:hvs [x]=x.cells:=by simp [hvs]
  rw [e];exact hA1.mod bu (fun k hk e=>(hne k hk).1 e)
 ·rcases fA b hb with h1|h1
  ·rw [p9 h1.2];exact (h.b2 b h1.1).1
  exact G7 zo h1.2 hb
 rcases zz14 hy with hy|hy
 ·exact (h.e2 y hy).mov hmv zo
 obtain rfl:=List.mem_singleton.1 hy;exact hx.mov hmv zo
theorem a8I:(match Tryz.prog.underlying 33 with|some (.struct _)=>true|some (.array _ _)=>true|_=>false)=true:=zk
theorem b2U:(Tryz.prog.info? 33).map (·.size)=some 17:=zk
@[go_sem ↓] theorem b4R {ρ:Operand->Value} {dst:Option Tmp} {x:Operand} {type:TypeId} {pos:String} {after:Array Edge} {guard:Option (Nat×Bool)} {w:World} (h:a6e w (ρ x) 17):
 Sem.run Tryz.prog (execOp ρ ⟨dst,.load 33 x,type,pos,after,guard⟩) w= .ok (.value (.agg (a0l w (ρ x) 17))) w:=I6 a8I b2U h
theorem a8J:(match Tryz.prog.underlying 63 with|some (.struct _)=>true|some (.array _ _)=>true|_=>false)=true:=zk
theorem b2V:(Tryz.prog.info? 63).map (·.size)=some 9:=zk
@[go_sem ↓] theorem b4S {ρ:Operand->Value} {dst:Option Tmp} {x:Operand} {type:TypeId} {pos:String} {after:Array Edge} {guard:Option (Nat×Bool)} {w:World} (h:a6e w (ρ x) 9):
 Sem.run Tryz.prog (execOp ρ ⟨dst,.load 63 x,type,pos,after,guard⟩) w= .ok (.value (.agg (a0l w (ρ x) 9))) w:=I6 a8J b2V h
def a7c (w:World) (ow:Ow) (c q:Nat) (S:List Sd) (H:List Hn) (e:Ending) (w':World):Prop:=
 e= .returned (.tuple #[])/\∃ow',OtI w' ow' c q S H/\Mov (fun t=>t=c) w ow w' ow'
theorem b4T (w0 w:World) (ow:Ow) (c q:Nat) (S:List Sd) (Hs:List Hn) (hw:Owd w0 w ow) (h2:2<=c) (h:OtI w ow c q S Hs) (hS:S.length<=400000000000) (td ten:Int) (x:Mv) (hx:X3 w ow x):
 Calls Tryz.prog 274 #[.pointer (some ⟨q,0,none⟩),.int .i64 td,.int .i64 ten,.agg x.cells.toArray] w (a7c w ow c q (S++[(td,ten,x.m)]) Hs):=by
 obtain ⟨v1,v2,S',H',h,FO,FP⟩:=h;obtain ⟨a,cap,rfl,hcap⟩:∃a cc,v1= .slice a S'.length cc/\S'.length<=cc:=by obtain ⟨-,a,cc,h,h2, -⟩:=h.s1.rd;exact ⟨a,cc,h,h2⟩
 have Xf:S'.length<=400000000000:=by rw [<-FO,zz10] at hS;exact hS
 obtain ⟨wa,aD,ah,ae,au⟩:=g8 w (.cells x.cells.toArray 33);have xL:=(zz7 h.row).1;have Da:=ah.heap h.row id;have hS:(fun y:World=>y.cell? ⟨q,0,none⟩=some (.slice a S'.length cap)/\l8 y w.heap.size 0 17/\cellsOf y w.heap.size 0 17=([.int .i64 x.m.kind,.int .i64 x.m.at_,.int .i64 x.m.rule.kind,.int .i64 x.m.rule.tenant,.string x.m.rule.who,.int .i64 x.m.rule.broker,.string x.m.rule.sc,.slice x.ra x.m.rule.cs.length x.rc,.string x.m.rule.name,.int .i64 x.m.rule.at_,.string x.m.fs,.slice x.fa x.m.fl.length x.fc,.string x.m.es,.slice x.ea x.m.el.length x.ec,.int .i64 x.m.ver,.string x.m.org,.int .i64 x.m.ser]:List Value).toArray) wa.drew:=⟨d6 (B4 Da) rfl,(e9.row (B4 ae)).all rfl,(e9.row (B4 ae)).is rfl⟩;have hone:=b53 (td,ten,x);have hsl:=h.s1.mod ah zi;have Ry:w.heap.size<wa.heap.size:=zo
 have hnq:¬l5 (.slice a S'.length cap) q:=fun e=>(h.b1 q e).2.1 rfl;obtain ⟨Hw,H,aF,aB,aH,Rz,aX,oM,Hx,RA,RD,RF⟩:=zh12 hw h aD ah ae Da hone hsl hx FO FP hnq;clear hw h aD ah ae Da hone hsl hx FO FP hnq hcap au
 go_enter Tryz.func274,Tryz.ntmps274
 go_wp2_with (rw [show w.alloc _=wa from aF.out])
 refine i8 [.rd 0,.rd 1,.rd 2,.rd 3,.rd 4,.rd 5,.rd 6,.rd 7,.rd 8,.go 9,.go 10,.go 11,.go 12,.go 13] [0,1,2,3,4,5,6,7,8,9] (fun y:World=>y.cell? ⟨q,0,none⟩=some (.slice a S'.length cap)/\l8 y w.heap.size 0 17/\cellsOf y w.heap.size 0 17=([.int .i64 x.m.kind,.int .i64 x.m.at_,.int .i64 x.m.rule.kind,.int .i64 x.m.rule.tenant,.string x.m.rule.who,.int .i64 x.m.rule.broker,.string x.m.rule.sc,.slice x.ra x.m.rule.cs.length x.rc,.string x.m.rule.name,.int .i64 x.m.rule.at_,.string x.m.fs,.slice x.fa x.m.fl.length x.fc,.string x.m.es,.slice x.ea x.m.el.length x.ec,.int .i64 x.m.ver,.string x.m.org,.int .i64 x.m.ser]:List Value).toArray) zk zk (fun _ _ d _ _ h=>(by cases d<;>exact h)) ?_
 iterate 9 (
  refine n4 rfl ?_ (fun _=>hS) ?_ (fun w0 h0=> ?_) (fun K hK=> ?_)
  ·exact zg
  rotate_left
  ·(try simp only [zz1,zz2,zz3])
   first
    |(obtain ⟨f0,f1,f2⟩:=h0 rfl;clear h0;go_simp;with_reducible rfl)
    |(clear h0;go_simp;with_reducible rfl)
  (try simp only [zz1,zz2,zz3])
  go_simp;refine hK _ ?_;clear hK K)
 refine i6 (j0 rfl ?_ (fun K hK=> ?_))
 ·exact zg
 (try simp only [zz1,zz2,zz3]);obtain ⟨wT,hwT,bC,eQ,eT⟩:=g8 wa.drew (.cells (Sv.cells (td,ten,x)).toArray 68);have dK:wa.drew.alloc (.cells #[.int .i64 td,.int .i64 ten,.int .i64 x.m.kind,.int .i64 x.m.at_,.int .i64 x.m.rule.kind,.int .i64 x.m.rule.tenant,.string x.m.rule.who,.int .i64 x.m.rule.broker,.string x.m.rule.sc,.slice x.ra x.m.rule.cs.length x.rc,.string x.m.rule.name,.int .i64 x.m.rule.at_,.string x.m.fs,.slice x.fa x.m.fl.length x.fc,.string x.m.es,.slice x.ea x.m.el.length x.ec,.int .i64 x.m.ver,.string x.m.org,.int .i64 x.m.ser] 68)=wT:=hwT;go_simp;refine hK _ _ (fun _ h=>⟨bC.cell h.1 id,by rw [<-hwT,a0m _ _ _ _ _ (by show w.heap.size<wa.heap.size;omega)];exact h.2.1,by rw [<-hwT,a06 _ _ _ _ _ (by show w.heap.size<wa.heap.size;omega)];exact h.2.2⟩) ?_;clear hK K hS;have bP:j3 wT 19 (.slice (some ⟨wa.heap.size,0,none⟩) 1 1) 1 (Sv.cells (td,ten,x)):=hwT▸j3.one wa.drew (Sv.cells (td,ten,x)) 68 rfl;have iN:Mod (fun _=>False) wa wT:=((Mod.refl (fun _=>False) wa).drew).trans bC zi;have eY:=oM.out.mod iN zi;have iK:=aB.out.trans iN zi;refine i6 (j0 rfl ?_ (fun K hK=> ?_))
 ·exact zg
 (try simp only [zz1,zz2,zz3]);refine C6 (.tmp 12) (.tmp 17) 46 rfl 68 19 248 b4P (.slice a S'.length cap) S'.length (svs S') rfl eY (.slice (some ⟨wa.heap.size,0,none⟩) 1 1) 1 (Sv.cells (td,ten,x)) rfl bP aX.out zo (by unfold maxLen;omega) (fun ad cap2 w6 hA=> ?_);refine hK _ _ (fun h=>absurd h zd) ?_;clear hK K;have bZ:=hA.2.1.heap (iN.heap Rz.out id) RF.out;have k6:w6.cell? ⟨q,0,none⟩=some (.slice a S'.length cap):=d6 bZ rfl;have f6:w6.frozen? ⟨q,0,none⟩=false:=J1 bZ;obtain ⟨HA,gU,RG,CQ,mK,kK⟩:=zh6 hA bZ iN eY iK bP;clear hA bZ iN eY iK bP hwT bC eQ dK eT;refine i6 (j0 rfl ?_ (fun K hK=> ?_))
 ·exact zg
 (try simp only [zz1,zz2,zz3]);go_simp;refine hK _ _ (fun h=>absurd h zd) ?_;clear hK K;refine i6 (j0 rfl ?_ (fun K hK=> ?_))
 ·exact zg
 (try simp only [zz1,zz2,zz3]);go_simp;refine hK _ _ (fun h=>absurd h zd) ?_;clear hK K;refine i6 (j0 rfl ?_ (fun K hK=> ?_))
 ·exact zg
 (try simp only [zz1,zz2,zz3]);go_simp;refine hK _ _ (fun h=>absurd h zd) ?_;clear hK K;refine m6 ?_;obtain ⟨w7,hw7⟩:∃w7:World,w6.setCell ⟨q,0,none⟩ (.slice ad (S'.length+1) cap2)=w7:=⟨_,rfl⟩;have bu:Mod (fun k=>k=q) w6 w7:=hw7▸(Mod.refl (fun k=>k=q) w6).setCell (fun _=>rfl) _
 have dM:w7.heap[q]? =some (.cells #[.slice ad (S'.length+1) cap2,v2] 49 (0,0)):=by
  rw [<-hw7];have:=o6 (i:=0) (v:= .slice ad (S'.length+1) cap2) gU.out;simpa using this
 obtain ⟨ow',JS,JU⟩:=OtA.app1 (x:=(td,ten,x)) Hw.out h2 H.out mK.out Hx.out HA.out dM bu;rw [hw7];obtain ⟨nQ,mM,RH,RI,vC⟩:=zh5 bu dM JS JU hw7;clear bu dM JS JU hw7
 go_wp2_with fail
 go_end0
 exact ⟨rfl,ow',⟨_,_,_,_,RH.out,by rw [List.map_append,RA.out];rfl,RD.out⟩,RI.out⟩
theorem b4U (w0 w:World) (ow:Ow) (c q:Nat) (S:List Sd) (Hs:List Hn) (hw:Owd w0 w ow) (h2:2<=c) (h:OtI w ow c q S Hs) (hH:Hs.length<=400000000000) (ten:Int) (who:ByteArray) (x:Tv) (hx:a8w w ow x):
 Calls Tryz.prog 275 #[.pointer (some ⟨q,0,none⟩),.int .i64 ten,.string who,.agg x.cells.toArray] w (a7c w ow c q S (Hs++[(ten,who,x.t)])):=by
 obtain ⟨v1,v2,S',H',h,FO,FP⟩:=h;obtain ⟨a,cap,rfl,hcap⟩:∃a cc,v2= .slice a H'.length cc/\H'.length<=cc:=by obtain ⟨-,a,cc,h,h2, -⟩:=h.s2.rd;exact ⟨a,cc,h,h2⟩
 have zD:H'.length<=400000000000:=by rw [<-FP,zz10] at hH;exact hH
 obtain ⟨wa,aD,ah,ae,au⟩:=g8 w (.cells x.cells.toArray 63);have xL:=(zz7 h.row).1;have Da:=ah.heap h.row id;have hS:(fun y:World=>y.cell? ⟨q,1,none⟩=some (.slice a H'.length cap)/\l8 y w.heap.size 0 9/\cellsOf y w.heap.size 0 9=([.int .i64 x.t.kind,.int .i64 x.t.op,.int .i64 x.t.err,.int .i64 x.t.sub,.int .i64 x.t.ser,.int .i64 x.t.ver,.string x.t.org,.string x.t.es,.slice x.ea x.t.el.length x.ec]:List Value).toArray) wa.drew:=⟨d6 (B4 Da) rfl,(e9.row (B4 ae)).all rfl,(e9.row (B4 ae)).is rfl⟩;have hone:=b54 (ten,who,x);have hsl:=h.s2.mod ah zi;have Ry:w.heap.size<wa.heap.size:=zo
 have hnq:¬l5 (.slice a H'.length cap) q:=fun e=>(h.b2 q e).2.1 rfl;obtain ⟨Hw,H,aF,aB,aH,Rz,aX,oM,Hx,RA,RD,RF⟩:=zh12 hw h aD ah ae Da hone hsl hx FO FP hnq;clear hw h aD ah ae Da hone hsl hx FO FP hnq hcap au
 go_enter Tryz.func275,Tryz.ntmps275
 go_wp2_with (rw [show w.alloc _=wa from aF.out])
 refine i8 [.rd 0,.rd 1,.rd 2,.rd 3,.rd 4,.rd 5,.rd 6,.rd 7,.rd 8,.go 9,.go 10,.go 11,.go 12,.go 13] [0,1,2,3,4,5,6,7,8,9] (fun y:World=>y.cell? ⟨q,1,none⟩=some (.slice a H'.length cap)/\l8 y w.heap.size 0 9/\cellsOf y w.heap.size 0 9=([.int .i64 x.t.kind,.int .i64 x.t.op,.int .i64 x.t.err,.int .i64 x.t.sub,.int .i64 x.t.ser,.int .i64 x.t.ver,.string x.t.org,.string x.t.es,.slice x.ea x.t.el.length x.ec]:List Value).toArray) zk zk (fun _ _ d _ _ h=>(by cases d<;>exact h)) ?_
 iterate 9 (
  refine n4 rfl ?_ (fun _=>hS) ?_ (fun w0 h0=> ?_) (fun K hK=> ?_)
  ·exact zg
  rotate_left
  ·(try simp only [zz1,zz2,zz3])
   first
    |(obtain ⟨f0,f1,f2⟩:=h0 rfl;clear h0;go_simp;with_reducible rfl)
    |(clear h0;go_simp;with_reducible rfl)
  (try simp only [zz1,zz2,zz3])
  go_simp;refine hK _ ?_;clear hK K)
 refine i6 (j0 rfl ?_ (fun K hK=> ?_))
 ·exact zg
 (try simp only [zz1,zz2,zz3]);obtain ⟨wT,hwT,bC,eQ,eT⟩:=g8 wa.drew (.cells (Hv.cells (ten,who,x)).toArray 65);have dK:wa.drew.alloc (.cells #[.int .i64 ten,.string who,.int .i64 x.t.kind,.int .i64 x.t.op,.int .i64 x.t.err,.int .i64 x.t.sub,.int .i64 x.t.ser,.int .i64 x.t.ver,.string x.t.org,.string x.t.es,.slice x.ea x.t.el.length x.ec] 65)=wT:=hwT;go_simp;refine hK _ _ (fun _ h=>⟨bC.cell h.1 id,by rw [<-hwT,a0m _ _ _ _ _ (by show w.heap.size<wa.heap.size;omega)];exact h.2.1,by rw [<-hwT,a06 _ _ _ _ _ (by show w.heap.size<wa.heap.size;omega)];exact h.2.2⟩) ?_;clear hK K hS;have bP:j3 wT 11 (.slice (some ⟨wa.heap.size,0,none⟩) 1 1) 1 (Hv.cells (ten,who,x)):=hwT▸j3.one wa.drew (Hv.cells (ten,who,x)) 65 rfl;have iN:Mod (fun _=>False) wa wT:=((Mod.refl (fun _=>False) wa).drew).trans bC zi;have eY:=oM.out.mod iN zi;have iK:=aB.out.trans iN zi;refine i6 (j0 rfl ?_ (fun K hK=> ?_))
 ·exact zg
 (try simp only [zz1,zz2,zz3]);refine C6 (.tmp 12) (.tmp 17) 47 rfl 65 11 128 b4Q (.slice a H'.length cap) H'.length (hvs H') rfl eY (.slice (some ⟨wa.heap.size,0,none⟩) 1 1) 1 (Hv.cells (ten,who,x)) rfl bP aX.out zo (by unfold maxLen;omega) (fun ad cap2 w6 hA=> ?_);refine hK _ _ (fun h=>absurd h zd) ?_;clear hK K;have bZ:=hA.2.1.heap (iN.heap Rz.out id) RF.out;have k6:w6.cell? ⟨q,1,none⟩=some (.slice a H'.length cap):=d6 bZ rfl;have f6:w6.frozen? ⟨q,1,none⟩=false:=J1 bZ;obtain ⟨HA,gU,RG,CQ,mK,kK⟩:=zh6 hA bZ iN eY iK bP;clear hA bZ iN eY iK bP hwT bC eQ dK eT;refine i6 (j0 rfl ?_ (fun K hK=> ?_))
 ·exact zg
 (try simp only [zz1,zz2,zz3]);go_simp;refine hK _ _ (fun h=>absurd h zd) ?_;clear hK K;refine i6 (j0 rfl ?_ (fun K hK=> ?_))
 ·exact zg
 (try simp only [zz1,zz2,zz3]);go_simp;refine hK _ _ (fun h=>absurd h zd) ?_;clear hK K;refine i6 (j0 rfl ?_ (fun K hK=> ?_))
 ·exact zg
 (try simp only [zz1,zz2,zz3]);go_simp;refine hK _ _ (fun h=>absurd h zd) ?_;clear hK K;refine m6 ?_;obtain ⟨w7,hw7⟩:∃w7:World,w6.setCell ⟨q,1,none⟩ (.slice ad (H'.length+1) cap2)=w7:=⟨_,rfl⟩;have bu:Mod (fun k=>k=q) w6 w7:=hw7▸(Mod.refl (fun k=>k=q) w6).setCell (fun _=>rfl) _
 have dM:w7.heap[q]? =some (.cells #[v1,.slice ad (H'.length+1) cap2] 49 (0,0)):=by
  rw [<-hw7];have:=o6 (i:=1) (v:= .slice ad (H'.length+1) cap2) gU.out;simpa using this
 obtain ⟨ow',JS,JU⟩:=OtA.app2 (x:=(ten,who,x)) Hw.out h2 H.out mK.out Hx.out HA.out dM bu;rw [hw7];obtain ⟨nQ,mM,RH,RI,vC⟩:=zh5 bu dM JS JU hw7;clear bu dM JS JU hw7
 go_wp2_with fail
 go_end0
 exact ⟨rfl,ow',⟨_,_,_,_,RH.out,RA.out,by rw [List.map_append,RD.out];rfl⟩,RI.out⟩
end Go.Proofs.YtebhabpahfmodaaGreatDoor
