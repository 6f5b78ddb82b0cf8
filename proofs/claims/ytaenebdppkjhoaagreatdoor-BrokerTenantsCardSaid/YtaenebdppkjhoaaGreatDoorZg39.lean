/- Lemmas. -/
import Derived.Test.YtaenebdppkjhoaaGreatDoorZg26
import Derived.Test.YtaenebdppkjhoaaGreatDoorZg37
namespace Go.Proofs.YtaenebdppkjhoaaGreatDoor
set_option maxRecDepth 20000
set_option maxHeartbeats 40000000
section
open Go.RowKit
def b1D (w0 w:World) (ow:Ow) (c:Nat) (id:Int) (near:List Int) (e:Ending) (w':World):Prop:=
 ∃g ow',e= .returned (.pointer (some ⟨g,0,none⟩))/\Owd w0 w' ow'/\Bro w' ow' c g id near ⟨[],fun _=>RS.zero⟩/\Mov (fun t=>c<=t/\t<c+18) w ow w' ow'
def b4i:List Value:=[.pointer none,.pointer none,.map none,.map none,.pointer none,.pointer none,.map none,.map none,.pointer none,.pointer none,.map none,.map none,.pointer none,.pointer none,.map none,.map none]
theorem a8x (w0 w:World) (ow:Ow) (c:Nat) (hw:Owd w0 w ow) (h2:2<=c) (id:Int) (nv0:Value) (near:List Int) (hn:j0 w 1 nv0 near.length (near.map (Value.int .i64))) (hnl:near.length<=1000):
 Calls Tryz.prog 11 #[.int .i64 id,nv0] w (b1D w0 w ow c id near):=by
 have hcl:=b0Y w nv0 near hn (by omega);obtain ⟨a0,c0,rfl, -⟩:∃a c,nv0= .slice a near.length c/\True:=by obtain ⟨-,a,c,h, -⟩:=hn;exact ⟨a,c,h,trivial⟩
 obtain ⟨Hcl,Hw,Hn⟩:=zh3 hcl hw hn;clear hcl hw hn
 go_enter Tryz.func11,Tryz.ntmps11
 go_wp2_with fail
 refine Hcl.out.mono ?_;rintro e w1 ⟨nv,rfl,hno,hnb,hm1⟩;obtain ⟨na,nc,rfl, -⟩:=hno.shape;obtain ⟨wa,hwa,hmwa,hgwa,hzwa⟩:=e8 w1 (.cells (.slice none 0 0:: .int .i64 id:: .slice na near.length nc::b4i).toArray 62);have hwa':w1.alloc (.cells #[.slice none 0 0,.int .i64 id,.slice na near.length nc,.pointer none,.pointer none,.map none,.map none,.pointer none,.pointer none,.map none,.map none,.pointer none,.pointer none,.map none,.map none,.pointer none,.pointer none,.map none,.map none] 62)=wa:=hwa;have hs1:Mov (fun t=>c<=t/\t<c+18) w ow w1 ow:=Mov.of Hw.out hm1 _;have ho1:=hs1.owd Hw.out (by omega);have hsa:Mov (fun t=>c<=t/\t<c+18) w1 ow wa (r7 ow w1.heap.size c):=hwa▸Mov.alloc ho1 _ c (.inr (.inr ⟨Nat.le_refl _,by omega⟩));have hoa:=hsa.owd ho1 (by omega);have hnz:∀b,(Value.slice na near.length nc).ownBlock=some b->b<w1.heap.size:=hno.lt
 have hcon:l9 wa (r7 ow w1.heap.size c) 1 (.slice na near.length nc) near.length (near.map (Value.int .i64)):=by
  refine ⟨(hno.mod hmwa (fun _ _ h=>h)).rd,fun _ b hb=> ?_⟩;rw [T8 _ _ (by have:=hnz b hb;omega)];exact Hw.out.zero (hnb b hb)
 have hcr:=b1l w0 wa (r7 ow w1.heap.size c) c w1.heap.size id near hoa h2 (.slice none 0 0) (.slice na near.length nc) [] b4i rfl hgwa (D4 _ _ _) ⟨i7.nil _ _ _,fun b hb=>(by cases hb),fun x hx=>(by cases hx)⟩ hcon;have hs:=hs1.trans hsa;obtain ⟨Hwa',Hcr,Hs⟩:=zh3 hwa' hcr hs;clear hwa' hcr hs hno hnb hm1 hgwa hmwa hzwa hwa hs1 ho1 hsa hoa hnz hcon
 go_wp2_with (first|(rw [show w1.alloc _=wa from Hwa'.out])|fail)
 refine Hcr.out.mono ?_;rintro e w2 ⟨rfl,ow2,ho2,hb2,hm2⟩;have hs2:=Hs.out.trans hm2;obtain ⟨Ho2,Hb2,Hs2⟩:=zh3 ho2 hb2 hs2;clear ho2 hb2 hs2 hm2
 go_wp2_with fail
 go_ret;exact ⟨w1.heap.size,ow2,rfl,Ho2.out,Hb2.out,Hs2.out⟩
theorem a4m (w:World) (ow:Ow) (c g:Nat) (id:Int) (near:List Int) (B:BS) (h:Bro w ow c g id near B) (o:Value) (frm ten:Int) (x:Mv) (hk:x.m.kind≠0/\x.m.kind≠1/\x.m.kind≠2) (hv:(B.L.length:Int)<x.m.ver) (_hL:B.L.length<=40):
 Calls Tryz.prog 26 #[.pointer (some ⟨g,0,none⟩),o,.int .i64 frm,.int .i64 ten,.agg x.cells.toArray] w fun e w'=>e= .returned (.bool false)/\Mod (fun _=>False) w w':=by
 obtain ⟨a,h⟩:=h;obtain ⟨L,hlog,hLB⟩:=h.log;have hLl:L.length=B.L.length:=by rw [<-hLB,zz10]
 obtain ⟨av,acap,hav, -⟩:∃a' cc,a.v= .slice a' L.length cc/\L.length<=cc:=by obtain ⟨-,a,cc,h,h2, -⟩:=hlog.sl.sl.rd;exact ⟨a,cc,h,h2⟩
 rw [hav,hLl] at hlog;obtain ⟨k1,k2,k3⟩:=hk;obtain ⟨wa,hwa,hmwa,hgwa,hzwa⟩:=e8 w (.cells x.cells.toArray 48);have m0:wa.cell? ⟨w.heap.size,0,none⟩=some (.int .i64 x.m.kind):=d6 hgwa rfl;have m14:wa.cell? ⟨w.heap.size,14,none⟩=some (.int .i64 x.m.ver):=d6 hgwa rfl;have hgg:=hmwa.heap hlog.row (fun h=>h);have hF:∀wx,Mod (fun _=>False) wa wx->wx.cell? ⟨w.heap.size,14,none⟩=some (.int .i64 x.m.ver)/\Mod (fun _=>False) w wx:=fun wx hx=>⟨hx.cell m14 (fun h=>h),hmwa.trans hx (fun _ _ h=>h)⟩;have hpl:∀wx,Mod (fun _=>False) wa wx->Calls Tryz.prog 15 #[.pointer (some ⟨g,0,none⟩)] wx fun e w'=>e= .returned (.int .i64 B.L.length)/\Mod (fun _=>False) wa w':=fun wx hx=>(a08 wx g av B.L.length acap (hx.cell (d6 hgg rfl) (fun h=>h))).mono fun e w' ⟨he,hm⟩=>⟨he,hm▸hx⟩;obtain ⟨H,Hlog,Hwa,Hmwa,Hgwa,Hgg,HF,Hpl⟩:=zh8 h hlog hwa hmwa hgwa hgg hF hpl;clear h hlog hwa hmwa hgwa hgg hF hpl hzwa hLB hLl hav m14
 go_enter Tryz.func26,Tryz.ntmps26
 go_wp2_with (first|(rw [show w.alloc _=wa from Hwa.out])|fail)
 refine i8 (by kernel_rfl) (by kernel_rfl) ?_
 iterate 7 (first
  | (refine k7 ?_ (fun K hK=> ?_)
     ·first|(go_simp;done)|(go_simp;simp [undef];done)
     go_simp;refine hK _ ?_;clear hK K)
  | (refine m8 ?_ ?_ (fun w' hw'=> ?_) (fun K hK=> ?_)
     ·first|(go_simp;done)|(go_simp;simp [undef];done)
     rotate_left
     ·obtain ⟨f0, -⟩:=HF.out w' hw';go_simp;rfl
     go_simp;refine hK _ ?_;clear hK K)
  | (refine p8 ?_ ?_ ?_ ?_ (fun w' hw'=> ?_) ?_ (fun K hK=> ?_)
     ·first|(go_simp;done)|(go_simp;simp [undef];done)
     rotate_left 3
     ·obtain ⟨f0, -⟩:=HF.out w' hw';go_simp;constructor<;>rfl
     ·first|with_reducible exact Hpl.out
     go_simp;refine hK _ ?_;clear hK K))
 refine m4 (fun w' hw'=> ?_);have hmx:=(HF.out w' hw').2;have Hmx:=zh hmx;clear hmx hw'
 go_wp2
 go_ret;exact ⟨rfl,Hmx.out⟩
abbrev Sv:=Int×Int×Mv
def Sv.cells (x:Sv):List Value:= .int .i64 x.1:: .int .i64 x.2.1::x.2.2.cells
def Sv.sd (x:Sv):Sd:=(x.1,x.2.1,x.2.2.m)
abbrev Hv:=Int×ByteArray×Tv
def Hv.cells (x:Hv):List Value:= .int .i64 x.1:: .string x.2.1::x.2.2.cells
def Hv.hn (x:Hv):Hn:=(x.1,x.2.1,x.2.2.t)
def svs (l:List Sv):List Value:=l.flatMap Sv.cells
def hvs (l:List Hv):List Value:=l.flatMap Hv.cells
theorem a7p (l m:List Sv):svs (l++m)=svs l++svs m:=by unfold svs;simp
theorem a7q (l m:List Hv):hvs (l++m)=hvs l++hvs m:=by unfold hvs;simp
theorem b4Q (x:Sv):∀u∈x.cells,u.oneCell'=true:=fun u hu=>zz15 (show x.cells.all (·.oneCell')=true from rfl) u hu
theorem b4R (x:Hv):∀u∈x.cells,u.oneCell'=true:=fun u hu=>zz15 (show x.cells.all (·.oneCell')=true from rfl) u hu
structure OtA (w:World) (ow:Ow) (c q:Nat) (v1 v2:Value) (S:List Sv) (H:List Hv):Prop where
 row:w.heap[q]? =some (.cells #[v1,v2] 39 (0,0))
 tag:ow q=c
 s1:i7 w 50 19 v1 S.length (svs S)
 b1:∀b,v1.ownBlock=some b->ow b=c/\b≠q/\v2.ownBlock≠some b
 s2:i7 w 114 11 v2 H.length (hvs H)
 b2:∀b,v2.ownBlock=some b->ow b=c/\b≠q/\v1.ownBlock≠some b
 e1:∀x∈S,X5 w ow x.2.2
 e2:∀x∈H,a7f w ow x.2.2
def OtI (w:World) (ow:Ow) (c q:Nat) (S:List Sd) (H:List Hn):Prop:=∃v1 v2 S' H',OtA w ow c q v1 v2 S' H'/\S'.map Sv.sd=S/\H'.map Hv.hn=H
theorem OtA.mov {F:Nat->Prop} {w w':World} {ow ow':Ow} {c q:Nat} {v1 v2:Value} {S:List Sv} {H:List Hv} (h:OtA w ow c q v1 v2 S H) (s:Mov F w ow w' ow') (h0:¬F 0) (hc:¬F c):OtA w' ow' c q v1 v2 S H:=by
 have hq:=(zz7 h.row).1;have hn:∀b,ow b=c->¬F (ow b):=fun b e hf=>hc (e▸hf)
 exact ⟨s.md.heap h.row (hn q h.tag),by rw [s.old q hq];exact h.tag,h.s1.mod s.md (fun b hb=>hn b (h.b1 b hb).1),fun b hb=>by rw [s.old b (h.s1.lt b hb)];exact h.b1 b hb,
  h.s2.mod s.md (fun b hb=>hn b (h.b2 b hb).1),fun b hb=>by rw [s.old b (h.s2.lt b hb)];exact h.b2 b hb,fun x hx=>(h.e1 x hx).mov s h0,fun x hx=>(h.e2 x hx).mov s h0⟩
theorem OtI.mov {F:Nat->Prop} {w w':World} {ow ow':Ow} {c q:Nat} {S:List Sd} {H:List Hn} (h:OtI w ow c q S H) (s:Mov F w ow w' ow') (h0:¬F 0) (hc:¬F c):OtI w' ow' c q S H:=by
 obtain ⟨v1,v2,S',H',h1,h2⟩:=h;exact ⟨v1,v2,S',H',h1.mov s h0 hc,h2⟩
theorem b3D:D8 Tryz.prog 36 50 19 248:=O4 (by kernel_rfl) (by kernel_rfl)
theorem b3E:D8 Tryz.prog 37 114 11 128:=O4 (by kernel_rfl) (by kernel_rfl)
theorem OtA.app1 {w0 w wz w6 w7:World} {ow:Ow} {c q:Nat} {v1 v2 v':Value} {S:List Sv} {H:List Hv} {x:Sv} (_hw:Owd w0 w ow) (h2:2<=c) (h:OtA w ow c q v1 v2 S H) (hz:Mod (fun _=>False) w wz) (hx:X5 w ow x.2.2)
 (hA:t8 wz 50 19 v1 (S.length+1) (svs S++x.cells) v' w6) (h7:w7.heap[q]? =some (.cells #[v',v2] 39 (0,0))) (hm7:Mod (fun k=>k=q) w6 w7):
 ∃ow',OtA w7 ow' c q v' v2 (S++[x]) H/\Mov (fun t=>t=c) w ow w7 ow':=by
 obtain ⟨hA1,hA2,hA3⟩:=hA;have hql:=(zz7 h.row).1;have hzs:=hz.size;have hsz:=hA2.size;have hs7:=hm7.size;have hmA:Mod (j1 v1) w w6:=(hz.mono (fun _ _ h=>h.elim)).trans hA2 (fun b hb h=>h);have hmF:Mod (fun k=>ow k=c) w w7:=(hmA.mono (fun k _ hk=>(h.b1 k hk).1)).trans hm7 (fun k _ hk=>by have hk':k=q:=hk;rw [hk'];exact h.tag);have hmv:Mov (fun t=>t=c) w ow w7 (r8 w w7 ow (j1 v') (fun _=>True) c):=Mov.tag rfl hmF
 have hv'b:∀b,v'.ownBlock=some b->(v1.ownBlock=some b/\b<w.heap.size)\/(wz.heap.size<=b/\b<w7.heap.size):=fun b hb=>by
  rcases hA3 with e|⟨k,e,hk⟩
  ·rw [e] at hb;exact .inl ⟨hb,h.s1.lt b hb⟩
  have:=hA1.lt b hb;rw [hb] at e;cases e
  exact .inr ⟨hk,by omega⟩
 have h2l:=h.s2.lt
 have hne:∀b,v'.ownBlock=some b->b≠q/\v2.ownBlock≠some b:=fun b hb=>by
  rcases hv'b b hb with h1|h1
  ·exact (h.b1 b h1.1).2
  exact ⟨by omega,fun h3=>by have:=h2l b h3;omega⟩
 refine ⟨_,⟨h7,by rw [q7 hql];exact h.tag, ?_,fun b hb=>⟨?_,hne b hb⟩,(h.s2.mod hmA (fun b hb h3=>(h.b2 b hb).2.2 h3)).mod hm7 (fun b hb e=>(h.b2 b hb).2.1 e),fun b hb=>⟨by rw [q7 (h2l b hb)];exact (h.b2 b hb).1,(h.b2 b hb).2.1,fun h3=>(hne b h3).2 hb⟩,fun y hy=> ?_,fun y hy=>(h.e2 y hy).mov hmv (by omega)⟩,hmv⟩
 ·rw [zz4,a7p];have e:svs [x]=x.cells:=by simp [svs]
  rw [e];exact hA1.mod hm7 (fun k hk e=>(hne k hk).1 e)
 ·rcases hv'b b hb with h1|h1
  ·rw [q7 h1.2];exact (h.b1 b h1.1).1
  exact F1 (by omega) h1.2 hb
 rcases zz14 hy with hy|hy
 ·exact (h.e1 y hy).mov hmv (by omega)
 obtain rfl:=List.mem_singleton.1 hy;exact hx.mov hmv (by omega)
theorem OtA.app2 {w0 w wz w6 w7:World} {ow:Ow} {c q:Nat} {v1 v2 v':Value} {S:List Sv} {H:List Hv} {x:Hv} (_hw:Owd w0 w ow) (h2:2<=c) (h:OtA w ow c q v1 v2 S H) (hz:Mod (fun _=>False) w wz) (hx:a7f w ow x.2.2)
 (hA:t8 wz 114 11 v2 (H.length+1) (hvs H++x.cells) v' w6) (h7:w7.heap[q]? =some (.cells #[v1,v'] 39 (0,0))) (hm7:Mod (fun k=>k=q) w6 w7):
 ∃ow',OtA w7 ow' c q v1 v' S (H++[x])/\Mov (fun t=>t=c) w ow w7 ow':=by
 obtain ⟨hA1,hA2,hA3⟩:=hA;have hql:=(zz7 h.row).1;have hzs:=hz.size;have hsz:=hA2.size;have hs7:=hm7.size;have hmA:Mod (j1 v2) w w6:=(hz.mono (fun _ _ h=>h.elim)).trans hA2 (fun b hb h=>h);have hmF:Mod (fun k=>ow k=c) w w7:=(hmA.mono (fun k _ hk=>(h.b2 k hk).1)).trans hm7 (fun k _ hk=>by have hk':k=q:=hk;rw [hk'];exact h.tag);have hmv:Mov (fun t=>t=c) w ow w7 (r8 w w7 ow (j1 v') (fun _=>True) c):=Mov.tag rfl hmF
 have hv'b:∀b,v'.ownBlock=some b->(v2.ownBlock=some b/\b<w.heap.size)\/(wz.heap.size<=b/\b<w7.heap.size):=fun b hb=>by
  rcases hA3 with e|⟨k,e,hk⟩
  ·rw [e] at hb;exact .inl ⟨hb,h.s2.lt b hb⟩
  have:=hA1.lt b hb;rw [hb] at e;cases e
  exact .inr ⟨hk,by omega⟩
 have h1l:=h.s1.lt
 have hne:∀b,v'.ownBlock=some b->b≠q/\v1.ownBlock≠some b:=fun b hb=>by
  rcases hv'b b hb with h1|h1
  ·exact (h.b2 b h1.1).2
  exact ⟨by omega,fun h3=>by have:=h1l b h3;omega⟩
 refine ⟨_,⟨h7,by rw [q7 hql];exact h.tag,(h.s1.mod hmA (fun b hb h3=>(h.b1 b hb).2.2 h3)).mod hm7 (fun b hb e=>(h.b1 b hb).2.1 e),fun b hb=>⟨by rw [q7 (h1l b hb)];exact (h.b1 b hb).1,(h.b1 b hb).2.1,fun h3=>(hne b h3).2 hb⟩, ?_,fun b hb=>⟨?_,hne b hb⟩,fun y hy=>(h.e1 y hy).mov hmv (by omega),fun y hy=> ?_⟩,hmv⟩
 ·rw [zz4,a7q];have e:hvs [x]=x.cells:=by simp [hvs]
  rw [e];exact hA1.mod hm7 (fun k hk e=>(hne k hk).1 e)
 ·rcases hv'b b hb with h1|h1
  ·rw [q7 h1.2];exact (h.b2 b h1.1).1
  exact F1 (by omega) h1.2 hb
 rcases zz14 hy with hy|hy
 ·exact (h.e2 y hy).mov hmv (by omega)
 obtain rfl:=List.mem_singleton.1 hy;exact hx.mov hmv (by omega)
theorem a7r:(match Tryz.prog.underlying 48 with|some (.struct _)=>true|some (.array _ _)=>true|_=>false)=true:=by kernel_rfl
theorem b1E:(Tryz.prog.info? 48).map (·.size)=some 17:=by kernel_rfl
@[go_sem ↓] theorem b3F {ρ:Operand->Value} {dst:Option Tmp} {x:Operand} {type:TypeId} {pos:String} {after:Array Edge} {guard:Option (Nat×Bool)} {w:World} (h:a4E w (ρ x) 17):
 Sem.run Tryz.prog (execOp ρ ⟨dst,.load 48 x,type,pos,after,guard⟩) w= .ok (.value (.agg (V4 w (ρ x) 17))) w:=B3 a7r b1E h
theorem a7s:(match Tryz.prog.underlying 112 with|some (.struct _)=>true|some (.array _ _)=>true|_=>false)=true:=by kernel_rfl
theorem b1F:(Tryz.prog.info? 112).map (·.size)=some 9:=by kernel_rfl
@[go_sem ↓] theorem b3G {ρ:Operand->Value} {dst:Option Tmp} {x:Operand} {type:TypeId} {pos:String} {after:Array Edge} {guard:Option (Nat×Bool)} {w:World} (h:a4E w (ρ x) 9):
 Sem.run Tryz.prog (execOp ρ ⟨dst,.load 112 x,type,pos,after,guard⟩) w= .ok (.value (.agg (V4 w (ρ x) 9))) w:=B3 a7s b1F h
def a54 (w:World) (ow:Ow) (c q:Nat) (S:List Sd) (H:List Hn) (e:Ending) (w':World):Prop:=
 e= .returned (.tuple #[])/\∃ow',OtI w' ow' c q S H/\Mov (fun t=>t=c) w ow w' ow'
theorem b3H (w0 w:World) (ow:Ow) (c q:Nat) (S:List Sd) (Hs:List Hn) (hw:Owd w0 w ow) (h2:2<=c) (h:OtI w ow c q S Hs) (hS:S.length<=400000000000) (td ten:Int) (x:Mv) (hx:X5 w ow x):
 Calls Tryz.prog 294 #[.pointer (some ⟨q,0,none⟩),.int .i64 td,.int .i64 ten,.agg x.cells.toArray] w (a54 w ow c q (S++[(td,ten,x.m)]) Hs):=by
 obtain ⟨v1,v2,S',H',h,hSe,hHe⟩:=h;obtain ⟨a,cap,rfl,hcap⟩:∃a cc,v1= .slice a S'.length cc/\S'.length<=cc:=by obtain ⟨-,a,cc,h,h2, -⟩:=h.s1.rd;exact ⟨a,cc,h,h2⟩
 have hSl:S'.length<=400000000000:=by rw [<-hSe,zz10] at hS;exact hS
 obtain ⟨wa,hwa,hmwa,hgwa,hzwa⟩:=e8 w (.cells x.cells.toArray 48);have hql:=(zz7 h.row).1;have hgq:=hmwa.heap h.row (fun h=>h);have hS:(fun y:World=>y.cell? ⟨q,0,none⟩=some (.slice a S'.length cap)/\j9 y w.heap.size 0 17/\cellsOf y w.heap.size 0 17=([.int .i64 x.m.kind,.int .i64 x.m.at_,.int .i64 x.m.rule.kind,.int .i64 x.m.rule.tenant,.string x.m.rule.who,.int .i64 x.m.rule.broker,.string x.m.rule.sc,.slice x.ra x.m.rule.cs.length x.rc,.string x.m.rule.name,.int .i64 x.m.rule.at_,.string x.m.fs,.slice x.fa x.m.fl.length x.fc,.string x.m.es,.slice x.ea x.m.el.length x.ec,.int .i64 x.m.ver,.string x.m.org,.int .i64 x.m.ser]:List Value).toArray) wa.drew:=⟨d6 (C9 hgq) rfl,(e7.row (C9 hgwa)).all rfl,(e7.row (C9 hgwa)).is rfl⟩;have hone:=b4Q (td,ten,x);have hsl:=h.s1.mod hmwa (fun _ _ h=>h);have hwlt:w.heap.size<wa.heap.size:=by omega
 have hnq:¬j1 (.slice a S'.length cap) q:=fun e=>(h.b1 q e).2.1 rfl;obtain ⟨Hw,H,Hwa,Hmwa,Hgwa,Hgq,Hone,Hsl,Hx,HSe,HHe,Hnq⟩:=zh12 hw h hwa hmwa hgwa hgq hone hsl hx hSe hHe hnq;clear hw h hwa hmwa hgwa hgq hone hsl hx hSe hHe hnq hcap hzwa
 go_enter Tryz.func294,Tryz.ntmps294
 go_wp2_with (first|(rw [show w.alloc _=wa from Hwa.out])|fail)
 refine g8 [.rd 0,.rd 1,.rd 2,.rd 3,.rd 4,.rd 5,.rd 6,.rd 7,.rd 8,.go 9,.go 10,.go 11,.go 12,.go 13] [0,1,2,3,4,5,6,7,8,9] (fun y:World=>y.cell? ⟨q,0,none⟩=some (.slice a S'.length cap)/\j9 y w.heap.size 0 17/\cellsOf y w.heap.size 0 17=([.int .i64 x.m.kind,.int .i64 x.m.at_,.int .i64 x.m.rule.kind,.int .i64 x.m.rule.tenant,.string x.m.rule.who,.int .i64 x.m.rule.broker,.string x.m.rule.sc,.slice x.ra x.m.rule.cs.length x.rc,.string x.m.rule.name,.int .i64 x.m.rule.at_,.string x.m.fs,.slice x.fa x.m.fl.length x.fc,.string x.m.es,.slice x.ea x.m.el.length x.ec,.int .i64 x.m.ver,.string x.m.org,.int .i64 x.m.ser]:List Value).toArray) (by kernel_rfl) (by kernel_rfl) (fun _ _ d _ _ h=>(by cases d<;>exact h)) ?_
 iterate 9 (
  refine l5 rfl ?_ (fun _=>hS) ?_ (fun w0 h0=> ?_) (fun K hK=> ?_)
  ·(try simp only [zz1]);(try simp only [zz2]);(try simp only [zz3]);go_simp;done
  rotate_left
  ·(try simp only [zz1]);(try simp only [zz2]);(try simp only [zz3])
   first
    |(obtain ⟨f0,f1,f2⟩:=h0 rfl;clear h0;go_simp;with_reducible rfl)
    |(clear h0;go_simp;with_reducible rfl)
  (try simp only [zz1]);(try simp only [zz2]);(try simp only [zz3])
  go_simp;refine hK _ ?_;clear hK K)
 refine g7 (g9 rfl ?_ (fun K hK=> ?_))
 ·(try simp only [zz1]);(try simp only [zz2]);(try simp only [zz3]);go_simp;done
 (try simp only [zz1]);(try simp only [zz2]);(try simp only [zz3]);obtain ⟨wT,hwT,hmwT,hgwT,hzwT⟩:=e8 wa.drew (.cells (Sv.cells (td,ten,x)).toArray 50);have hwT':wa.drew.alloc (.cells #[.int .i64 td,.int .i64 ten,.int .i64 x.m.kind,.int .i64 x.m.at_,.int .i64 x.m.rule.kind,.int .i64 x.m.rule.tenant,.string x.m.rule.who,.int .i64 x.m.rule.broker,.string x.m.rule.sc,.slice x.ra x.m.rule.cs.length x.rc,.string x.m.rule.name,.int .i64 x.m.rule.at_,.string x.m.fs,.slice x.fa x.m.fl.length x.fc,.string x.m.es,.slice x.ea x.m.el.length x.ec,.int .i64 x.m.ver,.string x.m.org,.int .i64 x.m.ser] 50)=wT:=hwT;go_simp;refine hK _ _ (fun _ h=>⟨hmwT.cell h.1 (fun h=>h),by rw [<-hwT,Y3 _ _ _ _ _ (by show w.heap.size<wa.heap.size;omega)];exact h.2.1,by rw [<-hwT,a0v _ _ _ _ _ (by show w.heap.size<wa.heap.size;omega)];exact h.2.2⟩) ?_;clear hK K hS;have hrdT:j0 wT 19 (.slice (some ⟨wa.heap.size,0,none⟩) 1 1) 1 (Sv.cells (td,ten,x)):=hwT▸j0.one wa.drew (Sv.cells (td,ten,x)) 50 rfl;have hmaT:Mod (fun _=>False) wa wT:=((Mod.refl (fun _=>False) wa).drew).trans hmwT (fun _ _ h=>h);have hslT:=Hsl.out.mod hmaT (fun _ _ h=>h);have hm0T:=Hmwa.out.trans hmaT (fun _ _ h=>h);refine g7 (g9 rfl ?_ (fun K hK=> ?_))
 ·(try simp only [zz1]);(try simp only [zz2]);(try simp only [zz3]);go_simp;done
 (try simp only [zz1]);(try simp only [zz2]);(try simp only [zz3]);refine I0 (.tmp 12) (.tmp 17) 36 rfl 50 19 248 b3D (.slice a S'.length cap) S'.length (svs S') rfl hslT (.slice (some ⟨wa.heap.size,0,none⟩) 1 1) 1 (Sv.cells (td,ten,x)) rfl hrdT Hone.out (by omega) (by unfold maxLen;omega) (fun ad cap2 w6 hA=> ?_);refine hK _ _ (fun h=>absurd h (by decide)) ?_;clear hK K;have hg6:=hA.2.1.heap (hmaT.heap Hgq.out (fun h=>h)) Hnq.out;have k6:w6.cell? ⟨q,0,none⟩=some (.slice a S'.length cap):=d6 hg6 rfl;have f6:w6.frozen? ⟨q,0,none⟩=false:=L7 hg6;obtain ⟨HA,Hg6,HmaT,HslT,Hm0T,HrdT⟩:=zh6 hA hg6 hmaT hslT hm0T hrdT;clear hA hg6 hmaT hslT hm0T hrdT hwT hmwT hgwT hwT' hzwT;refine g7 (g9 rfl ?_ (fun K hK=> ?_))
 ·(try simp only [zz1]);(try simp only [zz2]);(try simp only [zz3]);go_simp;done
 (try simp only [zz1]);(try simp only [zz2]);(try simp only [zz3]);go_simp;refine hK _ _ (fun h=>absurd h (by decide)) ?_;clear hK K;refine g7 (g9 rfl ?_ (fun K hK=> ?_))
 ·(try simp only [zz1]);(try simp only [zz2]);(try simp only [zz3]);go_simp;done
 (try simp only [zz1]);(try simp only [zz2]);(try simp only [zz3]);go_simp;refine hK _ _ (fun h=>absurd h (by decide)) ?_;clear hK K;refine g7 (g9 rfl ?_ (fun K hK=> ?_))
 ·(try simp only [zz1]);(try simp only [zz2]);(try simp only [zz3]);go_simp;done
 (try simp only [zz1]);(try simp only [zz2]);(try simp only [zz3]);go_simp;refine hK _ _ (fun h=>absurd h (by decide)) ?_;clear hK K;refine j8 ?_;obtain ⟨w7,hw7⟩:∃w7:World,w6.setCell ⟨q,0,none⟩ (.slice ad (S'.length+1) cap2)=w7:=⟨_,rfl⟩;have hm7:Mod (fun k=>k=q) w6 w7:=hw7▸(Mod.refl (fun k=>k=q) w6).setCell (fun _=>rfl) _
 have hg7:w7.heap[q]? =some (.cells #[.slice ad (S'.length+1) cap2,v2] 39 (0,0)):=by
  rw [<-hw7];have:=p7 (i:=0) (v:= .slice ad (S'.length+1) cap2) Hg6.out;simpa using this
 obtain ⟨ow',hoA,hoM⟩:=OtA.app1 (x:=(td,ten,x)) Hw.out h2 H.out Hm0T.out Hx.out HA.out hg7 hm7;rw [hw7];obtain ⟨Hm7,Hg7,HoA,HoM,Hw7⟩:=zh5 hm7 hg7 hoA hoM hw7;clear hm7 hg7 hoA hoM hw7
 go_wp2_with fail
 go_end0
 exact ⟨rfl,ow',⟨_,_,_,_,HoA.out,by rw [List.map_append,HSe.out];rfl,HHe.out⟩,HoM.out⟩
theorem b3I (w0 w:World) (ow:Ow) (c q:Nat) (S:List Sd) (Hs:List Hn) (hw:Owd w0 w ow) (h2:2<=c) (h:OtI w ow c q S Hs) (hH:Hs.length<=400000000000) (ten:Int) (who:ByteArray) (x:Tv) (hx:a7f w ow x):
 Calls Tryz.prog 295 #[.pointer (some ⟨q,0,none⟩),.int .i64 ten,.string who,.agg x.cells.toArray] w (a54 w ow c q S (Hs++[(ten,who,x.t)])):=by
 obtain ⟨v1,v2,S',H',h,hSe,hHe⟩:=h;obtain ⟨a,cap,rfl,hcap⟩:∃a cc,v2= .slice a H'.length cc/\H'.length<=cc:=by obtain ⟨-,a,cc,h,h2, -⟩:=h.s2.rd;exact ⟨a,cc,h,h2⟩
 have hHl:H'.length<=400000000000:=by rw [<-hHe,zz10] at hH;exact hH
 obtain ⟨wa,hwa,hmwa,hgwa,hzwa⟩:=e8 w (.cells x.cells.toArray 112);have hql:=(zz7 h.row).1;have hgq:=hmwa.heap h.row (fun h=>h);have hS:(fun y:World=>y.cell? ⟨q,1,none⟩=some (.slice a H'.length cap)/\j9 y w.heap.size 0 9/\cellsOf y w.heap.size 0 9=([.int .i64 x.t.kind,.int .i64 x.t.op,.int .i64 x.t.err,.int .i64 x.t.sub,.int .i64 x.t.ser,.int .i64 x.t.ver,.string x.t.org,.string x.t.es,.slice x.ea x.t.el.length x.ec]:List Value).toArray) wa.drew:=⟨d6 (C9 hgq) rfl,(e7.row (C9 hgwa)).all rfl,(e7.row (C9 hgwa)).is rfl⟩;have hone:=b4R (ten,who,x);have hsl:=h.s2.mod hmwa (fun _ _ h=>h);have hwlt:w.heap.size<wa.heap.size:=by omega
 have hnq:¬j1 (.slice a H'.length cap) q:=fun e=>(h.b2 q e).2.1 rfl;obtain ⟨Hw,H,Hwa,Hmwa,Hgwa,Hgq,Hone,Hsl,Hx,HSe,HHe,Hnq⟩:=zh12 hw h hwa hmwa hgwa hgq hone hsl hx hSe hHe hnq;clear hw h hwa hmwa hgwa hgq hone hsl hx hSe hHe hnq hcap hzwa
 go_enter Tryz.func295,Tryz.ntmps295
 go_wp2_with (first|(rw [show w.alloc _=wa from Hwa.out])|fail)
 refine g8 [.rd 0,.rd 1,.rd 2,.rd 3,.rd 4,.rd 5,.rd 6,.rd 7,.rd 8,.go 9,.go 10,.go 11,.go 12,.go 13] [0,1,2,3,4,5,6,7,8,9] (fun y:World=>y.cell? ⟨q,1,none⟩=some (.slice a H'.length cap)/\j9 y w.heap.size 0 9/\cellsOf y w.heap.size 0 9=([.int .i64 x.t.kind,.int .i64 x.t.op,.int .i64 x.t.err,.int .i64 x.t.sub,.int .i64 x.t.ser,.int .i64 x.t.ver,.string x.t.org,.string x.t.es,.slice x.ea x.t.el.length x.ec]:List Value).toArray) (by kernel_rfl) (by kernel_rfl) (fun _ _ d _ _ h=>(by cases d<;>exact h)) ?_
 iterate 9 (
  refine l5 rfl ?_ (fun _=>hS) ?_ (fun w0 h0=> ?_) (fun K hK=> ?_)
  ·(try simp only [zz1]);(try simp only [zz2]);(try simp only [zz3]);go_simp;done
  rotate_left
  ·(try simp only [zz1]);(try simp only [zz2]);(try simp only [zz3])
   first
    |(obtain ⟨f0,f1,f2⟩:=h0 rfl;clear h0;go_simp;with_reducible rfl)
    |(clear h0;go_simp;with_reducible rfl)
  (try simp only [zz1]);(try simp only [zz2]);(try simp only [zz3])
  go_simp;refine hK _ ?_;clear hK K)
 refine g7 (g9 rfl ?_ (fun K hK=> ?_))
 ·(try simp only [zz1]);(try simp only [zz2]);(try simp only [zz3]);go_simp;done
 (try simp only [zz1]);(try simp only [zz2]);(try simp only [zz3]);obtain ⟨wT,hwT,hmwT,hgwT,hzwT⟩:=e8 wa.drew (.cells (Hv.cells (ten,who,x)).toArray 114);have hwT':wa.drew.alloc (.cells #[.int .i64 ten,.string who,.int .i64 x.t.kind,.int .i64 x.t.op,.int .i64 x.t.err,.int .i64 x.t.sub,.int .i64 x.t.ser,.int .i64 x.t.ver,.string x.t.org,.string x.t.es,.slice x.ea x.t.el.length x.ec] 114)=wT:=hwT;go_simp;refine hK _ _ (fun _ h=>⟨hmwT.cell h.1 (fun h=>h),by rw [<-hwT,Y3 _ _ _ _ _ (by show w.heap.size<wa.heap.size;omega)];exact h.2.1,by rw [<-hwT,a0v _ _ _ _ _ (by show w.heap.size<wa.heap.size;omega)];exact h.2.2⟩) ?_;clear hK K hS;have hrdT:j0 wT 11 (.slice (some ⟨wa.heap.size,0,none⟩) 1 1) 1 (Hv.cells (ten,who,x)):=hwT▸j0.one wa.drew (Hv.cells (ten,who,x)) 114 rfl;have hmaT:Mod (fun _=>False) wa wT:=((Mod.refl (fun _=>False) wa).drew).trans hmwT (fun _ _ h=>h);have hslT:=Hsl.out.mod hmaT (fun _ _ h=>h);have hm0T:=Hmwa.out.trans hmaT (fun _ _ h=>h);refine g7 (g9 rfl ?_ (fun K hK=> ?_))
 ·(try simp only [zz1]);(try simp only [zz2]);(try simp only [zz3]);go_simp;done
 (try simp only [zz1]);(try simp only [zz2]);(try simp only [zz3]);refine I0 (.tmp 12) (.tmp 17) 37 rfl 114 11 128 b3E (.slice a H'.length cap) H'.length (hvs H') rfl hslT (.slice (some ⟨wa.heap.size,0,none⟩) 1 1) 1 (Hv.cells (ten,who,x)) rfl hrdT Hone.out (by omega) (by unfold maxLen;omega) (fun ad cap2 w6 hA=> ?_);refine hK _ _ (fun h=>absurd h (by decide)) ?_;clear hK K;have hg6:=hA.2.1.heap (hmaT.heap Hgq.out (fun h=>h)) Hnq.out;have k6:w6.cell? ⟨q,1,none⟩=some (.slice a H'.length cap):=d6 hg6 rfl;have f6:w6.frozen? ⟨q,1,none⟩=false:=L7 hg6;obtain ⟨HA,Hg6,HmaT,HslT,Hm0T,HrdT⟩:=zh6 hA hg6 hmaT hslT hm0T hrdT;clear hA hg6 hmaT hslT hm0T hrdT hwT hmwT hgwT hwT' hzwT;refine g7 (g9 rfl ?_ (fun K hK=> ?_))
 ·(try simp only [zz1]);(try simp only [zz2]);(try simp only [zz3]);go_simp;done
 (try simp only [zz1]);(try simp only [zz2]);(try simp only [zz3]);go_simp;refine hK _ _ (fun h=>absurd h (by decide)) ?_;clear hK K;refine g7 (g9 rfl ?_ (fun K hK=> ?_))
 ·(try simp only [zz1]);(try simp only [zz2]);(try simp only [zz3]);go_simp;done
 (try simp only [zz1]);(try simp only [zz2]);(try simp only [zz3]);go_simp;refine hK _ _ (fun h=>absurd h (by decide)) ?_;clear hK K;refine g7 (g9 rfl ?_ (fun K hK=> ?_))
 ·(try simp only [zz1]);(try simp only [zz2]);(try simp only [zz3]);go_simp;done
 (try simp only [zz1]);(try simp only [zz2]);(try simp only [zz3]);go_simp;refine hK _ _ (fun h=>absurd h (by decide)) ?_;clear hK K;refine j8 ?_;obtain ⟨w7,hw7⟩:∃w7:World,w6.setCell ⟨q,1,none⟩ (.slice ad (H'.length+1) cap2)=w7:=⟨_,rfl⟩;have hm7:Mod (fun k=>k=q) w6 w7:=hw7▸(Mod.refl (fun k=>k=q) w6).setCell (fun _=>rfl) _
 have hg7:w7.heap[q]? =some (.cells #[v1,.slice ad (H'.length+1) cap2] 39 (0,0)):=by
  rw [<-hw7];have:=p7 (i:=1) (v:= .slice ad (H'.length+1) cap2) Hg6.out;simpa using this
 obtain ⟨ow',hoA,hoM⟩:=OtA.app2 (x:=(ten,who,x)) Hw.out h2 H.out Hm0T.out Hx.out HA.out hg7 hm7;rw [hw7];obtain ⟨Hm7,Hg7,HoA,HoM,Hw7⟩:=zh5 hm7 hg7 hoA hoM hw7;clear hm7 hg7 hoA hoM hw7
 go_wp2_with fail
 go_end0
 exact ⟨rfl,ow',⟨_,_,_,_,HoA.out,HSe.out,by rw [List.map_append,HHe.out];rfl⟩,HoM.out⟩
end
end Go.Proofs.YtaenebdppkjhoaaGreatDoor
