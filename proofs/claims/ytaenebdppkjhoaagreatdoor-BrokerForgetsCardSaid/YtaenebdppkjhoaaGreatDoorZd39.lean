/- Lemmas of this claim. -/
import Derived.Test.YtaenebdppkjhoaaGreatDoorZd37
namespace Go.Proofs.YtaenebdppkjhoaaGreatDoor
set_option maxRecDepth 20000
set_option maxHeartbeats 40000000
section
open Go.RowKit
abbrev Sv:=Int×Int×Mv
def Sv.cells (x:Sv):List Value:= .int .i64 x.1:: .int .i64 x.2.1::x.2.2.cells
def Sv.sd (x:Sv):Sd:=(x.1,x.2.1,x.2.2.m)
abbrev Hv:=Int×ByteArray×Tv
def Hv.cells (x:Hv):List Value:= .int .i64 x.1:: .string x.2.1::x.2.2.cells
def Hv.hn (x:Hv):Hn:=(x.1,x.2.1,x.2.2.t)
def svs (l:List Sv):List Value:=l.flatMap Sv.cells
def hvs (l:List Hv):List Value:=l.flatMap Hv.cells
theorem svs_append (l m:List Sv):svs (l++m)=svs l++svs m:=by unfold svs;simp
theorem hvs_append (l m:List Hv):hvs (l++m)=hvs l++hvs m:=by unfold hvs;simp
theorem sv_one (x:Sv):∀u∈x.cells,u.oneCell'=true:=fun u hu=>List.all_eq_true.1 (show x.cells.all (·.oneCell')=true from rfl) u hu
theorem hv_one (x:Hv):∀u∈x.cells,u.oneCell'=true:=fun u hu=>List.all_eq_true.1 (show x.cells.all (·.oneCell')=true from rfl) u hu
structure OtA (w:World) (ow:Ow) (c q:Nat) (v1 v2:Value) (S:List Sv) (H:List Hv):Prop where
 row:w.heap[q]? =some (.cells #[v1,v2] 39 (0,0))
 tag:ow q=c
 s1:OwnSl w 50 19 v1 S.length (svs S)
 b1:∀b,v1.ownBlock=some b→ow b=c∧b≠q∧v2.ownBlock≠some b
 s2:OwnSl w 114 11 v2 H.length (hvs H)
 b2:∀b,v2.ownBlock=some b→ow b=c∧b≠q∧v1.ownBlock≠some b
 e1:∀x∈S,MvOk w ow x.2.2
 e2:∀x∈H,TvOk w ow x.2.2
def OtI (w:World) (ow:Ow) (c q:Nat) (S:List Sd) (H:List Hn):Prop:=∃v1 v2 S' H',OtA w ow c q v1 v2 S' H'∧S'.map Sv.sd=S∧H'.map Hv.hn=H
theorem OtA.mov {F:Nat→Prop} {w w':World} {ow ow':Ow} {c q:Nat} {v1 v2:Value} {S:List Sv} {H:List Hv} (h:OtA w ow c q v1 v2 S H) (s:Mov F w ow w' ow') (h0:¬F 0) (hc:¬F c):OtA w' ow' c q v1 v2 S H:=by
 have hq:=(Array.getElem?_eq_some_iff.1 h.row).1
 have hn:∀b,ow b=c→¬F (ow b):=fun b e hf=>hc (e▸hf)
 exact ⟨s.md.heap h.row (hn q h.tag),by rw [s.old q hq];exact h.tag,h.s1.mod s.md (fun b hb=>hn b (h.b1 b hb).1),fun b hb=>by rw [s.old b (h.s1.lt b hb)];exact h.b1 b hb,
  h.s2.mod s.md (fun b hb=>hn b (h.b2 b hb).1),fun b hb=>by rw [s.old b (h.s2.lt b hb)];exact h.b2 b hb,fun x hx=>(h.e1 x hx).mov s h0,fun x hx=>(h.e2 x hx).mov s h0⟩
theorem OtI.mov {F:Nat→Prop} {w w':World} {ow ow':Ow} {c q:Nat} {S:List Sd} {H:List Hn} (h:OtI w ow c q S H) (s:Mov F w ow w' ow') (h0:¬F 0) (hc:¬F c):OtI w' ow' c q S H:=by
 obtain ⟨v1,v2,S',H',h1,h2⟩:=h
 exact ⟨v1,v2,S',H',h1.mov s h0 hc,h2⟩
theorem saids_T:SliceT Tryz.prog 36 50 19 248:=sliceT (by kernel_rfl) (by kernel_rfl)
theorem seens_T:SliceT Tryz.prog 37 114 11 128:=sliceT (by kernel_rfl) (by kernel_rfl)
theorem OtA.app1 {w0 w wz w6 w7:World} {ow:Ow} {c q:Nat} {v1 v2 v':Value} {S:List Sv} {H:List Hv} {x:Sv} (_hw:Owd w0 w ow) (h2:2≤c) (h:OtA w ow c q v1 v2 S H) (hz:Mod (fun _=>False) w wz) (hx:MvOk w ow x.2.2)
 (hA:Appended wz 50 19 v1 (S.length+1) (svs S++x.cells) v' w6) (h7:w7.heap[q]? =some (.cells #[v',v2] 39 (0,0))) (hm7:Mod (fun k=>k=q) w6 w7):
 ∃ow',OtA w7 ow' c q v' v2 (S++[x]) H∧Mov (fun t=>t=c) w ow w7 ow':=by
 obtain ⟨hA1,hA2,hA3⟩:=hA
 have hql:=(Array.getElem?_eq_some_iff.1 h.row).1
 have hzs:=hz.size
 have hsz:=hA2.size
 have hs7:=hm7.size
 have hmA:Mod (inBlock v1) w w6:=(hz.mono (fun _ _ h=>h.elim)).trans hA2 (fun b hb h=>h)
 have hmF:Mod (fun k=>ow k=c) w w7:=(hmA.mono (fun k _ hk=>(h.b1 k hk).1)).trans hm7 (fun k _ hk=>by have hk':k=q:=hk;rw [hk'];exact h.tag)
 have hmv:Mov (fun t=>t=c) w ow w7 (tagNew w w7 ow (inBlock v') (fun _=>True) c):=Mov.tag rfl hmF
 have hv'b:∀b,v'.ownBlock=some b→(v1.ownBlock=some b∧b<w.heap.size)∨(wz.heap.size≤b∧b<w7.heap.size):=fun b hb=>by
  rcases hA3 with e|⟨k,e,hk⟩
  ·rw [e] at hb
   exact .inl ⟨hb,h.s1.lt b hb⟩
  ·have:=hA1.lt b hb
   rw [hb] at e
   cases e
   exact .inr ⟨hk,by omega⟩
 have h2l:=h.s2.lt
 have hne:∀b,v'.ownBlock=some b→b≠q∧v2.ownBlock≠some b:=fun b hb=>by
  rcases hv'b b hb with h1|h1
  ·exact (h.b1 b h1.1).2
  ·exact ⟨by omega,fun h3=>by have:=h2l b h3;omega⟩
 refine ⟨_,⟨h7,by rw [tagNew_old hql];exact h.tag, ?_,fun b hb=>⟨?_,hne b hb⟩,(h.s2.mod hmA (fun b hb h3=>(h.b2 b hb).2.2 h3)).mod hm7 (fun b hb e=>(h.b2 b hb).2.1 e),fun b hb=>⟨by rw [tagNew_old (h2l b hb)];exact (h.b2 b hb).1,(h.b2 b hb).2.1,fun h3=>(hne b h3).2 hb⟩,fun y hy=> ?_,fun y hy=>(h.e2 y hy).mov hmv (by omega)⟩,hmv⟩
 ·rw [List.length_append,svs_append]
  have e:svs [x]=x.cells:=by simp [svs]
  rw [e]
  exact hA1.mod hm7 (fun k hk e=>(hne k hk).1 e)
 ·rcases hv'b b hb with h1|h1
  ·rw [tagNew_old h1.2];exact (h.b1 b h1.1).1
  ·exact tagNew_own (by omega) h1.2 hb
 ·rcases List.mem_append.1 hy with hy|hy
  ·exact (h.e1 y hy).mov hmv (by omega)
  ·obtain rfl:=List.mem_singleton.1 hy
   exact hx.mov hmv (by omega)
theorem OtA.app2 {w0 w wz w6 w7:World} {ow:Ow} {c q:Nat} {v1 v2 v':Value} {S:List Sv} {H:List Hv} {x:Hv} (_hw:Owd w0 w ow) (h2:2≤c) (h:OtA w ow c q v1 v2 S H) (hz:Mod (fun _=>False) w wz) (hx:TvOk w ow x.2.2)
 (hA:Appended wz 114 11 v2 (H.length+1) (hvs H++x.cells) v' w6) (h7:w7.heap[q]? =some (.cells #[v1,v'] 39 (0,0))) (hm7:Mod (fun k=>k=q) w6 w7):
 ∃ow',OtA w7 ow' c q v1 v' S (H++[x])∧Mov (fun t=>t=c) w ow w7 ow':=by
 obtain ⟨hA1,hA2,hA3⟩:=hA
 have hql:=(Array.getElem?_eq_some_iff.1 h.row).1
 have hzs:=hz.size
 have hsz:=hA2.size
 have hs7:=hm7.size
 have hmA:Mod (inBlock v2) w w6:=(hz.mono (fun _ _ h=>h.elim)).trans hA2 (fun b hb h=>h)
 have hmF:Mod (fun k=>ow k=c) w w7:=(hmA.mono (fun k _ hk=>(h.b2 k hk).1)).trans hm7 (fun k _ hk=>by have hk':k=q:=hk;rw [hk'];exact h.tag)
 have hmv:Mov (fun t=>t=c) w ow w7 (tagNew w w7 ow (inBlock v') (fun _=>True) c):=Mov.tag rfl hmF
 have hv'b:∀b,v'.ownBlock=some b→(v2.ownBlock=some b∧b<w.heap.size)∨(wz.heap.size≤b∧b<w7.heap.size):=fun b hb=>by
  rcases hA3 with e|⟨k,e,hk⟩
  ·rw [e] at hb
   exact .inl ⟨hb,h.s2.lt b hb⟩
  ·have:=hA1.lt b hb
   rw [hb] at e
   cases e
   exact .inr ⟨hk,by omega⟩
 have h1l:=h.s1.lt
 have hne:∀b,v'.ownBlock=some b→b≠q∧v1.ownBlock≠some b:=fun b hb=>by
  rcases hv'b b hb with h1|h1
  ·exact (h.b2 b h1.1).2
  ·exact ⟨by omega,fun h3=>by have:=h1l b h3;omega⟩
 refine ⟨_,⟨h7,by rw [tagNew_old hql];exact h.tag,(h.s1.mod hmA (fun b hb h3=>(h.b1 b hb).2.2 h3)).mod hm7 (fun b hb e=>(h.b1 b hb).2.1 e),fun b hb=>⟨by rw [tagNew_old (h1l b hb)];exact (h.b1 b hb).1,(h.b1 b hb).2.1,fun h3=>(hne b h3).2 hb⟩, ?_,fun b hb=>⟨?_,hne b hb⟩,fun y hy=>(h.e1 y hy).mov hmv (by omega),fun y hy=> ?_⟩,hmv⟩
 ·rw [List.length_append,hvs_append]
  have e:hvs [x]=x.cells:=by simp [hvs]
  rw [e]
  exact hA1.mod hm7 (fun k hk e=>(hne k hk).1 e)
 ·rcases hv'b b hb with h1|h1
  ·rw [tagNew_old h1.2];exact (h.b2 b h1.1).1
  ·exact tagNew_own (by omega) h1.2 hb
 ·rcases List.mem_append.1 hy with hy|hy
  ·exact (h.e2 y hy).mov hmv (by omega)
  ·obtain rfl:=List.mem_singleton.1 hy
   exact hx.mov hmv (by omega)
theorem msg_struct:(match Tryz.prog.underlying 48 with|some (.struct _)=>true|some (.array _ _)=>true|_=>false)=true:=by kernel_rfl
theorem msg_size:(Tryz.prog.info? 48).map (·.size)=some 17:=by kernel_rfl
@[go_sem ↓] theorem run_load_msg {ρ:Operand→Value} {dst:Option Tmp} {x:Operand} {type:TypeId} {pos:String} {after:Array Edge} {guard:Option (Nat×Bool)} {w:World} (h:AllV w (ρ x) 17):
 Sem.run Tryz.prog (execOp ρ ⟨dst,.load 48 x,type,pos,after,guard⟩) w= .ok (.value (.agg (cellsV w (ρ x) 17))) w:=run_load_all msg_struct msg_size h
theorem trc_struct:(match Tryz.prog.underlying 112 with|some (.struct _)=>true|some (.array _ _)=>true|_=>false)=true:=by kernel_rfl
theorem trc_size:(Tryz.prog.info? 112).map (·.size)=some 9:=by kernel_rfl
@[go_sem ↓] theorem run_load_trc {ρ:Operand→Value} {dst:Option Tmp} {x:Operand} {type:TypeId} {pos:String} {after:Array Edge} {guard:Option (Nat×Bool)} {w:World} (h:AllV w (ρ x) 9):
 Sem.run Tryz.prog (execOp ρ ⟨dst,.load 112 x,type,pos,after,guard⟩) w= .ok (.value (.agg (cellsV w (ρ x) 9))) w:=run_load_all trc_struct trc_size h
def SendPost (w:World) (ow:Ow) (c q:Nat) (S:List Sd) (H:List Hn) (e:Ending) (w':World):Prop:=
 e= .returned (.tuple #[])∧∃ow',OtI w' ow' c q S H∧Mov (fun t=>t=c) w ow w' ow'
theorem send_at (w0 w:World) (ow:Ow) (c q:Nat) (S:List Sd) (Hs:List Hn) (hw:Owd w0 w ow) (h2:2≤c) (h:OtI w ow c q S Hs) (hS:S.length≤400000000000) (td ten:Int) (x:Mv) (hx:MvOk w ow x):
 Calls Tryz.prog 294 #[.pointer (some ⟨q,0,none⟩),.int .i64 td,.int .i64 ten,.agg x.cells.toArray] w (SendPost w ow c q (S++[(td,ten,x.m)]) Hs):=by
 obtain ⟨v1,v2,S',H',h,hSe,hHe⟩:=h
 obtain ⟨a,cap,rfl,hcap⟩:∃a cc,v1= .slice a S'.length cc∧S'.length≤cc:=by obtain ⟨-,a,cc,h,h2, -⟩:=h.s1.rd;exact ⟨a,cc,h,h2⟩
 have hSl:S'.length≤400000000000:=by rw [←hSe,List.length_map] at hS;exact hS
 obtain ⟨wa,hwa,hmwa,hgwa,hzwa⟩:=allocE w (.cells x.cells.toArray 48)
 have hql:=(Array.getElem?_eq_some_iff.1 h.row).1
 have hgq:=hmwa.heap h.row (fun h=>h)
 have hS:(fun y:World=>y.cell? ⟨q,0,none⟩=some (.slice a S'.length cap)∧AllCells y w.heap.size 0 17∧cellsOf y w.heap.size 0 17=([.int .i64 x.m.kind,.int .i64 x.m.at_,.int .i64 x.m.rule.kind,.int .i64 x.m.rule.tenant,.string x.m.rule.who,.int .i64 x.m.rule.broker,.string x.m.rule.sc,.slice x.ra x.m.rule.cs.length x.rc,.string x.m.rule.name,.int .i64 x.m.rule.at_,.string x.m.fs,.slice x.fa x.m.fl.length x.fc,.string x.m.es,.slice x.ea x.m.el.length x.ec,.int .i64 x.m.ver,.string x.m.org,.int .i64 x.m.ser]:List Value).toArray) wa.drew:=⟨cell_of (heap_drew_ hgq) rfl,(CellsAt.row (heap_drew_ hgwa)).all rfl,(CellsAt.row (heap_drew_ hgwa)).is rfl⟩
 have hone:=sv_one (td,ten,x)
 have hsl:=h.s1.mod hmwa (fun _ _ h=>h)
 have hwlt:w.heap.size<wa.heap.size:=by omega
 have hnq:¬inBlock (.slice a S'.length cap) q:=fun e=>(h.b1 q e).2.1 rfl
 have Hw:=Lib.hid hw
 have H:=Lib.hid h
 have Hwa:=Lib.hid hwa
 have Hmwa:=Lib.hid hmwa
 have Hgwa:=Lib.hid hgwa
 have Hgq:=Lib.hid hgq
 have Hone:=Lib.hid hone
 have Hsl:=Lib.hid hsl
 have Hx:=Lib.hid hx
 have HSe:=Lib.hid hSe
 have HHe:=Lib.hid hHe
 have Hnq:=Lib.hid hnq
 clear hw h hwa hmwa hgwa hgq hone hsl hx hSe hHe hnq hcap hzwa
 go_enter Tryz.func294,Tryz.ntmps294
 go_wp2_with (first|(rw [show w.alloc _=wa from Hwa.out])|fail)
 refine wp_region_script [.rd 0,.rd 1,.rd 2,.rd 3,.rd 4,.rd 5,.rd 6,.rd 7,.rd 8,.go 9,.go 10,.go 11,.go 12,.go 13] [0,1,2,3,4,5,6,7,8,9] (fun y:World=>y.cell? ⟨q,0,none⟩=some (.slice a S'.length cap)∧AllCells y w.heap.size 0 17∧cellsOf y w.heap.size 0 17=([.int .i64 x.m.kind,.int .i64 x.m.at_,.int .i64 x.m.rule.kind,.int .i64 x.m.rule.tenant,.string x.m.rule.who,.int .i64 x.m.rule.broker,.string x.m.rule.sc,.slice x.ra x.m.rule.cs.length x.rc,.string x.m.rule.name,.int .i64 x.m.rule.at_,.string x.m.fs,.slice x.fa x.m.fl.length x.fc,.string x.m.es,.slice x.ea x.m.el.length x.ec,.int .i64 x.m.ver,.string x.m.org,.int .i64 x.m.ser]:List Value).toArray) (by kernel_rfl) (by kernel_rfl) (fun _ _ d _ _ h=>(by cases d<;>exact h)) ?_
 iterate 9 (
  refine walk_rd rfl ?_ (fun _=>hS) ?_ (fun w0 h0=> ?_) (fun K hK=> ?_)
  ·(try simp only [List.getElem_toArray]);(try simp only [List.getElem_cons_succ]);(try simp only [List.getElem_cons_zero])
   go_simp;done
  rotate_left
  ·(try simp only [List.getElem_toArray]);(try simp only [List.getElem_cons_succ]);(try simp only [List.getElem_cons_zero])
   first
    |(obtain ⟨f0,f1,f2⟩:=h0 rfl;clear h0;go_simp;with_reducible rfl)
    |(clear h0;go_simp;with_reducible rfl)
  (try simp only [List.getElem_toArray]);(try simp only [List.getElem_cons_succ]);(try simp only [List.getElem_cons_zero])
  go_simp;refine hK _ ?_;clear hK K)
 refine walk_one (go_yes rfl ?_ (fun K hK=> ?_))
 ·(try simp only [List.getElem_toArray]);(try simp only [List.getElem_cons_succ]);(try simp only [List.getElem_cons_zero])
  go_simp;done
 (try simp only [List.getElem_toArray]);(try simp only [List.getElem_cons_succ]);(try simp only [List.getElem_cons_zero])
 obtain ⟨wT,hwT,hmwT,hgwT,hzwT⟩:=allocE wa.drew (.cells (Sv.cells (td,ten,x)).toArray 50)
 have hwT':wa.drew.alloc (.cells #[.int .i64 td,.int .i64 ten,.int .i64 x.m.kind,.int .i64 x.m.at_,.int .i64 x.m.rule.kind,.int .i64 x.m.rule.tenant,.string x.m.rule.who,.int .i64 x.m.rule.broker,.string x.m.rule.sc,.slice x.ra x.m.rule.cs.length x.rc,.string x.m.rule.name,.int .i64 x.m.rule.at_,.string x.m.fs,.slice x.fa x.m.fl.length x.fc,.string x.m.es,.slice x.ea x.m.el.length x.ec,.int .i64 x.m.ver,.string x.m.org,.int .i64 x.m.ser] 50)=wT:=hwT
 go_simp
 refine hK _ _ (fun _ h=>⟨hmwT.cell h.1 (fun h=>h),by rw [←hwT,AllCells_alloc _ _ _ _ _ (by show w.heap.size<wa.heap.size;omega)];exact h.2.1,by rw [←hwT,cellsOf_alloc _ _ _ _ _ (by show w.heap.size<wa.heap.size;omega)];exact h.2.2⟩) ?_
 clear hK K hS
 have hrdT:RdSl wT 19 (.slice (some ⟨wa.heap.size,0,none⟩) 1 1) 1 (Sv.cells (td,ten,x)):=hwT▸RdSl.one wa.drew (Sv.cells (td,ten,x)) 50 rfl
 have hmaT:Mod (fun _=>False) wa wT:=((Mod.refl (fun _=>False) wa).drew).trans hmwT (fun _ _ h=>h)
 have hslT:=Hsl.out.mod hmaT (fun _ _ h=>h)
 have hm0T:=Hmwa.out.trans hmaT (fun _ _ h=>h)
 refine walk_one (go_yes rfl ?_ (fun K hK=> ?_))
 ·(try simp only [List.getElem_toArray]);(try simp only [List.getElem_cons_succ]);(try simp only [List.getElem_cons_zero])
  go_simp;done
 (try simp only [List.getElem_toArray]);(try simp only [List.getElem_cons_succ]);(try simp only [List.getElem_cons_zero])
 refine wp_append_sl (.tmp 12) (.tmp 17) 36 rfl 50 19 248 saids_T (.slice a S'.length cap) S'.length (svs S') rfl hslT (.slice (some ⟨wa.heap.size,0,none⟩) 1 1) 1 (Sv.cells (td,ten,x)) rfl hrdT Hone.out (by omega) (by unfold maxLen;omega) (fun ad cap2 w6 hA=> ?_)
 refine hK _ _ (fun h=>absurd h (by decide)) ?_
 clear hK K
 have hg6:=hA.2.1.heap (hmaT.heap Hgq.out (fun h=>h)) Hnq.out
 have k6:w6.cell? ⟨q,0,none⟩=some (.slice a S'.length cap):=cell_of hg6 rfl
 have f6:w6.frozen? ⟨q,0,none⟩=false:=fr_of hg6
 have HA:=Lib.hid hA
 have Hg6:=Lib.hid hg6
 have HmaT:=Lib.hid hmaT
 have HslT:=Lib.hid hslT
 have Hm0T:=Lib.hid hm0T
 have HrdT:=Lib.hid hrdT
 clear hA hg6 hmaT hslT hm0T hrdT hwT hmwT hgwT hwT' hzwT
 refine walk_one (go_yes rfl ?_ (fun K hK=> ?_))
 ·(try simp only [List.getElem_toArray]);(try simp only [List.getElem_cons_succ]);(try simp only [List.getElem_cons_zero])
  go_simp;done
 (try simp only [List.getElem_toArray]);(try simp only [List.getElem_cons_succ]);(try simp only [List.getElem_cons_zero])
 go_simp
 refine hK _ _ (fun h=>absurd h (by decide)) ?_
 clear hK K
 refine walk_one (go_yes rfl ?_ (fun K hK=> ?_))
 ·(try simp only [List.getElem_toArray]);(try simp only [List.getElem_cons_succ]);(try simp only [List.getElem_cons_zero])
  go_simp;done
 (try simp only [List.getElem_toArray]);(try simp only [List.getElem_cons_succ]);(try simp only [List.getElem_cons_zero])
 go_simp
 refine hK _ _ (fun h=>absurd h (by decide)) ?_
 clear hK K
 refine walk_one (go_yes rfl ?_ (fun K hK=> ?_))
 ·(try simp only [List.getElem_toArray]);(try simp only [List.getElem_cons_succ]);(try simp only [List.getElem_cons_zero])
  go_simp;done
 (try simp only [List.getElem_toArray]);(try simp only [List.getElem_cons_succ]);(try simp only [List.getElem_cons_zero])
 go_simp
 refine hK _ _ (fun h=>absurd h (by decide)) ?_
 clear hK K
 refine walk_nil ?_
 obtain ⟨w7,hw7⟩:∃w7:World,w6.setCell ⟨q,0,none⟩ (.slice ad (S'.length+1) cap2)=w7:=⟨_,rfl⟩
 have hm7:Mod (fun k=>k=q) w6 w7:=hw7▸(Mod.refl (fun k=>k=q) w6).setCell (fun _=>rfl) _
 have hg7:w7.heap[q]? =some (.cells #[.slice ad (S'.length+1) cap2,v2] 39 (0,0)):=by
  rw [←hw7]
  have:=heap_set (i:=0) (v:= .slice ad (S'.length+1) cap2) Hg6.out
  simpa using this
 obtain ⟨ow',hoA,hoM⟩:=OtA.app1 (x:=(td,ten,x)) Hw.out h2 H.out Hm0T.out Hx.out HA.out hg7 hm7
 rw [hw7]
 have Hm7:=Lib.hid hm7
 have Hg7:=Lib.hid hg7
 have HoA:=Lib.hid hoA
 have HoM:=Lib.hid hoM
 have Hw7:=Lib.hid hw7
 clear hm7 hg7 hoA hoM hw7
 go_wp2_with fail
 go_end0
 exact ⟨rfl,ow',⟨_,_,_,_,HoA.out,by rw [List.map_append,HSe.out];rfl,HHe.out⟩,HoM.out⟩
theorem show_at (w0 w:World) (ow:Ow) (c q:Nat) (S:List Sd) (Hs:List Hn) (hw:Owd w0 w ow) (h2:2≤c) (h:OtI w ow c q S Hs) (hH:Hs.length≤400000000000) (ten:Int) (who:ByteArray) (x:Tv) (hx:TvOk w ow x):
 Calls Tryz.prog 295 #[.pointer (some ⟨q,0,none⟩),.int .i64 ten,.string who,.agg x.cells.toArray] w (SendPost w ow c q S (Hs++[(ten,who,x.t)])):=by
 obtain ⟨v1,v2,S',H',h,hSe,hHe⟩:=h
 obtain ⟨a,cap,rfl,hcap⟩:∃a cc,v2= .slice a H'.length cc∧H'.length≤cc:=by obtain ⟨-,a,cc,h,h2, -⟩:=h.s2.rd;exact ⟨a,cc,h,h2⟩
 have hHl:H'.length≤400000000000:=by rw [←hHe,List.length_map] at hH;exact hH
 obtain ⟨wa,hwa,hmwa,hgwa,hzwa⟩:=allocE w (.cells x.cells.toArray 112)
 have hql:=(Array.getElem?_eq_some_iff.1 h.row).1
 have hgq:=hmwa.heap h.row (fun h=>h)
 have hS:(fun y:World=>y.cell? ⟨q,1,none⟩=some (.slice a H'.length cap)∧AllCells y w.heap.size 0 9∧cellsOf y w.heap.size 0 9=([.int .i64 x.t.kind,.int .i64 x.t.op,.int .i64 x.t.err,.int .i64 x.t.sub,.int .i64 x.t.ser,.int .i64 x.t.ver,.string x.t.org,.string x.t.es,.slice x.ea x.t.el.length x.ec]:List Value).toArray) wa.drew:=⟨cell_of (heap_drew_ hgq) rfl,(CellsAt.row (heap_drew_ hgwa)).all rfl,(CellsAt.row (heap_drew_ hgwa)).is rfl⟩
 have hone:=hv_one (ten,who,x)
 have hsl:=h.s2.mod hmwa (fun _ _ h=>h)
 have hwlt:w.heap.size<wa.heap.size:=by omega
 have hnq:¬inBlock (.slice a H'.length cap) q:=fun e=>(h.b2 q e).2.1 rfl
 have Hw:=Lib.hid hw
 have H:=Lib.hid h
 have Hwa:=Lib.hid hwa
 have Hmwa:=Lib.hid hmwa
 have Hgwa:=Lib.hid hgwa
 have Hgq:=Lib.hid hgq
 have Hone:=Lib.hid hone
 have Hsl:=Lib.hid hsl
 have Hx:=Lib.hid hx
 have HSe:=Lib.hid hSe
 have HHe:=Lib.hid hHe
 have Hnq:=Lib.hid hnq
 clear hw h hwa hmwa hgwa hgq hone hsl hx hSe hHe hnq hcap hzwa
 go_enter Tryz.func295,Tryz.ntmps295
 go_wp2_with (first|(rw [show w.alloc _=wa from Hwa.out])|fail)
 refine wp_region_script [.rd 0,.rd 1,.rd 2,.rd 3,.rd 4,.rd 5,.rd 6,.rd 7,.rd 8,.go 9,.go 10,.go 11,.go 12,.go 13] [0,1,2,3,4,5,6,7,8,9] (fun y:World=>y.cell? ⟨q,1,none⟩=some (.slice a H'.length cap)∧AllCells y w.heap.size 0 9∧cellsOf y w.heap.size 0 9=([.int .i64 x.t.kind,.int .i64 x.t.op,.int .i64 x.t.err,.int .i64 x.t.sub,.int .i64 x.t.ser,.int .i64 x.t.ver,.string x.t.org,.string x.t.es,.slice x.ea x.t.el.length x.ec]:List Value).toArray) (by kernel_rfl) (by kernel_rfl) (fun _ _ d _ _ h=>(by cases d<;>exact h)) ?_
 iterate 9 (
  refine walk_rd rfl ?_ (fun _=>hS) ?_ (fun w0 h0=> ?_) (fun K hK=> ?_)
  ·(try simp only [List.getElem_toArray]);(try simp only [List.getElem_cons_succ]);(try simp only [List.getElem_cons_zero])
   go_simp;done
  rotate_left
  ·(try simp only [List.getElem_toArray]);(try simp only [List.getElem_cons_succ]);(try simp only [List.getElem_cons_zero])
   first
    |(obtain ⟨f0,f1,f2⟩:=h0 rfl;clear h0;go_simp;with_reducible rfl)
    |(clear h0;go_simp;with_reducible rfl)
  (try simp only [List.getElem_toArray]);(try simp only [List.getElem_cons_succ]);(try simp only [List.getElem_cons_zero])
  go_simp;refine hK _ ?_;clear hK K)
 refine walk_one (go_yes rfl ?_ (fun K hK=> ?_))
 ·(try simp only [List.getElem_toArray]);(try simp only [List.getElem_cons_succ]);(try simp only [List.getElem_cons_zero])
  go_simp;done
 (try simp only [List.getElem_toArray]);(try simp only [List.getElem_cons_succ]);(try simp only [List.getElem_cons_zero])
 obtain ⟨wT,hwT,hmwT,hgwT,hzwT⟩:=allocE wa.drew (.cells (Hv.cells (ten,who,x)).toArray 114)
 have hwT':wa.drew.alloc (.cells #[.int .i64 ten,.string who,.int .i64 x.t.kind,.int .i64 x.t.op,.int .i64 x.t.err,.int .i64 x.t.sub,.int .i64 x.t.ser,.int .i64 x.t.ver,.string x.t.org,.string x.t.es,.slice x.ea x.t.el.length x.ec] 114)=wT:=hwT
 go_simp
 refine hK _ _ (fun _ h=>⟨hmwT.cell h.1 (fun h=>h),by rw [←hwT,AllCells_alloc _ _ _ _ _ (by show w.heap.size<wa.heap.size;omega)];exact h.2.1,by rw [←hwT,cellsOf_alloc _ _ _ _ _ (by show w.heap.size<wa.heap.size;omega)];exact h.2.2⟩) ?_
 clear hK K hS
 have hrdT:RdSl wT 11 (.slice (some ⟨wa.heap.size,0,none⟩) 1 1) 1 (Hv.cells (ten,who,x)):=hwT▸RdSl.one wa.drew (Hv.cells (ten,who,x)) 114 rfl
 have hmaT:Mod (fun _=>False) wa wT:=((Mod.refl (fun _=>False) wa).drew).trans hmwT (fun _ _ h=>h)
 have hslT:=Hsl.out.mod hmaT (fun _ _ h=>h)
 have hm0T:=Hmwa.out.trans hmaT (fun _ _ h=>h)
 refine walk_one (go_yes rfl ?_ (fun K hK=> ?_))
 ·(try simp only [List.getElem_toArray]);(try simp only [List.getElem_cons_succ]);(try simp only [List.getElem_cons_zero])
  go_simp;done
 (try simp only [List.getElem_toArray]);(try simp only [List.getElem_cons_succ]);(try simp only [List.getElem_cons_zero])
 refine wp_append_sl (.tmp 12) (.tmp 17) 37 rfl 114 11 128 seens_T (.slice a H'.length cap) H'.length (hvs H') rfl hslT (.slice (some ⟨wa.heap.size,0,none⟩) 1 1) 1 (Hv.cells (ten,who,x)) rfl hrdT Hone.out (by omega) (by unfold maxLen;omega) (fun ad cap2 w6 hA=> ?_)
 refine hK _ _ (fun h=>absurd h (by decide)) ?_
 clear hK K
 have hg6:=hA.2.1.heap (hmaT.heap Hgq.out (fun h=>h)) Hnq.out
 have k6:w6.cell? ⟨q,1,none⟩=some (.slice a H'.length cap):=cell_of hg6 rfl
 have f6:w6.frozen? ⟨q,1,none⟩=false:=fr_of hg6
 have HA:=Lib.hid hA
 have Hg6:=Lib.hid hg6
 have HmaT:=Lib.hid hmaT
 have HslT:=Lib.hid hslT
 have Hm0T:=Lib.hid hm0T
 have HrdT:=Lib.hid hrdT
 clear hA hg6 hmaT hslT hm0T hrdT hwT hmwT hgwT hwT' hzwT
 refine walk_one (go_yes rfl ?_ (fun K hK=> ?_))
 ·(try simp only [List.getElem_toArray]);(try simp only [List.getElem_cons_succ]);(try simp only [List.getElem_cons_zero])
  go_simp;done
 (try simp only [List.getElem_toArray]);(try simp only [List.getElem_cons_succ]);(try simp only [List.getElem_cons_zero])
 go_simp
 refine hK _ _ (fun h=>absurd h (by decide)) ?_
 clear hK K
 refine walk_one (go_yes rfl ?_ (fun K hK=> ?_))
 ·(try simp only [List.getElem_toArray]);(try simp only [List.getElem_cons_succ]);(try simp only [List.getElem_cons_zero])
  go_simp;done
 (try simp only [List.getElem_toArray]);(try simp only [List.getElem_cons_succ]);(try simp only [List.getElem_cons_zero])
 go_simp
 refine hK _ _ (fun h=>absurd h (by decide)) ?_
 clear hK K
 refine walk_one (go_yes rfl ?_ (fun K hK=> ?_))
 ·(try simp only [List.getElem_toArray]);(try simp only [List.getElem_cons_succ]);(try simp only [List.getElem_cons_zero])
  go_simp;done
 (try simp only [List.getElem_toArray]);(try simp only [List.getElem_cons_succ]);(try simp only [List.getElem_cons_zero])
 go_simp
 refine hK _ _ (fun h=>absurd h (by decide)) ?_
 clear hK K
 refine walk_nil ?_
 obtain ⟨w7,hw7⟩:∃w7:World,w6.setCell ⟨q,1,none⟩ (.slice ad (H'.length+1) cap2)=w7:=⟨_,rfl⟩
 have hm7:Mod (fun k=>k=q) w6 w7:=hw7▸(Mod.refl (fun k=>k=q) w6).setCell (fun _=>rfl) _
 have hg7:w7.heap[q]? =some (.cells #[v1,.slice ad (H'.length+1) cap2] 39 (0,0)):=by
  rw [←hw7]
  have:=heap_set (i:=1) (v:= .slice ad (H'.length+1) cap2) Hg6.out
  simpa using this
 obtain ⟨ow',hoA,hoM⟩:=OtA.app2 (x:=(ten,who,x)) Hw.out h2 H.out Hm0T.out Hx.out HA.out hg7 hm7
 rw [hw7]
 have Hm7:=Lib.hid hm7
 have Hg7:=Lib.hid hg7
 have HoA:=Lib.hid hoA
 have HoM:=Lib.hid hoM
 have Hw7:=Lib.hid hw7
 clear hm7 hg7 hoA hoM hw7
 go_wp2_with fail
 go_end0
 exact ⟨rfl,ow',⟨_,_,_,_,HoA.out,HSe.out,by rw [List.map_append,HHe.out];rfl⟩,HoM.out⟩
end
end Go.Proofs.YtaenebdppkjhoaaGreatDoor
