/- Lemmas of this claim. -/
import Derived.Test.YtaenebdppkjhoaaGreatDoorZd31
import Derived.Sort.KeysCollected
namespace Go.Proofs.YtaenebdppkjhoaaGreatDoor
set_option maxRecDepth 20000
set_option maxHeartbeats 40000000
section
open Go.RowKit
theorem idxF_new {I:List (Int×Fil)} {id:Int} {q:Fil} (h:idxF I id=none) (x:Int):idxF (I++[(id,q)]) x=if x=id then some q else idxF I x:=by
 unfold idxF at*
 rw [List.find?_append]
 by_cases hx:x=id
 ·subst hx
  rw [if_pos rfl]
  have:I.find? (fun p=>p.1==x)=none:=by
   cases hf:I.find? (fun p=>p.1==x) with
   |none=>rfl
   |some p=>rw [hf] at h;cases h
  rw [this]
  simp
 ·rw [if_neg hx]
  cases hf:I.find? (fun p=>p.1==x) with
  |some p=>rfl
  |none=>
   have:(id==x)=false:=by rw [beq_eq_false_iff_ne];exact fun e=>hx e.symm
   simp [this]
theorem idxF_none {I:List (Int×Fil)} {id:Int} (h:idxF I id=none):id∉I.map Prod.fst:=by
 intro hm
 obtain ⟨p,hp,rfl⟩:=List.mem_map.1 hm
 unfold idxF at h
 cases hf:I.find? (fun q=>q.1==p.1) with
 |none=>
  have:=List.find?_eq_none.1 hf p hp
  simp at this
 |some q=>rw [hf] at h;cases h
theorem normC_mem {l:List Cnd} {c:Cnd} (h:c∈normC l):c∈sortC l:=by
 unfold normC keepC at h
 obtain ⟨⟨d,i⟩,h1,h2⟩:=List.mem_filterMap.1 h
 have h3:=(List.mem_zipIdx h1).2.2
 rw [h3] at h2
 simp only at h2
 split at h2
 ·cases h2
 ·cases h2
  exact List.mem_of_mem_take (List.getElem_mem _)
theorem normC_len (l:List Cnd):(normC l).length≤l.length:=by
 unfold normC
 exact keepC_len _ _
theorem normC_fits {l:List Cnd} (hl:∀c∈l,c.fits):∀c∈normC l,c.fits:=fun c hc=>by
 obtain ⟨d,hd,rfl⟩:=sortC_mem (normC_mem hc)
 exact norm_fits (hl d hd)
theorem zero_pl (w:World):(zeroValue 179).run Tryz.prog w= .ok nilS w:=by kernel_rfl
def AddS (b m2 cb:Nat) (n:Nat) (f:Lit→Option Value) (v:Value) (x:Cnd) (y:World):Prop:=
 y.cell? ⟨b,1,none⟩=some (.map (some m2))∧y.cell? ⟨cb,0,none⟩=some (.string x.name)∧AllCells y cb 0 7∧cellsOf y cb 0 7=#[.string x.name,.int .i64 x.op,.int .i64 x.v.kind,.int .i64 x.v.int,.float .f64 x.v.num,.string x.v.text,.bool x.v.yes]∧
  MapR y 9 m2 n f∧(Instr.lookup 158 (.map (some m2)) (.string x.name) false).run Tryz.prog y= .ok v y
theorem AddS.at {y:World} {b m1 m2 cb n:Nat} {f:Lit→Option Value} {v:Value} {x:Cnd} (h1:y.heap[b]? =some (.cells #[.map (some m1),.map (some m2)] 160 (0,0))) (h2:y.heap[cb]? =some (.cells x.cells.toArray 132 (0,0)))
 (h3:MapR y 9 m2 n f) (hv:(f (Lit.str x.name)).getD nilS=v) (hx:x.name.size≤1000000):AddS b m2 cb n f v x y:=by
 refine ⟨cell_of h1 rfl,cell_of h2 rfl,(CellsAt.row h2).all rfl,(CellsAt.row h2).is rfl,h3, ?_⟩
 rw [←hv]
 exact h3.look keyed_s Tryz.underlying158 (zero_pl y) (WideMaps.keyOf_string_mk Tryz.underlying9 (by unfold maxLen;omega))
def IAddRel (w4:World) (b m1 m2:Nat) (own:Nat→Prop) (I:List (Int×Fil)) (T:Nat) (id:Int) (sc:ByteArray) (nl:List Cnd) (i:Value) (wr:World):Prop:=
 ∃j:Nat,i= .int .i64 j∧j≤nl.length∧PMap wr b m1 m2 (fun k=>own k∨w4.heap.size≤k) (I++[(id,(sc,nl.take j))]) (T+j)∧Mod (fun k=>own k∧k≠m1∧k≠b) w4 wr
def IAddPost (w:World) (b:Nat) (own C:Nat→Prop) (I:List (Int×Fil)) (T:Nat) (id:Int) (sc:ByteArray) (l:List Cnd) (e:Ending) (w':World):Prop:=
 (idxF I id≠none∧e= .returned (.bool false)∧Mod (fun _=>False) w w')∨
 (idxF I id=none∧e= .returned (.bool true)∧∃own' C',Idx w' b own' C' (I++[(id,(sc,normC l))]) (T+20)∧(∀k,own k→own' k)∧(∀k,own' k→own k∨w.heap.size≤k)∧(∀k,C' k→C k∨w.heap.size≤k)∧Mod own w w')
theorem zero_fil (w:World):(zeroValue 33).run Tryz.prog w= .ok (.agg #[.string ⟨#[]⟩,.slice none 0 0]) w:=by kernel_rfl
theorem places_T:SliceT Tryz.prog 179 181 8 80:=sliceT (by kernel_rfl) (by kernel_rfl)
theorem str_inj {a b:ByteArray} (h:Lit.str a=Lit.str b):a=b:=by
 unfold Lit.str at h
 exact ByteArray.ext (Array.toList_inj.1 (Lit.string.inj h))
theorem pmap_step {wr wz w5 w6:World} {b m1 m2 n T:Nat} {ownL:Nat→Prop} {I I':List (Int×Fil)} {f:Lit→Option Value} {x:Cnd} {id:Int} {v v':Value} {ps:List (Int×Cnd)}
 (h2:n≤T) (h3:∀nm:ByteArray,Plac wr ownL I T nm ((f (Lit.str nm)).getD nilS)) (h4:∀nm k,((f (Lit.str nm)).getD nilS).ownBlock=some k→k≠b∧k≠m1∧k≠m2)
 (h5:∀nm nm' k,((f (Lit.str nm)).getD nilS).ownBlock=some k→((f (Lit.str nm')).getD nilS).ownBlock=some k→nm=nm') (hv:(f (Lit.str x.name)).getD nilS=v)
 (hpT:ps.length≤T) (hpi:∀id,(ps.filter fun p=>p.1==id).map Prod.snd=ofName (idxF I id) x.name)
 (hz:Mod (fun _=>False) wr wz) (ha:Appended wz 181 8 v (ps.length+1) (pls ps++pcell (id,x)) v' w5)
 (h6:MapR w6 9 m2 (if (f (Lit.str x.name)).isSome then n else n+1) (putF f (Lit.str x.name) v')) (hm6:Mod (fun k=>k=m2) w5 w6) (hL:∀k,wr.heap.size≤k→ownL k) (hb:b<wr.heap.size∧m1<wr.heap.size∧m2<wr.heap.size)
 (hI:∀id' nm',ofName (idxF I' id') nm'=ofName (idxF I id') nm'++if id'=id∧nm'=x.name then [x] else []):PMap w6 b m1 m2 ownL I' (T+1):=by
 obtain ⟨a1,a2,a3⟩:=ha
 have hvb:=h4 x.name
 rw [hv] at hvb
 have hnew:∀k,v'.ownBlock=some k→(v.ownBlock=some k)∨wr.heap.size≤k:=fun k hk=>by
  rcases a3 with a3|⟨k',a3,a4⟩
  ·exact .inl (a3▸hk)
  ·rw [a3] at hk;cases hk;exact .inr (Nat.le_trans hz.size a4)
 obtain ⟨ps0,q1,q2,q3,q4⟩:=h3 x.name
 rw [hv] at q1 q3
 have look:∀nm,(putF f (Lit.str x.name) v' (Lit.str nm)).getD nilS=if nm=x.name then v' else (f (Lit.str nm)).getD nilS:=fun nm=>by
  unfold putF
  by_cases e:nm=x.name
  ·rw [if_pos e,if_pos (by rw [e])];rfl
  ·rw [if_neg e,if_neg (fun e'=>e (str_inj e'))]
 refine ⟨_,_,h6,by split<;>omega,fun nm=> ?_,fun nm k hk=> ?_,fun nm nm' k hk hk'=> ?_⟩
 ·rw [look]
  by_cases e:nm=x.name
  ·rw [if_pos e]
   subst e
   refine ⟨ps++[(id,x)], ?_,by rw [List.length_append];simp;omega,fun k hk=> ?_,fun id'=> ?_⟩
   ·rw [pls_append,List.length_append,show pls [(id,x)]=pcell (id,x) from List.append_nil _]
    refine a1.mod hm6 fun k hk e=> ?_
    rcases hnew k hk with h|h
    ·exact (hvb k h).2.2 e
    ·omega
   ·rcases hnew k hk with h|h
    ·exact q3 k h
    ·exact hL k h
   ·rw [hI,List.filter_append,List.map_append,hpi]
    congr 1
    by_cases e:id'=id
    ·subst e
     rw [if_pos ⟨rfl,rfl⟩]
     simp
    ·rw [if_neg (fun h=>e h.1)]
     have:(id==id')=false:=by rw [beq_eq_false_iff_ne];exact fun h=>e h.symm
     simp [this]
  ·rw [if_neg e]
   obtain ⟨qs,r1,r2,r3,r4⟩:=h3 nm
   refine ⟨qs, ?_,by omega,r3,fun id'=> ?_⟩
   ·refine ((r1.mod hz (fun _ _ h=>h)).mod a2 (fun k hk hi=> ?_)).mod hm6 (fun k hk e'=>(h4 nm k hk).2.2 e')
    exact e (h5 nm x.name k hk (by rw [hv];exact hi))
   ·rw [hI,if_neg (fun h=>e h.2),List.append_nil];exact r4 id'
 ·rw [look] at hk
  by_cases e:nm=x.name
  ·rw [if_pos e] at hk
   rcases hnew k hk with h|h
   ·exact hvb k h
   ·omega
  ·rw [if_neg e] at hk
   exact h4 nm k hk
 ·rw [look] at hk hk'
  have lt:∀nm k,((f (Lit.str nm)).getD nilS).ownBlock=some k→k<wr.heap.size:=fun nm k hk=>by
   obtain ⟨qs,r1, -⟩:=h3 nm
   exact r1.lt k hk
  by_cases e:nm=x.name<;>by_cases e':nm'=x.name
  ·rw [e,e']
  ·rw [if_pos e] at hk
   rw [if_neg e'] at hk'
   rcases hnew k hk with h|h
   ·rw [e];exact h5 x.name nm' k (by rw [hv];exact h) hk'
   ·have:=lt nm' k hk';omega
  ·rw [if_neg e] at hk
   rw [if_pos e'] at hk'
   rcases hnew k hk' with h|h
   ·rw [e'];exact h5 nm x.name k hk (by rw [hv];exact h)
   ·have:=lt nm k hk;omega
  ·rw [if_neg e] at hk
   rw [if_neg e'] at hk'
   exact h5 nm nm' k hk hk'
theorem wp_mput {o:Oper} {a:Act} {w:World} {K:Act→World→Prop} {Q:Exit→Act→World→Prop} (t:TypeId) (m x v:Operand) (ho:o.op= .mapUpdate t m x v)
 (h:∃(kt e:TypeId) (b n:Nat) (f:Lit→Option Value) (kl:Lit),MapR w kt b n f∧Maps.Keyed Tryz.prog kt∧Tryz.prog.underlying t=some (.map kt e)∧n<maxLen∧a.eval m= .map (some b)∧keyOf Tryz.prog kt (a.eval x)=some kl∧
   ∀w',MapR w' kt b (if (f kl).isSome then n else n+1) (putF f kl (a.eval v))→Mod (fun k=>k=b) w w'→K (a.put o.dst undef) w'):o.wp Tryz.prog a w K Q:=by
 obtain ⟨kt,e,b,n,f,kl,h1,K1,ht,hn,hm,hkey,hK⟩:=h
 obtain ⟨w',hrun,r1,r2⟩:=h1.put K1 ht hn hkey (a.eval v)
 unfold Oper.wp
 simp [execOp,ho,hm,hrun,Result.andThen]
 exact hK w' r1 r2
theorem FMap.anti {w:World} {m1:Nat} {own own' C:Nat→Prop} {I:List (Int×Fil)} (h:FMap w m1 own C I) (ho:∀k,own' k→own k):FMap w m1 own' C I:=by
 obtain ⟨f,h1,h2⟩:=h
 refine ⟨f,h1,fun id=> ?_⟩
 have h3:=h2 id
 cases hf:f (.int .i64 id)<;>cases hi:idxF I id<;>rw [hf,hi] at h3
 ·trivial
 ·exact h3
 ·exact h3
 ·obtain ⟨a,cap,e1,e2,e3⟩:=h3
  exact ⟨a,cap,e1,e2,fun k hk=>⟨(e3 k hk).1,fun h=>(e3 k hk).2.1 (ho k h),(e3 k hk).2.2⟩⟩
theorem FMap.put {w w6:World} {m1:Nat} {own own' C C':Nat→Prop} {I:List (Int×Fil)} {f:Lit→Option Value} {id:Int} {v:Value} {q:Fil} (h2:∀id:Int,FilIs w own C (f (.int .i64 id)) (idxF I id)) (hn:idxF I id=none) (h6:MapR w6 3 m1 (I.length+1) (putF f (.int .i64 id) v))
 (hm:Mod (fun k=>k=m1) w w6) (hm1:own m1) (hq:FilIs w6 own' C' (some v) (some q)) (ho:∀k,k<w.heap.size→own' k→own k) (hC:∀k,C k→C' k):FMap w6 m1 own' C' (I++[(id,q)]):=by
 refine ⟨_,by rw [List.length_append];exact h6,fun x=> ?_⟩
 rw [idxF_new hn]
 unfold putF
 by_cases e:x=id
 ·rw [if_pos e,if_pos (by rw [e])];exact hq
 ·rw [if_neg e,if_neg (fun h=>e (Lit.int.inj h).2)]
  have h3:=(h2 x).mod hm (fun k _ e=>e▸hm1)
  cases hf:f (.int .i64 x)<;>cases hi:idxF I x<;>rw [hf,hi] at h3
  ·trivial
  ·exact h3
  ·exact h3
  ·have h4:=h2 x
   rw [hf,hi] at h4
   obtain ⟨a,cap,e1, -,e3⟩:=h4
   obtain ⟨a',cap',e1',h5,h6⟩:=h3
   rw [e1] at e1'
   cases e1'
   exact ⟨a,cap,e1,h5,fun k hk=>⟨(h6 k hk).1,fun h=>(e3 k hk).2.1 (ho k (e3 k hk).1 h),hC k (e3 k hk).2.2⟩⟩
attribute [local go_sem ↓] run_load_cd
theorem iadd_at (w0 w:World) (hl:Laid w0 w) (b:Nat) (own C:Nat→Prop) (I:List (Int×Fil)) (T:Nat) (h:Idx w b own C I T) (hT:T≤100000) (hown:∀k,own k→w0.heap.size≤k) (id:Int) (hid:(Lit.int .i64 id).wf=true)
 (sc:ByteArray) (cv:Value) (l:List Cnd) (hv:RdSl w 7 cv l.length (cnds l)) (hll:l.length<20) (hcs:∀c∈l,c.fits) (hsc:sc.size≤1000000):
 Calls Tryz.prog 62 #[.pointer (some ⟨b,0,none⟩),.int .i64 id,.agg #[.string sc,cv]] w (IAddPost w b own C I T id sc l):=by
 obtain ⟨m1,m2,h⟩:=h
 obtain ⟨a,cap,rfl,hcap⟩:∃a c,cv= .slice a l.length c∧l.length≤c:=by obtain ⟨-,a,c,h,h2, -⟩:=hv;exact ⟨a,c,h,h2⟩
 obtain ⟨wa,hwa,hmwa,hgwa,hzwa⟩:=allocE w (.cells #[.string sc,.slice a l.length cap] 33)
 have hva:=hv.mod hmwa (fun _ _ h=>h)
 have hia:=h.mod hmwa (fun _ _ h=>h)
 obtain ⟨f,hf1,hf2⟩:=hia.fm
 have hkey:keyOf Tryz.prog 3 (.int .i64 id)=some (.int .i64 id):=Maps.keyOf_int_mk Tryz.underlying3 hid
 have hlk:=hf1.look_ok keyed_i Tryz.underlying157 (zero_fil wa) hkey
 have c0:wa.cell? ⟨b,0,none⟩=some (.map (some m1)):=cell_of hia.row rfl
 have hfi:=hf2 id
 cases hq:idxF I id with
 | some q=>
  rw [hq] at hfi
  cases hfv:f (.int .i64 id) with
  |none=>rw [hfv] at hfi;exact hfi.elim
  |some v=>
   rw [hfv] at hfi hlk
   obtain ⟨qa,qc,rfl, -⟩:=hfi
   simp only [Option.getD_some,Option.isSome_some] at hlk
   have hqn:idxF I id≠none:=by rw [hq];intro h;cases h
   have Hv:=Lib.hid hv
   have Hl:=Lib.hid hl
   have H:=Lib.hid h
   have Hva:=Lib.hid hva
   have Hia:=Lib.hid hia
   have Hf1:=Lib.hid hf1
   have Hf2:=Lib.hid hf2
   have Hq:=Lib.hid hq
   have Hfv:=Lib.hid hfv
   have Hqn:=Lib.hid hqn
   have Hcs:=Lib.hid hcs
   have Hwa:=Lib.hid hwa
   have Hgwa:=Lib.hid hgwa
   have Hmwa:=Lib.hid hmwa
   have Hown:=Lib.hid hown
   have Hid:=Lib.hid hid
   have Hkey:=Lib.hid hkey
   clear hv hl h hva hia hf1 hf2 hq hfv hqn hcs hwa hgwa hmwa hown hid hkey hzwa
   go_enter Tryz.func62,Tryz.ntmps62
   go_wp2_with (first|(rw [show w.alloc _=wa from Hwa.out])|fail)
   go_ret
   exact .inl ⟨Hqn.out,rfl,Hmwa.out.alloc _⟩
 | none =>
  rw [hq] at hfi
  cases hfv:f (.int .i64 id) with
  |some v=>rw [hfv] at hfi;exact hfi.elim
  |none=>
   rw [hfv] at hlk
   simp only [Option.getD_none,Option.isSome_none] at hlk
   obtain ⟨wb,hwb,hmwb,hgwb,hzwb⟩:=allocE wa (.cells #[.string ⟨#[]⟩,.slice none 0 0] 33)
   have hm2:=hmwa.trans hmwb (fun _ _ h=>h)
   have hnm:=norm_at w0 wb (hl.mod0 hm2) sc (.slice a l.length cap) l (hva.mod hmwb (fun _ _ h=>h)) hll hcs
   have hib:=hia.mod hmwb (fun _ _ h=>h)
   have hgb:=hmwb.heap hgwa (fun h=>h)
   have d0:wb.cell? ⟨w.heap.size,0,none⟩=some (.string sc):=cell_of hgb rfl
   have d1:wb.cell? ⟨w.heap.size,1,none⟩=some (.slice a l.length cap):=cell_of hgb rfl
   have hbz:b<w.heap.size:=h.olow _ h.ob.1
   have Hv:=Lib.hid hv
   have Hl:=Lib.hid hl
   have H:=Lib.hid h
   have Hva:=Lib.hid hva
   have Hia:=Lib.hid hia
   have Hf1:=Lib.hid hf1
   have Hf2:=Lib.hid hf2
   have Hq:=Lib.hid hq
   have Hfv:=Lib.hid hfv
   have Hcs:=Lib.hid hcs
   have Hwa:=Lib.hid hwa
   have Hgwa:=Lib.hid hgwa
   have Hmwa:=Lib.hid hmwa
   have Hown:=Lib.hid hown
   have Hid:=Lib.hid hid
   have Hkey:=Lib.hid hkey
   have Hwb:=Lib.hid hwb
   have Hgwb:=Lib.hid hgwb
   have Hmwb:=Lib.hid hmwb
   have Hm2:=Lib.hid hm2
   have Hnm:=Lib.hid hnm
   have Hib:=Lib.hid hib
   have Hgb:=Lib.hid hgb
   clear hv hl h hva hia hf1 hf2 hq hfv hcs hwa hgwa hmwa hown hid hkey hwb hgwb hmwb hm2 hnm hib hgb hzwa hzwb
   go_enter Tryz.func62,Tryz.ntmps62
   go_wp2_with (first|(rw [show w.alloc _=wa from Hwa.out])|((with_reducible refine wpList_store_lit 33 (.tmp 7) (.tmp 18) ?_);refine ⟨rfl,[.string ⟨#[]⟩,.slice none 0 0],rfl,rfl,by kernel_rfl,rfl, ?_⟩;rw [Hwb.out])|fail)
   refine Hnm.out.mono ?_
   rintro e w2 ⟨na,nc,rfl,hno,hnf,hm3⟩
   have hg2:=hm3.heap Hgb.out (fun h=>h)
   have hi2:=Hib.out.mod hm3 (fun _ _ h=>h)
   obtain ⟨nl,hnl⟩:∃nl,normC l=nl:=⟨_,rfl⟩
   rw [hnl] at hno hnf⊢
   have hnlen:nl.length<20:=by rw [←hnl];exact Nat.lt_of_le_of_lt (normC_len l) hll
   have hm02:=Hm2.out.trans hm3 (fun _ _ h=>h)
   have Hg2:=Lib.hid hg2
   have Hi2:=Lib.hid hi2
   have Hnl:=Lib.hid hnl
   have Hno:=Lib.hid hno
   have Hnf:=Lib.hid hnf
   have Hm3:=Lib.hid hm3
   have Hm02:=Lib.hid hm02
   clear hg2 hi2 hnl hno hnf hm3 hm02 hlk c0 d0 d1
   go_wp2_with (first|((with_reducible refine wpList_store_row_lit 33 (.tmp 5) (.tmp 22) ?_);refine ⟨w.heap.size,rfl,_,_,Hg2.out,[.string sc,.slice na nl.length nc],rfl,rfl,by kernel_rfl,rfl, ?_⟩;intro w3 hg3 hmw3;have Hg3:=Lib.hid hg3;have Hmw3:=Lib.hid hmw3;clear hg3 hmw3)|fail)
   have hgz:=(Hmw3.out).heap Hi2.out.row (fun h=>by omega)
   have hSb:(fun y:World=>y.cell? ⟨b,0,none⟩=some (.map (some m1))∧y.cell? ⟨w.heap.size,0,none⟩=some (.string sc)∧y.cell? ⟨w.heap.size,1,none⟩=some (.slice na nl.length nc)) w3.drew:=
    ⟨cell_of hgz rfl,cell_of Hg3.out rfl,cell_of Hg3.out rfl⟩
   obtain ⟨fz,hz1,hz2⟩:=H.out.fm
   have hm03:Mod (fun k=>k=w.heap.size) w w3.drew:=(Hm02.out.mono (fun _ _ h=>h.elim)).trans Hmw3.out.drew (fun _ _ h=>h)
   have hzm:=hz1.mod hm03 (fun h=>by have:=H.out.olow _ H.out.ob.2.1;omega)
   have Hgz:=Lib.hid hgz
   have Hz1:=Lib.hid hz1
   have Hz2:=Lib.hid hz2
   have Hzm:=Lib.hid hzm
   have Hm03:=Lib.hid hm03
   clear hgz hz1 hz2 hzm hm03
   have hS:=hSb
   refine wp_region_script [.rd 0,.rd 1,.rd 2,.rd 3,.rd 4,.rd 5,.go 6] [0,1,2,3,4,5] (fun y:World=>y.cell? ⟨b,0,none⟩=some (.map (some m1))∧y.cell? ⟨w.heap.size,0,none⟩=some (.string sc)∧y.cell? ⟨w.heap.size,1,none⟩=some (.slice na nl.length nc)) (by kernel_rfl) (by kernel_rfl) (fun _ _ d _ _ h=>(by cases d<;>exact h)) ?_
   iterate 6 (
    refine walk_rd rfl ?_ (fun _=>hS) ?_ (fun w0 h0=> ?_) (fun K hK=> ?_)
    ·(try simp only [List.getElem_toArray]);(try simp only [List.getElem_cons_succ]);(try simp only [List.getElem_cons_zero])
     go_simp;done
    rotate_left
    ·(try simp only [List.getElem_toArray]);(try simp only [List.getElem_cons_succ]);(try simp only [List.getElem_cons_zero])
     first
      |(obtain ⟨f0,f1,f2⟩:=h0 rfl;clear h0;go_simp;with_reducible rfl)
      |(clear h0;go_simp;with_reducible rfl)
    (try simp only [List.getElem_toArray]);(try simp only [List.getElem_cons_succ]);(try simp only [List.getElem_cons_zero])
    go_simp;refine hK _ ?_;clear hK K)
   refine walk_one (go_yes rfl ?_ (fun K hK=> ?_))
   ·(try simp only [List.getElem_toArray]);(try simp only [List.getElem_cons_succ]);(try simp only [List.getElem_cons_zero])
    go_simp;done
   (try simp only [List.getElem_toArray]);(try simp only [List.getElem_cons_succ]);(try simp only [List.getElem_cons_zero])
   refine wp_mput 157 _ _ _ rfl ?_
   refine ⟨3,33,m1,I.length,fz,.int .i64 id,Hzm.out,keyed_i,Tryz.underlying157,by have:=H.out.low;unfold maxLen;omega,rfl,Hkey.out,fun w4 hU1 hU2=> ?_⟩
   refine hK _ _ (fun h=>absurd h (by decide)) ?_
   clear hK K
   refine walk_nil ?_
   have hfz:fz (.int .i64 id)=none:=by
    have h1:=Hz2.out id
    rw [Hq.out] at h1
    cases h2:fz (.int .i64 id) with
    |none=>rfl
    |some v=>rw [h2] at h1;exact h1.elim
   have hu:MapR w4 3 m1 (I.length+1) (putF fz (.int .i64 id) (.agg #[.string sc,.slice na nl.length nc])):=by
    have h1:=hU1
    rw [hfz] at h1
    exact h1
   have hm24:Mod (fun k=>k=w.heap.size∨k=m1) w2 w4:=(Hmw3.out.drew.mono (fun _ _ h=> .inl h)).trans (hU2.mono (G:=fun k=>k=w.heap.size∨k=m1) (fun _ _ h=> .inr h)) (fun _ _ h=>h)
   have hmlt:m1<w.heap.size:=H.out.olow _ H.out.ob.2.1
   have hm2lt:m2<w.heap.size:=H.out.olow _ H.out.ob.2.2
   have hsz:w.heap.size<w2.heap.size:=by have h1:=Hmwb.out.size;have h2:=Hm3.out.size;have h3:=(Array.getElem?_eq_some_iff.1 Hgwa.out).1;omega
   have hs24:w2.heap.size≤w4.heap.size:=hm24.size
   have hnb:∀k,(Value.slice na nl.length nc).ownBlock=some k→k≠w.heap.size∧¬own k∧k<w2.heap.size:=fun k hk=>by
    have h1:=Hnf.out k hk
    have h2:=(Array.getElem?_eq_some_iff.1 Hgb.out).1
    exact ⟨by omega,fun h=>by have:=H.out.olow _ h;omega,Hno.out.lt k hk⟩
   have ho4:OwnSl w4 132 7 (.slice na nl.length nc) nl.length (cnds nl):=Hno.out.mod hm24 (fun k hk h=>by
    rcases h with h|h
    ·exact (hnb k hk).1 h
    ·exact (hnb k hk).2.1 (h▸H.out.ob.2.1))
   have hr4:=ho4.rd
   have hp4:PMap w4 b m1 m2 (fun k=>own k∨w4.heap.size≤k) (I++[(id,(sc,nl.take 0))]) (T+0):=(Hi2.out.pm.mod hm24 (by intro h;have:=H.out.ne;omega) (fun k h1 h2 h3 h4 _ h5=>by have:=H.out.olow _ h1;omega)).cong (fun k _ h=> .inl h) (fun id' nm=>by
    rw [idxF_new Hq.out]
    by_cases e:id'=id
    ·rw [if_pos e,e,Hq.out];rfl
    ·rw [if_neg e]) (Nat.le_refl _)
   have hq4:FMap w4 m1 (fun k=>own k∨w4.heap.size≤k) (fun k=>C k∨(Value.slice na nl.length nc).ownBlock=some k) (I++[(id,(sc,nl))]):=by
    refine FMap.put (w:=w3.drew) (own:=own) (fun x=>(Hz2.out x).mod Hm03.out (fun k hk h=>by omega)) Hq.out hu hU2 H.out.ob.2.1 ⟨na,nc,rfl,ho4,fun k hk=> ?_⟩ (fun k hk h=> ?_) (fun _=> .inl)
    ·have h1:=hnb k hk
     exact ⟨by omega,fun h=>h.elim h1.2.1 (fun h=>by omega),.inr hk⟩
    ·have h3:k<w3.heap.size:=hk
     have h4:w3.heap.size≤w4.heap.size:=hU2.size
     exact h.elim (fun h=>h) (fun h=>by omega)
   have e1:w4.cell? ⟨w.heap.size,1,none⟩=some (.slice na nl.length nc):=(hU2.cell (show w3.drew.cell? _=_ from cell_of Hg3.out rfl) (fun h=>by have h':w.heap.size=m1:=h;omega))
   have hg4:w4.heap[b]? =some (.cells #[.map (some m1),.map (some m2)] 160 (0,0)):=hU2.heap Hgz.out H.out.ne.1
   have HU1:=Lib.hid hU1
   have HU2:=Lib.hid hU2
   have Hfz:=Lib.hid hfz
   have Hu:=Lib.hid hu
   have Hm24:=Lib.hid hm24
   have Hnb:=Lib.hid hnb
   have Ho4:=Lib.hid ho4
   have Hr4:=Lib.hid hr4
   have Hp4:=Lib.hid hp4
   have Hq4:=Lib.hid hq4
   have Hg4:=Lib.hid hg4
   clear hU1 hU2 hfz hu hm24 hnb ho4 hr4 hp4 hq4 hg4 hS hSb
   go_wp2_with fail
   go_loopw [32] (fun i wr=>IAddRel w4 b m1 m2 own I T id sc nl i wr) (fun i _=>nl.length - (intOf i).toNat)
   case atStart=>exact ⟨0,rfl,Nat.zero_le _,Hp4.out,Mod.refl _ _⟩
   case round=>
    obtain ⟨j,rfl,hj,hp,hmr⟩:=hrel
    by_cases hlt:j<nl.length
    ·have hlt':(j:Int)<nl.length:=by omega
     obtain ⟨x,hxj⟩:∃x,nl[j]? =some x:=⟨_,List.getElem?_eq_getElem hlt⟩
     have hxf:x.fits:=normC_fits Hcs.out x (by rw [Hnl.out];exact List.mem_of_getElem? hxj)
     have hrr:RdSl wr 7 (.slice na nl.length nc) nl.length (cnds nl):=Hr4.out.mod hmr (fun k hk h=>(Hnb.out k hk).2.1 h.1)
     obtain ⟨g,off,rfl,hf⟩:∃g off,na=some ⟨g,off,none⟩∧CellsAt wr g (off+j*7) x.cells:=rd_cnd hrr hxj
     obtain ⟨wz,hwz,hmwz,hgwz,hzwz⟩:=allocE wr (.cells x.cells.toArray 132)
     obtain ⟨n,f2,g1,g2,g3,g4,g5⟩:=hp
     obtain ⟨v,hv⟩:∃v,(f2 (Lit.str x.name)).getD nilS=v:=⟨_,rfl⟩
     obtain ⟨ps,p1,p2,p3,p4⟩:=g3 x.name
     rw [hv] at p1 p3
     have hvb:=g4 x.name
     rw [hv] at hvb
     have hgr:wr.heap[b]? =some (.cells #[.map (some m1),.map (some m2)] 160 (0,0)):=hmr.heap Hg4.out (fun h=>h.2.2 rfl)
     have hsr:w4.heap.size≤wr.heap.size:=hmr.size
     have hadd:∀y,Mod (inBlock v) wz y→AddS b m2 wr.heap.size n f2 v x y:=fun y hy=>by
      refine AddS.at (hy.heap (hmwz.heap hgr (fun h=>h)) (fun h=>(hvb _ h).1 rfl)) (hy.heap hgwz (fun h=> ?_)) ((g1.mod hmwz (fun h=>h)).mod hy (fun h=>(hvb _ h).2.2 rfl)) hv hxf.name
      have:=p1.lt _ h
      omega
     have Hxj:=Lib.hid hxj
     have Hxf:=Lib.hid hxf
     have Hrr:=Lib.hid hrr
     have Hf:=Lib.hid hf
     have Hwz:=Lib.hid hwz
     have Hmwz:=Lib.hid hmwz
     have Hgwz:=Lib.hid hgwz
     have G1:=Lib.hid g1
     have G2:=Lib.hid g2
     have G3:=Lib.hid g3
     have G4:=Lib.hid g4
     have G5:=Lib.hid g5
     have Hv:=Lib.hid hv
     have P1:=Lib.hid p1
     have P3:=Lib.hid p3
     have P4:=Lib.hid p4
     have Hvb:=Lib.hid hvb
     have Hgr:=Lib.hid hgr
     have Hadd:=Lib.hid hadd
     have Hmr:=Lib.hid hmr
     clear hxj hxf hrr hf hwz hmwz hgwz g1 g2 g3 g4 g5 hv p1 p3 p4 hvb hgr hadd hmr hzwz
     go_wp2_with (first|((with_reducible refine wpList_load_lit 132 (.tmp 34) ?_);refine ⟨g,off+j*7,rfl,x.cells,Hf.out,by kernel_rfl,by kernel_rfl, ?_⟩)|((with_reducible refine wpList_store_lit 132 (.tmp 10) (.tmp 35) ?_);refine ⟨rfl,x.cells,rfl,rfl,by kernel_rfl,rfl, ?_⟩;rw [Hwz.out])|fail)
     have hS:AddS b m2 wr.heap.size n f2 v x wz.drew:=Hadd.out _ ((Mod.refl _ wz).drew)
     refine wp_region_script [.rd 0,.rd 1,.rd 2,.rd 3,.rd 4,.rd 5,.rd 6,.rd 7,.rd 8,.rd 9,.rd 10,.rd 11,.rd 12,.rd 13,.rd 14,.rd 15,.go 16,.go 17,.go 18] [0,1,2,3,4,5,6,7,8,9,10,11,12,13,14,15,16,17] (AddS b m2 wr.heap.size n f2 v x) (by kernel_rfl) (by kernel_rfl) (fun _ _ d _ _ h=>(by cases d<;>exact h)) ?_
     iterate 16 (
      refine walk_rd rfl ?_ (fun _=>hS) ?_ (fun w0 h0=> ?_) (fun K hK=> ?_)
      ·(try simp only [List.getElem_toArray]);(try simp only [List.getElem_cons_succ]);(try simp only [List.getElem_cons_zero])
       go_simp;done
      rotate_left
      ·(try simp only [List.getElem_toArray]);(try simp only [List.getElem_cons_succ]);(try simp only [List.getElem_cons_zero])
       first
        |(obtain ⟨f0,f1,f2,f3, -,f4⟩:=h0 rfl;clear h0;go_simp;with_reducible rfl)
        |(clear h0;go_simp;with_reducible rfl)
      (try simp only [List.getElem_toArray]);(try simp only [List.getElem_cons_succ]);(try simp only [List.getElem_cons_zero])
      go_simp;refine hK _ ?_;clear hK K)
     refine walk_one (go_yes rfl ?_ (fun K hK=> ?_))
     ·(try simp only [List.getElem_toArray]);(try simp only [List.getElem_cons_succ]);(try simp only [List.getElem_cons_zero])
      go_simp;done
     (try simp only [List.getElem_toArray]);(try simp only [List.getElem_cons_succ]);(try simp only [List.getElem_cons_zero])
     obtain ⟨wT,hwT,hmwT,hgwT,hzwT⟩:=allocE wz.drew (.cells (pcell (id,x)).toArray 181)
     have hwT':wz.drew.alloc (.cells #[.int .i64 id,.string x.name,.int .i64 x.op,.int .i64 x.v.kind,.int .i64 x.v.int,.float .f64 x.v.num,.string x.v.text,.bool x.v.yes] 181)=wT:=hwT
     have hmzT:Mod (fun _=>False) wz wT:=((Mod.refl (fun _=>False) wz).drew).trans hmwT (fun _ _ h=>h)
     have hmrT:Mod (fun _=>False) wr wT:=Hmwz.out.trans hmzT (fun _ _ h=>h)
     go_simp
     refine hK _ _ (fun _ _=>Hadd.out _ (hmzT.mono (fun _ _ h=>h.elim))) ?_
     clear hK K hS
     have hrdT:RdSl wT 8 (.slice (some ⟨wz.heap.size,0,none⟩) 1 1) 1 (pcell (id,x)):=hwT▸RdSl.one wz.drew (pcell (id,x)) 181 rfl
     have hone:∀u∈pcell (id,x),u.oneCell'=true:=fun u hu=>List.all_eq_true.1 (show (pcell (id,x)).all (·.oneCell')=true from rfl) u hu
     have hownT:=P1.out.mod hmrT (fun _ _ h=>h)
     obtain ⟨va,vc,rfl,hvc⟩:=hownT.shape
     have hpT:ps.length≤100020:=by have h1:=normC_len l;rw [Hnl.out] at h1;omega
     refine walk_one (go_yes rfl ?_ (fun K hK=> ?_))
     ·(try simp only [List.getElem_toArray]);(try simp only [List.getElem_cons_succ]);(try simp only [List.getElem_cons_zero])
      go_simp;done
     (try simp only [List.getElem_toArray]);(try simp only [List.getElem_cons_succ]);(try simp only [List.getElem_cons_zero])
     refine wp_append_sl (.tmp 48) (.tmp 52) 179 rfl 181 8 80 places_T (.slice va ps.length vc) ps.length (pls ps) rfl hownT (.slice (some ⟨wz.heap.size,0,none⟩) 1 1) 1 (pcell (id,x)) rfl hrdT hone (by omega) (by unfold maxLen;omega) (fun ad cap2 w5 hA=> ?_)
     refine hK _ _ (fun _ _=>Hadd.out _ ((hmzT.mono (fun _ _ h=>h.elim)).trans hA.2.1 (fun _ _ h=>h))) ?_
     clear hK K
     have h5m:MapR w5 9 m2 n f2:=(G1.out.mod hmrT (fun h=>h)).mod hA.2.1 (fun h=>(Hvb.out _ h).2.2 rfl)
     refine walk_one (go_yes rfl ?_ (fun K hK=> ?_))
     ·(try simp only [List.getElem_toArray]);(try simp only [List.getElem_cons_succ]);(try simp only [List.getElem_cons_zero])
      go_simp;done
     (try simp only [List.getElem_toArray]);(try simp only [List.getElem_cons_succ]);(try simp only [List.getElem_cons_zero])
     refine wp_mput 158 _ _ _ rfl ?_
     refine ⟨9,179,m2,n,f2,Lit.str x.name,h5m,keyed_s,Tryz.underlying158,by have:=normC_len l;rw [Hnl.out] at this;have:=G2.out;unfold maxLen;omega,rfl,WideMaps.keyOf_string_mk Tryz.underlying9 (by have:=Hxf.out.name;unfold maxLen;omega),fun w6 hV1 hV2=> ?_⟩
     have hV:MapR w6 9 m2 (if (f2 (Lit.str x.name)).isSome then n else n+1) (putF f2 (Lit.str x.name) (.slice ad (ps.length+1) cap2)):=hV1
     refine hK _ _ (fun h=>absurd h (by decide)) ?_
     clear hK K hV1
     refine walk_nil ?_
     have hst:=pmap_step (b:=b) (m1:=m1) (I':=I++[(id,(sc,nl.take (j+1)))]) G2.out G3.out G4.out G5.out Hv.out p2 P4.out hmrT hA hV hV2 (fun k hk=> .inr (Nat.le_trans hsr hk)) (by omega) (fun id' nm'=>by
      rw [idxF_new Hq.out,idxF_new Hq.out]
      by_cases e:id'=id
      ·rw [if_pos e,if_pos e,List.take_add_one,Hxj.out]
       unfold ofName
       simp only [Option.toList_some,List.filter_append]
       congr 1
       by_cases e2:nm'=x.name
       ·rw [if_pos ⟨e,e2⟩,e2];simp
       ·rw [if_neg (fun h=>e2 h.2)]
        have:(x.name.data.toList==nm'.data.toList)=false:=by rw [beq_eq_false_iff_ne];exact fun h=>e2 (ByteArray.ext (Array.toList_inj.1 h)).symm
        simp only [List.filter_cons,this,List.filter_nil,if_false,Bool.false_eq_true]
      ·rw [if_neg e,if_neg e,if_neg (fun h=>e h.1),List.append_nil])
     have hm46:Mod (fun k=>own k∧k≠m1∧k≠b) w4 w6:=((Hmr.out.trans hmrT (fun _ _ h=>h.elim)).upon hA.2.1 (fun k hk=>by
      have h1:=P3.out k hk
      have h2:=Hvb.out k hk
      rcases h1 with h1|h1
      ·exact .inl ⟨h1,h2.2.1,h2.1⟩
      ·exact .inr h1)).upon hV2 (fun k hk=> .inl (by
      have h1:=H.out.ne
      subst hk
      exact ⟨H.out.ob.2.2,fun e=>h1.2.2 e.symm,fun e=>h1.2.1 e.symm⟩))
     have Hst:=Lib.hid hst
     have Hm46:=Lib.hid hm46
     have HV:=Lib.hid hV
     have HV2:=Lib.hid hV2
     have HA:=Lib.hid hA
     have HownT:=Lib.hid hownT
     have HrdT:=Lib.hid hrdT
     have Hone:=Lib.hid hone
     have HmrT:=Lib.hid hmrT
     have HmzT:=Lib.hid hmzT
     have HwT:=Lib.hid hwT
     have HwT':=Lib.hid hwT'
     have H5m:=Lib.hid h5m
     clear hst hm46 hV hV2 hA hownT hrdT hone hmrT hmzT hwT hwT' h5m hmwT hgwT hzwT
     go_wp2_with fail
     go_roundw
     case rel=>exact ⟨j+1,by go_num,hlt,Hst.out,Hm46.out⟩
     case measure=>simp [intOf];omega
    ·obtain rfl:j=nl.length:=by omega
     rw [List.take_length] at hp
     have hsr:w4.heap.size≤wr.heap.size:=hmr.size
     have hix:IdxAt wr b m1 m2 (fun k=>(own k∨w4.heap.size≤k)∧k<wr.heap.size) (fun k=>C k∨(Value.slice na nl.length nc).ownBlock=some k) (I++[(id,(sc,nl))]) (T+20):=by
      have hlw:∀k,own k→k<wr.heap.size:=fun k hk=>by have:=H.out.olow k hk;omega
      have h1:=H.out.ne
      have h2:=H.out.ob
      refine ⟨hmr.heap Hg4.out (fun h=>h.2.2 rfl), ?_,⟨⟨.inl h2.1,hlw _ h2.1⟩,⟨.inl h2.2.1,hlw _ h2.2.1⟩,⟨.inl h2.2.2,hlw _ h2.2.2⟩⟩,h1,(Hq4.out.mod hmr (fun h=>h.2.1 rfl) (fun k _ h=> .inl h.1)).anti (fun k h=>h.1),hp.cong (fun k h3 h4=>⟨h4,h3⟩) (fun _ _=>rfl) (by omega), ?_,fun k h=>h.2,fun k h=>h.elim (fun h=>by have:=H.out.clow k h;omega) (fun h=>by have:=(Hnb.out k h).2.2;omega),fun p hp'=> ?_,fun p hp'=> ?_⟩
      ·rw [List.map_append,List.nodup_append]
       refine ⟨H.out.nd,by simp,fun x hx y hy e=> ?_⟩
       have:y=id:=by simpa using hy
       exact idxF_none Hq.out (this▸e▸hx)
      ·rw [List.length_append]
       have:=H.out.low
       simp
       omega
      ·rcases List.mem_append.1 hp' with hp'|hp'
       ·exact H.out.wf p hp'
       ·obtain rfl:p=(id,(sc,nl)):=by simpa using hp'
        exact ⟨Hid.out,by show nl.length≤19;omega,fun c hc=>normC_fits Hcs.out c (by rw [Hnl.out];exact hc)⟩
      ·rcases List.mem_append.1 hp' with hp'|hp'
       ·exact H.out.sc p hp'
       ·obtain rfl:p=(id,(sc,nl)):=by simpa using hp'
        exact hsc
     have hmw:Mod own w wr:=((Hm02.out.mono (G:=own) (fun _ _ h=>h.elim)).upon Hm24.out (fun k hk=>hk.elim (fun h=> .inr (by omega)) (fun h=> .inl (h▸H.out.ob.2.1)))).upon hmr (fun k hk=> .inl hk.1)
     have hgx:∀k,(own k∨w4.heap.size≤k)∧k<wr.heap.size→own k∨w.heap.size≤k:=fun k h=>h.1.elim .inl (fun h=> .inr (by omega))
     have hsx:∀k,own k→(own k∨w4.heap.size≤k)∧k<wr.heap.size:=fun k h=>⟨.inl h,by have:=H.out.olow k h;omega⟩
     have Hix:=Lib.hid hix
     have Hmw:=Lib.hid hmw
     have Hgx:=Lib.hid hgx
     have Hsx:=Lib.hid hsx
     have Hmr:=Lib.hid hmr
     have Hp:=Lib.hid hp
     clear hix hmw hgx hsx hmr hp
     go_wp2_with fail
     go_ret
     exact .inr ⟨Hq.out,rfl,_,(fun k=>C k∨(Value.slice na nl.length nc).ownBlock=some k),⟨m1,m2,by rw [Hnl.out];exact Hix.out⟩,Hsx.out,Hgx.out,fun k h=>h.elim .inl (fun h=> .inr (by have:=Hnf.out k h;have:=Hm2.out.size;omega)),Hmw.out⟩
end
section
open Go.RowKit
def RngR (w:World) (kt:TypeId) (b r:Nat) (f:Lit→Option Value) (left:Lit→Bool) (cnt:Nat):Prop:=
 ∃(D:DataW Value) (n:Nat),w.ranges Tryz.prog kt rawR b r n D left cnt∧(∀kl z,D.atKey kl (.held z)= .held ((f kl).getD z))∧∀kl,Maps.has D kl=(f kl).isSome
theorem RngR.mod {w w':World} {kt:TypeId} {b r:Nat} {f:Lit→Option Value} {left:Lit→Bool} {cnt:Nat} {F:Nat→Prop} (h:RngR w kt b r f left cnt) (hm:Mod F w w') (h1:¬F b) (h2:¬F r):RngR w' kt b r f left cnt:=by
 obtain ⟨D,n,⟨es,clock,since,seen,c0,hb,F',hs,hD,hr,rest⟩,h3⟩:=h
 exact ⟨D,n,⟨es,clock,since,seen,c0,hm.heap hb h1,F',hs,hD,hm.heap hr h2,rest⟩,h3⟩
theorem RngR.left_eq {w:World} {kt:TypeId} {b r:Nat} {f:Lit→Option Value} {left:Lit→Bool} {cnt:Nat} (h:RngR w kt b r f left cnt):w.rangeLeft b r=cnt:=by
 obtain ⟨D,n,h1, -⟩:=h
 exact h1.left_eq
theorem RngR.cong {w:World} {kt:TypeId} {b r:Nat} {f:Lit→Option Value} {left left':Lit→Bool} {cnt:Nat} (h:RngR w kt b r f left cnt) (e:left=left'):RngR w kt b r f left' cnt:=e▸h
theorem grown_mod0 {w w':World} (h:w.grownBy w' none):Mod (fun _=>False) w w':=⟨h.os,h.tape,h.output,h.size,fun k hk _=>h.block k hk (fun e=>by cases e)⟩
theorem at_some {f:Lit→Option Value} {kl:Lit} {c:Value} (h:∀z,(f kl).getD z=c):f kl=some c:=by
 cases hf:f kl with
 |some v=>rw [hf] at h;exact congrArg some (h c)
 |none=>
  rw [hf] at h
  have h1:=h (.bool true)
  have h2:=h (.bool false)
  rw [←h2] at h1
  cases h1
theorem wpList_range_R {w:World} {ops:Array Oper} {rest:List Oper} {o:Oper} {a:Act} {Q:Exit→Act→World→Prop} (hg:o.guard=none) (m:Operand) (t:TypeId) (hop:o.op= .range t m) (kt e:TypeId) (K:Maps.Keyed Tryz.prog kt)
 (ht:Tryz.prog.underlying t=some (.map kt e)) (b n:Nat) (f:Lit→Option Value) (hm:a.eval m= .map (some b)) (h:MapR w kt b n f)
 (hK:∀w',RngR w' kt b w.heap.size f (fun kl=>(f kl).isSome) n→Mod (fun _=>False) w w'→w'.heap.size=w.heap.size+1→wpList Tryz.prog ops Q rest (a.put o.dst (.pointer (some ⟨w.heap.size,0,none⟩))) w'):wpList Tryz.prog ops Q (o::rest) a w:=by
 obtain ⟨D,h1,h2,h3,h4⟩:=h
 refine wpList_range_own w hg m t hop kt e K ht rawR b n D hm h1 fun w' r1 r2 r3=>hK w' ?_ (grown_mod0 r2) r3
 rw [h2] at r1
 refine ⟨D,n, ?_,h3,h4⟩
 have:(fun kl=>(f kl).isSome)=Maps.has D:=by funext kl;exact (h4 kl).symm
 rw [this]
 exact r1
theorem wpList_next_R {w:World} {ops:Array Oper} {rest:List Oper} {o:Oper} {a:Act} {Q:Exit→Act→World→Prop} {α:Type} (hg:o.guard=none) (it:Operand) (hop:o.op= .next it false) (kt:TypeId) (K:Maps.Keyed Tryz.prog kt)
 (mkK:α→Value) (mkL:α→Lit) (invK:∀key kl,keyOf Tryz.prog kt key=some kl→∃x,key=mkK x) (inL:∀x kl,keyOf Tryz.prog kt (mkK x)=some kl→kl=mkL x) (b r:Nat) (f:Lit→Option Value) (left:Lit→Bool) (cnt:Nat)
 (hit:a.eval it= .pointer (some ⟨r,0,none⟩)) (h:RngR w kt b r f left cnt)
 (hDone:(∀kl,left kl=false)→wpList Tryz.prog ops Q rest (a.put o.dst (.tuple #[.bool false])) w)
 (hMore:∀(x:α) (c:Value) (w':World) (cnt':Nat),keyOf Tryz.prog kt (mkK x)=some (mkL x)→left (mkL x)=true→f (mkL x)=some c→RngR w' kt b r f (fun z=>left z&& !z.sameKey (mkL x)) cnt'→cnt'<cnt→Mod (fun k=>k=r) w w'→w'.heap.size=w.heap.size→
   (Instr.entry (.pointer (some ⟨r,0,none⟩))).run Tryz.prog w'= .ok (.tuple #[mkK x,c]) w'→wpList Tryz.prog ops Q rest (a.put o.dst (.tuple #[.bool true,mkK x,c])) w'):wpList Tryz.prog ops Q (o::rest) a w:=by
 obtain ⟨D,n,h1,h2,h3⟩:=h
 refine wpList_next_ranges w hg it hop kt K rawR mkK (fun c:Value=>c) invK (fun v _ _=>⟨v,rfl⟩) b r n D left cnt hit h1 (fun _ h=>hDone h) ?_
 intro x c kl y w' cnt' hkey hlk hv hat hrg hlt hgr hsz hen
 have hkl:=inL x kl hkey
 subst hkl
 have hy:y=(.held c,[]):=by
  have:some ((.held c:DataW Value),([]:List MemPlace))=some y:=hv
  exact (Option.some.inj this).symm
 subst hy
 refine hMore x c w' cnt' hkey hlk (at_some fun z=> ?_) ⟨D,n,hrg,h2,h3⟩ hlt (grown_mod hgr) hsz hen
 have h5:=hat (.held z)
 rw [h2] at h5
 exact DataW.held.inj h5
theorem inv_i (kt:TypeId) (hk:Tryz.prog.underlying kt=some (.int .i64)):∀key kl,keyOf Tryz.prog kt key=some kl→∃x,key=Value.int .i64 x:=fun key kl h=>by
 obtain ⟨x,hx, -⟩:=Maps.keyOf_int_inv hk h
 exact ⟨x,hx⟩
theorem in_i (kt:TypeId) (hk:Tryz.prog.underlying kt=some (.int .i64)):∀(x:Int) kl,keyOf Tryz.prog kt (.int .i64 x)=some kl→kl= .int .i64 x:=fun x kl h=>by
 obtain ⟨y,hx,hl, -⟩:=Maps.keyOf_int_inv hk h
 cases hx
 exact hl
theorem inv_s (kt:TypeId) (hk:Tryz.prog.underlying kt=some .string):∀key kl,keyOf Tryz.prog kt key=some kl→∃x:List UInt8,key=encStr x:=fun key kl h=>by
 obtain ⟨x,hx, -⟩:=Maps.keyOf_str hk h
 exact ⟨x,hx⟩
theorem in_s (kt:TypeId) (hk:Tryz.prog.underlying kt=some .string):∀(x:List UInt8) kl,keyOf Tryz.prog kt (encStr x)=some kl→kl= .string x:=fun x kl h=>by
 obtain ⟨y,hx,hl, -⟩:=Maps.keyOf_str hk h
 have:x=y:=by
  have h1:=Value.string.inj hx
  have h2:=congrArg (fun b:ByteArray=>b.data.toList) h1
  simpa using h2
 rw [this,hl]
theorem same_i (x y:Int):(Lit.int .i64 y).sameKey (.int .i64 x)=(y==x):=by
 unfold Lit.sameKey
 by_cases h:y=x
 ·simp [h]
 ·simp [h]
theorem same_s (x y:List UInt8):(Lit.string y).sameKey (.string x)=(y==x):=rfl
def keyF (q:Fil):List UInt8:=filPrt q.1 q.2
def tabF (M:List (Int×Fil)) (id:Int) (k:List UInt8):Option Fil:=(M.find? fun p=>p.1==id&&keyF p.2==k).map Prod.snd
theorem FilIs.mod2 {w w':World} {F own C:Nat→Prop} {v:Option Value} {q:Option Fil} (h:FilIs w own C v q) (hm:Mod F w w') (hF:∀k,k<w.heap.size→F k→¬C k):FilIs w' own C v q:=by
 cases v<;>cases q
 ·trivial
 ·exact h
 ·exact h
 ·obtain ⟨a,cap,h1,h2,h3⟩:=h
  exact ⟨a,cap,h1,h2.mod hm (fun k hk hf=>hF k (h3 k hk).1 hf (h3 k hk).2.2),fun k hk=>⟨Nat.lt_of_lt_of_le (h3 k hk).1 hm.size,(h3 k hk).2⟩⟩
theorem FilIs.cong {w:World} {own own' C C':Nat→Prop} {v:Option Value} {q:Option Fil} (h:FilIs w own C v q) (ho:∀k,k<w.heap.size→C k→own' k→own k) (hC:∀k,C k→C' k):FilIs w own' C' v q:=by
 cases v<;>cases q
 ·trivial
 ·exact h
 ·exact h
 ·obtain ⟨a,cap,h1,h2,h3⟩:=h
  exact ⟨a,cap,h1,h2,fun k hk=>⟨(h3 k hk).1,fun h=>(h3 k hk).2.1 (ho k (h3 k hk).1 (h3 k hk).2.2 h),hC k (h3 k hk).2.2⟩⟩
def KAt (w:World) (own C:Nat→Prop) (mi N:Nat) (g:List UInt8→Option Fil):Prop:=
 ∃n f,MapR w 9 mi n f∧n≤N∧∀k,FilIs w own C (f (.string k)) (g k)
theorem KAt.mod {w w':World} {F own C:Nat→Prop} {mi N:Nat} {g:List UInt8→Option Fil} (h:KAt w own C mi N g) (hm:Mod F w w') (h1:¬F mi) (hF:∀k,k<w.heap.size→F k→¬C k):KAt w' own C mi N g:=by
 obtain ⟨n,f,h2,h3,h4⟩:=h
 exact ⟨n,f,h2.mod hm h1,h3,fun k=>(h4 k).mod2 hm hF⟩
theorem KAt.cong {w:World} {own own' C C':Nat→Prop} {mi N N':Nat} {g g':List UInt8→Option Fil} (h:KAt w own C mi N g) (ho:∀k,k<w.heap.size→C k→own' k→own k) (hC:∀k,C k→C' k) (hN:N≤N') (hg:∀k,g' k=g k):KAt w own' C' mi N' g':=by
 obtain ⟨n,f,h2,h3,h4⟩:=h
 exact ⟨n,f,h2,Nat.le_trans h3 hN,fun k=>by rw [hg];exact (h4 k).cong ho hC⟩
theorem KAt.lt {w:World} {own C:Nat→Prop} {mi N:Nat} {g:List UInt8→Option Fil} (h:KAt w own C mi N g):mi<w.heap.size:=by
 obtain ⟨n,f,h2, -⟩:=h
 exact h2.lt
def InAt (w:World) (own C:Nat→Prop) (b mo N:Nat) (g:List UInt8→Option Fil):Option Value→Prop
 |none=>∀k,g k=none
 |some v=>∃mi,v= .map (some mi)∧own mi∧mi≠b∧mi≠mo∧KAt w own C mi N g
theorem InAt.mod {w w':World} {F own C:Nat→Prop} {b mo N:Nat} {g:List UInt8→Option Fil} {v:Option Value} (h:InAt w own C b mo N g v) (hm:Mod F w w') (h1:∀mi,v=some (.map (some mi))→¬F mi) (hF:∀k,k<w.heap.size→F k→¬C k):InAt w' own C b mo N g v:=by
 cases v with
 |none=>exact h
 |some v=>
  obtain ⟨mi,rfl,h2,h3,h4,h5⟩:=h
  exact ⟨mi,rfl,h2,h3,h4,h5.mod hm (h1 mi rfl) hF⟩
theorem InAt.cong {w:World} {own own' C C':Nat→Prop} {b mo N N':Nat} {g g':List UInt8→Option Fil} {v:Option Value} (h:InAt w own C b mo N g v) (ho:∀k,k<w.heap.size→C k→own' k→own k) (ho2:∀k,own k→own' k) (hC:∀k,C k→C' k) (hN:N≤N') (hg:∀k,g' k=g k):InAt w own' C' b mo N' g' v:=by
 cases v with
 |none=>exact fun k=>(hg k).trans (h k)
 |some v=>
  obtain ⟨mi,rfl,h2,h3,h4,h5⟩:=h
  exact ⟨mi,rfl,ho2 mi h2,h3,h4,h5.cong ho hC hN hg⟩
def OMap (w:World) (own C:Nat→Prop) (b mo N:Nat) (M:List (Int×Fil)):Prop:=
 ∃n f,MapR w 3 mo n f∧n≤N∧(∀id:Int,InAt w own C b mo N (tabF M id) (f (.int .i64 id)))∧∀(x y:Int) mi,f (.int .i64 x)=some (.map (some mi))→f (.int .i64 y)=some (.map (some mi))→x=y
structure TabAt (w:World) (b mo:Nat) (own C:Nat→Prop) (M:List (Int×Fil)) (N:Nat):Prop where
 row:w.heap[b]? =some (.cells #[.map (some mo)] 162 (0,0))
 ob:own b∧own mo
 ne:b≠mo
 om:OMap w own C b mo N M
 nd:M.Pairwise fun p q=>¬(p.1=q.1∧keyF p.2=keyF q.2)
 low:M.length≤N
 dis:∀k,own k→¬C k
 olow:∀k,own k→k<w.heap.size
 clow:∀k,C k→k<w.heap.size
 wf:∀p∈M,(Lit.int .i64 p.1).wf=true∧p.2.2.length≤19∧∀c∈p.2.2,c.fits
 sc:∀p∈M,p.2.1.size≤1000000
def Tab (w:World) (b:Nat) (own C:Nat→Prop) (M:List (Int×Fil)) (N:Nat):Prop:=∃mo,TabAt w b mo own C M N
theorem OMap.mod {w w':World} {F own C:Nat→Prop} {b mo N:Nat} {M:List (Int×Fil)} (h:OMap w own C b mo N M) (hm:Mod F w w') (h1:¬F mo) (hF:∀k,k<w.heap.size→F k→¬own k∧¬C k):OMap w' own C b mo N M:=by
 obtain ⟨n,f,h2,h3,h4,h5⟩:=h
 refine ⟨n,f,h2.mod hm h1,h3,fun id=>(h4 id).mod hm (fun mi hmi hf=> ?_) (fun k hk hf=>(hF k hk hf).2),h5⟩
 have h6:=h4 id
 rw [hmi] at h6
 obtain ⟨mi',e,h7, -, -,h8⟩:=h6
 cases e
 exact (hF mi h8.lt hf).1 h7
theorem TabAt.mod {w w':World} {b mo:Nat} {own C F:Nat→Prop} {M:List (Int×Fil)} {N:Nat} (h:TabAt w b mo own C M N) (hm:Mod F w w') (hF:∀k,k<w.heap.size→F k→¬own k∧¬C k):TabAt w' b mo own C M N:=
 have hn:∀k,own k→¬F k:=fun k hk hf=>(hF k (h.olow k hk) hf).1 hk
 ⟨hm.heap h.row (hn _ h.ob.1),h.ob,h.ne,h.om.mod hm (hn _ h.ob.2) hF,h.nd,h.low,h.dis,fun k hk=>Nat.lt_of_lt_of_le (h.olow k hk) hm.size,fun k hk=>Nat.lt_of_lt_of_le (h.clow k hk) hm.size,h.wf,h.sc⟩
theorem Tab.mod {w w':World} {b:Nat} {own C F:Nat→Prop} {M:List (Int×Fil)} {N:Nat} (h:Tab w b own C M N) (hm:Mod F w w') (hF:∀k,k<w.heap.size→F k→¬own k∧¬C k):Tab w' b own C M N:=by
 obtain ⟨mo,h⟩:=h
 exact ⟨mo,h.mod hm hF⟩
theorem Tab.mod0 {w w':World} {b:Nat} {own C F:Nat→Prop} {M:List (Int×Fil)} {N:Nat} (h:Tab w b own C M N) (hm:Mod F w w') (hF:∀k,k<w.heap.size→¬F k):Tab w' b own C M N:=h.mod hm (fun k hk hf=>absurd hf (hF k hk))
theorem Tab.low {w:World} {b:Nat} {own C:Nat→Prop} {M:List (Int×Fil)} {N:Nat} (h:Tab w b own C M N):(∀k,own k→k<w.heap.size)∧∀k,C k→k<w.heap.size:=by
 obtain ⟨mo,h⟩:=h
 exact ⟨h.olow,h.clow⟩
theorem tabF_some {M:List (Int×Fil)} {id:Int} {k:List UInt8} {q:Fil} (h:tabF M id k=some q):(id,q)∈M∧keyF q=k:=by
 unfold tabF at h
 obtain ⟨p,h1,rfl⟩:=Option.map_eq_some_iff.1 h
 have h2:=List.find?_some h1
 simp only [Bool.and_eq_true,beq_iff_eq] at h2
 obtain ⟨x,q⟩:=p
 obtain ⟨rfl,h3⟩:=h2
 exact ⟨List.mem_of_find?_eq_some h1,h3⟩
theorem tabF_none {M:List (Int×Fil)} {id:Int} {k:List UInt8} (h:tabF M id k=none):∀q,(id,q)∈M→keyF q≠k:=fun q hq e=>by
 unfold tabF at h
 rw [Option.map_eq_none_iff,List.find?_eq_none] at h
 have:=h _ hq
 simp [e] at this
theorem tabF_mem {M:List (Int×Fil)} (hn:M.Pairwise fun p q=>¬(p.1=q.1∧keyF p.2=keyF q.2)) {id:Int} {q:Fil} (h:(id,q)∈M):tabF M id (keyF q)=some q:=by
 induction M with
 |nil=>cases h
 | cons p M ih=>
  rw [List.pairwise_cons] at hn
  unfold tabF
  rw [List.find?_cons]
  rcases List.mem_cons.1 h with h|h
  ·subst h;simp
  ·have hne:(p.1==id&&keyF p.2==keyF q)=false:=by
    rw [Bool.eq_false_iff]
    intro e
    simp only [Bool.and_eq_true,beq_iff_eq] at e
    exact hn.1 _ h e
   rw [hne]
   exact ih hn.2 h
theorem tabF_new {M:List (Int×Fil)} {id:Int} {q:Fil} (h:tabF M id (keyF q)=none) (x:Int) (k:List UInt8):tabF (M++[(id,q)]) x k=if x=id∧k=keyF q then some q else tabF M x k:=by
 have h1:tabF (M++[(id,q)]) x k=(tabF M x k).or (if x=id∧k=keyF q then some q else none):=by
  unfold tabF
  rw [List.find?_append]
  cases M.find? fun p=>p.1==x&&keyF p.2==k with
  |some p=>rfl
  | none=>
   rw [Option.none_or,Option.map_none,Option.none_or,List.find?_cons]
   by_cases e:x=id∧k=keyF q
   ·obtain ⟨rfl,rfl⟩:=e
    simp
   ·rw [if_neg e]
    have:(id==x&&keyF q==k)=false:=by
     rw [Bool.eq_false_iff]
     intro h
     simp only [Bool.and_eq_true,beq_iff_eq] at h
     exact e ⟨h.1.symm,h.2.symm⟩
    simp [this]
 rw [h1]
 by_cases e:x=id∧k=keyF q
 ·obtain ⟨rfl,rfl⟩:=e
  rw [h,if_pos ⟨rfl,rfl⟩];rfl
 ·rw [if_neg e,if_neg e,Option.or_none]
def tabD (M:List (Int×Fil)) (id:Int) (k:List UInt8):List (Int×Fil):=M.filter fun p=> !(p.1==id&&keyF p.2==k)
theorem find_filter {α:Type} (l:List α) (p q:α→Bool):(l.filter q).find? p=l.find? fun x=>q x&&p x:=by
 induction l with
 |nil=>rfl
 | cons a l ih=>
  rw [List.filter_cons,List.find?_cons]
  by_cases h:q a=true
  ·rw [if_pos h,List.find?_cons,h,Bool.true_and,ih]
  ·rw [if_neg h,ih]
   have:q a=false:=by simpa using h
   simp [this]
theorem find_cong {α:Type} {l:List α} {p q:α→Bool} (h:∀x∈l,p x=q x):l.find? p=l.find? q:=by
 induction l with
 |nil=>rfl
 |cons a l ih=>
  rw [List.find?_cons,List.find?_cons,h a (List.mem_cons_self ..),ih (fun x hx=>h x (List.mem_cons_of_mem _ hx))]
theorem tabF_del (M:List (Int×Fil)) (id:Int) (k:List UInt8) (x:Int) (y:List UInt8):tabF (tabD M id k) x y=if x=id∧y=k then none else tabF M x y:=by
 unfold tabF tabD
 rw [find_filter]
 by_cases e:x=id∧y=k
 ·obtain ⟨rfl,rfl⟩:=e
  rw [if_pos ⟨rfl,rfl⟩,Option.map_eq_none_iff,List.find?_eq_none]
  intro p _
  cases (p.1==x&&keyF p.2==y)<;>simp
 ·rw [if_neg e]
  congr 1
  refine find_cong fun p _=> ?_
  cases h:(p.1==x&&keyF p.2==y) with
  |false=>simp
  | true=>
   simp only [Bool.and_eq_true,beq_iff_eq] at h
   have:(p.1==id&&keyF p.2==k)=false:=by
    rw [Bool.eq_false_iff]
    intro h2
    simp only [Bool.and_eq_true,beq_iff_eq] at h2
    exact e ⟨h.1.symm.trans h2.1,h.2.symm.trans h2.2⟩
   simp [this]
def tabX (M:List (Int×Fil)) (id:Int):List (Int×Fil):=M.filter fun p=> !(p.1==id)
theorem tabF_drop (M:List (Int×Fil)) (id x:Int) (y:List UInt8):tabF (tabX M id) x y=if x=id then none else tabF M x y:=by
 unfold tabF tabX
 rw [find_filter]
 by_cases e:x=id
 ·subst e
  rw [if_pos rfl,Option.map_eq_none_iff,List.find?_eq_none]
  intro p _
  cases (p.1==x)<;>simp
 ·rw [if_neg e]
  congr 1
  refine find_cong fun p _=> ?_
  by_cases h:p.1=x
  ·have:(p.1==id)=false:=by rw [beq_eq_false_iff_ne];exact fun h2=>e (h.symm.trans h2)
   simp [this]
  ·have:(p.1==x)=false:=by rw [beq_eq_false_iff_ne];exact h
   simp [this]
def idxD (I:List (Int×Fil)) (id:Int):List (Int×Fil):=I.filter fun p=> !(p.1==id)
theorem idxF_del (I:List (Int×Fil)) (id x:Int):idxF (idxD I id) x=if x=id then none else idxF I x:=by
 unfold idxF idxD
 induction I with
 |nil=>simp
 | cons p I ih=>
  rw [List.filter_cons,List.find?_cons]
  by_cases hp:p.1=id
  ·have h1:(!(p.1==id))=false:=by rw [hp];simp
   rw [h1,if_neg (by decide),ih]
   by_cases hx:x=id
   ·rw [if_pos hx,if_pos hx]
   ·have h2:(p.1==x)=false:=by rw [beq_eq_false_iff_ne];exact fun e=>hx (e▸hp)
    rw [if_neg hx,if_neg hx,h2]
  ·have h1:(!(p.1==id))=true:=by simp [hp]
   rw [h1,if_pos rfl,List.find?_cons]
   cases h3:p.1==x with
   |true=>
    rw [beq_iff_eq] at h3
    rw [if_neg (fun e=>hp (h3.trans e))]
   |false=>exact ih
theorem FMap.del {w w4:World} {m1:Nat} {own C:Nat→Prop} {I:List (Int×Fil)} {f:Lit→Option Value} {id:Int} (h2:∀id:Int,FilIs w own C (f (.int .i64 id)) (idxF I id)) (h6:MapR w4 3 m1 (idxD I id).length (delF f (.int .i64 id))) (hm:Mod (fun k=>k=m1) w w4) (hm1:own m1):FMap w4 m1 own C (idxD I id):=by
 refine ⟨_,h6,fun x=> ?_⟩
 rw [idxF_del]
 unfold delF
 by_cases e:x=id
 ·rw [if_pos e,if_pos (by rw [e])];trivial
 ·rw [if_neg e,if_neg (fun h=>e (Lit.int.inj h).2)]
  exact (h2 x).mod hm (fun k _ e=>e▸hm1)
def RemS (b m1 cb n:Nat) (id:Int) (f:Lit→Option Value) (r:Value) (y:World):Prop:=
 y.cell? ⟨b,0,none⟩=some (.map (some m1))∧y.cell? ⟨cb,0,none⟩=some (.int .i64 id)∧MapR y 3 m1 n f∧(Instr.lookup 157 (.map (some m1)) (.int .i64 id) true).run Tryz.prog y= .ok r y
theorem RemS.mod {b m1 cb n:Nat} {id:Int} {f:Lit→Option Value} {r:Value} {y z:World} {F:Nat→Prop} (h:RemS b m1 cb n id f r y) (hid:(Lit.int .i64 id).wf=true) (hr:r= .tuple #[(f (.int .i64 id)).getD (.agg #[.string ⟨#[]⟩,.slice none 0 0]),.bool (f (.int .i64 id)).isSome])
 (hm:Mod F y z) (h1:¬F b) (h2:¬F cb) (h3:¬F m1):RemS b m1 cb n id f r z:=by
 refine ⟨hm.cell h.1 h1,hm.cell h.2.1 h2,h.2.2.1.mod hm h3, ?_⟩
 rw [hr]
 exact (h.2.2.1.mod hm h3).look_ok keyed_i Tryz.underlying157 (zero_fil z) (Maps.keyOf_int_mk Tryz.underlying3 hid)
attribute [local go_sem ↓] run_load_cd
end
end Go.Proofs.YtaenebdppkjhoaaGreatDoor
