/- Lemmas. -/
import Derived.Test.YtaenebdppkjhoaaGreatDoorZg25
import Derived.Sort.KeysCollected
namespace Go.Proofs.YtaenebdppkjhoaaGreatDoor
set_option maxRecDepth 20000
set_option maxHeartbeats 40000000
section
open Go.RowKit
theorem D9 {I:List (Int×Fil)} {id:Int} {q:Fil} (h:q8 I id=none) (x:Int):q8 (I++[(id,q)]) x=if x=id then some q else q8 I x:=by
 unfold q8 at*;rw [List.find?_append];by_cases hx:x=id
 ·subst hx;rw [if_pos rfl]
  have:I.find? (fun p=>p.1==x)=none:=by
   cases hf:I.find? (fun p=>p.1==x) with
   |none=>rfl
   |some p=>rw [hf] at h;cases h
  rw [this];simp
 rw [if_neg hx]
 cases hf:I.find? (fun p=>p.1==x) with
 |some p=>rfl
 |none=>
  have:(id==x)=false:=by rw [beq_eq_false_iff_ne];exact fun e=>hx e.symm
  simp [this]
theorem T6 {I:List (Int×Fil)} {id:Int} {q:Fil} (h:q8 I id=some q):(id,q)∈I:=by
 unfold q8 at h
 cases hf:I.find? (fun p=>p.1==id) with
 |none=>rw [hf] at h;cases h
 |some p=>
  rw [hf] at h;cases h
  have h1:=List.find?_some hf;have h2:=List.mem_of_find?_eq_some hf;rw [beq_iff_eq] at h1;rw [<-h1];exact h2
theorem a1H {I:List (Int×Fil)} {id:Int} (h:q8 I id=none):id∉I.map Prod.fst:=by
 intro hm;obtain ⟨p,hp,rfl⟩:=List.mem_map.1 hm;unfold q8 at h
 cases hf:I.find? (fun q=>q.1==p.1) with
 |none=>
  have:=List.find?_eq_none.1 hf p hp;simp at this
 |some q=>rw [hf] at h;cases h
theorem a1I {l:List Cnd} {c:Cnd} (h:c∈j2 l):c∈M7 l:=by
 unfold j2 A6 at h;obtain ⟨⟨d,i⟩,h1,h2⟩:=List.mem_filterMap.1 h;have h3:=(List.mem_zipIdx h1).2.2;rw [h3] at h2;simp only at h2;split at h2
 ·cases h2
 ·cases h2
  exact List.mem_of_mem_take (List.getElem_mem _)
theorem G6 (l:List Cnd):(j2 l).length<=l.length:=by
 unfold j2;exact a34 _ _
theorem F0 {l:List Cnd} (hl:∀c∈l,c.fits):∀c∈j2 l,c.fits:=fun c hc=>by
 obtain ⟨d,hd,rfl⟩:=a0g (a1I hc);exact a1D (hl d hd)
theorem a8h (w:World):(zeroValue 179).run Tryz.prog w= .ok I3 w:=by kernel_rfl
def a3J (b m2 cb:Nat) (n:Nat) (f:Lit->Option Value) (v:Value) (x:Cnd) (y:World):Prop:=
 y.cell? ⟨b,1,none⟩=some (.map (some m2))/\y.cell? ⟨cb,0,none⟩=some (.string x.name)/\j9 y cb 0 7/\cellsOf y cb 0 7=#[.string x.name,.int .i64 x.op,.int .i64 x.v.kind,.int .i64 x.v.int,.float .f64 x.v.num,.string x.v.text,.bool x.v.yes]/\
  l8 y 9 m2 n f/\(Instr.lookup 158 (.map (some m2)) (.string x.name) false).run Tryz.prog y= .ok v y
theorem a3J.at {y:World} {b m1 m2 cb n:Nat} {f:Lit->Option Value} {v:Value} {x:Cnd} (h1:y.heap[b]? =some (.cells #[.map (some m1),.map (some m2)] 160 (0,0))) (h2:y.heap[cb]? =some (.cells x.cells.toArray 132 (0,0)))
 (h3:l8 y 9 m2 n f) (hv:(f (Lit.str x.name)).getD I3=v) (hx:x.name.size<=1000000):a3J b m2 cb n f v x y:=by
 refine ⟨d6 h1 rfl,d6 h2 rfl,(e7.row h2).all rfl,(e7.row h2).is rfl,h3, ?_⟩;rw [<-hv];exact h3.look o6 Tryz.underlying158 (a8h y) (WideMaps.keyOf_string_mk Tryz.underlying9 (by unfold maxLen;omega))
def b3b (w4:World) (b m1 m2:Nat) (own:Nat->Prop) (I:List (Int×Fil)) (T:Nat) (id:Int) (sc:ByteArray) (nl:List Cnd) (i:Value) (wr:World):Prop:=
 ∃j:Nat,i= .int .i64 j/\j<=nl.length/\a3e wr b m1 m2 (fun k=>own k\/w4.heap.size<=k) (I++[(id,(sc,nl.take j))]) (T+j)/\Mod (fun k=>own k/\k≠m1/\k≠b) w4 wr
def b0Z (w:World) (b:Nat) (own C:Nat->Prop) (I:List (Int×Fil)) (T:Nat) (id:Int) (sc:ByteArray) (l:List Cnd) (e:Ending) (w':World):Prop:=
 (q8 I id≠none/\e= .returned (.bool false)/\Mod (fun _=>False) w w')\/
 (q8 I id=none/\e= .returned (.bool true)/\∃own' C',Idx w' b own' C' (I++[(id,(sc,j2 l))]) (T+20)/\(∀k,own k->own' k)/\(∀k,own' k->own k\/w.heap.size<=k)/\(∀k,C' k->C k\/w.heap.size<=k)/\Mod own w w')
theorem u4 (w:World):(zeroValue 33).run Tryz.prog w= .ok (.agg #[.string ⟨#[]⟩,.slice none 0 0]) w:=by kernel_rfl
theorem b00:D8 Tryz.prog 179 181 8 80:=O4 (by kernel_rfl) (by kernel_rfl)
theorem a8i {a b:ByteArray} (h:Lit.str a=Lit.str b):a=b:=by
 unfold Lit.str at h;exact ByteArray.ext (Array.toList_inj.1 (Lit.string.inj h))
theorem a9a {wr wz w5 w6:World} {b m1 m2 n T:Nat} {ownL:Nat->Prop} {I I':List (Int×Fil)} {f:Lit->Option Value} {x:Cnd} {id:Int} {v v':Value} {ps:List (Int×Cnd)}
 (h2:n<=T) (h3:∀nm:ByteArray,b4D wr ownL I T nm ((f (Lit.str nm)).getD I3)) (h4:∀nm k,((f (Lit.str nm)).getD I3).ownBlock=some k->k≠b/\k≠m1/\k≠m2)
 (h5:∀nm nm' k,((f (Lit.str nm)).getD I3).ownBlock=some k->((f (Lit.str nm')).getD I3).ownBlock=some k->nm=nm') (hv:(f (Lit.str x.name)).getD I3=v)
 (hpT:ps.length<=T) (hpi:∀id,(ps.filter fun p=>p.1==id).map Prod.snd=D2 (q8 I id) x.name)
 (hz:Mod (fun _=>False) wr wz) (ha:t8 wz 181 8 v (ps.length+1) (pls ps++B6 (id,x)) v' w5)
 (h6:l8 w6 9 m2 (if (f (Lit.str x.name)).isSome then n else n+1) (C0 f (Lit.str x.name) v')) (hm6:Mod (fun k=>k=m2) w5 w6) (hL:∀k,wr.heap.size<=k->ownL k) (hb:b<wr.heap.size/\m1<wr.heap.size/\m2<wr.heap.size)
 (hI:∀id' nm',D2 (q8 I' id') nm'=D2 (q8 I id') nm'++if id'=id/\nm'=x.name then [x] else []):a3e w6 b m1 m2 ownL I' (T+1):=by
 obtain ⟨a1,a2,a3⟩:=ha;have hvb:=h4 x.name;rw [hv] at hvb
 have hnew:∀k,v'.ownBlock=some k->(v.ownBlock=some k)\/wr.heap.size<=k:=fun k hk=>by
  rcases a3 with a3|⟨k',a3,a4⟩
  ·exact .inl (a3▸hk)
  rw [a3] at hk;cases hk;exact .inr (Nat.le_trans hz.size a4)
 obtain ⟨ps0,q1,q2,q3,q4⟩:=h3 x.name;rw [hv] at q1 q3
 have look:∀nm,(C0 f (Lit.str x.name) v' (Lit.str nm)).getD I3=if nm=x.name then v' else (f (Lit.str nm)).getD I3:=fun nm=>by
  unfold C0;by_cases e:nm=x.name
  ·rw [if_pos e,if_pos (by rw [e])];rfl
  rw [if_neg e,if_neg (fun e'=>e (a8i e'))]
 refine ⟨_,_,h6,by split<;>omega,fun nm=> ?_,fun nm k hk=> ?_,fun nm nm' k hk hk'=> ?_⟩
 ·rw [look];by_cases e:nm=x.name
  ·rw [if_pos e];subst e;refine ⟨ps++[(id,x)], ?_,by rw [zz4];simp;omega,fun k hk=> ?_,fun id'=> ?_⟩
   ·rw [a3d,zz4,show pls [(id,x)]=B6 (id,x) from zz11 _];refine a1.mod hm6 fun k hk e=> ?_;rcases hnew k hk with h|h
    ·exact (hvb k h).2.2 e
    omega
   ·rcases hnew k hk with h|h
    ·exact q3 k h
    exact hL k h
   rw [hI,List.filter_append,List.map_append,hpi];congr 1;by_cases e:id'=id
   ·subst e;rw [if_pos ⟨rfl,rfl⟩];simp
   rw [if_neg (fun h=>e h.1)];have:(id==id')=false:=by rw [beq_eq_false_iff_ne];exact fun h=>e h.symm
   simp [this]
  rw [if_neg e];obtain ⟨qs,r1,r2,r3,r4⟩:=h3 nm;refine ⟨qs, ?_,by omega,r3,fun id'=> ?_⟩
  ·refine ((r1.mod hz (fun _ _ h=>h)).mod a2 (fun k hk hi=> ?_)).mod hm6 (fun k hk e'=>(h4 nm k hk).2.2 e');exact e (h5 nm x.name k hk (by rw [hv];exact hi))
  rw [hI,if_neg (fun h=>e h.2),zz11];exact r4 id'
 ·rw [look] at hk;by_cases e:nm=x.name
  ·rw [if_pos e] at hk;rcases hnew k hk with h|h
   ·exact hvb k h
   omega
  rw [if_neg e] at hk;exact h4 nm k hk
 rw [look] at hk hk'
 have lt:∀nm k,((f (Lit.str nm)).getD I3).ownBlock=some k->k<wr.heap.size:=fun nm k hk=>by
  obtain ⟨qs,r1, -⟩:=h3 nm;exact r1.lt k hk
 by_cases e:nm=x.name<;>by_cases e':nm'=x.name
 ·rw [e,e']
 ·rw [if_pos e] at hk;rw [if_neg e'] at hk';rcases hnew k hk with h|h
  ·rw [e];exact h5 x.name nm' k (by rw [hv];exact h) hk'
  have:=lt nm' k hk';omega
 ·rw [if_neg e] at hk;rw [if_pos e'] at hk';rcases hnew k hk' with h|h
  ·rw [e'];exact h5 nm x.name k hk (by rw [hv];exact h)
  have:=lt nm k hk;omega
 rw [if_neg e] at hk;rw [if_neg e'] at hk';exact h5 nm nm' k hk hk'
theorem a03 {o:Oper} {a:Act} {w:World} {K:Act->World->Prop} {Q:Exit->Act->World->Prop} (t:TypeId) (m x v:Operand) (ho:o.op= .mapUpdate t m x v)
 (h:∃(kt e:TypeId) (b n:Nat) (f:Lit->Option Value) (kl:Lit),l8 w kt b n f/\Maps.Keyed Tryz.prog kt/\Tryz.prog.underlying t=some (.map kt e)/\n<maxLen/\a.eval m= .map (some b)/\keyOf Tryz.prog kt (a.eval x)=some kl/\
   ∀w',l8 w' kt b (if (f kl).isSome then n else n+1) (C0 f kl (a.eval v))->Mod (fun k=>k=b) w w'->K (a.put o.dst undef) w'):o.wp Tryz.prog a w K Q:=by
 obtain ⟨kt,e,b,n,f,kl,h1,K1,ht,hn,hm,hkey,hK⟩:=h;obtain ⟨w',hrun,r1,r2⟩:=h1.put K1 ht hn hkey (a.eval v);unfold Oper.wp;simp [execOp,ho,hm,hrun,Result.andThen];exact hK w' r1 r2
theorem a0F.anti {w:World} {m1:Nat} {own own' C:Nat->Prop} {I:List (Int×Fil)} (h:a0F w m1 own C I) (ho:∀k,own' k->own k):a0F w m1 own' C I:=by
 obtain ⟨f,h1,h2⟩:=h;refine ⟨f,h1,fun id=> ?_⟩;have h3:=h2 id;cases hf:f (.int .i64 id)<;>cases hi:q8 I id<;>rw [hf,hi] at h3
 ·trivial
 ·exact h3
 ·exact h3
 obtain ⟨a,cap,e1,e2,e3⟩:=h3;exact ⟨a,cap,e1,e2,fun k hk=>⟨(e3 k hk).1,fun h=>(e3 k hk).2.1 (ho k h),(e3 k hk).2.2⟩⟩
theorem a0F.put {w w6:World} {m1:Nat} {own own' C C':Nat->Prop} {I:List (Int×Fil)} {f:Lit->Option Value} {id:Int} {v:Value} {q:Fil} (h2:∀id:Int,A7 w own C (f (.int .i64 id)) (q8 I id)) (hn:q8 I id=none) (h6:l8 w6 3 m1 (I.length+1) (C0 f (.int .i64 id) v))
 (hm:Mod (fun k=>k=m1) w w6) (hm1:own m1) (hq:A7 w6 own' C' (some v) (some q)) (ho:∀k,k<w.heap.size->own' k->own k) (hC:∀k,C k->C' k):a0F w6 m1 own' C' (I++[(id,q)]):=by
 refine ⟨_,by rw [zz4];exact h6,fun x=> ?_⟩;rw [D9 hn];unfold C0;by_cases e:x=id
 ·rw [if_pos e,if_pos (by rw [e])];exact hq
 rw [if_neg e,if_neg (fun h=>e (Lit.int.inj h).2)];have h3:=(h2 x).mod hm (fun k _ e=>e▸hm1);cases hf:f (.int .i64 x)<;>cases hi:q8 I x<;>rw [hf,hi] at h3
 ·trivial
 ·exact h3
 ·exact h3
 have h4:=h2 x;rw [hf,hi] at h4;obtain ⟨a,cap,e1, -,e3⟩:=h4;obtain ⟨a',cap',e1',h5,h6⟩:=h3;rw [e1] at e1';cases e1'
 exact ⟨a,cap,e1,h5,fun k hk=>⟨(h6 k hk).1,fun h=>(e3 k hk).2.1 (ho k (e3 k hk).1 h),hC k (e3 k hk).2.2⟩⟩
attribute [local go_sem ↓] F3
theorem b3c (w0 w:World) (hl:J3 w0 w) (b:Nat) (own C:Nat->Prop) (I:List (Int×Fil)) (T:Nat) (h:Idx w b own C I T) (hT:T<=100000) (hown:∀k,own k->w0.heap.size<=k) (id:Int) (hid:(Lit.int .i64 id).wf=true)
 (sc:ByteArray) (cv:Value) (l:List Cnd) (hv:j0 w 7 cv l.length (l6 l)) (hll:l.length<20) (hcs:∀c∈l,c.fits) (hsc:sc.size<=1000000):
 Calls Tryz.prog 62 #[.pointer (some ⟨b,0,none⟩),.int .i64 id,.agg #[.string sc,cv]] w (b0Z w b own C I T id sc l):=by
 obtain ⟨m1,m2,h⟩:=h;obtain ⟨a,cap,rfl,hcap⟩:∃a c,cv= .slice a l.length c/\l.length<=c:=by obtain ⟨-,a,c,h,h2, -⟩:=hv;exact ⟨a,c,h,h2⟩
 obtain ⟨wa,hwa,hmwa,hgwa,hzwa⟩:=e8 w (.cells #[.string sc,.slice a l.length cap] 33);have hva:=hv.mod hmwa (fun _ _ h=>h);have hia:=h.mod hmwa (fun _ _ h=>h);obtain ⟨f,hf1,hf2⟩:=hia.fm;have hkey:keyOf Tryz.prog 3 (.int .i64 id)=some (.int .i64 id):=Maps.keyOf_int_mk Tryz.underlying3 hid;have hlk:=hf1.look_ok m7 Tryz.underlying157 (u4 wa) hkey;have c0:wa.cell? ⟨b,0,none⟩=some (.map (some m1)):=d6 hia.row rfl;have hfi:=hf2 id
 cases hq:q8 I id with
 | some q=>
  rw [hq] at hfi
  cases hfv:f (.int .i64 id) with
  |none=>rw [hfv] at hfi;exact hfi.elim
  |some v=>
   rw [hfv] at hfi hlk;obtain ⟨qa,qc,rfl, -⟩:=hfi;simp only [Option.getD_some,Option.isSome_some] at hlk;have hqn:q8 I id≠none:=by rw [hq];intro h;cases h
   obtain ⟨Hv,Hl,H,Hva,Hia,Hf1,Hf2,Hq,Hfv,Hqn,Hcs,Hwa⟩:=zh12 hv hl h hva hia hf1 hf2 hq hfv hqn hcs hwa;obtain ⟨Hgwa,Hmwa,Hown,Hid,Hkey⟩:=zh5 hgwa hmwa hown hid hkey;clear hv hl h hva hia hf1 hf2 hq hfv hqn hcs hwa hgwa hmwa hown hid hkey hzwa
   go_enter Tryz.func62,Tryz.ntmps62
   go_wp2_with (first|(rw [show w.alloc _=wa from Hwa.out])|fail)
   go_ret;exact .inl ⟨Hqn.out,rfl,Hmwa.out.alloc _⟩
 | none =>
  rw [hq] at hfi
  cases hfv:f (.int .i64 id) with
  |some v=>rw [hfv] at hfi;exact hfi.elim
  |none=>
   rw [hfv] at hlk;simp only [Option.getD_none,Option.isSome_none] at hlk;obtain ⟨wb,hwb,hmwb,hgwb,hzwb⟩:=e8 wa (.cells #[.string ⟨#[]⟩,.slice none 0 0] 33);have hm2:=hmwa.trans hmwb (fun _ _ h=>h);have hnm:=a0h w0 wb (hl.mod0 hm2) sc (.slice a l.length cap) l (hva.mod hmwb (fun _ _ h=>h)) hll hcs;have hib:=hia.mod hmwb (fun _ _ h=>h);have hgb:=hmwb.heap hgwa (fun h=>h);have d0:wb.cell? ⟨w.heap.size,0,none⟩=some (.string sc):=d6 hgb rfl;have d1:wb.cell? ⟨w.heap.size,1,none⟩=some (.slice a l.length cap):=d6 hgb rfl;have hbz:b<w.heap.size:=h.olow _ h.ob.1;obtain ⟨Hv,Hl,H,Hva,Hia,Hf1,Hf2,Hq,Hfv,Hcs,Hwa,Hgwa⟩:=zh12 hv hl h hva hia hf1 hf2 hq hfv hcs hwa hgwa;obtain ⟨Hmwa,Hown,Hid,Hkey,Hwb,Hgwb,Hmwb,Hm2,Hnm,Hib,Hgb⟩:=zh11 hmwa hown hid hkey hwb hgwb hmwb hm2 hnm hib hgb;clear hv hl h hva hia hf1 hf2 hq hfv hcs hwa hgwa hmwa hown hid hkey hwb hgwb hmwb hm2 hnm hib hgb hzwa hzwb
   go_enter Tryz.func62,Tryz.ntmps62
   go_wp2_with (first|(rw [show w.alloc _=wa from Hwa.out])|((with_reducible refine d8 33 (.tmp 7) (.tmp 18) ?_);refine ⟨rfl,[.string ⟨#[]⟩,.slice none 0 0],rfl,rfl,by kernel_rfl,rfl, ?_⟩;rw [Hwb.out])|fail)
   refine Hnm.out.mono ?_;rintro e w2 ⟨na,nc,rfl,hno,hnf,hm3⟩;have hg2:=hm3.heap Hgb.out (fun h=>h);have hi2:=Hib.out.mod hm3 (fun _ _ h=>h);obtain ⟨nl,hnl⟩:∃nl,j2 l=nl:=⟨_,rfl⟩;rw [hnl] at hno hnf⊢;have hnlen:nl.length<20:=by rw [<-hnl];exact Nat.lt_of_le_of_lt (G6 l) hll
   have hm02:=Hm2.out.trans hm3 (fun _ _ h=>h);obtain ⟨Hg2,Hi2,Hnl,Hno,Hnf,Hm3,Hm02⟩:=zh7 hg2 hi2 hnl hno hnf hm3 hm02;clear hg2 hi2 hnl hno hnf hm3 hm02 hlk c0 d0 d1
   go_wp2_with (first|((with_reducible refine j3 33 (.tmp 5) (.tmp 22) ?_);refine ⟨w.heap.size,rfl,_,_,Hg2.out,[.string sc,.slice na nl.length nc],rfl,rfl,by kernel_rfl,rfl, ?_⟩;intro w3 hg3 hmw3;have Hg3:=Lib.hid hg3;have Hmw3:=Lib.hid hmw3;clear hg3 hmw3)|fail)
   have hgz:=(Hmw3.out).heap Hi2.out.row (fun h=>by omega)
   have hSb:(fun y:World=>y.cell? ⟨b,0,none⟩=some (.map (some m1))/\y.cell? ⟨w.heap.size,0,none⟩=some (.string sc)/\y.cell? ⟨w.heap.size,1,none⟩=some (.slice na nl.length nc)) w3.drew:=
    ⟨d6 hgz rfl,d6 Hg3.out rfl,d6 Hg3.out rfl⟩
   obtain ⟨fz,hz1,hz2⟩:=H.out.fm;have hm03:Mod (fun k=>k=w.heap.size) w w3.drew:=(Hm02.out.mono (fun _ _ h=>h.elim)).trans Hmw3.out.drew (fun _ _ h=>h);have hzm:=hz1.mod hm03 (fun h=>by have:=H.out.olow _ H.out.ob.2.1;omega);obtain ⟨Hgz,Hz1,Hz2,Hzm,Hm03⟩:=zh5 hgz hz1 hz2 hzm hm03;clear hgz hz1 hz2 hzm hm03;have hS:=hSb;refine g8 [.rd 0,.rd 1,.rd 2,.rd 3,.rd 4,.rd 5,.go 6] [0,1,2,3,4,5] (fun y:World=>y.cell? ⟨b,0,none⟩=some (.map (some m1))/\y.cell? ⟨w.heap.size,0,none⟩=some (.string sc)/\y.cell? ⟨w.heap.size,1,none⟩=some (.slice na nl.length nc)) (by kernel_rfl) (by kernel_rfl) (fun _ _ d _ _ h=>(by cases d<;>exact h)) ?_
   iterate 6 (
    refine l5 rfl ?_ (fun _=>hS) ?_ (fun w0 h0=> ?_) (fun K hK=> ?_)
    ·(try simp only [zz1]);(try simp only [zz2]);(try simp only [zz3]);go_simp;done
    rotate_left
    ·(try simp only [zz1]);(try simp only [zz2]);(try simp only [zz3])
     first
      |(obtain ⟨f0,f1,f2⟩:=h0 rfl;clear h0;go_simp;with_reducible rfl)
      |(clear h0;go_simp;with_reducible rfl)
    (try simp only [zz1]);(try simp only [zz2]);(try simp only [zz3])
    go_simp;refine hK _ ?_;clear hK K)
   refine g7 (g9 rfl ?_ (fun K hK=> ?_))
   ·(try simp only [zz1]);(try simp only [zz2]);(try simp only [zz3]);go_simp;done
   (try simp only [zz1]);(try simp only [zz2]);(try simp only [zz3]);refine a03 157 _ _ _ rfl ?_;refine ⟨3,33,m1,I.length,fz,.int .i64 id,Hzm.out,m7,Tryz.underlying157,by have:=H.out.low;unfold maxLen;omega,rfl,Hkey.out,fun w4 hU1 hU2=> ?_⟩;refine hK _ _ (fun h=>absurd h (by decide)) ?_;clear hK K;refine j8 ?_
   have hfz:fz (.int .i64 id)=none:=by
    have h1:=Hz2.out id;rw [Hq.out] at h1
    cases h2:fz (.int .i64 id) with
    |none=>rfl
    |some v=>rw [h2] at h1;exact h1.elim
   have hu:l8 w4 3 m1 (I.length+1) (C0 fz (.int .i64 id) (.agg #[.string sc,.slice na nl.length nc])):=by
    have h1:=hU1;rw [hfz] at h1;exact h1
   have hm24:Mod (fun k=>k=w.heap.size\/k=m1) w2 w4:=(Hmw3.out.drew.mono (fun _ _ h=> .inl h)).trans (hU2.mono (G:=fun k=>k=w.heap.size\/k=m1) (fun _ _ h=> .inr h)) (fun _ _ h=>h);have hmlt:m1<w.heap.size:=H.out.olow _ H.out.ob.2.1;have hm2lt:m2<w.heap.size:=H.out.olow _ H.out.ob.2.2;have hsz:w.heap.size<w2.heap.size:=by have h1:=Hmwb.out.size;have h2:=Hm3.out.size;have h3:=(zz7 Hgwa.out).1;omega
   have hs24:w2.heap.size<=w4.heap.size:=hm24.size
   have hnb:∀k,(Value.slice na nl.length nc).ownBlock=some k->k≠w.heap.size/\¬own k/\k<w2.heap.size:=fun k hk=>by
    have h1:=Hnf.out k hk;have h2:=(zz7 Hgb.out).1;exact ⟨by omega,fun h=>by have:=H.out.olow _ h;omega,Hno.out.lt k hk⟩
   have ho4:i7 w4 132 7 (.slice na nl.length nc) nl.length (l6 nl):=Hno.out.mod hm24 (fun k hk h=>by
    rcases h with h|h
    ·exact (hnb k hk).1 h
    ·exact (hnb k hk).2.1 (h▸H.out.ob.2.1))
   have hr4:=ho4.rd
   have hp4:a3e w4 b m1 m2 (fun k=>own k\/w4.heap.size<=k) (I++[(id,(sc,nl.take 0))]) (T+0):=(Hi2.out.pm.mod hm24 (by intro h;have:=H.out.ne;omega) (fun k h1 h2 h3 h4 _ h5=>by have:=H.out.olow _ h1;omega)).cong (fun k _ h=> .inl h) (fun id' nm=>by
    rw [D9 Hq.out];by_cases e:id'=id
    ·rw [if_pos e,e,Hq.out];rfl
    ·rw [if_neg e]) (Nat.le_refl _)
   have hq4:a0F w4 m1 (fun k=>own k\/w4.heap.size<=k) (fun k=>C k\/(Value.slice na nl.length nc).ownBlock=some k) (I++[(id,(sc,nl))]):=by
    refine a0F.put (w:=w3.drew) (own:=own) (fun x=>(Hz2.out x).mod Hm03.out (fun k hk h=>by omega)) Hq.out hu hU2 H.out.ob.2.1 ⟨na,nc,rfl,ho4,fun k hk=> ?_⟩ (fun k hk h=> ?_) (fun _=> .inl)
    ·have h1:=hnb k hk;exact ⟨by omega,fun h=>h.elim h1.2.1 (fun h=>by omega),.inr hk⟩
    have h3:k<w3.heap.size:=hk;have h4:w3.heap.size<=w4.heap.size:=hU2.size;exact h.elim (fun h=>h) (fun h=>by omega)
   have e1:w4.cell? ⟨w.heap.size,1,none⟩=some (.slice na nl.length nc):=(hU2.cell (show w3.drew.cell? _=_ from d6 Hg3.out rfl) (fun h=>by have h':w.heap.size=m1:=h;omega));have hg4:w4.heap[b]? =some (.cells #[.map (some m1),.map (some m2)] 160 (0,0)):=hU2.heap Hgz.out H.out.ne.1;obtain ⟨HU1,HU2,Hfz,Hu,Hm24,Hnb,Ho4,Hr4,Hp4,Hq4,Hg4⟩:=zh11 hU1 hU2 hfz hu hm24 hnb ho4 hr4 hp4 hq4 hg4;clear hU1 hU2 hfz hu hm24 hnb ho4 hr4 hp4 hq4 hg4 hS hSb
   go_wp2_with fail
   go_loopw [32] (fun i wr=>b3b w4 b m1 m2 own I T id sc nl i wr) (fun i _=>nl.length - (intOf i).toNat)
   case atStart=>exact ⟨0,rfl,Nat.zero_le _,Hp4.out,Mod.refl _ _⟩
   case round=>
    obtain ⟨j,rfl,hj,hp,hmr⟩:=hrel;by_cases hlt:j<nl.length
    ·have hlt':(j:Int)<nl.length:=by omega
     obtain ⟨x,hxj⟩:∃x,nl[j]? =some x:=⟨_,zz5 hlt⟩;have hxf:x.fits:=F0 Hcs.out x (by rw [Hnl.out];exact zz8 hxj);have hrr:j0 wr 7 (.slice na nl.length nc) nl.length (l6 nl):=Hr4.out.mod hmr (fun k hk h=>(Hnb.out k hk).2.1 h.1);obtain ⟨g,off,rfl,hf⟩:∃g off,na=some ⟨g,off,none⟩/\e7 wr g (off+j*7) x.cells:=J2 hrr hxj;obtain ⟨wz,hwz,hmwz,hgwz,hzwz⟩:=e8 wr (.cells x.cells.toArray 132);obtain ⟨n,f2,g1,g2,g3,g4,g5⟩:=hp;obtain ⟨v,hv⟩:∃v,(f2 (Lit.str x.name)).getD I3=v:=⟨_,rfl⟩;obtain ⟨ps,p1,p2,p3,p4⟩:=g3 x.name;rw [hv] at p1 p3;have hvb:=g4 x.name;rw [hv] at hvb;have hgr:wr.heap[b]? =some (.cells #[.map (some m1),.map (some m2)] 160 (0,0)):=hmr.heap Hg4.out (fun h=>h.2.2 rfl);have hsr:w4.heap.size<=wr.heap.size:=hmr.size
     have hadd:∀y,Mod (j1 v) wz y->a3J b m2 wr.heap.size n f2 v x y:=fun y hy=>by
      refine a3J.at (hy.heap (hmwz.heap hgr (fun h=>h)) (fun h=>(hvb _ h).1 rfl)) (hy.heap hgwz (fun h=> ?_)) ((g1.mod hmwz (fun h=>h)).mod hy (fun h=>(hvb _ h).2.2 rfl)) hv hxf.name;have:=p1.lt _ h;omega
     obtain ⟨Hxj,Hxf,Hrr,Hf,Hwz,Hmwz,Hgwz,G1,G2,G3,G4,G5⟩:=zh12 hxj hxf hrr hf hwz hmwz hgwz g1 g2 g3 g4 g5;obtain ⟨Hv,P1,P3,P4,Hvb,Hgr,Hadd,Hmr⟩:=zh8 hv p1 p3 p4 hvb hgr hadd hmr;clear hxj hxf hrr hf hwz hmwz hgwz g1 g2 g3 g4 g5 hv p1 p3 p4 hvb hgr hadd hmr hzwz
     go_wp2_with (first|((with_reducible refine d9 132 (.tmp 34) ?_);refine ⟨g,off+j*7,rfl,x.cells,Hf.out,by kernel_rfl,by kernel_rfl, ?_⟩)|((with_reducible refine d8 132 (.tmp 10) (.tmp 35) ?_);refine ⟨rfl,x.cells,rfl,rfl,by kernel_rfl,rfl, ?_⟩;rw [Hwz.out])|fail)
     have hS:a3J b m2 wr.heap.size n f2 v x wz.drew:=Hadd.out _ ((Mod.refl _ wz).drew);refine g8 [.rd 0,.rd 1,.rd 2,.rd 3,.rd 4,.rd 5,.rd 6,.rd 7,.rd 8,.rd 9,.rd 10,.rd 11,.rd 12,.rd 13,.rd 14,.rd 15,.go 16,.go 17,.go 18] [0,1,2,3,4,5,6,7,8,9,10,11,12,13,14,15,16,17] (a3J b m2 wr.heap.size n f2 v x) (by kernel_rfl) (by kernel_rfl) (fun _ _ d _ _ h=>(by cases d<;>exact h)) ?_
     iterate 16 (
      refine l5 rfl ?_ (fun _=>hS) ?_ (fun w0 h0=> ?_) (fun K hK=> ?_)
      ·(try simp only [zz1]);(try simp only [zz2]);(try simp only [zz3]);go_simp;done
      rotate_left
      ·(try simp only [zz1]);(try simp only [zz2]);(try simp only [zz3])
       first
        |(obtain ⟨f0,f1,f2,f3, -,f4⟩:=h0 rfl;clear h0;go_simp;with_reducible rfl)
        |(clear h0;go_simp;with_reducible rfl)
      (try simp only [zz1]);(try simp only [zz2]);(try simp only [zz3])
      go_simp;refine hK _ ?_;clear hK K)
     refine g7 (g9 rfl ?_ (fun K hK=> ?_))
     ·(try simp only [zz1]);(try simp only [zz2]);(try simp only [zz3]);go_simp;done
     (try simp only [zz1]);(try simp only [zz2]);(try simp only [zz3]);obtain ⟨wT,hwT,hmwT,hgwT,hzwT⟩:=e8 wz.drew (.cells (B6 (id,x)).toArray 181);have hwT':wz.drew.alloc (.cells #[.int .i64 id,.string x.name,.int .i64 x.op,.int .i64 x.v.kind,.int .i64 x.v.int,.float .f64 x.v.num,.string x.v.text,.bool x.v.yes] 181)=wT:=hwT;have hmzT:Mod (fun _=>False) wz wT:=((Mod.refl (fun _=>False) wz).drew).trans hmwT (fun _ _ h=>h);have hmrT:Mod (fun _=>False) wr wT:=Hmwz.out.trans hmzT (fun _ _ h=>h);go_simp;refine hK _ _ (fun _ _=>Hadd.out _ (hmzT.mono (fun _ _ h=>h.elim))) ?_;clear hK K hS;have hrdT:j0 wT 8 (.slice (some ⟨wz.heap.size,0,none⟩) 1 1) 1 (B6 (id,x)):=hwT▸j0.one wz.drew (B6 (id,x)) 181 rfl;have hone:∀u∈B6 (id,x),u.oneCell'=true:=fun u hu=>zz15 (show (B6 (id,x)).all (·.oneCell')=true from rfl) u hu;have hownT:=P1.out.mod hmrT (fun _ _ h=>h);obtain ⟨va,vc,rfl,hvc⟩:=hownT.shape;have hpT:ps.length<=100020:=by have h1:=G6 l;rw [Hnl.out] at h1;omega
     refine g7 (g9 rfl ?_ (fun K hK=> ?_))
     ·(try simp only [zz1]);(try simp only [zz2]);(try simp only [zz3]);go_simp;done
     (try simp only [zz1]);(try simp only [zz2]);(try simp only [zz3]);refine I0 (.tmp 48) (.tmp 52) 179 rfl 181 8 80 b00 (.slice va ps.length vc) ps.length (pls ps) rfl hownT (.slice (some ⟨wz.heap.size,0,none⟩) 1 1) 1 (B6 (id,x)) rfl hrdT hone (by omega) (by unfold maxLen;omega) (fun ad cap2 w5 hA=> ?_);refine hK _ _ (fun _ _=>Hadd.out _ ((hmzT.mono (fun _ _ h=>h.elim)).trans hA.2.1 (fun _ _ h=>h))) ?_;clear hK K;have h5m:l8 w5 9 m2 n f2:=(G1.out.mod hmrT (fun h=>h)).mod hA.2.1 (fun h=>(Hvb.out _ h).2.2 rfl);refine g7 (g9 rfl ?_ (fun K hK=> ?_))
     ·(try simp only [zz1]);(try simp only [zz2]);(try simp only [zz3]);go_simp;done
     (try simp only [zz1]);(try simp only [zz2]);(try simp only [zz3]);refine a03 158 _ _ _ rfl ?_;refine ⟨9,179,m2,n,f2,Lit.str x.name,h5m,o6,Tryz.underlying158,by have:=G6 l;rw [Hnl.out] at this;have:=G2.out;unfold maxLen;omega,rfl,WideMaps.keyOf_string_mk Tryz.underlying9 (by have:=Hxf.out.name;unfold maxLen;omega),fun w6 hV1 hV2=> ?_⟩;have hV:l8 w6 9 m2 (if (f2 (Lit.str x.name)).isSome then n else n+1) (C0 f2 (Lit.str x.name) (.slice ad (ps.length+1) cap2)):=hV1;refine hK _ _ (fun h=>absurd h (by decide)) ?_;clear hK K hV1;refine j8 ?_
     have hst:=a9a (b:=b) (m1:=m1) (I':=I++[(id,(sc,nl.take (j+1)))]) G2.out G3.out G4.out G5.out Hv.out p2 P4.out hmrT hA hV hV2 (fun k hk=> .inr (Nat.le_trans hsr hk)) (by omega) (fun id' nm'=>by
      rw [D9 Hq.out,D9 Hq.out];by_cases e:id'=id
      ·rw [if_pos e,if_pos e,List.take_add_one,Hxj.out];unfold D2;simp only [Option.toList_some,List.filter_append];congr 1;by_cases e2:nm'=x.name
       ·rw [if_pos ⟨e,e2⟩,e2];simp
       rw [if_neg (fun h=>e2 h.2)];have:(x.name.data.toList==nm'.data.toList)=false:=by rw [beq_eq_false_iff_ne];exact fun h=>e2 (ByteArray.ext (Array.toList_inj.1 h)).symm
       simp only [List.filter_cons,this,List.filter_nil,if_false,Bool.false_eq_true]
      ·rw [if_neg e,if_neg e,if_neg (fun h=>e h.1),zz11])
     have hm46:Mod (fun k=>own k/\k≠m1/\k≠b) w4 w6:=((Hmr.out.trans hmrT (fun _ _ h=>h.elim)).upon hA.2.1 (fun k hk=>by
      have h1:=P3.out k hk;have h2:=Hvb.out k hk;rcases h1 with h1|h1
      ·exact .inl ⟨h1,h2.2.1,h2.1⟩
      ·exact .inr h1)).upon hV2 (fun k hk=> .inl (by
      have h1:=H.out.ne;subst hk
      exact ⟨H.out.ob.2.2,fun e=>h1.2.2 e.symm,fun e=>h1.2.1 e.symm⟩))
     obtain ⟨Hst,Hm46,HV,HV2,HA,HownT,HrdT,Hone,HmrT,HmzT,HwT,HwT'⟩:=zh12 hst hm46 hV hV2 hA hownT hrdT hone hmrT hmzT hwT hwT';have H5m:=zh h5m;clear hst hm46 hV hV2 hA hownT hrdT hone hmrT hmzT hwT hwT' h5m hmwT hgwT hzwT
     go_wp2_with fail
     go_roundw
     case rel=>exact ⟨j+1,by go_num,hlt,Hst.out,Hm46.out⟩
     case measure=>simp [intOf];omega
    obtain rfl:j=nl.length:=by omega
    rw [List.take_length] at hp;have hsr:w4.heap.size<=wr.heap.size:=hmr.size
    have hix:Q8 wr b m1 m2 (fun k=>(own k\/w4.heap.size<=k)/\k<wr.heap.size) (fun k=>C k\/(Value.slice na nl.length nc).ownBlock=some k) (I++[(id,(sc,nl))]) (T+20):=by
     have hlw:∀k,own k->k<wr.heap.size:=fun k hk=>by have:=H.out.olow k hk;omega
     have h1:=H.out.ne;have h2:=H.out.ob;refine ⟨hmr.heap Hg4.out (fun h=>h.2.2 rfl), ?_,⟨⟨.inl h2.1,hlw _ h2.1⟩,⟨.inl h2.2.1,hlw _ h2.2.1⟩,⟨.inl h2.2.2,hlw _ h2.2.2⟩⟩,h1,(Hq4.out.mod hmr (fun h=>h.2.1 rfl) (fun k _ h=> .inl h.1)).anti (fun k h=>h.1),hp.cong (fun k h3 h4=>⟨h4,h3⟩) (fun _ _=>rfl) (by omega), ?_,fun k h=>h.2,fun k h=>h.elim (fun h=>by have:=H.out.clow k h;omega) (fun h=>by have:=(Hnb.out k h).2.2;omega),fun p hp'=> ?_,fun p hp'=> ?_⟩
     ·rw [List.map_append,List.nodup_append];refine ⟨H.out.nd,by simp,fun x hx y hy e=> ?_⟩;have:y=id:=by simpa using hy
      exact a1H Hq.out (this▸e▸hx)
     ·rw [zz4];have:=H.out.low;simp;omega
     ·rcases zz14 hp' with hp'|hp'
      ·exact H.out.wf p hp'
      obtain rfl:p=(id,(sc,nl)):=by simpa using hp'
      exact ⟨Hid.out,by show nl.length<=19;omega,fun c hc=>F0 Hcs.out c (by rw [Hnl.out];exact hc)⟩
     rcases zz14 hp' with hp'|hp'
     ·exact H.out.sc p hp'
     obtain rfl:p=(id,(sc,nl)):=by simpa using hp'
     exact hsc
    have hmw:Mod own w wr:=((Hm02.out.mono (G:=own) (fun _ _ h=>h.elim)).upon Hm24.out (fun k hk=>hk.elim (fun h=> .inr (by omega)) (fun h=> .inl (h▸H.out.ob.2.1)))).upon hmr (fun k hk=> .inl hk.1);have hgx:∀k,(own k\/w4.heap.size<=k)/\k<wr.heap.size->own k\/w.heap.size<=k:=fun k h=>h.1.elim .inl (fun h=> .inr (by omega));have hsx:∀k,own k->(own k\/w4.heap.size<=k)/\k<wr.heap.size:=fun k h=>⟨.inl h,by have:=H.out.olow k h;omega⟩;obtain ⟨Hix,Hmw,Hgx,Hsx,Hmr,Hp⟩:=zh6 hix hmw hgx hsx hmr hp;clear hix hmw hgx hsx hmr hp
    go_wp2_with fail
    go_ret;exact .inr ⟨Hq.out,rfl,_,(fun k=>C k\/(Value.slice na nl.length nc).ownBlock=some k),⟨m1,m2,by rw [Hnl.out];exact Hix.out⟩,Hsx.out,Hgx.out,fun k h=>h.elim .inl (fun h=> .inr (by have:=Hnf.out k h;have:=Hm2.out.size;omega)),Hmw.out⟩
end
section
open Go.RowKit
def a0G (w:World) (kt:TypeId) (b r:Nat) (f:Lit->Option Value) (left:Lit->Bool) (cnt:Nat):Prop:=
 ∃(D:DataW Value) (n:Nat),w.ranges Tryz.prog kt a2j b r n D left cnt/\(∀kl z,D.atKey kl (.held z)= .held ((f kl).getD z))/\∀kl,Maps.has D kl=(f kl).isSome
theorem a0G.mod {w w':World} {kt:TypeId} {b r:Nat} {f:Lit->Option Value} {left:Lit->Bool} {cnt:Nat} {F:Nat->Prop} (h:a0G w kt b r f left cnt) (hm:Mod F w w') (h1:¬F b) (h2:¬F r):a0G w' kt b r f left cnt:=by
 obtain ⟨D,n,⟨es,clock,since,seen,c0,hb,F',hs,hD,hr,rest⟩,h3⟩:=h;exact ⟨D,n,⟨es,clock,since,seen,c0,hm.heap hb h1,F',hs,hD,hm.heap hr h2,rest⟩,h3⟩
theorem a0G.left_eq {w:World} {kt:TypeId} {b r:Nat} {f:Lit->Option Value} {left:Lit->Bool} {cnt:Nat} (h:a0G w kt b r f left cnt):w.rangeLeft b r=cnt:=by
 obtain ⟨D,n,h1, -⟩:=h;exact h1.left_eq
theorem a0G.cong {w:World} {kt:TypeId} {b r:Nat} {f:Lit->Option Value} {left left':Lit->Bool} {cnt:Nat} (h:a0G w kt b r f left cnt) (e:left=left'):a0G w kt b r f left' cnt:=e▸h
theorem a65 {w w':World} (h:w.grownBy w' none):Mod (fun _=>False) w w':=⟨h.os,h.tape,h.output,h.size,fun k hk _=>h.block k hk (fun e=>by cases e)⟩
theorem b3d {f:Lit->Option Value} {kl:Lit} {c:Value} (h:∀z,(f kl).getD z=c):f kl=some c:=by
 cases hf:f kl with
 |some v=>rw [hf] at h;exact congrArg some (h c)
 |none=>
  rw [hf] at h;have h1:=h (.bool true);have h2:=h (.bool false);rw [<-h2] at h1;cases h1
theorem I4 {w:World} {ops:Array Oper} {rest:List Oper} {o:Oper} {a:Act} {Q:Exit->Act->World->Prop} (hg:o.guard=none) (m:Operand) (t:TypeId) (hop:o.op= .range t m) (kt e:TypeId) (K:Maps.Keyed Tryz.prog kt)
 (ht:Tryz.prog.underlying t=some (.map kt e)) (b n:Nat) (f:Lit->Option Value) (hm:a.eval m= .map (some b)) (h:l8 w kt b n f)
 (hK:∀w',a0G w' kt b w.heap.size f (fun kl=>(f kl).isSome) n->Mod (fun _=>False) w w'->w'.heap.size=w.heap.size+1->wpList Tryz.prog ops Q rest (a.put o.dst (.pointer (some ⟨w.heap.size,0,none⟩))) w'):wpList Tryz.prog ops Q (o::rest) a w:=by
 obtain ⟨D,h1,h2,h3,h4⟩:=h;refine wpList_range_own w hg m t hop kt e K ht a2j b n D hm h1 fun w' r1 r2 r3=>hK w' ?_ (a65 r2) r3;rw [h2] at r1;refine ⟨D,n, ?_,h3,h4⟩;have:(fun kl=>(f kl).isSome)=Maps.has D:=by funext kl;exact (h4 kl).symm
 rw [this];exact r1
theorem K9 {w:World} {ops:Array Oper} {rest:List Oper} {o:Oper} {a:Act} {Q:Exit->Act->World->Prop} {α:Type} (hg:o.guard=none) (it:Operand) (hop:o.op= .next it false) (kt:TypeId) (K:Maps.Keyed Tryz.prog kt)
 (mkK:α->Value) (mkL:α->Lit) (invK:∀key kl,keyOf Tryz.prog kt key=some kl->∃x,key=mkK x) (inL:∀x kl,keyOf Tryz.prog kt (mkK x)=some kl->kl=mkL x) (b r:Nat) (f:Lit->Option Value) (left:Lit->Bool) (cnt:Nat)
 (hit:a.eval it= .pointer (some ⟨r,0,none⟩)) (h:a0G w kt b r f left cnt)
 (hDone:(∀kl,left kl=false)->wpList Tryz.prog ops Q rest (a.put o.dst (.tuple #[.bool false])) w)
 (hMore:∀(x:α) (c:Value) (w':World) (cnt':Nat),keyOf Tryz.prog kt (mkK x)=some (mkL x)->left (mkL x)=true->f (mkL x)=some c->a0G w' kt b r f (fun z=>left z&& !z.sameKey (mkL x)) cnt'->cnt'<cnt->Mod (fun k=>k=r) w w'->w'.heap.size=w.heap.size->
   (Instr.entry (.pointer (some ⟨r,0,none⟩))).run Tryz.prog w'= .ok (.tuple #[mkK x,c]) w'->wpList Tryz.prog ops Q rest (a.put o.dst (.tuple #[.bool true,mkK x,c])) w'):wpList Tryz.prog ops Q (o::rest) a w:=by
 obtain ⟨D,n,h1,h2,h3⟩:=h;refine wpList_next_ranges w hg it hop kt K a2j mkK (fun c:Value=>c) invK (fun v _ _=>⟨v,rfl⟩) b r n D left cnt hit h1 (fun _ h=>hDone h) ?_;intro x c kl y w' cnt' hkey hlk hv hat hrg hlt hgr hsz hen;have hkl:=inL x kl hkey;subst hkl
 have hy:y=(.held c,[]):=by
  have:some ((.held c:DataW Value),([]:List MemPlace))=some y:=hv;exact (Option.some.inj this).symm
 subst hy;refine hMore x c w' cnt' hkey hlk (b3d fun z=> ?_) ⟨D,n,hrg,h2,h3⟩ hlt (a1F hgr) hsz hen;have h5:=hat (.held z);rw [h2] at h5;exact DataW.held.inj h5
theorem b4b (kt:TypeId) (hk:Tryz.prog.underlying kt=some (.int .i64)):∀key kl,keyOf Tryz.prog kt key=some kl->∃x,key=Value.int .i64 x:=fun key kl h=>by
 obtain ⟨x,hx, -⟩:=Maps.keyOf_int_inv hk h;exact ⟨x,hx⟩
theorem b5l (kt:TypeId) (hk:Tryz.prog.underlying kt=some (.int .i64)):∀(x:Int) kl,keyOf Tryz.prog kt (.int .i64 x)=some kl->kl= .int .i64 x:=fun x kl h=>by
 obtain ⟨y,hx,hl, -⟩:=Maps.keyOf_int_inv hk h;cases hx
 exact hl
theorem b4c (kt:TypeId) (hk:Tryz.prog.underlying kt=some .string):∀key kl,keyOf Tryz.prog kt key=some kl->∃x:List UInt8,key=encStr x:=fun key kl h=>by
 obtain ⟨x,hx, -⟩:=Maps.keyOf_str hk h;exact ⟨x,hx⟩
theorem b5m (kt:TypeId) (hk:Tryz.prog.underlying kt=some .string):∀(x:List UInt8) kl,keyOf Tryz.prog kt (encStr x)=some kl->kl= .string x:=fun x kl h=>by
 obtain ⟨y,hx,hl, -⟩:=Maps.keyOf_str hk h
 have:x=y:=by
  have h1:=Value.string.inj hx;have h2:=congrArg (fun b:ByteArray=>b.data.toList) h1;simpa using h2
 rw [this,hl]
theorem b01 (x y:Int):(Lit.int .i64 y).sameKey (.int .i64 x)=(y==x):=by
 unfold Lit.sameKey;by_cases h:y=x
 ·simp [h]
 simp [h]
theorem a3f (x y:List UInt8):(Lit.string y).sameKey (.string x)=(y==x):=rfl
def i6 (q:Fil):List UInt8:=p9 q.1 q.2
def o8 (M:List (Int×Fil)) (id:Int) (k:List UInt8):Option Fil:=(M.find? fun p=>p.1==id&&i6 p.2==k).map Prod.snd
theorem A7.mod2 {w w':World} {F own C:Nat->Prop} {v:Option Value} {q:Option Fil} (h:A7 w own C v q) (hm:Mod F w w') (hF:∀k,k<w.heap.size->F k->¬C k):A7 w' own C v q:=by
 cases v<;>cases q
 ·trivial
 ·exact h
 ·exact h
 obtain ⟨a,cap,h1,h2,h3⟩:=h;exact ⟨a,cap,h1,h2.mod hm (fun k hk hf=>hF k (h3 k hk).1 hf (h3 k hk).2.2),fun k hk=>⟨zz13 (h3 k hk).1 hm.size,(h3 k hk).2⟩⟩
theorem A7.cong {w:World} {own own' C C':Nat->Prop} {v:Option Value} {q:Option Fil} (h:A7 w own C v q) (ho:∀k,k<w.heap.size->C k->own' k->own k) (hC:∀k,C k->C' k):A7 w own' C' v q:=by
 cases v<;>cases q
 ·trivial
 ·exact h
 ·exact h
 obtain ⟨a,cap,h1,h2,h3⟩:=h;exact ⟨a,cap,h1,h2,fun k hk=>⟨(h3 k hk).1,fun h=>(h3 k hk).2.1 (ho k (h3 k hk).1 (h3 k hk).2.2 h),hC k (h3 k hk).2.2⟩⟩
def KAt (w:World) (own C:Nat->Prop) (mi N:Nat) (g:List UInt8->Option Fil):Prop:=
 ∃n f,l8 w 9 mi n f/\n<=N/\∀k,A7 w own C (f (.string k)) (g k)
theorem KAt.mod {w w':World} {F own C:Nat->Prop} {mi N:Nat} {g:List UInt8->Option Fil} (h:KAt w own C mi N g) (hm:Mod F w w') (h1:¬F mi) (hF:∀k,k<w.heap.size->F k->¬C k):KAt w' own C mi N g:=by
 obtain ⟨n,f,h2,h3,h4⟩:=h;exact ⟨n,f,h2.mod hm h1,h3,fun k=>(h4 k).mod2 hm hF⟩
theorem KAt.cong {w:World} {own own' C C':Nat->Prop} {mi N N':Nat} {g g':List UInt8->Option Fil} (h:KAt w own C mi N g) (ho:∀k,k<w.heap.size->C k->own' k->own k) (hC:∀k,C k->C' k) (hN:N<=N') (hg:∀k,g' k=g k):KAt w own' C' mi N' g':=by
 obtain ⟨n,f,h2,h3,h4⟩:=h;exact ⟨n,f,h2,Nat.le_trans h3 hN,fun k=>by rw [hg];exact (h4 k).cong ho hC⟩
theorem KAt.lt {w:World} {own C:Nat->Prop} {mi N:Nat} {g:List UInt8->Option Fil} (h:KAt w own C mi N g):mi<w.heap.size:=by
 obtain ⟨n,f,h2, -⟩:=h;exact h2.lt
def a2l (w:World) (own C:Nat->Prop) (b mo N:Nat) (g:List UInt8->Option Fil):Option Value->Prop
 |none=>∀k,g k=none
 |some v=>∃mi,v= .map (some mi)/\own mi/\mi≠b/\mi≠mo/\KAt w own C mi N g
theorem a2l.mod {w w':World} {F own C:Nat->Prop} {b mo N:Nat} {g:List UInt8->Option Fil} {v:Option Value} (h:a2l w own C b mo N g v) (hm:Mod F w w') (h1:∀mi,v=some (.map (some mi))->¬F mi) (hF:∀k,k<w.heap.size->F k->¬C k):a2l w' own C b mo N g v:=by
 cases v with
 |none=>exact h
 |some v=>
  obtain ⟨mi,rfl,h2,h3,h4,h5⟩:=h;exact ⟨mi,rfl,h2,h3,h4,h5.mod hm (h1 mi rfl) hF⟩
theorem a2l.cong {w:World} {own own' C C':Nat->Prop} {b mo N N':Nat} {g g':List UInt8->Option Fil} {v:Option Value} (h:a2l w own C b mo N g v) (ho:∀k,k<w.heap.size->C k->own' k->own k) (ho2:∀k,own k->own' k) (hC:∀k,C k->C' k) (hN:N<=N') (hg:∀k,g' k=g k):a2l w own' C' b mo N' g' v:=by
 cases v with
 |none=>exact fun k=>(hg k).trans (h k)
 |some v=>
  obtain ⟨mi,rfl,h2,h3,h4,h5⟩:=h;exact ⟨mi,rfl,ho2 mi h2,h3,h4,h5.cong ho hC hN hg⟩
def b3e (w:World) (own C:Nat->Prop) (b mo N:Nat) (M:List (Int×Fil)):Prop:=
 ∃n f,l8 w 3 mo n f/\n<=N/\(∀id:Int,a2l w own C b mo N (o8 M id) (f (.int .i64 id)))/\∀(x y:Int) mi,f (.int .i64 x)=some (.map (some mi))->f (.int .i64 y)=some (.map (some mi))->x=y
structure X2 (w:World) (b mo:Nat) (own C:Nat->Prop) (M:List (Int×Fil)) (N:Nat):Prop where
 row:w.heap[b]? =some (.cells #[.map (some mo)] 162 (0,0))
 ob:own b/\own mo
 ne:b≠mo
 om:b3e w own C b mo N M
 nd:M.Pairwise fun p q=>¬(p.1=q.1/\i6 p.2=i6 q.2)
 low:M.length<=N
 dis:∀k,own k->¬C k
 olow:∀k,own k->k<w.heap.size
 clow:∀k,C k->k<w.heap.size
 wf:∀p∈M,(Lit.int .i64 p.1).wf=true/\p.2.2.length<=19/\∀c∈p.2.2,c.fits
 sc:∀p∈M,p.2.1.size<=1000000
def Tab (w:World) (b:Nat) (own C:Nat->Prop) (M:List (Int×Fil)) (N:Nat):Prop:=∃mo,X2 w b mo own C M N
theorem b3e.mod {w w':World} {F own C:Nat->Prop} {b mo N:Nat} {M:List (Int×Fil)} (h:b3e w own C b mo N M) (hm:Mod F w w') (h1:¬F mo) (hF:∀k,k<w.heap.size->F k->¬own k/\¬C k):b3e w' own C b mo N M:=by
 obtain ⟨n,f,h2,h3,h4,h5⟩:=h;refine ⟨n,f,h2.mod hm h1,h3,fun id=>(h4 id).mod hm (fun mi hmi hf=> ?_) (fun k hk hf=>(hF k hk hf).2),h5⟩;have h6:=h4 id;rw [hmi] at h6;obtain ⟨mi',e,h7, -, -,h8⟩:=h6;cases e
 exact (hF mi h8.lt hf).1 h7
theorem X2.mod {w w':World} {b mo:Nat} {own C F:Nat->Prop} {M:List (Int×Fil)} {N:Nat} (h:X2 w b mo own C M N) (hm:Mod F w w') (hF:∀k,k<w.heap.size->F k->¬own k/\¬C k):X2 w' b mo own C M N:=
 have hn:∀k,own k->¬F k:=fun k hk hf=>(hF k (h.olow k hk) hf).1 hk
 ⟨hm.heap h.row (hn _ h.ob.1),h.ob,h.ne,h.om.mod hm (hn _ h.ob.2) hF,h.nd,h.low,h.dis,fun k hk=>zz13 (h.olow k hk) hm.size,fun k hk=>zz13 (h.clow k hk) hm.size,h.wf,h.sc⟩
theorem Tab.mod {w w':World} {b:Nat} {own C F:Nat->Prop} {M:List (Int×Fil)} {N:Nat} (h:Tab w b own C M N) (hm:Mod F w w') (hF:∀k,k<w.heap.size->F k->¬own k/\¬C k):Tab w' b own C M N:=by
 obtain ⟨mo,h⟩:=h;exact ⟨mo,h.mod hm hF⟩
theorem Tab.mod0 {w w':World} {b:Nat} {own C F:Nat->Prop} {M:List (Int×Fil)} {N:Nat} (h:Tab w b own C M N) (hm:Mod F w w') (hF:∀k,k<w.heap.size->¬F k):Tab w' b own C M N:=h.mod hm (fun k hk hf=>absurd hf (hF k hk))
theorem Tab.low {w:World} {b:Nat} {own C:Nat->Prop} {M:List (Int×Fil)} {N:Nat} (h:Tab w b own C M N):(∀k,own k->k<w.heap.size)/\∀k,C k->k<w.heap.size:=by
 obtain ⟨mo,h⟩:=h;exact ⟨h.olow,h.clow⟩
theorem T7 {M:List (Int×Fil)} {id:Int} {k:List UInt8} {q:Fil} (h:o8 M id k=some q):(id,q)∈M/\i6 q=k:=by
 unfold o8 at h;obtain ⟨p,h1,rfl⟩:=Option.map_eq_some_iff.1 h;have h2:=List.find?_some h1;simp only [Bool.and_eq_true,beq_iff_eq] at h2;obtain ⟨x,q⟩:=p;obtain ⟨rfl,h3⟩:=h2;exact ⟨List.mem_of_find?_eq_some h1,h3⟩
theorem a1J {M:List (Int×Fil)} {id:Int} {k:List UInt8} (h:o8 M id k=none):∀q,(id,q)∈M->i6 q≠k:=fun q hq e=>by
 unfold o8 at h;rw [Option.map_eq_none_iff,List.find?_eq_none] at h;have:=h _ hq;simp [e] at this
theorem a5A {M:List (Int×Fil)} (hn:M.Pairwise fun p q=>¬(p.1=q.1/\i6 p.2=i6 q.2)) {id:Int} {q:Fil} (h:(id,q)∈M):o8 M id (i6 q)=some q:=by
 induction M with
 |nil=>cases h
 | cons p M ih=>
  rw [List.pairwise_cons] at hn;unfold o8;rw [List.find?_cons];rcases List.mem_cons.1 h with h|h
  ·subst h;simp
  have hne:(p.1==id&&i6 p.2==i6 q)=false:=by
   rw [Bool.eq_false_iff];intro e;simp only [Bool.and_eq_true,beq_iff_eq] at e;exact hn.1 _ h e
  rw [hne];exact ih hn.2 h
theorem a3g {M:List (Int×Fil)} {id:Int} {q:Fil} (h:o8 M id (i6 q)=none) (x:Int) (k:List UInt8):o8 (M++[(id,q)]) x k=if x=id/\k=i6 q then some q else o8 M x k:=by
 have h1:o8 (M++[(id,q)]) x k=(o8 M x k).or (if x=id/\k=i6 q then some q else none):=by
  unfold o8;rw [List.find?_append]
  cases M.find? fun p=>p.1==x&&i6 p.2==k with
  |some p=>rfl
  | none=>
   rw [Option.none_or,Option.map_none,Option.none_or,List.find?_cons];by_cases e:x=id/\k=i6 q
   ·obtain ⟨rfl,rfl⟩:=e;simp
   rw [if_neg e]
   have:(id==x&&i6 q==k)=false:=by
    rw [Bool.eq_false_iff];intro h;simp only [Bool.and_eq_true,beq_iff_eq] at h;exact e ⟨h.1.symm,h.2.symm⟩
   simp [this]
 rw [h1];by_cases e:x=id/\k=i6 q
 ·obtain ⟨rfl,rfl⟩:=e;rw [h,if_pos ⟨rfl,rfl⟩];rfl
 rw [if_neg e,if_neg e,Option.or_none]
def a3h (M:List (Int×Fil)) (id:Int) (k:List UInt8):List (Int×Fil):=M.filter fun p=> !(p.1==id&&i6 p.2==k)
theorem a13 {α:Type} (l:List α) (p q:α->Bool):(l.filter q).find? p=l.find? fun x=>q x&&p x:=by
 induction l with
 |nil=>rfl
 | cons a l ih=>
  rw [List.filter_cons,List.find?_cons];by_cases h:q a=true
  ·rw [if_pos h,List.find?_cons,h,Bool.true_and,ih]
  rw [if_neg h,ih];have:q a=false:=by simpa using h
  simp [this]
theorem a4b {α:Type} {l:List α} {p q:α->Bool} (h:∀x∈l,p x=q x):l.find? p=l.find? q:=by
 induction l with
 |nil=>rfl
 |cons a l ih=>
  rw [List.find?_cons,List.find?_cons,h a (List.mem_cons_self ..),ih (fun x hx=>h x (List.mem_cons_of_mem _ hx))]
theorem a5B (M:List (Int×Fil)) (id:Int) (k:List UInt8) (x:Int) (y:List UInt8):o8 (a3h M id k) x y=if x=id/\y=k then none else o8 M x y:=by
 unfold o8 a3h;rw [a13];by_cases e:x=id/\y=k
 ·obtain ⟨rfl,rfl⟩:=e;rw [if_pos ⟨rfl,rfl⟩,Option.map_eq_none_iff,List.find?_eq_none];intro p _;cases (p.1==x&&i6 p.2==y)<;>simp
 rw [if_neg e];congr 1;refine a4b fun p _=> ?_
 cases h:(p.1==x&&i6 p.2==y) with
 |false=>simp
 | true=>
  simp only [Bool.and_eq_true,beq_iff_eq] at h
  have:(p.1==id&&i6 p.2==k)=false:=by
   rw [Bool.eq_false_iff];intro h2;simp only [Bool.and_eq_true,beq_iff_eq] at h2;exact e ⟨h.1.symm.trans h2.1,h.2.symm.trans h2.2⟩
  simp [this]
end
end Go.Proofs.YtaenebdppkjhoaaGreatDoor
