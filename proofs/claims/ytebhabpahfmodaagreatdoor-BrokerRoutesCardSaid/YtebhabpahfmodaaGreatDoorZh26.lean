/- Lemmas. -/
import Derived.Test.YtebhabpahfmodaaGreatDoorZh24
import Derived.Sort.KeysCollected
set_option maxHeartbeats 40000000
set_option maxRecDepth 20000
namespace Go.Proofs.YtebhabpahfmodaaGreatDoor
section
open Go.RowKit
theorem a1G {I:List (Int×Fil)} {id:Int} {q:Fil} (h:B7 I id=none) (x:Int):B7 (I++[(id,q)]) x=if x=id then some q else B7 I x:=by
 unfold B7 at*;rw [List.find?_append];by_cases hx:x=id
 ·subst hx;rw [if_pos rfl]
  have:I.find? (fun p=>p.1==x)=none:=by
   cases hf:I.find? (fun p=>p.1==x) with
   |none=>rfl
   |some p=>rw [hf] at h;cases h
  rw [this];simp
 rw [if_neg hx]
 cases hf:I.find? (fun p=>p.1==x) with
 |some p=>rfl
 |none=>
  have:(id==x)=false:=by rw [beq_eq_false_iff_ne];exact fun e=>hx e.symm
  simp [this]
theorem a0P {I:List (Int×Fil)} {id:Int} {q:Fil} (h:B7 I id=some q):(id,q)∈I:=by
 unfold B7 at h
 cases hf:I.find? (fun p=>p.1==id) with
 |none=>rw [hf] at h;cases h
 |some p=>
  rw [hf] at h;cases h
  have h1:=List.find?_some hf;have h2:=List.mem_of_find?_eq_some hf;rw [beq_iff_eq] at h1;rw [<-h1];exact h2
theorem a42 {I:List (Int×Fil)} {id:Int} (h:B7 I id=none):id∉I.map Prod.fst:=by
 intro hm;obtain ⟨p,hp,rfl⟩:=List.mem_map.1 hm;unfold B7 at h
 cases hf:I.find? (fun q=>q.1==p.1) with
 |none=>
  have:=List.find?_eq_none.1 hf p hp;simp at this
 |some q=>rw [hf] at h;cases h
theorem a0Q {l:List Cnd} {c:Cnd} (h:c∈j4 l):c∈L7 l:=by
 unfold j4 A9 at h;obtain ⟨⟨d,i⟩,h1,h2⟩:=List.mem_filterMap.1 h;have h3:=(List.mem_zipIdx h1).2.2;rw [h3] at h2;simp only at h2;split at h2
 ·cases h2
 ·cases h2
  exact List.mem_of_mem_take (List.getElem_mem _)
theorem D9 (l:List Cnd):(j4 l).length<=l.length:=by
 unfold j4;exact a4V _ _
theorem G6 {l:List Cnd} (hl:∀c∈l,c.fits):∀c∈j4 l,c.fits:=fun c hc=>by
 obtain ⟨d,hd,rfl⟩:=R7 (a0Q hc);exact a2i (hl d hd)
theorem a9v (w:World):(zeroValue 155).run Tryz.prog w= .ok Z0 w:=zk
def b0l (b m2 cb:Nat) (n:Nat) (f:Lit->Option Value) (v:Value) (x:Cnd) (y:World):Prop:=
 y.cell? ⟨b,1,none⟩=some (.map (some m2))/\y.cell? ⟨cb,0,none⟩=some (.string x.name)/\l8 y cb 0 7/\cellsOf y cb 0 7=#[.string x.name,.int .i64 x.op,.int .i64 x.v.kind,.int .i64 x.v.int,.float .f64 x.v.num,.string x.v.text,.bool x.v.yes]/\
  p6 y 9 m2 n f/\(Instr.lookup 130 (.map (some m2)) (.string x.name) false).run Tryz.prog y= .ok v y
theorem b0l.at {y:World} {b m1 m2 cb n:Nat} {f:Lit->Option Value} {v:Value} {x:Cnd} (h1:y.heap[b]? =some (.cells #[.map (some m1),.map (some m2)] 132 (0,0))) (h2:y.heap[cb]? =some (.cells x.cells.toArray 87 (0,0)))
 (h3:p6 y 9 m2 n f) (hv:(f (Lit.str x.name)).getD Z0=v) (hx:x.name.size<=1000000):b0l b m2 cb n f v x y:=by
 refine ⟨d6 h1 rfl,d6 h2 rfl,(e9.row h2).all rfl,(e9.row h2).is rfl,h3, ?_⟩;rw [<-hv];exact h3.look r6 Tryz.underlying130 (a9v y) (WideMaps.keyOf_string_mk Tryz.underlying9 (by unfold maxLen;omega))
def b4m (w4:World) (b m1 m2:Nat) (own:Nat->Prop) (I:List (Int×Fil)) (T:Nat) (id:Int) (sc:ByteArray) (nl:List Cnd) (i:Value) (wr:World):Prop:=
 ∃j:Nat,i= .int .i64 j/\j<=nl.length/\a4E wr b m1 m2 (fun k=>own k\/w4.heap.size<=k) (I++[(id,(sc,nl.take j))]) (T+j)/\Mod (fun k=>own k/\k≠m1/\k≠b) w4 wr
def b2g (w:World) (b:Nat) (own C:Nat->Prop) (I:List (Int×Fil)) (T:Nat) (id:Int) (sc:ByteArray) (l:List Cnd) (e:Ending) (w':World):Prop:=
 (B7 I id≠none/\e= .returned (.bool false)/\Mod (fun _=>False) w w')\/
 (B7 I id=none/\e= .returned (.bool true)/\∃own' C',Idx w' b own' C' (I++[(id,(sc,j4 l))]) (T+20)/\(∀k,own k->own' k)/\(∀k,own' k->own k\/w.heap.size<=k)/\(∀k,C' k->C k\/w.heap.size<=k)/\Mod own w w')
theorem D5 (w:World):(zeroValue 26).run Tryz.prog w= .ok (.agg #[.string ⟨#[]⟩,.slice none 0 0]) w:=zk
theorem b2h:E7 Tryz.prog 155 157 8 80:=O8 zk zk
theorem b4n {a b:ByteArray} (h:Lit.str a=Lit.str b):a=b:=by
 unfold Lit.str at h;exact ByteArray.ext (Array.toList_inj.1 (Lit.string.inj h))
theorem b0m {wr wz w5 w6:World} {b m1 m2 n T:Nat} {ownL:Nat->Prop} {I I':List (Int×Fil)} {f:Lit->Option Value} {x:Cnd} {id:Int} {v v':Value} {ps:List (Int×Cnd)}
 (h2:n<=T) (h3:∀nm:ByteArray,b6z wr ownL I T nm ((f (Lit.str nm)).getD Z0)) (h4:∀nm k,((f (Lit.str nm)).getD Z0).ownBlock=some k->k≠b/\k≠m1/\k≠m2)
 (h5:∀nm nm' k,((f (Lit.str nm)).getD Z0).ownBlock=some k->((f (Lit.str nm')).getD Z0).ownBlock=some k->nm=nm') (hv:(f (Lit.str x.name)).getD Z0=v)
 (hpT:ps.length<=T) (hpi:∀id,(ps.filter fun p=>p.1==id).map Prod.snd=T0 (B7 I id) x.name)
 (hz:Mod (fun _=>False) wr wz) (ha:q5 wz 157 8 v (ps.length+1) (pls ps++S7 (id,x)) v' w5)
 (h6:p6 w6 9 m2 (if (f (Lit.str x.name)).isSome then n else n+1) (P5 f (Lit.str x.name) v')) (bU:Mod (fun k=>k=m2) w5 w6) (hL:∀k,wr.heap.size<=k->ownL k) (hb:b<wr.heap.size/\m1<wr.heap.size/\m2<wr.heap.size)
 (hI:∀id' nm',T0 (B7 I' id') nm'=T0 (B7 I id') nm'++if id'=id/\nm'=x.name then [x] else []):a4E w6 b m1 m2 ownL I' (T+1):=by
 obtain ⟨a1,a2,a3⟩:=ha;have hvb:=h4 x.name;rw [hv] at hvb
 have hnew:∀k,v'.ownBlock=some k->(v.ownBlock=some k)\/wr.heap.size<=k:=fun k hk=>by
  rcases a3 with a3|⟨k',a3,a4⟩
  ·exact .inl (a3▸hk)
  rw [a3] at hk;cases hk;exact .inr (Nat.le_trans hz.size a4)
 obtain ⟨ps0,q1,q2,q3,q4⟩:=h3 x.name;rw [hv] at q1 q3
 have look:∀nm,(P5 f (Lit.str x.name) v' (Lit.str nm)).getD Z0=if nm=x.name then v' else (f (Lit.str nm)).getD Z0:=fun nm=>by
  unfold P5;by_cases e:nm=x.name
  ·rw [if_pos e,if_pos (by rw [e])];rfl
  rw [if_neg e,if_neg (fun e'=>e (b4n e'))]
 refine ⟨_,_,h6,by split<;>omega,fun nm=> ?_,fun nm k hk=> ?_,fun nm nm' k hk hk'=> ?_⟩
 ·rw [look];by_cases e:nm=x.name
  ·rw [if_pos e];subst e;refine ⟨ps++[(id,x)], ?_,by rw [zz4];simp;omega,fun k hk=> ?_,fun id'=> ?_⟩
   ·rw [a8b,zz4,show pls [(id,x)]=S7 (id,x) from zz11 _];refine a1.mod bU fun k hk e=> ?_;rcases hnew k hk with h|h
    ·exact (hvb k h).2.2 e
    omega
   ·rcases hnew k hk with h|h
    ·exact q3 k h
    exact hL k h
   rw [hI,List.filter_append,List.map_append,hpi];congr 1;by_cases e:id'=id
   ·subst e;rw [if_pos ⟨rfl,rfl⟩];simp
   rw [if_neg (fun h=>e h.1)];have:(id==id')=false:=by rw [beq_eq_false_iff_ne];exact fun h=>e h.symm
   simp [this]
  rw [if_neg e];obtain ⟨qs,r1,r2,r3,r4⟩:=h3 nm;refine ⟨qs, ?_,zo,r3,fun id'=> ?_⟩
  ·refine ((r1.mod hz zi).mod a2 (fun k hk hi=> ?_)).mod bU (fun k hk e'=>(h4 nm k hk).2.2 e');exact e (h5 nm x.name k hk (by rw [hv];exact hi))
  rw [hI,if_neg (fun h=>e h.2),zz11];exact r4 id'
 ·rw [look] at hk;by_cases e:nm=x.name
  ·rw [if_pos e] at hk;rcases hnew k hk with h|h
   ·exact hvb k h
   omega
  rw [if_neg e] at hk;exact h4 nm k hk
 rw [look] at hk hk'
 have lt:∀nm k,((f (Lit.str nm)).getD Z0).ownBlock=some k->k<wr.heap.size:=fun nm k hk=>by
  obtain ⟨qs,r1, -⟩:=h3 nm;exact r1.lt k hk
 by_cases e:nm=x.name<;>by_cases e':nm'=x.name
 ·rw [e,e']
 ·rw [if_pos e] at hk;rw [if_neg e'] at hk';rcases hnew k hk with h|h
  ·rw [e];exact h5 x.name nm' k (by rw [hv];exact h) hk'
  have:=lt nm' k hk';omega
 ·rw [if_neg e] at hk;rw [if_pos e'] at hk';rcases hnew k hk' with h|h
  ·rw [e'];exact h5 nm x.name k hk (by rw [hv];exact h)
  have:=lt nm k hk;omega
 rw [if_neg e] at hk;rw [if_neg e'] at hk';exact h5 nm nm' k hk hk'
theorem a3p {o:Oper} {a:Act} {w:World} {K:Act->World->Prop} {Q:Exit->Act->World->Prop} (t:TypeId) (m x v:Operand) (ho:o.op= .mapUpdate t m x v)
 (h:∃(kt e:TypeId) (b n:Nat) (f:Lit->Option Value) (kl:Lit),p6 w kt b n f/\Maps.Keyed Tryz.prog kt/\Tryz.prog.underlying t=some (.map kt e)/\n<maxLen/\a.eval m= .map (some b)/\keyOf Tryz.prog kt (a.eval x)=some kl/\
   ∀w',p6 w' kt b (if (f kl).isSome then n else n+1) (P5 f kl (a.eval v))->Mod (fun k=>k=b) w w'->K (a.put o.dst undef) w'):o.wp Tryz.prog a w K Q:=by
 obtain ⟨kt,e,b,n,f,kl,h1,K1,ht,hn,hm,hkey,hK⟩:=h;obtain ⟨w',hrun,r1,r2⟩:=h1.put K1 ht hn hkey (a.eval v);unfold Oper.wp;simp [execOp,ho,hm,hrun,Result.andThen];exact hK w' r1 r2
theorem a3X.anti {w:World} {m1:Nat} {own own' C:Nat->Prop} {I:List (Int×Fil)} (h:a3X w m1 own C I) (ho:∀k,own' k->own k):a3X w m1 own' C I:=by
 obtain ⟨f,h1,h2⟩:=h;refine ⟨f,h1,fun id=> ?_⟩;have h3:=h2 id;cases hf:f (.int .i64 id)<;>cases hi:B7 I id<;>rw [hf,hi] at h3
 ·trivial
 ·exact h3
 ·exact h3
 obtain ⟨a,cap,e1,e2,e3⟩:=h3;exact ⟨a,cap,e1,e2,fun k hk=>⟨(e3 k hk).1,fun h=>(e3 k hk).2.1 (ho k h),(e3 k hk).2.2⟩⟩
theorem a3X.put {w w6:World} {m1:Nat} {own own' C C':Nat->Prop} {I:List (Int×Fil)} {f:Lit->Option Value} {id:Int} {v:Value} {q:Fil} (h2:∀id:Int,D4 w own C (f (.int .i64 id)) (B7 I id)) (hn:B7 I id=none) (h6:p6 w6 3 m1 (I.length+1) (P5 f (.int .i64 id) v))
 (hm:Mod (fun k=>k=m1) w w6) (hm1:own m1) (hq:D4 w6 own' C' (some v) (some q)) (ho:∀k,k<w.heap.size->own' k->own k) (hC:∀k,C k->C' k):a3X w6 m1 own' C' (I++[(id,q)]):=by
 refine ⟨_,by rw [zz4];exact h6,fun x=> ?_⟩;rw [a1G hn];unfold P5;by_cases e:x=id
 ·rw [if_pos e,if_pos (by rw [e])];exact hq
 rw [if_neg e,if_neg (fun h=>e (Lit.int.inj h).2)];have h3:=(h2 x).mod hm (fun k _ e=>e▸hm1);cases hf:f (.int .i64 x)<;>cases hi:B7 I x<;>rw [hf,hi] at h3
 ·trivial
 ·exact h3
 ·exact h3
 have h4:=h2 x;rw [hf,hi] at h4;obtain ⟨a,cap,e1, -,e3⟩:=h4;obtain ⟨a',cap',e1',h5,h6⟩:=h3;rw [e1] at e1';cases e1'
 exact ⟨a,cap,e1,h5,fun k hk=>⟨(h6 k hk).1,fun h=>(e3 k hk).2.1 (ho k (e3 k hk).1 h),hC k (e3 k hk).2.2⟩⟩
attribute [local go_sem ↓] K9
theorem b4o (w0 w:World) (hl:N8 w0 w) (b:Nat) (own C:Nat->Prop) (I:List (Int×Fil)) (T:Nat) (h:Idx w b own C I T) (hT:T<=100000) (hown:∀k,own k->w0.heap.size<=k) (id:Int) (hid:(Lit.int .i64 id).wf=true)
 (sc:ByteArray) (cv:Value) (l:List Cnd) (hv:j3 w 7 cv l.length (m5 l)) (hll:l.length<20) (hcs:∀c∈l,c.fits) (hsc:sc.size<=1000000):
 Calls Tryz.prog 36 #[.pointer (some ⟨b,0,none⟩),.int .i64 id,.agg #[.string sc,cv]] w (b2g w b own C I T id sc l):=by
 obtain ⟨m1,m2,h⟩:=h;obtain ⟨a,cap,rfl,hcap⟩:∃a c,cv= .slice a l.length c/\l.length<=c:=by obtain ⟨-,a,c,h,h2, -⟩:=hv;exact ⟨a,c,h,h2⟩
 obtain ⟨wa,aD,ah,ae,au⟩:=g8 w (.cells #[.string sc,.slice a l.length cap] 26);have hva:=hv.mod ah zi;have hia:=h.mod ah zi;obtain ⟨f,hf1,hf2⟩:=hia.fm;have hkey:keyOf Tryz.prog 3 (.int .i64 id)=some (.int .i64 id):=Maps.keyOf_int_mk Tryz.underlying3 hid;have hlk:=hf1.look_ok r5 Tryz.underlying129 (D5 wa) hkey;have c0:wa.cell? ⟨b,0,none⟩=some (.map (some m1)):=d6 hia.row rfl;have hfi:=hf2 id
 cases hq:B7 I id with
 | some q=>
  rw [hq] at hfi
  cases fC:f (.int .i64 id) with
  |none=>rw [fC] at hfi;exact hfi.elim
  |some v=>
   rw [fC] at hfi hlk;obtain ⟨qa,qc,rfl, -⟩:=hfi;simp only [Option.getD_some,Option.isSome_some] at hlk;have nI:B7 I id≠none:=by rw [hq];intro h;cases h
   obtain ⟨Hv,Hl,H,dC,Hia,Hf1,lL,Hq,yX,uZ,gY,aF⟩:=zh12 hv hl h hva hia hf1 hf2 hq fC nI hcs aD;obtain ⟨aH,aB,aZ,Hid,fO⟩:=zh5 ae ah hown hid hkey;clear hv hl h hva hia hf1 hf2 hq fC nI hcs aD ae ah hown hid hkey au
   go_enter Tryz.func36,Tryz.ntmps36
   go_wp2_with (rw [show w.alloc _=wa from aF.out])
   go_ret;exact .inl ⟨uZ.out,rfl,aB.out.alloc _⟩
 | none =>
  rw [hq] at hfi
  cases fC:f (.int .i64 id) with
  |some v=>rw [fC] at hfi;exact hfi.elim
  |none=>
   rw [fC] at hlk;simp only [Option.getD_none,Option.isSome_none] at hlk;obtain ⟨wb,hwb,ay,ak,aO⟩:=g8 wa (.cells #[.string ⟨#[]⟩,.slice none 0 0] 26);have hm2:=ah.trans ay zi;have hnm:=Y7 w0 wb (hl.mod0 hm2) sc (.slice a l.length cap) l (hva.mod ay zi) hll hcs;have hib:=hia.mod ay zi;have hgb:=ay.heap ae (fun h=>h);have d0:wb.cell? ⟨w.heap.size,0,none⟩=some (.string sc):=d6 hgb rfl;have d1:wb.cell? ⟨w.heap.size,1,none⟩=some (.slice a l.length cap):=d6 hgb rfl;have hbz:b<w.heap.size:=h.olow _ h.ob.1;obtain ⟨Hv,Hl,H,dC,Hia,Hf1,lL,Hq,yX,gY,aF,aH⟩:=zh12 hv hl h hva hia hf1 hf2 hq fC hcs aD ae;obtain ⟨aB,aZ,Hid,fO,bD,aT,jB,bq,ik,yY,mf⟩:=zh11 ah hown hid hkey hwb ak ay hm2 hnm hib hgb;clear hv hl h hva hia hf1 hf2 hq fC hcs aD ae ah hown hid hkey hwb ak ay hm2 hnm hib hgb au aO
   go_enter Tryz.func36,Tryz.ntmps36
   go_wp2_with (first|(rw [show w.alloc _=wa from aF.out])|((with_reducible refine d9 26 (.tmp 7) (.tmp 18) ?_);refine ⟨rfl,[.string ⟨#[]⟩,.slice none 0 0],rfl,rfl,zk,rfl, ?_⟩;rw [bD.out]))
   refine ik.out.mono ?_;rintro e w2 ⟨na,nc,rfl,hno,hnf,aC⟩;have hg2:=aC.heap mf.out (fun h=>h);have hi2:=yY.out.mod aC zi;obtain ⟨nl,hnl⟩:∃nl,j4 l=nl:=⟨_,rfl⟩;rw [hnl] at hno hnf⊢;have nJ:nl.length<20:=by rw [<-hnl];exact Nat.lt_of_le_of_lt (D9 l) hll
   have aG:=bq.out.trans aC zi;obtain ⟨uR,qy,Hnl,Hno,yZ,bA,aI⟩:=zh7 hg2 hi2 hnl hno hnf aC aG;clear hg2 hi2 hnl hno hnf aC aG hlk c0 d0 d1
   go_wp2_with ((with_reducible refine j9 26 (.tmp 5) (.tmp 22) ?_);refine ⟨w.heap.size,rfl,_,_,uR.out,[.string sc,.slice na nl.length nc],rfl,rfl,zk,rfl, ?_⟩;intro w3 hg3 fP;have gm:=Lib.hid hg3;have jD:=Lib.hid fP;clear hg3 fP)
   have hgz:=(jD.out).heap qy.out.row (fun h=>zo)
   have hSb:(fun y:World=>y.cell? ⟨b,0,none⟩=some (.map (some m1))/\y.cell? ⟨w.heap.size,0,none⟩=some (.string sc)/\y.cell? ⟨w.heap.size,1,none⟩=some (.slice na nl.length nc)) w3.drew:=
    ⟨d6 hgz rfl,d6 gm.out rfl,d6 gm.out rfl⟩
   obtain ⟨fz,hz1,hz2⟩:=H.out.fm;have aS:Mod (fun k=>k=w.heap.size) w w3.drew:=(aI.out.mono (fun _ _ h=>h.elim)).trans jD.out.drew zi;have VV:=hz1.mod aS (fun h=>by have:=H.out.olow _ H.out.ob.2.1;omega);obtain ⟨lK,OT,VW,Hzm,aP⟩:=zh5 hgz hz1 hz2 VV aS;clear hgz hz1 hz2 VV aS;have hS:=hSb;refine i8 [.rd 0,.rd 1,.rd 2,.rd 3,.rd 4,.rd 5,.go 6] [0,1,2,3,4,5] (fun y:World=>y.cell? ⟨b,0,none⟩=some (.map (some m1))/\y.cell? ⟨w.heap.size,0,none⟩=some (.string sc)/\y.cell? ⟨w.heap.size,1,none⟩=some (.slice na nl.length nc)) zk zk (fun _ _ d _ _ h=>(by cases d<;>exact h)) ?_
   iterate 6 (
    refine n4 rfl ?_ (fun _=>hS) ?_ (fun w0 h0=> ?_) (fun K hK=> ?_)
    ·exact zg
    rotate_left
    ·(try simp only [zz1,zz2,zz3])
     first
      |(obtain ⟨f0,f1,f2⟩:=h0 rfl;clear h0;go_simp;with_reducible rfl)
      |(clear h0;go_simp;with_reducible rfl)
    (try simp only [zz1,zz2,zz3])
    go_simp;refine hK _ ?_;clear hK K)
   refine i6 (j0 rfl ?_ (fun K hK=> ?_))
   ·exact zg
   (try simp only [zz1,zz2,zz3]);refine a3p 129 _ _ _ rfl ?_;refine ⟨3,26,m1,I.length,fz,.int .i64 id,Hzm.out,r5,Tryz.underlying129,by have:=H.out.low;unfold maxLen;omega,rfl,fO.out,fun w4 wR nK=> ?_⟩;refine hK _ _ (fun h=>absurd h zd) ?_;clear hK K;refine m6 ?_
   have hfz:fz (.int .i64 id)=none:=by
    have h1:=VW.out id;rw [Hq.out] at h1
    cases h2:fz (.int .i64 id) with
    |none=>rfl
    |some v=>rw [h2] at h1;exact h1.elim
   have hu:p6 w4 3 m1 (I.length+1) (P5 fz (.int .i64 id) (.agg #[.string sc,.slice na nl.length nc])):=by
    have h1:=wR;rw [hfz] at h1;exact h1
   have dZ:Mod (fun k=>k=w.heap.size\/k=m1) w2 w4:=(jD.out.drew.mono (fun _ _ h=> .inl h)).trans (nK.mono (G:=fun k=>k=w.heap.size\/k=m1) (fun _ _ h=> .inr h)) (fun _ _ h=>h);have b7a:m1<w.heap.size:=H.out.olow _ H.out.ob.2.1;have VX:m2<w.heap.size:=H.out.olow _ H.out.ob.2.2;have hsz:w.heap.size<w2.heap.size:=by have h1:=jB.out.size;have h2:=bA.out.size;have h3:=(zz7 aH.out).1;omega
   have b7b:w2.heap.size<=w4.heap.size:=dZ.size
   have hnb:∀k,(Value.slice na nl.length nc).ownBlock=some k->k≠w.heap.size/\¬own k/\k<w2.heap.size:=fun k hk=>by
    have h1:=yZ.out k hk;have h2:=(zz7 mf.out).1;exact ⟨zo,fun h=>by have:=H.out.olow _ h;omega,Hno.out.lt k hk⟩
   have iV:j2 w4 87 7 (.slice na nl.length nc) nl.length (m5 nl):=Hno.out.mod dZ (fun k hk h=>by
    rcases h with h|h
    ·exact (hnb k hk).1 h
    ·exact (hnb k hk).2.1 (h▸H.out.ob.2.1))
   have hr4:=iV.rd
   have VY:a4E w4 b m1 m2 (fun k=>own k\/w4.heap.size<=k) (I++[(id,(sc,nl.take 0))]) (T+0):=(qy.out.pm.mod dZ (by intro h;have:=H.out.ne;omega) (fun k h1 h2 h3 h4 _ h5=>by have:=H.out.olow _ h1;omega)).cong (fun k _ h=> .inl h) (fun id' nm=>by
    rw [a1G Hq.out];by_cases e:id'=id
    ·rw [if_pos e,e,Hq.out];rfl
    ·rw [if_neg e]) (Nat.le_refl _)
   have hq4:a3X w4 m1 (fun k=>own k\/w4.heap.size<=k) (fun k=>C k\/(Value.slice na nl.length nc).ownBlock=some k) (I++[(id,(sc,nl))]):=by
    refine a3X.put (w:=w3.drew) (own:=own) (fun x=>(VW.out x).mod aP.out (fun k hk h=>zo)) Hq.out hu nK H.out.ob.2.1 ⟨na,nc,rfl,iV,fun k hk=> ?_⟩ (fun k hk h=> ?_) (fun _=> .inl)
    ·have h1:=hnb k hk;exact ⟨zo,fun h=>h.elim h1.2.1 (fun h=>zo),.inr hk⟩
    have h3:k<w3.heap.size:=hk;have h4:w3.heap.size<=w4.heap.size:=nK.size;exact h.elim (fun h=>h) (fun h=>zo)
   have e1:w4.cell? ⟨w.heap.size,1,none⟩=some (.slice na nl.length nc):=(nK.cell (show w3.drew.cell? _=_ from d6 gm.out rfl) (fun h=>by have h':w.heap.size=m1:=h;omega));have hg4:w4.heap[b]? =some (.cells #[.map (some m1),.map (some m2)] 132 (0,0)):=nK.heap lK.out H.out.ne.1;obtain ⟨HU1,HU2,ZX,Hu,qW,gM,uX,PV,Hp4,Hq4,GY⟩:=zh11 wR nK hfz hu dZ hnb iV hr4 VY hq4 hg4;clear wR nK hfz hu dZ hnb iV hr4 VY hq4 hg4 hS hSb
   go_wp2_with fail
   go_loopw [32] (fun i wr=>b4m w4 b m1 m2 own I T id sc nl i wr) (fun i _=>nl.length - (intOf i).toNat)
   case atStart=>exact ⟨0,rfl,Nat.zero_le _,Hp4.out,Mod.refl _ _⟩
   case round=>
    obtain ⟨j,rfl,hj,hp,hmr⟩:=hrel;by_cases hlt:j<nl.length
    ·have hlt':(j:Int)<nl.length:=zo
     obtain ⟨x,hxj⟩:∃x,nl[j]? =some x:=⟨_,zz5 hlt⟩;have fZ:x.fits:=G6 gY.out x (by rw [Hnl.out];exact zz8 hxj);have hrr:j3 wr 7 (.slice na nl.length nc) nl.length (m5 nl):=PV.out.mod hmr (fun k hk h=>(gM.out k hk).2.1 h.1);obtain ⟨g,off,rfl,hf⟩:∃g off,na=some ⟨g,off,none⟩/\e9 wr g (off+j*7) x.cells:=G9 hrr hxj;obtain ⟨wz,hwz,ai,aj,aJ⟩:=g8 wr (.cells x.cells.toArray 87);obtain ⟨n,f2,g1,g2,g3,g4,g5⟩:=hp;obtain ⟨v,hv⟩:∃v,(f2 (Lit.str x.name)).getD Z0=v:=⟨_,rfl⟩;obtain ⟨ps,p1,p2,p3,p4⟩:=g3 x.name;rw [hv] at p1 p3;have hvb:=g4 x.name;rw [hv] at hvb;have hgr:wr.heap[b]? =some (.cells #[.map (some m1),.map (some m2)] 132 (0,0)):=hmr.heap GY.out (fun h=>h.2.2 rfl);have lZ:w4.heap.size<=wr.heap.size:=hmr.size
     have hadd:∀y,Mod (l5 v) wz y->b0l b m2 wr.heap.size n f2 v x y:=fun y hy=>by
      refine b0l.at (hy.heap (ai.heap hgr (fun h=>h)) (fun h=>(hvb _ h).1 rfl)) (hy.heap aj (fun h=> ?_)) ((g1.mod ai (fun h=>h)).mod hy (fun h=>(hvb _ h).2.2 rfl)) hv fZ.name;have:=p1.lt _ h;omega
     obtain ⟨cB,EY,Ib,Hf,bi,bn,aN,G1,G2,G3,G4,G5⟩:=zh12 hxj fZ hrr hf hwz ai aj g1 g2 g3 g4 g5;obtain ⟨Hv,P1,P3,P4,dX,nL,gG,aK⟩:=zh8 hv p1 p3 p4 hvb hgr hadd hmr;clear hxj fZ hrr hf hwz ai aj g1 g2 g3 g4 g5 hv p1 p3 p4 hvb hgr hadd hmr aJ
     go_wp2_with (first|((with_reducible refine d8 87 (.tmp 34) ?_);refine ⟨g,off+j*7,rfl,x.cells,Hf.out,zk,zk, ?_⟩)|((with_reducible refine d9 87 (.tmp 10) (.tmp 35) ?_);refine ⟨rfl,x.cells,rfl,rfl,zk,rfl, ?_⟩;rw [bi.out]))
     have hS:b0l b m2 wr.heap.size n f2 v x wz.drew:=gG.out _ ((Mod.refl _ wz).drew);refine i8 [.rd 0,.rd 1,.rd 2,.rd 3,.rd 4,.rd 5,.rd 6,.rd 7,.rd 8,.rd 9,.rd 10,.rd 11,.rd 12,.rd 13,.rd 14,.rd 15,.go 16,.go 17,.go 18] [0,1,2,3,4,5,6,7,8,9,10,11,12,13,14,15,16,17] (b0l b m2 wr.heap.size n f2 v x) zk zk (fun _ _ d _ _ h=>(by cases d<;>exact h)) ?_
     iterate 16 (
      refine n4 rfl ?_ (fun _=>hS) ?_ (fun w0 h0=> ?_) (fun K hK=> ?_)
      ·exact zg
      rotate_left
      ·(try simp only [zz1,zz2,zz3])
       first
        |(obtain ⟨f0,f1,f2,f3, -,f4⟩:=h0 rfl;clear h0;go_simp;with_reducible rfl)
        |(clear h0;go_simp;with_reducible rfl)
      (try simp only [zz1,zz2,zz3])
      go_simp;refine hK _ ?_;clear hK K)
     refine i6 (j0 rfl ?_ (fun K hK=> ?_))
     ·exact zg
     (try simp only [zz1,zz2,zz3]);obtain ⟨wT,hwT,bC,eQ,eT⟩:=g8 wz.drew (.cells (S7 (id,x)).toArray 157);have dK:wz.drew.alloc (.cells #[.int .i64 id,.string x.name,.int .i64 x.op,.int .i64 x.v.kind,.int .i64 x.v.int,.float .f64 x.v.num,.string x.v.text,.bool x.v.yes] 157)=wT:=hwT;have qX:Mod (fun _=>False) wz wT:=((Mod.refl (fun _=>False) wz).drew).trans bC zi;have il:Mod (fun _=>False) wr wT:=bn.out.trans qX zi;go_simp;refine hK _ _ (fun _ _=>gG.out _ (qX.mono (fun _ _ h=>h.elim))) ?_;clear hK K hS;have bP:j3 wT 8 (.slice (some ⟨wz.heap.size,0,none⟩) 1 1) 1 (S7 (id,x)):=hwT▸j3.one wz.drew (S7 (id,x)) 157 rfl;have hone:∀u∈S7 (id,x),u.oneCell'=true:=fun u hu=>zz15 (show (S7 (id,x)).all (·.oneCell')=true from rfl) u hu;have dz:=P1.out.mod il zi;obtain ⟨va,vc,rfl,yR⟩:=dz.shape;have hpT:ps.length<=100020:=by have h1:=D9 l;rw [Hnl.out] at h1;omega
     refine i6 (j0 rfl ?_ (fun K hK=> ?_))
     ·exact zg
     (try simp only [zz1,zz2,zz3]);refine C6 (.tmp 48) (.tmp 52) 155 rfl 157 8 80 b2h (.slice va ps.length vc) ps.length (pls ps) rfl dz (.slice (some ⟨wz.heap.size,0,none⟩) 1 1) 1 (S7 (id,x)) rfl bP hone zo (by unfold maxLen;omega) (fun ad cap2 w5 hA=> ?_);refine hK _ _ (fun _ _=>gG.out _ ((qX.mono (fun _ _ h=>h.elim)).trans hA.2.1 zi)) ?_;clear hK K;have PW:p6 w5 9 m2 n f2:=(G1.out.mod il (fun h=>h)).mod hA.2.1 (fun h=>(dX.out _ h).2.2 rfl);refine i6 (j0 rfl ?_ (fun K hK=> ?_))
     ·exact zg
     (try simp only [zz1,zz2,zz3]);refine a3p 130 _ _ _ rfl ?_;refine ⟨9,155,m2,n,f2,Lit.str x.name,PW,r6,Tryz.underlying130,by have:=D9 l;rw [Hnl.out] at this;have:=G2.out;unfold maxLen;omega,rfl,WideMaps.keyOf_string_mk Tryz.underlying9 (by have:=EY.out.name;unfold maxLen;omega),fun w6 hV1 hV2=> ?_⟩;have hV:p6 w6 9 m2 (if (f2 (Lit.str x.name)).isSome then n else n+1) (P5 f2 (Lit.str x.name) (.slice ad (ps.length+1) cap2)):=hV1;refine hK _ _ (fun h=>absurd h zd) ?_;clear hK K hV1;refine m6 ?_
     have hst:=b0m (b:=b) (m1:=m1) (I':=I++[(id,(sc,nl.take (j+1)))]) G2.out G3.out G4.out G5.out Hv.out p2 P4.out il hA hV hV2 (fun k hk=> .inr (Nat.le_trans lZ hk)) zo (fun id' nm'=>by
      rw [a1G Hq.out,a1G Hq.out];by_cases e:id'=id
      ·rw [if_pos e,if_pos e,List.take_add_one,cB.out];unfold T0;simp only [Option.toList_some,List.filter_append];congr 1;by_cases e2:nm'=x.name
       ·rw [if_pos ⟨e,e2⟩,e2];simp
       rw [if_neg (fun h=>e2 h.2)];have:(x.name.data.toList==nm'.data.toList)=false:=by rw [beq_eq_false_iff_ne];exact fun h=>e2 (ByteArray.ext (Array.toList_inj.1 h)).symm
       simp only [List.filter_cons,this,List.filter_nil,if_false,Bool.false_eq_true]
      ·rw [if_neg e,if_neg e,if_neg (fun h=>e h.1),zz11])
     have Ie:Mod (fun k=>own k/\k≠m1/\k≠b) w4 w6:=((aK.out.trans il (fun _ _ h=>h.elim)).upon hA.2.1 (fun k hk=>by
      have h1:=P3.out k hk;have h2:=dX.out k hk;rcases h1 with h1|h1
      ·exact .inl ⟨h1,h2.2.1,h2.1⟩
      ·exact .inr h1)).upon hV2 (fun k hk=> .inl (by
      have h1:=H.out.ne;subst hk
      exact ⟨H.out.ob.2.2,fun e=>h1.2.2 e.symm,fun e=>h1.2.1 e.symm⟩))
     obtain ⟨eD,PX,HV,HV2,HA,nM,kK,aX,b7c,b7d,HwT,wX⟩:=zh12 hst Ie hV hV2 hA dz bP hone il qX hwT dK;have H5m:=zh PW;clear hst Ie hV hV2 hA dz bP hone il qX hwT dK PW bC eQ eT
     go_wp2_with fail
     go_roundw
     case rel=>exact ⟨j+1,by go_num,hlt,eD.out,PX.out⟩
     case measure=>simp [intOf];omega
    obtain rfl:j=nl.length:=zo
    rw [List.take_length] at hp;have lZ:w4.heap.size<=wr.heap.size:=hmr.size
    have hix:W9 wr b m1 m2 (fun k=>(own k\/w4.heap.size<=k)/\k<wr.heap.size) (fun k=>C k\/(Value.slice na nl.length nc).ownBlock=some k) (I++[(id,(sc,nl))]) (T+20):=by
     have dF:∀k,own k->k<wr.heap.size:=fun k hk=>by have:=H.out.olow k hk;omega
     have h1:=H.out.ne;have h2:=H.out.ob;refine ⟨hmr.heap GY.out (fun h=>h.2.2 rfl), ?_,⟨⟨.inl h2.1,dF _ h2.1⟩,⟨.inl h2.2.1,dF _ h2.2.1⟩,⟨.inl h2.2.2,dF _ h2.2.2⟩⟩,h1,(Hq4.out.mod hmr (fun h=>h.2.1 rfl) (fun k _ h=> .inl h.1)).anti (fun k h=>h.1),hp.cong (fun k h3 h4=>⟨h4,h3⟩) (fun _ _=>rfl) zo, ?_,fun k h=>h.2,fun k h=>h.elim (fun h=>by have:=H.out.clow k h;omega) (fun h=>by have:=(gM.out k h).2.2;omega),fun p hp'=> ?_,fun p hp'=> ?_⟩
     ·rw [List.map_append,List.nodup_append];refine ⟨H.out.nd,by simp,fun x hx y hy e=> ?_⟩;have:y=id:=by simpa using hy
      exact a42 Hq.out (this▸e▸hx)
     ·rw [zz4];have:=H.out.low;simp;omega
     ·rcases zz14 hp' with hp'|hp'
      ·exact H.out.wf p hp'
      obtain rfl:p=(id,(sc,nl)):=by simpa using hp'
      exact ⟨Hid.out,by show nl.length<=19;omega,fun c hc=>G6 gY.out c (by rw [Hnl.out];exact hc)⟩
     rcases zz14 hp' with hp'|hp'
     ·exact H.out.sc p hp'
     obtain rfl:p=(id,(sc,nl)):=by simpa using hp'
     exact hsc
    have hmw:Mod own w wr:=((aI.out.mono (G:=own) (fun _ _ h=>h.elim)).upon qW.out (fun k hk=>hk.elim (fun h=> .inr zo) (fun h=> .inl (h▸H.out.ob.2.1)))).upon hmr (fun k hk=> .inl hk.1);have hgx:∀k,(own k\/w4.heap.size<=k)/\k<wr.heap.size->own k\/w.heap.size<=k:=fun k h=>h.1.elim .inl (fun h=> .inr zo);have hsx:∀k,own k->(own k\/w4.heap.size<=k)/\k<wr.heap.size:=fun k h=>⟨.inl h,by have:=H.out.olow k h;omega⟩;obtain ⟨Hix,Ig,PY,VZ,aK,Hp⟩:=zh6 hix hmw hgx hsx hmr hp;clear hix hmw hgx hsx hmr hp
    go_wp2_with fail
    go_ret;exact .inr ⟨Hq.out,rfl,_,(fun k=>C k\/(Value.slice na nl.length nc).ownBlock=some k),⟨m1,m2,by rw [Hnl.out];exact Hix.out⟩,VZ.out,PY.out,fun k h=>h.elim .inl (fun h=> .inr (by have:=yZ.out k h;have:=bq.out.size;omega)),Ig.out⟩
end
open Go.RowKit
def a3Y (w:World) (kt:TypeId) (b r:Nat) (f:Lit->Option Value) (left:Lit->Bool) (cnt:Nat):Prop:=
 ∃(D:DataW Value) (n:Nat),w.ranges Tryz.prog kt a3a b r n D left cnt/\(∀kl z,D.atKey kl (.held z)= .held ((f kl).getD z))/\∀kl,Maps.has D kl=(f kl).isSome
theorem a3Y.mod {w w':World} {kt:TypeId} {b r:Nat} {f:Lit->Option Value} {left:Lit->Bool} {cnt:Nat} {F:Nat->Prop} (h:a3Y w kt b r f left cnt) (hm:Mod F w w') (h1:¬F b) (h2:¬F r):a3Y w' kt b r f left cnt:=by
 obtain ⟨D,n,⟨es,clock,since,seen,c0,hb,F',hs,hD,hr,rest⟩,h3⟩:=h;exact ⟨D,n,⟨es,clock,since,seen,c0,hm.heap hb h1,F',hs,hD,hm.heap hr h2,rest⟩,h3⟩
theorem a3Y.left_eq {w:World} {kt:TypeId} {b r:Nat} {f:Lit->Option Value} {left:Lit->Bool} {cnt:Nat} (h:a3Y w kt b r f left cnt):w.rangeLeft b r=cnt:=by
 obtain ⟨D,n,h1, -⟩:=h;exact h1.left_eq
theorem a8e {w w':World} (h:w.grownBy w' none):Mod (fun _=>False) w w':=⟨h.os,h.tape,h.output,h.size,fun k hk _=>h.block k hk (fun e=>by cases e)⟩
theorem b4p {f:Lit->Option Value} {kl:Lit} {c:Value} (h:∀z,(f kl).getD z=c):f kl=some c:=by
 cases hf:f kl with
 |some v=>rw [hf] at h;exact congrArg some (h c)
 |none=>
  rw [hf] at h;have h1:=h (.bool true);have h2:=h (.bool false);rw [<-h2] at h1;cases h1
theorem T3 {w:World} {ops:Array Oper} {rest:List Oper} {o:Oper} {a:Act} {Q:Exit->Act->World->Prop} (hg:o.guard=none) (m:Operand) (t:TypeId) (hop:o.op= .range t m) (kt e:TypeId) (K:Maps.Keyed Tryz.prog kt)
 (ht:Tryz.prog.underlying t=some (.map kt e)) (b n:Nat) (f:Lit->Option Value) (hm:a.eval m= .map (some b)) (h:p6 w kt b n f)
 (hK:∀w',a3Y w' kt b w.heap.size f (fun kl=>(f kl).isSome) n->Mod (fun _=>False) w w'->w'.heap.size=w.heap.size+1->wpList Tryz.prog ops Q rest (a.put o.dst (.pointer (some ⟨w.heap.size,0,none⟩))) w'):wpList Tryz.prog ops Q (o::rest) a w:=by
 obtain ⟨D,h1,h2,h3,h4⟩:=h;refine wpList_range_own w hg m t hop kt e K ht a3a b n D hm h1 fun w' r1 r2 r3=>hK w' ?_ (a8e r2) r3;rw [h2] at r1;refine ⟨D,n, ?_,h3,h4⟩;have:(fun kl=>(f kl).isSome)=Maps.has D:=by funext kl;exact (h4 kl).symm
 rw [this];exact r1
theorem W1 {w:World} {ops:Array Oper} {rest:List Oper} {o:Oper} {a:Act} {Q:Exit->Act->World->Prop} {α:Type} (hg:o.guard=none) (it:Operand) (hop:o.op= .next it false) (kt:TypeId) (K:Maps.Keyed Tryz.prog kt)
 (mkK:α->Value) (mkL:α->Lit) (invK:∀key kl,keyOf Tryz.prog kt key=some kl->∃x,key=mkK x) (inL:∀x kl,keyOf Tryz.prog kt (mkK x)=some kl->kl=mkL x) (b r:Nat) (f:Lit->Option Value) (left:Lit->Bool) (cnt:Nat)
 (hit:a.eval it= .pointer (some ⟨r,0,none⟩)) (h:a3Y w kt b r f left cnt)
 (hDone:(∀kl,left kl=false)->wpList Tryz.prog ops Q rest (a.put o.dst (.tuple #[.bool false])) w)
 (hMore:∀(x:α) (c:Value) (w':World) (cnt':Nat),keyOf Tryz.prog kt (mkK x)=some (mkL x)->left (mkL x)=true->f (mkL x)=some c->a3Y w' kt b r f (fun z=>left z&& !z.sameKey (mkL x)) cnt'->cnt'<cnt->Mod (fun k=>k=r) w w'->w'.heap.size=w.heap.size->
   (Instr.entry (.pointer (some ⟨r,0,none⟩))).run Tryz.prog w'= .ok (.tuple #[mkK x,c]) w'->wpList Tryz.prog ops Q rest (a.put o.dst (.tuple #[.bool true,mkK x,c])) w'):wpList Tryz.prog ops Q (o::rest) a w:=by
 obtain ⟨D,n,h1,h2,h3⟩:=h;refine wpList_next_ranges w hg it hop kt K a3a mkK (fun c:Value=>c) invK (fun v _ _=>⟨v,rfl⟩) b r n D left cnt hit h1 (fun _ h=>hDone h) ?_;intro x c kl y w' cnt' hkey hlk hv hat hrg hlt hgr hsz hen;have hkl:=inL x kl hkey;subst hkl
 have hy:y=(.held c,[]):=by
  have:some ((.held c:DataW Value),([]:List MemPlace))=some y:=hv;exact (Option.some.inj this).symm
 subst hy;refine hMore x c w' cnt' hkey hlk (b4p fun z=> ?_) ⟨D,n,hrg,h2,h3⟩ hlt (a2h hgr) hsz hen;have h5:=hat (.held z);rw [h2] at h5;exact DataW.held.inj h5
theorem b6A (kt:TypeId) (hk:Tryz.prog.underlying kt=some (.int .i64)):∀key kl,keyOf Tryz.prog kt key=some kl->∃x,key=Value.int .i64 x:=fun key kl h=>by
 obtain ⟨x,hx, -⟩:=Maps.keyOf_int_inv hk h;exact ⟨x,hx⟩
theorem b61 (kt:TypeId) (hk:Tryz.prog.underlying kt=some (.int .i64)):∀(x:Int) kl,keyOf Tryz.prog kt (.int .i64 x)=some kl->kl= .int .i64 x:=fun x kl h=>by
 obtain ⟨y,hx,hl, -⟩:=Maps.keyOf_int_inv hk h;cases hx
 exact hl
theorem b5r (kt:TypeId) (hk:Tryz.prog.underlying kt=some .string):∀key kl,keyOf Tryz.prog kt key=some kl->∃x:List UInt8,key=encStr x:=fun key kl h=>by
 obtain ⟨x,hx, -⟩:=Maps.keyOf_str hk h;exact ⟨x,hx⟩
theorem b6B (kt:TypeId) (hk:Tryz.prog.underlying kt=some .string):∀(x:List UInt8) kl,keyOf Tryz.prog kt (encStr x)=some kl->kl= .string x:=fun x kl h=>by
 obtain ⟨y,hx,hl, -⟩:=Maps.keyOf_str hk h
 have:x=y:=by
  have h1:=Value.string.inj hx;have h2:=congrArg (fun b:ByteArray=>b.data.toList) h1;simpa using h2
 rw [this,hl]
theorem b5N (x y:Int):(Lit.int .i64 y).sameKey (.int .i64 x)=(y==x):=by
 unfold Lit.sameKey;by_cases h:y=x
 ·simp [h]
 simp [h]
theorem a3Z (x y:List UInt8):(Lit.string y).sameKey (.string x)=(y==x):=rfl
def j5 (q:Fil):List UInt8:=q6 q.1 q.2
def o5 (M:List (Int×Fil)) (id:Int) (k:List UInt8):Option Fil:=(M.find? fun p=>p.1==id&&j5 p.2==k).map Prod.snd
theorem D4.mod2 {w w':World} {F own C:Nat->Prop} {v:Option Value} {q:Option Fil} (h:D4 w own C v q) (hm:Mod F w w') (hF:∀k,k<w.heap.size->F k->¬C k):D4 w' own C v q:=by
 cases v<;>cases q
 ·trivial
 ·exact h
 ·exact h
 obtain ⟨a,cap,h1,h2,h3⟩:=h;exact ⟨a,cap,h1,h2.mod hm (fun k hk hf=>hF k (h3 k hk).1 hf (h3 k hk).2.2),fun k hk=>⟨zz13 (h3 k hk).1 hm.size,(h3 k hk).2⟩⟩
theorem D4.cong {w:World} {own own' C C':Nat->Prop} {v:Option Value} {q:Option Fil} (h:D4 w own C v q) (ho:∀k,k<w.heap.size->C k->own' k->own k) (hC:∀k,C k->C' k):D4 w own' C' v q:=by
 cases v<;>cases q
 ·trivial
 ·exact h
 ·exact h
 obtain ⟨a,cap,h1,h2,h3⟩:=h;exact ⟨a,cap,h1,h2,fun k hk=>⟨(h3 k hk).1,fun h=>(h3 k hk).2.1 (ho k (h3 k hk).1 (h3 k hk).2.2 h),hC k (h3 k hk).2.2⟩⟩
def KAt (w:World) (own C:Nat->Prop) (mi N:Nat) (g:List UInt8->Option Fil):Prop:=
 ∃n f,p6 w 9 mi n f/\n<=N/\∀k,D4 w own C (f (.string k)) (g k)
theorem KAt.mod {w w':World} {F own C:Nat->Prop} {mi N:Nat} {g:List UInt8->Option Fil} (h:KAt w own C mi N g) (hm:Mod F w w') (h1:¬F mi) (hF:∀k,k<w.heap.size->F k->¬C k):KAt w' own C mi N g:=by
 obtain ⟨n,f,h2,h3,h4⟩:=h;exact ⟨n,f,h2.mod hm h1,h3,fun k=>(h4 k).mod2 hm hF⟩
theorem KAt.cong {w:World} {own own' C C':Nat->Prop} {mi N N':Nat} {g g':List UInt8->Option Fil} (h:KAt w own C mi N g) (ho:∀k,k<w.heap.size->C k->own' k->own k) (hC:∀k,C k->C' k) (hN:N<=N') (hg:∀k,g' k=g k):KAt w own' C' mi N' g':=by
 obtain ⟨n,f,h2,h3,h4⟩:=h;exact ⟨n,f,h2,Nat.le_trans h3 hN,fun k=>by rw [hg];exact (h4 k).cong ho hC⟩
theorem KAt.lt {w:World} {own C:Nat->Prop} {mi N:Nat} {g:List UInt8->Option Fil} (h:KAt w own C mi N g):mi<w.heap.size:=by
 obtain ⟨n,f,h2, -⟩:=h;exact h2.lt
def a3b (w:World) (own C:Nat->Prop) (b mo N:Nat) (g:List UInt8->Option Fil):Option Value->Prop
 |none=>∀k,g k=none
 |some v=>∃mi,v= .map (some mi)/\own mi/\mi≠b/\mi≠mo/\KAt w own C mi N g
theorem a3b.mod {w w':World} {F own C:Nat->Prop} {b mo N:Nat} {g:List UInt8->Option Fil} {v:Option Value} (h:a3b w own C b mo N g v) (hm:Mod F w w') (h1:∀mi,v=some (.map (some mi))->¬F mi) (hF:∀k,k<w.heap.size->F k->¬C k):a3b w' own C b mo N g v:=by
 cases v with
 |none=>exact h
 |some v=>
  obtain ⟨mi,rfl,h2,h3,h4,h5⟩:=h;exact ⟨mi,rfl,h2,h3,h4,h5.mod hm (h1 mi rfl) hF⟩
theorem a3b.cong {w:World} {own own' C C':Nat->Prop} {b mo N N':Nat} {g g':List UInt8->Option Fil} {v:Option Value} (h:a3b w own C b mo N g v) (ho:∀k,k<w.heap.size->C k->own' k->own k) (ho2:∀k,own k->own' k) (hC:∀k,C k->C' k) (hN:N<=N') (hg:∀k,g' k=g k):a3b w own' C' b mo N' g' v:=by
 cases v with
 |none=>exact fun k=>(hg k).trans (h k)
 |some v=>
  obtain ⟨mi,rfl,h2,h3,h4,h5⟩:=h;exact ⟨mi,rfl,ho2 mi h2,h3,h4,h5.cong ho hC hN hg⟩
def b4q (w:World) (own C:Nat->Prop) (b mo N:Nat) (M:List (Int×Fil)):Prop:=
 ∃n f,p6 w 3 mo n f/\n<=N/\(∀id:Int,a3b w own C b mo N (o5 M id) (f (.int .i64 id)))/\∀(x y:Int) mi,f (.int .i64 x)=some (.map (some mi))->f (.int .i64 y)=some (.map (some mi))->x=y
structure a0e (w:World) (b mo:Nat) (own C:Nat->Prop) (M:List (Int×Fil)) (N:Nat):Prop where
 row:w.heap[b]? =some (.cells #[.map (some mo)] 134 (0,0))
 ob:own b/\own mo
 ne:b≠mo
 om:b4q w own C b mo N M
 nd:M.Pairwise fun p q=>¬(p.1=q.1/\j5 p.2=j5 q.2)
 low:M.length<=N
 dis:∀k,own k->¬C k
 olow:∀k,own k->k<w.heap.size
 clow:∀k,C k->k<w.heap.size
 wf:∀p∈M,(Lit.int .i64 p.1).wf=true/\p.2.2.length<=19/\∀c∈p.2.2,c.fits
 sc:∀p∈M,p.2.1.size<=1000000
def Tab (w:World) (b:Nat) (own C:Nat->Prop) (M:List (Int×Fil)) (N:Nat):Prop:=∃mo,a0e w b mo own C M N
theorem b4q.mod {w w':World} {F own C:Nat->Prop} {b mo N:Nat} {M:List (Int×Fil)} (h:b4q w own C b mo N M) (hm:Mod F w w') (h1:¬F mo) (hF:∀k,k<w.heap.size->F k->¬own k/\¬C k):b4q w' own C b mo N M:=by
 obtain ⟨n,f,h2,h3,h4,h5⟩:=h;refine ⟨n,f,h2.mod hm h1,h3,fun id=>(h4 id).mod hm (fun mi ja hf=> ?_) (fun k hk hf=>(hF k hk hf).2),h5⟩;have h6:=h4 id;rw [ja] at h6;obtain ⟨mi',e,h7, -, -,h8⟩:=h6;cases e
 exact (hF mi h8.lt hf).1 h7
theorem a0e.mod {w w':World} {b mo:Nat} {own C F:Nat->Prop} {M:List (Int×Fil)} {N:Nat} (h:a0e w b mo own C M N) (hm:Mod F w w') (hF:∀k,k<w.heap.size->F k->¬own k/\¬C k):a0e w' b mo own C M N:=
 have hn:∀k,own k->¬F k:=fun k hk hf=>(hF k (h.olow k hk) hf).1 hk
 ⟨hm.heap h.row (hn _ h.ob.1),h.ob,h.ne,h.om.mod hm (hn _ h.ob.2) hF,h.nd,h.low,h.dis,fun k hk=>zz13 (h.olow k hk) hm.size,fun k hk=>zz13 (h.clow k hk) hm.size,h.wf,h.sc⟩
theorem Tab.mod {w w':World} {b:Nat} {own C F:Nat->Prop} {M:List (Int×Fil)} {N:Nat} (h:Tab w b own C M N) (hm:Mod F w w') (hF:∀k,k<w.heap.size->F k->¬own k/\¬C k):Tab w' b own C M N:=by
 obtain ⟨mo,h⟩:=h;exact ⟨mo,h.mod hm hF⟩
theorem Tab.mod0 {w w':World} {b:Nat} {own C F:Nat->Prop} {M:List (Int×Fil)} {N:Nat} (h:Tab w b own C M N) (hm:Mod F w w') (hF:∀k,k<w.heap.size->¬F k):Tab w' b own C M N:=h.mod hm (fun k hk hf=>absurd hf (hF k hk))
theorem Tab.low {w:World} {b:Nat} {own C:Nat->Prop} {M:List (Int×Fil)} {N:Nat} (h:Tab w b own C M N):(∀k,own k->k<w.heap.size)/\∀k,C k->k<w.heap.size:=by
 obtain ⟨mo,h⟩:=h;exact ⟨h.olow,h.clow⟩
theorem X0 {M:List (Int×Fil)} {id:Int} {k:List UInt8} {q:Fil} (h:o5 M id k=some q):(id,q)∈M/\j5 q=k:=by
 unfold o5 at h;obtain ⟨p,h1,rfl⟩:=Option.map_eq_some_iff.1 h;have h2:=List.find?_some h1;simp only [Bool.and_eq_true,beq_iff_eq] at h2;obtain ⟨x,q⟩:=p;obtain ⟨rfl,h3⟩:=h2;exact ⟨List.mem_of_find?_eq_some h1,h3⟩
theorem a2j {M:List (Int×Fil)} {id:Int} {k:List UInt8} (h:o5 M id k=none):∀q,(id,q)∈M->j5 q≠k:=fun q hq e=>by
 unfold o5 at h;rw [Option.map_eq_none_iff,List.find?_eq_none] at h;have:=h _ hq;simp [e] at this
theorem a6F {M:List (Int×Fil)} (hn:M.Pairwise fun p q=>¬(p.1=q.1/\j5 p.2=j5 q.2)) {id:Int} {q:Fil} (h:(id,q)∈M):o5 M id (j5 q)=some q:=by
 induction M with
 |nil=>cases h
 | cons p M ih=>
  rw [List.pairwise_cons] at hn;unfold o5;rw [List.find?_cons];rcases List.mem_cons.1 h with h|h
  ·subst h;simp
  have hne:(p.1==id&&j5 p.2==j5 q)=false:=by
   rw [Bool.eq_false_iff];intro e;simp only [Bool.and_eq_true,beq_iff_eq] at e;exact hn.1 _ h e
  rw [hne];exact ih hn.2 h
theorem a30 {M:List (Int×Fil)} {id:Int} {q:Fil} (h:o5 M id (j5 q)=none) (x:Int) (k:List UInt8):o5 (M++[(id,q)]) x k=if x=id/\k=j5 q then some q else o5 M x k:=by
 have h1:o5 (M++[(id,q)]) x k=(o5 M x k).or (if x=id/\k=j5 q then some q else none):=by
  unfold o5;rw [List.find?_append]
  cases M.find? fun p=>p.1==x&&j5 p.2==k with
  |some p=>rfl
  | none=>
   rw [Option.none_or,Option.map_none,Option.none_or,List.find?_cons];by_cases e:x=id/\k=j5 q
   ·obtain ⟨rfl,rfl⟩:=e;simp
   rw [if_neg e]
   have:(id==x&&j5 q==k)=false:=by
    rw [Bool.eq_false_iff];intro h;simp only [Bool.and_eq_true,beq_iff_eq] at h;exact e ⟨h.1.symm,h.2.symm⟩
   simp [this]
 rw [h1];by_cases e:x=id/\k=j5 q
 ·obtain ⟨rfl,rfl⟩:=e;rw [h,if_pos ⟨rfl,rfl⟩];rfl
 rw [if_neg e,if_neg e,Option.or_none]
def a4F (M:List (Int×Fil)) (id:Int) (k:List UInt8):List (Int×Fil):=M.filter fun p=> !(p.1==id&&j5 p.2==k)
theorem a6G {α:Type} (l:List α) (p q:α->Bool):(l.filter q).find? p=l.find? fun x=>q x&&p x:=by
 induction l with
 |nil=>rfl
 | cons a l ih=>
  rw [List.filter_cons,List.find?_cons];by_cases h:q a=true
  ·rw [if_pos h,List.find?_cons,h,Bool.true_and,ih]
  rw [if_neg h,ih];have:q a=false:=by simpa using h
  simp [this]
theorem b0n {α:Type} {l:List α} {p q:α->Bool} (h:∀x∈l,p x=q x):l.find? p=l.find? q:=by
 induction l with
 |nil=>rfl
 |cons a l ih=>
  rw [List.find?_cons,List.find?_cons,h a (List.mem_cons_self ..),ih (fun x hx=>h x (List.mem_cons_of_mem _ hx))]
theorem a6H (M:List (Int×Fil)) (id:Int) (k:List UInt8) (x:Int) (y:List UInt8):o5 (a4F M id k) x y=if x=id/\y=k then none else o5 M x y:=by
 unfold o5 a4F;rw [a6G];by_cases e:x=id/\y=k
 ·obtain ⟨rfl,rfl⟩:=e;rw [if_pos ⟨rfl,rfl⟩,Option.map_eq_none_iff,List.find?_eq_none];intro p _;cases (p.1==x&&j5 p.2==y)<;>simp
 rw [if_neg e];congr 1;refine b0n fun p _=> ?_
 cases h:(p.1==x&&j5 p.2==y) with
 |false=>simp
 | true=>
  simp only [Bool.and_eq_true,beq_iff_eq] at h
  have:(p.1==id&&j5 p.2==k)=false:=by
   rw [Bool.eq_false_iff];intro h2;simp only [Bool.and_eq_true,beq_iff_eq] at h2;exact e ⟨h.1.symm.trans h2.1,h.2.symm.trans h2.2⟩
  simp [this]
end Go.Proofs.YtebhabpahfmodaaGreatDoor
