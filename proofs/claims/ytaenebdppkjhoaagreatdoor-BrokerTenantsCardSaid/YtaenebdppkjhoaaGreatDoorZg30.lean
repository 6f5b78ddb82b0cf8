/- Lemmas. -/
import Derived.Test.YtaenebdppkjhoaaGreatDoorZg28
import Derived.Test.YtaenebdppkjhoaaGreatDoorZg27
namespace Go.Proofs.YtaenebdppkjhoaaGreatDoor
set_option maxRecDepth 20000
set_option maxHeartbeats 40000000
section
open Go.RowKit
def U0 (I:List (Int×Fil)) (id:Int):List (Int×Fil):=I.filter fun p=> !(p.1==id)
theorem O7 (I:List (Int×Fil)) (id x:Int):q8 (U0 I id) x=if x=id then none else q8 I x:=by
 unfold q8 U0
 induction I with
 |nil=>simp
 | cons p I ih=>
  rw [List.filter_cons,List.find?_cons];by_cases hp:p.1=id
  ·have h1:(!(p.1==id))=false:=by rw [hp];simp
   rw [h1,if_neg (by decide),ih];by_cases hx:x=id
   ·rw [if_pos hx,if_pos hx]
   have h2:(p.1==x)=false:=by rw [beq_eq_false_iff_ne];exact fun e=>hx (e▸hp)
   rw [if_neg hx,if_neg hx,h2]
  have h1:(!(p.1==id))=true:=by simp [hp]
  rw [h1,if_pos rfl,List.find?_cons]
  cases h3:p.1==x with
  |true=>
   rw [beq_iff_eq] at h3;rw [if_neg (fun e=>hp (h3.trans e))]
  |false=>exact ih
theorem a0F.del {w w4:World} {m1:Nat} {own C:Nat->Prop} {I:List (Int×Fil)} {f:Lit->Option Value} {id:Int} (h2:∀id:Int,A7 w own C (f (.int .i64 id)) (q8 I id)) (h6:l8 w4 3 m1 (U0 I id).length (a2k f (.int .i64 id))) (hm:Mod (fun k=>k=m1) w w4) (hm1:own m1):a0F w4 m1 own C (U0 I id):=by
 refine ⟨_,h6,fun x=> ?_⟩;rw [O7];unfold a2k;by_cases e:x=id
 ·rw [if_pos e,if_pos (by rw [e])];trivial
 rw [if_neg e,if_neg (fun h=>e (Lit.int.inj h).2)];exact (h2 x).mod hm (fun k _ e=>e▸hm1)
theorem b02 {I:List (Int×Fil)} {id:Int} (hn:(I.map Prod.fst).Nodup) (h:q8 I id≠none):(U0 I id).length+1=I.length:=by
 unfold U0
 induction I with
 |nil=>exact absurd rfl h
 | cons p I ih=>
  rw [List.map_cons,List.nodup_cons] at hn;rw [List.filter_cons];by_cases hp:p.1=id
  ·have h1:(!(p.1==id))=false:=by rw [hp];simp
   rw [h1,if_neg (by decide),List.filter_eq_self.2 (fun q hq=>by
    have:q.1≠id:=fun e=>hn.1 (by rw [hp,<-e];exact List.mem_map_of_mem hq)
    simp [this]),zz9]
  have h1:(!(p.1==id))=true:=by simp [hp]
  rw [h1,if_pos rfl,zz9,zz9,ih hn.2 (by
   unfold q8 at h⊢;rw [List.find?_cons] at h;have h2:(p.1==id)=false:=by rw [beq_eq_false_iff_ne];exact hp
   rwa [h2] at h)]
def a8j (w:World) (b m1 m2:Nat) (own:Nat->Prop) (I:List (Int×Fil)) (T n:Nat) (f:Lit->Option Value):Prop:=
 l8 w 9 m2 n f/\n<=T/\(∀nm:ByteArray,b4D w own I T nm ((f (Lit.str nm)).getD I3))/\
  (∀nm k,((f (Lit.str nm)).getD I3).ownBlock=some k->k≠b/\k≠m1/\k≠m2)/\∀nm nm' k,((f (Lit.str nm)).getD I3).ownBlock=some k->((f (Lit.str nm')).getD I3).ownBlock=some k->nm=nm'
theorem b03 {wr wz w5 w6:World} {b m1 m2 n T:Nat} {ownL:Nat->Prop} {I I':List (Int×Fil)} {f:Lit->Option Value} {nm0:ByteArray} {v v':Value} {ps':List (Int×Cnd)}
 (h:a8j wr b m1 m2 ownL I T n f) (hv:(f (Lit.str nm0)).getD I3=v)
 (hz:Mod (fun _=>False) wr wz) (ha:i7 w5 181 8 v' ps'.length (pls ps')) (ha2:v'.ownBlock=v.ownBlock) (ha3:Mod (j1 v) wz w5) (hlen:ps'.length<=T)
 (h6:l8 w6 9 m2 n (C0 f (Lit.str nm0) v')) (hm6:Mod (fun k=>k=m2) w5 w6)
 (hI:∀id' nm',nm'≠nm0->D2 (q8 I' id') nm'=D2 (q8 I id') nm') (hI0:∀id',(ps'.filter fun p=>p.1==id').map Prod.snd=D2 (q8 I' id') nm0):a8j w6 b m1 m2 ownL I' T n (C0 f (Lit.str nm0) v'):=by
 obtain ⟨-,h2,h3,h4,h5⟩:=h
 have look:∀nm,(C0 f (Lit.str nm0) v' (Lit.str nm)).getD I3=if nm=nm0 then v' else (f (Lit.str nm)).getD I3:=fun nm=>by
  unfold C0;by_cases e:nm=nm0
  ·rw [if_pos e,if_pos (by rw [e])];rfl
  rw [if_neg e,if_neg (fun e'=>e (a8i e'))]
 have hb:∀nm k,(if nm=nm0 then v' else (f (Lit.str nm)).getD I3).ownBlock=some k->((f (Lit.str nm)).getD I3).ownBlock=some k:=fun nm k hk=>by
  by_cases e:nm=nm0
  ·rw [if_pos e,ha2] at hk;rw [e,hv];exact hk
  rwa [if_neg e] at hk
 refine ⟨h6,h2,fun nm=> ?_,fun nm k hk=> ?_,fun nm nm' k hk hk'=> ?_⟩
 ·rw [look];by_cases e:nm=nm0
  ·rw [if_pos e,e];obtain ⟨ps,p1,p2,p3,p4⟩:=h3 nm0;rw [hv] at p3;refine ⟨ps',ha.mod hm6 (fun k hk e'=> ?_),hlen,fun k hk=>p3 k (ha2▸hk),hI0⟩;have:=h4 nm0 k (by rw [hv,<-ha2];exact hk);exact this.2.2 e'
  rw [if_neg e];obtain ⟨qs,r1,r2,r3,r4⟩:=h3 nm;refine ⟨qs,((r1.mod hz (fun _ _ h=>h)).mod ha3 (fun k hk hi=> ?_)).mod hm6 (fun k hk e'=>(h4 nm k hk).2.2 e'),r2,r3,fun id'=>by rw [hI id' nm e];exact r4 id'⟩;exact e (h5 nm nm0 k hk (by rw [hv];exact hi))
 ·rw [look] at hk;exact h4 nm k (hb nm k hk)
 rw [look] at hk hk';exact h5 nm nm' k (hb nm k hk) (hb nm' k hk')
def U3 (q:List Cnd) (j:Nat):List Cnd:=q.filter fun c=> !(((q.take j).map fun d=>d.name.data.toList).contains c.name.data.toList)
theorem a69 (q:List Cnd):U3 q 0=q:=List.filter_eq_self.2 (fun c _=>by simp)
theorem a7a {q:List Cnd} {j:Nat} {x:Cnd} (h:q[j]? =some x):U3 q (j+1)=(U3 q j).filter fun c=> !(c.name.data.toList==x.name.data.toList):=by
 unfold U3;rw [List.filter_filter,List.take_add_one,h];congr 1;funext c;rw [List.map_append,Option.toList_some,List.map_cons,List.map_nil,List.contains_eq_any_beq,List.contains_eq_any_beq,List.any_append,Bool.not_or,Bool.and_comm];simp
theorem a9d (q:List Cnd):U3 q q.length=[]:=by
 unfold U3;rw [List.take_length,List.filter_eq_nil_iff];intro c hc;simp;exact ⟨c,hc,rfl⟩
theorem a06 {q:List Cnd} {j:Nat} {x:Cnd} (h:q[j]? =some x) (qs nm:ByteArray):D2 (some (qs,U3 q (j+1))) nm=if nm=x.name then [] else D2 (some (qs,U3 q j)) nm:=by
 unfold D2;simp only [a7a h,List.filter_filter];by_cases e:nm=x.name
 ·rw [if_pos e,e,List.filter_eq_nil_iff];intro c _;cases hc:c.name.data.toList==x.name.data.toList<;>simp
 rw [if_neg e];congr 1;funext c
 cases hc:c.name.data.toList==nm.data.toList with
 |false=>rfl
 |true=>
  rw [beq_iff_eq] at hc;rw [hc];have:(nm.data.toList==x.name.data.toList)=false:=by rw [beq_eq_false_iff_ne];exact fun h=>e (ByteArray.ext (Array.toList_inj.1 h))
  rw [this];rfl
def a8k (w3:World) (b m1 m2:Nat) (own:Nat->Prop) (I:List (Int×Fil)) (T:Nat) (id:Int) (qs:ByteArray) (q:List Cnd) (i:Value) (wr:World):Prop:=
 ∃(j n:Nat) (f:Lit->Option Value),i= .int .i64 j/\j<=q.length/\a8j wr b m1 m2 own (U0 I id++[(id,(qs,U3 q j))]) T n f/\(∀c∈q,(f (Lit.str c.name)).isSome=true)/\Mod (fun k=>own k/\k≠m1/\k≠b) w3 wr
def b04 (w:World) (b:Nat) (own C:Nat->Prop) (I:List (Int×Fil)) (T:Nat) (id:Int) (e:Ending) (w':World):Prop:=
 (q8 I id=none/\e= .returned (.bool false)/\Mod (fun _=>False) w w')\/
 (q8 I id≠none/\e= .returned (.bool true)/\Idx w' b own C (U0 I id) T/\Mod own w w')
def a5F (b m1 cb n:Nat) (id:Int) (f:Lit->Option Value) (r:Value) (y:World):Prop:=
 y.cell? ⟨b,0,none⟩=some (.map (some m1))/\y.cell? ⟨cb,0,none⟩=some (.int .i64 id)/\l8 y 3 m1 n f/\(Instr.lookup 157 (.map (some m1)) (.int .i64 id) true).run Tryz.prog y= .ok r y
theorem a5F.mod {b m1 cb n:Nat} {id:Int} {f:Lit->Option Value} {r:Value} {y z:World} {F:Nat->Prop} (h:a5F b m1 cb n id f r y) (hid:(Lit.int .i64 id).wf=true) (hr:r= .tuple #[(f (.int .i64 id)).getD (.agg #[.string ⟨#[]⟩,.slice none 0 0]),.bool (f (.int .i64 id)).isSome])
 (hm:Mod F y z) (h1:¬F b) (h2:¬F cb) (h3:¬F m1):a5F b m1 cb n id f r z:=by
 refine ⟨hm.cell h.1 h1,hm.cell h.2.1 h2,h.2.2.1.mod hm h3, ?_⟩;rw [hr];exact (h.2.2.1.mod hm h3).look_ok m7 Tryz.underlying157 (u4 z) (Maps.keyOf_int_mk Tryz.underlying3 hid)
attribute [local go_sem ↓] F3
theorem b3h (w:World) (b:Nat) (own C:Nat->Prop) (I:List (Int×Fil)) (T:Nat) (h:Idx w b own C I T) (hT:T<=100000) (id:Int) (hid:(Lit.int .i64 id).wf=true):
 Calls Tryz.prog 70 #[.pointer (some ⟨b,0,none⟩),.int .i64 id] w (b04 w b own C I T id):=by
 obtain ⟨m1,m2,h⟩:=h;obtain ⟨wa,hwa,hmwa,hgwa,hzwa⟩:=e8 w (.cells #[.int .i64 id] 3);have hia:=h.mod hmwa (fun _ _ h=>h);obtain ⟨f,hf1,hf2⟩:=hia.fm;have hkey:keyOf Tryz.prog 3 (.int .i64 id)=some (.int .i64 id):=Maps.keyOf_int_mk Tryz.underlying3 hid;have hbz:b<w.heap.size:=h.olow _ h.ob.1;have hmz:m1<w.heap.size:=h.olow _ h.ob.2.1;have hmz2:m2<w.heap.size:=h.olow _ h.ob.2.2
 obtain ⟨qs,qa,qn,qc,ok,hr,hok⟩:∃qs qa qn qc ok,(.tuple #[(f (.int .i64 id)).getD (.agg #[.string ⟨#[]⟩,.slice none 0 0]),.bool (f (.int .i64 id)).isSome]:Value)= .tuple #[.agg #[.string qs,.slice qa qn qc],.bool ok]/\
  ((ok=false/\q8 I id=none)\/(ok=true/\∃q,q8 I id=some (qs,q)/\qn=q.length/\(f (.int .i64 id)).isSome=true/\j0 wa 7 (.slice qa qn qc) qn (l6 q)/\∀k,(Value.slice qa qn qc).ownBlock=some k->k<wa.heap.size/\¬own k)):=by
  have h1:=hf2 id;cases hq:q8 I id<;>cases hfv:f (.int .i64 id)<;>rw [hq,hfv] at h1
  ·exact ⟨_,_,_,_,_,rfl,.inl ⟨rfl,rfl⟩⟩
  ·exact h1.elim
  ·exact h1.elim
  rename_i q v
  obtain ⟨qa,qc,rfl,h2,h3⟩:=h1;exact ⟨_,_,_,_,_,rfl,.inr ⟨rfl,q.2,rfl,rfl,rfl,h2.rd,fun k hk=>⟨(h3 k hk).1,(h3 k hk).2.1⟩⟩⟩
 have hSb:a5F b m1 w.heap.size I.length id f (.tuple #[.agg #[.string qs,.slice qa qn qc],.bool ok]) wa.drew:=by
  refine ⟨d6 hia.row rfl,d6 hgwa rfl,hf1.mod ((Mod.refl (fun _=>False) wa).drew) (fun h=>h), ?_⟩;rw [<-hr];exact (hf1.mod ((Mod.refl (fun _=>False) wa).drew) (fun h=>h)).look_ok m7 Tryz.underlying157 (u4 _) hkey
 obtain ⟨H,Hia,Hf1,Hf2,Hkey,Hr,Hok,Hwa,Hmwa,Hgwa,Hid⟩:=zh11 h hia hf1 hf2 hkey hr hok hwa hmwa hgwa hid;clear h hia hf1 hf2 hkey hr hok hwa hmwa hgwa hid hzwa
 go_enter Tryz.func70,Tryz.ntmps70
 go_wp2_with (first|(rw [show w.alloc _=wa from Hwa.out])|fail)
 have hS:=hSb;refine g8 [.rd 0,.rd 1,.rd 2,.rd 3,.rd 4,.rd 5,.rd 6,.rd 7,.rd 8,.go 9,.go 10,.rd 11] [0,1,2,3,4,5,6,7,8,9,10] (a5F b m1 w.heap.size I.length id f (.tuple #[.agg #[.string qs,.slice qa qn qc],.bool ok])) (by kernel_rfl) (by kernel_rfl) (fun _ _ d _ _ h=>(by cases d<;>exact h)) ?_
 iterate 9 (
  refine l5 rfl ?_ (fun _=>hS) ?_ (fun w0 h0=> ?_) (fun K hK=> ?_)
  ·(try simp only [zz1]);(try simp only [zz2]);(try simp only [zz3]);go_simp;done
  rotate_left
  ·(try simp only [zz1]);(try simp only [zz2]);(try simp only [zz3])
   first
    |(obtain ⟨f0,f1, -,f2⟩:=h0 rfl;clear h0;go_simp;with_reducible rfl)
    |(clear h0;go_simp;with_reducible rfl)
  (try simp only [zz1]);(try simp only [zz2]);(try simp only [zz3])
  go_simp;refine hK _ ?_;clear hK K)
 refine g7 (g9 rfl ?_ (fun K hK=> ?_))
 ·(try simp only [zz1]);(try simp only [zz2]);(try simp only [zz3]);go_simp;done
 (try simp only [zz1]);(try simp only [zz2]);(try simp only [zz3]);obtain ⟨wT,hwT,hmwT,hgwT,hzwT⟩:=e8 wa.drew (.cells #[.string ⟨#[]⟩,.slice none 0 0] 33);go_simp;refine hK _ _ (fun _ h=>h.mod Hid.out Hr.out.symm hmwT (fun h=>h) (fun h=>h) (fun h=>h)) ?_;clear hK K hS
 have hsz:wa.heap.size=w.heap.size+1:=by
  rw [<-Hwa.out];exact Array.size_push _
 have hS:=a5F.mod hSb Hid.out Hr.out.symm hmwT (fun h=>h) (fun h=>h) (fun h=>h);refine g7 (g9 rfl ?_ (fun K hK=> ?_))
 ·(try simp only [zz1]);(try simp only [zz2]);(try simp only [zz3]);go_simp;done
 (try simp only [zz1]);(try simp only [zz2]);(try simp only [zz3]);obtain ⟨w3,hw3⟩:∃w3,wT.setRow wa.heap.size ([.string qs,.slice qa qn qc]:List Value).toArray=w3:=⟨_,rfl⟩;refine V6 33 (.tmp 5) (.tmp 16) rfl wa.heap.size rfl #[.string ⟨#[]⟩,.slice none 0 0] 33 hgwT [.string qs,.slice qa qn qc] rfl rfl (by kernel_rfl) (fun u hu=>zz15 (show ([.string qs,.slice qa qn qc]:List Value).all (·.oneCell')=true from rfl) u hu) ?_;rw [hw3];have hg3:w3.heap[wa.heap.size]? =some (.cells #[.string qs,.slice qa qn qc] 33 (0,0)):=by rw [<-hw3];exact setRow_heap wT wa.heap.size _ _ _ _ hgwT
 have hm3:Mod (fun k=>k=wa.heap.size) wT w3:=hw3▸(Mod.refl (fun k=>k=wa.heap.size) wT).setRow (fun _=>rfl) _;have hS3:=hS.mod Hid.out Hr.out.symm hm3 (fun h=>by have h':b=wa.heap.size:=h;omega) (fun h=>by have h':w.heap.size=wa.heap.size:=h;omega) (fun h=>by have h':m1=wa.heap.size:=h;omega);refine hK _ _ (fun _ _=>hS3) ?_;clear hK K hS;have hma3:Mod (fun _=>False) wa w3:=((((Mod.refl (fun _=>False) wa).drew).trans hmwT (fun _ _ h=>h)).upon hm3 (fun k hk=> .inr (by omega)));have hm03:=Hmwa.out.trans hma3 (fun _ _ h=>h);have hS:=hS3;have c0:w3.cell? ⟨w.heap.size,0,none⟩=some (.int .i64 id):=hS3.2.1;have cb:w3.cell? ⟨b,0,none⟩=some (.map (some m1)):=hS3.1;obtain ⟨Hg3,Hm3,Hma3,Hm03,Hw3,HSb,HS3⟩:=zh7 hg3 hm3 hma3 hm03 hw3 hSb hS3;clear hg3 hm3 hma3 hm03 hw3 hSb hS3 hmwT hgwT hzwT hwT;refine l5 rfl ?_ (fun _=>hS) ?_ (fun w0 h0=> ?_) (fun K hK=> ?_)
 ·(try simp only [zz1]);(try simp only [zz2]);(try simp only [zz3]);go_simp;done
 rotate_left
 ·(try simp only [zz1]);(try simp only [zz2]);(try simp only [zz3])
  first
   |(obtain ⟨-, -, -, -⟩:=h0 rfl;clear h0;go_simp;with_reducible rfl)
   |(clear h0;go_simp;with_reducible rfl)
 (try simp only [zz1]);(try simp only [zz2]);(try simp only [zz3]);go_simp;refine hK _ ?_;clear hK K;refine j8 ?_
 cases ok with
 |false=>
  rcases Hok.out with ⟨-,hno⟩|⟨h, -⟩
  rotate_left
  ·cases h
  have Hno:=zh hno;clear hno
  go_wp2_with fail
  go_ret;exact .inl ⟨Hno.out,rfl,Hm03.out⟩
 |true=>
  rcases Hok.out with ⟨h, -⟩|⟨-,q,hq,rfl,hfs,hrq,hqb⟩
  ·cases h
  obtain ⟨Hq,Hfs,Hrq,Hqb⟩:=zh4 hq hfs hrq hqb;clear hq hfs hrq hqb
  go_wp2_with fail
  obtain ⟨w4,hd1,hd2,hd3⟩:=(hS.2.2.1.mod ((Mod.refl (fun _=>False) w3).drew) (fun h=>h)).del m7 Tryz.underlying157 Hkey.out 0;have hS4:a5F b m1 w.heap.size I.length id f (.tuple #[.agg #[.string qs,.slice qa q.length qc],.bool true]) w3.drew:=hS.mod Hid.out Hr.out.symm ((Mod.refl (fun _=>False) w3).drew) (fun h=>h) (fun h=>h) (fun h=>h);clear hS;have hS:=hS4;refine g8 [.rd 0,.rd 1,.rd 2,.rd 3,.rd 4,.go 5] [0,1,2,3,4] (a5F b m1 w.heap.size I.length id f (.tuple #[.agg #[.string qs,.slice qa q.length qc],.bool true])) (by kernel_rfl) (by kernel_rfl) (fun _ _ d _ _ h=>(by cases d<;>exact h)) ?_
  iterate 5 (
   refine l5 rfl ?_ (fun _=>hS) ?_ (fun w0 h0=> ?_) (fun K hK=> ?_)
   ·(try simp only [zz1]);(try simp only [zz2]);(try simp only [zz3]);go_simp;done
   rotate_left
   ·(try simp only [zz1]);(try simp only [zz2]);(try simp only [zz3])
    first
     |(obtain ⟨f0,f1, -,f2⟩:=h0 rfl;clear h0;go_simp;with_reducible rfl)
     |(clear h0;go_simp;with_reducible rfl)
   (try simp only [zz1]);(try simp only [zz2]);(try simp only [zz3])
   go_simp;refine hK _ ?_;clear hK K)
  refine g7 (g9 rfl ?_ (fun K hK=> ?_))
  ·(try simp only [zz1]);(try simp only [zz2]);(try simp only [zz3]);go_simp;done
  (try simp only [zz1]);(try simp only [zz2]);(try simp only [zz3]);go_simp;refine hK _ _ (fun h=>absurd h (by decide)) ?_;clear hK K hS;refine j8 ?_;have hx4:Mod (fun k=>k=m1) w w4:=((Hm03.out.mono (G:=fun k=>k=m1) (fun _ _ h=>h.elim)).drew).trans hd3 (fun _ _ h=>h);have hne:=H.out.ne;have hqm:(id,(qs,q))∈I:=T6 Hq.out;have hql:q.length<20:=Nat.lt_succ_of_le (H.out.wf _ hqm).2.1;have hqf:∀c∈q,c.fits:=(H.out.wf _ hqm).2.2;have hg4:w4.heap[b]? =some (.cells #[.map (some m1),.map (some m2)] 160 (0,0)):=hx4.heap H.out.row hne.1
  have e1:w4.cell? ⟨w.heap.size+1,1,none⟩=some (.slice qa q.length qc):=by
   rw [<-hsz];exact hd3.cell (show w3.drew.cell? _=_ from d6 Hg3.out rfl) (fun h=>by have h':wa.heap.size=m1:=h;omega)
  have hr4:j0 w4 7 (.slice qa q.length qc) q.length (l6 q):=(Hrq.out.mod Hma3.out.drew (fun _ _ h=>h)).mod hd3 (fun k hk (h:k=m1)=>(Hqb.out k hk).2 (h▸H.out.ob.2.1))
  have hfm:a0F w4 m1 own C (U0 I id):=by
   refine a0F.del (w:=w3.drew) (f:=f) (fun x=>(Hf2.out x).mod (Hma3.out.drew) (fun _ _ h=>h.elim)) ?_ hd3 H.out.ob.2.1;have h1:=b02 H.out.nd (by rw [Hq.out];intro h;cases h);have h2:=hd2;rw [if_pos Hfs.out] at h2;rw [show (U0 I id).length=I.length - 1 by omega];exact h2
  obtain ⟨n2,f2,hp⟩:∃n f,a8j w4 b m1 m2 own (U0 I id++[(id,(qs,U3 q 0))]) T n f:=
   (H.out.pm.mod hx4 (fun h=>hne.2.2 h.symm) (fun k _ _ h3 _ _ h5=>h3 h5)).cong (own':=own) (fun _ _ h=>h) (fun id' nm=>by
     rw [D9 (by rw [O7,if_pos rfl])];by_cases e:id'=id
     ·rw [if_pos e,e,Hq.out,a69]
     ·rw [if_neg e,O7,if_neg e]) (Nat.le_refl T)
  have hkeys:∀c∈q,(f2 (Lit.str c.name)).isSome=true:=fun c hc=>by
   obtain ⟨ps,p1, -, -,p4⟩:=hp.2.2.1 c.name
   cases hf:f2 (Lit.str c.name) with
   |some v=>rfl
   | none=>
    rw [hf] at p1
    have h0:ps=[]:=by
     rcases p1.2 with ⟨-,h⟩|⟨g,off,cap,cur,h, -⟩
     ·exact List.length_eq_zero_iff.1 h
     ·cases h
    have h1:=p4 id;rw [h0,D9 (by rw [O7,if_pos rfl]),if_pos rfl] at h1;have h2:c∈D2 (some (qs,U3 q 0)) c.name:=List.mem_filter.2 ⟨List.mem_filter.2 ⟨hc,by simp⟩,by simp⟩;rw [<-h1] at h2;cases h2
  have hrel0:a8k w4 b m1 m2 own I T id qs q (.int .i64 ((0:Nat):Int)) w4:=⟨0,n2,f2,rfl,Nat.zero_le _,hp,hkeys,Mod.refl _ _⟩;have cid:w4.cell? ⟨w.heap.size,0,none⟩=some (.int .i64 id):=hd3.cell (show w3.drew.cell? _=_ from c0) (fun h=>by have h':w.heap.size=m1:=h;omega);obtain ⟨Hx4,Hg4,Hr4,Hfm,Hp,Hkeys,Hrel0,Hd1,Hd2,Hd3,Hqm,Hqf⟩:=zh12 hx4 hg4 hr4 hfm hp hkeys hrel0 hd1 hd2 hd3 hqm hqf;have Cid:=zh cid;clear hx4 hg4 hr4 hfm hp hkeys hrel0 hd1 hd2 hd3 hqm hqf cid hS4 c0 cb
  go_wp2_with fail
  go_loopw [28] (fun i wr=>a8k w4 b m1 m2 own I T id qs q i wr) (fun i _=>q.length - (intOf i).toNat)
  case atStart=>exact Hrel0.out
  case round=>
   obtain ⟨j,n,f3,rfl,hj,hp,hkeys,hmr⟩:=hrel;by_cases hlt:j<q.length
   ·have hlt':(j:Int)<q.length:=by omega
    obtain ⟨x,hxj⟩:∃x,q[j]? =some x:=⟨_,zz5 hlt⟩;have hxq:=zz8 hxj;have hxf:x.fits:=Hqf.out x hxq;have hrr:j0 wr 7 (.slice qa q.length qc) q.length (l6 q):=Hr4.out.mod hmr (fun k hk h=>(Hqb.out k hk).2 h.1);obtain ⟨g,off,rfl,hf⟩:∃g off,qa=some ⟨g,off,none⟩/\e7 wr g (off+j*7) x.cells:=J2 hrr hxj;obtain ⟨wz,hwz,hmwz,hgwz,hzwz⟩:=e8 wr (.cells x.cells.toArray 132);obtain ⟨v,hv⟩:∃v,(f3 (Lit.str x.name)).getD I3=v:=⟨_,rfl⟩;obtain ⟨ps,p1,p2,p3,p4⟩:=hp.2.2.1 x.name;rw [hv] at p1 p3;have hvb:=hp.2.2.2.1 x.name;rw [hv] at hvb;have hgr:wr.heap[b]? =some (.cells #[.map (some m1),.map (some m2)] 160 (0,0)):=hmr.heap Hg4.out (fun h=>h.2.2 rfl);have hsr:w4.heap.size<=wr.heap.size:=hmr.size;have hs4:w.heap.size<w4.heap.size:=by have h1:=Hd3.out.size;have h2:=Hma3.out.size;have h3:w3.drew.heap.size=w3.heap.size:=rfl;omega
    have hadd:∀y,Mod (j1 v) wz y->a3J b m2 wr.heap.size n f3 v x y:=fun y hy=>by
     refine a3J.at (hy.heap (hmwz.heap hgr (fun h=>h)) (fun h=>(hvb _ h).1 rfl)) (hy.heap hgwz (fun h=> ?_)) ((hp.1.mod hmwz (fun h=>h)).mod hy (fun h=>(hvb _ h).2.2 rfl)) hv hxf.name;have:=p1.lt _ h;omega
    have hvo:∀k,v.ownBlock=some k->k<w.heap.size:=fun k hk=>H.out.olow k (p3 k hk);have hidr:wr.cell? ⟨w.heap.size,0,none⟩=some (.int .i64 id):=hmr.cell Cid.out (fun h=>by have:=H.out.olow _ h.1;exact Nat.lt_irrefl _ this);have hdl:=b3a wz.drew v ps ((p1.mod hmwz (fun _ _ h=>h)).drew) (by omega) w.heap.size id (hmwz.cell hidr (fun h=>h)) (fun h=>by have:=hvo _ h;omega);obtain ⟨Hxj,Hxq,Hxf,Hrr,Hf,Hwz,Hmwz,Hgwz,Hp,Hkeys,Hv,P1⟩:=zh12 hxj hxq hxf hrr hf hwz hmwz hgwz hp hkeys hv p1;obtain ⟨P3,P4,Hvb,Hgr,Hadd,Hmr,Hvo,Hidr,Hdl⟩:=zh9 p3 p4 hvb hgr hadd hmr hvo hidr hdl;clear hxj hxq hxf hrr hf hwz hmwz hgwz hp hkeys hv p1 p3 p4 hvb hgr hadd hmr hvo hidr hdl hzwz
    go_wp2_with (first|((with_reducible refine d9 132 (.tmp 30) ?_);refine ⟨g,off+j*7,rfl,x.cells,Hf.out,by kernel_rfl,by kernel_rfl, ?_⟩)|((with_reducible refine d8 132 (.tmp 8) (.tmp 31) ?_);refine ⟨rfl,x.cells,rfl,rfl,by kernel_rfl,rfl, ?_⟩;rw [Hwz.out])|fail)
    have hS:a3J b m2 wr.heap.size n f3 v x wz.drew:=Hadd.out _ ((Mod.refl _ wz).drew);refine g8 [.rd 0,.rd 1,.rd 2,.rd 3,.rd 4,.rd 5,.rd 6,.rd 7,.rd 8,.rd 9,.rd 10,.rd 11,.rd 12,.rd 13,.go 14,.go 15] [0,1,2,3,4,5,6,7,8,9,10,11,12,13,14] (a3J b m2 wr.heap.size n f3 v x) (by kernel_rfl) (by kernel_rfl) (fun _ _ d _ _ h=>(by cases d<;>exact h)) ?_
    iterate 14 (
     refine l5 rfl ?_ (fun _=>hS) ?_ (fun w0 h0=> ?_) (fun K hK=> ?_)
     ·(try simp only [zz1]);(try simp only [zz2]);(try simp only [zz3]);go_simp;done
     rotate_left
     ·(try simp only [zz1]);(try simp only [zz2]);(try simp only [zz3])
      first
       |(obtain ⟨f0,f1,f2,f3, -,f4⟩:=h0 rfl;clear h0;go_simp;with_reducible rfl)
       |(clear h0;go_simp;with_reducible rfl)
     (try simp only [zz1]);(try simp only [zz2]);(try simp only [zz3])
     go_simp;refine hK _ ?_;clear hK K)
    refine g7 (g9 rfl ?_ (fun K hK=> ?_))
    ·(try simp only [zz1]);(try simp only [zz2]);(try simp only [zz3]);go_simp;done
    (try simp only [zz1]);(try simp only [zz2]);(try simp only [zz3])
    go_wp2_with fail
    refine Hdl.out.mono ?_;rintro e w5 ⟨v',ps',rfl,hps,ho5,hvb5,hm5⟩;have hmz5:Mod (j1 v) wz w5:=((Mod.refl (j1 v) wz).drew).trans hm5 (fun _ _ h=>h);refine hK _ _ (fun _ _=>Hadd.out _ hmz5) ?_;clear hK K hS;have h5m:l8 w5 9 m2 n f3:=(Hp.out.1.mod Hmwz.out (fun h=>h)).mod hmz5 (fun h=>(Hvb.out _ h).2.2 rfl);refine g7 (g9 rfl ?_ (fun K hK=> ?_))
    ·(try simp only [zz1]);(try simp only [zz2]);(try simp only [zz3]);go_simp;done
    (try simp only [zz1]);(try simp only [zz2]);(try simp only [zz3]);refine a03 158 _ _ _ rfl ?_;refine ⟨9,179,m2,n,f3,Lit.str x.name,h5m,o6,Tryz.underlying158,by have:=Hp.out.2.1;unfold maxLen;omega,rfl,WideMaps.keyOf_string_mk Tryz.underlying9 (by have:=Hxf.out.name;unfold maxLen;omega),fun w6 hV1 hV2=> ?_⟩
    have hV:l8 w6 9 m2 n (C0 f3 (Lit.str x.name) v'):=by
     have h1:=hV1;rw [if_pos (Hkeys.out x Hxq.out)] at h1;exact h1
    refine hK _ _ (fun h=>absurd h (by decide)) ?_;clear hK K hV1;refine j8 ?_;have hdn:∀y,q8 (U0 I id) y=if y=id then none else q8 I y:=O7 I id
    have hst:=b03 (I':=U0 I id++[(id,(qs,U3 q (j+1)))]) Hp.out Hv.out Hmwz.out ho5 hvb5 hmz5 (by rw [hps];exact Nat.le_trans (List.length_filter_le _ _) p2) hV hV2 (fun id' nm' hn=>by
     rw [D9 (by rw [hdn,if_pos rfl]),D9 (by rw [hdn,if_pos rfl])];by_cases e:id'=id
     ·rw [if_pos e,if_pos e,a06 Hxj.out,if_neg hn]
     ·rw [if_neg e,if_neg e]) (fun id'=>by
     have h1:=P4.out id';rw [D9 (by rw [hdn,if_pos rfl])] at h1⊢;rw [hps,List.filter_filter];by_cases e:id'=id
     ·rw [if_pos e,a06 Hxj.out,if_pos rfl,e,List.filter_eq_nil_iff.2 (fun p _=>by cases p.1==id<;>simp)];rfl
     ·rw [if_neg e] at h1⊢;rw [<-h1];congr 1;congr 1;funext p
      cases hp:p.1==id' with
      |false=>rfl
      |true=>
       rw [beq_iff_eq] at hp;have:(p.1==id)=false:=by rw [beq_eq_false_iff_ne,hp];exact e
       rw [this]
       rfl)
    have hm46:Mod (fun k=>own k/\k≠m1/\k≠b) w4 w6:=((Hmr.out.trans Hmwz.out (fun _ _ h=>h.elim)).upon hmz5 (fun k hk=> .inl ⟨P3.out k hk,(Hvb.out k hk).2.1,(Hvb.out k hk).1⟩)).upon hV2 (fun k hk=> .inl (by
     subst hk
     exact ⟨H.out.ob.2.2,fun e=>hne.2.2 e.symm,fun e=>hne.2.1 e.symm⟩))
    have hkk:∀c∈q,(C0 f3 (Lit.str x.name) v' (Lit.str c.name)).isSome=true:=fun c hc=>by
     unfold C0;split
     ·rfl
     exact Hkeys.out c hc
    obtain ⟨Hst,Hm46,HV,HV2,Hkk,Ho5,Hm5,Hmz5,H5m,Hps,Hvb5,Hdn⟩:=zh12 hst hm46 hV hV2 hkk ho5 hm5 hmz5 h5m hps hvb5 hdn;clear hst hm46 hV hV2 hkk ho5 hm5 hmz5 h5m hps hvb5 hdn
    go_wp2_with fail
    go_roundw
    case rel=>exact ⟨j+1,n,_,by go_num,hlt,Hst.out,Hkk.out,Hm46.out⟩
    case measure=>simp [intOf];omega
   obtain rfl:j=q.length:=by omega
   have hix:Q8 wr b m1 m2 own C (U0 I id) T:=by
    have hlw:∀k,own k->k<wr.heap.size:=fun k hk=>by have h1:=H.out.olow k hk;have h2:=Hx4.out.size;have h3:=hmr.size;omega
    refine ⟨hmr.heap Hg4.out (fun h=>h.2.2 rfl), ?_,H.out.ob,hne,Hfm.out.mod hmr (fun h=>h.2.1 rfl) (fun k _ h=>h.1), ?_, ?_,hlw,fun k hk=>by have h1:=H.out.clow k hk;have h2:=Hx4.out.size;have h3:=hmr.size;omega,fun p hp'=>H.out.wf p (List.mem_filter.1 hp').1,fun p hp'=>H.out.sc p (List.mem_filter.1 hp').1⟩
    ·exact (H.out.nd).sublist (List.Sublist.map _ List.filter_sublist)
    ·refine a3e.cong (I:=U0 I id++[(id,(qs,U3 q q.length))]) ⟨n,f3,hp⟩ (fun _ _ h=>h) (fun id' nm=> ?_) (Nat.le_refl T);rw [D9 (by rw [O7,if_pos rfl]),O7,a9d];by_cases e:id'=id
     ·rw [if_pos e,if_pos e];rfl
     rw [if_neg e,if_neg e]
    exact Nat.le_trans (List.length_filter_le _ _) H.out.low
   have hmw:Mod own w wr:=(Hx4.out.mono (G:=own) (fun k _ h=>h▸H.out.ob.2.1)).upon hmr (fun k hk=> .inl hk.1);obtain ⟨Hix,Hmw,Hmr,Hp,Hkeys⟩:=zh5 hix hmw hmr hp hkeys;clear hix hmw hmr hp hkeys
   go_wp2_with fail
   go_ret
   have hqn:q8 I id≠none:=by
    rw [Hq.out];intro h;cases h
   exact .inr ⟨hqn,rfl,⟨m1,m2,Hix.out⟩,Hmw.out⟩
end
section
open Go.RowKit
def a2n (I:List (Int×Fil)) (L:List Att) (id:Int):Nat:=(L.map fun a=>((D2 (q8 I id) a.name).filter fun c=>c.holds a.v).length).sum
theorem a9e (I:List (Int×Fil)) (L:List Att) (a:Att) (id:Int):a2n I (L++[a]) id=a2n I L id+((D2 (q8 I id) a.name).filter fun c=>c.holds a.v).length:=by
 unfold a2n;rw [List.map_append,List.sum_append];simp
def a1K (w:World) (mc K:Nat) (g:Int->Nat):Prop:=∃n f,l8 w 3 mc n f/\n<=K/\(∀id:Int,(f (.int .i64 id)).getD (.int .i64 0)= .int .i64 (g id))/\∀id,g id<=K
theorem a1K.mod {w w':World} {mc K:Nat} {g:Int->Nat} {F:Nat->Prop} (h:a1K w mc K g) (hm:Mod F w w') (hF:¬F mc):a1K w' mc K g:=by
 obtain ⟨n,f,h1,h2⟩:=h;exact ⟨n,f,h1.mod hm hF,h2⟩
theorem a1K.cong {w:World} {mc K K':Nat} {g g':Int->Nat} (h:a1K w mc K g) (hK:K<=K') (hg:∀id,g' id=g id):a1K w mc K' g':=by
 obtain ⟨n,f,h1,h2,h3,h4⟩:=h;exact ⟨n,f,h1,Nat.le_trans h2 hK,fun id=>by rw [hg];exact h3 id,fun id=>by rw [hg];exact Nat.le_trans (h4 id) hK⟩
theorem a1K.inc {w':World} {mc n K:Nat} {g g':Int->Nat} {f:Lit->Option Value} {id:Int} {c:Nat} (h2:n<=K) (h3:∀id:Int,(f (.int .i64 id)).getD (.int .i64 0)= .int .i64 (g id)) (h4:∀id,g id<=K) (hc:g id=c)
 (h:l8 w' 3 mc (if (f (.int .i64 id)).isSome then n else n+1) (C0 f (.int .i64 id) (.int .i64 (c+1)))) (hg:∀x,g' x=g x+if id=x then 1 else 0):a1K w' mc (K+1) g':=by
 refine ⟨_,_,h,by split<;>omega,fun x=> ?_,fun x=>by rw [hg];have:=h4 x;split<;>omega⟩;rw [hg];unfold C0;by_cases e:x=id
 ·rw [if_pos (by rw [e]),if_pos e.symm,e,hc];simp
 rw [if_neg (fun h=>e (Lit.int.inj h).2),if_neg (fun h=>e h.symm)];exact h3 x
theorem a5G (w:World):(zeroValue 3).run Tryz.prog w= .ok (.int .i64 0) w:=by kernel_rfl
def b4d (wb:World) (mc T:Nat) (I:List (Int×Fil)) (L:List Att) (i:Value) (wr:World):Prop:=
 ∃j:Nat,i= .int .i64 j/\j<=L.length/\a1K wr mc (j*T) (a2n I (L.take j))/\Mod (fun k=>k=mc) wb wr
def b4e (wb:World) (mc K:Nat) (g:Int->Nat) (x:Att) (ps:List (Int×Cnd)) (i:Value) (wr:World):Prop:=
 ∃j:Nat,i= .int .i64 j/\j<=ps.length/\a1K wr mc (K+j) (fun id=>g id+((ps.take j).filter fun p=>p.1==id&&p.2.holds x.v).length)/\Mod (fun k=>k=mc) wb wr
def a5H (I:List (Int×Fil)) (es:ByteArray) (L:List Att) (id:Int):Bool:=match q8 I id with
 |some q=>a2n I L id==q.2.length&&s6 es q.1
 |none=>false
def a9f (I:List (Int×Fil)) (es:ByteArray) (L:List Att):List Int:=(Y6 (I.map Prod.fst)).filter (a5H I es L)
def b4f (w4:World) (I:List (Int×Fil)) (es:ByteArray) (L:List Att) (ov i:Value) (wr:World):Prop:=
 ∃(j:Nat) (o:List Int) (oa:Option Addr) (oc:Nat),i= .int .i64 j/\j<=(Y6 (I.map Prod.fst)).length/\o=((Y6 (I.map Prod.fst)).take j).filter (a5H I es L)/\ov= .slice oa o.length oc/\i7 wr 3 1 ov o.length (o.map (Value.int .i64))/\(∀k,ov.ownBlock=some k->w4.heap.size<=k)/\Mod (fun _=>False) w4 wr
def b05 (w:World) (I:List (Int×Fil)) (es:ByteArray) (L:List Att) (e:Ending) (w':World):Prop:=
 ∃v,e= .returned v/\i7 w' 3 1 v (a9f I es L).length ((a9f I es L).map (Value.int .i64))/\(∀k,v.ownBlock=some k->w.heap.size<=k)/\Mod (fun _=>False) w w'
theorem a4d {L:List Int} {x:Int}:x∈Y6 L↔x∈L:=(List.mergeSort_perm L leI).mem_iff
theorem a5I {I:List (Int×Fil)} {id:Int} (h:id∈I.map Prod.fst):∃q,q8 I id=some q:=by
 cases hq:q8 I id with
 |some q=>exact ⟨q,rfl⟩
 |none=>exact absurd h (a1H hq)
theorem a3i {w:World} {a:Option Addr} {n cap:Nat} {l:List Int} {j:Nat} {x:Int} (h:j0 w 1 (.slice a n cap) n (l.map (Value.int .i64))) (hx:l[j]? =some x):∃g off,a=some ⟨g,off,none⟩/\w.cell? ⟨g,off+j,none⟩=some (.int .i64 x):=by
 obtain ⟨h0,a',c',h1, -,h3,h4⟩:=h;cases h1
 have hj:=(zz6 hx).1;have hn:n=l.length:=by rw [zz10] at h0;omega
 cases a with
 |none=>exact absurd (h3 rfl) (by omega)
 |some b=>
  obtain ⟨g',off',h5,h6⟩:=h4 _ rfl (by omega);exact ⟨g',off',by rw [h5],h6 j _ (by rw [List.getElem?_map,hx];rfl)⟩
def b5n (b m2 cb:Nat) (v:Value) (x:Att) (y:World):Prop:=
 y.cell? ⟨b,1,none⟩=some (.map (some m2))/\y.cell? ⟨cb,0,none⟩=some (.string x.name)/\(Instr.lookup 158 (.map (some m2)) (.string x.name) false).run Tryz.prog y= .ok v y
theorem e7.part {w:World} {g off:Nat} {l m:List Value} (h:e7 w g off (l++m)) {n:Nat} (hn:l.length=n):e7 w g (off+n) m:=fun j u hu=>by
 have:=h (n+j) u (by rw [List.getElem?_append_right (by omega),<-hn,Nat.add_sub_cancel_left];exact hu);rwa [<-Nat.add_assoc] at this
attribute [local go_sem ↓] F3
theorem a9g (w:World) (b:Nat) (own C:Nat->Prop) (I:List (Int×Fil)) (T:Nat) (h:Idx w b own C I T) (hT:T<=100000) (es:ByteArray) (hes:es.size<=1000000) (ev:Value) (L:List Att)
 (hv:j0 w 6 ev L.length (j7 L)) (hL:L.length<=1000) (hLf:∀a∈L,a.name.size<=1000000/\a.v.text.size<=1000000):
 Calls Tryz.prog 92 #[.pointer (some ⟨b,0,none⟩),.agg #[.string es,ev]] w (b05 w I es L):=by
 obtain ⟨m1,m2,h⟩:=h;obtain ⟨a,cap,rfl⟩:∃a c,ev= .slice a L.length c:=by obtain ⟨-,a,c,h, -⟩:=hv;exact ⟨a,c,h⟩
 obtain ⟨wa,hwa,hmwa,hgwa,hzwa⟩:=e8 w (.cells #[.string es,.slice a L.length cap] 46);obtain ⟨wb,hwb,hmwb,hgwb,hzwb⟩:=e8 wa (.map #[] 0);have hm2:=hmwa.trans hmwb (fun _ _ h=>h);have hib:=h.mod hm2 (fun _ _ h=>h);have hbz:b<w.heap.size:=h.olow _ h.ob.1;have hmz:m1<w.heap.size:=h.olow _ h.ob.2.1;have hmz2:m2<w.heap.size:=h.olow _ h.ob.2.2;have hsz:w.heap.size<wa.heap.size:=by rw [<-hwa];exact Nat.lt_of_lt_of_eq (Nat.lt_succ_self _) (Array.size_push _).symm
 have hmc:l8 wb 3 wa.heap.size 0 (fun _=>none):=hwb▸l8.made wa 3;have c1:wb.cell? ⟨w.heap.size,1,none⟩=some (.slice a L.length cap):=d6 (hmwb.heap hgwa (fun h=>h)) rfl;have hvb:=hv.mod hm2 (fun _ _ h=>h);have hrel0:b4d wb wa.heap.size T I L (.int .i64 ((0:Nat):Int)) wb:=⟨0,rfl,Nat.zero_le _,⟨0,_,hmc,Nat.zero_le _,fun id=>rfl,fun id=>by simp [a2n]⟩,Mod.refl _ _⟩;have hge:=hmwb.heap hgwa (fun h=>h);obtain ⟨H,Hv,Hwa,Hmwa,Hgwa,Hwb,Hmwb,Hgwb,Hm2,Hib,Hmc,Hvb⟩:=zh12 h hv hwa hmwa hgwa hwb hmwb hgwb hm2 hib hmc hvb;obtain ⟨Hrel0,Hge⟩:=zh2 hrel0 hge;clear h hv hwa hmwa hgwa hwb hmwb hgwb hm2 hib hmc hvb hrel0 hge hzwa hzwb
 go_enter Tryz.func92,Tryz.ntmps92
 go_wp2_with (first|(rw [show w.alloc _=wa from Hwa.out])|(rw [show wa.alloc _=wb from Hwb.out])|fail)
 go_loopw [18] (fun i wr=>b4d wb wa.heap.size T I L i wr) (fun i _=>L.length - (intOf i).toNat)
 case atStart=>exact Hrel0.out
 case round=>
  revert wr;intro wA hrel;obtain ⟨j,rfl,hj,hcn,hmr⟩:=hrel;by_cases hlt:j<L.length
  ·have hlt':(j:Int)<L.length:=by omega
   obtain ⟨x,hxj⟩:∃x,L[j]? =some x:=⟨_,zz5 hlt⟩;have hxf:=hLf x (zz8 hxj);obtain ⟨g,off,rfl,hf0⟩:∃g off,a=some ⟨g,off,none⟩/\e7 w g (off+j*6) x.cells:=a0x Att.cells_length Hv.out hxj;have hgl:g<w.heap.size:=World.block_lt_of_cell? w _ (hf0 0 _ rfl);have hf:e7 wA g (off+j*6) x.cells:=(hf0.mod Hm2.out (fun h=>h)).mod hmr (fun h=>by have h':g=wa.heap.size:=h;omega);obtain ⟨wz,hwz,hmwz,hgwz,hzwz⟩:=e8 wA (.cells x.cells.toArray 70);have hmbz:=hmr.trans (hmwz.mono (G:=fun k=>k=wa.heap.size) (fun _ _ h=>h.elim)) (fun _ _ h=>h);have hib2:Q8 w b m1 m2 own C I T:=H.out;obtain ⟨n2,f2,g1,g2,g3,g4,g5⟩:=Hib.out.pm;obtain ⟨v,hvv⟩:∃v,(f2 (Lit.str x.name)).getD I3=v:=⟨_,rfl⟩;obtain ⟨ps,p1,p2,p3,p4⟩:=g3 x.name;rw [hvv] at p1 p3;obtain ⟨va,vc,rfl,hvc⟩:=p1.shape;have hvo:∀k,(Value.slice va ps.length vc).ownBlock=some k->k<w.heap.size:=fun k hk=>H.out.olow k (p3 k hk);have hpr:∀y F,Mod F wb y->(∀k,F k->w.heap.size<=k)->j0 y 8 (.slice va ps.length vc) ps.length (pls ps):=fun y F hy hF=>p1.rd.mod hy (fun k hk h=>by have h1:=hvo k hk;have h2:=hF k h;omega)
   have hSb:b5n b m2 wA.heap.size (.slice va ps.length vc) x wz.drew:=by
    have hg2:l8 wz.drew 9 m2 n2 f2:=(g1.mod hmbz (fun h=>by have h':m2=wa.heap.size:=h;omega)).mod ((Mod.refl (fun _=>False) wz).drew) (fun h=>h);refine ⟨d6 (hmbz.heap Hib.out.row (fun h=>by have h':b=wa.heap.size:=h;omega)) rfl,d6 hgwz rfl, ?_⟩;rw [<-hvv];exact hg2.look o6 Tryz.underlying158 (a8h _) (WideMaps.keyOf_string_mk Tryz.underlying9 (by unfold maxLen;omega))
   have hpf:∀p∈ps,p.2.fits/\(Lit.int .i64 p.1).wf=true:=fun p hp=>by
    have h1:p.2∈D2 (q8 I p.1) x.name:=by rw [<-p4 p.1];exact List.mem_map_of_mem (List.mem_filter.2 ⟨hp,by simp⟩)
    cases hq:q8 I p.1 with
    |none=>rw [hq] at h1;cases h1
    |some q=>
     rw [hq] at h1;exact ⟨(H.out.wf _ (T6 hq)).2.2 _ (List.mem_filter.1 h1).1,(H.out.wf _ (T6 hq)).1⟩
   have hcz:=hcn.mod hmwz (fun h=>h)
   have hz0:wa.heap.size<wA.heap.size:=by
    have h1:=hmr.size;have h2:=(zz7 Hgwb.out).1;omega
   obtain ⟨Hxj,Hcn,Hmr,Hf0,Hf,Hwz,Hmwz,Hgwz,Hmbz,G1,G2,G3⟩:=zh12 hxj hcn hmr hf0 hf hwz hmwz hgwz hmbz g1 g2 g3;obtain ⟨G4,G5,Hvv,P1,P3,P4,Hvo,Hpr,Hpf,Hcz,Hib2⟩:=zh11 g4 g5 hvv p1 p3 p4 hvo hpr hpf hcz hib2;clear hxj hcn hmr hf0 hf hwz hmwz hgwz hmbz g1 g2 g3 g4 g5 hvv p1 p3 p4 hvo hpr hpf hcz hib2 hzwz
   go_wp2_with (first|((with_reducible refine d9 70 (.tmp 20) ?_);refine ⟨g,off+j*6,rfl,x.cells,Hf.out,by kernel_rfl,by kernel_rfl, ?_⟩)|((with_reducible refine d8 70 (.tmp 7) (.tmp 21) ?_);refine ⟨rfl,x.cells,rfl,rfl,by kernel_rfl,rfl, ?_⟩;rw [Hwz.out])|fail)
   have hS:=hSb;refine g8 [.rd 0,.rd 1,.rd 2,.rd 3,.rd 4,.rd 5,.rd 6,.rd 7,.rd 8] [0,1,2,3,4,5,6,7,8] (b5n b m2 wA.heap.size (.slice va ps.length vc) x) (by kernel_rfl) (by kernel_rfl) (fun _ _ d _ _ h=>(by cases d<;>exact h)) ?_
   iterate 9 (
    refine l5 rfl ?_ (fun _=>hS) ?_ (fun w0 h0=> ?_) (fun K hK=> ?_)
    ·(try simp only [zz1]);(try simp only [zz2]);(try simp only [zz3]);go_simp;done
    rotate_left
    ·(try simp only [zz1]);(try simp only [zz2]);(try simp only [zz3])
     first
      |(obtain ⟨f0,f1,f2⟩:=h0 rfl;clear h0;go_simp;with_reducible rfl)
      |(clear h0;go_simp;with_reducible rfl)
    (try simp only [zz1]);(try simp only [zz2]);(try simp only [zz3])
    go_simp;refine hK _ ?_;clear hK K)
   refine j8 ?_
   have hrelB:b4e wz.drew wa.heap.size (j*T) (a2n I (L.take j)) x ps (.int .i64 ((0:Nat):Int)) wz.drew:=
    ⟨0,rfl,Nat.zero_le _,((Hcz.out.mod ((Mod.refl (fun _=>False) wz).drew) (fun h=>h))).cong (by omega) (fun id=>by simp),Mod.refl _ _⟩
   obtain ⟨HrelB,HSb⟩:=zh2 hrelB hSb;clear hrelB hSb hS
   go_wp2_with fail
   go_loopw [30] (fun i wr=>b4e wz.drew wa.heap.size (j*T) (a2n I (L.take j)) x ps i wr) (fun i _=>ps.length - (intOf i).toNat)
   case atStart=>exact HrelB.out
   case round=>
    obtain ⟨k,rfl,hk,hcn2,hmr2⟩:=hrel;by_cases hlt2:k<ps.length
    ·have hlt2':(k:Int)<ps.length:=by omega
     obtain ⟨y,hyk⟩:∃y,ps[k]? =some y:=⟨_,zz5 hlt2⟩;have hyf:=(Hpf.out y (zz8 hyk)).1.v.text;have hyw:=Maps.keyOf_int_mk (P:=Tryz.prog) Tryz.underlying3 (Hpf.out y (zz8 hyk)).2;obtain ⟨pg,poff,rfl,hpc⟩:∃pg poff,va=some ⟨pg,poff,none⟩/\e7 wr pg (poff+k*8) (B6 y):=a0x o9 (Hpr.out wr (fun k=>k=wa.heap.size) (Hmbz.out.drew.trans hmr2 (fun _ _ h=>h)) (fun k hk=>by omega)) hyk;obtain ⟨wp,hwp,hmwp,hgwp,hzwp⟩:=e8 wr (.cells (B6 y).toArray 181);have hmz2p:Mod (fun k=>k=wa.heap.size) wz wp:=(((Mod.refl (fun k=>k=wa.heap.size) wz).drew).trans hmr2 (fun _ _ h=>h)).trans (hmwp.mono (fun _ _ h=>h.elim)) (fun _ _ h=>h);have hga:e7 wp wA.heap.size 0 x.cells:=(e7.row Hgwz.out).mod hmz2p (fun h=>by have h':wA.heap.size=wa.heap.size:=h;omega);have hga1:e7 wp wA.heap.size 1 x.v.cells:=e7.part (l:=[.string x.name]) (n:=1) hga rfl;have hgp:e7 wp wr.heap.size 0 (B6 y):=e7.row hgwp;have hgp1:e7 wp wr.heap.size 1 y.2.cells:=e7.part (l:=[.int .i64 y.1]) (n:=1) hgp rfl;have e1:=hga1.all (show x.v.cells.length=5 from rfl);have e2:=hga1.is (show x.v.cells.length=5 from rfl);have e3:=hgp1.all (Cnd.cells_length y.2);have e4:=hgp1.is (Cnd.cells_length y.2);have hho:=a2I y.2 x.v (by omega) (by omega) wp;obtain ⟨hv,hhv⟩:∃hv,y.2.holds x.v=hv:=⟨_,rfl⟩;rw [hhv] at hho;obtain ⟨Hyk,Hpc,Hwp,Hmwp,Hgwp,Hmz2p,Hga,Hga1,Hgp,Hgp1,Hho,Hhv⟩:=zh12 hyk hpc hwp hmwp hgwp hmz2p hga hga1 hgp hgp1 hho hhv;obtain ⟨Hcn2,Hmr2,Hyw⟩:=zh3 hcn2 hmr2 hyw;clear hyk hpc hwp hmwp hgwp hmz2p hga hga1 hgp hgp1 hho hhv hcn2 hmr2 hyw hzwp
     go_wp2_with (first|((with_reducible refine d9 181 (.tmp 32) ?_);refine ⟨pg,poff+k*8,rfl,B6 y,Hpc.out,by kernel_rfl,by kernel_rfl, ?_⟩)|((with_reducible refine d8 181 (.tmp 9) (.tmp 33) ?_);refine ⟨rfl,B6 y,rfl,rfl,by kernel_rfl,rfl, ?_⟩;rw [Hwp.out])|fail)
     refine Hho.out.mono ?_;rintro e w3 ⟨rfl,hm3⟩;obtain ⟨n,f,q1,q2,q3,q4⟩:=Hcn2.out;obtain ⟨G,hG⟩:∃G:Int->Nat,G=fun id=>a2n I (L.take j) id+((ps.take k).filter fun p=>p.1==id&&p.2.holds x.v).length:=⟨_,rfl⟩;rw [<-hG] at q3 q4;have hm23:Mod (fun k=>k=wa.heap.size) wz.drew w3:=(Hmr2.out.trans (Hmwp.out.mono (fun _ _ h=>h.elim)) (fun _ _ h=>h)).trans (hm3.mono (fun _ _ h=>h.elim)) (fun _ _ h=>h);have hmp3:=Hmwp.out.trans hm3 (fun _ _ h=>h);have q13:=q1.mod hmp3 (fun h=>h)
     have hstp:∀id,(a2n I (L.take j) id+((ps.take (k+1)).filter fun p=>p.1==id&&p.2.holds x.v).length)=G id+if y.1=id/\hv=true then 1 else 0:=fun id=>by
      rw [hG];simp only [];rw [List.take_add_one,Hyk.out,List.filter_append,zz4,Option.toList_some,List.filter_cons,Hhv.out,List.filter_nil,Nat.add_assoc];congr 1;congr 1;by_cases e:y.1=id
      ·rw [beq_iff_eq.2 e];cases hv<;>simp [e]
      rw [beq_eq_false_iff_ne.2 e];simp [e]
     cases hv with
     | false=>
      obtain ⟨HG,Q1,Q2,Q3,Q4,Hm23,Hmp3,Q13,Hstp,Hm3⟩:=zh10 hG q1 q2 q3 q4 hm23 hmp3 q13 hstp hm3;clear hG q1 q2 q3 q4 hm23 hmp3 q13 hstp hm3
      go_wp2_with fail
      go_roundw
      case rel=>
       refine ⟨k+1,by go_num,hlt2, ?_,Hm23.out⟩;exact (a1K.cong ⟨n,f,Q13.out,Q2.out,Q3.out,Q4.out⟩ (by omega) (fun id=>by rw [Hstp.out];simp))
      case measure=>simp [intOf];omega
     | true=>
      obtain ⟨c,hc⟩:∃c,G y.1=c:=⟨_,rfl⟩
      have hcb:c<=100000*1000+100000:=by
       rw [<-hc];have h1:=q4 y.1;have h2:j*T<=1000*100000:=Nat.mul_le_mul (by omega) hT;omega
      have hnb:n<maxLen:=by
       have h2:j*T<=1000*100000:=Nat.mul_le_mul (by omega) hT;unfold maxLen;omega
      have hlk:(Instr.lookup 198 (.map (some wa.heap.size)) (.int .i64 y.1) false).run Tryz.prog w3= .ok (.int .i64 c) w3:=by
       rw [q13.look m7 Tryz.underlying198 (a5G w3) Hyw.out,q3,hc]
      have c9:w3.cell? ⟨wr.heap.size,0,none⟩=some (.int .i64 y.1):=hm3.cell (Hgp.out 0 _ rfl) (fun h=>h);have hz3:wa.heap.size<w3.heap.size:=by have h1:=hm23.size;have h2:wz.drew.heap.size=wz.heap.size:=rfl;have h3:=Hmwz.out.size;omega
      obtain ⟨HG,Q1,Q2,Q3,Q4,Hm23,Hmp3,Q13,Hstp,Hm3,Hc,Hnb⟩:=zh12 hG q1 q2 q3 q4 hm23 hmp3 q13 hstp hm3 hc hnb;clear hG q1 q2 q3 q4 hm23 hmp3 q13 hstp hm3 hc hnb
      go_wp2_with (first|((with_reducible refine M5 198 (.tmp 39) (.tmp 41) (.tmp 43) ?_);refine ⟨3,3,wa.heap.size,n,f,.int .i64 y.1,Q13.out,m7,Tryz.underlying198,Hnb.out,rfl,Hyw.out, ?_⟩;intro w5 hM' hm';have HM':=Lib.hid hM';have Hm':=Lib.hid hm';clear hM' hm')|fail)
      go_roundw
      case rel=>
       refine ⟨k+1,by go_num,hlt2, ?_,Hm23.out.trans Hm'.out (fun _ _ h=>h)⟩;exact a1K.inc Q2.out Q3.out Q4.out Hc.out HM'.out (fun id=>by rw [Hstp.out];simp)
      case measure=>simp [intOf];omega
    obtain rfl:k=ps.length:=by omega
    rw [List.take_length] at hcn2
    have hcA:a1K wr wa.heap.size ((j+1)*T) (a2n I (L.take (j+1))):=hcn2.cong (by rw [Nat.add_mul,Nat.one_mul];exact Nat.add_le_add_left p2 _) (fun id=>by
     rw [List.take_add_one,Hxj.out,Option.toList_some,a9e,<-P4.out id,List.filter_map,zz10,List.filter_filter];congr 2;congr 1;funext p
     exact Bool.and_comm _ _)
    have hmA:=Hmbz.out.drew.trans hmr2 (fun _ _ h=>h);obtain ⟨Hcn2,HcA,HmA,Hmr2⟩:=zh4 hcn2 hcA hmA hmr2;clear hcn2 hcA hmA hmr2
    go_wp2_with fail
    go_roundw
    case rel=>exact ⟨j+1,by go_num,hlt,HcA.out,HmA.out⟩
    case measure=>simp [intOf];omega
  obtain rfl:j=L.length:=by omega
  rw [List.take_length] at hcn;obtain ⟨ff,hf1,hf2⟩:=Hib.out.fm;have hfA:=hf1.mod hmr (fun h=>by have h':m1=wa.heap.size:=h;omega);have hlow:=H.out.low
  have hso:=a6W hfA (by omega) H.out.nd (fun x=>by
   have h1:=hf2 x;constructor
   ·intro hx;obtain ⟨q,hq⟩:=a5I hx;rw [hq] at h1
    cases hv:ff (.int .i64 x) with
    |some v=>rfl
    |none=>rw [hv] at h1;exact h1.elim
   ·intro hx
    cases hq:q8 I x with
    |some q=>exact List.mem_map_of_mem (T6 hq)
    |none=>
     rw [hq] at h1
     cases hv:ff (.int .i64 x) with
     |none=>rw [hv] at hx;cases hx
     |some v=>rw [hv] at h1;exact h1.elim)
  have cA:wA.cell? ⟨b,0,none⟩=some (.map (some m1)):=d6 (hmr.heap Hib.out.row (fun h=>by have h':b=wa.heap.size:=h;omega)) rfl;obtain ⟨Hcn,Hf1,Hf2,HfA,Hso,Hmr⟩:=zh6 hcn hf1 hf2 hfA hso hmr;clear hcn hf1 hf2 hfA hso hmr
  go_wp2_with fail
  refine (b0U (some m1) wA).mono ?_;rintro e wK ⟨rfl,rfl⟩
  go_wp2_with fail
  refine Hso.out.mono ?_;rintro e w4 ⟨sv,rfl,hso4,hsf,hm4⟩;obtain ⟨ids,hids⟩:∃ids,Y6 (I.map Prod.fst)=ids:=⟨_,rfl⟩;rw [hids,zz10] at hso4;obtain ⟨sa,sc,rfl,hsc⟩:=hso4.shape;have hm4':Mod (fun k=>k=wa.heap.size) wb w4:=(Hmr.out.alloc _).trans (hm4.mono (fun _ _ h=>h.elim)) (fun _ _ h=>h);have hcn4:=(Hcn.out.mod ((Mod.refl (fun _=>False) wA).alloc _) (fun h=>h)).mod hm4 (fun h=>h);have hf4:=(HfA.out.mod ((Mod.refl (fun _=>False) wA).alloc _) (fun h=>h)).mod hm4 (fun h=>h);have hrow4:=hm4'.heap Hib.out.row (fun h=>by have h':b=wa.heap.size:=h;omega);have hge4:=hm4'.heap Hge.out (fun h=>by have h':w.heap.size=wa.heap.size:=h;omega)
  have hidl:ids.length<=100000:=by
   rw [<-hids,show (Y6 (I.map Prod.fst)).length=(I.map Prod.fst).length from (List.mergeSort_perm _ leI).length_eq,zz10];omega
  have hrelC:b4f w4 I es L (.slice none 0 0) (.int .i64 ((0:Nat):Int)) w4:=⟨0,[],none,0,rfl,Nat.zero_le _,rfl,rfl,i7.nil _ _ _,fun k hk=>by simp [Value.ownBlock] at hk,Mod.refl _ _⟩;have hz4:wb.heap.size<=w4.heap.size:=hm4'.size;obtain ⟨Hso4,Hsf,Hm4,Hm4',Hcn4,Hf4,Hrow4,Hge4,Hids,HrelC⟩:=zh10 hso4 hsf hm4 hm4' hcn4 hf4 hrow4 hge4 hids hrelC;clear hso4 hsf hm4 hm4' hcn4 hf4 hrow4 hge4 hids hrelC
  go_wp2_with fail
  go_loopw [10,53] (fun ov i wr=>b4f w4 I es L ov i wr) (fun _ i _=>ids.length - (intOf i).toNat)
  case atStart=>exact HrelC.out
  case round=>
   obtain ⟨j,o,oa,oc,rfl,hj,ho,rfl,hown,hof,hmr2⟩:=hrel;rw [Hids.out] at hj ho;by_cases hlt:j<ids.length
   ·have hlt':(j:Int)<ids.length:=by omega
    obtain ⟨id,hidj⟩:∃id,ids[j]? =some id:=⟨_,zz5 hlt⟩
    have hidm:id∈I.map Prod.fst:=by
     rw [<-a4d,Hids.out];exact zz8 hidj
    obtain ⟨q,hq⟩:=a5I hidm;have hqm:=T6 hq;have hkey:keyOf Tryz.prog 3 (.int .i64 id)=some (.int .i64 id):=Maps.keyOf_int_mk Tryz.underlying3 (H.out.wf _ hqm).1;have hfi:=Hf2.out id;rw [hq] at hfi
    cases hfv:ff (.int .i64 id) with
    |none=>rw [hfv] at hfi;exact hfi.elim
    |some fv=>
     rw [hfv] at hfi;obtain ⟨qa,qc,rfl, -, -⟩:=hfi;obtain ⟨sg,soff,rfl,cid⟩:∃g off,sa=some ⟨g,off,none⟩/\wr.cell? ⟨g,off+j,none⟩=some (.int .i64 id):=a3i (Hso4.out.rd.mod hmr2 (fun _ _ h=>h)) hidj;have cb:wr.cell? ⟨b,0,none⟩=some (.map (some m1)):=d6 (hmr2.heap Hrow4.out (fun h=>h)) rfl
     have hl1:(Instr.lookup 157 (.map (some m1)) (.int .i64 id) false).run Tryz.prog wr= .ok (.agg #[.string q.1,.slice qa q.2.length qc]) wr:=by
      rw [(Hf4.out.mod hmr2 (fun h=>h)).look m7 Tryz.underlying157 (u4 wr) hkey,hfv];rfl
     obtain ⟨wz,hwz,hmwz,hgwz,hzwz⟩:=e8 wr (.cells #[.string q.1,.slice qa q.2.length qc] 33);obtain ⟨n,f,q1,q2,q3,q4⟩:=(Hcn4.out.mod hmr2 (fun h=>h)).mod hmwz (fun h=>h);obtain ⟨c,hc⟩:∃c,a2n I L id=c:=⟨_,rfl⟩
     have hl2:(Instr.lookup 198 (.map (some wa.heap.size)) (.int .i64 id) false).run Tryz.prog wz= .ok (.int .i64 c) wz:=by
      rw [q1.look m7 Tryz.underlying198 (a5G wz) hkey,q3,hc]
     have ce:wz.cell? ⟨w.heap.size,0,none⟩=some (.string es):=d6 ((hmr2.trans hmwz (fun _ _ h=>h)).heap Hge4.out (fun h=>h)) rfl;have cf0:wz.cell? ⟨wr.heap.size,0,none⟩=some (.string q.1):=d6 hgwz rfl;have cf1:wz.cell? ⟨wr.heap.size,1,none⟩=some (.slice qa q.2.length qc):=d6 hgwz rfl;obtain ⟨t,ht⟩:∃t,((c:Int)==(q.2.length:Int))=t:=⟨_,rfl⟩
     have hmb:a5H I es L id=(t&&s6 es q.1):=by
      unfold a5H;rw [hq];simp only [];rw [hc,<-ht];congr 1;rw [Bool.eq_iff_iff,beq_iff_eq,beq_iff_eq];omega
     have hnx:(ids.take (j+1)).filter (a5H I es L)=o++if (t&&s6 es q.1)=true then [id] else []:=by
      rw [List.take_add_one,hidj,List.filter_append,<-ho,Option.toList_some,List.filter_cons,hmb,List.filter_nil]
     have hun:=a0U es q.1 (by omega) (Nat.le_trans (H.out.sc _ hqm) (by decide)) wz;obtain ⟨u,hu⟩:∃u,s6 es q.1=u:=⟨_,rfl⟩;rw [hu] at hun hnx;have hol:o.length<=100000:=by rw [ho];exact Nat.le_trans (List.length_filter_le _ _) (by rw [List.length_take];omega)
     have hmz2:=hmr2.trans hmwz (fun _ _ h=>h);have hoz:=hown.mod hmwz (fun _ _ h=>h);obtain ⟨Ho,Hown,Hof,Hmr2,Hidj,Hidm,Hq,Hqm,Hkey,Hfv,Hwz,Hmwz⟩:=zh12 ho hown hof hmr2 hidj hidm hq hqm hkey hfv hwz hmwz;obtain ⟨Hgwz,Q1,Q2,Q3,Q4,Hc,Hmb,Hnx,Hun,Hmz2,Hoz⟩:=zh11 hgwz q1 q2 q3 q4 hc hmb hnx hun hmz2 hoz;clear ho hown hof hmr2 hidj hidm hq hqm hkey hfv hwz hmwz hgwz q1 q2 q3 q4 hc hmb hnx hun hmz2 hoz hzwz
     cases t with
     |false=>
      have hnx':(ids.take (j+1)).filter (a5H I es L)=o:=by rw [Hnx.out];simp
      have Hnx':=zh hnx';clear hnx'
      go_wp2_with (first|((with_reducible refine d8 33 (.tmp 13) (.tmp 62) ?_);refine ⟨rfl,[.string q.1,.slice qa q.2.length qc],rfl,rfl,by kernel_rfl,rfl, ?_⟩;rw [Hwz.out])|fail)
      go_roundw
      case rel=>exact ⟨j+1,o,oa,oc,by go_num,by rw [Hids.out];exact hlt,by rw [Hids.out];exact Hnx'.out.symm,rfl,Hoz.out,Hof.out,Hmz2.out⟩
      case measure=>simp [intOf];omega
     | true=>
      go_wp2_with (first|((with_reducible refine d8 33 (.tmp 13) (.tmp 62) ?_);refine ⟨rfl,[.string q.1,.slice qa q.2.length qc],rfl,rfl,by kernel_rfl,rfl, ?_⟩;rw [Hwz.out])|fail)
      refine Hun.out.mono ?_;rintro e w5 ⟨rfl,hw5⟩;obtain rfl:=hw5.symm
      cases u with
      |false=>
       have hnx':(ids.take (j+1)).filter (a5H I es L)=o:=by rw [Hnx.out];simp
       have Hnx':=zh hnx';clear hnx'
       go_wp2_with fail
       go_roundw
       case rel=>exact ⟨j+1,o,oa,oc,by go_num,by rw [Hids.out];exact hlt,by rw [Hids.out];exact Hnx'.out.symm,rfl,Hoz.out,Hof.out,Hmz2.out⟩
       case measure=>simp [intOf];omega
      | true=>
       have hnx':(ids.take (j+1)).filter (a5H I es L)=o++[id]:=by rw [Hnx.out];simp
       obtain ⟨wq,hwq,hmwq,hgwq,hzwq⟩:=e8 wz (.cells #[.int .i64 id] 3);have hrq:j0 wq 1 (.slice (some ⟨wz.heap.size,0,none⟩) 1 1) 1 [.int .i64 id]:=hwq▸j0.one wz [.int .i64 id] 3 rfl;have hone:∀v∈([.int .i64 id]:List Value),v.oneCell'=true:=fun v hv=>zz15 (show ([.int .i64 id]:List Value).all (·.oneCell')=true from rfl) v hv;have hoq:=Hoz.out.mod hmwq (fun _ _ h=>h);have hm4q:=Hmz2.out.trans hmwq (fun _ _ h=>h);obtain ⟨Hnx',Hwq,Hmwq,Hrq,Hone,Hoq,Hm4q⟩:=zh7 hnx' hwq hmwq hrq hone hoq hm4q;clear hnx' hwq hmwq hrq hone hoq hm4q hgwq hzwq
       go_wp2_with (first|(rw [show wz.alloc _=wq from Hwq.out])|((with_reducible refine j6 (.tmp 77) (.tmp 79) 23 ?_);refine ⟨rfl,3,1,8,b4B,.slice oa o.length oc,o.length,o.map (Value.int .i64),rfl,Hoq.out,_,1,[.int .i64 id],rfl,Hrq.out,Hone.out,by omega,by unfold maxLen;omega, ?_⟩;intro ad cap5 w5 hA;have HA:=Lib.hid hA;clear hA)|fail)
       go_roundw
       case rel=>
        refine ⟨j+1,o++[id],ad,cap5,by go_num,by rw [Hids.out];exact hlt,by rw [Hids.out];exact Hnx'.out.symm,by rw [zz4];rfl, ?_, ?_, ?_⟩
        ·rw [zz4,List.map_append];exact HA.out.1
        ·intro k hk;rcases HA.out.2.2 with h3|⟨k',h3,h4⟩
         ·exact Hof.out k (h3▸hk)
         rw [h3] at hk;cases hk
         have:=Hm4q.out.size;omega
        exact Hm4q.out.upon HA.out.2.1 (fun k hk=> .inr (Hof.out k hk))
       case measure=>simp [intOf];omega
   obtain rfl:j=ids.length:=by omega
   rw [List.take_length] at ho;have hom:a9f I es L=o:=by unfold a9f;rw [Hids.out,ho]
   have hmE:Mod (fun _=>False) w wr:=(Hm2.out.upon Hm4'.out (fun k hk=> .inr (by have h':k=wa.heap.size:=hk;omega))).trans hmr2 (fun _ _ h=>h);obtain ⟨Ho,Hown,Hof,Hmr2,Hom,HmE⟩:=zh6 ho hown hof hmr2 hom hmE;clear ho hown hof hmr2 hom hmE
   go_wp2_with fail
   go_ret;exact ⟨_,rfl,by rw [Hom.out];exact Hown.out,fun k hk=>by have h1:=Hof.out k hk;have h2:=Hm2.out.size;omega,HmE.out⟩
end
section
open Go.RowKit
theorem a9h (c:Cnd):c.norm.name=c.name:=by unfold Cnd.norm;split<;>rfl
theorem b3i (c:Cnd):c.norm.op=c.op:=by
 unfold Cnd.norm;split
 ·rename_i h;exact h.symm
 rfl
def a0z (f:Fil) (es:ByteArray) (L:List Att):Bool:=s6 es f.1&&f.2.all fun c=>a2z c L
structure Cnd.whole (c:Cnd):Prop where
 op:0<=c.op/\c.op<=7
 kind:0<=c.v.kind/\c.v.kind<=3
 num:c.v.num<2^64
end
section
open Go.RowKit Go.Sort
def L9:List (List UInt8)->List (List UInt8)
 |[]=>[]
 |k::l=>if k∈L9 l then L9 l else k::L9 l
theorem a4e {l:List (List UInt8)} {k:List UInt8}:k∈L9 l↔k∈l:=by
 induction l generalizing k with
 |nil=>exact Iff.rfl
 | cons a l ih=>
  unfold L9;split
  ·rename_i h
   rw [ih,List.mem_cons];exact ⟨.inr,fun h2=>h2.elim (fun e=>by rw [e];exact ih.1 h) id⟩
  rw [List.mem_cons,List.mem_cons,ih]
theorem Y8 (l:List (List UInt8)):(L9 l).Nodup:=by
 induction l with
 |nil=>exact List.nodup_nil
 | cons a l ih=>
  unfold L9;split
  ·exact ih
  rename_i h
  exact List.nodup_cons.2 ⟨h,ih⟩
def V8 (M:List (Int×Fil)) (td:Int) (k:List UInt8):Option Fil:=(M.find? fun p=> !(p.1==td)&&i6 p.2==k).map Prod.snd
def a1L (M:List (Int×Fil)) (td:Int):List (List UInt8):=F9 (L9 ((M.filter fun p=> !(p.1==td)).map fun p=>i6 p.2))
def b06 (f g:Fil):Bool:=b5D f.1 f.2 g.1 g.2
def a5J (g:List UInt8->Option Fil) (ks:List (List UInt8)) (k:List UInt8) (f:Fil):Bool:=
 ks.any fun j=>match g j with|some h=>decide (j≠k)&&(b06 h f&&(decide (j<k)|| !b06 f h))|none=>false
def x6 (M:List (Int×Fil)) (td:Int):List Fil:=(a1L M td).filterMap fun k=>(V8 M td k).filter fun f=> !a5J (V8 M td) (a1L M td) k f
theorem a1M {L:List (List UInt8)} {x:List UInt8}:x∈F9 L↔x∈L:=(List.mergeSort_perm L leB).mem_iff
theorem b07 {L:List (List UInt8)} (h:L.Nodup):(F9 L).Pairwise (· < ·):=by
 have h1:(F9 L).Pairwise (fun a b=>leB a b=true):=by
  unfold F9;refine List.pairwise_mergeSort (fun a b c h1 h2=> ?_) (fun a b=> ?_) L
  ·unfold leB at*;simp only [decide_eq_true_eq] at*;exact List.le_trans h1 h2
  unfold leB;simp only [Bool.or_eq_true,decide_eq_true_eq];exact List.le_total a b
 have h2:(F9 L).Nodup:=(List.mergeSort_perm L leB).nodup_iff.2 h;refine (h1.and h2).imp fun {a b} h=> ?_
 have h3:a<=b:=by
  have:=h.1;unfold leB at this;simpa using this
 exact Classical.byContradiction fun h4=>h.2 (List.le_antisymm h3 h4)
theorem D5 {M:List (Int×Fil)} {td:Int} {k:List UInt8} {q:Fil} (h:V8 M td k=some q):i6 q=k/\∃x,x≠td/\(x,q)∈M:=by
 unfold V8 at h;obtain ⟨p,h1,rfl⟩:=Option.map_eq_some_iff.1 h;have h2:=List.find?_some h1;simp only [Bool.and_eq_true,beq_iff_eq,Bool.not_eq_true',beq_eq_false_iff_ne] at h2;exact ⟨h2.2,p.1,h2.1,List.mem_of_find?_eq_some h1⟩
theorem a5K {M:List (Int×Fil)} {td x:Int} {q:Fil} (h:(x,q)∈M) (hx:x≠td):∃r,V8 M td (i6 q)=some r:=by
 cases h1:V8 M td (i6 q) with
 |some r=>exact ⟨r,rfl⟩
 |none=>
  unfold V8 at h1;rw [Option.map_eq_none_iff,List.find?_eq_none] at h1;have:=h1 _ h;simp [hx] at this
theorem b08 {M:List (Int×Fil)} {td:Int} {k:List UInt8}:k∈a1L M td↔∃q,V8 M td k=some q:=by
 unfold a1L;rw [a1M,a4e];constructor
 ·intro h;obtain ⟨p,h1,rfl⟩:=List.mem_map.1 h;obtain ⟨h1,h2⟩:=List.mem_filter.1 h1;exact a5K (x:=p.1) h1 (by simpa using h2)
 rintro ⟨q,h⟩;obtain ⟨rfl,x,h1,h2⟩:=D5 h;exact List.mem_map.2 ⟨(x,q),List.mem_filter.2 ⟨h2,by simpa using h1⟩,rfl⟩
theorem b3j (M:List (Int×Fil)) (td:Int):(a1L M td).Pairwise (· < ·):=b07 (Y8 _)
theorem b09 {M:List (Int×Fil)} {td:Int} {f:Fil} (h:f∈x6 M td):V8 M td (i6 f)=some f/\a5J (V8 M td) (a1L M td) (i6 f) f=false:=by
 unfold x6 at h;obtain ⟨k,h1,h2⟩:=List.mem_filterMap.1 h;obtain ⟨h3,h4⟩:=Option.filter_eq_some_iff.1 h2;obtain ⟨rfl, -⟩:=D5 h3;exact ⟨h3,by simpa using h4⟩
theorem a8l (M:List (Int×Fil)) (td:Int):(x6 M td).Pairwise fun a b=>i6 a<i6 b:=by
 unfold x6;rw [List.pairwise_filterMap];refine (b3j M td).imp fun {a b} h f hf g hg=> ?_;obtain ⟨h3, -⟩:=Option.filter_eq_some_iff.1 hf;obtain ⟨h4, -⟩:=Option.filter_eq_some_iff.1 hg;rw [(D5 h3).1,(D5 h4).1];exact h
end
end Go.Proofs.YtaenebdppkjhoaaGreatDoor
