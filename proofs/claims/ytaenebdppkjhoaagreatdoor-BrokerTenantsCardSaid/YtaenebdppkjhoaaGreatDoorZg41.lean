/- Lemmas. -/
import Derived.Test.YtaenebdppkjhoaaGreatDoorZg38
namespace Go.Proofs.YtaenebdppkjhoaaGreatDoor
set_option maxRecDepth 20000
set_option maxHeartbeats 40000000
section
open Go.RowKit Go.Sort
structure Tc where
 kind:Int
 id:Int
 f:Fr
def Tc.cells (c:Tc):List Value:=[.int .i64 c.kind,.int .i64 c.id,.string c.f.sc,.slice c.f.a c.f.cs.length c.f.c]
structure b1M (w:World) (v:Value) (l:List Tc):Prop where
 rd:j0 w 4 v l.length (l.flatMap Tc.cells)
 ok:∀c∈l,c.f.ok w/\(-9223372036854775808<=c.id/\c.id<=9223372036854775807)
theorem b1M.mod {w w':World} {v:Value} {l:List Tc} (h:b1M w v l) (hm:Mod (fun _=>False) w w'):b1M w' v l:=⟨h.rd.mod hm (fun _ _ h=>h),fun c hc=>⟨(h.ok c hc).1.mod hm,(h.ok c hc).2⟩⟩
def Tc.right (c:Tc):Bool:=j5 c.f.sc c.f.cs
theorem Tc.fits {w:World} {c:Tc} (h:c.f.ok w) (hr:c.right=true):(c.f.cs.length<20/\c.f.sc.size<=1000000)/\∀d∈c.f.cs,d.fits:=by
 have hb:=K4 (show j5 c.f.sc c.f.cs=true from hr);exact ⟨⟨by omega,by omega⟩,fun d hd=>⟨⟨(h.nm d hd).2.1,(h.nm d hd).2.2,by have:=(hb.2.2 d hd).2.2.2;omega⟩,by have:=(hb.2.2 d hd).1;omega⟩⟩
def b4T (f:Fr):List UInt8:=i6 (f.sc,j2 f.cs)
def a3q (R:List (Int×Fr)) (id:Int) (k:List UInt8):Option Fr:=(R.find? fun p=>p.1==id&&b4T p.2==k).map Prod.snd
def b4U (R:List (Int×Fr)):List (Int×Fil):=R.map fun p=>(p.1,(p.2.sc,j2 p.2.cs))
theorem a9E {R:List (Int×Fr)} {id:Int} {k:List UInt8} {f:Fr} (h:a3q R id k=some f):(id,f)∈R/\b4T f=k:=by
 unfold a3q at h;obtain ⟨p,h1,rfl⟩:=Option.map_eq_some_iff.1 h;have h2:=List.find?_some h1;simp only [Bool.and_eq_true,beq_iff_eq] at h2;obtain ⟨x,q⟩:=p;obtain ⟨rfl,h3⟩:=h2;exact ⟨List.mem_of_find?_eq_some h1,h3⟩
def a4q (w0:World) (R:List (Int×Fr)):Prop:=∀p∈R,p.2.ok w0/\j5 p.2.sc p.2.cs=true/\(-9223372036854775808<=p.1/\p.1<=9223372036854775807)
theorem a4q.inj {w0:World} {R:List (Int×Fr)} (h:a4q w0 R):∀p∈b4U R,∀q∈b4U R,i6 p.2=i6 q.2->p.2=q.2:=fun p hp q hq e=>by
 obtain ⟨a,ha,rfl⟩:=List.mem_map.1 hp;obtain ⟨b,hb,rfl⟩:=List.mem_map.1 hq;exact a52 (h a ha).2.1 (h b hb).2.1 (fun x hx=>((h a ha).1.nm x hx).2.2) (fun x hx=>((h b hb).1.nm x hx).2.2) e
theorem l8.count {w:World} {kt:TypeId} {b n:Nat} {f:Lit->Option Value} (h:l8 w kt b n f) (K:Maps.Keyed Tryz.prog kt) (hk:Tryz.prog.underlying kt=some .string) {L:List (List UInt8)} (hnd:L.Nodup) (hm:∀x,x∈L↔(f (.string x)).isSome=true):n=L.length:=by
 obtain ⟨D,h1,h2,h3⟩:=h.keysS K hk hnd hm;obtain ⟨es,rfl, -⟩:=h1.entries K;have h4:=h2.length_eq;rw [show (strKeys (.map es:DataW Value)).length=es.length from zz10 _] at h4;rw [<-h3,Maps.size_eq,h4]
def RIn (w:World) (g:List UInt8->Option Fr) (mi:Nat):Prop:=∃n f,l8 w 9 mi n f/\∀k,f (.string k)=(g k).map Fr.val
theorem RIn.mod {w w':World} {g:List UInt8->Option Fr} {mi:Nat} {F:Nat->Prop} (h:RIn w g mi) (hm:Mod F w w') (h1:¬F mi):RIn w' g mi:=by
 obtain ⟨n,f,h2,h3⟩:=h;exact ⟨n,f,h2.mod hm h1,h3⟩
theorem RIn.lt {w:World} {g:List UInt8->Option Fr} {mi:Nat} (h:RIn w g mi):mi<w.heap.size:=by
 obtain ⟨n,f,h2, -⟩:=h;exact h2.lt
def a3r (w:World) (om:Nat->Prop) (mm:Nat) (g:List UInt8->Option Fr):Option Value->Prop
 |none=>∀k,g k=none
 |some v=>∃mi,v= .map (some mi)/\om mi/\mi≠mm/\RIn w g mi
theorem a3r.mod {w w':World} {F om:Nat->Prop} {mm:Nat} {g:List UInt8->Option Fr} {v:Option Value} (h:a3r w om mm g v) (hm:Mod F w w') (h1:∀mi,v=some (.map (some mi))->¬F mi):a3r w' om mm g v:=by
 cases v with
 |none=>exact h
 |some v=>
  obtain ⟨mi,rfl,h2,h3,h4⟩:=h;exact ⟨mi,rfl,h2,h3,h4.mod hm (h1 mi rfl)⟩
theorem a3r.cong {w:World} {om om':Nat->Prop} {mm:Nat} {g g':List UInt8->Option Fr} {v:Option Value} (h:a3r w om mm g v) (ho:∀k,om k->om' k) (hg:∀k,g' k=g k):a3r w om' mm g' v:=by
 cases v with
 |none=>exact fun k=>(hg k).trans (h k)
 |some v=>
  obtain ⟨mi,rfl,h2,h3,n,f,h4,h5⟩:=h;exact ⟨mi,rfl,ho _ h2,h3,n,f,h4,fun k=>by rw [hg];exact h5 k⟩
structure U4 (w:World) (mm:Nat) (om:Nat->Prop) (R:List (Int×Fr)) (N:Nat) (n:Nat) (f:Lit->Option Value):Prop where
 mp:l8 w 3 mm n f
 n:n<=N
 at_:∀id:Int,a3r w om mm (a3q R id) (f (.int .i64 id))
 inj:∀(x y:Int) mi,f (.int .i64 x)=some (.map (some mi))->f (.int .i64 y)=some (.map (some mi))->x=y
 ob:om mm
 low:∀k,om k->k<w.heap.size
theorem U4.mod {w w':World} {mm N n:Nat} {om F:Nat->Prop} {R:List (Int×Fr)} {f:Lit->Option Value} (h:U4 w mm om R N n f) (hm:Mod F w w') (hF:∀k,F k->¬om k):U4 w' mm om R N n f:=by
 refine ⟨h.mp.mod hm (fun hf=>hF _ hf h.ob),h.n,fun id=>(h.at_ id).mod hm (fun mi hmi hf=> ?_),h.inj,h.ob,fun k hk=>zz13 (h.low k hk) hm.size⟩;have h1:=h.at_ id;rw [hmi] at h1;obtain ⟨mi',e,h2, -⟩:=h1;cases e
 exact hF _ hf h2
theorem U4.set {w w8:World} {mm N n n8 mi:Nat} {om om':Nat->Prop} {R R':List (Int×Fr)} {f f8:Lit->Option Value} {id:Int} (h:U4 w mm om R N n f) (hm:Mod (fun k=>k=mi\/k=mm) w w8) (hp:l8 w8 3 mm n8 f8) (hn:n8<=N+1)
 (hfid:f8 (.int .i64 id)=some (.map (some mi))) (hfx:∀x:Int,x≠id->f8 (.int .i64 x)=f (.int .i64 x)) (hmi:om' mi/\mi≠mm) (hmx:∀x:Int,x≠id->f (.int .i64 x)≠some (.map (some mi)))
 (ho:∀k,om k->om' k) (ho2:∀k,om' k->om k\/k=mi) (hin:RIn w8 (a3q R' id) mi) (hR:∀x,x≠id->∀k,a3q R' x k=a3q R x k):U4 w8 mm om' R' (N+1) n8 f8:=by
 refine ⟨hp,hn,fun x=> ?_,fun x y m hx hy=> ?_,ho _ h.ob,fun k hk=> ?_⟩
 ·by_cases e:x=id
  ·subst e;rw [hfid];exact ⟨mi,rfl,hmi.1,hmi.2,hin⟩
  rw [hfx x e];refine ((h.at_ x).mod hm (fun m hm' hf=> ?_)).cong ho (hR x e);rcases hf with hf|hf
  ·subst hf;exact hmx x e hm'
  subst hf;have h1:=h.at_ x;rw [hm'] at h1;obtain ⟨m',e', -,h3, -⟩:=h1;cases e'
  exact h3 rfl
 ·by_cases ex:x=id<;>by_cases ey:y=id
  ·rw [ex,ey]
  ·subst ex;rw [hfid] at hx;cases hx
   rw [hfx y ey] at hy;exact absurd hy (hmx y ey)
  ·subst ey;rw [hfid] at hy;cases hy
   rw [hfx x ex] at hx;exact absurd hx (hmx x ex)
  rw [hfx x ex] at hx;rw [hfx y ey] at hy;exact h.inj x y m hx hy
 rcases ho2 k hk with h1|rfl
 ·exact zz13 (h.low k h1) hm.size
 exact hin.lt
theorem U4.put {w w8:World} {mm N n mi:Nat} {om:Nat->Prop} {R R':List (Int×Fr)} {f:Lit->Option Value} {id:Int} (h:U4 w mm om R N n f) (hm:Mod (fun k=>k=mi) w w8) (hfid:f (.int .i64 id)=some (.map (some mi)))
 (hin:RIn w8 (a3q R' id) mi) (hR:∀x,x≠id->∀k,a3q R' x k=a3q R x k):U4 w8 mm om R' N n f:=by
 have hmi:om mi/\mi≠mm:=by
  have h1:=h.at_ id;rw [hfid] at h1;obtain ⟨m',e,h2,h3, -⟩:=h1;cases e
  exact ⟨h2,h3⟩
 refine ⟨h.mp.mod hm (fun e=>hmi.2 e.symm),h.n,fun x=> ?_,h.inj,h.ob,fun k hk=>zz13 (h.low k hk) hm.size⟩;by_cases e:x=id
 ·subst e;rw [hfid];exact ⟨mi,rfl,hmi.1,hmi.2,hin⟩
 exact ((h.at_ x).mod hm (fun m hm' hf=>e (h.inj x id mi (by rw [hm',hf]) hfid))).cong (fun _ h=>h) (hR x e)
theorem RIn.look {w:World} {g:List UInt8->Option Fr} {mi:Nat} (h:RIn w g mi) {k:List UInt8} (hk:k.length<=maxLen):
 ∃s a n c,(Instr.lookup 174 (.map (some mi)) (.string (str k)) true).run Tryz.prog w= .ok (.tuple #[.agg #[.string s,.slice a n c],.bool (g k).isSome]) w/\∀f,g k=some f->s=f.sc/\a=f.a/\n=f.cs.length/\c=f.c:=by
 obtain ⟨n,f,h1,h2⟩:=h;have h3:=h1.look_ok o6 Tryz.underlying174 (Go.Proofs.YtaenebdppkjhoaaGreatDoor.u4 w) (R5 k hk);rw [h2] at h3
 cases hf:g k with
 |none=>rw [hf] at h3;exact ⟨_,_,_,_,h3,fun f h=>by cases h⟩
 |some f=>rw [hf] at h3;exact ⟨_,_,_,_,h3,fun f' h=>by cases h;exact ⟨rfl,rfl,rfl,rfl⟩⟩
structure a7z (w0 w1 w:World) (b mm:Nat) (own C om:Nat->Prop) (R:List (Int×Fr)) (N N2 n:Nat) (f:Lit->Option Value):Prop where
 t:Tab w b own C (b4U R) N
 r:U4 w mm om R N2 n f
 ok:a4q w0 R
 o:∀k,own k->w1.heap.size<=k/\¬om k
 m:∀k,om k->w1.heap.size<=k/\¬C k
 c:∀k,C k->w1.heap.size<=k
theorem a7z.mod {w0 w1 w w':World} {b mm:Nat} {own C om:Nat->Prop} {R:List (Int×Fr)} {N N2 n:Nat} {f:Lit->Option Value} (h:a7z w0 w1 w b mm own C om R N N2 n f) (hm:Mod (fun _=>False) w w'):a7z w0 w1 w' b mm own C om R N N2 n f:=
 ⟨h.t.mod0 hm (fun _ _ h=>h),h.r.mod hm (fun _ h=>h.elim),h.ok,h.o,h.m,h.c⟩
theorem U4.more {w:World} {mm N n:Nat} {om:Nat->Prop} {R:List (Int×Fr)} {f:Lit->Option Value} (h:U4 w mm om R N n f):U4 w mm om R (N+1) n f:=⟨h.mp,Nat.le_succ_of_le h.n,h.at_,h.inj,h.ob,h.low⟩
theorem a4q.sub {w0:World} {R R':List (Int×Fr)} (h:a4q w0 R) (hs:∀p∈R',p∈R):a4q w0 R':=fun p hp=>h p (hs p hp)
theorem b1N (bm:Nat) (w:World):(binOp .eql 174 (.map (some bm)) (.map none)).run Tryz.prog w= .ok (.bool false) w:=by kernel_rfl
theorem b3M (w:World):(binOp .eql 174 (.map none) (.map none)).run Tryz.prog w= .ok (.bool true) w:=by kernel_rfl
attribute [local go_sem] b1N b3M
end
end Go.Proofs.YtaenebdppkjhoaaGreatDoor
