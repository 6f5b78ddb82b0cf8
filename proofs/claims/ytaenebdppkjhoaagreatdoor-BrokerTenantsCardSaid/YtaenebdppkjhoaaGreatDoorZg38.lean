/- Lemmas. -/
import Derived.Test.YtaenebdppkjhoaaGreatDoorZg36
import Derived.Lib.IndexLaws
namespace Go.Proofs.YtaenebdppkjhoaaGreatDoor
set_option maxRecDepth 20000
set_option maxHeartbeats 40000000
section
open Go.RowKit
instance decV:DecidableEq V:=fun a b=>decidable_of_iff (a.kind=b.kind/\a.int=b.int/\a.num=b.num/\a.text=b.text/\a.yes=b.yes) ⟨fun h=>by cases a;cases b;simp_all,fun h=>by cases h;simp⟩
instance decC:DecidableEq Cnd:=fun a b=>decidable_of_iff (a.name=b.name/\a.op=b.op/\a.v=b.v) ⟨fun h=>by cases a;cases b;simp_all,fun h=>by cases h;simp⟩
def asF {α:Type} (M:List (Int×α)) (id:Int):Option α:=(M.find? fun p=>p.1==id).map Prod.snd
def asD {α:Type} (M:List (Int×α)) (id:Int):List (Int×α):=M.filter fun p=> !(p.1==id)
theorem b1z {α:Type} {M:List (Int×α)} {id:Int} {q:α} (h:asF M id=some q):(id,q)∈M:=by
 unfold asF at h;obtain ⟨p,h1,rfl⟩:=Option.map_eq_some_iff.1 h;have h2:=List.find?_some h1;simp only [beq_iff_eq] at h2;subst h2;exact List.mem_of_find?_eq_some h1
theorem a5X {α:Type} {M:List (Int×α)} {id:Int} (h:asF M id=none):id∉M.map Prod.fst:=fun hm=>by
 obtain ⟨p,hp,rfl⟩:=List.mem_map.1 hm;unfold asF at h;rw [Option.map_eq_none_iff,List.find?_eq_none] at h;simpa using h p hp
theorem b3z {α:Type} {M:List (Int×α)} {id:Int} {q:α} (h:asF M id=none) (x:Int):asF (M++[(id,q)]) x=if x=id then some q else asF M x:=by
 unfold asF at h⊢;rw [List.find?_append];by_cases e:x=id
 ·subst e;rw [Option.map_eq_none_iff] at h;rw [h,if_pos rfl];simp
 rw [if_neg e];have:(id==x)=false:=by rw [beq_eq_false_iff_ne];exact fun h=>e h.symm
 cases M.find? fun p=>p.1==x<;>simp [this]
theorem b3A {α:Type} (M:List (Int×α)) (id x:Int):asF (asD M id) x=if x=id then none else asF M x:=by
 unfold asF asD;rw [List.find?_filter];by_cases e:x=id
 ·subst e;rw [if_pos rfl,Option.map_eq_none_iff,List.find?_eq_none];intro p _;cases (p.1==x)<;>simp
 rw [if_neg e];congr 2;funext p;by_cases h:p.1=x
 ·have:(p.1==id)=false:=by rw [beq_eq_false_iff_ne];exact fun h2=>e (h.symm.trans h2)
  rw [this];cases (p.1==x)<;>rfl
 have:(p.1==x)=false:=by rw [beq_eq_false_iff_ne];exact h
 rw [this];cases (!(p.1==id))<;>rfl
theorem a8v {α:Type} (M:List (Int×α)) (id:Int):(asD M id).map Prod.fst=(M.map Prod.fst).filter fun x=> !(x==id):=by
 unfold asD;rw [List.filter_map];rfl
theorem a9v {α:Type} {M:List (Int×α)} (h:(M.map Prod.fst).Nodup) (id:Int):((asD M id).map Prod.fst).Nodup:=by
 rw [a8v];exact h.filter _
theorem b1A {α:Type} {M:List (Int×α)} (h:(M.map Prod.fst).Nodup) {id:Int} {q:α} (hq:asF M id=none):((M++[(id,q)]).map Prod.fst).Nodup:=by
 rw [List.map_append,List.nodup_append];refine ⟨h,by simp,fun a ha b hb e=> ?_⟩;obtain rfl:b=id:=by simpa using hb
 subst e;exact a5X hq ha
theorem b3B {α:Type} {M:List (Int×α)} (h:(M.map Prod.fst).Nodup) {id:Int} (hq:asF M id≠none):(asD M id).length+1=M.length:=by
 have h1:∀(l:List Int),l.Nodup->id∈l->(l.filter fun x=> !(x==id)).length+1=l.length:=fun l=>by
  induction l with
  |nil=>intro _ h;cases h
  | cons a l ih=>
   intro hn hm;rw [List.nodup_cons] at hn;rw [List.filter_cons];by_cases e:a=id
   ·subst e
    have h2:l.filter (fun x=> !(x==a))=l:=List.filter_eq_self.2 fun x hx=>by
     have:x≠a:=fun e=>hn.1 (e▸hx);simp [this]
    simp [h2]
   have h3:id∈l:=(List.mem_cons.1 hm).resolve_left fun h=>e h.symm;have:(!(a==id))=true:=by simp [e]
   rw [if_pos this,zz9,zz9,ih hn.2 h3]
 have h2:id∈M.map Prod.fst:=by
  cases hf:asF M id with
  |none=>exact absurd hf hq
  |some q=>exact List.mem_map_of_mem (f:=Prod.fst) (b1z hf)
 have h3:=h1 _ h h2;rw [<-a8v,zz10,zz10] at h3;exact h3
def a4T (M:List (Int×Fr)):List (Int×Fil):=M.map fun p=>(p.1,(p.2.sc,j2 p.2.cs))
theorem b4P (M:List (Int×Fr)) (id:Int):q8 (a4T M) id=(asF M id).map fun x=>(x.sc,j2 x.cs):=by
 unfold q8 a4T asF;rw [List.find?_map,Option.map_map,Option.map_map];rfl
theorem b1B (M:List (Int×Fr)) (id:Int) (x:Fr):a4T (M++[(id,x)])=a4T M++[(id,(x.sc,j2 x.cs))]:=by
 unfold a4T;rw [List.map_append];rfl
end
section
open Go.ChangeShapes Go.WideShapes Go.ChangeAt Go.RowKit
section
variable {H:Type} {enc:TypeId×Value->H} {W:World}
structure Fr.ok (W:World) (f:Fr):Prop where
 cs:j0 W 7 (.slice f.a f.cs.length f.c) f.cs.length (l6 f.cs)
 sc:f.sc.size<=9223372036854775807/\f.cs.length<=9223372036854775807
 nm:∀c∈f.cs,c.name.size<=9223372036854775807/\(-9223372036854775808<=c.v.int/\c.v.int<=9223372036854775807)/\c.v.num<2^64
end
end
section
open Go.RowKit
structure Cl where
 kind:Int
 id:Int
 f:Fr
 es:ByteArray
 ea:Option Addr
 ec:Nat
 L:List Att
def Cl.cells (c:Cl):List Value:=[.int .i64 c.kind,.int .i64 c.id,.string c.f.sc,.slice c.f.a c.f.cs.length c.f.c,.string c.es,.slice c.ea c.L.length c.ec]
structure Cl.ok (w:World) (c:Cl):Prop where
 f:c.f.ok w
 rd:j0 w 6 (.slice c.ea c.L.length c.ec) c.L.length (j7 c.L)
 id: -9223372036854775808<=c.id/\c.id<=9223372036854775807
 es:c.es.size<=9223372036854775807/\c.L.length<=9223372036854775807
 nm:∀a∈c.L,a.name.size<=9223372036854775807
theorem Fr.ok.mod {w w':World} {f:Fr} (h:f.ok w) (hm:Mod (fun _=>False) w w'):f.ok w':=⟨h.cs.mod hm (fun _ _ h=>h),h.sc,h.nm⟩
theorem Cl.ok.mod {w w':World} {c:Cl} (h:c.ok w) (hm:Mod (fun _=>False) w w'):c.ok w':=⟨h.f.mod hm,h.rd.mod hm (fun _ _ h=>h),h.id,h.es,h.nm⟩
def Fr.val (f:Fr):Value:= .agg #[.string f.sc,.slice f.a f.cs.length f.c]
structure a0L (w0 wb w:World) (b mb:Nat) (own C:Nat->Prop) (M:List (Int×Fr)) (T:Nat):Prop where
 ix:Idx w b own C (a4T M) T
 mp:∃fm,l8 w 3 mb M.length fm/\∀id:Int,fm (.int .i64 id)=(asF M id).map Fr.val
 nd:(M.map Prod.fst).Nodup
 ok:∀p∈M,p.2.ok w0/\j5 p.2.sc p.2.cs=true/\(-9223372036854775808<=p.1/\p.1<=9223372036854775807)
 o:∀k,own k->wb.heap.size<=k/\k≠mb
 c:∀k,C k->wb.heap.size<=k/\k≠mb
 m:wb.heap.size<=mb
theorem a0L.mod {w0 wb w w':World} {b mb:Nat} {own C:Nat->Prop} {M:List (Int×Fr)} {T:Nat} (h:a0L w0 wb w b mb own C M T) (hm:Mod (fun _=>False) w w'):a0L w0 wb w' b mb own C M T:=by
 obtain ⟨fm,h1,h2⟩:=h.mp;exact ⟨h.ix.mod hm (fun _ _ h=>h),⟨fm,h1.mod hm (fun h=>h),h2⟩,h.nd,h.ok,h.o,h.c,h.m⟩
theorem a0L.new {w0 wb w:World} {b mb:Nat} {own:Nat->Prop} (h:Idx w b own (fun _=>False) [] 0) (hm:l8 w 3 mb 0 (fun _=>none)) (ho:∀k,own k->wb.heap.size<=k/\k≠mb) (h1:wb.heap.size<=mb):a0L w0 wb w b mb own (fun _=>False) [] 0:=
 ⟨h,⟨_,hm,fun _=>rfl⟩,List.nodup_nil,fun p hp=>(by cases hp),ho,fun _ h=>h.elim,h1⟩
theorem b5r {n:Int} (h: -9223372036854775808<=n/\n<=9223372036854775807):(Lit.int .i64 n).wf=true:=by
 simp only [Lit.wf,Bool.and_eq_true,decide_eq_true_eq];exact ⟨show (-9223372036854775808:Int)<=n from h.1,show n<=(9223372036854775807:Int) from h.2⟩
theorem a0L.look {w0 wb w:World} {b mb:Nat} {own C:Nat->Prop} {M:List (Int×Fr)} {T:Nat} (h:a0L w0 wb w b mb own C M T) {id:Int} (hid: -9223372036854775808<=id/\id<=9223372036854775807):
 ∃s a n c,(Instr.lookup 157 (.map (some mb)) (.int .i64 id) true).run Tryz.prog w= .ok (.tuple #[.agg #[.string s,.slice a n c],.bool (asF M id).isSome]) w/\∀f,asF M id=some f->s=f.sc/\a=f.a/\n=f.cs.length/\c=f.c:=by
 obtain ⟨fm,h1,h2⟩:=h.mp;have h3:=h1.look_ok m7 Tryz.underlying157 (Go.Proofs.YtaenebdppkjhoaaGreatDoor.u4 w) (Maps.keyOf_int_mk Tryz.underlying3 (b5r hid));rw [h2] at h3
 cases hf:asF M id with
 |none=>
  rw [hf] at h3;exact ⟨_,_,_,_,h3,fun f h=>by cases h⟩
 |some f=>
  rw [hf] at h3;exact ⟨_,_,_,_,h3,fun f' h=>by cases h;exact ⟨rfl,rfl,rfl,rfl⟩⟩
theorem b1C {α:Type} {M:List (Int×α)} {id:Int} (h:asF M id=none):asD M id=M:=by
 unfold asD;refine List.filter_eq_self.2 fun p hp=> ?_;have:p.1≠id:=fun e=>a5X h (e▸List.mem_map_of_mem (f:=Prod.fst) hp);simp [this]
theorem a0L.del {w0 wb w w4 w5:World} {b mb n5:Nat} {own C:Nat->Prop} {M:List (Int×Fr)} {T:Nat} {id:Int} {fm:Lit->Option Value} (h:a0L w0 wb w b mb own C M T) (h2:∀x:Int,fm (.int .i64 x)=(asF M x).map Fr.val) (hix:Idx w4 b own C (a4T (asD M id)) T)
 (h5:l8 w5 3 mb n5 (a2k fm (.int .i64 id))) (hn:n5=if (asF M id).isSome then M.length - 1 else M.length) (hm:Mod (fun k=>k=mb) w4 w5):a0L w0 wb w5 b mb own C (asD M id) T:=by
 refine ⟨hix.mod2 hm (fun k _ hk=>⟨fun ho=>(h.o k ho).2 hk,fun hc=>(h.c k hc).2 hk⟩),⟨a2k fm (.int .i64 id), ?_,fun x=> ?_⟩,a9v h.nd id,fun p hp=>h.ok p (List.mem_filter.1 hp).1,h.o,h.c,h.m⟩
 ·have e:(asD M id).length=n5:=by
   rw [hn]
   cases hf:asF M id with
   |none=>rw [b1C hf];rfl
   |some f=>
    have:=b3B h.nd (id:=id) (by rw [hf];exact fun h=>by cases h);simp only [Option.isSome_some,if_true];omega
  rw [e];exact h5
 rw [b3A];unfold a2k;by_cases e:x=id
 ·rw [if_pos (by rw [e]),if_pos e];rfl
 rw [if_neg (fun h=>e (by cases h;rfl)),if_neg e,h2]
theorem a0L.put {w0 wb w w4 w5:World} {b mb n5:Nat} {own C own' C':Nat->Prop} {M:List (Int×Fr)} {T:Nat} {id:Int} {f:Fr} {fm:Lit->Option Value} (h:a0L w0 wb w b mb own C M T) (hq:asF M id=none) (h2:∀x:Int,fm (.int .i64 x)=(asF M x).map Fr.val)
 (hix:Idx w4 b own' C' (a4T M++[(id,(f.sc,j2 f.cs))]) (T+20)) (ho:∀k,own' k->own k\/w.heap.size<=k) (hC:∀k,C' k->C k\/w.heap.size<=k) (hf:f.ok w0) (hr:j5 f.sc f.cs=true) (hid: -9223372036854775808<=id/\id<=9223372036854775807)
 (h5:l8 w5 3 mb n5 (C0 fm (.int .i64 id) f.val)) (hn:n5=M.length+1) (hm:Mod (fun k=>k=mb) w4 w5) (hb:wb.heap.size<=w.heap.size):a0L w0 wb w5 b mb own' C' (M++[(id,f)]) (T+20):=by
 obtain ⟨fm0,h1, -⟩:=h.mp;have hlt:=h1.lt;have ho':∀k,own' k->wb.heap.size<=k/\k≠mb:=fun k hk=>(ho k hk).elim (h.o k) (fun h=>⟨by omega,by omega⟩);have hC':∀k,C' k->wb.heap.size<=k/\k≠mb:=fun k hk=>(hC k hk).elim (h.c k) (fun h=>⟨by omega,by omega⟩);rw [<-b1B] at hix;refine ⟨hix.mod2 hm (fun k _ hk=>⟨fun h=>(ho' k h).2 hk,fun h=>(hC' k h).2 hk⟩),⟨C0 fm (.int .i64 id) f.val, ?_,fun x=> ?_⟩,b1A h.nd hq,fun p hp=> ?_,ho',hC',h.m⟩
 ·rw [zz4,List.length_singleton,<-hn];exact h5
 ·rw [b3z hq];unfold C0;by_cases e:x=id
  ·rw [if_pos (by rw [e]),if_pos e];rfl
  rw [if_neg (fun h=>e (by cases h;rfl)),if_neg e,h2]
 rcases zz14 hp with hp|hp
 ·exact h.ok p hp
 obtain rfl:p=(id,f):=by simpa using hp
 exact ⟨hf,hr,hid⟩
theorem Idx.nodup {w:World} {b:Nat} {own C:Nat->Prop} {I:List (Int×Fil)} {T:Nat} (h:Idx w b own C I T):(I.map Prod.fst).Nodup:=by
 obtain ⟨m1,m2,h⟩:=h;exact h.nd
theorem a0L.none {w0 wb w:World} {b mb:Nat} {own C:Nat->Prop} {M:List (Int×Fr)} {T:Nat} (_:a0L w0 wb w b mb own C M T) {id:Int}:q8 (a4T M) id=none↔asF M id=none:=by
 rw [b4P];cases asF M id<;>simp
theorem a5Y (x:Nat):m5 (m5 x)=m5 x:=by
 by_cases h1:fEq x x=true
 ·by_cases h2:fEq x 0=true
  ·have e:m5 x=0:=by unfold m5;rw [if_pos h1,if_pos h2]
   rw [e];decide+kernel
  have e:m5 x=x:=by unfold m5;rw [if_pos h1,if_neg h2]
  rw [e,e]
 have e:m5 x=b0G:=by unfold m5;rw [if_neg h1]
 rw [e];decide+kernel
theorem a5Z (v:V):v.canon.canon=v.canon:=by
 by_cases h0:v.kind=0
 ·have e:v.canon={V.zero with kind:=0,int:=v.int}:=by unfold V.canon;rw [if_pos h0]
  rw [e];rfl
 by_cases h1:v.kind=1
 ·have e:v.canon={V.zero with kind:=1,num:=m5 v.num}:=by unfold V.canon;rw [if_neg h0,if_pos h1]
  have e2:∀n:Nat,({V.zero with kind:=1,num:=n}:V).canon={V.zero with kind:=1,num:=m5 n}:=fun n=>rfl;rw [e,e2,a5Y]
 by_cases h2:v.kind=2
 ·have e:v.canon={V.zero with kind:=2,text:=v.text}:=by unfold V.canon;rw [if_neg h0,if_neg h1,if_pos h2]
  rw [e];rfl
 by_cases h3:v.kind=3
 ·have e:v.canon={V.zero with kind:=3,yes:=v.yes}:=by unfold V.canon;rw [if_neg h0,if_neg h1,if_neg h2,if_pos h3]
  rw [e];rfl
 have e:v.canon=V.zero:=by unfold V.canon;rw [if_neg h0,if_neg h1,if_neg h2,if_neg h3]
 rw [e];rfl
theorem a4l (c:Cnd):c.norm.norm=c.norm:=by
 by_cases h:c.op=7
 ·have e:c.norm=⟨c.name,7,V.zero⟩:=by unfold Cnd.norm;rw [if_pos h]
  rw [e];rfl
 have e:c.norm=⟨c.name,c.op,c.v.canon⟩:=by unfold Cnd.norm;rw [if_neg h]
 have e2:(⟨c.name,c.op,c.v.canon⟩:Cnd).norm=⟨c.name,c.op,c.v.canon.canon⟩:=by unfold Cnd.norm;rw [if_neg h]
 rw [e,e2,a5Z]
theorem a4U {v:V} (h:v.right=true):v.canon.right=true:=by
 unfold V.right at h;simp only [Bool.and_eq_true,decide_eq_true_eq] at h;unfold V.canon;split
 ·rfl
 split
 ·rfl
 split
 ·unfold V.right;simp only [Bool.and_eq_true,decide_eq_true_eq];exact ⟨by decide,by decide,h.2.2⟩
 split<;>rfl
theorem a7o {v:V} (h:v.num<2^64):v.canon.num<2^64:=by
 unfold V.canon;split
 ·exact (by decide:(0:Nat)<2^64)
 split
 ·exact a0e h
 split
 ·exact (by decide:(0:Nat)<2^64)
 split<;>exact (by decide:(0:Nat)<2^64)
theorem a9w {c:Cnd} (hr:c.rightB=true) (hn:c.v.num<2^64):c.norm.fine:=by
 unfold Cnd.rightB at hr;simp only [Bool.and_eq_true,decide_eq_true_eq] at hr;obtain ⟨h1,h2,h3,h4⟩:=hr;refine ⟨by rw [a9h];exact h1,by rw [b3i];exact ⟨h2,h3⟩, ?_, ?_,a4l c⟩
 ·unfold Cnd.norm;split
  ·rfl
  exact a4U h4
 unfold Cnd.norm;split
 ·exact (by decide:(0:Nat)<2^64)
 exact a7o hn
theorem a3p {l:List Cnd} {sc:ByteArray} (hr:j5 sc l=true) (hn:∀c∈l,c.v.num<2^64):∀c∈j2 l,c.fine:=fun c hc=>by
 obtain ⟨d,hd,rfl⟩:=a0g (a1I hc);unfold j5 at hr;rw [Bool.and_eq_true,List.all_eq_true] at hr;exact a9w (hr.1 d hd) (hn d hd)
theorem a9x {s:ByteArray} (h:n4 s=true):∀c∈s.data.toList,c≠58:=fun c hc e=>by
 subst e;obtain ⟨k,hk⟩:=List.mem_iff_getElem?.1 hc;rw [N7 hk (by unfold D3;simp)] at h;cases h
theorem a8w {s:ByteArray} {a b k:Nat} {c:UInt8} (hk:s.data.toList[k]? =some c) (h1:a<=k) (h2:k<b):c∈(s.extract a b).data.toList:=by
 rw [ByteArray.data_extract,Array.toList_extract];refine List.mem_iff_getElem?.2 ⟨k - a, ?_⟩;rw [List.extract_eq_take_drop,List.getElem?_take,if_pos (by omega),List.getElem?_drop,show a+(k - a)=k by omega];exact hk
theorem b3C {s:ByteArray} {c:UInt8} (hc:c∈s.data.toList) (h47:c≠47):c∈(r6 s).1.data.toList\/c∈(r6 s).2.1.data.toList:=by
 unfold r6;split
 ·rename_i h0
  obtain ⟨n,hn⟩:∃n,(Lib.indexByte s.data.toList 47).toNat=n:=⟨_,rfl⟩;have h1:=(Lib.indexByte_some (l:=s.data.toList) (c:=47) (o:=n) (by omega)).1;obtain ⟨k,hk⟩:=List.mem_iff_getElem?.1 hc;rw [hn];rcases Nat.lt_trichotomy k n with h|h|h
  ·exact .inl (a8w hk (Nat.zero_le _) h)
  ·subst h;rw [h1] at hk;exact absurd (Option.some.inj hk).symm h47
  have h2:k<s.size:=by
   have:=(zz6 hk).1;rwa [Array.length_toList] at this
  exact .inr (a8w hk h h2)
 exact .inl hc
theorem a50:∀(f:Nat) (s:ByteArray) (k:Nat),scN f s=some k->∀c∈s.data.toList,c≠58
 |0,s,k,h=>by cases h
 |f+1,s,k,h=>fun c hc e=>by
  rw [P6] at h;by_cases h1:n4 (r6 s).1=true
  ·rw [if_pos h1] at h;rcases b3C hc (by rw [e];decide) with h2|h2
   ·exact a9x h1 c h2 e
   by_cases h3:(r6 s).2.2=true
   ·rw [if_pos h3] at h
    cases h4:scN f (r6 s).2.1 with
    |none=>rw [h4] at h;cases h
    |some k'=>exact a50 f _ k' h4 c h2 e
   have h4:(r6 s).2.1=⟨#[]⟩:=by
    unfold r6 at h3⊢;split
    ·rename_i h5;rw [if_pos h5] at h3;exact absurd rfl h3
    rfl
   rw [h4] at h2;cases h2
  rw [if_neg h1] at h;cases h
theorem a1h {s:ByteArray} (h:s5 s=true):∀c∈s.data.toList,c≠58:=by
 unfold s5 at h;rw [Bool.or_eq_true] at h;rcases h with h|h
 ·rw [List.isEmpty_iff,ByteArray.toList_eq] at h;rw [h];intro c hc;cases hc
 unfold scM at h
 cases h1:scN (s.size+1) s with
 |none=>rw [h1] at h;cases h
 |some k=>exact a50 _ _ _ h1
theorem a52 {s t:ByteArray} {l m:List Cnd} (hs:j5 s l=true) (ht:j5 t m=true) (hl:∀c∈l,c.v.num<2^64) (hm:∀c∈m,c.v.num<2^64) (h:i6 (s,j2 l)=i6 (t,j2 m)):((s,j2 l):Fil)=(t,j2 m):=by
 have sc:∀{s:ByteArray} {l:List Cnd},j5 s l=true->s5 s=true:=fun h=>by
  unfold j5 at h;rw [Bool.and_eq_true,Bool.and_eq_true] at h;exact h.2.1
 obtain ⟨h1,h2⟩:=b2X (a1h (sc hs)) (a1h (sc ht)) (a3p hs hl) (a3p ht hm) h;rw [h1,h2]
end
end Go.Proofs.YtaenebdppkjhoaaGreatDoor
