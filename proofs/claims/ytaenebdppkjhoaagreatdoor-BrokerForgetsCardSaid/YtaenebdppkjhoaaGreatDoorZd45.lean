/- Lemmas of this claim. -/
import Derived.Test.YtaenebdppkjhoaaGreatDoorZd41
import Derived.Lib.IndexLaws
namespace Go.Proofs.YtaenebdppkjhoaaGreatDoor
set_option maxRecDepth 20000
set_option maxHeartbeats 40000000
section
open Go.RowKit
instance decV:DecidableEq V:=fun a b=>decidable_of_iff (a.kind=b.kind∧a.int=b.int∧a.num=b.num∧a.text=b.text∧a.yes=b.yes) ⟨fun h=>by cases a;cases b;simp_all,fun h=>by cases h;simp⟩
instance decC:DecidableEq Cnd:=fun a b=>decidable_of_iff (a.name=b.name∧a.op=b.op∧a.v=b.v) ⟨fun h=>by cases a;cases b;simp_all,fun h=>by cases h;simp⟩
def asF {α:Type} (M:List (Int×α)) (id:Int):Option α:=(M.find? fun p=>p.1==id).map Prod.snd
def asD {α:Type} (M:List (Int×α)) (id:Int):List (Int×α):=M.filter fun p=> !(p.1==id)
theorem asF_some {α:Type} {M:List (Int×α)} {id:Int} {q:α} (h:asF M id=some q):(id,q)∈M:=by
 unfold asF at h
 obtain ⟨p,h1,rfl⟩:=Option.map_eq_some_iff.1 h
 have h2:=List.find?_some h1
 simp only [beq_iff_eq] at h2
 subst h2
 exact List.mem_of_find?_eq_some h1
theorem asF_none {α:Type} {M:List (Int×α)} {id:Int} (h:asF M id=none):id∉M.map Prod.fst:=fun hm=>by
 obtain ⟨p,hp,rfl⟩:=List.mem_map.1 hm
 unfold asF at h
 rw [Option.map_eq_none_iff,List.find?_eq_none] at h
 simpa using h p hp
theorem asF_new {α:Type} {M:List (Int×α)} {id:Int} {q:α} (h:asF M id=none) (x:Int):asF (M++[(id,q)]) x=if x=id then some q else asF M x:=by
 unfold asF at h⊢
 rw [List.find?_append]
 by_cases e:x=id
 ·subst e
  rw [Option.map_eq_none_iff] at h
  rw [h,if_pos rfl]
  simp
 ·rw [if_neg e]
  have:(id==x)=false:=by rw [beq_eq_false_iff_ne];exact fun h=>e h.symm
  cases M.find? fun p=>p.1==x<;>simp [this]
theorem asF_del {α:Type} (M:List (Int×α)) (id x:Int):asF (asD M id) x=if x=id then none else asF M x:=by
 unfold asF asD
 rw [List.find?_filter]
 by_cases e:x=id
 ·subst e
  rw [if_pos rfl,Option.map_eq_none_iff,List.find?_eq_none]
  intro p _
  cases (p.1==x)<;>simp
 ·rw [if_neg e]
  congr 2
  funext p
  by_cases h:p.1=x
  ·have:(p.1==id)=false:=by rw [beq_eq_false_iff_ne];exact fun h2=>e (h.symm.trans h2)
   rw [this]
   cases (p.1==x)<;>rfl
  ·have:(p.1==x)=false:=by rw [beq_eq_false_iff_ne];exact h
   rw [this]
   cases (!(p.1==id))<;>rfl
theorem asD_fst {α:Type} (M:List (Int×α)) (id:Int):(asD M id).map Prod.fst=(M.map Prod.fst).filter fun x=> !(x==id):=by
 unfold asD
 rw [List.filter_map]
 rfl
theorem asD_nodup {α:Type} {M:List (Int×α)} (h:(M.map Prod.fst).Nodup) (id:Int):((asD M id).map Prod.fst).Nodup:=by
 rw [asD_fst]
 exact h.filter _
theorem as_nodup {α:Type} {M:List (Int×α)} (h:(M.map Prod.fst).Nodup) {id:Int} {q:α} (hq:asF M id=none):((M++[(id,q)]).map Prod.fst).Nodup:=by
 rw [List.map_append,List.nodup_append]
 refine ⟨h,by simp,fun a ha b hb e=> ?_⟩
 obtain rfl:b=id:=by simpa using hb
 subst e
 exact asF_none hq ha
theorem asD_len {α:Type} {M:List (Int×α)} (h:(M.map Prod.fst).Nodup) {id:Int} (hq:asF M id≠none):(asD M id).length+1=M.length:=by
 have h1:∀(l:List Int),l.Nodup→id∈l→(l.filter fun x=> !(x==id)).length+1=l.length:=fun l=>by
  induction l with
  |nil=>intro _ h;cases h
  | cons a l ih=>
   intro hn hm
   rw [List.nodup_cons] at hn
   rw [List.filter_cons]
   by_cases e:a=id
   ·subst e
    have h2:l.filter (fun x=> !(x==a))=l:=List.filter_eq_self.2 fun x hx=>by
     have:x≠a:=fun e=>hn.1 (e▸hx)
     simp [this]
    simp [h2]
   ·have h3:id∈l:=(List.mem_cons.1 hm).resolve_left fun h=>e h.symm
    have:(!(a==id))=true:=by simp [e]
    rw [if_pos this,List.length_cons,List.length_cons,ih hn.2 h3]
 have h2:id∈M.map Prod.fst:=by
  cases hf:asF M id with
  |none=>exact absurd hf hq
  |some q=>exact List.mem_map_of_mem (f:=Prod.fst) (asF_some hf)
 have h3:=h1 _ h h2
 rw [←asD_fst,List.length_map,List.length_map] at h3
 exact h3
def runI (M:List (Int×Fr)):List (Int×Fil):=M.map fun p=>(p.1,(p.2.sc,normC p.2.cs))
theorem runI_F (M:List (Int×Fr)) (id:Int):idxF (runI M) id=(asF M id).map fun x=>(x.sc,normC x.cs):=by
 unfold idxF runI asF
 rw [List.find?_map,Option.map_map,Option.map_map]
 rfl
theorem runI_put (M:List (Int×Fr)) (id:Int) (x:Fr):runI (M++[(id,x)])=runI M++[(id,(x.sc,normC x.cs))]:=by
 unfold runI
 rw [List.map_append]
 rfl
end
section
open Go.ChangeShapes Go.WideShapes Go.ChangeAt Go.RowKit
section
variable {H:Type} {enc:TypeId×Value→H} {W:World}
structure Fr.ok (W:World) (f:Fr):Prop where
 cs:RdSl W 7 (.slice f.a f.cs.length f.c) f.cs.length (cnds f.cs)
 sc:f.sc.size≤9223372036854775807∧f.cs.length≤9223372036854775807
 nm:∀c∈f.cs,c.name.size≤9223372036854775807∧(-9223372036854775808≤c.v.int∧c.v.int≤9223372036854775807)∧c.v.num<2^64
end
end
section
open Go.RowKit
structure Cl where
 kind:Int
 id:Int
 f:Fr
 es:ByteArray
 ea:Option Addr
 ec:Nat
 L:List Att
def Cl.cells (c:Cl):List Value:=[.int .i64 c.kind,.int .i64 c.id,.string c.f.sc,.slice c.f.a c.f.cs.length c.f.c,.string c.es,.slice c.ea c.L.length c.ec]
structure Cl.ok (w:World) (c:Cl):Prop where
 f:c.f.ok w
 rd:RdSl w 6 (.slice c.ea c.L.length c.ec) c.L.length (atts c.L)
 id: -9223372036854775808≤c.id∧c.id≤9223372036854775807
 es:c.es.size≤9223372036854775807∧c.L.length≤9223372036854775807
 nm:∀a∈c.L,a.name.size≤9223372036854775807
theorem Fr.ok.mod {w w':World} {f:Fr} (h:f.ok w) (hm:Mod (fun _=>False) w w'):f.ok w':=⟨h.cs.mod hm (fun _ _ h=>h),h.sc,h.nm⟩
theorem Cl.ok.mod {w w':World} {c:Cl} (h:c.ok w) (hm:Mod (fun _=>False) w w'):c.ok w':=⟨h.f.mod hm,h.rd.mod hm (fun _ _ h=>h),h.id,h.es,h.nm⟩
def Fr.val (f:Fr):Value:= .agg #[.string f.sc,.slice f.a f.cs.length f.c]
structure Runs (w0 wb w:World) (b mb:Nat) (own C:Nat→Prop) (M:List (Int×Fr)) (T:Nat):Prop where
 ix:Idx w b own C (runI M) T
 mp:∃fm,MapR w 3 mb M.length fm∧∀id:Int,fm (.int .i64 id)=(asF M id).map Fr.val
 nd:(M.map Prod.fst).Nodup
 ok:∀p∈M,p.2.ok w0∧filRight p.2.sc p.2.cs=true∧(-9223372036854775808≤p.1∧p.1≤9223372036854775807)
 o:∀k,own k→wb.heap.size≤k∧k≠mb
 c:∀k,C k→wb.heap.size≤k∧k≠mb
 m:wb.heap.size≤mb
theorem Runs.mod {w0 wb w w':World} {b mb:Nat} {own C:Nat→Prop} {M:List (Int×Fr)} {T:Nat} (h:Runs w0 wb w b mb own C M T) (hm:Mod (fun _=>False) w w'):Runs w0 wb w' b mb own C M T:=by
 obtain ⟨fm,h1,h2⟩:=h.mp
 exact ⟨h.ix.mod hm (fun _ _ h=>h),⟨fm,h1.mod hm (fun h=>h),h2⟩,h.nd,h.ok,h.o,h.c,h.m⟩
theorem Runs.new {w0 wb w:World} {b mb:Nat} {own:Nat→Prop} (h:Idx w b own (fun _=>False) [] 0) (hm:MapR w 3 mb 0 (fun _=>none)) (ho:∀k,own k→wb.heap.size≤k∧k≠mb) (h1:wb.heap.size≤mb):Runs w0 wb w b mb own (fun _=>False) [] 0:=
 ⟨h,⟨_,hm,fun _=>rfl⟩,List.nodup_nil,fun p hp=>(by cases hp),ho,fun _ h=>h.elim,h1⟩
theorem id_wf {n:Int} (h: -9223372036854775808≤n∧n≤9223372036854775807):(Lit.int .i64 n).wf=true:=by
 simp only [Lit.wf,Bool.and_eq_true,decide_eq_true_eq]
 exact ⟨show (-9223372036854775808:Int)≤n from h.1,show n≤(9223372036854775807:Int) from h.2⟩
theorem Runs.look {w0 wb w:World} {b mb:Nat} {own C:Nat→Prop} {M:List (Int×Fr)} {T:Nat} (h:Runs w0 wb w b mb own C M T) {id:Int} (hid: -9223372036854775808≤id∧id≤9223372036854775807):
 ∃s a n c,(Instr.lookup 157 (.map (some mb)) (.int .i64 id) true).run Tryz.prog w= .ok (.tuple #[.agg #[.string s,.slice a n c],.bool (asF M id).isSome]) w∧∀f,asF M id=some f→s=f.sc∧a=f.a∧n=f.cs.length∧c=f.c:=by
 obtain ⟨fm,h1,h2⟩:=h.mp
 have h3:=h1.look_ok keyed_i Tryz.underlying157 (zero_fil w) (Maps.keyOf_int_mk Tryz.underlying3 (id_wf hid))
 rw [h2] at h3
 cases hf:asF M id with
 |none=>
  rw [hf] at h3
  exact ⟨_,_,_,_,h3,fun f h=>by cases h⟩
 |some f=>
  rw [hf] at h3
  exact ⟨_,_,_,_,h3,fun f' h=>by cases h;exact ⟨rfl,rfl,rfl,rfl⟩⟩
theorem asD_none {α:Type} {M:List (Int×α)} {id:Int} (h:asF M id=none):asD M id=M:=by
 unfold asD
 refine List.filter_eq_self.2 fun p hp=> ?_
 have:p.1≠id:=fun e=>asF_none h (e▸List.mem_map_of_mem (f:=Prod.fst) hp)
 simp [this]
theorem Runs.del {w0 wb w w4 w5:World} {b mb n5:Nat} {own C:Nat→Prop} {M:List (Int×Fr)} {T:Nat} {id:Int} {fm:Lit→Option Value} (h:Runs w0 wb w b mb own C M T) (h2:∀x:Int,fm (.int .i64 x)=(asF M x).map Fr.val) (hix:Idx w4 b own C (runI (asD M id)) T)
 (h5:MapR w5 3 mb n5 (delF fm (.int .i64 id))) (hn:n5=if (asF M id).isSome then M.length - 1 else M.length) (hm:Mod (fun k=>k=mb) w4 w5):Runs w0 wb w5 b mb own C (asD M id) T:=by
 refine ⟨hix.mod2 hm (fun k _ hk=>⟨fun ho=>(h.o k ho).2 hk,fun hc=>(h.c k hc).2 hk⟩),⟨delF fm (.int .i64 id), ?_,fun x=> ?_⟩,asD_nodup h.nd id,fun p hp=>h.ok p (List.mem_filter.1 hp).1,h.o,h.c,h.m⟩
 ·have e:(asD M id).length=n5:=by
   rw [hn]
   cases hf:asF M id with
   |none=>rw [asD_none hf];rfl
   |some f=>
    have:=asD_len h.nd (id:=id) (by rw [hf];exact fun h=>by cases h)
    simp only [Option.isSome_some,if_true]
    omega
  rw [e]
  exact h5
 ·rw [asF_del]
  unfold delF
  by_cases e:x=id
  ·rw [if_pos (by rw [e]),if_pos e];rfl
  ·rw [if_neg (fun h=>e (by cases h;rfl)),if_neg e,h2]
theorem Runs.put {w0 wb w w4 w5:World} {b mb n5:Nat} {own C own' C':Nat→Prop} {M:List (Int×Fr)} {T:Nat} {id:Int} {f:Fr} {fm:Lit→Option Value} (h:Runs w0 wb w b mb own C M T) (hq:asF M id=none) (h2:∀x:Int,fm (.int .i64 x)=(asF M x).map Fr.val)
 (hix:Idx w4 b own' C' (runI M++[(id,(f.sc,normC f.cs))]) (T+20)) (ho:∀k,own' k→own k∨w.heap.size≤k) (hC:∀k,C' k→C k∨w.heap.size≤k) (hf:f.ok w0) (hr:filRight f.sc f.cs=true) (hid: -9223372036854775808≤id∧id≤9223372036854775807)
 (h5:MapR w5 3 mb n5 (putF fm (.int .i64 id) f.val)) (hn:n5=M.length+1) (hm:Mod (fun k=>k=mb) w4 w5) (hb:wb.heap.size≤w.heap.size):Runs w0 wb w5 b mb own' C' (M++[(id,f)]) (T+20):=by
 obtain ⟨fm0,h1, -⟩:=h.mp
 have hlt:=h1.lt
 have ho':∀k,own' k→wb.heap.size≤k∧k≠mb:=fun k hk=>(ho k hk).elim (h.o k) (fun h=>⟨by omega,by omega⟩)
 have hC':∀k,C' k→wb.heap.size≤k∧k≠mb:=fun k hk=>(hC k hk).elim (h.c k) (fun h=>⟨by omega,by omega⟩)
 rw [←runI_put] at hix
 refine ⟨hix.mod2 hm (fun k _ hk=>⟨fun h=>(ho' k h).2 hk,fun h=>(hC' k h).2 hk⟩),⟨putF fm (.int .i64 id) f.val, ?_,fun x=> ?_⟩,as_nodup h.nd hq,fun p hp=> ?_,ho',hC',h.m⟩
 ·rw [List.length_append,List.length_singleton,←hn]
  exact h5
 ·rw [asF_new hq]
  unfold putF
  by_cases e:x=id
  ·rw [if_pos (by rw [e]),if_pos e];rfl
  ·rw [if_neg (fun h=>e (by cases h;rfl)),if_neg e,h2]
 ·rcases List.mem_append.1 hp with hp|hp
  ·exact h.ok p hp
  ·obtain rfl:p=(id,f):=by simpa using hp
   exact ⟨hf,hr,hid⟩
theorem Idx.nodup {w:World} {b:Nat} {own C:Nat→Prop} {I:List (Int×Fil)} {T:Nat} (h:Idx w b own C I T):(I.map Prod.fst).Nodup:=by
 obtain ⟨m1,m2,h⟩:=h
 exact h.nd
theorem Runs.none {w0 wb w:World} {b mb:Nat} {own C:Nat→Prop} {M:List (Int×Fr)} {T:Nat} (_:Runs w0 wb w b mb own C M T) {id:Int}:idxF (runI M) id=none↔asF M id=none:=by
 rw [runI_F]
 cases asF M id<;>simp
theorem allQ_nil (id:Int):allQ [] id=[]:=by
 unfold allQ keysL
 rw [show riseS ((([]:List (Int×Fil)).filter fun p=>p.1==id).map fun p=>keyF p.2)=[] from List.mergeSort_nil]
 rfl
theorem canonB_idem (x:Nat):canonB (canonB x)=canonB x:=by
 by_cases h1:fEq x x=true
 ·by_cases h2:fEq x 0=true
  ·have e:canonB x=0:=by unfold canonB;rw [if_pos h1,if_pos h2]
   rw [e];decide+kernel
  ·have e:canonB x=x:=by unfold canonB;rw [if_pos h1,if_neg h2]
   rw [e,e]
 ·have e:canonB x=nanB:=by unfold canonB;rw [if_neg h1]
  rw [e];decide+kernel
theorem vcanon_idem (v:V):v.canon.canon=v.canon:=by
 by_cases h0:v.kind=0
 ·have e:v.canon={V.zero with kind:=0,int:=v.int}:=by unfold V.canon;rw [if_pos h0]
  rw [e];rfl
 ·by_cases h1:v.kind=1
  ·have e:v.canon={V.zero with kind:=1,num:=canonB v.num}:=by unfold V.canon;rw [if_neg h0,if_pos h1]
   have e2:∀n:Nat,({V.zero with kind:=1,num:=n}:V).canon={V.zero with kind:=1,num:=canonB n}:=fun n=>rfl
   rw [e,e2,canonB_idem]
  ·by_cases h2:v.kind=2
   ·have e:v.canon={V.zero with kind:=2,text:=v.text}:=by unfold V.canon;rw [if_neg h0,if_neg h1,if_pos h2]
    rw [e];rfl
   ·by_cases h3:v.kind=3
    ·have e:v.canon={V.zero with kind:=3,yes:=v.yes}:=by unfold V.canon;rw [if_neg h0,if_neg h1,if_neg h2,if_pos h3]
     rw [e];rfl
    ·have e:v.canon=V.zero:=by unfold V.canon;rw [if_neg h0,if_neg h1,if_neg h2,if_neg h3]
     rw [e];rfl
theorem norm_idem (c:Cnd):c.norm.norm=c.norm:=by
 by_cases h:c.op=7
 ·have e:c.norm=⟨c.name,7,V.zero⟩:=by unfold Cnd.norm;rw [if_pos h]
  rw [e];rfl
 ·have e:c.norm=⟨c.name,c.op,c.v.canon⟩:=by unfold Cnd.norm;rw [if_neg h]
  have e2:(⟨c.name,c.op,c.v.canon⟩:Cnd).norm=⟨c.name,c.op,c.v.canon.canon⟩:=by unfold Cnd.norm;rw [if_neg h]
  rw [e,e2,vcanon_idem]
theorem vcanon_right {v:V} (h:v.right=true):v.canon.right=true:=by
 unfold V.right at h
 simp only [Bool.and_eq_true,decide_eq_true_eq] at h
 unfold V.canon
 split
 ·rfl
 ·split
  ·rfl
  ·split
   ·unfold V.right
    simp only [Bool.and_eq_true,decide_eq_true_eq]
    exact ⟨by decide,by decide,h.2.2⟩
   ·split<;>rfl
theorem vcanon_num {v:V} (h:v.num<2^64):v.canon.num<2^64:=by
 unfold V.canon
 split
 ·exact (by decide:(0:Nat)<2^64)
 ·split
  ·exact canonB_lt h
  ·split
   ·exact (by decide:(0:Nat)<2^64)
   ·split<;>exact (by decide:(0:Nat)<2^64)
theorem norm_fine {c:Cnd} (hr:c.rightB=true) (hn:c.v.num<2^64):c.norm.fine:=by
 unfold Cnd.rightB at hr
 simp only [Bool.and_eq_true,decide_eq_true_eq] at hr
 obtain ⟨h1,h2,h3,h4⟩:=hr
 refine ⟨by rw [norm_name];exact h1,by rw [norm_op];exact ⟨h2,h3⟩, ?_, ?_,norm_idem c⟩
 ·unfold Cnd.norm
  split
  ·rfl
  ·exact vcanon_right h4
 ·unfold Cnd.norm
  split
  ·exact (by decide:(0:Nat)<2^64)
  ·exact vcanon_num hn
theorem normC_fine {l:List Cnd} {sc:ByteArray} (hr:filRight sc l=true) (hn:∀c∈l,c.v.num<2^64):∀c∈normC l,c.fine:=fun c hc=>by
 obtain ⟨d,hd,rfl⟩:=sortC_mem (normC_mem hc)
 unfold filRight at hr
 rw [Bool.and_eq_true,List.all_eq_true] at hr
 exact norm_fine (hr.1 d hd) (hn d hd)
theorem name_no58 {s:ByteArray} (h:isName s=true):∀c∈s.data.toList,c≠58:=fun c hc e=>by
 subst e
 obtain ⟨k,hk⟩:=List.mem_iff_getElem?.1 hc
 rw [isName_no hk (by unfold nameAt;simp)] at h
 cases h
theorem ext_mem {s:ByteArray} {a b k:Nat} {c:UInt8} (hk:s.data.toList[k]? =some c) (h1:a≤k) (h2:k<b):c∈(s.extract a b).data.toList:=by
 rw [ByteArray.data_extract,Array.toList_extract]
 refine List.mem_iff_getElem?.2 ⟨k - a, ?_⟩
 rw [List.extract_eq_take_drop,List.getElem?_take,if_pos (by omega),List.getElem?_drop,show a+(k - a)=k by omega]
 exact hk
theorem cut_mem {s:ByteArray} {c:UInt8} (hc:c∈s.data.toList) (h47:c≠47):c∈(cutS s).1.data.toList∨c∈(cutS s).2.1.data.toList:=by
 unfold cutS
 split
 ·rename_i h0
  obtain ⟨n,hn⟩:∃n,(Lib.indexByte s.data.toList 47).toNat=n:=⟨_,rfl⟩
  have h1:=(Lib.indexByte_some (l:=s.data.toList) (c:=47) (o:=n) (by omega)).1
  obtain ⟨k,hk⟩:=List.mem_iff_getElem?.1 hc
  rw [hn]
  rcases Nat.lt_trichotomy k n with h|h|h
  ·exact .inl (ext_mem hk (Nat.zero_le _) h)
  ·subst h
   rw [h1] at hk
   exact absurd (Option.some.inj hk).symm h47
  ·have h2:k<s.size:=by
    have:=(List.getElem?_eq_some_iff.1 hk).1
    rwa [Array.length_toList] at this
   exact .inr (ext_mem hk h h2)
 ·exact .inl hc
theorem scN_no58:∀(f:Nat) (s:ByteArray) (k:Nat),scN f s=some k→∀c∈s.data.toList,c≠58
 |0,s,k,h=>by cases h
 |f+1,s,k,h=>fun c hc e=>by
  rw [scN_succ] at h
  by_cases h1:isName (cutS s).1=true
  ·rw [if_pos h1] at h
   rcases cut_mem hc (by rw [e];decide) with h2|h2
   ·exact name_no58 h1 c h2 e
   ·by_cases h3:(cutS s).2.2=true
    ·rw [if_pos h3] at h
     cases h4:scN f (cutS s).2.1 with
     |none=>rw [h4] at h;cases h
     |some k'=>exact scN_no58 f _ k' h4 c h2 e
    ·have h4:(cutS s).2.1=⟨#[]⟩:=by
      unfold cutS at h3⊢
      split
      ·rename_i h5;rw [if_pos h5] at h3;exact absurd rfl h3
      ·rfl
     rw [h4] at h2
     cases h2
  ·rw [if_neg h1] at h;cases h
theorem scRight_no58 {s:ByteArray} (h:scRight s=true):∀c∈s.data.toList,c≠58:=by
 unfold scRight at h
 rw [Bool.or_eq_true] at h
 rcases h with h|h
 ·rw [List.isEmpty_iff,ByteArray.toList_eq] at h
  rw [h]
  intro c hc
  cases hc
 ·unfold scM at h
  cases h1:scN (s.size+1) s with
  |none=>rw [h1] at h;cases h
  |some k=>exact scN_no58 _ _ _ h1
theorem keyF_inj {s t:ByteArray} {l m:List Cnd} (hs:filRight s l=true) (ht:filRight t m=true) (hl:∀c∈l,c.v.num<2^64) (hm:∀c∈m,c.v.num<2^64) (h:keyF (s,normC l)=keyF (t,normC m)):((s,normC l):Fil)=(t,normC m):=by
 have sc:∀{s:ByteArray} {l:List Cnd},filRight s l=true→scRight s=true:=fun h=>by
  unfold filRight at h
  rw [Bool.and_eq_true,Bool.and_eq_true] at h
  exact h.2.1
 obtain ⟨h1,h2⟩:=fil_inj (scRight_no58 (sc hs)) (scRight_no58 (sc ht)) (normC_fine hs hl) (normC_fine ht hm) h
 rw [h1,h2]
end
section
open Go.RowKit Go.Sort
structure Tc where
 kind:Int
 id:Int
 f:Fr
def Tc.cells (c:Tc):List Value:=[.int .i64 c.kind,.int .i64 c.id,.string c.f.sc,.slice c.f.a c.f.cs.length c.f.c]
structure TcsAt (w:World) (v:Value) (l:List Tc):Prop where
 rd:RdSl w 4 v l.length (l.flatMap Tc.cells)
 ok:∀c∈l,c.f.ok w∧(-9223372036854775808≤c.id∧c.id≤9223372036854775807)
theorem TcsAt.mod {w w':World} {v:Value} {l:List Tc} (h:TcsAt w v l) (hm:Mod (fun _=>False) w w'):TcsAt w' v l:=⟨h.rd.mod hm (fun _ _ h=>h),fun c hc=>⟨(h.ok c hc).1.mod hm,(h.ok c hc).2⟩⟩
def Tc.right (c:Tc):Bool:=filRight c.f.sc c.f.cs
theorem Tc.fits {w:World} {c:Tc} (h:c.f.ok w) (hr:c.right=true):(c.f.cs.length<20∧c.f.sc.size≤1000000)∧∀d∈c.f.cs,d.fits:=by
 have hb:=fil_bounds (show filRight c.f.sc c.f.cs=true from hr)
 exact ⟨⟨by omega,by omega⟩,fun d hd=>⟨⟨(h.nm d hd).2.1,(h.nm d hd).2.2,by have:=(hb.2.2 d hd).2.2.2;omega⟩,by have:=(hb.2.2 d hd).1;omega⟩⟩
def keyR (f:Fr):List UInt8:=keyF (f.sc,normC f.cs)
def refF (R:List (Int×Fr)) (id:Int) (k:List UInt8):Option Fr:=(R.find? fun p=>p.1==id&&keyR p.2==k).map Prod.snd
def refM (R:List (Int×Fr)):List (Int×Fil):=R.map fun p=>(p.1,(p.2.sc,normC p.2.cs))
theorem refF_some {R:List (Int×Fr)} {id:Int} {k:List UInt8} {f:Fr} (h:refF R id k=some f):(id,f)∈R∧keyR f=k:=by
 unfold refF at h
 obtain ⟨p,h1,rfl⟩:=Option.map_eq_some_iff.1 h
 have h2:=List.find?_some h1
 simp only [Bool.and_eq_true,beq_iff_eq] at h2
 obtain ⟨x,q⟩:=p
 obtain ⟨rfl,h3⟩:=h2
 exact ⟨List.mem_of_find?_eq_some h1,h3⟩
def RefOk (w0:World) (R:List (Int×Fr)):Prop:=∀p∈R,p.2.ok w0∧filRight p.2.sc p.2.cs=true∧(-9223372036854775808≤p.1∧p.1≤9223372036854775807)
theorem RefOk.inj {w0:World} {R:List (Int×Fr)} (h:RefOk w0 R):∀p∈refM R,∀q∈refM R,keyF p.2=keyF q.2→p.2=q.2:=fun p hp q hq e=>by
 obtain ⟨a,ha,rfl⟩:=List.mem_map.1 hp
 obtain ⟨b,hb,rfl⟩:=List.mem_map.1 hq
 exact keyF_inj (h a ha).2.1 (h b hb).2.1 (fun x hx=>((h a ha).1.nm x hx).2.2) (fun x hx=>((h b hb).1.nm x hx).2.2) e
end
end Go.Proofs.YtaenebdppkjhoaaGreatDoor
