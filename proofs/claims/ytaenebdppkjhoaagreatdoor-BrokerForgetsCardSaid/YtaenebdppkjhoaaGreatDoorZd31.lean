/- Lemmas of this claim. -/
import Derived.Test.YtaenebdppkjhoaaGreatDoorZd28
import Derived.Maps.RangeWalk
import Derived.Test.YtaenebdppkjhoaaGreatDoorZd29
namespace Go.Proofs.YtaenebdppkjhoaaGreatDoor
set_option maxRecDepth 20000
set_option maxHeartbeats 40000000
section
open Go.RowKit Go.Maps Go.Sort
theorem own_row' {w:World} {B sz n:Nat} {e:TypeId} {v:Value} {xs:List Value} (h:w.ownsRow B e sz v n xs):OwnSl w e sz v n xs∧∀k,v.ownBlock=some k→B≤k:=by
 obtain ⟨h1,h2⟩:=h
 rcases h2 with ⟨rfl,rfl⟩|⟨g,cap,cur,rfl,h2,h3,h4,h5,h6,h7⟩
 ·exact ⟨⟨h1,.inl ⟨rfl,rfl⟩⟩,fun k hk=>by simp [Value.ownBlock] at hk⟩
 ·exact ⟨⟨h1,.inr ⟨g,0,cap,cur,rfl,h3,h4,h5,by omega,by simpa using h7⟩⟩,fun k hk=>by simp [Value.ownBlock] at hk;subst hk;exact h2⟩
theorem MapR.keysS {w:World} {kt:TypeId} {b n:Nat} {f:Lit→Option Value} (h:MapR w kt b n f) (K:Maps.Keyed Tryz.prog kt) (hk:Tryz.prog.underlying kt=some .string) {L:List (List UInt8)} (hnd:L.Nodup) (hm:∀x,x∈L↔(f (.string x)).isSome=true):
 ∃D:DataW Value,w.ownsMap Tryz.prog kt rawR b n D∧L.Perm (strKeys D)∧Maps.size D=n:=by
 obtain ⟨D,h1,h2, -,h4⟩:=h
 refine ⟨D,h1, ?_,h2⟩
 obtain ⟨es,hD,hpw,_⟩:=h1.entries K
 obtain ⟨es',hD',hko⟩:=h1.keysOf
 obtain rfl:es=es':=by rw [hD] at hD';simpa using hD'
 subst hD
 exact perm_strKeys hpw (fun p hp=>by obtain ⟨v,hv⟩:=hko p hp;obtain ⟨x,_,hx,_⟩:=Maps.keyOf_str hk hv;exact ⟨x,hx⟩) hnd (fun x=>by rw [hm x,h4])
def riseS (L:List (List UInt8)):List (List UInt8):=L.mergeSort leB
theorem keyed_i:Maps.Keyed Tryz.prog 3:=Maps.int_keyed Tryz.underlying3
theorem keyed_s:Maps.Keyed Tryz.prog 9:=Maps.string_keyed Tryz.underlying9
def SortedPost (w:World) (e:TypeId) (xs:List Value) (x:Ending) (w':World):Prop:=
 ∃v,x= .returned v∧OwnSl w' e 1 v xs.length xs∧(∀k,v.ownBlock=some k→w.heap.size≤k)∧Mod (fun _=>False) w w'
end
section
open Go.RowKit
def pcell (p:Int×Cnd):List Value:= .int .i64 p.1::p.2.cells
def pls (l:List (Int×Cnd)):List Value:=l.flatMap pcell
theorem pls_append (l m:List (Int×Cnd)):pls (l++m)=pls l++pls m:=by unfold pls;rw [List.flatMap_append]
abbrev Fil:=ByteArray×List Cnd
def idxF (I:List (Int×Fil)) (id:Int):Option Fil:=(I.find? fun p=>p.1==id).map Prod.snd
def FilIs (w:World) (own C:Nat→Prop):Option Value→Option Fil→Prop
 |none,none=>True
 |some v,some q=>∃a cap,v= .agg #[.string q.1,.slice a q.2.length cap]∧OwnSl w 132 7 (.slice a q.2.length cap) q.2.length (cnds q.2)∧∀k,(Value.slice a q.2.length cap).ownBlock=some k→k<w.heap.size∧¬own k∧C k
 |_,_=>False
def ofName (q:Option Fil) (nm:ByteArray):List Cnd:=match q with|some q=>q.2.filter fun c=>c.name.data.toList==nm.data.toList|none=>[]
def Plac (w:World) (own:Nat→Prop) (I:List (Int×Fil)) (T:Nat) (nm:ByteArray) (v:Value):Prop:=
 ∃ps:List (Int×Cnd),OwnSl w 181 8 v ps.length (pls ps)∧ps.length≤T∧(∀k,v.ownBlock=some k→own k)∧∀id,(ps.filter fun p=>p.1==id).map Prod.snd=ofName (idxF I id) nm
def Lit.str (nm:ByteArray):Lit:= .string nm.data.toList
def nilS:Value:= .slice none 0 0
def PMap (w:World) (b m1 m2:Nat) (own:Nat→Prop) (I:List (Int×Fil)) (T:Nat):Prop:=
 ∃n f,MapR w 9 m2 n f∧n≤T∧(∀nm:ByteArray,Plac w own I T nm ((f (Lit.str nm)).getD nilS))∧
  (∀nm k,((f (Lit.str nm)).getD nilS).ownBlock=some k→k≠b∧k≠m1∧k≠m2)∧∀nm nm' k,((f (Lit.str nm)).getD nilS).ownBlock=some k→((f (Lit.str nm')).getD nilS).ownBlock=some k→nm=nm'
def FMap (w:World) (m1:Nat) (own C:Nat→Prop) (I:List (Int×Fil)):Prop:=∃f,MapR w 3 m1 I.length f∧∀id:Int,FilIs w own C (f (.int .i64 id)) (idxF I id)
structure IdxAt (w:World) (b m1 m2:Nat) (own C:Nat→Prop) (I:List (Int×Fil)) (T:Nat):Prop where
 row:w.heap[b]? =some (.cells #[.map (some m1),.map (some m2)] 160 (0,0))
 nd:(I.map Prod.fst).Nodup
 ob:own b∧own m1∧own m2
 ne:b≠m1∧b≠m2∧m1≠m2
 fm:FMap w m1 own C I
 pm:PMap w b m1 m2 own I T
 low:I.length≤T
 olow:∀k,own k→k<w.heap.size
 clow:∀k,C k→k<w.heap.size
 wf:∀p∈I,(Lit.int .i64 p.1).wf=true∧p.2.2.length≤19∧∀c∈p.2.2,c.fits
 sc:∀p∈I,p.2.1.size≤1000000
def Idx (w:World) (b:Nat) (own C:Nat→Prop) (I:List (Int×Fil)) (T:Nat):Prop:=∃m1 m2,IdxAt w b m1 m2 own C I T
theorem FilIs.mod {w w':World} {F own C:Nat→Prop} {v:Option Value} {q:Option Fil} (h:FilIs w own C v q) (hm:Mod F w w') (hF:∀k,k<w.heap.size→F k→own k):FilIs w' own C v q:=by
 cases v<;>cases q
 ·trivial
 ·exact h
 ·exact h
 ·obtain ⟨a,cap,h1,h2,h3⟩:=h
  exact ⟨a,cap,h1,h2.mod hm (fun k hk hf=>(h3 k hk).2.1 (hF k (h3 k hk).1 hf)),fun k hk=>⟨Nat.lt_of_lt_of_le (h3 k hk).1 hm.size,(h3 k hk).2⟩⟩
theorem FMap.mod {w w':World} {m1:Nat} {F own C:Nat→Prop} {I:List (Int×Fil)} (h:FMap w m1 own C I) (hm:Mod F w w') (h1:¬F m1) (hF:∀k,k<w.heap.size→F k→own k):FMap w' m1 own C I:=by
 obtain ⟨f,h2,h3⟩:=h
 exact ⟨f,h2.mod hm h1,fun id=>(h3 id).mod hm hF⟩
theorem PMap.mod {w w':World} {b m1 m2:Nat} {F own:Nat→Prop} {I:List (Int×Fil)} {T:Nat} (h:PMap w b m1 m2 own I T) (hm:Mod F w w') (h2:¬F m2) (hF:∀k,own k→k≠b→k≠m1→k≠m2→k<w.heap.size→¬F k):PMap w' b m1 m2 own I T:=by
 obtain ⟨n,f2,g1,g2,g3,g4,g5⟩:=h
 refine ⟨n,f2,g1.mod hm h2,g2,fun nm=> ?_,g4,g5⟩
 obtain ⟨ps,p1,p2,p3,p4⟩:=g3 nm
 exact ⟨ps,p1.mod hm (fun k hk=>hF k (p3 k hk) (g4 nm k hk).1 (g4 nm k hk).2.1 (g4 nm k hk).2.2 (p1.lt k hk)),p2,p3,p4⟩
theorem PMap.cong {w:World} {b m1 m2:Nat} {own own':Nat→Prop} {I I':List (Int×Fil)} {T T':Nat} (h:PMap w b m1 m2 own I T) (ho:∀k,k<w.heap.size→own k→own' k) (hI:∀id nm,ofName (idxF I' id) nm=ofName (idxF I id) nm) (hT:T≤T'):PMap w b m1 m2 own' I' T':=by
 obtain ⟨n,f2,g1,g2,g3,g4,g5⟩:=h
 refine ⟨n,f2,g1,Nat.le_trans g2 hT,fun nm=> ?_,g4,g5⟩
 obtain ⟨ps,p1,p2,p3,p4⟩:=g3 nm
 exact ⟨ps,p1,Nat.le_trans p2 hT,fun k hk=>ho k (p1.lt k hk) (p3 k hk),fun id=>by rw [hI];exact p4 id⟩
theorem IdxAt.mod2 {w w':World} {b m1 m2:Nat} {own C F:Nat→Prop} {I:List (Int×Fil)} {T:Nat} (h:IdxAt w b m1 m2 own C I T) (hm:Mod F w w') (hF:∀k,k<w.heap.size→F k→¬own k∧¬C k):IdxAt w' b m1 m2 own C I T:=by
 have hn:∀k,own k→¬F k:=fun k hk hf=>(hF k (h.olow k hk) hf).1 hk
 refine ⟨hm.heap h.row (hn _ h.ob.1),h.nd,h.ob,h.ne, ?_,h.pm.mod hm (hn _ h.ob.2.2) (fun k hk _ _ _ _=>hn k hk),h.low,fun k hk=>Nat.lt_of_lt_of_le (h.olow k hk) hm.size,fun k hk=>Nat.lt_of_lt_of_le (h.clow k hk) hm.size,h.wf,h.sc⟩
 obtain ⟨f,h1,h2⟩:=h.fm
 refine ⟨f,h1.mod hm (hn _ h.ob.2.1),fun id=> ?_⟩
 have h3:=h2 id
 cases hf:f (.int .i64 id)<;>cases hi:idxF I id<;>rw [hf,hi] at h3
 ·trivial
 ·exact h3
 ·exact h3
 ·obtain ⟨a,cap,e1,e2,e3⟩:=h3
  exact ⟨a,cap,e1,e2.mod hm (fun k hk hf=>(hF k (e3 k hk).1 hf).2 (e3 k hk).2.2),fun k hk=>⟨Nat.lt_of_lt_of_le (e3 k hk).1 hm.size,(e3 k hk).2⟩⟩
theorem Idx.mod2 {w w':World} {b:Nat} {own C F:Nat→Prop} {I:List (Int×Fil)} {T:Nat} (h:Idx w b own C I T) (hm:Mod F w w') (hF:∀k,k<w.heap.size→F k→¬own k∧¬C k):Idx w' b own C I T:=by
 obtain ⟨m1,m2,h⟩:=h
 exact ⟨m1,m2,h.mod2 hm hF⟩
theorem IdxAt.mod {w w':World} {b m1 m2:Nat} {own C F:Nat→Prop} {I:List (Int×Fil)} {T:Nat} (h:IdxAt w b m1 m2 own C I T) (hm:Mod F w w') (hF:∀k,k<w.heap.size→¬F k):IdxAt w' b m1 m2 own C I T:=h.mod2 hm (fun k hk hf=>absurd hf (hF k hk))
theorem Idx.mod {w w':World} {b:Nat} {own C F:Nat→Prop} {I:List (Int×Fil)} {T:Nat} (h:Idx w b own C I T) (hm:Mod F w w') (hF:∀k,k<w.heap.size→¬F k):Idx w' b own C I T:=h.mod2 hm (fun k hk hf=>absurd hf (hF k hk))
theorem Idx.low {w:World} {b:Nat} {own C:Nat→Prop} {I:List (Int×Fil)} {T:Nat} (h:Idx w b own C I T):(∀k,own k→k<w.heap.size)∧∀k,C k→k<w.heap.size:=by
 obtain ⟨m1,m2,h⟩:=h
 exact ⟨h.olow,h.clow⟩
def INewPost (w:World) (e:Ending) (w':World):Prop:=∃b own,e= .returned (.pointer (some ⟨b,0,none⟩))∧Idx w' b own (fun _=>False) [] 0∧(∀k,own k→w.heap.size≤k∧k<w'.heap.size)∧Mod (fun _=>False) w w'
theorem inew_at (w:World):Calls Tryz.prog 43 #[] w (INewPost w):=by
 obtain ⟨wa,hwa,hmwa,hgwa,hzwa⟩:=allocE w (.map #[] 0)
 obtain ⟨wb,hwb,hmwb,hgwb,hzwb⟩:=allocE wa (.map #[] 0)
 obtain ⟨wc,hwc,hmwc,hgwc,hzwc⟩:=allocE wb (.cells #[.map (some w.heap.size),.map (some wa.heap.size)] 160)
 have h1:MapR wc 3 w.heap.size 0 (fun _=>none):=((hwa▸MapR.made w 3:MapR wa 3 w.heap.size 0 (fun _=>none)).mod hmwb (fun h=>h)).mod hmwc (fun h=>h)
 have h2:MapR wc 9 wa.heap.size 0 (fun _=>none):=(hwb▸MapR.made wa 9:MapR wb 9 wa.heap.size 0 (fun _=>none)).mod hmwc (fun h=>h)
 have hi:IdxAt wc wb.heap.size w.heap.size wa.heap.size (fun k=>k=w.heap.size∨k=wa.heap.size∨k=wb.heap.size) (fun _=>False) [] 0:=
  ⟨hgwc,List.nodup_nil,⟨.inr (.inr rfl),.inl rfl,.inr (.inl rfl)⟩,by omega,⟨_,h1,fun _=>trivial⟩,⟨0,_,h2,Nat.le_refl _,fun nm=>⟨[],OwnSl.nil _ _ _,Nat.le_refl _,fun k hk=>by simp [nilS,Value.ownBlock] at hk,fun _=>rfl⟩,
   fun nm k hk=>by simp [nilS,Value.ownBlock] at hk,fun nm nm' k hk=>by simp [nilS,Value.ownBlock] at hk⟩,Nat.le_refl _,fun k hk=>by omega,fun _ h=>h.elim,fun p hp=>(by cases hp),fun p hp=>(by cases hp)⟩
 have hm:Mod (fun _=>False) w wc:=(hmwa.trans hmwb (fun _ _ h=>h)).trans hmwc (fun _ _ h=>h)
 have hz:wb.heap.size=w.heap.size+2∧wa.heap.size=w.heap.size+1∧wc.heap.size=w.heap.size+3:=by omega
 have Hwa:=Lib.hid hwa
 have Hwb:=Lib.hid hwb
 have Hwc:=Lib.hid hwc
 have H1:=Lib.hid h1
 have H2:=Lib.hid h2
 have Hi:=Lib.hid hi
 have Hm:=Lib.hid hm
 have Hgwc:=Lib.hid hgwc
 have Hgwa:=Lib.hid hgwa
 have Hgwb:=Lib.hid hgwb
 have Hz:=Lib.hid hz
 clear hwa hwb hwc h1 h2 hi hm hgwc hgwa hgwb hz hmwa hmwb hmwc hzwa hzwb hzwc
 go_enter Tryz.func43,Tryz.ntmps43
 go_wp2_with (first|(rw [show w.alloc _=wa from Hwa.out])|(rw [show wa.alloc _=wb from Hwb.out])|(rw [show wb.alloc _=wc from Hwc.out])|fail)
 go_ret
 refine ⟨wb.heap.size,_,rfl,⟨_,_,Hi.out⟩,fun k hk=> ?_,Hm.out⟩
 have:=Hz.out
 rcases hk with rfl|rfl|rfl<;>omega
theorem flat_at {α:Type} {f:α→List Value} {sz:Nat} (hf:∀a,(f a).length=sz) (l:List α) {k j:Nat} {a:α} {u:Value} (h:l[k]? =some a) (hj:(f a)[j]? =some u):(l.flatMap f)[k*sz+j]? =some u:=by
 induction l generalizing k with
 |nil=>simp at h
 | cons b l ih=>
  rw [List.flatMap_cons]
  have hl:=(List.getElem?_eq_some_iff.1 hj).1
  cases k with
  |zero=>
   simp only [List.getElem?_cons_zero,Option.some.injEq] at h
   subst h
   rw [List.getElem?_append_left (by omega),Nat.zero_mul,Nat.zero_add,hj]
  |succ k=>
   rw [List.getElem?_cons_succ] at h
   rw [List.getElem?_append_right (by rw [hf,Nat.add_mul];omega),hf,show (k+1)*sz+j - sz=k*sz+j by rw [Nat.add_mul];omega]
   exact ih h
theorem rd_el {α:Type} {f:α→List Value} {sz:Nat} (hf:∀a,(f a).length=sz) {w:World} {a:Option Addr} {cap:Nat} {l:List α} {j:Nat} {x:α} (h:RdSl w sz (.slice a l.length cap) l.length (l.flatMap f)) (hx:l[j]? =some x):∃g off,a=some ⟨g,off,none⟩∧CellsAt w g (off+j*sz) (f x):=by
 obtain ⟨-,a',c',h1, -,h3,h4⟩:=h
 cases h1
 cases a with
 |none=>have:=(List.getElem?_eq_some_iff.1 hx).1;exact absurd (h3 rfl) (by omega)
 |some b=>
  obtain ⟨g',off',h5,h6⟩:=h4 _ rfl (by have:=(List.getElem?_eq_some_iff.1 hx).1;omega)
  refine ⟨g',off',by rw [h5],fun i u hu=> ?_⟩
  have:=h6 (j*sz+i) u (flat_at hf _ hx hu)
  rw [Nat.add_assoc]
  exact this
theorem pl_struct:(match Tryz.prog.underlying 181 with|some (.struct _)=>true|some (.array _ _)=>true|_=>false)=true:=by kernel_rfl
theorem pl_size:(Tryz.prog.info? 181).map (·.size)=some 8:=by kernel_rfl
theorem run_load_pl {ρ:Operand→Value} {dst:Option Tmp} {x:Operand} {type:TypeId} {pos:String} {after:Array Edge} {guard:Option (Nat×Bool)} {w:World} (h:AllV w (ρ x) 8):
 Sem.run Tryz.prog (execOp ρ ⟨dst,.load 181 x,type,pos,after,guard⟩) w= .ok (.value (.agg (cellsV w (ρ x) 8))) w:=run_load_all pl_struct pl_size h
attribute [local go_sem ↓] run_load_pl
end
end Go.Proofs.YtaenebdppkjhoaaGreatDoor
