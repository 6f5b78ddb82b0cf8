/- Lemmas. -/
import Derived.Test.YtebhabpahfmodaaGreatDoorZh21
import Derived.Maps.RangeWalk
import Derived.Test.YtebhabpahfmodaaGreatDoorZh22
set_option maxHeartbeats 40000000
set_option maxRecDepth 20000
namespace Go.Proofs.YtebhabpahfmodaaGreatDoor
section
open Go.RowKit Go.Maps Go.Sort
theorem a6C {w:World} {B sz n:Nat} {e:TypeId} {v:Value} {xs:List Value} (h:w.ownsRow B e sz v n xs):j2 w e sz v n xs/\∀k,v.ownBlock=some k->B<=k:=by
 obtain ⟨h1,h2⟩:=h;rcases h2 with ⟨rfl,rfl⟩|⟨g,cap,cur,rfl,h2,h3,h4,h5,h6,h7⟩
 ·exact ⟨⟨h1,.inl ⟨rfl,rfl⟩⟩,fun k hk=>by simp [Value.ownBlock] at hk⟩
 exact ⟨⟨h1,.inr ⟨g,0,cap,cur,rfl,h3,h4,h5,zo,by simpa using h7⟩⟩,fun k hk=>by simp [Value.ownBlock] at hk;subst hk;exact h2⟩
theorem p6.keysI {w:World} {kt:TypeId} {b n:Nat} {f:Lit->Option Value} (h:p6 w kt b n f) (K:Maps.Keyed Tryz.prog kt) (hk:Tryz.prog.underlying kt=some (.int .i64)) {L:List Int} (hnd:L.Nodup) (hm:∀x,x∈L↔(f (.int .i64 x)).isSome=true):
 ∃D:DataW Value,w.ownsMap Tryz.prog kt a3a b n D/\L.Perm (intKeys D)/\Maps.size D=n:=by
 obtain ⟨D,h1,h2, -,h4⟩:=h;refine ⟨D,h1, ?_,h2⟩;obtain ⟨es,hD,hpw,_⟩:=h1.entries K;obtain ⟨es',hD',hko⟩:=h1.keysOf;obtain rfl:es=es':=by rw [hD] at hD';simpa using hD'
 subst hD;exact perm_intKeys hpw (fun p hp=>by obtain ⟨v,hv⟩:=hko p hp;obtain ⟨x,_,hx,_⟩:=Maps.keyOf_i64 hk hv;exact ⟨x,hx⟩) hnd (fun x=>by rw [hm x,h4])
theorem p6.keysS {w:World} {kt:TypeId} {b n:Nat} {f:Lit->Option Value} (h:p6 w kt b n f) (K:Maps.Keyed Tryz.prog kt) (hk:Tryz.prog.underlying kt=some .string) {L:List (List UInt8)} (hnd:L.Nodup) (hm:∀x,x∈L↔(f (.string x)).isSome=true):
 ∃D:DataW Value,w.ownsMap Tryz.prog kt a3a b n D/\L.Perm (strKeys D)/\Maps.size D=n:=by
 obtain ⟨D,h1,h2, -,h4⟩:=h;refine ⟨D,h1, ?_,h2⟩;obtain ⟨es,hD,hpw,_⟩:=h1.entries K;obtain ⟨es',hD',hko⟩:=h1.keysOf;obtain rfl:es=es':=by rw [hD] at hD';simpa using hD'
 subst hD;exact perm_strKeys hpw (fun p hp=>by obtain ⟨v,hv⟩:=hko p hp;obtain ⟨x,_,hx,_⟩:=Maps.keyOf_str hk hv;exact ⟨x,hx⟩) hnd (fun x=>by rw [hm x,h4])
def W8 (L:List Int):List Int:=L.mergeSort leI
def K2 (L:List (List UInt8)):List (List UInt8):=L.mergeSort leB
theorem r5:Maps.Keyed Tryz.prog 3:=Maps.int_keyed Tryz.underlying3
theorem r6:Maps.Keyed Tryz.prog 9:=Maps.string_keyed Tryz.underlying9
def S6 (w:World) (e:TypeId) (xs:List Value) (x:Ending) (w':World):Prop:=
 ∃v,x= .returned v/\j2 w' e 1 v xs.length xs/\(∀k,v.ownBlock=some k->w.heap.size<=k)/\Mod (fun _=>False) w w'
theorem b2c (mb:Option Nat) (w:World):Calls Tryz.prog 101 #[.map mb] w fun e w'=>e= .returned (.func (.func 147) #[] #[.pointer (some ⟨w.heap.size,0,none⟩)])/\w'=w.alloc (.cells #[.map mb] 129):=
 Tryz.maps_Keys_101 mb w
theorem a8a {w:World} {b n:Nat} {f:Lit->Option Value} (h:p6 w 3 b n f) (hn:n<=1000000) {L:List Int} (hnd:L.Nodup) (hm:∀x,x∈L↔(f (.int .i64 x)).isSome=true):
 Calls Tryz.prog 100 #[.func (.func 147) #[] #[.pointer (some ⟨w.heap.size,0,none⟩)]] (w.alloc (.cells #[.map (some b)] 129)) (S6 (w.alloc (.cells #[.map (some b)] 129)) 3 ((W8 L).map (Value.int .i64))):=by
 obtain ⟨D,h1,h2,h3⟩:=h.keysI r5 Tryz.underlying3 hnd hm;refine (Tryz.slices_Sorted_101 b n D a3a w h1 (by rw [h3];unfold maxLen;omega) (by rw [h3];omega)).mono ?_;rintro e w' ⟨v,ss,rfl,hp,hrow, -,hb⟩;obtain ⟨r1,r2⟩:=a6C hrow;have hs:ss.mergeSort (fun x y=>decide (x<=y))=W8 L:=mergeSort_of_perm_i (hp.trans h2.symm);have hl:ss.length=(W8 L).length:=by rw [<-hs,List.length_mergeSort]
 rw [hs,hl] at r1;exact ⟨v,rfl,by rw [zz10];exact r1,r2,⟨hb.os,hb.tape,hb.output,hb.size,fun k hk _=>hb.block k hk⟩⟩
end
open Go.RowKit
def S7 (p:Int×Cnd):List Value:= .int .i64 p.1::p.2.cells
def pls (l:List (Int×Cnd)):List Value:=l.flatMap S7
theorem a8b (l m:List (Int×Cnd)):pls (l++m)=pls l++pls m:=by unfold pls;rw [List.flatMap_append]
abbrev Fil:=ByteArray×List Cnd
def B7 (I:List (Int×Fil)) (id:Int):Option Fil:=(I.find? fun p=>p.1==id).map Prod.snd
def D4 (w:World) (own C:Nat->Prop):Option Value->Option Fil->Prop
 |none,none=>True
 |some v,some q=>∃a cap,v= .agg #[.string q.1,.slice a q.2.length cap]/\j2 w 87 7 (.slice a q.2.length cap) q.2.length (m5 q.2)/\∀k,(Value.slice a q.2.length cap).ownBlock=some k->k<w.heap.size/\¬own k/\C k
 |_,_=>False
def T0 (q:Option Fil) (nm:ByteArray):List Cnd:=match q with|some q=>q.2.filter fun c=>c.name.data.toList==nm.data.toList|none=>[]
def b6z (w:World) (own:Nat->Prop) (I:List (Int×Fil)) (T:Nat) (nm:ByteArray) (v:Value):Prop:=
 ∃ps:List (Int×Cnd),j2 w 157 8 v ps.length (pls ps)/\ps.length<=T/\(∀k,v.ownBlock=some k->own k)/\∀id,(ps.filter fun p=>p.1==id).map Prod.snd=T0 (B7 I id) nm
def Lit.str (nm:ByteArray):Lit:= .string nm.data.toList
def Z0:Value:= .slice none 0 0
def a4E (w:World) (b m1 m2:Nat) (own:Nat->Prop) (I:List (Int×Fil)) (T:Nat):Prop:=
 ∃n f,p6 w 9 m2 n f/\n<=T/\(∀nm:ByteArray,b6z w own I T nm ((f (Lit.str nm)).getD Z0))/\
  (∀nm k,((f (Lit.str nm)).getD Z0).ownBlock=some k->k≠b/\k≠m1/\k≠m2)/\∀nm nm' k,((f (Lit.str nm)).getD Z0).ownBlock=some k->((f (Lit.str nm')).getD Z0).ownBlock=some k->nm=nm'
def a3X (w:World) (m1:Nat) (own C:Nat->Prop) (I:List (Int×Fil)):Prop:=∃f,p6 w 3 m1 I.length f/\∀id:Int,D4 w own C (f (.int .i64 id)) (B7 I id)
structure W9 (w:World) (b m1 m2:Nat) (own C:Nat->Prop) (I:List (Int×Fil)) (T:Nat):Prop where
 row:w.heap[b]? =some (.cells #[.map (some m1),.map (some m2)] 132 (0,0))
 nd:(I.map Prod.fst).Nodup
 ob:own b/\own m1/\own m2
 ne:b≠m1/\b≠m2/\m1≠m2
 fm:a3X w m1 own C I
 pm:a4E w b m1 m2 own I T
 low:I.length<=T
 olow:∀k,own k->k<w.heap.size
 clow:∀k,C k->k<w.heap.size
 wf:∀p∈I,(Lit.int .i64 p.1).wf=true/\p.2.2.length<=19/\∀c∈p.2.2,c.fits
 sc:∀p∈I,p.2.1.size<=1000000
def Idx (w:World) (b:Nat) (own C:Nat->Prop) (I:List (Int×Fil)) (T:Nat):Prop:=∃m1 m2,W9 w b m1 m2 own C I T
theorem D4.mod {w w':World} {F own C:Nat->Prop} {v:Option Value} {q:Option Fil} (h:D4 w own C v q) (hm:Mod F w w') (hF:∀k,k<w.heap.size->F k->own k):D4 w' own C v q:=by
 cases v<;>cases q
 ·trivial
 ·exact h
 ·exact h
 obtain ⟨a,cap,h1,h2,h3⟩:=h;exact ⟨a,cap,h1,h2.mod hm (fun k hk hf=>(h3 k hk).2.1 (hF k (h3 k hk).1 hf)),fun k hk=>⟨zz13 (h3 k hk).1 hm.size,(h3 k hk).2⟩⟩
theorem a3X.mod {w w':World} {m1:Nat} {F own C:Nat->Prop} {I:List (Int×Fil)} (h:a3X w m1 own C I) (hm:Mod F w w') (h1:¬F m1) (hF:∀k,k<w.heap.size->F k->own k):a3X w' m1 own C I:=by
 obtain ⟨f,h2,h3⟩:=h;exact ⟨f,h2.mod hm h1,fun id=>(h3 id).mod hm hF⟩
theorem a4E.mod {w w':World} {b m1 m2:Nat} {F own:Nat->Prop} {I:List (Int×Fil)} {T:Nat} (h:a4E w b m1 m2 own I T) (hm:Mod F w w') (h2:¬F m2) (hF:∀k,own k->k≠b->k≠m1->k≠m2->k<w.heap.size->¬F k):a4E w' b m1 m2 own I T:=by
 obtain ⟨n,f2,g1,g2,g3,g4,g5⟩:=h;refine ⟨n,f2,g1.mod hm h2,g2,fun nm=> ?_,g4,g5⟩;obtain ⟨ps,p1,p2,p3,p4⟩:=g3 nm;exact ⟨ps,p1.mod hm (fun k hk=>hF k (p3 k hk) (g4 nm k hk).1 (g4 nm k hk).2.1 (g4 nm k hk).2.2 (p1.lt k hk)),p2,p3,p4⟩
theorem a4E.cong {w:World} {b m1 m2:Nat} {own own':Nat->Prop} {I I':List (Int×Fil)} {T T':Nat} (h:a4E w b m1 m2 own I T) (ho:∀k,k<w.heap.size->own k->own' k) (hI:∀id nm,T0 (B7 I' id) nm=T0 (B7 I id) nm) (hT:T<=T'):a4E w b m1 m2 own' I' T':=by
 obtain ⟨n,f2,g1,g2,g3,g4,g5⟩:=h;refine ⟨n,f2,g1,Nat.le_trans g2 hT,fun nm=> ?_,g4,g5⟩;obtain ⟨ps,p1,p2,p3,p4⟩:=g3 nm;exact ⟨ps,p1,Nat.le_trans p2 hT,fun k hk=>ho k (p1.lt k hk) (p3 k hk),fun id=>by rw [hI];exact p4 id⟩
theorem W9.mod2 {w w':World} {b m1 m2:Nat} {own C F:Nat->Prop} {I:List (Int×Fil)} {T:Nat} (h:W9 w b m1 m2 own C I T) (hm:Mod F w w') (hF:∀k,k<w.heap.size->F k->¬own k/\¬C k):W9 w' b m1 m2 own C I T:=by
 have hn:∀k,own k->¬F k:=fun k hk hf=>(hF k (h.olow k hk) hf).1 hk;refine ⟨hm.heap h.row (hn _ h.ob.1),h.nd,h.ob,h.ne, ?_,h.pm.mod hm (hn _ h.ob.2.2) (fun k hk _ _ _ _=>hn k hk),h.low,fun k hk=>zz13 (h.olow k hk) hm.size,fun k hk=>zz13 (h.clow k hk) hm.size,h.wf,h.sc⟩;obtain ⟨f,h1,h2⟩:=h.fm;refine ⟨f,h1.mod hm (hn _ h.ob.2.1),fun id=> ?_⟩;have h3:=h2 id;cases hf:f (.int .i64 id)<;>cases hi:B7 I id<;>rw [hf,hi] at h3
 ·trivial
 ·exact h3
 ·exact h3
 obtain ⟨a,cap,e1,e2,e3⟩:=h3;exact ⟨a,cap,e1,e2.mod hm (fun k hk hf=>(hF k (e3 k hk).1 hf).2 (e3 k hk).2.2),fun k hk=>⟨zz13 (e3 k hk).1 hm.size,(e3 k hk).2⟩⟩
theorem Idx.mod2 {w w':World} {b:Nat} {own C F:Nat->Prop} {I:List (Int×Fil)} {T:Nat} (h:Idx w b own C I T) (hm:Mod F w w') (hF:∀k,k<w.heap.size->F k->¬own k/\¬C k):Idx w' b own C I T:=by
 obtain ⟨m1,m2,h⟩:=h;exact ⟨m1,m2,h.mod2 hm hF⟩
theorem W9.mod {w w':World} {b m1 m2:Nat} {own C F:Nat->Prop} {I:List (Int×Fil)} {T:Nat} (h:W9 w b m1 m2 own C I T) (hm:Mod F w w') (hF:∀k,k<w.heap.size->¬F k):W9 w' b m1 m2 own C I T:=h.mod2 hm (fun k hk hf=>absurd hf (hF k hk))
theorem Idx.mod {w w':World} {b:Nat} {own C F:Nat->Prop} {I:List (Int×Fil)} {T:Nat} (h:Idx w b own C I T) (hm:Mod F w w') (hF:∀k,k<w.heap.size->¬F k):Idx w' b own C I T:=h.mod2 hm (fun k hk hf=>absurd hf (hF k hk))
theorem Idx.low {w:World} {b:Nat} {own C:Nat->Prop} {I:List (Int×Fil)} {T:Nat} (h:Idx w b own C I T):(∀k,own k->k<w.heap.size)/\∀k,C k->k<w.heap.size:=by
 obtain ⟨m1,m2,h⟩:=h;exact ⟨h.olow,h.clow⟩
def a6D (w:World) (e:Ending) (w':World):Prop:=∃b own,e= .returned (.pointer (some ⟨b,0,none⟩))/\Idx w' b own (fun _=>False) [] 0/\(∀k,own k->w.heap.size<=k/\k<w'.heap.size)/\Mod (fun _=>False) w w'
theorem a1E (w:World):Calls Tryz.prog 20 #[] w (a6D w):=by
 obtain ⟨wa,aD,ah,ae,au⟩:=g8 w (.map #[] 0);obtain ⟨wb,hwb,ay,ak,aO⟩:=g8 wa (.map #[] 0);obtain ⟨wc,hwc,wP,Bz,PT⟩:=g8 wb (.cells #[.map (some w.heap.size),.map (some wa.heap.size)] 132);have h1:p6 wc 3 w.heap.size 0 (fun _=>none):=((aD▸p6.made w 3:p6 wa 3 w.heap.size 0 (fun _=>none)).mod ay id).mod wP id;have h2:p6 wc 9 wa.heap.size 0 (fun _=>none):=(hwb▸p6.made wa 9:p6 wb 9 wa.heap.size 0 (fun _=>none)).mod wP id
 have hi:W9 wc wb.heap.size w.heap.size wa.heap.size (fun k=>k=w.heap.size\/k=wa.heap.size\/k=wb.heap.size) (fun _=>False) [] 0:=
  ⟨Bz,List.nodup_nil,⟨.inr (.inr rfl),.inl rfl,.inr (.inl rfl)⟩,zo,⟨_,h1,fun _=>trivial⟩,⟨0,_,h2,Nat.le_refl _,fun nm=>⟨[],j2.nil _ _ _,Nat.le_refl _,fun k hk=>by simp [Z0,Value.ownBlock] at hk,fun _=>rfl⟩,
   fun nm k hk=>by simp [Z0,Value.ownBlock] at hk,fun nm nm' k hk=>by simp [Z0,Value.ownBlock] at hk⟩,Nat.le_refl _,fun k hk=>zo,fun _ h=>h.elim,fun p hp=>(by cases hp),fun p hp=>(by cases hp)⟩
 have hm:Mod (fun _=>False) w wc:=(ah.trans ay zi).trans wP zi;have hz:wb.heap.size=w.heap.size+2/\wa.heap.size=w.heap.size+1/\wc.heap.size=w.heap.size+3:=zo
 obtain ⟨aF,bD,Hwc,H1,H2,Hi,Hm,b69,aH,aT,Hz⟩:=zh11 aD hwb hwc h1 h2 hi hm Bz ae ak hz;clear aD hwb hwc h1 h2 hi hm Bz ae ak hz ah ay wP au aO PT
 go_enter Tryz.func20,Tryz.ntmps20
 go_wp2_with (first|(rw [show w.alloc _=wa from aF.out])|(rw [show wa.alloc _=wb from bD.out])|(rw [show wb.alloc _=wc from Hwc.out]))
 go_ret;refine ⟨wb.heap.size,_,rfl,⟨_,_,Hi.out⟩,fun k hk=> ?_,Hm.out⟩;have:=Hz.out;rcases hk with rfl|rfl|rfl<;>omega
theorem a5D (p:Int×Cnd):(S7 p).length=8:=rfl
theorem b4l {α:Type} {f:α->List Value} {sz:Nat} (hf:∀a,(f a).length=sz) (l:List α) {k j:Nat} {a:α} {u:Value} (h:l[k]? =some a) (hj:(f a)[j]? =some u):(l.flatMap f)[k*sz+j]? =some u:=by
 induction l generalizing k with
 |nil=>simp at h
 | cons b l ih=>
  rw [List.flatMap_cons];have hl:=(zz6 hj).1
  cases k with
  |zero=>
   simp only [List.getElem?_cons_zero,Option.some.injEq] at h;subst h;rw [List.getElem?_append_left zo,Nat.zero_mul,Nat.zero_add,hj]
  |succ k=>
   rw [List.getElem?_cons_succ] at h;rw [List.getElem?_append_right (by rw [hf,Nat.add_mul];omega),hf,show (k+1)*sz+j - sz=k*sz+j by rw [Nat.add_mul];omega];exact ih h
theorem a1F {α:Type} {f:α->List Value} {sz:Nat} (hf:∀a,(f a).length=sz) {w:World} {a:Option Addr} {cap:Nat} {l:List α} {j:Nat} {x:α} (h:j3 w sz (.slice a l.length cap) l.length (l.flatMap f)) (hx:l[j]? =some x):∃g off,a=some ⟨g,off,none⟩/\e9 w g (off+j*sz) (f x):=by
 obtain ⟨-,a',c',h1, -,h3,h4⟩:=h;cases h1
 cases a with
 |none=>have:=(zz6 hx).1;exact absurd (h3 rfl) zo
 |some b=>
  obtain ⟨g',off',h5,h6⟩:=h4 _ rfl (by have:=(zz6 hx).1;omega);refine ⟨g',off',by rw [h5],fun i u hu=> ?_⟩;have:=h6 (j*sz+i) u (b4l hf _ hx hu);rw [Nat.add_assoc];exact this
end Go.Proofs.YtebhabpahfmodaaGreatDoor
