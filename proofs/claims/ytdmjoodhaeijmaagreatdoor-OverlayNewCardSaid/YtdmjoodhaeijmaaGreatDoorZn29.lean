/- Lemmas. -/
import Derived.Test.YtdmjoodhaeijmaaGreatDoorZn28
set_option maxHeartbeats 40000000
set_option maxRecDepth 20000
namespace Go.Proofs.YtdmjoodhaeijmaaGreatDoor
open Go.RowKit
def okQ (q:Fil):Prop:=q.2.length<=19/\(∀c∈q.2,c.fits)/\q.1.size<=1000000
theorem b1Q (w:World) (x y:Fr) (hx:i8 w 7 (.slice x.a x.cs.length x.c) x.cs.length (q8 x.cs)) (hy:i8 w 7 (.slice y.a y.cs.length y.c) y.cs.length (q8 y.cs)) (hxo:okQ x.fil) (Ki:okQ y.fil):
 Calls Tryz.prog 135 #[.agg #[.string x.sc,.slice x.a x.cs.length x.c],.agg #[.string y.sc,.slice y.a y.cs.length y.c]] w fun e w'=>e= .returned (.bool (b1F x.fil y.fil))/\Mod (fun _=>False) w w':=
 a2s a2C w x.sc _ x.cs hx (by have:=hxo.1;have h:x.fil.2.length=x.cs.length:=rfl;omega) (by have:=hxo.2.2;have h:x.fil.1=x.sc:=rfl;rw [h] at this;omega) y.sc _ y.cs hy (by have:=Ki.1;have h:y.fil.2.length=y.cs.length:=rfl;omega) (by have:=Ki.2.2;have h:y.fil.1=y.sc:=rfl;rw [h] at this;omega)
  (fun d hd c hc wx _=>by
    have h1:=Ki.2.1 d hd;have h2:=hxo.2.1 c hc
    exact Z0 d c (by have:=h1.1.text;omega) (by have:=h2.1.text;omega) h1.1.num h2.1.num wx)
def a1F (g:List UInt8->Option Fil) (k:List UInt8) (f:Fil) (j:List UInt8):Bool:=match g j with|some h=>decide (j≠k)&&(b1F h f&&(decide (j<k)|| !b1F f h))|none=>false
theorem b4k (g:List UInt8->Option Fil) (ks:List (List UInt8)) (k:List UInt8) (f:Fil):a6r g ks k f=ks.any (a1F g k f):=rfl
def b1R (w:World) (ma r:Nat) (fm:Lit->Option Value) (g:List UInt8->Option Fil) (k:List UInt8) (f:Fil) (wr:World):Prop:=
 ∃(left:Lit->Bool) (cnt:Nat),a3x wr 9 ma r fm left cnt/\(∀j,(g j).isSome=true->left (.string j)=false->a1F g k f j=false)/\Mod (fun _=>False) w wr
theorem a7T (w:World) (own C:Nat->Prop) (ma n:Nat) (fm:Lit->Option Value) (g:List UInt8->Option Fil) (hm:l8 w 9 ma n fm) (hv:∀x,G9 w own C (fm (.string x)) (g x)) (hwf:∀x q,g x=some q->okQ q)
 (k:List UInt8) (hkl:k.length<=maxLen) (f:Fil) (hk:g k=some f) (ks:List (List UInt8)) (hks:∀x,x∈ks↔(g x).isSome=true):
 Calls Tryz.prog 139 #[.map (some ma),.string (str k)] w fun e w'=>e= .returned (.bool (a6r g ks k f))/\Mod (fun _=>False) w w':=by
 obtain ⟨fr,iM,iN,hfr⟩:=a3H (hv k) (fun h=>by rw [hk] at h;cases h);have fT:f=fr.fil:=by rw [hk] at iN;exact Option.some.inj iN
 subst fT;have hfo:=hwf k _ hk;have CS:=X7 k hkl;rw [b4k];obtain ⟨B,hB⟩:∃B,ks.any (a1F g k fr.fil)=B:=⟨_,rfl⟩;rw [hB];refine hh8 hB hm hv hwf hk hks iM iN fun HB Hm Hv Kj Hk GV Ap Av=> ?_;refine hh3 hfr hfo CS fun aW rH CU=> ?_;clear hB hm hv hwf hk hks iM iN hfr hfo CS
 go_enter Tryz.func139,Tryz.ntmps139
 go_wp2_with ((at_range;refine T7 rfl _ 202 rfl 9 34 A2 Tryz.underlying202 ma n fm rfl Hm.out ?_;intro wF hrg dh CL))
 have bO:b1R w ma w.heap.size fm g k fr.fil wF:=⟨_,_,hrg,fun j h1 h2=>(by
  have e:=(Hv.out j).some;rw [h1] at e;have h3:(fm (.string j)).isSome=false:=h2;rw [e] at h3
  cases h3),dh⟩
 refine hh3 bO hrg dh fun dP jK tK=> ?_;clear bO hrg dh CL
 go_frame
 go_loopw [9] (fun _ wr=>b1R w ma w.heap.size fm g k fr.fil wr) (fun _ wr=>wr.rangeLeft ma w.heap.size)
 case atStart=>exact dP.out
 case round=>
  revert wr;intro wl hrel;obtain ⟨left,cnt,hrg,hno,hmr⟩:=hrel;refine hh2 hno hmr fun Hno aL=> ?_;clear hno hmr
  go_wp2_with ((at_next;refine W8 rfl _ rfl 9 A2 encStr Lit.string (b5f _ Tryz.underlying9) (b6r _ Tryz.underlying9) ma w.heap.size fm left cnt rfl hrg ?_ ?_))
  ·intro hl0
   have hany:B=false:=by
    rw [<-HB.out,List.any_eq_false];intro j hj;rw [Hno.out j ((GV.out j).1 hj) (hl0 _)];exact Bool.false_ne_true
   subst hany;refine hh2 hrg hl0 fun jK uZ=> ?_;clear hrg hl0
   go_wp2_with fail
   go_ret;exact ⟨rfl,aL.out⟩
  intro x c wu cnt' hkey hlk hfc eX hlt2 hmu hzu hen;obtain ⟨h,Am,GZ,Kk⟩:=a3H (Hv.out x) (fun e=>by have h1:=(Hv.out x).some;rw [hfc,e] at h1;cases h1);rw [hfc] at Am;obtain rfl:=Option.some.inj Am;have hxk:x∈ks:=(GV.out x).2 (by rw [GZ];rfl);obtain ⟨wv,hwv,gB,iq,Kb⟩:=g6 wu (.cells #[.string h.sc,.slice h.a h.cs.length h.c] 34);have pE:=(aL.out.upon hmu (fun k hk=> .inr (Nat.le_of_eq (Eq.symm hk)))).trans gB zi;have v2:wv.cell? ⟨wu.heap.size,0,none⟩=some (.string h.sc):=d6 iq rfl;have v3:wv.cell? ⟨wu.heap.size,1,none⟩=some (.slice h.a h.cs.length h.c):=d6 iq rfl;have pz:=eX.mod gB id id;have hl1:=(Hm.out.mod pE id).look A2 Tryz.underlying202 (I0 wv) CU.out;rw [Ap.out] at hl1;have SL:(Instr.lookup 202 (.map (some ma)) (.string (str k)) false).run Tryz.prog wv= .ok (.agg #[.string fr.sc,.slice fr.a fr.cs.length fr.c]) wv:=hl1;have hho:=Kj.out x _ GZ;have Kl:=(Kk.1.mod pE zi).rd;have hrf:=(aW.out.1.mod pE zi).rd;have hc1:=b1Q wv h fr Kl hrf hho rH.out;obtain ⟨t1,ht1⟩:∃t,b1F h.fil fr.fil=t:=⟨_,rfl⟩;rw [ht1] at hc1;refine hh8 hrg hkey hlk hfc eX hmu hzu GZ fun jK eu GX kC lU ve Kc CV=> ?_;refine hh8 Kk hwv gB iq pz pE hl1 hho fun WW GY CP Ke lV CW Az lH=> ?_;refine hh5 Kl hrf hc1 ht1 hxk fun SN SQ HZ H5 Hxk=> ?_;clear hrg hkey hlk hfc eX hmu hzu GZ Kk hwv gB iq pz pE hl1 hho Kl hrf hc1 ht1 hxk;have hsl:(str k).toList=k:=by rw [ByteArray.toList_eq];simp [str]
  by_cases hxe:x=k
  ·have fO:a1F g k fr.fil x=false:=by unfold a1F;rw [CV.out];simp [hxe]
   have hsx:(str x).toList=x:=by rw [hxe];exact hsl
   have ja:∀j,(g j).isSome=true->(left (.string j)&& !(Lit.string j).sameKey (.string x))=false->a1F g k fr.fil j=false:=fun j h1 h2=>by
    rw [a3y] at h2;by_cases e:j=x
    ·rw [e];exact fO
    have e2:(j==x)=false:=by rw [beq_eq_false_iff_ne];exact e
    rw [e2,Bool.not_false,Bool.and_true] at h2;exact Hno.out j h1 h2
   refine hh2 ja fO fun pF Gx=> ?_;clear ja fO
   go_wp2_with ((with_reducible refine d9 34 (.tmp 6) (.tmp 13) ?_);refine ⟨rfl,[.string h.sc,.slice h.a h.cs.length h.c],rfl,rfl,zk,rfl, ?_⟩;rw [GY.out])
   go_roundw
   case rel=>exact ⟨_,cnt',lV.out,pF.out,CW.out⟩
   case measure=>rw [lV.out.left_eq,jK.out.left_eq];exact hlt2
  have hsx:(str x).toList=x:=by rw [ByteArray.toList_eq];simp [str]
  go_wp2_with ((with_reducible refine d9 34 (.tmp 6) (.tmp 13) ?_);refine ⟨rfl,[.string h.sc,.slice h.a h.cs.length h.c],rfl,rfl,zk,rfl, ?_⟩;rw [GY.out])
  all_goals first|(exfalso;exact absurd (by assumption) hxe)|skip
  refine HZ.out.mono ?_;rintro e w4 ⟨rfl,aM⟩;have lW:=lV.out.mod aM id id;have aV:=CW.out.trans aM zi
  cases t1 with
  | false=>
   have fO:a1F g k fr.fil x=false:=by unfold a1F;rw [CV.out];simp only [];rw [H5.out];simp
   have ja:∀j,(g j).isSome=true->(left (.string j)&& !(Lit.string j).sameKey (.string x))=false->a1F g k fr.fil j=false:=fun j h1 h2=>by
    rw [a3y] at h2;by_cases e:j=x
    ·rw [e];exact fO
    have e2:(j==x)=false:=by rw [beq_eq_false_iff_ne];exact e
    rw [e2,Bool.not_false,Bool.and_true] at h2;exact Hno.out j h1 h2
   refine hh5 ja fO aM lW aV fun pF Gx fu pG bS=> ?_;clear ja fO aM lW aV
   go_wp2_with fail
   go_roundw
   case rel=>exact ⟨_,cnt',pG.out,pF.out,bS.out⟩
   case measure=>rw [pG.out.left_eq,jK.out.left_eq];exact hlt2
  | true=>
   have w2:w4.cell? ⟨wu.heap.size,0,none⟩=some (.string h.sc):=aM.cell v2 id;have w3:w4.cell? ⟨wu.heap.size,1,none⟩=some (.slice h.a h.cs.length h.c):=aM.cell v3 id;by_cases hxl:x<k
   ·have hbl:Op.bytesLess x k=true:=by rw [Go.Proofs.bytesLess_eq];exact decide_eq_true hxl
    have yn:B=true:=by
     rw [<-HB.out,List.any_eq_true];refine ⟨x,Hxk.out, ?_⟩;unfold a1F;rw [CV.out];simp only [];rw [H5.out];simp [hxe,hxl]
    subst yn;refine hh3 aM lW aV fun fu pG bS=> ?_;clear aM lW aV
    go_wp2_with fail
    go_ret;exact ⟨rfl,bS.out⟩
   have hbl:Op.bytesLess x k=false:=by rw [Go.Proofs.bytesLess_eq];exact decide_eq_false hxl
   have hl4:=(Hm.out.mod aV id).look A2 Tryz.underlying202 (I0 w4) CU.out;rw [Ap.out] at hl4;have SS:(Instr.lookup 202 (.map (some ma)) (.string (str k)) false).run Tryz.prog w4= .ok (.agg #[.string fr.sc,.slice fr.a fr.cs.length fr.c]) w4:=hl4;have hc2:=b1Q w4 fr h (SQ.out.mod aM zi) (SN.out.mod aM zi) rH.out lH.out;obtain ⟨t2,ht2⟩:∃t,b1F fr.fil h.fil=t:=⟨_,rfl⟩;rw [ht2] at hc2;refine hh6 aM lW aV hl4 hc2 ht2 fun fu pG bS WX Km OE=> ?_;clear aM lW aV hl4 hc2 ht2
   go_wp2_with fail
   refine Km.out.mono ?_;rintro e w5 ⟨rfl,bR⟩;have jL:=pG.out.mod bR id id;have bD:=bS.out.trans bR zi
   cases t2 with
   | true=>
    have fO:a1F g k fr.fil x=false:=by unfold a1F;rw [CV.out];simp only [];rw [H5.out,OE.out];simp [hxl]
    have ja:∀j,(g j).isSome=true->(left (.string j)&& !(Lit.string j).sameKey (.string x))=false->a1F g k fr.fil j=false:=fun j h1 h2=>by
     rw [a3y] at h2;by_cases e:j=x
     ·rw [e];exact fO
     have e2:(j==x)=false:=by rw [beq_eq_false_iff_ne];exact e
     rw [e2,Bool.not_false,Bool.and_true] at h2;exact Hno.out j h1 h2
    refine hh5 ja fO bR jL bD fun pF Gx gD lX bK=> ?_;clear ja fO bR jL bD
    go_wp2_with fail
    go_roundw
    case rel=>exact ⟨_,cnt',lX.out,pF.out,bK.out⟩
    case measure=>rw [lX.out.left_eq,jK.out.left_eq];exact hlt2
   | false=>
    have yn:B=true:=by
     rw [<-HB.out,List.any_eq_true];refine ⟨x,Hxk.out, ?_⟩;unfold a1F;rw [CV.out];simp only [];rw [H5.out,OE.out];simp [hxe]
    subst yn;refine hh3 bR jL bD fun gD lX bK=> ?_;clear bR jL bD
    go_wp2_with fail
    go_ret;exact ⟨rfl,bK.out⟩
section
open Go.RowKit Go.Sort
def b6u (w:World) (own C:Nat->Prop) (M:List (Int×Fil)) (td:Int) (ma mo r N:Nat) (f:Lit->Option Value) (wr:World):Prop:=
 ∃(left:Lit->Bool) (cnt n:Nat) (g:List UInt8->Option Fil),KAt wr own C ma n g/\n+N*cnt<=N*N/\a3x wr 3 mo r f left cnt/\(∀k q,g k=some q->∃x,x≠td/\(x,q)∈M/\i7 q=k)/\
  (∀x q,(x,q)∈M->x≠td->left (.int .i64 x)=false->(g (i7 q)).isSome=true)/\Mod (fun _=>False) w wr
def a6A (M:List (Int×Fil)) (td:Int) (k:List UInt8):Option Fil:=(Z3 M td k).filter fun f=> !a6r (Z3 M td) (a15 M td) k f
theorem b1S {M:List (Int×Fil)} {td:Int} {g:List UInt8->Option Fil} (hinj:∀p∈M,∀q∈M,i7 p.2=i7 q.2->p.2=q.2) (hA:∀k q,g k=some q->∃x,x≠td/\(x,q)∈M/\i7 q=k)
 (hB:∀x q,(x,q)∈M->x≠td->(g (i7 q)).isSome=true) (k:List UInt8):g k=Z3 M td k:=by
 cases h1:g k with
 |some q=>
  obtain ⟨x,hx,hm,hk⟩:=hA k q h1;obtain ⟨r,hr⟩:=a6s hm hx;rw [hk] at hr;obtain ⟨hk2,y,hy,hm2⟩:=C8 hr;have e:q=r:=hinj _ hm _ hm2 (hk.trans hk2.symm);rw [hr,e]
 | none=>
  cases h2:Z3 M td k with
  |none=>rfl
  |some q=>
   obtain ⟨hk2,y,hy,hm2⟩:=C8 h2;have h3:=hB y q hm2 hy;rw [hk2,h1] at h3;cases h3
theorem b4l (w:World) (b:Nat) (own C:Nat->Prop) (M:List (Int×Fil)) (N:Nat) (h:Tab w b own C M N) (hN:N<=1000000) (hinj:∀p∈M,∀q∈M,i7 p.2=i7 q.2->p.2=q.2) (td:Int) (htd:(Lit.int .i64 td).wf=true):
 Calls Tryz.prog 113 #[.pointer (some ⟨b,0,none⟩),.int .i64 td] w (a6y w C (C3 M td)):=by
 obtain ⟨mo,h⟩:=h;obtain ⟨wa,ak,ae,aa,ah⟩:=g6 w (.map #[] 0);have ha:=h.mod ae (fun _ _ h=>h.elim);have b0:wa.cell? ⟨b,0,none⟩=some (.map (some mo)):=d6 ha.row rfl;have ko:l8 wa 9 w.heap.size 0 (fun _=>none):=ak▸l8.made w 9;obtain ⟨n,f,CX,hf2,hf3,kG⟩:=h.om;have hf1:=CX.mod ae id;have OG:N*N<=1000000000000:=Nat.mul_le_mul hN hN;have JO:mo<w.heap.size:=h.olow _ h.ob.2;obtain ⟨O,hO⟩:∃O,C3 M td=O:=⟨_,rfl⟩;rw [hO];have hz:=ah;refine hh8 hO h ha hinj htd ak ae aa fun HO H Ha yo Htd aB ai aC=> ?_;refine hh6 ko hf1 hf2 hf3 kG hz fun Ae Hf1 kv xX sQ Hz=> ?_;clear hO h ha hinj htd ak ae aa ko hf1 hf2 hf3 kG hz ah CX
 go_enter Tryz.func113,Tryz.ntmps113
 go_wp2_with (first|(rw [show w.alloc _=wa from aB.out])|((at_range;refine T7 rfl _ 113 rfl 3 202 A5 Tryz.underlying113 mo n f rfl Hf1.out ?_;intro wF hrg dh CL)))
 have bO:b6u w own C M td w.heap.size mo wa.heap.size N f wF:=⟨_,n,0,fun _=>none,⟨0,_,Ae.out.mod dh id,Nat.le_refl _,fun _=>trivial⟩,by rw [Nat.zero_add];exact Nat.mul_le_mul_left _ kv.out,hrg,fun k q h=>(by cases h),fun x q hm hx hl=>(by
  have h1:=xX.out x;have h2:(f (.int .i64 x)).isSome=false:=hl
  cases h3:f (.int .i64 x) with
  |some v=>rw [h3] at h2;cases h2
  |none=>
   rw [h3] at h1;have h4:=a6j H.out.nd hm;rw [h1] at h4
   cases h4),ai.out.trans dh zi⟩
 refine hh3 bO hrg dh fun dP jK tK=> ?_;clear bO hrg dh CL
 go_frame
 go_loopw [17] (fun _ wr=>b6u w own C M td w.heap.size mo wa.heap.size N f wr) (fun _ wr=>wr.rangeLeft mo wa.heap.size)
 case atStart=>exact dP.out
 case round=>
  revert wr;intro wl hrel;obtain ⟨left,cnt,nn,g,hK,hnn,hrg,hA,hB,hmr⟩:=hrel;refine hh4 hK hA hB hmr fun HK HA HB aL=> ?_;clear hK hA hB hmr
  go_wp2_with ((at_next;refine W8 rfl _ rfl 3 A5 (Value.int .i64) (Lit.int .i64) (b6q _ Tryz.underlying3) (b6O _ Tryz.underlying3) mo wa.heap.size f left cnt rfl hrg ?_ ?_))
  ·intro hl0;have hg:=b1S (td:=td) yo.out HA.out (fun x q hm hx=>HB.out x q hm hx (hl0 _));obtain ⟨nm,fm,hm1,hm2,au⟩:=HK.out;have hv:∀k,G9 wl own C (fm (.string k)) (Z3 M td k):=fun k=>by rw [<-hg];exact au k
   have hnd:(V8 ((M.filter fun p=> !(p.1==td)).map fun p=>i7 p.2)).Nodup:=a2q _
   have hmem:∀k,k∈a15 M td↔(fm (.string k)).isSome=true:=fun k=>by
    rw [b1H,(hv k).some,Option.isSome_iff_exists]
   have hsort:=a1i hm1 zo hnd (fun k=>by rw [<-hmem k];unfold a15;rw [a16]);have hkeys:=a1E (some w.heap.size) wl;obtain ⟨w1,hw1⟩:∃w1:World,wl.alloc (.cells #[.map (some w.heap.size)] 202)=w1:=⟨_,rfl⟩;have bM:Mod (fun _=>False) wl w1:=hw1▸(Mod.refl (fun _=>False) wl).alloc _;rw [hw1] at hsort hkeys;rw [show K4 (V8 ((M.filter fun p=> !(p.1==td)).map fun p=>i7 p.2))=a15 M td from rfl] at hsort;obtain ⟨K,hK_⟩:∃K,a15 M td=K:=⟨_,rfl⟩;rw [hK_] at hsort hmem
   have SA:K.length<=1000000:=by
    rw [<-hK_];unfold a15 K4;rw [List.length_mergeSort]
    have h1:∀l:List (List UInt8),(V8 l).length<=l.length:=fun l=>by
     induction l with
     |nil=>exact Nat.le_refl _
     |cons a l ih=>
      unfold V8;split
      ·exact Nat.le_trans ih (Nat.le_succ _)
      exact Nat.succ_le_succ ih
    refine Nat.le_trans (h1 _) ?_;rw [zz10];exact Nat.le_trans (List.length_filter_le _ _) (Nat.le_trans H.out.low zo)
   have hout:O=K.filterMap (a6A M td):=by rw [<-HO.out];unfold C3 a6A;rw [hK_]
   refine hh8 hrg hl0 hg hm1 hm2 au hv hnd fun jK uZ Hg dn aS aZ Hv Hnd=> ?_;refine hh7 hmem hsort hkeys hw1 bM hK_ hout fun sG iY iZ gW Kn HK_ yt=> ?_;clear hrg hl0 hg hm1 hm2 au hv hnd hmem hsort hkeys hw1 bM hK_ hout
   go_wp2_with fail
   refine iZ.out.mono ?_;rintro e wx ⟨rfl,hwx⟩;obtain rfl:=hwx.symm
   go_wp2_with fail
   refine iY.out.mono ?_;rintro e w2 ⟨sv,rfl,hso,hsb,yu⟩;obtain ⟨sa,sc,rfl, -⟩:=hso.shape;rw [zz10] at hso⊢;have yw:=Kn.out.trans yu zi;have aK:=aL.out.trans yw zi;have vg:a5x w2 C K (a6A M td) (.slice none 0 0) (.int .i64 ((0:Nat):Int)) w2:=⟨0,[],none,0,rfl,Nat.zero_le _,Nat.le_refl _,rfl,rfl,g7.nil _ _ _,fun k hk=>by simp [Value.ownBlock] at hk,fun f hf=>(by cases hf),Mod.refl _ _⟩;refine hh6 hso hsb yu yw aK vg fun jA xH SV Ko aN CY=> ?_;clear hso hsb yu yw aK vg
   go_wp2_with fail
   go_loopw [8,32] (fun ov i wr=>a5x w2 C K (a6A M td) ov i wr) (fun _ i _=>K.length - (intOf i).toNat)
   case atStart=>exact CY.out
   case round=>
    revert wr;intro wr hrel;obtain ⟨j,l,oa,oc,rfl,hj,hlj,rfl,hlq,hown,ik,hfc,aP⟩:=hrel;have bL:=aN.out.trans aP zi;have lY:=Ko.out.trans aP zi;by_cases hlt:j<K.length
    ·have hlt':(j:Int)<K.length:=zo
     obtain ⟨k,hkj⟩:∃k,K[j]? =some k:=⟨_,zz5 hlt⟩;have Kq:=zz8 hkj;have hks:=(sG.out k).1 Kq;have rV:=fun x=>(Hv.out x).mod lY (fun _ _ h=>h.elim);obtain ⟨fr,iM,iN,hfr⟩:=a3H (rV k) (fun h=>by have h1:=(Hv.out k).some;rw [hks,h] at h1;cases h1);obtain ⟨hqk,y0,hy0,hqm⟩:=C8 iN
     have tL:∀x q,Z3 M td x=some q->okQ q:=fun x q hq=>by
      obtain ⟨-,y, -,h2⟩:=C8 hq;exact ⟨(H.out.wf _ h2).2.1,(H.out.wf _ h2).2.2,H.out.sc _ h2⟩
     have oV:k.length<=maxLen:=by
      have h3:=tL k _ iN;have h4:=J7 fr.fil.1 fr.fil.2 h3.2.1;rw [show t8 fr.fil.1 fr.fil.2=k from hqk] at h4;have h5:=h3.1;have h6:=h3.2.2;unfold maxLen;omega
     have yx:=dn.out.mod lY id;have hcv:=a7T wr own C w.heap.size nm fm (Z3 M td) yx rV tL k oV fr.fil iN K (fun x=>by rw [sG.out x,(Hv.out x).some]);obtain ⟨B,hB2⟩:∃B,a6r (Z3 M td) K k fr.fil=B:=⟨_,rfl⟩;rw [hB2] at hcv
     have OH:a6A M td k=if B=true then none else some fr.fil:=by
      unfold a6A;rw [iN,HK_.out,<-hB2];cases hc:a6r (Z3 M td) K k fr.fil<;>simp [hc]
     obtain ⟨g2,off,rfl,ck⟩:=a5w (jA.out.rd.mod aP zi) hkj;have ck':wr.cell? ⟨g2,off+j,none⟩=some (.string (str k)):=ck;refine hh8 hkj Kq hks rV iM iN hfr hqk fun GU WY GV OI Ap Av aW GQ=> ?_;refine hh8 hqm tL yx hcv hB2 OH ck hown fun RN SX SY Bt HB2 OJ Ck bA=> ?_;refine hh7 ik hfc aP bL lY hlq oV fun gz kC dK fF CZ Aw JW=> ?_;clear hkj Kq hks rV iM iN hfr hqk hqm tL yx hcv hB2 OH ck hown ik hfc aP bL lY hlq oV
     go_wp2_with fail
     refine Bt.out.mono ?_;rintro e w4 ⟨rfl,aM⟩;have gq:=dK.out.trans aM zi;have aV:=fF.out.trans aM zi;have pI:=CZ.out.trans aM zi;have bV:=bA.out.mod aM zi;have pJ:∀f∈l,FrC w4 C f:=fun f hf=>(kC.out f hf).mod aM (fun _ _ h=>h.elim)
     cases B with
     | true=>
      have hnx:l.map Fr.fil=(K.take (j+1)).filterMap (a6A M td):=by
       rw [List.take_add_one,GU.out,List.filterMap_append,<-Aw.out,Option.toList_some,List.filterMap_cons,OJ.out];simp
      refine hh7 aM gq aV pI bV pJ hnx fun fu xY bS Kr gQ Da fD=> ?_;clear aM gq aV pI bV pJ hnx
      go_wp2_with fail
      go_roundw
      case rel=>exact ⟨j+1,l,oa,oc,by go_num,hlt,zo,rfl,fD.out,gQ.out,gz.out,Da.out,xY.out⟩
      case measure=>simp [intOf];omega
     | false=>
      have hnx:(l++[fr]).map Fr.fil=(K.take (j+1)).filterMap (a6A M td):=by
       rw [List.take_add_one,GU.out,List.filterMap_append,<-Aw.out,List.map_append,Option.toList_some];congr 1;rw [List.filterMap_cons,OJ.out];rfl
      have tJ:=(dn.out.mod pI id).look A2 Tryz.underlying202 (I0 w4) (X7 k JW.out);rw [Ap.out] at tJ;have JV:(Instr.lookup 202 (.map (some w.heap.size)) (.string (str k)) false).run Tryz.prog w4= .ok (.agg #[.string fr.sc,.slice fr.a fr.cs.length fr.c]) w4:=tJ;obtain ⟨wz,hwz,ag,aj,aF⟩:=g6 w4 (.cells #[.string fr.sc,.slice fr.a fr.cs.length fr.c] 34);have hrz:i8 wz 2 (.slice (some ⟨w4.heap.size,0,none⟩) 1 1) 1 [.string fr.sc,.slice fr.a fr.cs.length fr.c]:=hwz▸i8.one w4 [.string fr.sc,.slice fr.a fr.cs.length fr.c] 34 rfl;have hone:∀u∈([.string fr.sc,.slice fr.a fr.cs.length fr.c]:List Value),u.oneCell'=true:=fun u hu=>zz15 (show ([.string fr.sc,.slice fr.a fr.cs.length fr.c]:List Value).all (·.oneCell')=true from rfl) u hu;have kD:=bV.mod ag zi;have oW:=gq.trans ag zi
      have oZ:∀f∈l++[fr],FrC wz C f:=fun f hf=>by
       rcases zz14 hf with hf|hf
       ·exact (pJ f hf).mod ag (fun _ _ h=>h.elim)
       obtain rfl:f=fr:=by simpa using hf
       exact (aW.out.mod aM (fun _ _ h=>h.elim)).mod ag (fun _ _ h=>h.elim)
      refine hh8 hnx tJ hwz ag aj hrz hone kD fun fD SC aX bE aJ xI aI rA=> ?_;refine hh8 oW oZ aM gq aV pI bV pJ fun pq yl fu xY bS Kr gQ Da=> ?_;clear hnx tJ hwz ag aj hrz hone kD oW oZ aM gq aV pI bV pJ aF
      go_wp2_with (first|((with_reducible refine C0 203 (.tmp 43) ?_);refine ⟨34,2,Tryz.underlying203,zk,zk,zd,zd,[.string fr.sc,.slice fr.a fr.cs.length fr.c],rfl,rfl, ?_⟩;rw [aX.out])|((with_reducible refine l6 (.tmp 40) (.tmp 44) 203 ?_);refine ⟨rfl,34,2,40,b5k,.slice oa l.length oc,l.length,l.flatMap Fr.cells,rfl,rA.out,_,1,[.string fr.sc,.slice fr.a fr.cs.length fr.c],rfl,xI.out,aI.out,zo,by unfold maxLen;omega, ?_⟩;intro ad cap5 w5 hA;have HA:=Lib.hid hA;clear hA))
      go_roundw
      case rel=>
       refine ⟨j+1,l++[fr],ad,cap5,by go_num,hlt,by rw [zz4,List.length_singleton];omega,by rw [zz4];rfl,fD.out, ?_, ?_,fun f hf=>(yl.out f hf).mod HA.out.2.1 (fun k hk h=> ?_),pq.out.upon HA.out.2.1 (fun k hk=> .inr (gz.out k hk))⟩
       ·rw [zz4,List.flatMap_append];exact HA.out.1
       ·intro k hk;rcases HA.out.2.2 with h3|⟨k',h3,h4⟩
        ·exact gz.out k (h3▸hk)
        rw [h3] at hk;cases hk
        have:=pq.out.size;omega
       intro hc;have h1:=H.out.clow _ hc;have h2:=gz.out k h;have h3:=aN.out.size;omega
      case measure=>simp [intOf];omega
    obtain rfl:j=K.length:=zo
    rw [List.take_length] at hlq;have Db:l.map Fr.fil=O:=by rw [yt.out];exact hlq
    refine hh8 hlq hown ik hfc aP bL lY Db fun Aw bA gz kC dK fF CZ Dc=> ?_;clear hlq hown ik hfc aP bL lY Db
    go_wp2_with fail
    go_ret;exact ⟨_,l,rfl,bA.out,fun k hk=>Nat.le_trans aN.out.size (gz.out k hk),Dc.out,kC.out,fF.out⟩
  intro x c wu cnt' hkey hlk hfc eX hlt2 hmu hzu hen;have h1:=xX.out x;rw [hfc] at h1;obtain ⟨mi,rfl,gm,tu,oJ,Kt⟩:=h1;have pu:Mod (fun k=>k=wa.heap.size) wl wu:=hmu;have hmw:Mod (fun _=>False) w wu:=aL.out.upon hmu (fun k hk=> .inr (by have h1:k=wa.heap.size:=hk;have:=ai.out.size;omega))
  have hle:nn+N+N*cnt'<=N*N:=by
   have h1:N*(cnt'+1)<=N*cnt:=Nat.mul_le_mul_left _ hlt2;rw [Nat.mul_add,Nat.mul_one] at h1;omega
  have hgb:∀x' q,(x',q)∈M->x'≠td->x'≠x->(left (.int .i64 x')&& !(Lit.int .i64 x').sameKey (.int .i64 x))=false->(g (i7 q)).isSome=true:=fun x' q hm hx1 hx2 hl=>by
   rw [b5F] at hl;have e2:(x'==x)=false:=by rw [beq_eq_false_iff_ne];exact hx2
   rw [e2,Bool.not_false,Bool.and_true] at hl;exact HB.out x' q hm hx1 hl
  have hlow:∀k,C k->k<w.heap.size:=H.out.clow;have De:KAt wu own C w.heap.size nn g:=HK.out.mod hmu (fun h=>by have h1:w.heap.size=wa.heap.size:=h;have:=Hz.out;omega) (fun k _ hk hc=>by have h1:k=wa.heap.size:=hk;have:=hlow k hc;have:=Hz.out;omega);by_cases hx:x=td
  ·have hB2:∀x' q,(x',q)∈M->x'≠td->(left (.int .i64 x')&& !(Lit.int .i64 x').sameKey (.int .i64 x))=false->(g (i7 q)).isSome=true:=fun x' q hm hx1 hl=>hgb x' q hm hx1 (fun e=>hx1 (e.trans hx)) hl;refine hh8 hrg hkey hlk hfc eX hmu hzu Kt fun jK eu GX kC lU ve Kc WZ=> ?_;refine hh6 hmw pu hB2 hgb hlow De fun rZ Ku HB2 rz Kv OL=> ?_;clear hrg hkey hlk hfc eX hmu hzu Kt hmw pu hB2 hgb hlow De
   go_wp2_with fail
   go_roundw
   case rel=>exact ⟨_,cnt',nn,g,OL.out,by have:=Nat.mul_le_mul_left N (Nat.le_of_lt hlt2);omega,lU.out,HA.out,HB2.out,rZ.out⟩
   case measure=>rw [lU.out.left_eq,jK.out.left_eq];exact hlt2
  obtain ⟨ni,fi,hi1,hi2,hi3⟩:=Kt;have JU:=hi1.lt;have hcp:=b1P wu own C w.heap.size mi nn ni g (r8 M x) fi De (hi1.mod hmw id) (fun k=>(hi3 k).mod hmw (fun _ _ h=>h.elim)) zo (fun h=>Nat.lt_irrefl _ (hlow _ h)) (fun k hk=>zz13 (hlow k hk) hmw.size) zo
  have hA2:∀k q,(r8 M x k).or (g k)=some q->∃y,y≠td/\(y,q)∈M/\i7 q=k:=fun k q hq=>by
   cases ht:r8 M x k with
   |none=>rw [ht] at hq;exact HA.out k q hq
   |some r=>
    rw [ht] at hq;cases hq
    exact ⟨x,hx,(X6 ht).1,(X6 ht).2⟩
  have hB2:∀x' q,(x',q)∈M->x'≠td->(left (.int .i64 x')&& !(Lit.int .i64 x').sameKey (.int .i64 x))=false->((r8 M x (i7 q)).or (g (i7 q))).isSome=true:=fun x' q hm hx1 hl=>by
   by_cases e:x'=x
   ·subst e;rw [a6j H.out.nd hm];rfl
   rw [Option.isSome_or,hgb x' q hm hx1 e hl,Bool.or_true]
  refine hh8 hrg hkey hlk hfc eX hmu hzu hmw fun jK eu GX kC lU ve Kc rZ=> ?_;refine hh8 pu hB2 hA2 hgb hlow De hcp hi1 fun Ku HB2 HA2 rz Kv OL Ta uP=> ?_;refine hh2 hi2 hi3 fun su GR=> ?_;clear hrg hkey hlk hfc eX hmu hzu hmw pu hB2 hA2 hgb hlow De hcp hi1 hi2 hi3
  go_wp2_with fail
  refine Ta.out.mono ?_;rintro e w5 ⟨rfl,OM,bR⟩;have bD:=rZ.out.upon bR (fun k hk=> .inr (Nat.le_of_eq (Eq.symm hk)));have jL:=lU.out.mod bR (fun h=>by have h1:mo=w.heap.size:=h;omega) (fun h=>by have h1:wa.heap.size=w.heap.size:=h;have:=Hz.out;omega);refine hh4 OM bR bD jL fun Tc gD bK lX=> ?_;clear OM bR bD jL
  go_wp2_with fail
  go_roundw
  case rel=>exact ⟨_,cnt',nn+ni,_,Tc.out,by have:=su.out;omega,lX.out,HA2.out,HB2.out,bK.out⟩
  case measure=>rw [lX.out.left_eq,jK.out.left_eq];exact hlt2
end
def BS.told (B:BS) (t:Nat) (near:List Int):BS:={B with R:=upd B.R t {B.R t with G:=J2 (B.R t).M near (B.R t).G,K:=(B.R t).K+near.length}}
theorem BS.told_nil (B:BS) (t:Nat):B.told t []=B:=by
 unfold BS.told
 have:upd B.R t {B.R t with G:=J2 (B.R t).M [] (B.R t).G,K:=(B.R t).K+([]:List Int).length}=B.R:=by
  funext j;unfold upd;split
  ·rename_i e;rw [e];rfl
  rfl
 rw [this]
theorem BS.told_R (B:BS) (t:Nat) (near:List Int):(B.told t near).R t={B.R t with G:=J2 (B.R t).M near (B.R t).G,K:=(B.R t).K+near.length}:=J0 _ _ _
theorem BS.told_snoc (B:BS) (t:Nat) (near:List Int) (n:Int):B.told t (near++[n])={B.told t near with R:=upd (B.told t near).R t {(B.told t near).R t with G:=Z4 ((B.told t near).R t).G n (C3 (B.R t).M n),K:=((B.told t near).R t).K+1}}:=by
 rw [BS.told_R];unfold BS.told;congr 1;funext j;unfold upd;by_cases e:j=t
 ·rw [if_pos e,if_pos e,a7O,zz4,List.length_singleton];rfl
 rw [if_neg e,if_neg e];exact (if_neg e).symm
theorem a9T (B:BS) (t:Nat) (near:List Int) (n:Int):y9 (B.R t).M t (near++[n]) (B.R t).G=y9 (B.R t).M t near (B.R t).G++T8 n t (((B.told t near).R t).G n) (C3 (B.R t).M n):=by
 rw [a7P,BS.told_R]
structure Far (F:Nat->Prop) (w:World) (ow:Ow) (w':World) (ow':Ow):Prop where
 md:Mod (fun k=>F (ow k)) w w'
 old:∀k,k<w.heap.size->ow' k=ow k
theorem Mov.far {F:Nat->Prop} {w w':World} {ow ow':Ow} (s:Mov F w ow w' ow'):Far F w ow w' ow':=⟨s.md,s.old⟩
theorem Far.trans {F:Nat->Prop} {w w' w'':World} {ow ow' ow'':Ow} (s:Far F w ow w' ow') (t:Far F w' ow' w'' ow''):Far F w ow w'' ow'':=by
 refine ⟨s.md.trans t.md (fun k hk hf=> ?_),fun k hk=> ?_⟩
 ·have hf':F (ow' k):=hf;rw [s.old k hk] at hf';exact hf'
 rw [t.old k (zz13 hk s.md.size),s.old k hk]
theorem q6.far {F:Nat->Prop} {w w':World} {ow ow':Ow} {sz:Nat} {v:Value} {n:Nat} {xs:List Value} (h:q6 w ow sz v n xs) (s:Far F w ow w' ow') (h0:¬F 0) (hs:0<sz):q6 w' ow' sz v n xs:=by
 refine ⟨h.rd.mod1 s.md (fun hn b hb hf=> ?_),fun hn b hb=> ?_⟩
 ·have hf':F (ow b):=hf;rw [h.con hn b hb] at hf';exact h0 hf'
 rw [s.old b (h.rd.low hs hn b hb)];exact h.con hn b hb
theorem a7Q.far {F:Nat->Prop} {w w':World} {ow ow':Ow} {v:Option Value} {q:Option Fil} (h:a7Q w ow v q) (s:Far F w ow w' ow') (h0:¬F 0):a7Q w' ow' v q:=by
 cases v<;>cases q
 ·trivial
 ·exact h
 ·exact h
 obtain ⟨a,cap,h1,h2⟩:=h;exact ⟨a,cap,h1,h2.far s h0 zo⟩
theorem Z5.far {F:Nat->Prop} {w w':World} {ow ow':Ow} {mi c:Nat} {l:List Fil} (h:Z5 w ow mi l) (ht:ow mi=c) (s:Far F w ow w' ow') (h0:¬F 0) (hc:¬F c):Z5 w' ow' mi l/\ow' mi=c:=by
 obtain ⟨f,h1,h2⟩:=h
 exact ⟨⟨f,h1.mod s.md (fun hf=>by
  have hf':F (ow mi):=hf;rw [ht] at hf'
  exact hc hf'),fun k=>(h2 k).far s h0⟩,by rw [s.old mi h1.lt];exact ht⟩
theorem a0B.far {F:Nat->Prop} {w w':World} {ow ow':Ow} {c mb:Nat} {v:Option Value} {l:List Fil} (h:a0B w ow c mb v l) (s:Far F w ow w' ow') (h0:¬F 0) (hc:¬F c):a0B w' ow' c mb v l:=by
 cases v
 ·exact h
 obtain ⟨mi,h1,h2,h3,h4⟩:=h;obtain ⟨h5,h6⟩:=h4.far h3 s h0 hc;exact ⟨mi,h1,h2,h6,h5⟩
theorem M7.far {F:Nat->Prop} {w w':World} {ow ow':Ow} {c mb:Nat} {G:Int->List Fil} {K:Nat} (h:M7 w ow c mb G K) (s:Far F w ow w' ow') (h0:¬F 0) (hc:¬F c):M7 w' ow' c mb G K:=by
 obtain ⟨n,f,h1,h2,h3⟩:=h.mp
 exact ⟨by rw [s.old mb h1.lt];exact h.tag,⟨n,f,h1.mod s.md (fun hf=>by
  have hf':F (ow mb):=hf;rw [h.tag] at hf'
  exact hc hf'),h2,fun id=>(h3 id).far s h0 hc⟩,h.lt⟩
theorem a0B.keyV {w:World} {ow:Ow} {c mb:Nat} {v:Option Value} {l:List Fil} (h:a0B w ow c mb v l):∃m,v.getD (.map none)= .map m/\a5y w ow (.map m) l:=by
 cases v
 ·exact ⟨none,rfl,.inl ⟨rfl,h⟩⟩
 obtain ⟨mi,rfl, -, -,h4⟩:=h;exact ⟨some mi,rfl,.inr ⟨mi,rfl,h4⟩⟩
section
open Go.RowKit Go.Sort
theorem a2t {o:Oper} {a:Act} {w w':World} {K:Act->World->Prop} {Q:Exit->Act->World->Prop} (t:TypeId) (m x v:Operand) (ho:o.op= .mapUpdate t m x v)
 (h:(Instr.mapUpdate t (a.eval m) (a.eval x) (a.eval v)).run Tryz.prog w= .ok () w') (hK:K (a.put o.dst undef) w'):o.wp Tryz.prog a w K Q:=by
 unfold Oper.wp;simp [execOp,ho,h,Result.andThen];exact hK
theorem a2G {w:World} {ops:Array Oper} {rest:List Oper} {a:Act} {Q:Exit->Act->World->Prop} {d:Option Tmp} {tp:TypeId} {pos:String} {af:Array Edge} (t:TypeId) (m x v:Operand)
 (h:∃w',(Instr.mapUpdate t (a.eval m) (a.eval x) (a.eval v)).run Tryz.prog w= .ok () w'/\wpList Tryz.prog ops Q rest (a.put d undef) w'):
 wpList Tryz.prog ops Q (⟨d,.mapUpdate t m x v,tp,pos,af,none⟩::rest) a w:=by
 obtain ⟨w',h1,h2⟩:=h;refine wpList_plain rfl fun K' hK'=> ?_;exact a2t t m x v rfl h1 (hK' _ _ h2)
theorem a9U (l:List (List UInt8)):(V8 l).length<=l.length:=by
 induction l with
 |nil=>exact Nat.le_refl _
 |cons a l ih=>
  unfold V8;split
  ·exact Nat.le_trans ih (Nat.le_succ _)
  rw [zz9,zz9];omega
theorem a2U (M:List (Int×Fil)) (td:Int):(C3 M td).length<=M.length:=by
 unfold C3 a15 K4;refine Nat.le_trans (List.length_filterMap_le _ _) ?_;rw [List.length_mergeSort];refine Nat.le_trans (a9U _) ?_;rw [zz10];exact List.length_filter_le _ _
theorem b5J {l:List Fil} (h:l.Pairwise fun a b=>i7 a<i7 b) {k:Nat} {f:Fil} (hk:l[k]? =some f):kF (l.take k) (i7 f)=none:=by
 unfold kF;rw [List.find?_eq_none];intro x hx e;have e':i7 x=i7 f:=by simpa using e
 rw [<-List.take_append_drop k l] at h;have h1:=(List.pairwise_append.1 h).2.2 x hx f (zz8 (i:=0) (by rw [List.getElem?_drop];simpa using hk));rw [e'] at h1;exact absurd h1 (List.lt_irrefl _)
theorem a9V (M:List (Int×Fil)) (ten:Int) (l m:List Int) (G:Int->List Fil):y9 M ten (l++m) G=y9 M ten l G++y9 M ten m (J2 M l G):=by
 induction l generalizing G with
 |nil=>rfl
 |cons a l ih=>
  show T8 a ten (G a) (C3 M a)++y9 M ten (l++m) (Z4 G a (C3 M a))=(T8 a ten (G a) (C3 M a)++y9 M ten l (Z4 G a (C3 M a)))++_;rw [ih,zz12];rfl
theorem a7U {M:List (Int×Fil)} {ten:Int} {near:List Int} {j:Nat} {n:Int} (hj:near[j]? =some n) (G:Int->List Fil):
 (y9 M ten (near.take j) G).length+(T8 n ten (J2 M (near.take j) G n) (C3 M n)).length<=(y9 M ten near G).length:=by
 obtain ⟨hl,rfl⟩:=zz6 hj;have e:near=near.take j++(near[j]::near.drop (j+1)):=by rw [<-List.drop_eq_getElem_cons hl,List.take_append_drop]
 have h:y9 M ten near G=y9 M ten (near.take j) G++(T8 near[j] ten (J2 M (near.take j) G near[j]) (C3 M near[j])++y9 M ten (near.drop (j+1)) (Z4 (J2 M (near.take j) G) near[j] (C3 M near[j]))):=
  (congrArg (fun l=>y9 M ten l G) e).trans (a9V M ten (near.take j) _ G)
 rw [h,zz4,zz4];omega
theorem a4C {M:List (Int×Fil)} {near:List Int} {G:Int->List Fil} {X:Nat} (hG:∀n,(G n).length<=X) (hM:M.length<=X) (n:Int):(J2 M near G n).length<=X:=by
 by_cases h:n∈near
 ·rw [a3D h];exact Nat.le_trans (a2U M n) hM
 rw [a0V h];exact hG n
theorem a8W {M:List (Int×Fil)} (h:∀p∈M,okQ p.2) (n:Int):∀q∈C3 M n,okQ q:=fun q hq=>by
 obtain ⟨-,x, -,hx⟩:=C8 (a3B hq).1;exact h _ hx
theorem a8X {q:Fil} (h:okQ q):(i7 q).length<=maxLen:=by
 have h2:=J7 q.1 q.2 h.2.1;have h3:=h.1;have h4:=h.2.2;show (t8 q.1 q.2).length<=maxLen;unfold maxLen;omega
structure GOk (G:Int->List Fil):Prop where
 len:∀n,(G n).length<=1000000
 ok:∀n,∀q∈G n,okQ q
theorem GOk.refr {M:List (Int×Fil)} {G:Int->List Fil} (h:GOk G) (hM:M.length<=1000000) (hq:∀p∈M,okQ p.2) (near:List Int):GOk (J2 M near G):=by
 refine ⟨a4C h.len hM,fun n q hn=> ?_⟩;by_cases hi:n∈near
 ·rw [a3D hi] at hn;exact a8W hq n q hn
 rw [a0V hi] at hn;exact h.ok n q hn
theorem a4D (a b:List Fil) (k:Nat):(K5 (a.take k) b).length<=(K5 a b).length:=((List.take_sublist k a).filter _).length_le
theorem a4E (n ten:Int) (a b:List Fil):(T8 n ten a b).length=(K5 b a).length+(K5 a b).length:=by unfold T8;simp
theorem a0B.keyV2 {w:World} {ow:Ow} {c mb:Nat} {v:Option Value} {l:List Fil} {m:Option Nat} (h:a0B w ow c mb v l) (hm:v.getD (.map none)= .map m):a5y w ow (.map m) l:=by
 obtain ⟨m',h1,h2⟩:=h.keyV;rw [hm] at h1;cases h1
 exact h2
theorem M5.far {F:Nat->Prop} {w w':World} {ow ow':Ow} {c d g:Nat} {rest:List Value} {t:TypeId} {v:Value} {L:List Lr} (h:M5 w ow c d g rest t v L) (s:Far F w ow w' ow') (h0:¬F 0) (hc:¬F c) (hd:¬F d):M5 w' ow' c d g rest t v L:=by
 have hg:=(zz7 h.row).1;refine ⟨s.md.heap h.row (fun hf=> ?_),by rw [s.old g hg];exact h.tag,h.sl.sl.mod s.md (fun b hb hf=> ?_),fun b hb=> ?_,fun x hx=>⟨(h.sl.each x hx).cs.far s h0 zo,(h.sl.each x hx).fine⟩⟩
 ·have hf':F (ow g):=hf;rw [h.tag] at hf';exact hc hf'
 ·have hf':F (ow b):=hf;rw [(h.sl.vb b hb).1] at hf';exact hd hf'
 rw [s.old b (h.sl.sl.lt b hb)];exact h.sl.vb b hb
theorem J9.far {F:Nat->Prop} {w0 w w':World} {ow ow':Ow} {c b:Nat} {M:List (Int×Fil)} {N:Nat} (h:J9 w ow c b M N) (hw:Owd w0 w ow) (hw':Owd w0 w' ow') (s:Far F w ow w' ow') (h0:¬F 0) (hc:¬F c) (h2:2<=c):J9 w' ow' c b M N:=by
 have h1:Tab w' b (fun k=>ow k=c) (fun k=>ow k=0/\k<w.heap.size) M N:=Tab.mod h s.md (fun k _ hf=>by
  have hf':F (ow k):=hf
  exact ⟨fun e=>hc (by rw [<-e];exact hf'),fun e=>h0 (by rw [<-e.1];exact hf')⟩)
 refine h1.cong (fun k hk=> ?_) (fun k hk=> ?_) (fun k hk hk2=> ?_) (fun k hk=> ?_) (fun k hk=>hk.2)
 ·have hk':ow k=c:=hk;show ow' k=c;rw [s.old k (hw.hi k zo)];exact hk'
 ·exact ⟨by rw [s.old k hk.2];exact hk.1,zz13 hk.2 s.md.size⟩
 ·have hk':ow' k=c:=hk;have:=hk2.1;omega
 have hk':ow' k=c:=hk;exact hw'.hi k zo
theorem a17.far {F:Nat->Prop} {w0 w w':World} {ow ow':Ow} {c b:Nat} {I:List (Int×Fil)} {T:Nat} (h:a17 w ow c b I T) (hw:Owd w0 w ow) (hw':Owd w0 w' ow') (s:Far F w ow w' ow') (h0:¬F 0) (hc:¬F c) (h2:2<=c):a17 w' ow' c b I T:=by
 have h1:Idx w' b (fun k=>ow k=c) (fun k=>ow k=0/\k<w.heap.size) I T:=Idx.mod2 h s.md (fun k _ hf=>by
  have hf':F (ow k):=hf
  exact ⟨fun e=>hc (by rw [<-e];exact hf'),fun e=>h0 (by rw [<-e.1];exact hf')⟩)
 obtain ⟨m1,m2,h1⟩:=h1;refine ⟨m1,m2,h1.cong (fun k hk=> ?_) (fun k hk=> ?_) (fun k hk hk2=> ?_) (fun k hk=> ?_) (fun k hk=>hk.2)⟩
 ·have hk':ow k=c:=hk;show ow' k=c;rw [s.old k (hw.hi k zo)];exact hk'
 ·exact ⟨by rw [s.old k hk.2];exact hk.1,zz13 hk.2 s.md.size⟩
 ·have hk':ow' k=c:=hk;have:=hk2.1;omega
 have hk':ow' k=c:=hk;exact hw'.hi k zo
theorem a7R.far {F:Nat->Prop} {w w':World} {ow ow':Ow} {v:Option Value} {q:Option (ByteArray×Fil)} (h:a7R w ow v q) (s:Far F w ow w' ow') (h0:¬F 0):a7R w' ow' v q:=by
 cases v<;>cases q
 ·trivial
 ·exact h
 ·exact h
 obtain ⟨a,cap,h1,h2⟩:=h;exact ⟨a,cap,h1,h2.far s h0 zo⟩
theorem a0i.far {F:Nat->Prop} {w w':World} {ow ow':Ow} {c b:Nat} {S:List Sb} (h:a0i w ow c b S) (s:Far F w ow w' ow') (h0:¬F 0) (hc:¬F c):a0i w' ow' c b S:=by
 obtain ⟨f,h1,h2⟩:=h.mp
 exact ⟨by rw [s.old b h1.lt];exact h.tag,h.nd,f,h1.mod s.md (fun hf=>by
  have hf':F (ow b):=hf;rw [h.tag] at hf'
  exact hc hf'),fun id=>(h2 id).far s h0⟩
theorem M0.far {F:Nat->Prop} {w0 w w':World} {ow ow':Ow} {c g:Nat} {id:Int} {near:List Int} {B:BS} {a:BAd} (h:M0 w ow c g id near B a) (hw:Owd w0 w ow) (hw':Owd w0 w' ow') (s:Far F w ow w' ow') (h0:¬F 0) (hF:∀t,F t->t<c\/c+18<=t):M0 w' ow' c g id near B a:=by
 obtain ⟨L,h1,h2⟩:=h.log;have hn:∀t,c<=t->t<c+18->¬F t:=fun t h1 h2 h3=>by have:=hF t h3;omega
 have hc:=h.c2;refine ⟨h.c2,⟨L,h1.far s h0 (hn c zo zo) (hn (c+17) zo zo),h2⟩,h.near.far s h0 zo,fun t ht=> ?_⟩;have hr:=h.rea t ht;exact ⟨hr.tab.far hw hw' s h0 (hn _ zo zo) zo,hr.idx.far hw hw' s h0 (hn _ zo zo) zo,hr.sub.far s h0 (hn _ zo zo),hr.snt.far s h0 (hn _ zo zo)⟩
theorem M0.told2 {w0 w w':World} {ow ow':Ow} {c g:Nat} {id:Int} {near:List Int} {B:BS} {a:BAd} (h:M0 w ow c g id near B a) (hw:Owd w0 w ow) {t:Nat} (s:Mov (fun q=>q=c+13+t) w ow w' ow') (ht:t<4) {G:Int->List Fil} {K:Nat} (hs:M7 w' ow' (c+13+t) (a.mb t) G K):
 M0 w' ow' c g id near {B with R:=upd B.R t {B.R t with G:=G,K:=K}} a:=by
 have hc:=h.c2;obtain ⟨L,h1,h2⟩:=h.log;refine ⟨h.c2,⟨L,h1.mov s zo zo zo,h2⟩,h.near.mov s zo zo,fun j hj=> ?_⟩;have hr:=h.rea j hj;by_cases e:j=t
 ·subst e;show a3F w' ow' c j (a.tb j) (a.ib j) (a.sb j) (a.mb j) (upd B.R j _ j);rw [J0];exact ⟨hr.tab.mov hw s zo zo zo,hr.idx.mov hw s zo zo zo,hr.sub.mov s zo zo,hs⟩
 show a3F w' ow' c j (a.tb j) (a.ib j) (a.sb j) (a.mb j) (upd B.R t _ j);rw [L9 _ _ e];exact hr.mov hw s zo ⟨zo,zo,zo,zo⟩ hc
theorem R4.sub {w:World} {ow:Ow} {f:Fil} {a:Option Addr} {c:Nat} (h:q6 w ow 7 (.slice a f.2.length c) f.2.length (q8 f.2)):R4 w ow ⟨Mg.sub f,none,0,a,c,none,0⟩:=⟨q6.nil _ _ _,h,q6.nil _ _ _⟩
theorem R4.uns {w:World} {ow:Ow} {f:Fil} {a:Option Addr} {c:Nat} (h:q6 w ow 7 (.slice a f.2.length c) f.2.length (q8 f.2)):R4 w ow ⟨Mg.uns f,none,0,a,c,none,0⟩:=⟨q6.nil _ _ _,h,q6.nil _ _ _⟩
theorem D5.tsub {w0:World} {q:Nat} {sid:Int} (O:D5 w0 q sid) {w:World} {ow:Ow} {s:O.σ} {td ten:Int} {f:Fil} {a:Option Addr} {c:Nat} (hw:Owd w0 w ow) (hO:O.inv w ow s) (hc:O.cnt s<=400000000000) (ht:O.okTo td ten) (h:q6 w ow 7 (.slice a f.2.length c) f.2.length (q8 f.2)):
 Calls Tryz.prog 302 #[.agg #[.pointer (some ⟨q,0,none⟩),.int .i64 sid],.int .i64 td,.int .i64 ten,.agg #[.int .i64 1,.int .i64 0,.int .i64 0,.int .i64 0,.string ⟨#[]⟩,.int .i64 0,.string ⟨#[]⟩,.slice none 0 0,.string ⟨#[]⟩,.int .i64 0,.string f.1,.slice a f.2.length c,.string ⟨#[]⟩,.slice none 0 0,.int .i64 0,.string ⟨#[]⟩,.int .i64 0]] w
  fun e w'=>e= .returned (.tuple #[])/\∃ow',O.inv w' ow' (O.send s td ten (Mg.sub f))/\Mov O.tg w ow w' ow':=
 O.hsend hw hO hc ht (R4.sub h)
theorem D5.tuns {w0:World} {q:Nat} {sid:Int} (O:D5 w0 q sid) {w:World} {ow:Ow} {s:O.σ} {td ten:Int} {f:Fil} {a:Option Addr} {c:Nat} (hw:Owd w0 w ow) (hO:O.inv w ow s) (hc:O.cnt s<=400000000000) (ht:O.okTo td ten) (h:q6 w ow 7 (.slice a f.2.length c) f.2.length (q8 f.2)):
 Calls Tryz.prog 302 #[.agg #[.pointer (some ⟨q,0,none⟩),.int .i64 sid],.int .i64 td,.int .i64 ten,.agg #[.int .i64 2,.int .i64 0,.int .i64 0,.int .i64 0,.string ⟨#[]⟩,.int .i64 0,.string ⟨#[]⟩,.slice none 0 0,.string ⟨#[]⟩,.int .i64 0,.string f.1,.slice a f.2.length c,.string ⟨#[]⟩,.slice none 0 0,.int .i64 0,.string ⟨#[]⟩,.int .i64 0]] w
  fun e w'=>e= .returned (.tuple #[])/\∃ow',O.inv w' ow' (O.send s td ten (Mg.uns f))/\Mov O.tg w ow w' ow':=
 O.hsend hw hO hc ht (R4.uns h)
end
theorem a6B (w:World):(zeroValue 198).run Tryz.prog w= .ok (.agg #[.string ⟨#[]⟩,.string ⟨#[]⟩,.slice none 0 0]) w:=zk
theorem a0i.ask {w:World} {ow:Ow} {c b:Nat} {S:List Sb} (h:a0i w ow c b S) (id:Int) (hid:(Lit.int .i64 id).wf=true):
 ∃(q:ByteArray×Fil) (a:Option Addr) (cap:Nat),(Instr.lookup 112 (.map (some b)) (.int .i64 id) true).run Tryz.prog w= .ok (.tuple #[.agg #[.string q.1,.string q.2.1,.slice a q.2.2.length cap],.bool (a0A S id).isSome]) w/\
  (Instr.lookup 112 (.map (some b)) (.int .i64 id) false).run Tryz.prog w= .ok (.agg #[.string q.1,.string q.2.1,.slice a q.2.2.length cap]) w/\(∀p,a0A S id=some p->p=q/\q6 w ow 7 (.slice a q.2.2.length cap) q.2.2.length (q8 q.2.2)):=by
 obtain ⟨g,h1,h2⟩:=h.mp;have hk:=Maps.keyOf_int_mk Tryz.underlying3 hid;have h3:=h1.look_ok A5 Tryz.underlying112 (a6B w) hk;have h4:=h1.look A5 Tryz.underlying112 (a6B w) hk;have h5:=h2 id
 cases hf:g (.int .i64 id) with
 |none=>
  rw [hf] at h3 h4 h5
  cases hq:a0A S id with
  |none=>exact ⟨(⟨#[]⟩,⟨#[]⟩,[]),none,0,h3,h4,fun p hp=>by cases hp⟩
  |some p=>rw [hq] at h5;exact h5.elim
 | some v=>
  rw [hf] at h3 h4 h5
  cases hq:a0A S id with
  |none=>rw [hq] at h5;exact h5.elim
  |some p=>
   rw [hq] at h5;obtain ⟨a,cap,rfl,hc⟩:=h5;exact ⟨p,a,cap,h3,h4,fun p2 hp=>by cases hp;exact ⟨rfl,hc⟩⟩
end Go.Proofs.YtdmjoodhaeijmaaGreatDoor
