/- Lemmas. -/
import Derived.Test.YtaenebdppkjhoaaGreatDoorZg24
import Derived.Maps.OwnSet
import Derived.Maps.Own
import Derived.Shelf.SlIter.Nil
import Derived.Shelf.SlIterI.Nil
import Derived.Shelf.SortM.Plain
import Derived.Shelf.SortM.SortNone
import Derived.Maps.RangeWalk
namespace Go.Proofs.YtaenebdppkjhoaaGreatDoor
set_option maxHeartbeats 40000000
set_option maxRecDepth 20000
open Go.RowKit
def a4I (a b:Cnd):Int:=Lib.compareBytes a.prt b.prt
def ltC (a b:Cnd):Bool:=decide (a4I a b<0)
def A6 (s:List Cnd) (j:Nat):List Cnd:=(s.take j).zipIdx.filterMap fun p=>if Q7 s p.2 p.1 then none else some p.1
theorem a6V (s:List Cnd) {j:Nat} {c:Cnd} (h:s[j]? =some c):A6 s (j+1)=if Q7 s j c then A6 s j else A6 s j++[c]:=by
 obtain ⟨hj,hc⟩:=zz6 h;unfold A6;rw [List.take_succ_eq_append_getElem hj,hc,List.zipIdx_append,List.filterMap_append];have hl:(s.take j).length=j:=by rw [List.length_take];omega
 rw [hl];simp only [List.zipIdx_cons,List.zipIdx_nil,Nat.zero_add];cases hn:Q7 s j c<;>simp [hn]
theorem a34 (s:List Cnd) (j:Nat):(A6 s j).length<=j:=by
 unfold A6;refine Nat.le_trans (List.length_filterMap_le _ _) ?_;rw [List.length_zipIdx,List.length_take];omega
def M7 (l:List Cnd):List Cnd:=C3 ltC (l.map Cnd.norm)
def j2 (l:List Cnd):List Cnd:=A6 (M7 l) l.length
theorem a1E (l:List Cnd):(M7 l).length=l.length:=by unfold M7;rw [U7,zz10]
theorem a0g {l:List Cnd} {c:Cnd} (h:c∈M7 l):∃d∈l,c=d.norm:=by
 obtain ⟨d,h1,h2⟩:=List.mem_map.1 ((a0E ltC _).mem_iff.1 h);exact ⟨d,h1,h2.symm⟩
attribute [local go_sem ↓] F3
theorem b0R (w0 w:World) (hl:J3 w0 w) (a b:Cnd) (ha:a.fits) (hb:b.fits):Calls Tryz.prog 74 #[.agg a.cells.toArray,.agg b.cells.toArray] w fun e w'=>e= .returned (.int .i64 (a4I a b))/\Mod (fun _=>False) w w':=by
 obtain ⟨wa,hwa,hmwa,hgwa,hzwa⟩:=e8 w (.cells a.cells.toArray 132);obtain ⟨wb,hwb,hmwb,hgwb,hzwb⟩:=e8 wa (.cells b.cells.toArray 132);have hm2:=hmwa.trans hmwb (fun _ _ h=>h);have hga:=hmwb.heap hgwa (fun h=>h);rw [hzwa] at hgwb;have hlw:=hl.mod0 hm2;have fa:e7 wb w.heap.size 0 a.cells:=e7.row hga;have fb:e7 wb (w.heap.size+1) 0 b.cells:=e7.row hgwb
 have hF:∀w',Mod (fun _=>False) wb w'->(j9 w' w.heap.size 0 7/\cellsOf w' w.heap.size 0 7=a.cells.toArray)/\j9 w' (w.heap.size+1) 0 7/\cellsOf w' (w.heap.size+1) 0 7=b.cells.toArray:=fun w' hw'=>
  ⟨⟨(fa.mod hw' (fun h=>h)).all rfl,(fa.mod hw' (fun h=>h)).is rfl⟩,(fb.mod hw' (fun h=>h)).all rfl,(fb.mod hw' (fun h=>h)).is rfl⟩
 have h1:=fun (wx:World) (hx:Mod (fun _=>False) wb wx)=>(a1C w0 wx (hlw.mod0 hx) a ha.v ha.name).mono fun e w'' (h:_/\_)=>(⟨h.1,hx.trans h.2 (fun _ _ h=>h)⟩:e= .returned (.string (str a.prt))/\Mod (fun _=>False) wb w'');have h2:=fun (wx:World) (hx:Mod (fun _=>False) wb wx)=>(a1C w0 wx (hlw.mod0 hx) b hb.v hb.name).mono fun e w'' (h:_/\_)=>(⟨h.1,hx.trans h.2 (fun _ _ h=>h)⟩:e= .returned (.string (str b.prt))/\Mod (fun _=>False) wb w'');have h3:=fun (wx:World) (hx:Mod (fun _=>False) wb wx)=>(a7Q (str a.prt) (str b.prt) wx).mono fun e w'' (h:_/\_)=>(⟨h.1,h.2.symm▸hx⟩:e= .returned (.int .i64 (Lib.compareBytes (str a.prt).data.toList (str b.prt).data.toList))/\Mod (fun _=>False) wb w'');have hc:Lib.compareBytes (str a.prt).data.toList (str b.prt).data.toList=a4I a b:=by unfold a4I;simp [str]
 rw [hc] at h3;obtain ⟨C,hC⟩:∃C,a4I a b=C:=⟨_,rfl⟩;obtain ⟨sa,hsa⟩:∃s,str a.prt=s:=⟨_,rfl⟩;obtain ⟨sb,hsb⟩:∃s,str b.prt=s:=⟨_,rfl⟩;simp only [hC,hsa,hsb] at h1 h2 h3⊢;obtain ⟨Hwa,Hwb,Hgwa,Hgwb,Hga,Hm2,Hlw,Fa,Fb,HF,H1,H2⟩:=zh12 hwa hwb hgwa hgwb hga hm2 hlw fa fb hF h1 h2;obtain ⟨H3,Hc,HC,Hsa,Hsb,Hl,Ha,Hb⟩:=zh8 h3 hc hC hsa hsb hl ha hb;clear hwa hwb hgwa hgwb hga hm2 hlw fa fb hF h1 h2 h3 hc hC hsa hsb hl ha hb hmwa hmwb
 go_enter Tryz.func74,Tryz.ntmps74
 go_wp2_with (first|(rw [show w.alloc _=wa from Hwa.out])|(rw [show wa.alloc _=wb from Hwb.out])|fail)
 refine i8 (by kernel_rfl) (by kernel_rfl) ?_
 iterate 6 (first
  | (refine k7 ?_ (fun K hK=> ?_)
     ·first|(go_simp;done)|(go_simp;simp [undef];done)
     go_simp;refine hK _ ?_;clear hK K)
  | (refine m8 ?_ ?_ (fun w' hw'=> ?_) (fun K hK=> ?_)
     ·first|(go_simp;done)|(go_simp;simp [undef];done)
     rotate_left
     ·obtain ⟨⟨f1,f2⟩,f3,f4⟩:=HF.out w' hw';go_simp;rfl
     go_simp;refine hK _ ?_;clear hK K)
  | (refine p8 ?_ ?_ ?_ ?_ (fun w' hw'=> ?_) ?_ (fun K hK=> ?_)
     ·first|(go_simp;done)|(go_simp;simp [undef];done)
     rotate_left 3
     ·obtain ⟨⟨f1,f2⟩,f3,f4⟩:=HF.out w' hw';go_simp;constructor<;>rfl
     ·first|with_reducible exact H1.out|with_reducible exact H2.out|with_reducible exact H3.out
     go_simp;refine hK _ ?_;clear hK K))
 refine m4 (fun w' hw'=> ?_);have Hw':=Lib.hid (Hm2.out.trans hw' (fun _ _ h=>h));clear hw'
 go_wp2
 go_ret;exact ⟨rfl,Hw'.out⟩
theorem a86:∀(args:Array Value) (W:World),Sem.run Tryz.prog (callFunc 74 args) W= .ok (.enter 74 args) W:=fun args w=>by simp [go_sem]
theorem b0S:D8 Tryz.prog 31 132 7 72:=O4 (by kernel_rfl) (by kernel_rfl)
def b0T (w:World) (sc:ByteArray) (nl:List Cnd) (e:Ending) (w':World):Prop:=
 ∃a cap,e= .returned (.agg #[.string sc,.slice a nl.length cap])/\i7 w' 132 7 (.slice a nl.length cap) nl.length (l6 nl)/\(∀k,(Value.slice a nl.length cap).ownBlock=some k->w.heap.size<=k)/\Mod (fun _=>False) w w'
def b5j (w:World) (l:List Cnd) (lv i:Value) (wr:World):Prop:=
 ∃j a cap,i= .int .i64 (j:Nat)/\j<=l.length/\lv= .slice a j cap/\i7 wr 132 7 (.slice a j cap) j (l6 ((l.take j).map Cnd.norm))/\(∀k,(Value.slice a j cap).ownBlock=some k->w.heap.size<=k)/\Mod (fun _=>False) w wr
def b5k (wo:World) (O n:Nat) (sc:ByteArray) (s:List Cnd) (i:Value) (wr:World):Prop:=
 ∃j a cap,i= .int .i64 (j:Nat)/\j<=n/\wr.heap[O]? =some (.cells #[.string sc,.slice a (A6 s j).length cap] 33 (0,0))/\
  i7 wr 132 7 (.slice a (A6 s j).length cap) (A6 s j).length (l6 (A6 s j))/\(∀k,(Value.slice a (A6 s j).length cap).ownBlock=some k->O<k)/\Mod (fun k=>k=O) wo wr
theorem a0h (w0 w:World) (hl:J3 w0 w) (sc:ByteArray) (cv:Value) (l:List Cnd) (hv:j0 w 7 cv l.length (l6 l)) (hll:l.length<20) (hcs:∀c∈l,c.fits):
 Calls Tryz.prog 40 #[.agg #[.string sc,cv]] w (b0T w sc (j2 l)):=by
 obtain ⟨nl,hnl⟩:∃nl,j2 l=nl:=⟨_,rfl⟩;rw [hnl];obtain ⟨a,cap,rfl,hcap⟩:∃a c,cv= .slice a l.length c/\l.length<=c:=by obtain ⟨-,a,c,h,h2, -⟩:=hv;exact ⟨a,c,h,h2⟩
 have hll':(l.length:Int)<20:=by omega
 have hcap':(l.length:Int)<=cap:=by omega
 obtain ⟨wa,hwa,hmwa,hgwa,hzwa⟩:=e8 w (.cells #[.string sc,.slice a l.length cap] 33);obtain ⟨wb,hwb,hmwb,hgwb,hzwb⟩:=e8 wa (.cells #[.string ⟨#[]⟩,.slice none 0 0] 33);have hm2:=hmwa.trans hmwb (fun _ _ h=>h);have hga:=hmwb.heap hgwa (fun h=>h);have hzb:wb.heap.size=w.heap.size+2:=by omega
 have hzc:w.heap.size<wa.heap.size:=by omega
 have hzd:wa.heap.size<wb.heap.size:=by omega
 have hvb:=hv.mod hm2 (fun _ _ h=>h);have c1:wb.cell? ⟨w.heap.size,1,none⟩=some (.slice a l.length cap):=d6 hga rfl;obtain ⟨Hv,Hcs,Hl,Hwa,Hwb,Hgwa,Hgwb,Hga,Hm2,Hvb,Hnl⟩:=zh11 hv hcs hl hwa hwb hgwa hgwb hga hm2 hvb hnl;clear hv hcs hl hwa hwb hgwa hgwb hga hm2 hvb hnl hmwa hmwb hzwa hzwb
 go_enter Tryz.func40,Tryz.ntmps40
 go_wp2_with (first|(rw [show w.alloc _=wa from Hwa.out])|(rw [show wa.alloc _=wb from Hwb.out])|fail)
 go_loopw [3,12] (fun lv i wr=>b5j wb l lv i wr) (fun _ i _=>l.length - (intOf i).toNat)
 case atStart=>exact ⟨0,none,0,rfl,Nat.zero_le _,rfl,i7.nil _ _ _,fun k hk=>by simp [Value.ownBlock] at hk,Mod.refl _ _⟩
 case round=>
  obtain ⟨j,la,lc,rfl,hj,rfl,hown,hfr,hmr⟩:=hrel;by_cases hlt:j<l.length
  ·have hlt':(j:Int)<l.length:=by omega
   obtain ⟨x,hxj⟩:∃x,l[j]? =some x:=⟨_,zz5 hlt⟩;obtain ⟨g,off,rfl,hf⟩:∃g off,a=some ⟨g,off,none⟩/\e7 wr g (off+j*7) x.cells:=J2 (Hvb.out.mod hmr (fun _ _ h=>h)) hxj;obtain ⟨wz,hwz,hmwz,hgwz,hzwz⟩:=e8 wr (.cells x.cells.toArray 132);have hmz:=hmr.trans hmwz (fun _ _ h=>h);have hcn:=a85 x wz;have hoz:=hown.mod hmwz (fun _ _ h=>h)
   have hsn:(l.take (j+1)).map Cnd.norm=(l.take j).map Cnd.norm++[x.norm]:=by
    rw [List.take_succ_eq_append_getElem hlt,List.map_append];congr 2;have:=(zz6 hxj).2;rw [this];rfl
   obtain ⟨Hown,Hfr,Hmr,Hxj,Hf,Hwz,Hmwz,Hgwz,Hmz,Hcn,Hoz,Hsn⟩:=zh12 hown hfr hmr hxj hf hwz hmwz hgwz hmz hcn hoz hsn;clear hown hfr hmr hxj hf hwz hmwz hgwz hmz hcn hoz hsn hzwz
   go_wp2_with (first|((with_reducible refine d9 132 (.tmp 14) ?_);refine ⟨g,off+j*7,rfl,x.cells,Hf.out,by kernel_rfl,by kernel_rfl, ?_⟩)|((with_reducible refine d8 132 (.tmp 5) (.tmp 15) ?_);refine ⟨rfl,x.cells,rfl,rfl,by kernel_rfl,rfl, ?_⟩;rw [Hwz.out])|((with_reducible refine d9 132 (.tmp 5) ?_);refine ⟨wr.heap.size,0,rfl,x.cells,e7.row Hgwz.out,by kernel_rfl,by kernel_rfl, ?_⟩)|fail)
   refine Hcn.out.mono ?_;rintro e w3 ⟨rfl,hm3⟩;have ho3:=Hoz.out.mod hm3 (fun _ _ h=>h);obtain ⟨w4,hw4,hmw4,hgw4,hzw4⟩:=e8 w3 (.cells x.norm.cells.toArray 132);have hrz:j0 w4 7 (.slice (some ⟨w3.heap.size,0,none⟩) 1 1) 1 x.norm.cells:=hw4▸j0.one w3 x.norm.cells 132 rfl;have hone:∀u∈x.norm.cells,u.oneCell'=true:=fun u hu=>zz15 (show x.norm.cells.all (·.oneCell')=true from rfl) u hu;have ho4:=ho3.mod hmw4 (fun _ _ h=>h);have hm04:=(Hmz.out.trans hm3 (fun _ _ h=>h)).trans hmw4 (fun _ _ h=>h);obtain ⟨Ho4,Hw4,Hrz,Hone,Hm04⟩:=zh5 ho4 hw4 hrz hone hm04;clear ho4 hw4 hrz hone hm04 hm3 ho3 hmw4 hgw4 hzw4
   go_wp2_with (first|((with_reducible refine A0 31 (.tmp 18) ?_);refine ⟨132,7,Tryz.underlying31,by kernel_rfl,by kernel_rfl,by decide,by decide,x.norm.cells,rfl,rfl, ?_⟩;rw [Hw4.out])|((with_reducible refine j6 (.tmp 16) (.tmp 19) 31 ?_);refine ⟨rfl,132,7,72,b0S,.slice la j lc,j,l6 ((l.take j).map Cnd.norm),rfl,Ho4.out,_,1,x.norm.cells,rfl,Hrz.out,Hone.out,by omega,by unfold maxLen;omega, ?_⟩;intro ad cap5 w5 hA;have HA:=Lib.hid hA;clear hA)|fail)
   go_roundw
   case rel=>
    refine ⟨j+1,ad,cap5,by go_num,hlt,rfl, ?_, ?_, ?_⟩
    ·rw [Hsn.out,a2d];have:=HA.out.1;rw [show l6 [x.norm]=x.norm.cells from zz11 _];exact this
    ·intro k hk;rcases HA.out.2.2 with h3|⟨k',h3,h4⟩
     ·exact Hfr.out k (h3▸hk)
     rw [h3] at hk;cases hk
     have:=Hm04.out.size;omega
    exact Hm04.out.upon HA.out.2.1 (fun b hb=> .inr (Hfr.out b hb))
   case measure=>simp [intOf];omega
  obtain rfl:j=l.length:=by omega
  rw [List.take_length] at hown
  have hso:∀wx,Mod (j1 (.slice la l.length lc)) wr wx->J3 w0 wx:=fun wx hx=>((Hl.out.mod0 Hm2.out).mod0 hmr).mod hx (fun k hk hb=>by
   have h1:=hfr k hb;have h2:=Hl.out.size
   omega)
  have hmem:∀x∈l.map Cnd.norm,x.fits:=fun x hx=>by
   obtain ⟨d,hd,rfl⟩:=List.mem_map.1 hx;exact a1D (Hcs.out d hd)
  have hso2:=b2C 74 a86 a4I wr (.slice la l.length lc) (l.map Cnd.norm) (by rw [zz10];exact hown) (by rw [zz10];exact hll)
   (fun x hx y hy wx hm=>b0R w0 wx (hso wx hm) x y (hmem x hx) (hmem y hy))
  unfold a2s at hso2;rw [show C3 (fun a b=>decide (a4I a b<0)) (l.map Cnd.norm)=M7 l from rfl,a1E] at hso2;obtain ⟨Hown,Hfr,Hmr,Hso,Hmem,Hso2⟩:=zh6 hown hfr hmr hso hmem hso2;clear hown hfr hmr hso hmem hso2
  go_wp2_with fail
  refine Hso2.out.mono ?_;rintro e w2 ⟨rfl,ho2,hmo⟩;have hm02:Mod (fun _=>False) wb w2:=(Hmr.out.trans (hmo.mono (G:=fun k=>wb.heap.size<=k) (fun b _ hb=>Hfr.out b hb)) (fun b hb h=>by omega));obtain ⟨wo,hwo,hmwo,hgwo,hzwo⟩:=e8 w2 (.cells #[.string sc,.slice none 0 0] 33);have hmo2:=hm02.trans hmwo (fun _ _ h=>h);have c0:w2.cell? ⟨w.heap.size,0,none⟩=some (.string sc):=d6 (hm02.heap Hga.out (fun h=>h)) rfl;have hlo:=(Hl.out.mod0 Hm2.out).mod0 hmo2;have hrs:j0 wo 7 (.slice la l.length lc) l.length (l6 (M7 l)):=ho2.rd.mod hmwo (fun _ _ h=>h);have hlb:∀k,(Value.slice la l.length lc).ownBlock=some k->k<w2.heap.size:=ho2.lt
  have hsf:∀c∈M7 l,c.fits:=fun c hc=>by
   obtain ⟨d,hd,rfl⟩:=a0g hc;exact a1D (Hcs.out d hd)
  have hlc:l.length<=lc:=by
   obtain ⟨-,a',c',e1,e2, -⟩:=ho2.rd;cases e1
   exact e2
  have hlc':(l.length:Int)<=lc:=by omega
  obtain ⟨s,hs⟩:∃s,M7 l=s:=⟨_,rfl⟩;have hsl:s.length=l.length:=by rw [<-hs,a1E]
  rw [hs] at hrs hsf;obtain ⟨Ho2,Hmo,Hm02,Hwo,Hmwo,Hgwo,Hmo2,Hlo,Hrs,Hlb,Hsf,Hs⟩:=zh12 ho2 hmo hm02 hwo hmwo hgwo hmo2 hlo hrs hlb hsf hs;obtain ⟨Hsl,Hzwo⟩:=zh2 hsl hzwo;clear ho2 hmo hm02 hwo hmwo hgwo hmo2 hlo hrs hlb hsf hs hsl hzwo Hso2 Hso Hmem Hown Hfr Hmr c1 hlc
  go_wp2_with (first|((with_reducible refine d8 33 (.tmp 6) (.tmp 26) ?_);refine ⟨rfl,[.string sc,.slice none 0 0],rfl,rfl,by kernel_rfl,rfl, ?_⟩;rw [Hwo.out])|fail)
  go_loopw [29] (fun i wr=>b5k wo w2.heap.size l.length sc s i wr) (fun i _=>l.length - (intOf i).toNat)
  case atStart=>exact ⟨0,none,0,rfl,Nat.zero_le _,Hgwo.out,i7.nil _ _ _,fun k hk=>by simp [Value.ownBlock] at hk,Mod.refl _ _⟩
  case round=>
   obtain ⟨j,oa,oc,rfl,hj,hO,hown,hfr,hmr⟩:=hrel;by_cases hlt:j<l.length
   ·have hlt':(j:Int)<l.length:=by omega
    obtain ⟨x,hxj⟩:∃x,s[j]? =some x:=⟨_,zz5 (by rw [Hsl.out];exact hlt)⟩;have hrr:j0 wr 7 (.slice la l.length lc) l.length (l6 s):=Hrs.out.mod hmr (fun b hb h=>by have:=Hlb.out b hb;omega);obtain ⟨g,off,rfl,hf⟩:∃g off,la=some ⟨g,off,none⟩/\e7 wr g (off+j*7) x.cells:=J2 (by rw [Hsl.out];exact hrr) hxj;obtain ⟨wz,hwz,hmwz,hgwz,hzwz⟩:=e8 wr (.cells x.cells.toArray 132);have hne:=a5v wz (.slice (some ⟨g,off,none⟩) l.length lc) s (by rw [Hsl.out];exact hrr.mod hmwz (fun _ _ h=>h)) (by rw [Hsl.out];omega) j x hxj Hsf.out;have hOz:=hmwz.heap hO (fun h=>h);have hoz:=hown.mod hmwz (fun _ _ h=>h);have hkp:=a6V s hxj;have hwo2:=hmr.size;obtain ⟨N,hN⟩:∃N,Q7 s j x=N:=⟨_,rfl⟩;rw [hN] at hne hkp;obtain ⟨HO,Hown,Hfr,Hmr,Hxj,Hrr,Hf,Hwz,Hmwz,Hgwz,Hne,HOz⟩:=zh12 hO hown hfr hmr hxj hrr hf hwz hmwz hgwz hne hOz;obtain ⟨Hoz,Hkp,HN⟩:=zh3 hoz hkp hN;clear hO hown hfr hmr hxj hrr hf hwz hmwz hgwz hne hOz hoz hkp hN hzwz
    go_wp2_with (first|((with_reducible refine d9 132 (.tmp 32) ?_);refine ⟨g,off+j*7,rfl,x.cells,Hf.out,by kernel_rfl,by kernel_rfl, ?_⟩)|((with_reducible refine d8 132 (.tmp 8) (.tmp 33) ?_);refine ⟨rfl,x.cells,rfl,rfl,by kernel_rfl,rfl, ?_⟩;rw [Hwz.out])|fail)
    refine Hne.out.mono ?_;rintro e w3 ⟨rfl,hm3⟩
    cases N with
    | true=>
     have hmz3:=Hmwz.out.trans hm3 (fun _ _ h=>h);obtain ⟨Hm3,Hmz3⟩:=zh2 hm3 hmz3;clear hm3 hmz3
     go_wp2_with fail
     go_roundw
     case rel=>
      have hk:A6 s (j+1)=A6 s j:=Hkp.out;refine ⟨j+1,oa,oc,by go_num,hlt, ?_⟩;rw [hk];exact ⟨Hmz3.out.heap HO.out (fun h=>h),Hown.out.mod Hmz3.out (fun _ _ h=>h),Hfr.out,Hmr.out.trans Hmz3.out (fun _ _ h=>h.elim)⟩
     case measure=>simp [intOf];omega
    | false=>
     have hk:A6 s (j+1)=A6 s j++[x]:=Hkp.out;have hxz:=(e7.row Hgwz.out).mod hm3 (fun h=>h);have hmz3:=Hmwz.out.trans hm3 (fun _ _ h=>h);have hO3:=hmz3.heap HO.out (fun h=>h);have cO:w3.cell? ⟨w2.heap.size,1,none⟩=some (.slice oa (A6 s j).length oc):=d6 hO3 rfl;obtain ⟨w4,hw4,hmw4,hgw4,hzw4⟩:=e8 w3 (.cells x.cells.toArray 132);have hrz:j0 w4 7 (.slice (some ⟨w3.heap.size,0,none⟩) 1 1) 1 x.cells:=hw4▸j0.one w3 x.cells 132 rfl;have hone:∀u∈x.cells,u.oneCell'=true:=fun u hu=>zz15 (show x.cells.all (·.oneCell')=true from rfl) u hu;have hm4:=hmz3.trans hmw4 (fun _ _ h=>h);have ho4:=Hown.out.mod hm4 (fun _ _ h=>h);have hO4:=hmw4.heap hO3 (fun h=>h);have hkc:=a34 s j;obtain ⟨kl,hkl⟩:∃kl,A6 s j=kl:=⟨_,rfl⟩;have hkn:kl.length<=1000:=by rw [<-hkl];omega
     rw [hkl] at ho4 hO3 hO4 cO hk;have hfk:=Hfr.out;rw [hkl] at hfk;obtain ⟨Hm3,Hmz3,Hk,Hxz,HO3,Hrz,Hone,Hm4,Ho4,HO4,Hw4,Hkl⟩:=zh12 hm3 hmz3 hk hxz hO3 hrz hone hm4 ho4 hO4 hw4 hkl;have Hfk:=zh hfk;clear hm3 hmz3 hk hxz hO3 hrz hone hm4 ho4 hO4 hw4 hkl hfk hmw4 hgw4 hzw4 hkc
     go_wp2_with (first|((with_reducible refine d9 132 (.tmp 8) ?_);refine ⟨wr.heap.size,0,rfl,x.cells,Hxz.out,by kernel_rfl,by kernel_rfl, ?_⟩)|((with_reducible refine A0 31 (.tmp 40) ?_);refine ⟨132,7,Tryz.underlying31,by kernel_rfl,by kernel_rfl,by decide,by decide,x.cells,rfl,rfl, ?_⟩;rw [Hw4.out])|((with_reducible refine j6 (.tmp 39) (.tmp 41) 31 ?_);refine ⟨rfl,132,7,72,b0S,.slice oa kl.length oc,kl.length,l6 kl,rfl,Ho4.out,_,1,x.cells,rfl,Hrz.out,Hone.out,by omega,by unfold maxLen;omega, ?_⟩;intro ad cap5 w5 hA;have hO5:=hA.2.1.heap HO4.out (fun hi=>by have:=Hfk.out _ hi;omega);have c5:w5.cell? ⟨w2.heap.size,1,none⟩=some (.slice oa kl.length oc):=d6 hO5 rfl;have f5:w5.frozen? ⟨w2.heap.size,1,none⟩=false:=L7 hO5;have HA:=Lib.hid hA;have HO5:=Lib.hid hO5;clear hA hO5)|fail)
     go_roundw
     case rel=>
      have hmC:Mod (fun k=>k=w2.heap.size) w5 (w5.setCell ⟨w2.heap.size,1,none⟩ (.slice ad (kl.length+1) cap5)):=(Mod.refl (fun k=>k=w2.heap.size) w5).setCell (fun _=>rfl) _
      have hfr5:∀k,(Value.slice ad (kl.length+1) cap5).ownBlock=some k->w2.heap.size<k:=fun k hk5=>by
       rcases HA.out.2.2 with h3|⟨k',h3,h4⟩
       ·exact Hfk.out k (h3▸hk5)
       rw [h3] at hk5;cases hk5
       have h5:=Hm4.out.size;have h6:=Hmr.out.size;have h7:=(zz7 Hgwo.out).1;omega
      have hkl1:A6 s (j+1)=kl++[x]:=Hk.out;have hln:(kl++[x]).length=kl.length+1:=by rw [zz4];rfl
      refine ⟨j+1,ad,cap5,by go_num,hlt, ?_, ?_, ?_, ?_⟩
      ·rw [hkl1,hln];exact p7 HO5.out
      ·rw [hkl1,hln,a2d,show l6 [x]=x.cells from zz11 _];exact HA.out.1.mod hmC (fun b hb h=>by have:=hfr5 b hb;omega)
      ·rw [hkl1,hln];exact hfr5
      exact ((Hmr.out.trans Hm4.out (fun _ _ h=>h.elim)).upon HA.out.2.1 (fun b hb=> .inr (by
       have:=Hfk.out b hb;have:wo.heap.size=w2.heap.size+1:=Hzwo.out
       omega))).upon hmC (fun b hb=> .inl hb)
     case measure=>simp [intOf];omega
   obtain rfl:j=l.length:=by omega
   have hfin:A6 s l.length=j2 l:=by unfold j2;rw [Hs.out]
   rw [hfin] at hO hown hfr
   have hB:=(hmr.mono (G:=fun k=>k=w2.heap.size) (fun _ _ h=>h)).heap ((Hmo2.out).heap Hgwb.out (fun h=>h)) (fun h=>by
    have h1:=Hm02.out.size
    omega)
   rw [Hnl.out] at hO hown hfr;have hOc:e7 wr w2.heap.size 0 [.string sc,.slice oa nl.length oc]:=e7.row hO;obtain ⟨HO,Hown,Hfr,Hmr,Hfin,HB,HOc⟩:=zh7 hO hown hfr hmr hfin hB hOc;clear hO hown hfr hmr hfin hB hOc
   go_wp2_with (first|((with_reducible refine d9 33 (.tmp 6) ?_);refine ⟨w2.heap.size,0,rfl,[.string sc,.slice oa nl.length oc],HOc.out,by kernel_rfl,by kernel_rfl, ?_⟩)|((with_reducible refine j3 33 (.tmp 2) (.tmp 45) ?_);refine ⟨wa.heap.size,rfl,_,_,HB.out,[.string sc,.slice oa nl.length oc],rfl,rfl,by kernel_rfl,rfl, ?_⟩;intro w6 h6 hm6;have H6:=Lib.hid h6;have Hm6:=Lib.hid hm6;clear h6 hm6)|fail)
   have h1:=Hm02.out.size;refine o3 rfl wa.heap.size rfl [.string sc,.slice oa nl.length oc] (e7.row H6.out) (by kernel_rfl) (by kernel_rfl) rfl ⟨oa,oc,rfl,Hown.out.mod Hm6.out (fun b hb h=>by have:=Hfr.out b hb;omega),fun k hk=>by have:=Hfr.out k hk;omega, ?_⟩;refine ((Hm2.out.trans Hmo2.out (fun _ _ h=>h)).upon Hmr.out (fun b hb=> .inr ?_)).upon Hm6.out (fun b hb=> .inr ?_)
   ·rw [hb];omega
   rw [hb];omega
end Go.Proofs.YtaenebdppkjhoaaGreatDoor
namespace Go.Proofs.YtaenebdppkjhoaaGreatDoor
set_option maxRecDepth 20000
open Go.RowKit
def a2j:Value->Option (DataW Value×List MemPlace):=fun v=>some (.held v,[])
def l8 (w:World) (kt:TypeId) (b n:Nat) (f:Lit->Option Value):Prop:=
 ∃D:DataW Value,w.ownsMap Tryz.prog kt a2j b n D/\Maps.size D=n/\(∀kl z,D.atKey kl (.held z)= .held ((f kl).getD z))/\∀kl,Maps.has D kl=(f kl).isSome
open Classical in
noncomputable def C0 (f:Lit->Option Value) (kl:Lit) (v:Value):Lit->Option Value:=fun k=>if k=kl then some v else f k
open Classical in
noncomputable def a2k (f:Lit->Option Value) (kl:Lit):Lit->Option Value:=fun k=>if k=kl then none else f k
@[go_sem] theorem a94 (t:TypeId) (w:World):(Instr.makeMap t none).run Tryz.prog w= .ok (.map (some w.heap.size)) (w.alloc (.map #[] 0)):=rfl
theorem a0w {w:World} {kt:TypeId} {b n:Nat} {D:DataW Value} (h:w.ownsMap Tryz.prog kt a2j b n D):w.ownsMap Tryz.prog kt a2j b (Maps.size D) D:=by
 obtain ⟨es,clock,h1,h2, -,rfl⟩:=h;exact ⟨es,clock,h1,h2,by simp [Maps.size,length_sorted],rfl⟩
theorem l8.made (w:World) (kt:TypeId):l8 (w.alloc (.map #[] 0)) kt w.heap.size 0 (fun _=>none):=
 ⟨.map [],World.ownsMap_made _ _ _ _,rfl,fun _ _=>rfl,fun _=>rfl⟩
theorem l8.mod {w w':World} {kt:TypeId} {b n:Nat} {f:Lit->Option Value} {F:Nat->Prop} (h:l8 w kt b n f) (hm:Mod F w w') (hF:¬F b):l8 w' kt b n f:=by
 obtain ⟨D,⟨es,clock,h1,h2⟩,h3⟩:=h;exact ⟨D,⟨es,clock,hm.heap h1 hF,h2⟩,h3⟩
theorem l8.lt {w:World} {kt:TypeId} {b n:Nat} {f:Lit->Option Value} (h:l8 w kt b n f):b<w.heap.size:=by
 obtain ⟨D,h1, -⟩:=h;exact h1.lt
theorem l8.look {w:World} {kt t e:TypeId} {b n:Nat} {f:Lit->Option Value} (h:l8 w kt b n f) (K:Maps.Keyed Tryz.prog kt) (ht:Tryz.prog.underlying t=some (.map kt e)) {z:Value} (hz:(zeroValue e).run Tryz.prog w= .ok z w) {key:Value} {kl:Lit} (hkey:keyOf Tryz.prog kt key=some kl):
 (Instr.lookup t (.map (some b)) key false).run Tryz.prog w= .ok ((f kl).getD z) w:=by
 obtain ⟨D,h1, -,h3, -⟩:=h;obtain ⟨v,ps,hrun,hv⟩:=h1.lookup K ht hz (zd:= .held z) (zp:=[]) rfl hkey;rw [h3] at hv;simp only [a2j,Option.some.injEq,Prod.mk.injEq,DataW.held.injEq] at hv;rw [hrun,hv.1]
theorem l8.look_ok {w:World} {kt t e:TypeId} {b n:Nat} {f:Lit->Option Value} (h:l8 w kt b n f) (K:Maps.Keyed Tryz.prog kt) (ht:Tryz.prog.underlying t=some (.map kt e)) {z:Value} (hz:(zeroValue e).run Tryz.prog w= .ok z w) {key:Value} {kl:Lit} (hkey:keyOf Tryz.prog kt key=some kl):
 (Instr.lookup t (.map (some b)) key true).run Tryz.prog w= .ok (.tuple #[(f kl).getD z,.bool (f kl).isSome]) w:=by
 obtain ⟨D,h1, -,h3,h4⟩:=h;obtain ⟨v,ps,hrun,hv⟩:=h1.look_ok K ht hz (zd:= .held z) (zp:=[]) rfl hkey;rw [h3] at hv;simp only [a2j,Option.some.injEq,Prod.mk.injEq,DataW.held.injEq] at hv;rw [hrun,hv.1,h4]
theorem l8.len {w:World} {kt t e:TypeId} {b n:Nat} {f:Lit->Option Value} (h:l8 w kt b n f) (ht:Tryz.prog.underlying t=some (.map kt e)) (ty:TypeId):
 (Builtin.len_ #[t] ty #[.map (some b)]).run Tryz.prog w= .ok (.int .i64 n) w:=by
 obtain ⟨D,h1,h2, -⟩:=h;rw [h1.len ht ty,h2]
theorem a1F {w w':World} {b:Nat} (h:w.grownBy w' (some b)):Mod (fun k=>k=b) w w':=⟨h.os,h.tape,h.output,h.size,fun k hk hn=>h.block k hk (fun e=>hn (Option.some.inj e))⟩
theorem l8.put {w:World} {kt t e:TypeId} {b n:Nat} {f:Lit->Option Value} (h:l8 w kt b n f) (K:Maps.Keyed Tryz.prog kt) (ht:Tryz.prog.underlying t=some (.map kt e)) (hn:n<maxLen) {key:Value} {kl:Lit} (hkey:keyOf Tryz.prog kt key=some kl) (v:Value):
 ∃w',(Instr.mapUpdate t (.map (some b)) key v).run Tryz.prog w= .ok () w'/\l8 w' kt b (if (f kl).isSome then n else n+1) (C0 f kl v)/\Mod (fun k=>k=b) w w':=by
 obtain ⟨D,h1,h2,h3,h4⟩:=h;obtain ⟨w',hrun,r1,r2⟩:=h1.update K ht hn hkey (val:=v) (d:= .held v) (ps:=[]) rfl;have hs:=Maps.size_put (k:=kl) (h1.tidy K) (.held v);rw [h2,h4] at hs;refine ⟨w',hrun,⟨D.put kl (.held v), ?_,hs,fun k z=> ?_,fun k=> ?_⟩,a1F r2⟩
 ·rw [<-hs];exact a0w r1
 ·unfold C0;by_cases e:k=kl
  ·subst e;rw [if_pos rfl,Maps.atKey_put_same h1.isMap (K.key hkey)];rfl
  rw [if_neg e,Maps.atKey_put_other e,h3]
 unfold C0;by_cases e:k=kl
 ·subst e;rw [if_pos rfl,Maps.has_put_same h1.isMap (K.key hkey)];rfl
 rw [if_neg e,Maps.has_put_other e,h4]
theorem l8.del {w:World} {kt t e:TypeId} {b n:Nat} {f:Lit->Option Value} (h:l8 w kt b n f) (K:Maps.Keyed Tryz.prog kt) (ht:Tryz.prog.underlying t=some (.map kt e)) {key:Value} {kl:Lit} (hkey:keyOf Tryz.prog kt key=some kl) (ty:TypeId):
 ∃w',(Builtin.delete_ #[t,kt] ty #[.map (some b),key]).run Tryz.prog w= .ok (.tuple #[]) w'/\l8 w' kt b (if (f kl).isSome then n - 1 else n) (a2k f kl)/\Mod (fun k=>k=b) w w':=by
 obtain ⟨D,h1,h2,h3,h4⟩:=h;obtain ⟨w',hrun,r1,r2⟩:=h1.drop K ht hkey ty;have hs:=Maps.size_del (k:=kl) (h1.tidy K);rw [h2,h4] at hs;have hs2:Maps.size (D.del kl)=if (f kl).isSome then n - 1 else n:=by split at hs<;>simp_all<;>omega
 refine ⟨w',hrun,⟨D.del kl, ?_,hs2,fun k z=> ?_,fun k=> ?_⟩,a1F r2.grown⟩
 ·rw [<-hs2];exact a0w r1
 ·unfold a2k;by_cases e:k=kl
  ·subst e;rw [if_pos rfl,Maps.atKey_del_same];rfl
  rw [if_neg e,Maps.atKey_del_other e,h3]
 unfold a2k;by_cases e:k=kl
 ·subst e;rw [if_pos rfl,Maps.has_del_same];rfl
 rw [if_neg e,Maps.has_del_other e,h4]
theorem M5 {w:World} {ops:Array Oper} {rest:List Oper} {a:Act} {Q:Exit->Act->World->Prop} {d:Option Tmp} {tp:TypeId} {pos:String} {af:Array Edge} (t:TypeId) (m x v:Operand)
 (h:∃(kt e:TypeId) (b n:Nat) (f:Lit->Option Value) (kl:Lit),l8 w kt b n f/\Maps.Keyed Tryz.prog kt/\Tryz.prog.underlying t=some (.map kt e)/\n<maxLen/\a.eval m= .map (some b)/\keyOf Tryz.prog kt (a.eval x)=some kl/\
   ∀w',l8 w' kt b (if (f kl).isSome then n else n+1) (C0 f kl (a.eval v))->Mod (fun k=>k=b) w w'->wpList Tryz.prog ops Q rest (a.put d undef) w'):
 wpList Tryz.prog ops Q (⟨d,.mapUpdate t m x v,tp,pos,af,none⟩::rest) a w:=by
 obtain ⟨kt,e,b,n,f,kl,h1,K,ht,hn,hm,hkey,hK⟩:=h;refine wpList_plain rfl fun K' hK'=> ?_;obtain ⟨w',hrun,r1,r2⟩:=h1.put K ht hn hkey (a.eval v);unfold Oper.wp;simp [execOp,hm,hrun,Result.andThen];exact hK' _ _ (hK w' r1 r2)
end Go.Proofs.YtaenebdppkjhoaaGreatDoor
namespace Go.Proofs
open Go.Shelf
def Tryz.isorted96_ren:Go.Shelf.Ren:=⟨fun|6=>96|8=>129|9=>82|11=>175|13=>116|12=>115|23=>162|24=>163|14=>153|15=>154|16=>155|17=>156|18=>157|19=>158|20=>159|21=>160|22=>161|25=>186|26=>187|27=>188|28=>189|29=>190|30=>191|31=>211|n=>n,fun|26=>9|28=>177|24=>74|0=>0|3=>3|37=>194|48=>231|50=>221|4=>4|40=>225|39=>224|45=>166|5=>5|9=>9|51=>244|55=>248|57=>271|58=>272|33=>76|n=>n,fun|n=>n⟩
theorem Tryz.isorted96:Go.Proofs.SlLaysZ.n6 Tryz.prog Tryz.isorted96_ren:={
 mixed:=by kernel_rfl
 f6:=⟨Tryz.f96.name,by decide,Tryz.func96.trans (congrArg some (by kernel_rfl))⟩
 f8:=⟨Tryz.f129.name,by decide,Tryz.func129.trans (congrArg some (by kernel_rfl))⟩
 f11:=⟨Tryz.f175.name,by decide,Tryz.func175.trans (congrArg some (by kernel_rfl))⟩
 t0:=Tryz.underlying0
 a0:=Tryz.isAgg0
 z0:=Tryz.sizeOf0
 v0:=Tryz.zeroValue0
 t24:=Tryz.underlying74
 a24:=Tryz.isAgg74
 z24:=Tryz.sizeOf74
 v24:=Tryz.zeroValue74
 t26:=Tryz.underlying9
 a26:=Tryz.isAgg9
 z26:=Tryz.sizeOf9
 v26:=Tryz.zeroValue9
 t28:=Tryz.underlying177
 a28:=Tryz.isAgg177
 z28:=Tryz.sizeOf177
 v28:=Tryz.zeroValue177
 i26:=by kernel_rfl}
def Tryz.isort82_ren:Go.Shelf.Ren:=⟨fun|6=>82|8=>116|9=>115|19=>162|20=>163|21=>153|22=>154|23=>155|24=>156|25=>157|26=>158|27=>159|28=>160|29=>161|36=>186|31=>187|32=>188|37=>189|38=>190|39=>191|41=>211|n=>n,fun|27=>74|29=>9|3=>3|32=>194|26=>74|0=>0|44=>231|46=>221|4=>4|36=>225|35=>224|41=>166|5=>5|9=>9|53=>244|57=>248|63=>271|64=>272|n=>n,fun|n=>n⟩
theorem Tryz.isort82:Go.Proofs.SlLaysM.n6 Tryz.prog Tryz.isort82_ren:={
 mixed:=by kernel_rfl
 f6:=⟨Tryz.f82.name,by decide,Tryz.func82.trans (congrArg some (by kernel_rfl))⟩
 f8:=Tryz.func116.trans (congrArg some (by kernel_rfl))
 f9:=⟨Tryz.f115.name,by decide,Tryz.func115.trans (congrArg some (by kernel_rfl))⟩
 f19:=Tryz.func162.trans (congrArg some (by kernel_rfl))
 f20:=Tryz.func163.trans (congrArg some (by kernel_rfl))
 f21:=⟨Tryz.f153.name,by decide,Tryz.func153.trans (congrArg some (by kernel_rfl))⟩
 f22:=⟨Tryz.f154.name,by decide,Tryz.func154.trans (congrArg some (by kernel_rfl))⟩
 f23:=⟨Tryz.f155.name,by decide,Tryz.func155.trans (congrArg some (by kernel_rfl))⟩
 f24:=⟨Tryz.f156.name,by decide,Tryz.func156.trans (congrArg some (by kernel_rfl))⟩
 f25:=⟨Tryz.f157.name,by decide,Tryz.func157.trans (congrArg some (by kernel_rfl))⟩
 f26:=⟨Tryz.f158.name,by decide,Tryz.func158.trans (congrArg some (by kernel_rfl))⟩
 f27:=⟨Tryz.f159.name,by decide,Tryz.func159.trans (congrArg some (by kernel_rfl))⟩
 f28:=⟨Tryz.f160.name,by decide,Tryz.func160.trans (congrArg some (by kernel_rfl))⟩
 f29:=⟨Tryz.f161.name,by decide,Tryz.func161.trans (congrArg some (by kernel_rfl))⟩
 f31:=Tryz.func187.trans (congrArg some (by kernel_rfl))
 f32:=Tryz.func188.trans (congrArg some (by kernel_rfl))
 f36:=⟨Tryz.f186.name,by decide,Tryz.func186.trans (congrArg some (by kernel_rfl))⟩
 f37:=⟨Tryz.f189.name,by decide,Tryz.func189.trans (congrArg some (by kernel_rfl))⟩
 f38:=⟨Tryz.f190.name,by decide,Tryz.func190.trans (congrArg some (by kernel_rfl))⟩
 f39:=⟨Tryz.f191.name,by decide,Tryz.func191.trans (congrArg some (by kernel_rfl))⟩
 f41:=⟨Tryz.f211.name,by decide,Tryz.func211.trans (congrArg some (by kernel_rfl))⟩
 t0:=Tryz.underlying0
 a0:=Tryz.isAgg0
 z0:=Tryz.sizeOf0
 v0:=Tryz.zeroValue0
 t3:=Tryz.underlying3
 a3:=Tryz.isAgg3
 z3:=Tryz.sizeOf3
 v3:=Tryz.zeroValue3
 t4:=Tryz.underlying4
 a4:=Tryz.isAgg4
 z4:=Tryz.sizeOf4
 v4:=Tryz.zeroValue4
 t5:=Tryz.underlying5
 a5:=Tryz.isAgg5
 z5:=Tryz.sizeOf5
 v5:=Tryz.zeroValue5
 t9:=Tryz.underlying9
 a9:=Tryz.isAgg9
 z9:=Tryz.sizeOf9
 v9:=Tryz.zeroValue9
 t26:=Tryz.underlying74
 a26:=Tryz.isAgg74
 z26:=Tryz.sizeOf74
 v26:=Tryz.zeroValue74
 t27:=Tryz.underlying74
 a27:=Tryz.isAgg74
 z27:=Tryz.sizeOf74
 v27:=Tryz.zeroValue74
 t29:=Tryz.underlying9
 a29:=Tryz.isAgg9
 z29:=Tryz.sizeOf9
 v29:=Tryz.zeroValue9
 t32:=Tryz.underlying194
 a32:=Tryz.isAgg194
 z32:=Tryz.sizeOf194
 v32:=Tryz.zeroValue194
 t35:=Tryz.underlying224
 a35:=Tryz.isAgg224
 z35:=Tryz.sizeOf224
 v35:=Tryz.zeroValue224
 t36:=Tryz.underlying225
 a36:=Tryz.isAgg225
 z36:=Tryz.sizeOf225
 v36:=Tryz.zeroValue225
 t41:=Tryz.underlying166
 a41:=Tryz.isAgg166
 z41:=Tryz.sizeOf166
 v41:=Tryz.zeroValue166
 t44:=Tryz.underlying231
 a44:=Tryz.isAgg231
 z44:=Tryz.sizeOf231
 v44:=Tryz.zeroValue231
 t46:=Tryz.underlying221
 a46:=Tryz.isAgg221
 z46:=Tryz.sizeOf221
 v46:=Tryz.zeroValue221
 t53:=Tryz.underlying244
 a53:=Tryz.isAgg244
 z53:=Tryz.sizeOf244
 v53:=Tryz.zeroValue244
 t57:=Tryz.underlying248
 a57:=Tryz.isAgg248
 z57:=Tryz.sizeOf248
 v57:=Tryz.zeroValue248
 t63:=Tryz.underlying271
 a63:=Tryz.isAgg271
 z63:=Tryz.sizeOf271
 v63:=Tryz.zeroValue271
 t64:=Tryz.underlying272
 a64:=Tryz.isAgg272
 z64:=Tryz.sizeOf272
 v64:=Tryz.zeroValue272}
def Tryz.ikeys97_ren:Go.Shelf.Ren:=⟨fun|7=>97|10=>130|n=>n,fun|23=>174|26=>9|3=>33|28=>177|0=>0|27=>176|33=>76|4=>4|n=>n,fun|n=>n⟩
theorem Tryz.ikeys97:Go.Proofs.SlLaysZ.n7 Tryz.prog Tryz.ikeys97_ren:={
 mixed:=by kernel_rfl
 f7:=⟨Tryz.f97.name,by decide,Tryz.func97.trans (congrArg some (by kernel_rfl))⟩
 f10:=⟨Tryz.f130.name,by decide,Tryz.func130.trans (congrArg some (by kernel_rfl))⟩
 t0:=Tryz.underlying0
 a0:=Tryz.isAgg0
 z0:=Tryz.sizeOf0
 v0:=Tryz.zeroValue0
 t4:=Tryz.underlying4
 a4:=Tryz.isAgg4
 z4:=Tryz.sizeOf4
 v4:=Tryz.zeroValue4
 t23:=Tryz.underlying174
 a23:=Tryz.isAgg174
 z23:=Tryz.sizeOf174
 v23:=Tryz.zeroValue174
 t26:=Tryz.underlying9
 a26:=Tryz.isAgg9
 z26:=Tryz.sizeOf9
 v26:=Tryz.zeroValue9
 t27:=Tryz.underlying176
 a27:=Tryz.isAgg176
 z27:=Tryz.sizeOf176
 v27:=Tryz.zeroValue176
 t28:=Tryz.underlying177
 a28:=Tryz.isAgg177
 z28:=Tryz.sizeOf177
 v28:=Tryz.zeroValue177
 t33:=Tryz.underlying76
 a33:=Tryz.isAgg76
 z33:=Tryz.sizeOf76
 v33:=Tryz.zeroValue76}
open Go.RowKit Go.Maps Go.Sort in
theorem Tryz.isorts97 (m:Nat):AnyZ.SortsIn Tryz.prog Tryz.isorted96_ren Fence.wide m:=
 ⟨fun blk off cap ss W hH hblk hsz=>callsIn_wide.2 (AnyM.slices_Sort_string Tryz.isort82 blk off cap ss W hH hblk hsz),
  fun p cap W=>callsIn_wide.2 (AnyM.slices_Sort_string_none Tryz.isort82 p cap W)⟩
open Go.RowKit Go.Maps Go.Sort in
theorem Tryz.maps_Keys_97 (mb:Option Nat) (W:World):Calls Tryz.prog 97 #[.map mb] W fun e w'=>e= .returned (.func (.func 130) #[] #[.pointer (some ⟨W.heap.size,0,none⟩)])/\w'=W.alloc (.cells #[.map mb] 174):=
 (callsIn_wide (n:=5)).1 (AnyZ.keys_in Tryz.ikeys97 Fence.wide 5 trivial rfl mb W)
open Go.RowKit Go.Maps Go.Sort in
theorem Tryz.slices_Sorted_97 {H:Type} (b nn:Nat) (D0:DataW H) (R:Value->Option (DataW H×List MemPlace)) (w:World) (hown:w.ownsMap Tryz.prog 9 R b nn D0) (hmax:Maps.size D0<=maxLen) (hbytes:Maps.size D0*16<=140737488355328):
 Calls Tryz.prog 96 #[.func (.func 130) #[] #[.pointer (some ⟨w.heap.size,0,none⟩)]] (w.alloc (.cells #[.map (some b)] 174)) fun e w'=>∃(v:Value) (ss:List (List UInt8)),e= .returned v/\ss.Perm (strKeys D0)/\
  w'.ownsRow (w.alloc (.cells #[.map (some b)] 174)).heap.size 9 1 v ss.length ((ss.mergeSort (fun x y=>decide (x<=y))).map encStr)/\(v= .slice none 0 0↔ss=[])/\Below (w.alloc (.cells #[.map (some b)] 174)).heap.size (w.alloc (.cells #[.map (some b)] 174)) w':=by
 have hbl:=hown.lt
 have hseq:SeqGives Fence.wide 2 Tryz.prog 130 #[.pointer (some ⟨w.heap.size,0,none⟩)] encStr (fun ss=>ss.Perm (strKeys D0)) (Maps.size D0) (w.alloc (.cells #[.map (some b)] 174)):=
  AnyZ.keys_gives (ρ:=Tryz.ikeys97_ren) {Tryz.ikeys97 with} Fence.wide _ trivial rfl (by omega) w.heap.size b nn D0 _ (by simp) (by simp) (by
   obtain ⟨es,clock,hb,Ft,hs,hD⟩:=hown
   exact ⟨es,clock,(Below.heap_alloc _ _ b hbl).trans hb,Ft,hs,hD⟩)
 exact (callsIn_wide (n:=5)).1 (AnyZ.sorted_in Tryz.isorted96 Fence.wide 5 trivial trivial trivial trivial rfl (by omega) (Tryz.isorts97 _) (enters_of Tryz.func82 (by kernel_rfl) rfl) 130 #[.pointer (some ⟨w.heap.size,0,none⟩)] trivial (enters_of Tryz.func130 (by kernel_rfl) rfl) _ _ hmax hbytes _ hseq)
open Go.RowKit Go.Maps Go.Sort in
theorem Tryz.slices_Sorted_nil_97 (w:World):
 Calls Tryz.prog 96 #[.func (.func 130) #[] #[.pointer (some ⟨w.heap.size,0,none⟩)]] (w.alloc (.cells #[.map none] 174)) fun e w'=>e= .returned (.slice none 0 0)/\Below (w.alloc (.cells #[.map none] 174)).heap.size (w.alloc (.cells #[.map none] 174)) w':=by
 have hseq:SeqGives Fence.wide 2 Tryz.prog 130 #[.pointer (some ⟨w.heap.size,0,none⟩)] encStr (fun ss:List (List UInt8)=>ss=[]) 0 (w.alloc (.cells #[.map none] 174)):=
  AnyZ.keys_gives_nil (ρ:=Tryz.ikeys97_ren) {Tryz.ikeys97 with} Fence.wide _ trivial rfl w.heap.size _ (by simp) (by simp)
 refine ((callsIn_wide (n:=5)).1 (AnyZ.sorted_in Tryz.isorted96 Fence.wide 5 trivial trivial trivial trivial rfl (by omega) (Tryz.isorts97 _) (enters_of Tryz.func82 (by kernel_rfl) rfl) 130 #[.pointer (some ⟨w.heap.size,0,none⟩)] trivial (enters_of Tryz.func130 (by kernel_rfl) rfl) _ 0 (Nat.zero_le _) (by omega) _ hseq)).mono ?_;rintro e w' ⟨v,ss,rfl,rfl,hrow,hnil,hb⟩;obtain rfl:v= .slice none 0 0:=hnil.2 rfl;exact ⟨rfl,hb⟩
def Tryz.isorted122_ren:Go.Shelf.Ren:=⟨fun|6=>122|8=>170|9=>171|11=>195|13=>116|12=>196|23=>162|24=>163|14=>212|15=>213|16=>214|17=>215|18=>216|19=>217|20=>218|21=>219|22=>220|25=>241|26=>187|27=>188|28=>242|29=>243|30=>244|31=>270|n=>n,fun|26=>3|28=>201|24=>23|0=>0|3=>3|37=>194|48=>231|50=>221|4=>4|40=>225|39=>224|45=>166|5=>5|9=>9|51=>244|55=>248|57=>271|58=>272|33=>146|n=>n,fun|n=>n⟩
theorem Tryz.isorted122:Go.Proofs.SlLaysZI.n6 Tryz.prog Tryz.isorted122_ren:={
 mixed:=by kernel_rfl
 f6:=⟨Tryz.f122.name,by decide,Tryz.func122.trans (congrArg some (by kernel_rfl))⟩
 f8:=⟨Tryz.f170.name,by decide,Tryz.func170.trans (congrArg some (by kernel_rfl))⟩
 f11:=⟨Tryz.f195.name,by decide,Tryz.func195.trans (congrArg some (by kernel_rfl))⟩
 t0:=Tryz.underlying0
 a0:=Tryz.isAgg0
 z0:=Tryz.sizeOf0
 v0:=Tryz.zeroValue0
 t24:=Tryz.underlying23
 a24:=Tryz.isAgg23
 z24:=Tryz.sizeOf23
 v24:=Tryz.zeroValue23
 t26:=Tryz.underlying3
 a26:=Tryz.isAgg3
 z26:=Tryz.sizeOf3
 v26:=Tryz.zeroValue3
 t28:=Tryz.underlying201
 a28:=Tryz.isAgg201
 z28:=Tryz.sizeOf201
 v28:=Tryz.zeroValue201
 i26:=by kernel_rfl}
def Tryz.isort171_ren:Go.Shelf.Ren:=⟨fun|5=>171|8=>116|7=>196|19=>162|20=>163|10=>212|11=>213|12=>214|13=>215|14=>216|15=>217|16=>218|17=>219|18=>220|30=>241|31=>187|32=>188|33=>242|34=>243|35=>244|40=>270|n=>n,fun|23=>23|25=>3|3=>3|32=>194|22=>23|0=>0|44=>231|46=>221|4=>4|36=>225|35=>224|41=>166|5=>5|9=>9|53=>244|57=>248|63=>271|64=>272|n=>n,fun|n=>n⟩
theorem Tryz.isort171:Go.Proofs.SlLaysM.n5 Tryz.prog Tryz.isort171_ren:={
 mixed:=by kernel_rfl
 f5:=⟨Tryz.f171.name,by decide,Tryz.func171.trans (congrArg some (by kernel_rfl))⟩
 f7:=⟨Tryz.f196.name,by decide,Tryz.func196.trans (congrArg some (by kernel_rfl))⟩
 f8:=Tryz.func116.trans (congrArg some (by kernel_rfl))
 f10:=⟨Tryz.f212.name,by decide,Tryz.func212.trans (congrArg some (by kernel_rfl))⟩
 f11:=⟨Tryz.f213.name,by decide,Tryz.func213.trans (congrArg some (by kernel_rfl))⟩
 f12:=⟨Tryz.f214.name,by decide,Tryz.func214.trans (congrArg some (by kernel_rfl))⟩
 f13:=⟨Tryz.f215.name,by decide,Tryz.func215.trans (congrArg some (by kernel_rfl))⟩
 f14:=⟨Tryz.f216.name,by decide,Tryz.func216.trans (congrArg some (by kernel_rfl))⟩
 f15:=⟨Tryz.f217.name,by decide,Tryz.func217.trans (congrArg some (by kernel_rfl))⟩
 f16:=⟨Tryz.f218.name,by decide,Tryz.func218.trans (congrArg some (by kernel_rfl))⟩
 f17:=⟨Tryz.f219.name,by decide,Tryz.func219.trans (congrArg some (by kernel_rfl))⟩
 f18:=⟨Tryz.f220.name,by decide,Tryz.func220.trans (congrArg some (by kernel_rfl))⟩
 f19:=Tryz.func162.trans (congrArg some (by kernel_rfl))
 f20:=Tryz.func163.trans (congrArg some (by kernel_rfl))
 f30:=⟨Tryz.f241.name,by decide,Tryz.func241.trans (congrArg some (by kernel_rfl))⟩
 f31:=Tryz.func187.trans (congrArg some (by kernel_rfl))
 f32:=Tryz.func188.trans (congrArg some (by kernel_rfl))
 f33:=⟨Tryz.f242.name,by decide,Tryz.func242.trans (congrArg some (by kernel_rfl))⟩
 f34:=⟨Tryz.f243.name,by decide,Tryz.func243.trans (congrArg some (by kernel_rfl))⟩
 f35:=⟨Tryz.f244.name,by decide,Tryz.func244.trans (congrArg some (by kernel_rfl))⟩
 f40:=⟨Tryz.f270.name,by decide,Tryz.func270.trans (congrArg some (by kernel_rfl))⟩
 t0:=Tryz.underlying0
 a0:=Tryz.isAgg0
 z0:=Tryz.sizeOf0
 v0:=Tryz.zeroValue0
 t3:=Tryz.underlying3
 a3:=Tryz.isAgg3
 z3:=Tryz.sizeOf3
 v3:=Tryz.zeroValue3
 t4:=Tryz.underlying4
 a4:=Tryz.isAgg4
 z4:=Tryz.sizeOf4
 v4:=Tryz.zeroValue4
 t5:=Tryz.underlying5
 a5:=Tryz.isAgg5
 z5:=Tryz.sizeOf5
 v5:=Tryz.zeroValue5
 t9:=Tryz.underlying9
 a9:=Tryz.isAgg9
 z9:=Tryz.sizeOf9
 v9:=Tryz.zeroValue9
 t22:=Tryz.underlying23
 a22:=Tryz.isAgg23
 z22:=Tryz.sizeOf23
 v22:=Tryz.zeroValue23
 t23:=Tryz.underlying23
 a23:=Tryz.isAgg23
 z23:=Tryz.sizeOf23
 v23:=Tryz.zeroValue23
 t25:=Tryz.underlying3
 a25:=Tryz.isAgg3
 z25:=Tryz.sizeOf3
 v25:=Tryz.zeroValue3
 t32:=Tryz.underlying194
 a32:=Tryz.isAgg194
 z32:=Tryz.sizeOf194
 v32:=Tryz.zeroValue194
 t35:=Tryz.underlying224
 a35:=Tryz.isAgg224
 z35:=Tryz.sizeOf224
 v35:=Tryz.zeroValue224
 t36:=Tryz.underlying225
 a36:=Tryz.isAgg225
 z36:=Tryz.sizeOf225
 v36:=Tryz.zeroValue225
 t41:=Tryz.underlying166
 a41:=Tryz.isAgg166
 z41:=Tryz.sizeOf166
 v41:=Tryz.zeroValue166
 t44:=Tryz.underlying231
 a44:=Tryz.isAgg231
 z44:=Tryz.sizeOf231
 v44:=Tryz.zeroValue231
 t46:=Tryz.underlying221
 a46:=Tryz.isAgg221
 z46:=Tryz.sizeOf221
 v46:=Tryz.zeroValue221
 t53:=Tryz.underlying244
 a53:=Tryz.isAgg244
 z53:=Tryz.sizeOf244
 v53:=Tryz.zeroValue244
 t57:=Tryz.underlying248
 a57:=Tryz.isAgg248
 z57:=Tryz.sizeOf248
 v57:=Tryz.zeroValue248
 t63:=Tryz.underlying271
 a63:=Tryz.isAgg271
 z63:=Tryz.sizeOf271
 v63:=Tryz.zeroValue271
 t64:=Tryz.underlying272
 a64:=Tryz.isAgg272
 z64:=Tryz.sizeOf272
 v64:=Tryz.zeroValue272}
def Tryz.ikeys123_ren:Go.Shelf.Ren:=⟨fun|7=>123|10=>172|n=>n,fun|23=>157|26=>3|3=>33|28=>201|0=>0|27=>200|33=>146|4=>4|n=>n,fun|n=>n⟩
theorem Tryz.ikeys123:Go.Proofs.SlLaysZI.n7 Tryz.prog Tryz.ikeys123_ren:={
 mixed:=by kernel_rfl
 f7:=⟨Tryz.f123.name,by decide,Tryz.func123.trans (congrArg some (by kernel_rfl))⟩
 f10:=⟨Tryz.f172.name,by decide,Tryz.func172.trans (congrArg some (by kernel_rfl))⟩
 t0:=Tryz.underlying0
 a0:=Tryz.isAgg0
 z0:=Tryz.sizeOf0
 v0:=Tryz.zeroValue0
 t4:=Tryz.underlying4
 a4:=Tryz.isAgg4
 z4:=Tryz.sizeOf4
 v4:=Tryz.zeroValue4
 t23:=Tryz.underlying157
 a23:=Tryz.isAgg157
 z23:=Tryz.sizeOf157
 v23:=Tryz.zeroValue157
 t26:=Tryz.underlying3
 a26:=Tryz.isAgg3
 z26:=Tryz.sizeOf3
 v26:=Tryz.zeroValue3
 t27:=Tryz.underlying200
 a27:=Tryz.isAgg200
 z27:=Tryz.sizeOf200
 v27:=Tryz.zeroValue200
 t28:=Tryz.underlying201
 a28:=Tryz.isAgg201
 z28:=Tryz.sizeOf201
 v28:=Tryz.zeroValue201
 t33:=Tryz.underlying146
 a33:=Tryz.isAgg146
 z33:=Tryz.sizeOf146
 v33:=Tryz.zeroValue146}
open Go.RowKit Go.Maps Go.Sort in
theorem Tryz.isorts123 (m:Nat):AnyZI.SortsIn Tryz.prog Tryz.isorted122_ren Fence.wide m:=
 ⟨fun blk off cap ss W hH hblk hsz=>callsIn_wide.2 (AnyM.slices_Sort_int Tryz.isort171 blk off cap ss W hH hblk hsz),
  fun p cap W=>callsIn_wide.2 (AnyM.slices_Sort_int_none Tryz.isort171 p cap W)⟩
open Go.RowKit Go.Maps Go.Sort in
theorem Tryz.maps_Keys_123 (mb:Option Nat) (W:World):Calls Tryz.prog 123 #[.map mb] W fun e w'=>e= .returned (.func (.func 172) #[] #[.pointer (some ⟨W.heap.size,0,none⟩)])/\w'=W.alloc (.cells #[.map mb] 157):=
 (callsIn_wide (n:=5)).1 (AnyZI.keys_in Tryz.ikeys123 Fence.wide 5 trivial rfl mb W)
open Go.RowKit Go.Maps Go.Sort in
theorem Tryz.slices_Sorted_123 {H:Type} (b nn:Nat) (D0:DataW H) (R:Value->Option (DataW H×List MemPlace)) (w:World) (hown:w.ownsMap Tryz.prog 3 R b nn D0) (hmax:Maps.size D0<=maxLen) (hbytes:Maps.size D0*8<=140737488355328):
 Calls Tryz.prog 122 #[.func (.func 172) #[] #[.pointer (some ⟨w.heap.size,0,none⟩)]] (w.alloc (.cells #[.map (some b)] 157)) fun e w'=>∃(v:Value) (ss:List Int),e= .returned v/\ss.Perm (intKeys D0)/\
  w'.ownsRow (w.alloc (.cells #[.map (some b)] 157)).heap.size 3 1 v ss.length ((ss.mergeSort (fun x y=>decide (x<=y))).map encZ)/\(v= .slice none 0 0↔ss=[])/\Below (w.alloc (.cells #[.map (some b)] 157)).heap.size (w.alloc (.cells #[.map (some b)] 157)) w':=by
 have hbl:=hown.lt
 have hseq:SeqGives Fence.wide 2 Tryz.prog 172 #[.pointer (some ⟨w.heap.size,0,none⟩)] encZ (fun ss=>ss.Perm (intKeys D0)) (Maps.size D0) (w.alloc (.cells #[.map (some b)] 157)):=
  AnyZI.keys_gives (ρ:=Tryz.ikeys123_ren) {Tryz.ikeys123 with} Fence.wide _ trivial rfl (by omega) w.heap.size b nn D0 _ (by simp) (by simp) (by
   obtain ⟨es,clock,hb,Ft,hs,hD⟩:=hown
   exact ⟨es,clock,(Below.heap_alloc _ _ b hbl).trans hb,Ft,hs,hD⟩)
 exact (callsIn_wide (n:=5)).1 (AnyZI.sorted_in Tryz.isorted122 Fence.wide 5 trivial trivial trivial trivial rfl (by omega) (Tryz.isorts123 _) (enters_of Tryz.func171 (by kernel_rfl) rfl) 172 #[.pointer (some ⟨w.heap.size,0,none⟩)] trivial (enters_of Tryz.func172 (by kernel_rfl) rfl) _ _ hmax hbytes _ hseq)
end Go.Proofs
namespace Go.Proofs.YtaenebdppkjhoaaGreatDoor
set_option maxRecDepth 20000
open Go.RowKit Go.Maps Go.Sort
theorem a5w {w:World} {B sz n:Nat} {e:TypeId} {v:Value} {xs:List Value} (h:w.ownsRow B e sz v n xs):i7 w e sz v n xs/\∀k,v.ownBlock=some k->B<=k:=by
 obtain ⟨h1,h2⟩:=h;rcases h2 with ⟨rfl,rfl⟩|⟨g,cap,cur,rfl,h2,h3,h4,h5,h6,h7⟩
 ·exact ⟨⟨h1,.inl ⟨rfl,rfl⟩⟩,fun k hk=>by simp [Value.ownBlock] at hk⟩
 exact ⟨⟨h1,.inr ⟨g,0,cap,cur,rfl,h3,h4,h5,by omega,by simpa using h7⟩⟩,fun k hk=>by simp [Value.ownBlock] at hk;subst hk;exact h2⟩
theorem l8.keysI {w:World} {kt:TypeId} {b n:Nat} {f:Lit->Option Value} (h:l8 w kt b n f) (K:Maps.Keyed Tryz.prog kt) (hk:Tryz.prog.underlying kt=some (.int .i64)) {L:List Int} (hnd:L.Nodup) (hm:∀x,x∈L↔(f (.int .i64 x)).isSome=true):
 ∃D:DataW Value,w.ownsMap Tryz.prog kt a2j b n D/\L.Perm (intKeys D)/\Maps.size D=n:=by
 obtain ⟨D,h1,h2, -,h4⟩:=h;refine ⟨D,h1, ?_,h2⟩;obtain ⟨es,hD,hpw,_⟩:=h1.entries K;obtain ⟨es',hD',hko⟩:=h1.keysOf;obtain rfl:es=es':=by rw [hD] at hD';simpa using hD'
 subst hD;exact perm_intKeys hpw (fun p hp=>by obtain ⟨v,hv⟩:=hko p hp;obtain ⟨x,_,hx,_⟩:=Maps.keyOf_i64 hk hv;exact ⟨x,hx⟩) hnd (fun x=>by rw [hm x,h4])
theorem l8.keysS {w:World} {kt:TypeId} {b n:Nat} {f:Lit->Option Value} (h:l8 w kt b n f) (K:Maps.Keyed Tryz.prog kt) (hk:Tryz.prog.underlying kt=some .string) {L:List (List UInt8)} (hnd:L.Nodup) (hm:∀x,x∈L↔(f (.string x)).isSome=true):
 ∃D:DataW Value,w.ownsMap Tryz.prog kt a2j b n D/\L.Perm (strKeys D)/\Maps.size D=n:=by
 obtain ⟨D,h1,h2, -,h4⟩:=h;refine ⟨D,h1, ?_,h2⟩;obtain ⟨es,hD,hpw,_⟩:=h1.entries K;obtain ⟨es',hD',hko⟩:=h1.keysOf;obtain rfl:es=es':=by rw [hD] at hD';simpa using hD'
 subst hD;exact perm_strKeys hpw (fun p hp=>by obtain ⟨v,hv⟩:=hko p hp;obtain ⟨x,_,hx,_⟩:=Maps.keyOf_str hk hv;exact ⟨x,hx⟩) hnd (fun x=>by rw [hm x,h4])
def Y6 (L:List Int):List Int:=L.mergeSort leI
def F9 (L:List (List UInt8)):List (List UInt8):=L.mergeSort leB
theorem m7:Maps.Keyed Tryz.prog 3:=Maps.int_keyed Tryz.underlying3
theorem o6:Maps.Keyed Tryz.prog 9:=Maps.string_keyed Tryz.underlying9
def O5 (w:World) (e:TypeId) (xs:List Value) (x:Ending) (w':World):Prop:=
 ∃v,x= .returned v/\i7 w' e 1 v xs.length xs/\(∀k,v.ownBlock=some k->w.heap.size<=k)/\Mod (fun _=>False) w w'
theorem b0U (mb:Option Nat) (w:World):Calls Tryz.prog 123 #[.map mb] w fun e w'=>e= .returned (.func (.func 172) #[] #[.pointer (some ⟨w.heap.size,0,none⟩)])/\w'=w.alloc (.cells #[.map mb] 157):=
 Tryz.maps_Keys_123 mb w
theorem a6W {w:World} {b n:Nat} {f:Lit->Option Value} (h:l8 w 3 b n f) (hn:n<=1000000) {L:List Int} (hnd:L.Nodup) (hm:∀x,x∈L↔(f (.int .i64 x)).isSome=true):
 Calls Tryz.prog 122 #[.func (.func 172) #[] #[.pointer (some ⟨w.heap.size,0,none⟩)]] (w.alloc (.cells #[.map (some b)] 157)) (O5 (w.alloc (.cells #[.map (some b)] 157)) 3 ((Y6 L).map (Value.int .i64))):=by
 obtain ⟨D,h1,h2,h3⟩:=h.keysI m7 Tryz.underlying3 hnd hm;refine (Tryz.slices_Sorted_123 b n D a2j w h1 (by rw [h3];unfold maxLen;omega) (by rw [h3];omega)).mono ?_;rintro e w' ⟨v,ss,rfl,hp,hrow, -,hb⟩;obtain ⟨r1,r2⟩:=a5w hrow;have hs:ss.mergeSort (fun x y=>decide (x<=y))=Y6 L:=mergeSort_of_perm_i (hp.trans h2.symm);have hl:ss.length=(Y6 L).length:=by rw [<-hs,List.length_mergeSort]
 rw [hs,hl] at r1;exact ⟨v,rfl,by rw [zz10];exact r1,r2,⟨hb.os,hb.tape,hb.output,hb.size,fun k hk _=>hb.block k hk⟩⟩
end Go.Proofs.YtaenebdppkjhoaaGreatDoor
namespace Go.Proofs.YtaenebdppkjhoaaGreatDoor
set_option maxRecDepth 20000
open Go.RowKit
def B6 (p:Int×Cnd):List Value:= .int .i64 p.1::p.2.cells
def pls (l:List (Int×Cnd)):List Value:=l.flatMap B6
theorem a3d (l m:List (Int×Cnd)):pls (l++m)=pls l++pls m:=by unfold pls;rw [List.flatMap_append]
theorem a6X (l:List (Int×Cnd)):(pls l).length=l.length*8:=L4 (f:=B6) (sz:=8) (fun _=>rfl) l
abbrev Fil:=ByteArray×List Cnd
def q8 (I:List (Int×Fil)) (id:Int):Option Fil:=(I.find? fun p=>p.1==id).map Prod.snd
def A7 (w:World) (own C:Nat->Prop):Option Value->Option Fil->Prop
 |none,none=>True
 |some v,some q=>∃a cap,v= .agg #[.string q.1,.slice a q.2.length cap]/\i7 w 132 7 (.slice a q.2.length cap) q.2.length (l6 q.2)/\∀k,(Value.slice a q.2.length cap).ownBlock=some k->k<w.heap.size/\¬own k/\C k
 |_,_=>False
def D2 (q:Option Fil) (nm:ByteArray):List Cnd:=match q with|some q=>q.2.filter fun c=>c.name.data.toList==nm.data.toList|none=>[]
def b4D (w:World) (own:Nat->Prop) (I:List (Int×Fil)) (T:Nat) (nm:ByteArray) (v:Value):Prop:=
 ∃ps:List (Int×Cnd),i7 w 181 8 v ps.length (pls ps)/\ps.length<=T/\(∀k,v.ownBlock=some k->own k)/\∀id,(ps.filter fun p=>p.1==id).map Prod.snd=D2 (q8 I id) nm
def Lit.str (nm:ByteArray):Lit:= .string nm.data.toList
def I3:Value:= .slice none 0 0
def a3e (w:World) (b m1 m2:Nat) (own:Nat->Prop) (I:List (Int×Fil)) (T:Nat):Prop:=
 ∃n f,l8 w 9 m2 n f/\n<=T/\(∀nm:ByteArray,b4D w own I T nm ((f (Lit.str nm)).getD I3))/\
  (∀nm k,((f (Lit.str nm)).getD I3).ownBlock=some k->k≠b/\k≠m1/\k≠m2)/\∀nm nm' k,((f (Lit.str nm)).getD I3).ownBlock=some k->((f (Lit.str nm')).getD I3).ownBlock=some k->nm=nm'
def a0F (w:World) (m1:Nat) (own C:Nat->Prop) (I:List (Int×Fil)):Prop:=∃f,l8 w 3 m1 I.length f/\∀id:Int,A7 w own C (f (.int .i64 id)) (q8 I id)
structure Q8 (w:World) (b m1 m2:Nat) (own C:Nat->Prop) (I:List (Int×Fil)) (T:Nat):Prop where
 row:w.heap[b]? =some (.cells #[.map (some m1),.map (some m2)] 160 (0,0))
 nd:(I.map Prod.fst).Nodup
 ob:own b/\own m1/\own m2
 ne:b≠m1/\b≠m2/\m1≠m2
 fm:a0F w m1 own C I
 pm:a3e w b m1 m2 own I T
 low:I.length<=T
 olow:∀k,own k->k<w.heap.size
 clow:∀k,C k->k<w.heap.size
 wf:∀p∈I,(Lit.int .i64 p.1).wf=true/\p.2.2.length<=19/\∀c∈p.2.2,c.fits
 sc:∀p∈I,p.2.1.size<=1000000
def Idx (w:World) (b:Nat) (own C:Nat->Prop) (I:List (Int×Fil)) (T:Nat):Prop:=∃m1 m2,Q8 w b m1 m2 own C I T
theorem A7.mod {w w':World} {F own C:Nat->Prop} {v:Option Value} {q:Option Fil} (h:A7 w own C v q) (hm:Mod F w w') (hF:∀k,k<w.heap.size->F k->own k):A7 w' own C v q:=by
 cases v<;>cases q
 ·trivial
 ·exact h
 ·exact h
 obtain ⟨a,cap,h1,h2,h3⟩:=h;exact ⟨a,cap,h1,h2.mod hm (fun k hk hf=>(h3 k hk).2.1 (hF k (h3 k hk).1 hf)),fun k hk=>⟨zz13 (h3 k hk).1 hm.size,(h3 k hk).2⟩⟩
theorem a0F.mod {w w':World} {m1:Nat} {F own C:Nat->Prop} {I:List (Int×Fil)} (h:a0F w m1 own C I) (hm:Mod F w w') (h1:¬F m1) (hF:∀k,k<w.heap.size->F k->own k):a0F w' m1 own C I:=by
 obtain ⟨f,h2,h3⟩:=h;exact ⟨f,h2.mod hm h1,fun id=>(h3 id).mod hm hF⟩
theorem a3e.mod {w w':World} {b m1 m2:Nat} {F own:Nat->Prop} {I:List (Int×Fil)} {T:Nat} (h:a3e w b m1 m2 own I T) (hm:Mod F w w') (h2:¬F m2) (hF:∀k,own k->k≠b->k≠m1->k≠m2->k<w.heap.size->¬F k):a3e w' b m1 m2 own I T:=by
 obtain ⟨n,f2,g1,g2,g3,g4,g5⟩:=h;refine ⟨n,f2,g1.mod hm h2,g2,fun nm=> ?_,g4,g5⟩;obtain ⟨ps,p1,p2,p3,p4⟩:=g3 nm;exact ⟨ps,p1.mod hm (fun k hk=>hF k (p3 k hk) (g4 nm k hk).1 (g4 nm k hk).2.1 (g4 nm k hk).2.2 (p1.lt k hk)),p2,p3,p4⟩
theorem a3e.cong {w:World} {b m1 m2:Nat} {own own':Nat->Prop} {I I':List (Int×Fil)} {T T':Nat} (h:a3e w b m1 m2 own I T) (ho:∀k,k<w.heap.size->own k->own' k) (hI:∀id nm,D2 (q8 I' id) nm=D2 (q8 I id) nm) (hT:T<=T'):a3e w b m1 m2 own' I' T':=by
 obtain ⟨n,f2,g1,g2,g3,g4,g5⟩:=h;refine ⟨n,f2,g1,Nat.le_trans g2 hT,fun nm=> ?_,g4,g5⟩;obtain ⟨ps,p1,p2,p3,p4⟩:=g3 nm;exact ⟨ps,p1,Nat.le_trans p2 hT,fun k hk=>ho k (p1.lt k hk) (p3 k hk),fun id=>by rw [hI];exact p4 id⟩
theorem Q8.mod2 {w w':World} {b m1 m2:Nat} {own C F:Nat->Prop} {I:List (Int×Fil)} {T:Nat} (h:Q8 w b m1 m2 own C I T) (hm:Mod F w w') (hF:∀k,k<w.heap.size->F k->¬own k/\¬C k):Q8 w' b m1 m2 own C I T:=by
 have hn:∀k,own k->¬F k:=fun k hk hf=>(hF k (h.olow k hk) hf).1 hk;refine ⟨hm.heap h.row (hn _ h.ob.1),h.nd,h.ob,h.ne, ?_,h.pm.mod hm (hn _ h.ob.2.2) (fun k hk _ _ _ _=>hn k hk),h.low,fun k hk=>zz13 (h.olow k hk) hm.size,fun k hk=>zz13 (h.clow k hk) hm.size,h.wf,h.sc⟩;obtain ⟨f,h1,h2⟩:=h.fm;refine ⟨f,h1.mod hm (hn _ h.ob.2.1),fun id=> ?_⟩;have h3:=h2 id;cases hf:f (.int .i64 id)<;>cases hi:q8 I id<;>rw [hf,hi] at h3
 ·trivial
 ·exact h3
 ·exact h3
 obtain ⟨a,cap,e1,e2,e3⟩:=h3;exact ⟨a,cap,e1,e2.mod hm (fun k hk hf=>(hF k (e3 k hk).1 hf).2 (e3 k hk).2.2),fun k hk=>⟨zz13 (e3 k hk).1 hm.size,(e3 k hk).2⟩⟩
theorem Idx.mod2 {w w':World} {b:Nat} {own C F:Nat->Prop} {I:List (Int×Fil)} {T:Nat} (h:Idx w b own C I T) (hm:Mod F w w') (hF:∀k,k<w.heap.size->F k->¬own k/\¬C k):Idx w' b own C I T:=by
 obtain ⟨m1,m2,h⟩:=h;exact ⟨m1,m2,h.mod2 hm hF⟩
theorem Q8.mod {w w':World} {b m1 m2:Nat} {own C F:Nat->Prop} {I:List (Int×Fil)} {T:Nat} (h:Q8 w b m1 m2 own C I T) (hm:Mod F w w') (hF:∀k,k<w.heap.size->¬F k):Q8 w' b m1 m2 own C I T:=h.mod2 hm (fun k hk hf=>absurd hf (hF k hk))
theorem Idx.mod {w w':World} {b:Nat} {own C F:Nat->Prop} {I:List (Int×Fil)} {T:Nat} (h:Idx w b own C I T) (hm:Mod F w w') (hF:∀k,k<w.heap.size->¬F k):Idx w' b own C I T:=h.mod2 hm (fun k hk hf=>absurd hf (hF k hk))
theorem Idx.low {w:World} {b:Nat} {own C:Nat->Prop} {I:List (Int×Fil)} {T:Nat} (h:Idx w b own C I T):(∀k,own k->k<w.heap.size)/\∀k,C k->k<w.heap.size:=by
 obtain ⟨m1,m2,h⟩:=h;exact ⟨h.olow,h.clow⟩
def a5x (w:World) (e:Ending) (w':World):Prop:=∃b own,e= .returned (.pointer (some ⟨b,0,none⟩))/\Idx w' b own (fun _=>False) [] 0/\(∀k,own k->w.heap.size<=k/\k<w'.heap.size)/\Mod (fun _=>False) w w'
theorem a02 (w:World):Calls Tryz.prog 43 #[] w (a5x w):=by
 obtain ⟨wa,hwa,hmwa,hgwa,hzwa⟩:=e8 w (.map #[] 0);obtain ⟨wb,hwb,hmwb,hgwb,hzwb⟩:=e8 wa (.map #[] 0);obtain ⟨wc,hwc,hmwc,hgwc,hzwc⟩:=e8 wb (.cells #[.map (some w.heap.size),.map (some wa.heap.size)] 160);have h1:l8 wc 3 w.heap.size 0 (fun _=>none):=((hwa▸l8.made w 3:l8 wa 3 w.heap.size 0 (fun _=>none)).mod hmwb (fun h=>h)).mod hmwc (fun h=>h);have h2:l8 wc 9 wa.heap.size 0 (fun _=>none):=(hwb▸l8.made wa 9:l8 wb 9 wa.heap.size 0 (fun _=>none)).mod hmwc (fun h=>h)
 have hi:Q8 wc wb.heap.size w.heap.size wa.heap.size (fun k=>k=w.heap.size\/k=wa.heap.size\/k=wb.heap.size) (fun _=>False) [] 0:=
  ⟨hgwc,List.nodup_nil,⟨.inr (.inr rfl),.inl rfl,.inr (.inl rfl)⟩,by omega,⟨_,h1,fun _=>trivial⟩,⟨0,_,h2,Nat.le_refl _,fun nm=>⟨[],i7.nil _ _ _,Nat.le_refl _,fun k hk=>by simp [I3,Value.ownBlock] at hk,fun _=>rfl⟩,
   fun nm k hk=>by simp [I3,Value.ownBlock] at hk,fun nm nm' k hk=>by simp [I3,Value.ownBlock] at hk⟩,Nat.le_refl _,fun k hk=>by omega,fun _ h=>h.elim,fun p hp=>(by cases hp),fun p hp=>(by cases hp)⟩
 have hm:Mod (fun _=>False) w wc:=(hmwa.trans hmwb (fun _ _ h=>h)).trans hmwc (fun _ _ h=>h);have hz:wb.heap.size=w.heap.size+2/\wa.heap.size=w.heap.size+1/\wc.heap.size=w.heap.size+3:=by omega
 obtain ⟨Hwa,Hwb,Hwc,H1,H2,Hi,Hm,Hgwc,Hgwa,Hgwb,Hz⟩:=zh11 hwa hwb hwc h1 h2 hi hm hgwc hgwa hgwb hz;clear hwa hwb hwc h1 h2 hi hm hgwc hgwa hgwb hz hmwa hmwb hmwc hzwa hzwb hzwc
 go_enter Tryz.func43,Tryz.ntmps43
 go_wp2_with (first|(rw [show w.alloc _=wa from Hwa.out])|(rw [show wa.alloc _=wb from Hwb.out])|(rw [show wb.alloc _=wc from Hwc.out])|fail)
 go_ret;refine ⟨wb.heap.size,_,rfl,⟨_,_,Hi.out⟩,fun k hk=> ?_,Hm.out⟩;have:=Hz.out;rcases hk with rfl|rfl|rfl<;>omega
end Go.Proofs.YtaenebdppkjhoaaGreatDoor
namespace Go.Proofs.YtaenebdppkjhoaaGreatDoor
set_option maxRecDepth 20000
open Go.RowKit
theorem o9 (p:Int×Cnd):(B6 p).length=8:=rfl
theorem b24 {α:Type} {f:α->List Value} {sz:Nat} (hf:∀a,(f a).length=sz) (l:List α) {k j:Nat} {a:α} {u:Value} (h:l[k]? =some a) (hj:(f a)[j]? =some u):(l.flatMap f)[k*sz+j]? =some u:=by
 induction l generalizing k with
 |nil=>simp at h
 | cons b l ih=>
  rw [List.flatMap_cons];have hl:=(zz6 hj).1
  cases k with
  |zero=>
   simp only [List.getElem?_cons_zero,Option.some.injEq] at h;subst h;rw [List.getElem?_append_left (by omega),Nat.zero_mul,Nat.zero_add,hj]
  |succ k=>
   rw [List.getElem?_cons_succ] at h;rw [List.getElem?_append_right (by rw [hf,Nat.add_mul];omega),hf,show (k+1)*sz+j - sz=k*sz+j by rw [Nat.add_mul];omega];exact ih h
theorem a0x {α:Type} {f:α->List Value} {sz:Nat} (hf:∀a,(f a).length=sz) {w:World} {a:Option Addr} {cap:Nat} {l:List α} {j:Nat} {x:α} (h:j0 w sz (.slice a l.length cap) l.length (l.flatMap f)) (hx:l[j]? =some x):∃g off,a=some ⟨g,off,none⟩/\e7 w g (off+j*sz) (f x):=by
 obtain ⟨-,a',c',h1, -,h3,h4⟩:=h;cases h1
 cases a with
 |none=>have:=(zz6 hx).1;exact absurd (h3 rfl) (by omega)
 |some b=>
  obtain ⟨g',off',h5,h6⟩:=h4 _ rfl (by have:=(zz6 hx).1;omega);refine ⟨g',off',by rw [h5],fun i u hu=> ?_⟩;have:=h6 (j*sz+i) u (b24 hf _ hx hu);rw [Nat.add_assoc];exact this
theorem a87:(match Tryz.prog.underlying 181 with|some (.struct _)=>true|some (.array _ _)=>true|_=>false)=true:=by kernel_rfl
theorem b25:(Tryz.prog.info? 181).map (·.size)=some 8:=by kernel_rfl
theorem a5y {ρ:Operand->Value} {dst:Option Tmp} {x:Operand} {type:TypeId} {pos:String} {after:Array Edge} {guard:Option (Nat×Bool)} {w:World} (h:a4E w (ρ x) 8):
 Sem.run Tryz.prog (execOp ρ ⟨dst,.load 181 x,type,pos,after,guard⟩) w= .ok (.value (.agg (V4 w (ρ x) 8))) w:=B3 a87 b25 h
theorem a6Y (w:World):(zeroValue 181).run Tryz.prog w= .ok (.agg #[.int .i64 0,.string ⟨#[]⟩,.int .i64 0,.int .i64 0,.int .i64 0,.float .f64 0,.string ⟨#[]⟩,.bool false]) w:=by kernel_rfl
theorem a8g (w:World) (p:Int×Cnd) (g:Nat) (id:Int) (hg:w.cell? ⟨g,0,none⟩=some (.int .i64 id)):Calls Tryz.prog 107 #[.agg (B6 p).toArray,.pointer (some ⟨g,0,none⟩)] w fun e w'=>e= .returned (.bool (p.1==id))/\Mod (fun _=>False) w w':=by
 obtain ⟨wa,hwa,hmwa,hgwa,hzwa⟩:=e8 w (.cells (B6 p).toArray 181);have c0:wa.cell? ⟨w.heap.size,0,none⟩=some (.int .i64 p.1):=d6 hgwa rfl;have c1:wa.cell? ⟨g,0,none⟩=some (.int .i64 id):=hmwa.cell hg (fun h=>h);obtain ⟨Hwa,Hmwa,Hgwa⟩:=zh3 hwa hmwa hgwa;clear hwa hmwa hgwa hzwa hg
 go_enter Tryz.func107,Tryz.ntmps107
 go_wp2_with (first|(rw [show w.alloc _=wa from Hwa.out])|fail)
 go_ret;exact ⟨rfl,Hmwa.out⟩
def b26 (w:World) (ps:List (Int×Cnd)) (id:Int) (e:Ending) (w':World):Prop:=Mod (fun _=>False) w w'/\
 ((e= .returned (.int .i64 (-1))/\∀p∈ps,p.1≠id)\/∃i:Nat,e= .returned (.int .i64 i)/\i<ps.length/\(∀p∈ps.take i,p.1≠id)/\∃p,ps[i]? =some p/\p.1=id)
attribute [local go_sem ↓] a5y
theorem b27 (w:World) (v:Value) (ps:List (Int×Cnd)) (hv:j0 w 8 v ps.length (pls ps)) (hn:ps.length<=1000000) (g:Nat) (id:Int) (hg:w.cell? ⟨g,0,none⟩=some (.int .i64 id)):
 Calls Tryz.prog 139 #[v,.func (.func 107) #[] #[.pointer (some ⟨g,0,none⟩)]] w (b26 w ps id):=by
 obtain ⟨a,cap,rfl⟩:∃a c,v= .slice a ps.length c:=by obtain ⟨-,a,c,h, -⟩:=hv;exact ⟨a,c,h⟩
 obtain ⟨Hv,Hg⟩:=zh2 hv hg;clear hv hg
 go_enter Tryz.func139,Tryz.ntmps139
 go_wp2_with fail
 go_loopw [8] (fun i wr=>∃j:Nat,i= .int .i64 j/\j<=ps.length/\(∀p∈ps.take j,p.1≠id)/\Mod (fun _=>False) w wr) (fun i _=>ps.length - (intOf i).toNat)
 case atStart=>exact ⟨0,rfl,Nat.zero_le _,fun p h=>by simp at h,Mod.refl _ _⟩
 case round=>
  obtain ⟨j,rfl,hj,hp,hmr⟩:=hrel;by_cases hlt:j<ps.length
  ·have hlt':(j:Int)<ps.length:=by omega
   obtain ⟨x,hxj⟩:∃x,ps[j]? =some x:=⟨_,zz5 hlt⟩;obtain ⟨bg,off,rfl,hf⟩:∃bg off,a=some ⟨bg,off,none⟩/\e7 wr bg (off+j*8) (B6 x):=a0x o9 (Hv.out.mod hmr (fun _ _ h=>h)) hxj;have ha:=hf.all (o9 x);have hc:=hf.is (o9 x);have hr:=a8g wr x g id (hmr.cell Hg.out (fun h=>h));obtain ⟨Hf,Hxj,Hp,Hmr,Hr⟩:=zh5 hf hxj hp hmr hr;clear hf hxj hp hmr hr
   go_wp2_with fail
   refine Hr.out.mono ?_;rintro e w2 ⟨rfl,hm2⟩;have hmw2:=Hmr.out.trans hm2 (fun _ _ h=>h)
   cases he:x.1==id with
   |true=>
    obtain ⟨Hm2,Hmw2,He⟩:=zh3 hm2 hmw2 he;clear hm2 hmw2 he
    go_wp2_with fail
    go_ret;exact ⟨Hmw2.out,.inr ⟨j,rfl,hlt,Hp.out,x,Hxj.out,beq_iff_eq.1 He.out⟩⟩
   | false=>
    obtain ⟨Hm2,Hmw2,He⟩:=zh3 hm2 hmw2 he;clear hm2 hmw2 he
    go_wp2_with fail
    go_roundw
    case rel=>
     refine ⟨j+1,by go_num,hlt,fun p h=> ?_,Hmw2.out⟩;rw [List.take_add_one,Hxj.out] at h;rcases zz14 h with h|h
     ·exact Hp.out p h
     obtain rfl:p=x:=by simpa using h
     exact beq_eq_false_iff_ne.1 He.out
    case measure=>simp [intOf];omega
  obtain rfl:j=ps.length:=by omega
  rw [List.take_length] at hp;obtain ⟨Hp,Hmr⟩:=zh2 hp hmr;clear hp hmr
  go_wp2_with fail
  go_ret;exact ⟨Hmr.out,.inl ⟨rfl,Hp.out⟩⟩
theorem a0p {P:Program} {w:World} {ops:Array Oper} {rest:List Oper} {a:Act} {Q:Exit->Act->World->Prop} {d:Option Tmp} {tp:TypeId} {pos:String} {af:Array Edge} (ty:TypeId) (x y:Operand)
 (h:∃(g off:Nat) (cur:Array Value) (t:TypeId) (cs:List Value),a.eval x= .pointer (some ⟨g,off,none⟩)/\w.heap[g]? =some (.cells cur t (0,0))/\a.eval y= .agg cs.toArray/\off+cs.length<=cur.size/\(P.info? ty).map (·.size)=some cs.length/\(∀u∈cs,u.oneCell'=true)/\
   ∀w',w'=w.setRow g (cur.toList.take off++cs++cur.toList.drop (off+cs.length)).toArray->wpList P ops Q rest (a.put d undef) w'):
 wpList P ops Q (⟨d,.store ty x y,tp,pos,af,none⟩::rest) a w:=by
 obtain ⟨g,off,cur,t,cs,hx,hg,hy,hl,hi,h1,hK⟩:=h;exact wpList_plain rfl fun K' hK'=>Q0 ty x y rfl g off hx cur t hg cs hy hl hi h1 (hK' _ _ (hK _ rfl))
def zpl:List Value:=[.int .i64 0,.string ⟨#[]⟩,.int .i64 0,.int .i64 0,.int .i64 0,.float .f64 0,.string ⟨#[]⟩,.bool false]
theorem b28 (n:Nat):∀u∈(Builtin.zeroCells zpl.toArray n).toList,u.oneCell'=true:=fun u hu=>by
 unfold Builtin.zeroCells at hu;simp only [Array.toList_map,List.mem_map] at hu;obtain ⟨i, -,rfl⟩:=hu;have hlt:i%8<8:=Nat.mod_lt _ (by decide);have all:∀r,r<8->(zpl.toArray[r]!).oneCell'=true:=by decide
 exact all _ hlt
theorem a88 {w:World} {g off N cap i:Nat} {xs:List Value} (h:i7 w 181 8 (.slice (some ⟨g,off,none⟩) N cap) N xs) (hi:i<N):
 ∃w',(∀ty,(Builtin.clear_ #[179] ty #[.slice (some ⟨g,off+i*8,none⟩) (N - i) (cap - i)]).run Tryz.prog w= .ok (.tuple #[]) w')/\
  i7 w' 181 8 (.slice (some ⟨g,off,none⟩) i cap) i (xs.take (i*8))/\Mod (fun k=>k=g) w w':=by
 obtain ⟨hlen,h⟩:=h;rcases h with ⟨h, -⟩|⟨g',off',cap',cur,hv,hg,hn,hc,hs,ht⟩
 ·cases h
 cases hv
 have hzl:(Builtin.zeroCells zpl.toArray (N - i)).toList.length=(N - i)*8:=by unfold Builtin.zeroCells;simp [zpl]
 have hN:i*8+(N - i)*8=N*8:=by omega
 have hNc:N*8<=cap*8:=Nat.mul_le_mul_right _ hn;have hst:=run_storeCells_at Tryz.prog g (off+i*8) 181 (Builtin.zeroCells zpl.toArray (N - i)).toList 0 cur w hg (by rw [hzl];omega) (b28 _);simp only [Nat.add_zero] at hst;obtain ⟨row,hrow⟩:∃row,(cur.toList.take (off+i*8)++(Builtin.zeroCells zpl.toArray (N - i)).toList++cur.toList.drop (off+i*8+(Builtin.zeroCells zpl.toArray (N - i)).toList.length)).toArray=row:=⟨_,rfl⟩;rw [hrow] at hst;refine ⟨w.setRow g row,fun ty=> ?_,⟨by rw [List.length_take,hlen];omega,.inr ⟨g,off,cap,row,rfl,setRow_heap w g cur row _ _ hg,by omega,hc, ?_, ?_⟩⟩,(Mod.refl (fun k=>k=g) w).setRow (fun _=>rfl) row⟩;rotate_left 1
 ·rw [<-hrow];simp only [List.size_toArray,zz4,List.length_take,List.length_drop,Array.length_toList,hzl];omega
 ·rw [<-ht,List.take_take,Nat.min_eq_left (by omega),<-hrow];apply List.ext_getElem?;intro k;rw [List.getElem?_take,List.getElem?_take];split
  ·rw [List.getElem?_drop,List.getElem?_drop,zz12,List.getElem?_append_left (by rw [List.length_take,Array.length_toList];omega),List.getElem?_take,if_pos (by omega)]
  rfl
 obtain ⟨m,hm⟩:∃m,N - i=m+1:=⟨N - i - 1,by omega⟩;have hz:=a6Y w;rw [hm] at hst⊢;have he:(Value.agg #[.int .i64 0,.string ⟨#[]⟩,.int .i64 0,.int .i64 0,.int .i64 0,.float .f64 0,.string ⟨#[]⟩,.bool false]).cells=zpl.toArray:=rfl;simp [Builtin.clear_,run_underlying Tryz.underlying179,hz,he,hst]
def b29 (w:World) (v:Value) (ps:List (Int×Cnd)) (id:Int) (e:Ending) (w':World):Prop:=
 ∃v' ps',e= .returned v'/\ps'=ps.filter (fun p=> !(p.1==id))/\i7 w' 181 8 v' ps'.length (pls ps')/\v'.ownBlock=v.ownBlock/\Mod (j1 v) w w'
def b0V (w:World) (v:Value) (ps:List (Int×Cnd)) (id:Int) (iv jv:Value) (wr:World):Prop:=
 ∃(i j:Nat) (L:List (Int×Cnd)),iv= .int .i64 i/\jv= .int .i64 j/\i<j/\j<=ps.length/\L.length=ps.length/\i7 wr 181 8 v L.length (pls L)/\L.take i=(ps.take j).filter (fun p=> !(p.1==id))/\L.drop j=ps.drop j/\Mod (j1 v) w wr
theorem a38 (w:World):(Go.sizeOf 181).run Tryz.prog w= .ok 8 w:=by kernel_rfl
theorem b3a (w:World) (v:Value) (ps:List (Int×Cnd)) (hv:i7 w 181 8 v ps.length (pls ps)) (hn:ps.length<=1000000) (g:Nat) (id:Int) (hg:w.cell? ⟨g,0,none⟩=some (.int .i64 id)) (hgv:¬j1 v g):
 Calls Tryz.prog 106 #[v,.func (.func 107) #[] #[.pointer (some ⟨g,0,none⟩)]] w (b29 w v ps id):=by
 obtain ⟨a,cap,rfl,hcap⟩:=hv.shape;have hix:=b27 w (.slice a ps.length cap) ps hv.rd hn g id hg;obtain ⟨Hv,Hg,Hgv,Hix⟩:=zh4 hv hg hgv hix;clear hv hg hgv hix
 go_enter Tryz.func106,Tryz.ntmps106
 go_wp2_with fail
 refine Hix.out.mono ?_;rintro e w2 ⟨hm2,⟨rfl,hno⟩|⟨i,rfl,hi,hb,x,hx,hxi⟩⟩
 ·have hf:ps.filter (fun p=> !(p.1==id))=ps:=List.filter_eq_self.2 (fun p hp=>by have:=hno p hp;simp [this]);have hv2:=Hv.out.mod hm2 (fun _ _ h=>h);obtain ⟨Hm2,Hf,Hv2,Hno⟩:=zh4 hm2 hf hv2 hno;clear hm2 hf hv2 hno
  go_wp2_with fail
  go_ret;exact ⟨_,_,rfl,rfl,by rw [Hf.out];exact Hv2.out,rfl,Hm2.out.mono (fun _ _ h=>h.elim)⟩
 have hv2:=Hv.out.mod hm2 (fun _ _ h=>h);have hi':(i:Int)<ps.length:=by omega
 have hin:((i:Int)== -1)=false:=by rw [beq_eq_false_iff_ne];omega
 have hst:b0V w (.slice a ps.length cap) ps id (.int .i64 i) (.int .i64 ((i+1:Nat):Int)) w2:=by
  refine ⟨i,i+1,ps,rfl,rfl,by omega,hi,rfl,hv2, ?_,rfl,hm2.mono (fun _ _ h=>h.elim)⟩;rw [List.take_add_one,hx,List.filter_append,List.filter_eq_self.2 (fun p hp=>by have:=hb p hp;simp [this])];simp [hxi]
 obtain ⟨bg,off,rfl, -⟩:∃bg off,a=some ⟨bg,off,none⟩/\e7 w2 bg (off+i*8) (B6 x):=a0x o9 hv2.rd hx;obtain ⟨Hm2,Hv2,Hb,Hx,Hst⟩:=zh5 hm2 hv2 hb hx hst;clear hm2 hv2 hb hx hst
 go_wp2_with fail
 go_loopw [5,6] (fun iv jv wr=>b0V w (.slice (some ⟨bg,off,none⟩) ps.length cap) ps id iv jv wr) (fun _ jv _=>ps.length - (intOf jv).toNat)
 case atStart=>exact Hst.out
 case round=>
  obtain ⟨i,j,L,rfl,rfl,hij,hj,hLl,hL,hT,hD,hmr⟩:=hrel;by_cases hlt:j<ps.length
  ·have hlt':(j:Int)<ps.length:=by omega
   obtain ⟨y,hy⟩:∃y,ps[j]? =some y:=⟨_,zz5 hlt⟩
   have hLy:L[j]? =some y:=by
    have:=congrArg (fun l:List (Int×Cnd)=>l[0]?) hD;simp only [List.getElem?_drop,Nat.add_zero] at this;rw [this,hy]
   obtain ⟨bg',off',hbe,hf⟩:=a0x o9 (hLl▸hL.rd:j0 wr 8 (.slice (some ⟨bg,off,none⟩) L.length cap) L.length (pls L)) hLy;cases hbe
   have ha:=hf.all (o9 y);have hc:=hf.is (o9 y);obtain ⟨wz,hwz,hmwz,hgwz,hzwz⟩:=e8 wr (.cells (B6 y).toArray 181);have haz:=(e7.row hgwz).all (o9 y);have hcz:=(e7.row hgwz).is (o9 y);have hr:=a8g wz y g id ((hmr.trans (hmwz.mono (fun _ _ h=>h.elim)) (fun _ _ h=>h)).cell Hg.out Hgv.out);have hTx:L.take i=(ps.take j).filter (fun p=> !(p.1==id)):=hT
   have hnx:(ps.take (j+1)).filter (fun p=> !(p.1==id))=L.take i++if (y.1==id)=true then [] else [y]:=by
    rw [List.take_add_one,hy,List.filter_append,<-hT];congr 1;cases hyi:y.1==id<;>simp [hyi]
   have hDn:L.drop (j+1)=ps.drop (j+1):=by rw [<-List.drop_drop,<-List.drop_drop,hD]
   obtain ⟨Hy,HLy,HL,HT,HTx,Hnx,HD,HDn,Hmr,Hf,Hwz,Hmwz⟩:=zh12 hy hLy hL hT hTx hnx hD hDn hmr hf hwz hmwz;obtain ⟨Hgwz,Hr⟩:=zh2 hgwz hr;clear hy hLy hL hT hTx hnx hD hDn hmr hf hwz hmwz hgwz hr hzwz
   go_wp2_with (first|((with_reducible refine d8 181 (.tmp 7) (.tmp 25) ?_);refine ⟨rfl,B6 y,rfl,rfl,by kernel_rfl,rfl, ?_⟩;rw [Hwz.out])|fail)
   refine Hr.out.mono ?_;rintro e w3 ⟨rfl,hm3⟩;have hm3z:=Hmwz.out.trans hm3 (fun _ _ h=>h);have hL3:=HL.out.mod hm3z (fun _ _ h=>h);have hmr3:=Hmr.out.trans hm3z (fun _ _ h=>h.elim);have haw:=((e7.row Hgwz.out).mod hm3 (fun h=>h)).all (o9 y);have hcw:=((e7.row Hgwz.out).mod hm3 (fun h=>h)).is (o9 y)
   cases he:y.1==id with
   |true=>
    have hnx':=Hnx.out;rw [he,if_pos rfl,zz11] at hnx';obtain ⟨Hm3,Hm3z,HL3,Hmr3,He,Hnx'⟩:=zh6 hm3 hm3z hL3 hmr3 he hnx';clear hm3 hm3z hL3 hmr3 he hnx'
    go_wp2_with fail
    go_roundw
    case rel=>exact ⟨i,j+1,L,rfl,by go_num,by omega,hlt,hLl,HL3.out,Hnx'.out.symm,HDn.out,Hmr3.out⟩
    case measure=>simp [intOf];omega
   | false=>
    have hnx':=Hnx.out;rw [he,if_neg (by decide)] at hnx';obtain ⟨g1,off1,cap1,cur,q1,q2,q3,q4,q5⟩:=a6x (f:=B6) (fun _=>rfl) (j:=i) hL3 (by omega) y;rw [hLl] at q1;cases q1
    have hi2:(i:Int)<ps.length:=by omega
    obtain ⟨Hm3,Hm3z,HL3,Hmr3,He,Hnx',Q2,Q3,Q4,Q5⟩:=zh10 hm3 hm3z hL3 hmr3 he hnx' q2 q3 q4 q5;clear hm3 hm3z hL3 hmr3 he hnx' q2 q3 q4 q5
    go_wp2_with (first|((with_reducible refine a0p 181 (.tmp 33) (.tmp 32) ?_);refine ⟨bg,off+i*8,cur,181,B6 y,rfl,Q2.out,rfl,Q3.out,by kernel_rfl,fun u hu=>zz15 (show (B6 y).all (·.oneCell')=true from rfl) u hu, ?_⟩;intro w4 hw4;have Hw4:=Lib.hid hw4;clear hw4)|fail)
    have hm4:Mod (j1 (.slice (some ⟨bg,off,none⟩) ps.length cap)) w w4:=Hw4.out▸Hmr3.out.setRow (fun _=>rfl) _;have hL4:i7 w4 181 8 (.slice (some ⟨bg,off,none⟩) ps.length cap) L.length (pls (L.set i y)):=Hw4.out▸Q5.out;refine ⟨⟨i+1,j+1,L.set i y,by go_num,by go_num,by omega,hlt,by rw [List.length_set];exact hLl,by rw [List.length_set];exact hL4, ?_, ?_,hm4⟩,by simp [intOf];omega⟩
    ·rw [Hnx'.out,List.take_add_one,List.take_set,List.getElem?_set_self (by omega)];rw [List.set_eq_of_length_le (by rw [List.length_take];omega)];rfl
    rw [List.drop_set_of_lt (by omega)];exact HDn.out
  obtain rfl:j=ps.length:=by omega
  rw [List.take_length] at hT;have hip:(i:Int)<ps.length:=by omega
  have hic:(i:Int)<=cap:=by omega
  rw [hLl] at hL;obtain ⟨w5,hcl,ho5,hm5⟩:=a88 (w:=wr) hL hij;have hmw5:Mod (j1 (.slice (some ⟨bg,off,none⟩) ps.length cap)) w w5:=hmr.trans (hm5.mono (G:=j1 (.slice (some ⟨bg,off,none⟩) ps.length cap)) (fun k _ h=>by rw [h];rfl)) (fun _ _ h=>h);have hne:¬cap=i:=by omega
  have hs1:∀W,(Instr.slice 179 (.slice (some ⟨bg,off,none⟩) ps.length cap) (some (.int .i64 i)) none none).run Tryz.prog W= .ok (.slice (some ⟨bg,off+i*8,none⟩) (ps.length - i) (cap - i)) W:=fun W=>by
   rw [run_slice_l W 179 _ _ _ (by kernel_rfl) .i64 _ (by omega) (by omega),show Tryz.prog.elem 179=181 from by kernel_rfl,a38];simp [Result.andThen,sliced,hne,t7]
  have hs2:∀W,(Instr.slice 179 (.slice (some ⟨bg,off,none⟩) ps.length cap) none (some (.int .i64 i)) none).run Tryz.prog W= .ok (.slice (some ⟨bg,off,none⟩) i cap) W:=fun W=>by
   rw [run_slice_h W 179 _ _ _ (by kernel_rfl) .i64 _ (by omega) (by omega),show Tryz.prog.elem 179=181 from by kernel_rfl,a38];simp [Result.andThen,sliced,t7]
  have hfl:(ps.filter (fun p=> !(p.1==id))).length=i:=by rw [<-hT,List.length_take];omega
  have hpl:(pls L).take (i*8)=pls (ps.filter (fun p=> !(p.1==id))):=by
   rw [<-hT]
   conv=>lhs;rw [<-List.take_append_drop i L,a3d]
   rw [show i*8=(pls (L.take i)).length by rw [a6X,List.length_take];omega,List.take_left]
  rw [hpl] at ho5;obtain ⟨HL,HT,HD,Hmr,Ho5,Hm5,Hmw5,Hfl,Hpl⟩:=zh9 hL hT hD hmr ho5 hm5 hmw5 hfl hpl;clear hL hT hD hmr ho5 hm5 hmw5 hfl hpl
  go_wp2_with fail
  go_ret;exact ⟨_,_,rfl,rfl,by rw [Hfl.out];exact Ho5.out,rfl,Hmw5.out⟩
end Go.Proofs.YtaenebdppkjhoaaGreatDoor
