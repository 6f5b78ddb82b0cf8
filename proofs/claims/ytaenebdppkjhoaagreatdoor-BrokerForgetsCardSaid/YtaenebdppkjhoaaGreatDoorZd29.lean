/- Lemmas of this claim. -/
import Derived.Test.YtaenebdppkjhoaaGreatDoorZd27
namespace Go.Proofs.YtaenebdppkjhoaaGreatDoor
set_option maxRecDepth 20000
set_option maxHeartbeats 40000000
section
open Go.RowKit
def cmpC (a b:Cnd):Int:=Lib.compareBytes a.prt b.prt
def ltC (a b:Cnd):Bool:=decide (cmpC a b<0)
def keepC (s:List Cnd) (j:Nat):List Cnd:=(s.take j).zipIdx.filterMap fun p=>if needB s p.2 p.1 then none else some p.1
theorem keepC_snoc (s:List Cnd) {j:Nat} {c:Cnd} (h:s[j]? =some c):keepC s (j+1)=if needB s j c then keepC s j else keepC s j++[c]:=by
 obtain ⟨hj,hc⟩:=List.getElem?_eq_some_iff.1 h
 unfold keepC
 rw [List.take_succ_eq_append_getElem hj,hc,List.zipIdx_append,List.filterMap_append]
 have hl:(s.take j).length=j:=by rw [List.length_take];omega
 rw [hl]
 simp only [List.zipIdx_cons,List.zipIdx_nil,Nat.zero_add]
 cases hn:needB s j c<;>simp [hn]
theorem keepC_len (s:List Cnd) (j:Nat):(keepC s j).length≤j:=by
 unfold keepC
 refine Nat.le_trans (List.length_filterMap_le _ _) ?_
 rw [List.length_zipIdx,List.length_take]
 omega
def sortC (l:List Cnd):List Cnd:=isort ltC (l.map Cnd.norm)
def normC (l:List Cnd):List Cnd:=keepC (sortC l) l.length
theorem sortC_len (l:List Cnd):(sortC l).length=l.length:=by unfold sortC;rw [isort_length,List.length_map]
theorem sortC_mem {l:List Cnd} {c:Cnd} (h:c∈sortC l):∃d∈l,c=d.norm:=by
 obtain ⟨d,h1,h2⟩:=List.mem_map.1 ((isort_perm ltC _).mem_iff.1 h)
 exact ⟨d,h1,h2.symm⟩
attribute [local go_sem ↓] run_load_cd
theorem norm1_at (w0 w:World) (hl:Laid w0 w) (a b:Cnd) (ha:a.fits) (hb:b.fits):Calls Tryz.prog 74 #[.agg a.cells.toArray,.agg b.cells.toArray] w fun e w'=>e= .returned (.int .i64 (cmpC a b))∧Mod (fun _=>False) w w':=by
 obtain ⟨wa,hwa,hmwa,hgwa,hzwa⟩:=allocE w (.cells a.cells.toArray 132)
 obtain ⟨wb,hwb,hmwb,hgwb,hzwb⟩:=allocE wa (.cells b.cells.toArray 132)
 have hm2:=hmwa.trans hmwb (fun _ _ h=>h)
 have hga:=hmwb.heap hgwa (fun h=>h)
 rw [hzwa] at hgwb
 have hlw:=hl.mod0 hm2
 have fa:CellsAt wb w.heap.size 0 a.cells:=CellsAt.row hga
 have fb:CellsAt wb (w.heap.size+1) 0 b.cells:=CellsAt.row hgwb
 have hF:∀w',Mod (fun _=>False) wb w'→(AllCells w' w.heap.size 0 7∧cellsOf w' w.heap.size 0 7=a.cells.toArray)∧AllCells w' (w.heap.size+1) 0 7∧cellsOf w' (w.heap.size+1) 0 7=b.cells.toArray:=fun w' hw'=>
  ⟨⟨(fa.mod hw' (fun h=>h)).all rfl,(fa.mod hw' (fun h=>h)).is rfl⟩,(fb.mod hw' (fun h=>h)).all rfl,(fb.mod hw' (fun h=>h)).is rfl⟩
 have h1:=fun (wx:World) (hx:Mod (fun _=>False) wb wx)=>(cprint_at w0 wx (hlw.mod0 hx) a ha.v ha.name).mono fun e w'' (h:_∧_)=>(⟨h.1,hx.trans h.2 (fun _ _ h=>h)⟩:e= .returned (.string (str a.prt))∧Mod (fun _=>False) wb w'')
 have h2:=fun (wx:World) (hx:Mod (fun _=>False) wb wx)=>(cprint_at w0 wx (hlw.mod0 hx) b hb.v hb.name).mono fun e w'' (h:_∧_)=>(⟨h.1,hx.trans h.2 (fun _ _ h=>h)⟩:e= .returned (.string (str b.prt))∧Mod (fun _=>False) wb w'')
 have h3:=fun (wx:World) (hx:Mod (fun _=>False) wb wx)=>(cmp_at (str a.prt) (str b.prt) wx).mono fun e w'' (h:_∧_)=>(⟨h.1,h.2.symm▸hx⟩:e= .returned (.int .i64 (Lib.compareBytes (str a.prt).data.toList (str b.prt).data.toList))∧Mod (fun _=>False) wb w'')
 have hc:Lib.compareBytes (str a.prt).data.toList (str b.prt).data.toList=cmpC a b:=by unfold cmpC;simp [str]
 rw [hc] at h3
 obtain ⟨C,hC⟩:∃C,cmpC a b=C:=⟨_,rfl⟩
 obtain ⟨sa,hsa⟩:∃s,str a.prt=s:=⟨_,rfl⟩
 obtain ⟨sb,hsb⟩:∃s,str b.prt=s:=⟨_,rfl⟩
 simp only [hC,hsa,hsb] at h1 h2 h3⊢
 have Hwa:=Lib.hid hwa
 have Hwb:=Lib.hid hwb
 have Hgwa:=Lib.hid hgwa
 have Hgwb:=Lib.hid hgwb
 have Hga:=Lib.hid hga
 have Hm2:=Lib.hid hm2
 have Hlw:=Lib.hid hlw
 have Fa:=Lib.hid fa
 have Fb:=Lib.hid fb
 have HF:=Lib.hid hF
 have H1:=Lib.hid h1
 have H2:=Lib.hid h2
 have H3:=Lib.hid h3
 have Hc:=Lib.hid hc
 have HC:=Lib.hid hC
 have Hsa:=Lib.hid hsa
 have Hsb:=Lib.hid hsb
 have Hl:=Lib.hid hl
 have Ha:=Lib.hid ha
 have Hb:=Lib.hid hb
 clear hwa hwb hgwa hgwb hga hm2 hlw fa fb hF h1 h2 h3 hc hC hsa hsb hl ha hb hmwa hmwb
 go_enter Tryz.func74,Tryz.ntmps74
 go_wp2_with (first|(rw [show w.alloc _=wa from Hwa.out])|(rw [show wa.alloc _=wb from Hwb.out])|fail)
 refine wp_region_news (by kernel_rfl) (by kernel_rfl) ?_
 iterate 6 (first
  | (refine quiet_skip ?_ (fun K hK=> ?_)
     ·first|(go_simp;done)|(go_simp;simp [undef];done)
     go_simp;refine hK _ ?_;clear hK K)
  | (refine quiet_do ?_ ?_ (fun w' hw'=> ?_) (fun K hK=> ?_)
     ·first|(go_simp;done)|(go_simp;simp [undef];done)
     rotate_left
     ·obtain ⟨⟨f1,f2⟩,f3,f4⟩:=HF.out w' hw'
      go_simp
      rfl
     go_simp;refine hK _ ?_;clear hK K)
  | (refine quiet_in ?_ ?_ ?_ ?_ (fun w' hw'=> ?_) ?_ (fun K hK=> ?_)
     ·first|(go_simp;done)|(go_simp;simp [undef];done)
     rotate_left 3
     ·obtain ⟨⟨f1,f2⟩,f3,f4⟩:=HF.out w' hw'
      go_simp
      constructor<;>rfl
     ·first|with_reducible exact H1.out|with_reducible exact H2.out|with_reducible exact H3.out
     go_simp;refine hK _ ?_;clear hK K))
 refine quiet_end (fun w' hw'=> ?_)
 have Hw':=Lib.hid (Hm2.out.trans hw' (fun _ _ h=>h))
 clear hw'
 go_wp2
 go_ret
 exact ⟨rfl,Hw'.out⟩
theorem callNorm1:∀(args:Array Value) (W:World),Sem.run Tryz.prog (callFunc 74 args) W= .ok (.enter 74 args) W:=fun args w=>by simp [go_sem]
theorem condsT:SliceT Tryz.prog 31 132 7 72:=sliceT (by kernel_rfl) (by kernel_rfl)
def NormPost (w:World) (sc:ByteArray) (nl:List Cnd) (e:Ending) (w':World):Prop:=
 ∃a cap,e= .returned (.agg #[.string sc,.slice a nl.length cap])∧OwnSl w' 132 7 (.slice a nl.length cap) nl.length (cnds nl)∧(∀k,(Value.slice a nl.length cap).ownBlock=some k→w.heap.size≤k)∧Mod (fun _=>False) w w'
def NRel1 (w:World) (l:List Cnd) (lv i:Value) (wr:World):Prop:=
 ∃j a cap,i= .int .i64 (j:Nat)∧j≤l.length∧lv= .slice a j cap∧OwnSl wr 132 7 (.slice a j cap) j (cnds ((l.take j).map Cnd.norm))∧(∀k,(Value.slice a j cap).ownBlock=some k→w.heap.size≤k)∧Mod (fun _=>False) w wr
def NRel2 (wo:World) (O n:Nat) (sc:ByteArray) (s:List Cnd) (i:Value) (wr:World):Prop:=
 ∃j a cap,i= .int .i64 (j:Nat)∧j≤n∧wr.heap[O]? =some (.cells #[.string sc,.slice a (keepC s j).length cap] 33 (0,0))∧
  OwnSl wr 132 7 (.slice a (keepC s j).length cap) (keepC s j).length (cnds (keepC s j))∧(∀k,(Value.slice a (keepC s j).length cap).ownBlock=some k→O<k)∧Mod (fun k=>k=O) wo wr
theorem norm_at (w0 w:World) (hl:Laid w0 w) (sc:ByteArray) (cv:Value) (l:List Cnd) (hv:RdSl w 7 cv l.length (cnds l)) (hll:l.length<20) (hcs:∀c∈l,c.fits):
 Calls Tryz.prog 40 #[.agg #[.string sc,cv]] w (NormPost w sc (normC l)):=by
 obtain ⟨nl,hnl⟩:∃nl,normC l=nl:=⟨_,rfl⟩
 rw [hnl]
 obtain ⟨a,cap,rfl,hcap⟩:∃a c,cv= .slice a l.length c∧l.length≤c:=by obtain ⟨-,a,c,h,h2, -⟩:=hv;exact ⟨a,c,h,h2⟩
 have hll':(l.length:Int)<20:=by omega
 have hcap':(l.length:Int)≤cap:=by omega
 obtain ⟨wa,hwa,hmwa,hgwa,hzwa⟩:=allocE w (.cells #[.string sc,.slice a l.length cap] 33)
 obtain ⟨wb,hwb,hmwb,hgwb,hzwb⟩:=allocE wa (.cells #[.string ⟨#[]⟩,.slice none 0 0] 33)
 have hm2:=hmwa.trans hmwb (fun _ _ h=>h)
 have hga:=hmwb.heap hgwa (fun h=>h)
 have hzb:wb.heap.size=w.heap.size+2:=by omega
 have hzc:w.heap.size<wa.heap.size:=by omega
 have hzd:wa.heap.size<wb.heap.size:=by omega
 have hvb:=hv.mod hm2 (fun _ _ h=>h)
 have c1:wb.cell? ⟨w.heap.size,1,none⟩=some (.slice a l.length cap):=cell_of hga rfl
 have Hv:=Lib.hid hv
 have Hcs:=Lib.hid hcs
 have Hl:=Lib.hid hl
 have Hwa:=Lib.hid hwa
 have Hwb:=Lib.hid hwb
 have Hgwa:=Lib.hid hgwa
 have Hgwb:=Lib.hid hgwb
 have Hga:=Lib.hid hga
 have Hm2:=Lib.hid hm2
 have Hvb:=Lib.hid hvb
 have Hnl:=Lib.hid hnl
 clear hv hcs hl hwa hwb hgwa hgwb hga hm2 hvb hnl hmwa hmwb hzwa hzwb
 go_enter Tryz.func40,Tryz.ntmps40
 go_wp2_with (first|(rw [show w.alloc _=wa from Hwa.out])|(rw [show wa.alloc _=wb from Hwb.out])|fail)
 go_loopw [3,12] (fun lv i wr=>NRel1 wb l lv i wr) (fun _ i _=>l.length - (intOf i).toNat)
 case atStart=>exact ⟨0,none,0,rfl,Nat.zero_le _,rfl,OwnSl.nil _ _ _,fun k hk=>by simp [Value.ownBlock] at hk,Mod.refl _ _⟩
 case round=>
  obtain ⟨j,la,lc,rfl,hj,rfl,hown,hfr,hmr⟩:=hrel
  by_cases hlt:j<l.length
  ·have hlt':(j:Int)<l.length:=by omega
   obtain ⟨x,hxj⟩:∃x,l[j]? =some x:=⟨_,List.getElem?_eq_getElem hlt⟩
   obtain ⟨g,off,rfl,hf⟩:∃g off,a=some ⟨g,off,none⟩∧CellsAt wr g (off+j*7) x.cells:=rd_cnd (Hvb.out.mod hmr (fun _ _ h=>h)) hxj
   obtain ⟨wz,hwz,hmwz,hgwz,hzwz⟩:=allocE wr (.cells x.cells.toArray 132)
   have hmz:=hmr.trans hmwz (fun _ _ h=>h)
   have hcn:=ccanon_at x wz
   have hoz:=hown.mod hmwz (fun _ _ h=>h)
   have hsn:(l.take (j+1)).map Cnd.norm=(l.take j).map Cnd.norm++[x.norm]:=by
    rw [List.take_succ_eq_append_getElem hlt,List.map_append]
    congr 2
    have:=(List.getElem?_eq_some_iff.1 hxj).2
    rw [this];rfl
   have Hown:=Lib.hid hown
   have Hfr:=Lib.hid hfr
   have Hmr:=Lib.hid hmr
   have Hxj:=Lib.hid hxj
   have Hf:=Lib.hid hf
   have Hwz:=Lib.hid hwz
   have Hmwz:=Lib.hid hmwz
   have Hgwz:=Lib.hid hgwz
   have Hmz:=Lib.hid hmz
   have Hcn:=Lib.hid hcn
   have Hoz:=Lib.hid hoz
   have Hsn:=Lib.hid hsn
   clear hown hfr hmr hxj hf hwz hmwz hgwz hmz hcn hoz hsn hzwz
   go_wp2_with (first|((with_reducible refine wpList_load_lit 132 (.tmp 14) ?_);refine ⟨g,off+j*7,rfl,x.cells,Hf.out,by kernel_rfl,by kernel_rfl, ?_⟩)|((with_reducible refine wpList_store_lit 132 (.tmp 5) (.tmp 15) ?_);refine ⟨rfl,x.cells,rfl,rfl,by kernel_rfl,rfl, ?_⟩;rw [Hwz.out])|((with_reducible refine wpList_load_lit 132 (.tmp 5) ?_);refine ⟨wr.heap.size,0,rfl,x.cells,CellsAt.row Hgwz.out,by kernel_rfl,by kernel_rfl, ?_⟩)|fail)
   refine Hcn.out.mono ?_
   rintro e w3 ⟨rfl,hm3⟩
   have ho3:=Hoz.out.mod hm3 (fun _ _ h=>h)
   obtain ⟨w4,hw4,hmw4,hgw4,hzw4⟩:=allocE w3 (.cells x.norm.cells.toArray 132)
   have hrz:RdSl w4 7 (.slice (some ⟨w3.heap.size,0,none⟩) 1 1) 1 x.norm.cells:=hw4▸RdSl.one w3 x.norm.cells 132 rfl
   have hone:∀u∈x.norm.cells,u.oneCell'=true:=fun u hu=>List.all_eq_true.1 (show x.norm.cells.all (·.oneCell')=true from rfl) u hu
   have ho4:=ho3.mod hmw4 (fun _ _ h=>h)
   have hm04:=(Hmz.out.trans hm3 (fun _ _ h=>h)).trans hmw4 (fun _ _ h=>h)
   have Ho4:=Lib.hid ho4
   have Hw4:=Lib.hid hw4
   have Hrz:=Lib.hid hrz
   have Hone:=Lib.hid hone
   have Hm04:=Lib.hid hm04
   clear ho4 hw4 hrz hone hm04 hm3 ho3 hmw4 hgw4 hzw4
   go_wp2_with (first|((with_reducible refine wpList_build_one_lit 31 (.tmp 18) ?_);refine ⟨132,7,Tryz.underlying31,by kernel_rfl,by kernel_rfl,by decide,by decide,x.norm.cells,rfl,rfl, ?_⟩;rw [Hw4.out])|((with_reducible refine wpList_append_lit (.tmp 16) (.tmp 19) 31 ?_);refine ⟨rfl,132,7,72,condsT,.slice la j lc,j,cnds ((l.take j).map Cnd.norm),rfl,Ho4.out,_,1,x.norm.cells,rfl,Hrz.out,Hone.out,by omega,by unfold maxLen;omega, ?_⟩;intro ad cap5 w5 hA;have HA:=Lib.hid hA;clear hA)|fail)
   go_roundw
   case rel=>
    refine ⟨j+1,ad,cap5,by go_num,hlt,rfl, ?_, ?_, ?_⟩
    ·rw [Hsn.out,cnds_append]
     have:=HA.out.1
     rw [show cnds [x.norm]=x.norm.cells from List.append_nil _]
     exact this
    ·intro k hk
     rcases HA.out.2.2 with h3|⟨k',h3,h4⟩
     ·exact Hfr.out k (h3▸hk)
     ·rw [h3] at hk
      cases hk
      have:=Hm04.out.size
      omega
    ·exact Hm04.out.upon HA.out.2.1 (fun b hb=> .inr (Hfr.out b hb))
   case measure=>simp [intOf];omega
  ·obtain rfl:j=l.length:=by omega
   rw [List.take_length] at hown
   have hso:∀wx,Mod (inBlock (.slice la l.length lc)) wr wx→Laid w0 wx:=fun wx hx=>((Hl.out.mod0 Hm2.out).mod0 hmr).mod hx (fun k hk hb=>by
    have h1:=hfr k hb
    have h2:=Hl.out.size
    omega)
   have hmem:∀x∈l.map Cnd.norm,x.fits:=fun x hx=>by
    obtain ⟨d,hd,rfl⟩:=List.mem_map.1 hx
    exact norm_fits (Hcs.out d hd)
   have hso2:=sort_at 74 callNorm1 cmpC wr (.slice la l.length lc) (l.map Cnd.norm) (by rw [List.length_map];exact hown) (by rw [List.length_map];exact hll)
    (fun x hx y hy wx hm=>norm1_at w0 wx (hso wx hm) x y (hmem x hx) (hmem y hy))
   unfold SrtPost at hso2
   rw [show isort (fun a b=>decide (cmpC a b<0)) (l.map Cnd.norm)=sortC l from rfl,sortC_len] at hso2
   have Hown:=Lib.hid hown
   have Hfr:=Lib.hid hfr
   have Hmr:=Lib.hid hmr
   have Hso:=Lib.hid hso
   have Hmem:=Lib.hid hmem
   have Hso2:=Lib.hid hso2
   clear hown hfr hmr hso hmem hso2
   go_wp2_with fail
   refine Hso2.out.mono ?_
   rintro e w2 ⟨rfl,ho2,hmo⟩
   have hm02:Mod (fun _=>False) wb w2:=(Hmr.out.trans (hmo.mono (G:=fun k=>wb.heap.size≤k) (fun b _ hb=>Hfr.out b hb)) (fun b hb h=>by omega))
   obtain ⟨wo,hwo,hmwo,hgwo,hzwo⟩:=allocE w2 (.cells #[.string sc,.slice none 0 0] 33)
   have hmo2:=hm02.trans hmwo (fun _ _ h=>h)
   have c0:w2.cell? ⟨w.heap.size,0,none⟩=some (.string sc):=cell_of (hm02.heap Hga.out (fun h=>h)) rfl
   have hlo:=(Hl.out.mod0 Hm2.out).mod0 hmo2
   have hrs:RdSl wo 7 (.slice la l.length lc) l.length (cnds (sortC l)):=ho2.rd.mod hmwo (fun _ _ h=>h)
   have hlb:∀k,(Value.slice la l.length lc).ownBlock=some k→k<w2.heap.size:=ho2.lt
   have hsf:∀c∈sortC l,c.fits:=fun c hc=>by
    obtain ⟨d,hd,rfl⟩:=sortC_mem hc
    exact norm_fits (Hcs.out d hd)
   have hlc:l.length≤lc:=by
    obtain ⟨-,a',c',e1,e2, -⟩:=ho2.rd
    cases e1
    exact e2
   have hlc':(l.length:Int)≤lc:=by omega
   obtain ⟨s,hs⟩:∃s,sortC l=s:=⟨_,rfl⟩
   have hsl:s.length=l.length:=by rw [←hs,sortC_len]
   rw [hs] at hrs hsf
   have Ho2:=Lib.hid ho2
   have Hmo:=Lib.hid hmo
   have Hm02:=Lib.hid hm02
   have Hwo:=Lib.hid hwo
   have Hmwo:=Lib.hid hmwo
   have Hgwo:=Lib.hid hgwo
   have Hmo2:=Lib.hid hmo2
   have Hlo:=Lib.hid hlo
   have Hrs:=Lib.hid hrs
   have Hlb:=Lib.hid hlb
   have Hsf:=Lib.hid hsf
   have Hs:=Lib.hid hs
   have Hsl:=Lib.hid hsl
   have Hzwo:=Lib.hid hzwo
   clear ho2 hmo hm02 hwo hmwo hgwo hmo2 hlo hrs hlb hsf hs hsl hzwo Hso2 Hso Hmem Hown Hfr Hmr c1 hlc
   go_wp2_with (first|((with_reducible refine wpList_store_lit 33 (.tmp 6) (.tmp 26) ?_);refine ⟨rfl,[.string sc,.slice none 0 0],rfl,rfl,by kernel_rfl,rfl, ?_⟩;rw [Hwo.out])|fail)
   go_loopw [29] (fun i wr=>NRel2 wo w2.heap.size l.length sc s i wr) (fun i _=>l.length - (intOf i).toNat)
   case atStart=>exact ⟨0,none,0,rfl,Nat.zero_le _,Hgwo.out,OwnSl.nil _ _ _,fun k hk=>by simp [Value.ownBlock] at hk,Mod.refl _ _⟩
   case round=>
    obtain ⟨j,oa,oc,rfl,hj,hO,hown,hfr,hmr⟩:=hrel
    by_cases hlt:j<l.length
    ·have hlt':(j:Int)<l.length:=by omega
     obtain ⟨x,hxj⟩:∃x,s[j]? =some x:=⟨_,List.getElem?_eq_getElem (by rw [Hsl.out];exact hlt)⟩
     have hrr:RdSl wr 7 (.slice la l.length lc) l.length (cnds s):=Hrs.out.mod hmr (fun b hb h=>by have:=Hlb.out b hb;omega)
     obtain ⟨g,off,rfl,hf⟩:∃g off,la=some ⟨g,off,none⟩∧CellsAt wr g (off+j*7) x.cells:=rd_cnd (by rw [Hsl.out];exact hrr) hxj
     obtain ⟨wz,hwz,hmwz,hgwz,hzwz⟩:=allocE wr (.cells x.cells.toArray 132)
     have hne:=needless_at wz (.slice (some ⟨g,off,none⟩) l.length lc) s (by rw [Hsl.out];exact hrr.mod hmwz (fun _ _ h=>h)) (by rw [Hsl.out];omega) j x hxj Hsf.out
     have hOz:=hmwz.heap hO (fun h=>h)
     have hoz:=hown.mod hmwz (fun _ _ h=>h)
     have hkp:=keepC_snoc s hxj
     have hwo2:=hmr.size
     obtain ⟨N,hN⟩:∃N,needB s j x=N:=⟨_,rfl⟩
     rw [hN] at hne hkp
     have HO:=Lib.hid hO
     have Hown:=Lib.hid hown
     have Hfr:=Lib.hid hfr
     have Hmr:=Lib.hid hmr
     have Hxj:=Lib.hid hxj
     have Hrr:=Lib.hid hrr
     have Hf:=Lib.hid hf
     have Hwz:=Lib.hid hwz
     have Hmwz:=Lib.hid hmwz
     have Hgwz:=Lib.hid hgwz
     have Hne:=Lib.hid hne
     have HOz:=Lib.hid hOz
     have Hoz:=Lib.hid hoz
     have Hkp:=Lib.hid hkp
     have HN:=Lib.hid hN
     clear hO hown hfr hmr hxj hrr hf hwz hmwz hgwz hne hOz hoz hkp hN hzwz
     go_wp2_with (first|((with_reducible refine wpList_load_lit 132 (.tmp 32) ?_);refine ⟨g,off+j*7,rfl,x.cells,Hf.out,by kernel_rfl,by kernel_rfl, ?_⟩)|((with_reducible refine wpList_store_lit 132 (.tmp 8) (.tmp 33) ?_);refine ⟨rfl,x.cells,rfl,rfl,by kernel_rfl,rfl, ?_⟩;rw [Hwz.out])|fail)
     refine Hne.out.mono ?_
     rintro e w3 ⟨rfl,hm3⟩
     cases N with
     | true=>
      have hmz3:=Hmwz.out.trans hm3 (fun _ _ h=>h)
      have Hm3:=Lib.hid hm3
      have Hmz3:=Lib.hid hmz3
      clear hm3 hmz3
      go_wp2_with fail
      go_roundw
      case rel=>
       have hk:keepC s (j+1)=keepC s j:=Hkp.out
       refine ⟨j+1,oa,oc,by go_num,hlt, ?_⟩
       rw [hk]
       exact ⟨Hmz3.out.heap HO.out (fun h=>h),Hown.out.mod Hmz3.out (fun _ _ h=>h),Hfr.out,Hmr.out.trans Hmz3.out (fun _ _ h=>h.elim)⟩
      case measure=>simp [intOf];omega
     | false=>
      have hk:keepC s (j+1)=keepC s j++[x]:=Hkp.out
      have hxz:=(CellsAt.row Hgwz.out).mod hm3 (fun h=>h)
      have hmz3:=Hmwz.out.trans hm3 (fun _ _ h=>h)
      have hO3:=hmz3.heap HO.out (fun h=>h)
      have cO:w3.cell? ⟨w2.heap.size,1,none⟩=some (.slice oa (keepC s j).length oc):=cell_of hO3 rfl
      obtain ⟨w4,hw4,hmw4,hgw4,hzw4⟩:=allocE w3 (.cells x.cells.toArray 132)
      have hrz:RdSl w4 7 (.slice (some ⟨w3.heap.size,0,none⟩) 1 1) 1 x.cells:=hw4▸RdSl.one w3 x.cells 132 rfl
      have hone:∀u∈x.cells,u.oneCell'=true:=fun u hu=>List.all_eq_true.1 (show x.cells.all (·.oneCell')=true from rfl) u hu
      have hm4:=hmz3.trans hmw4 (fun _ _ h=>h)
      have ho4:=Hown.out.mod hm4 (fun _ _ h=>h)
      have hO4:=hmw4.heap hO3 (fun h=>h)
      have hkc:=keepC_len s j
      obtain ⟨kl,hkl⟩:∃kl,keepC s j=kl:=⟨_,rfl⟩
      have hkn:kl.length≤1000:=by rw [←hkl];omega
      rw [hkl] at ho4 hO3 hO4 cO hk
      have hfk:=Hfr.out
      rw [hkl] at hfk
      have Hm3:=Lib.hid hm3
      have Hmz3:=Lib.hid hmz3
      have Hk:=Lib.hid hk
      have Hxz:=Lib.hid hxz
      have HO3:=Lib.hid hO3
      have Hrz:=Lib.hid hrz
      have Hone:=Lib.hid hone
      have Hm4:=Lib.hid hm4
      have Ho4:=Lib.hid ho4
      have HO4:=Lib.hid hO4
      have Hw4:=Lib.hid hw4
      have Hkl:=Lib.hid hkl
      have Hfk:=Lib.hid hfk
      clear hm3 hmz3 hk hxz hO3 hrz hone hm4 ho4 hO4 hw4 hkl hfk hmw4 hgw4 hzw4 hkc
      go_wp2_with (first|((with_reducible refine wpList_load_lit 132 (.tmp 8) ?_);refine ⟨wr.heap.size,0,rfl,x.cells,Hxz.out,by kernel_rfl,by kernel_rfl, ?_⟩)|((with_reducible refine wpList_build_one_lit 31 (.tmp 40) ?_);refine ⟨132,7,Tryz.underlying31,by kernel_rfl,by kernel_rfl,by decide,by decide,x.cells,rfl,rfl, ?_⟩;rw [Hw4.out])|((with_reducible refine wpList_append_lit (.tmp 39) (.tmp 41) 31 ?_);refine ⟨rfl,132,7,72,condsT,.slice oa kl.length oc,kl.length,cnds kl,rfl,Ho4.out,_,1,x.cells,rfl,Hrz.out,Hone.out,by omega,by unfold maxLen;omega, ?_⟩;intro ad cap5 w5 hA;have hO5:=hA.2.1.heap HO4.out (fun hi=>by have:=Hfk.out _ hi;omega);have c5:w5.cell? ⟨w2.heap.size,1,none⟩=some (.slice oa kl.length oc):=cell_of hO5 rfl;have f5:w5.frozen? ⟨w2.heap.size,1,none⟩=false:=fr_of hO5;have HA:=Lib.hid hA;have HO5:=Lib.hid hO5;clear hA hO5)|fail)
      go_roundw
      case rel=>
       have hmC:Mod (fun k=>k=w2.heap.size) w5 (w5.setCell ⟨w2.heap.size,1,none⟩ (.slice ad (kl.length+1) cap5)):=(Mod.refl (fun k=>k=w2.heap.size) w5).setCell (fun _=>rfl) _
       have hfr5:∀k,(Value.slice ad (kl.length+1) cap5).ownBlock=some k→w2.heap.size<k:=fun k hk5=>by
        rcases HA.out.2.2 with h3|⟨k',h3,h4⟩
        ·exact Hfk.out k (h3▸hk5)
        ·rw [h3] at hk5
         cases hk5
         have h5:=Hm4.out.size
         have h6:=Hmr.out.size
         have h7:=(Array.getElem?_eq_some_iff.1 Hgwo.out).1
         omega
       have hkl1:keepC s (j+1)=kl++[x]:=Hk.out
       have hln:(kl++[x]).length=kl.length+1:=by rw [List.length_append];rfl
       refine ⟨j+1,ad,cap5,by go_num,hlt, ?_, ?_, ?_, ?_⟩
       ·rw [hkl1,hln];exact heap_set HO5.out
       ·rw [hkl1,hln,cnds_append,show cnds [x]=x.cells from List.append_nil _]
        exact HA.out.1.mod hmC (fun b hb h=>by have:=hfr5 b hb;omega)
       ·rw [hkl1,hln];exact hfr5
       ·exact ((Hmr.out.trans Hm4.out (fun _ _ h=>h.elim)).upon HA.out.2.1 (fun b hb=> .inr (by
         have:=Hfk.out b hb
         have:wo.heap.size=w2.heap.size+1:=Hzwo.out
         omega))).upon hmC (fun b hb=> .inl hb)
      case measure=>simp [intOf];omega
    ·obtain rfl:j=l.length:=by omega
     have hfin:keepC s l.length=normC l:=by unfold normC;rw [Hs.out]
     rw [hfin] at hO hown hfr
     have hB:=(hmr.mono (G:=fun k=>k=w2.heap.size) (fun _ _ h=>h)).heap ((Hmo2.out).heap Hgwb.out (fun h=>h)) (fun h=>by
      have h1:=Hm02.out.size
      omega)
     rw [Hnl.out] at hO hown hfr
     have hOc:CellsAt wr w2.heap.size 0 [.string sc,.slice oa nl.length oc]:=CellsAt.row hO
     have HO:=Lib.hid hO
     have Hown:=Lib.hid hown
     have Hfr:=Lib.hid hfr
     have Hmr:=Lib.hid hmr
     have Hfin:=Lib.hid hfin
     have HB:=Lib.hid hB
     have HOc:=Lib.hid hOc
     clear hO hown hfr hmr hfin hB hOc
     go_wp2_with (first|((with_reducible refine wpList_load_lit 33 (.tmp 6) ?_);refine ⟨w2.heap.size,0,rfl,[.string sc,.slice oa nl.length oc],HOc.out,by kernel_rfl,by kernel_rfl, ?_⟩)|((with_reducible refine wpList_store_row_lit 33 (.tmp 2) (.tmp 45) ?_);refine ⟨wa.heap.size,rfl,_,_,HB.out,[.string sc,.slice oa nl.length oc],rfl,rfl,by kernel_rfl,rfl, ?_⟩;intro w6 h6 hm6;have H6:=Lib.hid h6;have Hm6:=Lib.hid hm6;clear h6 hm6)|fail)
     have h1:=Hm02.out.size
     refine bodyPost_cell rfl wa.heap.size rfl [.string sc,.slice oa nl.length oc] (CellsAt.row H6.out) (by kernel_rfl) (by kernel_rfl) rfl ⟨oa,oc,rfl,Hown.out.mod Hm6.out (fun b hb h=>by have:=Hfr.out b hb;omega),fun k hk=>by have:=Hfr.out k hk;omega, ?_⟩
     refine ((Hm2.out.trans Hmo2.out (fun _ _ h=>h)).upon Hmr.out (fun b hb=> .inr ?_)).upon Hm6.out (fun b hb=> .inr ?_)
     ·rw [hb];omega
     ·rw [hb];omega
end
end Go.Proofs.YtaenebdppkjhoaaGreatDoor
