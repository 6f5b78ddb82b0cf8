/- Lemmas of this claim. -/
import Derived.Test.YtaenebdppkjhoaaGreatDoorZd46
namespace Go.Proofs.YtaenebdppkjhoaaGreatDoor
set_option maxRecDepth 20000
set_option maxHeartbeats 40000000
section
open Go.RowKit
def refreF (c t:Nat) (tg:Nat→Prop):Nat→Prop:=fun q=>q=c+13+t∨tg q
def RfRel {w0:World} {q:Nat} (O:OutK w0 q) (w:World) (ow:Ow) (c g:Nat) (id:Int) (near:List Int) (B:BS) (a:BAd) (t:Nat) (s:O.σ) (i:Value) (wr:World):Prop:=
 ∃(j:Nat) (owr:Ow),i= .int .i64 j∧j≤near.length∧BroA wr owr c g id near (B.told t (near.take j)) a∧O.inv wr owr (O.sends s (refrS (B.R t).M t (near.take j) (B.R t).G))∧Mov (refreF c t O.tg) w ow wr owr∧Owd w0 wr owr
def RfA {w0:World} {q:Nat} (O:OutK w0 q) (wC:World) (ow1:Ow) (S0:O.σ) (n t:Int) (mk:Fil→Mg) (W G0:List Fil) (i:Value) (wr:World):Prop:=
 ∃(k:Nat) (ow':Ow),i= .int .i64 k∧k≤W.length∧O.inv wr ow' (O.sends S0 ((lackF (W.take k) G0).map fun f=>(n,t,mk f)))∧Mov O.tg wC ow1 wr ow'
def RefrPost {w0:World} {q:Nat} (O:OutK w0 q) (w:World) (ow:Ow) (c g:Nat) (id:Int) (near:List Int) (B:BS) (t:Nat) (s:O.σ) (e:Ending) (w':World):Prop:=
 e= .returned (.tuple #[])∧∃ow',Bro w' ow' c g id near (B.told t near)∧O.inv w' ow' (O.sends s (refrS (B.R t).M t near (B.R t).G))∧Mov (refreF c t O.tg) w ow w' ow'
theorem refresh_at (w0 w:World) (ow:Ow) (c g:Nat) (id:Int) (near:List Int) (B:BS) (hw:Owd w0 w ow) (h:Bro w ow c g id near B) (q:Nat) (O:OutK w0 q) (s:O.σ) (hO:O.inv w ow s) (hOt:∀t,O.tg t→t<c∨c+18≤t) (t:Nat) (ht:t<4)
 (hcnt:O.cnt s+(refrS (B.R t).M t near (B.R t).G).length≤400000000000) (hnl:near.length≤1000) (hnw:∀n∈near,(Lit.int .i64 n).wf=true) (hto:∀n∈near,O.okTo n t) (hN:(B.R t).N≤1000) (hK:(B.R t).K≤1000000) (hGk:GOk (B.R t).G)
 (hinj:∀p∈(B.R t).M,∀q∈(B.R t).M,keyF p.2=keyF q.2→p.2=q.2):
 Calls Tryz.prog 59 #[.pointer (some ⟨g,0,none⟩),.iface 43 (.pointer (some ⟨q,0,none⟩)),.int .i64 t] w (RefrPost O w ow c g id near B t s):=by
 obtain ⟨a,h⟩:=h
 obtain ⟨q0, -, -,q3⟩:=h.cells ht
 obtain ⟨L,hlog, -⟩:=h.log
 obtain ⟨na,nc,hnv,hnc⟩:∃a' cc,a.nv= .slice a' near.length cc∧near.length≤cc:=by obtain ⟨-,a,cc,h,h2, -⟩:=h.near.rd;exact ⟨a,cc,h,h2⟩
 have c2:w.cell? ⟨g,2,none⟩=some (.slice na near.length nc):=by rw [←hnv];exact cell_of hlog.row rfl
 have ht4:(t:Int)<4:=by omega
 have ht0:(0:Int)≤t:=by omega
 have hnl':(near.length:Int)≤1000:=by omega
 have hnc':(near.length:Int)≤nc:=by omega
 have hb0:BroA w ow c g id near (B.told t (near.take 0)) a:=by rw [List.take_zero,BS.told_nil];exact h
 have hm0:Mov (refreF c t O.tg) w ow w ow:=Mov.refl hw
 have Hw:=Lib.hid hw
 have H:=Lib.hid h
 have HO:=Lib.hid hO
 have HOt:=Lib.hid hOt
 have Hnw:=Lib.hid hnw
 have Hto:=Lib.hid hto
 have Hinj:=Lib.hid hinj
 have Hlog:=Lib.hid hlog
 have Hnv:=Lib.hid hnv
 have Hb0:=Lib.hid hb0
 have Hm0:=Lib.hid hm0
 have HGk:=Lib.hid hGk
 clear hw h hO hOt hnw hto hinj hlog hnv hb0 hm0 hGk hnc
 go_enter Tryz.func59,Tryz.ntmps59
 go_wp2_with fail
 go_loopw [31] (fun i wr=>RfRel O w ow c g id near B a t s i wr) (fun i _=>near.length - (intOf i).toNat)
 case atStart=>exact ⟨0,ow,rfl,Nat.zero_le _,Hb0.out,HO.out,Hm0.out,Hw.out⟩
 case round=>
  obtain ⟨j,owr,rfl,hj,hbr,hOr,hmr,how⟩:=hrel
  obtain ⟨wq,rfl⟩:∃x:World,x=wr:=⟨_,rfl⟩
  by_cases hlt:j<near.length
  ·have hlt':(j:Int)<near.length:=by omega
   obtain ⟨n,hnj⟩:∃x,near[j]? =some x:=⟨_,List.getElem?_eq_getElem hlt⟩
   have hnm:=List.mem_of_getElem? hnj
   have hrd:=hbr.near.rd
   rw [show a.nv= .slice na near.length nc from Hnv.out] at hrd
   obtain ⟨gn,offn,rfl,hcn⟩:=rd_int hrd hnj
   have hrea:=hbr.rea t ht
   obtain ⟨M,hM⟩:∃M,(B.R t).M=M:=⟨_,rfl⟩
   have hRM:((B.told t (near.take j)).R t).M=M:=by rw [BS.told_R];exact hM
   have hRN:((B.told t (near.take j)).R t).N=(B.R t).N:=by rw [BS.told_R]
   obtain ⟨p0, -, -,p3⟩:=hbr.cells ht
   have hc2:=hbr.c2
   obtain ⟨w1,hw1,hmw1,hgw1,hzw1⟩:=allocE wq (.map #[] 0)
   obtain ⟨ow1,how1e⟩:∃ow1,tagOne owr wq.heap.size (c+13+t)=ow1:=⟨_,rfl⟩
   have htag:ow1 wq.heap.size=c+13+t:=how1e▸tagOne_at _ _ _
   have hs1:Mov (fun q=>q=c+13+t) wq owr w1 ow1:=hw1▸how1e▸Mov.alloc how (.map #[] 0) (c+13+t) (.inr (.inr rfl))
   have how1:=hs1.owd how (by omega)
   have htab1:=hrea.tab.mov how hs1 (by omega) (by omega) (by omega)
   have hsnt1:SentC w1 ow1 (c+13+t) (a.mb t) _ _:=hrea.snt.far (F:=fun _=>False) ⟨hmw1,hs1.old⟩ (fun h=>h) (fun h=>h)
   have hO1:=O.mov hOr how hs1 (by omega) (fun q e he=>by have:=HOt.out q he;omega)
   have hkey:KeyC w1 ow1 wq.heap.size []:=⟨fun _=>none,hw1▸MapR.made wq 9,fun k=>trivial⟩
   rw [hRM,hRN] at htab1
   have hout:=tout_at w1 (a.tb t) _ _ M (B.R t).N htab1 hN (by rw [←hM];exact Hinj.out) n (Hnw.out n hnm)
   have hz:=hzw1
   have hwfM:∀p∈M,okQ p.2:=fun p hp=>by
    obtain ⟨mo,hat⟩:=htab1
    exact ⟨(hat.wf _ hp).2.1,(hat.wf _ hp).2.2,hat.sc _ hp⟩
   have hwfO:∀q∈outL M n,okQ q:=outL_ok hwfM n
   have hMl:M.length≤1000:=by
    obtain ⟨mo,hat⟩:=htab1
    have:=hat.low
    omega
   have hOl:=outL_le M n
   have p01:=hmw1.cell p0 (fun h=>h)
   have p31:=hmw1.cell p3 (fun h=>h)
   have Htag:=Lib.hid htag
   have Hbr:=Lib.hid hbr
   have HOr:=Lib.hid hOr
   have Hmr:=Lib.hid hmr
   have How:=Lib.hid how
   have Hrea:=Lib.hid hrea
   have HM:=Lib.hid hM
   have HRM:=Lib.hid hRM
   have HRN:=Lib.hid hRN
   have P0:=Lib.hid p0
   have P3:=Lib.hid p3
   have Hw1:=Lib.hid hw1
   have Hs1:=Lib.hid hs1
   have How1:=Lib.hid how1
   have Htab1:=Lib.hid htab1
   have Hsnt1:=Lib.hid hsnt1
   have HO1:=Lib.hid hO1
   have Hkey:=Lib.hid hkey
   have Hout:=Lib.hid hout
   have Hnj:=Lib.hid hnj
   have Hnm:=Lib.hid hnm
   have Hrd:=Lib.hid hrd
   have Hgw1:=Lib.hid hgw1
   have Hz:=Lib.hid hz
   have HwfM:=Lib.hid hwfM
   have HwfO:=Lib.hid hwfO
   have HMl:=Lib.hid hMl
   have HOl:=Lib.hid hOl
   clear htag hbr hOr hmr how hrea hM hRM hRN p0 p3 hw1 hs1 how1 htab1 hsnt1 hO1 hkey hout hnj hnm hrd hgw1 hz hwfM hwfO hMl hOl hzw1 how1e
   go_wp2_with (first|(rw [show wq.alloc _=w1 from Hw1.out])|fail)
   refine Hout.out.mono ?_
   rintro e w2 ⟨v,l,rfl,hol,hob,hlf,hfc,hm2⟩
   obtain ⟨va,vc,rfl,hvc⟩:=hol.shape
   have hs2:Mov (fun q=>q=c+13+t) w1 ow1 w2 ow1:=Mov.of How1.out hm2 _
   have how2:=(Mov.of How1.out hm2 (fun _=>False)).owd How1.out (fun h=>h)
   have hsnt2:SentC w2 ow1 (c+13+t) (a.mb t) _ _:=Hsnt1.out.far (F:=fun _=>False) ⟨hm2,fun _ _=>rfl⟩ (fun h=>h) (fun h=>h)
   have hkey2:KeyC w2 ow1 wq.heap.size []:=by
    obtain ⟨f,g1,g2⟩:=Hkey.out
    exact ⟨f,g1.mod hm2 (fun h=>h),fun k=>(g2 k).mov (Mov.of How1.out hm2 (fun _=>False)) (fun h=>h)⟩
   have hO2:=O.mov HO1.out How1.out (Mov.of How1.out hm2 (fun _=>False)) (fun h=>h) (fun q e he=>e)
   have hcon:∀f∈l,ConSl w2 ow1 7 (.slice f.a f.cs.length f.c) f.cs.length (cnds f.cs):=fun f hf=>⟨(hfc f hf).1.rd,fun _ b hb=>((hfc f hf).2 b hb).2.1⟩
   have hlt2:(outL M n).Pairwise fun a b=>keyF a<keyF b:=outL_lt M n
   have hvc':(l.length:Int)≤vc:=by omega
   have hl1:(l.length:Int)≤1000:=by
    have h1:=congrArg List.length hlf
    rw [List.length_map] at h1
    have h2:=HOl.out
    have h3:=HMl.out
    omega
   rw [←hlf] at hlt2
   have Hol:=Lib.hid hol
   have Hob:=Lib.hid hob
   have Hlf:=Lib.hid hlf
   have Hfc:=Lib.hid hfc
   have Hm2:=Lib.hid hm2
   have Hs2:=Lib.hid hs2
   have How2:=Lib.hid how2
   have Hsnt2:=Lib.hid hsnt2
   have Hkey2:=Lib.hid hkey2
   have HO2:=Lib.hid hO2
   have Hcon:=Lib.hid hcon
   have Hlt2:=Lib.hid hlt2
   clear hol hob hlf hfc hm2 hs2 how2 hsnt2 hkey2 hO2 hcon hlt2 hvc
   go_wp2_with fail
   go_loopw [43] (fun i wr=>∃k:Nat,i= .int .i64 k∧k≤l.length∧KeyC wr ow1 wq.heap.size ((l.take k).map Fr.fil)∧Mod (fun b=>b=wq.heap.size) w2 wr) (fun i _=>l.length - (intOf i).toNat)
   case atStart=>exact ⟨0,rfl,Nat.zero_le _,Hkey2.out,Mod.refl _ _⟩
   case round=>
    obtain ⟨k,rfl,hk,hkc,hmk⟩:=hrel
    have hsk:Mov (fun q=>q=c+13+t) w2 ow1 wr ow1:=Mov.wrote How2.out hmk (fun b hb=>by rw [hb,Htag.out])
    have howk:=hsk.owd How2.out (by omega)
    by_cases hlk:k<l.length
    ·have hlk':(k:Int)<l.length:=by omega
     obtain ⟨f,hfk⟩:∃f,l[k]? =some f:=⟨_,List.getElem?_eq_getElem hlk⟩
     have hfm:=List.mem_of_getElem? hfk
     have holk:=Hol.out.mod hmk (fun b hb hf=>by have:=Hob.out b hb;have:=Hz.out;omega)
     obtain ⟨gf,offf,rfl,hcf⟩:∃g off,va=some ⟨g,off,none⟩∧CellsAt wr g (off+k*2) f.cells:=rd_el (f:=Fr.cells) (sz:=2) (fun _=>rfl) holk.rd hfk
     obtain ⟨wz,hwz,hmwz,hgwz,hzwz⟩:=allocE wr (.cells f.cells.toArray 33)
     have hwz':wr.alloc (.cells #[.string f.sc,.slice f.a f.cs.length f.c] 33)=wz:=hwz
     have Hsk:=Lib.hid hsk
     have Howk:=Lib.hid howk
     have Hkc:=Lib.hid hkc
     have Hmk:=Lib.hid hmk
     have Hfk:=Lib.hid hfk
     have Hfm:=Lib.hid hfm
     have Holk:=Lib.hid holk
     have Hcf:=Lib.hid hcf
     have Hwz':=Lib.hid hwz'
     have Hgwz:=Lib.hid hgwz
     have Hmwz:=Lib.hid hmwz
     clear hsk howk hkc hmk hfk hfm holk hcf hwz' hgwz hmwz hwz hzwz
     go_wp2_with (first|((with_reducible refine wpList_load_lit 33 (.tmp 45) ?_);refine ⟨gf,offf+k*2,rfl,[.string f.sc,.slice f.a f.cs.length f.c],Hcf.out,by kernel_rfl,by kernel_rfl, ?_⟩)|((with_reducible refine wpList_store_lit 33 (.tmp 11) (.tmp 46) ?_);refine ⟨rfl,[.string f.sc,.slice f.a f.cs.length f.c],rfl,rfl,by kernel_rfl,rfl, ?_⟩;rw [Hwz'.out])|fail)
     have hfb:f.cs.length≤1000∧f.sc.size≤1000000∧∀x∈f.cs,x.fits:=by
      have h1:=HwfO.out f.fil (by rw [←Hlf.out];exact List.mem_map.2 ⟨f,Hfm.out,rfl⟩)
      exact ⟨Nat.le_trans h1.1 (by omega),h1.2.2,h1.2.1⟩
     have hkl0:=filPrt_len f.sc f.cs hfb.2.2
     have hfl:f.cs.length≤19:=(HwfO.out f.fil (by rw [←Hlf.out];exact List.mem_map.2 ⟨f,Hfm.out,rfl⟩)).1
     have hkn:kF ((l.take k).map Fr.fil) (keyF f.fil)=none:=by rw [List.map_take];exact kF_new Hlt2.out (by rw [List.getElem?_map,Hfk.out];rfl)
     have hlen:((l.take k).map Fr.fil).length≤1000:=by
      have h1:=congrArg List.length Hlf.out
      rw [List.length_map] at h1
      have h2:=HOl.out
      have h3:=HMl.out
      rw [List.length_map,List.length_take]
      omega
     have hfs:=hfb.2.1
     have hmz:Mod (fun _=>False) wr wz:=Hmwz.out
     have hpr:∀wx,Mod (fun _=>False) wz wx→Calls Tryz.prog 35 #[.agg #[.string f.sc,.slice f.a f.cs.length f.c]] wx fun e w'=>e= .returned (.string (str (filPrt f.sc f.cs)))∧Mod (fun _=>False) wx w':=fun wx hx=>
      fprint_at w0 wx (Howk.out.laid.mod0 (hmz.trans hx (fun _ _ h=>h))) f.sc (.slice f.a f.cs.length f.c) f.cs (((Hcon.out f Hfm.out).mov Hsk.out (by omega) (by omega)).rd.mod (hmz.trans hx (fun _ _ h=>h)) (fun _ _ h=>h)) hfb.1 hfb.2.1 hfb.2.2
     have hS:(fun y:World=>y.cell? ⟨wr.heap.size,0,none⟩=some (.string f.sc)∧y.cell? ⟨wr.heap.size,1,none⟩=some (.slice f.a f.cs.length f.c)) wz.drew:=⟨cell_of Hgwz.out rfl,cell_of Hgwz.out rfl⟩
     have Hpr:=Lib.hid hpr
     have Hfb:=Lib.hid hfb
     have Hmz:=Lib.hid hmz
     have Hkn:=Lib.hid hkn
     clear hpr hfb hmz hkn
     refine wp_region_script [.rd 0,.rd 1,.rd 3,.go 2,.go 4] [0,1,2,3] (fun y:World=>y.cell? ⟨wr.heap.size,0,none⟩=some (.string f.sc)∧y.cell? ⟨wr.heap.size,1,none⟩=some (.slice f.a f.cs.length f.c)) (by kernel_rfl) (by kernel_rfl) (fun _ _ d _ _ h=>(by cases d<;>exact h)) ?_
     iterate 3 (
      refine walk_rd rfl ?_ (fun _=>hS) ?_ (fun w0 h0=> ?_) (fun K hK=> ?_)
      ·(try simp only [List.getElem_toArray]);(try simp only [List.getElem_cons_succ]);(try simp only [List.getElem_cons_zero])
       go_simp;done
      rotate_left
      ·(try simp only [List.getElem_toArray]);(try simp only [List.getElem_cons_succ]);(try simp only [List.getElem_cons_zero])
       first
        |(obtain ⟨f0,f1⟩:=h0 rfl;clear h0;go_simp;with_reducible rfl)
        |(clear h0;go_simp;with_reducible rfl)
      (try simp only [List.getElem_toArray]);(try simp only [List.getElem_cons_succ]);(try simp only [List.getElem_cons_zero])
      go_simp;refine hK _ ?_;clear hK K)
     refine walk_one (go_yes rfl ?_ (fun K hK=> ?_))
     ·(try simp only [List.getElem_toArray]);(try simp only [List.getElem_cons_succ]);(try simp only [List.getElem_cons_zero])
      go_simp;done
     go_wp2_with fail
     refine (Hpr.out wz.drew ((Mod.refl _ wz).drew)).mono ?_
     rintro e w3 ⟨rfl,hm3⟩
     refine hK _ _ (fun _ h=>⟨hm3.cell h.1 (fun h=>h),hm3.cell h.2 (fun h=>h)⟩) ?_
     clear hK K hS
     have hm3':Mod (fun _=>False) wr w3:=Hmz.out.trans (((Mod.refl _ wz).drew).trans hm3 (fun _ _ h=>h)) (fun _ _ h=>h)
     have hkc3:=(Hkc.out.mov Htag.out (Mov.of Howk.out hm3' (fun _=>False)) (fun h=>h) (fun h=>h)).1
     have how3:=(Mov.of Howk.out hm3' (fun _=>False)).owd Howk.out (fun h=>h)
     obtain ⟨w4,hrun,hkc4,hm4⟩:=KeyC.put how3 hkc3 (by unfold maxLen;omega) (by rw [Htag.out];omega) f.fil (by show (filPrt f.sc f.cs).length≤maxLen;unfold maxLen;omega) Hkn.out f.a f.c (((Hcon.out f Hfm.out).mov Hsk.out (by omega) (by omega)).mov (Mov.of Howk.out hm3' (fun _=>False)) (fun h=>h) (by omega))
     have hrun':(Instr.mapUpdate 174 (.map (some wq.heap.size)) (.string (str (filPrt f.sc f.cs))) (.agg #[.string f.sc,.slice f.a f.cs.length f.c])).run Tryz.prog w3= .ok () w4:=hrun
     refine walk_one (go_yes rfl ?_ (fun K hK=> ?_))
     ·(try simp only [List.getElem_toArray]);(try simp only [List.getElem_cons_succ]);(try simp only [List.getElem_cons_zero])
      go_simp;done
     (try simp only [List.getElem_toArray]);(try simp only [List.getElem_cons_succ]);(try simp only [List.getElem_cons_zero])
     refine wp_mput_run 174 _ _ _ rfl hrun' ?_
     refine hK _ _ (fun h=>absurd h (by decide)) ?_
     clear hK K
     refine walk_nil ?_
     have hmk4:Mod (fun b=>b=wq.heap.size) w2 w4:=(Hmk.out.trans (hm3'.mono (fun _ _ h=>h.elim)) (fun _ _ h=>h)).trans hm4 (fun _ _ h=>h)
     have hkl:(l.take (k+1)).map Fr.fil=(l.take k).map Fr.fil++[f.fil]:=by rw [List.take_add_one,Hfk.out,Option.toList_some,List.map_append];rfl
     have Hrun:=Lib.hid hrun
     have Hrun':=Lib.hid hrun'
     have Hkc4:=Lib.hid hkc4
     have Hm4:=Lib.hid hm4
     have Hmk4:=Lib.hid hmk4
     have Hkl:=Lib.hid hkl
     have Hm3:=Lib.hid hm3
     have Hm3':=Lib.hid hm3'
     have Hkc3:=Lib.hid hkc3
     have How3:=Lib.hid how3
     clear hrun hrun' hkc4 hm4 hmk4 hkl hm3 hm3' hkc3 how3 hlen hkl0 hfl hfs
     go_wp2_with fail
     go_roundw
     case rel=>exact ⟨k+1,by go_num,hlk,by rw [Hkl.out];exact Hkc4.out,Hmk4.out⟩
     case measure=>simp [intOf];omega
    ·obtain rfl:k=l.length:=by omega
     rw [List.take_length,Hlf.out] at hkc
     obtain ⟨wA,rfl⟩:∃x:World,x=wr:=⟨_,rfl⟩
     have hltW:=outL_lt M n
     obtain ⟨W,hW⟩:∃W,outL M n=W:=⟨_,rfl⟩
     obtain ⟨G0,hG0⟩:∃G0,((B.told t (near.take j)).R t).G n=G0:=⟨_,rfl⟩
     have hWl:W.length≤1000:=by have:=HOl.out;have:=HMl.out;rw [←hW];omega
     have hGl0:G0.length≤1000000:=by
      rw [←hG0,BS.told_R]
      exact (HGk.out.refr (by have:=HMl.out;rw [HM.out];omega) (by rw [HM.out];exact HwfM.out) _).len n
     have hwfG:∀q∈G0,okQ q:=by
      rw [←hG0,BS.told_R]
      exact (HGk.out.refr (by have:=HMl.out;rw [HM.out];omega) (by rw [HM.out];exact HwfM.out) _).ok n
     have hwfW:∀q∈W,okQ q:=by rw [←hW];exact HwfO.out
     rw [hW] at hkc hltW
     have hmA:Mod (fun _=>False) wq wA:=(hmw1.trans Hm2.out (fun _ _ h=>h)).upon hmk (fun b hb=> .inr (Nat.le_of_eq (show wq.heap.size=b from (show b=wq.heap.size from hb).symm)))
     have p3A:=hmA.cell P3.out (fun h=>h)
     have hsA:SentC wA ow1 (c+13+t) (a.mb t) _ _:=Hrea.out.snt.far (F:=fun _=>False) ⟨hmA,Hs1.out.old⟩ (fun h=>h) (fun h=>h)
     obtain ⟨ns,fs,hf1,hf2,hf3⟩:=hsA.mp
     have hlkn:=hf1.look keyed_i Tryz.underlying57 (zero_mm wA) (Maps.keyOf_int_mk Tryz.underlying3 (Hnw.out n Hnm.out))
     have hsv:=hf3 n
     rw [hG0] at hsv
     obtain ⟨m,hmv,hkv⟩:=hsv.keyV
     rw [hmv] at hlkn
     have hltG:G0.Pairwise fun a b=>keyF a<keyF b:=hG0▸hsA.lt n
     have hkeys:=skeys_at (some wq.heap.size) wA
     have hsort:=KeyV.sorted (w:=wA) (ow:=ow1) (.inr ⟨_,rfl,hkc⟩) (by omega) hltW
     obtain ⟨wB,hwB⟩:∃wB:World,wA.alloc (.cells #[.map (some wq.heap.size)] 174)=wB:=⟨_,rfl⟩
     rw [hwB] at hsort hkeys
     have hmB:Mod (fun _=>False) wA wB:=hwB▸(Mod.refl (fun _=>False) wA).alloc _
     have ht0:¬O.tg 0:=fun h=>by have:=O.t2 0 h;omega
     have hnt:¬O.tg (c+13+t):=fun h=>by have:=HOt.out _ h;omega
     have hcb:O.cnt (O.sends s (refrS (B.R t).M t (near.take j) (B.R t).G))+((lackF W G0).length+(lackF G0 W).length)≤400000000000:=by
      have h1:=refrS_part (M:=(B.R t).M) (ten:=t) Hnj.out (B.R t).G
      have h2:=O.sends_cnt s (refrS (B.R t).M t (near.take j) (B.R t).G)
      rw [BS.told_R] at hG0
      rw [tellN_len,HM.out,hW,show refrG M (near.take j) (B.R t).G n=G0 by rw [←HM.out];exact hG0] at h1
      have h0:=hcnt
      rw [HM.out] at h0 h2⊢
      omega
     obtain ⟨S0,hS0⟩:∃S0,O.sends s (refrS (B.R t).M t (near.take j) (B.R t).G)=S0:=⟨_,rfl⟩
     rw [hS0] at hcb
     have Hsk:=Lib.hid hsk
     have Howk:=Lib.hid howk
     have Hkc:=Lib.hid hkc
     have Hmk:=Lib.hid hmk
     have HltW:=Lib.hid hltW
     have HW:=Lib.hid hW
     have HG0:=Lib.hid hG0
     have HwfW:=Lib.hid hwfW
     have HwfG:=Lib.hid hwfG
     have HmA:=Lib.hid hmA
     have P3A:=Lib.hid p3A
     have HsA:=Lib.hid hsA
     have Hf1:=Lib.hid hf1
     have Hf2:=Lib.hid hf2
     have Hf3:=Lib.hid hf3
     have Hsv:=Lib.hid hsv
     have Hmv:=Lib.hid hmv
     have Hkv:=Lib.hid hkv
     have HltG:=Lib.hid hltG
     have Hkeys:=Lib.hid hkeys
     have Hsort:=Lib.hid hsort
     have HwB:=Lib.hid hwB
     have HmB:=Lib.hid hmB
     have HS0:=Lib.hid hS0
     have Ht0:=Lib.hid ht0
     have Hnt:=Lib.hid hnt
     clear hsk howk hkc hmk hltW hW hG0 hwfW hwfG hmA p3A hsA hf1 hf2 hf3 hsv hmv hkv hltG hkeys hsort hwB hmB hS0 ht0 hnt
     have hlkA:=hlkn
     have p3a:=P3A.out
     go_wp2_with fail
     refine Hkeys.out.mono ?_
     rintro e wx ⟨rfl,hwx⟩
     obtain rfl:=hwx.symm
     go_wp2_with fail
     refine Hsort.out.mono ?_
     rintro e wC ⟨sv,rfl,hso,hsb,hmC⟩
     obtain ⟨sa,sc,rfl,hsc⟩:=hso.shape
     rw [List.length_map,List.length_map] at hso hsc hsb⊢
     have hsc':(W.length:Int)≤sc:=by omega
     have hmAC:=HmB.out.trans hmC (fun _ _ h=>h)
     have hsAC:=Mov.of Howk.out hmAC (fun _=>False)
     have howC:=hsAC.owd Howk.out (fun h=>h)
     have hkC:=(Hkc.out.mov Htag.out hsAC (fun h=>h) (fun h=>h)).1
     have hsvC:=Hsv.out.mov hsAC (fun h=>h) (fun h=>h)
     have hfarC:Far O.tg wq owr wC ow1:=⟨(HmA.out.trans hmAC (fun _ _ h=>h)).mono (fun _ _ h=>h.elim),Hs1.out.old⟩
     have hOC:=O.mov HO2.out How2.out (Mov.wrote (F:=fun q=>q=c+13+t) How2.out (Hmk.out.trans (hmAC.mono (fun _ _ h=>h.elim)) (fun _ _ h=>h)) (fun b hb=>by rw [hb,Htag.out])) (by omega) (fun q e he=>by have:=HOt.out q he;omega)
     rw [HS0.out] at hOC
     have hmvC:Mov (refreF c t O.tg) w ow wC ow1:=(((Hmr.out.trans (Hs1.out.mono (fun _ h=> .inl h))).trans (Mov.of How1.out Hm2.out _)).trans (Hsk.out.mono (fun _ h=> .inl h))).trans (hsAC.mono (fun _ h=>h.elim))
     have hksC:ConSl wC ow1 1 (.slice sa W.length sc) W.length ((W.map keyF).map encStr):=⟨hso.rd,fun _ b hb=>Howk.out.zero (Nat.le_trans HmB.out.size (hsb b hb))⟩
     have Hso:=Lib.hid hso
     have Hsb:=Lib.hid hsb
     have HmC:=Lib.hid hmC
     have HmAC:=Lib.hid hmAC
     have HsAC:=Lib.hid hsAC
     have HowC:=Lib.hid howC
     have HkC:=Lib.hid hkC
     have HsvC:=Lib.hid hsvC
     have HfarC:=Lib.hid hfarC
     have HOC:=Lib.hid hOC
     have HksC:=Lib.hid hksC
     have HmvC:=Lib.hid hmvC
     clear hso hsb hmC hmAC hsAC howC hkC hsvC hfarC hOC hksC hmvC hsc hlkA p3a hlkn
     go_wp2_with fail
     go_loopw [62] (fun i wr=>RfA O wC ow1 S0 n t Mg.sub W G0 i wr) (fun i _=>W.length - (intOf i).toNat)
     case atStart=>exact ⟨0,ow1,rfl,Nat.zero_le _,HOC.out,Mov.refl HowC.out⟩
     case round=>
      obtain ⟨k,ow',rfl,hk,hOk,hmk'⟩:=hrel
      have how':=hmk'.owd HowC.out Ht0.out
      by_cases hlw:k<W.length
      ·have hlw':(k:Int)<W.length:=by omega
       obtain ⟨f,hfk⟩:∃f,W[k]? =some f:=⟨_,List.getElem?_eq_getElem hlw⟩
       have hfm:=List.mem_of_getElem? hfk
       obtain ⟨gs,offs,rfl,ck⟩:=rd_one (l:=W.map keyF) (enc:=encStr) (HksC.out.mov hmk' Ht0.out (by omega)).rd (by rw [List.getElem?_map,hfk];rfl)
       have ck':wr.cell? ⟨gs,offs+k,none⟩=some (.string (str (keyF f))):=ck
       have hkl1:(keyF f).length≤maxLen:=okQ_key (HwfW.out f hfm)
       have hkr:=(HkC.out.mov Htag.out hmk' Ht0.out Hnt.out).1
       have htr:ow' wq.heap.size=c+13+t:=(HkC.out.mov Htag.out hmk' Ht0.out Hnt.out).2
       have hkg:=(HsvC.out.mov hmk' Ht0.out Hnt.out).keyV2 Hmv.out
       obtain ⟨q,qa,qc,hq1, -, -⟩:=hkg.ask (keyF f) hkl1
       have hsu:=lackF_take (b:=G0) hfk
       obtain ⟨ok,hok⟩:∃ok,(kF G0 (keyF f)).isSome=ok:=⟨_,rfl⟩
       rw [hok] at hq1
       have hcl:=lackF_len W G0 k
       obtain ⟨wz,hwz,hmwz,hgwz,hzwz⟩:=allocE wr (.cells #[.string q.1,.slice qa q.2.length qc] 33)
       have hsz:=Mov.of how' hmwz (fun _=>False)
       have howz:=hsz.owd how' (fun h=>h)
       have hOz:=O.mov hOk how' hsz (fun h=>h) (fun _ h=>h.elim)
       have hkz:=(hkr.mov htr hsz (fun h=>h) (fun h=>h)).1
       have hmz:Mov O.tg wC ow1 wz ow':=hmk'.trans (Mov.of how' hmwz _)
       cases ok with
       |true=>
        rw [show (kF G0 (keyF f)).isNone=false by rw [←Option.not_isSome,hok];rfl,if_neg (by decide),List.append_nil] at hsu
        have HOk:=Lib.hid hOk
        have Hmk':=Lib.hid hmk'
        have How':=Lib.hid how'
        have Hfk:=Lib.hid hfk
        have Hfm:=Lib.hid hfm
        have Ck:=Lib.hid ck
        have Hkl1:=Lib.hid hkl1
        have Hkr:=Lib.hid hkr
        have Htr:=Lib.hid htr
        have Hkg:=Lib.hid hkg
        have Hsu:=Lib.hid hsu
        have Hok:=Lib.hid hok
        have Hwz:=Lib.hid hwz
        have Hmwz:=Lib.hid hmwz
        have Hgwz:=Lib.hid hgwz
        have Hsz:=Lib.hid hsz
        have Howz:=Lib.hid howz
        have HOz:=Lib.hid hOz
        have Hkz:=Lib.hid hkz
        have Hmz:=Lib.hid hmz
        clear hOk hmk' how' hfk hfm ck hkl1 hkr htr hkg hsu hok hwz hmwz hgwz hsz howz hOz hkz hmz hzwz hcl
        go_wp2_with (first|((with_reducible refine wpList_store_lit 33 (.tmp 15) (.tmp 70) ?_);refine ⟨rfl,[.string q.1,.slice qa q.2.length qc],rfl,rfl,by kernel_rfl,rfl, ?_⟩;rw [Hwz.out])|fail)
        go_roundw
        case rel=>exact ⟨k+1,ow',by go_num,hlw,by rw [Hsu.out];exact HOz.out,Hmz.out⟩
        case measure=>simp [intOf];omega
       |false=>
        rw [show (kF G0 (keyF f)).isNone=true by rw [←Option.not_isSome,hok];rfl,if_pos rfl] at hsu
        obtain ⟨p,pa,pc, -,hp2,hp3⟩:=KeyV.ask (v:= .map (some wq.heap.size)) (.inr ⟨_,rfl,hkz⟩) (keyF f) hkl1
        obtain ⟨rfl,hpc⟩:=hp3 f (kF_of HltW.out hfk)
        have hct:=O.sends_cnt S0 ((lackF (W.take k) G0).map fun f=>(n,(t:Int),Mg.sub f))
        rw [List.length_map] at hct
        have hsend:=O.tsub howz hOz (by omega) (Hto.out n Hnm.out) hpc
        have HOk:=Lib.hid hOk
        have Hmk':=Lib.hid hmk'
        have How':=Lib.hid how'
        have Hfk:=Lib.hid hfk
        have Hfm:=Lib.hid hfm
        have Ck:=Lib.hid ck
        have Hkl1:=Lib.hid hkl1
        have Hkr:=Lib.hid hkr
        have Htr:=Lib.hid htr
        have Hkg:=Lib.hid hkg
        have Hsu:=Lib.hid hsu
        have Hok:=Lib.hid hok
        have Hwz:=Lib.hid hwz
        have Hmwz:=Lib.hid hmwz
        have Hgwz:=Lib.hid hgwz
        have Hsz:=Lib.hid hsz
        have Howz:=Lib.hid howz
        have HOz:=Lib.hid hOz
        have Hkz:=Lib.hid hkz
        have Hmz:=Lib.hid hmz
        have Hp3:=Lib.hid hp3
        have Hpc:=Lib.hid hpc
        have Hsend:=Lib.hid hsend
        clear hOk hmk' how' hfk hfm ck hkl1 hkr htr hkg hsu hok hwz hmwz hgwz hsz howz hOz hkz hmz hp3 hpc hsend hzwz hcl hct
        go_wp2_with (first|((with_reducible refine wpList_store_lit 33 (.tmp 15) (.tmp 70) ?_);refine ⟨rfl,[.string q.1,.slice qa q.2.length qc],rfl,rfl,by kernel_rfl,rfl, ?_⟩;rw [Hwz.out])|fail)
        refine Hsend.out.mono ?_
        rintro e w3 ⟨rfl,ow3,hO3,hm3⟩
        have hmz3:=Hmz.out.trans hm3
        have HO3:=Lib.hid hO3
        have Hm3:=Lib.hid hm3
        have Hmz3:=Lib.hid hmz3
        clear hO3 hm3 hmz3
        go_wp2_with fail
        go_roundw
        case rel=>exact ⟨k+1,ow3,by go_num,hlw,by rw [Hsu.out,List.map_append,List.map_singleton,O.sends_one];exact HO3.out,Hmz3.out⟩
        case measure=>simp [intOf];omega
      ·obtain rfl:k=W.length:=by omega
       rw [List.take_length] at hOk
       obtain ⟨wD,rfl⟩:∃x:World,x=wr:=⟨_,rfl⟩
       have hkD:=HkC.out.mov Htag.out hmk' Ht0.out Hnt.out
       have hsvD:=HsvC.out.mov hmk' Ht0.out Hnt.out
       have hkeyt:=skeys_at m wD
       have hsortt:=(hsvD.keyV2 Hmv.out).sorted hGl0 HltG.out
       obtain ⟨wE,hwE⟩:∃wE:World,wD.alloc (.cells #[.map m] 174)=wE:=⟨_,rfl⟩
       rw [hwE] at hsortt hkeyt
       have hmE:Mod (fun _=>False) wD wE:=hwE▸(Mod.refl (fun _=>False) wD).alloc _
       have hct:=O.sends_cnt S0 ((lackF W G0).map fun f=>(n,(t:Int),Mg.sub f))
       rw [List.length_map] at hct
       obtain ⟨S1,hS1⟩:∃S1,O.sends S0 ((lackF W G0).map fun f=>(n,(t:Int),Mg.sub f))=S1:=⟨_,rfl⟩
       rw [hS1] at hOk hct
       have hcb1:O.cnt S1+(lackF G0 W).length≤400000000000:=by omega
       have HkD:=Lib.hid hkD
       have HsvD:=Lib.hid hsvD
       have Hkeyt:=Lib.hid hkeyt
       have Hsortt:=Lib.hid hsortt
       have HwE:=Lib.hid hwE
       have HmE:=Lib.hid hmE
       have HS1:=Lib.hid hS1
       have HOk:=Lib.hid hOk
       have Hmk':=Lib.hid hmk'
       have How':=Lib.hid how'
       clear hkD hsvD hkeyt hsortt hwE hmE hS1 hOk hmk' how' hct
       go_wp2_with fail
       refine Hkeyt.out.mono ?_
       rintro e wx ⟨rfl,hwx⟩
       obtain rfl:=hwx.symm
       go_wp2_with fail
       refine Hsortt.out.mono ?_
       rintro e wF ⟨sv,rfl,hso,hsb,hmF⟩
       obtain ⟨ta,tc,rfl,htc⟩:=hso.shape
       rw [List.length_map,List.length_map] at hso htc hsb⊢
       have htc':(G0.length:Int)≤tc:=by omega
       have hmDF:=HmE.out.trans hmF (fun _ _ h=>h)
       have hsDF:=Mov.of How'.out hmDF (fun _=>False)
       have howF:=hsDF.owd How'.out (fun h=>h)
       have hkF:=HkD.out.1.mov HkD.out.2 hsDF (fun h=>h) (fun h=>h)
       have hsvF:=HsvD.out.mov hsDF (fun h=>h) (fun h=>h)
       have hOF:=O.mov HOk.out How'.out hsDF (fun h=>h) (fun _ h=>h.elim)
       have hksF:ConSl wF ow' 1 (.slice ta G0.length tc) G0.length ((G0.map keyF).map encStr):=⟨hso.rd,fun _ b hb=>How'.out.zero (Nat.le_trans HmE.out.size (hsb b hb))⟩
       have hmCF:Mov O.tg wC ow1 wF ow':=Hmk'.out.trans (Mov.of How'.out hmDF _)
       obtain ⟨ow4,hw4⟩:∃ow4,ow'=ow4:=⟨_,rfl⟩
       subst hw4
       have Hso:=Lib.hid hso
       have Hsb:=Lib.hid hsb
       have HmF:=Lib.hid hmF
       have HmDF:=Lib.hid hmDF
       have HsDF:=Lib.hid hsDF
       have HowF:=Lib.hid howF
       have HkF:=Lib.hid hkF
       have HsvF:=Lib.hid hsvF
       have HOF:=Lib.hid hOF
       have HksF:=Lib.hid hksF
       have HmCF:=Lib.hid hmCF
       clear hso hsb hmF hmDF hsDF howF hkF hsvF hOF hksF hmCF htc
       go_wp2_with fail
       go_loopw [87] (fun i wr=>RfA O wF ow' S1 n t Mg.uns G0 W i wr) (fun i _=>G0.length - (intOf i).toNat)
       case atStart=>exact ⟨0,ow',rfl,Nat.zero_le _,HOF.out,Mov.refl HowF.out⟩
       case round=>
        obtain ⟨k,ow2,rfl,hk,hOk2,hmk2⟩:=hrel
        have how2:=hmk2.owd HowF.out Ht0.out
        by_cases hlw:k<G0.length
        ·have hlw':(k:Int)<G0.length:=by omega
         obtain ⟨f,hfk⟩:∃f,G0[k]? =some f:=⟨_,List.getElem?_eq_getElem hlw⟩
         have hfm:=List.mem_of_getElem? hfk
         obtain ⟨gs,offs,rfl,ck⟩:=rd_one (l:=G0.map keyF) (enc:=encStr) (HksF.out.mov hmk2 Ht0.out (by omega)).rd (by rw [List.getElem?_map,hfk];rfl)
         have ck':wr.cell? ⟨gs,offs+k,none⟩=some (.string (str (keyF f))):=ck
         have hkl1:=okQ_key (HwfG.out f hfm)
         have hkr:=(HkF.out.1.mov HkF.out.2 hmk2 Ht0.out Hnt.out).1
         have hsvr:=HsvF.out.mov hmk2 Ht0.out Hnt.out
         obtain ⟨q,qa,qc,hq1, -, -⟩:=KeyV.ask (v:= .map (some wq.heap.size)) (.inr ⟨_,rfl,hkr⟩) (keyF f) hkl1
         have hsu:=lackF_take (b:=W) hfk
         obtain ⟨ok,hok⟩:∃ok,(kF W (keyF f)).isSome=ok:=⟨_,rfl⟩
         rw [hok] at hq1
         have hcl:=lackF_len G0 W k
         obtain ⟨wz,hwz,hmwz,hgwz,hzwz⟩:=allocE wr (.cells #[.string q.1,.slice qa q.2.length qc] 33)
         have hsz:=Mov.of how2 hmwz (fun _=>False)
         have howz:=hsz.owd how2 (fun h=>h)
         have hOz:=O.mov hOk2 how2 hsz (fun h=>h) (fun _ h=>h.elim)
         have hsvz:=hsvr.mov hsz (fun h=>h) (fun h=>h)
         have hmz:Mov O.tg wF ow' wz ow2:=hmk2.trans (Mov.of how2 hmwz _)
         cases ok with
         |true=>
          rw [show (kF W (keyF f)).isNone=false by rw [←Option.not_isSome,hok];rfl,if_neg (by decide),List.append_nil] at hsu
          have HOk2:=Lib.hid hOk2
          have Hmk2:=Lib.hid hmk2
          have How2:=Lib.hid how2
          have Hfk:=Lib.hid hfk
          have Hfm:=Lib.hid hfm
          have Ck:=Lib.hid ck
          have Hkl1:=Lib.hid hkl1
          have Hkr:=Lib.hid hkr
          have Hsvr:=Lib.hid hsvr
          have Hsu:=Lib.hid hsu
          have Hok:=Lib.hid hok
          have Hwz:=Lib.hid hwz
          have Hmwz:=Lib.hid hmwz
          have Hgwz:=Lib.hid hgwz
          have Hsz:=Lib.hid hsz
          have Howz:=Lib.hid howz
          have HOz:=Lib.hid hOz
          have Hsvz:=Lib.hid hsvz
          have Hmz:=Lib.hid hmz
          clear hOk2 hmk2 how2 hfk hfm ck hkl1 hkr hsvr hsu hok hwz hmwz hgwz hsz howz hOz hsvz hmz hzwz hcl
          go_wp2_with (first|((with_reducible refine wpList_store_lit 33 (.tmp 19) (.tmp 95) ?_);refine ⟨rfl,[.string q.1,.slice qa q.2.length qc],rfl,rfl,by kernel_rfl,rfl, ?_⟩;rw [Hwz.out])|fail)
          go_roundw
          case rel=>exact ⟨k+1,ow2,by go_num,hlw,by rw [Hsu.out];exact HOz.out,Hmz.out⟩
          case measure=>simp [intOf];omega
         |false=>
          rw [show (kF W (keyF f)).isNone=true by rw [←Option.not_isSome,hok];rfl,if_pos rfl] at hsu
          obtain ⟨p,pa,pc, -,hp2,hp3⟩:=(hsvz.keyV2 Hmv.out).ask (keyF f) hkl1
          obtain ⟨rfl,hpc⟩:=hp3 f (kF_of HltG.out hfk)
          have hct:=O.sends_cnt S1 ((lackF (G0.take k) W).map fun f=>(n,(t:Int),Mg.uns f))
          rw [List.length_map] at hct
          have hsend:=O.tuns howz hOz (by omega) (Hto.out n Hnm.out) hpc
          have HOk2:=Lib.hid hOk2
          have Hmk2:=Lib.hid hmk2
          have How2:=Lib.hid how2
          have Hfk:=Lib.hid hfk
          have Hfm:=Lib.hid hfm
          have Ck:=Lib.hid ck
          have Hkl1:=Lib.hid hkl1
          have Hkr:=Lib.hid hkr
          have Hsvr:=Lib.hid hsvr
          have Hsu:=Lib.hid hsu
          have Hok:=Lib.hid hok
          have Hwz:=Lib.hid hwz
          have Hmwz:=Lib.hid hmwz
          have Hgwz:=Lib.hid hgwz
          have Hsz:=Lib.hid hsz
          have Howz:=Lib.hid howz
          have HOz:=Lib.hid hOz
          have Hsvz:=Lib.hid hsvz
          have Hmz:=Lib.hid hmz
          have Hp3:=Lib.hid hp3
          have Hpc:=Lib.hid hpc
          have Hsend:=Lib.hid hsend
          clear hOk2 hmk2 how2 hfk hfm ck hkl1 hkr hsvr hsu hok hwz hmwz hgwz hsz howz hOz hsvz hmz hp3 hpc hsend hzwz hcl hct
          go_wp2_with (first|((with_reducible refine wpList_store_lit 33 (.tmp 19) (.tmp 95) ?_);refine ⟨rfl,[.string q.1,.slice qa q.2.length qc],rfl,rfl,by kernel_rfl,rfl, ?_⟩;rw [Hwz.out])|fail)
          refine Hsend.out.mono ?_
          rintro e w3 ⟨rfl,ow3,hO3,hm3⟩
          have hmz3:=Hmz.out.trans hm3
          have HO3:=Lib.hid hO3
          have Hm3:=Lib.hid hm3
          have Hmz3:=Lib.hid hmz3
          clear hO3 hm3 hmz3
          go_wp2_with fail
          go_roundw
          case rel=>exact ⟨k+1,ow3,by go_num,hlw,by rw [Hsu.out,List.map_append,List.map_singleton,O.sends_one];exact HO3.out,Hmz3.out⟩
          case measure=>simp [intOf];omega
        ·obtain rfl:k=G0.length:=by omega
         rw [List.take_length] at hOk2
         obtain ⟨wG,rfl⟩:∃x:World,x=wr:=⟨_,rfl⟩
         have hmCG:Mov O.tg wC ow1 wG ow2:=HmCF.out.trans hmk2
         have hfarG:=HfarC.out.trans hmCG.far
         have hbG:=Hbr.out.far How.out how2 hfarG Ht0.out HOt.out
         obtain ⟨-, -, -,p3G⟩:=hbG.cells ht
         have hkG:=HkF.out.1.mov HkF.out.2 hmk2 Ht0.out Hnt.out
         have hmbl:a.mb t<wq.heap.size:=by
          obtain ⟨_,_,h1, -⟩:=Hrea.out.snt.mp
          exact h1.lt
         have hKm:((B.told t (near.take j)).R t).K<maxLen:=by
          rw [BS.told_R]
          show (B.R t).K+(near.take j).length<maxLen
          rw [List.length_take]
          unfold maxLen
          omega
         obtain ⟨wH,hrun,hsH,hmH⟩:=SentC.put how2 (hbG.rea t ht).snt hKm (by omega) n (Hnw.out n Hnm.out) wq.heap.size hkG.2 (by omega) W hkG.1 HltW.out
         have htmb:ow2 (a.mb t)=c+13+t:=(hbG.rea t ht).snt.tag
         have hsGH:Mov (fun q=>q=c+13+t) wG ow2 wH ow2:=Mov.wrote how2 hmH (fun k hk=>by rw [hk];exact htmb)
         have hbH:=hbG.told2 how2 hsGH ht hsH
         have htk:near.take (j+1)=near.take j++[n]:=by rw [List.take_add_one,Hnj.out,Option.toList_some]
         have hBt:B.told t (near.take (j+1))={B.told t (near.take j) with R:=upd (B.told t (near.take j)).R t {(B.told t (near.take j)).R t with G:=updI ((B.told t (near.take j)).R t).G n W,K:=((B.told t (near.take j)).R t).K+1}}:=by rw [htk,BS.told_snoc,HM.out,HW.out]
         rw [←hBt] at hbH
         have hOH:=O.mov hOk2 how2 hsGH (by omega) (fun q e he=>by have:=HOt.out q he;omega)
         have hSs:O.sends s (refrS (B.R t).M t (near.take (j+1)) (B.R t).G)=O.sends S1 ((lackF G0 W).map fun f=>(n,(t:Int),Mg.uns f)):=by
          rw [htk,told_says,HG0.out,HM.out,HW.out,O.sends_app,←HM.out,HS0.out]
          unfold tellN
          rw [O.sends_app,HS1.out]
         rw [←hSs] at hOH
         have hmvH:Mov (refreF c t O.tg) w ow wH ow2:=(HmvC.out.trans (hmCG.mono (fun _ h=> .inr h))).trans (hsGH.mono (fun _ h=> .inl h))
         have howH:=hsGH.owd how2 (by omega)
         have HOk2:=Lib.hid hOk2
         have Hmk2:=Lib.hid hmk2
         have How2:=Lib.hid how2
         have HmCG:=Lib.hid hmCG
         have HfarG:=Lib.hid hfarG
         have HbG:=Lib.hid hbG
         have HkG:=Lib.hid hkG
         have Hrun:=Lib.hid hrun
         have HsH:=Lib.hid hsH
         have HmH:=Lib.hid hmH
         have HsGH:=Lib.hid hsGH
         have HbH:=Lib.hid hbH
         have HBt:=Lib.hid hBt
         have HOH:=Lib.hid hOH
         have HSs:=Lib.hid hSs
         have HmvH:=Lib.hid hmvH
         have HowH:=Lib.hid howH
         have Htmb:=Lib.hid htmb
         have Htk:=Lib.hid htk
         clear hOk2 hmk2 how2 hmCG hfarG hbG hkG hrun hsH hmH hsGH hbH hBt hOH hSs hmvH howH htmb htk hmbl hKm
         go_wp2_with (first|((with_reducible refine wpList_mrun_lit 57 (.tmp 111) (.tmp 112) (.tmp 113) ?_);refine ⟨wH,Hrun.out, ?_⟩)|fail)
         go_roundw
         case rel=>exact ⟨j+1,ow2,by go_num,hlt,HbH.out,HOH.out,HmvH.out,HowH.out⟩
         case measure=>simp [intOf];omega
  ·obtain rfl:j=near.length:=by omega
   rw [List.take_length] at hbr hOr
   have Hbr:=Lib.hid hbr
   have HOr:=Lib.hid hOr
   have Hmr:=Lib.hid hmr
   have How:=Lib.hid how
   clear hbr hOr hmr how
   go_wp2
   go_end0
   exact ⟨rfl,owr,⟨a,Hbr.out⟩,HOr.out,Hmr.out⟩
end
end Go.Proofs.YtaenebdppkjhoaaGreatDoor
