/- Lemmas. -/
import Derived.Test.YtaenebdppkjhoaaGreatDoorZg41
import Derived.Test.YtaenebdppkjhoaaGreatDoorZg40
namespace Go.Proofs.YtaenebdppkjhoaaGreatDoor
set_option maxRecDepth 20000
set_option maxHeartbeats 40000000
section
open Go.RowKit
theorem b1O {l:List Att} {s:ByteArray} (h:there l s=true):∃x,l[pos l s]? =some x/\(x.name.toList==s.toList)=true:=by
 unfold there at h;split at h
 ·rename_i a ha
  refine ⟨a,ha, ?_⟩;rw [ByteArray.toList_eq,ByteArray.toList_eq];exact h
 ·cases h
theorem b1P {l:List Att} (hr:Go.Proofs.YtaenebdppkjhoaaGreatDoor.u7 l) {s:ByteArray} {k:Nat} {x:Att} (hx:l[k]? =some x) (hn:(x.name.toList==s.toList)=true):pos l s=k:=by
 rw [beq_iff_eq,ByteArray.toList_eq,ByteArray.toList_eq] at hn;rcases Nat.lt_trichotomy k (pos l s) with h|h|h
 ·have:=a5L h hx;rw [hn,a2c] at this;cases this
 ·exact h.symm
 obtain ⟨y,hy⟩:∃y,l[pos l s]? =some y:=⟨_,zz5 (by have:=(zz6 hx).1;omega)⟩;have h1:=hr _ _ y x h hy hx;rw [hn] at h1;have h2:=a4K hr (Nat.le_refl _) hy;rw [h1] at h2;cases h2
theorem a9F {l:List Att} (hr:Go.Proofs.YtaenebdppkjhoaaGreatDoor.u7 l) (c:Cnd):a2z c l=c.matchB l:=by
 unfold a2z Cnd.matchB a3A
 cases ht:there l c.name with
 | true=>
  obtain ⟨x,hx,hn⟩:=b1O ht;rw [if_pos rfl,hx];show _=(true&&c.holds x.v);rw [Bool.true_and,Bool.eq_iff_iff,List.any_eq_true];constructor
  ·rintro ⟨y,hy,h⟩;rw [Bool.and_eq_true] at h;obtain ⟨k,hk⟩:=List.mem_iff_getElem?.1 hy;have hp:=b1P hr hk h.1;rw [hp,hk] at hx;cases hx
   exact h.2
  ·intro h;exact ⟨x,zz8 hx,by rw [hn,h];rfl⟩
 | false=>
  rw [if_neg (by decide)];show _=(false&&_);rw [Bool.false_and,List.any_eq_false];intro y hy h;rw [Bool.and_eq_true] at h;obtain ⟨k,hk⟩:=List.mem_iff_getElem?.1 hy;have hp:=b1P hr hk h.1
  have:there l c.name=true:=by
   unfold there;rw [hp,hk];have:=h.1;rw [ByteArray.toList_eq,ByteArray.toList_eq] at this;exact this
  rw [ht] at this;cases this
end
section
open Go.RowKit Go.Sort
theorem a9G (F:FuncId) (cap:Array Value) (hF:∀args w,(callFunc F args).run Tryz.prog w= .ok (.enter F args) w) (p:Fr->Bool) (w:World) (v:Value) (l:List Fr) (hv:j0 w 2 v l.length (l.flatMap Fr.cells)) (hll:l.length<=9223372036854775807)
 (hp:∀c∈l,∀wx,Mod (fun _=>False) w wx->Calls Tryz.prog F (#[.agg c.cells.toArray]++cap) wx fun e w'=>e= .returned (.bool (p c))/\Mod (fun _=>False) wx w'):
 Calls Tryz.prog 174 #[v,.func (.func F) #[] cap] w fun e w'=>∃n:Int,e= .returned (.int .i64 n)/\(decide (0<=n)=l.any p)/\Mod (fun _=>False) w w':=by
 obtain ⟨a,ca,rfl,hcap⟩:∃a c,v= .slice a l.length c/\l.length<=c:=by obtain ⟨-,a,c,h,h2, -⟩:=hv;exact ⟨a,c,h,h2⟩
 have hll':(l.length:Int)<=9223372036854775807:=by omega
 have hcap':(l.length:Int)<=ca:=by omega
 obtain ⟨R,hR⟩:∃R,l.any p=R:=⟨_,rfl⟩;rw [hR];obtain ⟨Hv,Hp,HR,HF⟩:=zh4 hv hp hR hF;clear hv hp hR hF hll
 go_enter Tryz.func174,Tryz.ntmps174
 go_wp2_with fail
 go_loopw [8] (fun i wr=>∃j:Nat,i= .int .i64 j/\j<=l.length/\Mod (fun _=>False) w wr/\(∀(k:Nat) (x:Fr),k<j->l[k]? =some x->p x=false)) (fun i _=>l.length - (intOf i).toNat)
 case atStart=>exact ⟨0,rfl,Nat.zero_le _,Mod.refl _ _,fun k x hk=>by omega⟩
 case round=>
  obtain ⟨j,rfl,hj,hmr,hall⟩:=hrel;by_cases hlt:j<l.length
  ·have hlt':(j:Int)<l.length:=by omega
   obtain ⟨x,hxj⟩:∃x,l[j]? =some x:=⟨_,zz5 hlt⟩;have hxm:=zz8 hxj;obtain ⟨g,off,rfl,hf⟩:∃g off,a=some ⟨g,off,none⟩/\e7 wr g (off+j*2) x.cells:=a0x (f:=Fr.cells) (sz:=2) (fun _=>rfl) (Hv.out.mod hmr (fun _ _ h=>h)) hxj;have hpx:=Hp.out x hxm wr hmr;obtain ⟨Hmr,Hall,Hxj,Hxm,Hf,Hpx⟩:=zh6 hmr hall hxj hxm hf hpx;clear hmr hall hxj hxm hf hpx;have hF2:=HF.out
   go_wp2_with (first|((with_reducible refine d9 33 (.tmp 14) ?_);refine ⟨g,off+j*2,rfl,x.cells,Hf.out,by kernel_rfl,by kernel_rfl, ?_⟩)|fail)
   refine Hpx.out.mono ?_;rintro e w3 ⟨rfl,hm3⟩;have Hm3:=Lib.hid (Hmr.out.trans hm3 (fun _ _ h=>h));clear hm3 hF2
   cases hs:p x with
   | false=>
    have Hs:=zh hs;clear hs
    go_wp2_with fail
    go_roundw
    case rel=>
     refine ⟨j+1,by go_num,hlt,Hm3.out,fun k x' hk hx'=> ?_⟩;rcases Nat.lt_succ_iff_lt_or_eq.1 hk with hk|rfl
     ·exact Hall.out k x' hk hx'
     rw [Hxj.out] at hx';cases hx';exact Hs.out
    case measure=>simp [intOf];omega
   |true=>
    have Hs:=zh hs;clear hs
    go_wp2
    go_ret;refine ⟨(j:Int),rfl, ?_,Hm3.out⟩;rw [<-HR.out,List.any_eq_true.2 ⟨x,Hxm.out,Hs.out⟩];exact decide_eq_true (by omega)
  obtain rfl:j=l.length:=by omega
  obtain ⟨Hmr,Hall⟩:=zh2 hmr hall;clear hmr hall
  go_wp2
  go_ret;refine ⟨-1,rfl, ?_,Hmr.out⟩
  rw [<-HR.out,List.any_eq_false.2 fun x hx=>by
   obtain ⟨k,hk⟩:=List.mem_iff_getElem?.1 hx;rw [Hall.out k x (zz6 hk).1 hk]
   decide]
  rfl
theorem a4W (F:FuncId) (cap:Array Value) (hF:∀args w,(callFunc F args).run Tryz.prog w= .ok (.enter F args) w) (p:Fr->Bool) (w:World) (v:Value) (l:List Fr) (hv:j0 w 2 v l.length (l.flatMap Fr.cells)) (hll:l.length<=9223372036854775807)
 (hp:∀c∈l,∀wx,Mod (fun _=>False) w wx->Calls Tryz.prog F (#[.agg c.cells.toArray]++cap) wx fun e w'=>e= .returned (.bool (p c))/\Mod (fun _=>False) wx w'):
 Calls Tryz.prog 125 #[v,.func (.func F) #[] cap] w fun e w'=>e= .returned (.bool (l.any p))/\Mod (fun _=>False) w w':=by
 have Hi:=Lib.hid (a9G F cap hF p w v l hv hll hp);obtain ⟨R,hR⟩:∃R,l.any p=R:=⟨_,rfl⟩;rw [hR] at Hi⊢;clear hF hv hp hR
 go_enter Tryz.func125,Tryz.ntmps125
 go_wp2_with fail
 refine Hi.out.mono ?_;rintro e w3 ⟨n,rfl,hn,hm3⟩;obtain ⟨Hn,Hm3⟩:=zh2 hn hm3;clear hn hm3
 go_wp2
 go_ret;exact ⟨m6 Hn.out.symm,Hm3.out⟩
theorem b5s (w:World) (f:Fr) (hc:j0 w 7 (.slice f.a f.cs.length f.c) f.cs.length (l6 f.cs)) (ho:okQ f.fil) (S:ByteArray) (hS:S.size<=52) (av:Value) (E:List Att) (hv:j0 w 6 av E.length (j7 E)) (hE:E.length<=8) (hr:Go.Proofs.YtaenebdppkjhoaaGreatDoor.u7 E) (hEs:∀a∈E,a.name.size<=12/\a.v.text.size<=40):
 Calls Tryz.prog 91 #[.agg #[.string f.sc,.slice f.a f.cs.length f.c],.agg #[.string S,av]] w fun e w'=>e= .returned (.bool (a0z f.fil S E))/\Mod (fun _=>False) w w':=by
 have e:a0z f.fil S E=H5 f.sc f.cs S E:=by
  unfold a0z H5;rw [Bool.and_comm];have:(fun c=>a2z c E)=fun c:Cnd=>c.matchB E:=funext fun c=>a9F hr c;rw [this];rfl
 rw [e];have h1:f.cs.length<=19:=ho.1;have h2:f.sc.size<=1000000:=ho.2.2;exact U9 w f.sc _ f.cs hc (by omega) (by omega) (fun c hc=>by have:=(ho.2.1 c hc).v.text;omega) S av E hv (by omega) hr (by omega) (fun a ha=>by have:=(hEs a ha).2;omega)
theorem b1Q (w:World) (b:Nat) (S:ByteArray) (na:Option Addr) (nc:Nat) (E:List Att) (hb:w.heap[b]? =some (.cells #[.string S,.slice na E.length nc] 46)) (f:Fr) (hc:j0 w 7 (.slice f.a f.cs.length f.c) f.cs.length (l6 f.cs)) (ho:okQ f.fil) (hS:S.size<=52) (hv:j0 w 6 (.slice na E.length nc) E.length (j7 E)) (hE:E.length<=8) (hr:Go.Proofs.YtaenebdppkjhoaaGreatDoor.u7 E) (hEs:∀a∈E,a.name.size<=12/\a.v.text.size<=40):
 Calls Tryz.prog 126 (#[.agg f.cells.toArray]++#[.pointer (some ⟨b,0,none⟩)]) w fun e w'=>e= .returned (.bool (a0z f.fil S E))/\Mod (fun _=>False) w w':=by
 show Calls Tryz.prog _ #[.agg #[.string f.sc,.slice f.a f.cs.length f.c],.pointer (some ⟨b,0,none⟩)] w _;obtain ⟨wa,hwa,hmwa,hgwa,hzwa⟩:=e8 w (.cells #[.string f.sc,.slice f.a f.cs.length f.c] 33);have hba:=hmwa.heap hb (fun h=>h);have c0:wa.cell? ⟨w.heap.size,0,none⟩=some (.string f.sc):=d6 hgwa rfl;have c1:wa.cell? ⟨w.heap.size,1,none⟩=some (.slice f.a f.cs.length f.c):=d6 hgwa rfl;have d0:wa.cell? ⟨b,0,none⟩=some (.string S):=d6 hba rfl;have d1:wa.cell? ⟨b,1,none⟩=some (.slice na E.length nc):=d6 hba rfl;have hfm:=b5s wa f (hc.mod hmwa (fun _ _ h=>h)) ho S hS _ E (hv.mod hmwa (fun _ _ h=>h)) hE hr hEs;obtain ⟨Hwa,Hmwa,Hgwa,Hfm,Hba,Hb,Hc,Ho,Hv,Hr,HEs⟩:=zh11 hwa hmwa hgwa hfm hba hb hc ho hv hr hEs;clear hwa hmwa hgwa hfm hba hb hc ho hv hr hEs hzwa
 go_enter Tryz.func126,Tryz.ntmps126
 go_wp2_with (first|(rw [show w.alloc _=wa from Hwa.out])|fail)
 refine Hfm.out.mono ?_;rintro e w3 ⟨rfl,hm3⟩;have hm03:=Hmwa.out.trans hm3 (fun _ _ h=>h);obtain ⟨Hm3,Hm03⟩:=zh2 hm3 hm03;clear hm3 hm03
 go_wp2
 go_ret;exact ⟨rfl,Hm03.out⟩
theorem b1R:∀(args:Array Value) (W:World),Sem.run Tryz.prog (callFunc 126 args) W= .ok (.enter 126 args) W:=fun args w=>by simp [go_sem]
theorem b1S {M:List (Int×Fil)} {id:Int} {q:Fil} (h:q∈a3N M id):(id,q)∈M:=by
 obtain ⟨k, -,h2⟩:=List.mem_filterMap.1 h;exact (T7 h2).1
theorem b1T {w:World} {b N:Nat} {own C:Nat->Prop} {M:List (Int×Fil)} (h:Tab w b own C M N) (id:Int):(a3N M id).length<=N:=by
 obtain ⟨mo,h⟩:=h;unfold a3N;refine Nat.le_trans (List.length_filterMap_le _ _) ?_;unfold F9;rw [List.length_mergeSort];exact Nat.le_trans (a4k M id) h.low
theorem a9H (w:World) (b:Nat) (own C:Nat->Prop) (M:List (Int×Fil)) (N:Nat) (h:Tab w b own C M N) (hN:N<=100000) (hok:∀p∈M,okQ p.2) (id:Int) (hid:(Lit.int .i64 id).wf=true) (S:ByteArray) (na:Option Addr) (nc:Nat) (E:List Att) (hS:S.size<=52) (hv:j0 w 6 (.slice na E.length nc) E.length (j7 E)) (hE:E.length<=8) (hr:Go.Proofs.YtaenebdppkjhoaaGreatDoor.u7 E) (hEs:∀a∈E,a.name.size<=12/\a.v.text.size<=40):
 Calls Tryz.prog 94 #[.pointer (some ⟨b,0,none⟩),.int .i64 id,.agg #[.string S,.slice na E.length nc]] w fun e w'=>e= .returned (.bool ((a3N M id).any fun q=>a0z q S E))/\Mod (fun _=>False) w w':=by
 obtain ⟨wa,hwa,hmwa,hgwa,hzwa⟩:=e8 w (.cells #[.string S,.slice na E.length nc] 46);have hall:=b3u wa b own C M N (h.mod0 hmwa (fun _ _ h=>h)) hN id hid;have hva:=hv.mod hmwa (fun _ _ h=>h);have hh:=h;obtain ⟨Hwa,Hmwa,Hgwa,Hall,Hva,H,Hh,Hok,Hv,Hr,HEs⟩:=zh11 hwa hmwa hgwa hall hva h hh hok hv hr hEs;clear hwa hmwa hgwa hall hva h hh hok hv hr hEs hzwa
 go_enter Tryz.func94,Tryz.ntmps94
 go_wp2_with (first|(rw [show w.alloc _=wa from Hwa.out])|fail)
 refine Hall.out.mono ?_;rintro e w1 ⟨v,l,rfl,hv1, -,hl,hfc,hm1⟩;have hm01:=Hmwa.out.trans hm1 (fun _ _ h=>h)
 have hll:l.length<=9223372036854775807:=by
  have h1:l.length=(a3N M id).length:=by rw [<-hl,zz10]
  have h2:=b1T Hh.out id;omega
 have hcon:=a4W 126 #[.pointer (some ⟨w.heap.size,0,none⟩)] b1R (fun f=>a0z f.fil S E) w1 v l hv1.rd hll (fun f hf wx hwx=>by
  have hq:okQ f.fil:=Hok.out (id,f.fil) (b1S (by rw [<-hl];exact List.mem_map_of_mem (f:=Fr.fil) hf))
  exact b1Q wx w.heap.size S na nc E (hwx.heap (hm1.heap Hgwa.out (fun h=>h)) (fun h=>h)) f ((hfc f hf).1.rd.mod hwx (fun _ _ h=>h)) hq hS (Hva.out.mod (hm1.trans hwx (fun _ _ h=>h)) (fun _ _ h=>h)) hE Hr.out HEs.out)
 have e2:(l.any fun f=>a0z f.fil S E)=(a3N M id).any fun q=>a0z q S E:=by
  rw [<-hl,List.any_map];rfl
 rw [e2] at hcon;obtain ⟨Hcon,Hv1,Hl,Hfc,Hm1,Hm01,E2⟩:=zh7 hcon hv1 hl hfc hm1 hm01 e2;clear hcon hv1 hl hfc hm1 hm01 e2
 go_wp2_with fail
 refine Hcon.out.mono ?_;rintro e w2 ⟨rfl,hm2⟩;have hm02:=Hm01.out.trans hm2 (fun _ _ h=>h);obtain ⟨Hm2,Hm02⟩:=zh2 hm2 hm02;clear hm2 hm02
 go_wp2
 go_ret;exact ⟨rfl,Hm02.out⟩
end
section
open Go.RowKit
theorem A1.cells {w:World} {ow:Ow} {c g:Nat} {id:Int} {near:List Int} {B:BS} {a:BAd} (h:A1 w ow c g id near B a) {t:Nat} (ht:t<4):
 w.cell? ⟨g,3+t*4,none⟩=some (ptr (a.tb t))/\w.cell? ⟨g,3+t*4+1,none⟩=some (ptr (a.ib t))/\w.cell? ⟨g,3+t*4+2,none⟩=some (.map (some (a.sb t)))/\w.cell? ⟨g,3+t*4+3,none⟩=some (.map (some (a.mb t))):=by
 obtain ⟨L,hl, -⟩:=h.log;have h4:t=0\/t=1\/t=2\/t=3:=by omega
 rcases h4 with rfl|rfl|rfl|rfl<;>exact ⟨d6 hl.row rfl,d6 hl.row rfl,d6 hl.row rfl,d6 hl.row rfl⟩
structure a9I (es:ByteArray) (el:List Att):Prop where
 es:es.size<=52
 len:el.length<=8
 ris:Go.Proofs.YtaenebdppkjhoaaGreatDoor.u7 el
 each:∀a∈el,a.name.size<=12/\a.v.text.size<=40
structure RtF (wa:World) (k g t tb ib:Nat) (x:Mv) (na:Option Addr) (n nc:Nat) (y:World):Prop where
 r0:y.cell? ⟨g,3+t*4,none⟩=some (.pointer (some ⟨tb,0,none⟩))
 r1:y.cell? ⟨g,3+t*4+1,none⟩=some (.pointer (some ⟨ib,0,none⟩))
 e0:y.cell? ⟨k,12,none⟩=some (.string x.m.es)
 e1:y.cell? ⟨k,13,none⟩=some (.slice x.ea x.m.el.length x.ec)
 e2:y.cell? ⟨k,14,none⟩=some (.int .i64 x.m.ver)
 nr:y.cell? ⟨g,2,none⟩=some (.slice na n nc)
 md:Mod (fun _=>False) wa y
end
end Go.Proofs.YtaenebdppkjhoaaGreatDoor
