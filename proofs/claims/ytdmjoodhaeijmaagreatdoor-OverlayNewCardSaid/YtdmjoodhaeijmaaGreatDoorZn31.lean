/- Lemmas. -/
import Derived.Test.YtdmjoodhaeijmaaGreatDoorZn20
import Derived.Lib.IndexLaws
import Derived.Test.YtdmjoodhaeijmaaGreatDoorZn29
set_option maxHeartbeats 40000000
set_option maxRecDepth 20000
namespace Go.Proofs.YtdmjoodhaeijmaaGreatDoor
open Go.RowKit
def b4s (gs:ByteArray) (m:List Cnd) (r:Ru):Bool:=m.any Cnd.voidB||(r.cs.all (fun c=>m.any fun d=>a2C d c)&&A7 gs r.sc)
theorem a9Y (w:World) (r:Ru) (hr:r.ok w) (hrn:∀c∈r.cs,c.v.num<2^64) (gs:ByteArray) (gv:Value) (m:List Cnd) (hg:i8 w 7 gv m.length (q8 m)) (dw:m.length<=9223372036854775807) (hgs:gs.size<=9223372036854775807)
 (hm:∀d∈m,d.v.text.size<=9223372036854775807/\d.v.num<2^64):
 Calls Tryz.prog 135 #[.agg #[.string r.sc,r.cv],.agg #[.string gs,gv]] w fun e w'=>e= .returned (.bool (b4s gs m r))/\Mod (fun _=>False) w w':=
 a2s a2C w r.sc r.cv r.cs hr.rd hr.len hr.sc gs gv m hg dw hgs (fun d hd c hc wx _=>Z0 d c (hm d hd).1 (hr.cname c hc).2 (hm d hd).2 (hrn c hc) wx)
theorem a6D (x:Nat):m8 (m8 x)=m8 x:=by
 by_cases h1:fEq x x=true
 ·by_cases h2:fEq x 0=true
  ·have e:m8 x=0:=by unfold m8;rw [if_pos h1,if_pos h2]
   rw [e];decide+kernel
  have e:m8 x=x:=by unfold m8;rw [if_pos h1,if_neg h2]
  rw [e,e]
 have e:m8 x=b3X:=by unfold m8;rw [if_neg h1]
 rw [e];decide+kernel
theorem a6E (v:V):v.canon.canon=v.canon:=by
 by_cases h0:v.kind=0
 ·have e:v.canon={V.zero with kind:=0,int:=v.int}:=by unfold V.canon;rw [if_pos h0]
  rw [e];rfl
 by_cases h1:v.kind=1
 ·have e:v.canon={V.zero with kind:=1,num:=m8 v.num}:=by unfold V.canon;rw [if_neg h0,if_pos h1]
  have e2:∀n:Nat,({V.zero with kind:=1,num:=n}:V).canon={V.zero with kind:=1,num:=m8 n}:=fun n=>rfl;rw [e,e2,a6D]
 by_cases h2:v.kind=2
 ·have e:v.canon={V.zero with kind:=2,text:=v.text}:=by unfold V.canon;rw [if_neg h0,if_neg h1,if_pos h2]
  rw [e];rfl
 by_cases h3:v.kind=3
 ·have e:v.canon={V.zero with kind:=3,yes:=v.yes}:=by unfold V.canon;rw [if_neg h0,if_neg h1,if_neg h2,if_pos h3]
  rw [e];rfl
 have e:v.canon=V.zero:=by unfold V.canon;rw [if_neg h0,if_neg h1,if_neg h2,if_neg h3]
 rw [e];rfl
theorem a4G (c:Cnd):c.norm.norm=c.norm:=by
 by_cases h:c.op=7
 ·have e:c.norm=⟨c.name,7,V.zero⟩:=by unfold Cnd.norm;rw [if_pos h]
  rw [e];rfl
 have e:c.norm=⟨c.name,c.op,c.v.canon⟩:=by unfold Cnd.norm;rw [if_neg h]
 have e2:(⟨c.name,c.op,c.v.canon⟩:Cnd).norm=⟨c.name,c.op,c.v.canon.canon⟩:=by unfold Cnd.norm;rw [if_neg h]
 rw [e,e2,a6E]
theorem a5C {v:V} (h:v.right=true):v.canon.right=true:=by
 unfold V.right at h;simp only [Bool.and_eq_true,decide_eq_true_eq] at h;unfold V.canon;split
 ·rfl
 split
 ·rfl
 split
 ·unfold V.right;simp only [Bool.and_eq_true,decide_eq_true_eq];exact ⟨zd,zd,h.2.2⟩
 split<;>rfl
theorem a7Y {v:V} (h:v.num<2^64):v.canon.num<2^64:=by
 unfold V.canon;split
 ·exact (by decide:(0:Nat)<2^64)
 split
 ·exact a0R h
 split
 ·exact (by decide:(0:Nat)<2^64)
 split<;>exact (by decide:(0:Nat)<2^64)
theorem a9Z {c:Cnd} (hr:c.rightB=true) (hn:c.v.num<2^64):c.norm.fine:=by
 unfold Cnd.rightB at hr;simp only [Bool.and_eq_true,decide_eq_true_eq] at hr;obtain ⟨h1,h2,h3,h4⟩:=hr;refine ⟨by rw [a9M];exact h1,by rw [b38];exact ⟨h2,h3⟩, ?_, ?_,a4G c⟩
 ·unfold Cnd.norm;split
  ·rfl
  exact a5C h4
 unfold Cnd.norm;split
 ·exact (by decide:(0:Nat)<2^64)
 exact a7Y hn
theorem a1k {l:List Cnd} {sc:ByteArray} (hr:l0 sc l=true) (hn:∀c∈l,c.v.num<2^64):∀c∈j7 l,c.fine:=fun c hc=>by
 obtain ⟨d,hd,rfl⟩:=a0S (a12 hc);unfold l0 at hr;rw [Bool.and_eq_true,List.all_eq_true] at hr;exact a9Z (hr.1 d hd) (hn d hd)
theorem a90 {s:ByteArray} (h:r4 s=true):∀c∈s.data.toList,c≠58:=fun c hc e=>by
 subst e;obtain ⟨k,hk⟩:=List.mem_iff_getElem?.1 hc;rw [S6 hk (by unfold G8;simp)] at h;cases h
theorem a80 {s:ByteArray} {a b k:Nat} {c:UInt8} (hk:s.data.toList[k]? =some c) (h1:a<=k) (h2:k<b):c∈(s.extract a b).data.toList:=by
 rw [ByteArray.data_extract,Array.toList_extract];refine List.mem_iff_getElem?.2 ⟨k - a, ?_⟩;rw [List.extract_eq_take_drop,List.getElem?_take,if_pos zo,List.getElem?_drop,show a+(k - a)=k by omega];exact hk
theorem b4t {s:ByteArray} {c:UInt8} (hc:c∈s.data.toList) (h47:c≠47):c∈(A4 s).1.data.toList\/c∈(A4 s).2.1.data.toList:=by
 unfold A4;split
 ·rename_i h0
  obtain ⟨n,hn⟩:∃n,(Lib.indexByte s.data.toList 47).toNat=n:=⟨_,rfl⟩;have h1:=(Lib.indexByte_some (l:=s.data.toList) (c:=47) (o:=n) zo).1;obtain ⟨k,hk⟩:=List.mem_iff_getElem?.1 hc;rw [hn];rcases Nat.lt_trichotomy k n with h|h|h
  ·exact .inl (a80 hk (Nat.zero_le _) h)
  ·subst h;rw [h1] at hk;exact absurd (Option.some.inj hk).symm h47
  have h2:k<s.size:=by
   have:=(zz6 hk).1;rwa [Array.length_toList] at this
  exact .inr (a80 hk h h2)
 exact .inl hc
theorem a6F:∀(f:Nat) (s:ByteArray) (k:Nat),scN f s=some k->∀c∈s.data.toList,c≠58
 |0,s,k,h=>by cases h
 |f+1,s,k,h=>fun c hc e=>by
  rw [U3] at h;by_cases h1:r4 (A4 s).1=true
  ·rw [if_pos h1] at h;rcases b4t hc (by rw [e];decide) with h2|h2
   ·exact a90 h1 c h2 e
   by_cases h3:(A4 s).2.2=true
   ·rw [if_pos h3] at h
    cases h4:scN f (A4 s).2.1 with
    |none=>rw [h4] at h;cases h
    |some k'=>exact a6F f _ k' h4 c h2 e
   have h4:(A4 s).2.1=⟨#[]⟩:=by
    unfold A4 at h3⊢;split
    ·rename_i h5;rw [if_pos h5] at h3;exact absurd rfl h3
    rfl
   rw [h4] at h2;cases h2
  rw [if_neg h1] at h;cases h
theorem a1H {s:ByteArray} (h:B5 s=true):∀c∈s.data.toList,c≠58:=by
 unfold B5 at h;rw [Bool.or_eq_true] at h;rcases h with h|h
 ·rw [List.isEmpty_iff,ByteArray.toList_eq] at h;rw [h];intro c hc;cases hc
 unfold scM at h
 cases h1:scN (s.size+1) s with
 |none=>rw [h1] at h;cases h
 |some k=>exact a6F _ _ _ h1
theorem b1Z {s t:ByteArray} {l m:List Cnd} (hs:l0 s l=true) (ht:l0 t m=true) (hl:∀c∈l,c.v.num<2^64) (hm:∀c∈m,c.v.num<2^64) (h:i7 (s,j7 l)=i7 (t,j7 m)):((s,j7 l):Fil)=(t,j7 m):=by
 have sc:∀{s:ByteArray} {l:List Cnd},l0 s l=true->B5 s=true:=fun h=>by
  unfold l0 at h;rw [Bool.and_eq_true,Bool.and_eq_true] at h;exact h.2.1
 obtain ⟨h1,h2⟩:=b3O (a1H (sc hs)) (a1H (sc ht)) (a1k hs hl) (a1k ht hm) h;rw [h1,h2]
section
open Go.RowKit Go.Sort
theorem b12 (bm:Nat) (w:World):(binOp .eql 202 (.map (some bm)) (.map none)).run Tryz.prog w= .ok (.bool false) w:=zk
theorem b4u (w:World):(binOp .eql 202 (.map none) (.map none)).run Tryz.prog w= .ok (.bool true) w:=zk
attribute [local go_sem] b12 b4u
end
theorem b13 {l:List Att} {s:ByteArray} (h:there l s=true):∃x,l[pos l s]? =some x/\(x.name.toList==s.toList)=true:=by
 unfold there at h;split at h
 ·rename_i a ha
  refine ⟨a,ha, ?_⟩;rw [ByteArray.toList_eq,ByteArray.toList_eq];exact h
 ·cases h
theorem b14 {l:List Att} (hr:M8 l) {s:ByteArray} {k:Nat} {x:Att} (hx:l[k]? =some x) (hn:(x.name.toList==s.toList)=true):pos l s=k:=by
 rw [beq_iff_eq,ByteArray.toList_eq,ByteArray.toList_eq] at hn;rcases Nat.lt_trichotomy k (pos l s) with h|h|h
 ·have:=b1N h hx;rw [hn,a2u] at this;cases this
 ·exact h.symm
 obtain ⟨y,hy⟩:∃y,l[pos l s]? =some y:=⟨_,zz5 (by have:=(zz6 hx).1;omega)⟩;have h1:=hr _ _ y x h hy hx;rw [hn] at h1;have h2:=b4h hr (Nat.le_refl _) hy;rw [h1] at h2;cases h2
theorem a91 {l:List Att} (hr:M8 l) (c:Cnd):a2S c l=c.matchB l:=by
 unfold a2S Cnd.matchB a4g
 cases ht:there l c.name with
 | true=>
  obtain ⟨x,hx,hn⟩:=b13 ht;rw [if_pos rfl,hx];show _=(true&&c.holds x.v);rw [Bool.true_and,Bool.eq_iff_iff,List.any_eq_true];constructor
  ·rintro ⟨y,hy,h⟩;rw [Bool.and_eq_true] at h;obtain ⟨k,hk⟩:=List.mem_iff_getElem?.1 hy;have hp:=b14 hr hk h.1;rw [hp,hk] at hx;cases hx
   exact h.2
  ·intro h;exact ⟨x,zz8 hx,by rw [hn,h];rfl⟩
 | false=>
  rw [if_neg zd];show _=(false&&_);rw [Bool.false_and,List.any_eq_false];intro y hy h;rw [Bool.and_eq_true] at h;obtain ⟨k,hk⟩:=List.mem_iff_getElem?.1 hy;have hp:=b14 hr hk h.1
  have:there l c.name=true:=by
   unfold there;rw [hp,hk];have:=h.1;rw [ByteArray.toList_eq,ByteArray.toList_eq] at this;exact this
  rw [ht] at this;cases this
section
open Go.RowKit Go.Sort
theorem a92 (F:FuncId) (cap:Array Value) (hF:∀args w,(callFunc F args).run Tryz.prog w= .ok (.enter F args) w) (p:Fr->Bool) (w:World) (v:Value) (l:List Fr) (hv:i8 w 2 v l.length (l.flatMap Fr.cells)) (hll:l.length<=9223372036854775807)
 (hp:∀c∈l,∀wx,Mod (fun _=>False) w wx->Calls Tryz.prog F (#[.agg c.cells.toArray]++cap) wx fun e w'=>e= .returned (.bool (p c))/\Mod (fun _=>False) wx w'):
 Calls Tryz.prog 184 #[v,.func (.func F) #[] cap] w fun e w'=>∃n:Int,e= .returned (.int .i64 n)/\(decide (0<=n)=l.any p)/\Mod (fun _=>False) w w':=by
 obtain ⟨a,ca,rfl,hcap⟩:∃a c,v= .slice a l.length c/\l.length<=c:=by obtain ⟨-,a,c,h,h2, -⟩:=hv;exact ⟨a,c,h,h2⟩
 have df:(l.length:Int)<=9223372036854775807:=zo
 have bG:(l.length:Int)<=ca:=zo
 obtain ⟨R,hR⟩:∃R,l.any p=R:=⟨_,rfl⟩;rw [hR];refine hh4 hv hp hR hF fun Hv Hp HR HF=> ?_;clear hv hp hR hF hll
 go_enter Tryz.func184,Tryz.ntmps184
 go_wp2_with fail
 go_loopw [8] (fun i wr=>∃j:Nat,i= .int .i64 j/\j<=l.length/\Mod (fun _=>False) w wr/\(∀(k:Nat) (x:Fr),k<j->l[k]? =some x->p x=false)) (fun i _=>l.length - (intOf i).toNat)
 case atStart=>exact ⟨0,rfl,Nat.zero_le _,Mod.refl _ _,fun k x hk=>zo⟩
 case round=>
  obtain ⟨j,rfl,hj,hmr,hall⟩:=hrel;by_cases hlt:j<l.length
  ·have hlt':(j:Int)<l.length:=zo
   obtain ⟨x,hxj⟩:∃x,l[j]? =some x:=⟨_,zz5 hlt⟩;have hxm:=zz8 hxj;obtain ⟨g,off,rfl,hf⟩:∃g off,a=some ⟨g,off,none⟩/\d8 wr g (off+j*2) x.cells:=a8N (f:=Fr.cells) (sz:=2) (fun _=>rfl) (Hv.out.mod hmr zi) hxj;have hpx:=Hp.out x hxm wr hmr;refine hh6 hmr hall hxj hxm hf hpx fun aL aO dX iJ Hf Bv=> ?_;clear hmr hall hxj hxm hf hpx;have hF2:=HF.out
   go_wp2_with ((with_reducible refine e9 34 (.tmp 14) ?_);refine ⟨g,off+j*2,rfl,x.cells,Hf.out,zk,zk, ?_⟩)
   refine Bv.out.mono ?_;rintro e w3 ⟨rfl,au⟩;have aZ:=Lib.hid (aL.out.trans au zi);clear au hF2
   cases hs:p x with
   | false=>
    have Hs:=zh hs;clear hs
    go_wp2_with fail
    go_roundw
    case rel=>
     refine ⟨j+1,by go_num,hlt,aZ.out,fun k x' hk hx'=> ?_⟩;rcases Nat.lt_succ_iff_lt_or_eq.1 hk with hk|rfl
     ·exact aO.out k x' hk hx'
     rw [dX.out] at hx';cases hx';exact Hs.out
    case measure=>simp [intOf];omega
   |true=>
    have Hs:=zh hs;clear hs
    go_wp2
    go_ret;refine ⟨(j:Int),rfl, ?_,aZ.out⟩;rw [<-HR.out,List.any_eq_true.2 ⟨x,iJ.out,Hs.out⟩];exact decide_eq_true zo
  obtain rfl:j=l.length:=zo
  refine hh2 hmr hall fun aL aO=> ?_;clear hmr hall
  go_wp2
  go_ret;refine ⟨-1,rfl, ?_,aL.out⟩
  rw [<-HR.out,List.any_eq_false.2 fun x hx=>by
   obtain ⟨k,hk⟩:=List.mem_iff_getElem?.1 hx;rw [aO.out k x (zz6 hk).1 hk]
   decide]
  rfl
theorem a5D (F:FuncId) (cap:Array Value) (hF:∀args w,(callFunc F args).run Tryz.prog w= .ok (.enter F args) w) (p:Fr->Bool) (w:World) (v:Value) (l:List Fr) (hv:i8 w 2 v l.length (l.flatMap Fr.cells)) (hll:l.length<=9223372036854775807)
 (hp:∀c∈l,∀wx,Mod (fun _=>False) w wx->Calls Tryz.prog F (#[.agg c.cells.toArray]++cap) wx fun e w'=>e= .returned (.bool (p c))/\Mod (fun _=>False) wx w'):
 Calls Tryz.prog 150 #[v,.func (.func F) #[] cap] w fun e w'=>e= .returned (.bool (l.any p))/\Mod (fun _=>False) w w':=by
 have Hi:=Lib.hid (a92 F cap hF p w v l hv hll hp);obtain ⟨R,hR⟩:∃R,l.any p=R:=⟨_,rfl⟩;rw [hR] at Hi⊢;clear hF hv hp hR
 go_enter Tryz.func150,Tryz.ntmps150
 go_wp2_with fail
 refine Hi.out.mono ?_;rintro e w3 ⟨n,rfl,hn,au⟩;refine hh2 hn au fun Hn aZ=> ?_;clear hn au
 go_wp2
 go_ret;exact ⟨m9 Hn.out.symm,aZ.out⟩
theorem b6x (w:World) (f:Fr) (hc:i8 w 7 (.slice f.a f.cs.length f.c) f.cs.length (q8 f.cs)) (ho:okQ f.fil) (S:ByteArray) (hS:S.size<=52) (av:Value) (E:List Att) (hv:i8 w 6 av E.length (I4 E)) (hE:E.length<=8) (hr:M8 E) (vz:∀a∈E,a.name.size<=12/\a.v.text.size<=40):
 Calls Tryz.prog 119 #[.agg #[.string f.sc,.slice f.a f.cs.length f.c],.agg #[.string S,av]] w fun e w'=>e= .returned (.bool (a05 f.fil S E))/\Mod (fun _=>False) w w':=by
 have e:a05 f.fil S E=T4 f.sc f.cs S E:=by
  unfold a05 T4;rw [Bool.and_comm];have:(fun c=>a2S c E)=fun c:Cnd=>c.matchB E:=funext fun c=>a91 hr c;rw [this];rfl
 rw [e];have h1:f.cs.length<=19:=ho.1;have h2:f.sc.size<=1000000:=ho.2.2;exact a1B w f.sc _ f.cs hc zo zo (fun c hc=>by have:=(ho.2.1 c hc).v.text;omega) S av E hv zo hr zo (fun a ha=>by have:=(vz a ha).2;omega)
theorem b15 (w:World) (b:Nat) (S:ByteArray) (na:Option Addr) (nc:Nat) (E:List Att) (hb:w.heap[b]? =some (.cells #[.string S,.slice na E.length nc] 39)) (f:Fr) (hc:i8 w 7 (.slice f.a f.cs.length f.c) f.cs.length (q8 f.cs)) (ho:okQ f.fil) (hS:S.size<=52) (hv:i8 w 6 (.slice na E.length nc) E.length (I4 E)) (hE:E.length<=8) (hr:M8 E) (vz:∀a∈E,a.name.size<=12/\a.v.text.size<=40):
 Calls Tryz.prog 152 (#[.agg f.cells.toArray]++#[.pointer (some ⟨b,0,none⟩)]) w fun e w'=>e= .returned (.bool (a05 f.fil S E))/\Mod (fun _=>False) w w':=by
 show Calls Tryz.prog _ #[.agg #[.string f.sc,.slice f.a f.cs.length f.c],.pointer (some ⟨b,0,none⟩)] w _;obtain ⟨wa,ak,ae,aa,ah⟩:=g6 w (.cells #[.string f.sc,.slice f.a f.cs.length f.c] 34);have mq:=ae.heap hb id;have c0:wa.cell? ⟨w.heap.size,0,none⟩=some (.string f.sc):=d6 aa rfl;have c1:wa.cell? ⟨w.heap.size,1,none⟩=some (.slice f.a f.cs.length f.c):=d6 aa rfl;have d0:wa.cell? ⟨b,0,none⟩=some (.string S):=d6 mq rfl;have d1:wa.cell? ⟨b,1,none⟩=some (.slice na E.length nc):=d6 mq rfl;have hfm:=b6x wa f (hc.mod ae zi) ho S hS _ E (hv.mod ae zi) hE hr vz;refine hh8 ak ae aa hfm mq hb hc ho fun aB ai aC mE H9 Hb Hc Ho=> ?_;refine hh3 hv hr vz fun Hv Hr Pd=> ?_;clear ak ae aa hfm mq hb hc ho hv hr vz ah
 go_enter Tryz.func152,Tryz.ntmps152
 go_wp2_with (rw [show w.alloc _=wa from aB.out])
 refine mE.out.mono ?_;rintro e w3 ⟨rfl,au⟩;have aR:=ai.out.trans au zi;refine hh2 au aR fun aZ aT=> ?_;clear au aR
 go_wp2
 go_ret;exact ⟨rfl,aT.out⟩
theorem b16:∀(args:Array Value) (W:World),Sem.run Tryz.prog (callFunc 152 args) W= .ok (.enter 152 args) W:=fun args w=>by simp [go_sem]
theorem b17 {M:List (Int×Fil)} {id:Int} {q:Fil} (h:q∈a4i M id):(id,q)∈M:=by
 obtain ⟨k, -,h2⟩:=List.mem_filterMap.1 h;exact (X6 h2).1
theorem b18 {w:World} {b N:Nat} {own C:Nat->Prop} {M:List (Int×Fil)} (h:Tab w b own C M N) (id:Int):(a4i M id).length<=N:=by
 obtain ⟨mo,h⟩:=h;unfold a4i;refine Nat.le_trans (List.length_filterMap_le _ _) ?_;unfold K4;rw [List.length_mergeSort];exact Nat.le_trans (a4B M id) h.low
theorem a93 (w:World) (b:Nat) (own C:Nat->Prop) (M:List (Int×Fil)) (N:Nat) (h:Tab w b own C M N) (hN:N<=1000000) (hok:∀p∈M,okQ p.2) (id:Int) (hid:(Lit.int .i64 id).wf=true) (S:ByteArray) (na:Option Addr) (nc:Nat) (E:List Att) (hS:S.size<=52) (hv:i8 w 6 (.slice na E.length nc) E.length (I4 E)) (hE:E.length<=8) (hr:M8 E) (vz:∀a∈E,a.name.size<=12/\a.v.text.size<=40):
 Calls Tryz.prog 120 #[.pointer (some ⟨b,0,none⟩),.int .i64 id,.agg #[.string S,.slice na E.length nc]] w fun e w'=>e= .returned (.bool ((a4i M id).any fun q=>a05 q S E))/\Mod (fun _=>False) w w':=by
 obtain ⟨wa,ak,ae,aa,ah⟩:=g6 w (.cells #[.string S,.slice na E.length nc] 39);have hall:=b4i wa b own C M N (h.mod0 ae zi) hN id hid;have hva:=hv.mod ae zi;have hh:=h;refine hh8 ak ae aa hall hva h hh hok fun aB ai aC aO dE H Hh bY=> ?_;refine hh3 hv hr vz fun Hv Hr Pd=> ?_;clear ak ae aa hall hva h hh hok hv hr vz ah
 go_enter Tryz.func120,Tryz.ntmps120
 go_wp2_with (rw [show w.alloc _=wa from aB.out])
 refine aO.out.mono ?_;rintro e w1 ⟨v,l,rfl,hv1, -,hl,hfc,hm1⟩;have bH:=ai.out.trans hm1 zi
 have hll:l.length<=9223372036854775807:=by
  have h1:l.length=(a4i M id).length:=by rw [<-hl,zz10]
  have h2:=b18 Hh.out id;omega
 have hcon:=a5D 152 #[.pointer (some ⟨w.heap.size,0,none⟩)] b16 (fun f=>a05 f.fil S E) w1 v l hv1.rd hll (fun f hf wx hwx=>by
  have hq:okQ f.fil:=bY.out (id,f.fil) (b17 (by rw [<-hl];exact List.mem_map_of_mem (f:=Fr.fil) hf))
  exact b15 wx w.heap.size S na nc E (hwx.heap (hm1.heap aC.out (fun h=>h)) (fun h=>h)) f ((hfc f hf).1.rd.mod hwx zi) hq hS (dE.out.mod (hm1.trans hwx zi) zi) hE Hr.out Pd.out)
 have e2:(l.any fun f=>a05 f.fil S E)=(a4i M id).any fun q=>a05 q S E:=by
  rw [<-hl,List.any_map];rfl
 rw [e2] at hcon;refine hh7 hcon hv1 hl hfc hm1 bH e2 fun qh GJ Hl kC dn bJ E2=> ?_;clear hcon hv1 hl hfc hm1 bH e2
 go_wp2_with fail
 refine qh.out.mono ?_;rintro e w2 ⟨rfl,hm2⟩;have aK:=bJ.out.trans hm2 zi;refine hh2 hm2 aK fun aS aN=> ?_;clear hm2 aK
 go_wp2
 go_ret;exact ⟨rfl,aN.out⟩
end
end Go.Proofs.YtdmjoodhaeijmaaGreatDoor
