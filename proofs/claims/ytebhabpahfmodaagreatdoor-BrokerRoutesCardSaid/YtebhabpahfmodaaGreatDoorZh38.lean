/- Lemmas. -/
import Derived.Test.YtebhabpahfmodaaGreatDoorZh34
import Derived.Lib.IndexLaws
set_option maxHeartbeats 40000000
set_option maxRecDepth 20000
namespace Go.Proofs.YtebhabpahfmodaaGreatDoor
open Go.RowKit
instance decV:DecidableEq V:=fun a b=>decidable_of_iff (a.kind=b.kind/\a.int=b.int/\a.num=b.num/\a.text=b.text/\a.yes=b.yes) ⟨fun h=>by cases a;cases b;simp_all,fun h=>by cases h;simp⟩
instance decC:DecidableEq Cnd:=fun a b=>decidable_of_iff (a.name=b.name/\a.op=b.op/\a.v=b.v) ⟨fun h=>by cases a;cases b;simp_all,fun h=>by cases h;simp⟩
theorem a7e (x:Nat):m4 (m4 x)=m4 x:=by
 by_cases h1:fEq x x=true
 ·by_cases h2:fEq x 0=true
  ·have e:m4 x=0:=by unfold m4;rw [if_pos h1,if_pos h2]
   rw [e];decide+kernel
  have e:m4 x=x:=by unfold m4;rw [if_pos h1,if_neg h2]
  rw [e,e]
 have e:m4 x=a9U:=by unfold m4;rw [if_neg h1]
 rw [e];decide+kernel
theorem a7f (v:V):v.canon.canon=v.canon:=by
 by_cases h0:v.kind=0
 ·have e:v.canon={V.zero with kind:=0,int:=v.int}:=by unfold V.canon;rw [if_pos h0]
  rw [e];rfl
 by_cases h1:v.kind=1
 ·have e:v.canon={V.zero with kind:=1,num:=m4 v.num}:=by unfold V.canon;rw [if_neg h0,if_pos h1]
  have e2:∀n:Nat,({V.zero with kind:=1,num:=n}:V).canon={V.zero with kind:=1,num:=m4 n}:=fun n=>rfl;rw [e,e2,a7e]
 by_cases h2:v.kind=2
 ·have e:v.canon={V.zero with kind:=2,text:=v.text}:=by unfold V.canon;rw [if_neg h0,if_neg h1,if_pos h2]
  rw [e];rfl
 by_cases h3:v.kind=3
 ·have e:v.canon={V.zero with kind:=3,yes:=v.yes}:=by unfold V.canon;rw [if_neg h0,if_neg h1,if_neg h2,if_pos h3]
  rw [e];rfl
 have e:v.canon=V.zero:=by unfold V.canon;rw [if_neg h0,if_neg h1,if_neg h2,if_neg h3]
 rw [e];rfl
theorem a5i (c:Cnd):c.norm.norm=c.norm:=by
 by_cases h:c.op=7
 ·have e:c.norm=⟨c.name,7,V.zero⟩:=by unfold Cnd.norm;rw [if_pos h]
  rw [e];rfl
 have e:c.norm=⟨c.name,c.op,c.v.canon⟩:=by unfold Cnd.norm;rw [if_neg h]
 have e2:(⟨c.name,c.op,c.v.canon⟩:Cnd).norm=⟨c.name,c.op,c.v.canon.canon⟩:=by unfold Cnd.norm;rw [if_neg h]
 rw [e,e2,a7f]
theorem a5T {v:V} (h:v.right=true):v.canon.right=true:=by
 unfold V.right at h;simp only [Bool.and_eq_true,decide_eq_true_eq] at h;unfold V.canon;split
 ·rfl
 split
 ·rfl
 split
 ·unfold V.right;simp only [Bool.and_eq_true,decide_eq_true_eq];exact ⟨zd,zd,h.2.2⟩
 split<;>rfl
theorem a8L {v:V} (h:v.num<2^64):v.canon.num<2^64:=by
 unfold V.canon;split
 ·exact (by decide:(0:Nat)<2^64)
 split
 ·exact R2 h
 split
 ·exact (by decide:(0:Nat)<2^64)
 split<;>exact (by decide:(0:Nat)<2^64)
theorem b0U {c:Cnd} (hr:c.rightB=true) (hn:c.v.num<2^64):c.norm.fine:=by
 unfold Cnd.rightB at hr;simp only [Bool.and_eq_true,decide_eq_true_eq] at hr;obtain ⟨h1,h2,h3,h4⟩:=hr;refine ⟨by rw [a47];exact h1,by rw [a9w];exact ⟨h2,h3⟩, ?_, ?_,a5i c⟩
 ·unfold Cnd.norm;split
  ·rfl
  exact a5T h4
 unfold Cnd.norm;split
 ·exact (by decide:(0:Nat)<2^64)
 exact a8L hn
theorem Z7 {l:List Cnd} {sc:ByteArray} (hr:l9 sc l=true) (hn:∀c∈l,c.v.num<2^64):∀c∈j4 l,c.fine:=fun c hc=>by
 obtain ⟨d,hd,rfl⟩:=R7 (a0Q hc);unfold l9 at hr;rw [Bool.and_eq_true,List.all_eq_true] at hr;exact b0U (hr.1 d hd) (hn d hd)
theorem b0V {s:ByteArray} (h:o9 s=true):∀c∈s.data.toList,c≠58:=fun c hc e=>by
 subst e;obtain ⟨k,hk⟩:=List.mem_iff_getElem?.1 hc;rw [R6 hk (by unfold F9;simp)] at h;cases h
theorem a9M {s:ByteArray} {a b k:Nat} {c:UInt8} (hk:s.data.toList[k]? =some c) (h1:a<=k) (h2:k<b):c∈(s.extract a b).data.toList:=by
 rw [ByteArray.data_extract,Array.toList_extract];refine List.mem_iff_getElem?.2 ⟨k - a, ?_⟩;rw [List.extract_eq_take_drop,List.getElem?_take,if_pos zo,List.getElem?_drop,show a+(k - a)=k by omega];exact hk
theorem b4V {s:ByteArray} {c:UInt8} (hc:c∈s.data.toList) (h47:c≠47):c∈(t8 s).1.data.toList\/c∈(t8 s).2.1.data.toList:=by
 unfold t8;split
 ·rename_i h0
  obtain ⟨n,hn⟩:∃n,(Lib.indexByte s.data.toList 47).toNat=n:=⟨_,rfl⟩;have h1:=(Lib.indexByte_some (l:=s.data.toList) (c:=47) (o:=n) zo).1;obtain ⟨k,hk⟩:=List.mem_iff_getElem?.1 hc;rw [hn];rcases Nat.lt_trichotomy k n with h|h|h
  ·exact .inl (a9M hk (Nat.zero_le _) h)
  ·subst h;rw [h1] at hk;exact absurd (Option.some.inj hk).symm h47
  have h2:k<s.size:=by
   have:=(zz6 hk).1;rwa [Array.length_toList] at this
  exact .inr (a9M hk h h2)
 exact .inl hc
theorem a7g:∀(f:Nat) (s:ByteArray) (k:Nat),scN f s=some k->∀c∈s.data.toList,c≠58
 |0,s,k,h=>by cases h
 |f+1,s,k,h=>fun c hc e=>by
  rw [T6] at h;by_cases h1:o9 (t8 s).1=true
  ·rw [if_pos h1] at h;rcases b4V hc (by rw [e];decide) with h2|h2
   ·exact b0V h1 c h2 e
   by_cases h3:(t8 s).2.2=true
   ·rw [if_pos h3] at h
    cases h4:scN f (t8 s).2.1 with
    |none=>rw [h4] at h;cases h
    |some k'=>exact a7g f _ k' h4 c h2 e
   have h4:(t8 s).2.1=⟨#[]⟩:=by
    unfold t8 at h3⊢;split
    ·rename_i h5;rw [if_pos h5] at h3;exact absurd rfl h3
    rfl
   rw [h4] at h2;cases h2
  rw [if_neg h1] at h;cases h
theorem a1Q {s:ByteArray} (h:A4 s=true):∀c∈s.data.toList,c≠58:=by
 unfold A4 at h;rw [Bool.or_eq_true] at h;rcases h with h|h
 ·rw [List.isEmpty_iff,ByteArray.toList_eq] at h;rw [h];intro c hc;cases hc
 unfold scM at h
 cases h1:scN (s.size+1) s with
 |none=>rw [h1] at h;cases h
 |some k=>exact a7g _ _ _ h1
theorem b2Z {s t:ByteArray} {l m:List Cnd} (hs:l9 s l=true) (ht:l9 t m=true) (hl:∀c∈l,c.v.num<2^64) (hm:∀c∈m,c.v.num<2^64) (h:j5 (s,j4 l)=j5 (t,j4 m)):((s,j4 l):Fil)=(t,j4 m):=by
 have sc:∀{s:ByteArray} {l:List Cnd},l9 s l=true->A4 s=true:=fun h=>by
  unfold l9 at h;rw [Bool.and_eq_true,Bool.and_eq_true] at h;exact h.2.1
 obtain ⟨h1,h2⟩:=b4e (a1Q (sc hs)) (a1Q (sc ht)) (Z7 hs hl) (Z7 ht hm) h;rw [h1,h2]
section
open Go.RowKit Go.Sort
theorem b20 (bm:Nat) (w:World):(binOp .eql 142 (.map (some bm)) (.map none)).run Tryz.prog w= .ok (.bool false) w:=zk
theorem b4W (w:World):(binOp .eql 142 (.map none) (.map none)).run Tryz.prog w= .ok (.bool true) w:=zk
attribute [local go_sem] b20 b4W
end
theorem b21 {l:List Att} {s:ByteArray} (h:there l s=true):∃x,l[pos l s]? =some x/\(x.name.toList==s.toList)=true:=by
 unfold there at h;split at h
 ·rename_i a ha
  refine ⟨a,ha, ?_⟩;rw [ByteArray.toList_eq,ByteArray.toList_eq];exact h
 ·cases h
theorem b22 {l:List Att} (hr:r8 l) {s:ByteArray} {k:Nat} {x:Att} (hx:l[k]? =some x) (hn:(x.name.toList==s.toList)=true):pos l s=k:=by
 rw [beq_iff_eq,ByteArray.toList_eq,ByteArray.toList_eq] at hn;rcases Nat.lt_trichotomy k (pos l s) with h|h|h
 ·have:=a6T h hx;rw [hn,a0x] at this;cases this
 ·exact h.symm
 obtain ⟨y,hy⟩:∃y,l[pos l s]? =some y:=⟨_,zz5 (by have:=(zz6 hx).1;omega)⟩;have h1:=hr _ _ y x h hy hx;rw [hn] at h1;have h2:=a5G hr (Nat.le_refl _) hy;rw [h1] at h2;cases h2
theorem a5j {l:List Att} (hr:r8 l) (c:Cnd):o4 c l=c.matchB l:=by
 unfold o4 Cnd.matchB a4y
 cases ht:there l c.name with
 | true=>
  obtain ⟨x,hx,hn⟩:=b21 ht;rw [if_pos rfl,hx];show _=(true&&c.holds x.v);rw [Bool.true_and,Bool.eq_iff_iff,List.any_eq_true];constructor
  ·rintro ⟨y,hy,h⟩;rw [Bool.and_eq_true] at h;obtain ⟨k,hk⟩:=List.mem_iff_getElem?.1 hy;have hp:=b22 hr hk h.1;rw [hp,hk] at hx;cases hx
   exact h.2
  ·intro h;exact ⟨x,zz8 hx,by rw [hn,h];rfl⟩
 | false=>
  rw [if_neg zd];show _=(false&&_);rw [Bool.false_and,List.any_eq_false];intro y hy h;rw [Bool.and_eq_true] at h;obtain ⟨k,hk⟩:=List.mem_iff_getElem?.1 hy;have hp:=b22 hr hk h.1
  have:there l c.name=true:=by
   unfold there;rw [hp,hk];have:=h.1;rw [ByteArray.toList_eq,ByteArray.toList_eq] at this;exact this
  rw [ht] at this;cases this
section
open Go.RowKit Go.Sort
theorem b0W (F:FuncId) (cap:Array Value) (hF:∀args w,(callFunc F args).run Tryz.prog w= .ok (.enter F args) w) (p:Fr->Bool) (w:World) (v:Value) (l:List Fr) (hv:j3 w 2 v l.length (l.flatMap Fr.cells)) (hll:l.length<=9223372036854775807)
 (hp:∀c∈l,∀wx,Mod (fun _=>False) w wx->Calls Tryz.prog F (#[.agg c.cells.toArray]++cap) wx fun e w'=>e= .returned (.bool (p c))/\Mod (fun _=>False) wx w'):
 Calls Tryz.prog 150 #[v,.func (.func F) #[] cap] w fun e w'=>∃n:Int,e= .returned (.int .i64 n)/\(decide (0<=n)=l.any p)/\Mod (fun _=>False) w w':=by
 obtain ⟨a,ca,rfl,hcap⟩:∃a c,v= .slice a l.length c/\l.length<=c:=by obtain ⟨-,a,c,h,h2, -⟩:=hv;exact ⟨a,c,h,h2⟩
 have bN:(l.length:Int)<=9223372036854775807:=zo
 have bf:(l.length:Int)<=ca:=zo
 obtain ⟨R,hR⟩:∃R,l.any p=R:=⟨_,rfl⟩;rw [hR];obtain ⟨Hv,Hp,HR,HF⟩:=zh4 hv hp hR hF;clear hv hp hR hF hll
 go_enter Tryz.func150,Tryz.ntmps150
 go_wp2_with fail
 go_loopw [8] (fun i wr=>∃j:Nat,i= .int .i64 j/\j<=l.length/\Mod (fun _=>False) w wr/\(∀(k:Nat) (x:Fr),k<j->l[k]? =some x->p x=false)) (fun i _=>l.length - (intOf i).toNat)
 case atStart=>exact ⟨0,rfl,Nat.zero_le _,Mod.refl _ _,fun k x hk=>zo⟩
 case round=>
  obtain ⟨j,rfl,hj,hmr,hall⟩:=hrel;by_cases hlt:j<l.length
  ·have hlt':(j:Int)<l.length:=zo
   obtain ⟨x,hxj⟩:∃x,l[j]? =some x:=⟨_,zz5 hlt⟩;have hxm:=zz8 hxj;obtain ⟨g,off,rfl,hf⟩:∃g off,a=some ⟨g,off,none⟩/\e9 wr g (off+j*2) x.cells:=a1F (f:=Fr.cells) (sz:=2) (fun _=>rfl) (Hv.out.mod hmr zi) hxj;have hpx:=Hp.out x hxm wr hmr;obtain ⟨aK,aM,cB,fH,Hf,GA⟩:=zh6 hmr hall hxj hxm hf hpx;clear hmr hall hxj hxm hf hpx;have hF2:=HF.out
   go_wp2_with ((with_reducible refine d8 26 (.tmp 14) ?_);refine ⟨g,off+j*2,rfl,x.cells,Hf.out,zk,zk, ?_⟩)
   refine GA.out.mono ?_;rintro e w3 ⟨rfl,aC⟩;have bA:=Lib.hid (aK.out.trans aC zi);clear aC hF2
   cases hs:p x with
   | false=>
    have Hs:=zh hs;clear hs
    go_wp2_with fail
    go_roundw
    case rel=>
     refine ⟨j+1,by go_num,hlt,bA.out,fun k x' hk hx'=> ?_⟩;rcases Nat.lt_succ_iff_lt_or_eq.1 hk with hk|rfl
     ·exact aM.out k x' hk hx'
     rw [cB.out] at hx';cases hx';exact Hs.out
    case measure=>simp [intOf];omega
   |true=>
    have Hs:=zh hs;clear hs
    go_wp2
    go_ret;refine ⟨(j:Int),rfl, ?_,bA.out⟩;rw [<-HR.out,List.any_eq_true.2 ⟨x,fH.out,Hs.out⟩];exact decide_eq_true zo
  obtain rfl:j=l.length:=zo
  obtain ⟨aK,aM⟩:=zh2 hmr hall;clear hmr hall
  go_wp2
  go_ret;refine ⟨-1,rfl, ?_,aK.out⟩
  rw [<-HR.out,List.any_eq_false.2 fun x hx=>by
   obtain ⟨k,hk⟩:=List.mem_iff_getElem?.1 hx;rw [aM.out k x (zz6 hk).1 hk]
   decide]
  rfl
theorem a5U (F:FuncId) (cap:Array Value) (hF:∀args w,(callFunc F args).run Tryz.prog w= .ok (.enter F args) w) (p:Fr->Bool) (w:World) (v:Value) (l:List Fr) (hv:j3 w 2 v l.length (l.flatMap Fr.cells)) (hll:l.length<=9223372036854775807)
 (hp:∀c∈l,∀wx,Mod (fun _=>False) w wx->Calls Tryz.prog F (#[.agg c.cells.toArray]++cap) wx fun e w'=>e= .returned (.bool (p c))/\Mod (fun _=>False) wx w'):
 Calls Tryz.prog 104 #[v,.func (.func F) #[] cap] w fun e w'=>e= .returned (.bool (l.any p))/\Mod (fun _=>False) w w':=by
 have Hi:=Lib.hid (b0W F cap hF p w v l hv hll hp);obtain ⟨R,hR⟩:∃R,l.any p=R:=⟨_,rfl⟩;rw [hR] at Hi⊢;clear hF hv hp hR
 go_enter Tryz.func104,Tryz.ntmps104
 go_wp2_with fail
 refine Hi.out.mono ?_;rintro e w3 ⟨n,rfl,hn,aC⟩;obtain ⟨Hn,bA⟩:=zh2 hn aC;clear hn aC
 go_wp2
 go_ret;exact ⟨j1 Hn.out.symm,bA.out⟩
theorem b6H (w:World) (f:Fr) (hc:j3 w 7 (.slice f.a f.cs.length f.c) f.cs.length (m5 f.cs)) (ho:okQ f.fil) (S:ByteArray) (hS:S.size<=52) (av:Value) (E:List Att) (hv:j3 w 6 av E.length (k7 E)) (hE:E.length<=8) (hr:r8 E) (zK:∀a∈E,a.name.size<=12/\a.v.text.size<=40):
 Calls Tryz.prog 68 #[.agg #[.string f.sc,.slice f.a f.cs.length f.c],.agg #[.string S,av]] w fun e w'=>e= .returned (.bool (z8 f.fil S E))/\Mod (fun _=>False) w w':=by
 have e:z8 f.fil S E=A8 f.sc f.cs S E:=by
  unfold z8 A8;rw [Bool.and_comm];have:(fun c=>o4 c E)=fun c:Cnd=>c.matchB E:=funext fun c=>a5j hr c;rw [this];rfl
 rw [e];have h1:f.cs.length<=19:=ho.1;have h2:f.sc.size<=1000000:=ho.2.2;exact a1r w f.sc _ f.cs hc zo zo (fun c hc=>by have:=(ho.2.1 c hc).v.text;omega) S av E hv zo hr zo (fun a ha=>by have:=(zK a ha).2;omega)
theorem b23 (w:World) (b:Nat) (S:ByteArray) (na:Option Addr) (nc:Nat) (E:List Att) (hb:w.heap[b]? =some (.cells #[.string S,.slice na E.length nc] 31)) (f:Fr) (hc:j3 w 7 (.slice f.a f.cs.length f.c) f.cs.length (m5 f.cs)) (ho:okQ f.fil) (hS:S.size<=52) (hv:j3 w 6 (.slice na E.length nc) E.length (k7 E)) (hE:E.length<=8) (hr:r8 E) (zK:∀a∈E,a.name.size<=12/\a.v.text.size<=40):
 Calls Tryz.prog 106 (#[.agg f.cells.toArray]++#[.pointer (some ⟨b,0,none⟩)]) w fun e w'=>e= .returned (.bool (z8 f.fil S E))/\Mod (fun _=>False) w w':=by
 show Calls Tryz.prog _ #[.agg #[.string f.sc,.slice f.a f.cs.length f.c],.pointer (some ⟨b,0,none⟩)] w _;obtain ⟨wa,aD,ah,ae,au⟩:=g8 w (.cells #[.string f.sc,.slice f.a f.cs.length f.c] 26);have vB:=ah.heap hb id;have c0:wa.cell? ⟨w.heap.size,0,none⟩=some (.string f.sc):=d6 ae rfl;have c1:wa.cell? ⟨w.heap.size,1,none⟩=some (.slice f.a f.cs.length f.c):=d6 ae rfl;have d0:wa.cell? ⟨b,0,none⟩=some (.string S):=d6 vB rfl;have d1:wa.cell? ⟨b,1,none⟩=some (.slice na E.length nc):=d6 vB rfl;have hfm:=b6H wa f (hc.mod ah zi) ho S hS _ E (hv.mod ah zi) hE hr zK;obtain ⟨aF,aB,aH,qC,NQ,Hb,Hc,Ho,Hv,Hr,Xi⟩:=zh11 aD ah ae hfm vB hb hc ho hv hr zK;clear aD ah ae hfm vB hb hc ho hv hr zK au
 go_enter Tryz.func106,Tryz.ntmps106
 go_wp2_with (rw [show w.alloc _=wa from aF.out])
 refine qC.out.mono ?_;rintro e w3 ⟨rfl,aC⟩;have aS:=aB.out.trans aC zi;obtain ⟨bA,aP⟩:=zh2 aC aS;clear aC aS
 go_wp2
 go_ret;exact ⟨rfl,aP.out⟩
theorem b24:∀(args:Array Value) (W:World),Sem.run Tryz.prog (callFunc 106 args) W= .ok (.enter 106 args) W:=fun args w=>by simp [go_sem]
theorem b25 {M:List (Int×Fil)} {id:Int} {q:Fil} (h:q∈a1m M id):(id,q)∈M:=by
 obtain ⟨k, -,h2⟩:=List.mem_filterMap.1 h;exact (X0 h2).1
theorem b26 {w:World} {b N:Nat} {own C:Nat->Prop} {M:List (Int×Fil)} (h:Tab w b own C M N) (id:Int):(a1m M id).length<=N:=by
 obtain ⟨mo,h⟩:=h;unfold a1m;refine Nat.le_trans (List.length_filterMap_le _ _) ?_;unfold K2;rw [List.length_mergeSort];exact Nat.le_trans (a5e M id) h.low
theorem b0X (w:World) (b:Nat) (own C:Nat->Prop) (M:List (Int×Fil)) (N:Nat) (h:Tab w b own C M N) (hN:N<=100000) (hok:∀p∈M,okQ p.2) (id:Int) (hid:(Lit.int .i64 id).wf=true) (S:ByteArray) (na:Option Addr) (nc:Nat) (E:List Att) (hS:S.size<=52) (hv:j3 w 6 (.slice na E.length nc) E.length (k7 E)) (hE:E.length<=8) (hr:r8 E) (zK:∀a∈E,a.name.size<=12/\a.v.text.size<=40):
 Calls Tryz.prog 69 #[.pointer (some ⟨b,0,none⟩),.int .i64 id,.agg #[.string S,.slice na E.length nc]] w fun e w'=>e= .returned (.bool ((a1m M id).any fun q=>z8 q S E))/\Mod (fun _=>False) w w':=by
 obtain ⟨wa,aD,ah,ae,au⟩:=g8 w (.cells #[.string S,.slice na E.length nc] 31);have hall:=b4M wa b own C M N (h.mod0 ah zi) hN id hid;have hva:=hv.mod ah zi;have hh:=h;obtain ⟨aF,aB,aH,aM,dC,H,Hh,eP,Hv,Hr,Xi⟩:=zh11 aD ah ae hall hva h hh hok hv hr zK;clear aD ah ae hall hva h hh hok hv hr zK au
 go_enter Tryz.func69,Tryz.ntmps69
 go_wp2_with (rw [show w.alloc _=wa from aF.out])
 refine aM.out.mono ?_;rintro e w1 ⟨v,l,rfl,hv1, -,hl,hfc,hm1⟩;have bE:=aB.out.trans hm1 zi
 have hll:l.length<=9223372036854775807:=by
  have h1:l.length=(a1m M id).length:=by rw [<-hl,zz10]
  have h2:=b26 Hh.out id;omega
 have hcon:=a5U 106 #[.pointer (some ⟨w.heap.size,0,none⟩)] b24 (fun f=>z8 f.fil S E) w1 v l hv1.rd hll (fun f hf wx hwx=>by
  have hq:okQ f.fil:=eP.out (id,f.fil) (b25 (by rw [<-hl];exact List.mem_map_of_mem (f:=Fr.fil) hf))
  exact b23 wx w.heap.size S na nc E (hwx.heap (hm1.heap aH.out (fun h=>h)) (fun h=>h)) f ((hfc f hf).1.rd.mod hwx zi) hq hS (dC.out.mod (hm1.trans hwx zi) zi) hE Hr.out Xi.out)
 have e2:(l.any fun f=>z8 f.fil S E)=(a1m M id).any fun q=>z8 q S E:=by
  rw [<-hl,List.any_map];rfl
 rw [e2] at hcon;obtain ⟨pK,Gj,Hl,jo,dB,bF,E2⟩:=zh7 hcon hv1 hl hfc hm1 bE e2;clear hcon hv1 hl hfc hm1 bE e2
 go_wp2_with fail
 refine pK.out.mono ?_;rintro e w2 ⟨rfl,hm2⟩;have aG:=bF.out.trans hm2 zi;obtain ⟨bq,aI⟩:=zh2 hm2 aG;clear hm2 aG
 go_wp2
 go_ret;exact ⟨rfl,aI.out⟩
end
end Go.Proofs.YtebhabpahfmodaaGreatDoor
