/- Lemmas of this claim. -/
import Derived.Test.YtaenebdppkjhoaaGreatDoorZd40
namespace Go.Proofs.YtaenebdppkjhoaaGreatDoor
set_option maxRecDepth 20000
set_option maxHeartbeats 40000000
section
open Go.RowKit
theorem refrG_snoc (M:List (Int×Fil)) (near:List Int) (n:Int) (G:Int→List Fil):refrG M (near++[n]) G=updI (refrG M near G) n (outL M n):=by
 induction near generalizing G with
 |nil=>rfl
 |cons a near ih=>exact ih _
theorem refrS_snoc (M:List (Int×Fil)) (ten:Int) (near:List Int) (n:Int) (G:Int→List Fil):refrS M ten (near++[n]) G=refrS M ten near G++tellN n ten (refrG M near G n) (outL M n):=by
 induction near generalizing G with
 |nil=>simp [refrS,refrG]
 |cons a near ih=>
  show tellN a ten (G a) (outL M a)++refrS M ten (near++[n]) (updI G a (outL M a))=(tellN a ten (G a) (outL M a)++refrS M ten near (updI G a (outL M a)))++_
  rw [ih,List.append_assoc]
  rfl
theorem kF_of {l:List Fil} (h:l.Pairwise fun a b=>keyF a<keyF b) {i:Nat} {f:Fil} (hi:l[i]? =some f):kF l (keyF f)=some f:=by
 unfold kF
 induction l generalizing i with
 |nil=>cases hi
 | cons a l ih=>
  rw [List.pairwise_cons] at h
  cases i with
  |zero=>
   cases hi
   rw [List.find?_cons]
   simp
  | succ i=>
   have hi':l[i]? =some f:=hi
   have h1:=h.1 f (List.mem_of_getElem? hi')
   rw [List.find?_cons]
   have hne:(keyF a==keyF f)=false:=by
    rw [beq_eq_false_iff_ne]
    intro e
    rw [e] at h1
    exact absurd h1 (List.lt_irrefl _)
   rw [hne]
   exact ih h.2 hi'
theorem lackF_take {a b:List Fil} {j:Nat} {f:Fil} (h:a[j]? =some f):lackF (a.take (j+1)) b=lackF (a.take j) b++if (kF b (keyF f)).isNone then [f] else []:=by
 unfold lackF
 rw [List.take_add_one,h,Option.toList_some,List.filter_append]
 congr 1
 cases hk:(kF b (keyF f)).isNone<;>simp [hk]
theorem fkey_at (w0 w:World) (hl:Laid w0 w) (sc:ByteArray) (cv:Value) (l:List Cnd) (hv:RdSl w 7 cv l.length (cnds l)) (hll:l.length<20) (hcs:∀c∈l,c.fits) (hsc:sc.size≤1000000):
 Calls Tryz.prog 98 #[.agg #[.string sc,cv]] w fun e w'=>e= .returned (.string (str (keyF (sc,normC l))))∧Mod (fun _=>False) w w':=by
 obtain ⟨wa,hwa,hmwa,hgwa,hzwa⟩:=allocE w (.cells #[.string sc,cv] 33)
 have hnm:=norm_at w0 wa (hl.mod0 hmwa) sc cv l (hv.mod hmwa (fun _ _ h=>h)) hll hcs
 have c0:wa.cell? ⟨w.heap.size,0,none⟩=some (.string sc):=cell_of hgwa rfl
 have c1:wa.cell? ⟨w.heap.size,1,none⟩=some cv:=cell_of hgwa rfl
 obtain ⟨nl,hnl⟩:∃nl,normC l=nl:=⟨_,rfl⟩
 rw [hnl] at hnm⊢
 have hnf:∀c∈nl,c.fits:=by rw [←hnl];exact normC_fits hcs
 have hlen:nl.length<20:=by rw [←hnl];exact Nat.lt_of_le_of_lt (normC_len l) hll
 have Hl:=Lib.hid hl
 have Hv:=Lib.hid hv
 have Hcs:=Lib.hid hcs
 have Hnm:=Lib.hid hnm
 have Hnl:=Lib.hid hnl
 have Hnf:=Lib.hid hnf
 have Hwa:=Lib.hid hwa
 have Hmwa:=Lib.hid hmwa
 have Hgwa:=Lib.hid hgwa
 clear hl hv hcs hnm hnl hnf hwa hmwa hgwa hzwa
 go_enter Tryz.func98,Tryz.ntmps98
 go_wp2_with (first|(rw [show w.alloc _=wa from Hwa.out])|fail)
 refine Hnm.out.mono ?_
 rintro e w2 ⟨na,nc,rfl,hno,hnb,hm2⟩
 have hm02:=Hmwa.out.trans hm2 (fun _ _ h=>h)
 have hpr:=fprint_at w0 w2 (Hl.out.mod0 hm02) sc (.slice na nl.length nc) nl hno.rd (by omega) hsc Hnf.out
 have Hno:=Lib.hid hno
 have Hnb:=Lib.hid hnb
 have Hm2:=Lib.hid hm2
 have Hm02:=Lib.hid hm02
 have Hpr:=Lib.hid hpr
 clear hno hnb hm2 hm02 hpr
 go_wp2_with fail
 refine Hpr.out.mono ?_
 rintro e w3 ⟨rfl,hm3⟩
 have hm:=Hm02.out.trans hm3 (fun _ _ h=>h)
 have Hm:=Lib.hid hm
 clear hm
 go_wp2_with fail
 go_ret
 exact ⟨rfl,Hm.out⟩
theorem kat_del {w w6:World} {own C:Nat→Prop} {mi N n6:Nat} {g g':List UInt8→Option Fil} {fi:Lit→Option Value} {key:List UInt8} (h3:∀k,FilIs w own C (fi (.string k)) (g k))
 (h6:MapR w6 9 mi n6 (delF fi (.string key))) (hn:n6≤N) (hm:Mod (fun k=>k=mi) w w6) (hmi:¬C mi) (hg:∀k,g' k=if k=key then none else g k):KAt w6 own C mi N g':=by
 refine ⟨_,_,h6,hn,fun k=> ?_⟩
 rw [hg]
 unfold delF
 by_cases e:k=key
 ·rw [if_pos e,if_pos (by rw [e])];trivial
 ·rw [if_neg e,if_neg (fun h=>e (Lit.string.inj h))]
  exact (h3 k).mod2 hm (fun k _ e h=>hmi (e▸h))
theorem tabD_sub {M:List (Int×Fil)} {p:Int×Fil} {id:Int} {k:List UInt8} (h:p∈tabD M id k):p∈M:=(List.mem_filter.1 h).1
theorem tab_cut {w w8:World} {b mo mi N n:Nat} {own C:Nat→Prop} {M:List (Int×Fil)} {f:Lit→Option Value} {id:Int} {key:List UInt8} (h:TabAt w b mo own C M N) (hO:MapR w 3 mo n f) (hn:n≤N)
 (hf1:∀id:Int,InAt w own C b mo N (tabF M id) (f (.int .i64 id))) (hf2:∀(x y:Int) mi,f (.int .i64 x)=some (.map (some mi))→f (.int .i64 y)=some (.map (some mi))→x=y)
 (hfid:f (.int .i64 id)=some (.map (some mi))) (hmi:own mi∧mi≠b∧mi≠mo) (hK:KAt w8 own C mi N (tabF (tabD M id key) id)) (hm:Mod (fun k=>k=mi) w w8):TabAt w8 b mo own C (tabD M id key) N:=by
 refine ⟨hm.heap h.row (fun e=>hmi.2.1 e.symm),h.ob,h.ne,⟨n,f,hO.mod hm (fun e=>hmi.2.2 e.symm),hn,fun x=> ?_,hf2⟩,h.nd.sublist List.filter_sublist,Nat.le_trans (List.length_filter_le _ _) h.low,h.dis,fun k hk=>Nat.lt_of_lt_of_le (h.olow k hk) hm.size,fun k hk=>Nat.lt_of_lt_of_le (h.clow k hk) hm.size,fun p hp=>h.wf p (tabD_sub hp),fun p hp=>h.sc p (tabD_sub hp)⟩
 by_cases e:x=id
 ·subst e
  rw [hfid]
  exact ⟨mi,rfl,hmi.1,hmi.2.1,hmi.2.2,hK⟩
 ·have h1:=(hf1 x).mod hm (fun m hm' hf=>e (hf2 x id mi (by rw [hm',hf]) hfid)) (fun k hk hf hc=>h.dis k (hf▸hmi.1) hc)
  exact h1.cong (fun k _ _ h=>h) (fun _ h=>h) (fun _ h=>h) (Nat.le_refl _) (fun k=>by rw [tabF_del,if_neg (fun h=>e h.1)])
def TRemPost (w:World) (b:Nat) (own C:Nat→Prop) (M:List (Int×Fil)) (N:Nat) (id:Int) (k:List UInt8) (e:Ending) (w':World):Prop:=
 (tabF M id k=none∧e= .returned (.bool false)∧Mod (fun _=>False) w w')∨(tabF M id k≠none∧e= .returned (.bool true)∧Tab w' b own C (tabD M id k) N∧Mod own w w')
theorem trem_at (w0 w:World) (hl:Laid w0 w) (b:Nat) (own C:Nat→Prop) (M:List (Int×Fil)) (N:Nat) (h:Tab w b own C M N) (hN:N≤100000) (id:Int) (hid:(Lit.int .i64 id).wf=true)
 (sc:ByteArray) (cv:Value) (l:List Cnd) (hv:RdSl w 7 cv l.length (cnds l)) (hll:l.length<20) (hcs:∀c∈l,c.fits) (hsc:sc.size≤1000000):
 Calls Tryz.prog 60 #[.pointer (some ⟨b,0,none⟩),.int .i64 id,.agg #[.string sc,cv]] w (TRemPost w b own C M N id (keyF (sc,normC l))):=by
 obtain ⟨mo,h⟩:=h
 obtain ⟨a,cap,rfl,hcap⟩:∃a c,cv= .slice a l.length c∧l.length≤c:=by obtain ⟨-,a,c,h,h2, -⟩:=hv;exact ⟨a,c,h,h2⟩
 obtain ⟨wa,hwa,hmwa,hgwa,hzwa⟩:=allocE w (.cells #[.string sc,.slice a l.length cap] 33)
 have hk:=fkey_at w0 wa (hl.mod0 hmwa) sc (.slice a l.length cap) l (hv.mod hmwa (fun _ _ h=>h)) hll hcs hsc
 have hkl0:=filPrt_len sc (normC l) (normC_fits hcs)
 have hnlen:(normC l).length<20:=Nat.lt_of_le_of_lt (normC_len l) hll
 obtain ⟨key,hkey⟩:∃key,keyF (sc,normC l)=key:=⟨_,rfl⟩
 rw [hkey] at hk⊢
 have hkl:key.length≤1000000000:=by rw [show filPrt sc (normC l)=key from hkey] at hkl0;omega
 have c0:wa.cell? ⟨w.heap.size,0,none⟩=some (.string sc):=cell_of hgwa rfl
 have c1:wa.cell? ⟨w.heap.size,1,none⟩=some (.slice a l.length cap):=cell_of hgwa rfl
 have Hl:=Lib.hid hl
 have H:=Lib.hid h
 have Hv:=Lib.hid hv
 have Hcs:=Lib.hid hcs
 have Hwa:=Lib.hid hwa
 have Hmwa:=Lib.hid hmwa
 have Hgwa:=Lib.hid hgwa
 have Hk:=Lib.hid hk
 have Hid:=Lib.hid hid
 have Hkey:=Lib.hid hkey
 clear hl h hv hcs hwa hmwa hgwa hk hid hkey hzwa hkl0
 go_enter Tryz.func60,Tryz.ntmps60
 go_wp2_with (first|(rw [show w.alloc _=wa from Hwa.out])|fail)
 refine Hk.out.mono ?_
 rintro e w4 ⟨rfl,hm4⟩
 have hm04:=Hmwa.out.trans hm4 (fun _ _ h=>h)
 have ht4:=H.out.mod hm04 (fun _ _ h=>h.elim)
 obtain ⟨n,f,hf1,hf2,hf3,hf4⟩:=ht4.om
 have hlk:=hf1.look keyed_i Tryz.underlying57 (zero_mm w4) (Maps.keyOf_int_mk Tryz.underlying3 Hid.out)
 obtain ⟨s,fa,fn,fc,hlk2⟩:=in_look (hf3 id) key (by unfold maxLen;omega)
 obtain ⟨ok,hok⟩:∃ok,(tabF M id key).isSome=ok:=⟨_,rfl⟩
 rw [hok] at hlk2
 have b0:w4.cell? ⟨b,0,none⟩=some (.map (some mo)):=cell_of ht4.row rfl
 obtain ⟨w5,hw5,hmw5,hgw5,hzw5⟩:=allocE w4 (.cells #[.string s,.slice fa fn fc] 33)
 have ht5:=ht4.mod hmw5 (fun _ _ h=>h.elim)
 have b5:w5.cell? ⟨b,0,none⟩=some (.map (some mo)):=cell_of ht5.row rfl
 have hv5:=fun x=>(hf3 x).mod hmw5 (fun _ _ h=>h) (fun _ _ h=>h.elim)
 have ho5:=hf1.mod hmw5 (fun h=>h)
 have hlk5:=ho5.look keyed_i Tryz.underlying57 (zero_mm w5) (Maps.keyOf_int_mk Tryz.underlying3 Hid.out)
 have hval:=(hv5 id).val
 obtain ⟨vv,hvv⟩:∃vv,(f (.int .i64 id)).getD (.map none)=vv:=⟨_,rfl⟩
 rw [hvv] at hlk hlk2 hlk5 hval
 have hm05:=hm04.trans hmw5 (fun _ _ h=>h)
 have Ht5:=Lib.hid ht5
 have Hv5:=Lib.hid hv5
 have Ho5:=Lib.hid ho5
 have Hval:=Lib.hid hval
 have Hvv:=Lib.hid hvv
 have Hm05:=Lib.hid hm05
 have Ht4:=Lib.hid ht4
 have Hf1:=Lib.hid hf1
 have Hf2:=Lib.hid hf2
 have Hf3:=Lib.hid hf3
 have Hf4:=Lib.hid hf4
 have Hm4:=Lib.hid hm4
 have Hm04:=Lib.hid hm04
 have Hmw5:=Lib.hid hmw5
 have Hgw5:=Lib.hid hgw5
 have Hw5:=Lib.hid hw5
 have Hok:=Lib.hid hok
 clear ht5 hv5 ho5 hval hvv hm05 ht4 hf1 hf2 hf3 hf4 hm4 hm04 hmw5 hgw5 hw5 hok hzw5 c0 c1
 cases ok with
 |false=>
  go_wp2_with (first|((with_reducible refine wpList_store_lit 33 (.tmp 8) (.tmp 21) ?_);refine ⟨rfl,[.string s,.slice fa fn fc],rfl,rfl,by kernel_rfl,rfl, ?_⟩;rw [Hw5.out])|fail)
  go_ret
  refine .inl ⟨?_,rfl,Hm05.out⟩
  have h1:=Hok.out
  cases h2:tabF M id key with
  |none=>rfl
  |some q=>rw [h2] at h1;cases h1
 | true=>
  have hqn:tabF M id key≠none:=fun h=>by have h1:=Hok.out;rw [h] at h1;cases h1
  rcases Hval.out with ⟨-, -,hgn⟩|⟨mi,hfn,rfl,homi,hmib,hmio,hKA⟩
  ·exact absurd (hgn key) hqn
  ·obtain ⟨ni,fi,hi1,hi2,hi3⟩:=hKA
   obtain ⟨w8,hd1,hd2,hd3⟩:=hi1.del keyed_s Tryz.underlying174 (key_s key (by unfold maxLen;omega)) 0
   have hK8:KAt w8 own C mi N (tabF (tabD M id key) id):=kat_del hi3 hd2 (by split<;>omega) hd3 (H.out.dis _ homi) (fun k=>by rw [tabF_del];simp)
   have hT:=tab_cut Ht5.out Ho5.out Hf2.out Hv5.out Hf4.out hfn ⟨homi,hmib,hmio⟩ hK8 hd3
   have hm08:Mod own w w8:=(Hm05.out.mono (fun _ _ h=>h.elim)).trans hd3 (fun k hk h=>by
    have h2:k=mi:=h
    rw [h2];exact homi)
   have Hqn:=Lib.hid hqn
   have Hfn:=Lib.hid hfn
   have Homi:=Lib.hid homi
   have Hi1:=Lib.hid hi1
   have Hi2:=Lib.hid hi2
   have Hi3:=Lib.hid hi3
   have Hd2:=Lib.hid hd2
   have Hd3:=Lib.hid hd3
   have HK8:=Lib.hid hK8
   have HT:=Lib.hid hT
   have Hm08:=Lib.hid hm08
   clear hqn hfn homi hi1 hi2 hi3 hd2 hd3 hK8 hT hm08
   go_wp2_with (first|((with_reducible refine wpList_store_lit 33 (.tmp 8) (.tmp 21) ?_);refine ⟨rfl,[.string s,.slice fa fn fc],rfl,rfl,by kernel_rfl,rfl, ?_⟩;rw [Hw5.out])|fail)
   go_ret
   exact .inr ⟨Hqn.out,rfl,⟨mo,HT.out⟩,Hm08.out⟩
theorem tabX_sub {M:List (Int×Fil)} {p:Int×Fil} {id:Int} (h:p∈tabX M id):p∈M:=(List.mem_filter.1 h).1
theorem tab_drop {w w8:World} {b mo N n8:Nat} {own C:Nat→Prop} {M:List (Int×Fil)} {f:Lit→Option Value} {id:Int} (h:TabAt w b mo own C M N) (hO:MapR w8 3 mo n8 (delF f (.int .i64 id))) (hn:n8≤N)
 (hf1:∀id:Int,InAt w own C b mo N (tabF M id) (f (.int .i64 id))) (hf2:∀(x y:Int) mi,f (.int .i64 x)=some (.map (some mi))→f (.int .i64 y)=some (.map (some mi))→x=y) (hm:Mod (fun k=>k=mo) w w8):TabAt w8 b mo own C (tabX M id) N:=by
 have hd:∀x:Int,delF f (.int .i64 id) (.int .i64 x)=if x=id then none else f (.int .i64 x):=fun x=>by
  unfold delF
  by_cases e:x=id
  ·rw [if_pos (by rw [e]),if_pos e]
  ·rw [if_neg (fun h=>e (by cases h;rfl)),if_neg e]
 refine ⟨hm.heap h.row (fun e=>h.ne e),h.ob,h.ne,⟨n8,_,hO,hn,fun x=> ?_,fun x y mi hx hy=> ?_⟩,h.nd.sublist List.filter_sublist,Nat.le_trans (List.length_filter_le _ _) h.low,h.dis,fun k hk=>Nat.lt_of_lt_of_le (h.olow k hk) hm.size,fun k hk=>Nat.lt_of_lt_of_le (h.clow k hk) hm.size,fun p hp=>h.wf p (tabX_sub hp),fun p hp=>h.sc p (tabX_sub hp)⟩
 ·rw [hd]
  by_cases e:x=id
  ·rw [if_pos e]
   intro k
   rw [tabF_drop,if_pos e]
  ·rw [if_neg e]
   have h1:=(hf1 x).mod hm (fun m hm' hf=>by
    have h2:=hf1 x
    rw [hm'] at h2
    obtain ⟨m',e', -, -,h3, -⟩:=h2
    cases e'
    exact h3 hf) (fun k hk hf hc=>h.dis k (hf▸h.ob.2) hc)
   exact h1.cong (fun k _ _ h=>h) (fun _ h=>h) (fun _ h=>h) (Nat.le_refl _) (fun k=>by rw [tabF_drop,if_neg e])
 ·rw [hd] at hx hy
  split at hx
  ·cases hx
  ·split at hy
   ·cases hy
   ·exact hf2 x y mi hx hy
theorem tdrop_at (w:World) (b:Nat) (own C:Nat→Prop) (M:List (Int×Fil)) (N:Nat) (h:Tab w b own C M N) (id:Int) (hid:(Lit.int .i64 id).wf=true):
 Calls Tryz.prog 63 #[.pointer (some ⟨b,0,none⟩),.int .i64 id] w fun e w'=>e= .returned (.tuple #[])∧Tab w' b own C (tabX M id) N∧Mod own w w':=by
 obtain ⟨mo,h⟩:=h
 have b0:w.cell? ⟨b,0,none⟩=some (.map (some mo)):=cell_of h.row rfl
 obtain ⟨n,f,hf1,hf2,hf3,hf4⟩:=h.om
 obtain ⟨w8,hd1,hd2,hd3⟩:=hf1.del keyed_i Tryz.underlying57 (Maps.keyOf_int_mk Tryz.underlying3 hid) 0
 have hT:=tab_drop h hd2 (by split<;>omega) hf3 hf4 hd3
 have hm:Mod own w w8:=hd3.mono (fun k _ h2=>by rw [show k=mo from h2];exact h.ob.2)
 have H:=Lib.hid h
 have Hf1:=Lib.hid hf1
 have Hf2:=Lib.hid hf2
 have Hf3:=Lib.hid hf3
 have Hf4:=Lib.hid hf4
 have Hd2:=Lib.hid hd2
 have Hd3:=Lib.hid hd3
 have HT:=Lib.hid hT
 have Hm:=Lib.hid hm
 clear h hf1 hf2 hf3 hf4 hd2 hd3 hT hm
 go_enter Tryz.func63,Tryz.ntmps63
 go_wp2_with fail
 go_end0
 exact ⟨rfl,⟨mo,HT.out⟩,Hm.out⟩
structure Fr where
 sc:ByteArray
 a:Option Addr
 c:Nat
 cs:List Cnd
def Fr.cells (f:Fr):List Value:=[.string f.sc,.slice f.a f.cs.length f.c]
def Fr.fil (f:Fr):Fil:=(f.sc,f.cs)
structure FrsAt (w:World) (v:Value) (l:List Fr):Prop where
 rd:RdSl w 2 v l.length (l.flatMap Fr.cells)
 cs:∀f∈l,RdSl w 7 (.slice f.a f.cs.length f.c) f.cs.length (cnds f.cs)
 sc:∀f∈l,f.sc.size≤9223372036854775807∧f.cs.length≤9223372036854775807
 nm:∀f∈l,∀c∈f.cs,c.name.size≤9223372036854775807∧(-9223372036854775808≤c.v.int∧c.v.int≤9223372036854775807)∧c.v.num<2^64
theorem FrsAt.mod {w w':World} {v:Value} {l:List Fr} (h:FrsAt w v l) (hm:Mod (fun _=>False) w w'):FrsAt w' v l:=⟨h.rd.mod hm (fun _ _ h=>h),fun f hf=>(h.cs f hf).mod hm (fun _ _ h=>h),h.sc,h.nm⟩
theorem wf_small {n:Int} (h:0≤n∧n≤1000000):(Lit.int .i64 n).wf=true:=by
 simp only [Lit.wf,Bool.and_eq_true,decide_eq_true_eq]
 exact ⟨show (-9223372036854775808:Int)≤n by omega,show n≤(9223372036854775807:Int) by omega⟩
end
section
open Go.RowKit Go.Sort
theorem skeys_at (mb:Option Nat) (w:World):Calls Tryz.prog 97 #[.map mb] w fun e w'=>e= .returned (.func (.func 130) #[] #[.pointer (some ⟨w.heap.size,0,none⟩)])∧w'=w.alloc (.cells #[.map mb] 174):=
 Tryz.maps_Keys_97 mb w
theorem ssorted_at {w:World} {b n:Nat} {f:Lit→Option Value} (h:MapR w 9 b n f) (hn:n≤1000000) {L:List (List UInt8)} (hnd:L.Nodup) (hm:∀x,x∈L↔(f (.string x)).isSome=true):
 Calls Tryz.prog 96 #[.func (.func 130) #[] #[.pointer (some ⟨w.heap.size,0,none⟩)]] (w.alloc (.cells #[.map (some b)] 174)) (SortedPost (w.alloc (.cells #[.map (some b)] 174)) 9 ((riseS L).map encStr)):=by
 obtain ⟨D,h1,h2,h3⟩:=h.keysS keyed_s Tryz.underlying9 hnd hm
 refine (Tryz.slices_Sorted_97 b n D rawR w h1 (by rw [h3];unfold maxLen;omega) (by rw [h3];omega)).mono ?_
 rintro e w' ⟨v,ss,rfl,hp,hrow, -,hb⟩
 obtain ⟨r1,r2⟩:=own_row' hrow
 have hs:ss.mergeSort (fun x y=>decide (x≤y))=riseS L:=mergeSort_of_perm (hp.trans h2.symm)
 have hl:ss.length=(riseS L).length:=by rw [←hs,List.length_mergeSort]
 rw [hs,hl] at r1
 exact ⟨v,rfl,by rw [List.length_map];exact r1,r2,⟨hb.os,hb.tape,hb.output,hb.size,fun k hk _=>hb.block k hk⟩⟩
theorem ssorted_nil (w:World):
 Calls Tryz.prog 96 #[.func (.func 130) #[] #[.pointer (some ⟨w.heap.size,0,none⟩)]] (w.alloc (.cells #[.map none] 174)) (SortedPost (w.alloc (.cells #[.map none] 174)) 9 []):=by
 refine (Tryz.slices_Sorted_nil_97 w).mono ?_
 rintro e w' ⟨rfl,hb⟩
 exact ⟨_,rfl,OwnSl.nil _ _ _,fun k hk=>by simp [Value.ownBlock] at hk,⟨hb.os,hb.tape,hb.output,hb.size,fun k hk _=>hb.block k hk⟩⟩
theorem rd_one {α:Type} {enc:α→Value} {w:World} {a:Option Addr} {n cap:Nat} {l:List α} {j:Nat} {x:α} (h:RdSl w 1 (.slice a n cap) n (l.map enc)) (hx:l[j]? =some x):∃g off,a=some ⟨g,off,none⟩∧w.cell? ⟨g,off+j,none⟩=some (enc x):=by
 obtain ⟨h0,a',c',h1, -,h3,h4⟩:=h
 cases h1
 have hj:=(List.getElem?_eq_some_iff.1 hx).1
 have hn:n=l.length:=by rw [List.length_map] at h0;omega
 cases a with
 |none=>exact absurd (h3 rfl) (by omega)
 |some ad=>
  obtain ⟨g,off,rfl,hc⟩:=h4 ad rfl (by omega)
  refine ⟨g,off,rfl,hc j (enc x) ?_⟩
  rw [List.getElem?_map,hx]
  rfl
def FrC (w:World) (C:Nat→Prop) (f:Fr):Prop:=OwnSl w 132 7 (.slice f.a f.cs.length f.c) f.cs.length (cnds f.cs)∧∀k,(Value.slice f.a f.cs.length f.c).ownBlock=some k→k<w.heap.size∧C k
theorem FrC.mod {w w':World} {F C:Nat→Prop} {f:Fr} (h:FrC w C f) (hm:Mod F w w') (hF:∀k,k<w.heap.size→F k→¬C k):FrC w' C f:=⟨h.1.mod hm (fun k hk hf=>hF k (h.2 k hk).1 hf (h.2 k hk).2),fun k hk=>⟨Nat.lt_of_lt_of_le (h.2 k hk).1 hm.size,(h.2 k hk).2⟩⟩
theorem fil_fr {w:World} {own C:Nat→Prop} {v:Option Value} {q:Option Fil} (h:FilIs w own C v q) (hq:q≠none):∃f:Fr,v=some (.agg #[.string f.sc,.slice f.a f.cs.length f.c])∧q=some f.fil∧FrC w C f:=by
 cases v<;>cases q
 ·exact absurd rfl hq
 ·exact h.elim
 ·exact h.elim
 ·rename_i v q
  obtain ⟨a,cap,rfl,h2,h3⟩:=h
  exact ⟨⟨q.1,a,cap,q.2⟩,rfl,rfl,h2,fun k hk=>⟨(h3 k hk).1,(h3 k hk).2.2⟩⟩
theorem filsT:SliceT Tryz.prog 89 33 2 40:=sliceT (by kernel_rfl) (by kernel_rfl)
def keysL (M:List (Int×Fil)) (id:Int):List (List UInt8):=(M.filter fun p=>p.1==id).map fun p=>keyF p.2
theorem keysL_mem {M:List (Int×Fil)} {id:Int} {k:List UInt8}:k∈keysL M id↔(tabF M id k).isSome=true:=by
 unfold keysL
 constructor
 ·intro h
  obtain ⟨p,h0,rfl⟩:=List.mem_map.1 h
  obtain ⟨h1,h2⟩:=List.mem_filter.1 h0
  cases hf:tabF M id (keyF p.2) with
  |some q=>rfl
  |none=>
   obtain ⟨x,q⟩:=p
   have e:x=id:=by simpa using h2
   subst e
   exact absurd rfl (tabF_none hf q h1)
 ·intro h
  cases hf:tabF M id k with
  |none=>rw [hf] at h;cases h
  |some q=>
   obtain ⟨h1,h2⟩:=tabF_some hf
   exact List.mem_map.2 ⟨(id,q),List.mem_filter.2 ⟨h1,by simp⟩,h2⟩
theorem keysL_nodup {M:List (Int×Fil)} (h:M.Pairwise fun p q=>¬(p.1=q.1∧keyF p.2=keyF q.2)) (id:Int):(keysL M id).Nodup:=by
 unfold keysL
 refine List.pairwise_map.2 ((h.filter _).imp_of_mem fun {a b} ha hb h e=>h ⟨?_,e⟩)
 have h1:=(List.mem_filter.1 ha).2
 have h2:=(List.mem_filter.1 hb).2
 simp only [beq_iff_eq] at h1 h2
 rw [h1,h2]
theorem keysL_len (M:List (Int×Fil)) (id:Int):(keysL M id).length≤M.length:=by
 unfold keysL
 rw [List.length_map]
 exact List.length_filter_le _ _
def allQ (M:List (Int×Fil)) (id:Int):List Fil:=(riseS (keysL M id)).filterMap (tabF M id)
def TAllPost (w:World) (C:Nat→Prop) (L:List Fil) (e:Ending) (w':World):Prop:=
 ∃v,∃l:List Fr,e= .returned v∧OwnSl w' 33 2 v l.length (l.flatMap Fr.cells)∧(∀k,v.ownBlock=some k→w.heap.size≤k)∧l.map Fr.fil=L∧(∀f∈l,FrC w' C f)∧Mod (fun _=>False) w w'
def AllRel (w1:World) (C:Nat→Prop) (K:List (List UInt8)) (g:List UInt8→Option Fil) (ov iv:Value) (wr:World):Prop:=
 ∃(j:Nat) (l:List Fr) (oa:Option Addr) (oc:Nat),iv= .int .i64 j∧j≤K.length∧l.length≤j∧ov= .slice oa l.length oc∧l.map Fr.fil=(K.take j).filterMap g∧OwnSl wr 33 2 ov l.length (l.flatMap Fr.cells)∧(∀k,ov.ownBlock=some k→w1.heap.size≤k)∧(∀f∈l,FrC wr C f)∧Mod (fun _=>False) w1 wr
theorem tall_at (w:World) (b:Nat) (own C:Nat→Prop) (M:List (Int×Fil)) (N:Nat) (h:Tab w b own C M N) (hN:N≤100000) (id:Int) (hid:(Lit.int .i64 id).wf=true):
 Calls Tryz.prog 64 #[.pointer (some ⟨b,0,none⟩),.int .i64 id] w (TAllPost w C (allQ M id)):=by
 obtain ⟨mo,h⟩:=h
 have b0:w.cell? ⟨b,0,none⟩=some (.map (some mo)):=cell_of h.row rfl
 obtain ⟨n,f,hf1,hf2,hf3,hf4⟩:=h.om
 have hkx:=Maps.keyOf_int_mk Tryz.underlying3 hid
 have hlk:=hf1.look keyed_i Tryz.underlying57 (zero_mm w) hkx
 have hval:=(hf3 id).val
 obtain ⟨vv,hvv⟩:∃vv,(f (.int .i64 id)).getD (.map none)=vv:=⟨_,rfl⟩
 rw [hvv] at hlk hval
 obtain ⟨mb,rfl,hsort⟩:∃mb,vv= .map mb∧Calls Tryz.prog 96 #[.func (.func 130) #[] #[.pointer (some ⟨w.heap.size,0,none⟩)]] (w.alloc (.cells #[.map mb] 174)) (SortedPost (w.alloc (.cells #[.map mb] 174)) 9 ((riseS (keysL M id)).map encStr)):=by
  rcases hval with ⟨-,rfl,hg⟩|⟨mi, -,rfl, -, -, -,hKA⟩
  ·have e:keysL M id=[]:=List.eq_nil_iff_forall_not_mem.2 fun k hk=>by rw [keysL_mem,hg k] at hk;cases hk
   refine ⟨none,rfl, ?_⟩
   rw [e,show riseS []=[] from List.mergeSort_nil]
   exact ssorted_nil w
  ·obtain ⟨ni,fi,hi1,hi2,hi3⟩:=hKA
   refine ⟨some mi,rfl,ssorted_at hi1 (by omega) (keysL_nodup h.nd id) (fun k=> ?_)⟩
   rw [keysL_mem]
   have h3:=hi3 k
   cases hk1:fi (.string k)<;>cases hk2:tabF M id k<;>rw [hk1,hk2] at h3
   ·exact Iff.rfl
   ·exact h3.elim
   ·exact h3.elim
   ·exact Iff.rfl
 have hkeys:=skeys_at mb w
 obtain ⟨w1,hw1⟩:∃w1:World,w.alloc (.cells #[.map mb] 174)=w1:=⟨_,rfl⟩
 have hm1:Mod (fun _=>False) w w1:=hw1▸(Mod.refl (fun _=>False) w).alloc _
 rw [hw1] at hsort hkeys
 obtain ⟨K,hK⟩:∃K,riseS (keysL M id)=K:=⟨_,rfl⟩
 have hKl:K.length≤100000:=by
  rw [←hK]
  unfold riseS
  rw [List.length_mergeSort]
  exact Nat.le_trans (keysL_len M id) (Nat.le_trans h.low hN)
 have hKs:∀k∈K,(tabF M id k).isSome=true:=fun k hk=>by rw [←hK,riseS_mem] at hk;exact keysL_mem.1 hk
 rw [hK] at hsort
 unfold allQ
 rw [hK]
 have H:=Lib.hid h
 have Hf1:=Lib.hid hf1
 have Hf2:=Lib.hid hf2
 have Hf3:=Lib.hid hf3
 have Hf4:=Lib.hid hf4
 have Hkx:=Lib.hid hkx
 have Hvv:=Lib.hid hvv
 have Hval:=Lib.hid hval
 have Hsort:=Lib.hid hsort
 have Hkeys:=Lib.hid hkeys
 have Hw1:=Lib.hid hw1
 have Hm1:=Lib.hid hm1
 have HK:=Lib.hid hK
 have HKs:=Lib.hid hKs
 clear h hf1 hf2 hf3 hf4 hkx hvv hval hsort hkeys hw1 hm1 hK hKs
 go_enter Tryz.func64,Tryz.ntmps64
 go_wp2_with fail
 refine Hkeys.out.mono ?_
 rintro e wx ⟨rfl,hwx⟩
 obtain rfl:=hwx.symm
 go_wp2_with fail
 refine Hsort.out.mono ?_
 rintro e w2 ⟨sv,rfl,hso,hsb,hm2⟩
 obtain ⟨sa,sc,rfl, -⟩:=hso.shape
 rw [List.length_map] at hso⊢
 have hm02:=Hm1.out.trans hm2 (fun _ _ h=>h)
 have hrel0:AllRel w2 C K (tabF M id) (.slice none 0 0) (.int .i64 ((0:Nat):Int)) w2:=⟨0,[],none,0,rfl,Nat.zero_le _,Nat.le_refl _,rfl,rfl,OwnSl.nil _ _ _,fun k hk=>by simp [Value.ownBlock] at hk,fun f hf=>(by cases hf),Mod.refl _ _⟩
 have Hso:=Lib.hid hso
 have Hsb:=Lib.hid hsb
 have Hm2:=Lib.hid hm2
 have Hm02:=Lib.hid hm02
 have Hrel0:=Lib.hid hrel0
 clear hso hsb hm2 hm02 hrel0
 go_wp2_with fail
 go_loopw [5,17] (fun ov i wr=>AllRel w2 C K (tabF M id) ov i wr) (fun _ i _=>K.length - (intOf i).toNat)
 case atStart=>exact Hrel0.out
 case round=>
  revert wr
  intro wr hrel
  obtain ⟨j,l,oa,oc,rfl,hj,hlj,rfl,hlq,hown,hob,hfc,hmr⟩:=hrel
  have hm0r:=Hm02.out.trans hmr (fun _ _ h=>h)
  by_cases hlt:j<K.length
  ·have hlt':(j:Int)<K.length:=by omega
   obtain ⟨k,hkj⟩:∃k,K[j]? =some k:=⟨_,List.getElem?_eq_getElem hlt⟩
   have hks:=HKs.out k (List.mem_of_getElem? hkj)
   have hkw:k.length≤maxLen:=by
    cases hq:tabF M id k with
    |none=>rw [hq] at hks;cases hks
    |some q=>
     obtain ⟨h1,h2⟩:=tabF_some hq
     have h3:=H.out.wf _ h1
     have h4:=filPrt_len q.1 q.2 h3.2.2
     have h5:=H.out.sc _ h1
     rw [show filPrt q.1 q.2=k from h2] at h4
     have h6:=h3.2.1
     simp only [] at h6 h5
     unfold maxLen
     omega
   obtain ⟨g,off,rfl,ck⟩:=rd_one (Hso.out.rd.mod hmr (fun _ _ h=>h)) hkj
   have ck':wr.cell? ⟨g,off+j,none⟩=some (.string (str k)):=ck
   have ht:=H.out.mod hm0r (fun _ _ h=>h.elim)
   have br:wr.cell? ⟨b,0,none⟩=some (.map (some mo)):=cell_of ht.row rfl
   have hv:=(Hf3.out id).mod hm0r (fun _ _ h=>h) (fun _ _ h=>h.elim)
   have hlr:=(Hf1.out.mod hm0r (fun h=>h)).look keyed_i Tryz.underlying57 (zero_mm wr) Hkx.out
   rw [Hvv.out] at hlr
   have hvl:=hv.val
   rw [Hvv.out] at hvl
   rcases hvl with ⟨-, -,hg⟩|⟨mi, -,hmb, -, -, -,ni,fi,hi1,hi2,hi3⟩
   ·rw [hg k] at hks;cases hks
   cases hmb
   obtain ⟨fr,hfv,hfq,hfr⟩:=fil_fr (hi3 k) (fun h=>by rw [h] at hks;cases hks)
   have hli:=hi1.look keyed_s Tryz.underlying174 (zero_fil wr) (key_s k hkw)
   rw [hfv] at hli
   have hli':(Instr.lookup 174 (.map (some mi)) (.string (str k)) false).run Tryz.prog wr= .ok (.agg #[.string fr.sc,.slice fr.a fr.cs.length fr.c]) wr:=hli
   have hnx:(l++[fr]).map Fr.fil=(K.take (j+1)).filterMap (tabF M id):=by
    rw [List.take_add_one,hkj,List.filterMap_append,←hlq,List.map_append,Option.toList_some]
    congr 1
    rw [List.filterMap_cons,hfq]
    rfl
   obtain ⟨wz,hwz,hmwz,hgwz,hzwz⟩:=allocE wr (.cells #[.string fr.sc,.slice fr.a fr.cs.length fr.c] 33)
   have hrz:RdSl wz 2 (.slice (some ⟨wr.heap.size,0,none⟩) 1 1) 1 [.string fr.sc,.slice fr.a fr.cs.length fr.c]:=hwz▸RdSl.one wr [.string fr.sc,.slice fr.a fr.cs.length fr.c] 33 rfl
   have hone:∀u∈([.string fr.sc,.slice fr.a fr.cs.length fr.c]:List Value),u.oneCell'=true:=fun u hu=>List.all_eq_true.1 (show ([.string fr.sc,.slice fr.a fr.cs.length fr.c]:List Value).all (·.oneCell')=true from rfl) u hu
   have hoz:=hown.mod hmwz (fun _ _ h=>h)
   have hm2z:=hmr.trans hmwz (fun _ _ h=>h)
   have hfcz:∀f∈l++[fr],FrC wz C f:=fun f hf=>by
    rcases List.mem_append.1 hf with hf|hf
    ·exact (hfc f hf).mod hmwz (fun _ _ h=>h.elim)
    ·obtain rfl:f=fr:=by simpa using hf
     exact hfr.mod hmwz (fun _ _ h=>h.elim)
   have Hkj:=Lib.hid hkj
   have Hks:=Lib.hid hks
   have Ck:=Lib.hid ck
   have Ht:=Lib.hid ht
   have Hv:=Lib.hid hv
   have Hi1:=Lib.hid hi1
   have Hi2:=Lib.hid hi2
   have Hi3:=Lib.hid hi3
   have Hfv:=Lib.hid hfv
   have Hfq:=Lib.hid hfq
   have Hfr:=Lib.hid hfr
   have Hli:=Lib.hid hli
   have Hnx:=Lib.hid hnx
   have Hwz:=Lib.hid hwz
   have Hmwz:=Lib.hid hmwz
   have Hgwz:=Lib.hid hgwz
   have Hrz:=Lib.hid hrz
   have Hone:=Lib.hid hone
   have Hoz:=Lib.hid hoz
   have Hm2z:=Lib.hid hm2z
   have Hfcz:=Lib.hid hfcz
   have Hown:=Lib.hid hown
   have Hob:=Lib.hid hob
   have Hfc:=Lib.hid hfc
   have Hmr:=Lib.hid hmr
   have Hm0r:=Lib.hid hm0r
   have Hlq:=Lib.hid hlq
   have Hkw:=Lib.hid hkw
   clear hkj hks ck ht hv hi1 hi2 hi3 hfv hfq hfr hli hnx hwz hmwz hgwz hrz hone hoz hm2z hfcz hown hob hfc hmr hm0r hlq hkw hzwz
   go_wp2_with (first|((with_reducible refine wpList_build_one_lit 89 (.tmp 29) ?_);refine ⟨33,2,Tryz.underlying89,by kernel_rfl,by kernel_rfl,by decide,by decide,[.string fr.sc,.slice fr.a fr.cs.length fr.c],rfl,rfl, ?_⟩;rw [Hwz.out])|((with_reducible refine wpList_append_lit (.tmp 21) (.tmp 30) 89 ?_);refine ⟨rfl,33,2,40,filsT,.slice oa l.length oc,l.length,l.flatMap Fr.cells,rfl,Hoz.out,_,1,[.string fr.sc,.slice fr.a fr.cs.length fr.c],rfl,Hrz.out,Hone.out,by omega,by unfold maxLen;omega, ?_⟩;intro ad cap5 w5 hA;have HA:=Lib.hid hA;clear hA)|fail)
   go_roundw
   case rel=>
    refine ⟨j+1,l++[fr],ad,cap5,by go_num,hlt,by rw [List.length_append,List.length_singleton];omega,by rw [List.length_append];rfl,Hnx.out, ?_, ?_,fun f hf=>(Hfcz.out f hf).mod HA.out.2.1 (fun k hk h=> ?_),Hm2z.out.upon HA.out.2.1 (fun k hk=> .inr (Hob.out k hk))⟩
    ·rw [List.length_append,List.flatMap_append];exact HA.out.1
    ·intro k hk
     rcases HA.out.2.2 with h3|⟨k',h3,h4⟩
     ·exact Hob.out k (h3▸hk)
     ·rw [h3] at hk
      cases hk
      have:=Hm2z.out.size
      omega
    ·intro hc
     have h1:=H.out.clow _ hc
     have h2:=Hob.out k h
     have h3:=Hm02.out.size
     omega
   case measure=>simp [intOf];omega
  ·obtain rfl:j=K.length:=by omega
   rw [List.take_length] at hlq
   have Hlq:=Lib.hid hlq
   have Hown:=Lib.hid hown
   have Hob:=Lib.hid hob
   have Hfc:=Lib.hid hfc
   have Hmr:=Lib.hid hmr
   have Hm0r:=Lib.hid hm0r
   clear hlq hown hob hfc hmr hm0r
   go_wp2_with fail
   go_ret
   exact ⟨_,l,rfl,Hown.out,fun k hk=>Nat.le_trans Hm02.out.size (Hob.out k hk),Hlq.out,Hfc.out,Hm0r.out⟩
theorem kF_app {l:List Fil} {q:Fil} (h:kF l (keyF q)=none) (k:List UInt8):kF (l++[q]) k=if k=keyF q then some q else kF l k:=by
 unfold kF at*
 rw [List.find?_append]
 by_cases e:k=keyF q
 ·rw [if_pos e,e,h]
  simp
 ·rw [if_neg e]
  have h2:(keyF q==k)=false:=by rw [beq_eq_false_iff_ne];exact fun e2=>e e2.symm
  simp [h2]
theorem KeyC.put {w0 w:World} {ow:Ow} {mi:Nat} {l:List Fil} (hw:Owd w0 w ow) (h:KeyC w ow mi l) (hn:l.length<maxLen) (hmi:ow mi≠0) (q:Fil) (hk:(keyF q).length≤maxLen) (hq:kF l (keyF q)=none) (a:Option Addr) (cap:Nat) (hv:ConSl w ow 7 (.slice a q.2.length cap) q.2.length (cnds q.2)):
 ∃w',(Instr.mapUpdate 174 (.map (some mi)) (.string (str (keyF q))) (.agg #[.string q.1,.slice a q.2.length cap])).run Tryz.prog w= .ok () w'∧KeyC w' ow mi (l++[q])∧Mod (fun k=>k=mi) w w':=by
 obtain ⟨f,h1,h2⟩:=h
 have hfn:f (.string (keyF q))=none:=by
  have:=h2 (keyF q)
  rw [hq] at this
  cases hf:f (.string (keyF q)) with
  |none=>rfl
  |some v=>rw [hf] at this;exact this.elim
 obtain ⟨w',r1,r2,r3⟩:=h1.put keyed_s Tryz.underlying174 hn (key_s (keyF q) hk) (.agg #[.string q.1,.slice a q.2.length cap])
 have s:Mov (fun t=>t=ow mi) w ow w' ow:=Mov.wrote hw r3 (fun k hk=>by rw [hk])
 have h0:¬((0:Nat)=ow mi):=fun e=>hmi e.symm
 refine ⟨w',r1,⟨putF f (.string (keyF q)) (.agg #[.string q.1,.slice a q.2.length cap]), ?_,fun k=> ?_⟩,r3⟩
 ·rw [hfn] at r2
  rw [List.length_append,List.length_singleton]
  exact r2
 ·rw [kF_app hq]
  unfold putF
  by_cases e:k=keyF q
  ·subst e
   rw [if_pos rfl,if_pos rfl]
   exact ⟨a,cap,rfl,hv.mov s h0 (by omega)⟩
  ·rw [if_neg e,if_neg (fun e2=>e (by cases e2;rfl))]
   exact (h2 k).mov s h0
def KeyV (w:World) (ow:Ow) (v:Value) (l:List Fil):Prop:=(v= .map none∧l=[])∨∃mi,v= .map (some mi)∧KeyC w ow mi l
theorem KeyV.ask {w:World} {ow:Ow} {v:Value} {l:List Fil} (h:KeyV w ow v l) (k:List UInt8) (hk:k.length≤maxLen):
 ∃(q:Fil) (a:Option Addr) (cap:Nat),(Instr.lookup 174 v (.string (str k)) true).run Tryz.prog w= .ok (.tuple #[.agg #[.string q.1,.slice a q.2.length cap],.bool (kF l k).isSome]) w∧
  (Instr.lookup 174 v (.string (str k)) false).run Tryz.prog w= .ok (.agg #[.string q.1,.slice a q.2.length cap]) w∧(∀p,kF l k=some p→p=q∧ConSl w ow 7 (.slice a q.2.length cap) q.2.length (cnds q.2)):=by
 rcases h with ⟨rfl,rfl⟩|⟨mi,rfl,f,h1,h2⟩
 ·refine ⟨(⟨#[]⟩,[]),none,0, ?_, ?_,fun p hp=>by cases hp⟩
  ·rw [show (kF [] k).isSome=false from rfl]
   simpa using Maps.look_nil (w:=w) true keyed_s Tryz.underlying174 (zero_fil w) (key_s k hk)
  ·simpa using Maps.look_nil (w:=w) false keyed_s Tryz.underlying174 (zero_fil w) (key_s k hk)
 ·have h3:=h1.look_ok keyed_s Tryz.underlying174 (zero_fil w) (key_s k hk)
  have h4:=h1.look keyed_s Tryz.underlying174 (zero_fil w) (key_s k hk)
  have h5:=h2 k
  cases hf:f (.string k) with
  |none=>
   rw [hf] at h3 h4 h5
   cases hq:kF l k with
   |none=>exact ⟨(⟨#[]⟩,[]),none,0,h3,h4,fun p hp=>by cases hp⟩
   |some p=>rw [hq] at h5;exact h5.elim
  | some v=>
   rw [hf] at h3 h4 h5
   cases hq:kF l k with
   |none=>rw [hq] at h5;exact h5.elim
   |some p=>
    rw [hq] at h5
    obtain ⟨a,cap,rfl,hc⟩:=h5
    exact ⟨p,a,cap,h3,h4,fun p2 hp=>by cases hp;exact ⟨rfl,hc⟩⟩
theorem kF_in {l:List Fil} {k:List UInt8}:(kF l k).isSome=true↔k∈l.map keyF:=by
 unfold kF
 rw [List.find?_isSome,List.mem_map]
 constructor
 ·rintro ⟨f,h1,h2⟩
  exact ⟨f,h1,by simpa using h2⟩
 ·rintro ⟨f,h1,h2⟩
  exact ⟨f,h1,by simpa using h2⟩
theorem riseS_same {L:List (List UInt8)} (h:L.Pairwise (· < ·)):riseS L=L:=by
 unfold riseS
 refine List.mergeSort_of_pairwise (h.imp fun {a b} hab=> ?_)
 unfold leB
 exact decide_eq_true (List.le_of_lt hab)
theorem KeyV.sorted {w:World} {ow:Ow} {mb:Option Nat} {l:List Fil} (h:KeyV w ow (.map mb) l) (hn:l.length≤1000000) (hp:l.Pairwise fun a b=>keyF a<keyF b):
 Calls Tryz.prog 96 #[.func (.func 130) #[] #[.pointer (some ⟨w.heap.size,0,none⟩)]] (w.alloc (.cells #[.map mb] 174)) (SortedPost (w.alloc (.cells #[.map mb] 174)) 9 ((l.map keyF).map encStr)):=by
 rcases h with ⟨e,rfl⟩|⟨mi,e,f,h1,h2⟩
 ·cases e
  exact ssorted_nil w
 ·cases e
  have hpw:(l.map keyF).Pairwise (· < ·):=List.pairwise_map.2 hp
  have h3:=ssorted_at h1 hn (L:=l.map keyF) (hpw.imp fun {a b} hab e=>absurd (e▸hab) (List.lt_irrefl _)) (fun x=>by
   rw [←kF_in]
   have h4:=h2 x
   cases hf:f (.string x)<;>cases hq:kF l x<;>rw [hf,hq] at h4<;>first|exact h4.elim|simp)
  rw [riseS_same hpw] at h3
  exact h3
theorem KeyC.beside {w0 w w':World} {ow:Ow} {mi b:Nat} {l:List Fil} (hw:Owd w0 w ow) (h:KeyC w ow mi l) (hm:Mod (fun k=>k=b) w w') (hn:mi≠b) (hb:ow b≠0):KeyC w' ow mi l:=by
 obtain ⟨f,h1,h2⟩:=h
 have s:Mov (fun t=>t=ow b) w ow w' ow:=Mov.wrote hw hm (fun k hk=>by rw [hk])
 exact ⟨f,h1.mod hm hn,fun k=>(h2 k).mov s (fun e=>hb e.symm)⟩
theorem SentC.put {w0 w:World} {ow:Ow} {c mb:Nat} {G:Int→List Fil} {K:Nat} (hw:Owd w0 w ow) (h:SentC w ow c mb G K) (hK:K<maxLen) (hc:c≠0) (n:Int) (hnw:(Lit.int .i64 n).wf=true) (b:Nat) (hb:ow b=c) (hbn:b≠mb) (l:List Fil) (hl:KeyC w ow b l)
 (hp:l.Pairwise fun a b=>keyF a<keyF b):
 ∃w',(Instr.mapUpdate 57 (.map (some mb)) (.int .i64 n) (.map (some b))).run Tryz.prog w= .ok () w'∧SentC w' ow c mb (updI G n l) (K+1)∧Mod (fun k=>k=mb) w w':=by
 obtain ⟨m,f,h1,h2,h3⟩:=h.mp
 have hmb:ow mb≠0:=by rw [h.tag];exact hc
 obtain ⟨w',r1,r2,r3⟩:=h1.put keyed_i Tryz.underlying57 (Nat.lt_of_le_of_lt h2 hK) (Maps.keyOf_int_mk Tryz.underlying3 hnw) (.map (some b))
 refine ⟨w',r1,⟨h.tag,⟨_,_,r2, ?_,fun id=> ?_⟩,fun id=> ?_⟩,r3⟩
 ·split<;>omega
 ·unfold putF
  by_cases e:id=n
  ·subst e
   rw [if_pos rfl,updI_at]
   exact ⟨b,rfl,hbn,hb,hl.beside hw r3 hbn hmb⟩
  ·rw [if_neg (fun e2=>e (by cases e2;rfl)),updI_ne _ _ e]
   have h4:=h3 id
   cases hf:f (.int .i64 id) with
   |none=>rw [hf] at h4;exact h4
   |some v=>
    rw [hf] at h4
    obtain ⟨mi,g1,g2,g3,g4⟩:=h4
    exact ⟨mi,g1,g2,g3,g4.beside hw r3 g2 hmb⟩
 ·by_cases e:id=n
  ·rw [e,updI_at];exact hp
  ·rw [updI_ne _ _ e];exact h.lt id
end
section
open Go.RowKit
def CopyRel (w:World) (own C:Nat→Prop) (md ms r B:Nat) (fs:Lit→Option Value) (gs gd:List UInt8→Option Fil) (wr:World):Prop:=
 ∃(left:Lit→Bool) (cnt n:Nat) (g:List UInt8→Option Fil) (fm:Lit→Option Value),MapR wr 9 md n fm∧n+cnt≤B∧(∀k,FilIs wr own C (fm (.string k)) (g k))∧RngR wr 9 ms r fs left cnt∧
  (∀k,g k=if (gs k).isSome&& !left (.string k) then gs k else gd k)∧Mod (fun k=>k=md) w wr
theorem FilIs.some {w:World} {own C:Nat→Prop} {v:Option Value} {q:Option Fil} (h:FilIs w own C v q):v.isSome=q.isSome:=by
 cases v<;>cases q
 ·rfl
 ·exact h.elim
 ·exact h.elim
 ·rfl
theorem mcopy_at (w:World) (own C:Nat→Prop) (md ms Nd ns:Nat) (gd gs:List UInt8→Option Fil) (fs:Lit→Option Value) (hd:KAt w own C md Nd gd) (hs:MapR w 9 ms ns fs) (hsv:∀k,FilIs w own C (fs (.string k)) (gs k)) (hne:md≠ms) (hC:¬C md) (hCl:∀k,C k→k<w.heap.size) (hB:Nd+ns≤1000000000):
 Calls Tryz.prog 127 #[.map (some md),.map (some ms)] w fun e w'=>e= .returned (.tuple #[])∧KAt w' own C md (Nd+ns) (fun k=>(gs k).or (gd k))∧Mod (fun k=>k=md) w w':=by
 obtain ⟨n0,fd,h1,h2,h3⟩:=hd
 have hmdl:=h1.lt
 have hmsl:=hs.lt
 have Hs:=Lib.hid hs
 have Hsv:=Lib.hid hsv
 have H1:=Lib.hid h1
 have H2:=Lib.hid h2
 have H3:=Lib.hid h3
 clear hs hsv h1 h2 h3
 go_enter Tryz.func127,Tryz.ntmps127
 go_wp2_with (first|((at_range;refine wpList_range_R rfl _ 174 rfl 9 33 keyed_s Tryz.underlying174 ms ns fs rfl Hs.out ?_;intro wF hrg hmF hzF))|fail)
 have hrel0:CopyRel w own C md ms w.heap.size (Nd+ns) fs gs gd wF:=⟨_,_,n0,gd,fd,H1.out.mod hmF (fun h=>h),by have:=H2.out;omega,fun k=>(H3.out k).mod2 hmF (fun _ _ h=>h.elim),hrg,fun k=>by
  have e:=(Hsv.out k).some
  rw [e]
  cases (gs k).isSome<;>rfl,hmF.mono (fun _ _ h=>h.elim)⟩
 have Hrel0:=Lib.hid hrel0
 have Hrg:=Lib.hid hrg
 have HmF:=Lib.hid hmF
 clear hrel0 hrg hmF hzF
 go_frame
 go_loopw [8] (fun _ wr=>CopyRel w own C md ms w.heap.size (Nd+ns) fs gs gd wr) (fun _ wr=>wr.rangeLeft ms w.heap.size)
 case atStart=>exact Hrel0.out
 case round=>
  revert wr
  intro wl hrel
  obtain ⟨left,cnt,n,g,fm,hm1,hn,hv,hrg,hg,hmr⟩:=hrel
  have Hm1:=Lib.hid hm1
  have Hv:=Lib.hid hv
  have Hg:=Lib.hid hg
  have Hmr:=Lib.hid hmr
  clear hm1 hv hg hmr
  go_wp2_with (first|((at_next;refine wpList_next_R rfl _ rfl 9 keyed_s encStr Lit.string (inv_s _ Tryz.underlying9) (in_s _ Tryz.underlying9) ms w.heap.size fs left cnt rfl hrg ?_ ?_))|fail)
  ·intro hl0
   have hK:KAt wl own C md (Nd+ns) (fun k=>(gs k).or (gd k)):=⟨n,fm,Hm1.out,by omega,fun k=>by
    have h:=Hv.out k
    rw [Hg.out k,hl0] at h
    show FilIs wl own C _ ((gs k).or (gd k))
    cases hk:gs k with
    |none=>rw [hk] at h;exact h
    |some q=>rw [hk] at h;exact h⟩
   have Hrg:=Lib.hid hrg
   have Hl0:=Lib.hid hl0
   have HK:=Lib.hid hK
   clear hrg hl0 hK
   go_wp2_with fail
   go_end0
   exact ⟨rfl,HK.out,Hmr.out⟩
  ·intro k c wu cnt' hkey hlk hfc hrg' hlt2 hmu hzu hen
   obtain ⟨fr,hfv,hfq,hfr⟩:=fil_fr (Hsv.out k) (fun h=>by have h1:=(Hsv.out k).some;rw [hfc,h] at h1;cases h1)
   rw [hfc] at hfv
   obtain rfl:=Option.some.inj hfv
   obtain ⟨wv,hwv,hmwv,hgwv,hzwv⟩:=allocE wu (.cells #[.string fr.sc,.slice fr.a fr.cs.length fr.c] 33)
   have hmlu:Mod (fun _=>False) w wl→True:=fun _=>trivial
   have hlsz:=Hmr.out.size
   have hm1v:=(Hm1.out.mod hmu (fun h=>by have h':md=w.heap.size:=h;omega)).mod hmwv (fun h=>h)
   have v2:wv.cell? ⟨wu.heap.size,0,none⟩=some (.string fr.sc):=cell_of hgwv rfl
   have v3:wv.cell? ⟨wu.heap.size,1,none⟩=some (.slice fr.a fr.cs.length fr.c):=cell_of hgwv rfl
   have hrgv:=hrg'.mod hmwv (fun h=>h) (fun h=>h)
   have hmwv1:Mod (fun k=>k=md) w wv:=(Hmr.out.upon hmu (fun k hk=> .inr (Nat.le_of_eq (Eq.symm hk)))).trans hmwv (fun _ _ h=>h.elim)
   have hnm:n<maxLen:=by unfold maxLen;omega
   have Hkey:=Lib.hid hkey
   have Hlk:=Lib.hid hlk
   have Hfc:=Lib.hid hfc
   have Hrg':=Lib.hid hrg'
   have Hmu:=Lib.hid hmu
   have Hzu:=Lib.hid hzu
   have Hfq:=Lib.hid hfq
   have Hfr:=Lib.hid hfr
   have Hwv:=Lib.hid hwv
   have Hmwv:=Lib.hid hmwv
   have Hgwv:=Lib.hid hgwv
   have Hrgv:=Lib.hid hrgv
   have Hm1v:=Lib.hid hm1v
   have Hmwv1:=Lib.hid hmwv1
   have Hrg:=Lib.hid hrg
   clear hkey hlk hfc hrg' hmu hzu hfq hfr hwv hmwv hgwv hrgv hm1v hmwv1 hrg
   go_wp2_with (first|((with_reducible refine wpList_store_lit 33 (.tmp 5) (.tmp 12) ?_);refine ⟨rfl,[.string fr.sc,.slice fr.a fr.cs.length fr.c],rfl,rfl,by kernel_rfl,rfl, ?_⟩;rw [Hwv.out])|((with_reducible refine wpList_mput_lit 174 (.tmp 13) (.tmp 14) (.tmp 15) ?_);refine ⟨9,33,md,n,fm,.string k,Hm1v.out,keyed_s,Tryz.underlying174,hnm,rfl,Hkey.out, ?_⟩;intro w8 hM' hm';have HM':=Lib.hid hM';have Hm':=Lib.hid hm';clear hM' hm')|fail)
   go_roundw
   case rel=>
    have hmw8:Mod (fun k=>k=md) w w8:=Hmwv1.out.trans Hm'.out (fun _ _ h=>h)
    have hml8:Mod (fun k=>k=md∨k=w.heap.size) wl w8:=((Hmu.out.mono (fun _ _ h=> .inr h)).trans (Hmwv.out.mono (fun _ _ h=>h.elim)) (fun _ _ h=>h)).trans (Hm'.out.mono (fun _ _ h=> .inl h)) (fun _ _ h=>h)
    refine ⟨_,cnt',_,fun x=>if x=k then gs k else g x,_,HM'.out,by split<;>omega,fun x=> ?_,Hrgv.out.mod Hm'.out (fun h=>hne h.symm) (fun h=>by have h':w.heap.size=md:=h;omega),fun x=> ?_,hmw8⟩
    ·unfold putF
     show FilIs w8 own C _ (if x=k then gs k else g x)
     by_cases e:x=k
     ·subst e
      rw [if_pos rfl,if_pos rfl,Hfq.out]
      obtain ⟨h4,h5⟩:=Hfr.out
      have h6:=(Hsv.out x).mod2 hmw8 (fun k _ hk h=>hC (hk▸h))
      rw [Hfc.out,Hfq.out] at h6
      exact h6
     ·rw [if_neg (fun h=>e (Lit.string.inj h)),if_neg e]
      have h0:=Hv.out x
      have hlow:∀k',k'<wl.heap.size→(k'=md∨k'=w.heap.size)→C k'→False:=fun k' _ h hc=>by
       rcases h with h|h
       ·exact hC (h▸hc)
       ·have:=hCl _ hc;omega
      exact h0.mod2 hml8 (fun k' hk' h hc=>hlow k' hk' h hc)
    ·show (if x=k then gs k else g x)=if ((gs x).isSome&& !(left (.string x)&& !(Lit.string x).sameKey (.string k)))=true then gs x else gd x
     by_cases e:x=k
     ·subst e
      rw [if_pos rfl,same_s,Hfq.out]
      simp
     ·rw [if_neg e,Hg.out x,same_s]
      have:(x==k)=false:=by rw [beq_eq_false_iff_ne];exact e
      rw [this,Bool.not_false,Bool.and_true]
   case measure=>rw [(Hrgv.out.mod Hm'.out (fun h=>hne h.symm) (fun h=>by have h':w.heap.size=md:=h;omega)).left_eq,Hrg.out.left_eq];exact hlt2
def okQ (q:Fil):Prop:=q.2.length≤19∧(∀c∈q.2,c.fits)∧q.1.size≤1000000
theorem cov_at (w:World) (x y:Fr) (hx:RdSl w 7 (.slice x.a x.cs.length x.c) x.cs.length (cnds x.cs)) (hy:RdSl w 7 (.slice y.a y.cs.length y.c) y.cs.length (cnds y.cs)) (hxo:okQ x.fil) (hyo:okQ y.fil):
 Calls Tryz.prog 99 #[.agg #[.string x.sc,.slice x.a x.cs.length x.c],.agg #[.string y.sc,.slice y.a y.cs.length y.c]] w fun e w'=>e= .returned (.bool (covQ x.fil y.fil))∧Mod (fun _=>False) w w':=
 covers_over impB w x.sc _ x.cs hx (by have:=hxo.1;have h:x.fil.2.length=x.cs.length:=rfl;omega) (by have:=hxo.2.2;have h:x.fil.1=x.sc:=rfl;rw [h] at this;omega) y.sc _ y.cs hy (by have:=hyo.1;have h:y.fil.2.length=y.cs.length:=rfl;omega) (by have:=hyo.2.2;have h:y.fil.1=y.sc:=rfl;rw [h] at this;omega)
  (fun d hd c hc wx _=>by
    have h1:=hyo.2.1 d hd
    have h2:=hxo.2.1 c hc
    exact implies_at d c (by have:=h1.1.text;omega) (by have:=h2.1.text;omega) h1.1.num h2.1.num wx)
def covJ (g:List UInt8→Option Fil) (k:List UInt8) (f:Fil) (j:List UInt8):Bool:=match g j with|some h=>decide (j≠k)&&(covQ h f&&(decide (j<k)|| !covQ f h))|none=>false
theorem covdF_J (g:List UInt8→Option Fil) (ks:List (List UInt8)) (k:List UInt8) (f:Fil):covdF g ks k f=ks.any (covJ g k f):=rfl
def CovRel (w:World) (ma r:Nat) (fm:Lit→Option Value) (g:List UInt8→Option Fil) (k:List UInt8) (f:Fil) (wr:World):Prop:=
 ∃(left:Lit→Bool) (cnt:Nat),RngR wr 9 ma r fm left cnt∧(∀j,(g j).isSome=true→left (.string j)=false→covJ g k f j=false)∧Mod (fun _=>False) w wr
theorem covered_at (w:World) (own C:Nat→Prop) (ma n:Nat) (fm:Lit→Option Value) (g:List UInt8→Option Fil) (hm:MapR w 9 ma n fm) (hv:∀x,FilIs w own C (fm (.string x)) (g x)) (hwf:∀x q,g x=some q→okQ q)
 (k:List UInt8) (hkl:k.length≤maxLen) (f:Fil) (hk:g k=some f) (ks:List (List UInt8)) (hks:∀x,x∈ks↔(g x).isSome=true):
 Calls Tryz.prog 128 #[.map (some ma),.string (str k)] w fun e w'=>e= .returned (.bool (covdF g ks k f))∧Mod (fun _=>False) w w':=by
 obtain ⟨fr,hfv,hfq,hfr⟩:=fil_fr (hv k) (fun h=>by rw [hk] at h;cases h)
 have hff:f=fr.fil:=by rw [hk] at hfq;exact Option.some.inj hfq
 subst hff
 have hfo:=hwf k _ hk
 have hks':=key_s k hkl
 rw [covdF_J]
 obtain ⟨B,hB⟩:∃B,ks.any (covJ g k fr.fil)=B:=⟨_,rfl⟩
 rw [hB]
 have HB:=Lib.hid hB
 have Hm:=Lib.hid hm
 have Hv:=Lib.hid hv
 have Hwf:=Lib.hid hwf
 have Hk:=Lib.hid hk
 have Hks:=Lib.hid hks
 have Hfv:=Lib.hid hfv
 have Hfq:=Lib.hid hfq
 have Hfr:=Lib.hid hfr
 have Hfo:=Lib.hid hfo
 have Hks':=Lib.hid hks'
 clear hB hm hv hwf hk hks hfv hfq hfr hfo hks'
 go_enter Tryz.func128,Tryz.ntmps128
 go_wp2_with (first|((at_range;refine wpList_range_R rfl _ 174 rfl 9 33 keyed_s Tryz.underlying174 ma n fm rfl Hm.out ?_;intro wF hrg hmF hzF))|fail)
 have hrel0:CovRel w ma w.heap.size fm g k fr.fil wF:=⟨_,_,hrg,fun j h1 h2=>(by
  have e:=(Hv.out j).some
  rw [h1] at e
  have h3:(fm (.string j)).isSome=false:=h2
  rw [e] at h3
  cases h3),hmF⟩
 have Hrel0:=Lib.hid hrel0
 have Hrg:=Lib.hid hrg
 have HmF:=Lib.hid hmF
 clear hrel0 hrg hmF hzF
 go_frame
 go_loopw [9] (fun _ wr=>CovRel w ma w.heap.size fm g k fr.fil wr) (fun _ wr=>wr.rangeLeft ma w.heap.size)
 case atStart=>exact Hrel0.out
 case round=>
  revert wr
  intro wl hrel
  obtain ⟨left,cnt,hrg,hno,hmr⟩:=hrel
  have Hno:=Lib.hid hno
  have Hmr:=Lib.hid hmr
  clear hno hmr
  go_wp2_with (first|((at_next;refine wpList_next_R rfl _ rfl 9 keyed_s encStr Lit.string (inv_s _ Tryz.underlying9) (in_s _ Tryz.underlying9) ma w.heap.size fm left cnt rfl hrg ?_ ?_))|fail)
  ·intro hl0
   have hany:B=false:=by
    rw [←HB.out,List.any_eq_false]
    intro j hj
    rw [Hno.out j ((Hks.out j).1 hj) (hl0 _)]
    exact Bool.false_ne_true
   subst hany
   have Hrg:=Lib.hid hrg
   have Hl0:=Lib.hid hl0
   clear hrg hl0
   go_wp2_with fail
   go_ret
   exact ⟨rfl,Hmr.out⟩
  ·intro x c wu cnt' hkey hlk hfc hrg' hlt2 hmu hzu hen
   obtain ⟨h,hhv,hhq,hhr⟩:=fil_fr (Hv.out x) (fun e=>by have h1:=(Hv.out x).some;rw [hfc,e] at h1;cases h1)
   rw [hfc] at hhv
   obtain rfl:=Option.some.inj hhv
   have hxk:x∈ks:=(Hks.out x).2 (by rw [hhq];rfl)
   obtain ⟨wv,hwv,hmwv,hgwv,hzwv⟩:=allocE wu (.cells #[.string h.sc,.slice h.a h.cs.length h.c] 33)
   have hm0v:=(Hmr.out.upon hmu (fun k hk=> .inr (Nat.le_of_eq (Eq.symm hk)))).trans hmwv (fun _ _ h=>h)
   have v2:wv.cell? ⟨wu.heap.size,0,none⟩=some (.string h.sc):=cell_of hgwv rfl
   have v3:wv.cell? ⟨wu.heap.size,1,none⟩=some (.slice h.a h.cs.length h.c):=cell_of hgwv rfl
   have hrgv:=hrg'.mod hmwv (fun h=>h) (fun h=>h)
   have hl1:=(Hm.out.mod hm0v (fun h=>h)).look keyed_s Tryz.underlying174 (zero_fil wv) Hks'.out
   rw [Hfv.out] at hl1
   have hl1':(Instr.lookup 174 (.map (some ma)) (.string (str k)) false).run Tryz.prog wv= .ok (.agg #[.string fr.sc,.slice fr.a fr.cs.length fr.c]) wv:=hl1
   have hho:=Hwf.out x _ hhq
   have hrh:=(hhr.1.mod hm0v (fun _ _ h=>h)).rd
   have hrf:=(Hfr.out.1.mod hm0v (fun _ _ h=>h)).rd
   have hc1:=cov_at wv h fr hrh hrf hho Hfo.out
   obtain ⟨t1,ht1⟩:∃t,covQ h.fil fr.fil=t:=⟨_,rfl⟩
   rw [ht1] at hc1
   have Hrg:=Lib.hid hrg
   have Hkey:=Lib.hid hkey
   have Hlk:=Lib.hid hlk
   have Hfc:=Lib.hid hfc
   have Hrg':=Lib.hid hrg'
   have Hmu:=Lib.hid hmu
   have Hzu:=Lib.hid hzu
   have Hhq:=Lib.hid hhq
   have Hhr:=Lib.hid hhr
   have Hwv:=Lib.hid hwv
   have Hmwv:=Lib.hid hmwv
   have Hgwv:=Lib.hid hgwv
   have Hrgv:=Lib.hid hrgv
   have Hm0v:=Lib.hid hm0v
   have Hl1:=Lib.hid hl1
   have Hho:=Lib.hid hho
   have Hrh:=Lib.hid hrh
   have Hrf:=Lib.hid hrf
   have Hc1:=Lib.hid hc1
   have Ht1:=Lib.hid ht1
   have Hxk:=Lib.hid hxk
   clear hrg hkey hlk hfc hrg' hmu hzu hhq hhr hwv hmwv hgwv hrgv hm0v hl1 hho hrh hrf hc1 ht1 hxk
   have hsl:(str k).toList=k:=by rw [ByteArray.toList_eq];simp [str]
   by_cases hxe:x=k
   ·have hxf:covJ g k fr.fil x=false:=by unfold covJ;rw [Hhq.out];simp [hxe]
    have hsx:(str x).toList=x:=by rw [hxe];exact hsl
    have hno2:∀j,(g j).isSome=true→(left (.string j)&& !(Lit.string j).sameKey (.string x))=false→covJ g k fr.fil j=false:=fun j h1 h2=>by
     rw [same_s] at h2
     by_cases e:j=x
     ·rw [e];exact hxf
     ·have e2:(j==x)=false:=by rw [beq_eq_false_iff_ne];exact e
      rw [e2,Bool.not_false,Bool.and_true] at h2
      exact Hno.out j h1 h2
    have Hno2:=Lib.hid hno2
    have Hxf:=Lib.hid hxf
    clear hno2 hxf
    go_wp2_with (first|((with_reducible refine wpList_store_lit 33 (.tmp 6) (.tmp 13) ?_);refine ⟨rfl,[.string h.sc,.slice h.a h.cs.length h.c],rfl,rfl,by kernel_rfl,rfl, ?_⟩;rw [Hwv.out])|fail)
    go_roundw
    case rel=>exact ⟨_,cnt',Hrgv.out,Hno2.out,Hm0v.out⟩
    case measure=>rw [Hrgv.out.left_eq,Hrg.out.left_eq];exact hlt2
   ·have hsx:(str x).toList=x:=by rw [ByteArray.toList_eq];simp [str]
    go_wp2_with (first|((with_reducible refine wpList_store_lit 33 (.tmp 6) (.tmp 13) ?_);refine ⟨rfl,[.string h.sc,.slice h.a h.cs.length h.c],rfl,rfl,by kernel_rfl,rfl, ?_⟩;rw [Hwv.out])|fail)
    all_goals first|(exfalso;exact absurd (by assumption) hxe)|skip
    refine Hc1.out.mono ?_
    rintro e w4 ⟨rfl,hm4⟩
    have hrg4:=Hrgv.out.mod hm4 (fun h=>h) (fun h=>h)
    have hm04:=Hm0v.out.trans hm4 (fun _ _ h=>h)
    cases t1 with
    | false=>
     have hxf:covJ g k fr.fil x=false:=by unfold covJ;rw [Hhq.out];simp only [];rw [Ht1.out];simp
     have hno2:∀j,(g j).isSome=true→(left (.string j)&& !(Lit.string j).sameKey (.string x))=false→covJ g k fr.fil j=false:=fun j h1 h2=>by
      rw [same_s] at h2
      by_cases e:j=x
      ·rw [e];exact hxf
      ·have e2:(j==x)=false:=by rw [beq_eq_false_iff_ne];exact e
       rw [e2,Bool.not_false,Bool.and_true] at h2
       exact Hno.out j h1 h2
     have Hno2:=Lib.hid hno2
     have Hxf:=Lib.hid hxf
     have Hm4:=Lib.hid hm4
     have Hrg4:=Lib.hid hrg4
     have Hm04:=Lib.hid hm04
     clear hno2 hxf hm4 hrg4 hm04
     go_wp2_with fail
     go_roundw
     case rel=>exact ⟨_,cnt',Hrg4.out,Hno2.out,Hm04.out⟩
     case measure=>rw [Hrg4.out.left_eq,Hrg.out.left_eq];exact hlt2
    | true=>
     have w2:w4.cell? ⟨wu.heap.size,0,none⟩=some (.string h.sc):=hm4.cell v2 (fun h=>h)
     have w3:w4.cell? ⟨wu.heap.size,1,none⟩=some (.slice h.a h.cs.length h.c):=hm4.cell v3 (fun h=>h)
     by_cases hxl:x<k
     ·have hbl:Op.bytesLess x k=true:=by rw [Go.Proofs.bytesLess_eq];exact decide_eq_true hxl
      have hBt:B=true:=by
       rw [←HB.out,List.any_eq_true]
       refine ⟨x,Hxk.out, ?_⟩
       unfold covJ
       rw [Hhq.out]
       simp only []
       rw [Ht1.out]
       simp [hxe,hxl]
      subst hBt
      have Hm4:=Lib.hid hm4
      have Hrg4:=Lib.hid hrg4
      have Hm04:=Lib.hid hm04
      clear hm4 hrg4 hm04
      go_wp2_with fail
      go_ret
      exact ⟨rfl,Hm04.out⟩
     ·have hbl:Op.bytesLess x k=false:=by rw [Go.Proofs.bytesLess_eq];exact decide_eq_false hxl
      have hl4:=(Hm.out.mod hm04 (fun h=>h)).look keyed_s Tryz.underlying174 (zero_fil w4) Hks'.out
      rw [Hfv.out] at hl4
      have hl4':(Instr.lookup 174 (.map (some ma)) (.string (str k)) false).run Tryz.prog w4= .ok (.agg #[.string fr.sc,.slice fr.a fr.cs.length fr.c]) w4:=hl4
      have hc2:=cov_at w4 fr h (Hrf.out.mod hm4 (fun _ _ h=>h)) (Hrh.out.mod hm4 (fun _ _ h=>h)) Hfo.out Hho.out
      obtain ⟨t2,ht2⟩:∃t,covQ fr.fil h.fil=t:=⟨_,rfl⟩
      rw [ht2] at hc2
      have Hm4:=Lib.hid hm4
      have Hrg4:=Lib.hid hrg4
      have Hm04:=Lib.hid hm04
      have Hl4:=Lib.hid hl4
      have Hc2:=Lib.hid hc2
      have Ht2:=Lib.hid ht2
      clear hm4 hrg4 hm04 hl4 hc2 ht2
      go_wp2_with fail
      refine Hc2.out.mono ?_
      rintro e w5 ⟨rfl,hm5⟩
      have hrg5:=Hrg4.out.mod hm5 (fun h=>h) (fun h=>h)
      have hm05:=Hm04.out.trans hm5 (fun _ _ h=>h)
      cases t2 with
      | true=>
       have hxf:covJ g k fr.fil x=false:=by unfold covJ;rw [Hhq.out];simp only [];rw [Ht1.out,Ht2.out];simp [hxl]
       have hno2:∀j,(g j).isSome=true→(left (.string j)&& !(Lit.string j).sameKey (.string x))=false→covJ g k fr.fil j=false:=fun j h1 h2=>by
        rw [same_s] at h2
        by_cases e:j=x
        ·rw [e];exact hxf
        ·have e2:(j==x)=false:=by rw [beq_eq_false_iff_ne];exact e
         rw [e2,Bool.not_false,Bool.and_true] at h2
         exact Hno.out j h1 h2
       have Hno2:=Lib.hid hno2
       have Hxf:=Lib.hid hxf
       have Hm5:=Lib.hid hm5
       have Hrg5:=Lib.hid hrg5
       have Hm05:=Lib.hid hm05
       clear hno2 hxf hm5 hrg5 hm05
       go_wp2_with fail
       go_roundw
       case rel=>exact ⟨_,cnt',Hrg5.out,Hno2.out,Hm05.out⟩
       case measure=>rw [Hrg5.out.left_eq,Hrg.out.left_eq];exact hlt2
      | false=>
       have hBt:B=true:=by
        rw [←HB.out,List.any_eq_true]
        refine ⟨x,Hxk.out, ?_⟩
        unfold covJ
        rw [Hhq.out]
        simp only []
        rw [Ht1.out,Ht2.out]
        simp [hxe]
       subst hBt
       have Hm5:=Lib.hid hm5
       have Hrg5:=Lib.hid hrg5
       have Hm05:=Lib.hid hm05
       clear hm5 hrg5 hm05
       go_wp2_with fail
       go_ret
       exact ⟨rfl,Hm05.out⟩
end
section
open Go.RowKit Go.Sort
def OutA (w:World) (own C:Nat→Prop) (M:List (Int×Fil)) (td:Int) (ma mo r N:Nat) (f:Lit→Option Value) (wr:World):Prop:=
 ∃(left:Lit→Bool) (cnt n:Nat) (g:List UInt8→Option Fil),KAt wr own C ma n g∧n+N*cnt≤N*N∧RngR wr 3 mo r f left cnt∧(∀k q,g k=some q→∃x,x≠td∧(x,q)∈M∧keyF q=k)∧
  (∀x q,(x,q)∈M→x≠td→left (.int .i64 x)=false→(g (keyF q)).isSome=true)∧Mod (fun _=>False) w wr
def outK (M:List (Int×Fil)) (td:Int) (k:List UInt8):Option Fil:=(allF M td k).filter fun f=> !covdF (allF M td) (allK M td) k f
theorem outA_end {M:List (Int×Fil)} {td:Int} {g:List UInt8→Option Fil} (hinj:∀p∈M,∀q∈M,keyF p.2=keyF q.2→p.2=q.2) (hA:∀k q,g k=some q→∃x,x≠td∧(x,q)∈M∧keyF q=k)
 (hB:∀x q,(x,q)∈M→x≠td→(g (keyF q)).isSome=true) (k:List UInt8):g k=allF M td k:=by
 cases h1:g k with
 |some q=>
  obtain ⟨x,hx,hm,hk⟩:=hA k q h1
  obtain ⟨r,hr⟩:=allF_has hm hx
  rw [hk] at hr
  obtain ⟨hk2,y,hy,hm2⟩:=allF_some hr
  have e:q=r:=hinj _ hm _ hm2 (hk.trans hk2.symm)
  rw [hr,e]
 | none=>
  cases h2:allF M td k with
  |none=>rfl
  |some q=>
   obtain ⟨hk2,y,hy,hm2⟩:=allF_some h2
   have h3:=hB y q hm2 hy
   rw [hk2,h1] at h3
   cases h3
theorem tout_at (w:World) (b:Nat) (own C:Nat→Prop) (M:List (Int×Fil)) (N:Nat) (h:Tab w b own C M N) (hN:N≤1000) (hinj:∀p∈M,∀q∈M,keyF p.2=keyF q.2→p.2=q.2) (td:Int) (htd:(Lit.int .i64 td).wf=true):
 Calls Tryz.prog 95 #[.pointer (some ⟨b,0,none⟩),.int .i64 td] w (TAllPost w C (outL M td)):=by
 obtain ⟨mo,h⟩:=h
 obtain ⟨wa,hwa,hmwa,hgwa,hzwa⟩:=allocE w (.map #[] 0)
 have ha:=h.mod hmwa (fun _ _ h=>h.elim)
 have b0:wa.cell? ⟨b,0,none⟩=some (.map (some mo)):=cell_of ha.row rfl
 have hma:MapR wa 9 w.heap.size 0 (fun _=>none):=hwa▸MapR.made w 9
 obtain ⟨n,f,hf1w,hf2,hf3,hf4⟩:=h.om
 have hf1:=hf1w.mod hmwa (fun h=>h)
 have hNN:N*N≤1000000:=Nat.mul_le_mul hN hN
 have hmow:mo<w.heap.size:=h.olow _ h.ob.2
 obtain ⟨O,hO⟩:∃O,outL M td=O:=⟨_,rfl⟩
 rw [hO]
 have hz:=hzwa
 have HO:=Lib.hid hO
 have H:=Lib.hid h
 have Ha:=Lib.hid ha
 have Hinj:=Lib.hid hinj
 have Htd:=Lib.hid htd
 have Hwa:=Lib.hid hwa
 have Hmwa:=Lib.hid hmwa
 have Hgwa:=Lib.hid hgwa
 have Hma:=Lib.hid hma
 have Hf1:=Lib.hid hf1
 have Hf2:=Lib.hid hf2
 have Hf3:=Lib.hid hf3
 have Hf4:=Lib.hid hf4
 have Hz:=Lib.hid hz
 clear hO h ha hinj htd hwa hmwa hgwa hma hf1 hf2 hf3 hf4 hz hzwa hf1w
 go_enter Tryz.func95,Tryz.ntmps95
 go_wp2_with (first|(rw [show w.alloc _=wa from Hwa.out])|((at_range;refine wpList_range_R rfl _ 57 rfl 3 174 keyed_i Tryz.underlying57 mo n f rfl Hf1.out ?_;intro wF hrg hmF hzF))|fail)
 have hrel0:OutA w own C M td w.heap.size mo wa.heap.size N f wF:=⟨_,n,0,fun _=>none,⟨0,_,Hma.out.mod hmF (fun h=>h),Nat.le_refl _,fun _=>trivial⟩,by rw [Nat.zero_add];exact Nat.mul_le_mul_left _ Hf2.out,hrg,fun k q h=>(by cases h),fun x q hm hx hl=>(by
  have h1:=Hf3.out x
  have h2:(f (.int .i64 x)).isSome=false:=hl
  cases h3:f (.int .i64 x) with
  |some v=>rw [h3] at h2;cases h2
  |none=>
   rw [h3] at h1
   have h4:=tabF_mem H.out.nd hm
   rw [h1] at h4
   cases h4),Hmwa.out.trans hmF (fun _ _ h=>h)⟩
 have Hrel0:=Lib.hid hrel0
 have Hrg:=Lib.hid hrg
 have HmF:=Lib.hid hmF
 clear hrel0 hrg hmF hzF
 go_frame
 go_loopw [17] (fun _ wr=>OutA w own C M td w.heap.size mo wa.heap.size N f wr) (fun _ wr=>wr.rangeLeft mo wa.heap.size)
 case atStart=>exact Hrel0.out
 case round=>
  revert wr
  intro wl hrel
  obtain ⟨left,cnt,nn,g,hK,hnn,hrg,hA,hB,hmr⟩:=hrel
  have HK:=Lib.hid hK
  have HA:=Lib.hid hA
  have HB:=Lib.hid hB
  have Hmr:=Lib.hid hmr
  clear hK hA hB hmr
  go_wp2_with (first|((at_next;refine wpList_next_R rfl _ rfl 3 keyed_i (Value.int .i64) (Lit.int .i64) (inv_i _ Tryz.underlying3) (in_i _ Tryz.underlying3) mo wa.heap.size f left cnt rfl hrg ?_ ?_))|fail)
  ·intro hl0
   have hg:=outA_end (td:=td) Hinj.out HA.out (fun x q hm hx=>HB.out x q hm hx (hl0 _))
   obtain ⟨nm,fm,hm1,hm2,hm3⟩:=HK.out
   have hv:∀k,FilIs wl own C (fm (.string k)) (allF M td k):=fun k=>by rw [←hg];exact hm3 k
   have hnd:(onceS ((M.filter fun p=> !(p.1==td)).map fun p=>keyF p.2)).Nodup:=onceS_nodup _
   have hmem:∀k,k∈allK M td↔(fm (.string k)).isSome=true:=fun k=>by
    rw [allK_mem,(hv k).some,Option.isSome_iff_exists]
   have hsort:=ssorted_at hm1 (by omega) hnd (fun k=>by rw [←hmem k];unfold allK;rw [riseS_mem])
   have hkeys:=skeys_at (some w.heap.size) wl
   obtain ⟨w1,hw1⟩:∃w1:World,wl.alloc (.cells #[.map (some w.heap.size)] 174)=w1:=⟨_,rfl⟩
   have hmw1:Mod (fun _=>False) wl w1:=hw1▸(Mod.refl (fun _=>False) wl).alloc _
   rw [hw1] at hsort hkeys
   rw [show riseS (onceS ((M.filter fun p=> !(p.1==td)).map fun p=>keyF p.2))=allK M td from rfl] at hsort
   obtain ⟨K,hK_⟩:∃K,allK M td=K:=⟨_,rfl⟩
   rw [hK_] at hsort hmem
   have hKl:K.length≤100000:=by
    rw [←hK_]
    unfold allK riseS
    rw [List.length_mergeSort]
    have h1:∀l:List (List UInt8),(onceS l).length≤l.length:=fun l=>by
     induction l with
     |nil=>exact Nat.le_refl _
     |cons a l ih=>
      unfold onceS
      split
      ·exact Nat.le_trans ih (Nat.le_succ _)
      ·exact Nat.succ_le_succ ih
    refine Nat.le_trans (h1 _) ?_
    rw [List.length_map]
    exact Nat.le_trans (List.length_filter_le _ _) (Nat.le_trans H.out.low (by omega))
   have hout:O=K.filterMap (outK M td):=by rw [←HO.out];unfold outL outK;rw [hK_]
   have Hrg:=Lib.hid hrg
   have Hl0:=Lib.hid hl0
   have Hg:=Lib.hid hg
   have Hm1:=Lib.hid hm1
   have Hm2:=Lib.hid hm2
   have Hm3:=Lib.hid hm3
   have Hv:=Lib.hid hv
   have Hnd:=Lib.hid hnd
   have Hmem:=Lib.hid hmem
   have Hsort:=Lib.hid hsort
   have Hkeys:=Lib.hid hkeys
   have Hw1:=Lib.hid hw1
   have Hmw1:=Lib.hid hmw1
   have HK_:=Lib.hid hK_
   have Hout:=Lib.hid hout
   clear hrg hl0 hg hm1 hm2 hm3 hv hnd hmem hsort hkeys hw1 hmw1 hK_ hout
   go_wp2_with fail
   refine Hkeys.out.mono ?_
   rintro e wx ⟨rfl,hwx⟩
   obtain rfl:=hwx.symm
   go_wp2_with fail
   refine Hsort.out.mono ?_
   rintro e w2 ⟨sv,rfl,hso,hsb,hm2w⟩
   obtain ⟨sa,sc,rfl, -⟩:=hso.shape
   rw [List.length_map] at hso⊢
   have hml2:=Hmw1.out.trans hm2w (fun _ _ h=>h)
   have hm02:=Hmr.out.trans hml2 (fun _ _ h=>h)
   have hrel1:AllRel w2 C K (outK M td) (.slice none 0 0) (.int .i64 ((0:Nat):Int)) w2:=⟨0,[],none,0,rfl,Nat.zero_le _,Nat.le_refl _,rfl,rfl,OwnSl.nil _ _ _,fun k hk=>by simp [Value.ownBlock] at hk,fun f hf=>(by cases hf),Mod.refl _ _⟩
   have Hso:=Lib.hid hso
   have Hsb:=Lib.hid hsb
   have Hm2w:=Lib.hid hm2w
   have Hml2:=Lib.hid hml2
   have Hm02:=Lib.hid hm02
   have Hrel1:=Lib.hid hrel1
   clear hso hsb hm2w hml2 hm02 hrel1
   go_wp2_with fail
   go_loopw [8,32] (fun ov i wr=>AllRel w2 C K (outK M td) ov i wr) (fun _ i _=>K.length - (intOf i).toNat)
   case atStart=>exact Hrel1.out
   case round=>
    revert wr
    intro wr hrel
    obtain ⟨j,l,oa,oc,rfl,hj,hlj,rfl,hlq,hown,hob,hfc,hmr2⟩:=hrel
    have hm0r:=Hm02.out.trans hmr2 (fun _ _ h=>h)
    have hmlr:=Hml2.out.trans hmr2 (fun _ _ h=>h)
    by_cases hlt:j<K.length
    ·have hlt':(j:Int)<K.length:=by omega
     obtain ⟨k,hkj⟩:∃k,K[j]? =some k:=⟨_,List.getElem?_eq_getElem hlt⟩
     have hkm:=List.mem_of_getElem? hkj
     have hks:=(Hmem.out k).1 hkm
     have hvr:=fun x=>(Hv.out x).mod hmlr (fun _ _ h=>h.elim)
     obtain ⟨fr,hfv,hfq,hfr⟩:=fil_fr (hvr k) (fun h=>by have h1:=(Hv.out k).some;rw [hks,h] at h1;cases h1)
     obtain ⟨hqk,y0,hy0,hqm⟩:=allF_some hfq
     have hwfq:∀x q,allF M td x=some q→okQ q:=fun x q hq=>by
      obtain ⟨-,y, -,h2⟩:=allF_some hq
      exact ⟨(H.out.wf _ h2).2.1,(H.out.wf _ h2).2.2,H.out.sc _ h2⟩
     have hkw:k.length≤maxLen:=by
      have h3:=hwfq k _ hfq
      have h4:=filPrt_len fr.fil.1 fr.fil.2 h3.2.1
      rw [show filPrt fr.fil.1 fr.fil.2=k from hqk] at h4
      have h5:=h3.1
      have h6:=h3.2.2
      unfold maxLen
      omega
     have hmr1:=Hm1.out.mod hmlr (fun h=>h)
     have hcv:=covered_at wr own C w.heap.size nm fm (allF M td) hmr1 hvr hwfq k hkw fr.fil hfq K (fun x=>by rw [Hmem.out x,(Hv.out x).some])
     obtain ⟨B,hB2⟩:∃B,covdF (allF M td) K k fr.fil=B:=⟨_,rfl⟩
     rw [hB2] at hcv
     have hoK:outK M td k=if B=true then none else some fr.fil:=by
      unfold outK
      rw [hfq,HK_.out,←hB2]
      cases hc:covdF (allF M td) K k fr.fil<;>simp [hc]
     obtain ⟨g2,off,rfl,ck⟩:=rd_one (Hso.out.rd.mod hmr2 (fun _ _ h=>h)) hkj
     have ck':wr.cell? ⟨g2,off+j,none⟩=some (.string (str k)):=ck
     have Hkj:=Lib.hid hkj
     have Hkm:=Lib.hid hkm
     have Hks:=Lib.hid hks
     have Hvr:=Lib.hid hvr
     have Hfv:=Lib.hid hfv
     have Hfq:=Lib.hid hfq
     have Hfr:=Lib.hid hfr
     have Hqk:=Lib.hid hqk
     have Hqm:=Lib.hid hqm
     have Hwfq:=Lib.hid hwfq
     have Hmr1:=Lib.hid hmr1
     have Hcv:=Lib.hid hcv
     have HB2:=Lib.hid hB2
     have HoK:=Lib.hid hoK
     have Ck:=Lib.hid ck
     have Hown:=Lib.hid hown
     have Hob:=Lib.hid hob
     have Hfc:=Lib.hid hfc
     have Hmr2:=Lib.hid hmr2
     have Hm0r:=Lib.hid hm0r
     have Hmlr:=Lib.hid hmlr
     have Hlq:=Lib.hid hlq
     have Hkw:=Lib.hid hkw
     clear hkj hkm hks hvr hfv hfq hfr hqk hqm hwfq hmr1 hcv hB2 hoK ck hown hob hfc hmr2 hm0r hmlr hlq hkw
     go_wp2_with fail
     refine Hcv.out.mono ?_
     rintro e w4 ⟨rfl,hm4⟩
     have hm24:=Hmr2.out.trans hm4 (fun _ _ h=>h)
     have hm04:=Hm0r.out.trans hm4 (fun _ _ h=>h)
     have hml4:=Hmlr.out.trans hm4 (fun _ _ h=>h)
     have hown4:=Hown.out.mod hm4 (fun _ _ h=>h)
     have hfc4:∀f∈l,FrC w4 C f:=fun f hf=>(Hfc.out f hf).mod hm4 (fun _ _ h=>h.elim)
     cases B with
     | true=>
      have hnx:l.map Fr.fil=(K.take (j+1)).filterMap (outK M td):=by
       rw [List.take_add_one,Hkj.out,List.filterMap_append,←Hlq.out,Option.toList_some,List.filterMap_cons,HoK.out]
       simp
      have Hm4:=Lib.hid hm4
      have Hm24:=Lib.hid hm24
      have Hm04:=Lib.hid hm04
      have Hml4:=Lib.hid hml4
      have Hown4:=Lib.hid hown4
      have Hfc4:=Lib.hid hfc4
      have Hnx:=Lib.hid hnx
      clear hm4 hm24 hm04 hml4 hown4 hfc4 hnx
      go_wp2_with fail
      go_roundw
      case rel=>exact ⟨j+1,l,oa,oc,by go_num,hlt,by omega,rfl,Hnx.out,Hown4.out,Hob.out,Hfc4.out,Hm24.out⟩
      case measure=>simp [intOf];omega
     | false=>
      have hnx:(l++[fr]).map Fr.fil=(K.take (j+1)).filterMap (outK M td):=by
       rw [List.take_add_one,Hkj.out,List.filterMap_append,←Hlq.out,List.map_append,Option.toList_some]
       congr 1
       rw [List.filterMap_cons,HoK.out]
       rfl
      have hli:=(Hm1.out.mod hml4 (fun h=>h)).look keyed_s Tryz.underlying174 (zero_fil w4) (key_s k Hkw.out)
      rw [Hfv.out] at hli
      have hli':(Instr.lookup 174 (.map (some w.heap.size)) (.string (str k)) false).run Tryz.prog w4= .ok (.agg #[.string fr.sc,.slice fr.a fr.cs.length fr.c]) w4:=hli
      obtain ⟨wz,hwz,hmwz,hgwz,hzwz⟩:=allocE w4 (.cells #[.string fr.sc,.slice fr.a fr.cs.length fr.c] 33)
      have hrz:RdSl wz 2 (.slice (some ⟨w4.heap.size,0,none⟩) 1 1) 1 [.string fr.sc,.slice fr.a fr.cs.length fr.c]:=hwz▸RdSl.one w4 [.string fr.sc,.slice fr.a fr.cs.length fr.c] 33 rfl
      have hone:∀u∈([.string fr.sc,.slice fr.a fr.cs.length fr.c]:List Value),u.oneCell'=true:=fun u hu=>List.all_eq_true.1 (show ([.string fr.sc,.slice fr.a fr.cs.length fr.c]:List Value).all (·.oneCell')=true from rfl) u hu
      have hoz:=hown4.mod hmwz (fun _ _ h=>h)
      have hm2z:=hm24.trans hmwz (fun _ _ h=>h)
      have hfcz:∀f∈l++[fr],FrC wz C f:=fun f hf=>by
       rcases List.mem_append.1 hf with hf|hf
       ·exact (hfc4 f hf).mod hmwz (fun _ _ h=>h.elim)
       ·obtain rfl:f=fr:=by simpa using hf
        exact (Hfr.out.mod hm4 (fun _ _ h=>h.elim)).mod hmwz (fun _ _ h=>h.elim)
      have Hnx:=Lib.hid hnx
      have Hli:=Lib.hid hli
      have Hwz:=Lib.hid hwz
      have Hmwz:=Lib.hid hmwz
      have Hgwz:=Lib.hid hgwz
      have Hrz:=Lib.hid hrz
      have Hone:=Lib.hid hone
      have Hoz:=Lib.hid hoz
      have Hm2z:=Lib.hid hm2z
      have Hfcz:=Lib.hid hfcz
      have Hm4:=Lib.hid hm4
      have Hm24:=Lib.hid hm24
      have Hm04:=Lib.hid hm04
      have Hml4:=Lib.hid hml4
      have Hown4:=Lib.hid hown4
      have Hfc4:=Lib.hid hfc4
      clear hnx hli hwz hmwz hgwz hrz hone hoz hm2z hfcz hm4 hm24 hm04 hml4 hown4 hfc4 hzwz
      go_wp2_with (first|((with_reducible refine wpList_build_one_lit 89 (.tmp 43) ?_);refine ⟨33,2,Tryz.underlying89,by kernel_rfl,by kernel_rfl,by decide,by decide,[.string fr.sc,.slice fr.a fr.cs.length fr.c],rfl,rfl, ?_⟩;rw [Hwz.out])|((with_reducible refine wpList_append_lit (.tmp 40) (.tmp 44) 89 ?_);refine ⟨rfl,33,2,40,filsT,.slice oa l.length oc,l.length,l.flatMap Fr.cells,rfl,Hoz.out,_,1,[.string fr.sc,.slice fr.a fr.cs.length fr.c],rfl,Hrz.out,Hone.out,by omega,by unfold maxLen;omega, ?_⟩;intro ad cap5 w5 hA;have HA:=Lib.hid hA;clear hA)|fail)
      go_roundw
      case rel=>
       refine ⟨j+1,l++[fr],ad,cap5,by go_num,hlt,by rw [List.length_append,List.length_singleton];omega,by rw [List.length_append];rfl,Hnx.out, ?_, ?_,fun f hf=>(Hfcz.out f hf).mod HA.out.2.1 (fun k hk h=> ?_),Hm2z.out.upon HA.out.2.1 (fun k hk=> .inr (Hob.out k hk))⟩
       ·rw [List.length_append,List.flatMap_append];exact HA.out.1
       ·intro k hk
        rcases HA.out.2.2 with h3|⟨k',h3,h4⟩
        ·exact Hob.out k (h3▸hk)
        ·rw [h3] at hk
         cases hk
         have:=Hm2z.out.size
         omega
       ·intro hc
        have h1:=H.out.clow _ hc
        have h2:=Hob.out k h
        have h3:=Hm02.out.size
        omega
      case measure=>simp [intOf];omega
    ·obtain rfl:j=K.length:=by omega
     rw [List.take_length] at hlq
     have hOl:l.map Fr.fil=O:=by rw [Hout.out];exact hlq
     have Hlq:=Lib.hid hlq
     have Hown:=Lib.hid hown
     have Hob:=Lib.hid hob
     have Hfc:=Lib.hid hfc
     have Hmr2:=Lib.hid hmr2
     have Hm0r:=Lib.hid hm0r
     have Hmlr:=Lib.hid hmlr
     have HOl:=Lib.hid hOl
     clear hlq hown hob hfc hmr2 hm0r hmlr hOl
     go_wp2_with fail
     go_ret
     exact ⟨_,l,rfl,Hown.out,fun k hk=>Nat.le_trans Hm02.out.size (Hob.out k hk),HOl.out,Hfc.out,Hm0r.out⟩
  ·intro x c wu cnt' hkey hlk hfc hrg' hlt2 hmu hzu hen
   have h1:=Hf3.out x
   rw [hfc] at h1
   obtain ⟨mi,rfl,hmi,hmib,hmio,hKi⟩:=h1
   have hmlu:Mod (fun k=>k=wa.heap.size) wl wu:=hmu
   have hmw:Mod (fun _=>False) w wu:=Hmr.out.upon hmu (fun k hk=> .inr (by have h1:k=wa.heap.size:=hk;have:=Hmwa.out.size;omega))
   have hle:nn+N+N*cnt'≤N*N:=by
    have h1:N*(cnt'+1)≤N*cnt:=Nat.mul_le_mul_left _ hlt2
    rw [Nat.mul_add,Nat.mul_one] at h1
    omega
   have hgb:∀x' q,(x',q)∈M→x'≠td→x'≠x→(left (.int .i64 x')&& !(Lit.int .i64 x').sameKey (.int .i64 x))=false→(g (keyF q)).isSome=true:=fun x' q hm hx1 hx2 hl=>by
    rw [same_i] at hl
    have e2:(x'==x)=false:=by rw [beq_eq_false_iff_ne];exact hx2
    rw [e2,Bool.not_false,Bool.and_true] at hl
    exact HB.out x' q hm hx1 hl
   have hlow:∀k,C k→k<w.heap.size:=H.out.clow
   have hKu:KAt wu own C w.heap.size nn g:=HK.out.mod hmu (fun h=>by have h1:w.heap.size=wa.heap.size:=h;have:=Hz.out;omega) (fun k _ hk hc=>by have h1:k=wa.heap.size:=hk;have:=hlow k hc;have:=Hz.out;omega)
   by_cases hx:x=td
   ·have hB2:∀x' q,(x',q)∈M→x'≠td→(left (.int .i64 x')&& !(Lit.int .i64 x').sameKey (.int .i64 x))=false→(g (keyF q)).isSome=true:=fun x' q hm hx1 hl=>hgb x' q hm hx1 (fun e=>hx1 (e.trans hx)) hl
    have Hrg:=Lib.hid hrg
    have Hkey:=Lib.hid hkey
    have Hlk:=Lib.hid hlk
    have Hfc:=Lib.hid hfc
    have Hrg':=Lib.hid hrg'
    have Hmu:=Lib.hid hmu
    have Hzu:=Lib.hid hzu
    have HKi:=Lib.hid hKi
    have Hmw:=Lib.hid hmw
    have Hmlu:=Lib.hid hmlu
    have HB2:=Lib.hid hB2
    have Hgb:=Lib.hid hgb
    have Hlow:=Lib.hid hlow
    have HKu:=Lib.hid hKu
    clear hrg hkey hlk hfc hrg' hmu hzu hKi hmw hmlu hB2 hgb hlow hKu
    go_wp2_with fail
    go_roundw
    case rel=>exact ⟨_,cnt',nn,g,HKu.out,by have:=Nat.mul_le_mul_left N (Nat.le_of_lt hlt2);omega,Hrg'.out,HA.out,HB2.out,Hmw.out⟩
    case measure=>rw [Hrg'.out.left_eq,Hrg.out.left_eq];exact hlt2
   ·obtain ⟨ni,fi,hi1,hi2,hi3⟩:=hKi
    have hmiw:=hi1.lt
    have hcp:=mcopy_at wu own C w.heap.size mi nn ni g (tabF M x) fi hKu (hi1.mod hmw (fun h=>h)) (fun k=>(hi3 k).mod hmw (fun _ _ h=>h.elim)) (by omega) (fun h=>Nat.lt_irrefl _ (hlow _ h)) (fun k hk=>Nat.lt_of_lt_of_le (hlow k hk) hmw.size) (by omega)
    have hA2:∀k q,(tabF M x k).or (g k)=some q→∃y,y≠td∧(y,q)∈M∧keyF q=k:=fun k q hq=>by
     cases ht:tabF M x k with
     |none=>rw [ht] at hq;exact HA.out k q hq
     |some r=>
      rw [ht] at hq
      cases hq
      exact ⟨x,hx,(tabF_some ht).1,(tabF_some ht).2⟩
    have hB2:∀x' q,(x',q)∈M→x'≠td→(left (.int .i64 x')&& !(Lit.int .i64 x').sameKey (.int .i64 x))=false→((tabF M x (keyF q)).or (g (keyF q))).isSome=true:=fun x' q hm hx1 hl=>by
     by_cases e:x'=x
     ·subst e
      rw [tabF_mem H.out.nd hm]
      rfl
     ·rw [Option.isSome_or,hgb x' q hm hx1 e hl,Bool.or_true]
    have Hrg:=Lib.hid hrg
    have Hkey:=Lib.hid hkey
    have Hlk:=Lib.hid hlk
    have Hfc:=Lib.hid hfc
    have Hrg':=Lib.hid hrg'
    have Hmu:=Lib.hid hmu
    have Hzu:=Lib.hid hzu
    have Hmw:=Lib.hid hmw
    have Hmlu:=Lib.hid hmlu
    have HB2:=Lib.hid hB2
    have HA2:=Lib.hid hA2
    have Hgb:=Lib.hid hgb
    have Hlow:=Lib.hid hlow
    have HKu:=Lib.hid hKu
    have Hcp:=Lib.hid hcp
    have Hi1:=Lib.hid hi1
    have Hi2:=Lib.hid hi2
    have Hi3:=Lib.hid hi3
    clear hrg hkey hlk hfc hrg' hmu hzu hmw hmlu hB2 hA2 hgb hlow hKu hcp hi1 hi2 hi3
    go_wp2_with fail
    refine Hcp.out.mono ?_
    rintro e w5 ⟨rfl,hK5,hm5⟩
    have hm05:=Hmw.out.upon hm5 (fun k hk=> .inr (Nat.le_of_eq (Eq.symm hk)))
    have hrg5:=Hrg'.out.mod hm5 (fun h=>by have h1:mo=w.heap.size:=h;omega) (fun h=>by have h1:wa.heap.size=w.heap.size:=h;have:=Hz.out;omega)
    have HK5:=Lib.hid hK5
    have Hm5:=Lib.hid hm5
    have Hm05:=Lib.hid hm05
    have Hrg5:=Lib.hid hrg5
    clear hK5 hm5 hm05 hrg5
    go_wp2_with fail
    go_roundw
    case rel=>exact ⟨_,cnt',nn+ni,_,HK5.out,by have:=Hi2.out;omega,Hrg5.out,HA2.out,HB2.out,Hm05.out⟩
    case measure=>rw [Hrg5.out.left_eq,Hrg.out.left_eq];exact hlt2
end
end Go.Proofs.YtaenebdppkjhoaaGreatDoor
