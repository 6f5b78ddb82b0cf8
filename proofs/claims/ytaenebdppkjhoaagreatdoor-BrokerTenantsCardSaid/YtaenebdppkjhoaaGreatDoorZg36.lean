/- Lemmas. -/
import Derived.Test.YtaenebdppkjhoaaGreatDoorZg33
import Derived.Test.YtaenebdppkjhoaaGreatDoorZg31
namespace Go.Proofs.YtaenebdppkjhoaaGreatDoor
set_option maxRecDepth 20000
set_option maxHeartbeats 40000000
section
open Go.ChangeShapes Go.WideShapes Go.ChangeAt Go.RowKit
section
variable {H:Type} {enc:TypeId×Value->H} {W:World}
theorem a9t {fuel:Nat} {cs:List Value} {x:DataW H×List MemPlace} (h:DataW.trod enc Tryz.prog W 0 (fun _=>true) true fuel 70 cs=some x) (hw:∀n∈DataW.weights Tryz.prog 70 x.1,n<=reachBytes):∃c:Att,cs=c.cells/\c.name.size<=reachBytes/\c.v.inn:=by
 obtain ⟨xs,n1, -,hxd,hlen,hxs,hf⟩:=DataW.trod_struct Tryz.underlying70 h;rw [show Tryz.prog.cellsOf 70=6 by kernel_rfl] at hlen
 have hx:∀i,i<2->∃y,xs[i]? =some y:=fun i hi=>by
  simp at hxs;exact ⟨_,zz5 (by omega)⟩
 rw [hxd] at hw;have hw:∀n∈DataW.weights Tryz.prog 70 (.agg (xs.map (·.1)):DataW H),n<=reachBytes:=hw
 match cs,hlen with
 |[c0,c1,c2,c3,c4,c5],_=>
  obtain ⟨y0,h0⟩:=hx 0 (by omega);have f0:DataW.trod enc Tryz.prog W 0 (fun _=>true) true n1 9 (([c0,c1,c2,c3,c4,c5].drop 0).take (Tryz.prog.cellsOf 9))=xs[0]? :=hf 0 _ rfl;rw [h0,show Tryz.prog.cellsOf 9=1 by kernel_rfl] at f0;obtain ⟨z0,e0,u0, -⟩:=DataW.trod_string Tryz.underlying9 f0;have e0:[c0]=[.string z0]:=e0;have g0:z0.size<=reachBytes:=hw _ (o4 Tryz.underlying70 (i:=0) (t:=9) rfl (by rw [List.getElem?_map,h0];rfl) (by rw [u0];simp [DataW.weights]));obtain ⟨y1,h1⟩:=hx 1 (by omega);have f1:DataW.trod enc Tryz.prog W 0 (fun _=>true) true n1 68 (([c0,c1,c2,c3,c4,c5].drop 1).take (Tryz.prog.cellsOf 68))=xs[1]? :=hf 1 _ rfl;rw [h1,show Tryz.prog.cellsOf 68=5 by kernel_rfl] at f1;obtain ⟨z1,e1,g1⟩:=a3Z f1 (fun n hn=>hw n (o4 Tryz.underlying70 (i:=1) (t:=68) rfl (by rw [List.getElem?_map,h1];rfl) hn));have e1:[c1,c2,c3,c4,c5]=[.int .i64 z1.kind,.int .i64 z1.int,.float .f64 z1.num,.string z1.text,.bool z1.yes]:=e1;cases e0
  cases e1
  exact ⟨⟨z0,z1⟩,rfl,g0,g1⟩
theorem b1m {base:Nat} {v:Value} {d:DataW H} {p:List MemPlace} (hok:Value.okWide Tryz.prog W .any base 46 v)
 (h:DataW.Trod enc Tryz.prog W 0 (fun _=>true) true 46 v d p) (hw:∀n∈DataW.weights Tryz.prog 46 d,n<=reachBytes):
 ∃(sc:ByteArray) (av:Value) (l:List Att),v= .agg #[.string sc,av]/\sc.size<=maxLen/\j0 W 6 av l.length (j7 l)/\l.length<=maxLen/\∀x∈l,x.name.size<=reachBytes/\x.v.inn:=by
 obtain ⟨c0,c1,y0,y1,m,rfl,rfl,rfl,hy0,hy1⟩:=Joins.open_agg2 Tryz.underlying46 (by kernel_rfl) (by kernel_rfl) hok h;obtain ⟨sc,e0, -,l0⟩:=DataW.trod_string Tryz.underlying9 hy0;cases e0
 obtain ⟨l,h1,h2,h3⟩:=a0f (W:=W) (v:=c1) (sz:=6) Att.cells Att.cells_length (by decide) Tryz.underlying44 (by kernel_rfl) ⟨⟨#[]⟩,V.zero⟩ (fun x=>x.name.size<=reachBytes/\x.v.inn) (fun _ _ _ h hw=>a9t h hw) hy1 (fun n hn=>hw n (o4 Tryz.underlying46 (i:=1) (t:=44) rfl rfl hn));exact ⟨sc,c1,l,rfl,l0,h1,h2,h3⟩
end
end
section
open Go.RowKit
theorem a7k (M:List (Int×Fil)) (near:List Int) (n:Int) (G:Int->List Fil):C6 M (near++[n]) G=S6 (C6 M near G) n (x6 M n):=by
 induction near generalizing G with
 |nil=>rfl
 |cons a near ih=>exact ih _
theorem a7l (M:List (Int×Fil)) (ten:Int) (near:List Int) (n:Int) (G:Int->List Fil):q9 M ten (near++[n]) G=q9 M ten near G++I5 n ten (C6 M near G n) (x6 M n):=by
 induction near generalizing G with
 |nil=>simp [q9,C6]
 |cons a near ih=>
  show I5 a ten (G a) (x6 M a)++q9 M ten (near++[n]) (S6 G a (x6 M a))=(I5 a ten (G a) (x6 M a)++q9 M ten near (S6 G a (x6 M a)))++_;rw [ih,zz12];rfl
theorem b4g {l:List Fil} (h:l.Pairwise fun a b=>i6 a<i6 b) {i:Nat} {f:Fil} (hi:l[i]? =some f):kF l (i6 f)=some f:=by
 unfold kF
 induction l generalizing i with
 |nil=>cases hi
 | cons a l ih=>
  rw [List.pairwise_cons] at h
  cases i with
  |zero=>
   cases hi
   rw [List.find?_cons];simp
  | succ i=>
   have hi':l[i]? =some f:=hi;have h1:=h.1 f (zz8 hi');rw [List.find?_cons]
   have hne:(i6 a==i6 f)=false:=by
    rw [beq_eq_false_iff_ne];intro e;rw [e] at h1;exact absurd h1 (List.lt_irrefl _)
   rw [hne];exact ih h.2 hi'
theorem a3m {a b:List Fil} {j:Nat} {f:Fil} (h:a[j]? =some f):C5 (a.take (j+1)) b=C5 (a.take j) b++if (kF b (i6 f)).isNone then [f] else []:=by
 unfold C5;rw [List.take_add_one,h,Option.toList_some,List.filter_append];congr 1;cases hk:(kF b (i6 f)).isNone<;>simp [hk]
theorem b3q (w0 w:World) (hl:J3 w0 w) (sc:ByteArray) (cv:Value) (l:List Cnd) (hv:j0 w 7 cv l.length (l6 l)) (hll:l.length<20) (hcs:∀c∈l,c.fits) (hsc:sc.size<=1000000):
 Calls Tryz.prog 98 #[.agg #[.string sc,cv]] w fun e w'=>e= .returned (.string (str (i6 (sc,j2 l))))/\Mod (fun _=>False) w w':=by
 obtain ⟨wa,hwa,hmwa,hgwa,hzwa⟩:=e8 w (.cells #[.string sc,cv] 33);have hnm:=a0h w0 wa (hl.mod0 hmwa) sc cv l (hv.mod hmwa (fun _ _ h=>h)) hll hcs;have c0:wa.cell? ⟨w.heap.size,0,none⟩=some (.string sc):=d6 hgwa rfl;have c1:wa.cell? ⟨w.heap.size,1,none⟩=some cv:=d6 hgwa rfl;obtain ⟨nl,hnl⟩:∃nl,j2 l=nl:=⟨_,rfl⟩;rw [hnl] at hnm⊢;have hnf:∀c∈nl,c.fits:=by rw [<-hnl];exact F0 hcs
 have hlen:nl.length<20:=by rw [<-hnl];exact Nat.lt_of_le_of_lt (G6 l) hll
 obtain ⟨Hl,Hv,Hcs,Hnm,Hnl,Hnf,Hwa,Hmwa,Hgwa⟩:=zh9 hl hv hcs hnm hnl hnf hwa hmwa hgwa;clear hl hv hcs hnm hnl hnf hwa hmwa hgwa hzwa
 go_enter Tryz.func98,Tryz.ntmps98
 go_wp2_with (first|(rw [show w.alloc _=wa from Hwa.out])|fail)
 refine Hnm.out.mono ?_;rintro e w2 ⟨na,nc,rfl,hno,hnb,hm2⟩;have hm02:=Hmwa.out.trans hm2 (fun _ _ h=>h);have hpr:=T5 w0 w2 (Hl.out.mod0 hm02) sc (.slice na nl.length nc) nl hno.rd (by omega) hsc Hnf.out;obtain ⟨Hno,Hnb,Hm2,Hm02,Hpr⟩:=zh5 hno hnb hm2 hm02 hpr;clear hno hnb hm2 hm02 hpr
 go_wp2_with fail
 refine Hpr.out.mono ?_;rintro e w3 ⟨rfl,hm3⟩;have hm:=Hm02.out.trans hm3 (fun _ _ h=>h);have Hm:=zh hm;clear hm
 go_wp2_with fail
 go_ret;exact ⟨rfl,Hm.out⟩
theorem b3r {w w6:World} {own C:Nat->Prop} {mi N n6:Nat} {g g':List UInt8->Option Fil} {fi:Lit->Option Value} {key:List UInt8} (h3:∀k,A7 w own C (fi (.string k)) (g k))
 (h6:l8 w6 9 mi n6 (a2k fi (.string key))) (hn:n6<=N) (hm:Mod (fun k=>k=mi) w w6) (hmi:¬C mi) (hg:∀k,g' k=if k=key then none else g k):KAt w6 own C mi N g':=by
 refine ⟨_,_,h6,hn,fun k=> ?_⟩;rw [hg];unfold a2k;by_cases e:k=key
 ·rw [if_pos e,if_pos (by rw [e])];trivial
 rw [if_neg e,if_neg (fun h=>e (Lit.string.inj h))];exact (h3 k).mod2 hm (fun k _ e h=>hmi (e▸h))
theorem a3n {M:List (Int×Fil)} {p:Int×Fil} {id:Int} {k:List UInt8} (h:p∈a3h M id k):p∈M:=(List.mem_filter.1 h).1
theorem b3s {w w8:World} {b mo mi N n:Nat} {own C:Nat->Prop} {M:List (Int×Fil)} {f:Lit->Option Value} {id:Int} {key:List UInt8} (h:X2 w b mo own C M N) (hO:l8 w 3 mo n f) (hn:n<=N)
 (hf1:∀id:Int,a2l w own C b mo N (o8 M id) (f (.int .i64 id))) (hf2:∀(x y:Int) mi,f (.int .i64 x)=some (.map (some mi))->f (.int .i64 y)=some (.map (some mi))->x=y)
 (hfid:f (.int .i64 id)=some (.map (some mi))) (hmi:own mi/\mi≠b/\mi≠mo) (hK:KAt w8 own C mi N (o8 (a3h M id key) id)) (hm:Mod (fun k=>k=mi) w w8):X2 w8 b mo own C (a3h M id key) N:=by
 refine ⟨hm.heap h.row (fun e=>hmi.2.1 e.symm),h.ob,h.ne,⟨n,f,hO.mod hm (fun e=>hmi.2.2 e.symm),hn,fun x=> ?_,hf2⟩,h.nd.sublist List.filter_sublist,Nat.le_trans (List.length_filter_le _ _) h.low,h.dis,fun k hk=>zz13 (h.olow k hk) hm.size,fun k hk=>zz13 (h.clow k hk) hm.size,fun p hp=>h.wf p (a3n hp),fun p hp=>h.sc p (a3n hp)⟩;by_cases e:x=id
 ·subst e;rw [hfid];exact ⟨mi,rfl,hmi.1,hmi.2.1,hmi.2.2,hK⟩
 have h1:=(hf1 x).mod hm (fun m hm' hf=>e (hf2 x id mi (by rw [hm',hf]) hfid)) (fun k hk hf hc=>h.dis k (hf▸hmi.1) hc);exact h1.cong (fun k _ _ h=>h) (fun _ h=>h) (fun _ h=>h) (Nat.le_refl _) (fun k=>by rw [a5B,if_neg (fun h=>e h.1)])
def b1n (w:World) (b:Nat) (own C:Nat->Prop) (M:List (Int×Fil)) (N:Nat) (id:Int) (k:List UInt8) (e:Ending) (w':World):Prop:=
 (o8 M id k=none/\e= .returned (.bool false)/\Mod (fun _=>False) w w')\/(o8 M id k≠none/\e= .returned (.bool true)/\Tab w' b own C (a3h M id k) N/\Mod own w w')
theorem b3t (w0 w:World) (hl:J3 w0 w) (b:Nat) (own C:Nat->Prop) (M:List (Int×Fil)) (N:Nat) (h:Tab w b own C M N) (_hN:N<=100000) (id:Int) (hid:(Lit.int .i64 id).wf=true)
 (sc:ByteArray) (cv:Value) (l:List Cnd) (hv:j0 w 7 cv l.length (l6 l)) (hll:l.length<20) (hcs:∀c∈l,c.fits) (hsc:sc.size<=1000000):
 Calls Tryz.prog 60 #[.pointer (some ⟨b,0,none⟩),.int .i64 id,.agg #[.string sc,cv]] w (b1n w b own C M N id (i6 (sc,j2 l))):=by
 obtain ⟨mo,h⟩:=h;obtain ⟨a,cap,rfl,hcap⟩:∃a c,cv= .slice a l.length c/\l.length<=c:=by obtain ⟨-,a,c,h,h2, -⟩:=hv;exact ⟨a,c,h,h2⟩
 obtain ⟨wa,hwa,hmwa,hgwa,hzwa⟩:=e8 w (.cells #[.string sc,.slice a l.length cap] 33);have hk:=b3q w0 wa (hl.mod0 hmwa) sc (.slice a l.length cap) l (hv.mod hmwa (fun _ _ h=>h)) hll hcs hsc;have hkl0:=E9 sc (j2 l) (F0 hcs);have hnlen:(j2 l).length<20:=Nat.lt_of_le_of_lt (G6 l) hll;obtain ⟨key,hkey⟩:∃key,i6 (sc,j2 l)=key:=⟨_,rfl⟩;rw [hkey] at hk⊢;have hkl:key.length<=1000000000:=by rw [show p9 sc (j2 l)=key from hkey] at hkl0;omega
 have c0:wa.cell? ⟨w.heap.size,0,none⟩=some (.string sc):=d6 hgwa rfl;have c1:wa.cell? ⟨w.heap.size,1,none⟩=some (.slice a l.length cap):=d6 hgwa rfl;obtain ⟨Hl,H,Hv,Hcs,Hwa,Hmwa,Hgwa,Hk,Hid,Hkey⟩:=zh10 hl h hv hcs hwa hmwa hgwa hk hid hkey;clear hl h hv hcs hwa hmwa hgwa hk hid hkey hzwa hkl0
 go_enter Tryz.func60,Tryz.ntmps60
 go_wp2_with (first|(rw [show w.alloc _=wa from Hwa.out])|fail)
 refine Hk.out.mono ?_;rintro e w4 ⟨rfl,hm4⟩;have hm04:=Hmwa.out.trans hm4 (fun _ _ h=>h);have ht4:=H.out.mod hm04 (fun _ _ h=>h.elim);obtain ⟨n,f,hf1,hf2,hf3,hf4⟩:=ht4.om;have hlk:=hf1.look m7 Tryz.underlying57 (N4 w4) (Maps.keyOf_int_mk Tryz.underlying3 Hid.out);obtain ⟨s,fa,fn,fc,hlk2⟩:=a8q (hf3 id) key (by unfold maxLen;omega);obtain ⟨ok,hok⟩:∃ok,(o8 M id key).isSome=ok:=⟨_,rfl⟩;rw [hok] at hlk2;have b0:w4.cell? ⟨b,0,none⟩=some (.map (some mo)):=d6 ht4.row rfl;obtain ⟨w5,hw5,hmw5,hgw5,hzw5⟩:=e8 w4 (.cells #[.string s,.slice fa fn fc] 33);have ht5:=ht4.mod hmw5 (fun _ _ h=>h.elim);have b5:w5.cell? ⟨b,0,none⟩=some (.map (some mo)):=d6 ht5.row rfl;have hv5:=fun x=>(hf3 x).mod hmw5 (fun _ _ h=>h) (fun _ _ h=>h.elim);have ho5:=hf1.mod hmw5 (fun h=>h);have hlk5:=ho5.look m7 Tryz.underlying57 (N4 w5) (Maps.keyOf_int_mk Tryz.underlying3 Hid.out);have hval:=(hv5 id).val;obtain ⟨vv,hvv⟩:∃vv,(f (.int .i64 id)).getD (.map none)=vv:=⟨_,rfl⟩;rw [hvv] at hlk hlk2 hlk5 hval;have hm05:=hm04.trans hmw5 (fun _ _ h=>h);obtain ⟨Ht5,Hv5,Ho5,Hval,Hvv,Hm05,Ht4,Hf1,Hf2,Hf3,Hf4,Hm4⟩:=zh12 ht5 hv5 ho5 hval hvv hm05 ht4 hf1 hf2 hf3 hf4 hm4;obtain ⟨Hm04,Hmw5,Hgw5,Hw5,Hok⟩:=zh5 hm04 hmw5 hgw5 hw5 hok;clear ht5 hv5 ho5 hval hvv hm05 ht4 hf1 hf2 hf3 hf4 hm4 hm04 hmw5 hgw5 hw5 hok hzw5 c0 c1
 cases ok with
 |false=>
  go_wp2_with (first|((with_reducible refine d8 33 (.tmp 8) (.tmp 21) ?_);refine ⟨rfl,[.string s,.slice fa fn fc],rfl,rfl,by kernel_rfl,rfl, ?_⟩;rw [Hw5.out])|fail)
  go_ret;refine .inl ⟨?_,rfl,Hm05.out⟩;have h1:=Hok.out
  cases h2:o8 M id key with
  |none=>rfl
  |some q=>rw [h2] at h1;cases h1
 | true=>
  have hqn:o8 M id key≠none:=fun h=>by have h1:=Hok.out;rw [h] at h1;cases h1
  rcases Hval.out with ⟨-, -,hgn⟩|⟨mi,hfn,rfl,homi,hmib,hmio,hKA⟩
  ·exact absurd (hgn key) hqn
  obtain ⟨ni,fi,hi1,hi2,hi3⟩:=hKA;obtain ⟨w8,hd1,hd2,hd3⟩:=hi1.del o6 Tryz.underlying174 (R5 key (by unfold maxLen;omega)) 0;have hK8:KAt w8 own C mi N (o8 (a3h M id key) id):=b3r hi3 hd2 (by split<;>omega) hd3 (H.out.dis _ homi) (fun k=>by rw [a5B];simp);have hT:=b3s Ht5.out Ho5.out Hf2.out Hv5.out Hf4.out hfn ⟨homi,hmib,hmio⟩ hK8 hd3
  have hm08:Mod own w w8:=(Hm05.out.mono (fun _ _ h=>h.elim)).trans hd3 (fun k hk h=>by
   have h2:k=mi:=h
   rw [h2];exact homi)
  obtain ⟨Hqn,Hfn,Homi,Hi1,Hi2,Hi3,Hd2,Hd3,HK8,HT,Hm08⟩:=zh11 hqn hfn homi hi1 hi2 hi3 hd2 hd3 hK8 hT hm08;clear hqn hfn homi hi1 hi2 hi3 hd2 hd3 hK8 hT hm08
  go_wp2_with (first|((with_reducible refine d8 33 (.tmp 8) (.tmp 21) ?_);refine ⟨rfl,[.string s,.slice fa fn fc],rfl,rfl,by kernel_rfl,rfl, ?_⟩;rw [Hw5.out])|fail)
  go_ret;exact .inr ⟨Hqn.out,rfl,⟨mo,HT.out⟩,Hm08.out⟩
structure Fr where
 sc:ByteArray
 a:Option Addr
 c:Nat
 cs:List Cnd
def Fr.cells (f:Fr):List Value:=[.string f.sc,.slice f.a f.cs.length f.c]
def Fr.fil (f:Fr):Fil:=(f.sc,f.cs)
structure b1o (w:World) (v:Value) (l:List Fr):Prop where
 rd:j0 w 2 v l.length (l.flatMap Fr.cells)
 cs:∀f∈l,j0 w 7 (.slice f.a f.cs.length f.c) f.cs.length (l6 f.cs)
 sc:∀f∈l,f.sc.size<=9223372036854775807/\f.cs.length<=9223372036854775807
 nm:∀f∈l,∀c∈f.cs,c.name.size<=9223372036854775807/\(-9223372036854775808<=c.v.int/\c.v.int<=9223372036854775807)/\c.v.num<2^64
theorem b1o.mod {w w':World} {v:Value} {l:List Fr} (h:b1o w v l) (hm:Mod (fun _=>False) w w'):b1o w' v l:=⟨h.rd.mod hm (fun _ _ h=>h),fun f hf=>(h.cs f hf).mod hm (fun _ _ h=>h),h.sc,h.nm⟩
theorem b1p {n:Int} (h:0<=n/\n<=1000000):(Lit.int .i64 n).wf=true:=by
 simp only [Lit.wf,Bool.and_eq_true,decide_eq_true_eq];exact ⟨show (-9223372036854775808:Int)<=n by omega,show n<=(9223372036854775807:Int) by omega⟩
end
section
open Go.RowKit Go.Sort
theorem a1f (mb:Option Nat) (w:World):Calls Tryz.prog 97 #[.map mb] w fun e w'=>e= .returned (.func (.func 130) #[] #[.pointer (some ⟨w.heap.size,0,none⟩)])/\w'=w.alloc (.cells #[.map mb] 174):=
 Tryz.maps_Keys_97 mb w
theorem a0J {w:World} {b n:Nat} {f:Lit->Option Value} (h:l8 w 9 b n f) (hn:n<=1000000) {L:List (List UInt8)} (hnd:L.Nodup) (hm:∀x,x∈L↔(f (.string x)).isSome=true):
 Calls Tryz.prog 96 #[.func (.func 130) #[] #[.pointer (some ⟨w.heap.size,0,none⟩)]] (w.alloc (.cells #[.map (some b)] 174)) (O5 (w.alloc (.cells #[.map (some b)] 174)) 9 ((F9 L).map encStr)):=by
 obtain ⟨D,h1,h2,h3⟩:=h.keysS o6 Tryz.underlying9 hnd hm;refine (Tryz.slices_Sorted_97 b n D a2j w h1 (by rw [h3];unfold maxLen;omega) (by rw [h3];omega)).mono ?_;rintro e w' ⟨v,ss,rfl,hp,hrow, -,hb⟩;obtain ⟨r1,r2⟩:=a5w hrow;have hs:ss.mergeSort (fun x y=>decide (x<=y))=F9 L:=mergeSort_of_perm (hp.trans h2.symm);have hl:ss.length=(F9 L).length:=by rw [<-hs,List.length_mergeSort]
 rw [hs,hl] at r1;exact ⟨v,rfl,by rw [zz10];exact r1,r2,⟨hb.os,hb.tape,hb.output,hb.size,fun k hk _=>hb.block k hk⟩⟩
theorem a18 (w:World):
 Calls Tryz.prog 96 #[.func (.func 130) #[] #[.pointer (some ⟨w.heap.size,0,none⟩)]] (w.alloc (.cells #[.map none] 174)) (O5 (w.alloc (.cells #[.map none] 174)) 9 []):=by
 refine (Tryz.slices_Sorted_nil_97 w).mono ?_;rintro e w' ⟨rfl,hb⟩;exact ⟨_,rfl,i7.nil _ _ _,fun k hk=>by simp [Value.ownBlock] at hk,⟨hb.os,hb.tape,hb.output,hb.size,fun k hk _=>hb.block k hk⟩⟩
theorem a4P {α:Type} {enc:α->Value} {w:World} {a:Option Addr} {n cap:Nat} {l:List α} {j:Nat} {x:α} (h:j0 w 1 (.slice a n cap) n (l.map enc)) (hx:l[j]? =some x):∃g off,a=some ⟨g,off,none⟩/\w.cell? ⟨g,off+j,none⟩=some (enc x):=by
 obtain ⟨h0,a',c',h1, -,h3,h4⟩:=h;cases h1
 have hj:=(zz6 hx).1;have hn:n=l.length:=by rw [zz10] at h0;omega
 cases a with
 |none=>exact absurd (h3 rfl) (by omega)
 |some ad=>
  obtain ⟨g,off,rfl,hc⟩:=h4 ad rfl (by omega);refine ⟨g,off,rfl,hc j (enc x) ?_⟩;rw [List.getElem?_map,hx];rfl
def FrC (w:World) (C:Nat->Prop) (f:Fr):Prop:=i7 w 132 7 (.slice f.a f.cs.length f.c) f.cs.length (l6 f.cs)/\∀k,(Value.slice f.a f.cs.length f.c).ownBlock=some k->k<w.heap.size/\C k
theorem FrC.mod {w w':World} {F C:Nat->Prop} {f:Fr} (h:FrC w C f) (hm:Mod F w w') (hF:∀k,k<w.heap.size->F k->¬C k):FrC w' C f:=⟨h.1.mod hm (fun k hk hf=>hF k (h.2 k hk).1 hf (h.2 k hk).2),fun k hk=>⟨zz13 (h.2 k hk).1 hm.size,(h.2 k hk).2⟩⟩
theorem a3o {w:World} {own C:Nat->Prop} {v:Option Value} {q:Option Fil} (h:A7 w own C v q) (hq:q≠none):∃f:Fr,v=some (.agg #[.string f.sc,.slice f.a f.cs.length f.c])/\q=some f.fil/\FrC w C f:=by
 cases v<;>cases q
 ·exact absurd rfl hq
 ·exact h.elim
 ·exact h.elim
 rename_i v q
 obtain ⟨a,cap,rfl,h2,h3⟩:=h;exact ⟨⟨q.1,a,cap,q.2⟩,rfl,rfl,h2,fun k hk=>⟨(h3 k hk).1,(h3 k hk).2.2⟩⟩
theorem b4h:D8 Tryz.prog 89 33 2 40:=O4 (by kernel_rfl) (by kernel_rfl)
def a0B (M:List (Int×Fil)) (id:Int):List (List UInt8):=(M.filter fun p=>p.1==id).map fun p=>i6 p.2
theorem a1P {M:List (Int×Fil)} {id:Int} {k:List UInt8}:k∈a0B M id↔(o8 M id k).isSome=true:=by
 unfold a0B;constructor
 ·intro h;obtain ⟨p,h0,rfl⟩:=List.mem_map.1 h;obtain ⟨h1,h2⟩:=List.mem_filter.1 h0
  cases hf:o8 M id (i6 p.2) with
  |some q=>rfl
  |none=>
   obtain ⟨x,q⟩:=p;have e:x=id:=by simpa using h2
   subst e;exact absurd rfl (a1J hf q h1)
 intro h
 cases hf:o8 M id k with
 |none=>rw [hf] at h;cases h
 |some q=>
  obtain ⟨h1,h2⟩:=T7 hf;exact List.mem_map.2 ⟨(id,q),List.mem_filter.2 ⟨h1,by simp⟩,h2⟩
theorem a5S {M:List (Int×Fil)} (h:M.Pairwise fun p q=>¬(p.1=q.1/\i6 p.2=i6 q.2)) (id:Int):(a0B M id).Nodup:=by
 unfold a0B;refine List.pairwise_map.2 ((h.filter _).imp_of_mem fun {a b} ha hb h e=>h ⟨?_,e⟩);have h1:=(List.mem_filter.1 ha).2;have h2:=(List.mem_filter.1 hb).2;simp only [beq_iff_eq] at h1 h2;rw [h1,h2]
theorem a4k (M:List (Int×Fil)) (id:Int):(a0B M id).length<=M.length:=by
 unfold a0B;rw [zz10];exact List.length_filter_le _ _
def a3N (M:List (Int×Fil)) (id:Int):List Fil:=(F9 (a0B M id)).filterMap (o8 M id)
def a5T (w:World) (C:Nat->Prop) (L:List Fil) (e:Ending) (w':World):Prop:=
 ∃v,∃l:List Fr,e= .returned v/\i7 w' 33 2 v l.length (l.flatMap Fr.cells)/\(∀k,v.ownBlock=some k->w.heap.size<=k)/\l.map Fr.fil=L/\(∀f∈l,FrC w' C f)/\Mod (fun _=>False) w w'
def a4Q (w1:World) (C:Nat->Prop) (K:List (List UInt8)) (g:List UInt8->Option Fil) (ov iv:Value) (wr:World):Prop:=
 ∃(j:Nat) (l:List Fr) (oa:Option Addr) (oc:Nat),iv= .int .i64 j/\j<=K.length/\l.length<=j/\ov= .slice oa l.length oc/\l.map Fr.fil=(K.take j).filterMap g/\i7 wr 33 2 ov l.length (l.flatMap Fr.cells)/\(∀k,ov.ownBlock=some k->w1.heap.size<=k)/\(∀f∈l,FrC wr C f)/\Mod (fun _=>False) w1 wr
theorem b3u (w:World) (b:Nat) (own C:Nat->Prop) (M:List (Int×Fil)) (N:Nat) (h:Tab w b own C M N) (hN:N<=100000) (id:Int) (hid:(Lit.int .i64 id).wf=true):
 Calls Tryz.prog 64 #[.pointer (some ⟨b,0,none⟩),.int .i64 id] w (a5T w C (a3N M id)):=by
 obtain ⟨mo,h⟩:=h;have b0:w.cell? ⟨b,0,none⟩=some (.map (some mo)):=d6 h.row rfl;obtain ⟨n,f,hf1,hf2,hf3,hf4⟩:=h.om;have hkx:=Maps.keyOf_int_mk Tryz.underlying3 hid;have hlk:=hf1.look m7 Tryz.underlying57 (N4 w) hkx;have hval:=(hf3 id).val;obtain ⟨vv,hvv⟩:∃vv,(f (.int .i64 id)).getD (.map none)=vv:=⟨_,rfl⟩;rw [hvv] at hlk hval
 obtain ⟨mb,rfl,hsort⟩:∃mb,vv= .map mb/\Calls Tryz.prog 96 #[.func (.func 130) #[] #[.pointer (some ⟨w.heap.size,0,none⟩)]] (w.alloc (.cells #[.map mb] 174)) (O5 (w.alloc (.cells #[.map mb] 174)) 9 ((F9 (a0B M id)).map encStr)):=by
  rcases hval with ⟨-,rfl,hg⟩|⟨mi, -,rfl, -, -, -,hKA⟩
  ·have e:a0B M id=[]:=List.eq_nil_iff_forall_not_mem.2 fun k hk=>by rw [a1P,hg k] at hk;cases hk
   refine ⟨none,rfl, ?_⟩;rw [e,show F9 []=[] from List.mergeSort_nil];exact a18 w
  obtain ⟨ni,fi,hi1,hi2,hi3⟩:=hKA;refine ⟨some mi,rfl,a0J hi1 (by omega) (a5S h.nd id) (fun k=> ?_)⟩;rw [a1P];have h3:=hi3 k;cases hk1:fi (.string k)<;>cases hk2:o8 M id k<;>rw [hk1,hk2] at h3
  ·exact Iff.rfl
  ·exact h3.elim
  ·exact h3.elim
  exact Iff.rfl
 have hkeys:=a1f mb w;obtain ⟨w1,hw1⟩:∃w1:World,w.alloc (.cells #[.map mb] 174)=w1:=⟨_,rfl⟩;have hm1:Mod (fun _=>False) w w1:=hw1▸(Mod.refl (fun _=>False) w).alloc _;rw [hw1] at hsort hkeys;obtain ⟨K,hK⟩:∃K,F9 (a0B M id)=K:=⟨_,rfl⟩
 have hKl:K.length<=100000:=by
  rw [<-hK];unfold F9;rw [List.length_mergeSort];exact Nat.le_trans (a4k M id) (Nat.le_trans h.low hN)
 have hKs:∀k∈K,(o8 M id k).isSome=true:=fun k hk=>by rw [<-hK,a1M] at hk;exact a1P.1 hk
 rw [hK] at hsort;unfold a3N;rw [hK];obtain ⟨H,Hf1,Hf2,Hf3,Hf4,Hkx,Hvv,Hval,Hsort,Hkeys,Hw1,Hm1⟩:=zh12 h hf1 hf2 hf3 hf4 hkx hvv hval hsort hkeys hw1 hm1;obtain ⟨HK,HKs⟩:=zh2 hK hKs;clear h hf1 hf2 hf3 hf4 hkx hvv hval hsort hkeys hw1 hm1 hK hKs
 go_enter Tryz.func64,Tryz.ntmps64
 go_wp2_with fail
 refine Hkeys.out.mono ?_;rintro e wx ⟨rfl,hwx⟩;obtain rfl:=hwx.symm
 go_wp2_with fail
 refine Hsort.out.mono ?_;rintro e w2 ⟨sv,rfl,hso,hsb,hm2⟩;obtain ⟨sa,sc,rfl, -⟩:=hso.shape;rw [zz10] at hso⊢;have hm02:=Hm1.out.trans hm2 (fun _ _ h=>h);have hrel0:a4Q w2 C K (o8 M id) (.slice none 0 0) (.int .i64 ((0:Nat):Int)) w2:=⟨0,[],none,0,rfl,Nat.zero_le _,Nat.le_refl _,rfl,rfl,i7.nil _ _ _,fun k hk=>by simp [Value.ownBlock] at hk,fun f hf=>(by cases hf),Mod.refl _ _⟩;obtain ⟨Hso,Hsb,Hm2,Hm02,Hrel0⟩:=zh5 hso hsb hm2 hm02 hrel0;clear hso hsb hm2 hm02 hrel0
 go_wp2_with fail
 go_loopw [5,17] (fun ov i wr=>a4Q w2 C K (o8 M id) ov i wr) (fun _ i _=>K.length - (intOf i).toNat)
 case atStart=>exact Hrel0.out
 case round=>
  revert wr;intro wr hrel;obtain ⟨j,l,oa,oc,rfl,hj,hlj,rfl,hlq,hown,hob,hfc,hmr⟩:=hrel;have hm0r:=Hm02.out.trans hmr (fun _ _ h=>h);by_cases hlt:j<K.length
  ·have hlt':(j:Int)<K.length:=by omega
   obtain ⟨k,hkj⟩:∃k,K[j]? =some k:=⟨_,zz5 hlt⟩;have hks:=HKs.out k (zz8 hkj)
   have hkw:k.length<=maxLen:=by
    cases hq:o8 M id k with
    |none=>rw [hq] at hks;cases hks
    |some q=>
     obtain ⟨h1,h2⟩:=T7 hq;have h3:=H.out.wf _ h1;have h4:=E9 q.1 q.2 h3.2.2;have h5:=H.out.sc _ h1;rw [show p9 q.1 q.2=k from h2] at h4;have h6:=h3.2.1;simp only [] at h6 h5;unfold maxLen;omega
   obtain ⟨g,off,rfl,ck⟩:=a4P (Hso.out.rd.mod hmr (fun _ _ h=>h)) hkj;have ck':wr.cell? ⟨g,off+j,none⟩=some (.string (str k)):=ck;have ht:=H.out.mod hm0r (fun _ _ h=>h.elim);have br:wr.cell? ⟨b,0,none⟩=some (.map (some mo)):=d6 ht.row rfl;have hv:=(Hf3.out id).mod hm0r (fun _ _ h=>h) (fun _ _ h=>h.elim);have hlr:=(Hf1.out.mod hm0r (fun h=>h)).look m7 Tryz.underlying57 (N4 wr) Hkx.out;rw [Hvv.out] at hlr;have hvl:=hv.val;rw [Hvv.out] at hvl;rcases hvl with ⟨-, -,hg⟩|⟨mi, -,hmb, -, -, -,ni,fi,hi1,hi2,hi3⟩
   ·rw [hg k] at hks;cases hks
   cases hmb
   obtain ⟨fr,hfv,hfq,hfr⟩:=a3o (hi3 k) (fun h=>by rw [h] at hks;cases hks);have hli:=hi1.look o6 Tryz.underlying174 (Go.Proofs.YtaenebdppkjhoaaGreatDoor.u4 wr) (R5 k hkw);rw [hfv] at hli;have hli':(Instr.lookup 174 (.map (some mi)) (.string (str k)) false).run Tryz.prog wr= .ok (.agg #[.string fr.sc,.slice fr.a fr.cs.length fr.c]) wr:=hli
   have hnx:(l++[fr]).map Fr.fil=(K.take (j+1)).filterMap (o8 M id):=by
    rw [List.take_add_one,hkj,List.filterMap_append,<-hlq,List.map_append,Option.toList_some];congr 1;rw [List.filterMap_cons,hfq];rfl
   obtain ⟨wz,hwz,hmwz,hgwz,hzwz⟩:=e8 wr (.cells #[.string fr.sc,.slice fr.a fr.cs.length fr.c] 33);have hrz:j0 wz 2 (.slice (some ⟨wr.heap.size,0,none⟩) 1 1) 1 [.string fr.sc,.slice fr.a fr.cs.length fr.c]:=hwz▸j0.one wr [.string fr.sc,.slice fr.a fr.cs.length fr.c] 33 rfl;have hone:∀u∈([.string fr.sc,.slice fr.a fr.cs.length fr.c]:List Value),u.oneCell'=true:=fun u hu=>zz15 (show ([.string fr.sc,.slice fr.a fr.cs.length fr.c]:List Value).all (·.oneCell')=true from rfl) u hu;have hoz:=hown.mod hmwz (fun _ _ h=>h);have hm2z:=hmr.trans hmwz (fun _ _ h=>h)
   have hfcz:∀f∈l++[fr],FrC wz C f:=fun f hf=>by
    rcases zz14 hf with hf|hf
    ·exact (hfc f hf).mod hmwz (fun _ _ h=>h.elim)
    obtain rfl:f=fr:=by simpa using hf
    exact hfr.mod hmwz (fun _ _ h=>h.elim)
   obtain ⟨Hkj,Hks,Ck,Ht,Hv,Hi1,Hi2,Hi3,Hfv,Hfq,Hfr,Hli⟩:=zh12 hkj hks ck ht hv hi1 hi2 hi3 hfv hfq hfr hli;obtain ⟨Hnx,Hwz,Hmwz,Hgwz,Hrz,Hone,Hoz,Hm2z,Hfcz,Hown,Hob,Hfc⟩:=zh12 hnx hwz hmwz hgwz hrz hone hoz hm2z hfcz hown hob hfc;obtain ⟨Hmr,Hm0r,Hlq,Hkw⟩:=zh4 hmr hm0r hlq hkw;clear hkj hks ck ht hv hi1 hi2 hi3 hfv hfq hfr hli hnx hwz hmwz hgwz hrz hone hoz hm2z hfcz hown hob hfc hmr hm0r hlq hkw hzwz
   go_wp2_with (first|((with_reducible refine A0 89 (.tmp 29) ?_);refine ⟨33,2,Tryz.underlying89,by kernel_rfl,by kernel_rfl,by decide,by decide,[.string fr.sc,.slice fr.a fr.cs.length fr.c],rfl,rfl, ?_⟩;rw [Hwz.out])|((with_reducible refine j6 (.tmp 21) (.tmp 30) 89 ?_);refine ⟨rfl,33,2,40,b4h,.slice oa l.length oc,l.length,l.flatMap Fr.cells,rfl,Hoz.out,_,1,[.string fr.sc,.slice fr.a fr.cs.length fr.c],rfl,Hrz.out,Hone.out,by omega,by unfold maxLen;omega, ?_⟩;intro ad cap5 w5 hA;have HA:=Lib.hid hA;clear hA)|fail)
   go_roundw
   case rel=>
    refine ⟨j+1,l++[fr],ad,cap5,by go_num,hlt,by rw [zz4,List.length_singleton];omega,by rw [zz4];rfl,Hnx.out, ?_, ?_,fun f hf=>(Hfcz.out f hf).mod HA.out.2.1 (fun k hk h=> ?_),Hm2z.out.upon HA.out.2.1 (fun k hk=> .inr (Hob.out k hk))⟩
    ·rw [zz4,List.flatMap_append];exact HA.out.1
    ·intro k hk;rcases HA.out.2.2 with h3|⟨k',h3,h4⟩
     ·exact Hob.out k (h3▸hk)
     rw [h3] at hk;cases hk
     have:=Hm2z.out.size;omega
    intro hc;have h1:=H.out.clow _ hc;have h2:=Hob.out k h;have h3:=Hm02.out.size;omega
   case measure=>simp [intOf];omega
  obtain rfl:j=K.length:=by omega
  rw [List.take_length] at hlq;obtain ⟨Hlq,Hown,Hob,Hfc,Hmr,Hm0r⟩:=zh6 hlq hown hob hfc hmr hm0r;clear hlq hown hob hfc hmr hm0r
  go_wp2_with fail
  go_ret;exact ⟨_,l,rfl,Hown.out,fun k hk=>Nat.le_trans Hm02.out.size (Hob.out k hk),Hlq.out,Hfc.out,Hm0r.out⟩
theorem b4M {l:List Fil} {q:Fil} (h:kF l (i6 q)=none) (k:List UInt8):kF (l++[q]) k=if k=i6 q then some q else kF l k:=by
 unfold kF at*;rw [List.find?_append];by_cases e:k=i6 q
 ·rw [if_pos e,e,h];simp
 rw [if_neg e];have h2:(i6 q==k)=false:=by rw [beq_eq_false_iff_ne];exact fun e2=>e e2.symm
 simp [h2]
theorem W1.put {w0 w:World} {ow:Ow} {mi:Nat} {l:List Fil} (hw:Owd w0 w ow) (h:W1 w ow mi l) (hn:l.length<maxLen) (hmi:ow mi≠0) (q:Fil) (hk:(i6 q).length<=maxLen) (hq:kF l (i6 q)=none) (a:Option Addr) (cap:Nat) (hv:l9 w ow 7 (.slice a q.2.length cap) q.2.length (l6 q.2)):
 ∃w',(Instr.mapUpdate 174 (.map (some mi)) (.string (str (i6 q))) (.agg #[.string q.1,.slice a q.2.length cap])).run Tryz.prog w= .ok () w'/\W1 w' ow mi (l++[q])/\Mod (fun k=>k=mi) w w':=by
 obtain ⟨f,h1,h2⟩:=h
 have hfn:f (.string (i6 q))=none:=by
  have:=h2 (i6 q);rw [hq] at this
  cases hf:f (.string (i6 q)) with
  |none=>rfl
  |some v=>rw [hf] at this;exact this.elim
 obtain ⟨w',r1,r2,r3⟩:=h1.put o6 Tryz.underlying174 hn (R5 (i6 q) hk) (.agg #[.string q.1,.slice a q.2.length cap]);have s:Mov (fun t=>t=ow mi) w ow w' ow:=Mov.wrote hw r3 (fun k hk=>by rw [hk]);have h0:¬((0:Nat)=ow mi):=fun e=>hmi e.symm;refine ⟨w',r1,⟨C0 f (.string (i6 q)) (.agg #[.string q.1,.slice a q.2.length cap]), ?_,fun k=> ?_⟩,r3⟩
 ·rw [hfn] at r2;rw [zz4,List.length_singleton];exact r2
 rw [b4M hq];unfold C0;by_cases e:k=i6 q
 ·subst e;rw [if_pos rfl,if_pos rfl];exact ⟨a,cap,rfl,hv.mov s h0 (by omega)⟩
 rw [if_neg e,if_neg (fun e2=>e (by cases e2;rfl))];exact (h2 k).mov s h0
def a4R (w:World) (ow:Ow) (v:Value) (l:List Fil):Prop:=(v= .map none/\l=[])\/∃mi,v= .map (some mi)/\W1 w ow mi l
theorem a4R.ask {w:World} {ow:Ow} {v:Value} {l:List Fil} (h:a4R w ow v l) (k:List UInt8) (hk:k.length<=maxLen):
 ∃(q:Fil) (a:Option Addr) (cap:Nat),(Instr.lookup 174 v (.string (str k)) true).run Tryz.prog w= .ok (.tuple #[.agg #[.string q.1,.slice a q.2.length cap],.bool (kF l k).isSome]) w/\
  (Instr.lookup 174 v (.string (str k)) false).run Tryz.prog w= .ok (.agg #[.string q.1,.slice a q.2.length cap]) w/\(∀p,kF l k=some p->p=q/\l9 w ow 7 (.slice a q.2.length cap) q.2.length (l6 q.2)):=by
 rcases h with ⟨rfl,rfl⟩|⟨mi,rfl,f,h1,h2⟩
 ·refine ⟨(⟨#[]⟩,[]),none,0, ?_, ?_,fun p hp=>by cases hp⟩
  ·rw [show (kF [] k).isSome=false from rfl];simpa using Maps.look_nil (w:=w) true o6 Tryz.underlying174 (Go.Proofs.YtaenebdppkjhoaaGreatDoor.u4 w) (R5 k hk)
  simpa using Maps.look_nil (w:=w) false o6 Tryz.underlying174 (Go.Proofs.YtaenebdppkjhoaaGreatDoor.u4 w) (R5 k hk)
 have h3:=h1.look_ok o6 Tryz.underlying174 (Go.Proofs.YtaenebdppkjhoaaGreatDoor.u4 w) (R5 k hk);have h4:=h1.look o6 Tryz.underlying174 (Go.Proofs.YtaenebdppkjhoaaGreatDoor.u4 w) (R5 k hk);have h5:=h2 k
 cases hf:f (.string k) with
 |none=>
  rw [hf] at h3 h4 h5
  cases hq:kF l k with
  |none=>exact ⟨(⟨#[]⟩,[]),none,0,h3,h4,fun p hp=>by cases hp⟩
  |some p=>rw [hq] at h5;exact h5.elim
 | some v=>
  rw [hf] at h3 h4 h5
  cases hq:kF l k with
  |none=>rw [hq] at h5;exact h5.elim
  |some p=>
   rw [hq] at h5;obtain ⟨a,cap,rfl,hc⟩:=h5;exact ⟨p,a,cap,h3,h4,fun p2 hp=>by cases hp;exact ⟨rfl,hc⟩⟩
theorem b1q {l:List Fil} {k:List UInt8}:(kF l k).isSome=true↔k∈l.map i6:=by
 unfold kF;rw [List.find?_isSome,List.mem_map];constructor
 ·rintro ⟨f,h1,h2⟩;exact ⟨f,h1,by simpa using h2⟩
 rintro ⟨f,h1,h2⟩;exact ⟨f,h1,by simpa using h2⟩
theorem a7m {L:List (List UInt8)} (h:L.Pairwise (· < ·)):F9 L=L:=by
 unfold F9;refine List.mergeSort_of_pairwise (h.imp fun {a b} hab=> ?_);unfold leB;exact decide_eq_true (List.le_of_lt hab)
theorem a4R.sorted {w:World} {ow:Ow} {mb:Option Nat} {l:List Fil} (h:a4R w ow (.map mb) l) (hn:l.length<=1000000) (hp:l.Pairwise fun a b=>i6 a<i6 b):
 Calls Tryz.prog 96 #[.func (.func 130) #[] #[.pointer (some ⟨w.heap.size,0,none⟩)]] (w.alloc (.cells #[.map mb] 174)) (O5 (w.alloc (.cells #[.map mb] 174)) 9 ((l.map i6).map encStr)):=by
 rcases h with ⟨e,rfl⟩|⟨mi,e,f,h1,h2⟩
 ·cases e
  exact a18 w
 ·cases e
  have hpw:(l.map i6).Pairwise (· < ·):=List.pairwise_map.2 hp
  have h3:=a0J h1 hn (L:=l.map i6) (hpw.imp fun {a b} hab e=>absurd (e▸hab) (List.lt_irrefl _)) (fun x=>by
   rw [<-b1q];have h4:=h2 x
   cases hf:f (.string x)<;>cases hq:kF l x<;>rw [hf,hq] at h4<;>first|exact h4.elim|simp)
  rw [a7m hpw] at h3;exact h3
theorem W1.beside {w0 w w':World} {ow:Ow} {mi b:Nat} {l:List Fil} (hw:Owd w0 w ow) (h:W1 w ow mi l) (hm:Mod (fun k=>k=b) w w') (hn:mi≠b) (hb:ow b≠0):W1 w' ow mi l:=by
 obtain ⟨f,h1,h2⟩:=h;have s:Mov (fun t=>t=ow b) w ow w' ow:=Mov.wrote hw hm (fun k hk=>by rw [hk]);exact ⟨f,h1.mod hm hn,fun k=>(h2 k).mov s (fun e=>hb e.symm)⟩
theorem D7.put {w0 w:World} {ow:Ow} {c mb:Nat} {G:Int->List Fil} {K:Nat} (hw:Owd w0 w ow) (h:D7 w ow c mb G K) (hK:K<maxLen) (hc:c≠0) (n:Int) (hnw:(Lit.int .i64 n).wf=true) (b:Nat) (hb:ow b=c) (hbn:b≠mb) (l:List Fil) (hl:W1 w ow b l)
 (hp:l.Pairwise fun a b=>i6 a<i6 b):
 ∃w',(Instr.mapUpdate 57 (.map (some mb)) (.int .i64 n) (.map (some b))).run Tryz.prog w= .ok () w'/\D7 w' ow c mb (S6 G n l) (K+1)/\Mod (fun k=>k=mb) w w':=by
 obtain ⟨m,f,h1,h2,h3⟩:=h.mp;have hmb:ow mb≠0:=by rw [h.tag];exact hc
 obtain ⟨w',r1,r2,r3⟩:=h1.put m7 Tryz.underlying57 (Nat.lt_of_le_of_lt h2 hK) (Maps.keyOf_int_mk Tryz.underlying3 hnw) (.map (some b));refine ⟨w',r1,⟨h.tag,⟨_,_,r2, ?_,fun id=> ?_⟩,fun id=> ?_⟩,r3⟩
 ·split<;>omega
 ·unfold C0;by_cases e:id=n
  ·subst e;rw [if_pos rfl,a1a];exact ⟨b,rfl,hbn,hb,hl.beside hw r3 hbn hmb⟩
  rw [if_neg (fun e2=>e (by cases e2;rfl)),a1b _ _ e];have h4:=h3 id
  cases hf:f (.int .i64 id) with
  |none=>rw [hf] at h4;exact h4
  |some v=>
   rw [hf] at h4;obtain ⟨mi,g1,g2,g3,g4⟩:=h4;exact ⟨mi,g1,g2,g3,g4.beside hw r3 g2 hmb⟩
 by_cases e:id=n
 ·rw [e,a1a];exact hp
 rw [a1b _ _ e];exact h.lt id
end
section
open Go.RowKit
def a8t (w:World) (own C:Nat->Prop) (md ms r B:Nat) (fs:Lit->Option Value) (gs gd:List UInt8->Option Fil) (wr:World):Prop:=
 ∃(left:Lit->Bool) (cnt n:Nat) (g:List UInt8->Option Fil) (fm:Lit->Option Value),l8 wr 9 md n fm/\n+cnt<=B/\(∀k,A7 wr own C (fm (.string k)) (g k))/\a0G wr 9 ms r fs left cnt/\
  (∀k,g k=if (gs k).isSome&& !left (.string k) then gs k else gd k)/\Mod (fun k=>k=md) w wr
theorem A7.some {w:World} {own C:Nat->Prop} {v:Option Value} {q:Option Fil} (h:A7 w own C v q):v.isSome=q.isSome:=by
 cases v<;>cases q
 ·rfl
 ·exact h.elim
 ·exact h.elim
 rfl
theorem b1r (w:World) (own C:Nat->Prop) (md ms Nd ns:Nat) (gd gs:List UInt8->Option Fil) (fs:Lit->Option Value) (hd:KAt w own C md Nd gd) (hs:l8 w 9 ms ns fs) (hsv:∀k,A7 w own C (fs (.string k)) (gs k)) (hne:md≠ms) (hC:¬C md) (hCl:∀k,C k->k<w.heap.size) (hB:Nd+ns<=1000000000):
 Calls Tryz.prog 127 #[.map (some md),.map (some ms)] w fun e w'=>e= .returned (.tuple #[])/\KAt w' own C md (Nd+ns) (fun k=>(gs k).or (gd k))/\Mod (fun k=>k=md) w w':=by
 obtain ⟨n0,fd,h1,h2,h3⟩:=hd;have hmdl:=h1.lt;have hmsl:=hs.lt;obtain ⟨Hs,Hsv,H1,H2,H3⟩:=zh5 hs hsv h1 h2 h3;clear hs hsv h1 h2 h3
 go_enter Tryz.func127,Tryz.ntmps127
 go_wp2_with (first|((at_range;refine I4 rfl _ 174 rfl 9 33 o6 Tryz.underlying174 ms ns fs rfl Hs.out ?_;intro wF hrg hmF hzF))|fail)
 have hrel0:a8t w own C md ms w.heap.size (Nd+ns) fs gs gd wF:=⟨_,_,n0,gd,fd,H1.out.mod hmF (fun h=>h),by have:=H2.out;omega,fun k=>(H3.out k).mod2 hmF (fun _ _ h=>h.elim),hrg,fun k=>by
  have e:=(Hsv.out k).some;rw [e]
  cases (gs k).isSome<;>rfl,hmF.mono (fun _ _ h=>h.elim)⟩
 obtain ⟨Hrel0,Hrg,HmF⟩:=zh3 hrel0 hrg hmF;clear hrel0 hrg hmF hzF
 go_frame
 go_loopw [8] (fun _ wr=>a8t w own C md ms w.heap.size (Nd+ns) fs gs gd wr) (fun _ wr=>wr.rangeLeft ms w.heap.size)
 case atStart=>exact Hrel0.out
 case round=>
  revert wr;intro wl hrel;obtain ⟨left,cnt,n,g,fm,hm1,hn,hv,hrg,hg,hmr⟩:=hrel;obtain ⟨Hm1,Hv,Hg,Hmr⟩:=zh4 hm1 hv hg hmr;clear hm1 hv hg hmr
  go_wp2_with (first|((at_next;refine K9 rfl _ rfl 9 o6 encStr Lit.string (b4c _ Tryz.underlying9) (b5m _ Tryz.underlying9) ms w.heap.size fs left cnt rfl hrg ?_ ?_))|fail)
  ·intro hl0
   have hK:KAt wl own C md (Nd+ns) (fun k=>(gs k).or (gd k)):=⟨n,fm,Hm1.out,by omega,fun k=>by
    have h:=Hv.out k;rw [Hg.out k,hl0] at h;show A7 wl own C _ ((gs k).or (gd k))
    cases hk:gs k with
    |none=>rw [hk] at h;exact h
    |some q=>rw [hk] at h;exact h⟩
   obtain ⟨Hrg,Hl0,HK⟩:=zh3 hrg hl0 hK;clear hrg hl0 hK
   go_wp2_with fail
   go_end0
   exact ⟨rfl,HK.out,Hmr.out⟩
  intro k c wu cnt' hkey hlk hfc hrg' hlt2 hmu hzu hen;obtain ⟨fr,hfv,hfq,hfr⟩:=a3o (Hsv.out k) (fun h=>by have h1:=(Hsv.out k).some;rw [hfc,h] at h1;cases h1);rw [hfc] at hfv;obtain rfl:=Option.some.inj hfv;obtain ⟨wv,hwv,hmwv,hgwv,hzwv⟩:=e8 wu (.cells #[.string fr.sc,.slice fr.a fr.cs.length fr.c] 33);have hmlu:Mod (fun _=>False) w wl->True:=fun _=>trivial;have hlsz:=Hmr.out.size;have hm1v:=(Hm1.out.mod hmu (fun h=>by have h':md=w.heap.size:=h;omega)).mod hmwv (fun h=>h);have v2:wv.cell? ⟨wu.heap.size,0,none⟩=some (.string fr.sc):=d6 hgwv rfl;have v3:wv.cell? ⟨wu.heap.size,1,none⟩=some (.slice fr.a fr.cs.length fr.c):=d6 hgwv rfl;have hrgv:=hrg'.mod hmwv (fun h=>h) (fun h=>h);have hmwv1:Mod (fun k=>k=md) w wv:=(Hmr.out.upon hmu (fun k hk=> .inr (Nat.le_of_eq (Eq.symm hk)))).trans hmwv (fun _ _ h=>h.elim);have hnm:n<maxLen:=by unfold maxLen;omega
  obtain ⟨Hkey,Hlk,Hfc,Hrg',Hmu,Hzu,Hfq,Hfr,Hwv,Hmwv,Hgwv,Hrgv⟩:=zh12 hkey hlk hfc hrg' hmu hzu hfq hfr hwv hmwv hgwv hrgv;obtain ⟨Hm1v,Hmwv1,Hrg⟩:=zh3 hm1v hmwv1 hrg;clear hkey hlk hfc hrg' hmu hzu hfq hfr hwv hmwv hgwv hrgv hm1v hmwv1 hrg
  go_wp2_with (first|((with_reducible refine d8 33 (.tmp 5) (.tmp 12) ?_);refine ⟨rfl,[.string fr.sc,.slice fr.a fr.cs.length fr.c],rfl,rfl,by kernel_rfl,rfl, ?_⟩;rw [Hwv.out])|((with_reducible refine M5 174 (.tmp 13) (.tmp 14) (.tmp 15) ?_);refine ⟨9,33,md,n,fm,.string k,Hm1v.out,o6,Tryz.underlying174,hnm,rfl,Hkey.out, ?_⟩;intro w8 hM' hm';have HM':=Lib.hid hM';have Hm':=Lib.hid hm';clear hM' hm')|fail)
  go_roundw
  case rel=>
   have hmw8:Mod (fun k=>k=md) w w8:=Hmwv1.out.trans Hm'.out (fun _ _ h=>h);have hml8:Mod (fun k=>k=md\/k=w.heap.size) wl w8:=((Hmu.out.mono (fun _ _ h=> .inr h)).trans (Hmwv.out.mono (fun _ _ h=>h.elim)) (fun _ _ h=>h)).trans (Hm'.out.mono (fun _ _ h=> .inl h)) (fun _ _ h=>h);refine ⟨_,cnt',_,fun x=>if x=k then gs k else g x,_,HM'.out,by split<;>omega,fun x=> ?_,Hrgv.out.mod Hm'.out (fun h=>hne h.symm) (fun h=>by have h':w.heap.size=md:=h;omega),fun x=> ?_,hmw8⟩
   ·unfold C0;show A7 w8 own C _ (if x=k then gs k else g x);by_cases e:x=k
    ·subst e;rw [if_pos rfl,if_pos rfl,Hfq.out];obtain ⟨h4,h5⟩:=Hfr.out;have h6:=(Hsv.out x).mod2 hmw8 (fun k _ hk h=>hC (hk▸h));rw [Hfc.out,Hfq.out] at h6;exact h6
    rw [if_neg (fun h=>e (Lit.string.inj h)),if_neg e];have h0:=Hv.out x
    have hlow:∀k',k'<wl.heap.size->(k'=md\/k'=w.heap.size)->C k'->False:=fun k' _ h hc=>by
     rcases h with h|h
     ·exact hC (h▸hc)
     have:=hCl _ hc;omega
    exact h0.mod2 hml8 (fun k' hk' h hc=>hlow k' hk' h hc)
   show (if x=k then gs k else g x)=if ((gs x).isSome&& !(left (.string x)&& !(Lit.string x).sameKey (.string k)))=true then gs x else gd x
   by_cases e:x=k
   ·subst e;rw [if_pos rfl,a3f,Hfq.out];simp
   rw [if_neg e,Hg.out x,a3f];have:(x==k)=false:=by rw [beq_eq_false_iff_ne];exact e
   rw [this,Bool.not_false,Bool.and_true]
  case measure=>rw [(Hrgv.out.mod Hm'.out (fun h=>hne h.symm) (fun h=>by have h':w.heap.size=md:=h;omega)).left_eq,Hrg.out.left_eq];exact hlt2
def okQ (q:Fil):Prop:=q.2.length<=19/\(∀c∈q.2,c.fits)/\q.1.size<=1000000
theorem b1s (w:World) (x y:Fr) (hx:j0 w 7 (.slice x.a x.cs.length x.c) x.cs.length (l6 x.cs)) (hy:j0 w 7 (.slice y.a y.cs.length y.c) y.cs.length (l6 y.cs)) (hxo:okQ x.fil) (hyo:okQ y.fil):
 Calls Tryz.prog 99 #[.agg #[.string x.sc,.slice x.a x.cs.length x.c],.agg #[.string y.sc,.slice y.a y.cs.length y.c]] w fun e w'=>e= .returned (.bool (b06 x.fil y.fil))/\Mod (fun _=>False) w w':=
 a10 a2g w x.sc _ x.cs hx (by have:=hxo.1;have h:x.fil.2.length=x.cs.length:=rfl;omega) (by have:=hxo.2.2;have h:x.fil.1=x.sc:=rfl;rw [h] at this;omega) y.sc _ y.cs hy (by have:=hyo.1;have h:y.fil.2.length=y.cs.length:=rfl;omega) (by have:=hyo.2.2;have h:y.fil.1=y.sc:=rfl;rw [h] at this;omega)
  (fun d hd c hc wx _=>by
    have h1:=hyo.2.1 d hd;have h2:=hxo.2.1 c hc
    exact U8 d c (by have:=h1.1.text;omega) (by have:=h2.1.text;omega) h1.1.num h2.1.num wx)
def a1g (g:List UInt8->Option Fil) (k:List UInt8) (f:Fil) (j:List UInt8):Bool:=match g j with|some h=>decide (j≠k)&&(b06 h f&&(decide (j<k)|| !b06 f h))|none=>false
theorem b3v (g:List UInt8->Option Fil) (ks:List (List UInt8)) (k:List UInt8) (f:Fil):a5J g ks k f=ks.any (a1g g k f):=rfl
def b1t (w:World) (ma r:Nat) (fm:Lit->Option Value) (g:List UInt8->Option Fil) (k:List UInt8) (f:Fil) (wr:World):Prop:=
 ∃(left:Lit->Bool) (cnt:Nat),a0G wr 9 ma r fm left cnt/\(∀j,(g j).isSome=true->left (.string j)=false->a1g g k f j=false)/\Mod (fun _=>False) w wr
theorem a7n (w:World) (own C:Nat->Prop) (ma n:Nat) (fm:Lit->Option Value) (g:List UInt8->Option Fil) (hm:l8 w 9 ma n fm) (hv:∀x,A7 w own C (fm (.string x)) (g x)) (hwf:∀x q,g x=some q->okQ q)
 (k:List UInt8) (hkl:k.length<=maxLen) (f:Fil) (hk:g k=some f) (ks:List (List UInt8)) (hks:∀x,x∈ks↔(g x).isSome=true):
 Calls Tryz.prog 128 #[.map (some ma),.string (str k)] w fun e w'=>e= .returned (.bool (a5J g ks k f))/\Mod (fun _=>False) w w':=by
 obtain ⟨fr,hfv,hfq,hfr⟩:=a3o (hv k) (fun h=>by rw [hk] at h;cases h);have hff:f=fr.fil:=by rw [hk] at hfq;exact Option.some.inj hfq
 subst hff;have hfo:=hwf k _ hk;have hks':=R5 k hkl;rw [b3v];obtain ⟨B,hB⟩:∃B,ks.any (a1g g k fr.fil)=B:=⟨_,rfl⟩;rw [hB];obtain ⟨HB,Hm,Hv,Hwf,Hk,Hks,Hfv,Hfq,Hfr,Hfo,Hks'⟩:=zh11 hB hm hv hwf hk hks hfv hfq hfr hfo hks';clear hB hm hv hwf hk hks hfv hfq hfr hfo hks'
 go_enter Tryz.func128,Tryz.ntmps128
 go_wp2_with (first|((at_range;refine I4 rfl _ 174 rfl 9 33 o6 Tryz.underlying174 ma n fm rfl Hm.out ?_;intro wF hrg hmF hzF))|fail)
 have hrel0:b1t w ma w.heap.size fm g k fr.fil wF:=⟨_,_,hrg,fun j h1 h2=>(by
  have e:=(Hv.out j).some;rw [h1] at e;have h3:(fm (.string j)).isSome=false:=h2;rw [e] at h3
  cases h3),hmF⟩
 obtain ⟨Hrel0,Hrg,HmF⟩:=zh3 hrel0 hrg hmF;clear hrel0 hrg hmF hzF
 go_frame
 go_loopw [9] (fun _ wr=>b1t w ma w.heap.size fm g k fr.fil wr) (fun _ wr=>wr.rangeLeft ma w.heap.size)
 case atStart=>exact Hrel0.out
 case round=>
  revert wr;intro wl hrel;obtain ⟨left,cnt,hrg,hno,hmr⟩:=hrel;obtain ⟨Hno,Hmr⟩:=zh2 hno hmr;clear hno hmr
  go_wp2_with (first|((at_next;refine K9 rfl _ rfl 9 o6 encStr Lit.string (b4c _ Tryz.underlying9) (b5m _ Tryz.underlying9) ma w.heap.size fm left cnt rfl hrg ?_ ?_))|fail)
  ·intro hl0
   have hany:B=false:=by
    rw [<-HB.out,List.any_eq_false];intro j hj;rw [Hno.out j ((Hks.out j).1 hj) (hl0 _)];exact Bool.false_ne_true
   subst hany;obtain ⟨Hrg,Hl0⟩:=zh2 hrg hl0;clear hrg hl0
   go_wp2_with fail
   go_ret;exact ⟨rfl,Hmr.out⟩
  intro x c wu cnt' hkey hlk hfc hrg' hlt2 hmu hzu hen;obtain ⟨h,hhv,hhq,hhr⟩:=a3o (Hv.out x) (fun e=>by have h1:=(Hv.out x).some;rw [hfc,e] at h1;cases h1);rw [hfc] at hhv;obtain rfl:=Option.some.inj hhv;have hxk:x∈ks:=(Hks.out x).2 (by rw [hhq];rfl);obtain ⟨wv,hwv,hmwv,hgwv,hzwv⟩:=e8 wu (.cells #[.string h.sc,.slice h.a h.cs.length h.c] 33);have hm0v:=(Hmr.out.upon hmu (fun k hk=> .inr (Nat.le_of_eq (Eq.symm hk)))).trans hmwv (fun _ _ h=>h);have v2:wv.cell? ⟨wu.heap.size,0,none⟩=some (.string h.sc):=d6 hgwv rfl;have v3:wv.cell? ⟨wu.heap.size,1,none⟩=some (.slice h.a h.cs.length h.c):=d6 hgwv rfl;have hrgv:=hrg'.mod hmwv (fun h=>h) (fun h=>h);have hl1:=(Hm.out.mod hm0v (fun h=>h)).look o6 Tryz.underlying174 (Go.Proofs.YtaenebdppkjhoaaGreatDoor.u4 wv) Hks'.out;rw [Hfv.out] at hl1;have hl1':(Instr.lookup 174 (.map (some ma)) (.string (str k)) false).run Tryz.prog wv= .ok (.agg #[.string fr.sc,.slice fr.a fr.cs.length fr.c]) wv:=hl1;have hho:=Hwf.out x _ hhq;have hrh:=(hhr.1.mod hm0v (fun _ _ h=>h)).rd;have hrf:=(Hfr.out.1.mod hm0v (fun _ _ h=>h)).rd;have hc1:=b1s wv h fr hrh hrf hho Hfo.out;obtain ⟨t1,ht1⟩:∃t,b06 h.fil fr.fil=t:=⟨_,rfl⟩;rw [ht1] at hc1;obtain ⟨Hrg,Hkey,Hlk,Hfc,Hrg',Hmu,Hzu,Hhq,Hhr,Hwv,Hmwv,Hgwv⟩:=zh12 hrg hkey hlk hfc hrg' hmu hzu hhq hhr hwv hmwv hgwv;obtain ⟨Hrgv,Hm0v,Hl1,Hho,Hrh,Hrf,Hc1,Ht1,Hxk⟩:=zh9 hrgv hm0v hl1 hho hrh hrf hc1 ht1 hxk;clear hrg hkey hlk hfc hrg' hmu hzu hhq hhr hwv hmwv hgwv hrgv hm0v hl1 hho hrh hrf hc1 ht1 hxk;have hsl:(str k).toList=k:=by rw [ByteArray.toList_eq];simp [str]
  by_cases hxe:x=k
  ·have hxf:a1g g k fr.fil x=false:=by unfold a1g;rw [Hhq.out];simp [hxe]
   have hsx:(str x).toList=x:=by rw [hxe];exact hsl
   have hno2:∀j,(g j).isSome=true->(left (.string j)&& !(Lit.string j).sameKey (.string x))=false->a1g g k fr.fil j=false:=fun j h1 h2=>by
    rw [a3f] at h2;by_cases e:j=x
    ·rw [e];exact hxf
    have e2:(j==x)=false:=by rw [beq_eq_false_iff_ne];exact e
    rw [e2,Bool.not_false,Bool.and_true] at h2;exact Hno.out j h1 h2
   obtain ⟨Hno2,Hxf⟩:=zh2 hno2 hxf;clear hno2 hxf
   go_wp2_with (first|((with_reducible refine d8 33 (.tmp 6) (.tmp 13) ?_);refine ⟨rfl,[.string h.sc,.slice h.a h.cs.length h.c],rfl,rfl,by kernel_rfl,rfl, ?_⟩;rw [Hwv.out])|fail)
   go_roundw
   case rel=>exact ⟨_,cnt',Hrgv.out,Hno2.out,Hm0v.out⟩
   case measure=>rw [Hrgv.out.left_eq,Hrg.out.left_eq];exact hlt2
  have hsx:(str x).toList=x:=by rw [ByteArray.toList_eq];simp [str]
  go_wp2_with (first|((with_reducible refine d8 33 (.tmp 6) (.tmp 13) ?_);refine ⟨rfl,[.string h.sc,.slice h.a h.cs.length h.c],rfl,rfl,by kernel_rfl,rfl, ?_⟩;rw [Hwv.out])|fail)
  all_goals first|(exfalso;exact absurd (by assumption) hxe)|skip
  refine Hc1.out.mono ?_;rintro e w4 ⟨rfl,hm4⟩;have hrg4:=Hrgv.out.mod hm4 (fun h=>h) (fun h=>h);have hm04:=Hm0v.out.trans hm4 (fun _ _ h=>h)
  cases t1 with
  | false=>
   have hxf:a1g g k fr.fil x=false:=by unfold a1g;rw [Hhq.out];simp only [];rw [Ht1.out];simp
   have hno2:∀j,(g j).isSome=true->(left (.string j)&& !(Lit.string j).sameKey (.string x))=false->a1g g k fr.fil j=false:=fun j h1 h2=>by
    rw [a3f] at h2;by_cases e:j=x
    ·rw [e];exact hxf
    have e2:(j==x)=false:=by rw [beq_eq_false_iff_ne];exact e
    rw [e2,Bool.not_false,Bool.and_true] at h2;exact Hno.out j h1 h2
   obtain ⟨Hno2,Hxf,Hm4,Hrg4,Hm04⟩:=zh5 hno2 hxf hm4 hrg4 hm04;clear hno2 hxf hm4 hrg4 hm04
   go_wp2_with fail
   go_roundw
   case rel=>exact ⟨_,cnt',Hrg4.out,Hno2.out,Hm04.out⟩
   case measure=>rw [Hrg4.out.left_eq,Hrg.out.left_eq];exact hlt2
  | true=>
   have w2:w4.cell? ⟨wu.heap.size,0,none⟩=some (.string h.sc):=hm4.cell v2 (fun h=>h);have w3:w4.cell? ⟨wu.heap.size,1,none⟩=some (.slice h.a h.cs.length h.c):=hm4.cell v3 (fun h=>h);by_cases hxl:x<k
   ·have hbl:Op.bytesLess x k=true:=by rw [Go.Proofs.bytesLess_eq];exact decide_eq_true hxl
    have hBt:B=true:=by
     rw [<-HB.out,List.any_eq_true];refine ⟨x,Hxk.out, ?_⟩;unfold a1g;rw [Hhq.out];simp only [];rw [Ht1.out];simp [hxe,hxl]
    subst hBt;obtain ⟨Hm4,Hrg4,Hm04⟩:=zh3 hm4 hrg4 hm04;clear hm4 hrg4 hm04
    go_wp2_with fail
    go_ret;exact ⟨rfl,Hm04.out⟩
   have hbl:Op.bytesLess x k=false:=by rw [Go.Proofs.bytesLess_eq];exact decide_eq_false hxl
   have hl4:=(Hm.out.mod hm04 (fun h=>h)).look o6 Tryz.underlying174 (Go.Proofs.YtaenebdppkjhoaaGreatDoor.u4 w4) Hks'.out;rw [Hfv.out] at hl4;have hl4':(Instr.lookup 174 (.map (some ma)) (.string (str k)) false).run Tryz.prog w4= .ok (.agg #[.string fr.sc,.slice fr.a fr.cs.length fr.c]) w4:=hl4;have hc2:=b1s w4 fr h (Hrf.out.mod hm4 (fun _ _ h=>h)) (Hrh.out.mod hm4 (fun _ _ h=>h)) Hfo.out Hho.out;obtain ⟨t2,ht2⟩:∃t,b06 fr.fil h.fil=t:=⟨_,rfl⟩;rw [ht2] at hc2;obtain ⟨Hm4,Hrg4,Hm04,Hl4,Hc2,Ht2⟩:=zh6 hm4 hrg4 hm04 hl4 hc2 ht2;clear hm4 hrg4 hm04 hl4 hc2 ht2
   go_wp2_with fail
   refine Hc2.out.mono ?_;rintro e w5 ⟨rfl,hm5⟩;have hrg5:=Hrg4.out.mod hm5 (fun h=>h) (fun h=>h);have hm05:=Hm04.out.trans hm5 (fun _ _ h=>h)
   cases t2 with
   | true=>
    have hxf:a1g g k fr.fil x=false:=by unfold a1g;rw [Hhq.out];simp only [];rw [Ht1.out,Ht2.out];simp [hxl]
    have hno2:∀j,(g j).isSome=true->(left (.string j)&& !(Lit.string j).sameKey (.string x))=false->a1g g k fr.fil j=false:=fun j h1 h2=>by
     rw [a3f] at h2;by_cases e:j=x
     ·rw [e];exact hxf
     have e2:(j==x)=false:=by rw [beq_eq_false_iff_ne];exact e
     rw [e2,Bool.not_false,Bool.and_true] at h2;exact Hno.out j h1 h2
    obtain ⟨Hno2,Hxf,Hm5,Hrg5,Hm05⟩:=zh5 hno2 hxf hm5 hrg5 hm05;clear hno2 hxf hm5 hrg5 hm05
    go_wp2_with fail
    go_roundw
    case rel=>exact ⟨_,cnt',Hrg5.out,Hno2.out,Hm05.out⟩
    case measure=>rw [Hrg5.out.left_eq,Hrg.out.left_eq];exact hlt2
   | false=>
    have hBt:B=true:=by
     rw [<-HB.out,List.any_eq_true];refine ⟨x,Hxk.out, ?_⟩;unfold a1g;rw [Hhq.out];simp only [];rw [Ht1.out,Ht2.out];simp [hxe]
    subst hBt;obtain ⟨Hm5,Hrg5,Hm05⟩:=zh3 hm5 hrg5 hm05;clear hm5 hrg5 hm05
    go_wp2_with fail
    go_ret;exact ⟨rfl,Hm05.out⟩
end
section
open Go.RowKit Go.Sort
def b5p (w:World) (own C:Nat->Prop) (M:List (Int×Fil)) (td:Int) (ma mo r N:Nat) (f:Lit->Option Value) (wr:World):Prop:=
 ∃(left:Lit->Bool) (cnt n:Nat) (g:List UInt8->Option Fil),KAt wr own C ma n g/\n+N*cnt<=N*N/\a0G wr 3 mo r f left cnt/\(∀k q,g k=some q->∃x,x≠td/\(x,q)∈M/\i6 q=k)/\
  (∀x q,(x,q)∈M->x≠td->left (.int .i64 x)=false->(g (i6 q)).isSome=true)/\Mod (fun _=>False) w wr
def a5U (M:List (Int×Fil)) (td:Int) (k:List UInt8):Option Fil:=(V8 M td k).filter fun f=> !a5J (V8 M td) (a1L M td) k f
theorem b1u {M:List (Int×Fil)} {td:Int} {g:List UInt8->Option Fil} (hinj:∀p∈M,∀q∈M,i6 p.2=i6 q.2->p.2=q.2) (hA:∀k q,g k=some q->∃x,x≠td/\(x,q)∈M/\i6 q=k)
 (hB:∀x q,(x,q)∈M->x≠td->(g (i6 q)).isSome=true) (k:List UInt8):g k=V8 M td k:=by
 cases h1:g k with
 |some q=>
  obtain ⟨x,hx,hm,hk⟩:=hA k q h1;obtain ⟨r,hr⟩:=a5K hm hx;rw [hk] at hr;obtain ⟨hk2,y,hy,hm2⟩:=D5 hr;have e:q=r:=hinj _ hm _ hm2 (hk.trans hk2.symm);rw [hr,e]
 | none=>
  cases h2:V8 M td k with
  |none=>rfl
  |some q=>
   obtain ⟨hk2,y,hy,hm2⟩:=D5 h2;have h3:=hB y q hm2 hy;rw [hk2,h1] at h3;cases h3
theorem b3w (w:World) (b:Nat) (own C:Nat->Prop) (M:List (Int×Fil)) (N:Nat) (h:Tab w b own C M N) (hN:N<=1000) (hinj:∀p∈M,∀q∈M,i6 p.2=i6 q.2->p.2=q.2) (td:Int) (htd:(Lit.int .i64 td).wf=true):
 Calls Tryz.prog 95 #[.pointer (some ⟨b,0,none⟩),.int .i64 td] w (a5T w C (x6 M td)):=by
 obtain ⟨mo,h⟩:=h;obtain ⟨wa,hwa,hmwa,hgwa,hzwa⟩:=e8 w (.map #[] 0);have ha:=h.mod hmwa (fun _ _ h=>h.elim);have b0:wa.cell? ⟨b,0,none⟩=some (.map (some mo)):=d6 ha.row rfl;have hma:l8 wa 9 w.heap.size 0 (fun _=>none):=hwa▸l8.made w 9;obtain ⟨n,f,hf1w,hf2,hf3,hf4⟩:=h.om;have hf1:=hf1w.mod hmwa (fun h=>h);have hNN:N*N<=1000000:=Nat.mul_le_mul hN hN;have hmow:mo<w.heap.size:=h.olow _ h.ob.2;obtain ⟨O,hO⟩:∃O,x6 M td=O:=⟨_,rfl⟩;rw [hO];have hz:=hzwa;obtain ⟨HO,H,Ha,Hinj,Htd,Hwa,Hmwa,Hgwa,Hma,Hf1,Hf2,Hf3⟩:=zh12 hO h ha hinj htd hwa hmwa hgwa hma hf1 hf2 hf3;obtain ⟨Hf4,Hz⟩:=zh2 hf4 hz;clear hO h ha hinj htd hwa hmwa hgwa hma hf1 hf2 hf3 hf4 hz hzwa hf1w
 go_enter Tryz.func95,Tryz.ntmps95
 go_wp2_with (first|(rw [show w.alloc _=wa from Hwa.out])|((at_range;refine I4 rfl _ 57 rfl 3 174 m7 Tryz.underlying57 mo n f rfl Hf1.out ?_;intro wF hrg hmF hzF))|fail)
 have hrel0:b5p w own C M td w.heap.size mo wa.heap.size N f wF:=⟨_,n,0,fun _=>none,⟨0,_,Hma.out.mod hmF (fun h=>h),Nat.le_refl _,fun _=>trivial⟩,by rw [Nat.zero_add];exact Nat.mul_le_mul_left _ Hf2.out,hrg,fun k q h=>(by cases h),fun x q hm hx hl=>(by
  have h1:=Hf3.out x;have h2:(f (.int .i64 x)).isSome=false:=hl
  cases h3:f (.int .i64 x) with
  |some v=>rw [h3] at h2;cases h2
  |none=>
   rw [h3] at h1;have h4:=a5A H.out.nd hm;rw [h1] at h4
   cases h4),Hmwa.out.trans hmF (fun _ _ h=>h)⟩
 obtain ⟨Hrel0,Hrg,HmF⟩:=zh3 hrel0 hrg hmF;clear hrel0 hrg hmF hzF
 go_frame
 go_loopw [17] (fun _ wr=>b5p w own C M td w.heap.size mo wa.heap.size N f wr) (fun _ wr=>wr.rangeLeft mo wa.heap.size)
 case atStart=>exact Hrel0.out
 case round=>
  revert wr;intro wl hrel;obtain ⟨left,cnt,nn,g,hK,hnn,hrg,hA,hB,hmr⟩:=hrel;obtain ⟨HK,HA,HB,Hmr⟩:=zh4 hK hA hB hmr;clear hK hA hB hmr
  go_wp2_with (first|((at_next;refine K9 rfl _ rfl 3 m7 (Value.int .i64) (Lit.int .i64) (b4b _ Tryz.underlying3) (b5l _ Tryz.underlying3) mo wa.heap.size f left cnt rfl hrg ?_ ?_))|fail)
  ·intro hl0;have hg:=b1u (td:=td) Hinj.out HA.out (fun x q hm hx=>HB.out x q hm hx (hl0 _));obtain ⟨nm,fm,hm1,hm2,hm3⟩:=HK.out;have hv:∀k,A7 wl own C (fm (.string k)) (V8 M td k):=fun k=>by rw [<-hg];exact hm3 k
   have hnd:(L9 ((M.filter fun p=> !(p.1==td)).map fun p=>i6 p.2)).Nodup:=Y8 _
   have hmem:∀k,k∈a1L M td↔(fm (.string k)).isSome=true:=fun k=>by
    rw [b08,(hv k).some,Option.isSome_iff_exists]
   have hsort:=a0J hm1 (by omega) hnd (fun k=>by rw [<-hmem k];unfold a1L;rw [a1M]);have hkeys:=a1f (some w.heap.size) wl;obtain ⟨w1,hw1⟩:∃w1:World,wl.alloc (.cells #[.map (some w.heap.size)] 174)=w1:=⟨_,rfl⟩;have hmw1:Mod (fun _=>False) wl w1:=hw1▸(Mod.refl (fun _=>False) wl).alloc _;rw [hw1] at hsort hkeys;rw [show F9 (L9 ((M.filter fun p=> !(p.1==td)).map fun p=>i6 p.2))=a1L M td from rfl] at hsort;obtain ⟨K,hK_⟩:∃K,a1L M td=K:=⟨_,rfl⟩;rw [hK_] at hsort hmem
   have hKl:K.length<=100000:=by
    rw [<-hK_];unfold a1L F9;rw [List.length_mergeSort]
    have h1:∀l:List (List UInt8),(L9 l).length<=l.length:=fun l=>by
     induction l with
     |nil=>exact Nat.le_refl _
     |cons a l ih=>
      unfold L9;split
      ·exact Nat.le_trans ih (Nat.le_succ _)
      exact Nat.succ_le_succ ih
    refine Nat.le_trans (h1 _) ?_;rw [zz10];exact Nat.le_trans (List.length_filter_le _ _) (Nat.le_trans H.out.low (by omega))
   have hout:O=K.filterMap (a5U M td):=by rw [<-HO.out];unfold x6 a5U;rw [hK_]
   obtain ⟨Hrg,Hl0,Hg,Hm1,Hm2,Hm3,Hv,Hnd,Hmem,Hsort,Hkeys,Hw1⟩:=zh12 hrg hl0 hg hm1 hm2 hm3 hv hnd hmem hsort hkeys hw1;obtain ⟨Hmw1,HK_,Hout⟩:=zh3 hmw1 hK_ hout;clear hrg hl0 hg hm1 hm2 hm3 hv hnd hmem hsort hkeys hw1 hmw1 hK_ hout
   go_wp2_with fail
   refine Hkeys.out.mono ?_;rintro e wx ⟨rfl,hwx⟩;obtain rfl:=hwx.symm
   go_wp2_with fail
   refine Hsort.out.mono ?_;rintro e w2 ⟨sv,rfl,hso,hsb,hm2w⟩;obtain ⟨sa,sc,rfl, -⟩:=hso.shape;rw [zz10] at hso⊢;have hml2:=Hmw1.out.trans hm2w (fun _ _ h=>h);have hm02:=Hmr.out.trans hml2 (fun _ _ h=>h);have hrel1:a4Q w2 C K (a5U M td) (.slice none 0 0) (.int .i64 ((0:Nat):Int)) w2:=⟨0,[],none,0,rfl,Nat.zero_le _,Nat.le_refl _,rfl,rfl,i7.nil _ _ _,fun k hk=>by simp [Value.ownBlock] at hk,fun f hf=>(by cases hf),Mod.refl _ _⟩;obtain ⟨Hso,Hsb,Hm2w,Hml2,Hm02,Hrel1⟩:=zh6 hso hsb hm2w hml2 hm02 hrel1;clear hso hsb hm2w hml2 hm02 hrel1
   go_wp2_with fail
   go_loopw [8,32] (fun ov i wr=>a4Q w2 C K (a5U M td) ov i wr) (fun _ i _=>K.length - (intOf i).toNat)
   case atStart=>exact Hrel1.out
   case round=>
    revert wr;intro wr hrel;obtain ⟨j,l,oa,oc,rfl,hj,hlj,rfl,hlq,hown,hob,hfc,hmr2⟩:=hrel;have hm0r:=Hm02.out.trans hmr2 (fun _ _ h=>h);have hmlr:=Hml2.out.trans hmr2 (fun _ _ h=>h);by_cases hlt:j<K.length
    ·have hlt':(j:Int)<K.length:=by omega
     obtain ⟨k,hkj⟩:∃k,K[j]? =some k:=⟨_,zz5 hlt⟩;have hkm:=zz8 hkj;have hks:=(Hmem.out k).1 hkm;have hvr:=fun x=>(Hv.out x).mod hmlr (fun _ _ h=>h.elim);obtain ⟨fr,hfv,hfq,hfr⟩:=a3o (hvr k) (fun h=>by have h1:=(Hv.out k).some;rw [hks,h] at h1;cases h1);obtain ⟨hqk,y0,hy0,hqm⟩:=D5 hfq
     have hwfq:∀x q,V8 M td x=some q->okQ q:=fun x q hq=>by
      obtain ⟨-,y, -,h2⟩:=D5 hq;exact ⟨(H.out.wf _ h2).2.1,(H.out.wf _ h2).2.2,H.out.sc _ h2⟩
     have hkw:k.length<=maxLen:=by
      have h3:=hwfq k _ hfq;have h4:=E9 fr.fil.1 fr.fil.2 h3.2.1;rw [show p9 fr.fil.1 fr.fil.2=k from hqk] at h4;have h5:=h3.1;have h6:=h3.2.2;unfold maxLen;omega
     have hmr1:=Hm1.out.mod hmlr (fun h=>h);have hcv:=a7n wr own C w.heap.size nm fm (V8 M td) hmr1 hvr hwfq k hkw fr.fil hfq K (fun x=>by rw [Hmem.out x,(Hv.out x).some]);obtain ⟨B,hB2⟩:∃B,a5J (V8 M td) K k fr.fil=B:=⟨_,rfl⟩;rw [hB2] at hcv
     have hoK:a5U M td k=if B=true then none else some fr.fil:=by
      unfold a5U;rw [hfq,HK_.out,<-hB2];cases hc:a5J (V8 M td) K k fr.fil<;>simp [hc]
     obtain ⟨g2,off,rfl,ck⟩:=a4P (Hso.out.rd.mod hmr2 (fun _ _ h=>h)) hkj;have ck':wr.cell? ⟨g2,off+j,none⟩=some (.string (str k)):=ck;obtain ⟨Hkj,Hkm,Hks,Hvr,Hfv,Hfq,Hfr,Hqk,Hqm,Hwfq,Hmr1,Hcv⟩:=zh12 hkj hkm hks hvr hfv hfq hfr hqk hqm hwfq hmr1 hcv;obtain ⟨HB2,HoK,Ck,Hown,Hob,Hfc,Hmr2,Hm0r,Hmlr,Hlq,Hkw⟩:=zh11 hB2 hoK ck hown hob hfc hmr2 hm0r hmlr hlq hkw;clear hkj hkm hks hvr hfv hfq hfr hqk hqm hwfq hmr1 hcv hB2 hoK ck hown hob hfc hmr2 hm0r hmlr hlq hkw
     go_wp2_with fail
     refine Hcv.out.mono ?_;rintro e w4 ⟨rfl,hm4⟩;have hm24:=Hmr2.out.trans hm4 (fun _ _ h=>h);have hm04:=Hm0r.out.trans hm4 (fun _ _ h=>h);have hml4:=Hmlr.out.trans hm4 (fun _ _ h=>h);have hown4:=Hown.out.mod hm4 (fun _ _ h=>h);have hfc4:∀f∈l,FrC w4 C f:=fun f hf=>(Hfc.out f hf).mod hm4 (fun _ _ h=>h.elim)
     cases B with
     | true=>
      have hnx:l.map Fr.fil=(K.take (j+1)).filterMap (a5U M td):=by
       rw [List.take_add_one,Hkj.out,List.filterMap_append,<-Hlq.out,Option.toList_some,List.filterMap_cons,HoK.out];simp
      obtain ⟨Hm4,Hm24,Hm04,Hml4,Hown4,Hfc4,Hnx⟩:=zh7 hm4 hm24 hm04 hml4 hown4 hfc4 hnx;clear hm4 hm24 hm04 hml4 hown4 hfc4 hnx
      go_wp2_with fail
      go_roundw
      case rel=>exact ⟨j+1,l,oa,oc,by go_num,hlt,by omega,rfl,Hnx.out,Hown4.out,Hob.out,Hfc4.out,Hm24.out⟩
      case measure=>simp [intOf];omega
     | false=>
      have hnx:(l++[fr]).map Fr.fil=(K.take (j+1)).filterMap (a5U M td):=by
       rw [List.take_add_one,Hkj.out,List.filterMap_append,<-Hlq.out,List.map_append,Option.toList_some];congr 1;rw [List.filterMap_cons,HoK.out];rfl
      have hli:=(Hm1.out.mod hml4 (fun h=>h)).look o6 Tryz.underlying174 (Go.Proofs.YtaenebdppkjhoaaGreatDoor.u4 w4) (R5 k Hkw.out);rw [Hfv.out] at hli;have hli':(Instr.lookup 174 (.map (some w.heap.size)) (.string (str k)) false).run Tryz.prog w4= .ok (.agg #[.string fr.sc,.slice fr.a fr.cs.length fr.c]) w4:=hli;obtain ⟨wz,hwz,hmwz,hgwz,hzwz⟩:=e8 w4 (.cells #[.string fr.sc,.slice fr.a fr.cs.length fr.c] 33);have hrz:j0 wz 2 (.slice (some ⟨w4.heap.size,0,none⟩) 1 1) 1 [.string fr.sc,.slice fr.a fr.cs.length fr.c]:=hwz▸j0.one w4 [.string fr.sc,.slice fr.a fr.cs.length fr.c] 33 rfl;have hone:∀u∈([.string fr.sc,.slice fr.a fr.cs.length fr.c]:List Value),u.oneCell'=true:=fun u hu=>zz15 (show ([.string fr.sc,.slice fr.a fr.cs.length fr.c]:List Value).all (·.oneCell')=true from rfl) u hu;have hoz:=hown4.mod hmwz (fun _ _ h=>h);have hm2z:=hm24.trans hmwz (fun _ _ h=>h)
      have hfcz:∀f∈l++[fr],FrC wz C f:=fun f hf=>by
       rcases zz14 hf with hf|hf
       ·exact (hfc4 f hf).mod hmwz (fun _ _ h=>h.elim)
       obtain rfl:f=fr:=by simpa using hf
       exact (Hfr.out.mod hm4 (fun _ _ h=>h.elim)).mod hmwz (fun _ _ h=>h.elim)
      obtain ⟨Hnx,Hli,Hwz,Hmwz,Hgwz,Hrz,Hone,Hoz,Hm2z,Hfcz,Hm4,Hm24⟩:=zh12 hnx hli hwz hmwz hgwz hrz hone hoz hm2z hfcz hm4 hm24;obtain ⟨Hm04,Hml4,Hown4,Hfc4⟩:=zh4 hm04 hml4 hown4 hfc4;clear hnx hli hwz hmwz hgwz hrz hone hoz hm2z hfcz hm4 hm24 hm04 hml4 hown4 hfc4 hzwz
      go_wp2_with (first|((with_reducible refine A0 89 (.tmp 43) ?_);refine ⟨33,2,Tryz.underlying89,by kernel_rfl,by kernel_rfl,by decide,by decide,[.string fr.sc,.slice fr.a fr.cs.length fr.c],rfl,rfl, ?_⟩;rw [Hwz.out])|((with_reducible refine j6 (.tmp 40) (.tmp 44) 89 ?_);refine ⟨rfl,33,2,40,b4h,.slice oa l.length oc,l.length,l.flatMap Fr.cells,rfl,Hoz.out,_,1,[.string fr.sc,.slice fr.a fr.cs.length fr.c],rfl,Hrz.out,Hone.out,by omega,by unfold maxLen;omega, ?_⟩;intro ad cap5 w5 hA;have HA:=Lib.hid hA;clear hA)|fail)
      go_roundw
      case rel=>
       refine ⟨j+1,l++[fr],ad,cap5,by go_num,hlt,by rw [zz4,List.length_singleton];omega,by rw [zz4];rfl,Hnx.out, ?_, ?_,fun f hf=>(Hfcz.out f hf).mod HA.out.2.1 (fun k hk h=> ?_),Hm2z.out.upon HA.out.2.1 (fun k hk=> .inr (Hob.out k hk))⟩
       ·rw [zz4,List.flatMap_append];exact HA.out.1
       ·intro k hk;rcases HA.out.2.2 with h3|⟨k',h3,h4⟩
        ·exact Hob.out k (h3▸hk)
        rw [h3] at hk;cases hk
        have:=Hm2z.out.size;omega
       intro hc;have h1:=H.out.clow _ hc;have h2:=Hob.out k h;have h3:=Hm02.out.size;omega
      case measure=>simp [intOf];omega
    obtain rfl:j=K.length:=by omega
    rw [List.take_length] at hlq;have hOl:l.map Fr.fil=O:=by rw [Hout.out];exact hlq
    obtain ⟨Hlq,Hown,Hob,Hfc,Hmr2,Hm0r,Hmlr,HOl⟩:=zh8 hlq hown hob hfc hmr2 hm0r hmlr hOl;clear hlq hown hob hfc hmr2 hm0r hmlr hOl
    go_wp2_with fail
    go_ret;exact ⟨_,l,rfl,Hown.out,fun k hk=>Nat.le_trans Hm02.out.size (Hob.out k hk),HOl.out,Hfc.out,Hm0r.out⟩
  intro x c wu cnt' hkey hlk hfc hrg' hlt2 hmu hzu hen;have h1:=Hf3.out x;rw [hfc] at h1;obtain ⟨mi,rfl,hmi,hmib,hmio,hKi⟩:=h1;have hmlu:Mod (fun k=>k=wa.heap.size) wl wu:=hmu;have hmw:Mod (fun _=>False) w wu:=Hmr.out.upon hmu (fun k hk=> .inr (by have h1:k=wa.heap.size:=hk;have:=Hmwa.out.size;omega))
  have hle:nn+N+N*cnt'<=N*N:=by
   have h1:N*(cnt'+1)<=N*cnt:=Nat.mul_le_mul_left _ hlt2;rw [Nat.mul_add,Nat.mul_one] at h1;omega
  have hgb:∀x' q,(x',q)∈M->x'≠td->x'≠x->(left (.int .i64 x')&& !(Lit.int .i64 x').sameKey (.int .i64 x))=false->(g (i6 q)).isSome=true:=fun x' q hm hx1 hx2 hl=>by
   rw [b01] at hl;have e2:(x'==x)=false:=by rw [beq_eq_false_iff_ne];exact hx2
   rw [e2,Bool.not_false,Bool.and_true] at hl;exact HB.out x' q hm hx1 hl
  have hlow:∀k,C k->k<w.heap.size:=H.out.clow;have hKu:KAt wu own C w.heap.size nn g:=HK.out.mod hmu (fun h=>by have h1:w.heap.size=wa.heap.size:=h;have:=Hz.out;omega) (fun k _ hk hc=>by have h1:k=wa.heap.size:=hk;have:=hlow k hc;have:=Hz.out;omega);by_cases hx:x=td
  ·have hB2:∀x' q,(x',q)∈M->x'≠td->(left (.int .i64 x')&& !(Lit.int .i64 x').sameKey (.int .i64 x))=false->(g (i6 q)).isSome=true:=fun x' q hm hx1 hl=>hgb x' q hm hx1 (fun e=>hx1 (e.trans hx)) hl;obtain ⟨Hrg,Hkey,Hlk,Hfc,Hrg',Hmu,Hzu,HKi,Hmw,Hmlu,HB2,Hgb⟩:=zh12 hrg hkey hlk hfc hrg' hmu hzu hKi hmw hmlu hB2 hgb;obtain ⟨Hlow,HKu⟩:=zh2 hlow hKu;clear hrg hkey hlk hfc hrg' hmu hzu hKi hmw hmlu hB2 hgb hlow hKu
   go_wp2_with fail
   go_roundw
   case rel=>exact ⟨_,cnt',nn,g,HKu.out,by have:=Nat.mul_le_mul_left N (Nat.le_of_lt hlt2);omega,Hrg'.out,HA.out,HB2.out,Hmw.out⟩
   case measure=>rw [Hrg'.out.left_eq,Hrg.out.left_eq];exact hlt2
  obtain ⟨ni,fi,hi1,hi2,hi3⟩:=hKi;have hmiw:=hi1.lt;have hcp:=b1r wu own C w.heap.size mi nn ni g (o8 M x) fi hKu (hi1.mod hmw (fun h=>h)) (fun k=>(hi3 k).mod hmw (fun _ _ h=>h.elim)) (by omega) (fun h=>Nat.lt_irrefl _ (hlow _ h)) (fun k hk=>zz13 (hlow k hk) hmw.size) (by omega)
  have hA2:∀k q,(o8 M x k).or (g k)=some q->∃y,y≠td/\(y,q)∈M/\i6 q=k:=fun k q hq=>by
   cases ht:o8 M x k with
   |none=>rw [ht] at hq;exact HA.out k q hq
   |some r=>
    rw [ht] at hq;cases hq
    exact ⟨x,hx,(T7 ht).1,(T7 ht).2⟩
  have hB2:∀x' q,(x',q)∈M->x'≠td->(left (.int .i64 x')&& !(Lit.int .i64 x').sameKey (.int .i64 x))=false->((o8 M x (i6 q)).or (g (i6 q))).isSome=true:=fun x' q hm hx1 hl=>by
   by_cases e:x'=x
   ·subst e;rw [a5A H.out.nd hm];rfl
   rw [Option.isSome_or,hgb x' q hm hx1 e hl,Bool.or_true]
  obtain ⟨Hrg,Hkey,Hlk,Hfc,Hrg',Hmu,Hzu,Hmw,Hmlu,HB2,HA2,Hgb⟩:=zh12 hrg hkey hlk hfc hrg' hmu hzu hmw hmlu hB2 hA2 hgb;obtain ⟨Hlow,HKu,Hcp,Hi1,Hi2,Hi3⟩:=zh6 hlow hKu hcp hi1 hi2 hi3;clear hrg hkey hlk hfc hrg' hmu hzu hmw hmlu hB2 hA2 hgb hlow hKu hcp hi1 hi2 hi3
  go_wp2_with fail
  refine Hcp.out.mono ?_;rintro e w5 ⟨rfl,hK5,hm5⟩;have hm05:=Hmw.out.upon hm5 (fun k hk=> .inr (Nat.le_of_eq (Eq.symm hk)));have hrg5:=Hrg'.out.mod hm5 (fun h=>by have h1:mo=w.heap.size:=h;omega) (fun h=>by have h1:wa.heap.size=w.heap.size:=h;have:=Hz.out;omega);obtain ⟨HK5,Hm5,Hm05,Hrg5⟩:=zh4 hK5 hm5 hm05 hrg5;clear hK5 hm5 hm05 hrg5
  go_wp2_with fail
  go_roundw
  case rel=>exact ⟨_,cnt',nn+ni,_,HK5.out,by have:=Hi2.out;omega,Hrg5.out,HA2.out,HB2.out,Hm05.out⟩
  case measure=>rw [Hrg5.out.left_eq,Hrg.out.left_eq];exact hlt2
end
end Go.Proofs.YtaenebdppkjhoaaGreatDoor
