/- Lemmas. -/
import Derived.Test.YtebhabpahfmodaaGreatDoorZh30
import Derived.Test.YtebhabpahfmodaaGreatDoorZh31
import Derived.Test.YtebhabpahfmodaaGreatDoorZh29
set_option maxHeartbeats 40000000
set_option maxRecDepth 20000
namespace Go.Proofs.YtebhabpahfmodaaGreatDoor
section
open Go.ChangeShapes Go.WideShapes Go.ChangeAt Go.RowKit
section
variable {H:Type} {enc:TypeId×Value->H} {W:World}
theorem b0K {fuel:Nat} {cs:List Value} {x:DataW H×List MemPlace} (h:DataW.trod enc Tryz.prog W 0 (fun _=>true) true fuel 112 cs=some x) (hw:∀n∈DataW.weights Tryz.prog 112 x.1,n<=reachBytes):∃c:Att,cs=c.cells/\c.name.size<=reachBytes/\c.v.inn:=by
 obtain ⟨xs,n1, -,hxd,hlen,hxs,hf⟩:=DataW.trod_struct Tryz.underlying112 h;rw [show Tryz.prog.cellsOf 112=6 by kernel_rfl] at hlen
 have hx:∀i,i<2->∃y,xs[i]? =some y:=fun i hi=>by
  simp at hxs;exact ⟨_,zz5 zo⟩
 rw [hxd] at hw;have hw:∀n∈DataW.weights Tryz.prog 112 (.agg (xs.map (·.1)):DataW H),n<=reachBytes:=hw
 match cs,hlen with
 |[c0,c1,c2,c3,c4,c5],_=>
  obtain ⟨y0,h0⟩:=hx 0 zo;have f0:DataW.trod enc Tryz.prog W 0 (fun _=>true) true n1 9 (([c0,c1,c2,c3,c4,c5].drop 0).take (Tryz.prog.cellsOf 9))=xs[0]? :=hf 0 _ rfl;rw [h0,show Tryz.prog.cellsOf 9=1 by kernel_rfl] at f0;obtain ⟨z0,e0,u0, -⟩:=DataW.trod_string Tryz.underlying9 f0;have e0:[c0]=[.string z0]:=e0;have g0:z0.size<=reachBytes:=hw _ (n9 Tryz.underlying112 (i:=0) (t:=9) rfl (by rw [List.getElem?_map,h0];rfl) (by rw [u0];simp [DataW.weights]));obtain ⟨y1,h1⟩:=hx 1 zo;have f1:DataW.trod enc Tryz.prog W 0 (fun _=>true) true n1 85 (([c0,c1,c2,c3,c4,c5].drop 1).take (Tryz.prog.cellsOf 85))=xs[1]? :=hf 1 _ rfl;rw [h1,show Tryz.prog.cellsOf 85=5 by kernel_rfl] at f1;obtain ⟨z1,e1,g1⟩:=a4U f1 (fun n hn=>hw n (n9 Tryz.underlying112 (i:=1) (t:=85) rfl (by rw [List.getElem?_map,h1];rfl) hn));have e1:[c1,c2,c3,c4,c5]=[.int .i64 z1.kind,.int .i64 z1.int,.float .f64 z1.num,.string z1.text,.bool z1.yes]:=e1;cases e0
  cases e1
  exact ⟨⟨z0,z1⟩,rfl,g0,g1⟩
end
end
section
open Go.ChangeShapes Go.WideShapes Go.ChangeAt Go.RowKit
section
variable {H:Type} {enc:TypeId×Value->H} {W:World}
theorem b0L {fuel:Nat} {cs:List Value} {x:DataW H×List MemPlace} (h:DataW.trod enc Tryz.prog W 0 (fun _=>true) true fuel 31 cs=some x) (hw:∀n∈DataW.weights Tryz.prog 31 x.1,n<=reachBytes):
 ∃(es:ByteArray) (qa:Option Addr) (qc:Nat) (q:List Att),cs=[.string es,.slice qa q.length qc]/\es.size<=maxLen/\j3 W 6 (.slice qa q.length qc) q.length (k7 q)/\q.length<=maxLen/\∀a∈q,a.name.size<=reachBytes/\a.v.inn:=by
 obtain ⟨xs,n1, -,hxd,hlen,hxs,hf⟩:=DataW.trod_struct Tryz.underlying31 h;rw [show Tryz.prog.cellsOf 31=2 by kernel_rfl] at hlen
 have hx:∀i,i<2->∃y,xs[i]? =some y:=fun i hi=>by
  simp at hxs;exact ⟨_,zz5 zo⟩
 rw [hxd] at hw;have hw:∀n∈DataW.weights Tryz.prog 31 (.agg (xs.map (·.1)):DataW H),n<=reachBytes:=hw
 match cs,hlen with
 | [c0,c1],_=>
  obtain ⟨y0,h0⟩:=hx 0 zo;have f0:DataW.trod enc Tryz.prog W 0 (fun _=>true) true n1 9 (([c0,c1].drop 0).take (Tryz.prog.cellsOf 9))=xs[0]? :=hf 0 _ rfl;rw [h0,show Tryz.prog.cellsOf 9=1 by kernel_rfl] at f0;obtain ⟨z0,e0, -,g0⟩:=DataW.trod_string Tryz.underlying9 f0;have e0:[c0]=[.string z0]:=e0;obtain ⟨y1,h1⟩:=hx 1 zo;have f1:DataW.trod enc Tryz.prog W 0 (fun _=>true) true n1 29 (([c0,c1].drop 1).take (Tryz.prog.cellsOf 29))=xs[1]? :=hf 1 _ rfl;rw [h1,show Tryz.prog.cellsOf 29=1 by kernel_rfl] at f1;have f1:DataW.trod enc Tryz.prog W 0 (fun _=>true) true n1 29 [c1]=some y1:=f1;obtain ⟨l,k1,k2,k3⟩:=a0L (W:=W) (v:=c1) (sz:=6) Att.cells Att.cells_length zd Tryz.underlying29 zk ⟨⟨#[]⟩,V.zero⟩ (fun x=>x.name.size<=reachBytes/\x.v.inn) (fun _ _ _ h hw=>b0K h hw) f1 (fun n hn=>hw n (n9 Tryz.underlying31 (i:=1) (t:=29) rfl (by rw [List.getElem?_map,h1];rfl) hn));cases e0
  obtain ⟨A,cap,rfl⟩:∃A cap,c1= .slice A l.length cap:=by
   obtain ⟨-,a',c',k5, -⟩:=k1;exact ⟨a',c',k5⟩
  exact ⟨z0,A,cap,l,rfl,g0,k1,k2,k3⟩
theorem b0M {fuel:Nat} {cs:List Value} {x:DataW H×List MemPlace} (h:DataW.trod enc Tryz.prog W 0 (fun _=>true) true fuel 33 cs=some x) (hw:∀n∈DataW.weights Tryz.prog 33 x.1,n<=reachBytes):
 ∃(z0 z1 z5 z7:Int) (r:PRu) (z6 fs es:ByteArray) (ra fa qa:Option Addr) (rc fc qc:Nat) (fl:List Cnd) (q:List Att),cs=[.int .i64 z0,.int .i64 z1,.int .i64 r.kind,.int .i64 r.tenant,.string r.who,.int .i64 r.broker,.string r.sc,.slice ra r.cs.length rc,.string r.name,.int .i64 r.at_,.string fs,.slice fa fl.length fc,.string es,.slice qa q.length qc,.int .i64 z5,.string z6,.int .i64 z7]/\
  j3 W 7 (.slice ra r.cs.length rc) r.cs.length (m5 r.cs)/\j3 W 7 (.slice fa fl.length fc) fl.length (m5 fl)/\j3 W 6 (.slice qa q.length qc) q.length (k7 q)/\q.length<=maxLen/\es.size<=maxLen/\∀a∈q,a.name.size<=reachBytes/\a.v.inn:=by
 obtain ⟨xs,n1, -,hxd,hlen,hxs,hf⟩:=DataW.trod_struct Tryz.underlying33 h;rw [show Tryz.prog.cellsOf 33=17 by kernel_rfl] at hlen
 have hx:∀i,i<8->∃y,xs[i]? =some y:=fun i hi=>by
  simp at hxs;exact ⟨_,zz5 zo⟩
 match cs,hlen with
 |[c0,c1,c2,c3,c4,c5,c6,c7,c8,c9,c10,c11,c12,c13,c14,c15,c16],_=>
  obtain ⟨y0,h0⟩:=hx 0 zo;have f0:DataW.trod enc Tryz.prog W 0 (fun _=>true) true n1 3 (([c0,c1,c2,c3,c4,c5,c6,c7,c8,c9,c10,c11,c12,c13,c14,c15,c16].drop 0).take (Tryz.prog.cellsOf 3))=xs[0]? :=hf 0 _ rfl;rw [h0,show Tryz.prog.cellsOf 3=1 by kernel_rfl] at f0;obtain ⟨z0,e0, -,w0⟩:=DataW.trod_int Tryz.underlying3 f0;have e0:[c0]=[.int .i64 z0]:=e0;have g0: -9223372036854775808<=z0/\z0<=9223372036854775807:=by simpa [Lit.wf,IntKind.min,IntKind.max,IntKind.signed,IntKind.bits] using w0
  obtain ⟨y1,h1⟩:=hx 1 zo;have f1:DataW.trod enc Tryz.prog W 0 (fun _=>true) true n1 3 (([c0,c1,c2,c3,c4,c5,c6,c7,c8,c9,c10,c11,c12,c13,c14,c15,c16].drop 1).take (Tryz.prog.cellsOf 3))=xs[1]? :=hf 1 _ rfl;rw [h1,show Tryz.prog.cellsOf 3=1 by kernel_rfl] at f1;obtain ⟨z1,e1, -,w1⟩:=DataW.trod_int Tryz.underlying3 f1;have e1:[c1]=[.int .i64 z1]:=e1;have g1: -9223372036854775808<=z1/\z1<=9223372036854775807:=by simpa [Lit.wf,IntKind.min,IntKind.max,IntKind.signed,IntKind.bits] using w1
  obtain ⟨y2,h2⟩:=hx 2 zo;have f2:DataW.trod enc Tryz.prog W 0 (fun _=>true) true n1 28 (([c0,c1,c2,c3,c4,c5,c6,c7,c8,c9,c10,c11,c12,c13,c14,c15,c16].drop 2).take (Tryz.prog.cellsOf 28))=xs[2]? :=hf 2 _ rfl;rw [h2,show Tryz.prog.cellsOf 28=8 by kernel_rfl] at f2;rw [hxd] at hw;have hw:∀n∈DataW.weights Tryz.prog 33 (.agg (xs.map (·.1)):DataW H),n<=reachBytes:=hw;obtain ⟨r,e2,g2⟩:=a3S f2 (fun n hn=>hw n (n9 Tryz.underlying33 (i:=2) (t:=28) rfl (by rw [List.getElem?_map,h2];rfl) hn));have e2:[c2,c3,c4,c5,c6,c7,c8,c9]=[.int .i64 r.kind,.int .i64 r.tenant,.string r.who,.int .i64 r.broker,.string r.sc,.slice r.ca r.cs.length r.cc,.string r.name,.int .i64 r.at_]:=e2;obtain ⟨y3,h3⟩:=hx 3 zo;have f3:DataW.trod enc Tryz.prog W 0 (fun _=>true) true n1 26 (([c0,c1,c2,c3,c4,c5,c6,c7,c8,c9,c10,c11,c12,c13,c14,c15,c16].drop 10).take (Tryz.prog.cellsOf 26))=xs[3]? :=hf 3 _ rfl;rw [h3,show Tryz.prog.cellsOf 26=2 by kernel_rfl] at f3;obtain ⟨fs,fa,fc,fl,e3,g3⟩:=a2g f3 (fun n hn=>hw n (n9 Tryz.underlying33 (i:=3) (t:=26) rfl (by rw [List.getElem?_map,h3];rfl) hn));have e3:[c10,c11]=[.string fs,.slice fa fl.length fc]:=e3;obtain ⟨y4,h4⟩:=hx 4 zo;have f4:DataW.trod enc Tryz.prog W 0 (fun _=>true) true n1 31 (([c0,c1,c2,c3,c4,c5,c6,c7,c8,c9,c10,c11,c12,c13,c14,c15,c16].drop 12).take (Tryz.prog.cellsOf 31))=xs[4]? :=hf 4 _ rfl;rw [h4,show Tryz.prog.cellsOf 31=2 by kernel_rfl] at f4;obtain ⟨es,qa,qc,q,e4,g4,k1,k2,k3⟩:=b0L f4 (fun n hn=>hw n (n9 Tryz.underlying33 (i:=4) (t:=31) rfl (by rw [List.getElem?_map,h4];rfl) hn));have e4:[c12,c13]=[.string es,.slice qa q.length qc]:=e4;obtain ⟨y5,h5⟩:=hx 5 zo;have f5:DataW.trod enc Tryz.prog W 0 (fun _=>true) true n1 3 (([c0,c1,c2,c3,c4,c5,c6,c7,c8,c9,c10,c11,c12,c13,c14,c15,c16].drop 14).take (Tryz.prog.cellsOf 3))=xs[5]? :=hf 5 _ rfl;rw [h5,show Tryz.prog.cellsOf 3=1 by kernel_rfl] at f5;obtain ⟨z5,e5, -,w5⟩:=DataW.trod_int Tryz.underlying3 f5;have e5:[c14]=[.int .i64 z5]:=e5;have g5: -9223372036854775808<=z5/\z5<=9223372036854775807:=by simpa [Lit.wf,IntKind.min,IntKind.max,IntKind.signed,IntKind.bits] using w5
  obtain ⟨y6,h6⟩:=hx 6 zo;have f6:DataW.trod enc Tryz.prog W 0 (fun _=>true) true n1 9 (([c0,c1,c2,c3,c4,c5,c6,c7,c8,c9,c10,c11,c12,c13,c14,c15,c16].drop 15).take (Tryz.prog.cellsOf 9))=xs[6]? :=hf 6 _ rfl;rw [h6,show Tryz.prog.cellsOf 9=1 by kernel_rfl] at f6;obtain ⟨z6,e6, -,g6⟩:=DataW.trod_string Tryz.underlying9 f6;have e6:[c15]=[.string z6]:=e6;obtain ⟨y7,h7⟩:=hx 7 zo;have f7:DataW.trod enc Tryz.prog W 0 (fun _=>true) true n1 3 (([c0,c1,c2,c3,c4,c5,c6,c7,c8,c9,c10,c11,c12,c13,c14,c15,c16].drop 16).take (Tryz.prog.cellsOf 3))=xs[7]? :=hf 7 _ rfl;rw [h7,show Tryz.prog.cellsOf 3=1 by kernel_rfl] at f7;obtain ⟨z7,e7, -,w7⟩:=DataW.trod_int Tryz.underlying3 f7;have e7:[c16]=[.int .i64 z7]:=e7;have g7: -9223372036854775808<=z7/\z7<=9223372036854775807:=by simpa [Lit.wf,IntKind.min,IntKind.max,IntKind.signed,IntKind.bits] using w7
  cases e0
  cases e1
  cases e2
  cases e3
  cases e4
  cases e5
  cases e6
  cases e7
  exact ⟨z0,z1,z5,z7,r.pru,z6,fs,es,r.ca,fa,qa,r.cc,fc,qc,fl,q,rfl,g2.fil.rd,g3.rd,k1,k2,g4,k3⟩
theorem b0N {base:Nat} {v:Value} {d:DataW H} {p:List MemPlace} (hok:Value.okWide Tryz.prog W .any base 33 v)
 (h:DataW.Trod enc Tryz.prog W 0 (fun _=>true) true 33 v d p) (hw:∀n∈DataW.weights Tryz.prog 33 d,n<=reachBytes):
 ∃(z0 z1 z5 z7:Int) (r:PRu) (z6 fs es:ByteArray) (ra fa qa:Option Addr) (rc fc qc:Nat) (fl:List Cnd) (q:List Att),v= .agg #[.int .i64 z0,.int .i64 z1,.int .i64 r.kind,.int .i64 r.tenant,.string r.who,.int .i64 r.broker,.string r.sc,.slice ra r.cs.length rc,.string r.name,.int .i64 r.at_,.string fs,.slice fa fl.length fc,.string es,.slice qa q.length qc,.int .i64 z5,.string z6,.int .i64 z7]/\
  j3 W 7 (.slice ra r.cs.length rc) r.cs.length (m5 r.cs)/\j3 W 7 (.slice fa fl.length fc) fl.length (m5 fl)/\j3 W 6 (.slice qa q.length qc) q.length (k7 q)/\q.length<=maxLen/\es.size<=maxLen/\∀a∈q,a.name.size<=reachBytes/\a.v.inn:=by
 obtain ⟨cs,rfl,hsz⟩:=okWide_struct Tryz.underlying33 hok;obtain ⟨m,hm⟩:=h;obtain ⟨z0,z1,z5,z7,r,z6,fs,es,ra,fa,qa,rc,fc,qc,fl,q,h1,h2⟩:=b0M (cs:=cs.toList) hm hw;exact ⟨z0,z1,z5,z7,r,z6,fs,es,ra,fa,qa,rc,fc,qc,fl,q,by rw [<-Array.toArray_toList (xs:=cs),h1],h2⟩
end
end
open Go.RowKit
theorem a8B (M:List (Int×Fil)) (near:List Int) (n:Int) (G:Int->List Fil):I0 M (near++[n]) G=T8 (I0 M near G) n (B8 M n):=by
 induction near generalizing G with
 |nil=>rfl
 |cons a near ih=>exact ih _
theorem a8C (M:List (Int×Fil)) (ten:Int) (near:List Int) (n:Int) (G:Int->List Fil):A3 M ten (near++[n]) G=A3 M ten near G++X4 n ten (I0 M near G n) (B8 M n):=by
 induction near generalizing G with
 |nil=>simp [A3,I0]
 |cons a near ih=>
  show X4 a ten (G a) (B8 M a)++A3 M ten (near++[n]) (T8 G a (B8 M a))=(X4 a ten (G a) (B8 M a)++A3 M ten near (T8 G a (B8 M a)))++_;rw [ih,zz12];rfl
theorem b5x {l:List Fil} (h:l.Pairwise fun a b=>j5 a<j5 b) {i:Nat} {f:Fil} (hi:l[i]? =some f):kF l (j5 f)=some f:=by
 unfold kF
 induction l generalizing i with
 |nil=>cases hi
 | cons a l ih=>
  rw [List.pairwise_cons] at h
  cases i with
  |zero=>
   cases hi
   rw [List.find?_cons];simp
  | succ i=>
   have hi':l[i]? =some f:=hi;have h1:=h.1 f (zz8 hi');rw [List.find?_cons]
   have hne:(j5 a==j5 f)=false:=by
    rw [beq_eq_false_iff_ne];intro e;rw [e] at h1;exact absurd h1 (List.lt_irrefl _)
   rw [hne];exact ih h.2 hi'
theorem a4e {a b:List Fil} {j:Nat} {f:Fil} (h:a[j]? =some f):K4 (a.take (j+1)) b=K4 (a.take j) b++if (kF b (j5 f)).isNone then [f] else []:=by
 unfold K4;rw [List.take_add_one,h,Option.toList_some,List.filter_append];congr 1;cases hk:(kF b (j5 f)).isNone<;>simp [hk]
theorem b4I (w0 w:World) (hl:N8 w0 w) (sc:ByteArray) (cv:Value) (l:List Cnd) (hv:j3 w 7 cv l.length (m5 l)) (hll:l.length<20) (hcs:∀c∈l,c.fits) (hsc:sc.size<=1000000):
 Calls Tryz.prog 65 #[.agg #[.string sc,cv]] w fun e w'=>e= .returned (.string (str (j5 (sc,j4 l))))/\Mod (fun _=>False) w w':=by
 obtain ⟨wa,aD,ah,ae,au⟩:=g8 w (.cells #[.string sc,cv] 26);have hnm:=Y7 w0 wa (hl.mod0 ah) sc cv l (hv.mod ah zi) hll hcs;have c0:wa.cell? ⟨w.heap.size,0,none⟩=some (.string sc):=d6 ae rfl;have c1:wa.cell? ⟨w.heap.size,1,none⟩=some cv:=d6 ae rfl;obtain ⟨nl,hnl⟩:∃nl,j4 l=nl:=⟨_,rfl⟩;rw [hnl] at hnm⊢;have hnf:∀c∈nl,c.fits:=by rw [<-hnl];exact G6 hcs
 have hlen:nl.length<20:=by rw [<-hnl];exact Nat.lt_of_le_of_lt (D9 l) hll
 obtain ⟨Hl,Hv,gY,ik,Hnl,yZ,aF,aB,aH⟩:=zh9 hl hv hcs hnm hnl hnf aD ah ae;clear hl hv hcs hnm hnl hnf aD ah ae au
 go_enter Tryz.func65,Tryz.ntmps65
 go_wp2_with (rw [show w.alloc _=wa from aF.out])
 refine ik.out.mono ?_;rintro e w2 ⟨na,nc,rfl,hno,hnb,hm2⟩;have aG:=aB.out.trans hm2 zi;have hpr:=a2e w0 w2 (Hl.out.mod0 aG) sc (.slice na nl.length nc) nl hno.rd zo hsc yZ.out;obtain ⟨Hno,gM,bq,aI,u7⟩:=zh5 hno hnb hm2 aG hpr;clear hno hnb hm2 aG hpr
 go_wp2_with fail
 refine u7.out.mono ?_;rintro e w3 ⟨rfl,aC⟩;have hm:=aI.out.trans aC zi;have Hm:=zh hm;clear hm
 go_wp2_with fail
 go_ret;exact ⟨rfl,Hm.out⟩
theorem b4J {w w6:World} {own C:Nat->Prop} {mi N n6:Nat} {g g':List UInt8->Option Fil} {fi:Lit->Option Value} {key:List UInt8} (h3:∀k,D4 w own C (fi (.string k)) (g k))
 (h6:p6 w6 9 mi n6 (b18 fi (.string key))) (hn:n6<=N) (hm:Mod (fun k=>k=mi) w w6) (ja:¬C mi) (hg:∀k,g' k=if k=key then none else g k):KAt w6 own C mi N g':=by
 refine ⟨_,_,h6,hn,fun k=> ?_⟩;rw [hg];unfold b18;by_cases e:k=key
 ·rw [if_pos e,if_pos (by rw [e])];trivial
 rw [if_neg e,if_neg (fun h=>e (Lit.string.inj h))];exact (h3 k).mod2 hm (fun k _ e h=>ja (e▸h))
theorem a4f {M:List (Int×Fil)} {p:Int×Fil} {id:Int} {k:List UInt8} (h:p∈a4F M id k):p∈M:=(List.mem_filter.1 h).1
theorem b4K {w w8:World} {b mo mi N n:Nat} {own C:Nat->Prop} {M:List (Int×Fil)} {f:Lit->Option Value} {id:Int} {key:List UInt8} (h:a0e w b mo own C M N) (hO:p6 w 3 mo n f) (hn:n<=N)
 (hf1:∀id:Int,a3b w own C b mo N (o5 M id) (f (.int .i64 id))) (hf2:∀(x y:Int) mi,f (.int .i64 x)=some (.map (some mi))->f (.int .i64 y)=some (.map (some mi))->x=y)
 (oW:f (.int .i64 id)=some (.map (some mi))) (ja:own mi/\mi≠b/\mi≠mo) (hK:KAt w8 own C mi N (o5 (a4F M id key) id)) (hm:Mod (fun k=>k=mi) w w8):a0e w8 b mo own C (a4F M id key) N:=by
 refine ⟨hm.heap h.row (fun e=>ja.2.1 e.symm),h.ob,h.ne,⟨n,f,hO.mod hm (fun e=>ja.2.2 e.symm),hn,fun x=> ?_,hf2⟩,h.nd.sublist List.filter_sublist,Nat.le_trans (List.length_filter_le _ _) h.low,h.dis,fun k hk=>zz13 (h.olow k hk) hm.size,fun k hk=>zz13 (h.clow k hk) hm.size,fun p hp=>h.wf p (a4f hp),fun p hp=>h.sc p (a4f hp)⟩;by_cases e:x=id
 ·subst e;rw [oW];exact ⟨mi,rfl,ja.1,ja.2.1,ja.2.2,hK⟩
 have h1:=(hf1 x).mod hm (fun m hm' hf=>e (hf2 x id mi (by rw [hm',hf]) oW)) (fun k hk hf hc=>h.dis k (hf▸ja.1) hc);exact h1.cong (fun k _ _ h=>h) (fun _ h=>h) (fun _ h=>h) (Nat.le_refl _) (fun k=>by rw [a6H,if_neg (fun h=>e h.1)])
def b2J (w:World) (b:Nat) (own C:Nat->Prop) (M:List (Int×Fil)) (N:Nat) (id:Int) (k:List UInt8) (e:Ending) (w':World):Prop:=
 (o5 M id k=none/\e= .returned (.bool false)/\Mod (fun _=>False) w w')\/(o5 M id k≠none/\e= .returned (.bool true)/\Tab w' b own C (a4F M id k) N/\Mod own w w')
theorem b4L (w0 w:World) (hl:N8 w0 w) (b:Nat) (own C:Nat->Prop) (M:List (Int×Fil)) (N:Nat) (h:Tab w b own C M N) (_hN:N<=100000) (id:Int) (hid:(Lit.int .i64 id).wf=true)
 (sc:ByteArray) (cv:Value) (l:List Cnd) (hv:j3 w 7 cv l.length (m5 l)) (hll:l.length<20) (hcs:∀c∈l,c.fits) (hsc:sc.size<=1000000):
 Calls Tryz.prog 30 #[.pointer (some ⟨b,0,none⟩),.int .i64 id,.agg #[.string sc,cv]] w (b2J w b own C M N id (j5 (sc,j4 l))):=by
 obtain ⟨mo,h⟩:=h;obtain ⟨a,cap,rfl,hcap⟩:∃a c,cv= .slice a l.length c/\l.length<=c:=by obtain ⟨-,a,c,h,h2, -⟩:=hv;exact ⟨a,c,h,h2⟩
 obtain ⟨wa,aD,ah,ae,au⟩:=g8 w (.cells #[.string sc,.slice a l.length cap] 26);have hk:=b4I w0 wa (hl.mod0 ah) sc (.slice a l.length cap) l (hv.mod ah zi) hll hcs hsc;have xE:=J8 sc (j4 l) (G6 hcs);have nJ:(j4 l).length<20:=Nat.lt_of_le_of_lt (D9 l) hll;obtain ⟨key,hkey⟩:∃key,j5 (sc,j4 l)=key:=⟨_,rfl⟩;rw [hkey] at hk⊢;have hkl:key.length<=1000000000:=by rw [show q6 sc (j4 l)=key from hkey] at xE;omega
 have c0:wa.cell? ⟨w.heap.size,0,none⟩=some (.string sc):=d6 ae rfl;have c1:wa.cell? ⟨w.heap.size,1,none⟩=some (.slice a l.length cap):=d6 ae rfl;obtain ⟨Hl,H,Hv,gY,aF,aB,aH,Hk,Hid,fO⟩:=zh10 hl h hv hcs aD ah ae hk hid hkey;clear hl h hv hcs aD ah ae hk hid hkey au xE
 go_enter Tryz.func30,Tryz.ntmps30
 go_wp2_with (rw [show w.alloc _=wa from aF.out])
 refine Hk.out.mono ?_;rintro e w4 ⟨rfl,aR⟩;have aY:=aB.out.trans aR zi;have mD:=H.out.mod aY (fun _ _ h=>h.elim);obtain ⟨n,f,hf1,hf2,hf3,nN⟩:=mD.om;have hlk:=hf1.look r5 Tryz.underlying92 (Q6 w4) (Maps.keyOf_int_mk Tryz.underlying3 Hid.out);obtain ⟨s,fa,fn,fc,hlk2⟩:=a9E (hf3 id) key (by unfold maxLen;omega);obtain ⟨ok,hok⟩:∃ok,(o5 M id key).isSome=ok:=⟨_,rfl⟩;rw [hok] at hlk2;have b0:w4.cell? ⟨b,0,none⟩=some (.map (some mo)):=d6 mD.row rfl;obtain ⟨w5,gN,ed,rM,Cm⟩:=g8 w4 (.cells #[.string s,.slice fa fn fc] 26);have Cn:=mD.mod ed (fun _ _ h=>h.elim);have b5:w5.cell? ⟨b,0,none⟩=some (.map (some mo)):=d6 Cn.row rfl;have hv5:=fun x=>(hf3 x).mod ed zi (fun _ _ h=>h.elim);have gH:=hf1.mod ed (fun h=>h);have Co:=gH.look r5 Tryz.underlying92 (Q6 w5) (Maps.keyOf_int_mk Tryz.underlying3 Hid.out);have hval:=(hv5 id).val;obtain ⟨vv,hvv⟩:∃vv,(f (.int .i64 id)).getD (.map none)=vv:=⟨_,rfl⟩;rw [hvv] at hlk hlk2 Co hval;have bH:=aY.trans ed zi;obtain ⟨xx,Cq,mE,xy,uQ,bO,Ht4,Hf1,lL,Cr,xg,dN⟩:=zh12 Cn hv5 gH hval hvv bH mD hf1 hf2 hf3 nN aR;obtain ⟨bK,QL,QM,qA,eP⟩:=zh5 aY ed rM gN hok;clear Cn hv5 gH hval hvv bH mD hf1 hf2 hf3 nN aR aY ed rM gN hok Cm c0 c1
 cases ok with
 |false=>
  go_wp2_with ((with_reducible refine d9 26 (.tmp 8) (.tmp 21) ?_);refine ⟨rfl,[.string s,.slice fa fn fc],rfl,rfl,zk,rfl, ?_⟩;rw [qA.out])
  go_ret;refine .inl ⟨?_,rfl,bO.out⟩;have h1:=eP.out
  cases h2:o5 M id key with
  |none=>rfl
  |some q=>rw [h2] at h1;cases h1
 | true=>
  have nI:o5 M id key≠none:=fun h=>by have h1:=eP.out;rw [h] at h1;cases h1
  rcases xy.out with ⟨-, -,hgn⟩|⟨mi,hfn,rfl,jJ,xz,rQ,Ji⟩
  ·exact absurd (hgn key) nI
  obtain ⟨ni,fi,hi1,hi2,hi3⟩:=Ji;obtain ⟨w8,hd1,hd2,hd3⟩:=hi1.del r6 Tryz.underlying142 (X5 key (by unfold maxLen;omega)) 0;have rU:KAt w8 own C mi N (o5 (a4F M id key) id):=b4J hi3 hd2 (by split<;>omega) hd3 (H.out.dis _ jJ) (fun k=>by rw [a6H];simp);have hT:=b4K xx.out mE.out lL.out Cq.out xg.out hfn ⟨jJ,xz,rQ⟩ rU hd3
  have kU:Mod own w w8:=(bO.out.mono (fun _ _ h=>h.elim)).trans hd3 (fun k hk h=>by
   have h2:k=mi:=h
   rw [h2];exact jJ)
  obtain ⟨uZ,vw,rW,yT,qy,NN,Hd2,Hd3,WH,HT,rV⟩:=zh11 nI hfn jJ hi1 hi2 hi3 hd2 hd3 rU hT kU;clear nI hfn jJ hi1 hi2 hi3 hd2 hd3 rU hT kU
  go_wp2_with ((with_reducible refine d9 26 (.tmp 8) (.tmp 21) ?_);refine ⟨rfl,[.string s,.slice fa fn fc],rfl,rfl,zk,rfl, ?_⟩;rw [qA.out])
  go_ret;exact .inr ⟨uZ.out,rfl,⟨mo,HT.out⟩,rV.out⟩
theorem b2K (n:Int) (k:Nat) (hk:k<63):bits .and .i64 n ((2^k - 1:Nat):Int)=n%((2^k:Nat):Int):=by
 have hp:2^k<2^63:=Nat.pow_lt_pow_right zd hk;have hp0:0<2^k:=Nat.two_pow_pos k
 have h127:(BitVec.ofInt 64 ((2^k - 1:Nat):Int)).toNat=2^k - 1:=by
  rw [BitVec.toNat_ofInt];omega
 have key:(BitVec.ofInt 64 n&&&BitVec.ofInt 64 ((2^k - 1:Nat):Int)).toNat=(n%((2^64:Nat):Int)).toNat%2^k:=by
  rw [BitVec.toNat_and,BitVec.toNat_ofInt,h127,Nat.and_two_pow_sub_one_eq_mod]
 show IntKind.i64.wrap ((BitVec.ofInt 64 n&&&BitVec.ofInt 64 ((2^k - 1:Nat):Int)).toNat:Nat)=n%((2^k:Nat):Int);rw [key,IntKind.wrap_i64];have h1:(n%((2^64:Nat):Int)).toNat%2^k<2^k:=Nat.mod_lt _ hp0
 have h2:(((n%((2^64:Nat):Int)).toNat%2^k:Nat):Int)=n%((2^k:Nat):Int):=by
  rw [Int.natCast_emod,Int.toNat_of_nonneg (Int.emod_nonneg _ zd)];exact Int.emod_emod_of_dvd n (by exact_mod_cast Nat.pow_dvd_pow 2 zo)
 rw [<-h2]
 generalize (n%((2^64:Nat):Int)).toNat%2^k=q at*
 omega
structure Fr where
 sc:ByteArray
 a:Option Addr
 c:Nat
 cs:List Cnd
def Fr.cells (f:Fr):List Value:=[.string f.sc,.slice f.a f.cs.length f.c]
def Fr.fil (f:Fr):Fil:=(f.sc,f.cs)
theorem b2L {n:Int} (h:0<=n/\n<=1000000):(Lit.int .i64 n).wf=true:=by
 simp only [Lit.wf,Bool.and_eq_true,decide_eq_true_eq];exact ⟨show (-9223372036854775808:Int)<=n by omega,show n<=(9223372036854775807:Int) by omega⟩
section
open Go.RowKit Go.Sort
theorem a1O (mb:Option Nat) (w:World):Calls Tryz.prog 64 #[.map mb] w fun e w'=>e= .returned (.func (.func 98) #[] #[.pointer (some ⟨w.heap.size,0,none⟩)])/\w'=w.alloc (.cells #[.map mb] 142):=
 Tryz.maps_Keys_64 mb w
theorem a1l {w:World} {b n:Nat} {f:Lit->Option Value} (h:p6 w 9 b n f) (hn:n<=1000000) {L:List (List UInt8)} (hnd:L.Nodup) (hm:∀x,x∈L↔(f (.string x)).isSome=true):
 Calls Tryz.prog 63 #[.func (.func 98) #[] #[.pointer (some ⟨w.heap.size,0,none⟩)]] (w.alloc (.cells #[.map (some b)] 142)) (S6 (w.alloc (.cells #[.map (some b)] 142)) 9 ((K2 L).map encStr)):=by
 obtain ⟨D,h1,h2,h3⟩:=h.keysS r6 Tryz.underlying9 hnd hm;refine (Tryz.slices_Sorted_64 b n D a3a w h1 (by rw [h3];unfold maxLen;omega) (by rw [h3];omega)).mono ?_;rintro e w' ⟨v,ss,rfl,hp,hrow, -,hb⟩;obtain ⟨r1,r2⟩:=a6C hrow;have hs:ss.mergeSort (fun x y=>decide (x<=y))=K2 L:=mergeSort_of_perm (hp.trans h2.symm);have hl:ss.length=(K2 L).length:=by rw [<-hs,List.length_mergeSort]
 rw [hs,hl] at r1;exact ⟨v,rfl,by rw [zz10];exact r1,r2,⟨hb.os,hb.tape,hb.output,hb.size,fun k hk _=>hb.block k hk⟩⟩
theorem a2Q (w:World):
 Calls Tryz.prog 63 #[.func (.func 98) #[] #[.pointer (some ⟨w.heap.size,0,none⟩)]] (w.alloc (.cells #[.map none] 142)) (S6 (w.alloc (.cells #[.map none] 142)) 9 []):=by
 refine (Tryz.slices_Sorted_nil_64 w).mono ?_;rintro e w' ⟨rfl,hb⟩;exact ⟨_,rfl,j2.nil _ _ _,fun k hk=>by simp [Value.ownBlock] at hk,⟨hb.os,hb.tape,hb.output,hb.size,fun k hk _=>hb.block k hk⟩⟩
theorem a5M {α:Type} {enc:α->Value} {w:World} {a:Option Addr} {n cap:Nat} {l:List α} {j:Nat} {x:α} (h:j3 w 1 (.slice a n cap) n (l.map enc)) (hx:l[j]? =some x):∃g off,a=some ⟨g,off,none⟩/\w.cell? ⟨g,off+j,none⟩=some (enc x):=by
 obtain ⟨h0,a',c',h1, -,h3,h4⟩:=h;cases h1
 have hj:=(zz6 hx).1;have hn:n=l.length:=by rw [zz10] at h0;omega
 cases a with
 |none=>exact absurd (h3 rfl) zo
 |some ad=>
  obtain ⟨g,off,rfl,hc⟩:=h4 ad rfl zo;refine ⟨g,off,rfl,hc j (enc x) ?_⟩;rw [List.getElem?_map,hx];rfl
def FrC (w:World) (C:Nat->Prop) (f:Fr):Prop:=j2 w 87 7 (.slice f.a f.cs.length f.c) f.cs.length (m5 f.cs)/\∀k,(Value.slice f.a f.cs.length f.c).ownBlock=some k->k<w.heap.size/\C k
theorem FrC.mod {w w':World} {F C:Nat->Prop} {f:Fr} (h:FrC w C f) (hm:Mod F w w') (hF:∀k,k<w.heap.size->F k->¬C k):FrC w' C f:=⟨h.1.mod hm (fun k hk hf=>hF k (h.2 k hk).1 hf (h.2 k hk).2),fun k hk=>⟨zz13 (h.2 k hk).1 hm.size,(h.2 k hk).2⟩⟩
theorem a4g {w:World} {own C:Nat->Prop} {v:Option Value} {q:Option Fil} (h:D4 w own C v q) (hq:q≠none):∃f:Fr,v=some (.agg #[.string f.sc,.slice f.a f.cs.length f.c])/\q=some f.fil/\FrC w C f:=by
 cases v<;>cases q
 ·exact absurd rfl hq
 ·exact h.elim
 ·exact h.elim
 rename_i v q
 obtain ⟨a,cap,rfl,h2,h3⟩:=h;exact ⟨⟨q.1,a,cap,q.2⟩,rfl,rfl,h2,fun k hk=>⟨(h3 k hk).1,(h3 k hk).2.2⟩⟩
theorem a9H:E7 Tryz.prog 41 26 2 40:=O8 zk zk
def a09 (M:List (Int×Fil)) (id:Int):List (List UInt8):=(M.filter fun p=>p.1==id).map fun p=>j5 p.2
theorem a0V {M:List (Int×Fil)} {id:Int} {k:List UInt8}:k∈a09 M id↔(o5 M id k).isSome=true:=by
 unfold a09;constructor
 ·intro h;obtain ⟨p,h0,rfl⟩:=List.mem_map.1 h;obtain ⟨h1,h2⟩:=List.mem_filter.1 h0
  cases hf:o5 M id (j5 p.2) with
  |some q=>rfl
  |none=>
   obtain ⟨x,q⟩:=p;have e:x=id:=by simpa using h2
   subst e;exact absurd rfl (a2j hf q h1)
 intro h
 cases hf:o5 M id k with
 |none=>rw [hf] at h;cases h
 |some q=>
  obtain ⟨h1,h2⟩:=X0 hf;exact List.mem_map.2 ⟨(id,q),List.mem_filter.2 ⟨h1,by simp⟩,h2⟩
theorem a66 {M:List (Int×Fil)} (h:M.Pairwise fun p q=>¬(p.1=q.1/\j5 p.2=j5 q.2)) (id:Int):(a09 M id).Nodup:=by
 unfold a09;refine List.pairwise_map.2 ((h.filter _).imp_of_mem fun {a b} ha hb h e=>h ⟨?_,e⟩);have h1:=(List.mem_filter.1 ha).2;have h2:=(List.mem_filter.1 hb).2;simp only [beq_iff_eq] at h1 h2;rw [h1,h2]
theorem a5e (M:List (Int×Fil)) (id:Int):(a09 M id).length<=M.length:=by
 unfold a09;rw [zz10];exact List.length_filter_le _ _
def a1m (M:List (Int×Fil)) (id:Int):List Fil:=(K2 (a09 M id)).filterMap (o5 M id)
def a67 (w:World) (C:Nat->Prop) (L:List Fil) (e:Ending) (w':World):Prop:=
 ∃v,∃l:List Fr,e= .returned v/\j2 w' 26 2 v l.length (l.flatMap Fr.cells)/\(∀k,v.ownBlock=some k->w.heap.size<=k)/\l.map Fr.fil=L/\(∀f∈l,FrC w' C f)/\Mod (fun _=>False) w w'
def a5N (w1:World) (C:Nat->Prop) (K:List (List UInt8)) (g:List UInt8->Option Fil) (ov iv:Value) (wr:World):Prop:=
 ∃(j:Nat) (l:List Fr) (oa:Option Addr) (oc:Nat),iv= .int .i64 j/\j<=K.length/\l.length<=j/\ov= .slice oa l.length oc/\l.map Fr.fil=(K.take j).filterMap g/\j2 wr 26 2 ov l.length (l.flatMap Fr.cells)/\(∀k,ov.ownBlock=some k->w1.heap.size<=k)/\(∀f∈l,FrC wr C f)/\Mod (fun _=>False) w1 wr
theorem b4M (w:World) (b:Nat) (own C:Nat->Prop) (M:List (Int×Fil)) (N:Nat) (h:Tab w b own C M N) (hN:N<=100000) (id:Int) (hid:(Lit.int .i64 id).wf=true):
 Calls Tryz.prog 105 #[.pointer (some ⟨b,0,none⟩),.int .i64 id] w (a67 w C (a1m M id)):=by
 obtain ⟨mo,h⟩:=h;have b0:w.cell? ⟨b,0,none⟩=some (.map (some mo)):=d6 h.row rfl;obtain ⟨n,f,hf1,hf2,hf3,nN⟩:=h.om;have hkx:=Maps.keyOf_int_mk Tryz.underlying3 hid;have hlk:=hf1.look r5 Tryz.underlying92 (Q6 w) hkx;have hval:=(hf3 id).val;obtain ⟨vv,hvv⟩:∃vv,(f (.int .i64 id)).getD (.map none)=vv:=⟨_,rfl⟩;rw [hvv] at hlk hval
 obtain ⟨mb,rfl,hsort⟩:∃mb,vv= .map mb/\Calls Tryz.prog 63 #[.func (.func 98) #[] #[.pointer (some ⟨w.heap.size,0,none⟩)]] (w.alloc (.cells #[.map mb] 142)) (S6 (w.alloc (.cells #[.map mb] 142)) 9 ((K2 (a09 M id)).map encStr)):=by
  rcases hval with ⟨-,rfl,hg⟩|⟨mi, -,rfl, -, -, -,Ji⟩
  ·have e:a09 M id=[]:=List.eq_nil_iff_forall_not_mem.2 fun k hk=>by rw [a0V,hg k] at hk;cases hk
   refine ⟨none,rfl, ?_⟩;rw [e,show K2 []=[] from List.mergeSort_nil];exact a2Q w
  obtain ⟨ni,fi,hi1,hi2,hi3⟩:=Ji;refine ⟨some mi,rfl,a1l hi1 zo (a66 h.nd id) (fun k=> ?_)⟩;rw [a0V];have h3:=hi3 k;cases hk1:fi (.string k)<;>cases hk2:o5 M id k<;>rw [hk1,hk2] at h3
  ·exact Iff.rfl
  ·exact h3.elim
  ·exact h3.elim
  exact Iff.rfl
 have hkeys:=a1O mb w;obtain ⟨w1,hw1⟩:∃w1:World,w.alloc (.cells #[.map mb] 142)=w1:=⟨_,rfl⟩;have hm1:Mod (fun _=>False) w w1:=hw1▸(Mod.refl (fun _=>False) w).alloc _;rw [hw1] at hsort hkeys;obtain ⟨K,hK⟩:∃K,K2 (a09 M id)=K:=⟨_,rfl⟩
 have hKl:K.length<=100000:=by
  rw [<-hK];unfold K2;rw [List.length_mergeSort];exact Nat.le_trans (a5e M id) (Nat.le_trans h.low hN)
 have hKs:∀k∈K,(o5 M id k).isSome=true:=fun k hk=>by rw [<-hK,a0S] at hk;exact a0V.1 hk
 rw [hK] at hsort;unfold a1m;rw [hK];obtain ⟨H,Hf1,lL,Cr,xg,Jk,uQ,xy,kY,kZ,oD,dB⟩:=zh12 h hf1 hf2 hf3 nN hkx hvv hval hsort hkeys hw1 hm1;obtain ⟨HK,HKs⟩:=zh2 hK hKs;clear h hf1 hf2 hf3 nN hkx hvv hval hsort hkeys hw1 hm1 hK hKs
 go_enter Tryz.func105,Tryz.ntmps105
 go_wp2_with fail
 refine kZ.out.mono ?_;rintro e wx ⟨rfl,hwx⟩;obtain rfl:=hwx.symm
 go_wp2_with fail
 refine kY.out.mono ?_;rintro e w2 ⟨sv,rfl,hso,hsb,hm2⟩;obtain ⟨sa,sc,rfl, -⟩:=hso.shape;rw [zz10] at hso⊢;have aG:=dB.out.trans hm2 zi;have di:a5N w2 C K (o5 M id) (.slice none 0 0) (.int .i64 ((0:Nat):Int)) w2:=⟨0,[],none,0,rfl,Nat.zero_le _,Nat.le_refl _,rfl,rfl,j2.nil _ _ _,fun k hk=>by simp [Value.ownBlock] at hk,fun f hf=>(by cases hf),Mod.refl _ _⟩;obtain ⟨oK,HY,bq,aI,fe⟩:=zh5 hso hsb hm2 aG di;clear hso hsb hm2 aG di
 go_wp2_with fail
 go_loopw [5,17] (fun ov i wr=>a5N w2 C K (o5 M id) ov i wr) (fun _ i _=>K.length - (intOf i).toNat)
 case atStart=>exact fe.out
 case round=>
  revert wr;intro wr hrel;obtain ⟨j,l,oa,oc,rfl,hj,hlj,rfl,hlq,hown,dW,hfc,hmr⟩:=hrel;have aU:=aI.out.trans hmr zi;by_cases hlt:j<K.length
  ·have hlt':(j:Int)<K.length:=zo
   obtain ⟨k,hkj⟩:∃k,K[j]? =some k:=⟨_,zz5 hlt⟩;have hks:=HKs.out k (zz8 hkj)
   have lU:k.length<=maxLen:=by
    cases hq:o5 M id k with
    |none=>rw [hq] at hks;cases hks
    |some q=>
     obtain ⟨h1,h2⟩:=X0 hq;have h3:=H.out.wf _ h1;have h4:=J8 q.1 q.2 h3.2.2;have h5:=H.out.sc _ h1;rw [show q6 q.1 q.2=k from h2] at h4;have h6:=h3.2.1;simp only [] at h6 h5;unfold maxLen;omega
   obtain ⟨g,off,rfl,ck⟩:=a5M (oK.out.rd.mod hmr zi) hkj;have ck':wr.cell? ⟨g,off+j,none⟩=some (.string (str k)):=ck;have ht:=H.out.mod aU (fun _ _ h=>h.elim);have br:wr.cell? ⟨b,0,none⟩=some (.map (some mo)):=d6 ht.row rfl;have hv:=(Cr.out id).mod aU zi (fun _ _ h=>h.elim);have hlr:=(Hf1.out.mod aU (fun h=>h)).look r5 Tryz.underlying92 (Q6 wr) Jk.out;rw [uQ.out] at hlr;have hvl:=hv.val;rw [uQ.out] at hvl;rcases hvl with ⟨-, -,hg⟩|⟨mi, -,hmb, -, -, -,ni,fi,hi1,hi2,hi3⟩
   ·rw [hg k] at hks;cases hks
   cases hmb
   obtain ⟨fr,fC,ku,hfr⟩:=a4g (hi3 k) (fun h=>by rw [h] at hks;cases hks);have gp:=hi1.look r6 Tryz.underlying142 (D5 wr) (X5 k lU);rw [fC] at gp;have Ju:(Instr.lookup 142 (.map (some mi)) (.string (str k)) false).run Tryz.prog wr= .ok (.agg #[.string fr.sc,.slice fr.a fr.cs.length fr.c]) wr:=gp
   have hnx:(l++[fr]).map Fr.fil=(K.take (j+1)).filterMap (o5 M id):=by
    rw [List.take_add_one,hkj,List.filterMap_append,<-hlq,List.map_append,Option.toList_some];congr 1;rw [List.filterMap_cons,ku];rfl
   obtain ⟨wz,hwz,ai,aj,aJ⟩:=g8 wr (.cells #[.string fr.sc,.slice fr.a fr.cs.length fr.c] 26);have hrz:j3 wz 2 (.slice (some ⟨wr.heap.size,0,none⟩) 1 1) 1 [.string fr.sc,.slice fr.a fr.cs.length fr.c]:=hwz▸j3.one wr [.string fr.sc,.slice fr.a fr.cs.length fr.c] 26 rfl;have hone:∀u∈([.string fr.sc,.slice fr.a fr.cs.length fr.c]:List Value),u.oneCell'=true:=fun u hu=>zz15 (show ([.string fr.sc,.slice fr.a fr.cs.length fr.c]:List Value).all (·.oneCell')=true from rfl) u hu;have jC:=hown.mod ai zi;have rZ:=hmr.trans ai zi
   have sj:∀f∈l++[fr],FrC wz C f:=fun f hf=>by
    rcases zz14 hf with hf|hf
    ·exact (hfc f hf).mod ai (fun _ _ h=>h.elim)
    obtain rfl:f=fr:=by simpa using hf
    exact hfr.mod ai (fun _ _ h=>h.elim)
   obtain ⟨NR,NS,Ck,Ht,Hv,yT,qy,NN,yX,FI,bB,wQ⟩:=zh12 hkj hks ck ht hv hi1 hi2 hi3 fC ku hfr gp;obtain ⟨dn,bi,bn,aN,qV,aX,nG,su,Cz,aZ,eF,jo⟩:=zh12 hnx hwz ai aj hrz hone jC rZ sj hown dW hfc;obtain ⟨aK,dw,FJ,FK⟩:=zh4 hmr aU hlq lU;clear hkj hks ck ht hv hi1 hi2 hi3 fC ku hfr gp hnx hwz ai aj hrz hone jC rZ sj hown dW hfc hmr aU hlq lU aJ
   go_wp2_with (first|((with_reducible refine B3 41 (.tmp 29) ?_);refine ⟨26,2,Tryz.underlying41,zk,zk,zd,zd,[.string fr.sc,.slice fr.a fr.cs.length fr.c],rfl,rfl, ?_⟩;rw [bi.out])|((with_reducible refine l0 (.tmp 21) (.tmp 30) 41 ?_);refine ⟨rfl,26,2,40,a9H,.slice oa l.length oc,l.length,l.flatMap Fr.cells,rfl,nG.out,_,1,[.string fr.sc,.slice fr.a fr.cs.length fr.c],rfl,qV.out,aX.out,zo,by unfold maxLen;omega, ?_⟩;intro ad cap5 w5 hA;have HA:=Lib.hid hA;clear hA))
   go_roundw
   case rel=>
    refine ⟨j+1,l++[fr],ad,cap5,by go_num,hlt,by rw [zz4,List.length_singleton];omega,by rw [zz4];rfl,dn.out, ?_, ?_,fun f hf=>(Cz.out f hf).mod HA.out.2.1 (fun k hk h=> ?_),su.out.upon HA.out.2.1 (fun k hk=> .inr (eF.out k hk))⟩
    ·rw [zz4,List.flatMap_append];exact HA.out.1
    ·intro k hk;rcases HA.out.2.2 with h3|⟨k',h3,h4⟩
     ·exact eF.out k (h3▸hk)
     rw [h3] at hk;cases hk
     have:=su.out.size;omega
    intro hc;have h1:=H.out.clow _ hc;have h2:=eF.out k h;have h3:=aI.out.size;omega
   case measure=>simp [intOf];omega
  obtain rfl:j=K.length:=zo
  rw [List.take_length] at hlq;obtain ⟨FJ,aZ,eF,jo,aK,dw⟩:=zh6 hlq hown dW hfc hmr aU;clear hlq hown dW hfc hmr aU
  go_wp2_with fail
  go_ret;exact ⟨_,l,rfl,aZ.out,fun k hk=>Nat.le_trans aI.out.size (eF.out k hk),FJ.out,jo.out,dw.out⟩
theorem b51 {l:List Fil} {q:Fil} (h:kF l (j5 q)=none) (k:List UInt8):kF (l++[q]) k=if k=j5 q then some q else kF l k:=by
 unfold kF at*;rw [List.find?_append];by_cases e:k=j5 q
 ·rw [if_pos e,e,h];simp
 rw [if_neg e];have h2:(j5 q==k)=false:=by rw [beq_eq_false_iff_ne];exact fun e2=>e e2.symm
 simp [h2]
theorem Z6.put {w0 w:World} {ow:Ow} {mi:Nat} {l:List Fil} (hw:Owd w0 w ow) (h:Z6 w ow mi l) (hn:l.length<maxLen) (ja:ow mi≠0) (q:Fil) (hk:(j5 q).length<=maxLen) (hq:kF l (j5 q)=none) (a:Option Addr) (cap:Nat) (hv:o3 w ow 7 (.slice a q.2.length cap) q.2.length (m5 q.2)):
 ∃w',(Instr.mapUpdate 142 (.map (some mi)) (.string (str (j5 q))) (.agg #[.string q.1,.slice a q.2.length cap])).run Tryz.prog w= .ok () w'/\Z6 w' ow mi (l++[q])/\Mod (fun k=>k=mi) w w':=by
 obtain ⟨f,h1,h2⟩:=h
 have hfn:f (.string (j5 q))=none:=by
  have:=h2 (j5 q);rw [hq] at this
  cases hf:f (.string (j5 q)) with
  |none=>rfl
  |some v=>rw [hf] at this;exact this.elim
 obtain ⟨w',r1,r2,r3⟩:=h1.put r6 Tryz.underlying142 hn (X5 (j5 q) hk) (.agg #[.string q.1,.slice a q.2.length cap]);have s:Mov (fun t=>t=ow mi) w ow w' ow:=Mov.wrote hw r3 (fun k hk=>by rw [hk]);have h0:¬((0:Nat)=ow mi):=fun e=>ja e.symm;refine ⟨w',r1,⟨P5 f (.string (j5 q)) (.agg #[.string q.1,.slice a q.2.length cap]), ?_,fun k=> ?_⟩,r3⟩
 ·rw [hfn] at r2;rw [zz4,List.length_singleton];exact r2
 rw [b51 hq];unfold P5;by_cases e:k=j5 q
 ·subst e;rw [if_pos rfl,if_pos rfl];exact ⟨a,cap,rfl,hv.mov s h0 zo⟩
 rw [if_neg e,if_neg (fun e2=>e (by cases e2;rfl))];exact (h2 k).mov s h0
def a5O (w:World) (ow:Ow) (v:Value) (l:List Fil):Prop:=(v= .map none/\l=[])\/∃mi,v= .map (some mi)/\Z6 w ow mi l
theorem a5O.ask {w:World} {ow:Ow} {v:Value} {l:List Fil} (h:a5O w ow v l) (k:List UInt8) (hk:k.length<=maxLen):
 ∃(q:Fil) (a:Option Addr) (cap:Nat),(Instr.lookup 142 v (.string (str k)) true).run Tryz.prog w= .ok (.tuple #[.agg #[.string q.1,.slice a q.2.length cap],.bool (kF l k).isSome]) w/\
  (Instr.lookup 142 v (.string (str k)) false).run Tryz.prog w= .ok (.agg #[.string q.1,.slice a q.2.length cap]) w/\(∀p,kF l k=some p->p=q/\o3 w ow 7 (.slice a q.2.length cap) q.2.length (m5 q.2)):=by
 rcases h with ⟨rfl,rfl⟩|⟨mi,rfl,f,h1,h2⟩
 ·refine ⟨(⟨#[]⟩,[]),none,0, ?_, ?_,fun p hp=>by cases hp⟩
  ·rw [show (kF [] k).isSome=false from rfl];simpa using Maps.look_nil (w:=w) true r6 Tryz.underlying142 (D5 w) (X5 k hk)
  simpa using Maps.look_nil (w:=w) false r6 Tryz.underlying142 (D5 w) (X5 k hk)
 have h3:=h1.look_ok r6 Tryz.underlying142 (D5 w) (X5 k hk);have h4:=h1.look r6 Tryz.underlying142 (D5 w) (X5 k hk);have h5:=h2 k
 cases hf:f (.string k) with
 |none=>
  rw [hf] at h3 h4 h5
  cases hq:kF l k with
  |none=>exact ⟨(⟨#[]⟩,[]),none,0,h3,h4,fun p hp=>by cases hp⟩
  |some p=>rw [hq] at h5;exact h5.elim
 | some v=>
  rw [hf] at h3 h4 h5
  cases hq:kF l k with
  |none=>rw [hq] at h5;exact h5.elim
  |some p=>
   rw [hq] at h5;obtain ⟨a,cap,rfl,hc⟩:=h5;exact ⟨p,a,cap,h3,h4,fun p2 hp=>by cases hp;exact ⟨rfl,hc⟩⟩
theorem b6E {l:List Fil} {k:List UInt8}:(kF l k).isSome=true↔k∈l.map j5:=by
 unfold kF;rw [List.find?_isSome,List.mem_map];constructor
 ·rintro ⟨f,h1,h2⟩;exact ⟨f,h1,by simpa using h2⟩
 rintro ⟨f,h1,h2⟩;exact ⟨f,h1,by simpa using h2⟩
theorem a8D {L:List (List UInt8)} (h:L.Pairwise (· < ·)):K2 L=L:=by
 unfold K2;refine List.mergeSort_of_pairwise (h.imp fun {a b} hab=> ?_);unfold leB;exact decide_eq_true (List.le_of_lt hab)
theorem a5O.sorted {w:World} {ow:Ow} {mb:Option Nat} {l:List Fil} (h:a5O w ow (.map mb) l) (hn:l.length<=1000000) (hp:l.Pairwise fun a b=>j5 a<j5 b):
 Calls Tryz.prog 63 #[.func (.func 98) #[] #[.pointer (some ⟨w.heap.size,0,none⟩)]] (w.alloc (.cells #[.map mb] 142)) (S6 (w.alloc (.cells #[.map mb] 142)) 9 ((l.map j5).map encStr)):=by
 rcases h with ⟨e,rfl⟩|⟨mi,e,f,h1,h2⟩
 ·cases e
  exact a2Q w
 ·cases e
  have hpw:(l.map j5).Pairwise (· < ·):=List.pairwise_map.2 hp
  have h3:=a1l h1 hn (L:=l.map j5) (hpw.imp fun {a b} hab e=>absurd (e▸hab) (List.lt_irrefl _)) (fun x=>by
   rw [<-b6E];have h4:=h2 x
   cases hf:f (.string x)<;>cases hq:kF l x<;>rw [hf,hq] at h4<;>first|exact h4.elim|simp)
  rw [a8D hpw] at h3;exact h3
theorem Z6.beside {w0 w w':World} {ow:Ow} {mi b:Nat} {l:List Fil} (hw:Owd w0 w ow) (h:Z6 w ow mi l) (hm:Mod (fun k=>k=b) w w') (hn:mi≠b) (hb:ow b≠0):Z6 w' ow mi l:=by
 obtain ⟨f,h1,h2⟩:=h;have s:Mov (fun t=>t=ow b) w ow w' ow:=Mov.wrote hw hm (fun k hk=>by rw [hk]);exact ⟨f,h1.mod hm hn,fun k=>(h2 k).mov s (fun e=>hb e.symm)⟩
theorem M8.put {w0 w:World} {ow:Ow} {c mb:Nat} {G:Int->List Fil} {K:Nat} (hw:Owd w0 w ow) (h:M8 w ow c mb G K) (hK:K<maxLen) (hc:c≠0) (n:Int) (hnw:(Lit.int .i64 n).wf=true) (b:Nat) (hb:ow b=c) (hbn:b≠mb) (l:List Fil) (hl:Z6 w ow b l)
 (hp:l.Pairwise fun a b=>j5 a<j5 b):
 ∃w',(Instr.mapUpdate 92 (.map (some mb)) (.int .i64 n) (.map (some b))).run Tryz.prog w= .ok () w'/\M8 w' ow c mb (T8 G n l) (K+1)/\Mod (fun k=>k=mb) w w':=by
 obtain ⟨m,f,h1,h2,h3⟩:=h.mp;have hmb:ow mb≠0:=by rw [h.tag];exact hc
 obtain ⟨w',r1,r2,r3⟩:=h1.put r5 Tryz.underlying92 (Nat.lt_of_le_of_lt h2 hK) (Maps.keyOf_int_mk Tryz.underlying3 hnw) (.map (some b));refine ⟨w',r1,⟨h.tag,⟨_,_,r2, ?_,fun id=> ?_⟩,fun id=> ?_⟩,r3⟩
 ·split<;>omega
 ·unfold P5;by_cases e:id=n
  ·subst e;rw [if_pos rfl,V3];exact ⟨b,rfl,hbn,hb,hl.beside hw r3 hbn hmb⟩
  rw [if_neg (fun e2=>e (by cases e2;rfl)),Z5 _ _ e];have h4:=h3 id
  cases hf:f (.int .i64 id) with
  |none=>rw [hf] at h4;exact h4
  |some v=>
   rw [hf] at h4;obtain ⟨mi,g1,g2,g3,g4⟩:=h4;exact ⟨mi,g1,g2,g3,g4.beside hw r3 g2 hmb⟩
 by_cases e:id=n
 ·rw [e,V3];exact hp
 rw [Z5 _ _ e];exact h.lt id
end
def a9I (w:World) (own C:Nat->Prop) (md ms r B:Nat) (fs:Lit->Option Value) (gs gd:List UInt8->Option Fil) (wr:World):Prop:=
 ∃(left:Lit->Bool) (cnt n:Nat) (g:List UInt8->Option Fil) (fm:Lit->Option Value),p6 wr 9 md n fm/\n+cnt<=B/\(∀k,D4 wr own C (fm (.string k)) (g k))/\a3Y wr 9 ms r fs left cnt/\
  (∀k,g k=if (gs k).isSome&& !left (.string k) then gs k else gd k)/\Mod (fun k=>k=md) w wr
theorem D4.some {w:World} {own C:Nat->Prop} {v:Option Value} {q:Option Fil} (h:D4 w own C v q):v.isSome=q.isSome:=by
 cases v<;>cases q
 ·rfl
 ·exact h.elim
 ·exact h.elim
 rfl
theorem b2M (w:World) (own C:Nat->Prop) (md ms Nd ns:Nat) (gd gs:List UInt8->Option Fil) (fs:Lit->Option Value) (hd:KAt w own C md Nd gd) (hs:p6 w 9 ms ns fs) (hsv:∀k,D4 w own C (fs (.string k)) (gs k)) (hne:md≠ms) (hC:¬C md) (WO:∀k,C k->k<w.heap.size) (hB:Nd+ns<=1000000000):
 Calls Tryz.prog 95 #[.map (some md),.map (some ms)] w fun e w'=>e= .returned (.tuple #[])/\KAt w' own C md (Nd+ns) (fun k=>(gs k).or (gd k))/\Mod (fun k=>k=md) w w':=by
 obtain ⟨n0,fd,h1,h2,h3⟩:=hd;have b7w:=h1.lt;have b7x:=hs.lt;obtain ⟨Hs,FL,H1,H2,H3⟩:=zh5 hs hsv h1 h2 h3;clear hs hsv h1 h2 h3
 go_enter Tryz.func95,Tryz.ntmps95
 go_wp2_with ((at_range;refine T3 rfl _ 142 rfl 9 26 r6 Tryz.underlying142 ms ns fs rfl Hs.out ?_;intro wF hrg fF Jv))
 have di:a9I w own C md ms w.heap.size (Nd+ns) fs gs gd wF:=⟨_,_,n0,gd,fd,H1.out.mod fF id,by have:=H2.out;omega,fun k=>(H3.out k).mod2 fF (fun _ _ h=>h.elim),hrg,fun k=>by
  have e:=(FL.out k).some;rw [e]
  cases (gs k).isSome<;>rfl,fF.mono (fun _ _ h=>h.elim)⟩
 obtain ⟨fe,jZ,Ra⟩:=zh3 di hrg fF;clear di hrg fF Jv
 go_frame
 go_loopw [8] (fun _ wr=>a9I w own C md ms w.heap.size (Nd+ns) fs gs gd wr) (fun _ wr=>wr.rangeLeft ms w.heap.size)
 case atStart=>exact fe.out
 case round=>
  revert wr;intro wl hrel;obtain ⟨left,cnt,n,g,fm,hm1,hn,hv,hrg,hg,hmr⟩:=hrel;obtain ⟨dB,Hv,Hg,aK⟩:=zh4 hm1 hv hg hmr;clear hm1 hv hg hmr
  go_wp2_with ((at_next;refine W1 rfl _ rfl 9 r6 encStr Lit.string (b5r _ Tryz.underlying9) (b6B _ Tryz.underlying9) ms w.heap.size fs left cnt rfl hrg ?_ ?_))
  ·intro hl0
   have hK:KAt wl own C md (Nd+ns) (fun k=>(gs k).or (gd k)):=⟨n,fm,dB.out,zo,fun k=>by
    have h:=Hv.out k;rw [Hg.out k,hl0] at h;show D4 wl own C _ ((gs k).or (gd k))
    cases hk:gs k with
    |none=>rw [hk] at h;exact h
    |some q=>rw [hk] at h;exact h⟩
   obtain ⟨jZ,NT,HK⟩:=zh3 hrg hl0 hK;clear hrg hl0 hK
   go_wp2_with fail
   go_end0
   exact ⟨rfl,HK.out,aK.out⟩
  intro k c wu cnt' hkey hlk hfc gI hlt2 hmu hzu hen;obtain ⟨fr,fC,ku,hfr⟩:=a4g (FL.out k) (fun h=>by have h1:=(FL.out k).some;rw [hfc,h] at h1;cases h1);rw [hfc] at fC;obtain rfl:=Option.some.inj fC;obtain ⟨wv,hwv,jf,jK,Rb⟩:=g8 wu (.cells #[.string fr.sc,.slice fr.a fr.cs.length fr.c] 26);have sw:Mod (fun _=>False) w wl->True:=fun _=>trivial;have b7y:=aK.out.size;have Jw:=(dB.out.mod hmu (fun h=>by have h':md=w.heap.size:=h;omega)).mod jf id;have v2:wv.cell? ⟨wu.heap.size,0,none⟩=some (.string fr.sc):=d6 jK rfl;have v3:wv.cell? ⟨wu.heap.size,1,none⟩=some (.slice fr.a fr.cs.length fr.c):=d6 jK rfl;have sD:=gI.mod jf id id;have zG:Mod (fun k=>k=md) w wv:=(aK.out.upon hmu (fun k hk=> .inr (Nat.le_of_eq (Eq.symm hk)))).trans jf (fun _ _ h=>h.elim);have hnm:n<maxLen:=by unfold maxLen;omega
  obtain ⟨fO,Rc,jo,pu,zH,Re,FI,bB,NU,Jy,Rf,pz⟩:=zh12 hkey hlk hfc gI hmu hzu ku hfr hwv jf jK sD;obtain ⟨Rh,Jz,jZ⟩:=zh3 Jw zG hrg;clear hkey hlk hfc gI hmu hzu ku hfr hwv jf jK sD Jw zG hrg
  go_wp2_with (first|((with_reducible refine d9 26 (.tmp 5) (.tmp 12) ?_);refine ⟨rfl,[.string fr.sc,.slice fr.a fr.cs.length fr.c],rfl,rfl,zk,rfl, ?_⟩;rw [NU.out])|((with_reducible refine P6 142 (.tmp 13) (.tmp 14) (.tmp 15) ?_);refine ⟨9,26,md,n,fm,.string k,Rh.out,r6,Tryz.underlying142,hnm,rfl,fO.out, ?_⟩;intro w8 hM' hm';have Qj:=Lib.hid hM';have Fp:=Lib.hid hm';clear hM' hm'))
  go_roundw
  case rel=>
   have JA:Mod (fun k=>k=md) w w8:=Jz.out.trans Fp.out zi;have Ri:Mod (fun k=>k=md\/k=w.heap.size) wl w8:=((zH.out.mono (fun _ _ h=> .inr h)).trans (Jy.out.mono (fun _ _ h=>h.elim)) (fun _ _ h=>h)).trans (Fp.out.mono (fun _ _ h=> .inl h)) (fun _ _ h=>h);refine ⟨_,cnt',_,fun x=>if x=k then gs k else g x,_,Qj.out,by split<;>omega,fun x=> ?_,pz.out.mod Fp.out (fun h=>hne h.symm) (fun h=>by have h':w.heap.size=md:=h;omega),fun x=> ?_,JA⟩
   ·unfold P5;show D4 w8 own C _ (if x=k then gs k else g x);by_cases e:x=k
    ·subst e;rw [if_pos rfl,if_pos rfl,FI.out];obtain ⟨h4,h5⟩:=bB.out;have h6:=(FL.out x).mod2 JA (fun k _ hk h=>hC (hk▸h));rw [jo.out,FI.out] at h6;exact h6
    rw [if_neg (fun h=>e (Lit.string.inj h)),if_neg e];have h0:=Hv.out x
    have hlow:∀k',k'<wl.heap.size->(k'=md\/k'=w.heap.size)->C k'->False:=fun k' _ h hc=>by
     rcases h with h|h
     ·exact hC (h▸hc)
     have:=WO _ hc;omega
    exact h0.mod2 Ri (fun k' hk' h hc=>hlow k' hk' h hc)
   show (if x=k then gs k else g x)=if ((gs x).isSome&& !(left (.string x)&& !(Lit.string x).sameKey (.string k)))=true then gs x else gd x
   by_cases e:x=k
   ·subst e;rw [if_pos rfl,a3Z,FI.out];simp
   rw [if_neg e,Hg.out x,a3Z];have:(x==k)=false:=by rw [beq_eq_false_iff_ne];exact e
   rw [this,Bool.not_false,Bool.and_true]
  case measure=>rw [(pz.out.mod Fp.out (fun h=>hne h.symm) (fun h=>by have h':w.heap.size=md:=h;omega)).left_eq,jZ.out.left_eq];exact hlt2
def okQ (q:Fil):Prop:=q.2.length<=19/\(∀c∈q.2,c.fits)/\q.1.size<=1000000
theorem b2N (w:World) (x y:Fr) (hx:j3 w 7 (.slice x.a x.cs.length x.c) x.cs.length (m5 x.cs)) (hy:j3 w 7 (.slice y.a y.cs.length y.c) y.cs.length (m5 y.cs)) (hxo:okQ x.fil) (CB:okQ y.fil):
 Calls Tryz.prog 72 #[.agg #[.string x.sc,.slice x.a x.cs.length x.c],.agg #[.string y.sc,.slice y.a y.cs.length y.c]] w fun e w'=>e= .returned (.bool (a8n x.fil y.fil))/\Mod (fun _=>False) w w':=
 a2G J6 w x.sc _ x.cs hx (by have:=hxo.1;have h:x.fil.2.length=x.cs.length:=rfl;omega) (by have:=hxo.2.2;have h:x.fil.1=x.sc:=rfl;rw [h] at this;omega) y.sc _ y.cs hy (by have:=CB.1;have h:y.fil.2.length=y.cs.length:=rfl;omega) (by have:=CB.2.2;have h:y.fil.1=y.sc:=rfl;rw [h] at this;omega)
  (fun d hd c hc wx _=>by
    have h1:=CB.2.1 d hd;have h2:=hxo.2.1 c hc
    exact Y2 d c (by have:=h1.1.text;omega) (by have:=h2.1.text;omega) h1.1.num h2.1.num wx)
def a1P (g:List UInt8->Option Fil) (k:List UInt8) (f:Fil) (j:List UInt8):Bool:=match g j with|some h=>decide (j≠k)&&(a8n h f&&(decide (j<k)|| !a8n f h))|none=>false
theorem b4N (g:List UInt8->Option Fil) (ks:List (List UInt8)) (k:List UInt8) (f:Fil):a6R g ks k f=ks.any (a1P g k f):=rfl
def b2O (w:World) (ma r:Nat) (fm:Lit->Option Value) (g:List UInt8->Option Fil) (k:List UInt8) (f:Fil) (wr:World):Prop:=
 ∃(left:Lit->Bool) (cnt:Nat),a3Y wr 9 ma r fm left cnt/\(∀j,(g j).isSome=true->left (.string j)=false->a1P g k f j=false)/\Mod (fun _=>False) w wr
theorem a8E (w:World) (own C:Nat->Prop) (ma n:Nat) (fm:Lit->Option Value) (g:List UInt8->Option Fil) (hm:p6 w 9 ma n fm) (hv:∀x,D4 w own C (fm (.string x)) (g x)) (hwf:∀x q,g x=some q->okQ q)
 (k:List UInt8) (hkl:k.length<=maxLen) (f:Fil) (hk:g k=some f) (ks:List (List UInt8)) (hks:∀x,x∈ks↔(g x).isSome=true):
 Calls Tryz.prog 96 #[.map (some ma),.string (str k)] w fun e w'=>e= .returned (.bool (a6R g ks k f))/\Mod (fun _=>False) w w':=by
 obtain ⟨fr,fC,ku,hfr⟩:=a4g (hv k) (fun h=>by rw [hk] at h;cases h);have iX:f=fr.fil:=by rw [hk] at ku;exact Option.some.inj ku
 subst iX;have hfo:=hwf k _ hk;have JB:=X5 k hkl;rw [b4N];obtain ⟨B,hB⟩:∃B,ks.any (a1P g k fr.fil)=B:=⟨_,rfl⟩;rw [hB];obtain ⟨HB,Hm,Hv,Hwf,Hk,NS,yX,FI,bB,fD,JC⟩:=zh11 hB hm hv hwf hk hks fC ku hfr hfo JB;clear hB hm hv hwf hk hks fC ku hfr hfo JB
 go_enter Tryz.func96,Tryz.ntmps96
 go_wp2_with ((at_range;refine T3 rfl _ 142 rfl 9 26 r6 Tryz.underlying142 ma n fm rfl Hm.out ?_;intro wF hrg fF Jv))
 have di:b2O w ma w.heap.size fm g k fr.fil wF:=⟨_,_,hrg,fun j h1 h2=>(by
  have e:=(Hv.out j).some;rw [h1] at e;have h3:(fm (.string j)).isSome=false:=h2;rw [e] at h3
  cases h3),fF⟩
 obtain ⟨fe,jZ,Ra⟩:=zh3 di hrg fF;clear di hrg fF Jv
 go_frame
 go_loopw [9] (fun _ wr=>b2O w ma w.heap.size fm g k fr.fil wr) (fun _ wr=>wr.rangeLeft ma w.heap.size)
 case atStart=>exact fe.out
 case round=>
  revert wr;intro wl hrel;obtain ⟨left,cnt,hrg,hno,hmr⟩:=hrel;obtain ⟨Hno,aK⟩:=zh2 hno hmr;clear hno hmr
  go_wp2_with ((at_next;refine W1 rfl _ rfl 9 r6 encStr Lit.string (b5r _ Tryz.underlying9) (b6B _ Tryz.underlying9) ma w.heap.size fm left cnt rfl hrg ?_ ?_))
  ·intro hl0
   have hany:B=false:=by
    rw [<-HB.out,List.any_eq_false];intro j hj;rw [Hno.out j ((NS.out j).1 hj) (hl0 _)];exact Bool.false_ne_true
   subst hany;obtain ⟨jZ,NT⟩:=zh2 hrg hl0;clear hrg hl0
   go_wp2_with fail
   go_ret;exact ⟨rfl,aK.out⟩
  intro x c wu cnt' hkey hlk hfc gI hlt2 hmu hzu hen;obtain ⟨h,Fj,NV,Rj⟩:=a4g (Hv.out x) (fun e=>by have h1:=(Hv.out x).some;rw [hfc,e] at h1;cases h1);rw [hfc] at Fj;obtain rfl:=Option.some.inj Fj;have hxk:x∈ks:=(NS.out x).2 (by rw [NV];rfl);obtain ⟨wv,hwv,jf,jK,Rb⟩:=g8 wu (.cells #[.string h.sc,.slice h.a h.cs.length h.c] 26);have sF:=(aK.out.upon hmu (fun k hk=> .inr (Nat.le_of_eq (Eq.symm hk)))).trans jf zi;have v2:wv.cell? ⟨wu.heap.size,0,none⟩=some (.string h.sc):=d6 jK rfl;have v3:wv.cell? ⟨wu.heap.size,1,none⟩=some (.slice h.a h.cs.length h.c):=d6 jK rfl;have sD:=gI.mod jf id id;have hl1:=(Hm.out.mod sF id).look r6 Tryz.underlying142 (D5 wv) JC.out;rw [yX.out] at hl1;have b7z:(Instr.lookup 142 (.map (some ma)) (.string (str k)) false).run Tryz.prog wv= .ok (.agg #[.string fr.sc,.slice fr.a fr.cs.length fr.c]) wv:=hl1;have hho:=Hwf.out x _ NV;have Rk:=(Rj.1.mod sF zi).rd;have hrf:=(bB.out.1.mod sF zi).rd;have hc1:=b2N wv h fr Rk hrf hho fD.out;obtain ⟨t1,ht1⟩:∃t,a8n h.fil fr.fil=t:=⟨_,rfl⟩;rw [ht1] at hc1;obtain ⟨jZ,fO,Rc,jo,pu,zH,Re,JD,Hhr,NU,Jy,Rf⟩:=zh12 hrg hkey hlk hfc gI hmu hzu NV Rj hwv jf jK;obtain ⟨pz,JE,Hl1,jm,Hrh,Hrf,NY,NZ,Hxk⟩:=zh9 sD sF hl1 hho Rk hrf hc1 ht1 hxk;clear hrg hkey hlk hfc gI hmu hzu NV Rj hwv jf jK sD sF hl1 hho Rk hrf hc1 ht1 hxk;have hsl:(str k).toList=k:=by rw [ByteArray.toList_eq];simp [str]
  by_cases hxe:x=k
  ·have fZ:a1P g k fr.fil x=false:=by unfold a1P;rw [JD.out];simp [hxe]
   have hsx:(str x).toList=x:=by rw [hxe];exact hsl
   have lh:∀j,(g j).isSome=true->(left (.string j)&& !(Lit.string j).sameKey (.string x))=false->a1P g k fr.fil j=false:=fun j h1 h2=>by
    rw [a3Z] at h2;by_cases e:j=x
    ·rw [e];exact fZ
    have e2:(j==x)=false:=by rw [beq_eq_false_iff_ne];exact e
    rw [e2,Bool.not_false,Bool.and_true] at h2;exact Hno.out j h1 h2
   obtain ⟨sG,EY⟩:=zh2 lh fZ;clear lh fZ
   go_wp2_with ((with_reducible refine d9 26 (.tmp 6) (.tmp 13) ?_);refine ⟨rfl,[.string h.sc,.slice h.a h.cs.length h.c],rfl,rfl,zk,rfl, ?_⟩;rw [NU.out])
   go_roundw
   case rel=>exact ⟨_,cnt',pz.out,sG.out,JE.out⟩
   case measure=>rw [pz.out.left_eq,jZ.out.left_eq];exact hlt2
  have hsx:(str x).toList=x:=by rw [ByteArray.toList_eq];simp [str]
  go_wp2_with ((with_reducible refine d9 26 (.tmp 6) (.tmp 13) ?_);refine ⟨rfl,[.string h.sc,.slice h.a h.cs.length h.c],rfl,rfl,zk,rfl, ?_⟩;rw [NU.out])
  all_goals first|(exfalso;exact absurd (by assumption) hxe)|skip
  refine NY.out.mono ?_;rintro e w4 ⟨rfl,aR⟩;have pE:=pz.out.mod aR id id;have aY:=JE.out.trans aR zi
  cases t1 with
  | false=>
   have fZ:a1P g k fr.fil x=false:=by unfold a1P;rw [JD.out];simp only [];rw [NZ.out];simp
   have lh:∀j,(g j).isSome=true->(left (.string j)&& !(Lit.string j).sameKey (.string x))=false->a1P g k fr.fil j=false:=fun j h1 h2=>by
    rw [a3Z] at h2;by_cases e:j=x
    ·rw [e];exact fZ
    have e2:(j==x)=false:=by rw [beq_eq_false_iff_ne];exact e
    rw [e2,Bool.not_false,Bool.and_true] at h2;exact Hno.out j h1 h2
   obtain ⟨sG,EY,dN,sH,bK⟩:=zh5 lh fZ aR pE aY;clear lh fZ aR pE aY
   go_wp2_with fail
   go_roundw
   case rel=>exact ⟨_,cnt',sH.out,sG.out,bK.out⟩
   case measure=>rw [sH.out.left_eq,jZ.out.left_eq];exact hlt2
  | true=>
   have w2:w4.cell? ⟨wu.heap.size,0,none⟩=some (.string h.sc):=aR.cell v2 id;have w3:w4.cell? ⟨wu.heap.size,1,none⟩=some (.slice h.a h.cs.length h.c):=aR.cell v3 id;by_cases hxl:x<k
   ·have hbl:Op.bytesLess x k=true:=by rw [Go.Proofs.bytesLess_eq];exact decide_eq_true hxl
    have CE:B=true:=by
     rw [<-HB.out,List.any_eq_true];refine ⟨x,Hxk.out, ?_⟩;unfold a1P;rw [JD.out];simp only [];rw [NZ.out];simp [hxe,hxl]
    subst CE;obtain ⟨dN,sH,bK⟩:=zh3 aR pE aY;clear aR pE aY
    go_wp2_with fail
    go_ret;exact ⟨rfl,bK.out⟩
   have hbl:Op.bytesLess x k=false:=by rw [Go.Proofs.bytesLess_eq];exact decide_eq_false hxl
   have hl4:=(Hm.out.mod aY id).look r6 Tryz.underlying142 (D5 w4) JC.out;rw [yX.out] at hl4;have b7A:(Instr.lookup 142 (.map (some ma)) (.string (str k)) false).run Tryz.prog w4= .ok (.agg #[.string fr.sc,.slice fr.a fr.cs.length fr.c]) w4:=hl4;have hc2:=b2N w4 fr h (Hrf.out.mod aR zi) (Hrh.out.mod aR zi) fD.out jm.out;obtain ⟨t2,ht2⟩:∃t,a8n fr.fil h.fil=t:=⟨_,rfl⟩;rw [ht2] at hc2;obtain ⟨dN,sH,bK,Hl4,oC,WP⟩:=zh6 aR pE aY hl4 hc2 ht2;clear aR pE aY hl4 hc2 ht2
   go_wp2_with fail
   refine oC.out.mono ?_;rintro e w5 ⟨rfl,aW⟩;have mG:=sH.out.mod aW id id;have bH:=bK.out.trans aW zi
   cases t2 with
   | true=>
    have fZ:a1P g k fr.fil x=false:=by unfold a1P;rw [JD.out];simp only [];rw [NZ.out,WP.out];simp [hxl]
    have lh:∀j,(g j).isSome=true->(left (.string j)&& !(Lit.string j).sameKey (.string x))=false->a1P g k fr.fil j=false:=fun j h1 h2=>by
     rw [a3Z] at h2;by_cases e:j=x
     ·rw [e];exact fZ
     have e2:(j==x)=false:=by rw [beq_eq_false_iff_ne];exact e
     rw [e2,Bool.not_false,Bool.and_true] at h2;exact Hno.out j h1 h2
    obtain ⟨sG,EY,fJ,pF,bO⟩:=zh5 lh fZ aW mG bH;clear lh fZ aW mG bH
    go_wp2_with fail
    go_roundw
    case rel=>exact ⟨_,cnt',pF.out,sG.out,bO.out⟩
    case measure=>rw [pF.out.left_eq,jZ.out.left_eq];exact hlt2
   | false=>
    have CE:B=true:=by
     rw [<-HB.out,List.any_eq_true];refine ⟨x,Hxk.out, ?_⟩;unfold a1P;rw [JD.out];simp only [];rw [NZ.out,WP.out];simp [hxe]
    subst CE;obtain ⟨fJ,pF,bO⟩:=zh3 aW mG bH;clear aW mG bH
    go_wp2_with fail
    go_ret;exact ⟨rfl,bO.out⟩
section
open Go.RowKit Go.Sort
def b6F (w:World) (own C:Nat->Prop) (M:List (Int×Fil)) (td:Int) (ma mo r N:Nat) (f:Lit->Option Value) (wr:World):Prop:=
 ∃(left:Lit->Bool) (cnt n:Nat) (g:List UInt8->Option Fil),KAt wr own C ma n g/\n+N*cnt<=N*N/\a3Y wr 3 mo r f left cnt/\(∀k q,g k=some q->∃x,x≠td/\(x,q)∈M/\j5 q=k)/\
  (∀x q,(x,q)∈M->x≠td->left (.int .i64 x)=false->(g (j5 q)).isSome=true)/\Mod (fun _=>False) w wr
def a68 (M:List (Int×Fil)) (td:Int) (k:List UInt8):Option Fil:=(Z2 M td k).filter fun f=> !a6R (Z2 M td) (a2m M td) k f
theorem b2P {M:List (Int×Fil)} {td:Int} {g:List UInt8->Option Fil} (hinj:∀p∈M,∀q∈M,j5 p.2=j5 q.2->p.2=q.2) (hA:∀k q,g k=some q->∃x,x≠td/\(x,q)∈M/\j5 q=k)
 (hB:∀x q,(x,q)∈M->x≠td->(g (j5 q)).isSome=true) (k:List UInt8):g k=Z2 M td k:=by
 cases h1:g k with
 |some q=>
  obtain ⟨x,hx,hm,hk⟩:=hA k q h1;obtain ⟨r,hr⟩:=a6S hm hx;rw [hk] at hr;obtain ⟨hk2,y,hy,hm2⟩:=I7 hr;have e:q=r:=hinj _ hm _ hm2 (hk.trans hk2.symm);rw [hr,e]
 | none=>
  cases h2:Z2 M td k with
  |none=>rfl
  |some q=>
   obtain ⟨hk2,y,hy,hm2⟩:=I7 h2;have h3:=hB y q hm2 hy;rw [hk2,h1] at h3;cases h3
theorem b4O (w:World) (b:Nat) (own C:Nat->Prop) (M:List (Int×Fil)) (N:Nat) (h:Tab w b own C M N) (hN:N<=1000) (hinj:∀p∈M,∀q∈M,j5 p.2=j5 q.2->p.2=q.2) (td:Int) (htd:(Lit.int .i64 td).wf=true):
 Calls Tryz.prog 62 #[.pointer (some ⟨b,0,none⟩),.int .i64 td] w (a67 w C (B8 M td)):=by
 obtain ⟨mo,h⟩:=h;obtain ⟨wa,aD,ah,ae,au⟩:=g8 w (.map #[] 0);have ha:=h.mod ah (fun _ _ h=>h.elim);have b0:wa.cell? ⟨b,0,none⟩=some (.map (some mo)):=d6 ha.row rfl;have oF:p6 wa 9 w.heap.size 0 (fun _=>none):=aD▸p6.made w 9;obtain ⟨n,f,JF,hf2,hf3,nN⟩:=h.om;have hf1:=JF.mod ah id;have hNN:N*N<=1000000:=Nat.mul_le_mul hN hN;have QN:mo<w.heap.size:=h.olow _ h.ob.2;obtain ⟨O,hO⟩:∃O,B8 M td=O:=⟨_,rfl⟩;rw [hO];have hz:=au;obtain ⟨HO,H,Ha,CF,Htd,aF,aB,aH,yN,Hf1,lL,Cr⟩:=zh12 hO h ha hinj htd aD ah ae oF hf1 hf2 hf3;obtain ⟨xg,Hz⟩:=zh2 nN hz;clear hO h ha hinj htd aD ah ae oF hf1 hf2 hf3 nN hz au JF
 go_enter Tryz.func62,Tryz.ntmps62
 go_wp2_with (first|(rw [show w.alloc _=wa from aF.out])|((at_range;refine T3 rfl _ 92 rfl 3 142 r5 Tryz.underlying92 mo n f rfl Hf1.out ?_;intro wF hrg fF Jv)))
 have di:b6F w own C M td w.heap.size mo wa.heap.size N f wF:=⟨_,n,0,fun _=>none,⟨0,_,yN.out.mod fF id,Nat.le_refl _,fun _=>trivial⟩,by rw [Nat.zero_add];exact Nat.mul_le_mul_left _ lL.out,hrg,fun k q h=>(by cases h),fun x q hm hx hl=>(by
  have h1:=Cr.out x;have h2:(f (.int .i64 x)).isSome=false:=hl
  cases h3:f (.int .i64 x) with
  |some v=>rw [h3] at h2;cases h2
  |none=>
   rw [h3] at h1;have h4:=a6F H.out.nd hm;rw [h1] at h4
   cases h4),aB.out.trans fF zi⟩
 obtain ⟨fe,jZ,Ra⟩:=zh3 di hrg fF;clear di hrg fF Jv
 go_frame
 go_loopw [17] (fun _ wr=>b6F w own C M td w.heap.size mo wa.heap.size N f wr) (fun _ wr=>wr.rangeLeft mo wa.heap.size)
 case atStart=>exact fe.out
 case round=>
  revert wr;intro wl hrel;obtain ⟨left,cnt,nn,g,hK,hnn,hrg,hA,hB,hmr⟩:=hrel;obtain ⟨HK,HA,HB,aK⟩:=zh4 hK hA hB hmr;clear hK hA hB hmr
  go_wp2_with ((at_next;refine W1 rfl _ rfl 3 r5 (Value.int .i64) (Lit.int .i64) (b6A _ Tryz.underlying3) (b61 _ Tryz.underlying3) mo wa.heap.size f left cnt rfl hrg ?_ ?_))
  ·intro hl0;have hg:=b2P (td:=td) CF.out HA.out (fun x q hm hx=>HB.out x q hm hx (hl0 _));obtain ⟨nm,fm,hm1,hm2,aC⟩:=HK.out;have hv:∀k,D4 wl own C (fm (.string k)) (Z2 M td k):=fun k=>by rw [<-hg];exact aC k
   have hnd:(U9 ((M.filter fun p=> !(p.1==td)).map fun p=>j5 p.2)).Nodup:=a2K _
   have hmem:∀k,k∈a2m M td↔(fm (.string k)).isSome=true:=fun k=>by
    rw [b2l,(hv k).some,Option.isSome_iff_exists]
   have hsort:=a1l hm1 zo hnd (fun k=>by rw [<-hmem k];unfold a2m;rw [a0S]);have hkeys:=a1O (some w.heap.size) wl;obtain ⟨w1,hw1⟩:∃w1:World,wl.alloc (.cells #[.map (some w.heap.size)] 142)=w1:=⟨_,rfl⟩;have mH:Mod (fun _=>False) wl w1:=hw1▸(Mod.refl (fun _=>False) wl).alloc _;rw [hw1] at hsort hkeys;rw [show K2 (U9 ((M.filter fun p=> !(p.1==td)).map fun p=>j5 p.2))=a2m M td from rfl] at hsort;obtain ⟨K,hK_⟩:∃K,a2m M td=K:=⟨_,rfl⟩;rw [hK_] at hsort hmem
   have hKl:K.length<=100000:=by
    rw [<-hK_];unfold a2m K2;rw [List.length_mergeSort]
    have h1:∀l:List (List UInt8),(U9 l).length<=l.length:=fun l=>by
     induction l with
     |nil=>exact Nat.le_refl _
     |cons a l ih=>
      unfold U9;split
      ·exact Nat.le_trans ih (Nat.le_succ _)
      exact Nat.succ_le_succ ih
    refine Nat.le_trans (h1 _) ?_;rw [zz10];exact Nat.le_trans (List.length_filter_le _ _) (Nat.le_trans H.out.low zo)
   have hout:O=K.filterMap (a68 M td):=by rw [<-HO.out];unfold B8 a68;rw [hK_]
   obtain ⟨jZ,NT,Hg,dB,bq,bA,Hv,Hnd,oL,kY,kZ,oD⟩:=zh12 hrg hl0 hg hm1 hm2 aC hv hnd hmem hsort hkeys hw1;obtain ⟨Rl,HK_,CG⟩:=zh3 mH hK_ hout;clear hrg hl0 hg hm1 hm2 aC hv hnd hmem hsort hkeys hw1 mH hK_ hout
   go_wp2_with fail
   refine kZ.out.mono ?_;rintro e wx ⟨rfl,hwx⟩;obtain rfl:=hwx.symm
   go_wp2_with fail
   refine kY.out.mono ?_;rintro e w2 ⟨sv,rfl,hso,hsb,CJ⟩;obtain ⟨sa,sc,rfl, -⟩:=hso.shape;rw [zz10] at hso⊢;have CK:=Rl.out.trans CJ zi;have aG:=aK.out.trans CK zi;have zI:a5N w2 C K (a68 M td) (.slice none 0 0) (.int .i64 ((0:Nat):Int)) w2:=⟨0,[],none,0,rfl,Nat.zero_le _,Nat.le_refl _,rfl,rfl,j2.nil _ _ _,fun k hk=>by simp [Value.ownBlock] at hk,fun f hf=>(by cases hf),Mod.refl _ _⟩;obtain ⟨oK,HY,b7B,Rm,aI,JG⟩:=zh6 hso hsb CJ CK aG zI;clear hso hsb CJ CK aG zI
   go_wp2_with fail
   go_loopw [8,32] (fun ov i wr=>a5N w2 C K (a68 M td) ov i wr) (fun _ i _=>K.length - (intOf i).toNat)
   case atStart=>exact JG.out
   case round=>
    revert wr;intro wr hrel;obtain ⟨j,l,oa,oc,rfl,hj,hlj,rfl,hlq,hown,dW,hfc,bg⟩:=hrel;have aU:=aI.out.trans bg zi;have pG:=Rm.out.trans bg zi;by_cases hlt:j<K.length
    ·have hlt':(j:Int)<K.length:=zo
     obtain ⟨k,hkj⟩:∃k,K[j]? =some k:=⟨_,zz5 hlt⟩;have Rn:=zz8 hkj;have hks:=(oL.out k).1 Rn;have gL:=fun x=>(Hv.out x).mod pG (fun _ _ h=>h.elim);obtain ⟨fr,fC,ku,hfr⟩:=a4g (gL k) (fun h=>by have h1:=(Hv.out k).some;rw [hks,h] at h1;cases h1);obtain ⟨hqk,y0,hy0,hqm⟩:=I7 ku
     have xG:∀x q,Z2 M td x=some q->okQ q:=fun x q hq=>by
      obtain ⟨-,y, -,h2⟩:=I7 hq;exact ⟨(H.out.wf _ h2).2.1,(H.out.wf _ h2).2.2,H.out.sc _ h2⟩
     have lU:k.length<=maxLen:=by
      have h3:=xG k _ ku;have h4:=J8 fr.fil.1 fr.fil.2 h3.2.1;rw [show q6 fr.fil.1 fr.fil.2=k from hqk] at h4;have h5:=h3.1;have h6:=h3.2.2;unfold maxLen;omega
     have CL:=dB.out.mod pG id;have hcv:=a8E wr own C w.heap.size nm fm (Z2 M td) CL gL xG k lU fr.fil ku K (fun x=>by rw [oL.out x,(Hv.out x).some]);obtain ⟨B,hB2⟩:∃B,a6R (Z2 M td) K k fr.fil=B:=⟨_,rfl⟩;rw [hB2] at hcv
     have WQ:a68 M td k=if B=true then none else some fr.fil:=by
      unfold a68;rw [ku,HK_.out,<-hB2];cases hc:a6R (Z2 M td) K k fr.fil<;>simp [hc]
     obtain ⟨g2,off,rfl,ck⟩:=a5M (oK.out.rd.mod bg zi) hkj;have ck':wr.cell? ⟨g2,off+j,none⟩=some (.string (str k)):=ck;obtain ⟨NR,Hkm,NS,Ic,yX,FI,bB,FD,Hqm,b7C,b7D,Gy⟩:=zh12 hkj Rn hks gL fC ku hfr hqk hqm xG CL hcv;obtain ⟨HB2,WS,Ck,aZ,eF,jo,eG,dw,JH,FJ,FK⟩:=zh11 hB2 WQ ck hown dW hfc bg aU pG hlq lU;clear hkj Rn hks gL fC ku hfr hqk hqm xG CL hcv hB2 WQ ck hown dW hfc bg aU pG hlq lU
     go_wp2_with fail
     refine Gy.out.mono ?_;rintro e w4 ⟨rfl,aR⟩;have dZ:=eG.out.trans aR zi;have aY:=dw.out.trans aR zi;have sI:=JH.out.trans aR zi;have aQ:=aZ.out.mod aR zi;have sJ:∀f∈l,FrC w4 C f:=fun f hf=>(jo.out f hf).mod aR (fun _ _ h=>h.elim)
     cases B with
     | true=>
      have hnx:l.map Fr.fil=(K.take (j+1)).filterMap (a68 M td):=by
       rw [List.take_add_one,NR.out,List.filterMap_append,<-FJ.out,Option.toList_some,List.filterMap_cons,WS.out];simp
      obtain ⟨dN,qW,bK,Ro,bY,JI,dn⟩:=zh7 aR dZ aY sI aQ sJ hnx;clear aR dZ aY sI aQ sJ hnx
      go_wp2_with fail
      go_roundw
      case rel=>exact ⟨j+1,l,oa,oc,by go_num,hlt,zo,rfl,dn.out,bY.out,eF.out,JI.out,qW.out⟩
      case measure=>simp [intOf];omega
     | false=>
      have hnx:(l++[fr]).map Fr.fil=(K.take (j+1)).filterMap (a68 M td):=by
       rw [List.take_add_one,NR.out,List.filterMap_append,<-FJ.out,List.map_append,Option.toList_some];congr 1;rw [List.filterMap_cons,WS.out];rfl
      have gp:=(dB.out.mod sI id).look r6 Tryz.underlying142 (D5 w4) (X5 k FK.out);rw [yX.out] at gp;have Ju:(Instr.lookup 142 (.map (some w.heap.size)) (.string (str k)) false).run Tryz.prog w4= .ok (.agg #[.string fr.sc,.slice fr.a fr.cs.length fr.c]) w4:=gp;obtain ⟨wz,hwz,ai,aj,aJ⟩:=g8 w4 (.cells #[.string fr.sc,.slice fr.a fr.cs.length fr.c] 26);have hrz:j3 wz 2 (.slice (some ⟨w4.heap.size,0,none⟩) 1 1) 1 [.string fr.sc,.slice fr.a fr.cs.length fr.c]:=hwz▸j3.one w4 [.string fr.sc,.slice fr.a fr.cs.length fr.c] 26 rfl;have hone:∀u∈([.string fr.sc,.slice fr.a fr.cs.length fr.c]:List Value),u.oneCell'=true:=fun u hu=>zz15 (show ([.string fr.sc,.slice fr.a fr.cs.length fr.c]:List Value).all (·.oneCell')=true from rfl) u hu;have jC:=aQ.mod ai zi;have rZ:=dZ.trans ai zi
      have sj:∀f∈l++[fr],FrC wz C f:=fun f hf=>by
       rcases zz14 hf with hf|hf
       ·exact (sJ f hf).mod ai (fun _ _ h=>h.elim)
       obtain rfl:f=fr:=by simpa using hf
       exact (bB.out.mod aR (fun _ _ h=>h.elim)).mod ai (fun _ _ h=>h.elim)
      obtain ⟨dn,wQ,bi,bn,aN,qV,aX,nG,su,Cz,dN,qW⟩:=zh12 hnx gp hwz ai aj hrz hone jC rZ sj aR dZ;obtain ⟨bK,Ro,bY,JI⟩:=zh4 aY sI aQ sJ;clear hnx gp hwz ai aj hrz hone jC rZ sj aR dZ aY sI aQ sJ aJ
      go_wp2_with (first|((with_reducible refine B3 41 (.tmp 43) ?_);refine ⟨26,2,Tryz.underlying41,zk,zk,zd,zd,[.string fr.sc,.slice fr.a fr.cs.length fr.c],rfl,rfl, ?_⟩;rw [bi.out])|((with_reducible refine l0 (.tmp 40) (.tmp 44) 41 ?_);refine ⟨rfl,26,2,40,a9H,.slice oa l.length oc,l.length,l.flatMap Fr.cells,rfl,nG.out,_,1,[.string fr.sc,.slice fr.a fr.cs.length fr.c],rfl,qV.out,aX.out,zo,by unfold maxLen;omega, ?_⟩;intro ad cap5 w5 hA;have HA:=Lib.hid hA;clear hA))
      go_roundw
      case rel=>
       refine ⟨j+1,l++[fr],ad,cap5,by go_num,hlt,by rw [zz4,List.length_singleton];omega,by rw [zz4];rfl,dn.out, ?_, ?_,fun f hf=>(Cz.out f hf).mod HA.out.2.1 (fun k hk h=> ?_),su.out.upon HA.out.2.1 (fun k hk=> .inr (eF.out k hk))⟩
       ·rw [zz4,List.flatMap_append];exact HA.out.1
       ·intro k hk;rcases HA.out.2.2 with h3|⟨k',h3,h4⟩
        ·exact eF.out k (h3▸hk)
        rw [h3] at hk;cases hk
        have:=su.out.size;omega
       intro hc;have h1:=H.out.clow _ hc;have h2:=eF.out k h;have h3:=aI.out.size;omega
      case measure=>simp [intOf];omega
    obtain rfl:j=K.length:=zo
    rw [List.take_length] at hlq;have JJ:l.map Fr.fil=O:=by rw [CG.out];exact hlq
    obtain ⟨FJ,aZ,eF,jo,eG,dw,JH,JK⟩:=zh8 hlq hown dW hfc bg aU pG JJ;clear hlq hown dW hfc bg aU pG JJ
    go_wp2_with fail
    go_ret;exact ⟨_,l,rfl,aZ.out,fun k hk=>Nat.le_trans aI.out.size (eF.out k hk),JK.out,jo.out,dw.out⟩
  intro x c wu cnt' hkey hlk hfc gI hlt2 hmu hzu hen;have h1:=Cr.out x;rw [hfc] at h1;obtain ⟨mi,rfl,ja,xz,rQ,Rp⟩:=h1;have sw:Mod (fun k=>k=wa.heap.size) wl wu:=hmu;have hmw:Mod (fun _=>False) w wu:=aK.out.upon hmu (fun k hk=> .inr (by have h1:k=wa.heap.size:=hk;have:=aB.out.size;omega))
  have hle:nn+N+N*cnt'<=N*N:=by
   have h1:N*(cnt'+1)<=N*cnt:=Nat.mul_le_mul_left _ hlt2;rw [Nat.mul_add,Nat.mul_one] at h1;omega
  have hgb:∀x' q,(x',q)∈M->x'≠td->x'≠x->(left (.int .i64 x')&& !(Lit.int .i64 x').sameKey (.int .i64 x))=false->(g (j5 q)).isSome=true:=fun x' q hm hx1 hx2 hl=>by
   rw [b5N] at hl;have e2:(x'==x)=false:=by rw [beq_eq_false_iff_ne];exact hx2
   rw [e2,Bool.not_false,Bool.and_true] at hl;exact HB.out x' q hm hx1 hl
  have hlow:∀k,C k->k<w.heap.size:=H.out.clow;have JL:KAt wu own C w.heap.size nn g:=HK.out.mod hmu (fun h=>by have h1:w.heap.size=wa.heap.size:=h;have:=Hz.out;omega) (fun k _ hk hc=>by have h1:k=wa.heap.size:=hk;have:=hlow k hc;have:=Hz.out;omega);by_cases hx:x=td
  ·have hB2:∀x' q,(x',q)∈M->x'≠td->(left (.int .i64 x')&& !(Lit.int .i64 x').sameKey (.int .i64 x))=false->(g (j5 q)).isSome=true:=fun x' q hm hx1 hl=>hgb x' q hm hx1 (fun e=>hx1 (e.trans hx)) hl;obtain ⟨jZ,fO,Rc,jo,pu,zH,Re,HKi,Ig,Rq,HB2,mf⟩:=zh12 hrg hkey hlk hfc gI hmu hzu Rp hmw sw hB2 hgb;obtain ⟨CO,WT⟩:=zh2 hlow JL;clear hrg hkey hlk hfc gI hmu hzu Rp hmw sw hB2 hgb hlow JL
   go_wp2_with fail
   go_roundw
   case rel=>exact ⟨_,cnt',nn,g,WT.out,by have:=Nat.mul_le_mul_left N (Nat.le_of_lt hlt2);omega,pu.out,HA.out,HB2.out,Ig.out⟩
   case measure=>rw [pu.out.left_eq,jZ.out.left_eq];exact hlt2
  obtain ⟨ni,fi,hi1,hi2,hi3⟩:=Rp;have QS:=hi1.lt;have hcp:=b2M wu own C w.heap.size mi nn ni g (o5 M x) fi JL (hi1.mod hmw id) (fun k=>(hi3 k).mod hmw (fun _ _ h=>h.elim)) zo (fun h=>Nat.lt_irrefl _ (hlow _ h)) (fun k hk=>zz13 (hlow k hk) hmw.size) zo
  have hA2:∀k q,(o5 M x k).or (g k)=some q->∃y,y≠td/\(y,q)∈M/\j5 q=k:=fun k q hq=>by
   cases ht:o5 M x k with
   |none=>rw [ht] at hq;exact HA.out k q hq
   |some r=>
    rw [ht] at hq;cases hq
    exact ⟨x,hx,(X0 ht).1,(X0 ht).2⟩
  have hB2:∀x' q,(x',q)∈M->x'≠td->(left (.int .i64 x')&& !(Lit.int .i64 x').sameKey (.int .i64 x))=false->((o5 M x (j5 q)).or (g (j5 q))).isSome=true:=fun x' q hm hx1 hl=>by
   by_cases e:x'=x
   ·subst e;rw [a6F H.out.nd hm];rfl
   rw [Option.isSome_or,hgb x' q hm hx1 e hl,Bool.or_true]
  obtain ⟨jZ,fO,Rc,jo,pu,zH,Re,Ig,Rq,HB2,HA2,mf⟩:=zh12 hrg hkey hlk hfc gI hmu hzu hmw sw hB2 hA2 hgb;obtain ⟨CO,WT,Hcp,yT,qy,NN⟩:=zh6 hlow JL hcp hi1 hi2 hi3;clear hrg hkey hlk hfc gI hmu hzu hmw sw hB2 hA2 hgb hlow JL hcp hi1 hi2 hi3
  go_wp2_with fail
  refine Hcp.out.mono ?_;rintro e w5 ⟨rfl,WU,aW⟩;have bH:=Ig.out.upon aW (fun k hk=> .inr (Nat.le_of_eq (Eq.symm hk)));have mG:=pu.out.mod aW (fun h=>by have h1:mo=w.heap.size:=h;omega) (fun h=>by have h1:wa.heap.size=w.heap.size:=h;have:=Hz.out;omega);obtain ⟨HK5,fJ,bO,pF⟩:=zh4 WU aW bH mG;clear WU aW bH mG
  go_wp2_with fail
  go_roundw
  case rel=>exact ⟨_,cnt',nn+ni,_,HK5.out,by have:=qy.out;omega,pF.out,HA2.out,HB2.out,bO.out⟩
  case measure=>rw [pF.out.left_eq,jZ.out.left_eq];exact hlt2
end
end Go.Proofs.YtebhabpahfmodaaGreatDoor
