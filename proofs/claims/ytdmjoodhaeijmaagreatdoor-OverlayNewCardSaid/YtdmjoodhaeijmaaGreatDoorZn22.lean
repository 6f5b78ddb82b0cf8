/- Lemmas. -/
import Derived.Test.YtdmjoodhaeijmaaGreatDoorZn21
set_option maxHeartbeats 40000000
set_option maxRecDepth 20000
namespace Go.Proofs.YtdmjoodhaeijmaaGreatDoor
open Go.RowKit
def V7 (L:List PRu) (i:Int) (v:Nat):Bool:=(L.take v).any fun r=>decide (r.kind=4)&&decide (r.at_=i)
def F1 (L:List PRu):Nat:=(L.filter fun r=>decide (r.kind=0)).length
def a1A (L:List PRu) (tenant:Int) (who:ByteArray):Option Int:=K0 (L.map fun p=>p.lies none 0) tenant who
def a4f (L:List PRu) (p:PRu):Bool:=
 if p.at_<0 then false else match L[p.at_.toNat]? with
 |none=>false
 |some o=> !(decide (o.kind=4))&& !(decide (o.kind=0))&& !V7 L p.at_ L.length
def R2 (L:List PRu) (p:PRu):Int:=
 if p.rightB=false then 1 else if L.length=40 then 6 else
 if p.kind=4 then (if a4f L p then 0 else 3) else
 if p.kind=0 then (if (a1A L p.tenant p.who).isSome then 4 else if F1 L=12 then 6 else 0) else
 if (a1A L p.tenant p.who).isSome then 0 else 3
def PRu.kept (p:PRu):PRu:=if l0 p.sc p.cs then {p with cs:=j7 p.cs} else p
def I9 (L:List PRu) (p:PRu):List PRu:=if R2 L p=0 then L++[p.kept] else L
def atP (L:List PRu) (v:Nat):List PRu:=(L.take v).zipIdx.filterMap fun q=>if decide (q.1.kind=4)||V7 L q.2 v then none else some q.1
theorem a7J {L:List PRu} (h:L.length<=40) (p:PRu):(I9 L p).length<=40:=by
 unfold I9;split
 ·rename_i h1
  have h2:L.length≠40:=fun e=>by
   unfold R2 at h1;by_cases hr:p.rightB=false
   ·rw [if_pos hr] at h1;exact absurd h1 zd
   rw [if_neg hr,if_pos e] at h1;exact absurd h1 zd
  rw [zz4,List.length_singleton];omega
 exact h
theorem b1B {w:World} {a:Option Addr} {cap:Nat} {l:List Att} {j:Nat} {x:Att} (h:i8 w 6 (.slice a l.length cap) l.length (I4 l)) (hx:l[j]? =some x):∃g off,a=some ⟨g,off,none⟩/\d8 w g (off+j*6) x.cells:=by
 obtain ⟨-,a',c',h1, -,h3,h4⟩:=h;cases h1
 cases a with
 |none=>have:=(zz6 hx).1;exact absurd (h3 rfl) zo
 |some b=>
  obtain ⟨g',off',h5,h6⟩:=h4 _ rfl (by have:=(zz6 hx).1;omega);refine ⟨g',off',by rw [h5],fun i u hu=> ?_⟩;have:=h6 (6*j+i) u (a5z _ hx hu);rw [show off'+j*6+i=off'+(6*j+i) by omega];exact this
def a4g (l:List Att) (s:ByteArray):V×Bool:=if there l s=true then (((l[pos l s]?).map Att.v).getD V.zero,true) else (V.zero,false)
theorem b5E (w:World) (sc:ByteArray) (av:Value) (l:List Att) (hv:i8 w 6 av l.length (I4 l)) (hll:l.length<=1000000) (hr:M8 l) (s:ByteArray):
 Calls Tryz.prog 183 #[.agg #[.string sc,av],.string s] w fun e w'=>e= .returned (.tuple #[.agg (a4g l s).1.cells.toArray,.bool (a4g l s).2])/\Mod (fun _=>False) w w':=by
 obtain ⟨a,cap,rfl,hcap⟩:∃a c,av= .slice a l.length c/\l.length<=c:=by obtain ⟨-,a,c,h,h2, -⟩:=hv;exact ⟨a,c,h,h2⟩
 have df:(l.length:Int)<=1000000:=zo
 have bG:(l.length:Int)<=cap:=zo
 obtain ⟨wa,ak,ae,aa,ah⟩:=g6 w (.cells #[.string sc,.slice a l.length cap] 39);obtain ⟨wb,hwb,ay,aA,aU⟩:=g6 wa (.cells #[.int .i64 0,.int .i64 0,.float .f64 0,.string ⟨#[]⟩,.bool false] 96);have hmb:=ae.trans ay zi;have hg:=ay.heap aa id;have c0:wb.cell? ⟨w.heap.size,0,none⟩=some (.string sc):=d6 hg rfl;have c1:wb.cell? ⟨w.heap.size,1,none⟩=some (.slice a l.length cap):=d6 hg rfl;have hvb:=hv.mod hmb zi;have kg:=b4F wb sc (.slice a l.length cap) l hvb hll hr s;obtain ⟨R,hR⟩:∃R,a4g l s=R:=⟨_,rfl⟩;rw [hR];unfold a4g at hR;have hlz:w.heap.size<wa.heap.size:=zo
 refine hh8 hv hr ak hwb hmb hvb hg aA fun Hv Hr aB bN eQ dY Hg bq=> ?_;refine hh2 kg hR fun Ab HR=> ?_;clear hv hr ak hwb hmb hvb hg aA kg hR aa ae ay ah aU
 go_enter Tryz.func183,Tryz.ntmps183
 go_wp2_with (first|(rw [show w.alloc _=wa from aB.out])|(rw [show wa.alloc _=wb from bN.out]))
 refine Ab.out.mono ?_;rintro e w1 ⟨rfl,hm1⟩;have bH:=eQ.out.trans hm1 zi;have hg1:=hm1.heap Hg.out id;have hz1:=hm1.heap bq.out id;have hv1:=dY.out.mod hm1 zi;have c1:w1.cell? ⟨w.heap.size,1,none⟩=some (.slice a l.length cap):=d6 hg1 rfl;refine hh3 bH hz1 hv1 fun bJ Oe GJ=> ?_;clear bH hz1 hv1 hm1 c0 hg1 Ab
 cases hth:there l s with
 |false=>
  have E:=Lib.hid (HR.out.symm.trans (if_neg (by rw [hth];decide)));have BV:=zh hth;clear hth
  go_wp2_with ((with_reducible refine m7 96 (.tmp 4) (.tmp 16) ?_);refine ⟨wa.heap.size,rfl,_,_,Oe.out,[.int .i64 0,.int .i64 0,.float .f64 0,.string ⟨#[]⟩,.bool false],rfl,rfl,zk,rfl, ?_⟩;intro w6 fB cz;have sI:=Lib.hid fB;have iU:=Lib.hid cz;clear fB cz)
  refine bodyPost_ret (v:= .tuple #[.agg #[.int .i64 0,.int .i64 0,.float .f64 0,.string ⟨#[]⟩,.bool false],.bool false]) ?_ rfl ⟨by rw [E.out];rfl,bJ.out.upon iU.out (fun b hb=> .inr zo)⟩;have hl:=r5 (P:=Tryz.prog) 96 wa.heap.size 0 [.int .i64 0,.int .i64 0,.float .f64 0,.string ⟨#[]⟩,.bool false] (d8.row sI.out) zk zk;simp [results,Tryz.results183,Result.andThen,asAddr,hl]
 | true=>
  have e1:=HR.out.symm.trans (if_pos hth)
  obtain ⟨x,hx⟩:∃x,l[pos l s]? =some x:=by
   unfold there at hth;split at hth
   ·exact ⟨_,by assumption⟩
   ·cases hth
  rw [hx] at e1;have E:=Lib.hid (show R=(x.v,true) from e1);have hp:pos l s<l.length:=(zz6 hx).1;obtain ⟨p,BX⟩:∃p,pos l s=p:=⟨_,rfl⟩;rw [BX] at hx hp⊢;have hp':(p:Int)<l.length:=zo
  obtain ⟨g,off,rfl,hf⟩:∃g off,a=some ⟨g,off,none⟩/\d8 w1 g (off+p*6) x.cells:=b1B GJ.out hx
  have hf1:d8 w1 g (off+p*6+1) x.v.cells:=fun j u hu=>by
   have:=hf (j+1) u (by simpa [Att.cells] using hu);rw [show off+p*6+1+j=off+p*6+(j+1) by omega];exact this
  have BV:=zh hth;refine hh1 hf1 fun Hf1=> ?_;clear hf1 hth BX hf hx e1
  go_wp2_with (first|((with_reducible refine e9 96 (.tmp 21) ?_);refine ⟨g,off+p*6+1,rfl,x.v.cells,Hf1.out,zk,zk, ?_⟩)|((with_reducible refine m7 96 (.tmp 4) (.tmp 22) ?_);refine ⟨wa.heap.size,rfl,_,_,Oe.out,x.v.cells,rfl,rfl,zk,rfl, ?_⟩;intro w6 fB cz;have sI:=Lib.hid fB;have iU:=Lib.hid cz;clear fB cz))
  refine bodyPost_ret (v:= .tuple #[.agg x.v.cells.toArray,.bool true]) ?_ rfl ⟨by rw [E.out],bJ.out.upon iU.out (fun b hb=> .inr zo)⟩;have hl:=r5 (P:=Tryz.prog) 96 wa.heap.size 0 x.v.cells (d8.row sI.out) zk zk;simp [results,Tryz.results183,Result.andThen,asAddr,hl]
theorem a9H {l:List Att} {s:ByteArray} {n:Nat} (h:∀a∈l,a.v.text.size<=n):(a4g l s).1.text.size<=n:=by
 unfold a4g;split
 ·cases hx:l[pos l s]? with
  |none=>exact Nat.zero_le _
  |some x=>exact h x (zz8 hx)
 exact Nat.zero_le _
def Cnd.matchB (c:Cnd) (l:List Att):Bool:=(a4g l c.name).2&&c.holds (a4g l c.name).1
theorem a7K (c:Cnd) (hc:c.v.text.size<=9223372036854775807) (w:World) (sc:ByteArray) (av:Value) (l:List Att) (hv:i8 w 6 av l.length (I4 l)) (hll:l.length<=1000000) (hr:M8 l) (ht:∀a∈l,a.v.text.size<=9223372036854775807):
 Calls Tryz.prog 149 #[.agg c.cells.toArray,.agg #[.string sc,av]] w fun e w'=>e= .returned (.bool (c.matchB l))/\Mod (fun _=>False) w w':=by
 obtain ⟨a,cap,rfl,hcap⟩:∃a c,av= .slice a l.length c/\l.length<=c:=by obtain ⟨-,a,c,h,h2, -⟩:=hv;exact ⟨a,c,h,h2⟩
 obtain ⟨wa,ak,ae,aa,ah⟩:=g6 w (.cells c.cells.toArray 126);obtain ⟨wb,hwb,ay,aA,aU⟩:=g6 wa (.cells #[.string sc,.slice a l.length cap] 39);have hmb:=ae.trans ay zi;have hg:=ay.heap aa id;have c0:wb.cell? ⟨w.heap.size,0,none⟩=some (.string c.name):=d6 hg rfl;have d0:wb.cell? ⟨wa.heap.size,0,none⟩=some (.string sc):=d6 aA rfl;have d1:wb.cell? ⟨wa.heap.size,1,none⟩=some (.slice a l.length cap):=d6 aA rfl;have hge:=b5E wb sc (.slice a l.length cap) l (hv.mod hmb zi) hll hr c.name;have hgt:=a9H (s:=c.name) ht;obtain ⟨R,hR⟩:∃R,c.matchB l=R:=⟨_,rfl⟩;rw [hR];unfold Cnd.matchB at hR;obtain ⟨⟨v,b⟩,hvb⟩:∃p,a4g l c.name=p:=⟨_,rfl⟩;rw [hvb] at hge hgt hR;simp only at hge hgt hR;have hho:=a3q c v hc hgt;have hlz:w.heap.size<wa.heap.size:=zo
 refine hh8 hv hr ak hwb hmb hg hge hgt fun Hv Hr aB bN eQ Hg GK WP=> ?_;refine hh3 hR hvb hho fun HR dY lH=> ?_;clear hv hr ak hwb hmb hg hge hgt hR hvb hho aa aA ae ay ah aU hc ht hll
 go_enter Tryz.func149,Tryz.ntmps149
 go_wp2_with (first|(rw [show w.alloc _=wa from aB.out])|(rw [show wa.alloc _=wb from bN.out]))
 refine GK.out.mono ?_;rintro e w1 ⟨rfl,hm1⟩;obtain ⟨wz,hwz,ag,aj,aF⟩:=g6 w1 (.cells v.cells.toArray 96);have fV:=(eQ.out.trans hm1 zi).trans ag zi;have hgz:=ag.heap (hm1.heap Hg.out id) id;have hhz:=lH.out wz;refine hh5 hwz aj fV hgz hhz fun aX aJ nV sJ Rx=> ?_;clear hwz aj fV hgz hhz ag aF hm1 c0 d0 d1 GK Hg lH
 cases b with
 |false=>
  go_wp2_with ((with_reducible refine d9 96 (.tmp 5) (.tmp 12) ?_);refine ⟨rfl,v.cells,rfl,rfl,zk,rfl, ?_⟩;rw [aX.out])
  go_ret;exact ⟨by rw [<-HR.out];rfl,nV.out⟩
 |true=>
  have c0:wz.cell? ⟨w.heap.size,0,none⟩=some (.string c.name):=d6 sJ.out rfl;have c1:wz.cell? ⟨w.heap.size,1,none⟩=some (.int .i64 c.op):=d6 sJ.out rfl;have c2:wz.cell? ⟨w.heap.size,2,none⟩=some (.int .i64 c.v.kind):=d6 sJ.out rfl;have c3:wz.cell? ⟨w.heap.size,3,none⟩=some (.int .i64 c.v.int):=d6 sJ.out rfl;have c4:wz.cell? ⟨w.heap.size,4,none⟩=some (.float .f64 c.v.num):=d6 sJ.out rfl;have c5:wz.cell? ⟨w.heap.size,5,none⟩=some (.string c.v.text):=d6 sJ.out rfl;have c6:wz.cell? ⟨w.heap.size,6,none⟩=some (.bool c.v.yes):=d6 sJ.out rfl;have z0:wz.cell? ⟨w1.heap.size,0,none⟩=some (.int .i64 v.kind):=d6 aJ.out rfl;have z1:wz.cell? ⟨w1.heap.size,1,none⟩=some (.int .i64 v.int):=d6 aJ.out rfl;have z2:wz.cell? ⟨w1.heap.size,2,none⟩=some (.float .f64 v.num):=d6 aJ.out rfl;have z3:wz.cell? ⟨w1.heap.size,3,none⟩=some (.string v.text):=d6 aJ.out rfl;have z4:wz.cell? ⟨w1.heap.size,4,none⟩=some (.bool v.yes):=d6 aJ.out rfl
  go_wp2_with ((with_reducible refine d9 96 (.tmp 5) (.tmp 12) ?_);refine ⟨rfl,v.cells,rfl,rfl,zk,rfl, ?_⟩;rw [aX.out])
  refine Rx.out.mono ?_;rintro e w2 ⟨rfl,hm2⟩;have aS:=Lib.hid (nV.out.trans hm2 zi);clear hm2
  go_wp2
  go_ret;exact ⟨by rw [<-HR.out];rfl,aS.out⟩
def T4 (sc:ByteArray) (cs:List Cnd) (es:ByteArray) (l:List Att):Bool:=cs.all (fun c=>c.matchB l)&&A7 es sc
theorem a1B (w:World) (sc:ByteArray) (cv:Value) (cs:List Cnd) (hc:i8 w 7 cv cs.length (q8 cs)) (hcl:cs.length<=9223372036854775807) (hsc:sc.size<=9223372036854775807) (hct:∀c∈cs,c.v.text.size<=9223372036854775807)
 (es:ByteArray) (av:Value) (l:List Att) (hv:i8 w 6 av l.length (I4 l)) (hll:l.length<=1000000) (hr:M8 l) (hes:es.size<=9223372036854775807) (ht:∀a∈l,a.v.text.size<=9223372036854775807):
 Calls Tryz.prog 119 #[.agg #[.string sc,cv],.agg #[.string es,av]] w fun e w'=>e= .returned (.bool (T4 sc cs es l))/\Mod (fun _=>False) w w':=by
 obtain ⟨a,cap,rfl⟩:∃a c,av= .slice a l.length c:=by obtain ⟨-,a,c,h, -⟩:=hv;exact ⟨a,c,h⟩
 exact a8s (fun c=>c.matchB l) w sc cv cs es (.slice a l.length cap) a l.length cap rfl hc hcl hsc hes (fun c hm wx hwx=>a7K c (hct c hm) wx es _ l (hv.mod hwx zi) hll hr ht)
def b6L (fs:ByteArray) (f:List Cnd) (gs:ByteArray) (g:List Cnd):Bool:=g.any Cnd.voidB||(f.all (fun c=>g.any fun d=>a2C d c)&&A7 gs fs)
end Go.Proofs.YtdmjoodhaeijmaaGreatDoor
