/- Lemmas. -/
import Derived.Test.YtdmjoodhaeijmaaGreatDoorZn40
set_option maxHeartbeats 40000000
set_option maxRecDepth 20000
namespace Go.Proofs.YtdmjoodhaeijmaaGreatDoor
section
open Go.RowKit
def okF (q:Fil):Prop:=okN q/\okQ q
structure RI (R:RS) (k m:Nat):Prop where
 n:R.N<=k
 len:R.M.length<=R.N
 t:R.T<=20*m
 kk:R.K<=6*k
 ok:∀p∈R.M,okF p.2
 s:R.S.length<=8
 sf:∀p∈R.S,okF p.2.2
 si:∀p∈R.S,0<=p.1/\p.1<m
 nd:(R.S.map Prod.fst).Nodup
 is:R.I=R.S.map fun p=>(p.1,p.2.2)
 gl:∀n,(R.G n).length<=k
 go:∀n,∀q∈R.G n,okF q
 sw:∀p∈R.S,p.2.1.size<=1000000
theorem RI.zero (k m:Nat):RI RS.zero k m:=⟨Nat.zero_le _,Nat.le_refl _,Nat.zero_le _,Nat.zero_le _,fun p hp=>(by cases hp),zd,fun p hp=>(by cases hp),fun p hp=>(by cases hp),List.nodup_nil,rfl,fun n=>Nat.zero_le _,fun n q hq=>(by cases hq),fun p hp=>(by cases hp)⟩
theorem RI.mono {R:RS} {k k' m m':Nat} (h:RI R k m) (hk:k<=k') (hm:m<=m'):RI R k' m':=
 ⟨Nat.le_trans h.n hk,h.len,Nat.le_trans h.t (Nat.mul_le_mul_left _ hm),Nat.le_trans h.kk (Nat.mul_le_mul_left _ hk),h.ok,h.s,h.sf,fun p hp=>⟨(h.si p hp).1,by have:=(h.si p hp).2;omega⟩,h.nd,h.is,fun n=>Nat.le_trans (h.gl n) hk,h.go,h.sw⟩
theorem RI.go' {R:RS} {k m:Nat} (h:RI R k m) (hk:k<=600000) (hm:m<=4500):R.Go:=by
 have h1:=h.n;have h2:=h.t;have h3:=h.kk;have h4:=h.s;exact ⟨zo,zo,zo,⟨fun n=>by have:=h.gl n;omega,fun n q hq=>(h.go n q hq).2⟩,fun p hp=>(h.ok p hp).1,zo⟩
theorem RI.refr {R:RS} {k m:Nat} (h:RI R k m) {near:List Int} (hn:near.length<=6):RI (R.refr near) (k+1) m:=by
 have h1:=h.n;have h3:=h.kk;have h5:=h.len;refine ⟨Nat.le_succ_of_le h.n,h.len,h.t, ?_,h.ok,h.s,h.sf,h.si,h.nd,h.is,fun n=> ?_,fun n q hq=> ?_,h.sw⟩
 ·show R.K+near.length<=6*(k+1);omega
 ·exact a4C (fun n=>by have:=h.gl n;omega) zo n
 have hq:q∈J2 R.M near R.G n:=hq;by_cases hi:n∈near
 ·rw [a3D hi] at hq;obtain ⟨-,x, -,hx⟩:=C8 (a3B hq).1;exact h.ok _ hx
 rw [a0V hi] at hq;exact h.go n q hq
theorem RI.tadd {R:RS} {k m:Nat} (h:RI R k m) (frm:Int) {f:Fil} (hf:okF f):RI (R.tadd frm f) (k+1) m:=by
 obtain ⟨e1,e2,e3,e4,e5⟩:=R.tadd_eq frm f;have h1:=h.n;have h5:=h.len
 have h6:(R.tadd frm f).M.length<=(R.tadd frm f).N/\(R.tadd frm f).N<=k+1/\∀p∈(R.tadd frm f).M,okF p.2:=by
  unfold RS.tadd;split
  ·refine ⟨?_, ?_,fun p hp=> ?_⟩
   ·show (R.M++[(frm,f)]).length<=R.N+1;rw [zz4,List.length_singleton];omega
   ·show R.N+1<=k+1;omega
   rcases zz14 hp with hp|hp
   ·exact h.ok p hp
   rw [List.mem_singleton.1 hp];exact hf
  exact ⟨h5,zo,h.ok⟩
 exact ⟨h6.2.1,h6.1,by rw [e5];exact h.t,by rw [e2];have:=h.kk;omega,h6.2.2,by rw [e3];exact h.s,by rw [e3];exact h.sf,by rw [e3];exact h.si,by rw [e3];exact h.nd,by rw [e3,e4];exact h.is,fun n=>by rw [e1];have:=h.gl n;omega,fun n=>by rw [e1];exact h.go n,by rw [e3];exact h.sw⟩
theorem RI.tabs {R:RS} {k m:Nat} (h:RI R k m) {M:List (Int×Fil)} (hM:∀p∈M,p∈R.M) (hl:M.length<=R.M.length):RI {R with M:=M} k m:=
 ⟨h.n,Nat.le_trans hl h.len,h.t,h.kk,fun p hp=>h.ok p (hM p hp),h.s,h.sf,h.si,h.nd,h.is,h.gl,h.go,h.sw⟩
theorem RI.trem {R:RS} {k m:Nat} (h:RI R k m) (frm:Int) (f:Fil):RI (R.trem frm f) k m:=h.tabs (fun p hp=>a1D hp) (List.length_filter_le _ _)
theorem RI.hear {R:RS} {k m:Nat} (h:RI R k m) (frm:Int) {f:Fil} (hf:okF f) (on:Bool):RI (R.hear frm f on) (k+1) m:=by
 cases on with
 |true=>exact h.tadd frm hf
 |false=>exact (h.trem frm f).mono (Nat.le_succ _) (Nat.le_refl _)
theorem b4N {S:List Sb} {k:Int} {q:ByteArray×Fil} (h:a0A S k=some q):(k,q)∈S:=by
 unfold a0A at h;obtain ⟨p,h1,rfl⟩:=Option.map_eq_some_iff.1 h;have h2:=List.find?_some h1;have h3:p.1=k:=by simpa using h2
 rw [<-h3];exact List.mem_of_find?_eq_some h1
theorem RI.is_ {R:RS} {k m:Nat} (h:RI R k m) (hm:m<=4500):∀i∈R.I.map Prod.fst,(Lit.int .i64 i).wf=true/\∃q,a0A R.S i=some q/\okQ q.2/\q.1.size<=1000000:=by
 intro i hi;rw [h.is,List.map_map] at hi;obtain ⟨p,hp,rfl⟩:=List.mem_map.1 hi;have h1:=h.si p hp;refine ⟨F2 ⟨by show -1000<=p.1;omega,by show p.1<=1000000000;omega⟩, ?_⟩;show∃q,a0A R.S p.1=some q/\_
 cases hf:a0A R.S p.1 with
 |none=>
  exfalso;unfold a0A at hf;rw [Option.map_eq_none_iff,List.find?_eq_none] at hf;exact hf p hp (by simp)
 |some q=>
  have hq:=b4N hf;exact ⟨q,rfl,(h.sf _ hq).2,h.sw _ hq⟩
theorem RI.il {R:RS} {k m:Nat} (h:RI R k m):R.I.length<=1000:=by
 rw [h.is,zz10];have:=h.s;omega
theorem b2N {n t:Int} {a b:List Fil} {x:Sd} (h:x∈T8 n t a b) (ha:∀q∈a,okF q) (hb:∀q∈b,okF q):x.1=n/\x.2.1=t/\(x.2.2.kind=1\/x.2.2.kind=2)/\okF (x.2.2.fs,x.2.2.fl):=by
 rcases zz14 h with h|h
 ·obtain ⟨f,hf,rfl⟩:=List.mem_map.1 h;exact ⟨rfl,rfl,.inl rfl,hb f (List.mem_filter.1 hf).1⟩
 obtain ⟨f,hf,rfl⟩:=List.mem_map.1 h;exact ⟨rfl,rfl,.inr rfl,ha f (List.mem_filter.1 hf).1⟩
theorem a6T {M:List (Int×Fil)} (hM:∀p∈M,okF p.2) (n:Int):∀q∈C3 M n,okF q:=fun q hq=>by
 obtain ⟨-,x, -,hx⟩:=C8 (a3B hq).1;exact hM _ hx
theorem b2O {M:List (Int×Fil)} {t:Int} {near:List Int} {G:Int->List Fil} {x:Sd} (h:x∈y9 M t near G) (hM:∀p∈M,okF p.2) (hG:∀n,∀q∈G n,okF q):
 x.1∈near/\x.2.1=t/\(x.2.2.kind=1\/x.2.2.kind=2)/\okF (x.2.2.fs,x.2.2.fl):=by
 induction near generalizing G with
 |nil=>cases h
 | cons n near ih=>
  have h:x∈T8 n t (G n) (C3 M n)++y9 M t near (Z4 G n (C3 M n)):=h;rcases zz14 h with h|h
  ·obtain ⟨h1,h2⟩:=b2N h (hG n) (a6T hM n);exact ⟨by rw [h1];exact List.mem_cons_self,h2⟩
  obtain ⟨h1,h2⟩:=ih h (fun j q hq=>by
   unfold Z4 at hq;split at hq
   ·exact a6T hM n q hq
   ·exact hG j q hq)
  exact ⟨List.mem_cons_of_mem _ h1,h2⟩
theorem a6U:B7 Tryz.prog 74 79 9 104:=I8 zk zk
structure ShS (k k1 k2 q tm n:Nat) (ten:Int) (who:ByteArray) (f:Lit->Option Value) (x:Tv) (y:World):Prop where
 f0:y.cell? ⟨k,0,none⟩=some (.pointer (some ⟨q,0,none⟩))
 f1:y.cell? ⟨q,5,none⟩=some (.map (some tm))
 f2:y.cell? ⟨k2,0,none⟩=some (.int .i64 ten)
 f3:y.cell? ⟨k2,1,none⟩=some (.string who)
 f4:l4 y k1 0 9
 f5:cellsOf y k1 0 9=([.int .i64 x.t.kind,.int .i64 x.t.op,.int .i64 x.t.err,.int .i64 x.t.sub,.int .i64 x.t.ser,.int .i64 x.t.ver,.string x.t.org,.string x.t.es,.slice x.ea x.t.el.length x.ec]:List Value).toArray
 mp:l8 y 122 tm n f
theorem ShS.mod {k k1 k2 q tm n:Nat} {ten:Int} {who:ByteArray} {f:Lit->Option Value} {x:Tv} {y z:World} (h:ShS k k1 k2 q tm n ten who f x y) (hm:Mod (fun _=>False) y z):ShS k k1 k2 q tm n ten who f x z:=by
 have h1:d8 y k1 0 x.cells:=by
  have h2:=h.f4.at;rw [h.f5] at h2;unfold Tv.cells;simpa using h2
 have h2:=h1.mod hm id;exact ⟨hm.cell h.f0 id,hm.cell h.f1 id,hm.cell h.f2 id,hm.cell h.f3 id,h2.all rfl,h2.is rfl,h.mp.mod hm id⟩
theorem TrV.sl {w:World} {ow:Ow} {t:Int} {who:ByteArray} {v:Option Value} {l:List Tg} (h:TrV w ow t who v l):∃X:List Tv,X.map Tv.t=l/\GrS w ow (ct t who) 79 9 Tv.cells a3C (v.getD (.slice none 0 0)) X:=by
 cases v with
 |none=>exact ⟨[],Eq.symm h,GrS.nil _ _ _ _ _ _ _⟩
 |some v=>exact h
theorem A1.shown {w w':World} {ow ow':Ow} {q n k:Nat} {a:NAd} {s:NS} (h:A1 w ow q a s n) {ten:Int} {who:ByteArray} (ht:wfI ten) (hwz:who.size<=1000000) {f:Lit->Option Value} {v':Value} {X:List Tv} {x:Tv}
 (hk:k<=n+1) (hmp:l8 w' 122 a.tm k (T5 f (a0m ten who) v')) (hf:∀t who,wfI t->who.size<=1000000->TrV w ow t who (f (a0m t who)) (s.T t who)) (hX:X.map Tv.t=s.T ten who) (hg:GrS w' ow' (ct ten who) 79 9 Tv.cells a3C v' (X++[x]))
 (m:Mov (fun t=>t=7\/t=ct ten who) w ow w' ow'):A1 w' ow' q a (NS.shw s ten who x.t) (n+1):=by
 have hge:=a4T ten who;have h0:∀c,c<400->c≠7->¬(c=7\/c=ct ten who):=fun c hc h7=>zo
 have hq:=(zz7 h.row).1
 have hF:∀b c,ow b=c->c<400->c≠7->¬(fun k=>ow k=7\/ow k=ct ten who) b:=fun b c e hc h7 e2=>by
  have e2:ow b=7\/ow b=ct ten who:=e2;omega
 have htl:a.tm<w.heap.size:=by obtain ⟨k0,f0,g1, -⟩:=h.trc.mp;exact g1.lt
 refine ⟨m.md.heap h.row (hF q 2 h.tag zo zo),by rw [m.old q hq];exact h.tag,h.up.mod m.md (fun b hb=>hF b 5 (h.ub b hb) zo zo),fun b hb=>by rw [m.old b (h.up.lt b hb)];exact h.ub b hb,
  h.lnk.mov m (h0 0 zo zo) (h0 6 zo zo) (fun i j t e=> ?_),⟨by rw [m.old _ htl];exact h.trc.tag,⟨k,_,hmp,hk,fun t' who' ht' hz'=> ?_⟩⟩⟩
 ·have e:cl i j t=7\/cl i j t=ct ten who:=e;have:=O9 i j t;have:=b2H i j t ten who;omega
 by_cases e:t'=ten/\who'=who
 ·obtain ⟨rfl,rfl⟩:=e;have e1:T5 f (a0m t' who') v' (a0m t' who')=some v':=if_pos rfl;rw [e1];show∃Y:List Tv,Y.map Tv.t=a5K s.T t' who' (s.T t' who'++[x.t]) t' who'/\_;rw [a84];exact ⟨X++[x],by rw [List.map_append,hX];rfl,hg⟩
 have e1:T5 f (a0m ten who) v' (a0m t' who')=f (a0m t' who'):=if_neg (fun e2=>e (a6S ht' ht (by unfold maxLen;omega) (by unfold maxLen;omega) e2));rw [e1];have e3:(NS.shw s ten who x.t).T t' who'=s.T t' who':=a85 _ _ e;rw [e3];refine (hf t' who' ht' hz').mov m (h0 0 zo zo) (fun e2=> ?_);have e2:ct t' who'=7\/ct t' who'=ct ten who:=e2;have:=a4T t' who';exact e (b5Y ht' ht (by unfold maxLen;omega) (by unfold maxLen;omega) zo)
theorem b0j (w0 w:World) (ow:Ow) (hw:Owd w0 w ow) (q n:Nat) (a:NAd) (s:NS) (h:A1 w ow q a s n) (hn:n<=400000000000) (sid:Nat) (ten:Int) (mP:0<=ten/\ten<=3) (who:ByteArray) (hwz:who.size<=1000000)
 (hT:(s.T ten who).length<=400000000000) (x:Tv) (hx:a3C w ow x):
 Calls Tryz.prog 303 #[.agg #[.pointer (some ⟨q,0,none⟩),.int .i64 sid],.int .i64 ten,.string who,.agg x.cells.toArray] w fun e w'=>e= .returned (.tuple #[])/\∃ow',A1 w' ow' q a (NS.shw s ten who x.t) (n+1)/\Mov (fun t=>t=7\/t=ct ten who) w ow w' ow':=by
 obtain ⟨k,f,hmp,hk,hf⟩:=h.trc.mp;have hwt:wfI ten:=F2 zo;have hkey:keyOf Tryz.prog 122 (b0h ten who)=some (a0m ten who):=a2W hwt (by unfold maxLen;omega);obtain ⟨X,hX,hgr⟩:=(hf ten who hwt hwz).sl;have zH:=h.cellN (j:=5) rfl;obtain ⟨wa,ak,ae,aa,ah⟩:=g6 w (.cells #[.pointer (some ⟨q,0,none⟩),.int .i64 sid] 138);obtain ⟨wb,hwb,ay,aA,aU⟩:=g6 wa (.cells x.cells.toArray 79);obtain ⟨wc,hwc,bU,fZ,nW⟩:=g6 wb (.cells #[.int .i64 ten,.string who] 122);have ko:=ay.trans bU zi;have hmc:=ae.trans ko zi;have hz1:wa.heap.size=w.heap.size+1:=zo
 have hz2:wb.heap.size=w.heap.size+2:=zo
 have hga:=ko.heap aa id;have hgb:=bU.heap aA id;have hgc:=fZ;have hS0:ShS w.heap.size wa.heap.size wb.heap.size q a.tm k ten who f x wc:=⟨d6 hga rfl,hmc.cell zH id,d6 hgc rfl,d6 hgc rfl,(d8.row hgb).all rfl,(d8.row hgb).is rfl,hmp.mod hmc id⟩;have hz:∀u:World,(zeroValue 74).run Tryz.prog u= .ok (.slice none 0 0) u:=fun u=>zk
 obtain ⟨v0,hv0⟩:∃v0,(f (a0m ten who)).getD (.slice none 0 0)=v0:=⟨_,rfl⟩;rw [hv0] at hgr;obtain ⟨a0,c0,rfl,hc0⟩:=hgr.sl.shape;have uA:X.length<=400000000000:=by rw [<-hX,zz10] at hT;exact hT
 have hone:=x.cells_one;have hen:=fun wx (hm:l8 wx 122 a.tm k f)=>hm.entry a86 Tryz.underlying48 (by unfold maxLen;omega) hz hkey;rw [hv0] at hen;refine hh8 h hx hw hmp hf hX hgr zH fun H Hx Hw Io Hf HX tV XD=> ?_;refine hh8 hkey ak hwb hwc ae ay bU aa fun eu aB bN BZ ai sK mQ aC=> ?_;refine hh8 aA fZ ko hmc hga hgb hgc hS0 fun bq Jp Ae nz ku rz XE ji=> ?_;refine hh7 hz hv0 hone hen hwt hwz hT fun Hz UI aI UJ PR aX HT=> ?_;clear h hx hw hmp hf hX hgr zH hkey ak hwb hwc ae ay bU aa aA fZ ko hmc hga hgb hgc hS0 hz hv0 hone hen hwt hwz hT hz1 hz2 ah aU nW
 go_enter Tryz.func303,Tryz.ntmps303
 go_wp2_with (first|(rw [show w.alloc _=wa from aB.out])|(rw [show wa.alloc _=wb from bN.out])|((with_reducible refine d9 122 (.tmp 8) (.tmp 11) ?_);refine ⟨rfl,[.int .i64 ten,.string who],rfl,rfl,zk,rfl, ?_⟩;rw [BZ.out]))
 have hS:=ji.out.mod ((Mod.refl (fun _=>False) wc).drew);refine i6 [.rd 0,.rd 1,.rd 2,.rd 3,.rd 4,.rd 5,.rd 6,.go 7,.go 8,.rd 9,.rd 11,.go 10,.go 12] [0,1,2,3,4,5,6,7] (ShS w.heap.size wa.heap.size wb.heap.size q a.tm k ten who f x) zk zk (fun _ _ d _ _ h=>(by cases d<;>exact h)) ?_
 iterate 7 (
  refine wrd hS fun K hK=> ?_
  go_simp;refine hK _ ?_;clear hK K)
 refine wgo fun K hK=> ?_;(try simp only [zz1,zz2,zz3]);obtain ⟨wT,hwT,di,jc,jM⟩:=g6 wc.drew (.cells x.cells.toArray 79);have iy:wc.drew.alloc (.cells #[.int .i64 x.t.kind,.int .i64 x.t.op,.int .i64 x.t.err,.int .i64 x.t.sub,.int .i64 x.t.ser,.int .i64 x.t.ver,.string x.t.org,.string x.t.es,.slice x.ea x.t.el.length x.ec] 79)=wT:=hwT;go_simp;refine hK _ _ (fun _ h=>h.mod di) ?_;clear hK K;have hST:=hS.mod di;have eF:i8 wT 9 (.slice (some ⟨wc.heap.size,0,none⟩) 1 1) 1 x.cells:=hwT▸i8.one wc.drew x.cells 79 rfl;have EX:Mod (fun _=>False) wc wT:=((Mod.refl (fun _=>False) wc).drew).trans di zi;obtain ⟨st,wE,hrun,uU,hst⟩:=UJ.out wT hST.mp;clear hS;refine hh8 hST eF EX hrun uU hst hwT iy fun HST pR Mq tZ xR kM XF Et=> ?_;refine hh2 di jc fun UK UL=> ?_;clear hST eF EX hrun uU hst hwT iy di jc jM;refine wgo fun K hK=> ?_;(try simp only [zz1,zz2,zz3]);have hr:(Instr.mapEntry 48 (.map (some a.tm)) (.agg #[.int .i64 ten,.string who])).run Tryz.prog wT= .ok (.tuple #[.slice a0 X.length c0,goInt st]) wE:=tZ.out;refine a5L 48 _ _ rfl rfl rfl hr ?_;refine hK _ _ (fun h=>absurd h zd) ?_;clear hK K;refine a1s rfl ?_ (fun h=>absurd h zd) ?_ (fun w0 _=> ?_) (fun K hK=> ?_)
 ·exact zg
 rotate_left
 ·(try simp only [zz1,zz2,zz3]);go_simp;with_reducible rfl
 (try simp only [zz1,zz2,zz3]);go_simp;refine hK _ ?_;clear hK K;refine a1s rfl ?_ (fun h=>absurd h zd) ?_ (fun w0 _=> ?_) (fun K hK=> ?_)
 ·exact zg
 rotate_left
 ·(try simp only [zz1,zz2,zz3]);go_simp;with_reducible rfl
 (try simp only [zz1,zz2,zz3]);go_simp;refine hK _ ?_;clear hK K;refine wgo fun K hK=> ?_;(try simp only [zz1,zz2,zz3]);have hm1:=Mov.of Hw.out (nz.out.trans Mq.out zi) (fun _=>False);have uB:=hm1.owd Hw.out id;have vS:=H.out.trc.tag;have htl:=Io.out.lt;have hge:=a4T ten who
 have hm2:Mov (fun t=>t=7) wT ow wE ow:=Mov.wrote uB xR.out (fun k hk=>by
  have hk':k=a.tm:=hk;rw [hk']
  exact vS)
 have zJ:=hm2.owd uB zo;have hok1:∀y:Tv,a3C w ow y->a3C wE ow y:=fun y hy=>(hy.mov hm1 id).mov hm2 zo;have EY:=(tV.out.mov hm1 id (fun y hy=>hy.mov hm1 id)).mov hm2 zo (fun y hy=>hy.mov hm2 zo)
 have zK:i8 wE 9 (.slice (some ⟨wc.heap.size,0,none⟩) 1 1) 1 x.cells:=pR.out.mod xR.out (fun b hb e=>by
  have hb':wc.heap.size=b:=Option.some.inj hb;have e':b=a.tm:=e;have:=nz.out.size
  omega)
 refine l5 (.tmp 18) (.tmp 20) 74 rfl 79 9 104 a6U (.slice a0 X.length c0) X.length (X.flatMap Tv.cells) rfl EY.sl (.slice (some ⟨wc.heap.size,0,none⟩) 1 1) 1 x.cells rfl zK aI.out zo (by unfold maxLen;omega) (fun ad cap2 w6 hA=> ?_);refine hK _ _ (fun h=>absurd h zd) ?_;clear hK K
 obtain ⟨ow6,fB,cz, -⟩:=EY.app (x:=x) (Mod.refl _ wE) hA (fun ow' y rM hy=>by
  rcases hy with hy|rfl
  ·exact (EY.ok y hy).mov rM zo
  ·exact (hok1 y Hx.out).mov rM zo)
 have hsame:w6.heap[a.tm]? =wE.heap[a.tm]? :=cz.md.block a.tm (zz13 htl (Nat.le_trans (hm1.md.size) hm2.md.size)) (fun hf=>by
  have hf':ow a.tm=ct ten who:=hf
  omega)
 obtain ⟨w7,qE,Mr,bP⟩:=kM.out w6 (.slice ad (X.length+1) cap2) hsame;have PS:(Instr.entryStore 48 (.map (some a.tm)) (goInt st) (.slice ad (X.length+1) cap2)).run Tryz.prog w6= .ok () w7:=qE;have jH:=cz.owd zJ zo
 have qF:Mov (fun t=>t=7) w6 ow6 w7 ow6:=Mov.wrote jH bP (fun k hk=>by
  have hk':k=a.tm:=hk;rw [hk',cz.old _ (zz13 htl (Nat.le_trans (hm1.md.size) hm2.md.size))]
  exact vS)
 have qG:Mov (fun t=>t=7\/t=ct ten who) w ow w7 ow6:=(((hm1.mono (fun _ h=>h.elim)).trans (hm2.mono (fun _ h=> .inl h))).trans (cz.mono (fun _ h=> .inr h))).trans (qF.mono (fun _ h=> .inl h));have pU:=fB.mov qF zo (fun y hy=>hy.mov qF zo);have hfin:=H.out.shown (n:=n) (k:=_) PR.out aX.out (by split<;>omega) Mr Hf.out HX.out pU qG;refine hh8 hm1 uB vS htl hm2 zJ hok1 EY fun dn UM AQ Fe aS UN UO XG=> ?_;refine hh8 zK hA fB cz hsame qE Mr bP fun UQ HA sI iU kN PT XH nG=> ?_;refine hh5 jH qF qG pU hfin fun Ar UR Ff OU bF=> ?_;clear hm1 uB vS htl hm2 zJ hok1 EY zK hA fB cz hsame qE Mr bP jH qF qG pU hfin;refine wgo fun K hK=> ?_;(try simp only [zz1,zz2,zz3]);refine a4m 48 _ _ _ rfl rfl rfl rfl PS ?_;refine hK _ _ (fun h=>absurd h zd) ?_;clear hK K PS;refine p8 ?_
 go_wp2_with fail
 go_end0
 exact ⟨rfl,ow6,bF.out,Ff.out⟩
structure NOk (N:List (List Int)):Prop where
 len:N.length<=6
 rng:∀i j,n9 N i j=true->(0<=i/\i<N.length)/\(0<=j/\j<N.length)
 nl:∀i,(m5 N i).length<=6
 ir:∀i,n9 N i i=false
 sym:∀i j,n9 N i j=true->n9 N j i=true
theorem NOk.wf {N:List (List Int)} (h:NOk N):∀i j,n9 N i j=true->wfI i/\wfI j:=fun i j hl=>by
 have h1:=h.rng i j hl;have h2:=h.len;exact ⟨F2 zo,F2 zo⟩
structure Sz (s:NS) (c:Nat):Prop where
 lk:∀i j t,M4 s.N i j t=true->(s.K i j t).Good/\(s.K i j t).base<=400000000000/\(s.K i j t).q.length+(s.K i j t).lost<=c
 tr:∀t who,(s.T t who).length<=c
theorem Sz.le {s:NS} {c c':Nat} (h:Sz s c) (hc:c<=c'):Sz s c':=⟨fun i j t ht=>⟨(h.lk i j t ht).1,(h.lk i j t ht).2.1,Nat.le_trans (h.lk i j t ht).2.2 hc⟩,fun t who=>Nat.le_trans (h.tr t who) hc⟩
theorem LK.Good.push {a:LK} (h:a.Good) (m:Mg):(a.push m).Good:=by
 unfold LK.push;split
 ·exact h
 exact ⟨fun e=>absurd e (by simp),h.2⟩
theorem LK.push_sz (a:LK) (m:Mg):(a.push m).q.length+(a.push m).lost<=a.q.length+a.lost+1:=by
 unfold LK.push;split
 ·show a.q.length+(a.lost+1)<=_;omega
 show (a.q++[m]).length+a.lost<=_;rw [zz4,List.length_singleton];omega
theorem LK.push_base (a:LK) (m:Mg):(a.push m).base=a.base:=by
 unfold LK.push;split<;>rfl
theorem NS.send_N (sid:Int) (s:NS) (td ten:Int) (m:Mg):(NS.send sid s td ten m).N=s.N:=by
 unfold NS.send;split<;>rfl
theorem Sz.send {s:NS} {c:Nat} (h:Sz s c) (sid td ten:Int) (m:Mg):Sz (NS.send sid s td ten m) (c+1):=by
 unfold NS.send;split
 ·refine ⟨fun i j t ht=> ?_,fun t who=>Nat.le_succ_of_le (h.tr t who)⟩;have h1:=h.lk i j t ht;by_cases e:i=sid/\j=td/\t=ten
  ·obtain ⟨rfl,rfl,rfl⟩:=e;show (D9 s.K i j t _ i j t).Good/\(D9 s.K i j t _ i j t).base<=_/\(D9 s.K i j t _ i j t).q.length+(D9 s.K i j t _ i j t).lost<=_;rw [R8];have h2:=LK.push_sz (s.K i j t) m;exact ⟨h1.1.push m,by rw [LK.push_base];exact h1.2.1,zo⟩
  show (D9 s.K sid td ten _ i j t).Good/\(D9 s.K sid td ten _ i j t).base<=_/\(D9 s.K sid td ten _ i j t).q.length+(D9 s.K sid td ten _ i j t).lost<=_;rw [R9 _ _ e];exact ⟨h1.1,h1.2.1,zo⟩
 exact h.le (Nat.le_succ _)
theorem Sz.shw {s:NS} {c:Nat} (h:Sz s c) (ten:Int) (who:ByteArray) (t:Tg):Sz (NS.shw s ten who t) (c+1):=by
 refine ⟨fun i j t ht=> ?_,fun t' who'=> ?_⟩
 ·have h1:=h.lk i j t ht;exact ⟨h1.1,h1.2.1,Nat.le_succ_of_le h1.2.2⟩
 show (a5K s.T ten who (s.T ten who++[t]) t' who').length<=c+1;by_cases e:t'=ten/\who'=who
 ·obtain ⟨rfl,rfl⟩:=e;rw [a84,zz4,List.length_singleton];have:=h.tr t' who';omega
 rw [a85 _ _ e];exact Nat.le_succ_of_le (h.tr t' who')
structure a4n where
 i:Int
 j:Int
 t:Int
 b:Nat
 F:Nat->Prop
 L:C2
def Y2 (w:World) (ow:Ow):Option a4n->Prop
 |none=>True
 |some p=>m6 w p.b p.F p.L/\∀k,p.F k->ow k=cl p.i p.j p.t
def U5 (sid:Int):Option a4n->Prop
 |none=>True
 |some p=>wfI p.i/\wfI p.j/\wfI p.t/\p.i≠sid
theorem Y2.mov {w w':World} {ow ow':Ow} {pin:Option a4n} {F:Nat->Prop} (h:Y2 w ow pin) (s:Mov F w ow w' ow') (hF:∀p,pin=some p->¬F (cl p.i p.j p.t)):Y2 w' ow' pin:=by
 cases pin with
 |none=>trivial
 |some p=>
  obtain ⟨h1,h2⟩:=h;exact ⟨h1.mod s.md (fun k hk hf=>hF p rfl (by have hf':F (ow k):=hf;rwa [h2 k hk] at hf')),fun k hk=>by rw [s.old k (h1.in_ hk)];exact h2 k hk⟩
def Q8 (w0:World) (q sid:Nat) (a:NAd) (N:List (List Int)) (hN:NOk N) (hs:sid<N.length) (pin:Option a4n) (hpn:U5 sid pin):D5 w0 q (sid:Int) where
 σ:=NS×Nat
 inv:=fun w ow s=>A1 w ow q a s.1 s.2/\Sz s.1 s.2/\s.1.N=N/\Y2 w ow pin
 tg:=sdT
 t2:=fun t h=>by unfold sdT at h;omega
 cnt:=fun s=>s.2
 okTo:=fun td ten=>M4 N sid td ten=true
 send:=fun s td ten m=>(NS.send sid s.1 td ten m,s.2+1)
 shw:=fun s ten who t=>(NS.shw s.1 ten who t,s.2+1)
 csend:=fun _ _ _ _=>Nat.le_refl _
 cshw:=fun _ _ _ _=>Nat.le_refl _
 mov:=fun h _ m h0 hF=>⟨h.1.mov m h0 hF,h.2.1,h.2.2.1,h.2.2.2.mov m (fun p _ hf=>hF _ hf (.inr (.inr (.inr (.inr (O9 _ _ _))))))⟩
 hsend:=fun {w ow s td ten x} hw h hc ht hx=>by
  obtain ⟨h1,h2,h3,h5⟩:=h;have ht':M4 s.1.N sid td ten=true:=by rw [h3];exact ht
  have hl:=a3S ht;have hr:=hN.rng _ _ hl.1;obtain ⟨t,rfl⟩:∃t:Nat,td=t:=⟨td.toNat,zo⟩;have h4:=h2.lk _ _ _ ht';have hcs:s.2<=400000000000:=hc;have rO:=hN.len;refine (b0i w0 w ow hw q s.2 a s.1 h1 (by rw [h3];exact hN.wf) sid t ten ht' (by rw [h3];omega) (by rw [h3];exact hN.len) zo hl.2 h4.1 h4.2.1 (Nat.le_trans h4.2.2 hcs) x hx).mono ?_;rintro e w' ⟨he,ow',hA,hM⟩;refine ⟨he,ow',⟨hA.le (Nat.le_succ _),h2.send _ _ _ _,by rw [NS.send_N];exact h3,h5.mov hM (fun p hp hc=> ?_)⟩,hM.mono (fun c hc=> ?_)⟩
  ·subst hp;obtain ⟨p1,p2,p3,p4⟩:=hpn;exact p4 (a8f p1 p2 p3 (hN.wf _ _ hl.1).1 (hN.wf _ _ hl.1).2 (F2 zo) hc).1
  have:=O9 sid t ten;exact .inr (.inr (.inr (.inr zo)))
 hshw:=fun {w ow s ten who x} hw h hc h0 h3 hz hx=>by
  obtain ⟨h1,h2,h4,h5⟩:=h;have hcs:s.2<=400000000000:=hc;refine (b0j w0 w ow hw q s.2 a s.1 h1 hcs sid ten ⟨h0,h3⟩ who hz (Nat.le_trans (h2.tr _ _) hcs) x hx).mono ?_;rintro e w' ⟨he,ow',hA,hM⟩;refine ⟨he,ow',⟨hA,h2.shw _ _ _,h4,h5.mov hM (fun p hp hc=> ?_)⟩,hM.mono (fun c hc=> ?_)⟩
  ·have h6:=O9 p.i p.j p.t;rcases hc with hc|hc
   ·omega
   exact b2H _ _ _ _ _ hc
  have:=a4T ten who;rcases hc with rfl|hc
  ·exact .inr (.inr (.inr (.inl rfl)))
  exact .inr (.inr (.inr (.inr zo)))
structure y7 (w0 w:World) (ow:Ow) (q:Nat) (a:NAd) (L:List Lr) (s:NS) (c k:Nat):Prop where
 base:Mod (fun _=>False) w0 w
 side:A1 w ow q a s c
 sz:Sz s c
 nok:NOk s.N
 log:M5 w ow 2 3 q (a.rest s.subs) 54 a.v L
 lg:L.map Prod.fst=s.L
 tree:U0 w0 a.tp s.N
 bs:g7 w 90 1 a.bv s.N.length ((List.range s.N.length).map fun i=>ptr (a.bg i))
 bb:∀b,a.bv.ownBlock=some b->ow b=4
 bro:∀i,i<s.N.length->Bro w ow (20+20*i) (a.bg i) i (s.near i) (s.B i)
 ops:a8e w ow 8 a.om s.ops k
 ser:a8e w ow 9 a.sm s.ser k
 pubs:∃X,X.map Pv.p=s.pubs/\GrS w ow 10 67 6 Pv.cells b4K a.pv X
 told:∃X,X.map Nv.s=s.told/\GrS w ow 11 63 7 Nv.cells b4L a.nv X
structure Agr (s s':NS):Prop where
 N:s'.N=s.N
 L:s'.L=s.L
 subs:s'.subs=s.subs
 ops:s'.ops=s.ops
 ser:s'.ser=s.ser
 pubs:s'.pubs=s.pubs
 told:s'.told=s.told
 up:s'.up=s.up
 B:s'.B=s.B
theorem Agr.refl (s:NS):Agr s s:=⟨rfl,rfl,rfl,rfl,rfl,rfl,rfl,rfl,rfl⟩
theorem Agr.trans {s s' s'':NS} (h:Agr s s') (h':Agr s' s''):Agr s s'':=⟨h'.N.trans h.N,h'.L.trans h.L,h'.subs.trans h.subs,h'.ops.trans h.ops,h'.ser.trans h.ser,h'.pubs.trans h.pubs,h'.told.trans h.told,h'.up.trans h.up,h'.B.trans h.B⟩
theorem Agr.send (sid:Int) (s:NS) (td ten:Int) (m:Mg):Agr s (NS.send sid s td ten m):=by
 unfold NS.send;split<;>exact ⟨rfl,rfl,rfl,rfl,rfl,rfl,rfl,rfl,rfl⟩
theorem Agr.sends (sid:Int) (s:NS) (l:List Sd):Agr s (NS.sends sid s l):=by
 induction l generalizing s with
 |nil=>exact Agr.refl s
 |cons x l ih=>exact (Agr.send sid s x.1 x.2.1 x.2.2).trans (ih _)
theorem Agr.shows (s:NS) (l:List Hn):Agr s (NS.shows s l):=by
 induction l generalizing s with
 |nil=>exact Agr.refl s
 |cons x l ih=>exact (⟨rfl,rfl,rfl,rfl,rfl,rfl,rfl,rfl,rfl⟩:Agr s (NS.shw s x.1 x.2.1 x.2.2)).trans (ih _)
section
variable {w0:World} {q sid:Nat} {a:NAd} {N:List (List Int)} {hN:NOk N} {hs:sid<N.length} {pin:Option a4n} {hpn:U5 sid pin}
theorem a0I (s:NS) (c:Nat) (l:List Sd):(Q8 w0 q sid a N hN hs pin hpn).sends (s,c) l=(NS.sends sid s l,c+l.length):=by
 induction l generalizing s c with
 |nil=>rfl
 |cons x l ih=>
  show (Q8 w0 q sid a N hN hs pin hpn).sends (NS.send sid s x.1 x.2.1 x.2.2,c+1) l=_;rw [ih,zz9,Nat.add_assoc,Nat.add_comm 1];rfl
theorem a6V (s:NS) (c:Nat) (l:List Hn):(Q8 w0 q sid a N hN hs pin hpn).shows (s,c) l=(NS.shows s l,c+l.length):=by
 induction l generalizing s c with
 |nil=>rfl
 |cons x l ih=>
  show (Q8 w0 q sid a N hN hs pin hpn).shows (NS.shw s x.1 x.2.1 x.2.2,c+1) l=_;rw [ih,zz9,Nat.add_assoc,Nat.add_comm 1];rfl
end
theorem A1.setB {w:World} {ow:Ow} {q n:Nat} {a:NAd} {s:NS} (h:A1 w ow q a s n) (i:Nat) (B:BS):A1 w ow q a (s.setB i B) n:=⟨h.row,h.tag,h.up,h.ub,h.lnk,h.trc⟩
theorem Sz.setB {s:NS} {c:Nat} (h:Sz s c) (i:Nat) (B:BS):Sz (s.setB i B) c:=⟨h.lk,h.tr⟩
def Q6 (i t:Nat):Prop:=(20+20*i<=t/\t<20+20*i+18)\/sdT t
theorem y7.call {w0 w w':World} {ow ow':Ow} {q c c' k i:Nat} {a:NAd} {L:List Lr} {s s':NS} {B:BS} (h:y7 w0 w ow q a L s c k) (hw:Owd w0 w ow) (hi:i<s.N.length) (hB:Bro w' ow' (20+20*i) (a.bg i) i (s.near i) B) (hS:A1 w' ow' q a s' c') (hz:Sz s' c') (m:Mov (Q6 i) w ow w' ow') (hA:Agr (s.setB i B) s'):y7 w0 w' ow' q a L s' c' k:=by
 have rO:=h.nok.len;have h0:¬Q6 i 0:=fun h=>by unfold Q6 sdT at h;omega
 have hn:∀t,t=3\/t=4\/t=8\/t=9\/t=10\/t=11->¬Q6 i t:=fun t ht h=>by unfold Q6 sdT at h;omega
 have eN:s'.N=s.N:=hA.N;have eS:s'.subs=s.subs:=hA.subs;obtain ⟨X,hX1,hX2⟩:=h.pubs;obtain ⟨Y,UT,hY2⟩:=h.told;refine ⟨m.mod0 hw h.base h0,hS,hz,by rw [eN];exact h.nok,⟨hS.row,hS.tag,h.log.sl.mov m h0 (hn 3 zo)⟩, ?_,by rw [eN];exact h.tree, ?_,fun b hb=> ?_,fun j hj=> ?_, ?_, ?_,⟨X, ?_,hX2.mov m (hn 10 zo) (fun x hx=>q6.mov hx m h0 zo)⟩,⟨Y, ?_,hY2.mov m (hn 11 zo) (fun x hx=>q6.mov hx m h0 zo)⟩⟩
 ·rw [h.lg];exact (show s'.L=s.L from hA.L).symm
 ·rw [eN]
  exact h.bs.mod m.md (fun b hb hf=>by
   have hf':Q6 i (ow b):=hf;rw [h.bb b hb] at hf'
   exact hn 4 zo hf')
 ·rw [m.old b (h.bs.lt b hb)];exact h.bb b hb
 ·rw [eN] at hj;have eB:s'.B=upd s.B i B:=hA.B;have en:s'.near j=s.near j:=by unfold NS.near;rw [eN]
  rw [en,eB];by_cases e:j=i
  ·subst e;rw [J0];exact hB
  rw [L9 _ _ e];exact (h.bro j hj).mov hw m h0 (fun t ht=>by unfold Q6 sdT at ht;omega)
 ·rw [show s'.ops=s.ops from hA.ops];exact h.ops.mov m (hn 8 zo)
 ·rw [show s'.ser=s.ser from hA.ser];exact h.ser.mov m (hn 9 zo)
 ·rw [hX1];exact (show s'.pubs=s.pubs from hA.pubs).symm
 rw [UT];exact (show s'.told=s.told from hA.told).symm
end
end Go.Proofs.YtdmjoodhaeijmaaGreatDoor
