/- Lemmas. -/
import Derived.Test.YtebhabpahfmodaaGreatDoorZh17
import Derived.Test.YtebhabpahfmodaaGreatDoorZh4
import Derived.Lib.QuoteLoop
import Derived.Test.YtebhabpahfmodaaGreatDoorZh6
import Derived.Lib.PrintData
set_option maxHeartbeats 40000000
set_option maxRecDepth 20000
namespace Go.Proofs.YtebhabpahfmodaaGreatDoor
section
open Go.RowKit
theorem P2 {w:World} {ops:Array Oper} {rest:List Oper} {a:Act} {Q:Exit->Act->World->Prop} {d:Option Tmp} {tp:TypeId} {pos:String} {af:Array Edge} {at1:Array TypeId} (s:Operand) (x:Value)
 (h:at1=#[237,9]/\∃(F:Nat->Prop) (w0:World) (v:Value) (bs:List UInt8) (z:ByteArray),Buf F w0 w v bs/\a.eval s=v/\x= .string z/\bs.length<=1000000/\z.size<=1000000/\
   ∀ad cap w',Buf F w0 w' (.slice ad (bs.length+z.size) cap) (bs++txt z)->wpList Tryz.prog ops Q rest (a.put d (.slice ad (bs.length+z.size) cap)) w'):
 wpList Tryz.prog ops Q (⟨d,.call {callee:= .builtin .append,args:=#[s,.const x],argTypes:=at1},tp,pos,af,none⟩::rest) a w:=by
 obtain ⟨rfl,F,w0,v,bs,z,hb,hs,rfl,h1,h2,hK⟩:=h;refine a1R rfl s (.const (.string z)) 237 9 rfl 5 a7C zk v bs.length (u8s bs) hs hb.own z rfl zo (by unfold maxLen;omega) fun ad cap w' ha=>hK ad cap w' ?_;have:=hb.put (l:=txt z) (m:=z.size) rfl ha;exact this
theorem b1M (w:World) (F:Nat->Prop) (v:Value) (b:Nat) (kD:b<18446744073709551616) (hfin:b / 4503599627370496%2048=2047) (hb:Buf F w w v []):
 Calls Tryz.prog 184 #[v,.float .f64 b,.int .u8 103,.int .i64 (-1)] w (a3J F w (B5 b)):=by
 obtain ⟨ad,cap,rfl, -⟩:=hb.own.shape;have hs:=a3I b w;obtain ⟨mt,hmt⟩:∃mt,b%4503599627370496=mt:=⟨_,rfl⟩
 have e1:bits .and .i64 ((b:Int) / 4503599627370496) 2047=2047:=by
  have h:=a10 ((b:Int) / 4503599627370496) 11 zd;refine h.trans ?_;show (b:Int) / 4503599627370496%(2048:Int)=_;omega
 have e2:bits .and .u64 (b:Int) 4503599627370495=mt:=by
  have h:=a9m b 52 zd kD;rw [<-hmt];exact h
 have Gv:mt<4503599627370496:=zo
 obtain ⟨t,iT⟩:∃t,B5 b=t:=⟨_,rfl⟩;rw [iT];have hr1:b%2^63 / 2^52=2047:=zo
 have hr2:b%2^52=mt:=zo
 have hb0:=fun n=>hb.also ((Mod.refl (fun _=>False) w).drewN n);by_cases hm:mt=0
 ·have h0:((mt:Int) !=0)=false:=by rw [hm];rfl
  by_cases hn:b / 2^63≠0
  ·have h1:((b:Int) / 9223372036854775808 !=0)=true:=by rw [bne_iff_ne];omega
   have h2:t=[45,73,110,102]:=by rw [<-iT];unfold B5;rw [if_pos hr1,if_neg zo,if_pos hn]
   obtain ⟨Hb,oo,vX,EU,Bc,Hm,H2,Hb0⟩:=zh8 hb hmt iT hr1 hr2 hm h2 hb0;clear hb hmt iT hr1 hr2 hm h2 hb0 hn
   go_enter Tryz.func184,Tryz.ntmps184
   go_wp2_with fail
   go_quiet (fail)
   go_wp2_with ((with_reducible refine P2 (.tmp 73) _ ?_);(refine ⟨rfl,F,w,_,_,_,Hb0.out _,rfl,rfl,zd,zd,fun ad1 cap1 w1 hb1=> ?_⟩);have Hb1:=Lib.hid hb1;clear hb1)
   go_ret;exact ⟨_,rfl,by rw [H2.out];exact Hb1.out⟩
  have h1:((b:Int) / 9223372036854775808 !=0)=false:=by rw [bne_eq_false_iff_eq];omega
  have h2:t=[43,73,110,102]:=by rw [<-iT];unfold B5;rw [if_pos hr1,if_neg zo,if_neg hn]
  obtain ⟨Hb,oo,vX,EU,Bc,Hm,H2,Hb0⟩:=zh8 hb hmt iT hr1 hr2 hm h2 hb0;clear hb hmt iT hr1 hr2 hm h2 hb0 hn
  go_enter Tryz.func184,Tryz.ntmps184
  go_wp2_with fail
  go_quiet (fail)
  go_wp2_with ((with_reducible refine P2 (.tmp 75) _ ?_);(refine ⟨rfl,F,w,_,_,_,Hb0.out _,rfl,rfl,zd,zd,fun ad1 cap1 w1 hb1=> ?_⟩);have Hb1:=Lib.hid hb1;clear hb1)
  go_ret;exact ⟨_,rfl,by rw [H2.out];exact Hb1.out⟩
 have h0:((mt:Int) !=0)=true:=by rw [bne_iff_ne];omega
 have h2:t=[78,97,78]:=by rw [<-iT];unfold B5;rw [if_pos hr1,if_pos zo]
 obtain ⟨Hb,oo,vX,EU,Bc,Hm,H2,Hb0⟩:=zh8 hb hmt iT hr1 hr2 hm h2 hb0;clear hb hmt iT hr1 hr2 hm h2 hb0
 go_enter Tryz.func184,Tryz.ntmps184
 go_wp2_with fail
 go_quiet (fail)
 go_wp2_with ((with_reducible refine P2 (.tmp 70) _ ?_);(refine ⟨rfl,F,w,_,_,_,Hb0.out _,rfl,rfl,zd,zd,fun ad1 cap1 w1 hb1=> ?_⟩);have Hb1:=Lib.hid hb1;clear hb1)
 go_ret;exact ⟨_,rfl,by rw [H2.out];exact Hb1.out⟩
section
variable {w w' w'':World} {p:Nat} {v v' v'':Value} {bs:List UInt8}
end
theorem b5J:E7 Tryz.prog 97 3 1 8:=O8 zk zk
theorem C6 {P:Program} {o:Oper} {a:Act} {w:World} {K:Act->World->Prop} {Q:Exit->Act->World->Prop}
 (s y:Operand) (t:TypeId) (hop:o.op=Op.call {callee:=Callee.builtin Builtin.append,args:=#[s,y],argTypes:=#[t,t]})
 (e:TypeId) (sz bytes:Nat) (hT:E7 P t e sz bytes)
 (v:Value) (n:Nat) (xs:List Value) (hs:a.eval s=v) (hown:j2 w e sz v n xs) (x:Value) (m:Nat) (news:List Value) (hy:a.eval y=x) (hx:j3 w sz x m news) (h1:∀u∈news,u.oneCell'=true)
 (hbytes:(n+m)*bytes<=140737488355328) (hmax:n+m<=maxLen)
 (hK:∀ad cap w',q5 w e sz v (n+m) (xs++news) (.slice ad (n+m) cap) w'->K (a.put o.dst (.slice ad (n+m) cap)) w'):o.wp P a w K Q:=by
 obtain ⟨ht,i0,z,hi,hz0,hz1,hz2,hzs⟩:=hT;obtain ⟨v',w',hrun,r1,r2,r3⟩:=V8 (P:=P) w t o.type e i0 z sz bytes ht hi hz0 hz1 hz2 hzs v n xs hown x m news hx h1 hbytes hmax;unfold Oper.wp execOp;simp only [hop,resolve,invoke,builtin,Sem.run_bind,Sem.run_pure,Result.andThen_ok,List.map_toArray,List.map_cons,List.map_nil,hs,hy,hrun];obtain ⟨ad,cap,rfl,_⟩:=r1.shape;exact hK ad cap w' ⟨r1,r2,r3⟩
end
open Go.RowKit
theorem b1N {w:World} {v:Value} {bs:List UInt8} {e:TypeId} (h:j2 w e 1 v bs.length (u8s bs)):(convert 237 9 v).run Tryz.prog w= .ok (.string (str bs)) w:=by
 have hrd:=h.rd;rcases h.2 with ⟨rfl,h0⟩|⟨g,off,cap,cur,rfl, -⟩
 ·obtain rfl:bs=[]:=List.eq_nil_of_length_eq_zero h0;exact b1t
 obtain ⟨-,a,c,h1, -, -,h4⟩:=hrd;cases h1
 refine a7G rfl (fun j u hu=> ?_);obtain ⟨g',off',h5,h6⟩:=h4 _ rfl (by have:=(zz6 hu).1;omega);cases h5
 exact h6 j _ (by simp [u8s,hu])
theorem b5K (w:World):∃cur:Array Value,cur.size=24/\(Instr.makeSlice 237 (.int .i64 0) (.int .i64 24)).run Tryz.prog w= .ok (.slice (some ⟨w.heap.size,0,none⟩) 0 24) (w.alloc (.cells cur 5)):=by
 obtain ⟨i,hi,h⟩:∃i,Tryz.prog.info? 5=some i/\(i.zero.map (·.cells),i.size,i.bytes)=(some #[.int .u8 0],1,1):=⟨_,rfl,zk⟩;simp only [Prod.mk.injEq] at h;obtain ⟨h1,h2,h3⟩:=h
 cases hz:i.zero with
 |none=>rw [hz] at h1;cases h1
 |some z=>
  have hr:=run_make (P:=Tryz.prog) w 237 5 i z zk hi hz .i64 .i64 0 24 zo zo (by rw [h3];omega) zo;refine ⟨_, ?_,hr⟩;rw [h2];simp [madeCells]
theorem b38 (w:World) (hw:Lays w) (h64:16<=w.heap.size) (b:Nat) (kD:b<18446744073709551616):
 Calls Tryz.prog 157 #[.float .f64 b,.int .u8 103,.int .i64 (-1),.int .i64 64] w fun e w'=>e= .returned (.string (str (B5 b)))/\Mod (fun _=>False) w w':=by
 obtain ⟨cur,hc,hmk⟩:=b5K w;obtain ⟨wa,aD⟩:∃wa:World,w.alloc (.cells cur 5)=wa:=⟨_,rfl⟩;rw [aD] at hmk;have oF:Mod (fun _=>False) w wa:=aD▸(Mod.refl (fun _=>False) w).alloc _;have hga:wa.heap[w.heap.size]? =some (.cells cur 5 (0,0)):=aD▸heap_alloc_new w _;have hza:wa.heap.size=w.heap.size+1:=by rw [<-aD];simp
 have hbuf:Buf (fun k=>k=w.heap.size) wa wa (.slice (some ⟨w.heap.size,0,none⟩) 0 24) []:=
  ⟨⟨rfl,.inr ⟨w.heap.size,0,24,cur,rfl,hga,zd,zd,zo,rfl⟩⟩,fun k hk=> .inl (Option.some.inj hk).symm,Mod.refl _ _⟩
 have hcall:Calls Tryz.prog 184 #[.slice (some ⟨w.heap.size,0,none⟩) 0 24,.float .f64 b,.int .u8 103,.int .i64 (-1)] wa (a3J (fun k=>k=w.heap.size) wa (B5 b)):=by
  by_cases hf:b / 4503599627370496%2048=2047
  ·exact b1M wa _ _ b kD hf hbuf
  exact b36 wa (hw.mod0 oF) _ _ b kD zo hbuf (fun g hg h=>zo) (fun g hg h=>zo)
 obtain ⟨t,ht⟩:∃t,B5 b=t:=⟨_,rfl⟩;rw [ht] at hcall⊢;obtain ⟨uT,aF,yN,qM,Gw,Hw,Ht,ZB⟩:=zh8 hmk aD oF hga hcall hw ht hbuf;clear hmk aD oF hga hcall hw ht hbuf
 go_enter Tryz.func157,Tryz.ntmps157
 go_wp2_with fail
 rw [show (max 3 24:Int)=24 from rfl,uT.out]
 go_wp2_with fail
 refine Gw.out.mono ?_;rintro e w2 ⟨v2,rfl,hb2⟩;have hcv:=b1N hb2.own;have Hb2:=zh hb2;clear hb2
 go_wp2
 go_ret;refine ⟨rfl, ?_⟩;refine Mod.trans yN.out Hb2.out.mod (fun k hk h=> ?_);omega
theorem a4A (w:World) (hw:Lays w) (h64:16<=w.heap.size) (b:Nat) (kD:b<18446744073709551616):
 Calls Tryz.prog 122 #[.float .f64 b,.int .u8 103,.int .i64 (-1),.int .i64 64] w fun e w'=>e= .returned (.string (str (B5 b)))/\Mod (fun _=>False) w w':=by
 have hc:=b38 w hw h64 b kD;obtain ⟨t,ht⟩:∃t,B5 b=t:=⟨_,rfl⟩;rw [ht] at hc⊢;obtain ⟨Hc,Ht,Hw⟩:=zh3 hc ht hw;clear hc ht hw
 go_enter Tryz.func122,Tryz.ntmps122
 go_wp2_with fail
 refine Hc.out.mono ?_;rintro e w2 ⟨rfl,hm⟩
 go_wp2
 go_ret;exact ⟨rfl,hm⟩
def Q0 (l:List UInt8):Bool:=l.any fun c=>c==46||c==101||c==73||c==78
def S4 (b:Nat):List UInt8:=if Q0 (B5 b) then B5 b else B5 b++[46,48]
def y8 (c:UInt8):Prop:=43<=c.toNat/\c.toNat<=110
theorem a3n {c:UInt8} (h:o8 c):y8 c:=⟨by have:=h.1;omega,by have:=h.2;omega⟩
theorem a6u (e:Nat) (h:e<=999):∀c∈J7 e,o8 c:=by
 intro c hc
 have hd:∀k,k<10->o8 (UInt8.ofNat (48+k)):=fun k hk=>by
  have e:(UInt8.ofNat (48+k)).toNat=(48+k)%256:=rfl;unfold o8;rw [e];omega
 unfold J7 at hc;split at hc
 ·simp only [List.mem_cons,List.not_mem_nil,or_false] at hc;rcases hc with rfl|rfl
  ·exact hd _ zo
  exact hd _ zo
 simp only [List.mem_cons,List.not_mem_nil,or_false] at hc;rcases hc with rfl|rfl|rfl
 ·exact hd _ zo
 ·exact hd _ zo
 exact hd _ zo
theorem b1O {ds:List UInt8} {dp:Int} (h:U7 ds) (hr: -400<=dp/\dp<=400):∀c∈J9 ds dp,y8 c:=by
 have one:∀k:UInt8,y8 k->∀c∈[k],y8 c:=fun k hk c hc=>by rw [List.mem_singleton.1 hc];exact hk
 have app:∀{a b:List UInt8},(∀c∈a,y8 c)->(∀c∈b,y8 c)->∀c∈a++b,y8 c:=fun ha hb c hc=>(zz14 hc).elim (ha c) (hb c);have dd:∀c∈ds,y8 c:=fun c hc=>a3n (h.dig c hc);have t48:y8 48:=by unfold y8;decide
 have t46:y8 46:=by unfold y8;decide
 have t101:y8 101:=by unfold y8;decide
 have t45:y8 45:=by unfold y8;decide
 have t43:y8 43:=by unfold y8;decide
 have zz:∀n,∀c∈l6 n,y8 c:=fun n c hc=>a3n (a0I n c hc);have cons:∀{k:UInt8} {l:List UInt8},y8 k->(∀c∈l,y8 c)->∀c∈k::l,y8 c:=fun hk hl=>app (one _ hk) hl;unfold J9 U6;simp only [A5,Bool.false_eq_true,if_false,List.nil_append];split
 ·exact one _ t48
 split
 ·refine app (app (app (fun c hc=>dd c (List.mem_of_mem_take hc)) ?_) (one _ t101)) ?_
  ·unfold C5;split
   ·intro c hc;cases hc
   exact cons t46 (fun c hc=>dd c (List.mem_of_mem_drop hc))
  unfold S3;split
  ·exact cons t45 fun c hc=>a3n (a6u _ zo c hc)
  exact cons t43 fun c hc=>a3n (a6u _ zo c hc)
 split
 ·exact app (app (cons t48 (one _ t46)) (zz _)) dd
 split
 ·exact app (app (fun c hc=>dd c (List.mem_of_mem_take hc)) (one _ t46)) (fun c hc=>dd c (List.mem_of_mem_drop hc))
 exact app dd (zz _)
def b1P (t:List UInt8):List UInt8×Int:=if (a4z t).1=[] then ([],0) else a4z t
theorem a7R {l:List UInt8} (h:Q0 l=false):∀c∈l,c≠46/\c≠101/\c≠73/\c≠78:=by
 intro c hc;have:=List.any_eq_false.1 h c hc;simp only [Bool.or_eq_true,beq_iff_eq,not_or] at this;exact ⟨this.1.1.1,this.1.1.2,this.1.2,this.2⟩
theorem a92 {ds:List UInt8} {dp:Int} (h:U7 ds) (hd:ds=[]->dp=0) (hr: -400<=dp/\dp<=400):b1P (J9 ds dp)=(ds,dp):=by
 unfold b1P;rw [a19 h hd hr];split
 ·rename_i e
  simp only at e;rw [e,hd e]
 rfl
theorem a7S {ds:List UInt8} {dp:Int} (hne:ds≠[]) (hs:Q0 (J9 ds dp)=false):0<dp/\(ds.length:Int)<=dp/\J9 ds dp=ds++l6 (dp.toNat - ds.length):=by
 have hsp:=a7R hs;unfold J9 U6 at hsp⊢;rw [if_neg hne] at hsp⊢;simp only [A5,Bool.false_eq_true,if_false,List.nil_append] at hsp⊢;by_cases h1:dp - 1< -4\/6<=dp - 1
 ·rw [if_pos h1] at hsp;exact absurd rfl (hsp 101 (by simp)).2.1
 rw [if_neg h1] at hsp⊢;by_cases h2:dp<=0
 ·rw [if_pos h2] at hsp;exact absurd rfl (hsp 46 (by simp)).1
 rw [if_neg h2] at hsp⊢;by_cases h3:dp<ds.length
 ·rw [if_pos h3] at hsp;exact absurd rfl (hsp 46 (by simp)).1
 rw [if_neg h3];exact ⟨zo,zo,rfl⟩
theorem a7T {ds:List UInt8} {dp:Int} (h:U7 ds) (hd:ds=[]->dp=0) (hs:Q0 (J9 ds dp)=false):b1P (J9 ds dp++[46,48])=(ds,dp):=by
 by_cases hne:ds=[]
 ·subst hne;rw [hd rfl];decide
 obtain ⟨h1,h2,h3⟩:=a7S hne hs;have e101:(101:UInt8)=101\/(101:UInt8)=46\/(101:UInt8)=45:= .inl rfl;have e46:(46:UInt8)=101\/(46:UInt8)=46\/(46:UInt8)=45:= .inr (.inl rfl)
 have hdz:∀c∈ds++l6 (dp.toNat - ds.length),o8 c:=fun c hc=>by
  rcases zz14 hc with hc|hc
  ·exact h.dig c hc
  exact a0I _ c hc
 have key:a4z (J9 ds dp++[46,48])=(ds,dp):=by
  rw [h3];unfold a4z;simp only;rw [V9 101 e101 hdz,W0 101 e101 hdz];have t1:([46,48]:List UInt8).takeWhile (· !=101)=[46,48]:=rfl;have t2:([46,48]:List UInt8).dropWhile (· !=101)=[]:=rfl;rw [t1,t2,V9 46 e46 hdz,W0 46 e46 hdz];have t3:([46,48]:List UInt8).takeWhile (· !=46)=[]:=rfl;have t4:(([46,48]:List UInt8).dropWhile (· !=46)).drop 1=[48]:=rfl;rw [t3,t4]
  have a1:ds++l6 (dp.toNat - ds.length)++[]++[48]=ds++l6 (dp.toNat - ds.length+1):=by
   unfold l6;rw [zz11,zz12,List.replicate_succ']
  rw [a1];have sc:=O3 h hne 0 (dp.toNat - ds.length+1);simp only [show l6 0=[] from rfl,List.nil_append] at sc;rw [sc.1,sc.2];simp only [List.drop_nil,zz11,a7L,zz4,l6,List.length_replicate];congr 1;omega
 unfold b1P;rw [key,if_neg hne]
theorem a93 {c:UInt8} {l:List UInt8} (h:Q0 (c::l)=false):Q0 l=false:=by
 unfold Q0 at h⊢;rw [List.any_cons,Bool.or_eq_false_iff] at h;exact h.2
theorem L4 {b:Nat} {ds:List UInt8} {dp:Int} (hc:U7 ds) (h0:ds=[]->dp=0) (hr: -400<=dp/\dp<=400) (h:B5 b=U6 (decide (b / 2^63≠0)) ds dp):
 ∃t,S4 b=A5 (decide (b / 2^63≠0))++t/\b1P t=(ds,dp)/\(∃c r,t=c::r/\o8 c)/\(∀c∈t,y8 c):=by
 obtain ⟨c,r,hb,hdg⟩:=a0J (dp:=dp) hc;have hbt:=b1O (dp:=dp) hc hr;unfold S4;rw [h,a3m];split
 ·exact ⟨_,rfl,a92 hc h0 hr,⟨c,r,hb,hdg⟩,hbt⟩
 rename_i hs
 have hs2:Q0 (J9 ds dp)=false:=by
  have hs:Q0 (A5 (decide (b / 2^63≠0))++J9 ds dp)=false:=by simpa using hs
  unfold A5 at hs;split at hs
  ·exact a93 hs
  exact hs
 refine ⟨J9 ds dp++[46,48],by rw [zz12],a7T hc h0 hs2,⟨c,r++[46,48],by rw [hb];rfl,hdg⟩,fun c hc=> ?_⟩;rcases zz14 hc with hc|hc
 ·exact hbt c hc
 simp only [List.mem_cons,List.not_mem_nil,or_false] at hc;rcases hc with rfl|rfl<;>(unfold y8;decide)
theorem S5 {b:Nat} (h:B5 b=[78,97,78]):S4 b=[78,97,78]:=by unfold S4;rw [h];rfl
theorem N4 {b:Nat} (h:B5 b=[45,73,110,102]):S4 b=[45,73,110,102]:=by unfold S4;rw [h];rfl
theorem N5 {b:Nat} (h:B5 b=[43,73,110,102]):S4 b=[43,73,110,102]:=by unfold S4;rw [h];rfl
structure b5L (b:Nat):Prop where
 lt:b<2^64
 nan:b%2^63 / 2^52=2047->b%2^52≠0->b=9221120237041090561
 zero:b%2^63=0->b=0
theorem b1Q {a b:Nat} (ka:b5L a) (kb:b5L b) (h:S4 a=S4 b):a=b:=by
 have nd1:¬o8 78:=by unfold o8;decide
 have nd2:¬o8 73:=by unfold o8;decide
 have nd3:¬o8 43:=by unfold o8;decide
 have nd4:¬o8 45:=by unfold o8;decide
 have sp:∀{neg:Bool} {t:List UInt8},(∃c r,t=c::r/\o8 c)->A5 neg++t≠[78,97,78]/\A5 neg++t≠[45,73,110,102]/\A5 neg++t≠[43,73,110,102]:=by
  rintro neg t ⟨c,r,rfl,h2⟩;cases neg
  ·refine ⟨fun h=> ?_,fun h=> ?_,fun h=> ?_⟩<;>simp [A5] at h<;>rw [h.1] at h2
   ·exact nd1 h2
   ·exact nd4 h2
   exact nd3 h2
  refine ⟨fun h=> ?_,fun h=> ?_,fun h=> ?_⟩<;>simp [A5] at h;rw [h.1] at h2;exact nd2 h2
 rcases a2a a with ⟨a1,a2,at'⟩|⟨a1,a2,a3,at'⟩|⟨a1,a2,a3,at'⟩|⟨a1,ds,dp,ac,az,a0,ar,av,at'⟩<;>
 rcases a2a b with ⟨b1,b2,bt⟩|⟨b1,b2,b3,bt⟩|⟨b1,b2,b3,bt⟩|⟨b1,es,ep,bc,bz,b0,br,bv,bt⟩
 ·rw [ka.nan a1 a2,kb.nan b1 b2]
 ·rw [S5 at',N4 bt] at h;simp at h
 ·rw [S5 at',N5 bt] at h;simp at h
 ·obtain ⟨t,h1, -,h2, -⟩:=L4 bc b0 br bt;rw [S5 at',h1] at h;exact absurd h.symm (sp h2).1
 ·rw [N4 at',S5 bt] at h;simp at h
 ·have:=ka.lt;have:=kb.lt;omega
 ·rw [N4 at',N5 bt] at h;simp at h
 ·obtain ⟨t,h1, -,h2, -⟩:=L4 bc b0 br bt;rw [N4 at',h1] at h;exact absurd h.symm (sp h2).2.1
 ·rw [N5 at',S5 bt] at h;simp at h
 ·rw [N5 at',N4 bt] at h;simp at h
 ·have:=ka.lt;have:=kb.lt;omega
 ·obtain ⟨t,h1, -,h2, -⟩:=L4 bc b0 br bt;rw [N5 at',h1] at h;exact absurd h.symm (sp h2).2.2
 ·obtain ⟨t,h1, -,h2, -⟩:=L4 ac a0 ar at';rw [S5 bt,h1] at h;exact absurd h (sp h2).1
 ·obtain ⟨t,h1, -,h2, -⟩:=L4 ac a0 ar at';rw [N4 bt,h1] at h;exact absurd h (sp h2).2.1
 ·obtain ⟨t,h1, -,h2, -⟩:=L4 ac a0 ar at';rw [N5 bt,h1] at h;exact absurd h (sp h2).2.2
 obtain ⟨t,h1,h2,⟨c,r,h3,h4⟩, -⟩:=L4 ac a0 ar at';obtain ⟨u,g1,g2,⟨d,q,g3,g4⟩, -⟩:=L4 bc b0 br bt;rw [h1,g1] at h
 have hs:decide (a / 2^63≠0)=decide (b / 2^63≠0)/\t=u:=by
  have ne1:=Y3 h4 45 (.inr (.inr rfl));have ne2:=Y3 g4 45 (.inr (.inr rfl));rw [bne_iff_ne] at ne1 ne2
  generalize decide (a / 2^63≠0)=n1 at h
  generalize decide (b / 2^63≠0)=n2 at h
  cases n1<;>cases n2<;>simp only [A5,Bool.false_eq_true,if_false,if_true,List.nil_append] at h
  ·exact ⟨rfl,h⟩
  ·rw [h3] at h;simp at h;exact absurd h.1 ne1
  ·rw [g3] at h;simp at h;exact absurd h.1.symm ne2
  simp at h;exact ⟨rfl,h⟩
 rw [hs.2,g2] at h2;have h3:es=ds:=congrArg Prod.fst h2;have h4:ep=dp:=congrArg Prod.snd h2;subst h3 h4;refine b35 ka.lt kb.lt ka.nan kb.nan ka.zero kb.zero ?_;rw [at',bt,hs.1]
theorem a1v (b:Nat):(∃c r,S4 b=c::r)/\(∀c∈S4 b,y8 c)/\(∀r,S4 b≠110::r)/\Q0 (S4 b)=true:=by
 rcases a2a b with ⟨b1,b2,bt⟩|⟨b1,b2,b3,bt⟩|⟨b1,b2,b3,bt⟩|⟨b1,es,ep,bc,bz,b0,br,bv,bt⟩
 ·rw [S5 bt];refine ⟨⟨_,_,rfl⟩,fun c hc=> ?_,fun r h=>by simp at h,rfl⟩;simp only [List.mem_cons,List.not_mem_nil,or_false] at hc;rcases hc with rfl|rfl|rfl<;>(unfold y8;decide)
 ·rw [N4 bt];refine ⟨⟨_,_,rfl⟩,fun c hc=> ?_,fun r h=>by simp at h,rfl⟩;simp only [List.mem_cons,List.not_mem_nil,or_false] at hc;rcases hc with rfl|rfl|rfl|rfl<;>(unfold y8;decide)
 ·rw [N5 bt];refine ⟨⟨_,_,rfl⟩,fun c hc=> ?_,fun r h=>by simp at h,rfl⟩;simp only [List.mem_cons,List.not_mem_nil,or_false] at hc;rcases hc with rfl|rfl|rfl|rfl<;>(unfold y8;decide)
 obtain ⟨t,h1, -,⟨c,r,h3,h4⟩,h5⟩:=L4 bc b0 br bt
 have hsp:Q0 (S4 b)=true:=by
  unfold S4;split
  ·assumption
  unfold Q0;rw [List.any_append];simp
 rw [h1] at hsp⊢;rw [h3] at hsp⊢;rw [h3] at h5
 have n110:c≠110:=by
  rintro rfl;have:=h4.2;revert this;decide
 refine ⟨?_, ?_, ?_,hsp⟩
 ·cases decide (b / 2^63≠0)
  ·exact ⟨_,_,rfl⟩
  exact ⟨_,_,rfl⟩
 ·intro x hx;rcases zz14 hx with hx|hx
  ·unfold A5 at hx;split at hx
   ·rw [List.mem_singleton.1 hx];unfold y8;decide
   ·cases hx
  exact h5 x hx
 intro r h
 generalize decide (b / 2^63≠0)=ng at h
 cases ng
 ·simp [A5] at h;exact n110 h.1
 simp [A5] at h
section
open Go.Lib
def bI (l:List UInt8):List Int:=l.map fun b=>(b.toNat:Int)
theorem a4O (a b:List UInt8):bI (a++b)=bI a++bI b:=List.map_append
theorem b1R {a b:List UInt8} (h:bI a=bI b):a=b:=by
 induction a generalizing b with
 |nil=>cases b with
  |nil=>rfl
  |cons c l=>simp [bI] at h
 | cons x l ih=>
  cases b with
  |nil=>simp [bI] at h
  |cons y m=>
   simp only [bI,List.map_cons,List.cons.injEq] at h;have h1:x=y:=UInt8.toNat_inj.1 zo;rw [h1,ih (b:=m) h.2]
theorem a9o (s:ByteArray) (i:Nat):s.get! i=s.data.toList.getD i 0:=by
 show s.data[i]! =_;rw [List.getD_eq_getElem?_getD,Array.getElem?_toList,getElem!_def];cases s.data[i]? <;>rfl
theorem a1w (s:ByteArray) (k:Nat):(s.extract k s.size).data.toList=s.data.toList.drop k:=by
 have:(s.extract k s.size).data=s.data.extract k s.size:=by rw [ByteArray.data_extract]
 rw [this,Array.toList_extract,List.extract_eq_take_drop];exact List.take_of_length_le (by rw [List.length_drop,Array.length_toList];exact Nat.le_refl _)
theorem b6X {b0:UInt8} {l:List UInt8} (h:3<(b0::l).length):∃b1 b2 b3 m,l=b1::b2::b3::m:=by
 match l,h with
 |b1::b2::b3::m,_=>exact ⟨b1,b2,b3,m,rfl⟩
 |[_,_],h=>simp at h
 |[_],h=>simp at h
 |[],h=>simp at h
theorem b5M {a b c d:Int} (h:a=c) (i:b=d):[a,b]=[c,d]:=by rw [h,i]
theorem b1S {a b c d e f:Int} (h:a=d) (i:b=e) (j:c=f):[a,b,c]=[d,e,f]:=by rw [h,i,j]
theorem b39 {a b c d e f g k:Int} (h:a=e) (i:b=f) (j:c=g) (l:d=k):[a,b,c,d]=[e,f,g,k]:=by rw [h,i,j,l]
theorem b4a (s:ByteArray) (h0:0<s.size) (hg:¬((Utf8.decode s 0).2=1/\(Utf8.decode s 0).1=65533)):
 bI s.data.toList=encodeRuneZ ((Utf8.decode s 0).1:Int)++bI (s.extract (Utf8.decode s 0).2 s.size).data.toList:=by
 rw [a1w];rw [decode_at] at hg⊢;simp only [a9o,Nat.zero_add] at hg⊢;have hsz:s.size=s.data.toList.length:=by show s.data.size=_;rw [Array.length_toList]
 rw [hsz] at hg h0⊢
 generalize s.data.toList=L at hg h0⊢
 match L,h0 with
 |b0::l,_=>
  have t0:=b0.toNat_lt;simp only [List.getD_cons_zero,List.getD_cons_succ,Nat.sub_zero] at hg⊢;unfold decodeN at hg⊢;by_cases c1:b0.toNat<128
  ·rw [if_pos c1];simp only;rw [encodeRuneZ_one zo zo];rfl
  rw [if_neg c1] at hg⊢;by_cases c2:b0.toNat / 32=6/\(1<(b0::l).length/\(l.getD 0 0).toNat / 64=2)
  ·rw [if_pos c2] at hg⊢;split at hg
   ·rename_i c3
    rw [if_pos c3]
    match l,c2 with
    |b1::m,c2=>
     simp only [List.getD_cons_zero] at c2 c3⊢;have t1:=b1.toNat_lt;rw [encodeRuneZ_two zo zo];rw [show bI (b0::b1::m)=[(b0.toNat:Int),b1.toNat]++bI m from rfl,show List.drop 2 (b0::b1::m)=m from rfl];refine congrArg (· ++bI m) (b5M ?_ ?_)<;>omega
    |[],c2=>simp at c2
   exact absurd ⟨rfl,rfl⟩ hg
  rw [if_neg c2] at hg⊢;by_cases c3:b0.toNat / 16=14/\(1<(b0::l).length/\(l.getD 0 0).toNat / 64=2)/\(2<(b0::l).length/\(l.getD 1 0).toNat / 64=2)
  ·rw [if_pos c3] at hg⊢;split at hg
   ·rename_i c4
    rw [if_pos c4]
    match l,c3 with
    |b1::b2::m,c3=>
     simp only [List.getD_cons_zero,List.getD_cons_succ] at c3 c4⊢;have t1:=b1.toNat_lt;have t2:=b2.toNat_lt;rw [encodeRuneZ_three zo];rw [show bI (b0::b1::b2::m)=[(b0.toNat:Int),b1.toNat,b2.toNat]++bI m from rfl,show List.drop 3 (b0::b1::b2::m)=m from rfl];refine congrArg (· ++bI m) (b1S ?_ ?_ ?_)<;>omega
    |[_],c3=>simp at c3
    |[],c3=>simp at c3
   exact absurd ⟨rfl,rfl⟩ hg
  rw [if_neg c3] at hg⊢;by_cases c4:b0.toNat / 8=30/\(1<(b0::l).length/\(l.getD 0 0).toNat / 64=2)/\(2<(b0::l).length/\(l.getD 1 0).toNat / 64=2)/\(3<(b0::l).length/\(l.getD 2 0).toNat / 64=2)
  ·rw [if_pos c4] at hg⊢;split at hg
   ·rename_i c5
    rw [if_pos c5];obtain ⟨b1,b2,b3,m,rfl⟩:=b6X c4.2.2.2.1;simp only [List.getD_cons_zero,List.getD_cons_succ] at c4 c5⊢;have t1:=b1.toNat_lt;have t2:=b2.toNat_lt;have t3:=b3.toNat_lt;rw [encodeRuneZ_four zo zo];rw [show bI (b0::b1::b2::b3::m)=[(b0.toNat:Int),b1.toNat,b2.toNat,b3.toNat]++bI m from rfl,show List.drop 4 (b0::b1::b2::b3::m)=m from rfl];refine congrArg (· ++bI m) (b39 ?_ ?_ ?_ ?_)<;>omega
   exact absurd ⟨rfl,rfl⟩ hg
  rw [if_neg c4] at hg;exact absurd ⟨rfl,rfl⟩ hg
def b1T (x:Int):Int:=if x<60 then x - 48 else x - 87
theorem R5 (x:Nat) (h:x<16):b1T (Lib.hexDigit x)=x:=by
 unfold b1T Lib.hexDigit;split
 ·rw [if_pos zo];omega
 rw [if_neg zo];omega
def N6 (l:List Int):Int:=l.foldl (fun a x=>16*a+b1T x) 0
theorem b4b (r:Nat) (h:r<65536):N6 (hexDigits r 4)=r:=by
 simp only [N6,hexDigits,List.foldl_cons,List.foldl_nil,R5 _ (Nat.mod_lt _ (show 0<16 by decide))];omega
theorem b4c (r:Nat) (h:r<4294967296):N6 (hexDigits r 8)=r:=by
 simp only [N6,hexDigits,List.foldl_cons,List.foldl_nil,R5 _ (Nat.mod_lt _ (show 0<16 by decide))];omega
def b6t (x:Int):Int:=if x=97 then 7 else if x=98 then 8 else if x=102 then 12 else if x=110 then 10 else if x=114 then 13 else if x=116 then 9 else if x=118 then 11 else x
def Y4 (l:List Int):List Int×Nat:=
 if l.getD 0 0=92 then
  if l.getD 1 0=120 then ([N6 ((l.drop 2).take 2)],4)
  else if l.getD 1 0=117 then (encodeRuneZ (N6 ((l.drop 2).take 4)),6)
  else if l.getD 1 0=85 then (encodeRuneZ (N6 ((l.drop 2).take 8)),10)
  else ([b6t (l.getD 1 0)],2)
 else if l.getD 0 0<128 then (l.take 1,1)
 else if l.getD 0 0<224 then (l.take 2,2)
 else if l.getD 0 0<240 then (l.take 3,3)
 else (l.take 4,4)
theorem b6u (r:Int) (h:0<=r) (h1:r<=1114111) (hv:r<55296\/57343<r) (n1:r≠92) (rest:List Int):Y4 (encodeRuneZ r++rest)=(encodeRuneZ r,(encodeRuneZ r).length):=by
 by_cases a1:r<=127
 ·rw [encodeRuneZ_one h a1];unfold Y4;rw [if_neg (by simpa using n1),if_pos (by show r<128;omega)];rfl
 by_cases a2:r<=2047
 ·rw [encodeRuneZ_two zo a2];unfold Y4;rw [if_neg (by show¬192+r / 64=92;omega),if_neg (by show¬192+r / 64<128;omega),if_pos (by show 192+r / 64<224;omega)];rfl
 by_cases a3:r<=65535
 ·rw [encodeRuneZ_three zo];unfold Y4;rw [if_neg (by show¬224+r / 4096=92;omega),if_neg (by show¬224+r / 4096<128;omega),if_neg (by show¬224+r / 4096<224;omega),if_pos (by show 224+r / 4096<240;omega)];rfl
 rw [encodeRuneZ_four zo h1];unfold Y4;rw [if_neg (by show¬240+r / 262144=92;omega),if_neg (by show¬240+r / 262144<128;omega),if_neg (by show¬240+r / 262144<224;omega),if_neg (by show¬240+r / 262144<240;omega)];rfl
theorem b6v (T:PrintTabs) (r:Nat) (h1:(r:Int)<=1114111) (hv:(r:Int)<55296\/57343<(r:Int)) (rest:List Int):Y4 (escRune T r++rest)=(encodeRuneZ r,(escRune T r).length)/\(escRune T r).getD 0 0≠34/\0<(escRune T r).length:=by
 have gL:Lib.validRune (r:Int)=true:=by
  simp only [Lib.validRune,decide_eq_true_eq];omega
 have e1:∀k:Nat,k<=127->(r:Int)=k->encodeRuneZ (r:Int)=[(k:Int)]:=fun k hk e=>by rw [e];exact encodeRuneZ_one zo zo
 unfold escRune;by_cases c0:(r:Int)=34\/(r:Int)=92
 ·rw [if_pos c0];rcases c0 with c|c
  ·rw [e1 34 zo c,c];exact ⟨rfl,zd,zd⟩
  rw [e1 92 zo c,c];exact ⟨rfl,zd,zd⟩
 rw [if_neg c0];by_cases c1:isPrintR T r=true
 ·rw [if_pos c1];refine ⟨b6u r zo h1 hv (fun e=>c0 (.inr e)) rest, ?_,(encodeRuneZ_length r).1⟩;unfold encodeRuneZ;split
  ·show¬(r:Int)=34;exact fun e=>c0 (.inl e)
  split
  ·show¬192+(r:Int) / 64=34;omega
  split
  ·show¬224+(r:Int) / 4096=34;omega
  split
  ·show¬240+(r:Int) / 262144=34;omega
  decide
 rw [if_neg c1];by_cases c2:(r:Int)=7
 ·rw [if_pos c2,e1 7 zo c2];exact ⟨rfl,zd,zd⟩
 rw [if_neg c2];by_cases c3:(r:Int)=8
 ·rw [if_pos c3,e1 8 zo c3];exact ⟨rfl,zd,zd⟩
 rw [if_neg c3];by_cases c4:(r:Int)=12
 ·rw [if_pos c4,e1 12 zo c4];exact ⟨rfl,zd,zd⟩
 rw [if_neg c4];by_cases c5:(r:Int)=10
 ·rw [if_pos c5,e1 10 zo c5];exact ⟨rfl,zd,zd⟩
 rw [if_neg c5];by_cases c6:(r:Int)=13
 ·rw [if_pos c6,e1 13 zo c6];exact ⟨rfl,zd,zd⟩
 rw [if_neg c6];by_cases c7:(r:Int)=9
 ·rw [if_pos c7,e1 9 zo c7];exact ⟨rfl,zd,zd⟩
 rw [if_neg c7];by_cases c8:(r:Int)=11
 ·rw [if_pos c8,e1 11 zo c8];exact ⟨rfl,zd,zd⟩
 rw [if_neg c8];by_cases c9:(r:Int)<32\/(r:Int)=127
 ·rw [if_pos c9,e1 r zo rfl,Int.toNat_natCast];refine ⟨?_,by show (92:Int)≠34;omega,Nat.succ_pos _⟩;show ([N6 [Lib.hexDigit (r / 16),Lib.hexDigit (r%16)]],4)=_;simp only [N6,List.foldl_cons,List.foldl_nil,R5 _ (show r / 16<16 by omega),R5 _ (show r%16<16 by omega)];refine Prod.ext ?_ rfl;show [16*(16*0+((r / 16:Nat):Int))+((r%16:Nat):Int)]=[(r:Int)];exact congrArg (fun x:Int=>[x]) zo
 rw [if_neg c9,if_neg (by rw [gL];decide)];by_cases c10:(r:Int)<65536
 ·rw [if_pos c10,Int.toNat_natCast];refine ⟨?_,by show (92:Int)≠34;omega,Nat.succ_pos _⟩;have e:Y4 (92::117::hexDigits r 4++rest)=(encodeRuneZ (N6 (hexDigits r 4)),6):=rfl;rw [e,b4b r zo];rfl
 rw [if_neg c10,Int.toNat_natCast];refine ⟨?_,by show (92:Int)≠34;omega,Nat.succ_pos _⟩;have e:Y4 (92::85::hexDigits r 8++rest)=(encodeRuneZ (N6 (hexDigits r 8)),10):=rfl;rw [e,b4c r zo];rfl
theorem a5w (T:PrintTabs) (s:ByteArray) (h0:0<s.size) (rest:List Int):∃l,bI s.data.toList=l++bI (s.extract (Utf8.decode s 0).2 s.size).data.toList/\Y4 (quoteStep T s++rest)=(l,(quoteStep T s).length)/\(quoteStep T s).getD 0 0≠34/\0<(quoteStep T s).length:=by
 by_cases hg:(Utf8.decode s 0).2=1/\(Utf8.decode s 0).1=65533
 ·have e:quoteStep T s=[92,120,Lib.hexDigit ((s.get! 0).toNat / 16),Lib.hexDigit ((s.get! 0).toNat%16)]:=by unfold quoteStep;rw [if_pos hg]
  rw [e,hg.1];have t:=(s.get! 0).toNat_lt;refine ⟨[((s.get! 0).toNat:Int)], ?_, ?_,by show (92:Int)≠34;omega,Nat.succ_pos _⟩
  ·rw [a1w,a9o];have hsz:s.size=s.data.toList.length:=by show s.data.size=_;rw [Array.length_toList]
   rw [hsz] at h0
   generalize s.data.toList=L at h0
   cases L with
   |nil=>simp at h0
   |cons a l=>rfl
  show ([N6 [Lib.hexDigit ((s.get! 0).toNat / 16),Lib.hexDigit ((s.get! 0).toNat%16)]],4)=_;simp only [N6,List.foldl_cons,List.foldl_nil,R5 _ (show (s.get! 0).toNat / 16<16 by omega),R5 _ (show (s.get! 0).toNat%16<16 by omega)];refine Prod.ext ?_ rfl;show [16*(16*0+(((s.get! 0).toNat / 16:Nat):Int))+(((s.get! 0).toNat%16:Nat):Int)]=[((s.get! 0).toNat:Int)];congr 1;omega
 rw [quoteStep_good T s hg];have hv:=rune_valid s;simp only [Lib.validRune,decide_eq_true_eq] at hv;obtain ⟨a,b,c⟩:=b6v T (Utf8.decode s 0).1 zo zo rest;exact ⟨_,b4a s h0 hg,a,b,c⟩
theorem a94 (T:PrintTabs):∀(n f g:Nat) (s t:ByteArray) (r q:List Int),s.size<=n->s.size<=f->t.size<=g->quoteFrom T f s++34::r=quoteFrom T g t++34::q->s=t/\r=q:=by
 intro n
 induction n with
 | zero=>
  intro f g s t r q hn hf hg h;have hs:¬0<s.size:=zo
  rw [quoteFrom_end T f s hs] at h;by_cases ht:0<t.size
  ·rw [quoteFrom_step T g t ht hg,zz12] at h;obtain ⟨l, -, -,h3,h4⟩:=a5w T t ht []
   cases hq:quoteStep T t with
   |nil=>rw [hq] at h4;simp at h4
   |cons a m=>
    rw [hq] at h h3;simp at h h3;exact absurd h.1.symm h3
  ·rw [quoteFrom_end T g t ht] at h;refine ⟨?_,by simpa using h⟩;apply ByteArray.ext;have a:s.data.size=0:=by show s.size=0;omega
   have b:t.data.size=0:=by show t.size=0;omega
   rw [Array.eq_empty_of_size_eq_zero a,Array.eq_empty_of_size_eq_zero b]
 | succ n ih=>
  intro f g s t r q hn hf hg h;by_cases hs:0<s.size
  ·rw [quoteFrom_step T f s hs hf,zz12] at h;by_cases ht:0<t.size
   ·rw [quoteFrom_step T g t ht hg,zz12] at h;obtain ⟨l,a1,a2, -, -⟩:=a5w T s hs (quoteFrom T (f - 1) (s.extract (Utf8.decode s 0).2 s.size)++34::r);obtain ⟨m,b1,b2, -, -⟩:=a5w T t ht (quoteFrom T (g - 1) (t.extract (Utf8.decode t 0).2 t.size)++34::q);rw [<-h,a2] at b2;have e1:l=m:=congrArg Prod.fst b2;have e2:(quoteStep T s).length=(quoteStep T t).length:=congrArg Prod.snd b2;obtain ⟨-,h5⟩:=List.append_inj h e2;have w1:=width_pos s 0;have w2:=width_pos t 0;have w3:=width_le s hs;have w4:=width_le t ht;obtain ⟨i1,i2⟩:=ih (f - 1) (g - 1) _ _ r q (by rw [size_rest];omega) (by rw [size_rest];omega) (by rw [size_rest];omega) h5;refine ⟨?_,i2⟩;rw [i1,e1,<-b1] at a1;have:=b1R a1;apply ByteArray.ext;exact Array.toList_inj.1 this
   rw [quoteFrom_end T g t ht] at h;obtain ⟨l, -, -,h3,h4⟩:=a5w T s hs []
   cases hq:quoteStep T s with
   |nil=>rw [hq] at h4;simp at h4
   |cons a m=>
    rw [hq] at h h3;simp at h h3;exact absurd h.1 h3
  exact ih f g s t r q zo hf hg h
theorem a7U (T:PrintTabs) (s t:ByteArray) (r q:List Int) (h:quoteZ T s++r=quoteZ T t++q):s=t/\r=q:=by
 have h2:34::(quoteFrom T s.size s++34::r)=34::(quoteFrom T t.size t++34::q):=by
  have a:∀(u:ByteArray) (x:List Int),quoteZ T u++x=34::(quoteFrom T u.size u++34::x):=fun u x=>by unfold quoteZ;rw [List.cons_append,zz12,List.singleton_append]
  rw [<-a,<-a];exact h
 exact a94 T s.size s.size t.size s t r q (Nat.le_refl _) (Nat.le_refl _) (Nat.le_refl _) (List.cons.inj h2).2
theorem a0q (x:Nat) (h:x<16):0<=Lib.hexDigit x/\Lib.hexDigit x<256:=by unfold Lib.hexDigit;split<;>omega
theorem a2b (r n:Nat):∀x∈hexDigits r n,0<=x/\x<256:=by
 induction n with
 |zero=>intro x hx;simp [hexDigits] at hx
 |succ n ih=>
  intro x hx;rcases List.mem_cons.1 hx with rfl|hx
  ·exact a0q _ (Nat.mod_lt _ zd)
  exact ih x hx
def Byt (l:List Int):Prop:=∀x∈l,0<=x/\x<256
theorem J3 {c:Prop} [Decidable c] {a b:List Int} (h:c->Byt a) (k:¬c->Byt b):Byt (if c then a else b):=by
 by_cases hc:c
 ·rw [if_pos hc];exact h hc
 rw [if_neg hc];exact k hc
theorem D1 {a:Int} {l:List Int} (h:0<=a/\a<256) (k:Byt l):Byt (a::l):=fun x hx=>by
 rcases List.mem_cons.1 hx with rfl|hx
 ·exact h
 exact k x hx
theorem a9p:Byt []:=fun x hx=>by cases hx
theorem b1U (T:PrintTabs) (r:Nat):Byt (escRune T r):=by
 have lit:∀a:Int,0<=a/\a<256->Byt [92,a]:=fun a h=>D1 zo (D1 h a9p);unfold escRune;refine J3 (fun c=>lit _ zo) fun _=> ?_;refine J3 (fun c=>encodeRuneZ_byte r) fun _=> ?_;refine J3 (fun c=>lit _ zo) fun _=> ?_;refine J3 (fun c=>lit _ zo) fun _=> ?_;refine J3 (fun c=>lit _ zo) fun _=> ?_;refine J3 (fun c=>lit _ zo) fun _=> ?_;refine J3 (fun c=>lit _ zo) fun _=> ?_;refine J3 (fun c=>lit _ zo) fun _=> ?_;refine J3 (fun c=>lit _ zo) fun _=> ?_;refine J3 (fun c=>D1 zo (D1 zo (D1 (a0q _ zo) (D1 (a0q _ zo) a9p)))) fun _=> ?_;refine J3 (fun c=>D1 zo (D1 zo (a2b _ _))) fun _=> ?_;exact J3 (fun c=>D1 zo (D1 zo (a2b _ _))) fun _=>D1 zo (D1 zo (a2b _ _))
theorem a7V (T:PrintTabs):∀(f:Nat) (s:ByteArray),∀x∈quoteFrom T f s,0<=x/\x<256:=by
 intro f
 induction f with
 |zero=>intro s x hx;simp [quoteFrom] at hx
 | succ f ih=>
  intro s x hx;unfold quoteFrom at hx;split at hx
  ·rcases zz14 hx with hx|hx
   ·unfold quoteStep at hx;split at hx
    ·have t:=(s.get! 0).toNat_lt;have a:=a0q ((s.get! 0).toNat / 16) zo;have b:=a0q ((s.get! 0).toNat%16) zo;simp only [List.mem_cons,List.not_mem_nil,or_false] at hx;rcases hx with rfl|rfl|rfl|rfl
     ·omega
     ·omega
     ·exact a
     exact b
    exact b1U T _ x hx
   exact ih _ x hx
  simp at hx
theorem a6v (T:PrintTabs) (s:ByteArray):∀x∈quoteZ T s,0<=x/\x<256:=by
 intro x hx;unfold quoteZ at hx;rcases List.mem_cons.1 hx with rfl|hx
 ·omega
 rcases zz14 hx with hx|hx
 ·exact a7V T _ s x hx
 rw [List.mem_singleton.1 hx];omega
def a3K (T:PrintTabs) (s:ByteArray):List UInt8:=(quoteZ T s).map fun n=>UInt8.ofNat n.toNat
theorem a9q (T:PrintTabs) (s:ByteArray):bI (a3K T s)=quoteZ T s:=by
 unfold a3K bI;rw [List.map_map]
 conv=>rhs;rw [<-List.map_id (quoteZ T s)]
 refine List.map_congr_left fun x hx=> ?_;have:=a6v T s x hx;show (((UInt8.ofNat x.toNat).toNat:Nat):Int)=x;have e:(UInt8.ofNat x.toNat).toNat=x.toNat%256:=rfl;rw [e];omega
theorem b1V (T:PrintTabs) (s t:ByteArray) (r q:List UInt8) (h:a3K T s++r=a3K T t++q):s=t/\r=q:=by
 have h2:=congrArg bI h;rw [a4O,a4O,a9q,a9q] at h2;obtain ⟨a,b⟩:=a7U T s t _ _ h2;exact ⟨a,b1R b⟩
theorem a4P (T:PrintTabs) (s:ByteArray):∃r,a3K T s=34::r:=⟨_,rfl⟩
theorem b1W (T:PrintTabs) (s:ByteArray):(a3K T s).length<=10*s.size+2:=by
 unfold a3K;rw [zz10];exact quoteZ_length_le T s
end
def V.prt (v:V):List UInt8:=
 if v.kind=0 then Lib.itoa v.int else if v.kind=1 then S4 (m4 v.num) else if v.kind=2 then a3K Lib.goPrintTabs v.text else if v.yes then [121,101,115] else [110,111]
def F8 (op:Int):List UInt8:=
 if op=0 then [61] else if op=1 then [33,61] else if op=2 then [60] else if op=3 then [60,61] else if op=4 then [62] else if op=5 then [62,61] else if op=6 then [94] else if op=7 then [104,97,115] else []
def Cnd.prt (c:Cnd):List UInt8:=if c.op=7 then [104,97,115,32]++c.name.data.toList else c.name.data.toList++[32]++F8 c.op++[32]++c.v.prt
def K0:List Cnd->List UInt8
 |[]=>[]
 |c::l=>[32,38,32]++c.prt++K0 l
def a0d:List Cnd->List UInt8
 |[]=>[]
 |c::l=>[32]++c.prt++K0 l
def q6 (sc:ByteArray) (l:List Cnd):List UInt8:=sc.data.toList++[58]++a0d l
def Cnd.norm (c:Cnd):Cnd:=if c.op=7 then ⟨c.name,7,V.zero⟩ else ⟨c.name,c.op,c.v.canon⟩
structure Cnd.fine (c:Cnd):Prop where
 name:o9 c.name=true
 op:0<=c.op/\c.op<=7
 v:c.v.right=true
 num:c.v.num<2^64
 is:c.norm=c
theorem a3L {x:Nat} (hx:x<2^64):b5L (m4 x):=by
 by_cases hn:I5 x
 ·rw [U3 hx hn];unfold I5 m7 at hn;unfold m7;split
  ·exact ⟨zo,fun h=>zo,fun _=>rfl⟩
  exact ⟨hx,fun h1 h2=>zo,fun h=>zo⟩
 have hf:fEq x x=false:=by rw [Bool.eq_false_iff];exact fun h=>hn (C9.1 h)
 unfold m4;rw [hf,if_neg zd];exact ⟨zd,fun _ _=>rfl,fun h=>absurd h zd⟩
def a5x (r:List UInt8):Prop:=r=[]\/∃q,r=32::q
theorem N7 (r:List UInt8):a5x (32::r):= .inr ⟨r,rfl⟩
theorem a0r {a b r q:List UInt8} (ha:∀c∈a,c≠32) (hb:∀c∈b,c≠32) (hr:a5x r) (hq:a5x q) (h:a++r=b++q):a=b/\r=q:=by
 have key:∀{l x:List UInt8},(∀c∈l,c≠32)->a5x x->(l++x).takeWhile (· !=32)=l/\(l++x).dropWhile (· !=32)=x:=by
  intro l x hl hx;have hl':∀c∈l,(c !=32)=true:=fun c hc=>by rw [bne_iff_ne];exact hl c hc
  rw [List.takeWhile_append_of_pos hl',List.dropWhile_append_of_pos hl'];rcases hx with rfl|⟨y,rfl⟩
  ·exact ⟨zz11 _,rfl⟩
  exact ⟨zz11 _,rfl⟩
 have k1:=key ha hr;have k2:=key hb hq;rw [h] at k1;exact ⟨k1.1.symm.trans k2.1,k1.2.symm.trans k2.2⟩
theorem a3M {s:ByteArray} (h:o9 s=true):(∀c∈s.data.toList,(97<=c.toNat/\c.toNat<=122)\/(48<=c.toNat/\c.toNat<=57))/\∃c r,s.data.toList=c::r/\97<=c.toNat/\c.toNat<=122:=by
 unfold o9 at h;rw [Bool.and_eq_true,Bool.and_eq_true,List.all_eq_true] at h;obtain ⟨h1,h2, -⟩:=h;have at_:∀(i:Nat) (c:UInt8),s.data.toList[i]? =some c->F9 i c=true:=fun i c hc=>h1 (c,i) (List.mk_mem_zipIdx_iff_getElem?.2 hc);constructor
 ·intro c hc;obtain ⟨i,hi⟩:=List.getElem?_of_mem hc;have:=at_ i c hi;unfold F9 at this;simp only [Bool.or_eq_true,Bool.and_eq_true,decide_eq_true_eq] at this;omega
 ·cases hl:s.data.toList with
  |nil=>
   have hz:s.size=0:=by show s.data.size=0;rw [<-Array.length_toList,hl];rfl
   rw [hz] at h2;simp at h2
  |cons c r=>
   have:=at_ 0 c (by rw [hl];rfl);unfold F9 at this;simp only [Bool.or_eq_true,Bool.and_eq_true,decide_eq_true_eq,Nat.lt_irrefl,false_and,or_false] at this;exact ⟨c,r,rfl,this⟩
theorem W6 {s:ByteArray} (h:o9 s=true):∀c∈s.data.toList,c≠32:=by
 intro c hc e;subst e;have:=(a3M h).1 32 hc;revert this;decide
theorem a5y {s t:ByteArray} (h:s.data.toList=t.data.toList):s=t:=ByteArray.ext (Array.toList_inj.1 h)
theorem a3N (n:Int):(∀c∈Lib.itoa n,o8 c\/c=45)/\∃c r,Lib.itoa n=c::r:=by
 unfold Lib.itoa;split
 ·refine ⟨fun c hc=> ?_,_,_,rfl⟩;rcases List.mem_cons.1 hc with rfl|hc
  ·exact .inr rfl
  exact .inl ((a0o _).2.1 c hc)
 refine ⟨fun c hc=> .inl ((a0o _).2.1 c hc), ?_⟩
 cases hd:Lib.decDigits n.toNat with
 |nil=>exact absurd hd (a0o _).2.2.2
 |cons c r=>exact ⟨c,r,rfl⟩
theorem a9r {a b:Nat} (h:Lib.decDigits a=Lib.decDigits b):a=b:=by
 rw [<-(a0o a).1,<-(a0o b).1,h]
theorem b1X {a b:Int} (h:Lib.itoa a=Lib.itoa b):a=b:=by
 have hd:∀(u:Nat) (r:List UInt8),Lib.decDigits u≠45::r:=fun u r e=>by
  have:=(a0o u).2.1 45 (by rw [e];exact List.mem_cons_self);unfold o8 at this;revert this;decide
 unfold Lib.itoa at h;split at h<;>split at h
 ·have:=a9r (List.cons.inj h).2;omega
 ·exact absurd h.symm (hd _ _)
 ·exact absurd h (hd _ _)
 have:=a9r h;omega
theorem a1x {v:V} (hk:v.kind≠2):(∀c∈v.prt,c≠32)/\∃c r,v.prt=c::r/\c≠34:=by
 unfold V.prt;by_cases h0:v.kind=0
 ·rw [if_pos h0];obtain ⟨h1,c,r,h2⟩:=a3N v.int;refine ⟨fun c hc e=> ?_,c,r,h2,fun e=> ?_⟩
  ·subst e;rcases h1 32 hc with h|h
   ·unfold o8 at h;revert h;decide
   revert h;decide
  subst e;rcases h1 34 (by rw [h2];exact List.mem_cons_self) with h|h
  ·unfold o8 at h;revert h;decide
  revert h;decide
 rw [if_neg h0];by_cases h1:v.kind=1
 ·rw [if_pos h1];obtain ⟨⟨c,r,h2⟩,h3, -, -⟩:=a1v (m4 v.num);refine ⟨fun c hc e=> ?_,c,r,h2,fun e=> ?_⟩
  ·subst e;have:=h3 32 hc;unfold y8 at this;revert this;decide
  subst e;have:=h3 34 (by rw [h2];exact List.mem_cons_self);unfold y8 at this;revert this;decide
 rw [if_neg h1,if_neg hk];split
 ·exact ⟨zd,_,_,rfl,zd⟩
 exact ⟨zd,_,_,rfl,zd⟩
theorem b1Y {u v:V} {r q:List UInt8} (hu:u.right=true) (hv:v.right=true) (nu:u.num<2^64) (nv:v.num<2^64) (cu:u.canon=u) (cv:v.canon=v) (hr:a5x r) (hq:a5x q) (h:u.prt++r=v.prt++q):u=v/\r=q:=by
 have kr:∀{x:V},x.right=true->x.kind=0\/x.kind=1\/x.kind=2\/x.kind=3:=by
  intro x hx;unfold V.right at hx;simp only [Bool.and_eq_true,decide_eq_true_eq] at hx;omega
 have q2:∀{x:V},x.kind=2->x.prt=a3K Lib.goPrintTabs x.text:=fun h=>by unfold V.prt;rw [if_neg zo,if_neg zo,if_pos h]
 have p0:∀{x:V},x.kind=0->x.prt=Lib.itoa x.int:=fun h=>by unfold V.prt;rw [if_pos h]
 have p1:∀{x:V},x.kind=1->x.prt=S4 (m4 x.num):=fun h=>by unfold V.prt;rw [if_neg zo,if_pos h]
 have p3:∀{x:V},x.kind=3->x.prt=if x.yes then [121,101,115] else [110,111]:=fun h=>by unfold V.prt;rw [if_neg zo,if_neg zo,if_neg zo]
 have c0:∀{x:V},x.canon=x->x.kind=0->x={V.zero with kind:=0,int:=x.int}:=fun h e=>by
  conv=>lhs;rw [<-h]
  unfold V.canon;rw [if_pos e]
 have c1:∀{x:V},x.canon=x->x.kind=1->x={V.zero with kind:=1,num:=m4 x.num}:=fun h e=>by
  conv=>lhs;rw [<-h]
  unfold V.canon;rw [if_neg zo,if_pos e]
 have c2:∀{x:V},x.canon=x->x.kind=2->x={V.zero with kind:=2,text:=x.text}:=fun h e=>by
  conv=>lhs;rw [<-h]
  unfold V.canon;rw [if_neg zo,if_neg zo,if_pos e]
 have c3:∀{x:V},x.canon=x->x.kind=3->x={V.zero with kind:=3,yes:=x.yes}:=fun h e=>by
  conv=>lhs;rw [<-h]
  unfold V.canon;rw [if_neg zo,if_neg zo,if_neg zo,if_pos e]
 by_cases hk:u.kind=2<;>by_cases hl:v.kind=2
 ·rw [q2 hk,q2 hl] at h;obtain ⟨h1,h2⟩:=b1V _ _ _ _ _ h;refine ⟨?_,h2⟩;rw [c2 cu hk,c2 cv hl,h1]
 ·exfalso;obtain ⟨-,c,x,h1,h2⟩:=a1x hl;rw [q2 hk,h1] at h;obtain ⟨y,hy⟩:=a4P Lib.goPrintTabs u.text;rw [hy] at h;exact h2 (List.cons.inj h).1.symm
 ·exfalso;obtain ⟨-,c,x,h1,h2⟩:=a1x hk;rw [q2 hl,h1] at h;obtain ⟨y,hy⟩:=a4P Lib.goPrintTabs v.text;rw [hy] at h;exact h2 (List.cons.inj h).1
 obtain ⟨he,hrq⟩:=a0r (a1x hk).1 (a1x hl).1 hr hq h;refine ⟨?_,hrq⟩;clear h
 have i1:∀{x y:V},x.kind=0->y.kind=1->x.prt≠y.prt:=by
  intro x y hx hy e;rw [p0 hx,p1 hy] at e;have hs:=(a1v (m4 y.num)).2.2.2;rw [<-e] at hs;unfold Q0 at hs;rw [List.any_eq_true] at hs;obtain ⟨c,hc,hcs⟩:=hs;simp only [Bool.or_eq_true,beq_iff_eq] at hcs;rcases (a3N x.int).1 c hc with hd|hd
  ·unfold o8 at hd;rcases hcs with ((rfl|rfl)|rfl)|rfl<;>revert hd<;>decide
  subst hd;revert hcs;decide
 have i3:∀{x y:V},x.kind=0->y.kind=3->x.prt≠y.prt:=by
  intro x y hx hy e;rw [p0 hx,p3 hy] at e;have:∀c,c∈(if y.yes=true then ([121,101,115]:List UInt8) else [110,111])->o8 c\/c=45:=fun c hc=>(a3N x.int).1 c (by rw [e];exact hc);cases hy:y.yes
  ·rw [hy] at this;have:=this 110 zd;unfold o8 at this;revert this;decide
  rw [hy] at this;have:=this 121 zd;unfold o8 at this;revert this;decide
 have n3:∀{x y:V},x.kind=1->y.kind=3->x.prt≠y.prt:=by
  intro x y hx hy e;rw [p1 hx,p3 hy] at e;obtain ⟨-,h1,h2, -⟩:=a1v (m4 x.num);rw [e] at h1 h2;cases hy:y.yes
  ·rw [hy] at h2;exact h2 _ rfl
  rw [hy] at h1;have:=h1 121 zd;unfold y8 at this;revert this;decide
 rcases kr hu with a|a|a|a<;>rcases kr hv with b|b|b|b
 ·rw [c0 cu a,c0 cv b];rw [p0 a,p0 b] at he;rw [b1X he]
 ·exact absurd he (i1 a b)
 ·exact absurd b hl
 ·exact absurd he (i3 a b)
 ·exact absurd he.symm (i1 b a)
 ·rw [c1 cu a,c1 cv b];rw [p1 a,p1 b] at he;rw [b1Q (a3L nu) (a3L nv) he]
 ·exact absurd b hl
 ·exact absurd he (n3 a b)
 ·exact absurd a hk
 ·exact absurd a hk
 ·exact absurd a hk
 ·exact absurd a hk
 ·exact absurd he.symm (i3 b a)
 ·exact absurd he.symm (n3 b a)
 ·exact absurd b hl
 rw [c3 cu a,c3 cv b];rw [p3 a,p3 b] at he
 have:u.yes=v.yes:=by
  cases hx:u.yes<;>cases hy:v.yes<;>rw [hx,hy] at he<;>first|rfl|(exfalso;revert he;decide)
 rw [this]
theorem b1Z {o:Int} (h:0<=o/\o<=7) (h7:o≠7):o=0\/o=1\/o=2\/o=3\/o=4\/o=5\/o=6:=zo
theorem b4d {o p:Int} (h:0<=o/\o<=7) (k:0<=p/\p<=7) (e:F8 o=F8 p):o=p:=by
 have a:∀x:Int,0<=x/\x<=7->x=0\/x=1\/x=2\/x=3\/x=4\/x=5\/x=6\/x=7:=fun x hx=>zo
 rcases a o h with rfl|rfl|rfl|rfl|rfl|rfl|rfl|rfl<;>rcases a p k with rfl|rfl|rfl|rfl|rfl|rfl|rfl|rfl<;>first|rfl|(exfalso;revert e;decide)
theorem a4Q {o:Int} (h:0<=o/\o<=7):∀c∈F8 o,c≠32:=by
 have a:o=0\/o=1\/o=2\/o=3\/o=4\/o=5\/o=6\/o=7:=zo
 rcases a with rfl|rfl|rfl|rfl|rfl|rfl|rfl|rfl<;>decide
theorem a95 {o:Int} (h:0<=o/\o<=7) (h7:o≠7):∃c r,F8 o=c::r/\(c.toNat<97/\(c.toNat<48\/57<c.toNat)):=by
 rcases b1Z h h7 with rfl|rfl|rfl|rfl|rfl|rfl|rfl
 all_goals exact ⟨_,_,rfl,zd⟩
theorem a9s {c d:Cnd} {r q:List UInt8} (hc:c.fine) (hd:d.fine) (hr:a5x r) (hq:a5x q) (h:c.prt++r=d.prt++q):c=d/\r=q:=by
 have eh:∀{x:Cnd},x.fine->x.op=7->x=⟨x.name,7,V.zero⟩:=fun hx e=>by
  conv=>lhs;rw [<-hx.is]
  unfold Cnd.norm;rw [if_pos e]
 have en:∀{x:Cnd},x.fine->x.op≠7->x=⟨x.name,x.op,x.v.canon⟩:=fun hx e=>by
  conv=>lhs;rw [<-hx.is]
  unfold Cnd.norm;rw [if_neg e]
 have mix:∀{x y:Cnd} {a b:List UInt8},x.fine->y.fine->x.op=7->y.op≠7->x.prt++a≠y.prt++b:=by
  intro x y a b hx hy e f g;unfold Cnd.prt at g;rw [if_pos e,if_neg f] at g
  have g2:[104,97,115]++(32::(x.name.data.toList++a))=y.name.data.toList++(32::(F8 y.op++(32::(y.v.prt++b)))):=by
   simpa [List.append_assoc] using g
  obtain ⟨-,h2⟩:=a0r zd (W6 hy.name) (N7 _) (N7 _) g2;have h3:=(List.cons.inj h2).2;obtain ⟨c1,r1,h4,h5⟩:=(a3M hx.name).2;obtain ⟨c2,r2,h6,h7⟩:=a95 hy.op f;rw [h4,h6] at h3;have:=(List.cons.inj h3).1;subst this;omega
 by_cases e:c.op=7<;>by_cases f:d.op=7
 ·unfold Cnd.prt at h;rw [if_pos e,if_pos f,zz12,zz12] at h;obtain ⟨h1,h2⟩:=a0r (W6 hc.name) (W6 hd.name) hr hq (List.append_cancel_left h);exact ⟨by rw [eh hc e,eh hd f,a5y h1],h2⟩
 ·exact absurd h (mix hc hd e f)
 ·exact absurd h.symm (mix hd hc f e)
 unfold Cnd.prt at h;rw [if_neg e,if_neg f] at h
 have g2:c.name.data.toList++(32::(F8 c.op++(32::(c.v.prt++r))))=d.name.data.toList++(32::(F8 d.op++(32::(d.v.prt++q)))):=by
  simpa [List.append_assoc] using h
 obtain ⟨h1,h2⟩:=a0r (W6 hc.name) (W6 hd.name) (N7 _) (N7 _) g2;obtain ⟨h3,h4⟩:=a0r (a4Q hc.op) (a4Q hd.op) (N7 _) (N7 _) (List.cons.inj h2).2
 have cc:c.v.canon=c.v:=by
  have:=en hc e;have:=congrArg Cnd.v this;exact this.symm
 have cd:d.v.canon=d.v:=by
  have:=en hd f;have:=congrArg Cnd.v this;exact this.symm
 obtain ⟨h5,h6⟩:=b1Y hc.v hd.v hc.num hd.num cc cd hr hq (List.cons.inj h4).2;refine ⟨?_,h6⟩;have h7:=b4d hc.op hd.op h3;have h8:=a5y h1;clear h h1 h2 h3 h4 g2 cc cd eh en mix e f hc hd;cases c;cases d
 simp only at h5 h7 h8;rw [h5,h7,h8]
theorem a0K (l:List Cnd):a5x (K0 l):=by
 cases l with
 |nil=>exact .inl rfl
 |cons c l=>exact .inr ⟨_,rfl⟩
theorem b12:∀{l m:List Cnd},(∀c∈l,c.fine)->(∀c∈m,c.fine)->K0 l=K0 m->l=m:=by
 intro l
 induction l with
 |nil=>
  intro m _ _ h
  cases m with
  |nil=>rfl
  |cons d m=>simp [K0] at h
 | cons c l ih=>
  intro m hl hm h
  cases m with
  |nil=>simp [K0] at h
  |cons d m=>
   unfold K0 at h;rw [zz12,zz12] at h;obtain ⟨h1,h2⟩:=a9s (hl c List.mem_cons_self) (hm d List.mem_cons_self) (a0K l) (a0K m) (List.append_cancel_left h);rw [h1,ih (fun x hx=>hl x (List.mem_cons_of_mem _ hx)) (fun x hx=>hm x (List.mem_cons_of_mem _ hx)) h2]
theorem b4e {s t:ByteArray} {l m:List Cnd} (hs:∀c∈s.data.toList,c≠58) (ht:∀c∈t.data.toList,c≠58) (hl:∀c∈l,c.fine) (hm:∀c∈m,c.fine) (h:q6 s l=q6 t m):s=t/\l=m:=by
 have rest:∀(u:ByteArray) (k:List Cnd),q6 u k=u.data.toList++58::a0d k:=fun u k=>by unfold q6;simp
 rw [rest,rest] at h
 have key:∀{x y:List UInt8},(∀c∈x,c≠58)->(x++58::y).takeWhile (· !=58)=x/\(x++58::y).dropWhile (· !=58)=58::y:=by
  intro x y hx;have hx':∀c∈x,(c !=58)=true:=fun c hc=>by rw [bne_iff_ne];exact hx c hc
  rw [List.takeWhile_append_of_pos hx',List.dropWhile_append_of_pos hx'];exact ⟨zz11 _,rfl⟩
 have k1:=key (y:=a0d l) hs;have k2:=key (y:=a0d m) ht;rw [h] at k1;refine ⟨a5y (k1.1.symm.trans k2.1), ?_⟩;have hab:a0d l=a0d m:=(List.cons.inj (k1.2.symm.trans k2.2)).2
 cases l with
 |nil=>
  cases m with
  |nil=>rfl
  |cons d m=>simp [a0d] at hab
 | cons c l=>
  cases m with
  |nil=>simp [a0d] at hab
  |cons d m=>
   have hab:[32]++c.prt++K0 l=[32]++d.prt++K0 m:=hab;rw [zz12,zz12] at hab;obtain ⟨h1,h2⟩:=a9s (hl c List.mem_cons_self) (hm d List.mem_cons_self) (a0K l) (a0K m) (List.append_cancel_left hab);rw [h1,b12 (fun x hx=>hl x (List.mem_cons_of_mem _ hx)) (fun x hx=>hm x (List.mem_cons_of_mem _ hx)) h2]
theorem a0s (bs:List UInt8):(str bs).size=bs.length:=by
 show (str bs).data.size=bs.length;simp [str]
def a3O:List (List UInt8):=[[61],[33,61],[60],[60,61],[62],[62,61],[94],[104,97,115]]
structure a3P (w:World):Prop where
 num:Lays w
 prt:Lib.PrintTabsAt 11 12 13 14 Lib.goPrintTabs w
 utf:Lib.Utf8Tabs 9 10 w
 words:∀i s,a3O[i]? =some s->w.cell? ⟨1,i,none⟩=some (.string (str s))
structure N8 (w0 w:World):Prop where
 at0:a3P w0
 n64:16<=w0.heap.size
 below:Below w0.heap.size w0 w
theorem N8.size {w0 w:World} (h:N8 w0 w):w0.heap.size<=w.heap.size:=h.below.size
theorem N8.mod {w0 w w':World} {F:Nat->Prop} (h:N8 w0 w) (hm:Mod F w w') (hF:∀k,k<w0.heap.size->¬F k):N8 w0 w':=
 ⟨h.at0,h.n64,⟨hm.os.trans h.below.os,hm.tape.trans h.below.tape,hm.output.trans h.below.output,Nat.le_trans h.below.size hm.size,fun k hk=>(hm.block k (zz13 hk h.size) (hF k hk)).trans (h.below.block k hk)⟩⟩
theorem N8.mod0 {w0 w w':World} (h:N8 w0 w) (hm:Mod (fun _=>False) w w'):N8 w0 w':=h.mod hm fun _ _ h=>h
theorem N8.at_ {w0 w:World} (h:N8 w0 w):a3P w:=by
 have hm:Mod (fun k=>w0.heap.size<=k) w0 w:=Mod.of_below h.below;have h64:=h.n64
 exact ⟨h.at0.num.mod hm (fun g hg h=>zo),printTabs_below h.at0.prt h.below,Utf8Tabs_below h.at0.utf h.below,fun i s hs=>hm.cell (h.at0.words i s hs) (fun h=>by
  have:w0.heap.size<=1:=h
  omega)⟩
theorem a2c {w w':World} (h:Below w.heap.size w w'):Mod (fun _=>False) w w':=⟨h.os,h.tape,h.output,h.size,fun k hk _=>h.block k hk⟩
theorem b13 (w:World) (os:Array Obj):Mod (fun _=>False) w (Go.Sort.grow w os):=by
 refine ⟨rfl,rfl,rfl, ?_,fun k hk _=> ?_⟩
 ·show _<=(w.heap++os).size;simp
 show (w.heap++os)[k]? =_;rw [Array.getElem?_append,if_pos hk]
theorem J4 (a b:List UInt8):str (a++b)=str a++str b:=by
 apply ByteArray.ext;simp [str,ByteArray.data_append]
structure V.fits (v:V):Prop where
 int: -9223372036854775808<=v.int/\v.int<=9223372036854775807
 num:v.num<2^64
 text:v.text.size<=1000000
theorem a4B (l:List UInt8):Lib.containsAny l [46,101,73,78]=Q0 l:=by
 unfold Lib.containsAny Q0
 induction l with
 |nil=>rfl
 | cons b l ih=>
  rw [List.any_cons,Lib.indexAny,<-ih]
  have hb:([46,101,73,78]:List UInt8).contains b=(b==46||b==101||b==73||b==78):=by
   simp only [List.contains_cons,List.contains_nil,Bool.or_false,Bool.or_assoc]
  rw [hb]
  cases hc:(b==46||b==101||b==73||b==78) with
  |true=>simp
  | false=>
   simp only [Bool.false_eq_true,if_false,Bool.false_or];have:=Lib.indexAny_ge [46,101,73,78] l;by_cases h1:Lib.indexAny l [46,101,73,78]= -1
   ·rw [h1];rfl
   have:(Lib.indexAny l [46,101,73,78]== -1)=false:=by rw [beq_eq_false_iff_ne];exact h1
   rw [this];simp only [Bool.false_eq_true,if_false,decide_eq_decide];omega
theorem a3Q (b:Nat):(∀c∈B5 b,y8 c)/\(B5 b).length<=1000:=by
 have e:S4 b=B5 b\/S4 b=B5 b++[46,48]:=by unfold S4;split;exact .inl rfl;exact .inr rfl
 have ht:=(a1v b).2.1;constructor
 ·intro c hc;rcases e with e|e
  ·exact ht c (by rw [e];exact hc)
  exact ht c (by rw [e];exact List.mem_append_left _ hc)
 rcases a2a b with ⟨_,_,h⟩|⟨_,_,_,h⟩|⟨_,_,_,h⟩|⟨_,ds,dp,hc,hz,h0,hr,hv,h,hlen⟩
 ·rw [h];decide
 ·rw [h];decide
 ·rw [h];decide
 rw [h];unfold U6 A5 C5 S3 J7 l6
 repeat' split
 all_goals simp only [zz4,zz9,List.length_nil,List.length_take,List.length_drop,List.length_replicate]
 all_goals omega
theorem a96 (w0 w:World) (hl:N8 w0 w) (v:V) (hv:v.fits):Calls Tryz.prog 83 #[.agg v.cells.toArray] w fun e w'=>e= .returned (.string (str v.prt))/\Mod (fun _=>False) w w':=by
 have hla:=hl.at_;obtain ⟨kind,int,num,text,yes⟩:=v;have h1:=hv.int;have h2:=hv.num;have h3:=hv.text;simp only at h1 h2 h3;unfold V.prt V.cells;simp only;obtain ⟨wa,aD,ah,ae,au⟩:=g8 w (.cells #[.int .i64 kind,.int .i64 int,.float .f64 num,.string text,.bool yes] 85);have dF:=hl.mod0 ah;have c0:wa.cell? ⟨w.heap.size,0,none⟩=some (.int .i64 kind):=d6 ae rfl;have c1:wa.cell? ⟨w.heap.size,1,none⟩=some (.int .i64 int):=d6 ae rfl;have c2:wa.cell? ⟨w.heap.size,2,none⟩=some (.float .f64 num):=d6 ae rfl;have c3:wa.cell? ⟨w.heap.size,3,none⟩=some (.string text):=d6 ae rfl;have c4:wa.cell? ⟨w.heap.size,4,none⟩=some (.bool yes):=d6 ae rfl;by_cases k0:kind=0
 ·rw [if_pos k0];subst k0;have hfi:=Tryz.strconv_FormatInt_10 int h1.1 h1.2 wa dF.at_.num.u10;obtain ⟨s,hs⟩:∃s,Lib.itoa int=s:=⟨_,rfl⟩;rw [hs] at hfi⊢;obtain ⟨Bj,Hs,aF,wh,wm,Hl,aH,aB⟩:=zh8 hfi hs aD dF hla hl ae ah;clear hfi hs aD dF hla hl ae ah hv
  go_enter Tryz.func83,Tryz.ntmps83
  go_wp2_with (rw [show w.alloc _=wa from aF.out])
  refine Bj.out.mono ?_;rintro e w2 ⟨rfl,k,os,rfl⟩;have hm2:=Lib.hid (aB.out.trans (((Mod.refl (fun _=>False) wa).drewN k).trans (b13 (wa.drewN k) os) zi) zi)
  go_wp2
  go_ret;exact ⟨rfl,hm2.out⟩
 rw [if_neg k0];have d0:(kind==0)=false:=by rw [beq_eq_false_iff_ne];exact k0
 by_cases k1:kind=1
 ·rw [if_pos k1];subst k1;have oG:=fun wx=>a3x num wx;have iX:=fun (wx:World) (hx:N8 w0 wx)=>a4A wx hx.at_.num (by have:=hx.n64;have:=hx.size;omega) (m4 num) (R2 h2);have hch:=a3Q (m4 num);have hsz:(str (B5 (m4 num))).size<=1000:=by rw [a0s];exact hch.2
  have hco:=fun (wx:World)=>Tryz.strings_ContainsAny_laid (str (B5 (m4 num))) ⟨#[46,101,73,78]⟩ wx zo zd
   (fun j b hb=>by
     have:=hch.1 b (zz8 (by simpa [str] using hb));have:=this.2
     omega) (fun j b hb=>by
     have hm:b∈([46,101,73,78]:List UInt8):=zz8 hb;simp only [List.mem_cons,List.not_mem_nil,or_false] at hm
     rcases hm with rfl|rfl|rfl|rfl<;>decide)
  have hsp:Lib.containsAny (str (B5 (m4 num))).data.toList (ByteArray.mk #[46,101,73,78]).data.toList=Q0 (B5 (m4 num)):=by
   rw [<-a4B];simp [str]
  rw [hsp] at hco;obtain ⟨cb,hcb⟩:∃cb,m4 num=cb:=⟨_,rfl⟩;unfold S4;rw [hcb] at oG iX hco hsz⊢;obtain ⟨ft,hft⟩:∃ft,B5 cb=ft:=⟨_,rfl⟩;rw [hft] at iX hco hsz⊢;obtain ⟨fs,hfs⟩:∃fs,str ft=fs:=⟨_,rfl⟩;rw [hfs] at iX hco hsz
  cases oH:Q0 ft with
  |true=>
   rw [oH] at hco;rw [if_pos rfl,hfs];obtain ⟨yO,uU,EX,ZC,kE,Ps,Pt,aF,wh,wm,Hl,aH⟩:=zh12 oG iX hco hcb hft hfs oH aD dF hla hl ae;obtain ⟨aB,Gx,ZE⟩:=zh3 ah hch hsp;clear oG iX hco hcb hft hfs oH aD dF hla hl ae ah hch hsp hv
   go_enter Tryz.func83,Tryz.ntmps83
   go_wp2_with (rw [show w.alloc _=wa from aF.out])
   refine (yO.out _).mono ?_;rintro e w2 ⟨rfl,rfl⟩
   go_wp2_with fail
   refine (uU.out _ wh.out).mono ?_;rintro e w3 ⟨rfl,aC⟩;have bA:=zh aC;clear aC
   go_wp2_with fail
   refine (EX.out _).mono ?_;rintro e w4 ⟨rfl,hb4⟩;have aR:=Lib.hid (a2c hb4);clear hb4
   go_wp2
   go_ret;exact ⟨rfl,(aB.out.trans bA.out zi).trans aR.out zi⟩
  | false=>
   rw [oH] at hco;rw [if_neg zd]
   have hap:(Value.string (str (ft++[46,48])))= .string (fs++⟨#[46,48]⟩):=by
    rw [<-hfs,J4];rfl
   rw [hap];obtain ⟨yO,uU,EX,ZC,kE,Ps,Pt,aF,wh,wm,Hl,aH⟩:=zh12 oG iX hco hcb hft hfs oH aD dF hla hl ae;obtain ⟨aB,Gx,ZE,Nv⟩:=zh4 ah hch hsp hap;clear oG iX hco hcb hft hfs oH aD dF hla hl ae ah hch hsp hap hv
   go_enter Tryz.func83,Tryz.ntmps83
   go_wp2_with (rw [show w.alloc _=wa from aF.out])
   refine (yO.out _).mono ?_;rintro e w2 ⟨rfl,rfl⟩
   go_wp2_with fail
   refine (uU.out _ wh.out).mono ?_;rintro e w3 ⟨rfl,aC⟩;have bA:=zh aC;clear aC
   go_wp2_with fail
   refine (EX.out _).mono ?_;rintro e w4 ⟨rfl,hb4⟩;have aR:=Lib.hid (a2c hb4);clear hb4
   go_wp2
   go_ret;exact ⟨rfl,(aB.out.trans bA.out zi).trans aR.out zi⟩
 rw [if_neg k1];have d1:(kind==1)=false:=by rw [beq_eq_false_iff_ne];exact k1
 by_cases k2:kind=2
 ·rw [if_pos k2];subst k2;have Bl:=Tryz.strconv_Quote Lib.goPrintTabs text wa zo dF.at_.prt dF.at_.utf;have hq:strOfNums (Lib.quoteZ Lib.goPrintTabs text)=str (a3K Lib.goPrintTabs text):=rfl;rw [hq] at Bl;obtain ⟨s,hs⟩:∃s,str (a3K Lib.goPrintTabs text)=s:=⟨_,rfl⟩;rw [hs] at Bl⊢;obtain ⟨Nw,Hs,aF,wh,wm,Hl,aH,aB,Hq⟩:=zh9 Bl hs aD dF hla hl ae ah hq;clear Bl hs aD dF hla hl ae ah hq hv
  go_enter Tryz.func83,Tryz.ntmps83
  go_wp2_with (rw [show w.alloc _=wa from aF.out])
  refine Nw.out.mono ?_;rintro e w2 ⟨rfl,hb2⟩;have hm2:=Lib.hid (aB.out.trans (a2c hb2) zi);clear hb2
  go_wp2
  go_ret;exact ⟨rfl,hm2.out⟩
 rw [if_neg k2];have d2:(kind==2)=false:=by rw [beq_eq_false_iff_ne];exact k2
 obtain ⟨aF,wh,wm,Hl,aH,aB⟩:=zh6 aD dF hla hl ae ah;clear aD dF hla hl ae ah hv k0 k1 k2;cases yes
 ·go_enter Tryz.func83,Tryz.ntmps83
  go_wp2_with (rw [show w.alloc _=wa from aF.out])
  go_ret;exact ⟨rfl,aB.out⟩
 go_enter Tryz.func83,Tryz.ntmps83
 go_wp2_with (rw [show w.alloc _=wa from aF.out])
 go_ret;exact ⟨rfl,aB.out⟩
theorem b4f (w0 w:World) (hl:N8 w0 w) (op:Int):Calls Tryz.prog 82 #[.int .i64 op] w fun e w'=>e= .returned (.string (str (F8 op)))/\w'=w:=by
 by_cases h0:0<=op
 ·by_cases h7:op<=7
  ·obtain ⟨k,rfl⟩:∃k:Nat,op=k:=⟨op.toNat,zo⟩
   have hw:a3O[k]? =some (F8 k):=by
    have:k=0\/k=1\/k=2\/k=3\/k=4\/k=5\/k=6\/k=7:=zo
    rcases this with rfl|rfl|rfl|rfl|rfl|rfl|rfl|rfl<;>rfl
   have hc:=hl.at_.words k _ hw;obtain ⟨s,hs⟩:∃s,str (F8 k)=s:=⟨_,rfl⟩;rw [hs] at hc⊢;have a1:decide ((k:Int)<0)=false:=by simp
   have a2:decide ((7:Int)<k)=false:=by simp;omega
   have a3:(k:Int)<8:=zo
   obtain ⟨Hs,Hw,Hl⟩:=zh3 hs hw hl;clear hs hw hl
   go_enter Tryz.func82,Tryz.ntmps82
   go_wp2
   go_ret;exact ⟨rfl,rfl⟩
  have e:F8 op=[]:=by unfold F8;rw [if_neg zo,if_neg zo,if_neg zo,if_neg zo,if_neg zo,if_neg zo,if_neg zo,if_neg zo]
  rw [e];have h7':(7:Int)<op:=zo
  go_enter Tryz.func82,Tryz.ntmps82
  go_wp2
  go_ret;exact ⟨rfl,rfl⟩
 have e:F8 op=[]:=by unfold F8;rw [if_neg zo,if_neg zo,if_neg zo,if_neg zo,if_neg zo,if_neg zo,if_neg zo,if_neg zo]
 rw [e];have h0':op<0:=zo
 go_enter Tryz.func82,Tryz.ntmps82
 go_wp2
 go_ret;exact ⟨rfl,rfl⟩
theorem a9t {v:V} (hv:v.fits):v.prt.length<=20000000:=by
 unfold V.prt;have hi:=hv.int;have ht:=hv.text;split
 ·unfold Lib.itoa;split
  ·have:=a9l v.int.natAbs zo;rw [zz9,Lib.decDigits_length];omega
  have:=a9l v.int.toNat zo;rw [Lib.decDigits_length];omega
 split
 ·have:=(a3Q (m4 v.num)).2;unfold S4;split
  ·omega
  rw [zz4];simp;omega
 split
 ·have:=b1W Lib.goPrintTabs v.text;omega
 split<;>decide
theorem a2d (w0 w:World) (hl:N8 w0 w) (c:Cnd) (hv:c.v.fits) (hn:c.name.size<=1000000):Calls Tryz.prog 46 #[.agg c.cells.toArray] w fun e w'=>e= .returned (.string (str c.prt))/\Mod (fun _=>False) w w':=by
 obtain ⟨name,op,v⟩:=c;unfold Cnd.prt;simp only at hv hn⊢;obtain ⟨wa,aD,ah,ae,au⟩:=g8 w (.cells (Cnd.cells ⟨name,op,v⟩).toArray 87);have dF:=hl.mod0 ah;have c0:wa.cell? ⟨w.heap.size,0,none⟩=some (.string name):=d6 ae rfl;have c1:wa.cell? ⟨w.heap.size,1,none⟩=some (.int .i64 op):=d6 ae rfl;by_cases h7:op=7
 ·rw [if_pos h7];subst h7
  have hap:(Value.string (str ([104,97,115,32]++name.data.toList)))= .string (⟨#[104,97,115,32]⟩++name):=by
   rw [J4];rfl
  rw [hap];obtain ⟨Nv,aF,wh,Hl,aH,aB⟩:=zh6 hap aD dF hl ae ah;clear hap aD dF hl ae ah hv
  go_enter Tryz.func46,Tryz.ntmps46
  go_wp2_with (rw [show w.alloc _=wa from aF.out])
  go_ret;exact ⟨rfl,aB.out⟩
 rw [if_neg h7];have d7:(op==7)=false:=by rw [beq_eq_false_iff_ne];exact h7
 have hwd:=fun (wx:World) (hx:Mod (fun _=>False) wa wx)=>(b4f w0 wx (dF.mod0 hx) op).mono fun e w'' (h:_/\_)=>(⟨h.1,h.2.symm▸hx⟩:e= .returned (.string (str (F8 op)))/\Mod (fun _=>False) wa w'');have hvp:=fun (wx:World) (hx:Mod (fun _=>False) wa wx)=>(a96 w0 wx (dF.mod0 hx) v hv).mono fun e w'' (h:_/\_)=>(⟨h.1,hx.trans h.2 zi⟩:e= .returned (.string (str v.prt))/\Mod (fun _=>False) wa w'')
 have hap:(Value.string (str (name.data.toList++[32]++F8 op++[32]++v.prt)))= .string (name++⟨#[32]⟩++str (F8 op)++⟨#[32]⟩++str v.prt):=by
  rw [J4,J4,J4,J4];rfl
 rw [hap];have hcv:e9 wa w.heap.size 2 v.cells:=a0z ae
 have hws:(str (F8 op)).size<=3:=by
  rw [a0s];unfold F8
  repeat' split
  all_goals decide
 have hps:(str v.prt).size<=20000000:=by
  rw [a0s];exact a9t hv
 obtain ⟨wd,ww⟩:∃wd,str (F8 op)=wd:=⟨_,rfl⟩;obtain ⟨pt,hpt⟩:∃pt,str v.prt=pt:=⟨_,rfl⟩;rw [ww] at hws;rw [hpt] at hps;simp only [ww,hpt] at hwd hvp hap⊢;have s1:¬9223372036854775807<name.size+1:=zo
 have s2:¬9223372036854775807<name.size+1+wd.size:=zo
 have s3:¬9223372036854775807<name.size+1+wd.size+1:=zo
 have s4:¬9223372036854775807<name.size+1+wd.size+1+pt.size:=zo
 have hf0:∀w',Mod (fun _=>False) wa w'->w'.cell? ⟨w.heap.size,0,none⟩=some (.string name):=fun w' hw'=>hw'.cell c0 id;have hf1:∀w',Mod (fun _=>False) wa w'->w'.cell? ⟨w.heap.size,1,none⟩=some (.int .i64 op):=fun w' hw'=>hw'.cell c1 id;have hf2:∀w',Mod (fun _=>False) wa w'->l8 w' w.heap.size 2 5/\cellsOf w' w.heap.size 2 5=v.cells.toArray:=fun w' hw'=>⟨(hcv.mod hw' id).all rfl,(hcv.mod hw' id).is rfl⟩;obtain ⟨Nv,aF,wh,Hl,aH,aB,Pv,ZF,ZG,Hpt,Gy,Pw⟩:=zh12 hap aD dF hl ae ah hwd hvp ww hpt hcv hf0;obtain ⟨Hf1,lL⟩:=zh2 hf1 hf2;clear hap aD dF hl ae ah hwd hvp ww hpt hcv hf0 hf1 hf2 hv h7
 go_enter Tryz.func46,Tryz.ntmps46
 go_wp2_with (rw [show w.alloc _=wa from aF.out])
 refine i7 zk zk ?_
 iterate 13 (first
  | (refine j6 ?_ (fun K hK=> ?_)
     ·first|(go_simp;done)|(go_simp;simp [undef];done)
     go_simp;refine hK _ ?_;clear hK K)
  | (refine j7 ?_ ?_ (fun w' hw'=> ?_) (fun K hK=> ?_)
     ·first|(go_simp;done)|(go_simp;simp [undef];done)
     rotate_left
     ·have f0:=Pw.out w' hw';have f1:=Hf1.out w' hw';obtain ⟨f2,f3⟩:=lL.out w' hw';go_simp;rfl
     go_simp;refine hK _ ?_;clear hK K)
  | (refine m9 ?_ ?_ ?_ ?_ (fun w' hw'=> ?_) ?_ (fun K hK=> ?_)
     ·first|(go_simp;done)|(go_simp;simp [undef];done)
     rotate_left 3
     ·have f0:=Pw.out w' hw';have f1:=Hf1.out w' hw';obtain ⟨f2,f3⟩:=lL.out w' hw';go_simp;constructor<;>rfl
     ·first|with_reducible exact Pv.out|with_reducible exact ZF.out
     go_simp;refine hK _ ?_;clear hK K))
 refine j8 (fun w' hw'=> ?_);have bS:=Lib.hid (aB.out.trans hw' zi);clear hw'
 go_wp2
 go_ret;exact ⟨rfl,bS.out⟩
structure Cnd.fits (c:Cnd):Prop where
 v:c.v.fits
 name:c.name.size<=1000000
theorem a3R {c:Cnd} (h:c.fits):c.prt.length<=22000000:=by
 have h1:=a9t h.v;have h2:=h.name;have h3:c.name.data.toList.length=c.name.size:=by rw [Array.length_toList];rfl
 unfold Cnd.prt;split
 ·rw [zz4,h3];simp only [zz9,List.length_nil];omega
 rw [zz4,zz4,zz4,zz4,h3]
 have:(F8 c.op).length<=3:=by
  unfold F8
  repeat' split
  all_goals decide
 simp only [zz9,List.length_nil];omega
theorem a7W (l:List Cnd) (c:Cnd):K0 (l++[c])=K0 l++([32,38,32]++c.prt):=by
 induction l with
 |nil=>simp [K0]
 |cons d l ih=>
  show [32,38,32]++d.prt++K0 (l++[c])=[32,38,32]++d.prt++K0 l++_;rw [ih];simp
theorem a6w (sc:ByteArray) (l:List Cnd) (c:Cnd):q6 sc (l++[c])=(if l=[] then q6 sc l else q6 sc l++[32,38])++([32]++c.prt):=by
 cases l with
 |nil=>simp [q6,a0d,K0]
 |cons d l=>
  rw [if_neg (by simp)];unfold q6;show sc.data.toList++[58]++([32]++d.prt++K0 (l++[c]))=sc.data.toList++[58]++([32]++d.prt++K0 l)++[32,38]++_;rw [a7W];simp
theorem J8 (sc:ByteArray) (l:List Cnd) (h:∀c∈l,c.fits):(q6 sc l).length<=sc.size+1+23000000*l.length:=by
 have key:∀m:List Cnd,(∀c∈m,c.fits)->(K0 m).length<=23000000*m.length:=by
  intro m
  induction m with
  |nil=>intro _;exact Nat.zero_le _
  |cons c m ih=>
   intro hm;have h1:=ih fun x hx=>hm x (List.mem_cons_of_mem _ hx);have h2:=a3R (hm c List.mem_cons_self);unfold K0;rw [zz4,zz4,zz9];simp only [zz9,List.length_nil];omega
 have hs:sc.data.toList.length=sc.size:=by rw [Array.length_toList];rfl
 unfold q6;rw [zz4,zz4,hs]
 cases l with
 |nil=>simp [a0d]
 |cons c l=>
  have h1:=key l fun x hx=>h x (List.mem_cons_of_mem _ hx);have h2:=a3R (h c List.mem_cons_self);unfold a0d;rw [zz4,zz4,zz9];simp only [zz9,List.length_nil];omega
theorem a2e (w0 w:World) (hl:N8 w0 w) (sc:ByteArray) (cv:Value) (l:List Cnd) (hv:j3 w 7 cv l.length (m5 l)) (hll:l.length<=1000) (hsc:sc.size<=1000000) (hcs:∀c∈l,c.fits):
 Calls Tryz.prog 61 #[.agg #[.string sc,cv]] w fun e w'=>e= .returned (.string (str (q6 sc l)))/\Mod (fun _=>False) w w':=by
 obtain ⟨a,cap,rfl,hcap⟩:∃a c,cv= .slice a l.length c/\l.length<=c:=by obtain ⟨-,a,c,h,h2, -⟩:=hv;exact ⟨a,c,h,h2⟩
 have bN:(l.length:Int)<=1000:=zo
 have bf:(l.length:Int)<=cap:=zo
 obtain ⟨wa,aD,ah,ae,au⟩:=g8 w (.cells #[.string sc,.slice a l.length cap] 26);have hva:=hv.mod ah zi;have hla:=hl.mod0 ah;have c0:wa.cell? ⟨w.heap.size,0,none⟩=some (.string sc):=d6 ae rfl;have c1:wa.cell? ⟨w.heap.size,1,none⟩=some (.slice a l.length cap):=d6 ae rfl;obtain ⟨R,hR⟩:∃R,str (q6 sc l)=R:=⟨_,rfl⟩;rw [hR]
 have hs0:str (q6 sc [])=sc++⟨#[58]⟩:=by
  unfold q6 a0d;rw [zz11,J4];rfl
 obtain ⟨Hv,aF,aH,dC,HR,aB,wm,Hl,gY,Px⟩:=zh10 hv aD ae hva hR ah hla hl hcs hs0;clear hv aD ae hva hR ah hla hl hcs hs0 au
 go_enter Tryz.func61,Tryz.ntmps61
 go_wp2_with (rw [show w.alloc _=wa from aF.out])
 go_loopw [3,12] (fun s i wr=>∃j:Nat,i= .int .i64 j/\j<=l.length/\Mod (fun _=>False) wa wr/\s= .string (str (q6 sc (l.take j)))) (fun _ i _=>l.length - (intOf i).toNat)
 case atStart=>exact ⟨0,rfl,Nat.zero_le _,Mod.refl _ _,congrArg Value.string Px.out.symm⟩
 case round=>
  obtain ⟨j,rfl,hj,hmr,rfl⟩:=hrel;by_cases hlt:j<l.length
  ·have hlt':(j:Int)<l.length:=zo
   obtain ⟨x,hxj⟩:∃x,l[j]? =some x:=⟨_,zz5 hlt⟩;have hxm:=zz8 hxj;obtain ⟨g,off,rfl,hf⟩:∃g off,a=some ⟨g,off,none⟩/\e9 wr g (off+j*7) x.cells:=G9 (dC.out.mod hmr zi) hxj;obtain ⟨wz,hwz,ai,aj,aJ⟩:=g8 wr (.cells x.cells.toArray 87);have hmz:=hmr.trans ai zi;have fZ:=gY.out x hxm;have hcr:=a2d w0 wz (wm.out.mod0 hmz) x fZ.v fZ.name
   have hsn:l.take (j+1)=l.take j++[x]:=by
    rw [List.take_succ_eq_append_getElem hlt];congr 2;exact (zz6 hxj).2
   have hfs:=a6w sc (l.take j) x;rw [<-hsn] at hfs;have hln:=J8 sc (l.take j) fun c hc=>gY.out c (List.mem_of_mem_take hc);have hlj:(l.take j).length<=1000:=by rw [List.length_take];omega
   have hlx:=a3R fZ;have hsz:(str (q6 sc (l.take j))).size<=100000000000:=by rw [a0s];omega
   have hsx:(str x.prt).size<=100000000000:=by rw [a0s];omega
   obtain ⟨s,hs⟩:∃s,str (q6 sc (l.take j))=s:=⟨_,rfl⟩;obtain ⟨px,hpx⟩:∃px,str x.prt=px:=⟨_,rfl⟩;rw [hs] at hsz⊢;rw [hpx] at hcr hsx;have s0:¬9223372036854775807<s.size+2:=zo
   have s1:¬9223372036854775807<1+px.size:=zo
   have s2:¬9223372036854775807<s.size+(1+px.size):=zo
   have s3:¬9223372036854775807<s.size+2+(1+px.size):=zo
   by_cases hj0:j=0
   ·subst hj0
    have hnew:str (q6 sc (l.take (0+1)))=s++(⟨#[32]⟩++px):=by
     rw [hfs,if_pos (by simp),J4,hs,J4,hpx];rfl
    obtain ⟨aK,cB,fH,Hf,bi,bn,aN,bG,vT,Gz,Ps,Hs⟩:=zh12 hmr hxj hxm hf hwz ai aj hmz hcr hsn hfs hs;obtain ⟨GA,lY,EY⟩:=zh3 hpx hnew fZ;clear hmr hxj hxm hf hwz ai aj hmz hcr hsn hfs hs hpx hnew fZ aJ hln hlj hlx hsz hsx
    go_wp2_with (first|((with_reducible refine d8 87 (.tmp 15) ?_);refine ⟨g,off+0*7,rfl,x.cells,Hf.out,zk,zk, ?_⟩)|((with_reducible refine d9 87 (.tmp 5) (.tmp 16) ?_);refine ⟨rfl,x.cells,rfl,rfl,zk,rfl, ?_⟩;rw [bi.out])|((with_reducible refine d8 87 (.tmp 5) ?_);refine ⟨wr.heap.size,0,rfl,x.cells,e9.row aN.out,zk,zk, ?_⟩))
    refine vT.out.mono ?_;rintro e w3 ⟨rfl,aC⟩;have bA:=Lib.hid (bG.out.trans aC zi);clear aC
    go_wp2_with fail
    go_roundw
    case rel=>exact ⟨0+1,by go_num,hlt,bA.out,congrArg Value.string lY.out.symm⟩
    case measure=>simp [intOf];omega
   have hj1:(0:Int)<j:=zo
   have hnew:str (q6 sc (l.take (j+1)))=s++⟨#[32,38]⟩++(⟨#[32]⟩++px):=by
    have hne:¬l.take j=[]:=fun h=>by
     have:=congrArg List.length h;rw [List.length_take,List.length_nil] at this;omega
    rw [hfs,if_neg hne,J4,J4,hs,J4,hpx];rfl
   obtain ⟨aK,cB,fH,Hf,bi,bn,aN,bG,vT,Gz,Ps,Hs⟩:=zh12 hmr hxj hxm hf hwz ai aj hmz hcr hsn hfs hs;obtain ⟨GA,lY,EY⟩:=zh3 hpx hnew fZ;clear hmr hxj hxm hf hwz ai aj hmz hcr hsn hfs hs hpx hnew fZ aJ hln hlj hlx hsz hsx
   go_wp2_with (first|((with_reducible refine d8 87 (.tmp 15) ?_);refine ⟨g,off+j*7,rfl,x.cells,Hf.out,zk,zk, ?_⟩)|((with_reducible refine d9 87 (.tmp 5) (.tmp 16) ?_);refine ⟨rfl,x.cells,rfl,rfl,zk,rfl, ?_⟩;rw [bi.out])|((with_reducible refine d8 87 (.tmp 5) ?_);refine ⟨wr.heap.size,0,rfl,x.cells,e9.row aN.out,zk,zk, ?_⟩))
   refine vT.out.mono ?_;rintro e w3 ⟨rfl,aC⟩;have bA:=Lib.hid (bG.out.trans aC zi);clear aC
   go_wp2_with fail
   go_roundw
   case rel=>exact ⟨j+1,by go_num,hlt,bA.out,congrArg Value.string lY.out.symm⟩
   case measure=>simp [intOf];omega
  obtain rfl:j=l.length:=zo
  have hfin:str (q6 sc (l.take l.length))=R:=by rw [List.take_length];exact HR.out
  rw [hfin];obtain ⟨aK,cZ⟩:=zh2 hmr hfin;clear hmr hfin
  go_wp2
  go_ret;exact ⟨rfl,aB.out.trans aK.out zi⟩
end Go.Proofs.YtebhabpahfmodaaGreatDoor
