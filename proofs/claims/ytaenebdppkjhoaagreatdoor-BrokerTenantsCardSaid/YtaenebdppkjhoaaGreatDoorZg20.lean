/- Lemmas. -/
import Derived.Test.YtaenebdppkjhoaaGreatDoorZg18
import Derived.Test.YtaenebdppkjhoaaGreatDoorZg8
namespace Go.Proofs.YtaenebdppkjhoaaGreatDoor
set_option maxRecDepth 20000
set_option maxHeartbeats 40000000
section
open Go.RowKit
theorem M4 {w:World} {ops:Array Oper} {rest:List Oper} {a:Act} {Q:Exit->Act->World->Prop} {d:Option Tmp} {tp:TypeId} {pos:String} {af:Array Edge} {at1:Array TypeId} (s:Operand) (x:Value)
 (h:at1=#[97,9]/\∃(F:Nat->Prop) (w0:World) (v:Value) (bs:List UInt8) (z:ByteArray),Buf F w0 w v bs/\a.eval s=v/\x= .string z/\bs.length<=1000000/\z.size<=1000000/\
   ∀ad cap w',Buf F w0 w' (.slice ad (bs.length+z.size) cap) (bs++txt z)->wpList Tryz.prog ops Q rest (a.put d (.slice ad (bs.length+z.size) cap)) w'):
 wpList Tryz.prog ops Q (⟨d,.call {callee:= .builtin .append,args:=#[s,.const x],argTypes:=at1},tp,pos,af,none⟩::rest) a w:=by
 obtain ⟨rfl,F,w0,v,bs,z,hb,hs,rfl,h1,h2,hK⟩:=h;refine a1s rfl s (.const (.string z)) 97 9 rfl 5 a6p (by kernel_rfl) v bs.length (u8s bs) hs hb.own z rfl (by omega) (by unfold maxLen;omega) fun ad cap w' ha=>hK ad cap w' ?_;have:=hb.put (l:=txt z) (m:=z.size) rfl ha;exact this
theorem b0J (w:World) (F:Nat->Prop) (v:Value) (b:Nat) (hb64:b<18446744073709551616) (hfin:b / 4503599627370496%2048=2047) (hb:Buf F w w v []):
 Calls Tryz.prog 203 #[v,.float .f64 b,.int .u8 103,.int .i64 (-1)] w (a2R F w (A2 b)):=by
 obtain ⟨ad,cap,rfl, -⟩:=hb.own.shape;have hs:=a2Q b w;obtain ⟨mt,hmt⟩:∃mt,b%4503599627370496=mt:=⟨_,rfl⟩
 have e1:bits .and .i64 ((b:Int) / 4503599627370496) 2047=2047:=by
  have h:=a1r ((b:Int) / 4503599627370496) 11 (by decide);refine h.trans ?_;show (b:Int) / 4503599627370496%(2048:Int)=_;omega
 have e2:bits .and .u64 (b:Int) 4503599627370495=mt:=by
  have h:=a76 b 52 (by decide) hb64;rw [<-hmt];exact h
 have hmtl:mt<4503599627370496:=by omega
 obtain ⟨t,htt⟩:∃t,A2 b=t:=⟨_,rfl⟩;rw [htt];have hr1:b%2^63 / 2^52=2047:=by omega
 have hr2:b%2^52=mt:=by omega
 have hb0:=fun n=>hb.also ((Mod.refl (fun _=>False) w).drewN n);by_cases hm:mt=0
 ·have h0:((mt:Int) !=0)=false:=by rw [hm];rfl
  by_cases hn:b / 2^63≠0
  ·have h1:((b:Int) / 9223372036854775808 !=0)=true:=by rw [bne_iff_ne];omega
   have h2:t=[45,73,110,102]:=by rw [<-htt];unfold A2;rw [if_pos hr1,if_neg (by omega),if_pos hn]
   obtain ⟨Hb,Hmt,Htt,Hr1,Hr2,Hm,H2,Hb0⟩:=zh8 hb hmt htt hr1 hr2 hm h2 hb0;clear hb hmt htt hr1 hr2 hm h2 hb0 hn
   go_enter Tryz.func203,Tryz.ntmps203
   go_wp2_with fail
   go_quiet (fail)
   go_wp2_with (first|((with_reducible refine M4 (.tmp 73) _ ?_);(refine ⟨rfl,F,w,_,_,_,Hb0.out _,rfl,rfl,by decide,by decide,fun ad1 cap1 w1 hb1=> ?_⟩);have Hb1:=Lib.hid hb1;clear hb1)|fail)
   go_ret;exact ⟨_,rfl,by rw [H2.out];exact Hb1.out⟩
  have h1:((b:Int) / 9223372036854775808 !=0)=false:=by rw [bne_eq_false_iff_eq];omega
  have h2:t=[43,73,110,102]:=by rw [<-htt];unfold A2;rw [if_pos hr1,if_neg (by omega),if_neg hn]
  obtain ⟨Hb,Hmt,Htt,Hr1,Hr2,Hm,H2,Hb0⟩:=zh8 hb hmt htt hr1 hr2 hm h2 hb0;clear hb hmt htt hr1 hr2 hm h2 hb0 hn
  go_enter Tryz.func203,Tryz.ntmps203
  go_wp2_with fail
  go_quiet (fail)
  go_wp2_with (first|((with_reducible refine M4 (.tmp 75) _ ?_);(refine ⟨rfl,F,w,_,_,_,Hb0.out _,rfl,rfl,by decide,by decide,fun ad1 cap1 w1 hb1=> ?_⟩);have Hb1:=Lib.hid hb1;clear hb1)|fail)
  go_ret;exact ⟨_,rfl,by rw [H2.out];exact Hb1.out⟩
 have h0:((mt:Int) !=0)=true:=by rw [bne_iff_ne];omega
 have h2:t=[78,97,78]:=by rw [<-htt];unfold A2;rw [if_pos hr1,if_pos (by omega)]
 obtain ⟨Hb,Hmt,Htt,Hr1,Hr2,Hm,H2,Hb0⟩:=zh8 hb hmt htt hr1 hr2 hm h2 hb0;clear hb hmt htt hr1 hr2 hm h2 hb0
 go_enter Tryz.func203,Tryz.ntmps203
 go_wp2_with fail
 go_quiet (fail)
 go_wp2_with (first|((with_reducible refine M4 (.tmp 70) _ ?_);(refine ⟨rfl,F,w,_,_,_,Hb0.out _,rfl,rfl,by decide,by decide,fun ad1 cap1 w1 hb1=> ?_⟩);have Hb1:=Lib.hid hb1;clear hb1)|fail)
 go_ret;exact ⟨_,rfl,by rw [H2.out];exact Hb1.out⟩
theorem i7.ne {w:World} {e:TypeId} {sz n:Nat} {v:Value} {xs:List Value} (h:i7 w e sz v n xs) {c:Array Value} {f:TypeId} {x:Nat×Nat} {j:Nat} (hj:w.heap[j]? =some (.cells c f x)) (hne:e≠f):∀k,j1 v k->k≠j:=by
 rintro k hk rfl;obtain ⟨cur,hc⟩:=h.elem k hk;rw [hc] at hj;cases hj
 exact hne rfl
structure X1 (w:World) (p:Nat) (v:Value) (w':World) (v':Value):Prop where
 mod:Mod (fun k=>k=p\/j1 v k) w w'
 new:∀k,j1 v' k->j1 v k\/w.heap.size<=k
section
variable {w w' w'':World} {p:Nat} {v v' v'':Value} {bs:List UInt8}
theorem X1.refl (w:World) (p:Nat) (v:Value):X1 w p v w v:=⟨Mod.refl _ _,fun _ h=> .inl h⟩
theorem X1.trans (h:X1 w p v w' v') (k:X1 w' p v' w'' v''):X1 w p v w'' v'':=
 ⟨(h.mod.trans k.mod fun b hb hg=>by
  rcases hg with hg|hg
  ·exact .inl hg
  ·rcases h.new b hg with h1|h1
   ·exact .inr h1
   ·omega),fun b hb=>by
  rcases k.new b hb with h1|h1
  ·exact h.new b h1
  ·have:=h.mod.size
   exact .inr (by omega)⟩
theorem X1.also {F:Nat->Prop} (h:X1 w p v w' v') (k:Mod F w' w'') (hF:∀b,F b->w.heap.size<=b):X1 w p v w'' v':=
 ⟨h.mod.trans k fun b hb hg=>by have:=hF b hg;omega,h.new⟩
end
theorem b4B:D8 Tryz.prog 23 3 1 8:=O4 (by kernel_rfl) (by kernel_rfl)
theorem I0 {P:Program} {o:Oper} {a:Act} {w:World} {K:Act->World->Prop} {Q:Exit->Act->World->Prop}
 (s y:Operand) (t:TypeId) (hop:o.op=Op.call {callee:=Callee.builtin Builtin.append,args:=#[s,y],argTypes:=#[t,t]})
 (e:TypeId) (sz bytes:Nat) (hT:D8 P t e sz bytes)
 (v:Value) (n:Nat) (xs:List Value) (hs:a.eval s=v) (hown:i7 w e sz v n xs) (x:Value) (m:Nat) (news:List Value) (hy:a.eval y=x) (hx:j0 w sz x m news) (h1:∀u∈news,u.oneCell'=true)
 (hbytes:(n+m)*bytes<=140737488355328) (hmax:n+m<=maxLen)
 (hK:∀ad cap w',t8 w e sz v (n+m) (xs++news) (.slice ad (n+m) cap) w'->K (a.put o.dst (.slice ad (n+m) cap)) w'):o.wp P a w K Q:=by
 obtain ⟨ht,i0,z,hi,hz0,hz1,hz2,hzs⟩:=hT;obtain ⟨v',w',hrun,r1,r2,r3⟩:=a0u (P:=P) w t o.type e i0 z sz bytes ht hi hz0 hz1 hz2 hzs v n xs hown x m news hx h1 hbytes hmax;unfold Oper.wp execOp;simp only [hop,resolve,invoke,builtin,Sem.run_bind,Sem.run_pure,Result.andThen_ok,List.map_toArray,List.map_cons,List.map_nil,hs,hy,hrun];obtain ⟨ad,cap,rfl,_⟩:=r1.shape;exact hK ad cap w' ⟨r1,r2,r3⟩
end
section
open Go.RowKit
theorem b0K {w:World} {v:Value} {bs:List UInt8} {e:TypeId} (h:i7 w e 1 v bs.length (u8s bs)):(convert 97 9 v).run Tryz.prog w= .ok (.string (str bs)) w:=by
 have hrd:=h.rd;rcases h.2 with ⟨rfl,h0⟩|⟨g,off,cap,cur,rfl, -⟩
 ·obtain rfl:bs=[]:=List.eq_nil_of_length_eq_zero h0;exact b0F
 obtain ⟨-,a,c,h1, -, -,h4⟩:=hrd;cases h1
 refine a6R rfl (fun j u hu=> ?_);obtain ⟨g',off',h5,h6⟩:=h4 _ rfl (by have:=(zz6 hu).1;omega);cases h5
 exact h6 j _ (by simp [u8s,hu])
theorem H9.new (w:World) (bs:List UInt8) (t:TypeId):H9 (w.alloc (.cells (u8s bs).toArray t)) w.heap.size (.slice (some ⟨w.heap.size,0,none⟩) bs.length bs.length) bs:=
 ⟨_,_,rfl,Nat.le_refl _,(fun h=>by cases h),fun b hb=>⟨0,(by cases hb;rfl),(by simp),fun j u hu=>by
  have:=e7.new w (u8s bs) t j (.int .u8 (u.toNat:Int)) (by simp [u8s,hu])
  exact this⟩⟩
theorem H9.take {w:World} {G:Nat} {a:Option Addr} {cap:Nat} {bs:List UInt8} (h:H9 w G (.slice a bs.length cap) bs) {n:Nat} (hn:n<=bs.length):H9 w G (.slice a n cap) (bs.take n):=by
 obtain ⟨a',c',h1,h2,h3,h4⟩:=h.ex;cases h1
 have hl:(bs.take n).length=n:=by rw [List.length_take];omega
 refine ⟨a,cap,by rw [hl],by rw [hl];omega,h3,fun b hb=> ?_⟩;obtain ⟨off,h5,h6,h7⟩:=h4 b hb;refine ⟨off,h5,h6,fun j u hu=>h7 j u ?_⟩;rw [List.getElem?_take] at hu;split at hu
 ·exact hu
 ·cases hu
theorem b4C (w:World):∃cur:Array Value,cur.size=24/\(Instr.makeSlice 97 (.int .i64 0) (.int .i64 24)).run Tryz.prog w= .ok (.slice (some ⟨w.heap.size,0,none⟩) 0 24) (w.alloc (.cells cur 5)):=by
 obtain ⟨i,hi,h⟩:∃i,Tryz.prog.info? 5=some i/\(i.zero.map (·.cells),i.size,i.bytes)=(some #[.int .u8 0],1,1):=⟨_,rfl,by kernel_rfl⟩;simp only [Prod.mk.injEq] at h;obtain ⟨h1,h2,h3⟩:=h
 cases hz:i.zero with
 |none=>rw [hz] at h1;cases h1
 |some z=>
  have hr:=run_make (P:=Tryz.prog) w 97 5 i z (by kernel_rfl) hi hz .i64 .i64 0 24 (by omega) (by omega) (by rw [h3];omega) (by omega);refine ⟨_, ?_,hr⟩;rw [h2];simp [madeCells]
theorem b22 (w:World) (hw:Lays w) (h64:16<=w.heap.size) (b:Nat) (hb64:b<18446744073709551616):
 Calls Tryz.prog 178 #[.float .f64 b,.int .u8 103,.int .i64 (-1),.int .i64 64] w fun e w'=>e= .returned (.string (str (A2 b)))/\Mod (fun _=>False) w w':=by
 obtain ⟨cur,hc,hmk⟩:=b4C w;obtain ⟨wa,hwa⟩:∃wa:World,w.alloc (.cells cur 5)=wa:=⟨_,rfl⟩;rw [hwa] at hmk;have hma:Mod (fun _=>False) w wa:=hwa▸(Mod.refl (fun _=>False) w).alloc _;have hga:wa.heap[w.heap.size]? =some (.cells cur 5 (0,0)):=hwa▸heap_alloc_new w _;have hza:wa.heap.size=w.heap.size+1:=by rw [<-hwa];simp
 have hbuf:Buf (fun k=>k=w.heap.size) wa wa (.slice (some ⟨w.heap.size,0,none⟩) 0 24) []:=
  ⟨⟨rfl,.inr ⟨w.heap.size,0,24,cur,rfl,hga,by decide,by decide,by omega,rfl⟩⟩,fun k hk=> .inl (Option.some.inj hk).symm,Mod.refl _ _⟩
 have hcall:Calls Tryz.prog 203 #[.slice (some ⟨w.heap.size,0,none⟩) 0 24,.float .f64 b,.int .u8 103,.int .i64 (-1)] wa (a2R (fun k=>k=w.heap.size) wa (A2 b)):=by
  by_cases hf:b / 4503599627370496%2048=2047
  ·exact b0J wa _ _ b hb64 hf hbuf
  exact b2R wa (hw.mod0 hma) _ _ b hb64 (by omega) hbuf (fun g hg h=>by omega) (fun g hg h=>by omega)
 obtain ⟨t,ht⟩:∃t,A2 b=t:=⟨_,rfl⟩;rw [ht] at hcall⊢;obtain ⟨Hmk,Hwa,Hma,Hga,Hcall,Hw,Ht,Hbuf⟩:=zh8 hmk hwa hma hga hcall hw ht hbuf;clear hmk hwa hma hga hcall hw ht hbuf
 go_enter Tryz.func178,Tryz.ntmps178
 go_wp2_with fail
 rw [show (max 3 24:Int)=24 from rfl,Hmk.out]
 go_wp2_with fail
 refine Hcall.out.mono ?_;rintro e w2 ⟨v2,rfl,hb2⟩;have hcv:=b0K hb2.own;have Hb2:=zh hb2;clear hb2
 go_wp2
 go_ret;refine ⟨rfl, ?_⟩;refine Mod.trans Hma.out Hb2.out.mod (fun k hk h=> ?_);omega
theorem a3F (w:World) (hw:Lays w) (h64:16<=w.heap.size) (b:Nat) (hb64:b<18446744073709551616):
 Calls Tryz.prog 136 #[.float .f64 b,.int .u8 103,.int .i64 (-1),.int .i64 64] w fun e w'=>e= .returned (.string (str (A2 b)))/\Mod (fun _=>False) w w':=by
 have hc:=b22 w hw h64 b hb64;obtain ⟨t,ht⟩:∃t,A2 b=t:=⟨_,rfl⟩;rw [ht] at hc⊢;obtain ⟨Hc,Ht,Hw⟩:=zh3 hc ht hw;clear hc ht hw
 go_enter Tryz.func136,Tryz.ntmps136
 go_wp2_with fail
 refine Hc.out.mono ?_;rintro e w2 ⟨rfl,hm⟩
 go_wp2
 go_ret;exact ⟨rfl,hm⟩
def b0L:List UInt8->Option (V×List UInt8)
 |[]=>none
 |k::t=>
  if k.toNat=0 then (if 8<=t.length then some ({V.zero with kind:=0,int:=wrap64 (a6Q (t.take 8):Nat)},t.drop 8) else none)
  else if k.toNat=1 then (if 8<=t.length/\(b4a (a6Q (t.take 8))).2=true then some ({V.zero with kind:=1,num:=(b4a (a6Q (t.take 8))).1},t.drop 8) else none)
  else if k.toNat=2 then (match t with|[]=>none|n::t=>if n.toNat<=t.length/\n.toNat<=40 then some ({V.zero with kind:=2,text:=str (t.take n.toNat)},t.drop n.toNat) else none)
  else if k.toNat=3 then (match t with|[]=>none|n::t=>if n.toNat<=1 then some ({V.zero with kind:=3,yes:=n.toNat==1},t) else none)
  else none
theorem Mod.on {F G:Nat->Prop} {w w' w'':World} (h:Mod F w w') (k:Mod G w' w'') (hG:∀b,G b->F b\/w.heap.size<=b):Mod F w w'':=
 h.trans k fun b hb hg=>(hG b hg).elim id fun h=>by omega
end
end Go.Proofs.YtaenebdppkjhoaaGreatDoor
