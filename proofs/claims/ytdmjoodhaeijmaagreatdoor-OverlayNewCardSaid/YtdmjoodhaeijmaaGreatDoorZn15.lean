/- Lemmas. -/
import Derived.Test.YtdmjoodhaeijmaaGreatDoorZn13
set_option maxHeartbeats 40000000
set_option maxRecDepth 20000
namespace Go.Proofs.YtdmjoodhaeijmaaGreatDoor
section
open Go.RowKit
def txt (s:ByteArray):List UInt8:=s.data.toList
theorem a7x (s:ByteArray):(txt s).length=s.size:=rfl
theorem a0t (P:Program) (w:World) (s:ByteArray):(Builtin.firstCells 1 s.size (.string s)).run P w= .ok (u8s (txt s)).toArray w:=by
 have h:(s.extract 0 s.size).data.map (fun b=>Value.int IntKind.u8 (b.toNat:Int))=(u8s (txt s)).toArray:=by
  apply Array.ext';simp [u8s,txt]
 simp [Builtin.firstCells];simpa using h
theorem a3h {P:Program} (w:World) (t u ty e:TypeId) (i:TypeInfo) (z:Value) (ht:P.underlying t=some (.slice e)) (hu:P.underlying u=some .string) (hi:P.info? e=some i) (hz:i.zero=some z)
 (hsize:i.size=1) (hby:i.bytes=1) (hzs:z.cells.size=1)
 (v:Value) (n:Nat) (xs:List Value) (hown:g7 w e 1 v n xs) (s:ByteArray) (hbytes:n+s.size<=140737488355328) (hmax:n+s.size<=maxLen):
 ∃v' w',(Builtin.append_ #[t,u] ty #[v,.string s]).run P w= .ok v' w'/\g7 w' e 1 v' (n+s.size) (xs++u8s (txt s))/\Mod (inBlock v) w w'/\
  (v'.ownBlock=v.ownBlock\/∃k,v'.ownBlock=some k/\w.heap.size<=k):=by
 have hf:=a0t P w s;have kg:=a0t P w.drew s;have Jb:(u8s (txt s)).length=s.size:=by rw [Z1,a7x]
 have hlen:(xs++u8s (txt s)).length=(n+s.size)*1:=by rw [zz4,hown.1,Jb,Nat.add_mul,Nat.mul_one s.size]
 have h1:∀u∈u8s (txt s),u.oneCell'=true:=fun u hu=>by
  simp only [u8s,List.mem_map] at hu;obtain ⟨b, -,rfl⟩:=hu;rfl
 have grown:∀old,∃w',w'=w.drew.alloc (.cells (xs.toArray++(u8s (txt s)).toArray++Builtin.zeroCells z.cells (grownCap w (n+s.size) old e - (n+s.size))) e)/\
  g7 w' e 1 (.slice (some ⟨w.heap.size,0,none⟩) (n+s.size) (grownCap w (n+s.size) old e)) (n+s.size) (xs++u8s (txt s))/\Mod (inBlock v) w w':=by
  intro old;have hge:=grownCap_ge w (n+s.size) old e;have hcm:grownCap w (n+s.size) old e<=maxLen:=grownCap_le_maxLen w (n+s.size) old e hmax;refine ⟨_,rfl,⟨hlen,.inr ⟨w.heap.size,0,_,_,rfl,heap_alloc_new w.drew _,hge,hcm, ?_, ?_⟩⟩,((Mod.refl _ w).drew).alloc _⟩
  ·simp only [Array.size_append,List.size_toArray,size_zeroCells,hzs,hown.1,Jb];omega
  simp only [Array.toList_append,zz12,List.drop_zero];rw [<-zz12,<-hlen];exact List.take_left
 by_cases hroom:∃a cap,v= .slice a n cap/\n+s.size<=cap
 ·obtain ⟨a,cap,hv,hroom⟩:=hroom;rcases hown.2 with ⟨hv',rfl⟩|⟨g,off,cap',cur,hv',hg,hnc,hcm,hs,htk⟩
  ·rw [hv'] at hv;cases hv;have hm:s.size=0:=zo
   have hxs:xs=[]:=List.eq_nil_of_length_eq_zero (by simpa using hown.1);have hns:u8s (txt s)=[]:=List.eq_nil_of_length_eq_zero zo;subst hxs hv';refine ⟨.slice none 0 0,w, ?_,by rw [hns,hm];exact g7.nil w e 1,Mod.refl _ _,.inl rfl⟩;rw [hm] at hf;simp [Builtin.append_,run_underlying ht,run_underlying hu,sizeOf,typeInfo,hi,Builtin.lenOf,hm,hsize,hf]
  rw [hv'] at hv;cases hv;subst hv'
  have hfit:off+n+(u8s (txt s)).length<=cur.size:=by
   rw [Jb];omega
  have hst:=run_storeCells_at P g (off+n) e (u8s (txt s)) 0 cur w hg (by simpa using hfit) h1;simp only [Nat.add_zero] at hst
  refine ⟨.slice (some ⟨g,off,none⟩) (n+s.size) cap,w.setRow g (cur.toList.take (off+n)++u8s (txt s)++cur.toList.drop (off+n+(u8s (txt s)).length)).toArray, ?_,
   ⟨hlen,.inr ⟨g,off,cap,_,rfl,setRow_heap w g cur _ e _ hg,hroom,hcm, ?_, ?_⟩⟩,(Mod.refl (inBlock (.slice (some ⟨g,off,none⟩) n cap)) w).setRow (g:=g) (fun _=>by simp [inBlock,Value.ownBlock]) _,.inl rfl⟩
  ·simp [Builtin.append_,run_underlying ht,run_underlying hu,sizeOf,typeInfo,hi,Builtin.lenOf,hroom,hsize,hf,T3,hst]
  ·simp only [List.size_toArray,zz4,List.length_take,List.length_drop,Array.length_toList];omega
  have hcl:off+n<=cur.toList.length:=by rw [Array.length_toList];omega
  have e1:List.drop off (List.take (off+n) cur.toList)=xs:=by
   rw [List.drop_take,show off+n - off=n*1 from zo];exact htk
  rw [zz12,List.drop_append_of_le_length (by rw [List.length_take];omega),e1,<-zz12,<-hlen];exact List.take_left
 obtain ⟨a,cap,hv,hle⟩:=hown.shape
 have hcap:cap<n+s.size:=by
  rcases Nat.lt_or_ge cap (n+s.size) with h|h
  ·exact h
  exact absurd ⟨a,cap,hv,h⟩ hroom
 have h0:0<s.size:=zo
 obtain ⟨w'',hw'',h2,h3⟩:=grown cap;refine ⟨_,w'', ?_,h2,h3,.inr ⟨w.heap.size,rfl,Nat.le_refl _⟩⟩;subst hw'';rcases hown.2 with ⟨hv',rfl⟩|⟨g',off',cap',cur,hv',hg,hnc,hcm,hs,htk⟩
 ·rw [hv'] at hv;cases hv;have hxs:xs=[]:=List.eq_nil_of_length_eq_zero (by simpa using hown.1);subst hxs;rw [hv']
  have hfx:(s.data.map (fun b=>Value.int IntKind.u8 (b.toNat:Int)))=(u8s (txt s)).toArray:=by
   apply Array.ext';simp [u8s,txt]
  have:=run_append_nil_string (P:=P) (w:=w) t u ty e i z ht hu hi hz s h0 (by simp only [maxLen] at hmax;omega) (by rw [hby];omega);rw [hfx] at this;simpa only [Nat.zero_add,Array.empty_append] using this
 rw [hv'] at hv;cases hv;rw [hv'];have hrd:=hown.rd;obtain ⟨_,a2,c2,hv2,_,_,hcc⟩:=hrd;rw [hv'] at hv2;cases hv2
 have hcc:∀(j:Nat) (u:Value),xs[j]? =some u->w.cell? ⟨g',off'+j,none⟩=some u:=fun j u hu=>by
  have hn0:0<n:=by have:=(zz6 hu).1;have:=hown.1;omega
  obtain ⟨g2,off2,he,hcc⟩:=hcc _ rfl hn0;cases he
  exact hcc j u hu
 have hfo:=run_firstCells_some (P:=P) w.drew 1 n ⟨g',off',none⟩ n cap xs hown.1 (fun j u hu=>by rw [T3];exact hcc j u hu);have hn:¬(n+s.size<=cap):=zo
 have h63':¬(9223372036854775807<((n:Int)+(s.size:Int))):=by simp only [maxLen] at hmax;omega
 have h48':¬(281474976710656<Builtin.nextslicecap (n+s.size) cap*i.bytes):=by have:=growslice_fits (bytes:=i.bytes) hcap (by rw [hby];omega);omega
 simp [Builtin.append_,run_underlying ht,run_underlying hu,sizeOf,typeInfo,zeroValue,hi,hz,Builtin.lenOf,hn,h63',h48',Question.forced,hsize,kg,hfo,newRow,grownCap,Array.append_assoc];congr 2;apply Array.ext';simp [List.append_assoc]
theorem a1x {P:Program} {ops:Array Oper} {rest:List Oper} {o:Oper} {a:Act} {w:World} {Q:Exit->Act->World->Prop}
 (hgd:o.guard=none) (s y:Operand) (t u:TypeId) (hop:o.op=Op.call {callee:=Callee.builtin Builtin.append,args:=#[s,y],argTypes:=#[t,u]})
 (e:TypeId) (hT:B7 P t e 1 1) (hu:P.underlying u=some .string)
 (v:Value) (n:Nat) (xs:List Value) (hs:a.eval s=v) (hown:g7 w e 1 v n xs) (x:ByteArray) (hy:a.eval y= .string x)
 (hbytes:n+x.size<=140737488355328) (hmax:n+x.size<=maxLen)
 (hK:∀ad cap w',B9 w e 1 v (n+x.size) (xs++u8s (txt x)) (.slice ad (n+x.size) cap) w'->wpList P ops Q rest (a.put o.dst (.slice ad (n+x.size) cap)) w'):wpList P ops Q (o::rest) a w:=by
 refine wpList_plain hgd fun K hK'=> ?_;obtain ⟨ht,i0,z,hi,hz0,hz1,hz2,hzs⟩:=hT;obtain ⟨v',w',hrun,r1,r2,r3⟩:=a3h (P:=P) w t u o.type e i0 z ht hu hi hz0 hz1 hz2 hzs v n xs hown x hbytes hmax;unfold Oper.wp execOp;simp only [hop,resolve,invoke,builtin,Sem.run_bind,Sem.run_pure,Result.andThen_ok,List.map_toArray,List.map_cons,List.map_nil,hs,hy,hrun];obtain ⟨ad,cap,rfl,_⟩:=r1.shape;exact hK' _ _ (hK ad cap w' ⟨r1,r2,r3⟩)
theorem P6 {w:World} {ops:Array Oper} {rest:List Oper} {a:Act} {Q:Exit->Act->World->Prop} {d:Option Tmp} {tp:TypeId} {pos:String} {af:Array Edge} {at1:Array TypeId} (s:Operand) (x:Value)
 (h:at1=#[76,9]/\∃(F:Nat->Prop) (w0:World) (v:Value) (bs:List UInt8) (z:ByteArray),Buf F w0 w v bs/\a.eval s=v/\x= .string z/\bs.length<=1000000/\z.size<=1000000/\
   ∀ad cap w',Buf F w0 w' (.slice ad (bs.length+z.size) cap) (bs++txt z)->wpList Tryz.prog ops Q rest (a.put d (.slice ad (bs.length+z.size) cap)) w'):
 wpList Tryz.prog ops Q (⟨d,.call {callee:= .builtin .append,args:=#[s,.const x],argTypes:=at1},tp,pos,af,none⟩::rest) a w:=by
 obtain ⟨rfl,F,w0,v,bs,z,hb,hs,rfl,h1,h2,hK⟩:=h;refine a1x rfl s (.const (.string z)) 76 9 rfl 5 a7k zk v bs.length (u8s bs) hs hb.own z rfl zo (by unfold maxLen;omega) fun ad cap w' ha=>hK ad cap w' ?_;have:=hb.put (l:=txt z) (m:=z.size) rfl ha;exact this
theorem b1d (w:World) (F:Nat->Prop) (v:Value) (b:Nat) (iO:b<18446744073709551616) (hfin:b / 4503599627370496%2048=2047) (hb:Buf F w w v []):
 Calls Tryz.prog 218 #[v,.float .f64 b,.int .u8 103,.int .i64 (-1)] w (a3f F w (C1 b)):=by
 obtain ⟨ad,cap,rfl, -⟩:=hb.own.shape;have hs:=a3e b w;obtain ⟨mt,hmt⟩:∃mt,b%4503599627370496=mt:=⟨_,rfl⟩
 have e1:bits .and .i64 ((b:Int) / 4503599627370496) 2047=2047:=by
  have h:=a1O ((b:Int) / 4503599627370496) 11 zd;refine h.trans ?_;show (b:Int) / 4503599627370496%(2048:Int)=_;omega
 have e2:bits .and .u64 (b:Int) 4503599627370495=mt:=by
  have h:=a8D b 52 zd iO;rw [<-hmt];exact h
 have Bo:mt<4503599627370496:=zo
 obtain ⟨t,fM⟩:∃t,C1 b=t:=⟨_,rfl⟩;rw [fM];have hr1:b%2^63 / 2^52=2047:=zo
 have hr2:b%2^52=mt:=zo
 have hb0:=fun n=>hb.also ((Mod.refl (fun _=>False) w).drewN n);by_cases hm:mt=0
 ·have h0:((mt:Int) !=0)=false:=by rw [hm];rfl
  by_cases hn:b / 2^63≠0
  ·have h1:((b:Int) / 9223372036854775808 !=0)=true:=by rw [bne_iff_ne];omega
   have h2:t=[45,73,110,102]:=by rw [<-fM];unfold C1;rw [if_pos hr1,if_neg zo,if_pos hn]
   refine hh8 hb hmt fM hr1 hr2 hm h2 hb0 fun Hb xm rR Ac Bp Hm H2 Hb0=> ?_;clear hb hmt fM hr1 hr2 hm h2 hb0 hn
   go_enter Tryz.func218,Tryz.ntmps218
   go_wp2_with fail
   go_quiet (fail)
   go_wp2_with ((with_reducible refine P6 (.tmp 73) _ ?_);(refine ⟨rfl,F,w,_,_,_,Hb0.out _,rfl,rfl,zd,zd,fun ad1 cap1 w1 hb1=> ?_⟩);have Hb1:=Lib.hid hb1;clear hb1)
   go_ret;exact ⟨_,rfl,by rw [H2.out];exact Hb1.out⟩
  have h1:((b:Int) / 9223372036854775808 !=0)=false:=by rw [bne_eq_false_iff_eq];omega
  have h2:t=[43,73,110,102]:=by rw [<-fM];unfold C1;rw [if_pos hr1,if_neg zo,if_neg hn]
  refine hh8 hb hmt fM hr1 hr2 hm h2 hb0 fun Hb xm rR Ac Bp Hm H2 Hb0=> ?_;clear hb hmt fM hr1 hr2 hm h2 hb0 hn
  go_enter Tryz.func218,Tryz.ntmps218
  go_wp2_with fail
  go_quiet (fail)
  go_wp2_with ((with_reducible refine P6 (.tmp 75) _ ?_);(refine ⟨rfl,F,w,_,_,_,Hb0.out _,rfl,rfl,zd,zd,fun ad1 cap1 w1 hb1=> ?_⟩);have Hb1:=Lib.hid hb1;clear hb1)
  go_ret;exact ⟨_,rfl,by rw [H2.out];exact Hb1.out⟩
 have h0:((mt:Int) !=0)=true:=by rw [bne_iff_ne];omega
 have h2:t=[78,97,78]:=by rw [<-fM];unfold C1;rw [if_pos hr1,if_pos zo]
 refine hh8 hb hmt fM hr1 hr2 hm h2 hb0 fun Hb xm rR Ac Bp Hm H2 Hb0=> ?_;clear hb hmt fM hr1 hr2 hm h2 hb0
 go_enter Tryz.func218,Tryz.ntmps218
 go_wp2_with fail
 go_quiet (fail)
 go_wp2_with ((with_reducible refine P6 (.tmp 70) _ ?_);(refine ⟨rfl,F,w,_,_,_,Hb0.out _,rfl,rfl,zd,zd,fun ad1 cap1 w1 hb1=> ?_⟩);have Hb1:=Lib.hid hb1;clear hb1)
 go_ret;exact ⟨_,rfl,by rw [H2.out];exact Hb1.out⟩
theorem g7.ne {w:World} {e:TypeId} {sz n:Nat} {v:Value} {xs:List Value} (h:g7 w e sz v n xs) {c:Array Value} {f:TypeId} {x:Nat×Nat} {j:Nat} (hj:w.heap[j]? =some (.cells c f x)) (hne:e≠f):∀k,inBlock v k->k≠j:=by
 rintro k hk rfl;obtain ⟨cur,hc⟩:=h.elem k hk;rw [hc] at hj;cases hj
 exact hne rfl
section
variable {w w' w'':World} {p:Nat} {v v' v'':Value} {bs:List UInt8}
end
theorem a1d:B7 Tryz.prog 29 3 1 8:=I8 zk zk
theorem l5 {P:Program} {o:Oper} {a:Act} {w:World} {K:Act->World->Prop} {Q:Exit->Act->World->Prop}
 (s y:Operand) (t:TypeId) (hop:o.op=Op.call {callee:=Callee.builtin Builtin.append,args:=#[s,y],argTypes:=#[t,t]})
 (e:TypeId) (sz bytes:Nat) (hT:B7 P t e sz bytes)
 (v:Value) (n:Nat) (xs:List Value) (hs:a.eval s=v) (hown:g7 w e sz v n xs) (x:Value) (m:Nat) (news:List Value) (hy:a.eval y=x) (hx:i8 w sz x m news) (h1:∀u∈news,u.oneCell'=true)
 (hbytes:(n+m)*bytes<=140737488355328) (hmax:n+m<=maxLen)
 (hK:∀ad cap w',B9 w e sz v (n+m) (xs++news) (.slice ad (n+m) cap) w'->K (a.put o.dst (.slice ad (n+m) cap)) w'):o.wp P a w K Q:=by
 obtain ⟨ht,i0,z,hi,hz0,hz1,hz2,hzs⟩:=hT;obtain ⟨v',w',hrun,r1,r2,r3⟩:=W6 (P:=P) w t o.type e i0 z sz bytes ht hi hz0 hz1 hz2 hzs v n xs hown x m news hx h1 hbytes hmax;unfold Oper.wp execOp;simp only [hop,resolve,invoke,builtin,Sem.run_bind,Sem.run_pure,Result.andThen_ok,List.map_toArray,List.map_cons,List.map_nil,hs,hy,hrun];obtain ⟨ad,cap,rfl,_⟩:=r1.shape;exact hK ad cap w' ⟨r1,r2,r3⟩
end
open Go.RowKit
theorem b1e {w:World} {v:Value} {bs:List UInt8} {e:TypeId} (h:g7 w e 1 v bs.length (u8s bs)):(convert 76 9 v).run Tryz.prog w= .ok (.string (str bs)) w:=by
 have hrd:=h.rd;rcases h.2 with ⟨rfl,h0⟩|⟨g,off,cap,cur,rfl, -⟩
 ·obtain rfl:bs=[]:=List.eq_nil_of_length_eq_zero h0;exact b1t
 obtain ⟨-,a,c,h1, -, -,h4⟩:=hrd;cases h1
 refine a7F rfl (fun j u hu=> ?_);obtain ⟨g',off',h5,h6⟩:=h4 _ rfl (by have:=(zz6 hu).1;omega);cases h5
 exact h6 j _ (by simp [u8s,hu])
theorem b5B (w:World):∃cur:Array Value,cur.size=24/\(Instr.makeSlice 76 (.int .i64 0) (.int .i64 24)).run Tryz.prog w= .ok (.slice (some ⟨w.heap.size,0,none⟩) 0 24) (w.alloc (.cells cur 5)):=by
 obtain ⟨i,hi,h⟩:∃i,Tryz.prog.info? 5=some i/\(i.zero.map (·.cells),i.size,i.bytes)=(some #[.int .u8 0],1,1):=⟨_,rfl,zk⟩;simp only [Prod.mk.injEq] at h;obtain ⟨h1,h2,h3⟩:=h
 cases hz:i.zero with
 |none=>rw [hz] at h1;cases h1
 |some z=>
  have hr:=run_make (P:=Tryz.prog) w 76 5 i z zk hi hz .i64 .i64 0 24 zo zo (by rw [h3];omega) zo;refine ⟨_, ?_,hr⟩;rw [h2];simp [madeCells]
theorem b3M (w:World) (hw:Lays w) (h64:16<=w.heap.size) (b:Nat) (iO:b<18446744073709551616):
 Calls Tryz.prog 190 #[.float .f64 b,.int .u8 103,.int .i64 (-1),.int .i64 64] w fun e w'=>e= .returned (.string (str (C1 b)))/\Mod (fun _=>False) w w':=by
 obtain ⟨cur,hc,hmk⟩:=b5B w;obtain ⟨wa,ak⟩:∃wa:World,w.alloc (.cells cur 5)=wa:=⟨_,rfl⟩;rw [ak] at hmk;have ko:Mod (fun _=>False) w wa:=ak▸(Mod.refl (fun _=>False) w).alloc _;have hga:wa.heap[w.heap.size]? =some (.cells cur 5 (0,0)):=ak▸heap_alloc_new w _;have hza:wa.heap.size=w.heap.size+1:=by rw [<-ak];simp
 have hbuf:Buf (fun k=>k=w.heap.size) wa wa (.slice (some ⟨w.heap.size,0,none⟩) 0 24) []:=
  ⟨⟨rfl,.inr ⟨w.heap.size,0,24,cur,rfl,hga,zd,zd,zo,rfl⟩⟩,fun k hk=> .inl (Option.some.inj hk).symm,Mod.refl _ _⟩
 have hcall:Calls Tryz.prog 218 #[.slice (some ⟨w.heap.size,0,none⟩) 0 24,.float .f64 b,.int .u8 103,.int .i64 (-1)] wa (a3f (fun k=>k=w.heap.size) wa (C1 b)):=by
  by_cases hf:b / 4503599627370496%2048=2047
  ·exact b1d wa _ _ b iO hf hbuf
  exact b3H wa (hw.mod0 ko) _ _ b iO zo hbuf (fun g hg h=>zo) (fun g hg h=>zo)
 obtain ⟨t,ht⟩:∃t,C1 b=t:=⟨_,rfl⟩;rw [ht] at hcall⊢;refine hh8 hmk ak ko hga hcall hw ht hbuf fun nO aB Ae ku Br Hw Ht QQ=> ?_;clear hmk ak ko hga hcall hw ht hbuf
 go_enter Tryz.func190,Tryz.ntmps190
 go_wp2_with fail
 rw [show (max 3 24:Int)=24 from rfl,nO.out]
 go_wp2_with fail
 refine Br.out.mono ?_;rintro e w2 ⟨v2,rfl,hb2⟩;have hcv:=b1e hb2.own;have Hb2:=zh hb2;clear hb2
 go_wp2
 go_ret;refine ⟨rfl, ?_⟩;refine Mod.trans Ae.out Hb2.out.mod (fun k hk h=> ?_);omega
theorem a38 (w:World) (hw:Lays w) (h64:16<=w.heap.size) (b:Nat) (iO:b<18446744073709551616):
 Calls Tryz.prog 163 #[.float .f64 b,.int .u8 103,.int .i64 (-1),.int .i64 64] w fun e w'=>e= .returned (.string (str (C1 b)))/\Mod (fun _=>False) w w':=by
 have hc:=b3M w hw h64 b iO;obtain ⟨t,ht⟩:∃t,C1 b=t:=⟨_,rfl⟩;rw [ht] at hc⊢;refine hh3 hc ht hw fun Hc Ht Hw=> ?_;clear hc ht hw
 go_enter Tryz.func163,Tryz.ntmps163
 go_wp2_with fail
 refine Hc.out.mono ?_;rintro e w2 ⟨rfl,hm⟩
 go_wp2
 go_ret;exact ⟨rfl,hm⟩
theorem a0u (bs:List UInt8):(str bs).size=bs.length:=by
 show (str bs).data.size=bs.length;simp [str]
end Go.Proofs.YtdmjoodhaeijmaaGreatDoor
