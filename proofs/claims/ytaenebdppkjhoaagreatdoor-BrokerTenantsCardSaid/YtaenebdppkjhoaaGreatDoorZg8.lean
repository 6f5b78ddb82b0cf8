/- Lemmas. -/
import Derived.Test.YtaenebdppkjhoaaGreatDoorZg7
namespace Go.Proofs.YtaenebdppkjhoaaGreatDoor
set_option maxRecDepth 20000
set_option maxHeartbeats 40000000
section
open Go.RowKit
def X4 (l:List Cnd):Nat:=(l.map fun c=>c.name.size+c.v.text.size).sum
theorem a7W (l:List Cnd) (c:Cnd):X4 (l++[c])=X4 l+(c.name.size+c.v.text.size):=by unfold X4;simp
theorem a4v {l:List Cnd} {c:Cnd} (h:c∈l):c.name.size+c.v.text.size<=X4 l:=by
 unfold X4
 induction l with
 |nil=>cases h
 |cons a l ih=>
  rw [List.map_cons,List.sum_cons];rcases List.mem_cons.1 h with rfl|h
  ·omega
  have:=ih h;omega
theorem b2v {l:List Cnd} {B:Nat} (h:∀c∈l,c.name.size<=B/\c.v.text.size<=B):X4 l<=l.length*(2*B):=by
 unfold X4
 induction l with
 |nil=>simp
 |cons a l ih=>
  rw [List.map_cons,List.sum_cons,zz9,Nat.add_mul];have h1:=ih (fun c hc=>h c (List.mem_cons_of_mem _ hc));have h2:=h a (List.mem_cons_self ..);omega
structure a47 (sc:ByteArray) (l:List Cnd):Prop where
 len:l.length<=20
 sum:sc.size+X4 l<=2000
def a7X (w:World) (sc:ByteArray) (l:List Cnd) (e:Ending) (w':World):Prop:=∃b,e= .returned (.bool b)/\(b=true->a47 sc l)/\Mod (fun _=>False) w w'
theorem a0o {x:Int} (h1: -9223372036854775808<=x) (h2:x<=9223372036854775807):wrap64 x=x:=by
 simp only [wrap64];omega
theorem a9Z {n A s t:Int} {k:Nat} (hn:n=k) (hk:k<=4000000000000000000) (hs:0<=s/\s<=140737488355328) (ht:0<=t/\t<=140737488355328) (hA:A=wrap64 (n+wrap64 (s+t))):A=k+(s+t):=by
 rw [hA,a0o (x:=s+t) (by omega) (by omega),hn,a0o (by omega) (by omega)]
theorem a2e (w:World) (sc:ByteArray) (cv:Value) (l:List Cnd) (hv:j0 w 7 cv l.length (l6 l)) (hll:l.length<=9223372036854775807) (hs:sc.size<=140737488355328) (hc:∀c∈l,c.name.size<=140737488355328/\c.v.text.size<=140737488355328):
 Calls Tryz.prog 46 #[.agg #[.string sc,cv]] w (a7X w sc l):=by
 obtain ⟨a,cap,rfl,hcap⟩:∃a c,cv= .slice a l.length c/\l.length<=c:=by obtain ⟨-,a,c,h,h2, -⟩:=hv;exact ⟨a,c,h,h2⟩
 have hll':(l.length:Int)<=9223372036854775807:=by omega
 have hcap':(l.length:Int)<=cap:=by omega
 obtain ⟨wa,hwa,hmwa,hgwa,hzwa⟩:=e8 w (.cells #[.string sc,.slice a l.length cap] 33);have hva:=hv.mod hmwa (fun _ _ h=>h);have c0:wa.cell? ⟨w.heap.size,0,none⟩=some (.string sc):=d6 hgwa rfl;have c1:wa.cell? ⟨w.heap.size,1,none⟩=some (.slice a l.length cap):=d6 hgwa rfl;have hqz:w.heap.size<wa.heap.size:=by omega
 obtain ⟨Hv,Hwa,Hmwa,Hgwa,Hva,Hc⟩:=zh6 hv hwa hmwa hgwa hva hc;clear hv hwa hmwa hgwa hva hc hzwa hll
 go_enter Tryz.func46,Tryz.ntmps46
 go_wp2_with (first|(rw [show w.alloc _=wa from Hwa.out])|fail)
 go_loopw [3,12] (fun n i wr=>∃(j:Nat) (x:Int),n= .int .i64 x/\i= .int .i64 j/\j<=l.length/\(j<=20->x=((sc.size+X4 (l.take j):Nat):Int))/\Mod (fun _=>False) wa wr) (fun _ i _=>l.length - (intOf i).toNat)
 case atStart=>exact ⟨0,_,rfl,rfl,Nat.zero_le _,fun _=>by simp [X4],Mod.refl _ _⟩
 case round=>
  obtain ⟨j,n,rfl,rfl,hj,hsum,hmr⟩:=hrel;by_cases hlt:j<l.length
  ·have hlt':(j:Int)<l.length:=by omega
   obtain ⟨x,hxj⟩:∃x,l[j]? =some x:=⟨_,zz5 hlt⟩;obtain ⟨g,off,rfl,hf⟩:∃g off,a=some ⟨g,off,none⟩/\e7 wr g (off+j*7) x.cells:=J2 (Hva.out.mod hmr (fun _ _ h=>h)) hxj;obtain ⟨wz,hwz,hmwz,hgwz,hzwz⟩:=e8 wr (.cells x.cells.toArray 132);have hmz:=hmr.trans hmwz (fun _ _ h=>h);have b0:wz.cell? ⟨wr.heap.size,0,none⟩=some (.string x.name):=d6 hgwz rfl;have b5:wz.cell? ⟨wr.heap.size,5,none⟩=some (.string x.v.text):=d6 hgwz rfl
   have hnx:j+1<=20->∀A:Int,A=wrap64 (n+wrap64 ((x.name.size:Int)+x.v.text.size))->A=((sc.size+X4 (l.take (j+1)):Nat):Int):=fun h20 A hA=>by
    have h1:=hsum (by omega);have h2:=Hc.out x (zz8 hxj);have h3:X4 (l.take j)<=(l.take j).length*(2*140737488355328):=b2v fun c hc=>Hc.out c (List.mem_of_mem_take hc);have h4:(l.take j).length<=20:=by rw [List.length_take];omega
    have h5:(l.take j).length*(2*140737488355328)<=20*(2*140737488355328):=Nat.mul_le_mul_right _ h4;have h6:=a9Z h1 (by omega) ⟨by omega,by omega⟩ ⟨by omega,by omega⟩ hA;rw [h6,List.take_add_one,hxj,Option.toList_some,a7W];omega
   obtain ⟨Hmr,Hxj,Hf,Hwz,Hmwz,Hgwz,Hmz,Hnx,Hsum⟩:=zh9 hmr hxj hf hwz hmwz hgwz hmz hnx hsum;clear hmr hxj hf hwz hmwz hgwz hmz hnx hsum hzwz c0 c1
   go_wp2_with (first|((with_reducible refine d9 132 (.tmp 14) ?_);refine ⟨g,off+j*7,rfl,x.cells,Hf.out,by kernel_rfl,by kernel_rfl, ?_⟩)|((with_reducible refine d8 132 (.tmp 5) (.tmp 15) ?_);refine ⟨rfl,x.cells,rfl,rfl,by kernel_rfl,rfl, ?_⟩;rw [Hwz.out])|fail)
   go_roundw
   case rel=>exact ⟨j+1,_,rfl,by go_num,hlt,fun h20=>Hnx.out h20 _ rfl,Hmz.out⟩
   case measure=>simp [intOf];omega
  obtain rfl:j=l.length:=by omega
  have hgr:=hmr.heap Hgwa.out (fun h=>h);have c1:wr.cell? ⟨w.heap.size,1,none⟩=some (.slice a l.length cap):=d6 hgr rfl;have Hm:=Lib.hid (Hmwa.out.trans hmr (fun _ _ h=>h));rw [List.take_length] at hsum;have Hsum:=zh hsum;clear hmr hgr hsum;by_cases hn:n<=2000
  ·go_wp2
   go_ret;refine ⟨_,rfl,fun hb=> ?_,Hm.out⟩
   have h20:l.length<=20:=by
    have h2:(l.length:Int)<=20:=by simpa using hb
    omega
   have:=Hsum.out h20;exact ⟨h20,by omega⟩
  have hn':2000<n:=by omega
  clear hn
  go_wp2
  go_ret;exact ⟨false,rfl,(fun h=>by cases h),Hm.out⟩
structure a48 (r:Ru):Prop where
 who:r.who.size+r.name.size<=200
 fil:a47 r.sc r.cs
def a5a (w:World) (l:List Ru) (e:Ending) (w':World):Prop:=∃b,e= .returned (.bool b)/\(b=true->l.length<=80/\∀r∈l,a48 r)/\Mod (fun _=>False) w w'
theorem a6o (w:World) (v:Value) (l:List Ru) (hv:K8 w v l) (hll:l.length<=9223372036854775807)
 (hs:∀r∈l,r.who.size<=140737488355328/\r.name.size<=140737488355328/\r.sc.size<=140737488355328/\∀c∈r.cs,c.name.size<=140737488355328/\c.v.text.size<=140737488355328):
 Calls Tryz.prog 10 #[v] w (a5a w l):=by
 obtain ⟨a,cap,rfl,hcap⟩:∃a c,v= .slice a l.length c/\l.length<=c:=by obtain ⟨-,a,c,h,h2, -⟩:=hv.rd;exact ⟨a,c,h,h2⟩
 have hll':(l.length:Int)<=9223372036854775807:=by omega
 have hcap':(l.length:Int)<=cap:=by omega
 obtain ⟨Hv,Hs⟩:=zh2 hv hs;clear hv hs hll
 go_enter Tryz.func10,Tryz.ntmps10
 go_wp2_with fail
 go_loopw [7] (fun i wr=>∃j:Nat,i= .int .i64 j/\j<=l.length/\(∀x∈l.take j,a48 x)/\Mod (fun _=>False) w wr) (fun i _=>l.length - (intOf i).toNat)
 case atStart=>exact ⟨0,rfl,Nat.zero_le _,fun x h=>by simp at h,Mod.refl _ _⟩
 case round=>
  obtain ⟨j,rfl,hj,hall,hmr⟩:=hrel;by_cases hlt:j<l.length
  ·have hlt':(j:Int)<l.length:=by omega
   obtain ⟨x,hxj⟩:∃x,l[j]? =some x:=⟨_,zz5 hlt⟩;have hxm:=zz8 hxj;have hsx:=Hs.out x hxm;have hok:=(Hv.out.mod hmr).ok x hxm;obtain ⟨g,off,rfl,hf⟩:∃g off,a=some ⟨g,off,none⟩/\e7 wr g (off+j*8) x.cells:=L0 (Hv.out.mod hmr) hxj;obtain ⟨wz,hwz,hmwz,hgwz,hzwz⟩:=e8 wr (.cells x.cells.toArray 35);have hmz:=hmr.trans hmwz (fun _ _ h=>h);have b2:wz.cell? ⟨wr.heap.size,2,none⟩=some (.string x.who):=d6 hgwz rfl;have b4:wz.cell? ⟨wr.heap.size,4,none⟩=some (.string x.sc):=d6 hgwz rfl;have b5:wz.cell? ⟨wr.heap.size,5,none⟩=some (.slice x.ca x.cs.length x.cc):=d6 hgwz rfl;have b6:wz.cell? ⟨wr.heap.size,6,none⟩=some (.string x.name):=d6 hgwz rfl;have hl7:=a2e wz x.sc x.cv x.cs (hok.mod hmwz).rd (by have:=hok.len;omega) hsx.2.2.1 hsx.2.2.2;have hwr:wrap64 ((x.who.size:Int)+x.name.size)=(x.who.size:Int)+x.name.size:=a0o (by omega) (by omega);obtain ⟨A,hA⟩:∃A:Int,wrap64 ((x.who.size:Int)+x.name.size)=A:=⟨_,rfl⟩
   have hnx:A<=200->a47 x.sc x.cs->∀y∈l.take (j+1),a48 y:=fun hq hF y hy=>by
    rw [List.take_add_one,hxj] at hy;rcases zz14 hy with hy|hy
    ·exact hall y hy
    obtain rfl:y=x:=by simpa using hy
    exact ⟨by omega,hF⟩
   obtain ⟨Hmr,Hxj,Hxm,Hsx,Hf,Hwz,Hmwz,Hgwz,Hmz,Hl7,Hnx,Hwr⟩:=zh12 hmr hxj hxm hsx hf hwz hmwz hgwz hmz hl7 hnx hwr;clear hmr hxj hxm hsx hf hwz hmwz hgwz hmz hl7 hnx hwr hzwz hok hall;by_cases hq:A<=200
   ·go_wp2_with (first|((with_reducible refine d9 35 (.tmp 9) ?_);refine ⟨g,off+j*8,rfl,x.cells,Hf.out,by kernel_rfl,by kernel_rfl, ?_⟩)|((with_reducible refine d8 35 (.tmp 4) (.tmp 10) ?_);refine ⟨rfl,x.cells,rfl,rfl,by kernel_rfl,rfl, ?_⟩;rw [Hwz.out])|fail)
    refine Hl7.out.mono ?_;rintro e w3 ⟨b,rfl,hbf,hm3⟩;have Hm3:=Lib.hid (Hmz.out.trans hm3 (fun _ _ h=>h));clear hm3 b2 b4 b5 b6
    cases b with
    |true=>
     have hny:=Hnx.out hq (hbf rfl);have Hny:=zh hny;clear hny hbf
     go_wp2_with fail
     go_roundw
     case rel=>exact ⟨j+1,by go_num,hlt,Hny.out,Hm3.out⟩
     case measure=>simp [intOf];omega
    |false=>
     clear hbf
     go_wp2
     go_ret;exact ⟨false,rfl,(fun h=>by cases h),Hm3.out⟩
   have hq':200<A:=by omega
   clear hq
   go_wp2_with (first|((with_reducible refine d9 35 (.tmp 9) ?_);refine ⟨g,off+j*8,rfl,x.cells,Hf.out,by kernel_rfl,by kernel_rfl, ?_⟩)|((with_reducible refine d8 35 (.tmp 4) (.tmp 10) ?_);refine ⟨rfl,x.cells,rfl,rfl,by kernel_rfl,rfl, ?_⟩;rw [Hwz.out])|fail)
   go_ret;exact ⟨false,rfl,(fun h=>by cases h),Hmz.out⟩
  obtain rfl:j=l.length:=by omega
  rw [List.take_length] at hall;obtain ⟨Hm,Hall⟩:=zh2 hmr hall;clear hmr hall
  go_wp2
  go_ret;refine ⟨_,rfl,fun h=>⟨?_,Hall.out⟩,Hm.out⟩;have h2:(l.length:Int)<=80:=by simpa using h
  omega
def txt (s:ByteArray):List UInt8:=s.data.toList
theorem a7Y (s:ByteArray):(txt s).length=s.size:=rfl
theorem Z8 (P:Program) (w:World) (s:ByteArray):(Builtin.firstCells 1 s.size (.string s)).run P w= .ok (u8s (txt s)).toArray w:=by
 have h:(s.extract 0 s.size).data.map (fun b=>Value.int IntKind.u8 (b.toNat:Int))=(u8s (txt s)).toArray:=by
  apply Array.ext';simp [u8s,txt]
 simp [Builtin.firstCells];simpa using h
theorem a3z {P:Program} (w:World) (t u ty e:TypeId) (i:TypeInfo) (z:Value) (ht:P.underlying t=some (.slice e)) (hu:P.underlying u=some .string) (hi:P.info? e=some i) (hz:i.zero=some z)
 (hsize:i.size=1) (hby:i.bytes=1) (hzs:z.cells.size=1)
 (v:Value) (n:Nat) (xs:List Value) (hown:i7 w e 1 v n xs) (s:ByteArray) (hbytes:n+s.size<=140737488355328) (hmax:n+s.size<=maxLen):
 ∃v' w',(Builtin.append_ #[t,u] ty #[v,.string s]).run P w= .ok v' w'/\i7 w' e 1 v' (n+s.size) (xs++u8s (txt s))/\Mod (j1 v) w w'/\
  (v'.ownBlock=v.ownBlock\/∃k,v'.ownBlock=some k/\w.heap.size<=k):=by
 have hf:=Z8 P w s;have hfd:=Z8 P w.drew s;have hul:(u8s (txt s)).length=s.size:=by rw [V5,a7Y]
 have hlen:(xs++u8s (txt s)).length=(n+s.size)*1:=by rw [zz4,hown.1,hul,Nat.add_mul,Nat.mul_one s.size]
 have h1:∀u∈u8s (txt s),u.oneCell'=true:=fun u hu=>by
  simp only [u8s,List.mem_map] at hu;obtain ⟨b, -,rfl⟩:=hu;rfl
 have grown:∀old,∃w',w'=w.drew.alloc (.cells (xs.toArray++(u8s (txt s)).toArray++Builtin.zeroCells z.cells (grownCap w (n+s.size) old e - (n+s.size))) e)/\
  i7 w' e 1 (.slice (some ⟨w.heap.size,0,none⟩) (n+s.size) (grownCap w (n+s.size) old e)) (n+s.size) (xs++u8s (txt s))/\Mod (j1 v) w w':=by
  intro old;have hge:=grownCap_ge w (n+s.size) old e;have hcm:grownCap w (n+s.size) old e<=maxLen:=grownCap_le_maxLen w (n+s.size) old e hmax;refine ⟨_,rfl,⟨hlen,.inr ⟨w.heap.size,0,_,_,rfl,heap_alloc_new w.drew _,hge,hcm, ?_, ?_⟩⟩,((Mod.refl _ w).drew).alloc _⟩
  ·simp only [Array.size_append,List.size_toArray,size_zeroCells,hzs,hown.1,hul];omega
  simp only [Array.toList_append,zz12,List.drop_zero];rw [<-zz12,<-hlen];exact List.take_left
 by_cases hroom:∃a cap,v= .slice a n cap/\n+s.size<=cap
 ·obtain ⟨a,cap,hv,hroom⟩:=hroom;rcases hown.2 with ⟨hv',rfl⟩|⟨g,off,cap',cur,hv',hg,hnc,hcm,hs,htk⟩
  ·rw [hv'] at hv;cases hv;have hm:s.size=0:=by omega
   have hxs:xs=[]:=List.eq_nil_of_length_eq_zero (by simpa using hown.1);have hns:u8s (txt s)=[]:=List.eq_nil_of_length_eq_zero (by omega);subst hxs hv';refine ⟨.slice none 0 0,w, ?_,by rw [hns,hm];exact i7.nil w e 1,Mod.refl _ _,.inl rfl⟩;rw [hm] at hf;simp [Builtin.append_,run_underlying ht,run_underlying hu,sizeOf,typeInfo,hi,Builtin.lenOf,hm,hsize,hf]
  rw [hv'] at hv;cases hv;subst hv'
  have hfit:off+n+(u8s (txt s)).length<=cur.size:=by
   rw [hul];omega
  have hst:=run_storeCells_at P g (off+n) e (u8s (txt s)) 0 cur w hg (by simpa using hfit) h1;simp only [Nat.add_zero] at hst
  refine ⟨.slice (some ⟨g,off,none⟩) (n+s.size) cap,w.setRow g (cur.toList.take (off+n)++u8s (txt s)++cur.toList.drop (off+n+(u8s (txt s)).length)).toArray, ?_,
   ⟨hlen,.inr ⟨g,off,cap,_,rfl,setRow_heap w g cur _ e _ hg,hroom,hcm, ?_, ?_⟩⟩,(Mod.refl (j1 (.slice (some ⟨g,off,none⟩) n cap)) w).setRow (g:=g) (fun _=>by simp [j1,Value.ownBlock]) _,.inl rfl⟩
  ·simp [Builtin.append_,run_underlying ht,run_underlying hu,sizeOf,typeInfo,hi,Builtin.lenOf,hroom,hsize,hf,t7,hst]
  ·simp only [List.size_toArray,zz4,List.length_take,List.length_drop,Array.length_toList];omega
  have hcl:off+n<=cur.toList.length:=by rw [Array.length_toList];omega
  have e1:List.drop off (List.take (off+n) cur.toList)=xs:=by
   rw [List.drop_take,show off+n - off=n*1 from by omega];exact htk
  rw [zz12,List.drop_append_of_le_length (by rw [List.length_take];omega),e1,<-zz12,<-hlen];exact List.take_left
 obtain ⟨a,cap,hv,hle⟩:=hown.shape
 have hcap:cap<n+s.size:=by
  rcases Nat.lt_or_ge cap (n+s.size) with h|h
  ·exact h
  exact absurd ⟨a,cap,hv,h⟩ hroom
 have h0:0<s.size:=by omega
 obtain ⟨w'',hw'',h2,h3⟩:=grown cap;refine ⟨_,w'', ?_,h2,h3,.inr ⟨w.heap.size,rfl,Nat.le_refl _⟩⟩;subst hw'';rcases hown.2 with ⟨hv',rfl⟩|⟨g',off',cap',cur,hv',hg,hnc,hcm,hs,htk⟩
 ·rw [hv'] at hv;cases hv;have hxs:xs=[]:=List.eq_nil_of_length_eq_zero (by simpa using hown.1);subst hxs;rw [hv']
  have hfx:(s.data.map (fun b=>Value.int IntKind.u8 (b.toNat:Int)))=(u8s (txt s)).toArray:=by
   apply Array.ext';simp [u8s,txt]
  have:=run_append_nil_string (P:=P) (w:=w) t u ty e i z ht hu hi hz s h0 (by simp only [maxLen] at hmax;omega) (by rw [hby];omega);rw [hfx] at this;simpa only [Nat.zero_add,Array.empty_append] using this
 rw [hv'] at hv;cases hv;rw [hv'];have hrd:=hown.rd;obtain ⟨_,a2,c2,hv2,_,_,hcc⟩:=hrd;rw [hv'] at hv2;cases hv2
 have hcc:∀(j:Nat) (u:Value),xs[j]? =some u->w.cell? ⟨g',off'+j,none⟩=some u:=fun j u hu=>by
  have hn0:0<n:=by have:=(zz6 hu).1;have:=hown.1;omega
  obtain ⟨g2,off2,he,hcc⟩:=hcc _ rfl hn0;cases he
  exact hcc j u hu
 have hfo:=run_firstCells_some (P:=P) w.drew 1 n ⟨g',off',none⟩ n cap xs hown.1 (fun j u hu=>by rw [t7];exact hcc j u hu);have hn:¬(n+s.size<=cap):=by omega
 have h63':¬(9223372036854775807<((n:Int)+(s.size:Int))):=by simp only [maxLen] at hmax;omega
 have h48':¬(281474976710656<Builtin.nextslicecap (n+s.size) cap*i.bytes):=by have:=growslice_fits (bytes:=i.bytes) hcap (by rw [hby];omega);omega
 simp [Builtin.append_,run_underlying ht,run_underlying hu,sizeOf,typeInfo,zeroValue,hi,hz,Builtin.lenOf,hn,h63',h48',Question.forced,hsize,hfd,hfo,newRow,grownCap,Array.append_assoc];congr 2;apply Array.ext';simp [List.append_assoc]
theorem a1s {P:Program} {ops:Array Oper} {rest:List Oper} {o:Oper} {a:Act} {w:World} {Q:Exit->Act->World->Prop}
 (hgd:o.guard=none) (s y:Operand) (t u:TypeId) (hop:o.op=Op.call {callee:=Callee.builtin Builtin.append,args:=#[s,y],argTypes:=#[t,u]})
 (e:TypeId) (hT:D8 P t e 1 1) (hu:P.underlying u=some .string)
 (v:Value) (n:Nat) (xs:List Value) (hs:a.eval s=v) (hown:i7 w e 1 v n xs) (x:ByteArray) (hy:a.eval y= .string x)
 (hbytes:n+x.size<=140737488355328) (hmax:n+x.size<=maxLen)
 (hK:∀ad cap w',t8 w e 1 v (n+x.size) (xs++u8s (txt x)) (.slice ad (n+x.size) cap) w'->wpList P ops Q rest (a.put o.dst (.slice ad (n+x.size) cap)) w'):wpList P ops Q (o::rest) a w:=by
 refine wpList_plain hgd fun K hK'=> ?_;obtain ⟨ht,i0,z,hi,hz0,hz1,hz2,hzs⟩:=hT;obtain ⟨v',w',hrun,r1,r2,r3⟩:=a3z (P:=P) w t u o.type e i0 z ht hu hi hz0 hz1 hz2 hzs v n xs hown x hbytes hmax;unfold Oper.wp execOp;simp only [hop,resolve,invoke,builtin,Sem.run_bind,Sem.run_pure,Result.andThen_ok,List.map_toArray,List.map_cons,List.map_nil,hs,hy,hrun];obtain ⟨ad,cap,rfl,_⟩:=r1.shape;exact hK' _ _ (hK ad cap w' ⟨r1,r2,r3⟩)
end
end Go.Proofs.YtaenebdppkjhoaaGreatDoor
