/- Lemmas. -/
import Derived.Test.YtebhabpahfmodaaGreatDoorZh3
set_option maxHeartbeats 40000000
set_option maxRecDepth 20000
namespace Go.Proofs.YtebhabpahfmodaaGreatDoor
open Go.RowKit
def a0g (l:List Cnd):Nat:=(l.map fun c=>c.name.size+c.v.text.size).sum
theorem a8N (l:List Cnd) (c:Cnd):a0g (l++[c])=a0g l+(c.name.size+c.v.text.size):=by unfold a0g;simp
theorem a5k {l:List Cnd} {c:Cnd} (h:c∈l):c.name.size+c.v.text.size<=a0g l:=by
 unfold a0g
 induction l with
 |nil=>cases h
 |cons a l ih=>
  rw [List.map_cons,List.sum_cons];rcases List.mem_cons.1 h with rfl|h
  ·omega
  have:=ih h;omega
theorem b27 {l:List Cnd} {B:Nat} (h:∀c∈l,c.name.size<=B/\c.v.text.size<=B):a0g l<=l.length*(2*B):=by
 unfold a0g
 induction l with
 |nil=>simp
 |cons a l ih=>
  rw [List.map_cons,List.sum_cons,zz9,Nat.add_mul];have h1:=ih (fun c hc=>h c (List.mem_cons_of_mem _ hc));have h2:=h a (List.mem_cons_self ..);omega
structure a5V (sc:ByteArray) (l:List Cnd):Prop where
 len:l.length<=20
 sum:sc.size+a0g l<=2000
def a8O (w:World) (sc:ByteArray) (l:List Cnd) (e:Ending) (w':World):Prop:=∃b,e= .returned (.bool b)/\(b=true->a5V sc l)/\Mod (fun _=>False) w w'
theorem X7 {x:Int} (h1: -9223372036854775808<=x) (h2:x<=9223372036854775807):wrap64 x=x:=by
 simp only [wrap64];omega
theorem b0Y {n A s t:Int} {k:Nat} (hn:n=k) (hk:k<=4000000000000000000) (hs:0<=s/\s<=140737488355328) (ht:0<=t/\t<=140737488355328) (hA:A=wrap64 (n+wrap64 (s+t))):A=k+(s+t):=by
 rw [hA,X7 (x:=s+t) zo zo,hn,X7 zo zo]
theorem a2R (w:World) (sc:ByteArray) (cv:Value) (l:List Cnd) (hv:j3 w 7 cv l.length (m5 l)) (hll:l.length<=9223372036854775807) (hs:sc.size<=140737488355328) (hc:∀c∈l,c.name.size<=140737488355328/\c.v.text.size<=140737488355328):
 Calls Tryz.prog 24 #[.agg #[.string sc,cv]] w (a8O w sc l):=by
 obtain ⟨a,cap,rfl,hcap⟩:∃a c,cv= .slice a l.length c/\l.length<=c:=by obtain ⟨-,a,c,h,h2, -⟩:=hv;exact ⟨a,c,h,h2⟩
 have bN:(l.length:Int)<=9223372036854775807:=zo
 have bf:(l.length:Int)<=cap:=zo
 obtain ⟨wa,aD,ah,ae,au⟩:=g8 w (.cells #[.string sc,.slice a l.length cap] 26);have hva:=hv.mod ah zi;have c0:wa.cell? ⟨w.heap.size,0,none⟩=some (.string sc):=d6 ae rfl;have c1:wa.cell? ⟨w.heap.size,1,none⟩=some (.slice a l.length cap):=d6 ae rfl;have hqz:w.heap.size<wa.heap.size:=zo
 obtain ⟨Hv,aF,aB,aH,dC,Hc⟩:=zh6 hv aD ah ae hva hc;clear hv aD ah ae hva hc au hll
 go_enter Tryz.func24,Tryz.ntmps24
 go_wp2_with (rw [show w.alloc _=wa from aF.out])
 go_loopw [3,12] (fun n i wr=>∃(j:Nat) (x:Int),n= .int .i64 x/\i= .int .i64 j/\j<=l.length/\(j<=20->x=((sc.size+a0g (l.take j):Nat):Int))/\Mod (fun _=>False) wa wr) (fun _ i _=>l.length - (intOf i).toNat)
 case atStart=>exact ⟨0,_,rfl,rfl,Nat.zero_le _,fun _=>by simp [a0g],Mod.refl _ _⟩
 case round=>
  obtain ⟨j,n,rfl,rfl,hj,hsum,hmr⟩:=hrel;by_cases hlt:j<l.length
  ·have hlt':(j:Int)<l.length:=zo
   obtain ⟨x,hxj⟩:∃x,l[j]? =some x:=⟨_,zz5 hlt⟩;obtain ⟨g,off,rfl,hf⟩:∃g off,a=some ⟨g,off,none⟩/\e9 wr g (off+j*7) x.cells:=G9 (dC.out.mod hmr zi) hxj;obtain ⟨wz,hwz,ai,aj,aJ⟩:=g8 wr (.cells x.cells.toArray 87);have hmz:=hmr.trans ai zi;have b0:wz.cell? ⟨wr.heap.size,0,none⟩=some (.string x.name):=d6 aj rfl;have b5:wz.cell? ⟨wr.heap.size,5,none⟩=some (.string x.v.text):=d6 aj rfl
   have hnx:j+1<=20->∀A:Int,A=wrap64 (n+wrap64 ((x.name.size:Int)+x.v.text.size))->A=((sc.size+a0g (l.take (j+1)):Nat):Int):=fun h20 A hA=>by
    have h1:=hsum zo;have h2:=Hc.out x (zz8 hxj);have h3:a0g (l.take j)<=(l.take j).length*(2*140737488355328):=b27 fun c hc=>Hc.out c (List.mem_of_mem_take hc);have h4:(l.take j).length<=20:=by rw [List.length_take];omega
    have h5:(l.take j).length*(2*140737488355328)<=20*(2*140737488355328):=Nat.mul_le_mul_right _ h4;have h6:=b0Y h1 zo ⟨zo,zo⟩ ⟨zo,zo⟩ hA;rw [h6,List.take_add_one,hxj,Option.toList_some,a8N];omega
   obtain ⟨aK,cB,Hf,bi,bn,aN,bG,dn,JV⟩:=zh9 hmr hxj hf hwz ai aj hmz hnx hsum;clear hmr hxj hf hwz ai aj hmz hnx hsum aJ c0 c1
   go_wp2_with (first|((with_reducible refine d8 87 (.tmp 14) ?_);refine ⟨g,off+j*7,rfl,x.cells,Hf.out,zk,zk, ?_⟩)|((with_reducible refine d9 87 (.tmp 5) (.tmp 15) ?_);refine ⟨rfl,x.cells,rfl,rfl,zk,rfl, ?_⟩;rw [bi.out]))
   go_roundw
   case rel=>exact ⟨j+1,_,rfl,by go_num,hlt,fun h20=>dn.out h20 _ rfl,bG.out⟩
   case measure=>simp [intOf];omega
  obtain rfl:j=l.length:=zo
  have hgr:=hmr.heap aH.out id;have c1:wr.cell? ⟨w.heap.size,1,none⟩=some (.slice a l.length cap):=d6 hgr rfl;have Hm:=Lib.hid (aB.out.trans hmr zi);rw [List.take_length] at hsum;have JV:=zh hsum;clear hmr hgr hsum;by_cases hn:n<=2000
  ·go_wp2
   go_ret;refine ⟨_,rfl,fun hb=> ?_,Hm.out⟩
   have h20:l.length<=20:=by
    have h2:(l.length:Int)<=20:=by simpa using hb
    omega
   have:=JV.out h20;exact ⟨h20,zo⟩
  have hn':2000<n:=zo
  clear hn
  go_wp2
  go_ret;exact ⟨false,rfl,(fun h=>by cases h),Hm.out⟩
structure a5W (r:Ru):Prop where
 who:r.who.size+r.name.size<=200
 fil:a5V r.sc r.cs
def a5X (w:World) (l:List Ru) (e:Ending) (w':World):Prop:=∃b,e= .returned (.bool b)/\(b=true->l.length<=80/\∀r∈l,a5W r)/\Mod (fun _=>False) w w'
theorem a7h (w:World) (v:Value) (l:List Ru) (hv:I9 w v l) (hll:l.length<=9223372036854775807)
 (hs:∀r∈l,r.who.size<=140737488355328/\r.name.size<=140737488355328/\r.sc.size<=140737488355328/\∀c∈r.cs,c.name.size<=140737488355328/\c.v.text.size<=140737488355328):
 Calls Tryz.prog 5 #[v] w (a5X w l):=by
 obtain ⟨a,cap,rfl,hcap⟩:∃a c,v= .slice a l.length c/\l.length<=c:=by obtain ⟨-,a,c,h,h2, -⟩:=hv.rd;exact ⟨a,c,h,h2⟩
 have bN:(l.length:Int)<=9223372036854775807:=zo
 have bf:(l.length:Int)<=cap:=zo
 obtain ⟨Hv,Hs⟩:=zh2 hv hs;clear hv hs hll
 go_enter Tryz.func5,Tryz.ntmps5
 go_wp2_with fail
 go_loopw [7] (fun i wr=>∃j:Nat,i= .int .i64 j/\j<=l.length/\(∀x∈l.take j,a5W x)/\Mod (fun _=>False) w wr) (fun i _=>l.length - (intOf i).toNat)
 case atStart=>exact ⟨0,rfl,Nat.zero_le _,fun x h=>by simp at h,Mod.refl _ _⟩
 case round=>
  obtain ⟨j,rfl,hj,hall,hmr⟩:=hrel;by_cases hlt:j<l.length
  ·have hlt':(j:Int)<l.length:=zo
   obtain ⟨x,hxj⟩:∃x,l[j]? =some x:=⟨_,zz5 hlt⟩;have hxm:=zz8 hxj;have hsx:=Hs.out x hxm;have hok:=(Hv.out.mod hmr).ok x hxm;obtain ⟨g,off,rfl,hf⟩:∃g off,a=some ⟨g,off,none⟩/\e9 wr g (off+j*8) x.cells:=F1 (Hv.out.mod hmr) hxj;obtain ⟨wz,hwz,ai,aj,aJ⟩:=g8 wr (.cells x.cells.toArray 28);have hmz:=hmr.trans ai zi;have b2:wz.cell? ⟨wr.heap.size,2,none⟩=some (.string x.who):=d6 aj rfl;have b4:wz.cell? ⟨wr.heap.size,4,none⟩=some (.string x.sc):=d6 aj rfl;have b5:wz.cell? ⟨wr.heap.size,5,none⟩=some (.slice x.ca x.cs.length x.cc):=d6 aj rfl;have b6:wz.cell? ⟨wr.heap.size,6,none⟩=some (.string x.name):=d6 aj rfl;have lM:=a2R wz x.sc x.cv x.cs (hok.mod ai).rd (by have:=hok.len;omega) hsx.2.2.1 hsx.2.2.2;have hwr:wrap64 ((x.who.size:Int)+x.name.size)=(x.who.size:Int)+x.name.size:=X7 zo zo;obtain ⟨A,hA⟩:∃A:Int,wrap64 ((x.who.size:Int)+x.name.size)=A:=⟨_,rfl⟩
   have hnx:A<=200->a5V x.sc x.cs->∀y∈l.take (j+1),a5W y:=fun hq hF y hy=>by
    rw [List.take_add_one,hxj] at hy;rcases zz14 hy with hy|hy
    ·exact hall y hy
    obtain rfl:y=x:=by simpa using hy
    exact ⟨zo,hF⟩
   obtain ⟨aK,cB,fH,VZ,Hf,bi,bn,aN,bG,vg,dn,Xj⟩:=zh12 hmr hxj hxm hsx hf hwz ai aj hmz lM hnx hwr;clear hmr hxj hxm hsx hf hwz ai aj hmz lM hnx hwr aJ hok hall;by_cases hq:A<=200
   ·go_wp2_with (first|((with_reducible refine d8 28 (.tmp 9) ?_);refine ⟨g,off+j*8,rfl,x.cells,Hf.out,zk,zk, ?_⟩)|((with_reducible refine d9 28 (.tmp 4) (.tmp 10) ?_);refine ⟨rfl,x.cells,rfl,rfl,zk,rfl, ?_⟩;rw [bi.out]))
    refine vg.out.mono ?_;rintro e w3 ⟨b,rfl,hbf,aC⟩;have bA:=Lib.hid (bG.out.trans aC zi);clear aC b2 b4 b5 b6
    cases b with
    |true=>
     have hny:=dn.out hq (hbf rfl);have Hny:=zh hny;clear hny hbf
     go_wp2_with fail
     go_roundw
     case rel=>exact ⟨j+1,by go_num,hlt,Hny.out,bA.out⟩
     case measure=>simp [intOf];omega
    |false=>
     clear hbf
     go_wp2
     go_ret;exact ⟨false,rfl,(fun h=>by cases h),bA.out⟩
   have hq':200<A:=zo
   clear hq
   go_wp2_with (first|((with_reducible refine d8 28 (.tmp 9) ?_);refine ⟨g,off+j*8,rfl,x.cells,Hf.out,zk,zk, ?_⟩)|((with_reducible refine d9 28 (.tmp 4) (.tmp 10) ?_);refine ⟨rfl,x.cells,rfl,rfl,zk,rfl, ?_⟩;rw [bi.out]))
   go_ret;exact ⟨false,rfl,(fun h=>by cases h),bG.out⟩
  obtain rfl:j=l.length:=zo
  rw [List.take_length] at hall;obtain ⟨Hm,aM⟩:=zh2 hmr hall;clear hmr hall
  go_wp2
  go_ret;refine ⟨_,rfl,fun h=>⟨?_,aM.out⟩,Hm.out⟩;have h2:(l.length:Int)<=80:=by simpa using h
  omega
def txt (s:ByteArray):List UInt8:=s.data.toList
theorem a8P (s:ByteArray):(txt s).length=s.size:=rfl
theorem a0D (P:Program) (w:World) (s:ByteArray):(Builtin.firstCells 1 s.size (.string s)).run P w= .ok (u8s (txt s)).toArray w:=by
 have h:(s.extract 0 s.size).data.map (fun b=>Value.int IntKind.u8 (b.toNat:Int))=(u8s (txt s)).toArray:=by
  apply Array.ext';simp [u8s,txt]
 simp [Builtin.firstCells];simpa using h
theorem a4i {P:Program} (w:World) (t u ty e:TypeId) (i:TypeInfo) (z:Value) (ht:P.underlying t=some (.slice e)) (hu:P.underlying u=some .string) (hi:P.info? e=some i) (hz:i.zero=some z)
 (hsize:i.size=1) (hby:i.bytes=1) (hzs:z.cells.size=1)
 (v:Value) (n:Nat) (xs:List Value) (hown:j2 w e 1 v n xs) (s:ByteArray) (hbytes:n+s.size<=140737488355328) (hmax:n+s.size<=maxLen):
 ∃v' w',(Builtin.append_ #[t,u] ty #[v,.string s]).run P w= .ok v' w'/\j2 w' e 1 v' (n+s.size) (xs++u8s (txt s))/\Mod (l5 v) w w'/\
  (v'.ownBlock=v.ownBlock\/∃k,v'.ownBlock=some k/\w.heap.size<=k):=by
 have hf:=a0D P w s;have nC:=a0D P w.drew s;have Oa:(u8s (txt s)).length=s.size:=by rw [Y1,a8P]
 have hlen:(xs++u8s (txt s)).length=(n+s.size)*1:=by rw [zz4,hown.1,Oa,Nat.add_mul,Nat.mul_one s.size]
 have h1:∀u∈u8s (txt s),u.oneCell'=true:=fun u hu=>by
  simp only [u8s,List.mem_map] at hu;obtain ⟨b, -,rfl⟩:=hu;rfl
 have grown:∀old,∃w',w'=w.drew.alloc (.cells (xs.toArray++(u8s (txt s)).toArray++Builtin.zeroCells z.cells (grownCap w (n+s.size) old e - (n+s.size))) e)/\
  j2 w' e 1 (.slice (some ⟨w.heap.size,0,none⟩) (n+s.size) (grownCap w (n+s.size) old e)) (n+s.size) (xs++u8s (txt s))/\Mod (l5 v) w w':=by
  intro old;have hge:=grownCap_ge w (n+s.size) old e;have hcm:grownCap w (n+s.size) old e<=maxLen:=grownCap_le_maxLen w (n+s.size) old e hmax;refine ⟨_,rfl,⟨hlen,.inr ⟨w.heap.size,0,_,_,rfl,heap_alloc_new w.drew _,hge,hcm, ?_, ?_⟩⟩,((Mod.refl _ w).drew).alloc _⟩
  ·simp only [Array.size_append,List.size_toArray,size_zeroCells,hzs,hown.1,Oa];omega
  simp only [Array.toList_append,zz12,List.drop_zero];rw [<-zz12,<-hlen];exact List.take_left
 by_cases hroom:∃a cap,v= .slice a n cap/\n+s.size<=cap
 ·obtain ⟨a,cap,hv,hroom⟩:=hroom;rcases hown.2 with ⟨hv',rfl⟩|⟨g,off,cap',cur,hv',hg,hnc,hcm,hs,htk⟩
  ·rw [hv'] at hv;cases hv;have hm:s.size=0:=zo
   have hxs:xs=[]:=List.eq_nil_of_length_eq_zero (by simpa using hown.1);have hns:u8s (txt s)=[]:=List.eq_nil_of_length_eq_zero zo;subst hxs hv';refine ⟨.slice none 0 0,w, ?_,by rw [hns,hm];exact j2.nil w e 1,Mod.refl _ _,.inl rfl⟩;rw [hm] at hf;simp [Builtin.append_,run_underlying ht,run_underlying hu,sizeOf,typeInfo,hi,Builtin.lenOf,hm,hsize,hf]
  rw [hv'] at hv;cases hv;subst hv'
  have hfit:off+n+(u8s (txt s)).length<=cur.size:=by
   rw [Oa];omega
  have hst:=run_storeCells_at P g (off+n) e (u8s (txt s)) 0 cur w hg (by simpa using hfit) h1;simp only [Nat.add_zero] at hst
  refine ⟨.slice (some ⟨g,off,none⟩) (n+s.size) cap,w.setRow g (cur.toList.take (off+n)++u8s (txt s)++cur.toList.drop (off+n+(u8s (txt s)).length)).toArray, ?_,
   ⟨hlen,.inr ⟨g,off,cap,_,rfl,setRow_heap w g cur _ e _ hg,hroom,hcm, ?_, ?_⟩⟩,(Mod.refl (l5 (.slice (some ⟨g,off,none⟩) n cap)) w).setRow (g:=g) (fun _=>by simp [l5,Value.ownBlock]) _,.inl rfl⟩
  ·simp [Builtin.append_,run_underlying ht,run_underlying hu,sizeOf,typeInfo,hi,Builtin.lenOf,hroom,hsize,hf,A7,hst]
  ·simp only [List.size_toArray,zz4,List.length_take,List.length_drop,Array.length_toList];omega
  have hcl:off+n<=cur.toList.length:=by rw [Array.length_toList];omega
  have e1:List.drop off (List.take (off+n) cur.toList)=xs:=by
   rw [List.drop_take,show off+n - off=n*1 from zo];exact htk
  rw [zz12,List.drop_append_of_le_length (by rw [List.length_take];omega),e1,<-zz12,<-hlen];exact List.take_left
 obtain ⟨a,cap,hv,hle⟩:=hown.shape
 have hcap:cap<n+s.size:=by
  rcases Nat.lt_or_ge cap (n+s.size) with h|h
  ·exact h
  exact absurd ⟨a,cap,hv,h⟩ hroom
 have h0:0<s.size:=zo
 obtain ⟨w'',hw'',h2,h3⟩:=grown cap;refine ⟨_,w'', ?_,h2,h3,.inr ⟨w.heap.size,rfl,Nat.le_refl _⟩⟩;subst hw'';rcases hown.2 with ⟨hv',rfl⟩|⟨g',off',cap',cur,hv',hg,hnc,hcm,hs,htk⟩
 ·rw [hv'] at hv;cases hv;have hxs:xs=[]:=List.eq_nil_of_length_eq_zero (by simpa using hown.1);subst hxs;rw [hv']
  have hfx:(s.data.map (fun b=>Value.int IntKind.u8 (b.toNat:Int)))=(u8s (txt s)).toArray:=by
   apply Array.ext';simp [u8s,txt]
  have:=run_append_nil_string (P:=P) (w:=w) t u ty e i z ht hu hi hz s h0 (by simp only [maxLen] at hmax;omega) (by rw [hby];omega);rw [hfx] at this;simpa only [Nat.zero_add,Array.empty_append] using this
 rw [hv'] at hv;cases hv;rw [hv'];have hrd:=hown.rd;obtain ⟨_,a2,c2,hv2,_,_,hcc⟩:=hrd;rw [hv'] at hv2;cases hv2
 have hcc:∀(j:Nat) (u:Value),xs[j]? =some u->w.cell? ⟨g',off'+j,none⟩=some u:=fun j u hu=>by
  have hn0:0<n:=by have:=(zz6 hu).1;have:=hown.1;omega
  obtain ⟨g2,off2,he,hcc⟩:=hcc _ rfl hn0;cases he
  exact hcc j u hu
 have hfo:=run_firstCells_some (P:=P) w.drew 1 n ⟨g',off',none⟩ n cap xs hown.1 (fun j u hu=>by rw [A7];exact hcc j u hu);have hn:¬(n+s.size<=cap):=zo
 have h63':¬(9223372036854775807<((n:Int)+(s.size:Int))):=by simp only [maxLen] at hmax;omega
 have h48':¬(281474976710656<Builtin.nextslicecap (n+s.size) cap*i.bytes):=by have:=growslice_fits (bytes:=i.bytes) hcap (by rw [hby];omega);omega
 simp [Builtin.append_,run_underlying ht,run_underlying hu,sizeOf,typeInfo,zeroValue,hi,hz,Builtin.lenOf,hn,h63',h48',Question.forced,hsize,nC,hfo,newRow,grownCap,Array.append_assoc];congr 2;apply Array.ext';simp [List.append_assoc]
theorem a1R {P:Program} {ops:Array Oper} {rest:List Oper} {o:Oper} {a:Act} {w:World} {Q:Exit->Act->World->Prop}
 (hgd:o.guard=none) (s y:Operand) (t u:TypeId) (hop:o.op=Op.call {callee:=Callee.builtin Builtin.append,args:=#[s,y],argTypes:=#[t,u]})
 (e:TypeId) (hT:E7 P t e 1 1) (hu:P.underlying u=some .string)
 (v:Value) (n:Nat) (xs:List Value) (hs:a.eval s=v) (hown:j2 w e 1 v n xs) (x:ByteArray) (hy:a.eval y= .string x)
 (hbytes:n+x.size<=140737488355328) (hmax:n+x.size<=maxLen)
 (hK:∀ad cap w',q5 w e 1 v (n+x.size) (xs++u8s (txt x)) (.slice ad (n+x.size) cap) w'->wpList P ops Q rest (a.put o.dst (.slice ad (n+x.size) cap)) w'):wpList P ops Q (o::rest) a w:=by
 refine wpList_plain hgd fun K hK'=> ?_;obtain ⟨ht,i0,z,hi,hz0,hz1,hz2,hzs⟩:=hT;obtain ⟨v',w',hrun,r1,r2,r3⟩:=a4i (P:=P) w t u o.type e i0 z ht hu hi hz0 hz1 hz2 hzs v n xs hown x hbytes hmax;unfold Oper.wp execOp;simp only [hop,resolve,invoke,builtin,Sem.run_bind,Sem.run_pure,Result.andThen_ok,List.map_toArray,List.map_cons,List.map_nil,hs,hy,hrun];obtain ⟨ad,cap,rfl,_⟩:=r1.shape;exact hK' _ _ (hK ad cap w' ⟨r1,r2,r3⟩)
end Go.Proofs.YtebhabpahfmodaaGreatDoor
