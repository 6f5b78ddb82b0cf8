/- Lemmas. -/
import Derived.Test.YtebhabpahfmodaaGreatDoorZh5
import Derived.Lib.ItoaMem
import Derived.Great.BuildSlice
import Derived.BigGuardPart
set_option maxHeartbeats 40000000
set_option maxRecDepth 20000
namespace Go.Proofs.YtebhabpahfmodaaGreatDoor
section
open Go.RowKit
open Go.Sort
def Y0 (b:UInt8):Value:=Value.int .u8 (b.toNat:Int)
theorem b3J {w:World} {g:Nat} {cur:Array Value} {T:TypeId} {fr:Nat×Nat} (hg:w.heap[g]? =some (.cells cur T fr)) (d:Array UInt8):(putRow Y0 w g 0 d).heap[g]? =some (.cells (putCells Y0 0 d cur) T fr):=by
 show (w.heap.modify g (onCells (putCells Y0 0 d)))[g]? =_;rw [Array.getElem?_modify,if_pos rfl,hg];rfl
theorem b5m (w:World) (g off:Nat) (d:Array UInt8):Mod (fun k=>k=g) w (putRow Y0 w g off d):=by
 refine ⟨rfl,rfl,rfl,Nat.le_of_eq ?_,fun k _ hk=> ?_⟩
 ·show _=(w.heap.modify g _).size;rw [Array.size_modify]
 show (w.heap.modify g _)[k]? =_;rw [Array.getElem?_modify,if_neg (fun h=>hk h.symm)]
def A0 (l:List UInt8):Nat:=(l.reverse.dropWhile (· ==48)).length
theorem a17 (l:List UInt8):A0 l<=l.length:=by
 have:=(List.dropWhile_sublist (l:=l.reverse) (· ==48)).length_le;simpa [A0] using this
theorem a2F (l:List UInt8) (x:UInt8):A0 (l++[x])=if x=48 then A0 l else l.length+1:=by
 unfold A0;rw [List.reverse_append];simp only [List.reverse_cons,List.reverse_nil,List.nil_append,List.singleton_append,List.dropWhile_cons,beq_iff_eq];split<;>simp
theorem b1k (l:List UInt8) (k:Nat) (x:UInt8) (h:l[k]? =some x):A0 (l.take (k+1))=if x=48 then A0 (l.take k) else k+1:=by
 obtain ⟨hk,hx⟩:=zz6 h;rw [List.take_succ_eq_append_getElem hk,a2F,hx,List.length_take,Nat.min_eq_left zo]
def a1p (w:World) (g:Nat) (l:List UInt8):Prop:=∀j u,l[j]? =some u->w.cell? ⟨g,j,none⟩=some (Y0 u)
theorem a1p.mod {w w':World} {g:Nat} {l:List UInt8} {F:Nat->Prop} (h:a1p w g l) (hm:Mod F w w') (hF:¬F g):a1p w' g l:=fun j u hu=>hm.cell (h j u hu) hF
theorem b1l (w:World) (g:Nat) (cur:Array Value) (T:TypeId) (d n:Nat) (p:Int) (hg:w.heap[g]? =some (.cells cur T (0,0))) (hz:∀j,j<32->cur[j]? =some (.int .u8 0)) (hd1:d<18446744073709551616)
 (hn:n=Lib.nDigits d) (hn32:n<=32) (hdn:d<10^n) (hp: -10000<=p/\p<=10000):
 Calls Tryz.prog 212 #[.slice (some ⟨g,0,none⟩) 32 32,.int .u64 d,.int .i64 p,.int .i64 n] w fun x w'=>x= .returned (.tuple #[.int .i64 (n+p),.int .i64 (A0 (Lib.decDigits d):Nat)])/\a1p w' g (Lib.decDigits d)/\Mod (fun k=>k=g) w w':=by
 have hH:Holds Y0 w g 0 (Array.replicate n (0:UInt8)):=fun j hj=>by
  have hj':j<n:=by simpa using hj
  refine ⟨?_,by rw [Nat.zero_add];exact J1 hg⟩;rw [Nat.zero_add,d6 hg (hz j zo),getElem!_pos _ j hj];simp [Y0]
 have eZ:=Tryz.internal_strconv_formatBase10 g 0 32 d (Array.replicate n (0:UInt8)) w hH (by simpa using hdn) hd1 (by simp;omega);have hsz:(Array.replicate n (0:UInt8)).size=n:=by simp
 rw [hsz] at eZ;have hl:(Lib.decDigits d).length=n:=by rw [Lib.decDigits_length,hn]
 obtain ⟨FM,Hl,Hn,Hdn,qN⟩:=zh5 eZ hl hn hdn hsz;clear eZ hl hn hdn hsz
 go_enter Tryz.func212,Tryz.ntmps212
 go_wp2_with fail
 refine FM.out.mono ?_;rintro x w1 ⟨rfl,k,v',dk,hw1,hI⟩;have hm1:Mod (fun k=>k=g) w w1:=hw1▸(b5m w g 0 dk).drewN k
 have hD1:a1p w1 g (Lib.decDigits d):=by
  intro j u hu;obtain ⟨hj,hju⟩:=zz6 hu;have hdk:dk.size=n:=hI.size;have e:=Lib.row_is_numeral (Hn.out▸hI) j hj;have hj2:j<n:=Hl.out▸hj;rw [hw1];refine d6 (a7F (b3J hg dk) k) ?_;unfold putCells;rw [Array.getElem?_mapIdx,hz j zo,Option.map_some,if_pos ⟨Nat.zero_le _,zo⟩,Nat.sub_zero,<-e,hju]
 clear hI hw1;obtain ⟨dB,HD1⟩:=zh2 hm1 hD1;clear hm1 hD1
 go_wp2_with fail
 go_loopw [3] (fun i wr=>∃k:Nat,i= .int .i64 k/\k<=n/\A0 ((Lib.decDigits d).take k)=A0 (Lib.decDigits d)/\wr=w1) (fun i _=>(intOf i).toNat)
 case atStart=>exact ⟨n,rfl,Nat.le_refl _,by rw [List.take_of_length_le (Nat.le_of_eq Hl.out)],rfl⟩
 case round=>
  obtain ⟨k,rfl,hk,ht,rfl⟩:=hrel;have Ht:=zh ht;clear ht;by_cases h0:k=0
  ·subst h0
   go_wp2_with fail
   go_ret2
   have e:A0 (Lib.decDigits d)=0:=Ht.out.symm.trans rfl;exact ⟨by rw [e];rfl,HD1.out,dB.out⟩
  obtain ⟨m,rfl⟩:∃m,k=m+1:=⟨k - 1,zo⟩;obtain ⟨u,hu⟩:∃u,(Lib.decDigits d)[m]? =some u:=⟨_,zz5 (by have:=Hl.out;omega)⟩;have c0:=HD1.out m u hu;have h2:(0:Int)<(m+1:Nat):=zo
  have e1:((m+1:Nat):Int) - 1=m:=zo
  have b8E:(m:Int)<32:=zo
  unfold Y0 at c0;have iT:=b1k _ m u hu;rw [Ht.out] at iT;by_cases h48:u=48
  ·subst h48;rw [if_pos rfl] at iT;obtain ⟨vX,Hu⟩:=zh2 iT hu;clear iT hu
   go_wp2_with fail
   exact ⟨⟨m,rfl,zo,vX.out.symm,trivial⟩,by simp [intOf]⟩
  have h48':(u.toNat:Int)≠48:=fun h=>h48 (by apply UInt8.toNat_inj.1;simpa using Int.ofNat_inj.1 h);rw [if_neg h48] at iT;obtain ⟨vX,Hu⟩:=zh2 iT hu;clear iT hu
  go_wp2_with fail
  go_ret2
  exact ⟨by rw [vX.out];rfl,HD1.out,dB.out⟩
end
section
open Go.RowKit
structure Buf (F:Nat->Prop) (w0 w:World) (v:Value) (bs:List UInt8):Prop where
 own:j2 w 5 1 v bs.length (u8s bs)
 new:∀k,v.ownBlock=some k->F k\/w0.heap.size<=k
 mod:Mod F w0 w
theorem Buf.alloc {F:Nat->Prop} {w0 w:World} {v:Value} {bs:List UInt8} (h:Buf F w0 w v bs) (o:Obj):Buf F w0 (w.alloc o) v bs:=⟨h.own.alloc o,h.new,h.mod.alloc o⟩
theorem Buf.also {F:Nat->Prop} {w0 w w':World} {v:Value} {bs:List UInt8} (h:Buf F w0 w v bs) (hm:Mod (fun _=>False) w w'):Buf F w0 w' v bs:=⟨h.own.mod hm zi,h.new,h.mod.trans hm (fun _ _ h=>h.elim)⟩
theorem Buf.rebase {F:Nat->Prop} {w w0:World} {v:Value} {bs:List UInt8} (h:Buf F w w v bs) (hm:Mod (fun _=>False) w w0):Buf F w0 w0 v bs:=by
 refine ⟨h.own.mod hm zi,fun k hk=> ?_,Mod.refl _ _⟩;rcases h.new k hk with h1|h1
 ·exact .inl h1
 have:=h.own.lt k hk;omega
theorem Buf.under {F:Nat->Prop} {w w0 w':World} {v:Value} {bs:List UInt8} (h:Buf F w0 w' v bs) (hm:Mod (fun _=>False) w w0):Buf F w w' v bs:=by
 refine ⟨h.own,fun k hk=> ?_,(hm.mono (fun _ _ h=>h.elim)).trans h.mod zi⟩;rcases h.new k hk with h1|h1
 ·exact .inl h1
 exact .inr (Nat.le_trans hm.size h1)
theorem Buf.digs {F:Nat->Prop} {w0 w:World} {v:Value} {bs l:List UInt8} {g:Nat} (h:Buf F w0 w v bs) (hd:a1p w0 g l) (hg:¬F g):a1p w g l:=hd.mod h.mod hg
theorem a7C:E7 Tryz.prog 237 5 1 1:=O8 zk zk
theorem a7D (bs:List UInt8):∀u∈u8s bs,u.oneCell'=true:=by
 intro u hu;obtain ⟨b, -,rfl⟩:=List.mem_map.1 hu;rfl
theorem a9d (a b:List UInt8):u8s (a++b)=u8s a++u8s b:=by simp [u8s]
theorem b6n {l:List UInt8} {j:Nat} {u:Value} (h:(u8s l)[j]? =some u):∃b,l[j]? =some b/\u= .int .u8 (b.toNat:Int):=by
 unfold u8s at h;rw [List.getElem?_map] at h
 cases hb:l[j]? with
 |none=>rw [hb] at h;cases h
 |some b=>rw [hb] at h;exact ⟨b,rfl,(Option.some.inj h).symm⟩
theorem Buf.put {F:Nat->Prop} {w0 w w':World} {v v':Value} {bs l:List UInt8} {m:Nat} (h:Buf F w0 w v bs) (hl:l.length=m) (ha:q5 w 5 1 v (bs.length+m) (u8s bs++u8s l) v' w'):Buf F w0 w' v' (bs++l):=by
 obtain ⟨h1,h2,h3⟩:=ha;refine ⟨by rw [zz4,hl,a9d];exact h1,fun k hk=> ?_,h.mod.trans h2 ?_⟩
 ·rcases h3 with h3|⟨k',h3,h4⟩
  ·exact h.new k (h3▸hk)
  rw [h3] at hk;cases hk
  exact .inr (Nat.le_trans h.mod.size h4)
 intro b hb hv;rcases h.new b hv with h5|h5
 ·exact h5
 omega
section
variable {w:World} {ops:Array Oper} {rest:List Oper} {a:Act} {Q:Exit->Act->World->Prop} {d:Option Tmp} {tp tp':TypeId} {pos pos':String} {af af':Array Edge}
theorem g9 {at1:Array TypeId} {k:Tmp} {n:Nat} {parts:Array (Nat×Operand)} (s:Operand)
 (h:at1=#[237,237]/\∃(F:Nat->Prop) (w0:World) (v:Value) (bs l:List UInt8),Buf F w0 w v bs/\parts.toList.map (fun p=>(p.1,a.eval p.2))=((u8s l).zipIdx 0).map (fun x=>(x.2,x.1))/\l.length=n/\0<n/\n<=16/\bs.length<=1000000/\
   (a.put (some k) (.slice (some ⟨w.heap.size,0,none⟩) n n)).eval s=v/\(a.put (some k) (.slice (some ⟨w.heap.size,0,none⟩) n n)).eval (.tmp k)= .slice (some ⟨w.heap.size,0,none⟩) n n/\
   ∀ad cap w',Buf F w0 w' (.slice ad (bs.length+n) cap) (bs++l)->wpList Tryz.prog ops Q rest ((a.put (some k) (.slice (some ⟨w.heap.size,0,none⟩) n n)).put d (.slice ad (bs.length+n) cap)) w'):
 wpList Tryz.prog ops Q (⟨some k,.buildSlice 237 n parts,tp,pos,af,none⟩::⟨d,.call {callee:= .builtin .append,args:=#[s,.tmp k],argTypes:=at1},tp',pos',af',none⟩::rest) a w:=by
 obtain ⟨rfl,F,w0,v,bs,l,hb,hp,hl,h0,h16,hlen,hs,hx,hK⟩:=h;obtain ⟨i,z,hi,hz,hs1,hb1,hz1⟩:=a7C.2;refine wpList_buildSlice rfl 237 5 n parts rfl (u8s l).toArray i z a7C.1 hi hz (by rw [hs1];omega) (by rw [hs1];omega) ?_ ?_
 ·have hp2:(parts.map fun (i,x)=>(i,a.eval x)).toList=((u8s l).zipIdx 0).map (fun x=>(x.2,x.1)):=by rw [Array.toList_map];exact hp
  rw [hs1,hp2]
  have hf:=Great.fill_whole (s:=1) zd (u8s l) ((Array.range (n*1)).map (z.cells[· %z.cells.size]!)) (fun v hv=>by
   obtain ⟨b, -,rfl⟩:=List.mem_map.1 hv
   rfl) (by rw [Y1];simp [hl])
  rw [hf];congr 2;unfold u8s;rw [List.flatMap_map];exact List.map_eq_flatMap.symm
 have hn:(u8s l).length=n:=by rw [Y1,hl]
 refine M9 rfl s (.tmp k) 237 rfl 5 1 1 a7C v bs.length (u8s bs) hs (hb.own.alloc _) (.slice (some ⟨w.heap.size,0,none⟩) n n) n (u8s l) hx ?_ (a7D l) zo (by unfold maxLen;omega) ?_
 ·refine ⟨zo,_,_,rfl,Nat.le_refl _,by simp,fun b hb _=> ?_⟩;cases hb
  exact ⟨_,_,rfl,fun j u hj=>e9.new w (u8s l) 5 j u hj⟩
 intro ad cap w' ha;exact hK ad cap w' ((hb.alloc _).put hl ha)
theorem V6 {at1:Array TypeId} (s y:Operand)
 (h:at1=#[237,237]/\∃(F:Nat->Prop) (w0:World) (v:Value) (bs l:List UInt8) (x:Value),Buf F w0 w v bs/\a.eval s=v/\a.eval y=x/\j3 w 1 x l.length (u8s l)/\bs.length<=1000000/\l.length<=1000000/\
   ∀ad cap w',Buf F w0 w' (.slice ad (bs.length+l.length) cap) (bs++l)->wpList Tryz.prog ops Q rest (a.put d (.slice ad (bs.length+l.length) cap)) w'):
 wpList Tryz.prog ops Q (⟨d,.call {callee:= .builtin .append,args:=#[s,y],argTypes:=at1},tp,pos,af,none⟩::rest) a w:=by
 obtain ⟨rfl,F,w0,v,bs,l,x,hb,hs,hy,hx,h1,h2,hK⟩:=h;exact M9 rfl s y 237 rfl 5 1 1 a7C v bs.length (u8s bs) hs hb.own x l.length (u8s l) hy hx (a7D l) zo (by unfold maxLen;omega) fun ad cap w' ha=>hK ad cap w' (hb.put rfl ha)
end
end
open Go.RowKit
def A5 (neg:Bool):List UInt8:=if neg then [45] else []
def l6 (n:Nat):List UInt8:=List.replicate n 48
theorem Z9 (l:List UInt8) (j:Nat):l++l6 j++[48]=l++l6 (j+1):=by
 unfold l6;rw [zz12,List.replicate_succ']
theorem K8 (l d:List UInt8) (j:Nat) (u:UInt8) (h:d[j]? =some u):l++d.take j++[u]=l++d.take (j+1):=by
 obtain ⟨hk,hx⟩:=zz6 h;rw [zz12,List.take_succ_eq_append_getElem hk,hx]
theorem b5n (F:Nat->Prop) (w:World) (v:Value) (g:Nat) (neg:Bool) (ds:List UInt8) (z:Nat) (hb:Buf F w w v []) (hd:a1p w g ds) (hg:¬F g) (h0:0<ds.length) (h32:ds.length<=32) (hz:z<=3):
 Calls Tryz.prog 210 #[v,.bool neg,.slice (some ⟨g,0,none⟩) 32 32,.int .i64 (-(z:Int)),.int .i64 ds.length,.int .i64 ds.length,.int .u8 103,.bool true] w fun x w'=>∃v',x= .returned v'/\Buf F w w' v' (A5 neg++[48,46]++l6 z++ds):=by
 obtain ⟨ad,cap,rfl, -⟩:=hb.own.shape;obtain ⟨n,hn⟩:∃n,ds.length=n:=⟨_,rfl⟩;rw [hn] at h0 h32⊢;have hmx:max ((n:Int)+z) 0=n+z:=zo
 have h4:¬(-(z:Int) - 1< -4):=zo
 have OU:decide (-(z:Int) - 1< -4)=false:=decide_eq_false h4;have h6: -(z:Int) - 1<6:=zo
 have hpn: -(z:Int)<n:=zo
 have hz0: -(z:Int)<=0:=zo
 have b8F:max 0 (z:Int)=z:=zo
 have b8G:min ((n:Int)+z) z=z:=zo
 have b8H:max 0 (n:Int)=n:=zo
 have hzz: -(z:Int)+z=0:=zo
 have hnn:(n:Int)+z - z=n:=zo
 have hn0:(n:Int) - 0=n:=zo
 have hnx:(n:Int) - n=0:=zo
 obtain ⟨Hb,Hd,Hg,Hn⟩:=zh4 hb hd hg hn;clear hb hd hg hn;cases neg
 ·go_enter Tryz.func210,Tryz.ntmps210
  go_wp2_with (first|((with_reducible refine g9 (.tmp 209) ?_);refine ⟨rfl,F,w,_,_,[48],Hb.out,by first|rfl|(go_simp;done),rfl,zd,zd,by first|decide|(have h:=bJ.out;exact h),rfl,rfl,fun ad1 cap1 w1 hb1=> ?_⟩;have Hb1:=Lib.hid hb1;clear hb1)|((with_reducible refine g9 (.tmp 214) ?_);refine ⟨rfl,F,w,_,_,[46],Hb1.out,by first|rfl|(go_simp;done),rfl,zd,zd,by first|decide|(have h:=bJ.out;exact h),rfl,rfl,fun ad2 cap2 w2 hb2=> ?_⟩;have Hb2:=Lib.hid hb2;clear hb2))
  go_loopw [0,240] (fun tv i wr=>∃j:Nat,i= .int .i64 j/\j<=z/\Buf F w wr tv (([48,46]:List UInt8)++l6 j)) (fun _ i _=>z - (intOf i).toNat)
  case atStart=>exact ⟨0,rfl,Nat.zero_le _,Hb2.out⟩
  case round=>
   obtain ⟨j,rfl,hj,hbr⟩:=hrel;obtain ⟨adr,capr,hv, -⟩:=hbr.own.shape;subst hv;have hln:(([48,46]:List UInt8)++l6 j).length<=1000000:=by simp [l6];omega
   by_cases hlt:j<z
   ·have hlt':(j:Int)<z:=zo
    obtain ⟨bV,bJ⟩:=zh2 hbr hln;clear hbr hln
    go_wp2_with ((with_reducible refine g9 (.tmp 242) ?_);refine ⟨rfl,F,w,_,_,[48],bV.out,by first|rfl|(go_simp;done),rfl,zd,zd,by first|decide|(have h:=bJ.out;exact h),rfl,rfl,fun ad3 cap3 w3 hb3=> ?_⟩;have Hb3:=Lib.hid hb3;clear hb3)
    go_roundw
    case rel=>exact ⟨j+1,by go_num,hlt,by have h:=Hb3.out;rw [Z9] at h;simpa using h⟩
    case measure=>simp [intOf];omega
   have hjz:z=j:=zo
   subst hjz;obtain ⟨bV,bJ⟩:=zh2 hbr hln;clear hbr hln
   go_wp2_with fail
   go_loopw [0,247] (fun tv i wr=>∃j:Nat,i= .int .i64 j/\j<=n/\Buf F w wr tv (([48,46]:List UInt8)++l6 z++ds.take j)) (fun _ i _=>n - (intOf i).toNat)
   case atStart=>exact ⟨0,rfl,Nat.zero_le _,by rw [List.take_zero,zz11];exact bV.out⟩
   case round=>
    clear bJ;obtain ⟨j,rfl,hj2,hbs⟩:=hrel;obtain ⟨ads,caps,hv, -⟩:=hbs.own.shape;subst hv;have hln:(([48,46]:List UInt8)++l6 z++ds.take j).length<=1000000:=by simp [l6];omega
    by_cases hlt2:j<n
    ·have hlt':(j:Int)<n:=zo
     have qG:(j:Int)<32:=zo
     obtain ⟨u,hu⟩:∃u,ds[j]? =some u:=⟨_,zz5 (by have:=Hn.out;omega)⟩;have c0:=hbs.digs Hd.out Hg.out j u hu;unfold Y0 at c0;obtain ⟨gV,bJ,Hu⟩:=zh3 hbs hln hu;clear hbs hln hu
     go_wp2_with ((with_reducible refine g9 (.tmp 250) ?_);refine ⟨rfl,F,w,_,_,[u],gV.out,by first|rfl|(go_simp;done),rfl,zd,zd,by first|decide|(have h:=bJ.out;exact h),rfl,rfl,fun ad3 cap3 w3 hb3=> ?_⟩;have Hb3:=Lib.hid hb3;clear hb3)
     go_roundw
     case rel=>exact ⟨j+1,by go_num,hlt2,by have h:=Hb3.out;rw [K8 _ ds j u Hu.out] at h;simpa using h⟩
     case measure=>simp [intOf];omega
    have hjn:n=j:=zo
    subst hjn;obtain ⟨gV,bJ⟩:=zh2 hbs hln;clear hbs hln
    go_wp2_with fail
    go_loopw [0,261] (fun tv i wr=>i= .int .i64 0/\Buf F w wr tv (([48,46]:List UInt8)++l6 z++ds)) (fun _ _ _=>0)
    case atStart=>exact ⟨rfl,by simpa [List.take_of_length_le (Nat.le_of_eq Hn.out)] using gV.out⟩
    case round=>
     obtain ⟨rfl,hbt⟩:=hrel;have oq:=zh hbt;clear hbt
     go_wp2_with fail
     go_ret;exact ⟨_,rfl,oq.out⟩
 go_enter Tryz.func210,Tryz.ntmps210
 go_wp2_with (first|((with_reducible refine g9 (.tmp 179) ?_);refine ⟨rfl,F,w,_,_,[45],Hb.out,by first|rfl|(go_simp;done),rfl,zd,zd,by first|decide|(have h:=bJ.out;exact h),rfl,rfl,fun ad0 cap0 w0 hb0=> ?_⟩;have Hb0:=Lib.hid hb0;clear hb0)|((with_reducible refine g9 (.tmp 209) ?_);refine ⟨rfl,F,w,_,_,[48],Hb0.out,by first|rfl|(go_simp;done),rfl,zd,zd,by first|decide|(have h:=bJ.out;exact h),rfl,rfl,fun ad1 cap1 w1 hb1=> ?_⟩;have Hb1:=Lib.hid hb1;clear hb1)|((with_reducible refine g9 (.tmp 214) ?_);refine ⟨rfl,F,w,_,_,[46],Hb1.out,by first|rfl|(go_simp;done),rfl,zd,zd,by first|decide|(have h:=bJ.out;exact h),rfl,rfl,fun ad2 cap2 w2 hb2=> ?_⟩;have Hb2:=Lib.hid hb2;clear hb2))
 go_loopw [0,240] (fun tv i wr=>∃j:Nat,i= .int .i64 j/\j<=z/\Buf F w wr tv (([45,48,46]:List UInt8)++l6 j)) (fun _ i _=>z - (intOf i).toNat)
 case atStart=>exact ⟨0,rfl,Nat.zero_le _,Hb2.out⟩
 case round=>
  obtain ⟨j,rfl,hj,hbr⟩:=hrel;obtain ⟨adr,capr,hv, -⟩:=hbr.own.shape;subst hv;have hln:(([45,48,46]:List UInt8)++l6 j).length<=1000000:=by simp [l6];omega
  by_cases hlt:j<z
  ·have hlt':(j:Int)<z:=zo
   obtain ⟨bV,bJ⟩:=zh2 hbr hln;clear hbr hln
   go_wp2_with ((with_reducible refine g9 (.tmp 242) ?_);refine ⟨rfl,F,w,_,_,[48],bV.out,by first|rfl|(go_simp;done),rfl,zd,zd,by first|decide|(have h:=bJ.out;exact h),rfl,rfl,fun ad3 cap3 w3 hb3=> ?_⟩;have Hb3:=Lib.hid hb3;clear hb3)
   go_roundw
   case rel=>exact ⟨j+1,by go_num,hlt,by have h:=Hb3.out;rw [Z9] at h;simpa using h⟩
   case measure=>simp [intOf];omega
  have hjz:z=j:=zo
  subst hjz;obtain ⟨bV,bJ⟩:=zh2 hbr hln;clear hbr hln
  go_wp2_with fail
  go_loopw [0,247] (fun tv i wr=>∃j:Nat,i= .int .i64 j/\j<=n/\Buf F w wr tv (([45,48,46]:List UInt8)++l6 z++ds.take j)) (fun _ i _=>n - (intOf i).toNat)
  case atStart=>exact ⟨0,rfl,Nat.zero_le _,by rw [List.take_zero,zz11];exact bV.out⟩
  case round=>
   clear bJ;obtain ⟨j,rfl,hj2,hbs⟩:=hrel;obtain ⟨ads,caps,hv, -⟩:=hbs.own.shape;subst hv;have hln:(([45,48,46]:List UInt8)++l6 z++ds.take j).length<=1000000:=by simp [l6];omega
   by_cases hlt2:j<n
   ·have hlt':(j:Int)<n:=zo
    have qG:(j:Int)<32:=zo
    obtain ⟨u,hu⟩:∃u,ds[j]? =some u:=⟨_,zz5 (by have:=Hn.out;omega)⟩;have c0:=hbs.digs Hd.out Hg.out j u hu;unfold Y0 at c0;obtain ⟨gV,bJ,Hu⟩:=zh3 hbs hln hu;clear hbs hln hu
    go_wp2_with ((with_reducible refine g9 (.tmp 250) ?_);refine ⟨rfl,F,w,_,_,[u],gV.out,by first|rfl|(go_simp;done),rfl,zd,zd,by first|decide|(have h:=bJ.out;exact h),rfl,rfl,fun ad3 cap3 w3 hb3=> ?_⟩;have Hb3:=Lib.hid hb3;clear hb3)
    go_roundw
    case rel=>exact ⟨j+1,by go_num,hlt2,by have h:=Hb3.out;rw [K8 _ ds j u Hu.out] at h;simpa using h⟩
    case measure=>simp [intOf];omega
   have hjn:n=j:=zo
   subst hjn;obtain ⟨gV,bJ⟩:=zh2 hbs hln;clear hbs hln
   go_wp2_with fail
   go_loopw [0,261] (fun tv i wr=>i= .int .i64 0/\Buf F w wr tv (([45,48,46]:List UInt8)++l6 z++ds)) (fun _ _ _=>0)
   case atStart=>exact ⟨rfl,by simpa [List.take_of_length_le (Nat.le_of_eq Hn.out)] using gV.out⟩
   case round=>
    obtain ⟨rfl,hbt⟩:=hrel;have oq:=zh hbt;clear hbt
    go_wp2_with fail
    go_ret;exact ⟨_,rfl,oq.out⟩
end Go.Proofs.YtebhabpahfmodaaGreatDoor
