/- Lemmas. -/
import Derived.Test.YtdmjoodhaeijmaaGreatDoorZn6
import Derived.Lib.ItoaMem
import Derived.Great.BuildSlice
import Derived.BigGuardPart
set_option maxHeartbeats 40000000
set_option maxRecDepth 20000
namespace Go.Proofs.YtdmjoodhaeijmaaGreatDoor
section
open Go.RowKit
open Go.Sort
def Y4 (b:UInt8):Value:=Value.int .u8 (b.toNat:Int)
theorem b3s {w:World} {g:Nat} {cur:Array Value} {T:TypeId} {fr:Nat×Nat} (hg:w.heap[g]? =some (.cells cur T fr)) (d:Array UInt8):(putRow Y4 w g 0 d).heap[g]? =some (.cells (putCells Y4 0 d cur) T fr):=by
 show (w.heap.modify g (onCells (putCells Y4 0 d)))[g]? =_;rw [Array.getElem?_modify,if_pos rfl,hg];rfl
theorem b48 (w:World) (g off:Nat) (d:Array UInt8):Mod (fun k=>k=g) w (putRow Y4 w g off d):=by
 refine ⟨rfl,rfl,rfl,Nat.le_of_eq ?_,fun k _ hk=> ?_⟩
 ·show _=(w.heap.modify g _).size;rw [Array.size_modify]
 show (w.heap.modify g _)[k]? =_;rw [Array.getElem?_modify,if_neg (fun h=>hk h.symm)]
def B0 (l:List UInt8):Nat:=(l.reverse.dropWhile (· ==48)).length
theorem a1P (l:List UInt8):B0 l<=l.length:=by
 have:=(List.dropWhile_sublist (l:=l.reverse) (· ==48)).length_le;simpa [B0] using this
theorem a2l (l:List UInt8) (x:UInt8):B0 (l++[x])=if x=48 then B0 l else l.length+1:=by
 unfold B0;rw [List.reverse_append];simp only [List.reverse_cons,List.reverse_nil,List.nil_append,List.singleton_append,List.dropWhile_cons,beq_iff_eq];split<;>simp
theorem b0O (l:List UInt8) (k:Nat) (x:UInt8) (h:l[k]? =some x):B0 (l.take (k+1))=if x=48 then B0 (l.take k) else k+1:=by
 obtain ⟨hk,hx⟩:=zz6 h;rw [List.take_succ_eq_append_getElem hk,a2l,hx,List.length_take,Nat.min_eq_left zo]
def a1r (w:World) (g:Nat) (l:List UInt8):Prop:=∀j u,l[j]? =some u->w.cell? ⟨g,j,none⟩=some (Y4 u)
theorem a1r.mod {w w':World} {g:Nat} {l:List UInt8} {F:Nat->Prop} (h:a1r w g l) (hm:Mod F w w') (hF:¬F g):a1r w' g l:=fun j u hu=>hm.cell (h j u hu) hF
theorem b0P (w:World) (g:Nat) (cur:Array Value) (T:TypeId) (d n:Nat) (p:Int) (hg:w.heap[g]? =some (.cells cur T (0,0))) (hz:∀j,j<32->cur[j]? =some (.int .u8 0)) (hd1:d<18446744073709551616)
 (hn:n=Lib.nDigits d) (hn32:n<=32) (hdn:d<10^n) (hp: -10000<=p/\p<=10000):
 Calls Tryz.prog 241 #[.slice (some ⟨g,0,none⟩) 32 32,.int .u64 d,.int .i64 p,.int .i64 n] w fun x w'=>x= .returned (.tuple #[.int .i64 (n+p),.int .i64 (B0 (Lib.decDigits d):Nat)])/\a1r w' g (Lib.decDigits d)/\Mod (fun k=>k=g) w w':=by
 have hH:Holds Y4 w g 0 (Array.replicate n (0:UInt8)):=fun j hj=>by
  have hj':j<n:=by simpa using hj
  refine ⟨?_,by rw [Nat.zero_add];exact r9 hg⟩;rw [Nat.zero_add,d6 hg (hz j zo),getElem!_pos _ j hj];simp [Y4]
 have iw:=Tryz.internal_strconv_formatBase10 g 0 32 d (Array.replicate n (0:UInt8)) w hH (by simpa using hdn) hd1 (by simp;omega);have hsz:(Array.replicate n (0:UInt8)).size=n:=by simp
 rw [hsz] at iw;have hl:(Lib.decDigits d).length=n:=by rw [Lib.decDigits_length,hn]
 refine hh5 iw hl hn hdn hsz fun H8 Hl Hn Yn AC=> ?_;clear iw hl hn hdn hsz
 go_enter Tryz.func241,Tryz.ntmps241
 go_wp2_with fail
 refine H8.out.mono ?_;rintro x w1 ⟨rfl,k,v',dk,hw1,hI⟩;have hm1:Mod (fun k=>k=g) w w1:=hw1▸(b48 w g 0 dk).drewN k
 have hD1:a1r w1 g (Lib.decDigits d):=by
  intro j u hu;obtain ⟨hj,Wp⟩:=zz6 hu;have hdk:dk.size=n:=hI.size;have e:=Lib.row_is_numeral (Hn.out▸hI) j hj;have hj2:j<n:=Hl.out▸hj;rw [hw1];refine d6 (a1e (b3s hg dk) k) ?_;unfold putCells;rw [Array.getElem?_mapIdx,hz j zo,Option.map_some,if_pos ⟨Nat.zero_le _,zo⟩,Nat.sub_zero,<-e,Wp]
 clear hI hw1;refine hh2 hm1 hD1 fun dn HD1=> ?_;clear hm1 hD1
 go_wp2_with fail
 go_loopw [3] (fun i wr=>∃k:Nat,i= .int .i64 k/\k<=n/\B0 ((Lib.decDigits d).take k)=B0 (Lib.decDigits d)/\wr=w1) (fun i _=>(intOf i).toNat)
 case atStart=>exact ⟨n,rfl,Nat.le_refl _,by rw [List.take_of_length_le (Nat.le_of_eq Hl.out)],rfl⟩
 case round=>
  obtain ⟨k,rfl,hk,ht,rfl⟩:=hrel;refine hh1 ht fun Ht=> ?_;clear ht;by_cases h0:k=0
  ·subst h0
   go_wp2_with fail
   go_ret2
   have e:B0 (Lib.decDigits d)=0:=Ht.out.symm.trans rfl;exact ⟨by rw [e];rfl,HD1.out,dn.out⟩
  obtain ⟨m,rfl⟩:∃m,k=m+1:=⟨k - 1,zo⟩;obtain ⟨u,hu⟩:∃u,(Lib.decDigits d)[m]? =some u:=⟨_,zz5 (by have:=Hl.out;omega)⟩;have c0:=HD1.out m u hu;have h2:(0:Int)<(m+1:Nat):=zo
  have e1:((m+1:Nat):Int) - 1=m:=zo
  have Wq:(m:Int)<32:=zo
  unfold Y4 at c0;have fM:=b0O _ m u hu;rw [Ht.out] at fM;by_cases h48:u=48
  ·subst h48;rw [if_pos rfl] at fM;refine hh2 fM hu fun rR Hu=> ?_;clear fM hu
   go_wp2_with fail
   exact ⟨⟨m,rfl,zo,rR.out.symm,trivial⟩,by simp [intOf]⟩
  have h48':(u.toNat:Int)≠48:=fun h=>h48 (by apply UInt8.toNat_inj.1;simpa using Int.ofNat_inj.1 h);rw [if_neg h48] at fM;refine hh2 fM hu fun rR Hu=> ?_;clear fM hu
  go_wp2_with fail
  go_ret2
  exact ⟨by rw [rR.out];rfl,HD1.out,dn.out⟩
end
section
open Go.RowKit
structure Buf (F:Nat->Prop) (w0 w:World) (v:Value) (bs:List UInt8):Prop where
 own:g7 w 5 1 v bs.length (u8s bs)
 new:∀k,v.ownBlock=some k->F k\/w0.heap.size<=k
 mod:Mod F w0 w
theorem Buf.alloc {F:Nat->Prop} {w0 w:World} {v:Value} {bs:List UInt8} (h:Buf F w0 w v bs) (o:Obj):Buf F w0 (w.alloc o) v bs:=⟨h.own.alloc o,h.new,h.mod.alloc o⟩
theorem Buf.also {F:Nat->Prop} {w0 w w':World} {v:Value} {bs:List UInt8} (h:Buf F w0 w v bs) (hm:Mod (fun _=>False) w w'):Buf F w0 w' v bs:=⟨h.own.mod hm zi,h.new,h.mod.trans hm (fun _ _ h=>h.elim)⟩
theorem Buf.rebase {F:Nat->Prop} {w w0:World} {v:Value} {bs:List UInt8} (h:Buf F w w v bs) (hm:Mod (fun _=>False) w w0):Buf F w0 w0 v bs:=by
 refine ⟨h.own.mod hm zi,fun k hk=> ?_,Mod.refl _ _⟩;rcases h.new k hk with h1|h1
 ·exact .inl h1
 have:=h.own.lt k hk;omega
theorem Buf.under {F:Nat->Prop} {w w0 w':World} {v:Value} {bs:List UInt8} (h:Buf F w0 w' v bs) (hm:Mod (fun _=>False) w w0):Buf F w w' v bs:=by
 refine ⟨h.own,fun k hk=> ?_,(hm.mono (fun _ _ h=>h.elim)).trans h.mod zi⟩;rcases h.new k hk with h1|h1
 ·exact .inl h1
 exact .inr (Nat.le_trans hm.size h1)
theorem Buf.digs {F:Nat->Prop} {w0 w:World} {v:Value} {bs l:List UInt8} {g:Nat} (h:Buf F w0 w v bs) (hd:a1r w0 g l) (hg:¬F g):a1r w g l:=hd.mod h.mod hg
theorem a7k:B7 Tryz.prog 76 5 1 1:=I8 zk zk
theorem a7l (bs:List UInt8):∀u∈u8s bs,u.oneCell'=true:=by
 intro u hu;obtain ⟨b, -,rfl⟩:=List.mem_map.1 hu;rfl
theorem a8y (a b:List UInt8):u8s (a++b)=u8s a++u8s b:=by simp [u8s]
theorem b6g {l:List UInt8} {j:Nat} {u:Value} (h:(u8s l)[j]? =some u):∃b,l[j]? =some b/\u= .int .u8 (b.toNat:Int):=by
 unfold u8s at h;rw [List.getElem?_map] at h
 cases hb:l[j]? with
 |none=>rw [hb] at h;cases h
 |some b=>rw [hb] at h;exact ⟨b,rfl,(Option.some.inj h).symm⟩
theorem Buf.put {F:Nat->Prop} {w0 w w':World} {v v':Value} {bs l:List UInt8} {m:Nat} (h:Buf F w0 w v bs) (hl:l.length=m) (ha:B9 w 5 1 v (bs.length+m) (u8s bs++u8s l) v' w'):Buf F w0 w' v' (bs++l):=by
 obtain ⟨h1,h2,h3⟩:=ha;refine ⟨by rw [zz4,hl,a8y];exact h1,fun k hk=> ?_,h.mod.trans h2 ?_⟩
 ·rcases h3 with h3|⟨k',h3,h4⟩
  ·exact h.new k (h3▸hk)
  rw [h3] at hk;cases hk
  exact .inr (Nat.le_trans h.mod.size h4)
 intro b hb hv;rcases h.new b hv with h5|h5
 ·exact h5
 omega
section
variable {w:World} {ops:Array Oper} {rest:List Oper} {a:Act} {Q:Exit->Act->World->Prop} {d:Option Tmp} {tp tp':TypeId} {pos pos':String} {af af':Array Edge}
theorem g0 {at1:Array TypeId} {k:Tmp} {n:Nat} {parts:Array (Nat×Operand)} (s:Operand)
 (h:at1=#[76,76]/\∃(F:Nat->Prop) (w0:World) (v:Value) (bs l:List UInt8),Buf F w0 w v bs/\parts.toList.map (fun p=>(p.1,a.eval p.2))=((u8s l).zipIdx 0).map (fun x=>(x.2,x.1))/\l.length=n/\0<n/\n<=16/\bs.length<=1000000/\
   (a.put (some k) (.slice (some ⟨w.heap.size,0,none⟩) n n)).eval s=v/\(a.put (some k) (.slice (some ⟨w.heap.size,0,none⟩) n n)).eval (.tmp k)= .slice (some ⟨w.heap.size,0,none⟩) n n/\
   ∀ad cap w',Buf F w0 w' (.slice ad (bs.length+n) cap) (bs++l)->wpList Tryz.prog ops Q rest ((a.put (some k) (.slice (some ⟨w.heap.size,0,none⟩) n n)).put d (.slice ad (bs.length+n) cap)) w'):
 wpList Tryz.prog ops Q (⟨some k,.buildSlice 76 n parts,tp,pos,af,none⟩::⟨d,.call {callee:= .builtin .append,args:=#[s,.tmp k],argTypes:=at1},tp',pos',af',none⟩::rest) a w:=by
 obtain ⟨rfl,F,w0,v,bs,l,hb,hp,hl,h0,h16,hlen,hs,hx,hK⟩:=h;obtain ⟨i,z,hi,hz,hs1,hb1,hz1⟩:=a7k.2;refine wpList_buildSlice rfl 76 5 n parts rfl (u8s l).toArray i z a7k.1 hi hz (by rw [hs1];omega) (by rw [hs1];omega) ?_ ?_
 ·have hp2:(parts.map fun (i,x)=>(i,a.eval x)).toList=((u8s l).zipIdx 0).map (fun x=>(x.2,x.1)):=by rw [Array.toList_map];exact hp
  rw [hs1,hp2]
  have hf:=Great.fill_whole (s:=1) zd (u8s l) ((Array.range (n*1)).map (z.cells[· %z.cells.size]!)) (fun v hv=>by
   obtain ⟨b, -,rfl⟩:=List.mem_map.1 hv
   rfl) (by rw [Z1];simp [hl])
  rw [hf];congr 2;unfold u8s;rw [List.flatMap_map];exact List.map_eq_flatMap.symm
 have hn:(u8s l).length=n:=by rw [Z1,hl]
 refine t7 rfl s (.tmp k) 76 rfl 5 1 1 a7k v bs.length (u8s bs) hs (hb.own.alloc _) (.slice (some ⟨w.heap.size,0,none⟩) n n) n (u8s l) hx ?_ (a7l l) zo (by unfold maxLen;omega) ?_
 ·refine ⟨zo,_,_,rfl,Nat.le_refl _,by simp,fun b hb _=> ?_⟩;cases hb
  exact ⟨_,_,rfl,fun j u hj=>d8.new w (u8s l) 5 j u hj⟩
 intro ad cap w' ha;exact hK ad cap w' ((hb.alloc _).put hl ha)
theorem W2 {at1:Array TypeId} (s y:Operand)
 (h:at1=#[76,76]/\∃(F:Nat->Prop) (w0:World) (v:Value) (bs l:List UInt8) (x:Value),Buf F w0 w v bs/\a.eval s=v/\a.eval y=x/\i8 w 1 x l.length (u8s l)/\bs.length<=1000000/\l.length<=1000000/\
   ∀ad cap w',Buf F w0 w' (.slice ad (bs.length+l.length) cap) (bs++l)->wpList Tryz.prog ops Q rest (a.put d (.slice ad (bs.length+l.length) cap)) w'):
 wpList Tryz.prog ops Q (⟨d,.call {callee:= .builtin .append,args:=#[s,y],argTypes:=at1},tp,pos,af,none⟩::rest) a w:=by
 obtain ⟨rfl,F,w0,v,bs,l,x,hb,hs,hy,hx,h1,h2,hK⟩:=h;exact t7 rfl s y 76 rfl 5 1 1 a7k v bs.length (u8s bs) hs hb.own x l.length (u8s l) hy hx (a7l l) zo (by unfold maxLen;omega) fun ad cap w' ha=>hK ad cap w' (hb.put rfl ha)
end
end
open Go.RowKit
def B6 (neg:Bool):List UInt8:=if neg then [45] else []
def j2 (n:Nat):List UInt8:=List.replicate n 48
theorem a0e (l:List UInt8) (j:Nat):l++j2 j++[48]=l++j2 (j+1):=by
 unfold j2;rw [zz12,List.replicate_succ']
theorem K8 (l d:List UInt8) (j:Nat) (u:UInt8) (h:d[j]? =some u):l++d.take j++[u]=l++d.take (j+1):=by
 obtain ⟨hk,hx⟩:=zz6 h;rw [zz12,List.take_succ_eq_append_getElem hk,hx]
theorem b49 (F:Nat->Prop) (w:World) (v:Value) (g:Nat) (neg:Bool) (ds:List UInt8) (z:Nat) (hb:Buf F w w v []) (hd:a1r w g ds) (hg:¬F g) (h0:0<ds.length) (h32:ds.length<=32) (hz:z<=3):
 Calls Tryz.prog 239 #[v,.bool neg,.slice (some ⟨g,0,none⟩) 32 32,.int .i64 (-(z:Int)),.int .i64 ds.length,.int .i64 ds.length,.int .u8 103,.bool true] w fun x w'=>∃v',x= .returned v'/\Buf F w w' v' (B6 neg++[48,46]++j2 z++ds):=by
 obtain ⟨ad,cap,rfl, -⟩:=hb.own.shape;obtain ⟨n,hn⟩:∃n,ds.length=n:=⟨_,rfl⟩;rw [hn] at h0 h32⊢;have hmx:max ((n:Int)+z) 0=n+z:=zo
 have h4:¬(-(z:Int) - 1< -4):=zo
 have II:decide (-(z:Int) - 1< -4)=false:=decide_eq_false h4;have h6: -(z:Int) - 1<6:=zo
 have hpn: -(z:Int)<n:=zo
 have hz0: -(z:Int)<=0:=zo
 have Ws:max 0 (z:Int)=z:=zo
 have Wt:min ((n:Int)+z) z=z:=zo
 have Wu:max 0 (n:Int)=n:=zo
 have hzz: -(z:Int)+z=0:=zo
 have hnn:(n:Int)+z - z=n:=zo
 have hn0:(n:Int) - 0=n:=zo
 have hnx:(n:Int) - n=0:=zo
 refine hh4 hb hd hg hn fun Hb Hd Hg Hn=> ?_;clear hb hd hg hn;cases neg
 ·go_enter Tryz.func239,Tryz.ntmps239
  go_wp2_with (first|((with_reducible refine g0 (.tmp 209) ?_);refine ⟨rfl,F,w,_,_,[48],Hb.out,by first|rfl|(go_simp;done),rfl,zd,zd,by first|decide|(have h:=aY.out;exact h),rfl,rfl,fun ad1 cap1 w1 hb1=> ?_⟩;have Hb1:=Lib.hid hb1;clear hb1)|((with_reducible refine g0 (.tmp 214) ?_);refine ⟨rfl,F,w,_,_,[46],Hb1.out,by first|rfl|(go_simp;done),rfl,zd,zd,by first|decide|(have h:=aY.out;exact h),rfl,rfl,fun ad2 cap2 w2 hb2=> ?_⟩;have Hb2:=Lib.hid hb2;clear hb2))
  go_loopw [0,240] (fun tv i wr=>∃j:Nat,i= .int .i64 j/\j<=z/\Buf F w wr tv (([48,46]:List UInt8)++j2 j)) (fun _ i _=>z - (intOf i).toNat)
  case atStart=>exact ⟨0,rfl,Nat.zero_le _,Hb2.out⟩
  case round=>
   obtain ⟨j,rfl,hj,hbr⟩:=hrel;obtain ⟨adr,capr,hv, -⟩:=hbr.own.shape;subst hv;have hln:(([48,46]:List UInt8)++j2 j).length<=1000000:=by simp [j2];omega
   by_cases hlt:j<z
   ·have hlt':(j:Int)<z:=zo
    refine hh2 hbr hln fun bZ aY=> ?_;clear hbr hln
    go_wp2_with ((with_reducible refine g0 (.tmp 242) ?_);refine ⟨rfl,F,w,_,_,[48],bZ.out,by first|rfl|(go_simp;done),rfl,zd,zd,by first|decide|(have h:=aY.out;exact h),rfl,rfl,fun ad3 cap3 w3 hb3=> ?_⟩;have Hb3:=Lib.hid hb3;clear hb3)
    go_roundw
    case rel=>exact ⟨j+1,by go_num,hlt,by have h:=Hb3.out;rw [a0e] at h;simpa using h⟩
    case measure=>simp [intOf];omega
   have hjz:z=j:=zo
   subst hjz;refine hh2 hbr hln fun bZ aY=> ?_;clear hbr hln
   go_wp2_with fail
   go_loopw [0,247] (fun tv i wr=>∃j:Nat,i= .int .i64 j/\j<=n/\Buf F w wr tv (([48,46]:List UInt8)++j2 z++ds.take j)) (fun _ i _=>n - (intOf i).toNat)
   case atStart=>exact ⟨0,rfl,Nat.zero_le _,by rw [List.take_zero,zz11];exact bZ.out⟩
   case round=>
    clear aY;obtain ⟨j,rfl,hj2,hbs⟩:=hrel;obtain ⟨ads,caps,hv, -⟩:=hbs.own.shape;subst hv;have hln:(([48,46]:List UInt8)++j2 z++ds.take j).length<=1000000:=by simp [j2];omega
    by_cases hlt2:j<n
    ·have hlt':(j:Int)<n:=zo
     have nL:(j:Int)<32:=zo
     obtain ⟨u,hu⟩:∃u,ds[j]? =some u:=⟨_,zz5 (by have:=Hn.out;omega)⟩;have c0:=hbs.digs Hd.out Hg.out j u hu;unfold Y4 at c0;refine hh3 hbs hln hu fun eP aY Hu=> ?_;clear hbs hln hu
     go_wp2_with ((with_reducible refine g0 (.tmp 250) ?_);refine ⟨rfl,F,w,_,_,[u],eP.out,by first|rfl|(go_simp;done),rfl,zd,zd,by first|decide|(have h:=aY.out;exact h),rfl,rfl,fun ad3 cap3 w3 hb3=> ?_⟩;have Hb3:=Lib.hid hb3;clear hb3)
     go_roundw
     case rel=>exact ⟨j+1,by go_num,hlt2,by have h:=Hb3.out;rw [K8 _ ds j u Hu.out] at h;simpa using h⟩
     case measure=>simp [intOf];omega
    have hjn:n=j:=zo
    subst hjn;refine hh2 hbs hln fun eP aY=> ?_;clear hbs hln
    go_wp2_with fail
    go_loopw [0,261] (fun tv i wr=>i= .int .i64 0/\Buf F w wr tv (([48,46]:List UInt8)++j2 z++ds)) (fun _ _ _=>0)
    case atStart=>exact ⟨rfl,by simpa [List.take_of_length_le (Nat.le_of_eq Hn.out)] using eP.out⟩
    case round=>
     obtain ⟨rfl,hbt⟩:=hrel;refine hh1 hbt fun ll=> ?_;clear hbt
     go_wp2_with fail
     go_ret;exact ⟨_,rfl,ll.out⟩
 go_enter Tryz.func239,Tryz.ntmps239
 go_wp2_with (first|((with_reducible refine g0 (.tmp 179) ?_);refine ⟨rfl,F,w,_,_,[45],Hb.out,by first|rfl|(go_simp;done),rfl,zd,zd,by first|decide|(have h:=aY.out;exact h),rfl,rfl,fun ad0 cap0 w0 hb0=> ?_⟩;have Hb0:=Lib.hid hb0;clear hb0)|((with_reducible refine g0 (.tmp 209) ?_);refine ⟨rfl,F,w,_,_,[48],Hb0.out,by first|rfl|(go_simp;done),rfl,zd,zd,by first|decide|(have h:=aY.out;exact h),rfl,rfl,fun ad1 cap1 w1 hb1=> ?_⟩;have Hb1:=Lib.hid hb1;clear hb1)|((with_reducible refine g0 (.tmp 214) ?_);refine ⟨rfl,F,w,_,_,[46],Hb1.out,by first|rfl|(go_simp;done),rfl,zd,zd,by first|decide|(have h:=aY.out;exact h),rfl,rfl,fun ad2 cap2 w2 hb2=> ?_⟩;have Hb2:=Lib.hid hb2;clear hb2))
 go_loopw [0,240] (fun tv i wr=>∃j:Nat,i= .int .i64 j/\j<=z/\Buf F w wr tv (([45,48,46]:List UInt8)++j2 j)) (fun _ i _=>z - (intOf i).toNat)
 case atStart=>exact ⟨0,rfl,Nat.zero_le _,Hb2.out⟩
 case round=>
  obtain ⟨j,rfl,hj,hbr⟩:=hrel;obtain ⟨adr,capr,hv, -⟩:=hbr.own.shape;subst hv;have hln:(([45,48,46]:List UInt8)++j2 j).length<=1000000:=by simp [j2];omega
  by_cases hlt:j<z
  ·have hlt':(j:Int)<z:=zo
   refine hh2 hbr hln fun bZ aY=> ?_;clear hbr hln
   go_wp2_with ((with_reducible refine g0 (.tmp 242) ?_);refine ⟨rfl,F,w,_,_,[48],bZ.out,by first|rfl|(go_simp;done),rfl,zd,zd,by first|decide|(have h:=aY.out;exact h),rfl,rfl,fun ad3 cap3 w3 hb3=> ?_⟩;have Hb3:=Lib.hid hb3;clear hb3)
   go_roundw
   case rel=>exact ⟨j+1,by go_num,hlt,by have h:=Hb3.out;rw [a0e] at h;simpa using h⟩
   case measure=>simp [intOf];omega
  have hjz:z=j:=zo
  subst hjz;refine hh2 hbr hln fun bZ aY=> ?_;clear hbr hln
  go_wp2_with fail
  go_loopw [0,247] (fun tv i wr=>∃j:Nat,i= .int .i64 j/\j<=n/\Buf F w wr tv (([45,48,46]:List UInt8)++j2 z++ds.take j)) (fun _ i _=>n - (intOf i).toNat)
  case atStart=>exact ⟨0,rfl,Nat.zero_le _,by rw [List.take_zero,zz11];exact bZ.out⟩
  case round=>
   clear aY;obtain ⟨j,rfl,hj2,hbs⟩:=hrel;obtain ⟨ads,caps,hv, -⟩:=hbs.own.shape;subst hv;have hln:(([45,48,46]:List UInt8)++j2 z++ds.take j).length<=1000000:=by simp [j2];omega
   by_cases hlt2:j<n
   ·have hlt':(j:Int)<n:=zo
    have nL:(j:Int)<32:=zo
    obtain ⟨u,hu⟩:∃u,ds[j]? =some u:=⟨_,zz5 (by have:=Hn.out;omega)⟩;have c0:=hbs.digs Hd.out Hg.out j u hu;unfold Y4 at c0;refine hh3 hbs hln hu fun eP aY Hu=> ?_;clear hbs hln hu
    go_wp2_with ((with_reducible refine g0 (.tmp 250) ?_);refine ⟨rfl,F,w,_,_,[u],eP.out,by first|rfl|(go_simp;done),rfl,zd,zd,by first|decide|(have h:=aY.out;exact h),rfl,rfl,fun ad3 cap3 w3 hb3=> ?_⟩;have Hb3:=Lib.hid hb3;clear hb3)
    go_roundw
    case rel=>exact ⟨j+1,by go_num,hlt2,by have h:=Hb3.out;rw [K8 _ ds j u Hu.out] at h;simpa using h⟩
    case measure=>simp [intOf];omega
   have hjn:n=j:=zo
   subst hjn;refine hh2 hbs hln fun eP aY=> ?_;clear hbs hln
   go_wp2_with fail
   go_loopw [0,261] (fun tv i wr=>i= .int .i64 0/\Buf F w wr tv (([45,48,46]:List UInt8)++j2 z++ds)) (fun _ _ _=>0)
   case atStart=>exact ⟨rfl,by simpa [List.take_of_length_le (Nat.le_of_eq Hn.out)] using eP.out⟩
   case round=>
    obtain ⟨rfl,hbt⟩:=hrel;refine hh1 hbt fun ll=> ?_;clear hbt
    go_wp2_with fail
    go_ret;exact ⟨_,rfl,ll.out⟩
end Go.Proofs.YtdmjoodhaeijmaaGreatDoor
