/- Lemmas. -/
import Derived.Test.YtebhabpahfmodaaGreatDoorZh46
set_option maxHeartbeats 40000000
set_option maxRecDepth 20000
namespace Go.Proofs.YtebhabpahfmodaaGreatDoor
open Go.RowKit
theorem a83 {l:List Ru} {k:Nat} {y:Ru} (h:l[k]? =some y) (i:Int):D3 (l.map Ru.pru) i (k+1)=(D3 (l.map Ru.pru) i k||(decide (y.kind=4)&&decide (y.at_=i))):=by
 unfold D3;rw [List.take_add_one,List.getElem?_map,h,List.any_append];simp [Ru.pru]
theorem a84 (l:List PRu) (i:Int):D3 l i 0=false:=rfl
theorem a7t {L:List PRu} {q p:PRu} (h:p∈M5 L q):p∈L\/(p=q.kept/\q.rightB=true):=by
 unfold M5 at h;split at h
 ·rename_i hc
  rcases zz14 h with h|h
  ·exact .inl h
  refine .inr ⟨List.mem_singleton.1 h, ?_⟩
  cases hq:q.rightB with
  |true=>rfl
  |false=>unfold a1B at hc;rw [if_pos hq] at hc;cases hc
 exact .inl h
theorem a7u (l:List PRu):∀p∈M4 l,p.kind=0->0<=p.broker:=by
 unfold M4
 suffices∀(l L:List PRu),(∀p∈L,p.kind=0->0<=p.broker)->∀p∈l.foldl M5 L,p.kind=0->0<=p.broker from this l [] (fun p hp=>by cases hp)
 intro l
 induction l with
 |nil=>exact fun L h=>h
 | cons q l ih=>
  intro L h;refine ih (M5 L q) fun p hp hk=> ?_;rcases a7t hp with hp|⟨rfl,hr⟩
  ·exact h p hp hk
  have h1:q.kept.kind=q.kind:=by unfold PRu.kept;split<;>rfl
  have h2:q.kept.broker=q.broker:=by unfold PRu.kept;split<;>rfl
  rw [h2];exact (Ru.right_is hr).1 (h1.symm.trans hk)
theorem b47 (w:World) (a:Option Addr) (cap:Nat) (l:List Ru) (hv:I9 w (.slice a l.length cap) l) (hll:l.length<=1000) (n:Nat) (hnl:n<=l.length):
 Calls Tryz.prog 12 #[.slice a l.length cap,.int .i64 n] w (a8F w l n):=by
 have hcap:l.length<=cap:=by obtain ⟨-,a',c',h,h2, -⟩:=hv.rd;cases h;exact h2
 have bf:(l.length:Int)<=cap:=zo
 have bN:(l.length:Int)<=1000:=zo
 have hn0:(0:Int)<=n:=zo
 have CU:(n:Int)<=1000:=zo
 have Hv:=zh hv;clear hv hcap
 go_enter Tryz.func12,Tryz.ntmps12
 go_wp2_with fail
 go_loopw [5,6] (fun ov i wr=>∃(j:Nat) (oa:Option Addr) (oc:Nat),i= .int .i64 j/\j<=n/\ov= .slice oa (atJ l n j).length oc/\j2 wr 28 8 (.slice oa (atJ l n j).length oc) (atJ l n j).length (rus (atJ l n j))/\(∀b,(Value.slice oa (atJ l n j).length oc).ownBlock=some b->w.heap.size<=b)/\Mod (fun _=>False) w wr) (fun _ i _=>n - (intOf i).toNat)
 case atStart=>exact ⟨0,none,0,rfl,Nat.zero_le _,rfl,j2.nil _ _ _,fun b hb=>(by cases hb),Mod.refl _ _⟩
 case round=>
  obtain ⟨j,oa,oc,rfl,hj,rfl,how,dW,hmr⟩:=hrel;by_cases hlt:j<n
  ·have hlt':(j:Int)<n:=zo
   obtain ⟨x,hxj⟩:∃x,l[j]? =some x:=⟨_,zz5 zo⟩;have gL:=Hv.out.mod hmr;have Ee:=gL;have b8d:(j:Int)<l.length:=zo
   obtain ⟨g2,off,rfl,hf⟩:∃g2 off,a=some ⟨g2,off,none⟩/\e9 wr g2 (off+j*8) x.cells:=F1 Ee hxj;have c0:wr.cell? ⟨g2,off+j*8,none⟩=some (.int .i64 x.kind):=hf 0 _ rfl;have hsu:=a69 (n:=n) (show (l.take n)[j]? =some x by rw [List.getElem?_take_of_lt hlt];exact hxj);have hjl:=a5Q l n j;obtain ⟨acc,hacc⟩:∃acc,atJ l n j=acc:=⟨_,rfl⟩;obtain ⟨nx,hnx⟩:∃nx,atJ l n (j+1)=nx:=⟨_,rfl⟩;obtain ⟨G,hG⟩:∃G,D3 (l.map Ru.pru) j n=G:=⟨_,rfl⟩;obtain ⟨k4,hk4⟩:∃b,decide (x.kind=4)=b:=⟨_,rfl⟩;have iG:(x.kind !=4)= !k4:=by rw [<-hk4];by_cases h:x.kind=4<;>simp [h]
   rw [hacc] at how dW hsu hjl⊢;rw [hnx,hG,hk4] at hsu;obtain ⟨aK,cB,Hf,dH,How,eF,dn,kH,TI,HG,XQ⟩:=zh11 hmr hxj hf hsu how dW hnx hacc Ee hG hk4;clear hmr hxj hf hsu how dW hnx hacc Ee hG hk4 gL
   go_wp2_with fail
   go_loopw [7,8] (fun kv kk wi=>∃k:Nat,kk= .int .i64 k/\k<=n/\kv= .bool (!(k4||D3 (l.map Ru.pru) j k))/\wi=wr) (fun _ kk _=>n - (intOf kk).toNat)
   case atStart=>exact ⟨0,rfl,Nat.zero_le _,by rw [a84,Bool.or_false],rfl⟩
   case round=>
    obtain ⟨k,rfl,hk,rfl,rfl⟩:=hrel;by_cases hkt:k<n
    ·have b8e:(k:Int)<n:=zo
     obtain ⟨y,hyk⟩:∃y,l[k]? =some y:=⟨_,zz5 zo⟩;have b8f:(k:Int)<l.length:=zo
     obtain ⟨g3,off3,Gl,hf3⟩:=F1 TI.out hyk;cases Gl
     have d0:wr.cell? ⟨g2,off+k*8,none⟩=some (.int .i64 y.kind):=hf3 0 _ rfl;have d7:wr.cell? ⟨g2,off+k*8+7,none⟩=some (.int .i64 y.at_):=hf3 7 _ rfl;have hgs:=a83 hyk j;obtain ⟨AC,Wi⟩:=zh2 hgs hyk;clear hgs hyk hf3;by_cases hy4:y.kind=4
     ·have e4:(y.kind==4)=true:=by simp [hy4]
      by_cases hya:y.at_=j
      ·have ea:(y.at_==(j:Int))=true:=by simp [hya]
       have lD:D3 (l.map Ru.pru) j (k+1)=true:=by rw [AC.out,decide_eq_true hy4,decide_eq_true hya];simp
       have tZ:=zh lD;clear lD hy4 hya
       go_wp2_with fail
       go_roundw
       case rel=>exact ⟨k+1,by go_num,hkt,by rw [tZ.out,Bool.or_true];rfl,trivial⟩
       case measure=>simp [intOf];omega
      have ea:(y.at_==(j:Int))=false:=by simp [hya]
      have lD:D3 (l.map Ru.pru) j (k+1)=D3 (l.map Ru.pru) j k:=by rw [AC.out,decide_eq_true hy4,decide_eq_false hya];simp
      have tZ:=zh lD;clear lD hy4 hya
      go_wp2_with fail
      go_roundw
      case rel=>exact ⟨k+1,by go_num,hkt,by rw [tZ.out],trivial⟩
      case measure=>simp [intOf];omega
     have e4:(y.kind==4)=false:=by simp [hy4]
     have lD:D3 (l.map Ru.pru) j (k+1)=D3 (l.map Ru.pru) j k:=by rw [AC.out,decide_eq_false hy4];simp
     have tZ:=zh lD;clear lD hy4
     go_wp2_with fail
     go_roundw
     case rel=>exact ⟨k+1,by go_num,hkt,by rw [tZ.out],trivial⟩
     case measure=>simp [intOf];omega
    obtain rfl:k=n:=zo
    obtain ⟨q,hq⟩:∃q,(k4||G)=q:=⟨_,rfl⟩;rw [HG.out,hq];have fB:=dH.out;rw [hq] at fB
    cases q with
    |true=>
     have hn2:nx=acc:=by rw [fB];simp
     have jH:=zh hn2;clear hn2 fB hq
     go_wp2_with fail
     go_roundw
     case rel=>exact ⟨j+1,oa,oc,by go_num,hlt,by rw [dn.out,jH.out],by rw [dn.out,jH.out];exact How.out,by rw [dn.out,jH.out];exact eF.out,aK.out⟩
     case measure=>simp [intOf];omega
    | false=>
     have hn2:nx=acc++[x]:=by rw [fB];rfl
     obtain ⟨wS,gP,bX,iE,iF⟩:=g8 wr (.cells x.cells.toArray 28);have hrd:j3 wS 8 (.slice (some ⟨wr.heap.size,0,none⟩) 1 1) 1 x.cells:=gP▸j3.one wr x.cells 28 rfl;have fw:wr.alloc (.cells #[.int .i64 x.kind,.int .i64 x.tenant,.string x.who,.int .i64 x.broker,.string x.sc,.slice x.ca x.cs.length x.cc,.string x.name,.int .i64 x.at_] 28)=wS:=gP;have hownS:=How.out.mod bX zi;have kW:=aK.out.trans bX zi;have hone:∀u∈x.cells,u.oneCell'=true:=fun u hu=>zz15 (show x.cells.all (·.oneCell')=true from rfl) u hu;have hlen:nx.length=acc.length+1:=by rw [hn2];simp
     have sO:rus acc++x.cells=rus nx:=by rw [hn2,Z4,a1M];simp [rus]
     obtain ⟨iq,jG,gz,kX,aX,Hlen,CV⟩:=zh7 hrd fw hownS kW hone hlen sO;clear hrd fw hownS kW hone hlen sO gP bX iE iF hn2 fB hq
     go_wp2_with (first|((with_reducible refine d8 28 (.tmp 56) ?_);refine ⟨g2,off+j*8,rfl,[.int .i64 x.kind,.int .i64 x.tenant,.string x.who,.int .i64 x.broker,.string x.sc,.slice x.ca x.cs.length x.cc,.string x.name,.int .i64 x.at_],Hf.out,zk,zk, ?_⟩)|(rw [show wr.alloc _=wS from jG.out])|((with_reducible refine l0 (.tmp 53) (.tmp 58) 22 ?_);refine ⟨rfl,28,8,104,X6,.slice oa acc.length oc,acc.length,rus acc,rfl,gz.out,_,1,x.cells,rfl,iq.out,aX.out,zo,by unfold maxLen;omega, ?_⟩;intro ad cap2 w4 hA;have HA:=Lib.hid hA;clear hA))
     have hown5:=HA.out.1;rw [CV.out,<-Hlen.out] at hown5
     have df:∀b,(Value.slice ad nx.length cap2).ownBlock=some b->w.heap.size<=b:=fun b hb=>by
      rw [Hlen.out] at hb;rcases HA.out.2.2 with h|⟨k,h,hk⟩
      ·exact eF.out b (by rw [<-h];exact hb)
      have h2:(Value.slice ad (acc.length+1) cap2).ownBlock=some b:=hb;rw [h] at h2;cases h2;have:=kX.out.size;omega
     have bH:Mod (fun _=>False) w w4:=kX.out.upon HA.out.2.1 (fun b hb=> .inr (eF.out b hb));obtain ⟨fo,dD,bO⟩:=zh3 hown5 df bH;clear hown5 df bH HA
     go_wp2_with fail
     go_roundw
     case rel=>exact ⟨j+1,ad,cap2,by go_num,hlt,by rw [dn.out,Hlen.out],by rw [dn.out];exact fo.out,by rw [dn.out];exact dD.out,bO.out⟩
     case measure=>simp [intOf];omega
  obtain rfl:j=n:=zo
  have he:=a5P l (n:=j) zo;rw [he] at how dW⊢;obtain ⟨How,eF,aK⟩:=zh3 how dW hmr;clear how dW hmr
  go_wp2
  go_ret;exact ⟨_,rfl,How.out,eF.out,aK.out⟩
def Att.same (a b:Att):Bool:=a.name.toList==b.name.toList&&V.same a.v b.v
def y9:List Att->List Att->Bool
 |[],[]=>true
 |a::l,b::m=>Att.same a b&&y9 l m
 |_,_=>false
theorem a0h:∀{l m:List Att},y9 l m=true->l.length=m.length
 |[],[],_=>rfl
 |[],_::_,h=>by simp [y9] at h
 |_::_,[],h=>by simp [y9] at h
 |a::l,b::m,h=>by
  simp only [y9,Bool.and_eq_true] at h;rw [zz9,zz9,a0h h.2]
theorem a2U:∀{l m:List Att} {k:Nat} {a b:Att},l[k]? =some a->m[k]? =some b->Att.same a b=false->y9 l m=false
 |[],_,k,a,b,h,_,_=>by simp at h
 |_::_,[],k,a,b,_,h,_=>by simp at h
 |x::l,y::m,0,a,b,h1,h2,h=>by
  cases h1;cases h2
  simp [y9,h]
 |x::l,y::m,k+1,a,b,h1,h2,h=>by
  rw [List.getElem?_cons_succ] at h1 h2;simp [y9,a2U h1 h2 h]
theorem a1Z:∀{l m:List Att},l.length=m.length->(∀(k:Nat) (a b:Att),l[k]? =some a->m[k]? =some b->Att.same a b=true)->y9 l m=true
 |[],[],_,_=>rfl
 |[],_::_,h,_=>by simp at h
 |_::_,[],h,_=>by simp at h
 |a::l,b::m,h,hh=>by
  simp only [y9,Bool.and_eq_true];exact ⟨hh 0 a b rfl rfl,a1Z (by simpa using h) fun k x y hx hy=>hh (k+1) x y (by simpa using hx) (by simpa using hy)⟩
theorem b6L (x y:Att) (hx:x.v.num<2^64) (hy:y.v.num<2^64) (w:World):Calls Tryz.prog 50 #[.agg x.cells.toArray,.agg y.cells.toArray] w fun e w'=>e= .returned (.bool (Att.same x y))/\Mod (fun _=>False) w w':=by
 obtain ⟨wa,aD,ah,ae,au⟩:=g8 w (.cells x.cells.toArray 112);obtain ⟨wb,hwb,ay,ak,aO⟩:=g8 wa (.cells y.cells.toArray 112);have hmb:Mod (fun _=>False) w wb:=ah.trans ay zi;have hgA:=ay.heap ae id;have c0:wb.cell? ⟨w.heap.size,0,none⟩=some (.string x.name):=d6 hgA rfl;have c1:wb.cell? ⟨w.heap.size,1,none⟩=some (.int .i64 x.v.kind):=d6 hgA rfl;have c2:wb.cell? ⟨w.heap.size,2,none⟩=some (.int .i64 x.v.int):=d6 hgA rfl;have c3:wb.cell? ⟨w.heap.size,3,none⟩=some (.float .f64 x.v.num):=d6 hgA rfl;have c4:wb.cell? ⟨w.heap.size,4,none⟩=some (.string x.v.text):=d6 hgA rfl;have c5:wb.cell? ⟨w.heap.size,5,none⟩=some (.bool x.v.yes):=d6 hgA rfl;have d0:wb.cell? ⟨wa.heap.size,0,none⟩=some (.string y.name):=d6 ak rfl;have d1:wb.cell? ⟨wa.heap.size,1,none⟩=some (.int .i64 y.v.kind):=d6 ak rfl;have d2:wb.cell? ⟨wa.heap.size,2,none⟩=some (.int .i64 y.v.int):=d6 ak rfl;have d3:wb.cell? ⟨wa.heap.size,3,none⟩=some (.float .f64 y.v.num):=d6 ak rfl;have d4:wb.cell? ⟨wa.heap.size,4,none⟩=some (.string y.v.text):=d6 ak rfl;have d5:wb.cell? ⟨wa.heap.size,5,none⟩=some (.bool y.v.yes):=d6 ak rfl;have hsm:=a3B x.v y.v hx hy wb;have hlz:w.heap.size<wa.heap.size:=zo
 obtain ⟨aF,bD,bW,Hsm,aB,jB,aH,aT,ry,BR,nD⟩:=zh11 aD hwb hmb hsm ah ay ae ak au aO hgA;clear aD hwb hmb hsm ah ay ae ak au aO hgA
 cases hn:x.name.toList==y.name.toList with
 |false=>
  rw [show Att.same x y=false by unfold Att.same;rw [hn];rfl]
  go_enter Tryz.func50,Tryz.ntmps50
  go_wp2_with (first|(rw [show w.alloc _=wa from aF.out])|(rw [show wa.alloc _=wb from bD.out]))
  go_ret;exact ⟨rfl,bW.out⟩
 |true=>
  rw [show Att.same x y=V.same x.v y.v by unfold Att.same;rw [hn];rfl]
  go_enter Tryz.func50,Tryz.ntmps50
  go_wp2_with (first|(rw [show w.alloc _=wa from aF.out])|(rw [show wa.alloc _=wb from bD.out]))
  refine Hsm.out.mono ?_;rintro e w' ⟨rfl,hm⟩;have Hm:=Lib.hid (bW.out.trans hm zi);clear hm
  go_wp2
  go_ret;exact ⟨rfl,Hm.out⟩
theorem a9P {w:World} {a:Option Addr} {cap:Nat} {l:List Att} {j:Nat} {x:Att} (h:j3 w 6 (.slice a l.length cap) l.length (k7 l)) (hx:l[j]? =some x):∃g off,a=some ⟨g,off,none⟩/\e9 w g (off+j*6) x.cells:=by
 obtain ⟨-,a',c',h1, -,h3,h4⟩:=h;cases h1
 cases a with
 |none=>have:=(zz6 hx).1;exact absurd (h3 rfl) zo
 |some b=>
  obtain ⟨g',off',h5,h6⟩:=h4 _ rfl (by have:=(zz6 hx).1;omega);refine ⟨g',off',by rw [h5],fun i u hu=> ?_⟩;have:=h6 (6*j+i) u (Y6 _ hx hu);rw [show off'+j*6+i=off'+(6*j+i) by omega];exact this
theorem b3m (w:World) (av bv:Value) (l m:List Att) (hv:j3 w 6 av l.length (k7 l)) (hu:j3 w 6 bv m.length (k7 m)) (hll:l.length<=1000000) (jX:m.length<=1000000) (hx:∀x∈l,x.v.num<2^64) (hy:∀x∈m,x.v.num<2^64):
 Calls Tryz.prog 49 #[av,bv,.func (.func 50) #[] #[]] w fun e w'=>e= .returned (.bool (y9 l m))/\Mod (fun _=>False) w w':=by
 obtain ⟨a,ca,rfl,oG⟩:∃a c,av= .slice a l.length c/\l.length<=c:=by obtain ⟨-,a,c,h,h2, -⟩:=hv;exact ⟨a,c,h,h2⟩
 obtain ⟨b,cb,rfl,hcb⟩:∃a c,bv= .slice a m.length c/\m.length<=c:=by obtain ⟨-,a,c,h,h2, -⟩:=hu;exact ⟨a,c,h,h2⟩
 have bN:(l.length:Int)<=1000000:=zo
 have PI:(m.length:Int)<=1000000:=zo
 have b8g:(l.length:Int)<=ca:=zo
 have b8h:(m.length:Int)<=cb:=zo
 have hcf:∀args w,(callFunc 50 args).run Tryz.prog w= .ok (.enter 50 args) w:=fun args w=>by simp [go_sem]
 obtain ⟨Hv,Hu,Hx,Hy,mg⟩:=zh5 hv hu hx hy hcf;clear hv hu hx hy hcf;by_cases hlm:l.length=m.length;rotate_left
 ·have TJ:((l.length:Int) !=(m.length:Int))=true:=by simpa [bne_iff_ne] using (by omega:¬(l.length:Int)=(m.length:Int))
  have hf:y9 l m=false:=Bool.eq_false_iff.2 fun h=>hlm (a0h h);rw [hf];clear hf hlm
  go_enter Tryz.func49,Tryz.ntmps49
  go_wp2
  go_ret;exact ⟨rfl,Mod.refl _ _⟩
 have TJ:((l.length:Int) !=(m.length:Int))=false:=by rw [hlm];simp
 have FB:=zh hlm;obtain ⟨R,hR⟩:∃R,y9 l m=R:=⟨_,rfl⟩;rw [hR];have HR:=zh hR;clear hR hlm
 go_enter Tryz.func49,Tryz.ntmps49
 go_wp2_with fail
 go_loopw [17] (fun i wr=>∃j:Nat,i= .int .i64 j/\j<=l.length/\Mod (fun _=>False) w wr/\(∀(k:Nat) (x y:Att),k<j->l[k]? =some x->m[k]? =some y->Att.same x y=true)) (fun i _=>l.length - (intOf i).toNat)
 case atStart=>exact ⟨0,rfl,Nat.zero_le _,Mod.refl _ _,fun k x y hk=>zo⟩
 case round=>
  obtain ⟨j,rfl,hj,hmr,hall⟩:=hrel;by_cases hlt:j<l.length
  ·have hlt':(j:Int)<l.length:=zo
   have b8i:(j:Int)<m.length:=by have:=FB.out;omega
   obtain ⟨x,hxj⟩:∃x,l[j]? =some x:=⟨_,zz5 hlt⟩;obtain ⟨y,hyj⟩:∃y,m[j]? =some y:=⟨_,zz5 zo⟩;have AA:=Hx.out x (zz8 hxj);have hyn:=Hy.out y (zz8 hyj);obtain ⟨g,off,rfl,hf⟩:∃g off,a=some ⟨g,off,none⟩/\e9 wr g (off+j*6) x.cells:=a9P (Hv.out.mod hmr zi) hxj;obtain ⟨gr,offr,rfl,hr⟩:∃g off,b=some ⟨g,off,none⟩/\e9 wr g (off+j*6) y.cells:=a9P (Hu.out.mod hmr zi) hyj;obtain ⟨wz1,LD,nY,uf,Aa⟩:=g8 wr (.cells x.cells.toArray 112);obtain ⟨wz2,LF,nZ,Ab,Ac⟩:=g8 wz1 (.cells y.cells.toArray 112);have hr2:=hr.mod nY id;have hgx:=nZ.heap uf id;have hmz:Mod (fun _=>False) w wz2:=(hmr.trans nY zi).trans nZ zi;have hsm:=b6L x y AA hyn wz2;have hlz:wr.heap.size<wz1.heap.size:=zo
   obtain ⟨aK,aM,cB,XR,Hxn,Hyn,Hf,Hr,bG,Hsm,PY,LG⟩:=zh12 hmr hall hxj hyj AA hyn hf hr hmz hsm hgx Ab;obtain ⟨Bc,XT,XU,XV,TK,TL,XW,XX⟩:=zh8 hr2 nY nZ uf LD LF Aa Ac;clear hmr hall hxj hyj AA hyn hf hr hmz hsm hgx Ab hr2 nY nZ uf LD LF Aa Ac;have hcall:=mg.out
   go_wp2_with (first|((with_reducible refine d8 112 (.tmp 20) ?_);refine ⟨g,off+j*6,rfl,x.cells,Hf.out,zk,zk, ?_⟩)|((with_reducible refine d8 112 (.tmp 24) ?_);refine ⟨gr,offr+j*6,rfl,y.cells,Bc.out,zk,zk, ?_⟩)|((with_reducible refine d9 112 (.tmp 8) (.tmp 21) ?_);refine ⟨rfl,x.cells,rfl,rfl,zk,rfl, ?_⟩;rw [TK.out])|((with_reducible refine d9 112 (.tmp 9) (.tmp 25) ?_);refine ⟨rfl,y.cells,rfl,rfl,zk,rfl, ?_⟩;rw [TL.out])|((with_reducible refine d8 112 (.tmp 8) ?_);refine ⟨wr.heap.size,0,rfl,x.cells,e9.row PY.out,zk,zk, ?_⟩)|((with_reducible refine d8 112 (.tmp 9) ?_);refine ⟨wz1.heap.size,0,rfl,y.cells,e9.row LG.out,zk,zk, ?_⟩))
   refine Hsm.out.mono ?_;rintro e w3 ⟨rfl,aC⟩;have aR:=bG.out.trans aC zi;have dN:=zh aR;clear aR aC hcall
   cases hs:Att.same x y with
   | true=>
    have Hs:=zh hs;clear hs
    go_wp2_with fail
    go_roundw
    case rel=>
     refine ⟨j+1,by go_num,hlt,dN.out,fun k x' y' hk hx' hy'=> ?_⟩;rcases Nat.lt_succ_iff_lt_or_eq.1 hk with hk|rfl
     ·exact aM.out k x' y' hk hx' hy'
     rw [cB.out] at hx';rw [XR.out] at hy';cases hx';cases hy';exact Hs.out
    case measure=>simp [intOf];omega
   |false=>
    have Hs:=zh hs;clear hs
    go_wp2
    go_ret;exact ⟨by rw [<-HR.out,a2U cB.out XR.out Hs.out];rfl,dN.out⟩
  obtain rfl:j=l.length:=zo
  obtain ⟨aK,aM⟩:=zh2 hmr hall;clear hmr hall
  go_wp2
  go_ret;exact ⟨by rw [<-HR.out,a1Z FB.out fun k x y hx' hy'=>aM.out k x y (zz6 hx').1 hx' hy'];rfl,aK.out⟩
theorem a5o (w:World) (s t:ByteArray) (av bv:Value) (l m:List Att) (hv:j3 w 6 av l.length (k7 l)) (hu:j3 w 6 bv m.length (k7 m)) (hll:l.length<=1000000) (jX:m.length<=1000000) (hx:∀x∈l,x.v.num<2^64) (hy:∀x∈m,x.v.num<2^64):
 Calls Tryz.prog 17 #[.agg #[.string s,av],.agg #[.string t,bv]] w fun e w'=>e= .returned (.bool (s.toList==t.toList&&y9 l m))/\Mod (fun _=>False) w w':=by
 obtain ⟨a,ca,rfl⟩:∃a c,av= .slice a l.length c:=by obtain ⟨-,a,c,h, -⟩:=hv;exact ⟨a,c,h⟩
 obtain ⟨b,cb,rfl⟩:∃a c,bv= .slice a m.length c:=by obtain ⟨-,a,c,h, -⟩:=hu;exact ⟨a,c,h⟩
 obtain ⟨wa,aD,ah,ae,au⟩:=g8 w (.cells #[.string s,.slice a l.length ca] 31);obtain ⟨wb,hwb,ay,ak,aO⟩:=g8 wa (.cells #[.string t,.slice b m.length cb] 31);have hmb:Mod (fun _=>False) w wb:=ah.trans ay zi;have hgA:=ay.heap ae id;have c0:wb.cell? ⟨w.heap.size,0,none⟩=some (.string s):=d6 hgA rfl;have c1:wb.cell? ⟨w.heap.size,1,none⟩=some (.slice a l.length ca):=d6 hgA rfl;have d0:wb.cell? ⟨wa.heap.size,0,none⟩=some (.string t):=d6 ak rfl;have d1:wb.cell? ⟨wa.heap.size,1,none⟩=some (.slice b m.length cb):=d6 ak rfl;have heq:=b3m wb (.slice a l.length ca) (.slice b m.length cb) l m (hv.mod hmb zi) (hu.mod hmb zi) hll jX hx hy;obtain ⟨aF,bD,bW,Ny,aB,jB,aH,aT,ry,BR,nD⟩:=zh11 aD hwb hmb heq ah ay ae ak au aO hgA;clear aD hwb hmb heq ah ay ae ak au aO hgA hv hu hx hy
 cases hn:s.toList==t.toList with
 |false=>
  rw [Bool.false_and]
  go_enter Tryz.func17,Tryz.ntmps17
  go_wp2_with (first|(rw [show w.alloc _=wa from aF.out])|(rw [show wa.alloc _=wb from bD.out]))
  go_ret;exact ⟨rfl,bW.out⟩
 |true=>
  rw [Bool.true_and]
  go_enter Tryz.func17,Tryz.ntmps17
  go_wp2_with (first|(rw [show w.alloc _=wa from aF.out])|(rw [show wa.alloc _=wb from bD.out]))
  refine Ny.out.mono ?_;rintro e w' ⟨rfl,hm⟩;have Hm:=Lib.hid (bW.out.trans hm zi);clear hm
  go_wp2
  go_ret;exact ⟨rfl,Hm.out⟩
theorem a1b (l:List Att):y9 l l=true:=by
 induction l with
 |nil=>rfl
 |cons a l ih=>
  simp only [y9,Bool.and_eq_true];exact ⟨by simp [Att.same,V.same_self],ih⟩
end Go.Proofs.YtebhabpahfmodaaGreatDoor
