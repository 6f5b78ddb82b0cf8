/- Lemmas. -/
import Derived.Test.YtebhabpahfmodaaGreatDoorZh27
import Derived.Test.YtebhabpahfmodaaGreatDoorZh28
set_option maxHeartbeats 40000000
set_option maxRecDepth 20000
namespace Go.Proofs.YtebhabpahfmodaaGreatDoor
open Go.RowKit
def Att.canon (a:Att):Att:=⟨a.name,a.v.canon⟩
def putA (l:List Att) (a:Att):List Att:=if there l a.name=true then l.take (pos l a.name)++a::l.drop (pos l a.name+1) else l.take (pos l a.name)++a::l.drop (pos l a.name)
def T4 (l:List Att):List Att:=l.foldl (fun acc a=>putA acc a.canon) []
theorem b0z (l:List Att) (a:Att):T4 (l++[a])=putA (T4 l) a.canon:=by unfold T4;simp
theorem a6T {l:List Att} {s:ByteArray} {k:Nat} {x:Att} (hk:k<pos l s) (hx:l[k]? =some x):Op.bytesLess x.name.data.toList s.data.toList=true:=by
 induction l generalizing k with
 |nil=>simp at hx
 | cons a l ih=>
  by_cases ha:Op.bytesLess a.name.data.toList s.data.toList=true
  ·have hp:pos (a::l) s=pos l s+1:=by unfold pos;rw [List.takeWhile_cons,if_pos ha];rfl
   cases k with
   |zero=>cases hx;exact ha
   |succ k=>exact ih (k:=k) zo (by simpa using hx)
  have hp:pos (a::l) s=0:=by unfold pos;rw [List.takeWhile_cons,if_neg ha];rfl
  omega
theorem a3q {l:List Att} {n k:Nat} {x:Att} (h:(l.take n)[k]? =some x):l[k]? =some x/\k<n:=by
 rw [List.getElem?_take] at h;split at h
 ·exact ⟨h,by assumption⟩
 ·cases h
theorem a5G {l:List Att} (hr:r8 l) {s:ByteArray} {k:Nat} {x:Att} (hk:pos l s<=k) (hx:l[k]? =some x):Op.bytesLess x.name.data.toList s.data.toList=false:=by
 obtain ⟨y,hy⟩:∃y,l[pos l s]? =some y:=⟨_,zz5 (by have:=(zz6 hx).1;omega)⟩
 have hyn:Op.bytesLess y.name.data.toList s.data.toList=false:=by
  clear hk hx hr
  induction l with
  |nil=>simp at hy
  | cons a l ih=>
   by_cases ha:Op.bytesLess a.name.data.toList s.data.toList=true
   ·have hp:pos (a::l) s=pos l s+1:=by unfold pos;rw [List.takeWhile_cons,if_pos ha];rfl
    rw [hp,List.getElem?_cons_succ] at hy;exact ih hy
   have hp:pos (a::l) s=0:=by unfold pos;rw [List.takeWhile_cons,if_neg ha];rfl
   rw [hp,List.getElem?_cons_zero] at hy;cases hy
   exact Bool.eq_false_iff.2 ha
 rcases Nat.lt_or_eq_of_le hk with h|rfl
 ·exact hr.more h hy hx hyn
 rw [hy] at hx;cases hx;exact hyn
theorem a48 {l m:List Att} {a:Att} (hl:∀(i j:Nat) (x y:Att),i<j->l[i]? =some x->l[j]? =some y->Op.bytesLess x.name.data.toList y.name.data.toList=true)
 (hm:∀(i j:Nat) (x y:Att),i<j->m[i]? =some x->m[j]? =some y->Op.bytesLess x.name.data.toList y.name.data.toList=true)
 (h1:∀x∈l,Op.bytesLess x.name.data.toList a.name.data.toList=true) (h2:∀y∈m,Op.bytesLess a.name.data.toList y.name.data.toList=true):r8 (l++a::m):=by
 intro i j x y hij hx hy;rcases Nat.lt_or_ge i l.length with hi|hi
 ·rw [List.getElem?_append_left hi] at hx;rcases Nat.lt_or_ge j l.length with hj|hj
  ·rw [List.getElem?_append_left hj] at hy;exact hl i j x y hij hx hy
  rw [List.getElem?_append_right hj] at hy;have hxa:=h1 x (zz8 hx);rcases Nat.eq_zero_or_pos (j - l.length) with h0|h0
  ·rw [h0] at hy;cases hy;exact hxa
  obtain ⟨k,hk⟩:∃k,j - l.length=k+1:=⟨j - l.length - 1,zo⟩;rw [hk,List.getElem?_cons_succ] at hy;exact Z3 _ _ _ hxa (h2 y (zz8 hy))
 rw [List.getElem?_append_right hi] at hx;rw [List.getElem?_append_right zo] at hy;obtain ⟨k,hk⟩:∃k,j - l.length=k+1:=⟨j - l.length - 1,zo⟩;rw [hk,List.getElem?_cons_succ] at hy;rcases Nat.eq_zero_or_pos (i - l.length) with h0|h0
 ·rw [h0] at hx;cases hx;exact h2 y (zz8 hy)
 obtain ⟨q,hq⟩:∃q,i - l.length=q+1:=⟨i - l.length - 1,zo⟩;rw [hq,List.getElem?_cons_succ] at hx;exact hm q k x y zo hx hy
theorem r8.putA {l:List Att} (h:r8 l) (a:Att):r8 (putA l a):=by
 have ht:∀(i j:Nat) (x y:Att),i<j->(l.take (pos l a.name))[i]? =some x->(l.take (pos l a.name))[j]? =some y->Op.bytesLess x.name.data.toList y.name.data.toList=true:=fun i j x y hij hx hy=>
  h i j x y hij (a3q hx).1 (a3q hy).1
 have hd:∀(p i j:Nat) (x y:Att),i<j->(l.drop p)[i]? =some x->(l.drop p)[j]? =some y->Op.bytesLess x.name.data.toList y.name.data.toList=true:=fun p i j x y hij hx hy=>by
  rw [List.getElem?_drop] at hx hy;exact h _ _ x y zo hx hy
 have h1:∀x∈l.take (pos l a.name),Op.bytesLess x.name.data.toList a.name.data.toList=true:=fun x hx=>by
  obtain ⟨k,hk⟩:=List.mem_iff_getElem?.1 hx;exact a6T (a3q hk).2 (a3q hk).1
 unfold Go.Proofs.YtebhabpahfmodaaGreatDoor.putA;split
 ·rename_i hth
  refine a48 ht (hd _) h1 fun y hy=> ?_;unfold Go.Proofs.YtebhabpahfmodaaGreatDoor.there at hth
  cases hp:l[pos l a.name]? with
  |none=>rw [hp] at hth;cases hth
  |some z=>
   rw [hp] at hth;have hz:z.name.data.toList=a.name.data.toList:=beq_iff_eq.1 hth;obtain ⟨k,hk⟩:=List.mem_iff_getElem?.1 hy;rw [List.getElem?_drop] at hk;rw [<-hz];exact h _ _ z y zo hp hk
 rename_i hth
 refine a48 ht (hd _) h1 fun y hy=> ?_;obtain ⟨k,hk⟩:=List.mem_iff_getElem?.1 hy;rw [List.getElem?_drop] at hk;have hn:=a5G h (s:=a.name) (Nat.le_add_right _ k) hk;refine a8s _ _ hn fun he=> ?_;rcases Nat.eq_zero_or_pos k with h0|h0
 ·subst h0;refine hth ?_;unfold Go.Proofs.YtebhabpahfmodaaGreatDoor.there;rw [Nat.add_zero] at hk;rw [hk];exact beq_iff_eq.2 he
 obtain ⟨z,hz⟩:∃z,l[pos l a.name]? =some z:=⟨_,zz5 (by have:=(zz6 hk).1;omega)⟩;have hzn:=a5G h (s:=a.name) (Nat.le_refl _) hz;have hzl:=h _ _ z y zo hz hk;rw [he] at hzl;rw [hzn] at hzl;cases hzl
theorem a1h (l:List Att):r8 (T4 l):=by
 unfold T4
 suffices∀(l acc:List Att),r8 acc->r8 (l.foldl (fun acc a=>putA acc a.canon) acc) from this l [] (fun i j x y _ hx _=>by simp at hx)
 intro l
 induction l with
 |nil=>intro acc h;exact h
 |cons a l ih=>intro acc h;exact ih _ (h.putA _)
theorem a6U (l:List Att) (a:Att):(putA l a).length<=l.length+1:=by
 have:=b2w l a.name;unfold putA;split<;>simp<;>omega
theorem a2L (l:List Att):(T4 l).length<=l.length:=by
 unfold T4
 suffices∀(l acc:List Att),(l.foldl (fun acc a=>putA acc a.canon) acc).length<=acc.length+l.length by simpa using this l []
 intro l
 induction l with
 |nil=>intro acc;simp
 |cons a l ih=>
  intro acc;have:=ih (putA acc a.canon);have:=a6U acc a.canon;simp only [List.foldl_cons,zz9];omega
theorem b2n {w:World} {v:Value} {l m:List Att} {x c:Att} (h:j2 w 112 6 v (l++x::m).length (k7 (l++x::m))):∃g off cap cur,v= .slice (some ⟨g,off,none⟩) (l++x::m).length cap/\
 w.heap[g]? =some (.cells cur 112 (0,0))/\off+l.length*6+6<=cur.size/\(l++x::m).length<=cap/\
 j2 (w.setRow g (cur.toList.take (off+l.length*6)++c.cells++cur.toList.drop (off+l.length*6+c.cells.length)).toArray) 112 6 v (l++c::m).length (k7 (l++c::m)):=by
 rcases h.2 with ⟨-,h0⟩|⟨g,off,cap,cur,hv,hg,hn,hc,hs,ht⟩
 ·simp at h0
 have hlen:(l++x::m).length=l.length+1+m.length:=by simp;omega
 have hlen':(l++c::m).length=l.length+1+m.length:=by simp;omega
 have hsz:off+(l.length+1+m.length)*6<=cur.size:=by
  have:(l++x::m).length*6<=cap*6:=Nat.mul_le_mul_right _ hn;omega
 refine ⟨g,off,cap,cur,hv,hg,zo,hn,⟨by rw [B0],.inr ⟨g,off,cap,_,by rw [hv,hlen,hlen'],setRow_heap w g cur _ _ _ hg,zo,hc, ?_, ?_⟩⟩⟩
 ·simp only [List.size_toArray,zz4,List.length_take,List.length_drop,Array.length_toList,Att.cells_length];omega
 rw [hlen] at ht;rw [hlen'];have hq:=b3H (L:=cur.toList) (A:=k7 l) (X:=x.cells) (B:=k7 m) (C:=c.cells) (off:=off) (n:=(l.length+1+m.length)*6) (by rw [Array.length_toList];omega) (by rw [ht,r7,K3]) rfl (by rw [B0,B0,Att.cells_length];omega);rw [B0] at hq;rw [r7,K3];exact hq
theorem a8o {w:World} {b:Nat} {o:Obj} (h:w.heap[b]? =some o) (v:Value):(w.setCell ⟨b+1,1,none⟩ v).heap[b]? =some o:=
 ((Mod.refl (fun k=>k=b+1) w).setCell (fun _=>rfl) _).heap h zo
theorem a8p {w:World} {b:Nat} {x y:Value} {t:TypeId} {a7:Option Addr} {n m c7:Nat} (h:w.heap[b]? =some (.cells #[x,y] t (0,0))) (hl:n=m):(w.setCell ⟨b,1,none⟩ (.slice a7 m c7)).heap[b]? =some (.cells #[x,.slice a7 n c7] t (0,0)):=by
 subst hl;exact o6 h
theorem b5Q (w:World) (sc:ByteArray) (lv:Value) (l:List Att) (hv:j3 w 6 lv l.length (k7 l)) (hll:l.length<=1000):
 Calls Tryz.prog 37 #[.string sc,lv] w fun e w'=>∃av,e= .returned (.agg #[.string sc,av])/\j2 w' 112 6 av (T4 l).length (k7 (T4 l))/\
  (∀b,av.ownBlock=some b->w.heap.size<=b)/\Mod (fun _=>False) w w':=by
 obtain ⟨a,cap,rfl⟩:∃a c,lv= .slice a l.length c:=by obtain ⟨-,a,c,h, -⟩:=hv;exact ⟨a,c,h⟩
 have bN:(l.length:Int)<=1000:=zo
 obtain ⟨wa,aD,ah,ae,au⟩:=g8 w (.cells #[.string ⟨#[]⟩,.slice none 0 0] 31);obtain ⟨wb,hwb,ay,ak,aO⟩:=g8 wa (.cells #[.string sc,.slice none 0 0] 31);have hmb:Mod (fun _=>False) w wb:=ah.trans ay zi;have hgR:=ay.heap ae id;have Fu:=ak;rw [au] at Fu;have hcap:(l.length:Int)<=cap:=by obtain ⟨-,a',c',h1,h2, -⟩:=hv;cases h1;omega
 obtain ⟨Hv,aF,bD,bW,HgR,BQ,aB,jB,aH,aT,ry,BR⟩:=zh12 hv aD hwb hmb hgR Fu ah ay ae ak au aO;clear hv aD hwb hmb hgR Fu ah ay ae ak au aO
 go_enter Tryz.func37,Tryz.ntmps37
 go_wp2_with fail
 rw [aF.out,bD.out];have dF:w.heap.size+2<=wb.heap.size:=by rw [BR.out,ry.out];exact Nat.le_refl _
 go_loopw [14] (fun i wr=>∃j:Nat,∃av acc,i= .int .i64 j/\j<=l.length/\acc=T4 (l.take j)/\wr.heap[w.heap.size]? =some (.cells #[.string ⟨#[]⟩,.slice none 0 0] 31 (0,0))/\
  wr.heap[w.heap.size+1]? =some (.cells #[.string sc,av] 31 (0,0))/\j2 wr 112 6 av acc.length (k7 acc)/\(∀b,av.ownBlock=some b->w.heap.size+2<=b)/\Mod (fun _=>False) w wr/\wb.heap.size<=wr.heap.size) (fun i _=>l.length - (intOf i).toNat)
 case atStart=>exact ⟨0,.slice none 0 0,[],rfl,Nat.zero_le _,rfl,HgR.out,BQ.out,j2.nil _ _ _,(fun b hb=>by cases hb),bW.out,Nat.le_refl _⟩
 case round=>
  obtain ⟨j,av,acc,rfl,hj,hacc,hR,hE,hown,hfr,hmr,hsz⟩:=hrel;by_cases hlt:j<l.length
  ·have hlt':(j:Int)<l.length:=zo
   obtain ⟨x,hxj⟩:∃x,l[j]? =some x:=⟨_,zz5 hlt⟩
   have hal:acc.length<=1000:=by
    have:=a2L (l.take j);rw [hacc];rw [List.length_take] at this;omega
   have hrise:r8 acc:=hacc▸a1h _;have hnext:T4 (l.take (j+1))=putA acc x.canon:=by rw [List.take_add_one,hxj,hacc];exact b0z _ _
   obtain ⟨g,off,rfl,hf⟩:∃g off,a=some ⟨g,off,none⟩/\e9 wr g (off+j*6) x.cells:=by
    obtain ⟨-,a',c',h1, -,h3,h4⟩:=Hv.out.mod hmr zi;cases h1
    cases a with
    |none=>exact absurd (h3 rfl) zo
    |some b=>
     obtain ⟨g',off',h5,h6⟩:=h4 _ rfl zo;refine ⟨g',off',by rw [h5],fun i u hu=> ?_⟩;have:=h6 (6*j+i) u (Y6 _ hxj hu);rw [show off'+j*6+i=off'+(6*j+i) by omega];exact this
   have a0:wr.cell? ⟨g,off+j*6,none⟩=some (.string x.name):=hf 0 _ rfl;have a1:wr.cell? ⟨g,off+j*6+1,none⟩=some (.int .i64 x.v.kind):=hf 1 _ rfl;have a2:wr.cell? ⟨g,off+j*6+2,none⟩=some (.int .i64 x.v.int):=hf 2 _ rfl;have a3:wr.cell? ⟨g,off+j*6+3,none⟩=some (.float .f64 x.v.num):=hf 3 _ rfl;have a4:wr.cell? ⟨g,off+j*6+4,none⟩=some (.string x.v.text):=hf 4 _ rfl;have a5:wr.cell? ⟨g,off+j*6+5,none⟩=some (.bool x.v.yes):=hf 5 _ rfl;obtain ⟨wz,hwz,ai,aj,aJ⟩:=g8 wr (.cells x.cells.toArray 112);have z1:wz.cell? ⟨wr.heap.size,1,none⟩=some (.int .i64 x.v.kind):=d6 aj rfl;have z2:wz.cell? ⟨wr.heap.size,2,none⟩=some (.int .i64 x.v.int):=d6 aj rfl;have z3:wz.cell? ⟨wr.heap.size,3,none⟩=some (.float .f64 x.v.num):=d6 aj rfl;have z4:wz.cell? ⟨wr.heap.size,4,none⟩=some (.string x.v.text):=d6 aj rfl;have z5:wz.cell? ⟨wr.heap.size,5,none⟩=some (.bool x.v.yes):=d6 aj rfl;have hqz:wr.heap.size<wz.heap.size:=zo
   obtain ⟨cB,kH,IE,iA,Hf,HR,HE,aZ,bB,aK,bi,bn⟩:=zh12 hxj hacc hrise hnext hf hR hE hown hfr hmr hwz ai;obtain ⟨aN,b7l⟩:=zh2 aj aJ;clear hxj hacc hrise hnext hf hR hE hown hfr hmr hwz ai aj aJ
   go_wp2_with ((with_reducible refine d9 112 (.tmp 7) (.tmp 17) ?_);refine ⟨rfl,x.cells,rfl,rfl,zk,rfl, ?_⟩;rw [bi.out])
   refine (a0t x.v wz).mono ?_;rintro e w3 ⟨rfl,aC⟩;have rz:=aC.heap aN.out id;have jF:=bn.out.trans aC zi;have Wo:=jF.heap HE.out id;have rA:=jF.heap HR.out id;have hown3:=aZ.out.mod jF zi;obtain ⟨aa,ac,rfl,hac⟩:=hown3.shape;have b7m:(acc.length:Int)<=ac:=zo
   have hz3:=jF.size;obtain ⟨rC,BU,Wp,HR3,iB⟩:=zh5 rz jF Wo rA hown3;clear rz jF Wo rA hown3 aC z1 z2 z3 z4 z5 a0 a1 a2 a3 a4 a5
   go_wp2_with ((with_reducible refine s5 85 (.tmp 21) (.tmp 20) ?_);refine ⟨wr.heap.size,1,rfl,_,_,rC.out,x.v.canon.cells,rfl,Nat.le_refl 6,zk,rfl, ?_⟩;intro w4 Wq aR;have BV:w4.heap[wr.heap.size]? =some (.cells x.canon.cells.toArray 112 (0,0)):=Wq▸setRow_heap w3 wr.heap.size _ _ _ _ rC.out;have NK:=aR.heap Wp.out zo;have e0:w4.cell? ⟨w.heap.size+1,0,none⟩=some (.string sc):=d6 NK rfl;have e1:w4.cell? ⟨w.heap.size+1,1,none⟩=some (.slice aa acc.length ac):=d6 NK rfl;have n0:w4.cell? ⟨wr.heap.size,0,none⟩=some (.string x.name):=d6 BV rfl;have dN:=Lib.hid aR;have IG:=Lib.hid BV;have Ws:=Lib.hid NK;clear Wq aR BV NK)
   have BX:∀b,(Value.slice aa acc.length ac).ownBlock=some b->b≠wr.heap.size:=fun b hb=>by have:=aZ.out.lt b hb;omega
   have aQ:=iB.out.mod dN.out BX;have aY:Mod (fun _=>False) w w4:=(aK.out.trans BU.out zi).upon dN.out (fun b hb=> .inr (by have:=aK.out.size;omega));have II:=dN.out.heap HR3.out zo;refine (a9A w4 sc (.slice aa acc.length ac) acc aQ.rd zo IE.out x.name).mono ?_;rintro e w5 ⟨rfl,aW⟩;have hp:=b2w acc x.name;have Qt:=aW.heap Ws.out id;have Wt:=aW.heap II id;have BZ:=aW.heap IG.out id;have hown5:=aQ.mod aW zi;have bH:=aY.trans aW zi;have Nt:wr.heap.size<w5.heap.size:=(zz7 BZ).1;have e1:w5.cell? ⟨w.heap.size+1,1,none⟩=some (.slice aa acc.length ac):=d6 Qt rfl;have hput:putA acc x.canon=if there acc x.name=true then acc.take (pos acc x.name)++x.canon::acc.drop (pos acc x.name+1) else acc.take (pos acc x.name)++x.canon::acc.drop (pos acc x.name):=rfl
   have df:=bB.out
   have htl:there acc x.name=true->pos acc x.name<acc.length:=fun h=>by
    unfold there at h;split at h
    ·rename_i hq;exact (zz6 hq).1
    ·cases h
   obtain ⟨p,vU⟩:∃p,pos acc x.name=p:=⟨_,rfl⟩;rw [vU] at hput hp htl⊢;obtain ⟨Wu,IJ,PZ,dD,Wv,Ww,IK,fo,bO,b7n⟩:=zh10 vU hput htl df Qt Wt BZ hown5 bH BX;clear vU hput htl df Qt Wt BZ hown5 bH BX aW e0 n0 aQ aY II Ws IG dN Wp HR3 iB rC
   cases hth:there acc x.name with
   | true=>
    have hpl:=PZ.out hth;have hpl':(p:Int)<acc.length:=zo
    obtain ⟨y,hy⟩:∃y,acc[p]? =some y:=⟨_,zz5 hpl⟩
    have hsp:acc=acc.take p++y::acc.drop (p+1):=by
     conv=>lhs;rw [<-List.take_append_drop p acc,List.drop_eq_getElem_cons hpl]
     rw [zz5 hpl] at hy;cases hy;rfl
    have hown6:=fo.out;rw [hsp] at hown6;have zm:(acc.take p++y::acc.drop (p+1)).length=acc.length:=by rw [<-hsp]
    obtain ⟨gq,offq,capq,cur,hq1,hq2,hq3,hq4,Qu⟩:=b2n (c:=x.canon) (show j2 w5 112 6 (.slice aa acc.length ac) (acc.take p++y::acc.drop (p+1)).length _ by rw [zm];rw [zm] at hown6;exact hown6);have Ca:(acc.take p).length=p:=by rw [List.length_take];omega
    have lM:(acc.take p++x.canon::acc.drop (p+1)).length=acc.length:=by rw [<-zm];simp
    rw [zm] at hq1 hq4;cases hq1
    rw [Ca,lM] at Qu;rw [Ca] at hq3;have iC:=IJ.out;rw [hth,if_pos rfl] at iC;have hfg:=dD.out gq rfl;obtain ⟨Gs,uO,Hq5,vg,Hy⟩:=zh5 hq2 hq3 Qu lM hy;clear hq2 hq3 Qu lM hy hsp zm hown6 Ca
    go_wp2_with (first|((with_reducible refine d8 112 (.tmp 7) ?_);refine ⟨wr.heap.size,0,rfl,x.canon.cells,e9.row IK.out,zk,zk, ?_⟩)|((with_reducible refine s5 112 (.tmp 34) (.tmp 33) ?_);refine ⟨gq,offq+p*6,rfl,_,_,Gs.out,x.canon.cells,rfl,uO.out,zk,rfl, ?_⟩;intro w6 IL bU;have He6:=Lib.hid IL;have gF:=Lib.hid bU;clear IL bU))
    have hown6:=Hq5.out;rw [<-He6.out] at hown6;have Fv:=gF.out.heap Wv.out zo;have IM:=gF.out.heap Ww.out zo;have dm:Mod (fun _=>False) w w6:=bO.out.upon gF.out (fun b hb=> .inr zo);have hs6:wb.heap.size<=w6.heap.size:=by have:=gF.out.size;omega
    rw [<-iC,<-iA.out] at hown6;have xk:(T4 (l.take (j+1))).length=acc.length:=by rw [iA.out,iC,vg.out]
    rw [<-xk] at Fv;rw [<-xk] at hown6;obtain ⟨zq,Qv,Qw,dA,Fw,Wx,Hfg⟩:=zh7 hown6 Fv IM dm hs6 xk hfg;clear hown6 Fv IM dm hs6 xk hfg
    go_wp2_with fail
    go_roundw
    all_goals first
     |exact ⟨j+1,_,_,by go_num,hlt,rfl,Qw.out,Qv.out,zq.out,fun b hb=>(by cases hb;exact Hfg.out),dA.out,Fw.out⟩
     |(simp [intOf];omega)
   | false=>
    have iC:=IJ.out;rw [hth,if_neg zd] at iC;obtain ⟨w6,jc,bL,dR,jd⟩:=g8 w5 (.cells x.canon.cells.toArray 112);have IP:w5.alloc (.cells #[.string x.name,.int .i64 x.v.canon.kind,.int .i64 x.v.canon.int,.float .f64 x.v.canon.num,.string x.v.canon.text,.bool x.v.canon.yes] 112)=w6:=jc;have hown6:=fo.out.mod bL zi;have Fv:=bL.heap Wv.out id;have IM:=bL.heap Ww.out id;have dm:=bO.out.trans bL zi;have hins:=b0o w6 (.slice aa acc.length ac) acc p x.canon hown6 hp zo w5.heap.size dR (fun b hb=>by have:=fo.out.lt b hb;omega);obtain ⟨Qx,zq,Qv,Qw,dA⟩:=zh5 hins hown6 Fv IM dm;clear hins hown6 Fv IM dm jc bL dR;have oQ:=zh IP;clear IP
    go_wp2_with ((with_reducible refine d8 112 (.tmp 7) ?_);refine ⟨wr.heap.size,0,rfl,[.string x.name,.int .i64 x.v.canon.kind,.int .i64 x.v.canon.int,.float .f64 x.v.canon.num,.string x.v.canon.text,.bool x.v.canon.yes],e9.row IK.out,zk,zk, ?_⟩)
    rw [oQ.out];refine Qx.out.mono ?_;rintro e w7 ⟨v',rfl,hA⟩;have Cb:∀b,l5 (.slice aa acc.length ac) b->b≠w.heap.size+1/\b≠w.heap.size:=fun b hb=>by have:=dD.out b hb;omega
    have zt:=hA.2.1.heap Qv.out (fun h=>(Cb _ h).1 rfl);have Wy:=hA.2.1.heap Qw.out (fun h=>(Cb _ h).2 rfl);have IQ:Mod (fun _=>False) w w7:=dA.out.upon hA.2.1 (fun b hb=> .inr (by have:=dD.out b hb;omega));have nO:=hA.1;obtain ⟨a7,c7,rfl, -⟩:=nO.shape
    have Cc:∀b,(Value.slice a7 (acc.length+1) c7).ownBlock=some b->w.heap.size+2<=b:=fun b hb=>by
     rcases hA.2.2 with h|⟨k,h,hk⟩
     ·exact dD.out b (by rw [<-h];exact hb)
     rw [h] at hb;cases hb;have:=dA.out.size;have:=bO.out.size;omega
    have e1:w7.cell? ⟨w.heap.size+1,1,none⟩=some (.slice aa acc.length ac):=d6 zt rfl;have f1:w7.frozen? ⟨w.heap.size+1,1,none⟩=false:=J1 zt;have hs7:wb.heap.size<=w7.heap.size:=by have:=hA.2.1.size;omega
    have xk:(T4 (l.take (j+1))).length=acc.length+1:=by
     rw [iA.out,iC];simp only [zz4,zz9,List.length_take,List.length_drop];omega
    rw [<-iC,<-iA.out,<-xk] at nO;rw [<-xk] at Cc;obtain ⟨IR,Qy,HR7,Qz,IU,Fx,Wx⟩:=zh7 nO zt Wy IQ Cc hs7 xk;clear nO zt Wy IQ Cc hs7 xk hA Cb
    go_wp2_with fail
    go_roundw
    case rel=>
     refine ⟨j+1,.slice a7 (T4 (l.take (j+1))).length c7,_,by go_num,hlt,rfl,a8o HR7.out _,a8p Qy.out Wx.out,IR.out.setCell (fun h=> ?_) _,IU.out,Qz.out.upon ((Mod.refl (fun k=>k=w.heap.size+1) w7).setCell (fun _=>rfl) _) (fun b hb=> .inr zo), ?_⟩
     ·have:=IU.out _ h;have h2:w.heap.size+2<=w.heap.size+1:=this;omega
     have:=Fx.out;simp;exact this
    case measure=>simp [intOf];omega
  obtain rfl:j=l.length:=zo
  rw [List.take_length] at hacc;subst hacc;obtain ⟨aa,ac,rfl, -⟩:=hown.shape;obtain ⟨HR,HE,aZ,bB,aK⟩:=zh5 hR hE hown hfr hmr;clear hR hE hown hfr hmr
  go_wp2_with (first|((with_reducible refine d8 31 (.tmp 5) ?_);refine ⟨w.heap.size+1,0,rfl,[.string sc,.slice aa (T4 l).length ac],e9.row HE.out,zk,zk, ?_⟩)|((with_reducible refine j9 31 (.tmp 4) (.tmp 43) ?_);refine ⟨w.heap.size,rfl,_,_,HR.out,[.string sc,.slice aa (T4 l).length ac],rfl,rfl,zk,rfl, ?_⟩;intro w6 bZ bU;have gU:=Lib.hid bZ;have gF:=Lib.hid bU;clear bZ bU))
  refine o7 rfl w.heap.size rfl _ (e9.row gU.out) zk zk rfl ⟨.slice aa (T4 l).length ac,rfl,aZ.out.mod gF.out (fun b hb=>by have:=bB.out b hb;omega),fun b hb=>by have:=bB.out b hb;omega,aK.out.upon gF.out (fun b hb=> .inr zo)⟩
def a8q (s:ByteArray):ByteArray:=if A4 s=true then s else ⟨#[]⟩
def a2n (l:List Att):List Att:=((T4 l).filter fun a=>t7 [a]).take 8
theorem a2o {α:Type} (p:α->Bool) {l:List α} {j:Nat} {x:α} (h:l[j]? =some x):((l.take (j+1)).filter p).take 8=((l.take j).filter p).take 8++(if (decide ((((l.take j).filter p).take 8).length<8)&&p x)=true then [x] else []):=by
 rw [a2J p h]
 generalize (l.take j).filter p=q
 rw [List.take_append];by_cases hp:p x=true
 ·rw [if_pos hp,hp,Bool.and_true];by_cases hq:q.length<8
  ·rw [if_pos (by rw [List.length_take];exact decide_eq_true zo),List.take_of_length_le zo,List.take_of_length_le (by simp;omega)]
  rw [if_neg (by rw [List.length_take];simp;omega),show 8 - q.length=0 by omega,List.take_zero]
 have hp:p x=false:=by simpa using hp
 rw [hp,Bool.and_false];simp
theorem a9y (l:List Att):(a2n l).length<=8:=by unfold a2n;rw [List.length_take];omega
theorem b2o {l:List Att} {a:Att} (h:a∈a2n l):a∈T4 l/\t7 [a]=true:=by
 have:=List.mem_of_mem_take h;exact List.mem_filter.1 this
theorem a38 {l:List Att}:r8 l↔l.Pairwise (fun x y=>Op.bytesLess x.name.data.toList y.name.data.toList=true):=by
 rw [List.pairwise_iff_getElem];constructor
 ·intro h i j hi hj hij;exact h i j _ _ hij (zz5 hi) (zz5 hj)
 intro h i j x y hij hx hy;obtain ⟨h1,rfl⟩:=zz6 hx;obtain ⟨h2,rfl⟩:=zz6 hy;exact h i j h1 h2 hij
theorem r8.sub {l m:List Att} (h:r8 l) (hs:m.Sublist l):r8 m:=a38.2 ((a38.1 h).sublist hs)
theorem a8r (l:List Att):r8 (a2n l):=(a1h l).sub ((List.take_sublist _ _).trans List.filter_sublist)
theorem b5R (w:World) (s:ByteArray) (lv:Value) (l:List Att) (hv:j3 w 6 lv l.length (k7 l)) (hll:l.length<=1000) (hs:s.size<=9223372036854775807) (hsz:∀x∈T4 l,x.name.size<=9223372036854775807):
 Calls Tryz.prog 11 #[.string s,lv] w fun e w'=>∃av,e= .returned (.agg #[.string (a8q s),av])/\j2 w' 112 6 av (a2n l).length (k7 (a2n l))/\
  (∀b,av.ownBlock=some b->w.heap.size<=b)/\Mod (fun _=>False) w w':=by
 obtain ⟨a,cap,rfl⟩:∃a c,lv= .slice a l.length c:=by obtain ⟨-,a,c,h, -⟩:=hv;exact ⟨a,c,h⟩
 obtain ⟨wa,aD,ah,ae,au⟩:=g8 w (.cells #[.string ⟨#[]⟩,.slice none 0 0] 31);have lZ:=V0 s zo wa;have hva:=hv.mod ah zi;obtain ⟨sc,hsc⟩:∃q,a8q s=q:=⟨_,rfl⟩;rw [hsc];obtain ⟨aF,aB,aH,yQ,dC,qN⟩:=zh6 aD ah ae lZ hva hsz;clear aD ah ae lZ hva hsz hv hs
 go_enter Tryz.func11,Tryz.ntmps11
 go_wp2_with (rw [show w.alloc _=wa from aF.out])
 refine yQ.out.mono ?_;rintro e w1 ⟨rfl,hm1⟩;have hg1:=hm1.heap aH.out id;have bE:=aB.out.trans hm1 zi;have hv1:=dC.out.mod hm1 zi;have hnw:=b5Q w1 sc (.slice a l.length cap) l hv1 hll;obtain ⟨lJ,bF,iY⟩:=zh3 hg1 bE hnw;clear hg1 bE hnw hm1 hv1 yQ dC aB aH aF
 go_upto_if 11 with fail
 go_cut [0] (fun s0 wx=>s0= .string sc/\wx=w1)
 case first=>
  cases hb:A4 s with
  |true=>
   have e:sc=s:=by rw [<-hsc];unfold a8q;rw [if_pos hb]
   have E:=zh e;clear hsc hb e
   go_wp2_with fail
   go_meet
   case rel=>exact ⟨by rw [E.out],rfl⟩
  |false=>
   have e:sc=⟨#[]⟩:=by rw [<-hsc];unfold a8q;rw [if_neg (by rw [hb];decide)]
   have E:=zh e;clear hsc hb e
   go_wp2_with fail
   go_meet
   case rel=>exact ⟨by rw [E.out],rfl⟩
 case rest=>
  obtain ⟨rfl,rfl⟩:=hcut;obtain ⟨wk,rfl⟩:∃wk:World,wk=wc:=⟨_,rfl⟩;clear hsc
  go_wp2_with fail
  refine iY.out.mono ?_;rintro e w2 ⟨av,rfl,hown,hfr,hm2⟩;have aG:=bF.out.trans hm2 zi;have hg2:=hm2.heap lJ.out id;have hrr:=a1h l;have hlen:=a2L l;have hev:=a9y l;obtain ⟨L,hL⟩:∃L,T4 l=L:=⟨_,rfl⟩;rw [hL] at hown hrr hlen;obtain ⟨aa,ac,rfl,hac⟩:=hown.shape;have kN:(L.length:Int)<=1000:=zo
  obtain ⟨wb,hwb,ay,ak,aO⟩:=g8 w2 (.cells #[.string sc,.slice aa L.length ac] 31);obtain ⟨w6,jc,bL,dR,jd⟩:=g8 wb (.cells #[.string sc,.slice none 0 0] 31);have hgb:=bL.heap ak id;have bZ:=(ay.trans bL zi).heap hg2 id;have hrd:=((hown.mod ay zi).mod bL zi).rd;have kg:∀b,(Value.slice aa L.length ac).ownBlock=some b->b<wb.heap.size:=fun b hb=>by have:=hown.lt b hb;omega
  have hz2:w.heap.size<w2.heap.size:=(zz7 hg2).1;have dm:=aG.trans (ay.trans bL zi) zi;have hbz:w2.heap.size<wb.heap.size:=zo
  have b7o:wb.heap.size<w6.heap.size:=zo
  have hzb:w2.heap.size+1=wb.heap.size:=zo
  have Wz:wb.heap.size+1=w6.heap.size:=zo
  obtain ⟨HL,bD,oQ,kP,mf,gU,iq,Fy,dA,bB,Hzb,Hz6⟩:=zh12 hL hwb jc dR hgb bZ hrd kg dm hfr hzb Wz;clear hL hwb jc dR hgb bZ hrd kg dm hfr hzb Wz aG hg2 hown hm2 ay bL ak aO jd iY bF lJ hrr hlen;have q0:w6.cell? ⟨w2.heap.size,0,none⟩=some (.string sc):=d6 mf.out rfl;have q1:w6.cell? ⟨w2.heap.size,1,none⟩=some (.slice aa L.length ac):=d6 mf.out rfl
  go_wp2_with (first|((with_reducible refine d9 31 (.tmp 5) (.tmp 14) ?_);refine ⟨rfl,[.string sc,.slice aa L.length ac],rfl,rfl,zk,rfl, ?_⟩;rw [bD.out])|((with_reducible refine d9 31 (.tmp 6) (.tmp 16) ?_);refine ⟨rfl,[.string sc,.slice none 0 0],rfl,rfl,zk,rfl, ?_⟩;rw [oQ.out]))
  clear q0 q1
  go_loopw [20] (fun i wr=>∃(j n:Nat) (oa:Option Addr) (oc:Nat),i= .int .i64 j/\j<=L.length/\n=(((L.take j).filter fun a=>t7 [a]).take 8).length/\wr.heap[wb.heap.size]? =some (.cells #[.string sc,.slice oa n oc] 31 (0,0))/\
   j2 wr 112 6 (.slice oa n oc) n (k7 (((L.take j).filter fun a=>t7 [a]).take 8))/\(∀b,(Value.slice oa n oc).ownBlock=some b->w6.heap.size<=b)/\Mod (fun k=>k=wb.heap.size) w6 wr) (fun i _=>L.length - (intOf i).toNat)
  case atStart=>exact ⟨0,0,none,0,rfl,Nat.zero_le _,rfl,kP.out,j2.nil _ _ _,fun b hb=>(by cases hb),Mod.refl _ _⟩
  case round=>
   obtain ⟨j,n,oa,oc,rfl,hj,hn,hrow,hown,hfo,hmr⟩:=hrel;by_cases hlt:j<L.length
   ·have hlt':(j:Int)<L.length:=zo
    obtain ⟨x,hxj⟩:∃x,L[j]? =some x:=⟨_,zz5 hlt⟩;obtain ⟨g,off,rfl,hf⟩:∃g off,aa=some ⟨g,off,none⟩/\e9 wr g (off+j*6) x.cells:=a3y (iq.out.mod hmr (fun b hb=>by have:=Fy.out b hb;omega)) hxj;have hnx:=a2o (fun a=>t7 [a]) hxj;have AA:x.name.size<=9223372036854775807:=qN.out x (by rw [HL.out];exact zz8 hxj);have Ce:n<=8:=by rw [hn,List.length_take];omega
    obtain ⟨acc,hacc⟩:∃q,((L.take j).filter fun a=>t7 [a]).take 8=q:=⟨_,rfl⟩;rw [hacc] at hn hown hnx;obtain ⟨nx,cz⟩:∃q,((L.take (j+1)).filter fun a=>t7 [a]).take 8=q:=⟨_,rfl⟩;rw [cz,<-hn] at hnx;obtain ⟨wz,hwz,ai,aj,aJ⟩:=g8 wr (.cells x.cells.toArray 112);have hlr:wb.heap.size<wr.heap.size:=(zz7 hrow).1;have iD:=ai.heap hrow id;have gu:=hown.mod ai zi;have hmz:Mod (fun k=>k=wb.heap.size) w6 wz:=hmr.trans ai (fun _ _ h=>h.elim);have QA:wr.heap.size<wz.heap.size:=zo
    have o0:wz.cell? ⟨wb.heap.size,0,none⟩=some (.string sc):=d6 iD rfl;have o1:wz.cell? ⟨wb.heap.size,1,none⟩=some (.slice oa n oc):=d6 iD rfl;have x0:wz.cell? ⟨wr.heap.size,0,none⟩=some (.string x.name):=d6 aj rfl;have x1:wz.cell? ⟨wr.heap.size,1,none⟩=some (.int .i64 x.v.kind):=d6 aj rfl;have x2:wz.cell? ⟨wr.heap.size,2,none⟩=some (.int .i64 x.v.int):=d6 aj rfl;have x3:wz.cell? ⟨wr.heap.size,3,none⟩=some (.float .f64 x.v.num):=d6 aj rfl;have x4:wz.cell? ⟨wr.heap.size,4,none⟩=some (.string x.v.text):=d6 aj rfl;have x5:wz.cell? ⟨wr.heap.size,5,none⟩=some (.bool x.v.yes):=d6 aj rfl;obtain ⟨cB,Hf,bi,aN,gy,fu,bG,Hn,dn,bT,fD⟩:=zh11 hxj hf hwz aj iD gu hmz hn hnx cz hfo;clear hxj hf hwz aj iD gu hmz hn hnx cz hfo aJ ai hacc hrow hown hmr;by_cases WA:n<8
    ·have QB:(n:Int)<8:=zo
     have hnx2:nx=acc++(if t7 [x]=true then [x] else []):=by rw [dn.out,decide_eq_true WA,Bool.true_and]
     obtain ⟨wS,gP,bX,iE,iF⟩:=g8 wz (.cells x.cells.toArray 112);have fw:wz.alloc (.cells #[.string x.name,.int .i64 x.v.kind,.int .i64 x.v.int,.float .f64 x.v.num,.string x.v.text,.bool x.v.yes] 112)=wS:=gP;have kQ:j3 wS 6 (.slice (some ⟨wz.heap.size,0,none⟩) 1 1) 1 x.cells:=gP▸j3.one wz x.cells 112 rfl
     have hrt:=b16 ⟨#[]⟩ (.slice (some ⟨wz.heap.size,0,none⟩) 1 1) [x] wS (by simpa [k7] using kQ) (by simp) (fun y hy=>by
      have:y=x:=by simpa using hy
      rw [this];exact AA)
     have zu:=bX.heap gy.out id;have hownS:=fu.out.mod bX zi;have Fz:Mod (fun k=>k=wb.heap.size) w6 wS:=bG.out.trans bX (fun _ _ h=>h.elim);have IV:=bX.heap aN.out id;obtain ⟨RB,WB⟩:∃q,t7 [x]=q:=⟨_,rfl⟩;rw [WB] at hrt hnx2;obtain ⟨jG,NL,zw,gz,QC,IW,rD⟩:=zh7 fw hrt zu hownS Fz IV hnx2;clear fw hrt zu hownS Fz IV hnx2 gP bX iE iF kQ WB gy fu bG dn
     go_wp2_with (first|((with_reducible refine d8 112 (.tmp 22) ?_);refine ⟨g,off+j*6,rfl,x.cells,Hf.out,zk,zk, ?_⟩)|((with_reducible refine d9 112 (.tmp 8) (.tmp 23) ?_);refine ⟨rfl,x.cells,rfl,rfl,zk,rfl, ?_⟩;rw [bi.out])|(rw [show wz.alloc _=wS from jG.out]))
     refine NL.out.mono ?_;rintro e w3 ⟨rfl,aC⟩;have hrow3:=aC.heap zw.out id;have hown3:=gz.out.mod aC zi;have rz:=aC.heap IW.out id;have hm63:Mod (fun k=>k=wb.heap.size) w6 w3:=QC.out.trans aC (fun _ _ h=>h.elim);obtain ⟨nP,iB,rC,IX⟩:=zh4 hrow3 hown3 rz hm63;clear hrow3 hown3 rz hm63 aC o0 o1 x0 x1 x2 x3 x4 x5 NL zw gz IW QC
     cases RB with
     |false=>
      have bR:nx=acc:=by rw [rD.out,if_neg zd,zz11]
      have aQ:=iB.out;rw [<-bR,<-bT.out] at aQ;have hlen:n=(((L.take (j+1)).filter fun a=>t7 [a]).take 8).length:=by rw [bT.out,bR];exact Hn.out
      obtain ⟨bY,Hlen⟩:=zh2 aQ hlen;clear aQ hlen bR
      go_wp2_with fail
      go_roundw
      case rel=>exact ⟨j+1,n,oa,oc,by go_num,hlt,Hlen.out,nP.out,bY.out,fD.out,IX.out⟩
      case measure=>simp [intOf];omega
     | true=>
      have bR:nx=acc++[x]:=by rw [rD.out,if_pos rfl]
      obtain ⟨wT,hwT,bC,eQ,eT⟩:=g8 w3 (.cells x.cells.toArray 112);have dK:w3.alloc (.cells #[.string x.name,.int .i64 x.v.kind,.int .i64 x.v.int,.float .f64 x.v.num,.string x.v.text,.bool x.v.yes] 112)=wT:=hwT;have bP:j3 wT 6 (.slice (some ⟨w3.heap.size,0,none⟩) 1 1) 1 x.cells:=hwT▸j3.one w3 x.cells 112 rfl;have hone:∀u∈x.cells,u.oneCell'=true:=fun u hu=>zz15 (show x.cells.all (·.oneCell')=true from rfl) u hu;have gB:=bC.heap nP.out id;have dz:=iB.out.mod bC zi;have xm:Mod (fun k=>k=wb.heap.size) w6 wT:=IX.out.trans bC (fun _ _ h=>h.elim);have hlen:n+1=(((L.take (j+1)).filter fun a=>t7 [a]).take 8).length:=by rw [bT.out,bR,zz4,<-Hn.out];rfl
      have kR:k7 acc++x.cells=k7 (((L.take (j+1)).filter fun a=>t7 [a]).take 8):=by rw [bT.out,bR,r7];simp [k7]
      have o1:w3.cell? ⟨wb.heap.size,1,none⟩=some (.slice oa n oc):=d6 nP.out rfl;have hl3:wb.heap.size<w3.heap.size:=(zz7 nP.out).1;obtain ⟨wX,kK,aX,rE,nM,IY,Hlen,rF⟩:=zh8 dK bP hone gB dz xm hlen kR;clear dK bP hone gB dz xm hlen kR hwT bC eQ eT bR
      go_wp2_with (first|((with_reducible refine d8 112 (.tmp 8) ?_);refine ⟨wr.heap.size,0,rfl,[.string x.name,.int .i64 x.v.kind,.int .i64 x.v.int,.float .f64 x.v.num,.string x.v.text,.bool x.v.yes],e9.row rC.out,zk,zk, ?_⟩)|(rw [show w3.alloc _=wT from wX.out])|((with_reducible refine l0 (.tmp 35) (.tmp 37) 29 ?_);refine ⟨rfl,112,6,64,a0R,.slice oa n oc,n,k7 acc,rfl,nM.out,_,1,x.cells,rfl,kK.out,aX.out,zo,by unfold maxLen;omega, ?_⟩;intro ad cap2 w4 hA;have iG:¬l5 (.slice oa n oc) wb.heap.size:=(fun h=>by have:=fD.out _ h;omega);have hrow4:=hA.2.1.heap rE.out iG;have f1:w4.frozen? ⟨wb.heap.size,1,none⟩=false:=J1 hrow4;have e1:w4.cell? ⟨wb.heap.size,1,none⟩=some (.slice oa n oc):=d6 hrow4 rfl;have HA:=Lib.hid hA;have iw:=Lib.hid hrow4;have QD:=Lib.hid iG;clear hA hrow4 iG))
      have df:∀b,(Value.slice ad (n+1) cap2).ownBlock=some b->w6.heap.size<=b:=fun b hb=>by
       rcases HA.out.2.2 with h|⟨k,h,hk⟩
       ·exact fD.out b (by rw [<-h];exact hb)
       rw [h] at hb;cases hb;have:=IY.out.size;omega
      have aR:Mod (fun k=>k=wb.heap.size) w6 w4:=IY.out.upon HA.out.2.1 (fun b hb=> .inr (fD.out b hb));have aQ:=HA.out.1;rw [rF.out] at aQ;obtain ⟨dD,dN,bY⟩:=zh3 df aR aQ;clear df aR aQ HA
      go_roundw
      case rel=>
       refine ⟨j+1,n+1,ad,cap2,by go_num,hlt,Hlen.out,o6 iw.out,bY.out.setCell (fun h=> ?_) _,dD.out,dN.out.setCell (fun _=>rfl) _⟩;have:=dD.out _ h;have h2:w6.heap.size<=wb.heap.size:=this;omega
      case measure=>simp [intOf];omega
    have QB:(8:Int)<=n:=zo
    have bR:nx=acc:=by rw [dn.out,decide_eq_false WA,Bool.false_and,if_neg zd,zz11]
    have aQ:=fu.out;rw [<-bR,<-bT.out] at aQ;have hlen:n=(((L.take (j+1)).filter fun a=>t7 [a]).take 8).length:=by rw [bT.out,bR];exact Hn.out
    obtain ⟨bY,Hlen⟩:=zh2 aQ hlen;clear aQ hlen bR
    go_wp2_with (first|((with_reducible refine d8 112 (.tmp 22) ?_);refine ⟨g,off+j*6,rfl,x.cells,Hf.out,zk,zk, ?_⟩)|((with_reducible refine d9 112 (.tmp 8) (.tmp 23) ?_);refine ⟨rfl,x.cells,rfl,rfl,zk,rfl, ?_⟩;rw [bi.out]))
    go_roundw
    case rel=>exact ⟨j+1,n,oa,oc,by go_num,hlt,Hlen.out,gy.out,bY.out,fD.out,bG.out⟩
    case measure=>simp [intOf];omega
   obtain rfl:j=L.length:=zo
   rw [List.take_length] at hn hown;have hown2:j2 wr 112 6 (.slice oa n oc) n (k7 (a2n l)):=by unfold a2n;rw [HL.out];exact hown
   have hn2:n=(a2n l).length:=by unfold a2n;rw [HL.out];exact hn
   have hgr:=hmr.heap gU.out zo;have aU:Mod (fun _=>False) w wr:=dA.out.upon hmr (fun b hb=> .inr zo);obtain ⟨iH,rG,jH,nL,dw,fD⟩:=zh6 hrow hown2 hn2 hgr aU hfo;clear hrow hown2 hn2 hgr aU hfo hown hn hmr
   go_wp2_with (first|((with_reducible refine d8 31 (.tmp 6) ?_);refine ⟨wb.heap.size,0,rfl,[.string sc,.slice oa n oc],e9.row iH.out,zk,zk, ?_⟩)|((with_reducible refine j9 31 (.tmp 4) (.tmp 41) ?_);refine ⟨w.heap.size,rfl,_,_,nL.out,[.string sc,.slice oa n oc],rfl,rfl,zk,rfl, ?_⟩;intro w9 jr ko;have lN:=Lib.hid jr;have xn:=Lib.hid ko;clear jr ko))
   refine o7 rfl w.heap.size rfl _ (e9.row lN.out) zk zk rfl ⟨.slice oa n oc,rfl, ?_, ?_, ?_⟩
   ·rw [<-jH.out];exact rG.out.mod xn.out (fun b hb=>by have:=fD.out b hb;have:=dA.out.size;omega)
   ·exact fun b hb=>by have:=fD.out b hb;have:=dA.out.size;omega
   exact dw.out.upon xn.out (fun b hb=> .inr zo)
theorem a5H {s:ByteArray} (h:o9 s=true):s.size<=12:=by
 unfold o9 at h;simp only [Bool.and_eq_true,decide_eq_true_eq] at h;exact h.2.2
theorem b4w {l:List Att} (h:t7 l=true) {a:Att} (ha:a∈l):o9 a.name=true/\a.v.right=true:=by
 unfold t7 at h;simp only [Bool.and_eq_true,List.all_eq_true,decide_eq_true_eq] at h;obtain ⟨k,hk⟩:=List.mem_iff_getElem?.1 ha;have:=h.1 k (List.mem_range.2 (zz6 hk).1);unfold a7Z at this;rw [hk] at this;simp only [Bool.and_eq_true] at this;exact ⟨this.1.1.1,this.1.1.2⟩
theorem b5S (s:ByteArray):s.size<=(t8 s).1.size+1+(t8 s).2.1.size:=by
 unfold t8;split
 ·simp only [ByteArray.size_extract];omega
 show s.size<=s.size+1+_;omega
theorem a6V:∀(f:Nat) (s:ByteArray) (k:Nat),scN f s=some k->s.size<=13*k
 |0,s,k,h=>by cases h
 | f +1,s,k,h=>by
  rw [T6] at h;have hc:=b5S s;by_cases h1:o9 (t8 s).1=true
  ·rw [if_pos h1] at h;have hn:=a5H h1;by_cases h2:(t8 s).2.2=true
   ·rw [if_pos h2] at h
    cases h3:scN f (t8 s).2.1 with
    |none=>rw [h3] at h;cases h
    |some k'=>
     rw [h3] at h;have h4:k'+1=k:=by simpa using h
     have:=a6V f _ k' h3;omega
   rw [if_neg h2] at h
   have h4:(t8 s).1=s:=by
    unfold t8 at h2⊢;split
    ·rename_i h5;rw [if_pos h5] at h2;exact absurd rfl h2
    rfl
   rw [h4] at hn;have h4:1=k:=by simpa using h
   omega
  rw [if_neg h1] at h;cases h
theorem a1J {s:ByteArray} (h:A4 s=true):s.size<=52:=by
 unfold A4 at h;rw [Bool.or_eq_true] at h;rcases h with h|h
 ·rw [List.isEmpty_iff,ByteArray.toList_eq] at h;have:s.size=s.data.toList.length:=by rw [Array.length_toList];rfl
  rw [this,h];exact Nat.zero_le _
 unfold scM at h
 cases h1:scN (s.size+1) s with
 |none=>rw [h1] at h;cases h
 |some k=>
  rw [h1] at h;have:=a6V _ _ _ h1;simp only [decide_eq_true_eq] at h;omega
theorem C7 {sc:ByteArray} {l:List Cnd} (h:l9 sc l=true):sc.size<=52/\l.length<=6/\∀c∈l,c.name.size<=12/\(0<=c.op/\c.op<=7)/\(0<=c.v.kind/\c.v.kind<=3)/\c.v.text.size<=40:=by
 unfold l9 at h;simp only [Bool.and_eq_true,List.all_eq_true,decide_eq_true_eq] at h;refine ⟨a1J h.2.1,h.2.2,fun c hc=> ?_⟩;have h1:=h.1 c hc;unfold Cnd.rightB V.right at h1;simp only [Bool.and_eq_true,decide_eq_true_eq] at h1;exact ⟨a5H h1.1,⟨h1.2.1,h1.2.2.1⟩,⟨h1.2.2.2.1,h1.2.2.2.2.1⟩,h1.2.2.2.2.2⟩
theorem a5I {l:List Att} (h:r8 l):(l.map fun a=>a.name.data.toList).Nodup:=by
 rw [List.nodup_iff_pairwise_ne,List.pairwise_map,List.pairwise_iff_getElem];intro i j hi hj hij e;have:=h i j _ _ hij (zz5 hi) (zz5 hj);rw [e,a0x] at this;cases this
end Go.Proofs.YtebhabpahfmodaaGreatDoor
