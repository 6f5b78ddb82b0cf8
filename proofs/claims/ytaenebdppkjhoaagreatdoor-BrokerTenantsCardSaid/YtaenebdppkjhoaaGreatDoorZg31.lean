/- Lemmas. -/
import Derived.Test.YtaenebdppkjhoaaGreatDoorZg29
import Derived.Test.YtaenebdppkjhoaaGreatDoorZg30
namespace Go.Proofs.YtaenebdppkjhoaaGreatDoor
set_option maxRecDepth 20000
set_option maxHeartbeats 40000000
section
open Go.RowKit
def Att.canon (a:Att):Att:=⟨a.name,a.v.canon⟩
def putA (l:List Att) (a:Att):List Att:=if there l a.name=true then l.take (pos l a.name)++a::l.drop (pos l a.name+1) else l.take (pos l a.name)++a::l.drop (pos l a.name)
def O8 (l:List Att):List Att:=l.foldl (fun acc a=>putA acc a.canon) []
theorem a9i (l:List Att) (a:Att):O8 (l++[a])=putA (O8 l) a.canon:=by unfold O8;simp
theorem a5L {l:List Att} {s:ByteArray} {k:Nat} {x:Att} (hk:k<pos l s) (hx:l[k]? =some x):Op.bytesLess x.name.data.toList s.data.toList=true:=by
 induction l generalizing k with
 |nil=>simp at hx
 | cons a l ih=>
  by_cases ha:Op.bytesLess a.name.data.toList s.data.toList=true
  ·have hp:pos (a::l) s=pos l s+1:=by unfold pos;rw [List.takeWhile_cons,if_pos ha];rfl
   cases k with
   |zero=>cases hx;exact ha
   |succ k=>exact ih (k:=k) (by omega) (by simpa using hx)
  have hp:pos (a::l) s=0:=by unfold pos;rw [List.takeWhile_cons,if_neg ha];rfl
  omega
theorem a2A {l:List Att} {n k:Nat} {x:Att} (h:(l.take n)[k]? =some x):l[k]? =some x/\k<n:=by
 rw [List.getElem?_take] at h;split at h
 ·exact ⟨h,by assumption⟩
 ·cases h
theorem a4K {l:List Att} (hr:Go.Proofs.YtaenebdppkjhoaaGreatDoor.u7 l) {s:ByteArray} {k:Nat} {x:Att} (hk:pos l s<=k) (hx:l[k]? =some x):Op.bytesLess x.name.data.toList s.data.toList=false:=by
 obtain ⟨y,hy⟩:∃y,l[pos l s]? =some y:=⟨_,zz5 (by have:=(zz6 hx).1;omega)⟩
 have hyn:Op.bytesLess y.name.data.toList s.data.toList=false:=by
  clear hk hx hr
  induction l with
  |nil=>simp at hy
  | cons a l ih=>
   by_cases ha:Op.bytesLess a.name.data.toList s.data.toList=true
   ·have hp:pos (a::l) s=pos l s+1:=by unfold pos;rw [List.takeWhile_cons,if_pos ha];rfl
    rw [hp,List.getElem?_cons_succ] at hy;exact ih hy
   have hp:pos (a::l) s=0:=by unfold pos;rw [List.takeWhile_cons,if_neg ha];rfl
   rw [hp,List.getElem?_cons_zero] at hy;cases hy
   exact Bool.eq_false_iff.2 ha
 rcases Nat.lt_or_eq_of_le hk with h|rfl
 ·exact hr.more h hy hx hyn
 rw [hy] at hx;cases hx;exact hyn
theorem a4f {l m:List Att} {a:Att} (hl:∀(i j:Nat) (x y:Att),i<j->l[i]? =some x->l[j]? =some y->Op.bytesLess x.name.data.toList y.name.data.toList=true)
 (hm:∀(i j:Nat) (x y:Att),i<j->m[i]? =some x->m[j]? =some y->Op.bytesLess x.name.data.toList y.name.data.toList=true)
 (h1:∀x∈l,Op.bytesLess x.name.data.toList a.name.data.toList=true) (h2:∀y∈m,Op.bytesLess a.name.data.toList y.name.data.toList=true):Go.Proofs.YtaenebdppkjhoaaGreatDoor.u7 (l++a::m):=by
 intro i j x y hij hx hy;rcases Nat.lt_or_ge i l.length with hi|hi
 ·rw [List.getElem?_append_left hi] at hx;rcases Nat.lt_or_ge j l.length with hj|hj
  ·rw [List.getElem?_append_left hj] at hy;exact hl i j x y hij hx hy
  rw [List.getElem?_append_right hj] at hy;have hxa:=h1 x (zz8 hx);rcases Nat.eq_zero_or_pos (j - l.length) with h0|h0
  ·rw [h0] at hy;cases hy;exact hxa
  obtain ⟨k,hk⟩:∃k,j - l.length=k+1:=⟨j - l.length - 1,by omega⟩;rw [hk,List.getElem?_cons_succ] at hy;exact P5 _ _ _ hxa (h2 y (zz8 hy))
 rw [List.getElem?_append_right hi] at hx;rw [List.getElem?_append_right (by omega)] at hy;obtain ⟨k,hk⟩:∃k,j - l.length=k+1:=⟨j - l.length - 1,by omega⟩;rw [hk,List.getElem?_cons_succ] at hy;rcases Nat.eq_zero_or_pos (i - l.length) with h0|h0
 ·rw [h0] at hx;cases hx;exact h2 y (zz8 hy)
 obtain ⟨q,hq⟩:∃q,i - l.length=q+1:=⟨i - l.length - 1,by omega⟩;rw [hq,List.getElem?_cons_succ] at hx;exact hm q k x y (by omega) hx hy
theorem u7.putA {l:List Att} (h:u7 l) (a:Att):u7 (putA l a):=by
 have ht:∀(i j:Nat) (x y:Att),i<j->(l.take (pos l a.name))[i]? =some x->(l.take (pos l a.name))[j]? =some y->Op.bytesLess x.name.data.toList y.name.data.toList=true:=fun i j x y hij hx hy=>
  h i j x y hij (a2A hx).1 (a2A hy).1
 have hd:∀(p i j:Nat) (x y:Att),i<j->(l.drop p)[i]? =some x->(l.drop p)[j]? =some y->Op.bytesLess x.name.data.toList y.name.data.toList=true:=fun p i j x y hij hx hy=>by
  rw [List.getElem?_drop] at hx hy;exact h _ _ x y (by omega) hx hy
 have h1:∀x∈l.take (pos l a.name),Op.bytesLess x.name.data.toList a.name.data.toList=true:=fun x hx=>by
  obtain ⟨k,hk⟩:=List.mem_iff_getElem?.1 hx;exact a5L (a2A hk).2 (a2A hk).1
 unfold Go.Proofs.YtaenebdppkjhoaaGreatDoor.putA;split
 ·rename_i hth
  refine a4f ht (hd _) h1 fun y hy=> ?_;unfold Go.Proofs.YtaenebdppkjhoaaGreatDoor.there at hth
  cases hp:l[pos l a.name]? with
  |none=>rw [hp] at hth;cases hth
  |some z=>
   rw [hp] at hth;have hz:z.name.data.toList=a.name.data.toList:=beq_iff_eq.1 hth;obtain ⟨k,hk⟩:=List.mem_iff_getElem?.1 hy;rw [List.getElem?_drop] at hk;rw [<-hz];exact h _ _ z y (by omega) hp hk
 rename_i hth
 refine a4f ht (hd _) h1 fun y hy=> ?_;obtain ⟨k,hk⟩:=List.mem_iff_getElem?.1 hy;rw [List.getElem?_drop] at hk;have hn:=a4K h (s:=a.name) (Nat.le_add_right _ k) hk;refine a7P _ _ hn fun he=> ?_;rcases Nat.eq_zero_or_pos k with h0|h0
 ·subst h0;refine hth ?_;unfold Go.Proofs.YtaenebdppkjhoaaGreatDoor.there;rw [Nat.add_zero] at hk;rw [hk];exact beq_iff_eq.2 he
 obtain ⟨z,hz⟩:∃z,l[pos l a.name]? =some z:=⟨_,zz5 (by have:=(zz6 hk).1;omega)⟩;have hzn:=a4K h (s:=a.name) (Nat.le_refl _) hz;have hzl:=h _ _ z y (by omega) hz hk;rw [he] at hzl;rw [hzn] at hzl;cases hzl
theorem a0I (l:List Att):Go.Proofs.YtaenebdppkjhoaaGreatDoor.u7 (O8 l):=by
 unfold O8
 suffices∀(l acc:List Att),Go.Proofs.YtaenebdppkjhoaaGreatDoor.u7 acc->Go.Proofs.YtaenebdppkjhoaaGreatDoor.u7 (l.foldl (fun acc a=>putA acc a.canon) acc) from this l [] (fun i j x y _ hx _=>by simp at hx)
 intro l
 induction l with
 |nil=>intro acc h;exact h
 |cons a l ih=>intro acc h;exact ih _ (h.putA _)
theorem a5M (l:List Att) (a:Att):(putA l a).length<=l.length+1:=by
 have:=b2s l a.name;unfold putA;split<;>simp<;>omega
theorem a15 (l:List Att):(O8 l).length<=l.length:=by
 unfold O8
 suffices∀(l acc:List Att),(l.foldl (fun acc a=>putA acc a.canon) acc).length<=acc.length+l.length by simpa using this l []
 intro l
 induction l with
 |nil=>intro acc;simp
 |cons a l ih=>
  intro acc;have:=ih (putA acc a.canon);have:=a5M acc a.canon;simp only [List.foldl_cons,zz9];omega
theorem b1a {w:World} {v:Value} {l m:List Att} {x c:Att} (h:i7 w 70 6 v (l++x::m).length (j7 (l++x::m))):∃g off cap cur,v= .slice (some ⟨g,off,none⟩) (l++x::m).length cap/\
 w.heap[g]? =some (.cells cur 70 (0,0))/\off+l.length*6+6<=cur.size/\(l++x::m).length<=cap/\
 i7 (w.setRow g (cur.toList.take (off+l.length*6)++c.cells++cur.toList.drop (off+l.length*6+c.cells.length)).toArray) 70 6 v (l++c::m).length (j7 (l++c::m)):=by
 rcases h.2 with ⟨-,h0⟩|⟨g,off,cap,cur,hv,hg,hn,hc,hs,ht⟩
 ·simp at h0
 have hlen:(l++x::m).length=l.length+1+m.length:=by simp;omega
 have hlen':(l++c::m).length=l.length+1+m.length:=by simp;omega
 have hsz:off+(l.length+1+m.length)*6<=cur.size:=by
  have:(l++x::m).length*6<=cap*6:=Nat.mul_le_mul_right _ hn;omega
 refine ⟨g,off,cap,cur,hv,hg,by omega,hn,⟨by rw [A8],.inr ⟨g,off,cap,_,by rw [hv,hlen,hlen'],setRow_heap w g cur _ _ _ hg,by omega,hc, ?_, ?_⟩⟩⟩
 ·simp only [List.size_toArray,zz4,List.length_take,List.length_drop,Array.length_toList,Att.cells_length];omega
 rw [hlen] at ht;rw [hlen'];have hq:=a99 (L:=cur.toList) (A:=j7 l) (X:=x.cells) (B:=j7 m) (C:=c.cells) (off:=off) (n:=(l.length+1+m.length)*6) (by rw [Array.length_toList];omega) (by rw [ht,r9,G7]) rfl (by rw [A8,A8,Att.cells_length];omega);rw [A8] at hq;rw [r9,G7];exact hq
theorem a7b {w:World} {b:Nat} {o:Obj} (h:w.heap[b]? =some o) (v:Value):(w.setCell ⟨b+1,1,none⟩ v).heap[b]? =some o:=
 ((Mod.refl (fun k=>k=b+1) w).setCell (fun _=>rfl) _).heap h (by omega)
theorem a7c {w:World} {b:Nat} {x y:Value} {t:TypeId} {a7:Option Addr} {n m c7:Nat} (h:w.heap[b]? =some (.cells #[x,y] t (0,0))) (hl:n=m):(w.setCell ⟨b,1,none⟩ (.slice a7 m c7)).heap[b]? =some (.cells #[x,.slice a7 n c7] t (0,0)):=by
 subst hl;exact p7 h
theorem b4E (w:World) (sc:ByteArray) (lv:Value) (l:List Att) (hv:j0 w 6 lv l.length (j7 l)) (hll:l.length<=1000):
 Calls Tryz.prog 71 #[.string sc,lv] w fun e w'=>∃av,e= .returned (.agg #[.string sc,av])/\i7 w' 70 6 av (O8 l).length (j7 (O8 l))/\
  (∀b,av.ownBlock=some b->w.heap.size<=b)/\Mod (fun _=>False) w w':=by
 obtain ⟨a,cap,rfl⟩:∃a c,lv= .slice a l.length c:=by obtain ⟨-,a,c,h, -⟩:=hv;exact ⟨a,c,h⟩
 have hll':(l.length:Int)<=1000:=by omega
 obtain ⟨wa,hwa,hmwa,hgwa,hzwa⟩:=e8 w (.cells #[.string ⟨#[]⟩,.slice none 0 0] 46);obtain ⟨wb,hwb,hmwb,hgwb,hzwb⟩:=e8 wa (.cells #[.string sc,.slice none 0 0] 46);have hmb:Mod (fun _=>False) w wb:=hmwa.trans hmwb (fun _ _ h=>h);have hgR:=hmwb.heap hgwa (fun h=>h);have hgE:=hgwb;rw [hzwa] at hgE;have hcap:(l.length:Int)<=cap:=by obtain ⟨-,a',c',h1,h2, -⟩:=hv;cases h1;omega
 obtain ⟨Hv,Hwa,Hwb,Hmb,HgR,HgE,Hmwa,Hmwb,Hgwa,Hgwb,Hzwa,Hzwb⟩:=zh12 hv hwa hwb hmb hgR hgE hmwa hmwb hgwa hgwb hzwa hzwb;clear hv hwa hwb hmb hgR hgE hmwa hmwb hgwa hgwb hzwa hzwb
 go_enter Tryz.func71,Tryz.ntmps71
 go_wp2_with fail
 rw [Hwa.out,Hwb.out];have hlw:w.heap.size+2<=wb.heap.size:=by rw [Hzwb.out,Hzwa.out];exact Nat.le_refl _
 go_loopw [14] (fun i wr=>∃j:Nat,∃av acc,i= .int .i64 j/\j<=l.length/\acc=O8 (l.take j)/\wr.heap[w.heap.size]? =some (.cells #[.string ⟨#[]⟩,.slice none 0 0] 46 (0,0))/\
  wr.heap[w.heap.size+1]? =some (.cells #[.string sc,av] 46 (0,0))/\i7 wr 70 6 av acc.length (j7 acc)/\(∀b,av.ownBlock=some b->w.heap.size+2<=b)/\Mod (fun _=>False) w wr/\wb.heap.size<=wr.heap.size) (fun i _=>l.length - (intOf i).toNat)
 case atStart=>exact ⟨0,.slice none 0 0,[],rfl,Nat.zero_le _,rfl,HgR.out,HgE.out,i7.nil _ _ _,(fun b hb=>by cases hb),Hmb.out,Nat.le_refl _⟩
 case round=>
  obtain ⟨j,av,acc,rfl,hj,hacc,hR,hE,hown,hfr,hmr,hsz⟩:=hrel;by_cases hlt:j<l.length
  ·have hlt':(j:Int)<l.length:=by omega
   obtain ⟨x,hxj⟩:∃x,l[j]? =some x:=⟨_,zz5 hlt⟩
   have hal:acc.length<=1000:=by
    have:=a15 (l.take j);rw [hacc];rw [List.length_take] at this;omega
   have hrise:Go.Proofs.YtaenebdppkjhoaaGreatDoor.u7 acc:=hacc▸a0I _;have hnext:O8 (l.take (j+1))=putA acc x.canon:=by rw [List.take_add_one,hxj,hacc];exact a9i _ _
   obtain ⟨g,off,rfl,hf⟩:∃g off,a=some ⟨g,off,none⟩/\e7 wr g (off+j*6) x.cells:=by
    obtain ⟨-,a',c',h1, -,h3,h4⟩:=Hv.out.mod hmr (fun _ _ h=>h);cases h1
    cases a with
    |none=>exact absurd (h3 rfl) (by omega)
    |some b=>
     obtain ⟨g',off',h5,h6⟩:=h4 _ rfl (by omega);refine ⟨g',off',by rw [h5],fun i u hu=> ?_⟩;have:=h6 (6*j+i) u (a0j _ hxj hu);rw [show off'+j*6+i=off'+(6*j+i) by omega];exact this
   have a0:wr.cell? ⟨g,off+j*6,none⟩=some (.string x.name):=hf 0 _ rfl;have a1:wr.cell? ⟨g,off+j*6+1,none⟩=some (.int .i64 x.v.kind):=hf 1 _ rfl;have a2:wr.cell? ⟨g,off+j*6+2,none⟩=some (.int .i64 x.v.int):=hf 2 _ rfl;have a3:wr.cell? ⟨g,off+j*6+3,none⟩=some (.float .f64 x.v.num):=hf 3 _ rfl;have a4:wr.cell? ⟨g,off+j*6+4,none⟩=some (.string x.v.text):=hf 4 _ rfl;have a5:wr.cell? ⟨g,off+j*6+5,none⟩=some (.bool x.v.yes):=hf 5 _ rfl;obtain ⟨wz,hwz,hmwz,hgwz,hzwz⟩:=e8 wr (.cells x.cells.toArray 70);have z1:wz.cell? ⟨wr.heap.size,1,none⟩=some (.int .i64 x.v.kind):=d6 hgwz rfl;have z2:wz.cell? ⟨wr.heap.size,2,none⟩=some (.int .i64 x.v.int):=d6 hgwz rfl;have z3:wz.cell? ⟨wr.heap.size,3,none⟩=some (.float .f64 x.v.num):=d6 hgwz rfl;have z4:wz.cell? ⟨wr.heap.size,4,none⟩=some (.string x.v.text):=d6 hgwz rfl;have z5:wz.cell? ⟨wr.heap.size,5,none⟩=some (.bool x.v.yes):=d6 hgwz rfl;have hqz:wr.heap.size<wz.heap.size:=by omega
   obtain ⟨Hxj,Hacc,Hrise,Hnext,Hf,HR,HE,Hown,Hfr,Hmr,Hwz,Hmwz⟩:=zh12 hxj hacc hrise hnext hf hR hE hown hfr hmr hwz hmwz;obtain ⟨Hgwz,Hzwz⟩:=zh2 hgwz hzwz;clear hxj hacc hrise hnext hf hR hE hown hfr hmr hwz hmwz hgwz hzwz
   go_wp2_with (first|((with_reducible refine d8 70 (.tmp 7) (.tmp 17) ?_);refine ⟨rfl,x.cells,rfl,rfl,by kernel_rfl,rfl, ?_⟩;rw [Hwz.out])|fail)
   refine (Y7 x.v wz).mono ?_;rintro e w3 ⟨rfl,hm3⟩;have hgz3:=hm3.heap Hgwz.out (fun h=>h);have hmr3:=Hmwz.out.trans hm3 (fun _ _ h=>h);have hE3:=hmr3.heap HE.out (fun h=>h);have hR3:=hmr3.heap HR.out (fun h=>h);have hown3:=Hown.out.mod hmr3 (fun _ _ h=>h);obtain ⟨aa,ac,rfl,hac⟩:=hown3.shape;have hac':(acc.length:Int)<=ac:=by omega
   have hz3:=hmr3.size;obtain ⟨Hgz3,Hmr3,HE3,HR3,Hown3⟩:=zh5 hgz3 hmr3 hE3 hR3 hown3;clear hgz3 hmr3 hE3 hR3 hown3 hm3 z1 z2 z3 z4 z5 a0 a1 a2 a3 a4 a5
   go_wp2_with (first|((with_reducible refine r5 68 (.tmp 21) (.tmp 20) ?_);refine ⟨wr.heap.size,1,rfl,_,_,Hgz3.out,x.v.canon.cells,rfl,Nat.le_refl 6,by kernel_rfl,rfl, ?_⟩;intro w4 he4 hm4;have hgz4:w4.heap[wr.heap.size]? =some (.cells x.canon.cells.toArray 70 (0,0)):=he4▸setRow_heap w3 wr.heap.size _ _ _ _ Hgz3.out;have hE4:=hm4.heap HE3.out (by omega);have e0:w4.cell? ⟨w.heap.size+1,0,none⟩=some (.string sc):=d6 hE4 rfl;have e1:w4.cell? ⟨w.heap.size+1,1,none⟩=some (.slice aa acc.length ac):=d6 hE4 rfl;have n0:w4.cell? ⟨wr.heap.size,0,none⟩=some (.string x.name):=d6 hgz4 rfl;have Hm4:=Lib.hid hm4;have Hgz4:=Lib.hid hgz4;have HE4:=Lib.hid hE4;clear he4 hm4 hgz4 hE4)|fail)
   have hfr4:∀b,(Value.slice aa acc.length ac).ownBlock=some b->b≠wr.heap.size:=fun b hb=>by have:=Hown.out.lt b hb;omega
   have hown4:=Hown3.out.mod Hm4.out hfr4;have hm04:Mod (fun _=>False) w w4:=(Hmr.out.trans Hmr3.out (fun _ _ h=>h)).upon Hm4.out (fun b hb=> .inr (by have:=Hmr.out.size;omega));have hR4:=Hm4.out.heap HR3.out (by omega);refine (a8F w4 sc (.slice aa acc.length ac) acc hown4.rd (by omega) Hrise.out x.name).mono ?_;rintro e w5 ⟨rfl,hm5⟩;have hp:=b2s acc x.name;have hE5:=hm5.heap HE4.out (fun h=>h);have hR5:=hm5.heap hR4 (fun h=>h);have hgz5:=hm5.heap Hgz4.out (fun h=>h);have hown5:=hown4.mod hm5 (fun _ _ h=>h);have hm05:=hm04.trans hm5 (fun _ _ h=>h);have hz5:wr.heap.size<w5.heap.size:=(zz7 hgz5).1;have e1:w5.cell? ⟨w.heap.size+1,1,none⟩=some (.slice aa acc.length ac):=d6 hE5 rfl;have hput:putA acc x.canon=if there acc x.name=true then acc.take (pos acc x.name)++x.canon::acc.drop (pos acc x.name+1) else acc.take (pos acc x.name)++x.canon::acc.drop (pos acc x.name):=rfl
   have hfr5:=Hfr.out
   have htl:there acc x.name=true->pos acc x.name<acc.length:=fun h=>by
    unfold there at h;split at h
    ·rename_i hq;exact (zz6 hq).1
    ·cases h
   obtain ⟨p,hpp⟩:∃p,pos acc x.name=p:=⟨_,rfl⟩;rw [hpp] at hput hp htl⊢;obtain ⟨Hpp,Hput,Htl,Hfr5,HE5,HR5,Hgz5,Hown5,Hm05,Hfr4⟩:=zh10 hpp hput htl hfr5 hE5 hR5 hgz5 hown5 hm05 hfr4;clear hpp hput htl hfr5 hE5 hR5 hgz5 hown5 hm05 hfr4 hm5 e0 n0 hown4 hm04 hR4 HE4 Hgz4 Hm4 HE3 HR3 Hown3 Hgz3
   cases hth:there acc x.name with
   | true=>
    have hpl:=Htl.out hth;have hpl':(p:Int)<acc.length:=by omega
    obtain ⟨y,hy⟩:∃y,acc[p]? =some y:=⟨_,zz5 hpl⟩
    have hsp:acc=acc.take p++y::acc.drop (p+1):=by
     conv=>lhs;rw [<-List.take_append_drop p acc,List.drop_eq_getElem_cons hpl]
     rw [zz5 hpl] at hy;cases hy;rfl
    have hown6:=Hown5.out;rw [hsp] at hown6;have hl6:(acc.take p++y::acc.drop (p+1)).length=acc.length:=by rw [<-hsp]
    obtain ⟨gq,offq,capq,cur,hq1,hq2,hq3,hq4,hq5⟩:=b1a (c:=x.canon) (show i7 w5 70 6 (.slice aa acc.length ac) (acc.take p++y::acc.drop (p+1)).length _ by rw [hl6];rw [hl6] at hown6;exact hown6);have hlt6:(acc.take p).length=p:=by rw [List.length_take];omega
    have hl7:(acc.take p++x.canon::acc.drop (p+1)).length=acc.length:=by rw [<-hl6];simp
    rw [hl6] at hq1 hq4;cases hq1
    rw [hlt6,hl7] at hq5;rw [hlt6] at hq3;have Hput0:=Hput.out;rw [hth,if_pos rfl] at Hput0;have hfg:=Hfr5.out gq rfl;obtain ⟨Hq2,Hq3,Hq5,Hl7,Hy⟩:=zh5 hq2 hq3 hq5 hl7 hy;clear hq2 hq3 hq5 hl7 hy hsp hl6 hown6 hlt6
    go_wp2_with (first|((with_reducible refine d9 70 (.tmp 7) ?_);refine ⟨wr.heap.size,0,rfl,x.canon.cells,e7.row Hgz5.out,by kernel_rfl,by kernel_rfl, ?_⟩)|((with_reducible refine r5 70 (.tmp 34) (.tmp 33) ?_);refine ⟨gq,offq+p*6,rfl,_,_,Hq2.out,x.canon.cells,rfl,Hq3.out,by kernel_rfl,rfl, ?_⟩;intro w6 he6 hm6;have He6:=Lib.hid he6;have Hm6:=Lib.hid hm6;clear he6 hm6)|fail)
    have hown6:=Hq5.out;rw [<-He6.out] at hown6;have hE6:=Hm6.out.heap HE5.out (by omega);have hR6:=Hm6.out.heap HR5.out (by omega);have hm06:Mod (fun _=>False) w w6:=Hm05.out.upon Hm6.out (fun b hb=> .inr (by omega));have hs6:wb.heap.size<=w6.heap.size:=by have:=Hm6.out.size;omega
    rw [<-Hput0,<-Hnext.out] at hown6;have hl8:(O8 (l.take (j+1))).length=acc.length:=by rw [Hnext.out,Hput0,Hl7.out]
    rw [<-hl8] at hE6;rw [<-hl8] at hown6;obtain ⟨Hown6,HE6,HR6,Hm06,Hs6,Hl8,Hfg⟩:=zh7 hown6 hE6 hR6 hm06 hs6 hl8 hfg;clear hown6 hE6 hR6 hm06 hs6 hl8 hfg
    go_wp2_with fail
    go_roundw
    all_goals first
     |exact ⟨j+1,_,_,by go_num,hlt,rfl,HR6.out,HE6.out,Hown6.out,fun b hb=>(by cases hb;exact Hfg.out),Hm06.out,Hs6.out⟩
     |(simp [intOf];omega)
   | false=>
    have Hput0:=Hput.out;rw [hth,if_neg (by decide)] at Hput0;obtain ⟨w6,hw6,hmw6,hgw6,hzw6⟩:=e8 w5 (.cells x.canon.cells.toArray 70);have hw6':w5.alloc (.cells #[.string x.name,.int .i64 x.v.canon.kind,.int .i64 x.v.canon.int,.float .f64 x.v.canon.num,.string x.v.canon.text,.bool x.v.canon.yes] 70)=w6:=hw6;have hown6:=Hown5.out.mod hmw6 (fun _ _ h=>h);have hE6:=hmw6.heap HE5.out (fun h=>h);have hR6:=hmw6.heap HR5.out (fun h=>h);have hm06:=Hm05.out.trans hmw6 (fun _ _ h=>h);have hins:=a9b w6 (.slice aa acc.length ac) acc p x.canon hown6 hp (by omega) w5.heap.size hgw6 (fun b hb=>by have:=Hown5.out.lt b hb;omega);obtain ⟨Hins,Hown6,HE6,HR6,Hm06⟩:=zh5 hins hown6 hE6 hR6 hm06;clear hins hown6 hE6 hR6 hm06 hw6 hmw6 hgw6;have Hw6:=zh hw6';clear hw6'
    go_wp2_with (first|((with_reducible refine d9 70 (.tmp 7) ?_);refine ⟨wr.heap.size,0,rfl,[.string x.name,.int .i64 x.v.canon.kind,.int .i64 x.v.canon.int,.float .f64 x.v.canon.num,.string x.v.canon.text,.bool x.v.canon.yes],e7.row Hgz5.out,by kernel_rfl,by kernel_rfl, ?_⟩)|fail)
    rw [Hw6.out];refine Hins.out.mono ?_;rintro e w7 ⟨v',rfl,hA⟩;have hne7:∀b,j1 (.slice aa acc.length ac) b->b≠w.heap.size+1/\b≠w.heap.size:=fun b hb=>by have:=Hfr5.out b hb;omega
    have hE7:=hA.2.1.heap HE6.out (fun h=>(hne7 _ h).1 rfl);have hR7:=hA.2.1.heap HR6.out (fun h=>(hne7 _ h).2 rfl);have hm07:Mod (fun _=>False) w w7:=Hm06.out.upon hA.2.1 (fun b hb=> .inr (by have:=Hfr5.out b hb;omega));have hown7:=hA.1;obtain ⟨a7,c7,rfl, -⟩:=hown7.shape
    have hfr7:∀b,(Value.slice a7 (acc.length+1) c7).ownBlock=some b->w.heap.size+2<=b:=fun b hb=>by
     rcases hA.2.2 with h|⟨k,h,hk⟩
     ·exact Hfr5.out b (by rw [<-h];exact hb)
     rw [h] at hb;cases hb;have:=Hm06.out.size;have:=Hm05.out.size;omega
    have e1:w7.cell? ⟨w.heap.size+1,1,none⟩=some (.slice aa acc.length ac):=d6 hE7 rfl;have f1:w7.frozen? ⟨w.heap.size+1,1,none⟩=false:=L7 hE7;have hs7:wb.heap.size<=w7.heap.size:=by have:=hA.2.1.size;omega
    have hl8:(O8 (l.take (j+1))).length=acc.length+1:=by
     rw [Hnext.out,Hput0];simp only [zz4,zz9,List.length_take,List.length_drop];omega
    rw [<-Hput0,<-Hnext.out,<-hl8] at hown7;rw [<-hl8] at hfr7;obtain ⟨Hown7,HE7,HR7,Hm07,Hfr7,Hs7,Hl8⟩:=zh7 hown7 hE7 hR7 hm07 hfr7 hs7 hl8;clear hown7 hE7 hR7 hm07 hfr7 hs7 hl8 hA hne7
    go_wp2_with fail
    go_roundw
    case rel=>
     refine ⟨j+1,.slice a7 (O8 (l.take (j+1))).length c7,_,by go_num,hlt,rfl,a7b HR7.out _,a7c HE7.out Hl8.out,Hown7.out.setCell (fun h=> ?_) _,Hfr7.out,Hm07.out.upon ((Mod.refl (fun k=>k=w.heap.size+1) w7).setCell (fun _=>rfl) _) (fun b hb=> .inr (by omega)), ?_⟩
     ·have:=Hfr7.out _ h;have h2:w.heap.size+2<=w.heap.size+1:=this;omega
     have:=Hs7.out;simp;exact this
    case measure=>simp [intOf];omega
  obtain rfl:j=l.length:=by omega
  rw [List.take_length] at hacc;subst hacc;obtain ⟨aa,ac,rfl, -⟩:=hown.shape;obtain ⟨HR,HE,Hown,Hfr,Hmr⟩:=zh5 hR hE hown hfr hmr;clear hR hE hown hfr hmr
  go_wp2_with (first|((with_reducible refine d9 46 (.tmp 5) ?_);refine ⟨w.heap.size+1,0,rfl,[.string sc,.slice aa (O8 l).length ac],e7.row HE.out,by kernel_rfl,by kernel_rfl, ?_⟩)|((with_reducible refine j3 46 (.tmp 4) (.tmp 43) ?_);refine ⟨w.heap.size,rfl,_,_,HR.out,[.string sc,.slice aa (O8 l).length ac],rfl,rfl,by kernel_rfl,rfl, ?_⟩;intro w6 hg6 hm6;have Hg6:=Lib.hid hg6;have Hm6:=Lib.hid hm6;clear hg6 hm6)|fail)
  refine o3 rfl w.heap.size rfl _ (e7.row Hg6.out) (by kernel_rfl) (by kernel_rfl) rfl ⟨.slice aa (O8 l).length ac,rfl,Hown.out.mod Hm6.out (fun b hb=>by have:=Hfr.out b hb;omega),fun b hb=>by have:=Hfr.out b hb;omega,Hmr.out.upon Hm6.out (fun b hb=> .inr (by omega))⟩
def a7d (s:ByteArray):ByteArray:=if s5 s=true then s else ⟨#[]⟩
def a2o (l:List Att):List Att:=((O8 l).filter fun a=>o7 [a]).take 8
theorem a1N {α:Type} (p:α->Bool) {l:List α} {j:Nat} {x:α} (h:l[j]? =some x):((l.take (j+1)).filter p).take 8=((l.take j).filter p).take 8++(if (decide ((((l.take j).filter p).take 8).length<8)&&p x)=true then [x] else []):=by
 rw [a12 p h]
 generalize (l.take j).filter p=q
 rw [List.take_append];by_cases hp:p x=true
 ·rw [if_pos hp,hp,Bool.and_true];by_cases hq:q.length<8
  ·rw [if_pos (by rw [List.length_take];exact decide_eq_true (by omega)),List.take_of_length_le (by omega),List.take_of_length_le (by simp;omega)]
  rw [if_neg (by rw [List.length_take];simp;omega),show 8 - q.length=0 by omega,List.take_zero]
 have hp:p x=false:=by simpa using hp
 rw [hp,Bool.and_false];simp
theorem a8m (l:List Att):(a2o l).length<=8:=by unfold a2o;rw [List.length_take];omega
theorem b1b {l:List Att} {a:Att} (h:a∈a2o l):a∈O8 l/\o7 [a]=true:=by
 have:=List.mem_of_mem_take h;exact List.mem_filter.1 this
theorem a3j {l:List Att}:Go.Proofs.YtaenebdppkjhoaaGreatDoor.u7 l↔l.Pairwise (fun x y=>Op.bytesLess x.name.data.toList y.name.data.toList=true):=by
 rw [List.pairwise_iff_getElem];constructor
 ·intro h i j hi hj hij;exact h i j _ _ hij (zz5 hi) (zz5 hj)
 intro h i j x y hij hx hy;obtain ⟨h1,rfl⟩:=zz6 hx;obtain ⟨h2,rfl⟩:=zz6 hy;exact h i j h1 h2 hij
theorem u7.sub {l m:List Att} (h:u7 l) (hs:m.Sublist l):u7 m:=a3j.2 ((a3j.1 h).sublist hs)
theorem a7e (l:List Att):Go.Proofs.YtaenebdppkjhoaaGreatDoor.u7 (a2o l):=(a0I l).sub ((List.take_sublist _ _).trans List.filter_sublist)
theorem b4F (w:World) (s:ByteArray) (lv:Value) (l:List Att) (hv:j0 w 6 lv l.length (j7 l)) (hll:l.length<=1000) (hs:s.size<=9223372036854775807) (hsz:∀x∈O8 l,x.name.size<=9223372036854775807):
 Calls Tryz.prog 37 #[.string s,lv] w fun e w'=>∃av,e= .returned (.agg #[.string (a7d s),av])/\i7 w' 70 6 av (a2o l).length (j7 (a2o l))/\
  (∀b,av.ownBlock=some b->w.heap.size<=b)/\Mod (fun _=>False) w w':=by
 obtain ⟨a,cap,rfl⟩:∃a c,lv= .slice a l.length c:=by obtain ⟨-,a,c,h, -⟩:=hv;exact ⟨a,c,h⟩
 obtain ⟨wa,hwa,hmwa,hgwa,hzwa⟩:=e8 w (.cells #[.string ⟨#[]⟩,.slice none 0 0] 46);have hsr:=M2 s (by omega) wa;have hva:=hv.mod hmwa (fun _ _ h=>h);obtain ⟨sc,hsc⟩:∃q,a7d s=q:=⟨_,rfl⟩;rw [hsc];obtain ⟨Hwa,Hmwa,Hgwa,Hsr,Hva,Hsz⟩:=zh6 hwa hmwa hgwa hsr hva hsz;clear hwa hmwa hgwa hsr hva hsz hv hs
 go_enter Tryz.func37,Tryz.ntmps37
 go_wp2_with (first|(rw [show w.alloc _=wa from Hwa.out])|fail)
 refine Hsr.out.mono ?_;rintro e w1 ⟨rfl,hm1⟩;have hg1:=hm1.heap Hgwa.out (fun h=>h);have hm01:=Hmwa.out.trans hm1 (fun _ _ h=>h);have hv1:=Hva.out.mod hm1 (fun _ _ h=>h);have hnw:=b4E w1 sc (.slice a l.length cap) l hv1 hll;obtain ⟨Hg1,Hm01,Hnw⟩:=zh3 hg1 hm01 hnw;clear hg1 hm01 hnw hm1 hv1 Hsr Hva Hmwa Hgwa Hwa
 go_upto_if 11 with fail
 go_cut [0] (fun s0 wx=>s0= .string sc/\wx=w1)
 case first=>
  cases hb:s5 s with
  |true=>
   have e:sc=s:=by rw [<-hsc];unfold a7d;rw [if_pos hb]
   have E:=zh e;clear hsc hb e
   go_wp2_with fail
   go_meet
   case rel=>exact ⟨by rw [E.out],rfl⟩
  |false=>
   have e:sc=⟨#[]⟩:=by rw [<-hsc];unfold a7d;rw [if_neg (by rw [hb];decide)]
   have E:=zh e;clear hsc hb e
   go_wp2_with fail
   go_meet
   case rel=>exact ⟨by rw [E.out],rfl⟩
 case rest=>
  obtain ⟨rfl,rfl⟩:=hcut;obtain ⟨wk,rfl⟩:∃wk:World,wk=wc:=⟨_,rfl⟩;clear hsc
  go_wp2_with fail
  refine Hnw.out.mono ?_;rintro e w2 ⟨av,rfl,hown,hfr,hm2⟩;have hm02:=Hm01.out.trans hm2 (fun _ _ h=>h);have hg2:=hm2.heap Hg1.out (fun h=>h);have hrr:=a0I l;have hlen:=a15 l;have hev:=a8m l;obtain ⟨L,hL⟩:∃L,O8 l=L:=⟨_,rfl⟩;rw [hL] at hown hrr hlen;obtain ⟨aa,ac,rfl,hac⟩:=hown.shape;have hLl:(L.length:Int)<=1000:=by omega
  obtain ⟨wb,hwb,hmwb,hgwb,hzwb⟩:=e8 w2 (.cells #[.string sc,.slice aa L.length ac] 46);obtain ⟨w6,hw6,hmw6,hgw6,hzw6⟩:=e8 wb (.cells #[.string sc,.slice none 0 0] 46);have hgb:=hmw6.heap hgwb (fun h=>h);have hg6:=(hmwb.trans hmw6 (fun _ _ h=>h)).heap hg2 (fun h=>h);have hrd:=((hown.mod hmwb (fun _ _ h=>h)).mod hmw6 (fun _ _ h=>h)).rd;have hav:∀b,(Value.slice aa L.length ac).ownBlock=some b->b<wb.heap.size:=fun b hb=>by have:=hown.lt b hb;omega
  have hz2:w.heap.size<w2.heap.size:=(zz7 hg2).1;have hm06:=hm02.trans (hmwb.trans hmw6 (fun _ _ h=>h)) (fun _ _ h=>h);have hbz:w2.heap.size<wb.heap.size:=by omega
  have hbz6:wb.heap.size<w6.heap.size:=by omega
  have hzb:w2.heap.size+1=wb.heap.size:=by omega
  have hz6:wb.heap.size+1=w6.heap.size:=by omega
  obtain ⟨HL,Hwb,Hw6,Hgw6,Hgb,Hg6,Hrd,Hav,Hm06,Hfr,Hzb,Hz6⟩:=zh12 hL hwb hw6 hgw6 hgb hg6 hrd hav hm06 hfr hzb hz6;clear hL hwb hw6 hgw6 hgb hg6 hrd hav hm06 hfr hzb hz6 hm02 hg2 hown hm2 hmwb hmw6 hgwb hzwb hzw6 Hnw Hm01 Hg1 hrr hlen;have q0:w6.cell? ⟨w2.heap.size,0,none⟩=some (.string sc):=d6 Hgb.out rfl;have q1:w6.cell? ⟨w2.heap.size,1,none⟩=some (.slice aa L.length ac):=d6 Hgb.out rfl
  go_wp2_with (first|((with_reducible refine d8 46 (.tmp 5) (.tmp 14) ?_);refine ⟨rfl,[.string sc,.slice aa L.length ac],rfl,rfl,by kernel_rfl,rfl, ?_⟩;rw [Hwb.out])|((with_reducible refine d8 46 (.tmp 6) (.tmp 16) ?_);refine ⟨rfl,[.string sc,.slice none 0 0],rfl,rfl,by kernel_rfl,rfl, ?_⟩;rw [Hw6.out])|fail)
  clear q0 q1
  go_loopw [20] (fun i wr=>∃(j n:Nat) (oa:Option Addr) (oc:Nat),i= .int .i64 j/\j<=L.length/\n=(((L.take j).filter fun a=>o7 [a]).take 8).length/\wr.heap[wb.heap.size]? =some (.cells #[.string sc,.slice oa n oc] 46 (0,0))/\
   i7 wr 70 6 (.slice oa n oc) n (j7 (((L.take j).filter fun a=>o7 [a]).take 8))/\(∀b,(Value.slice oa n oc).ownBlock=some b->w6.heap.size<=b)/\Mod (fun k=>k=wb.heap.size) w6 wr) (fun i _=>L.length - (intOf i).toNat)
  case atStart=>exact ⟨0,0,none,0,rfl,Nat.zero_le _,rfl,Hgw6.out,i7.nil _ _ _,fun b hb=>(by cases hb),Mod.refl _ _⟩
  case round=>
   obtain ⟨j,n,oa,oc,rfl,hj,hn,hrow,hown,hfo,hmr⟩:=hrel;by_cases hlt:j<L.length
   ·have hlt':(j:Int)<L.length:=by omega
    obtain ⟨x,hxj⟩:∃x,L[j]? =some x:=⟨_,zz5 hlt⟩;obtain ⟨g,off,rfl,hf⟩:∃g off,aa=some ⟨g,off,none⟩/\e7 wr g (off+j*6) x.cells:=a6C (Hrd.out.mod hmr (fun b hb=>by have:=Hav.out b hb;omega)) hxj;have hnx:=a1N (fun a=>o7 [a]) hxj;have hxn:x.name.size<=9223372036854775807:=Hsz.out x (by rw [HL.out];exact zz8 hxj);have hn8:n<=8:=by rw [hn,List.length_take];omega
    obtain ⟨acc,hacc⟩:∃q,((L.take j).filter fun a=>o7 [a]).take 8=q:=⟨_,rfl⟩;rw [hacc] at hn hown hnx;obtain ⟨nx,hnx'⟩:∃q,((L.take (j+1)).filter fun a=>o7 [a]).take 8=q:=⟨_,rfl⟩;rw [hnx',<-hn] at hnx;obtain ⟨wz,hwz,hmwz,hgwz,hzwz⟩:=e8 wr (.cells x.cells.toArray 70);have hlr:wb.heap.size<wr.heap.size:=(zz7 hrow).1;have hrowz:=hmwz.heap hrow (fun h=>h);have hownz:=hown.mod hmwz (fun _ _ h=>h);have hmz:Mod (fun k=>k=wb.heap.size) w6 wz:=hmr.trans hmwz (fun _ _ h=>h.elim);have hlz2:wr.heap.size<wz.heap.size:=by omega
    have o0:wz.cell? ⟨wb.heap.size,0,none⟩=some (.string sc):=d6 hrowz rfl;have o1:wz.cell? ⟨wb.heap.size,1,none⟩=some (.slice oa n oc):=d6 hrowz rfl;have x0:wz.cell? ⟨wr.heap.size,0,none⟩=some (.string x.name):=d6 hgwz rfl;have x1:wz.cell? ⟨wr.heap.size,1,none⟩=some (.int .i64 x.v.kind):=d6 hgwz rfl;have x2:wz.cell? ⟨wr.heap.size,2,none⟩=some (.int .i64 x.v.int):=d6 hgwz rfl;have x3:wz.cell? ⟨wr.heap.size,3,none⟩=some (.float .f64 x.v.num):=d6 hgwz rfl;have x4:wz.cell? ⟨wr.heap.size,4,none⟩=some (.string x.v.text):=d6 hgwz rfl;have x5:wz.cell? ⟨wr.heap.size,5,none⟩=some (.bool x.v.yes):=d6 hgwz rfl;obtain ⟨Hxj,Hf,Hwz,Hgwz,Hrowz,Hownz,Hmz,Hn,Hnx,Hnx',Hfo⟩:=zh11 hxj hf hwz hgwz hrowz hownz hmz hn hnx hnx' hfo;clear hxj hf hwz hgwz hrowz hownz hmz hn hnx hnx' hfo hzwz hmwz hacc hrow hown hmr;by_cases hn7:n<8
    ·have hn7':(n:Int)<8:=by omega
     have hnx2:nx=acc++(if o7 [x]=true then [x] else []):=by rw [Hnx.out,decide_eq_true hn7,Bool.true_and]
     obtain ⟨wS,hwS,hmwS,hgwS,hzwS⟩:=e8 wz (.cells x.cells.toArray 70);have hwS':wz.alloc (.cells #[.string x.name,.int .i64 x.v.kind,.int .i64 x.v.int,.float .f64 x.v.num,.string x.v.text,.bool x.v.yes] 70)=wS:=hwS;have hrdS:j0 wS 6 (.slice (some ⟨wz.heap.size,0,none⟩) 1 1) 1 x.cells:=hwS▸j0.one wz x.cells 70 rfl
     have hrt:=a56 ⟨#[]⟩ (.slice (some ⟨wz.heap.size,0,none⟩) 1 1) [x] wS (by simpa [j7] using hrdS) (by simp) (fun y hy=>by
      have:y=x:=by simpa using hy
      rw [this];exact hxn)
     have hrowS:=hmwS.heap Hrowz.out (fun h=>h);have hownS:=Hownz.out.mod hmwS (fun _ _ h=>h);have hmS:Mod (fun k=>k=wb.heap.size) w6 wS:=Hmz.out.trans hmwS (fun _ _ h=>h.elim);have hgzS:=hmwS.heap Hgwz.out (fun h=>h);obtain ⟨RB,hRB⟩:∃q,o7 [x]=q:=⟨_,rfl⟩;rw [hRB] at hrt hnx2;obtain ⟨HwS',Hrt,HrowS,HownS,HmS,HgzS,Hnx2⟩:=zh7 hwS' hrt hrowS hownS hmS hgzS hnx2;clear hwS' hrt hrowS hownS hmS hgzS hnx2 hwS hmwS hgwS hzwS hrdS hRB Hrowz Hownz Hmz Hnx
     go_wp2_with (first|((with_reducible refine d9 70 (.tmp 22) ?_);refine ⟨g,off+j*6,rfl,x.cells,Hf.out,by kernel_rfl,by kernel_rfl, ?_⟩)|((with_reducible refine d8 70 (.tmp 8) (.tmp 23) ?_);refine ⟨rfl,x.cells,rfl,rfl,by kernel_rfl,rfl, ?_⟩;rw [Hwz.out])|(rw [show wz.alloc _=wS from HwS'.out])|fail)
     refine Hrt.out.mono ?_;rintro e w3 ⟨rfl,hm3⟩;have hrow3:=hm3.heap HrowS.out (fun h=>h);have hown3:=HownS.out.mod hm3 (fun _ _ h=>h);have hgz3:=hm3.heap HgzS.out (fun h=>h);have hm63:Mod (fun k=>k=wb.heap.size) w6 w3:=HmS.out.trans hm3 (fun _ _ h=>h.elim);obtain ⟨Hrow3,Hown3,Hgz3,Hm63⟩:=zh4 hrow3 hown3 hgz3 hm63;clear hrow3 hown3 hgz3 hm63 hm3 o0 o1 x0 x1 x2 x3 x4 x5 Hrt HrowS HownS HgzS HmS
     cases RB with
     |false=>
      have hnx3:nx=acc:=by rw [Hnx2.out,if_neg (by decide),zz11]
      have hown4:=Hown3.out;rw [<-hnx3,<-Hnx'.out] at hown4;have hlen:n=(((L.take (j+1)).filter fun a=>o7 [a]).take 8).length:=by rw [Hnx'.out,hnx3];exact Hn.out
      obtain ⟨Hown4,Hlen⟩:=zh2 hown4 hlen;clear hown4 hlen hnx3
      go_wp2_with fail
      go_roundw
      case rel=>exact ⟨j+1,n,oa,oc,by go_num,hlt,Hlen.out,Hrow3.out,Hown4.out,Hfo.out,Hm63.out⟩
      case measure=>simp [intOf];omega
     | true=>
      have hnx3:nx=acc++[x]:=by rw [Hnx2.out,if_pos rfl]
      obtain ⟨wT,hwT,hmwT,hgwT,hzwT⟩:=e8 w3 (.cells x.cells.toArray 70);have hwT':w3.alloc (.cells #[.string x.name,.int .i64 x.v.kind,.int .i64 x.v.int,.float .f64 x.v.num,.string x.v.text,.bool x.v.yes] 70)=wT:=hwT;have hrdT:j0 wT 6 (.slice (some ⟨w3.heap.size,0,none⟩) 1 1) 1 x.cells:=hwT▸j0.one w3 x.cells 70 rfl;have hone:∀u∈x.cells,u.oneCell'=true:=fun u hu=>zz15 (show x.cells.all (·.oneCell')=true from rfl) u hu;have hrowT:=hmwT.heap Hrow3.out (fun h=>h);have hownT:=Hown3.out.mod hmwT (fun _ _ h=>h);have hmT:Mod (fun k=>k=wb.heap.size) w6 wT:=Hm63.out.trans hmwT (fun _ _ h=>h.elim);have hlen:n+1=(((L.take (j+1)).filter fun a=>o7 [a]).take 8).length:=by rw [Hnx'.out,hnx3,zz4,<-Hn.out];rfl
      have hatt:j7 acc++x.cells=j7 (((L.take (j+1)).filter fun a=>o7 [a]).take 8):=by rw [Hnx'.out,hnx3,r9];simp [j7]
      have o1:w3.cell? ⟨wb.heap.size,1,none⟩=some (.slice oa n oc):=d6 Hrow3.out rfl;have hl3:wb.heap.size<w3.heap.size:=(zz7 Hrow3.out).1;obtain ⟨HwT',HrdT,Hone,HrowT,HownT,HmT,Hlen,Hatt⟩:=zh8 hwT' hrdT hone hrowT hownT hmT hlen hatt;clear hwT' hrdT hone hrowT hownT hmT hlen hatt hwT hmwT hgwT hzwT hnx3
      go_wp2_with (first|((with_reducible refine d9 70 (.tmp 8) ?_);refine ⟨wr.heap.size,0,rfl,[.string x.name,.int .i64 x.v.kind,.int .i64 x.v.int,.float .f64 x.v.num,.string x.v.text,.bool x.v.yes],e7.row Hgz3.out,by kernel_rfl,by kernel_rfl, ?_⟩)|(rw [show w3.alloc _=wT from HwT'.out])|((with_reducible refine j6 (.tmp 35) (.tmp 37) 44 ?_);refine ⟨rfl,70,6,64,a05,.slice oa n oc,n,j7 acc,rfl,HownT.out,_,1,x.cells,rfl,HrdT.out,Hone.out,by omega,by unfold maxLen;omega, ?_⟩;intro ad cap2 w4 hA;have hne4:¬j1 (.slice oa n oc) wb.heap.size:=(fun h=>by have:=Hfo.out _ h;omega);have hrow4:=hA.2.1.heap HrowT.out hne4;have f1:w4.frozen? ⟨wb.heap.size,1,none⟩=false:=L7 hrow4;have e1:w4.cell? ⟨wb.heap.size,1,none⟩=some (.slice oa n oc):=d6 hrow4 rfl;have HA:=Lib.hid hA;have Hrow4:=Lib.hid hrow4;have Hne4:=Lib.hid hne4;clear hA hrow4 hne4)|fail)
      have hfr5:∀b,(Value.slice ad (n+1) cap2).ownBlock=some b->w6.heap.size<=b:=fun b hb=>by
       rcases HA.out.2.2 with h|⟨k,h,hk⟩
       ·exact Hfo.out b (by rw [<-h];exact hb)
       rw [h] at hb;cases hb;have:=HmT.out.size;omega
      have hm4:Mod (fun k=>k=wb.heap.size) w6 w4:=HmT.out.upon HA.out.2.1 (fun b hb=> .inr (Hfo.out b hb));have hown4:=HA.out.1;rw [Hatt.out] at hown4;obtain ⟨Hfr5,Hm4,Hown4⟩:=zh3 hfr5 hm4 hown4;clear hfr5 hm4 hown4 HA
      go_roundw
      case rel=>
       refine ⟨j+1,n+1,ad,cap2,by go_num,hlt,Hlen.out,p7 Hrow4.out,Hown4.out.setCell (fun h=> ?_) _,Hfr5.out,Hm4.out.setCell (fun _=>rfl) _⟩;have:=Hfr5.out _ h;have h2:w6.heap.size<=wb.heap.size:=this;omega
      case measure=>simp [intOf];omega
    have hn7':(8:Int)<=n:=by omega
    have hnx3:nx=acc:=by rw [Hnx.out,decide_eq_false hn7,Bool.false_and,if_neg (by decide),zz11]
    have hown4:=Hownz.out;rw [<-hnx3,<-Hnx'.out] at hown4;have hlen:n=(((L.take (j+1)).filter fun a=>o7 [a]).take 8).length:=by rw [Hnx'.out,hnx3];exact Hn.out
    obtain ⟨Hown4,Hlen⟩:=zh2 hown4 hlen;clear hown4 hlen hnx3
    go_wp2_with (first|((with_reducible refine d9 70 (.tmp 22) ?_);refine ⟨g,off+j*6,rfl,x.cells,Hf.out,by kernel_rfl,by kernel_rfl, ?_⟩)|((with_reducible refine d8 70 (.tmp 8) (.tmp 23) ?_);refine ⟨rfl,x.cells,rfl,rfl,by kernel_rfl,rfl, ?_⟩;rw [Hwz.out])|fail)
    go_roundw
    case rel=>exact ⟨j+1,n,oa,oc,by go_num,hlt,Hlen.out,Hrowz.out,Hown4.out,Hfo.out,Hmz.out⟩
    case measure=>simp [intOf];omega
   obtain rfl:j=L.length:=by omega
   rw [List.take_length] at hn hown;have hown2:i7 wr 70 6 (.slice oa n oc) n (j7 (a2o l)):=by unfold a2o;rw [HL.out];exact hown
   have hn2:n=(a2o l).length:=by unfold a2o;rw [HL.out];exact hn
   have hgr:=hmr.heap Hg6.out (by omega);have hm0r:Mod (fun _=>False) w wr:=Hm06.out.upon hmr (fun b hb=> .inr (by omega));obtain ⟨Hrow,Hown2,Hn2,Hgr,Hm0r,Hfo⟩:=zh6 hrow hown2 hn2 hgr hm0r hfo;clear hrow hown2 hn2 hgr hm0r hfo hown hn hmr
   go_wp2_with (first|((with_reducible refine d9 46 (.tmp 6) ?_);refine ⟨wb.heap.size,0,rfl,[.string sc,.slice oa n oc],e7.row Hrow.out,by kernel_rfl,by kernel_rfl, ?_⟩)|((with_reducible refine j3 46 (.tmp 4) (.tmp 41) ?_);refine ⟨w.heap.size,rfl,_,_,Hgr.out,[.string sc,.slice oa n oc],rfl,rfl,by kernel_rfl,rfl, ?_⟩;intro w9 hg9 hm9;have Hg9:=Lib.hid hg9;have Hm9:=Lib.hid hm9;clear hg9 hm9)|fail)
   refine o3 rfl w.heap.size rfl _ (e7.row Hg9.out) (by kernel_rfl) (by kernel_rfl) rfl ⟨.slice oa n oc,rfl, ?_, ?_, ?_⟩
   ·rw [<-Hn2.out];exact Hown2.out.mod Hm9.out (fun b hb=>by have:=Hfo.out b hb;have:=Hm06.out.size;omega)
   ·exact fun b hb=>by have:=Hfo.out b hb;have:=Hm06.out.size;omega
   exact Hm0r.out.upon Hm9.out (fun b hb=> .inr (by omega))
theorem a2B {s:ByteArray} (h:n4 s=true):s.size<=12:=by
 unfold n4 at h;simp only [Bool.and_eq_true,decide_eq_true_eq] at h;exact h.2.2
theorem a4L {l:List Att} (h:o7 l=true) {a:Att} (ha:a∈l):n4 a.name=true/\a.v.right=true:=by
 unfold o7 at h;simp only [Bool.and_eq_true,List.all_eq_true,decide_eq_true_eq] at h;obtain ⟨k,hk⟩:=List.mem_iff_getElem?.1 ha;have:=h.1 k (List.mem_range.2 (zz6 hk).1);unfold a7v at this;rw [hk] at this;simp only [Bool.and_eq_true] at this;exact ⟨this.1.1.1,this.1.1.2⟩
theorem b4G (s:ByteArray):s.size<=(r6 s).1.size+1+(r6 s).2.1.size:=by
 unfold r6;split
 ·simp only [ByteArray.size_extract];omega
 show s.size<=s.size+1+_;omega
theorem a5N:∀(f:Nat) (s:ByteArray) (k:Nat),scN f s=some k->s.size<=13*k
 |0,s,k,h=>by cases h
 | f +1,s,k,h=>by
  rw [P6] at h;have hc:=b4G s;by_cases h1:n4 (r6 s).1=true
  ·rw [if_pos h1] at h;have hn:=a2B h1;by_cases h2:(r6 s).2.2=true
   ·rw [if_pos h2] at h
    cases h3:scN f (r6 s).2.1 with
    |none=>rw [h3] at h;cases h
    |some k'=>
     rw [h3] at h;have h4:k'+1=k:=by simpa using h
     have:=a5N f _ k' h3;omega
   rw [if_neg h2] at h
   have h4:(r6 s).1=s:=by
    unfold r6 at h2⊢;split
    ·rename_i h5;rw [if_pos h5] at h2;exact absurd rfl h2
    rfl
   rw [h4] at hn;have h4:1=k:=by simpa using h
   omega
  rw [if_neg h1] at h;cases h
theorem V9 {s:ByteArray} (h:s5 s=true):s.size<=52:=by
 unfold s5 at h;rw [Bool.or_eq_true] at h;rcases h with h|h
 ·rw [List.isEmpty_iff,ByteArray.toList_eq] at h;have:s.size=s.data.toList.length:=by rw [Array.length_toList];rfl
  rw [this,h];exact Nat.zero_le _
 unfold scM at h
 cases h1:scN (s.size+1) s with
 |none=>rw [h1] at h;cases h
 |some k=>
  rw [h1] at h;have:=a5N _ _ _ h1;simp only [decide_eq_true_eq] at h;omega
theorem K4 {sc:ByteArray} {l:List Cnd} (h:j5 sc l=true):sc.size<=52/\l.length<=6/\∀c∈l,c.name.size<=12/\(0<=c.op/\c.op<=7)/\(0<=c.v.kind/\c.v.kind<=3)/\c.v.text.size<=40:=by
 unfold j5 at h;simp only [Bool.and_eq_true,List.all_eq_true,decide_eq_true_eq] at h;refine ⟨V9 h.2.1,h.2.2,fun c hc=> ?_⟩;have h1:=h.1 c hc;unfold Cnd.rightB V.right at h1;simp only [Bool.and_eq_true,decide_eq_true_eq] at h1;exact ⟨a2B h1.1,⟨h1.2.1,h1.2.2.1⟩,⟨h1.2.2.2.1,h1.2.2.2.2.1⟩,h1.2.2.2.2.2⟩
end
end Go.Proofs.YtaenebdppkjhoaaGreatDoor
