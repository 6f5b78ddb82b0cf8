/- Lemmas. -/
import Derived.Test.YtdmjoodhaeijmaaGreatDoorZn1
import Derived.Test.YtdmjoodhaeijmaaGreatDoorZn3
set_option maxHeartbeats 40000000
set_option maxRecDepth 20000
namespace Go.Proofs.YtdmjoodhaeijmaaGreatDoor
section
open Go.RowKit
theorem b4C (s:ByteArray) (w:World):Calls Tryz.prog 154 #[.string s,.int .u8 47] w fun e w'=>e= .returned (.int .i64 (Lib.indexByte s.data.toList 47))/\w'=w:=by
 go_enter Tryz.func154,Tryz.ntmps154
 go_wp2
 rw [run_callFunc_extern Tryz.func185 zk zk zk (e:=Extern.BytealgIndexByte.indexByte) zk,Lib.run_indexByteString];simp only [Result.andThen];rw [Oper.upon_value]
 go_wp2
 go_ret;exact ⟨rfl,rfl⟩
theorem b2y (s:ByteArray) (w:World):Calls Tryz.prog 127 #[.string s,.string ⟨#[47]⟩] w fun e w'=>e= .returned (.int .i64 (Lib.indexByte s.data.toList 47))/\w'=w:=by
 have hi:=b4C s w;obtain ⟨R,hR⟩:∃R,Lib.indexByte s.data.toList 47=R:=⟨_,rfl⟩;rw [hR] at hi⊢;refine hh2 hi hR fun Hi HR=> ?_;clear hi hR
 cases he:([47]:List UInt8)==s.toList with
 |true=>
  go_enter Tryz.func127,Tryz.ntmps127
  go_wp2_with fail
  go_ret;refine ⟨?_,rfl⟩;have hs:s.data.toList=[47]:=by rw [<-ByteArray.toList_eq];exact (beq_iff_eq.1 he).symm
  have h0:R=0:=by rw [<-HR.out,hs];rfl
  rw [h0];rfl
 |false=>
  go_enter Tryz.func127,Tryz.ntmps127
  go_wp2_with fail
  refine Hi.out.mono ?_;rintro e w' ⟨rfl,rfl⟩
  go_wp2
  go_ret;exact ⟨rfl,rfl⟩
theorem E8:∀(l:List UInt8) (c:UInt8),Lib.indexByte l c= -1\/∃i:Nat,Lib.indexByte l c=i
 |[],c=> .inl rfl
 |b::l,c=>by
  rw [Lib.indexByte];split
  ·exact .inr ⟨0,rfl⟩
  rcases E8 l c with h|⟨i,h⟩
  ·rw [h];exact .inl rfl
  rw [h];split
  ·exact .inl rfl
  exact .inr ⟨i+1,zo⟩
theorem R7:∀{l:List UInt8} {c:UInt8} {i:Nat},Lib.indexByte l c=i->i<l.length
 |[],c,i,h=>by simp [Lib.indexByte] at h
 |b::l,c,i,h=>by
  rw [Lib.indexByte] at h;rw [zz9];split at h
  ·omega
  rcases E8 l c with h1|⟨k,h1⟩
  ·rw [h1] at h;have h:(-1:Int)=i:=h;omega
  have:=R7 h1;rw [h1] at h;split at h<;>omega
theorem b2z (s:ByteArray) (hs:s.size<=9223372036854775807) (I:Nat) (hI:Lib.indexByte s.data.toList 47=I) (w:World):
 Calls Tryz.prog 97 #[.string s,.string ⟨#[47]⟩] w fun e w'=>e= .returned (.tuple #[.string (s.extract 0 I),.string (s.extract (I+1) s.size),.bool true])/\Mod (fun _=>False) w w':=by
 have hi:=b2y s w;rw [hI] at hi;have hlt:I<s.size:=R7 hI;have hlt':(I:Int)<s.size:=zo
 have hs':(s.size:Int)<=9223372036854775807:=zo
 refine hh1 hi fun Hi=> ?_;clear hi hI hs
 go_enter Tryz.func97,Tryz.ntmps97
 go_wp2_with fail
 refine Hi.out.mono ?_;rintro e w' ⟨rfl,rfl⟩
 go_wp2_with fail
 have hi2:(I:Int)<=s.size:=zo
 have hi3:(I:Int)+1<=s.size:=zo
 have hw3:IntKind.i64.wrap ((I:Int)+1)=(I:Int)+1:=by rw [IntKind.wrap_i64];omega
 have hb3:(0:Int)<=(I:Int)+1:=zo
 have UC:((I:Int)+1).toNat=I+1:=zo
 have hS:(fun _:World=>True) w'.drew:=trivial;refine i6 [.rd 0,.rd 1,.rd 2,.rd 3,.rd 4,.rd 5,.rd 6,.rd 7,.rd 8,.rd 9,.rd 10,.rd 11] [] (fun _:World=>True) zk zk (fun _ _ d _ _ h=>(by cases d<;>exact h)) ?_
 iterate 12 (
  refine wrd hS fun K hK=> ?_
  go_simp;refine hK _ ?_;clear hK K)
 refine p8 ?_
 go_wp2
 go_ret3
 exact ⟨rfl,(Mod.refl _ _).drew⟩
theorem b4D (s:ByteArray) (hI:Lib.indexByte s.data.toList 47= -1) (w:World):
 Calls Tryz.prog 97 #[.string s,.string ⟨#[47]⟩] w fun e w'=>e= .returned (.tuple #[.string s,.string ⟨#[]⟩,.bool false])/\Mod (fun _=>False) w w':=by
 have hi:=b2y s w;rw [hI] at hi;refine hh1 hi fun Hi=> ?_;clear hi hI
 go_enter Tryz.func97,Tryz.ntmps97
 go_wp2_with fail
 refine Hi.out.mono ?_;rintro e w' ⟨rfl,rfl⟩
 go_wp2
 go_ret3
 exact ⟨rfl,Mod.refl _ _⟩
def A4 (s:ByteArray):ByteArray×ByteArray×Bool:=if 0<=Lib.indexByte s.data.toList 47 then (s.extract 0 (Lib.indexByte s.data.toList 47).toNat,s.extract ((Lib.indexByte s.data.toList 47).toNat+1) s.size,true) else (s,⟨#[]⟩,false)
theorem b5V (s:ByteArray) (hs:s.size<=9223372036854775807) (w:World):
 Calls Tryz.prog 70 #[.string s,.string ⟨#[47]⟩] w fun e w'=>e= .returned (.tuple #[.string (A4 s).1,.string (A4 s).2.1,.bool (A4 s).2.2])/\Mod (fun _=>False) w w':=by
 have hc:Calls Tryz.prog 97 #[.string s,.string ⟨#[47]⟩] w fun e w'=>e= .returned (.tuple #[.string (A4 s).1,.string (A4 s).2.1,.bool (A4 s).2.2])/\Mod (fun _=>False) w w':=by
  rcases E8 s.data.toList 47 with h|⟨I,h⟩
  ·have e:A4 s=(s,⟨#[]⟩,false):=by unfold A4;rw [h];rfl
   rw [e];exact b4D s h w
  have e:A4 s=(s.extract 0 I,s.extract (I+1) s.size,true):=by
   unfold A4;rw [h,if_pos zo];rfl
  rw [e];exact b2z s hs I h w
 generalize A4 s=C at hc⊢
 have Hc:=zh hc;clear hc hs
 go_enter Tryz.func70,Tryz.ntmps70
 go_wp2_with fail
 refine Hc.out.mono ?_;rintro e w' ⟨rfl,hm⟩;have Hm:=zh hm;clear hm
 go_wp2
 go_ret3
 exact ⟨rfl,Hm.out⟩
theorem a6P {s:ByteArray} (h:(A4 s).2.2=true):(A4 s).2.1.size<s.size:=by
 unfold A4 at h⊢;split at h
 ·rename_i h0
  rw [if_pos h0];rcases E8 s.data.toList 47 with h1|⟨I,h1⟩
  ·omega
  have hlt:I<s.size:=R7 h1;rw [h1];show (s.extract (I+1) s.size).size<s.size;rw [ByteArray.size_extract];omega
 ·cases h
theorem b4E {s:ByteArray} (h:(A4 s).2.2=true):(A4 s).1.size+1+(A4 s).2.1.size=s.size:=by
 unfold A4 at h⊢;split at h
 ·rename_i h0
  rw [if_pos h0];rcases E8 s.data.toList 47 with h1|⟨I,h1⟩
  ·omega
  have hlt:I<s.size:=R7 h1;rw [h1];show (s.extract 0 I).size+1+(s.extract (I+1) s.size).size=s.size;rw [ByteArray.size_extract,ByteArray.size_extract];omega
 ·cases h
theorem b2A (s:ByteArray):(A4 s).1.size<=s.size/\(A4 s).2.1.size<=s.size:=by
 unfold A4;split
 ·constructor
  ·show (s.extract _ _).size<=_;rw [ByteArray.size_extract];omega
  show (s.extract _ _).size<=_;rw [ByteArray.size_extract];omega
 exact ⟨Nat.le_refl _,Nat.zero_le _⟩
def scN:Nat->ByteArray->Option Nat
 |0,_=>none
 |f+1,s=>if r4 (A4 s).1=true then (if (A4 s).2.2=true then (scN f (A4 s).2.1).map (· +1) else some 1) else none
theorem U3 (f:Nat) (s:ByteArray):scN (f+1) s=if r4 (A4 s).1=true then (if (A4 s).2.2=true then (scN f (A4 s).2.1).map (· +1) else some 1) else none:=rfl
theorem a6Q:∀(f g:Nat) (s:ByteArray),s.size<f->s.size<g->scN f s=scN g s
 |0,_,s,h,_=>zo
 |_+1,0,s,_,h=>zo
 |f+1,g+1,s,h1,h2=>by
  rw [U3,U3];split
  ·split
   ·rename_i h
    have:=a6P h;rw [a6Q f g (A4 s).2.1 zo zo]
   rfl
  rfl
def scM (n:Nat) (s:ByteArray):Bool:=match scN (s.size+1) s with
 |some k=>decide (n+k<=4)
 |none=>false
def B5 (s:ByteArray):Bool:=s.toList.isEmpty||scM 0 s
theorem b2B {s:ByteArray} (h:r4 s=true):0<s.size:=by
 unfold r4 at h;simp only [Bool.and_eq_true,decide_eq_true_eq] at h;omega
theorem b5W {n:Nat} {s:ByteArray} (h:r4 (A4 s).1=false):scM n s=false:=by
 unfold scM;rw [U3,if_neg (by rw [h];decide)]
theorem b2C {n:Nat} {s:ByteArray} (h:r4 (A4 s).1=true) (hm:(A4 s).2.2=true):scM n s=scM (n+1) (A4 s).2.1:=by
 have:=a6P hm;unfold scM;rw [U3,if_pos h,if_pos hm,a6Q s.size ((A4 s).2.1.size+1) _ zo zo]
 cases scN ((A4 s).2.1.size+1) (A4 s).2.1 with
 |none=>rfl
 |some k=>
  show decide (n+(k+1)<=4)=decide (n+1+k<=4);congr 1;rw [Nat.add_assoc,Nat.add_comm 1 k]
theorem b2D {n:Nat} {s:ByteArray} (h:r4 (A4 s).1=true) (hm:(A4 s).2.2=false):scM n s=decide (n+1<=4):=by
 unfold scM;rw [U3,if_pos h,if_neg (by rw [hm];decide)]
theorem a2x (s:ByteArray) (hs:s.size<=9223372036854775807) (w:World):Calls Tryz.prog 49 #[.string s] w fun e w'=>e= .returned (.bool (B5 s))/\Mod (fun _=>False) w w':=by
 cases he:s.toList.isEmpty with
 |true=>
  have h2:B5 s=true:=by unfold B5;rw [he];rfl
  rw [h2];clear h2 hs
  go_enter Tryz.func49,Tryz.ntmps49
  go_wp2
  go_ret;exact ⟨rfl,Mod.refl _ _⟩
 | false=>
  obtain ⟨R,hR⟩:∃R,B5 s=R:=⟨_,rfl⟩;have hR0:scM 0 s=R:=by rw [<-hR];unfold B5;rw [he];rfl
  rw [hR];have hs':(s.size:Int)<=9223372036854775807:=zo
  refine hh1 hR0 fun UD=> ?_;clear hR0 hR
  go_enter Tryz.func49,Tryz.ntmps49
  go_wp2_with fail
  go_loopw [3,4,5] (fun tn tr tm wr=>∃(n:Nat) (r:ByteArray) (more:Bool),tn= .int .i64 n/\tr= .string r/\tm= .bool more/\2*n<=s.size+2/\(more=true->2*n+r.size<=s.size)/\R=(if more then scM n r else decide (n<=4))/\Mod (fun _=>False) w wr)
   (fun _ tr tm _=>match tr,tm with| .string r,.bool true=>r.size+1|_,_=>0)
  case atStart=>exact ⟨0,s,true,rfl,rfl,rfl,zo,fun _=>zo,UD.out.symm,Mod.refl _ _⟩
  case round=>
   obtain ⟨n,r,more,rfl,rfl,rfl,hn,hnr,hRr,hm⟩:=hrel
   cases more with
   | true=>
    have hnr:=hnr rfl;have hRr:R=scM n r:=hRr;have hn':(n:Int)<=4611686018427387905:=zo
    have hr':(r.size:Int)<=9223372036854775807:=zo
    have hct:=b5V r zo wr;have hrs:=@b4E r;have hcs:=b2A r;have h1:=@b5W n r;have h2:=@b2C n r;have h3:=@b2D n r;obtain ⟨⟨a,b,c⟩,hC⟩:∃C,A4 r=C:=⟨_,rfl⟩;rw [hC] at hct hrs hcs h1 h2 h3;simp only at hct hrs hcs h1 h2 h3;have hct:Calls Tryz.prog 70 #[.string r,.string ⟨#[47]⟩] wr fun e w'=>e= .returned (.tuple #[.string a,.string b,.bool c])/\Mod (fun _=>False) wr w':=hct;refine hh8 hRr hm hct hC h1 h2 h3 hrs fun uV Hm uN HC H1 H2 H3 GG=> ?_;clear hRr hm hct hC h1 h2 h3 hrs
    go_wp2_with fail
    refine uN.out.mono ?_;rintro e w1 ⟨rfl,hm1⟩;have dn:=Lib.hid (Hm.out.trans hm1 zi);clear hm1
    go_wp2_with fail
    refine (a2Q a zo w1).mono ?_;rintro e w2 ⟨rfl,hw⟩;subst hw
    cases hna:r4 a with
    |false=>
     have iQ:=zh hna;clear hna
     go_wp2
     go_ret;exact ⟨by rw [uV.out,H1.out iQ.out];rfl,dn.out⟩
    | true=>
     have iQ:=zh hna;clear hna
     go_wp2_with fail
     go_roundw
     case rel=>
      cases c with
      |true=>exact ⟨n+1,b,true,by go_num,rfl,rfl,zo,(fun _=>by have:=GG.out rfl;have:=b2B iQ.out;omega),(by rw [uV.out,H2.out iQ.out rfl];rfl),dn.out⟩
      |false=>exact ⟨n+1,b,false,by go_num,rfl,rfl,zo,(fun h=>by cases h),(by rw [uV.out,H3.out iQ.out rfl];rfl),dn.out⟩
     case measure=>
      cases c with
      |true=>
       have:=GG.out rfl;show b.size+1<r.size+1;omega
      |false=>show 0<r.size+1;omega
   |false=>
    have hRr:R=decide (n<=4):=hRr;refine hh2 hRr hm fun uV Hm=> ?_;clear hRr hm
    go_wp2
    go_ret;refine ⟨?_,Hm.out⟩;show Ending.returned (.bool (decide ((n:Int)<=4)))=_;rw [uV.out];congr 2;exact decide_eq_decide.2 zo
section
variable {P:Program} {w:World} {ops:Array Oper} {rest:List Oper} {a:Act} {Q:Exit->Act->World->Prop} {d:Option Tmp} {tp:TypeId} {pos:String} {af:Array Edge}
theorem a83 {cs:List Value} (h:cs.all (·.oneCell')=true):∀u∈cs,u.oneCell'=true:=fun u hu=>zz15 h u hu
theorem d9 {cur:Array Value} {t:TypeId} (ty:TypeId) (x y:Operand)
 (h:a.eval x= .pointer (some ⟨w.heap.size,0,none⟩)/\∃cs:List Value,a.eval y= .agg cs.toArray/\cs.length=cur.size/\(P.info? ty).map (·.size)=some cs.length/\cs.all (·.oneCell')=true/\
   wpList P ops Q rest (a.put d undef) (w.alloc (.cells cs.toArray t))):wpList P ops Q (⟨d,.store ty x y,tp,pos,af,none⟩::rest) a (w.alloc (.cells cur t)):=by
 obtain ⟨hx,cs,hy,hl,hi,h1,h⟩:=h;exact C5 rfl ty x y rfl hx cur t cs hy hl hi (a83 h1) h
theorem e9 (ty:TypeId) (x:Operand)
 (h:∃g off,a.eval x= .pointer (some ⟨g,off,none⟩)/\∃cs:List Value,d8 w g off cs/\(match P.underlying ty with|some (.struct _)=>true|some (.array _ _)=>true|_=>false)=true/\(P.info? ty).map (·.size)=some cs.length/\
   wpList P ops Q rest (a.put d (.agg cs.toArray)) w):wpList P ops Q (⟨d,.load ty x,tp,pos,af,none⟩::rest) a w:=by
 obtain ⟨g,off,hx,cs,hc,hu,hi,h⟩:=h;exact L6 rfl ty x rfl g off hx cs hc hu hi h
theorem l6 {at1:Array TypeId} (s y:Operand) (t:TypeId)
 (h:at1=#[t,t]/\∃(e:TypeId) (sz bytes:Nat),B7 P t e sz bytes/\∃(v:Value) (n:Nat) (xs:List Value),a.eval s=v/\g7 w e sz v n xs/\∃(x:Value) (m:Nat) (news:List Value),a.eval y=x/\i8 w sz x m news/\(∀u∈news,u.oneCell'=true)/\
   (n+m)*bytes<=140737488355328/\n+m<=maxLen/\∀ad cap w',B9 w e sz v (n+m) (xs++news) (.slice ad (n+m) cap) w'->wpList P ops Q rest (a.put d (.slice ad (n+m) cap)) w'):
 wpList P ops Q (⟨d,.call {callee:= .builtin .append,args:=#[s,y],argTypes:=at1},tp,pos,af,none⟩::rest) a w:=by
 obtain ⟨rfl,e,sz,bytes,hT,v,n,xs,hs,hown,x,m,news,hy,hx,h1,hb,hm,hK⟩:=h;exact t7 rfl s y t rfl e sz bytes hT v n xs hs hown x m news hy hx h1 hb hm hK
theorem m7 (ty:TypeId) (x y:Operand)
 (h:∃g,a.eval x= .pointer (some ⟨g,0,none⟩)/\∃(cur:Array Value) (t:TypeId),w.heap[g]? =some (.cells cur t (0,0))/\∃cs:List Value,a.eval y= .agg cs.toArray/\cs.length=cur.size/\(P.info? ty).map (·.size)=some cs.length/\cs.all (·.oneCell')=true/\
   ∀w',w'.heap[g]? =some (.cells cs.toArray t (0,0))->Mod (fun k=>k=g) w w'->wpList P ops Q rest (a.put d undef) w'):wpList P ops Q (⟨d,.store ty x y,tp,pos,af,none⟩::rest) a w:=by
 obtain ⟨g,hx,cur,t,hg,cs,hy,hl,hi,h1,h⟩:=h;exact B3 rfl ty x y rfl g hx cur t hg cs hy cs.length rfl hl.symm hi h1 h
end
end
open Go.RowKit
def M8 (l:List Att):Prop:=∀(i j:Nat) (x y:Att),i<j->l[i]? =some x->l[j]? =some y->Op.bytesLess x.name.data.toList y.name.data.toList=true
theorem M8.less {l:List Att} (h:M8 l) {i j:Nat} {x y:Att} {s:List UInt8} (hij:i<j) (hx:l[i]? =some x) (hy:l[j]? =some y) (hl:Op.bytesLess y.name.data.toList s=true):Op.bytesLess x.name.data.toList s=true:=
 a1j _ _ _ (h i j x y hij hx hy) hl
theorem M8.more {l:List Att} (h:M8 l) {i j:Nat} {x y:Att} {s:List UInt8} (hij:i<j) (hx:l[i]? =some x) (hy:l[j]? =some y) (hl:Op.bytesLess x.name.data.toList s=false):Op.bytesLess y.name.data.toList s=false:=
 Bool.eq_false_iff.2 fun hh=>by rw [h.less hij hx hy hh] at hl;cases hl
def pos (l:List Att) (s:ByteArray):Nat:=(l.takeWhile fun a=>Op.bytesLess a.name.data.toList s.data.toList).length
def there (l:List Att) (s:ByteArray):Bool:=match l[pos l s]? with|some a=>a.name.data.toList==s.data.toList|none=>false
theorem b2E:∀(l:List Att) (s:ByteArray) (i:Nat),i<=l.length->(∀k x,k<i->l[k]? =some x->Op.bytesLess x.name.data.toList s.data.toList=true)->(∀x,l[i]? =some x->Op.bytesLess x.name.data.toList s.data.toList=false)->pos l s=i
 |[],s,i,hi,_,_=>by
  have:i=0:=by simpa using hi
  subst this;rfl
 |a::l,s,0,_,_,h=>by
  have:=h a rfl;unfold pos;rw [List.takeWhile_cons,this];rfl
 |a::l,s,i+1,hi,h1,h2=>by
  have ha:=h1 0 a zo rfl;have ih:=b2E l s i (by simpa using hi) (fun k x hk hx=>h1 (k+1) x zo (by simpa using hx)) (fun x hx=>h2 x (by simpa using hx));unfold pos at ih⊢;rw [List.takeWhile_cons,ha];simp only [if_true,zz9,ih]
theorem b5n (x:Att) (s:ByteArray) (w:World):Calls Tryz.prog 230 #[.agg x.cells.toArray,.string s] w fun e w'=>e= .returned (.int .i64 (Lib.compareBytes x.name.data.toList s.data.toList))/\Mod (fun _=>False) w w':=by
 obtain ⟨nm,v⟩:=x;obtain ⟨wa,ak,ae,aa,ah⟩:=g6 w (.cells (⟨nm,v⟩:Att).cells.toArray 98);have Hc:=Lib.hid (a7X nm s wa);have c0:wa.cell? ⟨w.heap.size,0,none⟩=some (.string nm):=d6 aa rfl;refine hh4 ak ae aa ah fun aB ai aC Mi=> ?_;clear ak ae aa ah
 go_enter Tryz.func230,Tryz.ntmps230
 go_wp2_with (rw [show w.alloc _=wa from aB.out])
 refine Hc.out.mono ?_;rintro e w' ⟨rfl,rfl⟩
 go_wp2
 go_ret;exact ⟨rfl,ai.out⟩
theorem a8a (w:World) (a:Option Addr) (cap:Nat) (l:List Att) (hv:i8 w 6 (.slice a l.length cap) l.length (I4 l)) (hll:l.length<=1000000) (hr:M8 l) (s:ByteArray):
 Calls Tryz.prog 229 #[.slice a l.length cap,.string s,.func (.func 230) #[] #[]] w fun e w'=>
  e= .returned (.tuple #[.int .i64 (pos l s),.bool (there l s)])/\Mod (fun _=>False) w w':=by
 have df:(l.length:Int)<=1000000:=zo
 have hcf:∀args w,(callFunc 230 args).run Tryz.prog w= .ok (.enter 230 args) w:=fun args w=>by simp [go_sem]
 obtain ⟨-,a',cap',h1,hcap,hnil,hrd⟩:=hv;cases h1
 have bG:(l.length:Int)<=cap:=zo
 obtain ⟨Hr,gG,nA,jo⟩:=zh4 hr hrd hcf hnil;clear hr hrd hcf hnil
 go_enter Tryz.func229,Tryz.ntmps229
 go_wp2_with fail
 go_loopw [9,10] (fun ti tj wr=>∃i j:Nat,ti= .int .i64 i/\tj= .int .i64 j/\i<=j/\j<=l.length/\Mod (fun _=>False) w wr/\(∀k x,k<i->l[k]? =some x->Op.bytesLess x.name.data.toList s.data.toList=true)/\
  (∀k x,j<=k->l[k]? =some x->Op.bytesLess x.name.data.toList s.data.toList=false)) (fun ti tj _=>(intOf tj).toNat - (intOf ti).toNat)
 case atStart=>exact ⟨0,l.length,rfl,rfl,Nat.zero_le _,Nat.le_refl _,Mod.refl _ _,fun k x hk=>zo,fun k x hk hx=>by
  have:=(zz6 hx).1;omega⟩
 case round=>
  obtain ⟨i,j,rfl,rfl,hij,hjl,hm,hlo,hhi⟩:=hrel;refine hh3 hm hlo hhi fun Hm BR PQ=> ?_;clear hm hlo hhi;by_cases hlt:i<j
  ·have hlt':(i:Int)<j:=zo
   have hj':(j:Int)<=1000000:=zo
   obtain ⟨h,hh,hih,Xw⟩:∃h:Nat,((i:Int)+(j:Int)) / 2=(h:Int)/\i<=h/\h<j:=⟨(i+j) / 2,zo,zo,zo⟩;have Xx:(h:Int)<l.length:=zo
   obtain ⟨x,hx⟩:∃x,l[h]? =some x:=⟨_,zz5 zo⟩
   obtain ⟨b,rfl⟩:∃b,a=some b:=by
    cases a with
    |none=>exact absurd (jo.out rfl) zo
    |some b=>exact ⟨b,rfl⟩
   obtain ⟨g,off,rfl,hc⟩:=gG.out b rfl zo
   have hf:d8 wr g (off+h*6) x.cells:=fun q u hu=>by
    have:=Hm.out.cell (hc (6*h+q) u (a5z l hx hu)) id;rw [show off+h*6+q=off+(6*h+q) by omega];exact this
   have c0:wr.cell? ⟨g,off+h*6,none⟩=some (.string x.name):=hf 0 _ rfl;have c1:wr.cell? ⟨g,off+h*6+1,none⟩=some (.int .i64 x.v.kind):=hf 1 _ rfl;have c2:wr.cell? ⟨g,off+h*6+2,none⟩=some (.int .i64 x.v.int):=hf 2 _ rfl;have c3:wr.cell? ⟨g,off+h*6+3,none⟩=some (.float .f64 x.v.num):=hf 3 _ rfl;have c4:wr.cell? ⟨g,off+h*6+4,none⟩=some (.string x.v.text):=hf 4 _ rfl;have c5:wr.cell? ⟨g,off+h*6+5,none⟩=some (.bool x.v.yes):=hf 5 _ rfl;have hf1:=b5n x s wr;have hcl:=a0C x.name.data.toList s.data.toList
   generalize Lib.compareBytes x.name.data.toList s.data.toList=C at hf1 hcl
   refine hh5 hx hc hf hf1 hcl fun Hx Hc Hf Hf1 dO=> ?_;clear hx hc hf hf1 hcl;have hcall:=nA.out
   go_wp2_with fail
   refine Hf1.out.mono ?_;rintro e w2 ⟨rfl,hm2⟩;have au:=Hm.out.trans hm2 zi;refine hh1 au fun aZ=> ?_;clear au hm2 hcall Hf1 c0 c1 c2 c3 c4 c5;by_cases hC:C<0
   ·have hl:Op.bytesLess x.name.data.toList s.data.toList=true:=dO.out.1 hC;have Hl:=zh hl;clear hl
    go_wp2_with fail
    go_roundw
    case rel=>
     refine ⟨h+1,j,by go_num,rfl,zo,hjl,aZ.out,fun k y hk hy=> ?_,PQ.out⟩;rcases Nat.lt_succ_iff_lt_or_eq.1 hk with hk|rfl
     ·exact Hr.out.less hk hy Hx.out Hl.out
     rw [Hx.out] at hy;cases hy;exact Hl.out
    case measure=>simp [intOf];omega
   have hl:Op.bytesLess x.name.data.toList s.data.toList=false:=Bool.eq_false_iff.2 fun h=>hC (dO.out.2 h);have Hl:=zh hl;clear hl
   go_wp2_with fail
   go_roundw
   case rel=>
    refine ⟨i,h,rfl,rfl,hih,zo,aZ.out,BR.out,fun k y hk hy=> ?_⟩;rcases Nat.lt_or_eq_of_le hk with hk|rfl
    ·exact Hr.out.more hk Hx.out hy Hl.out
    rw [Hx.out] at hy;cases hy;exact Hl.out
   case measure=>simp [intOf];omega
  obtain rfl:i=j:=zo
  have hpos:=b2E l s i hjl BR.out (fun x hx=>PQ.out i x (Nat.le_refl _) hx);by_cases hin:i<l.length
  ·have hin':(i:Int)<l.length:=zo
   obtain ⟨x,hx⟩:∃x,l[i]? =some x:=⟨_,zz5 hin⟩
   obtain ⟨b,rfl⟩:∃b,a=some b:=by
    cases a with
    |none=>exact absurd (jo.out rfl) zo
    |some b=>exact ⟨b,rfl⟩
   obtain ⟨g,off,rfl,hc⟩:=gG.out b rfl zo
   have hf:d8 wr g (off+i*6) x.cells:=fun q u hu=>by
    have:=Hm.out.cell (hc (6*i+q) u (a5z l hx hu)) id;rw [show off+i*6+q=off+(6*i+q) by omega];exact this
   have c0:wr.cell? ⟨g,off+i*6,none⟩=some (.string x.name):=hf 0 _ rfl;have c1:wr.cell? ⟨g,off+i*6+1,none⟩=some (.int .i64 x.v.kind):=hf 1 _ rfl;have c2:wr.cell? ⟨g,off+i*6+2,none⟩=some (.int .i64 x.v.int):=hf 2 _ rfl;have c3:wr.cell? ⟨g,off+i*6+3,none⟩=some (.float .f64 x.v.num):=hf 3 _ rfl;have c4:wr.cell? ⟨g,off+i*6+4,none⟩=some (.string x.v.text):=hf 4 _ rfl;have c5:wr.cell? ⟨g,off+i*6+5,none⟩=some (.bool x.v.yes):=hf 5 _ rfl;have hf1:=b5n x s wr
   have hth:there l s=(Lib.compareBytes x.name.data.toList s.data.toList==0):=by
    unfold there;rw [hpos,hx];have:=a3I x.name.data.toList s.data.toList;rw [Bool.eq_iff_iff,beq_iff_eq,beq_iff_eq,this]
   generalize Lib.compareBytes x.name.data.toList s.data.toList=C at hf1 hth
   refine hh6 hx hc hf hf1 hpos hth fun Hx Hc Hf Hf1 lq BV=> ?_;clear hx hc hf hf1 hpos hth;have hcall:=nA.out
   go_wp2_with fail
   refine Hf1.out.mono ?_;rintro e w2 ⟨rfl,hm2⟩;have au:=Hm.out.trans hm2 zi;refine hh1 au fun aZ=> ?_;clear au hm2 hcall Hf1 c0 c1 c2 c3 c4 c5
   go_wp2
   go_ret2
   exact ⟨by rw [lq.out,BV.out];rfl,aZ.out⟩
  have hin':(l.length:Int)<=i:=zo
  have hth:there l s=false:=by
   unfold there;rw [hpos,List.getElem?_eq_none zo]
  refine hh2 hpos hth fun lq BV=> ?_;clear hpos hth
  go_wp2
  go_ret2
  exact ⟨by rw [lq.out,BV.out];rfl,Hm.out⟩
theorem b4F (w:World) (sc:ByteArray) (av:Value) (l:List Att) (hv:i8 w 6 av l.length (I4 l)) (hll:l.length<=1000000) (hr:M8 l) (s:ByteArray):
 Calls Tryz.prog 210 #[.agg #[.string sc,av],.string s] w fun e w'=>e= .returned (.tuple #[.int .i64 (pos l s),.bool (there l s)])/\Mod (fun _=>False) w w':=by
 obtain ⟨a,cap,rfl⟩:∃a c,av= .slice a l.length c:=by obtain ⟨-,a,c,h, -⟩:=hv;exact ⟨a,c,h⟩
 obtain ⟨wa,ak,ae,aa,ah⟩:=g6 w (.cells #[.string sc,.slice a l.length cap] 39);have c0:wa.cell? ⟨w.heap.size,1,none⟩=some (.slice a l.length cap):=d6 aa rfl;have Hb:=Lib.hid (a8a wa a cap l (hv.mod ae zi) hll hr s);refine hh4 ak ae aa ah fun aB ai aC Mi=> ?_;clear ak ae aa ah hv hr
 go_enter Tryz.func210,Tryz.ntmps210
 go_wp2_with (rw [show w.alloc _=wa from aB.out])
 refine Hb.out.mono ?_;rintro e w' ⟨rfl,hm⟩;have Hm:=zh hm;clear hm
 go_wp2
 go_ret2
 exact ⟨rfl,ai.out.trans Hm.out zi⟩
structure Cnd where
 name:ByteArray
 op:Int
 v:V
def Cnd.cells (a:Cnd):List Value:= .string a.name:: .int .i64 a.op::a.v.cells
theorem Cnd.cells_length (a:Cnd):a.cells.length=7:=rfl
def q8 (l:List Cnd):List Value:=l.flatMap Cnd.cells
theorem b4G (l:List Cnd) {k j:Nat} {a:Cnd} {u:Value} (h:l[k]? =some a) (hj:a.cells[j]? =some u):(q8 l)[7*k+j]? =some u:=by
 induction l generalizing k with
 |nil=>simp at h
 | cons b l ih=>
  unfold q8 at ih⊢;rw [List.flatMap_cons]
  cases k with
  |zero=>
   simp only [List.getElem?_cons_zero,Option.some.injEq] at h;subst h;have:=(zz6 hj).1;rw [List.getElem?_append_left zo,Nat.mul_zero,Nat.zero_add,hj]
  |succ k=>
   rw [List.getElem?_cons_succ] at h;rw [List.getElem?_append_right (by rw [Cnd.cells_length];omega),Cnd.cells_length,show 7*(k+1)+j - 7=7*k+j by omega];exact ih h
theorem a0G {w:World} {g:Nat} {x:Cnd} {t:TypeId} (h:w.heap[g]? =some (.cells x.cells.toArray t (0,0))):d8 w g 2 x.v.cells:=fun j u hu=>by
 have:=d8.row h (j+2) u (by simpa [Cnd.cells] using hu);rw [show 2+j=0+(j+2) by omega];exact this
theorem a2y (l m:List Cnd):q8 (l++m)=q8 l++q8 m:=by unfold q8;simp
theorem b2F (l:List Cnd):∀u∈q8 l,u.oneCell'=true:=fun u hu=>by
 unfold q8 at hu;obtain ⟨x, -,hx⟩:=List.mem_flatMap.1 hu;exact zz15 (show x.cells.all (·.oneCell')=true from rfl) u hx
theorem b2G:(Tryz.prog.info? 126).map (·.size)=some 7:=zk
theorem U4 {w:World} {a:Option Addr} {cap:Nat} {l:List Cnd} {j:Nat} {x:Cnd} (h:i8 w 7 (.slice a l.length cap) l.length (q8 l)) (hx:l[j]? =some x):∃g off,a=some ⟨g,off,none⟩/\d8 w g (off+j*7) x.cells:=by
 obtain ⟨-,a',c',h1, -,h3,h4⟩:=h;cases h1
 cases a with
 |none=>have:=(zz6 hx).1;exact absurd (h3 rfl) zo
 |some b=>
  obtain ⟨g',off',h5,h6⟩:=h4 _ rfl (by have:=(zz6 hx).1;omega);refine ⟨g',off',by rw [h5],fun i u hu=> ?_⟩;have:=h6 (7*j+i) u (b4G _ hx hu);rw [show off'+j*7+i=off'+(7*j+i) by omega];exact this
def Cnd.rightB (c:Cnd):Bool:=r4 c.name&&(decide (0<=c.op)&&(decide (c.op<=7)&&c.v.right))
theorem a8b (c:Cnd) (hn:c.name.size<=9223372036854775807) (w:World):Calls Tryz.prog 48 #[.agg c.cells.toArray] w fun e w'=>e= .returned (.bool c.rightB)/\Mod (fun _=>False) w w':=by
 obtain ⟨wa,ak,ae,aa,ah⟩:=g6 w (.cells c.cells.toArray 126);have c0:wa.cell? ⟨w.heap.size,0,none⟩=some (.string c.name):=d6 aa rfl;have c1:wa.cell? ⟨w.heap.size,1,none⟩=some (.int .i64 c.op):=d6 aa rfl;have c2:wa.cell? ⟨w.heap.size,2,none⟩=some (.int .i64 c.v.kind):=d6 aa rfl;have c3:wa.cell? ⟨w.heap.size,3,none⟩=some (.int .i64 c.v.int):=d6 aa rfl;have c4:wa.cell? ⟨w.heap.size,4,none⟩=some (.float .f64 c.v.num):=d6 aa rfl;have c5:wa.cell? ⟨w.heap.size,5,none⟩=some (.string c.v.text):=d6 aa rfl;have c6:wa.cell? ⟨w.heap.size,6,none⟩=some (.bool c.v.yes):=d6 aa rfl;have hnm:=a2Q c.name zo wa;refine hh3 hnm ak ae fun gY aB ai=> ?_;clear hnm ak ae aa ah hn
 cases h1:r4 c.name with
 |false=>
  rw [show c.rightB=false by unfold Cnd.rightB;rw [h1];rfl];rw [h1] at gY;clear h1
  go_enter Tryz.func48,Tryz.ntmps48
  go_wp2_with (rw [show w.alloc _=wa from aB.out])
  refine gY.out.mono ?_;rintro e w' ⟨rfl,rfl⟩
  go_wp2
  go_ret;exact ⟨rfl,ai.out⟩
 | true=>
  rw [show c.rightB=(decide (0<=c.op)&&(decide (c.op<=7)&&c.v.right)) by unfold Cnd.rightB;rw [h1];rfl];rw [h1] at gY;clear h1;by_cases h2:0<=c.op;rotate_left
  ·have h2':c.op<0:=zo
   rw [show (decide (0<=c.op)&&(decide (c.op<=7)&&c.v.right))=false by rw [decide_eq_false h2,Bool.false_and]];clear h2
   go_enter Tryz.func48,Tryz.ntmps48
   go_wp2_with (rw [show w.alloc _=wa from aB.out])
   refine gY.out.mono ?_;rintro e w' ⟨rfl,rfl⟩
   go_wp2
   go_ret;exact ⟨rfl,ai.out⟩
  by_cases h3:c.op<=7;rotate_left
  ·have h3':7<c.op:=zo
   rw [show (decide (0<=c.op)&&(decide (c.op<=7)&&c.v.right))=false by rw [decide_eq_false h3,Bool.false_and,Bool.and_false]];clear h3
   go_enter Tryz.func48,Tryz.ntmps48
   go_wp2_with (rw [show w.alloc _=wa from aB.out])
   refine gY.out.mono ?_;rintro e w' ⟨rfl,rfl⟩
   go_wp2
   go_ret;exact ⟨rfl,ai.out⟩
  rw [show (decide (0<=c.op)&&(decide (c.op<=7)&&c.v.right))=c.v.right by rw [decide_eq_true h2,decide_eq_true h3,Bool.true_and,Bool.true_and]];have rV:=a6e c.v wa;refine hh1 rV fun OI=> ?_;clear rV
  go_enter Tryz.func48,Tryz.ntmps48
  go_wp2_with (rw [show w.alloc _=wa from aB.out])
  refine gY.out.mono ?_;rintro e w' ⟨rfl,rfl⟩
  go_wp2_with fail
  refine OI.out.mono ?_;rintro e w2 ⟨rfl,hm2⟩;have aS:=Lib.hid (ai.out.trans hm2 zi);clear hm2
  go_wp2
  go_ret;exact ⟨rfl,aS.out⟩
def l0 (sc:ByteArray) (l:List Cnd):Bool:=l.all Cnd.rightB&&(B5 sc&&decide (l.length<=6))
theorem Z9 (w:World) (sc:ByteArray) (av:Value) (l:List Cnd) (hv:i8 w 7 av l.length (q8 l)) (hll:l.length<=9223372036854775807) (hsc:sc.size<=9223372036854775807) (hn:∀c∈l,c.name.size<=9223372036854775807):
 Calls Tryz.prog 32 #[.agg #[.string sc,av]] w fun e w'=>e= .returned (.bool (l0 sc l))/\Mod (fun _=>False) w w':=by
 obtain ⟨a,cap,rfl,hcap⟩:∃a c,av= .slice a l.length c/\l.length<=c:=by obtain ⟨-,a,c,h,h2, -⟩:=hv;exact ⟨a,c,h,h2⟩
 have df:(l.length:Int)<=9223372036854775807:=zo
 have bG:(l.length:Int)<=cap:=zo
 obtain ⟨wa,ak,ae,aa,ah⟩:=g6 w (.cells #[.string sc,.slice a l.length cap] 34);have hva:=hv.mod ae zi;have hg:=aa;have c1:wa.cell? ⟨w.heap.size,1,none⟩=some (.slice a l.length cap):=d6 aa rfl;obtain ⟨R,hR⟩:∃R,l0 sc l=R:=⟨_,rfl⟩;rw [hR];have hqz:w.heap.size<wa.heap.size:=zo
 have DU:=hsc;refine hh8 hv hn ak ae aa hva hR hg fun Hv Hn aB ai aC dE HR Hg=> ?_;clear hv hn ak ae aa hva hR hg ah hll hsc
 go_enter Tryz.func32,Tryz.ntmps32
 go_wp2_with (rw [show w.alloc _=wa from aB.out])
 go_loopw [8] (fun i wr=>∃j:Nat,i= .int .i64 j/\j<=l.length/\Mod (fun _=>False) wa wr/\(∀(k:Nat) (x:Cnd),k<j->l[k]? =some x->x.rightB=true)) (fun i _=>l.length - (intOf i).toNat)
 case atStart=>exact ⟨0,rfl,Nat.zero_le _,Mod.refl _ _,fun k x hk=>zo⟩
 case round=>
  obtain ⟨j,rfl,hj,hmr,hall⟩:=hrel;by_cases hlt:j<l.length
  ·have hlt':(j:Int)<l.length:=zo
   obtain ⟨x,hxj⟩:∃x,l[j]? =some x:=⟨_,zz5 hlt⟩;have hxm:=zz8 hxj;obtain ⟨g,off,rfl,hf⟩:∃g off,a=some ⟨g,off,none⟩/\d8 wr g (off+j*7) x.cells:=U4 (dE.out.mod hmr zi) hxj;obtain ⟨wz,hwz,ag,aj,aF⟩:=g6 wr (.cells x.cells.toArray 126);have hmz:=hmr.trans ag zi;have hcr:=a8b x (Hn.out x hxm) wz;refine hh8 hmr hall hxj hxm hf hwz ag aj fun aL aO dX iJ Hf aX bE aJ=> ?_;refine hh2 hmz hcr fun bC iP=> ?_;clear hmr hall hxj hxm hf hwz ag aj hmz hcr aF
   go_wp2_with (first|((with_reducible refine e9 126 (.tmp 10) ?_);refine ⟨g,off+j*7,rfl,x.cells,Hf.out,zk,zk, ?_⟩)|((with_reducible refine d9 126 (.tmp 4) (.tmp 11) ?_);refine ⟨rfl,x.cells,rfl,rfl,zk,rfl, ?_⟩;rw [aX.out])|((with_reducible refine e9 126 (.tmp 4) ?_);refine ⟨wr.heap.size,0,rfl,x.cells,d8.row aJ.out,zk,zk, ?_⟩))
   refine iP.out.mono ?_;rintro e w3 ⟨rfl,au⟩;have aZ:=Lib.hid (bC.out.trans au zi);clear au
   cases hs:x.rightB with
   | true=>
    have Hs:=zh hs;clear hs
    go_wp2_with fail
    go_roundw
    case rel=>
     refine ⟨j+1,by go_num,hlt,aZ.out,fun k x' hk hx'=> ?_⟩;rcases Nat.lt_succ_iff_lt_or_eq.1 hk with hk|rfl
     ·exact aO.out k x' hk hx'
     rw [dX.out] at hx';cases hx';exact Hs.out
    case measure=>simp [intOf];omega
   | false=>
    have Hs:=zh hs;clear hs
    go_wp2
    go_ret;refine ⟨?_,ai.out.trans aZ.out zi⟩
    have hf:l0 sc l=false:=by
     unfold l0;rw [List.all_eq_false.2 ⟨x,iJ.out,by rw [Hs.out];decide⟩,Bool.false_and]
    rw [<-HR.out,hf];rfl
  obtain rfl:j=l.length:=zo
  have hgr:=hmr.heap Hg.out id;have c0:wr.cell? ⟨w.heap.size,0,none⟩=some (.string sc):=d6 hgr rfl;have c1:wr.cell? ⟨w.heap.size,1,none⟩=some (.slice a l.length cap):=d6 hgr rfl;have ES:=a2x sc DU wr
  have hfr:l0 sc l=(B5 sc&&decide (l.length<=6)):=by
   unfold l0
   rw [List.all_eq_true.2 fun x hx=>by
    obtain ⟨k,hk⟩:=List.mem_iff_getElem?.1 hx
    exact hall k x (zz6 hk).1 hk,Bool.true_and]
  rw [HR.out] at hfr;have aP:=ai.out.trans hmr zi;refine hh4 aP ES hfr hgr fun dK Mj aW tV=> ?_;clear aP ES hfr hgr hmr hall
  go_wp2_with fail
  refine Mj.out.mono ?_;rintro e w3 ⟨rfl,au⟩;have hg3:=au.heap tV.out id;have c1:w3.cell? ⟨w.heap.size,1,none⟩=some (.slice a l.length cap):=d6 hg3 rfl;have aZ:=Lib.hid (dK.out.trans au zi);clear au hg3
  cases hs:B5 sc with
  |false=>
   have Hs:=zh hs;clear hs
   go_wp2
   go_ret;refine ⟨?_,aZ.out⟩;rw [aW.out,Hs.out];rfl
  |true=>
   have Hs:=zh hs;clear hs
   go_wp2
   go_ret;refine ⟨?_,aZ.out⟩;rw [aW.out,Hs.out,Bool.true_and];show Ending.returned (.bool (decide ((l.length:Int)<=6)))=_;congr 2;exact decide_eq_decide.2 zo
structure Ru where
 kind:Int
 tenant:Int
 who:ByteArray
 broker:Int
 sc:ByteArray
 ca:Option Addr
 cc:Nat
 name:ByteArray
 at_:Int
 cs:List Cnd
def Ru.cv (r:Ru):Value:= .slice r.ca r.cs.length r.cc
def Ru.cells (r:Ru):List Value:=[.int .i64 r.kind,.int .i64 r.tenant,.string r.who,.int .i64 r.broker,.string r.sc,.slice r.ca r.cs.length r.cc,.string r.name,.int .i64 r.at_]
theorem Ru.cells_length (a:Ru):a.cells.length=8:=rfl
def rus (l:List Ru):List Value:=l.flatMap Ru.cells
theorem b5X (l:List Ru) {k j:Nat} {a:Ru} {u:Value} (h:l[k]? =some a) (hj:a.cells[j]? =some u):(rus l)[8*k+j]? =some u:=by
 induction l generalizing k with
 |nil=>simp at h
 | cons b l ih=>
  unfold rus at ih⊢;rw [List.flatMap_cons]
  cases k with
  |zero=>
   simp only [List.getElem?_cons_zero,Option.some.injEq] at h;subst h;have:=(zz6 hj).1;rw [List.getElem?_append_left zo,Nat.mul_zero,Nat.zero_add,hj]
  |succ k=>
   rw [List.getElem?_cons_succ] at h;rw [List.getElem?_append_right (by rw [Ru.cells_length];omega),Ru.cells_length,show 8*(k+1)+j - 8=8*k+j by omega];exact ih h
theorem a8c (l:List Ru):(rus l).length=l.length*8:=by
 induction l with
 |nil=>rfl
 |cons a l ih=>
  show (a.cells++rus l).length=_;rw [zz4,ih,Ru.cells_length,zz9];omega
theorem a3Q (l m:List Ru):rus (l++m)=rus l++rus m:=by unfold rus;simp
theorem a3R (a:Ru) (l:List Ru):rus (a::l)=a.cells++rus l:=by unfold rus;simp
structure Ru.ok (w:World) (r:Ru):Prop where
 rd:i8 w 7 r.cv r.cs.length (q8 r.cs)
 len:r.cs.length<=9223372036854775807
 who:r.who.size<=9223372036854775807
 sc:r.sc.size<=9223372036854775807
 name:r.name.size<=9223372036854775807
 cname:∀c∈r.cs,c.name.size<=9223372036854775807/\c.v.text.size<=9223372036854775807
theorem Ru.ok.mod {w w':World} {r:Ru} (h:r.ok w) (hm:Mod (fun _=>False) w w'):r.ok w':=⟨h.rd.mod hm zi,h.len,h.who,h.sc,h.name,h.cname⟩
structure Q5 (w:World) (v:Value) (l:List Ru):Prop where
 rd:i8 w 8 v l.length (rus l)
 ok:∀r∈l,r.ok w
theorem Q5.mod {w w':World} {v:Value} {l:List Ru} (h:Q5 w v l) (hm:Mod (fun _=>False) w w'):Q5 w' v l:=⟨h.rd.mod hm zi,fun r hr=>(h.ok r hr).mod hm⟩
theorem a0a {w:World} {a:Option Addr} {cap:Nat} {l:List Ru} {j:Nat} {x:Ru} (h:Q5 w (.slice a l.length cap) l) (hx:l[j]? =some x):∃g off,a=some ⟨g,off,none⟩/\d8 w g (off+j*8) x.cells:=by
 obtain ⟨-,a',c',h1, -,h3,h4⟩:=h.rd;cases h1
 cases a with
 |none=>have:=(zz6 hx).1;exact absurd (h3 rfl) zo
 |some b=>
  obtain ⟨g',off',h5,h6⟩:=h4 _ rfl (by have:=(zz6 hx).1;omega);refine ⟨g',off',by rw [h5],fun i u hu=> ?_⟩;have:=h6 (8*j+i) u (b5X _ hx hu);rw [show off'+j*8+i=off'+(8*j+i) by omega];exact this
def Ru.of (r:Ru) (kind tenant:Int) (who:ByteArray):Bool:=r.kind==kind&&(r.tenant==tenant&&r.who.toList==who.toList)
theorem b5o (r:Ru) (kind tenant:Int) (who:ByteArray) (w:World):Calls Tryz.prog 74 #[.agg r.cells.toArray,.int .i64 kind,.int .i64 tenant,.string who] w fun e w'=>e= .returned (.bool (r.of kind tenant who))/\Mod (fun _=>False) w w':=by
 obtain ⟨wa,ak,ae,aa,ah⟩:=g6 w (.cells r.cells.toArray 36);have c0:wa.cell? ⟨w.heap.size,0,none⟩=some (.int .i64 r.kind):=d6 aa rfl;have c1:wa.cell? ⟨w.heap.size,1,none⟩=some (.int .i64 r.tenant):=d6 aa rfl;have c2:wa.cell? ⟨w.heap.size,2,none⟩=some (.string r.who):=d6 aa rfl;refine hh2 ak ae fun aB ai=> ?_;clear ak ae aa ah
 cases h1:r.kind==kind with
 |false=>
  rw [show r.of kind tenant who=false by unfold Ru.of;rw [h1];rfl]
  go_enter Tryz.func74,Tryz.ntmps74
  go_wp2_with (rw [show w.alloc _=wa from aB.out])
  go_ret;exact ⟨rfl,ai.out⟩
 | true=>
  cases h2:r.tenant==tenant with
  |false=>
   rw [show r.of kind tenant who=false by unfold Ru.of;rw [h1,h2];rfl]
   go_enter Tryz.func74,Tryz.ntmps74
   go_wp2_with (rw [show w.alloc _=wa from aB.out])
   go_ret;exact ⟨rfl,ai.out⟩
  |true=>
   rw [show r.of kind tenant who=(r.who.toList==who.toList) by unfold Ru.of;rw [h1,h2];rfl]
   go_enter Tryz.func74,Tryz.ntmps74
   go_wp2_with (rw [show w.alloc _=wa from aB.out])
   go_ret;exact ⟨rfl,ai.out⟩
end Go.Proofs.YtdmjoodhaeijmaaGreatDoor
