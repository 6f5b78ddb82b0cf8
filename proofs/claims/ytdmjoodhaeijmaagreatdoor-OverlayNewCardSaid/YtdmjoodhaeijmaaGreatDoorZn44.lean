/- Lemmas. -/
import Derived.Test.YtdmjoodhaeijmaaGreatDoorZn42
import Derived.Sort.OwnSortedInts
import Derived.Laws.MakeOwn
set_option maxHeartbeats 40000000
set_option maxRecDepth 20000
namespace Go.Proofs.YtdmjoodhaeijmaaGreatDoor
open Go.RowKit
structure Gw (s s':NS):Prop where
 N:s'.N=s.N
 L:s'.L=s.L
 up:s'.up=s.up
 B:∀b,(s.B b).L.length<=(s'.B b).L.length
theorem Gw.refl (s:NS):Gw s s:=⟨rfl,rfl,rfl,fun _=>Nat.le_refl _⟩
theorem Gw.trans {s s' s'':NS} (h:Gw s s') (h':Gw s' s''):Gw s s'':=⟨h'.N.trans h.N,h'.L.trans h.L,h'.up.trans h.up,fun b=>Nat.le_trans (h.B b) (h'.B b)⟩
theorem Gw.agr {s s':NS} {i:Nat} {B:BS} (h:Agr (s.setB i B) s') (hB:(s.B i).L.length<=B.L.length):Gw s s':=⟨h.N,h.L,h.up,fun b=>by
 rw [show s'.B=upd s.B i B from h.B];by_cases e:b=i
 ·subst e;rw [J0];exact hB
 ·rw [L9 _ _ e];exact Nat.le_refl _⟩
theorem Gw.same {s s':NS} (h:Agr s s'):Gw s s':=⟨h.N,h.L,h.up,fun b=>by rw [h.B];exact Nat.le_refl _⟩
theorem b4Q (L:List PRu) (p:PRu):L.length<=(I9 L p).length:=by
 unfold I9;split
 ·rw [zz4];omega
 exact Nat.le_refl _
theorem Gw.learn (s:NS) (i:Nat) (at_:Int) (p:PRu) (frm:Int):Gw s (s.learn i at_ p frm):=by
 refine Gw.agr (Agr.sends i (s.setB i ((s.B i).learn at_ p)) (if A3 (s.B i).L at_ p then I3 (s.near i) frm at_ p else [])) ?_;show _<=(if A3 (s.B i).L at_ p then I9 (s.B i).L p else (s.B i).L).length;split
 ·exact b4Q _ _
 exact Nat.le_refl _
theorem Gw.route (s:NS) (i t:Nat) (frm:Int) (m:Mg):Gw s (s.route i t frm m):=Gw.same ((Agr.shows s _).trans (Agr.sends i _ _))
theorem Gw.take (s:NS) (i:Nat) (frm ten:Int) (m:Mg):Gw s (s.take i frm ten m).2:=by
 unfold NS.take;split
 ·exact Gw.learn s i _ _ frm
 split
 ·exact Gw.agr (Agr.sends i _ _) (by rw [a5N];exact Nat.le_refl _)
 split
 ·exact Gw.agr (Agr.sends i _ _) (by rw [a5N];exact Nat.le_refl _)
 split
 ·exact Gw.route s i _ frm m
 exact Gw.refl s
theorem Gw.setK {s:NS} {s':NS} (h:Gw s s') (K:Int->Int->Int->LK):Gw s {s' with K:=K}:=⟨h.N,h.L,h.up,h.B⟩
theorem Gw.pick (s:NS) (o:PO):Gw s (s.pick o).2:=by
 unfold NS.pick;split
 ·exact Gw.refl s
 split
 ·exact Gw.refl s
 split
 ·split
  ·exact Gw.refl s
  exact (Gw.refl s).setK _
 show Gw s (s.step o.frm o.to_ o.ten (max o.ten (-1))).2;unfold NS.step;split
 ·exact (Gw.refl s).setK _
 split
 ·exact (Gw.take s _ _ _ _).setK _
 exact Gw.refl s
def PO.pick (i j t:Int):PO:={PO.mk0 4 t with frm:=i,to_:=j}
def a88:List Int:=[-1,0,1,2,3]
def a3U (i j:Int):List (Int×Int×Int):=a88.map fun t=>(i,j,t)
def a09 (N:List (List Int)) (i:Nat):List (Int×Int×Int):=(m5 N i).flatMap fun j=>a3U i j
def D1 (N:List (List Int)):List (Int×Int×Int):=(List.range N.length).flatMap fun i=>a09 N i
def NS.lapF (x:Bool×NS) (p:Int×Int×Int):Bool×NS:=(decide ((x.2.pick (PO.pick p.1 p.2.1 p.2.2)).1=0)||x.1,(x.2.pick (PO.pick p.1 p.2.1 p.2.2)).2)
def NS.laps (x:Bool×NS) (l:List (Int×Int×Int)):Bool×NS:=l.foldl NS.lapF x
def NS.lap (s:NS):Bool×NS:=NS.laps (false,s) (D1 s.N)
def NS.settle:Nat->NS->Nat×NS
 |0,s=>(0,s)
 |m+1,s=>if s.lap.1 then ((NS.settle m s.lap.2).1+1,(NS.settle m s.lap.2).2) else (0,s.lap.2)
theorem b0r (x:Bool×NS) (l:List (Int×Int×Int)) (p:Int×Int×Int):NS.laps x (l++[p])=NS.lapF (NS.laps x l) p:=by
 unfold NS.laps;rw [List.foldl_append];rfl
theorem b2U (l:List (Int×Int×Int)):∀x:Bool×NS,(NS.laps x l).2.N=x.2.N:=by
 induction l with
 |nil=>exact fun _=>rfl
 |cons p l ih=>exact fun x=>(ih (NS.lapF x p)).trans (Gw.pick x.2 (PO.pick p.1 p.2.1 p.2.2)).N
theorem b6C (s:NS):s.lap.2.N=s.N:=b2U _ _
theorem b4R (l:List (Int×Int×Int)):∀x:Bool×NS,Gw x.2 (NS.laps x l).2:=by
 induction l with
 |nil=>exact fun x=>Gw.refl x.2
 |cons p l ih=>exact fun x=>Gw.trans (s':=(NS.lapF x p).2) (Gw.pick x.2 (PO.pick p.1 p.2.1 p.2.2)) (ih (NS.lapF x p))
theorem a4Y:∀(m:Nat) (s:NS),Gw s (s.settle m).2
 |0,s=>Gw.refl s
 |m+1,s=>by
  have h1:Gw s s.lap.2:=b4R (D1 s.N) (false,s);unfold NS.settle;split
  ·exact h1.trans (a4Y m _)
  exact h1
theorem a4Z (i j:Int):(a3U i j).length=5:=rfl
theorem a40 (N:List (List Int)) (i:Nat):(a09 N i).length=5*(m5 N i).length:=by
 unfold a09
 induction m5 N i with
 |nil=>rfl
 |cons x l ih=>
  rw [List.flatMap_cons,zz4,ih,a4Z,zz9];omega
theorem U8 {N:List (List Int)} (h:NOk N):(D1 N).length<=180:=by
 have h1:∀n,((List.range n).flatMap fun i=>a09 N i).length<=30*n:=by
  intro n
  induction n with
  |zero=>exact Nat.le_refl _
  |succ n ih=>
   rw [List.range_succ,List.flatMap_append,zz4,List.flatMap_cons,List.flatMap_nil,zz11,a40];have:=h.nl n;omega
 have h2:=h1 N.length;have h3:=h.len;unfold D1;omega
theorem LK.next_zero:LK.zero.next=LK.zero:=rfl
theorem b0s (f:Int->Int->Int->LK) (a b c:Int) (x:LK) (h:f a b c=x):D9 f a b c x=f:=by
 funext i j k;by_cases e:i=a/\j=b/\k=c
 ·obtain ⟨rfl,rfl,rfl⟩:=e;rw [R8,h]
 exact R9 _ _ e
theorem a42 {s:NS} {i j t:Int} (hl:n9 s.N i j=true) (ht: -1<=t/\t<4) (hu:s.up i.toNat=true/\s.up j.toNat=true) (hz:s.K i j t=LK.zero):s.pick (PO.pick i j t)=(8,s):=by
 have hm:max t (-1)=t:=zo
 unfold NS.pick
 have h1:¬(n9 s.N (PO.pick i j t).frm (PO.pick i j t).to_=false\/4<=(PO.pick i j t).ten):=by
  show¬(n9 s.N i j=false\/4<=t);rw [hl];rintro (h|h)
  ·cases h
  omega
 rw [if_neg h1]
 have h2:¬(s.up (PO.pick i j t).frm.toNat=false\/s.up (PO.pick i j t).to_.toNat=false):=by
  show¬(s.up i.toNat=false\/s.up j.toNat=false);rw [hu.1,hu.2];rintro (h|h)<;>cases h
 rw [if_neg h2,if_neg (by show¬(4:Int)=5;decide)]
 have e:s.step (PO.pick i j t).frm (PO.pick i j t).to_ (PO.pick i j t).ten (max (PO.pick i j t).ten (-1))=(false,s):=by
  show s.step i j t (max t (-1))=_;rw [hm];unfold NS.step;rw [hz];show ((!LK.zero.q.isEmpty),({s with K:=D9 s.K i j t LK.zero.next}:NS))=_;rw [LK.next_zero,b0s _ _ _ _ _ hz];rfl
 rw [e];rfl
theorem b2V {s:NS} (hu:∀i,i<s.N.length->s.up i=true) (hn:NOk s.N) (hz:∀i j t,s.K i j t=LK.zero):s.lap=(false,s):=by
 have h1:∀l:List (Int×Int×Int),(∀p∈l,n9 s.N p.1 p.2.1=true/\ -1<=p.2.2/\p.2.2<4)->NS.laps (false,s) l=(false,s):=by
  intro l
  induction l with
  |nil=>exact fun _=>rfl
  | cons p l ih=>
   intro hp;obtain ⟨h2,h3⟩:=hp p List.mem_cons_self;have hr:=hn.rng _ _ h2;show NS.laps (NS.lapF (false,s) p) l=_
   have e:NS.lapF (false,s) p=(false,s):=by
    unfold NS.lapF;rw [a42 h2 h3 ⟨hu _ zo,hu _ zo⟩ (hz _ _ _)];rfl
   rw [e];exact ih (fun x hx=>hp x (List.mem_cons_of_mem _ hx))
 refine h1 _ (fun p hp=> ?_);unfold D1 a09 a3U a88 at hp;obtain ⟨i,hi,hp⟩:=List.mem_flatMap.1 hp;obtain ⟨j,hj,hp⟩:=List.mem_flatMap.1 hp;obtain ⟨t,ht,rfl⟩:=List.mem_map.1 hp;refine ⟨I5 hj, ?_⟩;have h4:t= -1\/t=0\/t=1\/t=2\/t=3:=by simpa using ht
 show -1<=t/\t<4;omega
def N2:List (List Int):=[[1],[0]]
def a0J:PO:={PO.mk0 0 0 with r:={PRu.zero with who:=⟨#[97]⟩}}
theorem b2W:((NS.new N2).do_ a0J).1=0:=by decide+kernel
theorem a8j:(((NS.new N2).do_ a0J).2.settle 20).1=3:=by decide+kernel
theorem b0t:((((NS.new N2).do_ a0J).2.settle 20).2.B 1).L.length=1:=by decide+kernel
section
open Go.RowKit Go.Sort
theorem a60 {w:World} {g n off:Nat} {os:Array Obj} {cur:Array Value} {e:TypeId} {fr:Nat×Nat} (d:Array Int) (hb:w.heap[g]? =some (.cells cur e fr)):
 (grow (putRow (Value.int .i64) (Sort.ahead w n) g off d) os).heap[g]? =some (.cells (putCells (Value.int .i64) off d cur) e fr):=by
 have hg:g<w.heap.size:=(zz7 hb).1;rw [heap_grow_old _ _ (by simpa using hg)];simp [putRow,mapBlock,Sort.ahead,Array.getElem?_modify,hb,onCells]
theorem a8k {w:World} {g n off:Nat} {os:Array Obj} (d:Array Int):Mod (fun k=>k=g) w (grow (putRow (Value.int .i64) (Sort.ahead w n) g off d) os):=by
 refine ⟨rfl,rfl,rfl,by simp,fun k hk hne=> ?_⟩;rw [heap_grow_old _ _ (by simpa using hk)];have:g≠k:=fun e=>hne e.symm;simp [putRow,mapBlock,Sort.ahead,Array.getElem?_modify,this]
theorem S2 (l:List Int):(K6 l).length=l.length:=List.length_mergeSort l
theorem a61 (cur:Array Value) (off:Nat) (ts:List Int) (h:off+ts.length<=cur.size):((putCells (Value.int .i64) off ts.toArray cur).toList.drop off).take ts.length=F9 ts:=by
 apply List.ext_getElem?;intro j;by_cases hj:j<ts.length
 ·rw [List.getElem?_take_of_lt hj,List.getElem?_drop,Array.getElem?_toList];simp [putCells,hj,F9,show off+j<cur.size by omega]
 rw [List.getElem?_take_eq_none zo,List.getElem?_eq_none (by simp [F9];omega)]
theorem b2X (w:World) (v:Value) (l:List Int) (h:g7 w 3 1 v l.length (F9 l)) (hl:l.length<4611686018427387904):
 Calls Tryz.prog 45 #[v] w fun e w'=>e= .returned (.tuple #[])/\g7 w' 3 1 v l.length (F9 (K6 l))/\Mod (inBlock v) w w':=by
 rcases h.2 with ⟨rfl,h0⟩|⟨g,off,cap,cur,rfl,hg,hn,hc,hs,ht⟩
 ·obtain rfl:l=[]:=List.eq_nil_of_length_eq_zero h0;refine (Tryz.slices_Sort_int_none none 0 w).mono fun e w' h=> ?_;obtain ⟨rfl,rfl⟩:=h;have h1:K6 []=[]:=by simp [K6]
  rw [h1];exact ⟨rfl,g7.nil _ _ _,Mod.refl _ _⟩
 have hgl:g<w.heap.size:=(zz7 hg).1
 have hat:∀j x,l[j]? =some x->cur[off+j]? =some (.int .i64 x):=fun j x hx=>by
  have h1:(F9 l)[j]? =some (.int .i64 x):=R6 hx;rw [<-ht,List.getElem?_take] at h1;split at h1
  ·rw [List.getElem?_drop] at h1;simpa using h1
  ·cases h1
 have hH:Holds (Value.int .i64) w g off l.toArray:=fun j hj=>by
  have hj':j<l.length:=by simpa using hj
  have h1:=hat j l[j] (zz5 hj');refine ⟨?_,by simp [World.frozen?,hg]⟩;rw [cell_of_row w g (off+j) cur 3 (0,0) hg,h1];simp [hj']
 refine (Tryz.slices_Sort_int g off cap l w hH hgl hl).mono fun e w' h=> ?_;obtain ⟨rfl,n,os,rfl⟩:=h;have hsl:(l.mergeSort fun x y=>decide (x<=y))=K6 l:=rfl;rw [hsl];have hbl:off+(K6 l).length<=cur.size:=by rw [S2];omega
 refine ⟨rfl,⟨by rw [a6H,S2,Nat.mul_one],.inr ⟨g,off,cap,_,rfl,a60 _ hg,hn,hc,by simpa [putCells] using hs, ?_⟩⟩,(a8k _).mono (fun k _ hk=>by show some g=some k;rw [hk])⟩;have:=a61 cur off (K6 l) hbl;rw [S2] at this;rw [Nat.mul_one];exact this
end
def a5O (n:Nat):List Value:=List.replicate n (.slice none 0 0)
def a1K (n:Nat):List Int:=List.replicate n 0
theorem a62 (z:Value) (n:Nat):madeCells #[z] n=(List.replicate n z).toArray:=by
 unfold madeCells;apply Array.ext
 ·simp
 intro i h1 h2;simp [Nat.mod_one]
theorem b4S (n:Nat) (hn:n<=6) (w:World):(Instr.makeSlice 104 (.int .i64 n) (.int .i64 n)).run Tryz.prog w= .ok (.slice (some ⟨w.heap.size,0,none⟩) n n) (w.alloc (.cells (a5O n).toArray 29)):=by
 obtain ⟨i,hi,h⟩:∃i,Tryz.prog.info? 29=some i/\(i.zero.map (·.cells),i.size,i.bytes)=(some #[.slice none 0 0],1,24):=⟨_,rfl,zk⟩;simp only [Prod.mk.injEq] at h;obtain ⟨h1,h2,h3⟩:=h
 cases hz:i.zero with
 |none=>rw [hz] at h1;cases h1
 |some z=>
  rw [hz] at h1;have h1:z.cells=#[.slice none 0 0]:=by simpa using h1
  have hr:=run_make (P:=Tryz.prog) w 104 29 i z zk hi hz .i64 .i64 n n zo zo (by rw [h3];omega) zo;rw [Int.toNat_natCast,h1,h2,Nat.mul_one,a62] at hr;exact hr
theorem b4T (n:Nat) (hn:n<=6) (w:World):(Instr.makeSlice 29 (.int .i64 n) (.int .i64 n)).run Tryz.prog w= .ok (.slice (some ⟨w.heap.size,0,none⟩) n n) (w.alloc (.cells (F9 (a1K n)).toArray 3)):=by
 obtain ⟨i,hi,h⟩:∃i,Tryz.prog.info? 3=some i/\(i.zero.map (·.cells),i.size,i.bytes)=(some #[.int .i64 0],1,8):=⟨_,rfl,zk⟩;simp only [Prod.mk.injEq] at h;obtain ⟨h1,h2,h3⟩:=h
 cases hz:i.zero with
 |none=>rw [hz] at h1;cases h1
 |some z=>
  rw [hz] at h1;have h1:z.cells=#[.int .i64 0]:=by simpa using h1
  have hr:=run_make (P:=Tryz.prog) w 29 3 i z zk hi hz .i64 .i64 n n zo zo (by rw [h3];omega) zo;rw [Int.toNat_natCast,h1,h2,Nat.mul_one,a62] at hr;rw [hr];unfold F9 a1K;rw [List.map_replicate]
def prs (ps:List (Int×Int)):List Value:=ps.flatMap fun p=>[.int .i64 p.1,.int .i64 p.2]
theorem b51 (ps:List (Int×Int)) {k j:Nat} {p:Int×Int} {u:Value} (h:ps[k]? =some p) (hj:[Value.int .i64 p.1,.int .i64 p.2][j]? =some u):(prs ps)[2*k+j]? =some u:=by
 induction ps generalizing k with
 |nil=>simp at h
 | cons b l ih=>
  unfold prs at ih⊢;rw [List.flatMap_cons];have hj2:=(zz6 hj).1;simp only [zz9,List.length_nil] at hj2
  cases k with
  |zero=>
   simp only [List.getElem?_cons_zero,Option.some.injEq] at h;subst h;rw [List.getElem?_append_left (by simp;omega),Nat.mul_zero,Nat.zero_add,hj]
  |succ k=>
   rw [List.getElem?_cons_succ] at h;rw [List.getElem?_append_right (by simp;omega),zz9,zz9,List.length_nil,show 2*(k+1)+j - (0+1+1)=2*k+j by omega];exact ih h
theorem b4U {w:World} {a:Option Addr} {cap:Nat} {l:List (Int×Int)} {j:Nat} {x:Int×Int} (h:i8 w 2 (.slice a l.length cap) l.length (prs l)) (hx:l[j]? =some x):∃g off,a=some ⟨g,off,none⟩/\d8 w g (off+j*2) [.int .i64 x.1,.int .i64 x.2]:=by
 obtain ⟨-,a',c',h1, -,h3,h4⟩:=h;cases h1
 cases a with
 |none=>have:=(zz6 hx).1;exact absurd (h3 rfl) zo
 |some b=>
  obtain ⟨g',off',h5,h6⟩:=h4 _ rfl (by have:=(zz6 hx).1;omega);refine ⟨g',off',by rw [h5],fun i u hu=> ?_⟩;have:=h6 (2*j+i) u (b51 _ hx hu);rw [show off'+j*2+i=off'+(2*j+i) by omega];exact this
def a2I (n j:Nat):List Int:=(List.range n).map fun i=>if i<j then Int.ofNat i else 0
theorem b0u (n:Nat):a2I n 0=a1K n:=by
 unfold a2I a1K;apply List.ext_getElem<;>simp
theorem b2Y (n j:Nat):(a2I n j).set j (Int.ofNat j)=a2I n (j+1):=by
 unfold a2I;apply List.ext_getElem
 ·simp
 intro i h1 h2;rw [List.getElem_set];simp only [List.getElem_map,List.getElem_range];split
 ·rename_i h;subst h;rw [if_pos zo]
 rename_i h3
 by_cases h4:i<j
 ·rw [if_pos h4,if_pos zo]
 rw [if_neg h4,if_neg zo]
theorem b2Z (n:Nat):a2I n n=(D8 n).root:=by
 unfold a2I D8;apply List.map_congr_left;intro i hi;rw [if_pos (List.mem_range.1 hi)]
def W0 (w:World) (R:Int×List (List Int)) (e:Ending) (w':World):Prop:=∃p,e= .returned (.tuple #[p,.int .i64 R.1])/\(R.1≠0->p= .pointer none)/\
 (R.1=0->∃t,p= .pointer (some ⟨t,0,none⟩)/\w.heap.size<=t/\U0 w' t R.2)/\Mod (fun _=>False) w w'
theorem b20 (n:Int) (pv:Value) (ps:List (Int×Int)) (w:World) (hp:i8 w 2 pv ps.length (prs ps)) (hpl:ps.length<=1000000):
 Calls Tryz.prog 29 #[.int .i64 n,pv] w (W0 w (a4k n ps)):=by
 obtain ⟨pa,pc,rfl,hpc⟩:∃a c,pv= .slice a ps.length c/\ps.length<=c:=by obtain ⟨-,a,c,h,h2, -⟩:=hp;exact ⟨a,c,h,h2⟩
 have hpl':(ps.length:Int)<=1000000:=zo
 have UZ:(ps.length:Int)<=pc:=zo
 by_cases hb:n<1\/6<n
 ·have e:a4k n ps=(3,[]):=by unfold a4k;rw [if_pos hb]
  rw [e];have Hp:=zh hp;clear hp e;rcases hb with hb|hb
  ·go_enter Tryz.func29,Tryz.ntmps29
   go_wp2
   go_ret2
   exact ⟨.pointer none,rfl,fun _=>rfl,fun h=>absurd h zd,Mod.refl _ _⟩
  go_enter Tryz.func29,Tryz.ntmps29
  have hb1:¬n<1:=zo
  go_wp2
  go_ret2
  exact ⟨.pointer none,rfl,fun _=>rfl,fun h=>absurd h zd,Mod.refl _ _⟩
 have hb1:¬n<1:=fun h=>hb (.inl h);have hb2:¬6<n:=fun h=>hb (.inr h);obtain ⟨m,rfl⟩:∃m:Nat,n=m:=⟨n.toNat,zo⟩;have hm1:(1:Int)<=m:=zo
 have cz:(m:Int)<=6:=zo
 have uC:=b4S m zo;have dm:=b4T m zo
 have hnt:a4k m ps=(if (goT m ps (D8 m)).1=0 then (if (ps.length:Int)=m - 1 then (0,(goT m ps (D8 m)).2.near.map K6) else (1,[])) else ((goT m ps (D8 m)).1,[])):=by
  unfold a4k;rw [if_neg hb,Int.toNat_natCast]
 obtain ⟨NT,PY⟩:∃q,a4k m ps=q:=⟨_,rfl⟩;rw [PY] at hnt⊢;obtain ⟨wa,ak,ae,aa,ah⟩:=g6 w (.cells (a5O m).toArray 29);obtain ⟨wb,hwb,ay,aA,aU⟩:=g6 wa (.cells #[.slice (some ⟨w.heap.size,0,none⟩) m m] 106);obtain ⟨wc,hwc,bU,fZ,nW⟩:=g6 wb (.cells (F9 (a1K m)).toArray 3);have hmc:=(ae.trans ay zi).trans bU zi
 have Fp:TB wc wc.heap.size wa.heap.size w.heap.size wb.heap.size m (a5O m) (a5O m) (D8 m).near (a2I m 0):=by
  refine ⟨bU.heap aA id,bU.heap (ay.heap aa id) id,by rw [b0u];exact fZ,Nat.le_refl _,by simp [a5O],by simp [a5O],by simp [D8],by simp [a2I],zo,fun i v l hv hl=> ?_,fun i v b hv hb=> ?_,fun i j v u b _ hv _ hb=> ?_⟩
  ·obtain rfl:v= .slice none 0 0:=List.eq_of_mem_replicate (zz8 hv);obtain rfl:l=[]:=List.eq_of_mem_replicate (zz8 hl);exact g7.nil _ _ _
  ·obtain rfl:v= .slice none 0 0:=List.eq_of_mem_replicate (zz8 hv);cases hb
  obtain rfl:v= .slice none 0 0:=List.eq_of_mem_replicate (zz8 hv);cases hb
 have hz1:w.heap.size<wa.heap.size:=zo
 have hz2:wa.heap.size<wb.heap.size:=zo
 have hz3:wb.heap.size<wc.heap.size:=zo
 refine hh8 hp uC dm ak hwb hwc hmc Fp fun Hp MB uh aB bN BZ nz Fq=> ?_;refine hh1 hnt fun qj=> ?_;clear hp uC dm ak hwb hwc hmc Fp hnt aa aA fZ ae ay bU ah aU nW PY hb hb1 hb2;have uC:=MB.out;have dm:=uh.out
 go_enter Tryz.func29,Tryz.ntmps29
 go_wp2_with (first|(rw [show w.alloc _=wa from aB.out])|(rw [show wa.alloc _=wb from bN.out])|(rw [show wb.alloc _=wc from BZ.out]))
 clear uC dm
 go_loopw [32] (fun i wr=>∃j:Nat,i= .int .i64 j/\j<=m/\TB wr wc.heap.size wa.heap.size w.heap.size wb.heap.size m (a5O m) (a5O m) (D8 m).near (a2I m j)/\Mod (fun _=>False) w wr) (fun i _=>m - (intOf i).toNat)
 case atStart=>exact ⟨0,rfl,Nat.zero_le _,Fq.out,nz.out⟩
 case round=>
  obtain ⟨j,rfl,hj,nJ,hmr⟩:=hrel;by_cases hlt:j<m
  ·have hlt':(j:Int)<m:=zo
   obtain ⟨y,hy⟩:∃y,(a2I m j)[j]? =some y:=⟨_,zz5 (by simp [a2I];exact hlt)⟩;have c:wr.cell? ⟨wb.heap.size,j,none⟩=some (.int .i64 y):=(cell_of_row wr wb.heap.size j _ _ _ nJ.hr).trans (by simpa using R6 hy);have fz:wr.frozen? ⟨wb.heap.size,j,none⟩=false:=r9 nJ.hr;have gU:=nJ.rootSet j (Int.ofNat j);rw [b2Y] at gU;have hm2:Mod (fun _=>False) w (wr.setCell ⟨wb.heap.size,j,none⟩ (.int .i64 (Int.ofNat j))):=hmr.setCell (fun h=>by have h2:wb.heap.size<w.heap.size:=h;omega) _;refine hh2 gU hm2 fun HT2 aS=> ?_;clear gU hm2 nJ hmr hy
   go_wp2_with fail
   go_roundw
   case rel=>exact ⟨j+1,by go_num,hlt,HT2.out,aS.out⟩
   case measure=>simp [intOf];omega
  obtain rfl:m=j:=zo
  rw [b2Z] at nJ;obtain ⟨wd,rfl⟩:∃wd:World,wd=wr:=⟨_,rfl⟩;refine hh2 nJ hmr fun MC aL=> ?_;clear nJ hmr Fq nz
  go_wp2_with fail
  go_loopw [42] (fun i wr=>∃(j:Nat) (vs:List Value) (s:TS),i= .int .i64 j/\j<=ps.length/\goT m (ps.take j) (D8 m)=(0,s)/\(∀l∈s.near,l.length<=j)/\TB wr wc.heap.size wa.heap.size w.heap.size wb.heap.size m vs vs s.near s.root/\Mod (fun _=>False) w wr) (fun i _=>ps.length - (intOf i).toNat)
  case atStart=>exact ⟨0,a5O m,D8 m,rfl,Nat.zero_le _,rfl,fun l hl=>(by rw [List.eq_of_mem_replicate hl];exact Nat.zero_le _),MC.out,aL.out⟩
  case round=>
   obtain ⟨wo,rfl⟩:∃wo:World,wo=wr:=⟨_,rfl⟩;obtain ⟨j,vs,s,rfl,hj,hgo,hnl,nJ,hmr⟩:=hrel;have Hnl:=zh hnl;clear hnl;by_cases hlt:j<ps.length
   ·have hlt':(j:Int)<ps.length:=zo
    obtain ⟨p,qY⟩:∃p,ps[j]? =some p:=⟨_,zz5 hlt⟩;obtain ⟨pg,poff,rfl,hf⟩:∃pg poff,pa=some ⟨pg,poff,none⟩/\d8 wo pg (poff+j*2) [.int .i64 p.1,.int .i64 p.2]:=b4U (Hp.out.mod hmr zi) qY;have hstop:=b2h hgo qY;obtain ⟨pa1,pa2⟩:=p;rw [a3K] at hstop;simp only at hstop hf;obtain ⟨wz,hwz,ag,aj,aF⟩:=g6 wo (.cells #[.int .i64 pa1,.int .i64 pa2] 84);have PZ:=nJ.mod ag;have hmz:=hmr.trans ag zi;have c0:wz.cell? ⟨wo.heap.size,0,none⟩=some (.int .i64 pa1):=d6 aj rfl;have c1:wz.cell? ⟨wo.heap.size,1,none⟩=some (.int .i64 pa2):=d6 aj rfl
    have Fs:(goT m (ps.take (j+1)) (D8 m)).1≠0->NT=((goT m (ps.take (j+1)) (D8 m)).1,[]):=fun h=>by
     rw [qj.out,b2i h,if_neg h]
    refine hh8 hf hwz aj PZ hmz hstop Fs qY fun Hf aX aJ AR bC qI Fu XJ=> ?_;refine hh1 hgo fun sV=> ?_;clear hf hwz aj PZ hmz hstop Fs qY hgo aF ag nJ hmr
    go_wp2_with (first|((with_reducible refine e9 84 (.tmp 44) ?_);refine ⟨pg,poff+j*2,rfl,[.int .i64 pa1,.int .i64 pa2],Hf.out,zk,zk, ?_⟩)|((with_reducible refine d9 84 (.tmp 10) (.tmp 45) ?_);refine ⟨rfl,[.int .i64 pa1,.int .i64 pa2],rfl,rfl,zk,rfl, ?_⟩;rw [aX.out]))
    go_quiet (fail)
    by_cases hbad:pa1<0\/pa2<0\/(m:Int)<=pa1\/(m:Int)<=pa2\/pa1=pa2
    ·have hs2:=qI.out;rw [if_pos hbad] at hs2;have ME:NT=(3,[]):=by rw [Fu.out (by rw [hs2];exact (by decide:(3:Int)≠0)),hs2]
     subst ME;clear hs2;rcases hbad with h|h|h|h|h
     ·go_wp2
      all_goals (go_ret2;exact ⟨.pointer none,rfl,fun _=>rfl,fun h=>absurd h zd,bC.out.drewN _⟩)
     ·go_wp2
      all_goals (go_ret2;exact ⟨.pointer none,rfl,fun _=>rfl,fun h=>absurd h zd,bC.out.drewN _⟩)
     ·go_wp2
      all_goals (go_ret2;exact ⟨.pointer none,rfl,fun _=>rfl,fun h=>absurd h zd,bC.out.drewN _⟩)
     ·go_wp2
      all_goals (go_ret2;exact ⟨.pointer none,rfl,fun _=>rfl,fun h=>absurd h zd,bC.out.drewN _⟩)
     have h5:(pa1==pa2)=true:=by rw [h];exact beq_self_eq_true _
     clear h
     go_wp2
     all_goals (go_ret2;exact ⟨.pointer none,rfl,fun _=>rfl,fun h=>absurd h zd,bC.out.drewN _⟩)
    have h1:0<=pa1:=zo
    have h2:0<=pa2:=zo
    have h3:pa1<m:=zo
    have h4:pa2<m:=zo
    have h5:(pa1==pa2)=false:=by rw [beq_eq_false_iff_ne];omega
    have hs2:=qI.out;rw [if_neg hbad] at hs2;obtain ⟨a,rfl⟩:∃a:Nat,pa1=a:=⟨pa1.toNat,zo⟩;obtain ⟨b,rfl⟩:∃b:Nat,pa2=b:=⟨pa2.toNat,zo⟩;rw [Int.toNat_natCast,Int.toNat_natCast] at hs2;have hab:a≠b:=zo
    obtain ⟨xa,hxa⟩:∃x,s.root[a]? =some x:=⟨_,zz5 (by have:=AR.out.lr;omega)⟩;obtain ⟨xb,hxb⟩:∃x,s.root[b]? =some x:=⟨_,zz5 (by have:=AR.out.lr;omega)⟩;have d1:wz.cell? ⟨wb.heap.size,a,none⟩=some (.int .i64 xa):=(cell_of_row wz wb.heap.size a _ _ _ AR.out.hr).trans (by simpa using R6 hxa);have d2:wz.cell? ⟨wb.heap.size,b,none⟩=some (.int .i64 xb):=(cell_of_row wz wb.heap.size b _ _ _ AR.out.hr).trans (by simpa using R6 hxb);have hga:s.root.getD a 0=xa:=by simp [List.getD,hxa]
    have hgb:s.root.getD b 0=xb:=by simp [List.getD,hxb]
    rw [hga,hgb] at hs2;refine hh6 hs2 hab hxa hxb hga hgb fun nH iR Hxa XK ku rz=> ?_;clear hs2 hab hxa hxb hga hgb hbad qI c0 c1
    go_wp2_with fail
    go_quiet (fail)
    by_cases hxy:xa=xb
    ·have hs3:=nH.out;rw [if_pos hxy] at hs3;have ME:NT=(1,[]):=by rw [Fu.out (by rw [hs3];exact (by decide:(1:Int)≠0)),hs3]
     subst ME;have h6:(xa==xb)=true:=by rw [hxy];exact beq_self_eq_true _
     clear hs3 hxy
     go_wp2
     go_ret2
     exact ⟨.pointer none,rfl,fun _=>rfl,fun h=>absurd h zd,bC.out.drewN _⟩
    have hs3:=nH.out;rw [if_neg hxy] at hs3;have h6:(xa==xb)=false:=by rw [beq_eq_false_iff_ne];exact hxy
    refine hh1 hs3 fun LU=> ?_;clear hs3 hxy nH d1 d2
    go_wp2_with fail
    have hdr:∀k,TB (wz.drewN k) wc.heap.size wa.heap.size w.heap.size wb.heap.size m vs vs s.near s.root/\Mod (fun _=>False) w (wz.drewN k):=fun k=>⟨AR.out.mod ((Mod.refl _ wz).drewN k),bC.out.drewN k⟩
    generalize MF:wz.drewN _=we
    have hTe:TB we wc.heap.size wa.heap.size w.heap.size wb.heap.size m vs vs s.near s.root:=MF▸(hdr _).1;have hme:Mod (fun _=>False) w we:=MF▸(hdr _).2;have dw:(m:Int)<=6:=zo
    refine hh2 hTe hme fun Iq Qa=> ?_;clear hTe hme MF hdr AR bC aX aJ;obtain ⟨f,hf⟩:∃f:Int->Int,f=fun r=>if r=xb then xa else r:=⟨_,rfl⟩
    go_loopw [84] (fun i wr=>∃k:Nat,i= .int .i64 k/\k<=m/\TB wr wc.heap.size wa.heap.size w.heap.size wb.heap.size m vs vs s.near (part f k s.root)/\Mod (fun _=>False) w wr) (fun i _=>m - (intOf i).toNat)
    case atStart=>exact ⟨0,rfl,Nat.zero_le _,by rw [a4J];exact Iq.out,Qa.out⟩
    case round=>
     obtain ⟨wf,rfl⟩:∃wf:World,wf=wr:=⟨_,rfl⟩;obtain ⟨k,rfl,hk,gK,hmk⟩:=hrel;by_cases hlk:k<m
     ·have DD:(k:Int)<m:=zo
      obtain ⟨y,hy⟩:∃y,s.root[k]? =some y:=⟨_,zz5 (by have:=Iq.out.lr;omega)⟩;have c:wf.cell? ⟨wb.heap.size,k,none⟩=some (.int .i64 y):=(cell_of_row wf wb.heap.size k _ _ _ gK.hr).trans (by simpa using R6 (a5F (f:=f) hy));have fz:wf.frozen? ⟨wb.heap.size,k,none⟩=false:=r9 gK.hr;by_cases hyb:y=xb
      ·have mU:f y=xa:=by rw [hf];exact if_pos hyb
       have gU:=gK.rootSet k xa;rw [<-mU,a3L hy,mU] at gU;have hm2:Mod (fun _=>False) w (wf.setCell ⟨wb.heap.size,k,none⟩ (.int .i64 xa)):=hmk.setCell (fun h=>by have h2:wb.heap.size<w.heap.size:=h;omega) _;have h7:(y==xb)=true:=by rw [hyb];exact beq_self_eq_true _
       refine hh2 gU hm2 fun HT2 aS=> ?_;clear gU hm2 gK hmk hy hyb hf mU
       go_wp2_with fail
       go_roundw
       case rel=>exact ⟨k+1,by go_num,hlk,HT2.out,aS.out⟩
       case measure=>simp [intOf];omega
      have mU:f y=y:=by rw [hf];exact if_neg hyb
      rw [a97 hy mU] at gK;have h7:(y==xb)=false:=by rw [beq_eq_false_iff_ne];exact hyb
      refine hh2 gK hmk fun Ir nO=> ?_;clear gK hmk hy hyb hf mU
      go_wp2_with fail
      go_roundw
      case rel=>exact ⟨k+1,by go_num,hlk,Ir.out,nO.out⟩
      case measure=>simp [intOf];omega
     obtain rfl:m=k:=zo
     have uY:part f m s.root=s.root.map f:=by
      have:=a6J f s.root;rw [Iq.out.lr] at this;exact this
     rw [uY] at gK;refine hh3 gK hmk hf fun Ir nO Hf=> ?_;clear gK hmk hf uY Iq Qa
     go_wp2_with fail
     have hT0:=Ir.out;obtain ⟨va,hva⟩:∃v,vs[a]? =some v:=⟨_,zz5 (by have:=hT0.lv;omega)⟩;obtain ⟨vb,hvb⟩:∃v,vs[b]? =some v:=⟨_,zz5 (by have:=hT0.lv;omega)⟩;obtain ⟨la,hla⟩:∃v,s.near[a]? =some v:=⟨_,zz5 (by have:=hT0.ln;omega)⟩;obtain ⟨lb,hlb⟩:∃v,s.near[b]? =some v:=⟨_,zz5 (by have:=hT0.ln;omega)⟩
     have hS:wf.drew.cell? ⟨wa.heap.size,0,none⟩=some (.slice (some ⟨w.heap.size,0,none⟩) m m)/\wf.drew.cell? ⟨w.heap.size,a,none⟩=some va/\wf.drew.cell? ⟨w.heap.size,b,none⟩=some vb:=
      ⟨d6 hT0.ht rfl,(cell_of_row wf w.heap.size a _ _ _ hT0.hg).trans (by simpa using hva),(cell_of_row wf w.heap.size b _ _ _ hT0.hg).trans (by simpa using hvb)⟩
     have hstep:s.step a b=⟨(s.near.set a (la++[(b:Int)])).set b (lb++[(a:Int)]),s.root.map f⟩:=by
      unfold TS.step;rw [ku.out,rz.out,Hf.out];simp [List.getD,hla,hlb]
     have Fv:goT m (ps.take (j+1)) (D8 m)=(0,s.step a b):=LU.out;have Va:=Hnl.out la (zz8 hla);have Vb:=Hnl.out lb (zz8 hlb)
     have Fw:∀l∈(s.step a b).near,l.length<=j+1:=fun l hl=>by
      rw [hstep] at hl;rcases List.mem_or_eq_of_mem_set hl with hl|rfl
      ·rcases List.mem_or_eq_of_mem_set hl with hl|rfl
       ·have:=Hnl.out l hl;omega
       simp;omega
      simp;omega
     have vU:=hT0.own a va la hva hla;have vV:=hT0.own b vb lb hvb hlb;have hS2:=hS;have vW:=hT0.mod ((Mod.refl (fun _=>False) wf).drew);have hmd:=nO.out.drew;have hbase:=hT0.sz;have Vd:=hT0.lt;have hfa:=fun k hk=>hT0.fresh a va k hva hk
     have vX:∀x:Int,∀u∈[Value.int .i64 x],u.oneCell'=true:=fun x u hu=>by
      have:u= .int .i64 x:=by simpa using hu
      rw [this];rfl
     refine hh8 hva hvb hla hlb hS2 hstep Fv Fw fun dE dY qZ BU HS2 jq zO zP=> ?_;refine hh6 vW hmd vU vV hfa vX fun Qb LC vY Qc XL gV=> ?_;clear hva hvb hla hlb hS2 hstep Fv Fw vW hmd vU vV hfa vX hT0 hS;refine M1 [0,1,2,3,4,5,6,7,8,9,10,11,12,13,14,15,16,17,18,19,20,21,22,23,24,25,26,27,28,29] (fun y:World=>y.cell? ⟨wa.heap.size,0,none⟩=some (.slice (some ⟨w.heap.size,0,none⟩) m m)/\y.cell? ⟨w.heap.size,a,none⟩=some va/\y.cell? ⟨w.heap.size,b,none⟩=some vb) zk zk (fun _ _ d _ _ h=>(by cases d<;>exact h)) ?_;have hS:=HS2.out;refine wan 0 hS fun K hK=> ?_;go_simp;refine hK _ ?_;clear hK K;refine wan 1 hS fun K hK=> ?_;go_simp;refine hK _ ?_;clear hK K;refine wan 2 hS fun K hK=> ?_;go_simp;refine hK _ ?_;clear hK K;refine wan 3 hS fun K hK=> ?_;go_simp;refine hK _ ?_;clear hK K;refine wan 4 hS fun K hK=> ?_;go_simp;refine hK _ ?_;clear hK K;refine wan 5 hS fun K hK=> ?_;go_simp;refine hK _ ?_;clear hK K;refine wan 6 hS fun K hK=> ?_;go_simp;refine hK _ ?_;clear hK K;refine wan 7 hS fun K hK=> ?_;go_simp;refine hK _ ?_;clear hK K;refine wan 8 hS fun K hK=> ?_;go_simp;refine hK _ ?_;clear hK K;refine wan 9 hS fun K hK=> ?_;go_simp;refine hK _ ?_;clear hK K;refine wan 10 hS fun K hK=> ?_;go_simp;refine hK _ ?_;clear hK K;refine wan 11 hS fun K hK=> ?_;go_simp;refine hK _ ?_;clear hK K;refine wan 12 hS fun K hK=> ?_;go_simp;refine hK _ ?_;clear hK K;refine wan 13 hS fun K hK=> ?_;go_simp;refine hK _ ?_;clear hK K;refine wan 14 hS fun K hK=> ?_;go_simp;refine hK _ ?_;clear hK K;refine wan 15 hS fun K hK=> ?_;go_simp;refine hK _ ?_;clear hK K;refine wan 16 hS fun K hK=> ?_;go_simp;refine hK _ ?_;clear hK K;refine wan 17 hS fun K hK=> ?_;go_simp;refine hK _ ?_;clear hK K;refine wan 20 hS fun K hK=> ?_;go_simp;refine hK _ ?_;clear hK K;refine wan 21 hS fun K hK=> ?_;go_simp;refine hK _ ?_;clear hK K;refine wan 22 hS fun K hK=> ?_;go_simp;refine hK _ ?_;clear hK K;refine wan 23 hS fun K hK=> ?_;go_simp;refine hK _ ?_;clear hK K;refine wan 24 hS fun K hK=> ?_;go_simp;refine hK _ ?_;clear hK K;refine wan 25 hS fun K hK=> ?_;go_simp;refine hK _ ?_;clear hK K;refine wan 26 hS fun K hK=> ?_;go_simp;refine hK _ ?_;clear hK K;refine wan 27 hS fun K hK=> ?_;go_simp;refine hK _ ?_;clear hK K;refine a0D (i:=18) (j:=28) zk (g8 rfl ?_ (fun K hK=> ?_)) (g8 rfl ?_ (fun K hK=> ?_))
     ·exact zg
     ·(try simp only [zz1,zz2,zz3]);go_simp;obtain ⟨w1,hw1⟩:∃q:World,(wf.alloc (.cells #[.int .i64 b] 3)).drew=q:=⟨_,rfl⟩;have bM:Mod (fun _=>False) wf.drew w1:=hw1▸(by exact ⟨(((Mod.refl (fun _=>False) wf).alloc _).drew).os,(((Mod.refl (fun _=>False) wf).alloc _).drew).tape,(((Mod.refl (fun _=>False) wf).alloc _).drew).output,(((Mod.refl (fun _=>False) wf).alloc _).drew).size,(((Mod.refl (fun _=>False) wf).alloc _).drew).block⟩);have hrw1:i8 w1 1 (.slice (some ⟨wf.heap.size,0,none⟩) 1 1) 1 [.int .i64 b]:=hw1▸i8.oneD wf [.int .i64 b] 3 rfl;have hT1:=Qb.out.mod bM;have hM1:=LC.out.trans bM zi;rw [hw1];refine hK _ _ (fun _ h=>⟨bM.cell h.1 id,bM.cell h.2.1 id,bM.cell h.2.2 id⟩) ?_;clear hK K hw1;refine a0D (i:=19) (j:=28) zk (g8 rfl ?_ (fun K hK=> ?_)) (g8 rfl ?_ (fun K hK=> ?_))
      ·exact zg
      ·refine l5 (.tmp 114) (.tmp 116) 29 rfl 3 1 8 a1d va la.length (F9 la) rfl (hT1.own a va la (dE.out) (qZ.out)) (.slice (some ⟨wf.heap.size,0,none⟩) 1 1) 1 [.int .i64 b] rfl (hrw1) (gV.out _) zo (by unfold maxLen;omega) (fun w2ad w2cap w2 qJ=> ?_);(try simp only [zz1,zz2,zz3]);go_simp;have hfw2:∀k,inBlock va k->wc.heap.size<=k:=fun k hk=>hT1.fresh a va k (dE.out) hk;refine hK _ _ (fun _ h=>⟨qJ.2.1.cell h.1 (fun h=> ?_),qJ.2.1.cell h.2.1 (fun h=> ?_),qJ.2.1.cell h.2.2 (fun h=> ?_)⟩) ?_
       ·exact absurd (hfw2 _ h) (by show¬wc.heap.size<=wa.heap.size;omega)
       ·exact absurd (hfw2 _ h) (by show¬wc.heap.size<=w.heap.size;omega)
       ·exact absurd (hfw2 _ h) (by show¬wc.heap.size<=w.heap.size;omega)
       clear hK K;have gU:=hT1.app (dE.out) qJ;have hM2:=hM1.upon qJ.2.1 (fun b hb=> .inr (by have:=hfw2 b hb;omega));refine j9 (i:=28) zk (g8 rfl ?_ (fun K hK=> ?_))
       ·exact zg
       (try simp only [zz1,zz2,zz3]);go_simp;obtain ⟨w3,hw3⟩:∃q:World,(w2.alloc (.cells #[.int .i64 a] 3))=q:=⟨_,rfl⟩;have cB:Mod (fun _=>False) w2 w3:=hw3▸(by exact ⟨(((Mod.refl (fun _=>False) w2).alloc _)).os,(((Mod.refl (fun _=>False) w2).alloc _)).tape,(((Mod.refl (fun _=>False) w2).alloc _)).output,(((Mod.refl (fun _=>False) w2).alloc _)).size,(((Mod.refl (fun _=>False) w2).alloc _)).block⟩);have hrw3:i8 w3 1 (.slice (some ⟨w2.heap.size,0,none⟩) 1 1) 1 [.int .i64 a]:=hw3▸i8.one w2 [.int .i64 a] 3 rfl;have qK:=gU.mod cB;have vZ:=hM2.trans cB zi;rw [hw3];refine hK _ _ (fun _ h=>⟨cB.cell h.1 id,cB.cell h.2.1 id,cB.cell h.2.2 id⟩) ?_;clear hK K hw3;refine j9 (i:=29) zk (g8 rfl ?_ (fun K hK=> ?_))
       ·exact zg
       refine l5 (.tmp 124) (.tmp 126) 29 rfl 3 1 8 a1d vb lb.length (F9 lb) rfl (qK.own b vb lb ((List.getElem?_set_ne iR.out).trans dY.out) ((List.getElem?_set_ne iR.out).trans BU.out)) (.slice (some ⟨w2.heap.size,0,none⟩) 1 1) 1 [.int .i64 a] rfl (hrw3) (gV.out _) zo (by unfold maxLen;omega) (fun w4ad w4cap w4 dB=> ?_);(try simp only [zz1,zz2,zz3]);go_simp;have dU:∀k,inBlock vb k->wc.heap.size<=k:=fun k hk=>qK.fresh b vb k ((List.getElem?_set_ne iR.out).trans dY.out) hk;refine hK _ _ (fun _ h=>⟨dB.2.1.cell h.1 (fun h=> ?_),dB.2.1.cell h.2.1 (fun h=> ?_),dB.2.1.cell h.2.2 (fun h=> ?_)⟩) ?_
       ·exact absurd (dU _ h) (by show¬wc.heap.size<=wa.heap.size;omega)
       ·exact absurd (dU _ h) (by show¬wc.heap.size<=w.heap.size;omega)
       ·exact absurd (dU _ h) (by show¬wc.heap.size<=w.heap.size;omega)
       clear hK K;have qL:=qK.app ((List.getElem?_set_ne iR.out).trans dY.out) dB;have wh:=vZ.upon dB.2.1 (fun b hb=> .inr (by have:=dU b hb;omega));refine j9 (i:=30) zk (g8 rfl ?_ (fun K hK=> ?_))
       ·exact zg
       (try simp only [zz1,zz2,zz3]);go_simp;refine hK _ _ (fun _ h=>h) ?_;clear hK K;have c1:w4.cell? ⟨w.heap.size,a,none⟩=some va:=(cell_of_row w4 w.heap.size a _ _ _ qL.hg).trans (by simpa using dE.out);have z1:w4.frozen? ⟨w.heap.size,a,none⟩=false:=r9 qL.hg;obtain ⟨u5,nK⟩:∃q,w4.setCell ⟨w.heap.size,a,none⟩ (.slice w2ad (la.length+1) w2cap)=q:=⟨_,rfl⟩;have kS:=qL.store a (.slice w2ad (la.length+1) w2cap);have wm:Mod (fun _=>False) w (w4.setCell ⟨w.heap.size,a,none⟩ (.slice w2ad (la.length+1) w2cap)):=wh.setCell (fun h=>by have h2:w.heap.size<w.heap.size:=h;omega) _;rw [nK] at kS wm;refine j9 (i:=31) zk (g8 rfl ?_ (fun K hK=> ?_))
       ·exact zg
       (try simp only [zz1,zz2,zz3]);go_simp;(try rw [nK]);refine hK _ _ (fun h=>absurd h zd) ?_;clear hK K c1 z1 nK;refine j9 (i:=32) zk (g8 rfl ?_ (fun K hK=> ?_))
       ·exact zg
       (try simp only [zz1,zz2,zz3]);go_simp;refine hK _ _ (fun _ h=>h) ?_;clear hK K;have c2:u5.cell? ⟨w.heap.size,b,none⟩=some vb:=(cell_of_row u5 w.heap.size b _ _ _ kS.hg).trans (by simpa [List.getElem?_set_ne iR.out] using dY.out);have z2:u5.frozen? ⟨w.heap.size,b,none⟩=false:=r9 kS.hg;obtain ⟨u6,qM⟩:∃q,u5.setCell ⟨w.heap.size,b,none⟩ (.slice w4ad (lb.length+1) w4cap)=q:=⟨_,rfl⟩;have ww:=kS.store b (.slice w4ad (lb.length+1) w4cap);have qN:Mod (fun _=>False) w (u5.setCell ⟨w.heap.size,b,none⟩ (.slice w4ad (lb.length+1) w4cap)):=wm.setCell (fun h=>by have h2:w.heap.size<w.heap.size:=h;omega) _;rw [qM] at ww qN;refine j9 (i:=33) zk (g8 rfl ?_ (fun K hK=> ?_))
       ·exact zg
       (try simp only [zz1,zz2,zz3]);go_simp;(try rw [qM]);refine hK _ _ (fun h=>absurd h zd) ?_;clear hK K c2 z2 qM;refine T9 zk ?_;have wI:TB u6 wc.heap.size wa.heap.size w.heap.size wb.heap.size m ((vs.set a (.slice w2ad (la.length+1) w2cap)).set b (.slice w4ad (lb.length+1) w4cap)) ((vs.set a (.slice w2ad (la.length+1) w2cap)).set b (.slice w4ad (lb.length+1) w4cap)) (s.step a b).near (s.step a b).root:=by rw [jq.out];exact ww
       refine hh2 wI qN fun Fx Fy=> ?_;clear wI qN
       go_wp2_with fail
       go_roundw
       case rel=>exact ⟨j+1,_,s.step a b,by go_num,hlt,zO.out,zP.out,Fx.out,Fy.out⟩
       case measure=>simp [intOf];omega
      ·exact zg
      (try simp only [zz1,zz2,zz3]);go_simp;obtain ⟨w2,hw2⟩:∃q:World,(w1.alloc (.cells #[.int .i64 a] 3))=q:=⟨_,rfl⟩;have cZ:Mod (fun _=>False) w1 w2:=hw2▸(by exact ⟨(((Mod.refl (fun _=>False) w1).alloc _)).os,(((Mod.refl (fun _=>False) w1).alloc _)).tape,(((Mod.refl (fun _=>False) w1).alloc _)).output,(((Mod.refl (fun _=>False) w1).alloc _)).size,(((Mod.refl (fun _=>False) w1).alloc _)).block⟩);have hrw2:i8 w2 1 (.slice (some ⟨w1.heap.size,0,none⟩) 1 1) 1 [.int .i64 a]:=hw2▸i8.one w1 [.int .i64 a] 3 rfl;have gU:=hT1.mod cZ;have hM2:=hM1.trans cZ zi;rw [hw2];refine hK _ _ (fun _ h=>⟨cZ.cell h.1 id,cZ.cell h.2.1 id,cZ.cell h.2.2 id⟩) ?_;clear hK K hw2;refine j9 (i:=19) zk (g8 rfl ?_ (fun K hK=> ?_))
      ·exact zg
      refine l5 (.tmp 114) (.tmp 116) 29 rfl 3 1 8 a1d va la.length (F9 la) rfl (gU.own a va la (dE.out) (qZ.out)) (.slice (some ⟨wf.heap.size,0,none⟩) 1 1) 1 [.int .i64 b] rfl (hrw1.mod cZ zi) (gV.out _) zo (by unfold maxLen;omega) (fun w3ad w3cap w3 eH=> ?_);(try simp only [zz1,zz2,zz3]);go_simp;have hfw3:∀k,inBlock va k->wc.heap.size<=k:=fun k hk=>gU.fresh a va k (dE.out) hk;refine hK _ _ (fun _ h=>⟨eH.2.1.cell h.1 (fun h=> ?_),eH.2.1.cell h.2.1 (fun h=> ?_),eH.2.1.cell h.2.2 (fun h=> ?_)⟩) ?_
      ·exact absurd (hfw3 _ h) (by show¬wc.heap.size<=wa.heap.size;omega)
      ·exact absurd (hfw3 _ h) (by show¬wc.heap.size<=w.heap.size;omega)
      ·exact absurd (hfw3 _ h) (by show¬wc.heap.size<=w.heap.size;omega)
      clear hK K;have qK:=gU.app (dE.out) eH;have vZ:=hM2.upon eH.2.1 (fun b hb=> .inr (by have:=hfw3 b hb;omega));refine j9 (i:=29) zk (g8 rfl ?_ (fun K hK=> ?_))
      ·exact zg
      have hsz:=bM.size;have hsz2:wf.heap.size<=w1.heap.size:=hsz;refine l5 (.tmp 124) (.tmp 126) 29 rfl 3 1 8 a1d vb lb.length (F9 lb) rfl (qK.own b vb lb ((List.getElem?_set_ne iR.out).trans dY.out) ((List.getElem?_set_ne iR.out).trans BU.out)) (.slice (some ⟨w1.heap.size,0,none⟩) 1 1) 1 [.int .i64 a] rfl (hrw2.mod eH.2.1 (fun q hq hin=>absurd (vY.out.lt q hin) (by cases hq;show¬w1.heap.size<wf.heap.size;omega))) (gV.out _) zo (by unfold maxLen;omega) (fun w4ad w4cap w4 dB=> ?_);(try simp only [zz1,zz2,zz3]);go_simp;have dU:∀k,inBlock vb k->wc.heap.size<=k:=fun k hk=>qK.fresh b vb k ((List.getElem?_set_ne iR.out).trans dY.out) hk;refine hK _ _ (fun _ h=>⟨dB.2.1.cell h.1 (fun h=> ?_),dB.2.1.cell h.2.1 (fun h=> ?_),dB.2.1.cell h.2.2 (fun h=> ?_)⟩) ?_
      ·exact absurd (dU _ h) (by show¬wc.heap.size<=wa.heap.size;omega)
      ·exact absurd (dU _ h) (by show¬wc.heap.size<=w.heap.size;omega)
      ·exact absurd (dU _ h) (by show¬wc.heap.size<=w.heap.size;omega)
      clear hK K;have qL:=qK.app ((List.getElem?_set_ne iR.out).trans dY.out) dB;have wh:=vZ.upon dB.2.1 (fun b hb=> .inr (by have:=dU b hb;omega));refine j9 (i:=30) zk (g8 rfl ?_ (fun K hK=> ?_))
      ·exact zg
      (try simp only [zz1,zz2,zz3]);go_simp;refine hK _ _ (fun _ h=>h) ?_;clear hK K;have c1:w4.cell? ⟨w.heap.size,a,none⟩=some va:=(cell_of_row w4 w.heap.size a _ _ _ qL.hg).trans (by simpa using dE.out);have z1:w4.frozen? ⟨w.heap.size,a,none⟩=false:=r9 qL.hg;obtain ⟨u5,nK⟩:∃q,w4.setCell ⟨w.heap.size,a,none⟩ (.slice w3ad (la.length+1) w3cap)=q:=⟨_,rfl⟩;have kS:=qL.store a (.slice w3ad (la.length+1) w3cap);have wm:Mod (fun _=>False) w (w4.setCell ⟨w.heap.size,a,none⟩ (.slice w3ad (la.length+1) w3cap)):=wh.setCell (fun h=>by have h2:w.heap.size<w.heap.size:=h;omega) _;rw [nK] at kS wm;refine j9 (i:=31) zk (g8 rfl ?_ (fun K hK=> ?_))
      ·exact zg
      (try simp only [zz1,zz2,zz3]);go_simp;(try rw [nK]);refine hK _ _ (fun h=>absurd h zd) ?_;clear hK K c1 z1 nK;refine j9 (i:=32) zk (g8 rfl ?_ (fun K hK=> ?_))
      ·exact zg
      (try simp only [zz1,zz2,zz3]);go_simp;refine hK _ _ (fun _ h=>h) ?_;clear hK K;have c2:u5.cell? ⟨w.heap.size,b,none⟩=some vb:=(cell_of_row u5 w.heap.size b _ _ _ kS.hg).trans (by simpa [List.getElem?_set_ne iR.out] using dY.out);have z2:u5.frozen? ⟨w.heap.size,b,none⟩=false:=r9 kS.hg;obtain ⟨u6,qM⟩:∃q,u5.setCell ⟨w.heap.size,b,none⟩ (.slice w4ad (lb.length+1) w4cap)=q:=⟨_,rfl⟩;have ww:=kS.store b (.slice w4ad (lb.length+1) w4cap);have qN:Mod (fun _=>False) w (u5.setCell ⟨w.heap.size,b,none⟩ (.slice w4ad (lb.length+1) w4cap)):=wm.setCell (fun h=>by have h2:w.heap.size<w.heap.size:=h;omega) _;rw [qM] at ww qN;refine j9 (i:=33) zk (g8 rfl ?_ (fun K hK=> ?_))
      ·exact zg
      (try simp only [zz1,zz2,zz3]);go_simp;(try rw [qM]);refine hK _ _ (fun h=>absurd h zd) ?_;clear hK K c2 z2 qM;refine T9 zk ?_;have wI:TB u6 wc.heap.size wa.heap.size w.heap.size wb.heap.size m ((vs.set a (.slice w3ad (la.length+1) w3cap)).set b (.slice w4ad (lb.length+1) w4cap)) ((vs.set a (.slice w3ad (la.length+1) w3cap)).set b (.slice w4ad (lb.length+1) w4cap)) (s.step a b).near (s.step a b).root:=by rw [jq.out];exact ww
      refine hh2 wI qN fun Fx Fy=> ?_;clear wI qN
      go_wp2_with fail
      go_roundw
      case rel=>exact ⟨j+1,_,s.step a b,by go_num,hlt,zO.out,zP.out,Fx.out,Fy.out⟩
      case measure=>simp [intOf];omega
     ·exact zg
     (try simp only [zz1,zz2,zz3]);go_simp;obtain ⟨w1,hw1⟩:∃q:World,(wf.alloc (.cells #[.int .i64 a] 3)).drew=q:=⟨_,rfl⟩;have bM:Mod (fun _=>False) wf.drew w1:=hw1▸(by exact ⟨(((Mod.refl (fun _=>False) wf).alloc _).drew).os,(((Mod.refl (fun _=>False) wf).alloc _).drew).tape,(((Mod.refl (fun _=>False) wf).alloc _).drew).output,(((Mod.refl (fun _=>False) wf).alloc _).drew).size,(((Mod.refl (fun _=>False) wf).alloc _).drew).block⟩);have hrw1:i8 w1 1 (.slice (some ⟨wf.heap.size,0,none⟩) 1 1) 1 [.int .i64 a]:=hw1▸i8.oneD wf [.int .i64 a] 3 rfl;have hT1:=Qb.out.mod bM;have hM1:=LC.out.trans bM zi;rw [hw1];refine hK _ _ (fun _ h=>⟨bM.cell h.1 id,bM.cell h.2.1 id,bM.cell h.2.2 id⟩) ?_;clear hK K hw1;refine j9 (i:=18) zk (g8 rfl ?_ (fun K hK=> ?_))
     ·exact zg
     (try simp only [zz1,zz2,zz3]);go_simp;obtain ⟨w2,hw2⟩:∃q:World,(w1.alloc (.cells #[.int .i64 b] 3))=q:=⟨_,rfl⟩;have cZ:Mod (fun _=>False) w1 w2:=hw2▸(by exact ⟨(((Mod.refl (fun _=>False) w1).alloc _)).os,(((Mod.refl (fun _=>False) w1).alloc _)).tape,(((Mod.refl (fun _=>False) w1).alloc _)).output,(((Mod.refl (fun _=>False) w1).alloc _)).size,(((Mod.refl (fun _=>False) w1).alloc _)).block⟩);have hrw2:i8 w2 1 (.slice (some ⟨w1.heap.size,0,none⟩) 1 1) 1 [.int .i64 b]:=hw2▸i8.one w1 [.int .i64 b] 3 rfl;have gU:=hT1.mod cZ;have hM2:=hM1.trans cZ zi;rw [hw2];refine hK _ _ (fun _ h=>⟨cZ.cell h.1 id,cZ.cell h.2.1 id,cZ.cell h.2.2 id⟩) ?_;clear hK K hw2;refine j9 (i:=19) zk (g8 rfl ?_ (fun K hK=> ?_))
     ·exact zg
     refine l5 (.tmp 114) (.tmp 116) 29 rfl 3 1 8 a1d va la.length (F9 la) rfl (gU.own a va la (dE.out) (qZ.out)) (.slice (some ⟨w1.heap.size,0,none⟩) 1 1) 1 [.int .i64 b] rfl (hrw2) (gV.out _) zo (by unfold maxLen;omega) (fun w3ad w3cap w3 eH=> ?_);(try simp only [zz1,zz2,zz3]);go_simp;have hfw3:∀k,inBlock va k->wc.heap.size<=k:=fun k hk=>gU.fresh a va k (dE.out) hk;refine hK _ _ (fun _ h=>⟨eH.2.1.cell h.1 (fun h=> ?_),eH.2.1.cell h.2.1 (fun h=> ?_),eH.2.1.cell h.2.2 (fun h=> ?_)⟩) ?_
     ·exact absurd (hfw3 _ h) (by show¬wc.heap.size<=wa.heap.size;omega)
     ·exact absurd (hfw3 _ h) (by show¬wc.heap.size<=w.heap.size;omega)
     ·exact absurd (hfw3 _ h) (by show¬wc.heap.size<=w.heap.size;omega)
     clear hK K;have qK:=gU.app (dE.out) eH;have vZ:=hM2.upon eH.2.1 (fun b hb=> .inr (by have:=hfw3 b hb;omega));refine j9 (i:=29) zk (g8 rfl ?_ (fun K hK=> ?_))
     ·exact zg
     refine l5 (.tmp 124) (.tmp 126) 29 rfl 3 1 8 a1d vb lb.length (F9 lb) rfl (qK.own b vb lb ((List.getElem?_set_ne iR.out).trans dY.out) ((List.getElem?_set_ne iR.out).trans BU.out)) (.slice (some ⟨wf.heap.size,0,none⟩) 1 1) 1 [.int .i64 a] rfl ((hrw1.mod cZ zi).mod eH.2.1 (fun q hq hin=>absurd (vY.out.lt q hin) (by cases hq;show¬wf.heap.size<wf.heap.size;omega))) (gV.out _) zo (by unfold maxLen;omega) (fun w4ad w4cap w4 dB=> ?_);(try simp only [zz1,zz2,zz3]);go_simp;have dU:∀k,inBlock vb k->wc.heap.size<=k:=fun k hk=>qK.fresh b vb k ((List.getElem?_set_ne iR.out).trans dY.out) hk;refine hK _ _ (fun _ h=>⟨dB.2.1.cell h.1 (fun h=> ?_),dB.2.1.cell h.2.1 (fun h=> ?_),dB.2.1.cell h.2.2 (fun h=> ?_)⟩) ?_
     ·exact absurd (dU _ h) (by show¬wc.heap.size<=wa.heap.size;omega)
     ·exact absurd (dU _ h) (by show¬wc.heap.size<=w.heap.size;omega)
     ·exact absurd (dU _ h) (by show¬wc.heap.size<=w.heap.size;omega)
     clear hK K;have qL:=qK.app ((List.getElem?_set_ne iR.out).trans dY.out) dB;have wh:=vZ.upon dB.2.1 (fun b hb=> .inr (by have:=dU b hb;omega));refine j9 (i:=30) zk (g8 rfl ?_ (fun K hK=> ?_))
     ·exact zg
     (try simp only [zz1,zz2,zz3]);go_simp;refine hK _ _ (fun _ h=>h) ?_;clear hK K;have c1:w4.cell? ⟨w.heap.size,a,none⟩=some va:=(cell_of_row w4 w.heap.size a _ _ _ qL.hg).trans (by simpa using dE.out);have z1:w4.frozen? ⟨w.heap.size,a,none⟩=false:=r9 qL.hg;obtain ⟨u5,nK⟩:∃q,w4.setCell ⟨w.heap.size,a,none⟩ (.slice w3ad (la.length+1) w3cap)=q:=⟨_,rfl⟩;have kS:=qL.store a (.slice w3ad (la.length+1) w3cap);have wm:Mod (fun _=>False) w (w4.setCell ⟨w.heap.size,a,none⟩ (.slice w3ad (la.length+1) w3cap)):=wh.setCell (fun h=>by have h2:w.heap.size<w.heap.size:=h;omega) _;rw [nK] at kS wm;refine j9 (i:=31) zk (g8 rfl ?_ (fun K hK=> ?_))
     ·exact zg
     (try simp only [zz1,zz2,zz3]);go_simp;(try rw [nK]);refine hK _ _ (fun h=>absurd h zd) ?_;clear hK K c1 z1 nK;refine j9 (i:=32) zk (g8 rfl ?_ (fun K hK=> ?_))
     ·exact zg
     (try simp only [zz1,zz2,zz3]);go_simp;refine hK _ _ (fun _ h=>h) ?_;clear hK K;have c2:u5.cell? ⟨w.heap.size,b,none⟩=some vb:=(cell_of_row u5 w.heap.size b _ _ _ kS.hg).trans (by simpa [List.getElem?_set_ne iR.out] using dY.out);have z2:u5.frozen? ⟨w.heap.size,b,none⟩=false:=r9 kS.hg;obtain ⟨u6,qM⟩:∃q,u5.setCell ⟨w.heap.size,b,none⟩ (.slice w4ad (lb.length+1) w4cap)=q:=⟨_,rfl⟩;have ww:=kS.store b (.slice w4ad (lb.length+1) w4cap);have qN:Mod (fun _=>False) w (u5.setCell ⟨w.heap.size,b,none⟩ (.slice w4ad (lb.length+1) w4cap)):=wm.setCell (fun h=>by have h2:w.heap.size<w.heap.size:=h;omega) _;rw [qM] at ww qN;refine j9 (i:=33) zk (g8 rfl ?_ (fun K hK=> ?_))
     ·exact zg
     (try simp only [zz1,zz2,zz3]);go_simp;(try rw [qM]);refine hK _ _ (fun h=>absurd h zd) ?_;clear hK K c2 z2 qM;refine T9 zk ?_;have wI:TB u6 wc.heap.size wa.heap.size w.heap.size wb.heap.size m ((vs.set a (.slice w3ad (la.length+1) w3cap)).set b (.slice w4ad (lb.length+1) w4cap)) ((vs.set a (.slice w3ad (la.length+1) w3cap)).set b (.slice w4ad (lb.length+1) w4cap)) (s.step a b).near (s.step a b).root:=by rw [jq.out];exact ww
     refine hh2 wI qN fun Fx Fy=> ?_;clear wI qN
     go_wp2_with fail
     go_roundw
     case rel=>exact ⟨j+1,_,s.step a b,by go_num,hlt,zO.out,zP.out,Fx.out,Fy.out⟩
     case measure=>simp [intOf];omega
   obtain rfl:ps.length=j:=zo
   rw [List.take_length] at hgo;have Iu:=nJ;have Iw:=hmr;clear nJ hmr;have hn0:=qj.out;rw [hgo,if_pos rfl] at hn0;by_cases hpn:(ps.length:Int)=m - 1
   ·rw [if_pos hpn] at hn0;subst hn0;have hne:((ps.length:Int) !=(m:Int) - 1)=false:=by rw [hpn];simp
    have ct:wo.cell? ⟨wa.heap.size,0,none⟩=some (.slice (some ⟨w.heap.size,0,none⟩) m m):=d6 Iu.ht rfl;refine hh3 Iu Iw hgo fun Iy Iz sV=> ?_;clear Iu Iw hgo MC aL
    go_wp2_with fail
    go_loopw [141] (fun i wr=>∃k:Nat,i= .int .i64 k/\k<=m/\TB wr wc.heap.size wa.heap.size w.heap.size wb.heap.size m vs vs (part K6 k s.near) s.root/\Mod (fun _=>False) w wr) (fun i _=>m - (intOf i).toNat)
    case atStart=>exact ⟨0,rfl,Nat.zero_le _,by rw [a4J];exact Iy.out,Iz.out⟩
    case round=>
     obtain ⟨wf,rfl⟩:∃wf:World,wf=wr:=⟨_,rfl⟩;obtain ⟨k,rfl,hk,gK,hmk⟩:=hrel;by_cases hlk:k<m
     ·have DD:(k:Int)<m:=zo
      obtain ⟨y,hy⟩:∃v,vs[k]? =some v:=⟨_,zz5 (by have:=gK.lv;omega)⟩;obtain ⟨l,hl⟩:∃v,s.near[k]? =some v:=⟨_,zz5 (by have:=Iy.out.ln;omega)⟩;have c:wf.cell? ⟨w.heap.size,k,none⟩=some y:=(cell_of_row wf w.heap.size k _ _ _ gK.hg).trans (by simpa using hy);have hl1:=Hnl.out l (zz8 hl);have hso:=b2X wf y l (gK.own k y l hy (a5F hl)) zo
      have hput:∀w',g7 w' 3 1 y l.length (F9 (K6 l))->Mod (inBlock y) wf w'->TB w' wc.heap.size wa.heap.size w.heap.size wb.heap.size m vs vs (part K6 (k+1) s.near) s.root/\Mod (fun _=>False) w w':=fun w' ho hm=>by
       have h1:=gK.put (l:=K6 l) hy (by rw [S2];exact ho) hm;rw [a3L hl] at h1;exact ⟨h1,hmk.upon hm (fun b hb=> .inr (by have:=gK.fresh k y b hy hb;omega))⟩
      refine hh2 hso hput fun jA Fz=> ?_;clear hso hput gK hmk hy hl hl1
      go_wp2_with fail
      refine jA.out.mono ?_;rintro e w2 ⟨rfl,ho,hm2⟩;obtain ⟨gU,hM2⟩:=Fz.out w2 ho hm2;refine hh2 gU hM2 fun HT2 vT=> ?_;clear gU hM2 ho hm2 jA Fz
      go_wp2_with fail
      go_roundw
      case rel=>exact ⟨k+1,by go_num,hlk,HT2.out,vT.out⟩
      case measure=>simp [intOf];omega
     obtain rfl:m=k:=zo
     have uY:part K6 m s.near=s.near.map K6:=by
      have:=a6J K6 s.near;rw [Iy.out.ln] at this;exact this
     rw [uY] at gK;have Qd:=gK.tree;refine hh3 gK hmk Qd fun Ir nO Ve=> ?_;clear gK hmk Qd uY Iy Iz
     go_wp2
     go_ret2
     exact ⟨_,rfl,fun h=>absurd rfl h,fun _=>⟨wa.heap.size,rfl,zo,Ve.out⟩,nO.out⟩
   rw [if_neg hpn] at hn0;subst hn0;have hne:((ps.length:Int) !=(m:Int) - 1)=true:=by rw [bne_iff_ne];exact hpn
   refine hh1 Iw fun Iz=> ?_;clear Iw Iu MC aL hgo
   go_wp2
   go_ret2
   exact ⟨.pointer none,rfl,fun _=>rfl,fun h=>absurd h zd,Iz.out⟩
def b6D (N:List (List Int)):Bool:=
 decide (N.length<=6)&&(List.range N.length).all fun i=>decide ((N.getD i []).length<=6)&&(N.getD i []).all fun j=>decide (0<=j)&&decide (j<N.length)&& !(j==(i:Int))&&(N.getD j.toNat []).any (· ==(i:Int))
theorem NOk.of {N:List (List Int)} (h:b6D N=true):NOk N:=by
 unfold b6D at h;simp only [Bool.and_eq_true,decide_eq_true_eq,List.all_eq_true,List.mem_range,Bool.not_eq_true',beq_eq_false_iff_ne] at h;obtain ⟨h1,h2⟩:=h
 have hlk:∀i j,n9 N i j=true->∃n:Nat,i=n/\n<N.length/\j∈N.getD n []:=by
  intro i j hl;unfold n9 at hl;obtain ⟨x,hx,e⟩:=List.any_eq_true.1 hl;have e:x=j:=by simpa using e
  subst e;unfold m5 at hx;split at hx
  ·cases hx
  rename_i hi
  refine ⟨i.toNat,zo, ?_,hx⟩;apply Classical.byContradiction;intro hn;rw [List.getD_eq_getElem?_getD,List.getElem?_eq_none zo] at hx;cases hx
 refine ⟨h1,fun i j hl=> ?_,fun i=> ?_,fun i=> ?_,fun i j hl=> ?_⟩
 ·obtain ⟨n,rfl,hn,hj⟩:=hlk i j hl;have h3:=(h2 n hn).2 j hj;exact ⟨⟨zo,zo⟩,h3.1.1.1,h3.1.1.2⟩
 ·unfold m5;split
  ·exact Nat.zero_le _
  by_cases hn:i.toNat<N.length
  ·exact (h2 _ hn).1
  rw [List.getD_eq_getElem?_getD,List.getElem?_eq_none zo];exact Nat.zero_le _
 ·cases hq:n9 N i i with
  |false=>rfl
  |true=>
   obtain ⟨n,rfl,hn,hj⟩:=hlk i i hq;exact absurd rfl ((h2 n hn).2 _ hj).1.2
 obtain ⟨n,rfl,hn,hj⟩:=hlk i j hl;have h3:=(h2 n hn).2 j hj;unfold n9 m5;rw [if_neg zo];exact h3.2
def b21 (x:Int):List Int->List Int
 |[]=>[x]
 |y::l=>if x<=y then x::y::l else y::b21 x l
def a2e:List Int->List Int
 |[]=>[]
 |x::l=>b21 x (a2e l)
theorem a65 (x:Int) (m:List Int) (hm:∀y∈m,x<=y):∀(l:List Int),(∀y∈l,¬x<=y)->b21 x (l++m)=l++x::m
 |[],_=>by
  cases m with
  |nil=>rfl
  |cons y m=>show (if x<=y then _ else _)=_;rw [if_pos (hm y (by simp))];rfl
 |y::l,h=>by
  show (if x<=y then _ else _)=_;rw [if_neg (h y (by simp))];show y::b21 x (l++m)=_;rw [a65 x m hm l (fun z hz=>h z (by simp [hz]))];rfl
theorem a3V:∀l:List Int,K6 l=a2e l
 |[]=>by simp [K6,a2e]
 |x::l=>by
  have tr:∀a b c:Int,decide (a<=b)=true->decide (b<=c)=true->decide (a<=c)=true:=fun a b c h1 h2=>by simp at*;omega
  have tot:∀a b:Int,(decide (a<=b)||decide (b<=a))=true:=fun a b=>by simp;omega
  obtain ⟨l1,l2,h1,h2,h3⟩:=List.mergeSort_cons (le:=fun x y:Int=>decide (x<=y)) tr tot x l;have hs:=List.pairwise_mergeSort (le:=fun x y:Int=>decide (x<=y)) tr tot (x::l);rw [h1] at hs;have hs2:=(List.pairwise_append.1 hs).2.1;show List.mergeSort _ _=b21 x (a2e l);rw [h1,<-a3V l];unfold K6;rw [h2,a65 x l2 (fun y hy=>by simpa using (List.pairwise_cons.1 hs2).1 y hy) l1 (fun y hy=>by have:=h3 y hy;simp at this;omega)]
def b5r (n:Int) (ps:List (Int×Int)):Int×List (List Int):=
 if n<1\/6<n then (3,[]) else
 if (goT n ps (D8 n.toNat)).1=0 then (if (ps.length:Int)=n - 1 then (0,(goT n ps (D8 n.toNat)).2.near.map a2e) else (1,[])) else ((goT n ps (D8 n.toNat)).1,[])
theorem b0v (n:Int) (ps:List (Int×Int)):a4k n ps=b5r n ps:=by
 unfold a4k b5r;rw [show K6=a2e from funext a3V]
def D2:Nat->List (Int×Int)
 |0=>[]
 |1=>[(0,1)]
 |2=>[(0,1),(1,2)]
 |3=>[(0,1),(0,2),(0,3)]
 |4=>[(0,1),(1,2),(2,3),(1,4)]
 |_=>[(0,1),(1,2),(1,3),(3,4),(3,5)]
def a0j:Nat->List (List Int)
 |0=>[[]]
 |1=>[[1],[0]]
 |2=>[[1],[0,2],[1]]
 |3=>[[1,2,3],[0],[0],[0]]
 |4=>[[1],[0,2,4],[1,3],[2],[1]]
 |_=>[[1],[0,2,3],[1],[1,4,5],[3],[3]]
theorem a66 (r:Nat) (h:r<6):a4k ((D2 r).length+1) (D2 r)=(0,a0j r):=by
 have h1:r=0\/r=1\/r=2\/r=3\/r=4\/r=5:=zo
 rw [b0v];rcases h1 with rfl|rfl|rfl|rfl|rfl|rfl<;>decide+kernel
theorem a89 (r:Nat) (h:r<6):NOk (a0j r):=by
 have h1:r=0\/r=1\/r=2\/r=3\/r=4\/r=5:=zo
 rcases h1 with rfl|rfl|rfl|rfl|rfl|rfl<;>exact NOk.of (by decide+kernel)
end Go.Proofs.YtdmjoodhaeijmaaGreatDoor
