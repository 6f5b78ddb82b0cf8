/- Lemmas. -/
import Derived.Test.YtdmjoodhaeijmaaGreatDoorZn43
import Derived.Test.YtdmjoodhaeijmaaGreatDoorZn44
set_option maxHeartbeats 40000000
set_option maxRecDepth 20000
namespace Go.Proofs.YtdmjoodhaeijmaaGreatDoor
section
open Go.RowKit
section
variable {w0 w:World} {ow:Ow} {q c n k j i:Nat} {a:NAd} {L:List Lr} {s:NS}
theorem NOk.each {N:List (List Int)} (h:NOk N):∀l∈N,l.length<=1000000:=fun l hl=>by
 obtain ⟨i,hi,rfl⟩:=List.getElem_of_mem hl;have h1:=h.nl i;rw [a6K (zz5 hi)] at h1;omega
end
end
section
open Go.RowKit
theorem a2f {N:List (List Int)} (hN:NOk N) {i j t:Int}:(i,j,t)∈D1 N↔M4 N i j t=true:=by
 unfold M4 D1 a09 a3U a88;simp only [Bool.and_eq_true,decide_eq_true_eq];constructor
 ·intro hp;obtain ⟨a,ha,hp⟩:=List.mem_flatMap.1 hp;obtain ⟨b,hb,hp⟩:=List.mem_flatMap.1 hp;obtain ⟨c,hc,e⟩:=List.mem_map.1 hp;cases e
  have h4:t= -1\/t=0\/t=1\/t=2\/t=3:=by simpa using hc
  exact ⟨⟨I5 hb,zo⟩,zo⟩
 rintro ⟨⟨h1,h2⟩,h3⟩;have hr:=hN.rng _ _ h1;refine List.mem_flatMap.2 ⟨i.toNat,List.mem_range.2 zo,List.mem_flatMap.2 ⟨j, ?_,List.mem_map.2 ⟨t, ?_, ?_⟩⟩⟩
 ·rw [show ((i.toNat:Nat):Int)=i by omega];exact b0o h1
 ·have h4:t= -1\/t=0\/t=1\/t=2\/t=3:=zo
  simpa using h4
 rw [show ((i.toNat:Nat):Int)=i by omega]
def b0w (f:Int->Int->Int->Nat) (a b c:Int) (x:Nat):Int->Int->Int->Nat:=fun i j k=>if i=a/\j=b/\k=c then x else f i j k
structure a4p (w:World) (ow:Ow) (mb:Nat) (lb:Int->Int->Int->Nat) (D:List (Int×Int×Int)):Prop where
 tag:ow mb=6
 mp:∃k f,l8 w 101 mb k f/\k<=D.length/\∀i j t,wfI i->wfI j->wfI t->f (a1m i j t)=if (i,j,t)∈D then some (ptr (lb i j t)) else none
 wf:∀i j t,(i,j,t)∈D->wfI i/\wfI j/\wfI t
 lk:∀i j t,(i,j,t)∈D->C9 w ow (cl i j t) (lb i j t) LK.zero
theorem a4p.mov {F:Nat->Prop} {w w':World} {ow ow':Ow} {mb:Nat} {lb:Int->Int->Int->Nat} {D:List (Int×Int×Int)} (h:a4p w ow mb lb D) (s:Mov F w ow w' ow') (h0:¬F 0) (h6:¬F 6) (hF:∀i j t,¬F (cl i j t)):a4p w' ow' mb lb D:=by
 obtain ⟨k,f,h1,h2,h3⟩:=h.mp;obtain ⟨h4,h5⟩:=l7 h1 h.tag s h6;exact ⟨h5,⟨k,f,h4,h2,h3⟩,h.wf,fun i j t ht=>(h.lk i j t ht).mov s h0 (hF i j t)⟩
theorem a4p.full {w:World} {ow:Ow} {mb:Nat} {lb:Int->Int->Int->Nat} {N:List (List Int)} (h:a4p w ow mb lb (D1 N)) (hN:NOk N):b2I w ow mb lb N fun _ _ _=>LK.zero:=by
 obtain ⟨k,f,h1,h2,h3⟩:=h.mp;refine ⟨h.tag,⟨k,f,h1,by have:=U8 hN;omega,fun i j t hi hj ht=> ?_⟩,fun i j t ht=>h.lk i j t ((a2f hN).2 ht)⟩;rw [h3 i j t hi hj ht];by_cases e:(i,j,t)∈D1 N
 ·rw [if_pos e,if_pos ((a2f hN).1 e)]
 rw [if_neg e,if_neg (fun e2=>e ((a2f hN).2 e2))]
theorem a4p.put {w0 w w1:World} {ow ow1:Ow} {mb b:Nat} {lb:Int->Int->Int->Nat} {D:List (Int×Int×Int)} {i j t:Int} (h:a4p w ow mb lb D) (hw1:Owd w0 w1 ow1) (hD:D.length<1000) (hi:wfI i) (hj:wfI j) (ht:wfI t)
 (s:Mov (fun x=>x=cl i j t) w ow w1 ow1) (hL:C9 w1 ow1 (cl i j t) b LK.zero):∃w2,(Instr.mapUpdate 47 (.map (some mb)) (a8d i j t) (ptr b)).run Tryz.prog w1= .ok () w2/\a4p w2 ow1 mb (b0w lb i j t b) (D++[(i,j,t)])/\Mov (fun x=>x=6) w1 ow1 w2 ow1/\Mod (fun k=>k=mb) w1 w2:=by
 obtain ⟨k,f,h1,h2,h3⟩:=h.mp;have hc:=O9 i j t;obtain ⟨h4,h5⟩:=l7 h1 h.tag s zo;obtain ⟨w2,hrun,hR,hm⟩:=h4.put X9 Tryz.underlying47 (by unfold maxLen;omega) (a0W hi hj ht) (ptr b);have s2:Mov (fun x=>x=6) w1 ow1 w2 ow1:=Mov.wrote hw1 hm (fun k hk=>by have hk':k=mb:=hk;rw [hk'];exact h5);refine ⟨w2,hrun,⟨h5,⟨_,_,hR, ?_,fun i' j' t' hi' hj' ht'=> ?_⟩,fun i' j' t' hm'=> ?_,fun i' j' t' hm'=> ?_⟩,s2,hm⟩
 ·rw [zz4,List.length_singleton];split<;>omega
 ·by_cases e:i'=i/\j'=j/\t'=t
  ·obtain ⟨rfl,rfl,rfl⟩:=e;rw [show T5 f (a1m i' j' t') (ptr b) (a1m i' j' t')=some (ptr b) from if_pos rfl,if_pos (List.mem_append_right _ List.mem_cons_self)];show _=some (ptr (if _ then b else _));rw [if_pos ⟨rfl,rfl,rfl⟩]
  rw [show T5 f (a1m i j t) (ptr b) (a1m i' j' t')=f (a1m i' j' t') from if_neg (fun e2=>e (a6R hi' hj' ht' hi hj ht e2)),h3 i' j' t' hi' hj' ht'];have e1:b0w lb i j t b i' j' t'=lb i' j' t':=if_neg e;rw [e1];by_cases e2:(i',j',t')∈D
  ·rw [if_pos e2,if_pos (List.mem_append_left _ e2)]
  rw [if_neg e2,if_neg (fun e3=>(zz14 e3).elim e2 (fun e4=>e (by have:=List.mem_singleton.1 e4;cases this;exact ⟨rfl,rfl,rfl⟩)))]
 ·rcases zz14 hm' with h6|h6
  ·exact h.wf i' j' t' h6
  ·cases List.mem_singleton.1 h6
   exact ⟨hi,hj,ht⟩
 by_cases e:i'=i/\j'=j/\t'=t
 ·obtain ⟨rfl,rfl,rfl⟩:=e;rw [show b0w lb i' j' t' b i' j' t'=b from if_pos ⟨rfl,rfl,rfl⟩];exact hL.mov s2 zo zo
 rw [show b0w lb i j t b i' j' t'=lb i' j' t' from if_neg e];rcases zz14 hm' with h6|h6
 ·obtain ⟨g1,g2,g3⟩:=h.wf i' j' t' h6;have:=O9 i' j' t';exact ((h.lk i' j' t' h6).mov s zo (fun e2=>e (a8f g1 g2 g3 hi hj ht e2))).mov s2 zo zo
 ·cases List.mem_singleton.1 h6
  exact absurd ⟨rfl,rfl,rfl⟩ e
theorem b0x {w0 w w1:World} {ow:Ow} (hw:Owd w0 w ow) (c:Nat) (ha:w.alloc (.cells #[.int .i64 0,.slice none 0 0,.int .i64 0,.slice none 0 0,.slice none 0 0,.int .i64 0,.int .i64 0] 89)=w1):
 C9 w1 (Q0 ow w.heap.size c) c w.heap.size LK.zero/\Mov (fun x=>x=c) w ow w1 (Q0 ow w.heap.size c):=by
 obtain ⟨F,h1,h2⟩:=a6G w;have hm:=Mov.alloc (F:=fun x=>x=c) hw (.cells #[.int .i64 0,.slice none 0 0,.int .i64 0,.slice none 0 0,.slice none 0 0,.int .i64 0,.int .i64 0] 89) c (.inr (.inr rfl));have hz:(w.alloc (.cells #[.int .i64 0,.slice none 0 0,.int .i64 0,.slice none 0 0,.slice none 0 0,.int .i64 0,.int .i64 0] 89)).heap.size=w.heap.size+1:=by simp
 rw [ha] at h1 hm hz;refine ⟨⟨[],F,h1,rfl,fun x hx=>(by cases hx),fun k hk=> ?_⟩,hm⟩;have h3:=h1.in_ hk;have h4:=h2 k hk;rw [show k=w.heap.size by omega];exact C7 _ _ _
structure b52 (w0 w:World) (ow:Ow) (q:Nat) (a:NAd) (N:List (List Int)) (m:Nat) (D:List (Int×Int×Int)):Prop where
 base:Mod (fun _=>False) w0 w
 row:w.heap[q]? =some (.cells (a.v::a.rest fun _=>0).toArray 54 (0,0))
 tag:ow q=2
 nv:a.v= .slice none 0 0/\a.pv= .slice none 0 0/\a.nv= .slice none 0 0
 bs:g7 w 90 1 a.bv m ((List.range m).map fun i=>ptr (a.bg i))
 bb:∀b,a.bv.ownBlock=some b->ow b=4
 up:g7 w 4 1 a.uv m ((List.range m).map fun _=> .bool true)
 ub:∀b,a.uv.ownBlock=some b->ow b=5
 bro:∀i,i<m->Bro w ow (20+20*i) (a.bg i) i (m5 N i) ⟨[],fun _=>RS.zero⟩
 lnk:a4p w ow a.lm a.lb D
 tm:l8 w 122 a.tm 0 (fun _=>none)/\ow a.tm=7
 om:l8 w 122 a.om 0 (fun _=>none)/\ow a.om=8
 sm:l8 w 122 a.sm 0 (fun _=>none)/\ow a.sm=9
theorem b52.done {w0 w:World} {ow:Ow} {q:Nat} {a:NAd} {N:List (List Int)} (h:b52 w0 w ow q a N N.length (D1 N)) (hN:NOk N) (hT:U0 w0 a.tp N):y7 w0 w ow q a [] (NS.new N) 0 0:=by
 obtain ⟨e1,e2,e3⟩:=h.nv;refine ⟨h.base,⟨h.row,h.tag, ?_,h.ub,h.lnk.full hN,⟨h.tm.2,0,_,h.tm.1,Nat.le_refl _,fun t who _ _=>rfl⟩⟩,⟨fun i j t _=>⟨⟨fun _=>⟨rfl,rfl⟩,fun e=>(by cases e)⟩,Nat.zero_le _,Nat.le_refl _⟩,fun t who=>Nat.le_refl _⟩,hN,⟨h.row,h.tag, ?_⟩,rfl,hT,h.bs,h.bb,h.bro,⟨h.om.2,0,_,h.om.1,Nat.le_refl _,fun t who _ _=>rfl⟩,⟨h.sm.2,0,_,h.sm.1,Nat.le_refl _,fun t who _ _=>rfl⟩,⟨[],rfl,by rw [e2];exact GrS.nil _ _ _ _ _ _ _⟩,⟨[],rfl,by rw [e3];exact GrS.nil _ _ _ _ _ _ _⟩⟩
 ·have e:(List.range N.length).map (fun i=>Value.bool ((NS.new N).up i))=(List.range N.length).map fun _=> .bool true:=List.map_congr_left fun i hi=>by
   show Value.bool (decide (i<N.length))=_;rw [decide_eq_true (List.mem_range.1 hi)]
  show g7 w 4 1 a.uv N.length ((List.range N.length).map fun i=>Value.bool ((NS.new N).up i));rw [e];exact h.up
 rw [e1];exact ⟨g7.nil _ _ _,fun b hb=>(by cases hb),fun x hx=>(by cases hx)⟩
theorem d8.pre {w:World} {g off:Nat} {l m:List Value} (h:d8 w g off (l++m)):d8 w g off l:=fun j u hu=>h j u (by rw [List.getElem?_append_left (zz6 hu).1];exact hu)
theorem b4V (I:List (Int×Fil)) (es:ByteArray) (L:List Att):(a5r I es L).length<=I.length:=by
 unfold a5r;refine Nat.le_trans (List.length_filter_le _ _) ?_;unfold a0y;rw [List.length_mergeSort,zz10];exact Nat.le_refl _
section
variable {w0 w:World} {ow:Ow} {q c k i:Nat} {a:NAd} {L:List Lr} {s:NS} {pin:Option a4n}
theorem b4W (hpn:U5 i pin) (hpk:Y2 w ow pin) (hw:Owd w0 w ow) (h:y7 w0 w ow q a L s c k) (hi:i<s.N.length) (hL:(s.B i).L.length<=40) (hc:c<=200000000000) (frm t:Int) (x:Mv) (hx:R4 w ow x) (hf:x.m.rule.fine) (hk:x.m.kind=0):
 Calls Tryz.prog 58 #[.pointer (some ⟨a.bg i,0,none⟩),.iface 138 (.agg #[.pointer (some ⟨q,0,none⟩),.int .i64 i]),.int .i64 frm,.int .i64 t,.agg x.cells.toArray] w
  fun e w'=>e= .returned (.bool true)/\∃c',c'<=c+6/\U7 w0 w ow q i a L k pin (s.learn i x.m.at_ x.m.rule frm) c' w':=by
 obtain ⟨wa,ak,ae,aa,ah⟩:=g6 w (.cells x.cells.toArray 135);have m0:wa.cell? ⟨w.heap.size,0,none⟩=some (.int .i64 x.m.kind):=d6 aa rfl;have m1:wa.cell? ⟨w.heap.size,1,none⟩=some (.int .i64 x.m.at_):=d6 aa rfl;rw [hk] at m0;have hs:=Mov.of hw ae (fun _=>False);have hl:=a4W hpn (hpk.mov hs zi) (hs.owd hw id) (h.still hw zo hs) hi hL zo x.m.at_ x.m.rule x.ra x.rc ⟨(hx.mov hs id).ru,hf⟩ frm
 have hl2:Calls Tryz.prog 73 #[.pointer (some ⟨a.bg i,0,none⟩),.iface 138 (.agg #[.pointer (some ⟨q,0,none⟩),.int .i64 i]),.int .i64 x.m.at_,.agg #[.int .i64 x.m.rule.kind,.int .i64 x.m.rule.tenant,.string x.m.rule.who,.int .i64 x.m.rule.broker,.string x.m.rule.sc,.slice x.ra x.m.rule.cs.length x.rc,.string x.m.rule.name,.int .i64 x.m.rule.at_],.int .i64 frm] wa
  fun e w'=>(∃b,e= .returned (.bool b))/\∃c',c'<=c+6/\U7 w0 w ow q i a L k pin (s.learn i x.m.at_ x.m.rule frm) c' w':=by
  refine hl.mono ?_;rintro e w' ⟨he,c',hc',ow',h1,h2,h3⟩;exact ⟨⟨_,he⟩,c',hc',ow',h1,(hs.mono (fun _ h=>h.elim)).trans h2,h3⟩
 have hcl:d8 wa w.heap.size 2 (x.m.rule.lies x.ra x.rc).cells:=by
  have h1:=d8.row aa;exact (d8.part (l:=[.int .i64 x.m.kind,.int .i64 x.m.at_]) (m:=(x.m.rule.lies x.ra x.rc).cells++x.cells.drop 10) h1 rfl).pre
 refine hh8 hw h hx hf ak ae aa hs fun Hw H Hx Hf aB ai aC Hs=> ?_;refine hh4 hl2 hcl hpn hpk fun jF dO Vf Vg=> ?_;clear hw h hx hf ak ae aa hs hl2 hcl hpn hpk ah hl
 go_enter Tryz.func58,Tryz.ntmps58
 go_wp2_with (first|(rw [show w.alloc _=wa from aB.out])|((with_reducible refine e9 36 (.tmp 32) ?_);refine ⟨w.heap.size,2,rfl,[.int .i64 x.m.rule.kind,.int .i64 x.m.rule.tenant,.string x.m.rule.who,.int .i64 x.m.rule.broker,.string x.m.rule.sc,.slice x.ra x.m.rule.cs.length x.rc,.string x.m.rule.name,.int .i64 x.m.rule.at_],dO.out,zk,zk, ?_⟩))
 refine jF.out.mono ?_;rintro e w2 ⟨⟨b,rfl⟩,hp⟩;refine hh1 hp fun Hp=> ?_;clear hp
 go_wp2_with fail
 go_ret;exact ⟨rfl,Hp.out⟩
theorem U7.le {s':NS} {c' c'':Nat} {w':World} (h:U7 w0 w ow q i a L k pin s' c' w') (hc:c'<=c''):U7 w0 w ow q i a L k pin s' c'' w':=by
 obtain ⟨ow',h1,h2,h3⟩:=h;exact ⟨ow',h1.le hc,h2,h3⟩
theorem y7.fine (h:y7 w0 w ow q a L s c k) {p:PRu} (hp:p∈s.L):p.fine:=by
 rw [<-h.lg] at hp;obtain ⟨x,hx,rfl⟩:=List.mem_map.1 hp;exact (h.log.sl.each x hx).fine
theorem a43 {q:Fil} (h:okF q):l0 q.1 q.2=true/\∀c∈q.2,c.fits:=by
 obtain ⟨⟨l,h1,h2,h3⟩,h4⟩:=h;refine ⟨?_,h4.2.1⟩;rw [h3];exact U6 h1 h2
theorem b22 {kk j:Nat} (hpn:U5 i pin) (hpk:Y2 w ow pin) (hw:Owd w0 w ow) (h:y7 w0 w ow q a L s c k) (hI:WI s kk j) (hk:kk<=39000) (hj:j<=4500) (hi:i<s.N.length) (hc:c<=150000000000) {frm ten z:Int} (hfw:wfI frm) (hte:0<=z->ten=z) (x:Mv) (hx:R4 w ow x) (hm:P2 s.L z x.m):
 Calls Tryz.prog 58 #[.pointer (some ⟨a.bg i,0,none⟩),.iface 138 (.agg #[.pointer (some ⟨q,0,none⟩),.int .i64 i]),.int .i64 frm,.int .i64 ten,.agg x.cells.toArray] w
  fun e w'=>e= .returned (.bool (s.take i frm ten x.m).1)/\U7 w0 w ow q i a L k pin (s.take i frm ten x.m).2 (c+1500000) w':=by
 have hL:=hI.pol.bl hi;by_cases k0:x.m.kind=0
 ·obtain ⟨n,h1,h2⟩:=hm.pol k0;have e:s.take i frm ten x.m=(true,s.learn i x.m.at_ x.m.rule frm):=if_pos k0;rw [e];refine (b4W hpn hpk hw h hi hL zo frm ten x hx (h.fine (zz8 h2)) k0).mono ?_;rintro e w' ⟨he,c',hc',hp⟩;exact ⟨he,hp.le zo⟩
 obtain ⟨z0,z4⟩:=hm.ten k0;have et:=hte z0;obtain ⟨t,ht⟩:∃t:Nat,ten=t:=⟨ten.toNat,zo⟩;have eU:t<4:=zo
 have hR:=hI.bi i hi t eU;have hsb:=hI.sb t;have hgo:=hR.go' zo zo;have htn:ten.toNat=t:=zo
 by_cases k1:x.m.kind=1
 ·have hf:=hm.fil (.inl k1);obtain ⟨f1,f2⟩:=a43 hf
  have e:s.take i frm ten x.m=(true,NS.sends i (s.setB i ((s.B i).takeB (s.near i) t frm (x.m.fs,j7 x.m.fl) true)) ((s.B i).takeS (s.near i) t frm (x.m.fs,j7 x.m.fl) true)):=by
   unfold NS.take;rw [if_neg k0,if_pos k1,htn]
  have hS:=(hI.bi i hi).takeS s.L (hI.nl i) eU frm (f:=(x.m.fs,j7 x.m.fl)) (by rw [show j7 x.m.fl=x.m.fl from a3O hf.1];exact hf) true;rw [e,ht];refine (a6W true hpn hpk hw h hi t eU zo hgo frm hfw x k1 hx.fl.rd f1 f2).mono ?_;rintro e w' ⟨he,hp⟩;exact ⟨he,hp.le zo⟩
 by_cases k2:x.m.kind=2
 ·have hf:=hm.fil (.inr k2);obtain ⟨f1,f2⟩:=a43 hf
  have e:s.take i frm ten x.m=(true,NS.sends i (s.setB i ((s.B i).takeB (s.near i) t frm (x.m.fs,j7 x.m.fl) false)) ((s.B i).takeS (s.near i) t frm (x.m.fs,j7 x.m.fl) false)):=by
   unfold NS.take;rw [if_neg k0,if_neg k1,if_pos k2,htn]
  have hS:=(hI.bi i hi).takeS s.L (hI.nl i) eU frm (f:=(x.m.fs,j7 x.m.fl)) (by rw [show j7 x.m.fl=x.m.fl from a3O hf.1];exact hf) false;rw [e,ht];refine (a6W false hpn hpk hw h hi t eU zo hgo frm hfw x k2 hx.fl.rd f1 f2).mono ?_;rintro e w' ⟨he,hp⟩;exact ⟨he,hp.le zo⟩
 have k3:x.m.kind=3:=by have:=hm.kd;omega
 have e:s.take i frm ten x.m=(decide (x.m.ver<=(s.B i).L.length),if x.m.ver<=(s.B i).L.length then s.route i t frm x.m else s):=by
  unfold NS.take;rw [if_neg k0,if_neg k1,if_neg k2,htn];split
  ·rename_i hv
   rw [decide_eq_true hv]
  rename_i hv
  rw [decide_eq_false hv]
 have h1:=b0e ((s.B i).R t).S (atP (s.B i).L (X0 x.m.ver (s.B i).L.length)) t x.m (a5r ((s.B i).R t).I x.m.es x.m.el);have h2:=a4R ((s.B i).R t).M (s.near i) t frm x.m;have h3:=hI.nl i;have h4:=b4V ((s.B i).R t).I x.m.es x.m.el;have h5:=hR.il;have h6:((s.B i).rouH t x.m).length<=1000:=by unfold BS.rouH;omega
 have hN:=hR.n;have hT:=hR.t;rw [e,ht];refine (b0l hpn hpk hw h hi hL t eU zo zo zo (hR.is_ zo) h5 frm x hx (hm.ev k3) ⟨k0,k1,k2⟩).mono ?_;rintro e w' ⟨he,hp⟩;refine ⟨he,hp.le ?_⟩;split<;>omega
structure PkS (nb ob mb q gb o i N bc bg:Nat) (ten frm:Int) (cs:List Value) (y:World):Prop where
 n0:y.cell? ⟨nb,0,none⟩=some (.pointer (some ⟨q,0,none⟩))
 q2:y.cell? ⟨q,2,none⟩=some (.slice (some ⟨gb,o,none⟩) N bc)
 o1:y.cell? ⟨ob,1,none⟩=some (.int .i64 ten)
 o7:y.cell? ⟨ob,16,none⟩=some (.int .i64 frm)
 o8:y.cell? ⟨ob,17,none⟩=some (.int .i64 i)
 be:y.cell? ⟨gb,o+i,none⟩=some (.pointer (some ⟨bg,0,none⟩))
 ma:l4 y mb 0 17
 mc:cellsOf y mb 0 17=cs.toArray
theorem b23 {kk j nb ob:Nat} (hpn:U5 i pin) (hpk:Y2 w ow pin) (hw:Owd w0 w ow) (h:y7 w0 w ow q a L s c k) (hI:WI s kk j) (hk:kk<=39000) (hj:j<=4500) (hi:i<s.N.length) (hc:c<=150000000000) {frm ten z:Int} (hfw:wfI frm) (hte:0<=z->ten=z) (x:Mv) (hx:R4 w ow x) (hm:P2 s.L z x.m)
 (n0:w.cell? ⟨nb,0,none⟩=some (.pointer (some ⟨q,0,none⟩))) (o1:w.cell? ⟨ob,1,none⟩=some (.int .i64 ten)) (o7:w.cell? ⟨ob,16,none⟩=some (.int .i64 frm)) (o8:w.cell? ⟨ob,17,none⟩=some (.int .i64 i)):
 Calls Tryz.prog 57 #[.agg x.cells.toArray,.pointer (some ⟨nb,0,none⟩),.pointer (some ⟨ob,0,none⟩)] w
  fun e w'=>e= .returned (.bool (s.take i frm ten x.m).1)/\U7 w0 w ow q i a L k pin (s.take i frm ten x.m).2 (c+1500000) w':=by
 obtain ⟨ba,bc,hbv,hbc⟩:=h.bs.shape;have hbs:=h.bs;rw [hbv] at hbs;obtain ⟨gb,o,rfl,hb0⟩:=a0H (j:=i) (u:=ptr (a.bg i)) hbs.rd (by simp [hi]);have q2:w.cell? ⟨q,2,none⟩=some (.slice (some ⟨gb,o,none⟩) s.N.length bc):=by rw [<-hbv];exact h.side.cellN rfl
 obtain ⟨wa,ak,ae,aa,ah⟩:=g6 w (.cells x.cells.toArray 135)
 have hS0:∀y,Mod (fun _=>False) wa y->PkS nb ob w.heap.size q gb o i s.N.length bc (a.bg i) ten frm x.cells y:=fun y hy=>
  have hy':=ae.trans hy zi;have hg:=hy.heap aa id
  ⟨hy'.cell n0 id,hy'.cell q2 id,hy'.cell o1 id,hy'.cell o7 id,hy'.cell o8 id,hy'.cell hb0 id,(d8.row hg).all rfl,(d8.row hg).is rfl⟩
 have htk:∀wx,Mod (fun _=>False) wa wx->Calls Tryz.prog 58 #[.pointer (some ⟨a.bg i,0,none⟩),.iface 138 (.agg #[.pointer (some ⟨q,0,none⟩),.int .i64 i]),.int .i64 frm,.int .i64 ten,.agg x.cells.toArray] wx
  fun e w'=>e= .returned (.bool (s.take i frm ten x.m).1)/\U7 w0 w ow q i a L k pin (s.take i frm ten x.m).2 (c+1500000) w':=fun wx hmx=>by
  have hs:=Mov.of hw (ae.trans hmx zi) (fun _=>False);refine (b22 hpn (hpk.mov hs zi) (hs.owd hw id) (h.still hw hI.pos hs) hI hk hj hi hc hfw hte x (hx.mov hs id) hm).mono ?_;rintro e w' ⟨he,ow',h1,h2,h3⟩;exact ⟨he,ow',h1,(hs.mono (fun _ h=>h.elim)).trans h2,h3⟩
 have hi':(i:Int)<s.N.length:=zo
 have Fh:(s.N.length:Int)<=bc:=zo
 obtain ⟨R,hR⟩:∃R,(s.take i frm ten x.m).1=R:=⟨_,rfl⟩;rw [hR] at htk⊢;refine hh8 hpn hpk hw h hI hx hm hbv fun Vf Vg Hw H HI Hx Hm UW=> ?_;refine hh8 hbs ak ae aa hS0 htk hfw hte fun eP aB ai aC ji Ps Ua Hte=> ?_;refine hh1 hR fun HR=> ?_;clear hpn hpk hw h hI hx hm hbv hbs ak ae aa hS0 htk hfw hte hR ah n0 o1 o7 o8 q2 hb0
 go_enter Tryz.func57,Tryz.ntmps57
 go_wp2_with (rw [show w.alloc _=wa from aB.out])
 refine i6 [.rd 0,.rd 1,.rd 2,.rd 3,.rd 4,.rd 5,.rd 6,.rd 7,.rd 8,.rd 9,.rd 10,.rd 11,.rd 12,.rd 13,.rd 14,.rd 15,.rd 16,.rd 17,.go 18,.go 19] [0,1,2,3,4,5,6,7,8,9,10,11,12,13,14,15,16,17] (PkS nb ob w.heap.size q gb o i s.N.length bc (a.bg i) ten frm x.cells) zk zk (fun _ _ d _ _ h=>(by cases d<;>exact h)) ?_;have hS:=ji.out wa.drew ((Mod.refl _ wa).drew)
 iterate 18 (
  refine wrd hS fun K hK=> ?_
  go_simp;refine hK _ ?_;clear hK K)
 refine wgo fun K hK=> ?_
 go_wp2_with fail
 refine (Ps.out wa.drew ((Mod.refl _ wa).drew)).mono ?_;rintro e w2 ⟨rfl,hp⟩;refine hK _ _ (fun h=>absurd h zd) ?_;clear hK K hS;refine wgo fun K hK=> ?_;(try simp only [zz1,zz2,zz3]);go_simp;refine hK _ _ (fun h=>absurd h zd) ?_;clear hK K;refine p8 ?_;refine hh1 hp fun Hp=> ?_;clear hp
 go_wp2_with fail
 go_ret;exact ⟨rfl,Hp.out⟩
end
end
open Go.RowKit
structure b4X (w:World) (ow:Ow) (b o:Nat) (e:TypeId) (cs:List Value):Prop where
 row:w.heap[b]? =some (.cells cs.toArray e (0,0))
 tag:ow b=o
theorem b4X.cell {w:World} {ow:Ow} {b o:Nat} {e:TypeId} {cs:List Value} (h:b4X w ow b o e cs) {i:Nat} {v:Value} (hi:cs[i]? =some v):w.cell? ⟨b,i,none⟩=some v:=(cell_of_row w b i _ _ _ h.row).trans (by simpa using hi)
theorem Bro.log0 {w:World} {ow:Ow} {c g:Nat} {id:Int} {near:List Int} {B:BS} (h:Bro w ow c g id near B):∃la lc,w.cell? ⟨g,0,none⟩=some (.slice la B.L.length lc):=by
 obtain ⟨a,h⟩:=h;obtain ⟨L,aQ,mh⟩:=h.log;have fG:L.length=B.L.length:=by rw [<-mh,zz10]
 obtain ⟨av,acap,kJ, -⟩:∃a' cc,a.v= .slice a' L.length cc/\L.length<=cc:=by obtain ⟨-,a,cc,h,h2, -⟩:=aQ.sl.sl.rd;exact ⟨a,cc,h,h2⟩
 refine ⟨av,acap, ?_⟩;rw [<-fG,<-kJ];exact d6 aQ.row rfl
theorem b53 (x:Nv):∀u∈x.cells,u.oneCell'=true:=fun u hu=>by
 simp only [Nv.cells,List.mem_cons,List.not_mem_nil,or_false] at hu;rcases hu with rfl|rfl|rfl|rfl|rfl|rfl|rfl<;>rfl
theorem b54 (x:Pv):∀u∈x.cells,u.oneCell'=true:=fun u hu=>by
 simp only [Pv.cells,List.mem_cons,List.not_mem_nil,or_false] at hu;rcases hu with rfl|rfl|rfl|rfl|rfl|rfl<;>rfl
theorem b55:B7 Tryz.prog 52 63 7 88:=I8 zk zk
theorem b56:B7 Tryz.prog 51 67 6 80:=I8 zk zk
end Go.Proofs.YtdmjoodhaeijmaaGreatDoor
