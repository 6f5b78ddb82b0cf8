/- Lemmas. -/
import Derived.Test.YtdmjoodhaeijmaaGreatDoorZn0
import Derived.WalkKit
import Derived.Deep.RegionLaw
import Derived.Deep.QuietTactic
import Derived.Deep.RegionHeld3
import Derived.Test.YtdmjoodhaeijmaaGreatDoorProg
import Derived.WalkSpells
import Derived.Handy
import Derived.WalkLawsBesides
import Derived.BigRegion
import Derived.BigQuiet
import Derived.Lib.Hide
import Derived.Laws.BytesArg
import Derived.Laws.Bits128
import Derived.Laws.Externs
import Derived.Laws.Tables
import Derived.Laws.StructEq
set_option maxHeartbeats 40000000
set_option maxRecDepth 20000
namespace Go.Proofs.YtdmjoodhaeijmaaGreatDoor
open Go.RowKit
structure Mod (F:Nat->Prop) (w w':World):Prop where
 os:w'.os=w.os
 tape:w'.tape=w.tape
 output:w'.output=w.output
 size:w.heap.size<=w'.heap.size
 block:∀k,k<w.heap.size->¬F k->w'.heap[k]? =w.heap[k]?
namespace Mod
variable {F G:Nat->Prop} {w w' w'':World}
theorem refl (F:Nat->Prop) (w:World):Mod F w w:=⟨rfl,rfl,rfl,Nat.le_refl _,fun _ _ _=>rfl⟩
theorem mono (h:Mod F w w') (Rl:∀k,k<w.heap.size->F k->G k):Mod G w w':=
 ⟨h.os,h.tape,h.output,h.size,fun k hk hn=>h.block k hk fun hf=>hn (Rl k hk hf)⟩
theorem trans (h:Mod F w w') (k:Mod G w' w'') (hG:∀b,b<w.heap.size->G b->F b):Mod F w w'':=
 ⟨k.os.trans h.os,k.tape.trans h.tape,k.output.trans h.output,Nat.le_trans h.size k.size,
  fun b hb hn=>(k.block b (zz13 hb h.size) fun hg=>hn (hG b hb hg)).trans (h.block b hb hn)⟩
theorem drew (h:Mod F w w'):Mod F w w'.drew:=⟨h.os,h.tape,h.output,h.size,h.block⟩
theorem drewN (h:Mod F w w') (n:Nat):Mod F w (w'.drewN n):=⟨h.os,h.tape,h.output,h.size,h.block⟩
theorem alloc (h:Mod F w w') (o:Obj):Mod F w (w'.alloc o):=
 ⟨h.os,h.tape,h.output,Nat.le_trans h.size (by simp),fun k hk hn=>(heap_alloc_old w' o (zz13 hk h.size)).trans (h.block k hk hn)⟩
theorem setCell (h:Mod F w w') {a:Addr} (ha:a.block<w.heap.size->F a.block) (v:Value):Mod F w (w'.setCell a v):=
 ⟨h.os,h.tape,h.output,by simpa using h.size,fun k hk hn=>(heap_setCell_other w' a k v (fun e=>hn (e▸ha (e▸hk)))).trans (h.block k hk hn)⟩
theorem setRow (h:Mod F w w') {g:Nat} (hg:g<w.heap.size->F g) (cs:Array Value):Mod F w (w'.setRow g cs):=
 ⟨h.os,h.tape,h.output,by simpa using h.size,fun k hk hn=>(setRow_other w' g k cs (fun e=>hn (e▸hg (e▸hk)))).trans (h.block k hk hn)⟩
theorem below (h:Mod F w w') {B:Nat} (hB:∀k,k<B->¬F k) (hBw:B<=w.heap.size):Below B w w':=
 ⟨h.os,h.tape,h.output,h.size,fun k hk=>h.block k zo (hB k hk)⟩
theorem of_below {B:Nat} (h:Below B w w'):Mod (fun k=>B<=k) w w':=⟨h.os,h.tape,h.output,h.size,fun k _ hn=>h.block k zo⟩
theorem cell (h:Mod F w w') {a:Addr} {v:Value} (hc:w.cell? a=some v) (hn:¬F a.block):w'.cell? a=some v:=
 (World.cell?_of_block (h.block a.block (World.block_lt_of_cell? w a hc) hn)).trans hc
theorem b6K (h:Mod F w w') {a:Addr} (hb:a.block<w.heap.size) (hn:¬F a.block):w'.frozen? a=w.frozen? a:=
 World.frozen?_of_block (h.block a.block hb hn)
theorem heap (h:Mod F w w') {k:Nat} {o:Obj} (hc:w.heap[k]? =some o) (hn:¬F k):w'.heap[k]? =some o:=
 (h.block k (zz7 hc).1 hn).trans hc
end Mod
theorem Mod.upon {F G:Nat->Prop} {w w' w'':World} (h:Mod F w w') (k:Mod G w' w'') (hG:∀b,G b->F b\/w.heap.size<=b):Mod F w w'':=
 h.trans k fun b hb hg=>(hG b hg).elim id fun h=>zo
def inBlock (v:Value) (k:Nat):Prop:=v.ownBlock=some k
def g7 (w:World) (e:TypeId) (sz:Nat) (v:Value) (n:Nat) (xs:List Value):Prop:=
 xs.length=n*sz/\
 ((v= .slice none 0 0/\n=0)\/
  ∃g off cap cur,v= .slice (some ⟨g,off,none⟩) n cap/\w.heap[g]? =some (.cells cur e (0,0))/\n<=cap/\cap<=maxLen/\off+cap*sz<=cur.size/\(cur.toList.drop off).take (n*sz)=xs)
def i8 (w:World) (sz:Nat) (v:Value) (n:Nat) (xs:List Value):Prop:=
 xs.length=n*sz/\∃a cap,v= .slice a n cap/\n<=cap/\(a=none->n=0)/\∀b,a=some b->0<n->∃g off,b=⟨g,off,none⟩/\∀j u,xs[j]? =some u->w.cell? ⟨g,off+j,none⟩=some u
theorem T3 (g off j:Nat):(⟨g,off,none⟩:Addr).add j=⟨g,off+j,none⟩:=by
 unfold Addr.add;split<;>simp_all
section
variable {w w':World} {e:TypeId} {sz:Nat} {v:Value} {n:Nat} {xs:List Value}
theorem g7.nil (w:World) (e:TypeId) (sz:Nat):g7 w e sz (.slice none 0 0) 0 []:=⟨by simp,.inl ⟨rfl,rfl⟩⟩
theorem g7.shape (h:g7 w e sz v n xs):∃a cap,v= .slice a n cap/\n<=cap:=by
 rcases h.2 with ⟨rfl,rfl⟩|⟨g,off,cap,cur,rfl,_,hn,_⟩
 ·exact ⟨none,0,rfl,Nat.le_refl _⟩
 exact ⟨_,cap,rfl,hn⟩
theorem g7.rd (h:g7 w e sz v n xs):i8 w sz v n xs:=by
 refine ⟨h.1, ?_⟩;rcases h.2 with ⟨rfl,rfl⟩|⟨g,off,cap,cur,rfl,hg,hn,_,_,ht⟩
 ·exact ⟨none,0,rfl,Nat.le_refl _,fun _=>rfl,fun b hb _=>(by cases hb)⟩
 refine ⟨_,cap,rfl,hn,fun hb=>(by cases hb),fun b hb _=> ?_⟩;cases hb
 refine ⟨g,off,rfl,fun j u hu=> ?_⟩;rw [cell_of_row w g (off+j) cur e (0,0) hg];rw [<-ht,List.getElem?_take] at hu;split at hu
 ·rw [List.getElem?_drop] at hu;simpa using hu
 ·cases hu
theorem g7.le (h:g7 w e sz v n xs):n<=maxLen:=by
 rcases h.2 with ⟨_,rfl⟩|⟨g,off,cap,cur,_,_,hn,hc,_⟩
 ·exact Nat.zero_le _
 omega
theorem g7.lt (h:g7 w e sz v n xs):∀k,v.ownBlock=some k->k<w.heap.size:=by
 intro k hk;rcases h.2 with ⟨rfl,_⟩|⟨g,off,cap,cur,rfl,hg,_⟩
 ·simp [Value.ownBlock] at hk
 simp [Value.ownBlock] at hk;subst hk;exact (zz7 hg).1
theorem g7.elem (h:g7 w e sz v n xs):∀k,v.ownBlock=some k->∃cur,w.heap[k]? =some (.cells cur e (0,0)):=by
 intro k hk;rcases h.2 with ⟨rfl,_⟩|⟨g,off,cap,cur,rfl,hg,_⟩
 ·simp [Value.ownBlock] at hk
 simp [Value.ownBlock] at hk;subst hk;exact ⟨cur,hg⟩
theorem g7.of_block (h:g7 w e sz v n xs) (hk:∀k,v.ownBlock=some k->w'.heap[k]? =w.heap[k]?):g7 w' e sz v n xs:=by
 refine ⟨h.1, ?_⟩;rcases h.2 with hn|⟨g,off,cap,cur,rfl,hg,rest⟩
 ·exact .inl hn
 exact .inr ⟨g,off,cap,cur,rfl,by rw [hk g (by simp [Value.ownBlock])];exact hg,rest⟩
theorem g7.mod {F:Nat->Prop} (h:g7 w e sz v n xs) (hm:Mod F w w') (hd:∀k,v.ownBlock=some k->¬F k):g7 w' e sz v n xs:=
 h.of_block fun k hk=>hm.block k (h.lt k hk) (hd k hk)
theorem g7.setCell (h:g7 w e sz v n xs) {a:Addr} (ha:¬inBlock v a.block) (u:Value):g7 (w.setCell a u) e sz v n xs:=
 h.of_block fun k hk=>heap_setCell_other w a k u fun e=>ha (e▸hk)
theorem g7.alloc (h:g7 w e sz v n xs) (o:Obj):g7 (w.alloc o) e sz v n xs:=h.mod ((Mod.refl (fun _=>False) w).alloc o) (by simp)
theorem g7.drew (h:g7 w e sz v n xs):g7 w.drew e sz v n xs:=h
theorem g7.drewN (h:g7 w e sz v n xs) (k:Nat):g7 (w.drewN k) e sz v n xs:=h
theorem g7.tail {a:Option Addr} {cap:Nat} (h:g7 w e sz (.slice a (n+1) cap) (n+1) xs):∃g off,a=some ⟨g,off,none⟩/\1<=cap/\
 g7 w e sz (.slice (some ⟨g,if cap=1 then off else off+sz,none⟩) n (cap - 1)) n (xs.drop sz):=by
 rcases h.2 with ⟨h1,h2⟩|⟨g,off,cap',cur,hv,hg,hn,hc,hs,ht⟩
 ·omega
 ·cases hv
  refine ⟨g,off,rfl,zo, ?_,.inr ⟨g,_,_,cur,rfl,hg,zo,zo, ?_, ?_⟩⟩
  ·rw [List.length_drop,h.1,Nat.add_mul];omega
  ·by_cases h1:cap=1
   ·subst h1;simp;omega
   rw [if_neg h1]
   have:off+sz+(cap - 1)*sz=off+cap*sz:=by
    obtain ⟨c,rfl⟩:∃c,cap=c+1:=⟨cap - 1,zo⟩;simp [Nat.add_mul];omega
   omega
  rw [<-ht];by_cases h1:cap=1
  ·have:n=0:=zo
   subst this;simp
  rw [if_neg h1,Nat.add_mul,List.drop_take,List.drop_drop];congr 1;omega
theorem i8.firstCells (P:Program) (h:i8 w sz v n xs):(Builtin.firstCells sz n v).run P w= .ok xs.toArray w:=by
 obtain ⟨hl,a,cap,rfl,_,hn,hc⟩:=h
 cases a with
 |none=>
  have:=hn rfl;subst this;have:xs=[]:=List.eq_nil_of_length_eq_zero (by simpa using hl);subst this;exact run_firstCells_none (P:=P) w sz 0 0 cap
 | some b=>
  rcases Nat.eq_zero_or_pos n with h0|h0
  ·subst h0;have:xs=[]:=List.eq_nil_of_length_eq_zero (by simpa using hl);subst this;exact run_firstCells_some (P:=P) w sz 0 b 0 cap [] (by simp) fun j u hu=>by simp at hu
  obtain ⟨g,off,hb,hc'⟩:=hc b rfl h0;subst hb;exact run_firstCells_some (P:=P) w sz n ⟨g,off,none⟩ n cap xs hl fun j u hu=>by rw [T3];exact hc' j u hu
theorem i8.mod {w w':World} {F:Nat->Prop} {sz:Nat} {v:Value} {n:Nat} {xs:List Value} (h:i8 w sz v n xs) (hm:Mod F w w') (hd:∀b,v.ownBlock=some b->¬F b):i8 w' sz v n xs:=by
 obtain ⟨h1,a,c,rfl,h3,h4,h5⟩:=h;refine ⟨h1,a,c,rfl,h3,h4,fun b hb hn=> ?_⟩;obtain ⟨g,off,h6,h7⟩:=h5 b hb hn;refine ⟨g,off,h6,fun j u hu=>hm.cell (h7 j u hu) (hd g ?_)⟩;rw [hb,h6];rfl
theorem W6 {P:Program} (w:World) (t ty e:TypeId) (i:TypeInfo) (z:Value) (sz bytes:Nat) (ht:P.underlying t=some (.slice e)) (hi:P.info? e=some i) (hz:i.zero=some z)
 (hsize:i.size=sz) (hby:i.bytes=bytes) (hzs:z.cells.size=sz)
 (v:Value) (n:Nat) (xs:List Value) (hown:g7 w e sz v n xs) (x:Value) (m:Nat) (news:List Value) (hx:i8 w sz x m news) (h1:∀u∈news,u.oneCell'=true)
 (hbytes:(n+m)*bytes<=140737488355328) (hmax:n+m<=maxLen):
 ∃v' w',(Builtin.append_ #[t,t] ty #[v,x]).run P w= .ok v' w'/\g7 w' e sz v' (n+m) (xs++news)/\Mod (inBlock v) w w'/\
  (v'.ownBlock=v.ownBlock\/∃k,v'.ownBlock=some k/\w.heap.size<=k):=by
 subst hsize hby;have hf:=hx.firstCells P;have hlen:(xs++news).length=(n+m)*i.size:=by rw [zz4,hown.1,hx.1,Nat.add_mul]
 obtain ⟨xl,ax,cx,rfl,WJ,Rm,hxa⟩:=hx
 have grown:∀old,∃w',w'=w.drew.alloc (.cells (xs.toArray++news.toArray++Builtin.zeroCells z.cells (grownCap w (n+m) old e - (n+m))) e)/\
  g7 w' e i.size (.slice (some ⟨w.heap.size,0,none⟩) (n+m) (grownCap w (n+m) old e)) (n+m) (xs++news)/\Mod (inBlock v) w w':=by
  intro old;have hge:=grownCap_ge w (n+m) old e;have hcm:grownCap w (n+m) old e<=maxLen:=grownCap_le_maxLen w (n+m) old e hmax;refine ⟨_,rfl,⟨hlen,.inr ⟨w.heap.size,0,_,_,rfl,heap_alloc_new w.drew _,hge,hcm, ?_, ?_⟩⟩,((Mod.refl _ w).drew).alloc _⟩
  ·simp only [Array.size_append,List.size_toArray,size_zeroCells,hzs,hown.1,xl,<-Nat.add_mul];rw [Nat.zero_add];exact Nat.mul_le_mul_right _ zo
  simp only [Array.toList_append,zz12,List.drop_zero];rw [<-zz12,<-hlen];exact List.take_left
 have old_of:∀a cap,v= .slice a n cap->cap<n+m->∃w',(Builtin.append_ #[t,t] ty #[v,.slice ax m cx]).run P w= .ok (.slice (some ⟨w.heap.size,0,none⟩) (n+m) (grownCap w (n+m) cap e)) w'/\
  w'=w.drew.alloc (.cells (xs.toArray++news.toArray++Builtin.zeroCells z.cells (grownCap w (n+m) cap e - (n+m))) e):=by
  intro a cap hv hcap;refine ⟨_, ?_,rfl⟩
  have hax:∃g off,ax=some ⟨g,off,none⟩/\∀j u,news[j]? =some u->w.cell? ⟨g,off+j,none⟩=some u:=by
   cases ax with
   |none=>
    have:=Rm rfl;obtain ⟨a',cap',hv',hle⟩:=hown.shape;rw [hv] at hv';cases hv';omega
   | some b=>
    obtain ⟨g,off,rfl,h⟩:=hxa b rfl (by
     obtain ⟨a',cap',hv',hle⟩:=hown.shape
     rw [hv] at hv';cases hv';omega)
    exact ⟨g,off,rfl,h⟩
  obtain ⟨g,off,rfl,hc⟩:=hax;have hnews:∀j u,news[j]? =some u->w.cell? ((⟨g,off,none⟩:Addr).add j)=some u:=fun j u hu=>by rw [T3];exact hc j u hu
  rcases hown.2 with ⟨hv',rfl⟩|⟨g',off',cap',cur,hv',hg,hnc,hcm,hs,htk⟩
  ·rw [hv'] at hv;cases hv;have hxs:xs=[]:=List.eq_nil_of_length_eq_zero (by simpa using hown.1);subst hxs;rw [hv'];simp only [Nat.zero_add,Array.empty_append] at hbytes hmax⊢;exact run_append_nil (P:=P) w t ty e i z ht hi hz _ m cx news xl hnews zo (by simp only [maxLen] at hmax;omega) zo
  rw [hv'] at hv;cases hv;rw [hv'];have hrd:=hown.rd;obtain ⟨_,a2,c2,hv2,_,_,hcc⟩:=hrd;rw [hv'] at hv2;cases hv2;rcases Nat.eq_zero_or_pos n with h0|h0
  ·subst h0;have hxs:xs=[]:=List.eq_nil_of_length_eq_zero (by simpa using hown.1);subst hxs;exact run_append_grow (P:=P) w t ty e i z ht hi hz ⟨g',off',none⟩ 0 cap [] (by simp) (fun j u hu=>by simp at hu) _ m cx news xl hnews hcap (by simp only [maxLen] at hmax;omega) (growslice_fits hcap hbytes)
  obtain ⟨g2,off2,he,hcc⟩:=hcc _ rfl h0;cases he
  exact run_append_grow (P:=P) w t ty e i z ht hi hz ⟨g',off',none⟩ n cap xs hown.1 (fun j u hu=>by rw [T3];exact hcc j u hu) _ m cx news xl hnews hcap (by simp only [maxLen] at hmax;omega) (growslice_fits hcap hbytes)
 by_cases hroom:∃a cap,v= .slice a n cap/\n+m<=cap
 ·obtain ⟨a,cap,hv,hroom⟩:=hroom;rcases hown.2 with ⟨hv',rfl⟩|⟨g,off,cap',cur,hv',hg,hnc,hcm,hs,htk⟩
  ·rw [hv'] at hv;cases hv;have hm:m=0:=zo
   subst hm;have hxs:xs=[]:=List.eq_nil_of_length_eq_zero (by simpa using hown.1);have hns:news=[]:=List.eq_nil_of_length_eq_zero (by simpa using xl);subst hxs hns hv';refine ⟨.slice none 0 0,w, ?_,g7.nil w e i.size,Mod.refl _ _,.inl rfl⟩;simp [Builtin.append_,run_underlying ht,sizeOf,typeInfo,hi,Builtin.lenOf,hf]
  rw [hv'] at hv;cases hv;subst hv'
  have hfit:off+n*i.size+news.length<=cur.size:=by
   rw [xl];have:(n+m)*i.size<=cap*i.size:=Nat.mul_le_mul_right _ hroom;rw [Nat.add_mul] at this;omega
  have hst:=run_storeCells_at P g (off+n*i.size) e news 0 cur w hg (by simpa using hfit) h1;simp only [Nat.add_zero] at hst
  refine ⟨.slice (some ⟨g,off,none⟩) (n+m) cap,w.setRow g (cur.toList.take (off+n*i.size)++news++cur.toList.drop (off+n*i.size+news.length)).toArray, ?_,
   ⟨hlen,.inr ⟨g,off,cap,_,rfl,setRow_heap w g cur _ e _ hg,hroom,hcm, ?_, ?_⟩⟩,(Mod.refl (inBlock (.slice (some ⟨g,off,none⟩) n cap)) w).setRow (g:=g) (fun _=>by simp [inBlock,Value.ownBlock]) _,.inl rfl⟩
  ·simp [Builtin.append_,run_underlying ht,sizeOf,typeInfo,hi,Builtin.lenOf,hroom,hf,T3,hst]
  ·simp only [List.size_toArray,zz4,List.length_take,List.length_drop,Array.length_toList];omega
  have hcl:off+n*i.size<=cur.toList.length:=by rw [Array.length_toList];omega
  have e1:List.drop off (List.take (off+n*i.size) cur.toList)=xs:=by
   rw [List.drop_take,show off+n*i.size - off=n*i.size from zo];exact htk
  rw [zz12,List.drop_append_of_le_length (by rw [List.length_take];omega),e1,<-zz12,<-hlen];exact List.take_left
 obtain ⟨a,cap,hv,hle⟩:=hown.shape
 obtain ⟨w',hr,hw'⟩:=old_of a cap hv (by
  rcases Nat.lt_or_ge cap (n+m) with h|h
  ·exact h
  ·exact absurd ⟨a,cap,hv,h⟩ hroom)
 obtain ⟨w'',hw'',h2,h3⟩:=grown cap;rw [<-hw'] at hw'';subst hw'';exact ⟨_,_,hr,h2,h3,.inr ⟨w.heap.size,rfl,Nat.le_refl _⟩⟩
def B7 (P:Program) (t e:TypeId) (sz bytes:Nat):Prop:=
 P.underlying t=some (.slice e)/\∃i z,P.info? e=some i/\i.zero=some z/\i.size=sz/\i.bytes=bytes/\z.cells.size=sz
theorem I8 {P:Program} {t e:TypeId} {sz bytes:Nat} (ht:P.underlying t=some (.slice e)) (hi:(P.info? e).map (fun i=>(i.zero.map (·.cells.size),i.size,i.bytes))=some (some sz,sz,bytes)):B7 P t e sz bytes:=by
 refine ⟨ht, ?_⟩
 cases hq:P.info? e with
 |none=>simp [hq] at hi
 |some i=>
  simp only [hq,Option.map_some,Option.some.injEq,Prod.mk.injEq] at hi;obtain ⟨h1,h2,h3⟩:=hi
  cases hz:i.zero with
  |none=>simp [hz] at h1
  |some z=>exact ⟨i,z,rfl,hz,h2,h3,by simpa [hz] using h1⟩
def B9 (w:World) (e:TypeId) (sz:Nat) (v:Value) (n:Nat) (xs:List Value) (v':Value) (w':World):Prop:=
 g7 w' e sz v' n xs/\Mod (inBlock v) w w'/\(v'.ownBlock=v.ownBlock\/∃k,v'.ownBlock=some k/\w.heap.size<=k)
theorem a0w {P:Program} {ops:Array Oper} {o:Oper} {a:Act} {w:World} {K:Act->World->Prop} {Q:Exit->Act->World->Prop} {E:Prop}
 (hgd:o.guard=none) (s y:Operand) (t:TypeId) (hop:o.op=Op.call {callee:=Callee.builtin Builtin.append,args:=#[s,y],argTypes:=#[t,t]})
 (e:TypeId) (sz bytes:Nat) (hT:B7 P t e sz bytes)
 (v:Value) (n:Nat) (xs:List Value) (hs:a.eval s=v) (hown:g7 w e sz v n xs) (x:Value) (m:Nat) (news:List Value) (hy:a.eval y=x) (hx:i8 w sz x m news) (h1:∀u∈news,u.oneCell'=true)
 (hbytes:(n+m)*bytes<=140737488355328) (hmax:n+m<=maxLen)
 (hK:∀ad cap w',B9 w e sz v (n+m) (xs++news) (.slice ad (n+m) cap) w'->K (a.put o.dst (.slice ad (n+m) cap)) w'):
 if Region.wanted o (yielded ops a.tmps)=true then Oper.wp P o a w K Q else E:=by
 have hw:Region.wanted o (yielded ops a.tmps)=true:=by simp [Region.wanted,hgd]
 rw [if_pos hw];obtain ⟨ht,i0,z,hi,hz0,hz1,hz2,hzs⟩:=hT;obtain ⟨v',w',hrun,r1,r2,r3⟩:=W6 (P:=P) w t o.type e i0 z sz bytes ht hi hz0 hz1 hz2 hzs v n xs hown x m news hx h1 hbytes hmax;unfold Oper.wp;simp [execOp,hop,resolve,invoke,builtin,hs,hy,hrun,Result.andThen];obtain ⟨ad,cap,rfl,_⟩:=r1.shape;exact hK ad cap w' ⟨r1,r2,r3⟩
theorem t7 {P:Program} {ops:Array Oper} {rest:List Oper} {o:Oper} {a:Act} {w:World} {Q:Exit->Act->World->Prop}
 (hgd:o.guard=none) (s y:Operand) (t:TypeId) (hop:o.op=Op.call {callee:=Callee.builtin Builtin.append,args:=#[s,y],argTypes:=#[t,t]})
 (e:TypeId) (sz bytes:Nat) (hT:B7 P t e sz bytes)
 (v:Value) (n:Nat) (xs:List Value) (hs:a.eval s=v) (hown:g7 w e sz v n xs) (x:Value) (m:Nat) (news:List Value) (hy:a.eval y=x) (hx:i8 w sz x m news) (h1:∀u∈news,u.oneCell'=true)
 (hbytes:(n+m)*bytes<=140737488355328) (hmax:n+m<=maxLen)
 (hK:∀ad cap w',B9 w e sz v (n+m) (xs++news) (.slice ad (n+m) cap) w'->wpList P ops Q rest (a.put o.dst (.slice ad (n+m) cap)) w'):wpList P ops Q (o::rest) a w:=by
 refine wpList_plain hgd fun K hK'=> ?_;obtain ⟨ht,i0,z,hi,hz0,hz1,hz2,hzs⟩:=hT;obtain ⟨v',w',hrun,r1,r2,r3⟩:=W6 (P:=P) w t o.type e i0 z sz bytes ht hi hz0 hz1 hz2 hzs v n xs hown x m news hx h1 hbytes hmax;unfold Oper.wp execOp;simp only [hop,resolve,invoke,builtin,Sem.run_bind,Sem.run_pure,Result.andThen_ok,List.map_toArray,List.map_cons,List.map_nil,hs,hy,hrun];obtain ⟨ad,cap,rfl,_⟩:=r1.shape;exact hK' _ _ (hK ad cap w' ⟨r1,r2,r3⟩)
end
def d8 (w:World) (g off:Nat) (cs:List Value):Prop:=∀j u,cs[j]? =some u->w.cell? ⟨g,off+j,none⟩=some u
section
variable {P:Program} {w:World}
theorem r5 (ty:TypeId) (g off:Nat) (cs:List Value) (h:d8 w g off cs)
 (hu:(match P.underlying ty with|some (.struct _)=>true|some (.array _ _)=>true|_=>false)=true) (hi:(P.info? ty).map (·.size)=some cs.length):
 (loadVar ty ⟨g,off,none⟩).run P w= .ok (.agg cs.toArray) w:=by
 have hl:=run_loadCells_list (P:=P) w ⟨g,off,none⟩ cs (fun j v hv=>by rw [T3];exact h j v hv)
 cases hq:P.info? ty with
 |none=>simp [hq] at hi
 | some i=>
  have hs:i.size=cs.length:=by simpa [hq] using hi
  have hagg:(isAgg ty).run P w= .ok true w:=by
   unfold isAgg
   cases hd:P.underlying ty with
   |none=>simp [hd] at hu
   |some d=>
    rw [Sem.run_bind,run_underlying hd w];rw [hd] at hu;cases d<;>simp_all
  simp [loadVar,Sem.run_bind,hagg,sizeOf,typeInfo,hq,hs,hl]
theorem a4a {o:Oper} {a:Act} {K:Act->World->Prop} {Q:Exit->Act->World->Prop} (ty:TypeId) (x:Operand) (ho:o.op= .load ty x)
 (g off:Nat) (hx:a.eval x= .pointer (some ⟨g,off,none⟩)) (cs:List Value) (hc:d8 w g off cs)
 (hu:(match P.underlying ty with|some (.struct _)=>true|some (.array _ _)=>true|_=>false)=true) (hi:(P.info? ty).map (·.size)=some cs.length)
 (h:K (a.put o.dst (.agg cs.toArray)) w):o.wp P a w K Q:=by
 unfold Oper.wp execOp;simp only [ho,hx,Instr.loadAt,Instr.sureAddr,Sem.run_bind,Sem.run_pure,Result.andThen_ok,r5 ty g off cs hc hu hi];exact h
theorem L6 {ops:Array Oper} {rest:List Oper} {o:Oper} {a:Act} {Q:Exit->Act->World->Prop} (hgd:o.guard=none) (ty:TypeId) (x:Operand) (ho:o.op= .load ty x)
 (g off:Nat) (hx:a.eval x= .pointer (some ⟨g,off,none⟩)) (cs:List Value) (hc:d8 w g off cs)
 (hu:(match P.underlying ty with|some (.struct _)=>true|some (.array _ _)=>true|_=>false)=true) (hi:(P.info? ty).map (·.size)=some cs.length)
 (h:wpList P ops Q rest (a.put o.dst (.agg cs.toArray)) w):wpList P ops Q (o::rest) a w:=
 wpList_plain hgd fun _ hK=>a4a ty x ho g off hx cs hc hu hi (hK _ _ h)
theorem d8.row {g:Nat} {cs:Array Value} {t:TypeId} (h:w.heap[g]? =some (.cells cs t (0,0))):d8 w g 0 cs.toList:=by
 intro j u hu;rw [Nat.zero_add,cell_of_row w g j cs t (0,0) h];simpa using hu
theorem d8.new (w:World) (cs:List Value) (t:TypeId):d8 (w.alloc (.cells cs.toArray t)) w.heap.size 0 cs:=by
 have:=d8.row (w:=w.alloc (.cells cs.toArray t)) (heap_alloc_new w _);simpa using this
theorem d8.mod {F:Nat->Prop} {w':World} {g off:Nat} {cs:List Value} (h:d8 w g off cs) (hm:Mod F w w') (hn:¬F g):d8 w' g off cs:=
 fun j u hu=>hm.cell (h j u hu) hn
theorem d8.old {g off:Nat} {cs:List Value} (h:d8 w g off cs) (o:Obj):d8 (w.alloc o) g off cs:=h.mod ((Mod.refl (fun _=>False) w).alloc o) (by simp)
theorem X4 (ty:TypeId) (g:Nat) (cur:Array Value) (t:TypeId) (cs:List Value) (hg:w.heap[g]? =some (.cells cur t (0,0))) (hl:cs.length=cur.size)
 (hi:(P.info? ty).map (·.size)=some cs.length) (h1:∀u∈cs,u.oneCell'=true):
 (storeVar ty ⟨g,0,none⟩ (.agg cs.toArray)).run P w= .ok () (w.setRow g cs.toArray):=by
 have hst:=run_storeCells_at P g 0 t cs 0 cur w hg zo h1
 cases hq:P.info? ty with
 |none=>simp [hq] at hi
 |some i=>
  have hs:i.size=cs.length:=by simpa [hq] using hi
  simp only [Nat.add_zero,Nat.zero_add,List.take_zero,List.nil_append,List.drop_of_length_le (show cur.toList.length<=cs.length by simp [hl]),zz11] at hst;simp [storeVar,Value.cells,sizeOf,typeInfo,hq,hs,hst]
theorem a7E (w:World) (cur:Array Value) (t:TypeId) (cs:Array Value):(w.alloc (.cells cur t)).setRow w.heap.size cs=w.alloc (.cells cs t):=by
 have h:(w.heap.push (Obj.cells cur t)).modify w.heap.size (fun| .cells _ e f=> .cells cs e f|o=>o)=w.heap.push (Obj.cells cs t):=by
  apply Array.ext_getElem?;intro i;rw [Array.getElem?_modify,Array.getElem?_push,Array.getElem?_push];by_cases hi:w.heap.size=i
  ·subst hi;simp
  simp only [hi,if_false];split<;>simp_all
 exact congrArg (fun hp=>{w with heap:=hp}) h
theorem a5l {o:Oper} {a:Act} {K:Act->World->Prop} {Q:Exit->Act->World->Prop} (ty:TypeId) (x y:Operand) (ho:o.op= .store ty x y)
 (hx:a.eval x= .pointer (some ⟨w.heap.size,0,none⟩)) (cur:Array Value) (t:TypeId) (cs:List Value) (hy:a.eval y= .agg cs.toArray) (hl:cs.length=cur.size)
 (hi:(P.info? ty).map (·.size)=some cs.length) (h1:∀u∈cs,u.oneCell'=true)
 (h:K (a.put o.dst undef) (w.alloc (.cells cs.toArray t))):o.wp P a (w.alloc (.cells cur t)) K Q:=by
 have hr:=X4 (P:=P) (w:=w.alloc (.cells cur t)) ty w.heap.size cur t cs (heap_alloc_new w _) hl hi h1;rw [a7E] at hr;unfold Oper.wp execOp;simp only [ho,hx,hy,Instr.storeAt,Instr.sureAddr,Sem.run_bind,Sem.run_pure,Result.andThen_ok,hr];exact h
theorem C5 {ops:Array Oper} {rest:List Oper} {o:Oper} {a:Act} {Q:Exit->Act->World->Prop} (hgd:o.guard=none) (ty:TypeId) (x y:Operand) (ho:o.op= .store ty x y)
 (hx:a.eval x= .pointer (some ⟨w.heap.size,0,none⟩)) (cur:Array Value) (t:TypeId) (cs:List Value) (hy:a.eval y= .agg cs.toArray) (hl:cs.length=cur.size)
 (hi:(P.info? ty).map (·.size)=some cs.length) (h1:∀u∈cs,u.oneCell'=true)
 (h:wpList P ops Q rest (a.put o.dst undef) (w.alloc (.cells cs.toArray t))):wpList P ops Q (o::rest) a (w.alloc (.cells cur t)):=
 wpList_plain hgd fun _ hK=>a5l ty x y ho hx cur t cs hy hl hi h1 (hK _ _ h)
end
def l4 (w:World) (g off n:Nat):Prop:=∀j,j<n->(w.cell? ⟨g,off+j,none⟩).isSome=true
def cellsOf (w:World) (g off n:Nat):Array Value:=((List.range n).map fun j=>(w.cell? ⟨g,off+j,none⟩).getD undef).toArray
theorem d8.all {w:World} {g off n:Nat} {cs:List Value} (h:d8 w g off cs) (hn:cs.length=n):l4 w g off n:=by
 intro j hj;rw [h j cs[j] (zz5 zo)];rfl
theorem d8.is {w:World} {g off n:Nat} {cs:List Value} (h:d8 w g off cs) (hn:cs.length=n):cellsOf w g off n=cs.toArray:=by
 unfold cellsOf;apply congrArg;apply List.ext_getElem?;intro j;by_cases hj:j<n
 ·rw [List.getElem?_map,List.getElem?_range hj];have:=h j cs[j] (zz5 zo);simp [this]
 rw [List.getElem?_eq_none (by simp;omega),List.getElem?_eq_none zo]
def a4b (w:World) (v:Value) (n:Nat):Prop:=∃g off,v= .pointer (some ⟨g,off,none⟩)/\l4 w g off n
def W7 (w:World) (v:Value) (n:Nat):Array Value:=
 match v with
 | .pointer (some ⟨g,off,none⟩)=>cellsOf w g off n
 |_=>#[]
@[go_sem] theorem b6H (w:World) (g off n:Nat):a4b w (.pointer (some ⟨g,off,none⟩)) n=l4 w g off n:=by
 apply propext;constructor
 ·rintro ⟨g',off',h,h'⟩;cases h;exact h'
 exact fun h=>⟨g,off,rfl,h⟩
@[go_sem] theorem a4x (w:World) (g off n:Nat):W7 w (.pointer (some ⟨g,off,none⟩)) n=cellsOf w g off n:=rfl
theorem l4.at {w:World} {g off n:Nat} (h:l4 w g off n):d8 w g off (cellsOf w g off n).toList:=by
 intro j u hu;unfold cellsOf at hu;have hj:j<n:=by have:=(zz6 hu).1;simpa using this
 rw [List.getElem?_map,List.getElem?_range hj] at hu;simp only [Option.map_some,Option.some.injEq] at hu;obtain ⟨v,hv⟩:=Option.isSome_iff_exists.1 (h j hj);rw [hv] at hu⊢;exact congrArg some hu
theorem a0x (w:World) (g off n:Nat):(cellsOf w g off n).toList.length=n:=by simp [cellsOf]
theorem a2o {P:Program} {ty n:Nat} (hu:(match P.underlying ty with|some (.struct _)=>true|some (.array _ _)=>true|_=>false)=true) (hi:(P.info? ty).map (·.size)=some n)
 {dst:Option Tmp} {x:Operand} {type:TypeId} {pos:String} {after:Array Edge} {guard:Option (Nat×Bool)} {a:Act} {w:World} {K:Act->World->Prop} {Q:Exit->Act->World->Prop} (h:a4b w (a.eval x) n):
 Oper.wp P ⟨dst,.load ty x,type,pos,after,guard⟩ a w K Q=K (a.put dst (.agg (W7 w (a.eval x) n))) w:=by
 obtain ⟨g,off,hx,h⟩:=h;have hr:=r5 (P:=P) ty g off _ h.at hu (by rw [a0x];exact hi);unfold Oper.wp execOp;simp only [hx,Instr.loadAt,Instr.sureAddr,Sem.run_bind,Sem.run_pure,Result.andThen_ok,hr,a4x];rfl
theorem L7 {P:Program} {ty n:Nat} (hu:(match P.underlying ty with|some (.struct _)=>true|some (.array _ _)=>true|_=>false)=true) (hi:(P.info? ty).map (·.size)=some n)
 {ρ:Operand->Value} {dst:Option Tmp} {x:Operand} {type:TypeId} {pos:String} {after:Array Edge} {guard:Option (Nat×Bool)} {w:World} (h:a4b w (ρ x) n):
 Sem.run P (execOp ρ ⟨dst,.load ty x,type,pos,after,guard⟩) w= .ok (.value (.agg (W7 w (ρ x) n))) w:=by
 obtain ⟨g,off,hx,h⟩:=h;have hr:=r5 (P:=P) ty g off _ h.at hu (by rw [a0x];exact hi);unfold execOp;simp only [hx,Instr.loadAt,Instr.sureAddr,Sem.run_bind,Sem.run_pure,Result.andThen_ok,hr,a4x]
@[go_sem] theorem b3t (w:World) (g off n:Nat):l4 w.drew g off n=l4 w g off n:=rfl
@[go_sem] theorem b3W (w:World) (g off n:Nat):cellsOf w.drew g off n=cellsOf w g off n:=rfl
@[go_sem] theorem b1r (w:World) (k g off n:Nat):l4 (w.drewN k) g off n=l4 w g off n:=rfl
@[go_sem] theorem b3u (w:World) (k g off n:Nat):cellsOf (w.drewN k) g off n=cellsOf w g off n:=rfl
theorem i8.one (w:World) (cs:List Value) (t:TypeId) {sz:Nat} (h:cs.length=sz):i8 (w.alloc (.cells cs.toArray t)) sz (.slice (some ⟨w.heap.size,0,none⟩) 1 1) 1 cs:=
 ⟨zo,_,_,rfl,Nat.le_refl _,fun h=>(by cases h),fun b hb _=>⟨w.heap.size,0,by cases hb;rfl,d8.new w cs t⟩⟩
theorem i8.oneD (w:World) (cs:List Value) (t:TypeId) {sz:Nat} (h:cs.length=sz):i8 (w.alloc (.cells cs.toArray t)).drew sz (.slice (some ⟨w.heap.size,0,none⟩) 1 1) 1 cs:=i8.one w cs t h
theorem d6 {w:World} {g j:Nat} {cs:Array Value} {t:TypeId} {fr:Nat×Nat} {v:Value} (hg:w.heap[g]? =some (.cells cs t fr)) (hj:cs[j]? =some v):w.cell? ⟨g,j,none⟩=some v:=(cell_of_row w g j cs t fr hg).trans hj
theorem r9 {w:World} {g j:Nat} {cs:Array Value} {t:TypeId} (hg:w.heap[g]? =some (.cells cs t (0,0))):w.frozen? ⟨g,j,none⟩=false:=frozen_of_row w g j cs t hg
theorem j6 {w:World} {g i:Nat} {cs:Array Value} {t:TypeId} {v:Value} (hg:w.heap[g]? =some (.cells cs t (0,0))):(w.setCell ⟨g,i,none⟩ v).heap[g]? =some (.cells (cs.setIfInBounds i v) t (0,0)):=heap_setCell_same w g i cs t v hg
theorem a1e {w:World} {g:Nat} {x:Obj} (h:w.heap[g]? =some x) (n:Nat):(w.drewN n).heap[g]? =some x:=h
theorem a3s {w:World} {g:Nat} {x:Obj} (h:w.heap[g]? =some x):w.drew.heap[g]? =some x:=h
theorem J1 {w:World} {g:Nat} {o x:Obj} (h:w.heap[g]? =some x):(w.alloc o).heap[g]? =some x:=
 (heap_alloc_old w o (zz7 h).1).trans h
theorem P8:∀(l:List Value) (k:Nat) (A:Array Value),k+l.length<=A.size->
 (l.zipIdx k).foldl (fun cs x=>cs.setIfInBounds x.2 x.1) A=(A.toList.take k++l++A.toList.drop (k+l.length)).toArray
 |[],k,A,h=>by simp
 |v::l,k,A,h=>by
  simp only [zz9] at h;have hk:k<A.size:=zo
  simp only [List.zipIdx_cons,List.foldl_cons];rw [P8 l (k+1) (A.setIfInBounds k v) (by simp;omega)];apply congrArg;simp only [Array.toList_setIfInBounds,zz9,zz12];rw [List.take_succ_eq_append_getElem (by simpa using hk)];simp only [List.getElem_set_self,zz12,List.cons_append,List.nil_append];rw [List.take_set_of_le (Nat.le_refl k),List.drop_set_of_lt zo];rw [show k+(l.length+1)=k+1+l.length by omega]
theorem a1f (l:List Value) (A:Array Value) (h:A.size=l.length):l.zipIdx.foldl (fun cs x=>cs.setIfInBounds x.2 x.1) A=l.toArray:=by
 rw [P8 l 0 A zo];simp [List.drop_of_length_le (show A.toList.length<=l.length by simp [h])]
theorem a4c (off:Nat) (l:List Value) (A:Array Value) (h:off+l.length<=A.size):
 l.zipIdx.foldl (fun cs x=>cs.setIfInBounds (off+x.2) x.1) A=(A.toList.take off++l++A.toList.drop (off+l.length)).toArray:=by
 rw [<-P8 l off A h]
 have:∀(l:List Value) (k j:Nat) (A:Array Value),(l.zipIdx j).foldl (fun cs x=>cs.setIfInBounds (k+x.2) x.1) A=(l.zipIdx (k+j)).foldl (fun cs x=>cs.setIfInBounds x.2 x.1) A:=by
  intro l
  induction l with
  |nil=>intro k j A;rfl
  |cons v l ih=>intro k j A;simp only [List.zipIdx_cons,List.foldl_cons];rw [ih];rfl
 exact this l off 0 A
theorem g6 (w:World) (o:Obj):∃w':World,w.alloc o=w'/\Mod (fun _=>False) w w'/\w'.heap[w.heap.size]? =some o/\w'.heap.size=w.heap.size+1:=
 ⟨_,rfl,(Mod.refl (fun _=>False) w).alloc o,heap_alloc_new w o,by simp⟩
end Go.Proofs.YtdmjoodhaeijmaaGreatDoor
namespace Go.Proofs.YtdmjoodhaeijmaaGreatDoor
open Go.RowKit
def u8s (bs:List UInt8):List Value:=bs.map fun b=> .int .u8 (b.toNat:Int)
theorem Z1 (bs:List UInt8):(u8s bs).length=bs.length:=by simp [u8s]
section
variable {w w':World} {r G:Nat} {bs:List UInt8} {v:Value}
end
def str (bs:List UInt8):ByteArray:=⟨bs.toArray⟩
theorem b1s (bs:List UInt8):strOfNums (bs.map fun b=>(b.toNat:Int))=str bs:=by
 unfold strOfNums str;congr 1;apply congrArg;rw [List.map_map]
 conv=>rhs;rw [<-List.map_id bs]
 exact List.map_congr_left fun b _=>by simp
theorem a7F {w:World} {G off n cap:Nat} {bs:List UInt8} (hn:bs.length=n) (hc:∀j (u:UInt8),bs[j]? =some u->w.cell? ⟨G,off+j,none⟩=some (.int .u8 (u.toNat:Int))):
 (convert 76 9 (.slice (some ⟨G,off,none⟩) n cap)).run Tryz.prog w= .ok (.string (str bs)) w:=by
 rw [<-b1s];refine run_convert_bytes_arg w 76 5 Tryz.underlying76 Tryz.underlying5 G off n cap _ (by simpa using hn) (fun i hi=> ?_) 9 Tryz.underlying9;have hb:bs[i]? =some bs[i]:=zz5 zo;rw [hc i _ hb];simp [List.getD,hb]
theorem b1t {w:World} {n cap:Nat}:(convert 76 9 (.slice none n cap)).run Tryz.prog w= .ok (.string (str [])) w:=
 run_convert_bytes_nil w 76 5 Tryz.underlying76 Tryz.underlying5 n cap 9 Tryz.underlying9
end Go.Proofs.YtdmjoodhaeijmaaGreatDoor
namespace Go.Proofs.YtdmjoodhaeijmaaGreatDoor
open Go.RowKit
def fEq (x y:Nat):Bool:=FloatKind.f64.format.order x y==some .eq
def fLt (x y:Nat):Bool:=FloatKind.f64.format.order x y==some .lt
def b3X:Nat:=9221120237041090561
def m8 (x:Nat):Nat:=if fEq x x then (if fEq x 0 then 0 else x) else b3X
def a3t (x:Nat):Nat:=if fEq (m8 x) (m8 x) then (if m8 x<2^63 then m8 x+2^63 else 2^64 - 1 - m8 x) else 2^64 - 1
theorem a9C (t:TypeId) (x y:Nat) (w:World):(binOp .neq t (.float .f64 x) (.float .f64 y)).run Tryz.prog w= .ok (.bool (!fEq x y)) w:=by
 simp [binOp,Op.floatCmp,fEq,bne]
@[go_sem high] theorem b6W (x:Int):Op.shift .shr .u64 x .u64 63=pure (.int .u64 (x / 9223372036854775808)):=by
 have h:(2:Int)^min (63:Int).toNat IntKind.u64.bits=9223372036854775808:=zd
 rw [shift_shr_any _ _ _ _ zd,h]
@[go_sem high] theorem b6X (n:Int):Op.unary .xor (.int .u64 n)=pure (.int .u64 (bits .xor .u64 18446744073709551615 n)):=by
 rw [unary_xor];rfl
theorem a8L {a:Nat} (h:a<2^64):(BitVec.ofInt 64 (a:Int)).toNat=a:=by rw [BitVec.toNat_ofInt];omega
theorem b3Y {a:Nat} (ha:a<2^64):bits .xor .u64 18446744073709551615 (a:Int)=((2^64 - 1 - a:Nat):Int):=by
 show IntKind.u64.wrap ((BitVec.ofInt 64 18446744073709551615^^^BitVec.ofInt 64 (a:Int)).toNat:Int)=_;have h1:BitVec.ofInt 64 18446744073709551615=BitVec.allOnes 64:=zd
 rw [h1,BitVec.allOnes_xor,BitVec.toNat_not,a8L ha,IntKind.wrap_u64];omega
theorem b1u {a:Nat} (ha:a<2^63):bits .or .u64 (a:Int) 9223372036854775808=((a+2^63:Nat):Int):=by
 have h2:(BitVec.ofInt 64 9223372036854775808).toNat=2^63*1:=zd
 have key:(BitVec.ofInt 64 (a:Int)|||BitVec.ofInt 64 9223372036854775808).toNat=a+2^63:=by
  rw [BitVec.toNat_or,h2,a8L zo,Nat.or_comm,<-Nat.two_pow_add_eq_or_of_lt ha];omega
 show IntKind.u64.wrap ((BitVec.ofInt 64 (a:Int)|||BitVec.ofInt 64 9223372036854775808).toNat:Int)=_;rw [key,IntKind.wrap_u64];omega
theorem a4d (n:Int) (w:World):(callFunc 211 #[.int .u64 n]).run Tryz.prog w= .ok (.value (.float .f64 n.toNat)) w:=by
 rw [run_callFunc_extern Tryz.func211 zk zk zk (e:=Extern.MathFloatBits.float64frombits) zk _ w];rfl
theorem a9D (x:Nat) (w:World):(callFunc 251 #[.float .f64 x]).run Tryz.prog w= .ok (.value (.int .u64 x)) w:=by
 rw [run_callFunc_extern Tryz.func251 zk zk zk (e:=Extern.MathFloatBits.float64bits) zk _ w];rfl
theorem b5D (w:World):Calls Tryz.prog 187 #[] w fun e w'=>e= .returned (.float .f64 b3X)/\w'=w:=by
 have h:=a4d 9221120237041090561 w
 go_enter Tryz.func187,Tryz.ntmps187
 go_wp2
 go_ret;exact ⟨rfl,rfl⟩
theorem b3Z (x:Nat) (w:World):Calls Tryz.prog 197 #[.float .f64 x] w fun e w'=>e= .returned (.bool (!fEq x x))/\w'=w:=by
 have h1:=a9C 94 x x
 go_enter Tryz.func197,Tryz.ntmps197
 go_wp2
 go_ret;exact ⟨rfl,rfl⟩
theorem b30 (x y:Nat) (w:World):Calls Tryz.prog 196 #[.float .f64 x,.float .f64 y] w fun e w'=>e= .returned (.bool (fLt x y))/\w'=w:=by
 go_enter Tryz.func196,Tryz.ntmps196
 go_wp2
 go_ret;exact ⟨rfl,rfl⟩
theorem a3u (x:Nat) (w:World):Calls Tryz.prog 158 #[.float .f64 x] w fun e w'=>e= .returned (.float .f64 (m8 x))/\w'=w:=by
 have Hn:=Lib.hid (b5D w);unfold m8 fEq
 cases hx:FloatKind.f64.format.order x x==some .eq with
 |false=>
  have hx':(FloatKind.f64.format.order x x !=some .eq)=true:=by rw [bne,hx];rfl
  go_enter Tryz.func158,Tryz.ntmps158
  go_wp2_with fail
  refine Hn.out.mono ?_;rintro e w1 ⟨rfl,rfl⟩
  go_wp2
  go_ret;exact ⟨rfl,rfl⟩
 | true=>
  have hx':(FloatKind.f64.format.order x x !=some .eq)=false:=by rw [bne,hx];rfl
  cases h0:FloatKind.f64.format.order x 0==some .eq with
  |false=>
   go_enter Tryz.func158,Tryz.ntmps158
   go_wp2
   go_ret;exact ⟨rfl,rfl⟩
  |true=>
   go_enter Tryz.func158,Tryz.ntmps158
   go_wp2
   go_ret;exact ⟨rfl,rfl⟩
theorem a0R {x:Nat} (h:x<2^64):m8 x<2^64:=by
 unfold m8 b3X;split<;>(try split)<;>omega
theorem b1v (x:Nat) (hx:x<2^64) (w:World):Calls Tryz.prog 224 #[.float .f64 x] w fun e w'=>e= .returned (.int .u64 (a3t x:Nat))/\w'=w:=by
 have Hc:=Lib.hid (a3u x w);have hc:=a0R hx;have hK:a3t x=a3t x:=rfl
 conv at hK=>rhs;unfold a3t
 unfold fEq at hK
 generalize a3t x=K at*
 generalize m8 x=c at*
 have Hb:=Lib.hid (a9D c w)
 cases hcc:FloatKind.f64.format.order c c==some .eq with
 |false=>
  rw [hcc] at hK;have HK:=zh hK;clear hK;have hx':(FloatKind.f64.format.order c c !=some .eq)=true:=by rw [bne,hcc];rfl
  go_enter Tryz.func224,Tryz.ntmps224
  go_wp2_with fail
  refine Hc.out.mono ?_;rintro e w1 ⟨rfl,rfl⟩
  go_wp2
  go_ret;exact ⟨by rw [HK.out];rfl,rfl⟩
 | true=>
  rw [hcc,if_pos rfl] at hK;have HK:=zh hK;clear hK;have hx':(FloatKind.f64.format.order c c !=some .eq)=false:=by rw [bne,hcc];rfl
  have hc0:(c:Int)<18446744073709551616:=zo
  by_cases h63:c<2^63
  ·have he:((c:Int) / 9223372036854775808==1)=false:=by rw [beq_eq_false_iff_ne];omega
   have H0:=zh hc0;clear hc0;obtain ⟨GA,HC⟩:=zh2 h63 hc;clear h63 hc hx
   go_enter Tryz.func224,Tryz.ntmps224
   go_wp2_with fail
   refine Hc.out.mono ?_;rintro e w1 ⟨rfl,rfl⟩;have hb:=Hb.out
   go_wp2
   go_ret;rw [if_pos GA.out] at HK;exact ⟨by rw [HK.out];exact congrArg (fun z=>Ending.returned (.int .u64 z)) (b1u GA.out),rfl⟩
  have he:((c:Int) / 9223372036854775808==1)=true:=by rw [beq_iff_eq];omega
  have H0:=zh hc0;clear hc0;obtain ⟨GA,HC⟩:=zh2 h63 hc;clear h63 hc hx
  go_enter Tryz.func224,Tryz.ntmps224
  go_wp2_with fail
  refine Hc.out.mono ?_;rintro e w1 ⟨rfl,rfl⟩;have hb:=Hb.out
  go_wp2
  go_ret;rw [if_neg GA.out] at HK;exact ⟨by rw [HK.out];exact congrArg (fun z=>Ending.returned (.int .u64 z)) (b3Y HC.out),rfl⟩
end Go.Proofs.YtdmjoodhaeijmaaGreatDoor
namespace Go.Proofs.YtdmjoodhaeijmaaGreatDoor
open Go.RowKit
theorem O6 (w:World) (A B:Obj):((w.alloc A).alloc B).heap[w.heap.size+1]? =some B:=by
 have h:=heap_alloc_new (w.alloc A) B;have e:(w.alloc A).heap.size=w.heap.size+1:=by simp
 rwa [e] at h
section
variable {P:Program} {w:World}
theorem L8 {o:Oper} {a:Act} {K:Act->World->Prop} {Q:Exit->Act->World->Prop} (ty:TypeId) (x y:Operand) (ho:o.op= .store ty x y) (g:Nat)
 (hx:a.eval x= .pointer (some ⟨g,0,none⟩)) (cur:Array Value) (t:TypeId) (hg:w.heap[g]? =some (.cells cur t (0,0))) (cs:List Value) (hy:a.eval y= .agg cs.toArray) (hl:cs.length=cur.size)
 (hi:(P.info? ty).map (·.size)=some cs.length) (h1:∀u∈cs,u.oneCell'=true)
 (h:K (a.put o.dst undef) (w.setRow g cs.toArray)):o.wp P a w K Q:=by
 have hr:=X4 (P:=P) (w:=w) ty g cur t cs hg hl hi h1;unfold Oper.wp execOp;simp only [ho,hx,hy,Instr.storeAt,Instr.sureAddr,Sem.run_bind,Sem.run_pure,Result.andThen_ok,hr];exact h
theorem B3 {ops:Array Oper} {rest:List Oper} {o:Oper} {a:Act} {Q:Exit->Act->World->Prop} (hgd:o.guard=none) (ty:TypeId) (x y:Operand) (ho:o.op= .store ty x y) (g:Nat)
 (hx:a.eval x= .pointer (some ⟨g,0,none⟩)) (cur:Array Value) (t:TypeId) (hg:w.heap[g]? =some (.cells cur t (0,0))) (cs:List Value) (hy:a.eval y= .agg cs.toArray) (n:Nat) (hl:cs.length=n) (hl':cur.size=n)
 (hi:(P.info? ty).map (·.size)=some n) (h1:cs.all (·.oneCell')=true)
 (h:∀w',w'.heap[g]? =some (.cells cs.toArray t (0,0))->Mod (fun k=>k=g) w w'->wpList P ops Q rest (a.put o.dst undef) w'):wpList P ops Q (o::rest) a w:=by
 refine wpList_plain hgd fun _ hK=>L8 ty x y ho g hx cur t hg cs hy (hl.trans hl'.symm) (by rw [hi,hl]) (fun u hu=>zz15 h1 u hu) (hK _ _ (h _ (setRow_heap w g cur cs.toArray t (0,0) hg) ?_));exact (Mod.refl (fun k=>k=g) w).setRow (fun _=>rfl) _
theorem a4e {fn:Func} {p:Tmp} {ty:TypeId} (h:fn.results=#[.cell p ty]) (tmps:Array Value):(results fn tmps).run P w=((asAddr (tmps.getD p undef)).run P w).andThen fun a w₁=>(loadVar ty a).run P w₁:=by
 simp only [results,h];simp [Sem.run_bind,Result.andThen]
theorem y4 {fn:Func} {R:Ending->World->Prop} {a:Act} {p:Tmp} {ty:TypeId} (h:fn.results=#[.cell p ty]) (g:Nat) (hp:a.tmps.getD p undef= .pointer (some ⟨g,0,none⟩)) (cs:List Value) (hc:d8 w g 0 cs)
 (hu:(match P.underlying ty with|some (.struct _)=>true|some (.array _ _)=>true|_=>false)=true) (hi:(P.info? ty).map (·.size)=some cs.length) (hd:a.defers=[]) (hR:R (.returned (.agg cs.toArray)) w):bodyPost P fn R .ret a w:=by
 refine bodyPost_ret (v:= .agg cs.toArray) ?_ hd hR;rw [a4e h,hp];simp only [asAddr,Sem.run_pure,Result.andThen_ok];exact r5 ty g 0 cs hc hu hi
end
end Go.Proofs.YtdmjoodhaeijmaaGreatDoor
namespace Go.Proofs.YtdmjoodhaeijmaaGreatDoor
open Go.RowKit
structure V where
 kind:Int
 int:Int
 num:Nat
 text:ByteArray
 yes:Bool
def V.cells (v:V):List Value:=[.int .i64 v.kind,.int .i64 v.int,.float .f64 v.num,.string v.text,.bool v.yes]
def V.zero:V:=⟨0,0,0,⟨#[]⟩,false⟩
def V.right (v:V):Bool:=decide (0<=v.kind)&&(decide (v.kind<=3)&&decide (v.text.size<=40))
def V.canon (v:V):V:=
 if v.kind=0 then {V.zero with kind:=0,int:=v.int} else if v.kind=1 then {V.zero with kind:=1,num:=m8 v.num} else
 if v.kind=2 then {V.zero with kind:=2,text:=v.text} else if v.kind=3 then {V.zero with kind:=3,yes:=v.yes} else V.zero
def V.void (v:V):Bool:=v.kind==1&& !fEq v.num v.num
theorem a6e (v:V) (w:World):Calls Tryz.prog 69 #[.agg v.cells.toArray] w fun e w'=>e= .returned (.bool v.right)/\Mod (fun _=>False) w w':=by
 obtain ⟨kind,int,num,text,yes⟩:=v;unfold V.right V.cells;by_cases h0:0<=kind
 ·by_cases h3:kind<=3
  ·by_cases ht:text.size<=40
   ·have ht':(text.size:Int)<=40:=zo
    rw [decide_eq_true h0,decide_eq_true h3,decide_eq_true ht]
    go_enter Tryz.func69,Tryz.ntmps69
    go_wp2
    go_ret;exact ⟨rfl,(Mod.refl _ w).alloc _⟩
   have ht':(40:Int)<text.size:=zo
   rw [decide_eq_true h0,decide_eq_true h3,decide_eq_false ht]
   go_enter Tryz.func69,Tryz.ntmps69
   go_wp2
   go_ret;exact ⟨congrArg (fun b=>Ending.returned (.bool b)) (decide_eq_false zo),(Mod.refl _ w).alloc _⟩
  have h3':3<kind:=zo
  rw [decide_eq_true h0,decide_eq_false h3]
  go_enter Tryz.func69,Tryz.ntmps69
  go_wp2
  go_ret;exact ⟨rfl,(Mod.refl _ w).alloc _⟩
 have h0':kind<0:=zo
 rw [decide_eq_false h0]
 go_enter Tryz.func69,Tryz.ntmps69
 go_wp2
 go_ret;exact ⟨rfl,(Mod.refl _ w).alloc _⟩
theorem a1g (v:V) (w:World):Calls Tryz.prog 172 #[.agg v.cells.toArray] w fun e w'=>e= .returned (.bool v.void)/\Mod (fun _=>False) w w':=by
 obtain ⟨kind,int,num,text,yes⟩:=v;unfold V.void V.cells;have Hn:=Lib.hid fun w=>b3Z num w;by_cases h1:kind=1
 ·have h1b:(kind==1)=true:=by rw [h1];rfl
  rw [h1b];subst h1
  go_enter Tryz.func172,Tryz.ntmps172
  go_wp2_with fail
  refine (Hn.out _).mono ?_;rintro e w1 ⟨rfl,rfl⟩
  go_wp2
  go_ret;exact ⟨rfl,(Mod.refl _ w).alloc _⟩
 have h1b:(kind==1)=false:=by rw [beq_eq_false_iff_ne];exact h1
 rw [h1b]
 go_enter Tryz.func172,Tryz.ntmps172
 go_wp2
 go_ret;exact ⟨rfl,(Mod.refl _ w).alloc _⟩
theorem a6f (v:V) (w:World):Calls Tryz.prog 128 #[.agg v.cells.toArray] w fun e w'=>e= .returned (.agg v.canon.cells.toArray)/\Mod (fun _=>False) w w':=by
 obtain ⟨kind,int,num,text,yes⟩:=v;have Hc:=Lib.hid fun w=>a3u num w
 have hm0:∀(A B:Obj) (w':World),Mod (fun k=>k=w.heap.size+1) ((w.alloc A).alloc B) w'->Mod (fun _=>False) w w':=fun A B w' h=>
  (((Mod.refl (fun _=>False) w).alloc A).alloc B).trans h (fun b hb h=>zo)
 have xG:=zh hm0;clear hm0;by_cases h0:kind=0
 ·have hv:(V.canon ⟨kind,int,num,text,yes⟩).cells=[.int .i64 0,.int .i64 int,.float .f64 0,.string ⟨#[]⟩,.bool false]:=by unfold V.canon;rw [if_pos h0];rfl
  rw [hv];unfold V.cells;subst h0;clear hv
  go_enter Tryz.func128,Tryz.ntmps128
  go_wp2_with (refine B3 rfl 96 (.tmp 2) (.tmp 9) rfl (w.heap.size+1) rfl _ 96 (O6 w _ _) [.int .i64 0,.int .i64 int,.float .f64 0,.string ⟨#[]⟩,.bool false] rfl 5 rfl rfl zk rfl ?_;intro w2 h2 hm2;have H2:=Lib.hid h2;have aS:=Lib.hid hm2;clear h2 hm2)
  exact y4 rfl (w.heap.size+1) rfl _ (d8.row H2.out) zk zk rfl ⟨rfl,xG.out _ _ _ aS.out⟩
 by_cases h1:kind=1
 ·have hv:(V.canon ⟨kind,int,num,text,yes⟩).cells=[.int .i64 1,.int .i64 0,.float .f64 (m8 num),.string ⟨#[]⟩,.bool false]:=by unfold V.canon;rw [if_neg h0,if_pos h1];rfl
  rw [hv];unfold V.cells;subst h1;clear hv h0
  go_enter Tryz.func128,Tryz.ntmps128
  go_wp2_with fail
  refine (Hc.out _).mono ?_;rintro e w1 ⟨rfl,rfl⟩
  go_wp2_with (refine B3 rfl 96 (.tmp 2) (.tmp 15) rfl (w.heap.size+1) rfl _ 96 (O6 w _ _) [.int .i64 1,.int .i64 0,.float .f64 (m8 num),.string ⟨#[]⟩,.bool false] rfl 5 rfl rfl zk rfl ?_;intro w2 h2 hm2;have H2:=Lib.hid h2;have aS:=Lib.hid hm2;clear h2 hm2)
  exact y4 rfl (w.heap.size+1) rfl _ (d8.row H2.out) zk zk rfl ⟨rfl,xG.out _ _ _ aS.out⟩
 by_cases h2:kind=2
 ·have hv:(V.canon ⟨kind,int,num,text,yes⟩).cells=[.int .i64 2,.int .i64 0,.float .f64 0,.string text,.bool false]:=by unfold V.canon;rw [if_neg h0,if_neg h1,if_pos h2];rfl
  rw [hv];unfold V.cells;subst h2;clear hv h0 h1
  go_enter Tryz.func128,Tryz.ntmps128
  go_wp2_with (refine B3 rfl 96 (.tmp 2) (.tmp 20) rfl (w.heap.size+1) rfl _ 96 (O6 w _ _) [.int .i64 2,.int .i64 0,.float .f64 0,.string text,.bool false] rfl 5 rfl rfl zk rfl ?_;intro w2 h2 hm2;have H2:=Lib.hid h2;have aS:=Lib.hid hm2;clear h2 hm2)
  exact y4 rfl (w.heap.size+1) rfl _ (d8.row H2.out) zk zk rfl ⟨rfl,xG.out _ _ _ aS.out⟩
 by_cases h3:kind=3
 ·have hv:(V.canon ⟨kind,int,num,text,yes⟩).cells=[.int .i64 3,.int .i64 0,.float .f64 0,.string ⟨#[]⟩,.bool yes]:=by unfold V.canon;rw [if_neg h0,if_neg h1,if_neg h2,if_pos h3];rfl
  rw [hv];unfold V.cells;subst h3;clear hv h0 h1 h2
  go_enter Tryz.func128,Tryz.ntmps128
  go_wp2_with (refine B3 rfl 96 (.tmp 2) (.tmp 25) rfl (w.heap.size+1) rfl _ 96 (O6 w _ _) [.int .i64 3,.int .i64 0,.float .f64 0,.string ⟨#[]⟩,.bool yes] rfl 5 rfl rfl zk rfl ?_;intro w2 h2 hm2;have H2:=Lib.hid h2;have aS:=Lib.hid hm2;clear h2 hm2)
  exact y4 rfl (w.heap.size+1) rfl _ (d8.row H2.out) zk zk rfl ⟨rfl,xG.out _ _ _ aS.out⟩
 have hv:(V.canon ⟨kind,int,num,text,yes⟩).cells=[.int .i64 0,.int .i64 0,.float .f64 0,.string ⟨#[]⟩,.bool false]:=by unfold V.canon;rw [if_neg h0,if_neg h1,if_neg h2,if_neg h3];rfl
 rw [hv];unfold V.cells;clear hv
 go_enter Tryz.func128,Tryz.ntmps128
 go_wp2_with (refine B3 rfl 96 (.tmp 2) (.tmp 26) rfl (w.heap.size+1) rfl _ 96 (O6 w _ _) [.int .i64 0,.int .i64 0,.float .f64 0,.string ⟨#[]⟩,.bool false] rfl 5 rfl rfl zk rfl ?_;intro w2 h2 hm2;have H2:=Lib.hid h2;have aS:=Lib.hid hm2;clear h2 hm2)
 exact y4 rfl (w.heap.size+1) rfl _ (d8.row H2.out) zk zk rfl ⟨rfl,xG.out _ _ _ aS.out⟩
end Go.Proofs.YtdmjoodhaeijmaaGreatDoor
namespace Go.Proofs.YtdmjoodhaeijmaaGreatDoor
open Go.RowKit
def V.eqG (a b:V):Bool:=a.kind==b.kind&&(a.int==b.int&&(fEq a.num b.num&&(a.text.toList==b.text.toList&&a.yes==b.yes)))
def V.kept (v:V):Bool:=if v.void then V.eqG {v.canon with num:=0} {v with num:=0} else V.eqG v.canon v
end Go.Proofs.YtdmjoodhaeijmaaGreatDoor
namespace Go.Proofs.YtdmjoodhaeijmaaGreatDoor
open Go.RowKit
def G8 (i:Nat) (b:UInt8):Bool:=(decide (97<=b.toNat)&&decide (b.toNat<=122))||(decide (0<i)&&decide (48<=b.toNat)&&decide (b.toNat<=57))
def r4 (s:ByteArray):Bool:=(s.data.toList.zipIdx.all fun x=>G8 x.2 x.1)&&(decide (s.size≠0)&&decide (s.size<=12))
theorem S6 {s:ByteArray} {k:Nat} {b:UInt8} (h:s.data.toList[k]? =some b) (hb:G8 k b=false):r4 s=false:=by
 unfold r4
 have:(s.data.toList.zipIdx.all fun x=>G8 x.2 x.1)=false:=by
  rw [List.all_eq_false];exact ⟨(b,k),List.mem_zipIdx_iff_getElem?.2 h,by simp [hb]⟩
 rw [this,Bool.false_and]
theorem a7G {s:ByteArray} (h:∀j b,j<s.size->s.data.toList[j]? =some b->G8 j b=true):r4 s=(decide (s.size≠0)&&decide (s.size<=12)):=by
 unfold r4
 have:(s.data.toList.zipIdx.all fun x=>G8 x.2 x.1)=true:=by
  rw [List.all_eq_true];rintro ⟨b,k⟩ hm;have hb:=List.mem_zipIdx_iff_getElem?.1 hm;have hk:=(zz6 hb).1;exact h k b hk hb
 rw [this,Bool.true_and]
theorem a2Q (s:ByteArray) (hs:s.size<=9223372036854775807) (w:World):Calls Tryz.prog 68 #[.string s] w fun e w'=>e= .returned (.bool (r4 s))/\w'=w:=by
 have hs':(s.size:Int)<=9223372036854775807:=zo
 have Hs:=zh hs;clear hs;obtain ⟨R,hR⟩:∃R,r4 s=R:=⟨_,rfl⟩;rw [hR];have HR:=zh hR;clear hR
 go_enter Tryz.func68,Tryz.ntmps68
 go_wp2_with fail
 go_loopw [6] (fun i wr=>∃k:Nat,k<=s.size/\i= .int .i64 k/\wr=w/\(∀j b,j<k->s.data.toList[j]? =some b->G8 j b=true)) (fun i _=>s.size - (intOf i).toNat)
 case atStart=>exact ⟨0,Nat.zero_le _,rfl,rfl,fun j b hj=>zo⟩
 case round=>
  obtain ⟨k,hk,rfl,hw,hall⟩:=hrel;subst hw;by_cases hlt:k<s.size
  ·have hlt':(k:Int)<s.size:=zo
   have aO:=zh hall;clear hall
   have hsk:s.data.toList[k]? =some s[k]:=by
    rw [zz5 (show k<s.data.toList.length from hlt)];rfl
   have iL:=zh hsk;clear hsk;have hcase:((97:Int)<=(s[k].toNat:Int)/\(s[k].toNat:Int)<=122)\/(((s[k].toNat:Int)<97\/(122:Int)<(s[k].toNat:Int))/\0<k/\(48:Int)<=(s[k].toNat:Int)/\(s[k].toNat:Int)<=57)\/((s[k].toNat:Int)<97/\k=0)\/((122:Int)<(s[k].toNat:Int)/\k=0)\/(0<k/\(s[k].toNat:Int)<48)\/(0<k/\(57:Int)<(s[k].toNat:Int)/\(s[k].toNat:Int)<97)\/(0<k/\(122:Int)<(s[k].toNat:Int)):=zo
   rcases hcase with ⟨h1,h2⟩|⟨h1,h2,h3,h4⟩|⟨h1,h2⟩|⟨h1,h2⟩|⟨h1,h2⟩|⟨h1,h2,h3⟩|⟨h1,h2⟩
   ·go_wp2
    go_roundw
    case rel=>
     refine ⟨k+1,zo,by go_num,trivial,fun j b hj hb=> ?_⟩;rcases Nat.lt_succ_iff_lt_or_eq.1 hj with hj|hj
     ·exact aO.out j b hj hb
     subst hj;rw [iL.out] at hb;cases hb
     unfold G8;simp only [Bool.or_eq_true,Bool.and_eq_true,decide_eq_true_eq];omega
    case measure=>simp [intOf];omega
   ·have h0':(0:Int)<k:=zo
    have h5:(s[k].toNat:Int)<97:=zo
    clear h1
    go_wp2
    go_roundw
    case rel=>
     refine ⟨k+1,zo,by go_num,trivial,fun j b hj hb=> ?_⟩;rcases Nat.lt_succ_iff_lt_or_eq.1 hj with hj|hj
     ·exact aO.out j b hj hb
     subst hj;rw [iL.out] at hb;cases hb
     unfold G8;simp only [Bool.or_eq_true,Bool.and_eq_true,decide_eq_true_eq];omega
    case measure=>simp [intOf];omega
   ·subst h2
    go_wp2
    all_goals first
     |(exfalso;omega)
     | (go_ret
        refine ⟨congrArg (fun b=>Ending.returned (.bool b)) (((HR.out).symm.trans (S6 iL.out ?_)).symm),rfl⟩;unfold G8;simp only [Bool.or_eq_false_iff,Bool.and_eq_false_iff,decide_eq_false_iff_not]
        omega)
   ·subst h2;have h5:(97:Int)<=(s[0].toNat:Int):=zo
    have BK:decide ((s[0].toNat:Int)<=122)=false:=decide_eq_false zo
    go_wp2
    all_goals first
     |(exfalso;omega)
     | (go_ret
        refine ⟨congrArg (fun b=>Ending.returned (.bool b)) (((HR.out).symm.trans (S6 iL.out ?_)).symm),rfl⟩;unfold G8;simp only [Bool.or_eq_false_iff,Bool.and_eq_false_iff,decide_eq_false_iff_not]
        omega)
   ·have h0':(0:Int)<k:=zo
    have h5:(s[k].toNat:Int)<97:=zo
    go_wp2
    all_goals first
     |(exfalso;omega)
     | (go_ret
        refine ⟨congrArg (fun b=>Ending.returned (.bool b)) (((HR.out).symm.trans (S6 iL.out ?_)).symm),rfl⟩;unfold G8;simp only [Bool.or_eq_false_iff,Bool.and_eq_false_iff,decide_eq_false_iff_not]
        omega)
   ·have h0':(0:Int)<k:=zo
    have h5:(48:Int)<=(s[k].toNat:Int):=zo
    have Jl:decide ((s[k].toNat:Int)<=57)=false:=decide_eq_false zo
    go_wp2
    all_goals first
     |(exfalso;omega)
     | (go_ret
        refine ⟨congrArg (fun b=>Ending.returned (.bool b)) (((HR.out).symm.trans (S6 iL.out ?_)).symm),rfl⟩;unfold G8;simp only [Bool.or_eq_false_iff,Bool.and_eq_false_iff,decide_eq_false_iff_not]
        omega)
   have h0':(0:Int)<k:=zo
   have h5:(97:Int)<=(s[k].toNat:Int):=zo
   have h6:(48:Int)<=(s[k].toNat:Int):=zo
   have h7:(57:Int)<(s[k].toNat:Int):=zo
   have Jl:decide ((s[k].toNat:Int)<=57)=false:=decide_eq_false zo;have BK:decide ((s[k].toNat:Int)<=122)=false:=decide_eq_false zo
   go_wp2
   all_goals first
    |(exfalso;omega)
    | (go_ret
       refine ⟨congrArg (fun b=>Ending.returned (.bool b)) (((HR.out).symm.trans (S6 iL.out ?_)).symm),rfl⟩;unfold G8;simp only [Bool.or_eq_false_iff,Bool.and_eq_false_iff,decide_eq_false_iff_not]
       omega)
  obtain rfl:k=s.size:=zo
  have hn:=a7G hall;rw [HR.out] at hn;clear hall
  have hse:s.toList.isEmpty=decide (s.size=0):=by
   rw [ByteArray.toList_eq];show s.data.toList.isEmpty=decide (s.data.toList.length=0);cases s.data.toList<;>simp
  have hd:((s.size:Int)<=12)=(s.size<=12):=by apply propext;omega
  by_cases h0:s.size=0
  ·rw [decide_eq_true h0] at hse;rw [decide_eq_false (by simp [h0]),Bool.false_and] at hn;have HN:=zh hn;clear hn h0 hd
   go_wp2
   go_ret;exact ⟨by rw [HN.out];rfl,rfl⟩
  rw [decide_eq_false h0] at hse;rw [decide_eq_true h0,Bool.true_and] at hn;obtain ⟨HN,HD⟩:=zh2 hn hd;clear hn h0 hd
  go_wp2
  go_ret;refine ⟨?_,rfl⟩;rw [HN.out];exact congrArg (fun b=>Ending.returned (.bool b)) (by simp only [HD.out])
end Go.Proofs.YtdmjoodhaeijmaaGreatDoor
