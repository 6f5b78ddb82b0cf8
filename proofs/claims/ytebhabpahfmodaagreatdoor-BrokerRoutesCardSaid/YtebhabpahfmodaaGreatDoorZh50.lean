/- Lemmas. -/
import Derived.Test.YtebhabpahfmodaaGreatDoorZh49
import Derived.Test.YtebhabpahfmodaaGreatDoorZh47
set_option maxHeartbeats 40000000
set_option maxRecDepth 20000
namespace Go.Proofs.YtebhabpahfmodaaGreatDoor
open Go.RowKit
def nrF (N1 N2:List Fr):Int->List Fil:=fun n=>if n=1 then N1.map Fr.fil else if n=2 then N2.map Fr.fil else []
theorem b49:nrF [] []=fun _=>[]:=by
 funext n;unfold nrF;split
 ·rfl
 split<;>rfl
theorem b6N (N1 N2:List Fr) (f:Fr):T8 (nrF N1 N2) 1 (nrF N1 N2 1++[f.fil])=nrF (N1++[f]) N2:=by
 funext n;unfold T8 nrF;by_cases h:n=1
 ·rw [if_pos h,if_pos h,List.map_append];rfl
 rw [if_neg h,if_neg h,if_neg h]
theorem b6O (N1 N2:List Fr) (f:Fr):T8 (nrF N1 N2) 2 (nrF N1 N2 2++[f.fil])=nrF N1 (N2++[f]):=by
 funext n;unfold T8 nrF;by_cases h:n=2
 ·subst h;rw [if_pos rfl,if_neg zd,if_pos rfl,if_neg zd,if_pos rfl,List.map_append];rfl
 rw [if_neg h];by_cases h1:n=1
 ·rw [if_pos h1,if_pos h1]
 rw [if_neg h1,if_neg h1,if_neg h,if_neg h]
structure a4n (w:World) (f:Fr):Prop where
 rd:j3 w 7 (.slice f.a f.cs.length f.c) f.cs.length (m5 f.cs)
 ok:b07 f.fil
 sz:f.sc.size<=1000000
 len:f.cs.length<=6
 fit:∀c∈f.cs,c.fits
structure RtE (w wr:World) (owr:Ow) (nb:Nat) (v1 v2 sv:Value) (TE:TypeId) (N1 N2:List Fr) (Q:List Dp) (B:BS) (j:Nat):Prop where
 row:wr.heap[nb]? =some (.cells #[.slice none 0 0,v1,v2] 42 (0,0))
 tag:owr nb=43
 s1:V5 wr owr 44 26 2 v1 N1.length (N1.flatMap Fr.cells)
 s2:V5 wr owr 45 26 2 v2 N2.length (N2.flatMap Fr.cells)
 f1:∀f∈N1,a4n w f
 f2:∀f∈N2,a4n w f
 n1:N1.length<=j
 n2:N2.length<=j
 sl:V5 wr owr 41 TE 7 sv Q.length (dps Q)
 each:∀d∈Q,a4n w ⟨d.x.sc,d.x.a,d.x.c,d.x.cs⟩/\d.x.who.size<=100/\0<=d.k/\d.k<j
 nr:M2 (B.R 0).M (nrF N1 N2)
 S:(B.R 0).S=Q.map fun d=>(d.k,d.x.who,(d.x.sc,j4 d.x.cs))
 ris:(Q.map Dp.k).Pairwise (· < ·)
theorem RtE.mov {F:Nat->Prop} {w wr w':World} {owr ow':Ow} {nb:Nat} {v1 v2 sv:Value} {TE:TypeId} {N1 N2:List Fr} {Q:List Dp} {B:BS} {j:Nat} (h:RtE w wr owr nb v1 v2 sv TE N1 N2 Q B j) (s:Mov F wr owr w' ow') (h1:¬F 41) (h3:¬F 43) (h4:¬F 44) (h5:¬F 45):RtE w w' ow' nb v1 v2 sv TE N1 N2 Q B j:=
 ⟨s.md.heap h.row (fun hf=>h3 (by have hf':F (owr nb):=hf;rwa [h.tag] at hf')),by rw [s.old nb (zz7 h.row).1];exact h.tag,h.s1.mov s h4,h.s2.mov s h5,h.f1,h.f2,h.n1,h.n2,h.sl.mov s h1,h.each,h.nr,h.S,h.ris⟩
theorem RtE.next {w wr:World} {owr:Ow} {nb:Nat} {v1 v2 sv:Value} {TE:TypeId} {N1 N2:List Fr} {Q:List Dp} {B:BS} {j:Nat} (h:RtE w wr owr nb v1 v2 sv TE N1 N2 Q B j):RtE w wr owr nb v1 v2 sv TE N1 N2 Q B (j+1):=
 ⟨h.row,h.tag,h.s1,h.s2,h.f1,h.f2,Nat.le_succ_of_le h.n1,Nat.le_succ_of_le h.n2,h.sl,fun d hd=>by
  obtain ⟨a,b,c,d⟩:=h.each d hd
  exact ⟨a,b,c,zo⟩,h.nr,h.S,h.ris⟩
theorem RtE.B {w wr:World} {owr:Ow} {nb:Nat} {v1 v2 sv:Value} {TE:TypeId} {N1 N2:List Fr} {Q:List Dp} {B B':BS} {j:Nat} (h:RtE w wr owr nb v1 v2 sv TE N1 N2 Q B j) (hn:M2 (B'.R 0).M (nrF N1 N2)) (hS:(B'.R 0).S=(B.R 0).S):RtE w wr owr nb v1 v2 sv TE N1 N2 Q B' j:=
 ⟨h.row,h.tag,h.s1,h.s2,h.f1,h.f2,h.n1,h.n2,h.sl,h.each,hn,hS.trans h.S,h.ris⟩
theorem RtE.sub {w0 w wr wz w6:World} {owr:Ow} {nb:Nat} {v1 v2 sv v':Value} {TE:TypeId} {N1 N2:List Fr} {Q:List Dp} {B B':BS} {j:Nat} (hw:Owd w0 wr owr) (h:RtE w wr owr nb v1 v2 sv TE N1 N2 Q B j) (hz:Mod (fun _=>False) wr wz) (x:As)
 (hx:a4n w ⟨x.sc,x.a,x.c,x.cs⟩/\x.who.size<=100) (hA:q5 wz TE 7 sv (Q.length+1) (dps Q++Dp.cells ⟨j,x,0⟩) v' w6) (hn:M2 (B'.R 0).M (nrF N1 N2)) (hS:(B'.R 0).S=(B.R 0).S++[((j:Int),x.who,(x.sc,j4 x.cs))]):
 ∃ow',RtE w w6 ow' nb v1 v2 v' TE N1 N2 (Q++[⟨j,x,0⟩]) B' (j+1)/\Mov (fun t=>t=41) wr owr w6 ow':=by
 obtain ⟨ow',hs,hm⟩:=h.sl.app hw hz hA;refine ⟨ow',⟨hm.md.heap h.row (fun hf=>by have hf':owr nb=41:=hf;rw [h.tag] at hf';omega),by rw [hm.old nb (zz7 h.row).1];exact h.tag,h.s1.mov hm zo,h.s2.mov hm zo,h.f1,h.f2,Nat.le_succ_of_le h.n1,Nat.le_succ_of_le h.n2,by rw [zz4,b3n];exact hs,fun d hd=> ?_,hn, ?_, ?_⟩,hm⟩
 ·rcases zz14 hd with hd|hd
  ·obtain ⟨a,b,c,d⟩:=h.each d hd;exact ⟨a,b,c,zo⟩
  rw [List.mem_singleton.1 hd];exact ⟨hx.1,hx.2,by show (0:Int)<=(j:Int);omega,by show (j:Int)<((j+1:Nat):Int);omega⟩
 ·rw [hS,h.S,List.map_append];rfl
 rw [List.map_append,List.pairwise_append];refine ⟨h.ris,List.pairwise_singleton _ _,fun a ha b hb=> ?_⟩;obtain ⟨d,hd,rfl⟩:=List.mem_map.1 ha;have e:b=(j:Int):=by simpa using hb
 rw [e];exact (h.each d hd).2.2.2
theorem RtE.tell1 {w0 w wr wz w6 w7:World} {owr:Ow} {nb:Nat} {a1 a2 a':Option Addr} {c1 c2 c':Nat} {sv:Value} {TE:TypeId} {N1 N2:List Fr} {Q:List Dp} {B B':BS} {j:Nat} (hw:Owd w0 wr owr) (h:RtE w wr owr nb (.slice a1 N1.length c1) (.slice a2 N2.length c2) sv TE N1 N2 Q B j) (hz:Mod (fun _=>False) wr wz) (f:Fr) (hf:a4n w f)
 (hA:q5 wz 26 2 (.slice a1 N1.length c1) (N1.length+1) (N1.flatMap Fr.cells++f.cells) (.slice a' (N1.length+1) c') w6)
 (h7:w7.heap[nb]? =some (.cells #[.slice none 0 0,.slice a' (N1.length+1) c',.slice a2 N2.length c2] 42 (0,0))) (bu:Mod (fun k=>k=nb) w6 w7)
 (hnr:M2 (B'.R 0).M (nrF (N1++[f]) N2)) (hS:(B'.R 0).S=(B.R 0).S):
 ∃(ow':Ow),RtE w w7 ow' nb (.slice a' (N1.length+1) c') (.slice a2 N2.length c2) sv TE (N1++[f]) N2 Q B' (j+1)/\Mov (fun t=>t=43\/t=44) wr owr w7 ow':=by
 have hnb:=(zz7 h.row).1;obtain ⟨ow',hs,hm⟩:=h.s1.app hw hz hA;have vO:=hm.owd hw zo;have Ml:ow' nb=43:=by rw [hm.old nb hnb];exact h.tag
 have hm':Mov (fun t=>t=43) w6 ow' w7 ow':=Mov.wrote vO bu (fun k hk=>by rw [hk];exact Ml);refine ⟨ow',⟨h7,Ml, ?_,(h.s2.mov hm zo).mov hm' zo,fun g hg=> ?_,h.f2, ?_,Nat.le_succ_of_le h.n2,(h.sl.mov hm zo).mov hm' zo,fun d hd=> ?_,hnr,hS.trans h.S,h.ris⟩,(hm.mono (fun t ht=> .inr ht)).trans (hm'.mono (fun t ht=> .inl ht))⟩
 ·rw [zz4,List.flatMap_append];have h9:=hs.mov hm' zo;simpa using h9
 ·rcases zz14 hg with hg|hg
  ·exact h.f1 g hg
  rw [List.mem_singleton.1 hg];exact hf
 ·rw [zz4];have:=h.n1;show N1.length+1<=j+1;omega
 obtain ⟨p,q,r,s⟩:=h.each d hd;exact ⟨p,q,r,zo⟩
theorem RtE.tell2 {w0 w wr wz w6 w7:World} {owr:Ow} {nb:Nat} {a1 a2 a':Option Addr} {c1 c2 c':Nat} {sv:Value} {TE:TypeId} {N1 N2:List Fr} {Q:List Dp} {B B':BS} {j:Nat} (hw:Owd w0 wr owr) (h:RtE w wr owr nb (.slice a1 N1.length c1) (.slice a2 N2.length c2) sv TE N1 N2 Q B j) (hz:Mod (fun _=>False) wr wz) (f:Fr) (hf:a4n w f)
 (hA:q5 wz 26 2 (.slice a2 N2.length c2) (N2.length+1) (N2.flatMap Fr.cells++f.cells) (.slice a' (N2.length+1) c') w6)
 (h7:w7.heap[nb]? =some (.cells #[.slice none 0 0,.slice a1 N1.length c1,.slice a' (N2.length+1) c'] 42 (0,0))) (bu:Mod (fun k=>k=nb) w6 w7)
 (hnr:M2 (B'.R 0).M (nrF N1 (N2++[f]))) (hS:(B'.R 0).S=(B.R 0).S):
 ∃(ow':Ow),RtE w w7 ow' nb (.slice a1 N1.length c1) (.slice a' (N2.length+1) c') sv TE N1 (N2++[f]) Q B' (j+1)/\Mov (fun t=>t=43\/t=45) wr owr w7 ow':=by
 have hnb:=(zz7 h.row).1;obtain ⟨ow',hs,hm⟩:=h.s2.app hw hz hA;have vO:=hm.owd hw zo;have Ml:ow' nb=43:=by rw [hm.old nb hnb];exact h.tag
 have hm':Mov (fun t=>t=43) w6 ow' w7 ow':=Mov.wrote vO bu (fun k hk=>by rw [hk];exact Ml);refine ⟨ow',⟨h7,Ml,(h.s1.mov hm zo).mov hm' zo, ?_,h.f1,fun g hg=> ?_,Nat.le_succ_of_le h.n1, ?_,(h.sl.mov hm zo).mov hm' zo,fun d hd=> ?_,hnr,hS.trans h.S,h.ris⟩,(hm.mono (fun t ht=> .inr ht)).trans (hm'.mono (fun t ht=> .inl ht))⟩
 ·rw [zz4,List.flatMap_append];have h9:=hs.mov hm' zo;simpa using h9
 ·rcases zz14 hg with hg|hg
  ·exact h.f2 g hg
  rw [List.mem_singleton.1 hg];exact hf
 ·rw [zz4];have:=h.n2;show N2.length+1<=j+1;omega
 obtain ⟨p,q,r,s⟩:=h.each d hd;exact ⟨p,q,r,zo⟩
theorem a88 {l:List PRu} (hl:∀q∈l,q.fine):∀p∈M4 l,p.kind=2->okN (p.sc,p.cs):=by
 unfold M4
 suffices∀(l L:List PRu),(∀q∈l,q.fine)->(∀p∈L,p.kind=2->okN (p.sc,p.cs))->∀p∈l.foldl M5 L,p.kind=2->okN (p.sc,p.cs) from this l [] hl (fun p hp=>by cases hp)
 intro l
 induction l with
 |nil=>exact fun L _ h=>h
 | cons q l ih=>
  intro L hq h;refine ih (M5 L q) (fun r hr=>hq r (List.mem_cons_of_mem _ hr)) fun p hp hk=> ?_;rcases a7t hp with hp|⟨rfl,hr⟩
  ·exact h p hp hk
  have h1:q.kept.kind=q.kind:=by unfold PRu.kept;split<;>rfl
  have hr':(q.lies none 0).rightB=true:=hr;have hfr:l9 q.sc q.cs=true:=(Ru.right_is hr').2 (.inr (h1.symm.trans hk));have hke:q.kept={q with cs:=j4 q.cs}:=by unfold PRu.kept;rw [if_pos hfr]
  rw [hke];exact a2v hfr (hq q (List.mem_cons_self ..)).cs
theorem b6P (w:World) (v:Value) (A:List Ru) (hv:I9 w v A) (hA:A.length<=1000) (hb:∀r∈A,r.kind=0->0<=r.broker) (ho:∀r∈A,r.kind=2->okQ (r.sc,r.cs)/\a4D r.cs) (t:Int) (W:ByteArray) (f:Fr) (hf:j3 w 7 (.slice f.a f.cs.length f.c) f.cs.length (m5 f.cs)) (hq:okQ f.fil) (hc:a4D f.cs):
 Calls Tryz.prog 14 #[v,.int .i64 t,.string W,.agg #[.string f.sc,.slice f.a f.cs.length f.c]] w fun e w'=>e= .returned (.bool (a1U (A.map Ru.pru) t W f.sc f.cs))/\Mod (fun _=>False) w w':=by
 rw [a5Z];refine a5u t W (fun r=>b0a f.sc f.cs r) w v A hv zo (fun r hr ho=>hb r hr (Ru.of_kind ho)) f.sc f.a f.cs.length f.c (fun r hr wx hwx hk=> ?_);obtain ⟨h1,h2⟩:=ho r hr (Ru.of_kind hk);exact b46 wx ⟨r.sc,r.ca,r.cc,r.cs⟩ f ((hv.mod hwx).ok r hr).rd (hf.mod hwx zi) h1 hq h2 hc
theorem b6l (n:Int):∃t:Nat,bits .and .i64 n 255=t/\t<256:=⟨(n%256).toNat,by
 have:=b2K n 8 zd;have e:bits .and .i64 n 255=n%256:=this;rw [e]
 omega,zo⟩
theorem b5a:E7 Tryz.prog 40 55 7 88:=O8 zk zk
structure BxE (wr:World) (owr:Ow) (ge:Nat) (mc:List Value):Prop where
 tag:owr ge=50
 row:wr.heap[ge]? =some (.cells mc.toArray 33 (0,0))
theorem BxE.mov {F:Nat->Prop} {wr w':World} {owr ow':Ow} {ge:Nat} {mc:List Value} (h:BxE wr owr ge mc) (s:Mov F wr owr w' ow') (h50:¬F 50):BxE w' ow' ge mc:=
 ⟨by rw [s.old ge (zz7 h.row).1];exact h.tag,s.md.heap h.row (fun hf=>h50 (by have hf':F (owr ge):=hf;rwa [h.tag] at hf'))⟩
structure RoI (w wr:World) (owr:Ow) (g ge gl nb:Nat) (P:List PRu) (B:BS) (j:Nat) (mc:List Value) (vm:Value) (M:List Lr) (v1 v2 sv:Value) (N1 N2:List Fr) (Q:List Dp):Prop where
 ow:Owd w wr owr
 br:Bro wr owr 2 g 0 [1,2] B
 L:B.L=P
 R:a2w B j
 S:a1W B
 md:Mod (fun _=>False) w wr
 bx:BxE wr owr ge mc
 lg:O4 wr owr 61 gl vm M
 e:RtE w wr owr nb v1 v2 sv 55 N1 N2 Q B j
theorem RoI.mod {w wr w':World} {owr:Ow} {g ge gl nb:Nat} {P:List PRu} {B:BS} {j:Nat} {mc:List Value} {vm:Value} {M:List Lr} {v1 v2 sv:Value} {N1 N2:List Fr} {Q:List Dp} (h:RoI w wr owr g ge gl nb P B j mc vm M v1 v2 sv N1 N2 Q) (hm:Mod (fun _=>False) wr w'):RoI w w' owr g ge gl nb P B j mc vm M v1 v2 sv N1 N2 Q:=
 have s:=Mov.of h.ow hm (fun _=>False)
 ⟨s.owd h.ow id,h.br.mov h.ow s id (fun _ h=>h.elim),h.L,h.R,h.S,h.md.trans hm zi,h.bx.mov s id,h.lg.mov s id id,h.e.mov s id id id id⟩
theorem RoI.next {w wr:World} {owr:Ow} {g ge gl nb:Nat} {P:List PRu} {B:BS} {j:Nat} {mc:List Value} {vm:Value} {M:List Lr} {v1 v2 sv:Value} {N1 N2:List Fr} {Q:List Dp} (h:RoI w wr owr g ge gl nb P B j mc vm M v1 v2 sv N1 N2 Q):RoI w wr owr g ge gl nb P B (j+1) mc vm M v1 v2 sv N1 N2 Q:=
 ⟨h.ow,h.br,h.L,fun t ht=>(h.R t ht).mono (Nat.le_succ _),h.S,h.md,h.bx,h.lg,h.e.next⟩
theorem RoI.of {w wr:World} {owr:Ow} {g q ge gl nb:Nat} {P:List PRu} {B:BS} {j:Nat} {S:List Sd} {H:List Hn} {mc:List Value} {vm:Value} {M:List Lr} {v1 v2 sv:Value} {N1 N2:List Fr} {Q:List Dp} (h:M3 w wr owr g q P B j S H) (hs:a1W B) (hb:BxE wr owr ge mc) (hl:O4 wr owr 61 gl vm M) (he:RtE w wr owr nb v1 v2 sv 55 N1 N2 Q B j):RoI w wr owr g ge gl nb P B j mc vm M v1 v2 sv N1 N2 Q:=⟨h.ow,h.br,h.L,h.R,hs,h.md,hb,hl,he⟩
def b63 (w:World) (g ge gl nb:Nat) (P:List PRu) (mc:List Value) (vm:Value) (M:List Lr) (n:Nat) (sv i:Value) (wr:World):Prop:=
 ∃(j:Nat) (owr:Ow) (B:BS) (N1 N2:List Fr) (Q:List Dp) (a a1 a2:Option Addr) (c c1 c2:Nat),i= .int .i64 j/\j<=n/\Q.length<=j/\sv= .slice a Q.length c/\RoI w wr owr g ge gl nb P B j mc vm M (.slice a1 N1.length c1) (.slice a2 N2.length c2) sv N1 N2 Q
structure RgS (B nb n:Nat) (frm:Int) (sc:ByteArray) (a:Option Addr) (k c:Nat) (v:Value) (y:World):Prop where
 y2:y.cell? ⟨B,2,none⟩=some (.int .i64 frm)
 y4:y.cell? ⟨B,4,none⟩=some (.string sc)
 y5:y.cell? ⟨B,5,none⟩=some (.slice a k c)
 v0:y.cell? ⟨nb,n,none⟩=some v
theorem RgS.mod {B nb n:Nat} {frm:Int} {sc:ByteArray} {a:Option Addr} {k c:Nat} {v:Value} {y z:World} (h:RgS B nb n frm sc a k c v y) (hm:Mod (fun _=>False) y z):RgS B nb n frm sc a k c v z:=⟨hm.cell h.y2 id,hm.cell h.y4 id,hm.cell h.y5 id,hm.cell h.v0 id⟩
theorem P9 {k:Nat} (hk:k=0\/k=41\/k=43\/k=44\/k=45\/k=50\/k=61):¬W4 2 0 (fun t=>t=40) k:=fun h=>by
 rcases h with h|h
 ·omega
 have h':k=40:=h;omega
theorem BS.takeB_S (B:BS) (near:List Int) (frm:Int) (f:Fil):((B.takeB near 0 frm f true).R 0).S=(B.R 0).S:=by
 unfold BS.takeB BS.anew;split
 ·rw [BS.setR_at];exact RS.hear_S _ _ _ _ _
 rfl
theorem BS.subB_S (B:BS) (id:Int) (near:List Int) (who:ByteArray) (k:Int) (fs:ByteArray) (fl:List Cnd):((B.subB id near 0 who k fs fl).R 0).S=(B.R 0).S++if B.subE id 0 who fs fl=0 then [(k,who,(fs,j4 fl))] else []:=by
 unfold BS.subB BS.anew;split
 ·rw [BS.setR_at,RS.sub_S]
 rw [zz11]
theorem n12 {u:Nat} (h:u<2):∃n:Nat,(1:Int)+u=n/\(n=1\/n=2)/\((n:Int)=1\/(n:Int)=2)/\wrap64 ((1:Int)+u)=n:=
 ⟨u+1,zo,zo,zo,by rw [X7 zo zo];omega⟩
theorem b3w {p:PRu} (h:okN (p.sc,p.cs)) (hf:p.fine):okQ (p.sc,p.cs):=by
 obtain ⟨l,h1, -,h3⟩:=h;have h4:=C7 h1;have h5:=D9 l;have h6:p.cs=j4 l:=h3;refine ⟨?_,hf.cs,hf.sc⟩;show p.cs.length<=19;rw [h6];omega
theorem b5b (w:World) (a:Option Addr) (cap:Nat) (l:List Ru) (k:Nat) (hk:l.length=k) (hv:I9 w (.slice a k cap) l) (hll:k<=1000) (n:Nat) (hn:n<=k):Calls Tryz.prog 12 #[.slice a k cap,.int .i64 n] w (a8F w l n):=by
 subst hk;exact b47 w a cap l hv hll n hn
theorem b6Q (j:Nat):([]:List Sd).length+([]:List Hn).length+10<=j*4000000+1000000:=Nat.le_trans zd (Nat.le_add_left _ _)
theorem b1d {v:V} (h:v.num<2^64):v.canon.num<2^64:=by
 unfold V.canon;split
 ·exact (by decide:(0:Nat)<2^64)
 split
 ·exact R2 h
 split
 ·exact (by decide:(0:Nat)<2^64)
 split<;>exact (by decide:(0:Nat)<2^64)
theorem u01 {u n:Nat} (h:u<2) (h1:(1:Int)+u=n):(u=0/\n=1)\/(u=1/\n=2):=zo
structure BxS (ge:Nat) (mc:List Value) (R:Int) (y:World):Prop where
 all:l8 y ge 0 17
 is:cellsOf y ge 0 17=mc.toArray
 c14:y.cell? ⟨ge,14,none⟩=some (.int .i64 R)
theorem BxS.of {y:World} {ge:Nat} {mc:List Value} {R:Int} (h:y.heap[ge]? =some (.cells mc.toArray 33 (0,0))) (hl:mc.length=17) (h14:mc[14]? =some (.int .i64 R)):BxS ge mc R y:=by
 have hc:e9 y ge 0 mc:=e9.row h;refine ⟨hc.all hl,hc.is hl, ?_⟩;have:=hc 14 _ h14;rwa [Nat.zero_add] at this
theorem BxS.mod {y z:World} {ge:Nat} {mc:List Value} {R:Int} (h:BxS ge mc R y) (hm:Mod (fun _=>False) y z):BxS ge mc R z:=by
 have hc:=h.all.at;have hz:e9 z ge 0 (cellsOf y ge 0 17).toList:=fun j u hu=>hm.cell (hc j u hu) id;exact ⟨hz.all (F7 _ _ _ _),by rw [hz.is (F7 _ _ _ _),<-h.is],hm.cell h.c14 id⟩
def roM (at_:Int) (rule:PRu) (fs:ByteArray) (fl:List Cnd) (s7:ByteArray) (l7:List Att) (R:Int) (org:ByteArray) (ser:Int):Mg:=⟨3,at_,rule,fs,fl,s7,l7,R,org,ser⟩
theorem RoI.out {w wr w':World} {owr ow':Ow} {g q ge gl nb:Nat} {P:List PRu} {B:BS} {j:Nat} {S:List Sd} {H:List Hn} {mc:List Value} {vm:Value} {M:List Lr} {v1 v2 sv:Value} {N1 N2:List Fr} {Q:List Dp} (h:RoI w wr owr g ge gl nb P B j mc vm M v1 v2 sv N1 N2 Q) (hA:M3 w w' ow' g q P B j S H) (s:Mov (fun t=>t=40) wr owr w' ow'):RoI w w' ow' g ge gl nb P B j mc vm M v1 v2 sv N1 N2 Q:=
 RoI.of hA h.S (h.bx.mov s zo) (h.lg.mov s zo zo) (h.e.mov s zo zo zo zo)
theorem b5c {w w8:World} {owo:Ow} {gb qb ge gl nb:Nat} {P:List PRu} {B:BS} {j:Nat} {vm:Value} {M:List Lr} {v1 v2 sv:Value} {N1 N2:List Fr} {Q:List Dp} {at_ ser:Int} {rule:PRu} {org fs s7:ByteArray} {ra fa ya:Option Addr} {rc fc yc R:Nat} {fl:List Cnd} {l7:List Att} (FY:P.length<=40) (hj:j<=100)
 (hA:M3 w w8 owo gb qb P B j [] []) (hI:RoI w w8 owo gb ge gl nb P B j [.int .i64 3,.int .i64 at_,.int .i64 rule.kind,.int .i64 rule.tenant,.string rule.who,.int .i64 rule.broker,.string rule.sc,.slice ra rule.cs.length rc,.string rule.name,.int .i64 rule.at_,.string fs,.slice fa fl.length fc,.string s7,.slice ya l7.length yc,.int .i64 R,.string org,.int .i64 ser] vm M v1 v2 sv N1 N2 Q) (hc:o3 w8 owo 6 (.slice ya l7.length yc) l7.length (k7 l7)) (hx:X3 w8 owo ⟨roM at_ rule fs fl s7 l7 R org ser,ra,rc,fa,fc,ya,yc⟩) (hok:a8M s7 l7) (n:Int):
 ∀wx,Mod (fun _=>False) w8 wx->Calls Tryz.prog 9 #[.pointer (some ⟨gb,0,none⟩),.iface 51 (.pointer (some ⟨qb,0,none⟩)),.int .i64 n,.int .i64 0,.agg #[.int .i64 3,.int .i64 at_,.int .i64 rule.kind,.int .i64 rule.tenant,.string rule.who,.int .i64 rule.broker,.string rule.sc,.slice ra rule.cs.length rc,.string rule.name,.int .i64 rule.at_,.string fs,.slice fa fl.length fc,.string s7,.slice ya l7.length yc,.int .i64 R,.string org,.int .i64 ser]] wx fun e w'=>e= .returned (.bool (decide ((R:Int)<=P.length)))/\
  ∃ow' S2 H2,(S2,H2)=(if (R:Int)<=P.length then (K6 (B.R 0).M [1,2] 0 n (roM at_ rule fs fl s7 l7 R org ser),B.rouH 0 (roM at_ rule fs fl s7 l7 R org ser)) else ([],[]))/\M3 w w' ow' gb qb P B j S2 H2/\RoI w w' ow' gb ge gl nb P B j [.int .i64 3,.int .i64 at_,.int .i64 rule.kind,.int .i64 rule.tenant,.string rule.who,.int .i64 rule.broker,.string rule.sc,.slice ra rule.cs.length rc,.string rule.name,.int .i64 rule.at_,.string fs,.slice fa fl.length fc,.string s7,.slice ya l7.length yc,.int .i64 R,.string org,.int .i64 ser] vm M v1 v2 sv N1 N2 Q/\o3 w' ow' 6 (.slice ya l7.length yc) l7.length (k7 l7):=fun wx hm=>by
 have hs:=Mov.of hA.ow hm (fun _=>False);have h:=(hA.mod hm).ev FY hj (b6Q _) hI.S 0 zd n ⟨roM at_ rule fs fl s7 l7 R org ser,ra,rc,fa,fc,ya,yc⟩ (hx.mov hs id) hok rfl;refine Calls.mono h ?_;rintro e w' ⟨he,ow',S2,H2, -,h1,h2,h3⟩;rw [List.nil_append,List.nil_append] at h2;exact ⟨he,ow',S2,H2,h1,h2,(hI.mod hm).out h2 h3,(hc.mov hs id zo).mov h3 zo zo⟩
def Dp.sb (d:Dp):Sb:=(d.k,d.x.who,(d.x.sc,j4 d.x.cs))
def roG (P:List PRu) (R:Nat) (m:Mg) (d:Dp):Option Hn:=a2y (atP P R) ((0:Nat):Int) m d.sb
theorem b3x {α β:Type} (f:α->Option β) {l:List α} {i:Nat} {x:α} (h:l[i]? =some x):(l.take (i+1)).filterMap f=(l.take i).filterMap f++(f x).toList:=by
 rw [List.take_add_one,h,Option.toList_some,List.filterMap_append];congr 1
theorem b6m {α β:Type} (f:α->Option β) {l:List α} {i:Nat} {x:α} {y:β} (h:l[i]? =some x) (hy:f x=some y):(l.filterMap f)[((l.take i).filterMap f).length]? =some y:=by
 have hi:=(zz6 h).1
 have e:l.drop i=x::l.drop (i+1):=by
  rw [List.drop_eq_getElem_cons hi];congr 1;exact (zz6 h).2
 have e2:l.filterMap f=(l.take i).filterMap f++(y::(l.drop (i+1)).filterMap f):=by
  conv=>lhs;rw [<-List.take_append_drop i l]
  rw [List.filterMap_append,e,List.filterMap_cons,hy]
 rw [e2,List.getElem?_append_right (Nat.le_refl _),Nat.sub_self];rfl
theorem b1e {R n:Nat} (h:R<=n):O0 (R:Int) n=R:=by unfold O0;omega
theorem b3y {w wr:World} {owr:Ow} {g ge gl nb:Nat} {P:List PRu} {B:BS} {j:Nat} {mc:List Value} {vm:Value} {M:List Lr} {v1 v2 sv:Value} {N1 N2:List Fr} {Q:List Dp} {m:Mg} {R:Nat} (h:RoI w wr owr g ge gl nb P B j mc vm M v1 v2 sv N1 N2 Q) (hr:r8 m.el) (hv:m.ver=R) (hR:R<=P.length):B.rouH 0 m=Q.filterMap (roG P R m):=by
 have hS:(B.R 0).S=Q.map Dp.sb:=h.e.S;unfold BS.rouH;rw [h.L,hv,b1e hR,b43 (by rw [hS,List.map_map];exact h.e.ris) (h.R 0 zd).is (atP P R) _ m hr,hS,List.filterMap_map];rfl
theorem b6R {P:List PRu} {R:Nat} {m:Mg} {dk:Int} {x:As} {dt:Nat} {AR:List Ru} {s7:ByteArray} {l7 SL:List Att} {MO MA:Bool} (vK:AR.map Ru.pru=atP P R) (uo:m.es=s7) (uq:m.el=l7) (Mm:I4 AR 0 x.who s7 l7=SL) (Aj:a1U (atP P R) 0 x.who x.sc (j4 x.cs)=MO) (Ak:A8 x.sc (j4 x.cs) s7 SL=MA):
 roG P R m ⟨dk,x,dt⟩=if (MO&&MA)=true then some (0,x.who,⟨1,0,0,dk,m.ser,m.ver,m.org,s7,SL⟩) else none:=by
 have h1:V4 (atP P R) 0 x.who m.es m.el=SL:=by rw [<-vK,a7n,uo,uq,Mm]
 show (if (a1U (atP P R) 0 x.who x.sc (j4 x.cs)&&A8 x.sc (j4 x.cs) m.es (V4 (atP P R) 0 x.who m.es m.el))=true then some ((0:Int),x.who,(⟨1,0,0,dk,m.ser,m.ver,m.org,m.es,V4 (atP P R) 0 x.who m.es m.el⟩:Tg)) else none)=_;rw [h1,uo,Aj,Ak]
theorem b5d {w wr:World} {owr:Ow} {g ge gl nb:Nat} {P:List PRu} {B:BS} {j:Nat} {mc:List Value} {vm:Value} {M:List Lr} {a1 a2:Option Addr} {c1 c2:Nat} {sv:Value} {N1 N2:List Fr} {Q:List Dp} {n:Nat} (h:RoI w wr owr g ge gl nb P B j mc vm M (.slice a1 N1.length c1) (.slice a2 N2.length c2) sv N1 N2 Q) (hn:n=1\/n=2) (m:Mg):
 ∃(b:Nat) (Nx:List Fr) (ax:Option Addr) (cx:Nat),(3:Int) - n=b/\b<3/\wr.cell? ⟨nb,b,none⟩=some (.slice ax Nx.length cx)/\j3 wr 2 (.slice ax Nx.length cx) Nx.length (Nx.flatMap Fr.cells)/\(∀f∈Nx,a4n w f)/\Nx.length<=j/\Nx.length<=cx/\
  K6 (B.R 0).M [1,2] 0 n m=if (Nx.any fun f=>z8 f.fil m.es m.el)=true then [((b:Int),0,m)] else []:=by
 have hM:=(h.R 0 zd).m;rcases hn with rfl|rfl
 ·refine ⟨2,N2,a2,c2,rfl,zd,d6 h.e.row rfl,h.e.s2.sl.rd,h.e.f2,h.e.n2, ?_, ?_⟩
  ·obtain ⟨a0,c0,h0,h1⟩:=h.e.s2.sl.shape;cases h0;exact h1
  have h2:=a5n h.e.nr hM 0 m (a:=1) (b:=2) (.inl ⟨rfl,rfl⟩) (fun f hf=>by
   have hf:f∈N2.map Fr.fil:=hf;obtain ⟨x,hx,rfl⟩:=List.mem_map.1 hf
   exact (h.e.f2 x hx).ok)
  have e:nrF N1 N2 2=N2.map Fr.fil:=rfl;rw [e,List.any_map] at h2;exact h2
 refine ⟨1,N1,a1,c1,rfl,zd,d6 h.e.row rfl,h.e.s1.sl.rd,h.e.f1,h.e.n1, ?_, ?_⟩
 ·obtain ⟨a0,c0,h0,h1⟩:=h.e.s1.sl.shape;cases h0;exact h1
 have h2:=a5n h.e.nr hM 0 m (a:=2) (b:=1) (.inr ⟨rfl,rfl⟩) (fun f hf=>by
  have hf:f∈N1.map Fr.fil:=hf;obtain ⟨x,hx,rfl⟩:=List.mem_map.1 hf
  exact (h.e.f1 x hx).ok)
 have e:nrF N1 N2 1=N1.map Fr.fil:=rfl;rw [e,List.any_map] at h2;exact h2
def a59 (l:List Fr) (es:ByteArray) (L:List Att):Nat:=if (l.any fun f=>z8 f.fil es L)=true then 1 else 0
theorem b1f {l:List Fr} {k:Nat} {f:Fr} (h:l[k]? =some f) (es:ByteArray) (L:List Att):a59 (l.take (k+1)) es L=if z8 f.fil es L=true then 1 else a59 (l.take k) es L:=by
 unfold a59;rw [List.take_add_one,h,Option.toList_some,List.any_append];simp only [List.any_cons,List.any_nil,Bool.or_false];cases z8 f.fil es L<;>simp
theorem b5e {w wE:World} {s7:ByteArray} {l7:List Att} {va:Value} {f:Fr} (hf:a4n w f) (hok:a8M s7 l7) (h0:Mod (fun _=>False) w wE) (hs:∀wx,Mod (fun _=>False) wE wx->j3 wx 6 va l7.length (k7 l7)):
 ∀wx,Mod (fun _=>False) wE wx->Calls Tryz.prog 16 #[.agg #[.string f.sc,.slice f.a f.cs.length f.c],.agg #[.string s7,va]] wx fun e w'=>e= .returned (.bool (z8 f.fil s7 l7))/\Mod (fun _=>False) wx w':=fun wx hm=>by
 have hl:=hf.len;have hsz:=hf.sz;have h8:=hok.len;have h52:=hok.es;exact a4S wx f.sc _ f.cs (hf.rd.mod (h0.trans hm zi) zi) zo zo (fun c hc=>by have:=(hf.fit c hc).v.text;omega) s7 va l7 (hs wx hm) zo zo (fun a ha=>by have:=(hok.each a ha).2;omega)
theorem b5f {w:World} {S':List Sv} {v1:Value} {b:Nat} {m:Mg} (hs:j2 w 68 19 v1 S'.length (svs S')) (hS:S'.map Sv.sd=[((b:Int),0,m)]):
 ∃(g off cap:Nat) (x:Mv),v1= .slice (some ⟨g,off,none⟩) 1 cap/\S'=[((b:Int),0,x)]/\x.m=m/\e9 w g off (Sv.cells ((b:Int),0,x)):=by
 match S',hS with
 |[],hS=>exact absurd hS (by simp)
 |_::_::_,hS=>exact absurd hS (by simp)
 | [(t1,t2,x)],hS=>
  have h1:((t1,t2,x.m):Sd)=((b:Int),0,m):=List.cons.inj hS|>.1
  obtain ⟨rfl,rfl⟩:t1=(b:Int)/\t2=0:=by
   have h2:=congrArg Prod.fst h1;have h3:=congrArg (fun y:Sd=>y.2.1) h1;exact ⟨h2,h3⟩
  have h4:x.m=m:=congrArg (fun y:Sd=>y.2.2) h1;obtain ⟨a,cap,rfl, -⟩:=hs.shape;obtain ⟨g,off,rfl,hc⟩:=a1F (l:=[((b:Int),(0:Int),x)]) (f:=Sv.cells) (sz:=19) (j:=0) (x:=((b:Int),(0:Int),x)) (fun _=>rfl) hs.rd rfl;exact ⟨g,off,cap,x,rfl,rfl,h4,by simpa using hc⟩
structure b3z (mB oB gs os:Nat) (b:Nat) (ser:Int) (s7:ByteArray) (v1 v2 ve va:Value) (one:Bool) (y:World):Prop where
 f0:y.cell? ⟨oB,0,none⟩=some v1
 f1:y.cell? ⟨oB,1,none⟩=some v2
 f2:y.cell? ⟨mB,16,none⟩=some (.int .i64 ser)
 f3:y.cell? ⟨mB,12,none⟩=some (.string s7)
 f4:y.cell? ⟨mB,13,none⟩=some va
 f5:one=true->y.cell? ⟨gs,os,none⟩=some (.int .i64 b)
 f6:one=true->y.cell? ⟨gs,os+18,none⟩=some (.int .i64 ser)
 f7:one=true->y.cell? ⟨gs,os+14,none⟩=some (.string s7)
 f8:one=true->y.cell? ⟨gs,os+15,none⟩=some ve
theorem b3z.mod {mB oB gs os:Nat} {b:Nat} {ser:Int} {s7:ByteArray} {v1 v2 ve va:Value} {one:Bool} {y z:World} (h:b3z mB oB gs os b ser s7 v1 v2 ve va one y) (hm:Mod (fun _=>False) y z):b3z mB oB gs os b ser s7 v1 v2 ve va one z:=
 ⟨hm.cell h.f0 id,hm.cell h.f1 id,hm.cell h.f2 id,hm.cell h.f3 id,hm.cell h.f4 id,fun e=>hm.cell (h.f5 e) id,fun e=>hm.cell (h.f6 e) id,fun e=>hm.cell (h.f7 e) id,fun e=>hm.cell (h.f8 e) id⟩
structure b5g (mB oB sB eB gh o n ch:Nat) (who s7:ByteArray) (dk ser:Int) (R:Nat) (vs ve vn:Value) (y:World):Prop where
 f0:y.cell? ⟨oB,1,none⟩=some vs
 f1:y.cell? ⟨gh,o+1,none⟩=some (.string who)
 f2:y.cell? ⟨gh,o+2,none⟩=some (.int .i64 1)
 f3:y.cell? ⟨gh,o+5,none⟩=some (.int .i64 dk)
 f4:y.cell? ⟨gh,o+6,none⟩=some (.int .i64 ser)
 f5:y.cell? ⟨gh,o+7,none⟩=some (.int .i64 R)
 f6:y.cell? ⟨gh,o+9,none⟩=some (.string s7)
 f7:y.cell? ⟨gh,o+10,none⟩=some ve
 f8:y.cell? ⟨sB,0,none⟩=some (.int .i64 dk)
 f9:y.cell? ⟨sB,4,none⟩=some (.string who)
 f10:y.cell? ⟨eB,0,none⟩=some (.string s7)
 f11:y.cell? ⟨eB,1,none⟩=some vn
 f12:y.cell? ⟨mB,14,none⟩=some (.int .i64 R)
 f13:y.cell? ⟨mB,16,none⟩=some (.int .i64 ser)
theorem b5g.mod {mB oB sB eB gh o n ch:Nat} {who s7:ByteArray} {dk ser:Int} {R:Nat} {vs ve vn:Value} {y z:World} (h:b5g mB oB sB eB gh o n ch who s7 dk ser R vs ve vn y) (hm:Mod (fun _=>False) y z):b5g mB oB sB eB gh o n ch who s7 dk ser R vs ve vn z:=
 ⟨hm.cell h.f0 id,hm.cell h.f1 id,hm.cell h.f2 id,hm.cell h.f3 id,hm.cell h.f4 id,hm.cell h.f5 id,hm.cell h.f6 id,hm.cell h.f7 id,hm.cell h.f8 id,hm.cell h.f9 id,hm.cell h.f10 id,hm.cell h.f11 id,hm.cell h.f12 id,hm.cell h.f13 id⟩
theorem b3A {s7:ByteArray} {l7 SL:List Att} {AR:List Ru} {who:ByteArray} (h:I4 AR 0 who s7 l7=SL) (hn:∀a∈l7,a.v.num<2^64):∀a∈SL,a.v.num<2^64:=fun a ha=>by
 have hs:SL.Sublist l7:=by
  rw [<-h];exact List.filter_sublist
 exact hn a (hs.subset ha)
theorem b5h {w:World} {H':List Go.Proofs.YtebhabpahfmodaaGreatDoor.Hv} {n:Nat} {y:Hn} {v2:Value} (hs:j2 w 65 11 v2 H'.length (hvs H')) (hy:(H'.map Go.Proofs.YtebhabpahfmodaaGreatDoor.Hv.hn)[n]? =some y):
 ∃(g off cap:Nat) (ea:Option Addr) (ec:Nat),v2= .slice (some ⟨g,off,none⟩) H'.length cap/\n<H'.length/\(y.1,y.2.1,(⟨y.2.2,ea,ec⟩:Tv))∈H'/\e9 w g (off+n*11) (Hv.cells (y.1,y.2.1,⟨y.2.2,ea,ec⟩)):=by
 rw [List.getElem?_map,Option.map_eq_some_iff] at hy;obtain ⟨h,hh,rfl⟩:=hy;obtain ⟨a,cap,rfl, -⟩:=hs.shape;obtain ⟨g,off,rfl,hc⟩:=a1F (f:=Hv.cells) (sz:=11) (fun _=>rfl) hs.rd hh;obtain ⟨t,who,x,ea,ec⟩:=h;exact ⟨g,off,cap,ea,ec,rfl,(zz6 hh).1,zz8 hh,hc⟩
theorem b6S {w:World} {f:Fr} (h:a4n w f):okQ (f.sc,j4 f.cs)/\a4D (j4 f.cs):=by
 obtain ⟨l,h1, -,h3⟩:=h.ok.2;have h4:=C7 h1;have h5:=D9 l;have h6:j4 f.cs=j4 l:=h3;refine ⟨⟨?_,G6 h.fit,h.sz⟩,b3h h.ok.2⟩;show (j4 f.cs).length<=19;rw [h6];omega
theorem b5i {wE:World} {P:List PRu} {R:Nat} {AR:List Ru} {aA:Option Addr} {cA:Nat} (fE:I9 wE (.slice aA AR.length cA) AR) (hl:AR.length<=1000) (hb:∀r∈AR,r.kind=0->0<=r.broker) (ho:∀r∈AR,r.kind=2->okQ (r.sc,r.cs)/\a4D r.cs) (vK:AR.map Ru.pru=atP P R) (who:ByteArray) {sc:ByteArray} {cs:List Cnd} (fq:okQ (sc,j4 cs)) (fc:a4D (j4 cs)) {MO:Bool} (Aj:a1U (atP P R) 0 who sc (j4 cs)=MO):
 ∀wx,Mod (fun _=>False) wE wx->∀na nc,j3 wx 7 (.slice na (j4 cs).length nc) (j4 cs).length (m5 (j4 cs))->Calls Tryz.prog 14 #[.slice aA AR.length cA,.int .i64 0,.string who,.agg #[.string sc,.slice na (j4 cs).length nc]] wx fun e w'=>e= .returned (.bool MO)/\Mod (fun _=>False) wx w':=fun wx hm na nc hr=>by
 have h:=b6P wx (.slice aA AR.length cA) AR (fE.mod hm) hl hb ho 0 who ⟨sc,na,nc,j4 cs⟩ hr fq fc;rw [vK,Aj] at h;exact h
theorem b5j {s7:ByteArray} {l7 SL:List Att} {AR:List Ru} {who:ByteArray} (hok:a8M s7 l7) (h:I4 AR 0 who s7 l7=SL):r8 SL/\SL.length<=8/\∀a∈SL,a.v.text.size<=40:=by
 have hs:SL.Sublist l7:=by
  rw [<-h];exact List.filter_sublist
 exact ⟨a2x hs hok.ris,Nat.le_trans hs.length_le hok.len,fun a ha=>(hok.each a (hs.subset ha)).2⟩
theorem b3B {w wE:World} {sc s7:ByteArray} {a na:Option Addr} {c nc:Nat} {cs:List Cnd} {SL:List Att} (hf:a4n w ⟨sc,a,c,cs⟩) (hr:∀wx,Mod (fun _=>False) wE wx->j3 wx 7 (.slice a cs.length c) cs.length (m5 cs)) (hs:∀wx,Mod (fun _=>False) wE wx->j3 wx 6 (.slice na SL.length nc) SL.length (k7 SL)) (h7:s7.size<=9223372036854775807) (h:r8 SL/\SL.length<=8/\∀a∈SL,a.v.text.size<=40) {MA:Bool} (Ak:A8 sc (j4 cs) s7 SL=MA):
 ∀wx,Mod (fun _=>False) wE wx->Calls Tryz.prog 16 #[.agg #[.string sc,.slice a cs.length c],.agg #[.string s7,.slice na SL.length nc]] wx fun e w'=>e= .returned (.bool MA)/\Mod (fun _=>False) wx w':=fun wx hm=>by
 have hl:=hf.len;have hsz:=hf.sz;have h1:=a4S wx sc (.slice a cs.length c) cs (hr wx hm) (by have h:cs.length<=6:=hl;omega) (by have h:sc.size<=1000000:=hsz;omega) (fun d hd=>by have:=(hf.fit d hd).v.text;omega) s7 (.slice na SL.length nc) SL (hs wx hm) zo h7 (fun x hx=>by have:=h.2.2 x hx;omega)
 have h2:(m8 s7 sc&&cs.all fun c=>o4 c SL)=MA:=by
  rw [<-Ak];have h3:=a1X (q:=(sc,j4 cs)) (es:=s7) h.1;have h4:=a2l (sc:=sc) hf.ok.1 s7 SL;exact (h3.trans h4).symm
 rw [h2] at h1;exact h1
theorem a6a (w:World) (hl0:N8 w w) (v:Value) (l:List Ru) (hv:I9 w v l) (hll:l.length<=9223372036854775807) (hin:∀r∈l,b4Z r) (av:Value) (A:List As) (hA:a8c w av A) (FV:A.length<=9223372036854775807) (OE:∀x∈A,b2d x)
 (kind at_ ver ser:Int) (rule:PRu) (org fs es:ByteArray) (ra fa qa:Option Addr) (rc fc qc:Nat) (fl:List Cnd) (q:List Att) (fE:j3 w 7 (.slice ra rule.cs.length rc) rule.cs.length (m5 rule.cs)) (hfi:j3 w 7 (.slice fa fl.length fc) fl.length (m5 fl))
 (hq:j3 w 6 (.slice qa q.length qc) q.length (k7 q)) (xL:q.length<=9223372036854775807) (hes:es.size<=9223372036854775807) (nI:∀a∈q,a.name.size<=140737488355328/\a.v.text.size<=140737488355328) (Bl:∀a∈q,a.v.num<2^64):
 Calls Tryz.prog 3 #[v,av,.agg #[.int .i64 kind,.int .i64 at_,.int .i64 rule.kind,.int .i64 rule.tenant,.string rule.who,.int .i64 rule.broker,.string rule.sc,.slice ra rule.cs.length rc,.string rule.name,.int .i64 rule.at_,.string fs,.slice fa fl.length fc,.string es,.slice qa q.length qc,.int .i64 ver,.string org,.int .i64 ser]] w fun e w'=>e= .returned (.bool true)/\Mod (fun _=>False) w w':=by
 obtain ⟨a,cap,rfl,hcap⟩:∃a c,v= .slice a l.length c/\l.length<=c:=by obtain ⟨-,a,c,h,h2, -⟩:=hv.rd;exact ⟨a,c,h,h2⟩
 obtain ⟨aa,acap,rfl,sP⟩:∃a c,av= .slice a A.length c/\A.length<=c:=by obtain ⟨-,a,c,h,h2, -⟩:=hA.rd;exact ⟨a,c,h,h2⟩
 have Ut:(A.length:Int)<=9223372036854775807:=zo
 have Es:(A.length:Int)<=acap:=zo
 have hes':(es.size:Int)<=9223372036854775807:=zo
 have Uu:(q.length:Int)<=9223372036854775807:=zo
 obtain ⟨mc,hmc⟩:∃mc:List Value,[.int .i64 kind,.int .i64 at_,.int .i64 rule.kind,.int .i64 rule.tenant,.string rule.who,.int .i64 rule.broker,.string rule.sc,.slice ra rule.cs.length rc,.string rule.name,.int .i64 rule.at_,.string fs,.slice fa fl.length fc,.string es,.slice qa q.length qc,.int .i64 ver,.string org,.int .i64 ser]=mc:=⟨_,rfl⟩;obtain ⟨wb,hwb,ay,ak,aO⟩:=g8 w (.cells (mc.toArray) 33);have Mo:w.alloc (.cells #[.int .i64 kind,.int .i64 at_,.int .i64 rule.kind,.int .i64 rule.tenant,.string rule.who,.int .i64 rule.broker,.string rule.sc,.slice ra rule.cs.length rc,.string rule.name,.int .i64 rule.at_,.string fs,.slice fa fl.length fc,.string es,.slice qa q.length qc,.int .i64 ver,.string org,.int .i64 ser] 33)=wb:=by rw [<-hwb,<-hmc]
 have dW:=(⟨fun k h=>absurd rfl h,fun k h=>absurd rfl h,hl0⟩:Owd w w (fun _=>0));have hvb:Mov (fun t=>t=50) w (fun _=>0) _ _:=Mov.alloc dW (.cells (mc.toArray) 33) 50 (.inr (.inr rfl));rw [hwb] at hvb;obtain ⟨owb,ut⟩:∃o:Ow,r9 (fun _=>0) w.heap.size 50=o:=⟨_,rfl⟩;rw [ut] at hvb;have Mq:=hvb.owd dW zo;have hbx:BxE wb owb w.heap.size mc:=⟨by rw [<-ut];exact E3 _ _ _,ak⟩
 have Mr:∀k,owb k=0\/owb k=50:=fun k=>by
  rw [<-ut];unfold r9;split
  ·exact .inr rfl
  exact .inl rfl
 have hft:=b3a w wb (hl0.mod0 ay);obtain ⟨NT,kE,Hv,nH,HA,Uv,Jo,Hq,uZ,Nw,xu,Bj⟩:=zh12 hl0 hft hv hin hA OE hll hq nI Bl fE hfi;obtain ⟨yM,bD,Ms,jB,aT,dX,eF,Et,Uw,Yy,Mt⟩:=zh11 hmc hwb Mo ay ak hvb dW Mq ut hbx Mr;clear hl0 hft hv hin hA OE hll hq nI Bl fE hfi hmc hwb Mo ay ak hvb dW Mq ut hbx Mr hcap sP aO
 go_enter Tryz.func3,Tryz.ntmps3
 go_wp2_with (rw [show w.alloc _=wb from Ms.out])
 refine kE.out.mono ?_;rintro e w1 ⟨rfl,hm1⟩;have Mw:=hm1;have hm1:=jB.out.trans hm1 zi;have gp:=a7h w1 (.slice a l.length cap) l (Hv.out.mod hm1) Jo.out (fun r hr=>⟨(nH.out r hr).who,(nH.out r hr).name,(nH.out r hr).sc,fun c hc=>((nH.out r hr).cs c hc).1⟩);obtain ⟨dB,Mx,wQ⟩:=zh3 hm1 Mw gp;clear hm1 Mw gp kE
 go_wp2_with fail
 refine wQ.out.mono ?_;rintro e w2 ⟨b,rfl,hb,hm2⟩;have MB:=Mx.out.trans hm2 zi;have aG:=dB.out.trans hm2 zi;have hla:=a8d w2 (.slice aa A.length acap) A (HA.out.mod aG) FV Uv.out;obtain ⟨aI,MC,Hb,wm⟩:=zh4 aG MB hb hla;clear aG MB hb hla hm2
 cases b with
 |false=>
  go_wp2
  go_ret;exact ⟨rfl,aI.out⟩
 |true=>
 obtain ⟨Ef,ME⟩:=Hb.out rfl;have MF:=zh ME;clear ME
 go_wp2_with fail
 refine wm.out.mono ?_;rintro e w3 ⟨b2,rfl,hb2,aC⟩;have Eu:=MC.out.trans aC zi;have aS:=aI.out.trans aC zi;have hG3:=Eu.heap aT.out id;rw [<-yM.out] at hG3;have g0:w3.cell? ⟨w.heap.size,12,none⟩=some (.string es):=d6 hG3 rfl;have g1:w3.cell? ⟨w.heap.size,13,none⟩=some (.slice qa q.length qc):=d6 hG3 rfl;obtain ⟨aP,Ev,Hb2,Yz⟩:=zh4 aS Eu hb2 hG3;clear aS Eu hb2 hG3 aC
 cases b2 with
 |false=>
  go_wp2
  go_ret;exact ⟨rfl,aP.out⟩
 |true=>
 obtain ⟨Ux,qj⟩:=Hb2.out rfl;by_cases Uy:es.size<=60;rotate_left
 ·have Al:(60:Int)<es.size:=zo
  have yw:=zh qj;clear qj
  go_wp2
  go_ret;exact ⟨rfl,aP.out⟩
 have Al:(es.size:Int)<=60:=zo
 have MG:¬(60:Int)<es.size:=zo
 by_cases Uz:q.length<=20;rotate_left
 ·have Am:(20:Int)<q.length:=zo
  have yw:=zh qj;clear qj
  go_wp2
  go_ret;exact ⟨rfl,aP.out⟩
 have Am:(q.length:Int)<=20:=zo
 have MH:¬(20:Int)<q.length:=zo
 have Ew:∀r∈l,r.pru.fine:=fun r hr=>(nH.out r hr).fine (MF.out r hr);have hv3:=Mov.of Et.out Ev.out (fun _=>False);have ho3:=hv3.owd Et.out id;have hlr:=a85 w w3 owb ho3 aP.out Mt.out (.slice a l.length cap) l Hv.out Ef Ew;obtain ⟨yw,MI,FE,Hv3,Ya⟩:=zh5 qj Ew hlr hv3 ho3;clear qj Ew hlr hv3 ho3
 go_wp2_with fail
 refine FE.out.mono ?_;rintro e w4 ⟨ow4,gb,gl,vm,M,rfl,iV,hb4,OG,vN,aY,hk4⟩;obtain ⟨P,hP⟩:∃P,M4 (l.map Ru.pru)=P:=⟨_,rfl⟩;have FY:=a1Y (l.map Ru.pru);rw [hP] at FY hb4 vN;have pM:M.length=P.length:=by rw [<-vN,zz10]
 obtain ⟨va,vc,rfl,yR⟩:∃a c,vm= .slice a P.length c/\P.length<=c:=by obtain ⟨-,a,c,h,h2, -⟩:=OG.sl.rd;rw [pM] at h h2;exact ⟨a,c,h,h2⟩
 have Ex:BxE w4 ow4 w.heap.size mc:=⟨by rw [hk4.at_ _ (zz7 Yz.out).1];exact Yy.out.tag,hk4.md.heap (Ev.out.heap aT.out id) id⟩;obtain ⟨w5,gN⟩:∃w5:World,w4.alloc (.cells #[.slice none 0 0,.slice none 0 0,.slice none 0 0] 42)=w5:=⟨_,rfl⟩;have hv5:=Mov.alloc iV (.cells #[.slice none 0 0,.slice none 0 0,.slice none 0 0] 42) (F:=fun t=>t=43) 43 (.inr (.inr rfl));have hg5:w5.heap[w4.heap.size]? =some (.cells #[.slice none 0 0,.slice none 0 0,.slice none 0 0] 42 (0,0)):=gN▸heap_alloc_new w4 _;obtain ⟨ow5,iP⟩:∃o:Ow,r9 ow4 w4.heap.size 43=o:=⟨_,rfl⟩;rw [gN,iP] at hv5;have gH:=hv5.owd iV zo
 have YA:RoI w w5 ow5 gb w.heap.size gl w4.heap.size P ⟨P,fun _=>RS.zero⟩ 0 mc (.slice va P.length vc) M (.slice none 0 0) (.slice none 0 0) (.slice none 0 0) [] [] []:=
  ⟨gH,hb4.mov iV hv5 zo (fun t e=>zo),rfl,fun t _=>L0.zero,fun t _=>a3g.zero,hv5.mod0 iV aY zo,Ex.mov hv5 zo,OG.mov hv5 zo zo,
   ⟨hg5,by rw [<-iP];exact E3 _ _ _,V5.nil _ _ _ _ _,V5.nil _ _ _ _ _,fun f hf=>(by cases hf),fun f hf=>(by cases hf),Nat.le_refl _,Nat.le_refl _,V5.nil _ _ _ _ _,fun d hd=>(by cases hd),by rw [b49];exact M2.nil,rfl,List.Pairwise.nil⟩⟩
 clear g0 g1;obtain ⟨uX,Hb4,HM4,Ad,bK,XQ,HP,ky,UA,qA,Cq,je⟩:=zh12 iV hb4 OG vN aY hk4 hP pM Ex gN hv5 hg5;obtain ⟨jQ,mE,YB⟩:=zh3 iP gH YA;clear iV hb4 OG vN aY hk4 hP pM Ex gN hv5 hg5 iP gH YA;have MJ:(P.length:Int)<=vc:=zo
 clear yR
 go_wp2_with (rw [show w4.alloc _=w5 from qA.out])
 go_loopw [9,55] (fun sv i wr=>b63 w gb w.heap.size gl w4.heap.size P mc (.slice va P.length vc) M A.length sv i wr) (fun _ i _=>A.length - (intOf i).toNat)
 case atStart=>exact ⟨0,_,_,[],[],[],none,none,none,0,0,0,rfl,Nat.zero_le _,Nat.le_refl _,rfl,YB.out⟩
 case round =>
  obtain ⟨j,owr,B,N1,N2,Q,sa,a1,a2,sc,c1,c2,rfl,hj,hQj,rfl,hI⟩:=hrel;by_cases hlt:j<A.length
  ·have hlt':(j:Int)<A.length:=zo
   obtain ⟨x,hxj⟩:∃x,A[j]? =some x:=⟨_,zz5 hlt⟩;have hxm:=zz8 hxj;have gL:=HA.out.mod hI.md;have hmr:=hI.md;obtain ⟨ga,offa,rfl,hf⟩:=b2e gL hxj;have hxi:=Uv.out x hxm;have hxl:=yw.out x hxm;obtain ⟨hfs,hfl,hft⟩:=hxi.fits hxl;obtain ⟨wz,hwz,ai,aj,aJ⟩:=g8 wr (.cells x.cells.toArray 44);have dY:wr.alloc (.cells #[.int .i64 x.kind,.int .i64 x.tenant,.int .i64 x.frm,.string x.who,.string x.sc,.slice x.a x.cs.length x.c] 44)=wz:=hwz;have hmz:=hmr.trans ai zi;have hcs:=fun wx (hx:Mod (fun _=>False) wz wx)=>((gL.mod ai).cs x hxm).mod hx zi;have eU:=I8 wz x.sc (.slice x.a x.cs.length x.c) x.cs (hcs wz (Mod.refl _ _)) zo zo (fun c hc=>by have:=(hft c hc).name;omega);obtain ⟨R,hR⟩:∃R,l9 x.sc x.cs=R:=⟨_,rfl⟩;rw [hR] at eU;have z4:wz.cell? ⟨wr.heap.size,4,none⟩=some (.string x.sc):=d6 aj rfl;have z5:wz.cell? ⟨wr.heap.size,5,none⟩=some (.slice x.a x.cs.length x.c):=d6 aj rfl;obtain ⟨aK,cB,fH,Ic,Hf,PU,UB,kE,bi,ig,bn,aN⟩:=zh12 hmr hxj hxm gL hf hxi hxl hft hwz dY ai aj;obtain ⟨bG,gY,SK,HR,HI⟩:=zh5 hmz hcs eU hR hI;clear hmr hxj hxm gL hf hxi hxl hft hwz dY ai aj hmz hcs eU hR hI aJ hfs hfl
   go_wp2_with (first|((with_reducible refine d8 44 (.tmp 58) ?_);refine ⟨ga,offa+j*6,rfl,[.int .i64 x.kind,.int .i64 x.tenant,.int .i64 x.frm,.string x.who,.string x.sc,.slice x.a x.cs.length x.c],Hf.out,zk,zk, ?_⟩)|((with_reducible refine d9 44 (.tmp 12) (.tmp 59) ?_);refine ⟨rfl,[.int .i64 x.kind,.int .i64 x.tenant,.int .i64 x.frm,.string x.who,.string x.sc,.slice x.a x.cs.length x.c],rfl,rfl,zk,rfl, ?_⟩;rw [ig.out]))
   refine SK.out.mono ?_;rintro e w7 ⟨rfl,bu⟩;have iI:=HI.out.mod (bn.out.trans bu zi)
   cases R with
   |false=>
    have Jm:=zh iI;clear iI bu z4 z5
    go_wp2_with fail
    go_roundw
    case rel=>exact ⟨j+1,owr,B,N1,N2,Q,sa,a1,a2,sc,c1,c2,by go_num,hlt,zo,rfl,Jm.out.next⟩
    case measure=>simp [intOf];omega
   |true=>
    have dM:=bu.heap aN.out id;obtain ⟨w8,hw8⟩:∃w8:World,w7.alloc (.cells #[.slice none 0 0,.slice none 0 0] 49)=w8:=⟨_,rfl⟩;obtain ⟨lV,gD⟩:=M3.new iI.ow iI.br iI.L iI.R iI.md hw8;have dE:Mod (fun _=>False) w7 w8:=hw8▸(Mod.refl (fun _=>False) w7).alloc _;have yx:=iI.e.mov gD zo zo zo zo;have vP:=iI.bx.mov gD zo;have yz:=iI.lg.mov gD zo zo;have hc8:=gY.out w8 (bu.trans dE zi);have hc0:=HA.out.cs x fH.out;have lC:=dE.heap dM id
    have pq:r9 owr w7.heap.size 40 wr.heap.size=0:=by
     rw [gD.old _ (zz7 dM).1];exact HI.out.ow.zero (Nat.le_refl _)
    have y0:w8.cell? ⟨wr.heap.size,0,none⟩=some (.int .i64 x.kind):=d6 lC rfl;have y1:w8.cell? ⟨wr.heap.size,1,none⟩=some (.int .i64 x.tenant):=d6 lC rfl;have y2:w8.cell? ⟨wr.heap.size,2,none⟩=some (.int .i64 x.frm):=d6 lC rfl;have y3:w8.cell? ⟨wr.heap.size,3,none⟩=some (.string x.who):=d6 lC rfl;have y4:w8.cell? ⟨wr.heap.size,4,none⟩=some (.string x.sc):=d6 lC rfl;have y5:w8.cell? ⟨wr.heap.size,5,none⟩=some (.slice x.a x.cs.length x.c):=d6 lC rfl;obtain ⟨owo,jS⟩:∃o:Ow,r9 owr w7.heap.size 40=o:=⟨_,rfl⟩;rw [jS] at lV gD yx vP yz pq;obtain ⟨hfs,hfl, -⟩:=PU.out.fits UB.out;have hfx:a4n w ⟨x.sc,x.a,x.c,x.cs⟩:=⟨hc0,b07.of HR.out kE.out,hfs,(C7 HR.out).2.1,kE.out⟩;obtain ⟨kk,hkk,b8s⟩:=b6Y x.kind;by_cases hk1:kk=1
    ·obtain ⟨u,hu,hu2⟩:=b6w x.frm;have hkb:((kk:Int)==1)=true:=by rw [hk1];rfl
     obtain ⟨n,hn1,hn2,FZ,hwr⟩:=n12 hu2
     have vG:Calls Tryz.prog 9 #[.pointer (some ⟨gb,0,none⟩),.iface 51 (.pointer (some ⟨w7.heap.size,0,none⟩)),.int .i64 n,.int .i64 0,.agg #[.int .i64 1,.int .i64 0,.int .i64 0,.int .i64 0,.string ⟨#[]⟩,.int .i64 0,.string ⟨#[]⟩,.slice none 0 0,.string ⟨#[]⟩,.int .i64 0,
      .string x.sc,.slice x.a x.cs.length x.c,.string ⟨#[]⟩,.slice none 0 0,.int .i64 0,.string ⟨#[]⟩,.int .i64 0]] w8 fun e w'=>e= .returned (.bool true)/\
      ∃ow',M3 w w' ow' gb w7.heap.size P (B.takeB [1,2] 0 n (x.sc,j4 x.cs) true) (j+1) ([]++B.takeS [1,2] 0 n (x.sc,j4 x.cs) true) []/\Mov (W4 2 0 (fun t=>t=40)) w8 owo w' ow':=lV.take1 zo 0 zd n (b6f FZ) hc8 HR.out kE.out
     have kC:=iI.S.take [1,2] 0 n (x.sc,j4 x.cs) true;have lG:=iI.e.nr.take n (x.sc,x.cs);have jT:=B.takeB_S [1,2] n (x.sc,j4 x.cs);obtain ⟨Jm,mM,zL,UC,Lu,Cv,MK,ML,MM,UD,Hc0,vI⟩:=zh12 iI dM hw8 lV gD dE yx vP yz hc8 hc0 lC;obtain ⟨MN,Ey,vQ,Dv,uu,uw,uy,Ai,jH,YC⟩:=zh10 pq jS hfx vG kC lG jT hn1 hn2 FZ;clear iI dM hw8 lV gD dE yx vP yz hc8 hc0 lC pq jS hfx vG kC lG jT hn1 hn2 FZ bu z4 z5 hk1 hfs hfl hwr
     go_wp2_with (rw [show w7.alloc _=w8 from zL.out])
     rw [Ai.out];refine Dv.out.mono ?_;rintro e w9 ⟨rfl,ow9,mY,mZ⟩;obtain ⟨B9,yA⟩:∃B9,B.takeB [1,2] 0 n (x.sc,j4 x.cs) true=B9:=⟨_,rfl⟩;have kC:=uu.out;have lG:=uw.out;have jT:=uy.out;have hkp:kp (x.sc,x.cs)=(x.sc,j4 x.cs):=rfl;rw [hkp] at lG;rw [yA] at mY kC lG jT;have vR:=MK.out.mov mZ (P9 zo) (P9 zo) (P9 zo) (P9 zo);have Ao:=ML.out.mov mZ (P9 zo);have Ap:=MM.out.mov mZ (P9 zo) (P9 zo);have jr:=mZ.md.heap vI.out (fun hf=>P9 (.inl rfl) (by have hf':W4 2 0 (fun t=>t=40) (owo wr.heap.size):=hf;rwa [MN.out] at hf'));clear y0 y1 y2 y3 y4 y5;clear uu uw uy Dv;rw [List.nil_append] at mY;have MP:=vR;have UE:=u01 hu2 Ai.out;obtain ⟨dU,OH,YD,uu,uw,uy,uV,jU,MQ,MR,lN,b8t⟩:=zh12 mY mZ yA kC lG jT hkp vR Ao Ap jr MP;clear mY mZ yA kC lG jT hkp vR Ao Ap jr MP;rcases UE with ⟨rfl,rfl⟩|⟨rfl,rfl⟩
     ·have hu0:bits .and .i64 x.frm 1=0:=hu;clear hu;have UF:IntKind.i64.wrap (1:Int)=1:=zd
      have hS0:RgS wr.heap.size w4.heap.size 1 x.frm x.sc x.a x.cs.length x.c (.slice a1 N1.length c1) w9:=⟨d6 lN.out rfl,d6 lN.out rfl,d6 lN.out rfl,d6 jU.out.row rfl⟩;have hone:∀u∈([.string x.sc,.slice x.a x.cs.length x.c]:List Value),u.oneCell'=true:=fun u hu=>zz15 (show ([.string x.sc,.slice x.a x.cs.length x.c]:List Value).all (·.oneCell')=true from rfl) u hu
      have hnb:¬l5 (.slice a1 N1.length c1) w4.heap.size:=fun e=>by
       have h1:=jU.out.s1.vb _ e;rw [jU.out.tag] at h1;omega
      have Ez:ow9 wr.heap.size=0:=by rw [OH.out.old _ (zz7 vI.out).1];exact MN.out
      have MS:¬l5 (.slice a1 N1.length c1) wr.heap.size:=fun e=>by
       have h1:=jU.out.s1.vb _ e;rw [Ez] at h1;omega
      have UG:N1.length<=60:=by have:=jU.out.n1;omega
      obtain ⟨gQ,aX,gM,EA,Hz9⟩:=zh5 hS0 hone hnb MS Ez;clear hS0 hone hnb MS Ez
      go_wp2_with fail
      have hS:=gQ.out.mod ((Mod.refl (fun _=>False) w9).drew);refine i8 [.rd 0,.rd 1,.rd 2,.rd 3,.rd 4,.rd 5,.rd 6,.rd 7,.rd 8,.rd 9,.rd 10,.rd 11,.go 12,.go 13,.go 14,.go 15] [0,1,2,3,4,5,6,7,8,9,10,11,12,13] (RgS wr.heap.size w4.heap.size 1 x.frm x.sc x.a x.cs.length x.c (.slice a1 N1.length c1)) zk zk (fun _ _ d _ _ h=>(by cases d<;>exact h)) ?_
      iterate 12 (
       refine n4 rfl ?_ (fun _=>hS) ?_ (fun w0 h0=> ?_) (fun K hK=> ?_)
       ·exact zg
       rotate_left
       ·(try simp only [zz1,zz2,zz3])
        first
         |(obtain ⟨f0,f1,f2,f3⟩:=h0 rfl;clear h0;go_simp;with_reducible rfl)
         |(clear h0;go_simp;with_reducible rfl)
       (try simp only [zz1,zz2,zz3])
       go_simp;refine hK _ ?_;clear hK K)
      refine i6 (j0 rfl ?_ (fun K hK=> ?_))
      ·exact zg
      (try simp only [zz1,zz2,zz3]);obtain ⟨wU,yB,jV,uz,EB⟩:=g8 w9.drew (.cells #[.string x.sc,.slice x.a x.cs.length x.c] 26);have uA:w9.drew.alloc (.cells #[.string x.sc,.slice x.a x.cs.length x.c] 26)=wU:=yB;go_simp;refine hK _ _ (fun _ h=>h.mod jV) ?_;clear hK K hS;have uB:j3 wU 2 (.slice (some ⟨w9.heap.size,0,none⟩) 1 1) 1 [.string x.sc,.slice x.a x.cs.length x.c]:=yB▸j3.one w9.drew [.string x.sc,.slice x.a x.cs.length x.c] 26 rfl;have jW:Mod (fun _=>False) w9 wU:=((Mod.refl (fun _=>False) w9).drew).trans jV zi;have uC:=jU.out.s1.sl.mod jW zi;have MU:=jW.heap jU.out.row id;obtain ⟨EC,ED,EE,UH,HwU,UI,UJ,UK⟩:=zh8 uB jW uC MU yB uA jV uz;clear uB jW uC MU yB uA jV uz EB;refine i6 (j0 rfl ?_ (fun K hK=> ?_))
      ·exact zg
      (try simp only [zz1,zz2,zz3]);refine C6 (.tmp 87) (.tmp 90) 41 rfl 26 2 40 a9H (.slice a1 N1.length c1) N1.length (N1.flatMap Fr.cells) rfl EE.out (.slice (some ⟨w9.heap.size,0,none⟩) 1 1) 1 [.string x.sc,.slice x.a x.cs.length x.c] rfl EC.out aX.out zo (by unfold maxLen;omega) (fun ad cap2 wV kz=> ?_);refine hK _ _ (fun _ h=>⟨kz.2.1.cell h.y2 EA.out,kz.2.1.cell h.y4 EA.out,kz.2.1.cell h.y5 EA.out,kz.2.1.cell h.v0 gM.out⟩) ?_;clear hK K;have yC:=kz.2.1.heap UH.out gM.out;have kV:wV.cell? ⟨w4.heap.size,1,none⟩=some (.slice a1 N1.length c1):=d6 yC rfl;have fV:wV.frozen? ⟨w4.heap.size,1,none⟩=false:=J1 yC;obtain ⟨BC,UL⟩:=zh2 kz yC;clear kz yC;refine i6 (j0 rfl ?_ (fun K hK=> ?_))
      ·exact zg
      (try simp only [zz1,zz2,zz3]);go_simp;refine hK _ _ (fun h=>absurd h zd) ?_;clear hK K;refine i6 (j0 rfl ?_ (fun K hK=> ?_))
      ·exact zg
      (try simp only [zz1,zz2,zz3]);go_simp;refine hK _ _ (fun h=>absurd h zd) ?_;clear hK K;refine m6 ?_;obtain ⟨wW,uD⟩:∃wW:World,wV.setCell ⟨w4.heap.size,1,none⟩ (.slice ad (N1.length+1) cap2)=wW:=⟨_,rfl⟩;have EF:Mod (fun k=>k=w4.heap.size) wV wW:=uD▸(Mod.refl (fun k=>k=w4.heap.size) wV).setCell (fun _=>rfl) _
      have hgW:wW.heap[w4.heap.size]? =some (.cells #[.slice none 0 0,.slice ad (N1.length+1) cap2,.slice a2 N2.length c2] 42 (0,0)):=by
       rw [<-uD];exact o6 (i:=1) (v:= .slice ad (N1.length+1) cap2) UL.out
      rw [uD];have tH:M2 (B9.R 0).M (nrF (N1++[⟨x.sc,x.a,x.c,x.cs⟩]) N2):=by rw [<-b6N];exact uw.out
      obtain ⟨owW,EG,nk⟩:=jU.out.tell1 dU.out.ow ED.out ⟨x.sc,x.a,x.c,x.cs⟩ vQ.out BC.out hgW EF tH uy.out;have ny:RtE w wW owW w4.heap.size (.slice ad (N1++[(⟨x.sc,x.a,x.c,x.cs⟩:Fr)]).length cap2) (.slice a2 N2.length c2) (.slice sa Q.length sc) 55 (N1++[⟨x.sc,x.a,x.c,x.cs⟩]) N2 Q B9 (j+1):=by rw [zz4];exact EG
      have MV:RoI w wW owW gb w.heap.size gl w4.heap.size P B9 (j+1) mc (.slice va P.length vc) M (.slice ad (N1++[(⟨x.sc,x.a,x.c,x.cs⟩:Fr)]).length cap2) (.slice a2 N2.length c2) (.slice sa Q.length sc) (N1++[⟨x.sc,x.a,x.c,x.cs⟩]) N2 Q:=⟨nk.owd dU.out.ow zo,dU.out.br.mov dU.out.ow nk zo (fun t e=>zo),dU.out.L,dU.out.R,uu.out,nk.mod0 dU.out.ow dU.out.md zo,MQ.out.mov nk zo,MR.out.mov nk zo zo,ny⟩;obtain ⟨vH,HEW,HsW,UM,UN,HmW,HgW,HwW⟩:=zh8 tH EG nk ny MV EF hgW uD;clear tH EG nk ny MV EF hgW uD kV fV
      go_wp2_with fail
      go_roundw
      case rel=>exact ⟨j+1,owW,B9,N1++[⟨x.sc,x.a,x.c,x.cs⟩],N2,Q,sa,ad,a2,sc,cap2,c2,by go_num,hlt,zo,rfl,UN.out⟩
      case measure=>simp [intOf];omega
     have hu0:bits .and .i64 x.frm 1=1:=hu;clear hu;have UF:IntKind.i64.wrap (2:Int)=2:=zd
     have hS0:RgS wr.heap.size w4.heap.size 2 x.frm x.sc x.a x.cs.length x.c (.slice a2 N2.length c2) w9:=⟨d6 lN.out rfl,d6 lN.out rfl,d6 lN.out rfl,d6 jU.out.row rfl⟩;have hone:∀u∈([.string x.sc,.slice x.a x.cs.length x.c]:List Value),u.oneCell'=true:=fun u hu=>zz15 (show ([.string x.sc,.slice x.a x.cs.length x.c]:List Value).all (·.oneCell')=true from rfl) u hu
     have hnb:¬l5 (.slice a2 N2.length c2) w4.heap.size:=fun e=>by
      have h1:=jU.out.s2.vb _ e;rw [jU.out.tag] at h1;omega
     have Ez:ow9 wr.heap.size=0:=by rw [OH.out.old _ (zz7 vI.out).1];exact MN.out
     have MS:¬l5 (.slice a2 N2.length c2) wr.heap.size:=fun e=>by
      have h1:=jU.out.s2.vb _ e;rw [Ez] at h1;omega
     have UG:N2.length<=60:=by have:=jU.out.n2;omega
     obtain ⟨gQ,aX,gM,EA,Hz9⟩:=zh5 hS0 hone hnb MS Ez;clear hS0 hone hnb MS Ez
     go_wp2_with fail
     have hS:=gQ.out.mod ((Mod.refl (fun _=>False) w9).drew);refine i8 [.rd 0,.rd 1,.rd 2,.rd 3,.rd 4,.rd 5,.rd 6,.rd 7,.rd 8,.rd 9,.rd 10,.rd 11,.go 12,.go 13,.go 14,.go 15] [0,1,2,3,4,5,6,7,8,9,10,11,12,13] (RgS wr.heap.size w4.heap.size 2 x.frm x.sc x.a x.cs.length x.c (.slice a2 N2.length c2)) zk zk (fun _ _ d _ _ h=>(by cases d<;>exact h)) ?_
     iterate 12 (
      refine n4 rfl ?_ (fun _=>hS) ?_ (fun w0 h0=> ?_) (fun K hK=> ?_)
      ·exact zg
      rotate_left
      ·(try simp only [zz1,zz2,zz3])
       first
        |(obtain ⟨f0,f1,f2,f3⟩:=h0 rfl;clear h0;go_simp;with_reducible rfl)
        |(clear h0;go_simp;with_reducible rfl)
      (try simp only [zz1,zz2,zz3])
      go_simp;refine hK _ ?_;clear hK K)
     refine i6 (j0 rfl ?_ (fun K hK=> ?_))
     ·exact zg
     (try simp only [zz1,zz2,zz3]);obtain ⟨wU,yB,jV,uz,EB⟩:=g8 w9.drew (.cells #[.string x.sc,.slice x.a x.cs.length x.c] 26);have uA:w9.drew.alloc (.cells #[.string x.sc,.slice x.a x.cs.length x.c] 26)=wU:=yB;go_simp;refine hK _ _ (fun _ h=>h.mod jV) ?_;clear hK K hS;have uB:j3 wU 2 (.slice (some ⟨w9.heap.size,0,none⟩) 1 1) 1 [.string x.sc,.slice x.a x.cs.length x.c]:=yB▸j3.one w9.drew [.string x.sc,.slice x.a x.cs.length x.c] 26 rfl;have jW:Mod (fun _=>False) w9 wU:=((Mod.refl (fun _=>False) w9).drew).trans jV zi;have uC:=jU.out.s2.sl.mod jW zi;have MU:=jW.heap jU.out.row id;obtain ⟨EC,ED,EE,UH,HwU,UI,UJ,UK⟩:=zh8 uB jW uC MU yB uA jV uz;clear uB jW uC MU yB uA jV uz EB;refine i6 (j0 rfl ?_ (fun K hK=> ?_))
     ·exact zg
     (try simp only [zz1,zz2,zz3]);refine C6 (.tmp 87) (.tmp 90) 41 rfl 26 2 40 a9H (.slice a2 N2.length c2) N2.length (N2.flatMap Fr.cells) rfl EE.out (.slice (some ⟨w9.heap.size,0,none⟩) 1 1) 1 [.string x.sc,.slice x.a x.cs.length x.c] rfl EC.out aX.out zo (by unfold maxLen;omega) (fun ad cap2 wV kz=> ?_);refine hK _ _ (fun _ h=>⟨kz.2.1.cell h.y2 EA.out,kz.2.1.cell h.y4 EA.out,kz.2.1.cell h.y5 EA.out,kz.2.1.cell h.v0 gM.out⟩) ?_;clear hK K;have yC:=kz.2.1.heap UH.out gM.out;have kV:wV.cell? ⟨w4.heap.size,2,none⟩=some (.slice a2 N2.length c2):=d6 yC rfl;have fV:wV.frozen? ⟨w4.heap.size,2,none⟩=false:=J1 yC;obtain ⟨BC,UL⟩:=zh2 kz yC;clear kz yC;refine i6 (j0 rfl ?_ (fun K hK=> ?_))
     ·exact zg
     (try simp only [zz1,zz2,zz3]);go_simp;refine hK _ _ (fun h=>absurd h zd) ?_;clear hK K;refine i6 (j0 rfl ?_ (fun K hK=> ?_))
     ·exact zg
     (try simp only [zz1,zz2,zz3]);go_simp;refine hK _ _ (fun h=>absurd h zd) ?_;clear hK K;refine m6 ?_;obtain ⟨wW,uD⟩:∃wW:World,wV.setCell ⟨w4.heap.size,2,none⟩ (.slice ad (N2.length+1) cap2)=wW:=⟨_,rfl⟩;have EF:Mod (fun k=>k=w4.heap.size) wV wW:=uD▸(Mod.refl (fun k=>k=w4.heap.size) wV).setCell (fun _=>rfl) _
     have hgW:wW.heap[w4.heap.size]? =some (.cells #[.slice none 0 0,.slice a1 N1.length c1,.slice ad (N2.length+1) cap2] 42 (0,0)):=by
      rw [<-uD];exact o6 (i:=2) (v:= .slice ad (N2.length+1) cap2) UL.out
     rw [uD];have tH:M2 (B9.R 0).M (nrF N1 (N2++[⟨x.sc,x.a,x.c,x.cs⟩])):=by rw [<-b6O];exact uw.out
     obtain ⟨owW,EG,nk⟩:=jU.out.tell2 dU.out.ow ED.out ⟨x.sc,x.a,x.c,x.cs⟩ vQ.out BC.out hgW EF tH uy.out;have ny:RtE w wW owW w4.heap.size (.slice a1 N1.length c1) (.slice ad (N2++[(⟨x.sc,x.a,x.c,x.cs⟩:Fr)]).length cap2) (.slice sa Q.length sc) 55 N1 (N2++[⟨x.sc,x.a,x.c,x.cs⟩]) Q B9 (j+1):=by rw [zz4];exact EG
     have MV:RoI w wW owW gb w.heap.size gl w4.heap.size P B9 (j+1) mc (.slice va P.length vc) M (.slice a1 N1.length c1) (.slice ad (N2++[(⟨x.sc,x.a,x.c,x.cs⟩:Fr)]).length cap2) (.slice sa Q.length sc) N1 (N2++[⟨x.sc,x.a,x.c,x.cs⟩]) Q:=⟨nk.owd dU.out.ow zo,dU.out.br.mov dU.out.ow nk zo (fun t e=>zo),dU.out.L,dU.out.R,uu.out,nk.mod0 dU.out.ow dU.out.md zo,MQ.out.mov nk zo,MR.out.mov nk zo zo,ny⟩;obtain ⟨vH,HEW,HsW,UM,UN,HmW,HgW,HwW⟩:=zh8 tH EG nk ny MV EF hgW uD;clear tH EG nk ny MV EF hgW uD kV fV
     go_wp2_with fail
     go_roundw
     case rel=>exact ⟨j+1,owW,B9,N1,N2++[⟨x.sc,x.a,x.c,x.cs⟩],Q,sa,a1,ad,sc,c1,cap2,by go_num,hlt,zo,rfl,UN.out⟩
     case measure=>simp [intOf];omega
    have hkb:((kk:Int)==1)=false:=by rw [beq_eq_false_iff_ne];omega
    have hsu:Calls Tryz.prog 10 #[.pointer (some ⟨gb,0,none⟩),.iface 51 (.pointer (some ⟨w7.heap.size,0,none⟩)),.int .i64 0,.string x.who,.int .i64 j,.agg #[.string x.sc,.slice x.a x.cs.length x.c]] w8 fun e w'=>e= .returned (.int .i64 (B.subE 0 0 x.who x.sc x.cs))/\
     ∃ow',M3 w w' ow' gb w7.heap.size P (B.subB 0 [1,2] 0 x.who j x.sc x.cs) (j+1) ([]++B.subS 0 [1,2] 0 x.who j x.sc x.cs) []/\Mov (W4 2 0 (fun t=>t=40)) w8 owo w' ow':=lV.sub FY zo 0 zd x.who x.sc x.a x.c x.cs hc8 hfs hfl kE.out
    have kC:=iI.S.sub iI.R 0 [1,2] (show 0<4 by decide) x.who x.sc kE.out;have lG:=iI.e.nr.sub 0 x.who j x.sc x.cs;have jT:=B.subB_S 0 [1,2] x.who j x.sc x.cs;obtain ⟨Jm,mM,zL,UC,Lu,Cv,MK,ML,MM,UD,Hc0,vI⟩:=zh12 iI dM hw8 lV gD dE yx vP yz hc8 hc0 lC;obtain ⟨MN,Ey,vQ,dH,uu,uw,uy⟩:=zh7 pq jS hfx hsu kC lG jT;clear iI dM hw8 lV gD dE yx vP yz hc8 hc0 lC pq jS hfx hsu kC lG jT bu z4 z5 hk1 hfs hfl
    go_wp2_with (rw [show w7.alloc _=w8 from zL.out])
    refine dH.out.mono ?_;rintro e w9 ⟨rfl,ow9,mY,mZ⟩;obtain ⟨B9,yA⟩:∃B9,B.subB 0 [1,2] 0 x.who j x.sc x.cs=B9:=⟨_,rfl⟩;obtain ⟨E9,hEe⟩:∃E9,B.subE 0 0 x.who x.sc x.cs=E9:=⟨_,rfl⟩;have kC:=uu.out;have lG:=uw.out;have jT:=uy.out;rw [yA] at mY kC lG jT;rw [hEe] at jT⊢;have vR:=MK.out.mov mZ (P9 zo) (P9 zo) (P9 zo) (P9 zo);have Ao:=ML.out.mov mZ (P9 zo);have Ap:=MM.out.mov mZ (P9 zo) (P9 zo);have jr:=mZ.md.heap vI.out (fun hf=>P9 (.inl rfl) (by have hf':W4 2 0 (fun t=>t=40) (owo wr.heap.size):=hf;rwa [MN.out] at hf'));clear y0 y1 y2 y3 y4 y5;clear uu uw uy dH;by_cases hE0:E9=0
    ·subst hE0;rw [if_pos rfl] at jT;have hone:∀u∈(Dp.cells ⟨j,x,0⟩),u.oneCell'=true:=fun u hu=>zz15 (show (Dp.cells ⟨j,x,0⟩).all (·.oneCell')=true from rfl) u hu;obtain ⟨wS,gP,bX,iE,iF⟩:=g8 w9 (.cells (Dp.cells ⟨j,x,0⟩).toArray 55);have fw:w9.alloc (.cells #[.int .i64 j,.int .i64 x.kind,.int .i64 x.tenant,.int .i64 x.frm,.string x.who,.string x.sc,.slice x.a x.cs.length x.c] 55)=wS:=gP;have kQ:j3 wS 7 (.slice (some ⟨w9.heap.size,0,none⟩) 1 1) 1 (Dp.cells ⟨j,x,0⟩):=gP▸j3.one w9 (Dp.cells ⟨j,x,0⟩) 55 rfl;have qi:=vR.sl.sl.mod bX zi;obtain ⟨dU,OH,YD,HEe,uu,uw,uy,jU,MQ,MR,lN,aX⟩:=zh12 mY mZ yA hEe kC lG jT vR Ao Ap jr hone;obtain ⟨WK,jG,En,El,Em⟩:=zh5 gP fw bX kQ qi;clear mY mZ yA hEe kC lG jT vR Ao Ap jr hone gP fw bX kQ qi iF iE
     go_wp2_with (first|((with_reducible refine d8 44 (.tmp 12) ?_);refine ⟨wr.heap.size,0,rfl,[.int .i64 x.kind,.int .i64 x.tenant,.int .i64 x.frm,.string x.who,.string x.sc,.slice x.a x.cs.length x.c],e9.row lN.out,zk,zk, ?_⟩)|(rw [show w9.alloc _=wS from jG.out])|((with_reducible refine l0 (.tmp 102) (.tmp 106) 40 ?_);refine ⟨rfl,55,7,88,b5a,.slice sa Q.length sc,Q.length,dps Q,rfl,Em.out,_,1,(Dp.cells ⟨j,x,0⟩),rfl,El.out,aX.out,zo,by unfold maxLen;omega, ?_⟩;intro ad cp2 wA kz;have UO:=Lib.hid kz;clear kz))
     have hms:Mod (fun _=>False) w9 wS:=En.out;obtain ⟨owA,UQ,hsA⟩:=jU.out.sub dU.out.ow hms x ⟨vQ.out,UB.out.who⟩ UO.out uw.out uy.out;have YE:(Q++[(⟨j,x,0⟩:Dp)]).length=Q.length+1:=by rw [zz4];rfl
     have YF:RoI w wA owA gb w.heap.size gl w4.heap.size P B9 (j+1) mc (.slice va P.length vc) M (.slice a1 N1.length c1) (.slice a2 N2.length c2) (.slice ad (Q.length+1) cp2) N1 N2 (Q++[⟨j,x,0⟩]):=⟨hsA.owd dU.out.ow zo,dU.out.br.mov dU.out.ow hsA zo (fun t e=>zo),dU.out.L,dU.out.R,uu.out,hsA.mod0 dU.out.ow dU.out.md zo,MQ.out.mov hsA zo,MR.out.mov hsA zo zo,UQ⟩;obtain ⟨HEA,HsA,YG,HIA⟩:=zh4 UQ hsA YE YF;clear UQ hsA YE YF
     go_roundw
     case rel=>exact ⟨j+1,owA,B9,N1,N2,Q++[⟨j,x,0⟩],ad,a1,a2,cp2,c1,c2,by go_num,hlt,by have:=YG.out;omega,by rw [YG.out],HIA.out⟩
     case measure=>simp [intOf];omega
    rw [if_neg hE0,zz11] at jT;have hEb:(E9==0)=false:=by rw [beq_eq_false_iff_ne];exact hE0
    have jk:RoI w w9 ow9 gb w.heap.size gl w4.heap.size P B9 (j+1) mc (.slice va P.length vc) M (.slice a1 N1.length c1) (.slice a2 N2.length c2) (.slice sa Q.length sc) N1 N2 Q:=RoI.of mY kC Ao Ap (vR.B lG jT).next;obtain ⟨dU,OH,YD,HEe,uu,uw,uy,jU,MQ,MR,lN,iQ⟩:=zh12 mY mZ yA hEe kC lG jT vR Ao Ap jr jk;clear mY mZ yA hEe kC lG jT vR Ao Ap jr jk hE0
    go_wp2_with fail
    go_roundw
    case rel=>exact ⟨j+1,ow9,B9,N1,N2,Q,sa,a1,a2,sc,c1,c2,by go_num,hlt,zo,rfl,iQ.out⟩
    case measure=>simp [intOf];omega
  as_aux_lemma =>
  obtain rfl:j=A.length:=zo
  obtain ⟨we,rfl⟩:∃x:World,x=wr:=⟨_,rfl⟩;have hrow:=hI.bx.row;rw [<-yM.out] at hrow;have cK:we.cell? ⟨w.heap.size,0,none⟩=some (.int .i64 kind):=d6 hrow rfl;have fK:we.frozen? ⟨w.heap.size,0,none⟩=false:=J1 hrow;have cE:we.cell? ⟨w.heap.size,12,none⟩=some (.string es):=d6 hrow rfl;have cL:we.cell? ⟨w.heap.size,13,none⟩=some (.slice qa q.length qc):=d6 hrow rfl;obtain ⟨wk,hwk⟩:∃wk:World,we.setCell ⟨w.heap.size,0,none⟩ (.int .i64 3)=wk:=⟨_,rfl⟩;have hmk:Mod (fun k=>k=w.heap.size) we wk:=hwk▸(Mod.refl (fun k=>k=w.heap.size) we).setCell (fun _=>rfl) _
  have YH:wk.heap[w.heap.size]? =some (.cells #[.int .i64 3,.int .i64 at_,.int .i64 rule.kind,.int .i64 rule.tenant,.string rule.who,.int .i64 rule.broker,.string rule.sc,.slice ra rule.cs.length rc,.string rule.name,.int .i64 rule.at_,.string fs,.slice fa fl.length fc,.string es,.slice qa q.length qc,.int .i64 ver,.string org,.int .i64 ser] 33 (0,0)):=by
   rw [<-hwk];exact o6 (i:=0) (v:= .int .i64 3) hrow
  have hsk:Mov (fun t=>t=50) we owr wk owr:=Mov.wrote hI.ow hmk (fun k hk=>by rw [hk];exact hI.bx.tag);have hqk:j3 wk 6 (.slice qa q.length qc) q.length (k7 q):=(Hq.out.mod hI.md zi).mod1 hmk (fun h0 b hb e=>by have h1:=Hq.out.low zo h0 b hb;have h2:b=w.heap.size:=e;omega);have hev:=b5R wk es (.slice qa q.length qc) q hqk zo zo (a5p q fun a ha=>by have:=(uZ.out a ha).1;show a.canon.name.size<=_;have e:a.canon.name=a.name:=rfl;rw [e];omega);obtain ⟨s7,hs7⟩:∃s7,a8q es=s7:=⟨_,rfl⟩;obtain ⟨l7,lM⟩:∃l7,a2n q=l7:=⟨_,rfl⟩;have EH:=b6h es q;have EI:∀a∈a2n q,a.v.num<2^64:=fun a ha=>a5p (p:=fun a=>a.v.num<2^64) q (fun b hb=>b1d (Nw.out b hb)) a (List.mem_filter.1 (List.mem_of_mem_take ha)).1;rw [hs7,lM] at hev EH;rw [lM] at EI;obtain ⟨HI,iH,OC,uT,YI,iU,FD,Om,Fx,vg,iR,qo⟩:=zh12 hI hrow hwk hmk YH hsk hqk hev hs7 lM EH EI;clear hI hrow hwk hmk YH hsk hqk hev hs7 lM EH EI
  go_wp2_with fail
  rw [OC.out];refine Om.out.mono ?_;rintro e w5 ⟨v7,rfl,hv7,MW,aW⟩;obtain ⟨ya,yc,rfl, -⟩:=hv7.shape;have hg5:=aW.heap YI.out id;obtain ⟨V,hV,hV2⟩:=b6l ver;obtain ⟨R,xD,hR2⟩:∃R:Nat,R<=P.length+1/\(bits .and .i64 ver 255).tmod ((P.length:Int)+2)=R:=⟨V%(P.length+2),by have:=Nat.mod_lt V (show 0<P.length+2 by omega);omega,by rw [hV];rfl⟩;have Ei:(P.length:Int)<=40:=zo
  obtain ⟨u,hu,hu2⟩:=b6w at_;obtain ⟨n,hn1,hn2,FZ, -⟩:=n12 hu2;have UR:(R:Int)<=41:=zo
  clear cK fK cE cL;obtain ⟨Oy,MX,fJ,je,HV,HR1,Ai,jH,YC⟩:=zh9 hv7 MW aW hg5 hV xD hn1 hn2 FZ;clear hv7 MW aW hg5 hV xD hn1 hn2 FZ hV2
  go_wp2_with ((with_reducible refine s5 31 (.tmp 117) (.tmp 116) ?_);refine ⟨w.heap.size,12,rfl,_,_,je.out,[.string s7,.slice ya l7.length yc],rfl,Nat.le_of_ble_eq_true rfl,zk,rfl, ?_⟩;intro w6 IL bU;have bZ:w6.heap[w.heap.size]? =some (.cells #[.int .i64 3,.int .i64 at_,.int .i64 rule.kind,.int .i64 rule.tenant,.string rule.who,.int .i64 rule.broker,.string rule.sc,.slice ra rule.cs.length rc,.string rule.name,.int .i64 rule.at_,.string fs,.slice fa fl.length fc,.string s7,.slice ya l7.length yc,.int .i64 ver,.string org,.int .i64 ser] 33 (0,0)):=IL▸setRow_heap w5 w.heap.size _ _ _ _ je.out;have cV:w6.cell? ⟨w.heap.size,14,none⟩=some (.int .i64 ver):=d6 bZ rfl;have fV:w6.frozen? ⟨w.heap.size,14,none⟩=false:=J1 bZ;have cA:w6.cell? ⟨w.heap.size,1,none⟩=some (.int .i64 at_):=d6 bZ rfl;have gU:=Lib.hid bZ;have gF:=Lib.hid bU;clear IL bZ bU)
  obtain ⟨w7,hw7⟩:∃w7:World,w6.setCell ⟨w.heap.size,14,none⟩ (.int .i64 R)=w7:=⟨_,rfl⟩;rw [hw7];obtain ⟨w8,hw8⟩:∃w8:World,w7.alloc (.cells #[.slice none 0 0,.slice none 0 0] 49)=w8:=⟨_,rfl⟩;rw [hw8];obtain ⟨vC,zL⟩:=zh2 hw7 hw8;clear hw7 hw8;rw [Ai.out];have yD:Mov (fun t=>t=50) we owr w5 owr:=iU.out.trans (Mov.of (iU.out.owd HI.out.ow zo) fJ.out (fun t=>t=50));have gH:=yD.owd HI.out.ow zo;have MZ:=HI.out.bx.tag;have hs6:Mov (fun t=>t=50) w5 owr w6 owr:=Mov.wrote gH gF.out (fun k hk=>by have hk':k=w.heap.size:=hk;rw [hk'];exact MZ);have vO:=hs6.owd gH zo;have bu:Mod (fun k=>k=w.heap.size) w6 w7:=vC.out▸(Mod.refl (fun k=>k=w.heap.size) w6).setCell (fun _=>rfl) _
  have dM:w7.heap[w.heap.size]? =some (.cells #[.int .i64 3,.int .i64 at_,.int .i64 rule.kind,.int .i64 rule.tenant,.string rule.who,.int .i64 rule.broker,.string rule.sc,.slice ra rule.cs.length rc,.string rule.name,.int .i64 rule.at_,.string fs,.slice fa fl.length fc,.string s7,.slice ya l7.length yc,.int .i64 R,.string org,.int .i64 ser] 33 (0,0)):=by
   rw [<-vC.out];exact o6 (i:=14) (v:= .int .i64 R) gU.out
  have hs7:Mov (fun t=>t=50) w6 owr w7 owr:=Mov.wrote vO bu (fun k hk=>by have hk':k=w.heap.size:=hk;rw [hk'];exact MZ);have nz:=(yD.trans hs6).trans hs7;have yu:=nz.owd HI.out.ow zo;have qL:=HI.out.br.mov HI.out.ow nz zo (fun t e=>zo);have hL7:=HI.out.lg.mov nz zo zo;have zt:=HI.out.e.mov nz zo zo zo zo;have EJ:=nz.mod0 HI.out.ow HI.out.md zo;have UT:BxE w7 owr w.heap.size [.int .i64 3,.int .i64 at_,.int .i64 rule.kind,.int .i64 rule.tenant,.string rule.who,.int .i64 rule.broker,.string rule.sc,.slice ra rule.cs.length rc,.string rule.name,.int .i64 rule.at_,.string fs,.slice fa fl.length fc,.string s7,.slice ya l7.length yc,.int .i64 R,.string org,.int .i64 ser]:=⟨MZ,dM⟩;have hlow:∀b,(Value.slice ya l7.length yc).ownBlock=some b->we.heap.size<=b:=fun b hb=>Nat.le_trans uT.out.size (MX.out b hb);have YJ:w.heap.size<we.heap.size:=(zz7 iH.out).1;have OI:o3 w7 owr 6 (.slice ya l7.length yc) l7.length (k7 l7):=⟨(Oy.out.rd.mod gF.out (fun b hb e=>by have h1:=hlow b hb;have h3:b=w.heap.size:=e;omega)).mod bu (fun b hb e=>by have h1:=hlow b hb;have h3:b=w.heap.size:=e;omega),fun _ b hb=>HI.out.ow.zero (hlow b hb)⟩;obtain ⟨lV,gD⟩:=M3.new yu qL HI.out.L HI.out.R EJ zL.out;obtain ⟨owo,jS⟩:∃o:Ow,r9 owr w7.heap.size 40=o:=⟨_,rfl⟩;rw [jS] at lV gD;have EK:w7.heap.size=w6.heap.size:=by rw [<-vC.out];simp
  rw [EK] at lV;have yx:=zt.mov gD zo zo zo zo;have vP:=UT.mov gD zo;have yz:=hL7.mov gD zo zo;have UU:X3 w8 owo ⟨roM at_ rule fs fl s7 l7 R org ser,ra,rc,fa,fc,ya,yc⟩:=⟨o3.of_rd lV.ow xu.out zo,o3.of_rd lV.ow Bj.out zo,OI.mov gD zo zo⟩;have UV:RoI w w8 owo gb w.heap.size gl w4.heap.size P B A.length [.int .i64 3,.int .i64 at_,.int .i64 rule.kind,.int .i64 rule.tenant,.string rule.who,.int .i64 rule.broker,.string rule.sc,.slice ra rule.cs.length rc,.string rule.name,.int .i64 rule.at_,.string fs,.slice fa fl.length fc,.string s7,.slice ya l7.length yc,.int .i64 R,.string org,.int .i64 ser] (.slice va P.length vc) M (.slice a1 N1.length c1) (.slice a2 N2.length c2) (.slice sa Q.length sc) N1 N2 Q:=RoI.of lV HI.out.S vP yz yx;have hc8:=OI.mov gD zo zo;have hro:=b5c FY zo lV UV hc8 UU iR.out (n:Int);have YK:=BxS.of (R:=R) vP.row rfl rfl;obtain ⟨UW,mE,Htg,Fw,LV,nQ,mM,Fx,UX,ug,LX,HL7⟩:=zh12 yD gH MZ hs6 vO bu dM hs7 nz yu qL hL7;obtain ⟨Qy,UY,HX7,CO,Hwe,Hc7,UC,Lu,Ey,UZ,MK,ML⟩:=zh12 zt EJ UT hlow YJ OI lV gD jS EK yx vP;obtain ⟨MM,Hx8,HI8,UD,Oq,YL⟩:=zh6 yz UU UV hc8 hro YK;clear yD gH MZ hs6 vO bu dM hs7 nz yu qL hL7 zt EJ UT hlow YJ OI lV gD jS EK yx vP yz UU UV hc8 hro YK;by_cases OJ:R<=P.length
  case' pos=>
   have EL:(R:Int)<=P.length:=zo
  case' neg=>
   have EL:¬(R:Int)<=P.length:=zo
   have Va:(P.length:Int)<R:=zo
  all_goals
   have hS:=(YL.out.mod ((Mod.refl (fun _=>False) w8).drew));refine i8 [.rd 0,.rd 1,.rd 2,.rd 3,.rd 5,.rd 6,.rd 7,.rd 8,.rd 9,.go 4,.go 10] [0,1,2,3,4,5,6,7,8,9] (BxS w.heap.size [.int .i64 3,.int .i64 at_,.int .i64 rule.kind,.int .i64 rule.tenant,.string rule.who,.int .i64 rule.broker,.string rule.sc,.slice ra rule.cs.length rc,.string rule.name,.int .i64 rule.at_,.string fs,.slice fa fl.length fc,.string s7,.slice ya l7.length yc,.int .i64 R,.string org,.int .i64 ser] R) zk zk (fun _ _ d _ _ h=>(by cases d<;>exact h)) ?_
   iterate 9 (
    refine n4 rfl ?_ (fun _=>hS) ?_ (fun w0 h0=> ?_) (fun K hK=> ?_)
    ·exact zg
    rotate_left
    ·(try simp only [zz1,zz2,zz3])
     first
      |(obtain ⟨f0,f1,f2⟩:=h0 rfl;clear h0;go_simp;with_reducible rfl)
      |(clear h0;go_simp;with_reducible rfl)
    (try simp only [zz1,zz2,zz3])
    go_simp;refine hK _ ?_;clear hK K)
   refine i6 (j0 rfl ?_ (fun K hK=> ?_))
   ·exact zg
   go_wp2_with fail
   refine (Oq.out w8.drew ((Mod.refl _ w8).drew)).mono ?_;rintro e w9 ⟨rfl,ow9,S2,H2,yE,YM,mY,YN⟩;refine hK _ _ (fun _ _=>BxS.of mY.bx.row rfl rfl) ?_;clear hK K hS;obtain ⟨Vb,Vd,dU,YO⟩:=zh4 yE YM mY YN;clear yE YM mY YN;refine i6 (j0 rfl ?_ (fun K hK=> ?_))
   ·exact zg
   (try simp only [zz1,zz2,zz3]);go_simp;refine hK _ _ (fun h=>absurd h zd) ?_;clear hK K;refine m6 ?_
  ·as_aux_lemma=>
   have yE:=Vb.out;rw [if_neg (Int.not_le.2 Va)] at yE;cases yE
   obtain ⟨v1,v2,S',H',hot,hS',vM⟩:=Vd.out.O;obtain rfl:S'=[]:=List.map_eq_nil_iff.1 hS';obtain rfl:H'=[]:=List.map_eq_nil_iff.1 vM;obtain ⟨b1,d1,rfl, -⟩:=hot.s1.shape;obtain ⟨b2,d2,rfl, -⟩:=hot.s2.shape;have yF:=hot.row;have o0:w9.cell? ⟨w6.heap.size,0,none⟩=some (.slice b1 0 d1):=d6 yF rfl;have o1:w9.cell? ⟨w6.heap.size,1,none⟩=some (.slice b2 0 d2):=d6 yF rfl;have c14:w9.cell? ⟨w.heap.size,14,none⟩=some (.int .i64 R):=d6 dU.out.bx.row rfl;have zl:=dU.out.md;obtain ⟨YP,b8u,Fs⟩:=zh3 hot yF zl;clear hot yF zl hS' vM
   go_wp2_with fail
   go_ret;exact ⟨rfl,Fs.out⟩
  as_aux_lemma =>
  have yE:=Vb.out;rw [if_pos EL] at yE;obtain ⟨hS2,hH2⟩:=Prod.mk.inj yE;have c14:w9.cell? ⟨w.heap.size,14,none⟩=some (.int .i64 R):=d6 dU.out.bx.row rfl;have hat:=b5b w9 va vc (M.map Lr.ru) P.length (by rw [zz10];exact ky.out) dU.out.lg.ru zo R OJ;obtain ⟨HS2,YQ,xM⟩:=zh3 hS2 hH2 hat;clear hS2 hH2 hat;clear yE
  go_wp2_with fail
  refine xM.out.mono ?_;rintro e w10 ⟨vA,rfl,hown,hfr,uE⟩;obtain ⟨AR,Ga⟩:∃AR,atR (M.map Lr.ru) R=AR:=⟨_,rfl⟩;have uF:∀r∈AR,r∈M.map Lr.ru:=fun r hr=>by rw [<-Ga] at hr;exact a3u hr
  have yG:(M.map Lr.ru).map Ru.pru=P:=by rw [List.map_map];exact Ad.out
  have vK:AR.map Ru.pru=atP P R:=by rw [<-Ga,a3t,yG]
  have Ve:AR.length<=40:=by
   rw [<-Ga,<-a5P (M.map Lr.ru) (n:=R) (by rw [zz10,ky.out];exact OJ)];exact Nat.le_trans (a5Q _ _ _) zo
  rw [Ga] at hown;obtain ⟨aA,cA,rfl,hcA⟩:=hown.shape;have jk:=dU.out.mod uE;have Aq:I9 w10 (.slice aA AR.length cA) AR:=⟨hown.rd,fun r hr=>jk.lg.ru.ok r (uF r hr)⟩;have OL:=a7u (l.map Ru.pru);have OM:=a88 (l:=l.map Ru.pru) (fun q hq=>by obtain ⟨r,hr,rfl⟩:=List.mem_map.1 hq;exact MI.out r hr);rw [HP.out] at OL OM;have OO:∀r∈AR,r.pru∈P:=fun r hr=>by rw [<-yG];exact List.mem_map_of_mem (uF r hr)
  have hbr:∀r∈AR,r.kind=0->0<=r.broker:=fun r hr hk=>OL r.pru (OO r hr) hk
  have dW:∀r∈AR,r.kind=2->okQ (r.sc,r.cs)/\a4D r.cs:=fun r hr hk=>by
   have h1:=OM r.pru (OO r hr) hk;have h1:okN (r.sc,r.cs):=h1;obtain ⟨y,hy,Vf⟩:=List.mem_map.1 (uF r hr);have Ar:=(jk.lg.each y hy).fine;rw [<-Vf] at h1⊢;exact ⟨b3w (p:=y.1) h1 Ar,b3h h1⟩
  obtain ⟨m,hm⟩:∃m:Mg,roM at_ rule fs fl s7 l7 R org ser=m:=⟨_,rfl⟩;have uo:m.es=s7:=by rw [<-hm];rfl
  have uq:m.el=l7:=by rw [<-hm];rfl
  have uG:m.ver=R:=by rw [<-hm];rfl
  have hH3:H2=Q.filterMap (roG P R m):=by
   rw [YQ.out,hm];exact b3y jk (by rw [uq];exact iR.out.ris) uG OJ
  have hsc2:Q.length<=sc:=by obtain ⟨-,a',c',h,h2, -⟩:=jk.e.sl.sl.rd;cases h;exact h2
  have Na:(Q.length:Int)<=sc:=zo
  have hQl:Q.length<=30:=zo
  have uH:=jk.bx.row;have fQ:Mod (fun _=>False) w10 w10:=Mod.refl _ _;have Nb:=YO.out.mov (Mov.of dU.out.ow uE (fun _=>False)) id zo;obtain ⟨v1,v2,S',H',hot,hS',vM⟩:=Vd.out.O;have Au:=hot.mov (Mov.of dU.out.ow uE (fun _=>False)) id id;have YR:H'.map Go.Proofs.YtebhabpahfmodaaGreatDoor.Hv.hn=Q.filterMap (roG P R m):=vM.trans hH3;obtain ⟨YP,YS,HH',dI,Gb⟩:=zh5 hot hS' vM Au YR;clear hot hS' vM Au YR;obtain ⟨aZ,bB,Vg,HAR,Vh,Vi,FW,iQ,og,HlP,HlO,HmP⟩:=zh12 hown hfr uE Ga uF yG vK jk Aq OL OM OO;obtain ⟨bV,eF,Hm,qp,nA,uI,HH3,dV,BJ,qw⟩:=zh10 hbr dW hm uo uq uG hH3 uH fQ Nb;clear hown hfr uE Ga uF yG vK jk Aq OL OM OO hbr dW hm uo uq uG hH3 uH fQ Nb hcA hsc2
  go_wp2_with fail
  go_loopw [17,160] (fun nv i wr=>∃k:Nat,nv= .int .i64 (((Q.take k).filterMap (roG P R m)).length:Nat)/\i= .int .i64 k/\k<=Q.length/\Mod (fun _=>False) w10 wr) (fun _ i _=>Q.length - (intOf i).toNat)
  case atStart=>exact ⟨0,rfl,rfl,Nat.zero_le _,BJ.out⟩
  case round =>
   as_aux_lemma =>
    obtain ⟨k,rfl,rfl,hk,hmk⟩:=hrel;clear FV xL hes Ut Es hes' Uu NT nH HA Uv Jo Hq uZ Nw xu Bj yM bD Ms jB aT dX Et Uw Yy Mt hm1 dB Mx wQ aI MC wm Ef MF Hb aP Ev Yz Uy Al Uz Am yw MI FE Hv3 Ya Hb2 MG MH FY uX Hb4 HM4 Ad bK XQ HP ky UA qA Cq jQ YB MJ HI iH OC YI iU FD Om vg hR2 Ei hu2 UR Oy MX fJ je HV HR1 Ai YC gU gF vC zL UW mE Htg Fw LV nQ mM Fx UX ug LX HL7 Qy UY HX7 CO Hwe Hc7 UC Lu Ey UZ MK ML MM Hx8 HI8 UD Oq YL OJ EL Vb Vd dU YO YQ YP HH' aZ bB Vg HAR Vh Vi HlP HlO HmP HH3 BJ;by_cases hlt:k<Q.length
    ·have hlt' : (k:Int)<Q.length:=zo
     clear Ux jH HS2 YS;obtain ⟨d,hdk⟩:∃d,Q[k]? =some d:=⟨_,zz5 hlt⟩;have uW:=zz8 hdk;obtain ⟨gq,offq,rfl,hcf⟩:=a1F (f:=Dp.cells) (sz:=7) (fun _=>rfl) (iQ.out.e.sl.sl.rd.mod hmk zi) hdk;obtain ⟨hdf,hdw, -, -⟩:=iQ.out.e.each d uW;have hst:=b3x (roG P R m) hdk;have hat:=fun y hy=>b6m (roG P R m) (y:=y) hdk hy;obtain ⟨u,hu⟩:∃u,((Q.take k).filterMap (roG P R m)).length=u:=⟨_,rfl⟩;rw [hu];rw [hu] at hat;obtain ⟨dk,x,dt⟩:=d;obtain ⟨wq,rfl⟩:∃x:World,x=wr:=⟨_,rfl⟩;obtain ⟨wz,hwz,ai,aj,aJ⟩:=g8 wq (.cells (Dp.cells ⟨dk,x,dt⟩).toArray 55);have dY:wq.alloc (.cells #[.int .i64 dk,.int .i64 x.kind,.int .i64 x.tenant,.int .i64 x.frm,.string x.who,.string x.sc,.slice x.a x.cs.length x.c] 55)=wz:=hwz;have hmz:=hmk.trans ai zi;have hrz:=hmz.heap dV.out id;have e12:wz.cell? ⟨w.heap.size,12,none⟩=some (.string s7):=d6 hrz rfl;have e13:wz.cell? ⟨w.heap.size,13,none⟩=some (.slice ya l7.length yc):=d6 hrz rfl;have y0:wz.cell? ⟨wq.heap.size,0,none⟩=some (.int .i64 dk):=d6 aj rfl;have y4:wz.cell? ⟨wq.heap.size,4,none⟩=some (.string x.who):=d6 aj rfl;have hse:=b3o wz (.slice aA AR.length cA) AR (og.out.mod hmz) zo 0 x.who s7 (by have:=iR.out.es;omega) ya yc l7 (qw.out.rd.mod hmz zi) (by have:=iR.out.len;omega);obtain ⟨SL,Mm⟩:∃SL,I4 AR 0 x.who s7 l7=SL:=⟨_,rfl⟩;rw [Mm] at hse;obtain ⟨uT,Hdk,PM,mg,Ff,Hdw,eD,xM,Hu,bi,ig,bn⟩:=zh12 hmk hdk uW hcf hdf hdw hst hat hu hwz dY ai;obtain ⟨aN,bG,qV,Hse,Vj⟩:=zh5 aj hmz hrz hse Mm;clear hmk hdk uW hcf hdf hdw hst hat hu hwz dY ai aj hmz hrz hse Mm aJ
     go_wp2_with (first|((with_reducible refine d8 55 (.tmp 162) ?_);refine ⟨gq,offq+k*7,rfl,[.int .i64 dk,.int .i64 x.kind,.int .i64 x.tenant,.int .i64 x.frm,.string x.who,.string x.sc,.slice x.a x.cs.length x.c],mg.out,zk,zk, ?_⟩)|((with_reducible refine d9 55 (.tmp 19) (.tmp 163) ?_);refine ⟨rfl,[.int .i64 dk,.int .i64 x.kind,.int .i64 x.tenant,.int .i64 x.frm,.string x.who,.string x.sc,.slice x.a x.cs.length x.c],rfl,rfl,zk,rfl, ?_⟩;rw [ig.out]))
     refine Hse.out.mono ?_;rintro e wS ⟨vS,rfl,Vk,YT,Fz⟩;obtain ⟨na,nc,rfl,hnc⟩:=Vk.shape;obtain ⟨wE,Dq,EM,Nc,Vl⟩:=g8 wS (.cells #[.string s7,.slice na SL.length nc] 31);have EN:=Fz.trans EM zi;have Fu:=EN.heap aN.out id;obtain ⟨HoS,HfS,QC,Xw,Vm,yH,Vn,BQ⟩:=zh8 Vk YT Fz Dq EM Nc EN Fu;clear Vk YT Fz Dq EM Nc EN Fu Vl hnc;clear e12 e13 y0 y4
     go_wp2_with ((with_reducible refine d9 31 (.tmp 20) (.tmp 170) ?_);refine ⟨rfl,[.string s7,.slice na SL.length nc],rfl,rfl,zk,rfl, ?_⟩;rw [Xw.out])
     obtain ⟨MO,Aj⟩:∃MO,a1U (atP P R) 0 x.who x.sc (j4 x.cs)=MO:=⟨_,rfl⟩;obtain ⟨MA,Ak⟩:∃MA,A8 x.sc (j4 x.cs) s7 SL=MA:=⟨_,rfl⟩;have lH:=bG.out.trans Vn.out zi;have Vo:=iQ.out.ow.laid.mod0 lH;have yI:∀wx,Mod (fun _=>False) wE wx->j3 wx 7 (.slice x.a x.cs.length x.c) x.cs.length (m5 x.cs):=fun wx h=>Ff.out.rd.mod ((iQ.out.md.trans lH zi).trans h zi) zi;have EO:∀wx,Mod (fun _=>False) wE wx->j3 wx 6 (.slice na SL.length nc) SL.length (k7 SL):=fun wx h=>(HoS.out.rd.mod Vm.out zi).mod h zi;have hno:=fun wx h=>Y7 w wx (Vo.mod0 h) x.sc (.slice x.a x.cs.length x.c) x.cs (yI wx h) (Nat.lt_of_le_of_lt Ff.out.len zd) Ff.out.fit;obtain ⟨fq,fc⟩:okQ (x.sc,j4 x.cs)/\a4D (j4 x.cs):=b6S Ff.out;have Av:AR.length<=1000:=Nat.le_trans Ve zd;have Nf:s7.size<=9223372036854775807:=Nat.le_trans iR.out.es zd;have Vp:=b5j iR.out Vj.out;have hmo:=b5i (og.out.mod lH) Av bV.out eF.out FW.out x.who fq fc Aj;have oF:=b3B Ff.out yI EO Nf Vp Ak;have hcl:∀wx,Mod (fun _=>False) wE wx->wx.cell? ⟨wq.heap.size,4,none⟩=some (.string x.who)/\wx.cell? ⟨wq.heap.size,5,none⟩=some (.string x.sc)/\wx.cell? ⟨wq.heap.size,6,none⟩=some (.slice x.a x.cs.length x.c)/\wx.cell? ⟨wS.heap.size,0,none⟩=some (.string s7)/\wx.cell? ⟨wS.heap.size,1,none⟩=some (.slice na SL.length nc):=fun wx h=>⟨h.cell (d6 BQ.out rfl) id,h.cell (d6 BQ.out rfl) id,h.cell (d6 BQ.out rfl) id,h.cell (d6 yH.out rfl) id,h.cell (d6 yH.out rfl) id⟩;have hgo:=b6R (m:=m) (dk:=dk) (dt:=dt) FW.out qp.out nA.out Vj.out Aj Ak
     have hsu:((Q.take (k+1)).filterMap (roG P R m)).length=u+(if (MO&&MA)=true then 1 else 0):=by
      rw [eD.out,hgo,zz4,Hu.out];cases (MO&&MA)<;>rfl
     obtain ⟨HMO,HMA,lI,HlE,Vq,Ng,Hno,Fq,Fc,Fg,yN,lQ⟩:=zh12 Aj Ak lH Vo yI EO hno fq fc hmo oF hcl;obtain ⟨HrS,xw,dH⟩:=zh3 Vp hgo hsu;clear Aj Ak lH Vo yI EO hno fq fc hmo oF hcl Vp hgo hsu Av Nf
     cases MO with
     | true =>
      as_aux_lemma=>
       have yJ:Mod (fun _=>False) wE wE.drew:=(Mod.refl _ wE).drew;refine a0j [.rd 0,.rd 1,.rd 2,.rd 3,.rd 4,.rd 5,.rd 6,.go 7,.go 8,.rd 9,.rd 10,.rd 11,.rd 12,.rd 13,.rd 14,.go 15,.rd 16,.rd 17] [0,1,2,3,4,5,6,7,8,9,10,11,12,13,14,15,16,17] zk zk (fun _ _ d _ _ h=>(by cases d<;>exact h)) ?_
       iterate 3 (
        refine K7 rfl ?_ ?_ (fun w0=> ?_) (fun K hK=> ?_)
        ·exact zg
        rotate_left
        ·(try simp only [zz1,zz2,zz3]);go_simp;with_reducible rfl
        (try simp only [zz1,zz2,zz3])
        go_simp;refine hK _ ?_;clear hK K)
       refine a00 rfl rfl ?_ ((fun y:World=>y.cell? ⟨wq.heap.size,4,none⟩=some (.string x.who)/\y.cell? ⟨wq.heap.size,5,none⟩=some (.string x.sc)/\y.cell? ⟨wq.heap.size,6,none⟩=some (.slice x.a x.cs.length x.c)/\y.cell? ⟨wS.heap.size,0,none⟩=some (.string s7)/\y.cell? ⟨wS.heap.size,1,none⟩=some (.slice na SL.length nc))) ((fun _ _ m h=>⟨m.cell h.1 id,m.cell h.2.1 id,m.cell h.2.2.1 id,m.cell h.2.2.2.1 id,m.cell h.2.2.2.2 id⟩)) ((lQ.out _ yJ)) ?_ (fun w0 h0=> ?_) (fun K hK=> ?_)
       ·exact zg
       rotate_left
       ·(try simp only [zz1,zz2,zz3]);obtain ⟨k1,k2,k3,k4,k5⟩:=h0;go_simp;with_reducible rfl
       (try simp only [zz1,zz2,zz3]);go_simp;refine hK _ ?_;clear hK K
       iterate 2 (
        refine K7 rfl ?_ ?_ (fun w0=> ?_) (fun K hK=> ?_)
        ·exact zg
        rotate_left
        ·(try simp only [zz1,zz2,zz3]);go_simp;with_reducible rfl
        (try simp only [zz1,zz2,zz3])
        go_simp;refine hK _ ?_;clear hK K)
       refine a00 rfl rfl ?_ ((fun y:World=>y.cell? ⟨wq.heap.size,4,none⟩=some (.string x.who)/\y.cell? ⟨wq.heap.size,5,none⟩=some (.string x.sc)/\y.cell? ⟨wq.heap.size,6,none⟩=some (.slice x.a x.cs.length x.c)/\y.cell? ⟨wS.heap.size,0,none⟩=some (.string s7)/\y.cell? ⟨wS.heap.size,1,none⟩=some (.slice na SL.length nc))) ((fun _ _ m h=>⟨m.cell h.1 id,m.cell h.2.1 id,m.cell h.2.2.1 id,m.cell h.2.2.2.1 id,m.cell h.2.2.2.2 id⟩)) ((lQ.out _ yJ)) ?_ (fun w0 h0=> ?_) (fun K hK=> ?_)
       ·exact zg
       rotate_left
       ·(try simp only [zz1,zz2,zz3]);obtain ⟨k1,k2,k3,k4,k5⟩:=h0;go_simp;with_reducible rfl
       (try simp only [zz1,zz2,zz3]);go_simp;refine hK _ ?_;clear hK K;refine X9 (U4 rfl ?_ (fun K hK=> ?_))
       ·exact zg
       go_wp2_with fail
       refine (Hno.out wE.drew yJ).mono ?_;rintro e wN ⟨ba,bc,rfl,Vr,hnb,Nh⟩;refine hK _ _ (fun _=>Nh) ?_;clear hK K;have Ni:=yJ.trans Nh zi;refine X9 (U4 rfl ?_ (fun K hK=> ?_))
       ·exact zg
       go_wp2_with fail
       refine (Fg.out wN Ni ba bc Vr.rd).mono ?_;rintro e wO ⟨rfl,Nj⟩;refine hK _ _ (fun _=>Nj) ?_;clear hK K;have Gc:=Ni.trans Nj zi
       iterate 4 (
        refine K7 rfl ?_ ?_ (fun w0=> ?_) (fun K hK=> ?_)
        ·exact zg
        rotate_left
        ·(try simp only [zz1,zz2,zz3]);go_simp;with_reducible rfl
        (try simp only [zz1,zz2,zz3])
        go_simp;refine hK _ ?_;clear hK K)
       refine a00 rfl rfl ?_ ((fun y:World=>y.cell? ⟨wq.heap.size,4,none⟩=some (.string x.who)/\y.cell? ⟨wq.heap.size,5,none⟩=some (.string x.sc)/\y.cell? ⟨wq.heap.size,6,none⟩=some (.slice x.a x.cs.length x.c)/\y.cell? ⟨wS.heap.size,0,none⟩=some (.string s7)/\y.cell? ⟨wS.heap.size,1,none⟩=some (.slice na SL.length nc))) ((fun _ _ m h=>⟨m.cell h.1 id,m.cell h.2.1 id,m.cell h.2.2.1 id,m.cell h.2.2.2.1 id,m.cell h.2.2.2.2 id⟩)) ((lQ.out _ Gc)) ?_ (fun w0 h0=> ?_) (fun K hK=> ?_)
       ·exact zg
       rotate_left
       ·(try simp only [zz1,zz2,zz3]);obtain ⟨k1,k2,k3,k4,k5⟩:=h0;go_simp;with_reducible rfl
       (try simp only [zz1,zz2,zz3]);go_simp;refine hK _ ?_;clear hK K;refine a00 rfl rfl ?_ ((fun y:World=>y.cell? ⟨wq.heap.size,4,none⟩=some (.string x.who)/\y.cell? ⟨wq.heap.size,5,none⟩=some (.string x.sc)/\y.cell? ⟨wq.heap.size,6,none⟩=some (.slice x.a x.cs.length x.c)/\y.cell? ⟨wS.heap.size,0,none⟩=some (.string s7)/\y.cell? ⟨wS.heap.size,1,none⟩=some (.slice na SL.length nc))) ((fun _ _ m h=>⟨m.cell h.1 id,m.cell h.2.1 id,m.cell h.2.2.1 id,m.cell h.2.2.2.1 id,m.cell h.2.2.2.2 id⟩)) ((lQ.out _ Gc)) ?_ (fun w0 h0=> ?_) (fun K hK=> ?_)
       ·exact zg
       rotate_left
       ·(try simp only [zz1,zz2,zz3]);obtain ⟨k1,k2,k3,k4,k5⟩:=h0;go_simp;with_reducible rfl
       (try simp only [zz1,zz2,zz3]);go_simp;refine hK _ ?_;clear hK K;refine X9 (U4 rfl ?_ (fun K hK=> ?_))
       ·exact zg
       go_wp2_with fail
       refine (yN.out wO Gc).mono ?_;rintro e wM ⟨rfl,OP⟩;refine hK _ _ (fun _=>OP) ?_;clear hK K;have Gd:=Gc.trans OP zi
       iterate 2 (
        refine K7 rfl ?_ ?_ (fun w0=> ?_) (fun K hK=> ?_)
        ·exact zg
        rotate_left
        ·(try simp only [zz1,zz2,zz3]);go_simp;with_reducible rfl
        (try simp only [zz1,zz2,zz3])
        go_simp;refine hK _ ?_;clear hK K)
       refine a7A ?_
       cases MA with
       | true =>
        as_aux_lemma=>
         have fB:u+1=((Q.take (k+1)).filterMap (roG P R m)).length:=dH.out.symm;have yK:=xM.out _ (by rw [xw.out];rfl);rw [<-Gb.out] at yK;obtain ⟨gh,oh,ch,ea,ec,rfl,Oa,hmem,hch⟩:=b5h dI.out.s2 yK;have qx:m.ser=ser:=by rw [<-Hm.out];rfl
         have b8v:(u:Int)<H'.length:=zo
         have b8w:¬(H'.length:Int)<=u:=zo
         have b8x:decide (H'.length<=u)=false:=decide_eq_false zo
         have b8y:H'.length<=30:=by
          have h1:(H'.map Go.Proofs.YtebhabpahfmodaaGreatDoor.Hv.hn).length<=Q.length:=by rw [Gb.out];exact List.length_filterMap_le _ _
          rw [zz10] at h1;omega
         have b8z:(u:Int)<=30:=zo
         have hHc:H'.length<=ch:=by obtain ⟨a0,c0,h0,h1⟩:=dI.out.s2.shape;cases h0;exact h1
         have hF:∀wx,Mod (fun _=>False) wE wx->wx.cell? ⟨w6.heap.size,1,none⟩=some (.slice (some ⟨gh,oh,none⟩) H'.length ch)/\wx.cell? ⟨gh,oh+u*11+1,none⟩=some (.string x.who)/\wx.cell? ⟨gh,oh+u*11+2,none⟩=some (.int .i64 1)/\wx.cell? ⟨gh,oh+u*11+5,none⟩=some (.int .i64 dk)/\wx.cell? ⟨gh,oh+u*11+6,none⟩=some (.int .i64 ser)/\wx.cell? ⟨gh,oh+u*11+7,none⟩=some (.int .i64 R)/\wx.cell? ⟨gh,oh+u*11+9,none⟩=some (.string s7)/\wx.cell? ⟨gh,oh+u*11+10,none⟩=some (.slice ea SL.length ec)/\
          wx.cell? ⟨wq.heap.size,0,none⟩=some (.int .i64 dk)/\wx.cell? ⟨wq.heap.size,4,none⟩=some (.string x.who)/\wx.cell? ⟨wS.heap.size,0,none⟩=some (.string s7)/\wx.cell? ⟨wS.heap.size,1,none⟩=some (.slice na SL.length nc)/\wx.cell? ⟨w.heap.size,14,none⟩=some (.int .i64 R)/\wx.cell? ⟨w.heap.size,16,none⟩=some (.int .i64 ser):=fun wx h=>by
          have h1:=lI.out.trans h zi;have c6:=h1.cell (hch 6 _ rfl) id;have c7:=h1.cell (hch 7 _ rfl) id;have c6:wx.cell? ⟨gh,oh+u*11+6,none⟩=some (.int .i64 m.ser):=c6;have c7:wx.cell? ⟨gh,oh+u*11+7,none⟩=some (.int .i64 m.ver):=c7;rw [qx] at c6;rw [uI.out] at c7
          exact ⟨h1.cell (d6 dI.out.row rfl) id,h1.cell (hch 1 _ rfl) id,h1.cell (hch 2 _ rfl) id,h1.cell (hch 5 _ rfl) id,c6,c7,h1.cell (hch 9 _ rfl) id,h1.cell (hch 10 _ rfl) id,
           h.cell (d6 BQ.out rfl) id,h.cell (d6 BQ.out rfl) id,h.cell (d6 yH.out rfl) id,h.cell (d6 yH.out rfl) id,h1.cell (d6 dV.out rfl) id,h1.cell (d6 dV.out rfl) id⟩
         have hsame:∀wx,Mod (fun _=>False) wE wx->Calls Tryz.prog 17 #[.agg #[.string s7,.slice ea SL.length ec],.agg #[.string s7,.slice na SL.length nc]] wx fun e w'=>e= .returned (.bool true)/\Mod (fun _=>False) wx w':=fun wx h=>by
          have h0:=(dI.out.e2 _ hmem).el.rd.mod (lI.out.trans h zi) zi;have hsl:SL.length<=8:=HrS.out.2.1;have hsn:=b3A Vj.out qo.out;have h2:=a5o wx s7 s7 (.slice ea SL.length ec) (.slice na SL.length nc) SL SL h0 (Ng.out wx h) zo zo hsn hsn;rw [a1b,Bool.and_true,beq_self_eq_true] at h2;exact h2
         have hfin:=lI.out.trans Gd zi;have Nk:∀wx,Mod (fun _=>False) wM wx->Calls Tryz.prog 17 #[.agg #[.string s7,.slice ea SL.length ec],.agg #[.string s7,.slice na SL.length nc]] wx fun e w'=>e= .returned (.bool true)/\Mod (fun _=>False) wM w':=fun wx h=>(hsame wx (Gd.trans h zi)).mono (fun e w' h1=>⟨h1.1,h.trans h1.2 zi⟩)
         have hS0:b5g w.heap.size w6.heap.size wq.heap.size wS.heap.size gh (oh+u*11) H'.length ch x.who s7 dk ser R (.slice (some ⟨gh,oh,none⟩) H'.length ch) (.slice ea SL.length ec) (.slice na SL.length nc) wM:=by
          obtain ⟨f0,f1,f2,f3,f4,f5,f6,f7,f8,f9,f10,f11,f12,f13⟩:=hF wM Gd;exact ⟨f0,f1,f2,f3,f4,f5,f6,f7,f8,f9,f10,f11,f12,f13⟩
         obtain ⟨uJ,Vs,oL,Gx,EP,HF,nR,cZ,HEM,gQ,Vt⟩:=zh11 fB yK hmem hch qx hF hsame hfin Gd hS0 Nk;clear fB yK hmem hch qx hF hsame hfin Gd hS0 Nk;clear dV iQ qw iR og Hm qp nA uI FW bV eF dI Gb qo Vs oL Gx EP HF Ng Vq Hno Fg yN lQ
         go_wp2_with fail
         refine i7 zk zk ?_
         as_aux_lemma=>
          iterate 12 (
           refine j7 ?_ ?_ (fun w' hw'=> ?_) (fun K hK=> ?_)
           ·go_simp;done
           rotate_left
           ·obtain ⟨f0,f1,f2,f3,f4,f5,f6,f7,f8,f9,f10,f11,f12,f13⟩:=gQ.out.mod hw';go_simp;rfl
           go_simp;refine hK _ ?_;clear hK K)
          as_aux_lemma=>
           iterate 12 (
            refine j7 ?_ ?_ (fun w' hw'=> ?_) (fun K hK=> ?_)
            ·go_simp;done
            rotate_left
            ·obtain ⟨f0,f1,f2,f3,f4,f5,f6,f7,f8,f9,f10,f11,f12,f13⟩:=gQ.out.mod hw';go_simp;rfl
            go_simp;refine hK _ ?_;clear hK K)
           as_aux_lemma=>
            iterate 12 (
             refine j7 ?_ ?_ (fun w' hw'=> ?_) (fun K hK=> ?_)
             ·go_simp;done
             rotate_left
             ·obtain ⟨f0,f1,f2,f3,f4,f5,f6,f7,f8,f9,f10,f11,f12,f13⟩:=gQ.out.mod hw';go_simp;rfl
             go_simp;refine hK _ ?_;clear hK K)
            as_aux_lemma=>
             iterate 12 (
              refine j7 ?_ ?_ (fun w' hw'=> ?_) (fun K hK=> ?_)
              ·go_simp;done
              rotate_left
              ·obtain ⟨f0,f1,f2,f3,f4,f5,f6,f7,f8,f9,f10,f11,f12,f13⟩:=gQ.out.mod hw';go_simp;rfl
              go_simp;refine hK _ ?_;clear hK K)
             as_aux_lemma=>
              refine m9 ?_ ?_ ?_ ?_ (fun w' hw'=> ?_) ?_ (fun K hK=> ?_)
              ·go_simp;done
              rotate_left 3
              ·obtain ⟨f0,f1,f2,f3,f4,f5,f6,f7,f8,f9,f10,f11,f12,f13⟩:=gQ.out.mod hw';go_simp;constructor<;>rfl
              ·exact Vt.out
              go_simp;refine hK _ ?_;clear hK K
              iterate 13 (
               refine j7 ?_ ?_ (fun w' hw'=> ?_) (fun K hK=> ?_)
               ·go_simp;done
               rotate_left
               ·obtain ⟨f0,f1,f2,f3,f4,f5,f6,f7,f8,f9,f10,f11,f12,f13⟩:=gQ.out.mod hw';go_simp;rfl
               go_simp;refine hK _ ?_;clear hK K)
              as_aux_lemma=>
               iterate 13 (
                refine j7 ?_ ?_ (fun w' hw'=> ?_) (fun K hK=> ?_)
                ·go_simp;done
                rotate_left
                ·obtain ⟨f0,f1,f2,f3,f4,f5,f6,f7,f8,f9,f10,f11,f12,f13⟩:=gQ.out.mod hw';go_simp;rfl
                go_simp;refine hK _ ?_;clear hK K)
               as_aux_lemma=>
                refine j8 (fun w' hw'=> ?_);have hu1:wrap64 ((u:Int)+1)=(u+1:Nat):=by rw [X7 zo zo];omega
                have hfn:=cZ.out.trans hw' zi;have vw:=zh hfn;clear hfn
                go_wp2_with fail
                go_roundw
                case rel=>exact ⟨k+1,by rw [<-uJ.out,hu1],by go_num,hlt,vw.out⟩
                case measure=>simp [intOf];omega
       | false=>
        as_aux_lemma=>
         have fB:u=((Q.take (k+1)).filterMap (roG P R m)).length:=dH.out.symm;have hfin:=lI.out.trans Gd zi;obtain ⟨uJ,cZ⟩:=zh2 fB hfin;clear fB hfin
         go_wp2_with fail
         go_roundw
         case rel=>exact ⟨k+1,by rw [<-uJ.out],by go_num,hlt,cZ.out⟩
         case measure=>simp [intOf];omega
     | false=>
      as_aux_lemma=>
       have yJ:Mod (fun _=>False) wE wE.drew:=(Mod.refl _ wE).drew;refine a0j [.rd 0,.rd 1,.rd 2,.rd 3,.rd 4,.rd 5,.rd 6,.go 7,.go 8,.rd 9,.rd 10,.rd 11,.rd 12,.rd 13,.rd 14,.go 15,.rd 16,.rd 17] [0,1,2,3,4,5,6,7,8,9,10,11,12,13,14,15,16,17] zk zk (fun _ _ d _ _ h=>(by cases d<;>exact h)) ?_
       iterate 3 (
        refine K7 rfl ?_ ?_ (fun w0=> ?_) (fun K hK=> ?_)
        ·exact zg
        rotate_left
        ·(try simp only [zz1,zz2,zz3]);go_simp;with_reducible rfl
        (try simp only [zz1,zz2,zz3])
        go_simp;refine hK _ ?_;clear hK K)
       refine a00 rfl rfl ?_ ((fun y:World=>y.cell? ⟨wq.heap.size,4,none⟩=some (.string x.who)/\y.cell? ⟨wq.heap.size,5,none⟩=some (.string x.sc)/\y.cell? ⟨wq.heap.size,6,none⟩=some (.slice x.a x.cs.length x.c)/\y.cell? ⟨wS.heap.size,0,none⟩=some (.string s7)/\y.cell? ⟨wS.heap.size,1,none⟩=some (.slice na SL.length nc))) ((fun _ _ m h=>⟨m.cell h.1 id,m.cell h.2.1 id,m.cell h.2.2.1 id,m.cell h.2.2.2.1 id,m.cell h.2.2.2.2 id⟩)) ((lQ.out _ yJ)) ?_ (fun w0 h0=> ?_) (fun K hK=> ?_)
       ·exact zg
       rotate_left
       ·(try simp only [zz1,zz2,zz3]);obtain ⟨k1,k2,k3,k4,k5⟩:=h0;go_simp;with_reducible rfl
       (try simp only [zz1,zz2,zz3]);go_simp;refine hK _ ?_;clear hK K
       iterate 2 (
        refine K7 rfl ?_ ?_ (fun w0=> ?_) (fun K hK=> ?_)
        ·exact zg
        rotate_left
        ·(try simp only [zz1,zz2,zz3]);go_simp;with_reducible rfl
        (try simp only [zz1,zz2,zz3])
        go_simp;refine hK _ ?_;clear hK K)
       refine a00 rfl rfl ?_ ((fun y:World=>y.cell? ⟨wq.heap.size,4,none⟩=some (.string x.who)/\y.cell? ⟨wq.heap.size,5,none⟩=some (.string x.sc)/\y.cell? ⟨wq.heap.size,6,none⟩=some (.slice x.a x.cs.length x.c)/\y.cell? ⟨wS.heap.size,0,none⟩=some (.string s7)/\y.cell? ⟨wS.heap.size,1,none⟩=some (.slice na SL.length nc))) ((fun _ _ m h=>⟨m.cell h.1 id,m.cell h.2.1 id,m.cell h.2.2.1 id,m.cell h.2.2.2.1 id,m.cell h.2.2.2.2 id⟩)) ((lQ.out _ yJ)) ?_ (fun w0 h0=> ?_) (fun K hK=> ?_)
       ·exact zg
       rotate_left
       ·(try simp only [zz1,zz2,zz3]);obtain ⟨k1,k2,k3,k4,k5⟩:=h0;go_simp;with_reducible rfl
       (try simp only [zz1,zz2,zz3]);go_simp;refine hK _ ?_;clear hK K;refine X9 (U4 rfl ?_ (fun K hK=> ?_))
       ·exact zg
       go_wp2_with fail
       refine (Hno.out wE.drew yJ).mono ?_;rintro e wN ⟨ba,bc,rfl,Vr,hnb,Nh⟩;refine hK _ _ (fun _=>Nh) ?_;clear hK K;have Ni:=yJ.trans Nh zi;refine X9 (U4 rfl ?_ (fun K hK=> ?_))
       ·exact zg
       go_wp2_with fail
       refine (Fg.out wN Ni ba bc Vr.rd).mono ?_;rintro e wO ⟨rfl,Nj⟩;refine hK _ _ (fun _=>Nj) ?_;clear hK K;have Gc:=Ni.trans Nj zi
       iterate 2 (
        refine K7 rfl ?_ ?_ (fun w0=> ?_) (fun K hK=> ?_)
        ·exact zg
        rotate_left
        ·(try simp only [zz1,zz2,zz3]);go_simp;with_reducible rfl
        (try simp only [zz1,zz2,zz3])
        go_simp;refine hK _ ?_;clear hK K)
       refine a15 rfl ?_ (fun K hK=> ?_)
       ·first|(go_simp;done)|(go_simp;simp [undef];done)
       go_simp;refine hK _ ?_;clear hK K;refine a15 rfl ?_ (fun K hK=> ?_)
       ·first|(go_simp;done)|(go_simp;simp [undef];done)
       go_simp;refine hK _ ?_;clear hK K;refine a15 rfl ?_ (fun K hK=> ?_)
       ·first|(go_simp;done)|(go_simp;simp [undef];done)
       go_simp;refine hK _ ?_;clear hK K;refine a15 rfl ?_ (fun K hK=> ?_)
       ·first|(go_simp;done)|(go_simp;simp [undef];done)
       go_simp;refine hK _ ?_;clear hK K;refine X9 (b1i rfl ?_ (fun K hK=> ?_))
       ·first|(go_simp;done)|(go_simp;simp [undef];done)
       go_simp;refine hK _ ?_;clear hK K;refine a15 rfl ?_ (fun K hK=> ?_)
       ·first|(go_simp;done)|(go_simp;simp [undef];done)
       go_simp;refine hK _ ?_;clear hK K;refine K7 rfl ?_ ?_ (fun w0=> ?_) (fun K hK=> ?_)
       ·exact zg
       rotate_left
       ·(try simp only [zz1,zz2,zz3]);go_simp;with_reducible rfl
       (try simp only [zz1,zz2,zz3]);go_simp;refine hK _ ?_;clear hK K;refine a7A ?_;have fB:u=((Q.take (k+1)).filterMap (roG P R m)).length:=dH.out.symm;have hfin:=lI.out.trans Gc zi;obtain ⟨uJ,cZ⟩:=zh2 fB hfin;clear fB hfin
       go_wp2_with fail
       go_roundw
       case rel=>exact ⟨k+1,by rw [<-uJ.out],by go_num,hlt,cZ.out⟩
       case measure=>simp [intOf];omega
    as_aux_lemma=>
    obtain rfl:k=Q.length:=zo
    rw [List.take_length];have hnH:(Q.filterMap (roG P R m)).length=H'.length:=by rw [<-Gb.out,zz10]
    rw [hnH];obtain ⟨b,Nx,ax,cx,h3n,hb3,hnx,hrx,hfx,hlx,hcx,hsl⟩:=b5d iQ.out jH.out m
    have hS1:S'.map Sv.sd=if (Nx.any fun f=>z8 f.fil s7 l7)=true then [((b:Int),0,m)] else []:=by
     rw [YS.out,HS2.out,Hm.out,<-qp.out,<-nA.out];exact hsl
    have hm0:=iQ.out.md;have qx:m.ser=ser:=by rw [<-Hm.out];rfl
    have b8A:(Nx.length:Int)<=100:=zo
    have b8B:(Nx.length:Int)<=cx:=zo
    have b8C:(b:Int)<3:=zo
    have hb0:(0:Int)<=b:=zo
    have hwb:IntKind.i64.wrap (b:Int)=b:=by rw [IntKind.wrap_i64];omega
    obtain ⟨wv,rfl⟩:∃x:World,x=wr:=⟨_,rfl⟩;have mI:=hmk.cell hnx id;obtain ⟨dn,LC,vQ,oM,Od,nE,EP,uT,Hlx⟩:=zh9 hnx hrx hfx hsl hS1 hm0 qx hmk hlx;clear hnx hrx hfx hsl hS1 hm0 qx hmk hlx;clear hj hQj Na hQl og bV eF FW uI
    go_wp2_with fail
    go_loopw [21,272] (fun sv i wr=>∃k:Nat,sv= .int .i64 (a59 (Nx.take k) s7 l7:Nat)/\i= .int .i64 k/\k<=Nx.length/\Mod (fun _=>False) w10 wr) (fun _ i _=>Nx.length - (intOf i).toNat)
    case atStart=>exact ⟨0,rfl,rfl,Nat.zero_le _,uT.out⟩
    case round =>
     as_aux_lemma=>
      obtain ⟨k2,rfl,rfl,hk2,bM⟩:=hrel;by_cases hlt2:k2<Nx.length
      ·have Iq:(k2:Int)<Nx.length:=zo
       obtain ⟨f,dG⟩:∃f,Nx[k2]? =some f:=⟨_,zz5 hlt2⟩;have hfi:=vQ.out f (zz8 dG);obtain ⟨gf,offf,rfl,hcf⟩:=a1F (f:=Fr.cells) (sz:=2) (fun _=>rfl) (LC.out.mod bM zi) dG;have hsucc:=b1f dG s7 l7;obtain ⟨wq,rfl⟩:∃x:World,x=wr:=⟨_,rfl⟩;obtain ⟨fsc,fa2,fc2,fcs⟩:=f;obtain ⟨wz,hwz,ai,aj,aJ⟩:=g8 wq (.cells (Fr.cells ⟨fsc,fa2,fc2,fcs⟩).toArray 26);have dY:wq.alloc (.cells #[.string fsc,.slice fa2 fcs.length fc2] 26)=wz:=hwz;have hmz:=bM.trans ai zi;have hrz:=hmz.heap dV.out id;have e12:wz.cell? ⟨w.heap.size,12,none⟩=some (.string s7):=d6 hrz rfl;have e13:wz.cell? ⟨w.heap.size,13,none⟩=some (.slice ya l7.length yc):=d6 hrz rfl;have oF:=b5e (wE:=wz) hfi iR.out (nE.out.trans hmz zi) (fun wx h=>qw.out.rd.mod (hmz.trans h zi) zi) wz (Mod.refl _ _);obtain ⟨W,hW⟩:∃W,z8 (Fr.fil ⟨fsc,fa2,fc2,fcs⟩) s7 l7=W:=⟨_,rfl⟩;rw [hW] at oF hsucc;obtain ⟨N0,hN0⟩:∃N0,a59 (Nx.take k2) s7 l7=N0:=⟨_,rfl⟩;rw [hN0] at hsucc;rw [hN0];have y0:wz.cell? ⟨wq.heap.size,0,none⟩=some (.string fsc):=d6 aj rfl;have y1:wz.cell? ⟨wq.heap.size,1,none⟩=some (.slice fa2 fcs.length fc2):=d6 aj rfl;obtain ⟨mq,Bj,mg,Aw,bi,ig,bn,aN,bG,qV,yN,HW⟩:=zh12 dG hfi hcf hsucc hwz dY ai aj hmz hrz oF hW;obtain ⟨HN0,tC⟩:=zh2 hN0 bM;clear dG hfi hcf hsucc hwz dY ai aj hmz hrz oF hW hN0 bM aJ
       go_wp2_with (first|((with_reducible refine d8 26 (.tmp 274) ?_);refine ⟨gf,offf+k2*2,rfl,[.string fsc,.slice fa2 fcs.length fc2],mg.out,zk,zk, ?_⟩)|((with_reducible refine d9 26 (.tmp 23) (.tmp 275) ?_);refine ⟨rfl,[.string fsc,.slice fa2 fcs.length fc2],rfl,rfl,zk,rfl, ?_⟩;rw [ig.out]))
       refine yN.out.mono ?_;rintro e wM ⟨rfl,OP⟩;have uN:=bG.out.trans OP zi
       cases W with
       | true=>
        as_aux_lemma=>
         have hs1:a59 (Nx.take (k2+1)) s7 l7=1:=Aw.out;obtain ⟨uS,Vu⟩:=zh2 hs1 uN;clear hs1 uN
         go_wp2_with fail
         go_roundw
         case rel=>exact ⟨k2+1,by rw [uS.out];rfl,by go_num,hlt2,Vu.out⟩
         case measure=>simp [intOf];omega
       | false=>
        as_aux_lemma=>
         have hs1:a59 (Nx.take (k2+1)) s7 l7=N0:=Aw.out;obtain ⟨uS,Vu⟩:=zh2 hs1 uN;clear hs1 uN
         go_wp2_with fail
         go_roundw
         case rel=>exact ⟨k2+1,by rw [uS.out],by go_num,hlt2,Vu.out⟩
         case measure=>simp [intOf];omega
      obtain rfl:k2=Nx.length:=zo
      rw [List.take_length];obtain ⟨wq,rfl⟩:∃x:World,x=wr:=⟨_,rfl⟩;have hfin:=nE.out.trans bM zi;have hrq:=bM.heap dV.out id;have jl:=dI.out.row;have jl:=bM.heap jl id;obtain ⟨a8,c8,e8, -⟩:=dI.out.s2.shape;by_cases Ay:(Nx.any fun f=>z8 f.fil s7 l7)=true
      ·have hN1:a59 Nx s7 l7=1:=if_pos Ay;have hS2:=Od.out;rw [if_pos Ay] at hS2;obtain ⟨gs,os,cs8,x,rfl,rfl,hxm,hcs⟩:=b5f dI.out.s1 hS2;have hxl:x.m.el.length=l7.length:=by rw [hxm,nA.out]
       have hxs:x.m.el=l7:=by rw [hxm,nA.out]
       subst e8
       have hS0:b3z w.heap.size w6.heap.size gs os b ser s7 (.slice (some ⟨gs,os,none⟩) 1 cs8) (.slice a8 H'.length c8) (.slice x.ea l7.length x.ec) (.slice ya l7.length yc) true wq:=by
        have k0:=bM.cell (hcs 0 _ rfl) id;have k18:=bM.cell (hcs 18 _ rfl) id;have k14:=bM.cell (hcs 14 _ rfl) id;have k15:=bM.cell (hcs 15 _ rfl) id;refine ⟨d6 jl rfl,d6 jl rfl,d6 hrq rfl,d6 hrq rfl,d6 hrq rfl,fun _=>k0,fun _=> ?_,fun _=> ?_,fun _=> ?_⟩
        ·have k18:wq.cell? ⟨gs,os+18,none⟩=some (.int .i64 x.m.ser):=k18;rw [hxm,EP.out] at k18;exact k18
        ·have k14:wq.cell? ⟨gs,os+14,none⟩=some (.string x.m.es):=k14;rw [hxm,qp.out] at k14;exact k14
        have k15:wq.cell? ⟨gs,os+15,none⟩=some (.slice x.ea x.m.el.length x.ec):=k15;rw [hxl] at k15;exact k15
       have Nk:∀wx,Mod (fun _=>False) wq wx->Calls Tryz.prog 17 #[.agg #[.string s7,.slice x.ea l7.length x.ec],.agg #[.string s7,.slice ya l7.length yc]] wx fun e w'=>e= .returned (.bool true)/\Mod (fun _=>False) wq w':=fun wx h=>by
        have h10:=bM.trans h zi;have h1:=(dI.out.e1 _ (List.mem_singleton.2 rfl)).el.rd.mod h10 zi;have h1:j3 wx 6 (.slice x.ea x.m.el.length x.ec) x.m.el.length (k7 x.m.el):=h1;rw [hxs] at h1;have h8:=iR.out.len;have h2:=a5o wx s7 s7 (.slice x.ea l7.length x.ec) (.slice ya l7.length yc) l7 l7 h1 (qw.out.rd.mod h10 zi) zo zo qo.out qo.out;rw [a1b,Bool.and_true,beq_self_eq_true] at h2;exact h2.mono (fun e w' h3=>⟨h3.1,h.trans h3.2 zi⟩)
       rw [hN1];obtain ⟨HWt,HN1,HS2,fH,UB,Hxs,gY,gQ,Vt,cZ,Qs,Vv⟩:=zh12 Ay hN1 hS2 hxm hxl hxs hcs hS0 Nk hfin hrq jl;have tC:=zh bM;clear Ay hN1 hS2 hxm hxl hxs hcs hS0 Nk hfin hrq jl bM;clear dV iQ qw iR Hm qp nA dI Gb qo LC vQ dn
       go_wp2_with fail
       refine i7 zk zk ?_
       as_aux_lemma=>
        iterate 11 (
         refine j7 ?_ ?_ (fun w' hw'=> ?_) (fun K hK=> ?_)
         ·go_simp;done
         rotate_left
         ·obtain ⟨f0,f1,f2,f3,f4,f5,f6,f7,f8⟩:=gQ.out.mod hw';have f5:=f5 rfl;have f6:=f6 rfl;have f7:=f7 rfl;have f8:=f8 rfl;go_simp;rfl
         go_simp;refine hK _ ?_;clear hK K)
        as_aux_lemma=>
         iterate 11 (
          refine j7 ?_ ?_ (fun w' hw'=> ?_) (fun K hK=> ?_)
          ·go_simp;done
          rotate_left
          ·obtain ⟨f0,f1,f2,f3,f4,f5,f6,f7,f8⟩:=gQ.out.mod hw';have f5:=f5 rfl;have f6:=f6 rfl;have f7:=f7 rfl;have f8:=f8 rfl;go_simp;rfl
          go_simp;refine hK _ ?_;clear hK K)
         as_aux_lemma=>
          iterate 11 (
           refine j7 ?_ ?_ (fun w' hw'=> ?_) (fun K hK=> ?_)
           ·go_simp;done
           rotate_left
           ·obtain ⟨f0,f1,f2,f3,f4,f5,f6,f7,f8⟩:=gQ.out.mod hw';have f5:=f5 rfl;have f6:=f6 rfl;have f7:=f7 rfl;have f8:=f8 rfl;go_simp;rfl
           go_simp;refine hK _ ?_;clear hK K)
          as_aux_lemma=>
           iterate 11 (
            refine j7 ?_ ?_ (fun w' hw'=> ?_) (fun K hK=> ?_)
            ·go_simp;done
            rotate_left
            ·obtain ⟨f0,f1,f2,f3,f4,f5,f6,f7,f8⟩:=gQ.out.mod hw';have f5:=f5 rfl;have f6:=f6 rfl;have f7:=f7 rfl;have f8:=f8 rfl;go_simp;rfl
            go_simp;refine hK _ ?_;clear hK K)
           as_aux_lemma=>
            refine m9 ?_ ?_ ?_ ?_ (fun w' hw'=> ?_) ?_ (fun K hK=> ?_)
            ·go_simp;done
            rotate_left 3
            ·obtain ⟨f0,f1,f2,f3,f4,f5,f6,f7,f8⟩:=gQ.out.mod hw';go_simp;constructor<;>rfl
            ·exact Vt.out
            go_simp;refine hK _ ?_;clear hK K
            iterate 4 (
             refine j7 ?_ ?_ (fun w' hw'=> ?_) (fun K hK=> ?_)
             ·go_simp;done
             rotate_left
             ·obtain ⟨f0,f1,f2,f3,f4,f5,f6,f7,f8⟩:=gQ.out.mod hw';have f5:=f5 rfl;have f6:=f6 rfl;have f7:=f7 rfl;have f8:=f8 rfl;go_simp;rfl
             go_simp;refine hK _ ?_;clear hK K)
            refine j8 (fun w' hw'=> ?_);have hfn:=cZ.out.trans hw' zi;have vw:=zh hfn;clear hfn
            go_wp2_with fail
            go_ret;exact ⟨rfl,vw.out⟩
      have hN1:a59 Nx s7 l7=0:=if_neg Ay;have hS2:=Od.out;rw [if_neg Ay] at hS2;obtain rfl:S'=[]:=List.map_eq_nil_iff.1 hS2;obtain ⟨a7,c7,e7, -⟩:=dI.out.s1.shape;subst e7;subst e8;have hS0:b3z w.heap.size w6.heap.size 0 0 b ser s7 (.slice a7 0 c7) (.slice a8 H'.length c8) (.slice none 0 0) (.slice ya l7.length yc) false wq:=⟨d6 jl rfl,d6 jl rfl,d6 hrq rfl,d6 hrq rfl,d6 hrq rfl,fun e=>(by cases e),fun e=>(by cases e),fun e=>(by cases e),fun e=>(by cases e)⟩;rw [hN1];obtain ⟨HWt,HN1,HS2,gQ,cZ,Qs,Vv,tC⟩:=zh8 Ay hN1 hS2 hS0 hfin hrq jl bM;clear Ay hN1 hS2 hS0 hfin hrq jl bM;clear dV iQ qw iR Hm qp nA dI Gb qo LC vQ dn
      go_wp2_with fail
      refine i7 zk zk ?_
      as_aux_lemma=>
       iterate 16 (
        refine j7 ?_ ?_ (fun w' hw'=> ?_) (fun K hK=> ?_)
        ·go_simp;done
        rotate_left
        ·obtain ⟨f0,f1,f2,f3,f4,f5,f6,f7,f8⟩:=gQ.out.mod hw';clear f5 f6 f7 f8;go_simp;rfl
        go_simp;refine hK _ ?_;clear hK K)
       as_aux_lemma=>
        iterate 15 (
         refine j6 ?_ (fun K hK=> ?_)
         ·first|(go_simp;done)|(go_simp;simp [undef];done)
         go_simp;refine hK _ ?_;clear hK K)
        as_aux_lemma=>
         iterate 15 (
          refine j6 ?_ (fun K hK=> ?_)
          ·first|(go_simp;done)|(go_simp;simp [undef];done)
          go_simp;refine hK _ ?_;clear hK K)
         iterate 3 (
          refine j7 ?_ ?_ (fun w' hw'=> ?_) (fun K hK=> ?_)
          ·go_simp;done
          rotate_left
          ·obtain ⟨f0,f1,f2,f3,f4,f5,f6,f7,f8⟩:=gQ.out.mod hw';clear f5 f6 f7 f8;go_simp;rfl
          go_simp;refine hK _ ?_;clear hK K)
         refine j8 (fun w' hw'=> ?_);have hfn:=cZ.out.trans hw' zi;have vw:=zh hfn;clear hfn
         go_wp2_with fail
         go_ret;exact ⟨rfl,vw.out⟩
end Go.Proofs.YtebhabpahfmodaaGreatDoor
