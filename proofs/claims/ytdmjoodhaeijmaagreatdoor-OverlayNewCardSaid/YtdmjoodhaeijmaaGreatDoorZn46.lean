/- Lemmas. -/
import Derived.Test.YtdmjoodhaeijmaaGreatDoorZn45
set_option maxHeartbeats 40000000
set_option maxRecDepth 20000
namespace Go.Proofs.YtdmjoodhaeijmaaGreatDoor
section
open Go.RowKit
theorem y7.logs {w0 w:World} {ow:Ow} {q c n:Nat} {a:NAd} {L:List Lr} {s:NS} (h:y7 w0 w ow q a L s c n):
 ∃(l:List Ru) (la:Option Addr) (lc:Nat),l.map Ru.pru=s.L/\l.length=s.L.length/\w.cell? ⟨q,0,none⟩=some (.slice la l.length lc)/\Q5 w (.slice la l.length lc) l/\(∀r∈l,r.pru.fine/\q6 w ow 7 r.cv r.cs.length (q8 r.cs)):=by
 have hl:=h.log;have hL:=h.lg;obtain ⟨la,lc,hv, -⟩:∃a' cc,a.v= .slice a' L.length cc/\L.length<=cc:=by obtain ⟨-,a,cc,h,h2, -⟩:=hl.sl.sl.rd;exact ⟨a,cc,h,h2⟩
 have hn:(L.map Lr.ru).length=L.length:=zz10 _;refine ⟨L.map Lr.ru,la,lc,by rw [a5s];exact hL,by rw [hn,<-hL,zz10],by rw [hn,<-hv];exact d6 hl.row rfl, ?_,fun r hr=> ?_⟩
 ·have:=hl.sl.ru;rw [hn,<-hv];exact this
 obtain ⟨x,hx,rfl⟩:=List.mem_map.1 hr;have h1:=hl.sl.each x hx;exact ⟨by rw [b1I];exact h1.fine,h1.cs⟩
theorem b24 {w:World} {mb n:Nat} {f:Lit->Option Value} (h:l8 w 122 mb n f) {t:Int} {who:ByteArray} (ht:wfI t) (hz:who.size<=1000000):(Instr.lookup 48 (.map (some mb)) (.agg #[.int .i64 t,.string who]) false).run Tryz.prog w= .ok ((f (a0m t who)).getD (.slice none 0 0)) w:=
 h.look a4S Tryz.underlying48 zk (key:=b0h t who) (a2W (who:=who) ht (by unfold maxLen;omega))
attribute [local go_sem ↓] a08
theorem b25 (w0 w:World) (ow:Ow) (q tp:Nat) (s:NS) (k j:Nat) (h:X1 w0 w ow q tp s k j) (hk:k<=39000) (p:PRu) (ra:Option Addr) (rc:Nat) (hx:i8 w 7 (.slice ra p.cs.length rc) p.cs.length (q8 p.cs)) (hf:p.fine) (hn:∀c∈p.cs,c.v.num<2^64):
 Calls Tryz.prog 35 #[.pointer (some ⟨q,0,none⟩),.agg (p.lies ra rc).cells.toArray] w fun e w'=>e= .returned (.int .i64 (s.rule p).1)/\E3 w0 w ow q tp (s.rule p).2 (k+80) j w':=by
 obtain ⟨a,L,c,n,hA,htp,hc,hn'⟩:=h.mem;obtain ⟨wa,ak,ae,aa,ah⟩:=g6 w (.cells (p.lies ra rc).cells.toArray 36);have hs0:=Mov.of h.own ae (fun _=>False);have FB:=hA.still h.own h.wi.pos hs0;have dR:=hs0.owd h.own id;have fG:L.length=s.L.length:=by rw [<-hA.lg,zz10]
 have UY:=h.wi.pol.len;have q1:wa.cell? ⟨q,1,none⟩=some (ptr tp):=by rw [<-htp];exact FB.side.cellN rfl
 have hF:∀wx,Mod (fun _=>False) wa wx->(wx.cell? ⟨q,1,none⟩=some (ptr tp)/\wx.cell? ⟨w.heap.size,0,none⟩=some (.int .i64 p.kind)/\wx.cell? ⟨w.heap.size,3,none⟩=some (.int .i64 p.broker))/\l4 wx w.heap.size 0 8/\cellsOf wx w.heap.size 0 8=(p.lies ra rc).cells.toArray:=fun wx hm=>
  have hg:=hm.heap aa id
  ⟨⟨hm.cell q1 id,d6 hg rfl,d6 hg rfl⟩,(d8.row hg).all rfl,(d8.row hg).is rfl⟩
 have htl:∀wx,Mod (fun _=>False) wa wx->Calls Tryz.prog 12 #[.pointer (some ⟨tp,0,none⟩)] wx fun e w'=>e= .returned (.int .i64 s.N.length)/\Mod (fun _=>False) wa w':=fun wx hm=>by
  have h1:=hA.tree;rw [htp] at h1;exact (a5G wx tp s.N (h1.mod (FB.base.trans hm zi))).mono fun e w' ⟨he,hw'⟩=>⟨he,hw'▸hm⟩
 have hadd:∀wx,Mod (fun _=>False) wa wx->Calls Tryz.prog 50 #[.pointer (some ⟨q,0,none⟩),.agg (p.lies ra rc).cells.toArray] wx fun e w'=>e= .returned (.int .i64 (R2 s.L p))/\∃a' L' ow',y7 w0 w' ow' q a' L' {s with L:=I9 s.L p} c n/\a'.tp=tp/\Owd w0 w' ow'/\Mov a0n w ow w' ow':=fun wx hm=>by
  have hmv:=Mov.of dR hm (fun _=>False);have hwx:=hmv.owd dR id;have hAx:=FB.still dR h.wi.pos hmv;refine (a8Y w0 wx ow 2 3 q (a.rest s.subs) 54 a.v L hwx ⟨zo,zo⟩ hAx.log zo p ra rc (hx.mod (ae.trans hm zi) zi) hf).mono ?_;rintro e w' ⟨he,ow',v',L',hl,hp,hM⟩;rw [hA.lg] at he hp;exact ⟨he,_,L',ow',hAx.logged hwx hM hl hp,htp,hM.owd hwx zo,((hs0.trans hmv).mono (fun _ h=>h.elim)).trans (hM.mono (fun t ht=>by unfold a0n;omega))⟩
 have hcr:(p.lies ra rc).cells.length=8:=rfl;obtain ⟨cs,hcs⟩:∃cs:List Value,(p.lies ra rc).cells=cs:=⟨_,rfl⟩;obtain ⟨kd,hkd⟩:∃x,p.kind=x:=⟨_,rfl⟩;obtain ⟨bk,hbk⟩:∃x,p.broker=x:=⟨_,rfl⟩;obtain ⟨E,hE⟩:∃x,R2 s.L p=x:=⟨_,rfl⟩;rw [hcs] at ak aa hadd hF hcr⊢;rw [hkd,hbk] at hF;rw [hE] at hadd;have FC:∀wx,Mod (fun _=>False) wa wx->Calls Tryz.prog 12 #[ptr tp] wx fun e w'=>e= .returned (.int .i64 s.N.length)/\Mod (fun _=>False) wa w':=htl
 have hte:∀wx (own:Ow) a' L',Owd w0 wx own->y7 w0 wx own q a' L' {s with L:=I9 s.L p} c n->Mov a0n w ow wx own->a'.tp=tp->E=0->(kd=0->bk<s.N.length)->Calls Tryz.prog 51 #[.pointer (some ⟨q,0,none⟩)] wx fun e w'=>e= .returned (.tuple #[])/\E3 w0 w ow q tp (NS.teach {s with L:=I9 s.L p}) (k+80) j w':=fun wx own a' L' ho hN hM ht hE0 hb=>by
  have hw1:=h.wi.add hn (by rw [hkd,hbk];exact hb) (by rw [hE,hE0]);refine (b2T w0 wx own ho q c n a' L' _ hN h.wi.pos hw1.pol zo).mono ?_;rintro e w' ⟨he,c',hc',ow',h1,h2, -⟩;exact ⟨he,ow',⟨h2.owd ho (fun h=>by unfold Q6 sdT at h;omega),hw1.teach,a',L',c',n,h1,ht,zo,zo⟩,hM.trans (h2.mono (fun t ht=>a6X zo ht))⟩
 refine hh8 h hA ak ae aa hF FC hadd fun H HA aB ai aC HF FD jb=> ?_;refine hh8 FB dR hx hf hn hc hs0 hte fun XM gX Hx Hf Hn Hc Gv Hte=> ?_;refine hh5 hcs hkd hbk hE hcr fun iI MG Qe HE iP=> ?_;clear h hA ak ae aa hF FC hadd FB dR hx hf hn hc hs0 hte hcs hkd hbk hE hcr ah q1 htl
 go_enter Tryz.func35,Tryz.ntmps35
 have hcase:((kd==0)=true/\decide ((s.N.length:Int)<=bk)=true)\/((kd==0)=true/\decide ((s.N.length:Int)<=bk)=false)\/(kd==0)=false:=by
  cases (kd==0)
  ·exact .inr (.inr rfl)
  ·cases decide ((s.N.length:Int)<=bk)
   ·exact .inr (.inl ⟨rfl,rfl⟩)
   exact .inl ⟨rfl,rfl⟩
 rcases hcase with ⟨g1,g2⟩|⟨g1,g2⟩|g1
 ·have es:s.rule p=(3,s):=by
   unfold NS.rule;rw [if_pos (by rw [MG.out,Qe.out];exact ⟨by simpa using g1,of_decide_eq_true g2⟩)]
  refine hh1 es fun Es=> ?_;clear es
  go_wp2_with (rw [show w.alloc _=wa from aB.out])
  refine g9 zk zk ?_
  iterate 13 (first
   | (refine j1 ?_ (fun K hK=> ?_)
      ·first|(go_simp;done)|(go_simp;simp [undef];done)
      go_simp;refine hK _ ?_;clear hK K)
   | (refine l9 ?_ ?_ (fun w' hw'=> ?_) (fun K hK=> ?_)
      ·first|(go_simp;done)|(go_simp;simp [undef];done)
      rotate_left
      ·obtain ⟨⟨f0,f1,f2⟩,f3,f4⟩:=HF.out w' hw';go_simp;rfl
      go_simp;refine hK _ ?_;clear hK K)
   | (refine q7 ?_ ?_ ?_ ?_ (fun w' hw'=> ?_) ?_ (fun K hK=> ?_)
      ·first|(go_simp;done)|(go_simp;simp [undef];done)
      rotate_left 3
      ·obtain ⟨⟨f0,f1,f2⟩,f3,f4⟩:=HF.out w' hw';go_simp;constructor<;>rfl
      ·first|with_reducible exact FD.out
      go_simp;refine hK _ ?_;clear hK K))
  refine j8 (fun w' hw'=> ?_)
  go_wp2_with fail
  go_ret;rw [Es.out];exact ⟨rfl,E3.still H.out (ai.out.trans hw' zi) zo (Nat.le_refl _)⟩
 case' inr.inl=>have hb:kd=0->bk<s.N.length:=fun _=>by have:=of_decide_eq_false g2;omega
 case' inr.inr=>have hb:kd=0->bk<s.N.length:=fun e=>by rw [e] at g1;cases g1
 all_goals
  have es:s.rule p=if E=0 then (0,NS.teach {s with L:=I9 s.L p}) else (E,s):=by
   unfold NS.rule;rw [if_neg (by rw [MG.out,Qe.out];exact fun h=>by have:=hb h.1;omega),HE.out]
  have heq:E≠0->({s with L:=I9 s.L p}:NS)=s:=fun h=>by
   have e:I9 s.L p=s.L:=if_neg (by rw [HE.out];exact h);rw [e]
  refine hh3 es hb heq fun Es Hb Vh=> ?_;clear es hb heq
  go_wp2_with (rw [show w.alloc _=wa from aB.out])
  refine g9 zk zk ?_
  iterate 13 (first
   | (refine j1 ?_ (fun K hK=> ?_)
      ·first|(go_simp;done)|(go_simp;simp [undef];done)
      go_simp;refine hK _ ?_;clear hK K)
   | (refine l9 ?_ ?_ (fun w' hw'=> ?_) (fun K hK=> ?_)
      ·first|(go_simp;done)|(go_simp;simp [undef];done)
      rotate_left
      ·obtain ⟨⟨f0,f1,f2⟩,f3,f4⟩:=HF.out w' hw';go_simp;rfl
      go_simp;refine hK _ ?_;clear hK K)
   | (refine q7 ?_ ?_ ?_ ?_ (fun w' hw'=> ?_) ?_ (fun K hK=> ?_)
      ·first|(go_simp;done)|(go_simp;simp [undef];done)
      rotate_left 3
      ·obtain ⟨⟨f0,f1,f2⟩,f3,f4⟩:=HF.out w' hw';go_simp;constructor<;>rfl
      ·first|with_reducible exact FD.out
      go_simp;refine hK _ ?_;clear hK K))
  refine j8 (fun w' hw'=> ?_)
  go_wp2_with fail
  refine i6 [.rd 0,.rd 1,.rd 2,.rd 3,.go 4,.go 5] [0,1,2,3] (fun y:World=>l4 y w.heap.size 0 8/\cellsOf y w.heap.size 0 8=cs.toArray) zk zk (fun _ _ d _ _ h=>(by cases d<;>exact h)) ?_;have hmd:Mod (fun _=>False) wa w'.drew:=hw'.trans ((Mod.refl _ w').drew) zi;have hS:=(HF.out w'.drew hmd).2
  iterate 4 (
   refine wrd hS fun K hK=> ?_
   go_simp;refine hK _ ?_;clear hK K)
  refine wgo fun K hK=> ?_
  go_wp2_with fail
  refine (jb.out w'.drew hmd).mono ?_;rintro e w2 ⟨rfl,a',L',ow',hA2,ht2,aG,hM2⟩;refine hK _ _ (fun h=>absurd h zd) ?_;clear hK K hS;refine wgo fun K hK=> ?_;(try simp only [zz1,zz2,zz3]);go_simp;refine hK _ _ (fun h=>absurd h zd) ?_;clear hK K;refine p8 ?_;by_cases hE0:E=0
  ·have e0:(E !=0)=false:=by rw [hE0];rfl
   have ht:=Hte.out w2 ow' a' L' aG hA2 hM2 ht2 hE0 Hb.out;have es2:s.rule p=(0,NS.teach {s with L:=I9 s.L p}):=by rw [Es.out,if_pos hE0]
   refine hh2 ht es2 fun Ht Es2=> ?_;clear ht es2 hA2 aG hM2 hE0 hmd
   go_wp2_with fail
   refine Ht.out.mono ?_;rintro e w3 ⟨rfl,hp⟩;refine hh1 hp fun Hp=> ?_;clear hp
   go_wp2_with fail
   go_ret;rw [Es2.out];exact ⟨rfl,Hp.out⟩
  have e0:(E !=0)=true:=by simpa using hE0
  have es2:s.rule p=(E,s):=by rw [Es.out,if_neg hE0]
  have hp:E3 w0 w ow q tp s (k+80) j w2:=by
   rw [Vh.out hE0] at hA2;exact ⟨ow',⟨aG,H.out.wi.mono zo (Nat.le_refl _),a',L',c,n,hA2,ht2,by have:=Hc.out;omega,zo⟩,hM2⟩
  refine hh2 hp es2 fun Hp Es2=> ?_;clear hp es2 hA2 aG hM2 hE0 hmd
  go_wp2_with fail
  go_ret;rw [Es2.out];exact ⟨rfl,Hp.out⟩
end
open Go.RowKit
structure PkL (nb ob q lm k:Nat) (f:Lit->Option Value) (ten frm to_:Int) (y:World):Prop where
 n0:y.cell? ⟨nb,0,none⟩=some (.pointer (some ⟨q,0,none⟩))
 q4:y.cell? ⟨q,4,none⟩=some (.map (some lm))
 o1:y.cell? ⟨ob,1,none⟩=some (.int .i64 ten)
 o7:y.cell? ⟨ob,16,none⟩=some (.int .i64 frm)
 o8:y.cell? ⟨ob,17,none⟩=some (.int .i64 to_)
 mp:l8 y 101 lm k f
theorem a67 {N:List (List Int)} {i j ten:Int}:M4 N i j (max ten (-1))=true↔¬(n9 N i j=false\/4<=ten):=by
 unfold M4;simp only [Bool.and_eq_true,decide_eq_true_eq];cases n9 N i j<;>simp<;>omega
theorem b26 (w0 w:World) (ow:Ow) (q tp:Nat) (s:NS) (k j:Nat) (h:X1 w0 w ow q tp s k j) (hk:k<=39000) (hj:j<=4500) (o:PO) (hkd:o.kind=4\/o.kind=5) (hw1:wfI o.ten) (hw2:wfI o.frm) (hw3:wfI o.to_) (cs:List Value) (hcl:cs.length=18)
 (h0:cs[0]? =some (.int .i64 o.kind)) (h1:cs[1]? =some (.int .i64 o.ten)) (h16:cs[16]? =some (.int .i64 o.frm)) (kT:cs[17]? =some (.int .i64 o.to_)):
 Calls Tryz.prog 37 #[.pointer (some ⟨q,0,none⟩),.agg cs.toArray] w fun e w'=>e= .returned (.int .i64 (s.pick o).1)/\E3 w0 w ow q tp (s.pick o).2 (k+2) j w':=by
 obtain ⟨a,L,c,n,hA,htp,hc,hn⟩:=h.mem;obtain ⟨fr,hfr⟩:∃x,o.frm=x:=⟨_,rfl⟩;obtain ⟨tw,hto⟩:∃x,o.to_=x:=⟨_,rfl⟩;obtain ⟨te,mP⟩:∃x,o.ten=x:=⟨_,rfl⟩;obtain ⟨kd,jX⟩:∃x,o.kind=x:=⟨_,rfl⟩;rw [hfr] at hw2 h16;rw [hto] at hw3 kT;rw [mP] at hw1 h1;rw [jX] at hkd h0;obtain ⟨km,f,hmp, -,hf⟩:=hA.side.lnk.mp;obtain ⟨tm,vS⟩:∃tm,max te (-1)=tm:=⟨_,rfl⟩
 have hwt:wfI tm:=by
  rw [<-vS];unfold wfI at hw1⊢;simp [Lit.wf,IntKind.min,IntKind.max,IntKind.signed,IntKind.bits] at hw1⊢;omega
 have hkey:keyOf Tryz.prog 101 (a8d fr tw tm)=some (a1m fr tw tm):=a0W hw2 hw3 hwt;have bX:=hf _ _ _ hw2 hw3 hwt;obtain ⟨V,hV⟩:∃V:Value,(if M4 s.N fr tw tm=true then ptr (a.lb fr tw tm) else .pointer none)=V:=⟨_,rfl⟩;have hz:∀u:World,(zeroValue 99).run Tryz.prog u= .ok (.pointer none) u:=fun u=>zk
 have hlk2:∀wx,l8 wx 101 a.lm km f->(Instr.lookup 47 (.map (some a.lm)) (.agg #[.int .i64 fr,.int .i64 tw,.int .i64 tm]) false).run Tryz.prog wx= .ok V wx:=fun wx hm=>by
  have h2:=hm.look X9 Tryz.underlying47 (hz wx) hkey;rw [bX] at h2;rw [<-hV];split at h2
  ·rename_i e
   rw [if_pos e];exact h2
  rename_i e
  rw [if_neg e];exact h2
 obtain ⟨wa,ak,ae,aa,ah⟩:=g6 w (.cells #[.pointer (some ⟨q,0,none⟩)] 25);obtain ⟨wb,hwb,ay,aA,aU⟩:=g6 wa (.cells cs.toArray 41);have hmb:=ae.trans ay zi;have hga:=ay.heap aa id;have q4:w.cell? ⟨q,4,none⟩=some (.map (some a.lm)):=hA.side.cellN rfl
 have hS0:∀y,Mod (fun _=>False) wb y->PkL w.heap.size wa.heap.size q a.lm km f te fr tw y:=fun y hy=>
  have g1:=hy.heap hga id;have g2:=hy.heap aA id
  ⟨d6 g1 rfl,(hmb.trans hy zi).cell q4 id,d6 g2 (by simpa using h1),d6 g2 (by simpa using h16),d6 g2 (by simpa using kT),hmp.mod (hmb.trans hy zi) id⟩
 have hk0:∀y,Mod (fun _=>False) wb y->y.cell? ⟨wa.heap.size,0,none⟩=some (.int .i64 kd):=fun y hy=>d6 (hy.heap aA id) (by simpa using h0);have hsb:=Mov.of h.own hmb (fun _=>False);refine hh8 hfr hto mP jX h hA hmp hf fun aW qd FE FH H HA Io Hf=> ?_;refine hh8 hwt hkey bX hV hz hlk2 ak hwb fun PR eu jB HV Hz zI aB bN=> ?_;refine hh8 ae aa ay aA hmb hga hS0 hk0 fun ai aC sK bq eQ ku ji Vi=> ?_;refine hh8 hsb hw1 hw2 hw3 vS hc h0 h1 fun xH gW Gt nC AQ Hc H0 H1=> ?_;refine hh3 h16 kT hcl fun Vj Vk dO=> ?_;clear hfr hto mP jX h hA hmp hf hwt hkey bX hV hz hlk2 ak hwb ae aa ay aA hmb hga hS0 hk0 hsb hw1 hw2 hw3 vS hc h0 h1 h16 kT hcl ah aU q4
 go_enter Tryz.func37,Tryz.ntmps37
 go_wp2_with (first|(rw [show w.alloc _=wa from aB.out])|(rw [show wa.alloc _=wb from bN.out]))
 refine i6 [.rd 0,.rd 1,.rd 2,.rd 3,.rd 4,.rd 5,.rd 6,.rd 7,.rd 8,.rd 9,.rd 10,.rd 11,.rd 12,.rd 13] [0,1,2,3,4,5,6,7,8,9,10,11,12,13] (PkL w.heap.size wa.heap.size q a.lm km f te fr tw) zk zk (fun _ _ d _ _ h=>(by cases d<;>exact h)) ?_;have hS:=ji.out wb.drew ((Mod.refl _ wb).drew)
 iterate 11 (
  refine wrd hS fun K hK=> ?_
  go_simp;refine hK _ ?_;clear hK K)
 rw [AQ.out];refine wrd hS fun K hK=> ?_;go_simp;refine hK _ ?_;clear hK K;refine a1s rfl ?_ (fun _=>hS) ?_ (fun w0 h0=> ?_) (fun K hK=> ?_)
 ·exact zg
 rotate_left
 ·(try simp only [zz1,zz2,zz3]);have hl2:=zI.out w0 (h0 rfl).mp;clear h0;go_simp;with_reducible rfl
 (try simp only [zz1,zz2,zz3]);go_simp;refine hK _ ?_;clear hK K;refine wrd hS fun K hK=> ?_;go_simp;refine hK _ ?_;clear hK K;refine p8 ?_;clear hS;obtain ⟨wc,hwc⟩:∃y:World,wb.drew=y:=⟨_,rfl⟩;have hmc:Mod (fun _=>False) wb wc:=hwc▸(Mod.refl _ wb).drew;rw [hwc];clear hwc;have bU:=eQ.out.trans hmc zi;by_cases hb:M4 s.N fr tw tm=true;rotate_left
 ·obtain rfl:V= .pointer none:=by rw [<-HV.out,if_neg hb]
  have es:s.pick o=(3,s):=by
   unfold NS.pick;rw [aW.out,qd.out,FE.out,if_pos];rw [<-AQ.out] at hb;exact Decidable.of_not_not (fun h=>hb (a67.2 h))
  refine hh2 es bU fun Es mQ=> ?_;clear es bU hmc
  go_wp2_with fail
  go_ret;rw [Es.out];exact ⟨rfl,E3.still H.out mQ.out zo (Nat.le_refl _)⟩
 obtain rfl:V= .pointer (some ⟨a.lb fr tw tm,0,none⟩):=by rw [<-HV.out,if_pos hb];rfl
 have hb2:¬(n9 s.N fr tw=false\/4<=te):=by rw [<-AQ.out] at hb;exact a67.1 hb
 have hnb:=HA.out.nok.rng _ _ (a3S hb).1;obtain ⟨x,rfl⟩:∃x:Nat,fr=x:=⟨fr.toNat,zo⟩;obtain ⟨y,rfl⟩:∃y:Nat,tw=y:=⟨tw.toNat,zo⟩;have Vl:x<s.N.length:=zo
 have Vm:y<s.N.length:=zo
 have es:s.pick o=if s.up x=false\/s.up y=false then (7,s) else if kd=5 then (if (s.K x y tm).ph= .wait then (8,s) else (0,{s with K:=D9 s.K x y tm (s.K x y tm).lose})) else ((if (s.step x y te tm).1 then 0 else 8),(s.step x y te tm).2):=by
  unfold NS.pick;rw [aW.out,qd.out,FE.out,FH.out,AQ.out,if_neg hb2,Int.toNat_natCast,Int.toNat_natCast]
 obtain ⟨ua,uc,gJ,huc⟩:=HA.out.side.up.shape;have hup:=HA.out.side.up;rw [gJ] at hup;obtain ⟨gu,ou,rfl,hx0⟩:=a0H hup.rd (Y1 (up:=s.up) Vl);obtain ⟨gu',ou',e',hy0⟩:=a0H hup.rd (Y1 (up:=s.up) Vm);cases e'
 have q3:w.cell? ⟨q,3,none⟩=some (.slice (some ⟨gu,ou,none⟩) s.N.length uc):=by rw [<-gJ];exact HA.out.side.cellN rfl
 obtain ⟨U1,wJ⟩:∃u,s.up x=u:=⟨_,rfl⟩;obtain ⟨U2,uD⟩:∃u,s.up y=u:=⟨_,rfl⟩;rw [wJ] at hx0;rw [uD] at hy0;rw [wJ,uD] at es
 have hF:∀wx,Mod (fun _=>False) wc wx->PkL w.heap.size wa.heap.size q a.lm km f te x y wx/\wx.cell? ⟨q,3,none⟩=some (.slice (some ⟨gu,ou,none⟩) s.N.length uc)/\wx.cell? ⟨gu,ou+x,none⟩=some (.bool U1)/\wx.cell? ⟨gu,ou+y,none⟩=some (.bool U2):=fun wx hx=>
  have h1:=bU.trans hx zi
  ⟨ji.out wx (hmc.trans hx zi),h1.cell q3 id,h1.cell hx0 id,h1.cell hy0 id⟩
 have Vn:(x:Int)<s.N.length:=zo
 have Vo:(y:Int)<s.N.length:=zo
 have EU:(s.N.length:Int)<=uc:=zo
 refine hh8 es bU hmc hF hup hb hb2 hnb fun Es mQ nz HF MH Hb Hb2 kz=> ?_;clear es bU hmc hF hup hb hb2 hnb gJ q3 hx0 hy0
 go_wp2_with fail
 cases U1 with
 | false=>
  refine g9 zk zk ?_
  iterate 21 (first
   | (refine j1 ?_ (fun K hK=> ?_)
      ·first|(go_simp;done)|(go_simp;simp [undef];done)
      go_simp;refine hK _ ?_;clear hK K)
   | (refine l9 ?_ ?_ (fun w' hw'=> ?_) (fun K hK=> ?_)
      ·first|(go_simp;done)|(go_simp;simp [undef];done)
      rotate_left
      ·obtain ⟨⟨f0,f1,f2,f3,f4,f5⟩,f6,f7,f8⟩:=HF.out w' hw';go_simp;rfl
      go_simp;refine hK _ ?_;clear hK K)
   | (refine q7 ?_ ?_ ?_ ?_ (fun w' hw'=> ?_) ?_ (fun K hK=> ?_)
      ·first|(go_simp;done)|(go_simp;simp [undef];done)
      rotate_left 3
      ·obtain ⟨⟨f0,f1,f2,f3,f4,f5⟩,f6,f7,f8⟩:=HF.out w' hw';go_simp;constructor<;>rfl
      ·first|skip
      go_simp;refine hK _ ?_;clear hK K))
  refine j8 (fun w' hw'=> ?_);have hfin:=mQ.out.trans hw' zi;have es2:s.pick o=(7,s):=by rw [Es.out,if_pos (.inl rfl)]
  refine hh2 hfin es2 fun bF Es2=> ?_;clear hfin es2 hw'
  go_wp2_with fail
  go_ret;rw [Es2.out];exact ⟨rfl,E3.still H.out bF.out zo (Nat.le_refl _)⟩
 |true=>
 cases U2 with
 | false=>
  refine g9 zk zk ?_
  iterate 21 (first
   | (refine j1 ?_ (fun K hK=> ?_)
      ·first|(go_simp;done)|(go_simp;simp [undef];done)
      go_simp;refine hK _ ?_;clear hK K)
   | (refine l9 ?_ ?_ (fun w' hw'=> ?_) (fun K hK=> ?_)
      ·first|(go_simp;done)|(go_simp;simp [undef];done)
      rotate_left
      ·obtain ⟨⟨f0,f1,f2,f3,f4,f5⟩,f6,f7,f8⟩:=HF.out w' hw';go_simp;rfl
      go_simp;refine hK _ ?_;clear hK K)
   | (refine q7 ?_ ?_ ?_ ?_ (fun w' hw'=> ?_) ?_ (fun K hK=> ?_)
      ·first|(go_simp;done)|(go_simp;simp [undef];done)
      rotate_left 3
      ·obtain ⟨⟨f0,f1,f2,f3,f4,f5⟩,f6,f7,f8⟩:=HF.out w' hw';go_simp;constructor<;>rfl
      ·first|skip
      go_simp;refine hK _ ?_;clear hK K))
  refine j8 (fun w' hw'=> ?_);have hfin:=mQ.out.trans hw' zi;have es2:s.pick o=(7,s):=by rw [Es.out,if_pos (.inr rfl)]
  refine hh2 hfin es2 fun bF Es2=> ?_;clear hfin es2 hw'
  go_wp2_with fail
  go_ret;rw [Es2.out];exact ⟨rfl,E3.still H.out bF.out zo (Nat.le_refl _)⟩
 | true =>
  refine g9 zk zk ?_
  iterate 21 (first
   | (refine j1 ?_ (fun K hK=> ?_)
      ·first|(go_simp;done)|(go_simp;simp [undef];done)
      go_simp;refine hK _ ?_;clear hK K)
   | (refine l9 ?_ ?_ (fun w' hw'=> ?_) (fun K hK=> ?_)
      ·first|(go_simp;done)|(go_simp;simp [undef];done)
      rotate_left
      ·obtain ⟨⟨f0,f1,f2,f3,f4,f5⟩,f6,f7,f8⟩:=HF.out w' hw';go_simp;rfl
      go_simp;refine hK _ ?_;clear hK K)
   | (refine q7 ?_ ?_ ?_ ?_ (fun w' hw'=> ?_) ?_ (fun K hK=> ?_)
      ·first|(go_simp;done)|(go_simp;simp [undef];done)
      rotate_left 3
      ·obtain ⟨⟨f0,f1,f2,f3,f4,f5⟩,f6,f7,f8⟩:=HF.out w' hw';go_simp;constructor<;>rfl
      ·first|skip
      go_simp;refine hK _ ?_;clear hK K))
  refine j8 (fun w' hw'=> ?_);have hfin:=mQ.out.trans hw' zi;have hk1:=Vi.out w' (nz.out.trans hw' zi);have es2:s.pick o=if kd=5 then (if (s.K x y tm).ph= .wait then (8,s) else (0,{s with K:=D9 s.K x y tm (s.K x y tm).lose})) else ((if (s.step x y te tm).1 then 0 else 8),(s.step x y te tm).2):=by rw [Es.out,if_neg zd]
  refine hh3 hfin es2 hw' fun bF Es2 dJ=> ?_;clear hfin es2 hw';have hs2:=Mov.of H.out.own bF.out (fun _=>False);have aG:=hs2.owd H.out.own id;have hA2:=HA.out.still H.out.own H.out.wi.pos hs2;have hsz:=hA2.sz.lk x y tm Hb.out;have hbs:=H.out.wi.bs x y tm;have hge:=O9 x y tm;have rO:=hA2.nok.len;have hwp:=H.out.wi.pick o;have hc1:=Hc.out;have uE:=hs2.mono (G:=a0n) (fun _ h=>h.elim);rcases hkd with rfl|rfl
  ·have e4:s.pick o=((if (s.step x y te tm).1 then 0 else 8),(s.step x y te tm).2):=by rw [Es2.out,if_neg zd]
   have hstep:Calls Tryz.prog 56 #[.pointer (some ⟨a.lb x y tm,0,none⟩),.func (.func 57) #[] #[.pointer (some ⟨w.heap.size,0,none⟩),.pointer (some ⟨wa.heap.size,0,none⟩)]] w' fun e w2=>e= .returned (.bool (s.step x y te tm).1)/\E3 w0 w ow q tp (s.pick o).2 (k+2) j w2:=by
    refine (b2Q aG hA2 H.out.wi.pos (ten:=te) Hb.out zo _ _ (c+1500000) zo (fun _ _=>by simp [go_sem]) (fun v pin w1 hv hm1 rC hpn hpk=> ?_)).mono ?_
    ·rw [Int.toNat_natCast] at hpn⊢;have hs1:=Mov.of aG hm1 (fun _=>False);obtain ⟨⟨f0,f1,f2,f3,f4,f5⟩, -⟩:=HF.out w1 (dJ.out.trans hm1 zi);exact b23 (i:=y) hpn hpk (hs1.owd aG id) (hA2.still aG H.out.wi.pos hs1) H.out.wi hk hj zo zo Gt.out (fun hz=>by have:=AQ.out;omega) v rC (H.out.wi.mg x y tm _ hv) f0 f2 f3 f4
    rintro e w2 ⟨he,ow3,g1,g2⟩;rw [Int.toNat_natCast] at g2;refine ⟨he,ow3,⟨g2.owd aG (fun h=>by unfold Q6 sdT at h;omega),hwp,a,L,c+1500000,n, ?_,htp,zo,zo⟩,uE.trans (g2.mono (fun t ht=>a6X zo ht))⟩;rw [e4];exact g1
   obtain ⟨R,hR⟩:∃R,(s.step x y te tm).1=R:=⟨_,rfl⟩;rw [hR] at hstep e4;have e5:(s.pick o).1=if R=true then 0 else 8:=by rw [e4]
   refine hh2 hstep e5 fun jq E5=> ?_;clear hstep e5 hs2 aG hA2 hsz hbs hwp uE e4
   go_wp2_with fail
   refine jq.out.mono ?_;rintro e w3 ⟨rfl,hp⟩;refine hh1 hp fun Hp=> ?_;clear hp;cases R
   ·go_wp2_with fail
    go_ret;exact ⟨by rw [E5.out];rfl,Hp.out⟩
   go_wp2_with fail
   go_ret;exact ⟨by rw [E5.out];rfl,Hp.out⟩
  have e4:s.pick o=if (s.K x y tm).ph= .wait then (8,s) else (0,{s with K:=D9 s.K x y tm (s.K x y tm).lose}):=by rw [Es2.out,if_pos rfl]
  have qO:Calls Tryz.prog 55 #[.pointer (some ⟨a.lb x y tm,0,none⟩)] w' fun e w2=>e= .returned (.bool (decide ((s.K x y tm).ph≠ .wait)))/\w2.cell? ⟨wa.heap.size,0,none⟩=some (.int .i64 5)/\E3 w0 w ow q tp (s.pick o).2 (k+2) j w2:=by
   refine (b2R w' ow (cl x y tm) (a.lb x y tm) (s.K x y tm) zo (hA2.side.lnk.lk x y tm Hb.out) hsz.1).mono ?_;rintro e w2 ⟨he,ow3,hL,hM⟩;have g1:=hA2.setK aG H.out.wi.pos Hb.out hL hM ⟨hsz.1.lose,hsz.2.1,hsz.2.2⟩
   refine ⟨he,hM.md.cell hk1 (fun hf=>by
    have hf':ow wa.heap.size=cl x y tm:=hf;rw [H.out.own.zero ai.out.size] at hf'
    omega),ow3,⟨hM.owd aG zo,hwp,a,L,c,n, ?_,htp,zo,zo⟩,uE.trans (hM.mono (fun t ht=>by have ht':t=cl x y tm:=ht;unfold a0n;omega))⟩
   rw [e4];split
   ·rename_i AU
    have e6:({s with K:=D9 s.K x y tm (s.K x y tm).lose}:NS)=s:=by
     have e7:(s.K x y tm).lose=s.K x y tm:=by
      unfold LK.lose;rw [<-AU]
     have e8:D9 s.K x y tm (s.K x y tm).lose=s.K:=by
      rw [e7];funext i1 i2 i3;by_cases e:i1=x/\i2=y/\i3=tm
      ·obtain ⟨rfl,rfl,rfl⟩:=e;rw [R8]
      rw [R9 _ _ e]
     rw [e8]
    rw [e6] at g1;exact g1
   exact g1
  obtain ⟨R,hR⟩:∃R,decide ((s.K x y tm).ph≠ .wait)=R:=⟨_,rfl⟩
  have e5:(s.pick o).1=if R=true then 0 else 8:=by
   rw [e4,<-hR];by_cases AU:(s.K x y tm).ph= .wait
   ·rw [if_pos AU,if_neg (by simp [AU])]
   rw [if_neg AU,if_pos (by simp [AU])]
  rw [hR] at qO;refine hh2 qO e5 fun FI E5=> ?_;clear qO e5 hs2 aG hA2 hsz hbs hwp uE e4
  go_wp2_with fail
  refine FI.out.mono ?_;rintro e w3 ⟨rfl,hk3,hp⟩;refine hh1 hp fun Hp=> ?_;clear hp;cases R
  ·go_wp2_with fail
   go_ret;exact ⟨by rw [E5.out];rfl,Hp.out⟩
  go_wp2_with fail
  go_ret;exact ⟨by rw [E5.out];rfl,Hp.out⟩
end Go.Proofs.YtdmjoodhaeijmaaGreatDoor
