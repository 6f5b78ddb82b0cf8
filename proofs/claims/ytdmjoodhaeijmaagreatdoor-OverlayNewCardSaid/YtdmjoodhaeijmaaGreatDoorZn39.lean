/- Lemmas. -/
import Derived.Test.YtdmjoodhaeijmaaGreatDoorZn38
import Derived.Test.YtdmjoodhaeijmaaGreatDoorZn32
set_option maxHeartbeats 40000000
set_option maxRecDepth 20000
namespace Go.Proofs.YtdmjoodhaeijmaaGreatDoor
open Go.RowKit
def b5U {w0:World} {q:Nat} {sid:Int} (O:D5 w0 q sid) (w:World) (ow:Ow) (c g:Nat) (id:Int) (near:List Int) (B:BS) (t:Nat) (s:O.σ) (frm:Int) (m:Mg) (e:Ending) (w':World):Prop:=
 e= .returned (.bool (decide (m.ver<=B.L.length)))/\∃ow',Bro w' ow' c g id near B/\O.inv w' ow' (if m.ver<=B.L.length then O.sends (O.shows s (B.rouH t m)) (V9 (B.R t).M near t frm m) else s)/\Mov O.tg w ow w' ow'
theorem b4B (w0 w:World) (ow:Ow) (hw:Owd w0 w ow) (c g:Nat) (id:Int) (near:List Int) (B:BS) (h:Bro w ow c g id near B) (hL:B.L.length<=40) (hnl:near.length<=1000) (hnw:∀n∈near,(Lit.int .i64 n).wf=true) (t:Nat) (ht:t<4)
 (q:Nat) (sid:Int) (O:D5 w0 q sid) (s:O.σ) (hO:O.inv w ow s) (je:∀t,O.tg t->t<c\/c+18<=t) (hto:∀n∈near,O.okTo n t) (hcnt:O.cnt s<=300000000000) (hT:(B.R t).T<=100000) (hN:(B.R t).N<=1000000)
 (uk:∀k∈(B.R t).I.map Prod.fst,(Lit.int .i64 k).wf=true/\∃q,a0A (B.R t).S k=some q/\okQ q.2/\q.1.size<=1000000) (Ey:(B.R t).I.length<=1000) (frm:Int) (x:Mv) (hx:R4 w ow x) (he:a7Z x.m.es x.m.el) (hk:x.m.kind≠0/\x.m.kind≠1/\x.m.kind≠2):
 Calls Tryz.prog 58 #[.pointer (some ⟨g,0,none⟩),.iface 138 (.agg #[.pointer (some ⟨q,0,none⟩),.int .i64 sid]),.int .i64 frm,.int .i64 t,.agg x.cells.toArray] w (b5U O w ow c g id near B t s frm x.m):=by
 by_cases hv:x.m.ver<=B.L.length
 case neg=>
  refine (a96 w ow c g id near B h _ frm t x hk zo hL).mono ?_;rintro e w' ⟨rfl,hm⟩;have hs:=Mov.of hw hm (fun _=>False);refine ⟨by rw [decide_eq_false hv],ow,h.mov hw hs (fun h=>h) (fun _ h=>h.elim), ?_,hs.mono (fun _ h=>h.elim)⟩;rw [if_neg hv];exact O.mov hO hw hs (fun h=>h) (fun _ h=>h.elim)
 obtain ⟨a,h⟩:=h;obtain ⟨L,aQ,mh⟩:=h.log;have fG:L.length=B.L.length:=by rw [<-mh,zz10]
 obtain ⟨av,acap,kJ, -⟩:∃a' cc,a.v= .slice a' L.length cc/\L.length<=cc:=by obtain ⟨-,a,cc,h,h2, -⟩:=aQ.sl.sl.rd;exact ⟨a,cc,h,h2⟩
 rw [kJ,fG] at aQ;obtain ⟨k1,k2,k3⟩:=hk;obtain ⟨wa,ak,ae,aa,ah⟩:=g6 w (.cells x.cells.toArray 135);have m0:wa.cell? ⟨w.heap.size,0,none⟩=some (.int .i64 x.m.kind):=d6 aa rfl;have m14:wa.cell? ⟨w.heap.size,14,none⟩=some (.int .i64 x.m.ver):=d6 aa rfl;have hgg:=ae.heap aQ.row (fun h=>h);have hF:∀wx,Mod (fun _=>False) wa wx->wx.cell? ⟨w.heap.size,14,none⟩=some (.int .i64 x.m.ver)/\Mod (fun _=>False) wa wx:=fun wx hx=>⟨hx.cell m14 (fun h=>h),hx⟩;have hpl:∀wx,Mod (fun _=>False) wa wx->Calls Tryz.prog 13 #[.pointer (some ⟨g,0,none⟩)] wx fun e w'=>e= .returned (.int .i64 B.L.length)/\Mod (fun _=>False) wa w':=fun wx hx=>(R3 wx g av B.L.length acap (hx.cell (d6 hgg rfl) (fun h=>h))).mono fun e w' ⟨he,hm⟩=>⟨he,hm▸hx⟩;have hb:Bro w ow c g id near B:=⟨a,h⟩
 have hro:∀wx,Mod (fun _=>False) w wx->Calls Tryz.prog 83 #[.pointer (some ⟨g,0,none⟩),.iface 138 (.agg #[.pointer (some ⟨q,0,none⟩),.int .i64 sid]),.int .i64 t,.int .i64 frm,.agg x.cells.toArray] wx fun e w'=>e= .returned (.tuple #[])/\∃ow',Bro w' ow' c g id near B/\O.inv w' ow' (O.sends (O.shows s (B.rouH t x.m)) (V9 (B.R t).M near t frm x.m))/\Mov O.tg w ow w' ow':=fun wx hm=>by
  have hs:=Mov.of hw hm (fun _=>False);refine (b2x w0 wx ow (hs.owd hw (fun h=>h)) c g id near B (hb.mov hw hs (fun h=>h) (fun _ h=>h.elim)) hL hnl hnw t ht q sid O s (O.mov hO hw hs (fun h=>h) (fun _ h=>h.elim)) je hto hcnt hT hN uk Ey frm x (hx.mov hs (fun h=>h)) he).mono ?_;rintro e w' ⟨he,ow',h1,h2,h3⟩;exact ⟨he,ow',h1,h2,(hs.mono (fun _ h=>h.elim)).trans h3⟩
 refine hh8 hw hO je hto uk hnw hb hro fun Hw HO mr qd HIS jC Hb lG=> ?_;refine hh8 hx he h aQ ak ae aa hgg fun Hx He H jd aB ai aC KE=> ?_;refine hh2 hF hpl fun HF Hpl=> ?_;clear hw hO je hto uk hnw hb hro hx he h aQ ak ae aa hgg hF hpl ah mh fG kJ m14
 go_enter Tryz.func58,Tryz.ntmps58
 go_wp2_with (rw [show w.alloc _=wa from aB.out])
 refine g9 zk zk ?_
 iterate 7 (first
  | (refine j1 ?_ (fun K hK=> ?_)
     ·first|(go_simp;done)|(go_simp;simp [undef];done)
     go_simp;refine hK _ ?_;clear hK K)
  | (refine l9 ?_ ?_ (fun w' hw'=> ?_) (fun K hK=> ?_)
     ·first|(go_simp;done)|(go_simp;simp [undef];done)
     rotate_left
     ·obtain ⟨f0, -⟩:=HF.out w' hw';go_simp;rfl
     go_simp;refine hK _ ?_;clear hK K)
  | (refine q7 ?_ ?_ ?_ ?_ (fun w' hw'=> ?_) ?_ (fun K hK=> ?_)
     ·first|(go_simp;done)|(go_simp;simp [undef];done)
     rotate_left 3
     ·obtain ⟨f0, -⟩:=HF.out w' hw';go_simp;constructor<;>rfl
     ·first|with_reducible exact Hpl.out
     go_simp;refine hK _ ?_;clear hK K))
 refine j8 (fun w' hw'=> ?_);have hmx:=ai.out.trans hw' zi;have hgx:=hw'.heap aC.out (fun h=>h);have hrx:=lG.out w' hmx;refine hh2 hmx hrx fun nI UB=> ?_;clear hmx hrx hw'
 go_wp2_with ((with_reducible refine e9 135 (.tmp 9) ?_);refine ⟨w.heap.size,0,rfl,x.cells,d8.row hgx,zk,zk, ?_⟩)
 refine UB.out.mono ?_;rintro e w7 ⟨rfl,h7⟩;refine hh1 h7 fun H7=> ?_;clear h7
 go_wp2
 go_ret;obtain ⟨ow7,h1,h2,h3⟩:=H7.out;refine ⟨by rw [decide_eq_true hv];rfl,ow7,h1, ?_,h3⟩;rw [if_pos hv];exact h2
structure PO where
 kind:Int
 ten:Int
 who:ByteArray
 r:PRu
 esc:ByteArray
 es:List Att
 fsc:ByteArray
 fs:List Cnd
 sub:Int
 frm:Int
 to_:Int
def PO.mk0 (kind ten:Int):PO:=⟨kind,ten,⟨#[]⟩,PRu.zero,⟨#[]⟩,[],⟨#[]⟩,[],0,0,0⟩
end Go.Proofs.YtdmjoodhaeijmaaGreatDoor
