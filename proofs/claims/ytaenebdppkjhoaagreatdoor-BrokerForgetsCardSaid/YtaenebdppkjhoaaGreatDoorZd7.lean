/- Lemmas of this claim. -/
import Derived.Test.YtaenebdppkjhoaaGreatDoorZd5
namespace Go.Proofs.YtaenebdppkjhoaaGreatDoor
set_option maxRecDepth 20000
set_option maxHeartbeats 40000000
section
open Go.RowKit
section
variable {P:Program} {ops:Array Oper} {Q:Exit→Act→World→Prop} {md:Region.Mode} {S:World→Prop} {T:Nat→Bool}
structure AN (P:Program) (md:Region.Mode) (ops:Array Oper) (Q:Exit→Act→World→Prop) (S:World→Prop) (T:Nat→Bool) (fuel:Nat) (listed:Array Bool) (a:Act) (w:World):Prop where
 out:Region.noSelect ops=true→(∀(c:List PanicEntry) (a:Act) (d:Option Tmp) (v:Value) (w:World),Q (.panic c) (a.put d v) w→Q (.panic c) a w)→ClosedL md ops listed→wpAnyG P md ops Q S T fuel listed a w
theorem wp_region_any6 {id:Nat} {a:Act} {w:World} {l:List Oper} (ks:List Nat) (S:World→Prop) (hm:P.follows .mixedOrders=true) (hsel:Region.noSelect l.toArray=true)
 (hQ:∀(c:List PanicEntry) (a:Act) (d:Option Tmp) (v:Value) (w:World),Q (.panic c) (a.put d v) w→Q (.panic c) a w)
 (h:AN P .any l.toArray Q S (fun j=>ks.contains j) l.length (Array.replicate l.toArray.size false) a w.drew):(Code.region id l.toArray true).wp P Q a w:=by
 have hcl:ClosedL .any l.toArray (Array.replicate l.toArray.size false):=fun j oj _ hl=>by
  exfalso
  rcases Nat.lt_or_ge j l.toArray.size with h'|h'<;>simp_all
 refine wp_region_any hm (wpAny_of_G (S:=S) (T:=fun j=>ks.contains j) _ _ _ _ ?_)
 have key:=h.out hsel hQ hcl
 simpa using key
def rdOk (md:Region.Mode) (ops:Array Oper) (T:Nat→Bool) (i:Nat) (listed:Array Bool):Bool:=
 decide (i<ops.size)&&Region.free md ops listed i&&(Region.ready md ops listed).contains i&&
  (((ops[i]?).map (fun o=>pureOp o.op)).getD false||(List.range ops.size).all fun j=>j==i||listed.getD j true||reachB md ops ops.size j i||T j)
theorem an_rd {i fuel:Nat} {listed:Array Bool} {o:Oper} {a:Act} {w:World} (hok:rdOk md ops T i listed=true) (ho:ops[i]? =some o) (hw:Region.wanted o (yielded ops a.tmps)=true) (hSw:pureOp o.op=false→S w) (v:Value)
 (hy:∀w,(pureOp o.op=false→S w)→(execOp a.eval o).run P w= .ok (.value v) w)
 (h:∀K:Act→Prop,(∀a',AN P md ops Q S T fuel (listed.setIfInBounds i true) a' w→K a')→K (a.put o.dst v)):AN P md ops Q S T (fuel+1) listed a w:=by
 refine ⟨fun hsel hQ hc=> ?_⟩
 unfold rdOk at hok
 simp only [Bool.and_eq_true,decide_eq_true_eq] at hok
 obtain ⟨⟨⟨hi,hf⟩,hr⟩,hp⟩:=hok
 have hri:i∈Region.ready md ops listed:=by simpa using hr
 have h':=(h _ fun _ h=>h).out hsel hQ (hc.set hri)
 exact wpAnyG_first (S:=S) (T:=T) (S':=fun w=>pureOp o.op=false→S w) ho (Region.noSelect_spec hsel) (fun c a w=>hQ c a o.dst v w) fuel listed a w hc (Region.free_spec ho hf)
  (fun j hj hji hun hre w w' hT h hpf=>by
    simp only [ho,Option.map_some,Option.getD_some,hpf,Bool.false_or,List.all_eq_true,List.mem_range,Bool.or_eq_true,beq_iff_eq] at hp
    rcases hp j hj with ((h1|h1)|h1)|h1
    ·exact absurd h1 hji
    ·rw [hun] at h1;cases h1
    ·rw [hre] at h1;cases h1
    ·exact hT h1 (h hpf))
  hri (.inl ⟨hw,hy⟩) hSw h'
end
end
section
open Go.RowKit
theorem an_inv {P:Program} {md:Region.Mode} {ops:Array Oper} {Q:Exit→Act→World→Prop} {S:World→Prop} {T:Nat→Bool} (I:Nat→Array Bool→Act→World→Prop)
 (h0:∀listed a w,I 0 listed a w→Region.ready md ops listed=[]∧Q .normal a w)
 (hs:∀n listed a w,I (n+1) listed a w→∃js:List Nat,Region.ready md ops listed=js∧js≠[]∧∀i∈js,GO P ops Q S T i (fun a' w'=>I n (listed.setIfInBounds i true) a' w') a w):
 ∀{n:Nat} {listed:Array Bool} {a:Act} {w:World},I n listed a w→AN P md ops Q S T n listed a w
 |0,listed,a,w,h=>⟨fun _ _ _=>h0 listed a w h⟩
 |n+1,listed,a,w,h=>by
  obtain ⟨js,hr,hne,hg⟩:=hs n listed a w h
  exact ⟨fun hsel hQ hc=>⟨fun e=>absurd (hr.symm.trans e) hne,fun i hi=>wpOp_mono (fun _ _ h'=>⟨h'.1,(an_inv I h0 hs h'.2).out hsel hQ (hc.set hi)⟩) (hg i (hr▸hi)).out⟩⟩
end
end Go.Proofs.YtaenebdppkjhoaaGreatDoor
