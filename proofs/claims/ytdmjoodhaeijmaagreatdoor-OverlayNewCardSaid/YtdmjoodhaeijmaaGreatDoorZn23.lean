/- Lemmas. -/
import Derived.Maps.OwnSet
import Derived.Maps.Own
import Derived.Carry
import Derived.Shelf.SlIter.Nil
import Derived.Shelf.SlIterI.Nil
import Derived.Shelf.SortM.Plain
import Derived.Shelf.SortM.SortNone
import Derived.Maps.RangeWalk
import Derived.Test.YtdmjoodhaeijmaaGreatDoorZn21
import Derived.Sort.KeysCollected
set_option maxHeartbeats 40000000
set_option maxRecDepth 20000
namespace Go.Proofs.YtdmjoodhaeijmaaGreatDoor
open Go.RowKit
def a2D:Value->Option (DataW Value×List MemPlace):=fun v=>some (.held v,[])
def l8 (w:World) (kt:TypeId) (b n:Nat) (f:Lit->Option Value):Prop:=
 ∃D:DataW Value,w.ownsMap Tryz.prog kt a2D b n D/\Maps.size D=n/\(∀kl z,D.atKey kl (.held z)= .held ((f kl).getD z))/\∀kl,Maps.has D kl=(f kl).isSome
open Classical in
noncomputable def T5 (f:Lit->Option Value) (kl:Lit) (v:Value):Lit->Option Value:=fun k=>if k=kl then some v else f k
open Classical in
noncomputable def b1C (f:Lit->Option Value) (kl:Lit):Lit->Option Value:=fun k=>if k=kl then none else f k
@[go_sem] theorem b0Q (t:TypeId) (w:World):(Instr.makeMap t none).run Tryz.prog w= .ok (.map (some w.heap.size)) (w.alloc (.map #[] 0)):=rfl
theorem a04 {w:World} {kt:TypeId} {b n:Nat} {D:DataW Value} (h:w.ownsMap Tryz.prog kt a2D b n D):w.ownsMap Tryz.prog kt a2D b (Maps.size D) D:=by
 obtain ⟨es,clock,h1,h2, -,rfl⟩:=h;exact ⟨es,clock,h1,h2,by simp [Maps.size,length_sorted],rfl⟩
theorem l8.made (w:World) (kt:TypeId):l8 (w.alloc (.map #[] 0)) kt w.heap.size 0 (fun _=>none):=
 ⟨.map [],World.ownsMap_made _ _ _ _,rfl,fun _ _=>rfl,fun _=>rfl⟩
theorem l8.mod {w w':World} {kt:TypeId} {b n:Nat} {f:Lit->Option Value} {F:Nat->Prop} (h:l8 w kt b n f) (hm:Mod F w w') (hF:¬F b):l8 w' kt b n f:=by
 obtain ⟨D,⟨es,clock,h1,h2⟩,h3⟩:=h;exact ⟨D,⟨es,clock,hm.heap h1 hF,h2⟩,h3⟩
theorem l8.lt {w:World} {kt:TypeId} {b n:Nat} {f:Lit->Option Value} (h:l8 w kt b n f):b<w.heap.size:=by
 obtain ⟨D,h1, -⟩:=h;exact h1.lt
theorem l8.look {w:World} {kt t e:TypeId} {b n:Nat} {f:Lit->Option Value} (h:l8 w kt b n f) (K:Maps.Keyed Tryz.prog kt) (ht:Tryz.prog.underlying t=some (.map kt e)) {z:Value} (hz:(zeroValue e).run Tryz.prog w= .ok z w) {key:Value} {kl:Lit} (hkey:keyOf Tryz.prog kt key=some kl):
 (Instr.lookup t (.map (some b)) key false).run Tryz.prog w= .ok ((f kl).getD z) w:=by
 obtain ⟨D,h1, -,h3, -⟩:=h;obtain ⟨v,ps,hrun,hv⟩:=h1.lookup K ht hz (zd:= .held z) (zp:=[]) rfl hkey;rw [h3] at hv;simp only [a2D,Option.some.injEq,Prod.mk.injEq,DataW.held.injEq] at hv;rw [hrun,hv.1]
theorem l8.look_ok {w:World} {kt t e:TypeId} {b n:Nat} {f:Lit->Option Value} (h:l8 w kt b n f) (K:Maps.Keyed Tryz.prog kt) (ht:Tryz.prog.underlying t=some (.map kt e)) {z:Value} (hz:(zeroValue e).run Tryz.prog w= .ok z w) {key:Value} {kl:Lit} (hkey:keyOf Tryz.prog kt key=some kl):
 (Instr.lookup t (.map (some b)) key true).run Tryz.prog w= .ok (.tuple #[(f kl).getD z,.bool (f kl).isSome]) w:=by
 obtain ⟨D,h1, -,h3,h4⟩:=h;obtain ⟨v,ps,hrun,hv⟩:=h1.look_ok K ht hz (zd:= .held z) (zp:=[]) rfl hkey;rw [h3] at hv;simp only [a2D,Option.some.injEq,Prod.mk.injEq,DataW.held.injEq] at hv;rw [hrun,hv.1,h4]
theorem a10 {w w':World} {b:Nat} (h:w.grownBy w' (some b)):Mod (fun k=>k=b) w w':=⟨h.os,h.tape,h.output,h.size,fun k hk hn=>h.block k hk (fun e=>hn (Option.some.inj e))⟩
theorem l8.put {w:World} {kt t e:TypeId} {b n:Nat} {f:Lit->Option Value} (h:l8 w kt b n f) (K:Maps.Keyed Tryz.prog kt) (ht:Tryz.prog.underlying t=some (.map kt e)) (hn:n<maxLen) {key:Value} {kl:Lit} (hkey:keyOf Tryz.prog kt key=some kl) (v:Value):
 ∃w',(Instr.mapUpdate t (.map (some b)) key v).run Tryz.prog w= .ok () w'/\l8 w' kt b (if (f kl).isSome then n else n+1) (T5 f kl v)/\Mod (fun k=>k=b) w w':=by
 obtain ⟨D,h1,h2,h3,h4⟩:=h;obtain ⟨w',hrun,r1,r2⟩:=h1.update K ht hn hkey (val:=v) (d:= .held v) (ps:=[]) rfl;have hs:=Maps.size_put (k:=kl) (h1.tidy K) (.held v);rw [h2,h4] at hs;refine ⟨w',hrun,⟨D.put kl (.held v), ?_,hs,fun k z=> ?_,fun k=> ?_⟩,a10 r2⟩
 ·rw [<-hs];exact a04 r1
 ·unfold T5;by_cases e:k=kl
  ·subst e;rw [if_pos rfl,Maps.atKey_put_same h1.isMap (K.key hkey)];rfl
  rw [if_neg e,Maps.atKey_put_other e,h3]
 unfold T5;by_cases e:k=kl
 ·subst e;rw [if_pos rfl,Maps.has_put_same h1.isMap (K.key hkey)];rfl
 rw [if_neg e,Maps.has_put_other e,h4]
theorem l8.del {w:World} {kt t e:TypeId} {b n:Nat} {f:Lit->Option Value} (h:l8 w kt b n f) (K:Maps.Keyed Tryz.prog kt) (ht:Tryz.prog.underlying t=some (.map kt e)) {key:Value} {kl:Lit} (hkey:keyOf Tryz.prog kt key=some kl) (ty:TypeId):
 ∃w',(Builtin.delete_ #[t,kt] ty #[.map (some b),key]).run Tryz.prog w= .ok (.tuple #[]) w'/\l8 w' kt b (if (f kl).isSome then n - 1 else n) (b1C f kl)/\Mod (fun k=>k=b) w w':=by
 obtain ⟨D,h1,h2,h3,h4⟩:=h;obtain ⟨w',hrun,r1,r2⟩:=h1.drop K ht hkey ty;have hs:=Maps.size_del (k:=kl) (h1.tidy K);rw [h2,h4] at hs;have hs2:Maps.size (D.del kl)=if (f kl).isSome then n - 1 else n:=by split at hs<;>simp_all<;>omega
 refine ⟨w',hrun,⟨D.del kl, ?_,hs2,fun k z=> ?_,fun k=> ?_⟩,a10 r2.grown⟩
 ·rw [<-hs2];exact a04 r1
 ·unfold b1C;by_cases e:k=kl
  ·subst e;rw [if_pos rfl,Maps.atKey_del_same];rfl
  rw [if_neg e,Maps.atKey_del_other e,h3]
 unfold b1C;by_cases e:k=kl
 ·subst e;rw [if_pos rfl,Maps.has_del_same];rfl
 rw [if_neg e,Maps.has_del_other e,h4]
theorem P9 {w:World} {ops:Array Oper} {rest:List Oper} {a:Act} {Q:Exit->Act->World->Prop} {d:Option Tmp} {tp:TypeId} {pos:String} {af:Array Edge} (t:TypeId) (m x v:Operand)
 (h:∃(kt e:TypeId) (b n:Nat) (f:Lit->Option Value) (kl:Lit),l8 w kt b n f/\Maps.Keyed Tryz.prog kt/\Tryz.prog.underlying t=some (.map kt e)/\n<maxLen/\a.eval m= .map (some b)/\keyOf Tryz.prog kt (a.eval x)=some kl/\
   ∀w',l8 w' kt b (if (f kl).isSome then n else n+1) (T5 f kl (a.eval v))->Mod (fun k=>k=b) w w'->wpList Tryz.prog ops Q rest (a.put d undef) w'):
 wpList Tryz.prog ops Q (⟨d,.mapUpdate t m x v,tp,pos,af,none⟩::rest) a w:=by
 obtain ⟨kt,e,b,n,f,kl,h1,K,ht,hn,hm,hkey,hK⟩:=h;refine wpList_plain rfl fun K' hK'=> ?_;obtain ⟨w',hrun,r1,r2⟩:=h1.put K ht hn hkey (a.eval v);unfold Oper.wp;simp [execOp,hm,hrun,Result.andThen];exact hK' _ _ (hK w' r1 r2)
end Go.Proofs.YtdmjoodhaeijmaaGreatDoor
namespace Go.Proofs
open Go.Shelf
def Tryz.isorted114_ren:Go.Shelf.Ren:=⟨fun|6=>114|8=>140|9=>141|11=>177|13=>65|12=>178|23=>95|24=>96|14=>199|15=>200|16=>201|17=>202|18=>203|19=>204|20=>205|21=>206|22=>207|25=>225|26=>122|27=>123|28=>226|29=>227|30=>228|31=>252|n=>n,fun|26=>9|28=>208|24=>205|0=>0|3=>3|37=>146|48=>177|50=>179|4=>4|40=>171|39=>170|45=>129|5=>5|9=>9|51=>215|55=>219|57=>246|58=>247|33=>128|n=>n,fun|n=>n⟩
theorem Tryz.isorted114:Go.Proofs.SlLaysZ.n6 Tryz.prog Tryz.isorted114_ren:={
 mixed:=by kernel_rfl
 f6:=⟨Tryz.f114.name,by decide,Tryz.func114.trans (congrArg some (by kernel_rfl))⟩
 f8:=⟨Tryz.f140.name,by decide,Tryz.func140.trans (congrArg some (by kernel_rfl))⟩
 f11:=⟨Tryz.f177.name,by decide,Tryz.func177.trans (congrArg some (by kernel_rfl))⟩
 t0:=Tryz.underlying0
 a0:=Tryz.isAgg0
 z0:=Tryz.sizeOf0
 v0:=Tryz.zeroValue0
 t24:=Tryz.underlying205
 a24:=Tryz.isAgg205
 z24:=Tryz.sizeOf205
 v24:=Tryz.zeroValue205
 t26:=Tryz.underlying9
 a26:=Tryz.isAgg9
 z26:=Tryz.sizeOf9
 v26:=Tryz.zeroValue9
 t28:=Tryz.underlying208
 a28:=Tryz.isAgg208
 z28:=Tryz.sizeOf208
 v28:=Tryz.zeroValue208
 i26:=by kernel_rfl}
def Tryz.isort141_ren:Go.Shelf.Ren:=⟨fun|6=>141|8=>65|9=>178|19=>95|20=>96|21=>199|22=>200|23=>201|24=>202|25=>203|26=>204|27=>205|28=>206|29=>207|36=>225|31=>122|32=>123|37=>226|38=>227|39=>228|41=>252|n=>n,fun|27=>205|29=>9|3=>3|32=>146|26=>205|0=>0|44=>177|46=>179|4=>4|36=>171|35=>170|41=>129|5=>5|9=>9|53=>215|57=>219|63=>246|64=>247|n=>n,fun|n=>n⟩
theorem Tryz.isort141:Go.Proofs.SlLaysM.n6 Tryz.prog Tryz.isort141_ren:={
 mixed:=by kernel_rfl
 f6:=⟨Tryz.f141.name,by decide,Tryz.func141.trans (congrArg some (by kernel_rfl))⟩
 f8:=Tryz.func65.trans (congrArg some (by kernel_rfl))
 f9:=⟨Tryz.f178.name,by decide,Tryz.func178.trans (congrArg some (by kernel_rfl))⟩
 f19:=Tryz.func95.trans (congrArg some (by kernel_rfl))
 f20:=Tryz.func96.trans (congrArg some (by kernel_rfl))
 f21:=⟨Tryz.f199.name,by decide,Tryz.func199.trans (congrArg some (by kernel_rfl))⟩
 f22:=⟨Tryz.f200.name,by decide,Tryz.func200.trans (congrArg some (by kernel_rfl))⟩
 f23:=⟨Tryz.f201.name,by decide,Tryz.func201.trans (congrArg some (by kernel_rfl))⟩
 f24:=⟨Tryz.f202.name,by decide,Tryz.func202.trans (congrArg some (by kernel_rfl))⟩
 f25:=⟨Tryz.f203.name,by decide,Tryz.func203.trans (congrArg some (by kernel_rfl))⟩
 f26:=⟨Tryz.f204.name,by decide,Tryz.func204.trans (congrArg some (by kernel_rfl))⟩
 f27:=⟨Tryz.f205.name,by decide,Tryz.func205.trans (congrArg some (by kernel_rfl))⟩
 f28:=⟨Tryz.f206.name,by decide,Tryz.func206.trans (congrArg some (by kernel_rfl))⟩
 f29:=⟨Tryz.f207.name,by decide,Tryz.func207.trans (congrArg some (by kernel_rfl))⟩
 f31:=Tryz.func122.trans (congrArg some (by kernel_rfl))
 f32:=Tryz.func123.trans (congrArg some (by kernel_rfl))
 f36:=⟨Tryz.f225.name,by decide,Tryz.func225.trans (congrArg some (by kernel_rfl))⟩
 f37:=⟨Tryz.f226.name,by decide,Tryz.func226.trans (congrArg some (by kernel_rfl))⟩
 f38:=⟨Tryz.f227.name,by decide,Tryz.func227.trans (congrArg some (by kernel_rfl))⟩
 f39:=⟨Tryz.f228.name,by decide,Tryz.func228.trans (congrArg some (by kernel_rfl))⟩
 f41:=⟨Tryz.f252.name,by decide,Tryz.func252.trans (congrArg some (by kernel_rfl))⟩
 t0:=Tryz.underlying0
 a0:=Tryz.isAgg0
 z0:=Tryz.sizeOf0
 v0:=Tryz.zeroValue0
 t3:=Tryz.underlying3
 a3:=Tryz.isAgg3
 z3:=Tryz.sizeOf3
 v3:=Tryz.zeroValue3
 t4:=Tryz.underlying4
 a4:=Tryz.isAgg4
 z4:=Tryz.sizeOf4
 v4:=Tryz.zeroValue4
 t5:=Tryz.underlying5
 a5:=Tryz.isAgg5
 z5:=Tryz.sizeOf5
 v5:=Tryz.zeroValue5
 t9:=Tryz.underlying9
 a9:=Tryz.isAgg9
 z9:=Tryz.sizeOf9
 v9:=Tryz.zeroValue9
 t26:=Tryz.underlying205
 a26:=Tryz.isAgg205
 z26:=Tryz.sizeOf205
 v26:=Tryz.zeroValue205
 t27:=Tryz.underlying205
 a27:=Tryz.isAgg205
 z27:=Tryz.sizeOf205
 v27:=Tryz.zeroValue205
 t29:=Tryz.underlying9
 a29:=Tryz.isAgg9
 z29:=Tryz.sizeOf9
 v29:=Tryz.zeroValue9
 t32:=Tryz.underlying146
 a32:=Tryz.isAgg146
 z32:=Tryz.sizeOf146
 v32:=Tryz.zeroValue146
 t35:=Tryz.underlying170
 a35:=Tryz.isAgg170
 z35:=Tryz.sizeOf170
 v35:=Tryz.zeroValue170
 t36:=Tryz.underlying171
 a36:=Tryz.isAgg171
 z36:=Tryz.sizeOf171
 v36:=Tryz.zeroValue171
 t41:=Tryz.underlying129
 a41:=Tryz.isAgg129
 z41:=Tryz.sizeOf129
 v41:=Tryz.zeroValue129
 t44:=Tryz.underlying177
 a44:=Tryz.isAgg177
 z44:=Tryz.sizeOf177
 v44:=Tryz.zeroValue177
 t46:=Tryz.underlying179
 a46:=Tryz.isAgg179
 z46:=Tryz.sizeOf179
 v46:=Tryz.zeroValue179
 t53:=Tryz.underlying215
 a53:=Tryz.isAgg215
 z53:=Tryz.sizeOf215
 v53:=Tryz.zeroValue215
 t57:=Tryz.underlying219
 a57:=Tryz.isAgg219
 z57:=Tryz.sizeOf219
 v57:=Tryz.zeroValue219
 t63:=Tryz.underlying246
 a63:=Tryz.isAgg246
 z63:=Tryz.sizeOf246
 v63:=Tryz.zeroValue246
 t64:=Tryz.underlying247
 a64:=Tryz.isAgg247
 z64:=Tryz.sizeOf247
 v64:=Tryz.zeroValue247}
def Tryz.ikeys115_ren:Go.Shelf.Ren:=⟨fun|7=>115|10=>142|n=>n,fun|23=>202|26=>9|3=>34|28=>208|0=>0|27=>207|33=>128|4=>4|n=>n,fun|n=>n⟩
theorem Tryz.ikeys115:Go.Proofs.SlLaysZ.n7 Tryz.prog Tryz.ikeys115_ren:={
 mixed:=by kernel_rfl
 f7:=⟨Tryz.f115.name,by decide,Tryz.func115.trans (congrArg some (by kernel_rfl))⟩
 f10:=⟨Tryz.f142.name,by decide,Tryz.func142.trans (congrArg some (by kernel_rfl))⟩
 t0:=Tryz.underlying0
 a0:=Tryz.isAgg0
 z0:=Tryz.sizeOf0
 v0:=Tryz.zeroValue0
 t4:=Tryz.underlying4
 a4:=Tryz.isAgg4
 z4:=Tryz.sizeOf4
 v4:=Tryz.zeroValue4
 t23:=Tryz.underlying202
 a23:=Tryz.isAgg202
 z23:=Tryz.sizeOf202
 v23:=Tryz.zeroValue202
 t26:=Tryz.underlying9
 a26:=Tryz.isAgg9
 z26:=Tryz.sizeOf9
 v26:=Tryz.zeroValue9
 t27:=Tryz.underlying207
 a27:=Tryz.isAgg207
 z27:=Tryz.sizeOf207
 v27:=Tryz.zeroValue207
 t28:=Tryz.underlying208
 a28:=Tryz.isAgg208
 z28:=Tryz.sizeOf208
 v28:=Tryz.zeroValue208
 t33:=Tryz.underlying128
 a33:=Tryz.isAgg128
 z33:=Tryz.sizeOf128
 v33:=Tryz.zeroValue128}
open Go.RowKit Go.Maps Go.Sort in
theorem Tryz.isorts115 (m:Nat):AnyZ.SortsIn Tryz.prog Tryz.isorted114_ren Fence.wide m:=
 ⟨fun blk off cap ss W hH hblk hsz=>callsIn_wide.2 (AnyM.slices_Sort_string Tryz.isort141 blk off cap ss W hH hblk hsz),
  fun p cap W=>callsIn_wide.2 (AnyM.slices_Sort_string_none Tryz.isort141 p cap W)⟩
open Go.RowKit Go.Maps Go.Sort in
theorem Tryz.maps_Keys_115 (mb:Option Nat) (W:World):Calls Tryz.prog 115 #[.map mb] W fun e w'=>e= .returned (.func (.func 142) #[] #[.pointer (some ⟨W.heap.size,0,none⟩)])/\w'=W.alloc (.cells #[.map mb] 202):=
 (callsIn_wide (n:=5)).1 (AnyZ.keys_in Tryz.ikeys115 Fence.wide 5 trivial rfl mb W)
open Go.RowKit Go.Maps Go.Sort in
theorem Tryz.slices_Sorted_115 {H:Type} (b nn:Nat) (D0:DataW H) (R:Value->Option (DataW H×List MemPlace)) (w:World) (hown:w.ownsMap Tryz.prog 9 R b nn D0) (hmax:Maps.size D0<=maxLen) (hbytes:Maps.size D0*16<=140737488355328):
 Calls Tryz.prog 114 #[.func (.func 142) #[] #[.pointer (some ⟨w.heap.size,0,none⟩)]] (w.alloc (.cells #[.map (some b)] 202)) fun e w'=>∃(v:Value) (ss:List (List UInt8)),e= .returned v/\ss.Perm (strKeys D0)/\
  w'.ownsRow (w.alloc (.cells #[.map (some b)] 202)).heap.size 9 1 v ss.length ((ss.mergeSort (fun x y=>decide (x<=y))).map encStr)/\(v= .slice none 0 0↔ss=[])/\Below (w.alloc (.cells #[.map (some b)] 202)).heap.size (w.alloc (.cells #[.map (some b)] 202)) w':=by
 have hbl:=hown.lt
 have hseq:SeqGives Fence.wide 2 Tryz.prog 142 #[.pointer (some ⟨w.heap.size,0,none⟩)] encStr (fun ss=>ss.Perm (strKeys D0)) (Maps.size D0) (w.alloc (.cells #[.map (some b)] 202)):=
  AnyZ.keys_gives (ρ:=Tryz.ikeys115_ren) {Tryz.ikeys115 with} Fence.wide _ trivial rfl (by omega) w.heap.size b nn D0 _ (by simp) (by simp) (by
   obtain ⟨es,clock,hb,Ft,hs,hD⟩:=hown
   exact ⟨es,clock,(Below.heap_alloc _ _ b hbl).trans hb,Ft,hs,hD⟩)
 exact (callsIn_wide (n:=5)).1 (AnyZ.sorted_in Tryz.isorted114 Fence.wide 5 trivial trivial trivial trivial rfl (by omega) (Tryz.isorts115 _) (enters_of Tryz.func141 (by kernel_rfl) rfl) 142 #[.pointer (some ⟨w.heap.size,0,none⟩)] trivial (enters_of Tryz.func142 (by kernel_rfl) rfl) _ _ hmax hbytes _ hseq)
open Go.RowKit Go.Maps Go.Sort in
theorem Tryz.slices_Sorted_nil_115 (w:World):
 Calls Tryz.prog 114 #[.func (.func 142) #[] #[.pointer (some ⟨w.heap.size,0,none⟩)]] (w.alloc (.cells #[.map none] 202)) fun e w'=>e= .returned (.slice none 0 0)/\Below (w.alloc (.cells #[.map none] 202)).heap.size (w.alloc (.cells #[.map none] 202)) w':=by
 have hseq:SeqGives Fence.wide 2 Tryz.prog 142 #[.pointer (some ⟨w.heap.size,0,none⟩)] encStr (fun ss:List (List UInt8)=>ss=[]) 0 (w.alloc (.cells #[.map none] 202)):=
  AnyZ.keys_gives_nil (ρ:=Tryz.ikeys115_ren) {Tryz.ikeys115 with} Fence.wide _ trivial rfl w.heap.size _ (by simp) (by simp)
 refine ((callsIn_wide (n:=5)).1 (AnyZ.sorted_in Tryz.isorted114 Fence.wide 5 trivial trivial trivial trivial rfl (by omega) (Tryz.isorts115 _) (enters_of Tryz.func141 (by kernel_rfl) rfl) 142 #[.pointer (some ⟨w.heap.size,0,none⟩)] trivial (enters_of Tryz.func142 (by kernel_rfl) rfl) _ 0 (Nat.zero_le _) (by omega) _ hseq)).mono ?_;rintro e w' ⟨v,ss,rfl,rfl,hrow,hnil,hb⟩;obtain rfl:v= .slice none 0 0:=hnil.2 rfl;exact ⟨rfl,hb⟩
def Tryz.isorted144_ren:Go.Shelf.Ren:=⟨fun|6=>144|8=>179|9=>45|11=>208|13=>65|12=>64|23=>95|24=>96|14=>86|15=>87|16=>88|17=>89|18=>90|19=>91|20=>92|21=>93|22=>94|25=>121|26=>122|27=>123|28=>124|29=>125|30=>126|31=>153|n=>n,fun|26=>3|28=>239|24=>29|0=>0|3=>3|37=>146|48=>177|50=>179|4=>4|40=>171|39=>170|45=>129|5=>5|9=>9|51=>215|55=>219|57=>246|58=>247|33=>58|n=>n,fun|n=>n⟩
theorem Tryz.isorted144:Go.Proofs.SlLaysZI.n6 Tryz.prog Tryz.isorted144_ren:={
 mixed:=by kernel_rfl
 f6:=⟨Tryz.f144.name,by decide,Tryz.func144.trans (congrArg some (by kernel_rfl))⟩
 f8:=⟨Tryz.f179.name,by decide,Tryz.func179.trans (congrArg some (by kernel_rfl))⟩
 f11:=⟨Tryz.f208.name,by decide,Tryz.func208.trans (congrArg some (by kernel_rfl))⟩
 t0:=Tryz.underlying0
 a0:=Tryz.isAgg0
 z0:=Tryz.sizeOf0
 v0:=Tryz.zeroValue0
 t24:=Tryz.underlying29
 a24:=Tryz.isAgg29
 z24:=Tryz.sizeOf29
 v24:=Tryz.zeroValue29
 t26:=Tryz.underlying3
 a26:=Tryz.isAgg3
 z26:=Tryz.sizeOf3
 v26:=Tryz.zeroValue3
 t28:=Tryz.underlying239
 a28:=Tryz.isAgg239
 z28:=Tryz.sizeOf239
 v28:=Tryz.zeroValue239
 i26:=by kernel_rfl}
def Tryz.isort45_ren:Go.Shelf.Ren:=⟨fun|5=>45|8=>65|7=>64|19=>95|20=>96|10=>86|11=>87|12=>88|13=>89|14=>90|15=>91|16=>92|17=>93|18=>94|30=>121|31=>122|32=>123|33=>124|34=>125|35=>126|40=>153|n=>n,fun|23=>29|25=>3|3=>3|32=>146|22=>29|0=>0|44=>177|46=>179|4=>4|36=>171|35=>170|41=>129|5=>5|9=>9|53=>215|57=>219|63=>246|64=>247|n=>n,fun|n=>n⟩
theorem Tryz.isort45:Go.Proofs.SlLaysM.n5 Tryz.prog Tryz.isort45_ren:={
 mixed:=by kernel_rfl
 f5:=⟨Tryz.f45.name,by decide,Tryz.func45.trans (congrArg some (by kernel_rfl))⟩
 f7:=⟨Tryz.f64.name,by decide,Tryz.func64.trans (congrArg some (by kernel_rfl))⟩
 f8:=Tryz.func65.trans (congrArg some (by kernel_rfl))
 f10:=⟨Tryz.f86.name,by decide,Tryz.func86.trans (congrArg some (by kernel_rfl))⟩
 f11:=⟨Tryz.f87.name,by decide,Tryz.func87.trans (congrArg some (by kernel_rfl))⟩
 f12:=⟨Tryz.f88.name,by decide,Tryz.func88.trans (congrArg some (by kernel_rfl))⟩
 f13:=⟨Tryz.f89.name,by decide,Tryz.func89.trans (congrArg some (by kernel_rfl))⟩
 f14:=⟨Tryz.f90.name,by decide,Tryz.func90.trans (congrArg some (by kernel_rfl))⟩
 f15:=⟨Tryz.f91.name,by decide,Tryz.func91.trans (congrArg some (by kernel_rfl))⟩
 f16:=⟨Tryz.f92.name,by decide,Tryz.func92.trans (congrArg some (by kernel_rfl))⟩
 f17:=⟨Tryz.f93.name,by decide,Tryz.func93.trans (congrArg some (by kernel_rfl))⟩
 f18:=⟨Tryz.f94.name,by decide,Tryz.func94.trans (congrArg some (by kernel_rfl))⟩
 f19:=Tryz.func95.trans (congrArg some (by kernel_rfl))
 f20:=Tryz.func96.trans (congrArg some (by kernel_rfl))
 f30:=⟨Tryz.f121.name,by decide,Tryz.func121.trans (congrArg some (by kernel_rfl))⟩
 f31:=Tryz.func122.trans (congrArg some (by kernel_rfl))
 f32:=Tryz.func123.trans (congrArg some (by kernel_rfl))
 f33:=⟨Tryz.f124.name,by decide,Tryz.func124.trans (congrArg some (by kernel_rfl))⟩
 f34:=⟨Tryz.f125.name,by decide,Tryz.func125.trans (congrArg some (by kernel_rfl))⟩
 f35:=⟨Tryz.f126.name,by decide,Tryz.func126.trans (congrArg some (by kernel_rfl))⟩
 f40:=⟨Tryz.f153.name,by decide,Tryz.func153.trans (congrArg some (by kernel_rfl))⟩
 t0:=Tryz.underlying0
 a0:=Tryz.isAgg0
 z0:=Tryz.sizeOf0
 v0:=Tryz.zeroValue0
 t3:=Tryz.underlying3
 a3:=Tryz.isAgg3
 z3:=Tryz.sizeOf3
 v3:=Tryz.zeroValue3
 t4:=Tryz.underlying4
 a4:=Tryz.isAgg4
 z4:=Tryz.sizeOf4
 v4:=Tryz.zeroValue4
 t5:=Tryz.underlying5
 a5:=Tryz.isAgg5
 z5:=Tryz.sizeOf5
 v5:=Tryz.zeroValue5
 t9:=Tryz.underlying9
 a9:=Tryz.isAgg9
 z9:=Tryz.sizeOf9
 v9:=Tryz.zeroValue9
 t22:=Tryz.underlying29
 a22:=Tryz.isAgg29
 z22:=Tryz.sizeOf29
 v22:=Tryz.zeroValue29
 t23:=Tryz.underlying29
 a23:=Tryz.isAgg29
 z23:=Tryz.sizeOf29
 v23:=Tryz.zeroValue29
 t25:=Tryz.underlying3
 a25:=Tryz.isAgg3
 z25:=Tryz.sizeOf3
 v25:=Tryz.zeroValue3
 t32:=Tryz.underlying146
 a32:=Tryz.isAgg146
 z32:=Tryz.sizeOf146
 v32:=Tryz.zeroValue146
 t35:=Tryz.underlying170
 a35:=Tryz.isAgg170
 z35:=Tryz.sizeOf170
 v35:=Tryz.zeroValue170
 t36:=Tryz.underlying171
 a36:=Tryz.isAgg171
 z36:=Tryz.sizeOf171
 v36:=Tryz.zeroValue171
 t41:=Tryz.underlying129
 a41:=Tryz.isAgg129
 z41:=Tryz.sizeOf129
 v41:=Tryz.zeroValue129
 t44:=Tryz.underlying177
 a44:=Tryz.isAgg177
 z44:=Tryz.sizeOf177
 v44:=Tryz.zeroValue177
 t46:=Tryz.underlying179
 a46:=Tryz.isAgg179
 z46:=Tryz.sizeOf179
 v46:=Tryz.zeroValue179
 t53:=Tryz.underlying215
 a53:=Tryz.isAgg215
 z53:=Tryz.sizeOf215
 v53:=Tryz.zeroValue215
 t57:=Tryz.underlying219
 a57:=Tryz.isAgg219
 z57:=Tryz.sizeOf219
 v57:=Tryz.zeroValue219
 t63:=Tryz.underlying246
 a63:=Tryz.isAgg246
 z63:=Tryz.sizeOf246
 v63:=Tryz.zeroValue246
 t64:=Tryz.underlying247
 a64:=Tryz.isAgg247
 z64:=Tryz.sizeOf247
 v64:=Tryz.zeroValue247}
def Tryz.ikeys145_ren:Go.Shelf.Ren:=⟨fun|7=>145|10=>180|n=>n,fun|23=>182|26=>3|3=>34|28=>239|0=>0|27=>238|33=>58|4=>4|n=>n,fun|n=>n⟩
theorem Tryz.ikeys145:Go.Proofs.SlLaysZI.n7 Tryz.prog Tryz.ikeys145_ren:={
 mixed:=by kernel_rfl
 f7:=⟨Tryz.f145.name,by decide,Tryz.func145.trans (congrArg some (by kernel_rfl))⟩
 f10:=⟨Tryz.f180.name,by decide,Tryz.func180.trans (congrArg some (by kernel_rfl))⟩
 t0:=Tryz.underlying0
 a0:=Tryz.isAgg0
 z0:=Tryz.sizeOf0
 v0:=Tryz.zeroValue0
 t4:=Tryz.underlying4
 a4:=Tryz.isAgg4
 z4:=Tryz.sizeOf4
 v4:=Tryz.zeroValue4
 t23:=Tryz.underlying182
 a23:=Tryz.isAgg182
 z23:=Tryz.sizeOf182
 v23:=Tryz.zeroValue182
 t26:=Tryz.underlying3
 a26:=Tryz.isAgg3
 z26:=Tryz.sizeOf3
 v26:=Tryz.zeroValue3
 t27:=Tryz.underlying238
 a27:=Tryz.isAgg238
 z27:=Tryz.sizeOf238
 v27:=Tryz.zeroValue238
 t28:=Tryz.underlying239
 a28:=Tryz.isAgg239
 z28:=Tryz.sizeOf239
 v28:=Tryz.zeroValue239
 t33:=Tryz.underlying58
 a33:=Tryz.isAgg58
 z33:=Tryz.sizeOf58
 v33:=Tryz.zeroValue58}
open Go.RowKit Go.Maps Go.Sort in
theorem Tryz.isorts145 (m:Nat):AnyZI.SortsIn Tryz.prog Tryz.isorted144_ren Fence.wide m:=
 ⟨fun blk off cap ss W hH hblk hsz=>callsIn_wide.2 (AnyM.slices_Sort_int Tryz.isort45 blk off cap ss W hH hblk hsz),
  fun p cap W=>callsIn_wide.2 (AnyM.slices_Sort_int_none Tryz.isort45 p cap W)⟩
open Go.RowKit Go.Maps Go.Sort in
theorem Tryz.maps_Keys_145 (mb:Option Nat) (W:World):Calls Tryz.prog 145 #[.map mb] W fun e w'=>e= .returned (.func (.func 180) #[] #[.pointer (some ⟨W.heap.size,0,none⟩)])/\w'=W.alloc (.cells #[.map mb] 182):=
 (callsIn_wide (n:=5)).1 (AnyZI.keys_in Tryz.ikeys145 Fence.wide 5 trivial rfl mb W)
open Go.RowKit Go.Maps Go.Sort in
theorem Tryz.slices_Sorted_145 {H:Type} (b nn:Nat) (D0:DataW H) (R:Value->Option (DataW H×List MemPlace)) (w:World) (hown:w.ownsMap Tryz.prog 3 R b nn D0) (hmax:Maps.size D0<=maxLen) (hbytes:Maps.size D0*8<=140737488355328):
 Calls Tryz.prog 144 #[.func (.func 180) #[] #[.pointer (some ⟨w.heap.size,0,none⟩)]] (w.alloc (.cells #[.map (some b)] 182)) fun e w'=>∃(v:Value) (ss:List Int),e= .returned v/\ss.Perm (intKeys D0)/\
  w'.ownsRow (w.alloc (.cells #[.map (some b)] 182)).heap.size 3 1 v ss.length ((ss.mergeSort (fun x y=>decide (x<=y))).map encZ)/\(v= .slice none 0 0↔ss=[])/\Below (w.alloc (.cells #[.map (some b)] 182)).heap.size (w.alloc (.cells #[.map (some b)] 182)) w':=by
 have hbl:=hown.lt
 have hseq:SeqGives Fence.wide 2 Tryz.prog 180 #[.pointer (some ⟨w.heap.size,0,none⟩)] encZ (fun ss=>ss.Perm (intKeys D0)) (Maps.size D0) (w.alloc (.cells #[.map (some b)] 182)):=
  AnyZI.keys_gives (ρ:=Tryz.ikeys145_ren) {Tryz.ikeys145 with} Fence.wide _ trivial rfl (by omega) w.heap.size b nn D0 _ (by simp) (by simp) (by
   obtain ⟨es,clock,hb,Ft,hs,hD⟩:=hown
   exact ⟨es,clock,(Below.heap_alloc _ _ b hbl).trans hb,Ft,hs,hD⟩)
 exact (callsIn_wide (n:=5)).1 (AnyZI.sorted_in Tryz.isorted144 Fence.wide 5 trivial trivial trivial trivial rfl (by omega) (Tryz.isorts145 _) (enters_of Tryz.func45 (by kernel_rfl) rfl) 180 #[.pointer (some ⟨w.heap.size,0,none⟩)] trivial (enters_of Tryz.func180 (by kernel_rfl) rfl) _ _ hmax hbytes _ hseq)
end Go.Proofs
namespace Go.Proofs.YtdmjoodhaeijmaaGreatDoor
open Go.RowKit Go.Maps Go.Sort
theorem a6h {w:World} {B sz n:Nat} {e:TypeId} {v:Value} {xs:List Value} (h:w.ownsRow B e sz v n xs):g7 w e sz v n xs/\∀k,v.ownBlock=some k->B<=k:=by
 obtain ⟨h1,h2⟩:=h;rcases h2 with ⟨rfl,rfl⟩|⟨g,cap,cur,rfl,h2,h3,h4,h5,h6,h7⟩
 ·exact ⟨⟨h1,.inl ⟨rfl,rfl⟩⟩,fun k hk=>by simp [Value.ownBlock] at hk⟩
 exact ⟨⟨h1,.inr ⟨g,0,cap,cur,rfl,h3,h4,h5,zo,by simpa using h7⟩⟩,fun k hk=>by simp [Value.ownBlock] at hk;subst hk;exact h2⟩
theorem l8.keysI {w:World} {kt:TypeId} {b n:Nat} {f:Lit->Option Value} (h:l8 w kt b n f) (K:Maps.Keyed Tryz.prog kt) (hk:Tryz.prog.underlying kt=some (.int .i64)) {L:List Int} (hnd:L.Nodup) (hm:∀x,x∈L↔(f (.int .i64 x)).isSome=true):
 ∃D:DataW Value,w.ownsMap Tryz.prog kt a2D b n D/\L.Perm (intKeys D)/\Maps.size D=n:=by
 obtain ⟨D,h1,h2, -,h4⟩:=h;refine ⟨D,h1, ?_,h2⟩;obtain ⟨es,hD,hpw,_⟩:=h1.entries K;obtain ⟨es',hD',hko⟩:=h1.keysOf;obtain rfl:es=es':=by rw [hD] at hD';simpa using hD'
 subst hD;exact perm_intKeys hpw (fun p hp=>by obtain ⟨v,hv⟩:=hko p hp;obtain ⟨x,_,hx,_⟩:=Maps.keyOf_i64 hk hv;exact ⟨x,hx⟩) hnd (fun x=>by rw [hm x,h4])
theorem l8.keysS {w:World} {kt:TypeId} {b n:Nat} {f:Lit->Option Value} (h:l8 w kt b n f) (K:Maps.Keyed Tryz.prog kt) (hk:Tryz.prog.underlying kt=some .string) {L:List (List UInt8)} (hnd:L.Nodup) (hm:∀x,x∈L↔(f (.string x)).isSome=true):
 ∃D:DataW Value,w.ownsMap Tryz.prog kt a2D b n D/\L.Perm (strKeys D)/\Maps.size D=n:=by
 obtain ⟨D,h1,h2, -,h4⟩:=h;refine ⟨D,h1, ?_,h2⟩;obtain ⟨es,hD,hpw,_⟩:=h1.entries K;obtain ⟨es',hD',hko⟩:=h1.keysOf;obtain rfl:es=es':=by rw [hD] at hD';simpa using hD'
 subst hD;exact perm_strKeys hpw (fun p hp=>by obtain ⟨v,hv⟩:=hko p hp;obtain ⟨x,_,hx,_⟩:=Maps.keyOf_str hk hv;exact ⟨x,hx⟩) hnd (fun x=>by rw [hm x,h4])
def a0y (L:List Int):List Int:=L.mergeSort leI
def K4 (L:List (List UInt8)):List (List UInt8):=L.mergeSort leB
theorem A5:Maps.Keyed Tryz.prog 3:=Maps.int_keyed Tryz.underlying3
theorem A2:Maps.Keyed Tryz.prog 9:=Maps.string_keyed Tryz.underlying9
def T6 (w:World) (e:TypeId) (xs:List Value) (x:Ending) (w':World):Prop:=
 ∃v,x= .returned v/\g7 w' e 1 v xs.length xs/\(∀k,v.ownBlock=some k->w.heap.size<=k)/\Mod (fun _=>False) w w'
theorem b1D (mb:Option Nat) (w:World):Calls Tryz.prog 145 #[.map mb] w fun e w'=>e= .returned (.func (.func 180) #[] #[.pointer (some ⟨w.heap.size,0,none⟩)])/\w'=w.alloc (.cells #[.map mb] 182):=
 Tryz.maps_Keys_145 mb w
theorem a7L {w:World} {b n:Nat} {f:Lit->Option Value} (h:l8 w 3 b n f) (hn:n<=1000000) {L:List Int} (hnd:L.Nodup) (hm:∀x,x∈L↔(f (.int .i64 x)).isSome=true):
 Calls Tryz.prog 144 #[.func (.func 180) #[] #[.pointer (some ⟨w.heap.size,0,none⟩)]] (w.alloc (.cells #[.map (some b)] 182)) (T6 (w.alloc (.cells #[.map (some b)] 182)) 3 ((a0y L).map (Value.int .i64))):=by
 obtain ⟨D,h1,h2,h3⟩:=h.keysI A5 Tryz.underlying3 hnd hm;refine (Tryz.slices_Sorted_145 b n D a2D w h1 (by rw [h3];unfold maxLen;omega) (by rw [h3];omega)).mono ?_;rintro e w' ⟨v,ss,rfl,hp,hrow, -,hb⟩;obtain ⟨r1,r2⟩:=a6h hrow;have hs:ss.mergeSort (fun x y=>decide (x<=y))=a0y L:=mergeSort_of_perm_i (hp.trans h2.symm);have hl:ss.length=(a0y L).length:=by rw [<-hs,List.length_mergeSort]
 rw [hs,hl] at r1;exact ⟨v,rfl,by rw [zz10];exact r1,r2,⟨hb.os,hb.tape,hb.output,hb.size,fun k hk _=>hb.block k hk⟩⟩
end Go.Proofs.YtdmjoodhaeijmaaGreatDoor
namespace Go.Proofs.YtdmjoodhaeijmaaGreatDoor
open Go.RowKit
def a3w (p:Int×Cnd):List Value:= .int .i64 p.1::p.2.cells
def pls (l:List (Int×Cnd)):List Value:=l.flatMap a3w
abbrev Fil:=ByteArray×List Cnd
def a0z (I:List (Int×Fil)) (id:Int):Option Fil:=(I.find? fun p=>p.1==id).map Prod.snd
def G9 (w:World) (own C:Nat->Prop):Option Value->Option Fil->Prop
 |none,none=>True
 |some v,some q=>∃a cap,v= .agg #[.string q.1,.slice a q.2.length cap]/\g7 w 126 7 (.slice a q.2.length cap) q.2.length (q8 q.2)/\∀k,(Value.slice a q.2.length cap).ownBlock=some k->k<w.heap.size/\¬own k/\C k
 |_,_=>False
def a11 (q:Option Fil) (nm:ByteArray):List Cnd:=match q with|some q=>q.2.filter fun c=>c.name.data.toList==nm.data.toList|none=>[]
def b6M (w:World) (own:Nat->Prop) (I:List (Int×Fil)) (T:Nat) (nm:ByteArray) (v:Value):Prop:=
 ∃ps:List (Int×Cnd),g7 w 229 8 v ps.length (pls ps)/\ps.length<=T/\(∀k,v.ownBlock=some k->own k)/\∀id,(ps.filter fun p=>p.1==id).map Prod.snd=a11 (a0z I id) nm
def Lit.str (nm:ByteArray):Lit:= .string nm.data.toList
def a5o:Value:= .slice none 0 0
def a7M (w:World) (b m1 m2:Nat) (own:Nat->Prop) (I:List (Int×Fil)) (T:Nat):Prop:=
 ∃n f,l8 w 9 m2 n f/\n<=T/\(∀nm:ByteArray,b6M w own I T nm ((f (Lit.str nm)).getD a5o))/\
  (∀nm k,((f (Lit.str nm)).getD a5o).ownBlock=some k->k≠b/\k≠m1/\k≠m2)/\∀nm nm' k,((f (Lit.str nm)).getD a5o).ownBlock=some k->((f (Lit.str nm')).getD a5o).ownBlock=some k->nm=nm'
def b6N (w:World) (m1:Nat) (own C:Nat->Prop) (I:List (Int×Fil)):Prop:=∃f,l8 w 3 m1 I.length f/\∀id:Int,G9 w own C (f (.int .i64 id)) (a0z I id)
structure a0g (w:World) (b m1 m2:Nat) (own C:Nat->Prop) (I:List (Int×Fil)) (T:Nat):Prop where
 row:w.heap[b]? =some (.cells #[.map (some m1),.map (some m2)] 185 (0,0))
 nd:(I.map Prod.fst).Nodup
 ob:own b/\own m1/\own m2
 ne:b≠m1/\b≠m2/\m1≠m2
 fm:b6N w m1 own C I
 pm:a7M w b m1 m2 own I T
 low:I.length<=T
 olow:∀k,own k->k<w.heap.size
 clow:∀k,C k->k<w.heap.size
 wf:∀p∈I,(Lit.int .i64 p.1).wf=true/\p.2.2.length<=19/\∀c∈p.2.2,c.fits
 sc:∀p∈I,p.2.1.size<=1000000
def Idx (w:World) (b:Nat) (own C:Nat->Prop) (I:List (Int×Fil)) (T:Nat):Prop:=∃m1 m2,a0g w b m1 m2 own C I T
theorem G9.mod {w w':World} {F own C:Nat->Prop} {v:Option Value} {q:Option Fil} (h:G9 w own C v q) (hm:Mod F w w') (hF:∀k,k<w.heap.size->F k->own k):G9 w' own C v q:=by
 cases v<;>cases q
 ·trivial
 ·exact h
 ·exact h
 obtain ⟨a,cap,h1,h2,h3⟩:=h;exact ⟨a,cap,h1,h2.mod hm (fun k hk hf=>(h3 k hk).2.1 (hF k (h3 k hk).1 hf)),fun k hk=>⟨zz13 (h3 k hk).1 hm.size,(h3 k hk).2⟩⟩
theorem a7M.mod {w w':World} {b m1 m2:Nat} {F own:Nat->Prop} {I:List (Int×Fil)} {T:Nat} (h:a7M w b m1 m2 own I T) (hm:Mod F w w') (h2:¬F m2) (hF:∀k,own k->k≠b->k≠m1->k≠m2->k<w.heap.size->¬F k):a7M w' b m1 m2 own I T:=by
 obtain ⟨n,f2,g1,g2,g3,g4,g5⟩:=h;refine ⟨n,f2,g1.mod hm h2,g2,fun nm=> ?_,g4,g5⟩;obtain ⟨ps,p1,p2,p3,p4⟩:=g3 nm;exact ⟨ps,p1.mod hm (fun k hk=>hF k (p3 k hk) (g4 nm k hk).1 (g4 nm k hk).2.1 (g4 nm k hk).2.2 (p1.lt k hk)),p2,p3,p4⟩
theorem a7M.cong {w:World} {b m1 m2:Nat} {own own':Nat->Prop} {I I':List (Int×Fil)} {T T':Nat} (h:a7M w b m1 m2 own I T) (ho:∀k,k<w.heap.size->own k->own' k) (hI:∀id nm,a11 (a0z I' id) nm=a11 (a0z I id) nm) (hT:T<=T'):a7M w b m1 m2 own' I' T':=by
 obtain ⟨n,f2,g1,g2,g3,g4,g5⟩:=h;refine ⟨n,f2,g1,Nat.le_trans g2 hT,fun nm=> ?_,g4,g5⟩;obtain ⟨ps,p1,p2,p3,p4⟩:=g3 nm;exact ⟨ps,p1,Nat.le_trans p2 hT,fun k hk=>ho k (p1.lt k hk) (p3 k hk),fun id=>by rw [hI];exact p4 id⟩
theorem a0g.mod2 {w w':World} {b m1 m2:Nat} {own C F:Nat->Prop} {I:List (Int×Fil)} {T:Nat} (h:a0g w b m1 m2 own C I T) (hm:Mod F w w') (hF:∀k,k<w.heap.size->F k->¬own k/\¬C k):a0g w' b m1 m2 own C I T:=by
 have hn:∀k,own k->¬F k:=fun k hk hf=>(hF k (h.olow k hk) hf).1 hk;refine ⟨hm.heap h.row (hn _ h.ob.1),h.nd,h.ob,h.ne, ?_,h.pm.mod hm (hn _ h.ob.2.2) (fun k hk _ _ _ _=>hn k hk),h.low,fun k hk=>zz13 (h.olow k hk) hm.size,fun k hk=>zz13 (h.clow k hk) hm.size,h.wf,h.sc⟩;obtain ⟨f,h1,h2⟩:=h.fm;refine ⟨f,h1.mod hm (hn _ h.ob.2.1),fun id=> ?_⟩;have h3:=h2 id;cases hf:f (.int .i64 id)<;>cases hi:a0z I id<;>rw [hf,hi] at h3
 ·trivial
 ·exact h3
 ·exact h3
 obtain ⟨a,cap,e1,e2,e3⟩:=h3;exact ⟨a,cap,e1,e2.mod hm (fun k hk hf=>(hF k (e3 k hk).1 hf).2 (e3 k hk).2.2),fun k hk=>⟨zz13 (e3 k hk).1 hm.size,(e3 k hk).2⟩⟩
theorem Idx.mod2 {w w':World} {b:Nat} {own C F:Nat->Prop} {I:List (Int×Fil)} {T:Nat} (h:Idx w b own C I T) (hm:Mod F w w') (hF:∀k,k<w.heap.size->F k->¬own k/\¬C k):Idx w' b own C I T:=by
 obtain ⟨m1,m2,h⟩:=h;exact ⟨m1,m2,h.mod2 hm hF⟩
theorem a0g.mod {w w':World} {b m1 m2:Nat} {own C F:Nat->Prop} {I:List (Int×Fil)} {T:Nat} (h:a0g w b m1 m2 own C I T) (hm:Mod F w w') (hF:∀k,k<w.heap.size->¬F k):a0g w' b m1 m2 own C I T:=h.mod2 hm (fun k hk hf=>absurd hf (hF k hk))
theorem Idx.mod {w w':World} {b:Nat} {own C F:Nat->Prop} {I:List (Int×Fil)} {T:Nat} (h:Idx w b own C I T) (hm:Mod F w w') (hF:∀k,k<w.heap.size->¬F k):Idx w' b own C I T:=h.mod2 hm (fun k hk hf=>absurd hf (hF k hk))
theorem Idx.low {w:World} {b:Nat} {own C:Nat->Prop} {I:List (Int×Fil)} {T:Nat} (h:Idx w b own C I T):(∀k,own k->k<w.heap.size)/\∀k,C k->k<w.heap.size:=by
 obtain ⟨m1,m2,h⟩:=h;exact ⟨h.olow,h.clow⟩
def a6i (w:World) (e:Ending) (w':World):Prop:=∃b own,e= .returned (.pointer (some ⟨b,0,none⟩))/\Idx w' b own (fun _=>False) [] 0/\(∀k,own k->w.heap.size<=k/\k<w'.heap.size)/\Mod (fun _=>False) w w'
theorem a2R (w:World):Calls Tryz.prog 67 #[] w (a6i w):=by
 obtain ⟨wa,ak,ae,aa,ah⟩:=g6 w (.map #[] 0);obtain ⟨wb,hwb,ay,aA,aU⟩:=g6 wa (.map #[] 0);obtain ⟨wc,hwc,bU,fZ,nW⟩:=g6 wb (.cells #[.map (some w.heap.size),.map (some wa.heap.size)] 185);have h1:l8 wc 3 w.heap.size 0 (fun _=>none):=((ak▸l8.made w 3:l8 wa 3 w.heap.size 0 (fun _=>none)).mod ay id).mod bU id;have h2:l8 wc 9 wa.heap.size 0 (fun _=>none):=(hwb▸l8.made wa 9:l8 wb 9 wa.heap.size 0 (fun _=>none)).mod bU id
 have hi:a0g wc wb.heap.size w.heap.size wa.heap.size (fun k=>k=w.heap.size\/k=wa.heap.size\/k=wb.heap.size) (fun _=>False) [] 0:=
  ⟨fZ,List.nodup_nil,⟨.inr (.inr rfl),.inl rfl,.inr (.inl rfl)⟩,zo,⟨_,h1,fun _=>trivial⟩,⟨0,_,h2,Nat.le_refl _,fun nm=>⟨[],g7.nil _ _ _,Nat.le_refl _,fun k hk=>by simp [a5o,Value.ownBlock] at hk,fun _=>rfl⟩,
   fun nm k hk=>by simp [a5o,Value.ownBlock] at hk,fun nm nm' k hk=>by simp [a5o,Value.ownBlock] at hk⟩,Nat.le_refl _,fun k hk=>zo,fun _ h=>h.elim,fun p hp=>(by cases hp),fun p hp=>(by cases hp)⟩
 have hm:Mod (fun _=>False) w wc:=(ae.trans ay zi).trans bU zi;have hz:wb.heap.size=w.heap.size+2/\wa.heap.size=w.heap.size+1/\wc.heap.size=w.heap.size+3:=zo
 refine hh8 ak hwb hwc h1 h2 hi hm fZ fun aB bN BZ H1 H2 Hi Hm Jp=> ?_;refine hh3 aa aA hz fun aC bq Hz=> ?_;clear ak hwb hwc h1 h2 hi hm fZ aa aA hz ae ay bU ah aU nW
 go_enter Tryz.func67,Tryz.ntmps67
 go_wp2_with (first|(rw [show w.alloc _=wa from aB.out])|(rw [show wa.alloc _=wb from bN.out])|(rw [show wb.alloc _=wc from BZ.out]))
 go_ret;refine ⟨wb.heap.size,_,rfl,⟨_,_,Hi.out⟩,fun k hk=> ?_,Hm.out⟩;have:=Hz.out;rcases hk with rfl|rfl|rfl<;>omega
end Go.Proofs.YtdmjoodhaeijmaaGreatDoor
namespace Go.Proofs.YtdmjoodhaeijmaaGreatDoor
open Go.RowKit
theorem a0T {I:List (Int×Fil)} {id:Int} {q:Fil} (h:a0z I id=some q):(id,q)∈I:=by
 unfold a0z at h
 cases hf:I.find? (fun p=>p.1==id) with
 |none=>rw [hf] at h;cases h
 |some p=>
  rw [hf] at h;cases h
  have h1:=List.find?_some hf;have h2:=List.mem_of_find?_eq_some hf;rw [beq_iff_eq] at h1;rw [<-h1];exact h2
theorem a9I {I:List (Int×Fil)} {id:Int} (h:a0z I id=none):id∉I.map Prod.fst:=by
 intro hm;obtain ⟨p,hp,rfl⟩:=List.mem_map.1 hm;unfold a0z at h
 cases hf:I.find? (fun q=>q.1==p.1) with
 |none=>
  have:=List.find?_eq_none.1 hf p hp;simp at this
 |some q=>rw [hf] at h;cases h
theorem a12 {l:List Cnd} {c:Cnd} (h:c∈j7 l):c∈Q7 l:=by
 unfold j7 C6 at h;obtain ⟨⟨d,i⟩,h1,h2⟩:=List.mem_filterMap.1 h;have h3:=(List.mem_zipIdx h1).2.2;rw [h3] at h2;simp only at h2;split at h2
 ·cases h2
 ·cases h2
  exact List.mem_of_mem_take (List.getElem_mem _)
theorem X5 (l:List Cnd):(j7 l).length<=l.length:=by
 unfold j7;exact a4y _ _
theorem Z2 {l:List Cnd} (hl:∀c∈l,c.fits):∀c∈j7 l,c.fits:=fun c hc=>by
 obtain ⟨d,hd,rfl⟩:=a0S (a12 hc);exact a1Y (hl d hd)
theorem b32 (w:World):(zeroValue 227).run Tryz.prog w= .ok a5o w:=zk
theorem I0 (w:World):(zeroValue 34).run Tryz.prog w= .ok (.agg #[.string ⟨#[]⟩,.slice none 0 0]) w:=zk
theorem a8M {o:Oper} {a:Act} {w:World} {K:Act->World->Prop} {Q:Exit->Act->World->Prop} (t:TypeId) (m x v:Operand) (ho:o.op= .mapUpdate t m x v)
 (h:∃(kt e:TypeId) (b n:Nat) (f:Lit->Option Value) (kl:Lit),l8 w kt b n f/\Maps.Keyed Tryz.prog kt/\Tryz.prog.underlying t=some (.map kt e)/\n<maxLen/\a.eval m= .map (some b)/\keyOf Tryz.prog kt (a.eval x)=some kl/\
   ∀w',l8 w' kt b (if (f kl).isSome then n else n+1) (T5 f kl (a.eval v))->Mod (fun k=>k=b) w w'->K (a.put o.dst undef) w'):o.wp Tryz.prog a w K Q:=by
 obtain ⟨kt,e,b,n,f,kl,h1,K1,ht,hn,hm,hkey,hK⟩:=h;obtain ⟨w',hrun,r1,r2⟩:=h1.put K1 ht hn hkey (a.eval v);unfold Oper.wp;simp [execOp,ho,hm,hrun,Result.andThen];exact hK w' r1 r2
attribute [local go_sem ↓] K7
end Go.Proofs.YtdmjoodhaeijmaaGreatDoor
namespace Go.Proofs.YtdmjoodhaeijmaaGreatDoor
open Go.RowKit
def a3x (w:World) (kt:TypeId) (b r:Nat) (f:Lit->Option Value) (left:Lit->Bool) (cnt:Nat):Prop:=
 ∃(D:DataW Value) (n:Nat),w.ranges Tryz.prog kt a2D b r n D left cnt/\(∀kl z,D.atKey kl (.held z)= .held ((f kl).getD z))/\∀kl,Maps.has D kl=(f kl).isSome
theorem a3x.mod {w w':World} {kt:TypeId} {b r:Nat} {f:Lit->Option Value} {left:Lit->Bool} {cnt:Nat} {F:Nat->Prop} (h:a3x w kt b r f left cnt) (hm:Mod F w w') (h1:¬F b) (h2:¬F r):a3x w' kt b r f left cnt:=by
 obtain ⟨D,n,⟨es,clock,since,seen,c0,hb,F',hs,hD,hr,rest⟩,h3⟩:=h;exact ⟨D,n,⟨es,clock,since,seen,c0,hm.heap hb h1,F',hs,hD,hm.heap hr h2,rest⟩,h3⟩
theorem a3x.left_eq {w:World} {kt:TypeId} {b r:Nat} {f:Lit->Option Value} {left:Lit->Bool} {cnt:Nat} (h:a3x w kt b r f left cnt):w.rangeLeft b r=cnt:=by
 obtain ⟨D,n,h1, -⟩:=h;exact h1.left_eq
theorem a7N {w w':World} (h:w.grownBy w' none):Mod (fun _=>False) w w':=⟨h.os,h.tape,h.output,h.size,fun k hk _=>h.block k hk (fun e=>by cases e)⟩
theorem b33 {f:Lit->Option Value} {kl:Lit} {c:Value} (h:∀z,(f kl).getD z=c):f kl=some c:=by
 cases hf:f kl with
 |some v=>rw [hf] at h;exact congrArg some (h c)
 |none=>
  rw [hf] at h;have h1:=h (.bool true);have h2:=h (.bool false);rw [<-h2] at h1;cases h1
theorem T7 {w:World} {ops:Array Oper} {rest:List Oper} {o:Oper} {a:Act} {Q:Exit->Act->World->Prop} (hg:o.guard=none) (m:Operand) (t:TypeId) (hop:o.op= .range t m) (kt e:TypeId) (K:Maps.Keyed Tryz.prog kt)
 (ht:Tryz.prog.underlying t=some (.map kt e)) (b n:Nat) (f:Lit->Option Value) (hm:a.eval m= .map (some b)) (h:l8 w kt b n f)
 (hK:∀w',a3x w' kt b w.heap.size f (fun kl=>(f kl).isSome) n->Mod (fun _=>False) w w'->w'.heap.size=w.heap.size+1->wpList Tryz.prog ops Q rest (a.put o.dst (.pointer (some ⟨w.heap.size,0,none⟩))) w'):wpList Tryz.prog ops Q (o::rest) a w:=by
 obtain ⟨D,h1,h2,h3,h4⟩:=h;refine wpList_range_own w hg m t hop kt e K ht a2D b n D hm h1 fun w' r1 r2 r3=>hK w' ?_ (a7N r2) r3;rw [h2] at r1;refine ⟨D,n, ?_,h3,h4⟩;have:(fun kl=>(f kl).isSome)=Maps.has D:=by funext kl;exact (h4 kl).symm
 rw [this];exact r1
theorem W8 {w:World} {ops:Array Oper} {rest:List Oper} {o:Oper} {a:Act} {Q:Exit->Act->World->Prop} {α:Type} (hg:o.guard=none) (it:Operand) (hop:o.op= .next it false) (kt:TypeId) (K:Maps.Keyed Tryz.prog kt)
 (mkK:α->Value) (mkL:α->Lit) (invK:∀key kl,keyOf Tryz.prog kt key=some kl->∃x,key=mkK x) (inL:∀x kl,keyOf Tryz.prog kt (mkK x)=some kl->kl=mkL x) (b r:Nat) (f:Lit->Option Value) (left:Lit->Bool) (cnt:Nat)
 (hit:a.eval it= .pointer (some ⟨r,0,none⟩)) (h:a3x w kt b r f left cnt)
 (hDone:(∀kl,left kl=false)->wpList Tryz.prog ops Q rest (a.put o.dst (.tuple #[.bool false])) w)
 (hMore:∀(x:α) (c:Value) (w':World) (cnt':Nat),keyOf Tryz.prog kt (mkK x)=some (mkL x)->left (mkL x)=true->f (mkL x)=some c->a3x w' kt b r f (fun z=>left z&& !z.sameKey (mkL x)) cnt'->cnt'<cnt->Mod (fun k=>k=r) w w'->w'.heap.size=w.heap.size->
   (Instr.entry (.pointer (some ⟨r,0,none⟩))).run Tryz.prog w'= .ok (.tuple #[mkK x,c]) w'->wpList Tryz.prog ops Q rest (a.put o.dst (.tuple #[.bool true,mkK x,c])) w'):wpList Tryz.prog ops Q (o::rest) a w:=by
 obtain ⟨D,n,h1,h2,h3⟩:=h;refine wpList_next_ranges w hg it hop kt K a2D mkK (fun c:Value=>c) invK (fun v _ _=>⟨v,rfl⟩) b r n D left cnt hit h1 (fun _ h=>hDone h) ?_;intro x c kl y w' cnt' hkey hlk hv hat hrg hlt hgr hsz hen;have hkl:=inL x kl hkey;subst hkl
 have hy:y=(.held c,[]):=by
  have:some ((.held c:DataW Value),([]:List MemPlace))=some y:=hv;exact (Option.some.inj this).symm
 subst hy;refine hMore x c w' cnt' hkey hlk (b33 fun z=> ?_) ⟨D,n,hrg,h2,h3⟩ hlt (a10 hgr) hsz hen;have h5:=hat (.held z);rw [h2] at h5;exact DataW.held.inj h5
theorem b6q (kt:TypeId) (hk:Tryz.prog.underlying kt=some (.int .i64)):∀key kl,keyOf Tryz.prog kt key=some kl->∃x,key=Value.int .i64 x:=fun key kl h=>by
 obtain ⟨x,hx, -⟩:=Maps.keyOf_int_inv hk h;exact ⟨x,hx⟩
theorem b6O (kt:TypeId) (hk:Tryz.prog.underlying kt=some (.int .i64)):∀(x:Int) kl,keyOf Tryz.prog kt (.int .i64 x)=some kl->kl= .int .i64 x:=fun x kl h=>by
 obtain ⟨y,hx,hl, -⟩:=Maps.keyOf_int_inv hk h;cases hx
 exact hl
theorem b5f (kt:TypeId) (hk:Tryz.prog.underlying kt=some .string):∀key kl,keyOf Tryz.prog kt key=some kl->∃x:List UInt8,key=encStr x:=fun key kl h=>by
 obtain ⟨x,hx, -⟩:=Maps.keyOf_str hk h;exact ⟨x,hx⟩
theorem b6r (kt:TypeId) (hk:Tryz.prog.underlying kt=some .string):∀(x:List UInt8) kl,keyOf Tryz.prog kt (encStr x)=some kl->kl= .string x:=fun x kl h=>by
 obtain ⟨y,hx,hl, -⟩:=Maps.keyOf_str hk h
 have:x=y:=by
  have h1:=Value.string.inj hx;have h2:=congrArg (fun b:ByteArray=>b.data.toList) h1;simpa using h2
 rw [this,hl]
theorem b5F (x y:Int):(Lit.int .i64 y).sameKey (.int .i64 x)=(y==x):=by
 unfold Lit.sameKey;by_cases h:y=x
 ·simp [h]
 simp [h]
theorem a3y (x y:List UInt8):(Lit.string y).sameKey (.string x)=(y==x):=rfl
end Go.Proofs.YtdmjoodhaeijmaaGreatDoor
namespace Go.Proofs.YtdmjoodhaeijmaaGreatDoor
open Go.RowKit
def i7 (q:Fil):List UInt8:=t8 q.1 q.2
def r8 (M:List (Int×Fil)) (id:Int) (k:List UInt8):Option Fil:=(M.find? fun p=>p.1==id&&i7 p.2==k).map Prod.snd
theorem G9.mod2 {w w':World} {F own C:Nat->Prop} {v:Option Value} {q:Option Fil} (h:G9 w own C v q) (hm:Mod F w w') (hF:∀k,k<w.heap.size->F k->¬C k):G9 w' own C v q:=by
 cases v<;>cases q
 ·trivial
 ·exact h
 ·exact h
 obtain ⟨a,cap,h1,h2,h3⟩:=h;exact ⟨a,cap,h1,h2.mod hm (fun k hk hf=>hF k (h3 k hk).1 hf (h3 k hk).2.2),fun k hk=>⟨zz13 (h3 k hk).1 hm.size,(h3 k hk).2⟩⟩
theorem G9.cong {w:World} {own own' C C':Nat->Prop} {v:Option Value} {q:Option Fil} (h:G9 w own C v q) (ho:∀k,k<w.heap.size->C k->own' k->own k) (hC:∀k,C k->C' k):G9 w own' C' v q:=by
 cases v<;>cases q
 ·trivial
 ·exact h
 ·exact h
 obtain ⟨a,cap,h1,h2,h3⟩:=h;exact ⟨a,cap,h1,h2,fun k hk=>⟨(h3 k hk).1,fun h=>(h3 k hk).2.1 (ho k (h3 k hk).1 (h3 k hk).2.2 h),hC k (h3 k hk).2.2⟩⟩
def KAt (w:World) (own C:Nat->Prop) (mi N:Nat) (g:List UInt8->Option Fil):Prop:=
 ∃n f,l8 w 9 mi n f/\n<=N/\∀k,G9 w own C (f (.string k)) (g k)
theorem KAt.mod {w w':World} {F own C:Nat->Prop} {mi N:Nat} {g:List UInt8->Option Fil} (h:KAt w own C mi N g) (hm:Mod F w w') (h1:¬F mi) (hF:∀k,k<w.heap.size->F k->¬C k):KAt w' own C mi N g:=by
 obtain ⟨n,f,h2,h3,h4⟩:=h;exact ⟨n,f,h2.mod hm h1,h3,fun k=>(h4 k).mod2 hm hF⟩
theorem KAt.cong {w:World} {own own' C C':Nat->Prop} {mi N N':Nat} {g g':List UInt8->Option Fil} (h:KAt w own C mi N g) (ho:∀k,k<w.heap.size->C k->own' k->own k) (hC:∀k,C k->C' k) (hN:N<=N') (hg:∀k,g' k=g k):KAt w own' C' mi N' g':=by
 obtain ⟨n,f,h2,h3,h4⟩:=h;exact ⟨n,f,h2,Nat.le_trans h3 hN,fun k=>by rw [hg];exact (h4 k).cong ho hC⟩
theorem KAt.lt {w:World} {own C:Nat->Prop} {mi N:Nat} {g:List UInt8->Option Fil} (h:KAt w own C mi N g):mi<w.heap.size:=by
 obtain ⟨n,f,h2, -⟩:=h;exact h2.lt
def a2E (w:World) (own C:Nat->Prop) (b mo N:Nat) (g:List UInt8->Option Fil):Option Value->Prop
 |none=>∀k,g k=none
 |some v=>∃mi,v= .map (some mi)/\own mi/\mi≠b/\mi≠mo/\KAt w own C mi N g
theorem a2E.mod {w w':World} {F own C:Nat->Prop} {b mo N:Nat} {g:List UInt8->Option Fil} {v:Option Value} (h:a2E w own C b mo N g v) (hm:Mod F w w') (h1:∀mi,v=some (.map (some mi))->¬F mi) (hF:∀k,k<w.heap.size->F k->¬C k):a2E w' own C b mo N g v:=by
 cases v with
 |none=>exact h
 |some v=>
  obtain ⟨mi,rfl,h2,h3,h4,h5⟩:=h;exact ⟨mi,rfl,h2,h3,h4,h5.mod hm (h1 mi rfl) hF⟩
theorem a2E.cong {w:World} {own own' C C':Nat->Prop} {b mo N N':Nat} {g g':List UInt8->Option Fil} {v:Option Value} (h:a2E w own C b mo N g v) (ho:∀k,k<w.heap.size->C k->own' k->own k) (ho2:∀k,own k->own' k) (hC:∀k,C k->C' k) (hN:N<=N') (hg:∀k,g' k=g k):a2E w own' C' b mo N' g' v:=by
 cases v with
 |none=>exact fun k=>(hg k).trans (h k)
 |some v=>
  obtain ⟨mi,rfl,h2,h3,h4,h5⟩:=h;exact ⟨mi,rfl,ho2 mi h2,h3,h4,h5.cong ho hC hN hg⟩
def b34 (w:World) (own C:Nat->Prop) (b mo N:Nat) (M:List (Int×Fil)):Prop:=
 ∃n f,l8 w 3 mo n f/\n<=N/\(∀id:Int,a2E w own C b mo N (r8 M id) (f (.int .i64 id)))/\∀(x y:Int) mi,f (.int .i64 x)=some (.map (some mi))->f (.int .i64 y)=some (.map (some mi))->x=y
structure a0h (w:World) (b mo:Nat) (own C:Nat->Prop) (M:List (Int×Fil)) (N:Nat):Prop where
 row:w.heap[b]? =some (.cells #[.map (some mo)] 181 (0,0))
 ob:own b/\own mo
 ne:b≠mo
 om:b34 w own C b mo N M
 nd:M.Pairwise fun p q=>¬(p.1=q.1/\i7 p.2=i7 q.2)
 low:M.length<=N
 dis:∀k,own k->¬C k
 olow:∀k,own k->k<w.heap.size
 clow:∀k,C k->k<w.heap.size
 wf:∀p∈M,(Lit.int .i64 p.1).wf=true/\p.2.2.length<=19/\∀c∈p.2.2,c.fits
 sc:∀p∈M,p.2.1.size<=1000000
def Tab (w:World) (b:Nat) (own C:Nat->Prop) (M:List (Int×Fil)) (N:Nat):Prop:=∃mo,a0h w b mo own C M N
theorem b34.mod {w w':World} {F own C:Nat->Prop} {b mo N:Nat} {M:List (Int×Fil)} (h:b34 w own C b mo N M) (hm:Mod F w w') (h1:¬F mo) (hF:∀k,k<w.heap.size->F k->¬own k/\¬C k):b34 w' own C b mo N M:=by
 obtain ⟨n,f,h2,h3,h4,h5⟩:=h;refine ⟨n,f,h2.mod hm h1,h3,fun id=>(h4 id).mod hm (fun mi gm hf=> ?_) (fun k hk hf=>(hF k hk hf).2),h5⟩;have h6:=h4 id;rw [gm] at h6;obtain ⟨mi',e,h7, -, -,h8⟩:=h6;cases e
 exact (hF mi h8.lt hf).1 h7
theorem a0h.mod {w w':World} {b mo:Nat} {own C F:Nat->Prop} {M:List (Int×Fil)} {N:Nat} (h:a0h w b mo own C M N) (hm:Mod F w w') (hF:∀k,k<w.heap.size->F k->¬own k/\¬C k):a0h w' b mo own C M N:=
 have hn:∀k,own k->¬F k:=fun k hk hf=>(hF k (h.olow k hk) hf).1 hk
 ⟨hm.heap h.row (hn _ h.ob.1),h.ob,h.ne,h.om.mod hm (hn _ h.ob.2) hF,h.nd,h.low,h.dis,fun k hk=>zz13 (h.olow k hk) hm.size,fun k hk=>zz13 (h.clow k hk) hm.size,h.wf,h.sc⟩
theorem Tab.mod {w w':World} {b:Nat} {own C F:Nat->Prop} {M:List (Int×Fil)} {N:Nat} (h:Tab w b own C M N) (hm:Mod F w w') (hF:∀k,k<w.heap.size->F k->¬own k/\¬C k):Tab w' b own C M N:=by
 obtain ⟨mo,h⟩:=h;exact ⟨mo,h.mod hm hF⟩
theorem Tab.mod0 {w w':World} {b:Nat} {own C F:Nat->Prop} {M:List (Int×Fil)} {N:Nat} (h:Tab w b own C M N) (hm:Mod F w w') (hF:∀k,k<w.heap.size->¬F k):Tab w' b own C M N:=h.mod hm (fun k hk hf=>absurd hf (hF k hk))
theorem Tab.low {w:World} {b:Nat} {own C:Nat->Prop} {M:List (Int×Fil)} {N:Nat} (h:Tab w b own C M N):(∀k,own k->k<w.heap.size)/\∀k,C k->k<w.heap.size:=by
 obtain ⟨mo,h⟩:=h;exact ⟨h.olow,h.clow⟩
theorem X6 {M:List (Int×Fil)} {id:Int} {k:List UInt8} {q:Fil} (h:r8 M id k=some q):(id,q)∈M/\i7 q=k:=by
 unfold r8 at h;obtain ⟨p,h1,rfl⟩:=Option.map_eq_some_iff.1 h;have h2:=List.find?_some h1;simp only [Bool.and_eq_true,beq_iff_eq] at h2;obtain ⟨x,q⟩:=p;obtain ⟨rfl,h3⟩:=h2;exact ⟨List.mem_of_find?_eq_some h1,h3⟩
theorem a13 {M:List (Int×Fil)} {id:Int} {k:List UInt8} (h:r8 M id k=none):∀q,(id,q)∈M->i7 q≠k:=fun q hq e=>by
 unfold r8 at h;rw [Option.map_eq_none_iff,List.find?_eq_none] at h;have:=h _ hq;simp [e] at this
theorem a6j {M:List (Int×Fil)} (hn:M.Pairwise fun p q=>¬(p.1=q.1/\i7 p.2=i7 q.2)) {id:Int} {q:Fil} (h:(id,q)∈M):r8 M id (i7 q)=some q:=by
 induction M with
 |nil=>cases h
 | cons p M ih=>
  rw [List.pairwise_cons] at hn;unfold r8;rw [List.find?_cons];rcases List.mem_cons.1 h with h|h
  ·subst h;simp
  have hne:(p.1==id&&i7 p.2==i7 q)=false:=by
   rw [Bool.eq_false_iff];intro e;simp only [Bool.and_eq_true,beq_iff_eq] at e;exact hn.1 _ h e
  rw [hne];exact ih hn.2 h
theorem a3z {M:List (Int×Fil)} {id:Int} {q:Fil} (h:r8 M id (i7 q)=none) (x:Int) (k:List UInt8):r8 (M++[(id,q)]) x k=if x=id/\k=i7 q then some q else r8 M x k:=by
 have h1:r8 (M++[(id,q)]) x k=(r8 M x k).or (if x=id/\k=i7 q then some q else none):=by
  unfold r8;rw [List.find?_append]
  cases M.find? fun p=>p.1==x&&i7 p.2==k with
  |some p=>rfl
  | none=>
   rw [Option.none_or,Option.map_none,Option.none_or,List.find?_cons];by_cases e:x=id/\k=i7 q
   ·obtain ⟨rfl,rfl⟩:=e;simp
   rw [if_neg e]
   have:(id==x&&i7 q==k)=false:=by
    rw [Bool.eq_false_iff];intro h;simp only [Bool.and_eq_true,beq_iff_eq] at h;exact e ⟨h.1.symm,h.2.symm⟩
   simp [this]
 rw [h1];by_cases e:x=id/\k=i7 q
 ·obtain ⟨rfl,rfl⟩:=e;rw [h,if_pos ⟨rfl,rfl⟩];rfl
 rw [if_neg e,if_neg e,Option.or_none]
def a4h (M:List (Int×Fil)) (id:Int) (k:List UInt8):List (Int×Fil):=M.filter fun p=> !(p.1==id&&i7 p.2==k)
theorem a6k {α:Type} (l:List α) (p q:α->Bool):(l.filter q).find? p=l.find? fun x=>q x&&p x:=by
 induction l with
 |nil=>rfl
 | cons a l ih=>
  rw [List.filter_cons,List.find?_cons];by_cases h:q a=true
  ·rw [if_pos h,List.find?_cons,h,Bool.true_and,ih]
  rw [if_neg h,ih];have:q a=false:=by simpa using h
  simp [this]
theorem a9J {α:Type} {l:List α} {p q:α->Bool} (h:∀x∈l,p x=q x):l.find? p=l.find? q:=by
 induction l with
 |nil=>rfl
 |cons a l ih=>
  rw [List.find?_cons,List.find?_cons,h a (List.mem_cons_self ..),ih (fun x hx=>h x (List.mem_cons_of_mem _ hx))]
theorem a6l (M:List (Int×Fil)) (id:Int) (k:List UInt8) (x:Int) (y:List UInt8):r8 (a4h M id k) x y=if x=id/\y=k then none else r8 M x y:=by
 unfold r8 a4h;rw [a6k];by_cases e:x=id/\y=k
 ·obtain ⟨rfl,rfl⟩:=e;rw [if_pos ⟨rfl,rfl⟩,Option.map_eq_none_iff,List.find?_eq_none];intro p _;cases (p.1==x&&i7 p.2==y)<;>simp
 rw [if_neg e];congr 1;refine a9J fun p _=> ?_
 cases h:(p.1==x&&i7 p.2==y) with
 |false=>simp
 | true=>
  simp only [Bool.and_eq_true,beq_iff_eq] at h
  have:(p.1==id&&i7 p.2==k)=false:=by
   rw [Bool.eq_false_iff];intro h2;simp only [Bool.and_eq_true,beq_iff_eq] at h2;exact e ⟨h.1.symm.trans h2.1,h.2.symm.trans h2.2⟩
  simp [this]
def b6P (M:List (Int×Fil)) (id:Int):List (Int×Fil):=M.filter fun p=> !(p.1==id)
end Go.Proofs.YtdmjoodhaeijmaaGreatDoor
