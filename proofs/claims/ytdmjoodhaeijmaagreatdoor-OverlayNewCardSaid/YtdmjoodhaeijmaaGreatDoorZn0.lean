/- Short lemmas of this claim. -/
import Derived.Lib.Hide
import Derived.KernelRfl
import Derived.Tactics
namespace Go.Proofs.YtdmjoodhaeijmaaGreatDoor
open Go
theorem zh {p:Prop} (a:p):Go.RowKit.Hid p:=a
theorem zh2 {p0 p1:Prop} (a0:p0) (a1:p1):Go.RowKit.Hid p0∧Go.RowKit.Hid p1:=⟨a0,a1⟩
theorem zh3 {p0 p1 p2:Prop} (a0:p0) (a1:p1) (a2:p2):Go.RowKit.Hid p0∧Go.RowKit.Hid p1∧Go.RowKit.Hid p2:=⟨a0,a1,a2⟩
theorem zh4 {p0 p1 p2 p3:Prop} (a0:p0) (a1:p1) (a2:p2) (a3:p3):Go.RowKit.Hid p0∧Go.RowKit.Hid p1∧Go.RowKit.Hid p2∧Go.RowKit.Hid p3:=⟨a0,a1,a2,a3⟩
theorem zh5 {p0 p1 p2 p3 p4:Prop} (a0:p0) (a1:p1) (a2:p2) (a3:p3) (a4:p4):Go.RowKit.Hid p0∧Go.RowKit.Hid p1∧Go.RowKit.Hid p2∧Go.RowKit.Hid p3∧Go.RowKit.Hid p4:=⟨a0,a1,a2,a3,a4⟩
theorem zh6 {p0 p1 p2 p3 p4 p5:Prop} (a0:p0) (a1:p1) (a2:p2) (a3:p3) (a4:p4) (a5:p5):Go.RowKit.Hid p0∧Go.RowKit.Hid p1∧Go.RowKit.Hid p2∧Go.RowKit.Hid p3∧Go.RowKit.Hid p4∧Go.RowKit.Hid p5:=⟨a0,a1,a2,a3,a4,a5⟩
theorem zh7 {p0 p1 p2 p3 p4 p5 p6:Prop} (a0:p0) (a1:p1) (a2:p2) (a3:p3) (a4:p4) (a5:p5) (a6:p6):Go.RowKit.Hid p0∧Go.RowKit.Hid p1∧Go.RowKit.Hid p2∧Go.RowKit.Hid p3∧Go.RowKit.Hid p4∧Go.RowKit.Hid p5∧Go.RowKit.Hid p6:=⟨a0,a1,a2,a3,a4,a5,a6⟩
theorem zh8 {p0 p1 p2 p3 p4 p5 p6 p7:Prop} (a0:p0) (a1:p1) (a2:p2) (a3:p3) (a4:p4) (a5:p5) (a6:p6) (a7:p7):Go.RowKit.Hid p0∧Go.RowKit.Hid p1∧Go.RowKit.Hid p2∧Go.RowKit.Hid p3∧Go.RowKit.Hid p4∧Go.RowKit.Hid p5∧Go.RowKit.Hid p6∧Go.RowKit.Hid p7:=⟨a0,a1,a2,a3,a4,a5,a6,a7⟩
theorem zh9 {p0 p1 p2 p3 p4 p5 p6 p7 p8:Prop} (a0:p0) (a1:p1) (a2:p2) (a3:p3) (a4:p4) (a5:p5) (a6:p6) (a7:p7) (a8:p8):Go.RowKit.Hid p0∧Go.RowKit.Hid p1∧Go.RowKit.Hid p2∧Go.RowKit.Hid p3∧Go.RowKit.Hid p4∧Go.RowKit.Hid p5∧Go.RowKit.Hid p6∧Go.RowKit.Hid p7∧Go.RowKit.Hid p8:=⟨a0,a1,a2,a3,a4,a5,a6,a7,a8⟩
theorem zh10 {p0 p1 p2 p3 p4 p5 p6 p7 p8 p9:Prop} (a0:p0) (a1:p1) (a2:p2) (a3:p3) (a4:p4) (a5:p5) (a6:p6) (a7:p7) (a8:p8) (a9:p9):Go.RowKit.Hid p0∧Go.RowKit.Hid p1∧Go.RowKit.Hid p2∧Go.RowKit.Hid p3∧Go.RowKit.Hid p4∧Go.RowKit.Hid p5∧Go.RowKit.Hid p6∧Go.RowKit.Hid p7∧Go.RowKit.Hid p8∧Go.RowKit.Hid p9:=⟨a0,a1,a2,a3,a4,a5,a6,a7,a8,a9⟩
theorem zh11 {p0 p1 p2 p3 p4 p5 p6 p7 p8 p9 p10:Prop} (a0:p0) (a1:p1) (a2:p2) (a3:p3) (a4:p4) (a5:p5) (a6:p6) (a7:p7) (a8:p8) (a9:p9) (a10:p10):Go.RowKit.Hid p0∧Go.RowKit.Hid p1∧Go.RowKit.Hid p2∧Go.RowKit.Hid p3∧Go.RowKit.Hid p4∧Go.RowKit.Hid p5∧Go.RowKit.Hid p6∧Go.RowKit.Hid p7∧Go.RowKit.Hid p8∧Go.RowKit.Hid p9∧Go.RowKit.Hid p10:=⟨a0,a1,a2,a3,a4,a5,a6,a7,a8,a9,a10⟩
theorem zh12 {p0 p1 p2 p3 p4 p5 p6 p7 p8 p9 p10 p11:Prop} (a0:p0) (a1:p1) (a2:p2) (a3:p3) (a4:p4) (a5:p5) (a6:p6) (a7:p7) (a8:p8) (a9:p9) (a10:p10) (a11:p11):Go.RowKit.Hid p0∧Go.RowKit.Hid p1∧Go.RowKit.Hid p2∧Go.RowKit.Hid p3∧Go.RowKit.Hid p4∧Go.RowKit.Hid p5∧Go.RowKit.Hid p6∧Go.RowKit.Hid p7∧Go.RowKit.Hid p8∧Go.RowKit.Hid p9∧Go.RowKit.Hid p10∧Go.RowKit.Hid p11:=⟨a0,a1,a2,a3,a4,a5,a6,a7,a8,a9,a10,a11⟩
theorem zz1 {α:Type _} {xs:List α} {i:Nat} (h:i<xs.toArray.size):xs.toArray[i]=xs[i]'(by simpa using h):=List.getElem_toArray h
theorem zz2 {α:Type _} {a:α} {as:List α} {i:Nat} {h:i+1<(a::as).length}:(a::as)[i+1]=as[i]'(Nat.lt_of_succ_lt_succ h):=rfl
theorem zz3 {α:Type _} {a:α} {as:List α} {h:0<(a::as).length}:(a::as)[0]=a:=rfl
theorem zz4 {α:Type _} {as bs:List α}:(as++bs).length=as.length+bs.length:=List.length_append
theorem zz5 {α:Type _} {l:List α} {i:Nat} (h:i<l.length):l[i]? =some l[i]:=List.getElem?_eq_getElem h
theorem zz6 {α:Type _} {l:List α} {i:Nat} {a:α} (h:l[i]? =some a):∃h:i<l.length,l[i]=a:=List.getElem?_eq_some_iff.1 h
theorem zz7 {α:Type _} {l:Array α} {i:Nat} {a:α} (h:l[i]? =some a):∃h:i<l.size,l[i]=a:=Array.getElem?_eq_some_iff.1 h
theorem zz8 {α:Type _} {l:List α} {i:Nat} {a:α} (h:l[i]? =some a):a∈l:=List.mem_of_getElem? h
theorem zz9 {α:Type _} {a:α} {as:List α}:(a::as).length=as.length+1:=rfl
theorem zz10 {α β:Type _} {as:List α} (f:α→β):(as.map f).length=as.length:=List.length_map f
theorem zz11 {α:Type _} (as:List α):as++[]=as:=List.append_nil as
theorem zz12 {α:Type _} (as bs cs:List α):as++bs++cs=as++(bs++cs):=List.append_assoc as bs cs
theorem zz13 {a b c:Nat} (h:a<b) (h2:b≤c):a<c:=Nat.lt_of_lt_of_le h h2
theorem zz14 {α:Type _} {a:α} {s t:List α} (h:a∈s++t):a∈s∨a∈t:=List.mem_append.1 h
theorem zz15 {α:Type _} {p:α→Bool} {l:List α} (h:l.all p=true):∀x,x∈l→p x=true:=List.all_eq_true.1 h
theorem zo {p:Prop} (h:p:=by omega):p:=h
theorem zk {p:Prop} (h:p:=by kernel_rfl):p:=h
theorem zd {p:Prop} (h:p:=by decide):p:=h
theorem zg {p:Prop} (h:p:=by (try simp only [zz1,zz2,zz3]);go_simp;done):p:=h
theorem zi {α:Sort _} {β:α→Sort _} {γ:(x:α)→β x→Prop} (x:α) (y:β x) (h:γ x y):γ x y:=h
end Go.Proofs.YtdmjoodhaeijmaaGreatDoor
