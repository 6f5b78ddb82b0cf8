/-
  No cell of these rows narrows 'for every input' (looked for: loops, veiled, ifaces, maps, wideKeys, modest, calm, conditions, laid).
  DERIVED. THE GIVEN ROWS OF THIS SEAT. 8 by the template 'for every input the law returns true; each argument reads behind the call as it read before'; 0 by the template 'total and deterministic' (their statements: YtpfnemkfbelpcaaTotals.lean).
  GIVEN WITH THE SEED: the statements are not yours to turn. If you find one false, say at which input.
  Laid BY PROGRAM, IN A SANDBOX (cutbox-rows.mjs): the forced cells as the released guide's own fill.sh prints them over the translation 0ae628fa30ee722e… (all of the seat's roots in one cut). By AI agents, Wed Nov 11 2026. No macro, syntax, notation, axiom, sorry.
-/
import Derived.Test.YtpfnemkfbelpcaaChecked
import GoSem.Claim
import GoSem.ClaimJoined
import GoSem.ClaimMapViews
import Derived.JoinedTies
import Derived.KernelRfl
namespace Go.Proofs.Ytpfnemkfbelpcaa
/- THE CELL 'sum', in the pinned program and in every row, IS THE sha256 OF THE DUMP (.gsa) THAT YtpfnemkfbelpcaaProg.lean LOADS. Nothing in Lean hashes anything: it is a label: what it is worth is what the hold of that sum in a sandbox is worth. -/
noncomputable def Try.pinned : Pinned := { name := "ytpfnemkfbelpcaa", sum := "0ae628fa30ee722e82e35366d6a56d246d574fd2e328d8e6724a039efa41c8dd", checked := Try.checked }
namespace Rows
def none {H : Type} : Left H := { results := [], args := [] }

/-- 'gazettelaw11.RedactHidden': WHATEVER THE INPUT: true; the input reads as it did. -/
def redactHiddenSpec : ChangeSpec := { name := "redactHidden", fn := fun _ => fun
  | [d1, d2, d3] => { results := [.lit (.bool true)], args := [d1, d2, d3] }
  | _ => none }
def redactHiddenRow : OpenClaim := { program := "ytpfnemkfbelpcaa", sum := "0ae628fa30ee722e82e35366d6a56d246d574fd2e328d8e6724a039efa41c8dd", func := "gazette/gazettelaw11.RedactHidden", spec := "redactHidden", inPlace := ["internal/bytealg.IndexByteString", "internal/bytealg.IndexString"], recurses := true, named := ["internal/bytealg.MaxLen"], apart := false }
def RedactHiddenSaid : Prop := redactHiddenRow.holds Try.pinned (OpenSpec.ofChange redactHiddenSpec)

/-- ITS FALSE NEIGHBOUR: 'it returns false'. Refute it at one input. -/
def redactHiddenWrong : ChangeSpec := { name := "redactHidden", fn := fun _ => fun
  | [d1, d2, d3] => { results := [.lit (.bool false)], args := [d1, d2, d3] }
  | _ => none }
def RedactHiddenWrongFalsely : Prop := redactHiddenRow.holds Try.pinned (OpenSpec.ofChange redactHiddenWrong)

/-- 'gazettelaw11.RedactLess': WHATEVER THE INPUT: true; the input reads as it did. -/
def redactLessSpec : ChangeSpec := { name := "redactLess", fn := fun _ => fun
  | [d1, d2, d3] => { results := [.lit (.bool true)], args := [d1, d2, d3] }
  | _ => none }
def redactLessRow : OpenClaim := { program := "ytpfnemkfbelpcaa", sum := "0ae628fa30ee722e82e35366d6a56d246d574fd2e328d8e6724a039efa41c8dd", func := "gazette/gazettelaw11.RedactLess", spec := "redactLess", inPlace := ["internal/bytealg.IndexByteString", "internal/bytealg.IndexString", "math.Float64frombits", "internal/bytealg.abigen_runtime_cmpstring", "slices.overlaps[gazette/api.Attr]"], unfollowed := true, recurses := true, named := ["internal/bytealg.MaxLen"], apart := false }
def RedactLessSaid : Prop := redactLessRow.holds Try.pinned (OpenSpec.ofChange redactLessSpec)

/-- ITS FALSE NEIGHBOUR: 'it returns false'. Refute it at one input. -/
def redactLessWrong : ChangeSpec := { name := "redactLess", fn := fun _ => fun
  | [d1, d2, d3] => { results := [.lit (.bool false)], args := [d1, d2, d3] }
  | _ => none }
def RedactLessWrongFalsely : Prop := redactLessRow.holds Try.pinned (OpenSpec.ofChange redactLessWrong)

/-- 'gazettelaw11.RedactEvents': WHATEVER THE INPUT: true; the input reads as it did. -/
def redactEventsSpec : ChangeSpec := { name := "redactEvents", fn := fun _ => fun
  | [d1, d2, d3] => { results := [.lit (.bool true)], args := [d1, d2, d3] }
  | _ => none }
def redactEventsRow : OpenClaim := { program := "ytpfnemkfbelpcaa", sum := "0ae628fa30ee722e82e35366d6a56d246d574fd2e328d8e6724a039efa41c8dd", func := "gazette/gazettelaw11.RedactEvents", spec := "redactEvents", inPlace := ["internal/bytealg.IndexByteString", "internal/bytealg.IndexString", "math.Float64frombits", "internal/bytealg.abigen_runtime_cmpstring", "slices.overlaps[gazette/api.Attr]", "math.Float64bits"], unfollowed := true, recurses := true, named := ["internal/bytealg.MaxLen"], apart := false }
def RedactEventsSaid : Prop := redactEventsRow.holds Try.pinned (OpenSpec.ofChange redactEventsSpec)

/-- ITS FALSE NEIGHBOUR: 'it returns false'. Refute it at one input. -/
def redactEventsWrong : ChangeSpec := { name := "redactEvents", fn := fun _ => fun
  | [d1, d2, d3] => { results := [.lit (.bool false)], args := [d1, d2, d3] }
  | _ => none }
def RedactEventsWrongFalsely : Prop := redactEventsRow.holds Try.pinned (OpenSpec.ofChange redactEventsWrong)

/-- 'gazettelaw10.AclRights': WHATEVER THE INPUT: true; the input reads as it did. -/
def aclRightsSpec : ChangeSpec := { name := "aclRights", fn := fun _ => fun
  | [d] => { results := [.lit (.bool true)], args := [d] }
  | _ => none }
def aclRightsRow : OpenClaim := { program := "ytpfnemkfbelpcaa", sum := "0ae628fa30ee722e82e35366d6a56d246d574fd2e328d8e6724a039efa41c8dd", func := "gazette/gazettelaw10.AclRights", spec := "aclRights", inPlace := ["internal/bytealg.abigen_runtime_cmpstring", "internal/bytealg.IndexByteString", "internal/bytealg.IndexString", "math.Float64frombits"], unfollowed := true, recurses := true, named := ["internal/bytealg.MaxLen"], apart := false }
def AclRightsSaid : Prop := aclRightsRow.holds Try.pinned (OpenSpec.ofChange aclRightsSpec)

/-- ITS FALSE NEIGHBOUR: 'it returns false'. Refute it at one input. -/
def aclRightsWrong : ChangeSpec := { name := "aclRights", fn := fun _ => fun
  | [d] => { results := [.lit (.bool false)], args := [d] }
  | _ => none }
def AclRightsWrongFalsely : Prop := aclRightsRow.holds Try.pinned (OpenSpec.ofChange aclRightsWrong)

/-- 'gazettelaw10.AclObserves': WHATEVER THE INPUT: true; the input reads as it did. -/
def aclObservesSpec : ChangeSpec := { name := "aclObserves", fn := fun _ => fun
  | [d1, d2, d3] => { results := [.lit (.bool true)], args := [d1, d2, d3] }
  | _ => none }
def aclObservesRow : OpenClaim := { program := "ytpfnemkfbelpcaa", sum := "0ae628fa30ee722e82e35366d6a56d246d574fd2e328d8e6724a039efa41c8dd", func := "gazette/gazettelaw10.AclObserves", spec := "aclObserves", inPlace := ["internal/bytealg.abigen_runtime_cmpstring", "internal/bytealg.IndexByteString", "internal/bytealg.IndexString", "math.Float64frombits", "math.Float64bits"], unfollowed := true, recurses := true, named := ["internal/bytealg.MaxLen"], apart := false }
def AclObservesSaid : Prop := aclObservesRow.holds Try.pinned (OpenSpec.ofChange aclObservesSpec)

/-- ITS FALSE NEIGHBOUR: 'it returns false'. Refute it at one input. -/
def aclObservesWrong : ChangeSpec := { name := "aclObserves", fn := fun _ => fun
  | [d1, d2, d3] => { results := [.lit (.bool false)], args := [d1, d2, d3] }
  | _ => none }
def AclObservesWrongFalsely : Prop := aclObservesRow.holds Try.pinned (OpenSpec.ofChange aclObservesWrong)

/-- 'gazettelaw10.AclMore': WHATEVER THE INPUT: true; the input reads as it did. -/
def aclMoreSpec : ChangeSpec := { name := "aclMore", fn := fun _ => fun
  | [d1, d2, d3] => { results := [.lit (.bool true)], args := [d1, d2, d3] }
  | _ => none }
def aclMoreRow : OpenClaim := { program := "ytpfnemkfbelpcaa", sum := "0ae628fa30ee722e82e35366d6a56d246d574fd2e328d8e6724a039efa41c8dd", func := "gazette/gazettelaw10.AclMore", spec := "aclMore", inPlace := ["internal/bytealg.abigen_runtime_cmpstring", "internal/bytealg.IndexByteString", "internal/bytealg.IndexString", "math.Float64frombits", "math.Float64bits"], unfollowed := true, recurses := true, named := ["internal/bytealg.MaxLen"], apart := false }
def AclMoreSaid : Prop := aclMoreRow.holds Try.pinned (OpenSpec.ofChange aclMoreSpec)

/-- ITS FALSE NEIGHBOUR: 'it returns false'. Refute it at one input. -/
def aclMoreWrong : ChangeSpec := { name := "aclMore", fn := fun _ => fun
  | [d1, d2, d3] => { results := [.lit (.bool false)], args := [d1, d2, d3] }
  | _ => none }
def AclMoreWrongFalsely : Prop := aclMoreRow.holds Try.pinned (OpenSpec.ofChange aclMoreWrong)

/-- 'gazettelaw10.AclPublishes': WHATEVER THE INPUT: true; the input reads as it did. -/
def aclPublishesSpec : ChangeSpec := { name := "aclPublishes", fn := fun _ => fun
  | [d1, d2, d3] => { results := [.lit (.bool true)], args := [d1, d2, d3] }
  | _ => none }
def aclPublishesRow : OpenClaim := { program := "ytpfnemkfbelpcaa", sum := "0ae628fa30ee722e82e35366d6a56d246d574fd2e328d8e6724a039efa41c8dd", func := "gazette/gazettelaw10.AclPublishes", spec := "aclPublishes", inPlace := ["internal/bytealg.abigen_runtime_cmpstring", "internal/bytealg.IndexByteString", "internal/bytealg.IndexString", "math.Float64frombits", "slices.overlaps[gazette/api.Attr]"], unfollowed := true, recurses := true, named := ["internal/bytealg.MaxLen"], apart := false }
def AclPublishesSaid : Prop := aclPublishesRow.holds Try.pinned (OpenSpec.ofChange aclPublishesSpec)

/-- ITS FALSE NEIGHBOUR: 'it returns false'. Refute it at one input. -/
def aclPublishesWrong : ChangeSpec := { name := "aclPublishes", fn := fun _ => fun
  | [d1, d2, d3] => { results := [.lit (.bool false)], args := [d1, d2, d3] }
  | _ => none }
def AclPublishesWrongFalsely : Prop := aclPublishesRow.holds Try.pinned (OpenSpec.ofChange aclPublishesWrong)

/-- 'gazettelaw10.AclApart': WHATEVER THE INPUT: true; the input reads as it did. -/
def aclApartSpec : ChangeSpec := { name := "aclApart", fn := fun _ => fun
  | [d1, d2, d3] => { results := [.lit (.bool true)], args := [d1, d2, d3] }
  | _ => none }
def aclApartRow : OpenClaim := { program := "ytpfnemkfbelpcaa", sum := "0ae628fa30ee722e82e35366d6a56d246d574fd2e328d8e6724a039efa41c8dd", func := "gazette/gazettelaw10.AclApart", spec := "aclApart", inPlace := ["internal/bytealg.abigen_runtime_cmpstring", "internal/bytealg.IndexByteString", "internal/bytealg.IndexString", "math.Float64frombits", "slices.overlaps[gazette/api.Attr]", "math.Float64bits"], unfollowed := true, recurses := true, named := ["internal/bytealg.MaxLen"], apart := false }
def AclApartSaid : Prop := aclApartRow.holds Try.pinned (OpenSpec.ofChange aclApartSpec)

/-- ITS FALSE NEIGHBOUR: 'it returns false'. Refute it at one input. -/
def aclApartWrong : ChangeSpec := { name := "aclApart", fn := fun _ => fun
  | [d1, d2, d3] => { results := [.lit (.bool false)], args := [d1, d2, d3] }
  | _ => none }
def AclApartWrongFalsely : Prop := aclApartRow.holds Try.pinned (OpenSpec.ofChange aclApartWrong)

/- THE SECOND FORM. 'bulk': how many values and letters a reading holds, each counted each time it is reached (what is shared counts as often as it is met; a slice's spare places count too). A statement '..UptoSaid' is the law's where the arguments, and the package variables that the reading takes, are together of bulk at most 1048576: NARROWER than '..Said'. Prove '..Said' where nothing that the law and all that it calls make is longer than what came in: it says more and counts as full. Else prove '..UptoSaid'. A law counts once. -/
mutual
def uptoBulk {H : Type} : DataW H → Nat
  | .lit (.string bytes) => bytes.length + 1
  | .lit _ => 1
  | .nil => 1
  | .ptr d => uptoBulk d + 1
  | .slice elems spare => uptoBulkAll elems + uptoBulkAll spare + 1
  | .agg parts => uptoBulkAll parts + 1
  | .iface _ d => uptoBulk d + 1
  | .map entries => uptoBulkEntries entries + 1
  | .held _ => 1
def uptoBulkAll {H : Type} : List (DataW H) → Nat
  | [] => 0
  | d :: r => uptoBulk d + uptoBulkAll r
def uptoBulkEntries {H : Type} : List (Lit × DataW H) → Nat
  | [] => 0
  | x :: r => uptoBulkEntry x + uptoBulkEntries r
def uptoBulkEntry {H : Type} : Lit × DataW H → Nat
  | (.string bytes, d) => bytes.length + uptoBulk d + 1
  | (_, d) => uptoBulk d + 1
 end
def uptoSmall : (H : Type) → List (DataW H) → Bool := fun _ ds => decide (uptoBulkAll ds ≤ 1048576)
def OpenSpec.upto (s : _root_.Go.ChangeSpec) : _root_.Go.OpenSpec := { _root_.Go.OpenSpec.ofChange s with cond := some uptoSmall }

/-- 'gazettelaw11.RedactHidden', WHERE WHAT IT READS IS OF BULK AT MOST 1048576: true; the input reads as it did. -/
def redactHiddenUptoRow : OpenClaim := { program := "ytpfnemkfbelpcaa", sum := "0ae628fa30ee722e82e35366d6a56d246d574fd2e328d8e6724a039efa41c8dd", func := "gazette/gazettelaw11.RedactHidden", spec := "redactHidden", inPlace := ["internal/bytealg.IndexByteString", "internal/bytealg.IndexString"], recurses := true, named := ["internal/bytealg.MaxLen"], apart := false, narrowed := true }
def RedactHiddenUptoSaid : Prop := redactHiddenUptoRow.holds Try.pinned (OpenSpec.upto redactHiddenSpec)

/-- 'gazettelaw11.RedactLess', WHERE WHAT IT READS IS OF BULK AT MOST 1048576: true; the input reads as it did. -/
def redactLessUptoRow : OpenClaim := { program := "ytpfnemkfbelpcaa", sum := "0ae628fa30ee722e82e35366d6a56d246d574fd2e328d8e6724a039efa41c8dd", func := "gazette/gazettelaw11.RedactLess", spec := "redactLess", inPlace := ["internal/bytealg.IndexByteString", "internal/bytealg.IndexString", "math.Float64frombits", "internal/bytealg.abigen_runtime_cmpstring", "slices.overlaps[gazette/api.Attr]"], unfollowed := true, recurses := true, named := ["internal/bytealg.MaxLen"], apart := false, narrowed := true }
def RedactLessUptoSaid : Prop := redactLessUptoRow.holds Try.pinned (OpenSpec.upto redactLessSpec)

/-- 'gazettelaw11.RedactEvents', WHERE WHAT IT READS IS OF BULK AT MOST 1048576: true; the input reads as it did. -/
def redactEventsUptoRow : OpenClaim := { program := "ytpfnemkfbelpcaa", sum := "0ae628fa30ee722e82e35366d6a56d246d574fd2e328d8e6724a039efa41c8dd", func := "gazette/gazettelaw11.RedactEvents", spec := "redactEvents", inPlace := ["internal/bytealg.IndexByteString", "internal/bytealg.IndexString", "math.Float64frombits", "internal/bytealg.abigen_runtime_cmpstring", "slices.overlaps[gazette/api.Attr]", "math.Float64bits"], unfollowed := true, recurses := true, named := ["internal/bytealg.MaxLen"], apart := false, narrowed := true }
def RedactEventsUptoSaid : Prop := redactEventsUptoRow.holds Try.pinned (OpenSpec.upto redactEventsSpec)

/-- 'gazettelaw10.AclRights', WHERE WHAT IT READS IS OF BULK AT MOST 1048576: true; the input reads as it did. -/
def aclRightsUptoRow : OpenClaim := { program := "ytpfnemkfbelpcaa", sum := "0ae628fa30ee722e82e35366d6a56d246d574fd2e328d8e6724a039efa41c8dd", func := "gazette/gazettelaw10.AclRights", spec := "aclRights", inPlace := ["internal/bytealg.abigen_runtime_cmpstring", "internal/bytealg.IndexByteString", "internal/bytealg.IndexString", "math.Float64frombits"], unfollowed := true, recurses := true, named := ["internal/bytealg.MaxLen"], apart := false, narrowed := true }
def AclRightsUptoSaid : Prop := aclRightsUptoRow.holds Try.pinned (OpenSpec.upto aclRightsSpec)

/-- 'gazettelaw10.AclObserves', WHERE WHAT IT READS IS OF BULK AT MOST 1048576: true; the input reads as it did. -/
def aclObservesUptoRow : OpenClaim := { program := "ytpfnemkfbelpcaa", sum := "0ae628fa30ee722e82e35366d6a56d246d574fd2e328d8e6724a039efa41c8dd", func := "gazette/gazettelaw10.AclObserves", spec := "aclObserves", inPlace := ["internal/bytealg.abigen_runtime_cmpstring", "internal/bytealg.IndexByteString", "internal/bytealg.IndexString", "math.Float64frombits", "math.Float64bits"], unfollowed := true, recurses := true, named := ["internal/bytealg.MaxLen"], apart := false, narrowed := true }
def AclObservesUptoSaid : Prop := aclObservesUptoRow.holds Try.pinned (OpenSpec.upto aclObservesSpec)

/-- 'gazettelaw10.AclMore', WHERE WHAT IT READS IS OF BULK AT MOST 1048576: true; the input reads as it did. -/
def aclMoreUptoRow : OpenClaim := { program := "ytpfnemkfbelpcaa", sum := "0ae628fa30ee722e82e35366d6a56d246d574fd2e328d8e6724a039efa41c8dd", func := "gazette/gazettelaw10.AclMore", spec := "aclMore", inPlace := ["internal/bytealg.abigen_runtime_cmpstring", "internal/bytealg.IndexByteString", "internal/bytealg.IndexString", "math.Float64frombits", "math.Float64bits"], unfollowed := true, recurses := true, named := ["internal/bytealg.MaxLen"], apart := false, narrowed := true }
def AclMoreUptoSaid : Prop := aclMoreUptoRow.holds Try.pinned (OpenSpec.upto aclMoreSpec)

/-- 'gazettelaw10.AclPublishes', WHERE WHAT IT READS IS OF BULK AT MOST 1048576: true; the input reads as it did. -/
def aclPublishesUptoRow : OpenClaim := { program := "ytpfnemkfbelpcaa", sum := "0ae628fa30ee722e82e35366d6a56d246d574fd2e328d8e6724a039efa41c8dd", func := "gazette/gazettelaw10.AclPublishes", spec := "aclPublishes", inPlace := ["internal/bytealg.abigen_runtime_cmpstring", "internal/bytealg.IndexByteString", "internal/bytealg.IndexString", "math.Float64frombits", "slices.overlaps[gazette/api.Attr]"], unfollowed := true, recurses := true, named := ["internal/bytealg.MaxLen"], apart := false, narrowed := true }
def AclPublishesUptoSaid : Prop := aclPublishesUptoRow.holds Try.pinned (OpenSpec.upto aclPublishesSpec)

/-- 'gazettelaw10.AclApart', WHERE WHAT IT READS IS OF BULK AT MOST 1048576: true; the input reads as it did. -/
def aclApartUptoRow : OpenClaim := { program := "ytpfnemkfbelpcaa", sum := "0ae628fa30ee722e82e35366d6a56d246d574fd2e328d8e6724a039efa41c8dd", func := "gazette/gazettelaw10.AclApart", spec := "aclApart", inPlace := ["internal/bytealg.abigen_runtime_cmpstring", "internal/bytealg.IndexByteString", "internal/bytealg.IndexString", "math.Float64frombits", "slices.overlaps[gazette/api.Attr]", "math.Float64bits"], unfollowed := true, recurses := true, named := ["internal/bytealg.MaxLen"], apart := false, narrowed := true }
def AclApartUptoSaid : Prop := aclApartUptoRow.holds Try.pinned (OpenSpec.upto aclApartSpec)

end Rows
end Go.Proofs.Ytpfnemkfbelpcaa
