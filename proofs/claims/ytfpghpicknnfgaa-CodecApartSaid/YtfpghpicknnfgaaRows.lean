/-
  No cell of these rows narrows 'for every input' (looked for: loops, veiled, ifaces, maps, wideKeys, modest, calm, conditions, laid).
  DERIVED. THE GIVEN ROWS OF THIS SEAT. 8 by the template 'for every input the law returns true; each argument reads behind the call as it read before'; 0 by the template 'total and deterministic' (their statements: YtfpghpicknnfgaaTotals.lean).
  GIVEN WITH THE SEED: the statements are not yours to turn. If you find one false, say at which input.
  Laid BY PROGRAM, IN A SANDBOX (cutbox-rows.mjs): the forced cells as the released guide's own fill.sh prints them over the translation 8d528fdf52a91a69… (all of the seat's roots in one cut). By AI agents, Wed Nov 11 2026. No macro, syntax, notation, axiom, sorry.
-/
import Derived.Test.YtfpghpicknnfgaaChecked
import GoSem.Claim
import GoSem.ClaimJoined
import GoSem.ClaimMapViews
import Derived.JoinedTies
import Derived.KernelRfl
namespace Go.Proofs.Ytfpghpicknnfgaa
/- THE CELL 'sum', in the pinned program and in every row, IS THE sha256 OF THE DUMP (.gsa) THAT YtfpghpicknnfgaaProg.lean LOADS. Nothing in Lean hashes anything: it is a label: what it is worth is what the hold of that sum in a sandbox is worth. -/
noncomputable def Try.pinned : Pinned := { name := "ytfpghpicknnfgaa", sum := "8d528fdf52a91a69ab1843c25f155efa0754fa17757375c2825997a0178002c0", checked := Try.checked }
namespace Rows
def none {H : Type} : Left H := { results := [], args := [] }

/-- 'gazettelaw04.CodecAny': WHATEVER THE INPUT: true; the input reads as it did. -/
def codecAnySpec : ChangeSpec := { name := "codecAny", fn := fun _ => fun
  | [d] => { results := [.lit (.bool true)], args := [d] }
  | _ => none }
def codecAnyRow : OpenClaim := { program := "ytfpghpicknnfgaa", sum := "8d528fdf52a91a69ab1843c25f155efa0754fa17757375c2825997a0178002c0", func := "gazette/gazettelaw04.CodecAny", spec := "codecAny", inPlace := ["math.Float64frombits", "math.Float64bits"], unfollowed := true, recurses := true, apart := false }
def CodecAnySaid : Prop := codecAnyRow.holds Try.pinned (OpenSpec.ofChange codecAnySpec)

/-- ITS FALSE NEIGHBOUR: 'it returns false'. Refute it at one input. -/
def codecAnyWrong : ChangeSpec := { name := "codecAny", fn := fun _ => fun
  | [d] => { results := [.lit (.bool false)], args := [d] }
  | _ => none }
def CodecAnyWrongFalsely : Prop := codecAnyRow.holds Try.pinned (OpenSpec.ofChange codecAnyWrong)

/-- 'gazettelaw04.CodecReads': WHATEVER THE INPUT: true; the input reads as it did. -/
def codecReadsSpec : ChangeSpec := { name := "codecReads", fn := fun _ => fun
  | [d1, d2, d3] => { results := [.lit (.bool true)], args := [d1, d2, d3] }
  | _ => none }
def codecReadsRow : OpenClaim := { program := "ytfpghpicknnfgaa", sum := "8d528fdf52a91a69ab1843c25f155efa0754fa17757375c2825997a0178002c0", func := "gazette/gazettelaw04.CodecReads", spec := "codecReads", inPlace := ["math.Float64frombits", "math.Float64bits"], unfollowed := true, recurses := true, apart := false }
def CodecReadsSaid : Prop := codecReadsRow.holds Try.pinned (OpenSpec.ofChange codecReadsSpec)

/-- ITS FALSE NEIGHBOUR: 'it returns false'. Refute it at one input. -/
def codecReadsWrong : ChangeSpec := { name := "codecReads", fn := fun _ => fun
  | [d1, d2, d3] => { results := [.lit (.bool false)], args := [d1, d2, d3] }
  | _ => none }
def CodecReadsWrongFalsely : Prop := codecReadsRow.holds Try.pinned (OpenSpec.ofChange codecReadsWrong)

/-- 'gazettelaw04.CodecGives': WHATEVER THE INPUT: true; the input reads as it did. -/
def codecGivesSpec : ChangeSpec := { name := "codecGives", fn := fun _ => fun
  | [d1, d2] => { results := [.lit (.bool true)], args := [d1, d2] }
  | _ => none }
def codecGivesRow : OpenClaim := { program := "ytfpghpicknnfgaa", sum := "8d528fdf52a91a69ab1843c25f155efa0754fa17757375c2825997a0178002c0", func := "gazette/gazettelaw04.CodecGives", spec := "codecGives", inPlace := ["math.Float64frombits", "math.Float64bits"], unfollowed := true, recurses := true, apart := false }
def CodecGivesSaid : Prop := codecGivesRow.holds Try.pinned (OpenSpec.ofChange codecGivesSpec)

/-- ITS FALSE NEIGHBOUR: 'it returns false'. Refute it at one input. -/
def codecGivesWrong : ChangeSpec := { name := "codecGives", fn := fun _ => fun
  | [d1, d2] => { results := [.lit (.bool false)], args := [d1, d2] }
  | _ => none }
def CodecGivesWrongFalsely : Prop := codecGivesRow.holds Try.pinned (OpenSpec.ofChange codecGivesWrong)

/-- 'gazettelaw04.CodecWrong': WHATEVER THE INPUT: true; the input reads as it did. -/
def codecWrongSpec : ChangeSpec := { name := "codecWrong", fn := fun _ => fun
  | [d1, d2, d3] => { results := [.lit (.bool true)], args := [d1, d2, d3] }
  | _ => none }
def codecWrongRow : OpenClaim := { program := "ytfpghpicknnfgaa", sum := "8d528fdf52a91a69ab1843c25f155efa0754fa17757375c2825997a0178002c0", func := "gazette/gazettelaw04.CodecWrong", spec := "codecWrong", inPlace := ["math.Float64frombits", "math.Float64bits"], unfollowed := true, recurses := true, apart := false }
def CodecWrongSaid : Prop := codecWrongRow.holds Try.pinned (OpenSpec.ofChange codecWrongSpec)

/-- ITS FALSE NEIGHBOUR: 'it returns false'. Refute it at one input. -/
def codecWrongWrong : ChangeSpec := { name := "codecWrong", fn := fun _ => fun
  | [d1, d2, d3] => { results := [.lit (.bool false)], args := [d1, d2, d3] }
  | _ => none }
def CodecWrongWrongFalsely : Prop := codecWrongRow.holds Try.pinned (OpenSpec.ofChange codecWrongWrong)

/-- 'gazettelaw04.CodecValues': WHATEVER THE INPUT: true; the input reads as it did. -/
def codecValuesSpec : ChangeSpec := { name := "codecValues", fn := fun _ => fun
  | [d] => { results := [.lit (.bool true)], args := [d] }
  | _ => none }
def codecValuesRow : OpenClaim := { program := "ytfpghpicknnfgaa", sum := "8d528fdf52a91a69ab1843c25f155efa0754fa17757375c2825997a0178002c0", func := "gazette/gazettelaw04.CodecValues", spec := "codecValues", inPlace := ["math.Float64frombits", "math.Float64bits"], unfollowed := true, recurses := true, apart := false }
def CodecValuesSaid : Prop := codecValuesRow.holds Try.pinned (OpenSpec.ofChange codecValuesSpec)

/-- ITS FALSE NEIGHBOUR: 'it returns false'. Refute it at one input. -/
def codecValuesWrong : ChangeSpec := { name := "codecValues", fn := fun _ => fun
  | [d] => { results := [.lit (.bool false)], args := [d] }
  | _ => none }
def CodecValuesWrongFalsely : Prop := codecValuesRow.holds Try.pinned (OpenSpec.ofChange codecValuesWrong)

/-- 'gazettelaw04.CodecFilters': WHATEVER THE INPUT: true; the input reads as it did. -/
def codecFiltersSpec : ChangeSpec := { name := "codecFilters", fn := fun _ => fun
  | [d] => { results := [.lit (.bool true)], args := [d] }
  | _ => none }
def codecFiltersRow : OpenClaim := { program := "ytfpghpicknnfgaa", sum := "8d528fdf52a91a69ab1843c25f155efa0754fa17757375c2825997a0178002c0", func := "gazette/gazettelaw04.CodecFilters", spec := "codecFilters", inPlace := ["math.Float64frombits", "math.Float64bits"], unfollowed := true, recurses := true, apart := false }
def CodecFiltersSaid : Prop := codecFiltersRow.holds Try.pinned (OpenSpec.ofChange codecFiltersSpec)

/-- ITS FALSE NEIGHBOUR: 'it returns false'. Refute it at one input. -/
def codecFiltersWrong : ChangeSpec := { name := "codecFilters", fn := fun _ => fun
  | [d] => { results := [.lit (.bool false)], args := [d] }
  | _ => none }
def CodecFiltersWrongFalsely : Prop := codecFiltersRow.holds Try.pinned (OpenSpec.ofChange codecFiltersWrong)

/-- 'gazettelaw04.CodecEvents': WHATEVER THE INPUT: true; the input reads as it did. -/
def codecEventsSpec : ChangeSpec := { name := "codecEvents", fn := fun _ => fun
  | [d1, d2, d3] => { results := [.lit (.bool true)], args := [d1, d2, d3] }
  | _ => none }
def codecEventsRow : OpenClaim := { program := "ytfpghpicknnfgaa", sum := "8d528fdf52a91a69ab1843c25f155efa0754fa17757375c2825997a0178002c0", func := "gazette/gazettelaw04.CodecEvents", spec := "codecEvents", inPlace := ["math.Float64frombits", "math.Float64bits", "internal/bytealg.abigen_runtime_cmpstring", "slices.overlaps[gazette/api.Attr]"], unfollowed := true, recurses := true, apart := false }
def CodecEventsSaid : Prop := codecEventsRow.holds Try.pinned (OpenSpec.ofChange codecEventsSpec)

/-- ITS FALSE NEIGHBOUR: 'it returns false'. Refute it at one input. -/
def codecEventsWrong : ChangeSpec := { name := "codecEvents", fn := fun _ => fun
  | [d1, d2, d3] => { results := [.lit (.bool false)], args := [d1, d2, d3] }
  | _ => none }
def CodecEventsWrongFalsely : Prop := codecEventsRow.holds Try.pinned (OpenSpec.ofChange codecEventsWrong)

/-- 'gazettelaw04.CodecApart': WHATEVER THE INPUT: true; the input reads as it did. -/
def codecApartSpec : ChangeSpec := { name := "codecApart", fn := fun _ => fun
  | [d1, d2, d3] => { results := [.lit (.bool true)], args := [d1, d2, d3] }
  | _ => none }
def codecApartRow : OpenClaim := { program := "ytfpghpicknnfgaa", sum := "8d528fdf52a91a69ab1843c25f155efa0754fa17757375c2825997a0178002c0", func := "gazette/gazettelaw04.CodecApart", spec := "codecApart", inPlace := ["math.Float64frombits", "math.Float64bits", "internal/bytealg.abigen_runtime_cmpstring", "slices.overlaps[gazette/api.Attr]"], unfollowed := true, recurses := true, apart := false }
def CodecApartSaid : Prop := codecApartRow.holds Try.pinned (OpenSpec.ofChange codecApartSpec)

/-- ITS FALSE NEIGHBOUR: 'it returns false'. Refute it at one input. -/
def codecApartWrong : ChangeSpec := { name := "codecApart", fn := fun _ => fun
  | [d1, d2, d3] => { results := [.lit (.bool false)], args := [d1, d2, d3] }
  | _ => none }
def CodecApartWrongFalsely : Prop := codecApartRow.holds Try.pinned (OpenSpec.ofChange codecApartWrong)

/- THE SECOND FORM. 'bulk': how many values and letters a reading holds, each counted each time it is reached (what is shared counts as often as it is met; a slice's spare places count too). A statement '..UptoSaid' is the law's where the arguments, and the package variables that the reading takes, are together of bulk at most 1048576: NARROWER than '..Said'. Prove '..Said' where nothing that the law and all that it calls make is longer than what came in: it says more and counts as full. Else prove '..UptoSaid'. A law counts once. -/
mutual
def uptoBulk {H : Type} : DataW H → Nat
  | .lit (.string bytes) => bytes.length + 1
  | .lit _ => 1
  | .nil => 1
  | .ptr d => uptoBulk d + 1
  | .slice elems spare => uptoBulkAll elems + uptoBulkAll spare + 1
  | .agg parts => uptoBulkAll parts + 1
  | .iface _ d => uptoBulk d + 1
  | .map entries => uptoBulkEntries entries + 1
  | .held _ => 1
def uptoBulkAll {H : Type} : List (DataW H) → Nat
  | [] => 0
  | d :: r => uptoBulk d + uptoBulkAll r
def uptoBulkEntries {H : Type} : List (Lit × DataW H) → Nat
  | [] => 0
  | x :: r => uptoBulkEntry x + uptoBulkEntries r
def uptoBulkEntry {H : Type} : Lit × DataW H → Nat
  | (.string bytes, d) => bytes.length + uptoBulk d + 1
  | (_, d) => uptoBulk d + 1
 end
def uptoSmall : (H : Type) → List (DataW H) → Bool := fun _ ds => decide (uptoBulkAll ds ≤ 1048576)
def OpenSpec.upto (s : _root_.Go.ChangeSpec) : _root_.Go.OpenSpec := { _root_.Go.OpenSpec.ofChange s with cond := some uptoSmall }

/-- 'gazettelaw04.CodecAny', WHERE WHAT IT READS IS OF BULK AT MOST 1048576: true; the input reads as it did. -/
def codecAnyUptoRow : OpenClaim := { program := "ytfpghpicknnfgaa", sum := "8d528fdf52a91a69ab1843c25f155efa0754fa17757375c2825997a0178002c0", func := "gazette/gazettelaw04.CodecAny", spec := "codecAny", inPlace := ["math.Float64frombits", "math.Float64bits"], unfollowed := true, recurses := true, apart := false, narrowed := true }
def CodecAnyUptoSaid : Prop := codecAnyUptoRow.holds Try.pinned (OpenSpec.upto codecAnySpec)

/-- 'gazettelaw04.CodecReads', WHERE WHAT IT READS IS OF BULK AT MOST 1048576: true; the input reads as it did. -/
def codecReadsUptoRow : OpenClaim := { program := "ytfpghpicknnfgaa", sum := "8d528fdf52a91a69ab1843c25f155efa0754fa17757375c2825997a0178002c0", func := "gazette/gazettelaw04.CodecReads", spec := "codecReads", inPlace := ["math.Float64frombits", "math.Float64bits"], unfollowed := true, recurses := true, apart := false, narrowed := true }
def CodecReadsUptoSaid : Prop := codecReadsUptoRow.holds Try.pinned (OpenSpec.upto codecReadsSpec)

/-- 'gazettelaw04.CodecGives', WHERE WHAT IT READS IS OF BULK AT MOST 1048576: true; the input reads as it did. -/
def codecGivesUptoRow : OpenClaim := { program := "ytfpghpicknnfgaa", sum := "8d528fdf52a91a69ab1843c25f155efa0754fa17757375c2825997a0178002c0", func := "gazette/gazettelaw04.CodecGives", spec := "codecGives", inPlace := ["math.Float64frombits", "math.Float64bits"], unfollowed := true, recurses := true, apart := false, narrowed := true }
def CodecGivesUptoSaid : Prop := codecGivesUptoRow.holds Try.pinned (OpenSpec.upto codecGivesSpec)

/-- 'gazettelaw04.CodecWrong', WHERE WHAT IT READS IS OF BULK AT MOST 1048576: true; the input reads as it did. -/
def codecWrongUptoRow : OpenClaim := { program := "ytfpghpicknnfgaa", sum := "8d528fdf52a91a69ab1843c25f155efa0754fa17757375c2825997a0178002c0", func := "gazette/gazettelaw04.CodecWrong", spec := "codecWrong", inPlace := ["math.Float64frombits", "math.Float64bits"], unfollowed := true, recurses := true, apart := false, narrowed := true }
def CodecWrongUptoSaid : Prop := codecWrongUptoRow.holds Try.pinned (OpenSpec.upto codecWrongSpec)

/-- 'gazettelaw04.CodecValues', WHERE WHAT IT READS IS OF BULK AT MOST 1048576: true; the input reads as it did. -/
def codecValuesUptoRow : OpenClaim := { program := "ytfpghpicknnfgaa", sum := "8d528fdf52a91a69ab1843c25f155efa0754fa17757375c2825997a0178002c0", func := "gazette/gazettelaw04.CodecValues", spec := "codecValues", inPlace := ["math.Float64frombits", "math.Float64bits"], unfollowed := true, recurses := true, apart := false, narrowed := true }
def CodecValuesUptoSaid : Prop := codecValuesUptoRow.holds Try.pinned (OpenSpec.upto codecValuesSpec)

/-- 'gazettelaw04.CodecFilters', WHERE WHAT IT READS IS OF BULK AT MOST 1048576: true; the input reads as it did. -/
def codecFiltersUptoRow : OpenClaim := { program := "ytfpghpicknnfgaa", sum := "8d528fdf52a91a69ab1843c25f155efa0754fa17757375c2825997a0178002c0", func := "gazette/gazettelaw04.CodecFilters", spec := "codecFilters", inPlace := ["math.Float64frombits", "math.Float64bits"], unfollowed := true, recurses := true, apart := false, narrowed := true }
def CodecFiltersUptoSaid : Prop := codecFiltersUptoRow.holds Try.pinned (OpenSpec.upto codecFiltersSpec)

/-- 'gazettelaw04.CodecEvents', WHERE WHAT IT READS IS OF BULK AT MOST 1048576: true; the input reads as it did. -/
def codecEventsUptoRow : OpenClaim := { program := "ytfpghpicknnfgaa", sum := "8d528fdf52a91a69ab1843c25f155efa0754fa17757375c2825997a0178002c0", func := "gazette/gazettelaw04.CodecEvents", spec := "codecEvents", inPlace := ["math.Float64frombits", "math.Float64bits", "internal/bytealg.abigen_runtime_cmpstring", "slices.overlaps[gazette/api.Attr]"], unfollowed := true, recurses := true, apart := false, narrowed := true }
def CodecEventsUptoSaid : Prop := codecEventsUptoRow.holds Try.pinned (OpenSpec.upto codecEventsSpec)

/-- 'gazettelaw04.CodecApart', WHERE WHAT IT READS IS OF BULK AT MOST 1048576: true; the input reads as it did. -/
def codecApartUptoRow : OpenClaim := { program := "ytfpghpicknnfgaa", sum := "8d528fdf52a91a69ab1843c25f155efa0754fa17757375c2825997a0178002c0", func := "gazette/gazettelaw04.CodecApart", spec := "codecApart", inPlace := ["math.Float64frombits", "math.Float64bits", "internal/bytealg.abigen_runtime_cmpstring", "slices.overlaps[gazette/api.Attr]"], unfollowed := true, recurses := true, apart := false, narrowed := true }
def CodecApartUptoSaid : Prop := codecApartUptoRow.holds Try.pinned (OpenSpec.upto codecApartSpec)

end Rows
end Go.Proofs.Ytfpghpicknnfgaa
