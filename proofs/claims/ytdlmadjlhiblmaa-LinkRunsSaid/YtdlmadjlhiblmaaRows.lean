/-
  No cell of these rows narrows 'for every input' (looked for: loops, veiled, ifaces, maps, wideKeys, modest, calm, conditions, laid).
  DERIVED. THE GIVEN ROWS OF THIS SEAT. 5 by the template 'for every input the law returns true; each argument reads behind the call as it read before'; 0 by the template 'total and deterministic' (their statements: YtdlmadjlhiblmaaTotals.lean).
  GIVEN WITH THE SEED: the statements are not yours to turn. If you find one false, say at which input.
  Laid BY PROGRAM, IN A SANDBOX (cutbox-rows.mjs): the forced cells as the released guide's own fill.sh prints them over the translation 5bb59286a7b69518… (all of the seat's roots in one cut). By AI agents, Wed Nov 11 2026. No macro, syntax, notation, axiom, sorry.
-/
import Derived.Test.YtdlmadjlhiblmaaChecked
import GoSem.Claim
import GoSem.ClaimJoined
import GoSem.ClaimMapViews
import Derived.JoinedTies
import Derived.KernelRfl
namespace Go.Proofs.Ytdlmadjlhiblmaa
/- THE CELL 'sum', in the pinned program and in every row, IS THE sha256 OF THE DUMP (.gsa) THAT YtdlmadjlhiblmaaProg.lean LOADS. Nothing in Lean hashes anything: it is a label: what it is worth is what the hold of that sum in a sandbox is worth. -/
noncomputable def Try.pinned : Pinned := { name := "ytdlmadjlhiblmaa", sum := "5bb59286a7b69518527667dceb0af2c8cb98a1eb14bd70b9c3d29ef06b64de8a", checked := Try.checked }
namespace Rows
def none {H : Type} : Left H := { results := [], args := [] }

/-- 'gazettelaw15.LinkOnce': WHATEVER THE INPUT: true; the input reads as it did. -/
def linkOnceSpec : ChangeSpec := { name := "linkOnce", fn := fun _ => fun
  | [d] => { results := [.lit (.bool true)], args := [d] }
  | _ => none }
def linkOnceRow : OpenClaim := { program := "ytdlmadjlhiblmaa", sum := "5bb59286a7b69518527667dceb0af2c8cb98a1eb14bd70b9c3d29ef06b64de8a", func := "gazette/gazettelaw15.LinkOnce", spec := "linkOnce", unfollowed := true, recurses := true, apart := false }
def LinkOnceSaid : Prop := linkOnceRow.holds Try.pinned (OpenSpec.ofChange linkOnceSpec)

/-- ITS FALSE NEIGHBOUR: 'it returns false'. Refute it at one input. -/
def linkOnceWrong : ChangeSpec := { name := "linkOnce", fn := fun _ => fun
  | [d] => { results := [.lit (.bool false)], args := [d] }
  | _ => none }
def LinkOnceWrongFalsely : Prop := linkOnceRow.holds Try.pinned (OpenSpec.ofChange linkOnceWrong)

/-- 'gazettelaw15.LinkStays': WHATEVER THE INPUT: true; the input reads as it did. -/
def linkStaysSpec : ChangeSpec := { name := "linkStays", fn := fun _ => fun
  | [d1, d2] => { results := [.lit (.bool true)], args := [d1, d2] }
  | _ => none }
def linkStaysRow : OpenClaim := { program := "ytdlmadjlhiblmaa", sum := "5bb59286a7b69518527667dceb0af2c8cb98a1eb14bd70b9c3d29ef06b64de8a", func := "gazette/gazettelaw15.LinkStays", spec := "linkStays", unfollowed := true, recurses := true, apart := false }
def LinkStaysSaid : Prop := linkStaysRow.holds Try.pinned (OpenSpec.ofChange linkStaysSpec)

/-- ITS FALSE NEIGHBOUR: 'it returns false'. Refute it at one input. -/
def linkStaysWrong : ChangeSpec := { name := "linkStays", fn := fun _ => fun
  | [d1, d2] => { results := [.lit (.bool false)], args := [d1, d2] }
  | _ => none }
def LinkStaysWrongFalsely : Prop := linkStaysRow.holds Try.pinned (OpenSpec.ofChange linkStaysWrong)

/-- 'gazettelaw15.LinkRooms': WHATEVER THE INPUT: true; the input reads as it did. -/
def linkRoomsSpec : ChangeSpec := { name := "linkRooms", fn := fun _ => fun
  | [d] => { results := [.lit (.bool true)], args := [d] }
  | _ => none }
def linkRoomsRow : OpenClaim := { program := "ytdlmadjlhiblmaa", sum := "5bb59286a7b69518527667dceb0af2c8cb98a1eb14bd70b9c3d29ef06b64de8a", func := "gazette/gazettelaw15.LinkRooms", spec := "linkRooms", unfollowed := true, recurses := true, apart := false }
def LinkRoomsSaid : Prop := linkRoomsRow.holds Try.pinned (OpenSpec.ofChange linkRoomsSpec)

/-- ITS FALSE NEIGHBOUR: 'it returns false'. Refute it at one input. -/
def linkRoomsWrong : ChangeSpec := { name := "linkRooms", fn := fun _ => fun
  | [d] => { results := [.lit (.bool false)], args := [d] }
  | _ => none }
def LinkRoomsWrongFalsely : Prop := linkRoomsRow.holds Try.pinned (OpenSpec.ofChange linkRoomsWrong)

/-- 'gazettelaw15.LinkResets': WHATEVER THE INPUT: true; the input reads as it did. -/
def linkResetsSpec : ChangeSpec := { name := "linkResets", fn := fun _ => fun
  | [d1, d2, d3] => { results := [.lit (.bool true)], args := [d1, d2, d3] }
  | _ => none }
def linkResetsRow : OpenClaim := { program := "ytdlmadjlhiblmaa", sum := "5bb59286a7b69518527667dceb0af2c8cb98a1eb14bd70b9c3d29ef06b64de8a", func := "gazette/gazettelaw15.LinkResets", spec := "linkResets", unfollowed := true, recurses := true, apart := false }
def LinkResetsSaid : Prop := linkResetsRow.holds Try.pinned (OpenSpec.ofChange linkResetsSpec)

/-- ITS FALSE NEIGHBOUR: 'it returns false'. Refute it at one input. -/
def linkResetsWrong : ChangeSpec := { name := "linkResets", fn := fun _ => fun
  | [d1, d2, d3] => { results := [.lit (.bool false)], args := [d1, d2, d3] }
  | _ => none }
def LinkResetsWrongFalsely : Prop := linkResetsRow.holds Try.pinned (OpenSpec.ofChange linkResetsWrong)

/-- 'gazettelaw15.LinkRuns': WHATEVER THE INPUT: true; the input reads as it did. -/
def linkRunsSpec : ChangeSpec := { name := "linkRuns", fn := fun _ => fun
  | [d] => { results := [.lit (.bool true)], args := [d] }
  | _ => none }
def linkRunsRow : OpenClaim := { program := "ytdlmadjlhiblmaa", sum := "5bb59286a7b69518527667dceb0af2c8cb98a1eb14bd70b9c3d29ef06b64de8a", func := "gazette/gazettelaw15.LinkRuns", spec := "linkRuns", unfollowed := true, recurses := true, apart := false }
def LinkRunsSaid : Prop := linkRunsRow.holds Try.pinned (OpenSpec.ofChange linkRunsSpec)

/-- ITS FALSE NEIGHBOUR: 'it returns false'. Refute it at one input. -/
def linkRunsWrong : ChangeSpec := { name := "linkRuns", fn := fun _ => fun
  | [d] => { results := [.lit (.bool false)], args := [d] }
  | _ => none }
def LinkRunsWrongFalsely : Prop := linkRunsRow.holds Try.pinned (OpenSpec.ofChange linkRunsWrong)

/- THE SECOND FORM. 'bulk': how many values and letters a reading holds, each counted each time it is reached (what is shared counts as often as it is met; a slice's spare places count too). A statement '..UptoSaid' is the law's where the arguments, and the package variables that the reading takes, are together of bulk at most 1048576: NARROWER than '..Said'. Prove '..Said' where nothing that the law and all that it calls make is longer than what came in: it says more and counts as full. Else prove '..UptoSaid'. A law counts once. -/
mutual
def uptoBulk {H : Type} : DataW H → Nat
  | .lit (.string bytes) => bytes.length + 1
  | .lit _ => 1
  | .nil => 1
  | .ptr d => uptoBulk d + 1
  | .slice elems spare => uptoBulkAll elems + uptoBulkAll spare + 1
  | .agg parts => uptoBulkAll parts + 1
  | .iface _ d => uptoBulk d + 1
  | .map entries => uptoBulkEntries entries + 1
  | .held _ => 1
def uptoBulkAll {H : Type} : List (DataW H) → Nat
  | [] => 0
  | d :: r => uptoBulk d + uptoBulkAll r
def uptoBulkEntries {H : Type} : List (Lit × DataW H) → Nat
  | [] => 0
  | x :: r => uptoBulkEntry x + uptoBulkEntries r
def uptoBulkEntry {H : Type} : Lit × DataW H → Nat
  | (.string bytes, d) => bytes.length + uptoBulk d + 1
  | (_, d) => uptoBulk d + 1
 end
def uptoSmall : (H : Type) → List (DataW H) → Bool := fun _ ds => decide (uptoBulkAll ds ≤ 1048576)
def OpenSpec.upto (s : _root_.Go.ChangeSpec) : _root_.Go.OpenSpec := { _root_.Go.OpenSpec.ofChange s with cond := some uptoSmall }

/-- 'gazettelaw15.LinkOnce', WHERE WHAT IT READS IS OF BULK AT MOST 1048576: true; the input reads as it did. -/
def linkOnceUptoRow : OpenClaim := { program := "ytdlmadjlhiblmaa", sum := "5bb59286a7b69518527667dceb0af2c8cb98a1eb14bd70b9c3d29ef06b64de8a", func := "gazette/gazettelaw15.LinkOnce", spec := "linkOnce", unfollowed := true, recurses := true, apart := false, narrowed := true }
def LinkOnceUptoSaid : Prop := linkOnceUptoRow.holds Try.pinned (OpenSpec.upto linkOnceSpec)

/-- 'gazettelaw15.LinkStays', WHERE WHAT IT READS IS OF BULK AT MOST 1048576: true; the input reads as it did. -/
def linkStaysUptoRow : OpenClaim := { program := "ytdlmadjlhiblmaa", sum := "5bb59286a7b69518527667dceb0af2c8cb98a1eb14bd70b9c3d29ef06b64de8a", func := "gazette/gazettelaw15.LinkStays", spec := "linkStays", unfollowed := true, recurses := true, apart := false, narrowed := true }
def LinkStaysUptoSaid : Prop := linkStaysUptoRow.holds Try.pinned (OpenSpec.upto linkStaysSpec)

/-- 'gazettelaw15.LinkRooms', WHERE WHAT IT READS IS OF BULK AT MOST 1048576: true; the input reads as it did. -/
def linkRoomsUptoRow : OpenClaim := { program := "ytdlmadjlhiblmaa", sum := "5bb59286a7b69518527667dceb0af2c8cb98a1eb14bd70b9c3d29ef06b64de8a", func := "gazette/gazettelaw15.LinkRooms", spec := "linkRooms", unfollowed := true, recurses := true, apart := false, narrowed := true }
def LinkRoomsUptoSaid : Prop := linkRoomsUptoRow.holds Try.pinned (OpenSpec.upto linkRoomsSpec)

/-- 'gazettelaw15.LinkResets', WHERE WHAT IT READS IS OF BULK AT MOST 1048576: true; the input reads as it did. -/
def linkResetsUptoRow : OpenClaim := { program := "ytdlmadjlhiblmaa", sum := "5bb59286a7b69518527667dceb0af2c8cb98a1eb14bd70b9c3d29ef06b64de8a", func := "gazette/gazettelaw15.LinkResets", spec := "linkResets", unfollowed := true, recurses := true, apart := false, narrowed := true }
def LinkResetsUptoSaid : Prop := linkResetsUptoRow.holds Try.pinned (OpenSpec.upto linkResetsSpec)

/-- 'gazettelaw15.LinkRuns', WHERE WHAT IT READS IS OF BULK AT MOST 1048576: true; the input reads as it did. -/
def linkRunsUptoRow : OpenClaim := { program := "ytdlmadjlhiblmaa", sum := "5bb59286a7b69518527667dceb0af2c8cb98a1eb14bd70b9c3d29ef06b64de8a", func := "gazette/gazettelaw15.LinkRuns", spec := "linkRuns", unfollowed := true, recurses := true, apart := false, narrowed := true }
def LinkRunsUptoSaid : Prop := linkRunsUptoRow.holds Try.pinned (OpenSpec.upto linkRunsSpec)

end Rows
end Go.Proofs.Ytdlmadjlhiblmaa
