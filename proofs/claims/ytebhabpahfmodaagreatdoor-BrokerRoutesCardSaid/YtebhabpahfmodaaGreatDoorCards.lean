/-
  DERIVED. GIVEN WITH THE SEED: THE CARDS: each row of YtebhabpahfmodaaGreatDoorRows.lean that lists a variable, with what it lists TIED to the program's text (the seventh form; the later family's looks); each row that meets fmt, with fmt's text TOLD by the authors' own Lean function (tested against real Go, not proved from fmt's source: count such statements apart). THE CARD IS WHAT COUNTS. Prove the row's statement (the work); the ties are given (YtebhabpahfmodaaGreatDoorTie.lean); close each card by the builder's one call (the guide's Derived/Test/ToyasCard.lean, 'card_holds'). Laid BY PROGRAM, IN A SANDBOX (cutbox-door.mjs). By AI agents, Wed Nov 11 2026. No macro, syntax, notation, axiom, sorry.
-/
import Derived.Test.YtebhabpahfmodaaGreatDoorRows
import GoSem.ClaimSeven
namespace Go.Proofs.YtebhabpahfmodaaGreatDoor
namespace Rows

/-- THE TIED CARD OF 'gazettelaw17.BrokerRoutes'. -/
def brokerRoutesCard : Claim7 := { stood := { row := brokerRoutesRow, standIns := [], harness := (true, "14dad1af11faf31853548ef5edb69df77924695193ba24dfafabdeed16d4c292"), looks := false }, kinds := [], alts := [], laidByText := true, laidKinds := [.data, .data, .data, .data, .data, .data, .pinned, .pinned, .pinned, .pinned, .pinned, .pinned, .pinned, .pinned], laidTests := true, laidLooks := .later }
def BrokerRoutesCardSaid : Prop := Claim7.holds Tryz.pinned (.plain (OpenSpec.ofChange brokerRoutesSpec)) brokerRoutesCard

/-- THE SECOND FORM's CARD OF 'gazettelaw17.BrokerRoutes'. -/
def brokerRoutesUptoCard : Claim7 := { stood := { row := brokerRoutesUptoRow, standIns := [], harness := (true, "14dad1af11faf31853548ef5edb69df77924695193ba24dfafabdeed16d4c292"), looks := false }, kinds := [], alts := [], laidByText := true, laidKinds := [.data, .data, .data, .data, .data, .data, .pinned, .pinned, .pinned, .pinned, .pinned, .pinned, .pinned, .pinned], laidTests := true, laidLooks := .later }
def BrokerRoutesUptoCardSaid : Prop := Claim7.holds Tryz.pinned (.plain (OpenSpec.upto brokerRoutesSpec)) brokerRoutesUptoCard
end Rows
end Go.Proofs.YtebhabpahfmodaaGreatDoor
