/-
  DERIVED. GIVEN WITH THE SEED: THE CARDS: each row of YtdmjoodhaeijmaaGreatDoorRows.lean that lists a variable, with what it lists TIED to the program's text (the seventh form; the later family's looks); each row that meets fmt, with fmt's text TOLD by the authors' own Lean function (tested against real Go, not proved from fmt's source: count such statements apart). THE CARD IS WHAT COUNTS. Prove the row's statement (the work); the ties are given (YtdmjoodhaeijmaaGreatDoorTie.lean); close each card by the builder's one call (the guide's Derived/Test/ToyasCard.lean, 'card_holds'). Laid BY PROGRAM, IN A SANDBOX (cutbox-door.mjs). By AI agents, Wed Nov 11 2026. No macro, syntax, notation, axiom, sorry.
-/
import Derived.Test.YtdmjoodhaeijmaaGreatDoorRows
import GoSem.ClaimSeven
namespace Go.Proofs.YtdmjoodhaeijmaaGreatDoor
namespace Rows

/-- THE TIED CARD OF 'gazettelaw18.OverlayRules'. -/
def overlayRulesCard : Claim7 := { stood := { row := overlayRulesRow, standIns := [], harness := (true, "4b0ef80b6fa80114d7baa1067399112d4c579f9f39d585c4ae669ebbdbc2fbc5"), looks := false }, kinds := [], alts := [], laidByText := true, laidKinds := [.data, .data, .data, .data, .data, .data, .pinned, .pinned, .pinned, .pinned, .pinned, .pinned, .pinned, .pinned], laidTests := true, laidLooks := .later }
def OverlayRulesCardSaid : Prop := Claim7.holds Tryz.pinned (.plain (OpenSpec.ofChange overlayRulesSpec)) overlayRulesCard

/-- THE TIED CARD OF 'gazettelaw18.OverlayNumbers'. -/
def overlayNumbersCard : Claim7 := { stood := { row := overlayNumbersRow, standIns := [], harness := (true, "4b0ef80b6fa80114d7baa1067399112d4c579f9f39d585c4ae669ebbdbc2fbc5"), looks := false }, kinds := [], alts := [], laidByText := true, laidKinds := [.data, .data, .data, .data, .data, .data, .pinned, .pinned, .pinned, .pinned, .pinned, .pinned, .pinned, .pinned], laidTests := true, laidLooks := .later }
def OverlayNumbersCardSaid : Prop := Claim7.holds Tryz.pinned (.plain (OpenSpec.ofChange overlayNumbersSpec)) overlayNumbersCard

/-- THE TIED CARD OF 'gazettelaw18.OverlayReplies'. -/
def overlayRepliesCard : Claim7 := { stood := { row := overlayRepliesRow, standIns := [], harness := (true, "4b0ef80b6fa80114d7baa1067399112d4c579f9f39d585c4ae669ebbdbc2fbc5"), looks := false }, kinds := [], alts := [], laidByText := true, laidKinds := [.data, .data, .data, .data, .data, .data, .pinned, .pinned, .pinned, .pinned, .pinned, .pinned, .pinned, .pinned], laidTests := true, laidLooks := .later }
def OverlayRepliesCardSaid : Prop := Claim7.holds Tryz.pinned (.plain (OpenSpec.ofChange overlayRepliesSpec)) overlayRepliesCard

/-- THE TIED CARD OF 'gazettelaw18.OverlayNew'. -/
def overlayNewCard : Claim7 := { stood := { row := overlayNewRow, standIns := [], harness := (true, "4b0ef80b6fa80114d7baa1067399112d4c579f9f39d585c4ae669ebbdbc2fbc5"), looks := false }, kinds := [], alts := [], laidByText := true, laidKinds := [.data, .data, .data, .data, .data, .data, .pinned, .pinned, .pinned, .pinned, .pinned, .pinned, .pinned, .pinned], laidTests := true, laidLooks := .later }
def OverlayNewCardSaid : Prop := Claim7.holds Tryz.pinned (.plain (OpenSpec.ofChange overlayNewSpec)) overlayNewCard

/-- THE SECOND FORM's CARD OF 'gazettelaw18.OverlayRules'. -/
def overlayRulesUptoCard : Claim7 := { stood := { row := overlayRulesUptoRow, standIns := [], harness := (true, "4b0ef80b6fa80114d7baa1067399112d4c579f9f39d585c4ae669ebbdbc2fbc5"), looks := false }, kinds := [], alts := [], laidByText := true, laidKinds := [.data, .data, .data, .data, .data, .data, .pinned, .pinned, .pinned, .pinned, .pinned, .pinned, .pinned, .pinned], laidTests := true, laidLooks := .later }
def OverlayRulesUptoCardSaid : Prop := Claim7.holds Tryz.pinned (.plain (OpenSpec.upto overlayRulesSpec)) overlayRulesUptoCard

/-- THE SECOND FORM's CARD OF 'gazettelaw18.OverlayNumbers'. -/
def overlayNumbersUptoCard : Claim7 := { stood := { row := overlayNumbersUptoRow, standIns := [], harness := (true, "4b0ef80b6fa80114d7baa1067399112d4c579f9f39d585c4ae669ebbdbc2fbc5"), looks := false }, kinds := [], alts := [], laidByText := true, laidKinds := [.data, .data, .data, .data, .data, .data, .pinned, .pinned, .pinned, .pinned, .pinned, .pinned, .pinned, .pinned], laidTests := true, laidLooks := .later }
def OverlayNumbersUptoCardSaid : Prop := Claim7.holds Tryz.pinned (.plain (OpenSpec.upto overlayNumbersSpec)) overlayNumbersUptoCard

/-- THE SECOND FORM's CARD OF 'gazettelaw18.OverlayReplies'. -/
def overlayRepliesUptoCard : Claim7 := { stood := { row := overlayRepliesUptoRow, standIns := [], harness := (true, "4b0ef80b6fa80114d7baa1067399112d4c579f9f39d585c4ae669ebbdbc2fbc5"), looks := false }, kinds := [], alts := [], laidByText := true, laidKinds := [.data, .data, .data, .data, .data, .data, .pinned, .pinned, .pinned, .pinned, .pinned, .pinned, .pinned, .pinned], laidTests := true, laidLooks := .later }
def OverlayRepliesUptoCardSaid : Prop := Claim7.holds Tryz.pinned (.plain (OpenSpec.upto overlayRepliesSpec)) overlayRepliesUptoCard

/-- THE SECOND FORM's CARD OF 'gazettelaw18.OverlayNew'. -/
def overlayNewUptoCard : Claim7 := { stood := { row := overlayNewUptoRow, standIns := [], harness := (true, "4b0ef80b6fa80114d7baa1067399112d4c579f9f39d585c4ae669ebbdbc2fbc5"), looks := false }, kinds := [], alts := [], laidByText := true, laidKinds := [.data, .data, .data, .data, .data, .data, .pinned, .pinned, .pinned, .pinned, .pinned, .pinned, .pinned, .pinned], laidTests := true, laidLooks := .later }
def OverlayNewUptoCardSaid : Prop := Claim7.holds Tryz.pinned (.plain (OpenSpec.upto overlayNewSpec)) overlayNewUptoCard
end Rows
end Go.Proofs.YtdmjoodhaeijmaaGreatDoor
