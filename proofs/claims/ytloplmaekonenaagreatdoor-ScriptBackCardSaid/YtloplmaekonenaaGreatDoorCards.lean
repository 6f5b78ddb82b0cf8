/-
  DERIVED. GIVEN WITH THE SEED: THE CARDS: each row of YtloplmaekonenaaGreatDoorRows.lean that lists a variable, with what it lists TIED to the program's text (the seventh form; the later family's looks); each row that meets fmt, with fmt's text TOLD by the authors' own Lean function (tested against real Go, not proved from fmt's source: count such statements apart). THE CARD IS WHAT COUNTS. Prove the row's statement (the work); the ties are given (YtloplmaekonenaaGreatDoorTie.lean); close each card by the builder's one call (the guide's Derived/Test/ToyasCard.lean, 'card_holds'). Laid BY PROGRAM, IN A SANDBOX (cutbox-door.mjs). By AI agents, Wed Nov 11 2026. No macro, syntax, notation, axiom, sorry.
-/
import Derived.Test.YtloplmaekonenaaGreatDoorRows
import GoSem.ClaimSeven
namespace Go.Proofs.YtloplmaekonenaaGreatDoor
namespace Rows

/-- THE TIED CARD OF 'gazettelaw13.IndexRuns'. -/
def indexRunsCard : Claim7 := { stood := { row := indexRunsRow, standIns := [], harness := (true, "a411644b1e2b9e52370f6dd231199970c89da37394eb3a22360cbc452300b939"), looks := true }, kinds := [], alts := [], laidByText := true, laidKinds := [.data, .data, .data, .data, .data, .data, .pinned, .pinned, .pinned, .pinned, .pinned, .pinned, .pinned, .pinned], laidTests := true, laidLooks := .later }
def IndexRunsCardSaid : Prop := Claim7.holds Tryz.pinned (.plain (OpenSpec.ofChange indexRunsSpec)) indexRunsCard

/-- THE TIED CARD OF 'gazettelaw13.IndexOrders'. -/
def indexOrdersCard : Claim7 := { stood := { row := indexOrdersRow, standIns := [], harness := (true, "a411644b1e2b9e52370f6dd231199970c89da37394eb3a22360cbc452300b939"), looks := true }, kinds := [], alts := [], laidByText := true, laidKinds := [.data, .data, .data, .data, .data, .data, .pinned, .pinned, .pinned, .pinned, .pinned, .pinned, .pinned, .pinned], laidTests := true, laidLooks := .later }
def IndexOrdersCardSaid : Prop := Claim7.holds Tryz.pinned (.plain (OpenSpec.ofChange indexOrdersSpec)) indexOrdersCard

/-- THE TIED CARD OF 'gazettelaw13.IndexGoes'. -/
def indexGoesCard : Claim7 := { stood := { row := indexGoesRow, standIns := [], harness := (true, "a411644b1e2b9e52370f6dd231199970c89da37394eb3a22360cbc452300b939"), looks := true }, kinds := [], alts := [], laidByText := true, laidKinds := [.data, .data, .data, .data, .data, .data, .pinned, .pinned, .pinned, .pinned, .pinned, .pinned, .pinned, .pinned], laidTests := true, laidLooks := .later }
def IndexGoesCardSaid : Prop := Claim7.holds Tryz.pinned (.plain (OpenSpec.ofChange indexGoesSpec)) indexGoesCard

/-- THE TIED CARD OF 'gazettelaw14.TableTurns'. -/
def tableTurnsCard : Claim7 := { stood := { row := tableTurnsRow, standIns := [], harness := (true, "a411644b1e2b9e52370f6dd231199970c89da37394eb3a22360cbc452300b939"), looks := true }, kinds := [], alts := [], laidByText := true, laidKinds := [.data, .data, .data, .data, .data, .data, .pinned, .pinned, .pinned, .pinned, .pinned, .pinned, .pinned, .pinned], laidTests := true, laidLooks := .later }
def TableTurnsCardSaid : Prop := Claim7.holds Tryz.pinned (.plain (OpenSpec.ofChange tableTurnsSpec)) tableTurnsCard

/-- THE TIED CARD OF 'gazettelaw14.TableAll'. -/
def tableAllCard : Claim7 := { stood := { row := tableAllRow, standIns := [], harness := (true, "a411644b1e2b9e52370f6dd231199970c89da37394eb3a22360cbc452300b939"), looks := true }, kinds := [], alts := [], laidByText := true, laidKinds := [.data, .data, .data, .data, .data, .data, .pinned, .pinned, .pinned, .pinned, .pinned, .pinned, .pinned, .pinned], laidTests := true, laidLooks := .later }
def TableAllCardSaid : Prop := Claim7.holds Tryz.pinned (.plain (OpenSpec.ofChange tableAllSpec)) tableAllCard

/-- THE TIED CARD OF 'gazettelaw14.TableAlone'. -/
def tableAloneCard : Claim7 := { stood := { row := tableAloneRow, standIns := [], harness := (true, "a411644b1e2b9e52370f6dd231199970c89da37394eb3a22360cbc452300b939"), looks := true }, kinds := [], alts := [], laidByText := true, laidKinds := [.data, .data, .data, .data, .data, .data, .pinned, .pinned, .pinned, .pinned, .pinned, .pinned, .pinned, .pinned], laidTests := true, laidLooks := .later }
def TableAloneCardSaid : Prop := Claim7.holds Tryz.pinned (.plain (OpenSpec.ofChange tableAloneSpec)) tableAloneCard

/-- THE TIED CARD OF 'gazettelaw14.TableOuts'. -/
def tableOutsCard : Claim7 := { stood := { row := tableOutsRow, standIns := [], harness := (true, "a411644b1e2b9e52370f6dd231199970c89da37394eb3a22360cbc452300b939"), looks := true }, kinds := [], alts := [], laidByText := true, laidKinds := [.data, .data, .data, .data, .data, .data, .pinned, .pinned, .pinned, .pinned, .pinned, .pinned, .pinned, .pinned], laidTests := true, laidLooks := .later }
def TableOutsCardSaid : Prop := Claim7.holds Tryz.pinned (.plain (OpenSpec.ofChange tableOutsSpec)) tableOutsCard

/-- THE TIED CARD OF 'gazettelaw14.TableRuns'. -/
def tableRunsCard : Claim7 := { stood := { row := tableRunsRow, standIns := [], harness := (true, "a411644b1e2b9e52370f6dd231199970c89da37394eb3a22360cbc452300b939"), looks := true }, kinds := [], alts := [], laidByText := true, laidKinds := [.data, .data, .data, .data, .data, .data, .pinned, .pinned, .pinned, .pinned, .pinned, .pinned, .pinned, .pinned], laidTests := true, laidLooks := .later }
def TableRunsCardSaid : Prop := Claim7.holds Tryz.pinned (.plain (OpenSpec.ofChange tableRunsSpec)) tableRunsCard

/-- THE TIED CARD OF 'gazettelaw19.ScriptBack'. -/
def scriptBackCard : Claim7 := { stood := { row := scriptBackRow, standIns := [], harness := (true, "a411644b1e2b9e52370f6dd231199970c89da37394eb3a22360cbc452300b939"), looks := true }, kinds := [], alts := [], laidByText := true, laidKinds := [.data, .data, .data, .data, .data, .data, .pinned, .pinned, .pinned, .pinned, .pinned, .pinned, .pinned, .pinned], laidTests := true, laidLooks := .later }
def ScriptBackCardSaid : Prop := Claim7.holds Tryz.pinned (.plain (OpenSpec.ofChange scriptBackSpec)) scriptBackCard

/-- THE TIED CARD OF 'gazettelaw19.ScriptJoins'. -/
def scriptJoinsCard : Claim7 := { stood := { row := scriptJoinsRow, standIns := [], harness := (true, "a411644b1e2b9e52370f6dd231199970c89da37394eb3a22360cbc452300b939"), looks := true }, kinds := [], alts := [], laidByText := true, laidKinds := [.data, .data, .data, .data, .data, .data, .pinned, .pinned, .pinned, .pinned, .pinned, .pinned, .pinned, .pinned], laidTests := true, laidLooks := .later }
def ScriptJoinsCardSaid : Prop := Claim7.holds Tryz.pinned (.plain (OpenSpec.ofChange scriptJoinsSpec)) scriptJoinsCard

/-- THE SECOND FORM's CARD OF 'gazettelaw13.IndexRuns'. -/
def indexRunsUptoCard : Claim7 := { stood := { row := indexRunsUptoRow, standIns := [], harness := (true, "a411644b1e2b9e52370f6dd231199970c89da37394eb3a22360cbc452300b939"), looks := true }, kinds := [], alts := [], laidByText := true, laidKinds := [.data, .data, .data, .data, .data, .data, .pinned, .pinned, .pinned, .pinned, .pinned, .pinned, .pinned, .pinned], laidTests := true, laidLooks := .later }
def IndexRunsUptoCardSaid : Prop := Claim7.holds Tryz.pinned (.plain (OpenSpec.upto indexRunsSpec)) indexRunsUptoCard

/-- THE SECOND FORM's CARD OF 'gazettelaw13.IndexOrders'. -/
def indexOrdersUptoCard : Claim7 := { stood := { row := indexOrdersUptoRow, standIns := [], harness := (true, "a411644b1e2b9e52370f6dd231199970c89da37394eb3a22360cbc452300b939"), looks := true }, kinds := [], alts := [], laidByText := true, laidKinds := [.data, .data, .data, .data, .data, .data, .pinned, .pinned, .pinned, .pinned, .pinned, .pinned, .pinned, .pinned], laidTests := true, laidLooks := .later }
def IndexOrdersUptoCardSaid : Prop := Claim7.holds Tryz.pinned (.plain (OpenSpec.upto indexOrdersSpec)) indexOrdersUptoCard

/-- THE SECOND FORM's CARD OF 'gazettelaw13.IndexGoes'. -/
def indexGoesUptoCard : Claim7 := { stood := { row := indexGoesUptoRow, standIns := [], harness := (true, "a411644b1e2b9e52370f6dd231199970c89da37394eb3a22360cbc452300b939"), looks := true }, kinds := [], alts := [], laidByText := true, laidKinds := [.data, .data, .data, .data, .data, .data, .pinned, .pinned, .pinned, .pinned, .pinned, .pinned, .pinned, .pinned], laidTests := true, laidLooks := .later }
def IndexGoesUptoCardSaid : Prop := Claim7.holds Tryz.pinned (.plain (OpenSpec.upto indexGoesSpec)) indexGoesUptoCard

/-- THE SECOND FORM's CARD OF 'gazettelaw14.TableTurns'. -/
def tableTurnsUptoCard : Claim7 := { stood := { row := tableTurnsUptoRow, standIns := [], harness := (true, "a411644b1e2b9e52370f6dd231199970c89da37394eb3a22360cbc452300b939"), looks := true }, kinds := [], alts := [], laidByText := true, laidKinds := [.data, .data, .data, .data, .data, .data, .pinned, .pinned, .pinned, .pinned, .pinned, .pinned, .pinned, .pinned], laidTests := true, laidLooks := .later }
def TableTurnsUptoCardSaid : Prop := Claim7.holds Tryz.pinned (.plain (OpenSpec.upto tableTurnsSpec)) tableTurnsUptoCard

/-- THE SECOND FORM's CARD OF 'gazettelaw14.TableAll'. -/
def tableAllUptoCard : Claim7 := { stood := { row := tableAllUptoRow, standIns := [], harness := (true, "a411644b1e2b9e52370f6dd231199970c89da37394eb3a22360cbc452300b939"), looks := true }, kinds := [], alts := [], laidByText := true, laidKinds := [.data, .data, .data, .data, .data, .data, .pinned, .pinned, .pinned, .pinned, .pinned, .pinned, .pinned, .pinned], laidTests := true, laidLooks := .later }
def TableAllUptoCardSaid : Prop := Claim7.holds Tryz.pinned (.plain (OpenSpec.upto tableAllSpec)) tableAllUptoCard

/-- THE SECOND FORM's CARD OF 'gazettelaw14.TableAlone'. -/
def tableAloneUptoCard : Claim7 := { stood := { row := tableAloneUptoRow, standIns := [], harness := (true, "a411644b1e2b9e52370f6dd231199970c89da37394eb3a22360cbc452300b939"), looks := true }, kinds := [], alts := [], laidByText := true, laidKinds := [.data, .data, .data, .data, .data, .data, .pinned, .pinned, .pinned, .pinned, .pinned, .pinned, .pinned, .pinned], laidTests := true, laidLooks := .later }
def TableAloneUptoCardSaid : Prop := Claim7.holds Tryz.pinned (.plain (OpenSpec.upto tableAloneSpec)) tableAloneUptoCard

/-- THE SECOND FORM's CARD OF 'gazettelaw14.TableOuts'. -/
def tableOutsUptoCard : Claim7 := { stood := { row := tableOutsUptoRow, standIns := [], harness := (true, "a411644b1e2b9e52370f6dd231199970c89da37394eb3a22360cbc452300b939"), looks := true }, kinds := [], alts := [], laidByText := true, laidKinds := [.data, .data, .data, .data, .data, .data, .pinned, .pinned, .pinned, .pinned, .pinned, .pinned, .pinned, .pinned], laidTests := true, laidLooks := .later }
def TableOutsUptoCardSaid : Prop := Claim7.holds Tryz.pinned (.plain (OpenSpec.upto tableOutsSpec)) tableOutsUptoCard

/-- THE SECOND FORM's CARD OF 'gazettelaw14.TableRuns'. -/
def tableRunsUptoCard : Claim7 := { stood := { row := tableRunsUptoRow, standIns := [], harness := (true, "a411644b1e2b9e52370f6dd231199970c89da37394eb3a22360cbc452300b939"), looks := true }, kinds := [], alts := [], laidByText := true, laidKinds := [.data, .data, .data, .data, .data, .data, .pinned, .pinned, .pinned, .pinned, .pinned, .pinned, .pinned, .pinned], laidTests := true, laidLooks := .later }
def TableRunsUptoCardSaid : Prop := Claim7.holds Tryz.pinned (.plain (OpenSpec.upto tableRunsSpec)) tableRunsUptoCard

/-- THE SECOND FORM's CARD OF 'gazettelaw19.ScriptBack'. -/
def scriptBackUptoCard : Claim7 := { stood := { row := scriptBackUptoRow, standIns := [], harness := (true, "a411644b1e2b9e52370f6dd231199970c89da37394eb3a22360cbc452300b939"), looks := true }, kinds := [], alts := [], laidByText := true, laidKinds := [.data, .data, .data, .data, .data, .data, .pinned, .pinned, .pinned, .pinned, .pinned, .pinned, .pinned, .pinned], laidTests := true, laidLooks := .later }
def ScriptBackUptoCardSaid : Prop := Claim7.holds Tryz.pinned (.plain (OpenSpec.upto scriptBackSpec)) scriptBackUptoCard

/-- THE SECOND FORM's CARD OF 'gazettelaw19.ScriptJoins'. -/
def scriptJoinsUptoCard : Claim7 := { stood := { row := scriptJoinsUptoRow, standIns := [], harness := (true, "a411644b1e2b9e52370f6dd231199970c89da37394eb3a22360cbc452300b939"), looks := true }, kinds := [], alts := [], laidByText := true, laidKinds := [.data, .data, .data, .data, .data, .data, .pinned, .pinned, .pinned, .pinned, .pinned, .pinned, .pinned, .pinned], laidTests := true, laidLooks := .later }
def ScriptJoinsUptoCardSaid : Prop := Claim7.holds Tryz.pinned (.plain (OpenSpec.upto scriptJoinsSpec)) scriptJoinsUptoCard
end Rows
end Go.Proofs.YtloplmaekonenaaGreatDoor
