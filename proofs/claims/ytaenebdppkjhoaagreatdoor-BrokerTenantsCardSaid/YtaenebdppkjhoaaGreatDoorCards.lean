/-
  DERIVED. GIVEN WITH THE SEED: THE CARDS: each row of YtaenebdppkjhoaaGreatDoorRows.lean that lists a variable, with what it lists TIED to the program's text (the seventh form; the later family's looks); each row that meets fmt, with fmt's text TOLD by the authors' own Lean function (tested against real Go, not proved from fmt's source: count such statements apart). THE CARD IS WHAT COUNTS. Prove the row's statement (the work); the ties are given (YtaenebdppkjhoaaGreatDoorTie.lean); close each card by the builder's one call (the guide's Derived/Test/ToyasCard.lean, 'card_holds'). Laid BY PROGRAM, IN A SANDBOX (cutbox-door.mjs). By AI agents, Wed Nov 11 2026. No macro, syntax, notation, axiom, sorry.
-/
import Derived.Test.YtaenebdppkjhoaaGreatDoorRows
import GoSem.ClaimSeven
namespace Go.Proofs.YtaenebdppkjhoaaGreatDoor
namespace Rows

/-- THE TIED CARD OF 'gazettelaw17.BrokerLearns'. -/
def brokerLearnsCard : Claim7 := { stood := { row := brokerLearnsRow, standIns := [], harness := (true, "fbe25222eb1d0a81be0844de8631c5cf95b2c06bb8929746ec7bc7430b948997"), looks := false }, kinds := [], alts := [], laidByText := true, laidKinds := [.data, .data, .data, .data, .data, .data, .pinned, .pinned, .pinned, .pinned, .pinned, .pinned, .pinned, .pinned], laidTests := true, laidLooks := .later }
def BrokerLearnsCardSaid : Prop := Claim7.holds Tryz.pinned (.plain (OpenSpec.ofChange brokerLearnsSpec)) brokerLearnsCard

/-- THE TIED CARD OF 'gazettelaw17.BrokerPublishes'. -/
def brokerPublishesCard : Claim7 := { stood := { row := brokerPublishesRow, standIns := [], harness := (true, "fbe25222eb1d0a81be0844de8631c5cf95b2c06bb8929746ec7bc7430b948997"), looks := false }, kinds := [], alts := [], laidByText := true, laidKinds := [.data, .data, .data, .data, .data, .data, .pinned, .pinned, .pinned, .pinned, .pinned, .pinned, .pinned, .pinned], laidTests := true, laidLooks := .later }
def BrokerPublishesCardSaid : Prop := Claim7.holds Tryz.pinned (.plain (OpenSpec.ofChange brokerPublishesSpec)) brokerPublishesCard

/-- THE TIED CARD OF 'gazettelaw17.BrokerForgets'. -/
def brokerForgetsCard : Claim7 := { stood := { row := brokerForgetsRow, standIns := [], harness := (true, "fbe25222eb1d0a81be0844de8631c5cf95b2c06bb8929746ec7bc7430b948997"), looks := false }, kinds := [], alts := [], laidByText := true, laidKinds := [.data, .data, .data, .data, .data, .data, .pinned, .pinned, .pinned, .pinned, .pinned, .pinned, .pinned, .pinned], laidTests := true, laidLooks := .later }
def BrokerForgetsCardSaid : Prop := Claim7.holds Tryz.pinned (.plain (OpenSpec.ofChange brokerForgetsSpec)) brokerForgetsCard

/-- THE TIED CARD OF 'gazettelaw17.BrokerDrops'. -/
def brokerDropsCard : Claim7 := { stood := { row := brokerDropsRow, standIns := [], harness := (true, "fbe25222eb1d0a81be0844de8631c5cf95b2c06bb8929746ec7bc7430b948997"), looks := false }, kinds := [], alts := [], laidByText := true, laidKinds := [.data, .data, .data, .data, .data, .data, .pinned, .pinned, .pinned, .pinned, .pinned, .pinned, .pinned, .pinned], laidTests := true, laidLooks := .later }
def BrokerDropsCardSaid : Prop := Claim7.holds Tryz.pinned (.plain (OpenSpec.ofChange brokerDropsSpec)) brokerDropsCard

/-- THE TIED CARD OF 'gazettelaw17.BrokerRoutes'. -/
def brokerRoutesCard : Claim7 := { stood := { row := brokerRoutesRow, standIns := [], harness := (true, "fbe25222eb1d0a81be0844de8631c5cf95b2c06bb8929746ec7bc7430b948997"), looks := false }, kinds := [], alts := [], laidByText := true, laidKinds := [.data, .data, .data, .data, .data, .data, .pinned, .pinned, .pinned, .pinned, .pinned, .pinned, .pinned, .pinned], laidTests := true, laidLooks := .later }
def BrokerRoutesCardSaid : Prop := Claim7.holds Tryz.pinned (.plain (OpenSpec.ofChange brokerRoutesSpec)) brokerRoutesCard

/-- THE TIED CARD OF 'gazettelaw17.BrokerTenants'. -/
def brokerTenantsCard : Claim7 := { stood := { row := brokerTenantsRow, standIns := [], harness := (true, "fbe25222eb1d0a81be0844de8631c5cf95b2c06bb8929746ec7bc7430b948997"), looks := false }, kinds := [], alts := [], laidByText := true, laidKinds := [.data, .data, .data, .data, .data, .data, .pinned, .pinned, .pinned, .pinned, .pinned, .pinned, .pinned, .pinned], laidTests := true, laidLooks := .later }
def BrokerTenantsCardSaid : Prop := Claim7.holds Tryz.pinned (.plain (OpenSpec.ofChange brokerTenantsSpec)) brokerTenantsCard

/-- THE SECOND FORM's CARD OF 'gazettelaw17.BrokerLearns'. -/
def brokerLearnsUptoCard : Claim7 := { stood := { row := brokerLearnsUptoRow, standIns := [], harness := (true, "fbe25222eb1d0a81be0844de8631c5cf95b2c06bb8929746ec7bc7430b948997"), looks := false }, kinds := [], alts := [], laidByText := true, laidKinds := [.data, .data, .data, .data, .data, .data, .pinned, .pinned, .pinned, .pinned, .pinned, .pinned, .pinned, .pinned], laidTests := true, laidLooks := .later }
def BrokerLearnsUptoCardSaid : Prop := Claim7.holds Tryz.pinned (.plain (OpenSpec.upto brokerLearnsSpec)) brokerLearnsUptoCard

/-- THE SECOND FORM's CARD OF 'gazettelaw17.BrokerPublishes'. -/
def brokerPublishesUptoCard : Claim7 := { stood := { row := brokerPublishesUptoRow, standIns := [], harness := (true, "fbe25222eb1d0a81be0844de8631c5cf95b2c06bb8929746ec7bc7430b948997"), looks := false }, kinds := [], alts := [], laidByText := true, laidKinds := [.data, .data, .data, .data, .data, .data, .pinned, .pinned, .pinned, .pinned, .pinned, .pinned, .pinned, .pinned], laidTests := true, laidLooks := .later }
def BrokerPublishesUptoCardSaid : Prop := Claim7.holds Tryz.pinned (.plain (OpenSpec.upto brokerPublishesSpec)) brokerPublishesUptoCard

/-- THE SECOND FORM's CARD OF 'gazettelaw17.BrokerForgets'. -/
def brokerForgetsUptoCard : Claim7 := { stood := { row := brokerForgetsUptoRow, standIns := [], harness := (true, "fbe25222eb1d0a81be0844de8631c5cf95b2c06bb8929746ec7bc7430b948997"), looks := false }, kinds := [], alts := [], laidByText := true, laidKinds := [.data, .data, .data, .data, .data, .data, .pinned, .pinned, .pinned, .pinned, .pinned, .pinned, .pinned, .pinned], laidTests := true, laidLooks := .later }
def BrokerForgetsUptoCardSaid : Prop := Claim7.holds Tryz.pinned (.plain (OpenSpec.upto brokerForgetsSpec)) brokerForgetsUptoCard

/-- THE SECOND FORM's CARD OF 'gazettelaw17.BrokerDrops'. -/
def brokerDropsUptoCard : Claim7 := { stood := { row := brokerDropsUptoRow, standIns := [], harness := (true, "fbe25222eb1d0a81be0844de8631c5cf95b2c06bb8929746ec7bc7430b948997"), looks := false }, kinds := [], alts := [], laidByText := true, laidKinds := [.data, .data, .data, .data, .data, .data, .pinned, .pinned, .pinned, .pinned, .pinned, .pinned, .pinned, .pinned], laidTests := true, laidLooks := .later }
def BrokerDropsUptoCardSaid : Prop := Claim7.holds Tryz.pinned (.plain (OpenSpec.upto brokerDropsSpec)) brokerDropsUptoCard

/-- THE SECOND FORM's CARD OF 'gazettelaw17.BrokerRoutes'. -/
def brokerRoutesUptoCard : Claim7 := { stood := { row := brokerRoutesUptoRow, standIns := [], harness := (true, "fbe25222eb1d0a81be0844de8631c5cf95b2c06bb8929746ec7bc7430b948997"), looks := false }, kinds := [], alts := [], laidByText := true, laidKinds := [.data, .data, .data, .data, .data, .data, .pinned, .pinned, .pinned, .pinned, .pinned, .pinned, .pinned, .pinned], laidTests := true, laidLooks := .later }
def BrokerRoutesUptoCardSaid : Prop := Claim7.holds Tryz.pinned (.plain (OpenSpec.upto brokerRoutesSpec)) brokerRoutesUptoCard

/-- THE SECOND FORM's CARD OF 'gazettelaw17.BrokerTenants'. -/
def brokerTenantsUptoCard : Claim7 := { stood := { row := brokerTenantsUptoRow, standIns := [], harness := (true, "fbe25222eb1d0a81be0844de8631c5cf95b2c06bb8929746ec7bc7430b948997"), looks := false }, kinds := [], alts := [], laidByText := true, laidKinds := [.data, .data, .data, .data, .data, .data, .pinned, .pinned, .pinned, .pinned, .pinned, .pinned, .pinned, .pinned], laidTests := true, laidLooks := .later }
def BrokerTenantsUptoCardSaid : Prop := Claim7.holds Tryz.pinned (.plain (OpenSpec.upto brokerTenantsSpec)) brokerTenantsUptoCard
end Rows
end Go.Proofs.YtaenebdppkjhoaaGreatDoor
