/-
  DERIVED. GIVEN WITH THE SEED: THE CARDS: each row of YtjbebaachciedaaDoorRows.lean that lists a variable, with what it lists TIED to the program's text (the seventh form; the later family's looks); each row that meets fmt, with fmt's text TOLD by the authors' own Lean function (tested against real Go, not proved from fmt's source: count such statements apart). THE CARD IS WHAT COUNTS. Prove the row's statement (the work); the ties are given (YtjbebaachciedaaDoorTie.lean); close each card by the builder's one call (the guide's Derived/Test/ToyasCard.lean, 'card_holds'). Laid BY PROGRAM, IN A SANDBOX (cutbox-door.mjs). By AI agents, Wed Nov 11 2026. No macro, syntax, notation, axiom, sorry.
-/
import Derived.Test.YtjbebaachciedaaDoorRows
import GoSem.ClaimSeven
namespace Go.Proofs.YtjbebaachciedaaDoor
namespace Rows

/-- THE TIED CARD OF 'modelchecklaw49.CheckpointDigest'. -/
def checkpointDigestCard : Claim7 := { stood := { row := checkpointDigestRow, standIns := [], harness := (true, "5b6bd00834432a40df6823e379ac35e9a9ee5db6a7671da18f71a546d2a50813"), looks := false }, kinds := [], alts := [], laidByText := true, laidKinds := [.data, .data], laidTests := true, laidLooks := .later }
def CheckpointDigestCardSaid : Prop := Claim7.holds Tryd.pinned (.plain (OpenSpec.ofChange checkpointDigestSpec)) checkpointDigestCard

/-- THE TIED CARD OF 'modelchecklaw49.CheckpointRoundTrip'. -/
def checkpointRoundTripCard : Claim7 := { stood := { row := checkpointRoundTripRow, standIns := [], harness := (true, "5b6bd00834432a40df6823e379ac35e9a9ee5db6a7671da18f71a546d2a50813"), looks := false }, kinds := [], alts := [], laidByText := true, laidKinds := [.data, .data], laidTests := true, laidLooks := .later }
def CheckpointRoundTripCardSaid : Prop := Claim7.holds Tryd.pinned (.plain (OpenSpec.ofChange checkpointRoundTripSpec)) checkpointRoundTripCard

/-- THE TIED CARD OF 'modelchecklaw49.CheckpointBinding'. -/
def checkpointBindingCard : Claim7 := { stood := { row := checkpointBindingRow, standIns := [], harness := (true, "5b6bd00834432a40df6823e379ac35e9a9ee5db6a7671da18f71a546d2a50813"), looks := false }, kinds := [], alts := [], laidByText := true, laidKinds := [.data, .data], laidTests := true, laidLooks := .later }
def CheckpointBindingCardSaid : Prop := Claim7.holds Tryd.pinned (.plain (OpenSpec.ofChange checkpointBindingSpec)) checkpointBindingCard

/-- THE SECOND FORM's CARD OF 'modelchecklaw49.CheckpointDigest'. -/
def checkpointDigestUptoCard : Claim7 := { stood := { row := checkpointDigestUptoRow, standIns := [], harness := (true, "5b6bd00834432a40df6823e379ac35e9a9ee5db6a7671da18f71a546d2a50813"), looks := false }, kinds := [], alts := [], laidByText := true, laidKinds := [.data, .data], laidTests := true, laidLooks := .later }
def CheckpointDigestUptoCardSaid : Prop := Claim7.holds Tryd.pinned (.plain (OpenSpec.upto checkpointDigestSpec)) checkpointDigestUptoCard

/-- THE SECOND FORM's CARD OF 'modelchecklaw49.CheckpointRoundTrip'. -/
def checkpointRoundTripUptoCard : Claim7 := { stood := { row := checkpointRoundTripUptoRow, standIns := [], harness := (true, "5b6bd00834432a40df6823e379ac35e9a9ee5db6a7671da18f71a546d2a50813"), looks := false }, kinds := [], alts := [], laidByText := true, laidKinds := [.data, .data], laidTests := true, laidLooks := .later }
def CheckpointRoundTripUptoCardSaid : Prop := Claim7.holds Tryd.pinned (.plain (OpenSpec.upto checkpointRoundTripSpec)) checkpointRoundTripUptoCard

/-- THE SECOND FORM's CARD OF 'modelchecklaw49.CheckpointBinding'. -/
def checkpointBindingUptoCard : Claim7 := { stood := { row := checkpointBindingUptoRow, standIns := [], harness := (true, "5b6bd00834432a40df6823e379ac35e9a9ee5db6a7671da18f71a546d2a50813"), looks := false }, kinds := [], alts := [], laidByText := true, laidKinds := [.data, .data], laidTests := true, laidLooks := .later }
def CheckpointBindingUptoCardSaid : Prop := Claim7.holds Tryd.pinned (.plain (OpenSpec.upto checkpointBindingSpec)) checkpointBindingUptoCard
end Rows
end Go.Proofs.YtjbebaachciedaaDoor
