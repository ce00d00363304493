/-
  DERIVED. GIVEN WITH THE SEED: THE CARDS: each row of YtjbebaachciedaaGreatDoorRows.lean that lists a variable, with what it lists TIED to the program's text (the seventh form; the later family's looks); each row that meets fmt, with fmt's text TOLD by the authors' own Lean function (tested against real Go, not proved from fmt's source: count such statements apart). THE CARD IS WHAT COUNTS. Prove the row's statement (the work); the ties are given (YtjbebaachciedaaGreatDoorTie.lean); close each card by the builder's one call (the guide's Derived/Test/ToyasCard.lean, 'card_holds'). Laid BY PROGRAM, IN A SANDBOX (cutbox-door.mjs). By AI agents, Wed Nov 11 2026. No macro, syntax, notation, axiom, sorry.
-/
import Derived.Test.YtjbebaachciedaaGreatDoorRows
import GoSem.ClaimSeven
namespace Go.Proofs.YtjbebaachciedaaGreatDoor
namespace Rows

/-- THE TIED CARD OF 'modelchecklaw49.CheckpointEncode'. -/
def checkpointEncodeCard : Claim7 := { stood := { row := checkpointEncodeRow, standIns := [], harness := (true, "95e9c595926c9547476190500be56b1dc9b8e18a10a896e471c516cd7e56d79c"), looks := false }, kinds := [], alts := [], laidByText := true, laidKinds := [.data, .data], laidTests := true, laidLooks := .later }
def CheckpointEncodeCardSaid : Prop := Claim7.holds Tryz.pinned (.plain (OpenSpec.ofChange checkpointEncodeSpec)) checkpointEncodeCard

/-- THE TIED CARD OF 'modelchecklaw49.CheckpointDecode'. -/
def checkpointDecodeCard : Claim7 := { stood := { row := checkpointDecodeRow, standIns := [], harness := (true, "95e9c595926c9547476190500be56b1dc9b8e18a10a896e471c516cd7e56d79c"), looks := false }, kinds := [], alts := [], laidByText := true, laidKinds := [.data, .data], laidTests := true, laidLooks := .later }
def CheckpointDecodeCardSaid : Prop := Claim7.holds Tryz.pinned (.plain (OpenSpec.ofChange checkpointDecodeSpec)) checkpointDecodeCard

/-- THE TIED CARD OF 'modelchecklaw49.CheckpointPayload'. -/
def checkpointPayloadCard : Claim7 := { stood := { row := checkpointPayloadRow, standIns := [], harness := (true, "95e9c595926c9547476190500be56b1dc9b8e18a10a896e471c516cd7e56d79c"), looks := false }, kinds := [], alts := [], laidByText := true, laidKinds := [.data, .data], laidTests := true, laidLooks := .later }
def CheckpointPayloadCardSaid : Prop := Claim7.holds Tryz.pinned (.plain (OpenSpec.ofChange checkpointPayloadSpec)) checkpointPayloadCard

/-- THE SECOND FORM's CARD OF 'modelchecklaw49.CheckpointEncode'. -/
def checkpointEncodeUptoCard : Claim7 := { stood := { row := checkpointEncodeUptoRow, standIns := [], harness := (true, "95e9c595926c9547476190500be56b1dc9b8e18a10a896e471c516cd7e56d79c"), looks := false }, kinds := [], alts := [], laidByText := true, laidKinds := [.data, .data], laidTests := true, laidLooks := .later }
def CheckpointEncodeUptoCardSaid : Prop := Claim7.holds Tryz.pinned (.plain (OpenSpec.upto checkpointEncodeSpec)) checkpointEncodeUptoCard

/-- THE SECOND FORM's CARD OF 'modelchecklaw49.CheckpointDecode'. -/
def checkpointDecodeUptoCard : Claim7 := { stood := { row := checkpointDecodeUptoRow, standIns := [], harness := (true, "95e9c595926c9547476190500be56b1dc9b8e18a10a896e471c516cd7e56d79c"), looks := false }, kinds := [], alts := [], laidByText := true, laidKinds := [.data, .data], laidTests := true, laidLooks := .later }
def CheckpointDecodeUptoCardSaid : Prop := Claim7.holds Tryz.pinned (.plain (OpenSpec.upto checkpointDecodeSpec)) checkpointDecodeUptoCard

/-- THE SECOND FORM's CARD OF 'modelchecklaw49.CheckpointPayload'. -/
def checkpointPayloadUptoCard : Claim7 := { stood := { row := checkpointPayloadUptoRow, standIns := [], harness := (true, "95e9c595926c9547476190500be56b1dc9b8e18a10a896e471c516cd7e56d79c"), looks := false }, kinds := [], alts := [], laidByText := true, laidKinds := [.data, .data], laidTests := true, laidLooks := .later }
def CheckpointPayloadUptoCardSaid : Prop := Claim7.holds Tryz.pinned (.plain (OpenSpec.upto checkpointPayloadSpec)) checkpointPayloadUptoCard
end Rows
end Go.Proofs.YtjbebaachciedaaGreatDoor
