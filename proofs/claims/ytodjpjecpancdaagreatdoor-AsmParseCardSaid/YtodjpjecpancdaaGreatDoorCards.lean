/-
  DERIVED. GIVEN WITH THE SEED: THE CARDS: each row of YtodjpjecpancdaaGreatDoorRows.lean that lists a variable, with what it lists TIED to the program's text (the seventh form; the later family's looks); each row that meets fmt, with fmt's text TOLD by the authors' own Lean function (tested against real Go, not proved from fmt's source: count such statements apart). THE CARD IS WHAT COUNTS. Prove the row's statement (the work); the ties are given (YtodjpjecpancdaaGreatDoorTie.lean); close each card by the builder's one call (the guide's Derived/Test/ToyasCard.lean, 'card_holds'). Laid BY PROGRAM, IN A SANDBOX (cutbox-door.mjs). By AI agents, Wed Nov 11 2026. No macro, syntax, notation, axiom, sorry.
-/
import Derived.Test.YtodjpjecpancdaaGreatDoorRows
import GoSem.ClaimSeven
namespace Go.Proofs.YtodjpjecpancdaaGreatDoor
namespace Rows

/-- THE TIED CARD OF 'modelchecklaw10.AsmParse'. -/
def asmParseCard : Claim7 := { stood := { row := asmParseRow, standIns := [], harness := (true, "a630136397605ec09abe358c916710346c0d6528292209230308bc551b61ae02"), looks := true }, kinds := [], alts := [], laidByText := true, laidKinds := [.data, .data, .data], laidTests := true, laidLooks := .later }
def AsmParseCardSaid : Prop := Claim7.holds Tryz.pinned (.plain (OpenSpec.ofChange asmParseSpec)) asmParseCard

/-- THE TIED CARD OF 'modelchecklaw10.AsmInstruction'. -/
def asmInstructionCard : Claim7 := { stood := { row := asmInstructionRow, standIns := [], harness := (true, "a630136397605ec09abe358c916710346c0d6528292209230308bc551b61ae02"), looks := true }, kinds := [], alts := [], laidByText := true, laidKinds := [.data, .data, .data], laidTests := true, laidLooks := .later }
def AsmInstructionCardSaid : Prop := Claim7.holds Tryz.pinned (.plain (OpenSpec.ofChange asmInstructionSpec)) asmInstructionCard

/-- THE SECOND FORM's CARD OF 'modelchecklaw10.AsmParse'. -/
def asmParseUptoCard : Claim7 := { stood := { row := asmParseUptoRow, standIns := [], harness := (true, "a630136397605ec09abe358c916710346c0d6528292209230308bc551b61ae02"), looks := true }, kinds := [], alts := [], laidByText := true, laidKinds := [.data, .data, .data], laidTests := true, laidLooks := .later }
def AsmParseUptoCardSaid : Prop := Claim7.holds Tryz.pinned (.plain (OpenSpec.upto asmParseSpec)) asmParseUptoCard

/-- THE SECOND FORM's CARD OF 'modelchecklaw10.AsmInstruction'. -/
def asmInstructionUptoCard : Claim7 := { stood := { row := asmInstructionUptoRow, standIns := [], harness := (true, "a630136397605ec09abe358c916710346c0d6528292209230308bc551b61ae02"), looks := true }, kinds := [], alts := [], laidByText := true, laidKinds := [.data, .data, .data], laidTests := true, laidLooks := .later }
def AsmInstructionUptoCardSaid : Prop := Claim7.holds Tryz.pinned (.plain (OpenSpec.upto asmInstructionSpec)) asmInstructionUptoCard
end Rows
end Go.Proofs.YtodjpjecpancdaaGreatDoor
