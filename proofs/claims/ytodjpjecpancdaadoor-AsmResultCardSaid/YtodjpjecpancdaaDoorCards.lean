/-
  DERIVED. GIVEN WITH THE SEED: THE CARDS: each row of YtodjpjecpancdaaDoorRows.lean that lists a variable, with what it lists TIED to the program's text (the seventh form; the later family's looks); each row that meets fmt, with fmt's text TOLD by the authors' own Lean function (tested against real Go, not proved from fmt's source: count such statements apart). THE CARD IS WHAT COUNTS. Prove the row's statement (the work); the ties are given (YtodjpjecpancdaaDoorTie.lean); close each card by the builder's one call (the guide's Derived/Test/ToyasCard.lean, 'card_holds'). Laid BY PROGRAM, IN A SANDBOX (cutbox-door.mjs). By AI agents, Wed Nov 11 2026. No macro, syntax, notation, axiom, sorry.
-/
import Derived.Test.YtodjpjecpancdaaDoorRows
import GoSem.ClaimSeven
namespace Go.Proofs.YtodjpjecpancdaaDoor
namespace Rows

/-- THE TIED CARD OF 'modelchecklaw10.AsmSpacing'. -/
def asmSpacingCard : Claim7 := { stood := { row := asmSpacingRow, standIns := [], harness := (true, "06710ffcb6c9a8fe8ff07f7be1cecea7d2e165df44405bd988a3853d9a73f21a"), looks := true }, kinds := [], alts := [], laidByText := true, laidKinds := [.data, .data, .data], laidTests := true, laidLooks := .later }
def AsmSpacingCardSaid : Prop := Claim7.holds Tryd.pinned (.plain (OpenSpec.ofChange asmSpacingSpec)) asmSpacingCard

/-- THE TIED CARD OF 'modelchecklaw10.AsmResult'. -/
def asmResultCard : Claim7 := { stood := { row := asmResultRow, standIns := [], harness := (true, "06710ffcb6c9a8fe8ff07f7be1cecea7d2e165df44405bd988a3853d9a73f21a"), looks := true }, kinds := [], alts := [], laidByText := true, laidKinds := [.data, .data, .data], laidTests := true, laidLooks := .later }
def AsmResultCardSaid : Prop := Claim7.holds Tryd.pinned (.plain (OpenSpec.ofChange asmResultSpec)) asmResultCard

/-- THE SECOND FORM's CARD OF 'modelchecklaw10.AsmSpacing'. -/
def asmSpacingUptoCard : Claim7 := { stood := { row := asmSpacingUptoRow, standIns := [], harness := (true, "06710ffcb6c9a8fe8ff07f7be1cecea7d2e165df44405bd988a3853d9a73f21a"), looks := true }, kinds := [], alts := [], laidByText := true, laidKinds := [.data, .data, .data], laidTests := true, laidLooks := .later }
def AsmSpacingUptoCardSaid : Prop := Claim7.holds Tryd.pinned (.plain (OpenSpec.upto asmSpacingSpec)) asmSpacingUptoCard

/-- THE SECOND FORM's CARD OF 'modelchecklaw10.AsmResult'. -/
def asmResultUptoCard : Claim7 := { stood := { row := asmResultUptoRow, standIns := [], harness := (true, "06710ffcb6c9a8fe8ff07f7be1cecea7d2e165df44405bd988a3853d9a73f21a"), looks := true }, kinds := [], alts := [], laidByText := true, laidKinds := [.data, .data, .data], laidTests := true, laidLooks := .later }
def AsmResultUptoCardSaid : Prop := Claim7.holds Tryd.pinned (.plain (OpenSpec.upto asmResultSpec)) asmResultUptoCard
end Rows
end Go.Proofs.YtodjpjecpancdaaDoor
