/-
  DERIVED. GIVEN WITH THE SEED: THE CARDS: each row of YtihjddokgmjafaaDoorRows.lean that lists a variable, with what it lists TIED to the program's text (the seventh form; the later family's looks); each row that meets fmt, with fmt's text TOLD by the authors' own Lean function (tested against real Go, not proved from fmt's source: count such statements apart). THE CARD IS WHAT COUNTS. Prove the row's statement (the work); the ties are given (YtihjddokgmjafaaDoorTie.lean); close each card by the builder's one call (the guide's Derived/Test/ToyasCard.lean, 'card_holds'). Laid BY PROGRAM, IN A SANDBOX (cutbox-door.mjs). By AI agents, Wed Nov 11 2026. No macro, syntax, notation, axiom, sorry.
-/
import Derived.Test.YtihjddokgmjafaaDoorRows
import GoSem.ClaimSeven
namespace Go.Proofs.YtihjddokgmjafaaDoor
namespace Rows

/-- THE TIED CARD OF 'modelchecklaw15.SimplifyFolds'. -/
def simplifyFoldsCard : Claim7 := { stood := { row := simplifyFoldsRow, standIns := [], harness := (true, "477d72e413a54a9b1b13e81c8f95beb87f5d8579e9707150ad97d26eaef916c5"), looks := false }, kinds := [], alts := [], laidByText := true, laidKinds := [.data, .data], laidTests := true, laidLooks := .later }
def SimplifyFoldsCardSaid : Prop := Claim7.holds Tryd.pinned (.plain (OpenSpec.ofChange simplifyFoldsSpec)) simplifyFoldsCard

/-- THE TIED CARD OF 'modelchecklaw15.SimplifyJumps'. -/
def simplifyJumpsCard : Claim7 := { stood := { row := simplifyJumpsRow, standIns := [], harness := (true, "477d72e413a54a9b1b13e81c8f95beb87f5d8579e9707150ad97d26eaef916c5"), looks := false }, kinds := [], alts := [], laidByText := true, laidKinds := [.data, .data], laidTests := true, laidLooks := .later }
def SimplifyJumpsCardSaid : Prop := Claim7.holds Tryd.pinned (.plain (OpenSpec.ofChange simplifyJumpsSpec)) simplifyJumpsCard

/-- THE TIED CARD OF 'modelchecklaw15.SimplifyRuns'. -/
def simplifyRunsCard : Claim7 := { stood := { row := simplifyRunsRow, standIns := [], harness := (true, "477d72e413a54a9b1b13e81c8f95beb87f5d8579e9707150ad97d26eaef916c5"), looks := false }, kinds := [], alts := [], laidByText := true, laidKinds := [.data, .data], laidTests := true, laidLooks := .later }
def SimplifyRunsCardSaid : Prop := Claim7.holds Tryd.pinned (.plain (OpenSpec.ofChange simplifyRunsSpec)) simplifyRunsCard

/-- THE TIED CARD OF 'modelchecklaw15.SimplifyTwice'. -/
def simplifyTwiceCard : Claim7 := { stood := { row := simplifyTwiceRow, standIns := [], harness := (true, "477d72e413a54a9b1b13e81c8f95beb87f5d8579e9707150ad97d26eaef916c5"), looks := false }, kinds := [], alts := [], laidByText := true, laidKinds := [.data, .data], laidTests := true, laidLooks := .later }
def SimplifyTwiceCardSaid : Prop := Claim7.holds Tryd.pinned (.plain (OpenSpec.ofChange simplifyTwiceSpec)) simplifyTwiceCard

/-- THE TIED CARD OF 'modelchecklaw16.AstCheck'. -/
def astCheckCard : Claim7 := { stood := { row := astCheckRow, standIns := [], harness := (true, "477d72e413a54a9b1b13e81c8f95beb87f5d8579e9707150ad97d26eaef916c5"), looks := false }, kinds := [], alts := [], laidByText := true, laidKinds := [.widerDeep], laidTests := true, laidLooks := .later }
def AstCheckCardSaid : Prop := Claim7.holds Tryd.pinned (.plain (OpenSpec.ofChange astCheckSpec)) astCheckCard

/-- THE TIED CARD OF 'modelchecklaw16.AstExpr'. -/
def astExprCard : Claim7 := { stood := { row := astExprRow, standIns := [], harness := (true, "477d72e413a54a9b1b13e81c8f95beb87f5d8579e9707150ad97d26eaef916c5"), looks := false }, kinds := [], alts := [], laidByText := true, laidKinds := [.widerDeep], laidTests := true, laidLooks := .later }
def AstExprCardSaid : Prop := Claim7.holds Tryd.pinned (.plain (OpenSpec.ofChange astExprSpec)) astExprCard

/-- THE TIED CARD OF 'modelchecklaw16.AstShape'. -/
def astShapeCard : Claim7 := { stood := { row := astShapeRow, standIns := [], harness := (true, "477d72e413a54a9b1b13e81c8f95beb87f5d8579e9707150ad97d26eaef916c5"), looks := false }, kinds := [], alts := [], laidByText := true, laidKinds := [.widerDeep], laidTests := true, laidLooks := .later }
def AstShapeCardSaid : Prop := Claim7.holds Tryd.pinned (.plain (OpenSpec.ofChange astShapeSpec)) astShapeCard

/-- THE TIED CARD OF 'modelchecklaw16.AstEqual'. -/
def astEqualCard : Claim7 := { stood := { row := astEqualRow, standIns := [], harness := (true, "477d72e413a54a9b1b13e81c8f95beb87f5d8579e9707150ad97d26eaef916c5"), looks := false }, kinds := [], alts := [], laidByText := true, laidKinds := [.widerDeep], laidTests := true, laidLooks := .later }
def AstEqualCardSaid : Prop := Claim7.holds Tryd.pinned (.plain (OpenSpec.ofChange astEqualSpec)) astEqualCard

/-- THE TIED CARD OF 'modelchecklaw16.AstLocals'. -/
def astLocalsCard : Claim7 := { stood := { row := astLocalsRow, standIns := [], harness := (true, "477d72e413a54a9b1b13e81c8f95beb87f5d8579e9707150ad97d26eaef916c5"), looks := false }, kinds := [], alts := [], laidByText := true, laidKinds := [.widerDeep], laidTests := true, laidLooks := .later }
def AstLocalsCardSaid : Prop := Claim7.holds Tryd.pinned (.plain (OpenSpec.ofChange astLocalsSpec)) astLocalsCard

/-- THE TIED CARD OF 'modelchecklaw16.AstBlocks'. -/
def astBlocksCard : Claim7 := { stood := { row := astBlocksRow, standIns := [], harness := (true, "477d72e413a54a9b1b13e81c8f95beb87f5d8579e9707150ad97d26eaef916c5"), looks := false }, kinds := [], alts := [], laidByText := true, laidKinds := [.widerDeep], laidTests := true, laidLooks := .later }
def AstBlocksCardSaid : Prop := Claim7.holds Tryd.pinned (.plain (OpenSpec.ofChange astBlocksSpec)) astBlocksCard

/-- THE TIED CARD OF 'modelchecklaw15.SimplifyPrograms'. -/
def simplifyProgramsCard : Claim7 := { stood := { row := simplifyProgramsRow, standIns := [], harness := (true, "477d72e413a54a9b1b13e81c8f95beb87f5d8579e9707150ad97d26eaef916c5"), looks := false }, kinds := [], alts := [], laidByText := true, laidKinds := [.data, .data], laidTests := true, laidLooks := .later }
def SimplifyProgramsCardSaid : Prop := Claim7.holds Tryd.pinned (.plain (OpenSpec.ofChange simplifyProgramsSpec)) simplifyProgramsCard

/-- THE TIED CARD OF 'modelchecklaw15.SimplifyIdempotent'. -/
def simplifyIdempotentCard : Claim7 := { stood := { row := simplifyIdempotentRow, standIns := [], harness := (true, "477d72e413a54a9b1b13e81c8f95beb87f5d8579e9707150ad97d26eaef916c5"), looks := false }, kinds := [], alts := [], laidByText := true, laidKinds := [.data, .data], laidTests := true, laidLooks := .later }
def SimplifyIdempotentCardSaid : Prop := Claim7.holds Tryd.pinned (.plain (OpenSpec.ofChange simplifyIdempotentSpec)) simplifyIdempotentCard

/-- THE SECOND FORM's CARD OF 'modelchecklaw15.SimplifyFolds'. -/
def simplifyFoldsUptoCard : Claim7 := { stood := { row := simplifyFoldsUptoRow, standIns := [], harness := (true, "477d72e413a54a9b1b13e81c8f95beb87f5d8579e9707150ad97d26eaef916c5"), looks := false }, kinds := [], alts := [], laidByText := true, laidKinds := [.data, .data], laidTests := true, laidLooks := .later }
def SimplifyFoldsUptoCardSaid : Prop := Claim7.holds Tryd.pinned (.plain (OpenSpec.upto simplifyFoldsSpec)) simplifyFoldsUptoCard

/-- THE SECOND FORM's CARD OF 'modelchecklaw15.SimplifyJumps'. -/
def simplifyJumpsUptoCard : Claim7 := { stood := { row := simplifyJumpsUptoRow, standIns := [], harness := (true, "477d72e413a54a9b1b13e81c8f95beb87f5d8579e9707150ad97d26eaef916c5"), looks := false }, kinds := [], alts := [], laidByText := true, laidKinds := [.data, .data], laidTests := true, laidLooks := .later }
def SimplifyJumpsUptoCardSaid : Prop := Claim7.holds Tryd.pinned (.plain (OpenSpec.upto simplifyJumpsSpec)) simplifyJumpsUptoCard

/-- THE SECOND FORM's CARD OF 'modelchecklaw15.SimplifyRuns'. -/
def simplifyRunsUptoCard : Claim7 := { stood := { row := simplifyRunsUptoRow, standIns := [], harness := (true, "477d72e413a54a9b1b13e81c8f95beb87f5d8579e9707150ad97d26eaef916c5"), looks := false }, kinds := [], alts := [], laidByText := true, laidKinds := [.data, .data], laidTests := true, laidLooks := .later }
def SimplifyRunsUptoCardSaid : Prop := Claim7.holds Tryd.pinned (.plain (OpenSpec.upto simplifyRunsSpec)) simplifyRunsUptoCard

/-- THE SECOND FORM's CARD OF 'modelchecklaw15.SimplifyTwice'. -/
def simplifyTwiceUptoCard : Claim7 := { stood := { row := simplifyTwiceUptoRow, standIns := [], harness := (true, "477d72e413a54a9b1b13e81c8f95beb87f5d8579e9707150ad97d26eaef916c5"), looks := false }, kinds := [], alts := [], laidByText := true, laidKinds := [.data, .data], laidTests := true, laidLooks := .later }
def SimplifyTwiceUptoCardSaid : Prop := Claim7.holds Tryd.pinned (.plain (OpenSpec.upto simplifyTwiceSpec)) simplifyTwiceUptoCard

/-- THE SECOND FORM's CARD OF 'modelchecklaw16.AstCheck'. -/
def astCheckUptoCard : Claim7 := { stood := { row := astCheckUptoRow, standIns := [], harness := (true, "477d72e413a54a9b1b13e81c8f95beb87f5d8579e9707150ad97d26eaef916c5"), looks := false }, kinds := [], alts := [], laidByText := true, laidKinds := [.widerDeep], laidTests := true, laidLooks := .later }
def AstCheckUptoCardSaid : Prop := Claim7.holds Tryd.pinned (.plain (OpenSpec.upto astCheckSpec)) astCheckUptoCard

/-- THE SECOND FORM's CARD OF 'modelchecklaw16.AstExpr'. -/
def astExprUptoCard : Claim7 := { stood := { row := astExprUptoRow, standIns := [], harness := (true, "477d72e413a54a9b1b13e81c8f95beb87f5d8579e9707150ad97d26eaef916c5"), looks := false }, kinds := [], alts := [], laidByText := true, laidKinds := [.widerDeep], laidTests := true, laidLooks := .later }
def AstExprUptoCardSaid : Prop := Claim7.holds Tryd.pinned (.plain (OpenSpec.upto astExprSpec)) astExprUptoCard

/-- THE SECOND FORM's CARD OF 'modelchecklaw16.AstShape'. -/
def astShapeUptoCard : Claim7 := { stood := { row := astShapeUptoRow, standIns := [], harness := (true, "477d72e413a54a9b1b13e81c8f95beb87f5d8579e9707150ad97d26eaef916c5"), looks := false }, kinds := [], alts := [], laidByText := true, laidKinds := [.widerDeep], laidTests := true, laidLooks := .later }
def AstShapeUptoCardSaid : Prop := Claim7.holds Tryd.pinned (.plain (OpenSpec.upto astShapeSpec)) astShapeUptoCard

/-- THE SECOND FORM's CARD OF 'modelchecklaw16.AstEqual'. -/
def astEqualUptoCard : Claim7 := { stood := { row := astEqualUptoRow, standIns := [], harness := (true, "477d72e413a54a9b1b13e81c8f95beb87f5d8579e9707150ad97d26eaef916c5"), looks := false }, kinds := [], alts := [], laidByText := true, laidKinds := [.widerDeep], laidTests := true, laidLooks := .later }
def AstEqualUptoCardSaid : Prop := Claim7.holds Tryd.pinned (.plain (OpenSpec.upto astEqualSpec)) astEqualUptoCard

/-- THE SECOND FORM's CARD OF 'modelchecklaw16.AstLocals'. -/
def astLocalsUptoCard : Claim7 := { stood := { row := astLocalsUptoRow, standIns := [], harness := (true, "477d72e413a54a9b1b13e81c8f95beb87f5d8579e9707150ad97d26eaef916c5"), looks := false }, kinds := [], alts := [], laidByText := true, laidKinds := [.widerDeep], laidTests := true, laidLooks := .later }
def AstLocalsUptoCardSaid : Prop := Claim7.holds Tryd.pinned (.plain (OpenSpec.upto astLocalsSpec)) astLocalsUptoCard

/-- THE SECOND FORM's CARD OF 'modelchecklaw16.AstBlocks'. -/
def astBlocksUptoCard : Claim7 := { stood := { row := astBlocksUptoRow, standIns := [], harness := (true, "477d72e413a54a9b1b13e81c8f95beb87f5d8579e9707150ad97d26eaef916c5"), looks := false }, kinds := [], alts := [], laidByText := true, laidKinds := [.widerDeep], laidTests := true, laidLooks := .later }
def AstBlocksUptoCardSaid : Prop := Claim7.holds Tryd.pinned (.plain (OpenSpec.upto astBlocksSpec)) astBlocksUptoCard

/-- THE SECOND FORM's CARD OF 'modelchecklaw15.SimplifyPrograms'. -/
def simplifyProgramsUptoCard : Claim7 := { stood := { row := simplifyProgramsUptoRow, standIns := [], harness := (true, "477d72e413a54a9b1b13e81c8f95beb87f5d8579e9707150ad97d26eaef916c5"), looks := false }, kinds := [], alts := [], laidByText := true, laidKinds := [.data, .data], laidTests := true, laidLooks := .later }
def SimplifyProgramsUptoCardSaid : Prop := Claim7.holds Tryd.pinned (.plain (OpenSpec.upto simplifyProgramsSpec)) simplifyProgramsUptoCard

/-- THE SECOND FORM's CARD OF 'modelchecklaw15.SimplifyIdempotent'. -/
def simplifyIdempotentUptoCard : Claim7 := { stood := { row := simplifyIdempotentUptoRow, standIns := [], harness := (true, "477d72e413a54a9b1b13e81c8f95beb87f5d8579e9707150ad97d26eaef916c5"), looks := false }, kinds := [], alts := [], laidByText := true, laidKinds := [.data, .data], laidTests := true, laidLooks := .later }
def SimplifyIdempotentUptoCardSaid : Prop := Claim7.holds Tryd.pinned (.plain (OpenSpec.upto simplifyIdempotentSpec)) simplifyIdempotentUptoCard
end Rows
end Go.Proofs.YtihjddokgmjafaaDoor
