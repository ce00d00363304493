/-
  DERIVED. GIVEN WITH THE SEED: THE CARDS: each row of YtgcinmhiohlmiaaDoorRows.lean that lists a variable, with what it lists TIED to the program's text (the seventh form; the later family's looks); each row that meets fmt, with fmt's text TOLD by the authors' own Lean function (tested against real Go, not proved from fmt's source: count such statements apart). THE CARD IS WHAT COUNTS. Prove the row's statement (the work); the ties are given (YtgcinmhiohlmiaaDoorTie.lean); close each card by the builder's one call (the guide's Derived/Test/ToyasCard.lean, 'card_holds'). Laid BY PROGRAM, IN A SANDBOX (cutbox-door.mjs). By AI agents, Wed Nov 11 2026. No macro, syntax, notation, axiom, sorry.
-/
import Derived.Test.YtgcinmhiohlmiaaDoorRows
import GoSem.ClaimSeven
namespace Go.Proofs.YtgcinmhiohlmiaaDoor
namespace Rows

/-- THE TIED CARD OF 'modelchecklaw12.CfgNext'. -/
def cfgNextCard : Claim7 := { stood := { row := cfgNextRow, standIns := [], harness := (true, "b89c58cb006152b1a866436662b5eadecda53039c34af1a0bf5d1ee410e095ff"), looks := false }, kinds := [], alts := [], laidByText := true, laidKinds := [.data, .data], laidTests := true, laidLooks := .later }
def CfgNextCardSaid : Prop := Claim7.holds Tryd.pinned (.plain (OpenSpec.ofChange cfgNextSpec)) cfgNextCard

/-- THE TIED CARD OF 'modelchecklaw12.CfgLeaders'. -/
def cfgLeadersCard : Claim7 := { stood := { row := cfgLeadersRow, standIns := [], harness := (true, "b89c58cb006152b1a866436662b5eadecda53039c34af1a0bf5d1ee410e095ff"), looks := false }, kinds := [], alts := [], laidByText := true, laidKinds := [.data, .data], laidTests := true, laidLooks := .later }
def CfgLeadersCardSaid : Prop := Claim7.holds Tryd.pinned (.plain (OpenSpec.ofChange cfgLeadersSpec)) cfgLeadersCard

/-- THE TIED CARD OF 'modelchecklaw12.CfgLoops'. -/
def cfgLoopsCard : Claim7 := { stood := { row := cfgLoopsRow, standIns := [], harness := (true, "b89c58cb006152b1a866436662b5eadecda53039c34af1a0bf5d1ee410e095ff"), looks := false }, kinds := [], alts := [], laidByText := true, laidKinds := [.data, .data], laidTests := true, laidLooks := .later }
def CfgLoopsCardSaid : Prop := Claim7.holds Tryd.pinned (.plain (OpenSpec.ofChange cfgLoopsSpec)) cfgLoopsCard

/-- THE TIED CARD OF 'modelchecklaw12.CfgDominators'. -/
def cfgDominatorsCard : Claim7 := { stood := { row := cfgDominatorsRow, standIns := [], harness := (true, "b89c58cb006152b1a866436662b5eadecda53039c34af1a0bf5d1ee410e095ff"), looks := false }, kinds := [], alts := [], laidByText := true, laidKinds := [.data, .data], laidTests := true, laidLooks := .later }
def CfgDominatorsCardSaid : Prop := Claim7.holds Tryd.pinned (.plain (OpenSpec.ofChange cfgDominatorsSpec)) cfgDominatorsCard

/-- THE TIED CARD OF 'modelchecklaw12.CfgHeaders'. -/
def cfgHeadersCard : Claim7 := { stood := { row := cfgHeadersRow, standIns := [], harness := (true, "b89c58cb006152b1a866436662b5eadecda53039c34af1a0bf5d1ee410e095ff"), looks := false }, kinds := [], alts := [], laidByText := true, laidKinds := [.data, .data], laidTests := true, laidLooks := .later }
def CfgHeadersCardSaid : Prop := Claim7.holds Tryd.pinned (.plain (OpenSpec.ofChange cfgHeadersSpec)) cfgHeadersCard

/-- THE TIED CARD OF 'modelchecklaw12.CfgGraph'. -/
def cfgGraphCard : Claim7 := { stood := { row := cfgGraphRow, standIns := [], harness := (true, "b89c58cb006152b1a866436662b5eadecda53039c34af1a0bf5d1ee410e095ff"), looks := false }, kinds := [], alts := [], laidByText := true, laidKinds := [.data, .data], laidTests := true, laidLooks := .later }
def CfgGraphCardSaid : Prop := Claim7.holds Tryd.pinned (.plain (OpenSpec.ofChange cfgGraphSpec)) cfgGraphCard

/-- THE TIED CARD OF 'modelchecklaw14.AwaitFinds'. -/
def awaitFindsCard : Claim7 := { stood := { row := awaitFindsRow, standIns := [], harness := (true, "b89c58cb006152b1a866436662b5eadecda53039c34af1a0bf5d1ee410e095ff"), looks := false }, kinds := [], alts := [], laidByText := true, laidKinds := [.data, .data], laidTests := true, laidLooks := .later }
def AwaitFindsCardSaid : Prop := Claim7.holds Tryd.pinned (.plain (OpenSpec.ofChange awaitFindsSpec)) awaitFindsCard

/-- THE TIED CARD OF 'modelchecklaw14.AwaitRewrites'. -/
def awaitRewritesCard : Claim7 := { stood := { row := awaitRewritesRow, standIns := [], harness := (true, "b89c58cb006152b1a866436662b5eadecda53039c34af1a0bf5d1ee410e095ff"), looks := false }, kinds := [], alts := [], laidByText := true, laidKinds := [.data, .data], laidTests := true, laidLooks := .later }
def AwaitRewritesCardSaid : Prop := Claim7.holds Tryd.pinned (.plain (OpenSpec.ofChange awaitRewritesSpec)) awaitRewritesCard

/-- THE TIED CARD OF 'modelchecklaw14.AwaitPattern'. -/
def awaitPatternCard : Claim7 := { stood := { row := awaitPatternRow, standIns := [], harness := (true, "b89c58cb006152b1a866436662b5eadecda53039c34af1a0bf5d1ee410e095ff"), looks := false }, kinds := [], alts := [], laidByText := true, laidKinds := [.data, .data], laidTests := true, laidLooks := .later }
def AwaitPatternCardSaid : Prop := Claim7.holds Tryd.pinned (.plain (OpenSpec.ofChange awaitPatternSpec)) awaitPatternCard

/-- THE TIED CARD OF 'modelchecklaw14.AwaitOnce'. -/
def awaitOnceCard : Claim7 := { stood := { row := awaitOnceRow, standIns := [], harness := (true, "b89c58cb006152b1a866436662b5eadecda53039c34af1a0bf5d1ee410e095ff"), looks := false }, kinds := [], alts := [], laidByText := true, laidKinds := [.data, .data], laidTests := true, laidLooks := .later }
def AwaitOnceCardSaid : Prop := Claim7.holds Tryd.pinned (.plain (OpenSpec.ofChange awaitOnceSpec)) awaitOnceCard

/-- THE TIED CARD OF 'modelchecklaw14.AwaitLocal'. -/
def awaitLocalCard : Claim7 := { stood := { row := awaitLocalRow, standIns := [], harness := (true, "b89c58cb006152b1a866436662b5eadecda53039c34af1a0bf5d1ee410e095ff"), looks := false }, kinds := [], alts := [], laidByText := true, laidKinds := [.data, .data], laidTests := true, laidLooks := .later }
def AwaitLocalCardSaid : Prop := Claim7.holds Tryd.pinned (.plain (OpenSpec.ofChange awaitLocalSpec)) awaitLocalCard

/-- THE SECOND FORM's CARD OF 'modelchecklaw12.CfgNext'. -/
def cfgNextUptoCard : Claim7 := { stood := { row := cfgNextUptoRow, standIns := [], harness := (true, "b89c58cb006152b1a866436662b5eadecda53039c34af1a0bf5d1ee410e095ff"), looks := false }, kinds := [], alts := [], laidByText := true, laidKinds := [.data, .data], laidTests := true, laidLooks := .later }
def CfgNextUptoCardSaid : Prop := Claim7.holds Tryd.pinned (.plain (OpenSpec.upto cfgNextSpec)) cfgNextUptoCard

/-- THE SECOND FORM's CARD OF 'modelchecklaw12.CfgLeaders'. -/
def cfgLeadersUptoCard : Claim7 := { stood := { row := cfgLeadersUptoRow, standIns := [], harness := (true, "b89c58cb006152b1a866436662b5eadecda53039c34af1a0bf5d1ee410e095ff"), looks := false }, kinds := [], alts := [], laidByText := true, laidKinds := [.data, .data], laidTests := true, laidLooks := .later }
def CfgLeadersUptoCardSaid : Prop := Claim7.holds Tryd.pinned (.plain (OpenSpec.upto cfgLeadersSpec)) cfgLeadersUptoCard

/-- THE SECOND FORM's CARD OF 'modelchecklaw12.CfgLoops'. -/
def cfgLoopsUptoCard : Claim7 := { stood := { row := cfgLoopsUptoRow, standIns := [], harness := (true, "b89c58cb006152b1a866436662b5eadecda53039c34af1a0bf5d1ee410e095ff"), looks := false }, kinds := [], alts := [], laidByText := true, laidKinds := [.data, .data], laidTests := true, laidLooks := .later }
def CfgLoopsUptoCardSaid : Prop := Claim7.holds Tryd.pinned (.plain (OpenSpec.upto cfgLoopsSpec)) cfgLoopsUptoCard

/-- THE SECOND FORM's CARD OF 'modelchecklaw12.CfgDominators'. -/
def cfgDominatorsUptoCard : Claim7 := { stood := { row := cfgDominatorsUptoRow, standIns := [], harness := (true, "b89c58cb006152b1a866436662b5eadecda53039c34af1a0bf5d1ee410e095ff"), looks := false }, kinds := [], alts := [], laidByText := true, laidKinds := [.data, .data], laidTests := true, laidLooks := .later }
def CfgDominatorsUptoCardSaid : Prop := Claim7.holds Tryd.pinned (.plain (OpenSpec.upto cfgDominatorsSpec)) cfgDominatorsUptoCard

/-- THE SECOND FORM's CARD OF 'modelchecklaw12.CfgHeaders'. -/
def cfgHeadersUptoCard : Claim7 := { stood := { row := cfgHeadersUptoRow, standIns := [], harness := (true, "b89c58cb006152b1a866436662b5eadecda53039c34af1a0bf5d1ee410e095ff"), looks := false }, kinds := [], alts := [], laidByText := true, laidKinds := [.data, .data], laidTests := true, laidLooks := .later }
def CfgHeadersUptoCardSaid : Prop := Claim7.holds Tryd.pinned (.plain (OpenSpec.upto cfgHeadersSpec)) cfgHeadersUptoCard

/-- THE SECOND FORM's CARD OF 'modelchecklaw12.CfgGraph'. -/
def cfgGraphUptoCard : Claim7 := { stood := { row := cfgGraphUptoRow, standIns := [], harness := (true, "b89c58cb006152b1a866436662b5eadecda53039c34af1a0bf5d1ee410e095ff"), looks := false }, kinds := [], alts := [], laidByText := true, laidKinds := [.data, .data], laidTests := true, laidLooks := .later }
def CfgGraphUptoCardSaid : Prop := Claim7.holds Tryd.pinned (.plain (OpenSpec.upto cfgGraphSpec)) cfgGraphUptoCard

/-- THE SECOND FORM's CARD OF 'modelchecklaw14.AwaitFinds'. -/
def awaitFindsUptoCard : Claim7 := { stood := { row := awaitFindsUptoRow, standIns := [], harness := (true, "b89c58cb006152b1a866436662b5eadecda53039c34af1a0bf5d1ee410e095ff"), looks := false }, kinds := [], alts := [], laidByText := true, laidKinds := [.data, .data], laidTests := true, laidLooks := .later }
def AwaitFindsUptoCardSaid : Prop := Claim7.holds Tryd.pinned (.plain (OpenSpec.upto awaitFindsSpec)) awaitFindsUptoCard

/-- THE SECOND FORM's CARD OF 'modelchecklaw14.AwaitRewrites'. -/
def awaitRewritesUptoCard : Claim7 := { stood := { row := awaitRewritesUptoRow, standIns := [], harness := (true, "b89c58cb006152b1a866436662b5eadecda53039c34af1a0bf5d1ee410e095ff"), looks := false }, kinds := [], alts := [], laidByText := true, laidKinds := [.data, .data], laidTests := true, laidLooks := .later }
def AwaitRewritesUptoCardSaid : Prop := Claim7.holds Tryd.pinned (.plain (OpenSpec.upto awaitRewritesSpec)) awaitRewritesUptoCard

/-- THE SECOND FORM's CARD OF 'modelchecklaw14.AwaitPattern'. -/
def awaitPatternUptoCard : Claim7 := { stood := { row := awaitPatternUptoRow, standIns := [], harness := (true, "b89c58cb006152b1a866436662b5eadecda53039c34af1a0bf5d1ee410e095ff"), looks := false }, kinds := [], alts := [], laidByText := true, laidKinds := [.data, .data], laidTests := true, laidLooks := .later }
def AwaitPatternUptoCardSaid : Prop := Claim7.holds Tryd.pinned (.plain (OpenSpec.upto awaitPatternSpec)) awaitPatternUptoCard

/-- THE SECOND FORM's CARD OF 'modelchecklaw14.AwaitOnce'. -/
def awaitOnceUptoCard : Claim7 := { stood := { row := awaitOnceUptoRow, standIns := [], harness := (true, "b89c58cb006152b1a866436662b5eadecda53039c34af1a0bf5d1ee410e095ff"), looks := false }, kinds := [], alts := [], laidByText := true, laidKinds := [.data, .data], laidTests := true, laidLooks := .later }
def AwaitOnceUptoCardSaid : Prop := Claim7.holds Tryd.pinned (.plain (OpenSpec.upto awaitOnceSpec)) awaitOnceUptoCard

/-- THE SECOND FORM's CARD OF 'modelchecklaw14.AwaitLocal'. -/
def awaitLocalUptoCard : Claim7 := { stood := { row := awaitLocalUptoRow, standIns := [], harness := (true, "b89c58cb006152b1a866436662b5eadecda53039c34af1a0bf5d1ee410e095ff"), looks := false }, kinds := [], alts := [], laidByText := true, laidKinds := [.data, .data], laidTests := true, laidLooks := .later }
def AwaitLocalUptoCardSaid : Prop := Claim7.holds Tryd.pinned (.plain (OpenSpec.upto awaitLocalSpec)) awaitLocalUptoCard
end Rows
end Go.Proofs.YtgcinmhiohlmiaaDoor
