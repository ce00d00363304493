/-
  NARROWER THAN 'FOR EVERY INPUT', by the rows' own cells (each row's printed sentence says how): CfgNext: laid · CfgLeaders: laid · CfgLoops: laid · CfgDominators: laid · CfgHeaders: laid · CfgGraph: laid · AwaitFinds: laid · AwaitRewrites: laid · AwaitPattern: laid · AwaitOnce: laid · AwaitLocal: laid.
  DERIVED. THE GIVEN ROWS OF THIS SEAT. 11 by the template 'for every input the law returns true; each argument reads behind the call as it read before'; 0 by the template 'total and deterministic' (their statements: YtgcinmhiohlmiaaDoorTotals.lean).
  GIVEN WITH THE SEED: the statements are not yours to turn. If you find one false, say at which input.
  Laid BY PROGRAM, IN A SANDBOX (cutbox-rows.mjs): the forced cells as the released guide's own fill.sh prints them over the translation 2957e6cc4c387fa5… (all of the seat's roots in one cut). By AI agents, Wed Nov 11 2026. No macro, syntax, notation, axiom, sorry.
-/
import Derived.Test.YtgcinmhiohlmiaaDoorChecked
import GoSem.Claim
import GoSem.ClaimJoined
import GoSem.ClaimMapViews
import Derived.JoinedTies
import Derived.KernelRfl
namespace Go.Proofs.YtgcinmhiohlmiaaDoor
/- THE CELL 'sum', in the pinned program and in every row, IS THE sha256 OF THE DUMP (.gsa) THAT YtgcinmhiohlmiaaDoorProg.lean LOADS. Nothing in Lean hashes anything: it is a label: what it is worth is what the hold of that sum in a sandbox is worth. -/
noncomputable def Tryd.pinned : Pinned := { name := "ytgcinmhiohlmiaadoor", sum := "2957e6cc4c387fa58234c29dcc0802160924634471bcfc595a48f27601ba921e", checked := Tryd.checked }
namespace Rows
def none {H : Type} : Left H := { results := [], args := [] }

/- WHAT THE LISTED PACKAGE-LEVEL VARIABLES READ AS WHEN THE CALL BEGINS. Each datum BY PROGRAM (the guide's laid-datum.mjs) off the statement by which the dump's own 'gosem.cut.vars' lays the variable. In a bare row this is a premise. The card (YtgcinmhiohlmiaaDoorCards.lean) ties it to the program's text. -/
def laid_modelcheck_value_names {H : Type} : DataW H := .agg [.lit (.string [97, 100, 100]), .lit (.string [115, 117, 98]), .lit (.string [109, 117, 108]), .lit (.string [97, 110, 100]), .lit (.string [111, 114]), .lit (.string [120, 111, 114]), .lit (.string [101, 113]), .lit (.string [110, 101]), .lit (.string [108, 116]), .lit (.string [108, 101])]
def laid_modelcheck_inst_rows {H : Type} : DataW H := .agg [.agg [.lit (.string [99, 111, 110, 115, 116]), .agg [.lit (.bool true), .lit (.bool false), .lit (.bool false), .lit (.bool false), .lit (.bool true), .lit (.bool false), .lit (.bool false)]], .agg [.lit (.string [99, 111, 112, 121]), .agg [.lit (.bool true), .lit (.bool true), .lit (.bool false), .lit (.bool false), .lit (.bool false), .lit (.bool false), .lit (.bool false)]], .agg [.lit (.string [99, 97, 108, 99]), .agg [.lit (.bool true), .lit (.bool true), .lit (.bool true), .lit (.bool false), .lit (.bool false), .lit (.bool true), .lit (.bool false)]], .agg [.lit (.string [106, 117, 109, 112]), .agg [.lit (.bool false), .lit (.bool false), .lit (.bool false), .lit (.bool false), .lit (.bool true), .lit (.bool false), .lit (.bool false)]], .agg [.lit (.string [98, 114, 97, 110, 99, 104]), .agg [.lit (.bool false), .lit (.bool true), .lit (.bool false), .lit (.bool false), .lit (.bool true), .lit (.bool false), .lit (.bool false)]], .agg [.lit (.string [97, 115, 115, 101, 114, 116]), .agg [.lit (.bool false), .lit (.bool true), .lit (.bool false), .lit (.bool false), .lit (.bool false), .lit (.bool false), .lit (.bool false)]], .agg [.lit (.string [115, 116, 111, 112]), .agg [.lit (.bool false), .lit (.bool false), .lit (.bool false), .lit (.bool false), .lit (.bool false), .lit (.bool false), .lit (.bool false)]], .agg [.lit (.string [108, 111, 97, 100]), .agg [.lit (.bool true), .lit (.bool false), .lit (.bool false), .lit (.bool true), .lit (.bool false), .lit (.bool false), .lit (.bool true)]], .agg [.lit (.string [115, 116, 111, 114, 101]), .agg [.lit (.bool false), .lit (.bool true), .lit (.bool false), .lit (.bool true), .lit (.bool false), .lit (.bool false), .lit (.bool true)]], .agg [.lit (.string [115, 119, 97, 112]), .agg [.lit (.bool true), .lit (.bool true), .lit (.bool false), .lit (.bool true), .lit (.bool false), .lit (.bool false), .lit (.bool true)]], .agg [.lit (.string [102, 101, 116, 99, 104, 97, 100, 100]), .agg [.lit (.bool true), .lit (.bool true), .lit (.bool false), .lit (.bool true), .lit (.bool false), .lit (.bool false), .lit (.bool true)]], .agg [.lit (.string [99, 97, 115]), .agg [.lit (.bool true), .lit (.bool true), .lit (.bool true), .lit (.bool true), .lit (.bool false), .lit (.bool false), .lit (.bool true)]], .agg [.lit (.string [102, 101, 110, 99, 101]), .agg [.lit (.bool false), .lit (.bool false), .lit (.bool false), .lit (.bool false), .lit (.bool false), .lit (.bool false), .lit (.bool false)]], .agg [.lit (.string [97, 119, 97, 105, 116]), .agg [.lit (.bool true), .lit (.bool true), .lit (.bool false), .lit (.bool true), .lit (.bool false), .lit (.bool true), .lit (.bool true)]], .agg [.lit (.string [108, 111, 99, 107]), .agg [.lit (.bool false), .lit (.bool false), .lit (.bool false), .lit (.bool true), .lit (.bool false), .lit (.bool false), .lit (.bool false)]], .agg [.lit (.string [117, 110, 108, 111, 99, 107]), .agg [.lit (.bool false), .lit (.bool false), .lit (.bool false), .lit (.bool true), .lit (.bool false), .lit (.bool false), .lit (.bool false)]], .agg [.lit (.string [116, 114, 121, 108, 111, 99, 107]), .agg [.lit (.bool true), .lit (.bool false), .lit (.bool false), .lit (.bool true), .lit (.bool false), .lit (.bool false), .lit (.bool false)]], .agg [.lit (.string [119, 97, 105, 116]), .agg [.lit (.bool false), .lit (.bool false), .lit (.bool false), .lit (.bool true), .lit (.bool true), .lit (.bool false), .lit (.bool false)]], .agg [.lit (.string [115, 105, 103, 110, 97, 108]), .agg [.lit (.bool false), .lit (.bool false), .lit (.bool false), .lit (.bool true), .lit (.bool false), .lit (.bool false), .lit (.bool false)]], .agg [.lit (.string [98, 114, 111, 97, 100, 99, 97, 115, 116]), .agg [.lit (.bool false), .lit (.bool false), .lit (.bool false), .lit (.bool true), .lit (.bool false), .lit (.bool false), .lit (.bool false)]], .agg [.lit (.string [115, 112, 97, 119, 110]), .agg [.lit (.bool true), .lit (.bool true), .lit (.bool false), .lit (.bool true), .lit (.bool false), .lit (.bool false), .lit (.bool false)]], .agg [.lit (.string [106, 111, 105, 110]), .agg [.lit (.bool false), .lit (.bool true), .lit (.bool false), .lit (.bool false), .lit (.bool false), .lit (.bool false), .lit (.bool false)]]]

/-- 'modelchecklaw12.CfgNext': WHATEVER THE INPUT: true; the input reads as it did. -/
def cfgNextSpec : ChangeSpec := { name := "cfgNext", fn := fun _ => fun
  | [d1, d2] => { results := [.lit (.bool true)], args := [d1, d2] }
  | _ => none }
def cfgNextRow : OpenClaim := { program := "ytgcinmhiohlmiaadoor", sum := "2957e6cc4c387fa58234c29dcc0802160924634471bcfc595a48f27601ba921e", func := "modelcheck/modelchecklaw12.CfgNext", spec := "cfgNext", unfollowed := true, recurses := true, named := ["modelcheck/inst.rows", "modelcheck/value.names"], plainKeys := false, apart := false, laid := [("modelcheck/value.names", laid_modelcheck_value_names), ("modelcheck/inst.rows", laid_modelcheck_inst_rows)] }
def CfgNextSaid : Prop := cfgNextRow.holds Tryd.pinned (OpenSpec.ofChange cfgNextSpec)

/-- ITS FALSE NEIGHBOUR: 'it returns false'. Refute it at one input. -/
def cfgNextWrong : ChangeSpec := { name := "cfgNext", fn := fun _ => fun
  | [d1, d2] => { results := [.lit (.bool false)], args := [d1, d2] }
  | _ => none }
def CfgNextWrongFalsely : Prop := cfgNextRow.holds Tryd.pinned (OpenSpec.ofChange cfgNextWrong)

/-- 'modelchecklaw12.CfgLeaders': WHATEVER THE INPUT: true; the input reads as it did. -/
def cfgLeadersSpec : ChangeSpec := { name := "cfgLeaders", fn := fun _ => fun
  | [d] => { results := [.lit (.bool true)], args := [d] }
  | _ => none }
def cfgLeadersRow : OpenClaim := { program := "ytgcinmhiohlmiaadoor", sum := "2957e6cc4c387fa58234c29dcc0802160924634471bcfc595a48f27601ba921e", func := "modelcheck/modelchecklaw12.CfgLeaders", spec := "cfgLeaders", unfollowed := true, recurses := true, named := ["modelcheck/inst.rows", "modelcheck/value.names"], plainKeys := false, apart := false, laid := [("modelcheck/value.names", laid_modelcheck_value_names), ("modelcheck/inst.rows", laid_modelcheck_inst_rows)] }
def CfgLeadersSaid : Prop := cfgLeadersRow.holds Tryd.pinned (OpenSpec.ofChange cfgLeadersSpec)

/-- ITS FALSE NEIGHBOUR: 'it returns false'. Refute it at one input. -/
def cfgLeadersWrong : ChangeSpec := { name := "cfgLeaders", fn := fun _ => fun
  | [d] => { results := [.lit (.bool false)], args := [d] }
  | _ => none }
def CfgLeadersWrongFalsely : Prop := cfgLeadersRow.holds Tryd.pinned (OpenSpec.ofChange cfgLeadersWrong)

/-- 'modelchecklaw12.CfgLoops': WHATEVER THE INPUT: true; the input reads as it did. -/
def cfgLoopsSpec : ChangeSpec := { name := "cfgLoops", fn := fun _ => fun
  | [d] => { results := [.lit (.bool true)], args := [d] }
  | _ => none }
def cfgLoopsRow : OpenClaim := { program := "ytgcinmhiohlmiaadoor", sum := "2957e6cc4c387fa58234c29dcc0802160924634471bcfc595a48f27601ba921e", func := "modelcheck/modelchecklaw12.CfgLoops", spec := "cfgLoops", unfollowed := true, recurses := true, named := ["modelcheck/inst.rows", "modelcheck/value.names"], plainKeys := false, apart := false, laid := [("modelcheck/value.names", laid_modelcheck_value_names), ("modelcheck/inst.rows", laid_modelcheck_inst_rows)] }
def CfgLoopsSaid : Prop := cfgLoopsRow.holds Tryd.pinned (OpenSpec.ofChange cfgLoopsSpec)

/-- ITS FALSE NEIGHBOUR: 'it returns false'. Refute it at one input. -/
def cfgLoopsWrong : ChangeSpec := { name := "cfgLoops", fn := fun _ => fun
  | [d] => { results := [.lit (.bool false)], args := [d] }
  | _ => none }
def CfgLoopsWrongFalsely : Prop := cfgLoopsRow.holds Tryd.pinned (OpenSpec.ofChange cfgLoopsWrong)

/-- 'modelchecklaw12.CfgDominators': WHATEVER THE INPUT: true; the input reads as it did. -/
def cfgDominatorsSpec : ChangeSpec := { name := "cfgDominators", fn := fun _ => fun
  | [d] => { results := [.lit (.bool true)], args := [d] }
  | _ => none }
def cfgDominatorsRow : OpenClaim := { program := "ytgcinmhiohlmiaadoor", sum := "2957e6cc4c387fa58234c29dcc0802160924634471bcfc595a48f27601ba921e", func := "modelcheck/modelchecklaw12.CfgDominators", spec := "cfgDominators", unfollowed := true, recurses := true, named := ["modelcheck/inst.rows", "modelcheck/value.names"], plainKeys := false, apart := false, laid := [("modelcheck/value.names", laid_modelcheck_value_names), ("modelcheck/inst.rows", laid_modelcheck_inst_rows)] }
def CfgDominatorsSaid : Prop := cfgDominatorsRow.holds Tryd.pinned (OpenSpec.ofChange cfgDominatorsSpec)

/-- ITS FALSE NEIGHBOUR: 'it returns false'. Refute it at one input. -/
def cfgDominatorsWrong : ChangeSpec := { name := "cfgDominators", fn := fun _ => fun
  | [d] => { results := [.lit (.bool false)], args := [d] }
  | _ => none }
def CfgDominatorsWrongFalsely : Prop := cfgDominatorsRow.holds Tryd.pinned (OpenSpec.ofChange cfgDominatorsWrong)

/-- 'modelchecklaw12.CfgHeaders': WHATEVER THE INPUT: true; the input reads as it did. -/
def cfgHeadersSpec : ChangeSpec := { name := "cfgHeaders", fn := fun _ => fun
  | [d] => { results := [.lit (.bool true)], args := [d] }
  | _ => none }
def cfgHeadersRow : OpenClaim := { program := "ytgcinmhiohlmiaadoor", sum := "2957e6cc4c387fa58234c29dcc0802160924634471bcfc595a48f27601ba921e", func := "modelcheck/modelchecklaw12.CfgHeaders", spec := "cfgHeaders", unfollowed := true, recurses := true, named := ["modelcheck/inst.rows", "modelcheck/value.names"], plainKeys := false, apart := false, laid := [("modelcheck/value.names", laid_modelcheck_value_names), ("modelcheck/inst.rows", laid_modelcheck_inst_rows)] }
def CfgHeadersSaid : Prop := cfgHeadersRow.holds Tryd.pinned (OpenSpec.ofChange cfgHeadersSpec)

/-- ITS FALSE NEIGHBOUR: 'it returns false'. Refute it at one input. -/
def cfgHeadersWrong : ChangeSpec := { name := "cfgHeaders", fn := fun _ => fun
  | [d] => { results := [.lit (.bool false)], args := [d] }
  | _ => none }
def CfgHeadersWrongFalsely : Prop := cfgHeadersRow.holds Tryd.pinned (OpenSpec.ofChange cfgHeadersWrong)

/-- 'modelchecklaw12.CfgGraph': WHATEVER THE INPUT: true; the input reads as it did. -/
def cfgGraphSpec : ChangeSpec := { name := "cfgGraph", fn := fun _ => fun
  | [d] => { results := [.lit (.bool true)], args := [d] }
  | _ => none }
def cfgGraphRow : OpenClaim := { program := "ytgcinmhiohlmiaadoor", sum := "2957e6cc4c387fa58234c29dcc0802160924634471bcfc595a48f27601ba921e", func := "modelcheck/modelchecklaw12.CfgGraph", spec := "cfgGraph", unfollowed := true, recurses := true, named := ["modelcheck/inst.rows", "modelcheck/value.names"], plainKeys := false, apart := false, laid := [("modelcheck/value.names", laid_modelcheck_value_names), ("modelcheck/inst.rows", laid_modelcheck_inst_rows)] }
def CfgGraphSaid : Prop := cfgGraphRow.holds Tryd.pinned (OpenSpec.ofChange cfgGraphSpec)

/-- ITS FALSE NEIGHBOUR: 'it returns false'. Refute it at one input. -/
def cfgGraphWrong : ChangeSpec := { name := "cfgGraph", fn := fun _ => fun
  | [d] => { results := [.lit (.bool false)], args := [d] }
  | _ => none }
def CfgGraphWrongFalsely : Prop := cfgGraphRow.holds Tryd.pinned (OpenSpec.ofChange cfgGraphWrong)

/-- 'modelchecklaw14.AwaitFinds': WHATEVER THE INPUT: true; the input reads as it did. -/
def awaitFindsSpec : ChangeSpec := { name := "awaitFinds", fn := fun _ => fun
  | [d] => { results := [.lit (.bool true)], args := [d] }
  | _ => none }
def awaitFindsRow : OpenClaim := { program := "ytgcinmhiohlmiaadoor", sum := "2957e6cc4c387fa58234c29dcc0802160924634471bcfc595a48f27601ba921e", func := "modelcheck/modelchecklaw14.AwaitFinds", spec := "awaitFinds", unfollowed := true, recurses := true, named := ["modelcheck/inst.rows", "modelcheck/value.names"], plainKeys := false, apart := false, laid := [("modelcheck/value.names", laid_modelcheck_value_names), ("modelcheck/inst.rows", laid_modelcheck_inst_rows)] }
def AwaitFindsSaid : Prop := awaitFindsRow.holds Tryd.pinned (OpenSpec.ofChange awaitFindsSpec)

/-- ITS FALSE NEIGHBOUR: 'it returns false'. Refute it at one input. -/
def awaitFindsWrong : ChangeSpec := { name := "awaitFinds", fn := fun _ => fun
  | [d] => { results := [.lit (.bool false)], args := [d] }
  | _ => none }
def AwaitFindsWrongFalsely : Prop := awaitFindsRow.holds Tryd.pinned (OpenSpec.ofChange awaitFindsWrong)

/-- 'modelchecklaw14.AwaitRewrites': WHATEVER THE INPUT: true; the input reads as it did. -/
def awaitRewritesSpec : ChangeSpec := { name := "awaitRewrites", fn := fun _ => fun
  | [d] => { results := [.lit (.bool true)], args := [d] }
  | _ => none }
def awaitRewritesRow : OpenClaim := { program := "ytgcinmhiohlmiaadoor", sum := "2957e6cc4c387fa58234c29dcc0802160924634471bcfc595a48f27601ba921e", func := "modelcheck/modelchecklaw14.AwaitRewrites", spec := "awaitRewrites", unfollowed := true, recurses := true, named := ["modelcheck/inst.rows", "modelcheck/value.names"], plainKeys := false, apart := false, laid := [("modelcheck/value.names", laid_modelcheck_value_names), ("modelcheck/inst.rows", laid_modelcheck_inst_rows)] }
def AwaitRewritesSaid : Prop := awaitRewritesRow.holds Tryd.pinned (OpenSpec.ofChange awaitRewritesSpec)

/-- ITS FALSE NEIGHBOUR: 'it returns false'. Refute it at one input. -/
def awaitRewritesWrong : ChangeSpec := { name := "awaitRewrites", fn := fun _ => fun
  | [d] => { results := [.lit (.bool false)], args := [d] }
  | _ => none }
def AwaitRewritesWrongFalsely : Prop := awaitRewritesRow.holds Tryd.pinned (OpenSpec.ofChange awaitRewritesWrong)

/-- 'modelchecklaw14.AwaitPattern': WHATEVER THE INPUT: true; the input reads as it did. -/
def awaitPatternSpec : ChangeSpec := { name := "awaitPattern", fn := fun _ => fun
  | [d1, d2, d3] => { results := [.lit (.bool true)], args := [d1, d2, d3] }
  | _ => none }
def awaitPatternRow : OpenClaim := { program := "ytgcinmhiohlmiaadoor", sum := "2957e6cc4c387fa58234c29dcc0802160924634471bcfc595a48f27601ba921e", func := "modelcheck/modelchecklaw14.AwaitPattern", spec := "awaitPattern", unfollowed := true, recurses := true, named := ["modelcheck/inst.rows", "modelcheck/value.names"], plainKeys := false, apart := false, laid := [("modelcheck/value.names", laid_modelcheck_value_names), ("modelcheck/inst.rows", laid_modelcheck_inst_rows)] }
def AwaitPatternSaid : Prop := awaitPatternRow.holds Tryd.pinned (OpenSpec.ofChange awaitPatternSpec)

/-- ITS FALSE NEIGHBOUR: 'it returns false'. Refute it at one input. -/
def awaitPatternWrong : ChangeSpec := { name := "awaitPattern", fn := fun _ => fun
  | [d1, d2, d3] => { results := [.lit (.bool false)], args := [d1, d2, d3] }
  | _ => none }
def AwaitPatternWrongFalsely : Prop := awaitPatternRow.holds Tryd.pinned (OpenSpec.ofChange awaitPatternWrong)

/-- 'modelchecklaw14.AwaitOnce': WHATEVER THE INPUT: true; the input reads as it did. -/
def awaitOnceSpec : ChangeSpec := { name := "awaitOnce", fn := fun _ => fun
  | [d] => { results := [.lit (.bool true)], args := [d] }
  | _ => none }
def awaitOnceRow : OpenClaim := { program := "ytgcinmhiohlmiaadoor", sum := "2957e6cc4c387fa58234c29dcc0802160924634471bcfc595a48f27601ba921e", func := "modelcheck/modelchecklaw14.AwaitOnce", spec := "awaitOnce", unfollowed := true, recurses := true, named := ["modelcheck/inst.rows", "modelcheck/value.names"], plainKeys := false, apart := false, laid := [("modelcheck/value.names", laid_modelcheck_value_names), ("modelcheck/inst.rows", laid_modelcheck_inst_rows)] }
def AwaitOnceSaid : Prop := awaitOnceRow.holds Tryd.pinned (OpenSpec.ofChange awaitOnceSpec)

/-- ITS FALSE NEIGHBOUR: 'it returns false'. Refute it at one input. -/
def awaitOnceWrong : ChangeSpec := { name := "awaitOnce", fn := fun _ => fun
  | [d] => { results := [.lit (.bool false)], args := [d] }
  | _ => none }
def AwaitOnceWrongFalsely : Prop := awaitOnceRow.holds Tryd.pinned (OpenSpec.ofChange awaitOnceWrong)

/-- 'modelchecklaw14.AwaitLocal': WHATEVER THE INPUT: true; the input reads as it did. -/
def awaitLocalSpec : ChangeSpec := { name := "awaitLocal", fn := fun _ => fun
  | [d1, d2] => { results := [.lit (.bool true)], args := [d1, d2] }
  | _ => none }
def awaitLocalRow : OpenClaim := { program := "ytgcinmhiohlmiaadoor", sum := "2957e6cc4c387fa58234c29dcc0802160924634471bcfc595a48f27601ba921e", func := "modelcheck/modelchecklaw14.AwaitLocal", spec := "awaitLocal", unfollowed := true, recurses := true, named := ["modelcheck/inst.rows", "modelcheck/value.names"], plainKeys := false, apart := false, laid := [("modelcheck/value.names", laid_modelcheck_value_names), ("modelcheck/inst.rows", laid_modelcheck_inst_rows)] }
def AwaitLocalSaid : Prop := awaitLocalRow.holds Tryd.pinned (OpenSpec.ofChange awaitLocalSpec)

/-- ITS FALSE NEIGHBOUR: 'it returns false'. Refute it at one input. -/
def awaitLocalWrong : ChangeSpec := { name := "awaitLocal", fn := fun _ => fun
  | [d1, d2] => { results := [.lit (.bool false)], args := [d1, d2] }
  | _ => none }
def AwaitLocalWrongFalsely : Prop := awaitLocalRow.holds Tryd.pinned (OpenSpec.ofChange awaitLocalWrong)

/- THE SECOND FORM. 'bulk': how many values and letters a reading holds, each counted each time it is reached (what is shared counts as often as it is met; a slice's spare places count too). A statement '..UptoSaid' is the law's where the arguments, and the package variables that the reading takes, are together of bulk at most 1048576: NARROWER than '..Said'. Prove '..Said' where nothing that the law and all that it calls make is longer than what came in: it says more and counts as full. Else prove '..UptoSaid'. A law counts once. -/
mutual
def uptoBulk {H : Type} : DataW H → Nat
  | .lit (.string bytes) => bytes.length + 1
  | .lit _ => 1
  | .nil => 1
  | .ptr d => uptoBulk d + 1
  | .slice elems spare => uptoBulkAll elems + uptoBulkAll spare + 1
  | .agg parts => uptoBulkAll parts + 1
  | .iface _ d => uptoBulk d + 1
  | .map entries => uptoBulkEntries entries + 1
  | .held _ => 1
def uptoBulkAll {H : Type} : List (DataW H) → Nat
  | [] => 0
  | d :: r => uptoBulk d + uptoBulkAll r
def uptoBulkEntries {H : Type} : List (Lit × DataW H) → Nat
  | [] => 0
  | x :: r => uptoBulkEntry x + uptoBulkEntries r
def uptoBulkEntry {H : Type} : Lit × DataW H → Nat
  | (.string bytes, d) => bytes.length + uptoBulk d + 1
  | (_, d) => uptoBulk d + 1
 end
def uptoSmall : (H : Type) → List (DataW H) → Bool := fun _ ds => decide (uptoBulkAll ds ≤ 1048576)
def OpenSpec.upto (s : _root_.Go.ChangeSpec) : _root_.Go.OpenSpec := { _root_.Go.OpenSpec.ofChange s with cond := some uptoSmall }

/-- 'modelchecklaw12.CfgNext', WHERE WHAT IT READS IS OF BULK AT MOST 1048576: true; the input reads as it did. -/
def cfgNextUptoRow : OpenClaim := { program := "ytgcinmhiohlmiaadoor", sum := "2957e6cc4c387fa58234c29dcc0802160924634471bcfc595a48f27601ba921e", func := "modelcheck/modelchecklaw12.CfgNext", spec := "cfgNext", unfollowed := true, recurses := true, named := ["modelcheck/inst.rows", "modelcheck/value.names"], plainKeys := false, apart := false, laid := [("modelcheck/value.names", laid_modelcheck_value_names), ("modelcheck/inst.rows", laid_modelcheck_inst_rows)], narrowed := true }
def CfgNextUptoSaid : Prop := cfgNextUptoRow.holds Tryd.pinned (OpenSpec.upto cfgNextSpec)

/-- 'modelchecklaw12.CfgLeaders', WHERE WHAT IT READS IS OF BULK AT MOST 1048576: true; the input reads as it did. -/
def cfgLeadersUptoRow : OpenClaim := { program := "ytgcinmhiohlmiaadoor", sum := "2957e6cc4c387fa58234c29dcc0802160924634471bcfc595a48f27601ba921e", func := "modelcheck/modelchecklaw12.CfgLeaders", spec := "cfgLeaders", unfollowed := true, recurses := true, named := ["modelcheck/inst.rows", "modelcheck/value.names"], plainKeys := false, apart := false, laid := [("modelcheck/value.names", laid_modelcheck_value_names), ("modelcheck/inst.rows", laid_modelcheck_inst_rows)], narrowed := true }
def CfgLeadersUptoSaid : Prop := cfgLeadersUptoRow.holds Tryd.pinned (OpenSpec.upto cfgLeadersSpec)

/-- 'modelchecklaw12.CfgLoops', WHERE WHAT IT READS IS OF BULK AT MOST 1048576: true; the input reads as it did. -/
def cfgLoopsUptoRow : OpenClaim := { program := "ytgcinmhiohlmiaadoor", sum := "2957e6cc4c387fa58234c29dcc0802160924634471bcfc595a48f27601ba921e", func := "modelcheck/modelchecklaw12.CfgLoops", spec := "cfgLoops", unfollowed := true, recurses := true, named := ["modelcheck/inst.rows", "modelcheck/value.names"], plainKeys := false, apart := false, laid := [("modelcheck/value.names", laid_modelcheck_value_names), ("modelcheck/inst.rows", laid_modelcheck_inst_rows)], narrowed := true }
def CfgLoopsUptoSaid : Prop := cfgLoopsUptoRow.holds Tryd.pinned (OpenSpec.upto cfgLoopsSpec)

/-- 'modelchecklaw12.CfgDominators', WHERE WHAT IT READS IS OF BULK AT MOST 1048576: true; the input reads as it did. -/
def cfgDominatorsUptoRow : OpenClaim := { program := "ytgcinmhiohlmiaadoor", sum := "2957e6cc4c387fa58234c29dcc0802160924634471bcfc595a48f27601ba921e", func := "modelcheck/modelchecklaw12.CfgDominators", spec := "cfgDominators", unfollowed := true, recurses := true, named := ["modelcheck/inst.rows", "modelcheck/value.names"], plainKeys := false, apart := false, laid := [("modelcheck/value.names", laid_modelcheck_value_names), ("modelcheck/inst.rows", laid_modelcheck_inst_rows)], narrowed := true }
def CfgDominatorsUptoSaid : Prop := cfgDominatorsUptoRow.holds Tryd.pinned (OpenSpec.upto cfgDominatorsSpec)

/-- 'modelchecklaw12.CfgHeaders', WHERE WHAT IT READS IS OF BULK AT MOST 1048576: true; the input reads as it did. -/
def cfgHeadersUptoRow : OpenClaim := { program := "ytgcinmhiohlmiaadoor", sum := "2957e6cc4c387fa58234c29dcc0802160924634471bcfc595a48f27601ba921e", func := "modelcheck/modelchecklaw12.CfgHeaders", spec := "cfgHeaders", unfollowed := true, recurses := true, named := ["modelcheck/inst.rows", "modelcheck/value.names"], plainKeys := false, apart := false, laid := [("modelcheck/value.names", laid_modelcheck_value_names), ("modelcheck/inst.rows", laid_modelcheck_inst_rows)], narrowed := true }
def CfgHeadersUptoSaid : Prop := cfgHeadersUptoRow.holds Tryd.pinned (OpenSpec.upto cfgHeadersSpec)

/-- 'modelchecklaw12.CfgGraph', WHERE WHAT IT READS IS OF BULK AT MOST 1048576: true; the input reads as it did. -/
def cfgGraphUptoRow : OpenClaim := { program := "ytgcinmhiohlmiaadoor", sum := "2957e6cc4c387fa58234c29dcc0802160924634471bcfc595a48f27601ba921e", func := "modelcheck/modelchecklaw12.CfgGraph", spec := "cfgGraph", unfollowed := true, recurses := true, named := ["modelcheck/inst.rows", "modelcheck/value.names"], plainKeys := false, apart := false, laid := [("modelcheck/value.names", laid_modelcheck_value_names), ("modelcheck/inst.rows", laid_modelcheck_inst_rows)], narrowed := true }
def CfgGraphUptoSaid : Prop := cfgGraphUptoRow.holds Tryd.pinned (OpenSpec.upto cfgGraphSpec)

/-- 'modelchecklaw14.AwaitFinds', WHERE WHAT IT READS IS OF BULK AT MOST 1048576: true; the input reads as it did. -/
def awaitFindsUptoRow : OpenClaim := { program := "ytgcinmhiohlmiaadoor", sum := "2957e6cc4c387fa58234c29dcc0802160924634471bcfc595a48f27601ba921e", func := "modelcheck/modelchecklaw14.AwaitFinds", spec := "awaitFinds", unfollowed := true, recurses := true, named := ["modelcheck/inst.rows", "modelcheck/value.names"], plainKeys := false, apart := false, laid := [("modelcheck/value.names", laid_modelcheck_value_names), ("modelcheck/inst.rows", laid_modelcheck_inst_rows)], narrowed := true }
def AwaitFindsUptoSaid : Prop := awaitFindsUptoRow.holds Tryd.pinned (OpenSpec.upto awaitFindsSpec)

/-- 'modelchecklaw14.AwaitRewrites', WHERE WHAT IT READS IS OF BULK AT MOST 1048576: true; the input reads as it did. -/
def awaitRewritesUptoRow : OpenClaim := { program := "ytgcinmhiohlmiaadoor", sum := "2957e6cc4c387fa58234c29dcc0802160924634471bcfc595a48f27601ba921e", func := "modelcheck/modelchecklaw14.AwaitRewrites", spec := "awaitRewrites", unfollowed := true, recurses := true, named := ["modelcheck/inst.rows", "modelcheck/value.names"], plainKeys := false, apart := false, laid := [("modelcheck/value.names", laid_modelcheck_value_names), ("modelcheck/inst.rows", laid_modelcheck_inst_rows)], narrowed := true }
def AwaitRewritesUptoSaid : Prop := awaitRewritesUptoRow.holds Tryd.pinned (OpenSpec.upto awaitRewritesSpec)

/-- 'modelchecklaw14.AwaitPattern', WHERE WHAT IT READS IS OF BULK AT MOST 1048576: true; the input reads as it did. -/
def awaitPatternUptoRow : OpenClaim := { program := "ytgcinmhiohlmiaadoor", sum := "2957e6cc4c387fa58234c29dcc0802160924634471bcfc595a48f27601ba921e", func := "modelcheck/modelchecklaw14.AwaitPattern", spec := "awaitPattern", unfollowed := true, recurses := true, named := ["modelcheck/inst.rows", "modelcheck/value.names"], plainKeys := false, apart := false, laid := [("modelcheck/value.names", laid_modelcheck_value_names), ("modelcheck/inst.rows", laid_modelcheck_inst_rows)], narrowed := true }
def AwaitPatternUptoSaid : Prop := awaitPatternUptoRow.holds Tryd.pinned (OpenSpec.upto awaitPatternSpec)

/-- 'modelchecklaw14.AwaitOnce', WHERE WHAT IT READS IS OF BULK AT MOST 1048576: true; the input reads as it did. -/
def awaitOnceUptoRow : OpenClaim := { program := "ytgcinmhiohlmiaadoor", sum := "2957e6cc4c387fa58234c29dcc0802160924634471bcfc595a48f27601ba921e", func := "modelcheck/modelchecklaw14.AwaitOnce", spec := "awaitOnce", unfollowed := true, recurses := true, named := ["modelcheck/inst.rows", "modelcheck/value.names"], plainKeys := false, apart := false, laid := [("modelcheck/value.names", laid_modelcheck_value_names), ("modelcheck/inst.rows", laid_modelcheck_inst_rows)], narrowed := true }
def AwaitOnceUptoSaid : Prop := awaitOnceUptoRow.holds Tryd.pinned (OpenSpec.upto awaitOnceSpec)

/-- 'modelchecklaw14.AwaitLocal', WHERE WHAT IT READS IS OF BULK AT MOST 1048576: true; the input reads as it did. -/
def awaitLocalUptoRow : OpenClaim := { program := "ytgcinmhiohlmiaadoor", sum := "2957e6cc4c387fa58234c29dcc0802160924634471bcfc595a48f27601ba921e", func := "modelcheck/modelchecklaw14.AwaitLocal", spec := "awaitLocal", unfollowed := true, recurses := true, named := ["modelcheck/inst.rows", "modelcheck/value.names"], plainKeys := false, apart := false, laid := [("modelcheck/value.names", laid_modelcheck_value_names), ("modelcheck/inst.rows", laid_modelcheck_inst_rows)], narrowed := true }
def AwaitLocalUptoSaid : Prop := awaitLocalUptoRow.holds Tryd.pinned (OpenSpec.upto awaitLocalSpec)

end Rows
end Go.Proofs.YtgcinmhiohlmiaaDoor
