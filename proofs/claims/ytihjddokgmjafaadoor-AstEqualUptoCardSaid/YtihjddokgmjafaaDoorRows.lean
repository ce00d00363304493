/-
  NARROWER THAN 'FOR EVERY INPUT', by the rows' own cells (each row's printed sentence says how): SimplifyFolds: laid · SimplifyJumps: laid · SimplifyRuns: laid · SimplifyTwice: laid · AstCheck: loops, laid · AstExpr: loops, laid · AstShape: loops, laid · AstEqual: loops, laid · AstLocals: loops, laid · AstBlocks: loops, laid · SimplifyPrograms: laid · SimplifyIdempotent: laid.
  DERIVED. THE GIVEN ROWS OF THIS SEAT. 12 by the template 'for every input the law returns true; each argument reads behind the call as it read before'; 0 by the template 'total and deterministic' (their statements: YtihjddokgmjafaaDoorTotals.lean).
  GIVEN WITH THE SEED: the statements are not yours to turn. If you find one false, say at which input.
  Laid BY PROGRAM, IN A SANDBOX (cutbox-rows.mjs): the forced cells as the released guide's own fill.sh prints them over the translation 85b4c93eea01d0b2… (all of the seat's roots in one cut). By AI agents, Wed Nov 11 2026. No macro, syntax, notation, axiom, sorry.
-/
import Derived.Test.YtihjddokgmjafaaDoorChecked
import GoSem.Claim
import GoSem.ClaimJoined
import GoSem.ClaimMapViews
import Derived.JoinedTies
import Derived.KernelRfl
namespace Go.Proofs.YtihjddokgmjafaaDoor
/- THE CELL 'sum', in the pinned program and in every row, IS THE sha256 OF THE DUMP (.gsa) THAT YtihjddokgmjafaaDoorProg.lean LOADS. Nothing in Lean hashes anything: it is a label: what it is worth is what the hold of that sum in a sandbox is worth. -/
noncomputable def Tryd.pinned : Pinned := { name := "ytihjddokgmjafaadoor", sum := "85b4c93eea01d0b25961ffd87e21f625dae8eec21a4ca6c93944522c8fd99440", checked := Tryd.checked }
namespace Rows
def none {H : Type} : Left H := { results := [], args := [] }

/- WHAT THE LISTED PACKAGE-LEVEL VARIABLES READ AS WHEN THE CALL BEGINS. Each datum BY PROGRAM (the guide's laid-datum.mjs) off the statement by which the dump's own 'gosem.cut.vars' lays the variable. In a bare row this is a premise. The card (YtihjddokgmjafaaDoorCards.lean) ties it to the program's text. -/
def laid_modelcheck_value_names {H : Type} : DataW H := .agg [.lit (.string [97, 100, 100]), .lit (.string [115, 117, 98]), .lit (.string [109, 117, 108]), .lit (.string [97, 110, 100]), .lit (.string [111, 114]), .lit (.string [120, 111, 114]), .lit (.string [101, 113]), .lit (.string [110, 101]), .lit (.string [108, 116]), .lit (.string [108, 101])]
def laid_modelcheck_inst_rows {H : Type} : DataW H := .agg [.agg [.lit (.string [99, 111, 110, 115, 116]), .agg [.lit (.bool true), .lit (.bool false), .lit (.bool false), .lit (.bool false), .lit (.bool true), .lit (.bool false), .lit (.bool false)]], .agg [.lit (.string [99, 111, 112, 121]), .agg [.lit (.bool true), .lit (.bool true), .lit (.bool false), .lit (.bool false), .lit (.bool false), .lit (.bool false), .lit (.bool false)]], .agg [.lit (.string [99, 97, 108, 99]), .agg [.lit (.bool true), .lit (.bool true), .lit (.bool true), .lit (.bool false), .lit (.bool false), .lit (.bool true), .lit (.bool false)]], .agg [.lit (.string [106, 117, 109, 112]), .agg [.lit (.bool false), .lit (.bool false), .lit (.bool false), .lit (.bool false), .lit (.bool true), .lit (.bool false), .lit (.bool false)]], .agg [.lit (.string [98, 114, 97, 110, 99, 104]), .agg [.lit (.bool false), .lit (.bool true), .lit (.bool false), .lit (.bool false), .lit (.bool true), .lit (.bool false), .lit (.bool false)]], .agg [.lit (.string [97, 115, 115, 101, 114, 116]), .agg [.lit (.bool false), .lit (.bool true), .lit (.bool false), .lit (.bool false), .lit (.bool false), .lit (.bool false), .lit (.bool false)]], .agg [.lit (.string [115, 116, 111, 112]), .agg [.lit (.bool false), .lit (.bool false), .lit (.bool false), .lit (.bool false), .lit (.bool false), .lit (.bool false), .lit (.bool false)]], .agg [.lit (.string [108, 111, 97, 100]), .agg [.lit (.bool true), .lit (.bool false), .lit (.bool false), .lit (.bool true), .lit (.bool false), .lit (.bool false), .lit (.bool true)]], .agg [.lit (.string [115, 116, 111, 114, 101]), .agg [.lit (.bool false), .lit (.bool true), .lit (.bool false), .lit (.bool true), .lit (.bool false), .lit (.bool false), .lit (.bool true)]], .agg [.lit (.string [115, 119, 97, 112]), .agg [.lit (.bool true), .lit (.bool true), .lit (.bool false), .lit (.bool true), .lit (.bool false), .lit (.bool false), .lit (.bool true)]], .agg [.lit (.string [102, 101, 116, 99, 104, 97, 100, 100]), .agg [.lit (.bool true), .lit (.bool true), .lit (.bool false), .lit (.bool true), .lit (.bool false), .lit (.bool false), .lit (.bool true)]], .agg [.lit (.string [99, 97, 115]), .agg [.lit (.bool true), .lit (.bool true), .lit (.bool true), .lit (.bool true), .lit (.bool false), .lit (.bool false), .lit (.bool true)]], .agg [.lit (.string [102, 101, 110, 99, 101]), .agg [.lit (.bool false), .lit (.bool false), .lit (.bool false), .lit (.bool false), .lit (.bool false), .lit (.bool false), .lit (.bool false)]], .agg [.lit (.string [97, 119, 97, 105, 116]), .agg [.lit (.bool true), .lit (.bool true), .lit (.bool false), .lit (.bool true), .lit (.bool false), .lit (.bool true), .lit (.bool true)]], .agg [.lit (.string [108, 111, 99, 107]), .agg [.lit (.bool false), .lit (.bool false), .lit (.bool false), .lit (.bool true), .lit (.bool false), .lit (.bool false), .lit (.bool false)]], .agg [.lit (.string [117, 110, 108, 111, 99, 107]), .agg [.lit (.bool false), .lit (.bool false), .lit (.bool false), .lit (.bool true), .lit (.bool false), .lit (.bool false), .lit (.bool false)]], .agg [.lit (.string [116, 114, 121, 108, 111, 99, 107]), .agg [.lit (.bool true), .lit (.bool false), .lit (.bool false), .lit (.bool true), .lit (.bool false), .lit (.bool false), .lit (.bool false)]], .agg [.lit (.string [119, 97, 105, 116]), .agg [.lit (.bool false), .lit (.bool false), .lit (.bool false), .lit (.bool true), .lit (.bool true), .lit (.bool false), .lit (.bool false)]], .agg [.lit (.string [115, 105, 103, 110, 97, 108]), .agg [.lit (.bool false), .lit (.bool false), .lit (.bool false), .lit (.bool true), .lit (.bool false), .lit (.bool false), .lit (.bool false)]], .agg [.lit (.string [98, 114, 111, 97, 100, 99, 97, 115, 116]), .agg [.lit (.bool false), .lit (.bool false), .lit (.bool false), .lit (.bool true), .lit (.bool false), .lit (.bool false), .lit (.bool false)]], .agg [.lit (.string [115, 112, 97, 119, 110]), .agg [.lit (.bool true), .lit (.bool true), .lit (.bool false), .lit (.bool true), .lit (.bool false), .lit (.bool false), .lit (.bool false)]], .agg [.lit (.string [106, 111, 105, 110]), .agg [.lit (.bool false), .lit (.bool true), .lit (.bool false), .lit (.bool false), .lit (.bool false), .lit (.bool false), .lit (.bool false)]]]
def laid_modelcheck_ast_keywords {H : Type} : DataW H := .agg [.lit (.string [118, 97, 114]), .lit (.string [109, 117, 116, 101, 120]), .lit (.string [99, 111, 110, 100]), .lit (.string [112, 114, 111, 99]), .lit (.string [116, 104, 114, 101, 97, 100]), .lit (.string [108, 111, 97, 100]), .lit (.string [115, 116, 111, 114, 101]), .lit (.string [115, 119, 97, 112]), .lit (.string [102, 101, 116, 99, 104, 97, 100, 100]), .lit (.string [99, 97, 115]), .lit (.string [102, 101, 110, 99, 101]), .lit (.string [97, 119, 97, 105, 116]), .lit (.string [108, 111, 99, 107]), .lit (.string [117, 110, 108, 111, 99, 107]), .lit (.string [116, 114, 121, 108, 111, 99, 107]), .lit (.string [119, 97, 105, 116]), .lit (.string [115, 105, 103, 110, 97, 108]), .lit (.string [98, 114, 111, 97, 100, 99, 97, 115, 116]), .lit (.string [115, 112, 97, 119, 110]), .lit (.string [106, 111, 105, 110]), .lit (.string [97, 115, 115, 101, 114, 116]), .lit (.string [105, 102]), .lit (.string [101, 108, 115, 101]), .lit (.string [119, 104, 105, 108, 101]), .lit (.string [114, 101, 116, 117, 114, 110]), .lit (.string [112, 108, 97, 105, 110]), .lit (.string [114, 101, 108, 97, 120, 101, 100]), .lit (.string [114, 101, 108, 97, 99, 113]), .lit (.string [97, 100, 100]), .lit (.string [115, 117, 98]), .lit (.string [109, 117, 108]), .lit (.string [97, 110, 100]), .lit (.string [111, 114]), .lit (.string [120, 111, 114]), .lit (.string [101, 113]), .lit (.string [110, 101]), .lit (.string [108, 116]), .lit (.string [108, 101])]

/-- 'modelchecklaw15.SimplifyFolds': WHATEVER THE INPUT: true; the input reads as it did. -/
def simplifyFoldsSpec : ChangeSpec := { name := "simplifyFolds", fn := fun _ => fun
  | [d] => { results := [.lit (.bool true)], args := [d] }
  | _ => none }
def simplifyFoldsRow : OpenClaim := { program := "ytihjddokgmjafaadoor", sum := "85b4c93eea01d0b25961ffd87e21f625dae8eec21a4ca6c93944522c8fd99440", func := "modelcheck/modelchecklaw15.SimplifyFolds", spec := "simplifyFolds", unfollowed := true, recurses := true, named := ["modelcheck/inst.rows", "modelcheck/value.names"], apart := false, laid := [("modelcheck/value.names", laid_modelcheck_value_names), ("modelcheck/inst.rows", laid_modelcheck_inst_rows)] }
def SimplifyFoldsSaid : Prop := simplifyFoldsRow.holds Tryd.pinned (OpenSpec.ofChange simplifyFoldsSpec)

/-- ITS FALSE NEIGHBOUR: 'it returns false'. Refute it at one input. -/
def simplifyFoldsWrong : ChangeSpec := { name := "simplifyFolds", fn := fun _ => fun
  | [d] => { results := [.lit (.bool false)], args := [d] }
  | _ => none }
def SimplifyFoldsWrongFalsely : Prop := simplifyFoldsRow.holds Tryd.pinned (OpenSpec.ofChange simplifyFoldsWrong)

/-- 'modelchecklaw15.SimplifyJumps': WHATEVER THE INPUT: true; the input reads as it did. -/
def simplifyJumpsSpec : ChangeSpec := { name := "simplifyJumps", fn := fun _ => fun
  | [d] => { results := [.lit (.bool true)], args := [d] }
  | _ => none }
def simplifyJumpsRow : OpenClaim := { program := "ytihjddokgmjafaadoor", sum := "85b4c93eea01d0b25961ffd87e21f625dae8eec21a4ca6c93944522c8fd99440", func := "modelcheck/modelchecklaw15.SimplifyJumps", spec := "simplifyJumps", unfollowed := true, recurses := true, named := ["modelcheck/inst.rows", "modelcheck/value.names"], apart := false, laid := [("modelcheck/value.names", laid_modelcheck_value_names), ("modelcheck/inst.rows", laid_modelcheck_inst_rows)] }
def SimplifyJumpsSaid : Prop := simplifyJumpsRow.holds Tryd.pinned (OpenSpec.ofChange simplifyJumpsSpec)

/-- ITS FALSE NEIGHBOUR: 'it returns false'. Refute it at one input. -/
def simplifyJumpsWrong : ChangeSpec := { name := "simplifyJumps", fn := fun _ => fun
  | [d] => { results := [.lit (.bool false)], args := [d] }
  | _ => none }
def SimplifyJumpsWrongFalsely : Prop := simplifyJumpsRow.holds Tryd.pinned (OpenSpec.ofChange simplifyJumpsWrong)

/-- 'modelchecklaw15.SimplifyRuns': WHATEVER THE INPUT: true; the input reads as it did. -/
def simplifyRunsSpec : ChangeSpec := { name := "simplifyRuns", fn := fun _ => fun
  | [d1, d2, d3] => { results := [.lit (.bool true)], args := [d1, d2, d3] }
  | _ => none }
def simplifyRunsRow : OpenClaim := { program := "ytihjddokgmjafaadoor", sum := "85b4c93eea01d0b25961ffd87e21f625dae8eec21a4ca6c93944522c8fd99440", func := "modelcheck/modelchecklaw15.SimplifyRuns", spec := "simplifyRuns", unfollowed := true, recurses := true, named := ["modelcheck/inst.rows", "modelcheck/value.names"], apart := false, laid := [("modelcheck/value.names", laid_modelcheck_value_names), ("modelcheck/inst.rows", laid_modelcheck_inst_rows)] }
def SimplifyRunsSaid : Prop := simplifyRunsRow.holds Tryd.pinned (OpenSpec.ofChange simplifyRunsSpec)

/-- ITS FALSE NEIGHBOUR: 'it returns false'. Refute it at one input. -/
def simplifyRunsWrong : ChangeSpec := { name := "simplifyRuns", fn := fun _ => fun
  | [d1, d2, d3] => { results := [.lit (.bool false)], args := [d1, d2, d3] }
  | _ => none }
def SimplifyRunsWrongFalsely : Prop := simplifyRunsRow.holds Tryd.pinned (OpenSpec.ofChange simplifyRunsWrong)

/-- 'modelchecklaw15.SimplifyTwice': WHATEVER THE INPUT: true; the input reads as it did. -/
def simplifyTwiceSpec : ChangeSpec := { name := "simplifyTwice", fn := fun _ => fun
  | [d] => { results := [.lit (.bool true)], args := [d] }
  | _ => none }
def simplifyTwiceRow : OpenClaim := { program := "ytihjddokgmjafaadoor", sum := "85b4c93eea01d0b25961ffd87e21f625dae8eec21a4ca6c93944522c8fd99440", func := "modelcheck/modelchecklaw15.SimplifyTwice", spec := "simplifyTwice", unfollowed := true, recurses := true, named := ["modelcheck/inst.rows", "modelcheck/value.names"], apart := false, laid := [("modelcheck/value.names", laid_modelcheck_value_names), ("modelcheck/inst.rows", laid_modelcheck_inst_rows)] }
def SimplifyTwiceSaid : Prop := simplifyTwiceRow.holds Tryd.pinned (OpenSpec.ofChange simplifyTwiceSpec)

/-- ITS FALSE NEIGHBOUR: 'it returns false'. Refute it at one input. -/
def simplifyTwiceWrong : ChangeSpec := { name := "simplifyTwice", fn := fun _ => fun
  | [d] => { results := [.lit (.bool false)], args := [d] }
  | _ => none }
def SimplifyTwiceWrongFalsely : Prop := simplifyTwiceRow.holds Tryd.pinned (OpenSpec.ofChange simplifyTwiceWrong)

/-- 'modelchecklaw16.AstCheck': WHATEVER THE INPUT: true; the input reads as it did. -/
def astCheckSpec : ChangeSpec := { name := "astCheck", fn := fun _ => fun
  | [d] => { results := [.lit (.bool true)], args := [d] }
  | _ => none }
def astCheckRow : OpenClaim := { program := "ytihjddokgmjafaadoor", sum := "85b4c93eea01d0b25961ffd87e21f625dae8eec21a4ca6c93944522c8fd99440", func := "modelcheck/modelchecklaw16.AstCheck", spec := "astCheck", unfollowed := true, recurses := true, named := ["modelcheck/ast.keywords"], loops := true, apart := false, laid := [("modelcheck/ast.keywords", laid_modelcheck_ast_keywords)] }
def AstCheckSaid : Prop := astCheckRow.holds Tryd.pinned (OpenSpec.ofChange astCheckSpec)

/-- ITS FALSE NEIGHBOUR: 'it returns false'. Refute it at one input. -/
def astCheckWrong : ChangeSpec := { name := "astCheck", fn := fun _ => fun
  | [d] => { results := [.lit (.bool false)], args := [d] }
  | _ => none }
def AstCheckWrongFalsely : Prop := astCheckRow.holds Tryd.pinned (OpenSpec.ofChange astCheckWrong)

/-- 'modelchecklaw16.AstExpr': WHATEVER THE INPUT: true; the input reads as it did. -/
def astExprSpec : ChangeSpec := { name := "astExpr", fn := fun _ => fun
  | [d1, d2] => { results := [.lit (.bool true)], args := [d1, d2] }
  | _ => none }
def astExprRow : OpenClaim := { program := "ytihjddokgmjafaadoor", sum := "85b4c93eea01d0b25961ffd87e21f625dae8eec21a4ca6c93944522c8fd99440", func := "modelcheck/modelchecklaw16.AstExpr", spec := "astExpr", unfollowed := true, recurses := true, named := ["modelcheck/ast.keywords"], loops := true, apart := false, laid := [("modelcheck/ast.keywords", laid_modelcheck_ast_keywords)] }
def AstExprSaid : Prop := astExprRow.holds Tryd.pinned (OpenSpec.ofChange astExprSpec)

/-- ITS FALSE NEIGHBOUR: 'it returns false'. Refute it at one input. -/
def astExprWrong : ChangeSpec := { name := "astExpr", fn := fun _ => fun
  | [d1, d2] => { results := [.lit (.bool false)], args := [d1, d2] }
  | _ => none }
def AstExprWrongFalsely : Prop := astExprRow.holds Tryd.pinned (OpenSpec.ofChange astExprWrong)

/-- 'modelchecklaw16.AstShape': WHATEVER THE INPUT: true; the input reads as it did. -/
def astShapeSpec : ChangeSpec := { name := "astShape", fn := fun _ => fun
  | [d] => { results := [.lit (.bool true)], args := [d] }
  | _ => none }
def astShapeRow : OpenClaim := { program := "ytihjddokgmjafaadoor", sum := "85b4c93eea01d0b25961ffd87e21f625dae8eec21a4ca6c93944522c8fd99440", func := "modelcheck/modelchecklaw16.AstShape", spec := "astShape", unfollowed := true, recurses := true, named := ["modelcheck/ast.keywords"], loops := true, apart := false, laid := [("modelcheck/ast.keywords", laid_modelcheck_ast_keywords)] }
def AstShapeSaid : Prop := astShapeRow.holds Tryd.pinned (OpenSpec.ofChange astShapeSpec)

/-- ITS FALSE NEIGHBOUR: 'it returns false'. Refute it at one input. -/
def astShapeWrong : ChangeSpec := { name := "astShape", fn := fun _ => fun
  | [d] => { results := [.lit (.bool false)], args := [d] }
  | _ => none }
def AstShapeWrongFalsely : Prop := astShapeRow.holds Tryd.pinned (OpenSpec.ofChange astShapeWrong)

/-- 'modelchecklaw16.AstEqual': WHATEVER THE INPUT: true; the input reads as it did. -/
def astEqualSpec : ChangeSpec := { name := "astEqual", fn := fun _ => fun
  | [d1, d2] => { results := [.lit (.bool true)], args := [d1, d2] }
  | _ => none }
def astEqualRow : OpenClaim := { program := "ytihjddokgmjafaadoor", sum := "85b4c93eea01d0b25961ffd87e21f625dae8eec21a4ca6c93944522c8fd99440", func := "modelcheck/modelchecklaw16.AstEqual", spec := "astEqual", unfollowed := true, recurses := true, named := ["modelcheck/ast.keywords"], loops := true, apart := false, laid := [("modelcheck/ast.keywords", laid_modelcheck_ast_keywords)] }
def AstEqualSaid : Prop := astEqualRow.holds Tryd.pinned (OpenSpec.ofChange astEqualSpec)

/-- ITS FALSE NEIGHBOUR: 'it returns false'. Refute it at one input. -/
def astEqualWrong : ChangeSpec := { name := "astEqual", fn := fun _ => fun
  | [d1, d2] => { results := [.lit (.bool false)], args := [d1, d2] }
  | _ => none }
def AstEqualWrongFalsely : Prop := astEqualRow.holds Tryd.pinned (OpenSpec.ofChange astEqualWrong)

/-- 'modelchecklaw16.AstLocals': WHATEVER THE INPUT: true; the input reads as it did. -/
def astLocalsSpec : ChangeSpec := { name := "astLocals", fn := fun _ => fun
  | [d] => { results := [.lit (.bool true)], args := [d] }
  | _ => none }
def astLocalsRow : OpenClaim := { program := "ytihjddokgmjafaadoor", sum := "85b4c93eea01d0b25961ffd87e21f625dae8eec21a4ca6c93944522c8fd99440", func := "modelcheck/modelchecklaw16.AstLocals", spec := "astLocals", unfollowed := true, recurses := true, named := ["modelcheck/ast.keywords"], loops := true, apart := false, laid := [("modelcheck/ast.keywords", laid_modelcheck_ast_keywords)] }
def AstLocalsSaid : Prop := astLocalsRow.holds Tryd.pinned (OpenSpec.ofChange astLocalsSpec)

/-- ITS FALSE NEIGHBOUR: 'it returns false'. Refute it at one input. -/
def astLocalsWrong : ChangeSpec := { name := "astLocals", fn := fun _ => fun
  | [d] => { results := [.lit (.bool false)], args := [d] }
  | _ => none }
def AstLocalsWrongFalsely : Prop := astLocalsRow.holds Tryd.pinned (OpenSpec.ofChange astLocalsWrong)

/-- 'modelchecklaw16.AstBlocks': WHATEVER THE INPUT: true; the input reads as it did. -/
def astBlocksSpec : ChangeSpec := { name := "astBlocks", fn := fun _ => fun
  | [d1, d2] => { results := [.lit (.bool true)], args := [d1, d2] }
  | _ => none }
def astBlocksRow : OpenClaim := { program := "ytihjddokgmjafaadoor", sum := "85b4c93eea01d0b25961ffd87e21f625dae8eec21a4ca6c93944522c8fd99440", func := "modelcheck/modelchecklaw16.AstBlocks", spec := "astBlocks", unfollowed := true, recurses := true, named := ["modelcheck/ast.keywords"], loops := true, apart := false, laid := [("modelcheck/ast.keywords", laid_modelcheck_ast_keywords)] }
def AstBlocksSaid : Prop := astBlocksRow.holds Tryd.pinned (OpenSpec.ofChange astBlocksSpec)

/-- ITS FALSE NEIGHBOUR: 'it returns false'. Refute it at one input. -/
def astBlocksWrong : ChangeSpec := { name := "astBlocks", fn := fun _ => fun
  | [d1, d2] => { results := [.lit (.bool false)], args := [d1, d2] }
  | _ => none }
def AstBlocksWrongFalsely : Prop := astBlocksRow.holds Tryd.pinned (OpenSpec.ofChange astBlocksWrong)

/-- 'modelchecklaw15.SimplifyPrograms': WHATEVER THE INPUT: true; the input reads as it did. -/
def simplifyProgramsSpec : ChangeSpec := { name := "simplifyPrograms", fn := fun _ => fun
  | [d] => { results := [.lit (.bool true)], args := [d] }
  | _ => none }
def simplifyProgramsRow : OpenClaim := { program := "ytihjddokgmjafaadoor", sum := "85b4c93eea01d0b25961ffd87e21f625dae8eec21a4ca6c93944522c8fd99440", func := "modelcheck/modelchecklaw15.SimplifyPrograms", spec := "simplifyPrograms", unfollowed := true, recurses := true, named := ["modelcheck/inst.rows", "modelcheck/value.names"], apart := false, laid := [("modelcheck/value.names", laid_modelcheck_value_names), ("modelcheck/inst.rows", laid_modelcheck_inst_rows)] }
def SimplifyProgramsSaid : Prop := simplifyProgramsRow.holds Tryd.pinned (OpenSpec.ofChange simplifyProgramsSpec)

/-- ITS FALSE NEIGHBOUR: 'it returns false'. Refute it at one input. -/
def simplifyProgramsWrong : ChangeSpec := { name := "simplifyPrograms", fn := fun _ => fun
  | [d] => { results := [.lit (.bool false)], args := [d] }
  | _ => none }
def SimplifyProgramsWrongFalsely : Prop := simplifyProgramsRow.holds Tryd.pinned (OpenSpec.ofChange simplifyProgramsWrong)

/-- 'modelchecklaw15.SimplifyIdempotent': WHATEVER THE INPUT: true; the input reads as it did. -/
def simplifyIdempotentSpec : ChangeSpec := { name := "simplifyIdempotent", fn := fun _ => fun
  | [d] => { results := [.lit (.bool true)], args := [d] }
  | _ => none }
def simplifyIdempotentRow : OpenClaim := { program := "ytihjddokgmjafaadoor", sum := "85b4c93eea01d0b25961ffd87e21f625dae8eec21a4ca6c93944522c8fd99440", func := "modelcheck/modelchecklaw15.SimplifyIdempotent", spec := "simplifyIdempotent", unfollowed := true, recurses := true, named := ["modelcheck/inst.rows", "modelcheck/value.names"], apart := false, laid := [("modelcheck/value.names", laid_modelcheck_value_names), ("modelcheck/inst.rows", laid_modelcheck_inst_rows)] }
def SimplifyIdempotentSaid : Prop := simplifyIdempotentRow.holds Tryd.pinned (OpenSpec.ofChange simplifyIdempotentSpec)

/-- ITS FALSE NEIGHBOUR: 'it returns false'. Refute it at one input. -/
def simplifyIdempotentWrong : ChangeSpec := { name := "simplifyIdempotent", fn := fun _ => fun
  | [d] => { results := [.lit (.bool false)], args := [d] }
  | _ => none }
def SimplifyIdempotentWrongFalsely : Prop := simplifyIdempotentRow.holds Tryd.pinned (OpenSpec.ofChange simplifyIdempotentWrong)

/- THE SECOND FORM. 'bulk': how many values and letters a reading holds, each counted each time it is reached (what is shared counts as often as it is met; a slice's spare places count too). A statement '..UptoSaid' is the law's where the arguments, and the package variables that the reading takes, are together of bulk at most 1048576: NARROWER than '..Said'. Prove '..Said' where nothing that the law and all that it calls make is longer than what came in: it says more and counts as full. Else prove '..UptoSaid'. A law counts once. -/
mutual
def uptoBulk {H : Type} : DataW H → Nat
  | .lit (.string bytes) => bytes.length + 1
  | .lit _ => 1
  | .nil => 1
  | .ptr d => uptoBulk d + 1
  | .slice elems spare => uptoBulkAll elems + uptoBulkAll spare + 1
  | .agg parts => uptoBulkAll parts + 1
  | .iface _ d => uptoBulk d + 1
  | .map entries => uptoBulkEntries entries + 1
  | .held _ => 1
def uptoBulkAll {H : Type} : List (DataW H) → Nat
  | [] => 0
  | d :: r => uptoBulk d + uptoBulkAll r
def uptoBulkEntries {H : Type} : List (Lit × DataW H) → Nat
  | [] => 0
  | x :: r => uptoBulkEntry x + uptoBulkEntries r
def uptoBulkEntry {H : Type} : Lit × DataW H → Nat
  | (.string bytes, d) => bytes.length + uptoBulk d + 1
  | (_, d) => uptoBulk d + 1
 end
def uptoSmall : (H : Type) → List (DataW H) → Bool := fun _ ds => decide (uptoBulkAll ds ≤ 1048576)
def OpenSpec.upto (s : _root_.Go.ChangeSpec) : _root_.Go.OpenSpec := { _root_.Go.OpenSpec.ofChange s with cond := some uptoSmall }

/-- 'modelchecklaw15.SimplifyFolds', WHERE WHAT IT READS IS OF BULK AT MOST 1048576: true; the input reads as it did. -/
def simplifyFoldsUptoRow : OpenClaim := { program := "ytihjddokgmjafaadoor", sum := "85b4c93eea01d0b25961ffd87e21f625dae8eec21a4ca6c93944522c8fd99440", func := "modelcheck/modelchecklaw15.SimplifyFolds", spec := "simplifyFolds", unfollowed := true, recurses := true, named := ["modelcheck/inst.rows", "modelcheck/value.names"], apart := false, laid := [("modelcheck/value.names", laid_modelcheck_value_names), ("modelcheck/inst.rows", laid_modelcheck_inst_rows)], narrowed := true }
def SimplifyFoldsUptoSaid : Prop := simplifyFoldsUptoRow.holds Tryd.pinned (OpenSpec.upto simplifyFoldsSpec)

/-- 'modelchecklaw15.SimplifyJumps', WHERE WHAT IT READS IS OF BULK AT MOST 1048576: true; the input reads as it did. -/
def simplifyJumpsUptoRow : OpenClaim := { program := "ytihjddokgmjafaadoor", sum := "85b4c93eea01d0b25961ffd87e21f625dae8eec21a4ca6c93944522c8fd99440", func := "modelcheck/modelchecklaw15.SimplifyJumps", spec := "simplifyJumps", unfollowed := true, recurses := true, named := ["modelcheck/inst.rows", "modelcheck/value.names"], apart := false, laid := [("modelcheck/value.names", laid_modelcheck_value_names), ("modelcheck/inst.rows", laid_modelcheck_inst_rows)], narrowed := true }
def SimplifyJumpsUptoSaid : Prop := simplifyJumpsUptoRow.holds Tryd.pinned (OpenSpec.upto simplifyJumpsSpec)

/-- 'modelchecklaw15.SimplifyRuns', WHERE WHAT IT READS IS OF BULK AT MOST 1048576: true; the input reads as it did. -/
def simplifyRunsUptoRow : OpenClaim := { program := "ytihjddokgmjafaadoor", sum := "85b4c93eea01d0b25961ffd87e21f625dae8eec21a4ca6c93944522c8fd99440", func := "modelcheck/modelchecklaw15.SimplifyRuns", spec := "simplifyRuns", unfollowed := true, recurses := true, named := ["modelcheck/inst.rows", "modelcheck/value.names"], apart := false, laid := [("modelcheck/value.names", laid_modelcheck_value_names), ("modelcheck/inst.rows", laid_modelcheck_inst_rows)], narrowed := true }
def SimplifyRunsUptoSaid : Prop := simplifyRunsUptoRow.holds Tryd.pinned (OpenSpec.upto simplifyRunsSpec)

/-- 'modelchecklaw15.SimplifyTwice', WHERE WHAT IT READS IS OF BULK AT MOST 1048576: true; the input reads as it did. -/
def simplifyTwiceUptoRow : OpenClaim := { program := "ytihjddokgmjafaadoor", sum := "85b4c93eea01d0b25961ffd87e21f625dae8eec21a4ca6c93944522c8fd99440", func := "modelcheck/modelchecklaw15.SimplifyTwice", spec := "simplifyTwice", unfollowed := true, recurses := true, named := ["modelcheck/inst.rows", "modelcheck/value.names"], apart := false, laid := [("modelcheck/value.names", laid_modelcheck_value_names), ("modelcheck/inst.rows", laid_modelcheck_inst_rows)], narrowed := true }
def SimplifyTwiceUptoSaid : Prop := simplifyTwiceUptoRow.holds Tryd.pinned (OpenSpec.upto simplifyTwiceSpec)

/-- 'modelchecklaw16.AstCheck', WHERE WHAT IT READS IS OF BULK AT MOST 1048576: true; the input reads as it did. -/
def astCheckUptoRow : OpenClaim := { program := "ytihjddokgmjafaadoor", sum := "85b4c93eea01d0b25961ffd87e21f625dae8eec21a4ca6c93944522c8fd99440", func := "modelcheck/modelchecklaw16.AstCheck", spec := "astCheck", unfollowed := true, recurses := true, named := ["modelcheck/ast.keywords"], loops := true, apart := false, laid := [("modelcheck/ast.keywords", laid_modelcheck_ast_keywords)], narrowed := true }
def AstCheckUptoSaid : Prop := astCheckUptoRow.holds Tryd.pinned (OpenSpec.upto astCheckSpec)

/-- 'modelchecklaw16.AstExpr', WHERE WHAT IT READS IS OF BULK AT MOST 1048576: true; the input reads as it did. -/
def astExprUptoRow : OpenClaim := { program := "ytihjddokgmjafaadoor", sum := "85b4c93eea01d0b25961ffd87e21f625dae8eec21a4ca6c93944522c8fd99440", func := "modelcheck/modelchecklaw16.AstExpr", spec := "astExpr", unfollowed := true, recurses := true, named := ["modelcheck/ast.keywords"], loops := true, apart := false, laid := [("modelcheck/ast.keywords", laid_modelcheck_ast_keywords)], narrowed := true }
def AstExprUptoSaid : Prop := astExprUptoRow.holds Tryd.pinned (OpenSpec.upto astExprSpec)

/-- 'modelchecklaw16.AstShape', WHERE WHAT IT READS IS OF BULK AT MOST 1048576: true; the input reads as it did. -/
def astShapeUptoRow : OpenClaim := { program := "ytihjddokgmjafaadoor", sum := "85b4c93eea01d0b25961ffd87e21f625dae8eec21a4ca6c93944522c8fd99440", func := "modelcheck/modelchecklaw16.AstShape", spec := "astShape", unfollowed := true, recurses := true, named := ["modelcheck/ast.keywords"], loops := true, apart := false, laid := [("modelcheck/ast.keywords", laid_modelcheck_ast_keywords)], narrowed := true }
def AstShapeUptoSaid : Prop := astShapeUptoRow.holds Tryd.pinned (OpenSpec.upto astShapeSpec)

/-- 'modelchecklaw16.AstEqual', WHERE WHAT IT READS IS OF BULK AT MOST 1048576: true; the input reads as it did. -/
def astEqualUptoRow : OpenClaim := { program := "ytihjddokgmjafaadoor", sum := "85b4c93eea01d0b25961ffd87e21f625dae8eec21a4ca6c93944522c8fd99440", func := "modelcheck/modelchecklaw16.AstEqual", spec := "astEqual", unfollowed := true, recurses := true, named := ["modelcheck/ast.keywords"], loops := true, apart := false, laid := [("modelcheck/ast.keywords", laid_modelcheck_ast_keywords)], narrowed := true }
def AstEqualUptoSaid : Prop := astEqualUptoRow.holds Tryd.pinned (OpenSpec.upto astEqualSpec)

/-- 'modelchecklaw16.AstLocals', WHERE WHAT IT READS IS OF BULK AT MOST 1048576: true; the input reads as it did. -/
def astLocalsUptoRow : OpenClaim := { program := "ytihjddokgmjafaadoor", sum := "85b4c93eea01d0b25961ffd87e21f625dae8eec21a4ca6c93944522c8fd99440", func := "modelcheck/modelchecklaw16.AstLocals", spec := "astLocals", unfollowed := true, recurses := true, named := ["modelcheck/ast.keywords"], loops := true, apart := false, laid := [("modelcheck/ast.keywords", laid_modelcheck_ast_keywords)], narrowed := true }
def AstLocalsUptoSaid : Prop := astLocalsUptoRow.holds Tryd.pinned (OpenSpec.upto astLocalsSpec)

/-- 'modelchecklaw16.AstBlocks', WHERE WHAT IT READS IS OF BULK AT MOST 1048576: true; the input reads as it did. -/
def astBlocksUptoRow : OpenClaim := { program := "ytihjddokgmjafaadoor", sum := "85b4c93eea01d0b25961ffd87e21f625dae8eec21a4ca6c93944522c8fd99440", func := "modelcheck/modelchecklaw16.AstBlocks", spec := "astBlocks", unfollowed := true, recurses := true, named := ["modelcheck/ast.keywords"], loops := true, apart := false, laid := [("modelcheck/ast.keywords", laid_modelcheck_ast_keywords)], narrowed := true }
def AstBlocksUptoSaid : Prop := astBlocksUptoRow.holds Tryd.pinned (OpenSpec.upto astBlocksSpec)

/-- 'modelchecklaw15.SimplifyPrograms', WHERE WHAT IT READS IS OF BULK AT MOST 1048576: true; the input reads as it did. -/
def simplifyProgramsUptoRow : OpenClaim := { program := "ytihjddokgmjafaadoor", sum := "85b4c93eea01d0b25961ffd87e21f625dae8eec21a4ca6c93944522c8fd99440", func := "modelcheck/modelchecklaw15.SimplifyPrograms", spec := "simplifyPrograms", unfollowed := true, recurses := true, named := ["modelcheck/inst.rows", "modelcheck/value.names"], apart := false, laid := [("modelcheck/value.names", laid_modelcheck_value_names), ("modelcheck/inst.rows", laid_modelcheck_inst_rows)], narrowed := true }
def SimplifyProgramsUptoSaid : Prop := simplifyProgramsUptoRow.holds Tryd.pinned (OpenSpec.upto simplifyProgramsSpec)

/-- 'modelchecklaw15.SimplifyIdempotent', WHERE WHAT IT READS IS OF BULK AT MOST 1048576: true; the input reads as it did. -/
def simplifyIdempotentUptoRow : OpenClaim := { program := "ytihjddokgmjafaadoor", sum := "85b4c93eea01d0b25961ffd87e21f625dae8eec21a4ca6c93944522c8fd99440", func := "modelcheck/modelchecklaw15.SimplifyIdempotent", spec := "simplifyIdempotent", unfollowed := true, recurses := true, named := ["modelcheck/inst.rows", "modelcheck/value.names"], apart := false, laid := [("modelcheck/value.names", laid_modelcheck_value_names), ("modelcheck/inst.rows", laid_modelcheck_inst_rows)], narrowed := true }
def SimplifyIdempotentUptoSaid : Prop := simplifyIdempotentUptoRow.holds Tryd.pinned (OpenSpec.upto simplifyIdempotentSpec)

end Rows
end Go.Proofs.YtihjddokgmjafaaDoor
