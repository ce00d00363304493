/-
  NARROWER THAN 'FOR EVERY INPUT', by the rows' own cells (each row's printed sentence says how): AsmParse: laid · AsmInstruction: laid.
  DERIVED. THE GIVEN ROWS OF THIS SEAT. 2 by the template 'for every input the law returns true; each argument reads behind the call as it read before'; 0 by the template 'total and deterministic' (their statements: YtodjpjecpancdaaGreatDoorTotals.lean).
  GIVEN WITH THE SEED: the statements are not yours to turn. If you find one false, say at which input.
  Laid BY PROGRAM, IN A SANDBOX (cutbox-rows.mjs): the forced cells as the released guide's own fill.sh prints them over the translation 1e7f7bc8c1b356e9… (all of the seat's roots in one cut). By AI agents, Wed Nov 11 2026. No macro, syntax, notation, axiom, sorry.
-/
import Derived.Test.YtodjpjecpancdaaGreatDoorChecked
import GoSem.Claim
import GoSem.ClaimJoined
import GoSem.ClaimMapViews
import Derived.JoinedTies
import Derived.KernelRfl
namespace Go.Proofs.YtodjpjecpancdaaGreatDoor
/- THE CELL 'sum', in the pinned program and in every row, IS THE sha256 OF THE DUMP (.gsa) THAT YtodjpjecpancdaaGreatDoorProg.lean LOADS. Nothing in Lean hashes anything: it is a label: what it is worth is what the hold of that sum in a sandbox is worth. -/
noncomputable def Tryz.pinned : Pinned := { name := "ytodjpjecpancdaagreatdoor", sum := "1e7f7bc8c1b356e9ce74e874c7503633b3c85767fe6f9a14cab2755d7836d4ca", checked := Tryz.checked }
namespace Rows
def none {H : Type} : Left H := { results := [], args := [] }

/- WHAT THE LISTED PACKAGE-LEVEL VARIABLES READ AS WHEN THE CALL BEGINS. Each datum BY PROGRAM (the guide's laid-datum.mjs) off the statement by which the dump's own 'gosem.cut.vars' lays the variable. In a bare row this is a premise. The card (YtodjpjecpancdaaGreatDoorCards.lean) ties it to the program's text. -/
def laid_modelcheck_value_names {H : Type} : DataW H := .agg [.lit (.string [97, 100, 100]), .lit (.string [115, 117, 98]), .lit (.string [109, 117, 108]), .lit (.string [97, 110, 100]), .lit (.string [111, 114]), .lit (.string [120, 111, 114]), .lit (.string [101, 113]), .lit (.string [110, 101]), .lit (.string [108, 116]), .lit (.string [108, 101])]
def laid_modelcheck_inst_rows {H : Type} : DataW H := .agg [.agg [.lit (.string [99, 111, 110, 115, 116]), .agg [.lit (.bool true), .lit (.bool false), .lit (.bool false), .lit (.bool false), .lit (.bool true), .lit (.bool false), .lit (.bool false)]], .agg [.lit (.string [99, 111, 112, 121]), .agg [.lit (.bool true), .lit (.bool true), .lit (.bool false), .lit (.bool false), .lit (.bool false), .lit (.bool false), .lit (.bool false)]], .agg [.lit (.string [99, 97, 108, 99]), .agg [.lit (.bool true), .lit (.bool true), .lit (.bool true), .lit (.bool false), .lit (.bool false), .lit (.bool true), .lit (.bool false)]], .agg [.lit (.string [106, 117, 109, 112]), .agg [.lit (.bool false), .lit (.bool false), .lit (.bool false), .lit (.bool false), .lit (.bool true), .lit (.bool false), .lit (.bool false)]], .agg [.lit (.string [98, 114, 97, 110, 99, 104]), .agg [.lit (.bool false), .lit (.bool true), .lit (.bool false), .lit (.bool false), .lit (.bool true), .lit (.bool false), .lit (.bool false)]], .agg [.lit (.string [97, 115, 115, 101, 114, 116]), .agg [.lit (.bool false), .lit (.bool true), .lit (.bool false), .lit (.bool false), .lit (.bool false), .lit (.bool false), .lit (.bool false)]], .agg [.lit (.string [115, 116, 111, 112]), .agg [.lit (.bool false), .lit (.bool false), .lit (.bool false), .lit (.bool false), .lit (.bool false), .lit (.bool false), .lit (.bool false)]], .agg [.lit (.string [108, 111, 97, 100]), .agg [.lit (.bool true), .lit (.bool false), .lit (.bool false), .lit (.bool true), .lit (.bool false), .lit (.bool false), .lit (.bool true)]], .agg [.lit (.string [115, 116, 111, 114, 101]), .agg [.lit (.bool false), .lit (.bool true), .lit (.bool false), .lit (.bool true), .lit (.bool false), .lit (.bool false), .lit (.bool true)]], .agg [.lit (.string [115, 119, 97, 112]), .agg [.lit (.bool true), .lit (.bool true), .lit (.bool false), .lit (.bool true), .lit (.bool false), .lit (.bool false), .lit (.bool true)]], .agg [.lit (.string [102, 101, 116, 99, 104, 97, 100, 100]), .agg [.lit (.bool true), .lit (.bool true), .lit (.bool false), .lit (.bool true), .lit (.bool false), .lit (.bool false), .lit (.bool true)]], .agg [.lit (.string [99, 97, 115]), .agg [.lit (.bool true), .lit (.bool true), .lit (.bool true), .lit (.bool true), .lit (.bool false), .lit (.bool false), .lit (.bool true)]], .agg [.lit (.string [102, 101, 110, 99, 101]), .agg [.lit (.bool false), .lit (.bool false), .lit (.bool false), .lit (.bool false), .lit (.bool false), .lit (.bool false), .lit (.bool false)]], .agg [.lit (.string [97, 119, 97, 105, 116]), .agg [.lit (.bool true), .lit (.bool true), .lit (.bool false), .lit (.bool true), .lit (.bool false), .lit (.bool true), .lit (.bool true)]], .agg [.lit (.string [108, 111, 99, 107]), .agg [.lit (.bool false), .lit (.bool false), .lit (.bool false), .lit (.bool true), .lit (.bool false), .lit (.bool false), .lit (.bool false)]], .agg [.lit (.string [117, 110, 108, 111, 99, 107]), .agg [.lit (.bool false), .lit (.bool false), .lit (.bool false), .lit (.bool true), .lit (.bool false), .lit (.bool false), .lit (.bool false)]], .agg [.lit (.string [116, 114, 121, 108, 111, 99, 107]), .agg [.lit (.bool true), .lit (.bool false), .lit (.bool false), .lit (.bool true), .lit (.bool false), .lit (.bool false), .lit (.bool false)]], .agg [.lit (.string [119, 97, 105, 116]), .agg [.lit (.bool false), .lit (.bool false), .lit (.bool false), .lit (.bool true), .lit (.bool true), .lit (.bool false), .lit (.bool false)]], .agg [.lit (.string [115, 105, 103, 110, 97, 108]), .agg [.lit (.bool false), .lit (.bool false), .lit (.bool false), .lit (.bool true), .lit (.bool false), .lit (.bool false), .lit (.bool false)]], .agg [.lit (.string [98, 114, 111, 97, 100, 99, 97, 115, 116]), .agg [.lit (.bool false), .lit (.bool false), .lit (.bool false), .lit (.bool true), .lit (.bool false), .lit (.bool false), .lit (.bool false)]], .agg [.lit (.string [115, 112, 97, 119, 110]), .agg [.lit (.bool true), .lit (.bool true), .lit (.bool false), .lit (.bool true), .lit (.bool false), .lit (.bool false), .lit (.bool false)]], .agg [.lit (.string [106, 111, 105, 110]), .agg [.lit (.bool false), .lit (.bool true), .lit (.bool false), .lit (.bool false), .lit (.bool false), .lit (.bool false), .lit (.bool false)]]]
def laid_modelcheck_inst_orders {H : Type} : DataW H := .agg [.lit (.string [112, 108, 97, 105, 110]), .lit (.string [114, 101, 108, 97, 120, 101, 100]), .lit (.string [114, 101, 108, 97, 99, 113])]

/-- 'modelchecklaw10.AsmParse': WHATEVER THE INPUT: true; the input reads as it did. -/
def asmParseSpec : ChangeSpec := { name := "asmParse", fn := fun _ => fun
  | [d] => { results := [.lit (.bool true)], args := [d] }
  | _ => none }
def asmParseRow : OpenClaim := { program := "ytodjpjecpancdaagreatdoor", sum := "1e7f7bc8c1b356e9ce74e874c7503633b3c85767fe6f9a14cab2755d7836d4ca", func := "modelcheck/modelchecklaw10.AsmParse", spec := "asmParse", inPlace := ["internal/bytealg.IndexByteString"], unfollowed := true, recurses := true, named := ["modelcheck/inst.rows", "modelcheck/value.names", "modelcheck/inst.orders"], apart := false, laid := [("modelcheck/value.names", laid_modelcheck_value_names), ("modelcheck/inst.rows", laid_modelcheck_inst_rows), ("modelcheck/inst.orders", laid_modelcheck_inst_orders)] }
def AsmParseSaid : Prop := asmParseRow.holds Tryz.pinned (OpenSpec.ofChange asmParseSpec)

/-- ITS FALSE NEIGHBOUR: 'it returns false'. Refute it at one input. -/
def asmParseWrong : ChangeSpec := { name := "asmParse", fn := fun _ => fun
  | [d] => { results := [.lit (.bool false)], args := [d] }
  | _ => none }
def AsmParseWrongFalsely : Prop := asmParseRow.holds Tryz.pinned (OpenSpec.ofChange asmParseWrong)

/-- 'modelchecklaw10.AsmInstruction': WHATEVER THE INPUT: true; the input reads as it did. -/
def asmInstructionSpec : ChangeSpec := { name := "asmInstruction", fn := fun _ => fun
  | [d1, d2] => { results := [.lit (.bool true)], args := [d1, d2] }
  | _ => none }
def asmInstructionRow : OpenClaim := { program := "ytodjpjecpancdaagreatdoor", sum := "1e7f7bc8c1b356e9ce74e874c7503633b3c85767fe6f9a14cab2755d7836d4ca", func := "modelcheck/modelchecklaw10.AsmInstruction", spec := "asmInstruction", inPlace := ["internal/bytealg.IndexByteString"], unfollowed := true, recurses := true, named := ["modelcheck/inst.rows", "modelcheck/value.names", "modelcheck/inst.orders"], apart := false, laid := [("modelcheck/value.names", laid_modelcheck_value_names), ("modelcheck/inst.rows", laid_modelcheck_inst_rows), ("modelcheck/inst.orders", laid_modelcheck_inst_orders)] }
def AsmInstructionSaid : Prop := asmInstructionRow.holds Tryz.pinned (OpenSpec.ofChange asmInstructionSpec)

/-- ITS FALSE NEIGHBOUR: 'it returns false'. Refute it at one input. -/
def asmInstructionWrong : ChangeSpec := { name := "asmInstruction", fn := fun _ => fun
  | [d1, d2] => { results := [.lit (.bool false)], args := [d1, d2] }
  | _ => none }
def AsmInstructionWrongFalsely : Prop := asmInstructionRow.holds Tryz.pinned (OpenSpec.ofChange asmInstructionWrong)

/- THE SECOND FORM. 'bulk': how many values and letters a reading holds, each counted each time it is reached (what is shared counts as often as it is met; a slice's spare places count too). A statement '..UptoSaid' is the law's where the arguments, and the package variables that the reading takes, are together of bulk at most 1048576: NARROWER than '..Said'. Prove '..Said' where nothing that the law and all that it calls make is longer than what came in: it says more and counts as full. Else prove '..UptoSaid'. A law counts once. -/
mutual
def uptoBulk {H : Type} : DataW H → Nat
  | .lit (.string bytes) => bytes.length + 1
  | .lit _ => 1
  | .nil => 1
  | .ptr d => uptoBulk d + 1
  | .slice elems spare => uptoBulkAll elems + uptoBulkAll spare + 1
  | .agg parts => uptoBulkAll parts + 1
  | .iface _ d => uptoBulk d + 1
  | .map entries => uptoBulkEntries entries + 1
  | .held _ => 1
def uptoBulkAll {H : Type} : List (DataW H) → Nat
  | [] => 0
  | d :: r => uptoBulk d + uptoBulkAll r
def uptoBulkEntries {H : Type} : List (Lit × DataW H) → Nat
  | [] => 0
  | x :: r => uptoBulkEntry x + uptoBulkEntries r
def uptoBulkEntry {H : Type} : Lit × DataW H → Nat
  | (.string bytes, d) => bytes.length + uptoBulk d + 1
  | (_, d) => uptoBulk d + 1
 end
def uptoSmall : (H : Type) → List (DataW H) → Bool := fun _ ds => decide (uptoBulkAll ds ≤ 1048576)
def OpenSpec.upto (s : _root_.Go.ChangeSpec) : _root_.Go.OpenSpec := { _root_.Go.OpenSpec.ofChange s with cond := some uptoSmall }

/-- 'modelchecklaw10.AsmParse', WHERE WHAT IT READS IS OF BULK AT MOST 1048576: true; the input reads as it did. -/
def asmParseUptoRow : OpenClaim := { program := "ytodjpjecpancdaagreatdoor", sum := "1e7f7bc8c1b356e9ce74e874c7503633b3c85767fe6f9a14cab2755d7836d4ca", func := "modelcheck/modelchecklaw10.AsmParse", spec := "asmParse", inPlace := ["internal/bytealg.IndexByteString"], unfollowed := true, recurses := true, named := ["modelcheck/inst.rows", "modelcheck/value.names", "modelcheck/inst.orders"], apart := false, laid := [("modelcheck/value.names", laid_modelcheck_value_names), ("modelcheck/inst.rows", laid_modelcheck_inst_rows), ("modelcheck/inst.orders", laid_modelcheck_inst_orders)], narrowed := true }
def AsmParseUptoSaid : Prop := asmParseUptoRow.holds Tryz.pinned (OpenSpec.upto asmParseSpec)

/-- 'modelchecklaw10.AsmInstruction', WHERE WHAT IT READS IS OF BULK AT MOST 1048576: true; the input reads as it did. -/
def asmInstructionUptoRow : OpenClaim := { program := "ytodjpjecpancdaagreatdoor", sum := "1e7f7bc8c1b356e9ce74e874c7503633b3c85767fe6f9a14cab2755d7836d4ca", func := "modelcheck/modelchecklaw10.AsmInstruction", spec := "asmInstruction", inPlace := ["internal/bytealg.IndexByteString"], unfollowed := true, recurses := true, named := ["modelcheck/inst.rows", "modelcheck/value.names", "modelcheck/inst.orders"], apart := false, laid := [("modelcheck/value.names", laid_modelcheck_value_names), ("modelcheck/inst.rows", laid_modelcheck_inst_rows), ("modelcheck/inst.orders", laid_modelcheck_inst_orders)], narrowed := true }
def AsmInstructionUptoSaid : Prop := asmInstructionUptoRow.holds Tryz.pinned (OpenSpec.upto asmInstructionSpec)

end Rows
end Go.Proofs.YtodjpjecpancdaaGreatDoor
