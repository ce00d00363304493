/-
  No cell of these rows narrows 'for every input' (looked for: loops, veiled, ifaces, maps, wideKeys, modest, calm, conditions, laid).
  DERIVED. THE GIVEN ROWS OF THIS SEAT. 7 by the template 'for every input the law returns true; each argument reads behind the call as it read before'; 0 by the template 'total and deterministic' (their statements: YtlcmbjhppkddlaaTotals.lean).
  GIVEN WITH THE SEED: the statements are not yours to turn. If you find one false, say at which input.
  Laid BY PROGRAM, IN A SANDBOX (cutbox-rows.mjs): the forced cells as the released guide's own fill.sh prints them over the translation 84041063df76482f… (all of the seat's roots in one cut). By AI agents, Wed Nov 11 2026. No macro, syntax, notation, axiom, sorry.
-/
import Derived.Test.YtlcmbjhppkddlaaChecked
import GoSem.Claim
import GoSem.ClaimJoined
import GoSem.ClaimMapViews
import Derived.JoinedTies
import Derived.KernelRfl
namespace Go.Proofs.Ytlcmbjhppkddlaa
/- THE CELL 'sum', in the pinned program and in every row, IS THE sha256 OF THE DUMP (.gsa) THAT YtlcmbjhppkddlaaProg.lean LOADS. Nothing in Lean hashes anything: it is a label: what it is worth is what the hold of that sum in a sandbox is worth. -/
noncomputable def Try.pinned : Pinned := { name := "ytlcmbjhppkddlaa", sum := "84041063df76482ffe7766a94f582f20ef4c5b4ca8ed2c1e51556fdb8c6ab6e1", checked := Try.checked }
namespace Rows
def none {H : Type} : Left H := { results := [], args := [] }

/-- 'modelchecklaw06.FrameSeals': WHATEVER THE INPUT: true; the input reads as it did. -/
def frameSealsSpec : ChangeSpec := { name := "frameSeals", fn := fun _ => fun
  | [d] => { results := [.lit (.bool true)], args := [d] }
  | _ => none }
def frameSealsRow : OpenClaim := { program := "ytlcmbjhppkddlaa", sum := "84041063df76482ffe7766a94f582f20ef4c5b4ca8ed2c1e51556fdb8c6ab6e1", func := "modelcheck/modelchecklaw06.FrameSeals", spec := "frameSeals", apart := false }
def FrameSealsSaid : Prop := frameSealsRow.holds Try.pinned (OpenSpec.ofChange frameSealsSpec)

/-- ITS FALSE NEIGHBOUR: 'it returns false'. Refute it at one input. -/
def frameSealsWrong : ChangeSpec := { name := "frameSeals", fn := fun _ => fun
  | [d] => { results := [.lit (.bool false)], args := [d] }
  | _ => none }
def FrameSealsWrongFalsely : Prop := frameSealsRow.holds Try.pinned (OpenSpec.ofChange frameSealsWrong)

/-- 'modelchecklaw06.FrameTruncated': WHATEVER THE INPUT: true; the input reads as it did. -/
def frameTruncatedSpec : ChangeSpec := { name := "frameTruncated", fn := fun _ => fun
  | [d] => { results := [.lit (.bool true)], args := [d] }
  | _ => none }
def frameTruncatedRow : OpenClaim := { program := "ytlcmbjhppkddlaa", sum := "84041063df76482ffe7766a94f582f20ef4c5b4ca8ed2c1e51556fdb8c6ab6e1", func := "modelcheck/modelchecklaw06.FrameTruncated", spec := "frameTruncated", apart := false }
def FrameTruncatedSaid : Prop := frameTruncatedRow.holds Try.pinned (OpenSpec.ofChange frameTruncatedSpec)

/-- ITS FALSE NEIGHBOUR: 'it returns false'. Refute it at one input. -/
def frameTruncatedWrong : ChangeSpec := { name := "frameTruncated", fn := fun _ => fun
  | [d] => { results := [.lit (.bool false)], args := [d] }
  | _ => none }
def FrameTruncatedWrongFalsely : Prop := frameTruncatedRow.holds Try.pinned (OpenSpec.ofChange frameTruncatedWrong)

/-- 'modelchecklaw06.FrameBursts': WHATEVER THE INPUT: true; the input reads as it did. -/
def frameBurstsSpec : ChangeSpec := { name := "frameBursts", fn := fun _ => fun
  | [d1, d2, d3] => { results := [.lit (.bool true)], args := [d1, d2, d3] }
  | _ => none }
def frameBurstsRow : OpenClaim := { program := "ytlcmbjhppkddlaa", sum := "84041063df76482ffe7766a94f582f20ef4c5b4ca8ed2c1e51556fdb8c6ab6e1", func := "modelcheck/modelchecklaw06.FrameBursts", spec := "frameBursts", apart := false }
def FrameBurstsSaid : Prop := frameBurstsRow.holds Try.pinned (OpenSpec.ofChange frameBurstsSpec)

/-- ITS FALSE NEIGHBOUR: 'it returns false'. Refute it at one input. -/
def frameBurstsWrong : ChangeSpec := { name := "frameBursts", fn := fun _ => fun
  | [d1, d2, d3] => { results := [.lit (.bool false)], args := [d1, d2, d3] }
  | _ => none }
def FrameBurstsWrongFalsely : Prop := frameBurstsRow.holds Try.pinned (OpenSpec.ofChange frameBurstsWrong)

/-- 'modelchecklaw06.FrameUints': WHATEVER THE INPUT: true; the input reads as it did. -/
def frameUintsSpec : ChangeSpec := { name := "frameUints", fn := fun _ => fun
  | [d1, d2] => { results := [.lit (.bool true)], args := [d1, d2] }
  | _ => none }
def frameUintsRow : OpenClaim := { program := "ytlcmbjhppkddlaa", sum := "84041063df76482ffe7766a94f582f20ef4c5b4ca8ed2c1e51556fdb8c6ab6e1", func := "modelcheck/modelchecklaw06.FrameUints", spec := "frameUints", apart := false }
def FrameUintsSaid : Prop := frameUintsRow.holds Try.pinned (OpenSpec.ofChange frameUintsSpec)

/-- ITS FALSE NEIGHBOUR: 'it returns false'. Refute it at one input. -/
def frameUintsWrong : ChangeSpec := { name := "frameUints", fn := fun _ => fun
  | [d1, d2] => { results := [.lit (.bool false)], args := [d1, d2] }
  | _ => none }
def FrameUintsWrongFalsely : Prop := frameUintsRow.holds Try.pinned (OpenSpec.ofChange frameUintsWrong)

/-- 'modelchecklaw06.FrameLists': WHATEVER THE INPUT: true; the input reads as it did. -/
def frameListsSpec : ChangeSpec := { name := "frameLists", fn := fun _ => fun
  | [d] => { results := [.lit (.bool true)], args := [d] }
  | _ => none }
def frameListsRow : OpenClaim := { program := "ytlcmbjhppkddlaa", sum := "84041063df76482ffe7766a94f582f20ef4c5b4ca8ed2c1e51556fdb8c6ab6e1", func := "modelcheck/modelchecklaw06.FrameLists", spec := "frameLists", apart := false }
def FrameListsSaid : Prop := frameListsRow.holds Try.pinned (OpenSpec.ofChange frameListsSpec)

/-- ITS FALSE NEIGHBOUR: 'it returns false'. Refute it at one input. -/
def frameListsWrong : ChangeSpec := { name := "frameLists", fn := fun _ => fun
  | [d] => { results := [.lit (.bool false)], args := [d] }
  | _ => none }
def FrameListsWrongFalsely : Prop := frameListsRow.holds Try.pinned (OpenSpec.ofChange frameListsWrong)

/-- 'modelchecklaw06.FrameRoundTrip': WHATEVER THE INPUT: true; the input reads as it did. -/
def frameRoundTripSpec : ChangeSpec := { name := "frameRoundTrip", fn := fun _ => fun
  | [d] => { results := [.lit (.bool true)], args := [d] }
  | _ => none }
def frameRoundTripRow : OpenClaim := { program := "ytlcmbjhppkddlaa", sum := "84041063df76482ffe7766a94f582f20ef4c5b4ca8ed2c1e51556fdb8c6ab6e1", func := "modelcheck/modelchecklaw06.FrameRoundTrip", spec := "frameRoundTrip", apart := false }
def FrameRoundTripSaid : Prop := frameRoundTripRow.holds Try.pinned (OpenSpec.ofChange frameRoundTripSpec)

/-- ITS FALSE NEIGHBOUR: 'it returns false'. Refute it at one input. -/
def frameRoundTripWrong : ChangeSpec := { name := "frameRoundTrip", fn := fun _ => fun
  | [d] => { results := [.lit (.bool false)], args := [d] }
  | _ => none }
def FrameRoundTripWrongFalsely : Prop := frameRoundTripRow.holds Try.pinned (OpenSpec.ofChange frameRoundTripWrong)

/-- 'modelchecklaw06.FrameCanonical': WHATEVER THE INPUT: true; the input reads as it did. -/
def frameCanonicalSpec : ChangeSpec := { name := "frameCanonical", fn := fun _ => fun
  | [d] => { results := [.lit (.bool true)], args := [d] }
  | _ => none }
def frameCanonicalRow : OpenClaim := { program := "ytlcmbjhppkddlaa", sum := "84041063df76482ffe7766a94f582f20ef4c5b4ca8ed2c1e51556fdb8c6ab6e1", func := "modelcheck/modelchecklaw06.FrameCanonical", spec := "frameCanonical", apart := false }
def FrameCanonicalSaid : Prop := frameCanonicalRow.holds Try.pinned (OpenSpec.ofChange frameCanonicalSpec)

/-- ITS FALSE NEIGHBOUR: 'it returns false'. Refute it at one input. -/
def frameCanonicalWrong : ChangeSpec := { name := "frameCanonical", fn := fun _ => fun
  | [d] => { results := [.lit (.bool false)], args := [d] }
  | _ => none }
def FrameCanonicalWrongFalsely : Prop := frameCanonicalRow.holds Try.pinned (OpenSpec.ofChange frameCanonicalWrong)

/- THE SECOND FORM. 'bulk': how many values and letters a reading holds, each counted each time it is reached (what is shared counts as often as it is met; a slice's spare places count too). A statement '..UptoSaid' is the law's where the arguments, and the package variables that the reading takes, are together of bulk at most 1048576: NARROWER than '..Said'. Prove '..Said' where nothing that the law and all that it calls make is longer than what came in: it says more and counts as full. Else prove '..UptoSaid'. A law counts once. -/
mutual
def uptoBulk {H : Type} : DataW H → Nat
  | .lit (.string bytes) => bytes.length + 1
  | .lit _ => 1
  | .nil => 1
  | .ptr d => uptoBulk d + 1
  | .slice elems spare => uptoBulkAll elems + uptoBulkAll spare + 1
  | .agg parts => uptoBulkAll parts + 1
  | .iface _ d => uptoBulk d + 1
  | .map entries => uptoBulkEntries entries + 1
  | .held _ => 1
def uptoBulkAll {H : Type} : List (DataW H) → Nat
  | [] => 0
  | d :: r => uptoBulk d + uptoBulkAll r
def uptoBulkEntries {H : Type} : List (Lit × DataW H) → Nat
  | [] => 0
  | x :: r => uptoBulkEntry x + uptoBulkEntries r
def uptoBulkEntry {H : Type} : Lit × DataW H → Nat
  | (.string bytes, d) => bytes.length + uptoBulk d + 1
  | (_, d) => uptoBulk d + 1
 end
def uptoSmall : (H : Type) → List (DataW H) → Bool := fun _ ds => decide (uptoBulkAll ds ≤ 1048576)
def OpenSpec.upto (s : _root_.Go.ChangeSpec) : _root_.Go.OpenSpec := { _root_.Go.OpenSpec.ofChange s with cond := some uptoSmall }

/-- 'modelchecklaw06.FrameSeals', WHERE WHAT IT READS IS OF BULK AT MOST 1048576: true; the input reads as it did. -/
def frameSealsUptoRow : OpenClaim := { program := "ytlcmbjhppkddlaa", sum := "84041063df76482ffe7766a94f582f20ef4c5b4ca8ed2c1e51556fdb8c6ab6e1", func := "modelcheck/modelchecklaw06.FrameSeals", spec := "frameSeals", apart := false, narrowed := true }
def FrameSealsUptoSaid : Prop := frameSealsUptoRow.holds Try.pinned (OpenSpec.upto frameSealsSpec)

/-- 'modelchecklaw06.FrameTruncated', WHERE WHAT IT READS IS OF BULK AT MOST 1048576: true; the input reads as it did. -/
def frameTruncatedUptoRow : OpenClaim := { program := "ytlcmbjhppkddlaa", sum := "84041063df76482ffe7766a94f582f20ef4c5b4ca8ed2c1e51556fdb8c6ab6e1", func := "modelcheck/modelchecklaw06.FrameTruncated", spec := "frameTruncated", apart := false, narrowed := true }
def FrameTruncatedUptoSaid : Prop := frameTruncatedUptoRow.holds Try.pinned (OpenSpec.upto frameTruncatedSpec)

/-- 'modelchecklaw06.FrameBursts', WHERE WHAT IT READS IS OF BULK AT MOST 1048576: true; the input reads as it did. -/
def frameBurstsUptoRow : OpenClaim := { program := "ytlcmbjhppkddlaa", sum := "84041063df76482ffe7766a94f582f20ef4c5b4ca8ed2c1e51556fdb8c6ab6e1", func := "modelcheck/modelchecklaw06.FrameBursts", spec := "frameBursts", apart := false, narrowed := true }
def FrameBurstsUptoSaid : Prop := frameBurstsUptoRow.holds Try.pinned (OpenSpec.upto frameBurstsSpec)

/-- 'modelchecklaw06.FrameUints', WHERE WHAT IT READS IS OF BULK AT MOST 1048576: true; the input reads as it did. -/
def frameUintsUptoRow : OpenClaim := { program := "ytlcmbjhppkddlaa", sum := "84041063df76482ffe7766a94f582f20ef4c5b4ca8ed2c1e51556fdb8c6ab6e1", func := "modelcheck/modelchecklaw06.FrameUints", spec := "frameUints", apart := false, narrowed := true }
def FrameUintsUptoSaid : Prop := frameUintsUptoRow.holds Try.pinned (OpenSpec.upto frameUintsSpec)

/-- 'modelchecklaw06.FrameLists', WHERE WHAT IT READS IS OF BULK AT MOST 1048576: true; the input reads as it did. -/
def frameListsUptoRow : OpenClaim := { program := "ytlcmbjhppkddlaa", sum := "84041063df76482ffe7766a94f582f20ef4c5b4ca8ed2c1e51556fdb8c6ab6e1", func := "modelcheck/modelchecklaw06.FrameLists", spec := "frameLists", apart := false, narrowed := true }
def FrameListsUptoSaid : Prop := frameListsUptoRow.holds Try.pinned (OpenSpec.upto frameListsSpec)

/-- 'modelchecklaw06.FrameRoundTrip', WHERE WHAT IT READS IS OF BULK AT MOST 1048576: true; the input reads as it did. -/
def frameRoundTripUptoRow : OpenClaim := { program := "ytlcmbjhppkddlaa", sum := "84041063df76482ffe7766a94f582f20ef4c5b4ca8ed2c1e51556fdb8c6ab6e1", func := "modelcheck/modelchecklaw06.FrameRoundTrip", spec := "frameRoundTrip", apart := false, narrowed := true }
def FrameRoundTripUptoSaid : Prop := frameRoundTripUptoRow.holds Try.pinned (OpenSpec.upto frameRoundTripSpec)

/-- 'modelchecklaw06.FrameCanonical', WHERE WHAT IT READS IS OF BULK AT MOST 1048576: true; the input reads as it did. -/
def frameCanonicalUptoRow : OpenClaim := { program := "ytlcmbjhppkddlaa", sum := "84041063df76482ffe7766a94f582f20ef4c5b4ca8ed2c1e51556fdb8c6ab6e1", func := "modelcheck/modelchecklaw06.FrameCanonical", spec := "frameCanonical", apart := false, narrowed := true }
def FrameCanonicalUptoSaid : Prop := frameCanonicalUptoRow.holds Try.pinned (OpenSpec.upto frameCanonicalSpec)

end Rows
end Go.Proofs.Ytlcmbjhppkddlaa
