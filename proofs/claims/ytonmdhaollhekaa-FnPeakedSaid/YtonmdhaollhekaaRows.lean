/-
  No cell of these rows narrows 'for every input' (looked for: loops, veiled, ifaces, maps, wideKeys, modest, calm, conditions, laid).
  DERIVED. THE GIVEN ROWS OF THIS SEAT. 12 by the template 'for every input the law returns true; each argument reads behind the call as it read before'; 0 by the template 'total and deterministic' (their statements: YtonmdhaollhekaaTotals.lean).
  GIVEN WITH THE SEED: the statements are not yours to turn. If you find one false, say at which input.
  Laid BY PROGRAM, IN A SANDBOX (cutbox-rows.mjs): the forced cells as the released guide's own fill.sh prints them over the translation a259570231f07c4f… (all of the seat's roots in one cut). By AI agents, Wed Nov 11 2026. No macro, syntax, notation, axiom, sorry.
-/
import Derived.Test.YtonmdhaollhekaaChecked
import GoSem.Claim
import GoSem.ClaimJoined
import GoSem.ClaimMapViews
import Derived.JoinedTies
import Derived.KernelRfl
namespace Go.Proofs.Ytonmdhaollhekaa
/- THE CELL 'sum', in the pinned program and in every row, IS THE sha256 OF THE DUMP (.gsa) THAT YtonmdhaollhekaaProg.lean LOADS. Nothing in Lean hashes anything: it is a label: what it is worth is what the hold of that sum in a sandbox is worth. -/
noncomputable def Try.pinned : Pinned := { name := "ytonmdhaollhekaa", sum := "a259570231f07c4feeca2783617f26d09d57ed7b1383e8982a6f17a0b9b40282", checked := Try.checked }
namespace Rows
def none {H : Type} : Left H := { results := [], args := [] }

/-- 'laws.FnExactThicken': WHATEVER THE INPUT: true; the input reads as it did. -/
def fnExactThickenSpec : ChangeSpec := { name := "fnExactThicken", fn := fun _ => fun
  | [d1, d2, d3] => { results := [.lit (.bool true)], args := [d1, d2, d3] }
  | _ => none }
def fnExactThickenRow : OpenClaim := { program := "ytonmdhaollhekaa", sum := "a259570231f07c4feeca2783617f26d09d57ed7b1383e8982a6f17a0b9b40282", func := "loop.example/g00043/laws.FnExactThicken", spec := "fnExactThicken", apart := false }
def FnExactThickenSaid : Prop := fnExactThickenRow.holds Try.pinned (OpenSpec.ofChange fnExactThickenSpec)

/-- ITS FALSE NEIGHBOUR: 'it returns false'. Refute it at one input. -/
def fnExactThickenWrong : ChangeSpec := { name := "fnExactThicken", fn := fun _ => fun
  | [d1, d2, d3] => { results := [.lit (.bool false)], args := [d1, d2, d3] }
  | _ => none }
def FnExactThickenWrongFalsely : Prop := fnExactThickenRow.holds Try.pinned (OpenSpec.ofChange fnExactThickenWrong)

/-- 'laws.FnExactCrossings': WHATEVER THE INPUT: true; the input reads as it did. -/
def fnExactCrossingsSpec : ChangeSpec := { name := "fnExactCrossings", fn := fun _ => fun
  | [d1, d2] => { results := [.lit (.bool true)], args := [d1, d2] }
  | _ => none }
def fnExactCrossingsRow : OpenClaim := { program := "ytonmdhaollhekaa", sum := "a259570231f07c4feeca2783617f26d09d57ed7b1383e8982a6f17a0b9b40282", func := "loop.example/g00043/laws.FnExactCrossings", spec := "fnExactCrossings", apart := false }
def FnExactCrossingsSaid : Prop := fnExactCrossingsRow.holds Try.pinned (OpenSpec.ofChange fnExactCrossingsSpec)

/-- ITS FALSE NEIGHBOUR: 'it returns false'. Refute it at one input. -/
def fnExactCrossingsWrong : ChangeSpec := { name := "fnExactCrossings", fn := fun _ => fun
  | [d1, d2] => { results := [.lit (.bool false)], args := [d1, d2] }
  | _ => none }
def FnExactCrossingsWrongFalsely : Prop := fnExactCrossingsRow.holds Try.pinned (OpenSpec.ofChange fnExactCrossingsWrong)

/-- 'laws.FnExactBest': WHATEVER THE INPUT: true; the input reads as it did. -/
def fnExactBestSpec : ChangeSpec := { name := "fnExactBest", fn := fun _ => fun
  | [d1, d2] => { results := [.lit (.bool true)], args := [d1, d2] }
  | _ => none }
def fnExactBestRow : OpenClaim := { program := "ytonmdhaollhekaa", sum := "a259570231f07c4feeca2783617f26d09d57ed7b1383e8982a6f17a0b9b40282", func := "loop.example/g00043/laws.FnExactBest", spec := "fnExactBest", apart := false }
def FnExactBestSaid : Prop := fnExactBestRow.holds Try.pinned (OpenSpec.ofChange fnExactBestSpec)

/-- ITS FALSE NEIGHBOUR: 'it returns false'. Refute it at one input. -/
def fnExactBestWrong : ChangeSpec := { name := "fnExactBest", fn := fun _ => fun
  | [d1, d2] => { results := [.lit (.bool false)], args := [d1, d2] }
  | _ => none }
def FnExactBestWrongFalsely : Prop := fnExactBestRow.holds Try.pinned (OpenSpec.ofChange fnExactBestWrong)

/-- 'laws.FnExactWays': WHATEVER THE INPUT: true; the input reads as it did. -/
def fnExactWaysSpec : ChangeSpec := { name := "fnExactWays", fn := fun _ => fun
  | [d1, d2] => { results := [.lit (.bool true)], args := [d1, d2] }
  | _ => none }
def fnExactWaysRow : OpenClaim := { program := "ytonmdhaollhekaa", sum := "a259570231f07c4feeca2783617f26d09d57ed7b1383e8982a6f17a0b9b40282", func := "loop.example/g00043/laws.FnExactWays", spec := "fnExactWays", named := ["math/bits.divideError", "math/bits.overflowError"], apart := false }
def FnExactWaysSaid : Prop := fnExactWaysRow.holds Try.pinned (OpenSpec.ofChange fnExactWaysSpec)

/-- ITS FALSE NEIGHBOUR: 'it returns false'. Refute it at one input. -/
def fnExactWaysWrong : ChangeSpec := { name := "fnExactWays", fn := fun _ => fun
  | [d1, d2] => { results := [.lit (.bool false)], args := [d1, d2] }
  | _ => none }
def FnExactWaysWrongFalsely : Prop := fnExactWaysRow.holds Try.pinned (OpenSpec.ofChange fnExactWaysWrong)

/-- 'laws.FnWays': WHATEVER THE INPUT: true; the input reads as it did. -/
def fnWaysSpec : ChangeSpec := { name := "fnWays", fn := fun _ => fun
  | [d] => { results := [.lit (.bool true)], args := [d] }
  | _ => none }
def fnWaysRow : OpenClaim := { program := "ytonmdhaollhekaa", sum := "a259570231f07c4feeca2783617f26d09d57ed7b1383e8982a6f17a0b9b40282", func := "loop.example/g00043/laws.FnWays", spec := "fnWays", named := ["math/bits.divideError", "math/bits.overflowError"], apart := false }
def FnWaysSaid : Prop := fnWaysRow.holds Try.pinned (OpenSpec.ofChange fnWaysSpec)

/-- ITS FALSE NEIGHBOUR: 'it returns false'. Refute it at one input. -/
def fnWaysWrong : ChangeSpec := { name := "fnWays", fn := fun _ => fun
  | [d] => { results := [.lit (.bool false)], args := [d] }
  | _ => none }
def FnWaysWrongFalsely : Prop := fnWaysRow.holds Try.pinned (OpenSpec.ofChange fnWaysWrong)

/-- 'laws.FnExactPeaks': WHATEVER THE INPUT: true; the input reads as it did. -/
def fnExactPeaksSpec : ChangeSpec := { name := "fnExactPeaks", fn := fun _ => fun
  | [d1, d2, d3] => { results := [.lit (.bool true)], args := [d1, d2, d3] }
  | _ => none }
def fnExactPeaksRow : OpenClaim := { program := "ytonmdhaollhekaa", sum := "a259570231f07c4feeca2783617f26d09d57ed7b1383e8982a6f17a0b9b40282", func := "loop.example/g00043/laws.FnExactPeaks", spec := "fnExactPeaks", apart := false }
def FnExactPeaksSaid : Prop := fnExactPeaksRow.holds Try.pinned (OpenSpec.ofChange fnExactPeaksSpec)

/-- ITS FALSE NEIGHBOUR: 'it returns false'. Refute it at one input. -/
def fnExactPeaksWrong : ChangeSpec := { name := "fnExactPeaks", fn := fun _ => fun
  | [d1, d2, d3] => { results := [.lit (.bool false)], args := [d1, d2, d3] }
  | _ => none }
def FnExactPeaksWrongFalsely : Prop := fnExactPeaksRow.holds Try.pinned (OpenSpec.ofChange fnExactPeaksWrong)

/-- 'laws.FnExactFollow': WHATEVER THE INPUT: true; the input reads as it did. -/
def fnExactFollowSpec : ChangeSpec := { name := "fnExactFollow", fn := fun _ => fun
  | [d1, d2] => { results := [.lit (.bool true)], args := [d1, d2] }
  | _ => none }
def fnExactFollowRow : OpenClaim := { program := "ytonmdhaollhekaa", sum := "a259570231f07c4feeca2783617f26d09d57ed7b1383e8982a6f17a0b9b40282", func := "loop.example/g00043/laws.FnExactFollow", spec := "fnExactFollow", apart := false }
def FnExactFollowSaid : Prop := fnExactFollowRow.holds Try.pinned (OpenSpec.ofChange fnExactFollowSpec)

/-- ITS FALSE NEIGHBOUR: 'it returns false'. Refute it at one input. -/
def fnExactFollowWrong : ChangeSpec := { name := "fnExactFollow", fn := fun _ => fun
  | [d1, d2] => { results := [.lit (.bool false)], args := [d1, d2] }
  | _ => none }
def FnExactFollowWrongFalsely : Prop := fnExactFollowRow.holds Try.pinned (OpenSpec.ofChange fnExactFollowWrong)

/-- 'laws.FnExactUnFollow': WHATEVER THE INPUT: true; the input reads as it did. -/
def fnExactUnFollowSpec : ChangeSpec := { name := "fnExactUnFollow", fn := fun _ => fun
  | [d1, d2] => { results := [.lit (.bool true)], args := [d1, d2] }
  | _ => none }
def fnExactUnFollowRow : OpenClaim := { program := "ytonmdhaollhekaa", sum := "a259570231f07c4feeca2783617f26d09d57ed7b1383e8982a6f17a0b9b40282", func := "loop.example/g00043/laws.FnExactUnFollow", spec := "fnExactUnFollow", apart := false }
def FnExactUnFollowSaid : Prop := fnExactUnFollowRow.holds Try.pinned (OpenSpec.ofChange fnExactUnFollowSpec)

/-- ITS FALSE NEIGHBOUR: 'it returns false'. Refute it at one input. -/
def fnExactUnFollowWrong : ChangeSpec := { name := "fnExactUnFollow", fn := fun _ => fun
  | [d1, d2] => { results := [.lit (.bool false)], args := [d1, d2] }
  | _ => none }
def FnExactUnFollowWrongFalsely : Prop := fnExactUnFollowRow.holds Try.pinned (OpenSpec.ofChange fnExactUnFollowWrong)

/-- 'laws.FnPeaked': WHATEVER THE INPUT: true; the input reads as it did. -/
def fnPeakedSpec : ChangeSpec := { name := "fnPeaked", fn := fun _ => fun
  | [d] => { results := [.lit (.bool true)], args := [d] }
  | _ => none }
def fnPeakedRow : OpenClaim := { program := "ytonmdhaollhekaa", sum := "a259570231f07c4feeca2783617f26d09d57ed7b1383e8982a6f17a0b9b40282", func := "loop.example/g00043/laws.FnPeaked", spec := "fnPeaked", apart := false }
def FnPeakedSaid : Prop := fnPeakedRow.holds Try.pinned (OpenSpec.ofChange fnPeakedSpec)

/-- ITS FALSE NEIGHBOUR: 'it returns false'. Refute it at one input. -/
def fnPeakedWrong : ChangeSpec := { name := "fnPeaked", fn := fun _ => fun
  | [d] => { results := [.lit (.bool false)], args := [d] }
  | _ => none }
def FnPeakedWrongFalsely : Prop := fnPeakedRow.holds Try.pinned (OpenSpec.ofChange fnPeakedWrong)

/-- 'laws.FnCrossed': WHATEVER THE INPUT: true; the input reads as it did. -/
def fnCrossedSpec : ChangeSpec := { name := "fnCrossed", fn := fun _ => fun
  | [d] => { results := [.lit (.bool true)], args := [d] }
  | _ => none }
def fnCrossedRow : OpenClaim := { program := "ytonmdhaollhekaa", sum := "a259570231f07c4feeca2783617f26d09d57ed7b1383e8982a6f17a0b9b40282", func := "loop.example/g00043/laws.FnCrossed", spec := "fnCrossed", apart := false }
def FnCrossedSaid : Prop := fnCrossedRow.holds Try.pinned (OpenSpec.ofChange fnCrossedSpec)

/-- ITS FALSE NEIGHBOUR: 'it returns false'. Refute it at one input. -/
def fnCrossedWrong : ChangeSpec := { name := "fnCrossed", fn := fun _ => fun
  | [d] => { results := [.lit (.bool false)], args := [d] }
  | _ => none }
def FnCrossedWrongFalsely : Prop := fnCrossedRow.holds Try.pinned (OpenSpec.ofChange fnCrossedWrong)

/-- 'laws.FnExactThreshold': WHATEVER THE INPUT: true; the input reads as it did. -/
def fnExactThresholdSpec : ChangeSpec := { name := "fnExactThreshold", fn := fun _ => fun
  | [d1, d2, d3] => { results := [.lit (.bool true)], args := [d1, d2, d3] }
  | _ => none }
def fnExactThresholdRow : OpenClaim := { program := "ytonmdhaollhekaa", sum := "a259570231f07c4feeca2783617f26d09d57ed7b1383e8982a6f17a0b9b40282", func := "loop.example/g00043/laws.FnExactThreshold", spec := "fnExactThreshold", named := ["math/bits.divideError", "math/bits.overflowError"], apart := false }
def FnExactThresholdSaid : Prop := fnExactThresholdRow.holds Try.pinned (OpenSpec.ofChange fnExactThresholdSpec)

/-- ITS FALSE NEIGHBOUR: 'it returns false'. Refute it at one input. -/
def fnExactThresholdWrong : ChangeSpec := { name := "fnExactThreshold", fn := fun _ => fun
  | [d1, d2, d3] => { results := [.lit (.bool false)], args := [d1, d2, d3] }
  | _ => none }
def FnExactThresholdWrongFalsely : Prop := fnExactThresholdRow.holds Try.pinned (OpenSpec.ofChange fnExactThresholdWrong)

/-- 'laws.FnThreshold': WHATEVER THE INPUT: true; the input reads as it did. -/
def fnThresholdSpec : ChangeSpec := { name := "fnThreshold", fn := fun _ => fun
  | [d] => { results := [.lit (.bool true)], args := [d] }
  | _ => none }
def fnThresholdRow : OpenClaim := { program := "ytonmdhaollhekaa", sum := "a259570231f07c4feeca2783617f26d09d57ed7b1383e8982a6f17a0b9b40282", func := "loop.example/g00043/laws.FnThreshold", spec := "fnThreshold", named := ["math/bits.divideError", "math/bits.overflowError"], apart := false }
def FnThresholdSaid : Prop := fnThresholdRow.holds Try.pinned (OpenSpec.ofChange fnThresholdSpec)

/-- ITS FALSE NEIGHBOUR: 'it returns false'. Refute it at one input. -/
def fnThresholdWrong : ChangeSpec := { name := "fnThreshold", fn := fun _ => fun
  | [d] => { results := [.lit (.bool false)], args := [d] }
  | _ => none }
def FnThresholdWrongFalsely : Prop := fnThresholdRow.holds Try.pinned (OpenSpec.ofChange fnThresholdWrong)

/- THE SECOND FORM. 'bulk': how many values and letters a reading holds, each counted each time it is reached (what is shared counts as often as it is met; a slice's spare places count too). A statement '..UptoSaid' is the law's where the arguments, and the package variables that the reading takes, are together of bulk at most 1048576: NARROWER than '..Said'. Prove '..Said' where nothing that the law and all that it calls make is longer than what came in: it says more and counts as full. Else prove '..UptoSaid'. A law counts once. -/
mutual
def uptoBulk {H : Type} : DataW H → Nat
  | .lit (.string bytes) => bytes.length + 1
  | .lit _ => 1
  | .nil => 1
  | .ptr d => uptoBulk d + 1
  | .slice elems spare => uptoBulkAll elems + uptoBulkAll spare + 1
  | .agg parts => uptoBulkAll parts + 1
  | .iface _ d => uptoBulk d + 1
  | .map entries => uptoBulkEntries entries + 1
  | .held _ => 1
def uptoBulkAll {H : Type} : List (DataW H) → Nat
  | [] => 0
  | d :: r => uptoBulk d + uptoBulkAll r
def uptoBulkEntries {H : Type} : List (Lit × DataW H) → Nat
  | [] => 0
  | x :: r => uptoBulkEntry x + uptoBulkEntries r
def uptoBulkEntry {H : Type} : Lit × DataW H → Nat
  | (.string bytes, d) => bytes.length + uptoBulk d + 1
  | (_, d) => uptoBulk d + 1
 end
def uptoSmall : (H : Type) → List (DataW H) → Bool := fun _ ds => decide (uptoBulkAll ds ≤ 1048576)
def OpenSpec.upto (s : _root_.Go.ChangeSpec) : _root_.Go.OpenSpec := { _root_.Go.OpenSpec.ofChange s with cond := some uptoSmall }

/-- 'laws.FnExactThicken', WHERE WHAT IT READS IS OF BULK AT MOST 1048576: true; the input reads as it did. -/
def fnExactThickenUptoRow : OpenClaim := { program := "ytonmdhaollhekaa", sum := "a259570231f07c4feeca2783617f26d09d57ed7b1383e8982a6f17a0b9b40282", func := "loop.example/g00043/laws.FnExactThicken", spec := "fnExactThicken", apart := false, narrowed := true }
def FnExactThickenUptoSaid : Prop := fnExactThickenUptoRow.holds Try.pinned (OpenSpec.upto fnExactThickenSpec)

/-- 'laws.FnExactCrossings', WHERE WHAT IT READS IS OF BULK AT MOST 1048576: true; the input reads as it did. -/
def fnExactCrossingsUptoRow : OpenClaim := { program := "ytonmdhaollhekaa", sum := "a259570231f07c4feeca2783617f26d09d57ed7b1383e8982a6f17a0b9b40282", func := "loop.example/g00043/laws.FnExactCrossings", spec := "fnExactCrossings", apart := false, narrowed := true }
def FnExactCrossingsUptoSaid : Prop := fnExactCrossingsUptoRow.holds Try.pinned (OpenSpec.upto fnExactCrossingsSpec)

/-- 'laws.FnExactBest', WHERE WHAT IT READS IS OF BULK AT MOST 1048576: true; the input reads as it did. -/
def fnExactBestUptoRow : OpenClaim := { program := "ytonmdhaollhekaa", sum := "a259570231f07c4feeca2783617f26d09d57ed7b1383e8982a6f17a0b9b40282", func := "loop.example/g00043/laws.FnExactBest", spec := "fnExactBest", apart := false, narrowed := true }
def FnExactBestUptoSaid : Prop := fnExactBestUptoRow.holds Try.pinned (OpenSpec.upto fnExactBestSpec)

/-- 'laws.FnExactWays', WHERE WHAT IT READS IS OF BULK AT MOST 1048576: true; the input reads as it did. -/
def fnExactWaysUptoRow : OpenClaim := { program := "ytonmdhaollhekaa", sum := "a259570231f07c4feeca2783617f26d09d57ed7b1383e8982a6f17a0b9b40282", func := "loop.example/g00043/laws.FnExactWays", spec := "fnExactWays", named := ["math/bits.divideError", "math/bits.overflowError"], apart := false, narrowed := true }
def FnExactWaysUptoSaid : Prop := fnExactWaysUptoRow.holds Try.pinned (OpenSpec.upto fnExactWaysSpec)

/-- 'laws.FnWays', WHERE WHAT IT READS IS OF BULK AT MOST 1048576: true; the input reads as it did. -/
def fnWaysUptoRow : OpenClaim := { program := "ytonmdhaollhekaa", sum := "a259570231f07c4feeca2783617f26d09d57ed7b1383e8982a6f17a0b9b40282", func := "loop.example/g00043/laws.FnWays", spec := "fnWays", named := ["math/bits.divideError", "math/bits.overflowError"], apart := false, narrowed := true }
def FnWaysUptoSaid : Prop := fnWaysUptoRow.holds Try.pinned (OpenSpec.upto fnWaysSpec)

/-- 'laws.FnExactPeaks', WHERE WHAT IT READS IS OF BULK AT MOST 1048576: true; the input reads as it did. -/
def fnExactPeaksUptoRow : OpenClaim := { program := "ytonmdhaollhekaa", sum := "a259570231f07c4feeca2783617f26d09d57ed7b1383e8982a6f17a0b9b40282", func := "loop.example/g00043/laws.FnExactPeaks", spec := "fnExactPeaks", apart := false, narrowed := true }
def FnExactPeaksUptoSaid : Prop := fnExactPeaksUptoRow.holds Try.pinned (OpenSpec.upto fnExactPeaksSpec)

/-- 'laws.FnExactFollow', WHERE WHAT IT READS IS OF BULK AT MOST 1048576: true; the input reads as it did. -/
def fnExactFollowUptoRow : OpenClaim := { program := "ytonmdhaollhekaa", sum := "a259570231f07c4feeca2783617f26d09d57ed7b1383e8982a6f17a0b9b40282", func := "loop.example/g00043/laws.FnExactFollow", spec := "fnExactFollow", apart := false, narrowed := true }
def FnExactFollowUptoSaid : Prop := fnExactFollowUptoRow.holds Try.pinned (OpenSpec.upto fnExactFollowSpec)

/-- 'laws.FnExactUnFollow', WHERE WHAT IT READS IS OF BULK AT MOST 1048576: true; the input reads as it did. -/
def fnExactUnFollowUptoRow : OpenClaim := { program := "ytonmdhaollhekaa", sum := "a259570231f07c4feeca2783617f26d09d57ed7b1383e8982a6f17a0b9b40282", func := "loop.example/g00043/laws.FnExactUnFollow", spec := "fnExactUnFollow", apart := false, narrowed := true }
def FnExactUnFollowUptoSaid : Prop := fnExactUnFollowUptoRow.holds Try.pinned (OpenSpec.upto fnExactUnFollowSpec)

/-- 'laws.FnPeaked', WHERE WHAT IT READS IS OF BULK AT MOST 1048576: true; the input reads as it did. -/
def fnPeakedUptoRow : OpenClaim := { program := "ytonmdhaollhekaa", sum := "a259570231f07c4feeca2783617f26d09d57ed7b1383e8982a6f17a0b9b40282", func := "loop.example/g00043/laws.FnPeaked", spec := "fnPeaked", apart := false, narrowed := true }
def FnPeakedUptoSaid : Prop := fnPeakedUptoRow.holds Try.pinned (OpenSpec.upto fnPeakedSpec)

/-- 'laws.FnCrossed', WHERE WHAT IT READS IS OF BULK AT MOST 1048576: true; the input reads as it did. -/
def fnCrossedUptoRow : OpenClaim := { program := "ytonmdhaollhekaa", sum := "a259570231f07c4feeca2783617f26d09d57ed7b1383e8982a6f17a0b9b40282", func := "loop.example/g00043/laws.FnCrossed", spec := "fnCrossed", apart := false, narrowed := true }
def FnCrossedUptoSaid : Prop := fnCrossedUptoRow.holds Try.pinned (OpenSpec.upto fnCrossedSpec)

/-- 'laws.FnExactThreshold', WHERE WHAT IT READS IS OF BULK AT MOST 1048576: true; the input reads as it did. -/
def fnExactThresholdUptoRow : OpenClaim := { program := "ytonmdhaollhekaa", sum := "a259570231f07c4feeca2783617f26d09d57ed7b1383e8982a6f17a0b9b40282", func := "loop.example/g00043/laws.FnExactThreshold", spec := "fnExactThreshold", named := ["math/bits.divideError", "math/bits.overflowError"], apart := false, narrowed := true }
def FnExactThresholdUptoSaid : Prop := fnExactThresholdUptoRow.holds Try.pinned (OpenSpec.upto fnExactThresholdSpec)

/-- 'laws.FnThreshold', WHERE WHAT IT READS IS OF BULK AT MOST 1048576: true; the input reads as it did. -/
def fnThresholdUptoRow : OpenClaim := { program := "ytonmdhaollhekaa", sum := "a259570231f07c4feeca2783617f26d09d57ed7b1383e8982a6f17a0b9b40282", func := "loop.example/g00043/laws.FnThreshold", spec := "fnThreshold", named := ["math/bits.divideError", "math/bits.overflowError"], apart := false, narrowed := true }
def FnThresholdUptoSaid : Prop := fnThresholdUptoRow.holds Try.pinned (OpenSpec.upto fnThresholdSpec)

end Rows
end Go.Proofs.Ytonmdhaollhekaa
