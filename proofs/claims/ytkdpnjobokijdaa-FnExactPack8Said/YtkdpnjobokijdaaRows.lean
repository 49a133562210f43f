/-
  No cell of these rows narrows 'for every input' (looked for: loops, veiled, ifaces, maps, wideKeys, modest, calm, conditions, laid).
  DERIVED. THE GIVEN ROWS OF THIS SEAT. 12 by the template 'for every input the law returns true; each argument reads behind the call as it read before'; 0 by the template 'total and deterministic' (their statements: YtkdpnjobokijdaaTotals.lean).
  GIVEN WITH THE SEED: the statements are not yours to turn. If you find one false, say at which input.
  Laid BY PROGRAM, IN A SANDBOX (cutbox-rows.mjs): the forced cells as the released guide's own fill.sh prints them over the translation 9a7b4655f1144e54… (all of the seat's roots in one cut). By AI agents, Wed Nov 11 2026. No macro, syntax, notation, axiom, sorry.
-/
import Derived.Test.YtkdpnjobokijdaaChecked
import GoSem.Claim
import GoSem.ClaimJoined
import GoSem.ClaimMapViews
import Derived.JoinedTies
import Derived.KernelRfl
namespace Go.Proofs.Ytkdpnjobokijdaa
/- THE CELL 'sum', in the pinned program and in every row, IS THE sha256 OF THE DUMP (.gsa) THAT YtkdpnjobokijdaaProg.lean LOADS. Nothing in Lean hashes anything: it is a label: what it is worth is what the hold of that sum in a sandbox is worth. -/
noncomputable def Try.pinned : Pinned := { name := "ytkdpnjobokijdaa", sum := "9a7b4655f1144e54c3c84d4343026391943a07c91a8deac464b4c87ae2eb1614", checked := Try.checked }
namespace Rows
def none {H : Type} : Left H := { results := [], args := [] }

/-- 'laws.FnExactDiffer': WHATEVER THE INPUT: true; the input reads as it did. -/
def fnExactDifferSpec : ChangeSpec := { name := "fnExactDiffer", fn := fun _ => fun
  | [d] => { results := [.lit (.bool true)], args := [d] }
  | _ => none }
def fnExactDifferRow : OpenClaim := { program := "ytkdpnjobokijdaa", sum := "9a7b4655f1144e54c3c84d4343026391943a07c91a8deac464b4c87ae2eb1614", func := "loop.example/g00043/laws.FnExactDiffer", spec := "fnExactDiffer", apart := false }
def FnExactDifferSaid : Prop := fnExactDifferRow.holds Try.pinned (OpenSpec.ofChange fnExactDifferSpec)

/-- ITS FALSE NEIGHBOUR: 'it returns false'. Refute it at one input. -/
def fnExactDifferWrong : ChangeSpec := { name := "fnExactDiffer", fn := fun _ => fun
  | [d] => { results := [.lit (.bool false)], args := [d] }
  | _ => none }
def FnExactDifferWrongFalsely : Prop := fnExactDifferRow.holds Try.pinned (OpenSpec.ofChange fnExactDifferWrong)

/-- 'laws.FnExactUnDiffer': WHATEVER THE INPUT: true; the input reads as it did. -/
def fnExactUnDifferSpec : ChangeSpec := { name := "fnExactUnDiffer", fn := fun _ => fun
  | [d] => { results := [.lit (.bool true)], args := [d] }
  | _ => none }
def fnExactUnDifferRow : OpenClaim := { program := "ytkdpnjobokijdaa", sum := "9a7b4655f1144e54c3c84d4343026391943a07c91a8deac464b4c87ae2eb1614", func := "loop.example/g00043/laws.FnExactUnDiffer", spec := "fnExactUnDiffer", apart := false }
def FnExactUnDifferSaid : Prop := fnExactUnDifferRow.holds Try.pinned (OpenSpec.ofChange fnExactUnDifferSpec)

/-- ITS FALSE NEIGHBOUR: 'it returns false'. Refute it at one input. -/
def fnExactUnDifferWrong : ChangeSpec := { name := "fnExactUnDiffer", fn := fun _ => fun
  | [d] => { results := [.lit (.bool false)], args := [d] }
  | _ => none }
def FnExactUnDifferWrongFalsely : Prop := fnExactUnDifferRow.holds Try.pinned (OpenSpec.ofChange fnExactUnDifferWrong)

/-- 'laws.FnExactThin': WHATEVER THE INPUT: true; the input reads as it did. -/
def fnExactThinSpec : ChangeSpec := { name := "fnExactThin", fn := fun _ => fun
  | [d1, d2] => { results := [.lit (.bool true)], args := [d1, d2] }
  | _ => none }
def fnExactThinRow : OpenClaim := { program := "ytkdpnjobokijdaa", sum := "9a7b4655f1144e54c3c84d4343026391943a07c91a8deac464b4c87ae2eb1614", func := "loop.example/g00043/laws.FnExactThin", spec := "fnExactThin", apart := false }
def FnExactThinSaid : Prop := fnExactThinRow.holds Try.pinned (OpenSpec.ofChange fnExactThinSpec)

/-- ITS FALSE NEIGHBOUR: 'it returns false'. Refute it at one input. -/
def fnExactThinWrong : ChangeSpec := { name := "fnExactThin", fn := fun _ => fun
  | [d1, d2] => { results := [.lit (.bool false)], args := [d1, d2] }
  | _ => none }
def FnExactThinWrongFalsely : Prop := fnExactThinRow.holds Try.pinned (OpenSpec.ofChange fnExactThinWrong)

/-- 'laws.FnGray': WHATEVER THE INPUT: true; the input reads as it did. -/
def fnGraySpec : ChangeSpec := { name := "fnGray", fn := fun _ => fun
  | [d] => { results := [.lit (.bool true)], args := [d] }
  | _ => none }
def fnGrayRow : OpenClaim := { program := "ytkdpnjobokijdaa", sum := "9a7b4655f1144e54c3c84d4343026391943a07c91a8deac464b4c87ae2eb1614", func := "loop.example/g00043/laws.FnGray", spec := "fnGray", apart := false }
def FnGraySaid : Prop := fnGrayRow.holds Try.pinned (OpenSpec.ofChange fnGraySpec)

/-- ITS FALSE NEIGHBOUR: 'it returns false'. Refute it at one input. -/
def fnGrayWrong : ChangeSpec := { name := "fnGray", fn := fun _ => fun
  | [d] => { results := [.lit (.bool false)], args := [d] }
  | _ => none }
def FnGrayWrongFalsely : Prop := fnGrayRow.holds Try.pinned (OpenSpec.ofChange fnGrayWrong)

/-- 'laws.FnExactUnweave': WHATEVER THE INPUT: true; the input reads as it did. -/
def fnExactUnweaveSpec : ChangeSpec := { name := "fnExactUnweave", fn := fun _ => fun
  | [d1, d2] => { results := [.lit (.bool true)], args := [d1, d2] }
  | _ => none }
def fnExactUnweaveRow : OpenClaim := { program := "ytkdpnjobokijdaa", sum := "9a7b4655f1144e54c3c84d4343026391943a07c91a8deac464b4c87ae2eb1614", func := "loop.example/g00043/laws.FnExactUnweave", spec := "fnExactUnweave", apart := false }
def FnExactUnweaveSaid : Prop := fnExactUnweaveRow.holds Try.pinned (OpenSpec.ofChange fnExactUnweaveSpec)

/-- ITS FALSE NEIGHBOUR: 'it returns false'. Refute it at one input. -/
def fnExactUnweaveWrong : ChangeSpec := { name := "fnExactUnweave", fn := fun _ => fun
  | [d1, d2] => { results := [.lit (.bool false)], args := [d1, d2] }
  | _ => none }
def FnExactUnweaveWrongFalsely : Prop := fnExactUnweaveRow.holds Try.pinned (OpenSpec.ofChange fnExactUnweaveWrong)

/-- 'laws.FnExactWeave': WHATEVER THE INPUT: true; the input reads as it did. -/
def fnExactWeaveSpec : ChangeSpec := { name := "fnExactWeave", fn := fun _ => fun
  | [d1, d2] => { results := [.lit (.bool true)], args := [d1, d2] }
  | _ => none }
def fnExactWeaveRow : OpenClaim := { program := "ytkdpnjobokijdaa", sum := "9a7b4655f1144e54c3c84d4343026391943a07c91a8deac464b4c87ae2eb1614", func := "loop.example/g00043/laws.FnExactWeave", spec := "fnExactWeave", apart := false }
def FnExactWeaveSaid : Prop := fnExactWeaveRow.holds Try.pinned (OpenSpec.ofChange fnExactWeaveSpec)

/-- ITS FALSE NEIGHBOUR: 'it returns false'. Refute it at one input. -/
def fnExactWeaveWrong : ChangeSpec := { name := "fnExactWeave", fn := fun _ => fun
  | [d1, d2] => { results := [.lit (.bool false)], args := [d1, d2] }
  | _ => none }
def FnExactWeaveWrongFalsely : Prop := fnExactWeaveRow.holds Try.pinned (OpenSpec.ofChange fnExactWeaveWrong)

/-- 'laws.FnExactUnHam': WHATEVER THE INPUT: true; the input reads as it did. -/
def fnExactUnHamSpec : ChangeSpec := { name := "fnExactUnHam", fn := fun _ => fun
  | [d] => { results := [.lit (.bool true)], args := [d] }
  | _ => none }
def fnExactUnHamRow : OpenClaim := { program := "ytkdpnjobokijdaa", sum := "9a7b4655f1144e54c3c84d4343026391943a07c91a8deac464b4c87ae2eb1614", func := "loop.example/g00043/laws.FnExactUnHam", spec := "fnExactUnHam", apart := false }
def FnExactUnHamSaid : Prop := fnExactUnHamRow.holds Try.pinned (OpenSpec.ofChange fnExactUnHamSpec)

/-- ITS FALSE NEIGHBOUR: 'it returns false'. Refute it at one input. -/
def fnExactUnHamWrong : ChangeSpec := { name := "fnExactUnHam", fn := fun _ => fun
  | [d] => { results := [.lit (.bool false)], args := [d] }
  | _ => none }
def FnExactUnHamWrongFalsely : Prop := fnExactUnHamRow.holds Try.pinned (OpenSpec.ofChange fnExactUnHamWrong)

/-- 'laws.FnExactStir': WHATEVER THE INPUT: true; the input reads as it did. -/
def fnExactStirSpec : ChangeSpec := { name := "fnExactStir", fn := fun _ => fun
  | [d1, d2, d3] => { results := [.lit (.bool true)], args := [d1, d2, d3] }
  | _ => none }
def fnExactStirRow : OpenClaim := { program := "ytkdpnjobokijdaa", sum := "9a7b4655f1144e54c3c84d4343026391943a07c91a8deac464b4c87ae2eb1614", func := "loop.example/g00043/laws.FnExactStir", spec := "fnExactStir", apart := false }
def FnExactStirSaid : Prop := fnExactStirRow.holds Try.pinned (OpenSpec.ofChange fnExactStirSpec)

/-- ITS FALSE NEIGHBOUR: 'it returns false'. Refute it at one input. -/
def fnExactStirWrong : ChangeSpec := { name := "fnExactStir", fn := fun _ => fun
  | [d1, d2, d3] => { results := [.lit (.bool false)], args := [d1, d2, d3] }
  | _ => none }
def FnExactStirWrongFalsely : Prop := fnExactStirRow.holds Try.pinned (OpenSpec.ofChange fnExactStirWrong)

/-- 'laws.FnExactMatch': WHATEVER THE INPUT: true; the input reads as it did. -/
def fnExactMatchSpec : ChangeSpec := { name := "fnExactMatch", fn := fun _ => fun
  | [d1, d2] => { results := [.lit (.bool true)], args := [d1, d2] }
  | _ => none }
def fnExactMatchRow : OpenClaim := { program := "ytkdpnjobokijdaa", sum := "9a7b4655f1144e54c3c84d4343026391943a07c91a8deac464b4c87ae2eb1614", func := "loop.example/g00043/laws.FnExactMatch", spec := "fnExactMatch", apart := false }
def FnExactMatchSaid : Prop := fnExactMatchRow.holds Try.pinned (OpenSpec.ofChange fnExactMatchSpec)

/-- ITS FALSE NEIGHBOUR: 'it returns false'. Refute it at one input. -/
def fnExactMatchWrong : ChangeSpec := { name := "fnExactMatch", fn := fun _ => fun
  | [d1, d2] => { results := [.lit (.bool false)], args := [d1, d2] }
  | _ => none }
def FnExactMatchWrongFalsely : Prop := fnExactMatchRow.holds Try.pinned (OpenSpec.ofChange fnExactMatchWrong)

/-- 'laws.FnExactUnpack8': WHATEVER THE INPUT: true; the input reads as it did. -/
def fnExactUnpack8Spec : ChangeSpec := { name := "fnExactUnpack8", fn := fun _ => fun
  | [d1, d2] => { results := [.lit (.bool true)], args := [d1, d2] }
  | _ => none }
def fnExactUnpack8Row : OpenClaim := { program := "ytkdpnjobokijdaa", sum := "9a7b4655f1144e54c3c84d4343026391943a07c91a8deac464b4c87ae2eb1614", func := "loop.example/g00043/laws.FnExactUnpack8", spec := "fnExactUnpack8", apart := false }
def FnExactUnpack8Said : Prop := fnExactUnpack8Row.holds Try.pinned (OpenSpec.ofChange fnExactUnpack8Spec)

/-- ITS FALSE NEIGHBOUR: 'it returns false'. Refute it at one input. -/
def fnExactUnpack8Wrong : ChangeSpec := { name := "fnExactUnpack8", fn := fun _ => fun
  | [d1, d2] => { results := [.lit (.bool false)], args := [d1, d2] }
  | _ => none }
def FnExactUnpack8WrongFalsely : Prop := fnExactUnpack8Row.holds Try.pinned (OpenSpec.ofChange fnExactUnpack8Wrong)

/-- 'laws.FnExactCounts': WHATEVER THE INPUT: true; the input reads as it did. -/
def fnExactCountsSpec : ChangeSpec := { name := "fnExactCounts", fn := fun _ => fun
  | [d1, d2] => { results := [.lit (.bool true)], args := [d1, d2] }
  | _ => none }
def fnExactCountsRow : OpenClaim := { program := "ytkdpnjobokijdaa", sum := "9a7b4655f1144e54c3c84d4343026391943a07c91a8deac464b4c87ae2eb1614", func := "loop.example/g00043/laws.FnExactCounts", spec := "fnExactCounts", apart := false }
def FnExactCountsSaid : Prop := fnExactCountsRow.holds Try.pinned (OpenSpec.ofChange fnExactCountsSpec)

/-- ITS FALSE NEIGHBOUR: 'it returns false'. Refute it at one input. -/
def fnExactCountsWrong : ChangeSpec := { name := "fnExactCounts", fn := fun _ => fun
  | [d1, d2] => { results := [.lit (.bool false)], args := [d1, d2] }
  | _ => none }
def FnExactCountsWrongFalsely : Prop := fnExactCountsRow.holds Try.pinned (OpenSpec.ofChange fnExactCountsWrong)

/-- 'laws.FnExactPack8': WHATEVER THE INPUT: true; the input reads as it did. -/
def fnExactPack8Spec : ChangeSpec := { name := "fnExactPack8", fn := fun _ => fun
  | [d] => { results := [.lit (.bool true)], args := [d] }
  | _ => none }
def fnExactPack8Row : OpenClaim := { program := "ytkdpnjobokijdaa", sum := "9a7b4655f1144e54c3c84d4343026391943a07c91a8deac464b4c87ae2eb1614", func := "loop.example/g00043/laws.FnExactPack8", spec := "fnExactPack8", apart := false }
def FnExactPack8Said : Prop := fnExactPack8Row.holds Try.pinned (OpenSpec.ofChange fnExactPack8Spec)

/-- ITS FALSE NEIGHBOUR: 'it returns false'. Refute it at one input. -/
def fnExactPack8Wrong : ChangeSpec := { name := "fnExactPack8", fn := fun _ => fun
  | [d] => { results := [.lit (.bool false)], args := [d] }
  | _ => none }
def FnExactPack8WrongFalsely : Prop := fnExactPack8Row.holds Try.pinned (OpenSpec.ofChange fnExactPack8Wrong)

/- THE SECOND FORM. 'bulk': how many values and letters a reading holds, each counted each time it is reached (what is shared counts as often as it is met; a slice's spare places count too). A statement '..UptoSaid' is the law's where the arguments, and the package variables that the reading takes, are together of bulk at most 1048576: NARROWER than '..Said'. Prove '..Said' where nothing that the law and all that it calls make is longer than what came in: it says more and counts as full. Else prove '..UptoSaid'. A law counts once. -/
mutual
def uptoBulk {H : Type} : DataW H → Nat
  | .lit (.string bytes) => bytes.length + 1
  | .lit _ => 1
  | .nil => 1
  | .ptr d => uptoBulk d + 1
  | .slice elems spare => uptoBulkAll elems + uptoBulkAll spare + 1
  | .agg parts => uptoBulkAll parts + 1
  | .iface _ d => uptoBulk d + 1
  | .map entries => uptoBulkEntries entries + 1
  | .held _ => 1
def uptoBulkAll {H : Type} : List (DataW H) → Nat
  | [] => 0
  | d :: r => uptoBulk d + uptoBulkAll r
def uptoBulkEntries {H : Type} : List (Lit × DataW H) → Nat
  | [] => 0
  | x :: r => uptoBulkEntry x + uptoBulkEntries r
def uptoBulkEntry {H : Type} : Lit × DataW H → Nat
  | (.string bytes, d) => bytes.length + uptoBulk d + 1
  | (_, d) => uptoBulk d + 1
 end
def uptoSmall : (H : Type) → List (DataW H) → Bool := fun _ ds => decide (uptoBulkAll ds ≤ 1048576)
def OpenSpec.upto (s : _root_.Go.ChangeSpec) : _root_.Go.OpenSpec := { _root_.Go.OpenSpec.ofChange s with cond := some uptoSmall }

/-- 'laws.FnExactDiffer', WHERE WHAT IT READS IS OF BULK AT MOST 1048576: true; the input reads as it did. -/
def fnExactDifferUptoRow : OpenClaim := { program := "ytkdpnjobokijdaa", sum := "9a7b4655f1144e54c3c84d4343026391943a07c91a8deac464b4c87ae2eb1614", func := "loop.example/g00043/laws.FnExactDiffer", spec := "fnExactDiffer", apart := false, narrowed := true }
def FnExactDifferUptoSaid : Prop := fnExactDifferUptoRow.holds Try.pinned (OpenSpec.upto fnExactDifferSpec)

/-- 'laws.FnExactUnDiffer', WHERE WHAT IT READS IS OF BULK AT MOST 1048576: true; the input reads as it did. -/
def fnExactUnDifferUptoRow : OpenClaim := { program := "ytkdpnjobokijdaa", sum := "9a7b4655f1144e54c3c84d4343026391943a07c91a8deac464b4c87ae2eb1614", func := "loop.example/g00043/laws.FnExactUnDiffer", spec := "fnExactUnDiffer", apart := false, narrowed := true }
def FnExactUnDifferUptoSaid : Prop := fnExactUnDifferUptoRow.holds Try.pinned (OpenSpec.upto fnExactUnDifferSpec)

/-- 'laws.FnExactThin', WHERE WHAT IT READS IS OF BULK AT MOST 1048576: true; the input reads as it did. -/
def fnExactThinUptoRow : OpenClaim := { program := "ytkdpnjobokijdaa", sum := "9a7b4655f1144e54c3c84d4343026391943a07c91a8deac464b4c87ae2eb1614", func := "loop.example/g00043/laws.FnExactThin", spec := "fnExactThin", apart := false, narrowed := true }
def FnExactThinUptoSaid : Prop := fnExactThinUptoRow.holds Try.pinned (OpenSpec.upto fnExactThinSpec)

/-- 'laws.FnGray', WHERE WHAT IT READS IS OF BULK AT MOST 1048576: true; the input reads as it did. -/
def fnGrayUptoRow : OpenClaim := { program := "ytkdpnjobokijdaa", sum := "9a7b4655f1144e54c3c84d4343026391943a07c91a8deac464b4c87ae2eb1614", func := "loop.example/g00043/laws.FnGray", spec := "fnGray", apart := false, narrowed := true }
def FnGrayUptoSaid : Prop := fnGrayUptoRow.holds Try.pinned (OpenSpec.upto fnGraySpec)

/-- 'laws.FnExactUnweave', WHERE WHAT IT READS IS OF BULK AT MOST 1048576: true; the input reads as it did. -/
def fnExactUnweaveUptoRow : OpenClaim := { program := "ytkdpnjobokijdaa", sum := "9a7b4655f1144e54c3c84d4343026391943a07c91a8deac464b4c87ae2eb1614", func := "loop.example/g00043/laws.FnExactUnweave", spec := "fnExactUnweave", apart := false, narrowed := true }
def FnExactUnweaveUptoSaid : Prop := fnExactUnweaveUptoRow.holds Try.pinned (OpenSpec.upto fnExactUnweaveSpec)

/-- 'laws.FnExactWeave', WHERE WHAT IT READS IS OF BULK AT MOST 1048576: true; the input reads as it did. -/
def fnExactWeaveUptoRow : OpenClaim := { program := "ytkdpnjobokijdaa", sum := "9a7b4655f1144e54c3c84d4343026391943a07c91a8deac464b4c87ae2eb1614", func := "loop.example/g00043/laws.FnExactWeave", spec := "fnExactWeave", apart := false, narrowed := true }
def FnExactWeaveUptoSaid : Prop := fnExactWeaveUptoRow.holds Try.pinned (OpenSpec.upto fnExactWeaveSpec)

/-- 'laws.FnExactUnHam', WHERE WHAT IT READS IS OF BULK AT MOST 1048576: true; the input reads as it did. -/
def fnExactUnHamUptoRow : OpenClaim := { program := "ytkdpnjobokijdaa", sum := "9a7b4655f1144e54c3c84d4343026391943a07c91a8deac464b4c87ae2eb1614", func := "loop.example/g00043/laws.FnExactUnHam", spec := "fnExactUnHam", apart := false, narrowed := true }
def FnExactUnHamUptoSaid : Prop := fnExactUnHamUptoRow.holds Try.pinned (OpenSpec.upto fnExactUnHamSpec)

/-- 'laws.FnExactStir', WHERE WHAT IT READS IS OF BULK AT MOST 1048576: true; the input reads as it did. -/
def fnExactStirUptoRow : OpenClaim := { program := "ytkdpnjobokijdaa", sum := "9a7b4655f1144e54c3c84d4343026391943a07c91a8deac464b4c87ae2eb1614", func := "loop.example/g00043/laws.FnExactStir", spec := "fnExactStir", apart := false, narrowed := true }
def FnExactStirUptoSaid : Prop := fnExactStirUptoRow.holds Try.pinned (OpenSpec.upto fnExactStirSpec)

/-- 'laws.FnExactMatch', WHERE WHAT IT READS IS OF BULK AT MOST 1048576: true; the input reads as it did. -/
def fnExactMatchUptoRow : OpenClaim := { program := "ytkdpnjobokijdaa", sum := "9a7b4655f1144e54c3c84d4343026391943a07c91a8deac464b4c87ae2eb1614", func := "loop.example/g00043/laws.FnExactMatch", spec := "fnExactMatch", apart := false, narrowed := true }
def FnExactMatchUptoSaid : Prop := fnExactMatchUptoRow.holds Try.pinned (OpenSpec.upto fnExactMatchSpec)

/-- 'laws.FnExactUnpack8', WHERE WHAT IT READS IS OF BULK AT MOST 1048576: true; the input reads as it did. -/
def fnExactUnpack8UptoRow : OpenClaim := { program := "ytkdpnjobokijdaa", sum := "9a7b4655f1144e54c3c84d4343026391943a07c91a8deac464b4c87ae2eb1614", func := "loop.example/g00043/laws.FnExactUnpack8", spec := "fnExactUnpack8", apart := false, narrowed := true }
def FnExactUnpack8UptoSaid : Prop := fnExactUnpack8UptoRow.holds Try.pinned (OpenSpec.upto fnExactUnpack8Spec)

/-- 'laws.FnExactCounts', WHERE WHAT IT READS IS OF BULK AT MOST 1048576: true; the input reads as it did. -/
def fnExactCountsUptoRow : OpenClaim := { program := "ytkdpnjobokijdaa", sum := "9a7b4655f1144e54c3c84d4343026391943a07c91a8deac464b4c87ae2eb1614", func := "loop.example/g00043/laws.FnExactCounts", spec := "fnExactCounts", apart := false, narrowed := true }
def FnExactCountsUptoSaid : Prop := fnExactCountsUptoRow.holds Try.pinned (OpenSpec.upto fnExactCountsSpec)

/-- 'laws.FnExactPack8', WHERE WHAT IT READS IS OF BULK AT MOST 1048576: true; the input reads as it did. -/
def fnExactPack8UptoRow : OpenClaim := { program := "ytkdpnjobokijdaa", sum := "9a7b4655f1144e54c3c84d4343026391943a07c91a8deac464b4c87ae2eb1614", func := "loop.example/g00043/laws.FnExactPack8", spec := "fnExactPack8", apart := false, narrowed := true }
def FnExactPack8UptoSaid : Prop := fnExactPack8UptoRow.holds Try.pinned (OpenSpec.upto fnExactPack8Spec)

end Rows
end Go.Proofs.Ytkdpnjobokijdaa
