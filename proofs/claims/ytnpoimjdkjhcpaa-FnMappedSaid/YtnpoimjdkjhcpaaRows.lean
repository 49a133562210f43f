/-
  No cell of these rows narrows 'for every input' (looked for: loops, veiled, ifaces, maps, wideKeys, modest, calm, conditions, laid).
  DERIVED. THE GIVEN ROWS OF THIS SEAT. 10 by the template 'for every input the law returns true; each argument reads behind the call as it read before'; 0 by the template 'total and deterministic' (their statements: YtnpoimjdkjhcpaaTotals.lean).
  GIVEN WITH THE SEED: the statements are not yours to turn. If you find one false, say at which input.
  Laid BY PROGRAM, IN A SANDBOX (cutbox-rows.mjs): the forced cells as the released guide's own fill.sh prints them over the translation 6d58c80dc1099cb2… (all of the seat's roots in one cut). By AI agents, Wed Nov 11 2026. No macro, syntax, notation, axiom, sorry.
-/
import Derived.Test.YtnpoimjdkjhcpaaChecked
import GoSem.Claim
import GoSem.ClaimJoined
import GoSem.ClaimMapViews
import Derived.JoinedTies
import Derived.KernelRfl
namespace Go.Proofs.Ytnpoimjdkjhcpaa
/- THE CELL 'sum', in the pinned program and in every row, IS THE sha256 OF THE DUMP (.gsa) THAT YtnpoimjdkjhcpaaProg.lean LOADS. Nothing in Lean hashes anything: it is a label: what it is worth is what the hold of that sum in a sandbox is worth. -/
noncomputable def Try.pinned : Pinned := { name := "ytnpoimjdkjhcpaa", sum := "6d58c80dc1099cb20ba7e27d5301b7974faafa41129ea455a1ddb4900a9ad894", checked := Try.checked }
namespace Rows
def none {H : Type} : Left H := { results := [], args := [] }

/-- 'laws.FnCrc': WHATEVER THE INPUT: true; the input reads as it did. -/
def fnCrcSpec : ChangeSpec := { name := "fnCrc", fn := fun _ => fun
  | [d] => { results := [.lit (.bool true)], args := [d] }
  | _ => none }
def fnCrcRow : OpenClaim := { program := "ytnpoimjdkjhcpaa", sum := "6d58c80dc1099cb20ba7e27d5301b7974faafa41129ea455a1ddb4900a9ad894", func := "loop.example/g00043/laws.FnCrc", spec := "fnCrc", apart := false }
def FnCrcSaid : Prop := fnCrcRow.holds Try.pinned (OpenSpec.ofChange fnCrcSpec)

/-- ITS FALSE NEIGHBOUR: 'it returns false'. Refute it at one input. -/
def fnCrcWrong : ChangeSpec := { name := "fnCrc", fn := fun _ => fun
  | [d] => { results := [.lit (.bool false)], args := [d] }
  | _ => none }
def FnCrcWrongFalsely : Prop := fnCrcRow.holds Try.pinned (OpenSpec.ofChange fnCrcWrong)

/-- 'laws.FnExactUnpack8': WHATEVER THE INPUT: true; the input reads as it did. -/
def fnExactUnpack8Spec : ChangeSpec := { name := "fnExactUnpack8", fn := fun _ => fun
  | [d1, d2] => { results := [.lit (.bool true)], args := [d1, d2] }
  | _ => none }
def fnExactUnpack8Row : OpenClaim := { program := "ytnpoimjdkjhcpaa", sum := "6d58c80dc1099cb20ba7e27d5301b7974faafa41129ea455a1ddb4900a9ad894", func := "loop.example/g00043/laws.FnExactUnpack8", spec := "fnExactUnpack8", apart := false }
def FnExactUnpack8Said : Prop := fnExactUnpack8Row.holds Try.pinned (OpenSpec.ofChange fnExactUnpack8Spec)

/-- ITS FALSE NEIGHBOUR: 'it returns false'. Refute it at one input. -/
def fnExactUnpack8Wrong : ChangeSpec := { name := "fnExactUnpack8", fn := fun _ => fun
  | [d1, d2] => { results := [.lit (.bool false)], args := [d1, d2] }
  | _ => none }
def FnExactUnpack8WrongFalsely : Prop := fnExactUnpack8Row.holds Try.pinned (OpenSpec.ofChange fnExactUnpack8Wrong)

/-- 'laws.FnExactMap': WHATEVER THE INPUT: true; the input reads as it did. -/
def fnExactMapSpec : ChangeSpec := { name := "fnExactMap", fn := fun _ => fun
  | [d1, d2] => { results := [.lit (.bool true)], args := [d1, d2] }
  | _ => none }
def fnExactMapRow : OpenClaim := { program := "ytnpoimjdkjhcpaa", sum := "6d58c80dc1099cb20ba7e27d5301b7974faafa41129ea455a1ddb4900a9ad894", func := "loop.example/g00043/laws.FnExactMap", spec := "fnExactMap", unfollowed := true, recurses := true, apart := false }
def FnExactMapSaid : Prop := fnExactMapRow.holds Try.pinned (OpenSpec.ofChange fnExactMapSpec)

/-- ITS FALSE NEIGHBOUR: 'it returns false'. Refute it at one input. -/
def fnExactMapWrong : ChangeSpec := { name := "fnExactMap", fn := fun _ => fun
  | [d1, d2] => { results := [.lit (.bool false)], args := [d1, d2] }
  | _ => none }
def FnExactMapWrongFalsely : Prop := fnExactMapRow.holds Try.pinned (OpenSpec.ofChange fnExactMapWrong)

/-- 'laws.FnMatched': WHATEVER THE INPUT: true; the input reads as it did. -/
def fnMatchedSpec : ChangeSpec := { name := "fnMatched", fn := fun _ => fun
  | [d] => { results := [.lit (.bool true)], args := [d] }
  | _ => none }
def fnMatchedRow : OpenClaim := { program := "ytnpoimjdkjhcpaa", sum := "6d58c80dc1099cb20ba7e27d5301b7974faafa41129ea455a1ddb4900a9ad894", func := "loop.example/g00043/laws.FnMatched", spec := "fnMatched", apart := false }
def FnMatchedSaid : Prop := fnMatchedRow.holds Try.pinned (OpenSpec.ofChange fnMatchedSpec)

/-- ITS FALSE NEIGHBOUR: 'it returns false'. Refute it at one input. -/
def fnMatchedWrong : ChangeSpec := { name := "fnMatched", fn := fun _ => fun
  | [d] => { results := [.lit (.bool false)], args := [d] }
  | _ => none }
def FnMatchedWrongFalsely : Prop := fnMatchedRow.holds Try.pinned (OpenSpec.ofChange fnMatchedWrong)

/-- 'laws.FnExactDecide': WHATEVER THE INPUT: true; the input reads as it did. -/
def fnExactDecideSpec : ChangeSpec := { name := "fnExactDecide", fn := fun _ => fun
  | [d1, d2] => { results := [.lit (.bool true)], args := [d1, d2] }
  | _ => none }
def fnExactDecideRow : OpenClaim := { program := "ytnpoimjdkjhcpaa", sum := "6d58c80dc1099cb20ba7e27d5301b7974faafa41129ea455a1ddb4900a9ad894", func := "loop.example/g00043/laws.FnExactDecide", spec := "fnExactDecide", unfollowed := true, recurses := true, apart := false }
def FnExactDecideSaid : Prop := fnExactDecideRow.holds Try.pinned (OpenSpec.ofChange fnExactDecideSpec)

/-- ITS FALSE NEIGHBOUR: 'it returns false'. Refute it at one input. -/
def fnExactDecideWrong : ChangeSpec := { name := "fnExactDecide", fn := fun _ => fun
  | [d1, d2] => { results := [.lit (.bool false)], args := [d1, d2] }
  | _ => none }
def FnExactDecideWrongFalsely : Prop := fnExactDecideRow.holds Try.pinned (OpenSpec.ofChange fnExactDecideWrong)

/-- 'laws.FnDrifted': WHATEVER THE INPUT: true; the input reads as it did. -/
def fnDriftedSpec : ChangeSpec := { name := "fnDrifted", fn := fun _ => fun
  | [d] => { results := [.lit (.bool true)], args := [d] }
  | _ => none }
def fnDriftedRow : OpenClaim := { program := "ytnpoimjdkjhcpaa", sum := "6d58c80dc1099cb20ba7e27d5301b7974faafa41129ea455a1ddb4900a9ad894", func := "loop.example/g00043/laws.FnDrifted", spec := "fnDrifted", unfollowed := true, recurses := true, apart := false }
def FnDriftedSaid : Prop := fnDriftedRow.holds Try.pinned (OpenSpec.ofChange fnDriftedSpec)

/-- ITS FALSE NEIGHBOUR: 'it returns false'. Refute it at one input. -/
def fnDriftedWrong : ChangeSpec := { name := "fnDrifted", fn := fun _ => fun
  | [d] => { results := [.lit (.bool false)], args := [d] }
  | _ => none }
def FnDriftedWrongFalsely : Prop := fnDriftedRow.holds Try.pinned (OpenSpec.ofChange fnDriftedWrong)

/-- 'laws.FnMapped': WHATEVER THE INPUT: true; the input reads as it did. -/
def fnMappedSpec : ChangeSpec := { name := "fnMapped", fn := fun _ => fun
  | [d] => { results := [.lit (.bool true)], args := [d] }
  | _ => none }
def fnMappedRow : OpenClaim := { program := "ytnpoimjdkjhcpaa", sum := "6d58c80dc1099cb20ba7e27d5301b7974faafa41129ea455a1ddb4900a9ad894", func := "loop.example/g00043/laws.FnMapped", spec := "fnMapped", unfollowed := true, recurses := true, apart := false }
def FnMappedSaid : Prop := fnMappedRow.holds Try.pinned (OpenSpec.ofChange fnMappedSpec)

/-- ITS FALSE NEIGHBOUR: 'it returns false'. Refute it at one input. -/
def fnMappedWrong : ChangeSpec := { name := "fnMapped", fn := fun _ => fun
  | [d] => { results := [.lit (.bool false)], args := [d] }
  | _ => none }
def FnMappedWrongFalsely : Prop := fnMappedRow.holds Try.pinned (OpenSpec.ofChange fnMappedWrong)

/-- 'laws.FnRational': WHATEVER THE INPUT: true; the input reads as it did. -/
def fnRationalSpec : ChangeSpec := { name := "fnRational", fn := fun _ => fun
  | [d] => { results := [.lit (.bool true)], args := [d] }
  | _ => none }
def fnRationalRow : OpenClaim := { program := "ytnpoimjdkjhcpaa", sum := "6d58c80dc1099cb20ba7e27d5301b7974faafa41129ea455a1ddb4900a9ad894", func := "loop.example/g00043/laws.FnRational", spec := "fnRational", apart := false }
def FnRationalSaid : Prop := fnRationalRow.holds Try.pinned (OpenSpec.ofChange fnRationalSpec)

/-- ITS FALSE NEIGHBOUR: 'it returns false'. Refute it at one input. -/
def fnRationalWrong : ChangeSpec := { name := "fnRational", fn := fun _ => fun
  | [d] => { results := [.lit (.bool false)], args := [d] }
  | _ => none }
def FnRationalWrongFalsely : Prop := fnRationalRow.holds Try.pinned (OpenSpec.ofChange fnRationalWrong)

/-- 'laws.FnExactChain': WHATEVER THE INPUT: true; the input reads as it did. -/
def fnExactChainSpec : ChangeSpec := { name := "fnExactChain", fn := fun _ => fun
  | [d1, d2] => { results := [.lit (.bool true)], args := [d1, d2] }
  | _ => none }
def fnExactChainRow : OpenClaim := { program := "ytnpoimjdkjhcpaa", sum := "6d58c80dc1099cb20ba7e27d5301b7974faafa41129ea455a1ddb4900a9ad894", func := "loop.example/g00043/laws.FnExactChain", spec := "fnExactChain", apart := false }
def FnExactChainSaid : Prop := fnExactChainRow.holds Try.pinned (OpenSpec.ofChange fnExactChainSpec)

/-- ITS FALSE NEIGHBOUR: 'it returns false'. Refute it at one input. -/
def fnExactChainWrong : ChangeSpec := { name := "fnExactChain", fn := fun _ => fun
  | [d1, d2] => { results := [.lit (.bool false)], args := [d1, d2] }
  | _ => none }
def FnExactChainWrongFalsely : Prop := fnExactChainRow.holds Try.pinned (OpenSpec.ofChange fnExactChainWrong)

/-- 'laws.FnStirred': WHATEVER THE INPUT: true; the input reads as it did. -/
def fnStirredSpec : ChangeSpec := { name := "fnStirred", fn := fun _ => fun
  | [d] => { results := [.lit (.bool true)], args := [d] }
  | _ => none }
def fnStirredRow : OpenClaim := { program := "ytnpoimjdkjhcpaa", sum := "6d58c80dc1099cb20ba7e27d5301b7974faafa41129ea455a1ddb4900a9ad894", func := "loop.example/g00043/laws.FnStirred", spec := "fnStirred", apart := false }
def FnStirredSaid : Prop := fnStirredRow.holds Try.pinned (OpenSpec.ofChange fnStirredSpec)

/-- ITS FALSE NEIGHBOUR: 'it returns false'. Refute it at one input. -/
def fnStirredWrong : ChangeSpec := { name := "fnStirred", fn := fun _ => fun
  | [d] => { results := [.lit (.bool false)], args := [d] }
  | _ => none }
def FnStirredWrongFalsely : Prop := fnStirredRow.holds Try.pinned (OpenSpec.ofChange fnStirredWrong)

/- THE SECOND FORM. 'bulk': how many values and letters a reading holds, each counted each time it is reached (what is shared counts as often as it is met; a slice's spare places count too). A statement '..UptoSaid' is the law's where the arguments, and the package variables that the reading takes, are together of bulk at most 1048576: NARROWER than '..Said'. Prove '..Said' where nothing that the law and all that it calls make is longer than what came in: it says more and counts as full. Else prove '..UptoSaid'. A law counts once. -/
mutual
def uptoBulk {H : Type} : DataW H → Nat
  | .lit (.string bytes) => bytes.length + 1
  | .lit _ => 1
  | .nil => 1
  | .ptr d => uptoBulk d + 1
  | .slice elems spare => uptoBulkAll elems + uptoBulkAll spare + 1
  | .agg parts => uptoBulkAll parts + 1
  | .iface _ d => uptoBulk d + 1
  | .map entries => uptoBulkEntries entries + 1
  | .held _ => 1
def uptoBulkAll {H : Type} : List (DataW H) → Nat
  | [] => 0
  | d :: r => uptoBulk d + uptoBulkAll r
def uptoBulkEntries {H : Type} : List (Lit × DataW H) → Nat
  | [] => 0
  | x :: r => uptoBulkEntry x + uptoBulkEntries r
def uptoBulkEntry {H : Type} : Lit × DataW H → Nat
  | (.string bytes, d) => bytes.length + uptoBulk d + 1
  | (_, d) => uptoBulk d + 1
 end
def uptoSmall : (H : Type) → List (DataW H) → Bool := fun _ ds => decide (uptoBulkAll ds ≤ 1048576)
def OpenSpec.upto (s : _root_.Go.ChangeSpec) : _root_.Go.OpenSpec := { _root_.Go.OpenSpec.ofChange s with cond := some uptoSmall }

/-- 'laws.FnCrc', WHERE WHAT IT READS IS OF BULK AT MOST 1048576: true; the input reads as it did. -/
def fnCrcUptoRow : OpenClaim := { program := "ytnpoimjdkjhcpaa", sum := "6d58c80dc1099cb20ba7e27d5301b7974faafa41129ea455a1ddb4900a9ad894", func := "loop.example/g00043/laws.FnCrc", spec := "fnCrc", apart := false, narrowed := true }
def FnCrcUptoSaid : Prop := fnCrcUptoRow.holds Try.pinned (OpenSpec.upto fnCrcSpec)

/-- 'laws.FnExactUnpack8', WHERE WHAT IT READS IS OF BULK AT MOST 1048576: true; the input reads as it did. -/
def fnExactUnpack8UptoRow : OpenClaim := { program := "ytnpoimjdkjhcpaa", sum := "6d58c80dc1099cb20ba7e27d5301b7974faafa41129ea455a1ddb4900a9ad894", func := "loop.example/g00043/laws.FnExactUnpack8", spec := "fnExactUnpack8", apart := false, narrowed := true }
def FnExactUnpack8UptoSaid : Prop := fnExactUnpack8UptoRow.holds Try.pinned (OpenSpec.upto fnExactUnpack8Spec)

/-- 'laws.FnExactMap', WHERE WHAT IT READS IS OF BULK AT MOST 1048576: true; the input reads as it did. -/
def fnExactMapUptoRow : OpenClaim := { program := "ytnpoimjdkjhcpaa", sum := "6d58c80dc1099cb20ba7e27d5301b7974faafa41129ea455a1ddb4900a9ad894", func := "loop.example/g00043/laws.FnExactMap", spec := "fnExactMap", unfollowed := true, recurses := true, apart := false, narrowed := true }
def FnExactMapUptoSaid : Prop := fnExactMapUptoRow.holds Try.pinned (OpenSpec.upto fnExactMapSpec)

/-- 'laws.FnMatched', WHERE WHAT IT READS IS OF BULK AT MOST 1048576: true; the input reads as it did. -/
def fnMatchedUptoRow : OpenClaim := { program := "ytnpoimjdkjhcpaa", sum := "6d58c80dc1099cb20ba7e27d5301b7974faafa41129ea455a1ddb4900a9ad894", func := "loop.example/g00043/laws.FnMatched", spec := "fnMatched", apart := false, narrowed := true }
def FnMatchedUptoSaid : Prop := fnMatchedUptoRow.holds Try.pinned (OpenSpec.upto fnMatchedSpec)

/-- 'laws.FnExactDecide', WHERE WHAT IT READS IS OF BULK AT MOST 1048576: true; the input reads as it did. -/
def fnExactDecideUptoRow : OpenClaim := { program := "ytnpoimjdkjhcpaa", sum := "6d58c80dc1099cb20ba7e27d5301b7974faafa41129ea455a1ddb4900a9ad894", func := "loop.example/g00043/laws.FnExactDecide", spec := "fnExactDecide", unfollowed := true, recurses := true, apart := false, narrowed := true }
def FnExactDecideUptoSaid : Prop := fnExactDecideUptoRow.holds Try.pinned (OpenSpec.upto fnExactDecideSpec)

/-- 'laws.FnDrifted', WHERE WHAT IT READS IS OF BULK AT MOST 1048576: true; the input reads as it did. -/
def fnDriftedUptoRow : OpenClaim := { program := "ytnpoimjdkjhcpaa", sum := "6d58c80dc1099cb20ba7e27d5301b7974faafa41129ea455a1ddb4900a9ad894", func := "loop.example/g00043/laws.FnDrifted", spec := "fnDrifted", unfollowed := true, recurses := true, apart := false, narrowed := true }
def FnDriftedUptoSaid : Prop := fnDriftedUptoRow.holds Try.pinned (OpenSpec.upto fnDriftedSpec)

/-- 'laws.FnMapped', WHERE WHAT IT READS IS OF BULK AT MOST 1048576: true; the input reads as it did. -/
def fnMappedUptoRow : OpenClaim := { program := "ytnpoimjdkjhcpaa", sum := "6d58c80dc1099cb20ba7e27d5301b7974faafa41129ea455a1ddb4900a9ad894", func := "loop.example/g00043/laws.FnMapped", spec := "fnMapped", unfollowed := true, recurses := true, apart := false, narrowed := true }
def FnMappedUptoSaid : Prop := fnMappedUptoRow.holds Try.pinned (OpenSpec.upto fnMappedSpec)

/-- 'laws.FnRational', WHERE WHAT IT READS IS OF BULK AT MOST 1048576: true; the input reads as it did. -/
def fnRationalUptoRow : OpenClaim := { program := "ytnpoimjdkjhcpaa", sum := "6d58c80dc1099cb20ba7e27d5301b7974faafa41129ea455a1ddb4900a9ad894", func := "loop.example/g00043/laws.FnRational", spec := "fnRational", apart := false, narrowed := true }
def FnRationalUptoSaid : Prop := fnRationalUptoRow.holds Try.pinned (OpenSpec.upto fnRationalSpec)

/-- 'laws.FnExactChain', WHERE WHAT IT READS IS OF BULK AT MOST 1048576: true; the input reads as it did. -/
def fnExactChainUptoRow : OpenClaim := { program := "ytnpoimjdkjhcpaa", sum := "6d58c80dc1099cb20ba7e27d5301b7974faafa41129ea455a1ddb4900a9ad894", func := "loop.example/g00043/laws.FnExactChain", spec := "fnExactChain", apart := false, narrowed := true }
def FnExactChainUptoSaid : Prop := fnExactChainUptoRow.holds Try.pinned (OpenSpec.upto fnExactChainSpec)

/-- 'laws.FnStirred', WHERE WHAT IT READS IS OF BULK AT MOST 1048576: true; the input reads as it did. -/
def fnStirredUptoRow : OpenClaim := { program := "ytnpoimjdkjhcpaa", sum := "6d58c80dc1099cb20ba7e27d5301b7974faafa41129ea455a1ddb4900a9ad894", func := "loop.example/g00043/laws.FnStirred", spec := "fnStirred", apart := false, narrowed := true }
def FnStirredUptoSaid : Prop := fnStirredUptoRow.holds Try.pinned (OpenSpec.upto fnStirredSpec)

end Rows
end Go.Proofs.Ytnpoimjdkjhcpaa
