/-
  No cell of these rows narrows 'for every input' (looked for: loops, veiled, ifaces, maps, wideKeys, modest, calm, conditions, laid).
  DERIVED. THE GIVEN ROWS OF THIS SEAT. 12 by the template 'for every input the law returns true; each argument reads behind the call as it read before'; 0 by the template 'total and deterministic' (their statements: YtamgllkncpnmiaaTotals.lean).
  GIVEN WITH THE SEED: the statements are not yours to turn. If you find one false, say at which input.
  Laid BY PROGRAM, IN A SANDBOX (cutbox-rows.mjs): the forced cells as the released guide's own fill.sh prints them over the translation 310c09fb40309e6c… (all of the seat's roots in one cut). By AI agents, Wed Nov 11 2026. No macro, syntax, notation, axiom, sorry.
-/
import Derived.Test.YtamgllkncpnmiaaChecked
import GoSem.Claim
import GoSem.ClaimJoined
import GoSem.ClaimMapViews
import Derived.JoinedTies
import Derived.KernelRfl
namespace Go.Proofs.Ytamgllkncpnmiaa
/- THE CELL 'sum', in the pinned program and in every row, IS THE sha256 OF THE DUMP (.gsa) THAT YtamgllkncpnmiaaProg.lean LOADS. Nothing in Lean hashes anything: it is a label: what it is worth is what the hold of that sum in a sandbox is worth. -/
noncomputable def Try.pinned : Pinned := { name := "ytamgllkncpnmiaa", sum := "310c09fb40309e6c67db6d70983f529241ccc83f1f2e96c8deeeee45e39b4387", checked := Try.checked }
namespace Rows
def none {H : Type} : Left H := { results := [], args := [] }

/-- 'laws.FnExactGray': WHATEVER THE INPUT: true; the input reads as it did. -/
def fnExactGraySpec : ChangeSpec := { name := "fnExactGray", fn := fun _ => fun
  | [d] => { results := [.lit (.bool true)], args := [d] }
  | _ => none }
def fnExactGrayRow : OpenClaim := { program := "ytamgllkncpnmiaa", sum := "310c09fb40309e6c67db6d70983f529241ccc83f1f2e96c8deeeee45e39b4387", func := "loop.example/g00043/laws.FnExactGray", spec := "fnExactGray", apart := false }
def FnExactGraySaid : Prop := fnExactGrayRow.holds Try.pinned (OpenSpec.ofChange fnExactGraySpec)

/-- ITS FALSE NEIGHBOUR: 'it returns false'. Refute it at one input. -/
def fnExactGrayWrong : ChangeSpec := { name := "fnExactGray", fn := fun _ => fun
  | [d] => { results := [.lit (.bool false)], args := [d] }
  | _ => none }
def FnExactGrayWrongFalsely : Prop := fnExactGrayRow.holds Try.pinned (OpenSpec.ofChange fnExactGrayWrong)

/-- 'laws.FnExactUnGray': WHATEVER THE INPUT: true; the input reads as it did. -/
def fnExactUnGraySpec : ChangeSpec := { name := "fnExactUnGray", fn := fun _ => fun
  | [d] => { results := [.lit (.bool true)], args := [d] }
  | _ => none }
def fnExactUnGrayRow : OpenClaim := { program := "ytamgllkncpnmiaa", sum := "310c09fb40309e6c67db6d70983f529241ccc83f1f2e96c8deeeee45e39b4387", func := "loop.example/g00043/laws.FnExactUnGray", spec := "fnExactUnGray", apart := false }
def FnExactUnGraySaid : Prop := fnExactUnGrayRow.holds Try.pinned (OpenSpec.ofChange fnExactUnGraySpec)

/-- ITS FALSE NEIGHBOUR: 'it returns false'. Refute it at one input. -/
def fnExactUnGrayWrong : ChangeSpec := { name := "fnExactUnGray", fn := fun _ => fun
  | [d] => { results := [.lit (.bool false)], args := [d] }
  | _ => none }
def FnExactUnGrayWrongFalsely : Prop := fnExactUnGrayRow.holds Try.pinned (OpenSpec.ofChange fnExactUnGrayWrong)

/-- 'laws.FnBurst': WHATEVER THE INPUT: true; the input reads as it did. -/
def fnBurstSpec : ChangeSpec := { name := "fnBurst", fn := fun _ => fun
  | [d] => { results := [.lit (.bool true)], args := [d] }
  | _ => none }
def fnBurstRow : OpenClaim := { program := "ytamgllkncpnmiaa", sum := "310c09fb40309e6c67db6d70983f529241ccc83f1f2e96c8deeeee45e39b4387", func := "loop.example/g00043/laws.FnBurst", spec := "fnBurst", apart := false }
def FnBurstSaid : Prop := fnBurstRow.holds Try.pinned (OpenSpec.ofChange fnBurstSpec)

/-- ITS FALSE NEIGHBOUR: 'it returns false'. Refute it at one input. -/
def fnBurstWrong : ChangeSpec := { name := "fnBurst", fn := fun _ => fun
  | [d] => { results := [.lit (.bool false)], args := [d] }
  | _ => none }
def FnBurstWrongFalsely : Prop := fnBurstRow.holds Try.pinned (OpenSpec.ofChange fnBurstWrong)

/-- 'laws.FnExactGfMul': WHATEVER THE INPUT: true; the input reads as it did. -/
def fnExactGfMulSpec : ChangeSpec := { name := "fnExactGfMul", fn := fun _ => fun
  | [d1, d2] => { results := [.lit (.bool true)], args := [d1, d2] }
  | _ => none }
def fnExactGfMulRow : OpenClaim := { program := "ytamgllkncpnmiaa", sum := "310c09fb40309e6c67db6d70983f529241ccc83f1f2e96c8deeeee45e39b4387", func := "loop.example/g00043/laws.FnExactGfMul", spec := "fnExactGfMul", apart := false }
def FnExactGfMulSaid : Prop := fnExactGfMulRow.holds Try.pinned (OpenSpec.ofChange fnExactGfMulSpec)

/-- ITS FALSE NEIGHBOUR: 'it returns false'. Refute it at one input. -/
def fnExactGfMulWrong : ChangeSpec := { name := "fnExactGfMul", fn := fun _ => fun
  | [d1, d2] => { results := [.lit (.bool false)], args := [d1, d2] }
  | _ => none }
def FnExactGfMulWrongFalsely : Prop := fnExactGfMulRow.holds Try.pinned (OpenSpec.ofChange fnExactGfMulWrong)

/-- 'laws.FnExactBitsOk': WHATEVER THE INPUT: true; the input reads as it did. -/
def fnExactBitsOkSpec : ChangeSpec := { name := "fnExactBitsOk", fn := fun _ => fun
  | [d] => { results := [.lit (.bool true)], args := [d] }
  | _ => none }
def fnExactBitsOkRow : OpenClaim := { program := "ytamgllkncpnmiaa", sum := "310c09fb40309e6c67db6d70983f529241ccc83f1f2e96c8deeeee45e39b4387", func := "loop.example/g00043/laws.FnExactBitsOk", spec := "fnExactBitsOk", apart := false }
def FnExactBitsOkSaid : Prop := fnExactBitsOkRow.holds Try.pinned (OpenSpec.ofChange fnExactBitsOkSpec)

/-- ITS FALSE NEIGHBOUR: 'it returns false'. Refute it at one input. -/
def fnExactBitsOkWrong : ChangeSpec := { name := "fnExactBitsOk", fn := fun _ => fun
  | [d] => { results := [.lit (.bool false)], args := [d] }
  | _ => none }
def FnExactBitsOkWrongFalsely : Prop := fnExactBitsOkRow.holds Try.pinned (OpenSpec.ofChange fnExactBitsOkWrong)

/-- 'laws.FnExactCrc16': WHATEVER THE INPUT: true; the input reads as it did. -/
def fnExactCrc16Spec : ChangeSpec := { name := "fnExactCrc16", fn := fun _ => fun
  | [d] => { results := [.lit (.bool true)], args := [d] }
  | _ => none }
def fnExactCrc16Row : OpenClaim := { program := "ytamgllkncpnmiaa", sum := "310c09fb40309e6c67db6d70983f529241ccc83f1f2e96c8deeeee45e39b4387", func := "loop.example/g00043/laws.FnExactCrc16", spec := "fnExactCrc16", apart := false }
def FnExactCrc16Said : Prop := fnExactCrc16Row.holds Try.pinned (OpenSpec.ofChange fnExactCrc16Spec)

/-- ITS FALSE NEIGHBOUR: 'it returns false'. Refute it at one input. -/
def fnExactCrc16Wrong : ChangeSpec := { name := "fnExactCrc16", fn := fun _ => fun
  | [d] => { results := [.lit (.bool false)], args := [d] }
  | _ => none }
def FnExactCrc16WrongFalsely : Prop := fnExactCrc16Row.holds Try.pinned (OpenSpec.ofChange fnExactCrc16Wrong)

/-- 'laws.FnField': WHATEVER THE INPUT: true; the input reads as it did. -/
def fnFieldSpec : ChangeSpec := { name := "fnField", fn := fun _ => fun
  | [d] => { results := [.lit (.bool true)], args := [d] }
  | _ => none }
def fnFieldRow : OpenClaim := { program := "ytamgllkncpnmiaa", sum := "310c09fb40309e6c67db6d70983f529241ccc83f1f2e96c8deeeee45e39b4387", func := "loop.example/g00043/laws.FnField", spec := "fnField", apart := false }
def FnFieldSaid : Prop := fnFieldRow.holds Try.pinned (OpenSpec.ofChange fnFieldSpec)

/-- ITS FALSE NEIGHBOUR: 'it returns false'. Refute it at one input. -/
def fnFieldWrong : ChangeSpec := { name := "fnField", fn := fun _ => fun
  | [d] => { results := [.lit (.bool false)], args := [d] }
  | _ => none }
def FnFieldWrongFalsely : Prop := fnFieldRow.holds Try.pinned (OpenSpec.ofChange fnFieldWrong)

/-- 'laws.FnExactGfInv': WHATEVER THE INPUT: true; the input reads as it did. -/
def fnExactGfInvSpec : ChangeSpec := { name := "fnExactGfInv", fn := fun _ => fun
  | [d] => { results := [.lit (.bool true)], args := [d] }
  | _ => none }
def fnExactGfInvRow : OpenClaim := { program := "ytamgllkncpnmiaa", sum := "310c09fb40309e6c67db6d70983f529241ccc83f1f2e96c8deeeee45e39b4387", func := "loop.example/g00043/laws.FnExactGfInv", spec := "fnExactGfInv", apart := false }
def FnExactGfInvSaid : Prop := fnExactGfInvRow.holds Try.pinned (OpenSpec.ofChange fnExactGfInvSpec)

/-- ITS FALSE NEIGHBOUR: 'it returns false'. Refute it at one input. -/
def fnExactGfInvWrong : ChangeSpec := { name := "fnExactGfInv", fn := fun _ => fun
  | [d] => { results := [.lit (.bool false)], args := [d] }
  | _ => none }
def FnExactGfInvWrongFalsely : Prop := fnExactGfInvRow.holds Try.pinned (OpenSpec.ofChange fnExactGfInvWrong)

/-- 'laws.FnExactHam': WHATEVER THE INPUT: true; the input reads as it did. -/
def fnExactHamSpec : ChangeSpec := { name := "fnExactHam", fn := fun _ => fun
  | [d] => { results := [.lit (.bool true)], args := [d] }
  | _ => none }
def fnExactHamRow : OpenClaim := { program := "ytamgllkncpnmiaa", sum := "310c09fb40309e6c67db6d70983f529241ccc83f1f2e96c8deeeee45e39b4387", func := "loop.example/g00043/laws.FnExactHam", spec := "fnExactHam", apart := false }
def FnExactHamSaid : Prop := fnExactHamRow.holds Try.pinned (OpenSpec.ofChange fnExactHamSpec)

/-- ITS FALSE NEIGHBOUR: 'it returns false'. Refute it at one input. -/
def fnExactHamWrong : ChangeSpec := { name := "fnExactHam", fn := fun _ => fun
  | [d] => { results := [.lit (.bool false)], args := [d] }
  | _ => none }
def FnExactHamWrongFalsely : Prop := fnExactHamRow.holds Try.pinned (OpenSpec.ofChange fnExactHamWrong)

/-- 'laws.FnHam': WHATEVER THE INPUT: true; the input reads as it did. -/
def fnHamSpec : ChangeSpec := { name := "fnHam", fn := fun _ => fun
  | [d] => { results := [.lit (.bool true)], args := [d] }
  | _ => none }
def fnHamRow : OpenClaim := { program := "ytamgllkncpnmiaa", sum := "310c09fb40309e6c67db6d70983f529241ccc83f1f2e96c8deeeee45e39b4387", func := "loop.example/g00043/laws.FnHam", spec := "fnHam", apart := false }
def FnHamSaid : Prop := fnHamRow.holds Try.pinned (OpenSpec.ofChange fnHamSpec)

/-- ITS FALSE NEIGHBOUR: 'it returns false'. Refute it at one input. -/
def fnHamWrong : ChangeSpec := { name := "fnHam", fn := fun _ => fun
  | [d] => { results := [.lit (.bool false)], args := [d] }
  | _ => none }
def FnHamWrongFalsely : Prop := fnHamRow.holds Try.pinned (OpenSpec.ofChange fnHamWrong)

/-- 'laws.FnExactSoften': WHATEVER THE INPUT: true; the input reads as it did. -/
def fnExactSoftenSpec : ChangeSpec := { name := "fnExactSoften", fn := fun _ => fun
  | [d1, d2] => { results := [.lit (.bool true)], args := [d1, d2] }
  | _ => none }
def fnExactSoftenRow : OpenClaim := { program := "ytamgllkncpnmiaa", sum := "310c09fb40309e6c67db6d70983f529241ccc83f1f2e96c8deeeee45e39b4387", func := "loop.example/g00043/laws.FnExactSoften", spec := "fnExactSoften", apart := false }
def FnExactSoftenSaid : Prop := fnExactSoftenRow.holds Try.pinned (OpenSpec.ofChange fnExactSoftenSpec)

/-- ITS FALSE NEIGHBOUR: 'it returns false'. Refute it at one input. -/
def fnExactSoftenWrong : ChangeSpec := { name := "fnExactSoften", fn := fun _ => fun
  | [d1, d2] => { results := [.lit (.bool false)], args := [d1, d2] }
  | _ => none }
def FnExactSoftenWrongFalsely : Prop := fnExactSoftenRow.holds Try.pinned (OpenSpec.ofChange fnExactSoftenWrong)

/-- 'laws.FnCrc': WHATEVER THE INPUT: true; the input reads as it did. -/
def fnCrcSpec : ChangeSpec := { name := "fnCrc", fn := fun _ => fun
  | [d] => { results := [.lit (.bool true)], args := [d] }
  | _ => none }
def fnCrcRow : OpenClaim := { program := "ytamgllkncpnmiaa", sum := "310c09fb40309e6c67db6d70983f529241ccc83f1f2e96c8deeeee45e39b4387", func := "loop.example/g00043/laws.FnCrc", spec := "fnCrc", apart := false }
def FnCrcSaid : Prop := fnCrcRow.holds Try.pinned (OpenSpec.ofChange fnCrcSpec)

/-- ITS FALSE NEIGHBOUR: 'it returns false'. Refute it at one input. -/
def fnCrcWrong : ChangeSpec := { name := "fnCrc", fn := fun _ => fun
  | [d] => { results := [.lit (.bool false)], args := [d] }
  | _ => none }
def FnCrcWrongFalsely : Prop := fnCrcRow.holds Try.pinned (OpenSpec.ofChange fnCrcWrong)

/- THE SECOND FORM. 'bulk': how many values and letters a reading holds, each counted each time it is reached (what is shared counts as often as it is met; a slice's spare places count too). A statement '..UptoSaid' is the law's where the arguments, and the package variables that the reading takes, are together of bulk at most 1048576: NARROWER than '..Said'. Prove '..Said' where nothing that the law and all that it calls make is longer than what came in: it says more and counts as full. Else prove '..UptoSaid'. A law counts once. -/
mutual
def uptoBulk {H : Type} : DataW H → Nat
  | .lit (.string bytes) => bytes.length + 1
  | .lit _ => 1
  | .nil => 1
  | .ptr d => uptoBulk d + 1
  | .slice elems spare => uptoBulkAll elems + uptoBulkAll spare + 1
  | .agg parts => uptoBulkAll parts + 1
  | .iface _ d => uptoBulk d + 1
  | .map entries => uptoBulkEntries entries + 1
  | .held _ => 1
def uptoBulkAll {H : Type} : List (DataW H) → Nat
  | [] => 0
  | d :: r => uptoBulk d + uptoBulkAll r
def uptoBulkEntries {H : Type} : List (Lit × DataW H) → Nat
  | [] => 0
  | x :: r => uptoBulkEntry x + uptoBulkEntries r
def uptoBulkEntry {H : Type} : Lit × DataW H → Nat
  | (.string bytes, d) => bytes.length + uptoBulk d + 1
  | (_, d) => uptoBulk d + 1
 end
def uptoSmall : (H : Type) → List (DataW H) → Bool := fun _ ds => decide (uptoBulkAll ds ≤ 1048576)
def OpenSpec.upto (s : _root_.Go.ChangeSpec) : _root_.Go.OpenSpec := { _root_.Go.OpenSpec.ofChange s with cond := some uptoSmall }

/-- 'laws.FnExactGray', WHERE WHAT IT READS IS OF BULK AT MOST 1048576: true; the input reads as it did. -/
def fnExactGrayUptoRow : OpenClaim := { program := "ytamgllkncpnmiaa", sum := "310c09fb40309e6c67db6d70983f529241ccc83f1f2e96c8deeeee45e39b4387", func := "loop.example/g00043/laws.FnExactGray", spec := "fnExactGray", apart := false, narrowed := true }
def FnExactGrayUptoSaid : Prop := fnExactGrayUptoRow.holds Try.pinned (OpenSpec.upto fnExactGraySpec)

/-- 'laws.FnExactUnGray', WHERE WHAT IT READS IS OF BULK AT MOST 1048576: true; the input reads as it did. -/
def fnExactUnGrayUptoRow : OpenClaim := { program := "ytamgllkncpnmiaa", sum := "310c09fb40309e6c67db6d70983f529241ccc83f1f2e96c8deeeee45e39b4387", func := "loop.example/g00043/laws.FnExactUnGray", spec := "fnExactUnGray", apart := false, narrowed := true }
def FnExactUnGrayUptoSaid : Prop := fnExactUnGrayUptoRow.holds Try.pinned (OpenSpec.upto fnExactUnGraySpec)

/-- 'laws.FnBurst', WHERE WHAT IT READS IS OF BULK AT MOST 1048576: true; the input reads as it did. -/
def fnBurstUptoRow : OpenClaim := { program := "ytamgllkncpnmiaa", sum := "310c09fb40309e6c67db6d70983f529241ccc83f1f2e96c8deeeee45e39b4387", func := "loop.example/g00043/laws.FnBurst", spec := "fnBurst", apart := false, narrowed := true }
def FnBurstUptoSaid : Prop := fnBurstUptoRow.holds Try.pinned (OpenSpec.upto fnBurstSpec)

/-- 'laws.FnExactGfMul', WHERE WHAT IT READS IS OF BULK AT MOST 1048576: true; the input reads as it did. -/
def fnExactGfMulUptoRow : OpenClaim := { program := "ytamgllkncpnmiaa", sum := "310c09fb40309e6c67db6d70983f529241ccc83f1f2e96c8deeeee45e39b4387", func := "loop.example/g00043/laws.FnExactGfMul", spec := "fnExactGfMul", apart := false, narrowed := true }
def FnExactGfMulUptoSaid : Prop := fnExactGfMulUptoRow.holds Try.pinned (OpenSpec.upto fnExactGfMulSpec)

/-- 'laws.FnExactBitsOk', WHERE WHAT IT READS IS OF BULK AT MOST 1048576: true; the input reads as it did. -/
def fnExactBitsOkUptoRow : OpenClaim := { program := "ytamgllkncpnmiaa", sum := "310c09fb40309e6c67db6d70983f529241ccc83f1f2e96c8deeeee45e39b4387", func := "loop.example/g00043/laws.FnExactBitsOk", spec := "fnExactBitsOk", apart := false, narrowed := true }
def FnExactBitsOkUptoSaid : Prop := fnExactBitsOkUptoRow.holds Try.pinned (OpenSpec.upto fnExactBitsOkSpec)

/-- 'laws.FnExactCrc16', WHERE WHAT IT READS IS OF BULK AT MOST 1048576: true; the input reads as it did. -/
def fnExactCrc16UptoRow : OpenClaim := { program := "ytamgllkncpnmiaa", sum := "310c09fb40309e6c67db6d70983f529241ccc83f1f2e96c8deeeee45e39b4387", func := "loop.example/g00043/laws.FnExactCrc16", spec := "fnExactCrc16", apart := false, narrowed := true }
def FnExactCrc16UptoSaid : Prop := fnExactCrc16UptoRow.holds Try.pinned (OpenSpec.upto fnExactCrc16Spec)

/-- 'laws.FnField', WHERE WHAT IT READS IS OF BULK AT MOST 1048576: true; the input reads as it did. -/
def fnFieldUptoRow : OpenClaim := { program := "ytamgllkncpnmiaa", sum := "310c09fb40309e6c67db6d70983f529241ccc83f1f2e96c8deeeee45e39b4387", func := "loop.example/g00043/laws.FnField", spec := "fnField", apart := false, narrowed := true }
def FnFieldUptoSaid : Prop := fnFieldUptoRow.holds Try.pinned (OpenSpec.upto fnFieldSpec)

/-- 'laws.FnExactGfInv', WHERE WHAT IT READS IS OF BULK AT MOST 1048576: true; the input reads as it did. -/
def fnExactGfInvUptoRow : OpenClaim := { program := "ytamgllkncpnmiaa", sum := "310c09fb40309e6c67db6d70983f529241ccc83f1f2e96c8deeeee45e39b4387", func := "loop.example/g00043/laws.FnExactGfInv", spec := "fnExactGfInv", apart := false, narrowed := true }
def FnExactGfInvUptoSaid : Prop := fnExactGfInvUptoRow.holds Try.pinned (OpenSpec.upto fnExactGfInvSpec)

/-- 'laws.FnExactHam', WHERE WHAT IT READS IS OF BULK AT MOST 1048576: true; the input reads as it did. -/
def fnExactHamUptoRow : OpenClaim := { program := "ytamgllkncpnmiaa", sum := "310c09fb40309e6c67db6d70983f529241ccc83f1f2e96c8deeeee45e39b4387", func := "loop.example/g00043/laws.FnExactHam", spec := "fnExactHam", apart := false, narrowed := true }
def FnExactHamUptoSaid : Prop := fnExactHamUptoRow.holds Try.pinned (OpenSpec.upto fnExactHamSpec)

/-- 'laws.FnHam', WHERE WHAT IT READS IS OF BULK AT MOST 1048576: true; the input reads as it did. -/
def fnHamUptoRow : OpenClaim := { program := "ytamgllkncpnmiaa", sum := "310c09fb40309e6c67db6d70983f529241ccc83f1f2e96c8deeeee45e39b4387", func := "loop.example/g00043/laws.FnHam", spec := "fnHam", apart := false, narrowed := true }
def FnHamUptoSaid : Prop := fnHamUptoRow.holds Try.pinned (OpenSpec.upto fnHamSpec)

/-- 'laws.FnExactSoften', WHERE WHAT IT READS IS OF BULK AT MOST 1048576: true; the input reads as it did. -/
def fnExactSoftenUptoRow : OpenClaim := { program := "ytamgllkncpnmiaa", sum := "310c09fb40309e6c67db6d70983f529241ccc83f1f2e96c8deeeee45e39b4387", func := "loop.example/g00043/laws.FnExactSoften", spec := "fnExactSoften", apart := false, narrowed := true }
def FnExactSoftenUptoSaid : Prop := fnExactSoftenUptoRow.holds Try.pinned (OpenSpec.upto fnExactSoftenSpec)

/-- 'laws.FnCrc', WHERE WHAT IT READS IS OF BULK AT MOST 1048576: true; the input reads as it did. -/
def fnCrcUptoRow : OpenClaim := { program := "ytamgllkncpnmiaa", sum := "310c09fb40309e6c67db6d70983f529241ccc83f1f2e96c8deeeee45e39b4387", func := "loop.example/g00043/laws.FnCrc", spec := "fnCrc", apart := false, narrowed := true }
def FnCrcUptoSaid : Prop := fnCrcUptoRow.holds Try.pinned (OpenSpec.upto fnCrcSpec)

end Rows
end Go.Proofs.Ytamgllkncpnmiaa
