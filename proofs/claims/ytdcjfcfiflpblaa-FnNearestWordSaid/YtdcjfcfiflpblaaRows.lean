/-
  No cell of these rows narrows 'for every input' (looked for: loops, veiled, ifaces, maps, wideKeys, modest, calm, conditions, laid).
  DERIVED. THE GIVEN ROWS OF THIS SEAT. 6 by the template 'for every input the law returns true; each argument reads behind the call as it read before'; 0 by the template 'total and deterministic' (their statements: YtdcjfcfiflpblaaTotals.lean).
  GIVEN WITH THE SEED: the statements are not yours to turn. If you find one false, say at which input.
  Laid BY PROGRAM, IN A SANDBOX (cutbox-rows.mjs): the forced cells as the released guide's own fill.sh prints them over the translation d53544505c9d8d65… (all of the seat's roots in one cut). By AI agents, Wed Nov 11 2026. No macro, syntax, notation, axiom, sorry.
-/
import Derived.Test.YtdcjfcfiflpblaaChecked
import GoSem.Claim
import GoSem.ClaimJoined
import GoSem.ClaimMapViews
import Derived.JoinedTies
import Derived.KernelRfl
namespace Go.Proofs.Ytdcjfcfiflpblaa
/- THE CELL 'sum', in the pinned program and in every row, IS THE sha256 OF THE DUMP (.gsa) THAT YtdcjfcfiflpblaaProg.lean LOADS. Nothing in Lean hashes anything: it is a label: what it is worth is what the hold of that sum in a sandbox is worth. -/
noncomputable def Try.pinned : Pinned := { name := "ytdcjfcfiflpblaa", sum := "d53544505c9d8d6569873611af6466783834a56fdeee76c15d985752f4efe3e5", checked := Try.checked }
namespace Rows
def none {H : Type} : Left H := { results := [], args := [] }

/-- 'laws.FnMended': WHATEVER THE INPUT: true; the input reads as it did. -/
def fnMendedSpec : ChangeSpec := { name := "fnMended", fn := fun _ => fun
  | [d] => { results := [.lit (.bool true)], args := [d] }
  | _ => none }
def fnMendedRow : OpenClaim := { program := "ytdcjfcfiflpblaa", sum := "d53544505c9d8d6569873611af6466783834a56fdeee76c15d985752f4efe3e5", func := "loop.example/g00043/laws.FnMended", spec := "fnMended", apart := false }
def FnMendedSaid : Prop := fnMendedRow.holds Try.pinned (OpenSpec.ofChange fnMendedSpec)

/-- ITS FALSE NEIGHBOUR: 'it returns false'. Refute it at one input. -/
def fnMendedWrong : ChangeSpec := { name := "fnMended", fn := fun _ => fun
  | [d] => { results := [.lit (.bool false)], args := [d] }
  | _ => none }
def FnMendedWrongFalsely : Prop := fnMendedRow.holds Try.pinned (OpenSpec.ofChange fnMendedWrong)

/-- 'laws.FnExactRsOk': WHATEVER THE INPUT: true; the input reads as it did. -/
def fnExactRsOkSpec : ChangeSpec := { name := "fnExactRsOk", fn := fun _ => fun
  | [d1, d2] => { results := [.lit (.bool true)], args := [d1, d2] }
  | _ => none }
def fnExactRsOkRow : OpenClaim := { program := "ytdcjfcfiflpblaa", sum := "d53544505c9d8d6569873611af6466783834a56fdeee76c15d985752f4efe3e5", func := "loop.example/g00043/laws.FnExactRsOk", spec := "fnExactRsOk", apart := false }
def FnExactRsOkSaid : Prop := fnExactRsOkRow.holds Try.pinned (OpenSpec.ofChange fnExactRsOkSpec)

/-- ITS FALSE NEIGHBOUR: 'it returns false'. Refute it at one input. -/
def fnExactRsOkWrong : ChangeSpec := { name := "fnExactRsOk", fn := fun _ => fun
  | [d1, d2] => { results := [.lit (.bool false)], args := [d1, d2] }
  | _ => none }
def FnExactRsOkWrongFalsely : Prop := fnExactRsOkRow.holds Try.pinned (OpenSpec.ofChange fnExactRsOkWrong)

/-- 'laws.FnExactRsCode': WHATEVER THE INPUT: true; the input reads as it did. -/
def fnExactRsCodeSpec : ChangeSpec := { name := "fnExactRsCode", fn := fun _ => fun
  | [d1, d2] => { results := [.lit (.bool true)], args := [d1, d2] }
  | _ => none }
def fnExactRsCodeRow : OpenClaim := { program := "ytdcjfcfiflpblaa", sum := "d53544505c9d8d6569873611af6466783834a56fdeee76c15d985752f4efe3e5", func := "loop.example/g00043/laws.FnExactRsCode", spec := "fnExactRsCode", apart := false }
def FnExactRsCodeSaid : Prop := fnExactRsCodeRow.holds Try.pinned (OpenSpec.ofChange fnExactRsCodeSpec)

/-- ITS FALSE NEIGHBOUR: 'it returns false'. Refute it at one input. -/
def fnExactRsCodeWrong : ChangeSpec := { name := "fnExactRsCode", fn := fun _ => fun
  | [d1, d2] => { results := [.lit (.bool false)], args := [d1, d2] }
  | _ => none }
def FnExactRsCodeWrongFalsely : Prop := fnExactRsCodeRow.holds Try.pinned (OpenSpec.ofChange fnExactRsCodeWrong)

/-- 'laws.FnExactRsFill': WHATEVER THE INPUT: true; the input reads as it did. -/
def fnExactRsFillSpec : ChangeSpec := { name := "fnExactRsFill", fn := fun _ => fun
  | [d1, d2, d3] => { results := [.lit (.bool true)], args := [d1, d2, d3] }
  | _ => none }
def fnExactRsFillRow : OpenClaim := { program := "ytdcjfcfiflpblaa", sum := "d53544505c9d8d6569873611af6466783834a56fdeee76c15d985752f4efe3e5", func := "loop.example/g00043/laws.FnExactRsFill", spec := "fnExactRsFill", apart := false }
def FnExactRsFillSaid : Prop := fnExactRsFillRow.holds Try.pinned (OpenSpec.ofChange fnExactRsFillSpec)

/-- ITS FALSE NEIGHBOUR: 'it returns false'. Refute it at one input. -/
def fnExactRsFillWrong : ChangeSpec := { name := "fnExactRsFill", fn := fun _ => fun
  | [d1, d2, d3] => { results := [.lit (.bool false)], args := [d1, d2, d3] }
  | _ => none }
def FnExactRsFillWrongFalsely : Prop := fnExactRsFillRow.holds Try.pinned (OpenSpec.ofChange fnExactRsFillWrong)

/-- 'laws.FnExactRsMend': WHATEVER THE INPUT: true; the input reads as it did. -/
def fnExactRsMendSpec : ChangeSpec := { name := "fnExactRsMend", fn := fun _ => fun
  | [d1, d2] => { results := [.lit (.bool true)], args := [d1, d2] }
  | _ => none }
def fnExactRsMendRow : OpenClaim := { program := "ytdcjfcfiflpblaa", sum := "d53544505c9d8d6569873611af6466783834a56fdeee76c15d985752f4efe3e5", func := "loop.example/g00043/laws.FnExactRsMend", spec := "fnExactRsMend", apart := false }
def FnExactRsMendSaid : Prop := fnExactRsMendRow.holds Try.pinned (OpenSpec.ofChange fnExactRsMendSpec)

/-- ITS FALSE NEIGHBOUR: 'it returns false'. Refute it at one input. -/
def fnExactRsMendWrong : ChangeSpec := { name := "fnExactRsMend", fn := fun _ => fun
  | [d1, d2] => { results := [.lit (.bool false)], args := [d1, d2] }
  | _ => none }
def FnExactRsMendWrongFalsely : Prop := fnExactRsMendRow.holds Try.pinned (OpenSpec.ofChange fnExactRsMendWrong)

/-- 'laws.FnNearestWord': WHATEVER THE INPUT: true; the input reads as it did. -/
def fnNearestWordSpec : ChangeSpec := { name := "fnNearestWord", fn := fun _ => fun
  | [d] => { results := [.lit (.bool true)], args := [d] }
  | _ => none }
def fnNearestWordRow : OpenClaim := { program := "ytdcjfcfiflpblaa", sum := "d53544505c9d8d6569873611af6466783834a56fdeee76c15d985752f4efe3e5", func := "loop.example/g00043/laws.FnNearestWord", spec := "fnNearestWord", apart := false }
def FnNearestWordSaid : Prop := fnNearestWordRow.holds Try.pinned (OpenSpec.ofChange fnNearestWordSpec)

/-- ITS FALSE NEIGHBOUR: 'it returns false'. Refute it at one input. -/
def fnNearestWordWrong : ChangeSpec := { name := "fnNearestWord", fn := fun _ => fun
  | [d] => { results := [.lit (.bool false)], args := [d] }
  | _ => none }
def FnNearestWordWrongFalsely : Prop := fnNearestWordRow.holds Try.pinned (OpenSpec.ofChange fnNearestWordWrong)

/- THE SECOND FORM. 'bulk': how many values and letters a reading holds, each counted each time it is reached (what is shared counts as often as it is met; a slice's spare places count too). A statement '..UptoSaid' is the law's where the arguments, and the package variables that the reading takes, are together of bulk at most 1048576: NARROWER than '..Said'. Prove '..Said' where nothing that the law and all that it calls make is longer than what came in: it says more and counts as full. Else prove '..UptoSaid'. A law counts once. -/
mutual
def uptoBulk {H : Type} : DataW H → Nat
  | .lit (.string bytes) => bytes.length + 1
  | .lit _ => 1
  | .nil => 1
  | .ptr d => uptoBulk d + 1
  | .slice elems spare => uptoBulkAll elems + uptoBulkAll spare + 1
  | .agg parts => uptoBulkAll parts + 1
  | .iface _ d => uptoBulk d + 1
  | .map entries => uptoBulkEntries entries + 1
  | .held _ => 1
def uptoBulkAll {H : Type} : List (DataW H) → Nat
  | [] => 0
  | d :: r => uptoBulk d + uptoBulkAll r
def uptoBulkEntries {H : Type} : List (Lit × DataW H) → Nat
  | [] => 0
  | x :: r => uptoBulkEntry x + uptoBulkEntries r
def uptoBulkEntry {H : Type} : Lit × DataW H → Nat
  | (.string bytes, d) => bytes.length + uptoBulk d + 1
  | (_, d) => uptoBulk d + 1
 end
def uptoSmall : (H : Type) → List (DataW H) → Bool := fun _ ds => decide (uptoBulkAll ds ≤ 1048576)
def OpenSpec.upto (s : _root_.Go.ChangeSpec) : _root_.Go.OpenSpec := { _root_.Go.OpenSpec.ofChange s with cond := some uptoSmall }

/-- 'laws.FnMended', WHERE WHAT IT READS IS OF BULK AT MOST 1048576: true; the input reads as it did. -/
def fnMendedUptoRow : OpenClaim := { program := "ytdcjfcfiflpblaa", sum := "d53544505c9d8d6569873611af6466783834a56fdeee76c15d985752f4efe3e5", func := "loop.example/g00043/laws.FnMended", spec := "fnMended", apart := false, narrowed := true }
def FnMendedUptoSaid : Prop := fnMendedUptoRow.holds Try.pinned (OpenSpec.upto fnMendedSpec)

/-- 'laws.FnExactRsOk', WHERE WHAT IT READS IS OF BULK AT MOST 1048576: true; the input reads as it did. -/
def fnExactRsOkUptoRow : OpenClaim := { program := "ytdcjfcfiflpblaa", sum := "d53544505c9d8d6569873611af6466783834a56fdeee76c15d985752f4efe3e5", func := "loop.example/g00043/laws.FnExactRsOk", spec := "fnExactRsOk", apart := false, narrowed := true }
def FnExactRsOkUptoSaid : Prop := fnExactRsOkUptoRow.holds Try.pinned (OpenSpec.upto fnExactRsOkSpec)

/-- 'laws.FnExactRsCode', WHERE WHAT IT READS IS OF BULK AT MOST 1048576: true; the input reads as it did. -/
def fnExactRsCodeUptoRow : OpenClaim := { program := "ytdcjfcfiflpblaa", sum := "d53544505c9d8d6569873611af6466783834a56fdeee76c15d985752f4efe3e5", func := "loop.example/g00043/laws.FnExactRsCode", spec := "fnExactRsCode", apart := false, narrowed := true }
def FnExactRsCodeUptoSaid : Prop := fnExactRsCodeUptoRow.holds Try.pinned (OpenSpec.upto fnExactRsCodeSpec)

/-- 'laws.FnExactRsFill', WHERE WHAT IT READS IS OF BULK AT MOST 1048576: true; the input reads as it did. -/
def fnExactRsFillUptoRow : OpenClaim := { program := "ytdcjfcfiflpblaa", sum := "d53544505c9d8d6569873611af6466783834a56fdeee76c15d985752f4efe3e5", func := "loop.example/g00043/laws.FnExactRsFill", spec := "fnExactRsFill", apart := false, narrowed := true }
def FnExactRsFillUptoSaid : Prop := fnExactRsFillUptoRow.holds Try.pinned (OpenSpec.upto fnExactRsFillSpec)

/-- 'laws.FnExactRsMend', WHERE WHAT IT READS IS OF BULK AT MOST 1048576: true; the input reads as it did. -/
def fnExactRsMendUptoRow : OpenClaim := { program := "ytdcjfcfiflpblaa", sum := "d53544505c9d8d6569873611af6466783834a56fdeee76c15d985752f4efe3e5", func := "loop.example/g00043/laws.FnExactRsMend", spec := "fnExactRsMend", apart := false, narrowed := true }
def FnExactRsMendUptoSaid : Prop := fnExactRsMendUptoRow.holds Try.pinned (OpenSpec.upto fnExactRsMendSpec)

/-- 'laws.FnNearestWord', WHERE WHAT IT READS IS OF BULK AT MOST 1048576: true; the input reads as it did. -/
def fnNearestWordUptoRow : OpenClaim := { program := "ytdcjfcfiflpblaa", sum := "d53544505c9d8d6569873611af6466783834a56fdeee76c15d985752f4efe3e5", func := "loop.example/g00043/laws.FnNearestWord", spec := "fnNearestWord", apart := false, narrowed := true }
def FnNearestWordUptoSaid : Prop := fnNearestWordUptoRow.holds Try.pinned (OpenSpec.upto fnNearestWordSpec)

end Rows
end Go.Proofs.Ytdcjfcfiflpblaa
