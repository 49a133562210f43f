/- The functions that FnExactPack8 reaches, each with its walk; written by a program (own.py). -/
import Derived.Test.YtkdpnjobokijdaaProg
import Derived.Below
import Derived.Deep.Draws
import Derived.Deep.AppendLies
import Derived.Maps.AppendAt
import Derived.OwnWalk
import Derived.Laws.BytesArg
import Derived.Laws.MakeOwn
import Derived.Laws.OwnMore
import Derived.Deep.OwnRows
import Derived.Tactics
import Derived.Lib.ConvBytes
import Derived.Laws.Slices
import Derived.WalkKit
import Derived.KernelRfl
import Derived.RowKit3
import Derived.Deep.LoopGhost
import Derived.Deep.QuietTactic
import Derived.BigQuiet
import Derived.WideLaws
import Derived.Deep.DeepCutAuto
import Derived.Deep.CutBlock
import Derived.Deep.RegionHeld3
import Derived.Laws.Rows
import Derived.Lib.AppendStr
import Derived.ArgAppend
import Derived.Laws.IdiomCopy
import Derived.OrdersHeld
import Derived.Laws.BitsLemmas
import Derived.RowKit
import Derived.Test.YtkdpnjobokijdaaWWords
import Derived.Test.YtkdpnjobokijdaaWLast
import Derived.Test.YtkdpnjobokijdaaWTab
import Derived.Test.YtkdpnjobokijdaaWFour
import Derived.Test.YtkdpnjobokijdaaWQPut
import Derived.Test.YtkdpnjobokijdaaWApart
import Derived.Test.YtkdpnjobokijdaaWArr
import Derived.Test.YtkdpnjobokijdaaWZeros
import Derived.Test.YtkdpnjobokijdaaWFoot
import Derived.Test.YtkdpnjobokijdaaWKept
import Derived.Test.YtkdpnjobokijdaaWShare
import Derived.Test.YtkdpnjobokijdaaWN
import Derived.Test.YtkdpnjobokijdaaWFootNe
import Derived.Test.YtkdpnjobokijdaaWAt
import Derived.Test.YtkdpnjobokijdaaWEqStruct
import Derived.Test.YtkdpnjobokijdaaWRepsOne
import Derived.Test.YtkdpnjobokijdaaWInv
import Derived.Test.YtkdpnjobokijdaaWInvWords
import Derived.Test.YtkdpnjobokijdaaWGuard
import Derived.Test.YtkdpnjobokijdaaWNEv
import Derived.Test.YtkdpnjobokijdaaWMore
namespace Go.Proofs.Ytkdpnjobokijdaa.PFnExactPack8
open Go.RowKit Go.Proofs.YtkdpnjobokijdaaW.PrintWords Go.Proofs.YtkdpnjobokijdaaW.PrintLast Go.Proofs.YtkdpnjobokijdaaW.PrintMore
attribute [local go_sem] max2_int min2_int max_two min_two max_three min_three max_four min_four   -- for this text's walks alone
set_option linter.unusedVariables false
set_option linter.unusedSimpArgs false



def errW : Option Int → Value
  | none => .nilIface
  | some c => .iface 0 (.int .i64 c)
theorem errW_none : errW none = .nilIface := rfl
theorem errW_some (c : Int) : errW (some c) = .iface 0 (.int .i64 c) := rfl

theorem info3 : (Try.prog.info? 3).map (fun i => (i.zero, i.size, i.bytes)) = some (some (.int .i64 0), 1, 8) := by kernel_rfl
theorem info5 : (Try.prog.info? 5).map (fun i => (i.zero, i.size, i.bytes)) = some (some (.int .u8 0), 1, 1) := by kernel_rfl
-- the values' own types

end Go.Proofs.Ytkdpnjobokijdaa.PFnExactPack8
