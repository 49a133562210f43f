/- The functions that FnStirred reaches, each with its walk; written by a program (own.py). -/
import Derived.Test.YtnpoimjdkjhcpaaProg
import Derived.Below
import Derived.Deep.Draws
import Derived.Deep.AppendLies
import Derived.Maps.AppendAt
import Derived.OwnWalk
import Derived.Laws.BytesArg
import Derived.Laws.MakeOwn
import Derived.Laws.OwnMore
import Derived.Deep.OwnRows
import Derived.Tactics
import Derived.Lib.ConvBytes
import Derived.Laws.Slices
import Derived.WalkKit
import Derived.KernelRfl
import Derived.RowKit3
import Derived.Deep.LoopGhost
import Derived.Deep.QuietTactic
import Derived.BigQuiet
import Derived.WideLaws
import Derived.Deep.DeepCutAuto
import Derived.Deep.CutBlock
import Derived.Deep.RegionHeld3
import Derived.Laws.Rows
import Derived.Lib.AppendStr
import Derived.ArgAppend
import Derived.Laws.IdiomCopy
import Derived.OrdersHeld
import Derived.Laws.BitsLemmas
import Derived.RowKit
import Derived.Test.YtnpoimjdkjhcpaaWWords
import Derived.Test.YtnpoimjdkjhcpaaWLast
import Derived.Test.YtnpoimjdkjhcpaaWTab
import Derived.Test.YtnpoimjdkjhcpaaWFour
import Derived.Test.YtnpoimjdkjhcpaaWQPut
import Derived.Test.YtnpoimjdkjhcpaaWApart
import Derived.Test.YtnpoimjdkjhcpaaWArr
import Derived.Test.YtnpoimjdkjhcpaaWZeros
import Derived.Test.YtnpoimjdkjhcpaaWFoot
import Derived.Test.YtnpoimjdkjhcpaaWKept
import Derived.Test.YtnpoimjdkjhcpaaWShare
import Derived.Test.YtnpoimjdkjhcpaaWN
import Derived.Test.YtnpoimjdkjhcpaaWFootNe
import Derived.Test.YtnpoimjdkjhcpaaWAt
import Derived.Test.YtnpoimjdkjhcpaaWEqStruct
import Derived.Test.YtnpoimjdkjhcpaaWRepsOne
import Derived.Test.YtnpoimjdkjhcpaaWInv
import Derived.Test.YtnpoimjdkjhcpaaWInvWords
import Derived.Test.YtnpoimjdkjhcpaaWGuard
import Derived.Test.YtnpoimjdkjhcpaaWNEv
import Derived.Test.YtnpoimjdkjhcpaaWMore
namespace Go.Proofs.Ytnpoimjdkjhcpaa.PFnStirred
open Go.RowKit Go.Proofs.YtnpoimjdkjhcpaaW.PrintWords Go.Proofs.YtnpoimjdkjhcpaaW.PrintLast Go.Proofs.YtnpoimjdkjhcpaaW.PrintMore
attribute [local go_sem] max2_int min2_int max_two min_two max_three min_three max_four min_four   -- for this text's walks alone
set_option linter.unusedVariables false
set_option linter.unusedSimpArgs false



def errW : Option Int → Value
  | none => .nilIface
  | some c => .iface 0 (.int .i64 c)
theorem errW_none : errW none = .nilIface := rfl
theorem errW_some (c : Int) : errW (some c) = .iface 0 (.int .i64 c) := rfl

theorem info3 : (Try.prog.info? 3).map (fun i => (i.zero, i.size, i.bytes)) = some (some (.int .i64 0), 1, 8) := by kernel_rfl
theorem info5 : (Try.prog.info? 5).map (fun i => (i.zero, i.size, i.bytes)) = some (some (.int .u8 0), 1, 1) := by kernel_rfl
-- the values' own types

end Go.Proofs.Ytnpoimjdkjhcpaa.PFnStirred
