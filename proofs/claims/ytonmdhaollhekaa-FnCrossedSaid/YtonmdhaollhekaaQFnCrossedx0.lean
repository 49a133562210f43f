/- The functions that FnCrossed reaches, each with its walk; written by a program (own.py). -/
import Derived.Test.YtonmdhaollhekaaProg
import Derived.Below
import Derived.Deep.Draws
import Derived.Deep.AppendLies
import Derived.Maps.AppendAt
import Derived.OwnWalk
import Derived.Laws.BytesArg
import Derived.Laws.MakeOwn
import Derived.Laws.OwnMore
import Derived.Deep.OwnRows
import Derived.Tactics
import Derived.Lib.ConvBytes
import Derived.Laws.Slices
import Derived.WalkKit
import Derived.KernelRfl
import Derived.RowKit3
import Derived.Deep.LoopGhost
import Derived.Deep.QuietTactic
import Derived.BigQuiet
import Derived.WideLaws
import Derived.Deep.DeepCutAuto
import Derived.Deep.CutBlock
import Derived.Deep.RegionHeld3
import Derived.Laws.Rows
import Derived.Lib.AppendStr
import Derived.ArgAppend
import Derived.Laws.IdiomCopy
import Derived.OrdersHeld
import Derived.Laws.BitsLemmas
import Derived.RowKit
import Derived.Test.YtonmdhaollhekaaWWords
import Derived.Test.YtonmdhaollhekaaWLast
import Derived.Test.YtonmdhaollhekaaWTab
import Derived.Test.YtonmdhaollhekaaWFour
import Derived.Test.YtonmdhaollhekaaWQPut
import Derived.Test.YtonmdhaollhekaaWApart
import Derived.Test.YtonmdhaollhekaaWArr
import Derived.Test.YtonmdhaollhekaaWZeros
import Derived.Test.YtonmdhaollhekaaWFoot
import Derived.Test.YtonmdhaollhekaaWKept
import Derived.Test.YtonmdhaollhekaaWShare
import Derived.Test.YtonmdhaollhekaaWN
import Derived.Test.YtonmdhaollhekaaWFootNe
import Derived.Test.YtonmdhaollhekaaWAt
import Derived.Test.YtonmdhaollhekaaWEqStruct
import Derived.Test.YtonmdhaollhekaaWRepsOne
import Derived.Test.YtonmdhaollhekaaWInv
import Derived.Test.YtonmdhaollhekaaWInvWords
import Derived.Test.YtonmdhaollhekaaWGuard
import Derived.Test.YtonmdhaollhekaaWNEv
import Derived.Test.YtonmdhaollhekaaWMore
namespace Go.Proofs.Ytonmdhaollhekaa.PFnCrossed
open Go.RowKit Go.Proofs.YtonmdhaollhekaaW.PrintWords Go.Proofs.YtonmdhaollhekaaW.PrintLast Go.Proofs.YtonmdhaollhekaaW.PrintMore
attribute [local go_sem] max2_int min2_int max_two min_two max_three min_three max_four min_four   -- for this text's walks alone
set_option linter.unusedVariables false
set_option linter.unusedSimpArgs false



def errW : Option Int → Value
  | none => .nilIface
  | some c => .iface 0 (.int .i64 c)
theorem errW_none : errW none = .nilIface := rfl
theorem errW_some (c : Int) : errW (some c) = .iface 0 (.int .i64 c) := rfl

theorem info3 : (Try.prog.info? 3).map (fun i => (i.zero, i.size, i.bytes)) = some (some (.int .i64 0), 1, 8) := by kernel_rfl
-- the values' own types

end Go.Proofs.Ytonmdhaollhekaa.PFnCrossed
