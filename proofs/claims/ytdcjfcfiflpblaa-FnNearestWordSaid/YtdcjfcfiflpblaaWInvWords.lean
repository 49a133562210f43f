/- Words for the walks, as the kit prints them; what these claims do not use is left out. -/
import Derived.Test.YtdcjfcfiflpblaaWInv
import Derived.Test.YtdcjfcfiflpblaaWFootNe
namespace Go.Proofs.YtdcjfcfiflpblaaW.PrintWords
open Go.RowKit
end Go.Proofs.YtdcjfcfiflpblaaW.PrintWords
namespace Go.Proofs.YtdcjfcfiflpblaaW.PrintLast
section
variable {ops : Array Oper} {a : Act} {o og : Oper} {g : Nat} {t : Tmp} {u : Bool}
end
end Go.Proofs.YtdcjfcfiflpblaaW.PrintLast
