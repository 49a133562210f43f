/- Words for the walks, as the kit prints them; what these claims do not use is left out. -/
import Derived.Test.YtdcjfcfiflpblaaWTab
/-! ### 56. Four, five, six operations that may come up next, in any order -/
namespace Go.Proofs.YtdcjfcfiflpblaaW.PrintLast
section
variable {P : Program} {ops : Array Oper} {Q : Exit → Act → World → Prop} {md : Region.Mode} {S : World → Prop} {ds : List Nat} {T : Bool × List (List Nat × List Nat)}
end
end Go.Proofs.YtdcjfcfiflpblaaW.PrintLast
