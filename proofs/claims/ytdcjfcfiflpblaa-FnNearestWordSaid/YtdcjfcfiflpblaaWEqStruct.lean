/- Words for the walks, as the kit prints them; what these claims do not use is left out. -/
import Derived.Test.YtdcjfcfiflpblaaWWords
import Derived.Laws.StructEq
/-! ### 53. '==' of structs as_ one Bool -/
namespace Go.Proofs.YtdcjfcfiflpblaaW.PrintWords
open Go.RowKit
section
variable {P : Program} {d : Nat} {xs ys : Array Value} {f : Field} {fs : List Field} {a b : Value} {r s : Bool} {w : World}
end
end Go.Proofs.YtdcjfcfiflpblaaW.PrintWords
