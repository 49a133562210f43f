/- Words for the walks, as the kit prints them; what these claims do not use is left out. -/
import Derived.Test.YtdcjfcfiflpblaaWN
/-! ### 52. A row that stays read whatever happens to a block (a set of blocks) doesn't lie there -/
namespace Go.Proofs.YtdcjfcfiflpblaaW.PrintWords
open Go.RowKit
namespace Kd
section
variable {α : Type} {d : Kd α} {W : World} {g n : Nat} {S ok : Nat → Prop} {A : Option Addr} {ad : Addr} {xs : List α}
end
end Kd
end Go.Proofs.YtdcjfcfiflpblaaW.PrintWords
