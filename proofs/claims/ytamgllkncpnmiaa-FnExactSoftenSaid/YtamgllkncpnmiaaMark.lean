/- The list 1, 2, .., n with which the statements mark memory; no condition. -/
import Derived.Test.YtamgllkncpnmiaaCom
namespace Go.Proofs.Ytamgllkncpnmiaa.Mark
open Go.RowKit Go.Proofs.YtamgllkncpnmiaaW.PrintWords Go.Proofs.Ytamgllkncpnmiaa.Com
def mkL : Nat → List Int
  | 0 => []
  | n + 1 => mkL n ++ [1 + (n : Int)]
theorem mkL_length : ∀ n, (mkL n).length = n
  | 0 => rfl
  | n + 1 => by show (mkL n ++ [1 + (n : Int)]).length = n + 1; simp [mkL_length n]
theorem rd_mkL : ∀ {n i : Nat}, i < n → rd (mkL n) (i : Int) = 1 + (i : Int)
  | n + 1, i, h => by
    have hl := mkL_length n
    unfold rd
    rw [Int.toNat_natCast]
    show (mkL n ++ [1 + (n : Int)]).getD i 0 = _
    rw [List.getD_eq_getElem?_getD]
    by_cases e : i < n
    · rw [List.getElem?_append_left (by omega), ← List.getD_eq_getElem?_getD]
      have := rd_mkL e
      unfold rd at this
      rwa [Int.toNat_natCast] at this
    · obtain rfl : i = n := by omega
      rw [List.getElem?_append_right (by omega), hl]
      simp
end Go.Proofs.Ytamgllkncpnmiaa.Mark
