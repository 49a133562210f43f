/- The list s, s + 1, .. (n numbers) with which the statements mark memory; no condition. -/
import Derived.Test.YtdcjfcfiflpblaaCom
namespace Go.Proofs.Ytdcjfcfiflpblaa.Mark
open Go.RowKit Go.Proofs.YtdcjfcfiflpblaaW.PrintWords Go.Proofs.Ytdcjfcfiflpblaa.Com
def mkL (s : Int) : Nat → List Int
  | 0 => []
  | n + 1 => mkL s n ++ [s + (n : Int)]
theorem mkL_length (s : Int) : ∀ n, (mkL s n).length = n
  | 0 => rfl
  | n + 1 => by show (mkL s n ++ [s + (n : Int)]).length = n + 1; simp [mkL_length s n]
theorem rd_mkL (s : Int) : ∀ {n i : Nat}, i < n → rd (mkL s n) (i : Int) = s + (i : Int)
  | n + 1, i, h => by
    have hl := mkL_length s n
    unfold rd
    rw [Int.toNat_natCast]
    show (mkL s n ++ [s + (n : Int)]).getD i 0 = _
    rw [List.getD_eq_getElem?_getD]
    by_cases e : i < n
    · rw [List.getElem?_append_left (by omega), ← List.getD_eq_getElem?_getD]
      have := rd_mkL s e
      unfold rd at this
      rwa [Int.toNat_natCast] at this
    · obtain rfl : i = n := by omega
      rw [List.getElem?_append_right (by omega), hl]
      simp
def mkB (s : Int) : Nat → List Int
  | 0 => []
  | n + 1 => mkB s n ++ [(s + (n : Int)) % 256]
theorem mkB_length (s : Int) : ∀ n, (mkB s n).length = n
  | 0 => rfl
  | n + 1 => by show (mkB s n ++ [(s + (n : Int)) % 256]).length = n + 1; simp [mkB_length s n]
theorem rd_mkB (s : Int) : ∀ {n i : Nat}, i < n → rd (mkB s n) (i : Int) = (s + (i : Int)) % 256
  | n + 1, i, h => by
    have hl := mkB_length s n
    unfold rd
    rw [Int.toNat_natCast]
    show (mkB s n ++ [(s + (n : Int)) % 256]).getD i 0 = _
    rw [List.getD_eq_getElem?_getD]
    by_cases e : i < n
    · rw [List.getElem?_append_left (by omega), ← List.getD_eq_getElem?_getD]
      have := rd_mkB s e
      unfold rd at this
      rwa [Int.toNat_natCast] at this
    · obtain rfl : i = n := by omega
      rw [List.getElem?_append_right (by omega), hl]
      simp
end Go.Proofs.Ytdcjfcfiflpblaa.Mark
