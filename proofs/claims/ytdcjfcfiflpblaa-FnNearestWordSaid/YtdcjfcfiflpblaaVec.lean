/- Lists of whole numbers told by a function: reading, storing and lengthening them; no condition. -/
import Derived.Test.YtdcjfcfiflpblaaCom
namespace Go.Proofs.Ytdcjfcfiflpblaa.Vec
open Go.RowKit Go.Proofs.YtdcjfcfiflpblaaW.PrintWords Go.Proofs.Ytdcjfcfiflpblaa.Com

/-- The first L numbers that a function tells. -/
def vec (L : Nat) (r : Nat → Nat) : List Int := (List.range L).map fun p => ((r p : Nat) : Int)
theorem vec_len (L : Nat) (r : Nat → Nat) : (vec L r).length = L := by simp [vec]
theorem vec_get (L : Nat) (r : Nat → Nat) (p : Nat) : (vec L r)[p]? = if p < L then some ((r p : Nat) : Int) else none := by
  unfold vec
  rw [List.getElem?_map]
  by_cases h : p < L
  · rw [if_pos h, List.getElem?_range h]; rfl
  · rw [if_neg h, List.getElem?_eq_none (by simp; omega)]; rfl
theorem rd_vec {L : Nat} (r : Nat → Nat) {p : Nat} (h : p < L) : rd (vec L r) (p : Int) = ((r p : Nat) : Int) := by
  unfold rd; rw [Int.toNat_natCast, List.getD_eq_getElem?_getD, vec_get, if_pos h]; rfl
theorem vec_congr {L : Nat} {r s : Nat → Nat} (h : ∀ p, p < L → r p = s p) : vec L r = vec L s := by
  apply List.ext_getElem?
  intro p
  rw [vec_get, vec_get]
  by_cases hp : p < L
  · rw [if_pos hp, if_pos hp, h p hp]
  · rw [if_neg hp, if_neg hp]
def upd (r : Nat → Nat) (q v : Nat) (p : Nat) : Nat := if p = q then v else r p
theorem set_vec {L : Nat} (r : Nat → Nat) {q : Nat} (v : Nat) (h : q < L) : (vec L r).set q ((v : Nat) : Int) = vec L (upd r q v) := by
  apply List.ext_getElem?
  intro p
  rw [List.getElem?_set, vec_get, vec_get, vec_len]
  unfold upd
  by_cases e : q = p
  · subst e; rw [if_pos rfl, if_pos h, if_pos h, if_pos rfl]
  · rw [if_neg e]; by_cases hp : p < L
    · rw [if_pos hp, if_pos hp, if_neg (fun h => e h.symm)]
    · rw [if_neg hp, if_neg hp]
theorem vec_snoc (L : Nat) (r : Nat → Nat) : vec (L + 1) r = vec L r ++ [((r L : Nat) : Int)] := by
  unfold vec; rw [List.range_succ, List.map_append]; rfl
theorem vec_rep (L : Nat) : List.replicate L (0 : Int) = vec L (fun _ => 0) := by
  induction L with
  | zero => rfl
  | succ L ih => rw [vec_snoc, ← ih, List.replicate_succ']; rfl
theorem drop_vec (L q : Nat) (r : Nat → Nat) : (vec L r).drop q = vec (L - q) (fun p => r (q + p)) := by
  apply List.ext_getElem?
  intro p
  rw [List.getElem?_drop, vec_get, vec_get]
  by_cases h : q + p < L
  · rw [if_pos h, if_pos (by omega)]
  · rw [if_neg h, if_neg (by omega)]
/-- A list of numbers not below 0, told by a function. -/
def tl (l : List Int) (p : Nat) : Nat := (rd l (p : Int)).toNat
theorem tl_vec {l : List Int} (h : ∀ p, p < l.length → 0 ≤ rd l (p : Int)) : l = vec l.length (tl l) := by
  apply List.ext_getElem?
  intro p
  rw [vec_get]
  by_cases hp : p < l.length
  · have := h p hp
    rw [if_pos hp]; unfold tl
    rw [Int.toNat_of_nonneg this, rd_lt hp, List.getElem?_eq_getElem hp]
  · rw [if_neg hp, List.getElem?_eq_none (by omega)]
theorem tl_end {l : List Int} {p : Nat} (h : l.length ≤ p) : tl l p = 0 := by
  unfold tl rd; rw [Int.toNat_natCast, List.getD_eq_getElem?_getD, List.getElem?_eq_none h]; rfl

end Go.Proofs.Ytdcjfcfiflpblaa.Vec
