/- Pascal's rows, sums over a part of a row, and that a row reads the same from behind; in plain numbers, up to sixty coins; no condition but the bounds. -/
import Derived.Test.YtonmdhaollhekaaCom
namespace Go.Proofs.Ytonmdhaollhekaa.Way
/-- The sums of neighbours. -/
def adj : List Nat → List Nat
  | x :: y :: t => (x + y) :: adj (y :: t)
  | _ => []
def row : Nat → List Nat
  | 0 => [1]
  | n + 1 => 1 :: (adj (row n) ++ [1])
/-- The k-th number of the n-th row. -/
def ch (n k : Nat) : Nat := (row n).getD k 0
/-- What the program's row must be: each next one out of the one ahead. -/
def stepB (n : Nat) : Nat → Nat → List Nat → Bool
  | k, c, [] => c == 0 && k == n + 1
  | k, c, x :: t => c == x && decide (c * (n - k) < 9223372036854775808) && (c * (n - k)) % (k + 1) == 0 && stepB n (k + 1) (c * (n - k) / (k + 1)) t
def sumL : List Nat → Nat
  | [] => 0
  | x :: t => x + sumL t
def rowB (n : Nat) : Bool := stepB n 0 1 (row n) && (row n).length == n + 1 && (row n).reverse == row n && sumL (row n) == 2 ^ n
theorem row_tab : ((List.range 61).all rowB) = true := by decide +kernel
theorem row_of {n : Nat} (h : n ≤ 60) : rowB n = true := List.all_eq_true.1 row_tab n (List.mem_range.2 (by omega))
theorem row_len {n : Nat} (h : n ≤ 60) : (row n).length = n + 1 := by
  have h1 := row_of h
  simp only [rowB, Bool.and_eq_true] at h1
  exact eq_of_beq h1.1.1.2
theorem row_rev {n : Nat} (h : n ≤ 60) : (row n).reverse = row n := by
  have h1 := row_of h
  simp only [rowB, Bool.and_eq_true] at h1
  exact eq_of_beq h1.1.2
theorem row_sum {n : Nat} (h : n ≤ 60) : sumL (row n) = 2 ^ n := by
  have h1 := row_of h
  simp only [rowB, Bool.and_eq_true] at h1
  exact eq_of_beq h1.2
theorem row_step {n : Nat} (h : n ≤ 60) : stepB n 0 1 (row n) = true := by
  have h1 := row_of h
  simp only [rowB, Bool.and_eq_true] at h1
  exact h1.1.1.1
def sumTo (g : Nat → Nat) : Nat → Nat
  | 0 => 0
  | m + 1 => sumTo g m + g m
theorem sumTo_first (g : Nat → Nat) : ∀ m, sumTo g (m + 1) = g 0 + sumTo (fun k => g (k + 1)) m
  | 0 => by simp [sumTo]
  | m + 1 => by
    have h := sumTo_first g m
    show sumTo g (m + 1) + g (m + 1) = g 0 + (sumTo (fun k => g (k + 1)) m + g (m + 1))
    omega
theorem sumTo_congr {g h : Nat → Nat} : ∀ {m : Nat}, (∀ k, k < m → g k = h k) → sumTo g m = sumTo h m
  | 0, _ => rfl
  | m + 1, e => by
    show sumTo g m + g m = sumTo h m + h m
    rw [sumTo_congr (fun k hk => e k (by omega)), e m (by omega)]
theorem sumTo_rev : ∀ (m : Nat) (g : Nat → Nat), sumTo (fun k => g (m - 1 - k)) m = sumTo g m
  | 0, _ => rfl
  | m + 1, g => by
    rw [sumTo_first g m, ← sumTo_rev m (fun k => g (k + 1))]
    show sumTo (fun k => g (m + 1 - 1 - k)) m + g (m + 1 - 1 - m) = _
    have e0 : m + 1 - 1 - m = 0 := by omega
    rw [e0, Nat.add_comm]
    congr 1
    exact sumTo_congr fun k hk => by show g (m + 1 - 1 - k) = g (m - 1 - k + 1); congr 1; omega
theorem sumTo_le {g h : Nat → Nat} : ∀ (m : Nat), (∀ k, g k ≤ h k) → sumTo g m ≤ sumTo h m
  | 0, _ => Nat.le_refl _
  | m + 1, e => by
    show sumTo g m + g m ≤ sumTo h m + h m
    have := sumTo_le m e
    have := e m
    omega
theorem sumTo_mono (g : Nat → Nat) {m n : Nat} (h : m ≤ n) : sumTo g m ≤ sumTo g n := by
  induction n with
  | zero => rw [Nat.le_zero.1 h]; exact Nat.le_refl _
  | succ n ih =>
    rcases Nat.lt_or_ge m (n + 1) with h1 | h1
    · exact Nat.le_trans (ih (by omega)) (Nat.le_add_right _ _)
    · rw [show m = n + 1 by omega]; exact Nat.le_refl _
theorem sumTo_add (g h : Nat → Nat) : ∀ m, sumTo (fun k => g k + h k) m = sumTo g m + sumTo h m
  | 0 => rfl
  | m + 1 => by
    show sumTo (fun k => g k + h k) m + (g m + h m) = (sumTo g m + g m) + (sumTo h m + h m)
    rw [sumTo_add g h m]; omega
theorem sumTo_list : ∀ (l : List Nat), sumTo (fun k => l.getD k 0) l.length = sumL l
  | [] => rfl
  | x :: t => by
    rw [List.length_cons, sumTo_first]
    show x + sumTo (fun k => t.getD k 0) t.length = x + sumL t
    rw [sumTo_list t]
theorem ch_rev {n : Nat} (h : n ≤ 60) {k : Nat} (hk : k ≤ n) : ch n (n - k) = ch n k := by
  have hl := row_len h
  unfold ch
  have h1 : (row n).reverse.getD k 0 = (row n).getD k 0 := by rw [row_rev h]
  rw [← h1, List.getD_eq_getElem?_getD, List.getD_eq_getElem?_getD, List.getElem?_reverse (by omega), hl]
  congr 2
/-- How many lists of n coins have a sum of at least t: those with k below 0. -/
def wN (n : Nat) (t : Int) : Nat := sumTo (fun k => if t ≤ (n : Int) - 2 * (k : Int) then ch n k else 0) (n + 1)
theorem wN_rev {n : Nat} (h : n ≤ 60) (t : Int) : sumTo (fun k => if t ≤ 2 * (k : Int) - (n : Int) then ch n k else 0) (n + 1) = wN n t := by
  unfold wN
  rw [← sumTo_rev (n + 1)]
  refine sumTo_congr fun k hk => ?_
  have e : n + 1 - 1 - k = n - k := by omega
  rw [e, ch_rev h (by omega)]
  by_cases hc : t ≤ (n : Int) - 2 * (k : Int)
  · rw [if_pos hc, if_pos (by omega)]
  · rw [if_neg hc, if_neg (by omega)]
theorem ch_sum {n : Nat} (h : n ≤ 60) : sumTo (ch n) (n + 1) = 2 ^ n := by
  rw [← row_sum h, ← sumTo_list, row_len h]; rfl
theorem part_le (n : Nat) (p : Nat → Prop) [DecidablePred p] (h : n ≤ 60) {m : Nat} (hm : m ≤ n + 1) : sumTo (fun k => if p k then ch n k else 0) m ≤ 2 ^ n := by
  rw [← ch_sum h]
  refine Nat.le_trans (sumTo_mono _ hm) (sumTo_le _ fun k => ?_)
  split
  · exact Nat.le_refl _
  · exact Nat.zero_le _
theorem wN_le {n : Nat} (h : n ≤ 60) (t : Int) : wN n t ≤ 2 ^ n := part_le n _ h (Nat.le_refl _)
theorem p60 {n : Nat} (h : n ≤ 60) : 2 ^ n ≤ 1152921504606846976 := by
  have h1 : 2 ^ n ≤ 2 ^ 60 := Nat.pow_le_pow_right (by omega) h
  have h2 : (2 : Nat) ^ 60 = 1152921504606846976 := by decide
  omega
/-- Those of at least t and those of at least 1 - t are all. -/
theorem wN_both {n : Nat} (h : n ≤ 60) (t : Int) : wN n t + wN n (1 - t) = 2 ^ n := by
  rw [← wN_rev h (1 - t), ← ch_sum h]
  unfold wN
  rw [← sumTo_add]
  refine sumTo_congr fun k hk => ?_
  by_cases hc : t ≤ (n : Int) - 2 * (k : Int)
  · rw [if_pos hc, if_neg (by omega)]; omega
  · rw [if_neg hc, if_pos (by omega)]; omega
theorem wN_all {n : Nat} (h : n ≤ 60) {t : Int} (ht : t ≤ -(n : Int)) : wN n t = 2 ^ n := by
  rw [← ch_sum h]
  unfold wN
  exact sumTo_congr fun k hk => by rw [if_pos (by omega)]
theorem wN_none (n : Nat) {t : Int} (ht : (n : Int) < t) : wN n t = 0 := by
  unfold wN
  have : ∀ m, sumTo (fun k => if t ≤ (n : Int) - 2 * (k : Int) then ch n k else 0) m = 0 := by
    intro m
    induction m with
    | zero => rfl
    | succ m ih =>
      show sumTo (fun k => if t ≤ (n : Int) - 2 * (k : Int) then ch n k else 0) m + (if t ≤ (n : Int) - 2 * (m : Int) then ch n m else 0) = 0
      rw [ih, if_neg (by omega)]
  exact this _
/-- One more step of the program's row. -/
theorem step_at {n : Nat} : ∀ (l : List Nat) (k c : Nat), stepB n k c l = true → ∀ x, l.head? = some x → c = x ∧ c * (n - k) < 9223372036854775808 ∧ stepB n (k + 1) (c * (n - k) / (k + 1)) l.tail = true
  | [], _, _, _, _, h => by cases h
  | y :: t, k, c, h, x, hx => by
    simp only [stepB, Bool.and_eq_true] at h
    cases hx
    exact ⟨eq_of_beq h.1.1.1, of_decide_eq_true h.1.1.2, h.2⟩
theorem ch_step {n : Nat} (h : n ≤ 60) : ∀ k, k ≤ n + 1 → stepB n k (ch n k) ((row n).drop k) = true := by
  intro k
  induction k with
  | zero =>
    intro _
    have h1 := row_step h
    have e : ch n 0 = 1 := by
      cases n with
      | zero => rfl
      | succ n => rfl
    rw [e]; exact h1
  | succ k ih =>
    intro hk
    have hl := row_len h
    have h1 := ih (by omega)
    have e : (row n).drop k = (row n)[k]'(by omega) :: (row n).drop (k + 1) := List.drop_eq_getElem_cons (by omega)
    rw [e] at h1
    obtain ⟨h2, h3, h4⟩ := step_at _ k _ h1 _ rfl
    have h5 : stepB n (k + 1) (ch n k * (n - k) / (k + 1)) ((row n).drop (k + 1)) = true := h4
    have e2 : ch n k * (n - k) / (k + 1) = ch n (k + 1) := by
      rcases Nat.lt_or_ge (k + 1) (row n).length with hx | hx
      · have e3 : (row n).drop (k + 1) = (row n)[k + 1]'hx :: (row n).drop (k + 1 + 1) := List.drop_eq_getElem_cons hx
        rw [e3] at h5
        have h6 := (step_at _ _ _ h5 _ rfl).1
        rw [h6]; unfold ch; rw [List.getD_eq_getElem?_getD, List.getElem?_eq_getElem hx]; rfl
      · rw [List.drop_of_length_le hx] at h5
        simp only [stepB, Bool.and_eq_true] at h5
        rw [eq_of_beq h5.1]; unfold ch; rw [List.getD_eq_getElem?_getD, List.getElem?_eq_none hx]; rfl
    rw [← e2]; exact h5
/-- The program's next number of a row. -/
theorem ch_next {n : Nat} (h : n ≤ 60) {k : Nat} (hk : k ≤ n) : ch n k * (n - k) / (k + 1) = ch n (k + 1) ∧ ch n k * (n - k) < 9223372036854775808 := by
  have hl := row_len h
  have h1 := ch_step h k (by omega)
  have e : (row n).drop k = (row n)[k]'(by omega) :: (row n).drop (k + 1) := List.drop_eq_getElem_cons (by omega)
  rw [e] at h1
  obtain ⟨h2, h3, h4⟩ := step_at _ k _ h1 _ rfl
  refine ⟨?_, h3⟩
  have h5 : stepB n (k + 1) (ch n k * (n - k) / (k + 1)) ((row n).drop (k + 1)) = true := h4
  rcases Nat.lt_or_ge (k + 1) (row n).length with hx | hx
  · have e3 : (row n).drop (k + 1) = (row n)[k + 1]'hx :: (row n).drop (k + 1 + 1) := List.drop_eq_getElem_cons hx
    rw [e3] at h5
    have h6 := (step_at _ _ _ h5 _ rfl).1
    rw [h6]; unfold ch; rw [List.getD_eq_getElem?_getD, List.getElem?_eq_getElem hx]; rfl
  · rw [List.drop_of_length_le hx] at h5
    simp only [stepB, Bool.and_eq_true] at h5
    rw [eq_of_beq h5.1]; unfold ch; rw [List.getD_eq_getElem?_getD, List.getElem?_eq_none hx]; rfl
theorem ch_le {n : Nat} (h : n ≤ 60) {k : Nat} (hk : k ≤ n) : ch n k ≤ 2 ^ n := by
  rw [← ch_sum h]
  have h1 : sumTo (ch n) (k + 1) ≤ sumTo (ch n) (n + 1) := sumTo_mono _ (by omega)
  have h2 : sumTo (ch n) (k + 1) = sumTo (ch n) k + ch n k := rfl
  omega
end Go.Proofs.Ytonmdhaollhekaa.Way
