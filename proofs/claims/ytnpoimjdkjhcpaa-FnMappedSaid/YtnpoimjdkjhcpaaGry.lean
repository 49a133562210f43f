/- Gray numbers in plain numbers: shifted sums without carry; no condition. -/
import Derived.Test.YtnpoimjdkjhcpaaCom
namespace Go.Proofs.Ytnpoimjdkjhcpaa.Gry
/-- The sum without carry of n, its half, its quarter .. (m of them). -/
def px : Nat → Nat → Nat
  | 0, _ => 0
  | m + 1, n => n ^^^ px m (n / 2)
theorem px_zero : ∀ m, px m 0 = 0
  | 0 => rfl
  | m + 1 => by show 0 ^^^ px m (0 / 2) = 0; rw [Nat.zero_xor]; exact px_zero m
theorem px_xor : ∀ (m a b : Nat), px m (a ^^^ b) = px m a ^^^ px m b
  | 0, _, _ => (Nat.xor_self 0).symm
  | m + 1, a, b => by
    show (a ^^^ b) ^^^ px m ((a ^^^ b) / 2) = (a ^^^ px m (a / 2)) ^^^ (b ^^^ px m (b / 2))
    rw [Nat.xor_div_two, px_xor m]
    simp only [Nat.xor_assoc, Com.xor_left_comm]
theorem px_lt (k : Nat) : ∀ (m n : Nat), n < 2 ^ k → px m n < 2 ^ k
  | 0, _, _ => Nat.pow_pos (by omega)
  | m + 1, n, h => Nat.xor_lt_two_pow h (px_lt k m (n / 2) (Nat.lt_of_le_of_lt (Nat.div_le_self _ _) h))
theorem half_pow (n m : Nat) : n / 2 / 2 ^ m = n / 2 ^ (m + 1) := by rw [Nat.div_div_eq_div_mul, Nat.pow_succ, Nat.mul_comm]
theorem pow_half (n m : Nat) : n / 2 ^ m / 2 = n / 2 ^ (m + 1) := by rw [Nat.div_div_eq_div_mul, Nat.pow_succ]
theorem px_add : ∀ (m l n : Nat), px (m + l) n = px m n ^^^ px l (n / 2 ^ m)
  | 0, l, n => by rw [Nat.zero_add, Nat.pow_zero, Nat.div_one]; show px l n = 0 ^^^ px l n; rw [Nat.zero_xor]
  | m + 1, l, n => by
    rw [show m + 1 + l = (m + l) + 1 by omega]
    show n ^^^ px (m + l) (n / 2) = (n ^^^ px m (n / 2)) ^^^ px l (n / 2 ^ (m + 1))
    rw [px_add m l (n / 2), half_pow, Nat.xor_assoc]
theorem xor_div_pow (a b j : Nat) : (a ^^^ b) / 2 ^ j = a / 2 ^ j ^^^ b / 2 ^ j := by
  rw [← Nat.shiftRight_eq_div_pow, ← Nat.shiftRight_eq_div_pow, ← Nat.shiftRight_eq_div_pow, Nat.shiftRight_xor_distrib]
theorem px_div (j : Nat) : ∀ (m n : Nat), px m n / 2 ^ j = px m (n / 2 ^ j)
  | 0, _ => Nat.zero_div _
  | m + 1, n => by
    show (n ^^^ px m (n / 2)) / 2 ^ j = n / 2 ^ j ^^^ px m (n / 2 ^ j / 2)
    rw [xor_div_pow, px_div j m, half_pow, pow_half]
theorem px_double (m n : Nat) : px m n ^^^ px m n / 2 ^ m = px (m + m) n := by rw [px_add, px_div]
theorem px_gray (m n : Nat) (h : n < 2 ^ m) : px m (n ^^^ n / 2) = n := by
  have h1 : px (m + 1) n = px m n ^^^ px 1 (n / 2 ^ m) := px_add m 1 n
  rw [Nat.div_eq_of_lt h, px_zero, Nat.xor_zero] at h1
  have h2 : n ^^^ px m (n / 2) = px m n := h1
  rw [px_xor, ← h2, Nat.xor_assoc, Nat.xor_self, Nat.xor_zero]
theorem add_pow (j x : Nat) (h : x < 2 ^ j) : 2 ^ j ^^^ x = 2 ^ j + x := by
  apply Nat.eq_of_testBit_eq
  intro i
  rw [Nat.testBit_xor, Nat.testBit_two_pow]
  rcases Nat.lt_trichotomy i j with hi | rfl | hi
  · rw [Nat.testBit_two_pow_add_gt hi]
    simp [show j ≠ i by omega]
  · rw [Nat.testBit_two_pow_add_eq, Nat.testBit_lt_two_pow h]; simp
  · have hp : 2 ^ j + x < 2 ^ i := by
      have : 2 ^ (j + 1) ≤ 2 ^ i := Nat.pow_le_pow_right (by omega) hi
      rw [Nat.pow_succ] at this; omega
    rw [Nat.testBit_lt_two_pow hp, Nat.testBit_lt_two_pow (Nat.lt_of_lt_of_le h (Nat.pow_le_pow_right (by omega) (Nat.le_of_lt hi)))]
    simp [show j ≠ i by omega]
theorem next_xor (n : Nat) : ∃ j, n ^^^ (n + 1) = 2 ^ (j + 1) - 1 := by
  induction n using Nat.strongRecOn with
  | ind n ih =>
    have hr : ∀ x y : Nat, (x ^^^ y) = 2 * (x / 2 ^^^ y / 2) + (x % 2 + y % 2) % 2 := by
      intro x y
      have h1 : (x ^^^ y) / 2 = x / 2 ^^^ y / 2 := Nat.xor_div_two
      have h2 : (x ^^^ y) % 2 = x % 2 ^^^ y % 2 := Nat.xor_mod_two_pow (n := 1)
      have hx : x % 2 = 0 ∨ x % 2 = 1 := by omega
      have hy : y % 2 = 0 ∨ y % 2 = 1 := by omega
      have h3 : x % 2 ^^^ y % 2 = (x % 2 + y % 2) % 2 := by rcases hx with hx | hx <;> rcases hy with hy | hy <;> rw [hx, hy] <;> rfl
      omega
    by_cases he : n % 2 = 0
    · refine ⟨0, ?_⟩
      rw [hr, show (n + 1) / 2 = n / 2 by omega, Nat.xor_self]
      omega
    · obtain ⟨j, hj⟩ := ih (n / 2) (by omega)
      refine ⟨j + 1, ?_⟩
      rw [hr, show (n + 1) / 2 = n / 2 + 1 by omega, hj]
      have : 2 ^ (j + 1 + 1) = 2 * 2 ^ (j + 1) := by rw [Nat.pow_succ 2 (j + 1)]; omega
      have : 0 < 2 ^ (j + 1) := Nat.pow_pos (by omega)
      omega
theorem gray_next (n : Nat) : ∃ j, (n ^^^ n / 2) ^^^ ((n + 1) ^^^ (n + 1) / 2) = 2 ^ j := by
  obtain ⟨j, hj⟩ := next_xor n
  refine ⟨j, ?_⟩
  have e : (n ^^^ n / 2) ^^^ ((n + 1) ^^^ (n + 1) / 2) = (n ^^^ (n + 1)) ^^^ (n ^^^ (n + 1)) / 2 := by
    rw [Nat.xor_div_two]
    simp only [Nat.xor_assoc, Com.xor_left_comm]
  have hp : 0 < 2 ^ j := Nat.pow_pos (by omega)
  have h2 : 2 ^ (j + 1) = 2 * 2 ^ j := by rw [Nat.pow_succ]; omega
  rw [e, hj, show (2 ^ (j + 1) - 1) / 2 = 2 ^ j - 1 by omega, show 2 ^ (j + 1) - 1 = 2 ^ j + (2 ^ j - 1) by omega, ← add_pow j _ (by omega), Nat.xor_assoc, Nat.xor_self, Nat.xor_zero]
end Go.Proofs.Ytnpoimjdkjhcpaa.Gry
