/- UnGray tells what the reference tells, for every whole number; no condition. -/
import Derived.Test.YtamgllkncpnmiaaPFnExactUnGrayx1
import Derived.Test.YtamgllkncpnmiaaCom
import Derived.Test.YtamgllkncpnmiaaGry
set_option linter.unusedVariables false
set_option linter.unusedSimpArgs false
namespace Go.Proofs.Ytamgllkncpnmiaa.Pure
open Go.RowKit Go.Proofs.Ytamgllkncpnmiaa.PFnExactUnGray Go.Proofs.YtamgllkncpnmiaaW.PrintWords Go.Proofs.YtamgllkncpnmiaaW.PrintLast Go.Proofs.Ytamgllkncpnmiaa.Com Go.Proofs.Ytamgllkncpnmiaa.Gry

theorem l1In_eq (a b c : Int) : spec_l1In.f a b c = some (decide (b ≤ a ∧ a ≤ c)) := by
  unfold spec_l1In.f
  by_cases h : b ≤ a
  · rw [if_pos h]; simp [h]
  · rw [if_neg h]; simp [h]

theorem sUnGray_l0 : ∀ (f n acc : Nat), n < 2 ^ f → n < 9223372036854775808 → acc < 9223372036854775808 → Ev (fun k => spec_UnGray.l0 k (n : Int) (acc : Int)) ((acc ^^^ px f n : Nat) : Int) := by
  intro f
  induction f with
  | zero =>
    intro n acc h _ _
    refine Ev.fin (fun k => ?_)
    rw [spec_UnGray.l0, if_neg (by omega)]
    show some (acc : Int) = some ((acc ^^^ 0 : Nat) : Int)
    rw [Nat.xor_zero]
  | succ f ih =>
    intro n acc h hn ha
    by_cases h0 : n = 0
    · refine Ev.fin (fun k => ?_)
      rw [spec_UnGray.l0, if_neg (by omega), h0, px_zero, Nat.xor_zero]
    · have hp : 2 ^ (f + 1) = 2 * 2 ^ f := by rw [Nat.pow_succ]; omega
      have hx : acc ^^^ n < 2 ^ 63 := Nat.xor_lt_two_pow (by omega) (by omega)
      refine Ev.cast (Ev.step (fun k => ?_) (ih (n / 2) (acc ^^^ n) (by omega) (by omega) (by omega))) ?_
      · rw [spec_UnGray.l0, if_pos (by omega), xor64 _ _ ha hn, Int.tdiv_eq_ediv_of_nonneg (by omega), w64 (by omega) (by omega)]
        rfl
      · show ((acc ^^^ n ^^^ px f (n / 2) : Nat) : Int) = ((acc ^^^ (n ^^^ px f (n / 2)) : Nat) : Int)
        rw [Nat.xor_assoc]
def ugM (a : Int) : Int := if 0 ≤ a ∧ a ≤ 4000000000000000000 then ((px 64 a.toNat : Nat) : Int) else 0
theorem sUnGray_ev (a : Int) : Ev (fun k => spec_UnGray.f k a) (ugM a) := by
  unfold spec_UnGray.f ugM
  refine Ev.bind0 (l1In_eq _ _ _) ?_
  by_cases h : 0 ≤ a ∧ a ≤ 4000000000000000000
  · rw [if_pos h]
    refine Ev.pos (decide_eq_true h) ?_
    obtain ⟨n, rfl⟩ : ∃ n : Nat, a = n := ⟨a.toNat, by omega⟩
    refine Ev.cast (sUnGray_l0 64 n 0 (by omega) (by omega) (by omega)) ?_
    rw [Nat.zero_xor, Int.toNat_natCast]
  · rw [if_neg h]
    exact Ev.neg (by simpa using h) (Ev.now 0)

theorem shr_nat (x y : Nat) (h : y ≤ 64) : shr .i64 (x : Int) (y : Int) = ((x / 2 ^ y : Nat) : Int) := by
  unfold shr
  rw [Int.toNat_natCast, show min y (IntKind.bits .i64) = y from Nat.min_eq_left h]
  exact (Int.natCast_ediv x (2 ^ y)).symm

theorem iunGray_ev (n : Nat) (hn : n < 2 ^ 63) : Ev (fun k => impl_unGray.f k (n : Int)) ((px 64 n : Nat) : Int) := by
  unfold impl_unGray.f
  have step : ∀ m, m < 64 → Ev (fun k => impl_unGray.l0 k ((px (m + m) n : Nat) : Int) ((2 * m : Nat) : Int)) ((px 64 n : Nat) : Int) → Ev (fun k => impl_unGray.l0 k ((px m n : Nat) : Int) (m : Int)) ((px 64 n : Nat) : Int) := by
    intro m hm h
    refine Ev.step (fun k => ?_) h
    have h1 := px_lt 63 m n hn
    have h2 : px m n / 2 ^ m < 9223372036854775808 := Nat.lt_of_le_of_lt (Nat.div_le_self _ _) (by omega)
    have e2 : wrap64 ((m : Int) * 2) = ((2 * m : Nat) : Int) := by rw [w64 (by omega) (by omega)]; omega
    rw [impl_unGray.l0, if_pos (by omega), if_pos (by omega), shr_nat _ _ (by omega), xor64 _ _ (by omega) h2, px_double, e2]
  have h1 : px 1 n = n := by show n ^^^ 0 = n; rw [Nat.xor_zero]
  have := step 1 (by omega) (step 2 (by omega) (step 4 (by omega) (step 8 (by omega) (step 16 (by omega) (step 32 (by omega) (Ev.fin (fun k => by rw [impl_unGray.l0, if_neg (by omega)])))))))
  rw [h1] at this
  exact this

theorem iUnGray_ev (a : Int) : Ev (fun k => impl_UnGray.f k a) (ugM a) := by
  unfold impl_UnGray.f ugM
  by_cases h0 : a < 0
  · rw [if_neg (by omega)]
    exact Ev.pos h0 (Ev.now 0)
  · refine Ev.neg h0 ?_
    by_cases h1 : a > 4000000000000000000
    · rw [if_neg (by omega)]
      exact Ev.pos h1 (Ev.now 0)
    · rw [if_pos (by omega)]
      obtain ⟨n, rfl⟩ : ∃ n : Nat, a = n := ⟨a.toNat, by omega⟩
      rw [Int.toNat_natCast]
      exact Ev.neg h1 (Ev.bind (iunGray_ev n (by omega)) (Ev.now _))

theorem FnExactUnGray : laws_FnExactUnGray.Pure := by
  intro a _
  refine Ev.rounds ?_
  unfold laws_FnExactUnGray.f
  exact Ev.bind (sUnGray_ev a) (Ev.bind (iUnGray_ev a) (Ev.pos rfl (Ev.now true)))

end Go.Proofs.Ytamgllkncpnmiaa.Pure
