/- GfMul tells what the reference tells, for every two whole numbers; no condition. -/
import Derived.Test.YtamgllkncpnmiaaPFnExactGfMulx1
import Derived.Test.YtamgllkncpnmiaaCom
import Derived.Test.YtamgllkncpnmiaaGf
set_option linter.unusedVariables false
set_option linter.unusedSimpArgs false
namespace Go.Proofs.Ytamgllkncpnmiaa.Pure
open Go.RowKit Go.Proofs.Ytamgllkncpnmiaa.PFnExactGfMul Go.Proofs.YtamgllkncpnmiaaW.PrintWords Go.Proofs.YtamgllkncpnmiaaW.PrintLast Go.Proofs.Ytamgllkncpnmiaa.Com Go.Proofs.Ytamgllkncpnmiaa.Gf

theorem isByte_eq (a : Int) : impl_isByte.f a = some (decide (0 ≤ a ∧ a ≤ 255)) := by
  unfold impl_isByte.f
  by_cases h : 0 ≤ a
  · rw [if_pos h]; simp [h]
  · rw [if_neg h]; simp [h]

theorem iGfMul_l0 : ∀ (n a b r : Nat), a < 256 → b < 2 ^ n → n ≤ 8 → r < 256 → Ev (fun k => impl_GfMul.l0 k (a : Int) (b : Int) (r : Int)) ((r ^^^ gmF n a b : Nat) : Int) := by
  intro n
  induction n with
  | zero =>
    intro a b r _ hb _ _
    refine Ev.fin (fun k => ?_)
    rw [impl_GfMul.l0, if_neg (by omega)]
    show some (r : Int) = some ((r ^^^ 0 : Nat) : Int)
    rw [Nat.xor_zero]
  | succ n ih =>
    intro a b r ha hb hn hr
    by_cases h0 : b = 0
    · refine Ev.fin (fun k => ?_)
      rw [impl_GfMul.l0, if_neg (by omega), h0, gmF_zero, Nat.xor_zero]
    · have hp : 2 ^ (n + 1) = 2 * 2 ^ n := by rw [Nat.pow_succ]; omega
      refine Ev.cast (Ev.step (fun k => ?_) (ih (xt a) (b / 2) (r ^^^ (if b % 2 = 1 then a else 0)) (xt_lt ha) (by omega) (by omega) (xor_lt hr (by split <;> omega)))) ?_
      · have e2 : wrap64 ((a : Int) * 2) = ((2 * a : Nat) : Int) := by rw [wr (by omega) (by omega)]; omega
        have e3 : (b : Int) / 2 = ((b / 2 : Nat) : Int) := by omega
        rw [impl_GfMul.l0, if_pos (by omega), and64_1, e2, e3, x285 _ (by omega), xor64 r a (by omega) (by omega)]
        unfold xt
        by_cases ho : b % 2 = 1 <;> by_cases hx : 2 * a > 255
        · rw [if_pos (by omega), if_pos (by omega), if_pos hx, if_pos ho]
        · rw [if_pos (by omega), if_neg (by omega), if_neg hx, if_pos ho]
        · rw [if_neg (by omega), if_pos (by omega), if_pos hx, if_neg ho, Nat.xor_zero]
        · rw [if_neg (by omega), if_neg (by omega), if_neg hx, if_neg ho, Nat.xor_zero]
      · show (((r ^^^ (if b % 2 = 1 then a else 0)) ^^^ gmF n (xt a) (b / 2) : Nat) : Int) = ((r ^^^ ((if b % 2 = 1 then a else 0) ^^^ gmF n (xt a) (b / 2)) : Nat) : Int)
        rw [Nat.xor_assoc]
theorem iGfMul_ev (a b : Int) : Ev (fun k => impl_GfMul.f k a b) (gmI a b) := by
  unfold impl_GfMul.f gmI
  simp only [isByte_eq, Option.bind_some]
  by_cases ha : 0 ≤ a ∧ a ≤ 255
  · refine Ev.pos (by simp [ha]) ?_
    by_cases hb : 0 ≤ b ∧ b ≤ 255
    · rw [if_pos ⟨ha.1, ha.2, hb⟩, decide_eq_true hb]
      obtain ⟨a, rfl⟩ : ∃ n : Nat, a = n := ⟨a.toNat, by omega⟩
      obtain ⟨b, rfl⟩ : ∃ n : Nat, b = n := ⟨b.toNat, by omega⟩
      refine Ev.cast (Ev.step (fun k => ?_) (iGfMul_l0 8 a b 0 (by omega) (by omega) (by omega) (by omega))) ?_
      · rw [impl_GfMul.j0]; rfl
      · rw [Nat.zero_xor]; rfl
    · rw [if_neg (by omega), decide_eq_false hb]
      refine Ev.fin (fun k => ?_)
      rw [impl_GfMul.j0]; rfl
  · rw [if_neg (by omega)]
    refine Ev.neg (by simpa using ha) (Ev.fin (fun k => ?_))
    rw [impl_GfMul.j0]; rfl

theorem l1In_eq (a b c : Int) : spec_l1In.f a b c = some (decide (b ≤ a ∧ a ≤ c)) := by
  unfold spec_l1In.f
  by_cases h : b ≤ a
  · rw [if_pos h]; simp [h]
  · rw [if_neg h]; simp [h]

theorem l14Byte_eq (a : Int) : spec_l14Byte.f a = some (decide (0 ≤ a ∧ a ≤ 255)) := by
  unfold spec_l14Byte.f
  rw [l1In_eq, Option.bind_some]

theorem shr_nat (x y : Nat) (h : y ≤ 64) : shr .i64 (x : Int) (y : Int) = ((x / 2 ^ y : Nat) : Int) := by
  unfold shr
  rw [Int.toNat_natCast, show min y (IntKind.bits .i64) = y from Nat.min_eq_left h]
  exact (Int.natCast_ediv x (2 ^ y)).symm

theorem sGfMul_l0 (a b : Nat) (ha : a < 256) (hb : b < 256) : ∀ (n p : Nat), n ≤ 8 → p < 256 → Ev (fun k => spec_GfMul.l0 k (a : Int) (b : Int) (p : Int) ((n : Int) - 1)) ((xtN n p ^^^ gmF n a b : Nat) : Int) := by
  intro n
  induction n with
  | zero =>
    intro p _ _
    refine Ev.fin (fun k => ?_)
    rw [spec_GfMul.l0, if_neg (by omega)]
    show some (p : Int) = some ((p ^^^ 0 : Nat) : Int)
    rw [Nat.xor_zero]
  | succ n ih =>
    intro p hn hp
    have hx := xt_lt hp
    refine Ev.cast (Ev.step (fun k => ?_) (ih (xt p ^^^ (if b / 2 ^ n % 2 = 1 then a else 0)) (by omega) (xor_lt hx (by split <;> omega)))) ?_
    · have e2 : wrap64 (2 * (p : Int)) = ((2 * p : Nat) : Int) := by rw [wr (by omega) (by omega)]; omega
      have e1 : ((n + 1 : Nat) : Int) - 1 = (n : Int) := by omega
      have e3 : wrap64 ((n : Int) - 1) = (n : Int) - 1 := w64 (by omega) (by omega)
      have hq : b / 2 ^ n < 256 := Nat.lt_of_le_of_lt (Nat.div_le_self _ _) hb
      have e4 : Int.tmod ((b / 2 ^ n : Nat) : Int) 2 = ((b / 2 ^ n % 2 : Nat) : Int) := rfl
      have hxo : (2 * p) ^^^ 285 < 512 := Nat.xor_lt_two_pow (n := 9) (by omega) (by omega)
      rw [spec_GfMul.l0, e1, if_pos (by omega), e2, u64w (by omega) (by omega), shr_nat b n (by omega), e4, e3, x285 _ (by omega), xor64 (2 * p ^^^ 285) a (by omega) (by omega), xor64 (2 * p) a (by omega) (by omega)]
      unfold xt
      by_cases hc : 2 * p > 255 <;> by_cases ho : b / 2 ^ n % 2 = 1
      · rw [if_pos (by omega), if_pos (by omega), if_pos (by omega), if_pos hc, if_pos ho]
      · rw [if_pos (by omega), if_pos (by omega), if_neg (by omega), if_pos hc, if_neg ho, Nat.xor_zero]
      · rw [if_neg (by omega), if_pos (by omega), if_pos (by omega), if_neg hc, if_pos ho]
      · rw [if_neg (by omega), if_pos (by omega), if_neg (by omega), if_neg hc, if_neg ho, Nat.xor_zero]
    · rw [gmF_top, xtN_xor n hx (by split <;> omega)]
      show ((xtN n (xt p) ^^^ xtN n (if b / 2 ^ n % 2 = 1 then a else 0) ^^^ gmF n a b : Nat) : Int) = ((xtN n (xt p) ^^^ (gmF n a b ^^^ (if b / 2 ^ n % 2 = 1 then xtN n a else 0)) : Nat) : Int)
      rw [Nat.xor_assoc, Nat.xor_comm (gmF n a b)]
      congr 3
      split
      · rfl
      · exact xtN_zero n
theorem sGfMul_ev (a b : Int) : Ev (fun k => spec_GfMul.f k a b) (gmI a b) := by
  unfold spec_GfMul.f gmI
  simp only [l14Byte_eq, Option.bind_some]
  by_cases ha : 0 ≤ a ∧ a ≤ 255
  · refine Ev.pos (by simp [ha]) ?_
    by_cases hb : 0 ≤ b ∧ b ≤ 255
    · rw [if_pos ⟨ha.1, ha.2, hb⟩, decide_eq_true hb]
      obtain ⟨a, rfl⟩ : ∃ n : Nat, a = n := ⟨a.toNat, by omega⟩
      obtain ⟨b, rfl⟩ : ∃ n : Nat, b = n := ⟨b.toNat, by omega⟩
      refine Ev.cast (Ev.step (fun k => ?_) (sGfMul_l0 a b (by omega) (by omega) 8 0 (by omega) (by omega))) ?_
      · rw [spec_GfMul.j0]; rfl
      · rw [xtN_zero, Nat.zero_xor]; rfl
    · rw [if_neg (by omega), decide_eq_false hb]
      refine Ev.fin (fun k => ?_)
      rw [spec_GfMul.j0]; rfl
  · rw [if_neg (by omega)]
    refine Ev.neg (by simpa using ha) (Ev.fin (fun k => ?_))
    rw [spec_GfMul.j0]; rfl

theorem FnExactGfMul : laws_FnExactGfMul.Pure := by
  intro a b _ _
  refine Ev.rounds ?_
  unfold laws_FnExactGfMul.f
  exact Ev.bind (sGfMul_ev a b) (Ev.bind (iGfMul_ev a b) (Ev.pos rfl (Ev.now true)))

end Go.Proofs.Ytamgllkncpnmiaa.Pure
