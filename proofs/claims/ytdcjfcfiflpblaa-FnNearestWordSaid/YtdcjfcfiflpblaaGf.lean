/- The field of 256 numbers: products bit by bit, their laws, inverses; no condition but that numbers are below 256 where a lemma says so. -/
import Derived.Test.YtdcjfcfiflpblaaCom
namespace Go.Proofs.Ytdcjfcfiflpblaa.Gf

/-- Twice a number in the field. -/
def xt (a : Nat) : Nat := if 2 * a > 255 then (2 * a) ^^^ 285 else 2 * a
def xtN : Nat → Nat → Nat
  | 0, a => a
  | n + 1, a => xtN n (xt a)
/-- The product with the lowest n bits of b. -/
def gmF : Nat → Nat → Nat → Nat
  | 0, _, _ => 0
  | n + 1, a, b => (if b % 2 = 1 then a else 0) ^^^ gmF n (xt a) (b / 2)
def gm (a b : Nat) : Nat := gmF 8 a b

theorem xor_lt {a b : Nat} (ha : a < 256) (hb : b < 256) : a ^^^ b < 256 := Nat.xor_lt_two_pow (n := 8) ha hb

theorem xt_lt {a : Nat} (ha : a < 256) : xt a < 256 := by
  have h : (List.range 256).all (fun a => decide (xt a < 256)) = true := by decide +kernel
  have := List.all_eq_true.mp h a (List.mem_range.mpr ha)
  simpa using this

theorem xt_xor {a b : Nat} (ha : a < 256) (hb : b < 256) : xt (a ^^^ b) = xt a ^^^ xt b := by
  have h : (List.range 256).all (fun a => (List.range 256).all fun b => xt (a ^^^ b) == (xt a ^^^ xt b)) = true := by decide +kernel
  have h1 := List.all_eq_true.mp h a (List.mem_range.mpr ha)
  have h2 := List.all_eq_true.mp h1 b (List.mem_range.mpr hb)
  simpa using h2

theorem xtN_lt : ∀ (n : Nat) {a : Nat}, a < 256 → xtN n a < 256
  | 0, _, h => h
  | n + 1, _, h => xtN_lt n (xt_lt h)

theorem xtN_xor : ∀ (n : Nat) {a b : Nat}, a < 256 → b < 256 → xtN n (a ^^^ b) = xtN n a ^^^ xtN n b
  | 0, _, _, _, _ => rfl
  | n + 1, a, b, ha, hb => by
    show xtN n (xt (a ^^^ b)) = xtN n (xt a) ^^^ xtN n (xt b)
    rw [xt_xor ha hb, xtN_xor n (xt_lt ha) (xt_lt hb)]

theorem xt_zero : xt 0 = 0 := rfl
theorem xtN_zero : ∀ n, xtN n 0 = 0
  | 0 => rfl
  | n + 1 => by show xtN n (xt 0) = 0; rw [xt_zero, xtN_zero n]
theorem xtN_succ : ∀ (n a : Nat), xtN (n + 1) a = xt (xtN n a)
  | 0, _ => rfl
  | n + 1, a => by
    show xtN (n + 1) (xt a) = xt (xtN n (xt a))
    rw [xtN_succ n (xt a)]

theorem gmF_lt : ∀ (n : Nat) {a : Nat} (b : Nat), a < 256 → gmF n a b < 256
  | 0, _, _, _ => by show (0 : Nat) < 256; omega
  | n + 1, a, b, h => by
    unfold gmF
    exact xor_lt (by split <;> omega) (gmF_lt n _ (xt_lt h))

theorem gm_lt {a : Nat} (b : Nat) (ha : a < 256) : gm a b < 256 := gmF_lt 8 b ha

/-- The highest bit apart. -/
theorem gmF_top : ∀ (n a b : Nat), gmF (n + 1) a b = gmF n a b ^^^ (if b / 2 ^ n % 2 = 1 then xtN n a else 0)
  | 0, a, b => by
    show (if b % 2 = 1 then a else 0) ^^^ 0 = 0 ^^^ (if b / 2 ^ 0 % 2 = 1 then a else 0)
    rw [Nat.xor_zero, Nat.zero_xor, Nat.pow_zero, Nat.div_one]
  | n + 1, a, b => by
    have ih := gmF_top n (xt a) (b / 2)
    have e : b / 2 / 2 ^ n = b / 2 ^ (n + 1) := by rw [Nat.div_div_eq_div_mul, Nat.pow_succ, Nat.mul_comm]
    rw [e] at ih
    show (if b % 2 = 1 then a else 0) ^^^ gmF (n + 1) (xt a) (b / 2) = ((if b % 2 = 1 then a else 0) ^^^ gmF n (xt a) (b / 2)) ^^^ (if b / 2 ^ (n + 1) % 2 = 1 then xtN n (xt a) else 0)
    rw [ih, Nat.xor_assoc]

theorem gmF_add_left : ∀ (n : Nat) {a c : Nat} (b : Nat), a < 256 → c < 256 → gmF n (a ^^^ c) b = gmF n a b ^^^ gmF n c b
  | 0, _, _, _, _, _ => (Nat.xor_self 0).symm
  | n + 1, a, c, b, ha, hc => by
    unfold gmF
    rw [xt_xor ha hc, gmF_add_left n (b / 2) (xt_lt ha) (xt_lt hc)]
    split
    · simp only [Nat.xor_assoc, Com.xor_left_comm]
    · simp only [Nat.zero_xor]

theorem xor_mod2 (a b : Nat) : (a ^^^ b) % 2 = (a % 2 + b % 2) % 2 := by
  have h : (a ^^^ b) % 2 = a % 2 ^^^ b % 2 := Nat.xor_mod_two_pow (n := 1)
  rw [h]
  have ha : a % 2 = 0 ∨ a % 2 = 1 := by omega
  have hb : b % 2 = 0 ∨ b % 2 = 1 := by omega
  rcases ha with ha | ha <;> rcases hb with hb | hb <;> rw [ha, hb] <;> rfl

theorem gmF_add_right : ∀ (n a b c : Nat), gmF n a (b ^^^ c) = gmF n a b ^^^ gmF n a c
  | 0, _, _, _ => (Nat.xor_self 0).symm
  | n + 1, a, b, c => by
    unfold gmF
    rw [Nat.xor_div_two, gmF_add_right n (xt a) (b / 2) (c / 2), xor_mod2]
    have hb : b % 2 = 0 ∨ b % 2 = 1 := by omega
    have hc : c % 2 = 0 ∨ c % 2 = 1 := by omega
    rcases hb with hb | hb <;> rcases hc with hc | hc <;> simp [hb, hc, Nat.xor_assoc, Com.xor_left_comm]
    rw [← Nat.xor_assoc, Nat.xor_self, Nat.zero_xor]

theorem gm_add_left {a c : Nat} (b : Nat) (ha : a < 256) (hc : c < 256) : gm (a ^^^ c) b = gm a b ^^^ gm c b := gmF_add_left 8 b ha hc
theorem gm_add_right (a b c : Nat) : gm a (b ^^^ c) = gm a b ^^^ gm a c := gmF_add_right 8 a b c

theorem bit_add : ∀ n < 8, ∀ y < 2 ^ n, 2 ^ n ^^^ y = 2 ^ n + y := by decide +kernel

/-- Two additive functions that agree at the powers of two agree. -/
theorem lin_ext {f g : Nat → Nat} (hf : ∀ x y, x < 256 → y < 256 → f (x ^^^ y) = f x ^^^ f y) (hg : ∀ x y, x < 256 → y < 256 → g (x ^^^ y) = g x ^^^ g y)
    (h : ∀ i < 8, f (2 ^ i) = g (2 ^ i)) : ∀ x < 256, f x = g x := by
  have f0 : f 0 = 0 := by have := hf 0 0 (by omega) (by omega); rw [Nat.xor_self, Nat.xor_self] at this; exact this
  have g0 : g 0 = 0 := by have := hg 0 0 (by omega) (by omega); rw [Nat.xor_self, Nat.xor_self] at this; exact this
  have key : ∀ n ≤ 8, ∀ x < 2 ^ n, f x = g x := by
    intro n
    induction n with
    | zero => intro _ x hx; obtain rfl : x = 0 := by omega
              rw [f0, g0]
    | succ n ih =>
      intro hn x hx
      by_cases hlt : x < 2 ^ n
      · exact ih (by omega) x hlt
      · have hp : 2 ^ (n + 1) = 2 ^ n + 2 ^ n := by rw [Nat.pow_succ]; omega
        have hle : 2 ^ (n + 1) ≤ 2 ^ 8 := Nat.pow_le_pow_right (by omega) hn
        have e : x = 2 ^ n ^^^ (x - 2 ^ n) := by rw [bit_add n (by omega) (x - 2 ^ n) (by omega)]; omega
        rw [e, hf _ _ (by omega) (by omega), hg _ _ (by omega) (by omega), h n (by omega), ih (by omega) (x - 2 ^ n) (by omega)]
  exact fun x hx => key 8 (Nat.le_refl _) x hx

theorem gm_comm_bits : ∀ i < 8, ∀ j < 8, gm (2 ^ i) (2 ^ j) = gm (2 ^ j) (2 ^ i) := by decide +kernel

theorem pow_lt {i : Nat} (h : i < 8) : 2 ^ i < 256 := Nat.pow_lt_pow_right (by omega) h

theorem gm_comm {a b : Nat} (ha : a < 256) (hb : b < 256) : gm a b = gm b a := by
  refine lin_ext (f := fun a => gm a b) (g := fun a => gm b a) (fun x y hx hy => gm_add_left b hx hy) (fun x y _ _ => gm_add_right b x y) (fun i hi => ?_) a ha
  exact lin_ext (f := fun b => gm (2 ^ i) b) (g := fun b => gm b (2 ^ i)) (fun x y _ _ => gm_add_right _ x y) (fun x y hx hy => gm_add_left _ hx hy) (fun j hj => gm_comm_bits i hi j hj) b hb

theorem gm_assoc_bits : ∀ i < 8, ∀ j < 8, ∀ l < 8, gm (gm (2 ^ i) (2 ^ j)) (2 ^ l) = gm (2 ^ i) (gm (2 ^ j) (2 ^ l)) := by decide +kernel

theorem gm_assoc {a b c : Nat} (ha : a < 256) (hb : b < 256) (hc : c < 256) : gm (gm a b) c = gm a (gm b c) := by
  refine lin_ext (f := fun a => gm (gm a b) c) (g := fun a => gm a (gm b c)) (fun x y hx hy => ?_) (fun x y hx hy => gm_add_left _ hx hy) (fun i hi => ?_) a ha
  · show gm (gm (x ^^^ y) b) c = _; rw [gm_add_left b hx hy, gm_add_left c (gm_lt b hx) (gm_lt b hy)]
  refine lin_ext (f := fun b => gm (gm (2 ^ i) b) c) (g := fun b => gm (2 ^ i) (gm b c)) (fun x y hx hy => ?_) (fun x y hx hy => ?_) (fun j hj => ?_) b hb
  · show gm (gm (2 ^ i) (x ^^^ y)) c = _; rw [gm_add_right, gm_add_left c (gm_lt x (pow_lt hi)) (gm_lt y (pow_lt hi))]
  · show gm (2 ^ i) (gm (x ^^^ y) c) = _; rw [gm_add_left c hx hy, gm_add_right]
  refine lin_ext (f := fun c => gm (gm (2 ^ i) (2 ^ j)) c) (g := fun c => gm (2 ^ i) (gm (2 ^ j) c)) (fun x y hx hy => gm_add_right _ x y) (fun x y hx hy => ?_) (fun l hl => gm_assoc_bits i hi j hj l hl) c hc
  show gm (2 ^ i) (gm (2 ^ j) (x ^^^ y)) = _; rw [gm_add_right, gm_add_right]

theorem gm_zero (a : Nat) : gm a 0 = 0 := by
  have := gm_add_right a 0 0; rw [Nat.xor_self, Nat.xor_self] at this; exact this
theorem zero_gm (b : Nat) : gm 0 b = 0 := by
  have := gm_add_left (a := 0) (c := 0) b (by omega) (by omega); rw [Nat.xor_self, Nat.xor_self] at this; exact this
theorem gm_one {a : Nat} (ha : a < 256) : gm a 1 = a := by
  have h : (List.range 256).all (fun a => gm a 1 == a) = true := by decide +kernel
  have := List.all_eq_true.mp h a (List.mem_range.mpr ha)
  simpa using this
theorem one_gm {a : Nat} (ha : a < 256) : gm 1 a = a := by rw [gm_comm (by omega) ha, gm_one ha]

/-! ### Powers of 2; inverses -/
def tab : Nat → Nat → List Nat
  | 0, _ => []
  | n + 1, a => a :: tab n (xt a)
theorem tab_mem : ∀ (n a x : Nat), x ∈ tab n a → ∃ k < n, x = xtN k a
  | 0, _, _, h => by cases h
  | n + 1, a, x, h => by
    rcases List.mem_cons.mp h with rfl | h
    · exact ⟨0, by omega, rfl⟩
    · obtain ⟨k, hk, e⟩ := tab_mem n (xt a) x h
      exact ⟨k + 1, by omega, e⟩
theorem all_powers {a : Nat} (h0 : a ≠ 0) (ha : a < 256) : ∃ k < 255, a = xtN k 1 := by
  have h : (List.range 255).all (fun a => (tab 255 1).contains (a + 1)) = true := by decide +kernel
  have h1 := List.all_eq_true.mp h (a - 1) (List.mem_range.mpr (by omega))
  have e : a - 1 + 1 = a := by omega
  rw [e] at h1
  exact tab_mem 255 1 a (by simpa using h1)
theorem xt_is {a : Nat} (ha : a < 256) : gm 2 a = xt a := by
  have h : (List.range 256).all (fun a => gm 2 a == xt a) = true := by decide +kernel
  have := List.all_eq_true.mp h a (List.mem_range.mpr ha)
  simpa using this
theorem xt_gm {a b : Nat} (ha : a < 256) (hb : b < 256) : xt (gm a b) = gm (xt a) b := by
  rw [← xt_is (gm_lt b ha), ← xt_is ha, gm_assoc (by omega) ha hb]
theorem xtN_gm : ∀ (n : Nat) {a b : Nat}, a < 256 → b < 256 → xtN n (gm a b) = gm (xtN n a) b
  | 0, _, _, _, _ => rfl
  | n + 1, a, b, ha, hb => by
    show xtN n (xt (gm a b)) = gm (xtN n (xt a)) b
    rw [xt_gm ha hb, xtN_gm n (xt_lt ha) hb]
theorem xtN_add (m n a : Nat) : xtN (m + n) a = xtN m (xtN n a) := by
  induction n generalizing a with
  | zero => rfl
  | succ n ih => show xtN (m + n) (xt a) = xtN m (xtN n (xt a)); exact ih (xt a)
theorem xtN_255 : xtN 255 1 = 1 := by decide +kernel
theorem xtN_mul255 : ∀ k, xtN (255 * k) 1 = 1
  | 0 => rfl
  | k + 1 => by rw [Nat.mul_succ, xtN_add, xtN_255]; exact xtN_mul255 k
theorem xtN_prod (m n : Nat) : gm (xtN m 1) (xtN n 1) = xtN (m + n) 1 := by
  rw [← xtN_gm m (by omega) (xtN_lt n (by omega)), one_gm (xtN_lt n (by omega)), xtN_add]
/-- a to the power n. -/
def gp (a : Nat) : Nat → Nat
  | 0 => 1
  | n + 1 => gm (gp a n) a
theorem gp_lt {a : Nat} : ∀ n, gp a n < 256
  | 0 => by show (1 : Nat) < 256; omega
  | n + 1 => gm_lt _ (gp_lt n)
theorem gp_xtN (k : Nat) : ∀ n, gp (xtN k 1) n = xtN (k * n) 1
  | 0 => rfl
  | n + 1 => by show gm (gp (xtN k 1) n) (xtN k 1) = _; rw [gp_xtN k n, xtN_prod, Nat.mul_succ]
theorem gm_inv {a : Nat} (h0 : a ≠ 0) (ha : a < 256) : gm a (gp a 254) = 1 := by
  obtain ⟨k, _, rfl⟩ := all_powers h0 ha
  rw [gp_xtN, xtN_prod, show k + k * 254 = 255 * k by omega, xtN_mul255]
theorem gm_cancel {a x y : Nat} (h0 : a ≠ 0) (ha : a < 256) (hx : x < 256) (hy : y < 256) (h : gm a x = gm a y) : x = y := by
  have h1 := gm_inv h0 ha
  have h2 : gm (gp a 254) a = 1 := by rw [gm_comm (gp_lt _) ha, h1]
  rw [← one_gm hx, ← one_gm hy, ← h2, gm_assoc (gp_lt _) ha hx, gm_assoc (gp_lt _) ha hy, h]

/-- The product of whole numbers; 0 where one is no byte. -/
def gmI (a b : Int) : Int := if 0 ≤ a ∧ a ≤ 255 ∧ 0 ≤ b ∧ b ≤ 255 then ((gm a.toNat b.toNat : Nat) : Int) else 0
theorem gmI_nat {a b : Nat} (ha : a < 256) (hb : b < 256) : gmI (a : Int) (b : Int) = ((gm a b : Nat) : Int) := by
  unfold gmI; rw [if_pos (by omega), Int.toNat_natCast, Int.toNat_natCast]
theorem gmF_zero : ∀ n a, gmF n a 0 = 0
  | 0, _ => rfl
  | n + 1, a => by
    show (if 0 % 2 = 1 then a else 0) ^^^ gmF n (xt a) (0 / 2) = 0
    rw [show 0 / 2 = 0 from rfl, gmF_zero n, if_neg (by omega), Nat.xor_zero]
theorem x285 (x : Nat) (h : x < 9223372036854775808) : Go.bits .xor .i64 (x : Int) 285 = ((x ^^^ 285 : Nat) : Int) := Com.xor64 x 285 h (by decide)
theorem gp_ne {a : Nat} (h0 : a ≠ 0) (ha : a < 256) : gp a 254 ≠ 0 := by
  intro h
  have := gm_inv h0 ha
  rw [h, gm_zero] at this
  omega

end Go.Proofs.Ytdcjfcfiflpblaa.Gf
