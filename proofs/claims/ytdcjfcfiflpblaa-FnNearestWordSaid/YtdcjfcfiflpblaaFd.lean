/- The field of 256 elements as a type; finite sums, powers, values of polynomials; a polynomial of degree d has at most d roots; powers of different numbers are independent. No condition. -/
import Derived.Test.YtdcjfcfiflpblaaGf
namespace Go.Proofs.Ytdcjfcfiflpblaa.Fd
open Go.Proofs.Ytdcjfcfiflpblaa.Gf

structure F where
  v : Nat
  h : v < 256

namespace F
theorem ext {a b : F} (h : a.v = b.v) : a = b := by
  cases a; cases b; simp only at h; subst h; rfl
instance : Add F := ⟨fun a b => ⟨a.v ^^^ b.v, xor_lt a.h b.h⟩⟩
instance : Mul F := ⟨fun a b => ⟨gm a.v b.v, gm_lt _ a.h⟩⟩
instance : Zero F := ⟨⟨0, by omega⟩⟩
instance : One F := ⟨⟨1, by omega⟩⟩
instance : DecidableEq F := fun a b => if h : a.v = b.v then isTrue (ext h) else isFalse (fun e => h (by rw [e]))
theorem add_v (a b : F) : (a + b).v = a.v ^^^ b.v := rfl
theorem mul_v (a b : F) : (a * b).v = gm a.v b.v := rfl
theorem zero_v : (0 : F).v = 0 := rfl
theorem one_v : (1 : F).v = 1 := rfl
theorem add_comm (a b : F) : a + b = b + a := ext (Nat.xor_comm _ _)
theorem add_assoc (a b c : F) : a + b + c = a + (b + c) := ext (Nat.xor_assoc _ _ _)
theorem add_zero (a : F) : a + 0 = a := ext (Nat.xor_zero _)
theorem zero_add (a : F) : 0 + a = a := ext (Nat.zero_xor _)
theorem add_self (a : F) : a + a = 0 := ext (Nat.xor_self _)
theorem mul_comm (a b : F) : a * b = b * a := ext (gm_comm a.h b.h)
theorem mul_assoc (a b c : F) : a * b * c = a * (b * c) := ext (gm_assoc a.h b.h c.h)
theorem mul_zero (a : F) : a * 0 = 0 := ext (gm_zero _)
theorem zero_mul (a : F) : 0 * a = 0 := ext (zero_gm _)
theorem mul_one (a : F) : a * 1 = a := ext (gm_one a.h)
theorem one_mul (a : F) : 1 * a = a := ext (one_gm a.h)
theorem mul_add (a b c : F) : a * (b + c) = a * b + a * c := ext (gm_add_right _ _ _)
theorem add_mul (a b c : F) : (a + b) * c = a * c + b * c := ext (gm_add_left _ a.h b.h)
theorem add_left_comm (a b c : F) : a + (b + c) = b + (a + c) := by rw [← add_assoc, add_comm a b, add_assoc]
theorem mul_left_comm (a b c : F) : a * (b * c) = b * (a * c) := by rw [← mul_assoc, mul_comm a b, mul_assoc]
theorem add_cancel (a b : F) : a + (a + b) = b := by rw [← add_assoc, add_self, zero_add]
theorem eq_of_add {a b : F} (h : a + b = 0) : a = b := by
  have : a + b + b = 0 + b := by rw [h]
  rwa [add_assoc, add_self, add_zero, zero_add] at this
theorem add_eq_zero {a b : F} : a + b = 0 ↔ a = b := ⟨eq_of_add, fun h => by rw [h, add_self]⟩
theorem one_ne : (1 : F) ≠ 0 := fun h => by have := congrArg F.v h; simp only [one_v, zero_v] at this; omega
/-- The inverse (of 0, some number). -/
def inv (a : F) : F := ⟨gp a.v 254, gp_lt _⟩
theorem mul_inv {a : F} (h : a ≠ 0) : a * inv a = 1 := ext (gm_inv (fun e => h (ext e)) a.h)
theorem mul_eq_zero {a b : F} (h : a * b = 0) : a = 0 ∨ b = 0 := by
  by_cases ha : a = 0
  · exact .inl ha
  · right
    have : inv a * (a * b) = inv a * 0 := by rw [h]
    rwa [← mul_assoc, mul_comm (inv a), mul_inv ha, one_mul, mul_zero] at this
theorem mul_left_cancel {a b c : F} (ha : a ≠ 0) (h : a * b = a * c) : b = c := by
  have h2 : a * (b + c) = 0 := by rw [mul_add, h, add_self]
  rcases mul_eq_zero h2 with e | e
  · exact absurd e ha
  · exact eq_of_add e
theorem inv_ne {a : F} (h : a ≠ 0) : inv a ≠ 0 := fun e => by
  have := mul_inv h
  rw [e, mul_zero] at this
  exact one_ne this.symm
end F
open F

/-! ### Sums -/
def sm : Nat → (Nat → F) → F
  | 0, _ => 0
  | n + 1, f => sm n f + f n
theorem sm_congr {f g : Nat → F} : ∀ n, (∀ i, i < n → f i = g i) → sm n f = sm n g
  | 0, _ => rfl
  | n + 1, h => by
    show sm n f + f n = sm n g + g n
    rw [sm_congr n (fun i hi => h i (by omega)), h n (by omega)]
theorem sm_zero : ∀ n, sm n (fun _ => 0) = 0
  | 0 => rfl
  | n + 1 => by show sm n (fun _ => 0) + 0 = 0; rw [add_zero, sm_zero n]
theorem sm_zero' {f : Nat → F} (n : Nat) (h : ∀ i, i < n → f i = 0) : sm n f = 0 := by rw [sm_congr n h, sm_zero]
theorem sm_add (f g : Nat → F) : ∀ n, sm n (fun i => f i + g i) = sm n f + sm n g
  | 0 => (add_zero 0).symm
  | n + 1 => by
    show sm n (fun i => f i + g i) + (f n + g n) = (sm n f + f n) + (sm n g + g n)
    rw [sm_add f g n]
    simp only [add_assoc, add_left_comm]
theorem sm_mul (c : F) (f : Nat → F) : ∀ n, sm n (fun i => c * f i) = c * sm n f
  | 0 => (mul_zero c).symm
  | n + 1 => by
    show sm n (fun i => c * f i) + c * f n = c * (sm n f + f n)
    rw [sm_mul c f n, mul_add]
theorem sm_mul_right (c : F) (f : Nat → F) (n : Nat) : sm n (fun i => f i * c) = sm n f * c := by
  rw [mul_comm, ← sm_mul]
  exact sm_congr n (fun i _ => mul_comm _ _)
theorem sm_swap (g : Nat → Nat → F) (b : Nat) : ∀ a, sm a (fun i => sm b (fun j => g i j)) = sm b (fun j => sm a (fun i => g i j))
  | 0 => (sm_zero b).symm
  | a + 1 => by
    show sm a (fun i => sm b (fun j => g i j)) + sm b (fun j => g a j) = sm b (fun j => sm a (fun i => g i j) + g a j)
    rw [sm_swap g b a, sm_add]
theorem sm_front (f : Nat → F) : ∀ n, sm (n + 1) f = f 0 + sm n (fun i => f (i + 1))
  | 0 => by show (0 : F) + f 0 = f 0 + 0; rw [zero_add, add_zero]
  | n + 1 => by
    show sm (n + 1) f + f (n + 1) = f 0 + (sm n (fun i => f (i + 1)) + f (n + 1))
    rw [sm_front f n, add_assoc]
theorem sm_split (f : Nat → F) (m : Nat) : ∀ n, sm (m + n) f = sm m f + sm n (fun i => f (m + i))
  | 0 => (add_zero _).symm
  | n + 1 => by
    show sm (m + n) f + f (m + n) = sm m f + (sm n (fun i => f (m + i)) + f (m + n))
    rw [sm_split f m n, add_assoc]
/-- Only one of the numbers is not 0. -/
theorem sm_one {f : Nat → F} {n k : Nat} (hk : k < n) (h : ∀ i, i < n → i ≠ k → f i = 0) : sm n f = f k := by
  induction n with
  | zero => omega
  | succ n ih =>
    show sm n f + f n = f k
    by_cases e : k = n
    · subst e
      rw [sm_zero' k (fun i hi => h i (by omega) (by omega)), zero_add]
    · rw [ih (by omega) (fun i hi hne => h i (by omega) hne), h n (by omega) (fun e2 => e e2.symm), add_zero]

/-! ### Powers; values of polynomials -/
def pw (a : F) : Nat → F
  | 0 => 1
  | n + 1 => a * pw a n
theorem pw_add (a : F) (m : Nat) : ∀ n, pw a (m + n) = pw a m * pw a n
  | 0 => (mul_one _).symm
  | n + 1 => by
    show a * pw a (m + n) = pw a m * (a * pw a n)
    rw [pw_add a m n, mul_left_comm]
theorem pw_mul (a : F) (m : Nat) : ∀ n, pw (pw a m) n = pw a (m * n)
  | 0 => rfl
  | n + 1 => by
    show pw a m * pw (pw a m) n = pw a (m * n + m)
    rw [pw_mul a m n, pw_add, mul_comm]
theorem pw_ne {a : F} (h : a ≠ 0) : ∀ n, pw a n ≠ 0
  | 0 => one_ne
  | n + 1 => fun e => (mul_eq_zero e).elim h (pw_ne h n)
theorem pw_one (n : Nat) : pw 1 n = 1 := by
  induction n with
  | zero => rfl
  | succ n ih => show 1 * pw 1 n = 1; rw [ih, one_mul]
theorem mul_pw (a b : F) : ∀ n, pw (a * b) n = pw a n * pw b n
  | 0 => (mul_one 1).symm
  | n + 1 => by
    show a * b * pw (a * b) n = a * pw a n * (b * pw b n)
    rw [mul_pw a b n]
    simp only [mul_assoc, mul_left_comm]
/-- The polynomial of degree d with the numbers c, the lowest first, at x. -/
def ev : Nat → (Nat → F) → F → F
  | 0, c, _ => c 0
  | d + 1, c, x => c 0 + x * ev d (fun i => c (i + 1)) x
theorem ev_sm (x : F) : ∀ (d : Nat) (c : Nat → F), ev d c x = sm (d + 1) (fun i => c i * pw x i)
  | 0, c => by show c 0 = 0 + c 0 * 1; rw [mul_one, zero_add]
  | d + 1, c => by
    rw [sm_front]
    show c 0 + x * ev d (fun i => c (i + 1)) x = c 0 * 1 + sm (d + 1) (fun i => c (i + 1) * (x * pw x i))
    rw [mul_one, ev_sm x d, ← sm_mul]
    congr 1
    exact sm_congr _ (fun i _ => mul_left_comm _ _ _)
theorem ev_add (x : F) : ∀ (d : Nat) (b c : Nat → F), ev d (fun i => b i + c i) x = ev d b x + ev d c x
  | 0, _, _ => rfl
  | d + 1, b, c => by
    show (b 0 + c 0) + x * ev d (fun i => b (i + 1) + c (i + 1)) x = (b 0 + x * ev d (fun i => b (i + 1)) x) + (c 0 + x * ev d (fun i => c (i + 1)) x)
    rw [ev_add x d, mul_add]
    simp only [add_assoc, add_left_comm]
theorem ev_mul (x a : F) : ∀ (d : Nat) (c : Nat → F), ev d (fun i => a * c i) x = a * ev d c x
  | 0, _ => rfl
  | d + 1, c => by
    show a * c 0 + x * ev d (fun i => a * c (i + 1)) x = a * (c 0 + x * ev d (fun i => c (i + 1)) x)
    rw [ev_mul x a d, mul_add, mul_left_comm]
theorem ev_congr (x : F) : ∀ (d : Nat) {b c : Nat → F}, (∀ i, i ≤ d → b i = c i) → ev d b x = ev d c x
  | 0, _, _, h => h 0 (Nat.le_refl _)
  | d + 1, b, c, h => by
    show b 0 + x * ev d (fun i => b (i + 1)) x = c 0 + x * ev d (fun i => c (i + 1)) x
    rw [h 0 (by omega), ev_congr x d (fun i hi => h (i + 1) (by omega))]
/-- A highest number that is 0 does nothing. -/
theorem ev_pad (x : F) : ∀ (d : Nat) (c : Nat → F), c (d + 1) = 0 → ev (d + 1) c x = ev d c x
  | 0, c, h => by show c 0 + x * c 1 = c 0; rw [h, mul_zero, add_zero]
  | d + 1, c, h => by
    show c 0 + x * ev (d + 1) (fun i => c (i + 1)) x = c 0 + x * ev d (fun i => c (i + 1)) x
    rw [ev_pad x d (fun i => c (i + 1)) h]
/-- What is left when the root a is taken out. -/
def qt (a : F) : Nat → (Nat → F) → Nat → F
  | 0, c => fun i => if i = 0 then c 1 else 0
  | d + 1, c => fun i => if i ≤ d + 1 then c (i + 1) + a * qt a d (fun i => c (i + 1)) i else 0
theorem qt_high (a : F) : ∀ (d : Nat) (c : Nat → F) (i : Nat), d < i → qt a d c i = 0
  | 0, _, i, h => if_neg (by omega)
  | d + 1, _, i, h => if_neg (by omega)
theorem qt_ev (a x : F) : ∀ (d : Nat) (c : Nat → F), ev (d + 1) c x + ev (d + 1) c a = (x + a) * ev d (qt a d c) x
  | 0, c => by
    show (c 0 + x * c 1) + (c 0 + a * c 1) = (x + a) * c 1
    rw [add_mul, add_assoc, add_left_comm (x * c 1), ← add_assoc, add_self, zero_add]
  | d + 1, c => by
    have ih := qt_ev a x d (fun i => c (i + 1))
    have e : ev (d + 1) (qt a (d + 1) c) x = ev (d + 1) (fun i => c (i + 1)) x + a * ev d (qt a d (fun i => c (i + 1))) x := by
      rw [← ev_pad x d (qt a d (fun i => c (i + 1))) (qt_high a d _ _ (by omega)), ← ev_mul, ← ev_add]
      exact ev_congr x _ (fun i hi => if_pos hi)
    rw [e]
    show (c 0 + x * ev (d + 1) (fun i => c (i + 1)) x) + (c 0 + a * ev (d + 1) (fun i => c (i + 1)) a) = _
    generalize hr : ev (d + 1) (fun i => c (i + 1)) x = r at *
    generalize hs : ev (d + 1) (fun i => c (i + 1)) a = s at *
    generalize ev d (qt a d (fun i => c (i + 1))) x = q at *
    have h1 : (x + a) * (r + a * q) = (x + a) * r + a * (r + s) := by rw [mul_add, mul_left_comm, ih]
    rw [h1, add_mul, mul_add, add_assoc (c 0), add_left_comm (x * r), ← add_assoc (c 0) (c 0), add_self, zero_add, add_assoc (x * r), add_cancel]
theorem qt_rel (a : F) : ∀ (d : Nat) (c : Nat → F) (i : Nat), i ≤ d → c (i + 1) = qt a d c i + a * qt a d c (i + 1)
  | 0, c, i, h => by
    obtain rfl : i = 0 := by omega
    show c 1 = c 1 + a * 0
    rw [mul_zero, add_zero]
  | d + 1, c, i, h => by
    have e : qt a d (fun i => c (i + 1)) i = qt a (d + 1) c (i + 1) := by
      rcases Nat.lt_or_ge d i with h1 | h1
      · rw [qt_high a d _ _ h1, qt_high a (d + 1) _ _ (by omega)]
      · have ih := qt_rel a d (fun i => c (i + 1)) i h1
        have e2 : qt a (d + 1) c (i + 1) = c (i + 1 + 1) + a * qt a d (fun i => c (i + 1)) (i + 1) := if_pos (by omega)
        have ih2 : c (i + 1 + 1) = qt a d (fun i => c (i + 1)) i + a * qt a d (fun i => c (i + 1)) (i + 1) := ih
        rw [e2, ih2, add_assoc, add_self, add_zero]
    have e1 : qt a (d + 1) c i = c (i + 1) + a * qt a d (fun i => c (i + 1)) i := if_pos h
    rw [e1, e, add_assoc, add_self, add_zero]
/-- A polynomial of degree d with d + 1 different roots is 0. -/
theorem roots : ∀ (d : Nat) (c X : Nat → F), (∀ i j, i < j → j ≤ d → X i ≠ X j) → (∀ l, l ≤ d → ev d c (X l) = 0) → ∀ i, i ≤ d → c i = 0
  | 0, c, X, _, h0, i, hi => by
    obtain rfl : i = 0 := by omega
    exact h0 0 (Nat.le_refl _)
  | d + 1, c, X, hX, h0, i, hi => by
    have hq : ∀ l, l ≤ d → ev d (qt (X (d + 1)) d c) (X l) = 0 := by
      intro l hl
      have h1 := qt_ev (X (d + 1)) (X l) d c
      rw [h0 l (by omega), h0 (d + 1) (Nat.le_refl _), add_zero] at h1
      rcases mul_eq_zero h1.symm with e | e
      · exact absurd (eq_of_add e) (hX l (d + 1) (by omega) (Nat.le_refl _))
      · exact e
    have hz := roots d (qt (X (d + 1)) d c) X (fun i j h1 h2 => hX i j h1 (by omega)) hq
    have hc1 : ∀ i, i ≤ d → c (i + 1) = 0 := by
      intro i hi
      rw [qt_rel (X (d + 1)) d c i hi, hz i hi, zero_add]
      rcases Nat.lt_or_ge i d with e | e
      · rw [hz (i + 1) (by omega), mul_zero]
      · rw [qt_high _ _ _ _ (by omega), mul_zero]
    rcases Nat.eq_zero_or_pos i with e | e
    · subst e
      have h1 := h0 0 (by omega)
      have : ev (d + 1) c (X 0) = c 0 := by
        show c 0 + X 0 * ev d (fun i => c (i + 1)) (X 0) = c 0
        rw [ev_congr (X 0) d (c := fun _ => 0) hc1, ev_sm, sm_zero' _ (fun i _ => zero_mul _), mul_zero, add_zero]
      rwa [this] at h1
    · have := hc1 (i - 1) (by omega)
      rwa [show i - 1 + 1 = i by omega] at this
/-- Sums of powers of different numbers: where as many of them are 0 as there are numbers, all factors are 0. -/
theorem vdm : ∀ (n : Nat) (X Y : Nat → F), (∀ i j, i < j → j < n → X i ≠ X j) → (∀ m, m < n → sm n (fun l => Y l * pw (X l) m) = 0) → ∀ l, l < n → Y l = 0
  | 0, _, _, _, _, l, hl => by omega
  | n + 1, X, Y, hX, h0, l, hl => by
    have step : ∀ m, m < n → sm n (fun l => (Y l * (X l + X n)) * pw (X l) m) = 0 := by
      intro m hm
      have h1 := h0 m (by omega)
      have h2 := h0 (m + 1) (by omega)
      have e : sm (n + 1) (fun l => (Y l * (X l + X n)) * pw (X l) m) = 0 := by
        have : sm (n + 1) (fun l => (Y l * (X l + X n)) * pw (X l) m) = sm (n + 1) (fun l => Y l * pw (X l) (m + 1) + X n * (Y l * pw (X l) m)) := by
          refine sm_congr _ (fun i _ => ?_)
          show Y i * (X i + X n) * pw (X i) m = Y i * (X i * pw (X i) m) + X n * (Y i * pw (X i) m)
          rw [mul_add, add_mul, mul_assoc, mul_assoc, mul_left_comm (X n)]
        rw [this, sm_add, h2, sm_mul, h1, mul_zero, add_zero]
      have last : (Y n * (X n + X n)) * pw (X n) m = 0 := by rw [add_self, mul_zero, zero_mul]
      have e2 : sm n (fun l => (Y l * (X l + X n)) * pw (X l) m) + (Y n * (X n + X n)) * pw (X n) m = 0 := e
      rwa [last, add_zero] at e2
    have hz := vdm n X (fun l => Y l * (X l + X n)) (fun i j h1 h2 => hX i j h1 (by omega)) step
    have hY : ∀ l, l < n → Y l = 0 := by
      intro l hl
      rcases mul_eq_zero (hz l hl) with e | e
      · exact e
      · exact absurd (eq_of_add e) (hX l n hl (by omega))
    rcases Nat.lt_or_ge l n with h | h
    · exact hY l h
    · obtain rfl : l = n := by omega
      have h1 := h0 0 (by omega)
      have e : sm l (fun i => Y i * pw (X i) 0) = 0 := sm_zero' l (fun i hi => by rw [hY i hi, zero_mul])
      have e2 : sm l (fun i => Y i * pw (X i) 0) + Y l * 1 = 0 := h1
      rwa [e, zero_add, mul_one] at e2

end Go.Proofs.Ytdcjfcfiflpblaa.Fd
