/- The check of 16 bits in plain numbers: one step, its inverse, what differs stays different; no condition but bounds. -/
import Derived.Test.YtnpoimjdkjhcpaaCom
namespace Go.Proofs.Ytnpoimjdkjhcpaa.Crc
def cs (c : Nat) : Nat := if 2 * c ≥ 65536 then (2 * c) ^^^ 69665 else 2 * c
def csN : Nat → Nat → Nat
  | 0, c => c
  | n + 1, c => csN n (cs c)
theorem tab_all (p : Nat → Bool) (h : ((List.range 256).all fun a => (List.range 256).all fun b => p (256 * a + b)) = true) {c : Nat} (hc : c < 65536) : p c = true := by
  have h2 := Com.all2 (fun a b => p (256 * a + b)) h (a := c / 256) (b := c % 256) (by omega) (by omega)
  obtain ⟨d, hd⟩ : ∃ d, d = 256 * (c / 256) + c % 256 := ⟨_, rfl⟩
  have e : d = c := by omega
  have h3 : p (256 * (c / 256) + c % 256) = true := h2
  rw [← hd, e] at h3
  exact h3
def spl (c : Nat) : Bool := decide (2 * c < 65536) || ((2 * c) ^^^ 69665 == (2 * c - 65536) ^^^ 4129) && ((2 * c) ^^^ 4129 == 65536 + ((2 * c - 65536) ^^^ 4129))
theorem spl_all : ((List.range 256).all fun a => (List.range 256).all fun b => spl (256 * a + b)) = true := by decide +kernel
theorem spl_ok {c : Nat} (h : 2 * c ≥ 65536) (hc : c < 65536) : (2 * c) ^^^ 69665 = (2 * c - 65536) ^^^ 4129 ∧ (2 * c) ^^^ 4129 = 65536 + ((2 * c - 65536) ^^^ 4129) := by
  have h1 := tab_all spl spl_all hc
  unfold spl at h1
  rw [decide_eq_false (by omega), Bool.false_or, Bool.and_eq_true] at h1
  exact ⟨eq_of_beq h1.1, eq_of_beq h1.2⟩
theorem cs_split {c : Nat} (h : 2 * c ≥ 65536) (hc : c < 65536) : (2 * c) ^^^ 69665 = (2 * c - 65536) ^^^ 4129 := (spl_ok h hc).1
theorem cs_lt {c : Nat} (hc : c < 65536) : cs c < 65536 := by
  unfold cs
  split
  · next h => rw [cs_split h hc]; exact Nat.xor_lt_two_pow (n := 16) (by omega) (by omega)
  · omega
theorem csN_lt : ∀ (n : Nat) {c : Nat}, c < 65536 → csN n c < 65536
  | 0, _, h => h
  | n + 1, _, h => csN_lt n (cs_lt h)
theorem mod2 (a b : Nat) : (a ^^^ b) % 2 = (a % 2 + b % 2) % 2 := by
  have h : (a ^^^ b) % 2 = a % 2 ^^^ b % 2 := Nat.xor_mod_two_pow (n := 1)
  rw [h]
  have ha : a % 2 = 0 ∨ a % 2 = 1 := by omega
  have hb : b % 2 = 0 ∨ b % 2 = 1 := by omega
  rcases ha with ha | ha <;> rcases hb with hb | hb <;> rw [ha, hb] <;> rfl
theorem xor_cancel {a b c : Nat} (h : a ^^^ c = b ^^^ c) : a = b := by
  have : (a ^^^ c) ^^^ c = (b ^^^ c) ^^^ c := by rw [h]
  rwa [Nat.xor_assoc, Nat.xor_assoc, Nat.xor_self, Nat.xor_zero, Nat.xor_zero] at this
theorem cs_inj {a b : Nat} (h : cs a = cs b) : a = b := by
  have ha := mod2 (2 * a) 69665
  have hb := mod2 (2 * b) 69665
  unfold cs at h
  by_cases h1 : 2 * a ≥ 65536 <;> by_cases h2 : 2 * b ≥ 65536
  · rw [if_pos h1, if_pos h2] at h
    have := xor_cancel h
    omega
  · rw [if_pos h1, if_neg h2] at h
    omega
  · rw [if_neg h1, if_pos h2] at h
    omega
  · rw [if_neg h1, if_neg h2] at h
    omega
theorem csN_inj : ∀ (n : Nat) {a b : Nat}, csN n a = csN n b → a = b
  | 0, _, _, h => h
  | n + 1, _, _, h => cs_inj (csN_inj n h)
/-- The check behind a byte; behind a list of bytes. -/
def st (c x : Nat) : Nat := csN 8 (c ^^^ 256 * x)
def crcL (c : Nat) (l : List Nat) : Nat := l.foldl st c
theorem crcL_nil (c : Nat) : crcL c [] = c := rfl
theorem crcL_cons (c x : Nat) (l : List Nat) : crcL c (x :: l) = crcL (st c x) l := by unfold crcL; rw [List.foldl_cons]
theorem st_lt {c x : Nat} (hc : c < 65536) (hx : x < 256) : st c x < 65536 := csN_lt 8 (Nat.xor_lt_two_pow (n := 16) hc (by omega))
theorem st_inj {a b x : Nat} (h : st a x = st b x) : a = b := by
  unfold st at h
  exact xor_cancel (csN_inj 8 h)
theorem st_byte {c x y : Nat} (h : st c x = st c y) : x = y := by
  unfold st at h
  have h2 := csN_inj 8 h
  rw [Nat.xor_comm c, Nat.xor_comm c] at h2
  have := xor_cancel h2
  omega
theorem crcL_ne : ∀ (l : List Nat) {a b : Nat}, a ≠ b → crcL a l ≠ crcL b l
  | [], a, b, h => by rw [crcL_nil, crcL_nil]; exact h
  | x :: l, a, b, h => by
    rw [crcL_cons, crcL_cons]
    exact crcL_ne l (fun e => h (st_inj e))
theorem crcL_app : ∀ (l m : List Nat) (c : Nat), crcL c (l ++ m) = crcL (crcL c l) m
  | [], m, c => by rw [crcL_nil, List.nil_append]
  | x :: l, m, c => by rw [List.cons_append, crcL_cons, crcL_cons, crcL_app l m]
theorem crcL_turned (l m : List Nat) (c x y : Nat) (h : x ≠ y) : crcL c (l ++ x :: m) ≠ crcL c (l ++ y :: m) := by
  rw [crcL_app, crcL_app, crcL_cons, crcL_cons]
  exact crcL_ne m (fun e => h (st_byte e))
end Go.Proofs.Ytnpoimjdkjhcpaa.Crc
