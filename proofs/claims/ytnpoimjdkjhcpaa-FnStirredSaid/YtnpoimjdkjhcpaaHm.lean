/- Words of eight bits with checks, in plain numbers, by tables; no condition but bounds. -/
import Derived.Test.YtnpoimjdkjhcpaaCom
namespace Go.Proofs.Ytnpoimjdkjhcpaa.Hm
def hamT (n : Nat) : Nat := [0, 23, 43, 60, 77, 90, 102, 113, 142, 153, 165, 178, 195, 212, 232, 255].getD n 0
def ones : Nat → Nat → Nat
  | 0, _ => 0
  | f + 1, n => n % 2 + ones f (n / 2)
def unhamG (w : Nat) : Nat → Nat → Int × Int
  | 0, _ => (-1, 2)
  | d + 1, i => if ones 8 (hamT i ^^^ w) ≤ 1 then ((i : Int), ((ones 8 (hamT i ^^^ w) : Nat) : Int)) else unhamG w d (i + 1)
def unhamT (w : Nat) : Int × Int := unhamG w 16 0
def hamM (a : Int) : Int := if 0 ≤ a ∧ a ≤ 15 then ((hamT a.toNat : Nat) : Int) else 0
def unhamM (w : Int) : Int × Int := if 0 ≤ w ∧ w ≤ 255 then unhamT w.toNat else (-1, 2)
theorem hamT_lt {n : Nat} (h : n < 16) : hamT n < 256 := by
  have t : (List.range 16).all (fun n => decide (hamT n < 256)) = true := by decide +kernel
  have := List.all_eq_true.mp t n (List.mem_range.mpr h)
  simpa using this
theorem unham_one : ∀ n < 16, ∀ a < 8, unhamT (hamT n ^^^ 2 ^ a) = ((n : Int), 1) := by decide +kernel
theorem unham_none : ∀ n < 16, unhamT (hamT n) = ((n : Int), 0) := by decide +kernel
theorem unham_two : ∀ n < 16, ∀ a < 8, ∀ b < 8, a ≠ b → unhamT (hamT n ^^^ 2 ^ a ^^^ 2 ^ b) = (-1, 2) := by decide +kernel
theorem ham_far : ∀ n < 16, ∀ m < 16, (n = m ∧ ones 8 (hamT n ^^^ hamT m) = 0) ∨ (n ≠ m ∧ 4 ≤ ones 8 (hamT n ^^^ hamT m)) := by decide +kernel
theorem ones_le : ∀ f n, ones f n ≤ f
  | 0, _ => Nat.le_refl _
  | f + 1, n => by have := ones_le f (n / 2); unfold ones; omega
end Go.Proofs.Ytnpoimjdkjhcpaa.Hm
