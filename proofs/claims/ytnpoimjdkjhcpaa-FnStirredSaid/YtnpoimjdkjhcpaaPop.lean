/- How many bits of a number below 2^16 are 1, as math/bits reckons it, in plain numbers; no condition but the bound. -/
import Derived.Test.YtnpoimjdkjhcpaaHm
namespace Go.Proofs.Ytnpoimjdkjhcpaa.Pop
open Go.Proofs.Ytnpoimjdkjhcpaa.Hm Go.Proofs.Ytnpoimjdkjhcpaa.Com
def oA (n : Nat) : Nat := (n / 2 &&& 6148914691236517205) + (n &&& 6148914691236517205)
def oB (a : Nat) : Nat := (a / 4 &&& 3689348814741910323) + (a &&& 3689348814741910323)
def oC (b : Nat) : Nat := (b / 16 + b) &&& 1085102592571150095
def oE (c : Nat) : Nat := c + c / 256
def oF (e : Nat) : Nat := e + e / 65536
def oG (f : Nat) : Nat := f + f / 4294967296
def ocN (n : Nat) : Nat := oG (oF (oE (oC (oB (oA n))))) &&& 127
def ocB (n : Nat) : Bool := ocN n == ones 16 n
theorem oc_tab : ((List.range 256).all fun a => (List.range 256).all fun b => ocB (256 * a + b)) = true := by decide +kernel
theorem oc_eq {n : Nat} (h : n < 65536) : ocN n = ones 16 n := by
  have h2 := all2 (fun a b => ocB (256 * a + b)) oc_tab (a := n / 256) (b := n % 256) (by omega) (by omega)
  obtain ⟨d, hd⟩ : ∃ d, d = 256 * (n / 256) + n % 256 := ⟨_, rfl⟩
  have e : d = n := by omega
  have h3 : ocB (256 * (n / 256) + n % 256) = true := h2
  rw [← hd, e] at h3
  exact eq_of_beq h3
end Go.Proofs.Ytnpoimjdkjhcpaa.Pop
