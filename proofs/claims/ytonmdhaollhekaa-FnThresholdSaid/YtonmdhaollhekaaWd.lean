/- Whole numbers as lists of words of 32 bits, the lowest first; no condition. -/
import Derived.Test.YtonmdhaollhekaaCom
namespace Go.Proofs.Ytonmdhaollhekaa.Wd
open Go.RowKit Go.Proofs.YtonmdhaollhekaaW.PrintWords Go.Proofs.Ytonmdhaollhekaa.Com
def vl : List Int → Int
  | [] => 0
  | x :: t => x + 4294967296 * vl t
def W32 (l : List Int) : Prop := ∀ x ∈ l, 0 ≤ x ∧ x < 4294967296
def Bp : Nat → Int
  | 0 => 1
  | n + 1 => 4294967296 * Bp n
theorem Bp_pos : ∀ n, 0 < Bp n
  | 0 => by decide
  | n + 1 => by have := Bp_pos n; show 0 < 4294967296 * Bp n; omega
theorem Bp_add (m : Nat) : ∀ n, Bp (m + n) = Bp m * Bp n
  | 0 => (Int.mul_one _).symm
  | n + 1 => by
    show 4294967296 * Bp (m + n) = Bp m * (4294967296 * Bp n)
    rw [Bp_add m n, Int.mul_left_comm]
theorem Bp_mono {m n : Nat} (h : m ≤ n) : Bp m ≤ Bp n := by
  obtain ⟨d, rfl⟩ : ∃ d, n = m + d := ⟨n - m, by omega⟩
  rw [Bp_add]
  have h1 := Bp_pos d
  have h2 := Bp_pos m
  have := Int.mul_le_mul_of_nonneg_left (show 1 ≤ Bp d by omega) (show 0 ≤ Bp m by omega)
  omega
theorem vl_app : ∀ (l r : List Int), vl (l ++ r) = vl l + Bp l.length * vl r
  | [], r => by show vl r = 0 + 1 * vl r; omega
  | x :: t, r => by
    show x + 4294967296 * vl (t ++ r) = x + 4294967296 * vl t + 4294967296 * Bp t.length * vl r
    rw [vl_app t r, Int.mul_assoc, Int.mul_add]; omega
theorem vl_bound : ∀ (l : List Int), W32 l → 0 ≤ vl l ∧ vl l < Bp l.length
  | [], _ => by decide
  | x :: t, h => by
    have h1 := vl_bound t (fun y hy => h y (List.mem_cons_of_mem _ hy))
    have h2 := h x List.mem_cons_self
    show 0 ≤ x + 4294967296 * vl t ∧ x + 4294967296 * vl t < 4294967296 * Bp t.length
    omega
/-- The last word, if there is one, is not 0. -/
def Tr (l : List Int) : Prop := l.length = 0 ∨ rd l ((l.length - 1 : Nat) : Int) ≠ 0
theorem split_last {l : List Int} (h : l.length ≠ 0) : l = l.take (l.length - 1) ++ [rd l ((l.length - 1 : Nat) : Int)] := by
  have h1 := take_rd (xs := l) (i := l.length - 1) (by omega)
  rw [show l.length - 1 + 1 = l.length by omega, List.take_length] at h1
  exact h1
theorem W32.take {l : List Int} (h : W32 l) (n : Nat) : W32 (l.take n) := fun x hx => h x (List.mem_of_mem_take hx)
theorem Tr_big {l : List Int} (hw : W32 l) (ht : Tr l) (h : l.length ≠ 0) : Bp (l.length - 1) ≤ vl l := by
  have hl := ht.resolve_left h
  have e := split_last h
  have hr := hw _ (rd_mem (xs := l) (i := l.length - 1) (by omega))
  have hb := vl_bound _ (hw.take (l.length - 1))
  rw [e, vl_app, List.length_take, show min (l.length - 1) l.length = l.length - 1 by omega]
  rw [List.length_append, List.length_take, show min (l.length - 1) l.length = l.length - 1 by omega] 
  generalize rd l ((l.length - 1 : Nat) : Int) = x at *
  have hp := Bp_pos (l.length - 1)
  have hm : Bp (l.length - 1) * 1 ≤ Bp (l.length - 1) * x := Int.mul_le_mul_of_nonneg_left (by omega) (by omega)
  show Bp (l.length - 1 + 1 - 1) ≤ _
  rw [show l.length - 1 + 1 - 1 = l.length - 1 by omega]
  show _ ≤ vl (l.take (l.length - 1)) + Bp (l.length - 1) * (x + 4294967296 * 0)
  rw [show x + 4294967296 * 0 = x by omega]
  omega
theorem vl_set : ∀ (l : List Int) (i : Nat) (v : Int), i < l.length → vl (l.set i v) = vl l + Bp i * (v - rd l (i : Int))
  | [], _, _, h => by simp at h
  | x :: t, 0, v, _ => by
    show v + 4294967296 * vl t = x + 4294967296 * vl t + 1 * (v - x)
    omega
  | x :: t, i + 1, v, h => by
    have ih := vl_set t i v (by simpa using h)
    have er : rd (x :: t) ((i + 1 : Nat) : Int) = rd t (i : Int) := rfl
    rw [er]
    show x + 4294967296 * vl (t.set i v) = x + 4294967296 * vl t + 4294967296 * Bp i * (v - rd t (i : Int))
    rw [ih, Int.mul_add, Int.mul_assoc]; omega
theorem W32.set {l : List Int} (h : W32 l) (i : Nat) {v : Int} (hv : 0 ≤ v ∧ v < 4294967296) : W32 (l.set i v) := by
  intro x hx
  rcases List.mem_or_eq_of_mem_set hx with h1 | h1
  · exact h x h1
  · rw [h1]; exact hv
theorem W32.rep (n : Nat) : W32 (List.replicate n 0) := fun x hx => by rw [(List.mem_replicate.mp hx).2]; omega
theorem vl_rep : ∀ n, vl (List.replicate n 0) = 0
  | 0 => rfl
  | n + 1 => by show 0 + 4294967296 * vl (List.replicate n 0) = 0; rw [vl_rep n]; rfl
theorem rd_set_ne {l : List Int} {i j : Nat} (h : i ≠ j) (v : Int) : rd (l.set i v) (j : Int) = rd l (j : Int) := by
  unfold rd
  rw [Int.toNat_natCast, List.getD_eq_getElem?_getD, List.getD_eq_getElem?_getD, List.getElem?_set_ne h]
theorem rd_set_eq {l : List Int} {i : Nat} (h : i < l.length) (v : Int) : rd (l.set i v) (i : Int) = v := by
  unfold rd
  rw [Int.toNat_natCast, List.getD_eq_getElem?_getD, List.getElem?_set_self h]; rfl
theorem rd_rep (n i : Nat) : rd (List.replicate n 0) (i : Int) = 0 := by
  unfold rd
  rw [Int.toNat_natCast, List.getD_eq_getElem?_getD, List.getElem?_replicate]
  split <;> rfl
end Go.Proofs.Ytonmdhaollhekaa.Wd
