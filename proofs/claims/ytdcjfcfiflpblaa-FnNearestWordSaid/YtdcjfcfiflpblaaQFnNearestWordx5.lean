/- The functions that FnNearestWord reaches, each with its walk; written by a program (own.py). -/
import Derived.Test.YtdcjfcfiflpblaaSh
import Derived.Test.YtdcjfcfiflpblaaQFnNearestWordx0
import Derived.Test.YtdcjfcfiflpblaaQFnNearestWordx1
import Derived.Test.YtdcjfcfiflpblaaQFnNearestWordx3
namespace Go.Proofs.Ytdcjfcfiflpblaa.PFnNearestWord
open Go.RowKit Go.Proofs.YtdcjfcfiflpblaaW.PrintWords Go.Proofs.YtdcjfcfiflpblaaW.PrintLast Go.Proofs.YtdcjfcfiflpblaaW.PrintMore
attribute [local go_sem] max2_int min2_int max_two min_two max_three min_three max_four min_four   -- for this text's walks alone
set_option linter.unusedVariables false
set_option linter.unusedSimpArgs false

/-! ### impl_fill: function 40 -/
mutual
def impl_fill.l0 : Nat → List Int → List Int → Int → List (List Int) → Int → Int → Option (List Int × Bool)
  | 0, _, _, _, _, _, _ => none
  | k + 1, x0, x1, x8, x9, x31, x32 => if x32 < x31 then (impl_fill.l1 k x0 x1 x8 x9 x32 x31 x32 x1 (x1.length : Int) 0) else (impl_fill.l2 k x0 x1 x8 x9 x8 0)
def impl_fill.l1 : Nat → List Int → List Int → Int → List (List Int) → Int → Int → Int → List Int → Int → Int → Option (List Int × Bool)
  | 0, _, _, _, _, _, _, _, _, _, _ => none
  | k + 1, x0, x1, x8, x9, x10, x31, x32, x35, x36, x37 => if x37 < x36 then (if 0 ≤ x37 then (if x37 < (x35.length : Int) then (if 0 ≤ x10 then (if x10 < (x9.length : Int) then ((impl_gfPow.f k (wrap64 ((wrap64 ((wrap64 ((x0.length : Int) - 1)) - (rd x35 x37))) * x10))).bind fun t179 => (if (rd_L2 x9 x10).length < 17592186044416 then (impl_fill.l1 k x0 x1 x8 (x9.set (x10 : Int).toNat ((rd_L2 x9 x10) ++ [t179])) x10 x31 x32 x35 x36 (wrap64 (x37 + 1))) else (none))) else (none)) else (none)) else (none)) else (none)) else (if 0 ≤ x10 then (if x10 < (x9.length : Int) then ((impl_value.f k x0 x10).bind fun t185 => (if (rd_L2 x9 x10).length < 17592186044416 then (impl_fill.l0 k x0 x1 x8 (x9.set (x10 : Int).toNat ((rd_L2 x9 x10) ++ [t185])) x31 (wrap64 (x32 + 1))) else (none))) else (none)) else (none))
def impl_fill.l2 : Nat → List Int → List Int → Int → List (List Int) → Int → Int → Option (List Int × Bool)
  | 0, _, _, _, _, _, _ => none
  | k + 1, x0, x1, x8, x9, x72, x73 => if x73 < x72 then (impl_fill.l3 k x0 x1 x8 x9 x73 x73 x72 x73) else (if 0 ≤ x8 then (if x8 ≤ (x9.length : Int) then ((some (x9.drop (x8 : Int).toNat : List (List Int))).bind fun y218 => (impl_fill.l7 k x0 x1 x8 x9 y218 (y218.length : Int) 0)) else (none)) else (none))
def impl_fill.j4 : Nat → List Int → List Int → Int → List (List Int) → Int → Int → Int → Int → Option (List Int × Bool)
  | 0, _, _, _, _, _, _, _, _ => none
  | k + 1, x0, x1, x8, x9, x13, x14, x72, x73 => if x14 = (x9.length : Int) then (some (([] : List Int), false)) else (if 0 ≤ x13 then (if x13 < (x9.length : Int) then (if 0 ≤ x14 ∧ x14 < (x9.length : Int) then ((some ((x9.set (x13 : Int).toNat (rd_L2 x9 x14)).set (x14 : Int).toNat (rd_L2 x9 x13) : List (List Int))).bind fun y195 => (if x13 < ((rd_L2 y195 x13).length : Int) then ((impl_GfInv.f k (rd (rd_L2 y195 x13) x13)).bind fun t198 => (impl_fill.l4 k x0 x1 x8 y195 x13 t198 x72 x73 ((rd_L2 y195 x13).length : Int) 0)) else (none))) else (none)) else (none)) else (none))
def impl_fill.l4 : Nat → List Int → List Int → Int → List (List Int) → Int → Int → Int → Int → Int → Int → Option (List Int × Bool)
  | 0, _, _, _, _, _, _, _, _, _, _ => none
  | k + 1, x0, x1, x8, x9, x13, x15, x72, x73, x123, x124 => if x124 < x123 then (if 0 ≤ x13 then (if x13 < (x9.length : Int) then (if 0 ≤ x124 then (if x124 < ((rd_L2 x9 x13).length : Int) then ((impl_GfMul.f k (rd (rd_L2 x9 x13) x124) x15).bind fun t203 => (impl_fill.l4 k x0 x1 x8 (x9.set (x13 : Int).toNat ((rd_L2 x9 x13).set (x124 : Int).toNat t203)) x13 x15 x72 x73 x123 (wrap64 (x124 + 1)))) else (none)) else (none)) else (none)) else (none)) else (impl_fill.l5 k x0 x1 x8 x9 x13 x72 x73 (x9.length : Int) 0)
def impl_fill.l5 : Nat → List Int → List Int → Int → List (List Int) → Int → Int → Int → Int → Int → Option (List Int × Bool)
  | 0, _, _, _, _, _, _, _, _, _ => none
  | k + 1, x0, x1, x8, x9, x13, x72, x73, x144, x145 => if x145 < x144 then (if 0 ≤ x145 then (if x145 < (x9.length : Int) then (if 0 ≤ x13 then (if x13 < ((rd_L2 x9 x145).length : Int) then (if x145 = x13 then (impl_fill.j7 k x0 x1 x8 x9 x13 x145 (rd (rd_L2 x9 x145) x13) x72 x73 x144 x145 false) else (impl_fill.j7 k x0 x1 x8 x9 x13 x145 (rd (rd_L2 x9 x145) x13) x72 x73 x144 x145 ((rd (rd_L2 x9 x145) x13) != 0))) else (none)) else (none)) else (none)) else (none)) else (impl_fill.l2 k x0 x1 x8 x9 x72 (wrap64 (x73 + 1)))
def impl_fill.j7 : Nat → List Int → List Int → Int → List (List Int) → Int → Int → Int → Int → Int → Int → Int → Bool → Option (List Int × Bool)
  | 0, _, _, _, _, _, _, _, _, _, _, _, _ => none
  | k + 1, x0, x1, x8, x9, x13, x17, x18, x72, x73, x144, x145, x161 => if x161 = true then (if 0 ≤ x17 then (if x17 < (x9.length : Int) then (impl_fill.l6 k x0 x1 x8 x9 x13 x17 x18 x72 x73 x144 x145 ((rd_L2 x9 x17).length : Int) 0) else (none)) else (none)) else (impl_fill.l5 k x0 x1 x8 x9 x13 x72 x73 x144 (wrap64 (x145 + 1)))
def impl_fill.l6 : Nat → List Int → List Int → Int → List (List Int) → Int → Int → Int → Int → Int → Int → Int → Int → Int → Option (List Int × Bool)
  | 0, _, _, _, _, _, _, _, _, _, _, _, _, _ => none
  | k + 1, x0, x1, x8, x9, x13, x17, x18, x72, x73, x144, x145, x166, x167 => if x167 < x166 then (if 0 ≤ x17 then (if x17 < (x9.length : Int) then (if 0 ≤ x167 then (if x167 < ((rd_L2 x9 x17).length : Int) then (if 0 ≤ x13 then (if x13 < (x9.length : Int) then (if x167 < ((rd_L2 x9 x13).length : Int) then ((impl_GfMul.f k x18 (rd (rd_L2 x9 x13) x167)).bind fun t214 => (impl_fill.l6 k x0 x1 x8 (x9.set (x17 : Int).toNat ((rd_L2 x9 x17).set (x167 : Int).toNat (Go.bits .xor .i64 (rd (rd_L2 x9 x17) x167) t214))) x13 x17 x18 x72 x73 x144 x145 x166 (wrap64 (x167 + 1)))) else (none)) else (none)) else (none)) else (none)) else (none)) else (none)) else (none)) else (impl_fill.l5 k x0 x1 x8 x9 x13 x72 x73 x144 (wrap64 (x145 + 1)))
def impl_fill.l3 : Nat → List Int → List Int → Int → List (List Int) → Int → Int → Int → Int → Option (List Int × Bool)
  | 0, _, _, _, _, _, _, _, _ => none
  | k + 1, x0, x1, x8, x9, x13, x14, x72, x73 => if x14 < (x9.length : Int) then (if 0 ≤ x14 then (if 0 ≤ x13 then (if x13 < ((rd_L2 x9 x14).length : Int) then (if (rd (rd_L2 x9 x14) x13) = 0 then (impl_fill.l3 k x0 x1 x8 x9 x13 (wrap64 (x14 + 1)) x72 x73) else (impl_fill.j4 k x0 x1 x8 x9 x13 x14 x72 x73)) else (none)) else (none)) else (none)) else (impl_fill.j4 k x0 x1 x8 x9 x13 x14 x72 x73)
def impl_fill.l7 : Nat → List Int → List Int → Int → List (List Int) → List (List Int) → Int → Int → Option (List Int × Bool)
  | 0, _, _, _, _, _, _, _ => none
  | k + 1, x0, x1, x8, x9, x193, x194, x195 => if x195 < x194 then (if 0 ≤ x195 then (if x195 < (x193.length : Int) then (if 0 ≤ x8 then (if x8 < ((rd_L2 x193 x195).length : Int) then (if (rd (rd_L2 x193 x195) x8) = 0 then (impl_fill.l7 k x0 x1 x8 x9 x193 x194 (wrap64 (x195 + 1))) else (some (([] : List Int), false))) else (none)) else (none)) else (none)) else (none)) else ((slices_Clone_byte_byte.f x0).bind fun t224 => (impl_fill.l8 k x8 x9 t224 x1 (x1.length : Int) 0))
def impl_fill.l8 : Nat → Int → List (List Int) → List Int → List Int → Int → Int → Option (List Int × Bool)
  | 0, _, _, _, _, _, _ => none
  | k + 1, x8, x9, x22, x207, x208, x209 => if x209 < x208 then (if 0 ≤ x209 then (if x209 < (x207.length : Int) then (if 0 ≤ (rd x207 x209) then (if (rd x207 x209) < (x22.length : Int) then (if x209 < (x9.length : Int) then (if 0 ≤ x8 then (if x8 < ((rd_L2 x9 x209).length : Int) then (impl_fill.l8 k x8 x9 (x22.set ((rd x207 x209) : Int).toNat (Go.bits .xor .u8 (rd x22 (rd x207 x209)) ((rd (rd_L2 x9 x209) x8) % 256))) x207 x208 (wrap64 (x209 + 1))) else (none)) else (none)) else (none)) else (none)) else (none)) else (none)) else (none)) else (some (x22, true))
end
def impl_fill.f (k : Nat) (l0 : List Int) (l1 : List Int) (a2 : Int) : Option (List Int × Bool) := if 0 ≤ (wrap64 (2 * a2)) then (if (wrap64 (2 * a2) : Int).toNat ≤ 11728124029610 then ((some (List.replicate (wrap64 (2 * a2) : Int).toNat [] : List (List Int))).bind fun y174 => (impl_fill.l0 k l0 l1 (l1.length : Int) y174 (y174.length : Int) 0)) else (none)) else (none)
theorem impl_fill.mono_l : ∀ k, (∀ y0 y1 y2 y3 y4 y5, LeO (impl_fill.l0 k y0 y1 y2 y3 y4 y5) (impl_fill.l0 (k + 1) y0 y1 y2 y3 y4 y5)) ∧ (∀ y0 y1 y2 y3 y4 y5 y6 y7 y8 y9, LeO (impl_fill.l1 k y0 y1 y2 y3 y4 y5 y6 y7 y8 y9) (impl_fill.l1 (k + 1) y0 y1 y2 y3 y4 y5 y6 y7 y8 y9)) ∧ (∀ y0 y1 y2 y3 y4 y5, LeO (impl_fill.l2 k y0 y1 y2 y3 y4 y5) (impl_fill.l2 (k + 1) y0 y1 y2 y3 y4 y5)) ∧ (∀ y0 y1 y2 y3 y4 y5 y6 y7, LeO (impl_fill.j4 k y0 y1 y2 y3 y4 y5 y6 y7) (impl_fill.j4 (k + 1) y0 y1 y2 y3 y4 y5 y6 y7)) ∧ (∀ y0 y1 y2 y3 y4 y5 y6 y7 y8 y9, LeO (impl_fill.l4 k y0 y1 y2 y3 y4 y5 y6 y7 y8 y9) (impl_fill.l4 (k + 1) y0 y1 y2 y3 y4 y5 y6 y7 y8 y9)) ∧ (∀ y0 y1 y2 y3 y4 y5 y6 y7 y8, LeO (impl_fill.l5 k y0 y1 y2 y3 y4 y5 y6 y7 y8) (impl_fill.l5 (k + 1) y0 y1 y2 y3 y4 y5 y6 y7 y8)) ∧ (∀ y0 y1 y2 y3 y4 y5 y6 y7 y8 y9 y10 y11, LeO (impl_fill.j7 k y0 y1 y2 y3 y4 y5 y6 y7 y8 y9 y10 y11) (impl_fill.j7 (k + 1) y0 y1 y2 y3 y4 y5 y6 y7 y8 y9 y10 y11)) ∧ (∀ y0 y1 y2 y3 y4 y5 y6 y7 y8 y9 y10 y11 y12, LeO (impl_fill.l6 k y0 y1 y2 y3 y4 y5 y6 y7 y8 y9 y10 y11 y12) (impl_fill.l6 (k + 1) y0 y1 y2 y3 y4 y5 y6 y7 y8 y9 y10 y11 y12)) ∧ (∀ y0 y1 y2 y3 y4 y5 y6 y7, LeO (impl_fill.l3 k y0 y1 y2 y3 y4 y5 y6 y7) (impl_fill.l3 (k + 1) y0 y1 y2 y3 y4 y5 y6 y7)) ∧ (∀ y0 y1 y2 y3 y4 y5 y6, LeO (impl_fill.l7 k y0 y1 y2 y3 y4 y5 y6) (impl_fill.l7 (k + 1) y0 y1 y2 y3 y4 y5 y6)) ∧ (∀ y0 y1 y2 y3 y4 y5, LeO (impl_fill.l8 k y0 y1 y2 y3 y4 y5) (impl_fill.l8 (k + 1) y0 y1 y2 y3 y4 y5))
  | 0 => ⟨fun _ _ _ _ _ _ r h => by simp [impl_fill.l0] at h, fun _ _ _ _ _ _ _ _ _ _ r h => by simp [impl_fill.l1] at h, fun _ _ _ _ _ _ r h => by simp [impl_fill.l2] at h, fun _ _ _ _ _ _ _ _ r h => by simp [impl_fill.j4] at h, fun _ _ _ _ _ _ _ _ _ _ r h => by simp [impl_fill.l4] at h, fun _ _ _ _ _ _ _ _ _ r h => by simp [impl_fill.l5] at h, fun _ _ _ _ _ _ _ _ _ _ _ _ r h => by simp [impl_fill.j7] at h, fun _ _ _ _ _ _ _ _ _ _ _ _ _ r h => by simp [impl_fill.l6] at h, fun _ _ _ _ _ _ _ _ r h => by simp [impl_fill.l3] at h, fun _ _ _ _ _ _ _ r h => by simp [impl_fill.l7] at h, fun _ _ _ _ _ _ r h => by simp [impl_fill.l8] at h⟩
  | k + 1 => by
    obtain ⟨ih0, ih1, ih2, ih3, ih4, ih5, ih6, ih7, ih8, ih9, ih10⟩ := impl_fill.mono_l k
    refine ⟨?_, ?_, ?_, ?_, ?_, ?_, ?_, ?_, ?_, ?_, ?_⟩ <;> intros
    all_goals first | unfold impl_fill.l0 | unfold impl_fill.l1 | unfold impl_fill.l2 | unfold impl_fill.j4 | unfold impl_fill.l4 | unfold impl_fill.l5 | unfold impl_fill.j7 | unfold impl_fill.l6 | unfold impl_fill.l3 | unfold impl_fill.l7 | unfold impl_fill.l8
    all_goals repeat' first
    | (with_reducible exact ih0 _ _ _ _ _ _)
    | (with_reducible exact ih1 _ _ _ _ _ _ _ _ _ _)
    | (with_reducible exact ih2 _ _ _ _ _ _)
    | (with_reducible exact ih3 _ _ _ _ _ _ _ _)
    | (with_reducible exact ih4 _ _ _ _ _ _ _ _ _ _)
    | (with_reducible exact ih5 _ _ _ _ _ _ _ _ _)
    | (with_reducible exact ih6 _ _ _ _ _ _ _ _ _ _ _ _)
    | (with_reducible exact ih7 _ _ _ _ _ _ _ _ _ _ _ _ _)
    | (with_reducible exact ih8 _ _ _ _ _ _ _ _)
    | (with_reducible exact ih9 _ _ _ _ _ _ _)
    | (with_reducible exact ih10 _ _ _ _ _ _)
    | (with_reducible exact impl_GfInv.mono _ _)
    | (with_reducible exact impl_GfMul.mono _ _ _)
    | (with_reducible exact impl_gfPow.mono _ _)
    | (with_reducible exact impl_value.mono _ _ _)
    | (with_reducible exact LeO.refl _)
    | (with_reducible exact LeO.none _)
    | (with_reducible refine LeO.ite ?_ ?_)
    | (with_reducible refine LeO.bind ?_ (fun _ => ?_))
    | exact ih0 _ _ _ _ _ _
    | exact ih1 _ _ _ _ _ _ _ _ _ _
    | exact ih2 _ _ _ _ _ _
    | exact ih3 _ _ _ _ _ _ _ _
    | exact ih4 _ _ _ _ _ _ _ _ _ _
    | exact ih5 _ _ _ _ _ _ _ _ _
    | exact ih6 _ _ _ _ _ _ _ _ _ _ _ _
    | exact ih7 _ _ _ _ _ _ _ _ _ _ _ _ _
    | exact ih8 _ _ _ _ _ _ _ _
    | exact ih9 _ _ _ _ _ _ _
    | exact ih10 _ _ _ _ _ _
    | exact impl_GfInv.mono _ _
    | exact impl_GfMul.mono _ _ _
    | exact impl_gfPow.mono _ _
    | exact impl_value.mono _ _ _
    | exact LeO.none _
    | refine LeO.ite ?_ ?_
    | refine LeO.bind ?_ (fun _ => ?_)
theorem impl_fill.mono : ∀ a0 a1 a2 k, LeO (impl_fill.f k a0 a1 a2) (impl_fill.f (k + 1) a0 a1 a2) := by
  intro a0 a1 a2 k
  obtain ⟨ih0, ih1, ih2, ih3, ih4, ih5, ih6, ih7, ih8, ih9, ih10⟩ := impl_fill.mono_l k
  unfold impl_fill.f
  repeat' first
      | (with_reducible exact ih0 _ _ _ _ _ _)
      | (with_reducible exact ih1 _ _ _ _ _ _ _ _ _ _)
      | (with_reducible exact ih2 _ _ _ _ _ _)
      | (with_reducible exact ih3 _ _ _ _ _ _ _ _)
      | (with_reducible exact ih4 _ _ _ _ _ _ _ _ _ _)
      | (with_reducible exact ih5 _ _ _ _ _ _ _ _ _)
      | (with_reducible exact ih6 _ _ _ _ _ _ _ _ _ _ _ _)
      | (with_reducible exact ih7 _ _ _ _ _ _ _ _ _ _ _ _ _)
      | (with_reducible exact ih8 _ _ _ _ _ _ _ _)
      | (with_reducible exact ih9 _ _ _ _ _ _ _)
      | (with_reducible exact ih10 _ _ _ _ _ _)
      | (with_reducible exact impl_GfInv.mono _ _)
      | (with_reducible exact impl_GfMul.mono _ _ _)
      | (with_reducible exact impl_gfPow.mono _ _)
      | (with_reducible exact impl_value.mono _ _ _)
      | (with_reducible exact LeO.refl _)
      | (with_reducible exact LeO.none _)
      | (with_reducible refine LeO.ite ?_ ?_)
      | (with_reducible refine LeO.bind ?_ (fun _ => ?_))
      | exact ih0 _ _ _ _ _ _
      | exact ih1 _ _ _ _ _ _ _ _ _ _
      | exact ih2 _ _ _ _ _ _
      | exact ih3 _ _ _ _ _ _ _ _
      | exact ih4 _ _ _ _ _ _ _ _ _ _
      | exact ih5 _ _ _ _ _ _ _ _ _
      | exact ih6 _ _ _ _ _ _ _ _ _ _ _ _
      | exact ih7 _ _ _ _ _ _ _ _ _ _ _ _ _
      | exact ih8 _ _ _ _ _ _ _ _
      | exact ih9 _ _ _ _ _ _ _
      | exact ih10 _ _ _ _ _ _
      | exact impl_GfInv.mono _ _
      | exact impl_GfMul.mono _ _ _
      | exact impl_gfPow.mono _ _
      | exact impl_value.mono _ _ _
      | exact LeO.none _
      | refine LeO.ite ?_ ?_
      | refine LeO.bind ?_ (fun _ => ?_)
def impl_fill.T9 : Bool × List (List Nat × List Nat) := (true, [([], []), ([], []), ([], []), ([], []), ([2, 3], [2, 3]), ([4], [4]), ([], []), ([6], [6]), ([7], [7]), ([], []), ([8, 9], [8, 9]), ([], []), ([10, 11], [10, 11]), ([12], [12]), ([13], [13]), ([5, 14, 13], [5, 14]), ([0, 1, 0, 1, 2, 3, 4, 5, 6, 7, 8, 9, 10, 11, 12, 13, 14, 15], [0, 1]), ([16, 15, 15, 0, 1, 2, 3, 4, 5, 6, 7, 8, 9, 10, 11, 12, 13, 14, 15], [15, 16])])
def impl_fill.B9 : List Nat := [0, 0, 0, 0, 12, 28, 0, 64, 192, 0, 960, 0, 4032, 8128, 16320, 32764, 65535, 131071]
theorem impl_fill.tab9 : rtab .any (opsOf Try.f40 9) = impl_fill.T9 := by kernel_rfl
theorem impl_fill.bits9 : waitsOk impl_fill.T9.2 impl_fill.B9 = true := by kernel_rfl
def impl_fill.T11 : Bool × List (List Nat × List Nat) := (true, [([], []), ([], []), ([], []), ([], []), ([2, 3], [2, 3]), ([4], [4]), ([], []), ([], []), ([6, 7], [6, 7]), ([8], [8]), ([5, 9, 8], [5, 9]), ([0, 1, 0, 1, 2, 3, 4, 5, 6, 7, 8, 9, 10], [0, 1]), ([11, 10, 10, 0, 1, 2, 3, 4, 5, 6, 7, 8, 9, 10], [10, 11])])
def impl_fill.B11 : List Nat := [0, 0, 0, 0, 12, 28, 0, 0, 192, 448, 1020, 2047, 4095]
theorem impl_fill.tab11 : rtab .any (opsOf Try.f40 11) = impl_fill.T11 := by kernel_rfl
theorem impl_fill.bits11 : waitsOk impl_fill.T11.2 impl_fill.B11 = true := by kernel_rfl
def impl_fill.T26 : Bool × List (List Nat × List Nat) := (true, [([], []), ([], []), ([0, 1], [0, 1]), ([2], [2]), ([], []), ([], []), ([], []), ([5, 6], [5, 6]), ([7], [7]), ([], []), ([8, 9], [8, 9]), ([10], [10]), ([], []), ([11, 12], [11, 12]), ([3, 4, 0, 1, 2, 3, 4, 5, 6, 7, 8, 9, 10, 11, 12, 13], [3, 4]), ([14, 13, 13, 0, 1, 2, 3, 4, 5, 6, 7, 8, 9, 10, 11, 12, 13], [13, 14])])
def impl_fill.B26 : List Nat := [0, 0, 3, 7, 0, 0, 0, 96, 224, 0, 992, 2016, 0, 8160, 16383, 32767]
theorem impl_fill.tab26 : rtab .any (opsOf Try.f40 26) = impl_fill.T26 := by kernel_rfl
theorem impl_fill.bits26 : waitsOk impl_fill.T26.2 impl_fill.B26 = true := by kernel_rfl
def impl_fill.T36 : Bool × List (List Nat × List Nat) := (true, [([], []), ([], []), ([0, 1], [0, 1]), ([2], [2]), ([], []), ([3, 4], [3, 4]), ([5], [5]), ([], []), ([], []), ([], []), ([8, 9], [8, 9]), ([10], [10]), ([], []), ([11, 12], [11, 12]), ([13], [13]), ([7, 14], [7, 14]), ([6, 15], [6, 15]), ([3, 4, 0, 1, 2, 3, 4, 5, 6, 7, 8, 9, 10, 11, 12, 13, 14, 15, 16], [3, 4]), ([17, 16, 15, 0, 1, 2, 3, 4, 5, 6, 7, 8, 9, 10, 11, 12, 13, 14, 15, 16], [16, 17])])
def impl_fill.B36 : List Nat := [0, 0, 3, 7, 0, 31, 63, 0, 0, 0, 768, 1792, 0, 7936, 16128, 32640, 65535, 131071, 262143]
theorem impl_fill.tab36 : rtab .any (opsOf Try.f40 36) = impl_fill.T36 := by kernel_rfl
theorem impl_fill.bits36 : waitsOk impl_fill.T36.2 impl_fill.B36 = true := by kernel_rfl
def impl_fill.T50 : Bool × List (List Nat × List Nat) := (true, [([], []), ([], []), ([0, 1], [0, 1]), ([2], [2]), ([], []), ([], []), ([4, 5], [4, 5]), ([6], [6]), ([], []), ([7, 8], [7, 8]), ([9], [9]), ([10], [10]), ([3, 11], [3, 11]), ([0, 1, 0, 1, 2, 3, 4, 5, 6, 7, 8, 9, 10, 11, 12], [0, 1]), ([13, 12, 0, 1, 2, 3, 4, 5, 6, 7, 8, 9, 10, 11, 12], [12, 13])])
def impl_fill.B50 : List Nat := [0, 0, 3, 7, 0, 0, 48, 112, 0, 496, 1008, 2032, 4095, 8191, 16383]
theorem impl_fill.tab50 : rtab .any (opsOf Try.f40 50) = impl_fill.T50 := by kernel_rfl
theorem impl_fill.bits50 : waitsOk impl_fill.T50.2 impl_fill.B50 = true := by kernel_rfl
theorem take1_at {l : List Value} {k : Nat} {x : Value} (h : l[k]? = some x) : (l.drop k).take 1 = [x] := by
  obtain ⟨hk, rfl⟩ := List.getElem?_eq_some_iff.1 h
  rw [List.drop_eq_getElem_cons hk]; rfl
/-- Two rows of a row of rows change places. -/
theorem S_swap {w : World} {base n cap : Nat} {ad : Addr} {ok : Nat → Prop} {M : List (List Int)} (h : Kd.S (Kd.slice 3 (Kd.int .i64)) 24 w base ok (.slice (some ad) n cap) M) {i j : Nat} (hi : i < n) (hj : j < n) {u v : Value} (hu : w.cell? (ad.add i) = some u) (hv : w.cell? (ad.add j) = some v) :
    Kd.S (Kd.slice 3 (Kd.int .i64)) 24 ((w.setCell (ad.add i) v).setCell (ad.add j) u) base ok (.slice (some ad) n cap) ((M.set i (M.getD j [])).set j (M.getD i [])) := by
  obtain ⟨g, rfl⟩ := Kd.R_head (Kd.S_R h)
  rw [add_plain] at hu hv
  rw [add_plain, add_plain]
  obtain ⟨f, h0, inner, ho, hr⟩ := h
  have hn : n = M.length := by
    have := ho.2
    rcases this with ⟨e, _⟩ | ⟨_, _, _, e, _⟩
    · cases e
    · injection e with _ e _; rw [e, List.length_zipIdx]
  subst hn
  rw [List.length_zipIdx] at ho
  replace ho : w.ownsRow base 24 1 (.slice (some ⟨g, 0, none⟩) M.length cap) M.length inner := ho
  have hil : inner.length = M.length := by have := ho.1; rw [Nat.mul_one] at this; exact this
  have at_ : ∀ k (x : Value), k < M.length → w.cell? ⟨g, k, none⟩ = some x → inner[k]? = some x := by
    intro k x hk hx
    have h1 := ho.cells (g := g) rfl k _ (List.getElem?_eq_getElem (by omega : k < inner.length))
    rw [add_plain, hx] at h1
    rw [List.getElem?_eq_getElem (by omega : k < inner.length)]
    exact h1.symm
  have iu := at_ i u hi hu
  have iv := at_ j v hj hv
  have ho' := ((ho.stored i v).1.stored j u).1
  have far : ∀ b, b ≠ g → ((w.setCell ⟨g, i, none⟩ v).setCell ⟨g, j, none⟩ u).heap[b]? = w.heap[b]? := fun b hb => (Below.heap_setCell _ _ _ _ hb).trans (Below.heap_setCell _ _ _ _ hb)
  refine ⟨fun b => if f b = i then j else if f b = j then i else f b, h0, (inner.set i v).set j u, ?_, ?_, ?_⟩
  · rw [List.length_zipIdx, List.length_set, List.length_set]
    exact ho'
  · rw [List.length_set, List.length_set, List.length_zipIdx, List.length_set, List.length_set, hil]
    exact (Nat.mul_one _).symm
  intro k p hk
  have hkl : k < M.length := by have := (List.getElem?_eq_some_iff.1 hk).1; simpa using this
  have hp : p = (((M.set i (M.getD j [])).set j (M.getD i []))[k]'(by simpa using hkl), k) := by
    rw [List.getElem?_zipIdx, List.getElem?_eq_getElem (by simpa using hkl)] at hk
    simp at hk
    exact hk.symm
  have old : ∀ m (hm : m < M.length) (x : Value), inner[m]? = some x → ∀ ok2 : Nat → Prop, (∀ b, (ok b ∧ some b ≠ (Value.slice (some ⟨g, 0, none⟩) M.length cap).ownBlock) ∧ f b = m → ok2 b) → (Kd.slice 3 (Kd.int .i64)).M ((w.setCell ⟨g, i, none⟩ v).setCell ⟨g, j, none⟩ u) base ok2 M[m] [x] := by
    intro m hm x hx ok2 hok2
    have h1 := hr.2 m (M[m], m) (by rw [List.getElem?_zipIdx, List.getElem?_eq_getElem hm]; simp)
    have h2 : (inner.drop (m * (Kd.tag f (Kd.slice 3 (Kd.int .i64))).sz)).take (Kd.tag f (Kd.slice 3 (Kd.int .i64))).sz = [x] := by
      show (inner.drop (m * 1)).take 1 = [x]
      rw [Nat.mul_one, take1_at hx]
    rw [h2] at h1
    have h3 : (Kd.slice 3 (Kd.int .i64)).M w base (fun b => (ok b ∧ some b ≠ (Value.slice (some ⟨g, 0, none⟩) M.length cap).ownBlock) ∧ f b = m) M[m] [x] := h1
    refine (Kd.slice 3 (Kd.int .i64)).M_mono hok2 ((Kd.slice 3 (Kd.int .i64)).M_move (fun b hb => far b (fun e => hb.1.2 (by rw [e]; rfl))) h3)
  have now : ∀ x, ((inner.set i v).set j u)[k]? = some x → (((inner.set i v).set j u).drop (k * 1)).take 1 = [x] := by
    intro x hx
    rw [Nat.mul_one, take1_at hx]
  show (Kd.slice 3 (Kd.int .i64)).M _ base (fun b => (ok b ∧ some b ≠ (Value.slice (some ⟨g, 0, none⟩) M.length cap).ownBlock) ∧ (if f b = i then j else if f b = j then i else f b) = p.2) p.1 ((((inner.set i v).set j u).drop (k * 1)).take 1)
  rw [hp]
  show (Kd.slice 3 (Kd.int .i64)).M _ base (fun b => (ok b ∧ some b ≠ (Value.slice (some ⟨g, 0, none⟩) M.length cap).ownBlock) ∧ (if f b = i then j else if f b = j then i else f b) = k) _ _
  by_cases ekj : k = j
  · subst ekj
    have e1 : ((inner.set i v).set k u)[k]? = some u := by rw [List.getElem?_set_self (by simp; omega)]
    rw [now u e1, List.getElem_set_self, List.getD_eq_getElem?_getD, List.getElem?_eq_getElem hi]
    exact old i hi u iu _ (fun b hb => ⟨hb.1, by rw [if_pos hb.2]⟩)
  · by_cases eki : k = i
    · subst eki
      have e1 : ((inner.set k v).set j u)[k]? = some v := by rw [List.getElem?_set_ne (fun e => ekj e.symm), List.getElem?_set_self (by omega)]
      rw [now v e1, List.getElem_set_ne (fun e => ekj e.symm), List.getElem_set_self, List.getD_eq_getElem?_getD, List.getElem?_eq_getElem hj]
      exact old j hj v iv _ (fun b hb => ⟨hb.1, by rw [if_neg (fun e => ekj (e.symm.trans hb.2)), if_pos hb.2]⟩)
    · have e1 : ((inner.set i v).set j u)[k]? = inner[k]? := by rw [List.getElem?_set_ne (fun e => ekj e.symm), List.getElem?_set_ne (fun e => eki e.symm)]
      rw [List.getElem?_eq_getElem (by omega : k < inner.length)] at e1
      rw [now _ e1, List.getElem_set_ne (fun e => ekj e.symm), List.getElem_set_ne (fun e => eki e.symm)]
      exact old k hkl _ (List.getElem?_eq_getElem (by omega)) _ (fun b hb => ⟨hb.1, by rw [if_neg (fun e => eki (hb.2.symm.trans e)), if_neg (fun e => ekj (hb.2.symm.trans e))]; exact hb.2⟩)
theorem cell_set_some {w : World} {p q : Addr} {x v : Value} (h : w.cell? q = some v) : ∃ v', (w.setCell p x).cell? q = some v' := cell?_setCell_some h
def impl_fill.T21 : Bool × List (List Nat × List Nat) := (true, [([], []), ([], []), ([], []), ([], []), ([], []), ([], []), ([4, 5], [4, 5]), ([6], [6]), ([], []), ([], []), ([8, 9], [8, 9]), ([10], [10]), ([0, 1, 0, 1, 4, 5, 6, 7, 11], [0, 1]), ([12, 7, 0, 1, 4, 5, 6, 7, 11], [7, 12]), ([2, 3, 0, 1, 2, 3, 4, 5, 6, 7, 8, 9, 10, 11, 12, 13], [2, 3]), ([14, 11, 13, 0, 1, 2, 3, 4, 5, 6, 7, 8, 9, 10, 11, 12, 13], [11, 14])])
def impl_fill.B21 : List Nat := [0, 0, 0, 0, 0, 0, 48, 112, 0, 0, 768, 1792, 4083, 8179, 16383, 32767]
theorem impl_fill.tab21 : rtab .any (opsOf Try.f40 21) = impl_fill.T21 := by kernel_rfl
theorem impl_fill.bits21 : waitsOk impl_fill.T21.2 impl_fill.B21 = true := by kernel_rfl
abbrev impl_fill.mk_0 : Array Bool := #[false, false, false, false, false, false, false, false, false, false, false, false, false, false, false, false, false, false]
abbrev impl_fill.mk_1 : Array Bool := #[true, false, false, false, false, false, false, false, false, false, false, false, false, false, false, false, false, false]
abbrev impl_fill.mk_2 : Array Bool := #[true, true, false, false, false, false, false, false, false, false, false, false, false, false, false, false, false, false]
abbrev impl_fill.mk_3 : Array Bool := #[true, true, true, false, false, false, false, false, false, false, false, false, false, false, false, false, false, false]
abbrev impl_fill.mk_4 : Array Bool := #[true, true, true, true, false, false, false, false, false, false, false, false, false, false, false, false, false, false]
abbrev impl_fill.mk_5 : Array Bool := #[true, true, true, true, true, false, false, false, false, false, false, false, false, false, false, false, false, false]
abbrev impl_fill.mk_6 : Array Bool := #[true, true, true, true, true, false, true, false, false, false, false, false, false, false, false, false, false, false]
abbrev impl_fill.mk_7 : Array Bool := #[true, true, true, true, true, false, true, true, false, false, false, false, false, false, false, false, false, false]
abbrev impl_fill.mk_8 : Array Bool := #[true, true, true, true, true, false, true, true, true, false, false, false, false, false, false, false, false, false]
abbrev impl_fill.mk_9 : Array Bool := #[true, true, true, true, true, false, true, true, true, true, false, false, false, false, false, false, false, false]
abbrev impl_fill.mk_10 : Array Bool := #[true, true, true, true, true, false, true, true, true, true, true, false, false, false, false, false, false, false]
abbrev impl_fill.mk_11 : Array Bool := #[true, true, true, true, true, false, true, true, true, true, true, true, false, false, false, false, false, false]
abbrev impl_fill.mk_12 : Array Bool := #[true, true, true, true, true, false, true, true, true, true, true, true, true, false, false, false, false, false]
abbrev impl_fill.mk_13 : Array Bool := #[true, true, true, true, true, true, true, true, true, true, true, true, true, false, false, false, false, false]
abbrev impl_fill.mk_14 : Array Bool := #[true, true, true, true, true, true, true, true, true, true, true, true, true, true, false, false, false, false]
abbrev impl_fill.mk_15 : Array Bool := #[true, true, true, true, true, true, true, true, true, true, true, true, true, true, true, false, false, false]
abbrev impl_fill.mk_16 : Array Bool := #[true, true, true, true, true, true, true, true, true, true, true, true, true, true, true, true, false, false]
abbrev impl_fill.mk_17 : Array Bool := #[true, true, true, true, true, true, true, true, true, true, true, true, true, true, true, true, true, false]
abbrev impl_fill.mk_18 : Array Bool := #[true, true, true, true, true, true, true, true, true, true, true, true, true, true, true, true, true, true]
abbrev impl_fill.mk_19 : Array Bool := #[false, false, false, false, false, false, false, false, false, false, false, false, false]
abbrev impl_fill.mk_20 : Array Bool := #[true, false, false, false, false, false, false, false, false, false, false, false, false]
abbrev impl_fill.mk_21 : Array Bool := #[true, true, false, false, false, false, false, false, false, false, false, false, false]
abbrev impl_fill.mk_22 : Array Bool := #[true, true, true, false, false, false, false, false, false, false, false, false, false]
abbrev impl_fill.mk_23 : Array Bool := #[true, true, true, true, false, false, false, false, false, false, false, false, false]
abbrev impl_fill.mk_24 : Array Bool := #[true, true, true, true, true, false, false, false, false, false, false, false, false]
abbrev impl_fill.mk_25 : Array Bool := #[true, true, true, true, true, false, true, false, false, false, false, false, false]
abbrev impl_fill.mk_26 : Array Bool := #[true, true, true, true, true, false, true, true, false, false, false, false, false]
abbrev impl_fill.mk_27 : Array Bool := #[true, true, true, true, true, true, true, true, false, false, false, false, false]
abbrev impl_fill.mk_28 : Array Bool := #[true, true, true, true, true, true, true, true, true, false, false, false, false]
abbrev impl_fill.mk_29 : Array Bool := #[true, true, true, true, true, true, true, true, true, true, false, false, false]
abbrev impl_fill.mk_30 : Array Bool := #[true, true, true, true, true, true, true, true, true, true, true, false, false]
abbrev impl_fill.mk_31 : Array Bool := #[true, true, true, true, true, true, true, true, true, true, true, true, false]
abbrev impl_fill.mk_32 : Array Bool := #[true, true, true, true, true, true, true, true, true, true, true, true, true]
abbrev impl_fill.mk_33 : Array Bool := #[false, false, false, false, false, false, false, false, false, false, false, false, false, false, false, false]
abbrev impl_fill.mk_34 : Array Bool := #[true, false, false, false, false, false, false, false, false, false, false, false, false, false, false, false]
abbrev impl_fill.mk_35 : Array Bool := #[true, true, false, false, false, false, false, false, false, false, false, false, false, false, false, false]
abbrev impl_fill.mk_36 : Array Bool := #[true, true, true, false, false, false, false, false, false, false, false, false, false, false, false, false]
abbrev impl_fill.mk_37 : Array Bool := #[true, true, true, true, false, false, false, false, false, false, false, false, false, false, false, false]
abbrev impl_fill.mk_38 : Array Bool := #[true, true, true, true, true, false, false, false, false, false, false, false, false, false, false, false]
abbrev impl_fill.mk_39 : Array Bool := #[true, true, true, true, true, true, false, false, false, false, false, false, false, false, false, false]
abbrev impl_fill.mk_40 : Array Bool := #[true, true, true, true, true, true, true, false, false, false, false, false, false, false, false, false]
abbrev impl_fill.mk_41 : Array Bool := #[true, true, true, true, true, true, true, true, false, false, false, false, false, false, false, false]
abbrev impl_fill.mk_42 : Array Bool := #[true, true, true, true, true, true, true, true, true, false, false, false, false, false, false, false]
abbrev impl_fill.mk_43 : Array Bool := #[true, true, true, true, true, true, true, true, true, true, false, false, false, false, false, false]
abbrev impl_fill.mk_44 : Array Bool := #[true, true, true, true, true, true, true, true, true, true, true, false, false, false, false, false]
abbrev impl_fill.mk_45 : Array Bool := #[true, true, true, true, true, true, true, true, true, true, true, true, false, false, false, false]
abbrev impl_fill.mk_46 : Array Bool := #[true, true, true, true, true, true, true, true, true, true, true, true, true, false, false, false]
abbrev impl_fill.mk_47 : Array Bool := #[true, true, true, true, true, true, true, true, true, true, true, true, true, true, false, false]
abbrev impl_fill.mk_48 : Array Bool := #[true, true, true, true, true, true, true, true, true, true, true, true, true, true, true, false]
abbrev impl_fill.mk_49 : Array Bool := #[true, true, true, true, true, true, true, true, true, true, true, true, true, true, true, true]
abbrev impl_fill.mk_50 : Array Bool := #[true, true, true, false, true, false, false, false, false, false, false, false, false, false, false, false]
abbrev impl_fill.mk_51 : Array Bool := #[true, true, true, false, true, true, false, false, false, false, false, false, false, false, false, false]
abbrev impl_fill.mk_52 : Array Bool := #[true, true, true, false, true, true, true, false, false, false, false, false, false, false, false, false]
abbrev impl_fill.mk_53 : Array Bool := #[true, true, true, false, true, true, true, true, false, false, false, false, false, false, false, false]
abbrev impl_fill.mk_54 : Array Bool := #[true, true, true, false, true, true, true, true, false, true, false, false, false, false, false, false]
abbrev impl_fill.mk_55 : Array Bool := #[true, true, true, false, true, true, true, true, false, true, false, false, true, false, false, false]
abbrev impl_fill.mk_56 : Array Bool := #[true, true, true, true, true, true, true, true, false, true, false, false, true, false, false, false]
abbrev impl_fill.mk_57 : Array Bool := #[true, true, true, true, true, true, true, true, true, true, false, false, true, false, false, false]
abbrev impl_fill.mk_58 : Array Bool := #[true, true, true, true, true, true, true, true, true, true, true, false, true, false, false, false]
abbrev impl_fill.mk_59 : Array Bool := #[false, false, false, false, false, false, false, false, false, false, false, false, false, false, false, false, false, false, false]
abbrev impl_fill.mk_60 : Array Bool := #[true, false, false, false, false, false, false, false, false, false, false, false, false, false, false, false, false, false, false]
abbrev impl_fill.mk_61 : Array Bool := #[true, true, false, false, false, false, false, false, false, false, false, false, false, false, false, false, false, false, false]
abbrev impl_fill.mk_62 : Array Bool := #[true, true, true, false, false, false, false, false, false, false, false, false, false, false, false, false, false, false, false]
abbrev impl_fill.mk_63 : Array Bool := #[true, true, true, false, true, false, false, false, false, false, false, false, false, false, false, false, false, false, false]
abbrev impl_fill.mk_64 : Array Bool := #[true, true, true, false, true, false, false, true, false, false, false, false, false, false, false, false, false, false, false]
abbrev impl_fill.mk_65 : Array Bool := #[true, true, true, false, true, false, false, true, true, false, false, false, false, false, false, false, false, false, false]
abbrev impl_fill.mk_66 : Array Bool := #[true, true, true, false, true, false, false, true, true, true, false, false, false, false, false, false, false, false, false]
abbrev impl_fill.mk_67 : Array Bool := #[true, true, true, false, true, false, false, true, true, true, true, false, false, false, false, false, false, false, false]
abbrev impl_fill.mk_68 : Array Bool := #[true, true, true, false, true, false, false, true, true, true, true, false, true, false, false, false, false, false, false]
abbrev impl_fill.mk_69 : Array Bool := #[true, true, true, true, true, false, false, true, true, true, true, false, true, false, false, false, false, false, false]
abbrev impl_fill.mk_70 : Array Bool := #[true, true, true, true, true, true, false, true, true, true, true, false, true, false, false, false, false, false, false]
abbrev impl_fill.mk_71 : Array Bool := #[true, true, true, true, true, true, true, true, true, true, true, false, true, false, false, false, false, false, false]
abbrev impl_fill.mk_72 : Array Bool := #[true, true, true, true, true, true, true, true, true, true, true, true, true, false, false, false, false, false, false]
abbrev impl_fill.mk_73 : Array Bool := #[true, true, true, true, true, true, true, true, true, true, true, true, true, true, false, false, false, false, false]
abbrev impl_fill.mk_74 : Array Bool := #[true, true, true, true, true, true, true, true, true, true, true, true, true, true, true, false, false, false, false]
abbrev impl_fill.mk_75 : Array Bool := #[true, true, true, true, true, true, true, true, true, true, true, true, true, true, true, true, false, false, false]
abbrev impl_fill.mk_76 : Array Bool := #[true, true, true, true, true, true, true, true, true, true, true, true, true, true, true, true, true, false, false]
abbrev impl_fill.mk_77 : Array Bool := #[true, true, true, true, true, true, true, true, true, true, true, true, true, true, true, true, true, true, false]
abbrev impl_fill.mk_78 : Array Bool := #[true, true, true, true, true, true, true, true, true, true, true, true, true, true, true, true, true, true, true]
abbrev impl_fill.mk_79 : Array Bool := #[false, false, false, false, false, false, false, false, false, false, false, false, false, false, false]
abbrev impl_fill.mk_80 : Array Bool := #[true, false, false, false, false, false, false, false, false, false, false, false, false, false, false]
abbrev impl_fill.mk_81 : Array Bool := #[true, true, false, false, false, false, false, false, false, false, false, false, false, false, false]
abbrev impl_fill.mk_82 : Array Bool := #[true, true, true, false, false, false, false, false, false, false, false, false, false, false, false]
abbrev impl_fill.mk_83 : Array Bool := #[true, true, true, false, true, false, false, false, false, false, false, false, false, false, false]
abbrev impl_fill.mk_84 : Array Bool := #[true, true, true, false, true, true, false, false, false, false, false, false, false, false, false]
abbrev impl_fill.mk_85 : Array Bool := #[true, true, true, false, true, true, true, false, false, false, false, false, false, false, false]
abbrev impl_fill.mk_86 : Array Bool := #[true, true, true, false, true, true, true, false, true, false, false, false, false, false, false]
abbrev impl_fill.mk_87 : Array Bool := #[true, true, true, true, true, true, true, false, true, false, false, false, false, false, false]
abbrev impl_fill.mk_88 : Array Bool := #[true, true, true, true, true, true, true, true, true, false, false, false, false, false, false]
abbrev impl_fill.mk_89 : Array Bool := #[true, true, true, true, true, true, true, true, true, true, false, false, false, false, false]
abbrev impl_fill.mk_90 : Array Bool := #[true, true, true, true, true, true, true, true, true, true, true, false, false, false, false]
abbrev impl_fill.mk_91 : Array Bool := #[true, true, true, true, true, true, true, true, true, true, true, true, false, false, false]
abbrev impl_fill.mk_92 : Array Bool := #[true, true, true, true, true, true, true, true, true, true, true, true, true, false, false]
abbrev impl_fill.mk_93 : Array Bool := #[true, true, true, true, true, true, true, true, true, true, true, true, true, true, false]
abbrev impl_fill.mk_94 : Array Bool := #[true, true, true, true, true, true, true, true, true, true, true, true, true, true, true]
set_option maxHeartbeats 8000000 in
set_option maxRecDepth 100000 in
theorem impl_fill.calls (k : Nat) (A0 : Option Addr) (c0 : Nat) (l0 : List Int) (A1 : Option Addr) (c1 : Nat) (l1 : List Int) (a2 : Int) (r1 : List Int) (r2 : Bool) (w : World) (hr0 : Kd.C (Kd.int .u8) w A0 l0.length l0) (hc0 : l0.length ≤ c0) (hr1 : Kd.C (Kd.int .i64) w A1 l1.length l1) (hc1 : l1.length ≤ c1) (h : impl_fill.f k l0 l1 a2 = some (r1, r2)) :
  Calls Try.prog 40 #[.slice A0 l0.length c0, .slice A1 l1.length c1, .int .i64 a2] w fun e w' => ∃ v0_ : Value, e = .returned (.tuple #[v0_, .bool r2]) ∧ Kd.R (Kd.int .u8) 5 w' w.heap.size (fun _ => True) v0_ r1 ∧ Below w.heap.size w w' := by
 have HR0 := Aside0.mk hr0
 have HC0 := Aside0.mk hc0
 clear hr0 hc0
 have HR1 := Aside0.mk hr1
 have HC1 := Aside0.mk hc1
 clear hr1 hc1
 have HB := Aside0.mk (Below.refl w.heap.size w)
 have H : (if 0 ≤ (wrap64 (2 * a2)) then (if (wrap64 (2 * a2) : Int).toNat ≤ 11728124029610 then ((some (List.replicate (wrap64 (2 * a2) : Int).toNat [] : List (List Int))).bind fun y174 => (impl_fill.l0 k l0 l1 (l1.length : Int) y174 (y174.length : Int) 0)) else (none)) else (none)) = some (r1, r2) := h
 clear h
 obtain ⟨ji4, hji4⟩ : ∃ j_ : Int, (wrap64 (2 * a2)) = j_ := ⟨_, rfl⟩
 replace H : (if 0 ≤ (ji4) then (if (ji4 : Int).toNat ≤ 11728124029610 then ((some (List.replicate (ji4 : Int).toNat [] : List (List Int))).bind fun y174 => (impl_fill.l0 k l0 l1 (l1.length : Int) y174 (y174.length : Int) 0)) else (none)) else (none)) = some (r1, r2) := by first | (rw [hji4] at H; exact H) | (simp only [hji4] at H ⊢; exact H)
 have hji4w : (IntKind.i64.wrap (2 * a2)) = ji4 := (i64_w _).trans hji4
 replace H := zg H
 obtain ⟨c5, H⟩ := H
 have c5b0 := eq_true c5
 have c5b1 : decide (0 ≤ (ji4)) = true := decide_eq_true c5
 clear c5
 replace H := zg H
 obtain ⟨c6, H⟩ := H
 have c6b0 := eq_true c6
 have c6b1 : decide ((ji4 : Int).toNat ≤ 11728124029610) = true := decide_eq_true c6
 clear c6
 replace H := zb H
 obtain ⟨y174, Ny174, H⟩ := H
 have H' := Aside0.mk H
 clear H
 go_enter Try.func40, Try.ntmps40
 go_wp2_with (first | ((with_reducible refine gate_dst (N := 29) rfl ?_); refine Kd.S_make (Kd.slice 3 (Kd.int .i64)) _ 24 rfl (N := 29) rfl 60 _ _ rfl ji4 rfl rfl Try.underlying60 (.slice none 0 0) 24 info24 rfl (by decide) (by omega) [] (ok := fun _ => True) (okp := fun _ => True) ⟨_, rfl, Kd.R_nil _ _ _ _ _⟩ (fun _ hk => hk) trivial zD (Nat.le_trans (Nat.mul_le_mul_right _ (zD : ji4.toNat ≤ 11728124029610)) (by omega)) (Below.refl _ _) (Nat.le_refl _) ?_; intro v175 w7 ho8 hb hg_ hnew_; clear hg_ hnew_; (first | rw [← Ny174.out] at ho8 | (simp only [Int.reduceToNat] at ho8; rw [← Ny174.out] at ho8)); have n0_ := Aside0.mk (Kd.S_lower ho8 (below_size zB)); have n1_ := Aside0.mk (below_step zB hb); clear HB; have HO176 := n0_; have HB := n1_; clear n0_ n1_; clear hb ho8; obtain ⟨Ao9, co9, eo9⟩ := Kd.S_slice HO176.out; subst eo9))
 go_loopg [32] k (fun kq v32 w' => ∃ (x9_1 : List (List Int)) (x32_1 : Int), v32 = .int .i64 x32_1 ∧ Aside0 (impl_fill.l0 kq l0 l1 (l1.length : Int) x9_1 (y174.length : Int) x32_1 = some (r1, r2)) ∧ Aside0 (kq ≤ k) ∧ Aside0 (Kd.S (Kd.slice 3 (Kd.int .i64)) 24 w' w.heap.size (fun _ => True) (.slice Ao9 y174.length co9) x9_1) ∧ Aside0 (Below w.heap.size w w'))
 case atStart => exact ⟨(y174), (0), zO, H', ⟨Nat.le_refl _⟩, ⟨zS HO176.out⟩, ⟨zB⟩⟩
 case round => as_aux_lemma =>
 clear H'
 try clear c1
 try clear p2
 try clear c4
 try clear c5
 try clear c5b0
 try clear c5b1
 try clear c6
 try clear c6b0
 try clear c6b1
 try clear p6
 obtain ⟨x9_1, x32_1, rfl, HA, HK1, HO_9, HB⟩ := hrel
 have hl9_1 := (Kd.S_reads' HO_9.out).1
 rw [hl9_1] at HO_9
 (try simp only [hl9_1])
 cases gk with
 | zero => exact absurd HA.out (by simp [impl_fill.l0])
 | succ k1 =>
 have H := HA.out
 clear HA
 simp only [impl_fill.l0] at H
 by_cases c10 : x32_1 < (y174.length : Int)
 ·rw [if_pos c10] at H
  have c10b0 := decide_eq_true c10
  try rw [hl9_1] at c10b0
  clear c10
  have H' := Aside0.mk H
  clear H
  go_wp2
  go_loopg [37] k1 (fun kq v37 w' => ∃ (x9_2 : List (List Int)) (x37_2 : Int), v37 = .int .i64 x37_2 ∧ Aside0 (impl_fill.l1 kq l0 l1 (l1.length : Int) x9_2 x32_1 (y174.length : Int) x32_1 l1 (l1.length : Int) x37_2 = some (r1, r2)) ∧ Aside0 (kq ≤ k1) ∧ Aside0 (Kd.S (Kd.slice 3 (Kd.int .i64)) 24 w' w.heap.size (fun _ => True) (.slice Ao9 x9_1.length co9) x9_2) ∧ Aside0 (Below w.heap.size w w'))
  case atStart => exact ⟨(x9_1), (0), zO, H', ⟨Nat.le_refl _⟩, ⟨by (try simp only [hl9_1]); (with_reducible repeat (first | apply Kd.S_alloc | apply Kd.S_drewN | apply Kd.S_drew)); exact HO_9.out⟩, ⟨zB⟩⟩
  case round => as_aux_lemma =>
  clear H'
  try clear c1
  try clear p2
  try clear c4
  try clear c5
  try clear c5b0
  try clear c5b1
  try clear c6
  try clear c6b0
  try clear c6b1
  try clear p6
  try clear c10
  try clear c10b0
  try clear p2
  try clear p6
  obtain ⟨x9_2, x37_2, rfl, HA, HK2, HO_9, HB⟩ := hrel
  have hl9_2 := (Kd.S_reads' HO_9.out).1
  rw [hl9_2] at HO_9
  (try simp only [hl9_2])
  cases gk with
  | zero => exact absurd HA.out (by simp [impl_fill.l1])
  | succ k2 =>
  have H := HA.out
  clear HA
  simp only [impl_fill.l1] at H
  by_cases c11 : x37_2 < (l1.length : Int)
  rotate_left
  ·rw [if_neg c11] at H
   have c11b0 := decide_eq_false c11
   clear c11
   replace H := zg H
   obtain ⟨c25, H⟩ := H
   have c25b0 : decide (0 ≤ x32_1) = true := decide_eq_true c25
   clear c25
   replace H := zg H
   obtain ⟨c26, H⟩ := H
   have c26b0 : decide (x32_1 < (x9_2.length : Int)) = true := decide_eq_true c26
   clear c26
   replace H := zi H
   obtain ⟨t185, A27, H⟩ := H
   replace H := zg H
   obtain ⟨c28, H⟩ := H
   have LMc28 := Aside0.mk c28
   clear c28
   obtain ⟨y186, hy186⟩ : ∃ y_ : List Int, y_ = ((rd_L2 x9_2 x32_1) ++ [t185]) := ⟨_, rfl⟩
   replace H : (impl_fill.l0 k2 l0 l1 (l1.length : Int) (x9_2.set (x32_1 : Int).toNat y186) (y174.length : Int) (wrap64 (x32_1 + 1))) = some (r1, r2) := by first | (rw [hy186]; with_reducible exact H) | (have H2_ := (Option.bind_some _ _).symm.trans H; rw [hy186]; with_reducible exact H2_) | (have H2_ := (Option.bind_some _ _).symm.trans H; with_reducible exact H2_) | with_reducible exact H | (rw [hy186]; exact H) | exact H
   have Ny186 := Aside0.mk hy186
   clear hy186
   obtain ⟨y189, hy189⟩ : ∃ y_ : List (List Int), y_ = (x9_2.set (x32_1 : Int).toNat y186) := ⟨_, rfl⟩
   replace H : (impl_fill.l0 k2 l0 l1 (l1.length : Int) y189 (y174.length : Int) (wrap64 (x32_1 + 1))) = some (r1, r2) := by first | (rw [hy189]; with_reducible exact H) | (have H2_ := (Option.bind_some _ _).symm.trans H; rw [hy189]; with_reducible exact H2_) | (have H2_ := (Option.bind_some _ _).symm.trans H; with_reducible exact H2_) | with_reducible exact H | (rw [hy189]; exact H) | exact H
   have Ny189 := Aside0.mk hy189
   clear hy189
   have H' := Aside0.mk H
   clear H
   try go_wp2
   have n0_ := Aside0.mk (Kd.S_drew HO_9.out)
   have n1_ := Aside0.mk (below_drew1 HB.out)
   clear HO_9
   clear HB
   have HO_9 := n0_
   have HB := n1_
   clear n0_ n1_
   have p184 : 0 ≤ (x32_1 : Int) := zD
   have q184 : x32_1 < (x9_2.length : Int) := zD
   obtain ⟨ad184, A184_0, c184_0, e184, hx184_0, hl184_0, hi184_0⟩ := at_L2 (Kd.S_reads' HO_9.out).2.2 x32_1 p184 q184
   cases e184
   obtain ⟨ce184, hce184, hMe184, hcc184⟩ := Kd.S_get HO_9.out [] x32_1 p184 (by first | exact q184 | exact zD | (have e_ := (Kd.S_reads' HO_9.out).1; omega))
   obtain ⟨ve184_0, rfl, ge184_0⟩ := hMe184
   have hv184_0 := hcc184 0 _ rfl
   rw [Nat.add_zero, show ((Kd.slice 3 (Kd.int .i64))).sz = 1 from rfl, Nat.mul_one] at hv184_0
   replace hv184_0 := Option.some.inj (hv184_0.symm.trans hx184_0)
   rw [hv184_0] at ge184_0
   have HL184_0 := Aside0.mk (show Kd.R (Kd.int .i64) 3 _ _ _ _ (rd_L2 x9_2 x32_1) from ge184_0)
   clear hv184_0 ge184_0
   have HX184_0 := Aside0.mk hx184_0
   clear hcc184 hce184
   have HR184_0 := Aside0.mk hi184_0
   have HC184_0 := Aside0.mk hl184_0
   clear hi184_0 hl184_0
   replace p184 := eq_true p184
   replace q184 := eq_true q184
   refine start_ (n := 13) (S := fun w' => w'.cell? (ad184.add (x32_1).toNat) = some (.slice A184_0 (rd_L2 x9_2 x32_1).length c184_0)) (ds := [12]) impl_fill.mk_19 (by kernel_rfl) rfl rfl (hx184_0) (fun hHeld => ?_); refine with_tabW impl_fill.tab11 impl_fill.bits11 (fun HT_ HW_ => ?_)
   generalize wr.drew = w30 at HO_9 HB HL184_0 HR184_0 HX184_0 hx184_0 hHeld ⊢
   refine zP 0 59 impl_fill.mk_20 ?_
   refine zP 1 60 impl_fill.mk_21 ?_
   refine zP 2 61 impl_fill.mk_22 ?_
   refine zP 3 62 impl_fill.mk_23 ?_
   refine zP 4 63 impl_fill.mk_24 ?_
   refine zP 6 65 impl_fill.mk_25 ?_
   refine zP 7 66 impl_fill.mk_26 ?_
   refine zT1 5 64 impl_fill.mk_27 ?_
   refine one_ (i := 8) (N := some 67) impl_fill.mk_28 rfl rfl (one_of HT_.out (by kernel_rfl)) (by decide) (fun K hK => ?_)
   refine goes_ Try.func38 (by kernel_rfl) rfl #[.slice A0 l0.length c0, .int .i64 x32_1] (by rfl) rfl rfl zL ?_
   with_reducible refine (impl_value.calls k2 _ _ l0 x32_1 t185 _ ?side1 ?side2 A27.out).mono ?_
   (case side1 => exact zC (Kd.C_below HR0.out HB.out))
   (case side2 => exact HC0.out)
   rintro e w' ⟨rfl, ⟨nd, rfl⟩⟩
   refine ⟨_, rfl, ?_⟩
   obtain ⟨go31, co31, eo31, gb31, gl31, cl31, HG31⟩ := Kd.S_form HO_9.out (by have h_ : (x32_1 : Int) < ((x9_2.length : Int) : Int) := zD; have h2_ : 0 ≤ (x32_1 : Int) := zD; omega)
   (first | cases eo31 | (injection eo31 with ea_ en_ ec_; (first | subst ea_ | (injection ea_ with ea_; subst ea_)); subst ec_; clear en_))
   have GB31 := Aside0.mk gb31
   have GG31 := Aside0.mk HG31
   clear gb31 gl31 HG31
   (first | simp only [add_plain] at hx184_0 | skip)
   obtain ⟨oki31, ce31, hcl31, hM31, hcc31, _, _, hH31⟩ := Kd.S_elem HO_9.out [] (x32_1 : Int) zD (by have h_ : (x32_1 : Int) < ((x9_2.length : Int) : Int) := zD; first | exact h_ | (have e_ := (Kd.S_reads' HO_9.out).1; omega) | simpa using h_)
   obtain ⟨ve31_0, rfl, ge31_0⟩ := hM31
   have hv31 := hcc31 0 _ rfl
   have hX31 := HX184_0.out
   (try simp only [add_plain] at hX31)
   (try simp only [Nat.add_zero] at hv31)
   (try rw [show ((Kd.slice 3 (Kd.int .i64))).sz = 1 from rfl, Nat.mul_one] at hv31)
   replace hv31 := Option.some.inj (hv31.symm.trans hX31)
   subst hv31
   clear hX31 hcc31 hcl31
   have UU31 := Aside0.mk (show Kd.R (Kd.int .i64) 3 _ w.heap.size oki31 (.slice A184_0 (rd_L2 x9_2 x32_1).length c184_0) (rd_L2 x9_2 x32_1) from ge31_0)
   have HH31 := Aside0.mk hH31
   have HN31 := Aside0.mk (Kd.S_reads' HO_9.out).1
   clear hH31 ge31_0
   refine hK.out _ _ (hHeld) (fun hHeld => ?_)
   clear hK K
   refine norm_ (a' := ?_) ?_ ?_
   rotate_left
   ·show Act.put _ (some 67) _ = _
    simp only [Act.put, List.setIfInBounds_toArray, List.set_cons_zero, List.set_cons_succ, i64_w, i32_w]
    rfl
   refine one_ (i := 9) (N := some 68) impl_fill.mk_29 rfl rfl (one_of HT_.out (by kernel_rfl)) (by decide) (fun K hK => ?_)
   refine value_ (w1 := ?_) (v := ?_) (by rfl) rfl ?_ ?_
   rotate_left 2
   ·go_simp
    constructor
    ·rfl
    rfl
   refine hK.out _ _ ((World.cell?_alloc_lt _ _ _ (World.block_lt_of_cell? _ _ (hHeld))).trans (hHeld)) (fun hHeld => ?_)
   clear hK K
   refine norm_ (a' := ?_) ?_ ?_
   rotate_left
   ·show Act.put _ (some 68) _ = _
    simp only [Act.put, List.setIfInBounds_toArray, List.set_cons_zero, List.set_cons_succ, i64_w, i32_w]
    rfl
   refine one_ (i := 10) (N := some 69) impl_fill.mk_30 rfl rfl (one_of HT_.out (by kernel_rfl)) (by decide) (fun K hK => ?_)
   refine Kd.R_append_step (Kd.int .i64) (w0 := w) w.heap.size (by rfl) (.tmp 64) (.tmp 68) 24 3 (.int .i64 0) 8 rfl Try.underlying24 info3 rfl (by decide) (by omega) (.slice A184_0 (rd_L2 x9_2 x32_1).length c184_0) (rd_L2 x9_2 x32_1) t185 [.int .i64 t185] (fun k_ => oki31 k_ ∨ ((fun _ => True)) k_ ∧ w30.heap.size ≤ k_) (fun _ => False) rfl rfl ?aP (fun _ hk => hk.elim) ?aF ?aO ?aB ?aS ?aL ?_
   (case aP => exact rfl)
   (case aB => exact zB)
   (case aF => exact (fun k_ hk => .inr ⟨trivial, hk⟩))
   (case aO => exact (by (with_reducible repeat (first | apply Kd.R_alloc | apply Kd.R_drewN | apply Kd.R_drew)); exact Kd.R_mono UU31.out (fun _ hk => .inl hk)))
   (case aS => exact (below_size zB))
   (case aL => have := LMc28.out; omega)
   intro v187 w32 ho hb hg hat
   (first | have HS0_ := cell_grown hg (hHeld) (by first | (rw [add_block]; exact (fun e_ => ((HL184_0.out.1 _ e_.symm).2) rfl)) | (show some (Addr.add _ _).block ≠ _; rw [add_block]; exact (fun e_ => ((HL184_0.out.1 _ e_.symm).2) rfl)) | exact (fun e_ => ((HL184_0.out.1 _ e_.symm).2) rfl)) | have HS0_ := cell_grown hg (cell_unalloc (hHeld) (by first | (rw [add_block]; exact Kd.S_lt HO_9.out _ rfl) | (show (Addr.add _ _).block < _; rw [add_block]; exact Kd.S_lt HO_9.out _ rfl) | exact Kd.S_lt HO_9.out _ rfl)) (by first | (rw [add_block]; exact (fun e_ => ((HL184_0.out.1 _ e_.symm).2) rfl)) | (show some (Addr.add _ _).block ≠ _; rw [add_block]; exact (fun e_ => ((HL184_0.out.1 _ e_.symm).2) rfl)) | exact (fun e_ => ((HL184_0.out.1 _ e_.symm).2) rfl)))
   rw [← Ny186.out] at ho
   have n0_ := Aside0.mk (hb)
   have n1_ := Aside0.mk (Kd.H_grown (Kd.H_widen (by repeat (first | exact HH31.out | refine Kd.H_alloc ?_ _ | refine Kd.H_drewN ?_ _ | refine Kd.H_drew ?_))) hg (fun k_ e_ => .inl (UU31.out.1 k_ e_)))
   have n2_ := Aside0.mk (ho)
   clear HB
   clear HH31
   clear HO_9
   clear UU31
   clear HL184_0
   have HB := n0_
   have HH31 := n1_
   have HO188 := n2_
   clear n0_ n1_ n2_
   clear ho hb hg hat
   have p29 : 0 ≤ (x32_1 : Int) := zD
   have q29 : (x32_1 : Int) < ((x9_2.length : Int) : Int) := zD
   replace p29 := eq_true p29
   replace q29 := eq_true q29
   obtain ⟨Ao35, co35, eo35⟩ := Kd.R_slice HO188.out
   (first | subst eo35 | (injection eo35 with f1_ f2_ f3_; have f4_ := f1_.symm; have f5_ := f3_.symm; clear f1_ f2_ f3_; subst f4_; subst f5_))
   obtain ⟨_, _, hraw33, _, _, hcc33, _⟩ := Kd.H_raw HH31.out zD (by have h_ : (x32_1 : Int) < ((x9_2.length : Int) : Int) := zD; first | exact h_ | (have e_ := (HN31.out); omega) | simpa using h_)
   obtain ⟨_, hfr33⟩ := Kd.H_at HH31.out zD (by have h_ : (x32_1 : Int) < ((x9_2.length : Int) : Int) := zD; first | exact h_ | (have e_ := (HN31.out); omega) | simpa using h_)
   have hx33_0 := hcc33 0 _ rfl
   have hf33_0 := hfr33 0
   (try simp only [Nat.add_zero] at hx33_0 hf33_0)
   (try rw [show ((Kd.slice 3 (Kd.int .i64))).sz = 1 from rfl, Nat.mul_one] at hx33_0)
   (try rw [show ((Kd.slice 3 (Kd.int .i64))).sz = 1 from rfl, Nat.mul_one] at hf33_0)
   have HP33 := Kd.S_seg0 HH31.out zD (by have h_ : (x32_1 : Int) < ((x9_2.length : Int) : Int) := zD; first | exact h_ | (have e_ := (HN31.out); omega) | simpa using h_) (seg := [.slice Ao35 y186.length co35]) (j := 0) (show 1 ≤ 1 from by decide) (x' := y186) (Kd.M_row HO188.out) (fun _ hk => hk)
   (try simp only [show ((Kd.slice 3 (Kd.int .i64))).sz = 1 from rfl, Nat.mul_one, Nat.add_zero] at HP33)
   clear hcc33 hfr33
   have HS33 := HP33.1
   rw [← Ny189.out] at HS33
   have HQ33 := Aside0.mk HS33
   obtain ⟨_, hgg33⟩ := Kd.R_typed hraw33 go31 rfl
   have GG33_ := Aside0.mk hgg33
   clear HP33 HS33 hgg33
   refine hK.out _ _ (HS0_) (fun hHeld => ?_)
   clear hK K
   refine norm_ (a' := ?_) ?_ ?_
   rotate_left
   ·show Act.put _ (some 69) _ = _
    simp only [Act.put, List.setIfInBounds_toArray, List.set_cons_zero, List.set_cons_succ, i64_w, i32_w]
    rfl
   refine zP 11 70 impl_fill.mk_31 ?_
   refine last_ (i := 12) (N := none) impl_fill.mk_32 rfl rfl (one_of HT_.out (by kernel_rfl)) (by decide) (fun K hK => ?_)
   refine skip_ (w1 := ?_) (by rfl) rfl ?_ ?_
   rotate_left
   ·go_simp
    rfl
   refine hK.out _ _ ?_
   clear hK K
   refine done_ (done_of HT_.out (by kernel_rfl)) ?_
   try go_wp2
   (try simp only [← hl9_1, ← hl9_2])
   go_roundg k2
   case measure => have := HK1.out; have := HK2.out; omega
   case rel => exact ⟨(y189), (wrap64 (x32_1 + 1)), zO, H', ⟨by have := HK1.out; have := HK2.out; omega⟩, ⟨by (try simp only [hl9_1]); (try simp only [hl9_2]); (with_reducible repeat (first | apply Kd.S_alloc | apply Kd.S_drewN | apply Kd.S_drew)); exact HQ33.out⟩, ⟨by repeat (first | (with_reducible first | exact HB.out | apply below_alloc | apply pw_below_drewN | apply below_drew1 | refine below_set ?_ GB31.out) | exact HB.out)⟩⟩
  rw [if_pos c11] at H
  have c11b0 := decide_eq_true c11
  clear c11
  replace H := zg H
  obtain ⟨c12, H⟩ := H
  have c12b0 : decide (0 ≤ x37_2) = true := decide_eq_true c12
  clear c12
  replace H := zg H
  obtain ⟨c13, H⟩ := H
  have c13b0 : decide (x37_2 < (l1.length : Int)) = true := decide_eq_true c13
  clear c13
  replace H := zg H
  obtain ⟨c14, H⟩ := H
  have c14b0 : decide (0 ≤ x32_1) = true := decide_eq_true c14
  clear c14
  replace H := zg H
  obtain ⟨c15, H⟩ := H
  have c15b0 : decide (x32_1 < (x9_2.length : Int)) = true := decide_eq_true c15
  clear c15
  replace H := zi H
  obtain ⟨t179, A16, H⟩ := H
  replace H := zg H
  obtain ⟨c17, H⟩ := H
  have LMc17 := Aside0.mk c17
  clear c17
  obtain ⟨y180, hy180⟩ : ∃ y_ : List Int, y_ = ((rd_L2 x9_2 x32_1) ++ [t179]) := ⟨_, rfl⟩
  replace H : (impl_fill.l1 k2 l0 l1 (l1.length : Int) (x9_2.set (x32_1 : Int).toNat y180) x32_1 (y174.length : Int) x32_1 l1 (l1.length : Int) (wrap64 (x37_2 + 1))) = some (r1, r2) := by first | (rw [hy180]; with_reducible exact H) | (have H2_ := (Option.bind_some _ _).symm.trans H; rw [hy180]; with_reducible exact H2_) | (have H2_ := (Option.bind_some _ _).symm.trans H; with_reducible exact H2_) | with_reducible exact H | (rw [hy180]; exact H) | exact H
  have Ny180 := Aside0.mk hy180
  clear hy180
  obtain ⟨y183, hy183⟩ : ∃ y_ : List (List Int), y_ = (x9_2.set (x32_1 : Int).toNat y180) := ⟨_, rfl⟩
  replace H : (impl_fill.l1 k2 l0 l1 (l1.length : Int) y183 x32_1 (y174.length : Int) x32_1 l1 (l1.length : Int) (wrap64 (x37_2 + 1))) = some (r1, r2) := by first | (rw [hy183]; with_reducible exact H) | (have H2_ := (Option.bind_some _ _).symm.trans H; rw [hy183]; with_reducible exact H2_) | (have H2_ := (Option.bind_some _ _).symm.trans H; with_reducible exact H2_) | with_reducible exact H | (rw [hy183]; exact H) | exact H
  have Ny183 := Aside0.mk hy183
  clear hy183
  have H' := Aside0.mk H
  clear H
  have p177 : 0 ≤ (x37_2 : Int) := zD
  have q177 : x37_2 < (l1.length : Int) := zD
  obtain ⟨ad177, e177, hx177_0⟩ := Kd.at_int HR1.out x37_2 p177 q177
  cases e177
  (first | (replace hx177_0 := (HB.out.cell (World.block_lt_of_cell? w _ hx177_0)).trans hx177_0) | skip)
  replace p177 := eq_true p177
  replace q177 := eq_true q177
  try go_wp2
  have n0_ := Aside0.mk (Kd.S_drew HO_9.out)
  have n1_ := Aside0.mk (below_drew1 HB.out)
  clear HO_9
  clear HB
  have HO_9 := n0_
  have HB := n1_
  clear n0_ n1_
  have p178 : 0 ≤ (x32_1 : Int) := zD
  have q178 : x32_1 < (x9_2.length : Int) := zD
  obtain ⟨ad178, A178_0, c178_0, e178, hx178_0, hl178_0, hi178_0⟩ := at_L2 (Kd.S_reads' HO_9.out).2.2 x32_1 p178 q178
  cases e178
  obtain ⟨ce178, hce178, hMe178, hcc178⟩ := Kd.S_get HO_9.out [] x32_1 p178 (by first | exact q178 | exact zD | (have e_ := (Kd.S_reads' HO_9.out).1; omega))
  obtain ⟨ve178_0, rfl, ge178_0⟩ := hMe178
  have hv178_0 := hcc178 0 _ rfl
  rw [Nat.add_zero, show ((Kd.slice 3 (Kd.int .i64))).sz = 1 from rfl, Nat.mul_one] at hv178_0
  replace hv178_0 := Option.some.inj (hv178_0.symm.trans hx178_0)
  rw [hv178_0] at ge178_0
  have HL178_0 := Aside0.mk (show Kd.R (Kd.int .i64) 3 _ _ _ _ (rd_L2 x9_2 x32_1) from ge178_0)
  clear hv178_0 ge178_0
  have HX178_0 := Aside0.mk hx178_0
  clear hcc178 hce178
  have HR178_0 := Aside0.mk hi178_0
  have HC178_0 := Aside0.mk hl178_0
  clear hi178_0 hl178_0
  replace p178 := eq_true p178
  replace q178 := eq_true q178
  refine start_ (n := 18) (S := fun w' => w'.cell? (ad178.add (x32_1).toNat) = some (.slice A178_0 (rd_L2 x9_2 x32_1).length c178_0)) (ds := [17]) impl_fill.mk_0 (by kernel_rfl) rfl rfl (hx178_0) (fun hHeld => ?_); refine with_tabW impl_fill.tab9 impl_fill.bits9 (fun HT_ HW_ => ?_)
  generalize wr.drew = w19 at HO_9 HB HL178_0 HR178_0 HX178_0 hx178_0 hHeld ⊢
  refine zP 0 41 impl_fill.mk_1 ?_
  refine zP 1 42 impl_fill.mk_2 ?_
  refine zP 2 43 impl_fill.mk_3 ?_
  refine zP 3 44 impl_fill.mk_4 ?_
  refine zP 4 45 impl_fill.mk_5 ?_
  refine zP 6 47 impl_fill.mk_6 ?_
  refine zP 7 48 impl_fill.mk_7 ?_
  refine zP 8 49 impl_fill.mk_8 ?_
  refine zP 9 50 impl_fill.mk_9 ?_
  refine zP 10 51 impl_fill.mk_10 ?_
  refine zP 11 52 impl_fill.mk_11 ?_
  refine zP 12 53 impl_fill.mk_12 ?_
  refine zT1 5 46 impl_fill.mk_13 ?_
  refine one_ (i := 13) (N := some 54) impl_fill.mk_14 rfl rfl (one_of HT_.out (by kernel_rfl)) (by decide) (fun K hK => ?_)
  refine goes_ Try.func33 (by kernel_rfl) rfl #[.int .i64 (wrap64 ((wrap64 ((wrap64 ((l0.length : Int) - 1)) - (rd l1 x37_2))) * x32_1))] (by rfl) rfl rfl zL ?_
  with_reducible refine (impl_gfPow.calls k2 (wrap64 ((wrap64 ((wrap64 ((l0.length : Int) - 1)) - (rd l1 x37_2))) * x32_1)) t179 _ A16.out).mono ?_
  rintro e w' ⟨rfl, ⟨nd, rfl⟩⟩
  refine ⟨_, rfl, ?_⟩
  obtain ⟨go20, co20, eo20, gb20, gl20, cl20, HG20⟩ := Kd.S_form HO_9.out (by have h_ : (x32_1 : Int) < ((x9_2.length : Int) : Int) := zD; have h2_ : 0 ≤ (x32_1 : Int) := zD; omega)
  (first | cases eo20 | (injection eo20 with ea_ en_ ec_; (first | subst ea_ | (injection ea_ with ea_; subst ea_)); subst ec_; clear en_))
  have GB20 := Aside0.mk gb20
  have GG20 := Aside0.mk HG20
  clear gb20 gl20 HG20
  (first | simp only [add_plain] at hx178_0 | skip)
  obtain ⟨oki20, ce20, hcl20, hM20, hcc20, _, _, hH20⟩ := Kd.S_elem HO_9.out [] (x32_1 : Int) zD (by have h_ : (x32_1 : Int) < ((x9_2.length : Int) : Int) := zD; first | exact h_ | (have e_ := (Kd.S_reads' HO_9.out).1; omega) | simpa using h_)
  obtain ⟨ve20_0, rfl, ge20_0⟩ := hM20
  have hv20 := hcc20 0 _ rfl
  have hX20 := HX178_0.out
  (try simp only [add_plain] at hX20)
  (try simp only [Nat.add_zero] at hv20)
  (try rw [show ((Kd.slice 3 (Kd.int .i64))).sz = 1 from rfl, Nat.mul_one] at hv20)
  replace hv20 := Option.some.inj (hv20.symm.trans hX20)
  subst hv20
  clear hX20 hcc20 hcl20
  have UU20 := Aside0.mk (show Kd.R (Kd.int .i64) 3 _ w.heap.size oki20 (.slice A178_0 (rd_L2 x9_2 x32_1).length c178_0) (rd_L2 x9_2 x32_1) from ge20_0)
  have HH20 := Aside0.mk hH20
  have HN20 := Aside0.mk (Kd.S_reads' HO_9.out).1
  clear hH20 ge20_0
  refine hK.out _ _ (hHeld) (fun hHeld => ?_)
  clear hK K
  refine norm_ (a' := ?_) ?_ ?_
  rotate_left
  ·show Act.put _ (some 54) _ = _
   simp only [Act.put, List.setIfInBounds_toArray, List.set_cons_zero, List.set_cons_succ, i64_w, i32_w]
   rfl
  refine one_ (i := 14) (N := some 55) impl_fill.mk_15 rfl rfl (one_of HT_.out (by kernel_rfl)) (by decide) (fun K hK => ?_)
  refine value_ (w1 := ?_) (v := ?_) (by rfl) rfl ?_ ?_
  rotate_left 2
  ·go_simp
   constructor
   ·rfl
   rfl
  refine hK.out _ _ ((World.cell?_alloc_lt _ _ _ (World.block_lt_of_cell? _ _ (hHeld))).trans (hHeld)) (fun hHeld => ?_)
  clear hK K
  refine norm_ (a' := ?_) ?_ ?_
  rotate_left
  ·show Act.put _ (some 55) _ = _
   simp only [Act.put, List.setIfInBounds_toArray, List.set_cons_zero, List.set_cons_succ, i64_w, i32_w]
   rfl
  refine one_ (i := 15) (N := some 56) impl_fill.mk_16 rfl rfl (one_of HT_.out (by kernel_rfl)) (by decide) (fun K hK => ?_)
  refine Kd.R_append_step (Kd.int .i64) (w0 := w) w.heap.size (by rfl) (.tmp 46) (.tmp 55) 24 3 (.int .i64 0) 8 rfl Try.underlying24 info3 rfl (by decide) (by omega) (.slice A178_0 (rd_L2 x9_2 x32_1).length c178_0) (rd_L2 x9_2 x32_1) t179 [.int .i64 t179] (fun k_ => oki20 k_ ∨ ((fun _ => True)) k_ ∧ w19.heap.size ≤ k_) (fun _ => False) rfl rfl ?aP (fun _ hk => hk.elim) ?aF ?aO ?aB ?aS ?aL ?_
  (case aP => exact rfl)
  (case aB => exact zB)
  (case aF => exact (fun k_ hk => .inr ⟨trivial, hk⟩))
  (case aO => exact (by (with_reducible repeat (first | apply Kd.R_alloc | apply Kd.R_drewN | apply Kd.R_drew)); exact Kd.R_mono UU20.out (fun _ hk => .inl hk)))
  (case aS => exact (below_size zB))
  (case aL => have := LMc17.out; omega)
  intro v181 w21 ho hb hg hat
  (first | have HS0_ := cell_grown hg (hHeld) (by first | (rw [add_block]; exact (fun e_ => ((HL178_0.out.1 _ e_.symm).2) rfl)) | (show some (Addr.add _ _).block ≠ _; rw [add_block]; exact (fun e_ => ((HL178_0.out.1 _ e_.symm).2) rfl)) | exact (fun e_ => ((HL178_0.out.1 _ e_.symm).2) rfl)) | have HS0_ := cell_grown hg (cell_unalloc (hHeld) (by first | (rw [add_block]; exact Kd.S_lt HO_9.out _ rfl) | (show (Addr.add _ _).block < _; rw [add_block]; exact Kd.S_lt HO_9.out _ rfl) | exact Kd.S_lt HO_9.out _ rfl)) (by first | (rw [add_block]; exact (fun e_ => ((HL178_0.out.1 _ e_.symm).2) rfl)) | (show some (Addr.add _ _).block ≠ _; rw [add_block]; exact (fun e_ => ((HL178_0.out.1 _ e_.symm).2) rfl)) | exact (fun e_ => ((HL178_0.out.1 _ e_.symm).2) rfl)))
  rw [← Ny180.out] at ho
  have n0_ := Aside0.mk (hb)
  have n1_ := Aside0.mk (Kd.H_grown (Kd.H_widen (by repeat (first | exact HH20.out | refine Kd.H_alloc ?_ _ | refine Kd.H_drewN ?_ _ | refine Kd.H_drew ?_))) hg (fun k_ e_ => .inl (UU20.out.1 k_ e_)))
  have n2_ := Aside0.mk (ho)
  clear HB
  clear HH20
  clear HO_9
  clear UU20
  clear HL178_0
  have HB := n0_
  have HH20 := n1_
  have HO182 := n2_
  clear n0_ n1_ n2_
  clear ho hb hg hat
  have p18 : 0 ≤ (x32_1 : Int) := zD
  have q18 : (x32_1 : Int) < ((x9_2.length : Int) : Int) := zD
  replace p18 := eq_true p18
  replace q18 := eq_true q18
  obtain ⟨Ao24, co24, eo24⟩ := Kd.R_slice HO182.out
  (first | subst eo24 | (injection eo24 with f1_ f2_ f3_; have f4_ := f1_.symm; have f5_ := f3_.symm; clear f1_ f2_ f3_; subst f4_; subst f5_))
  obtain ⟨_, _, hraw22, _, _, hcc22, _⟩ := Kd.H_raw HH20.out zD (by have h_ : (x32_1 : Int) < ((x9_2.length : Int) : Int) := zD; first | exact h_ | (have e_ := (HN20.out); omega) | simpa using h_)
  obtain ⟨_, hfr22⟩ := Kd.H_at HH20.out zD (by have h_ : (x32_1 : Int) < ((x9_2.length : Int) : Int) := zD; first | exact h_ | (have e_ := (HN20.out); omega) | simpa using h_)
  have hx22_0 := hcc22 0 _ rfl
  have hf22_0 := hfr22 0
  (try simp only [Nat.add_zero] at hx22_0 hf22_0)
  (try rw [show ((Kd.slice 3 (Kd.int .i64))).sz = 1 from rfl, Nat.mul_one] at hx22_0)
  (try rw [show ((Kd.slice 3 (Kd.int .i64))).sz = 1 from rfl, Nat.mul_one] at hf22_0)
  have HP22 := Kd.S_seg0 HH20.out zD (by have h_ : (x32_1 : Int) < ((x9_2.length : Int) : Int) := zD; first | exact h_ | (have e_ := (HN20.out); omega) | simpa using h_) (seg := [.slice Ao24 y180.length co24]) (j := 0) (show 1 ≤ 1 from by decide) (x' := y180) (Kd.M_row HO182.out) (fun _ hk => hk)
  (try simp only [show ((Kd.slice 3 (Kd.int .i64))).sz = 1 from rfl, Nat.mul_one, Nat.add_zero] at HP22)
  clear hcc22 hfr22
  have HS22 := HP22.1
  rw [← Ny183.out] at HS22
  have HQ22 := Aside0.mk HS22
  obtain ⟨_, hgg22⟩ := Kd.R_typed hraw22 go20 rfl
  have GG22_ := Aside0.mk hgg22
  clear HP22 HS22 hgg22
  refine hK.out _ _ (HS0_) (fun hHeld => ?_)
  clear hK K
  refine norm_ (a' := ?_) ?_ ?_
  rotate_left
  ·show Act.put _ (some 56) _ = _
   simp only [Act.put, List.setIfInBounds_toArray, List.set_cons_zero, List.set_cons_succ, i64_w, i32_w]
   rfl
  refine zP 16 57 impl_fill.mk_17 ?_
  refine last_ (i := 17) (N := none) impl_fill.mk_18 rfl rfl (one_of HT_.out (by kernel_rfl)) (by decide) (fun K hK => ?_)
  refine skip_ (w1 := ?_) (by rfl) rfl ?_ ?_
  rotate_left
  ·go_simp
   rfl
  refine hK.out _ _ ?_
  clear hK K
  refine done_ (done_of HT_.out (by kernel_rfl)) ?_
  try go_wp2
  (try simp only [← hl9_2])
  go_roundg k2
  case measure => have := HK1.out; have := HK2.out; omega
  case rel => exact ⟨(y183), (wrap64 (x37_2 + 1)), zO, H', ⟨by have := HK1.out; have := HK2.out; omega⟩, ⟨by (try simp only [hl9_1]); (try simp only [hl9_2]); (with_reducible repeat (first | apply Kd.S_alloc | apply Kd.S_drewN | apply Kd.S_drew)); exact HQ22.out⟩, ⟨by repeat (first | (with_reducible first | exact HB.out | apply below_alloc | apply pw_below_drewN | apply below_drew1 | refine below_set ?_ GB20.out) | exact HB.out)⟩⟩
 rw [if_neg c10] at H
 have c10b0 := decide_eq_false c10
 try rw [hl9_1] at c10b0
 clear c10
 have H' := Aside0.mk H
 clear H
 go_wp2
 go_loopg [73] k1 (fun kq v73 w' => ∃ (x9_2 : List (List Int)) (x73_2 : Int), v73 = .int .i64 x73_2 ∧ Aside0 (impl_fill.l2 kq l0 l1 (l1.length : Int) x9_2 (l1.length : Int) x73_2 = some (r1, r2)) ∧ Aside0 (kq ≤ k1) ∧ Aside0 (Kd.S (Kd.slice 3 (Kd.int .i64)) 24 w' w.heap.size (fun _ => True) (.slice Ao9 x9_1.length co9) x9_2) ∧ Aside0 (Below w.heap.size w w'))
 case atStart => exact ⟨(x9_1), (0), zO, H', ⟨Nat.le_refl _⟩, ⟨by (try simp only [hl9_1]); (with_reducible repeat (first | apply Kd.S_alloc | apply Kd.S_drewN | apply Kd.S_drew)); exact HO_9.out⟩, ⟨zB⟩⟩
 case round => as_aux_lemma =>
 clear H'
 try clear c1
 try clear p1
 try clear q1
 try clear hx1
 try clear c2
 try clear p2
 try clear q2
 try clear hx2
 try clear c3
 try clear hx3
 try clear hf3
 try clear c4
 try clear c5
 try clear c5b0
 try clear c5b1
 try clear c6
 try clear c6b0
 try clear c6b1
 try clear p6
 try clear c10
 try clear c10b0
 try clear c11
 try clear c11b0
 try clear c12
 try clear c12b0
 try clear c13
 try clear c13b0
 try clear c14
 try clear c14b0
 try clear c15
 try clear c15b0
 try clear c17
 try clear p17
 try clear q17
 try clear hx17
 try clear c18
 try clear p18
 try clear q18
 try clear hx18
 try clear c20
 try clear c22
 try clear hx22
 try clear hf22
 try clear c25
 try clear c25b0
 try clear c26
 try clear c26b0
 try clear c28
 try clear p29
 try clear q29
 try clear c31
 try clear c33
 try clear hx33
 try clear hf33
 try clear hx177_0
 try clear hx178_0
 try clear hx184_0
 try clear hx22_0
 try clear hx33_0
 try clear p177
 try clear p178
 try clear p18
 try clear p184
 try clear p2
 try clear p29
 try clear p6
 try clear q177
 try clear q178
 try clear q18
 try clear q184
 try clear q29
 obtain ⟨x9_2, x73_2, rfl, HA, HK2, HO_9, HB⟩ := hrel
 have hl9_2 := (Kd.S_reads' HO_9.out).1
 rw [hl9_2] at HO_9
 (try simp only [hl9_2])
 cases gk with
 | zero => exact absurd HA.out (by simp [impl_fill.l2])
 | succ k2 =>
 have H := HA.out
 clear HA
 simp only [impl_fill.l2] at H
 by_cases c36 : x73_2 < (l1.length : Int)
 rotate_left
 ·rw [if_neg c36] at H
  have c36b0 := decide_eq_false c36
  clear c36
  replace H := zg H
  obtain ⟨c85, H⟩ := H
  have c85b0 := eq_true c85
  have c85b1 : decide (0 ≤ (l1.length : Int)) = true := decide_eq_true c85
  clear c85
  replace H := zg H
  obtain ⟨c86, H⟩ := H
  have c86b0 := eq_true c86
  have c86b1 : decide ((l1.length : Int) ≤ (x9_2.length : Int)) = true := decide_eq_true c86
  clear c86
  replace H := zb H
  obtain ⟨y218, Ny218, H⟩ := H
  have H' := Aside0.mk H
  clear H
  have q87 : ((l1.length : Int) : Int) ≤ ((x9_2.length : Int) : Int) := zD
  obtain ⟨i087, hi087, _, hsz87, _⟩ := info_parts info24
  have hroom87 : x9_2.length ≤ co9 := (Kd.S_reads' HO_9.out).2.1
  have hC87 : Kd.C (Kd.slice 3 (Kd.int .i64)) _ Ao9 x9_2.length x9_2 := (Kd.S_reads' HO_9.out).2.2
  have q087 : (0 : Int) ≤ ((l1.length : Int) : Int) := zD
  have hcut87 := cut_from (P := Try.prog) 60 24 .i64 Try.underlying60 hi087 1 hsz87 Ao9 x9_2.length co9 (l1.length : Int) q087 q87
  have hr87 := Kd.C_drop (m := ((l1.length : Int) : Int).toNat) (c := co9) hC87 (by omega) hroom87
  obtain ⟨A87, hA87⟩ : ∃ A1, A1 = (if co9 = ((l1.length : Int) : Int).toNat then Ao9 else (Ao9 : Option Addr).map (·.add (((l1.length : Int) : Int).toNat * 1))) := ⟨_, rfl⟩
  obtain ⟨c87, hc87⟩ : ∃ c1, c1 = co9 - ((l1.length : Int) : Int).toNat := ⟨_, rfl⟩
  have hy87 : y218.length = x9_2.length - ((l1.length : Int) : Int).toNat := (by rw [Ny218.out, List.length_drop] <;> omega)
  rw [show (x9_2).drop ((l1.length : Int) : Int).toNat = y218 from Ny218.out.symm] at hr87
  replace hr87 : Kd.C (Kd.slice 3 (Kd.int .i64)) _ A87 y218.length y218 := (by rw [hA87]; exact hr87)
  rw [← hy87, ← hA87, ← hc87] at hcut87
  have HR221 := Aside0.mk hr87
  have HC221 := Aside0.mk (show y218.length ≤ c87 from by rw [hy87, hc87]; exact Nat.sub_le_sub_right hroom87 _)
  clear hr87 hC87 hroom87 hi087 hsz87 hc87
  have KY87 := Aside0.mk hy87
  have KA87 := Aside0.mk hA87
  clear hy87 hA87
  have KL87 := Aside0.mk (show ((l1.length : Int) : Int).toNat ≤ x9_2.length from by omega)
  replace q87 := eq_true q87
  go_wp2
  go_loopg [195] k2 (fun kq v195 w' => ∃ (x195_3 : Int), v195 = .int .i64 x195_3 ∧ Aside0 (impl_fill.l7 kq l0 l1 (l1.length : Int) x9_2 y218 (y218.length : Int) x195_3 = some (r1, r2)) ∧ Aside0 (kq ≤ k2) ∧ Aside0 (Kd.S (Kd.slice 3 (Kd.int .i64)) 24 w' w.heap.size (fun _ => True) (.slice Ao9 x9_2.length co9) x9_2) ∧ Aside0 (Kd.C (Kd.slice 3 (Kd.int .i64)) w' A87 y218.length y218) ∧ Aside0 (Below w.heap.size w w'))
  case atStart => exact ⟨(0), zO, H', ⟨Nat.le_refl _⟩, ⟨by (try simp only [hl9_1]); (try simp only [hl9_2]); (with_reducible repeat (first | apply Kd.S_alloc | apply Kd.S_drewN | apply Kd.S_drew)); exact HO_9.out⟩, ⟨by repeat (first | (with_reducible exact HR221.out) | (with_reducible refine Kd.C_alloc ?_ _) | (with_reducible refine Kd.C_drewN ?_ _) | (with_reducible refine Kd.C_drew ?_) | exact HR221.out)⟩, ⟨zB⟩⟩
  case round => as_aux_lemma =>
  clear H'
  try clear c1
  try clear p1
  try clear q1
  try clear hx1
  try clear c2
  try clear p2
  try clear q2
  try clear hx2
  try clear c3
  try clear hx3
  try clear hf3
  try clear c4
  try clear p4
  try clear q4
  try clear hx4
  try clear qi4
  try clear hf4
  try clear c5
  try clear p5
  try clear q5
  try clear hx5
  try clear hf5
  try clear c6
  try clear p6
  try clear q6
  try clear c7
  try clear c8
  try clear p8
  try clear q8
  try clear hx8
  try clear hf8
  try clear c11
  try clear c11b0
  try clear c12
  try clear c12b0
  try clear c13
  try clear c13b0
  try clear c14
  try clear c14b0
  try clear c15
  try clear c15b0
  try clear c17
  try clear p17
  try clear q17
  try clear hx17
  try clear c18
  try clear p18
  try clear q18
  try clear hx18
  try clear c19
  try clear p19
  try clear q19
  try clear hx19
  try clear c20
  try clear p20
  try clear q20
  try clear hx20
  try clear c21
  try clear p21
  try clear q21
  try clear hx21
  try clear c22
  try clear hx22
  try clear hf22
  try clear c25
  try clear c25b0
  try clear c26
  try clear c26b0
  try clear c28
  try clear p29
  try clear q29
  try clear c31
  try clear c33
  try clear hx33
  try clear hf33
  try clear c35
  try clear c36
  try clear c36b0
  try clear c38
  try clear c38b0
  try clear c39
  try clear c39b0
  try clear c40
  try clear c40b0
  try clear c41
  try clear c41b0
  try clear c42
  try clear c42b0
  try clear c42b1
  try clear c43
  try clear c43b0
  try clear c43b1
  try clear c44
  try clear c44b0
  try clear c45
  try clear c45b0
  try clear c46
  try clear c46b0
  try clear c46b1
  try clear p47
  try clear q47
  try clear hx47
  try clear qi47
  try clear hf47
  try clear c48
  try clear c48b0
  try clear c50
  try clear q50
  try clear c52
  try clear c52b0
  try clear c53
  try clear c53b0
  try clear c54
  try clear c54b0
  try clear c55
  try clear c55b0
  try clear c56
  try clear c56b0
  try clear p58
  try clear q58
  try clear hx58
  try clear hf58
  try clear c60
  try clear q60
  try clear c62
  try clear c62b0
  try clear c63
  try clear c63b0
  try clear c64
  try clear c64b0
  try clear p64
  try clear c65
  try clear c65b0
  try clear c66
  try clear c66b0
  try clear c68
  try clear c68b0
  try clear c68b1
  try clear c69
  try clear c70
  try clear c70b0
  try clear c71
  try clear c71b0
  try clear c72
  try clear c72b0
  try clear c73
  try clear c73b0
  try clear c74
  try clear c74b0
  try clear c75
  try clear c75b0
  try clear c76
  try clear c76b0
  try clear c77
  try clear c77b0
  try clear c78
  try clear c78b0
  try clear c79
  try clear c79b0
  try clear p81
  try clear q81
  try clear hx81
  try clear hf81
  try clear c83
  try clear q83
  try clear c85
  try clear c85b0
  try clear c85b1
  try clear c86
  try clear c86b0
  try clear c86b1
  try clear c87
  try clear q87
  try clear hx177_0
  try clear hx178_0
  try clear hx184_0
  try clear hx190_0
  try clear hx191_0
  try clear hx192_0
  try clear hx196_0
  try clear hx197_0
  try clear hx199_0
  try clear hx200_0
  try clear hx201_0
  try clear hx202_0
  try clear hx207_0
  try clear hx208_0
  try clear hx209_0
  try clear hx210_0
  try clear hx211_0
  try clear hx212_0
  try clear hx213_0
  try clear hx22_0
  try clear hx33_0
  try clear hx47_0
  try clear hx58_0
  try clear hx81_0
  try clear p1
  try clear p17
  try clear p177
  try clear p178
  try clear p18
  try clear p184
  try clear p19
  try clear p190
  try clear p191
  try clear p192
  try clear p196
  try clear p197
  try clear p199
  try clear p2
  try clear p20
  try clear p200
  try clear p201
  try clear p202
  try clear p207
  try clear p208
  try clear p209
  try clear p210
  try clear p211
  try clear p212
  try clear p213
  try clear p29
  try clear p4
  try clear p47
  try clear p5
  try clear p58
  try clear p6
  try clear p64
  try clear p81
  try clear q087
  try clear q1
  try clear q17
  try clear q177
  try clear q178
  try clear q18
  try clear q184
  try clear q19
  try clear q190
  try clear q191
  try clear q192
  try clear q196
  try clear q197
  try clear q199
  try clear q2
  try clear q20
  try clear q200
  try clear q201
  try clear q202
  try clear q207
  try clear q208
  try clear q209
  try clear q210
  try clear q211
  try clear q212
  try clear q213
  try clear q29
  try clear q4
  try clear q47
  try clear q5
  try clear q50
  try clear q58
  try clear q6
  try clear q60
  try clear q81
  try clear q87
  obtain ⟨x195_3, rfl, HA, HK3, HO_9, HR221, HB⟩ := hrel
  cases gk with
  | zero => exact absurd HA.out (by simp [impl_fill.l7])
  | succ k3 =>
  have H := HA.out
  clear HA
  simp only [impl_fill.l7] at H
  by_cases c88 : x195_3 < (y218.length : Int)
  ·rw [if_pos c88] at H
   have c88b0 := decide_eq_true c88
   clear c88
   replace H := zg H
   obtain ⟨c89, H⟩ := H
   have c89b0 : decide (0 ≤ x195_3) = true := decide_eq_true c89
   clear c89
   replace H := zg H
   obtain ⟨c90, H⟩ := H
   have c90b0 : decide (x195_3 < (y218.length : Int)) = true := decide_eq_true c90
   clear c90
   replace H := zg H
   obtain ⟨c91, H⟩ := H
   have c91b0 : decide (0 ≤ (l1.length : Int)) = true := decide_eq_true c91
   have c91b1 : decide (0 ≤ l1.length) = true := decide_eq_true (by omega)
   clear c91
   replace H := zg H
   obtain ⟨c92, H⟩ := H
   have c92b0 : decide ((l1.length : Int) < ((rd_L2 y218 x195_3).length : Int)) = true := decide_eq_true c92
   have c92b1 : decide (l1.length < (rd_L2 y218 x195_3).length) = true := decide_eq_true (Int.ofNat_lt.mp c92)
   clear c92
   by_cases c93 : (rd (rd_L2 y218 x195_3) (l1.length : Int)) = 0
   rotate_left
   ·rw [if_neg c93] at H
    have c93b0 : ((rd (rd_L2 y218 x195_3) (l1.length : Int)) == 0) = false := beq_eq_false_iff_ne.mpr c93
    have c93b1 : ((rd (rd_L2 y218 x195_3) (l1.length : Int)) != 0) = true := bne_iff_ne.mpr c93
    simp only [Option.some.injEq, Prod.mk.injEq] at H
    obtain ⟨rfl, rfl⟩ := H
    have p222 : 0 ≤ (x195_3 : Int) := zD
    have q222 : x195_3 < (y218.length : Int) := zD
    obtain ⟨ad222, A222_0, c222_0, e222, hx222_0, hl222_0, hi222_0⟩ := at_L2 HR221.out x195_3 p222 q222
    cases e222
    (first | (replace hx222_0 := (HB.out.cell (World.block_lt_of_cell? w _ hx222_0)).trans hx222_0) | skip)
    have HR222_0 := Aside0.mk hi222_0
    have HC222_0 := Aside0.mk hl222_0
    clear hi222_0 hl222_0
    replace p222 := eq_true p222
    replace q222 := eq_true q222
    have p223 : 0 ≤ ((l1.length : Int) : Int) := zD
    have q223 : (l1.length : Int) < ((rd_L2 y218 x195_3).length : Int) := zD
    obtain ⟨ad223, e223, hx223_0⟩ := Kd.at_int HR222_0.out (l1.length : Int) p223 q223
    cases e223
    (first | (replace hx223_0 := (HB.out.cell (World.block_lt_of_cell? w _ hx223_0)).trans hx223_0) | skip)
    (try simp only [Go.IntWalk.toNatUp] at hx223_0)
    (try simp only [hl9_1, hl9_2] at p223)
    (try simp only [hl9_1, hl9_2] at q223)
    (try simp only [hl9_1, hl9_2] at hx223_0)
    replace p223 := eq_true p223
    replace q223 := eq_true q223
    go_wp2
    go_ret2
    exact ⟨_, by first | rfl | (simp [errW_none, errW_some] <;> rfl) | (simp only [← hji4]; first | rfl | (simp [errW_none, errW_some] <;> rfl)) | (simp [*, errW_none, errW_some] <;> rfl), by first | exact Kd.R_nil _ _ _ _ _ | exact Kd.N_nil _ _ _ _ _ | exact Kd.V_nil _ _ _ _ _ | exact Kd.Q_nil _ _ _ _ _ | exact Kd.S_nil _ _ _ _ _, zB⟩
   rw [if_pos c93] at H
   have c93b0 : ((rd (rd_L2 y218 x195_3) (l1.length : Int)) == 0) = true := beq_iff_eq.mpr c93
   have c93b1 : ((rd (rd_L2 y218 x195_3) (l1.length : Int)) != 0) = false := bne_eq_false_iff_eq.mpr c93
   clear c93
   have H' := Aside0.mk H
   clear H
   have p222 : 0 ≤ (x195_3 : Int) := zD
   have q222 : x195_3 < (y218.length : Int) := zD
   obtain ⟨ad222, A222_0, c222_0, e222, hx222_0, hl222_0, hi222_0⟩ := at_L2 HR221.out x195_3 p222 q222
   cases e222
   (first | (replace hx222_0 := (HB.out.cell (World.block_lt_of_cell? w _ hx222_0)).trans hx222_0) | skip)
   have HR222_0 := Aside0.mk hi222_0
   have HC222_0 := Aside0.mk hl222_0
   clear hi222_0 hl222_0
   replace p222 := eq_true p222
   replace q222 := eq_true q222
   have p223 : 0 ≤ ((l1.length : Int) : Int) := zD
   have q223 : (l1.length : Int) < ((rd_L2 y218 x195_3).length : Int) := zD
   obtain ⟨ad223, e223, hx223_0⟩ := Kd.at_int HR222_0.out (l1.length : Int) p223 q223
   cases e223
   (first | (replace hx223_0 := (HB.out.cell (World.block_lt_of_cell? w _ hx223_0)).trans hx223_0) | skip)
   (try simp only [Go.IntWalk.toNatUp] at hx223_0)
   (try simp only [hl9_1, hl9_2] at p223)
   (try simp only [hl9_1, hl9_2] at q223)
   (try simp only [hl9_1, hl9_2] at hx223_0)
   replace p223 := eq_true p223
   replace q223 := eq_true q223
   go_wp2
   go_roundg k3
   case measure => have := HK1.out; have := HK2.out; have := HK3.out; omega
   case rel => exact ⟨(wrap64 (x195_3 + 1)), zO, H', ⟨by have := HK1.out; have := HK2.out; have := HK3.out; omega⟩, ⟨by (try simp only [hl9_1]); (try simp only [hl9_2]); (with_reducible repeat (first | apply Kd.S_alloc | apply Kd.S_drewN | apply Kd.S_drew)); exact HO_9.out⟩, ⟨by repeat (first | (with_reducible exact HR221.out) | (with_reducible refine Kd.C_alloc ?_ _) | (with_reducible refine Kd.C_drewN ?_ _) | (with_reducible refine Kd.C_drew ?_) | exact HR221.out)⟩, ⟨zB⟩⟩
  rw [if_neg c88] at H
  have c88b0 := decide_eq_false c88
  clear c88
  replace H := zi H
  obtain ⟨t224, A94, H⟩ := H
  have H' := Aside0.mk H
  clear H
  go_wp2_with (first | ((with_reducible refine gate_callee (f := 36) rfl ?_); refine goesL_ (some 206) rfl rfl Try.func36 (by kernel_rfl) rfl #[.slice A0 l0.length c0] rfl zL ?_; (with_reducible refine (slices_Clone_byte_byte.calls _ _ l0 t224 _ ?side1 ?side2 A94.out).mono ?_); (case side1 => exact zC (Kd.C_below HR0.out HB.out)); (case side2 => exact HC0.out); rintro e w95 ⟨v225, rfl, ho0, hb⟩; refine ⟨_, rfl, ?_⟩; have n0_ := Aside0.mk (Kd.S_below (zS HO_9.out) hb); have n1_ := Aside0.mk (Kd.R_lower ho0 (below_size zB)); have n2_ := Aside0.mk (Kd.C_below (by repeat (first | (with_reducible exact HR221.out) | (with_reducible refine Kd.C_alloc ?_ _) | (with_reducible refine Kd.C_drewN ?_ _) | (with_reducible refine Kd.C_drew ?_) | exact HR221.out)) hb); have n3_ := Aside0.mk (below_step zB hb); clear HO_9; clear HR221; clear HB; have HO_9 := n0_; have HO226 := n1_; have HR221 := n2_; have HB := n3_; clear n0_ n1_ n2_ n3_; (try clear hb); (try clear hb2); (try clear hk); (try clear hi); (try clear ho0)))
  go_loopg [209] k3 (fun kq v209 w' => ∃ (x22_4 : List Int) (x209_4 : Int), v209 = .int .i64 x209_4 ∧ Aside0 (impl_fill.l8 kq (l1.length : Int) x9_2 x22_4 l1 (l1.length : Int) x209_4 = some (r1, r2)) ∧ Aside0 (kq ≤ k3) ∧ Aside0 (Kd.S (Kd.slice 3 (Kd.int .i64)) 24 w' w.heap.size (fun _ => True) (.slice Ao9 x9_2.length co9) x9_2) ∧ Aside0 (Kd.R (Kd.int .u8) 5 w' w.heap.size (fun _ => True) v225 x22_4) ∧ Aside0 (Below w.heap.size w w'))
  case atStart => exact ⟨(t224), (0), zO, H', ⟨Nat.le_refl _⟩, ⟨by (try simp only [hl9_1]); (try simp only [hl9_2]); (with_reducible repeat (first | apply Kd.S_alloc | apply Kd.S_drewN | apply Kd.S_drew)); exact HO_9.out⟩, ⟨by (try simp only [hl9_1]); (try simp only [hl9_2]); (with_reducible repeat (first | apply Kd.R_alloc | apply Kd.R_drewN | apply Kd.R_drew)); exact HO226.out⟩, ⟨zB⟩⟩
  case round => as_aux_lemma =>
  clear H'
  try clear c1
  try clear p1
  try clear q1
  try clear hx1
  try clear c2
  try clear p2
  try clear q2
  try clear hx2
  try clear c3
  try clear hx3
  try clear hf3
  try clear c4
  try clear p4
  try clear q4
  try clear hx4
  try clear qi4
  try clear hf4
  try clear c5
  try clear p5
  try clear q5
  try clear hx5
  try clear hf5
  try clear c6
  try clear p6
  try clear q6
  try clear c7
  try clear c8
  try clear p8
  try clear q8
  try clear hx8
  try clear hf8
  try clear c9
  try clear c11
  try clear c11b0
  try clear c12
  try clear c12b0
  try clear c13
  try clear c13b0
  try clear c14
  try clear c14b0
  try clear c15
  try clear c15b0
  try clear c17
  try clear p17
  try clear q17
  try clear hx17
  try clear c18
  try clear p18
  try clear q18
  try clear hx18
  try clear c19
  try clear p19
  try clear q19
  try clear hx19
  try clear c20
  try clear p20
  try clear q20
  try clear hx20
  try clear c21
  try clear p21
  try clear q21
  try clear hx21
  try clear c22
  try clear p22
  try clear q22
  try clear hx22
  try clear hf22
  try clear c25
  try clear c25b0
  try clear c26
  try clear c26b0
  try clear c28
  try clear p29
  try clear q29
  try clear c31
  try clear c33
  try clear hx33
  try clear hf33
  try clear c35
  try clear c36
  try clear c36b0
  try clear c38
  try clear c38b0
  try clear c39
  try clear c39b0
  try clear c40
  try clear c40b0
  try clear c41
  try clear c41b0
  try clear c42
  try clear c42b0
  try clear c42b1
  try clear c43
  try clear c43b0
  try clear c43b1
  try clear c44
  try clear c44b0
  try clear c45
  try clear c45b0
  try clear c46
  try clear c46b0
  try clear c46b1
  try clear p47
  try clear q47
  try clear hx47
  try clear qi47
  try clear hf47
  try clear c48
  try clear c48b0
  try clear c50
  try clear q50
  try clear c52
  try clear c52b0
  try clear c53
  try clear c53b0
  try clear c54
  try clear c54b0
  try clear c55
  try clear c55b0
  try clear c56
  try clear c56b0
  try clear p58
  try clear q58
  try clear hx58
  try clear hf58
  try clear c60
  try clear q60
  try clear c62
  try clear c62b0
  try clear c63
  try clear c63b0
  try clear c64
  try clear c64b0
  try clear p64
  try clear c65
  try clear c65b0
  try clear c66
  try clear c66b0
  try clear c68
  try clear c68b0
  try clear c68b1
  try clear c69
  try clear c70
  try clear c70b0
  try clear c71
  try clear c71b0
  try clear c72
  try clear c72b0
  try clear c73
  try clear c73b0
  try clear c74
  try clear c74b0
  try clear c75
  try clear c75b0
  try clear c76
  try clear c76b0
  try clear c77
  try clear c77b0
  try clear c78
  try clear c78b0
  try clear c79
  try clear c79b0
  try clear p81
  try clear q81
  try clear hx81
  try clear hf81
  try clear c83
  try clear q83
  try clear c85
  try clear c85b0
  try clear c85b1
  try clear c86
  try clear c86b0
  try clear c86b1
  try clear c87
  try clear q87
  try clear c88
  try clear c88b0
  try clear c89
  try clear c89b0
  try clear c90
  try clear c90b0
  try clear c91
  try clear c91b0
  try clear c91b1
  try clear c92
  try clear c92b0
  try clear c92b1
  try clear c93
  try clear c93b0
  try clear c93b1
  try clear hx177_0
  try clear hx178_0
  try clear hx184_0
  try clear hx190_0
  try clear hx191_0
  try clear hx192_0
  try clear hx196_0
  try clear hx197_0
  try clear hx199_0
  try clear hx200_0
  try clear hx201_0
  try clear hx202_0
  try clear hx207_0
  try clear hx208_0
  try clear hx209_0
  try clear hx210_0
  try clear hx211_0
  try clear hx212_0
  try clear hx213_0
  try clear hx222_0
  try clear hx223_0
  try clear hx22_0
  try clear hx33_0
  try clear hx47_0
  try clear hx58_0
  try clear hx81_0
  try clear p1
  try clear p17
  try clear p177
  try clear p178
  try clear p18
  try clear p184
  try clear p19
  try clear p190
  try clear p191
  try clear p192
  try clear p196
  try clear p197
  try clear p199
  try clear p2
  try clear p20
  try clear p200
  try clear p201
  try clear p202
  try clear p207
  try clear p208
  try clear p209
  try clear p21
  try clear p210
  try clear p211
  try clear p212
  try clear p213
  try clear p222
  try clear p223
  try clear p29
  try clear p4
  try clear p47
  try clear p5
  try clear p58
  try clear p6
  try clear p64
  try clear p8
  try clear p81
  try clear q087
  try clear q1
  try clear q17
  try clear q177
  try clear q178
  try clear q18
  try clear q184
  try clear q19
  try clear q190
  try clear q191
  try clear q192
  try clear q196
  try clear q197
  try clear q199
  try clear q2
  try clear q20
  try clear q200
  try clear q201
  try clear q202
  try clear q207
  try clear q208
  try clear q209
  try clear q21
  try clear q210
  try clear q211
  try clear q212
  try clear q213
  try clear q222
  try clear q223
  try clear q29
  try clear q4
  try clear q47
  try clear q5
  try clear q50
  try clear q58
  try clear q6
  try clear q60
  try clear q8
  try clear q81
  try clear q83
  try clear q87
  obtain ⟨x22_4, x209_4, rfl, HA, HK4, HO_9, HO_22, HB⟩ := hrel
  cases gk with
  | zero => exact absurd HA.out (by simp [impl_fill.l8])
  | succ k4 =>
  have H := HA.out
  clear HA
  simp only [impl_fill.l8] at H
  by_cases c96 : x209_4 < (l1.length : Int)
  rotate_left
  ·rw [if_neg c96] at H
   have c96b0 := decide_eq_false c96
   clear c96
   simp only [Option.some.injEq, Prod.mk.injEq] at H
   obtain ⟨rfl, rfl⟩ := H
   go_wp2
   go_ret2
   exact ⟨_, by first | rfl | (simp [errW_none, errW_some] <;> rfl) | (simp only [← hji4]; first | rfl | (simp [errW_none, errW_some] <;> rfl)) | (simp [*, errW_none, errW_some] <;> rfl), zR HO_22.out, zB⟩
  rw [if_pos c96] at H
  have c96b0 := decide_eq_true c96
  clear c96
  replace H := zg H
  obtain ⟨c97, H⟩ := H
  have c97b0 : decide (0 ≤ x209_4) = true := decide_eq_true c97
  clear c97
  replace H := zg H
  obtain ⟨c98, H⟩ := H
  have c98b0 : decide (x209_4 < (l1.length : Int)) = true := decide_eq_true c98
  clear c98
  replace H := zg H
  obtain ⟨c99, H⟩ := H
  have c99b0 : decide (0 ≤ (rd l1 x209_4)) = true := decide_eq_true c99
  clear c99
  replace H := zg H
  obtain ⟨c100, H⟩ := H
  have c100b0 : decide ((rd l1 x209_4) < (x22_4.length : Int)) = true := decide_eq_true c100
  clear c100
  replace H := zg H
  obtain ⟨c101, H⟩ := H
  have c101b0 : decide (x209_4 < (x9_2.length : Int)) = true := decide_eq_true c101
  clear c101
  replace H := zg H
  obtain ⟨c102, H⟩ := H
  have c102b0 : decide (0 ≤ (l1.length : Int)) = true := decide_eq_true c102
  have c102b1 : decide (0 ≤ l1.length) = true := decide_eq_true (by omega)
  clear c102
  replace H := zg H
  obtain ⟨c103, H⟩ := H
  have c103b0 : decide ((l1.length : Int) < ((rd_L2 x9_2 x209_4).length : Int)) = true := decide_eq_true c103
  have c103b1 : decide (l1.length < (rd_L2 x9_2 x209_4).length) = true := decide_eq_true (Int.ofNat_lt.mp c103)
  clear c103
  obtain ⟨y231, hy231⟩ : ∃ y_ : List Int, y_ = (x22_4.set ((rd l1 x209_4) : Int).toNat (Go.bits .xor .u8 (rd x22_4 (rd l1 x209_4)) ((rd (rd_L2 x9_2 x209_4) (l1.length : Int)) % 256))) := ⟨_, rfl⟩
  replace H : (impl_fill.l8 k4 (l1.length : Int) x9_2 y231 l1 (l1.length : Int) (wrap64 (x209_4 + 1))) = some (r1, r2) := by first | (rw [hy231]; with_reducible exact H) | (have H2_ := (Option.bind_some _ _).symm.trans H; rw [hy231]; with_reducible exact H2_) | (have H2_ := (Option.bind_some _ _).symm.trans H; with_reducible exact H2_) | with_reducible exact H | (rw [hy231]; exact H) | exact H
  have Ny231 := Aside0.mk hy231
  clear hy231
  have H' := Aside0.mk H
  clear H
  have p227 : 0 ≤ (x209_4 : Int) := zD
  have q227 : x209_4 < (l1.length : Int) := zD
  obtain ⟨ad227, e227, hx227_0⟩ := Kd.at_int HR1.out x209_4 p227 q227
  cases e227
  (first | (replace hx227_0 := (HB.out.cell (World.block_lt_of_cell? w _ hx227_0)).trans hx227_0) | skip)
  replace p227 := eq_true p227
  replace q227 := eq_true q227
  try go_wp2
  have n0_ := Aside0.mk (Kd.S_drew HO_9.out)
  have n1_ := Aside0.mk (Kd.R_drew HO_22.out)
  have n2_ := Aside0.mk (below_drew1 HB.out)
  clear HO_9
  clear HO_22
  clear HB
  have HO_9 := n0_
  have HO_22 := n1_
  have HB := n2_
  clear n0_ n1_ n2_
  obtain ⟨Ao106, co106, eo106⟩ := Kd.R_slice HO_22.out
  (first | subst eo106 | (injection eo106 with f1_ f2_ f3_; have f4_ := f1_.symm; have f5_ := f3_.symm; clear f1_ f2_ f3_; subst f4_; subst f5_))
  have p228 : 0 ≤ ((rd l1 x209_4) : Int) := zD
  have q228 : (rd l1 x209_4) < (x22_4.length : Int) := zD
  obtain ⟨ad228, e228, hx228_0⟩ := Kd.at_int (Kd.R_reads' HO_22.out).2.2 (rd l1 x209_4) p228 q228
  cases e228
  replace p228 := eq_true p228
  replace q228 := eq_true q228
  have p229 : 0 ≤ (x209_4 : Int) := zD
  have q229 : x209_4 < (x9_2.length : Int) := zD
  obtain ⟨ad229, A229_0, c229_0, e229, hx229_0, hl229_0, hi229_0⟩ := at_L2 (Kd.S_reads' HO_9.out).2.2 x209_4 p229 q229
  cases e229
  obtain ⟨ce229, hce229, hMe229, hcc229⟩ := Kd.S_get HO_9.out [] x209_4 p229 (by first | exact q229 | exact zD | (have e_ := (Kd.S_reads' HO_9.out).1; omega))
  obtain ⟨ve229_0, rfl, ge229_0⟩ := hMe229
  have hv229_0 := hcc229 0 _ rfl
  rw [Nat.add_zero, show ((Kd.slice 3 (Kd.int .i64))).sz = 1 from rfl, Nat.mul_one] at hv229_0
  replace hv229_0 := Option.some.inj (hv229_0.symm.trans hx229_0)
  rw [hv229_0] at ge229_0
  have HL229_0 := Aside0.mk (show Kd.R (Kd.int .i64) 3 _ _ _ _ (rd_L2 x9_2 x209_4) from ge229_0)
  clear hv229_0 ge229_0
  have HX229_0 := Aside0.mk hx229_0
  clear hcc229 hce229
  have HR229_0 := Aside0.mk hi229_0
  have HC229_0 := Aside0.mk hl229_0
  clear hi229_0 hl229_0
  replace p229 := eq_true p229
  replace q229 := eq_true q229
  have p230 : 0 ≤ ((l1.length : Int) : Int) := zD
  have q230 : (l1.length : Int) < ((rd_L2 x9_2 x209_4).length : Int) := zD
  obtain ⟨ad230, e230, hx230_0⟩ := Kd.at_int (by repeat (first | (with_reducible exact HR229_0.out) | (with_reducible refine Kd.C_alloc ?_ _) | (with_reducible refine Kd.C_drewN ?_ _) | (with_reducible refine Kd.C_drew ?_) | exact HR229_0.out)) (l1.length : Int) p230 q230
  cases e230
  (try simp only [Go.IntWalk.toNatUp] at hx230_0)
  (try simp only [hl9_1, hl9_2] at p230)
  (try simp only [hl9_1, hl9_2] at q230)
  (try simp only [hl9_1, hl9_2] at hx230_0)
  replace p230 := eq_true p230
  replace q230 := eq_true q230
  have p104 : 0 ≤ ((rd l1 x209_4) : Int) := zD
  have q104 : ((rd l1 x209_4) : Int) < ((x22_4.length : Int) : Int) := zD
  obtain ⟨go104, co104, eo104, gb104, gl104, cl104, HG104⟩ := Kd.R_form HO_22.out (by omega)
  (first | cases eo104 | (injection eo104 with ea_ en_ ec_; (first | subst ea_ | (injection ea_ with ea_; subst ea_)); subst ec_; clear en_))
  have GB104 := Aside0.mk gb104
  have GG104 := Aside0.mk HG104
  clear gb104 gl104 HG104
  (first | simp only [add_plain] at hx228_0 | skip)
  obtain ⟨hx104_0, hf104_0⟩ := Kd.R_celln 0 HO_22.out ((rd l1 x209_4) : Int) p104 q104
  replace p104 := eq_true p104
  replace q104 := eq_true q104
  have HP107 := Kd.R_putn HO_22.out ((rd l1 x209_4) : Int) (Go.bits .xor .u8 (rd x22_4 (rd l1 x209_4)) ((rd (rd_L2 x9_2 x209_4) (l1.length : Int)) % 256))
  rw [← Ny231.out] at HP107
  have HQ107 := Aside0.mk HP107
  clear HP107
  refine start_ (n := 15) (S := fun w' => w'.cell? ⟨go104, ((rd l1 x209_4)).toNat, none⟩ = some (.int .u8 (rd x22_4 (rd l1 x209_4))) ∧ w'.cell? (ad229.add (x209_4).toNat) = some (.slice (some ad230) (rd_L2 x9_2 x209_4).length c229_0) ∧ w'.cell? (ad230.add l1.length) = some (.int .i64 (rd (rd_L2 x9_2 x209_4) (l1.length : Int)))) (ds := [14]) impl_fill.mk_79 (by kernel_rfl) rfl rfl ⟨hx228_0, hx229_0, hx230_0⟩ (fun hHeld => ?_); refine with_tabW impl_fill.tab50 impl_fill.bits50 (fun HT_ HW_ => ?_)
  generalize wr.drew = w105 at HO_9 HO_22 HB GG104 HL229_0 HQ107 HR229_0 HX229_0 hf104_0 hx104_0 hx228_0 hx229_0 hx230_0 hHeld ⊢
  refine zP 0 214 impl_fill.mk_80 ?_
  refine zP 1 215 impl_fill.mk_81 ?_
  refine zP 2 216 impl_fill.mk_82 ?_
  refine zP 4 218 impl_fill.mk_83 ?_
  refine zP 5 219 impl_fill.mk_84 ?_
  refine zP 6 220 impl_fill.mk_85 ?_
  refine zP 8 222 impl_fill.mk_86 ?_
  refine zT3 3 217 impl_fill.mk_87 ?_
  refine zT3 7 221 impl_fill.mk_88 ?_
  refine zP 9 223 impl_fill.mk_89 ?_
  refine zT3 10 224 impl_fill.mk_90 ?_
  refine zP 11 225 impl_fill.mk_91 ?_
  refine zP 12 226 impl_fill.mk_92 ?_
  refine zP 13 227 impl_fill.mk_93 ?_
  refine last_ (i := 14) (N := none) impl_fill.mk_94 rfl rfl (one_of HT_.out (by kernel_rfl)) (by decide) (fun K hK => ?_)
  refine skip_ (w1 := ?_) (by rfl) rfl ?_ ?_
  rotate_left
  ·go_simp
   rfl
  refine hK.out _ _ ?_
  clear hK K
  refine done_ (done_of HT_.out (by kernel_rfl)) ?_
  try go_wp2
  go_roundg k4
  case measure => have := HK1.out; have := HK2.out; have := HK3.out; have := HK4.out; omega
  case rel => exact ⟨(y231), (wrap64 (x209_4 + 1)), zO, H', ⟨by have := HK1.out; have := HK2.out; have := HK3.out; have := HK4.out; omega⟩, ⟨by (try simp only [hl9_1]); (try simp only [hl9_2]); (with_reducible repeat (first | apply Kd.S_alloc | apply Kd.S_drewN | apply Kd.S_drew)); exact Kd.S_mono (Kd.S_far (p := ⟨go104, ((rd l1 x209_4) : Int).toNat, none⟩) (Kd.S_types HO_9.out GG104.out (by decide)) (fun _ hk => hk.2) (.int .u8 (Go.bits .xor .u8 (rd x22_4 (rd l1 x209_4)) ((rd (rd_L2 x9_2 x209_4) (l1.length : Int)) % 256)))) (fun _ hk => trivial)⟩, ⟨by (try simp only [hl9_1]); (try simp only [hl9_2]); (with_reducible repeat (first | apply Kd.R_alloc | apply Kd.R_drewN | apply Kd.R_drew)); exact HQ107.out⟩, ⟨by repeat (first | (with_reducible first | exact HB.out | apply below_alloc | apply pw_below_drewN | apply below_drew1 | refine below_set ?_ GB104.out) | exact HB.out)⟩⟩
 rw [if_pos c36] at H
 have c36b0 := decide_eq_true c36
 clear c36
 have HC37 := Aside0.mk H
 clear H
 go_upto_block 6 with (fail)
 go_cut [14] (fun v14 wc => ∃ (kq : Nat) (x14_36 : Int), v14 = .int .i64 x14_36 ∧ Aside0 (impl_fill.j4 kq l0 l1 (l1.length : Int) x9_2 x73_2 x14_36 (l1.length : Int) x73_2 = some (r1, r2)) ∧ Aside0 (kq ≤ k2) ∧ Aside0 (Kd.S (Kd.slice 3 (Kd.int .i64)) 24 wc w.heap.size (fun _ => True) (.slice Ao9 x9_2.length co9) x9_2) ∧ Aside0 (Below w.heap.size w wc))
 case first =>
  have H := HC37.out
  clear HC37
  have H' := Aside0.mk H
  clear H
  go_wp2
  go_loopg [14] k2 (fun kq v14 w' => ∃ (x14_3 : Int), v14 = .int .i64 x14_3 ∧ Aside0 (impl_fill.l3 kq l0 l1 (l1.length : Int) x9_2 x73_2 x14_3 (l1.length : Int) x73_2 = some (r1, r2)) ∧ Aside0 (kq ≤ k2) ∧ Aside0 (Kd.S (Kd.slice 3 (Kd.int .i64)) 24 w' w.heap.size (fun _ => True) (.slice Ao9 x9_2.length co9) x9_2) ∧ Aside0 (Below w.heap.size w w'))
  case atStart => exact ⟨(x73_2), zO, H', ⟨Nat.le_refl _⟩, ⟨by (try simp only [hl9_1]); (try simp only [hl9_2]); (with_reducible repeat (first | apply Kd.S_alloc | apply Kd.S_drewN | apply Kd.S_drew)); exact HO_9.out⟩, ⟨zB⟩⟩
  case round => as_aux_lemma =>
  clear H'
  try clear c1
  try clear p1
  try clear q1
  try clear hx1
  try clear c2
  try clear p2
  try clear q2
  try clear hx2
  try clear c3
  try clear hx3
  try clear hf3
  try clear c4
  try clear c5
  try clear c5b0
  try clear c5b1
  try clear c6
  try clear c6b0
  try clear c6b1
  try clear p6
  try clear c10
  try clear c10b0
  try clear c11
  try clear c11b0
  try clear c12
  try clear c12b0
  try clear c13
  try clear c13b0
  try clear c14
  try clear c14b0
  try clear c15
  try clear c15b0
  try clear c17
  try clear p17
  try clear q17
  try clear hx17
  try clear c18
  try clear p18
  try clear q18
  try clear hx18
  try clear c20
  try clear c22
  try clear hx22
  try clear hf22
  try clear c25
  try clear c25b0
  try clear c26
  try clear c26b0
  try clear c28
  try clear p29
  try clear q29
  try clear c31
  try clear c33
  try clear hx33
  try clear hf33
  try clear c36
  try clear c36b0
  try clear hx177_0
  try clear hx178_0
  try clear hx184_0
  try clear hx22_0
  try clear hx33_0
  try clear p1
  try clear p17
  try clear p177
  try clear p178
  try clear p18
  try clear p184
  try clear p2
  try clear p29
  try clear p6
  try clear q1
  try clear q17
  try clear q177
  try clear q178
  try clear q18
  try clear q184
  try clear q2
  try clear q29
  obtain ⟨x14_3, rfl, HA, HK3, HO_9, HB⟩ := hrel
  cases gk with
  | zero => exact absurd HA.out (by simp [impl_fill.l3])
  | succ k3 =>
  have H := HA.out
  clear HA
  simp only [impl_fill.l3] at H
  by_cases c38 : x14_3 < (x9_2.length : Int)
  rotate_left
  ·rw [if_neg c38] at H
   have c38b0 := decide_eq_false c38
   try rw [hl9_5] at c38b0
   clear c38
   (first | rw [c38b0] | (simp only [i64_w, i32_w]; rw [c38b0]) | skip)
   have H' := Aside0.mk H
   clear H
   go_wp2
   go_meet
   case rel => exact ⟨_, (x14_3), zO, H', ⟨by have := HK1.out; have := HK2.out; have := HK3.out; first | omega | exact Nat.le_refl _⟩, ⟨by (try simp only [hl9_1]); (try simp only [hl9_2]); (with_reducible repeat (first | apply Kd.S_alloc | apply Kd.S_drewN | apply Kd.S_drew)); exact HO_9.out⟩, ⟨zB⟩⟩
  rw [if_pos c38] at H
  have c38b0 := decide_eq_true c38
  clear c38
  (first | rw [c38b0] | (simp only [i64_w, i32_w]; rw [c38b0]) | skip)
  replace H := zg H
  obtain ⟨c39, H⟩ := H
  have c39b0 : decide (0 ≤ x14_3) = true := decide_eq_true c39
  clear c39
  replace H := zg H
  obtain ⟨c40, H⟩ := H
  have c40b0 : decide (0 ≤ x73_2) = true := decide_eq_true c40
  clear c40
  replace H := zg H
  obtain ⟨c41, H⟩ := H
  have c41b0 : decide (x73_2 < ((rd_L2 x9_2 x14_3).length : Int)) = true := decide_eq_true c41
  clear c41
  by_cases c42 : (rd (rd_L2 x9_2 x14_3) x73_2) = 0
  rotate_left
  ·rw [if_neg c42] at H
   have c42b0 : ((rd (rd_L2 x9_2 x14_3) x73_2) == 0) = false := beq_eq_false_iff_ne.mpr c42
   have c42b1 : ((rd (rd_L2 x9_2 x14_3) x73_2) != 0) = true := bne_iff_ne.mpr c42
   have H' := Aside0.mk H
   clear H
   have p190 : 0 ≤ (x14_3 : Int) := zD
   have q190 : x14_3 < (x9_2.length : Int) := zD
   obtain ⟨ad190, A190_0, c190_0, e190, hx190_0, hl190_0, hi190_0⟩ := at_L2 (Kd.S_reads' HO_9.out).2.2 x14_3 p190 q190
   cases e190
   obtain ⟨ce190, hce190, hMe190, hcc190⟩ := Kd.S_get HO_9.out [] x14_3 p190 (by first | exact q190 | exact zD | (have e_ := (Kd.S_reads' HO_9.out).1; omega))
   obtain ⟨ve190_0, rfl, ge190_0⟩ := hMe190
   have hv190_0 := hcc190 0 _ rfl
   rw [Nat.add_zero, show ((Kd.slice 3 (Kd.int .i64))).sz = 1 from rfl, Nat.mul_one] at hv190_0
   replace hv190_0 := Option.some.inj (hv190_0.symm.trans hx190_0)
   rw [hv190_0] at ge190_0
   have HL190_0 := Aside0.mk (show Kd.R (Kd.int .i64) 3 _ _ _ _ (rd_L2 x9_2 x14_3) from ge190_0)
   clear hv190_0 ge190_0
   have HX190_0 := Aside0.mk hx190_0
   clear hcc190 hce190
   have HR190_0 := Aside0.mk hi190_0
   have HC190_0 := Aside0.mk hl190_0
   clear hi190_0 hl190_0
   replace p190 := eq_true p190
   replace q190 := eq_true q190
   have p191 : 0 ≤ (x73_2 : Int) := zD
   have q191 : x73_2 < ((rd_L2 x9_2 x14_3).length : Int) := zD
   obtain ⟨ad191, e191, hx191_0⟩ := Kd.at_int (by repeat (first | (with_reducible exact HR190_0.out) | (with_reducible refine Kd.C_alloc ?_ _) | (with_reducible refine Kd.C_drewN ?_ _) | (with_reducible refine Kd.C_drew ?_) | exact HR190_0.out)) x73_2 p191 q191
   cases e191
   replace p191 := eq_true p191
   replace q191 := eq_true q191
   go_wp2
   go_meet
   case rel => exact ⟨_, (x14_3), zO, H', ⟨by have := HK1.out; have := HK2.out; have := HK3.out; first | omega | exact Nat.le_refl _⟩, ⟨by (try simp only [hl9_1]); (try simp only [hl9_2]); (with_reducible repeat (first | apply Kd.S_alloc | apply Kd.S_drewN | apply Kd.S_drew)); exact HO_9.out⟩, ⟨zB⟩⟩
  rw [if_pos c42] at H
  have c42b0 : ((rd (rd_L2 x9_2 x14_3) x73_2) == 0) = true := beq_iff_eq.mpr c42
  have c42b1 : ((rd (rd_L2 x9_2 x14_3) x73_2) != 0) = false := bne_eq_false_iff_eq.mpr c42
  clear c42
  have H' := Aside0.mk H
  clear H
  have p190 : 0 ≤ (x14_3 : Int) := zD
  have q190 : x14_3 < (x9_2.length : Int) := zD
  obtain ⟨ad190, A190_0, c190_0, e190, hx190_0, hl190_0, hi190_0⟩ := at_L2 (Kd.S_reads' HO_9.out).2.2 x14_3 p190 q190
  cases e190
  obtain ⟨ce190, hce190, hMe190, hcc190⟩ := Kd.S_get HO_9.out [] x14_3 p190 (by first | exact q190 | exact zD | (have e_ := (Kd.S_reads' HO_9.out).1; omega))
  obtain ⟨ve190_0, rfl, ge190_0⟩ := hMe190
  have hv190_0 := hcc190 0 _ rfl
  rw [Nat.add_zero, show ((Kd.slice 3 (Kd.int .i64))).sz = 1 from rfl, Nat.mul_one] at hv190_0
  replace hv190_0 := Option.some.inj (hv190_0.symm.trans hx190_0)
  rw [hv190_0] at ge190_0
  have HL190_0 := Aside0.mk (show Kd.R (Kd.int .i64) 3 _ _ _ _ (rd_L2 x9_2 x14_3) from ge190_0)
  clear hv190_0 ge190_0
  have HX190_0 := Aside0.mk hx190_0
  clear hcc190 hce190
  have HR190_0 := Aside0.mk hi190_0
  have HC190_0 := Aside0.mk hl190_0
  clear hi190_0 hl190_0
  replace p190 := eq_true p190
  replace q190 := eq_true q190
  have p191 : 0 ≤ (x73_2 : Int) := zD
  have q191 : x73_2 < ((rd_L2 x9_2 x14_3).length : Int) := zD
  obtain ⟨ad191, e191, hx191_0⟩ := Kd.at_int (by repeat (first | (with_reducible exact HR190_0.out) | (with_reducible refine Kd.C_alloc ?_ _) | (with_reducible refine Kd.C_drewN ?_ _) | (with_reducible refine Kd.C_drew ?_) | exact HR190_0.out)) x73_2 p191 q191
  cases e191
  replace p191 := eq_true p191
  replace q191 := eq_true q191
  go_wp2
  go_roundg k3
  case measure => have := HK1.out; have := HK2.out; have := HK3.out; omega
  case rel => exact ⟨(wrap64 (x14_3 + 1)), zO, H', ⟨by have := HK1.out; have := HK2.out; have := HK3.out; omega⟩, ⟨by (try simp only [hl9_1]); (try simp only [hl9_2]); (with_reducible repeat (first | apply Kd.S_alloc | apply Kd.S_drewN | apply Kd.S_drew)); exact HO_9.out⟩, ⟨zB⟩⟩
 case rest =>
 clear HC37
 try clear c1
 try clear p1
 try clear q1
 try clear hx1
 try clear c2
 try clear p2
 try clear q2
 try clear hx2
 try clear c3
 try clear hx3
 try clear hf3
 try clear c4
 try clear c5
 try clear c5b0
 try clear c5b1
 try clear c6
 try clear c6b0
 try clear c6b1
 try clear p6
 try clear c10
 try clear c10b0
 try clear c11
 try clear c11b0
 try clear c12
 try clear c12b0
 try clear c13
 try clear c13b0
 try clear c14
 try clear c14b0
 try clear c15
 try clear c15b0
 try clear c17
 try clear p17
 try clear q17
 try clear hx17
 try clear c18
 try clear p18
 try clear q18
 try clear hx18
 try clear c19
 try clear p19
 try clear q19
 try clear hx19
 try clear c20
 try clear c22
 try clear hx22
 try clear hf22
 try clear c25
 try clear c25b0
 try clear c26
 try clear c26b0
 try clear c28
 try clear p29
 try clear q29
 try clear c31
 try clear c33
 try clear hx33
 try clear hf33
 try clear c36
 try clear c36b0
 try clear c38
 try clear c38b0
 try clear c39
 try clear c39b0
 try clear c40
 try clear c40b0
 try clear c41
 try clear c41b0
 try clear c42
 try clear c42b0
 try clear c42b1
 try clear hx177_0
 try clear hx178_0
 try clear hx184_0
 try clear hx190_0
 try clear hx191_0
 try clear hx22_0
 try clear hx33_0
 try clear p1
 try clear p17
 try clear p177
 try clear p178
 try clear p18
 try clear p184
 try clear p190
 try clear p191
 try clear p2
 try clear p29
 try clear p6
 try clear q1
 try clear q17
 try clear q177
 try clear q178
 try clear q18
 try clear q184
 try clear q190
 try clear q191
 try clear q2
 try clear q29
 obtain ⟨kq, x14_36, rfl, HA, HJ36, HO_9, HB⟩ := hcut
 cases kq with
 | zero => exact absurd HA.out (by simp [impl_fill.j4])
 | succ kj36 =>
 have H := HA.out
 clear HA
 simp only [impl_fill.j4] at H
 by_cases c43 : x14_36 = (x9_2.length : Int)
 ·rw [if_pos c43] at H
  have c43b0 : (x14_36 == (x9_2.length : Int)) = true := beq_iff_eq.mpr c43
  have c43b1 : (x14_36 != (x9_2.length : Int)) = false := bne_eq_false_iff_eq.mpr c43
  clear c43
  simp only [Option.some.injEq, Prod.mk.injEq] at H
  obtain ⟨rfl, rfl⟩ := H
  go_wp2
  go_ret2
  exact ⟨_, by first | rfl | (simp [errW_none, errW_some] <;> rfl) | (simp only [← hji4]; first | rfl | (simp [errW_none, errW_some] <;> rfl)) | (simp [*, errW_none, errW_some] <;> rfl), by first | exact Kd.R_nil _ _ _ _ _ | exact Kd.N_nil _ _ _ _ _ | exact Kd.V_nil _ _ _ _ _ | exact Kd.Q_nil _ _ _ _ _ | exact Kd.S_nil _ _ _ _ _, zB⟩
 rw [if_neg c43] at H
 have c43b0 : (x14_36 == (x9_2.length : Int)) = false := beq_eq_false_iff_ne.mpr c43
 have c43b1 : (x14_36 != (x9_2.length : Int)) = true := bne_iff_ne.mpr c43
 replace H := zg H
 obtain ⟨c44, H⟩ := H
 have c44b0 : decide (0 ≤ x73_2) = true := decide_eq_true c44
 clear c44
 replace H := zg H
 obtain ⟨c45, H⟩ := H
 have c45b0 : decide (x73_2 < (x9_2.length : Int)) = true := decide_eq_true c45
 clear c45
 replace H := zg H
 obtain ⟨c46, H⟩ := H
 have pK_ : 0 ≤ x14_36 := c46.1
 have qK_ : x14_36 < (x9_2.length : Int) := c46.2
 clear c46
 replace H := zb H
 obtain ⟨y195, Ny195, H⟩ := H
 replace H := zg H
 obtain ⟨c48, H⟩ := H
 have c48b0 : decide (x73_2 < ((rd_L2 y195 x73_2).length : Int)) = true := decide_eq_true c48
 clear c48
 replace H := zi H
 obtain ⟨t198, A49, H⟩ := H
 have H' := Aside0.mk H
 clear H
 have pC_ : 0 ≤ (x73_2 : Int) := zD
 have qC_ : x73_2 < (x9_2.length : Int) := zD
 obtain ⟨ad192, AC_, cC_, eC_, hxC_, hlC_, hiC_⟩ := at_L2 (Kd.S_reads' HO_9.out).2.2 x73_2 pC_ qC_
 cases eC_
 obtain ⟨adK_, AK_, cK_, eK_, hxK_, hlK_, hiK_⟩ := at_L2 (Kd.S_reads' HO_9.out).2.2 x14_36 pK_ qK_
 obtain rfl : ad192 = adK_ := (by injection eK_)
 clear eK_ hlC_ hiC_ hlK_ hiK_
 obtain ⟨g9_, eg9z_⟩ := Kd.R_head (Kd.S_R HO_9.out)
 have eg9_ := Aside0.mk eg9z_
 clear eg9z_
 obtain ⟨cells9_, hb9_⟩ := Kd.S_typed HO_9.out g9_ (by rw [eg9_.out]; rfl)
 have hB9_ : w.heap.size ≤ g9_ := Kd.S_base HO_9.out g9_ (by rw [eg9_.out]; rfl)
 have hsC : (World.drew wc).cell? (ad192.add (x73_2 : Int).toNat) = some (.slice AC_ (rd_L2 x9_2 x73_2).length cC_) := hxC_
 have hsK : (World.drew wc).cell? (ad192.add (x14_36 : Int).toNat) = some (.slice AK_ (rd_L2 x9_2 x14_36).length cK_) := hxK_
 have hbS : (World.drew wc).heap[g9_]? = some (.cells cells9_ 24 (0, 0)) := hb9_
 have hfC := blk_frozen hbS (x73_2 : Int).toNat
 have hfK := blk_frozen hbS (x14_36 : Int).toNat
 rw [show (⟨g9_, (x73_2 : Int).toNat, none⟩ : Addr) = (ad192.add (x73_2 : Int).toNat) from by rw [eg9_.out, add_plain]] at hfC
 rw [show (⟨g9_, (x14_36 : Int).toNat, none⟩ : Addr) = (ad192.add (x14_36 : Int).toNat) from by rw [eg9_.out, add_plain]] at hfK
 have n0_ := Aside0.mk (Kd.S_drew HO_9.out)
 have n1_ := Aside0.mk (below_drew1 HB.out)
 clear HO_9 HB hxC_ hxK_
 have HO_9 := n0_
 have HB := n1_
 clear n0_ n1_
 have pC1_ := eq_true pC_
 have qC1_ := eq_true qC_
 have pK1_ := eq_true pK_
 have qK1_ := eq_true qK_
 try go_wp2
 refine start_ (n := 16) (S := fun w' => w'.cell? (ad192.add (x73_2 : Int).toNat) = some (.slice AC_ (rd_L2 x9_2 x73_2).length cC_) ∧ w'.cell? (ad192.add (x14_36 : Int).toNat) = some (.slice AK_ (rd_L2 x9_2 x14_36).length cK_)) (ds := [13, 15]) impl_fill.mk_33 (by kernel_rfl) rfl rfl ⟨hsC, hsK⟩ (fun hHeld => ?_); refine with_tabW impl_fill.tab21 impl_fill.bits21 (fun HT_ HW_ => ?_)
 generalize World.drew wc = wS at HO_9 HB hsC hsK hfC hfK hbS hHeld ⊢
 refine zP 0 97 impl_fill.mk_34 ?_
 refine zP 1 98 impl_fill.mk_35 ?_
 refine zP 2 99 impl_fill.mk_36 ?_
 refine zP 3 100 impl_fill.mk_37 ?_
 refine zP 4 101 impl_fill.mk_38 ?_
 refine zP 5 102 impl_fill.mk_39 ?_
 refine zP 6 103 impl_fill.mk_40 ?_
 refine take_ (i := 7) (N := some 104) (v := ?_) (a' := ?_) impl_fill.mk_41 rfl rfl (take_ofW HT_.out HW_.out (by kernel_rfl)) (fun _ _ _ h => h) (Or.inl ⟨by rfl, ?_⟩) hHeld ?_ ?_
 rotate_left
 ·intro w' s0
  obtain ⟨s1_, s2_⟩ := s0
  go_simp
  with_reducible rfl
 rotate_left
 ·simp only [Act.put, List.setIfInBounds_toArray, List.set_cons_zero, List.set_cons_succ, i64_w, i32_w]
  rfl
 refine zP 8 105 impl_fill.mk_42 ?_
 refine zP 9 106 impl_fill.mk_43 ?_
 refine zP 10 107 impl_fill.mk_44 ?_
 refine take_ (i := 11) (N := some 108) (v := ?_) (a' := ?_) impl_fill.mk_45 rfl rfl (take_ofW HT_.out HW_.out (by kernel_rfl)) (fun _ _ _ h => h) (Or.inl ⟨by rfl, ?_⟩) hHeld ?_ ?_
 rotate_left
 ·intro w' s0
  obtain ⟨s1_, s2_⟩ := s0
  go_simp
  with_reducible rfl
 rotate_left
 ·simp only [Act.put, List.setIfInBounds_toArray, List.set_cons_zero, List.set_cons_succ, i64_w, i32_w]
  rfl
 refine zP 12 109 impl_fill.mk_46 ?_
 refine last_ (i := 13) (N := none) impl_fill.mk_47 rfl rfl (one_of HT_.out (by kernel_rfl)) (by decide) (fun K hK => ?_)
 refine skip_ (w1 := wS.setCell (ad192.add (x73_2 : Int).toNat) (.slice AK_ (rd_L2 x9_2 x14_36).length cK_)) (by rfl) rfl ?_ ?_
 ·go_simp
 refine hK.out _ _ ?_
 clear hK K
 refine zP 14 110 impl_fill.mk_48 ?_
 refine last_ (i := 15) (N := none) impl_fill.mk_49 rfl rfl (one_of HT_.out (by kernel_rfl)) (by decide) (fun K hK => ?_)
 obtain ⟨vz_, hz_⟩ := cell_set_some (p := (ad192.add (x73_2 : Int).toNat)) (x := (.slice AK_ (rd_L2 x9_2 x14_36).length cK_)) hsK
 have hfz_ := blk_frozen (blk_set hbS (x73_2 : Int).toNat (.slice AK_ (rd_L2 x9_2 x14_36).length cK_)) (x14_36 : Int).toNat
 rw [show (⟨g9_, (x73_2 : Int).toNat, none⟩ : Addr) = (ad192.add (x73_2 : Int).toNat) from by rw [eg9_.out, add_plain]] at hfz_
 rw [show (⟨g9_, (x14_36 : Int).toNat, none⟩ : Addr) = (ad192.add (x14_36 : Int).toNat) from by rw [eg9_.out, add_plain]] at hfz_
 refine skip_ (w1 := (wS.setCell (ad192.add (x73_2 : Int).toNat) (.slice AK_ (rd_L2 x9_2 x14_36).length cK_)).setCell (ad192.add (x14_36 : Int).toNat) (.slice AC_ (rd_L2 x9_2 x73_2).length cC_)) (by rfl) rfl ?_ ?_
 ·go_simp
 refine hK.out _ _ ?_
 clear hK K
 refine done_ (done_of HT_.out (by kernel_rfl)) ?_
 obtain ⟨w51, hw_⟩ : ∃ w_, w_ = (wS.setCell (ad192.add (x73_2 : Int).toNat) (.slice AK_ (rd_L2 x9_2 x14_36).length cK_)).setCell (ad192.add (x14_36 : Int).toNat) (.slice AC_ (rd_L2 x9_2 x73_2).length cC_) := ⟨_, rfl⟩
 rw [← hw_]
 have n0_ : Aside0 (Kd.S (Kd.slice 3 (Kd.int .i64)) 24 w51 w.heap.size (fun _ => True) (.slice (some ad192) x9_2.length co9) y195) := ⟨by rw [hw_, Ny195.out]; exact S_swap HO_9.out (by have := pC_; have := qC_; omega) (by have := pK_; have := qK_; omega) hsC hsK⟩
 have n1_ : Aside0 (Below w.heap.size w w51) := ⟨by rw [hw_, eg9_.out, add_plain, add_plain]; exact (HB.out.setCell hB9_ _).setCell hB9_ _⟩
 clear HO_9 HB hsC hsK hfC hfK hbS hHeld hw_ hb9_ pC1_ qC1_ pK1_ qK1_
 have HO_9 := n0_
 have HB := n1_
 clear n0_ n1_
 have p196 : 0 ≤ (x73_2 : Int) := zD
 have q196 : x73_2 < (y195.length : Int) := (by have h_ : (x73_2 : Int) < ((x9_2.length : Int) : Int) := zD; first | (have e_ := (Kd.S_reads' HO_9.out).1; omega) | simpa only [Ny195.out, List.length_set] using h_)
 have ql196 : ((x73_2 : Int) < ((x9_2.length : Int) : Int)) = True := eq_true zD
 obtain ⟨ad196, A196_0, c196_0, e196, hx196_0, hl196_0, hi196_0⟩ := at_L2 (Kd.S_reads' HO_9.out).2.2 x73_2 p196 q196
 obtain rfl : ad192 = ad196 := (by injection e196)
 obtain ⟨ce196, hce196, hMe196, hcc196⟩ := Kd.S_get HO_9.out [] x73_2 p196 (by first | exact q196 | exact zD | (have e_ := (Kd.S_reads' HO_9.out).1; omega))
 obtain ⟨ve196_0, rfl, ge196_0⟩ := hMe196
 have hv196_0 := hcc196 0 _ rfl
 rw [Nat.add_zero, show ((Kd.slice 3 (Kd.int .i64))).sz = 1 from rfl, Nat.mul_one] at hv196_0
 replace hv196_0 := Option.some.inj (hv196_0.symm.trans hx196_0)
 rw [hv196_0] at ge196_0
 have HL196_0 := Aside0.mk (show Kd.R (Kd.int .i64) 3 _ _ _ _ (rd_L2 y195 x73_2) from ge196_0)
 clear hv196_0 ge196_0
 have HX196_0 := Aside0.mk hx196_0
 clear hcc196 hce196
 have HR196_0 := Aside0.mk hi196_0
 have HC196_0 := Aside0.mk hl196_0
 clear hi196_0 hl196_0
 replace p196 := eq_true p196
 replace q196 := eq_true q196
 have p197 : 0 ≤ (x73_2 : Int) := zD
 have q197 : x73_2 < ((rd_L2 y195 x73_2).length : Int) := zD
 obtain ⟨ad197, e197, hx197_0⟩ := Kd.at_int (by repeat (first | (with_reducible exact HR196_0.out) | (with_reducible refine Kd.C_alloc ?_ _) | (with_reducible refine Kd.C_drewN ?_ _) | (with_reducible refine Kd.C_drew ?_) | exact HR196_0.out)) x73_2 p197 q197
 cases e197
 replace p197 := eq_true p197
 replace q197 := eq_true q197
 go_wp2_with (first | ((with_reducible refine gate_callee (f := 53) rfl ?_); refine goesL_ (some 118) rfl rfl Try.func53 (by kernel_rfl) rfl #[.int .i64 (rd (rd_L2 y195 x73_2) x73_2)] rfl zL ?_; (with_reducible refine (impl_GfInv.calls kj36 (rd (rd_L2 y195 x73_2) x73_2) t198 _ A49.out).mono ?_); rintro e w' ⟨rfl, ⟨nd, rfl⟩⟩; refine ⟨_, rfl, ?_⟩; have p199 : 0 ≤ (x73_2 : Int) := zD; have q199 : x73_2 < (y195.length : Int) := (by have h_ : (x73_2 : Int) < ((x9_2.length : Int) : Int) := zD; first | (have e_ := (Kd.S_reads' HO_9.out).1; omega) | simpa only [Ny195.out, List.length_set] using h_); have ql199 : ((x73_2 : Int) < ((x9_2.length : Int) : Int)) = True := eq_true zD; obtain ⟨ad199, A199_0, c199_0, e199, hx199_0, hl199_0, hi199_0⟩ := at_L2 (Kd.S_reads' HO_9.out).2.2 x73_2 p199 q199; obtain rfl : ad192 = ad199 := (by injection e199); obtain ⟨ce199, hce199, hMe199, hcc199⟩ := Kd.S_get HO_9.out [] x73_2 p199 (by first | exact q199 | exact zD | (have e_ := (Kd.S_reads' HO_9.out).1; omega)); obtain ⟨ve199_0, rfl, ge199_0⟩ := hMe199; have hv199_0 := hcc199 0 _ rfl; rw [Nat.add_zero, show ((Kd.slice 3 (Kd.int .i64))).sz = 1 from rfl, Nat.mul_one] at hv199_0; replace hv199_0 := Option.some.inj (hv199_0.symm.trans hx199_0); rw [hv199_0] at ge199_0; have HL199_0 := Aside0.mk (show Kd.R (Kd.int .i64) 3 _ _ _ _ (rd_L2 y195 x73_2) from ge199_0); clear hv199_0 ge199_0; have HX199_0 := Aside0.mk hx199_0; clear hcc199 hce199; have HR199_0 := Aside0.mk hi199_0; have HC199_0 := Aside0.mk hl199_0; clear hi199_0 hl199_0; replace p199 := eq_true p199; replace q199 := eq_true q199; have ea_ := Option.some.inj (hx196_0.symm.trans hx199_0); injection ea_ with ea_ en_ ec_; subst ea_; subst ec_; clear en_))
 go_loopg [124] kj36 (fun kq v124 w' => ∃ (x9_4 : List (List Int)) (x124_4 : Int), v124 = .int .i64 x124_4 ∧ Aside0 (impl_fill.l4 kq l0 l1 (l1.length : Int) x9_4 x73_2 t198 (l1.length : Int) x73_2 ((rd_L2 y195 x73_2).length : Int) x124_4 = some (r1, r2)) ∧ Aside0 (kq ≤ kj36) ∧ Aside0 (Kd.S (Kd.slice 3 (Kd.int .i64)) 24 w' w.heap.size (fun _ => True) (.slice (some ad192) x9_2.length co9) x9_4) ∧ Aside0 (Below w.heap.size w w'))
 case atStart => exact ⟨(y195), (0), zO, H', ⟨Nat.le_refl _⟩, ⟨by (try simp only [hl9_1]); (try simp only [hl9_2]); (with_reducible repeat (first | apply Kd.S_alloc | apply Kd.S_drewN | apply Kd.S_drew)); exact HO_9.out⟩, ⟨zB⟩⟩
 case round => as_aux_lemma =>
 clear H'
 try clear c1
 try clear p1
 try clear q1
 try clear hx1
 try clear c2
 try clear p2
 try clear q2
 try clear hx2
 try clear c3
 try clear hx3
 try clear hf3
 try clear c4
 try clear p4
 try clear q4
 try clear hx4
 try clear qi4
 try clear hf4
 try clear c5
 try clear c5b0
 try clear c5b1
 try clear q5
 try clear c6
 try clear c6b0
 try clear c6b1
 try clear p6
 try clear c10
 try clear c10b0
 try clear c11
 try clear c11b0
 try clear c12
 try clear c12b0
 try clear c13
 try clear c13b0
 try clear c14
 try clear c14b0
 try clear c15
 try clear c15b0
 try clear c17
 try clear p17
 try clear q17
 try clear hx17
 try clear c18
 try clear p18
 try clear q18
 try clear hx18
 try clear c19
 try clear p19
 try clear q19
 try clear hx19
 try clear c20
 try clear c22
 try clear hx22
 try clear hf22
 try clear c25
 try clear c25b0
 try clear c26
 try clear c26b0
 try clear c28
 try clear p29
 try clear q29
 try clear c31
 try clear c33
 try clear hx33
 try clear hf33
 try clear c36
 try clear c36b0
 try clear c38
 try clear c38b0
 try clear c39
 try clear c39b0
 try clear c40
 try clear c40b0
 try clear c41
 try clear c41b0
 try clear c42
 try clear c42b0
 try clear c42b1
 try clear c43
 try clear c43b0
 try clear c43b1
 try clear c44
 try clear c44b0
 try clear c45
 try clear c45b0
 try clear c46
 try clear c46b0
 try clear c46b1
 try clear p47
 try clear q47
 try clear hx47
 try clear qi47
 try clear hf47
 try clear c48
 try clear c48b0
 try clear c50
 try clear q50
 try clear hx177_0
 try clear hx178_0
 try clear hx184_0
 try clear hx190_0
 try clear hx191_0
 try clear hx192_0
 try clear hx196_0
 try clear hx197_0
 try clear hx199_0
 try clear hx22_0
 try clear hx33_0
 try clear hx47_0
 try clear p1
 try clear p17
 try clear p177
 try clear p178
 try clear p18
 try clear p184
 try clear p19
 try clear p190
 try clear p191
 try clear p192
 try clear p196
 try clear p197
 try clear p199
 try clear p2
 try clear p29
 try clear p47
 try clear p6
 try clear q1
 try clear q17
 try clear q177
 try clear q178
 try clear q18
 try clear q184
 try clear q19
 try clear q190
 try clear q191
 try clear q192
 try clear q196
 try clear q197
 try clear q199
 try clear q2
 try clear q29
 try clear q47
 obtain ⟨x9_4, x124_4, rfl, HA, HK4, HO_9, HB⟩ := hrel
 have hl9_4 := (Kd.S_reads' HO_9.out).1
 rw [hl9_4] at HO_9
 (try simp only [hl9_4])
 cases gk with
 | zero => exact absurd HA.out (by simp [impl_fill.l4])
 | succ k4 =>
 have H := HA.out
 clear HA
 simp only [impl_fill.l4] at H
 by_cases c52 : x124_4 < ((rd_L2 y195 x73_2).length : Int)
 ·rw [if_pos c52] at H
  have c52b0 := decide_eq_true c52
  clear c52
  replace H := zg H
  obtain ⟨c53, H⟩ := H
  have c53b0 : decide (0 ≤ x73_2) = true := decide_eq_true c53
  clear c53
  replace H := zg H
  obtain ⟨c54, H⟩ := H
  have c54b0 : decide (x73_2 < (x9_4.length : Int)) = true := decide_eq_true c54
  clear c54
  replace H := zg H
  obtain ⟨c55, H⟩ := H
  have c55b0 : decide (0 ≤ x124_4) = true := decide_eq_true c55
  clear c55
  replace H := zg H
  obtain ⟨c56, H⟩ := H
  have c56b0 : decide (x124_4 < ((rd_L2 x9_4 x73_2).length : Int)) = true := decide_eq_true c56
  clear c56
  replace H := zi H
  obtain ⟨t203, A57, H⟩ := H
  obtain ⟨y204, hy204⟩ : ∃ y_ : List Int, y_ = ((rd_L2 x9_4 x73_2).set (x124_4 : Int).toNat t203) := ⟨_, rfl⟩
  replace H : (impl_fill.l4 k4 l0 l1 (l1.length : Int) (x9_4.set (x73_2 : Int).toNat y204) x73_2 t198 (l1.length : Int) x73_2 ((rd_L2 y195 x73_2).length : Int) (wrap64 (x124_4 + 1))) = some (r1, r2) := by first | (rw [hy204]; with_reducible exact H) | (have H2_ := (Option.bind_some _ _).symm.trans H; rw [hy204]; with_reducible exact H2_) | (have H2_ := (Option.bind_some _ _).symm.trans H; with_reducible exact H2_) | with_reducible exact H | (rw [hy204]; exact H) | exact H
  have Ny204 := Aside0.mk hy204
  clear hy204
  obtain ⟨y206, hy206⟩ : ∃ y_ : List (List Int), y_ = (x9_4.set (x73_2 : Int).toNat y204) := ⟨_, rfl⟩
  replace H : (impl_fill.l4 k4 l0 l1 (l1.length : Int) y206 x73_2 t198 (l1.length : Int) x73_2 ((rd_L2 y195 x73_2).length : Int) (wrap64 (x124_4 + 1))) = some (r1, r2) := by first | (rw [hy206]; with_reducible exact H) | (have H2_ := (Option.bind_some _ _).symm.trans H; rw [hy206]; with_reducible exact H2_) | (have H2_ := (Option.bind_some _ _).symm.trans H; with_reducible exact H2_) | with_reducible exact H | (rw [hy206]; exact H) | exact H
  have Ny206 := Aside0.mk hy206
  clear hy206
  have H' := Aside0.mk H
  clear H
  try go_wp2
  have n0_ := Aside0.mk (Kd.S_drew HO_9.out)
  have n1_ := Aside0.mk (below_drew1 HB.out)
  clear HO_9
  clear HB
  have HO_9 := n0_
  have HB := n1_
  clear n0_ n1_
  have p200 : 0 ≤ (x73_2 : Int) := zD
  have q200 : x73_2 < (x9_4.length : Int) := zD
  obtain ⟨ad200, A200_0, c200_0, e200, hx200_0, hl200_0, hi200_0⟩ := at_L2 (Kd.S_reads' HO_9.out).2.2 x73_2 p200 q200
  obtain rfl : ad192 = ad200 := (by injection e200)
  obtain ⟨ce200, hce200, hMe200, hcc200⟩ := Kd.S_get HO_9.out [] x73_2 p200 (by first | exact q200 | exact zD | (have e_ := (Kd.S_reads' HO_9.out).1; omega))
  obtain ⟨ve200_0, rfl, ge200_0⟩ := hMe200
  have hv200_0 := hcc200 0 _ rfl
  rw [Nat.add_zero, show ((Kd.slice 3 (Kd.int .i64))).sz = 1 from rfl, Nat.mul_one] at hv200_0
  replace hv200_0 := Option.some.inj (hv200_0.symm.trans hx200_0)
  rw [hv200_0] at ge200_0
  have HL200_0 := Aside0.mk (show Kd.R (Kd.int .i64) 3 _ _ _ _ (rd_L2 x9_4 x73_2) from ge200_0)
  clear hv200_0 ge200_0
  have HX200_0 := Aside0.mk hx200_0
  clear hcc200 hce200
  have HR200_0 := Aside0.mk hi200_0
  have HC200_0 := Aside0.mk hl200_0
  clear hi200_0 hl200_0
  replace p200 := eq_true p200
  replace q200 := eq_true q200
  have p201 : 0 ≤ (x73_2 : Int) := zD
  have q201 : x73_2 < (x9_4.length : Int) := zD
  obtain ⟨ad201, A201_0, c201_0, e201, hx201_0, hl201_0, hi201_0⟩ := at_L2 (Kd.S_reads' HO_9.out).2.2 x73_2 p201 q201
  obtain rfl : ad192 = ad201 := (by injection e201)
  obtain ⟨ce201, hce201, hMe201, hcc201⟩ := Kd.S_get HO_9.out [] x73_2 p201 (by first | exact q201 | exact zD | (have e_ := (Kd.S_reads' HO_9.out).1; omega))
  obtain ⟨ve201_0, rfl, ge201_0⟩ := hMe201
  have hv201_0 := hcc201 0 _ rfl
  rw [Nat.add_zero, show ((Kd.slice 3 (Kd.int .i64))).sz = 1 from rfl, Nat.mul_one] at hv201_0
  replace hv201_0 := Option.some.inj (hv201_0.symm.trans hx201_0)
  rw [hv201_0] at ge201_0
  have HL201_0 := Aside0.mk (show Kd.R (Kd.int .i64) 3 _ _ _ _ (rd_L2 x9_4 x73_2) from ge201_0)
  clear hv201_0 ge201_0
  have HX201_0 := Aside0.mk hx201_0
  clear hcc201 hce201
  have HR201_0 := Aside0.mk hi201_0
  have HC201_0 := Aside0.mk hl201_0
  clear hi201_0 hl201_0
  replace p201 := eq_true p201
  replace q201 := eq_true q201
  have ea_ := Option.some.inj (hx200_0.symm.trans hx201_0)
  injection ea_ with ea_ en_ ec_
  subst ea_
  subst ec_
  clear en_
  have p202 : 0 ≤ (x124_4 : Int) := zD
  have q202 : x124_4 < ((rd_L2 x9_4 x73_2).length : Int) := zD
  obtain ⟨ad202, e202, hx202_0⟩ := Kd.at_int (by repeat (first | (with_reducible exact HR201_0.out) | (with_reducible refine Kd.C_alloc ?_ _) | (with_reducible refine Kd.C_drewN ?_ _) | (with_reducible refine Kd.C_drew ?_) | exact HR201_0.out)) x124_4 p202 q202
  cases e202
  replace p202 := eq_true p202
  replace q202 := eq_true q202
  refine start_ (n := 16) (S := fun w' => w'.cell? (ad192.add (x73_2).toNat) = some (.slice (some ad202) (rd_L2 x9_4 x73_2).length c200_0) ∧ w'.cell? (ad192.add (x73_2).toNat) = some (.slice (some ad202) (rd_L2 x9_4 x73_2).length c200_0) ∧ w'.cell? (ad202.add (x124_4).toNat) = some (.int .i64 (rd (rd_L2 x9_4 x73_2) x124_4))) (ds := [15]) impl_fill.mk_33 (by kernel_rfl) rfl rfl ⟨hx200_0, hx201_0, hx202_0⟩ (fun hHeld => ?_); refine with_tabW impl_fill.tab26 impl_fill.bits26 (fun HT_ HW_ => ?_)
  generalize wr.drew = w59 at HO_9 HB HL200_0 HL201_0 HR200_0 HR201_0 HX200_0 HX201_0 hx200_0 hx201_0 hx202_0 hHeld ⊢
  refine zP 0 127 impl_fill.mk_34 ?_
  refine zP 1 128 impl_fill.mk_35 ?_
  refine zP 2 129 impl_fill.mk_36 ?_
  refine zP 4 131 impl_fill.mk_50 ?_
  refine zP 5 132 impl_fill.mk_51 ?_
  refine zP 6 133 impl_fill.mk_52 ?_
  refine zP 7 134 impl_fill.mk_53 ?_
  refine zP 9 136 impl_fill.mk_54 ?_
  refine zP 12 139 impl_fill.mk_55 ?_
  refine zT3 3 130 impl_fill.mk_56 ?_
  refine zT3 8 135 impl_fill.mk_57 ?_
  refine zP 10 137 impl_fill.mk_58 ?_
  refine zT3 11 138 impl_fill.mk_46 ?_
  refine one_ (i := 13) (N := some 140) impl_fill.mk_47 rfl rfl (one_of HT_.out (by kernel_rfl)) (by decide) (fun K hK => ?_)
  refine goes_ Try.func35 (by kernel_rfl) rfl #[.int .i64 (rd (rd_L2 x9_4 x73_2) x124_4), .int .i64 t198] (by rfl) rfl rfl zL ?_
  with_reducible refine (impl_GfMul.calls k4 (rd (rd_L2 x9_4 x73_2) x124_4) t198 t203 _ A57.out).mono ?_
  rintro e w' ⟨rfl, ⟨nd, rfl⟩⟩
  refine ⟨_, rfl, ?_⟩
  have p58 : 0 ≤ (x124_4 : Int) := zD
  have q58 : (x124_4 : Int) < (((rd_L2 x9_4 x73_2).length : Int) : Int) := zD
  obtain ⟨go58, co58, eo58, gb58, gl58, cl58, HG58⟩ := Kd.R_form HL200_0.out (by omega)
  (first | cases eo58 | (injection eo58 with ea_ en_ ec_; (first | subst ea_ | (injection ea_ with ea_; subst ea_)); subst ec_; clear en_))
  have GB58 := Aside0.mk gb58
  have GG58 := Aside0.mk HG58
  clear gb58 gl58 HG58
  (first | simp only [add_plain] at hx202_0 | skip)
  obtain ⟨hx58_0, hf58_0⟩ := Kd.R_celln 0 HL200_0.out (x124_4 : Int) p58 q58
  replace p58 := eq_true p58
  replace q58 := eq_true q58
  have hq60 : (x73_2 : Int) < (x9_4.length : Int) := (by have h_ : (x73_2 : Int) < ((x9_4.length : Int) : Int) := zD; first | exact h_ | (have e_ := (Kd.S_reads' HO_9.out).1; omega) | simpa only [List.length_set, List.length_set] using h_)
  obtain ⟨oki60, ce60, hcl60, hM60, hcc60, hok60, hbk60⟩ := Kd.S_borrow HO_9.out [] (x73_2 : Int) zD hq60
  obtain ⟨ve60_0, rfl, ge60_0⟩ := hM60
  have hv60 := hcc60 0 _ rfl
  rw [Nat.add_zero, show ((Kd.slice 3 (Kd.int .i64))).sz = 1 from rfl, Nat.mul_one] at hv60
  replace hv60 := Option.some.inj (hv60.symm.trans HX200_0.out)
  subst hv60
  clear hcc60 hcl60
  replace ge60_0 := (show Kd.R (Kd.int .i64) 3 _ _ _ _ (rd_L2 x9_4 x73_2) from ge60_0)
  have HP60 := Kd.R_putg ge60_0 (x124_4 : Int) t203
  rw [← Ny204.out] at HP60
  have HS60 := hbk60 HP60.2 (fun k_ e_ => by injection e_ with e_; subst e_; exact ge60_0.1 _ rfl) (x' := y204) (Kd.M_row HP60.1)
  rw [← Ny206.out] at HS60
  have HQ60 := Aside0.mk HS60
  clear HP60 HS60 hbk60 hok60
  refine hK.out _ _ ⟨hHeld.1, hHeld.2.1, hHeld.2.2⟩ (fun hHeld => ?_)
  clear hK K
  refine norm_ (a' := ?_) ?_ ?_
  rotate_left
  ·show Act.put _ (some 140) _ = _
   simp only [Act.put, List.setIfInBounds_toArray, List.set_cons_zero, List.set_cons_succ, i64_w, i32_w]
   rfl
  refine zP 14 141 impl_fill.mk_48 ?_
  refine last_ (i := 15) (N := none) impl_fill.mk_49 rfl rfl (one_of HT_.out (by kernel_rfl)) (by decide) (fun K hK => ?_)
  refine skip_ (w1 := ?_) (by rfl) rfl ?_ ?_
  rotate_left
  ·go_simp
   rfl
  refine hK.out _ _ ?_
  clear hK K
  refine done_ (done_of HT_.out (by kernel_rfl)) ?_
  try go_wp2
  (try simp only [← hl9_4])
  go_roundg k4
  case measure => have := HK1.out; have := HK2.out; have := HJ36.out; have := HK4.out; omega
  case rel => exact ⟨(y206), (wrap64 (x124_4 + 1)), zO, H', ⟨by have := HK1.out; have := HK2.out; have := HJ36.out; have := HK4.out; omega⟩, ⟨by (try simp only [hl9_1]); (try simp only [hl9_2]); (try simp only [hl9_4]); (with_reducible repeat (first | apply Kd.S_alloc | apply Kd.S_drewN | apply Kd.S_drew)); exact HQ60.out⟩, ⟨by repeat (first | (with_reducible first | exact HB.out | apply below_alloc | apply pw_below_drewN | apply below_drew1 | refine below_set ?_ GB58.out) | exact HB.out)⟩⟩
 rw [if_neg c52] at H
 have c52b0 := decide_eq_false c52
 clear c52
 have H' := Aside0.mk H
 clear H
 go_wp2
 go_loopg [145] k4 (fun kq v145 w' => ∃ (x9_5 : List (List Int)) (x145_5 : Int), v145 = .int .i64 x145_5 ∧ Aside0 (impl_fill.l5 kq l0 l1 (l1.length : Int) x9_5 x73_2 (l1.length : Int) x73_2 (x9_4.length : Int) x145_5 = some (r1, r2)) ∧ Aside0 (kq ≤ k4) ∧ Aside0 (Kd.S (Kd.slice 3 (Kd.int .i64)) 24 w' w.heap.size (fun _ => True) (.slice (some ad192) x9_4.length co9) x9_5) ∧ Aside0 (Below w.heap.size w w'))
 case atStart => exact ⟨(x9_4), (0), zO, H', ⟨Nat.le_refl _⟩, ⟨by (try simp only [hl9_1]); (try simp only [hl9_2]); (try simp only [hl9_4]); (with_reducible repeat (first | apply Kd.S_alloc | apply Kd.S_drewN | apply Kd.S_drew)); exact HO_9.out⟩, ⟨zB⟩⟩
 case round => as_aux_lemma =>
 clear H'
 try clear c1
 try clear p1
 try clear q1
 try clear hx1
 try clear c2
 try clear p2
 try clear q2
 try clear hx2
 try clear c3
 try clear hx3
 try clear hf3
 try clear c4
 try clear p4
 try clear q4
 try clear hx4
 try clear qi4
 try clear hf4
 try clear c5
 try clear c5b0
 try clear c5b1
 try clear p5
 try clear q5
 try clear hx5
 try clear hf5
 try clear c6
 try clear c6b0
 try clear c6b1
 try clear p6
 try clear q6
 try clear c10
 try clear c10b0
 try clear c11
 try clear c11b0
 try clear c12
 try clear c12b0
 try clear c13
 try clear c13b0
 try clear c14
 try clear c14b0
 try clear c15
 try clear c15b0
 try clear c17
 try clear p17
 try clear q17
 try clear hx17
 try clear c18
 try clear p18
 try clear q18
 try clear hx18
 try clear c19
 try clear p19
 try clear q19
 try clear hx19
 try clear c20
 try clear p20
 try clear q20
 try clear hx20
 try clear c22
 try clear hx22
 try clear hf22
 try clear c25
 try clear c25b0
 try clear c26
 try clear c26b0
 try clear c28
 try clear p29
 try clear q29
 try clear c31
 try clear c33
 try clear hx33
 try clear hf33
 try clear c35
 try clear c36
 try clear c36b0
 try clear c38
 try clear c38b0
 try clear c39
 try clear c39b0
 try clear c40
 try clear c40b0
 try clear c41
 try clear c41b0
 try clear c42
 try clear c42b0
 try clear c42b1
 try clear c43
 try clear c43b0
 try clear c43b1
 try clear c44
 try clear c44b0
 try clear c45
 try clear c45b0
 try clear c46
 try clear c46b0
 try clear c46b1
 try clear p47
 try clear q47
 try clear hx47
 try clear qi47
 try clear hf47
 try clear c48
 try clear c48b0
 try clear c50
 try clear q50
 try clear c52
 try clear c52b0
 try clear c53
 try clear c53b0
 try clear c54
 try clear c54b0
 try clear c55
 try clear c55b0
 try clear c56
 try clear c56b0
 try clear p58
 try clear q58
 try clear hx58
 try clear hf58
 try clear c60
 try clear q60
 try clear hx177_0
 try clear hx178_0
 try clear hx184_0
 try clear hx190_0
 try clear hx191_0
 try clear hx192_0
 try clear hx196_0
 try clear hx197_0
 try clear hx199_0
 try clear hx200_0
 try clear hx201_0
 try clear hx202_0
 try clear hx22_0
 try clear hx33_0
 try clear hx47_0
 try clear hx58_0
 try clear p1
 try clear p17
 try clear p177
 try clear p178
 try clear p18
 try clear p184
 try clear p19
 try clear p190
 try clear p191
 try clear p192
 try clear p196
 try clear p197
 try clear p199
 try clear p2
 try clear p200
 try clear p201
 try clear p202
 try clear p29
 try clear p4
 try clear p47
 try clear p58
 try clear p6
 try clear q1
 try clear q17
 try clear q177
 try clear q178
 try clear q18
 try clear q184
 try clear q19
 try clear q190
 try clear q191
 try clear q192
 try clear q196
 try clear q197
 try clear q199
 try clear q2
 try clear q200
 try clear q201
 try clear q202
 try clear q29
 try clear q4
 try clear q47
 try clear q5
 try clear q50
 try clear q58
 obtain ⟨x9_5, x145_5, rfl, HA, HK5, HO_9, HB⟩ := hrel
 have hl9_5 := (Kd.S_reads' HO_9.out).1
 rw [hl9_5] at HO_9
 (try simp only [hl9_5])
 cases gk with
 | zero => exact absurd HA.out (by simp [impl_fill.l5])
 | succ k5 =>
 have H := HA.out
 clear HA
 simp only [impl_fill.l5] at H
 by_cases c62 : x145_5 < (x9_4.length : Int)
 rotate_left
 ·rw [if_neg c62] at H
  have c62b0 := decide_eq_false c62
  try rw [hl9_5] at c62b0
  clear c62
  have H' := Aside0.mk H
  clear H
  go_wp2
  (try simp only [← hl9_2, ← hl9_4, ← hl9_5])
  go_roundg k5
  case measure => have := HK1.out; have := HK2.out; have := HJ36.out; have := HK4.out; have := HK5.out; omega
  case rel => exact ⟨(x9_5), (wrap64 (x73_2 + 1)), zO, H', ⟨by have := HK1.out; have := HK2.out; have := HJ36.out; have := HK4.out; have := HK5.out; omega⟩, ⟨by (try simp only [hl9_1]); (try simp only [hl9_2]); (try simp only [hl9_4]); (try simp only [hl9_5]); (with_reducible repeat (first | apply Kd.S_alloc | apply Kd.S_drewN | apply Kd.S_drew)); exact HO_9.out⟩, ⟨zB⟩⟩
 rw [if_pos c62] at H
 have c62b0 := decide_eq_true c62
 clear c62
 replace H := zg H
 obtain ⟨c63, H⟩ := H
 have c63b0 : decide (0 ≤ x145_5) = true := decide_eq_true c63
 clear c63
 replace H := zg H
 obtain ⟨c64, H⟩ := H
 have c64b0 : decide (x145_5 < (x9_5.length : Int)) = true := decide_eq_true c64
 clear c64
 replace H := zg H
 obtain ⟨c65, H⟩ := H
 have c65b0 : decide (0 ≤ x73_2) = true := decide_eq_true c65
 clear c65
 replace H := zg H
 obtain ⟨c66, H⟩ := H
 have c66b0 : decide (x73_2 < ((rd_L2 x9_5 x145_5).length : Int)) = true := decide_eq_true c66
 clear c66
 have HC67 := Aside0.mk H
 clear H
 have p207 : 0 ≤ (x145_5 : Int) := zD
 have q207 : x145_5 < (x9_5.length : Int) := zD
 obtain ⟨ad207, A207_0, c207_0, e207, hx207_0, hl207_0, hi207_0⟩ := at_L2 (Kd.S_reads' HO_9.out).2.2 x145_5 p207 q207
 obtain rfl : ad192 = ad207 := (by injection e207)
 obtain ⟨ce207, hce207, hMe207, hcc207⟩ := Kd.S_get HO_9.out [] x145_5 p207 (by first | exact q207 | exact zD | (have e_ := (Kd.S_reads' HO_9.out).1; omega))
 obtain ⟨ve207_0, rfl, ge207_0⟩ := hMe207
 have hv207_0 := hcc207 0 _ rfl
 rw [Nat.add_zero, show ((Kd.slice 3 (Kd.int .i64))).sz = 1 from rfl, Nat.mul_one] at hv207_0
 replace hv207_0 := Option.some.inj (hv207_0.symm.trans hx207_0)
 rw [hv207_0] at ge207_0
 have HL207_0 := Aside0.mk (show Kd.R (Kd.int .i64) 3 _ _ _ _ (rd_L2 x9_5 x145_5) from ge207_0)
 clear hv207_0 ge207_0
 have HX207_0 := Aside0.mk hx207_0
 clear hcc207 hce207
 have HR207_0 := Aside0.mk hi207_0
 have HC207_0 := Aside0.mk hl207_0
 clear hi207_0 hl207_0
 replace p207 := eq_true p207
 replace q207 := eq_true q207
 have p208 : 0 ≤ (x73_2 : Int) := zD
 have q208 : x73_2 < ((rd_L2 x9_5 x145_5).length : Int) := zD
 obtain ⟨ad208, e208, hx208_0⟩ := Kd.at_int (by repeat (first | (with_reducible exact HR207_0.out) | (with_reducible refine Kd.C_alloc ?_ _) | (with_reducible refine Kd.C_drewN ?_ _) | (with_reducible refine Kd.C_drew ?_) | exact HR207_0.out)) x73_2 p208 q208
 cases e208
 replace p208 := eq_true p208
 replace q208 := eq_true q208
 go_upto_region 32 with (fail)
 go_cut [161] (fun v161 wc => ∃ (kq : Nat) (x161_66 : Bool), v161 = .bool x161_66 ∧ Aside0 (impl_fill.j7 kq l0 l1 (l1.length : Int) x9_5 x73_2 x145_5 (rd (rd_L2 x9_5 x145_5) x73_2) (l1.length : Int) x73_2 (x9_4.length : Int) x145_5 x161_66 = some (r1, r2)) ∧ Aside0 (kq ≤ k5) ∧ Aside0 (Kd.S (Kd.slice 3 (Kd.int .i64)) 24 wc w.heap.size (fun _ => True) (.slice (some ad192) x9_5.length co9) x9_5) ∧ Aside0 (Kd.C (Kd.int .i64) wc (some ad208) (rd_L2 x9_5 x145_5).length (rd_L2 x9_5 x145_5)) ∧ Aside0 (Below w.heap.size w wc))
 case first =>
  have H := HC67.out
  clear HC67
  by_cases c68 : x145_5 = x73_2
  rotate_left
  ·rw [if_neg c68] at H
   have c68b0 : (x145_5 == x73_2) = false := beq_eq_false_iff_ne.mpr c68
   have c68b1 : (x145_5 != x73_2) = true := bne_iff_ne.mpr c68
   (first | rw [c68b0] | (simp only [i64_w, i32_w]; rw [c68b0]) | skip)
   have H' := Aside0.mk H
   clear H
   go_wp2
   go_meet
   case rel => exact ⟨_, (((rd (rd_L2 x9_5 x145_5) x73_2) != 0)), zO, H', ⟨by have := HK1.out; have := HK2.out; have := HJ36.out; have := HK4.out; have := HK5.out; first | omega | exact Nat.le_refl _⟩, ⟨by (try simp only [hl9_1]); (try simp only [hl9_2]); (try simp only [hl9_4]); (try simp only [hl9_5]); (with_reducible repeat (first | apply Kd.S_alloc | apply Kd.S_drewN | apply Kd.S_drew)); exact HO_9.out⟩, ⟨by repeat (first | (with_reducible exact HR207_0.out) | (with_reducible refine Kd.C_alloc ?_ _) | (with_reducible refine Kd.C_drewN ?_ _) | (with_reducible refine Kd.C_drew ?_) | exact HR207_0.out)⟩, ⟨zB⟩⟩
  rw [if_pos c68] at H
  have c68b0 : (x145_5 == x73_2) = true := beq_iff_eq.mpr c68
  have c68b1 : (x145_5 != x73_2) = false := bne_eq_false_iff_eq.mpr c68
  clear c68
  (first | rw [c68b0] | (simp only [i64_w, i32_w]; rw [c68b0]) | skip)
  have H' := Aside0.mk H
  clear H
  go_wp2
  go_meet
  case rel => exact ⟨_, (false), zO, H', ⟨by have := HK1.out; have := HK2.out; have := HJ36.out; have := HK4.out; have := HK5.out; first | omega | exact Nat.le_refl _⟩, ⟨by (try simp only [hl9_1]); (try simp only [hl9_2]); (try simp only [hl9_4]); (try simp only [hl9_5]); (with_reducible repeat (first | apply Kd.S_alloc | apply Kd.S_drewN | apply Kd.S_drew)); exact HO_9.out⟩, ⟨by repeat (first | (with_reducible exact HR207_0.out) | (with_reducible refine Kd.C_alloc ?_ _) | (with_reducible refine Kd.C_drewN ?_ _) | (with_reducible refine Kd.C_drew ?_) | exact HR207_0.out)⟩, ⟨zB⟩⟩
 case rest =>
 clear HC67
 try clear c1
 try clear p1
 try clear q1
 try clear hx1
 try clear c2
 try clear p2
 try clear q2
 try clear hx2
 try clear c3
 try clear hx3
 try clear hf3
 try clear c4
 try clear p4
 try clear q4
 try clear hx4
 try clear qi4
 try clear hf4
 try clear c5
 try clear c5b0
 try clear c5b1
 try clear p5
 try clear q5
 try clear hx5
 try clear hf5
 try clear c6
 try clear c6b0
 try clear c6b1
 try clear p6
 try clear q6
 try clear c10
 try clear c10b0
 try clear c11
 try clear c11b0
 try clear c12
 try clear c12b0
 try clear c13
 try clear c13b0
 try clear c14
 try clear c14b0
 try clear c15
 try clear c15b0
 try clear c17
 try clear p17
 try clear q17
 try clear hx17
 try clear c18
 try clear p18
 try clear q18
 try clear hx18
 try clear c19
 try clear p19
 try clear q19
 try clear hx19
 try clear c20
 try clear p20
 try clear q20
 try clear hx20
 try clear c22
 try clear hx22
 try clear hf22
 try clear c25
 try clear c25b0
 try clear c26
 try clear c26b0
 try clear c28
 try clear p29
 try clear q29
 try clear c31
 try clear c33
 try clear hx33
 try clear hf33
 try clear c35
 try clear c36
 try clear c36b0
 try clear c38
 try clear c38b0
 try clear c39
 try clear c39b0
 try clear c40
 try clear c40b0
 try clear c41
 try clear c41b0
 try clear c42
 try clear c42b0
 try clear c42b1
 try clear c43
 try clear c43b0
 try clear c43b1
 try clear c44
 try clear c44b0
 try clear c45
 try clear c45b0
 try clear c46
 try clear c46b0
 try clear c46b1
 try clear p47
 try clear q47
 try clear hx47
 try clear qi47
 try clear hf47
 try clear c48
 try clear c48b0
 try clear c50
 try clear q50
 try clear c52
 try clear c52b0
 try clear c53
 try clear c53b0
 try clear c54
 try clear c54b0
 try clear c55
 try clear c55b0
 try clear c56
 try clear c56b0
 try clear p58
 try clear q58
 try clear hx58
 try clear hf58
 try clear c60
 try clear q60
 try clear c62
 try clear c62b0
 try clear c63
 try clear c63b0
 try clear c64
 try clear c64b0
 try clear p64
 try clear c65
 try clear c65b0
 try clear c66
 try clear c66b0
 try clear c68
 try clear c68b0
 try clear c68b1
 try clear hx177_0
 try clear hx178_0
 try clear hx184_0
 try clear hx190_0
 try clear hx191_0
 try clear hx192_0
 try clear hx196_0
 try clear hx197_0
 try clear hx199_0
 try clear hx200_0
 try clear hx201_0
 try clear hx202_0
 try clear hx207_0
 try clear hx208_0
 try clear hx22_0
 try clear hx33_0
 try clear hx47_0
 try clear hx58_0
 try clear p1
 try clear p17
 try clear p177
 try clear p178
 try clear p18
 try clear p184
 try clear p19
 try clear p190
 try clear p191
 try clear p192
 try clear p196
 try clear p197
 try clear p199
 try clear p2
 try clear p20
 try clear p200
 try clear p201
 try clear p202
 try clear p207
 try clear p208
 try clear p29
 try clear p4
 try clear p47
 try clear p5
 try clear p58
 try clear p6
 try clear q1
 try clear q17
 try clear q177
 try clear q178
 try clear q18
 try clear q184
 try clear q19
 try clear q190
 try clear q191
 try clear q192
 try clear q196
 try clear q197
 try clear q199
 try clear q2
 try clear q20
 try clear q200
 try clear q201
 try clear q202
 try clear q207
 try clear q208
 try clear q29
 try clear q4
 try clear q47
 try clear q5
 try clear q50
 try clear q58
 try clear q6
 try clear q60
 obtain ⟨kq, x161_66, rfl, HA, HJ66, HO_9, HR207_0, HB⟩ := hcut
 cases kq with
 | zero => exact absurd HA.out (by simp [impl_fill.j7])
 | succ kj66 =>
 have H := HA.out
 clear HA
 simp only [impl_fill.j7] at H
 by_cases c69 : x161_66 = true
 rotate_left
 ·replace c69 := Bool.eq_false_iff.mpr c69
  subst c69
  have H1 : (impl_fill.l5 kj66 l0 l1 (l1.length : Int) x9_5 x73_2 (l1.length : Int) x73_2 (x9_4.length : Int) (wrap64 (x145_5 + 1))) = some (r1, r2) := by rw [if_neg (show ¬ (false = true) by decide)] at H; exact H
  clear H
  have H := H1
  clear H1
  have H' := Aside0.mk H
  clear H
  go_wp2
  (try simp only [← hl9_5])
  go_roundg kj66
  case measure => have := HK1.out; have := HK2.out; have := HJ36.out; have := HK4.out; have := HK5.out; have := HJ66.out; omega
  case rel => exact ⟨(x9_5), (wrap64 (x145_5 + 1)), zO, H', ⟨by have := HK1.out; have := HK2.out; have := HJ36.out; have := HK4.out; have := HK5.out; have := HJ66.out; omega⟩, ⟨by (try simp only [hl9_1]); (try simp only [hl9_2]); (try simp only [hl9_4]); (try simp only [hl9_5]); (with_reducible repeat (first | apply Kd.S_alloc | apply Kd.S_drewN | apply Kd.S_drew)); exact HO_9.out⟩, ⟨zB⟩⟩
 subst c69
 have H1 : (if 0 ≤ x145_5 then (if x145_5 < (x9_5.length : Int) then (impl_fill.l6 kj66 l0 l1 (l1.length : Int) x9_5 x73_2 x145_5 (rd (rd_L2 x9_5 x145_5) x73_2) (l1.length : Int) x73_2 (x9_4.length : Int) x145_5 ((rd_L2 x9_5 x145_5).length : Int) 0) else (none)) else (none)) = some (r1, r2) := by rw [if_pos rfl] at H; exact H
 clear H
 have H := H1
 clear H1
 replace H := zg H
 obtain ⟨c70, H⟩ := H
 have c70b0 : decide (0 ≤ x145_5) = true := decide_eq_true c70
 clear c70
 replace H := zg H
 obtain ⟨c71, H⟩ := H
 have c71b0 : decide (x145_5 < (x9_5.length : Int)) = true := decide_eq_true c71
 clear c71
 have H' := Aside0.mk H
 clear H
 have p209 : 0 ≤ (x145_5 : Int) := zD
 have q209 : x145_5 < (x9_5.length : Int) := zD
 obtain ⟨ad209, A209_0, c209_0, e209, hx209_0, hl209_0, hi209_0⟩ := at_L2 (Kd.S_reads' HO_9.out).2.2 x145_5 p209 q209
 obtain rfl : ad192 = ad209 := (by injection e209)
 obtain ⟨ce209, hce209, hMe209, hcc209⟩ := Kd.S_get HO_9.out [] x145_5 p209 (by first | exact q209 | exact zD | (have e_ := (Kd.S_reads' HO_9.out).1; omega))
 obtain ⟨ve209_0, rfl, ge209_0⟩ := hMe209
 have hv209_0 := hcc209 0 _ rfl
 rw [Nat.add_zero, show ((Kd.slice 3 (Kd.int .i64))).sz = 1 from rfl, Nat.mul_one] at hv209_0
 replace hv209_0 := Option.some.inj (hv209_0.symm.trans hx209_0)
 rw [hv209_0] at ge209_0
 have HL209_0 := Aside0.mk (show Kd.R (Kd.int .i64) 3 _ _ _ _ (rd_L2 x9_5 x145_5) from ge209_0)
 clear hv209_0 ge209_0
 have HX209_0 := Aside0.mk hx209_0
 clear hcc209 hce209
 have HR209_0 := Aside0.mk hi209_0
 have HC209_0 := Aside0.mk hl209_0
 clear hi209_0 hl209_0
 replace p209 := eq_true p209
 replace q209 := eq_true q209
 go_wp2
 go_loopg [167] kj66 (fun kq v167 w' => ∃ (x9_7 : List (List Int)) (x167_7 : Int), v167 = .int .i64 x167_7 ∧ Aside0 (impl_fill.l6 kq l0 l1 (l1.length : Int) x9_7 x73_2 x145_5 (rd (rd_L2 x9_5 x145_5) x73_2) (l1.length : Int) x73_2 (x9_4.length : Int) x145_5 ((rd_L2 x9_5 x145_5).length : Int) x167_7 = some (r1, r2)) ∧ Aside0 (kq ≤ kj66) ∧ Aside0 (Kd.S (Kd.slice 3 (Kd.int .i64)) 24 w' w.heap.size (fun _ => True) (.slice (some ad192) x9_5.length co9) x9_7) ∧ Aside0 (Below w.heap.size w w'))
 case atStart => exact ⟨(x9_5), (0), zO, H', ⟨Nat.le_refl _⟩, ⟨by (try simp only [hl9_1]); (try simp only [hl9_2]); (try simp only [hl9_4]); (try simp only [hl9_5]); (with_reducible repeat (first | apply Kd.S_alloc | apply Kd.S_drewN | apply Kd.S_drew)); exact HO_9.out⟩, ⟨zB⟩⟩
 case round => as_aux_lemma =>
 clear H'
 try clear c1
 try clear p1
 try clear q1
 try clear hx1
 try clear c2
 try clear p2
 try clear q2
 try clear hx2
 try clear c3
 try clear hx3
 try clear hf3
 try clear c4
 try clear p4
 try clear q4
 try clear hx4
 try clear qi4
 try clear hf4
 try clear c5
 try clear c5b0
 try clear c5b1
 try clear p5
 try clear q5
 try clear hx5
 try clear hf5
 try clear c6
 try clear c6b0
 try clear c6b1
 try clear p6
 try clear q6
 try clear c7
 try clear c10
 try clear c10b0
 try clear c11
 try clear c11b0
 try clear c12
 try clear c12b0
 try clear c13
 try clear c13b0
 try clear c14
 try clear c14b0
 try clear c15
 try clear c15b0
 try clear c17
 try clear p17
 try clear q17
 try clear hx17
 try clear c18
 try clear p18
 try clear q18
 try clear hx18
 try clear c19
 try clear p19
 try clear q19
 try clear hx19
 try clear c20
 try clear p20
 try clear q20
 try clear hx20
 try clear c22
 try clear hx22
 try clear hf22
 try clear c25
 try clear c25b0
 try clear c26
 try clear c26b0
 try clear c28
 try clear p29
 try clear q29
 try clear c31
 try clear c33
 try clear hx33
 try clear hf33
 try clear c35
 try clear c36
 try clear c36b0
 try clear c38
 try clear c38b0
 try clear c39
 try clear c39b0
 try clear c40
 try clear c40b0
 try clear c41
 try clear c41b0
 try clear c42
 try clear c42b0
 try clear c42b1
 try clear c43
 try clear c43b0
 try clear c43b1
 try clear c44
 try clear c44b0
 try clear c45
 try clear c45b0
 try clear c46
 try clear c46b0
 try clear c46b1
 try clear p47
 try clear q47
 try clear hx47
 try clear qi47
 try clear hf47
 try clear c48
 try clear c48b0
 try clear c50
 try clear q50
 try clear c52
 try clear c52b0
 try clear c53
 try clear c53b0
 try clear c54
 try clear c54b0
 try clear c55
 try clear c55b0
 try clear c56
 try clear c56b0
 try clear p58
 try clear q58
 try clear hx58
 try clear hf58
 try clear c60
 try clear q60
 try clear c62
 try clear c62b0
 try clear c63
 try clear c63b0
 try clear c64
 try clear c64b0
 try clear p64
 try clear c65
 try clear c65b0
 try clear c66
 try clear c66b0
 try clear c68
 try clear c68b0
 try clear c68b1
 try clear c69
 try clear c70
 try clear c70b0
 try clear c71
 try clear c71b0
 try clear hx177_0
 try clear hx178_0
 try clear hx184_0
 try clear hx190_0
 try clear hx191_0
 try clear hx192_0
 try clear hx196_0
 try clear hx197_0
 try clear hx199_0
 try clear hx200_0
 try clear hx201_0
 try clear hx202_0
 try clear hx207_0
 try clear hx208_0
 try clear hx209_0
 try clear hx22_0
 try clear hx33_0
 try clear hx47_0
 try clear hx58_0
 try clear p1
 try clear p17
 try clear p177
 try clear p178
 try clear p18
 try clear p184
 try clear p19
 try clear p190
 try clear p191
 try clear p192
 try clear p196
 try clear p197
 try clear p199
 try clear p2
 try clear p20
 try clear p200
 try clear p201
 try clear p202
 try clear p207
 try clear p208
 try clear p209
 try clear p29
 try clear p4
 try clear p47
 try clear p5
 try clear p58
 try clear p6
 try clear p64
 try clear q1
 try clear q17
 try clear q177
 try clear q178
 try clear q18
 try clear q184
 try clear q19
 try clear q190
 try clear q191
 try clear q192
 try clear q196
 try clear q197
 try clear q199
 try clear q2
 try clear q20
 try clear q200
 try clear q201
 try clear q202
 try clear q207
 try clear q208
 try clear q209
 try clear q29
 try clear q4
 try clear q47
 try clear q5
 try clear q50
 try clear q58
 try clear q6
 try clear q60
 obtain ⟨x9_7, x167_7, rfl, HA, HK7, HO_9, HB⟩ := hrel
 have hl9_7 := (Kd.S_reads' HO_9.out).1
 rw [hl9_7] at HO_9
 (try simp only [hl9_7])
 cases gk with
 | zero => exact absurd HA.out (by simp [impl_fill.l6])
 | succ k7 =>
 have H := HA.out
 clear HA
 simp only [impl_fill.l6] at H
 by_cases c72 : x167_7 < ((rd_L2 x9_5 x145_5).length : Int)
 rotate_left
 ·rw [if_neg c72] at H
  have c72b0 := decide_eq_false c72
  clear c72
  have H' := Aside0.mk H
  clear H
  go_wp2
  (try simp only [← hl9_5, ← hl9_7])
  go_roundg k7
  case measure => have := HK1.out; have := HK2.out; have := HJ36.out; have := HK4.out; have := HK5.out; have := HJ66.out; have := HK7.out; omega
  case rel => exact ⟨(x9_7), (wrap64 (x145_5 + 1)), zO, H', ⟨by have := HK1.out; have := HK2.out; have := HJ36.out; have := HK4.out; have := HK5.out; have := HJ66.out; have := HK7.out; omega⟩, ⟨by (try simp only [hl9_1]); (try simp only [hl9_2]); (try simp only [hl9_4]); (try simp only [hl9_5]); (try simp only [hl9_7]); (with_reducible repeat (first | apply Kd.S_alloc | apply Kd.S_drewN | apply Kd.S_drew)); exact HO_9.out⟩, ⟨zB⟩⟩
 rw [if_pos c72] at H
 have c72b0 := decide_eq_true c72
 clear c72
 replace H := zg H
 obtain ⟨c73, H⟩ := H
 have c73b0 : decide (0 ≤ x145_5) = true := decide_eq_true c73
 clear c73
 replace H := zg H
 obtain ⟨c74, H⟩ := H
 have c74b0 : decide (x145_5 < (x9_7.length : Int)) = true := decide_eq_true c74
 clear c74
 replace H := zg H
 obtain ⟨c75, H⟩ := H
 have c75b0 : decide (0 ≤ x167_7) = true := decide_eq_true c75
 clear c75
 replace H := zg H
 obtain ⟨c76, H⟩ := H
 have c76b0 : decide (x167_7 < ((rd_L2 x9_7 x145_5).length : Int)) = true := decide_eq_true c76
 clear c76
 replace H := zg H
 obtain ⟨c77, H⟩ := H
 have c77b0 : decide (0 ≤ x73_2) = true := decide_eq_true c77
 clear c77
 replace H := zg H
 obtain ⟨c78, H⟩ := H
 have c78b0 : decide (x73_2 < (x9_7.length : Int)) = true := decide_eq_true c78
 clear c78
 replace H := zg H
 obtain ⟨c79, H⟩ := H
 have c79b0 : decide (x167_7 < ((rd_L2 x9_7 x73_2).length : Int)) = true := decide_eq_true c79
 clear c79
 replace H := zi H
 obtain ⟨t214, A80, H⟩ := H
 obtain ⟨y215, hy215⟩ : ∃ y_ : List Int, y_ = ((rd_L2 x9_7 x145_5).set (x167_7 : Int).toNat (Go.bits .xor .i64 (rd (rd_L2 x9_7 x145_5) x167_7) t214)) := ⟨_, rfl⟩
 replace H : (impl_fill.l6 k7 l0 l1 (l1.length : Int) (x9_7.set (x145_5 : Int).toNat y215) x73_2 x145_5 (rd (rd_L2 x9_5 x145_5) x73_2) (l1.length : Int) x73_2 (x9_4.length : Int) x145_5 ((rd_L2 x9_5 x145_5).length : Int) (wrap64 (x167_7 + 1))) = some (r1, r2) := by first | (rw [hy215]; with_reducible exact H) | (have H2_ := (Option.bind_some _ _).symm.trans H; rw [hy215]; with_reducible exact H2_) | (have H2_ := (Option.bind_some _ _).symm.trans H; with_reducible exact H2_) | with_reducible exact H | (rw [hy215]; exact H) | exact H
 have Ny215 := Aside0.mk hy215
 clear hy215
 obtain ⟨y217, hy217⟩ : ∃ y_ : List (List Int), y_ = (x9_7.set (x145_5 : Int).toNat y215) := ⟨_, rfl⟩
 replace H : (impl_fill.l6 k7 l0 l1 (l1.length : Int) y217 x73_2 x145_5 (rd (rd_L2 x9_5 x145_5) x73_2) (l1.length : Int) x73_2 (x9_4.length : Int) x145_5 ((rd_L2 x9_5 x145_5).length : Int) (wrap64 (x167_7 + 1))) = some (r1, r2) := by first | (rw [hy217]; with_reducible exact H) | (have H2_ := (Option.bind_some _ _).symm.trans H; rw [hy217]; with_reducible exact H2_) | (have H2_ := (Option.bind_some _ _).symm.trans H; with_reducible exact H2_) | with_reducible exact H | (rw [hy217]; exact H) | exact H
 have Ny217 := Aside0.mk hy217
 clear hy217
 have H' := Aside0.mk H
 clear H
 try go_wp2
 have n0_ := Aside0.mk (Kd.S_drew HO_9.out)
 have n1_ := Aside0.mk (below_drew1 HB.out)
 clear HO_9
 clear HB
 have HO_9 := n0_
 have HB := n1_
 clear n0_ n1_
 have p210 : 0 ≤ (x145_5 : Int) := zD
 have q210 : x145_5 < (x9_7.length : Int) := zD
 obtain ⟨ad210, A210_0, c210_0, e210, hx210_0, hl210_0, hi210_0⟩ := at_L2 (Kd.S_reads' HO_9.out).2.2 x145_5 p210 q210
 obtain rfl : ad192 = ad210 := (by injection e210)
 obtain ⟨ce210, hce210, hMe210, hcc210⟩ := Kd.S_get HO_9.out [] x145_5 p210 (by first | exact q210 | exact zD | (have e_ := (Kd.S_reads' HO_9.out).1; omega))
 obtain ⟨ve210_0, rfl, ge210_0⟩ := hMe210
 have hv210_0 := hcc210 0 _ rfl
 rw [Nat.add_zero, show ((Kd.slice 3 (Kd.int .i64))).sz = 1 from rfl, Nat.mul_one] at hv210_0
 replace hv210_0 := Option.some.inj (hv210_0.symm.trans hx210_0)
 rw [hv210_0] at ge210_0
 have HL210_0 := Aside0.mk (show Kd.R (Kd.int .i64) 3 _ _ _ _ (rd_L2 x9_7 x145_5) from ge210_0)
 clear hv210_0 ge210_0
 have HX210_0 := Aside0.mk hx210_0
 clear hcc210 hce210
 have HR210_0 := Aside0.mk hi210_0
 have HC210_0 := Aside0.mk hl210_0
 clear hi210_0 hl210_0
 replace p210 := eq_true p210
 replace q210 := eq_true q210
 have p211 : 0 ≤ (x167_7 : Int) := zD
 have q211 : x167_7 < ((rd_L2 x9_7 x145_5).length : Int) := zD
 obtain ⟨ad211, e211, hx211_0⟩ := Kd.at_int (by repeat (first | (with_reducible exact HR210_0.out) | (with_reducible refine Kd.C_alloc ?_ _) | (with_reducible refine Kd.C_drewN ?_ _) | (with_reducible refine Kd.C_drew ?_) | exact HR210_0.out)) x167_7 p211 q211
 cases e211
 replace p211 := eq_true p211
 replace q211 := eq_true q211
 have p212 : 0 ≤ (x73_2 : Int) := zD
 have q212 : x73_2 < (x9_7.length : Int) := zD
 obtain ⟨ad212, A212_0, c212_0, e212, hx212_0, hl212_0, hi212_0⟩ := at_L2 (Kd.S_reads' HO_9.out).2.2 x73_2 p212 q212
 obtain rfl : ad192 = ad212 := (by injection e212)
 obtain ⟨ce212, hce212, hMe212, hcc212⟩ := Kd.S_get HO_9.out [] x73_2 p212 (by first | exact q212 | exact zD | (have e_ := (Kd.S_reads' HO_9.out).1; omega))
 obtain ⟨ve212_0, rfl, ge212_0⟩ := hMe212
 have hv212_0 := hcc212 0 _ rfl
 rw [Nat.add_zero, show ((Kd.slice 3 (Kd.int .i64))).sz = 1 from rfl, Nat.mul_one] at hv212_0
 replace hv212_0 := Option.some.inj (hv212_0.symm.trans hx212_0)
 rw [hv212_0] at ge212_0
 have HL212_0 := Aside0.mk (show Kd.R (Kd.int .i64) 3 _ _ _ _ (rd_L2 x9_7 x73_2) from ge212_0)
 clear hv212_0 ge212_0
 have HX212_0 := Aside0.mk hx212_0
 clear hcc212 hce212
 have HR212_0 := Aside0.mk hi212_0
 have HC212_0 := Aside0.mk hl212_0
 clear hi212_0 hl212_0
 replace p212 := eq_true p212
 replace q212 := eq_true q212
 have p213 : 0 ≤ (x167_7 : Int) := zD
 have q213 : x167_7 < ((rd_L2 x9_7 x73_2).length : Int) := zD
 obtain ⟨ad213, e213, hx213_0⟩ := Kd.at_int (by repeat (first | (with_reducible exact HR212_0.out) | (with_reducible refine Kd.C_alloc ?_ _) | (with_reducible refine Kd.C_drewN ?_ _) | (with_reducible refine Kd.C_drew ?_) | exact HR212_0.out)) x167_7 p213 q213
 cases e213
 replace p213 := eq_true p213
 replace q213 := eq_true q213
 refine start_ (n := 19) (S := fun w' => w'.cell? (ad192.add (x145_5).toNat) = some (.slice (some ad211) (rd_L2 x9_7 x145_5).length c210_0) ∧ w'.cell? (ad211.add (x167_7).toNat) = some (.int .i64 (rd (rd_L2 x9_7 x145_5) x167_7)) ∧ w'.cell? (ad192.add (x73_2).toNat) = some (.slice (some ad213) (rd_L2 x9_7 x73_2).length c212_0) ∧ w'.cell? (ad213.add (x167_7).toNat) = some (.int .i64 (rd (rd_L2 x9_7 x73_2) x167_7))) (ds := [18]) impl_fill.mk_59 (by kernel_rfl) rfl rfl ⟨hx210_0, hx211_0, hx212_0, hx213_0⟩ (fun hHeld => ?_); refine with_tabW impl_fill.tab36 impl_fill.bits36 (fun HT_ HW_ => ?_)
 generalize wr.drew = w82 at HO_9 HB HL210_0 HL212_0 HR210_0 HR212_0 HX210_0 HX212_0 hx210_0 hx211_0 hx212_0 hx213_0 hHeld ⊢
 refine zP 0 170 impl_fill.mk_60 ?_
 refine zP 1 171 impl_fill.mk_61 ?_
 refine zP 2 172 impl_fill.mk_62 ?_
 refine zP 4 174 impl_fill.mk_63 ?_
 refine zP 7 177 impl_fill.mk_64 ?_
 refine zP 8 178 impl_fill.mk_65 ?_
 refine zP 9 179 impl_fill.mk_66 ?_
 refine zP 10 180 impl_fill.mk_67 ?_
 refine zP 12 182 impl_fill.mk_68 ?_
 refine zT4 3 173 impl_fill.mk_69 ?_
 refine zP 5 175 impl_fill.mk_70 ?_
 refine zT4 6 176 impl_fill.mk_71 ?_
 refine zT4 11 181 impl_fill.mk_72 ?_
 refine zP 13 183 impl_fill.mk_73 ?_
 refine zT4 14 184 impl_fill.mk_74 ?_
 refine one_ (i := 15) (N := some 185) impl_fill.mk_75 rfl rfl (one_of HT_.out (by kernel_rfl)) (by decide) (fun K hK => ?_)
 refine goes_ Try.func35 (by kernel_rfl) rfl #[.int .i64 (rd (rd_L2 x9_5 x145_5) x73_2), .int .i64 (rd (rd_L2 x9_7 x73_2) x167_7)] (by rfl) rfl rfl zL ?_
 with_reducible refine (impl_GfMul.calls k7 (rd (rd_L2 x9_5 x145_5) x73_2) (rd (rd_L2 x9_7 x73_2) x167_7) t214 _ A80.out).mono ?_
 rintro e w' ⟨rfl, ⟨nd, rfl⟩⟩
 refine ⟨_, rfl, ?_⟩
 have p81 : 0 ≤ (x167_7 : Int) := zD
 have q81 : (x167_7 : Int) < (((rd_L2 x9_7 x145_5).length : Int) : Int) := zD
 obtain ⟨go81, co81, eo81, gb81, gl81, cl81, HG81⟩ := Kd.R_form HL210_0.out (by omega)
 (first | cases eo81 | (injection eo81 with ea_ en_ ec_; (first | subst ea_ | (injection ea_ with ea_; subst ea_)); subst ec_; clear en_))
 have GB81 := Aside0.mk gb81
 have GG81 := Aside0.mk HG81
 clear gb81 gl81 HG81
 (first | simp only [add_plain] at hx211_0 | skip)
 obtain ⟨hx81_0, hf81_0⟩ := Kd.R_celln 0 HL210_0.out (x167_7 : Int) p81 q81
 replace p81 := eq_true p81
 replace q81 := eq_true q81
 have hq83 : (x145_5 : Int) < (x9_7.length : Int) := (by have h_ : (x145_5 : Int) < ((x9_7.length : Int) : Int) := zD; first | exact h_ | (have e_ := (Kd.S_reads' HO_9.out).1; omega) | simpa only [List.length_set, List.length_set] using h_)
 obtain ⟨oki83, ce83, hcl83, hM83, hcc83, hok83, hbk83⟩ := Kd.S_borrow HO_9.out [] (x145_5 : Int) zD hq83
 obtain ⟨ve83_0, rfl, ge83_0⟩ := hM83
 have hv83 := hcc83 0 _ rfl
 rw [Nat.add_zero, show ((Kd.slice 3 (Kd.int .i64))).sz = 1 from rfl, Nat.mul_one] at hv83
 replace hv83 := Option.some.inj (hv83.symm.trans HX210_0.out)
 subst hv83
 clear hcc83 hcl83
 replace ge83_0 := (show Kd.R (Kd.int .i64) 3 _ _ _ _ (rd_L2 x9_7 x145_5) from ge83_0)
 have HP83 := Kd.R_putg ge83_0 (x167_7 : Int) (Go.bits .xor .i64 (rd (rd_L2 x9_7 x145_5) x167_7) t214)
 rw [← Ny215.out] at HP83
 have HS83 := hbk83 HP83.2 (fun k_ e_ => by injection e_ with e_; subst e_; exact ge83_0.1 _ rfl) (x' := y215) (Kd.M_row HP83.1)
 rw [← Ny217.out] at HS83
 have HQ83 := Aside0.mk HS83
 clear HP83 HS83 hbk83 hok83
 refine hK.out _ _ ⟨hHeld.1, hHeld.2.1, hHeld.2.2.1, hHeld.2.2.2⟩ (fun hHeld => ?_)
 clear hK K
 refine norm_ (a' := ?_) ?_ ?_
 rotate_left
 ·show Act.put _ (some 185) _ = _
  simp only [Act.put, List.setIfInBounds_toArray, List.set_cons_zero, List.set_cons_succ, i64_w, i32_w]
  rfl
 refine zP 16 186 impl_fill.mk_76 ?_
 refine zP 17 187 impl_fill.mk_77 ?_
 refine last_ (i := 18) (N := none) impl_fill.mk_78 rfl rfl (one_of HT_.out (by kernel_rfl)) (by decide) (fun K hK => ?_)
 refine skip_ (w1 := ?_) (by rfl) rfl ?_ ?_
 rotate_left
 ·go_simp
  rfl
 refine hK.out _ _ ?_
 clear hK K
 refine done_ (done_of HT_.out (by kernel_rfl)) ?_
 try go_wp2
 (try simp only [← hl9_7])
 go_roundg k7
 case measure => have := HK1.out; have := HK2.out; have := HJ36.out; have := HK4.out; have := HK5.out; have := HJ66.out; have := HK7.out; omega
 case rel => exact ⟨(y217), (wrap64 (x167_7 + 1)), zO, H', ⟨by have := HK1.out; have := HK2.out; have := HJ36.out; have := HK4.out; have := HK5.out; have := HJ66.out; have := HK7.out; omega⟩, ⟨by (try simp only [hl9_1]); (try simp only [hl9_2]); (try simp only [hl9_4]); (try simp only [hl9_5]); (try simp only [hl9_7]); (with_reducible repeat (first | apply Kd.S_alloc | apply Kd.S_drewN | apply Kd.S_drew)); exact HQ83.out⟩, ⟨by repeat (first | (with_reducible first | exact HB.out | apply below_alloc | apply pw_below_drewN | apply below_drew1 | refine below_set ?_ GB81.out) | exact HB.out)⟩⟩

end Go.Proofs.Ytdcjfcfiflpblaa.PFnNearestWord
