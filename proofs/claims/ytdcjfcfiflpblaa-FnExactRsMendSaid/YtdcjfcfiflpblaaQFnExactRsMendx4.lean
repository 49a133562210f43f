/- The functions that FnExactRsMend reaches, each with its walk; written by a program (own.py). -/
import Derived.Test.YtdcjfcfiflpblaaQFnExactRsMendx0
import Derived.Test.YtdcjfcfiflpblaaQFnExactRsMendx1
import Derived.Test.YtdcjfcfiflpblaaQFnExactRsMendx3
namespace Go.Proofs.Ytdcjfcfiflpblaa.PFnExactRsMend
open Go.RowKit Go.Proofs.YtdcjfcfiflpblaaW.PrintWords Go.Proofs.YtdcjfcfiflpblaaW.PrintLast Go.Proofs.YtdcjfcfiflpblaaW.PrintMore
attribute [local go_sem] max2_int min2_int max_two min_two max_three min_three max_four min_four   -- for this text's walks alone
set_option linter.unusedVariables false
set_option linter.unusedSimpArgs false

/-! ### impl_fill: function 40 -/
mutual
def impl_fill.l0 : Nat → List Int → List Int → Int → List (List Int) → Int → Int → Option (List Int × Bool)
  | 0, _, _, _, _, _, _ => none
  | k + 1, x0, x1, x8, x9, x31, x32 => if x32 < x31 then (impl_fill.l1 k x0 x1 x8 x9 x32 x31 x32 x1 (x1.length : Int) 0) else (impl_fill.l2 k x0 x1 x8 x9 x8 0)
def impl_fill.l1 : Nat → List Int → List Int → Int → List (List Int) → Int → Int → Int → List Int → Int → Int → Option (List Int × Bool)
  | 0, _, _, _, _, _, _, _, _, _, _ => none
  | k + 1, x0, x1, x8, x9, x10, x31, x32, x35, x36, x37 => if x37 < x36 then (if 0 ≤ x37 then (if x37 < (x35.length : Int) then (if 0 ≤ x10 then (if x10 < (x9.length : Int) then ((impl_gfPow.f k (wrap64 ((wrap64 ((wrap64 ((x0.length : Int) - 1)) - (rd x35 x37))) * x10))).bind fun t143 => (if (rd_L2 x9 x10).length < 17592186044416 then (impl_fill.l1 k x0 x1 x8 (x9.set (x10 : Int).toNat ((rd_L2 x9 x10) ++ [t143])) x10 x31 x32 x35 x36 (wrap64 (x37 + 1))) else (none))) else (none)) else (none)) else (none)) else (none)) else (if 0 ≤ x10 then (if x10 < (x9.length : Int) then ((impl_value.f k x0 x10).bind fun t149 => (if (rd_L2 x9 x10).length < 17592186044416 then (impl_fill.l0 k x0 x1 x8 (x9.set (x10 : Int).toNat ((rd_L2 x9 x10) ++ [t149])) x31 (wrap64 (x32 + 1))) else (none))) else (none)) else (none))
def impl_fill.l2 : Nat → List Int → List Int → Int → List (List Int) → Int → Int → Option (List Int × Bool)
  | 0, _, _, _, _, _, _ => none
  | k + 1, x0, x1, x8, x9, x72, x73 => if x73 < x72 then (impl_fill.l3 k x0 x1 x8 x9 x73 x73 x72 x73) else (if 0 ≤ x8 then (if x8 ≤ (x9.length : Int) then ((some (x9.drop (x8 : Int).toNat : List (List Int))).bind fun y182 => (impl_fill.l7 k x0 x1 x8 x9 y182 (y182.length : Int) 0)) else (none)) else (none))
def impl_fill.j4 : Nat → List Int → List Int → Int → List (List Int) → Int → Int → Int → Int → Option (List Int × Bool)
  | 0, _, _, _, _, _, _, _, _ => none
  | k + 1, x0, x1, x8, x9, x13, x14, x72, x73 => if x14 = (x9.length : Int) then (some (([] : List Int), false)) else (if 0 ≤ x13 then (if x13 < (x9.length : Int) then (if 0 ≤ x14 ∧ x14 < (x9.length : Int) then ((some ((x9.set (x13 : Int).toNat (rd_L2 x9 x14)).set (x14 : Int).toNat (rd_L2 x9 x13) : List (List Int))).bind fun y159 => (if x13 < ((rd_L2 y159 x13).length : Int) then ((impl_GfInv.f k (rd (rd_L2 y159 x13) x13)).bind fun t162 => (impl_fill.l4 k x0 x1 x8 y159 x13 t162 x72 x73 ((rd_L2 y159 x13).length : Int) 0)) else (none))) else (none)) else (none)) else (none))
def impl_fill.l4 : Nat → List Int → List Int → Int → List (List Int) → Int → Int → Int → Int → Int → Int → Option (List Int × Bool)
  | 0, _, _, _, _, _, _, _, _, _, _ => none
  | k + 1, x0, x1, x8, x9, x13, x15, x72, x73, x123, x124 => if x124 < x123 then (if 0 ≤ x13 then (if x13 < (x9.length : Int) then (if 0 ≤ x124 then (if x124 < ((rd_L2 x9 x13).length : Int) then ((impl_GfMul.f k (rd (rd_L2 x9 x13) x124) x15).bind fun t167 => (impl_fill.l4 k x0 x1 x8 (x9.set (x13 : Int).toNat ((rd_L2 x9 x13).set (x124 : Int).toNat t167)) x13 x15 x72 x73 x123 (wrap64 (x124 + 1)))) else (none)) else (none)) else (none)) else (none)) else (impl_fill.l5 k x0 x1 x8 x9 x13 x72 x73 (x9.length : Int) 0)
def impl_fill.l5 : Nat → List Int → List Int → Int → List (List Int) → Int → Int → Int → Int → Int → Option (List Int × Bool)
  | 0, _, _, _, _, _, _, _, _, _ => none
  | k + 1, x0, x1, x8, x9, x13, x72, x73, x144, x145 => if x145 < x144 then (if 0 ≤ x145 then (if x145 < (x9.length : Int) then (if 0 ≤ x13 then (if x13 < ((rd_L2 x9 x145).length : Int) then (if x145 = x13 then (impl_fill.j7 k x0 x1 x8 x9 x13 x145 (rd (rd_L2 x9 x145) x13) x72 x73 x144 x145 false) else (impl_fill.j7 k x0 x1 x8 x9 x13 x145 (rd (rd_L2 x9 x145) x13) x72 x73 x144 x145 ((rd (rd_L2 x9 x145) x13) != 0))) else (none)) else (none)) else (none)) else (none)) else (impl_fill.l2 k x0 x1 x8 x9 x72 (wrap64 (x73 + 1)))
def impl_fill.j7 : Nat → List Int → List Int → Int → List (List Int) → Int → Int → Int → Int → Int → Int → Int → Bool → Option (List Int × Bool)
  | 0, _, _, _, _, _, _, _, _, _, _, _, _ => none
  | k + 1, x0, x1, x8, x9, x13, x17, x18, x72, x73, x144, x145, x161 => if x161 = true then (if 0 ≤ x17 then (if x17 < (x9.length : Int) then (impl_fill.l6 k x0 x1 x8 x9 x13 x17 x18 x72 x73 x144 x145 ((rd_L2 x9 x17).length : Int) 0) else (none)) else (none)) else (impl_fill.l5 k x0 x1 x8 x9 x13 x72 x73 x144 (wrap64 (x145 + 1)))
def impl_fill.l6 : Nat → List Int → List Int → Int → List (List Int) → Int → Int → Int → Int → Int → Int → Int → Int → Int → Option (List Int × Bool)
  | 0, _, _, _, _, _, _, _, _, _, _, _, _, _ => none
  | k + 1, x0, x1, x8, x9, x13, x17, x18, x72, x73, x144, x145, x166, x167 => if x167 < x166 then (if 0 ≤ x17 then (if x17 < (x9.length : Int) then (if 0 ≤ x167 then (if x167 < ((rd_L2 x9 x17).length : Int) then (if 0 ≤ x13 then (if x13 < (x9.length : Int) then (if x167 < ((rd_L2 x9 x13).length : Int) then ((impl_GfMul.f k x18 (rd (rd_L2 x9 x13) x167)).bind fun t178 => (impl_fill.l6 k x0 x1 x8 (x9.set (x17 : Int).toNat ((rd_L2 x9 x17).set (x167 : Int).toNat (Go.bits .xor .i64 (rd (rd_L2 x9 x17) x167) t178))) x13 x17 x18 x72 x73 x144 x145 x166 (wrap64 (x167 + 1)))) else (none)) else (none)) else (none)) else (none)) else (none)) else (none)) else (none)) else (impl_fill.l5 k x0 x1 x8 x9 x13 x72 x73 x144 (wrap64 (x145 + 1)))
def impl_fill.l3 : Nat → List Int → List Int → Int → List (List Int) → Int → Int → Int → Int → Option (List Int × Bool)
  | 0, _, _, _, _, _, _, _, _ => none
  | k + 1, x0, x1, x8, x9, x13, x14, x72, x73 => if x14 < (x9.length : Int) then (if 0 ≤ x14 then (if 0 ≤ x13 then (if x13 < ((rd_L2 x9 x14).length : Int) then (if (rd (rd_L2 x9 x14) x13) = 0 then (impl_fill.l3 k x0 x1 x8 x9 x13 (wrap64 (x14 + 1)) x72 x73) else (impl_fill.j4 k x0 x1 x8 x9 x13 x14 x72 x73)) else (none)) else (none)) else (none)) else (impl_fill.j4 k x0 x1 x8 x9 x13 x14 x72 x73)
def impl_fill.l7 : Nat → List Int → List Int → Int → List (List Int) → List (List Int) → Int → Int → Option (List Int × Bool)
  | 0, _, _, _, _, _, _, _ => none
  | k + 1, x0, x1, x8, x9, x193, x194, x195 => if x195 < x194 then (if 0 ≤ x195 then (if x195 < (x193.length : Int) then (if 0 ≤ x8 then (if x8 < ((rd_L2 x193 x195).length : Int) then (if (rd (rd_L2 x193 x195) x8) = 0 then (impl_fill.l7 k x0 x1 x8 x9 x193 x194 (wrap64 (x195 + 1))) else (some (([] : List Int), false))) else (none)) else (none)) else (none)) else (none)) else ((slices_Clone_byte_byte.f x0).bind fun t188 => (impl_fill.l8 k x8 x9 t188 x1 (x1.length : Int) 0))
def impl_fill.l8 : Nat → Int → List (List Int) → List Int → List Int → Int → Int → Option (List Int × Bool)
  | 0, _, _, _, _, _, _ => none
  | k + 1, x8, x9, x22, x207, x208, x209 => if x209 < x208 then (if 0 ≤ x209 then (if x209 < (x207.length : Int) then (if 0 ≤ (rd x207 x209) then (if (rd x207 x209) < (x22.length : Int) then (if x209 < (x9.length : Int) then (if 0 ≤ x8 then (if x8 < ((rd_L2 x9 x209).length : Int) then (impl_fill.l8 k x8 x9 (x22.set ((rd x207 x209) : Int).toNat (Go.bits .xor .u8 (rd x22 (rd x207 x209)) ((rd (rd_L2 x9 x209) x8) % 256))) x207 x208 (wrap64 (x209 + 1))) else (none)) else (none)) else (none)) else (none)) else (none)) else (none)) else (none)) else (some (x22, true))
end
def impl_fill.f (k : Nat) (l0 : List Int) (l1 : List Int) (a2 : Int) : Option (List Int × Bool) := if 0 ≤ (wrap64 (2 * a2)) then (if (wrap64 (2 * a2) : Int).toNat ≤ 11728124029610 then ((some (List.replicate (wrap64 (2 * a2) : Int).toNat [] : List (List Int))).bind fun y138 => (impl_fill.l0 k l0 l1 (l1.length : Int) y138 (y138.length : Int) 0)) else (none)) else (none)
theorem impl_fill.mono_l : ∀ k, (∀ y0 y1 y2 y3 y4 y5, LeO (impl_fill.l0 k y0 y1 y2 y3 y4 y5) (impl_fill.l0 (k + 1) y0 y1 y2 y3 y4 y5)) ∧ (∀ y0 y1 y2 y3 y4 y5 y6 y7 y8 y9, LeO (impl_fill.l1 k y0 y1 y2 y3 y4 y5 y6 y7 y8 y9) (impl_fill.l1 (k + 1) y0 y1 y2 y3 y4 y5 y6 y7 y8 y9)) ∧ (∀ y0 y1 y2 y3 y4 y5, LeO (impl_fill.l2 k y0 y1 y2 y3 y4 y5) (impl_fill.l2 (k + 1) y0 y1 y2 y3 y4 y5)) ∧ (∀ y0 y1 y2 y3 y4 y5 y6 y7, LeO (impl_fill.j4 k y0 y1 y2 y3 y4 y5 y6 y7) (impl_fill.j4 (k + 1) y0 y1 y2 y3 y4 y5 y6 y7)) ∧ (∀ y0 y1 y2 y3 y4 y5 y6 y7 y8 y9, LeO (impl_fill.l4 k y0 y1 y2 y3 y4 y5 y6 y7 y8 y9) (impl_fill.l4 (k + 1) y0 y1 y2 y3 y4 y5 y6 y7 y8 y9)) ∧ (∀ y0 y1 y2 y3 y4 y5 y6 y7 y8, LeO (impl_fill.l5 k y0 y1 y2 y3 y4 y5 y6 y7 y8) (impl_fill.l5 (k + 1) y0 y1 y2 y3 y4 y5 y6 y7 y8)) ∧ (∀ y0 y1 y2 y3 y4 y5 y6 y7 y8 y9 y10 y11, LeO (impl_fill.j7 k y0 y1 y2 y3 y4 y5 y6 y7 y8 y9 y10 y11) (impl_fill.j7 (k + 1) y0 y1 y2 y3 y4 y5 y6 y7 y8 y9 y10 y11)) ∧ (∀ y0 y1 y2 y3 y4 y5 y6 y7 y8 y9 y10 y11 y12, LeO (impl_fill.l6 k y0 y1 y2 y3 y4 y5 y6 y7 y8 y9 y10 y11 y12) (impl_fill.l6 (k + 1) y0 y1 y2 y3 y4 y5 y6 y7 y8 y9 y10 y11 y12)) ∧ (∀ y0 y1 y2 y3 y4 y5 y6 y7, LeO (impl_fill.l3 k y0 y1 y2 y3 y4 y5 y6 y7) (impl_fill.l3 (k + 1) y0 y1 y2 y3 y4 y5 y6 y7)) ∧ (∀ y0 y1 y2 y3 y4 y5 y6, LeO (impl_fill.l7 k y0 y1 y2 y3 y4 y5 y6) (impl_fill.l7 (k + 1) y0 y1 y2 y3 y4 y5 y6)) ∧ (∀ y0 y1 y2 y3 y4 y5, LeO (impl_fill.l8 k y0 y1 y2 y3 y4 y5) (impl_fill.l8 (k + 1) y0 y1 y2 y3 y4 y5))
  | 0 => ⟨fun _ _ _ _ _ _ r h => by simp [impl_fill.l0] at h, fun _ _ _ _ _ _ _ _ _ _ r h => by simp [impl_fill.l1] at h, fun _ _ _ _ _ _ r h => by simp [impl_fill.l2] at h, fun _ _ _ _ _ _ _ _ r h => by simp [impl_fill.j4] at h, fun _ _ _ _ _ _ _ _ _ _ r h => by simp [impl_fill.l4] at h, fun _ _ _ _ _ _ _ _ _ r h => by simp [impl_fill.l5] at h, fun _ _ _ _ _ _ _ _ _ _ _ _ r h => by simp [impl_fill.j7] at h, fun _ _ _ _ _ _ _ _ _ _ _ _ _ r h => by simp [impl_fill.l6] at h, fun _ _ _ _ _ _ _ _ r h => by simp [impl_fill.l3] at h, fun _ _ _ _ _ _ _ r h => by simp [impl_fill.l7] at h, fun _ _ _ _ _ _ r h => by simp [impl_fill.l8] at h⟩
  | k + 1 => by
    obtain ⟨ih0, ih1, ih2, ih3, ih4, ih5, ih6, ih7, ih8, ih9, ih10⟩ := impl_fill.mono_l k
    refine ⟨?_, ?_, ?_, ?_, ?_, ?_, ?_, ?_, ?_, ?_, ?_⟩
    · intro y0 y1 y2 y3 y4 y5
      unfold impl_fill.l0
      repeat' first
      | (with_reducible exact ih0 _ _ _ _ _ _)
      | (with_reducible exact ih1 _ _ _ _ _ _ _ _ _ _)
      | (with_reducible exact ih2 _ _ _ _ _ _)
      | (with_reducible exact ih3 _ _ _ _ _ _ _ _)
      | (with_reducible exact ih4 _ _ _ _ _ _ _ _ _ _)
      | (with_reducible exact ih5 _ _ _ _ _ _ _ _ _)
      | (with_reducible exact ih6 _ _ _ _ _ _ _ _ _ _ _ _)
      | (with_reducible exact ih7 _ _ _ _ _ _ _ _ _ _ _ _ _)
      | (with_reducible exact ih8 _ _ _ _ _ _ _ _)
      | (with_reducible exact ih9 _ _ _ _ _ _ _)
      | (with_reducible exact ih10 _ _ _ _ _ _)
      | (with_reducible exact impl_GfInv.mono _ _)
      | (with_reducible exact impl_GfMul.mono _ _ _)
      | (with_reducible exact impl_gfPow.mono _ _)
      | (with_reducible exact impl_value.mono _ _ _)
      | (with_reducible exact LeO.refl _)
      | (with_reducible exact LeO.none _)
      | (with_reducible refine LeO.ite ?_ ?_)
      | (with_reducible refine LeO.bind ?_ (fun _ => ?_))
      | exact ih0 _ _ _ _ _ _
      | exact ih1 _ _ _ _ _ _ _ _ _ _
      | exact ih2 _ _ _ _ _ _
      | exact ih3 _ _ _ _ _ _ _ _
      | exact ih4 _ _ _ _ _ _ _ _ _ _
      | exact ih5 _ _ _ _ _ _ _ _ _
      | exact ih6 _ _ _ _ _ _ _ _ _ _ _ _
      | exact ih7 _ _ _ _ _ _ _ _ _ _ _ _ _
      | exact ih8 _ _ _ _ _ _ _ _
      | exact ih9 _ _ _ _ _ _ _
      | exact ih10 _ _ _ _ _ _
      | exact impl_GfInv.mono _ _
      | exact impl_GfMul.mono _ _ _
      | exact impl_gfPow.mono _ _
      | exact impl_value.mono _ _ _
      | exact LeO.none _
      | refine LeO.ite ?_ ?_
      | refine LeO.bind ?_ (fun _ => ?_)
    · intro y0 y1 y2 y3 y4 y5 y6 y7 y8 y9
      unfold impl_fill.l1
      repeat' first
      | (with_reducible exact ih0 _ _ _ _ _ _)
      | (with_reducible exact ih1 _ _ _ _ _ _ _ _ _ _)
      | (with_reducible exact ih2 _ _ _ _ _ _)
      | (with_reducible exact ih3 _ _ _ _ _ _ _ _)
      | (with_reducible exact ih4 _ _ _ _ _ _ _ _ _ _)
      | (with_reducible exact ih5 _ _ _ _ _ _ _ _ _)
      | (with_reducible exact ih6 _ _ _ _ _ _ _ _ _ _ _ _)
      | (with_reducible exact ih7 _ _ _ _ _ _ _ _ _ _ _ _ _)
      | (with_reducible exact ih8 _ _ _ _ _ _ _ _)
      | (with_reducible exact ih9 _ _ _ _ _ _ _)
      | (with_reducible exact ih10 _ _ _ _ _ _)
      | (with_reducible exact impl_GfInv.mono _ _)
      | (with_reducible exact impl_GfMul.mono _ _ _)
      | (with_reducible exact impl_gfPow.mono _ _)
      | (with_reducible exact impl_value.mono _ _ _)
      | (with_reducible exact LeO.refl _)
      | (with_reducible exact LeO.none _)
      | (with_reducible refine LeO.ite ?_ ?_)
      | (with_reducible refine LeO.bind ?_ (fun _ => ?_))
      | exact ih0 _ _ _ _ _ _
      | exact ih1 _ _ _ _ _ _ _ _ _ _
      | exact ih2 _ _ _ _ _ _
      | exact ih3 _ _ _ _ _ _ _ _
      | exact ih4 _ _ _ _ _ _ _ _ _ _
      | exact ih5 _ _ _ _ _ _ _ _ _
      | exact ih6 _ _ _ _ _ _ _ _ _ _ _ _
      | exact ih7 _ _ _ _ _ _ _ _ _ _ _ _ _
      | exact ih8 _ _ _ _ _ _ _ _
      | exact ih9 _ _ _ _ _ _ _
      | exact ih10 _ _ _ _ _ _
      | exact impl_GfInv.mono _ _
      | exact impl_GfMul.mono _ _ _
      | exact impl_gfPow.mono _ _
      | exact impl_value.mono _ _ _
      | exact LeO.none _
      | refine LeO.ite ?_ ?_
      | refine LeO.bind ?_ (fun _ => ?_)
    · intro y0 y1 y2 y3 y4 y5
      unfold impl_fill.l2
      repeat' first
      | (with_reducible exact ih0 _ _ _ _ _ _)
      | (with_reducible exact ih1 _ _ _ _ _ _ _ _ _ _)
      | (with_reducible exact ih2 _ _ _ _ _ _)
      | (with_reducible exact ih3 _ _ _ _ _ _ _ _)
      | (with_reducible exact ih4 _ _ _ _ _ _ _ _ _ _)
      | (with_reducible exact ih5 _ _ _ _ _ _ _ _ _)
      | (with_reducible exact ih6 _ _ _ _ _ _ _ _ _ _ _ _)
      | (with_reducible exact ih7 _ _ _ _ _ _ _ _ _ _ _ _ _)
      | (with_reducible exact ih8 _ _ _ _ _ _ _ _)
      | (with_reducible exact ih9 _ _ _ _ _ _ _)
      | (with_reducible exact ih10 _ _ _ _ _ _)
      | (with_reducible exact impl_GfInv.mono _ _)
      | (with_reducible exact impl_GfMul.mono _ _ _)
      | (with_reducible exact impl_gfPow.mono _ _)
      | (with_reducible exact impl_value.mono _ _ _)
      | (with_reducible exact LeO.refl _)
      | (with_reducible exact LeO.none _)
      | (with_reducible refine LeO.ite ?_ ?_)
      | (with_reducible refine LeO.bind ?_ (fun _ => ?_))
      | exact ih0 _ _ _ _ _ _
      | exact ih1 _ _ _ _ _ _ _ _ _ _
      | exact ih2 _ _ _ _ _ _
      | exact ih3 _ _ _ _ _ _ _ _
      | exact ih4 _ _ _ _ _ _ _ _ _ _
      | exact ih5 _ _ _ _ _ _ _ _ _
      | exact ih6 _ _ _ _ _ _ _ _ _ _ _ _
      | exact ih7 _ _ _ _ _ _ _ _ _ _ _ _ _
      | exact ih8 _ _ _ _ _ _ _ _
      | exact ih9 _ _ _ _ _ _ _
      | exact ih10 _ _ _ _ _ _
      | exact impl_GfInv.mono _ _
      | exact impl_GfMul.mono _ _ _
      | exact impl_gfPow.mono _ _
      | exact impl_value.mono _ _ _
      | exact LeO.none _
      | refine LeO.ite ?_ ?_
      | refine LeO.bind ?_ (fun _ => ?_)
    · intro y0 y1 y2 y3 y4 y5 y6 y7
      unfold impl_fill.j4
      repeat' first
      | (with_reducible exact ih0 _ _ _ _ _ _)
      | (with_reducible exact ih1 _ _ _ _ _ _ _ _ _ _)
      | (with_reducible exact ih2 _ _ _ _ _ _)
      | (with_reducible exact ih3 _ _ _ _ _ _ _ _)
      | (with_reducible exact ih4 _ _ _ _ _ _ _ _ _ _)
      | (with_reducible exact ih5 _ _ _ _ _ _ _ _ _)
      | (with_reducible exact ih6 _ _ _ _ _ _ _ _ _ _ _ _)
      | (with_reducible exact ih7 _ _ _ _ _ _ _ _ _ _ _ _ _)
      | (with_reducible exact ih8 _ _ _ _ _ _ _ _)
      | (with_reducible exact ih9 _ _ _ _ _ _ _)
      | (with_reducible exact ih10 _ _ _ _ _ _)
      | (with_reducible exact impl_GfInv.mono _ _)
      | (with_reducible exact impl_GfMul.mono _ _ _)
      | (with_reducible exact impl_gfPow.mono _ _)
      | (with_reducible exact impl_value.mono _ _ _)
      | (with_reducible exact LeO.refl _)
      | (with_reducible exact LeO.none _)
      | (with_reducible refine LeO.ite ?_ ?_)
      | (with_reducible refine LeO.bind ?_ (fun _ => ?_))
      | exact ih0 _ _ _ _ _ _
      | exact ih1 _ _ _ _ _ _ _ _ _ _
      | exact ih2 _ _ _ _ _ _
      | exact ih3 _ _ _ _ _ _ _ _
      | exact ih4 _ _ _ _ _ _ _ _ _ _
      | exact ih5 _ _ _ _ _ _ _ _ _
      | exact ih6 _ _ _ _ _ _ _ _ _ _ _ _
      | exact ih7 _ _ _ _ _ _ _ _ _ _ _ _ _
      | exact ih8 _ _ _ _ _ _ _ _
      | exact ih9 _ _ _ _ _ _ _
      | exact ih10 _ _ _ _ _ _
      | exact impl_GfInv.mono _ _
      | exact impl_GfMul.mono _ _ _
      | exact impl_gfPow.mono _ _
      | exact impl_value.mono _ _ _
      | exact LeO.none _
      | refine LeO.ite ?_ ?_
      | refine LeO.bind ?_ (fun _ => ?_)
    · intro y0 y1 y2 y3 y4 y5 y6 y7 y8 y9
      unfold impl_fill.l4
      repeat' first
      | (with_reducible exact ih0 _ _ _ _ _ _)
      | (with_reducible exact ih1 _ _ _ _ _ _ _ _ _ _)
      | (with_reducible exact ih2 _ _ _ _ _ _)
      | (with_reducible exact ih3 _ _ _ _ _ _ _ _)
      | (with_reducible exact ih4 _ _ _ _ _ _ _ _ _ _)
      | (with_reducible exact ih5 _ _ _ _ _ _ _ _ _)
      | (with_reducible exact ih6 _ _ _ _ _ _ _ _ _ _ _ _)
      | (with_reducible exact ih7 _ _ _ _ _ _ _ _ _ _ _ _ _)
      | (with_reducible exact ih8 _ _ _ _ _ _ _ _)
      | (with_reducible exact ih9 _ _ _ _ _ _ _)
      | (with_reducible exact ih10 _ _ _ _ _ _)
      | (with_reducible exact impl_GfInv.mono _ _)
      | (with_reducible exact impl_GfMul.mono _ _ _)
      | (with_reducible exact impl_gfPow.mono _ _)
      | (with_reducible exact impl_value.mono _ _ _)
      | (with_reducible exact LeO.refl _)
      | (with_reducible exact LeO.none _)
      | (with_reducible refine LeO.ite ?_ ?_)
      | (with_reducible refine LeO.bind ?_ (fun _ => ?_))
      | exact ih0 _ _ _ _ _ _
      | exact ih1 _ _ _ _ _ _ _ _ _ _
      | exact ih2 _ _ _ _ _ _
      | exact ih3 _ _ _ _ _ _ _ _
      | exact ih4 _ _ _ _ _ _ _ _ _ _
      | exact ih5 _ _ _ _ _ _ _ _ _
      | exact ih6 _ _ _ _ _ _ _ _ _ _ _ _
      | exact ih7 _ _ _ _ _ _ _ _ _ _ _ _ _
      | exact ih8 _ _ _ _ _ _ _ _
      | exact ih9 _ _ _ _ _ _ _
      | exact ih10 _ _ _ _ _ _
      | exact impl_GfInv.mono _ _
      | exact impl_GfMul.mono _ _ _
      | exact impl_gfPow.mono _ _
      | exact impl_value.mono _ _ _
      | exact LeO.none _
      | refine LeO.ite ?_ ?_
      | refine LeO.bind ?_ (fun _ => ?_)
    · intro y0 y1 y2 y3 y4 y5 y6 y7 y8
      unfold impl_fill.l5
      repeat' first
      | (with_reducible exact ih0 _ _ _ _ _ _)
      | (with_reducible exact ih1 _ _ _ _ _ _ _ _ _ _)
      | (with_reducible exact ih2 _ _ _ _ _ _)
      | (with_reducible exact ih3 _ _ _ _ _ _ _ _)
      | (with_reducible exact ih4 _ _ _ _ _ _ _ _ _ _)
      | (with_reducible exact ih5 _ _ _ _ _ _ _ _ _)
      | (with_reducible exact ih6 _ _ _ _ _ _ _ _ _ _ _ _)
      | (with_reducible exact ih7 _ _ _ _ _ _ _ _ _ _ _ _ _)
      | (with_reducible exact ih8 _ _ _ _ _ _ _ _)
      | (with_reducible exact ih9 _ _ _ _ _ _ _)
      | (with_reducible exact ih10 _ _ _ _ _ _)
      | (with_reducible exact impl_GfInv.mono _ _)
      | (with_reducible exact impl_GfMul.mono _ _ _)
      | (with_reducible exact impl_gfPow.mono _ _)
      | (with_reducible exact impl_value.mono _ _ _)
      | (with_reducible exact LeO.refl _)
      | (with_reducible exact LeO.none _)
      | (with_reducible refine LeO.ite ?_ ?_)
      | (with_reducible refine LeO.bind ?_ (fun _ => ?_))
      | exact ih0 _ _ _ _ _ _
      | exact ih1 _ _ _ _ _ _ _ _ _ _
      | exact ih2 _ _ _ _ _ _
      | exact ih3 _ _ _ _ _ _ _ _
      | exact ih4 _ _ _ _ _ _ _ _ _ _
      | exact ih5 _ _ _ _ _ _ _ _ _
      | exact ih6 _ _ _ _ _ _ _ _ _ _ _ _
      | exact ih7 _ _ _ _ _ _ _ _ _ _ _ _ _
      | exact ih8 _ _ _ _ _ _ _ _
      | exact ih9 _ _ _ _ _ _ _
      | exact ih10 _ _ _ _ _ _
      | exact impl_GfInv.mono _ _
      | exact impl_GfMul.mono _ _ _
      | exact impl_gfPow.mono _ _
      | exact impl_value.mono _ _ _
      | exact LeO.none _
      | refine LeO.ite ?_ ?_
      | refine LeO.bind ?_ (fun _ => ?_)
    · intro y0 y1 y2 y3 y4 y5 y6 y7 y8 y9 y10 y11
      unfold impl_fill.j7
      repeat' first
      | (with_reducible exact ih0 _ _ _ _ _ _)
      | (with_reducible exact ih1 _ _ _ _ _ _ _ _ _ _)
      | (with_reducible exact ih2 _ _ _ _ _ _)
      | (with_reducible exact ih3 _ _ _ _ _ _ _ _)
      | (with_reducible exact ih4 _ _ _ _ _ _ _ _ _ _)
      | (with_reducible exact ih5 _ _ _ _ _ _ _ _ _)
      | (with_reducible exact ih6 _ _ _ _ _ _ _ _ _ _ _ _)
      | (with_reducible exact ih7 _ _ _ _ _ _ _ _ _ _ _ _ _)
      | (with_reducible exact ih8 _ _ _ _ _ _ _ _)
      | (with_reducible exact ih9 _ _ _ _ _ _ _)
      | (with_reducible exact ih10 _ _ _ _ _ _)
      | (with_reducible exact impl_GfInv.mono _ _)
      | (with_reducible exact impl_GfMul.mono _ _ _)
      | (with_reducible exact impl_gfPow.mono _ _)
      | (with_reducible exact impl_value.mono _ _ _)
      | (with_reducible exact LeO.refl _)
      | (with_reducible exact LeO.none _)
      | (with_reducible refine LeO.ite ?_ ?_)
      | (with_reducible refine LeO.bind ?_ (fun _ => ?_))
      | exact ih0 _ _ _ _ _ _
      | exact ih1 _ _ _ _ _ _ _ _ _ _
      | exact ih2 _ _ _ _ _ _
      | exact ih3 _ _ _ _ _ _ _ _
      | exact ih4 _ _ _ _ _ _ _ _ _ _
      | exact ih5 _ _ _ _ _ _ _ _ _
      | exact ih6 _ _ _ _ _ _ _ _ _ _ _ _
      | exact ih7 _ _ _ _ _ _ _ _ _ _ _ _ _
      | exact ih8 _ _ _ _ _ _ _ _
      | exact ih9 _ _ _ _ _ _ _
      | exact ih10 _ _ _ _ _ _
      | exact impl_GfInv.mono _ _
      | exact impl_GfMul.mono _ _ _
      | exact impl_gfPow.mono _ _
      | exact impl_value.mono _ _ _
      | exact LeO.none _
      | refine LeO.ite ?_ ?_
      | refine LeO.bind ?_ (fun _ => ?_)
    · intro y0 y1 y2 y3 y4 y5 y6 y7 y8 y9 y10 y11 y12
      unfold impl_fill.l6
      repeat' first
      | (with_reducible exact ih0 _ _ _ _ _ _)
      | (with_reducible exact ih1 _ _ _ _ _ _ _ _ _ _)
      | (with_reducible exact ih2 _ _ _ _ _ _)
      | (with_reducible exact ih3 _ _ _ _ _ _ _ _)
      | (with_reducible exact ih4 _ _ _ _ _ _ _ _ _ _)
      | (with_reducible exact ih5 _ _ _ _ _ _ _ _ _)
      | (with_reducible exact ih6 _ _ _ _ _ _ _ _ _ _ _ _)
      | (with_reducible exact ih7 _ _ _ _ _ _ _ _ _ _ _ _ _)
      | (with_reducible exact ih8 _ _ _ _ _ _ _ _)
      | (with_reducible exact ih9 _ _ _ _ _ _ _)
      | (with_reducible exact ih10 _ _ _ _ _ _)
      | (with_reducible exact impl_GfInv.mono _ _)
      | (with_reducible exact impl_GfMul.mono _ _ _)
      | (with_reducible exact impl_gfPow.mono _ _)
      | (with_reducible exact impl_value.mono _ _ _)
      | (with_reducible exact LeO.refl _)
      | (with_reducible exact LeO.none _)
      | (with_reducible refine LeO.ite ?_ ?_)
      | (with_reducible refine LeO.bind ?_ (fun _ => ?_))
      | exact ih0 _ _ _ _ _ _
      | exact ih1 _ _ _ _ _ _ _ _ _ _
      | exact ih2 _ _ _ _ _ _
      | exact ih3 _ _ _ _ _ _ _ _
      | exact ih4 _ _ _ _ _ _ _ _ _ _
      | exact ih5 _ _ _ _ _ _ _ _ _
      | exact ih6 _ _ _ _ _ _ _ _ _ _ _ _
      | exact ih7 _ _ _ _ _ _ _ _ _ _ _ _ _
      | exact ih8 _ _ _ _ _ _ _ _
      | exact ih9 _ _ _ _ _ _ _
      | exact ih10 _ _ _ _ _ _
      | exact impl_GfInv.mono _ _
      | exact impl_GfMul.mono _ _ _
      | exact impl_gfPow.mono _ _
      | exact impl_value.mono _ _ _
      | exact LeO.none _
      | refine LeO.ite ?_ ?_
      | refine LeO.bind ?_ (fun _ => ?_)
    · intro y0 y1 y2 y3 y4 y5 y6 y7
      unfold impl_fill.l3
      repeat' first
      | (with_reducible exact ih0 _ _ _ _ _ _)
      | (with_reducible exact ih1 _ _ _ _ _ _ _ _ _ _)
      | (with_reducible exact ih2 _ _ _ _ _ _)
      | (with_reducible exact ih3 _ _ _ _ _ _ _ _)
      | (with_reducible exact ih4 _ _ _ _ _ _ _ _ _ _)
      | (with_reducible exact ih5 _ _ _ _ _ _ _ _ _)
      | (with_reducible exact ih6 _ _ _ _ _ _ _ _ _ _ _ _)
      | (with_reducible exact ih7 _ _ _ _ _ _ _ _ _ _ _ _ _)
      | (with_reducible exact ih8 _ _ _ _ _ _ _ _)
      | (with_reducible exact ih9 _ _ _ _ _ _ _)
      | (with_reducible exact ih10 _ _ _ _ _ _)
      | (with_reducible exact impl_GfInv.mono _ _)
      | (with_reducible exact impl_GfMul.mono _ _ _)
      | (with_reducible exact impl_gfPow.mono _ _)
      | (with_reducible exact impl_value.mono _ _ _)
      | (with_reducible exact LeO.refl _)
      | (with_reducible exact LeO.none _)
      | (with_reducible refine LeO.ite ?_ ?_)
      | (with_reducible refine LeO.bind ?_ (fun _ => ?_))
      | exact ih0 _ _ _ _ _ _
      | exact ih1 _ _ _ _ _ _ _ _ _ _
      | exact ih2 _ _ _ _ _ _
      | exact ih3 _ _ _ _ _ _ _ _
      | exact ih4 _ _ _ _ _ _ _ _ _ _
      | exact ih5 _ _ _ _ _ _ _ _ _
      | exact ih6 _ _ _ _ _ _ _ _ _ _ _ _
      | exact ih7 _ _ _ _ _ _ _ _ _ _ _ _ _
      | exact ih8 _ _ _ _ _ _ _ _
      | exact ih9 _ _ _ _ _ _ _
      | exact ih10 _ _ _ _ _ _
      | exact impl_GfInv.mono _ _
      | exact impl_GfMul.mono _ _ _
      | exact impl_gfPow.mono _ _
      | exact impl_value.mono _ _ _
      | exact LeO.none _
      | refine LeO.ite ?_ ?_
      | refine LeO.bind ?_ (fun _ => ?_)
    · intro y0 y1 y2 y3 y4 y5 y6
      unfold impl_fill.l7
      repeat' first
      | (with_reducible exact ih0 _ _ _ _ _ _)
      | (with_reducible exact ih1 _ _ _ _ _ _ _ _ _ _)
      | (with_reducible exact ih2 _ _ _ _ _ _)
      | (with_reducible exact ih3 _ _ _ _ _ _ _ _)
      | (with_reducible exact ih4 _ _ _ _ _ _ _ _ _ _)
      | (with_reducible exact ih5 _ _ _ _ _ _ _ _ _)
      | (with_reducible exact ih6 _ _ _ _ _ _ _ _ _ _ _ _)
      | (with_reducible exact ih7 _ _ _ _ _ _ _ _ _ _ _ _ _)
      | (with_reducible exact ih8 _ _ _ _ _ _ _ _)
      | (with_reducible exact ih9 _ _ _ _ _ _ _)
      | (with_reducible exact ih10 _ _ _ _ _ _)
      | (with_reducible exact impl_GfInv.mono _ _)
      | (with_reducible exact impl_GfMul.mono _ _ _)
      | (with_reducible exact impl_gfPow.mono _ _)
      | (with_reducible exact impl_value.mono _ _ _)
      | (with_reducible exact LeO.refl _)
      | (with_reducible exact LeO.none _)
      | (with_reducible refine LeO.ite ?_ ?_)
      | (with_reducible refine LeO.bind ?_ (fun _ => ?_))
      | exact ih0 _ _ _ _ _ _
      | exact ih1 _ _ _ _ _ _ _ _ _ _
      | exact ih2 _ _ _ _ _ _
      | exact ih3 _ _ _ _ _ _ _ _
      | exact ih4 _ _ _ _ _ _ _ _ _ _
      | exact ih5 _ _ _ _ _ _ _ _ _
      | exact ih6 _ _ _ _ _ _ _ _ _ _ _ _
      | exact ih7 _ _ _ _ _ _ _ _ _ _ _ _ _
      | exact ih8 _ _ _ _ _ _ _ _
      | exact ih9 _ _ _ _ _ _ _
      | exact ih10 _ _ _ _ _ _
      | exact impl_GfInv.mono _ _
      | exact impl_GfMul.mono _ _ _
      | exact impl_gfPow.mono _ _
      | exact impl_value.mono _ _ _
      | exact LeO.none _
      | refine LeO.ite ?_ ?_
      | refine LeO.bind ?_ (fun _ => ?_)
    · intro y0 y1 y2 y3 y4 y5
      unfold impl_fill.l8
      repeat' first
      | (with_reducible exact ih0 _ _ _ _ _ _)
      | (with_reducible exact ih1 _ _ _ _ _ _ _ _ _ _)
      | (with_reducible exact ih2 _ _ _ _ _ _)
      | (with_reducible exact ih3 _ _ _ _ _ _ _ _)
      | (with_reducible exact ih4 _ _ _ _ _ _ _ _ _ _)
      | (with_reducible exact ih5 _ _ _ _ _ _ _ _ _)
      | (with_reducible exact ih6 _ _ _ _ _ _ _ _ _ _ _ _)
      | (with_reducible exact ih7 _ _ _ _ _ _ _ _ _ _ _ _ _)
      | (with_reducible exact ih8 _ _ _ _ _ _ _ _)
      | (with_reducible exact ih9 _ _ _ _ _ _ _)
      | (with_reducible exact ih10 _ _ _ _ _ _)
      | (with_reducible exact impl_GfInv.mono _ _)
      | (with_reducible exact impl_GfMul.mono _ _ _)
      | (with_reducible exact impl_gfPow.mono _ _)
      | (with_reducible exact impl_value.mono _ _ _)
      | (with_reducible exact LeO.refl _)
      | (with_reducible exact LeO.none _)
      | (with_reducible refine LeO.ite ?_ ?_)
      | (with_reducible refine LeO.bind ?_ (fun _ => ?_))
      | exact ih0 _ _ _ _ _ _
      | exact ih1 _ _ _ _ _ _ _ _ _ _
      | exact ih2 _ _ _ _ _ _
      | exact ih3 _ _ _ _ _ _ _ _
      | exact ih4 _ _ _ _ _ _ _ _ _ _
      | exact ih5 _ _ _ _ _ _ _ _ _
      | exact ih6 _ _ _ _ _ _ _ _ _ _ _ _
      | exact ih7 _ _ _ _ _ _ _ _ _ _ _ _ _
      | exact ih8 _ _ _ _ _ _ _ _
      | exact ih9 _ _ _ _ _ _ _
      | exact ih10 _ _ _ _ _ _
      | exact impl_GfInv.mono _ _
      | exact impl_GfMul.mono _ _ _
      | exact impl_gfPow.mono _ _
      | exact impl_value.mono _ _ _
      | exact LeO.none _
      | refine LeO.ite ?_ ?_
      | refine LeO.bind ?_ (fun _ => ?_)
theorem impl_fill.mono : ∀ a0 a1 a2 k, LeO (impl_fill.f k a0 a1 a2) (impl_fill.f (k + 1) a0 a1 a2) := by
  intro a0 a1 a2 k
  obtain ⟨ih0, ih1, ih2, ih3, ih4, ih5, ih6, ih7, ih8, ih9, ih10⟩ := impl_fill.mono_l k
  unfold impl_fill.f
  repeat' first
      | (with_reducible exact ih0 _ _ _ _ _ _)
      | (with_reducible exact ih1 _ _ _ _ _ _ _ _ _ _)
      | (with_reducible exact ih2 _ _ _ _ _ _)
      | (with_reducible exact ih3 _ _ _ _ _ _ _ _)
      | (with_reducible exact ih4 _ _ _ _ _ _ _ _ _ _)
      | (with_reducible exact ih5 _ _ _ _ _ _ _ _ _)
      | (with_reducible exact ih6 _ _ _ _ _ _ _ _ _ _ _ _)
      | (with_reducible exact ih7 _ _ _ _ _ _ _ _ _ _ _ _ _)
      | (with_reducible exact ih8 _ _ _ _ _ _ _ _)
      | (with_reducible exact ih9 _ _ _ _ _ _ _)
      | (with_reducible exact ih10 _ _ _ _ _ _)
      | (with_reducible exact impl_GfInv.mono _ _)
      | (with_reducible exact impl_GfMul.mono _ _ _)
      | (with_reducible exact impl_gfPow.mono _ _)
      | (with_reducible exact impl_value.mono _ _ _)
      | (with_reducible exact LeO.refl _)
      | (with_reducible exact LeO.none _)
      | (with_reducible refine LeO.ite ?_ ?_)
      | (with_reducible refine LeO.bind ?_ (fun _ => ?_))
      | exact ih0 _ _ _ _ _ _
      | exact ih1 _ _ _ _ _ _ _ _ _ _
      | exact ih2 _ _ _ _ _ _
      | exact ih3 _ _ _ _ _ _ _ _
      | exact ih4 _ _ _ _ _ _ _ _ _ _
      | exact ih5 _ _ _ _ _ _ _ _ _
      | exact ih6 _ _ _ _ _ _ _ _ _ _ _ _
      | exact ih7 _ _ _ _ _ _ _ _ _ _ _ _ _
      | exact ih8 _ _ _ _ _ _ _ _
      | exact ih9 _ _ _ _ _ _ _
      | exact ih10 _ _ _ _ _ _
      | exact impl_GfInv.mono _ _
      | exact impl_GfMul.mono _ _ _
      | exact impl_gfPow.mono _ _
      | exact impl_value.mono _ _ _
      | exact LeO.none _
      | refine LeO.ite ?_ ?_
      | refine LeO.bind ?_ (fun _ => ?_)
def impl_fill.T9 : Bool × List (List Nat × List Nat) := (true, [([], []), ([], []), ([], []), ([], []), ([2, 3], [2, 3]), ([4], [4]), ([], []), ([6], [6]), ([7], [7]), ([], []), ([8, 9], [8, 9]), ([], []), ([10, 11], [10, 11]), ([12], [12]), ([13], [13]), ([5, 14, 13], [5, 14]), ([0, 1, 0, 1, 2, 3, 4, 5, 6, 7, 8, 9, 10, 11, 12, 13, 14, 15], [0, 1]), ([16, 15, 15, 0, 1, 2, 3, 4, 5, 6, 7, 8, 9, 10, 11, 12, 13, 14, 15], [15, 16])])
def impl_fill.B9 : List Nat := [0, 0, 0, 0, 12, 28, 0, 64, 192, 0, 960, 0, 4032, 8128, 16320, 32764, 65535, 131071]
theorem impl_fill.tab9 : rtab .any (opsOf Try.f40 9) = impl_fill.T9 := by kernel_rfl
theorem impl_fill.bits9 : waitsOk impl_fill.T9.2 impl_fill.B9 = true := by kernel_rfl
def impl_fill.T11 : Bool × List (List Nat × List Nat) := (true, [([], []), ([], []), ([], []), ([], []), ([2, 3], [2, 3]), ([4], [4]), ([], []), ([], []), ([6, 7], [6, 7]), ([8], [8]), ([5, 9, 8], [5, 9]), ([0, 1, 0, 1, 2, 3, 4, 5, 6, 7, 8, 9, 10], [0, 1]), ([11, 10, 10, 0, 1, 2, 3, 4, 5, 6, 7, 8, 9, 10], [10, 11])])
def impl_fill.B11 : List Nat := [0, 0, 0, 0, 12, 28, 0, 0, 192, 448, 1020, 2047, 4095]
theorem impl_fill.tab11 : rtab .any (opsOf Try.f40 11) = impl_fill.T11 := by kernel_rfl
theorem impl_fill.bits11 : waitsOk impl_fill.T11.2 impl_fill.B11 = true := by kernel_rfl
def impl_fill.T26 : Bool × List (List Nat × List Nat) := (true, [([], []), ([], []), ([0, 1], [0, 1]), ([2], [2]), ([], []), ([], []), ([], []), ([5, 6], [5, 6]), ([7], [7]), ([], []), ([8, 9], [8, 9]), ([10], [10]), ([], []), ([11, 12], [11, 12]), ([3, 4, 0, 1, 2, 3, 4, 5, 6, 7, 8, 9, 10, 11, 12, 13], [3, 4]), ([14, 13, 13, 0, 1, 2, 3, 4, 5, 6, 7, 8, 9, 10, 11, 12, 13], [13, 14])])
def impl_fill.B26 : List Nat := [0, 0, 3, 7, 0, 0, 0, 96, 224, 0, 992, 2016, 0, 8160, 16383, 32767]
theorem impl_fill.tab26 : rtab .any (opsOf Try.f40 26) = impl_fill.T26 := by kernel_rfl
theorem impl_fill.bits26 : waitsOk impl_fill.T26.2 impl_fill.B26 = true := by kernel_rfl
def impl_fill.T36 : Bool × List (List Nat × List Nat) := (true, [([], []), ([], []), ([0, 1], [0, 1]), ([2], [2]), ([], []), ([3, 4], [3, 4]), ([5], [5]), ([], []), ([], []), ([], []), ([8, 9], [8, 9]), ([10], [10]), ([], []), ([11, 12], [11, 12]), ([13], [13]), ([7, 14], [7, 14]), ([6, 15], [6, 15]), ([3, 4, 0, 1, 2, 3, 4, 5, 6, 7, 8, 9, 10, 11, 12, 13, 14, 15, 16], [3, 4]), ([17, 16, 15, 0, 1, 2, 3, 4, 5, 6, 7, 8, 9, 10, 11, 12, 13, 14, 15, 16], [16, 17])])
def impl_fill.B36 : List Nat := [0, 0, 3, 7, 0, 31, 63, 0, 0, 0, 768, 1792, 0, 7936, 16128, 32640, 65535, 131071, 262143]
theorem impl_fill.tab36 : rtab .any (opsOf Try.f40 36) = impl_fill.T36 := by kernel_rfl
theorem impl_fill.bits36 : waitsOk impl_fill.T36.2 impl_fill.B36 = true := by kernel_rfl
def impl_fill.T50 : Bool × List (List Nat × List Nat) := (true, [([], []), ([], []), ([0, 1], [0, 1]), ([2], [2]), ([], []), ([], []), ([4, 5], [4, 5]), ([6], [6]), ([], []), ([7, 8], [7, 8]), ([9], [9]), ([10], [10]), ([3, 11], [3, 11]), ([0, 1, 0, 1, 2, 3, 4, 5, 6, 7, 8, 9, 10, 11, 12], [0, 1]), ([13, 12, 0, 1, 2, 3, 4, 5, 6, 7, 8, 9, 10, 11, 12], [12, 13])])
def impl_fill.B50 : List Nat := [0, 0, 3, 7, 0, 0, 48, 112, 0, 496, 1008, 2032, 4095, 8191, 16383]
theorem impl_fill.tab50 : rtab .any (opsOf Try.f40 50) = impl_fill.T50 := by kernel_rfl
theorem impl_fill.bits50 : waitsOk impl_fill.T50.2 impl_fill.B50 = true := by kernel_rfl
theorem take1_at {l : List Value} {k : Nat} {x : Value} (h : l[k]? = some x) : (l.drop k).take 1 = [x] := by
  obtain ⟨hk, rfl⟩ := List.getElem?_eq_some_iff.1 h
  rw [List.drop_eq_getElem_cons hk]; rfl
/-- Two rows of a row of rows change places. -/
theorem S_swap {w : World} {base n cap : Nat} {ad : Addr} {ok : Nat → Prop} {M : List (List Int)} (h : Kd.S (Kd.slice 3 (Kd.int .i64)) 24 w base ok (.slice (some ad) n cap) M) {i j : Nat} (hi : i < n) (hj : j < n) {u v : Value} (hu : w.cell? (ad.add i) = some u) (hv : w.cell? (ad.add j) = some v) :
    Kd.S (Kd.slice 3 (Kd.int .i64)) 24 ((w.setCell (ad.add i) v).setCell (ad.add j) u) base ok (.slice (some ad) n cap) ((M.set i (M.getD j [])).set j (M.getD i [])) := by
  obtain ⟨g, rfl⟩ := Kd.R_head (Kd.S_R h)
  rw [add_plain] at hu hv
  rw [add_plain, add_plain]
  obtain ⟨f, h0, inner, ho, hr⟩ := h
  have hn : n = M.length := by
    have := ho.2
    rcases this with ⟨e, _⟩ | ⟨_, _, _, e, _⟩
    · cases e
    · injection e with _ e _; rw [e, List.length_zipIdx]
  subst hn
  rw [List.length_zipIdx] at ho
  replace ho : w.ownsRow base 24 1 (.slice (some ⟨g, 0, none⟩) M.length cap) M.length inner := ho
  have hil : inner.length = M.length := by have := ho.1; rw [Nat.mul_one] at this; exact this
  have at_ : ∀ k (x : Value), k < M.length → w.cell? ⟨g, k, none⟩ = some x → inner[k]? = some x := by
    intro k x hk hx
    have h1 := ho.cells (g := g) rfl k _ (List.getElem?_eq_getElem (by omega : k < inner.length))
    rw [add_plain, hx] at h1
    rw [List.getElem?_eq_getElem (by omega : k < inner.length)]
    exact h1.symm
  have iu := at_ i u hi hu
  have iv := at_ j v hj hv
  have ho' := ((ho.stored i v).1.stored j u).1
  have far : ∀ b, b ≠ g → ((w.setCell ⟨g, i, none⟩ v).setCell ⟨g, j, none⟩ u).heap[b]? = w.heap[b]? := fun b hb => (Below.heap_setCell _ _ _ _ hb).trans (Below.heap_setCell _ _ _ _ hb)
  refine ⟨fun b => if f b = i then j else if f b = j then i else f b, h0, (inner.set i v).set j u, ?_, ?_, ?_⟩
  · rw [List.length_zipIdx, List.length_set, List.length_set]
    exact ho'
  · rw [List.length_set, List.length_set, List.length_zipIdx, List.length_set, List.length_set, hil]
    exact (Nat.mul_one _).symm
  intro k p hk
  have hkl : k < M.length := by have := (List.getElem?_eq_some_iff.1 hk).1; simpa using this
  have hp : p = (((M.set i (M.getD j [])).set j (M.getD i []))[k]'(by simpa using hkl), k) := by
    rw [List.getElem?_zipIdx, List.getElem?_eq_getElem (by simpa using hkl)] at hk
    simp at hk
    exact hk.symm
  have old : ∀ m (hm : m < M.length) (x : Value), inner[m]? = some x → ∀ ok2 : Nat → Prop, (∀ b, (ok b ∧ some b ≠ (Value.slice (some ⟨g, 0, none⟩) M.length cap).ownBlock) ∧ f b = m → ok2 b) → (Kd.slice 3 (Kd.int .i64)).M ((w.setCell ⟨g, i, none⟩ v).setCell ⟨g, j, none⟩ u) base ok2 M[m] [x] := by
    intro m hm x hx ok2 hok2
    have h1 := hr.2 m (M[m], m) (by rw [List.getElem?_zipIdx, List.getElem?_eq_getElem hm]; simp)
    have h2 : (inner.drop (m * (Kd.tag f (Kd.slice 3 (Kd.int .i64))).sz)).take (Kd.tag f (Kd.slice 3 (Kd.int .i64))).sz = [x] := by
      show (inner.drop (m * 1)).take 1 = [x]
      rw [Nat.mul_one, take1_at hx]
    rw [h2] at h1
    have h3 : (Kd.slice 3 (Kd.int .i64)).M w base (fun b => (ok b ∧ some b ≠ (Value.slice (some ⟨g, 0, none⟩) M.length cap).ownBlock) ∧ f b = m) M[m] [x] := h1
    refine (Kd.slice 3 (Kd.int .i64)).M_mono hok2 ((Kd.slice 3 (Kd.int .i64)).M_move (fun b hb => far b (fun e => hb.1.2 (by rw [e]; rfl))) h3)
  have now : ∀ x, ((inner.set i v).set j u)[k]? = some x → (((inner.set i v).set j u).drop (k * 1)).take 1 = [x] := by
    intro x hx
    rw [Nat.mul_one, take1_at hx]
  show (Kd.slice 3 (Kd.int .i64)).M _ base (fun b => (ok b ∧ some b ≠ (Value.slice (some ⟨g, 0, none⟩) M.length cap).ownBlock) ∧ (if f b = i then j else if f b = j then i else f b) = p.2) p.1 ((((inner.set i v).set j u).drop (k * 1)).take 1)
  rw [hp]
  show (Kd.slice 3 (Kd.int .i64)).M _ base (fun b => (ok b ∧ some b ≠ (Value.slice (some ⟨g, 0, none⟩) M.length cap).ownBlock) ∧ (if f b = i then j else if f b = j then i else f b) = k) _ _
  by_cases ekj : k = j
  · subst ekj
    have e1 : ((inner.set i v).set k u)[k]? = some u := by rw [List.getElem?_set_self (by simp; omega)]
    rw [now u e1, List.getElem_set_self, List.getD_eq_getElem?_getD, List.getElem?_eq_getElem hi]
    exact old i hi u iu _ (fun b hb => ⟨hb.1, by rw [if_pos hb.2]⟩)
  · by_cases eki : k = i
    · subst eki
      have e1 : ((inner.set k v).set j u)[k]? = some v := by rw [List.getElem?_set_ne (fun e => ekj e.symm), List.getElem?_set_self (by omega)]
      rw [now v e1, List.getElem_set_ne (fun e => ekj e.symm), List.getElem_set_self, List.getD_eq_getElem?_getD, List.getElem?_eq_getElem hj]
      exact old j hj v iv _ (fun b hb => ⟨hb.1, by rw [if_neg (fun e => ekj (e.symm.trans hb.2)), if_pos hb.2]⟩)
    · have e1 : ((inner.set i v).set j u)[k]? = inner[k]? := by rw [List.getElem?_set_ne (fun e => ekj e.symm), List.getElem?_set_ne (fun e => eki e.symm)]
      rw [List.getElem?_eq_getElem (by omega : k < inner.length)] at e1
      rw [now _ e1, List.getElem_set_ne (fun e => ekj e.symm), List.getElem_set_ne (fun e => eki e.symm)]
      exact old k hkl _ (List.getElem?_eq_getElem (by omega)) _ (fun b hb => ⟨hb.1, by rw [if_neg (fun e => eki (hb.2.symm.trans e)), if_neg (fun e => ekj (hb.2.symm.trans e))]; exact hb.2⟩)
theorem cell_set_some {w : World} {p q : Addr} {x v : Value} (h : w.cell? q = some v) : ∃ v', (w.setCell p x).cell? q = some v' := cell?_setCell_some h
def impl_fill.T21 : Bool × List (List Nat × List Nat) := (true, [([], []), ([], []), ([], []), ([], []), ([], []), ([], []), ([4, 5], [4, 5]), ([6], [6]), ([], []), ([], []), ([8, 9], [8, 9]), ([10], [10]), ([0, 1, 0, 1, 4, 5, 6, 7, 11], [0, 1]), ([12, 7, 0, 1, 4, 5, 6, 7, 11], [7, 12]), ([2, 3, 0, 1, 2, 3, 4, 5, 6, 7, 8, 9, 10, 11, 12, 13], [2, 3]), ([14, 11, 13, 0, 1, 2, 3, 4, 5, 6, 7, 8, 9, 10, 11, 12, 13], [11, 14])])
def impl_fill.B21 : List Nat := [0, 0, 0, 0, 0, 0, 48, 112, 0, 0, 768, 1792, 4083, 8179, 16383, 32767]
theorem impl_fill.tab21 : rtab .any (opsOf Try.f40 21) = impl_fill.T21 := by kernel_rfl
theorem impl_fill.bits21 : waitsOk impl_fill.T21.2 impl_fill.B21 = true := by kernel_rfl
abbrev impl_fill.mk_0 : Array Bool := #[false, false, false, false, false, false, false, false, false, false, false, false, false, false, false, false, false, false]
abbrev impl_fill.mk_1 : Array Bool := #[true, false, false, false, false, false, false, false, false, false, false, false, false, false, false, false, false, false]
abbrev impl_fill.mk_2 : Array Bool := #[true, true, false, false, false, false, false, false, false, false, false, false, false, false, false, false, false, false]
abbrev impl_fill.mk_3 : Array Bool := #[true, true, true, false, false, false, false, false, false, false, false, false, false, false, false, false, false, false]
abbrev impl_fill.mk_4 : Array Bool := #[true, true, true, true, false, false, false, false, false, false, false, false, false, false, false, false, false, false]
abbrev impl_fill.mk_5 : Array Bool := #[true, true, true, true, true, false, false, false, false, false, false, false, false, false, false, false, false, false]
abbrev impl_fill.mk_6 : Array Bool := #[true, true, true, true, true, false, true, false, false, false, false, false, false, false, false, false, false, false]
abbrev impl_fill.mk_7 : Array Bool := #[true, true, true, true, true, false, true, true, false, false, false, false, false, false, false, false, false, false]
abbrev impl_fill.mk_8 : Array Bool := #[true, true, true, true, true, false, true, true, true, false, false, false, false, false, false, false, false, false]
abbrev impl_fill.mk_9 : Array Bool := #[true, true, true, true, true, false, true, true, true, true, false, false, false, false, false, false, false, false]
abbrev impl_fill.mk_10 : Array Bool := #[true, true, true, true, true, false, true, true, true, true, true, false, false, false, false, false, false, false]
abbrev impl_fill.mk_11 : Array Bool := #[true, true, true, true, true, false, true, true, true, true, true, true, false, false, false, false, false, false]
abbrev impl_fill.mk_12 : Array Bool := #[true, true, true, true, true, false, true, true, true, true, true, true, true, false, false, false, false, false]
abbrev impl_fill.mk_13 : Array Bool := #[true, true, true, true, true, true, true, true, true, true, true, true, true, false, false, false, false, false]
abbrev impl_fill.mk_14 : Array Bool := #[true, true, true, true, true, true, true, true, true, true, true, true, true, true, false, false, false, false]
abbrev impl_fill.mk_15 : Array Bool := #[true, true, true, true, true, true, true, true, true, true, true, true, true, true, true, false, false, false]
abbrev impl_fill.mk_16 : Array Bool := #[true, true, true, true, true, true, true, true, true, true, true, true, true, true, true, true, false, false]
abbrev impl_fill.mk_17 : Array Bool := #[true, true, true, true, true, true, true, true, true, true, true, true, true, true, true, true, true, false]
abbrev impl_fill.mk_18 : Array Bool := #[true, true, true, true, true, true, true, true, true, true, true, true, true, true, true, true, true, true]
abbrev impl_fill.mk_19 : Array Bool := #[false, false, false, false, false, false, false, false, false, false, false, false, false]
abbrev impl_fill.mk_20 : Array Bool := #[true, false, false, false, false, false, false, false, false, false, false, false, false]
abbrev impl_fill.mk_21 : Array Bool := #[true, true, false, false, false, false, false, false, false, false, false, false, false]
abbrev impl_fill.mk_22 : Array Bool := #[true, true, true, false, false, false, false, false, false, false, false, false, false]
abbrev impl_fill.mk_23 : Array Bool := #[true, true, true, true, false, false, false, false, false, false, false, false, false]
abbrev impl_fill.mk_24 : Array Bool := #[true, true, true, true, true, false, false, false, false, false, false, false, false]
abbrev impl_fill.mk_25 : Array Bool := #[true, true, true, true, true, false, true, false, false, false, false, false, false]
abbrev impl_fill.mk_26 : Array Bool := #[true, true, true, true, true, false, true, true, false, false, false, false, false]
abbrev impl_fill.mk_27 : Array Bool := #[true, true, true, true, true, true, true, true, false, false, false, false, false]
abbrev impl_fill.mk_28 : Array Bool := #[true, true, true, true, true, true, true, true, true, false, false, false, false]
abbrev impl_fill.mk_29 : Array Bool := #[true, true, true, true, true, true, true, true, true, true, false, false, false]
abbrev impl_fill.mk_30 : Array Bool := #[true, true, true, true, true, true, true, true, true, true, true, false, false]
abbrev impl_fill.mk_31 : Array Bool := #[true, true, true, true, true, true, true, true, true, true, true, true, false]
abbrev impl_fill.mk_32 : Array Bool := #[true, true, true, true, true, true, true, true, true, true, true, true, true]
abbrev impl_fill.mk_33 : Array Bool := #[false, false, false, false, false, false, false, false, false, false, false, false, false, false, false, false]
abbrev impl_fill.mk_34 : Array Bool := #[true, false, false, false, false, false, false, false, false, false, false, false, false, false, false, false]
abbrev impl_fill.mk_35 : Array Bool := #[true, true, false, false, false, false, false, false, false, false, false, false, false, false, false, false]
abbrev impl_fill.mk_36 : Array Bool := #[true, true, true, false, false, false, false, false, false, false, false, false, false, false, false, false]
abbrev impl_fill.mk_37 : Array Bool := #[true, true, true, true, false, false, false, false, false, false, false, false, false, false, false, false]
abbrev impl_fill.mk_38 : Array Bool := #[true, true, true, true, true, false, false, false, false, false, false, false, false, false, false, false]
abbrev impl_fill.mk_39 : Array Bool := #[true, true, true, true, true, true, false, false, false, false, false, false, false, false, false, false]
abbrev impl_fill.mk_40 : Array Bool := #[true, true, true, true, true, true, true, false, false, false, false, false, false, false, false, false]
abbrev impl_fill.mk_41 : Array Bool := #[true, true, true, true, true, true, true, true, false, false, false, false, false, false, false, false]
abbrev impl_fill.mk_42 : Array Bool := #[true, true, true, true, true, true, true, true, true, false, false, false, false, false, false, false]
abbrev impl_fill.mk_43 : Array Bool := #[true, true, true, true, true, true, true, true, true, true, false, false, false, false, false, false]
abbrev impl_fill.mk_44 : Array Bool := #[true, true, true, true, true, true, true, true, true, true, true, false, false, false, false, false]
abbrev impl_fill.mk_45 : Array Bool := #[true, true, true, true, true, true, true, true, true, true, true, true, false, false, false, false]
abbrev impl_fill.mk_46 : Array Bool := #[true, true, true, true, true, true, true, true, true, true, true, true, true, false, false, false]
abbrev impl_fill.mk_47 : Array Bool := #[true, true, true, true, true, true, true, true, true, true, true, true, true, true, false, false]
abbrev impl_fill.mk_48 : Array Bool := #[true, true, true, true, true, true, true, true, true, true, true, true, true, true, true, false]
abbrev impl_fill.mk_49 : Array Bool := #[true, true, true, true, true, true, true, true, true, true, true, true, true, true, true, true]
abbrev impl_fill.mk_50 : Array Bool := #[true, true, true, false, true, false, false, false, false, false, false, false, false, false, false, false]
abbrev impl_fill.mk_51 : Array Bool := #[true, true, true, false, true, true, false, false, false, false, false, false, false, false, false, false]
abbrev impl_fill.mk_52 : Array Bool := #[true, true, true, false, true, true, true, false, false, false, false, false, false, false, false, false]
abbrev impl_fill.mk_53 : Array Bool := #[true, true, true, false, true, true, true, true, false, false, false, false, false, false, false, false]
abbrev impl_fill.mk_54 : Array Bool := #[true, true, true, false, true, true, true, true, false, true, false, false, false, false, false, false]
abbrev impl_fill.mk_55 : Array Bool := #[true, true, true, false, true, true, true, true, false, true, false, false, true, false, false, false]
abbrev impl_fill.mk_56 : Array Bool := #[true, true, true, true, true, true, true, true, false, true, false, false, true, false, false, false]
abbrev impl_fill.mk_57 : Array Bool := #[true, true, true, true, true, true, true, true, true, true, false, false, true, false, false, false]
abbrev impl_fill.mk_58 : Array Bool := #[true, true, true, true, true, true, true, true, true, true, true, false, true, false, false, false]
abbrev impl_fill.mk_59 : Array Bool := #[false, false, false, false, false, false, false, false, false, false, false, false, false, false, false, false, false, false, false]
abbrev impl_fill.mk_60 : Array Bool := #[true, false, false, false, false, false, false, false, false, false, false, false, false, false, false, false, false, false, false]
abbrev impl_fill.mk_61 : Array Bool := #[true, true, false, false, false, false, false, false, false, false, false, false, false, false, false, false, false, false, false]
abbrev impl_fill.mk_62 : Array Bool := #[true, true, true, false, false, false, false, false, false, false, false, false, false, false, false, false, false, false, false]
abbrev impl_fill.mk_63 : Array Bool := #[true, true, true, false, true, false, false, false, false, false, false, false, false, false, false, false, false, false, false]
abbrev impl_fill.mk_64 : Array Bool := #[true, true, true, false, true, false, false, true, false, false, false, false, false, false, false, false, false, false, false]
abbrev impl_fill.mk_65 : Array Bool := #[true, true, true, false, true, false, false, true, true, false, false, false, false, false, false, false, false, false, false]
abbrev impl_fill.mk_66 : Array Bool := #[true, true, true, false, true, false, false, true, true, true, false, false, false, false, false, false, false, false, false]
abbrev impl_fill.mk_67 : Array Bool := #[true, true, true, false, true, false, false, true, true, true, true, false, false, false, false, false, false, false, false]
abbrev impl_fill.mk_68 : Array Bool := #[true, true, true, false, true, false, false, true, true, true, true, false, true, false, false, false, false, false, false]
abbrev impl_fill.mk_69 : Array Bool := #[true, true, true, true, true, false, false, true, true, true, true, false, true, false, false, false, false, false, false]
abbrev impl_fill.mk_70 : Array Bool := #[true, true, true, true, true, true, false, true, true, true, true, false, true, false, false, false, false, false, false]
abbrev impl_fill.mk_71 : Array Bool := #[true, true, true, true, true, true, true, true, true, true, true, false, true, false, false, false, false, false, false]
abbrev impl_fill.mk_72 : Array Bool := #[true, true, true, true, true, true, true, true, true, true, true, true, true, false, false, false, false, false, false]
abbrev impl_fill.mk_73 : Array Bool := #[true, true, true, true, true, true, true, true, true, true, true, true, true, true, false, false, false, false, false]
abbrev impl_fill.mk_74 : Array Bool := #[true, true, true, true, true, true, true, true, true, true, true, true, true, true, true, false, false, false, false]
abbrev impl_fill.mk_75 : Array Bool := #[true, true, true, true, true, true, true, true, true, true, true, true, true, true, true, true, false, false, false]
abbrev impl_fill.mk_76 : Array Bool := #[true, true, true, true, true, true, true, true, true, true, true, true, true, true, true, true, true, false, false]
abbrev impl_fill.mk_77 : Array Bool := #[true, true, true, true, true, true, true, true, true, true, true, true, true, true, true, true, true, true, false]
abbrev impl_fill.mk_78 : Array Bool := #[true, true, true, true, true, true, true, true, true, true, true, true, true, true, true, true, true, true, true]
abbrev impl_fill.mk_79 : Array Bool := #[false, false, false, false, false, false, false, false, false, false, false, false, false, false, false]
abbrev impl_fill.mk_80 : Array Bool := #[true, false, false, false, false, false, false, false, false, false, false, false, false, false, false]
abbrev impl_fill.mk_81 : Array Bool := #[true, true, false, false, false, false, false, false, false, false, false, false, false, false, false]
abbrev impl_fill.mk_82 : Array Bool := #[true, true, true, false, false, false, false, false, false, false, false, false, false, false, false]
abbrev impl_fill.mk_83 : Array Bool := #[true, true, true, false, true, false, false, false, false, false, false, false, false, false, false]
abbrev impl_fill.mk_84 : Array Bool := #[true, true, true, false, true, true, false, false, false, false, false, false, false, false, false]
abbrev impl_fill.mk_85 : Array Bool := #[true, true, true, false, true, true, true, false, false, false, false, false, false, false, false]
abbrev impl_fill.mk_86 : Array Bool := #[true, true, true, false, true, true, true, false, true, false, false, false, false, false, false]
abbrev impl_fill.mk_87 : Array Bool := #[true, true, true, true, true, true, true, false, true, false, false, false, false, false, false]
abbrev impl_fill.mk_88 : Array Bool := #[true, true, true, true, true, true, true, true, true, false, false, false, false, false, false]
abbrev impl_fill.mk_89 : Array Bool := #[true, true, true, true, true, true, true, true, true, true, false, false, false, false, false]
abbrev impl_fill.mk_90 : Array Bool := #[true, true, true, true, true, true, true, true, true, true, true, false, false, false, false]
abbrev impl_fill.mk_91 : Array Bool := #[true, true, true, true, true, true, true, true, true, true, true, true, false, false, false]
abbrev impl_fill.mk_92 : Array Bool := #[true, true, true, true, true, true, true, true, true, true, true, true, true, false, false]
abbrev impl_fill.mk_93 : Array Bool := #[true, true, true, true, true, true, true, true, true, true, true, true, true, true, false]
abbrev impl_fill.mk_94 : Array Bool := #[true, true, true, true, true, true, true, true, true, true, true, true, true, true, true]
set_option maxHeartbeats 8000000 in
set_option maxRecDepth 100000 in
theorem impl_fill.calls (k : Nat) (A0 : Option Addr) (c0 : Nat) (l0 : List Int) (A1 : Option Addr) (c1 : Nat) (l1 : List Int) (a2 : Int) (r1 : List Int) (r2 : Bool) (w : World) (hr0 : Kd.C (Kd.int .u8) w A0 l0.length l0) (hc0 : l0.length ≤ c0) (hr1 : Kd.C (Kd.int .i64) w A1 l1.length l1) (hc1 : l1.length ≤ c1) (h : impl_fill.f k l0 l1 a2 = some (r1, r2)) :
  Calls Try.prog 40 #[.slice A0 l0.length c0, .slice A1 l1.length c1, .int .i64 a2] w fun e w' => ∃ v0_ : Value, e = .returned (.tuple #[v0_, .bool r2]) ∧ Kd.R (Kd.int .u8) 5 w' w.heap.size (fun _ => True) v0_ r1 ∧ Below w.heap.size w w' := by
 have HR0 := Aside0.mk hr0
 have HC0 := Aside0.mk hc0
 clear hr0 hc0
 have HR1 := Aside0.mk hr1
 have HC1 := Aside0.mk hc1
 clear hr1 hc1
 have HB := Aside0.mk (Below.refl w.heap.size w)
 have H : (if 0 ≤ (wrap64 (2 * a2)) then (if (wrap64 (2 * a2) : Int).toNat ≤ 11728124029610 then ((some (List.replicate (wrap64 (2 * a2) : Int).toNat [] : List (List Int))).bind fun y138 => (impl_fill.l0 k l0 l1 (l1.length : Int) y138 (y138.length : Int) 0)) else (none)) else (none)) = some (r1, r2) := h
 clear h
 obtain ⟨ji4, hji4⟩ : ∃ j_ : Int, (wrap64 (2 * a2)) = j_ := ⟨_, rfl⟩
 replace H : (if 0 ≤ (ji4) then (if (ji4 : Int).toNat ≤ 11728124029610 then ((some (List.replicate (ji4 : Int).toNat [] : List (List Int))).bind fun y138 => (impl_fill.l0 k l0 l1 (l1.length : Int) y138 (y138.length : Int) 0)) else (none)) else (none)) = some (r1, r2) := by first | (rw [hji4] at H; exact H) | (simp only [hji4] at H ⊢; exact H)
 have hji4w : (IntKind.i64.wrap (2 * a2)) = ji4 := (i64_w _).trans hji4
 by_cases c5 : 0 ≤ (ji4)
 ·rw [if_pos c5] at H
  have c5b0 := eq_true c5
  have c5b1 : decide (0 ≤ (ji4)) = true := decide_eq_true c5
  clear c5
  by_cases c6 : (ji4 : Int).toNat ≤ 11728124029610
  ·rw [if_pos c6] at H
   have c6b0 := eq_true c6
   have c6b1 : decide ((ji4 : Int).toNat ≤ 11728124029610) = true := decide_eq_true c6
   clear c6
   obtain ⟨y138, hy138⟩ : ∃ y_ : List (List Int), y_ = (List.replicate (ji4 : Int).toNat []) := ⟨_, rfl⟩
   replace H : (impl_fill.l0 k l0 l1 (l1.length : Int) y138 (y138.length : Int) 0) = some (r1, r2) := by first | (rw [hy138]; with_reducible exact H) | (have H2_ := (Option.bind_some _ _).symm.trans H; rw [hy138]; with_reducible exact H2_) | (have H2_ := (Option.bind_some _ _).symm.trans H; with_reducible exact H2_) | with_reducible exact H | (rw [hy138]; exact H) | exact H
   have Ny138 := Aside0.mk hy138
   clear hy138
   have H' := Aside0.mk H
   clear H
   go_enter Try.func40, Try.ntmps40
   go_wp2_with (first | ((with_reducible refine gate_dst (N := 29) rfl ?_); refine Kd.S_make (Kd.slice 3 (Kd.int .i64)) _ 24 rfl (N := 29) rfl 60 _ _ rfl ji4 rfl rfl Try.underlying60 (.slice none 0 0) 24 info24 rfl (by decide) (by omega) [] (ok := fun _ => True) (okp := fun _ => True) ⟨_, rfl, Kd.R_nil _ _ _ _ _⟩ (fun _ hk => hk) trivial (of_decide_eq_true (by first | (with_reducible assumption) | assumption)) (Nat.le_trans (Nat.mul_le_mul_right _ (of_decide_eq_true (by first | (with_reducible assumption) | assumption) : ji4.toNat ≤ 11728124029610)) (by omega)) (Below.refl _ _) (Nat.le_refl _) ?_; intro v139 w7 ho8 hb hg_ hnew_; clear hg_ hnew_; (first | rw [← Ny138.out] at ho8 | (simp only [Int.reduceToNat] at ho8; rw [← Ny138.out] at ho8)); have n0_ := Aside0.mk (Kd.S_lower ho8 (below_size (by repeat (first | (with_reducible first | exact HB.out | apply below_alloc | apply pw_below_drewN | apply below_drew1) | exact HB.out)))); have n1_ := Aside0.mk (below_step (by repeat (first | (with_reducible first | exact HB.out | apply below_alloc | apply pw_below_drewN | apply below_drew1) | exact HB.out)) hb); clear HB; have HO140 := n0_; have HB := n1_; clear n0_ n1_; clear hb ho8; obtain ⟨Ao9, co9, eo9⟩ := Kd.S_slice HO140.out; subst eo9))
   go_loopg [32] k (fun kq v32 w' => ∃ (x9_1 : List (List Int)) (x32_1 : Int), v32 = .int .i64 x32_1 ∧ Aside0 (impl_fill.l0 kq l0 l1 (l1.length : Int) x9_1 (y138.length : Int) x32_1 = some (r1, r2)) ∧ Aside0 (kq ≤ k) ∧ Aside0 (Kd.S (Kd.slice 3 (Kd.int .i64)) 24 w' w.heap.size (fun _ => True) (.slice Ao9 y138.length co9) x9_1) ∧ Aside0 (Below w.heap.size w w'))
   case atStart => exact ⟨(y138), (0), (by first | rfl | (simp; done) | (simp [*]; done)), H', ⟨Nat.le_refl _⟩, ⟨by (with_reducible repeat (first | apply Kd.S_alloc | apply Kd.S_drewN | apply Kd.S_drew)); exact HO140.out⟩, ⟨by repeat (first | (with_reducible first | exact HB.out | apply below_alloc | apply pw_below_drewN | apply below_drew1) | exact HB.out)⟩⟩
   case round => as_aux_lemma =>
    clear H'
    try clear c1
    try clear p2
    try clear c4
    try clear c5
    try clear c5b0
    try clear c5b1
    try clear c6
    try clear c6b0
    try clear c6b1
    try clear p6
    obtain ⟨x9_1, x32_1, rfl, HA, HK1, HO_9, HB⟩ := hrel
    have hl9_1 := (Kd.S_reads' HO_9.out).1
    rw [hl9_1] at HO_9
    (try simp only [hl9_1])
    cases gk with
    | zero => exact absurd HA.out (by simp [impl_fill.l0])
    | succ k1 =>
     have H := HA.out
     clear HA
     simp only [impl_fill.l0] at H
     by_cases c10 : x32_1 < (y138.length : Int)
     ·rw [if_pos c10] at H
      have c10b0 : decide (x32_1 < (y138.length : Int)) = true := decide_eq_true c10
      try rw [hl9_1] at c10b0
      clear c10
      have H' := Aside0.mk H
      clear H
      go_wp2
      go_loopg [37] k1 (fun kq v37 w' => ∃ (x9_2 : List (List Int)) (x37_2 : Int), v37 = .int .i64 x37_2 ∧ Aside0 (impl_fill.l1 kq l0 l1 (l1.length : Int) x9_2 x32_1 (y138.length : Int) x32_1 l1 (l1.length : Int) x37_2 = some (r1, r2)) ∧ Aside0 (kq ≤ k1) ∧ Aside0 (Kd.S (Kd.slice 3 (Kd.int .i64)) 24 w' w.heap.size (fun _ => True) (.slice Ao9 x9_1.length co9) x9_2) ∧ Aside0 (Below w.heap.size w w'))
      case atStart => exact ⟨(x9_1), (0), (by first | rfl | (simp; done) | (simp [*]; done)), H', ⟨Nat.le_refl _⟩, ⟨by (try simp only [hl9_1]); (with_reducible repeat (first | apply Kd.S_alloc | apply Kd.S_drewN | apply Kd.S_drew)); exact HO_9.out⟩, ⟨by repeat (first | (with_reducible first | exact HB.out | apply below_alloc | apply pw_below_drewN | apply below_drew1) | exact HB.out)⟩⟩
      case round => as_aux_lemma =>
       clear H'
       try clear c1
       try clear p2
       try clear c4
       try clear c5
       try clear c5b0
       try clear c5b1
       try clear c6
       try clear c6b0
       try clear c6b1
       try clear p6
       try clear c10
       try clear c10b0
       try clear p2
       try clear p6
       obtain ⟨x9_2, x37_2, rfl, HA, HK2, HO_9, HB⟩ := hrel
       have hl9_2 := (Kd.S_reads' HO_9.out).1
       rw [hl9_2] at HO_9
       (try simp only [hl9_2])
       cases gk with
       | zero => exact absurd HA.out (by simp [impl_fill.l1])
       | succ k2 =>
        have H := HA.out
        clear HA
        simp only [impl_fill.l1] at H
        by_cases c11 : x37_2 < (l1.length : Int)
        ·rw [if_pos c11] at H
         have c11b0 : decide (x37_2 < (l1.length : Int)) = true := decide_eq_true c11
         clear c11
         by_cases c12 : 0 ≤ x37_2
         ·rw [if_pos c12] at H
          have c12b0 : decide (0 ≤ x37_2) = true := decide_eq_true c12
          clear c12
          by_cases c13 : x37_2 < (l1.length : Int)
          ·rw [if_pos c13] at H
           have c13b0 : decide (x37_2 < (l1.length : Int)) = true := decide_eq_true c13
           clear c13
           by_cases c14 : 0 ≤ x32_1
           ·rw [if_pos c14] at H
            have c14b0 : decide (0 ≤ x32_1) = true := decide_eq_true c14
            clear c14
            by_cases c15 : x32_1 < (x9_2.length : Int)
            ·rw [if_pos c15] at H
             have c15b0 : decide (x32_1 < (x9_2.length : Int)) = true := decide_eq_true c15
             clear c15
             replace H := Option.bind_eq_some_iff.mp H
             obtain ⟨t143, A160, H⟩ := H
             replace H : (if (rd_L2 x9_2 x32_1).length < 17592186044416 then (impl_fill.l1 k2 l0 l1 (l1.length : Int) (x9_2.set (x32_1 : Int).toNat ((rd_L2 x9_2 x32_1) ++ [t143])) x32_1 (y138.length : Int) x32_1 l1 (l1.length : Int) (wrap64 (x37_2 + 1))) else (none)) = some (r1, r2) := H
             have A16 := Aside0.mk A160
             clear A160
             by_cases c17 : (rd_L2 x9_2 x32_1).length < 17592186044416
             ·rw [if_pos c17] at H
              have LMc17 := Aside0.mk c17
              clear c17
              obtain ⟨y144, hy144⟩ : ∃ y_ : List Int, y_ = ((rd_L2 x9_2 x32_1) ++ [t143]) := ⟨_, rfl⟩
              replace H : (impl_fill.l1 k2 l0 l1 (l1.length : Int) (x9_2.set (x32_1 : Int).toNat y144) x32_1 (y138.length : Int) x32_1 l1 (l1.length : Int) (wrap64 (x37_2 + 1))) = some (r1, r2) := by first | (rw [hy144]; with_reducible exact H) | (have H2_ := (Option.bind_some _ _).symm.trans H; rw [hy144]; with_reducible exact H2_) | (have H2_ := (Option.bind_some _ _).symm.trans H; with_reducible exact H2_) | with_reducible exact H | (rw [hy144]; exact H) | exact H
              have Ny144 := Aside0.mk hy144
              clear hy144
              obtain ⟨y147, hy147⟩ : ∃ y_ : List (List Int), y_ = (x9_2.set (x32_1 : Int).toNat y144) := ⟨_, rfl⟩
              replace H : (impl_fill.l1 k2 l0 l1 (l1.length : Int) y147 x32_1 (y138.length : Int) x32_1 l1 (l1.length : Int) (wrap64 (x37_2 + 1))) = some (r1, r2) := by first | (rw [hy147]; with_reducible exact H) | (have H2_ := (Option.bind_some _ _).symm.trans H; rw [hy147]; with_reducible exact H2_) | (have H2_ := (Option.bind_some _ _).symm.trans H; with_reducible exact H2_) | with_reducible exact H | (rw [hy147]; exact H) | exact H
              have Ny147 := Aside0.mk hy147
              clear hy147
              have H' := Aside0.mk H
              clear H
              have p141 : 0 ≤ (x37_2 : Int) := of_decide_eq_true (by first | (with_reducible assumption) | assumption)
              have q141 : x37_2 < (l1.length : Int) := of_decide_eq_true (by first | (with_reducible assumption) | assumption)
              obtain ⟨ad141, e141, hx141_0⟩ := Kd.at_int HR1.out x37_2 p141 q141
              cases e141
              (first | (replace hx141_0 := (HB.out.cell (World.block_lt_of_cell? w _ hx141_0)).trans hx141_0) | skip)
              replace p141 := eq_true p141
              replace q141 := eq_true q141
              try go_wp2
              have n0_ := Aside0.mk (Kd.S_drew HO_9.out)
              have n1_ := Aside0.mk (below_drew1 HB.out)
              clear HO_9
              clear HB
              have HO_9 := n0_
              have HB := n1_
              clear n0_ n1_
              have p142 : 0 ≤ (x32_1 : Int) := of_decide_eq_true (by first | (with_reducible assumption) | assumption)
              have q142 : x32_1 < (x9_2.length : Int) := of_decide_eq_true (by first | (with_reducible assumption) | assumption)
              obtain ⟨ad142, A142_0, c142_0, e142, hx142_0, hl142_0, hi142_0⟩ := at_L2 (Kd.S_reads' HO_9.out).2.2 x32_1 p142 q142
              cases e142
              obtain ⟨ce142, hce142, hMe142, hcc142⟩ := Kd.S_get HO_9.out [] x32_1 p142 (by first | exact q142 | exact of_decide_eq_true (by first | (with_reducible assumption) | assumption) | (have e_ := (Kd.S_reads' HO_9.out).1; omega))
              obtain ⟨ve142_0, rfl, ge142_0⟩ := hMe142
              have hv142_0 := hcc142 0 _ rfl
              rw [Nat.add_zero, show ((Kd.slice 3 (Kd.int .i64))).sz = 1 from rfl, Nat.mul_one] at hv142_0
              replace hv142_0 := Option.some.inj (hv142_0.symm.trans hx142_0)
              rw [hv142_0] at ge142_0
              have HL142_0 := Aside0.mk (show Kd.R (Kd.int .i64) 3 _ _ _ _ (rd_L2 x9_2 x32_1) from ge142_0)
              clear hv142_0 ge142_0
              have HX142_0 := Aside0.mk hx142_0
              clear hcc142 hce142
              have HR142_0 := Aside0.mk hi142_0
              have HC142_0 := Aside0.mk hl142_0
              clear hi142_0 hl142_0
              replace p142 := eq_true p142
              replace q142 := eq_true q142
              refine start_ (n := 18) (S := fun w' => w'.cell? (ad142.add (x32_1).toNat) = some (.slice A142_0 (rd_L2 x9_2 x32_1).length c142_0)) (ds := [17]) impl_fill.mk_0 (by kernel_rfl) rfl rfl (hx142_0) (fun hHeld => ?_); refine with_tabW impl_fill.tab9 impl_fill.bits9 (fun HT_ HW_ => ?_)
              generalize wr.drew = w19 at HO_9 HB HL142_0 HR142_0 HX142_0 hx142_0 hHeld ⊢
              refine pure_ (i := 0) (N := some 41) (v := ?_) (a' := ?_) impl_fill.mk_1 rfl rfl (any_of HT_.out (by kernel_rfl)) (fun _ _ _ h => h) (Or.inl ⟨by rfl, ?_⟩) ?_ ?_
              rotate_left
              ·intro w'
               go_simp
               with_reducible rfl
              rotate_left
              ·simp only [Act.put, List.setIfInBounds_toArray, List.set_cons_zero, List.set_cons_succ, i64_w, i32_w]
               rfl
              refine pure_ (i := 1) (N := some 42) (v := ?_) (a' := ?_) impl_fill.mk_2 rfl rfl (any_of HT_.out (by kernel_rfl)) (fun _ _ _ h => h) (Or.inl ⟨by rfl, ?_⟩) ?_ ?_
              rotate_left
              ·intro w'
               go_simp
               with_reducible rfl
              rotate_left
              ·simp only [Act.put, List.setIfInBounds_toArray, List.set_cons_zero, List.set_cons_succ, i64_w, i32_w]
               rfl
              refine pure_ (i := 2) (N := some 43) (v := ?_) (a' := ?_) impl_fill.mk_3 rfl rfl (any_of HT_.out (by kernel_rfl)) (fun _ _ _ h => h) (Or.inl ⟨by rfl, ?_⟩) ?_ ?_
              rotate_left
              ·intro w'
               go_simp
               with_reducible rfl
              rotate_left
              ·simp only [Act.put, List.setIfInBounds_toArray, List.set_cons_zero, List.set_cons_succ, i64_w, i32_w]
               rfl
              refine pure_ (i := 3) (N := some 44) (v := ?_) (a' := ?_) impl_fill.mk_4 rfl rfl (any_of HT_.out (by kernel_rfl)) (fun _ _ _ h => h) (Or.inl ⟨by rfl, ?_⟩) ?_ ?_
              rotate_left
              ·intro w'
               go_simp
               with_reducible rfl
              rotate_left
              ·simp only [Act.put, List.setIfInBounds_toArray, List.set_cons_zero, List.set_cons_succ, i64_w, i32_w]
               rfl
              refine pure_ (i := 4) (N := some 45) (v := ?_) (a' := ?_) impl_fill.mk_5 rfl rfl (any_of HT_.out (by kernel_rfl)) (fun _ _ _ h => h) (Or.inl ⟨by rfl, ?_⟩) ?_ ?_
              rotate_left
              ·intro w'
               go_simp
               with_reducible rfl
              rotate_left
              ·simp only [Act.put, List.setIfInBounds_toArray, List.set_cons_zero, List.set_cons_succ, i64_w, i32_w]
               rfl
              refine pure_ (i := 6) (N := some 47) (v := ?_) (a' := ?_) impl_fill.mk_6 rfl rfl (any_of HT_.out (by kernel_rfl)) (fun _ _ _ h => h) (Or.inl ⟨by rfl, ?_⟩) ?_ ?_
              rotate_left
              ·intro w'
               go_simp
               with_reducible rfl
              rotate_left
              ·simp only [Act.put, List.setIfInBounds_toArray, List.set_cons_zero, List.set_cons_succ, i64_w, i32_w]
               rfl
              refine pure_ (i := 7) (N := some 48) (v := ?_) (a' := ?_) impl_fill.mk_7 rfl rfl (any_of HT_.out (by kernel_rfl)) (fun _ _ _ h => h) (Or.inl ⟨by rfl, ?_⟩) ?_ ?_
              rotate_left
              ·intro w'
               go_simp
               with_reducible rfl
              rotate_left
              ·simp only [Act.put, List.setIfInBounds_toArray, List.set_cons_zero, List.set_cons_succ, i64_w, i32_w]
               rfl
              refine pure_ (i := 8) (N := some 49) (v := ?_) (a' := ?_) impl_fill.mk_8 rfl rfl (any_of HT_.out (by kernel_rfl)) (fun _ _ _ h => h) (Or.inl ⟨by rfl, ?_⟩) ?_ ?_
              rotate_left
              ·intro w'
               go_simp
               with_reducible rfl
              rotate_left
              ·simp only [Act.put, List.setIfInBounds_toArray, List.set_cons_zero, List.set_cons_succ, i64_w, i32_w]
               rfl
              refine pure_ (i := 9) (N := some 50) (v := ?_) (a' := ?_) impl_fill.mk_9 rfl rfl (any_of HT_.out (by kernel_rfl)) (fun _ _ _ h => h) (Or.inl ⟨by rfl, ?_⟩) ?_ ?_
              rotate_left
              ·intro w'
               go_simp
               with_reducible rfl
              rotate_left
              ·simp only [Act.put, List.setIfInBounds_toArray, List.set_cons_zero, List.set_cons_succ, i64_w, i32_w]
               rfl
              refine pure_ (i := 10) (N := some 51) (v := ?_) (a' := ?_) impl_fill.mk_10 rfl rfl (any_of HT_.out (by kernel_rfl)) (fun _ _ _ h => h) (Or.inl ⟨by rfl, ?_⟩) ?_ ?_
              rotate_left
              ·intro w'
               go_simp
               with_reducible rfl
              rotate_left
              ·simp only [Act.put, List.setIfInBounds_toArray, List.set_cons_zero, List.set_cons_succ, i64_w, i32_w]
               rfl
              refine pure_ (i := 11) (N := some 52) (v := ?_) (a' := ?_) impl_fill.mk_11 rfl rfl (any_of HT_.out (by kernel_rfl)) (fun _ _ _ h => h) (Or.inl ⟨by rfl, ?_⟩) ?_ ?_
              rotate_left
              ·intro w'
               go_simp
               with_reducible rfl
              rotate_left
              ·simp only [Act.put, List.setIfInBounds_toArray, List.set_cons_zero, List.set_cons_succ, i64_w, i32_w]
               rfl
              refine pure_ (i := 12) (N := some 53) (v := ?_) (a' := ?_) impl_fill.mk_12 rfl rfl (any_of HT_.out (by kernel_rfl)) (fun _ _ _ h => h) (Or.inl ⟨by rfl, ?_⟩) ?_ ?_
              rotate_left
              ·intro w'
               go_simp
               with_reducible rfl
              rotate_left
              ·simp only [Act.put, List.setIfInBounds_toArray, List.set_cons_zero, List.set_cons_succ, i64_w, i32_w]
               rfl
              refine take_ (i := 5) (N := some 46) (v := ?_) (a' := ?_) impl_fill.mk_13 rfl rfl (take_ofW HT_.out HW_.out (by kernel_rfl)) (fun _ _ _ h => h) (Or.inl ⟨by rfl, ?_⟩) hHeld ?_ ?_
              rotate_left
              ·intro w' s0
               go_simp
               with_reducible rfl
              rotate_left
              ·simp only [Act.put, List.setIfInBounds_toArray, List.set_cons_zero, List.set_cons_succ, i64_w, i32_w]
               rfl
              refine one_ (i := 13) (N := some 54) impl_fill.mk_14 rfl rfl (one_of HT_.out (by kernel_rfl)) (by decide) (fun K hK => ?_)
              refine goes_ Try.func33 (by kernel_rfl) rfl #[.int .i64 (wrap64 ((wrap64 ((wrap64 ((l0.length : Int) - 1)) - (rd l1 x37_2))) * x32_1))] (by rfl) rfl rfl (by (try simp only [List.map_toArray, List.map_cons, List.map_nil]); first | done | rfl | (simp only [List.length_drop, List.length_take]; rfl)) ?_
              with_reducible refine (impl_gfPow.calls k2 (wrap64 ((wrap64 ((wrap64 ((l0.length : Int) - 1)) - (rd l1 x37_2))) * x32_1)) t143 _ A16.out).mono ?_
              rintro e w' ⟨rfl, ⟨nd, rfl⟩⟩
              refine ⟨_, rfl, ?_⟩
              obtain ⟨go20, co20, eo20, gb20, gl20, cl20, HG20⟩ := Kd.S_form HO_9.out (by have h_ : (x32_1 : Int) < ((x9_2.length : Int) : Int) := of_decide_eq_true (by first | (with_reducible assumption) | assumption); have h2_ : 0 ≤ (x32_1 : Int) := (of_decide_eq_true (by first | (with_reducible assumption) | assumption)); omega)
              (first | cases eo20 | (injection eo20 with ea_ en_ ec_; (first | subst ea_ | (injection ea_ with ea_; subst ea_)); subst ec_; clear en_))
              have GB20 := Aside0.mk gb20
              have GG20 := Aside0.mk HG20
              clear gb20 gl20 HG20
              (first | simp only [add_plain] at hx142_0 | skip)
              obtain ⟨oki20, ce20, hcl20, hM20, hcc20, _, _, hH20⟩ := Kd.S_elem HO_9.out [] (x32_1 : Int) (of_decide_eq_true (by first | (with_reducible assumption) | assumption)) (by have h_ : (x32_1 : Int) < ((x9_2.length : Int) : Int) := of_decide_eq_true (by first | (with_reducible assumption) | assumption); first | exact h_ | (have e_ := (Kd.S_reads' HO_9.out).1; omega) | simpa using h_)
              obtain ⟨ve20_0, rfl, ge20_0⟩ := hM20
              have hv20 := hcc20 0 _ rfl
              have hX20 := HX142_0.out
              (try simp only [add_plain] at hX20)
              (try simp only [Nat.add_zero] at hv20)
              (try rw [show ((Kd.slice 3 (Kd.int .i64))).sz = 1 from rfl, Nat.mul_one] at hv20)
              replace hv20 := Option.some.inj (hv20.symm.trans hX20)
              subst hv20
              clear hX20 hcc20 hcl20
              have UU20 := Aside0.mk (show Kd.R (Kd.int .i64) 3 _ w.heap.size oki20 (.slice A142_0 (rd_L2 x9_2 x32_1).length c142_0) (rd_L2 x9_2 x32_1) from ge20_0)
              have HH20 := Aside0.mk hH20
              have HN20 := Aside0.mk (Kd.S_reads' HO_9.out).1
              clear hH20 ge20_0
              refine hK.out _ _ (hHeld) (fun hHeld => ?_)
              clear hK K
              refine norm_ (a' := ?_) ?_ ?_
              rotate_left
              ·show Act.put _ (some 54) _ = _
               simp only [Act.put, List.setIfInBounds_toArray, List.set_cons_zero, List.set_cons_succ, i64_w, i32_w]
               rfl
              refine one_ (i := 14) (N := some 55) impl_fill.mk_15 rfl rfl (one_of HT_.out (by kernel_rfl)) (by decide) (fun K hK => ?_)
              refine value_ (w1 := ?_) (v := ?_) (by rfl) rfl ?_ ?_
              rotate_left 2
              ·go_simp
               constructor
               ·rfl
               ·rfl
              refine hK.out _ _ ((World.cell?_alloc_lt _ _ _ (World.block_lt_of_cell? _ _ (hHeld))).trans (hHeld)) (fun hHeld => ?_)
              clear hK K
              refine norm_ (a' := ?_) ?_ ?_
              rotate_left
              ·show Act.put _ (some 55) _ = _
               simp only [Act.put, List.setIfInBounds_toArray, List.set_cons_zero, List.set_cons_succ, i64_w, i32_w]
               rfl
              refine one_ (i := 15) (N := some 56) impl_fill.mk_16 rfl rfl (one_of HT_.out (by kernel_rfl)) (by decide) (fun K hK => ?_)
              refine Kd.R_append_step (Kd.int .i64) (w0 := w) w.heap.size (by rfl) (.tmp 46) (.tmp 55) 24 3 (.int .i64 0) 8 rfl Try.underlying24 info3 rfl (by decide) (by omega) (.slice A142_0 (rd_L2 x9_2 x32_1).length c142_0) (rd_L2 x9_2 x32_1) t143 [.int .i64 t143] (fun k_ => oki20 k_ ∨ ((fun _ => True)) k_ ∧ w19.heap.size ≤ k_) (fun _ => False) rfl rfl ?aP (fun _ hk => hk.elim) ?aF ?aO ?aB ?aS ?aL ?_
              (case aP => exact rfl)
              (case aB => exact (by repeat (first | (with_reducible first | exact HB.out | apply below_alloc | apply pw_below_drewN | apply below_drew1) | exact HB.out)))
              (case aF => exact (fun k_ hk => .inr ⟨trivial, hk⟩))
              (case aO => exact (by (with_reducible repeat (first | apply Kd.R_alloc | apply Kd.R_drewN | apply Kd.R_drew)); exact Kd.R_mono UU20.out (fun _ hk => .inl hk)))
              (case aS => exact (below_size (by repeat (first | (with_reducible first | exact HB.out | apply below_alloc | apply pw_below_drewN | apply below_drew1) | exact HB.out))))
              (case aL => have := LMc17.out; omega)
              intro v145 w21 ho hb hg hat
              (first | have HS0_ := cell_grown hg (hHeld) (by first | (rw [add_block]; exact (fun e_ => ((HL142_0.out.1 _ e_.symm).2) rfl)) | (show some (Addr.add _ _).block ≠ _; rw [add_block]; exact (fun e_ => ((HL142_0.out.1 _ e_.symm).2) rfl)) | exact (fun e_ => ((HL142_0.out.1 _ e_.symm).2) rfl)) | have HS0_ := cell_grown hg (cell_unalloc (hHeld) (by first | (rw [add_block]; exact Kd.S_lt HO_9.out _ rfl) | (show (Addr.add _ _).block < _; rw [add_block]; exact Kd.S_lt HO_9.out _ rfl) | exact Kd.S_lt HO_9.out _ rfl)) (by first | (rw [add_block]; exact (fun e_ => ((HL142_0.out.1 _ e_.symm).2) rfl)) | (show some (Addr.add _ _).block ≠ _; rw [add_block]; exact (fun e_ => ((HL142_0.out.1 _ e_.symm).2) rfl)) | exact (fun e_ => ((HL142_0.out.1 _ e_.symm).2) rfl)))
              rw [← Ny144.out] at ho
              have n0_ := Aside0.mk (hb)
              have n1_ := Aside0.mk (Kd.H_grown (Kd.H_widen (by repeat (first | exact HH20.out | refine Kd.H_alloc ?_ _ | refine Kd.H_drewN ?_ _ | refine Kd.H_drew ?_))) hg (fun k_ e_ => .inl (UU20.out.1 k_ e_)))
              have n2_ := Aside0.mk (ho)
              clear HB
              clear HH20
              clear HO_9
              clear UU20
              clear HL142_0
              have HB := n0_
              have HH20 := n1_
              have HO146 := n2_
              clear n0_ n1_ n2_
              clear ho hb hg hat
              have p18 : 0 ≤ (x32_1 : Int) := of_decide_eq_true (by first | (with_reducible assumption) | assumption)
              have q18 : (x32_1 : Int) < ((x9_2.length : Int) : Int) := of_decide_eq_true (by first | (with_reducible assumption) | assumption)
              replace p18 := eq_true p18
              replace q18 := eq_true q18
              obtain ⟨Ao24, co24, eo24⟩ := Kd.R_slice HO146.out
              (first | subst eo24 | (injection eo24 with f1_ f2_ f3_; have f4_ := f1_.symm; have f5_ := f3_.symm; clear f1_ f2_ f3_; subst f4_; subst f5_))
              obtain ⟨_, _, hraw22, _, _, hcc22, _⟩ := Kd.H_raw HH20.out (of_decide_eq_true (by first | (with_reducible assumption) | assumption)) (by have h_ : (x32_1 : Int) < ((x9_2.length : Int) : Int) := of_decide_eq_true (by first | (with_reducible assumption) | assumption); first | exact h_ | (have e_ := (HN20.out); omega) | simpa using h_)
              obtain ⟨_, hfr22⟩ := Kd.H_at HH20.out (of_decide_eq_true (by first | (with_reducible assumption) | assumption)) (by have h_ : (x32_1 : Int) < ((x9_2.length : Int) : Int) := of_decide_eq_true (by first | (with_reducible assumption) | assumption); first | exact h_ | (have e_ := (HN20.out); omega) | simpa using h_)
              have hx22_0 := hcc22 0 _ rfl
              have hf22_0 := hfr22 0
              (try simp only [Nat.add_zero] at hx22_0 hf22_0)
              (try rw [show ((Kd.slice 3 (Kd.int .i64))).sz = 1 from rfl, Nat.mul_one] at hx22_0)
              (try rw [show ((Kd.slice 3 (Kd.int .i64))).sz = 1 from rfl, Nat.mul_one] at hf22_0)
              have HP22 := Kd.S_seg0 HH20.out (of_decide_eq_true (by first | (with_reducible assumption) | assumption)) (by have h_ : (x32_1 : Int) < ((x9_2.length : Int) : Int) := of_decide_eq_true (by first | (with_reducible assumption) | assumption); first | exact h_ | (have e_ := (HN20.out); omega) | simpa using h_) (seg := [.slice Ao24 y144.length co24]) (j := 0) (show 1 ≤ 1 from by decide) (x' := y144) (Kd.M_row HO146.out) (fun _ hk => hk)
              (try simp only [show ((Kd.slice 3 (Kd.int .i64))).sz = 1 from rfl, Nat.mul_one, Nat.add_zero] at HP22)
              clear hcc22 hfr22
              have HS22 := HP22.1
              rw [← Ny147.out] at HS22
              have HQ22 := Aside0.mk HS22
              obtain ⟨_, hgg22⟩ := Kd.R_typed hraw22 go20 rfl
              have GG22_ := Aside0.mk hgg22
              clear HP22 HS22 hgg22
              refine hK.out _ _ (HS0_) (fun hHeld => ?_)
              clear hK K
              refine norm_ (a' := ?_) ?_ ?_
              rotate_left
              ·show Act.put _ (some 56) _ = _
               simp only [Act.put, List.setIfInBounds_toArray, List.set_cons_zero, List.set_cons_succ, i64_w, i32_w]
               rfl
              refine pure_ (i := 16) (N := some 57) (v := ?_) (a' := ?_) impl_fill.mk_17 rfl rfl (any_of HT_.out (by kernel_rfl)) (fun _ _ _ h => h) (Or.inl ⟨by rfl, ?_⟩) ?_ ?_
              rotate_left
              ·intro w'
               go_simp
               with_reducible rfl
              rotate_left
              ·simp only [Act.put, List.setIfInBounds_toArray, List.set_cons_zero, List.set_cons_succ, i64_w, i32_w]
               rfl
              refine last_ (i := 17) (N := none) impl_fill.mk_18 rfl rfl (one_of HT_.out (by kernel_rfl)) (by decide) (fun K hK => ?_)
              refine skip_ (w1 := ?_) (by rfl) rfl ?_ ?_
              rotate_left
              ·go_simp
               rfl
              refine hK.out _ _ ?_
              clear hK K
              refine done_ (done_of HT_.out (by kernel_rfl)) ?_
              try go_wp2
              (try simp only [← hl9_2])
              go_roundg k2
              case measure => have := HK1.out; have := HK2.out; omega
              case rel => exact ⟨(y147), (wrap64 (x37_2 + 1)), (by first | rfl | (simp; done) | (simp [*]; done)), H', ⟨by have := HK1.out; have := HK2.out; omega⟩, ⟨by (try simp only [hl9_1]); (try simp only [hl9_2]); (with_reducible repeat (first | apply Kd.S_alloc | apply Kd.S_drewN | apply Kd.S_drew)); exact HQ22.out⟩, ⟨by repeat (first | (with_reducible first | exact HB.out | apply below_alloc | apply pw_below_drewN | apply below_drew1 | refine below_set ?_ GB20.out) | exact HB.out)⟩⟩
             ·rw [if_neg c17] at H
              exact absurd H (by simp)
            ·rw [if_neg c15] at H
             exact absurd H (by simp)
           ·rw [if_neg c14] at H
            exact absurd H (by simp)
          ·rw [if_neg c13] at H
           exact absurd H (by simp)
         ·rw [if_neg c12] at H
          exact absurd H (by simp)
        ·rw [if_neg c11] at H
         have c11b0 : decide (x37_2 < (l1.length : Int)) = false := decide_eq_false c11
         clear c11
         by_cases c25 : 0 ≤ x32_1
         ·rw [if_pos c25] at H
          have c25b0 : decide (0 ≤ x32_1) = true := decide_eq_true c25
          clear c25
          by_cases c26 : x32_1 < (x9_2.length : Int)
          ·rw [if_pos c26] at H
           have c26b0 : decide (x32_1 < (x9_2.length : Int)) = true := decide_eq_true c26
           clear c26
           replace H := Option.bind_eq_some_iff.mp H
           obtain ⟨t149, A270, H⟩ := H
           replace H : (if (rd_L2 x9_2 x32_1).length < 17592186044416 then (impl_fill.l0 k2 l0 l1 (l1.length : Int) (x9_2.set (x32_1 : Int).toNat ((rd_L2 x9_2 x32_1) ++ [t149])) (y138.length : Int) (wrap64 (x32_1 + 1))) else (none)) = some (r1, r2) := H
           have A27 := Aside0.mk A270
           clear A270
           by_cases c28 : (rd_L2 x9_2 x32_1).length < 17592186044416
           ·rw [if_pos c28] at H
            have LMc28 := Aside0.mk c28
            clear c28
            obtain ⟨y150, hy150⟩ : ∃ y_ : List Int, y_ = ((rd_L2 x9_2 x32_1) ++ [t149]) := ⟨_, rfl⟩
            replace H : (impl_fill.l0 k2 l0 l1 (l1.length : Int) (x9_2.set (x32_1 : Int).toNat y150) (y138.length : Int) (wrap64 (x32_1 + 1))) = some (r1, r2) := by first | (rw [hy150]; with_reducible exact H) | (have H2_ := (Option.bind_some _ _).symm.trans H; rw [hy150]; with_reducible exact H2_) | (have H2_ := (Option.bind_some _ _).symm.trans H; with_reducible exact H2_) | with_reducible exact H | (rw [hy150]; exact H) | exact H
            have Ny150 := Aside0.mk hy150
            clear hy150
            obtain ⟨y153, hy153⟩ : ∃ y_ : List (List Int), y_ = (x9_2.set (x32_1 : Int).toNat y150) := ⟨_, rfl⟩
            replace H : (impl_fill.l0 k2 l0 l1 (l1.length : Int) y153 (y138.length : Int) (wrap64 (x32_1 + 1))) = some (r1, r2) := by first | (rw [hy153]; with_reducible exact H) | (have H2_ := (Option.bind_some _ _).symm.trans H; rw [hy153]; with_reducible exact H2_) | (have H2_ := (Option.bind_some _ _).symm.trans H; with_reducible exact H2_) | with_reducible exact H | (rw [hy153]; exact H) | exact H
            have Ny153 := Aside0.mk hy153
            clear hy153
            have H' := Aside0.mk H
            clear H
            try go_wp2
            have n0_ := Aside0.mk (Kd.S_drew HO_9.out)
            have n1_ := Aside0.mk (below_drew1 HB.out)
            clear HO_9
            clear HB
            have HO_9 := n0_
            have HB := n1_
            clear n0_ n1_
            have p148 : 0 ≤ (x32_1 : Int) := of_decide_eq_true (by first | (with_reducible assumption) | assumption)
            have q148 : x32_1 < (x9_2.length : Int) := of_decide_eq_true (by first | (with_reducible assumption) | assumption)
            obtain ⟨ad148, A148_0, c148_0, e148, hx148_0, hl148_0, hi148_0⟩ := at_L2 (Kd.S_reads' HO_9.out).2.2 x32_1 p148 q148
            cases e148
            obtain ⟨ce148, hce148, hMe148, hcc148⟩ := Kd.S_get HO_9.out [] x32_1 p148 (by first | exact q148 | exact of_decide_eq_true (by first | (with_reducible assumption) | assumption) | (have e_ := (Kd.S_reads' HO_9.out).1; omega))
            obtain ⟨ve148_0, rfl, ge148_0⟩ := hMe148
            have hv148_0 := hcc148 0 _ rfl
            rw [Nat.add_zero, show ((Kd.slice 3 (Kd.int .i64))).sz = 1 from rfl, Nat.mul_one] at hv148_0
            replace hv148_0 := Option.some.inj (hv148_0.symm.trans hx148_0)
            rw [hv148_0] at ge148_0
            have HL148_0 := Aside0.mk (show Kd.R (Kd.int .i64) 3 _ _ _ _ (rd_L2 x9_2 x32_1) from ge148_0)
            clear hv148_0 ge148_0
            have HX148_0 := Aside0.mk hx148_0
            clear hcc148 hce148
            have HR148_0 := Aside0.mk hi148_0
            have HC148_0 := Aside0.mk hl148_0
            clear hi148_0 hl148_0
            replace p148 := eq_true p148
            replace q148 := eq_true q148
            refine start_ (n := 13) (S := fun w' => w'.cell? (ad148.add (x32_1).toNat) = some (.slice A148_0 (rd_L2 x9_2 x32_1).length c148_0)) (ds := [12]) impl_fill.mk_19 (by kernel_rfl) rfl rfl (hx148_0) (fun hHeld => ?_); refine with_tabW impl_fill.tab11 impl_fill.bits11 (fun HT_ HW_ => ?_)
            generalize wr.drew = w30 at HO_9 HB HL148_0 HR148_0 HX148_0 hx148_0 hHeld ⊢
            refine pure_ (i := 0) (N := some 59) (v := ?_) (a' := ?_) impl_fill.mk_20 rfl rfl (any_of HT_.out (by kernel_rfl)) (fun _ _ _ h => h) (Or.inl ⟨by rfl, ?_⟩) ?_ ?_
            rotate_left
            ·intro w'
             go_simp
             with_reducible rfl
            rotate_left
            ·simp only [Act.put, List.setIfInBounds_toArray, List.set_cons_zero, List.set_cons_succ, i64_w, i32_w]
             rfl
            refine pure_ (i := 1) (N := some 60) (v := ?_) (a' := ?_) impl_fill.mk_21 rfl rfl (any_of HT_.out (by kernel_rfl)) (fun _ _ _ h => h) (Or.inl ⟨by rfl, ?_⟩) ?_ ?_
            rotate_left
            ·intro w'
             go_simp
             with_reducible rfl
            rotate_left
            ·simp only [Act.put, List.setIfInBounds_toArray, List.set_cons_zero, List.set_cons_succ, i64_w, i32_w]
             rfl
            refine pure_ (i := 2) (N := some 61) (v := ?_) (a' := ?_) impl_fill.mk_22 rfl rfl (any_of HT_.out (by kernel_rfl)) (fun _ _ _ h => h) (Or.inl ⟨by rfl, ?_⟩) ?_ ?_
            rotate_left
            ·intro w'
             go_simp
             with_reducible rfl
            rotate_left
            ·simp only [Act.put, List.setIfInBounds_toArray, List.set_cons_zero, List.set_cons_succ, i64_w, i32_w]
             rfl
            refine pure_ (i := 3) (N := some 62) (v := ?_) (a' := ?_) impl_fill.mk_23 rfl rfl (any_of HT_.out (by kernel_rfl)) (fun _ _ _ h => h) (Or.inl ⟨by rfl, ?_⟩) ?_ ?_
            rotate_left
            ·intro w'
             go_simp
             with_reducible rfl
            rotate_left
            ·simp only [Act.put, List.setIfInBounds_toArray, List.set_cons_zero, List.set_cons_succ, i64_w, i32_w]
             rfl
            refine pure_ (i := 4) (N := some 63) (v := ?_) (a' := ?_) impl_fill.mk_24 rfl rfl (any_of HT_.out (by kernel_rfl)) (fun _ _ _ h => h) (Or.inl ⟨by rfl, ?_⟩) ?_ ?_
            rotate_left
            ·intro w'
             go_simp
             with_reducible rfl
            rotate_left
            ·simp only [Act.put, List.setIfInBounds_toArray, List.set_cons_zero, List.set_cons_succ, i64_w, i32_w]
             rfl
            refine pure_ (i := 6) (N := some 65) (v := ?_) (a' := ?_) impl_fill.mk_25 rfl rfl (any_of HT_.out (by kernel_rfl)) (fun _ _ _ h => h) (Or.inl ⟨by rfl, ?_⟩) ?_ ?_
            rotate_left
            ·intro w'
             go_simp
             with_reducible rfl
            rotate_left
            ·simp only [Act.put, List.setIfInBounds_toArray, List.set_cons_zero, List.set_cons_succ, i64_w, i32_w]
             rfl
            refine pure_ (i := 7) (N := some 66) (v := ?_) (a' := ?_) impl_fill.mk_26 rfl rfl (any_of HT_.out (by kernel_rfl)) (fun _ _ _ h => h) (Or.inl ⟨by rfl, ?_⟩) ?_ ?_
            rotate_left
            ·intro w'
             go_simp
             with_reducible rfl
            rotate_left
            ·simp only [Act.put, List.setIfInBounds_toArray, List.set_cons_zero, List.set_cons_succ, i64_w, i32_w]
             rfl
            refine take_ (i := 5) (N := some 64) (v := ?_) (a' := ?_) impl_fill.mk_27 rfl rfl (take_ofW HT_.out HW_.out (by kernel_rfl)) (fun _ _ _ h => h) (Or.inl ⟨by rfl, ?_⟩) hHeld ?_ ?_
            rotate_left
            ·intro w' s0
             go_simp
             with_reducible rfl
            rotate_left
            ·simp only [Act.put, List.setIfInBounds_toArray, List.set_cons_zero, List.set_cons_succ, i64_w, i32_w]
             rfl
            refine one_ (i := 8) (N := some 67) impl_fill.mk_28 rfl rfl (one_of HT_.out (by kernel_rfl)) (by decide) (fun K hK => ?_)
            refine goes_ Try.func38 (by kernel_rfl) rfl #[.slice A0 l0.length c0, .int .i64 x32_1] (by rfl) rfl rfl (by (try simp only [List.map_toArray, List.map_cons, List.map_nil]); first | done | rfl | (simp only [List.length_drop, List.length_take]; rfl)) ?_
            with_reducible refine (impl_value.calls k2 _ _ l0 x32_1 t149 _ ?side1 ?side2 A27.out).mono ?_
            (case side1 => repeat (first | exact (Kd.C_below HR0.out HB.out) | (with_reducible refine Kd.C_alloc ?_ _) | (with_reducible refine Kd.C_drewN ?_ _) | (with_reducible refine Kd.C_drew ?_)))
            (case side2 => exact HC0.out)
            rintro e w' ⟨rfl, ⟨nd, rfl⟩⟩
            refine ⟨_, rfl, ?_⟩
            obtain ⟨go31, co31, eo31, gb31, gl31, cl31, HG31⟩ := Kd.S_form HO_9.out (by have h_ : (x32_1 : Int) < ((x9_2.length : Int) : Int) := of_decide_eq_true (by first | (with_reducible assumption) | assumption); have h2_ : 0 ≤ (x32_1 : Int) := (of_decide_eq_true (by first | (with_reducible assumption) | assumption)); omega)
            (first | cases eo31 | (injection eo31 with ea_ en_ ec_; (first | subst ea_ | (injection ea_ with ea_; subst ea_)); subst ec_; clear en_))
            have GB31 := Aside0.mk gb31
            have GG31 := Aside0.mk HG31
            clear gb31 gl31 HG31
            (first | simp only [add_plain] at hx148_0 | skip)
            obtain ⟨oki31, ce31, hcl31, hM31, hcc31, _, _, hH31⟩ := Kd.S_elem HO_9.out [] (x32_1 : Int) (of_decide_eq_true (by first | (with_reducible assumption) | assumption)) (by have h_ : (x32_1 : Int) < ((x9_2.length : Int) : Int) := of_decide_eq_true (by first | (with_reducible assumption) | assumption); first | exact h_ | (have e_ := (Kd.S_reads' HO_9.out).1; omega) | simpa using h_)
            obtain ⟨ve31_0, rfl, ge31_0⟩ := hM31
            have hv31 := hcc31 0 _ rfl
            have hX31 := HX148_0.out
            (try simp only [add_plain] at hX31)
            (try simp only [Nat.add_zero] at hv31)
            (try rw [show ((Kd.slice 3 (Kd.int .i64))).sz = 1 from rfl, Nat.mul_one] at hv31)
            replace hv31 := Option.some.inj (hv31.symm.trans hX31)
            subst hv31
            clear hX31 hcc31 hcl31
            have UU31 := Aside0.mk (show Kd.R (Kd.int .i64) 3 _ w.heap.size oki31 (.slice A148_0 (rd_L2 x9_2 x32_1).length c148_0) (rd_L2 x9_2 x32_1) from ge31_0)
            have HH31 := Aside0.mk hH31
            have HN31 := Aside0.mk (Kd.S_reads' HO_9.out).1
            clear hH31 ge31_0
            refine hK.out _ _ (hHeld) (fun hHeld => ?_)
            clear hK K
            refine norm_ (a' := ?_) ?_ ?_
            rotate_left
            ·show Act.put _ (some 67) _ = _
             simp only [Act.put, List.setIfInBounds_toArray, List.set_cons_zero, List.set_cons_succ, i64_w, i32_w]
             rfl
            refine one_ (i := 9) (N := some 68) impl_fill.mk_29 rfl rfl (one_of HT_.out (by kernel_rfl)) (by decide) (fun K hK => ?_)
            refine value_ (w1 := ?_) (v := ?_) (by rfl) rfl ?_ ?_
            rotate_left 2
            ·go_simp
             constructor
             ·rfl
             ·rfl
            refine hK.out _ _ ((World.cell?_alloc_lt _ _ _ (World.block_lt_of_cell? _ _ (hHeld))).trans (hHeld)) (fun hHeld => ?_)
            clear hK K
            refine norm_ (a' := ?_) ?_ ?_
            rotate_left
            ·show Act.put _ (some 68) _ = _
             simp only [Act.put, List.setIfInBounds_toArray, List.set_cons_zero, List.set_cons_succ, i64_w, i32_w]
             rfl
            refine one_ (i := 10) (N := some 69) impl_fill.mk_30 rfl rfl (one_of HT_.out (by kernel_rfl)) (by decide) (fun K hK => ?_)
            refine Kd.R_append_step (Kd.int .i64) (w0 := w) w.heap.size (by rfl) (.tmp 64) (.tmp 68) 24 3 (.int .i64 0) 8 rfl Try.underlying24 info3 rfl (by decide) (by omega) (.slice A148_0 (rd_L2 x9_2 x32_1).length c148_0) (rd_L2 x9_2 x32_1) t149 [.int .i64 t149] (fun k_ => oki31 k_ ∨ ((fun _ => True)) k_ ∧ w30.heap.size ≤ k_) (fun _ => False) rfl rfl ?aP (fun _ hk => hk.elim) ?aF ?aO ?aB ?aS ?aL ?_
            (case aP => exact rfl)
            (case aB => exact (by repeat (first | (with_reducible first | exact HB.out | apply below_alloc | apply pw_below_drewN | apply below_drew1) | exact HB.out)))
            (case aF => exact (fun k_ hk => .inr ⟨trivial, hk⟩))
            (case aO => exact (by (with_reducible repeat (first | apply Kd.R_alloc | apply Kd.R_drewN | apply Kd.R_drew)); exact Kd.R_mono UU31.out (fun _ hk => .inl hk)))
            (case aS => exact (below_size (by repeat (first | (with_reducible first | exact HB.out | apply below_alloc | apply pw_below_drewN | apply below_drew1) | exact HB.out))))
            (case aL => have := LMc28.out; omega)
            intro v151 w32 ho hb hg hat
            (first | have HS0_ := cell_grown hg (hHeld) (by first | (rw [add_block]; exact (fun e_ => ((HL148_0.out.1 _ e_.symm).2) rfl)) | (show some (Addr.add _ _).block ≠ _; rw [add_block]; exact (fun e_ => ((HL148_0.out.1 _ e_.symm).2) rfl)) | exact (fun e_ => ((HL148_0.out.1 _ e_.symm).2) rfl)) | have HS0_ := cell_grown hg (cell_unalloc (hHeld) (by first | (rw [add_block]; exact Kd.S_lt HO_9.out _ rfl) | (show (Addr.add _ _).block < _; rw [add_block]; exact Kd.S_lt HO_9.out _ rfl) | exact Kd.S_lt HO_9.out _ rfl)) (by first | (rw [add_block]; exact (fun e_ => ((HL148_0.out.1 _ e_.symm).2) rfl)) | (show some (Addr.add _ _).block ≠ _; rw [add_block]; exact (fun e_ => ((HL148_0.out.1 _ e_.symm).2) rfl)) | exact (fun e_ => ((HL148_0.out.1 _ e_.symm).2) rfl)))
            rw [← Ny150.out] at ho
            have n0_ := Aside0.mk (hb)
            have n1_ := Aside0.mk (Kd.H_grown (Kd.H_widen (by repeat (first | exact HH31.out | refine Kd.H_alloc ?_ _ | refine Kd.H_drewN ?_ _ | refine Kd.H_drew ?_))) hg (fun k_ e_ => .inl (UU31.out.1 k_ e_)))
            have n2_ := Aside0.mk (ho)
            clear HB
            clear HH31
            clear HO_9
            clear UU31
            clear HL148_0
            have HB := n0_
            have HH31 := n1_
            have HO152 := n2_
            clear n0_ n1_ n2_
            clear ho hb hg hat
            have p29 : 0 ≤ (x32_1 : Int) := of_decide_eq_true (by first | (with_reducible assumption) | assumption)
            have q29 : (x32_1 : Int) < ((x9_2.length : Int) : Int) := of_decide_eq_true (by first | (with_reducible assumption) | assumption)
            replace p29 := eq_true p29
            replace q29 := eq_true q29
            obtain ⟨Ao35, co35, eo35⟩ := Kd.R_slice HO152.out
            (first | subst eo35 | (injection eo35 with f1_ f2_ f3_; have f4_ := f1_.symm; have f5_ := f3_.symm; clear f1_ f2_ f3_; subst f4_; subst f5_))
            obtain ⟨_, _, hraw33, _, _, hcc33, _⟩ := Kd.H_raw HH31.out (of_decide_eq_true (by first | (with_reducible assumption) | assumption)) (by have h_ : (x32_1 : Int) < ((x9_2.length : Int) : Int) := of_decide_eq_true (by first | (with_reducible assumption) | assumption); first | exact h_ | (have e_ := (HN31.out); omega) | simpa using h_)
            obtain ⟨_, hfr33⟩ := Kd.H_at HH31.out (of_decide_eq_true (by first | (with_reducible assumption) | assumption)) (by have h_ : (x32_1 : Int) < ((x9_2.length : Int) : Int) := of_decide_eq_true (by first | (with_reducible assumption) | assumption); first | exact h_ | (have e_ := (HN31.out); omega) | simpa using h_)
            have hx33_0 := hcc33 0 _ rfl
            have hf33_0 := hfr33 0
            (try simp only [Nat.add_zero] at hx33_0 hf33_0)
            (try rw [show ((Kd.slice 3 (Kd.int .i64))).sz = 1 from rfl, Nat.mul_one] at hx33_0)
            (try rw [show ((Kd.slice 3 (Kd.int .i64))).sz = 1 from rfl, Nat.mul_one] at hf33_0)
            have HP33 := Kd.S_seg0 HH31.out (of_decide_eq_true (by first | (with_reducible assumption) | assumption)) (by have h_ : (x32_1 : Int) < ((x9_2.length : Int) : Int) := of_decide_eq_true (by first | (with_reducible assumption) | assumption); first | exact h_ | (have e_ := (HN31.out); omega) | simpa using h_) (seg := [.slice Ao35 y150.length co35]) (j := 0) (show 1 ≤ 1 from by decide) (x' := y150) (Kd.M_row HO152.out) (fun _ hk => hk)
            (try simp only [show ((Kd.slice 3 (Kd.int .i64))).sz = 1 from rfl, Nat.mul_one, Nat.add_zero] at HP33)
            clear hcc33 hfr33
            have HS33 := HP33.1
            rw [← Ny153.out] at HS33
            have HQ33 := Aside0.mk HS33
            obtain ⟨_, hgg33⟩ := Kd.R_typed hraw33 go31 rfl
            have GG33_ := Aside0.mk hgg33
            clear HP33 HS33 hgg33
            refine hK.out _ _ (HS0_) (fun hHeld => ?_)
            clear hK K
            refine norm_ (a' := ?_) ?_ ?_
            rotate_left
            ·show Act.put _ (some 69) _ = _
             simp only [Act.put, List.setIfInBounds_toArray, List.set_cons_zero, List.set_cons_succ, i64_w, i32_w]
             rfl
            refine pure_ (i := 11) (N := some 70) (v := ?_) (a' := ?_) impl_fill.mk_31 rfl rfl (any_of HT_.out (by kernel_rfl)) (fun _ _ _ h => h) (Or.inl ⟨by rfl, ?_⟩) ?_ ?_
            rotate_left
            ·intro w'
             go_simp
             with_reducible rfl
            rotate_left
            ·simp only [Act.put, List.setIfInBounds_toArray, List.set_cons_zero, List.set_cons_succ, i64_w, i32_w]
             rfl
            refine last_ (i := 12) (N := none) impl_fill.mk_32 rfl rfl (one_of HT_.out (by kernel_rfl)) (by decide) (fun K hK => ?_)
            refine skip_ (w1 := ?_) (by rfl) rfl ?_ ?_
            rotate_left
            ·go_simp
             rfl
            refine hK.out _ _ ?_
            clear hK K
            refine done_ (done_of HT_.out (by kernel_rfl)) ?_
            try go_wp2
            (try simp only [← hl9_1, ← hl9_2])
            go_roundg k2
            case measure => have := HK1.out; have := HK2.out; omega
            case rel => exact ⟨(y153), (wrap64 (x32_1 + 1)), (by first | rfl | (simp; done) | (simp [*]; done)), H', ⟨by have := HK1.out; have := HK2.out; omega⟩, ⟨by (try simp only [hl9_1]); (try simp only [hl9_2]); (with_reducible repeat (first | apply Kd.S_alloc | apply Kd.S_drewN | apply Kd.S_drew)); exact HQ33.out⟩, ⟨by repeat (first | (with_reducible first | exact HB.out | apply below_alloc | apply pw_below_drewN | apply below_drew1 | refine below_set ?_ GB31.out) | exact HB.out)⟩⟩
           ·rw [if_neg c28] at H
            exact absurd H (by simp)
          ·rw [if_neg c26] at H
           exact absurd H (by simp)
         ·rw [if_neg c25] at H
          exact absurd H (by simp)
     ·rw [if_neg c10] at H
      have c10b0 : decide (x32_1 < (y138.length : Int)) = false := decide_eq_false c10
      try rw [hl9_1] at c10b0
      clear c10
      have H' := Aside0.mk H
      clear H
      go_wp2
      go_loopg [73] k1 (fun kq v73 w' => ∃ (x9_2 : List (List Int)) (x73_2 : Int), v73 = .int .i64 x73_2 ∧ Aside0 (impl_fill.l2 kq l0 l1 (l1.length : Int) x9_2 (l1.length : Int) x73_2 = some (r1, r2)) ∧ Aside0 (kq ≤ k1) ∧ Aside0 (Kd.S (Kd.slice 3 (Kd.int .i64)) 24 w' w.heap.size (fun _ => True) (.slice Ao9 x9_1.length co9) x9_2) ∧ Aside0 (Below w.heap.size w w'))
      case atStart => exact ⟨(x9_1), (0), (by first | rfl | (simp; done) | (simp [*]; done)), H', ⟨Nat.le_refl _⟩, ⟨by (try simp only [hl9_1]); (with_reducible repeat (first | apply Kd.S_alloc | apply Kd.S_drewN | apply Kd.S_drew)); exact HO_9.out⟩, ⟨by repeat (first | (with_reducible first | exact HB.out | apply below_alloc | apply pw_below_drewN | apply below_drew1) | exact HB.out)⟩⟩
      case round => as_aux_lemma =>
       clear H'
       try clear c1
       try clear p1
       try clear q1
       try clear hx1
       try clear c2
       try clear p2
       try clear q2
       try clear hx2
       try clear c3
       try clear hx3
       try clear hf3
       try clear c4
       try clear c5
       try clear c5b0
       try clear c5b1
       try clear c6
       try clear c6b0
       try clear c6b1
       try clear p6
       try clear c10
       try clear c10b0
       try clear c11
       try clear c11b0
       try clear c12
       try clear c12b0
       try clear c13
       try clear c13b0
       try clear c14
       try clear c14b0
       try clear p14
       try clear q14
       try clear hx14
       try clear c15
       try clear c15b0
       try clear c17
       try clear p18
       try clear q18
       try clear c20
       try clear c22
       try clear hx22
       try clear hf22
       try clear c25
       try clear c25b0
       try clear c26
       try clear c26b0
       try clear c28
       try clear p29
       try clear q29
       try clear c31
       try clear c33
       try clear hx33
       try clear hf33
       try clear hx141_0
       try clear hx142_0
       try clear hx148_0
       try clear hx22_0
       try clear hx33_0
       try clear p141
       try clear p142
       try clear p148
       try clear p18
       try clear p2
       try clear p29
       try clear p6
       try clear q141
       try clear q142
       try clear q148
       try clear q18
       try clear q29
       obtain ⟨x9_2, x73_2, rfl, HA, HK2, HO_9, HB⟩ := hrel
       have hl9_2 := (Kd.S_reads' HO_9.out).1
       rw [hl9_2] at HO_9
       (try simp only [hl9_2])
       cases gk with
       | zero => exact absurd HA.out (by simp [impl_fill.l2])
       | succ k2 =>
        have H := HA.out
        clear HA
        simp only [impl_fill.l2] at H
        by_cases c36 : x73_2 < (l1.length : Int)
        ·rw [if_pos c36] at H
         have c36b0 : decide (x73_2 < (l1.length : Int)) = true := decide_eq_true c36
         clear c36
         have HC37 := Aside0.mk H
         clear H
         go_upto_block 6 with (fail)
         go_cut [14] (fun v14 wc => ∃ (kq : Nat) (x14_36 : Int), v14 = .int .i64 x14_36 ∧ Aside0 (impl_fill.j4 kq l0 l1 (l1.length : Int) x9_2 x73_2 x14_36 (l1.length : Int) x73_2 = some (r1, r2)) ∧ Aside0 (kq ≤ k2) ∧ Aside0 (Kd.S (Kd.slice 3 (Kd.int .i64)) 24 wc w.heap.size (fun _ => True) (.slice Ao9 x9_2.length co9) x9_2) ∧ Aside0 (Below w.heap.size w wc))
         case first =>
          have H := HC37.out
          clear HC37
          have H' := Aside0.mk H
          clear H
          go_wp2
          go_loopg [14] k2 (fun kq v14 w' => ∃ (x14_3 : Int), v14 = .int .i64 x14_3 ∧ Aside0 (impl_fill.l3 kq l0 l1 (l1.length : Int) x9_2 x73_2 x14_3 (l1.length : Int) x73_2 = some (r1, r2)) ∧ Aside0 (kq ≤ k2) ∧ Aside0 (Kd.S (Kd.slice 3 (Kd.int .i64)) 24 w' w.heap.size (fun _ => True) (.slice Ao9 x9_2.length co9) x9_2) ∧ Aside0 (Below w.heap.size w w'))
          case atStart => exact ⟨(x73_2), (by first | rfl | (simp; done) | (simp [*]; done)), H', ⟨Nat.le_refl _⟩, ⟨by (try simp only [hl9_1]); (try simp only [hl9_2]); (with_reducible repeat (first | apply Kd.S_alloc | apply Kd.S_drewN | apply Kd.S_drew)); exact HO_9.out⟩, ⟨by repeat (first | (with_reducible first | exact HB.out | apply below_alloc | apply pw_below_drewN | apply below_drew1) | exact HB.out)⟩⟩
          case round => as_aux_lemma =>
           clear H'
           try clear c1
           try clear p1
           try clear q1
           try clear hx1
           try clear c2
           try clear p2
           try clear q2
           try clear hx2
           try clear c3
           try clear hx3
           try clear hf3
           try clear c4
           try clear c5
           try clear c5b0
           try clear c5b1
           try clear c6
           try clear c6b0
           try clear c6b1
           try clear p6
           try clear c10
           try clear c10b0
           try clear c11
           try clear c11b0
           try clear c12
           try clear c12b0
           try clear c13
           try clear c13b0
           try clear c14
           try clear c14b0
           try clear p14
           try clear q14
           try clear hx14
           try clear c15
           try clear c15b0
           try clear c17
           try clear p18
           try clear q18
           try clear c20
           try clear c22
           try clear hx22
           try clear hf22
           try clear c25
           try clear c25b0
           try clear c26
           try clear c26b0
           try clear c28
           try clear p29
           try clear q29
           try clear c31
           try clear c33
           try clear hx33
           try clear hf33
           try clear c36
           try clear c36b0
           try clear hx141_0
           try clear hx142_0
           try clear hx148_0
           try clear hx22_0
           try clear hx33_0
           try clear p1
           try clear p14
           try clear p141
           try clear p142
           try clear p148
           try clear p18
           try clear p2
           try clear p29
           try clear p6
           try clear q1
           try clear q14
           try clear q141
           try clear q142
           try clear q148
           try clear q18
           try clear q2
           try clear q29
           obtain ⟨x14_3, rfl, HA, HK3, HO_9, HB⟩ := hrel
           cases gk with
           | zero => exact absurd HA.out (by simp [impl_fill.l3])
           | succ k3 =>
            have H := HA.out
            clear HA
            simp only [impl_fill.l3] at H
            by_cases c38 : x14_3 < (x9_2.length : Int)
            ·rw [if_pos c38] at H
             have c38b0 : decide (x14_3 < (x9_2.length : Int)) = true := decide_eq_true c38
             clear c38
             (first | rw [c38b0] | (simp only [i64_w, i32_w]; rw [c38b0]) | skip)
             by_cases c39 : 0 ≤ x14_3
             ·rw [if_pos c39] at H
              have c39b0 : decide (0 ≤ x14_3) = true := decide_eq_true c39
              clear c39
              by_cases c40 : 0 ≤ x73_2
              ·rw [if_pos c40] at H
               have c40b0 : decide (0 ≤ x73_2) = true := decide_eq_true c40
               clear c40
               by_cases c41 : x73_2 < ((rd_L2 x9_2 x14_3).length : Int)
               ·rw [if_pos c41] at H
                have c41b0 : decide (x73_2 < ((rd_L2 x9_2 x14_3).length : Int)) = true := decide_eq_true c41
                clear c41
                by_cases c42 : (rd (rd_L2 x9_2 x14_3) x73_2) = 0
                ·rw [if_pos c42] at H
                 have c42b0 : ((rd (rd_L2 x9_2 x14_3) x73_2) == 0) = true := beq_iff_eq.mpr c42
                 have c42b1 : ((rd (rd_L2 x9_2 x14_3) x73_2) != 0) = false := bne_eq_false_iff_eq.mpr c42
                 clear c42
                 have H' := Aside0.mk H
                 clear H
                 have p154 : 0 ≤ (x14_3 : Int) := of_decide_eq_true (by first | (with_reducible assumption) | assumption)
                 have q154 : x14_3 < (x9_2.length : Int) := of_decide_eq_true (by first | (with_reducible assumption) | assumption)
                 obtain ⟨ad154, A154_0, c154_0, e154, hx154_0, hl154_0, hi154_0⟩ := at_L2 (Kd.S_reads' HO_9.out).2.2 x14_3 p154 q154
                 cases e154
                 obtain ⟨ce154, hce154, hMe154, hcc154⟩ := Kd.S_get HO_9.out [] x14_3 p154 (by first | exact q154 | exact of_decide_eq_true (by first | (with_reducible assumption) | assumption) | (have e_ := (Kd.S_reads' HO_9.out).1; omega))
                 obtain ⟨ve154_0, rfl, ge154_0⟩ := hMe154
                 have hv154_0 := hcc154 0 _ rfl
                 rw [Nat.add_zero, show ((Kd.slice 3 (Kd.int .i64))).sz = 1 from rfl, Nat.mul_one] at hv154_0
                 replace hv154_0 := Option.some.inj (hv154_0.symm.trans hx154_0)
                 rw [hv154_0] at ge154_0
                 have HL154_0 := Aside0.mk (show Kd.R (Kd.int .i64) 3 _ _ _ _ (rd_L2 x9_2 x14_3) from ge154_0)
                 clear hv154_0 ge154_0
                 have HX154_0 := Aside0.mk hx154_0
                 clear hcc154 hce154
                 have HR154_0 := Aside0.mk hi154_0
                 have HC154_0 := Aside0.mk hl154_0
                 clear hi154_0 hl154_0
                 replace p154 := eq_true p154
                 replace q154 := eq_true q154
                 have p155 : 0 ≤ (x73_2 : Int) := of_decide_eq_true (by first | (with_reducible assumption) | assumption)
                 have q155 : x73_2 < ((rd_L2 x9_2 x14_3).length : Int) := of_decide_eq_true (by first | (with_reducible assumption) | assumption)
                 obtain ⟨ad155, e155, hx155_0⟩ := Kd.at_int (by repeat (first | (with_reducible exact HR154_0.out) | (with_reducible refine Kd.C_alloc ?_ _) | (with_reducible refine Kd.C_drewN ?_ _) | (with_reducible refine Kd.C_drew ?_) | exact HR154_0.out)) x73_2 p155 q155
                 cases e155
                 replace p155 := eq_true p155
                 replace q155 := eq_true q155
                 go_wp2
                 go_roundg k3
                 case measure => have := HK1.out; have := HK2.out; have := HK3.out; omega
                 case rel => exact ⟨(wrap64 (x14_3 + 1)), (by first | rfl | (simp; done) | (simp [*]; done)), H', ⟨by have := HK1.out; have := HK2.out; have := HK3.out; omega⟩, ⟨by (try simp only [hl9_1]); (try simp only [hl9_2]); (with_reducible repeat (first | apply Kd.S_alloc | apply Kd.S_drewN | apply Kd.S_drew)); exact HO_9.out⟩, ⟨by repeat (first | (with_reducible first | exact HB.out | apply below_alloc | apply pw_below_drewN | apply below_drew1) | exact HB.out)⟩⟩
                ·rw [if_neg c42] at H
                 have c42b0 : ((rd (rd_L2 x9_2 x14_3) x73_2) == 0) = false := beq_eq_false_iff_ne.mpr c42
                 have c42b1 : ((rd (rd_L2 x9_2 x14_3) x73_2) != 0) = true := bne_iff_ne.mpr c42
                 have H' := Aside0.mk H
                 clear H
                 have p154 : 0 ≤ (x14_3 : Int) := of_decide_eq_true (by first | (with_reducible assumption) | assumption)
                 have q154 : x14_3 < (x9_2.length : Int) := of_decide_eq_true (by first | (with_reducible assumption) | assumption)
                 obtain ⟨ad154, A154_0, c154_0, e154, hx154_0, hl154_0, hi154_0⟩ := at_L2 (Kd.S_reads' HO_9.out).2.2 x14_3 p154 q154
                 cases e154
                 obtain ⟨ce154, hce154, hMe154, hcc154⟩ := Kd.S_get HO_9.out [] x14_3 p154 (by first | exact q154 | exact of_decide_eq_true (by first | (with_reducible assumption) | assumption) | (have e_ := (Kd.S_reads' HO_9.out).1; omega))
                 obtain ⟨ve154_0, rfl, ge154_0⟩ := hMe154
                 have hv154_0 := hcc154 0 _ rfl
                 rw [Nat.add_zero, show ((Kd.slice 3 (Kd.int .i64))).sz = 1 from rfl, Nat.mul_one] at hv154_0
                 replace hv154_0 := Option.some.inj (hv154_0.symm.trans hx154_0)
                 rw [hv154_0] at ge154_0
                 have HL154_0 := Aside0.mk (show Kd.R (Kd.int .i64) 3 _ _ _ _ (rd_L2 x9_2 x14_3) from ge154_0)
                 clear hv154_0 ge154_0
                 have HX154_0 := Aside0.mk hx154_0
                 clear hcc154 hce154
                 have HR154_0 := Aside0.mk hi154_0
                 have HC154_0 := Aside0.mk hl154_0
                 clear hi154_0 hl154_0
                 replace p154 := eq_true p154
                 replace q154 := eq_true q154
                 have p155 : 0 ≤ (x73_2 : Int) := of_decide_eq_true (by first | (with_reducible assumption) | assumption)
                 have q155 : x73_2 < ((rd_L2 x9_2 x14_3).length : Int) := of_decide_eq_true (by first | (with_reducible assumption) | assumption)
                 obtain ⟨ad155, e155, hx155_0⟩ := Kd.at_int (by repeat (first | (with_reducible exact HR154_0.out) | (with_reducible refine Kd.C_alloc ?_ _) | (with_reducible refine Kd.C_drewN ?_ _) | (with_reducible refine Kd.C_drew ?_) | exact HR154_0.out)) x73_2 p155 q155
                 cases e155
                 replace p155 := eq_true p155
                 replace q155 := eq_true q155
                 go_wp2
                 go_meet
                 case rel => exact ⟨_, (x14_3), (by first | rfl | (simp; done) | (simp [*]; done)), H', ⟨by have := HK1.out; have := HK2.out; have := HK3.out; first | omega | exact Nat.le_refl _⟩, ⟨by (try simp only [hl9_1]); (try simp only [hl9_2]); (with_reducible repeat (first | apply Kd.S_alloc | apply Kd.S_drewN | apply Kd.S_drew)); exact HO_9.out⟩, ⟨by repeat (first | (with_reducible first | exact HB.out | apply below_alloc | apply pw_below_drewN | apply below_drew1) | exact HB.out)⟩⟩
               ·rw [if_neg c41] at H
                exact absurd H (by simp)
              ·rw [if_neg c40] at H
               exact absurd H (by simp)
             ·rw [if_neg c39] at H
              exact absurd H (by simp)
            ·rw [if_neg c38] at H
             have c38b0 : decide (x14_3 < (x9_2.length : Int)) = false := decide_eq_false c38
             try rw [hl9_5] at c38b0
             clear c38
             (first | rw [c38b0] | (simp only [i64_w, i32_w]; rw [c38b0]) | skip)
             have H' := Aside0.mk H
             clear H
             go_wp2
             go_meet
             case rel => exact ⟨_, (x14_3), (by first | rfl | (simp; done) | (simp [*]; done)), H', ⟨by have := HK1.out; have := HK2.out; have := HK3.out; first | omega | exact Nat.le_refl _⟩, ⟨by (try simp only [hl9_1]); (try simp only [hl9_2]); (with_reducible repeat (first | apply Kd.S_alloc | apply Kd.S_drewN | apply Kd.S_drew)); exact HO_9.out⟩, ⟨by repeat (first | (with_reducible first | exact HB.out | apply below_alloc | apply pw_below_drewN | apply below_drew1) | exact HB.out)⟩⟩
         case rest =>
          clear HC37
          try clear c1
          try clear p1
          try clear q1
          try clear hx1
          try clear c2
          try clear p2
          try clear q2
          try clear hx2
          try clear c3
          try clear hx3
          try clear hf3
          try clear c4
          try clear c5
          try clear c5b0
          try clear c5b1
          try clear c6
          try clear c6b0
          try clear c6b1
          try clear p6
          try clear c10
          try clear c10b0
          try clear c11
          try clear c11b0
          try clear c12
          try clear c12b0
          try clear c13
          try clear c13b0
          try clear c14
          try clear c14b0
          try clear p14
          try clear q14
          try clear hx14
          try clear c15
          try clear c15b0
          try clear p15
          try clear q15
          try clear hx15
          try clear c17
          try clear p18
          try clear q18
          try clear c20
          try clear c22
          try clear hx22
          try clear hf22
          try clear c25
          try clear c25b0
          try clear c26
          try clear c26b0
          try clear c28
          try clear p29
          try clear q29
          try clear c31
          try clear c33
          try clear hx33
          try clear hf33
          try clear c36
          try clear c36b0
          try clear c38
          try clear c38b0
          try clear c39
          try clear c39b0
          try clear c40
          try clear c40b0
          try clear c41
          try clear c41b0
          try clear c42
          try clear c42b0
          try clear c42b1
          try clear hx141_0
          try clear hx142_0
          try clear hx148_0
          try clear hx154_0
          try clear hx155_0
          try clear hx22_0
          try clear hx33_0
          try clear p1
          try clear p14
          try clear p141
          try clear p142
          try clear p148
          try clear p154
          try clear p155
          try clear p18
          try clear p2
          try clear p29
          try clear p6
          try clear q1
          try clear q14
          try clear q141
          try clear q142
          try clear q148
          try clear q154
          try clear q155
          try clear q18
          try clear q2
          try clear q29
          obtain ⟨kq, x14_36, rfl, HA, HJ36, HO_9, HB⟩ := hcut
          cases kq with
          | zero => exact absurd HA.out (by simp [impl_fill.j4])
          | succ kj36 =>
           have H := HA.out
           clear HA
           simp only [impl_fill.j4] at H
           by_cases c43 : x14_36 = (x9_2.length : Int)
           ·rw [if_pos c43] at H
            have c43b0 : (x14_36 == (x9_2.length : Int)) = true := beq_iff_eq.mpr c43
            have c43b1 : (x14_36 != (x9_2.length : Int)) = false := bne_eq_false_iff_eq.mpr c43
            clear c43
            simp only [Option.some.injEq, Prod.mk.injEq] at H
            obtain ⟨rfl, rfl⟩ := H
            go_wp2
            go_ret2
            exact ⟨_, by first | rfl | (simp [errW_none, errW_some] <;> rfl) | (simp only [← hji4]; first | rfl | (simp [errW_none, errW_some] <;> rfl)) | (simp [*, errW_none, errW_some] <;> rfl), by first | exact Kd.R_nil _ _ _ _ _ | exact Kd.N_nil _ _ _ _ _ | exact Kd.V_nil _ _ _ _ _ | exact Kd.Q_nil _ _ _ _ _ | exact Kd.S_nil _ _ _ _ _, by repeat (first | (with_reducible first | exact HB.out | apply below_alloc | apply pw_below_drewN | apply below_drew1) | exact HB.out)⟩
           ·rw [if_neg c43] at H
            have c43b0 : (x14_36 == (x9_2.length : Int)) = false := beq_eq_false_iff_ne.mpr c43
            have c43b1 : (x14_36 != (x9_2.length : Int)) = true := bne_iff_ne.mpr c43
            by_cases c44 : 0 ≤ x73_2
            ·rw [if_pos c44] at H
             have c44b0 : decide (0 ≤ x73_2) = true := decide_eq_true c44
             clear c44
             by_cases c45 : x73_2 < (x9_2.length : Int)
             ·rw [if_pos c45] at H
              have c45b0 : decide (x73_2 < (x9_2.length : Int)) = true := decide_eq_true c45
              clear c45
              by_cases c46 : 0 ≤ x14_36 ∧ x14_36 < (x9_2.length : Int)
              ·rw [if_pos c46] at H
               have pK_ : 0 ≤ x14_36 := c46.1
               have qK_ : x14_36 < (x9_2.length : Int) := c46.2
               clear c46
               obtain ⟨y159, hy159⟩ : ∃ y_ : List (List Int), y_ = ((x9_2.set (x73_2 : Int).toNat (rd_L2 x9_2 x14_36)).set (x14_36 : Int).toNat (rd_L2 x9_2 x73_2)) := ⟨_, rfl⟩
               replace H : (if x73_2 < ((rd_L2 y159 x73_2).length : Int) then ((impl_GfInv.f kj36 (rd (rd_L2 y159 x73_2) x73_2)).bind fun t162 => (impl_fill.l4 kj36 l0 l1 (l1.length : Int) y159 x73_2 t162 (l1.length : Int) x73_2 ((rd_L2 y159 x73_2).length : Int) 0)) else (none)) = some (r1, r2) := by first | (rw [hy159]; with_reducible exact H) | (have H2_ := (Option.bind_some _ _).symm.trans H; rw [hy159]; with_reducible exact H2_) | (have H2_ := (Option.bind_some _ _).symm.trans H; with_reducible exact H2_) | with_reducible exact H | (rw [hy159]; exact H) | exact H
               have Ny159 := Aside0.mk hy159
               clear hy159
               by_cases c48 : x73_2 < ((rd_L2 y159 x73_2).length : Int)
               ·rw [if_pos c48] at H
                have c48b0 : decide (x73_2 < ((rd_L2 y159 x73_2).length : Int)) = true := decide_eq_true c48
                clear c48
                replace H := Option.bind_eq_some_iff.mp H
                obtain ⟨t162, A490, H⟩ := H
                replace H : (impl_fill.l4 kj36 l0 l1 (l1.length : Int) y159 x73_2 t162 (l1.length : Int) x73_2 ((rd_L2 y159 x73_2).length : Int) 0) = some (r1, r2) := H
                have A49 := Aside0.mk A490
                clear A490
                have H' := Aside0.mk H
                clear H
                have pC_ : 0 ≤ (x73_2 : Int) := of_decide_eq_true (by first | (with_reducible assumption) | assumption)
                have qC_ : x73_2 < (x9_2.length : Int) := of_decide_eq_true (by first | (with_reducible assumption) | assumption)
                obtain ⟨ad156, AC_, cC_, eC_, hxC_, hlC_, hiC_⟩ := at_L2 (Kd.S_reads' HO_9.out).2.2 x73_2 pC_ qC_
                cases eC_
                obtain ⟨adK_, AK_, cK_, eK_, hxK_, hlK_, hiK_⟩ := at_L2 (Kd.S_reads' HO_9.out).2.2 x14_36 pK_ qK_
                obtain rfl : ad156 = adK_ := (by injection eK_)
                clear eK_ hlC_ hiC_ hlK_ hiK_
                obtain ⟨g9_, eg9z_⟩ := Kd.R_head (Kd.S_R HO_9.out)
                have eg9_ := Aside0.mk eg9z_
                clear eg9z_
                obtain ⟨cells9_, hb9_⟩ := Kd.S_typed HO_9.out g9_ (by rw [eg9_.out]; rfl)
                have hB9_ : w.heap.size ≤ g9_ := Kd.S_base HO_9.out g9_ (by rw [eg9_.out]; rfl)
                have hsC : (World.drew wc).cell? (ad156.add (x73_2 : Int).toNat) = some (.slice AC_ (rd_L2 x9_2 x73_2).length cC_) := hxC_
                have hsK : (World.drew wc).cell? (ad156.add (x14_36 : Int).toNat) = some (.slice AK_ (rd_L2 x9_2 x14_36).length cK_) := hxK_
                have hbS : (World.drew wc).heap[g9_]? = some (.cells cells9_ 24 (0, 0)) := hb9_
                have hfC := blk_frozen hbS (x73_2 : Int).toNat
                have hfK := blk_frozen hbS (x14_36 : Int).toNat
                rw [show (⟨g9_, (x73_2 : Int).toNat, none⟩ : Addr) = (ad156.add (x73_2 : Int).toNat) from by rw [eg9_.out, add_plain]] at hfC
                rw [show (⟨g9_, (x14_36 : Int).toNat, none⟩ : Addr) = (ad156.add (x14_36 : Int).toNat) from by rw [eg9_.out, add_plain]] at hfK
                have n0_ := Aside0.mk (Kd.S_drew HO_9.out)
                have n1_ := Aside0.mk (below_drew1 HB.out)
                clear HO_9 HB hxC_ hxK_
                have HO_9 := n0_
                have HB := n1_
                clear n0_ n1_
                have pC1_ := eq_true pC_
                have qC1_ := eq_true qC_
                have pK1_ := eq_true pK_
                have qK1_ := eq_true qK_
                try go_wp2
                refine start_ (n := 16) (S := fun w' => w'.cell? (ad156.add (x73_2 : Int).toNat) = some (.slice AC_ (rd_L2 x9_2 x73_2).length cC_) ∧ w'.cell? (ad156.add (x14_36 : Int).toNat) = some (.slice AK_ (rd_L2 x9_2 x14_36).length cK_)) (ds := [13, 15]) impl_fill.mk_33 (by kernel_rfl) rfl rfl ⟨hsC, hsK⟩ (fun hHeld => ?_); refine with_tabW impl_fill.tab21 impl_fill.bits21 (fun HT_ HW_ => ?_)
                generalize World.drew wc = wS at HO_9 HB hsC hsK hfC hfK hbS hHeld ⊢
                refine pure_ (i := 0) (N := some 97) (v := ?_) (a' := ?_) impl_fill.mk_34 rfl rfl (any_of HT_.out (by kernel_rfl)) (fun _ _ _ h => h) (Or.inl ⟨by rfl, ?_⟩) ?_ ?_
                rotate_left
                ·intro w'
                 go_simp
                 with_reducible rfl
                rotate_left
                ·simp only [Act.put, List.setIfInBounds_toArray, List.set_cons_zero, List.set_cons_succ, i64_w, i32_w]
                 rfl
                refine pure_ (i := 1) (N := some 98) (v := ?_) (a' := ?_) impl_fill.mk_35 rfl rfl (any_of HT_.out (by kernel_rfl)) (fun _ _ _ h => h) (Or.inl ⟨by rfl, ?_⟩) ?_ ?_
                rotate_left
                ·intro w'
                 go_simp
                 with_reducible rfl
                rotate_left
                ·simp only [Act.put, List.setIfInBounds_toArray, List.set_cons_zero, List.set_cons_succ, i64_w, i32_w]
                 rfl
                refine pure_ (i := 2) (N := some 99) (v := ?_) (a' := ?_) impl_fill.mk_36 rfl rfl (any_of HT_.out (by kernel_rfl)) (fun _ _ _ h => h) (Or.inl ⟨by rfl, ?_⟩) ?_ ?_
                rotate_left
                ·intro w'
                 go_simp
                 with_reducible rfl
                rotate_left
                ·simp only [Act.put, List.setIfInBounds_toArray, List.set_cons_zero, List.set_cons_succ, i64_w, i32_w]
                 rfl
                refine pure_ (i := 3) (N := some 100) (v := ?_) (a' := ?_) impl_fill.mk_37 rfl rfl (any_of HT_.out (by kernel_rfl)) (fun _ _ _ h => h) (Or.inl ⟨by rfl, ?_⟩) ?_ ?_
                rotate_left
                ·intro w'
                 go_simp
                 with_reducible rfl
                rotate_left
                ·simp only [Act.put, List.setIfInBounds_toArray, List.set_cons_zero, List.set_cons_succ, i64_w, i32_w]
                 rfl
                refine pure_ (i := 4) (N := some 101) (v := ?_) (a' := ?_) impl_fill.mk_38 rfl rfl (any_of HT_.out (by kernel_rfl)) (fun _ _ _ h => h) (Or.inl ⟨by rfl, ?_⟩) ?_ ?_
                rotate_left
                ·intro w'
                 go_simp
                 with_reducible rfl
                rotate_left
                ·simp only [Act.put, List.setIfInBounds_toArray, List.set_cons_zero, List.set_cons_succ, i64_w, i32_w]
                 rfl
                refine pure_ (i := 5) (N := some 102) (v := ?_) (a' := ?_) impl_fill.mk_39 rfl rfl (any_of HT_.out (by kernel_rfl)) (fun _ _ _ h => h) (Or.inl ⟨by rfl, ?_⟩) ?_ ?_
                rotate_left
                ·intro w'
                 go_simp
                 with_reducible rfl
                rotate_left
                ·simp only [Act.put, List.setIfInBounds_toArray, List.set_cons_zero, List.set_cons_succ, i64_w, i32_w]
                 rfl
                refine pure_ (i := 6) (N := some 103) (v := ?_) (a' := ?_) impl_fill.mk_40 rfl rfl (any_of HT_.out (by kernel_rfl)) (fun _ _ _ h => h) (Or.inl ⟨by rfl, ?_⟩) ?_ ?_
                rotate_left
                ·intro w'
                 go_simp
                 with_reducible rfl
                rotate_left
                ·simp only [Act.put, List.setIfInBounds_toArray, List.set_cons_zero, List.set_cons_succ, i64_w, i32_w]
                 rfl
                refine take_ (i := 7) (N := some 104) (v := ?_) (a' := ?_) impl_fill.mk_41 rfl rfl (take_ofW HT_.out HW_.out (by kernel_rfl)) (fun _ _ _ h => h) (Or.inl ⟨by rfl, ?_⟩) hHeld ?_ ?_
                rotate_left
                ·intro w' s0
                 obtain ⟨s1_, s2_⟩ := s0
                 go_simp
                 with_reducible rfl
                rotate_left
                ·simp only [Act.put, List.setIfInBounds_toArray, List.set_cons_zero, List.set_cons_succ, i64_w, i32_w]
                 rfl
                refine pure_ (i := 8) (N := some 105) (v := ?_) (a' := ?_) impl_fill.mk_42 rfl rfl (any_of HT_.out (by kernel_rfl)) (fun _ _ _ h => h) (Or.inl ⟨by rfl, ?_⟩) ?_ ?_
                rotate_left
                ·intro w'
                 go_simp
                 with_reducible rfl
                rotate_left
                ·simp only [Act.put, List.setIfInBounds_toArray, List.set_cons_zero, List.set_cons_succ, i64_w, i32_w]
                 rfl
                refine pure_ (i := 9) (N := some 106) (v := ?_) (a' := ?_) impl_fill.mk_43 rfl rfl (any_of HT_.out (by kernel_rfl)) (fun _ _ _ h => h) (Or.inl ⟨by rfl, ?_⟩) ?_ ?_
                rotate_left
                ·intro w'
                 go_simp
                 with_reducible rfl
                rotate_left
                ·simp only [Act.put, List.setIfInBounds_toArray, List.set_cons_zero, List.set_cons_succ, i64_w, i32_w]
                 rfl
                refine pure_ (i := 10) (N := some 107) (v := ?_) (a' := ?_) impl_fill.mk_44 rfl rfl (any_of HT_.out (by kernel_rfl)) (fun _ _ _ h => h) (Or.inl ⟨by rfl, ?_⟩) ?_ ?_
                rotate_left
                ·intro w'
                 go_simp
                 with_reducible rfl
                rotate_left
                ·simp only [Act.put, List.setIfInBounds_toArray, List.set_cons_zero, List.set_cons_succ, i64_w, i32_w]
                 rfl
                refine take_ (i := 11) (N := some 108) (v := ?_) (a' := ?_) impl_fill.mk_45 rfl rfl (take_ofW HT_.out HW_.out (by kernel_rfl)) (fun _ _ _ h => h) (Or.inl ⟨by rfl, ?_⟩) hHeld ?_ ?_
                rotate_left
                ·intro w' s0
                 obtain ⟨s1_, s2_⟩ := s0
                 go_simp
                 with_reducible rfl
                rotate_left
                ·simp only [Act.put, List.setIfInBounds_toArray, List.set_cons_zero, List.set_cons_succ, i64_w, i32_w]
                 rfl
                refine pure_ (i := 12) (N := some 109) (v := ?_) (a' := ?_) impl_fill.mk_46 rfl rfl (any_of HT_.out (by kernel_rfl)) (fun _ _ _ h => h) (Or.inl ⟨by rfl, ?_⟩) ?_ ?_
                rotate_left
                ·intro w'
                 go_simp
                 with_reducible rfl
                rotate_left
                ·simp only [Act.put, List.setIfInBounds_toArray, List.set_cons_zero, List.set_cons_succ, i64_w, i32_w]
                 rfl
                refine last_ (i := 13) (N := none) impl_fill.mk_47 rfl rfl (one_of HT_.out (by kernel_rfl)) (by decide) (fun K hK => ?_)
                refine skip_ (w1 := wS.setCell (ad156.add (x73_2 : Int).toNat) (.slice AK_ (rd_L2 x9_2 x14_36).length cK_)) (by rfl) rfl ?_ ?_
                ·go_simp
                refine hK.out _ _ ?_
                clear hK K
                refine pure_ (i := 14) (N := some 110) (v := ?_) (a' := ?_) impl_fill.mk_48 rfl rfl (any_of HT_.out (by kernel_rfl)) (fun _ _ _ h => h) (Or.inl ⟨by rfl, ?_⟩) ?_ ?_
                rotate_left
                ·intro w'
                 go_simp
                 with_reducible rfl
                rotate_left
                ·simp only [Act.put, List.setIfInBounds_toArray, List.set_cons_zero, List.set_cons_succ, i64_w, i32_w]
                 rfl
                refine last_ (i := 15) (N := none) impl_fill.mk_49 rfl rfl (one_of HT_.out (by kernel_rfl)) (by decide) (fun K hK => ?_)
                obtain ⟨vz_, hz_⟩ := cell_set_some (p := (ad156.add (x73_2 : Int).toNat)) (x := (.slice AK_ (rd_L2 x9_2 x14_36).length cK_)) hsK
                have hfz_ := blk_frozen (blk_set hbS (x73_2 : Int).toNat (.slice AK_ (rd_L2 x9_2 x14_36).length cK_)) (x14_36 : Int).toNat
                rw [show (⟨g9_, (x73_2 : Int).toNat, none⟩ : Addr) = (ad156.add (x73_2 : Int).toNat) from by rw [eg9_.out, add_plain]] at hfz_
                rw [show (⟨g9_, (x14_36 : Int).toNat, none⟩ : Addr) = (ad156.add (x14_36 : Int).toNat) from by rw [eg9_.out, add_plain]] at hfz_
                refine skip_ (w1 := (wS.setCell (ad156.add (x73_2 : Int).toNat) (.slice AK_ (rd_L2 x9_2 x14_36).length cK_)).setCell (ad156.add (x14_36 : Int).toNat) (.slice AC_ (rd_L2 x9_2 x73_2).length cC_)) (by rfl) rfl ?_ ?_
                ·go_simp
                refine hK.out _ _ ?_
                clear hK K
                refine done_ (done_of HT_.out (by kernel_rfl)) ?_
                obtain ⟨w51, hw_⟩ : ∃ w_, w_ = (wS.setCell (ad156.add (x73_2 : Int).toNat) (.slice AK_ (rd_L2 x9_2 x14_36).length cK_)).setCell (ad156.add (x14_36 : Int).toNat) (.slice AC_ (rd_L2 x9_2 x73_2).length cC_) := ⟨_, rfl⟩
                rw [← hw_]
                have n0_ : Aside0 (Kd.S (Kd.slice 3 (Kd.int .i64)) 24 w51 w.heap.size (fun _ => True) (.slice (some ad156) x9_2.length co9) y159) := ⟨by rw [hw_, Ny159.out]; exact S_swap HO_9.out (by have := pC_; have := qC_; omega) (by have := pK_; have := qK_; omega) hsC hsK⟩
                have n1_ : Aside0 (Below w.heap.size w w51) := ⟨by rw [hw_, eg9_.out, add_plain, add_plain]; exact (HB.out.setCell hB9_ _).setCell hB9_ _⟩
                clear HO_9 HB hsC hsK hfC hfK hbS hHeld hw_ hb9_ pC1_ qC1_ pK1_ qK1_
                have HO_9 := n0_
                have HB := n1_
                clear n0_ n1_
                have p160 : 0 ≤ (x73_2 : Int) := of_decide_eq_true (by first | (with_reducible assumption) | assumption)
                have q160 : x73_2 < (y159.length : Int) := (by have h_ : (x73_2 : Int) < ((x9_2.length : Int) : Int) := of_decide_eq_true (by first | (with_reducible assumption) | assumption); first | (have e_ := (Kd.S_reads' HO_9.out).1; omega) | simpa only [Ny159.out, List.length_set] using h_)
                have ql160 : ((x73_2 : Int) < ((x9_2.length : Int) : Int)) = True := eq_true (of_decide_eq_true (by first | (with_reducible assumption) | assumption))
                obtain ⟨ad160, A160_0, c160_0, e160, hx160_0, hl160_0, hi160_0⟩ := at_L2 (Kd.S_reads' HO_9.out).2.2 x73_2 p160 q160
                obtain rfl : ad156 = ad160 := (by injection e160)
                obtain ⟨ce160, hce160, hMe160, hcc160⟩ := Kd.S_get HO_9.out [] x73_2 p160 (by first | exact q160 | exact of_decide_eq_true (by first | (with_reducible assumption) | assumption) | (have e_ := (Kd.S_reads' HO_9.out).1; omega))
                obtain ⟨ve160_0, rfl, ge160_0⟩ := hMe160
                have hv160_0 := hcc160 0 _ rfl
                rw [Nat.add_zero, show ((Kd.slice 3 (Kd.int .i64))).sz = 1 from rfl, Nat.mul_one] at hv160_0
                replace hv160_0 := Option.some.inj (hv160_0.symm.trans hx160_0)
                rw [hv160_0] at ge160_0
                have HL160_0 := Aside0.mk (show Kd.R (Kd.int .i64) 3 _ _ _ _ (rd_L2 y159 x73_2) from ge160_0)
                clear hv160_0 ge160_0
                have HX160_0 := Aside0.mk hx160_0
                clear hcc160 hce160
                have HR160_0 := Aside0.mk hi160_0
                have HC160_0 := Aside0.mk hl160_0
                clear hi160_0 hl160_0
                replace p160 := eq_true p160
                replace q160 := eq_true q160
                have p161 : 0 ≤ (x73_2 : Int) := of_decide_eq_true (by first | (with_reducible assumption) | assumption)
                have q161 : x73_2 < ((rd_L2 y159 x73_2).length : Int) := of_decide_eq_true (by first | (with_reducible assumption) | assumption)
                obtain ⟨ad161, e161, hx161_0⟩ := Kd.at_int (by repeat (first | (with_reducible exact HR160_0.out) | (with_reducible refine Kd.C_alloc ?_ _) | (with_reducible refine Kd.C_drewN ?_ _) | (with_reducible refine Kd.C_drew ?_) | exact HR160_0.out)) x73_2 p161 q161
                cases e161
                replace p161 := eq_true p161
                replace q161 := eq_true q161
                go_wp2_with (first | ((with_reducible refine gate_callee (f := 53) rfl ?_); refine goesL_ (some 118) rfl rfl Try.func53 (by kernel_rfl) rfl #[.int .i64 (rd (rd_L2 y159 x73_2) x73_2)] rfl (by (try simp only [List.map_toArray, List.map_cons, List.map_nil]); first | done | rfl | (simp only [List.length_drop, List.length_take]; rfl)) ?_; (with_reducible refine (impl_GfInv.calls kj36 (rd (rd_L2 y159 x73_2) x73_2) t162 _ A49.out).mono ?_); rintro e w' ⟨rfl, ⟨nd, rfl⟩⟩; refine ⟨_, rfl, ?_⟩; have p163 : 0 ≤ (x73_2 : Int) := of_decide_eq_true (by first | (with_reducible assumption) | assumption); have q163 : x73_2 < (y159.length : Int) := (by have h_ : (x73_2 : Int) < ((x9_2.length : Int) : Int) := of_decide_eq_true (by first | (with_reducible assumption) | assumption); first | (have e_ := (Kd.S_reads' HO_9.out).1; omega) | simpa only [Ny159.out, List.length_set] using h_); have ql163 : ((x73_2 : Int) < ((x9_2.length : Int) : Int)) = True := eq_true (of_decide_eq_true (by first | (with_reducible assumption) | assumption)); obtain ⟨ad163, A163_0, c163_0, e163, hx163_0, hl163_0, hi163_0⟩ := at_L2 (Kd.S_reads' HO_9.out).2.2 x73_2 p163 q163; obtain rfl : ad156 = ad163 := (by injection e163); obtain ⟨ce163, hce163, hMe163, hcc163⟩ := Kd.S_get HO_9.out [] x73_2 p163 (by first | exact q163 | exact of_decide_eq_true (by first | (with_reducible assumption) | assumption) | (have e_ := (Kd.S_reads' HO_9.out).1; omega)); obtain ⟨ve163_0, rfl, ge163_0⟩ := hMe163; have hv163_0 := hcc163 0 _ rfl; rw [Nat.add_zero, show ((Kd.slice 3 (Kd.int .i64))).sz = 1 from rfl, Nat.mul_one] at hv163_0; replace hv163_0 := Option.some.inj (hv163_0.symm.trans hx163_0); rw [hv163_0] at ge163_0; have HL163_0 := Aside0.mk (show Kd.R (Kd.int .i64) 3 _ _ _ _ (rd_L2 y159 x73_2) from ge163_0); clear hv163_0 ge163_0; have HX163_0 := Aside0.mk hx163_0; clear hcc163 hce163; have HR163_0 := Aside0.mk hi163_0; have HC163_0 := Aside0.mk hl163_0; clear hi163_0 hl163_0; replace p163 := eq_true p163; replace q163 := eq_true q163; have ea_ := Option.some.inj (hx160_0.symm.trans hx163_0); injection ea_ with ea_ en_ ec_; subst ea_; subst ec_; clear en_))
                go_loopg [124] kj36 (fun kq v124 w' => ∃ (x9_4 : List (List Int)) (x124_4 : Int), v124 = .int .i64 x124_4 ∧ Aside0 (impl_fill.l4 kq l0 l1 (l1.length : Int) x9_4 x73_2 t162 (l1.length : Int) x73_2 ((rd_L2 y159 x73_2).length : Int) x124_4 = some (r1, r2)) ∧ Aside0 (kq ≤ kj36) ∧ Aside0 (Kd.S (Kd.slice 3 (Kd.int .i64)) 24 w' w.heap.size (fun _ => True) (.slice (some ad156) x9_2.length co9) x9_4) ∧ Aside0 (Below w.heap.size w w'))
                case atStart => exact ⟨(y159), (0), (by first | rfl | (simp; done) | (simp [*]; done)), H', ⟨Nat.le_refl _⟩, ⟨by (try simp only [hl9_1]); (try simp only [hl9_2]); (with_reducible repeat (first | apply Kd.S_alloc | apply Kd.S_drewN | apply Kd.S_drew)); exact HO_9.out⟩, ⟨by repeat (first | (with_reducible first | exact HB.out | apply below_alloc | apply pw_below_drewN | apply below_drew1) | exact HB.out)⟩⟩
                case round => as_aux_lemma =>
                 clear H'
                 try clear c1
                 try clear p1
                 try clear q1
                 try clear hx1
                 try clear c2
                 try clear p2
                 try clear q2
                 try clear hx2
                 try clear c3
                 try clear hx3
                 try clear hf3
                 try clear c4
                 try clear p4
                 try clear q4
                 try clear hx4
                 try clear qi4
                 try clear hf4
                 try clear c5
                 try clear c5b0
                 try clear c5b1
                 try clear q5
                 try clear c6
                 try clear c6b0
                 try clear c6b1
                 try clear p6
                 try clear c10
                 try clear c10b0
                 try clear c11
                 try clear c11b0
                 try clear c12
                 try clear c12b0
                 try clear c13
                 try clear c13b0
                 try clear c14
                 try clear c14b0
                 try clear p14
                 try clear q14
                 try clear hx14
                 try clear c15
                 try clear c15b0
                 try clear p15
                 try clear q15
                 try clear hx15
                 try clear c16
                 try clear p16
                 try clear q16
                 try clear hx16
                 try clear c17
                 try clear p18
                 try clear q18
                 try clear c20
                 try clear c22
                 try clear hx22
                 try clear hf22
                 try clear c25
                 try clear c25b0
                 try clear c26
                 try clear c26b0
                 try clear c28
                 try clear p29
                 try clear q29
                 try clear c31
                 try clear c33
                 try clear hx33
                 try clear hf33
                 try clear c36
                 try clear c36b0
                 try clear c38
                 try clear c38b0
                 try clear c39
                 try clear c39b0
                 try clear c40
                 try clear c40b0
                 try clear c41
                 try clear c41b0
                 try clear c42
                 try clear c42b0
                 try clear c42b1
                 try clear c43
                 try clear c43b0
                 try clear c43b1
                 try clear c44
                 try clear c44b0
                 try clear c45
                 try clear c45b0
                 try clear c46
                 try clear c46b0
                 try clear c46b1
                 try clear p47
                 try clear q47
                 try clear hx47
                 try clear qi47
                 try clear hf47
                 try clear c48
                 try clear c48b0
                 try clear c50
                 try clear q50
                 try clear hx141_0
                 try clear hx142_0
                 try clear hx148_0
                 try clear hx154_0
                 try clear hx155_0
                 try clear hx156_0
                 try clear hx160_0
                 try clear hx161_0
                 try clear hx163_0
                 try clear hx22_0
                 try clear hx33_0
                 try clear hx47_0
                 try clear p1
                 try clear p14
                 try clear p141
                 try clear p142
                 try clear p148
                 try clear p15
                 try clear p154
                 try clear p155
                 try clear p156
                 try clear p160
                 try clear p161
                 try clear p163
                 try clear p18
                 try clear p2
                 try clear p29
                 try clear p47
                 try clear p6
                 try clear q1
                 try clear q14
                 try clear q141
                 try clear q142
                 try clear q148
                 try clear q15
                 try clear q154
                 try clear q155
                 try clear q156
                 try clear q160
                 try clear q161
                 try clear q163
                 try clear q18
                 try clear q2
                 try clear q29
                 try clear q47
                 obtain ⟨x9_4, x124_4, rfl, HA, HK4, HO_9, HB⟩ := hrel
                 have hl9_4 := (Kd.S_reads' HO_9.out).1
                 rw [hl9_4] at HO_9
                 (try simp only [hl9_4])
                 cases gk with
                 | zero => exact absurd HA.out (by simp [impl_fill.l4])
                 | succ k4 =>
                  have H := HA.out
                  clear HA
                  simp only [impl_fill.l4] at H
                  by_cases c52 : x124_4 < ((rd_L2 y159 x73_2).length : Int)
                  ·rw [if_pos c52] at H
                   have c52b0 : decide (x124_4 < ((rd_L2 y159 x73_2).length : Int)) = true := decide_eq_true c52
                   clear c52
                   by_cases c53 : 0 ≤ x73_2
                   ·rw [if_pos c53] at H
                    have c53b0 : decide (0 ≤ x73_2) = true := decide_eq_true c53
                    clear c53
                    by_cases c54 : x73_2 < (x9_4.length : Int)
                    ·rw [if_pos c54] at H
                     have c54b0 : decide (x73_2 < (x9_4.length : Int)) = true := decide_eq_true c54
                     clear c54
                     by_cases c55 : 0 ≤ x124_4
                     ·rw [if_pos c55] at H
                      have c55b0 : decide (0 ≤ x124_4) = true := decide_eq_true c55
                      clear c55
                      by_cases c56 : x124_4 < ((rd_L2 x9_4 x73_2).length : Int)
                      ·rw [if_pos c56] at H
                       have c56b0 : decide (x124_4 < ((rd_L2 x9_4 x73_2).length : Int)) = true := decide_eq_true c56
                       clear c56
                       replace H := Option.bind_eq_some_iff.mp H
                       obtain ⟨t167, A570, H⟩ := H
                       replace H : (impl_fill.l4 k4 l0 l1 (l1.length : Int) (x9_4.set (x73_2 : Int).toNat ((rd_L2 x9_4 x73_2).set (x124_4 : Int).toNat t167)) x73_2 t162 (l1.length : Int) x73_2 ((rd_L2 y159 x73_2).length : Int) (wrap64 (x124_4 + 1))) = some (r1, r2) := H
                       have A57 := Aside0.mk A570
                       clear A570
                       obtain ⟨y168, hy168⟩ : ∃ y_ : List Int, y_ = ((rd_L2 x9_4 x73_2).set (x124_4 : Int).toNat t167) := ⟨_, rfl⟩
                       replace H : (impl_fill.l4 k4 l0 l1 (l1.length : Int) (x9_4.set (x73_2 : Int).toNat y168) x73_2 t162 (l1.length : Int) x73_2 ((rd_L2 y159 x73_2).length : Int) (wrap64 (x124_4 + 1))) = some (r1, r2) := by first | (rw [hy168]; with_reducible exact H) | (have H2_ := (Option.bind_some _ _).symm.trans H; rw [hy168]; with_reducible exact H2_) | (have H2_ := (Option.bind_some _ _).symm.trans H; with_reducible exact H2_) | with_reducible exact H | (rw [hy168]; exact H) | exact H
                       have Ny168 := Aside0.mk hy168
                       clear hy168
                       obtain ⟨y170, hy170⟩ : ∃ y_ : List (List Int), y_ = (x9_4.set (x73_2 : Int).toNat y168) := ⟨_, rfl⟩
                       replace H : (impl_fill.l4 k4 l0 l1 (l1.length : Int) y170 x73_2 t162 (l1.length : Int) x73_2 ((rd_L2 y159 x73_2).length : Int) (wrap64 (x124_4 + 1))) = some (r1, r2) := by first | (rw [hy170]; with_reducible exact H) | (have H2_ := (Option.bind_some _ _).symm.trans H; rw [hy170]; with_reducible exact H2_) | (have H2_ := (Option.bind_some _ _).symm.trans H; with_reducible exact H2_) | with_reducible exact H | (rw [hy170]; exact H) | exact H
                       have Ny170 := Aside0.mk hy170
                       clear hy170
                       have H' := Aside0.mk H
                       clear H
                       try go_wp2
                       have n0_ := Aside0.mk (Kd.S_drew HO_9.out)
                       have n1_ := Aside0.mk (below_drew1 HB.out)
                       clear HO_9
                       clear HB
                       have HO_9 := n0_
                       have HB := n1_
                       clear n0_ n1_
                       have p164 : 0 ≤ (x73_2 : Int) := of_decide_eq_true (by first | (with_reducible assumption) | assumption)
                       have q164 : x73_2 < (x9_4.length : Int) := of_decide_eq_true (by first | (with_reducible assumption) | assumption)
                       obtain ⟨ad164, A164_0, c164_0, e164, hx164_0, hl164_0, hi164_0⟩ := at_L2 (Kd.S_reads' HO_9.out).2.2 x73_2 p164 q164
                       obtain rfl : ad156 = ad164 := (by injection e164)
                       obtain ⟨ce164, hce164, hMe164, hcc164⟩ := Kd.S_get HO_9.out [] x73_2 p164 (by first | exact q164 | exact of_decide_eq_true (by first | (with_reducible assumption) | assumption) | (have e_ := (Kd.S_reads' HO_9.out).1; omega))
                       obtain ⟨ve164_0, rfl, ge164_0⟩ := hMe164
                       have hv164_0 := hcc164 0 _ rfl
                       rw [Nat.add_zero, show ((Kd.slice 3 (Kd.int .i64))).sz = 1 from rfl, Nat.mul_one] at hv164_0
                       replace hv164_0 := Option.some.inj (hv164_0.symm.trans hx164_0)
                       rw [hv164_0] at ge164_0
                       have HL164_0 := Aside0.mk (show Kd.R (Kd.int .i64) 3 _ _ _ _ (rd_L2 x9_4 x73_2) from ge164_0)
                       clear hv164_0 ge164_0
                       have HX164_0 := Aside0.mk hx164_0
                       clear hcc164 hce164
                       have HR164_0 := Aside0.mk hi164_0
                       have HC164_0 := Aside0.mk hl164_0
                       clear hi164_0 hl164_0
                       replace p164 := eq_true p164
                       replace q164 := eq_true q164
                       have p165 : 0 ≤ (x73_2 : Int) := of_decide_eq_true (by first | (with_reducible assumption) | assumption)
                       have q165 : x73_2 < (x9_4.length : Int) := of_decide_eq_true (by first | (with_reducible assumption) | assumption)
                       obtain ⟨ad165, A165_0, c165_0, e165, hx165_0, hl165_0, hi165_0⟩ := at_L2 (Kd.S_reads' HO_9.out).2.2 x73_2 p165 q165
                       obtain rfl : ad156 = ad165 := (by injection e165)
                       obtain ⟨ce165, hce165, hMe165, hcc165⟩ := Kd.S_get HO_9.out [] x73_2 p165 (by first | exact q165 | exact of_decide_eq_true (by first | (with_reducible assumption) | assumption) | (have e_ := (Kd.S_reads' HO_9.out).1; omega))
                       obtain ⟨ve165_0, rfl, ge165_0⟩ := hMe165
                       have hv165_0 := hcc165 0 _ rfl
                       rw [Nat.add_zero, show ((Kd.slice 3 (Kd.int .i64))).sz = 1 from rfl, Nat.mul_one] at hv165_0
                       replace hv165_0 := Option.some.inj (hv165_0.symm.trans hx165_0)
                       rw [hv165_0] at ge165_0
                       have HL165_0 := Aside0.mk (show Kd.R (Kd.int .i64) 3 _ _ _ _ (rd_L2 x9_4 x73_2) from ge165_0)
                       clear hv165_0 ge165_0
                       have HX165_0 := Aside0.mk hx165_0
                       clear hcc165 hce165
                       have HR165_0 := Aside0.mk hi165_0
                       have HC165_0 := Aside0.mk hl165_0
                       clear hi165_0 hl165_0
                       replace p165 := eq_true p165
                       replace q165 := eq_true q165
                       have ea_ := Option.some.inj (hx164_0.symm.trans hx165_0)
                       injection ea_ with ea_ en_ ec_
                       subst ea_
                       subst ec_
                       clear en_
                       have p166 : 0 ≤ (x124_4 : Int) := of_decide_eq_true (by first | (with_reducible assumption) | assumption)
                       have q166 : x124_4 < ((rd_L2 x9_4 x73_2).length : Int) := of_decide_eq_true (by first | (with_reducible assumption) | assumption)
                       obtain ⟨ad166, e166, hx166_0⟩ := Kd.at_int (by repeat (first | (with_reducible exact HR165_0.out) | (with_reducible refine Kd.C_alloc ?_ _) | (with_reducible refine Kd.C_drewN ?_ _) | (with_reducible refine Kd.C_drew ?_) | exact HR165_0.out)) x124_4 p166 q166
                       cases e166
                       replace p166 := eq_true p166
                       replace q166 := eq_true q166
                       refine start_ (n := 16) (S := fun w' => w'.cell? (ad156.add (x73_2).toNat) = some (.slice (some ad166) (rd_L2 x9_4 x73_2).length c164_0) ∧ w'.cell? (ad156.add (x73_2).toNat) = some (.slice (some ad166) (rd_L2 x9_4 x73_2).length c164_0) ∧ w'.cell? (ad166.add (x124_4).toNat) = some (.int .i64 (rd (rd_L2 x9_4 x73_2) x124_4))) (ds := [15]) impl_fill.mk_33 (by kernel_rfl) rfl rfl ⟨hx164_0, hx165_0, hx166_0⟩ (fun hHeld => ?_); refine with_tabW impl_fill.tab26 impl_fill.bits26 (fun HT_ HW_ => ?_)
                       generalize wr.drew = w59 at HO_9 HB HL164_0 HL165_0 HR164_0 HR165_0 HX164_0 HX165_0 hx164_0 hx165_0 hx166_0 hHeld ⊢
                       refine pure_ (i := 0) (N := some 127) (v := ?_) (a' := ?_) impl_fill.mk_34 rfl rfl (any_of HT_.out (by kernel_rfl)) (fun _ _ _ h => h) (Or.inl ⟨by rfl, ?_⟩) ?_ ?_
                       rotate_left
                       ·intro w'
                        go_simp
                        with_reducible rfl
                       rotate_left
                       ·simp only [Act.put, List.setIfInBounds_toArray, List.set_cons_zero, List.set_cons_succ, i64_w, i32_w]
                        rfl
                       refine pure_ (i := 1) (N := some 128) (v := ?_) (a' := ?_) impl_fill.mk_35 rfl rfl (any_of HT_.out (by kernel_rfl)) (fun _ _ _ h => h) (Or.inl ⟨by rfl, ?_⟩) ?_ ?_
                       rotate_left
                       ·intro w'
                        go_simp
                        with_reducible rfl
                       rotate_left
                       ·simp only [Act.put, List.setIfInBounds_toArray, List.set_cons_zero, List.set_cons_succ, i64_w, i32_w]
                        rfl
                       refine pure_ (i := 2) (N := some 129) (v := ?_) (a' := ?_) impl_fill.mk_36 rfl rfl (any_of HT_.out (by kernel_rfl)) (fun _ _ _ h => h) (Or.inl ⟨by rfl, ?_⟩) ?_ ?_
                       rotate_left
                       ·intro w'
                        go_simp
                        with_reducible rfl
                       rotate_left
                       ·simp only [Act.put, List.setIfInBounds_toArray, List.set_cons_zero, List.set_cons_succ, i64_w, i32_w]
                        rfl
                       refine pure_ (i := 4) (N := some 131) (v := ?_) (a' := ?_) impl_fill.mk_50 rfl rfl (any_of HT_.out (by kernel_rfl)) (fun _ _ _ h => h) (Or.inl ⟨by rfl, ?_⟩) ?_ ?_
                       rotate_left
                       ·intro w'
                        go_simp
                        with_reducible rfl
                       rotate_left
                       ·simp only [Act.put, List.setIfInBounds_toArray, List.set_cons_zero, List.set_cons_succ, i64_w, i32_w]
                        rfl
                       refine pure_ (i := 5) (N := some 132) (v := ?_) (a' := ?_) impl_fill.mk_51 rfl rfl (any_of HT_.out (by kernel_rfl)) (fun _ _ _ h => h) (Or.inl ⟨by rfl, ?_⟩) ?_ ?_
                       rotate_left
                       ·intro w'
                        go_simp
                        with_reducible rfl
                       rotate_left
                       ·simp only [Act.put, List.setIfInBounds_toArray, List.set_cons_zero, List.set_cons_succ, i64_w, i32_w]
                        rfl
                       refine pure_ (i := 6) (N := some 133) (v := ?_) (a' := ?_) impl_fill.mk_52 rfl rfl (any_of HT_.out (by kernel_rfl)) (fun _ _ _ h => h) (Or.inl ⟨by rfl, ?_⟩) ?_ ?_
                       rotate_left
                       ·intro w'
                        go_simp
                        with_reducible rfl
                       rotate_left
                       ·simp only [Act.put, List.setIfInBounds_toArray, List.set_cons_zero, List.set_cons_succ, i64_w, i32_w]
                        rfl
                       refine pure_ (i := 7) (N := some 134) (v := ?_) (a' := ?_) impl_fill.mk_53 rfl rfl (any_of HT_.out (by kernel_rfl)) (fun _ _ _ h => h) (Or.inl ⟨by rfl, ?_⟩) ?_ ?_
                       rotate_left
                       ·intro w'
                        go_simp
                        with_reducible rfl
                       rotate_left
                       ·simp only [Act.put, List.setIfInBounds_toArray, List.set_cons_zero, List.set_cons_succ, i64_w, i32_w]
                        rfl
                       refine pure_ (i := 9) (N := some 136) (v := ?_) (a' := ?_) impl_fill.mk_54 rfl rfl (any_of HT_.out (by kernel_rfl)) (fun _ _ _ h => h) (Or.inl ⟨by rfl, ?_⟩) ?_ ?_
                       rotate_left
                       ·intro w'
                        go_simp
                        with_reducible rfl
                       rotate_left
                       ·simp only [Act.put, List.setIfInBounds_toArray, List.set_cons_zero, List.set_cons_succ, i64_w, i32_w]
                        rfl
                       refine pure_ (i := 12) (N := some 139) (v := ?_) (a' := ?_) impl_fill.mk_55 rfl rfl (any_of HT_.out (by kernel_rfl)) (fun _ _ _ h => h) (Or.inl ⟨by rfl, ?_⟩) ?_ ?_
                       rotate_left
                       ·intro w'
                        go_simp
                        with_reducible rfl
                       rotate_left
                       ·simp only [Act.put, List.setIfInBounds_toArray, List.set_cons_zero, List.set_cons_succ, i64_w, i32_w]
                        rfl
                       refine take_ (i := 3) (N := some 130) (v := ?_) (a' := ?_) impl_fill.mk_56 rfl rfl (take_ofW HT_.out HW_.out (by kernel_rfl)) (fun _ _ _ h => h) (Or.inl ⟨by rfl, ?_⟩) hHeld ?_ ?_
                       rotate_left
                       ·rintro w' ⟨s0, s1, s2⟩
                        go_simp
                        with_reducible rfl
                       rotate_left
                       ·simp only [Act.put, List.setIfInBounds_toArray, List.set_cons_zero, List.set_cons_succ, i64_w, i32_w]
                        rfl
                       refine take_ (i := 8) (N := some 135) (v := ?_) (a' := ?_) impl_fill.mk_57 rfl rfl (take_ofW HT_.out HW_.out (by kernel_rfl)) (fun _ _ _ h => h) (Or.inl ⟨by rfl, ?_⟩) hHeld ?_ ?_
                       rotate_left
                       ·rintro w' ⟨s0, s1, s2⟩
                        go_simp
                        with_reducible rfl
                       rotate_left
                       ·simp only [Act.put, List.setIfInBounds_toArray, List.set_cons_zero, List.set_cons_succ, i64_w, i32_w]
                        rfl
                       refine pure_ (i := 10) (N := some 137) (v := ?_) (a' := ?_) impl_fill.mk_58 rfl rfl (any_of HT_.out (by kernel_rfl)) (fun _ _ _ h => h) (Or.inl ⟨by rfl, ?_⟩) ?_ ?_
                       rotate_left
                       ·intro w'
                        go_simp
                        with_reducible rfl
                       rotate_left
                       ·simp only [Act.put, List.setIfInBounds_toArray, List.set_cons_zero, List.set_cons_succ, i64_w, i32_w]
                        rfl
                       refine take_ (i := 11) (N := some 138) (v := ?_) (a' := ?_) impl_fill.mk_46 rfl rfl (take_ofW HT_.out HW_.out (by kernel_rfl)) (fun _ _ _ h => h) (Or.inl ⟨by rfl, ?_⟩) hHeld ?_ ?_
                       rotate_left
                       ·rintro w' ⟨s0, s1, s2⟩
                        go_simp
                        with_reducible rfl
                       rotate_left
                       ·simp only [Act.put, List.setIfInBounds_toArray, List.set_cons_zero, List.set_cons_succ, i64_w, i32_w]
                        rfl
                       refine one_ (i := 13) (N := some 140) impl_fill.mk_47 rfl rfl (one_of HT_.out (by kernel_rfl)) (by decide) (fun K hK => ?_)
                       refine goes_ Try.func35 (by kernel_rfl) rfl #[.int .i64 (rd (rd_L2 x9_4 x73_2) x124_4), .int .i64 t162] (by rfl) rfl rfl (by (try simp only [List.map_toArray, List.map_cons, List.map_nil]); first | done | rfl | (simp only [List.length_drop, List.length_take]; rfl)) ?_
                       with_reducible refine (impl_GfMul.calls k4 (rd (rd_L2 x9_4 x73_2) x124_4) t162 t167 _ A57.out).mono ?_
                       rintro e w' ⟨rfl, ⟨nd, rfl⟩⟩
                       refine ⟨_, rfl, ?_⟩
                       have p58 : 0 ≤ (x124_4 : Int) := of_decide_eq_true (by first | (with_reducible assumption) | assumption)
                       have q58 : (x124_4 : Int) < (((rd_L2 x9_4 x73_2).length : Int) : Int) := of_decide_eq_true (by first | (with_reducible assumption) | assumption)
                       obtain ⟨go58, co58, eo58, gb58, gl58, cl58, HG58⟩ := Kd.R_form HL164_0.out (by omega)
                       (first | cases eo58 | (injection eo58 with ea_ en_ ec_; (first | subst ea_ | (injection ea_ with ea_; subst ea_)); subst ec_; clear en_))
                       have GB58 := Aside0.mk gb58
                       have GG58 := Aside0.mk HG58
                       clear gb58 gl58 HG58
                       (first | simp only [add_plain] at hx166_0 | skip)
                       obtain ⟨hx58_0, hf58_0⟩ := Kd.R_celln 0 HL164_0.out (x124_4 : Int) p58 q58
                       replace p58 := eq_true p58
                       replace q58 := eq_true q58
                       have hq60 : (x73_2 : Int) < (x9_4.length : Int) := (by have h_ : (x73_2 : Int) < ((x9_4.length : Int) : Int) := of_decide_eq_true (by first | (with_reducible assumption) | assumption); first | exact h_ | (have e_ := (Kd.S_reads' HO_9.out).1; omega) | simpa only [List.length_set, List.length_set] using h_)
                       obtain ⟨oki60, ce60, hcl60, hM60, hcc60, hok60, hbk60⟩ := Kd.S_borrow HO_9.out [] (x73_2 : Int) (of_decide_eq_true (by first | (with_reducible assumption) | assumption)) hq60
                       obtain ⟨ve60_0, rfl, ge60_0⟩ := hM60
                       have hv60 := hcc60 0 _ rfl
                       rw [Nat.add_zero, show ((Kd.slice 3 (Kd.int .i64))).sz = 1 from rfl, Nat.mul_one] at hv60
                       replace hv60 := Option.some.inj (hv60.symm.trans HX164_0.out)
                       subst hv60
                       clear hcc60 hcl60
                       replace ge60_0 := (show Kd.R (Kd.int .i64) 3 _ _ _ _ (rd_L2 x9_4 x73_2) from ge60_0)
                       have HP60 := Kd.R_putg ge60_0 (x124_4 : Int) t167
                       rw [← Ny168.out] at HP60
                       have HS60 := hbk60 HP60.2 (fun k_ e_ => by injection e_ with e_; subst e_; exact ge60_0.1 _ rfl) (x' := y168) (Kd.M_row HP60.1)
                       rw [← Ny170.out] at HS60
                       have HQ60 := Aside0.mk HS60
                       clear HP60 HS60 hbk60 hok60
                       refine hK.out _ _ ⟨hHeld.1, hHeld.2.1, hHeld.2.2⟩ (fun hHeld => ?_)
                       clear hK K
                       refine norm_ (a' := ?_) ?_ ?_
                       rotate_left
                       ·show Act.put _ (some 140) _ = _
                        simp only [Act.put, List.setIfInBounds_toArray, List.set_cons_zero, List.set_cons_succ, i64_w, i32_w]
                        rfl
                       refine pure_ (i := 14) (N := some 141) (v := ?_) (a' := ?_) impl_fill.mk_48 rfl rfl (any_of HT_.out (by kernel_rfl)) (fun _ _ _ h => h) (Or.inl ⟨by rfl, ?_⟩) ?_ ?_
                       rotate_left
                       ·intro w'
                        go_simp
                        with_reducible rfl
                       rotate_left
                       ·simp only [Act.put, List.setIfInBounds_toArray, List.set_cons_zero, List.set_cons_succ, i64_w, i32_w]
                        rfl
                       refine last_ (i := 15) (N := none) impl_fill.mk_49 rfl rfl (one_of HT_.out (by kernel_rfl)) (by decide) (fun K hK => ?_)
                       refine skip_ (w1 := ?_) (by rfl) rfl ?_ ?_
                       rotate_left
                       ·go_simp
                        rfl
                       refine hK.out _ _ ?_
                       clear hK K
                       refine done_ (done_of HT_.out (by kernel_rfl)) ?_
                       try go_wp2
                       (try simp only [← hl9_4])
                       go_roundg k4
                       case measure => have := HK1.out; have := HK2.out; have := HJ36.out; have := HK4.out; omega
                       case rel => exact ⟨(y170), (wrap64 (x124_4 + 1)), (by first | rfl | (simp; done) | (simp [*]; done)), H', ⟨by have := HK1.out; have := HK2.out; have := HJ36.out; have := HK4.out; omega⟩, ⟨by (try simp only [hl9_1]); (try simp only [hl9_2]); (try simp only [hl9_4]); (with_reducible repeat (first | apply Kd.S_alloc | apply Kd.S_drewN | apply Kd.S_drew)); exact HQ60.out⟩, ⟨by repeat (first | (with_reducible first | exact HB.out | apply below_alloc | apply pw_below_drewN | apply below_drew1 | refine below_set ?_ GB58.out) | exact HB.out)⟩⟩
                      ·rw [if_neg c56] at H
                       exact absurd H (by simp)
                     ·rw [if_neg c55] at H
                      exact absurd H (by simp)
                    ·rw [if_neg c54] at H
                     exact absurd H (by simp)
                   ·rw [if_neg c53] at H
                    exact absurd H (by simp)
                  ·rw [if_neg c52] at H
                   have c52b0 : decide (x124_4 < ((rd_L2 y159 x73_2).length : Int)) = false := decide_eq_false c52
                   clear c52
                   have H' := Aside0.mk H
                   clear H
                   go_wp2
                   go_loopg [145] k4 (fun kq v145 w' => ∃ (x9_5 : List (List Int)) (x145_5 : Int), v145 = .int .i64 x145_5 ∧ Aside0 (impl_fill.l5 kq l0 l1 (l1.length : Int) x9_5 x73_2 (l1.length : Int) x73_2 (x9_4.length : Int) x145_5 = some (r1, r2)) ∧ Aside0 (kq ≤ k4) ∧ Aside0 (Kd.S (Kd.slice 3 (Kd.int .i64)) 24 w' w.heap.size (fun _ => True) (.slice (some ad156) x9_4.length co9) x9_5) ∧ Aside0 (Below w.heap.size w w'))
                   case atStart => exact ⟨(x9_4), (0), (by first | rfl | (simp; done) | (simp [*]; done)), H', ⟨Nat.le_refl _⟩, ⟨by (try simp only [hl9_1]); (try simp only [hl9_2]); (try simp only [hl9_4]); (with_reducible repeat (first | apply Kd.S_alloc | apply Kd.S_drewN | apply Kd.S_drew)); exact HO_9.out⟩, ⟨by repeat (first | (with_reducible first | exact HB.out | apply below_alloc | apply pw_below_drewN | apply below_drew1) | exact HB.out)⟩⟩
                   case round => as_aux_lemma =>
                    clear H'
                    try clear c1
                    try clear p1
                    try clear q1
                    try clear hx1
                    try clear c2
                    try clear p2
                    try clear q2
                    try clear hx2
                    try clear c3
                    try clear hx3
                    try clear hf3
                    try clear c4
                    try clear p4
                    try clear q4
                    try clear hx4
                    try clear qi4
                    try clear hf4
                    try clear c5
                    try clear c5b0
                    try clear c5b1
                    try clear p5
                    try clear q5
                    try clear hx5
                    try clear hf5
                    try clear c6
                    try clear c6b0
                    try clear c6b1
                    try clear p6
                    try clear q6
                    try clear c10
                    try clear c10b0
                    try clear c11
                    try clear c11b0
                    try clear c12
                    try clear c12b0
                    try clear c13
                    try clear c13b0
                    try clear c14
                    try clear c14b0
                    try clear p14
                    try clear q14
                    try clear hx14
                    try clear c15
                    try clear c15b0
                    try clear p15
                    try clear q15
                    try clear hx15
                    try clear c16
                    try clear p16
                    try clear q16
                    try clear hx16
                    try clear c17
                    try clear p18
                    try clear q18
                    try clear c20
                    try clear c22
                    try clear hx22
                    try clear hf22
                    try clear c25
                    try clear c25b0
                    try clear c26
                    try clear c26b0
                    try clear c28
                    try clear p29
                    try clear q29
                    try clear c31
                    try clear c33
                    try clear hx33
                    try clear hf33
                    try clear c35
                    try clear c36
                    try clear c36b0
                    try clear c38
                    try clear c38b0
                    try clear c39
                    try clear c39b0
                    try clear c40
                    try clear c40b0
                    try clear c41
                    try clear c41b0
                    try clear c42
                    try clear c42b0
                    try clear c42b1
                    try clear c43
                    try clear c43b0
                    try clear c43b1
                    try clear c44
                    try clear c44b0
                    try clear c45
                    try clear c45b0
                    try clear c46
                    try clear c46b0
                    try clear c46b1
                    try clear p47
                    try clear q47
                    try clear hx47
                    try clear qi47
                    try clear hf47
                    try clear c48
                    try clear c48b0
                    try clear c50
                    try clear q50
                    try clear c52
                    try clear c52b0
                    try clear c53
                    try clear c53b0
                    try clear c54
                    try clear c54b0
                    try clear c55
                    try clear c55b0
                    try clear c56
                    try clear c56b0
                    try clear p58
                    try clear q58
                    try clear hx58
                    try clear hf58
                    try clear c60
                    try clear q60
                    try clear hx141_0
                    try clear hx142_0
                    try clear hx148_0
                    try clear hx154_0
                    try clear hx155_0
                    try clear hx156_0
                    try clear hx160_0
                    try clear hx161_0
                    try clear hx163_0
                    try clear hx164_0
                    try clear hx165_0
                    try clear hx166_0
                    try clear hx22_0
                    try clear hx33_0
                    try clear hx47_0
                    try clear hx58_0
                    try clear p1
                    try clear p14
                    try clear p141
                    try clear p142
                    try clear p148
                    try clear p15
                    try clear p154
                    try clear p155
                    try clear p156
                    try clear p16
                    try clear p160
                    try clear p161
                    try clear p163
                    try clear p164
                    try clear p165
                    try clear p166
                    try clear p18
                    try clear p2
                    try clear p29
                    try clear p4
                    try clear p47
                    try clear p58
                    try clear p6
                    try clear q1
                    try clear q14
                    try clear q141
                    try clear q142
                    try clear q148
                    try clear q15
                    try clear q154
                    try clear q155
                    try clear q156
                    try clear q16
                    try clear q160
                    try clear q161
                    try clear q163
                    try clear q164
                    try clear q165
                    try clear q166
                    try clear q18
                    try clear q2
                    try clear q29
                    try clear q4
                    try clear q47
                    try clear q5
                    try clear q50
                    try clear q58
                    obtain ⟨x9_5, x145_5, rfl, HA, HK5, HO_9, HB⟩ := hrel
                    have hl9_5 := (Kd.S_reads' HO_9.out).1
                    rw [hl9_5] at HO_9
                    (try simp only [hl9_5])
                    cases gk with
                    | zero => exact absurd HA.out (by simp [impl_fill.l5])
                    | succ k5 =>
                     have H := HA.out
                     clear HA
                     simp only [impl_fill.l5] at H
                     by_cases c62 : x145_5 < (x9_4.length : Int)
                     ·rw [if_pos c62] at H
                      have c62b0 : decide (x145_5 < (x9_4.length : Int)) = true := decide_eq_true c62
                      clear c62
                      by_cases c63 : 0 ≤ x145_5
                      ·rw [if_pos c63] at H
                       have c63b0 : decide (0 ≤ x145_5) = true := decide_eq_true c63
                       clear c63
                       by_cases c64 : x145_5 < (x9_5.length : Int)
                       ·rw [if_pos c64] at H
                        have c64b0 : decide (x145_5 < (x9_5.length : Int)) = true := decide_eq_true c64
                        clear c64
                        by_cases c65 : 0 ≤ x73_2
                        ·rw [if_pos c65] at H
                         have c65b0 : decide (0 ≤ x73_2) = true := decide_eq_true c65
                         clear c65
                         by_cases c66 : x73_2 < ((rd_L2 x9_5 x145_5).length : Int)
                         ·rw [if_pos c66] at H
                          have c66b0 : decide (x73_2 < ((rd_L2 x9_5 x145_5).length : Int)) = true := decide_eq_true c66
                          clear c66
                          have HC67 := Aside0.mk H
                          clear H
                          have p171 : 0 ≤ (x145_5 : Int) := of_decide_eq_true (by first | (with_reducible assumption) | assumption)
                          have q171 : x145_5 < (x9_5.length : Int) := of_decide_eq_true (by first | (with_reducible assumption) | assumption)
                          obtain ⟨ad171, A171_0, c171_0, e171, hx171_0, hl171_0, hi171_0⟩ := at_L2 (Kd.S_reads' HO_9.out).2.2 x145_5 p171 q171
                          obtain rfl : ad156 = ad171 := (by injection e171)
                          obtain ⟨ce171, hce171, hMe171, hcc171⟩ := Kd.S_get HO_9.out [] x145_5 p171 (by first | exact q171 | exact of_decide_eq_true (by first | (with_reducible assumption) | assumption) | (have e_ := (Kd.S_reads' HO_9.out).1; omega))
                          obtain ⟨ve171_0, rfl, ge171_0⟩ := hMe171
                          have hv171_0 := hcc171 0 _ rfl
                          rw [Nat.add_zero, show ((Kd.slice 3 (Kd.int .i64))).sz = 1 from rfl, Nat.mul_one] at hv171_0
                          replace hv171_0 := Option.some.inj (hv171_0.symm.trans hx171_0)
                          rw [hv171_0] at ge171_0
                          have HL171_0 := Aside0.mk (show Kd.R (Kd.int .i64) 3 _ _ _ _ (rd_L2 x9_5 x145_5) from ge171_0)
                          clear hv171_0 ge171_0
                          have HX171_0 := Aside0.mk hx171_0
                          clear hcc171 hce171
                          have HR171_0 := Aside0.mk hi171_0
                          have HC171_0 := Aside0.mk hl171_0
                          clear hi171_0 hl171_0
                          replace p171 := eq_true p171
                          replace q171 := eq_true q171
                          have p172 : 0 ≤ (x73_2 : Int) := of_decide_eq_true (by first | (with_reducible assumption) | assumption)
                          have q172 : x73_2 < ((rd_L2 x9_5 x145_5).length : Int) := of_decide_eq_true (by first | (with_reducible assumption) | assumption)
                          obtain ⟨ad172, e172, hx172_0⟩ := Kd.at_int (by repeat (first | (with_reducible exact HR171_0.out) | (with_reducible refine Kd.C_alloc ?_ _) | (with_reducible refine Kd.C_drewN ?_ _) | (with_reducible refine Kd.C_drew ?_) | exact HR171_0.out)) x73_2 p172 q172
                          cases e172
                          replace p172 := eq_true p172
                          replace q172 := eq_true q172
                          go_upto_region 32 with (fail)
                          go_cut [161] (fun v161 wc => ∃ (kq : Nat) (x161_66 : Bool), v161 = .bool x161_66 ∧ Aside0 (impl_fill.j7 kq l0 l1 (l1.length : Int) x9_5 x73_2 x145_5 (rd (rd_L2 x9_5 x145_5) x73_2) (l1.length : Int) x73_2 (x9_4.length : Int) x145_5 x161_66 = some (r1, r2)) ∧ Aside0 (kq ≤ k5) ∧ Aside0 (Kd.S (Kd.slice 3 (Kd.int .i64)) 24 wc w.heap.size (fun _ => True) (.slice (some ad156) x9_5.length co9) x9_5) ∧ Aside0 (Kd.C (Kd.int .i64) wc (some ad172) (rd_L2 x9_5 x145_5).length (rd_L2 x9_5 x145_5)) ∧ Aside0 (Below w.heap.size w wc))
                          case first =>
                           have H := HC67.out
                           clear HC67
                           by_cases c68 : x145_5 = x73_2
                           ·rw [if_pos c68] at H
                            have c68b0 : (x145_5 == x73_2) = true := beq_iff_eq.mpr c68
                            have c68b1 : (x145_5 != x73_2) = false := bne_eq_false_iff_eq.mpr c68
                            clear c68
                            (first | rw [c68b0] | (simp only [i64_w, i32_w]; rw [c68b0]) | skip)
                            have H' := Aside0.mk H
                            clear H
                            go_wp2
                            go_meet
                            case rel => exact ⟨_, (false), (by first | rfl | (simp; done) | (simp [*]; done)), H', ⟨by have := HK1.out; have := HK2.out; have := HJ36.out; have := HK4.out; have := HK5.out; first | omega | exact Nat.le_refl _⟩, ⟨by (try simp only [hl9_1]); (try simp only [hl9_2]); (try simp only [hl9_4]); (try simp only [hl9_5]); (with_reducible repeat (first | apply Kd.S_alloc | apply Kd.S_drewN | apply Kd.S_drew)); exact HO_9.out⟩, ⟨by repeat (first | (with_reducible exact HR171_0.out) | (with_reducible refine Kd.C_alloc ?_ _) | (with_reducible refine Kd.C_drewN ?_ _) | (with_reducible refine Kd.C_drew ?_) | exact HR171_0.out)⟩, ⟨by repeat (first | (with_reducible first | exact HB.out | apply below_alloc | apply pw_below_drewN | apply below_drew1) | exact HB.out)⟩⟩
                           ·rw [if_neg c68] at H
                            have c68b0 : (x145_5 == x73_2) = false := beq_eq_false_iff_ne.mpr c68
                            have c68b1 : (x145_5 != x73_2) = true := bne_iff_ne.mpr c68
                            (first | rw [c68b0] | (simp only [i64_w, i32_w]; rw [c68b0]) | skip)
                            have H' := Aside0.mk H
                            clear H
                            go_wp2
                            go_meet
                            case rel => exact ⟨_, (((rd (rd_L2 x9_5 x145_5) x73_2) != 0)), (by first | rfl | (simp; done) | (simp [*]; done)), H', ⟨by have := HK1.out; have := HK2.out; have := HJ36.out; have := HK4.out; have := HK5.out; first | omega | exact Nat.le_refl _⟩, ⟨by (try simp only [hl9_1]); (try simp only [hl9_2]); (try simp only [hl9_4]); (try simp only [hl9_5]); (with_reducible repeat (first | apply Kd.S_alloc | apply Kd.S_drewN | apply Kd.S_drew)); exact HO_9.out⟩, ⟨by repeat (first | (with_reducible exact HR171_0.out) | (with_reducible refine Kd.C_alloc ?_ _) | (with_reducible refine Kd.C_drewN ?_ _) | (with_reducible refine Kd.C_drew ?_) | exact HR171_0.out)⟩, ⟨by repeat (first | (with_reducible first | exact HB.out | apply below_alloc | apply pw_below_drewN | apply below_drew1) | exact HB.out)⟩⟩
                          case rest =>
                           clear HC67
                           try clear c1
                           try clear p1
                           try clear q1
                           try clear hx1
                           try clear c2
                           try clear p2
                           try clear q2
                           try clear hx2
                           try clear c3
                           try clear hx3
                           try clear hf3
                           try clear c4
                           try clear p4
                           try clear q4
                           try clear hx4
                           try clear qi4
                           try clear hf4
                           try clear c5
                           try clear c5b0
                           try clear c5b1
                           try clear p5
                           try clear q5
                           try clear hx5
                           try clear hf5
                           try clear c6
                           try clear c6b0
                           try clear c6b1
                           try clear p6
                           try clear q6
                           try clear c10
                           try clear c10b0
                           try clear c11
                           try clear c11b0
                           try clear c12
                           try clear c12b0
                           try clear c13
                           try clear c13b0
                           try clear c14
                           try clear c14b0
                           try clear p14
                           try clear q14
                           try clear hx14
                           try clear c15
                           try clear c15b0
                           try clear p15
                           try clear q15
                           try clear hx15
                           try clear c16
                           try clear p16
                           try clear q16
                           try clear hx16
                           try clear c17
                           try clear p17
                           try clear q17
                           try clear hx17
                           try clear p18
                           try clear q18
                           try clear c20
                           try clear c22
                           try clear hx22
                           try clear hf22
                           try clear c25
                           try clear c25b0
                           try clear c26
                           try clear c26b0
                           try clear c28
                           try clear p29
                           try clear q29
                           try clear c31
                           try clear c33
                           try clear hx33
                           try clear hf33
                           try clear c35
                           try clear c36
                           try clear c36b0
                           try clear c38
                           try clear c38b0
                           try clear c39
                           try clear c39b0
                           try clear c40
                           try clear c40b0
                           try clear c41
                           try clear c41b0
                           try clear c42
                           try clear c42b0
                           try clear c42b1
                           try clear c43
                           try clear c43b0
                           try clear c43b1
                           try clear c44
                           try clear c44b0
                           try clear c45
                           try clear c45b0
                           try clear c46
                           try clear c46b0
                           try clear c46b1
                           try clear p47
                           try clear q47
                           try clear hx47
                           try clear qi47
                           try clear hf47
                           try clear c48
                           try clear c48b0
                           try clear c50
                           try clear q50
                           try clear c52
                           try clear c52b0
                           try clear c53
                           try clear c53b0
                           try clear c54
                           try clear c54b0
                           try clear c55
                           try clear c55b0
                           try clear c56
                           try clear c56b0
                           try clear p58
                           try clear q58
                           try clear hx58
                           try clear hf58
                           try clear c60
                           try clear q60
                           try clear c62
                           try clear c62b0
                           try clear c63
                           try clear c63b0
                           try clear c64
                           try clear c64b0
                           try clear p64
                           try clear c65
                           try clear c65b0
                           try clear c66
                           try clear c66b0
                           try clear c68
                           try clear c68b0
                           try clear c68b1
                           try clear hx141_0
                           try clear hx142_0
                           try clear hx148_0
                           try clear hx154_0
                           try clear hx155_0
                           try clear hx156_0
                           try clear hx160_0
                           try clear hx161_0
                           try clear hx163_0
                           try clear hx164_0
                           try clear hx165_0
                           try clear hx166_0
                           try clear hx171_0
                           try clear hx172_0
                           try clear hx22_0
                           try clear hx33_0
                           try clear hx47_0
                           try clear hx58_0
                           try clear p1
                           try clear p14
                           try clear p141
                           try clear p142
                           try clear p148
                           try clear p15
                           try clear p154
                           try clear p155
                           try clear p156
                           try clear p16
                           try clear p160
                           try clear p161
                           try clear p163
                           try clear p164
                           try clear p165
                           try clear p166
                           try clear p171
                           try clear p172
                           try clear p18
                           try clear p2
                           try clear p29
                           try clear p4
                           try clear p47
                           try clear p5
                           try clear p58
                           try clear p6
                           try clear q1
                           try clear q14
                           try clear q141
                           try clear q142
                           try clear q148
                           try clear q15
                           try clear q154
                           try clear q155
                           try clear q156
                           try clear q16
                           try clear q160
                           try clear q161
                           try clear q163
                           try clear q164
                           try clear q165
                           try clear q166
                           try clear q171
                           try clear q172
                           try clear q18
                           try clear q2
                           try clear q29
                           try clear q4
                           try clear q47
                           try clear q5
                           try clear q50
                           try clear q58
                           try clear q6
                           try clear q60
                           obtain ⟨kq, x161_66, rfl, HA, HJ66, HO_9, HR171_0, HB⟩ := hcut
                           cases kq with
                           | zero => exact absurd HA.out (by simp [impl_fill.j7])
                           | succ kj66 =>
                            have H := HA.out
                            clear HA
                            simp only [impl_fill.j7] at H
                            by_cases c69 : x161_66 = true
                            ·subst c69
                             have H1 : (if 0 ≤ x145_5 then (if x145_5 < (x9_5.length : Int) then (impl_fill.l6 kj66 l0 l1 (l1.length : Int) x9_5 x73_2 x145_5 (rd (rd_L2 x9_5 x145_5) x73_2) (l1.length : Int) x73_2 (x9_4.length : Int) x145_5 ((rd_L2 x9_5 x145_5).length : Int) 0) else (none)) else (none)) = some (r1, r2) := by rw [if_pos rfl] at H; exact H
                             clear H
                             have H := H1
                             clear H1
                             by_cases c70 : 0 ≤ x145_5
                             ·rw [if_pos c70] at H
                              have c70b0 : decide (0 ≤ x145_5) = true := decide_eq_true c70
                              clear c70
                              by_cases c71 : x145_5 < (x9_5.length : Int)
                              ·rw [if_pos c71] at H
                               have c71b0 : decide (x145_5 < (x9_5.length : Int)) = true := decide_eq_true c71
                               clear c71
                               have H' := Aside0.mk H
                               clear H
                               have p173 : 0 ≤ (x145_5 : Int) := of_decide_eq_true (by first | (with_reducible assumption) | assumption)
                               have q173 : x145_5 < (x9_5.length : Int) := of_decide_eq_true (by first | (with_reducible assumption) | assumption)
                               obtain ⟨ad173, A173_0, c173_0, e173, hx173_0, hl173_0, hi173_0⟩ := at_L2 (Kd.S_reads' HO_9.out).2.2 x145_5 p173 q173
                               obtain rfl : ad156 = ad173 := (by injection e173)
                               obtain ⟨ce173, hce173, hMe173, hcc173⟩ := Kd.S_get HO_9.out [] x145_5 p173 (by first | exact q173 | exact of_decide_eq_true (by first | (with_reducible assumption) | assumption) | (have e_ := (Kd.S_reads' HO_9.out).1; omega))
                               obtain ⟨ve173_0, rfl, ge173_0⟩ := hMe173
                               have hv173_0 := hcc173 0 _ rfl
                               rw [Nat.add_zero, show ((Kd.slice 3 (Kd.int .i64))).sz = 1 from rfl, Nat.mul_one] at hv173_0
                               replace hv173_0 := Option.some.inj (hv173_0.symm.trans hx173_0)
                               rw [hv173_0] at ge173_0
                               have HL173_0 := Aside0.mk (show Kd.R (Kd.int .i64) 3 _ _ _ _ (rd_L2 x9_5 x145_5) from ge173_0)
                               clear hv173_0 ge173_0
                               have HX173_0 := Aside0.mk hx173_0
                               clear hcc173 hce173
                               have HR173_0 := Aside0.mk hi173_0
                               have HC173_0 := Aside0.mk hl173_0
                               clear hi173_0 hl173_0
                               replace p173 := eq_true p173
                               replace q173 := eq_true q173
                               go_wp2
                               go_loopg [167] kj66 (fun kq v167 w' => ∃ (x9_7 : List (List Int)) (x167_7 : Int), v167 = .int .i64 x167_7 ∧ Aside0 (impl_fill.l6 kq l0 l1 (l1.length : Int) x9_7 x73_2 x145_5 (rd (rd_L2 x9_5 x145_5) x73_2) (l1.length : Int) x73_2 (x9_4.length : Int) x145_5 ((rd_L2 x9_5 x145_5).length : Int) x167_7 = some (r1, r2)) ∧ Aside0 (kq ≤ kj66) ∧ Aside0 (Kd.S (Kd.slice 3 (Kd.int .i64)) 24 w' w.heap.size (fun _ => True) (.slice (some ad156) x9_5.length co9) x9_7) ∧ Aside0 (Below w.heap.size w w'))
                               case atStart => exact ⟨(x9_5), (0), (by first | rfl | (simp; done) | (simp [*]; done)), H', ⟨Nat.le_refl _⟩, ⟨by (try simp only [hl9_1]); (try simp only [hl9_2]); (try simp only [hl9_4]); (try simp only [hl9_5]); (with_reducible repeat (first | apply Kd.S_alloc | apply Kd.S_drewN | apply Kd.S_drew)); exact HO_9.out⟩, ⟨by repeat (first | (with_reducible first | exact HB.out | apply below_alloc | apply pw_below_drewN | apply below_drew1) | exact HB.out)⟩⟩
                               case round => as_aux_lemma =>
                                clear H'
                                try clear c1
                                try clear p1
                                try clear q1
                                try clear hx1
                                try clear c2
                                try clear p2
                                try clear q2
                                try clear hx2
                                try clear c3
                                try clear hx3
                                try clear hf3
                                try clear c4
                                try clear p4
                                try clear q4
                                try clear hx4
                                try clear qi4
                                try clear hf4
                                try clear c5
                                try clear c5b0
                                try clear c5b1
                                try clear p5
                                try clear q5
                                try clear hx5
                                try clear hf5
                                try clear c6
                                try clear c6b0
                                try clear c6b1
                                try clear p6
                                try clear q6
                                try clear c7
                                try clear c10
                                try clear c10b0
                                try clear c11
                                try clear c11b0
                                try clear c12
                                try clear c12b0
                                try clear c13
                                try clear c13b0
                                try clear c14
                                try clear c14b0
                                try clear p14
                                try clear q14
                                try clear hx14
                                try clear c15
                                try clear c15b0
                                try clear p15
                                try clear q15
                                try clear hx15
                                try clear c16
                                try clear p16
                                try clear q16
                                try clear hx16
                                try clear c17
                                try clear p17
                                try clear q17
                                try clear hx17
                                try clear p18
                                try clear q18
                                try clear c20
                                try clear c22
                                try clear hx22
                                try clear hf22
                                try clear c25
                                try clear c25b0
                                try clear c26
                                try clear c26b0
                                try clear c28
                                try clear p29
                                try clear q29
                                try clear c31
                                try clear c33
                                try clear hx33
                                try clear hf33
                                try clear c35
                                try clear c36
                                try clear c36b0
                                try clear c38
                                try clear c38b0
                                try clear c39
                                try clear c39b0
                                try clear c40
                                try clear c40b0
                                try clear c41
                                try clear c41b0
                                try clear c42
                                try clear c42b0
                                try clear c42b1
                                try clear c43
                                try clear c43b0
                                try clear c43b1
                                try clear c44
                                try clear c44b0
                                try clear c45
                                try clear c45b0
                                try clear c46
                                try clear c46b0
                                try clear c46b1
                                try clear p47
                                try clear q47
                                try clear hx47
                                try clear qi47
                                try clear hf47
                                try clear c48
                                try clear c48b0
                                try clear c50
                                try clear q50
                                try clear c52
                                try clear c52b0
                                try clear c53
                                try clear c53b0
                                try clear c54
                                try clear c54b0
                                try clear c55
                                try clear c55b0
                                try clear c56
                                try clear c56b0
                                try clear p58
                                try clear q58
                                try clear hx58
                                try clear hf58
                                try clear c60
                                try clear q60
                                try clear c62
                                try clear c62b0
                                try clear c63
                                try clear c63b0
                                try clear c64
                                try clear c64b0
                                try clear p64
                                try clear c65
                                try clear c65b0
                                try clear c66
                                try clear c66b0
                                try clear c68
                                try clear c68b0
                                try clear c68b1
                                try clear c69
                                try clear c70
                                try clear c70b0
                                try clear c71
                                try clear c71b0
                                try clear hx141_0
                                try clear hx142_0
                                try clear hx148_0
                                try clear hx154_0
                                try clear hx155_0
                                try clear hx156_0
                                try clear hx160_0
                                try clear hx161_0
                                try clear hx163_0
                                try clear hx164_0
                                try clear hx165_0
                                try clear hx166_0
                                try clear hx171_0
                                try clear hx172_0
                                try clear hx173_0
                                try clear hx22_0
                                try clear hx33_0
                                try clear hx47_0
                                try clear hx58_0
                                try clear p1
                                try clear p14
                                try clear p141
                                try clear p142
                                try clear p148
                                try clear p15
                                try clear p154
                                try clear p155
                                try clear p156
                                try clear p16
                                try clear p160
                                try clear p161
                                try clear p163
                                try clear p164
                                try clear p165
                                try clear p166
                                try clear p17
                                try clear p171
                                try clear p172
                                try clear p173
                                try clear p18
                                try clear p2
                                try clear p29
                                try clear p4
                                try clear p47
                                try clear p5
                                try clear p58
                                try clear p6
                                try clear p64
                                try clear q1
                                try clear q14
                                try clear q141
                                try clear q142
                                try clear q148
                                try clear q15
                                try clear q154
                                try clear q155
                                try clear q156
                                try clear q16
                                try clear q160
                                try clear q161
                                try clear q163
                                try clear q164
                                try clear q165
                                try clear q166
                                try clear q17
                                try clear q171
                                try clear q172
                                try clear q173
                                try clear q18
                                try clear q2
                                try clear q29
                                try clear q4
                                try clear q47
                                try clear q5
                                try clear q50
                                try clear q58
                                try clear q6
                                try clear q60
                                obtain ⟨x9_7, x167_7, rfl, HA, HK7, HO_9, HB⟩ := hrel
                                have hl9_7 := (Kd.S_reads' HO_9.out).1
                                rw [hl9_7] at HO_9
                                (try simp only [hl9_7])
                                cases gk with
                                | zero => exact absurd HA.out (by simp [impl_fill.l6])
                                | succ k7 =>
                                 have H := HA.out
                                 clear HA
                                 simp only [impl_fill.l6] at H
                                 by_cases c72 : x167_7 < ((rd_L2 x9_5 x145_5).length : Int)
                                 ·rw [if_pos c72] at H
                                  have c72b0 : decide (x167_7 < ((rd_L2 x9_5 x145_5).length : Int)) = true := decide_eq_true c72
                                  clear c72
                                  by_cases c73 : 0 ≤ x145_5
                                  ·rw [if_pos c73] at H
                                   have c73b0 : decide (0 ≤ x145_5) = true := decide_eq_true c73
                                   clear c73
                                   by_cases c74 : x145_5 < (x9_7.length : Int)
                                   ·rw [if_pos c74] at H
                                    have c74b0 : decide (x145_5 < (x9_7.length : Int)) = true := decide_eq_true c74
                                    clear c74
                                    by_cases c75 : 0 ≤ x167_7
                                    ·rw [if_pos c75] at H
                                     have c75b0 : decide (0 ≤ x167_7) = true := decide_eq_true c75
                                     clear c75
                                     by_cases c76 : x167_7 < ((rd_L2 x9_7 x145_5).length : Int)
                                     ·rw [if_pos c76] at H
                                      have c76b0 : decide (x167_7 < ((rd_L2 x9_7 x145_5).length : Int)) = true := decide_eq_true c76
                                      clear c76
                                      by_cases c77 : 0 ≤ x73_2
                                      ·rw [if_pos c77] at H
                                       have c77b0 : decide (0 ≤ x73_2) = true := decide_eq_true c77
                                       clear c77
                                       by_cases c78 : x73_2 < (x9_7.length : Int)
                                       ·rw [if_pos c78] at H
                                        have c78b0 : decide (x73_2 < (x9_7.length : Int)) = true := decide_eq_true c78
                                        clear c78
                                        by_cases c79 : x167_7 < ((rd_L2 x9_7 x73_2).length : Int)
                                        ·rw [if_pos c79] at H
                                         have c79b0 : decide (x167_7 < ((rd_L2 x9_7 x73_2).length : Int)) = true := decide_eq_true c79
                                         clear c79
                                         replace H := Option.bind_eq_some_iff.mp H
                                         obtain ⟨t178, A800, H⟩ := H
                                         replace H : (impl_fill.l6 k7 l0 l1 (l1.length : Int) (x9_7.set (x145_5 : Int).toNat ((rd_L2 x9_7 x145_5).set (x167_7 : Int).toNat (Go.bits .xor .i64 (rd (rd_L2 x9_7 x145_5) x167_7) t178))) x73_2 x145_5 (rd (rd_L2 x9_5 x145_5) x73_2) (l1.length : Int) x73_2 (x9_4.length : Int) x145_5 ((rd_L2 x9_5 x145_5).length : Int) (wrap64 (x167_7 + 1))) = some (r1, r2) := H
                                         have A80 := Aside0.mk A800
                                         clear A800
                                         obtain ⟨y179, hy179⟩ : ∃ y_ : List Int, y_ = ((rd_L2 x9_7 x145_5).set (x167_7 : Int).toNat (Go.bits .xor .i64 (rd (rd_L2 x9_7 x145_5) x167_7) t178)) := ⟨_, rfl⟩
                                         replace H : (impl_fill.l6 k7 l0 l1 (l1.length : Int) (x9_7.set (x145_5 : Int).toNat y179) x73_2 x145_5 (rd (rd_L2 x9_5 x145_5) x73_2) (l1.length : Int) x73_2 (x9_4.length : Int) x145_5 ((rd_L2 x9_5 x145_5).length : Int) (wrap64 (x167_7 + 1))) = some (r1, r2) := by first | (rw [hy179]; with_reducible exact H) | (have H2_ := (Option.bind_some _ _).symm.trans H; rw [hy179]; with_reducible exact H2_) | (have H2_ := (Option.bind_some _ _).symm.trans H; with_reducible exact H2_) | with_reducible exact H | (rw [hy179]; exact H) | exact H
                                         have Ny179 := Aside0.mk hy179
                                         clear hy179
                                         obtain ⟨y181, hy181⟩ : ∃ y_ : List (List Int), y_ = (x9_7.set (x145_5 : Int).toNat y179) := ⟨_, rfl⟩
                                         replace H : (impl_fill.l6 k7 l0 l1 (l1.length : Int) y181 x73_2 x145_5 (rd (rd_L2 x9_5 x145_5) x73_2) (l1.length : Int) x73_2 (x9_4.length : Int) x145_5 ((rd_L2 x9_5 x145_5).length : Int) (wrap64 (x167_7 + 1))) = some (r1, r2) := by first | (rw [hy181]; with_reducible exact H) | (have H2_ := (Option.bind_some _ _).symm.trans H; rw [hy181]; with_reducible exact H2_) | (have H2_ := (Option.bind_some _ _).symm.trans H; with_reducible exact H2_) | with_reducible exact H | (rw [hy181]; exact H) | exact H
                                         have Ny181 := Aside0.mk hy181
                                         clear hy181
                                         have H' := Aside0.mk H
                                         clear H
                                         try go_wp2
                                         have n0_ := Aside0.mk (Kd.S_drew HO_9.out)
                                         have n1_ := Aside0.mk (below_drew1 HB.out)
                                         clear HO_9
                                         clear HB
                                         have HO_9 := n0_
                                         have HB := n1_
                                         clear n0_ n1_
                                         have p174 : 0 ≤ (x145_5 : Int) := of_decide_eq_true (by first | (with_reducible assumption) | assumption)
                                         have q174 : x145_5 < (x9_7.length : Int) := of_decide_eq_true (by first | (with_reducible assumption) | assumption)
                                         obtain ⟨ad174, A174_0, c174_0, e174, hx174_0, hl174_0, hi174_0⟩ := at_L2 (Kd.S_reads' HO_9.out).2.2 x145_5 p174 q174
                                         obtain rfl : ad156 = ad174 := (by injection e174)
                                         obtain ⟨ce174, hce174, hMe174, hcc174⟩ := Kd.S_get HO_9.out [] x145_5 p174 (by first | exact q174 | exact of_decide_eq_true (by first | (with_reducible assumption) | assumption) | (have e_ := (Kd.S_reads' HO_9.out).1; omega))
                                         obtain ⟨ve174_0, rfl, ge174_0⟩ := hMe174
                                         have hv174_0 := hcc174 0 _ rfl
                                         rw [Nat.add_zero, show ((Kd.slice 3 (Kd.int .i64))).sz = 1 from rfl, Nat.mul_one] at hv174_0
                                         replace hv174_0 := Option.some.inj (hv174_0.symm.trans hx174_0)
                                         rw [hv174_0] at ge174_0
                                         have HL174_0 := Aside0.mk (show Kd.R (Kd.int .i64) 3 _ _ _ _ (rd_L2 x9_7 x145_5) from ge174_0)
                                         clear hv174_0 ge174_0
                                         have HX174_0 := Aside0.mk hx174_0
                                         clear hcc174 hce174
                                         have HR174_0 := Aside0.mk hi174_0
                                         have HC174_0 := Aside0.mk hl174_0
                                         clear hi174_0 hl174_0
                                         replace p174 := eq_true p174
                                         replace q174 := eq_true q174
                                         have p175 : 0 ≤ (x167_7 : Int) := of_decide_eq_true (by first | (with_reducible assumption) | assumption)
                                         have q175 : x167_7 < ((rd_L2 x9_7 x145_5).length : Int) := of_decide_eq_true (by first | (with_reducible assumption) | assumption)
                                         obtain ⟨ad175, e175, hx175_0⟩ := Kd.at_int (by repeat (first | (with_reducible exact HR174_0.out) | (with_reducible refine Kd.C_alloc ?_ _) | (with_reducible refine Kd.C_drewN ?_ _) | (with_reducible refine Kd.C_drew ?_) | exact HR174_0.out)) x167_7 p175 q175
                                         cases e175
                                         replace p175 := eq_true p175
                                         replace q175 := eq_true q175
                                         have p176 : 0 ≤ (x73_2 : Int) := of_decide_eq_true (by first | (with_reducible assumption) | assumption)
                                         have q176 : x73_2 < (x9_7.length : Int) := of_decide_eq_true (by first | (with_reducible assumption) | assumption)
                                         obtain ⟨ad176, A176_0, c176_0, e176, hx176_0, hl176_0, hi176_0⟩ := at_L2 (Kd.S_reads' HO_9.out).2.2 x73_2 p176 q176
                                         obtain rfl : ad156 = ad176 := (by injection e176)
                                         obtain ⟨ce176, hce176, hMe176, hcc176⟩ := Kd.S_get HO_9.out [] x73_2 p176 (by first | exact q176 | exact of_decide_eq_true (by first | (with_reducible assumption) | assumption) | (have e_ := (Kd.S_reads' HO_9.out).1; omega))
                                         obtain ⟨ve176_0, rfl, ge176_0⟩ := hMe176
                                         have hv176_0 := hcc176 0 _ rfl
                                         rw [Nat.add_zero, show ((Kd.slice 3 (Kd.int .i64))).sz = 1 from rfl, Nat.mul_one] at hv176_0
                                         replace hv176_0 := Option.some.inj (hv176_0.symm.trans hx176_0)
                                         rw [hv176_0] at ge176_0
                                         have HL176_0 := Aside0.mk (show Kd.R (Kd.int .i64) 3 _ _ _ _ (rd_L2 x9_7 x73_2) from ge176_0)
                                         clear hv176_0 ge176_0
                                         have HX176_0 := Aside0.mk hx176_0
                                         clear hcc176 hce176
                                         have HR176_0 := Aside0.mk hi176_0
                                         have HC176_0 := Aside0.mk hl176_0
                                         clear hi176_0 hl176_0
                                         replace p176 := eq_true p176
                                         replace q176 := eq_true q176
                                         have p177 : 0 ≤ (x167_7 : Int) := of_decide_eq_true (by first | (with_reducible assumption) | assumption)
                                         have q177 : x167_7 < ((rd_L2 x9_7 x73_2).length : Int) := of_decide_eq_true (by first | (with_reducible assumption) | assumption)
                                         obtain ⟨ad177, e177, hx177_0⟩ := Kd.at_int (by repeat (first | (with_reducible exact HR176_0.out) | (with_reducible refine Kd.C_alloc ?_ _) | (with_reducible refine Kd.C_drewN ?_ _) | (with_reducible refine Kd.C_drew ?_) | exact HR176_0.out)) x167_7 p177 q177
                                         cases e177
                                         replace p177 := eq_true p177
                                         replace q177 := eq_true q177
                                         refine start_ (n := 19) (S := fun w' => w'.cell? (ad156.add (x145_5).toNat) = some (.slice (some ad175) (rd_L2 x9_7 x145_5).length c174_0) ∧ w'.cell? (ad175.add (x167_7).toNat) = some (.int .i64 (rd (rd_L2 x9_7 x145_5) x167_7)) ∧ w'.cell? (ad156.add (x73_2).toNat) = some (.slice (some ad177) (rd_L2 x9_7 x73_2).length c176_0) ∧ w'.cell? (ad177.add (x167_7).toNat) = some (.int .i64 (rd (rd_L2 x9_7 x73_2) x167_7))) (ds := [18]) impl_fill.mk_59 (by kernel_rfl) rfl rfl ⟨hx174_0, hx175_0, hx176_0, hx177_0⟩ (fun hHeld => ?_); refine with_tabW impl_fill.tab36 impl_fill.bits36 (fun HT_ HW_ => ?_)
                                         generalize wr.drew = w82 at HO_9 HB HL174_0 HL176_0 HR174_0 HR176_0 HX174_0 HX176_0 hx174_0 hx175_0 hx176_0 hx177_0 hHeld ⊢
                                         refine pure_ (i := 0) (N := some 170) (v := ?_) (a' := ?_) impl_fill.mk_60 rfl rfl (any_of HT_.out (by kernel_rfl)) (fun _ _ _ h => h) (Or.inl ⟨by rfl, ?_⟩) ?_ ?_
                                         rotate_left
                                         ·intro w'
                                          go_simp
                                          with_reducible rfl
                                         rotate_left
                                         ·simp only [Act.put, List.setIfInBounds_toArray, List.set_cons_zero, List.set_cons_succ, i64_w, i32_w]
                                          rfl
                                         refine pure_ (i := 1) (N := some 171) (v := ?_) (a' := ?_) impl_fill.mk_61 rfl rfl (any_of HT_.out (by kernel_rfl)) (fun _ _ _ h => h) (Or.inl ⟨by rfl, ?_⟩) ?_ ?_
                                         rotate_left
                                         ·intro w'
                                          go_simp
                                          with_reducible rfl
                                         rotate_left
                                         ·simp only [Act.put, List.setIfInBounds_toArray, List.set_cons_zero, List.set_cons_succ, i64_w, i32_w]
                                          rfl
                                         refine pure_ (i := 2) (N := some 172) (v := ?_) (a' := ?_) impl_fill.mk_62 rfl rfl (any_of HT_.out (by kernel_rfl)) (fun _ _ _ h => h) (Or.inl ⟨by rfl, ?_⟩) ?_ ?_
                                         rotate_left
                                         ·intro w'
                                          go_simp
                                          with_reducible rfl
                                         rotate_left
                                         ·simp only [Act.put, List.setIfInBounds_toArray, List.set_cons_zero, List.set_cons_succ, i64_w, i32_w]
                                          rfl
                                         refine pure_ (i := 4) (N := some 174) (v := ?_) (a' := ?_) impl_fill.mk_63 rfl rfl (any_of HT_.out (by kernel_rfl)) (fun _ _ _ h => h) (Or.inl ⟨by rfl, ?_⟩) ?_ ?_
                                         rotate_left
                                         ·intro w'
                                          go_simp
                                          with_reducible rfl
                                         rotate_left
                                         ·simp only [Act.put, List.setIfInBounds_toArray, List.set_cons_zero, List.set_cons_succ, i64_w, i32_w]
                                          rfl
                                         refine pure_ (i := 7) (N := some 177) (v := ?_) (a' := ?_) impl_fill.mk_64 rfl rfl (any_of HT_.out (by kernel_rfl)) (fun _ _ _ h => h) (Or.inl ⟨by rfl, ?_⟩) ?_ ?_
                                         rotate_left
                                         ·intro w'
                                          go_simp
                                          with_reducible rfl
                                         rotate_left
                                         ·simp only [Act.put, List.setIfInBounds_toArray, List.set_cons_zero, List.set_cons_succ, i64_w, i32_w]
                                          rfl
                                         refine pure_ (i := 8) (N := some 178) (v := ?_) (a' := ?_) impl_fill.mk_65 rfl rfl (any_of HT_.out (by kernel_rfl)) (fun _ _ _ h => h) (Or.inl ⟨by rfl, ?_⟩) ?_ ?_
                                         rotate_left
                                         ·intro w'
                                          go_simp
                                          with_reducible rfl
                                         rotate_left
                                         ·simp only [Act.put, List.setIfInBounds_toArray, List.set_cons_zero, List.set_cons_succ, i64_w, i32_w]
                                          rfl
                                         refine pure_ (i := 9) (N := some 179) (v := ?_) (a' := ?_) impl_fill.mk_66 rfl rfl (any_of HT_.out (by kernel_rfl)) (fun _ _ _ h => h) (Or.inl ⟨by rfl, ?_⟩) ?_ ?_
                                         rotate_left
                                         ·intro w'
                                          go_simp
                                          with_reducible rfl
                                         rotate_left
                                         ·simp only [Act.put, List.setIfInBounds_toArray, List.set_cons_zero, List.set_cons_succ, i64_w, i32_w]
                                          rfl
                                         refine pure_ (i := 10) (N := some 180) (v := ?_) (a' := ?_) impl_fill.mk_67 rfl rfl (any_of HT_.out (by kernel_rfl)) (fun _ _ _ h => h) (Or.inl ⟨by rfl, ?_⟩) ?_ ?_
                                         rotate_left
                                         ·intro w'
                                          go_simp
                                          with_reducible rfl
                                         rotate_left
                                         ·simp only [Act.put, List.setIfInBounds_toArray, List.set_cons_zero, List.set_cons_succ, i64_w, i32_w]
                                          rfl
                                         refine pure_ (i := 12) (N := some 182) (v := ?_) (a' := ?_) impl_fill.mk_68 rfl rfl (any_of HT_.out (by kernel_rfl)) (fun _ _ _ h => h) (Or.inl ⟨by rfl, ?_⟩) ?_ ?_
                                         rotate_left
                                         ·intro w'
                                          go_simp
                                          with_reducible rfl
                                         rotate_left
                                         ·simp only [Act.put, List.setIfInBounds_toArray, List.set_cons_zero, List.set_cons_succ, i64_w, i32_w]
                                          rfl
                                         refine take_ (i := 3) (N := some 173) (v := ?_) (a' := ?_) impl_fill.mk_69 rfl rfl (take_ofW HT_.out HW_.out (by kernel_rfl)) (fun _ _ _ h => h) (Or.inl ⟨by rfl, ?_⟩) hHeld ?_ ?_
                                         rotate_left
                                         ·rintro w' ⟨s0, s1, s2, s3⟩
                                          go_simp
                                          with_reducible rfl
                                         rotate_left
                                         ·simp only [Act.put, List.setIfInBounds_toArray, List.set_cons_zero, List.set_cons_succ, i64_w, i32_w]
                                          rfl
                                         refine pure_ (i := 5) (N := some 175) (v := ?_) (a' := ?_) impl_fill.mk_70 rfl rfl (any_of HT_.out (by kernel_rfl)) (fun _ _ _ h => h) (Or.inl ⟨by rfl, ?_⟩) ?_ ?_
                                         rotate_left
                                         ·intro w'
                                          go_simp
                                          with_reducible rfl
                                         rotate_left
                                         ·simp only [Act.put, List.setIfInBounds_toArray, List.set_cons_zero, List.set_cons_succ, i64_w, i32_w]
                                          rfl
                                         refine take_ (i := 6) (N := some 176) (v := ?_) (a' := ?_) impl_fill.mk_71 rfl rfl (take_ofW HT_.out HW_.out (by kernel_rfl)) (fun _ _ _ h => h) (Or.inl ⟨by rfl, ?_⟩) hHeld ?_ ?_
                                         rotate_left
                                         ·rintro w' ⟨s0, s1, s2, s3⟩
                                          go_simp
                                          with_reducible rfl
                                         rotate_left
                                         ·simp only [Act.put, List.setIfInBounds_toArray, List.set_cons_zero, List.set_cons_succ, i64_w, i32_w]
                                          rfl
                                         refine take_ (i := 11) (N := some 181) (v := ?_) (a' := ?_) impl_fill.mk_72 rfl rfl (take_ofW HT_.out HW_.out (by kernel_rfl)) (fun _ _ _ h => h) (Or.inl ⟨by rfl, ?_⟩) hHeld ?_ ?_
                                         rotate_left
                                         ·rintro w' ⟨s0, s1, s2, s3⟩
                                          go_simp
                                          with_reducible rfl
                                         rotate_left
                                         ·simp only [Act.put, List.setIfInBounds_toArray, List.set_cons_zero, List.set_cons_succ, i64_w, i32_w]
                                          rfl
                                         refine pure_ (i := 13) (N := some 183) (v := ?_) (a' := ?_) impl_fill.mk_73 rfl rfl (any_of HT_.out (by kernel_rfl)) (fun _ _ _ h => h) (Or.inl ⟨by rfl, ?_⟩) ?_ ?_
                                         rotate_left
                                         ·intro w'
                                          go_simp
                                          with_reducible rfl
                                         rotate_left
                                         ·simp only [Act.put, List.setIfInBounds_toArray, List.set_cons_zero, List.set_cons_succ, i64_w, i32_w]
                                          rfl
                                         refine take_ (i := 14) (N := some 184) (v := ?_) (a' := ?_) impl_fill.mk_74 rfl rfl (take_ofW HT_.out HW_.out (by kernel_rfl)) (fun _ _ _ h => h) (Or.inl ⟨by rfl, ?_⟩) hHeld ?_ ?_
                                         rotate_left
                                         ·rintro w' ⟨s0, s1, s2, s3⟩
                                          go_simp
                                          with_reducible rfl
                                         rotate_left
                                         ·simp only [Act.put, List.setIfInBounds_toArray, List.set_cons_zero, List.set_cons_succ, i64_w, i32_w]
                                          rfl
                                         refine one_ (i := 15) (N := some 185) impl_fill.mk_75 rfl rfl (one_of HT_.out (by kernel_rfl)) (by decide) (fun K hK => ?_)
                                         refine goes_ Try.func35 (by kernel_rfl) rfl #[.int .i64 (rd (rd_L2 x9_5 x145_5) x73_2), .int .i64 (rd (rd_L2 x9_7 x73_2) x167_7)] (by rfl) rfl rfl (by (try simp only [List.map_toArray, List.map_cons, List.map_nil]); first | done | rfl | (simp only [List.length_drop, List.length_take]; rfl)) ?_
                                         with_reducible refine (impl_GfMul.calls k7 (rd (rd_L2 x9_5 x145_5) x73_2) (rd (rd_L2 x9_7 x73_2) x167_7) t178 _ A80.out).mono ?_
                                         rintro e w' ⟨rfl, ⟨nd, rfl⟩⟩
                                         refine ⟨_, rfl, ?_⟩
                                         have p81 : 0 ≤ (x167_7 : Int) := of_decide_eq_true (by first | (with_reducible assumption) | assumption)
                                         have q81 : (x167_7 : Int) < (((rd_L2 x9_7 x145_5).length : Int) : Int) := of_decide_eq_true (by first | (with_reducible assumption) | assumption)
                                         obtain ⟨go81, co81, eo81, gb81, gl81, cl81, HG81⟩ := Kd.R_form HL174_0.out (by omega)
                                         (first | cases eo81 | (injection eo81 with ea_ en_ ec_; (first | subst ea_ | (injection ea_ with ea_; subst ea_)); subst ec_; clear en_))
                                         have GB81 := Aside0.mk gb81
                                         have GG81 := Aside0.mk HG81
                                         clear gb81 gl81 HG81
                                         (first | simp only [add_plain] at hx175_0 | skip)
                                         obtain ⟨hx81_0, hf81_0⟩ := Kd.R_celln 0 HL174_0.out (x167_7 : Int) p81 q81
                                         replace p81 := eq_true p81
                                         replace q81 := eq_true q81
                                         have hq83 : (x145_5 : Int) < (x9_7.length : Int) := (by have h_ : (x145_5 : Int) < ((x9_7.length : Int) : Int) := of_decide_eq_true (by first | (with_reducible assumption) | assumption); first | exact h_ | (have e_ := (Kd.S_reads' HO_9.out).1; omega) | simpa only [List.length_set, List.length_set] using h_)
                                         obtain ⟨oki83, ce83, hcl83, hM83, hcc83, hok83, hbk83⟩ := Kd.S_borrow HO_9.out [] (x145_5 : Int) (of_decide_eq_true (by first | (with_reducible assumption) | assumption)) hq83
                                         obtain ⟨ve83_0, rfl, ge83_0⟩ := hM83
                                         have hv83 := hcc83 0 _ rfl
                                         rw [Nat.add_zero, show ((Kd.slice 3 (Kd.int .i64))).sz = 1 from rfl, Nat.mul_one] at hv83
                                         replace hv83 := Option.some.inj (hv83.symm.trans HX174_0.out)
                                         subst hv83
                                         clear hcc83 hcl83
                                         replace ge83_0 := (show Kd.R (Kd.int .i64) 3 _ _ _ _ (rd_L2 x9_7 x145_5) from ge83_0)
                                         have HP83 := Kd.R_putg ge83_0 (x167_7 : Int) (Go.bits .xor .i64 (rd (rd_L2 x9_7 x145_5) x167_7) t178)
                                         rw [← Ny179.out] at HP83
                                         have HS83 := hbk83 HP83.2 (fun k_ e_ => by injection e_ with e_; subst e_; exact ge83_0.1 _ rfl) (x' := y179) (Kd.M_row HP83.1)
                                         rw [← Ny181.out] at HS83
                                         have HQ83 := Aside0.mk HS83
                                         clear HP83 HS83 hbk83 hok83
                                         refine hK.out _ _ ⟨hHeld.1, hHeld.2.1, hHeld.2.2.1, hHeld.2.2.2⟩ (fun hHeld => ?_)
                                         clear hK K
                                         refine norm_ (a' := ?_) ?_ ?_
                                         rotate_left
                                         ·show Act.put _ (some 185) _ = _
                                          simp only [Act.put, List.setIfInBounds_toArray, List.set_cons_zero, List.set_cons_succ, i64_w, i32_w]
                                          rfl
                                         refine pure_ (i := 16) (N := some 186) (v := ?_) (a' := ?_) impl_fill.mk_76 rfl rfl (any_of HT_.out (by kernel_rfl)) (fun _ _ _ h => h) (Or.inl ⟨by rfl, ?_⟩) ?_ ?_
                                         rotate_left
                                         ·intro w'
                                          go_simp
                                          with_reducible rfl
                                         rotate_left
                                         ·simp only [Act.put, List.setIfInBounds_toArray, List.set_cons_zero, List.set_cons_succ, i64_w, i32_w]
                                          rfl
                                         refine pure_ (i := 17) (N := some 187) (v := ?_) (a' := ?_) impl_fill.mk_77 rfl rfl (any_of HT_.out (by kernel_rfl)) (fun _ _ _ h => h) (Or.inl ⟨by rfl, ?_⟩) ?_ ?_
                                         rotate_left
                                         ·intro w'
                                          go_simp
                                          with_reducible rfl
                                         rotate_left
                                         ·simp only [Act.put, List.setIfInBounds_toArray, List.set_cons_zero, List.set_cons_succ, i64_w, i32_w]
                                          rfl
                                         refine last_ (i := 18) (N := none) impl_fill.mk_78 rfl rfl (one_of HT_.out (by kernel_rfl)) (by decide) (fun K hK => ?_)
                                         refine skip_ (w1 := ?_) (by rfl) rfl ?_ ?_
                                         rotate_left
                                         ·go_simp
                                          rfl
                                         refine hK.out _ _ ?_
                                         clear hK K
                                         refine done_ (done_of HT_.out (by kernel_rfl)) ?_
                                         try go_wp2
                                         (try simp only [← hl9_7])
                                         go_roundg k7
                                         case measure => have := HK1.out; have := HK2.out; have := HJ36.out; have := HK4.out; have := HK5.out; have := HJ66.out; have := HK7.out; omega
                                         case rel => exact ⟨(y181), (wrap64 (x167_7 + 1)), (by first | rfl | (simp; done) | (simp [*]; done)), H', ⟨by have := HK1.out; have := HK2.out; have := HJ36.out; have := HK4.out; have := HK5.out; have := HJ66.out; have := HK7.out; omega⟩, ⟨by (try simp only [hl9_1]); (try simp only [hl9_2]); (try simp only [hl9_4]); (try simp only [hl9_5]); (try simp only [hl9_7]); (with_reducible repeat (first | apply Kd.S_alloc | apply Kd.S_drewN | apply Kd.S_drew)); exact HQ83.out⟩, ⟨by repeat (first | (with_reducible first | exact HB.out | apply below_alloc | apply pw_below_drewN | apply below_drew1 | refine below_set ?_ GB81.out) | exact HB.out)⟩⟩
                                        ·rw [if_neg c79] at H
                                         exact absurd H (by simp)
                                       ·rw [if_neg c78] at H
                                        exact absurd H (by simp)
                                      ·rw [if_neg c77] at H
                                       exact absurd H (by simp)
                                     ·rw [if_neg c76] at H
                                      exact absurd H (by simp)
                                    ·rw [if_neg c75] at H
                                     exact absurd H (by simp)
                                   ·rw [if_neg c74] at H
                                    exact absurd H (by simp)
                                  ·rw [if_neg c73] at H
                                   exact absurd H (by simp)
                                 ·rw [if_neg c72] at H
                                  have c72b0 : decide (x167_7 < ((rd_L2 x9_5 x145_5).length : Int)) = false := decide_eq_false c72
                                  clear c72
                                  have H' := Aside0.mk H
                                  clear H
                                  go_wp2
                                  (try simp only [← hl9_5, ← hl9_7])
                                  go_roundg k7
                                  case measure => have := HK1.out; have := HK2.out; have := HJ36.out; have := HK4.out; have := HK5.out; have := HJ66.out; have := HK7.out; omega
                                  case rel => exact ⟨(x9_7), (wrap64 (x145_5 + 1)), (by first | rfl | (simp; done) | (simp [*]; done)), H', ⟨by have := HK1.out; have := HK2.out; have := HJ36.out; have := HK4.out; have := HK5.out; have := HJ66.out; have := HK7.out; omega⟩, ⟨by (try simp only [hl9_1]); (try simp only [hl9_2]); (try simp only [hl9_4]); (try simp only [hl9_5]); (try simp only [hl9_7]); (with_reducible repeat (first | apply Kd.S_alloc | apply Kd.S_drewN | apply Kd.S_drew)); exact HO_9.out⟩, ⟨by repeat (first | (with_reducible first | exact HB.out | apply below_alloc | apply pw_below_drewN | apply below_drew1) | exact HB.out)⟩⟩
                              ·rw [if_neg c71] at H
                               exact absurd H (by simp)
                             ·rw [if_neg c70] at H
                              exact absurd H (by simp)
                            ·replace c69 := Bool.eq_false_iff.mpr c69
                             subst c69
                             have H1 : (impl_fill.l5 kj66 l0 l1 (l1.length : Int) x9_5 x73_2 (l1.length : Int) x73_2 (x9_4.length : Int) (wrap64 (x145_5 + 1))) = some (r1, r2) := by rw [if_neg (show ¬ (false = true) by decide)] at H; exact H
                             clear H
                             have H := H1
                             clear H1
                             have H' := Aside0.mk H
                             clear H
                             go_wp2
                             (try simp only [← hl9_5])
                             go_roundg kj66
                             case measure => have := HK1.out; have := HK2.out; have := HJ36.out; have := HK4.out; have := HK5.out; have := HJ66.out; omega
                             case rel => exact ⟨(x9_5), (wrap64 (x145_5 + 1)), (by first | rfl | (simp; done) | (simp [*]; done)), H', ⟨by have := HK1.out; have := HK2.out; have := HJ36.out; have := HK4.out; have := HK5.out; have := HJ66.out; omega⟩, ⟨by (try simp only [hl9_1]); (try simp only [hl9_2]); (try simp only [hl9_4]); (try simp only [hl9_5]); (with_reducible repeat (first | apply Kd.S_alloc | apply Kd.S_drewN | apply Kd.S_drew)); exact HO_9.out⟩, ⟨by repeat (first | (with_reducible first | exact HB.out | apply below_alloc | apply pw_below_drewN | apply below_drew1) | exact HB.out)⟩⟩
                         ·rw [if_neg c66] at H
                          exact absurd H (by simp)
                        ·rw [if_neg c65] at H
                         exact absurd H (by simp)
                       ·rw [if_neg c64] at H
                        exact absurd H (by simp)
                      ·rw [if_neg c63] at H
                       exact absurd H (by simp)
                     ·rw [if_neg c62] at H
                      have c62b0 : decide (x145_5 < (x9_4.length : Int)) = false := decide_eq_false c62
                      try rw [hl9_5] at c62b0
                      clear c62
                      have H' := Aside0.mk H
                      clear H
                      go_wp2
                      (try simp only [← hl9_2, ← hl9_4, ← hl9_5])
                      go_roundg k5
                      case measure => have := HK1.out; have := HK2.out; have := HJ36.out; have := HK4.out; have := HK5.out; omega
                      case rel => exact ⟨(x9_5), (wrap64 (x73_2 + 1)), (by first | rfl | (simp; done) | (simp [*]; done)), H', ⟨by have := HK1.out; have := HK2.out; have := HJ36.out; have := HK4.out; have := HK5.out; omega⟩, ⟨by (try simp only [hl9_1]); (try simp only [hl9_2]); (try simp only [hl9_4]); (try simp only [hl9_5]); (with_reducible repeat (first | apply Kd.S_alloc | apply Kd.S_drewN | apply Kd.S_drew)); exact HO_9.out⟩, ⟨by repeat (first | (with_reducible first | exact HB.out | apply below_alloc | apply pw_below_drewN | apply below_drew1) | exact HB.out)⟩⟩
               ·rw [if_neg c48] at H
                exact absurd H (by simp)
              ·rw [if_neg c46] at H
               exact absurd H (by simp)
             ·rw [if_neg c45] at H
              exact absurd H (by simp)
            ·rw [if_neg c44] at H
             exact absurd H (by simp)
        ·rw [if_neg c36] at H
         have c36b0 : decide (x73_2 < (l1.length : Int)) = false := decide_eq_false c36
         clear c36
         by_cases c85 : 0 ≤ (l1.length : Int)
         ·rw [if_pos c85] at H
          have c85b0 := eq_true c85
          have c85b1 : decide (0 ≤ (l1.length : Int)) = true := decide_eq_true c85
          clear c85
          by_cases c86 : (l1.length : Int) ≤ (x9_2.length : Int)
          ·rw [if_pos c86] at H
           have c86b0 := eq_true c86
           have c86b1 : decide ((l1.length : Int) ≤ (x9_2.length : Int)) = true := decide_eq_true c86
           clear c86
           obtain ⟨y182, hy182⟩ : ∃ y_ : List (List Int), y_ = (x9_2.drop ((l1.length : Int) : Int).toNat) := ⟨_, rfl⟩
           replace H : (impl_fill.l7 k2 l0 l1 (l1.length : Int) x9_2 y182 (y182.length : Int) 0) = some (r1, r2) := by first | (rw [hy182]; with_reducible exact H) | (have H2_ := (Option.bind_some _ _).symm.trans H; rw [hy182]; with_reducible exact H2_) | (have H2_ := (Option.bind_some _ _).symm.trans H; with_reducible exact H2_) | with_reducible exact H | (rw [hy182]; exact H) | exact H
           have Ny182 := Aside0.mk hy182
           clear hy182
           have H' := Aside0.mk H
           clear H
           have q87 : ((l1.length : Int) : Int) ≤ ((x9_2.length : Int) : Int) := of_decide_eq_true (by first | (with_reducible assumption) | assumption)
           obtain ⟨i087, hi087, _, hsz87, _⟩ := info_parts info24
           have hroom87 : x9_2.length ≤ co9 := (Kd.S_reads' HO_9.out).2.1
           have hC87 : Kd.C (Kd.slice 3 (Kd.int .i64)) _ Ao9 x9_2.length x9_2 := (Kd.S_reads' HO_9.out).2.2
           have q087 : (0 : Int) ≤ ((l1.length : Int) : Int) := of_decide_eq_true (by first | (with_reducible assumption) | assumption)
           have hcut87 := cut_from (P := Try.prog) 60 24 .i64 Try.underlying60 hi087 1 hsz87 Ao9 x9_2.length co9 (l1.length : Int) q087 q87
           have hr87 := Kd.C_drop (m := ((l1.length : Int) : Int).toNat) (c := co9) hC87 (by omega) hroom87
           obtain ⟨A87, hA87⟩ : ∃ A1, A1 = (if co9 = ((l1.length : Int) : Int).toNat then Ao9 else (Ao9 : Option Addr).map (·.add (((l1.length : Int) : Int).toNat * 1))) := ⟨_, rfl⟩
           obtain ⟨c87, hc87⟩ : ∃ c1, c1 = co9 - ((l1.length : Int) : Int).toNat := ⟨_, rfl⟩
           have hy87 : y182.length = x9_2.length - ((l1.length : Int) : Int).toNat := (by rw [Ny182.out, List.length_drop] <;> omega)
           rw [show (x9_2).drop ((l1.length : Int) : Int).toNat = y182 from Ny182.out.symm] at hr87
           replace hr87 : Kd.C (Kd.slice 3 (Kd.int .i64)) _ A87 y182.length y182 := (by rw [hA87]; exact hr87)
           rw [← hy87, ← hA87, ← hc87] at hcut87
           have HR185 := Aside0.mk hr87
           have HC185 := Aside0.mk (show y182.length ≤ c87 from by rw [hy87, hc87]; exact Nat.sub_le_sub_right hroom87 _)
           clear hr87 hC87 hroom87 hi087 hsz87 hc87
           have KY87 := Aside0.mk hy87
           have KA87 := Aside0.mk hA87
           clear hy87 hA87
           have KL87 := Aside0.mk (show ((l1.length : Int) : Int).toNat ≤ x9_2.length from by omega)
           replace q87 := eq_true q87
           go_wp2
           go_loopg [195] k2 (fun kq v195 w' => ∃ (x195_3 : Int), v195 = .int .i64 x195_3 ∧ Aside0 (impl_fill.l7 kq l0 l1 (l1.length : Int) x9_2 y182 (y182.length : Int) x195_3 = some (r1, r2)) ∧ Aside0 (kq ≤ k2) ∧ Aside0 (Kd.S (Kd.slice 3 (Kd.int .i64)) 24 w' w.heap.size (fun _ => True) (.slice Ao9 x9_2.length co9) x9_2) ∧ Aside0 (Kd.C (Kd.slice 3 (Kd.int .i64)) w' A87 y182.length y182) ∧ Aside0 (Below w.heap.size w w'))
           case atStart => exact ⟨(0), (by first | rfl | (simp; done) | (simp [*]; done)), H', ⟨Nat.le_refl _⟩, ⟨by (try simp only [hl9_1]); (try simp only [hl9_2]); (with_reducible repeat (first | apply Kd.S_alloc | apply Kd.S_drewN | apply Kd.S_drew)); exact HO_9.out⟩, ⟨by repeat (first | (with_reducible exact HR185.out) | (with_reducible refine Kd.C_alloc ?_ _) | (with_reducible refine Kd.C_drewN ?_ _) | (with_reducible refine Kd.C_drew ?_) | exact HR185.out)⟩, ⟨by repeat (first | (with_reducible first | exact HB.out | apply below_alloc | apply pw_below_drewN | apply below_drew1) | exact HB.out)⟩⟩
           case round => as_aux_lemma =>
            clear H'
            try clear c1
            try clear p1
            try clear q1
            try clear hx1
            try clear c2
            try clear p2
            try clear q2
            try clear hx2
            try clear c3
            try clear hx3
            try clear hf3
            try clear c4
            try clear p4
            try clear q4
            try clear hx4
            try clear qi4
            try clear hf4
            try clear c5
            try clear p5
            try clear q5
            try clear hx5
            try clear hf5
            try clear c6
            try clear p6
            try clear q6
            try clear c7
            try clear c8
            try clear p8
            try clear q8
            try clear hx8
            try clear hf8
            try clear c12
            try clear c12b0
            try clear c13
            try clear c13b0
            try clear c14
            try clear c14b0
            try clear p14
            try clear q14
            try clear hx14
            try clear c15
            try clear c15b0
            try clear p15
            try clear q15
            try clear hx15
            try clear c16
            try clear p16
            try clear q16
            try clear hx16
            try clear c17
            try clear p17
            try clear q17
            try clear hx17
            try clear p18
            try clear q18
            try clear c20
            try clear c22
            try clear hx22
            try clear hf22
            try clear c25
            try clear c25b0
            try clear c26
            try clear c26b0
            try clear c28
            try clear p29
            try clear q29
            try clear c31
            try clear c33
            try clear hx33
            try clear hf33
            try clear c35
            try clear c36
            try clear c36b0
            try clear c38
            try clear c38b0
            try clear c39
            try clear c39b0
            try clear c40
            try clear c40b0
            try clear c41
            try clear c41b0
            try clear c42
            try clear c42b0
            try clear c42b1
            try clear c43
            try clear c43b0
            try clear c43b1
            try clear c44
            try clear c44b0
            try clear c45
            try clear c45b0
            try clear c46
            try clear c46b0
            try clear c46b1
            try clear p47
            try clear q47
            try clear hx47
            try clear qi47
            try clear hf47
            try clear c48
            try clear c48b0
            try clear c50
            try clear q50
            try clear c52
            try clear c52b0
            try clear c53
            try clear c53b0
            try clear c54
            try clear c54b0
            try clear c55
            try clear c55b0
            try clear c56
            try clear c56b0
            try clear p58
            try clear q58
            try clear hx58
            try clear hf58
            try clear c60
            try clear q60
            try clear c62
            try clear c62b0
            try clear c63
            try clear c63b0
            try clear c64
            try clear c64b0
            try clear p64
            try clear c65
            try clear c65b0
            try clear c66
            try clear c66b0
            try clear c68
            try clear c68b0
            try clear c68b1
            try clear c69
            try clear c70
            try clear c70b0
            try clear c71
            try clear c71b0
            try clear c72
            try clear c72b0
            try clear c73
            try clear c73b0
            try clear c74
            try clear c74b0
            try clear c75
            try clear c75b0
            try clear c76
            try clear c76b0
            try clear c77
            try clear c77b0
            try clear c78
            try clear c78b0
            try clear c79
            try clear c79b0
            try clear p81
            try clear q81
            try clear hx81
            try clear hf81
            try clear c83
            try clear q83
            try clear c85
            try clear c85b0
            try clear c85b1
            try clear c86
            try clear c86b0
            try clear c86b1
            try clear c87
            try clear q87
            try clear hx141_0
            try clear hx142_0
            try clear hx148_0
            try clear hx154_0
            try clear hx155_0
            try clear hx156_0
            try clear hx160_0
            try clear hx161_0
            try clear hx163_0
            try clear hx164_0
            try clear hx165_0
            try clear hx166_0
            try clear hx171_0
            try clear hx172_0
            try clear hx173_0
            try clear hx174_0
            try clear hx175_0
            try clear hx176_0
            try clear hx177_0
            try clear hx22_0
            try clear hx33_0
            try clear hx47_0
            try clear hx58_0
            try clear hx81_0
            try clear p1
            try clear p14
            try clear p141
            try clear p142
            try clear p148
            try clear p15
            try clear p154
            try clear p155
            try clear p156
            try clear p16
            try clear p160
            try clear p161
            try clear p163
            try clear p164
            try clear p165
            try clear p166
            try clear p17
            try clear p171
            try clear p172
            try clear p173
            try clear p174
            try clear p175
            try clear p176
            try clear p177
            try clear p18
            try clear p2
            try clear p29
            try clear p4
            try clear p47
            try clear p5
            try clear p58
            try clear p6
            try clear p64
            try clear p81
            try clear q087
            try clear q1
            try clear q14
            try clear q141
            try clear q142
            try clear q148
            try clear q15
            try clear q154
            try clear q155
            try clear q156
            try clear q16
            try clear q160
            try clear q161
            try clear q163
            try clear q164
            try clear q165
            try clear q166
            try clear q17
            try clear q171
            try clear q172
            try clear q173
            try clear q174
            try clear q175
            try clear q176
            try clear q177
            try clear q18
            try clear q2
            try clear q29
            try clear q4
            try clear q47
            try clear q5
            try clear q50
            try clear q58
            try clear q6
            try clear q60
            try clear q81
            try clear q87
            obtain ⟨x195_3, rfl, HA, HK3, HO_9, HR185, HB⟩ := hrel
            cases gk with
            | zero => exact absurd HA.out (by simp [impl_fill.l7])
            | succ k3 =>
             have H := HA.out
             clear HA
             simp only [impl_fill.l7] at H
             by_cases c88 : x195_3 < (y182.length : Int)
             ·rw [if_pos c88] at H
              have c88b0 : decide (x195_3 < (y182.length : Int)) = true := decide_eq_true c88
              clear c88
              by_cases c89 : 0 ≤ x195_3
              ·rw [if_pos c89] at H
               have c89b0 : decide (0 ≤ x195_3) = true := decide_eq_true c89
               clear c89
               by_cases c90 : x195_3 < (y182.length : Int)
               ·rw [if_pos c90] at H
                have c90b0 : decide (x195_3 < (y182.length : Int)) = true := decide_eq_true c90
                clear c90
                by_cases c91 : 0 ≤ (l1.length : Int)
                ·rw [if_pos c91] at H
                 have c91b0 : decide (0 ≤ (l1.length : Int)) = true := decide_eq_true c91
                 have c91b1 : decide (0 ≤ l1.length) = true := decide_eq_true (by omega)
                 clear c91
                 by_cases c92 : (l1.length : Int) < ((rd_L2 y182 x195_3).length : Int)
                 ·rw [if_pos c92] at H
                  have c92b0 : decide ((l1.length : Int) < ((rd_L2 y182 x195_3).length : Int)) = true := decide_eq_true c92
                  have c92b1 : decide (l1.length < (rd_L2 y182 x195_3).length) = true := decide_eq_true (Int.ofNat_lt.mp c92)
                  clear c92
                  by_cases c93 : (rd (rd_L2 y182 x195_3) (l1.length : Int)) = 0
                  ·rw [if_pos c93] at H
                   have c93b0 : ((rd (rd_L2 y182 x195_3) (l1.length : Int)) == 0) = true := beq_iff_eq.mpr c93
                   have c93b1 : ((rd (rd_L2 y182 x195_3) (l1.length : Int)) != 0) = false := bne_eq_false_iff_eq.mpr c93
                   clear c93
                   have H' := Aside0.mk H
                   clear H
                   have p186 : 0 ≤ (x195_3 : Int) := of_decide_eq_true (by first | (with_reducible assumption) | assumption)
                   have q186 : x195_3 < (y182.length : Int) := of_decide_eq_true (by first | (with_reducible assumption) | assumption)
                   obtain ⟨ad186, A186_0, c186_0, e186, hx186_0, hl186_0, hi186_0⟩ := at_L2 HR185.out x195_3 p186 q186
                   cases e186
                   (first | (replace hx186_0 := (HB.out.cell (World.block_lt_of_cell? w _ hx186_0)).trans hx186_0) | skip)
                   have HR186_0 := Aside0.mk hi186_0
                   have HC186_0 := Aside0.mk hl186_0
                   clear hi186_0 hl186_0
                   replace p186 := eq_true p186
                   replace q186 := eq_true q186
                   have p187 : 0 ≤ ((l1.length : Int) : Int) := of_decide_eq_true (by first | (with_reducible assumption) | assumption)
                   have q187 : (l1.length : Int) < ((rd_L2 y182 x195_3).length : Int) := of_decide_eq_true (by first | (with_reducible assumption) | assumption)
                   obtain ⟨ad187, e187, hx187_0⟩ := Kd.at_int HR186_0.out (l1.length : Int) p187 q187
                   cases e187
                   (first | (replace hx187_0 := (HB.out.cell (World.block_lt_of_cell? w _ hx187_0)).trans hx187_0) | skip)
                   (try simp only [Go.IntWalk.toNatUp] at hx187_0)
                   (try simp only [hl9_1, hl9_2] at p187)
                   (try simp only [hl9_1, hl9_2] at q187)
                   (try simp only [hl9_1, hl9_2] at hx187_0)
                   replace p187 := eq_true p187
                   replace q187 := eq_true q187
                   go_wp2
                   go_roundg k3
                   case measure => have := HK1.out; have := HK2.out; have := HK3.out; omega
                   case rel => exact ⟨(wrap64 (x195_3 + 1)), (by first | rfl | (simp; done) | (simp [*]; done)), H', ⟨by have := HK1.out; have := HK2.out; have := HK3.out; omega⟩, ⟨by (try simp only [hl9_1]); (try simp only [hl9_2]); (with_reducible repeat (first | apply Kd.S_alloc | apply Kd.S_drewN | apply Kd.S_drew)); exact HO_9.out⟩, ⟨by repeat (first | (with_reducible exact HR185.out) | (with_reducible refine Kd.C_alloc ?_ _) | (with_reducible refine Kd.C_drewN ?_ _) | (with_reducible refine Kd.C_drew ?_) | exact HR185.out)⟩, ⟨by repeat (first | (with_reducible first | exact HB.out | apply below_alloc | apply pw_below_drewN | apply below_drew1) | exact HB.out)⟩⟩
                  ·rw [if_neg c93] at H
                   have c93b0 : ((rd (rd_L2 y182 x195_3) (l1.length : Int)) == 0) = false := beq_eq_false_iff_ne.mpr c93
                   have c93b1 : ((rd (rd_L2 y182 x195_3) (l1.length : Int)) != 0) = true := bne_iff_ne.mpr c93
                   simp only [Option.some.injEq, Prod.mk.injEq] at H
                   obtain ⟨rfl, rfl⟩ := H
                   have p186 : 0 ≤ (x195_3 : Int) := of_decide_eq_true (by first | (with_reducible assumption) | assumption)
                   have q186 : x195_3 < (y182.length : Int) := of_decide_eq_true (by first | (with_reducible assumption) | assumption)
                   obtain ⟨ad186, A186_0, c186_0, e186, hx186_0, hl186_0, hi186_0⟩ := at_L2 HR185.out x195_3 p186 q186
                   cases e186
                   (first | (replace hx186_0 := (HB.out.cell (World.block_lt_of_cell? w _ hx186_0)).trans hx186_0) | skip)
                   have HR186_0 := Aside0.mk hi186_0
                   have HC186_0 := Aside0.mk hl186_0
                   clear hi186_0 hl186_0
                   replace p186 := eq_true p186
                   replace q186 := eq_true q186
                   have p187 : 0 ≤ ((l1.length : Int) : Int) := of_decide_eq_true (by first | (with_reducible assumption) | assumption)
                   have q187 : (l1.length : Int) < ((rd_L2 y182 x195_3).length : Int) := of_decide_eq_true (by first | (with_reducible assumption) | assumption)
                   obtain ⟨ad187, e187, hx187_0⟩ := Kd.at_int HR186_0.out (l1.length : Int) p187 q187
                   cases e187
                   (first | (replace hx187_0 := (HB.out.cell (World.block_lt_of_cell? w _ hx187_0)).trans hx187_0) | skip)
                   (try simp only [Go.IntWalk.toNatUp] at hx187_0)
                   (try simp only [hl9_1, hl9_2] at p187)
                   (try simp only [hl9_1, hl9_2] at q187)
                   (try simp only [hl9_1, hl9_2] at hx187_0)
                   replace p187 := eq_true p187
                   replace q187 := eq_true q187
                   go_wp2
                   go_ret2
                   exact ⟨_, by first | rfl | (simp [errW_none, errW_some] <;> rfl) | (simp only [← hji4]; first | rfl | (simp [errW_none, errW_some] <;> rfl)) | (simp [*, errW_none, errW_some] <;> rfl), by first | exact Kd.R_nil _ _ _ _ _ | exact Kd.N_nil _ _ _ _ _ | exact Kd.V_nil _ _ _ _ _ | exact Kd.Q_nil _ _ _ _ _ | exact Kd.S_nil _ _ _ _ _, by repeat (first | (with_reducible first | exact HB.out | apply below_alloc | apply pw_below_drewN | apply below_drew1) | exact HB.out)⟩
                 ·rw [if_neg c92] at H
                  exact absurd H (by simp)
                ·rw [if_neg c91] at H
                 exact absurd H (by simp)
               ·rw [if_neg c90] at H
                exact absurd H (by simp)
              ·rw [if_neg c89] at H
               exact absurd H (by simp)
             ·rw [if_neg c88] at H
              have c88b0 : decide (x195_3 < (y182.length : Int)) = false := decide_eq_false c88
              clear c88
              replace H := Option.bind_eq_some_iff.mp H
              obtain ⟨t188, A940, H⟩ := H
              replace H : (impl_fill.l8 k3 (l1.length : Int) x9_2 t188 l1 (l1.length : Int) 0) = some (r1, r2) := H
              have A94 := Aside0.mk A940
              clear A940
              have H' := Aside0.mk H
              clear H
              go_wp2_with (first | ((with_reducible refine gate_callee (f := 36) rfl ?_); refine goesL_ (some 206) rfl rfl Try.func36 (by kernel_rfl) rfl #[.slice A0 l0.length c0] rfl (by (try simp only [List.map_toArray, List.map_cons, List.map_nil]); first | done | rfl | (simp only [List.length_drop, List.length_take]; rfl)) ?_; (with_reducible refine (slices_Clone_byte_byte.calls _ _ l0 t188 _ ?side1 ?side2 A94.out).mono ?_); (case side1 => repeat (first | exact (Kd.C_below HR0.out HB.out) | (with_reducible refine Kd.C_alloc ?_ _) | (with_reducible refine Kd.C_drewN ?_ _) | (with_reducible refine Kd.C_drew ?_))); (case side2 => exact HC0.out); rintro e w95 ⟨v189, rfl, ho0, hb⟩; refine ⟨_, rfl, ?_⟩; have n0_ := Aside0.mk (Kd.S_below (by (with_reducible repeat (first | apply Kd.S_alloc | apply Kd.S_drewN | apply Kd.S_drew)); exact HO_9.out) hb); have n1_ := Aside0.mk (Kd.R_lower ho0 (below_size (by repeat (first | (with_reducible first | exact HB.out | apply below_alloc | apply pw_below_drewN | apply below_drew1) | exact HB.out)))); have n2_ := Aside0.mk (Kd.C_below (by repeat (first | (with_reducible exact HR185.out) | (with_reducible refine Kd.C_alloc ?_ _) | (with_reducible refine Kd.C_drewN ?_ _) | (with_reducible refine Kd.C_drew ?_) | exact HR185.out)) hb); have n3_ := Aside0.mk (below_step (by repeat (first | (with_reducible first | exact HB.out | apply below_alloc | apply pw_below_drewN | apply below_drew1) | exact HB.out)) hb); clear HO_9; clear HR185; clear HB; have HO_9 := n0_; have HO190 := n1_; have HR185 := n2_; have HB := n3_; clear n0_ n1_ n2_ n3_; (try clear hb); (try clear hb2); (try clear hk); (try clear hi); (try clear ho0)))
              go_loopg [209] k3 (fun kq v209 w' => ∃ (x22_4 : List Int) (x209_4 : Int), v209 = .int .i64 x209_4 ∧ Aside0 (impl_fill.l8 kq (l1.length : Int) x9_2 x22_4 l1 (l1.length : Int) x209_4 = some (r1, r2)) ∧ Aside0 (kq ≤ k3) ∧ Aside0 (Kd.S (Kd.slice 3 (Kd.int .i64)) 24 w' w.heap.size (fun _ => True) (.slice Ao9 x9_2.length co9) x9_2) ∧ Aside0 (Kd.R (Kd.int .u8) 5 w' w.heap.size (fun _ => True) v189 x22_4) ∧ Aside0 (Below w.heap.size w w'))
              case atStart => exact ⟨(t188), (0), (by first | rfl | (simp; done) | (simp [*]; done)), H', ⟨Nat.le_refl _⟩, ⟨by (try simp only [hl9_1]); (try simp only [hl9_2]); (with_reducible repeat (first | apply Kd.S_alloc | apply Kd.S_drewN | apply Kd.S_drew)); exact HO_9.out⟩, ⟨by (try simp only [hl9_1]); (try simp only [hl9_2]); (with_reducible repeat (first | apply Kd.R_alloc | apply Kd.R_drewN | apply Kd.R_drew)); exact HO190.out⟩, ⟨by repeat (first | (with_reducible first | exact HB.out | apply below_alloc | apply pw_below_drewN | apply below_drew1) | exact HB.out)⟩⟩
              case round => as_aux_lemma =>
               clear H'
               try clear c1
               try clear p1
               try clear q1
               try clear hx1
               try clear c2
               try clear p2
               try clear q2
               try clear hx2
               try clear c3
               try clear hx3
               try clear hf3
               try clear c4
               try clear p4
               try clear q4
               try clear hx4
               try clear qi4
               try clear hf4
               try clear c5
               try clear p5
               try clear q5
               try clear hx5
               try clear hf5
               try clear c6
               try clear p6
               try clear q6
               try clear c7
               try clear c8
               try clear p8
               try clear q8
               try clear hx8
               try clear hf8
               try clear c9
               try clear c12
               try clear c12b0
               try clear c13
               try clear c13b0
               try clear c14
               try clear c14b0
               try clear p14
               try clear q14
               try clear hx14
               try clear c15
               try clear c15b0
               try clear p15
               try clear q15
               try clear hx15
               try clear c16
               try clear p16
               try clear q16
               try clear hx16
               try clear c17
               try clear p17
               try clear q17
               try clear hx17
               try clear c18
               try clear p18
               try clear q18
               try clear hx18
               try clear c20
               try clear c22
               try clear hx22
               try clear hf22
               try clear c25
               try clear c25b0
               try clear c26
               try clear c26b0
               try clear c28
               try clear p29
               try clear q29
               try clear c31
               try clear c33
               try clear hx33
               try clear hf33
               try clear c35
               try clear c36
               try clear c36b0
               try clear c38
               try clear c38b0
               try clear c39
               try clear c39b0
               try clear c40
               try clear c40b0
               try clear c41
               try clear c41b0
               try clear c42
               try clear c42b0
               try clear c42b1
               try clear c43
               try clear c43b0
               try clear c43b1
               try clear c44
               try clear c44b0
               try clear c45
               try clear c45b0
               try clear c46
               try clear c46b0
               try clear c46b1
               try clear p47
               try clear q47
               try clear hx47
               try clear qi47
               try clear hf47
               try clear c48
               try clear c48b0
               try clear c50
               try clear q50
               try clear c52
               try clear c52b0
               try clear c53
               try clear c53b0
               try clear c54
               try clear c54b0
               try clear c55
               try clear c55b0
               try clear c56
               try clear c56b0
               try clear p58
               try clear q58
               try clear hx58
               try clear hf58
               try clear c60
               try clear q60
               try clear c62
               try clear c62b0
               try clear c63
               try clear c63b0
               try clear c64
               try clear c64b0
               try clear p64
               try clear c65
               try clear c65b0
               try clear c66
               try clear c66b0
               try clear c68
               try clear c68b0
               try clear c68b1
               try clear c69
               try clear c70
               try clear c70b0
               try clear c71
               try clear c71b0
               try clear c72
               try clear c72b0
               try clear c73
               try clear c73b0
               try clear c74
               try clear c74b0
               try clear c75
               try clear c75b0
               try clear c76
               try clear c76b0
               try clear c77
               try clear c77b0
               try clear c78
               try clear c78b0
               try clear c79
               try clear c79b0
               try clear p81
               try clear q81
               try clear hx81
               try clear hf81
               try clear c83
               try clear q83
               try clear c85
               try clear c85b0
               try clear c85b1
               try clear c86
               try clear c86b0
               try clear c86b1
               try clear c87
               try clear q87
               try clear c88
               try clear c88b0
               try clear c89
               try clear c89b0
               try clear c90
               try clear c90b0
               try clear c91
               try clear c91b0
               try clear c91b1
               try clear c92
               try clear c92b0
               try clear c92b1
               try clear c93
               try clear c93b0
               try clear c93b1
               try clear hx141_0
               try clear hx142_0
               try clear hx148_0
               try clear hx154_0
               try clear hx155_0
               try clear hx156_0
               try clear hx160_0
               try clear hx161_0
               try clear hx163_0
               try clear hx164_0
               try clear hx165_0
               try clear hx166_0
               try clear hx171_0
               try clear hx172_0
               try clear hx173_0
               try clear hx174_0
               try clear hx175_0
               try clear hx176_0
               try clear hx177_0
               try clear hx186_0
               try clear hx187_0
               try clear hx22_0
               try clear hx33_0
               try clear hx47_0
               try clear hx58_0
               try clear hx81_0
               try clear p1
               try clear p14
               try clear p141
               try clear p142
               try clear p148
               try clear p15
               try clear p154
               try clear p155
               try clear p156
               try clear p16
               try clear p160
               try clear p161
               try clear p163
               try clear p164
               try clear p165
               try clear p166
               try clear p17
               try clear p171
               try clear p172
               try clear p173
               try clear p174
               try clear p175
               try clear p176
               try clear p177
               try clear p18
               try clear p186
               try clear p187
               try clear p2
               try clear p29
               try clear p4
               try clear p47
               try clear p5
               try clear p58
               try clear p6
               try clear p64
               try clear p8
               try clear p81
               try clear q087
               try clear q1
               try clear q14
               try clear q141
               try clear q142
               try clear q148
               try clear q15
               try clear q154
               try clear q155
               try clear q156
               try clear q16
               try clear q160
               try clear q161
               try clear q163
               try clear q164
               try clear q165
               try clear q166
               try clear q17
               try clear q171
               try clear q172
               try clear q173
               try clear q174
               try clear q175
               try clear q176
               try clear q177
               try clear q18
               try clear q186
               try clear q187
               try clear q2
               try clear q29
               try clear q4
               try clear q47
               try clear q5
               try clear q50
               try clear q58
               try clear q6
               try clear q60
               try clear q8
               try clear q81
               try clear q83
               try clear q87
               obtain ⟨x22_4, x209_4, rfl, HA, HK4, HO_9, HO_22, HB⟩ := hrel
               cases gk with
               | zero => exact absurd HA.out (by simp [impl_fill.l8])
               | succ k4 =>
                have H := HA.out
                clear HA
                simp only [impl_fill.l8] at H
                by_cases c96 : x209_4 < (l1.length : Int)
                ·rw [if_pos c96] at H
                 have c96b0 : decide (x209_4 < (l1.length : Int)) = true := decide_eq_true c96
                 clear c96
                 by_cases c97 : 0 ≤ x209_4
                 ·rw [if_pos c97] at H
                  have c97b0 : decide (0 ≤ x209_4) = true := decide_eq_true c97
                  clear c97
                  by_cases c98 : x209_4 < (l1.length : Int)
                  ·rw [if_pos c98] at H
                   have c98b0 : decide (x209_4 < (l1.length : Int)) = true := decide_eq_true c98
                   clear c98
                   by_cases c99 : 0 ≤ (rd l1 x209_4)
                   ·rw [if_pos c99] at H
                    have c99b0 : decide (0 ≤ (rd l1 x209_4)) = true := decide_eq_true c99
                    clear c99
                    by_cases c100 : (rd l1 x209_4) < (x22_4.length : Int)
                    ·rw [if_pos c100] at H
                     have c100b0 : decide ((rd l1 x209_4) < (x22_4.length : Int)) = true := decide_eq_true c100
                     clear c100
                     by_cases c101 : x209_4 < (x9_2.length : Int)
                     ·rw [if_pos c101] at H
                      have c101b0 : decide (x209_4 < (x9_2.length : Int)) = true := decide_eq_true c101
                      clear c101
                      by_cases c102 : 0 ≤ (l1.length : Int)
                      ·rw [if_pos c102] at H
                       have c102b0 : decide (0 ≤ (l1.length : Int)) = true := decide_eq_true c102
                       have c102b1 : decide (0 ≤ l1.length) = true := decide_eq_true (by omega)
                       clear c102
                       by_cases c103 : (l1.length : Int) < ((rd_L2 x9_2 x209_4).length : Int)
                       ·rw [if_pos c103] at H
                        have c103b0 : decide ((l1.length : Int) < ((rd_L2 x9_2 x209_4).length : Int)) = true := decide_eq_true c103
                        have c103b1 : decide (l1.length < (rd_L2 x9_2 x209_4).length) = true := decide_eq_true (Int.ofNat_lt.mp c103)
                        clear c103
                        obtain ⟨y195, hy195⟩ : ∃ y_ : List Int, y_ = (x22_4.set ((rd l1 x209_4) : Int).toNat (Go.bits .xor .u8 (rd x22_4 (rd l1 x209_4)) ((rd (rd_L2 x9_2 x209_4) (l1.length : Int)) % 256))) := ⟨_, rfl⟩
                        replace H : (impl_fill.l8 k4 (l1.length : Int) x9_2 y195 l1 (l1.length : Int) (wrap64 (x209_4 + 1))) = some (r1, r2) := by first | (rw [hy195]; with_reducible exact H) | (have H2_ := (Option.bind_some _ _).symm.trans H; rw [hy195]; with_reducible exact H2_) | (have H2_ := (Option.bind_some _ _).symm.trans H; with_reducible exact H2_) | with_reducible exact H | (rw [hy195]; exact H) | exact H
                        have Ny195 := Aside0.mk hy195
                        clear hy195
                        have H' := Aside0.mk H
                        clear H
                        have p191 : 0 ≤ (x209_4 : Int) := of_decide_eq_true (by first | (with_reducible assumption) | assumption)
                        have q191 : x209_4 < (l1.length : Int) := of_decide_eq_true (by first | (with_reducible assumption) | assumption)
                        obtain ⟨ad191, e191, hx191_0⟩ := Kd.at_int HR1.out x209_4 p191 q191
                        cases e191
                        (first | (replace hx191_0 := (HB.out.cell (World.block_lt_of_cell? w _ hx191_0)).trans hx191_0) | skip)
                        replace p191 := eq_true p191
                        replace q191 := eq_true q191
                        try go_wp2
                        have n0_ := Aside0.mk (Kd.S_drew HO_9.out)
                        have n1_ := Aside0.mk (Kd.R_drew HO_22.out)
                        have n2_ := Aside0.mk (below_drew1 HB.out)
                        clear HO_9
                        clear HO_22
                        clear HB
                        have HO_9 := n0_
                        have HO_22 := n1_
                        have HB := n2_
                        clear n0_ n1_ n2_
                        obtain ⟨Ao106, co106, eo106⟩ := Kd.R_slice HO_22.out
                        (first | subst eo106 | (injection eo106 with f1_ f2_ f3_; have f4_ := f1_.symm; have f5_ := f3_.symm; clear f1_ f2_ f3_; subst f4_; subst f5_))
                        have p192 : 0 ≤ ((rd l1 x209_4) : Int) := of_decide_eq_true (by first | (with_reducible assumption) | assumption)
                        have q192 : (rd l1 x209_4) < (x22_4.length : Int) := of_decide_eq_true (by first | (with_reducible assumption) | assumption)
                        obtain ⟨ad192, e192, hx192_0⟩ := Kd.at_int (Kd.R_reads' HO_22.out).2.2 (rd l1 x209_4) p192 q192
                        cases e192
                        replace p192 := eq_true p192
                        replace q192 := eq_true q192
                        have p193 : 0 ≤ (x209_4 : Int) := of_decide_eq_true (by first | (with_reducible assumption) | assumption)
                        have q193 : x209_4 < (x9_2.length : Int) := of_decide_eq_true (by first | (with_reducible assumption) | assumption)
                        obtain ⟨ad193, A193_0, c193_0, e193, hx193_0, hl193_0, hi193_0⟩ := at_L2 (Kd.S_reads' HO_9.out).2.2 x209_4 p193 q193
                        cases e193
                        obtain ⟨ce193, hce193, hMe193, hcc193⟩ := Kd.S_get HO_9.out [] x209_4 p193 (by first | exact q193 | exact of_decide_eq_true (by first | (with_reducible assumption) | assumption) | (have e_ := (Kd.S_reads' HO_9.out).1; omega))
                        obtain ⟨ve193_0, rfl, ge193_0⟩ := hMe193
                        have hv193_0 := hcc193 0 _ rfl
                        rw [Nat.add_zero, show ((Kd.slice 3 (Kd.int .i64))).sz = 1 from rfl, Nat.mul_one] at hv193_0
                        replace hv193_0 := Option.some.inj (hv193_0.symm.trans hx193_0)
                        rw [hv193_0] at ge193_0
                        have HL193_0 := Aside0.mk (show Kd.R (Kd.int .i64) 3 _ _ _ _ (rd_L2 x9_2 x209_4) from ge193_0)
                        clear hv193_0 ge193_0
                        have HX193_0 := Aside0.mk hx193_0
                        clear hcc193 hce193
                        have HR193_0 := Aside0.mk hi193_0
                        have HC193_0 := Aside0.mk hl193_0
                        clear hi193_0 hl193_0
                        replace p193 := eq_true p193
                        replace q193 := eq_true q193
                        have p194 : 0 ≤ ((l1.length : Int) : Int) := of_decide_eq_true (by first | (with_reducible assumption) | assumption)
                        have q194 : (l1.length : Int) < ((rd_L2 x9_2 x209_4).length : Int) := of_decide_eq_true (by first | (with_reducible assumption) | assumption)
                        obtain ⟨ad194, e194, hx194_0⟩ := Kd.at_int (by repeat (first | (with_reducible exact HR193_0.out) | (with_reducible refine Kd.C_alloc ?_ _) | (with_reducible refine Kd.C_drewN ?_ _) | (with_reducible refine Kd.C_drew ?_) | exact HR193_0.out)) (l1.length : Int) p194 q194
                        cases e194
                        (try simp only [Go.IntWalk.toNatUp] at hx194_0)
                        (try simp only [hl9_1, hl9_2] at p194)
                        (try simp only [hl9_1, hl9_2] at q194)
                        (try simp only [hl9_1, hl9_2] at hx194_0)
                        replace p194 := eq_true p194
                        replace q194 := eq_true q194
                        have p104 : 0 ≤ ((rd l1 x209_4) : Int) := of_decide_eq_true (by first | (with_reducible assumption) | assumption)
                        have q104 : ((rd l1 x209_4) : Int) < ((x22_4.length : Int) : Int) := of_decide_eq_true (by first | (with_reducible assumption) | assumption)
                        obtain ⟨go104, co104, eo104, gb104, gl104, cl104, HG104⟩ := Kd.R_form HO_22.out (by omega)
                        (first | cases eo104 | (injection eo104 with ea_ en_ ec_; (first | subst ea_ | (injection ea_ with ea_; subst ea_)); subst ec_; clear en_))
                        have GB104 := Aside0.mk gb104
                        have GG104 := Aside0.mk HG104
                        clear gb104 gl104 HG104
                        (first | simp only [add_plain] at hx192_0 | skip)
                        obtain ⟨hx104_0, hf104_0⟩ := Kd.R_celln 0 HO_22.out ((rd l1 x209_4) : Int) p104 q104
                        replace p104 := eq_true p104
                        replace q104 := eq_true q104
                        have HP107 := Kd.R_putn HO_22.out ((rd l1 x209_4) : Int) (Go.bits .xor .u8 (rd x22_4 (rd l1 x209_4)) ((rd (rd_L2 x9_2 x209_4) (l1.length : Int)) % 256))
                        rw [← Ny195.out] at HP107
                        have HQ107 := Aside0.mk HP107
                        clear HP107
                        refine start_ (n := 15) (S := fun w' => w'.cell? ⟨go104, ((rd l1 x209_4)).toNat, none⟩ = some (.int .u8 (rd x22_4 (rd l1 x209_4))) ∧ w'.cell? (ad193.add (x209_4).toNat) = some (.slice (some ad194) (rd_L2 x9_2 x209_4).length c193_0) ∧ w'.cell? (ad194.add l1.length) = some (.int .i64 (rd (rd_L2 x9_2 x209_4) (l1.length : Int)))) (ds := [14]) impl_fill.mk_79 (by kernel_rfl) rfl rfl ⟨hx192_0, hx193_0, hx194_0⟩ (fun hHeld => ?_); refine with_tabW impl_fill.tab50 impl_fill.bits50 (fun HT_ HW_ => ?_)
                        generalize wr.drew = w105 at HO_9 HO_22 HB GG104 HL193_0 HQ107 HR193_0 HX193_0 hf104_0 hx104_0 hx192_0 hx193_0 hx194_0 hHeld ⊢
                        refine pure_ (i := 0) (N := some 214) (v := ?_) (a' := ?_) impl_fill.mk_80 rfl rfl (any_of HT_.out (by kernel_rfl)) (fun _ _ _ h => h) (Or.inl ⟨by rfl, ?_⟩) ?_ ?_
                        rotate_left
                        ·intro w'
                         go_simp
                         with_reducible rfl
                        rotate_left
                        ·simp only [Act.put, List.setIfInBounds_toArray, List.set_cons_zero, List.set_cons_succ, i64_w, i32_w]
                         rfl
                        refine pure_ (i := 1) (N := some 215) (v := ?_) (a' := ?_) impl_fill.mk_81 rfl rfl (any_of HT_.out (by kernel_rfl)) (fun _ _ _ h => h) (Or.inl ⟨by rfl, ?_⟩) ?_ ?_
                        rotate_left
                        ·intro w'
                         go_simp
                         with_reducible rfl
                        rotate_left
                        ·simp only [Act.put, List.setIfInBounds_toArray, List.set_cons_zero, List.set_cons_succ, i64_w, i32_w]
                         rfl
                        refine pure_ (i := 2) (N := some 216) (v := ?_) (a' := ?_) impl_fill.mk_82 rfl rfl (any_of HT_.out (by kernel_rfl)) (fun _ _ _ h => h) (Or.inl ⟨by rfl, ?_⟩) ?_ ?_
                        rotate_left
                        ·intro w'
                         go_simp
                         with_reducible rfl
                        rotate_left
                        ·simp only [Act.put, List.setIfInBounds_toArray, List.set_cons_zero, List.set_cons_succ, i64_w, i32_w]
                         rfl
                        refine pure_ (i := 4) (N := some 218) (v := ?_) (a' := ?_) impl_fill.mk_83 rfl rfl (any_of HT_.out (by kernel_rfl)) (fun _ _ _ h => h) (Or.inl ⟨by rfl, ?_⟩) ?_ ?_
                        rotate_left
                        ·intro w'
                         go_simp
                         with_reducible rfl
                        rotate_left
                        ·simp only [Act.put, List.setIfInBounds_toArray, List.set_cons_zero, List.set_cons_succ, i64_w, i32_w]
                         rfl
                        refine pure_ (i := 5) (N := some 219) (v := ?_) (a' := ?_) impl_fill.mk_84 rfl rfl (any_of HT_.out (by kernel_rfl)) (fun _ _ _ h => h) (Or.inl ⟨by rfl, ?_⟩) ?_ ?_
                        rotate_left
                        ·intro w'
                         go_simp
                         with_reducible rfl
                        rotate_left
                        ·simp only [Act.put, List.setIfInBounds_toArray, List.set_cons_zero, List.set_cons_succ, i64_w, i32_w]
                         rfl
                        refine pure_ (i := 6) (N := some 220) (v := ?_) (a' := ?_) impl_fill.mk_85 rfl rfl (any_of HT_.out (by kernel_rfl)) (fun _ _ _ h => h) (Or.inl ⟨by rfl, ?_⟩) ?_ ?_
                        rotate_left
                        ·intro w'
                         go_simp
                         with_reducible rfl
                        rotate_left
                        ·simp only [Act.put, List.setIfInBounds_toArray, List.set_cons_zero, List.set_cons_succ, i64_w, i32_w]
                         rfl
                        refine pure_ (i := 8) (N := some 222) (v := ?_) (a' := ?_) impl_fill.mk_86 rfl rfl (any_of HT_.out (by kernel_rfl)) (fun _ _ _ h => h) (Or.inl ⟨by rfl, ?_⟩) ?_ ?_
                        rotate_left
                        ·intro w'
                         go_simp
                         with_reducible rfl
                        rotate_left
                        ·simp only [Act.put, List.setIfInBounds_toArray, List.set_cons_zero, List.set_cons_succ, i64_w, i32_w]
                         rfl
                        refine take_ (i := 3) (N := some 217) (v := ?_) (a' := ?_) impl_fill.mk_87 rfl rfl (take_ofW HT_.out HW_.out (by kernel_rfl)) (fun _ _ _ h => h) (Or.inl ⟨by rfl, ?_⟩) hHeld ?_ ?_
                        rotate_left
                        ·rintro w' ⟨s0, s1, s2⟩
                         go_simp
                         with_reducible rfl
                        rotate_left
                        ·simp only [Act.put, List.setIfInBounds_toArray, List.set_cons_zero, List.set_cons_succ, i64_w, i32_w]
                         rfl
                        refine take_ (i := 7) (N := some 221) (v := ?_) (a' := ?_) impl_fill.mk_88 rfl rfl (take_ofW HT_.out HW_.out (by kernel_rfl)) (fun _ _ _ h => h) (Or.inl ⟨by rfl, ?_⟩) hHeld ?_ ?_
                        rotate_left
                        ·rintro w' ⟨s0, s1, s2⟩
                         go_simp
                         with_reducible rfl
                        rotate_left
                        ·simp only [Act.put, List.setIfInBounds_toArray, List.set_cons_zero, List.set_cons_succ, i64_w, i32_w]
                         rfl
                        refine pure_ (i := 9) (N := some 223) (v := ?_) (a' := ?_) impl_fill.mk_89 rfl rfl (any_of HT_.out (by kernel_rfl)) (fun _ _ _ h => h) (Or.inl ⟨by rfl, ?_⟩) ?_ ?_
                        rotate_left
                        ·intro w'
                         go_simp
                         with_reducible rfl
                        rotate_left
                        ·simp only [Act.put, List.setIfInBounds_toArray, List.set_cons_zero, List.set_cons_succ, i64_w, i32_w]
                         rfl
                        refine take_ (i := 10) (N := some 224) (v := ?_) (a' := ?_) impl_fill.mk_90 rfl rfl (take_ofW HT_.out HW_.out (by kernel_rfl)) (fun _ _ _ h => h) (Or.inl ⟨by rfl, ?_⟩) hHeld ?_ ?_
                        rotate_left
                        ·rintro w' ⟨s0, s1, s2⟩
                         go_simp
                         with_reducible rfl
                        rotate_left
                        ·simp only [Act.put, List.setIfInBounds_toArray, List.set_cons_zero, List.set_cons_succ, i64_w, i32_w]
                         rfl
                        refine pure_ (i := 11) (N := some 225) (v := ?_) (a' := ?_) impl_fill.mk_91 rfl rfl (any_of HT_.out (by kernel_rfl)) (fun _ _ _ h => h) (Or.inl ⟨by rfl, ?_⟩) ?_ ?_
                        rotate_left
                        ·intro w'
                         go_simp
                         with_reducible rfl
                        rotate_left
                        ·simp only [Act.put, List.setIfInBounds_toArray, List.set_cons_zero, List.set_cons_succ, i64_w, i32_w]
                         rfl
                        refine pure_ (i := 12) (N := some 226) (v := ?_) (a' := ?_) impl_fill.mk_92 rfl rfl (any_of HT_.out (by kernel_rfl)) (fun _ _ _ h => h) (Or.inl ⟨by rfl, ?_⟩) ?_ ?_
                        rotate_left
                        ·intro w'
                         go_simp
                         with_reducible rfl
                        rotate_left
                        ·simp only [Act.put, List.setIfInBounds_toArray, List.set_cons_zero, List.set_cons_succ, i64_w, i32_w]
                         rfl
                        refine pure_ (i := 13) (N := some 227) (v := ?_) (a' := ?_) impl_fill.mk_93 rfl rfl (any_of HT_.out (by kernel_rfl)) (fun _ _ _ h => h) (Or.inl ⟨by rfl, ?_⟩) ?_ ?_
                        rotate_left
                        ·intro w'
                         go_simp
                         with_reducible rfl
                        rotate_left
                        ·simp only [Act.put, List.setIfInBounds_toArray, List.set_cons_zero, List.set_cons_succ, i64_w, i32_w]
                         rfl
                        refine last_ (i := 14) (N := none) impl_fill.mk_94 rfl rfl (one_of HT_.out (by kernel_rfl)) (by decide) (fun K hK => ?_)
                        refine skip_ (w1 := ?_) (by rfl) rfl ?_ ?_
                        rotate_left
                        ·go_simp
                         rfl
                        refine hK.out _ _ ?_
                        clear hK K
                        refine done_ (done_of HT_.out (by kernel_rfl)) ?_
                        try go_wp2
                        go_roundg k4
                        case measure => have := HK1.out; have := HK2.out; have := HK3.out; have := HK4.out; omega
                        case rel => exact ⟨(y195), (wrap64 (x209_4 + 1)), (by first | rfl | (simp; done) | (simp [*]; done)), H', ⟨by have := HK1.out; have := HK2.out; have := HK3.out; have := HK4.out; omega⟩, ⟨by (try simp only [hl9_1]); (try simp only [hl9_2]); (with_reducible repeat (first | apply Kd.S_alloc | apply Kd.S_drewN | apply Kd.S_drew)); exact Kd.S_mono (Kd.S_far (p := ⟨go104, ((rd l1 x209_4) : Int).toNat, none⟩) (Kd.S_types HO_9.out GG104.out (by decide)) (fun _ hk => hk.2) (.int .u8 (Go.bits .xor .u8 (rd x22_4 (rd l1 x209_4)) ((rd (rd_L2 x9_2 x209_4) (l1.length : Int)) % 256)))) (fun _ hk => trivial)⟩, ⟨by (try simp only [hl9_1]); (try simp only [hl9_2]); (with_reducible repeat (first | apply Kd.R_alloc | apply Kd.R_drewN | apply Kd.R_drew)); exact HQ107.out⟩, ⟨by repeat (first | (with_reducible first | exact HB.out | apply below_alloc | apply pw_below_drewN | apply below_drew1 | refine below_set ?_ GB104.out) | exact HB.out)⟩⟩
                       ·rw [if_neg c103] at H
                        exact absurd H (by simp)
                      ·rw [if_neg c102] at H
                       exact absurd H (by simp)
                     ·rw [if_neg c101] at H
                      exact absurd H (by simp)
                    ·rw [if_neg c100] at H
                     exact absurd H (by simp)
                   ·rw [if_neg c99] at H
                    exact absurd H (by simp)
                  ·rw [if_neg c98] at H
                   exact absurd H (by simp)
                 ·rw [if_neg c97] at H
                  exact absurd H (by simp)
                ·rw [if_neg c96] at H
                 have c96b0 : decide (x209_4 < (l1.length : Int)) = false := decide_eq_false c96
                 clear c96
                 simp only [Option.some.injEq, Prod.mk.injEq] at H
                 obtain ⟨rfl, rfl⟩ := H
                 go_wp2
                 go_ret2
                 exact ⟨_, by first | rfl | (simp [errW_none, errW_some] <;> rfl) | (simp only [← hji4]; first | rfl | (simp [errW_none, errW_some] <;> rfl)) | (simp [*, errW_none, errW_some] <;> rfl), by (with_reducible repeat (first | apply Kd.R_alloc | apply Kd.R_drewN | apply Kd.R_drew)); exact HO_22.out, by repeat (first | (with_reducible first | exact HB.out | apply below_alloc | apply pw_below_drewN | apply below_drew1) | exact HB.out)⟩
          ·rw [if_neg c86] at H
           exact absurd H (by simp)
         ·rw [if_neg c85] at H
          exact absurd H (by simp)
  ·rw [if_neg c6] at H
   exact absurd H (by simp)
 ·rw [if_neg c5] at H
  exact absurd H (by simp)

end Go.Proofs.Ytdcjfcfiflpblaa.PFnExactRsMend
