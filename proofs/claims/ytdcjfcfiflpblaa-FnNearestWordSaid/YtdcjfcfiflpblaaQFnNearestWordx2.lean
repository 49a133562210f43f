/- The functions that FnNearestWord reaches, each with its walk; written by a program (own.py). -/
import Derived.Test.YtdcjfcfiflpblaaSh
import Derived.Test.YtdcjfcfiflpblaaQFnNearestWordx0
import Derived.Test.YtdcjfcfiflpblaaQFnNearestWordx1
namespace Go.Proofs.Ytdcjfcfiflpblaa.PFnNearestWord
open Go.RowKit Go.Proofs.YtdcjfcfiflpblaaW.PrintWords Go.Proofs.YtdcjfcfiflpblaaW.PrintLast Go.Proofs.YtdcjfcfiflpblaaW.PrintMore
attribute [local go_sem] max2_int min2_int max_two min_two max_three min_three max_four min_four   -- for this text's walks alone
set_option linter.unusedVariables false
set_option linter.unusedSimpArgs false

/-! ### impl_RsCode: function 11 -/
mutual
def impl_RsCode.j0 : Nat → List Int → Int → Bool → Option (List Int × Bool)
  | 0, _, _, _ => none
  | k + 1, x0, x1, x37 => if x37 = true then (some (([] : List Int), false)) else (impl_RsCode.l0 k x0 x1 (([1] : List Int)) (wrap64 (2 * x1)) 0)
def impl_RsCode.l0 : Nat → List Int → Int → List Int → Int → Int → Option (List Int × Bool)
  | 0, _, _, _, _, _ => none
  | k + 1, x0, x1, x6, x40, x41 => if x41 < x40 then ((impl_gfPow.f k x41).bind fun t108 => ((slices_Clone_int_int.f x6).bind fun t109 => (if t109.length < 17592186044416 then (impl_RsCode.l1 k x0 x1 t108 (t109 ++ [0]) x40 x41 x6 (x6.length : Int) 0) else (none)))) else (if 0 ≤ (wrap64 ((x0.length : Int) + (wrap64 (2 * x1)))) then (if (wrap64 ((x0.length : Int) + (wrap64 (2 * x1))) : Int).toNat ≤ 35184372088832 then (impl_RsCode.l2 k x0 x6 (List.replicate (wrap64 ((x0.length : Int) + (wrap64 (2 * x1))) : Int).toNat 0) x0 (x0.length : Int) 0) else (none)) else (none))
def impl_RsCode.l1 : Nat → List Int → Int → Int → List Int → Int → Int → List Int → Int → Int → Option (List Int × Bool)
  | 0, _, _, _, _, _, _, _, _, _ => none
  | k + 1, x0, x1, x8, x9, x40, x41, x50, x51, x52 => if x52 < x51 then (if 0 ≤ x52 then (if x52 < (x50.length : Int) then (if 0 ≤ (wrap64 (x52 + 1)) then (if (wrap64 (x52 + 1)) < (x9.length : Int) then ((impl_GfMul.f k (rd x50 x52) x8).bind fun t117 => (impl_RsCode.l1 k x0 x1 x8 (x9.set ((wrap64 (x52 + 1)) : Int).toNat (Go.bits .xor .i64 (rd x9 (wrap64 (x52 + 1))) t117)) x40 x41 x50 x51 (wrap64 (x52 + 1)))) else (none)) else (none)) else (none)) else (none)) else (impl_RsCode.l0 k x0 x1 x9 x40 (wrap64 (x41 + 1)))
def impl_RsCode.l2 : Nat → List Int → List Int → List Int → List Int → Int → Int → Option (List Int × Bool)
  | 0, _, _, _, _, _, _ => none
  | k + 1, x0, x6, x12, x76, x77, x78 => if x78 < x77 then (if 0 ≤ x78 then (if x78 < (x76.length : Int) then (if x78 < (x12.length : Int) then (impl_RsCode.l2 k x0 x6 (x12.set (x78 : Int).toNat (wrap64 (rd x76 x78))) x76 x77 (wrap64 (x78 + 1))) else (none)) else (none)) else (none)) else (impl_RsCode.l3 k x0 x6 x12 (x0.length : Int) 0)
def impl_RsCode.l3 : Nat → List Int → List Int → List Int → Int → Int → Option (List Int × Bool)
  | 0, _, _, _, _, _ => none
  | k + 1, x0, x6, x12, x90, x91 => if x91 < x90 then (if 0 ≤ x91 then (if x91 < (x12.length : Int) then (impl_RsCode.l4 k x0 x6 x12 x91 (rd x12 x91) x90 x91 x6 (x6.length : Int) 0) else (none)) else (none)) else ((slices_Clone_byte_byte.f x0).bind fun t129 => (if 0 ≤ (x0.length : Int) then (if (x0.length : Int) ≤ (x12.length : Int) then ((some (x12.drop ((x0.length : Int) : Int).toNat : List Int)).bind fun y132 => (impl_RsCode.l5 k t129 y132 (y132.length : Int) 0)) else (none)) else (none)))
def impl_RsCode.l4 : Nat → List Int → List Int → List Int → Int → Int → Int → Int → List Int → Int → Int → Option (List Int × Bool)
  | 0, _, _, _, _, _, _, _, _, _, _ => none
  | k + 1, x0, x6, x12, x15, x16, x90, x91, x98, x99, x100 => if x100 < x99 then (if 0 ≤ x100 then (if x100 < (x98.length : Int) then (if 0 ≤ (wrap64 (x15 + x100)) then (if (wrap64 (x15 + x100)) < (x12.length : Int) then ((impl_GfMul.f k (rd x98 x100) x16).bind fun t127 => (impl_RsCode.l4 k x0 x6 (x12.set ((wrap64 (x15 + x100)) : Int).toNat (Go.bits .xor .i64 (rd x12 (wrap64 (x15 + x100))) t127)) x15 x16 x90 x91 x98 x99 (wrap64 (x100 + 1)))) else (none)) else (none)) else (none)) else (none)) else (impl_RsCode.l3 k x0 x6 x12 x90 (wrap64 (x91 + 1)))
def impl_RsCode.l5 : Nat → List Int → List Int → Int → Int → Option (List Int × Bool)
  | 0, _, _, _, _ => none
  | k + 1, x19, x123, x124, x125 => if x125 < x124 then (if 0 ≤ x125 then (if x125 < (x123.length : Int) then (if x19.length < 140737488355328 then (impl_RsCode.l5 k (x19 ++ [(rd x123 x125) % 256]) x123 x124 (wrap64 (x125 + 1))) else (none)) else (none)) else (none)) else (some (x19, true))
end
def impl_RsCode.f (k : Nat) (l0 : List Int) (a1 : Int) : Option (List Int × Bool) := (impl_isMend.f a1).bind fun t104 => (if t104 = true then (if (l0.length : Int) < 1 then (impl_RsCode.j0 k l0 a1 true) else (impl_RsCode.j0 k l0 a1 (decide ((l0.length : Int) > (wrap64 (255 - (wrap64 (2 * a1)))))))) else (impl_RsCode.j0 k l0 a1 true))
theorem impl_RsCode.mono_l : ∀ k, (∀ y0 y1 y2, LeO (impl_RsCode.j0 k y0 y1 y2) (impl_RsCode.j0 (k + 1) y0 y1 y2)) ∧ (∀ y0 y1 y2 y3 y4, LeO (impl_RsCode.l0 k y0 y1 y2 y3 y4) (impl_RsCode.l0 (k + 1) y0 y1 y2 y3 y4)) ∧ (∀ y0 y1 y2 y3 y4 y5 y6 y7 y8, LeO (impl_RsCode.l1 k y0 y1 y2 y3 y4 y5 y6 y7 y8) (impl_RsCode.l1 (k + 1) y0 y1 y2 y3 y4 y5 y6 y7 y8)) ∧ (∀ y0 y1 y2 y3 y4 y5, LeO (impl_RsCode.l2 k y0 y1 y2 y3 y4 y5) (impl_RsCode.l2 (k + 1) y0 y1 y2 y3 y4 y5)) ∧ (∀ y0 y1 y2 y3 y4, LeO (impl_RsCode.l3 k y0 y1 y2 y3 y4) (impl_RsCode.l3 (k + 1) y0 y1 y2 y3 y4)) ∧ (∀ y0 y1 y2 y3 y4 y5 y6 y7 y8 y9, LeO (impl_RsCode.l4 k y0 y1 y2 y3 y4 y5 y6 y7 y8 y9) (impl_RsCode.l4 (k + 1) y0 y1 y2 y3 y4 y5 y6 y7 y8 y9)) ∧ (∀ y0 y1 y2 y3, LeO (impl_RsCode.l5 k y0 y1 y2 y3) (impl_RsCode.l5 (k + 1) y0 y1 y2 y3))
  | 0 => ⟨fun _ _ _ r h => by simp [impl_RsCode.j0] at h, fun _ _ _ _ _ r h => by simp [impl_RsCode.l0] at h, fun _ _ _ _ _ _ _ _ _ r h => by simp [impl_RsCode.l1] at h, fun _ _ _ _ _ _ r h => by simp [impl_RsCode.l2] at h, fun _ _ _ _ _ r h => by simp [impl_RsCode.l3] at h, fun _ _ _ _ _ _ _ _ _ _ r h => by simp [impl_RsCode.l4] at h, fun _ _ _ _ r h => by simp [impl_RsCode.l5] at h⟩
  | k + 1 => by
    obtain ⟨ih0, ih1, ih2, ih3, ih4, ih5, ih6⟩ := impl_RsCode.mono_l k
    refine ⟨?_, ?_, ?_, ?_, ?_, ?_, ?_⟩ <;> intros
    all_goals first | unfold impl_RsCode.j0 | unfold impl_RsCode.l0 | unfold impl_RsCode.l1 | unfold impl_RsCode.l2 | unfold impl_RsCode.l3 | unfold impl_RsCode.l4 | unfold impl_RsCode.l5
    all_goals repeat' first
    | (with_reducible exact ih0 _ _ _)
    | (with_reducible exact ih1 _ _ _ _ _)
    | (with_reducible exact ih2 _ _ _ _ _ _ _ _ _)
    | (with_reducible exact ih3 _ _ _ _ _ _)
    | (with_reducible exact ih4 _ _ _ _ _)
    | (with_reducible exact ih5 _ _ _ _ _ _ _ _ _ _)
    | (with_reducible exact ih6 _ _ _ _)
    | (with_reducible exact impl_GfMul.mono _ _ _)
    | (with_reducible exact impl_gfPow.mono _ _)
    | (with_reducible exact LeO.refl _)
    | (with_reducible exact LeO.none _)
    | (with_reducible refine LeO.ite ?_ ?_)
    | (with_reducible refine LeO.bind ?_ (fun _ => ?_))
    | exact ih0 _ _ _
    | exact ih1 _ _ _ _ _
    | exact ih2 _ _ _ _ _ _ _ _ _
    | exact ih3 _ _ _ _ _ _
    | exact ih4 _ _ _ _ _
    | exact ih5 _ _ _ _ _ _ _ _ _ _
    | exact ih6 _ _ _ _
    | exact impl_GfMul.mono _ _ _
    | exact impl_gfPow.mono _ _
    | exact LeO.none _
    | refine LeO.ite ?_ ?_
    | refine LeO.bind ?_ (fun _ => ?_)
theorem impl_RsCode.mono : ∀ a0 a1 k, LeO (impl_RsCode.f k a0 a1) (impl_RsCode.f (k + 1) a0 a1) := by
  intro a0 a1 k
  obtain ⟨ih0, ih1, ih2, ih3, ih4, ih5, ih6⟩ := impl_RsCode.mono_l k
  unfold impl_RsCode.f
  repeat' first
      | (with_reducible exact ih0 _ _ _)
      | (with_reducible exact ih1 _ _ _ _ _)
      | (with_reducible exact ih2 _ _ _ _ _ _ _ _ _)
      | (with_reducible exact ih3 _ _ _ _ _ _)
      | (with_reducible exact ih4 _ _ _ _ _)
      | (with_reducible exact ih5 _ _ _ _ _ _ _ _ _ _)
      | (with_reducible exact ih6 _ _ _ _)
      | (with_reducible exact impl_GfMul.mono _ _ _)
      | (with_reducible exact impl_gfPow.mono _ _)
      | (with_reducible exact LeO.refl _)
      | (with_reducible exact LeO.none _)
      | (with_reducible refine LeO.ite ?_ ?_)
      | (with_reducible refine LeO.bind ?_ (fun _ => ?_))
      | exact ih0 _ _ _
      | exact ih1 _ _ _ _ _
      | exact ih2 _ _ _ _ _ _ _ _ _
      | exact ih3 _ _ _ _ _ _
      | exact ih4 _ _ _ _ _
      | exact ih5 _ _ _ _ _ _ _ _ _ _
      | exact ih6 _ _ _ _
      | exact impl_GfMul.mono _ _ _
      | exact impl_gfPow.mono _ _
      | exact LeO.none _
      | refine LeO.ite ?_ ?_
      | refine LeO.bind ?_ (fun _ => ?_)
def impl_RsCode.T12 : Bool × List (List Nat × List Nat) := (true, [([], []), ([], []), ([1], [1]), ([0, 2], [0, 2]), ([3], [3]), ([], []), ([], []), ([5, 6], [5, 6]), ([4, 7], [4, 7]), ([0, 2, 0, 1, 2, 3, 4, 5, 6, 7, 8], [0, 2]), ([9, 8, 7, 0, 1, 2, 3, 4, 5, 6, 7, 8], [8, 9])])
def impl_RsCode.B12 : List Nat := [0, 0, 2, 7, 15, 0, 0, 96, 255, 511, 1023]
theorem impl_RsCode.tab12 : rtab .any (opsOf Try.f11 12) = impl_RsCode.T12 := by kernel_rfl
theorem impl_RsCode.bits12 : waitsOk impl_RsCode.T12.2 impl_RsCode.B12 = true := by kernel_rfl
def impl_RsCode.T29 : Bool × List (List Nat × List Nat) := (true, [([], []), ([], []), ([], []), ([1, 2], [1, 2]), ([0, 3], [0, 3]), ([4], [4]), ([], []), ([], []), ([6, 7], [6, 7]), ([5, 8], [5, 8]), ([0, 3, 0, 1, 2, 3, 4, 5, 6, 7, 8, 9], [0, 3]), ([10, 9, 8, 0, 1, 2, 3, 4, 5, 6, 7, 8, 9], [9, 10])])
def impl_RsCode.B29 : List Nat := [0, 0, 0, 6, 15, 31, 0, 0, 192, 511, 1023, 2047]
theorem impl_RsCode.tab29 : rtab .any (opsOf Try.f11 29) = impl_RsCode.T29 := by kernel_rfl
theorem impl_RsCode.bits29 : waitsOk impl_RsCode.T29.2 impl_RsCode.B29 = true := by kernel_rfl
theorem impl_RsCode.keep {W W1 w : World} {base b0 : Nat} {ok ok2 : Nat → Prop} {v v2 : Value} {xs ys : List Int} (h : Kd.R (Kd.int .i64) 3 W base ok v xs) (hb : Below W.heap.size W W1) (h2 : Kd.R (Kd.int .u8) 5 W1 W.heap.size ok2 v2 ys) (hb0 : Below b0 w W) : ∃ wA, Kd.R (Kd.int .i64) 3 wA base ok v xs ∧ Below wA.heap.size wA W1 ∧ Kd.R (Kd.int .u8) 5 W1 wA.heap.size ok2 v2 ys ∧ Below b0 w wA := ⟨W, h, hb, h2, hb0⟩
abbrev impl_RsCode.mk_0 : Array Bool := #[false, false, false, false, false, false, false, false, false, false, false]
abbrev impl_RsCode.mk_1 : Array Bool := #[true, false, false, false, false, false, false, false, false, false, false]
abbrev impl_RsCode.mk_2 : Array Bool := #[true, true, false, false, false, false, false, false, false, false, false]
abbrev impl_RsCode.mk_3 : Array Bool := #[true, true, true, false, false, false, false, false, false, false, false]
abbrev impl_RsCode.mk_4 : Array Bool := #[true, true, true, true, false, false, false, false, false, false, false]
abbrev impl_RsCode.mk_5 : Array Bool := #[true, true, true, true, false, true, false, false, false, false, false]
abbrev impl_RsCode.mk_6 : Array Bool := #[true, true, true, true, false, true, true, false, false, false, false]
abbrev impl_RsCode.mk_7 : Array Bool := #[true, true, true, true, true, true, true, false, false, false, false]
abbrev impl_RsCode.mk_8 : Array Bool := #[true, true, true, true, true, true, true, true, false, false, false]
abbrev impl_RsCode.mk_9 : Array Bool := #[true, true, true, true, true, true, true, true, true, false, false]
abbrev impl_RsCode.mk_10 : Array Bool := #[true, true, true, true, true, true, true, true, true, true, false]
abbrev impl_RsCode.mk_11 : Array Bool := #[true, true, true, true, true, true, true, true, true, true, true]
abbrev impl_RsCode.mk_12 : Array Bool := #[false, false, false, false, false, false, false, false, false, false, false, false]
abbrev impl_RsCode.mk_13 : Array Bool := #[true, false, false, false, false, false, false, false, false, false, false, false]
abbrev impl_RsCode.mk_14 : Array Bool := #[true, true, false, false, false, false, false, false, false, false, false, false]
abbrev impl_RsCode.mk_15 : Array Bool := #[true, true, true, false, false, false, false, false, false, false, false, false]
abbrev impl_RsCode.mk_16 : Array Bool := #[true, true, true, true, false, false, false, false, false, false, false, false]
abbrev impl_RsCode.mk_17 : Array Bool := #[true, true, true, true, true, false, false, false, false, false, false, false]
abbrev impl_RsCode.mk_18 : Array Bool := #[true, true, true, true, true, false, true, false, false, false, false, false]
abbrev impl_RsCode.mk_19 : Array Bool := #[true, true, true, true, true, false, true, true, false, false, false, false]
abbrev impl_RsCode.mk_20 : Array Bool := #[true, true, true, true, true, true, true, true, false, false, false, false]
abbrev impl_RsCode.mk_21 : Array Bool := #[true, true, true, true, true, true, true, true, true, false, false, false]
abbrev impl_RsCode.mk_22 : Array Bool := #[true, true, true, true, true, true, true, true, true, true, false, false]
abbrev impl_RsCode.mk_23 : Array Bool := #[true, true, true, true, true, true, true, true, true, true, true, false]
abbrev impl_RsCode.mk_24 : Array Bool := #[true, true, true, true, true, true, true, true, true, true, true, true]
set_option maxHeartbeats 8000000 in
set_option maxRecDepth 100000 in
theorem impl_RsCode.calls (k : Nat) (A0 : Option Addr) (c0 : Nat) (l0 : List Int) (a1 : Int) (r1 : List Int) (r2 : Bool) (w : World) (hr0 : Kd.C (Kd.int .u8) w A0 l0.length l0) (hc0 : l0.length ≤ c0) (h : impl_RsCode.f k l0 a1 = some (r1, r2)) :
  Calls Try.prog 11 #[.slice A0 l0.length c0, .int .i64 a1] w fun e w' => ∃ v0_ : Value, e = .returned (.tuple #[v0_, .bool r2]) ∧ Kd.R (Kd.int .u8) 5 w' w.heap.size (fun _ => True) v0_ r1 ∧ Below w.heap.size w w' := by
 have HR0 := Aside0.mk hr0
 have HC0 := Aside0.mk hc0
 clear hr0 hc0
 have HB := Aside0.mk (Below.refl w.heap.size w)
 have H : ((impl_isMend.f a1).bind fun t104 => (if t104 = true then (if (l0.length : Int) < 1 then (impl_RsCode.j0 k l0 a1 true) else (impl_RsCode.j0 k l0 a1 (decide ((l0.length : Int) > (wrap64 (255 - (wrap64 (2 * a1)))))))) else (impl_RsCode.j0 k l0 a1 true))) = some (r1, r2) := h
 clear h
 have HC3 := Aside0.mk H
 clear H
 go_enter Try.func11, Try.ntmps11
 go_upto_region 1 with (fail)
 go_cut [37] (fun v37 wc => ∃ (kq : Nat) (x37_2 : Bool), v37 = .bool x37_2 ∧ Aside0 (impl_RsCode.j0 kq l0 a1 x37_2 = some (r1, r2)) ∧ Aside0 (kq ≤ k) ∧ Aside0 (Below w.heap.size w wc))
 case first =>
  have H := HC3.out
  clear HC3
  replace H := zi H
  obtain ⟨t104, A4, H⟩ := H
  by_cases c5 : t104 = true
  rotate_left
  ·replace c5 := Bool.eq_false_iff.mpr c5
   subst c5
   have H1 : (impl_RsCode.j0 k l0 a1 true) = some (r1, r2) := by rw [if_neg (show ¬ (false = true) by decide)] at H; exact H
   clear H
   have H := H1
   clear H1
   have H' := Aside0.mk H
   clear H
   go_wp2_with (first | ((with_reducible refine gate_callee (f := 32) rfl ?_); refine goesL_ (some 23) rfl rfl Try.func32 (by kernel_rfl) rfl #[.int .i64 a1] rfl zL ?_; (with_reducible refine (impl_isMend.calls a1 false _ A4.out).mono ?_); rintro e w' ⟨rfl, ⟨nd, rfl⟩⟩; refine ⟨_, rfl, ?_⟩))
   go_meet
   case rel => exact ⟨_, (true), zO, H', ⟨by first | omega | exact Nat.le_refl _⟩, ⟨zB⟩⟩
  subst c5
  have H1 : (if (l0.length : Int) < 1 then (impl_RsCode.j0 k l0 a1 true) else (impl_RsCode.j0 k l0 a1 (decide ((l0.length : Int) > (wrap64 (255 - (wrap64 (2 * a1)))))))) = some (r1, r2) := by rw [if_pos rfl] at H; exact H
  clear H
  have H := H1
  clear H1
  by_cases c6 : (l0.length : Int) < 1
  ·rw [if_pos c6] at H
   have c6b0 := decide_eq_true c6
   have c6b1 : decide (l0.length < 1) = true := decide_eq_true (by omega)
   clear c6
   (first | rw [c6b0] | (simp only [i64_w, i32_w]; rw [c6b0]) | skip)
   have H' := Aside0.mk H
   clear H
   go_wp2_with (first | ((with_reducible refine gate_callee (f := 32) rfl ?_); refine goesL_ (some 23) rfl rfl Try.func32 (by kernel_rfl) rfl #[.int .i64 a1] rfl zL ?_; (with_reducible refine (impl_isMend.calls a1 true _ A4.out).mono ?_); rintro e w' ⟨rfl, ⟨nd, rfl⟩⟩; refine ⟨_, rfl, ?_⟩))
   go_meet
   case rel => exact ⟨_, (true), zO, H', ⟨by first | omega | exact Nat.le_refl _⟩, ⟨zB⟩⟩
  rw [if_neg c6] at H
  have c6b0 := decide_eq_false c6
  have c6b1 : decide (l0.length < 1) = false := decide_eq_false (by omega)
  clear c6
  (first | rw [c6b0] | (simp only [i64_w, i32_w]; rw [c6b0]) | skip)
  have H' := Aside0.mk H
  clear H
  go_wp2_with (first | ((with_reducible refine gate_callee (f := 32) rfl ?_); refine goesL_ (some 23) rfl rfl Try.func32 (by kernel_rfl) rfl #[.int .i64 a1] rfl zL ?_; (with_reducible refine (impl_isMend.calls a1 true _ A4.out).mono ?_); rintro e w' ⟨rfl, ⟨nd, rfl⟩⟩; refine ⟨_, rfl, ?_⟩))
  go_meet
  case rel => exact ⟨_, (decide ((l0.length : Int) > (wrap64 (255 - (wrap64 (2 * a1)))))), zO, H', ⟨by first | omega | exact Nat.le_refl _⟩, ⟨zB⟩⟩
 case rest =>
 clear HC3
 try clear c1
 try clear p2
 try clear c3
 try clear c5
 try clear c6
 try clear c6b0
 try clear c6b1
 try clear p6
 obtain ⟨kq, x37_2, rfl, HA, HJ2, HB⟩ := hcut
 cases kq with
 | zero => exact absurd HA.out (by simp [impl_RsCode.j0])
 | succ kj2 =>
 have H := HA.out
 clear HA
 simp only [impl_RsCode.j0] at H
 by_cases c7 : x37_2 = true
 ·subst c7
  have H1 : (some (([] : List Int), false)) = some (r1, r2) := by rw [if_pos rfl] at H; exact H
  clear H
  have H := H1
  clear H1
  simp only [Option.some.injEq, Prod.mk.injEq] at H
  obtain ⟨rfl, rfl⟩ := H
  go_wp2
  go_ret2
  exact ⟨_, zE, by first | exact Kd.R_nil _ _ _ _ _ | exact Kd.N_nil _ _ _ _ _ | exact Kd.V_nil _ _ _ _ _ | exact Kd.Q_nil _ _ _ _ _ | exact Kd.S_nil _ _ _ _ _, zB⟩
 replace c7 := Bool.eq_false_iff.mpr c7
 subst c7
 have H1 : (impl_RsCode.l0 kj2 l0 a1 (([1] : List Int)) (wrap64 (2 * a1)) 0) = some (r1, r2) := by rw [if_neg (show ¬ (false = true) by decide)] at H; exact H
 clear H
 have H := H1
 clear H1
 obtain ⟨y105, hy105⟩ : ∃ y_ : List Int, y_ = (([1] : List Int)) := ⟨_, rfl⟩
 replace H : (impl_RsCode.l0 kj2 l0 a1 y105 (wrap64 (2 * a1)) 0) = some (r1, r2) := by first | (rw [hy105]; with_reducible exact H) | (have H2_ := (Option.bind_some _ _).symm.trans H; rw [hy105]; with_reducible exact H2_) | (have H2_ := (Option.bind_some _ _).symm.trans H; with_reducible exact H2_) | with_reducible exact H | (rw [hy105]; exact H) | exact H
 have Ny105 := Aside0.mk hy105
 clear hy105
 have H' := Aside0.mk H
 clear H
 go_wp2_with (first | ((with_reducible refine gate_dst (N := 38) rfl ?_); (try (refine gate_guard (by rfl) ?_; dsimp only)); refine Kd.R_lit (Kd.int .i64) _ 3 ?hg (N := 38) ?hd (xs := ([1] : List Int)) (inner := [.int .i64 1]) (ok := fun _ => True) (okp := fun _ => True) ?hr ?hp (fun _ hk => hk) trivial (Below.refl _ _) (Nat.le_refl _) (by simp) ?_; (case hd => rfl); (case hg => rfl); (case hr => first | (go_simp; done) | (go_simp; rfl)); (case hp => exact (Reps.one (show Kd.M (Kd.int .i64) _ _ _ 1 [.int .i64 1] from rfl) (Reps.none _ _))); intro v106 w8 ho9 hb hg_ hnew_; clear hg_ hnew_; (first | rw [← Ny105.out] at ho9 | (simp only [Int.reduceToNat] at ho9; rw [← Ny105.out] at ho9)); have n0_ := Aside0.mk (Kd.R_lower ho9 (below_size zB)); have n1_ := Aside0.mk (below_step zB hb); clear HB; have HO107 := n0_; have HB := n1_; clear n0_ n1_; clear hb ho9))
 go_loopg [6, 41] kj2 (fun kq v6 v41 w' => ∃ (x6_2 : List Int) (x41_2 : Int), v41 = .int .i64 x41_2 ∧ Aside0 (impl_RsCode.l0 kq l0 a1 x6_2 (wrap64 (2 * a1)) x41_2 = some (r1, r2)) ∧ Aside0 (kq ≤ kj2) ∧ Aside0 (Kd.R (Kd.int .i64) 3 w' w.heap.size (fun _ => True) v6 x6_2) ∧ Aside0 (Below w.heap.size w w'))
 case atStart => exact ⟨(y105), (0), zO, H', ⟨Nat.le_refl _⟩, ⟨zR HO107.out⟩, ⟨zB⟩⟩
 case round =>
 clear H'
 try clear c1
 try clear p2
 try clear c3
 try clear c5
 try clear c6
 try clear c6b0
 try clear c6b1
 try clear p6
 try clear c7
 try clear p2
 try clear p6
 obtain ⟨x6_2, x41_2, rfl, HA, HK2, HO_6, HB⟩ := hrel
 cases gk with
 | zero => exact absurd HA.out (by simp [impl_RsCode.l0])
 | succ k2 =>
 have H := HA.out
 clear HA
 simp only [impl_RsCode.l0] at H
 by_cases c10 : x41_2 < (wrap64 (2 * a1))
 ·rw [if_pos c10] at H
  have c10b0 := decide_eq_true c10
  clear c10
  replace H := zi H
  obtain ⟨t108, A11, H⟩ := H
  replace H := zi H
  obtain ⟨t109, A12, H⟩ := H
  replace H := zg H
  obtain ⟨c13, H⟩ := H
  have LMc13 := Aside0.mk c13
  clear c13
  obtain ⟨y112, hy112⟩ : ∃ y_ : List Int, y_ = (t109 ++ [0]) := ⟨_, rfl⟩
  replace H : (impl_RsCode.l1 k2 l0 a1 t108 y112 (wrap64 (2 * a1)) x41_2 x6_2 (x6_2.length : Int) 0) = some (r1, r2) := by first | (rw [hy112]; with_reducible exact H) | (have H2_ := (Option.bind_some _ _).symm.trans H; rw [hy112]; with_reducible exact H2_) | (have H2_ := (Option.bind_some _ _).symm.trans H; with_reducible exact H2_) | with_reducible exact H | (rw [hy112]; exact H) | exact H
  have Ny112 := Aside0.mk hy112
  clear hy112
  have H' := Aside0.mk H
  clear H
  go_wp2_with (first | ((with_reducible refine gate_callee (f := 33) rfl ?_); refine goesL_ (some 45) rfl rfl Try.func33 (by kernel_rfl) rfl #[.int .i64 x41_2] rfl zL ?_; (with_reducible refine (impl_gfPow.calls k2 x41_2 t108 _ A11.out).mono ?_); rintro e w' ⟨rfl, ⟨nd, rfl⟩⟩; refine ⟨_, rfl, ?_⟩; obtain ⟨Ao14, co14, eo14⟩ := Kd.R_slice HO_6.out; subst eo14) | ((with_reducible refine gate_callee (f := 34) rfl ?_); refine goesL_ (some 47) rfl rfl Try.func34 (by kernel_rfl) rfl #[.slice Ao14 x6_2.length co14] rfl zL ?_; (with_reducible refine (slices_Clone_int_int.calls _ _ x6_2 t109 _ ?side1 ?side2 A12.out).mono ?_); (case side1 => exact zC (Kd.R_reads' HO_6.out).2.2); (case side2 => exact (Kd.R_reads' HO_6.out).2.1); rintro e w15 ⟨v110, rfl, ho0, hb⟩; refine ⟨_, rfl, ?_⟩; have n0_ := Aside0.mk (Kd.R_elder' (zR HO_6.out) (Kd.R_base ho0) hb); have n1_ := Aside0.mk (Kd.R_lower (Kd.R_new' ho0 (Kd.R_lt (zR HO_6.out))) (below_size zB)); have n2_ := Aside0.mk (below_step zB hb); clear HO_6; clear HB; have HO_6 := n0_; have HO111 := n1_; have HB := n2_; clear n0_ n1_ n2_; (try clear hb); (try clear hb2); (try clear hk); (try clear hi); (try clear ho0)) | ((with_reducible refine gate_builtin (b := .append) (xs := #[.tmp 47, .tmp 48]) rfl ?_); (try (refine gate_guard (by rfl) ?_; dsimp only)); at_builtin; refine Kd.R_append (Kd.int .i64) (w0 := w) w.heap.size rfl (.tmp 47) (.tmp 48) 24 3 (.int .i64 0) 8 rfl Try.underlying24 info3 rfl (by decide) (by omega) v110 t109 0 [.int .i64 0] (fun k_ => some k_ ≠ (.slice Ao14 x6_2.length co14 : Value).ownBlock) (fun _ => False) rfl rfl ?aP (fun _ hk => hk.elim) ?aF ?aO ?aB ?aS ?aL ?_; (case aP => exact rfl); (case aB => exact zB); (case aF => exact (fun k_ hk => Kd.fresh' (Kd.R_lt (zR HO_6.out)) k_ hk)); (case aO => exact (by (with_reducible repeat (first | apply Kd.R_alloc | apply Kd.R_drewN | apply Kd.R_drew)); exact Kd.R_mono HO111.out (fun _ hk => hk.2))); (case aS => exact (below_size zB)); (case aL => have := LMc13.out; omega); intro v113 w16 ho hb hg hat; rw [← Ny112.out] at ho; have n0_ := Aside0.mk (Kd.R_after (ok := (fun _ => True)) (zR HO_6.out) hg hat); have n1_ := Aside0.mk (hb); have n2_ := Aside0.mk (ho); clear HO_6; clear HB; clear HO111; have HO_6 := n0_; have HB := n1_; have HO114 := n2_; clear n0_ n1_ n2_; clear ho hb hg hat))
  go_loopg [52] k2 (fun kq v52 w' => ∃ (x9_3 : List Int) (x52_3 : Int), v52 = .int .i64 x52_3 ∧ Aside0 (impl_RsCode.l1 kq l0 a1 t108 x9_3 (wrap64 (2 * a1)) x41_2 x6_2 (x6_2.length : Int) x52_3 = some (r1, r2)) ∧ Aside0 (kq ≤ k2) ∧ Aside0 (Kd.R (Kd.int .i64) 3 w' w.heap.size (fun k_ => some k_ ≠ ((.slice Ao14 x6_2.length co14) : Value).ownBlock) v113 x9_3) ∧ Aside0 (Kd.R (Kd.int .i64) 3 w' w.heap.size (fun k_ => some k_ ≠ (v113 : Value).ownBlock) (.slice Ao14 x6_2.length co14) x6_2) ∧ Aside0 (Below w.heap.size w w'))
  case atStart => exact ⟨(y112), (0), zO, H', ⟨Nat.le_refl _⟩, ⟨zR HO114.out⟩, ⟨by (with_reducible repeat (first | apply Kd.R_alloc | apply Kd.R_drewN | apply Kd.R_drew)); exact Kd.R_mono HO_6.out (fun _ hk => hk.2)⟩, ⟨zB⟩⟩
  case round =>
  clear H'
  try clear c1
  try clear p2
  try clear c3
  try clear c5
  try clear c6
  try clear c6b0
  try clear c6b1
  try clear p6
  try clear c7
  try clear c10
  try clear c10b0
  try clear c11
  try clear c13
  try clear p2
  try clear p6
  obtain ⟨x9_3, x52_3, rfl, HA, HK3, HO_9, HO_50, HB⟩ := hrel
  cases gk with
  | zero => exact absurd HA.out (by simp [impl_RsCode.l1])
  | succ k3 =>
  have H := HA.out
  clear HA
  simp only [impl_RsCode.l1] at H
  by_cases c17 : x52_3 < (x6_2.length : Int)
  rotate_left
  ·rw [if_neg c17] at H
   have c17b0 := decide_eq_false c17
   clear c17
   have H' := Aside0.mk H
   clear H
   go_wp2
   refine Handed.intro k3 ?measure ?_
   rotate_left
   go_step
   (repeat apply Exists.intro)
   first | refine ⟨?rel, rfl⟩ | (simp only [add_plain]; refine ⟨?rel, rfl⟩)
   case measure => have := HJ2.out; have := HK2.out; have := HK3.out; omega
   case rel => exact ⟨(x9_3), (wrap64 (x41_2 + 1)), zO, H', ⟨by have := HJ2.out; have := HK2.out; have := HK3.out; omega⟩, ⟨by (with_reducible repeat (first | apply Kd.R_alloc | apply Kd.R_drewN | apply Kd.R_drew)); exact Kd.R_mono HO_9.out (fun _ hk => trivial)⟩, ⟨zB⟩⟩
  rw [if_pos c17] at H
  have c17b0 := decide_eq_true c17
  clear c17
  replace H := zg H
  obtain ⟨c18, H⟩ := H
  have c18b0 : decide (0 ≤ x52_3) = true := decide_eq_true c18
  clear c18
  replace H := zg H
  obtain ⟨c19, H⟩ := H
  have c19b0 : decide (x52_3 < (x6_2.length : Int)) = true := decide_eq_true c19
  clear c19
  obtain ⟨ji20, hji20⟩ : ∃ j_ : Int, (wrap64 (x52_3 + 1)) = j_ := ⟨_, rfl⟩
  replace H : (if 0 ≤ (ji20) then (if (ji20) < (x9_3.length : Int) then ((impl_GfMul.f k3 (rd x6_2 x52_3) t108).bind fun t117 => (impl_RsCode.l1 k3 l0 a1 t108 (x9_3.set ((ji20) : Int).toNat (Go.bits .xor .i64 (rd x9_3 (ji20)) t117)) (wrap64 (2 * a1)) x41_2 x6_2 (x6_2.length : Int) ji20)) else (none)) else (none)) = some (r1, r2) := by first | (rw [hji20] at H; exact H) | (simp only [hji20] at H ⊢; exact H)
  have hji20w : (IntKind.i64.wrap (x52_3 + 1)) = ji20 := (i64_w _).trans hji20
  replace H := zg H
  obtain ⟨c21, H⟩ := H
  have c21b0 : decide (0 ≤ (ji20)) = true := decide_eq_true c21
  clear c21
  replace H := zg H
  obtain ⟨c22, H⟩ := H
  have c22b0 : decide ((ji20) < (x9_3.length : Int)) = true := decide_eq_true c22
  clear c22
  replace H := zi H
  obtain ⟨t117, A23, H⟩ := H
  obtain ⟨y118, hy118⟩ : ∃ y_ : List Int, y_ = (x9_3.set ((ji20) : Int).toNat (Go.bits .xor .i64 (rd x9_3 (ji20)) t117)) := ⟨_, rfl⟩
  replace H : (impl_RsCode.l1 k3 l0 a1 t108 y118 (wrap64 (2 * a1)) x41_2 x6_2 (x6_2.length : Int) ji20) = some (r1, r2) := by first | (rw [hy118]; with_reducible exact H) | (have H2_ := (Option.bind_some _ _).symm.trans H; rw [hy118]; with_reducible exact H2_) | (have H2_ := (Option.bind_some _ _).symm.trans H; with_reducible exact H2_) | with_reducible exact H | (rw [hy118]; exact H) | exact H
  have Ny118 := Aside0.mk hy118
  clear hy118
  have H' := Aside0.mk H
  clear H
  have p115 : 0 ≤ (x52_3 : Int) := zD
  have q115 : x52_3 < (x6_2.length : Int) := zD
  obtain ⟨ad115, e115, hx115_0⟩ := Kd.at_int (Kd.R_reads' HO_50.out).2.2 x52_3 p115 q115
  cases e115
  replace p115 := eq_true p115
  replace q115 := eq_true q115
  try go_wp2
  have n0_ := Aside0.mk (Kd.R_drew HO_9.out)
  have n1_ := Aside0.mk (Kd.R_drew HO_50.out)
  have n2_ := Aside0.mk (below_drew1 HB.out)
  clear HO_9
  clear HO_50
  clear HB
  have HO_9 := n0_
  have HO_50 := n1_
  have HB := n2_
  clear n0_ n1_ n2_
  obtain ⟨Ao26, co26, eo26⟩ := Kd.R_slice HO_9.out
  (first | subst eo26 | (injection eo26 with f1_ f2_ f3_; have f4_ := f1_.symm; have f5_ := f3_.symm; clear f1_ f2_ f3_; subst f4_; subst f5_))
  have p116 : 0 ≤ ((ji20) : Int) := zD
  have q116 : (ji20) < (x9_3.length : Int) := zD
  obtain ⟨ad116, e116, hx116_0⟩ := Kd.at_int (Kd.R_reads' HO_9.out).2.2 (ji20) p116 q116
  cases e116
  replace p116 := eq_true p116
  replace q116 := eq_true q116
  refine start_ (n := 11) (S := fun w' => w'.cell? (ad116.add ((ji20)).toNat) = some (.int .i64 (rd x9_3 (ji20)))) (ds := [10]) impl_RsCode.mk_0 (by kernel_rfl) rfl rfl (hx116_0) (fun hHeld => ?_); refine with_tabW impl_RsCode.tab12 impl_RsCode.bits12 (fun HT_ HW_ => ?_)
  generalize wr.drew = w25 at HO_9 HO_50 HB hx116_0 hHeld ⊢
  refine zP 0 57 impl_RsCode.mk_1 ?_
  refine zP 1 58 impl_RsCode.mk_2 ?_
  refine zP 2 59 impl_RsCode.mk_3 ?_
  refine zP 3 60 impl_RsCode.mk_4 ?_
  refine zP 5 62 impl_RsCode.mk_5 ?_
  refine zP 6 63 impl_RsCode.mk_6 ?_
  refine zT1 4 61 impl_RsCode.mk_7 ?_
  refine one_ (i := 7) (N := some 64) impl_RsCode.mk_8 rfl rfl (one_of HT_.out (by kernel_rfl)) (by decide) (fun K hK => ?_)
  refine goes_ Try.func35 (by kernel_rfl) rfl #[.int .i64 (rd x6_2 x52_3), .int .i64 t108] (by rfl) rfl rfl zL ?_
  with_reducible refine (impl_GfMul.calls k3 (rd x6_2 x52_3) t108 t117 _ A23.out).mono ?_
  rintro e w' ⟨rfl, ⟨nd, rfl⟩⟩
  refine ⟨_, rfl, ?_⟩
  have p24 : 0 ≤ ((ji20) : Int) := zD
  have q24 : ((ji20) : Int) < ((x9_3.length : Int) : Int) := zD
  obtain ⟨go24, co24, eo24, gb24, gl24, cl24, HG24⟩ := Kd.R_form HO_9.out (by omega)
  (first | cases eo24 | (injection eo24 with ea_ en_ ec_; (first | subst ea_ | (injection ea_ with ea_; subst ea_)); subst ec_; clear en_))
  have GB24 := Aside0.mk gb24
  have GG24 := Aside0.mk HG24
  clear gb24 gl24 HG24
  (first | simp only [add_plain] at hx116_0 | skip)
  obtain ⟨hx24_0, hf24_0⟩ := Kd.R_celln 0 HO_9.out ((ji20) : Int) p24 q24
  replace p24 := eq_true p24
  replace q24 := eq_true q24
  have HP27 := Kd.R_putn HO_9.out ((ji20) : Int) (Go.bits .xor .i64 (rd x9_3 (ji20)) t117)
  rw [← Ny118.out] at HP27
  have HQ27 := Aside0.mk HP27
  clear HP27
  refine hK.out _ _ (hHeld) (fun hHeld => ?_)
  clear hK K
  refine norm_ (a' := ?_) ?_ ?_
  rotate_left
  ·show Act.put _ (some 64) _ = _
   simp only [Act.put, List.setIfInBounds_toArray, List.set_cons_zero, List.set_cons_succ, i64_w, i32_w]
   rfl
  refine zP 8 65 impl_RsCode.mk_9 ?_
  refine zP 9 66 impl_RsCode.mk_10 ?_
  refine last_ (i := 10) (N := none) impl_RsCode.mk_11 rfl rfl (one_of HT_.out (by kernel_rfl)) (by decide) (fun K hK => ?_)
  refine skip_ (w1 := ?_) (by rfl) rfl ?_ ?_
  rotate_left
  ·go_simp
   rfl
  refine hK.out _ _ ?_
  clear hK K
  refine done_ (done_of HT_.out (by kernel_rfl)) ?_
  try go_wp2
  refine Handed.intro k3 ?measure ?_
  rotate_left
  go_step
  (repeat apply Exists.intro)
  first | refine ⟨?rel, rfl⟩ | (simp only [add_plain]; refine ⟨?rel, rfl⟩)
  case measure => have := HJ2.out; have := HK2.out; have := HK3.out; omega
  case rel => exact ⟨(y118), (ji20), (by first | rfl | (simp; done) | (simp only [← hji20] <;> (first | rfl | simp)) | (simp [*]; done)), H', ⟨by have := HJ2.out; have := HK2.out; have := HK3.out; omega⟩, ⟨zR HQ27.out⟩, ⟨by (with_reducible repeat (first | apply Kd.R_alloc | apply Kd.R_drewN | apply Kd.R_drew)); exact Kd.R_mono (Kd.R_far (p := ⟨go24, ((ji20) : Int).toNat, none⟩) (Kd.R_mono HO_50.out (fun k_ hk => (⟨hk, fun e_ => hk (by rw [e_]; rfl)⟩ : _ ∧ k_ ≠ go24))) (fun _ hk => hk.2) (.int .i64 (Go.bits .xor .i64 (rd x9_3 (ji20)) t117))) (fun _ hk => hk.1)⟩, ⟨by repeat (first | (with_reducible first | exact HB.out | apply below_alloc | apply pw_below_drewN | apply below_drew1 | refine below_set ?_ GB24.out) | exact HB.out)⟩⟩
 rw [if_neg c10] at H
 have c10b0 := decide_eq_false c10
 clear c10
 obtain ⟨ji28, hji28⟩ : ∃ j_ : Int, (wrap64 ((l0.length : Int) + (wrap64 (2 * a1)))) = j_ := ⟨_, rfl⟩
 replace H : (if 0 ≤ (ji28) then (if (ji28 : Int).toNat ≤ 35184372088832 then (impl_RsCode.l2 k2 l0 x6_2 (List.replicate (ji28 : Int).toNat 0) l0 (l0.length : Int) 0) else (none)) else (none)) = some (r1, r2) := by first | (rw [hji28] at H; exact H) | (simp only [hji28] at H ⊢; exact H)
 have hji28w : (IntKind.i64.wrap ((l0.length : Int) + (wrap64 (2 * a1)))) = ji28 := (i64_w _).trans hji28
 replace H := zg H
 obtain ⟨c29, H⟩ := H
 have c29b0 := eq_true c29
 have c29b1 : decide (0 ≤ (ji28)) = true := decide_eq_true c29
 clear c29
 replace H := zg H
 obtain ⟨c30, H⟩ := H
 have c30b0 := eq_true c30
 have c30b1 : decide ((ji28 : Int).toNat ≤ 35184372088832) = true := decide_eq_true c30
 clear c30
 obtain ⟨y119, hy119⟩ : ∃ y_ : List Int, y_ = (List.replicate (ji28 : Int).toNat 0) := ⟨_, rfl⟩
 replace H : (impl_RsCode.l2 k2 l0 x6_2 y119 l0 (l0.length : Int) 0) = some (r1, r2) := by first | (rw [hy119]; with_reducible exact H) | (have H2_ := (Option.bind_some _ _).symm.trans H; rw [hy119]; with_reducible exact H2_) | (have H2_ := (Option.bind_some _ _).symm.trans H; with_reducible exact H2_) | with_reducible exact H | (rw [hy119]; exact H) | exact H
 have Ny119 := Aside0.mk hy119
 clear hy119
 have H' := Aside0.mk H
 clear H
 go_wp2_with (first | ((with_reducible refine gate_dst (N := 75) rfl ?_); (try (refine gate_guard (by rfl) ?_; dsimp only)); refine Kd.R_make (Kd.int .i64) _ 3 rfl (N := 75) rfl 24 _ _ rfl ji28 rfl rfl Try.underlying24 (.int .i64 0) 8 info3 rfl (by decide) (by omega) 0 (ok := fun _ => True) (okp := fun _ => True) rfl (fun _ hk => hk) trivial zD (Nat.le_trans (Nat.mul_le_mul_right _ (zD : ji28.toNat ≤ 35184372088832)) (by omega)) (Below.refl _ _) (Nat.le_refl _) ?_; intro v120 w31 ho32 hb hg_ hnew_; clear hg_ hnew_; (first | rw [← Ny119.out] at ho32 | (simp only [Int.reduceToNat] at ho32; rw [← Ny119.out] at ho32)); have n0_ := Aside0.mk (Kd.R_elder' (zR HO_6.out) (Kd.R_base ho32) hb); have n1_ := Aside0.mk (Kd.R_lower (Kd.R_new' ho32 (Kd.R_lt (zR HO_6.out))) (below_size zB)); have n2_ := Aside0.mk (below_step zB hb); clear HO_6; clear HB; have HO_6 := n0_; have HO121 := n1_; have HB := n2_; clear n0_ n1_ n2_; clear hb ho32))
 go_loopg [78] k2 (fun kq v78 w' => ∃ (x12_3 : List Int) (x78_3 : Int), v78 = .int .i64 x78_3 ∧ Aside0 (impl_RsCode.l2 kq l0 x6_2 x12_3 l0 (l0.length : Int) x78_3 = some (r1, r2)) ∧ Aside0 (kq ≤ k2) ∧ Aside0 (Kd.R (Kd.int .i64) 3 w' w.heap.size (fun k_ => some k_ ≠ (v120 : Value).ownBlock) u6 x6_2) ∧ Aside0 (Kd.R (Kd.int .i64) 3 w' w.heap.size (fun k_ => some k_ ≠ (u6 : Value).ownBlock) v120 x12_3) ∧ Aside0 (Below w.heap.size w w'))
 case atStart => exact ⟨(y119), (0), zO, H', ⟨Nat.le_refl _⟩, ⟨by (with_reducible repeat (first | apply Kd.R_alloc | apply Kd.R_drewN | apply Kd.R_drew)); exact Kd.R_mono HO_6.out (fun _ hk => hk.2)⟩, ⟨by (with_reducible repeat (first | apply Kd.R_alloc | apply Kd.R_drewN | apply Kd.R_drew)); exact Kd.R_mono HO121.out (fun _ hk => hk.2)⟩, ⟨zB⟩⟩
 case round =>
 clear H'
 try clear c1
 try clear p1
 try clear q1
 try clear hx1
 try clear c2
 try clear p2
 try clear q2
 try clear hx2
 try clear hf2
 try clear c3
 try clear c5
 try clear c6
 try clear c6b0
 try clear c6b1
 try clear p6
 try clear c7
 try clear c10
 try clear c10b0
 try clear c11
 try clear p11
 try clear q11
 try clear hx11
 try clear c13
 try clear c17
 try clear c17b0
 try clear c18
 try clear c18b0
 try clear c19
 try clear c19b0
 try clear c21
 try clear c21b0
 try clear c22
 try clear c22b0
 try clear p24
 try clear q24
 try clear hx24
 try clear hf24
 try clear c29
 try clear c29b0
 try clear c29b1
 try clear c30
 try clear c30b0
 try clear c30b1
 try clear c32
 try clear hx115_0
 try clear hx116_0
 try clear hx24_0
 try clear p115
 try clear p116
 try clear p2
 try clear p24
 try clear p6
 try clear q115
 try clear q116
 try clear q24
 obtain ⟨x12_3, x78_3, rfl, HA, HK3, HO_6, HO_12, HB⟩ := hrel
 cases gk with
 | zero => exact absurd HA.out (by simp [impl_RsCode.l2])
 | succ k3 =>
 have H := HA.out
 clear HA
 simp only [impl_RsCode.l2] at H
 by_cases c33 : x78_3 < (l0.length : Int)
 ·rw [if_pos c33] at H
  have c33b0 := decide_eq_true c33
  clear c33
  replace H := zg H
  obtain ⟨c34, H⟩ := H
  have c34b0 : decide (0 ≤ x78_3) = true := decide_eq_true c34
  clear c34
  replace H := zg H
  obtain ⟨c35, H⟩ := H
  have c35b0 : decide (x78_3 < (l0.length : Int)) = true := decide_eq_true c35
  clear c35
  replace H := zg H
  obtain ⟨c36, H⟩ := H
  have c36b0 : decide (x78_3 < (x12_3.length : Int)) = true := decide_eq_true c36
  clear c36
  obtain ⟨y123, hy123⟩ : ∃ y_ : List Int, y_ = (x12_3.set (x78_3 : Int).toNat (wrap64 (rd l0 x78_3))) := ⟨_, rfl⟩
  replace H : (impl_RsCode.l2 k3 l0 x6_2 y123 l0 (l0.length : Int) (wrap64 (x78_3 + 1))) = some (r1, r2) := by first | (rw [hy123]; with_reducible exact H) | (have H2_ := (Option.bind_some _ _).symm.trans H; rw [hy123]; with_reducible exact H2_) | (have H2_ := (Option.bind_some _ _).symm.trans H; with_reducible exact H2_) | with_reducible exact H | (rw [hy123]; exact H) | exact H
  have Ny123 := Aside0.mk hy123
  clear hy123
  have H' := Aside0.mk H
  clear H
  have p122 : 0 ≤ (x78_3 : Int) := zD
  have q122 : x78_3 < (l0.length : Int) := zD
  obtain ⟨ad122, e122, hx122_0⟩ := Kd.at_int HR0.out x78_3 p122 q122
  cases e122
  replace hx122_0 := (HB.out.cell (World.block_lt_of_cell? w _ hx122_0)).trans hx122_0
  replace p122 := eq_true p122
  replace q122 := eq_true q122
  have p37 : 0 ≤ (x78_3 : Int) := zD
  have q37 : (x78_3 : Int) < ((x12_3.length : Int) : Int) := zD
  obtain ⟨go37, co37, eo37, gb37, gl37, cl37, HG37⟩ := Kd.R_form HO_12.out (by omega)
  (first | cases eo37 | (injection eo37 with ea_ en_ ec_; (first | subst ea_ | (injection ea_ with ea_; subst ea_)); subst ec_; clear en_))
  have GB37 := Aside0.mk gb37
  have GG37 := Aside0.mk HG37
  clear gb37 gl37 HG37
  obtain ⟨hx37_0, hf37_0⟩ := Kd.R_celln 0 HO_12.out (x78_3 : Int) p37 q37
  replace p37 := eq_true p37
  replace q37 := eq_true q37
  have HP38 := Kd.R_putg HO_12.out (x78_3 : Int) (wrap64 (rd l0 x78_3))
  go_wp2_with (first | ((with_reducible refine gate_store (t := 3) (p := 87) rfl ?_); refine store_event (t := 3) (p := 87) (v := ?vo_w39) (w1 := (wr.setCell ⟨go37, (x78_3 : Int).toNat, none⟩ (.int .i64 (wrap64 (rd l0 x78_3))))) ?hg ?ho ?hn ?hr ?_; (case ho => rfl); (case hg => rfl); (case hn => rfl); (case hr => first | (go_simp; done) | (go_simp; rfl)); intro w39 hw; have hg : wr.grownBy w39 (some go37) := (by rw [hw]; exact HP38.2); have hp_ : Kd.R (Kd.int .i64) 3 w39 w.heap.size (fun k_ => some k_ ≠ (u6 : Value).ownBlock) (.slice (some ⟨go37, 0, none⟩) x12_3.length co37) y123 := (by rw [hw, Ny123.out]; exact HP38.1); clear HP38; have n0_ := Aside0.mk (Kd.R_after (v := (.slice (some ⟨go37, 0, none⟩) x12_3.length co37)) (v1 := (.slice (some ⟨go37, 0, none⟩) x12_3.length co37)) (ok := (fun _ => True)) (by (with_reducible repeat (first | apply Kd.R_alloc | apply Kd.R_drewN | apply Kd.R_drew)); exact Kd.R_mono HO_6.out (fun _ hk => ⟨trivial, hk⟩)) hg (.inl rfl)); have n1_ := Aside0.mk (hp_); have n2_ := Aside0.mk ((by rw [hw]; exact below_set (HB.out) GB37.out : Below w.heap.size w w39)); clear HO_6; clear HO_12; clear HB; have HO_6 := n0_; have HO_12 := n1_; have HB := n2_; clear n0_ n1_ n2_; clear hg hw hp_))
  refine Handed.intro k3 ?measure ?_
  rotate_left
  go_step
  (repeat apply Exists.intro)
  first | refine ⟨?rel, rfl⟩ | (simp only [add_plain]; refine ⟨?rel, rfl⟩)
  case measure => have := HJ2.out; have := HK2.out; have := HK3.out; omega
  case rel => exact ⟨(y123), (wrap64 (x78_3 + 1)), zO, H', ⟨by have := HJ2.out; have := HK2.out; have := HK3.out; omega⟩, ⟨by (with_reducible repeat (first | apply Kd.R_alloc | apply Kd.R_drewN | apply Kd.R_drew)); exact Kd.R_mono HO_6.out (fun _ hk => hk.2)⟩, ⟨zR HO_12.out⟩, ⟨zB⟩⟩
 rw [if_neg c33] at H
 have c33b0 := decide_eq_false c33
 clear c33
 have H' := Aside0.mk H
 clear H
 go_wp2
 go_loopg [91] k3 (fun kq v91 w' => ∃ (x12_4 : List Int) (x91_4 : Int), v91 = .int .i64 x91_4 ∧ Aside0 (impl_RsCode.l3 kq l0 x6_2 x12_4 (l0.length : Int) x91_4 = some (r1, r2)) ∧ Aside0 (kq ≤ k3) ∧ Aside0 (Kd.R (Kd.int .i64) 3 w' w.heap.size (fun k_ => some k_ ≠ (v120 : Value).ownBlock) u6 x6_2) ∧ Aside0 (Kd.R (Kd.int .i64) 3 w' w.heap.size (fun k_ => some k_ ≠ (u6 : Value).ownBlock) v120 x12_4) ∧ Aside0 (Below w.heap.size w w'))
 case atStart => exact ⟨(x12_3), (0), zO, H', ⟨Nat.le_refl _⟩, ⟨zR HO_6.out⟩, ⟨zR HO_12.out⟩, ⟨zB⟩⟩
 case round =>
 clear H'
 try clear c1
 try clear p1
 try clear q1
 try clear hx1
 try clear c2
 try clear p2
 try clear q2
 try clear hx2
 try clear hf2
 try clear c3
 try clear p3
 try clear q3
 try clear hx3
 try clear hf3
 try clear c5
 try clear c6
 try clear c6b0
 try clear c6b1
 try clear p6
 try clear c7
 try clear c10
 try clear c10b0
 try clear c11
 try clear p11
 try clear q11
 try clear hx11
 try clear p12
 try clear q12
 try clear hx12
 try clear c13
 try clear c17
 try clear c17b0
 try clear c18
 try clear c18b0
 try clear c19
 try clear c19b0
 try clear c21
 try clear c21b0
 try clear c22
 try clear c22b0
 try clear p24
 try clear q24
 try clear hx24
 try clear hf24
 try clear c29
 try clear c29b0
 try clear c29b1
 try clear c30
 try clear c30b0
 try clear c30b1
 try clear c32
 try clear c33
 try clear c33b0
 try clear c34
 try clear c34b0
 try clear c35
 try clear c35b0
 try clear c36
 try clear c36b0
 try clear p37
 try clear q37
 try clear hx37
 try clear hf37
 try clear hx115_0
 try clear hx116_0
 try clear hx122_0
 try clear hx24_0
 try clear hx37_0
 try clear p1
 try clear p11
 try clear p115
 try clear p116
 try clear p122
 try clear p2
 try clear p24
 try clear p37
 try clear p6
 try clear q1
 try clear q11
 try clear q115
 try clear q116
 try clear q122
 try clear q2
 try clear q24
 try clear q37
 obtain ⟨x12_4, x91_4, rfl, HA, HK4, HO_6, HO_12, HB⟩ := hrel
 cases gk with
 | zero => exact absurd HA.out (by simp [impl_RsCode.l3])
 | succ k4 =>
 have H := HA.out
 clear HA
 simp only [impl_RsCode.l3] at H
 by_cases c40 : x91_4 < (l0.length : Int)
 rotate_left
 ·rw [if_neg c40] at H
  have c40b0 := decide_eq_false c40
  clear c40
  replace H := zi H
  obtain ⟨t129, A55, H⟩ := H
  replace H := zg H
  obtain ⟨c56, H⟩ := H
  have c56b0 := eq_true c56
  have c56b1 : decide (0 ≤ (l0.length : Int)) = true := decide_eq_true c56
  clear c56
  replace H := zg H
  obtain ⟨c57, H⟩ := H
  have c57b0 := eq_true c57
  have c57b1 : decide ((l0.length : Int) ≤ (x12_4.length : Int)) = true := decide_eq_true c57
  clear c57
  replace H := zb H
  obtain ⟨y132, Ny132, H⟩ := H
  have H' := Aside0.mk H
  clear H
  go_wp2_with (first | ((with_reducible refine gate_callee (f := 36) rfl ?_); refine goesL_ (some 119) rfl rfl Try.func36 (by kernel_rfl) rfl #[.slice A0 l0.length c0] rfl zL ?_; (with_reducible refine (slices_Clone_byte_byte.calls _ _ l0 t129 _ ?side1 ?side2 A55.out).mono ?_); (case side1 => exact zC (Kd.C_below HR0.out HB.out)); (case side2 => exact HC0.out); rintro e w58 ⟨v130, rfl, ho0, hb⟩; refine ⟨_, rfl, ?_⟩; have n0_ := Aside0.mk (Kd.R_below (zR HO_6.out) hb); have n1_ := Aside0.mk (Kd.R_below (zR HO_12.out) hb); have n2_ := Aside0.mk (Kd.R_lower ho0 (below_size zB)); have n3_ := Aside0.mk (below_step zB hb); obtain ⟨wA, hKA, hBA, hRA, hWA⟩ := impl_RsCode.keep (zR HO_12.out) hb ho0 zB; have GKA := Aside0.mk hKA; have GBA := Aside0.mk hBA; have GRA := Aside0.mk hRA; have GWA := Aside0.mk hWA; clear hKA hBA hRA hWA; clear HO_6; clear HO_12; clear HB; have HO_6 := n0_; have HO_12 := n1_; have HO131 := n2_; have HB := n3_; clear n0_ n1_ n2_ n3_; (try clear hb); (try clear hb2); (try clear hk); (try clear hi); (try clear ho0); obtain ⟨Ao60, co60, eo60⟩ := Kd.R_slice HO_12.out; subst eo60; have q59 : ((l0.length : Int) : Int) ≤ ((x12_4.length : Int) : Int) := zD; obtain ⟨i059, hi059, _, hsz59, _⟩ := info_parts info3; have hroom59 : x12_4.length ≤ co60 := (Kd.R_reads' HO_12.out).2.1; have hC59 : Kd.C (Kd.int .i64) _ Ao60 x12_4.length x12_4 := (Kd.R_reads' GKA.out).2.2; have q059 : (0 : Int) ≤ ((l0.length : Int) : Int) := zD; have hcut59 := cut_from (P := Try.prog) 24 3 .i64 Try.underlying24 hi059 1 hsz59 Ao60 x12_4.length co60 (l0.length : Int) q059 q59; have hr59 := Kd.C_drop (m := ((l0.length : Int) : Int).toNat) (c := co60) hC59 (by omega) hroom59; obtain ⟨A59, hA59⟩ : ∃ A1, A1 = (if co60 = ((l0.length : Int) : Int).toNat then Ao60 else (Ao60 : Option Addr).map (·.add (((l0.length : Int) : Int).toNat * 1))) := ⟨_, rfl⟩; obtain ⟨c59, hc59⟩ : ∃ c1, c1 = co60 - ((l0.length : Int) : Int).toNat := ⟨_, rfl⟩; have hy59 : y132.length = x12_4.length - ((l0.length : Int) : Int).toNat := (by rw [Ny132.out, List.length_drop] <;> omega); rw [show (x12_4).drop ((l0.length : Int) : Int).toNat = y132 from Ny132.out.symm] at hr59; replace hr59 : Kd.C (Kd.int .i64) _ A59 y132.length y132 := (by rw [hA59]; exact hr59); rw [← hy59, ← hA59, ← hc59] at hcut59; have HR135 := Aside0.mk hr59; have HC135 := Aside0.mk (show y132.length ≤ c59 from by rw [hy59, hc59]; exact Nat.sub_le_sub_right hroom59 _); clear hr59 hC59 hroom59 hi059 hsz59 hc59; have KY59 := Aside0.mk hy59; have KA59 := Aside0.mk hA59; clear hy59 hA59; have KL59 := Aside0.mk (show ((l0.length : Int) : Int).toNat ≤ x12_4.length from by omega); replace q59 := eq_true q59))
  clear HB; clear HO131; have HB := GBA; have HO131 := GRA; clear GBA; clear GRA; go_loopg [19, 125] k4 (fun kq v19 v125 w' => ∃ (x19_5 : List Int) (x125_5 : Int), v125 = .int .i64 x125_5 ∧ Aside0 (impl_RsCode.l5 kq x19_5 y132 (y132.length : Int) x125_5 = some (r1, r2)) ∧ Aside0 (kq ≤ k4) ∧ Aside0 (Kd.R (Kd.int .u8) 5 w' wA.heap.size (fun _ => True) v19 x19_5) ∧ Aside0 (Below wA.heap.size wA w'))
  case atStart => exact ⟨(t129), (0), zO, H', ⟨Nat.le_refl _⟩, ⟨zR HO131.out⟩, ⟨zB⟩⟩
  case round =>
  clear H'
  try clear c1
  try clear p1
  try clear q1
  try clear hx1
  try clear c2
  try clear p2
  try clear q2
  try clear hx2
  try clear hf2
  try clear c3
  try clear p3
  try clear q3
  try clear hx3
  try clear hf3
  try clear c4
  try clear c5
  try clear p5
  try clear q5
  try clear hx5
  try clear hf5
  try clear c6
  try clear c6b0
  try clear c6b1
  try clear p6
  try clear c7
  try clear c10
  try clear c10b0
  try clear c11
  try clear p11
  try clear q11
  try clear hx11
  try clear p12
  try clear q12
  try clear hx12
  try clear c13
  try clear c17
  try clear c17b0
  try clear c18
  try clear c18b0
  try clear c19
  try clear c19b0
  try clear c21
  try clear c21b0
  try clear c22
  try clear c22b0
  try clear p24
  try clear q24
  try clear hx24
  try clear hf24
  try clear c29
  try clear c29b0
  try clear c29b1
  try clear c30
  try clear c30b0
  try clear c30b1
  try clear c32
  try clear c33
  try clear c33b0
  try clear c34
  try clear c34b0
  try clear c35
  try clear c35b0
  try clear c36
  try clear c36b0
  try clear p37
  try clear q37
  try clear hx37
  try clear hf37
  try clear c40
  try clear c40b0
  try clear c41
  try clear c41b0
  try clear c42
  try clear c42b0
  try clear c45
  try clear c45b0
  try clear c46
  try clear c46b0
  try clear c47
  try clear c47b0
  try clear c49
  try clear c49b0
  try clear c50
  try clear c50b0
  try clear p52
  try clear q52
  try clear hx52
  try clear hf52
  try clear c56
  try clear c56b0
  try clear c56b1
  try clear c57
  try clear c57b0
  try clear c57b1
  try clear c59
  try clear q59
  try clear hx115_0
  try clear hx116_0
  try clear hx122_0
  try clear hx124_0
  try clear hx125_0
  try clear hx126_0
  try clear hx24_0
  try clear hx37_0
  try clear hx52_0
  try clear p1
  try clear p11
  try clear p115
  try clear p116
  try clear p12
  try clear p122
  try clear p124
  try clear p125
  try clear p126
  try clear p2
  try clear p24
  try clear p3
  try clear p37
  try clear p52
  try clear p6
  try clear q059
  try clear q1
  try clear q11
  try clear q115
  try clear q116
  try clear q12
  try clear q122
  try clear q124
  try clear q125
  try clear q126
  try clear q2
  try clear q24
  try clear q3
  try clear q37
  try clear q52
  try clear q59
  obtain ⟨x19_5, x125_5, rfl, HA, HK5, HO_19, HB⟩ := hrel
  cases gk with
  | zero => exact absurd HA.out (by simp [impl_RsCode.l5])
  | succ k5 =>
  have H := HA.out
  clear HA
  simp only [impl_RsCode.l5] at H
  by_cases c61 : x125_5 < (y132.length : Int)
  rotate_left
  ·rw [if_neg c61] at H
   have c61b0 := decide_eq_false c61
   clear c61
   simp only [Option.some.injEq, Prod.mk.injEq] at H
   obtain ⟨rfl, rfl⟩ := H
   go_wp2
   go_ret2
   exact ⟨_, by first | rfl | (simp [errW_none, errW_some] <;> rfl) | (simp only [← hji28]; first | rfl | (simp [errW_none, errW_some] <;> rfl)) | (simp [*, errW_none, errW_some] <;> rfl), by (with_reducible repeat (first | apply Kd.R_alloc | apply Kd.R_drewN | apply Kd.R_drew)); exact Kd.R_lower HO_19.out (below_size GWA.out), below_step GWA.out zB⟩
  rw [if_pos c61] at H
  have c61b0 := decide_eq_true c61
  clear c61
  replace H := zg H
  obtain ⟨c62, H⟩ := H
  have c62b0 : decide (0 ≤ x125_5) = true := decide_eq_true c62
  clear c62
  replace H := zg H
  obtain ⟨c63, H⟩ := H
  have c63b0 : decide (x125_5 < (y132.length : Int)) = true := decide_eq_true c63
  clear c63
  replace H := zg H
  obtain ⟨c64, H⟩ := H
  have LMc64 := Aside0.mk c64
  clear c64
  obtain ⟨y137, hy137⟩ : ∃ y_ : List Int, y_ = (x19_5 ++ [(rd y132 x125_5) % 256]) := ⟨_, rfl⟩
  replace H : (impl_RsCode.l5 k5 y137 y132 (y132.length : Int) (wrap64 (x125_5 + 1))) = some (r1, r2) := by first | (rw [hy137]; with_reducible exact H) | (have H2_ := (Option.bind_some _ _).symm.trans H; rw [hy137]; with_reducible exact H2_) | (have H2_ := (Option.bind_some _ _).symm.trans H; with_reducible exact H2_) | with_reducible exact H | (rw [hy137]; exact H) | exact H
  have Ny137 := Aside0.mk hy137
  clear hy137
  have H' := Aside0.mk H
  clear H
  have p136 : 0 ≤ (x125_5 : Int) := zD
  have q136 : x125_5 < (y132.length : Int) := zD
  obtain ⟨ad136, e136, hx136_0⟩ := Kd.at_int HR135.out x125_5 p136 q136
  cases e136
  replace hx136_0 := pw_cell_below HB.out hx136_0
  replace p136 := eq_true p136
  replace q136 := eq_true q136
  go_wp2_with (first | ((with_reducible refine gate_builtin (b := .append) (xs := #[.tmp 129, .tmp 132]) rfl ?_); (try (refine gate_guard (by rfl) ?_; dsimp only)); at_builtin; refine Kd.R_append (Kd.int .u8) (w0 := wA) wA.heap.size rfl (.tmp 129) (.tmp 132) 22 5 (.int .u8 0) 1 rfl Try.underlying22 info5 rfl (by decide) (by omega) u19 x19_5 ((rd y132 x125_5) % 256) [.int .u8 ((rd y132 x125_5) % 256)] (fun _ => True) (fun _ => False) rfl rfl ?aP (fun _ hk => hk.elim) ?aF ?aO ?aB ?aS ?aL ?_; (case aP => exact rfl); (case aB => exact zB); (case aF => exact (fun _ _ => trivial)); (case aO => exact (zR HO_19.out)); (case aS => exact (below_size zB)); (case aL => have := LMc64.out; omega); intro v138 w65 ho hb hg hat; rw [← Ny137.out] at ho; have n0_ := Aside0.mk (hb); have n1_ := Aside0.mk (ho); clear HB; clear HO_19; have HB := n0_; have HO139 := n1_; clear n0_ n1_; clear ho hb hg hat))
  refine Handed.intro k5 ?measure ?_
  rotate_left
  go_step
  (repeat apply Exists.intro)
  first | refine ⟨?rel, rfl⟩ | (simp only [add_plain]; refine ⟨?rel, rfl⟩)
  case measure => have := HJ2.out; have := HK2.out; have := HK3.out; have := HK4.out; have := HK5.out; omega
  case rel => exact ⟨(y137), (wrap64 (x125_5 + 1)), zO, H', ⟨by have := HJ2.out; have := HK2.out; have := HK3.out; have := HK4.out; have := HK5.out; omega⟩, ⟨zR HO139.out⟩, ⟨zB⟩⟩
 rw [if_pos c40] at H
 have c40b0 := decide_eq_true c40
 clear c40
 replace H := zg H
 obtain ⟨c41, H⟩ := H
 have c41b0 : decide (0 ≤ x91_4) = true := decide_eq_true c41
 clear c41
 replace H := zg H
 obtain ⟨c42, H⟩ := H
 have c42b0 : decide (x91_4 < (x12_4.length : Int)) = true := decide_eq_true c42
 clear c42
 have H' := Aside0.mk H
 clear H
 obtain ⟨Ao43, co43, eo43⟩ := Kd.R_slice HO_12.out
 subst eo43
 have p124 : 0 ≤ (x91_4 : Int) := zD
 have q124 : x91_4 < (x12_4.length : Int) := zD
 obtain ⟨ad124, e124, hx124_0⟩ := Kd.at_int (Kd.R_reads' HO_12.out).2.2 x91_4 p124 q124
 cases e124
 replace p124 := eq_true p124
 replace q124 := eq_true q124
 obtain ⟨Ao44, co44, eo44⟩ := Kd.R_slice HO_6.out
 subst eo44
 go_wp2
 go_loopg [100] k4 (fun kq v100 w' => ∃ (x12_5 : List Int) (x100_5 : Int), v100 = .int .i64 x100_5 ∧ Aside0 (impl_RsCode.l4 kq l0 x6_2 x12_5 x91_4 (rd x12_4 x91_4) (l0.length : Int) x91_4 x6_2 (x6_2.length : Int) x100_5 = some (r1, r2)) ∧ Aside0 (kq ≤ k4) ∧ Aside0 (Kd.R (Kd.int .i64) 3 w' w.heap.size (fun k_ => some k_ ≠ ((.slice (some ad124) x12_4.length co43) : Value).ownBlock) (.slice Ao44 x6_2.length co44) x6_2) ∧ Aside0 (Kd.R (Kd.int .i64) 3 w' w.heap.size (fun k_ => some k_ ≠ ((.slice Ao44 x6_2.length co44) : Value).ownBlock ∧ some k_ ≠ ((.slice Ao44 x6_2.length co44) : Value).ownBlock) (.slice (some ad124) x12_4.length co43) x12_5) ∧ Aside0 (Kd.R (Kd.int .i64) 3 w' w.heap.size (fun k_ => some k_ ≠ ((.slice (some ad124) x12_4.length co43) : Value).ownBlock) (.slice Ao44 x6_2.length co44) x6_2) ∧ Aside0 (Below w.heap.size w w'))
 case atStart => exact ⟨(x12_4), (0), zO, H', ⟨Nat.le_refl _⟩, ⟨zR HO_6.out⟩, ⟨by (with_reducible repeat (first | apply Kd.R_alloc | apply Kd.R_drewN | apply Kd.R_drew)); exact Kd.R_mono HO_12.out (fun _ hk => ⟨hk, hk⟩)⟩, ⟨zR HO_6.out⟩, ⟨zB⟩⟩
 case round =>
 clear H'
 try clear c1
 try clear p1
 try clear q1
 try clear hx1
 try clear c2
 try clear p2
 try clear q2
 try clear hx2
 try clear hf2
 try clear c3
 try clear p3
 try clear q3
 try clear hx3
 try clear hf3
 try clear c4
 try clear c5
 try clear c6
 try clear c6b0
 try clear c6b1
 try clear p6
 try clear c7
 try clear c10
 try clear c10b0
 try clear c11
 try clear p11
 try clear q11
 try clear hx11
 try clear p12
 try clear q12
 try clear hx12
 try clear c13
 try clear c17
 try clear c17b0
 try clear c18
 try clear c18b0
 try clear c19
 try clear c19b0
 try clear c21
 try clear c21b0
 try clear c22
 try clear c22b0
 try clear p24
 try clear q24
 try clear hx24
 try clear hf24
 try clear c29
 try clear c29b0
 try clear c29b1
 try clear c30
 try clear c30b0
 try clear c30b1
 try clear c32
 try clear c33
 try clear c33b0
 try clear c34
 try clear c34b0
 try clear c35
 try clear c35b0
 try clear c36
 try clear c36b0
 try clear p37
 try clear q37
 try clear hx37
 try clear hf37
 try clear c40
 try clear c40b0
 try clear c41
 try clear c41b0
 try clear c42
 try clear c42b0
 try clear hx115_0
 try clear hx116_0
 try clear hx122_0
 try clear hx124_0
 try clear hx24_0
 try clear hx37_0
 try clear p1
 try clear p11
 try clear p115
 try clear p116
 try clear p12
 try clear p122
 try clear p124
 try clear p2
 try clear p24
 try clear p3
 try clear p37
 try clear p6
 try clear q1
 try clear q11
 try clear q115
 try clear q116
 try clear q12
 try clear q122
 try clear q124
 try clear q2
 try clear q24
 try clear q3
 try clear q37
 obtain ⟨x12_5, x100_5, rfl, HA, HK5, HO_6, HO_12, HO_98, HB⟩ := hrel
 have hl12_5 := (Kd.R_reads' HO_12.out).1
 rw [hl12_5] at HO_12
 (try simp only [hl12_5])
 (try simp only [hl12_5] at HO_6)
 (try simp only [hl12_5] at HO_98)
 cases gk with
 | zero => exact absurd HA.out (by simp [impl_RsCode.l4])
 | succ k5 =>
 have H := HA.out
 clear HA
 simp only [impl_RsCode.l4] at H
 by_cases c45 : x100_5 < (x6_2.length : Int)
 rotate_left
 ·rw [if_neg c45] at H
  have c45b0 := decide_eq_false c45
  clear c45
  have H' := Aside0.mk H
  clear H
  go_wp2
  (try simp only [← hl12_5])
  refine Handed.intro k5 ?measure ?_
  rotate_left
  go_step
  (repeat apply Exists.intro)
  first | refine ⟨?rel, rfl⟩ | (simp only [add_plain]; refine ⟨?rel, rfl⟩)
  case measure => have := HJ2.out; have := HK2.out; have := HK3.out; have := HK4.out; have := HK5.out; omega
  case rel => exact ⟨(x12_5), (wrap64 (x91_4 + 1)), zO, H', ⟨by have := HJ2.out; have := HK2.out; have := HK3.out; have := HK4.out; have := HK5.out; omega⟩, ⟨by (try simp only [hl12_5]); (with_reducible repeat (first | apply Kd.R_alloc | apply Kd.R_drewN | apply Kd.R_drew)); exact HO_6.out⟩, ⟨by (try simp only [hl12_5]); (with_reducible repeat (first | apply Kd.R_alloc | apply Kd.R_drewN | apply Kd.R_drew)); exact Kd.R_mono HO_12.out (fun _ hk => hk.1)⟩, ⟨zB⟩⟩
 rw [if_pos c45] at H
 have c45b0 := decide_eq_true c45
 clear c45
 replace H := zg H
 obtain ⟨c46, H⟩ := H
 have c46b0 : decide (0 ≤ x100_5) = true := decide_eq_true c46
 clear c46
 replace H := zg H
 obtain ⟨c47, H⟩ := H
 have c47b0 : decide (x100_5 < (x6_2.length : Int)) = true := decide_eq_true c47
 clear c47
 obtain ⟨ji48, hji48⟩ : ∃ j_ : Int, (wrap64 (x91_4 + x100_5)) = j_ := ⟨_, rfl⟩
 replace H : (if 0 ≤ (ji48) then (if (ji48) < (x12_5.length : Int) then ((impl_GfMul.f k5 (rd x6_2 x100_5) (rd x12_4 x91_4)).bind fun t127 => (impl_RsCode.l4 k5 l0 x6_2 (x12_5.set ((ji48) : Int).toNat (Go.bits .xor .i64 (rd x12_5 (ji48)) t127)) x91_4 (rd x12_4 x91_4) (l0.length : Int) x91_4 x6_2 (x6_2.length : Int) (wrap64 (x100_5 + 1)))) else (none)) else (none)) = some (r1, r2) := by first | (rw [hji48] at H; exact H) | (simp only [hji48] at H ⊢; exact H)
 have hji48w : (IntKind.i64.wrap (x91_4 + x100_5)) = ji48 := (i64_w _).trans hji48
 replace H := zg H
 obtain ⟨c49, H⟩ := H
 have c49b0 : decide (0 ≤ (ji48)) = true := decide_eq_true c49
 clear c49
 replace H := zg H
 obtain ⟨c50, H⟩ := H
 have c50b0 : decide ((ji48) < (x12_5.length : Int)) = true := decide_eq_true c50
 clear c50
 replace H := zi H
 obtain ⟨t127, A51, H⟩ := H
 obtain ⟨y128, hy128⟩ : ∃ y_ : List Int, y_ = (x12_5.set ((ji48) : Int).toNat (Go.bits .xor .i64 (rd x12_5 (ji48)) t127)) := ⟨_, rfl⟩
 replace H : (impl_RsCode.l4 k5 l0 x6_2 y128 x91_4 (rd x12_4 x91_4) (l0.length : Int) x91_4 x6_2 (x6_2.length : Int) (wrap64 (x100_5 + 1))) = some (r1, r2) := by first | (rw [hy128]; with_reducible exact H) | (have H2_ := (Option.bind_some _ _).symm.trans H; rw [hy128]; with_reducible exact H2_) | (have H2_ := (Option.bind_some _ _).symm.trans H; with_reducible exact H2_) | with_reducible exact H | (rw [hy128]; exact H) | exact H
 have Ny128 := Aside0.mk hy128
 clear hy128
 have H' := Aside0.mk H
 clear H
 have p125 : 0 ≤ (x100_5 : Int) := zD
 have q125 : x100_5 < (x6_2.length : Int) := zD
 obtain ⟨ad125, e125, hx125_0⟩ := Kd.at_int (Kd.R_reads' HO_98.out).2.2 x100_5 p125 q125
 cases e125
 replace p125 := eq_true p125
 replace q125 := eq_true q125
 try go_wp2
 have n0_ := Aside0.mk (Kd.R_drew HO_6.out)
 have n1_ := Aside0.mk (Kd.R_drew HO_12.out)
 have n2_ := Aside0.mk (Kd.R_drew HO_98.out)
 have n3_ := Aside0.mk (below_drew1 HB.out)
 clear HO_6
 clear HO_12
 clear HO_98
 clear HB
 have HO_6 := n0_
 have HO_12 := n1_
 have HO_98 := n2_
 have HB := n3_
 clear n0_ n1_ n2_ n3_
 have p126 : 0 ≤ ((ji48) : Int) := zD
 have q126 : (ji48) < (x12_5.length : Int) := zD
 obtain ⟨ad126, e126, hx126_0⟩ := Kd.at_int (Kd.R_reads' HO_12.out).2.2 (ji48) p126 q126
 obtain rfl : ad124 = ad126 := (by injection e126)
 replace p126 := eq_true p126
 replace q126 := eq_true q126
 refine start_ (n := 12) (S := fun w' => w'.cell? (ad124.add ((ji48)).toNat) = some (.int .i64 (rd x12_5 (ji48)))) (ds := [11]) impl_RsCode.mk_12 (by kernel_rfl) rfl rfl (hx126_0) (fun hHeld => ?_); refine with_tabW impl_RsCode.tab29 impl_RsCode.bits29 (fun HT_ HW_ => ?_)
 generalize wr.drew = w53 at HO_6 HO_12 HO_98 HB hx126_0 hHeld ⊢
 refine zP 0 105 impl_RsCode.mk_13 ?_
 refine zP 1 106 impl_RsCode.mk_14 ?_
 refine zP 2 107 impl_RsCode.mk_15 ?_
 refine zP 3 108 impl_RsCode.mk_16 ?_
 refine zP 4 109 impl_RsCode.mk_17 ?_
 refine zP 6 111 impl_RsCode.mk_18 ?_
 refine zP 7 112 impl_RsCode.mk_19 ?_
 refine zT1 5 110 impl_RsCode.mk_20 ?_
 refine one_ (i := 8) (N := some 113) impl_RsCode.mk_21 rfl rfl (one_of HT_.out (by kernel_rfl)) (by decide) (fun K hK => ?_)
 refine goes_ Try.func35 (by kernel_rfl) rfl #[.int .i64 (rd x6_2 x100_5), .int .i64 (rd x12_4 x91_4)] (by rfl) rfl rfl zL ?_
 with_reducible refine (impl_GfMul.calls k5 (rd x6_2 x100_5) (rd x12_4 x91_4) t127 _ A51.out).mono ?_
 rintro e w' ⟨rfl, ⟨nd, rfl⟩⟩
 refine ⟨_, rfl, ?_⟩
 have p52 : 0 ≤ ((ji48) : Int) := zD
 have q52 : ((ji48) : Int) < ((x12_5.length : Int) : Int) := zD
 obtain ⟨go52, co52, eo52, gb52, gl52, cl52, HG52⟩ := Kd.R_form HO_12.out (by omega)
 (first | cases eo52 | (injection eo52 with ea_ en_ ec_; (first | subst ea_ | (injection ea_ with ea_; subst ea_)); subst ec_; clear en_))
 have GB52 := Aside0.mk gb52
 have GG52 := Aside0.mk HG52
 clear gb52 gl52 HG52
 (first | simp only [add_plain] at hx124_0 | skip)
 (first | simp only [add_plain] at hx126_0 | skip)
 obtain ⟨hx52_0, hf52_0⟩ := Kd.R_celln 0 HO_12.out ((ji48) : Int) p52 q52
 replace p52 := eq_true p52
 replace q52 := eq_true q52
 have HP54 := Kd.R_putn HO_12.out ((ji48) : Int) (Go.bits .xor .i64 (rd x12_5 (ji48)) t127)
 rw [← Ny128.out] at HP54
 have HQ54 := Aside0.mk HP54
 clear HP54
 refine hK.out _ _ (hHeld) (fun hHeld => ?_)
 clear hK K
 refine norm_ (a' := ?_) ?_ ?_
 rotate_left
 ·show Act.put _ (some 113) _ = _
  simp only [Act.put, List.setIfInBounds_toArray, List.set_cons_zero, List.set_cons_succ, i64_w, i32_w]
  rfl
 refine zP 9 114 impl_RsCode.mk_22 ?_
 refine zP 10 115 impl_RsCode.mk_23 ?_
 refine last_ (i := 11) (N := none) impl_RsCode.mk_24 rfl rfl (one_of HT_.out (by kernel_rfl)) (by decide) (fun K hK => ?_)
 refine skip_ (w1 := ?_) (by rfl) rfl ?_ ?_
 rotate_left
 ·go_simp
  rfl
 refine hK.out _ _ ?_
 clear hK K
 refine done_ (done_of HT_.out (by kernel_rfl)) ?_
 try go_wp2
 (try simp only [← hl12_5])
 refine Handed.intro k5 ?measure ?_
 rotate_left
 go_step
 (repeat apply Exists.intro)
 first | refine ⟨?rel, rfl⟩ | (simp only [add_plain]; refine ⟨?rel, rfl⟩)
 case measure => have := HJ2.out; have := HK2.out; have := HK3.out; have := HK4.out; have := HK5.out; omega
 case rel => exact ⟨(y128), (wrap64 (x100_5 + 1)), zO, H', ⟨by have := HJ2.out; have := HK2.out; have := HK3.out; have := HK4.out; have := HK5.out; omega⟩, ⟨by (try simp only [hl12_5]); (with_reducible repeat (first | apply Kd.R_alloc | apply Kd.R_drewN | apply Kd.R_drew)); exact Kd.R_mono (Kd.R_far (p := ⟨go52, ((ji48) : Int).toNat, none⟩) (Kd.R_mono HO_6.out (fun k_ hk => (⟨hk, fun e_ => hk (by rw [e_]; rfl)⟩ : _ ∧ k_ ≠ go52))) (fun _ hk => hk.2) (.int .i64 (Go.bits .xor .i64 (rd x12_5 (ji48)) t127))) (fun _ hk => hk.1)⟩, ⟨by (try simp only [hl12_5]); (with_reducible repeat (first | apply Kd.R_alloc | apply Kd.R_drewN | apply Kd.R_drew)); exact HQ54.out⟩, ⟨by (try simp only [hl12_5]); (with_reducible repeat (first | apply Kd.R_alloc | apply Kd.R_drewN | apply Kd.R_drew)); exact Kd.R_mono (Kd.R_far (p := ⟨go52, ((ji48) : Int).toNat, none⟩) (Kd.R_mono HO_98.out (fun k_ hk => (⟨hk, fun e_ => hk (by rw [e_]; rfl)⟩ : _ ∧ k_ ≠ go52))) (fun _ hk => hk.2) (.int .i64 (Go.bits .xor .i64 (rd x12_5 (ji48)) t127))) (fun _ hk => hk.1)⟩, ⟨by repeat (first | (with_reducible first | exact HB.out | apply below_alloc | apply pw_below_drewN | apply below_drew1 | refine below_set ?_ GB52.out) | exact HB.out)⟩⟩

end Go.Proofs.Ytdcjfcfiflpblaa.PFnNearestWord
