/- The functions that FnNearestWord reaches, each with its walk; written by a program (own.py). -/
import Derived.Test.YtdcjfcfiflpblaaSh
import Derived.Test.YtdcjfcfiflpblaaQFnNearestWordx0
import Derived.Test.YtdcjfcfiflpblaaQFnNearestWordx6
import Derived.Test.YtdcjfcfiflpblaaQFnNearestWordx7
namespace Go.Proofs.Ytdcjfcfiflpblaa.PFnNearestWord
open Go.RowKit Go.Proofs.YtdcjfcfiflpblaaW.PrintWords Go.Proofs.YtdcjfcfiflpblaaW.PrintLast Go.Proofs.YtdcjfcfiflpblaaW.PrintMore
attribute [local go_sem] max2_int min2_int max_two min_two max_three min_three max_four min_four   -- for this text's walks alone
set_option linter.unusedVariables false
set_option linter.unusedSimpArgs false

/-! ### spec_RsCode: function 20 -/
mutual
def spec_RsCode.j0 : Nat → List Int → Int → Bool → Option (List Int × Bool)
  | 0, _, _, _ => none
  | k + 1, x0, x1, x27 => if x27 = true then (some ((([] : List Int)), false)) else (spec_RsCode.l0 k x0 x1 (([1] : List Int)) 0)
def spec_RsCode.l0 : Nat → List Int → Int → List Int → Int → Option (List Int × Bool)
  | 0, _, _, _, _ => none
  | k + 1, x0, x1, x6, x7 => if x7 < (wrap64 (2 * x1)) then ((some (([] : List Int) : List Int)).bind fun y390 => (if y390.length + x6.length < 17592186044416 then ((some (y390 ++ x6 : List Int)).bind fun y393 => (if y393.length < 17592186044416 then (spec_RsCode.l1 k x0 x1 x6 x7 (y393 ++ [0]) 0) else (none))) else (none))) else (if 0 ≤ (wrap64 (2 * x1)) then (if (wrap64 (2 * x1) : Int).toNat ≤ 35184372088832 then (spec_RsCode.l2 k x0 x6 (List.replicate (wrap64 (2 * x1) : Int).toNat 0) 0) else (none)) else (none))
def spec_RsCode.l1 : Nat → List Int → Int → List Int → Int → List Int → Int → Option (List Int × Bool)
  | 0, _, _, _, _, _, _ => none
  | k + 1, x0, x1, x6, x7, x8, x9 => if x9 < (x6.length : Int) then (if 0 ≤ (wrap64 (x9 + 1)) then (if (wrap64 (x9 + 1)) < (x8.length : Int) then (if 0 ≤ x9 then ((spec_l14Pow.f k x7).bind fun t401 => ((spec_GfMul.f k (rd x6 x9) t401).bind fun t402 => (spec_RsCode.l1 k x0 x1 x6 x7 (x8.set ((wrap64 (x9 + 1)) : Int).toNat (Go.bits .xor .i64 (rd x8 (wrap64 (x9 + 1))) t402)) (wrap64 (x9 + 1))))) else (none)) else (none)) else (none)) else (spec_RsCode.l0 k x0 x1 x8 (wrap64 (x7 + 1)))
def spec_RsCode.l2 : Nat → List Int → List Int → List Int → Int → Option (List Int × Bool)
  | 0, _, _, _, _ => none
  | k + 1, x0, x6, x10, x11 => if x11 < (x0.length : Int) then (if 0 < (x10.length : Int) then (if 0 ≤ x11 then ((some (([] : List Int) : List Int)).bind fun y409 => (if 1 ≤ (x10.length : Int) then ((some (x10.drop 1 : List Int)).bind fun y412 => (if y409.length + y412.length < 17592186044416 then ((some (y409 ++ y412 : List Int)).bind fun y416 => (if y416.length < 17592186044416 then (spec_RsCode.l3 k x0 x6 (y416 ++ [0]) x11 (Go.bits .xor .i64 (rd x10 0) (wrap64 (rd x0 x11))) 0) else (none))) else (none))) else (none))) else (none)) else (none)) else ((some (([] : List Int) : List Int)).bind fun y426 => (if y426.length + x0.length < 140737488355328 then (spec_RsCode.l4 k x10 (y426 ++ x0) 0) else (none)))
def spec_RsCode.l3 : Nat → List Int → List Int → List Int → Int → Int → Int → Option (List Int × Bool)
  | 0, _, _, _, _, _, _ => none
  | k + 1, x0, x6, x10, x11, x12, x13 => if x13 < (x10.length : Int) then (if 0 ≤ x13 then (if 0 ≤ (wrap64 (x13 + 1)) then (if (wrap64 (x13 + 1)) < (x6.length : Int) then ((spec_GfMul.f k x12 (rd x6 (wrap64 (x13 + 1)))).bind fun t424 => (spec_RsCode.l3 k x0 x6 (x10.set (x13 : Int).toNat (Go.bits .xor .i64 (rd x10 x13) t424)) x11 x12 (wrap64 (x13 + 1)))) else (none)) else (none)) else (none)) else (spec_RsCode.l2 k x0 x6 x10 (wrap64 (x11 + 1)))
def spec_RsCode.l4 : Nat → List Int → List Int → Int → Option (List Int × Bool)
  | 0, _, _, _ => none
  | k + 1, x10, x14, x15 => if x15 < (x10.length : Int) then (if 0 ≤ x15 then (if x14.length < 140737488355328 then (spec_RsCode.l4 k x10 (x14 ++ [(rd x10 x15) % 256]) (wrap64 (x15 + 1))) else (none)) else (none)) else (some (x14, true))
end
def spec_RsCode.f (k : Nat) (l0 : List Int) (a1 : Int) : Option (List Int × Bool) := (spec_l14Mend.f a1).bind fun t382 => (if t382 = true then ((spec_l1In.f (l0.length : Int) 1 (wrap64 (255 - (wrap64 (2 * a1))))).bind fun t383 => (spec_RsCode.j0 k l0 a1 (!t383))) else (spec_RsCode.j0 k l0 a1 true))
theorem spec_RsCode.mono_l : ∀ k, (∀ y0 y1 y2, LeO (spec_RsCode.j0 k y0 y1 y2) (spec_RsCode.j0 (k + 1) y0 y1 y2)) ∧ (∀ y0 y1 y2 y3, LeO (spec_RsCode.l0 k y0 y1 y2 y3) (spec_RsCode.l0 (k + 1) y0 y1 y2 y3)) ∧ (∀ y0 y1 y2 y3 y4 y5, LeO (spec_RsCode.l1 k y0 y1 y2 y3 y4 y5) (spec_RsCode.l1 (k + 1) y0 y1 y2 y3 y4 y5)) ∧ (∀ y0 y1 y2 y3, LeO (spec_RsCode.l2 k y0 y1 y2 y3) (spec_RsCode.l2 (k + 1) y0 y1 y2 y3)) ∧ (∀ y0 y1 y2 y3 y4 y5, LeO (spec_RsCode.l3 k y0 y1 y2 y3 y4 y5) (spec_RsCode.l3 (k + 1) y0 y1 y2 y3 y4 y5)) ∧ (∀ y0 y1 y2, LeO (spec_RsCode.l4 k y0 y1 y2) (spec_RsCode.l4 (k + 1) y0 y1 y2))
  | 0 => ⟨fun _ _ _ r h => by simp [spec_RsCode.j0] at h, fun _ _ _ _ r h => by simp [spec_RsCode.l0] at h, fun _ _ _ _ _ _ r h => by simp [spec_RsCode.l1] at h, fun _ _ _ _ r h => by simp [spec_RsCode.l2] at h, fun _ _ _ _ _ _ r h => by simp [spec_RsCode.l3] at h, fun _ _ _ r h => by simp [spec_RsCode.l4] at h⟩
  | k + 1 => by
    obtain ⟨ih0, ih1, ih2, ih3, ih4, ih5⟩ := spec_RsCode.mono_l k
    refine ⟨?_, ?_, ?_, ?_, ?_, ?_⟩ <;> intros
    all_goals first | unfold spec_RsCode.j0 | unfold spec_RsCode.l0 | unfold spec_RsCode.l1 | unfold spec_RsCode.l2 | unfold spec_RsCode.l3 | unfold spec_RsCode.l4
    all_goals repeat' first
    | (with_reducible exact ih0 _ _ _)
    | (with_reducible exact ih1 _ _ _ _)
    | (with_reducible exact ih2 _ _ _ _ _ _)
    | (with_reducible exact ih3 _ _ _ _)
    | (with_reducible exact ih4 _ _ _ _ _ _)
    | (with_reducible exact ih5 _ _ _)
    | (with_reducible exact spec_GfMul.mono _ _ _)
    | (with_reducible exact spec_l14Pow.mono _ _)
    | (with_reducible exact LeO.refl _)
    | (with_reducible exact LeO.none _)
    | (with_reducible refine LeO.ite ?_ ?_)
    | (with_reducible refine LeO.bind ?_ (fun _ => ?_))
    | exact ih0 _ _ _
    | exact ih1 _ _ _ _
    | exact ih2 _ _ _ _ _ _
    | exact ih3 _ _ _ _
    | exact ih4 _ _ _ _ _ _
    | exact ih5 _ _ _
    | exact spec_GfMul.mono _ _ _
    | exact spec_l14Pow.mono _ _
    | exact LeO.none _
    | refine LeO.ite ?_ ?_
    | refine LeO.bind ?_ (fun _ => ?_)
theorem spec_RsCode.mono : ∀ a0 a1 k, LeO (spec_RsCode.f k a0 a1) (spec_RsCode.f (k + 1) a0 a1) := by
  intro a0 a1 k
  obtain ⟨ih0, ih1, ih2, ih3, ih4, ih5⟩ := spec_RsCode.mono_l k
  unfold spec_RsCode.f
  repeat' first
      | (with_reducible exact ih0 _ _ _)
      | (with_reducible exact ih1 _ _ _ _)
      | (with_reducible exact ih2 _ _ _ _ _ _)
      | (with_reducible exact ih3 _ _ _ _)
      | (with_reducible exact ih4 _ _ _ _ _ _)
      | (with_reducible exact ih5 _ _ _)
      | (with_reducible exact spec_GfMul.mono _ _ _)
      | (with_reducible exact spec_l14Pow.mono _ _)
      | (with_reducible exact LeO.refl _)
      | (with_reducible exact LeO.none _)
      | (with_reducible refine LeO.ite ?_ ?_)
      | (with_reducible refine LeO.bind ?_ (fun _ => ?_))
      | exact ih0 _ _ _
      | exact ih1 _ _ _ _
      | exact ih2 _ _ _ _ _ _
      | exact ih3 _ _ _ _
      | exact ih4 _ _ _ _ _ _
      | exact ih5 _ _ _
      | exact spec_GfMul.mono _ _ _
      | exact spec_l14Pow.mono _ _
      | exact LeO.none _
      | refine LeO.ite ?_ ?_
      | refine LeO.bind ?_ (fun _ => ?_)
def spec_RsCode.T11 : Bool × List (List Nat × List Nat) := (true, [([], []), ([], []), ([1], [1]), ([], []), ([], []), ([4], [4]), ([3, 5], [3, 5]), ([6], [6]), ([], []), ([], []), ([8, 9], [8, 9]), ([10], [10]), ([], []), ([12], [12]), ([11, 13, 13], [11, 13]), ([7, 14], [7, 14]), ([0, 2, 0, 1, 2, 3, 4, 5, 6, 7, 8, 9, 10, 11, 12, 13, 14, 15], [0, 2]), ([16, 15, 14, 0, 1, 2, 3, 4, 5, 6, 7, 8, 9, 10, 11, 12, 13, 14, 15], [15, 16])])
def spec_RsCode.B11 : List Nat := [0, 0, 2, 0, 0, 16, 56, 120, 0, 0, 768, 1792, 0, 4096, 16128, 32760, 65535, 131071]
theorem spec_RsCode.tab11 : rtab .any (opsOf Try.f20 11) = spec_RsCode.T11 := by kernel_rfl
theorem spec_RsCode.bits11 : waitsOk spec_RsCode.T11.2 spec_RsCode.B11 = true := by kernel_rfl
def spec_RsCode.T17 : Bool × List (List Nat × List Nat) := (true, [([], []), ([0], [0]), ([1], [1]), ([], []), ([], []), ([3, 4], [3, 4]), ([5], [5]), ([6], [6]), ([2, 7], [2, 7]), ([8, 0, 1, 2, 3, 4, 5, 6, 7, 8], [8])])
def spec_RsCode.B17 : List Nat := [0, 1, 3, 0, 0, 24, 56, 120, 255, 511]
theorem spec_RsCode.tab17 : rtab .any (opsOf Try.f20 17) = spec_RsCode.T17 := by kernel_rfl
theorem spec_RsCode.bits17 : waitsOk spec_RsCode.T17.2 spec_RsCode.B17 = true := by kernel_rfl
def spec_RsCode.T22 : Bool × List (List Nat × List Nat) := (true, [([], []), ([], []), ([], []), ([], []), ([2, 3], [2, 3]), ([4], [4]), ([], []), ([], []), ([], []), ([8], [8]), ([7, 9], [7, 9]), ([10], [10]), ([6, 11], [6, 11]), ([5, 12], [5, 12]), ([0, 1, 0, 1, 2, 3, 4, 5, 6, 7, 8, 9, 10, 11, 12, 13], [0, 1]), ([14, 13, 12, 0, 1, 2, 3, 4, 5, 6, 7, 8, 9, 10, 11, 12, 13], [13, 14])])
def spec_RsCode.B22 : List Nat := [0, 0, 0, 0, 12, 28, 0, 0, 0, 256, 896, 1920, 4032, 8188, 16383, 32767]
theorem spec_RsCode.tab22 : rtab .any (opsOf Try.f20 22) = spec_RsCode.T22 := by kernel_rfl
theorem spec_RsCode.bits22 : waitsOk spec_RsCode.T22.2 spec_RsCode.B22 = true := by kernel_rfl
abbrev spec_RsCode.mk_0 : Array Bool := #[false, false, false, false, false, false, false, false, false, false, false, false, false, false, false, false, false, false]
abbrev spec_RsCode.mk_1 : Array Bool := #[true, false, false, false, false, false, false, false, false, false, false, false, false, false, false, false, false, false]
abbrev spec_RsCode.mk_2 : Array Bool := #[true, true, false, false, false, false, false, false, false, false, false, false, false, false, false, false, false, false]
abbrev spec_RsCode.mk_3 : Array Bool := #[true, true, true, false, false, false, false, false, false, false, false, false, false, false, false, false, false, false]
abbrev spec_RsCode.mk_4 : Array Bool := #[true, true, true, true, false, false, false, false, false, false, false, false, false, false, false, false, false, false]
abbrev spec_RsCode.mk_5 : Array Bool := #[true, true, true, true, true, false, false, false, false, false, false, false, false, false, false, false, false, false]
abbrev spec_RsCode.mk_6 : Array Bool := #[true, true, true, true, true, true, false, false, false, false, false, false, false, false, false, false, false, false]
abbrev spec_RsCode.mk_7 : Array Bool := #[true, true, true, true, true, true, true, false, false, false, false, false, false, false, false, false, false, false]
abbrev spec_RsCode.mk_8 : Array Bool := #[true, true, true, true, true, true, true, false, true, false, false, false, false, false, false, false, false, false]
abbrev spec_RsCode.mk_9 : Array Bool := #[true, true, true, true, true, true, true, false, true, true, false, false, false, false, false, false, false, false]
abbrev spec_RsCode.mk_10 : Array Bool := #[true, true, true, true, true, true, true, false, true, true, true, false, false, false, false, false, false, false]
abbrev spec_RsCode.mk_11 : Array Bool := #[true, true, true, true, true, true, true, false, true, true, true, false, true, false, false, false, false, false]
abbrev spec_RsCode.mk_12 : Array Bool := #[true, true, true, true, true, true, true, true, true, true, true, false, true, false, false, false, false, false]
abbrev spec_RsCode.mk_13 : Array Bool := #[true, true, true, true, true, true, true, true, true, true, true, true, true, false, false, false, false, false]
abbrev spec_RsCode.mk_14 : Array Bool := #[true, true, true, true, true, true, true, true, true, true, true, true, true, true, false, false, false, false]
abbrev spec_RsCode.mk_15 : Array Bool := #[true, true, true, true, true, true, true, true, true, true, true, true, true, true, true, false, false, false]
abbrev spec_RsCode.mk_16 : Array Bool := #[true, true, true, true, true, true, true, true, true, true, true, true, true, true, true, true, false, false]
abbrev spec_RsCode.mk_17 : Array Bool := #[true, true, true, true, true, true, true, true, true, true, true, true, true, true, true, true, true, false]
abbrev spec_RsCode.mk_18 : Array Bool := #[true, true, true, true, true, true, true, true, true, true, true, true, true, true, true, true, true, true]
abbrev spec_RsCode.mk_19 : Array Bool := #[false, false, false, false, false, false, false, false, false, false]
abbrev spec_RsCode.mk_20 : Array Bool := #[true, false, false, false, false, false, false, false, false, false]
abbrev spec_RsCode.mk_21 : Array Bool := #[true, true, false, false, false, false, false, false, false, false]
abbrev spec_RsCode.mk_22 : Array Bool := #[true, true, false, true, false, false, false, false, false, false]
abbrev spec_RsCode.mk_23 : Array Bool := #[true, true, false, true, true, false, false, false, false, false]
abbrev spec_RsCode.mk_24 : Array Bool := #[true, true, false, true, true, true, false, false, false, false]
abbrev spec_RsCode.mk_25 : Array Bool := #[true, true, true, true, true, true, false, false, false, false]
abbrev spec_RsCode.mk_26 : Array Bool := #[true, true, true, true, true, true, true, false, false, false]
abbrev spec_RsCode.mk_27 : Array Bool := #[true, true, true, true, true, true, true, true, false, false]
abbrev spec_RsCode.mk_28 : Array Bool := #[true, true, true, true, true, true, true, true, true, false]
abbrev spec_RsCode.mk_29 : Array Bool := #[true, true, true, true, true, true, true, true, true, true]
abbrev spec_RsCode.mk_30 : Array Bool := #[false, false, false, false, false, false, false, false, false, false, false, false, false, false, false, false]
abbrev spec_RsCode.mk_31 : Array Bool := #[true, false, false, false, false, false, false, false, false, false, false, false, false, false, false, false]
abbrev spec_RsCode.mk_32 : Array Bool := #[true, true, false, false, false, false, false, false, false, false, false, false, false, false, false, false]
abbrev spec_RsCode.mk_33 : Array Bool := #[true, true, true, false, false, false, false, false, false, false, false, false, false, false, false, false]
abbrev spec_RsCode.mk_34 : Array Bool := #[true, true, true, true, false, false, false, false, false, false, false, false, false, false, false, false]
abbrev spec_RsCode.mk_35 : Array Bool := #[true, true, true, true, true, false, false, false, false, false, false, false, false, false, false, false]
abbrev spec_RsCode.mk_36 : Array Bool := #[true, true, true, true, true, false, true, false, false, false, false, false, false, false, false, false]
abbrev spec_RsCode.mk_37 : Array Bool := #[true, true, true, true, true, false, true, true, false, false, false, false, false, false, false, false]
abbrev spec_RsCode.mk_38 : Array Bool := #[true, true, true, true, true, false, true, true, true, false, false, false, false, false, false, false]
abbrev spec_RsCode.mk_39 : Array Bool := #[true, true, true, true, true, false, true, true, true, true, false, false, false, false, false, false]
abbrev spec_RsCode.mk_40 : Array Bool := #[true, true, true, true, true, false, true, true, true, true, true, false, false, false, false, false]
abbrev spec_RsCode.mk_41 : Array Bool := #[true, true, true, true, true, true, true, true, true, true, true, false, false, false, false, false]
abbrev spec_RsCode.mk_42 : Array Bool := #[true, true, true, true, true, true, true, true, true, true, true, true, false, false, false, false]
abbrev spec_RsCode.mk_43 : Array Bool := #[true, true, true, true, true, true, true, true, true, true, true, true, true, false, false, false]
abbrev spec_RsCode.mk_44 : Array Bool := #[true, true, true, true, true, true, true, true, true, true, true, true, true, true, false, false]
abbrev spec_RsCode.mk_45 : Array Bool := #[true, true, true, true, true, true, true, true, true, true, true, true, true, true, true, false]
abbrev spec_RsCode.mk_46 : Array Bool := #[true, true, true, true, true, true, true, true, true, true, true, true, true, true, true, true]
set_option maxHeartbeats 8000000 in
set_option maxRecDepth 100000 in
theorem spec_RsCode.calls (k : Nat) (A0 : Option Addr) (c0 : Nat) (l0 : List Int) (a1 : Int) (r1 : List Int) (r2 : Bool) (w : World) (hr0 : Kd.C (Kd.int .u8) w A0 l0.length l0) (hc0 : l0.length ≤ c0) (h : spec_RsCode.f k l0 a1 = some (r1, r2)) :
  Calls Try.prog 20 #[.slice A0 l0.length c0, .int .i64 a1] w fun e w' => ∃ v0_ : Value, e = .returned (.tuple #[v0_, .bool r2]) ∧ Kd.R (Kd.int .u8) 5 w' w.heap.size (fun _ => True) v0_ r1 ∧ Below w.heap.size w w' := by
 have HR0 := Aside0.mk hr0
 have HC0 := Aside0.mk hc0
 clear hr0 hc0
 have HB := Aside0.mk (Below.refl w.heap.size w)
 have H : ((spec_l14Mend.f a1).bind fun t382 => (if t382 = true then ((spec_l1In.f (l0.length : Int) 1 (wrap64 (255 - (wrap64 (2 * a1))))).bind fun t383 => (spec_RsCode.j0 k l0 a1 (!t383))) else (spec_RsCode.j0 k l0 a1 true))) = some (r1, r2) := h
 clear h
 have HC3 := Aside0.mk H
 clear H
 go_enter Try.func20, Try.ntmps20
 go_upto_region 1 with (fail)
 go_cut [27] (fun v27 wc => ∃ (kq : Nat) (x27_2 : Bool), v27 = .bool x27_2 ∧ Aside0 (spec_RsCode.j0 kq l0 a1 x27_2 = some (r1, r2)) ∧ Aside0 (kq ≤ k) ∧ Aside0 (Below w.heap.size w wc))
 case first =>
  have H := HC3.out
  clear HC3
  replace H := zi H
  obtain ⟨t382, A4, H⟩ := H
  by_cases c5 : t382 = true
  rotate_left
  ·replace c5 := Bool.eq_false_iff.mpr c5
   subst c5
   have H1 : (spec_RsCode.j0 k l0 a1 true) = some (r1, r2) := by rw [if_neg (show ¬ (false = true) by decide)] at H; exact H
   clear H
   have H := H1
   clear H1
   have H' := Aside0.mk H
   clear H
   go_wp2_with (first | ((with_reducible refine gate_callee (f := 44) rfl ?_); refine goesL_ (some 17) rfl rfl Try.func44 (by kernel_rfl) rfl #[.int .i64 a1] rfl zL ?_; (with_reducible refine (spec_l14Mend.calls a1 false _ A4.out).mono ?_); rintro e w' ⟨rfl, ⟨nd, rfl⟩⟩; refine ⟨_, rfl, ?_⟩))
   go_meet
   case rel => exact ⟨_, (true), zO, H', ⟨by first | omega | exact Nat.le_refl _⟩, ⟨zB⟩⟩
  subst c5
  have H1 : ((spec_l1In.f (l0.length : Int) 1 (wrap64 (255 - (wrap64 (2 * a1))))).bind fun t383 => (spec_RsCode.j0 k l0 a1 (!t383))) = some (r1, r2) := by rw [if_pos rfl] at H; exact H
  clear H
  have H := H1
  clear H1
  replace H := zi H
  obtain ⟨t383, A6, H⟩ := H
  have H' := Aside0.mk H
  clear H
  go_wp2_with (first | ((with_reducible refine gate_callee (f := 44) rfl ?_); refine goesL_ (some 17) rfl rfl Try.func44 (by kernel_rfl) rfl #[.int .i64 a1] rfl zL ?_; (with_reducible refine (spec_l14Mend.calls a1 true _ A4.out).mono ?_); rintro e w' ⟨rfl, ⟨nd, rfl⟩⟩; refine ⟨_, rfl, ?_⟩) | (go_at_call 45; (with_reducible refine (spec_l1In.calls (l0.length : Int) 1 (wrap64 (255 - (wrap64 (2 * a1)))) t383 _ A6.out).mono ?_); rintro e w' ⟨rfl, ⟨nd, rfl⟩⟩))
  go_meet
  case rel => exact ⟨_, (!t383), zO, H', ⟨by first | omega | exact Nat.le_refl _⟩, ⟨zB⟩⟩
 case rest =>
 clear HC3
 try clear c2
 try clear p2
 try clear c4
 try clear c5
 try clear p6
 obtain ⟨kq, x27_2, rfl, HA, HJ2, HB⟩ := hcut
 cases kq with
 | zero => exact absurd HA.out (by simp [spec_RsCode.j0])
 | succ kj2 =>
 have H := HA.out
 clear HA
 simp only [spec_RsCode.j0] at H
 by_cases c7 : x27_2 = true
 ·subst c7
  have H1 : (some ((([] : List Int)), false)) = some (r1, r2) := by rw [if_pos rfl] at H; exact H
  clear H
  have H := H1
  clear H1
  obtain ⟨y384, hy384⟩ : ∃ y_ : List Int, y_ = (([] : List Int)) := ⟨_, rfl⟩
  replace H : (some (y384, false)) = some (r1, r2) := by first | (rw [hy384]; with_reducible exact H) | (have H2_ := (Option.bind_some _ _).symm.trans H; rw [hy384]; with_reducible exact H2_) | (have H2_ := (Option.bind_some _ _).symm.trans H; with_reducible exact H2_) | with_reducible exact H | (rw [hy384]; exact H) | exact H
  have Ny384 := Aside0.mk hy384
  clear hy384
  simp only [Option.some.injEq, Prod.mk.injEq] at H
  obtain ⟨rfl, rfl⟩ := H
  go_wp2_with (first | ((with_reducible refine gate_dst (N := 28) rfl ?_); (try (refine gate_guard (by rfl) ?_; dsimp only)); refine Kd.R_lit (Kd.int .u8) _ 5 ?hg (N := 28) ?hd (xs := ([] : List Int)) (inner := []) (ok := fun _ => True) (okp := fun _ => True) ?hr ?hp (fun _ hk => hk) trivial (Below.refl _ _) (Nat.le_refl _) (by simp) ?_; (case hd => rfl); (case hg => rfl); (case hr => first | (go_simp; done) | (go_simp; rfl)); (case hp => exact (Reps.none _ _)); intro v385 w8 ho9 hb hg_ hnew_; clear hg_ hnew_; (first | rw [← Ny384.out] at ho9 | (simp only [Int.reduceToNat] at ho9; rw [← Ny384.out] at ho9)); have n0_ := Aside0.mk (Kd.R_lower ho9 (below_size zB)); have n1_ := Aside0.mk (below_step zB hb); clear HB; have HO386 := n0_; have HB := n1_; clear n0_ n1_; clear hb ho9))
  go_ret2
  exact ⟨_, zE, zR HO386.out, zB⟩
 replace c7 := Bool.eq_false_iff.mpr c7
 subst c7
 have H1 : (spec_RsCode.l0 kj2 l0 a1 (([1] : List Int)) 0) = some (r1, r2) := by rw [if_neg (show ¬ (false = true) by decide)] at H; exact H
 clear H
 have H := H1
 clear H1
 obtain ⟨y387, hy387⟩ : ∃ y_ : List Int, y_ = (([1] : List Int)) := ⟨_, rfl⟩
 replace H : (spec_RsCode.l0 kj2 l0 a1 y387 0) = some (r1, r2) := by first | (rw [hy387]; with_reducible exact H) | (have H2_ := (Option.bind_some _ _).symm.trans H; rw [hy387]; with_reducible exact H2_) | (have H2_ := (Option.bind_some _ _).symm.trans H; with_reducible exact H2_) | with_reducible exact H | (rw [hy387]; exact H) | exact H
 have Ny387 := Aside0.mk hy387
 clear hy387
 have H' := Aside0.mk H
 clear H
 go_wp2_with (first | ((with_reducible refine gate_dst (N := 29) rfl ?_); (try (refine gate_guard (by rfl) ?_; dsimp only)); refine Kd.R_lit (Kd.int .i64) _ 3 ?hg (N := 29) ?hd (xs := ([1] : List Int)) (inner := [.int .i64 1]) (ok := fun _ => True) (okp := fun _ => True) ?hr ?hp (fun _ hk => hk) trivial (Below.refl _ _) (Nat.le_refl _) (by simp) ?_; (case hd => rfl); (case hg => rfl); (case hr => first | (go_simp; done) | (go_simp; rfl)); (case hp => exact (Reps.one (show Kd.M (Kd.int .i64) _ _ _ 1 [.int .i64 1] from rfl) (Reps.none _ _))); intro v388 w10 ho11 hb hg_ hnew_; clear hg_ hnew_; (first | rw [← Ny387.out] at ho11 | (simp only [Int.reduceToNat] at ho11; rw [← Ny387.out] at ho11)); have n0_ := Aside0.mk (Kd.R_lower ho11 (below_size zB)); have n1_ := Aside0.mk (below_step zB hb); clear HB; have HO389 := n0_; have HB := n1_; clear n0_ n1_; clear hb ho11))
 go_loopg [6, 7] kj2 (fun kq v6 v7 w' => ∃ (x6_2 : List Int) (x7_2 : Int), v7 = .int .i64 x7_2 ∧ Aside0 (spec_RsCode.l0 kq l0 a1 x6_2 x7_2 = some (r1, r2)) ∧ Aside0 (kq ≤ kj2) ∧ Aside0 (Kd.R (Kd.int .i64) 3 w' w.heap.size (fun _ => True) v6 x6_2) ∧ Aside0 (Below w.heap.size w w'))
 case atStart => exact ⟨(y387), (0), zO, H', ⟨Nat.le_refl _⟩, ⟨zR HO389.out⟩, ⟨zB⟩⟩
 case round =>
 clear H'
 try clear c2
 try clear p2
 try clear c4
 try clear c5
 try clear p6
 try clear c7
 try clear p2
 try clear p6
 obtain ⟨x6_2, x7_2, rfl, HA, HK2, HO_6, HB⟩ := hrel
 cases gk with
 | zero => exact absurd HA.out (by simp [spec_RsCode.l0])
 | succ k2 =>
 have H := HA.out
 clear HA
 simp only [spec_RsCode.l0] at H
 by_cases c12 : x7_2 < (wrap64 (2 * a1))
 ·rw [if_pos c12] at H
  have c12b0 := decide_eq_true c12
  clear c12
  replace H := zb H
  obtain ⟨y390, Ny390, H⟩ := H
  replace H := zg H
  obtain ⟨c13, H⟩ := H
  have LMc13 := Aside0.mk c13
  clear c13
  replace H := zb H
  obtain ⟨y393, Ny393, H⟩ := H
  replace H := zg H
  obtain ⟨c14, H⟩ := H
  have LMc14 := Aside0.mk c14
  clear c14
  obtain ⟨y396, hy396⟩ : ∃ y_ : List Int, y_ = (y393 ++ [0]) := ⟨_, rfl⟩
  replace H : (spec_RsCode.l1 k2 l0 a1 x6_2 x7_2 y396 0) = some (r1, r2) := by first | (rw [hy396]; with_reducible exact H) | (have H2_ := (Option.bind_some _ _).symm.trans H; rw [hy396]; with_reducible exact H2_) | (have H2_ := (Option.bind_some _ _).symm.trans H; with_reducible exact H2_) | with_reducible exact H | (rw [hy396]; exact H) | exact H
  have Ny396 := Aside0.mk hy396
  clear hy396
  have H' := Aside0.mk H
  clear H
  go_wp2_with (first | ((with_reducible refine gate_dst (N := 36) rfl ?_); (try (refine gate_guard (by rfl) ?_; dsimp only)); refine Kd.R_lit (Kd.int .i64) _ 3 ?hg (N := 36) ?hd (xs := ([] : List Int)) (inner := []) (ok := fun _ => True) (okp := fun _ => True) ?hr ?hp (fun _ hk => hk) trivial (Below.refl _ _) (Nat.le_refl _) (by simp) ?_; (case hd => rfl); (case hg => rfl); (case hr => first | (go_simp; done) | (go_simp; rfl)); (case hp => exact (Reps.none _ _)); intro v391 w15 ho16 hb hg_ hnew_; clear hg_ hnew_; (first | rw [← Ny390.out] at ho16 | (simp only [Int.reduceToNat] at ho16; rw [← Ny390.out] at ho16)); have n0_ := Aside0.mk (Kd.R_elder' (zR HO_6.out) (Kd.R_base ho16) hb); have n1_ := Aside0.mk (Kd.R_lower (Kd.R_new' ho16 (Kd.R_lt (zR HO_6.out))) (below_size zB)); have n2_ := Aside0.mk (below_step zB hb); clear HO_6; clear HB; have HO_6 := n0_; have HO392 := n1_; have HB := n2_; clear n0_ n1_ n2_; clear hb ho16; obtain ⟨Ao18, co18, eo18⟩ := Kd.R_slice HO_6.out; subst eo18) | ((with_reducible refine gate_builtin (b := .append) (xs := #[.tmp 36, .tmp 37]) rfl ?_); (try (refine gate_guard (by rfl) ?_; dsimp only)); at_builtin; refine Kd.R_append_rows (Kd.int .i64) (w0 := w) w.heap.size rfl (.tmp 36) (.tmp 37) 24 3 (.int .i64 0) 8 rfl Try.underlying24 info3 rfl (by decide) (by omega) v391 y390 x6_2 _ _ _ (fun k_ => some k_ ≠ (.slice Ao18 x6_2.length co18 : Value).ownBlock) (fun _ => False) rfl rfl ?aO ?aR (fun _ _ h => h) (fun _ h => h.elim) ?aF ?aB ?aS ?aL ?_; (case aR => exact zC (Kd.R_reads' HO_6.out).2.2); (case aB => exact zB); (case aF => exact (fun k_ hk => Kd.fresh' (Kd.R_lt (zR HO_6.out)) k_ hk)); (case aO => exact (by (with_reducible repeat (first | apply Kd.R_alloc | apply Kd.R_drewN | apply Kd.R_drew)); exact Kd.R_mono HO392.out (fun _ hk => hk.2))); (case aS => exact (below_size zB)); (case aL => have := LMc13.out; omega); intro v394 w17 ho hb hg hat; rw [← Ny393.out] at ho; have n0_ := Aside0.mk (Kd.R_after (ok := (fun _ => True)) (zR HO_6.out) hg hat); have n1_ := Aside0.mk (hb); have n2_ := Aside0.mk (ho); clear HO_6; clear HB; clear HO392; have HO_6 := n0_; have HB := n1_; have HO395 := n2_; clear n0_ n1_ n2_; clear ho hb hg hat) | ((with_reducible refine gate_builtin (b := .append) (xs := #[.tmp 38, .tmp 39]) rfl ?_); (try (refine gate_guard (by rfl) ?_; dsimp only)); at_builtin; refine Kd.R_append (Kd.int .i64) (w0 := w) w.heap.size rfl (.tmp 38) (.tmp 39) 24 3 (.int .i64 0) 8 rfl Try.underlying24 info3 rfl (by decide) (by omega) v394 y393 0 [.int .i64 0] (fun k_ => some k_ ≠ (.slice Ao18 x6_2.length co18 : Value).ownBlock) (fun _ => False) rfl rfl ?aP (fun _ hk => hk.elim) ?aF ?aO ?aB ?aS ?aL ?_; (case aP => exact rfl); (case aB => exact zB); (case aF => exact (fun k_ hk => Kd.fresh' (Kd.R_lt (zR HO_6.out)) k_ hk)); (case aO => exact (zR HO395.out)); (case aS => exact (below_size zB)); (case aL => have := LMc14.out; omega); intro v397 w19 ho hb hg hat; rw [← Ny396.out] at ho; have n0_ := Aside0.mk (Kd.R_after (ok := (fun _ => True)) (zR HO_6.out) hg hat); have n1_ := Aside0.mk (hb); have n2_ := Aside0.mk (ho); clear HO_6; clear HB; clear HO395; have HO_6 := n0_; have HB := n1_; have HO398 := n2_; clear n0_ n1_ n2_; clear ho hb hg hat))
  go_loopg [9] k2 (fun kq v9 w' => ∃ (x8_3 : List Int) (x9_3 : Int), v9 = .int .i64 x9_3 ∧ Aside0 (spec_RsCode.l1 kq l0 a1 x6_2 x7_2 x8_3 x9_3 = some (r1, r2)) ∧ Aside0 (kq ≤ k2) ∧ Aside0 (Kd.R (Kd.int .i64) 3 w' w.heap.size (fun k_ => some k_ ≠ (v397 : Value).ownBlock) (.slice Ao18 x6_2.length co18) x6_2) ∧ Aside0 (Kd.R (Kd.int .i64) 3 w' w.heap.size (fun k_ => some k_ ≠ ((.slice Ao18 x6_2.length co18) : Value).ownBlock) v397 x8_3) ∧ Aside0 (Below w.heap.size w w'))
  case atStart => exact ⟨(y396), (0), zO, H', ⟨Nat.le_refl _⟩, ⟨by (with_reducible repeat (first | apply Kd.R_alloc | apply Kd.R_drewN | apply Kd.R_drew)); exact Kd.R_mono HO_6.out (fun _ hk => hk.2)⟩, ⟨zR HO398.out⟩, ⟨zB⟩⟩
  case round =>
  clear H'
  try clear c1
  try clear c2
  try clear p2
  try clear c4
  try clear c5
  try clear p6
  try clear c7
  try clear c12
  try clear c12b0
  try clear c13
  try clear c14
  try clear p2
  try clear p6
  obtain ⟨x8_3, x9_3, rfl, HA, HK3, HO_6, HO_8, HB⟩ := hrel
  cases gk with
  | zero => exact absurd HA.out (by simp [spec_RsCode.l1])
  | succ k3 =>
  have H := HA.out
  clear HA
  simp only [spec_RsCode.l1] at H
  by_cases c20 : x9_3 < (x6_2.length : Int)
  rotate_left
  ·rw [if_neg c20] at H
   have c20b0 := decide_eq_false c20
   clear c20
   have H' := Aside0.mk H
   clear H
   go_wp2
   go_roundg k3
   case measure => have := HJ2.out; have := HK2.out; have := HK3.out; omega
   case rel => exact ⟨(x8_3), (wrap64 (x7_2 + 1)), zO, H', ⟨by have := HJ2.out; have := HK2.out; have := HK3.out; omega⟩, ⟨by (with_reducible repeat (first | apply Kd.R_alloc | apply Kd.R_drewN | apply Kd.R_drew)); exact Kd.R_mono HO_8.out (fun _ hk => trivial)⟩, ⟨zB⟩⟩
  rw [if_pos c20] at H
  have c20b0 := decide_eq_true c20
  clear c20
  obtain ⟨ji21, hji21⟩ : ∃ j_ : Int, (wrap64 (x9_3 + 1)) = j_ := ⟨_, rfl⟩
  replace H : (if 0 ≤ (ji21) then (if (ji21) < (x8_3.length : Int) then (if 0 ≤ x9_3 then ((spec_l14Pow.f k3 x7_2).bind fun t401 => ((spec_GfMul.f k3 (rd x6_2 x9_3) t401).bind fun t402 => (spec_RsCode.l1 k3 l0 a1 x6_2 x7_2 (x8_3.set ((ji21) : Int).toNat (Go.bits .xor .i64 (rd x8_3 (ji21)) t402)) ji21))) else (none)) else (none)) else (none)) = some (r1, r2) := by first | (rw [hji21] at H; exact H) | (simp only [hji21] at H ⊢; exact H)
  have hji21w : (IntKind.i64.wrap (x9_3 + 1)) = ji21 := (i64_w _).trans hji21
  replace H := zg H
  obtain ⟨c22, H⟩ := H
  have c22b0 : decide (0 ≤ (ji21)) = true := decide_eq_true c22
  clear c22
  replace H := zg H
  obtain ⟨c23, H⟩ := H
  have c23b0 : decide ((ji21) < (x8_3.length : Int)) = true := decide_eq_true c23
  clear c23
  replace H := zg H
  obtain ⟨c24, H⟩ := H
  have c24b0 : decide (0 ≤ x9_3) = true := decide_eq_true c24
  clear c24
  replace H := zi H
  obtain ⟨t401, A25, H⟩ := H
  replace H := zi H
  obtain ⟨t402, A26, H⟩ := H
  obtain ⟨y403, hy403⟩ : ∃ y_ : List Int, y_ = (x8_3.set ((ji21) : Int).toNat (Go.bits .xor .i64 (rd x8_3 (ji21)) t402)) := ⟨_, rfl⟩
  replace H : (spec_RsCode.l1 k3 l0 a1 x6_2 x7_2 y403 ji21) = some (r1, r2) := by first | (rw [hy403]; with_reducible exact H) | (have H2_ := (Option.bind_some _ _).symm.trans H; rw [hy403]; with_reducible exact H2_) | (have H2_ := (Option.bind_some _ _).symm.trans H; with_reducible exact H2_) | with_reducible exact H | (rw [hy403]; exact H) | exact H
  have Ny403 := Aside0.mk hy403
  clear hy403
  have H' := Aside0.mk H
  clear H
  try go_wp2
  have n0_ := Aside0.mk (Kd.R_drew HO_6.out)
  have n1_ := Aside0.mk (Kd.R_drew HO_8.out)
  have n2_ := Aside0.mk (below_drew1 HB.out)
  clear HO_6
  clear HO_8
  clear HB
  have HO_6 := n0_
  have HO_8 := n1_
  have HB := n2_
  clear n0_ n1_ n2_
  obtain ⟨Ao29, co29, eo29⟩ := Kd.R_slice HO_8.out
  (first | subst eo29 | (injection eo29 with f1_ f2_ f3_; have f4_ := f1_.symm; have f5_ := f3_.symm; clear f1_ f2_ f3_; subst f4_; subst f5_))
  have p399 : 0 ≤ ((ji21) : Int) := zD
  have q399 : (ji21) < (x8_3.length : Int) := zD
  obtain ⟨ad399, e399, hx399_0⟩ := Kd.at_int (Kd.R_reads' HO_8.out).2.2 (ji21) p399 q399
  cases e399
  replace p399 := eq_true p399
  replace q399 := eq_true q399
  have p400 : 0 ≤ (x9_3 : Int) := zD
  have q400 : x9_3 < (x6_2.length : Int) := zD
  obtain ⟨ad400, e400, hx400_0⟩ := Kd.at_int (Kd.R_reads' HO_6.out).2.2 x9_3 p400 q400
  cases e400
  replace p400 := eq_true p400
  replace q400 := eq_true q400
  refine start_ (n := 18) (S := fun w' => w'.cell? (ad399.add ((ji21)).toNat) = some (.int .i64 (rd x8_3 (ji21))) ∧ w'.cell? (ad400.add (x9_3).toNat) = some (.int .i64 (rd x6_2 x9_3))) (ds := [17]) spec_RsCode.mk_0 (by kernel_rfl) rfl rfl ⟨hx399_0, hx400_0⟩ (fun hHeld => ?_); refine with_tabW spec_RsCode.tab11 spec_RsCode.bits11 (fun HT_ HW_ => ?_)
  generalize wr.drew = w28 at HO_6 HO_8 HB hx399_0 hx400_0 hHeld ⊢
  refine zP 0 47 spec_RsCode.mk_1 ?_
  refine zP 1 48 spec_RsCode.mk_2 ?_
  refine zP 2 49 spec_RsCode.mk_3 ?_
  refine zP 3 50 spec_RsCode.mk_4 ?_
  refine zP 4 51 spec_RsCode.mk_5 ?_
  refine zP 5 52 spec_RsCode.mk_6 ?_
  refine zP 6 53 spec_RsCode.mk_7 ?_
  refine zP 8 55 spec_RsCode.mk_8 ?_
  refine zP 9 56 spec_RsCode.mk_9 ?_
  refine zP 10 57 spec_RsCode.mk_10 ?_
  refine zP 12 59 spec_RsCode.mk_11 ?_
  refine zT2 7 54 spec_RsCode.mk_12 ?_
  refine zT2 11 58 spec_RsCode.mk_13 ?_
  refine one_ (i := 13) (N := some 60) spec_RsCode.mk_14 rfl rfl (one_of HT_.out (by kernel_rfl)) (by decide) (fun K hK => ?_)
  refine goes_ Try.func47 (by kernel_rfl) rfl #[.int .i64 x7_2] (by rfl) rfl rfl zL ?_
  with_reducible refine (spec_l14Pow.calls k3 x7_2 t401 _ A25.out).mono ?_
  rintro e w' ⟨rfl, ⟨nd, rfl⟩⟩
  refine ⟨_, rfl, ?_⟩
  refine hK.out _ _ ⟨hHeld.1, hHeld.2⟩ (fun hHeld => ?_)
  clear hK K
  refine norm_ (a' := ?_) ?_ ?_
  rotate_left
  ·show Act.put _ (some 60) _ = _
   simp only [Act.put, List.setIfInBounds_toArray, List.set_cons_zero, List.set_cons_succ, i64_w, i32_w]
   rfl
  refine one_ (i := 14) (N := some 61) spec_RsCode.mk_15 rfl rfl (one_of HT_.out (by kernel_rfl)) (by decide) (fun K hK => ?_)
  refine goes_ Try.func46 (by kernel_rfl) rfl #[.int .i64 (rd x6_2 x9_3), .int .i64 t401] (by rfl) rfl rfl zL ?_
  with_reducible refine (spec_GfMul.calls k3 (rd x6_2 x9_3) t401 t402 _ A26.out).mono ?_
  rintro e w' ⟨rfl, ⟨nd, rfl⟩⟩
  refine ⟨_, rfl, ?_⟩
  have p27 : 0 ≤ ((ji21) : Int) := zD
  have q27 : ((ji21) : Int) < ((x8_3.length : Int) : Int) := zD
  obtain ⟨go27, co27, eo27, gb27, gl27, cl27, HG27⟩ := Kd.R_form HO_8.out (by omega)
  (first | cases eo27 | (injection eo27 with ea_ en_ ec_; (first | subst ea_ | (injection ea_ with ea_; subst ea_)); subst ec_; clear en_))
  have GB27 := Aside0.mk gb27
  have GG27 := Aside0.mk HG27
  clear gb27 gl27 HG27
  (first | simp only [add_plain] at hx399_0 | skip)
  obtain ⟨hx27_0, hf27_0⟩ := Kd.R_celln 0 HO_8.out ((ji21) : Int) p27 q27
  replace p27 := eq_true p27
  replace q27 := eq_true q27
  have HP30 := Kd.R_putn HO_8.out ((ji21) : Int) (Go.bits .xor .i64 (rd x8_3 (ji21)) t402)
  rw [← Ny403.out] at HP30
  have HQ30 := Aside0.mk HP30
  clear HP30
  refine hK.out _ _ ⟨hHeld.1, hHeld.2⟩ (fun hHeld => ?_)
  clear hK K
  refine norm_ (a' := ?_) ?_ ?_
  rotate_left
  ·show Act.put _ (some 61) _ = _
   simp only [Act.put, List.setIfInBounds_toArray, List.set_cons_zero, List.set_cons_succ, i64_w, i32_w]
   rfl
  refine zP 15 62 spec_RsCode.mk_16 ?_
  refine zP 16 63 spec_RsCode.mk_17 ?_
  refine last_ (i := 17) (N := none) spec_RsCode.mk_18 rfl rfl (one_of HT_.out (by kernel_rfl)) (by decide) (fun K hK => ?_)
  refine skip_ (w1 := ?_) (by rfl) rfl ?_ ?_
  rotate_left
  ·go_simp
   rfl
  refine hK.out _ _ ?_
  clear hK K
  refine done_ (done_of HT_.out (by kernel_rfl)) ?_
  try go_wp2
  go_roundg k3
  case measure => have := HJ2.out; have := HK2.out; have := HK3.out; omega
  case rel => exact ⟨(y403), (ji21), (by first | rfl | (simp; done) | (simp only [← hji21] <;> (first | rfl | simp)) | (simp [*]; done)), H', ⟨by have := HJ2.out; have := HK2.out; have := HK3.out; omega⟩, ⟨by (with_reducible repeat (first | apply Kd.R_alloc | apply Kd.R_drewN | apply Kd.R_drew)); exact Kd.R_mono (Kd.R_far (p := ⟨go27, ((ji21) : Int).toNat, none⟩) (Kd.R_mono HO_6.out (fun k_ hk => (⟨hk, fun e_ => hk (by rw [e_]; rfl)⟩ : _ ∧ k_ ≠ go27))) (fun _ hk => hk.2) (.int .i64 (Go.bits .xor .i64 (rd x8_3 (ji21)) t402))) (fun _ hk => hk.1)⟩, ⟨zR HQ30.out⟩, ⟨by repeat (first | (with_reducible first | exact HB.out | apply below_alloc | apply pw_below_drewN | apply below_drew1 | refine below_set ?_ GB27.out) | exact HB.out)⟩⟩
 rw [if_neg c12] at H
 have c12b0 := decide_eq_false c12
 clear c12
 obtain ⟨ji31, hji31⟩ : ∃ j_ : Int, (wrap64 (2 * a1)) = j_ := ⟨_, rfl⟩
 replace H : (if 0 ≤ (ji31) then (if (ji31 : Int).toNat ≤ 35184372088832 then (spec_RsCode.l2 k2 l0 x6_2 (List.replicate (ji31 : Int).toNat 0) 0) else (none)) else (none)) = some (r1, r2) := by first | (rw [hji31] at H; exact H) | (simp only [hji31] at H ⊢; exact H)
 (try rw [hji31] at c12b0)
 have hji31w : (IntKind.i64.wrap (2 * a1)) = ji31 := (i64_w _).trans hji31
 replace H := zg H
 obtain ⟨c32, H⟩ := H
 have c32b0 := eq_true c32
 have c32b1 : decide (0 ≤ (ji31)) = true := decide_eq_true c32
 clear c32
 replace H := zg H
 obtain ⟨c33, H⟩ := H
 have c33b0 := eq_true c33
 have c33b1 : decide ((ji31 : Int).toNat ≤ 35184372088832) = true := decide_eq_true c33
 clear c33
 obtain ⟨y404, hy404⟩ : ∃ y_ : List Int, y_ = (List.replicate (ji31 : Int).toNat 0) := ⟨_, rfl⟩
 replace H : (spec_RsCode.l2 k2 l0 x6_2 y404 0) = some (r1, r2) := by first | (rw [hy404]; with_reducible exact H) | (have H2_ := (Option.bind_some _ _).symm.trans H; rw [hy404]; with_reducible exact H2_) | (have H2_ := (Option.bind_some _ _).symm.trans H; with_reducible exact H2_) | with_reducible exact H | (rw [hy404]; exact H) | exact H
 have Ny404 := Aside0.mk hy404
 clear hy404
 have H' := Aside0.mk H
 clear H
 go_wp2_with (first | ((with_reducible refine gate_dst (N := 67) rfl ?_); (try (refine gate_guard (by rfl) ?_; dsimp only)); refine Kd.R_make (Kd.int .i64) _ 3 rfl (N := 67) rfl 24 _ _ rfl ji31 rfl rfl Try.underlying24 (.int .i64 0) 8 info3 rfl (by decide) (by omega) 0 (ok := fun _ => True) (okp := fun _ => True) rfl (fun _ hk => hk) trivial zD (Nat.le_trans (Nat.mul_le_mul_right _ (zD : ji31.toNat ≤ 35184372088832)) (by omega)) (Below.refl _ _) (Nat.le_refl _) ?_; intro v405 w34 ho35 hb hg_ hnew_; clear hg_ hnew_; (first | rw [← Ny404.out] at ho35 | (simp only [Int.reduceToNat] at ho35; rw [← Ny404.out] at ho35)); have n0_ := Aside0.mk (Kd.R_elder' (zR HO_6.out) (Kd.R_base ho35) hb); have n1_ := Aside0.mk (Kd.R_lower (Kd.R_new' ho35 (Kd.R_lt (zR HO_6.out))) (below_size zB)); have n2_ := Aside0.mk (below_step zB hb); clear HO_6; clear HB; have HO_6 := n0_; have HO406 := n1_; have HB := n2_; clear n0_ n1_ n2_; clear hb ho35))
 go_loopg [10, 11] k2 (fun kq v10 v11 w' => ∃ (x6_3 : List Int) (x10_3 : List Int) (x11_3 : Int), v11 = .int .i64 x11_3 ∧ Aside0 (spec_RsCode.l2 kq l0 x6_3 x10_3 x11_3 = some (r1, r2)) ∧ Aside0 (kq ≤ k2) ∧ Aside0 (Kd.R (Kd.int .i64) 3 w' w.heap.size (fun k_ => some k_ ≠ (v10 : Value).ownBlock) u6 x6_3) ∧ Aside0 (Kd.R (Kd.int .i64) 3 w' w.heap.size (fun k_ => some k_ ≠ (u6 : Value).ownBlock) v10 x10_3) ∧ Aside0 (Below w.heap.size w w'))
 case atStart => exact ⟨(x6_2), (y404), (0), zO, H', ⟨Nat.le_refl _⟩, ⟨by (with_reducible repeat (first | apply Kd.R_alloc | apply Kd.R_drewN | apply Kd.R_drew)); exact Kd.R_mono HO_6.out (fun _ hk => hk.2)⟩, ⟨by (with_reducible repeat (first | apply Kd.R_alloc | apply Kd.R_drewN | apply Kd.R_drew)); exact Kd.R_mono HO406.out (fun _ hk => hk.2)⟩, ⟨zB⟩⟩
 case round =>
 clear H'
 try clear c1
 try clear c2
 try clear p2
 try clear q2
 try clear hx2
 try clear hf2
 try clear c3
 try clear p3
 try clear q3
 try clear hx3
 try clear c4
 try clear p4
 try clear q4
 try clear hx4
 try clear c5
 try clear p6
 try clear c7
 try clear c12
 try clear c12b0
 try clear c13
 try clear c14
 try clear c20
 try clear c20b0
 try clear c22
 try clear c22b0
 try clear c23
 try clear c23b0
 try clear c24
 try clear c24b0
 try clear p27
 try clear q27
 try clear hx27
 try clear hf27
 try clear c32
 try clear c32b0
 try clear c32b1
 try clear c33
 try clear c33b0
 try clear c33b1
 try clear hx27_0
 try clear hx399_0
 try clear hx400_0
 try clear p2
 try clear p27
 try clear p399
 try clear p400
 try clear p6
 try clear q27
 try clear q399
 try clear q400
 obtain ⟨x6_3, x10_3, x11_3, rfl, HA, HK3, HO_6, HO_10, HB⟩ := hrel
 cases gk with
 | zero => exact absurd HA.out (by simp [spec_RsCode.l2])
 | succ k3 =>
 have H := HA.out
 clear HA
 simp only [spec_RsCode.l2] at H
 by_cases c36 : x11_3 < (l0.length : Int)
 rotate_left
 ·rw [if_neg c36] at H
  have c36b0 := decide_eq_false c36
  clear c36
  replace H := zb H
  obtain ⟨y426, Ny426, H⟩ := H
  replace H := zg H
  obtain ⟨c61, H⟩ := H
  have LMc61 := Aside0.mk c61
  clear c61
  obtain ⟨y429, hy429⟩ : ∃ y_ : List Int, y_ = (y426 ++ l0) := ⟨_, rfl⟩
  replace H : (spec_RsCode.l4 k3 x10_3 y429 0) = some (r1, r2) := by first | (rw [hy429]; with_reducible exact H) | (have H2_ := (Option.bind_some _ _).symm.trans H; rw [hy429]; with_reducible exact H2_) | (have H2_ := (Option.bind_some _ _).symm.trans H; with_reducible exact H2_) | with_reducible exact H | (rw [hy429]; exact H) | exact H
  have Ny429 := Aside0.mk hy429
  clear hy429
  have H' := Aside0.mk H
  clear H
  go_wp2_with (first | ((with_reducible refine gate_dst (N := 110) rfl ?_); (try (refine gate_guard (by rfl) ?_; dsimp only)); refine Kd.R_lit (Kd.int .u8) _ 5 ?hg (N := 110) ?hd (xs := ([] : List Int)) (inner := []) (ok := fun _ => True) (okp := fun _ => True) ?hr ?hp (fun _ hk => hk) trivial (Below.refl _ _) (Nat.le_refl _) (by simp) ?_; (case hd => rfl); (case hg => rfl); (case hr => first | (go_simp; done) | (go_simp; rfl)); (case hp => exact (Reps.none _ _)); intro v427 w62 ho63 hb hg_ hnew_; clear hg_ hnew_; (first | rw [← Ny426.out] at ho63 | (simp only [Int.reduceToNat] at ho63; rw [← Ny426.out] at ho63)); have n0_ := Aside0.mk (Kd.R_below (zR HO_6.out) hb); have n1_ := Aside0.mk (Kd.R_below (zR HO_10.out) hb); have n2_ := Aside0.mk (Kd.R_lower ho63 (below_size zB)); have n3_ := Aside0.mk (below_step zB hb); clear HO_6; clear HO_10; clear HB; have HO_6 := n0_; have HO_10 := n1_; have HO428 := n2_; have HB := n3_; clear n0_ n1_ n2_ n3_; clear hb ho63) | ((with_reducible refine gate_builtin (b := .append) (xs := #[.tmp 110, .tmp 111]) rfl ?_); (try (refine gate_guard (by rfl) ?_; dsimp only)); at_builtin; refine Kd.R_append_rows (Kd.int .u8) (w0 := w) w.heap.size rfl (.tmp 110) (.tmp 111) 22 5 (.int .u8 0) 1 rfl Try.underlying22 info5 rfl (by decide) (by omega) v427 y426 l0 _ _ _ (fun _ => True) (fun _ => False) rfl rfl ?aO ?aR (fun _ _ h => h) (fun _ h => h.elim) ?aF ?aB ?aS ?aL ?_; (case aR => exact zC (Kd.C_below HR0.out HB.out)); (case aB => exact zB); (case aF => exact (fun _ _ => trivial)); (case aO => exact (zR HO428.out)); (case aS => exact (below_size zB)); (case aL => have := LMc61.out; omega); intro v430 w64 ho hb hg hat; rw [← Ny429.out] at ho; have n0_ := Aside0.mk (Kd.R_over' (zR HO_6.out) (Kd.R_typed (zR HO428.out)) (by decide) hg); have n1_ := Aside0.mk (Kd.R_over' (zR HO_10.out) (Kd.R_typed (zR HO428.out)) (by decide) hg); have n2_ := Aside0.mk (hb); have n3_ := Aside0.mk (ho); clear HO_6; clear HO_10; clear HB; clear HO428; have HO_6 := n0_; have HO_10 := n1_; have HB := n2_; have HO431 := n3_; clear n0_ n1_ n2_ n3_; clear ho hb hg hat))
  go_loopg [14, 15] k3 (fun kq v14 v15 w' => ∃ (x14_4 : List Int) (x15_4 : Int), v15 = .int .i64 x15_4 ∧ Aside0 (spec_RsCode.l4 kq x10_3 x14_4 x15_4 = some (r1, r2)) ∧ Aside0 (kq ≤ k3) ∧ Aside0 (Kd.R (Kd.int .i64) 3 w' w.heap.size (fun _ => True) u10 x10_3) ∧ Aside0 (Kd.R (Kd.int .u8) 5 w' w.heap.size (fun _ => True) v14 x14_4) ∧ Aside0 (Below w.heap.size w w'))
  case atStart => exact ⟨(y429), (0), zO, H', ⟨Nat.le_refl _⟩, ⟨by (with_reducible repeat (first | apply Kd.R_alloc | apply Kd.R_drewN | apply Kd.R_drew)); exact Kd.R_mono HO_10.out (fun _ hk => trivial)⟩, ⟨zR HO431.out⟩, ⟨zB⟩⟩
  case round =>
  clear H'
  try clear c1
  try clear c2
  try clear p2
  try clear q2
  try clear hx2
  try clear hf2
  try clear c3
  try clear p3
  try clear q3
  try clear hx3
  try clear c4
  try clear p4
  try clear q4
  try clear hx4
  try clear qi4
  try clear c5
  try clear p5
  try clear q5
  try clear hx5
  try clear hf5
  try clear c6
  try clear p6
  try clear c7
  try clear c12
  try clear c12b0
  try clear c13
  try clear c14
  try clear c20
  try clear c20b0
  try clear c22
  try clear c22b0
  try clear c23
  try clear c23b0
  try clear c24
  try clear c24b0
  try clear p27
  try clear q27
  try clear hx27
  try clear hf27
  try clear c32
  try clear c32b0
  try clear c32b1
  try clear c33
  try clear c33b0
  try clear c33b1
  try clear c36
  try clear c36b0
  try clear c37
  try clear c37b0
  try clear c37b1
  try clear c38
  try clear c38b0
  try clear c39
  try clear c39b0
  try clear c39b1
  try clear p39
  try clear q39
  try clear hx39
  try clear c40
  try clear p40
  try clear q40
  try clear hx40
  try clear qi40
  try clear c41
  try clear p42
  try clear q42
  try clear hx42
  try clear c46
  try clear q46
  try clear c47
  try clear c49
  try clear c49b0
  try clear c50
  try clear c50b0
  try clear c52
  try clear c52b0
  try clear c53
  try clear c53b0
  try clear p55
  try clear q55
  try clear hx55
  try clear hf55
  try clear c61
  try clear p64
  try clear hx27_0
  try clear hx399_0
  try clear hx400_0
  try clear hx407_0
  try clear hx408_0
  try clear hx422_0
  try clear hx423_0
  try clear hx55_0
  try clear p2
  try clear p27
  try clear p3
  try clear p39
  try clear p399
  try clear p4
  try clear p40
  try clear p400
  try clear p407
  try clear p408
  try clear p422
  try clear p423
  try clear p55
  try clear p6
  try clear q2
  try clear q27
  try clear q3
  try clear q39
  try clear q399
  try clear q4
  try clear q40
  try clear q400
  try clear q407
  try clear q408
  try clear q422
  try clear q423
  try clear q46
  try clear q55
  obtain ⟨x14_4, x15_4, rfl, HA, HK4, HO_10, HO_14, HB⟩ := hrel
  cases gk with
  | zero => exact absurd HA.out (by simp [spec_RsCode.l4])
  | succ k4 =>
  have H := HA.out
  clear HA
  simp only [spec_RsCode.l4] at H
  by_cases c65 : x15_4 < (x10_3.length : Int)
  rotate_left
  ·rw [if_neg c65] at H
   have c65b0 := decide_eq_false c65
   clear c65
   simp only [Option.some.injEq, Prod.mk.injEq] at H
   obtain ⟨rfl, rfl⟩ := H
   obtain ⟨Ao70, co70, eo70⟩ := Kd.R_slice HO_10.out
   subst eo70
   go_wp2
   go_ret2
   exact ⟨_, by first | rfl | (simp [errW_none, errW_some] <;> rfl) | (simp only [← hji31]; first | rfl | (simp [errW_none, errW_some] <;> rfl)) | (simp [*, errW_none, errW_some] <;> rfl), zR HO_14.out, zB⟩
  rw [if_pos c65] at H
  have c65b0 := decide_eq_true c65
  clear c65
  replace H := zg H
  obtain ⟨c66, H⟩ := H
  have c66b0 : decide (0 ≤ x15_4) = true := decide_eq_true c66
  clear c66
  replace H := zg H
  obtain ⟨c67, H⟩ := H
  have LMc67 := Aside0.mk c67
  clear c67
  obtain ⟨y433, hy433⟩ : ∃ y_ : List Int, y_ = (x14_4 ++ [(rd x10_3 x15_4) % 256]) := ⟨_, rfl⟩
  replace H : (spec_RsCode.l4 k4 x10_3 y433 (wrap64 (x15_4 + 1))) = some (r1, r2) := by first | (rw [hy433]; with_reducible exact H) | (have H2_ := (Option.bind_some _ _).symm.trans H; rw [hy433]; with_reducible exact H2_) | (have H2_ := (Option.bind_some _ _).symm.trans H; with_reducible exact H2_) | with_reducible exact H | (rw [hy433]; exact H) | exact H
  have Ny433 := Aside0.mk hy433
  clear hy433
  have H' := Aside0.mk H
  clear H
  obtain ⟨Ao68, co68, eo68⟩ := Kd.R_slice HO_10.out
  subst eo68
  have p432 : 0 ≤ (x15_4 : Int) := zD
  have q432 : x15_4 < (x10_3.length : Int) := zD
  obtain ⟨ad432, e432, hx432_0⟩ := Kd.at_int (Kd.R_reads' HO_10.out).2.2 x15_4 p432 q432
  cases e432
  replace p432 := eq_true p432
  replace q432 := eq_true q432
  go_wp2_with (first | ((with_reducible refine gate_builtin (b := .append) (xs := #[.tmp 119, .tmp 125]) rfl ?_); (try (refine gate_guard (by rfl) ?_; dsimp only)); at_builtin; refine Kd.R_append (Kd.int .u8) (w0 := w) w.heap.size rfl (.tmp 119) (.tmp 125) 22 5 (.int .u8 0) 1 rfl Try.underlying22 info5 rfl (by decide) (by omega) u14 x14_4 ((rd x10_3 x15_4) % 256) [.int .u8 ((rd x10_3 x15_4) % 256)] (fun _ => True) (fun _ => False) rfl rfl ?aP (fun _ hk => hk.elim) ?aF ?aO ?aB ?aS ?aL ?_; (case aP => exact rfl); (case aB => exact zB); (case aF => exact (fun _ _ => trivial)); (case aO => exact (zR HO_14.out)); (case aS => exact (below_size zB)); (case aL => have := LMc67.out; omega); intro v434 w69 ho hb hg hat; rw [← Ny433.out] at ho; have n0_ := Aside0.mk (Kd.R_over' (zR HO_10.out) (Kd.R_typed (zR HO_14.out)) (by decide) hg); have n1_ := Aside0.mk (hb); have n2_ := Aside0.mk (ho); clear HO_10; clear HB; clear HO_14; have HO_10 := n0_; have HB := n1_; have HO435 := n2_; clear n0_ n1_ n2_; clear ho hb hg hat))
  go_roundg k4
  case measure => have := HJ2.out; have := HK2.out; have := HK3.out; have := HK4.out; omega
  case rel => exact ⟨(y433), (wrap64 (x15_4 + 1)), zO, H', ⟨by have := HJ2.out; have := HK2.out; have := HK3.out; have := HK4.out; omega⟩, ⟨zR HO_10.out⟩, ⟨zR HO435.out⟩, ⟨zB⟩⟩
 rw [if_pos c36] at H
 have c36b0 := decide_eq_true c36
 clear c36
 replace H := zg H
 obtain ⟨c37, H⟩ := H
 have c37b0 : decide (0 < (x10_3.length : Int)) = true := decide_eq_true c37
 have c37b1 : decide (0 < x10_3.length) = true := decide_eq_true (by omega)
 clear c37
 replace H := zg H
 obtain ⟨c38, H⟩ := H
 have c38b0 : decide (0 ≤ x11_3) = true := decide_eq_true c38
 clear c38
 replace H := zb H
 obtain ⟨y409, Ny409, H⟩ := H
 replace H := zg H
 obtain ⟨c39, H⟩ := H
 have c39b0 := eq_true c39
 have c39b1 : decide (1 ≤ (x10_3.length : Int)) = true := decide_eq_true c39
 clear c39
 replace H := zb H
 obtain ⟨y412, Ny412, H⟩ := H
 replace H := zg H
 obtain ⟨c40, H⟩ := H
 have LMc40 := Aside0.mk c40
 clear c40
 replace H := zb H
 obtain ⟨y416, Ny416, H⟩ := H
 replace H := zg H
 obtain ⟨c41, H⟩ := H
 have LMc41 := Aside0.mk c41
 clear c41
 obtain ⟨y419, hy419⟩ : ∃ y_ : List Int, y_ = (y416 ++ [0]) := ⟨_, rfl⟩
 replace H : (spec_RsCode.l3 k3 l0 x6_3 y419 x11_3 (Go.bits .xor .i64 (rd x10_3 0) (wrap64 (rd l0 x11_3))) 0) = some (r1, r2) := by first | (rw [hy419]; with_reducible exact H) | (have H2_ := (Option.bind_some _ _).symm.trans H; rw [hy419]; with_reducible exact H2_) | (have H2_ := (Option.bind_some _ _).symm.trans H; with_reducible exact H2_) | with_reducible exact H | (rw [hy419]; exact H) | exact H
 have Ny419 := Aside0.mk hy419
 clear hy419
 have H' := Aside0.mk H
 clear H
 try go_wp2
 have n0_ := Aside0.mk (Kd.R_drew HO_6.out)
 have n1_ := Aside0.mk (Kd.R_drew HO_10.out)
 have n2_ := Aside0.mk (below_drew1 HB.out)
 clear HO_6
 clear HO_10
 clear HB
 have HO_6 := n0_
 have HO_10 := n1_
 have HB := n2_
 clear n0_ n1_ n2_
 obtain ⟨Ao43, co43, eo43⟩ := Kd.R_slice HO_10.out
 (first | subst eo43 | (injection eo43 with f1_ f2_ f3_; have f4_ := f1_.symm; have f5_ := f3_.symm; clear f1_ f2_ f3_; subst f4_; subst f5_))
 have p407 : 0 ≤ (0 : Int) := (by omega)
 have q407 : 0 < (x10_3.length : Int) := zD
 obtain ⟨ad407, e407, hx407_0⟩ := Kd.at_int (Kd.R_reads' HO_10.out).2.2 0 p407 q407
 cases e407
 have qi407 : (0 < x10_3.length) = True := eq_true (by omega)
 (try rw [show ((0 : Int)).toNat = 0 from rfl] at hx407_0)
 (try rw [Addr.add_zero'] at hx407_0)
 replace p407 := eq_true p407
 replace q407 := eq_true q407
 have p408 : 0 ≤ (x11_3 : Int) := zD
 have q408 : x11_3 < (l0.length : Int) := zD
 obtain ⟨ad408, e408, hx408_0⟩ := Kd.at_int HR0.out x11_3 p408 q408
 have hw408_0 := hx408_0
 cases e408
 replace hx408_0 := (HB.out.cell (World.block_lt_of_cell? w _ hx408_0)).trans hx408_0
 replace p408 := eq_true p408
 replace q408 := eq_true q408
 refine start_ (n := 10) (S := fun w' => w'.cell? ad407 = some (.int .i64 (rd x10_3 0)) ∧ w'.cell? (ad408.add (x11_3).toNat) = some (.int .u8 (rd l0 x11_3))) (ds := []) spec_RsCode.mk_19 (by kernel_rfl) rfl rfl ⟨hx407_0, ((HB.out.cell (World.block_lt_of_cell? w _ hw408_0)).trans hw408_0)⟩ (fun hHeld => ?_); refine with_tabW spec_RsCode.tab17 spec_RsCode.bits17 (fun HT_ HW_ => ?_)
 generalize wr.drew = w42 at HO_6 HO_10 HB hx407_0 hx408_0 hHeld ⊢
 refine zP 0 74 spec_RsCode.mk_20 ?_
 refine zP 1 75 spec_RsCode.mk_21 ?_
 refine zP 3 77 spec_RsCode.mk_22 ?_
 refine zP 4 78 spec_RsCode.mk_23 ?_
 refine zP 5 79 spec_RsCode.mk_24 ?_
 refine zT2 2 76 spec_RsCode.mk_25 ?_
 refine zT2 6 80 spec_RsCode.mk_26 ?_
 refine zP 7 81 spec_RsCode.mk_27 ?_
 refine zP 8 82 spec_RsCode.mk_28 ?_
 refine zP 9 12 spec_RsCode.mk_29 ?_
 refine done_ (done_of HT_.out (by kernel_rfl)) ?_
 try go_wp2_with (first | ((with_reducible refine gate_dst (N := 83) rfl ?_); (try (refine gate_guard (by rfl) ?_; dsimp only)); refine Kd.R_lit (Kd.int .i64) _ 3 ?hg (N := 83) ?hd (xs := ([] : List Int)) (inner := []) (ok := fun _ => True) (okp := fun _ => True) ?hr ?hp (fun _ hk => hk) trivial (Below.refl _ _) (Nat.le_refl _) (by simp) ?_; (case hd => rfl); (case hg => rfl); (case hr => first | (go_simp; done) | (go_simp; rfl)); (case hp => exact (Reps.none _ _)); intro v410 w44 ho45 hb hg_ hnew_; clear hg_ hnew_; (first | rw [← Ny409.out] at ho45 | (simp only [Int.reduceToNat] at ho45; rw [← Ny409.out] at ho45)); have n0_ := Aside0.mk (Kd.R_elder' (zR HO_6.out) (Kd.R_base ho45) hb); have n1_ := Aside0.mk (Kd.R_elder' (zR HO_10.out) (Kd.R_base ho45) hb); have n2_ := Aside0.mk (Kd.R_lower (Kd.R_new' (Kd.R_new' ho45 (Kd.R_lt (zR HO_6.out))) (Kd.R_lt (zR HO_10.out))) (below_size zB)); have n3_ := Aside0.mk (below_step zB hb); clear HO_6; clear HO_10; clear HB; have HO_6 := n0_; have HO_10 := n1_; have HO411 := n2_; have HB := n3_; clear n0_ n1_ n2_ n3_; clear hb ho45; have q46 : (1 : Int) ≤ ((x10_3.length : Int) : Int) := zD; obtain ⟨i046, hi046, _, hsz46, _⟩ := info_parts info3; have hroom46 : x10_3.length ≤ co43 := (Kd.R_reads' HO_10.out).2.1; have hC46 : Kd.C (Kd.int .i64) _ (some ad407) x10_3.length x10_3 := (Kd.R_reads' HO_10.out).2.2; have hcut46 := cut_from (P := Try.prog) 24 3 .i64 Try.underlying24 hi046 1 hsz46 (some ad407) x10_3.length co43 1 (by omega) q46; have hr46 := Kd.C_drop (m := (1 : Int).toNat) (c := co43) hC46 (by omega) hroom46; obtain ⟨A46, hA46⟩ : ∃ A1, A1 = (if co43 = (1 : Int).toNat then (some ad407) else ((some ad407) : Option Addr).map (·.add ((1 : Int).toNat * 1))) := ⟨_, rfl⟩; obtain ⟨c46, hc46⟩ : ∃ c1, c1 = co43 - (1 : Int).toNat := ⟨_, rfl⟩; have hy46 : y412.length = x10_3.length - (1 : Int).toNat := (by rw [Ny412.out, List.length_drop] <;> omega); rw [show (x10_3).drop (1 : Int).toNat = y412 from Ny412.out.symm] at hr46; replace hr46 : Kd.C (Kd.int .i64) _ A46 y412.length y412 := (by rw [hA46]; exact hr46); rw [← hy46, ← hA46, ← hc46] at hcut46; have HR415 := Aside0.mk hr46; have HC415 := Aside0.mk (show y412.length ≤ c46 from by rw [hy46, hc46]; exact Nat.sub_le_sub_right hroom46 _); clear hr46 hC46 hroom46 hi046 hsz46 hc46; have KY46 := Aside0.mk hy46; have KA46 := Aside0.mk hA46; clear hy46 hA46; have KL46 := Aside0.mk (show 1 ≤ x10_3.length from by omega); replace q46 := eq_true q46) | ((with_reducible refine gate_builtin (b := .append) (xs := #[.tmp 83, .tmp 85]) rfl ?_); (try (refine gate_guard (by rfl) ?_; dsimp only)); at_builtin; refine Kd.R_append_rows (Kd.int .i64) (w0 := w) w.heap.size rfl (.tmp 83) (.tmp 85) 24 3 (.int .i64 0) 8 rfl Try.underlying24 info3 rfl (by decide) (by omega) v410 y409 y412 _ _ _ (fun k_ => some k_ ≠ (u6 : Value).ownBlock ∧ some k_ ≠ (.slice (some ad407) x10_3.length co43 : Value).ownBlock) (fun _ => False) rfl rfl ?aO ?aR (fun _ _ h => h) (fun _ h => h.elim) ?aF ?aB ?aS ?aL ?_; (case aR => repeat (first | exact (by repeat (first | (with_reducible exact HR415.out) | (with_reducible refine Kd.C_alloc ?_ _) | (with_reducible refine Kd.C_drewN ?_ _) | (with_reducible refine Kd.C_drew ?_) | exact HR415.out)) | (with_reducible refine Kd.C_alloc ?_ _) | (with_reducible refine Kd.C_drewN ?_ _) | (with_reducible refine Kd.C_drew ?_))); (case aB => exact zB); (case aF => exact (fun k_ hk => ⟨Kd.fresh' (Kd.R_lt (zR HO_6.out)) k_ hk, Kd.fresh' (Kd.R_lt (zR HO_10.out)) k_ hk⟩)); (case aO => exact (by (with_reducible repeat (first | apply Kd.R_alloc | apply Kd.R_drewN | apply Kd.R_drew)); exact Kd.R_mono HO411.out (fun _ hk => ⟨hk.1.2, hk.2⟩))); (case aS => exact (below_size zB)); (case aL => have := LMc40.out; omega); intro v417 w47 ho hb hg hat; rw [← Ny416.out] at ho; have n0_ := Aside0.mk (Kd.R_after (ok := (fun k_ => some k_ ≠ (.slice (some ad407) x10_3.length co43 : Value).ownBlock)) (zR HO_6.out) hg hat); have n1_ := Aside0.mk (Kd.R_after (ok := (fun k_ => some k_ ≠ (u6 : Value).ownBlock)) (zR HO_10.out) hg hat); have n2_ := Aside0.mk (hb); have n3_ := Aside0.mk ((show Kd.C (Kd.int .i64) w47 A46 y412.length y412 from by rw [Ny412.out, KA46.out]; exact Kd.C_drop (m := 1) (c := co43) ((Kd.R_reads' (Kd.R_after (ok := (fun k_ => some k_ ≠ (u6 : Value).ownBlock)) (zR HO_10.out) hg hat)).2.2) KL46.out ((Kd.R_reads' (Kd.R_after (ok := (fun k_ => some k_ ≠ (u6 : Value).ownBlock)) (zR HO_10.out) hg hat)).2.1))); have n4_ := Aside0.mk (ho); clear HO_6; clear HO_10; clear HB; clear HR415; clear HO411; have HO_6 := n0_; have HO_10 := n1_; have HB := n2_; have HR415 := n3_; have HO418 := n4_; clear n0_ n1_ n2_ n3_ n4_; clear ho hb hg hat) | ((with_reducible refine gate_builtin (b := .append) (xs := #[.tmp 86, .tmp 87]) rfl ?_); (try (refine gate_guard (by rfl) ?_; dsimp only)); at_builtin; refine Kd.R_append (Kd.int .i64) (w0 := w) w.heap.size rfl (.tmp 86) (.tmp 87) 24 3 (.int .i64 0) 8 rfl Try.underlying24 info3 rfl (by decide) (by omega) v417 y416 0 [.int .i64 0] (fun k_ => some k_ ≠ (u6 : Value).ownBlock ∧ some k_ ≠ (.slice (some ad407) x10_3.length co43 : Value).ownBlock) (fun _ => False) rfl rfl ?aP (fun _ hk => hk.elim) ?aF ?aO ?aB ?aS ?aL ?_; (case aP => exact rfl); (case aB => exact zB); (case aF => exact (fun k_ hk => ⟨Kd.fresh' (Kd.R_lt (zR HO_6.out)) k_ hk, Kd.fresh' (Kd.R_lt (zR HO_10.out)) k_ hk⟩)); (case aO => exact (zR HO418.out)); (case aS => exact (below_size zB)); (case aL => have := LMc41.out; omega); intro v420 w48 ho hb hg hat; rw [← Ny419.out] at ho; have n0_ := Aside0.mk (Kd.R_after (ok := (fun k_ => some k_ ≠ (.slice (some ad407) x10_3.length co43 : Value).ownBlock)) (zR HO_6.out) hg hat); have n1_ := Aside0.mk (Kd.R_after (ok := (fun k_ => some k_ ≠ (u6 : Value).ownBlock)) (zR HO_10.out) hg hat); have n2_ := Aside0.mk (hb); have n3_ := Aside0.mk ((show Kd.C (Kd.int .i64) w48 A46 y412.length y412 from by rw [Ny412.out, KA46.out]; exact Kd.C_drop (m := 1) (c := co43) ((Kd.R_reads' (Kd.R_after (ok := (fun k_ => some k_ ≠ (u6 : Value).ownBlock)) (zR HO_10.out) hg hat)).2.2) KL46.out ((Kd.R_reads' (Kd.R_after (ok := (fun k_ => some k_ ≠ (u6 : Value).ownBlock)) (zR HO_10.out) hg hat)).2.1))); have n4_ := Aside0.mk (ho); clear HO_6; clear HO_10; clear HB; clear HR415; clear HO418; have HO_6 := n0_; have HO_10 := n1_; have HB := n2_; have HR415 := n3_; have HO421 := n4_; clear n0_ n1_ n2_ n3_ n4_; clear ho hb hg hat))
 go_loopg [13] k3 (fun kq v13 w' => ∃ (x10_4 : List Int) (x13_4 : Int), v13 = .int .i64 x13_4 ∧ Aside0 (spec_RsCode.l3 kq l0 x6_3 x10_4 x11_3 (Go.bits .xor .i64 (rd x10_3 0) (wrap64 (rd l0 x11_3))) x13_4 = some (r1, r2)) ∧ Aside0 (kq ≤ k3) ∧ Aside0 (Kd.R (Kd.int .i64) 3 w' w.heap.size (fun k_ => some k_ ≠ (v420 : Value).ownBlock) u6 x6_3) ∧ Aside0 (Kd.R (Kd.int .i64) 3 w' w.heap.size (fun k_ => some k_ ≠ (u6 : Value).ownBlock) v420 x10_4) ∧ Aside0 (Below w.heap.size w w'))
 case atStart => exact ⟨(y419), (0), zO, H', ⟨Nat.le_refl _⟩, ⟨by (with_reducible repeat (first | apply Kd.R_alloc | apply Kd.R_drewN | apply Kd.R_drew)); exact Kd.R_mono HO_6.out (fun _ hk => hk.2)⟩, ⟨by (with_reducible repeat (first | apply Kd.R_alloc | apply Kd.R_drewN | apply Kd.R_drew)); exact Kd.R_mono HO421.out (fun _ hk => hk.1)⟩, ⟨zB⟩⟩
 case round =>
 clear H'
 try clear c1
 try clear c2
 try clear p2
 try clear q2
 try clear hx2
 try clear hf2
 try clear c3
 try clear p3
 try clear q3
 try clear hx3
 try clear c4
 try clear p4
 try clear q4
 try clear hx4
 try clear qi4
 try clear c5
 try clear p6
 try clear c7
 try clear c12
 try clear c12b0
 try clear c13
 try clear c14
 try clear c20
 try clear c20b0
 try clear c22
 try clear c22b0
 try clear c23
 try clear c23b0
 try clear c24
 try clear c24b0
 try clear p27
 try clear q27
 try clear hx27
 try clear hf27
 try clear c32
 try clear c32b0
 try clear c32b1
 try clear c33
 try clear c33b0
 try clear c33b1
 try clear c36
 try clear c36b0
 try clear c37
 try clear c37b0
 try clear c37b1
 try clear c38
 try clear c38b0
 try clear c39
 try clear c39b0
 try clear c39b1
 try clear p39
 try clear q39
 try clear hx39
 try clear c40
 try clear p40
 try clear q40
 try clear hx40
 try clear qi40
 try clear c41
 try clear c46
 try clear q46
 try clear c47
 try clear hx27_0
 try clear hx399_0
 try clear hx400_0
 try clear hx407_0
 try clear hx408_0
 try clear p2
 try clear p27
 try clear p3
 try clear p399
 try clear p4
 try clear p400
 try clear p407
 try clear p408
 try clear p6
 try clear q2
 try clear q27
 try clear q3
 try clear q399
 try clear q4
 try clear q400
 try clear q407
 try clear q408
 try clear q46
 obtain ⟨x10_4, x13_4, rfl, HA, HK4, HO_6, HO_10, HB⟩ := hrel
 cases gk with
 | zero => exact absurd HA.out (by simp [spec_RsCode.l3])
 | succ k4 =>
 have H := HA.out
 clear HA
 simp only [spec_RsCode.l3] at H
 by_cases c49 : x13_4 < (x10_4.length : Int)
 rotate_left
 ·rw [if_neg c49] at H
  have c49b0 := decide_eq_false c49
  clear c49
  have H' := Aside0.mk H
  clear H
  obtain ⟨Ao60, co60, eo60⟩ := Kd.R_slice HO_10.out
  subst eo60
  go_wp2
  go_roundg k4
  case measure => have := HJ2.out; have := HK2.out; have := HK3.out; have := HK4.out; omega
  case rel => exact ⟨(x6_3), (x10_4), (wrap64 (x11_3 + 1)), zO, H', ⟨by have := HJ2.out; have := HK2.out; have := HK3.out; have := HK4.out; omega⟩, ⟨zR HO_6.out⟩, ⟨zR HO_10.out⟩, ⟨zB⟩⟩
 rw [if_pos c49] at H
 have c49b0 := decide_eq_true c49
 clear c49
 replace H := zg H
 obtain ⟨c50, H⟩ := H
 have c50b0 : decide (0 ≤ x13_4) = true := decide_eq_true c50
 clear c50
 obtain ⟨ji51, hji51⟩ : ∃ j_ : Int, (wrap64 (x13_4 + 1)) = j_ := ⟨_, rfl⟩
 replace H : (if 0 ≤ (ji51) then (if (ji51) < (x6_3.length : Int) then ((spec_GfMul.f k4 (Go.bits .xor .i64 (rd x10_3 0) (wrap64 (rd l0 x11_3))) (rd x6_3 (ji51))).bind fun t424 => (spec_RsCode.l3 k4 l0 x6_3 (x10_4.set (x13_4 : Int).toNat (Go.bits .xor .i64 (rd x10_4 x13_4) t424)) x11_3 (Go.bits .xor .i64 (rd x10_3 0) (wrap64 (rd l0 x11_3))) ji51)) else (none)) else (none)) = some (r1, r2) := by first | (rw [hji51] at H; exact H) | (simp only [hji51] at H ⊢; exact H)
 have hji51w : (IntKind.i64.wrap (x13_4 + 1)) = ji51 := (i64_w _).trans hji51
 replace H := zg H
 obtain ⟨c52, H⟩ := H
 have c52b0 : decide (0 ≤ (ji51)) = true := decide_eq_true c52
 clear c52
 replace H := zg H
 obtain ⟨c53, H⟩ := H
 have c53b0 : decide ((ji51) < (x6_3.length : Int)) = true := decide_eq_true c53
 clear c53
 replace H := zi H
 obtain ⟨t424, A54, H⟩ := H
 obtain ⟨y425, hy425⟩ : ∃ y_ : List Int, y_ = (x10_4.set (x13_4 : Int).toNat (Go.bits .xor .i64 (rd x10_4 x13_4) t424)) := ⟨_, rfl⟩
 replace H : (spec_RsCode.l3 k4 l0 x6_3 y425 x11_3 (Go.bits .xor .i64 (rd x10_3 0) (wrap64 (rd l0 x11_3))) ji51) = some (r1, r2) := by first | (rw [hy425]; with_reducible exact H) | (have H2_ := (Option.bind_some _ _).symm.trans H; rw [hy425]; with_reducible exact H2_) | (have H2_ := (Option.bind_some _ _).symm.trans H; with_reducible exact H2_) | with_reducible exact H | (rw [hy425]; exact H) | exact H
 have Ny425 := Aside0.mk hy425
 clear hy425
 have H' := Aside0.mk H
 clear H
 obtain ⟨Ao56, co56, eo56⟩ := Kd.R_slice HO_10.out
 subst eo56
 try go_wp2
 have n0_ := Aside0.mk (Kd.R_drew HO_6.out)
 have n1_ := Aside0.mk (Kd.R_drew HO_10.out)
 have n2_ := Aside0.mk (below_drew1 HB.out)
 clear HO_6
 clear HO_10
 clear HB
 have HO_6 := n0_
 have HO_10 := n1_
 have HB := n2_
 clear n0_ n1_ n2_
 have p422 : 0 ≤ (x13_4 : Int) := zD
 have q422 : x13_4 < (x10_4.length : Int) := zD
 obtain ⟨ad422, e422, hx422_0⟩ := Kd.at_int (Kd.R_reads' HO_10.out).2.2 x13_4 p422 q422
 cases e422
 replace p422 := eq_true p422
 replace q422 := eq_true q422
 obtain ⟨Ao58, co58, eo58⟩ := Kd.R_slice HO_6.out
 (first | subst eo58 | (injection eo58 with f1_ f2_ f3_; have f4_ := f1_.symm; have f5_ := f3_.symm; clear f1_ f2_ f3_; subst f4_; subst f5_))
 have p423 : 0 ≤ ((ji51) : Int) := zD
 have q423 : (ji51) < (x6_3.length : Int) := zD
 obtain ⟨ad423, e423, hx423_0⟩ := Kd.at_int (Kd.R_reads' HO_6.out).2.2 (ji51) p423 q423
 cases e423
 replace p423 := eq_true p423
 replace q423 := eq_true q423
 refine start_ (n := 16) (S := fun w' => w'.cell? (ad422.add (x13_4).toNat) = some (.int .i64 (rd x10_4 x13_4)) ∧ w'.cell? (ad423.add ((ji51)).toNat) = some (.int .i64 (rd x6_3 (ji51)))) (ds := [15]) spec_RsCode.mk_30 (by kernel_rfl) rfl rfl ⟨hx422_0, hx423_0⟩ (fun hHeld => ?_); refine with_tabW spec_RsCode.tab22 spec_RsCode.bits22 (fun HT_ HW_ => ?_)
 generalize wr.drew = w57 at HO_6 HO_10 HB hx422_0 hx423_0 hHeld ⊢
 refine zP 0 95 spec_RsCode.mk_31 ?_
 refine zP 1 96 spec_RsCode.mk_32 ?_
 refine zP 2 97 spec_RsCode.mk_33 ?_
 refine zP 3 98 spec_RsCode.mk_34 ?_
 refine zP 4 99 spec_RsCode.mk_35 ?_
 refine zP 6 101 spec_RsCode.mk_36 ?_
 refine zP 7 102 spec_RsCode.mk_37 ?_
 refine zP 8 103 spec_RsCode.mk_38 ?_
 refine zP 9 104 spec_RsCode.mk_39 ?_
 refine zP 10 105 spec_RsCode.mk_40 ?_
 refine zT2 5 100 spec_RsCode.mk_41 ?_
 refine zT2 11 106 spec_RsCode.mk_42 ?_
 refine one_ (i := 12) (N := some 107) spec_RsCode.mk_43 rfl rfl (one_of HT_.out (by kernel_rfl)) (by decide) (fun K hK => ?_)
 refine goes_ Try.func46 (by kernel_rfl) rfl #[.int .i64 (Go.bits .xor .i64 (rd x10_3 0) (wrap64 (rd l0 x11_3))), .int .i64 (rd x6_3 (ji51))] (by rfl) rfl rfl (by (try simp only [List.map_toArray, List.map_cons, List.map_nil]); first | done | (simp only [hji51]; rfl) | rfl | (simp only [List.length_drop, List.length_take]; rfl)) ?_
 with_reducible refine (spec_GfMul.calls k4 (Go.bits .xor .i64 (rd x10_3 0) (wrap64 (rd l0 x11_3))) (rd x6_3 (ji51)) t424 _ A54.out).mono ?_
 rintro e w' ⟨rfl, ⟨nd, rfl⟩⟩
 refine ⟨_, rfl, ?_⟩
 have p55 : 0 ≤ (x13_4 : Int) := zD
 have q55 : (x13_4 : Int) < ((x10_4.length : Int) : Int) := zD
 obtain ⟨go55, co55, eo55, gb55, gl55, cl55, HG55⟩ := Kd.R_form HO_10.out (by omega)
 (first | cases eo55 | (injection eo55 with ea_ en_ ec_; (first | subst ea_ | (injection ea_ with ea_; subst ea_)); subst ec_; clear en_))
 have GB55 := Aside0.mk gb55
 have GG55 := Aside0.mk HG55
 clear gb55 gl55 HG55
 (first | simp only [add_plain] at hx422_0 | skip)
 obtain ⟨hx55_0, hf55_0⟩ := Kd.R_celln 0 HO_10.out (x13_4 : Int) p55 q55
 replace p55 := eq_true p55
 replace q55 := eq_true q55
 have HP59 := Kd.R_putn HO_10.out (x13_4 : Int) (Go.bits .xor .i64 (rd x10_4 x13_4) t424)
 rw [← Ny425.out] at HP59
 have HQ59 := Aside0.mk HP59
 clear HP59
 refine hK.out _ _ ⟨hHeld.1, hHeld.2⟩ (fun hHeld => ?_)
 clear hK K
 refine norm_ (a' := ?_) ?_ ?_
 rotate_left
 ·show Act.put _ (some 107) _ = _
  simp only [Act.put, List.setIfInBounds_toArray, List.set_cons_zero, List.set_cons_succ, i64_w, i32_w]
  rfl
 refine zP 13 108 spec_RsCode.mk_44 ?_
 refine zP 14 109 spec_RsCode.mk_45 ?_
 refine last_ (i := 15) (N := none) spec_RsCode.mk_46 rfl rfl (one_of HT_.out (by kernel_rfl)) (by decide) (fun K hK => ?_)
 refine skip_ (w1 := ?_) (by rfl) rfl ?_ ?_
 rotate_left
 ·go_simp
  rfl
 refine hK.out _ _ ?_
 clear hK K
 refine done_ (done_of HT_.out (by kernel_rfl)) ?_
 try go_wp2
 go_roundg k4
 case measure => have := HJ2.out; have := HK2.out; have := HK3.out; have := HK4.out; omega
 case rel => exact ⟨(y425), (ji51), (by first | rfl | (simp; done) | (simp only [← hji51] <;> (first | rfl | simp)) | (simp [*]; done)), H', ⟨by have := HJ2.out; have := HK2.out; have := HK3.out; have := HK4.out; omega⟩, ⟨by (with_reducible repeat (first | apply Kd.R_alloc | apply Kd.R_drewN | apply Kd.R_drew)); exact Kd.R_mono (Kd.R_far (p := ⟨go55, (x13_4 : Int).toNat, none⟩) (Kd.R_mono HO_6.out (fun k_ hk => (⟨hk, fun e_ => hk (by rw [e_]; rfl)⟩ : _ ∧ k_ ≠ go55))) (fun _ hk => hk.2) (.int .i64 (Go.bits .xor .i64 (rd x10_4 x13_4) t424))) (fun _ hk => hk.1)⟩, ⟨zR HQ59.out⟩, ⟨by repeat (first | (with_reducible first | exact HB.out | apply below_alloc | apply pw_below_drewN | apply below_drew1 | refine below_set ?_ GB55.out) | exact HB.out)⟩⟩

end Go.Proofs.Ytdcjfcfiflpblaa.PFnNearestWord
