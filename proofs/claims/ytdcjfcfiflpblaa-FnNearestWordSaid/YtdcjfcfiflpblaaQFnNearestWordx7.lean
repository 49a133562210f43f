/- The functions that FnNearestWord reaches, each with its walk; written by a program (own.py). -/
import Derived.Test.YtdcjfcfiflpblaaSh
import Derived.Test.YtdcjfcfiflpblaaQFnNearestWordx0
import Derived.Test.YtdcjfcfiflpblaaQFnNearestWordx6
namespace Go.Proofs.Ytdcjfcfiflpblaa.PFnNearestWord
open Go.RowKit Go.Proofs.YtdcjfcfiflpblaaW.PrintWords Go.Proofs.YtdcjfcfiflpblaaW.PrintLast Go.Proofs.YtdcjfcfiflpblaaW.PrintMore
attribute [local go_sem] max2_int min2_int max_two min_two max_three min_three max_four min_four   -- for this text's walks alone
set_option linter.unusedVariables false
set_option linter.unusedSimpArgs false

/-! ### spec_l14Word: function 42 -/
def spec_l14Word.f (l0 : List Int) (a1 : Int) : Option (Bool) := (spec_l14Mend.f a1).bind fun t255 => (if t255 = true then ((spec_l1In.f (l0.length : Int) (wrap64 ((wrap64 (2 * a1)) + 1)) 255).bind fun t256 => (some t256)) else (some false))
set_option maxHeartbeats 8000000 in
set_option maxRecDepth 100000 in
theorem spec_l14Word.calls (A0 : Option Addr) (c0 : Nat) (l0 : List Int) (a1 : Int) (r : Bool) (w : World) (hr0 : Kd.C (Kd.int .u8) w A0 l0.length l0) (hc0 : l0.length ≤ c0) (h : spec_l14Word.f l0 a1 = some r) :
  Calls Try.prog 42 #[.slice A0 l0.length c0, .int .i64 a1] w fun e w' => e = .returned (.bool r) ∧ Drawn0 w w' := by
 have HR0 := Aside0.mk hr0
 have HC0 := Aside0.mk hc0
 clear hr0 hc0
 have H : ((spec_l14Mend.f a1).bind fun t255 => (if t255 = true then ((spec_l1In.f (l0.length : Int) (wrap64 ((wrap64 (2 * a1)) + 1)) 255).bind fun t256 => (some t256)) else (some false))) = some r := h
 clear h
 replace H := zi H
 obtain ⟨t255, A3, H⟩ := H
 by_cases c4 : t255 = true
 rotate_left
 ·replace c4 := Bool.eq_false_iff.mpr c4
  subst c4
  have H1 : (some false) = some r := by rw [if_neg (show ¬ (false = true) by decide)] at H; exact H
  clear H
  have H := H1
  clear H1
  obtain rfl := Option.some.inj H
  go_enter Try.func42, Try.ntmps42
  go_wp2_with (first | ((with_reducible refine gate_callee (f := 44) rfl ?_); refine goesL_ (some 6) rfl rfl Try.func44 (by kernel_rfl) rfl #[.int .i64 a1] rfl zL ?_; (with_reducible refine (spec_l14Mend.calls a1 false _ A3.out).mono ?_); rintro e w' ⟨rfl, ⟨nd, rfl⟩⟩; refine ⟨_, rfl, ?_⟩))
  go_ret
  exact ⟨zO, zW⟩
 subst c4
 have H1 : ((spec_l1In.f (l0.length : Int) (wrap64 ((wrap64 (2 * a1)) + 1)) 255).bind fun t256 => (some t256)) = some r := by rw [if_pos rfl] at H; exact H
 clear H
 have H := H1
 clear H1
 replace H := zi H
 obtain ⟨t256, A5, H⟩ := H
 obtain rfl := Option.some.inj H
 go_enter Try.func42, Try.ntmps42
 go_wp2_with (first | ((with_reducible refine gate_callee (f := 44) rfl ?_); refine goesL_ (some 6) rfl rfl Try.func44 (by kernel_rfl) rfl #[.int .i64 a1] rfl zL ?_; (with_reducible refine (spec_l14Mend.calls a1 true _ A3.out).mono ?_); rintro e w' ⟨rfl, ⟨nd, rfl⟩⟩; refine ⟨_, rfl, ?_⟩) | (go_at_call 45; (with_reducible refine (spec_l1In.calls (l0.length : Int) (wrap64 ((wrap64 (2 * a1)) + 1)) 255 t256 _ A5.out).mono ?_); rintro e w' ⟨rfl, ⟨nd, rfl⟩⟩))
 go_ret
 exact ⟨zO, zW⟩

/-! ### spec_l14Byte: function 54 -/
def spec_l14Byte.f (a0 : Int) : Option (Bool) := (spec_l1In.f a0 0 255).bind fun t257 => (some t257)
set_option maxHeartbeats 8000000 in
set_option maxRecDepth 100000 in
theorem spec_l14Byte.calls (a0 : Int) (r : Bool) (w : World) (h : spec_l14Byte.f a0 = some r) :
  Calls Try.prog 54 #[.int .i64 a0] w fun e w' => e = .returned (.bool r) ∧ Drawn0 w w' := by
 have H : ((spec_l1In.f a0 0 255).bind fun t257 => (some t257)) = some r := h
 clear h
 replace H := zi H
 obtain ⟨t257, A2, H⟩ := H
 obtain rfl := Option.some.inj H
 go_enter Try.func54, Try.ntmps54
 go_wp2_with (first | ((with_reducible refine gate_callee (f := 45) rfl ?_); refine goesL_ (some 4) rfl rfl Try.func45 (by kernel_rfl) rfl #[.int .i64 a0, .int .i64 0, .int .i64 255] rfl zL ?_; (with_reducible refine (spec_l1In.calls a0 0 255 t257 _ A2.out).mono ?_); rintro e w' ⟨rfl, ⟨nd, rfl⟩⟩; refine ⟨_, rfl, ?_⟩))
 go_ret
 exact ⟨zO, zW⟩

/-! ### spec_GfMul: function 46 -/
mutual
def spec_GfMul.j0 : Nat → Int → Int → Bool → Option (Int)
  | 0, _, _, _ => none
  | k + 1, x0, x1, x14 => if x14 = true then (some 0) else (spec_GfMul.l0 k x0 x1 0 7)
def spec_GfMul.l0 : Nat → Int → Int → Int → Int → Option (Int)
  | 0, _, _, _, _ => none
  | k + 1, x0, x1, x5, x6 => if x6 ≥ 0 then (if (wrap64 (2 * x5)) ≥ 256 then (if 0 ≤ (IntKind.u64.wrap (x6)) then (if (Int.tmod (shr .i64 x1 (IntKind.u64.wrap (x6))) 2) = 1 then (spec_GfMul.l0 k x0 x1 (Go.bits .xor .i64 (Go.bits .xor .i64 (wrap64 (2 * x5)) 285) x0) (wrap64 (x6 - 1))) else (spec_GfMul.l0 k x0 x1 (Go.bits .xor .i64 (wrap64 (2 * x5)) 285) (wrap64 (x6 - 1)))) else (none)) else (if 0 ≤ (IntKind.u64.wrap (x6)) then (if (Int.tmod (shr .i64 x1 (IntKind.u64.wrap (x6))) 2) = 1 then (spec_GfMul.l0 k x0 x1 (Go.bits .xor .i64 (wrap64 (2 * x5)) x0) (wrap64 (x6 - 1))) else (spec_GfMul.l0 k x0 x1 (wrap64 (2 * x5)) (wrap64 (x6 - 1)))) else (none))) else (some x5)
end
def spec_GfMul.f (k : Nat) (a0 : Int) (a1 : Int) : Option (Int) := (spec_l14Byte.f a0).bind fun t258 => (if t258 = true then ((spec_l14Byte.f a1).bind fun t259 => (spec_GfMul.j0 k a0 a1 (!t259))) else (spec_GfMul.j0 k a0 a1 true))
theorem spec_GfMul.mono_l : ∀ k, (∀ y0 y1 y2, LeO (spec_GfMul.j0 k y0 y1 y2) (spec_GfMul.j0 (k + 1) y0 y1 y2)) ∧ (∀ y0 y1 y2 y3, LeO (spec_GfMul.l0 k y0 y1 y2 y3) (spec_GfMul.l0 (k + 1) y0 y1 y2 y3))
  | 0 => ⟨fun _ _ _ r h => by simp [spec_GfMul.j0] at h, fun _ _ _ _ r h => by simp [spec_GfMul.l0] at h⟩
  | k + 1 => by
    obtain ⟨ih0, ih1⟩ := spec_GfMul.mono_l k
    refine ⟨?_, ?_⟩ <;> intros
    all_goals first | unfold spec_GfMul.j0 | unfold spec_GfMul.l0
    all_goals repeat' first
    | (with_reducible exact ih0 _ _ _)
    | (with_reducible exact ih1 _ _ _ _)
    | (with_reducible exact LeO.refl _)
    | (with_reducible exact LeO.none _)
    | (with_reducible refine LeO.ite ?_ ?_)
    | (with_reducible refine LeO.bind ?_ (fun _ => ?_))
    | exact ih0 _ _ _
    | exact ih1 _ _ _ _
    | exact LeO.none _
    | refine LeO.ite ?_ ?_
    | refine LeO.bind ?_ (fun _ => ?_)
theorem spec_GfMul.mono : ∀ a0 a1 k, LeO (spec_GfMul.f k a0 a1) (spec_GfMul.f (k + 1) a0 a1) := by
  intro a0 a1 k
  obtain ⟨ih0, ih1⟩ := spec_GfMul.mono_l k
  unfold spec_GfMul.f
  repeat' first
      | (with_reducible exact ih0 _ _ _)
      | (with_reducible exact ih1 _ _ _ _)
      | (with_reducible exact LeO.refl _)
      | (with_reducible exact LeO.none _)
      | (with_reducible refine LeO.ite ?_ ?_)
      | (with_reducible refine LeO.bind ?_ (fun _ => ?_))
      | exact ih0 _ _ _
      | exact ih1 _ _ _ _
      | exact LeO.none _
      | refine LeO.ite ?_ ?_
      | refine LeO.bind ?_ (fun _ => ?_)
set_option maxHeartbeats 8000000 in
set_option maxRecDepth 100000 in
theorem spec_GfMul.calls (k : Nat) (a0 : Int) (a1 : Int) (r : Int) (w : World) (h : spec_GfMul.f k a0 a1 = some r) :
  Calls Try.prog 46 #[.int .i64 a0, .int .i64 a1] w fun e w' => e = .returned (.int .i64 r) ∧ Drawn0 w w' := by
 have H : ((spec_l14Byte.f a0).bind fun t258 => (if t258 = true then ((spec_l14Byte.f a1).bind fun t259 => (spec_GfMul.j0 k a0 a1 (!t259))) else (spec_GfMul.j0 k a0 a1 true))) = some r := h
 clear h
 have HC3 := Aside0.mk H
 clear H
 go_enter Try.func46, Try.ntmps46
 go_upto_region 1 with (fail)
 go_cut [14] (fun v14 wc => ∃ (kq : Nat) (x14_2 : Bool), v14 = .bool x14_2 ∧ Aside0 (spec_GfMul.j0 kq a0 a1 x14_2 = some r) ∧ Aside0 (kq ≤ k) ∧ Drawn0 w wc)
 case first =>
  have H := HC3.out
  clear HC3
  replace H := zi H
  obtain ⟨t258, A4, H⟩ := H
  by_cases c5 : t258 = true
  rotate_left
  ·replace c5 := Bool.eq_false_iff.mpr c5
   subst c5
   have H1 : (spec_GfMul.j0 k a0 a1 true) = some r := by rw [if_neg (show ¬ (false = true) by decide)] at H; exact H
   clear H
   have H := H1
   clear H1
   have H' := Aside0.mk H
   clear H
   go_wp2_with (first | ((with_reducible refine gate_callee (f := 54) rfl ?_); refine goesL_ (some 8) rfl rfl Try.func54 (by kernel_rfl) rfl #[.int .i64 a0] rfl zL ?_; (with_reducible refine (spec_l14Byte.calls a0 false _ A4.out).mono ?_); rintro e w' ⟨rfl, ⟨nd, rfl⟩⟩; refine ⟨_, rfl, ?_⟩))
   go_meet
   case rel => exact ⟨_, (true), zO, H', ⟨by first | omega | exact Nat.le_refl _⟩, zW⟩
  subst c5
  have H1 : ((spec_l14Byte.f a1).bind fun t259 => (spec_GfMul.j0 k a0 a1 (!t259))) = some r := by rw [if_pos rfl] at H; exact H
  clear H
  have H := H1
  clear H1
  replace H := zi H
  obtain ⟨t259, A6, H⟩ := H
  have H' := Aside0.mk H
  clear H
  go_wp2_with (first | ((with_reducible refine gate_callee (f := 54) rfl ?_); refine goesL_ (some 8) rfl rfl Try.func54 (by kernel_rfl) rfl #[.int .i64 a0] rfl zL ?_; (with_reducible refine (spec_l14Byte.calls a0 true _ A4.out).mono ?_); rintro e w' ⟨rfl, ⟨nd, rfl⟩⟩; refine ⟨_, rfl, ?_⟩) | (go_at_call 54; (with_reducible refine (spec_l14Byte.calls a1 t259 _ A6.out).mono ?_); rintro e w' ⟨rfl, ⟨nd, rfl⟩⟩))
  go_meet
  case rel => exact ⟨_, (!t259), zO, H', ⟨by first | omega | exact Nat.le_refl _⟩, zW⟩
 case rest =>
 clear HC3
 try clear p2
 try clear c4
 try clear c5
 obtain ⟨kq, x14_2, rfl, HA, HJ2, ⟨mc2, rfl⟩⟩ := hcut
 cases kq with
 | zero => exact absurd HA.out (by simp [spec_GfMul.j0])
 | succ kj2 =>
 have H := HA.out
 clear HA
 simp only [spec_GfMul.j0] at H
 by_cases c7 : x14_2 = true
 ·subst c7
  have H1 : (some 0) = some r := by rw [if_pos rfl] at H; exact H
  clear H
  have H := H1
  clear H1
  obtain rfl := Option.some.inj H
  go_wp2
  go_ret
  exact ⟨zO, zW⟩
 replace c7 := Bool.eq_false_iff.mpr c7
 subst c7
 have H1 : (spec_GfMul.l0 kj2 a0 a1 0 7) = some r := by rw [if_neg (show ¬ (false = true) by decide)] at H; exact H
 clear H
 have H := H1
 clear H1
 have H' := Aside0.mk H
 clear H
 go_wp2
 go_loopg [5, 6] kj2 (fun kq v5 v6 w' => ∃ (x5_2 : Int) (x6_2 : Int), v5 = .int .i64 x5_2 ∧ v6 = .int .i64 x6_2 ∧ Aside0 (spec_GfMul.l0 kq a0 a1 x5_2 x6_2 = some r) ∧ Aside0 (kq ≤ kj2) ∧ Drawn0 w w')
 case atStart => exact ⟨(0), (7), zO, zO, H', ⟨Nat.le_refl _⟩, zW⟩
 case round =>
 clear H'
 try clear c2
 try clear p2
 try clear c4
 try clear c5
 try clear c7
 try clear p2
 obtain ⟨x5_2, x6_2, rfl, rfl, HA, HK2, ⟨m2, rfl⟩⟩ := hrel
 cases gk with
 | zero => exact absurd HA.out (by simp [spec_GfMul.l0])
 | succ k2 =>
 have H := HA.out
 clear HA
 simp only [spec_GfMul.l0] at H
 by_cases c8 : x6_2 ≥ 0
 rotate_left
 ·rw [if_neg c8] at H
  have c8b0 : decide (0 ≤ x6_2) = false := decide_eq_false c8
  clear c8
  obtain rfl := Option.some.inj H
  go_wp2
  go_ret
  exact ⟨zO, zW⟩
 rw [if_pos c8] at H
 have c8b0 : decide (0 ≤ x6_2) = true := decide_eq_true c8
 clear c8
 by_cases c9 : (wrap64 (2 * x5_2)) ≥ 256
 ·rw [if_pos c9] at H
  have c9b0 : decide (256 ≤ (wrap64 (2 * x5_2))) = true := decide_eq_true c9
  clear c9
  obtain ⟨ji10, hji10⟩ : ∃ j_ : Int, (IntKind.u64.wrap (x6_2)) = j_ := ⟨_, rfl⟩
  replace H : (if 0 ≤ (ji10) then (if (Int.tmod (shr .i64 a1 (ji10)) 2) = 1 then (spec_GfMul.l0 k2 a0 a1 (Go.bits .xor .i64 (Go.bits .xor .i64 (wrap64 (2 * x5_2)) 285) a0) (wrap64 (x6_2 - 1))) else (spec_GfMul.l0 k2 a0 a1 (Go.bits .xor .i64 (wrap64 (2 * x5_2)) 285) (wrap64 (x6_2 - 1)))) else (none)) = some r := by first | (rw [hji10] at H; exact H) | (simp only [hji10] at H ⊢; exact H)
  replace H := zg H
  obtain ⟨c11, H⟩ := H
  have c11b0 := eq_true c11
  have c11b1 : decide (0 ≤ (ji10)) = true := decide_eq_true c11
  clear c11
  obtain ⟨ji12, hji12⟩ : ∃ j_ : Int, (shr .i64 a1 (ji10)) = j_ := ⟨_, rfl⟩
  replace H : (if (Int.tmod (ji12) 2) = 1 then (spec_GfMul.l0 k2 a0 a1 (Go.bits .xor .i64 (Go.bits .xor .i64 (wrap64 (2 * x5_2)) 285) a0) (wrap64 (x6_2 - 1))) else (spec_GfMul.l0 k2 a0 a1 (Go.bits .xor .i64 (wrap64 (2 * x5_2)) 285) (wrap64 (x6_2 - 1)))) = some r := by first | (rw [hji12] at H; exact H) | (simp only [hji12] at H ⊢; exact H)
  have hji12_ : (a1 / 2 ^ min (ji10).toNat 64) = ji12 := hji12
  have hji12z : (ji10) ≤ 64 → (a1 / 2 ^ (ji10).toNat) = ji12 := shr_small hji12
  by_cases c13 : (Int.tmod (ji12) 2) = 1
  rotate_left
  ·rw [if_neg c13] at H
   have c13b0 : ((Int.tmod (ji12) 2) == 1) = false := beq_eq_false_iff_ne.mpr c13
   have c13b1 : ((Int.tmod (ji12) 2) != 1) = true := bne_iff_ne.mpr c13
   have H' := Aside0.mk H
   clear H
   go_wp2
   go_roundg k2
   case measure => have := HJ2.out; have := HK2.out; omega
   case rel => exact ⟨(Go.bits .xor .i64 (wrap64 (2 * x5_2)) 285), (wrap64 (x6_2 - 1)), zO, zO, H', ⟨by have := HJ2.out; have := HK2.out; omega⟩, zW⟩
  rw [if_pos c13] at H
  have c13b0 : ((Int.tmod (ji12) 2) == 1) = true := beq_iff_eq.mpr c13
  have c13b1 : ((Int.tmod (ji12) 2) != 1) = false := bne_eq_false_iff_eq.mpr c13
  clear c13
  have H' := Aside0.mk H
  clear H
  go_wp2
  go_roundg k2
  case measure => have := HJ2.out; have := HK2.out; omega
  case rel => exact ⟨(Go.bits .xor .i64 (Go.bits .xor .i64 (wrap64 (2 * x5_2)) 285) a0), (wrap64 (x6_2 - 1)), zO, zO, H', ⟨by have := HJ2.out; have := HK2.out; omega⟩, zW⟩
 rw [if_neg c9] at H
 have c9b0 : decide (256 ≤ (wrap64 (2 * x5_2))) = false := decide_eq_false c9
 clear c9
 obtain ⟨ji14, hji14⟩ : ∃ j_ : Int, (IntKind.u64.wrap (x6_2)) = j_ := ⟨_, rfl⟩
 replace H : (if 0 ≤ (ji14) then (if (Int.tmod (shr .i64 a1 (ji14)) 2) = 1 then (spec_GfMul.l0 k2 a0 a1 (Go.bits .xor .i64 (wrap64 (2 * x5_2)) a0) (wrap64 (x6_2 - 1))) else (spec_GfMul.l0 k2 a0 a1 (wrap64 (2 * x5_2)) (wrap64 (x6_2 - 1)))) else (none)) = some r := by first | (rw [hji14] at H; exact H) | (simp only [hji14] at H ⊢; exact H)
 replace H := zg H
 obtain ⟨c15, H⟩ := H
 have c15b0 := eq_true c15
 have c15b1 : decide (0 ≤ (ji14)) = true := decide_eq_true c15
 clear c15
 obtain ⟨ji16, hji16⟩ : ∃ j_ : Int, (shr .i64 a1 (ji14)) = j_ := ⟨_, rfl⟩
 replace H : (if (Int.tmod (ji16) 2) = 1 then (spec_GfMul.l0 k2 a0 a1 (Go.bits .xor .i64 (wrap64 (2 * x5_2)) a0) (wrap64 (x6_2 - 1))) else (spec_GfMul.l0 k2 a0 a1 (wrap64 (2 * x5_2)) (wrap64 (x6_2 - 1)))) = some r := by first | (rw [hji16] at H; exact H) | (simp only [hji16] at H ⊢; exact H)
 have hji16_ : (a1 / 2 ^ min (ji14).toNat 64) = ji16 := hji16
 have hji16z : (ji14) ≤ 64 → (a1 / 2 ^ (ji14).toNat) = ji16 := shr_small hji16
 by_cases c17 : (Int.tmod (ji16) 2) = 1
 rotate_left
 ·rw [if_neg c17] at H
  have c17b0 : ((Int.tmod (ji16) 2) == 1) = false := beq_eq_false_iff_ne.mpr c17
  have c17b1 : ((Int.tmod (ji16) 2) != 1) = true := bne_iff_ne.mpr c17
  have H' := Aside0.mk H
  clear H
  go_wp2
  go_roundg k2
  case measure => have := HJ2.out; have := HK2.out; omega
  case rel => exact ⟨(wrap64 (2 * x5_2)), (wrap64 (x6_2 - 1)), zO, zO, H', ⟨by have := HJ2.out; have := HK2.out; omega⟩, zW⟩
 rw [if_pos c17] at H
 have c17b0 : ((Int.tmod (ji16) 2) == 1) = true := beq_iff_eq.mpr c17
 have c17b1 : ((Int.tmod (ji16) 2) != 1) = false := bne_eq_false_iff_eq.mpr c17
 clear c17
 have H' := Aside0.mk H
 clear H
 go_wp2
 go_roundg k2
 case measure => have := HJ2.out; have := HK2.out; omega
 case rel => exact ⟨(Go.bits .xor .i64 (wrap64 (2 * x5_2)) a0), (wrap64 (x6_2 - 1)), zO, zO, H', ⟨by have := HJ2.out; have := HK2.out; omega⟩, zW⟩

/-! ### spec_l14Pow: function 47 -/
def spec_l14Pow.l0 : Nat → Int → Int → Int → Option (Int)
  | 0, _, _, _ => none
  | k + 1, x0, x3, x4 => if x4 < (Int.tmod x0 255) then ((spec_GfMul.f k x3 2).bind fun t260 => (spec_l14Pow.l0 k x0 t260 (wrap64 (x4 + 1)))) else (some x3)
def spec_l14Pow.f (k : Nat) (a0 : Int) : Option (Int) := spec_l14Pow.l0 k a0 1 0
theorem spec_l14Pow.mono_l : ∀ k, (∀ y0 y1 y2, LeO (spec_l14Pow.l0 k y0 y1 y2) (spec_l14Pow.l0 (k + 1) y0 y1 y2))
  | 0 => fun _ _ _ r h => by simp [spec_l14Pow.l0] at h
  | k + 1 => by
    have ih0 := spec_l14Pow.mono_l k
    · intro y0 y1 y2
      unfold spec_l14Pow.l0
      repeat' first
      | (with_reducible exact ih0 _ _ _)
      | (with_reducible exact spec_GfMul.mono _ _ _)
      | (with_reducible exact LeO.refl _)
      | (with_reducible exact LeO.none _)
      | (with_reducible refine LeO.ite ?_ ?_)
      | (with_reducible refine LeO.bind ?_ (fun _ => ?_))
      | exact ih0 _ _ _
      | exact spec_GfMul.mono _ _ _
      | exact LeO.none _
      | refine LeO.ite ?_ ?_
      | refine LeO.bind ?_ (fun _ => ?_)
theorem spec_l14Pow.mono : ∀ a0 k, LeO (spec_l14Pow.f k a0) (spec_l14Pow.f (k + 1) a0) := by
  intro a0 k
  have ih0 := spec_l14Pow.mono_l k
  unfold spec_l14Pow.f
  repeat' first
      | (with_reducible exact ih0 _ _ _)
      | (with_reducible exact spec_GfMul.mono _ _ _)
      | (with_reducible exact LeO.refl _)
      | (with_reducible exact LeO.none _)
      | (with_reducible refine LeO.ite ?_ ?_)
      | (with_reducible refine LeO.bind ?_ (fun _ => ?_))
      | exact ih0 _ _ _
      | exact spec_GfMul.mono _ _ _
      | exact LeO.none _
      | refine LeO.ite ?_ ?_
      | refine LeO.bind ?_ (fun _ => ?_)
set_option maxHeartbeats 8000000 in
set_option maxRecDepth 100000 in
theorem spec_l14Pow.calls (k : Nat) (a0 : Int) (r : Int) (w : World) (h : spec_l14Pow.f k a0 = some r) :
  Calls Try.prog 47 #[.int .i64 a0] w fun e w' => e = .returned (.int .i64 r) ∧ Drawn0 w w' := by
 have H : (spec_l14Pow.l0 k a0 1 0) = some r := h
 clear h
 have H' := Aside0.mk H
 clear H
 go_enter Try.func47, Try.ntmps47
 go_wp2
 go_loopg [3, 4] k (fun kq v3 v4 w' => ∃ (x3_1 : Int) (x4_1 : Int), v3 = .int .i64 x3_1 ∧ v4 = .int .i64 x4_1 ∧ Aside0 (spec_l14Pow.l0 kq a0 x3_1 x4_1 = some r) ∧ Aside0 (kq ≤ k) ∧ Drawn0 w w')
 case atStart => exact ⟨(1), (0), zO, zO, H', ⟨Nat.le_refl _⟩, zW⟩
 case round =>
 clear H'
 obtain ⟨x3_1, x4_1, rfl, rfl, HA, HK1, ⟨m1, rfl⟩⟩ := hrel
 cases gk with
 | zero => exact absurd HA.out (by simp [spec_l14Pow.l0])
 | succ k1 =>
 have H := HA.out
 clear HA
 simp only [spec_l14Pow.l0] at H
 by_cases c2 : x4_1 < (Int.tmod a0 255)
 rotate_left
 ·rw [if_neg c2] at H
  have c2b0 := decide_eq_false c2
  clear c2
  obtain rfl := Option.some.inj H
  go_wp2
  go_ret
  exact ⟨zO, zW⟩
 rw [if_pos c2] at H
 have c2b0 := decide_eq_true c2
 clear c2
 replace H := zi H
 obtain ⟨t260, A3, H⟩ := H
 have H' := Aside0.mk H
 clear H
 go_wp2_with (first | ((with_reducible refine gate_callee (f := 46) rfl ?_); refine goesL_ (some 12) rfl rfl Try.func46 (by kernel_rfl) rfl #[.int .i64 x3_1, .int .i64 2] rfl zL ?_; (with_reducible refine (spec_GfMul.calls k1 x3_1 2 t260 _ A3.out).mono ?_); rintro e w' ⟨rfl, ⟨nd, rfl⟩⟩; refine ⟨_, rfl, ?_⟩))
 go_roundg k1
 case measure => have := HK1.out; omega
 case rel => exact ⟨(t260), (wrap64 (x4_1 + 1)), zO, zO, H', ⟨by have := HK1.out; omega⟩, zW⟩

/-! ### spec_l14Signs: function 43 -/
mutual
def spec_l14Signs.l0 : Nat → List Int → Int → List Int → Bool → Int → Option (List Int × Bool)
  | 0, _, _, _, _, _ => none
  | k + 1, x0, x1, x6, x7, x8 => if x8 < (wrap64 (2 * x1)) then ((spec_l14Pow.f k x8).bind fun t264 => (spec_l14Signs.l1 k x0 x1 x6 x7 x8 t264 0 0)) else (some (x6, x7))
def spec_l14Signs.l1 : Nat → List Int → Int → List Int → Bool → Int → Int → Int → Int → Option (List Int × Bool)
  | 0, _, _, _, _, _, _, _, _ => none
  | k + 1, x0, x1, x6, x7, x8, x9, x10, x11 => if x11 < (x0.length : Int) then ((spec_GfMul.f k x10 x9).bind fun t265 => (if 0 ≤ x11 then (spec_l14Signs.l1 k x0 x1 x6 x7 x8 x9 (Go.bits .xor .i64 t265 (wrap64 (rd x0 x11))) (wrap64 (x11 + 1))) else (none))) else (if x7 = true then (if x6.length < 17592186044416 then (spec_l14Signs.l0 k x0 x1 (x6 ++ [x10]) (x10 == 0) (wrap64 (x8 + 1))) else (none)) else (if x6.length < 17592186044416 then (spec_l14Signs.l0 k x0 x1 (x6 ++ [x10]) false (wrap64 (x8 + 1))) else (none)))
end
def spec_l14Signs.f (k : Nat) (l0 : List Int) (a1 : Int) : Option (List Int × Bool) := spec_l14Signs.l0 k l0 a1 (([] : List Int)) true 0
theorem spec_l14Signs.mono_l : ∀ k, (∀ y0 y1 y2 y3 y4, LeO (spec_l14Signs.l0 k y0 y1 y2 y3 y4) (spec_l14Signs.l0 (k + 1) y0 y1 y2 y3 y4)) ∧ (∀ y0 y1 y2 y3 y4 y5 y6 y7, LeO (spec_l14Signs.l1 k y0 y1 y2 y3 y4 y5 y6 y7) (spec_l14Signs.l1 (k + 1) y0 y1 y2 y3 y4 y5 y6 y7))
  | 0 => ⟨fun _ _ _ _ _ r h => by simp [spec_l14Signs.l0] at h, fun _ _ _ _ _ _ _ _ r h => by simp [spec_l14Signs.l1] at h⟩
  | k + 1 => by
    obtain ⟨ih0, ih1⟩ := spec_l14Signs.mono_l k
    refine ⟨?_, ?_⟩ <;> intros
    all_goals first | unfold spec_l14Signs.l0 | unfold spec_l14Signs.l1
    all_goals repeat' first
    | (with_reducible exact ih0 _ _ _ _ _)
    | (with_reducible exact ih1 _ _ _ _ _ _ _ _)
    | (with_reducible exact spec_GfMul.mono _ _ _)
    | (with_reducible exact spec_l14Pow.mono _ _)
    | (with_reducible exact LeO.refl _)
    | (with_reducible exact LeO.none _)
    | (with_reducible refine LeO.ite ?_ ?_)
    | (with_reducible refine LeO.bind ?_ (fun _ => ?_))
    | exact ih0 _ _ _ _ _
    | exact ih1 _ _ _ _ _ _ _ _
    | exact spec_GfMul.mono _ _ _
    | exact spec_l14Pow.mono _ _
    | exact LeO.none _
    | refine LeO.ite ?_ ?_
    | refine LeO.bind ?_ (fun _ => ?_)
theorem spec_l14Signs.mono : ∀ a0 a1 k, LeO (spec_l14Signs.f k a0 a1) (spec_l14Signs.f (k + 1) a0 a1) := by
  intro a0 a1 k
  obtain ⟨ih0, ih1⟩ := spec_l14Signs.mono_l k
  unfold spec_l14Signs.f
  repeat' first
      | (with_reducible exact ih0 _ _ _ _ _)
      | (with_reducible exact ih1 _ _ _ _ _ _ _ _)
      | (with_reducible exact spec_GfMul.mono _ _ _)
      | (with_reducible exact spec_l14Pow.mono _ _)
      | (with_reducible exact LeO.refl _)
      | (with_reducible exact LeO.none _)
      | (with_reducible refine LeO.ite ?_ ?_)
      | (with_reducible refine LeO.bind ?_ (fun _ => ?_))
      | exact ih0 _ _ _ _ _
      | exact ih1 _ _ _ _ _ _ _ _
      | exact spec_GfMul.mono _ _ _
      | exact spec_l14Pow.mono _ _
      | exact LeO.none _
      | refine LeO.ite ?_ ?_
      | refine LeO.bind ?_ (fun _ => ?_)
set_option maxHeartbeats 8000000 in
set_option maxRecDepth 100000 in
theorem spec_l14Signs.calls (k : Nat) (A0 : Option Addr) (c0 : Nat) (l0 : List Int) (a1 : Int) (r1 : List Int) (r2 : Bool) (w : World) (hr0 : Kd.C (Kd.int .u8) w A0 l0.length l0) (hc0 : l0.length ≤ c0) (h : spec_l14Signs.f k l0 a1 = some (r1, r2)) :
  Calls Try.prog 43 #[.slice A0 l0.length c0, .int .i64 a1] w fun e w' => ∃ v0_ : Value, e = .returned (.tuple #[v0_, .bool r2]) ∧ Kd.R (Kd.int .i64) 3 w' w.heap.size (fun _ => True) v0_ r1 ∧ Below w.heap.size w w' := by
 have HR0 := Aside0.mk hr0
 have HC0 := Aside0.mk hc0
 clear hr0 hc0
 have HB := Aside0.mk (Below.refl w.heap.size w)
 have H : (spec_l14Signs.l0 k l0 a1 (([] : List Int)) true 0) = some (r1, r2) := h
 clear h
 obtain ⟨y261, hy261⟩ : ∃ y_ : List Int, y_ = (([] : List Int)) := ⟨_, rfl⟩
 replace H : (spec_l14Signs.l0 k l0 a1 y261 true 0) = some (r1, r2) := by first | (rw [hy261]; with_reducible exact H) | (have H2_ := (Option.bind_some _ _).symm.trans H; rw [hy261]; with_reducible exact H2_) | (have H2_ := (Option.bind_some _ _).symm.trans H; with_reducible exact H2_) | with_reducible exact H | (rw [hy261]; exact H) | exact H
 have Ny261 := Aside0.mk hy261
 clear hy261
 have H' := Aside0.mk H
 clear H
 go_enter Try.func43, Try.ntmps43
 go_wp2_with (first | ((with_reducible refine gate_dst (N := 12) rfl ?_); refine Kd.R_lit (Kd.int .i64) _ 3 ?hg (N := 12) ?hd (xs := ([] : List Int)) (inner := []) (ok := fun _ => True) (okp := fun _ => True) ?hr ?hp (fun _ hk => hk) trivial (Below.refl _ _) (Nat.le_refl _) (by simp) ?_; (case hd => rfl); (case hg => rfl); (case hr => first | (go_simp; done) | (go_simp; rfl)); (case hp => exact (Reps.none _ _)); intro v262 w3 ho4 hb hg_ hnew_; clear hg_ hnew_; (first | rw [← Ny261.out] at ho4 | (simp only [Int.reduceToNat] at ho4; rw [← Ny261.out] at ho4)); have n0_ := Aside0.mk (Kd.R_lower ho4 (below_size zB)); have n1_ := Aside0.mk (below_step zB hb); clear HB; have HO263 := n0_; have HB := n1_; clear n0_ n1_; clear hb ho4))
 repeat (go_quiet (first | ((with_reducible refine gate_dst (N := 12) rfl ?_); refine Kd.R_lit (Kd.int .i64) _ 3 ?hg (N := 12) ?hd (xs := ([] : List Int)) (inner := []) (ok := fun _ => True) (okp := fun _ => True) ?hr ?hp (fun _ hk => hk) trivial (Below.refl _ _) (Nat.le_refl _) (by simp) ?_; (case hd => rfl); (case hg => rfl); (case hr => first | (go_simp; done) | (go_simp; rfl)); (case hp => exact (Reps.none _ _)); intro v262 w3 ho4 hb hg_ hnew_; clear hg_ hnew_; (first | rw [← Ny261.out] at ho4 | (simp only [Int.reduceToNat] at ho4; rw [← Ny261.out] at ho4)); have n0_ := Aside0.mk (Kd.R_lower ho4 (below_size zB)); have n1_ := Aside0.mk (below_step zB hb); clear HB; have HO263 := n0_; have HB := n1_; clear n0_ n1_; clear hb ho4)); try go_wp2_with (first | ((with_reducible refine gate_dst (N := 12) rfl ?_); refine Kd.R_lit (Kd.int .i64) _ 3 ?hg (N := 12) ?hd (xs := ([] : List Int)) (inner := []) (ok := fun _ => True) (okp := fun _ => True) ?hr ?hp (fun _ hk => hk) trivial (Below.refl _ _) (Nat.le_refl _) (by simp) ?_; (case hd => rfl); (case hg => rfl); (case hr => first | (go_simp; done) | (go_simp; rfl)); (case hp => exact (Reps.none _ _)); intro v262 w3 ho4 hb hg_ hnew_; clear hg_ hnew_; (first | rw [← Ny261.out] at ho4 | (simp only [Int.reduceToNat] at ho4; rw [← Ny261.out] at ho4)); have n0_ := Aside0.mk (Kd.R_lower ho4 (below_size zB)); have n1_ := Aside0.mk (below_step zB hb); clear HB; have HO263 := n0_; have HB := n1_; clear n0_ n1_; clear hb ho4)))
 go_loopg [6, 7, 8] k (fun kq v6 v7 v8 w' => ∃ (x6_1 : List Int) (x7_1 : Bool) (x8_1 : Int), v7 = .bool x7_1 ∧ v8 = .int .i64 x8_1 ∧ Aside0 (spec_l14Signs.l0 kq l0 a1 x6_1 x7_1 x8_1 = some (r1, r2)) ∧ Aside0 (kq ≤ k) ∧ Aside0 (Kd.R (Kd.int .i64) 3 w' w.heap.size (fun _ => True) v6 x6_1) ∧ Aside0 (Below w.heap.size w w'))
 case atStart => exact ⟨(y261), (true), (0), (by first | rfl | (simp; done) | (simp only [i64_w]; done) | (simp [*]; done)), (by first | rfl | (simp; done) | (simp only [i64_w]; done) | (simp [*]; done)), H', ⟨Nat.le_refl _⟩, ⟨zR HO263.out⟩, ⟨zB⟩⟩
 case round =>
 clear H'
 try clear p2
 try clear c4
 obtain ⟨x6_1, x7_1, x8_1, rfl, rfl, HA, HK1, HO_6, HB⟩ := hrel
 cases gk with
 | zero => exact absurd HA.out (by simp [spec_l14Signs.l0])
 | succ k1 =>
 have H := HA.out
 clear HA
 simp only [spec_l14Signs.l0] at H
 by_cases c5 : x8_1 < (wrap64 (2 * a1))
 rotate_left
 ·rw [if_neg c5] at H
  have c5b0 := decide_eq_false c5
  clear c5
  simp only [Option.some.injEq, Prod.mk.injEq] at H
  obtain ⟨rfl, rfl⟩ := H
  go_wp2
  repeat (go_quiet (fail); try go_wp2)
  go_ret2
  exact ⟨_, zE, zR HO_6.out, zB⟩
 rw [if_pos c5] at H
 have c5b0 := decide_eq_true c5
 clear c5
 replace H := zi H
 obtain ⟨t264, A6, H⟩ := H
 have H' := Aside0.mk H
 clear H
 go_wp2_with (first | (go_at_call 47; (with_reducible refine (spec_l14Pow.calls k1 x8_1 t264 _ A6.out).mono ?_); rintro e w' ⟨rfl, ⟨nd, rfl⟩⟩; (try exact zZ)))
 repeat (go_quiet (first | (go_at_call 47; (with_reducible refine (spec_l14Pow.calls k1 x8_1 t264 _ A6.out).mono ?_); rintro e w' ⟨rfl, ⟨nd, rfl⟩⟩; (try exact zZ))); try go_wp2_with (first | (go_at_call 47; (with_reducible refine (spec_l14Pow.calls k1 x8_1 t264 _ A6.out).mono ?_); rintro e w' ⟨rfl, ⟨nd, rfl⟩⟩; (try exact zZ))))
 go_loopg [10, 11] k1 (fun kq v10 v11 w' => ∃ (x10_2 : Int) (x11_2 : Int), v10 = .int .i64 x10_2 ∧ v11 = .int .i64 x11_2 ∧ Aside0 (spec_l14Signs.l1 kq l0 a1 x6_1 x7_1 x8_1 t264 x10_2 x11_2 = some (r1, r2)) ∧ Aside0 (kq ≤ k1) ∧ Aside0 (Kd.R (Kd.int .i64) 3 w' w.heap.size (fun _ => True) u6 x6_1) ∧ Aside0 (Below w.heap.size w w'))
 case atStart => exact ⟨(0), (0), (by first | rfl | (simp; done) | (simp only [i64_w]; done) | (simp [*]; done)), (by first | rfl | (simp; done) | (simp only [i64_w]; done) | (simp [*]; done)), H', ⟨Nat.le_refl _⟩, ⟨zR HO_6.out⟩, ⟨zB⟩⟩
 case round =>
 clear H'
 try clear p2
 try clear c4
 try clear c5
 try clear c5b0
 try clear p6
 try clear p2
 obtain ⟨x10_2, x11_2, rfl, rfl, HA, HK2, HO_6, HB⟩ := hrel
 cases gk with
 | zero => exact absurd HA.out (by simp [spec_l14Signs.l1])
 | succ k2 =>
 have H := HA.out
 clear HA
 simp only [spec_l14Signs.l1] at H
 by_cases c7 : x11_2 < (l0.length : Int)
 ·rw [if_pos c7] at H
  have c7b0 := decide_eq_true c7
  clear c7
  replace H := zi H
  obtain ⟨t265, A8, H⟩ := H
  replace H := zg H
  obtain ⟨c9, H⟩ := H
  have c9b0 : decide (0 ≤ x11_2) = true := decide_eq_true c9
  clear c9
  have H' := Aside0.mk H
  clear H
  go_wp2_with (first | (go_at_call 46; (with_reducible refine (spec_GfMul.calls k2 x10_2 t264 t265 _ A8.out).mono ?_); rintro e w' ⟨rfl, ⟨nd, rfl⟩⟩; (try exact zZ); have p266 : 0 ≤ (x11_2 : Int) := zD; have q266 : x11_2 < (l0.length : Int) := zD; obtain ⟨ad266, e266, hx266_0⟩ := Kd.at_int HR0.out x11_2 p266 q266; cases e266; replace hx266_0 := (HB.out.cell (World.block_lt_of_cell? w _ hx266_0)).trans hx266_0; replace p266 := eq_true p266; replace q266 := eq_true q266))
  repeat (go_quiet (first | (go_at_call 46; (with_reducible refine (spec_GfMul.calls k2 x10_2 t264 t265 _ A8.out).mono ?_); rintro e w' ⟨rfl, ⟨nd, rfl⟩⟩; (try exact zZ); have p266 : 0 ≤ (x11_2 : Int) := zD; have q266 : x11_2 < (l0.length : Int) := zD; obtain ⟨ad266, e266, hx266_0⟩ := Kd.at_int HR0.out x11_2 p266 q266; cases e266; replace hx266_0 := (HB.out.cell (World.block_lt_of_cell? w _ hx266_0)).trans hx266_0; replace p266 := eq_true p266; replace q266 := eq_true q266)); try go_wp2_with (first | (go_at_call 46; (with_reducible refine (spec_GfMul.calls k2 x10_2 t264 t265 _ A8.out).mono ?_); rintro e w' ⟨rfl, ⟨nd, rfl⟩⟩; (try exact zZ); have p266 : 0 ≤ (x11_2 : Int) := zD; have q266 : x11_2 < (l0.length : Int) := zD; obtain ⟨ad266, e266, hx266_0⟩ := Kd.at_int HR0.out x11_2 p266 q266; cases e266; replace hx266_0 := (HB.out.cell (World.block_lt_of_cell? w _ hx266_0)).trans hx266_0; replace p266 := eq_true p266; replace q266 := eq_true q266)))
  go_roundg k2
  case measure => have := HK1.out; have := HK2.out; omega
  case rel => exact ⟨(Go.bits .xor .i64 t265 (wrap64 (rd l0 x11_2))), (wrap64 (x11_2 + 1)), (by first | rfl | (simp; done) | (simp only [i64_w]; done) | (simp [*]; done)), (by first | rfl | (simp; done) | (simp only [i64_w]; done) | (simp [*]; done)), H', ⟨by have := HK1.out; have := HK2.out; omega⟩, ⟨zR HO_6.out⟩, ⟨zB⟩⟩
 rw [if_neg c7] at H
 have c7b0 := decide_eq_false c7
 clear c7
 by_cases c10 : x7_1 = true
 ·subst c10
  have H1 : (if x6_1.length < 17592186044416 then (spec_l14Signs.l0 k2 l0 a1 (x6_1 ++ [x10_2]) (x10_2 == 0) (wrap64 (x8_1 + 1))) else (none)) = some (r1, r2) := by rw [if_pos rfl] at H; exact H
  clear H
  have H := H1
  clear H1
  replace H := zg H
  obtain ⟨c11, H⟩ := H
  have LMc11 := Aside0.mk c11
  clear c11
  obtain ⟨y267, hy267⟩ : ∃ y_ : List Int, y_ = (x6_1 ++ [x10_2]) := ⟨_, rfl⟩
  replace H : (spec_l14Signs.l0 k2 l0 a1 y267 (x10_2 == 0) (wrap64 (x8_1 + 1))) = some (r1, r2) := by first | (rw [hy267]; with_reducible exact H) | (have H2_ := (Option.bind_some _ _).symm.trans H; rw [hy267]; with_reducible exact H2_) | (have H2_ := (Option.bind_some _ _).symm.trans H; with_reducible exact H2_) | with_reducible exact H | (rw [hy267]; exact H) | exact H
  have Ny267 := Aside0.mk hy267
  clear hy267
  have H' := Aside0.mk H
  clear H
  go_wp2_with (first | ((with_reducible refine gate_builtin (b := .append) (xs := #[.tmp 41, .tmp 43]) rfl ?_); at_builtin; refine Kd.R_append (Kd.int .i64) (w0 := w) w.heap.size rfl (.tmp 41) (.tmp 43) 24 3 (.int .i64 0) 8 rfl Try.underlying24 info3 rfl (by decide) (by omega) u6 x6_1 x10_2 [.int .i64 x10_2] (fun _ => True) (fun _ => False) rfl rfl ?aP (fun _ hk => hk.elim) ?aF ?aO ?aB ?aS ?aL ?_; (case aP => exact rfl); (case aB => exact zB); (case aF => exact (fun _ _ => trivial)); (case aO => exact (zR HO_6.out)); (case aS => exact (below_size zB)); (case aL => have := LMc11.out; omega); intro v268 w12 ho hb hg hat; rw [← Ny267.out] at ho; have n0_ := Aside0.mk (hb); have n1_ := Aside0.mk (ho); clear HB; clear HO_6; have HB := n0_; have HO269 := n1_; clear n0_ n1_; clear ho hb hg hat))
  repeat (go_quiet (first | ((with_reducible refine gate_builtin (b := .append) (xs := #[.tmp 41, .tmp 43]) rfl ?_); at_builtin; refine Kd.R_append (Kd.int .i64) (w0 := w) w.heap.size rfl (.tmp 41) (.tmp 43) 24 3 (.int .i64 0) 8 rfl Try.underlying24 info3 rfl (by decide) (by omega) u6 x6_1 x10_2 [.int .i64 x10_2] (fun _ => True) (fun _ => False) rfl rfl ?aP (fun _ hk => hk.elim) ?aF ?aO ?aB ?aS ?aL ?_; (case aP => exact rfl); (case aB => exact zB); (case aF => exact (fun _ _ => trivial)); (case aO => exact (zR HO_6.out)); (case aS => exact (below_size zB)); (case aL => have := LMc11.out; omega); intro v268 w12 ho hb hg hat; rw [← Ny267.out] at ho; have n0_ := Aside0.mk (hb); have n1_ := Aside0.mk (ho); clear HB; clear HO_6; have HB := n0_; have HO269 := n1_; clear n0_ n1_; clear ho hb hg hat)); try go_wp2_with (first | ((with_reducible refine gate_builtin (b := .append) (xs := #[.tmp 41, .tmp 43]) rfl ?_); at_builtin; refine Kd.R_append (Kd.int .i64) (w0 := w) w.heap.size rfl (.tmp 41) (.tmp 43) 24 3 (.int .i64 0) 8 rfl Try.underlying24 info3 rfl (by decide) (by omega) u6 x6_1 x10_2 [.int .i64 x10_2] (fun _ => True) (fun _ => False) rfl rfl ?aP (fun _ hk => hk.elim) ?aF ?aO ?aB ?aS ?aL ?_; (case aP => exact rfl); (case aB => exact zB); (case aF => exact (fun _ _ => trivial)); (case aO => exact (zR HO_6.out)); (case aS => exact (below_size zB)); (case aL => have := LMc11.out; omega); intro v268 w12 ho hb hg hat; rw [← Ny267.out] at ho; have n0_ := Aside0.mk (hb); have n1_ := Aside0.mk (ho); clear HB; clear HO_6; have HB := n0_; have HO269 := n1_; clear n0_ n1_; clear ho hb hg hat)))
  go_roundg k2
  case measure => have := HK1.out; have := HK2.out; omega
  case rel => exact ⟨(y267), ((x10_2 == 0)), (wrap64 (x8_1 + 1)), (by first | rfl | (simp; done) | (simp only [i64_w]; done) | (simp [*]; done)), (by first | rfl | (simp; done) | (simp only [i64_w]; done) | (simp [*]; done)), H', ⟨by have := HK1.out; have := HK2.out; omega⟩, ⟨zR HO269.out⟩, ⟨zB⟩⟩
 replace c10 := Bool.eq_false_iff.mpr c10
 subst c10
 have H1 : (if x6_1.length < 17592186044416 then (spec_l14Signs.l0 k2 l0 a1 (x6_1 ++ [x10_2]) false (wrap64 (x8_1 + 1))) else (none)) = some (r1, r2) := by rw [if_neg (show ¬ (false = true) by decide)] at H; exact H
 clear H
 have H := H1
 clear H1
 replace H := zg H
 obtain ⟨c13, H⟩ := H
 have LMc13 := Aside0.mk c13
 clear c13
 obtain ⟨y270, hy270⟩ : ∃ y_ : List Int, y_ = (x6_1 ++ [x10_2]) := ⟨_, rfl⟩
 replace H : (spec_l14Signs.l0 k2 l0 a1 y270 false (wrap64 (x8_1 + 1))) = some (r1, r2) := by first | (rw [hy270]; with_reducible exact H) | (have H2_ := (Option.bind_some _ _).symm.trans H; rw [hy270]; with_reducible exact H2_) | (have H2_ := (Option.bind_some _ _).symm.trans H; with_reducible exact H2_) | with_reducible exact H | (rw [hy270]; exact H) | exact H
 have Ny270 := Aside0.mk hy270
 clear hy270
 have H' := Aside0.mk H
 clear H
 go_wp2_with (first | ((with_reducible refine gate_builtin (b := .append) (xs := #[.tmp 41, .tmp 43]) rfl ?_); at_builtin; refine Kd.R_append (Kd.int .i64) (w0 := w) w.heap.size rfl (.tmp 41) (.tmp 43) 24 3 (.int .i64 0) 8 rfl Try.underlying24 info3 rfl (by decide) (by omega) u6 x6_1 x10_2 [.int .i64 x10_2] (fun _ => True) (fun _ => False) rfl rfl ?aP (fun _ hk => hk.elim) ?aF ?aO ?aB ?aS ?aL ?_; (case aP => exact rfl); (case aB => exact zB); (case aF => exact (fun _ _ => trivial)); (case aO => exact (zR HO_6.out)); (case aS => exact (below_size zB)); (case aL => have := LMc13.out; omega); intro v271 w14 ho hb hg hat; rw [← Ny270.out] at ho; have n0_ := Aside0.mk (hb); have n1_ := Aside0.mk (ho); clear HB; clear HO_6; have HB := n0_; have HO272 := n1_; clear n0_ n1_; clear ho hb hg hat))
 repeat (go_quiet (first | ((with_reducible refine gate_builtin (b := .append) (xs := #[.tmp 41, .tmp 43]) rfl ?_); at_builtin; refine Kd.R_append (Kd.int .i64) (w0 := w) w.heap.size rfl (.tmp 41) (.tmp 43) 24 3 (.int .i64 0) 8 rfl Try.underlying24 info3 rfl (by decide) (by omega) u6 x6_1 x10_2 [.int .i64 x10_2] (fun _ => True) (fun _ => False) rfl rfl ?aP (fun _ hk => hk.elim) ?aF ?aO ?aB ?aS ?aL ?_; (case aP => exact rfl); (case aB => exact zB); (case aF => exact (fun _ _ => trivial)); (case aO => exact (zR HO_6.out)); (case aS => exact (below_size zB)); (case aL => have := LMc13.out; omega); intro v271 w14 ho hb hg hat; rw [← Ny270.out] at ho; have n0_ := Aside0.mk (hb); have n1_ := Aside0.mk (ho); clear HB; clear HO_6; have HB := n0_; have HO272 := n1_; clear n0_ n1_; clear ho hb hg hat)); try go_wp2_with (first | ((with_reducible refine gate_builtin (b := .append) (xs := #[.tmp 41, .tmp 43]) rfl ?_); at_builtin; refine Kd.R_append (Kd.int .i64) (w0 := w) w.heap.size rfl (.tmp 41) (.tmp 43) 24 3 (.int .i64 0) 8 rfl Try.underlying24 info3 rfl (by decide) (by omega) u6 x6_1 x10_2 [.int .i64 x10_2] (fun _ => True) (fun _ => False) rfl rfl ?aP (fun _ hk => hk.elim) ?aF ?aO ?aB ?aS ?aL ?_; (case aP => exact rfl); (case aB => exact zB); (case aF => exact (fun _ _ => trivial)); (case aO => exact (zR HO_6.out)); (case aS => exact (below_size zB)); (case aL => have := LMc13.out; omega); intro v271 w14 ho hb hg hat; rw [← Ny270.out] at ho; have n0_ := Aside0.mk (hb); have n1_ := Aside0.mk (ho); clear HB; clear HO_6; have HB := n0_; have HO272 := n1_; clear n0_ n1_; clear ho hb hg hat)))
 go_roundg k2
 case measure => have := HK1.out; have := HK2.out; omega
 case rel => exact ⟨(y270), (false), (wrap64 (x8_1 + 1)), (by first | rfl | (simp; done) | (simp only [i64_w]; done) | (simp [*]; done)), (by first | rfl | (simp; done) | (simp only [i64_w]; done) | (simp [*]; done)), H', ⟨by have := HK1.out; have := HK2.out; omega⟩, ⟨zR HO272.out⟩, ⟨zB⟩⟩

/-! ### spec_GfInv: function 59 -/
mutual
def spec_GfInv.j0 : Nat → Int → Bool → Option (Int)
  | 0, _, _ => none
  | k + 1, x0, x10 => if x10 = true then (some 0) else (spec_GfInv.l0 k x0 1)
def spec_GfInv.l0 : Nat → Int → Int → Option (Int)
  | 0, _, _ => none
  | k + 1, x0, x3 => (spec_GfMul.f k x0 x3).bind fun t274 => (if t274 = 1 then (some x3) else (spec_GfInv.l0 k x0 (wrap64 (x3 + 1))))
end
def spec_GfInv.f (k : Nat) (a0 : Int) : Option (Int) := (spec_l14Byte.f a0).bind fun t273 => (if t273 = true then (spec_GfInv.j0 k a0 (a0 == 0)) else (spec_GfInv.j0 k a0 true))
theorem spec_GfInv.mono_l : ∀ k, (∀ y0 y1, LeO (spec_GfInv.j0 k y0 y1) (spec_GfInv.j0 (k + 1) y0 y1)) ∧ (∀ y0 y1, LeO (spec_GfInv.l0 k y0 y1) (spec_GfInv.l0 (k + 1) y0 y1))
  | 0 => ⟨fun _ _ r h => by simp [spec_GfInv.j0] at h, fun _ _ r h => by simp [spec_GfInv.l0] at h⟩
  | k + 1 => by
    obtain ⟨ih0, ih1⟩ := spec_GfInv.mono_l k
    refine ⟨?_, ?_⟩ <;> intros
    all_goals first | unfold spec_GfInv.j0 | unfold spec_GfInv.l0
    all_goals repeat' first
    | (with_reducible exact ih0 _ _)
    | (with_reducible exact ih1 _ _)
    | (with_reducible exact spec_GfMul.mono _ _ _)
    | (with_reducible exact LeO.refl _)
    | (with_reducible exact LeO.none _)
    | (with_reducible refine LeO.ite ?_ ?_)
    | (with_reducible refine LeO.bind ?_ (fun _ => ?_))
    | exact ih0 _ _
    | exact ih1 _ _
    | exact spec_GfMul.mono _ _ _
    | exact LeO.none _
    | refine LeO.ite ?_ ?_
    | refine LeO.bind ?_ (fun _ => ?_)
theorem spec_GfInv.mono : ∀ a0 k, LeO (spec_GfInv.f k a0) (spec_GfInv.f (k + 1) a0) := by
  intro a0 k
  obtain ⟨ih0, ih1⟩ := spec_GfInv.mono_l k
  unfold spec_GfInv.f
  repeat' first
      | (with_reducible exact ih0 _ _)
      | (with_reducible exact ih1 _ _)
      | (with_reducible exact spec_GfMul.mono _ _ _)
      | (with_reducible exact LeO.refl _)
      | (with_reducible exact LeO.none _)
      | (with_reducible refine LeO.ite ?_ ?_)
      | (with_reducible refine LeO.bind ?_ (fun _ => ?_))
      | exact ih0 _ _
      | exact ih1 _ _
      | exact spec_GfMul.mono _ _ _
      | exact LeO.none _
      | refine LeO.ite ?_ ?_
      | refine LeO.bind ?_ (fun _ => ?_)
set_option maxHeartbeats 8000000 in
set_option maxRecDepth 100000 in
theorem spec_GfInv.calls (k : Nat) (a0 : Int) (r : Int) (w : World) (h : spec_GfInv.f k a0 = some r) :
  Calls Try.prog 59 #[.int .i64 a0] w fun e w' => e = .returned (.int .i64 r) ∧ Drawn0 w w' := by
 have H : ((spec_l14Byte.f a0).bind fun t273 => (if t273 = true then (spec_GfInv.j0 k a0 (a0 == 0)) else (spec_GfInv.j0 k a0 true))) = some r := h
 clear h
 have HC2 := Aside0.mk H
 clear H
 go_enter Try.func59, Try.ntmps59
 go_upto_region 1 with (fail)
 go_cut [10] (fun v10 wc => ∃ (kq : Nat) (x10_1 : Bool), v10 = .bool x10_1 ∧ Aside0 (spec_GfInv.j0 kq a0 x10_1 = some r) ∧ Aside0 (kq ≤ k) ∧ Drawn0 w wc)
 case first =>
  have H := HC2.out
  clear HC2
  replace H := zi H
  obtain ⟨t273, A3, H⟩ := H
  by_cases c4 : t273 = true
  ·subst c4
   have H1 : (spec_GfInv.j0 k a0 (a0 == 0)) = some r := by rw [if_pos rfl] at H; exact H
   clear H
   have H := H1
   clear H1
   have H' := Aside0.mk H
   clear H
   go_wp2_with (first | ((with_reducible refine gate_callee (f := 54) rfl ?_); refine goesL_ (some 5) rfl rfl Try.func54 (by kernel_rfl) rfl #[.int .i64 a0] rfl zL ?_; (with_reducible refine (spec_l14Byte.calls a0 true _ A3.out).mono ?_); rintro e w' ⟨rfl, ⟨nd, rfl⟩⟩; refine ⟨_, rfl, ?_⟩))
   go_meet
   case rel => exact ⟨_, ((a0 == 0)), zO, H', ⟨by first | omega | exact Nat.le_refl _⟩, zW⟩
  replace c4 := Bool.eq_false_iff.mpr c4
  subst c4
  have H1 : (spec_GfInv.j0 k a0 true) = some r := by rw [if_neg (show ¬ (false = true) by decide)] at H; exact H
  clear H
  have H := H1
  clear H1
  have H' := Aside0.mk H
  clear H
  go_wp2_with (first | ((with_reducible refine gate_callee (f := 54) rfl ?_); refine goesL_ (some 5) rfl rfl Try.func54 (by kernel_rfl) rfl #[.int .i64 a0] rfl zL ?_; (with_reducible refine (spec_l14Byte.calls a0 false _ A3.out).mono ?_); rintro e w' ⟨rfl, ⟨nd, rfl⟩⟩; refine ⟨_, rfl, ?_⟩))
  go_meet
  case rel => exact ⟨_, (true), zO, H', ⟨by first | omega | exact Nat.le_refl _⟩, zW⟩
 case rest =>
 clear HC2
 try clear p2
 try clear c4
 obtain ⟨kq, x10_1, rfl, HA, HJ1, ⟨mc1, rfl⟩⟩ := hcut
 cases kq with
 | zero => exact absurd HA.out (by simp [spec_GfInv.j0])
 | succ kj1 =>
 have H := HA.out
 clear HA
 simp only [spec_GfInv.j0] at H
 by_cases c5 : x10_1 = true
 ·subst c5
  have H1 : (some 0) = some r := by rw [if_pos rfl] at H; exact H
  clear H
  have H := H1
  clear H1
  obtain rfl := Option.some.inj H
  go_wp2
  go_ret
  exact ⟨zO, zW⟩
 replace c5 := Bool.eq_false_iff.mpr c5
 subst c5
 have H1 : (spec_GfInv.l0 kj1 a0 1) = some r := by rw [if_neg (show ¬ (false = true) by decide)] at H; exact H
 clear H
 have H := H1
 clear H1
 have H' := Aside0.mk H
 clear H
 go_wp2
 go_loopg [3] kj1 (fun kq v3 w' => ∃ (x3_2 : Int), v3 = .int .i64 x3_2 ∧ Aside0 (spec_GfInv.l0 kq a0 x3_2 = some r) ∧ Aside0 (kq ≤ kj1) ∧ Drawn0 w w')
 case atStart => exact ⟨(1), zO, H', ⟨Nat.le_refl _⟩, zW⟩
 case round =>
 clear H'
 try clear c1
 try clear p2
 try clear c4
 try clear c5
 try clear p2
 obtain ⟨x3_2, rfl, HA, HK2, ⟨m2, rfl⟩⟩ := hrel
 cases gk with
 | zero => exact absurd HA.out (by simp [spec_GfInv.l0])
 | succ k2 =>
 have H := HA.out
 clear HA
 simp only [spec_GfInv.l0] at H
 replace H := zi H
 obtain ⟨t274, A6, H⟩ := H
 by_cases c7 : t274 = 1
 ·rw [if_pos c7] at H
  have c7b0 : (t274 == 1) = true := beq_iff_eq.mpr c7
  have c7b1 : (t274 != 1) = false := bne_eq_false_iff_eq.mpr c7
  clear c7
  obtain rfl := Option.some.inj H
  go_wp2_with (first | ((with_reducible refine gate_callee (f := 46) rfl ?_); refine goesL_ (some 13) rfl rfl Try.func46 (by kernel_rfl) rfl #[.int .i64 a0, .int .i64 x3_2] rfl zL ?_; (with_reducible refine (spec_GfMul.calls k2 a0 x3_2 t274 _ A6.out).mono ?_); rintro e w' ⟨rfl, ⟨nd, rfl⟩⟩; refine ⟨_, rfl, ?_⟩))
  go_ret
  exact ⟨zO, zW⟩
 rw [if_neg c7] at H
 have c7b0 : (t274 == 1) = false := beq_eq_false_iff_ne.mpr c7
 have c7b1 : (t274 != 1) = true := bne_iff_ne.mpr c7
 have H' := Aside0.mk H
 clear H
 go_wp2_with (first | ((with_reducible refine gate_callee (f := 46) rfl ?_); refine goesL_ (some 13) rfl rfl Try.func46 (by kernel_rfl) rfl #[.int .i64 a0, .int .i64 x3_2] rfl zL ?_; (with_reducible refine (spec_GfMul.calls k2 a0 x3_2 t274 _ A6.out).mono ?_); rintro e w' ⟨rfl, ⟨nd, rfl⟩⟩; refine ⟨_, rfl, ?_⟩))
 go_roundg k2
 case measure => have := HJ1.out; have := HK2.out; omega
 case rel => exact ⟨(wrap64 (x3_2 + 1)), zO, H', ⟨by have := HJ1.out; have := HK2.out; omega⟩, zW⟩

end Go.Proofs.Ytdcjfcfiflpblaa.PFnNearestWord
