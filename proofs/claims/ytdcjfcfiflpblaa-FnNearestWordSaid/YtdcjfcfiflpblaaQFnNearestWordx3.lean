/- The functions that FnNearestWord reaches, each with its walk; written by a program (own.py). -/
import Derived.Test.YtdcjfcfiflpblaaSh
import Derived.Test.YtdcjfcfiflpblaaQFnNearestWordx0
import Derived.Test.YtdcjfcfiflpblaaQFnNearestWordx1
namespace Go.Proofs.Ytdcjfcfiflpblaa.PFnNearestWord
open Go.RowKit Go.Proofs.YtdcjfcfiflpblaaW.PrintWords Go.Proofs.YtdcjfcfiflpblaaW.PrintLast Go.Proofs.YtdcjfcfiflpblaaW.PrintMore
attribute [local go_sem] max2_int min2_int max_two min_two max_three min_three max_four min_four   -- for this text's walks alone
set_option linter.unusedVariables false
set_option linter.unusedSimpArgs false

/-! ### impl_wordOk: function 37 -/
def impl_wordOk.f (l0 : List Int) (a1 : Int) : Option (Bool) := (impl_isMend.f a1).bind fun t140 => (if t140 = true then (if (l0.length : Int) > (wrap64 (2 * a1)) then (some (decide ((l0.length : Int) ≤ 255))) else (some false)) else (some false))
set_option maxHeartbeats 8000000 in
set_option maxRecDepth 100000 in
theorem impl_wordOk.calls (A0 : Option Addr) (c0 : Nat) (l0 : List Int) (a1 : Int) (r : Bool) (w : World) (hr0 : Kd.C (Kd.int .u8) w A0 l0.length l0) (hc0 : l0.length ≤ c0) (h : impl_wordOk.f l0 a1 = some r) :
  Calls Try.prog 37 #[.slice A0 l0.length c0, .int .i64 a1] w fun e w' => e = .returned (.bool r) ∧ Drawn0 w w' := by
 have HR0 := Aside0.mk hr0
 have HC0 := Aside0.mk hc0
 clear hr0 hc0
 have H : ((impl_isMend.f a1).bind fun t140 => (if t140 = true then (if (l0.length : Int) > (wrap64 (2 * a1)) then (some (decide ((l0.length : Int) ≤ 255))) else (some false)) else (some false))) = some r := h
 clear h
 replace H := zi H
 obtain ⟨t140, A3, H⟩ := H
 by_cases c4 : t140 = true
 rotate_left
 ·replace c4 := Bool.eq_false_iff.mpr c4
  subst c4
  have H1 : (some false) = some r := by rw [if_neg (show ¬ (false = true) by decide)] at H; exact H
  clear H
  have H := H1
  clear H1
  obtain rfl := Option.some.inj H
  go_enter Try.func37, Try.ntmps37
  go_wp2_with (first | ((with_reducible refine gate_callee (f := 32) rfl ?_); refine goesL_ (some 6) rfl rfl Try.func32 (by kernel_rfl) rfl #[.int .i64 a1] rfl zL ?_; (with_reducible refine (impl_isMend.calls a1 false _ A3.out).mono ?_); rintro e w' ⟨rfl, ⟨nd, rfl⟩⟩; refine ⟨_, rfl, ?_⟩))
  go_ret
  exact ⟨zO, zW⟩
 subst c4
 have H1 : (if (l0.length : Int) > (wrap64 (2 * a1)) then (some (decide ((l0.length : Int) ≤ 255))) else (some false)) = some r := by rw [if_pos rfl] at H; exact H
 clear H
 have H := H1
 clear H1
 by_cases c5 : (l0.length : Int) > (wrap64 (2 * a1))
 ·rw [if_pos c5] at H
  have c5b0 : decide ((wrap64 (2 * a1)) < (l0.length : Int)) = true := decide_eq_true c5
  clear c5
  obtain rfl := Option.some.inj H
  go_enter Try.func37, Try.ntmps37
  go_wp2_with (first | ((with_reducible refine gate_callee (f := 32) rfl ?_); refine goesL_ (some 6) rfl rfl Try.func32 (by kernel_rfl) rfl #[.int .i64 a1] rfl zL ?_; (with_reducible refine (impl_isMend.calls a1 true _ A3.out).mono ?_); rintro e w' ⟨rfl, ⟨nd, rfl⟩⟩; refine ⟨_, rfl, ?_⟩))
  go_ret
  exact ⟨zO, zW⟩
 rw [if_neg c5] at H
 have c5b0 : decide ((wrap64 (2 * a1)) < (l0.length : Int)) = false := decide_eq_false c5
 clear c5
 obtain rfl := Option.some.inj H
 go_enter Try.func37, Try.ntmps37
 go_wp2_with (first | ((with_reducible refine gate_callee (f := 32) rfl ?_); refine goesL_ (some 6) rfl rfl Try.func32 (by kernel_rfl) rfl #[.int .i64 a1] rfl zL ?_; (with_reducible refine (impl_isMend.calls a1 true _ A3.out).mono ?_); rintro e w' ⟨rfl, ⟨nd, rfl⟩⟩; refine ⟨_, rfl, ?_⟩))
 go_ret
 exact ⟨zO, zW⟩

/-! ### impl_value: function 38 -/
def impl_value.l0 : Nat → Int → Int → List Int → Int → Int → Option (Int)
  | 0, _, _, _, _, _ => none
  | k + 1, x5, x6, x11, x12, x13 => if x13 < x12 then (if 0 ≤ x13 then (if x13 < (x11.length : Int) then ((impl_GfMul.f k x6 x5).bind fun t143 => (impl_value.l0 k x5 (Go.bits .xor .i64 t143 (wrap64 (rd x11 x13))) x11 x12 (wrap64 (x13 + 1)))) else (none)) else (none)) else (some x6)
def impl_value.f (k : Nat) (l0 : List Int) (a1 : Int) : Option (Int) := (impl_gfPow.f k a1).bind fun t141 => (impl_value.l0 k t141 0 l0 (l0.length : Int) 0)
theorem impl_value.mono_l : ∀ k, (∀ y0 y1 y2 y3 y4, LeO (impl_value.l0 k y0 y1 y2 y3 y4) (impl_value.l0 (k + 1) y0 y1 y2 y3 y4))
  | 0 => fun _ _ _ _ _ r h => by simp [impl_value.l0] at h
  | k + 1 => by
    have ih0 := impl_value.mono_l k
    · intro y0 y1 y2 y3 y4
      unfold impl_value.l0
      repeat' first
      | (with_reducible exact ih0 _ _ _ _ _)
      | (with_reducible exact impl_GfMul.mono _ _ _)
      | (with_reducible exact impl_gfPow.mono _ _)
      | (with_reducible exact LeO.refl _)
      | (with_reducible exact LeO.none _)
      | (with_reducible refine LeO.ite ?_ ?_)
      | (with_reducible refine LeO.bind ?_ (fun _ => ?_))
      | exact ih0 _ _ _ _ _
      | exact impl_GfMul.mono _ _ _
      | exact impl_gfPow.mono _ _
      | exact LeO.none _
      | refine LeO.ite ?_ ?_
      | refine LeO.bind ?_ (fun _ => ?_)
theorem impl_value.mono : ∀ a0 a1 k, LeO (impl_value.f k a0 a1) (impl_value.f (k + 1) a0 a1) := by
  intro a0 a1 k
  have ih0 := impl_value.mono_l k
  unfold impl_value.f
  repeat' first
      | (with_reducible exact ih0 _ _ _ _ _)
      | (with_reducible exact impl_GfMul.mono _ _ _)
      | (with_reducible exact impl_gfPow.mono _ _)
      | (with_reducible exact LeO.refl _)
      | (with_reducible exact LeO.none _)
      | (with_reducible refine LeO.ite ?_ ?_)
      | (with_reducible refine LeO.bind ?_ (fun _ => ?_))
      | exact ih0 _ _ _ _ _
      | exact impl_GfMul.mono _ _ _
      | exact impl_gfPow.mono _ _
      | exact LeO.none _
      | refine LeO.ite ?_ ?_
      | refine LeO.bind ?_ (fun _ => ?_)
set_option maxHeartbeats 8000000 in
set_option maxRecDepth 100000 in
theorem impl_value.calls (k : Nat) (A0 : Option Addr) (c0 : Nat) (l0 : List Int) (a1 : Int) (r : Int) (w : World) (hr0 : Kd.C (Kd.int .u8) w A0 l0.length l0) (hc0 : l0.length ≤ c0) (h : impl_value.f k l0 a1 = some r) :
  Calls Try.prog 38 #[.slice A0 l0.length c0, .int .i64 a1] w fun e w' => e = .returned (.int .i64 r) ∧ Drawn0 w w' := by
 have HR0 := Aside0.mk hr0
 have HC0 := Aside0.mk hc0
 clear hr0 hc0
 have H : ((impl_gfPow.f k a1).bind fun t141 => (impl_value.l0 k t141 0 l0 (l0.length : Int) 0)) = some r := h
 clear h
 replace H := zi H
 obtain ⟨t141, A3, H⟩ := H
 have H' := Aside0.mk H
 clear H
 go_enter Try.func38, Try.ntmps38
 go_wp2_with (first | ((with_reducible refine gate_callee (f := 33) rfl ?_); refine goesL_ (some 10) rfl rfl Try.func33 (by kernel_rfl) rfl #[.int .i64 a1] rfl zL ?_; (with_reducible refine (impl_gfPow.calls k a1 t141 _ A3.out).mono ?_); rintro e w' ⟨rfl, ⟨nd, rfl⟩⟩; refine ⟨_, rfl, ?_⟩))
 go_loopg [6, 13] k (fun kq v6 v13 w' => ∃ (x6_1 : Int) (x13_1 : Int), v6 = .int .i64 x6_1 ∧ v13 = .int .i64 x13_1 ∧ Aside0 (impl_value.l0 kq t141 x6_1 l0 (l0.length : Int) x13_1 = some r) ∧ Aside0 (kq ≤ k) ∧ Drawn0 w w')
 case atStart => exact ⟨(0), (0), zO, zO, H', ⟨Nat.le_refl _⟩, zW⟩
 case round =>
 clear H'
 try clear p2
 try clear c3
 obtain ⟨x6_1, x13_1, rfl, rfl, HA, HK1, ⟨m1, rfl⟩⟩ := hrel
 cases gk with
 | zero => exact absurd HA.out (by simp [impl_value.l0])
 | succ k1 =>
 have H := HA.out
 clear HA
 simp only [impl_value.l0] at H
 by_cases c4 : x13_1 < (l0.length : Int)
 rotate_left
 ·rw [if_neg c4] at H
  have c4b0 := decide_eq_false c4
  clear c4
  obtain rfl := Option.some.inj H
  go_wp2
  go_ret
  exact ⟨zO, zW⟩
 rw [if_pos c4] at H
 have c4b0 := decide_eq_true c4
 clear c4
 replace H := zg H
 obtain ⟨c5, H⟩ := H
 have c5b0 : decide (0 ≤ x13_1) = true := decide_eq_true c5
 clear c5
 replace H := zg H
 obtain ⟨c6, H⟩ := H
 have c6b0 : decide (x13_1 < (l0.length : Int)) = true := decide_eq_true c6
 clear c6
 replace H := zi H
 obtain ⟨t143, A7, H⟩ := H
 have H' := Aside0.mk H
 clear H
 have p142 : 0 ≤ (x13_1 : Int) := zD
 have q142 : x13_1 < (l0.length : Int) := zD
 obtain ⟨ad142, e142, hx142_0⟩ := Kd.at_int HR0.out x13_1 p142 q142
 cases e142
 replace p142 := eq_true p142
 replace q142 := eq_true q142
 go_wp2_with (first | ((with_reducible refine gate_callee (f := 35) rfl ?_); refine goesL_ (some 19) rfl rfl Try.func35 (by kernel_rfl) rfl #[.int .i64 x6_1, .int .i64 t141] rfl zL ?_; (with_reducible refine (impl_GfMul.calls k1 x6_1 t141 t143 _ A7.out).mono ?_); rintro e w' ⟨rfl, ⟨nd, rfl⟩⟩; refine ⟨_, rfl, ?_⟩))
 go_roundg k1
 case measure => have := HK1.out; omega
 case rel => exact ⟨(Go.bits .xor .i64 t143 (wrap64 (rd l0 x13_1))), (wrap64 (x13_1 + 1)), zO, zO, H', ⟨by have := HK1.out; omega⟩, zW⟩

/-! ### impl_RsOk: function 12 -/
def impl_RsOk.l0 : Nat → List Int → Int → Int → Option (Bool)
  | 0, _, _, _ => none
  | k + 1, x0, x11, x12 => if x12 < x11 then ((impl_value.f k x0 x12).bind fun t145 => (if t145 = 0 then (impl_RsOk.l0 k x0 x11 (wrap64 (x12 + 1))) else (some false))) else (some true)
def impl_RsOk.f (k : Nat) (l0 : List Int) (a1 : Int) : Option (Bool) := (impl_wordOk.f l0 a1).bind fun t144 => (if t144 = true then (impl_RsOk.l0 k l0 (wrap64 (2 * a1)) 0) else (some false))
theorem impl_RsOk.mono_l : ∀ k, (∀ y0 y1 y2, LeO (impl_RsOk.l0 k y0 y1 y2) (impl_RsOk.l0 (k + 1) y0 y1 y2))
  | 0 => fun _ _ _ r h => by simp [impl_RsOk.l0] at h
  | k + 1 => by
    have ih0 := impl_RsOk.mono_l k
    · intro y0 y1 y2
      unfold impl_RsOk.l0
      repeat' first
      | (with_reducible exact ih0 _ _ _)
      | (with_reducible exact impl_value.mono _ _ _)
      | (with_reducible exact LeO.refl _)
      | (with_reducible exact LeO.none _)
      | (with_reducible refine LeO.ite ?_ ?_)
      | (with_reducible refine LeO.bind ?_ (fun _ => ?_))
      | exact ih0 _ _ _
      | exact impl_value.mono _ _ _
      | exact LeO.none _
      | refine LeO.ite ?_ ?_
      | refine LeO.bind ?_ (fun _ => ?_)
theorem impl_RsOk.mono : ∀ a0 a1 k, LeO (impl_RsOk.f k a0 a1) (impl_RsOk.f (k + 1) a0 a1) := by
  intro a0 a1 k
  have ih0 := impl_RsOk.mono_l k
  unfold impl_RsOk.f
  repeat' first
      | (with_reducible exact ih0 _ _ _)
      | (with_reducible exact impl_value.mono _ _ _)
      | (with_reducible exact LeO.refl _)
      | (with_reducible exact LeO.none _)
      | (with_reducible refine LeO.ite ?_ ?_)
      | (with_reducible refine LeO.bind ?_ (fun _ => ?_))
      | exact ih0 _ _ _
      | exact impl_value.mono _ _ _
      | exact LeO.none _
      | refine LeO.ite ?_ ?_
      | refine LeO.bind ?_ (fun _ => ?_)
set_option maxHeartbeats 8000000 in
set_option maxRecDepth 100000 in
theorem impl_RsOk.calls (k : Nat) (A0 : Option Addr) (c0 : Nat) (l0 : List Int) (a1 : Int) (r : Bool) (w : World) (hr0 : Kd.C (Kd.int .u8) w A0 l0.length l0) (hc0 : l0.length ≤ c0) (h : impl_RsOk.f k l0 a1 = some r) :
  Calls Try.prog 12 #[.slice A0 l0.length c0, .int .i64 a1] w fun e w' => e = .returned (.bool r) ∧ Drawn0 w w' := by
 have HR0 := Aside0.mk hr0
 have HC0 := Aside0.mk hc0
 clear hr0 hc0
 have H : ((impl_wordOk.f l0 a1).bind fun t144 => (if t144 = true then (impl_RsOk.l0 k l0 (wrap64 (2 * a1)) 0) else (some false))) = some r := h
 clear h
 replace H := zi H
 obtain ⟨t144, A3, H⟩ := H
 by_cases c4 : t144 = true
 rotate_left
 ·replace c4 := Bool.eq_false_iff.mpr c4
  subst c4
  have H1 : (some false) = some r := by rw [if_neg (show ¬ (false = true) by decide)] at H; exact H
  clear H
  have H := H1
  clear H1
  obtain rfl := Option.some.inj H
  go_enter Try.func12, Try.ntmps12
  go_wp2_with (first | ((with_reducible refine gate_callee (f := 37) rfl ?_); refine goesL_ (some 8) rfl rfl Try.func37 (by kernel_rfl) rfl #[.slice A0 l0.length c0, .int .i64 a1] rfl zL ?_; (with_reducible refine (impl_wordOk.calls _ _ l0 a1 false _ ?side1 ?side2 A3.out).mono ?_); (case side1 => exact zC HR0.out); (case side2 => exact HC0.out); rintro e w' ⟨rfl, ⟨nd, rfl⟩⟩; refine ⟨_, rfl, ?_⟩))
  go_ret
  exact ⟨zO, zW⟩
 subst c4
 have H1 : (impl_RsOk.l0 k l0 (wrap64 (2 * a1)) 0) = some r := by rw [if_pos rfl] at H; exact H
 clear H
 have H := H1
 clear H1
 have H' := Aside0.mk H
 clear H
 go_enter Try.func12, Try.ntmps12
 go_wp2_with (first | ((with_reducible refine gate_callee (f := 37) rfl ?_); refine goesL_ (some 8) rfl rfl Try.func37 (by kernel_rfl) rfl #[.slice A0 l0.length c0, .int .i64 a1] rfl zL ?_; (with_reducible refine (impl_wordOk.calls _ _ l0 a1 true _ ?side1 ?side2 A3.out).mono ?_); (case side1 => exact zC HR0.out); (case side2 => exact HC0.out); rintro e w' ⟨rfl, ⟨nd, rfl⟩⟩; refine ⟨_, rfl, ?_⟩))
 go_loopg [12] k (fun kq v12 w' => ∃ (x12_1 : Int), v12 = .int .i64 x12_1 ∧ Aside0 (impl_RsOk.l0 kq l0 (wrap64 (2 * a1)) x12_1 = some r) ∧ Aside0 (kq ≤ k) ∧ Drawn0 w w')
 case atStart => exact ⟨(0), zO, H', ⟨Nat.le_refl _⟩, zW⟩
 case round =>
 clear H'
 try clear c1
 try clear p2
 try clear c3
 try clear c4
 obtain ⟨x12_1, rfl, HA, HK1, ⟨m1, rfl⟩⟩ := hrel
 cases gk with
 | zero => exact absurd HA.out (by simp [impl_RsOk.l0])
 | succ k1 =>
 have H := HA.out
 clear HA
 simp only [impl_RsOk.l0] at H
 by_cases c5 : x12_1 < (wrap64 (2 * a1))
 rotate_left
 ·rw [if_neg c5] at H
  have c5b0 := decide_eq_false c5
  clear c5
  obtain rfl := Option.some.inj H
  go_wp2
  go_ret
  exact ⟨zO, zW⟩
 rw [if_pos c5] at H
 have c5b0 := decide_eq_true c5
 clear c5
 replace H := zi H
 obtain ⟨t145, A6, H⟩ := H
 by_cases c7 : t145 = 0
 rotate_left
 ·rw [if_neg c7] at H
  have c7b0 : (t145 == 0) = false := beq_eq_false_iff_ne.mpr c7
  have c7b1 : (t145 != 0) = true := bne_iff_ne.mpr c7
  obtain rfl := Option.some.inj H
  go_wp2_with (first | ((with_reducible refine gate_callee (f := 38) rfl ?_); refine goesL_ (some 17) rfl rfl Try.func38 (by kernel_rfl) rfl #[.slice A0 l0.length c0, .int .i64 x12_1] rfl zL ?_; (with_reducible refine (impl_value.calls k1 _ _ l0 x12_1 t145 _ ?side1 ?side2 A6.out).mono ?_); (case side1 => exact zC HR0.out); (case side2 => exact HC0.out); rintro e w' ⟨rfl, ⟨nd, rfl⟩⟩; refine ⟨_, rfl, ?_⟩))
  go_ret
  exact ⟨zO, zW⟩
 rw [if_pos c7] at H
 have c7b0 : (t145 == 0) = true := beq_iff_eq.mpr c7
 have c7b1 : (t145 != 0) = false := bne_eq_false_iff_eq.mpr c7
 clear c7
 have H' := Aside0.mk H
 clear H
 go_wp2_with (first | ((with_reducible refine gate_callee (f := 38) rfl ?_); refine goesL_ (some 17) rfl rfl Try.func38 (by kernel_rfl) rfl #[.slice A0 l0.length c0, .int .i64 x12_1] rfl zL ?_; (with_reducible refine (impl_value.calls k1 _ _ l0 x12_1 t145 _ ?side1 ?side2 A6.out).mono ?_); (case side1 => exact zC HR0.out); (case side2 => exact HC0.out); rintro e w' ⟨rfl, ⟨nd, rfl⟩⟩; refine ⟨_, rfl, ?_⟩))
 go_roundg k1
 case measure => have := HK1.out; omega
 case rel => exact ⟨(wrap64 (x12_1 + 1)), zO, H', ⟨by have := HK1.out; omega⟩, zW⟩

/-! ### impl_GfInv: function 53 -/
def impl_GfInv.l0 : Nat → Int → Int → Int → Option (Int)
  | 0, _, _, _ => none
  | k + 1, x0, x3, x7 => if x7 < 254 then ((impl_GfMul.f k x3 x0).bind fun t147 => (impl_GfInv.l0 k x0 t147 (wrap64 (x7 + 1)))) else (if x0 = 0 then (some 0) else (some x3))
def impl_GfInv.f (k : Nat) (a0 : Int) : Option (Int) := (impl_isByte.f a0).bind fun t146 => (if t146 = true then (impl_GfInv.l0 k a0 1 0) else (some 0))
theorem impl_GfInv.mono_l : ∀ k, (∀ y0 y1 y2, LeO (impl_GfInv.l0 k y0 y1 y2) (impl_GfInv.l0 (k + 1) y0 y1 y2))
  | 0 => fun _ _ _ r h => by simp [impl_GfInv.l0] at h
  | k + 1 => by
    have ih0 := impl_GfInv.mono_l k
    · intro y0 y1 y2
      unfold impl_GfInv.l0
      repeat' first
      | (with_reducible exact ih0 _ _ _)
      | (with_reducible exact impl_GfMul.mono _ _ _)
      | (with_reducible exact LeO.refl _)
      | (with_reducible exact LeO.none _)
      | (with_reducible refine LeO.ite ?_ ?_)
      | (with_reducible refine LeO.bind ?_ (fun _ => ?_))
      | exact ih0 _ _ _
      | exact impl_GfMul.mono _ _ _
      | exact LeO.none _
      | refine LeO.ite ?_ ?_
      | refine LeO.bind ?_ (fun _ => ?_)
theorem impl_GfInv.mono : ∀ a0 k, LeO (impl_GfInv.f k a0) (impl_GfInv.f (k + 1) a0) := by
  intro a0 k
  have ih0 := impl_GfInv.mono_l k
  unfold impl_GfInv.f
  repeat' first
      | (with_reducible exact ih0 _ _ _)
      | (with_reducible exact impl_GfMul.mono _ _ _)
      | (with_reducible exact LeO.refl _)
      | (with_reducible exact LeO.none _)
      | (with_reducible refine LeO.ite ?_ ?_)
      | (with_reducible refine LeO.bind ?_ (fun _ => ?_))
      | exact ih0 _ _ _
      | exact impl_GfMul.mono _ _ _
      | exact LeO.none _
      | refine LeO.ite ?_ ?_
      | refine LeO.bind ?_ (fun _ => ?_)
set_option maxHeartbeats 8000000 in
set_option maxRecDepth 100000 in
theorem impl_GfInv.calls (k : Nat) (a0 : Int) (r : Int) (w : World) (h : impl_GfInv.f k a0 = some r) :
  Calls Try.prog 53 #[.int .i64 a0] w fun e w' => e = .returned (.int .i64 r) ∧ Drawn0 w w' := by
 have H : ((impl_isByte.f a0).bind fun t146 => (if t146 = true then (impl_GfInv.l0 k a0 1 0) else (some 0))) = some r := h
 clear h
 replace H := zi H
 obtain ⟨t146, A2, H⟩ := H
 by_cases c3 : t146 = true
 rotate_left
 ·replace c3 := Bool.eq_false_iff.mpr c3
  subst c3
  have H1 : (some 0) = some r := by rw [if_neg (show ¬ (false = true) by decide)] at H; exact H
  clear H
  have H := H1
  clear H1
  obtain rfl := Option.some.inj H
  go_enter Try.func53, Try.ntmps53
  go_wp2_with (first | ((with_reducible refine gate_callee (f := 52) rfl ?_); refine goesL_ (some 5) rfl rfl Try.func52 (by kernel_rfl) rfl #[.int .i64 a0] rfl zL ?_; (with_reducible refine (impl_isByte.calls a0 false _ A2.out).mono ?_); rintro e w' ⟨rfl, ⟨nd, rfl⟩⟩; refine ⟨_, rfl, ?_⟩))
  go_ret
  exact ⟨zO, zW⟩
 subst c3
 have H1 : (impl_GfInv.l0 k a0 1 0) = some r := by rw [if_pos rfl] at H; exact H
 clear H
 have H := H1
 clear H1
 have H' := Aside0.mk H
 clear H
 go_enter Try.func53, Try.ntmps53
 go_wp2_with (first | ((with_reducible refine gate_callee (f := 52) rfl ?_); refine goesL_ (some 5) rfl rfl Try.func52 (by kernel_rfl) rfl #[.int .i64 a0] rfl zL ?_; (with_reducible refine (impl_isByte.calls a0 true _ A2.out).mono ?_); rintro e w' ⟨rfl, ⟨nd, rfl⟩⟩; refine ⟨_, rfl, ?_⟩))
 go_loopg [3, 7] k (fun kq v3 v7 w' => ∃ (x3_1 : Int) (x7_1 : Int), v3 = .int .i64 x3_1 ∧ v7 = .int .i64 x7_1 ∧ Aside0 (impl_GfInv.l0 kq a0 x3_1 x7_1 = some r) ∧ Aside0 (kq ≤ k) ∧ Drawn0 w w')
 case atStart => exact ⟨(1), (0), zO, zO, H', ⟨Nat.le_refl _⟩, zW⟩
 case round =>
 clear H'
 try clear p2
 try clear c3
 obtain ⟨x3_1, x7_1, rfl, rfl, HA, HK1, ⟨m1, rfl⟩⟩ := hrel
 cases gk with
 | zero => exact absurd HA.out (by simp [impl_GfInv.l0])
 | succ k1 =>
 have H := HA.out
 clear HA
 simp only [impl_GfInv.l0] at H
 by_cases c4 : x7_1 < 254
 ·rw [if_pos c4] at H
  have c4b0 := decide_eq_true c4
  clear c4
  replace H := zi H
  obtain ⟨t147, A5, H⟩ := H
  have H' := Aside0.mk H
  clear H
  go_wp2_with (first | ((with_reducible refine gate_callee (f := 35) rfl ?_); refine goesL_ (some 11) rfl rfl Try.func35 (by kernel_rfl) rfl #[.int .i64 x3_1, .int .i64 a0] rfl zL ?_; (with_reducible refine (impl_GfMul.calls k1 x3_1 a0 t147 _ A5.out).mono ?_); rintro e w' ⟨rfl, ⟨nd, rfl⟩⟩; refine ⟨_, rfl, ?_⟩))
  go_roundg k1
  case measure => have := HK1.out; omega
  case rel => exact ⟨(t147), (wrap64 (x7_1 + 1)), zO, zO, H', ⟨by have := HK1.out; omega⟩, zW⟩
 rw [if_neg c4] at H
 have c4b0 := decide_eq_false c4
 clear c4
 by_cases c6 : a0 = 0
 rotate_left
 ·rw [if_neg c6] at H
  have c6b0 : (a0 == 0) = false := beq_eq_false_iff_ne.mpr c6
  have c6b1 : (a0 != 0) = true := bne_iff_ne.mpr c6
  obtain rfl := Option.some.inj H
  go_wp2
  go_ret
  exact ⟨zO, zW⟩
 rw [if_pos c6] at H
 have c6b0 : (a0 == 0) = true := beq_iff_eq.mpr c6
 have c6b1 : (a0 != 0) = false := bne_eq_false_iff_eq.mpr c6
 clear c6
 obtain rfl := Option.some.inj H
 go_wp2
 go_ret
 exact ⟨zO, zW⟩

end Go.Proofs.Ytdcjfcfiflpblaa.PFnNearestWord
