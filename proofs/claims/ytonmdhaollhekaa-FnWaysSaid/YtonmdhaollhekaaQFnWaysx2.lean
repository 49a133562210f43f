/- The functions that FnWays reaches, each with its walk; written by a program (own.py). -/
import Derived.Test.YtonmdhaollhekaaQFnWaysx0
import Derived.Test.YtonmdhaollhekaaQFnWaysx1
namespace Go.Proofs.Ytonmdhaollhekaa.PFnWays
open Go.RowKit Go.Proofs.YtonmdhaollhekaaW.PrintWords Go.Proofs.YtonmdhaollhekaaW.PrintLast Go.Proofs.YtonmdhaollhekaaW.PrintMore
attribute [local go_sem] max2_int min2_int max_two min_two max_three min_three max_four min_four   -- for this text's walks alone
set_option linter.unusedVariables false
set_option linter.unusedSimpArgs false

/-! ### impl_Ways: function 26 -/
mutual
def impl_Ways.j0 : Nat → Int → Int → Bool → Option (Int)
  | 0, _, _, _ => none
  | k + 1, x0, x1, x17 => if x17 = true then (some 0) else (impl_Ways.l0 k x0 x1 0 1 0)
def impl_Ways.l0 : Nat → Int → Int → Int → Int → Int → Option (Int)
  | 0, _, _, _, _, _ => none
  | k + 1, x0, x1, x5, x6, x7 => if x7 ≤ x0 then (if (wrap64 (x0 - (wrap64 (2 * x7)))) ≥ x1 then ((bits_Mul64.f (IntKind.u64.wrap (x6)) (IntKind.u64.wrap (wrap64 (x0 - x7)))).bind fun bt118 => ((bits_Div64.f bt118.1 bt118.2 (IntKind.u64.wrap (wrap64 (x7 + 1)))).bind fun bt120 => (impl_Ways.l0 k x0 x1 (wrap64 (x5 + x6)) (wrap64 (bt120.1)) (wrap64 (x7 + 1))))) else ((bits_Mul64.f (IntKind.u64.wrap (x6)) (IntKind.u64.wrap (wrap64 (x0 - x7)))).bind fun bt122 => ((bits_Div64.f bt122.1 bt122.2 (IntKind.u64.wrap (wrap64 (x7 + 1)))).bind fun bt124 => (impl_Ways.l0 k x0 x1 x5 (wrap64 (bt124.1)) (wrap64 (x7 + 1)))))) else (some x5)
end
def impl_Ways.f (k : Nat) (a0 : Int) (a1 : Int) : Option (Int) := if a0 < 0 then (impl_Ways.j0 k a0 a1 true) else (impl_Ways.j0 k a0 a1 (decide (a0 > 60)))
theorem impl_Ways.mono_l : ∀ k, (∀ y0 y1 y2, LeO (impl_Ways.j0 k y0 y1 y2) (impl_Ways.j0 (k + 1) y0 y1 y2)) ∧ (∀ y0 y1 y2 y3 y4, LeO (impl_Ways.l0 k y0 y1 y2 y3 y4) (impl_Ways.l0 (k + 1) y0 y1 y2 y3 y4))
  | 0 => ⟨fun _ _ _ r h => by simp [impl_Ways.j0] at h, fun _ _ _ _ _ r h => by simp [impl_Ways.l0] at h⟩
  | k + 1 => by
    obtain ⟨ih0, ih1⟩ := impl_Ways.mono_l k
    refine ⟨?_, ?_⟩
    · intro y0 y1 y2
      unfold impl_Ways.j0
      repeat' first
      | (with_reducible exact ih0 _ _ _)
      | (with_reducible exact ih1 _ _ _ _ _)
      | (with_reducible exact LeO.refl _)
      | (with_reducible exact LeO.none _)
      | (with_reducible refine LeO.ite ?_ ?_)
      | (with_reducible refine LeO.bind ?_ (fun _ => ?_))
      | exact ih0 _ _ _
      | exact ih1 _ _ _ _ _
      | exact LeO.none _
      | refine LeO.ite ?_ ?_
      | refine LeO.bind ?_ (fun _ => ?_)
    · intro y0 y1 y2 y3 y4
      unfold impl_Ways.l0
      repeat' first
      | (with_reducible exact ih0 _ _ _)
      | (with_reducible exact ih1 _ _ _ _ _)
      | (with_reducible exact LeO.refl _)
      | (with_reducible exact LeO.none _)
      | (with_reducible refine LeO.ite ?_ ?_)
      | (with_reducible refine LeO.bind ?_ (fun _ => ?_))
      | exact ih0 _ _ _
      | exact ih1 _ _ _ _ _
      | exact LeO.none _
      | refine LeO.ite ?_ ?_
      | refine LeO.bind ?_ (fun _ => ?_)
theorem impl_Ways.mono : ∀ a0 a1 k, LeO (impl_Ways.f k a0 a1) (impl_Ways.f (k + 1) a0 a1) := by
  intro a0 a1 k
  obtain ⟨ih0, ih1⟩ := impl_Ways.mono_l k
  unfold impl_Ways.f
  repeat' first
      | (with_reducible exact ih0 _ _ _)
      | (with_reducible exact ih1 _ _ _ _ _)
      | (with_reducible exact LeO.refl _)
      | (with_reducible exact LeO.none _)
      | (with_reducible refine LeO.ite ?_ ?_)
      | (with_reducible refine LeO.bind ?_ (fun _ => ?_))
      | exact ih0 _ _ _
      | exact ih1 _ _ _ _ _
      | exact LeO.none _
      | refine LeO.ite ?_ ?_
      | refine LeO.bind ?_ (fun _ => ?_)
set_option maxHeartbeats 8000000 in
set_option maxRecDepth 100000 in
theorem impl_Ways.calls (k : Nat) (a0 : Int) (a1 : Int) (r : Int) (w : World) (h : impl_Ways.f k a0 a1 = some r) :
    Calls Try.prog 26 #[.int .i64 a0, .int .i64 a1] w fun e w' => e = .returned (.int .i64 r) ∧ Drawn0 w w' := by
  have H : (if a0 < 0 then (impl_Ways.j0 k a0 a1 true) else (impl_Ways.j0 k a0 a1 (decide (a0 > 60)))) = some r := h
  clear h
  have HC3 := Aside0.mk H
  clear H
  go_enter Try.func26, Try.ntmps26
  go_upto_region 1 with (fail)
  go_cut [17] (fun v17 wc => ∃ (kq : Nat) (x17_2 : Bool), v17 = .bool x17_2 ∧ Aside0 (impl_Ways.j0 kq a0 a1 x17_2 = some r) ∧ Aside0 (kq ≤ k) ∧ Drawn0 w wc)
  case first =>
    have H := HC3.out
    clear HC3
    by_cases c4 : a0 < 0
    · rw [if_pos c4] at H
      have c4b0 : decide (a0 < 0) = true := decide_eq_true c4
      clear c4
      (first | rw [c4b0] | (simp only [i64_w, i32_w]; rw [c4b0]) | skip)
      have H' := Aside0.mk H
      clear H
      go_wp2
      go_meet
      case rel => exact ⟨_, (true), (by first | rfl | (simp; done) | (simp [*]; done)), H', ⟨by first | omega | exact Nat.le_refl _⟩, by repeat (first | exact Drawn0.refl _ | apply Drawn0.step)⟩
    · rw [if_neg c4] at H
      have c4b0 : decide (a0 < 0) = false := decide_eq_false c4
      clear c4
      (first | rw [c4b0] | (simp only [i64_w, i32_w]; rw [c4b0]) | skip)
      have H' := Aside0.mk H
      clear H
      go_wp2
      go_meet
      case rel => exact ⟨_, (decide (a0 > 60)), (by first | rfl | (simp; done) | (simp [*]; done)), H', ⟨by first | omega | exact Nat.le_refl _⟩, by repeat (first | exact Drawn0.refl _ | apply Drawn0.step)⟩
  case rest =>
    clear HC3
    try clear c2
    try clear p2
    try clear c4
    try clear c4b0
    obtain ⟨kq, x17_2, rfl, HA, HJ2, ⟨mc2, rfl⟩⟩ := hcut
    cases kq with
    | zero => exact absurd HA.out (by simp [impl_Ways.j0])
    | succ kj2 =>
      have H := HA.out
      clear HA
      simp only [impl_Ways.j0] at H
      by_cases c5 : x17_2 = true
      · subst c5
        have H1 : (some 0) = some r := by rw [if_pos rfl] at H; exact H
        clear H
        have H := H1
        clear H1
        obtain rfl := Option.some.inj H
        go_wp2
        go_ret
        exact ⟨by first | rfl | (simp; done) | (simp [*]; done), by repeat (first | exact Drawn0.refl _ | apply Drawn0.step)⟩
      · replace c5 := Bool.eq_false_iff.mpr c5
        subst c5
        have H1 : (impl_Ways.l0 kj2 a0 a1 0 1 0) = some r := by rw [if_neg (show ¬ (false = true) by decide)] at H; exact H
        clear H
        have H := H1
        clear H1
        have H' := Aside0.mk H
        clear H
        go_wp2
        go_loopg [5, 6, 7] kj2 (fun kq v5 v6 v7 w' => ∃ (x5_2 : Int) (x6_2 : Int) (x7_2 : Int), v5 = .int .i64 x5_2 ∧ v6 = .int .i64 x6_2 ∧ v7 = .int .i64 x7_2 ∧ Aside0 (impl_Ways.l0 kq a0 a1 x5_2 x6_2 x7_2 = some r) ∧ Aside0 (kq ≤ kj2) ∧ Drawn0 w w')
        case atStart => exact ⟨(0), (1), (0), (by first | rfl | (simp; done) | (simp [*]; done)), (by first | rfl | (simp; done) | (simp [*]; done)), (by first | rfl | (simp; done) | (simp [*]; done)), H', ⟨Nat.le_refl _⟩, by repeat (first | exact Drawn0.refl _ | apply Drawn0.step)⟩
        case round =>
          clear H'
          try clear c2
          try clear p2
          try clear c4
          try clear c4b0
          try clear c5
          try clear p2
          obtain ⟨x5_2, x6_2, x7_2, rfl, rfl, rfl, HA, HK2, ⟨m2, rfl⟩⟩ := hrel
          cases gk with
          | zero => exact absurd HA.out (by simp [impl_Ways.l0])
          | succ k2 =>
            have H := HA.out
            clear HA
            simp only [impl_Ways.l0] at H
            by_cases c6 : x7_2 ≤ a0
            · rw [if_pos c6] at H
              have c6b0 : decide (x7_2 ≤ a0) = true := decide_eq_true c6
              clear c6
              by_cases c7 : (wrap64 (a0 - (wrap64 (2 * x7_2)))) ≥ a1
              · rw [if_pos c7] at H
                have c7b0 : decide (a1 ≤ (wrap64 (a0 - (wrap64 (2 * x7_2))))) = true := decide_eq_true c7
                clear c7
                replace H := Option.bind_eq_some_iff.mp H
                obtain ⟨⟨t118, t119⟩, A80, H⟩ := H
                replace H : ((bits_Div64.f t118 t119 (IntKind.u64.wrap (wrap64 (x7_2 + 1)))).bind fun bt120 => (impl_Ways.l0 k2 a0 a1 (wrap64 (x5_2 + x6_2)) (wrap64 (bt120.1)) (wrap64 (x7_2 + 1)))) = some r := H
                have A8 := Aside0.mk A80
                clear A80
                replace H := Option.bind_eq_some_iff.mp H
                obtain ⟨⟨t120, t121⟩, A90, H⟩ := H
                replace H : (impl_Ways.l0 k2 a0 a1 (wrap64 (x5_2 + x6_2)) (wrap64 (t120)) (wrap64 (x7_2 + 1))) = some r := H
                have A9 := Aside0.mk A90
                clear A90
                have H' := Aside0.mk H
                clear H
                go_wp2_with (first | ((with_reducible refine gate_callee (f := 53) rfl ?_); refine goesL_ (some 39) rfl rfl Try.func53 (by kernel_rfl) rfl #[.int .u64 (IntKind.u64.wrap (x6_2)), .int .u64 (IntKind.u64.wrap (wrap64 (a0 - x7_2)))] rfl (by (try simp only [List.map_toArray, List.map_cons, List.map_nil]); first | done | rfl | (simp only [List.length_drop, List.length_take]; rfl)) ?_; (with_reducible refine (bits_Mul64.calls (IntKind.u64.wrap (x6_2)) (IntKind.u64.wrap (wrap64 (a0 - x7_2))) t118 t119 _ A8.out).mono ?_); rintro e w' ⟨rfl, ⟨nd, rfl⟩⟩; refine ⟨_, rfl, ?_⟩) | ((with_reducible refine gate_callee (f := 54) rfl ?_); refine goesL_ (some 48) rfl rfl Try.func54 (by kernel_rfl) rfl #[.int .u64 t118, .int .u64 t119, .int .u64 (IntKind.u64.wrap (wrap64 (x7_2 + 1)))] rfl (by (try simp only [List.map_toArray, List.map_cons, List.map_nil]); first | done | rfl | (simp only [List.length_drop, List.length_take]; rfl)) ?_; (with_reducible refine (bits_Div64.calls t118 t119 (IntKind.u64.wrap (wrap64 (x7_2 + 1))) t120 t121 _ A9.out).mono ?_); rintro e w' ⟨rfl, ⟨nd, rfl⟩⟩; refine ⟨_, rfl, ?_⟩))
                go_roundg k2
                case measure => have := HJ2.out; have := HK2.out; omega
                case rel => exact ⟨(wrap64 (x5_2 + x6_2)), (wrap64 (t120)), (wrap64 (x7_2 + 1)), (by first | rfl | (simp; done) | (simp [*]; done)), (by first | rfl | (simp; done) | (simp [*]; done)), (by first | rfl | (simp; done) | (simp [*]; done)), H', ⟨by have := HJ2.out; have := HK2.out; omega⟩, by repeat (first | exact Drawn0.refl _ | apply Drawn0.step)⟩
              · rw [if_neg c7] at H
                have c7b0 : decide (a1 ≤ (wrap64 (a0 - (wrap64 (2 * x7_2))))) = false := decide_eq_false c7
                clear c7
                replace H := Option.bind_eq_some_iff.mp H
                obtain ⟨⟨t122, t123⟩, A100, H⟩ := H
                replace H : ((bits_Div64.f t122 t123 (IntKind.u64.wrap (wrap64 (x7_2 + 1)))).bind fun bt124 => (impl_Ways.l0 k2 a0 a1 x5_2 (wrap64 (bt124.1)) (wrap64 (x7_2 + 1)))) = some r := H
                have A10 := Aside0.mk A100
                clear A100
                replace H := Option.bind_eq_some_iff.mp H
                obtain ⟨⟨t124, t125⟩, A110, H⟩ := H
                replace H : (impl_Ways.l0 k2 a0 a1 x5_2 (wrap64 (t124)) (wrap64 (x7_2 + 1))) = some r := H
                have A11 := Aside0.mk A110
                clear A110
                have H' := Aside0.mk H
                clear H
                go_wp2_with (first | ((with_reducible refine gate_callee (f := 53) rfl ?_); refine goesL_ (some 39) rfl rfl Try.func53 (by kernel_rfl) rfl #[.int .u64 (IntKind.u64.wrap (x6_2)), .int .u64 (IntKind.u64.wrap (wrap64 (a0 - x7_2)))] rfl (by (try simp only [List.map_toArray, List.map_cons, List.map_nil]); first | done | rfl | (simp only [List.length_drop, List.length_take]; rfl)) ?_; (with_reducible refine (bits_Mul64.calls (IntKind.u64.wrap (x6_2)) (IntKind.u64.wrap (wrap64 (a0 - x7_2))) t122 t123 _ A10.out).mono ?_); rintro e w' ⟨rfl, ⟨nd, rfl⟩⟩; refine ⟨_, rfl, ?_⟩) | ((with_reducible refine gate_callee (f := 54) rfl ?_); refine goesL_ (some 48) rfl rfl Try.func54 (by kernel_rfl) rfl #[.int .u64 t122, .int .u64 t123, .int .u64 (IntKind.u64.wrap (wrap64 (x7_2 + 1)))] rfl (by (try simp only [List.map_toArray, List.map_cons, List.map_nil]); first | done | rfl | (simp only [List.length_drop, List.length_take]; rfl)) ?_; (with_reducible refine (bits_Div64.calls t122 t123 (IntKind.u64.wrap (wrap64 (x7_2 + 1))) t124 t125 _ A11.out).mono ?_); rintro e w' ⟨rfl, ⟨nd, rfl⟩⟩; refine ⟨_, rfl, ?_⟩))
                go_roundg k2
                case measure => have := HJ2.out; have := HK2.out; omega
                case rel => exact ⟨(x5_2), (wrap64 (t124)), (wrap64 (x7_2 + 1)), (by first | rfl | (simp; done) | (simp [*]; done)), (by first | rfl | (simp; done) | (simp [*]; done)), (by first | rfl | (simp; done) | (simp [*]; done)), H', ⟨by have := HJ2.out; have := HK2.out; omega⟩, by repeat (first | exact Drawn0.refl _ | apply Drawn0.step)⟩
            · rw [if_neg c6] at H
              have c6b0 : decide (x7_2 ≤ a0) = false := decide_eq_false c6
              clear c6
              obtain rfl := Option.some.inj H
              go_wp2
              go_ret
              exact ⟨by first | rfl | (simp; done) | (simp [*]; done), by repeat (first | exact Drawn0.refl _ | apply Drawn0.step)⟩

/-! ### laws_big: function 27 -/
def laws_big.f (l0 : List Int) : Option (Bool) := some (decide ((l0.length : Int) > 1048576))
set_option maxHeartbeats 8000000 in
set_option maxRecDepth 100000 in
theorem laws_big.calls (A0 : Option Addr) (c0 : Nat) (l0 : List Int) (r : Bool) (w : World) (hr0 : Kd.C (Kd.int .u8) w A0 l0.length l0) (hc0 : l0.length ≤ c0) (h : laws_big.f l0 = some r) :
    Calls Try.prog 27 #[.slice A0 l0.length c0] w fun e w' => e = .returned (.bool r) ∧ Drawn0 w w' := by
  have HR0 := Aside0.mk hr0
  have HC0 := Aside0.mk hc0
  clear hr0 hc0
  have H : (some (decide ((l0.length : Int) > 1048576))) = some r := h
  clear h
  obtain rfl := Option.some.inj H
  go_enter Try.func27, Try.ntmps27
  go_wp2
  go_ret
  exact ⟨by first | rfl | (simp; done) | (simp [*]; done), by repeat (first | exact Drawn0.refl _ | apply Drawn0.step)⟩

/-! ### laws_at: function 28 -/
def laws_at.f (l0 : List Int) (a1 : Int) : Option (Int) := if a1 < (l0.length : Int) then (if 0 ≤ a1 then (some (wrap64 (rd l0 a1))) else (none)) else (some (Int.tmod (wrap64 ((wrap64 (a1 * 7)) + (l0.length : Int))) 256))
set_option maxHeartbeats 8000000 in
set_option maxRecDepth 100000 in
theorem laws_at.calls (A0 : Option Addr) (c0 : Nat) (l0 : List Int) (a1 : Int) (r : Int) (w : World) (hr0 : Kd.C (Kd.int .u8) w A0 l0.length l0) (hc0 : l0.length ≤ c0) (h : laws_at.f l0 a1 = some r) :
    Calls Try.prog 28 #[.slice A0 l0.length c0, .int .i64 a1] w fun e w' => e = .returned (.int .i64 r) ∧ Drawn0 w w' := by
  have HR0 := Aside0.mk hr0
  have HC0 := Aside0.mk hc0
  clear hr0 hc0
  have H : (if a1 < (l0.length : Int) then (if 0 ≤ a1 then (some (wrap64 (rd l0 a1))) else (none)) else (some (Int.tmod (wrap64 ((wrap64 (a1 * 7)) + (l0.length : Int))) 256))) = some r := h
  clear h
  by_cases c3 : a1 < (l0.length : Int)
  · rw [if_pos c3] at H
    have c3b0 : decide (a1 < (l0.length : Int)) = true := decide_eq_true c3
    clear c3
    by_cases c4 : 0 ≤ a1
    · rw [if_pos c4] at H
      have c4b0 : decide (0 ≤ a1) = true := decide_eq_true c4
      clear c4
      obtain rfl := Option.some.inj H
      have p126 : 0 ≤ (a1 : Int) := of_decide_eq_true (by first | (with_reducible assumption) | assumption)
      have q126 : a1 < (l0.length : Int) := of_decide_eq_true (by first | (with_reducible assumption) | assumption)
      obtain ⟨ad126, e126, hx126_0⟩ := Kd.at_int HR0.out a1 p126 q126
      cases e126
      replace p126 := eq_true p126
      replace q126 := eq_true q126
      go_enter Try.func28, Try.ntmps28
      go_wp2
      go_ret
      exact ⟨by first | rfl | (simp; done) | (simp [*]; done), by repeat (first | exact Drawn0.refl _ | apply Drawn0.step)⟩
    · rw [if_neg c4] at H
      exact absurd H (by simp)
  · rw [if_neg c3] at H
    have c3b0 : decide (a1 < (l0.length : Int)) = false := decide_eq_false c3
    clear c3
    obtain rfl := Option.some.inj H
    go_enter Try.func28, Try.ntmps28
    go_wp2
    go_ret
    exact ⟨by first | rfl | (simp; done) | (simp [*]; done), by repeat (first | exact Drawn0.refl _ | apply Drawn0.step)⟩

/-! ### laws_FnWays: function 7 -/
def laws_FnWays.f (k : Nat) (l0 : List Int) : Option (Bool) := (laws_big.f l0).bind fun t127 => (if t127 = true then (some true) else ((laws_at.f l0 0).bind fun t128 => ((laws_at.f l0 1).bind fun t129 => (if 0 ≤ (IntKind.u64.wrap (Int.tmod t128 61)) then ((impl_Ways.f k (Int.tmod t128 61) (wrap64 (-(Int.tmod t128 61)))).bind fun t130 => (if t130 = (shl .i64 1 (IntKind.u64.wrap (Int.tmod t128 61))) then ((impl_Ways.f k (Int.tmod t128 61) (wrap64 (1 - (wrap64 ((Int.tmod t129 70) - 3))))).bind fun t131 => ((impl_Ways.f k (Int.tmod t128 61) (wrap64 ((Int.tmod t129 70) - 3))).bind fun t132 => (if (wrap64 ((shl .i64 1 (IntKind.u64.wrap (Int.tmod t128 61))) - t131)) = t132 then ((impl_Ways.f k (Int.tmod t128 61) (wrap64 ((Int.tmod t129 70) - 3))).bind fun t133 => ((spec_Ways.f k (Int.tmod t128 61) (wrap64 ((Int.tmod t129 70) - 3))).bind fun t134 => (some (t133 == t134)))) else (some false)))) else (some false))) else (none)))))
theorem laws_FnWays.mono : ∀ a0 k, LeO (laws_FnWays.f k a0) (laws_FnWays.f (k + 1) a0) := by
  intro a0 k
  unfold laws_FnWays.f
  repeat' first
      | (with_reducible exact impl_Ways.mono _ _ _)
      | (with_reducible exact spec_Ways.mono _ _ _)
      | (with_reducible exact LeO.refl _)
      | (with_reducible exact LeO.none _)
      | (with_reducible refine LeO.ite ?_ ?_)
      | (with_reducible refine LeO.bind ?_ (fun _ => ?_))
      | exact impl_Ways.mono _ _ _
      | exact spec_Ways.mono _ _ _
      | exact LeO.none _
      | refine LeO.ite ?_ ?_
      | refine LeO.bind ?_ (fun _ => ?_)
set_option maxHeartbeats 8000000 in
set_option maxRecDepth 100000 in
theorem laws_FnWays.calls (k : Nat) (A0 : Option Addr) (c0 : Nat) (l0 : List Int) (r : Bool) (w : World) (hr0 : Kd.C (Kd.int .u8) w A0 l0.length l0) (hc0 : l0.length ≤ c0) (h : laws_FnWays.f k l0 = some r) :
    Calls Try.prog 7 #[.slice A0 l0.length c0] w fun e w' => e = .returned (.bool r) ∧ Below w.heap.size w w' := by
  have HR0 := Aside0.mk hr0
  have HC0 := Aside0.mk hc0
  clear hr0 hc0
  have HB := Aside0.mk (Below.refl w.heap.size w)
  have H : ((laws_big.f l0).bind fun t127 => (if t127 = true then (some true) else ((laws_at.f l0 0).bind fun t128 => ((laws_at.f l0 1).bind fun t129 => (if 0 ≤ (IntKind.u64.wrap (Int.tmod t128 61)) then ((impl_Ways.f k (Int.tmod t128 61) (wrap64 (-(Int.tmod t128 61)))).bind fun t130 => (if t130 = (shl .i64 1 (IntKind.u64.wrap (Int.tmod t128 61))) then ((impl_Ways.f k (Int.tmod t128 61) (wrap64 (1 - (wrap64 ((Int.tmod t129 70) - 3))))).bind fun t131 => ((impl_Ways.f k (Int.tmod t128 61) (wrap64 ((Int.tmod t129 70) - 3))).bind fun t132 => (if (wrap64 ((shl .i64 1 (IntKind.u64.wrap (Int.tmod t128 61))) - t131)) = t132 then ((impl_Ways.f k (Int.tmod t128 61) (wrap64 ((Int.tmod t129 70) - 3))).bind fun t133 => ((spec_Ways.f k (Int.tmod t128 61) (wrap64 ((Int.tmod t129 70) - 3))).bind fun t134 => (some (t133 == t134)))) else (some false)))) else (some false))) else (none)))))) = some r := h
  clear h
  replace H := Option.bind_eq_some_iff.mp H
  obtain ⟨t127, A20, H⟩ := H
  replace H : (if t127 = true then (some true) else ((laws_at.f l0 0).bind fun t128 => ((laws_at.f l0 1).bind fun t129 => (if 0 ≤ (IntKind.u64.wrap (Int.tmod t128 61)) then ((impl_Ways.f k (Int.tmod t128 61) (wrap64 (-(Int.tmod t128 61)))).bind fun t130 => (if t130 = (shl .i64 1 (IntKind.u64.wrap (Int.tmod t128 61))) then ((impl_Ways.f k (Int.tmod t128 61) (wrap64 (1 - (wrap64 ((Int.tmod t129 70) - 3))))).bind fun t131 => ((impl_Ways.f k (Int.tmod t128 61) (wrap64 ((Int.tmod t129 70) - 3))).bind fun t132 => (if (wrap64 ((shl .i64 1 (IntKind.u64.wrap (Int.tmod t128 61))) - t131)) = t132 then ((impl_Ways.f k (Int.tmod t128 61) (wrap64 ((Int.tmod t129 70) - 3))).bind fun t133 => ((spec_Ways.f k (Int.tmod t128 61) (wrap64 ((Int.tmod t129 70) - 3))).bind fun t134 => (some (t133 == t134)))) else (some false)))) else (some false))) else (none))))) = some r := H
  have A2 := Aside0.mk A20
  clear A20
  by_cases c3 : t127 = true
  · subst c3
    have H1 : (some true) = some r := by rw [if_pos rfl] at H; exact H
    clear H
    have H := H1
    clear H1
    obtain rfl := Option.some.inj H
    go_enter Try.func7, Try.ntmps7
    go_wp2_with (first | ((with_reducible refine gate_callee (f := 27) rfl ?_); refine goesL_ (some 7) rfl rfl Try.func27 (by kernel_rfl) rfl #[.slice A0 l0.length c0] rfl (by (try simp only [List.map_toArray, List.map_cons, List.map_nil]); first | done | rfl | (simp only [List.length_drop, List.length_take]; rfl)) ?_; (with_reducible refine (laws_big.calls _ _ l0 true _ ?side1 ?side2 A2.out).mono ?_); (case side1 => repeat (first | exact HR0.out | (with_reducible refine Kd.C_alloc ?_ _) | (with_reducible refine Kd.C_drewN ?_ _) | (with_reducible refine Kd.C_drew ?_))); (case side2 => exact HC0.out); rintro e w' ⟨rfl, ⟨nd, rfl⟩⟩; refine ⟨_, rfl, ?_⟩))
    go_ret
    exact ⟨by first | rfl | (simp [errW_none, errW_some] <;> rfl) | (simp [*, errW_none, errW_some] <;> rfl), by repeat (first | (with_reducible first | exact HB.out | apply below_alloc | apply pw_below_drewN | apply below_drew1) | exact HB.out)⟩
  · replace c3 := Bool.eq_false_iff.mpr c3
    subst c3
    have H1 : ((laws_at.f l0 0).bind fun t128 => ((laws_at.f l0 1).bind fun t129 => (if 0 ≤ (IntKind.u64.wrap (Int.tmod t128 61)) then ((impl_Ways.f k (Int.tmod t128 61) (wrap64 (-(Int.tmod t128 61)))).bind fun t130 => (if t130 = (shl .i64 1 (IntKind.u64.wrap (Int.tmod t128 61))) then ((impl_Ways.f k (Int.tmod t128 61) (wrap64 (1 - (wrap64 ((Int.tmod t129 70) - 3))))).bind fun t131 => ((impl_Ways.f k (Int.tmod t128 61) (wrap64 ((Int.tmod t129 70) - 3))).bind fun t132 => (if (wrap64 ((shl .i64 1 (IntKind.u64.wrap (Int.tmod t128 61))) - t131)) = t132 then ((impl_Ways.f k (Int.tmod t128 61) (wrap64 ((Int.tmod t129 70) - 3))).bind fun t133 => ((spec_Ways.f k (Int.tmod t128 61) (wrap64 ((Int.tmod t129 70) - 3))).bind fun t134 => (some (t133 == t134)))) else (some false)))) else (some false))) else (none)))) = some r := by rw [if_neg (show ¬ (false = true) by decide)] at H; exact H
    clear H
    have H := H1
    clear H1
    replace H := Option.bind_eq_some_iff.mp H
    obtain ⟨t128, A40, H⟩ := H
    replace H : ((laws_at.f l0 1).bind fun t129 => (if 0 ≤ (IntKind.u64.wrap (Int.tmod t128 61)) then ((impl_Ways.f k (Int.tmod t128 61) (wrap64 (-(Int.tmod t128 61)))).bind fun t130 => (if t130 = (shl .i64 1 (IntKind.u64.wrap (Int.tmod t128 61))) then ((impl_Ways.f k (Int.tmod t128 61) (wrap64 (1 - (wrap64 ((Int.tmod t129 70) - 3))))).bind fun t131 => ((impl_Ways.f k (Int.tmod t128 61) (wrap64 ((Int.tmod t129 70) - 3))).bind fun t132 => (if (wrap64 ((shl .i64 1 (IntKind.u64.wrap (Int.tmod t128 61))) - t131)) = t132 then ((impl_Ways.f k (Int.tmod t128 61) (wrap64 ((Int.tmod t129 70) - 3))).bind fun t133 => ((spec_Ways.f k (Int.tmod t128 61) (wrap64 ((Int.tmod t129 70) - 3))).bind fun t134 => (some (t133 == t134)))) else (some false)))) else (some false))) else (none))) = some r := H
    have A4 := Aside0.mk A40
    clear A40
    replace H := Option.bind_eq_some_iff.mp H
    obtain ⟨t129, A50, H⟩ := H
    replace H : (if 0 ≤ (IntKind.u64.wrap (Int.tmod t128 61)) then ((impl_Ways.f k (Int.tmod t128 61) (wrap64 (-(Int.tmod t128 61)))).bind fun t130 => (if t130 = (shl .i64 1 (IntKind.u64.wrap (Int.tmod t128 61))) then ((impl_Ways.f k (Int.tmod t128 61) (wrap64 (1 - (wrap64 ((Int.tmod t129 70) - 3))))).bind fun t131 => ((impl_Ways.f k (Int.tmod t128 61) (wrap64 ((Int.tmod t129 70) - 3))).bind fun t132 => (if (wrap64 ((shl .i64 1 (IntKind.u64.wrap (Int.tmod t128 61))) - t131)) = t132 then ((impl_Ways.f k (Int.tmod t128 61) (wrap64 ((Int.tmod t129 70) - 3))).bind fun t133 => ((spec_Ways.f k (Int.tmod t128 61) (wrap64 ((Int.tmod t129 70) - 3))).bind fun t134 => (some (t133 == t134)))) else (some false)))) else (some false))) else (none)) = some r := H
    have A5 := Aside0.mk A50
    clear A50
    obtain ⟨ji6, hji6⟩ : ∃ j_ : Int, (IntKind.u64.wrap (Int.tmod t128 61)) = j_ := ⟨_, rfl⟩
    replace H : (if 0 ≤ (ji6) then ((impl_Ways.f k (Int.tmod t128 61) (wrap64 (-(Int.tmod t128 61)))).bind fun t130 => (if t130 = (shl .i64 1 (ji6)) then ((impl_Ways.f k (Int.tmod t128 61) (wrap64 (1 - (wrap64 ((Int.tmod t129 70) - 3))))).bind fun t131 => ((impl_Ways.f k (Int.tmod t128 61) (wrap64 ((Int.tmod t129 70) - 3))).bind fun t132 => (if (wrap64 ((shl .i64 1 (ji6)) - t131)) = t132 then ((impl_Ways.f k (Int.tmod t128 61) (wrap64 ((Int.tmod t129 70) - 3))).bind fun t133 => ((spec_Ways.f k (Int.tmod t128 61) (wrap64 ((Int.tmod t129 70) - 3))).bind fun t134 => (some (t133 == t134)))) else (some false)))) else (some false))) else (none)) = some r := by first | (rw [hji6] at H; exact H) | (simp only [hji6] at H ⊢; exact H)
    (try rw [hji6] at A2)
    (try rw [hji6] at A4)
    (try rw [hji6] at A5)
    by_cases c7 : 0 ≤ (ji6)
    · rw [if_pos c7] at H
      have c7b0 := eq_true c7
      have c7b1 : decide (0 ≤ (ji6)) = true := decide_eq_true c7
      clear c7
      obtain ⟨ji8, hji8⟩ : ∃ j_ : Int, (shl .i64 1 (ji6)) = j_ := ⟨_, rfl⟩
      replace H : ((impl_Ways.f k (Int.tmod t128 61) (wrap64 (-(Int.tmod t128 61)))).bind fun t130 => (if t130 = (ji8) then ((impl_Ways.f k (Int.tmod t128 61) (wrap64 (1 - (wrap64 ((Int.tmod t129 70) - 3))))).bind fun t131 => ((impl_Ways.f k (Int.tmod t128 61) (wrap64 ((Int.tmod t129 70) - 3))).bind fun t132 => (if (wrap64 ((ji8) - t131)) = t132 then ((impl_Ways.f k (Int.tmod t128 61) (wrap64 ((Int.tmod t129 70) - 3))).bind fun t133 => ((spec_Ways.f k (Int.tmod t128 61) (wrap64 ((Int.tmod t129 70) - 3))).bind fun t134 => (some (t133 == t134)))) else (some false)))) else (some false))) = some r := by first | (rw [hji8] at H; exact H) | (simp only [hji8] at H ⊢; exact H)
      (try rw [hji8] at A2)
      (try rw [hji8] at A4)
      (try rw [hji8] at A5)
      have hji8_ : (IntKind.i64.wrap (1 * 2 ^ min (ji6).toNat 64)) = ji8 := hji8
      have hji8z : (ji6) ≤ 64 → (IntKind.i64.wrap (1 * 2 ^ (ji6).toNat)) = ji8 := shl_small hji8
      have hji8u : (IntKind.i64.wrap (2 ^ min (ji6).toNat 64)) = ji8 := by have h_ := hji8_; rw [Int.one_mul] at h_; exact h_
      have hji8v : (ji6) ≤ 64 → (IntKind.i64.wrap (2 ^ (ji6).toNat)) = ji8 := fun hle_ => by have h_ := hji8z hle_; rw [Int.one_mul] at h_; exact h_
      have hji8y : (wrap64 (1 * 2 ^ min (ji6).toNat 64)) = ji8 := (i64_w _).symm.trans hji8_
      have hji8x : (ji6) ≤ 64 → (wrap64 (1 * 2 ^ (ji6).toNat)) = ji8 := fun h_ => (i64_w _).symm.trans (hji8z h_)
      replace H := Option.bind_eq_some_iff.mp H
      obtain ⟨t130, A90, H⟩ := H
      replace H : (if t130 = (ji8) then ((impl_Ways.f k (Int.tmod t128 61) (wrap64 (1 - (wrap64 ((Int.tmod t129 70) - 3))))).bind fun t131 => ((impl_Ways.f k (Int.tmod t128 61) (wrap64 ((Int.tmod t129 70) - 3))).bind fun t132 => (if (wrap64 ((ji8) - t131)) = t132 then ((impl_Ways.f k (Int.tmod t128 61) (wrap64 ((Int.tmod t129 70) - 3))).bind fun t133 => ((spec_Ways.f k (Int.tmod t128 61) (wrap64 ((Int.tmod t129 70) - 3))).bind fun t134 => (some (t133 == t134)))) else (some false)))) else (some false)) = some r := H
      have A9 := Aside0.mk A90
      clear A90
      by_cases c10 : t130 = (ji8)
      · rw [if_pos c10] at H
        have c10b0 : (t130 == (ji8)) = true := beq_iff_eq.mpr c10
        have c10b1 : (t130 != (ji8)) = false := bne_eq_false_iff_eq.mpr c10
        clear c10
        replace H := Option.bind_eq_some_iff.mp H
        obtain ⟨t131, A110, H⟩ := H
        replace H : ((impl_Ways.f k (Int.tmod t128 61) (wrap64 ((Int.tmod t129 70) - 3))).bind fun t132 => (if (wrap64 ((ji8) - t131)) = t132 then ((impl_Ways.f k (Int.tmod t128 61) (wrap64 ((Int.tmod t129 70) - 3))).bind fun t133 => ((spec_Ways.f k (Int.tmod t128 61) (wrap64 ((Int.tmod t129 70) - 3))).bind fun t134 => (some (t133 == t134)))) else (some false))) = some r := H
        have A11 := Aside0.mk A110
        clear A110
        replace H := Option.bind_eq_some_iff.mp H
        obtain ⟨t132, A120, H⟩ := H
        replace H : (if (wrap64 ((ji8) - t131)) = t132 then ((impl_Ways.f k (Int.tmod t128 61) (wrap64 ((Int.tmod t129 70) - 3))).bind fun t133 => ((spec_Ways.f k (Int.tmod t128 61) (wrap64 ((Int.tmod t129 70) - 3))).bind fun t134 => (some (t133 == t134)))) else (some false)) = some r := H
        have A12 := Aside0.mk A120
        clear A120
        by_cases c13 : (wrap64 ((ji8) - t131)) = t132
        · rw [if_pos c13] at H
          have c13b0 : ((wrap64 ((ji8) - t131)) == t132) = true := beq_iff_eq.mpr c13
          have c13b1 : ((wrap64 ((ji8) - t131)) != t132) = false := bne_eq_false_iff_eq.mpr c13
          clear c13
          replace H := Option.bind_eq_some_iff.mp H
          obtain ⟨t133, A140, H⟩ := H
          replace H : ((spec_Ways.f k (Int.tmod t128 61) (wrap64 ((Int.tmod t129 70) - 3))).bind fun t134 => (some (t133 == t134))) = some r := H
          have A14 := Aside0.mk A140; obtain rfl : t133 = t132 := Option.some.inj (A14.out.symm.trans A12.out)
          clear A140
          replace H := Option.bind_eq_some_iff.mp H
          obtain ⟨t134, A150, H⟩ := H
          replace H : (some (t133 == t134)) = some r := H
          have A15 := Aside0.mk A150
          clear A150
          obtain rfl := Option.some.inj H
          go_enter Try.func7, Try.ntmps7
          go_wp2_with (first | ((with_reducible refine gate_callee (f := 27) rfl ?_); refine goesL_ (some 7) rfl rfl Try.func27 (by kernel_rfl) rfl #[.slice A0 l0.length c0] rfl (by (try simp only [List.map_toArray, List.map_cons, List.map_nil]); first | done | rfl | (simp only [List.length_drop, List.length_take]; rfl)) ?_; (with_reducible refine (laws_big.calls _ _ l0 false _ ?side1 ?side2 A2.out).mono ?_); (case side1 => repeat (first | exact HR0.out | (with_reducible refine Kd.C_alloc ?_ _) | (with_reducible refine Kd.C_drewN ?_ _) | (with_reducible refine Kd.C_drew ?_))); (case side2 => exact HC0.out); rintro e w' ⟨rfl, ⟨nd, rfl⟩⟩; refine ⟨_, rfl, ?_⟩) | ((with_reducible refine gate_callee (f := 28) rfl ?_); refine goesL_ (some 9) rfl rfl Try.func28 (by kernel_rfl) rfl #[.slice A0 l0.length c0, .int .i64 0] rfl (by (try simp only [List.map_toArray, List.map_cons, List.map_nil]); first | done | rfl | (simp only [List.length_drop, List.length_take]; rfl)) ?_; (with_reducible refine (laws_at.calls _ _ l0 0 t128 _ ?side1 ?side2 A4.out).mono ?_); (case side1 => repeat (first | exact HR0.out | (with_reducible refine Kd.C_alloc ?_ _) | (with_reducible refine Kd.C_drewN ?_ _) | (with_reducible refine Kd.C_drew ?_))); (case side2 => exact HC0.out); rintro e w' ⟨rfl, ⟨nd, rfl⟩⟩; refine ⟨_, rfl, ?_⟩) | ((with_reducible refine gate_callee (f := 28) rfl ?_); refine goesL_ (some 12) rfl rfl Try.func28 (by kernel_rfl) rfl #[.slice A0 l0.length c0, .int .i64 1] rfl (by (try simp only [List.map_toArray, List.map_cons, List.map_nil]); first | done | rfl | (simp only [List.length_drop, List.length_take]; rfl)) ?_; (with_reducible refine (laws_at.calls _ _ l0 1 t129 _ ?side1 ?side2 A5.out).mono ?_); (case side1 => repeat (first | exact HR0.out | (with_reducible refine Kd.C_alloc ?_ _) | (with_reducible refine Kd.C_drewN ?_ _) | (with_reducible refine Kd.C_drew ?_))); (case side2 => exact HC0.out); rintro e w' ⟨rfl, ⟨nd, rfl⟩⟩; refine ⟨_, rfl, ?_⟩) | ((with_reducible refine gate_callee (f := 26) rfl ?_); refine goesL_ (some 21) rfl rfl Try.func26 (by kernel_rfl) rfl #[.int .i64 (Int.tmod t128 61), .int .i64 (wrap64 (-(Int.tmod t128 61)))] rfl (by (try simp only [List.map_toArray, List.map_cons, List.map_nil]); first | done | rfl | (simp only [List.length_drop, List.length_take]; rfl)) ?_; (with_reducible refine (impl_Ways.calls k (Int.tmod t128 61) (wrap64 (-(Int.tmod t128 61))) t130 _ A9.out).mono ?_); rintro e w' ⟨rfl, ⟨nd, rfl⟩⟩; refine ⟨_, rfl, ?_⟩) | (go_at_call 26; (with_reducible refine (impl_Ways.calls k (Int.tmod t128 61) (wrap64 (1 - (wrap64 ((Int.tmod t129 70) - 3)))) t131 _ A11.out).mono ?_); rintro e w' ⟨rfl, ⟨nd, rfl⟩⟩) | (go_at_call 26; (with_reducible refine (impl_Ways.calls k (Int.tmod t128 61) (wrap64 ((Int.tmod t129 70) - 3)) t132 _ A12.out).mono ?_); rintro e w' ⟨rfl, ⟨nd, rfl⟩⟩) | (go_at_call 26; (with_reducible refine (impl_Ways.calls k (Int.tmod t128 61) (wrap64 ((Int.tmod t129 70) - 3)) t133 _ A14.out).mono ?_); rintro e w' ⟨rfl, ⟨nd, rfl⟩⟩) | (go_at_call 25; (with_reducible refine (spec_Ways.calls k (Int.tmod t128 61) (wrap64 ((Int.tmod t129 70) - 3)) t134 _ A15.out).mono ?_); rintro e w16 ⟨rfl, hb⟩; have n0_ := Aside0.mk (below_step (by repeat (first | (with_reducible first | exact HB.out | apply below_alloc | apply pw_below_drewN | apply below_drew1) | exact HB.out)) hb); clear HB; have HB := n0_; clear n0_; (try clear hb); (try clear hb2); (try clear hk); (try clear hi)))
          go_ret
          exact ⟨by first | rfl | (simp [errW_none, errW_some] <;> rfl) | (simp only [← hji6, ← hji8]; first | rfl | (simp [errW_none, errW_some] <;> rfl)) | (simp [*, errW_none, errW_some] <;> rfl), by repeat (first | (with_reducible first | exact HB.out | apply below_alloc | apply pw_below_drewN | apply below_drew1) | exact HB.out)⟩
        · rw [if_neg c13] at H
          have c13b0 : ((wrap64 ((ji8) - t131)) == t132) = false := beq_eq_false_iff_ne.mpr c13
          have c13b1 : ((wrap64 ((ji8) - t131)) != t132) = true := bne_iff_ne.mpr c13
          obtain rfl := Option.some.inj H
          go_enter Try.func7, Try.ntmps7
          go_wp2_with (first | ((with_reducible refine gate_callee (f := 27) rfl ?_); refine goesL_ (some 7) rfl rfl Try.func27 (by kernel_rfl) rfl #[.slice A0 l0.length c0] rfl (by (try simp only [List.map_toArray, List.map_cons, List.map_nil]); first | done | rfl | (simp only [List.length_drop, List.length_take]; rfl)) ?_; (with_reducible refine (laws_big.calls _ _ l0 false _ ?side1 ?side2 A2.out).mono ?_); (case side1 => repeat (first | exact HR0.out | (with_reducible refine Kd.C_alloc ?_ _) | (with_reducible refine Kd.C_drewN ?_ _) | (with_reducible refine Kd.C_drew ?_))); (case side2 => exact HC0.out); rintro e w' ⟨rfl, ⟨nd, rfl⟩⟩; refine ⟨_, rfl, ?_⟩) | ((with_reducible refine gate_callee (f := 28) rfl ?_); refine goesL_ (some 9) rfl rfl Try.func28 (by kernel_rfl) rfl #[.slice A0 l0.length c0, .int .i64 0] rfl (by (try simp only [List.map_toArray, List.map_cons, List.map_nil]); first | done | rfl | (simp only [List.length_drop, List.length_take]; rfl)) ?_; (with_reducible refine (laws_at.calls _ _ l0 0 t128 _ ?side1 ?side2 A4.out).mono ?_); (case side1 => repeat (first | exact HR0.out | (with_reducible refine Kd.C_alloc ?_ _) | (with_reducible refine Kd.C_drewN ?_ _) | (with_reducible refine Kd.C_drew ?_))); (case side2 => exact HC0.out); rintro e w' ⟨rfl, ⟨nd, rfl⟩⟩; refine ⟨_, rfl, ?_⟩) | ((with_reducible refine gate_callee (f := 28) rfl ?_); refine goesL_ (some 12) rfl rfl Try.func28 (by kernel_rfl) rfl #[.slice A0 l0.length c0, .int .i64 1] rfl (by (try simp only [List.map_toArray, List.map_cons, List.map_nil]); first | done | rfl | (simp only [List.length_drop, List.length_take]; rfl)) ?_; (with_reducible refine (laws_at.calls _ _ l0 1 t129 _ ?side1 ?side2 A5.out).mono ?_); (case side1 => repeat (first | exact HR0.out | (with_reducible refine Kd.C_alloc ?_ _) | (with_reducible refine Kd.C_drewN ?_ _) | (with_reducible refine Kd.C_drew ?_))); (case side2 => exact HC0.out); rintro e w' ⟨rfl, ⟨nd, rfl⟩⟩; refine ⟨_, rfl, ?_⟩) | ((with_reducible refine gate_callee (f := 26) rfl ?_); refine goesL_ (some 21) rfl rfl Try.func26 (by kernel_rfl) rfl #[.int .i64 (Int.tmod t128 61), .int .i64 (wrap64 (-(Int.tmod t128 61)))] rfl (by (try simp only [List.map_toArray, List.map_cons, List.map_nil]); first | done | rfl | (simp only [List.length_drop, List.length_take]; rfl)) ?_; (with_reducible refine (impl_Ways.calls k (Int.tmod t128 61) (wrap64 (-(Int.tmod t128 61))) t130 _ A9.out).mono ?_); rintro e w' ⟨rfl, ⟨nd, rfl⟩⟩; refine ⟨_, rfl, ?_⟩) | (go_at_call 26; (with_reducible refine (impl_Ways.calls k (Int.tmod t128 61) (wrap64 (1 - (wrap64 ((Int.tmod t129 70) - 3)))) t131 _ A11.out).mono ?_); rintro e w' ⟨rfl, ⟨nd, rfl⟩⟩) | (go_at_call 26; (with_reducible refine (impl_Ways.calls k (Int.tmod t128 61) (wrap64 ((Int.tmod t129 70) - 3)) t132 _ A12.out).mono ?_); rintro e w' ⟨rfl, ⟨nd, rfl⟩⟩))
          go_ret
          exact ⟨by first | rfl | (simp [errW_none, errW_some] <;> rfl) | (simp only [← hji6, ← hji8]; first | rfl | (simp [errW_none, errW_some] <;> rfl)) | (simp [*, errW_none, errW_some] <;> rfl), by repeat (first | (with_reducible first | exact HB.out | apply below_alloc | apply pw_below_drewN | apply below_drew1) | exact HB.out)⟩
      · rw [if_neg c10] at H
        have c10b0 : (t130 == (ji8)) = false := beq_eq_false_iff_ne.mpr c10
        have c10b1 : (t130 != (ji8)) = true := bne_iff_ne.mpr c10
        obtain rfl := Option.some.inj H
        go_enter Try.func7, Try.ntmps7
        go_wp2_with (first | ((with_reducible refine gate_callee (f := 27) rfl ?_); refine goesL_ (some 7) rfl rfl Try.func27 (by kernel_rfl) rfl #[.slice A0 l0.length c0] rfl (by (try simp only [List.map_toArray, List.map_cons, List.map_nil]); first | done | rfl | (simp only [List.length_drop, List.length_take]; rfl)) ?_; (with_reducible refine (laws_big.calls _ _ l0 false _ ?side1 ?side2 A2.out).mono ?_); (case side1 => repeat (first | exact HR0.out | (with_reducible refine Kd.C_alloc ?_ _) | (with_reducible refine Kd.C_drewN ?_ _) | (with_reducible refine Kd.C_drew ?_))); (case side2 => exact HC0.out); rintro e w' ⟨rfl, ⟨nd, rfl⟩⟩; refine ⟨_, rfl, ?_⟩) | ((with_reducible refine gate_callee (f := 28) rfl ?_); refine goesL_ (some 9) rfl rfl Try.func28 (by kernel_rfl) rfl #[.slice A0 l0.length c0, .int .i64 0] rfl (by (try simp only [List.map_toArray, List.map_cons, List.map_nil]); first | done | rfl | (simp only [List.length_drop, List.length_take]; rfl)) ?_; (with_reducible refine (laws_at.calls _ _ l0 0 t128 _ ?side1 ?side2 A4.out).mono ?_); (case side1 => repeat (first | exact HR0.out | (with_reducible refine Kd.C_alloc ?_ _) | (with_reducible refine Kd.C_drewN ?_ _) | (with_reducible refine Kd.C_drew ?_))); (case side2 => exact HC0.out); rintro e w' ⟨rfl, ⟨nd, rfl⟩⟩; refine ⟨_, rfl, ?_⟩) | ((with_reducible refine gate_callee (f := 28) rfl ?_); refine goesL_ (some 12) rfl rfl Try.func28 (by kernel_rfl) rfl #[.slice A0 l0.length c0, .int .i64 1] rfl (by (try simp only [List.map_toArray, List.map_cons, List.map_nil]); first | done | rfl | (simp only [List.length_drop, List.length_take]; rfl)) ?_; (with_reducible refine (laws_at.calls _ _ l0 1 t129 _ ?side1 ?side2 A5.out).mono ?_); (case side1 => repeat (first | exact HR0.out | (with_reducible refine Kd.C_alloc ?_ _) | (with_reducible refine Kd.C_drewN ?_ _) | (with_reducible refine Kd.C_drew ?_))); (case side2 => exact HC0.out); rintro e w' ⟨rfl, ⟨nd, rfl⟩⟩; refine ⟨_, rfl, ?_⟩) | ((with_reducible refine gate_callee (f := 26) rfl ?_); refine goesL_ (some 21) rfl rfl Try.func26 (by kernel_rfl) rfl #[.int .i64 (Int.tmod t128 61), .int .i64 (wrap64 (-(Int.tmod t128 61)))] rfl (by (try simp only [List.map_toArray, List.map_cons, List.map_nil]); first | done | rfl | (simp only [List.length_drop, List.length_take]; rfl)) ?_; (with_reducible refine (impl_Ways.calls k (Int.tmod t128 61) (wrap64 (-(Int.tmod t128 61))) t130 _ A9.out).mono ?_); rintro e w' ⟨rfl, ⟨nd, rfl⟩⟩; refine ⟨_, rfl, ?_⟩))
        go_ret
        exact ⟨by first | rfl | (simp [errW_none, errW_some] <;> rfl) | (simp only [← hji6, ← hji8]; first | rfl | (simp [errW_none, errW_some] <;> rfl)) | (simp [*, errW_none, errW_some] <;> rfl), by repeat (first | (with_reducible first | exact HB.out | apply below_alloc | apply pw_below_drewN | apply below_drew1) | exact HB.out)⟩
    · rw [if_neg c7] at H
      exact absurd H (by simp)

/-- THE ONE PURE STATEMENT of laws_FnWays: yours. -/
def laws_FnWays.Pure : Prop := ∀ (l0 : List Int), l0.length ≤ maxLen → l0.length * 1 ≤ 140737488351232 → (∀ x ∈ l0, (Lit.int .u8 x).wf = true) → ∃ k, laws_FnWays.f k l0 = some true
theorem laws_FnWays.walk (P : laws_FnWays.Pure) (a0 : Option Addr) (len0 cap0 : Nat) (z0 : List Int) (w : World) (w0 : (a0 = none ∧ len0 = 0 ∧ cap0 = 0 ∧ z0 = []) ∨ ∃ x, a0 = some x ∧ len0 ≤ cap0 ∧ cap0 ≤ maxLen ∧ z0.length = cap0 ∧ (∀ i, i < z0.length → w.cell? (x.add i) = some (.int .u8 (z0.getD i 0))) ∧ ∀ n ∈ z0, (Lit.int .u8 n).wf = true) (y0 : len0 * 1 ≤ 140737488351232) :
    Calls Try.prog 7 #[.slice a0 len0 cap0] w fun e w' => e = .returned (.bool true) ∧ Below w.heap.size w w' := by
  obtain ⟨l0, rfl, hr0, hm0, hw0, hc0⟩ := ReadsInt.ofRowC w0
  obtain ⟨k, h⟩ := P l0 hm0 y0 hw0
  refine (laws_FnWays.calls k _ _ l0 true w (Kd.C_of_reads (d := (0 : Int)) (h1 := fun _ => rfl) hr0) hc0 h).mono ?_
  rintro e w' ⟨rfl, hd⟩
  exact ⟨rfl, hd⟩

end Go.Proofs.Ytonmdhaollhekaa.PFnWays
