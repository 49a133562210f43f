/- The functions that FnHam reaches, each with its walk; written by a program (own.py). -/
import Derived.Test.YtamgllkncpnmiaaQFnHamx0
import Derived.Test.YtamgllkncpnmiaaQFnHamx1
namespace Go.Proofs.Ytamgllkncpnmiaa.PFnHam
open Go.RowKit Go.Proofs.YtamgllkncpnmiaaW.PrintWords Go.Proofs.YtamgllkncpnmiaaW.PrintLast Go.Proofs.YtamgllkncpnmiaaW.PrintMore
attribute [local go_sem] max2_int min2_int max_two min_two max_three min_three max_four min_four   -- for this text's walks alone
set_option linter.unusedVariables false
set_option linter.unusedSimpArgs false

/-! ### laws_FnHam: function 12 -/
def laws_FnHam.l0 : Nat → Int → Int → Int → Int → Int → Int → Int → Int → Int → Int → Int → Int → Option (Bool)
  | 0, _, _, _, _, _, _, _, _, _, _, _, _ => none
  | k + 1, x3, x4, x6, x7, x8, x9, x10, x11, x12, x13, x14, x15 => if x15 > 0 then (laws_FnHam.l0 k x3 x4 x6 x7 x8 x9 x10 x11 x12 x13 (wrap64 (x14 + (Int.tmod x15 2))) (wrap64 (Int.tdiv x15 2))) else (if x8 = x3 then (if x9 = 1 then (if x12 = x3 then (if x13 = 0 then (if x6 = x7 then (if x10 = x3 then (if x11 = 0 then (if ((x3 == x4) == (x14 == 0)) = true then (if x3 = x4 then (some true) else (some (decide (x14 ≥ 4)))) else (some false)) else (some false)) else (some false)) else (if x10 = (-1) then (if x11 = 2 then (if ((x3 == x4) == (x14 == 0)) = true then (if x3 = x4 then (some true) else (some (decide (x14 ≥ 4)))) else (some false)) else (some false)) else (some false))) else (some false)) else (some false)) else (some false)) else (some false))
def laws_FnHam.f (k : Nat) (l0 : List Int) : Option (Bool) := (laws_big.f l0).bind fun t110 => (if t110 = true then (some true) else ((laws_at.f l0 0).bind fun t111 => ((laws_at.f l0 1).bind fun t112 => ((impl_Ham.f k (Int.tmod t111 16)).bind fun t113 => ((laws_at.f l0 2).bind fun t114 => ((laws_at.f l0 3).bind fun t115 => (if 0 ≤ (IntKind.u64.wrap (Int.tmod t114 8)) then ((impl_UnHam.f k (Go.bits .xor .i64 t113 (shl .i64 1 (IntKind.u64.wrap (Int.tmod t114 8))))).bind fun bt116 => (if 0 ≤ (IntKind.u64.wrap (Int.tmod t115 8)) then ((impl_UnHam.f k (Go.bits .xor .i64 (Go.bits .xor .i64 t113 (shl .i64 1 (IntKind.u64.wrap (Int.tmod t114 8)))) (shl .i64 1 (IntKind.u64.wrap (Int.tmod t115 8))))).bind fun bt118 => ((impl_UnHam.f k t113).bind fun bt120 => ((impl_Ham.f k (Int.tmod t112 16)).bind fun t122 => (laws_FnHam.l0 k (Int.tmod t111 16) (Int.tmod t112 16) (Int.tmod t114 8) (Int.tmod t115 8) bt116.1 bt116.2 bt118.1 bt118.2 bt120.1 bt120.2 0 (Go.bits .xor .i64 t113 t122))))) else (none))) else (none))))))))
theorem laws_FnHam.mono_l : ∀ k, (∀ y0 y1 y2 y3 y4 y5 y6 y7 y8 y9 y10 y11, LeO (laws_FnHam.l0 k y0 y1 y2 y3 y4 y5 y6 y7 y8 y9 y10 y11) (laws_FnHam.l0 (k + 1) y0 y1 y2 y3 y4 y5 y6 y7 y8 y9 y10 y11))
  | 0 => fun _ _ _ _ _ _ _ _ _ _ _ _ r h => by simp [laws_FnHam.l0] at h
  | k + 1 => by
    have ih0 := laws_FnHam.mono_l k
    · intro y0 y1 y2 y3 y4 y5 y6 y7 y8 y9 y10 y11
      unfold laws_FnHam.l0
      repeat' first
      | (with_reducible exact ih0 _ _ _ _ _ _ _ _ _ _ _ _)
      | (with_reducible exact impl_Ham.mono _ _)
      | (with_reducible exact impl_UnHam.mono _ _)
      | (with_reducible exact LeO.refl _)
      | (with_reducible exact LeO.none _)
      | (with_reducible refine LeO.ite ?_ ?_)
      | (with_reducible refine LeO.bind ?_ (fun _ => ?_))
      | exact ih0 _ _ _ _ _ _ _ _ _ _ _ _
      | exact impl_Ham.mono _ _
      | exact impl_UnHam.mono _ _
      | exact LeO.none _
      | refine LeO.ite ?_ ?_
      | refine LeO.bind ?_ (fun _ => ?_)
theorem laws_FnHam.mono : ∀ a0 k, LeO (laws_FnHam.f k a0) (laws_FnHam.f (k + 1) a0) := by
  intro a0 k
  have ih0 := laws_FnHam.mono_l k
  unfold laws_FnHam.f
  repeat' first
      | (with_reducible exact ih0 _ _ _ _ _ _ _ _ _ _ _ _)
      | (with_reducible exact impl_Ham.mono _ _)
      | (with_reducible exact impl_UnHam.mono _ _)
      | (with_reducible exact LeO.refl _)
      | (with_reducible exact LeO.none _)
      | (with_reducible refine LeO.ite ?_ ?_)
      | (with_reducible refine LeO.bind ?_ (fun _ => ?_))
      | exact ih0 _ _ _ _ _ _ _ _ _ _ _ _
      | exact impl_Ham.mono _ _
      | exact impl_UnHam.mono _ _
      | exact LeO.none _
      | refine LeO.ite ?_ ?_
      | refine LeO.bind ?_ (fun _ => ?_)
set_option maxHeartbeats 8000000 in
set_option maxRecDepth 100000 in
theorem laws_FnHam.calls (k : Nat) (A0 : Option Addr) (c0 : Nat) (l0 : List Int) (r : Bool) (w : World) (hr0 : Kd.C (Kd.int .u8) w A0 l0.length l0) (hc0 : l0.length ≤ c0) (h : laws_FnHam.f k l0 = some r) :
    Calls Try.prog 12 #[.slice A0 l0.length c0] w fun e w' => e = .returned (.bool r) ∧ Drawn0 w w' := by
  have HR0 := Aside0.mk hr0
  have HC0 := Aside0.mk hc0
  clear hr0 hc0
  have H : ((laws_big.f l0).bind fun t110 => (if t110 = true then (some true) else ((laws_at.f l0 0).bind fun t111 => ((laws_at.f l0 1).bind fun t112 => ((impl_Ham.f k (Int.tmod t111 16)).bind fun t113 => ((laws_at.f l0 2).bind fun t114 => ((laws_at.f l0 3).bind fun t115 => (if 0 ≤ (IntKind.u64.wrap (Int.tmod t114 8)) then ((impl_UnHam.f k (Go.bits .xor .i64 t113 (shl .i64 1 (IntKind.u64.wrap (Int.tmod t114 8))))).bind fun bt116 => (if 0 ≤ (IntKind.u64.wrap (Int.tmod t115 8)) then ((impl_UnHam.f k (Go.bits .xor .i64 (Go.bits .xor .i64 t113 (shl .i64 1 (IntKind.u64.wrap (Int.tmod t114 8)))) (shl .i64 1 (IntKind.u64.wrap (Int.tmod t115 8))))).bind fun bt118 => ((impl_UnHam.f k t113).bind fun bt120 => ((impl_Ham.f k (Int.tmod t112 16)).bind fun t122 => (laws_FnHam.l0 k (Int.tmod t111 16) (Int.tmod t112 16) (Int.tmod t114 8) (Int.tmod t115 8) bt116.1 bt116.2 bt118.1 bt118.2 bt120.1 bt120.2 0 (Go.bits .xor .i64 t113 t122))))) else (none))) else (none))))))))) = some r := h
  clear h
  replace H := Option.bind_eq_some_iff.mp H
  obtain ⟨t110, A20, H⟩ := H
  replace H : (if t110 = true then (some true) else ((laws_at.f l0 0).bind fun t111 => ((laws_at.f l0 1).bind fun t112 => ((impl_Ham.f k (Int.tmod t111 16)).bind fun t113 => ((laws_at.f l0 2).bind fun t114 => ((laws_at.f l0 3).bind fun t115 => (if 0 ≤ (IntKind.u64.wrap (Int.tmod t114 8)) then ((impl_UnHam.f k (Go.bits .xor .i64 t113 (shl .i64 1 (IntKind.u64.wrap (Int.tmod t114 8))))).bind fun bt116 => (if 0 ≤ (IntKind.u64.wrap (Int.tmod t115 8)) then ((impl_UnHam.f k (Go.bits .xor .i64 (Go.bits .xor .i64 t113 (shl .i64 1 (IntKind.u64.wrap (Int.tmod t114 8)))) (shl .i64 1 (IntKind.u64.wrap (Int.tmod t115 8))))).bind fun bt118 => ((impl_UnHam.f k t113).bind fun bt120 => ((impl_Ham.f k (Int.tmod t112 16)).bind fun t122 => (laws_FnHam.l0 k (Int.tmod t111 16) (Int.tmod t112 16) (Int.tmod t114 8) (Int.tmod t115 8) bt116.1 bt116.2 bt118.1 bt118.2 bt120.1 bt120.2 0 (Go.bits .xor .i64 t113 t122))))) else (none))) else (none)))))))) = some r := H
  have A2 := Aside0.mk A20
  clear A20
  by_cases c3 : t110 = true
  · subst c3
    have H1 : (some true) = some r := by rw [if_pos rfl] at H; exact H
    clear H
    have H := H1
    clear H1
    obtain rfl := Option.some.inj H
    go_enter Try.func12, Try.ntmps12
    go_wp2_with (first | ((with_reducible refine gate_callee (f := 19) rfl ?_); refine goesL_ (some 17) rfl rfl Try.func19 (by kernel_rfl) rfl #[.slice A0 l0.length c0] rfl (by (try simp only [List.map_toArray, List.map_cons, List.map_nil]); first | done | rfl | (simp only [List.length_drop, List.length_take]; rfl)) ?_; (with_reducible refine (laws_big.calls _ _ l0 true _ ?side1 ?side2 A2.out).mono ?_); (case side1 => repeat (first | exact HR0.out | (with_reducible refine Kd.C_alloc ?_ _) | (with_reducible refine Kd.C_drewN ?_ _) | (with_reducible refine Kd.C_drew ?_))); (case side2 => exact HC0.out); rintro e w' ⟨rfl, ⟨nd, rfl⟩⟩; refine ⟨_, rfl, ?_⟩))
    all_goals (go_ret; exact ⟨by first | rfl | (simp; done) | (simp [*]; done) | (simp_all; done) | (simp; omega) | (simp_all; omega), by repeat (first | exact Drawn0.refl _ | apply Drawn0.step)⟩)
  · replace c3 := Bool.eq_false_iff.mpr c3
    subst c3
    have H1 : ((laws_at.f l0 0).bind fun t111 => ((laws_at.f l0 1).bind fun t112 => ((impl_Ham.f k (Int.tmod t111 16)).bind fun t113 => ((laws_at.f l0 2).bind fun t114 => ((laws_at.f l0 3).bind fun t115 => (if 0 ≤ (IntKind.u64.wrap (Int.tmod t114 8)) then ((impl_UnHam.f k (Go.bits .xor .i64 t113 (shl .i64 1 (IntKind.u64.wrap (Int.tmod t114 8))))).bind fun bt116 => (if 0 ≤ (IntKind.u64.wrap (Int.tmod t115 8)) then ((impl_UnHam.f k (Go.bits .xor .i64 (Go.bits .xor .i64 t113 (shl .i64 1 (IntKind.u64.wrap (Int.tmod t114 8)))) (shl .i64 1 (IntKind.u64.wrap (Int.tmod t115 8))))).bind fun bt118 => ((impl_UnHam.f k t113).bind fun bt120 => ((impl_Ham.f k (Int.tmod t112 16)).bind fun t122 => (laws_FnHam.l0 k (Int.tmod t111 16) (Int.tmod t112 16) (Int.tmod t114 8) (Int.tmod t115 8) bt116.1 bt116.2 bt118.1 bt118.2 bt120.1 bt120.2 0 (Go.bits .xor .i64 t113 t122))))) else (none))) else (none))))))) = some r := by rw [if_neg (show ¬ (false = true) by decide)] at H; exact H
    clear H
    have H := H1
    clear H1
    replace H := Option.bind_eq_some_iff.mp H
    obtain ⟨t111, A40, H⟩ := H
    replace H : ((laws_at.f l0 1).bind fun t112 => ((impl_Ham.f k (Int.tmod t111 16)).bind fun t113 => ((laws_at.f l0 2).bind fun t114 => ((laws_at.f l0 3).bind fun t115 => (if 0 ≤ (IntKind.u64.wrap (Int.tmod t114 8)) then ((impl_UnHam.f k (Go.bits .xor .i64 t113 (shl .i64 1 (IntKind.u64.wrap (Int.tmod t114 8))))).bind fun bt116 => (if 0 ≤ (IntKind.u64.wrap (Int.tmod t115 8)) then ((impl_UnHam.f k (Go.bits .xor .i64 (Go.bits .xor .i64 t113 (shl .i64 1 (IntKind.u64.wrap (Int.tmod t114 8)))) (shl .i64 1 (IntKind.u64.wrap (Int.tmod t115 8))))).bind fun bt118 => ((impl_UnHam.f k t113).bind fun bt120 => ((impl_Ham.f k (Int.tmod t112 16)).bind fun t122 => (laws_FnHam.l0 k (Int.tmod t111 16) (Int.tmod t112 16) (Int.tmod t114 8) (Int.tmod t115 8) bt116.1 bt116.2 bt118.1 bt118.2 bt120.1 bt120.2 0 (Go.bits .xor .i64 t113 t122))))) else (none))) else (none)))))) = some r := H
    have A4 := Aside0.mk A40
    clear A40
    replace H := Option.bind_eq_some_iff.mp H
    obtain ⟨t112, A50, H⟩ := H
    replace H : ((impl_Ham.f k (Int.tmod t111 16)).bind fun t113 => ((laws_at.f l0 2).bind fun t114 => ((laws_at.f l0 3).bind fun t115 => (if 0 ≤ (IntKind.u64.wrap (Int.tmod t114 8)) then ((impl_UnHam.f k (Go.bits .xor .i64 t113 (shl .i64 1 (IntKind.u64.wrap (Int.tmod t114 8))))).bind fun bt116 => (if 0 ≤ (IntKind.u64.wrap (Int.tmod t115 8)) then ((impl_UnHam.f k (Go.bits .xor .i64 (Go.bits .xor .i64 t113 (shl .i64 1 (IntKind.u64.wrap (Int.tmod t114 8)))) (shl .i64 1 (IntKind.u64.wrap (Int.tmod t115 8))))).bind fun bt118 => ((impl_UnHam.f k t113).bind fun bt120 => ((impl_Ham.f k (Int.tmod t112 16)).bind fun t122 => (laws_FnHam.l0 k (Int.tmod t111 16) (Int.tmod t112 16) (Int.tmod t114 8) (Int.tmod t115 8) bt116.1 bt116.2 bt118.1 bt118.2 bt120.1 bt120.2 0 (Go.bits .xor .i64 t113 t122))))) else (none))) else (none))))) = some r := H
    have A5 := Aside0.mk A50
    clear A50
    replace H := Option.bind_eq_some_iff.mp H
    obtain ⟨t113, A60, H⟩ := H
    replace H : ((laws_at.f l0 2).bind fun t114 => ((laws_at.f l0 3).bind fun t115 => (if 0 ≤ (IntKind.u64.wrap (Int.tmod t114 8)) then ((impl_UnHam.f k (Go.bits .xor .i64 t113 (shl .i64 1 (IntKind.u64.wrap (Int.tmod t114 8))))).bind fun bt116 => (if 0 ≤ (IntKind.u64.wrap (Int.tmod t115 8)) then ((impl_UnHam.f k (Go.bits .xor .i64 (Go.bits .xor .i64 t113 (shl .i64 1 (IntKind.u64.wrap (Int.tmod t114 8)))) (shl .i64 1 (IntKind.u64.wrap (Int.tmod t115 8))))).bind fun bt118 => ((impl_UnHam.f k t113).bind fun bt120 => ((impl_Ham.f k (Int.tmod t112 16)).bind fun t122 => (laws_FnHam.l0 k (Int.tmod t111 16) (Int.tmod t112 16) (Int.tmod t114 8) (Int.tmod t115 8) bt116.1 bt116.2 bt118.1 bt118.2 bt120.1 bt120.2 0 (Go.bits .xor .i64 t113 t122))))) else (none))) else (none)))) = some r := H
    have A6 := Aside0.mk A60
    clear A60
    replace H := Option.bind_eq_some_iff.mp H
    obtain ⟨t114, A70, H⟩ := H
    replace H : ((laws_at.f l0 3).bind fun t115 => (if 0 ≤ (IntKind.u64.wrap (Int.tmod t114 8)) then ((impl_UnHam.f k (Go.bits .xor .i64 t113 (shl .i64 1 (IntKind.u64.wrap (Int.tmod t114 8))))).bind fun bt116 => (if 0 ≤ (IntKind.u64.wrap (Int.tmod t115 8)) then ((impl_UnHam.f k (Go.bits .xor .i64 (Go.bits .xor .i64 t113 (shl .i64 1 (IntKind.u64.wrap (Int.tmod t114 8)))) (shl .i64 1 (IntKind.u64.wrap (Int.tmod t115 8))))).bind fun bt118 => ((impl_UnHam.f k t113).bind fun bt120 => ((impl_Ham.f k (Int.tmod t112 16)).bind fun t122 => (laws_FnHam.l0 k (Int.tmod t111 16) (Int.tmod t112 16) (Int.tmod t114 8) (Int.tmod t115 8) bt116.1 bt116.2 bt118.1 bt118.2 bt120.1 bt120.2 0 (Go.bits .xor .i64 t113 t122))))) else (none))) else (none))) = some r := H
    have A7 := Aside0.mk A70
    clear A70
    replace H := Option.bind_eq_some_iff.mp H
    obtain ⟨t115, A80, H⟩ := H
    replace H : (if 0 ≤ (IntKind.u64.wrap (Int.tmod t114 8)) then ((impl_UnHam.f k (Go.bits .xor .i64 t113 (shl .i64 1 (IntKind.u64.wrap (Int.tmod t114 8))))).bind fun bt116 => (if 0 ≤ (IntKind.u64.wrap (Int.tmod t115 8)) then ((impl_UnHam.f k (Go.bits .xor .i64 (Go.bits .xor .i64 t113 (shl .i64 1 (IntKind.u64.wrap (Int.tmod t114 8)))) (shl .i64 1 (IntKind.u64.wrap (Int.tmod t115 8))))).bind fun bt118 => ((impl_UnHam.f k t113).bind fun bt120 => ((impl_Ham.f k (Int.tmod t112 16)).bind fun t122 => (laws_FnHam.l0 k (Int.tmod t111 16) (Int.tmod t112 16) (Int.tmod t114 8) (Int.tmod t115 8) bt116.1 bt116.2 bt118.1 bt118.2 bt120.1 bt120.2 0 (Go.bits .xor .i64 t113 t122))))) else (none))) else (none)) = some r := H
    have A8 := Aside0.mk A80
    clear A80
    obtain ⟨ji9, hji9⟩ : ∃ j_ : Int, (IntKind.u64.wrap (Int.tmod t114 8)) = j_ := ⟨_, rfl⟩
    replace H : (if 0 ≤ (ji9) then ((impl_UnHam.f k (Go.bits .xor .i64 t113 (shl .i64 1 (ji9)))).bind fun bt116 => (if 0 ≤ (IntKind.u64.wrap (Int.tmod t115 8)) then ((impl_UnHam.f k (Go.bits .xor .i64 (Go.bits .xor .i64 t113 (shl .i64 1 (ji9))) (shl .i64 1 (IntKind.u64.wrap (Int.tmod t115 8))))).bind fun bt118 => ((impl_UnHam.f k t113).bind fun bt120 => ((impl_Ham.f k (Int.tmod t112 16)).bind fun t122 => (laws_FnHam.l0 k (Int.tmod t111 16) (Int.tmod t112 16) (Int.tmod t114 8) (Int.tmod t115 8) bt116.1 bt116.2 bt118.1 bt118.2 bt120.1 bt120.2 0 (Go.bits .xor .i64 t113 t122))))) else (none))) else (none)) = some r := by first | (rw [hji9] at H; exact H) | (simp only [hji9] at H ⊢; exact H)
    (try rw [hji9] at A2)
    (try rw [hji9] at A4)
    (try rw [hji9] at A5)
    (try rw [hji9] at A6)
    (try rw [hji9] at A7)
    (try rw [hji9] at A8)
    by_cases c10 : 0 ≤ (ji9)
    · rw [if_pos c10] at H
      have c10b0 := eq_true c10
      have c10b1 : decide (0 ≤ (ji9)) = true := decide_eq_true c10
      clear c10
      obtain ⟨ji11, hji11⟩ : ∃ j_ : Int, (shl .i64 1 (ji9)) = j_ := ⟨_, rfl⟩
      replace H : ((impl_UnHam.f k (Go.bits .xor .i64 t113 (ji11))).bind fun bt116 => (if 0 ≤ (IntKind.u64.wrap (Int.tmod t115 8)) then ((impl_UnHam.f k (Go.bits .xor .i64 (Go.bits .xor .i64 t113 (ji11)) (shl .i64 1 (IntKind.u64.wrap (Int.tmod t115 8))))).bind fun bt118 => ((impl_UnHam.f k t113).bind fun bt120 => ((impl_Ham.f k (Int.tmod t112 16)).bind fun t122 => (laws_FnHam.l0 k (Int.tmod t111 16) (Int.tmod t112 16) (Int.tmod t114 8) (Int.tmod t115 8) bt116.1 bt116.2 bt118.1 bt118.2 bt120.1 bt120.2 0 (Go.bits .xor .i64 t113 t122))))) else (none))) = some r := by first | (rw [hji11] at H; exact H) | (simp only [hji11] at H ⊢; exact H)
      (try rw [hji11] at A2)
      (try rw [hji11] at A4)
      (try rw [hji11] at A5)
      (try rw [hji11] at A6)
      (try rw [hji11] at A7)
      (try rw [hji11] at A8)
      have hji11_ : (IntKind.i64.wrap (1 * 2 ^ min (ji9).toNat 64)) = ji11 := hji11
      have hji11z : (ji9) ≤ 64 → (IntKind.i64.wrap (1 * 2 ^ (ji9).toNat)) = ji11 := shl_small hji11
      have hji11u : (IntKind.i64.wrap (2 ^ min (ji9).toNat 64)) = ji11 := by have h_ := hji11_; rw [Int.one_mul] at h_; exact h_
      have hji11v : (ji9) ≤ 64 → (IntKind.i64.wrap (2 ^ (ji9).toNat)) = ji11 := fun hle_ => by have h_ := hji11z hle_; rw [Int.one_mul] at h_; exact h_
      have hji11y : (wrap64 (1 * 2 ^ min (ji9).toNat 64)) = ji11 := (i64_w _).symm.trans hji11_
      have hji11x : (ji9) ≤ 64 → (wrap64 (1 * 2 ^ (ji9).toNat)) = ji11 := fun h_ => (i64_w _).symm.trans (hji11z h_)
      replace H := Option.bind_eq_some_iff.mp H
      obtain ⟨⟨t116, t117⟩, A120, H⟩ := H
      replace H : (if 0 ≤ (IntKind.u64.wrap (Int.tmod t115 8)) then ((impl_UnHam.f k (Go.bits .xor .i64 (Go.bits .xor .i64 t113 (ji11)) (shl .i64 1 (IntKind.u64.wrap (Int.tmod t115 8))))).bind fun bt118 => ((impl_UnHam.f k t113).bind fun bt120 => ((impl_Ham.f k (Int.tmod t112 16)).bind fun t122 => (laws_FnHam.l0 k (Int.tmod t111 16) (Int.tmod t112 16) (Int.tmod t114 8) (Int.tmod t115 8) t116 t117 bt118.1 bt118.2 bt120.1 bt120.2 0 (Go.bits .xor .i64 t113 t122))))) else (none)) = some r := H
      have A12 := Aside0.mk A120
      clear A120
      have c13b0 := eq_true (of_decide_eq_true (by first | (with_reducible assumption) | assumption) : 0 ≤ (ji9))
      obtain ⟨ji15, hji15⟩ : ∃ j_ : Int, (IntKind.u64.wrap (Int.tmod t115 8)) = j_ := ⟨_, rfl⟩
      replace H : (if 0 ≤ (ji15) then ((impl_UnHam.f k (Go.bits .xor .i64 (Go.bits .xor .i64 t113 (ji11)) (shl .i64 1 (ji15)))).bind fun bt118 => ((impl_UnHam.f k t113).bind fun bt120 => ((impl_Ham.f k (Int.tmod t112 16)).bind fun t122 => (laws_FnHam.l0 k (Int.tmod t111 16) (Int.tmod t112 16) (Int.tmod t114 8) (Int.tmod t115 8) t116 t117 bt118.1 bt118.2 bt120.1 bt120.2 0 (Go.bits .xor .i64 t113 t122))))) else (none)) = some r := by first | (rw [hji15] at H; exact H) | (simp only [hji15] at H ⊢; exact H)
      (try rw [hji15] at A2)
      (try rw [hji15] at A4)
      (try rw [hji15] at A5)
      (try rw [hji15] at A6)
      (try rw [hji15] at A7)
      (try rw [hji15] at A8)
      (try rw [hji15] at A12)
      by_cases c16 : 0 ≤ (ji15)
      · rw [if_pos c16] at H
        have c16b0 := eq_true c16
        have c16b1 : decide (0 ≤ (ji15)) = true := decide_eq_true c16
        clear c16
        obtain ⟨ji17, hji17⟩ : ∃ j_ : Int, (shl .i64 1 (ji15)) = j_ := ⟨_, rfl⟩
        replace H : ((impl_UnHam.f k (Go.bits .xor .i64 (Go.bits .xor .i64 t113 (ji11)) (ji17))).bind fun bt118 => ((impl_UnHam.f k t113).bind fun bt120 => ((impl_Ham.f k (Int.tmod t112 16)).bind fun t122 => (laws_FnHam.l0 k (Int.tmod t111 16) (Int.tmod t112 16) (Int.tmod t114 8) (Int.tmod t115 8) t116 t117 bt118.1 bt118.2 bt120.1 bt120.2 0 (Go.bits .xor .i64 t113 t122))))) = some r := by first | (rw [hji17] at H; exact H) | (simp only [hji17] at H ⊢; exact H)
        (try rw [hji17] at A2)
        (try rw [hji17] at A4)
        (try rw [hji17] at A5)
        (try rw [hji17] at A6)
        (try rw [hji17] at A7)
        (try rw [hji17] at A8)
        (try rw [hji17] at A12)
        have hji17_ : (IntKind.i64.wrap (1 * 2 ^ min (ji15).toNat 64)) = ji17 := hji17
        have hji17z : (ji15) ≤ 64 → (IntKind.i64.wrap (1 * 2 ^ (ji15).toNat)) = ji17 := shl_small hji17
        have hji17u : (IntKind.i64.wrap (2 ^ min (ji15).toNat 64)) = ji17 := by have h_ := hji17_; rw [Int.one_mul] at h_; exact h_
        have hji17v : (ji15) ≤ 64 → (IntKind.i64.wrap (2 ^ (ji15).toNat)) = ji17 := fun hle_ => by have h_ := hji17z hle_; rw [Int.one_mul] at h_; exact h_
        have hji17y : (wrap64 (1 * 2 ^ min (ji15).toNat 64)) = ji17 := (i64_w _).symm.trans hji17_
        have hji17x : (ji15) ≤ 64 → (wrap64 (1 * 2 ^ (ji15).toNat)) = ji17 := fun h_ => (i64_w _).symm.trans (hji17z h_)
        replace H := Option.bind_eq_some_iff.mp H
        obtain ⟨⟨t118, t119⟩, A180, H⟩ := H
        replace H : ((impl_UnHam.f k t113).bind fun bt120 => ((impl_Ham.f k (Int.tmod t112 16)).bind fun t122 => (laws_FnHam.l0 k (Int.tmod t111 16) (Int.tmod t112 16) (Int.tmod t114 8) (Int.tmod t115 8) t116 t117 t118 t119 bt120.1 bt120.2 0 (Go.bits .xor .i64 t113 t122)))) = some r := H
        have A18 := Aside0.mk A180
        clear A180
        replace H := Option.bind_eq_some_iff.mp H
        obtain ⟨⟨t120, t121⟩, A190, H⟩ := H
        replace H : ((impl_Ham.f k (Int.tmod t112 16)).bind fun t122 => (laws_FnHam.l0 k (Int.tmod t111 16) (Int.tmod t112 16) (Int.tmod t114 8) (Int.tmod t115 8) t116 t117 t118 t119 t120 t121 0 (Go.bits .xor .i64 t113 t122))) = some r := H
        have A19 := Aside0.mk A190
        clear A190
        replace H := Option.bind_eq_some_iff.mp H
        obtain ⟨t122, A200, H⟩ := H
        replace H : (laws_FnHam.l0 k (Int.tmod t111 16) (Int.tmod t112 16) (Int.tmod t114 8) (Int.tmod t115 8) t116 t117 t118 t119 t120 t121 0 (Go.bits .xor .i64 t113 t122)) = some r := H
        have A20 := Aside0.mk A200
        clear A200
        have H' := Aside0.mk H
        clear H
        go_enter Try.func12, Try.ntmps12
        go_wp2_with (first | ((with_reducible refine gate_callee (f := 19) rfl ?_); refine goesL_ (some 17) rfl rfl Try.func19 (by kernel_rfl) rfl #[.slice A0 l0.length c0] rfl (by (try simp only [List.map_toArray, List.map_cons, List.map_nil]); first | done | rfl | (simp only [List.length_drop, List.length_take]; rfl)) ?_; (with_reducible refine (laws_big.calls _ _ l0 false _ ?side1 ?side2 A2.out).mono ?_); (case side1 => repeat (first | exact HR0.out | (with_reducible refine Kd.C_alloc ?_ _) | (with_reducible refine Kd.C_drewN ?_ _) | (with_reducible refine Kd.C_drew ?_))); (case side2 => exact HC0.out); rintro e w' ⟨rfl, ⟨nd, rfl⟩⟩; refine ⟨_, rfl, ?_⟩) | ((with_reducible refine gate_callee (f := 20) rfl ?_); refine goesL_ (some 19) rfl rfl Try.func20 (by kernel_rfl) rfl #[.slice A0 l0.length c0, .int .i64 0] rfl (by (try simp only [List.map_toArray, List.map_cons, List.map_nil]); first | done | rfl | (simp only [List.length_drop, List.length_take]; rfl)) ?_; (with_reducible refine (laws_at.calls _ _ l0 0 t111 _ ?side1 ?side2 A4.out).mono ?_); (case side1 => repeat (first | exact HR0.out | (with_reducible refine Kd.C_alloc ?_ _) | (with_reducible refine Kd.C_drewN ?_ _) | (with_reducible refine Kd.C_drew ?_))); (case side2 => exact HC0.out); rintro e w' ⟨rfl, ⟨nd, rfl⟩⟩; refine ⟨_, rfl, ?_⟩) | ((with_reducible refine gate_callee (f := 20) rfl ?_); refine goesL_ (some 22) rfl rfl Try.func20 (by kernel_rfl) rfl #[.slice A0 l0.length c0, .int .i64 1] rfl (by (try simp only [List.map_toArray, List.map_cons, List.map_nil]); first | done | rfl | (simp only [List.length_drop, List.length_take]; rfl)) ?_; (with_reducible refine (laws_at.calls _ _ l0 1 t112 _ ?side1 ?side2 A5.out).mono ?_); (case side1 => repeat (first | exact HR0.out | (with_reducible refine Kd.C_alloc ?_ _) | (with_reducible refine Kd.C_drewN ?_ _) | (with_reducible refine Kd.C_drew ?_))); (case side2 => exact HC0.out); rintro e w' ⟨rfl, ⟨nd, rfl⟩⟩; refine ⟨_, rfl, ?_⟩) | ((with_reducible refine gate_callee (f := 35) rfl ?_); refine goesL_ (some 25) rfl rfl Try.func35 (by kernel_rfl) rfl #[.int .i64 (Int.tmod t111 16)] rfl (by (try simp only [List.map_toArray, List.map_cons, List.map_nil]); first | done | rfl | (simp only [List.length_drop, List.length_take]; rfl)) ?_; (with_reducible refine (impl_Ham.calls k (Int.tmod t111 16) t113 _ A6.out).mono ?_); rintro e w' ⟨rfl, ⟨nd, rfl⟩⟩; refine ⟨_, rfl, ?_⟩) | ((with_reducible refine gate_callee (f := 20) rfl ?_); refine goesL_ (some 27) rfl rfl Try.func20 (by kernel_rfl) rfl #[.slice A0 l0.length c0, .int .i64 2] rfl (by (try simp only [List.map_toArray, List.map_cons, List.map_nil]); first | done | rfl | (simp only [List.length_drop, List.length_take]; rfl)) ?_; (with_reducible refine (laws_at.calls _ _ l0 2 t114 _ ?side1 ?side2 A7.out).mono ?_); (case side1 => repeat (first | exact HR0.out | (with_reducible refine Kd.C_alloc ?_ _) | (with_reducible refine Kd.C_drewN ?_ _) | (with_reducible refine Kd.C_drew ?_))); (case side2 => exact HC0.out); rintro e w' ⟨rfl, ⟨nd, rfl⟩⟩; refine ⟨_, rfl, ?_⟩) | ((with_reducible refine gate_callee (f := 20) rfl ?_); refine goesL_ (some 30) rfl rfl Try.func20 (by kernel_rfl) rfl #[.slice A0 l0.length c0, .int .i64 3] rfl (by (try simp only [List.map_toArray, List.map_cons, List.map_nil]); first | done | rfl | (simp only [List.length_drop, List.length_take]; rfl)) ?_; (with_reducible refine (laws_at.calls _ _ l0 3 t115 _ ?side1 ?side2 A8.out).mono ?_); (case side1 => repeat (first | exact HR0.out | (with_reducible refine Kd.C_alloc ?_ _) | (with_reducible refine Kd.C_drewN ?_ _) | (with_reducible refine Kd.C_drew ?_))); (case side2 => exact HC0.out); rintro e w' ⟨rfl, ⟨nd, rfl⟩⟩; refine ⟨_, rfl, ?_⟩) | ((with_reducible refine gate_callee (f := 36) rfl ?_); refine goesL_ (some 38) rfl rfl Try.func36 (by kernel_rfl) rfl #[.int .i64 (Go.bits .xor .i64 t113 (ji11))] rfl (by (try simp only [List.map_toArray, List.map_cons, List.map_nil]); first | done | (simp only [hji11]; rfl) | rfl | (simp only [List.length_drop, List.length_take]; rfl)) ?_; (with_reducible refine (impl_UnHam.calls k (Go.bits .xor .i64 t113 (ji11)) t116 t117 _ A12.out).mono ?_); rintro e w' ⟨rfl, ⟨nd, rfl⟩⟩; refine ⟨_, rfl, ?_⟩) | ((with_reducible refine gate_callee (f := 36) rfl ?_); refine goesL_ (some 51) rfl rfl Try.func36 (by kernel_rfl) rfl #[.int .i64 (Go.bits .xor .i64 (Go.bits .xor .i64 t113 (ji11)) (ji17))] rfl (by (try simp only [List.map_toArray, List.map_cons, List.map_nil]); first | done | (simp only [hji11, hji17]; rfl) | rfl | (simp only [List.length_drop, List.length_take]; rfl)) ?_; (with_reducible refine (impl_UnHam.calls k (Go.bits .xor .i64 (Go.bits .xor .i64 t113 (ji11)) (ji17)) t118 t119 _ A18.out).mono ?_); rintro e w' ⟨rfl, ⟨nd, rfl⟩⟩; refine ⟨_, rfl, ?_⟩) | ((with_reducible refine gate_callee (f := 36) rfl ?_); refine goesL_ (some 56) rfl rfl Try.func36 (by kernel_rfl) rfl #[.int .i64 t113] rfl (by (try simp only [List.map_toArray, List.map_cons, List.map_nil]); first | done | rfl | (simp only [List.length_drop, List.length_take]; rfl)) ?_; (with_reducible refine (impl_UnHam.calls k t113 t120 t121 _ A19.out).mono ?_); rintro e w' ⟨rfl, ⟨nd, rfl⟩⟩; refine ⟨_, rfl, ?_⟩) | ((with_reducible refine gate_callee (f := 35) rfl ?_); refine goesL_ (some 61) rfl rfl Try.func35 (by kernel_rfl) rfl #[.int .i64 (Int.tmod t112 16)] rfl (by (try simp only [List.map_toArray, List.map_cons, List.map_nil]); first | done | rfl | (simp only [List.length_drop, List.length_take]; rfl)) ?_; (with_reducible refine (impl_Ham.calls k (Int.tmod t112 16) t122 _ A20.out).mono ?_); rintro e w' ⟨rfl, ⟨nd, rfl⟩⟩; refine ⟨_, rfl, ?_⟩))
        go_loopg [14, 15] k (fun kq v14 v15 w' => ∃ (x14_1 : Int) (x15_1 : Int), v14 = .int .i64 x14_1 ∧ v15 = .int .i64 x15_1 ∧ Aside0 (laws_FnHam.l0 kq (Int.tmod t111 16) (Int.tmod t112 16) (Int.tmod t114 8) (Int.tmod t115 8) t116 t117 t118 t119 t120 t121 x14_1 x15_1 = some r) ∧ Aside0 (kq ≤ k) ∧ Drawn0 w w')
        case atStart => exact ⟨(0), (Go.bits .xor .i64 t113 t122), (by first | rfl | (simp; done) | (simp [*]; done)), (by first | rfl | (simp; done) | (simp [*]; done)), H', ⟨Nat.le_refl _⟩, by repeat (first | exact Drawn0.refl _ | apply Drawn0.step)⟩
        case round =>
          clear H'
          try clear c1
          try clear c2
          try clear p2
          try clear c3
          try clear p6
          try clear c10
          try clear c10b0
          try clear c10b1
          try clear c12
          try clear c13
          try clear c13b0
          try clear c14
          try clear c14b0
          try clear c16
          try clear c16b0
          try clear c16b1
          try clear c19
          try clear c20
          obtain ⟨x14_1, x15_1, rfl, rfl, HA, HK1, ⟨m1, rfl⟩⟩ := hrel
          cases gk with
          | zero => exact absurd HA.out (by simp [laws_FnHam.l0])
          | succ k1 =>
            have H := HA.out
            clear HA
            simp only [laws_FnHam.l0] at H
            by_cases c21 : x15_1 > 0
            · rw [if_pos c21] at H
              have c21b0 : decide (0 < x15_1) = true := decide_eq_true c21
              clear c21
              have H' := Aside0.mk H
              clear H
              go_wp2
              go_roundg k1
              case measure => have := HK1.out; omega
              case rel => exact ⟨(wrap64 (x14_1 + (Int.tmod x15_1 2))), (wrap64 (Int.tdiv x15_1 2)), (by first | rfl | (simp; done) | (simp [*]; done)), (by first | rfl | (simp; done) | (simp [*]; done)), H', ⟨by have := HK1.out; omega⟩, by repeat (first | exact Drawn0.refl _ | apply Drawn0.step)⟩
            · rw [if_neg c21] at H
              have c21b0 : decide (0 < x15_1) = false := decide_eq_false c21
              clear c21
              by_cases c22 : t116 = (Int.tmod t111 16)
              · rw [if_pos c22] at H
                have c22b0 : (t116 == (Int.tmod t111 16)) = true := beq_iff_eq.mpr c22
                have c22b1 : (t116 != (Int.tmod t111 16)) = false := bne_eq_false_iff_eq.mpr c22
                clear c22
                by_cases c23 : t117 = 1
                · rw [if_pos c23] at H
                  have c23b0 : (t117 == 1) = true := beq_iff_eq.mpr c23
                  have c23b1 : (t117 != 1) = false := bne_eq_false_iff_eq.mpr c23
                  clear c23
                  by_cases c24 : t120 = (Int.tmod t111 16)
                  · rw [if_pos c24] at H
                    have c24b0 : (t120 == (Int.tmod t111 16)) = true := beq_iff_eq.mpr c24
                    have c24b1 : (t120 != (Int.tmod t111 16)) = false := bne_eq_false_iff_eq.mpr c24
                    clear c24
                    by_cases c25 : t121 = 0
                    · rw [if_pos c25] at H
                      have c25b0 : (t121 == 0) = true := beq_iff_eq.mpr c25
                      have c25b1 : (t121 != 0) = false := bne_eq_false_iff_eq.mpr c25
                      clear c25
                      by_cases c26 : (Int.tmod t114 8) = (Int.tmod t115 8)
                      · rw [if_pos c26] at H
                        have c26b0 : ((Int.tmod t114 8) == (Int.tmod t115 8)) = true := beq_iff_eq.mpr c26
                        have c26b1 : ((Int.tmod t114 8) != (Int.tmod t115 8)) = false := bne_eq_false_iff_eq.mpr c26
                        clear c26
                        by_cases c27 : t118 = (Int.tmod t111 16)
                        · rw [if_pos c27] at H
                          have c27b0 : (t118 == (Int.tmod t111 16)) = true := beq_iff_eq.mpr c27
                          have c27b1 : (t118 != (Int.tmod t111 16)) = false := bne_eq_false_iff_eq.mpr c27
                          clear c27
                          by_cases c28 : t119 = 0
                          · rw [if_pos c28] at H
                            have c28b0 : (t119 == 0) = true := beq_iff_eq.mpr c28
                            have c28b1 : (t119 != 0) = false := bne_eq_false_iff_eq.mpr c28
                            clear c28
                            by_cases c29 : (((Int.tmod t111 16) == (Int.tmod t112 16)) == (x14_1 == 0)) = true
                            · rw [if_pos c29] at H
                              have c29b0 : (((Int.tmod t111 16) == (Int.tmod t112 16)) == (x14_1 == 0)) = true := c29
                              (try (have c29b1 : decide (((Int.tmod t111 16) == (Int.tmod t112 16)) = (x14_1 == 0)) = true := by simpa using c29))
                              (try (have c29b2 : (((Int.tmod t111 16) == (Int.tmod t112 16)) == (x14_1 == 0)) = true := by simpa using c29))
                              clear c29
                              by_cases c30 : (Int.tmod t111 16) = (Int.tmod t112 16)
                              · rw [if_pos c30] at H
                                have c30b0 : ((Int.tmod t111 16) == (Int.tmod t112 16)) = true := beq_iff_eq.mpr c30
                                have c30b1 : ((Int.tmod t111 16) != (Int.tmod t112 16)) = false := bne_eq_false_iff_eq.mpr c30
                                clear c30
                                obtain rfl := Option.some.inj H
                                go_wp2
                                all_goals (go_ret; exact ⟨by first | rfl | (simp; done) | (simp only [← hji9, ← hji11, ← hji15, ← hji17] <;> (first | rfl | (simp; done))) | (simp [*]; done) | (simp_all; done) | (simp; omega) | (simp_all; omega), by repeat (first | exact Drawn0.refl _ | apply Drawn0.step)⟩)
                              · rw [if_neg c30] at H
                                have c30b0 : ((Int.tmod t111 16) == (Int.tmod t112 16)) = false := beq_eq_false_iff_ne.mpr c30
                                have c30b1 : ((Int.tmod t111 16) != (Int.tmod t112 16)) = true := bne_iff_ne.mpr c30
                                obtain rfl := Option.some.inj H
                                go_wp2
                                all_goals (go_ret; exact ⟨by first | rfl | (simp; done) | (simp only [← hji9, ← hji11, ← hji15, ← hji17] <;> (first | rfl | (simp; done))) | (simp [*]; done) | (simp_all; done) | (simp; omega) | (simp_all; omega), by repeat (first | exact Drawn0.refl _ | apply Drawn0.step)⟩)
                            · rw [if_neg c29] at H
                              have c29b0 : (((Int.tmod t111 16) == (Int.tmod t112 16)) == (x14_1 == 0)) = false := by simpa using c29
                              (try (have c29b1 : decide (((Int.tmod t111 16) == (Int.tmod t112 16)) = (x14_1 == 0)) = false := by simpa using c29))
                              (try (have c29b2 : (((Int.tmod t111 16) == (Int.tmod t112 16)) == (x14_1 == 0)) = false := by simpa using c29))
                              (try (have c29b3 : ¬ (((Int.tmod t111 16) == (Int.tmod t112 16)) = (x14_1 == 0)) := by simpa using c29))
                              clear c29
                              obtain rfl := Option.some.inj H
                              go_wp2
                              all_goals (go_ret; exact ⟨by first | rfl | (simp; done) | (simp only [← hji9, ← hji11, ← hji15, ← hji17] <;> (first | rfl | (simp; done))) | (simp [*]; done) | (simp_all; done) | (simp; omega) | (simp_all; omega), by repeat (first | exact Drawn0.refl _ | apply Drawn0.step)⟩)
                          · rw [if_neg c28] at H
                            have c28b0 : (t119 == 0) = false := beq_eq_false_iff_ne.mpr c28
                            have c28b1 : (t119 != 0) = true := bne_iff_ne.mpr c28
                            obtain rfl := Option.some.inj H
                            go_wp2
                            all_goals (go_ret; exact ⟨by first | rfl | (simp; done) | (simp only [← hji9, ← hji11, ← hji15, ← hji17] <;> (first | rfl | (simp; done))) | (simp [*]; done) | (simp_all; done) | (simp; omega) | (simp_all; omega), by repeat (first | exact Drawn0.refl _ | apply Drawn0.step)⟩)
                        · rw [if_neg c27] at H
                          have c27b0 : (t118 == (Int.tmod t111 16)) = false := beq_eq_false_iff_ne.mpr c27
                          have c27b1 : (t118 != (Int.tmod t111 16)) = true := bne_iff_ne.mpr c27
                          obtain rfl := Option.some.inj H
                          go_wp2
                          all_goals (go_ret; exact ⟨by first | rfl | (simp; done) | (simp only [← hji9, ← hji11, ← hji15, ← hji17] <;> (first | rfl | (simp; done))) | (simp [*]; done) | (simp_all; done) | (simp; omega) | (simp_all; omega), by repeat (first | exact Drawn0.refl _ | apply Drawn0.step)⟩)
                      · rw [if_neg c26] at H
                        have c26b0 : ((Int.tmod t114 8) == (Int.tmod t115 8)) = false := beq_eq_false_iff_ne.mpr c26
                        have c26b1 : ((Int.tmod t114 8) != (Int.tmod t115 8)) = true := bne_iff_ne.mpr c26
                        by_cases c31 : t118 = (-1)
                        · rw [if_pos c31] at H
                          have c31b0 : (t118 == (-1)) = true := beq_iff_eq.mpr c31
                          have c31b1 : (t118 != (-1)) = false := bne_eq_false_iff_eq.mpr c31
                          clear c31
                          by_cases c32 : t119 = 2
                          · rw [if_pos c32] at H
                            have c32b0 : (t119 == 2) = true := beq_iff_eq.mpr c32
                            have c32b1 : (t119 != 2) = false := bne_eq_false_iff_eq.mpr c32
                            clear c32
                            by_cases c33 : (((Int.tmod t111 16) == (Int.tmod t112 16)) == (x14_1 == 0)) = true
                            · rw [if_pos c33] at H
                              have c33b0 : (((Int.tmod t111 16) == (Int.tmod t112 16)) == (x14_1 == 0)) = true := c33
                              (try (have c33b1 : decide (((Int.tmod t111 16) == (Int.tmod t112 16)) = (x14_1 == 0)) = true := by simpa using c33))
                              (try (have c33b2 : (((Int.tmod t111 16) == (Int.tmod t112 16)) == (x14_1 == 0)) = true := by simpa using c33))
                              clear c33
                              by_cases c34 : (Int.tmod t111 16) = (Int.tmod t112 16)
                              · rw [if_pos c34] at H
                                have c34b0 : ((Int.tmod t111 16) == (Int.tmod t112 16)) = true := beq_iff_eq.mpr c34
                                have c34b1 : ((Int.tmod t111 16) != (Int.tmod t112 16)) = false := bne_eq_false_iff_eq.mpr c34
                                clear c34
                                obtain rfl := Option.some.inj H
                                go_wp2
                                all_goals (go_ret; exact ⟨by first | rfl | (simp; done) | (simp only [← hji9, ← hji11, ← hji15, ← hji17] <;> (first | rfl | (simp; done))) | (simp [*]; done) | (simp_all; done) | (simp; omega) | (simp_all; omega), by repeat (first | exact Drawn0.refl _ | apply Drawn0.step)⟩)
                              · rw [if_neg c34] at H
                                have c34b0 : ((Int.tmod t111 16) == (Int.tmod t112 16)) = false := beq_eq_false_iff_ne.mpr c34
                                have c34b1 : ((Int.tmod t111 16) != (Int.tmod t112 16)) = true := bne_iff_ne.mpr c34
                                obtain rfl := Option.some.inj H
                                go_wp2
                                all_goals (go_ret; exact ⟨by first | rfl | (simp; done) | (simp only [← hji9, ← hji11, ← hji15, ← hji17] <;> (first | rfl | (simp; done))) | (simp [*]; done) | (simp_all; done) | (simp; omega) | (simp_all; omega), by repeat (first | exact Drawn0.refl _ | apply Drawn0.step)⟩)
                            · rw [if_neg c33] at H
                              have c33b0 : (((Int.tmod t111 16) == (Int.tmod t112 16)) == (x14_1 == 0)) = false := by simpa using c33
                              (try (have c33b1 : decide (((Int.tmod t111 16) == (Int.tmod t112 16)) = (x14_1 == 0)) = false := by simpa using c33))
                              (try (have c33b2 : (((Int.tmod t111 16) == (Int.tmod t112 16)) == (x14_1 == 0)) = false := by simpa using c33))
                              (try (have c33b3 : ¬ (((Int.tmod t111 16) == (Int.tmod t112 16)) = (x14_1 == 0)) := by simpa using c33))
                              clear c33
                              obtain rfl := Option.some.inj H
                              go_wp2
                              all_goals (go_ret; exact ⟨by first | rfl | (simp; done) | (simp only [← hji9, ← hji11, ← hji15, ← hji17] <;> (first | rfl | (simp; done))) | (simp [*]; done) | (simp_all; done) | (simp; omega) | (simp_all; omega), by repeat (first | exact Drawn0.refl _ | apply Drawn0.step)⟩)
                          · rw [if_neg c32] at H
                            have c32b0 : (t119 == 2) = false := beq_eq_false_iff_ne.mpr c32
                            have c32b1 : (t119 != 2) = true := bne_iff_ne.mpr c32
                            obtain rfl := Option.some.inj H
                            go_wp2
                            all_goals (go_ret; exact ⟨by first | rfl | (simp; done) | (simp only [← hji9, ← hji11, ← hji15, ← hji17] <;> (first | rfl | (simp; done))) | (simp [*]; done) | (simp_all; done) | (simp; omega) | (simp_all; omega), by repeat (first | exact Drawn0.refl _ | apply Drawn0.step)⟩)
                        · rw [if_neg c31] at H
                          have c31b0 : (t118 == (-1)) = false := beq_eq_false_iff_ne.mpr c31
                          have c31b1 : (t118 != (-1)) = true := bne_iff_ne.mpr c31
                          obtain rfl := Option.some.inj H
                          go_wp2
                          all_goals (go_ret; exact ⟨by first | rfl | (simp; done) | (simp only [← hji9, ← hji11, ← hji15, ← hji17] <;> (first | rfl | (simp; done))) | (simp [*]; done) | (simp_all; done) | (simp; omega) | (simp_all; omega), by repeat (first | exact Drawn0.refl _ | apply Drawn0.step)⟩)
                    · rw [if_neg c25] at H
                      have c25b0 : (t121 == 0) = false := beq_eq_false_iff_ne.mpr c25
                      have c25b1 : (t121 != 0) = true := bne_iff_ne.mpr c25
                      obtain rfl := Option.some.inj H
                      go_wp2
                      all_goals (go_ret; exact ⟨by first | rfl | (simp; done) | (simp only [← hji9, ← hji11, ← hji15, ← hji17] <;> (first | rfl | (simp; done))) | (simp [*]; done) | (simp_all; done) | (simp; omega) | (simp_all; omega), by repeat (first | exact Drawn0.refl _ | apply Drawn0.step)⟩)
                  · rw [if_neg c24] at H
                    have c24b0 : (t120 == (Int.tmod t111 16)) = false := beq_eq_false_iff_ne.mpr c24
                    have c24b1 : (t120 != (Int.tmod t111 16)) = true := bne_iff_ne.mpr c24
                    obtain rfl := Option.some.inj H
                    go_wp2
                    all_goals (go_ret; exact ⟨by first | rfl | (simp; done) | (simp only [← hji9, ← hji11, ← hji15, ← hji17] <;> (first | rfl | (simp; done))) | (simp [*]; done) | (simp_all; done) | (simp; omega) | (simp_all; omega), by repeat (first | exact Drawn0.refl _ | apply Drawn0.step)⟩)
                · rw [if_neg c23] at H
                  have c23b0 : (t117 == 1) = false := beq_eq_false_iff_ne.mpr c23
                  have c23b1 : (t117 != 1) = true := bne_iff_ne.mpr c23
                  obtain rfl := Option.some.inj H
                  go_wp2
                  all_goals (go_ret; exact ⟨by first | rfl | (simp; done) | (simp only [← hji9, ← hji11, ← hji15, ← hji17] <;> (first | rfl | (simp; done))) | (simp [*]; done) | (simp_all; done) | (simp; omega) | (simp_all; omega), by repeat (first | exact Drawn0.refl _ | apply Drawn0.step)⟩)
              · rw [if_neg c22] at H
                have c22b0 : (t116 == (Int.tmod t111 16)) = false := beq_eq_false_iff_ne.mpr c22
                have c22b1 : (t116 != (Int.tmod t111 16)) = true := bne_iff_ne.mpr c22
                obtain rfl := Option.some.inj H
                go_wp2
                all_goals (go_ret; exact ⟨by first | rfl | (simp; done) | (simp only [← hji9, ← hji11, ← hji15, ← hji17] <;> (first | rfl | (simp; done))) | (simp [*]; done) | (simp_all; done) | (simp; omega) | (simp_all; omega), by repeat (first | exact Drawn0.refl _ | apply Drawn0.step)⟩)
      · rw [if_neg c16] at H
        exact absurd H (by simp)
    · rw [if_neg c10] at H
      exact absurd H (by simp)

/-- THE ONE PURE STATEMENT of laws_FnHam: yours. -/
def laws_FnHam.Pure : Prop := ∀ (l0 : List Int), l0.length ≤ maxLen → l0.length * 1 ≤ 140737488351232 → (∀ x ∈ l0, (Lit.int .u8 x).wf = true) → ∃ k, laws_FnHam.f k l0 = some true
theorem laws_FnHam.walk (P : laws_FnHam.Pure) (a0 : Option Addr) (len0 cap0 : Nat) (z0 : List Int) (w : World) (w0 : (a0 = none ∧ len0 = 0 ∧ cap0 = 0 ∧ z0 = []) ∨ ∃ x, a0 = some x ∧ len0 ≤ cap0 ∧ cap0 ≤ maxLen ∧ z0.length = cap0 ∧ (∀ i, i < z0.length → w.cell? (x.add i) = some (.int .u8 (z0.getD i 0))) ∧ ∀ n ∈ z0, (Lit.int .u8 n).wf = true) (y0 : len0 * 1 ≤ 140737488351232) :
    Calls Try.prog 12 #[.slice a0 len0 cap0] w fun e w' => e = .returned (.bool true) ∧ Below w.heap.size w w' := by
  obtain ⟨l0, rfl, hr0, hm0, hw0, hc0⟩ := ReadsInt.ofRowC w0
  obtain ⟨k, h⟩ := P l0 hm0 y0 hw0
  refine (laws_FnHam.calls k _ _ l0 true w (Kd.C_of_reads (d := (0 : Int)) (h1 := fun _ => rfl) hr0) hc0 h).mono ?_
  rintro e w' ⟨rfl, hd⟩
  exact ⟨rfl, hd.below⟩

end Go.Proofs.Ytamgllkncpnmiaa.PFnHam
