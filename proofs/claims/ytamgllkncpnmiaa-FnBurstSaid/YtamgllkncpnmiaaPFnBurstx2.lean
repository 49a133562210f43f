-- PRINTED BY print.sh 35421559b90ae4d0a3588c463048766b98c2df88dd9212a6774a882060cdf62d: not written by this session
import Derived.Test.YtamgllkncpnmiaaPFnBurstx0
import Derived.Test.YtamgllkncpnmiaaPFnBurstx1
namespace Go.Proofs.Ytamgllkncpnmiaa.PFnBurst
open Go.RowKit Go.Proofs.YtamgllkncpnmiaaW.PrintWords Go.Proofs.YtamgllkncpnmiaaW.PrintLast Go.Proofs.YtamgllkncpnmiaaW.PrintMore
attribute [local go_sem] max2_int min2_int max_two min_two max_three min_three max_four min_four   -- for this text's walks alone
set_option linter.unusedVariables false
set_option linter.unusedSimpArgs false

/-! ### laws_FnBurst: function 5 -/
mutual
def laws_FnBurst.l0 : Nat → Int → Int → Int → List Int → Int → Int → Option (Bool)
  | 0, _, _, _, _, _, _ => none
  | k + 1, x3, x4, x5, x6, x7, x8 => if x8 < x3 then (if 0 ≤ (wrap64 (x7 + x8)) then (if (wrap64 (x7 + x8)) < (x6.length : Int) then (laws_FnBurst.l0 k x3 x4 x5 (x6.set ((wrap64 (x7 + x8)) : Int).toNat 1) x7 (wrap64 (x8 + 1))) else (none)) else (none)) else ((impl_Unweave.f k x6 x3).bind fun bt123 => (if bt123.2 = true then (laws_FnBurst.j1 k x3 x4 x5 bt123.1 ((bt123.1.length : Int) != x5)) else (laws_FnBurst.j1 k x3 x4 x5 bt123.1 true)))
def laws_FnBurst.j1 : Nat → Int → Int → Int → List Int → Bool → Option (Bool)
  | 0, _, _, _, _, _ => none
  | k + 1, x3, x4, x5, x9, x59 => if x59 = true then (some false) else (laws_FnBurst.l1 k x3 x4 x5 x9 (wrap64 (-x5)) 0 0)
def laws_FnBurst.l1 : Nat → Int → Int → Int → List Int → Int → Int → Int → Option (Bool)
  | 0, _, _, _, _, _, _, _ => none
  | k + 1, x3, x4, x5, x9, x11, x12, x13 => if x13 < x5 then (if 0 ≤ x13 then (if x13 < (x9.length : Int) then (if (rd x9 x13) = 1 then (if (wrap64 (x13 - x11)) < (wrap64 (x4 - 1)) then (some false) else (laws_FnBurst.l1 k x3 x4 x5 x9 x13 (wrap64 (x12 + 1)) (wrap64 (x13 + 1)))) else (laws_FnBurst.l1 k x3 x4 x5 x9 x11 x12 (wrap64 (x13 + 1)))) else (none)) else (none)) else (some (x12 == x3))
end
def laws_FnBurst.f (k : Nat) (l0 : List Int) : Option (Bool) := (laws_big.f l0).bind fun t115 => (if t115 = true then (some true) else ((laws_at.f l0 0).bind fun t116 => ((laws_at.f l0 1).bind fun t117 => (if 0 ≤ (wrap64 ((wrap64 (1 + (Int.tmod t116 16))) * (wrap64 (1 + (Int.tmod t117 20))))) then (if (wrap64 ((wrap64 (1 + (Int.tmod t116 16))) * (wrap64 (1 + (Int.tmod t117 20)))) : Int).toNat ≤ 35184372088832 then ((laws_at.f l0 2).bind fun t121 => (if (wrap64 ((wrap64 ((wrap64 ((wrap64 (1 + (Int.tmod t116 16))) * (wrap64 (1 + (Int.tmod t117 20))))) - (wrap64 (1 + (Int.tmod t116 16))))) + 1)) = 0 then (none) else (laws_FnBurst.l0 k (wrap64 (1 + (Int.tmod t116 16))) (wrap64 (1 + (Int.tmod t117 20))) (wrap64 ((wrap64 (1 + (Int.tmod t116 16))) * (wrap64 (1 + (Int.tmod t117 20))))) (List.replicate (wrap64 ((wrap64 (1 + (Int.tmod t116 16))) * (wrap64 (1 + (Int.tmod t117 20)))) : Int).toNat 0) (Int.tmod t121 (wrap64 ((wrap64 ((wrap64 ((wrap64 (1 + (Int.tmod t116 16))) * (wrap64 (1 + (Int.tmod t117 20))))) - (wrap64 (1 + (Int.tmod t116 16))))) + 1))) 0))) else (none)) else (none)))))
theorem laws_FnBurst.mono_l : ∀ k, (∀ y0 y1 y2 y3 y4 y5, LeO (laws_FnBurst.l0 k y0 y1 y2 y3 y4 y5) (laws_FnBurst.l0 (k + 1) y0 y1 y2 y3 y4 y5)) ∧ (∀ y0 y1 y2 y3 y4, LeO (laws_FnBurst.j1 k y0 y1 y2 y3 y4) (laws_FnBurst.j1 (k + 1) y0 y1 y2 y3 y4)) ∧ (∀ y0 y1 y2 y3 y4 y5 y6, LeO (laws_FnBurst.l1 k y0 y1 y2 y3 y4 y5 y6) (laws_FnBurst.l1 (k + 1) y0 y1 y2 y3 y4 y5 y6))
  | 0 => ⟨fun _ _ _ _ _ _ r h => by simp [laws_FnBurst.l0] at h, fun _ _ _ _ _ r h => by simp [laws_FnBurst.j1] at h, fun _ _ _ _ _ _ _ r h => by simp [laws_FnBurst.l1] at h⟩
  | k + 1 => by
    obtain ⟨ih0, ih1, ih2⟩ := laws_FnBurst.mono_l k
    refine ⟨?_, ?_, ?_⟩
    · intro y0 y1 y2 y3 y4 y5
      unfold laws_FnBurst.l0
      repeat' first
      | (with_reducible exact ih0 _ _ _ _ _ _)
      | (with_reducible exact ih1 _ _ _ _ _)
      | (with_reducible exact ih2 _ _ _ _ _ _ _)
      | (with_reducible exact impl_Unweave.mono _ _ _)
      | (with_reducible exact LeO.refl _)
      | (with_reducible exact LeO.none _)
      | (with_reducible refine LeO.ite ?_ ?_)
      | (with_reducible refine LeO.bind ?_ (fun _ => ?_))
      | exact ih0 _ _ _ _ _ _
      | exact ih1 _ _ _ _ _
      | exact ih2 _ _ _ _ _ _ _
      | exact impl_Unweave.mono _ _ _
      | exact LeO.none _
      | refine LeO.ite ?_ ?_
      | refine LeO.bind ?_ (fun _ => ?_)
    · intro y0 y1 y2 y3 y4
      unfold laws_FnBurst.j1
      repeat' first
      | (with_reducible exact ih0 _ _ _ _ _ _)
      | (with_reducible exact ih1 _ _ _ _ _)
      | (with_reducible exact ih2 _ _ _ _ _ _ _)
      | (with_reducible exact impl_Unweave.mono _ _ _)
      | (with_reducible exact LeO.refl _)
      | (with_reducible exact LeO.none _)
      | (with_reducible refine LeO.ite ?_ ?_)
      | (with_reducible refine LeO.bind ?_ (fun _ => ?_))
      | exact ih0 _ _ _ _ _ _
      | exact ih1 _ _ _ _ _
      | exact ih2 _ _ _ _ _ _ _
      | exact impl_Unweave.mono _ _ _
      | exact LeO.none _
      | refine LeO.ite ?_ ?_
      | refine LeO.bind ?_ (fun _ => ?_)
    · intro y0 y1 y2 y3 y4 y5 y6
      unfold laws_FnBurst.l1
      repeat' first
      | (with_reducible exact ih0 _ _ _ _ _ _)
      | (with_reducible exact ih1 _ _ _ _ _)
      | (with_reducible exact ih2 _ _ _ _ _ _ _)
      | (with_reducible exact impl_Unweave.mono _ _ _)
      | (with_reducible exact LeO.refl _)
      | (with_reducible exact LeO.none _)
      | (with_reducible refine LeO.ite ?_ ?_)
      | (with_reducible refine LeO.bind ?_ (fun _ => ?_))
      | exact ih0 _ _ _ _ _ _
      | exact ih1 _ _ _ _ _
      | exact ih2 _ _ _ _ _ _ _
      | exact impl_Unweave.mono _ _ _
      | exact LeO.none _
      | refine LeO.ite ?_ ?_
      | refine LeO.bind ?_ (fun _ => ?_)
theorem laws_FnBurst.mono : ∀ a0 k, LeO (laws_FnBurst.f k a0) (laws_FnBurst.f (k + 1) a0) := by
  intro a0 k
  obtain ⟨ih0, ih1, ih2⟩ := laws_FnBurst.mono_l k
  unfold laws_FnBurst.f
  repeat' first
      | (with_reducible exact ih0 _ _ _ _ _ _)
      | (with_reducible exact ih1 _ _ _ _ _)
      | (with_reducible exact ih2 _ _ _ _ _ _ _)
      | (with_reducible exact impl_Unweave.mono _ _ _)
      | (with_reducible exact LeO.refl _)
      | (with_reducible exact LeO.none _)
      | (with_reducible refine LeO.ite ?_ ?_)
      | (with_reducible refine LeO.bind ?_ (fun _ => ?_))
      | exact ih0 _ _ _ _ _ _
      | exact ih1 _ _ _ _ _
      | exact ih2 _ _ _ _ _ _ _
      | exact impl_Unweave.mono _ _ _
      | exact LeO.none _
      | refine LeO.ite ?_ ?_
      | refine LeO.bind ?_ (fun _ => ?_)
set_option maxHeartbeats 8000000 in
set_option maxRecDepth 100000 in
theorem laws_FnBurst.calls (k : Nat) (A0 : Option Addr) (c0 : Nat) (l0 : List Int) (r : Bool) (w : World) (hr0 : Kd.C (Kd.int .u8) w A0 l0.length l0) (hc0 : l0.length ≤ c0) (h : laws_FnBurst.f k l0 = some r) :
    Calls Try.prog 5 #[.slice A0 l0.length c0] w fun e w' => e = .returned (.bool r) ∧ Below w.heap.size w w' := by
  have HR0 := Aside0.mk hr0
  have HC0 := Aside0.mk hc0
  clear hr0 hc0
  have HB := Aside0.mk (Below.refl w.heap.size w)
  have H : ((laws_big.f l0).bind fun t115 => (if t115 = true then (some true) else ((laws_at.f l0 0).bind fun t116 => ((laws_at.f l0 1).bind fun t117 => (if 0 ≤ (wrap64 ((wrap64 (1 + (Int.tmod t116 16))) * (wrap64 (1 + (Int.tmod t117 20))))) then (if (wrap64 ((wrap64 (1 + (Int.tmod t116 16))) * (wrap64 (1 + (Int.tmod t117 20)))) : Int).toNat ≤ 35184372088832 then ((laws_at.f l0 2).bind fun t121 => (if (wrap64 ((wrap64 ((wrap64 ((wrap64 (1 + (Int.tmod t116 16))) * (wrap64 (1 + (Int.tmod t117 20))))) - (wrap64 (1 + (Int.tmod t116 16))))) + 1)) = 0 then (none) else (laws_FnBurst.l0 k (wrap64 (1 + (Int.tmod t116 16))) (wrap64 (1 + (Int.tmod t117 20))) (wrap64 ((wrap64 (1 + (Int.tmod t116 16))) * (wrap64 (1 + (Int.tmod t117 20))))) (List.replicate (wrap64 ((wrap64 (1 + (Int.tmod t116 16))) * (wrap64 (1 + (Int.tmod t117 20)))) : Int).toNat 0) (Int.tmod t121 (wrap64 ((wrap64 ((wrap64 ((wrap64 (1 + (Int.tmod t116 16))) * (wrap64 (1 + (Int.tmod t117 20))))) - (wrap64 (1 + (Int.tmod t116 16))))) + 1))) 0))) else (none)) else (none)))))) = some r := h
  clear h
  replace H := Option.bind_eq_some_iff.mp H
  obtain ⟨t115, A20, H⟩ := H
  replace H : (if t115 = true then (some true) else ((laws_at.f l0 0).bind fun t116 => ((laws_at.f l0 1).bind fun t117 => (if 0 ≤ (wrap64 ((wrap64 (1 + (Int.tmod t116 16))) * (wrap64 (1 + (Int.tmod t117 20))))) then (if (wrap64 ((wrap64 (1 + (Int.tmod t116 16))) * (wrap64 (1 + (Int.tmod t117 20)))) : Int).toNat ≤ 35184372088832 then ((laws_at.f l0 2).bind fun t121 => (if (wrap64 ((wrap64 ((wrap64 ((wrap64 (1 + (Int.tmod t116 16))) * (wrap64 (1 + (Int.tmod t117 20))))) - (wrap64 (1 + (Int.tmod t116 16))))) + 1)) = 0 then (none) else (laws_FnBurst.l0 k (wrap64 (1 + (Int.tmod t116 16))) (wrap64 (1 + (Int.tmod t117 20))) (wrap64 ((wrap64 (1 + (Int.tmod t116 16))) * (wrap64 (1 + (Int.tmod t117 20))))) (List.replicate (wrap64 ((wrap64 (1 + (Int.tmod t116 16))) * (wrap64 (1 + (Int.tmod t117 20)))) : Int).toNat 0) (Int.tmod t121 (wrap64 ((wrap64 ((wrap64 ((wrap64 (1 + (Int.tmod t116 16))) * (wrap64 (1 + (Int.tmod t117 20))))) - (wrap64 (1 + (Int.tmod t116 16))))) + 1))) 0))) else (none)) else (none))))) = some r := H
  have A2 := Aside0.mk A20
  clear A20
  by_cases c3 : t115 = true
  · subst c3
    have H1 : (some true) = some r := by rw [if_pos rfl] at H; exact H
    clear H
    have H := H1
    clear H1
    obtain rfl := Option.some.inj H
    go_enter Try.func5, Try.ntmps5
    go_wp2_with (first | ((with_reducible refine gate_callee (f := 19) rfl ?_); refine goesL_ (some 15) rfl rfl Try.func19 (by kernel_rfl) rfl #[.slice A0 l0.length c0] rfl (by (try simp only [List.map_toArray, List.map_cons, List.map_nil]); first | done | rfl | (simp only [List.length_drop, List.length_take]; rfl)) ?_; (with_reducible refine (laws_big.calls _ _ l0 true _ ?side1 ?side2 A2.out).mono ?_); (case side1 => repeat (first | exact HR0.out | (with_reducible refine Kd.C_alloc ?_ _) | (with_reducible refine Kd.C_drewN ?_ _) | (with_reducible refine Kd.C_drew ?_))); (case side2 => exact HC0.out); rintro e w' ⟨rfl, ⟨nd, rfl⟩⟩; refine ⟨_, rfl, ?_⟩))
    go_ret
    exact ⟨by first | rfl | (simp [errW_none, errW_some] <;> rfl) | (simp [*, errW_none, errW_some] <;> rfl), by repeat (first | (with_reducible first | exact HB.out | apply below_alloc | apply pw_below_drewN | apply below_drew1) | exact HB.out)⟩
  · replace c3 := Bool.eq_false_iff.mpr c3
    subst c3
    have H1 : ((laws_at.f l0 0).bind fun t116 => ((laws_at.f l0 1).bind fun t117 => (if 0 ≤ (wrap64 ((wrap64 (1 + (Int.tmod t116 16))) * (wrap64 (1 + (Int.tmod t117 20))))) then (if (wrap64 ((wrap64 (1 + (Int.tmod t116 16))) * (wrap64 (1 + (Int.tmod t117 20)))) : Int).toNat ≤ 35184372088832 then ((laws_at.f l0 2).bind fun t121 => (if (wrap64 ((wrap64 ((wrap64 ((wrap64 (1 + (Int.tmod t116 16))) * (wrap64 (1 + (Int.tmod t117 20))))) - (wrap64 (1 + (Int.tmod t116 16))))) + 1)) = 0 then (none) else (laws_FnBurst.l0 k (wrap64 (1 + (Int.tmod t116 16))) (wrap64 (1 + (Int.tmod t117 20))) (wrap64 ((wrap64 (1 + (Int.tmod t116 16))) * (wrap64 (1 + (Int.tmod t117 20))))) (List.replicate (wrap64 ((wrap64 (1 + (Int.tmod t116 16))) * (wrap64 (1 + (Int.tmod t117 20)))) : Int).toNat 0) (Int.tmod t121 (wrap64 ((wrap64 ((wrap64 ((wrap64 (1 + (Int.tmod t116 16))) * (wrap64 (1 + (Int.tmod t117 20))))) - (wrap64 (1 + (Int.tmod t116 16))))) + 1))) 0))) else (none)) else (none)))) = some r := by rw [if_neg (show ¬ (false = true) by decide)] at H; exact H
    clear H
    have H := H1
    clear H1
    replace H := Option.bind_eq_some_iff.mp H
    obtain ⟨t116, A40, H⟩ := H
    replace H : ((laws_at.f l0 1).bind fun t117 => (if 0 ≤ (wrap64 ((wrap64 (1 + (Int.tmod t116 16))) * (wrap64 (1 + (Int.tmod t117 20))))) then (if (wrap64 ((wrap64 (1 + (Int.tmod t116 16))) * (wrap64 (1 + (Int.tmod t117 20)))) : Int).toNat ≤ 35184372088832 then ((laws_at.f l0 2).bind fun t121 => (if (wrap64 ((wrap64 ((wrap64 ((wrap64 (1 + (Int.tmod t116 16))) * (wrap64 (1 + (Int.tmod t117 20))))) - (wrap64 (1 + (Int.tmod t116 16))))) + 1)) = 0 then (none) else (laws_FnBurst.l0 k (wrap64 (1 + (Int.tmod t116 16))) (wrap64 (1 + (Int.tmod t117 20))) (wrap64 ((wrap64 (1 + (Int.tmod t116 16))) * (wrap64 (1 + (Int.tmod t117 20))))) (List.replicate (wrap64 ((wrap64 (1 + (Int.tmod t116 16))) * (wrap64 (1 + (Int.tmod t117 20)))) : Int).toNat 0) (Int.tmod t121 (wrap64 ((wrap64 ((wrap64 ((wrap64 (1 + (Int.tmod t116 16))) * (wrap64 (1 + (Int.tmod t117 20))))) - (wrap64 (1 + (Int.tmod t116 16))))) + 1))) 0))) else (none)) else (none))) = some r := H
    have A4 := Aside0.mk A40
    clear A40
    replace H := Option.bind_eq_some_iff.mp H
    obtain ⟨t117, A50, H⟩ := H
    replace H : (if 0 ≤ (wrap64 ((wrap64 (1 + (Int.tmod t116 16))) * (wrap64 (1 + (Int.tmod t117 20))))) then (if (wrap64 ((wrap64 (1 + (Int.tmod t116 16))) * (wrap64 (1 + (Int.tmod t117 20)))) : Int).toNat ≤ 35184372088832 then ((laws_at.f l0 2).bind fun t121 => (if (wrap64 ((wrap64 ((wrap64 ((wrap64 (1 + (Int.tmod t116 16))) * (wrap64 (1 + (Int.tmod t117 20))))) - (wrap64 (1 + (Int.tmod t116 16))))) + 1)) = 0 then (none) else (laws_FnBurst.l0 k (wrap64 (1 + (Int.tmod t116 16))) (wrap64 (1 + (Int.tmod t117 20))) (wrap64 ((wrap64 (1 + (Int.tmod t116 16))) * (wrap64 (1 + (Int.tmod t117 20))))) (List.replicate (wrap64 ((wrap64 (1 + (Int.tmod t116 16))) * (wrap64 (1 + (Int.tmod t117 20)))) : Int).toNat 0) (Int.tmod t121 (wrap64 ((wrap64 ((wrap64 ((wrap64 (1 + (Int.tmod t116 16))) * (wrap64 (1 + (Int.tmod t117 20))))) - (wrap64 (1 + (Int.tmod t116 16))))) + 1))) 0))) else (none)) else (none)) = some r := H
    have A5 := Aside0.mk A50
    clear A50
    obtain ⟨ji6, hji6⟩ : ∃ j_ : Int, (wrap64 ((wrap64 (1 + (Int.tmod t116 16))) * (wrap64 (1 + (Int.tmod t117 20))))) = j_ := ⟨_, rfl⟩
    replace H : (if 0 ≤ (ji6) then (if (ji6 : Int).toNat ≤ 35184372088832 then ((laws_at.f l0 2).bind fun t121 => (if (wrap64 ((wrap64 ((ji6) - (wrap64 (1 + (Int.tmod t116 16))))) + 1)) = 0 then (none) else (laws_FnBurst.l0 k (wrap64 (1 + (Int.tmod t116 16))) (wrap64 (1 + (Int.tmod t117 20))) ji6 (List.replicate (ji6 : Int).toNat 0) (Int.tmod t121 (wrap64 ((wrap64 ((ji6) - (wrap64 (1 + (Int.tmod t116 16))))) + 1))) 0))) else (none)) else (none)) = some r := by first | (rw [hji6] at H; exact H) | (simp only [hji6] at H ⊢; exact H)
    (try rw [hji6] at A2)
    (try rw [hji6] at A4)
    (try rw [hji6] at A5)
    have hji6w : (IntKind.i64.wrap ((wrap64 (1 + (Int.tmod t116 16))) * (wrap64 (1 + (Int.tmod t117 20))))) = ji6 := (i64_w _).trans hji6
    by_cases c7 : 0 ≤ (ji6)
    · rw [if_pos c7] at H
      have c7b0 := eq_true c7
      have c7b1 : decide (0 ≤ (ji6)) = true := decide_eq_true c7
      clear c7
      by_cases c8 : (ji6 : Int).toNat ≤ 35184372088832
      · rw [if_pos c8] at H
        have c8b0 := eq_true c8
        have c8b1 : decide ((ji6 : Int).toNat ≤ 35184372088832) = true := decide_eq_true c8
        clear c8
        obtain ⟨y118, hy118⟩ : ∃ y_ : List Int, y_ = (List.replicate (ji6 : Int).toNat 0) := ⟨_, rfl⟩
        replace H : ((laws_at.f l0 2).bind fun t121 => (if (wrap64 ((wrap64 ((ji6) - (wrap64 (1 + (Int.tmod t116 16))))) + 1)) = 0 then (none) else (laws_FnBurst.l0 k (wrap64 (1 + (Int.tmod t116 16))) (wrap64 (1 + (Int.tmod t117 20))) ji6 y118 (Int.tmod t121 (wrap64 ((wrap64 ((ji6) - (wrap64 (1 + (Int.tmod t116 16))))) + 1))) 0))) = some r := by first | (rw [hy118]; with_reducible exact H) | (have H2_ := (Option.bind_some _ _).symm.trans H; rw [hy118]; with_reducible exact H2_) | (have H2_ := (Option.bind_some _ _).symm.trans H; with_reducible exact H2_) | with_reducible exact H | (rw [hy118]; exact H) | exact H
        have Ny118 := Aside0.mk hy118
        clear hy118
        replace H := Option.bind_eq_some_iff.mp H
        obtain ⟨t121, A90, H⟩ := H
        replace H : (if (wrap64 ((wrap64 ((ji6) - (wrap64 (1 + (Int.tmod t116 16))))) + 1)) = 0 then (none) else (laws_FnBurst.l0 k (wrap64 (1 + (Int.tmod t116 16))) (wrap64 (1 + (Int.tmod t117 20))) ji6 y118 (Int.tmod t121 (wrap64 ((wrap64 ((ji6) - (wrap64 (1 + (Int.tmod t116 16))))) + 1))) 0)) = some r := H
        have A9 := Aside0.mk A90
        clear A90
        by_cases c10 : (wrap64 ((wrap64 ((ji6) - (wrap64 (1 + (Int.tmod t116 16))))) + 1)) = 0
        · rw [if_pos c10] at H
          exact absurd H (by simp)
        · rw [if_neg c10] at H
          have c10b0 : ((wrap64 ((wrap64 ((ji6) - (wrap64 (1 + (Int.tmod t116 16))))) + 1)) == 0) = false := beq_eq_false_iff_ne.mpr c10
          have c10b1 : ((wrap64 ((wrap64 ((ji6) - (wrap64 (1 + (Int.tmod t116 16))))) + 1)) != 0) = true := bne_iff_ne.mpr c10
          have H' := Aside0.mk H
          clear H
          go_enter Try.func5, Try.ntmps5
          go_wp2_with (first | ((with_reducible refine gate_callee (f := 19) rfl ?_); refine goesL_ (some 15) rfl rfl Try.func19 (by kernel_rfl) rfl #[.slice A0 l0.length c0] rfl (by (try simp only [List.map_toArray, List.map_cons, List.map_nil]); first | done | rfl | (simp only [List.length_drop, List.length_take]; rfl)) ?_; (with_reducible refine (laws_big.calls _ _ l0 false _ ?side1 ?side2 A2.out).mono ?_); (case side1 => repeat (first | exact HR0.out | (with_reducible refine Kd.C_alloc ?_ _) | (with_reducible refine Kd.C_drewN ?_ _) | (with_reducible refine Kd.C_drew ?_))); (case side2 => exact HC0.out); rintro e w' ⟨rfl, ⟨nd, rfl⟩⟩; refine ⟨_, rfl, ?_⟩) | ((with_reducible refine gate_callee (f := 20) rfl ?_); refine goesL_ (some 17) rfl rfl Try.func20 (by kernel_rfl) rfl #[.slice A0 l0.length c0, .int .i64 0] rfl (by (try simp only [List.map_toArray, List.map_cons, List.map_nil]); first | done | rfl | (simp only [List.length_drop, List.length_take]; rfl)) ?_; (with_reducible refine (laws_at.calls _ _ l0 0 t116 _ ?side1 ?side2 A4.out).mono ?_); (case side1 => repeat (first | exact HR0.out | (with_reducible refine Kd.C_alloc ?_ _) | (with_reducible refine Kd.C_drewN ?_ _) | (with_reducible refine Kd.C_drew ?_))); (case side2 => exact HC0.out); rintro e w' ⟨rfl, ⟨nd, rfl⟩⟩; refine ⟨_, rfl, ?_⟩) | ((with_reducible refine gate_callee (f := 20) rfl ?_); refine goesL_ (some 21) rfl rfl Try.func20 (by kernel_rfl) rfl #[.slice A0 l0.length c0, .int .i64 1] rfl (by (try simp only [List.map_toArray, List.map_cons, List.map_nil]); first | done | rfl | (simp only [List.length_drop, List.length_take]; rfl)) ?_; (with_reducible refine (laws_at.calls _ _ l0 1 t117 _ ?side1 ?side2 A5.out).mono ?_); (case side1 => repeat (first | exact HR0.out | (with_reducible refine Kd.C_alloc ?_ _) | (with_reducible refine Kd.C_drewN ?_ _) | (with_reducible refine Kd.C_drew ?_))); (case side2 => exact HC0.out); rintro e w' ⟨rfl, ⟨nd, rfl⟩⟩; refine ⟨_, rfl, ?_⟩) | ((with_reducible refine gate_dst (N := 28) rfl ?_); (try (refine gate_guard (by rfl) ?_; dsimp only)); refine Kd.R_make (Kd.int .i64) _ 3 rfl (N := 28) rfl 27 _ _ rfl ji6 rfl rfl Try.underlying27 (.int .i64 0) 8 info3 rfl (by decide) (by omega) 0 (ok := fun _ => True) (okp := fun _ => True) rfl (fun _ hk => hk) trivial (of_decide_eq_true (by first | (with_reducible assumption) | assumption)) (Nat.le_trans (Nat.mul_le_mul_right _ (of_decide_eq_true (by first | (with_reducible assumption) | assumption) : ji6.toNat ≤ 35184372088832)) (by omega)) (Below.refl _ _) (Nat.le_refl _) ?_; intro v119 w11 ho12 hb hg_ hnew_; clear hg_ hnew_; (first | rw [← Ny118.out] at ho12 | (simp only [Int.reduceToNat] at ho12; rw [← Ny118.out] at ho12)); have n0_ := Aside0.mk (Kd.R_lower ho12 (below_size (by repeat (first | (with_reducible first | exact HB.out | apply below_alloc | apply pw_below_drewN | apply below_drew1) | exact HB.out)))); have n1_ := Aside0.mk (below_step (by repeat (first | (with_reducible first | exact HB.out | apply below_alloc | apply pw_below_drewN | apply below_drew1) | exact HB.out)) hb); clear HB; have HO120 := n0_; have HB := n1_; clear n0_ n1_; clear hb ho12) | ((with_reducible refine gate_callee (f := 20) rfl ?_); refine goesL_ (some 30) rfl rfl Try.func20 (by kernel_rfl) rfl #[.slice A0 l0.length c0, .int .i64 2] rfl (by (try simp only [List.map_toArray, List.map_cons, List.map_nil]); first | done | rfl | (simp only [List.length_drop, List.length_take]; rfl)) ?_; (with_reducible refine (laws_at.calls _ _ l0 2 t121 _ ?side1 ?side2 A9.out).mono ?_); (case side1 => repeat (first | exact (Kd.C_below HR0.out HB.out) | (with_reducible refine Kd.C_alloc ?_ _) | (with_reducible refine Kd.C_drewN ?_ _) | (with_reducible refine Kd.C_drew ?_))); (case side2 => exact HC0.out); rintro e w' ⟨rfl, ⟨nd, rfl⟩⟩; refine ⟨_, rfl, ?_⟩))
          go_loopg [8] k (fun kq v8 w' => ∃ (x6_1 : List Int) (x8_1 : Int), v8 = .int .i64 x8_1 ∧ Aside0 (laws_FnBurst.l0 kq (wrap64 (1 + (Int.tmod t116 16))) (wrap64 (1 + (Int.tmod t117 20))) ji6 x6_1 (Int.tmod t121 (wrap64 ((wrap64 ((ji6) - (wrap64 (1 + (Int.tmod t116 16))))) + 1))) x8_1 = some r) ∧ Aside0 (kq ≤ k) ∧ Aside0 (Kd.R (Kd.int .i64) 3 w' w.heap.size (fun _ => True) v119 x6_1) ∧ Aside0 (Below w.heap.size w w'))
          case atStart => exact ⟨(y118), (0), (by first | rfl | (simp; done) | (simp [*]; done)), H', ⟨Nat.le_refl _⟩, ⟨by (with_reducible repeat (first | apply Kd.R_alloc | apply Kd.R_drewN | apply Kd.R_drew)); exact HO120.out⟩, ⟨by repeat (first | (with_reducible first | exact HB.out | apply below_alloc | apply pw_below_drewN | apply below_drew1) | exact HB.out)⟩⟩
          case round =>
            clear H'
            try clear c1
            try clear c2
            try clear p2
            try clear c3
            try clear c5
            try clear p6
            try clear c7
            try clear c7b0
            try clear c7b1
            try clear c8
            try clear c8b0
            try clear c8b1
            try clear c10
            try clear c10b0
            try clear c10b1
            obtain ⟨x6_1, x8_1, rfl, HA, HK1, HO_6, HB⟩ := hrel
            cases gk with
            | zero => exact absurd HA.out (by simp [laws_FnBurst.l0])
            | succ k1 =>
              have H := HA.out
              clear HA
              simp only [laws_FnBurst.l0] at H
              by_cases c13 : x8_1 < (wrap64 (1 + (Int.tmod t116 16)))
              · rw [if_pos c13] at H
                have c13b0 : decide (x8_1 < (wrap64 (1 + (Int.tmod t116 16)))) = true := decide_eq_true c13
                clear c13
                obtain ⟨ji14, hji14⟩ : ∃ j_ : Int, (wrap64 ((Int.tmod t121 (wrap64 ((wrap64 ((ji6) - (wrap64 (1 + (Int.tmod t116 16))))) + 1))) + x8_1)) = j_ := ⟨_, rfl⟩
                replace H : (if 0 ≤ (ji14) then (if (ji14) < (x6_1.length : Int) then (laws_FnBurst.l0 k1 (wrap64 (1 + (Int.tmod t116 16))) (wrap64 (1 + (Int.tmod t117 20))) ji6 (x6_1.set ((ji14) : Int).toNat 1) (Int.tmod t121 (wrap64 ((wrap64 ((ji6) - (wrap64 (1 + (Int.tmod t116 16))))) + 1))) (wrap64 (x8_1 + 1))) else (none)) else (none)) = some r := by first | (rw [hji14] at H; exact H) | (simp only [hji14] at H ⊢; exact H)
                have hji14w : (IntKind.i64.wrap ((Int.tmod t121 (wrap64 ((wrap64 ((ji6) - (wrap64 (1 + (Int.tmod t116 16))))) + 1))) + x8_1)) = ji14 := (i64_w _).trans hji14
                by_cases c15 : 0 ≤ (ji14)
                · rw [if_pos c15] at H
                  have c15b0 : decide (0 ≤ (ji14)) = true := decide_eq_true c15
                  clear c15
                  by_cases c16 : (ji14) < (x6_1.length : Int)
                  · rw [if_pos c16] at H
                    have c16b0 : decide ((ji14) < (x6_1.length : Int)) = true := decide_eq_true c16
                    clear c16
                    obtain ⟨y122, hy122⟩ : ∃ y_ : List Int, y_ = (x6_1.set ((ji14) : Int).toNat 1) := ⟨_, rfl⟩
                    replace H : (laws_FnBurst.l0 k1 (wrap64 (1 + (Int.tmod t116 16))) (wrap64 (1 + (Int.tmod t117 20))) ji6 y122 (Int.tmod t121 (wrap64 ((wrap64 ((ji6) - (wrap64 (1 + (Int.tmod t116 16))))) + 1))) (wrap64 (x8_1 + 1))) = some r := by first | (rw [hy122]; with_reducible exact H) | (have H2_ := (Option.bind_some _ _).symm.trans H; rw [hy122]; with_reducible exact H2_) | (have H2_ := (Option.bind_some _ _).symm.trans H; with_reducible exact H2_) | with_reducible exact H | (rw [hy122]; exact H) | exact H
                    have Ny122 := Aside0.mk hy122
                    clear hy122
                    have H' := Aside0.mk H
                    clear H
                    have p17 : 0 ≤ ((ji14) : Int) := of_decide_eq_true (by first | (with_reducible assumption) | assumption)
                    have q17 : ((ji14) : Int) < ((x6_1.length : Int) : Int) := of_decide_eq_true (by first | (with_reducible assumption) | assumption)
                    obtain ⟨go17, co17, eo17, gb17, gl17, cl17, HG17⟩ := Kd.R_form HO_6.out (by omega)
                    (first | cases eo17 | (injection eo17 with ea_ en_ ec_; (first | subst ea_ | (injection ea_ with ea_; subst ea_)); subst ec_; clear en_))
                    have GB17 := Aside0.mk gb17
                    have GG17 := Aside0.mk HG17
                    clear gb17 gl17 HG17
                    obtain ⟨hx17_0, hf17_0⟩ := Kd.R_celln 0 HO_6.out ((ji14) : Int) p17 q17
                    replace p17 := eq_true p17
                    replace q17 := eq_true q17
                    have HP18 := Kd.R_putg HO_6.out ((ji14) : Int) 1
                    go_wp2_with (first | ((with_reducible refine gate_store (t := 3) (p := 45) rfl ?_); refine store_event (t := 3) (p := 45) (v := ?vo_w19) (w1 := (wr.setCell ⟨go17, ((ji14) : Int).toNat, none⟩ (.int .i64 1))) ?hg ?ho ?hn ?hr ?_; (case ho => rfl); (case hg => rfl); (case hn => rfl); (case hr => first | (go_simp; done) | (go_simp; rfl)); intro w19 hw; have hg : wr.grownBy w19 (some go17) := (by rw [hw]; exact HP18.2); have hp_ : Kd.R (Kd.int .i64) 3 w19 w.heap.size (fun _ => True) (.slice (some ⟨go17, 0, none⟩) x6_1.length co17) y122 := (by rw [hw, Ny122.out]; exact HP18.1); clear HP18; have n0_ := Aside0.mk (hp_); have n1_ := Aside0.mk ((by rw [hw]; exact below_set (HB.out) GB17.out : Below w.heap.size w w19)); clear HO_6; clear HB; have HO_6 := n0_; have HB := n1_; clear n0_ n1_; clear hg hw hp_))
                    go_roundg k1
                    case measure => have := HK1.out; omega
                    case rel => exact ⟨(y122), (wrap64 (x8_1 + 1)), (by first | rfl | (simp; done) | (simp [*]; done)), H', ⟨by have := HK1.out; omega⟩, ⟨by (with_reducible repeat (first | apply Kd.R_alloc | apply Kd.R_drewN | apply Kd.R_drew)); exact HO_6.out⟩, ⟨by repeat (first | (with_reducible first | exact HB.out | apply below_alloc | apply pw_below_drewN | apply below_drew1) | exact HB.out)⟩⟩
                  · rw [if_neg c16] at H
                    exact absurd H (by simp)
                · rw [if_neg c15] at H
                  exact absurd H (by simp)
              · rw [if_neg c13] at H
                have c13b0 : decide (x8_1 < (wrap64 (1 + (Int.tmod t116 16)))) = false := decide_eq_false c13
                clear c13
                replace H := Option.bind_eq_some_iff.mp H
                obtain ⟨⟨t123, t124⟩, A200, H⟩ := H
                replace H : (if t124 = true then (laws_FnBurst.j1 k1 (wrap64 (1 + (Int.tmod t116 16))) (wrap64 (1 + (Int.tmod t117 20))) ji6 t123 ((t123.length : Int) != ji6)) else (laws_FnBurst.j1 k1 (wrap64 (1 + (Int.tmod t116 16))) (wrap64 (1 + (Int.tmod t117 20))) ji6 t123 true)) = some r := H
                have A20 := Aside0.mk A200
                clear A200
                have HC21 := Aside0.mk H
                clear H
                obtain ⟨Ao22, co22, eo22⟩ := Kd.R_slice HO_6.out
                subst eo22
                go_upto_region 12 with (first | ((with_reducible refine gate_callee (f := 21) rfl ?_); refine goesL_ (some 49) rfl rfl Try.func21 (by kernel_rfl) rfl #[.slice Ao22 x6_1.length co22, .int .i64 (wrap64 (1 + (Int.tmod t116 16)))] rfl (by (try simp only [List.map_toArray, List.map_cons, List.map_nil]); first | done | rfl | (simp only [List.length_drop, List.length_take]; rfl)) ?_; (with_reducible refine (impl_Unweave.calls k1 _ _ x6_1 (wrap64 (1 + (Int.tmod t116 16))) t123 t124 _ ?side1 ?side2 A20.out).mono ?_); (case side1 => repeat (first | exact (Kd.R_reads' HO_6.out).2.2 | (with_reducible refine Kd.C_alloc ?_ _) | (with_reducible refine Kd.C_drewN ?_ _) | (with_reducible refine Kd.C_drew ?_))); (case side2 => exact (Kd.R_reads' HO_6.out).2.1); rintro e w23 ⟨v125, rfl, ho0, hb⟩; refine ⟨_, rfl, ?_⟩; have n0_ := Aside0.mk (Kd.R_elder' (by (with_reducible repeat (first | apply Kd.R_alloc | apply Kd.R_drewN | apply Kd.R_drew)); exact HO_6.out) (Kd.R_base ho0) hb); have n1_ := Aside0.mk (Kd.R_lower (Kd.R_new' ho0 (Kd.R_lt (by (with_reducible repeat (first | apply Kd.R_alloc | apply Kd.R_drewN | apply Kd.R_drew)); exact HO_6.out))) (below_size (by repeat (first | (with_reducible first | exact HB.out | apply below_alloc | apply pw_below_drewN | apply below_drew1) | exact HB.out)))); have n2_ := Aside0.mk (below_step (by repeat (first | (with_reducible first | exact HB.out | apply below_alloc | apply pw_below_drewN | apply below_drew1) | exact HB.out)) hb); clear HO_6; clear HB; have HO_6 := n0_; have HO126 := n1_; have HB := n2_; clear n0_ n1_ n2_; (try clear hb); (try clear hb2); (try clear hk); (try clear hi); (try clear ho0)))
                (try simp only [Act.put, List.setIfInBounds_toArray, List.set_cons_zero, List.set_cons_succ])
                go_cut [59] (fun v59 wc => ∃ (kq : Nat) (x59_20 : Bool), v59 = .bool x59_20 ∧ Aside0 (laws_FnBurst.j1 kq (wrap64 (1 + (Int.tmod t116 16))) (wrap64 (1 + (Int.tmod t117 20))) ji6 t123 x59_20 = some r) ∧ Aside0 (kq ≤ k1) ∧ Aside0 (Kd.R (Kd.int .i64) 3 wc w.heap.size (fun _ => True) v125 t123) ∧ Aside0 (Below w.heap.size w wc))
                case first =>
                  have H := HC21.out
                  clear HC21
                  by_cases c24 : t124 = true
                  · subst c24
                    have H1 : (laws_FnBurst.j1 k1 (wrap64 (1 + (Int.tmod t116 16))) (wrap64 (1 + (Int.tmod t117 20))) ji6 t123 ((t123.length : Int) != ji6)) = some r := by rw [if_pos rfl] at H; exact H
                    clear H
                    have H := H1
                    clear H1
                    have H' := Aside0.mk H
                    clear H
                    obtain ⟨Ao25, co25, eo25⟩ := Kd.R_slice HO126.out
                    subst eo25
                    go_wp2
                    go_meet
                    case rel => exact ⟨_, (((t123.length : Int) != ji6)), (by first | rfl | (simp; done) | (simp only [← hji6] <;> (first | rfl | simp)) | (simp [*]; done)), H', ⟨by have := HK1.out; first | omega | exact Nat.le_refl _⟩, ⟨by (with_reducible repeat (first | apply Kd.R_alloc | apply Kd.R_drewN | apply Kd.R_drew)); exact Kd.R_mono HO126.out (fun _ hk => trivial)⟩, ⟨by repeat (first | (with_reducible first | exact HB.out | apply below_alloc | apply pw_below_drewN | apply below_drew1) | exact HB.out)⟩⟩
                  · replace c24 := Bool.eq_false_iff.mpr c24
                    subst c24
                    have H1 : (laws_FnBurst.j1 k1 (wrap64 (1 + (Int.tmod t116 16))) (wrap64 (1 + (Int.tmod t117 20))) ji6 t123 true) = some r := by rw [if_neg (show ¬ (false = true) by decide)] at H; exact H
                    clear H
                    have H := H1
                    clear H1
                    have H' := Aside0.mk H
                    clear H
                    go_wp2
                    go_meet
                    case rel => exact ⟨_, (true), (by first | rfl | (simp; done) | (simp [*]; done)), H', ⟨by have := HK1.out; first | omega | exact Nat.le_refl _⟩, ⟨by (with_reducible repeat (first | apply Kd.R_alloc | apply Kd.R_drewN | apply Kd.R_drew)); exact Kd.R_mono HO126.out (fun _ hk => trivial)⟩, ⟨by repeat (first | (with_reducible first | exact HB.out | apply below_alloc | apply pw_below_drewN | apply below_drew1) | exact HB.out)⟩⟩
                case rest =>
                  clear HC21
                  try clear c1
                  try clear p1
                  try clear q1
                  try clear hx1
                  try clear hf1
                  try clear c2
                  try clear p2
                  try clear c3
                  try clear c5
                  try clear p6
                  try clear c7
                  try clear c7b0
                  try clear c7b1
                  try clear c8
                  try clear c8b0
                  try clear c8b1
                  try clear c10
                  try clear c10b0
                  try clear c10b1
                  try clear c13
                  try clear c13b0
                  try clear c15
                  try clear c15b0
                  try clear c16
                  try clear c16b0
                  try clear p17
                  try clear q17
                  try clear hx17
                  try clear hf17
                  try clear c19
                  try clear c20
                  try clear c21
                  try clear c24
                  try clear hx17_0
                  try clear p17
                  try clear p2
                  try clear p6
                  try clear q17
                  obtain ⟨kq, x59_20, rfl, HA, HJ20, HO_9, HB⟩ := hcut
                  cases kq with
                  | zero => exact absurd HA.out (by simp [laws_FnBurst.j1])
                  | succ kj20 =>
                    have H := HA.out
                    clear HA
                    simp only [laws_FnBurst.j1] at H
                    by_cases c26 : x59_20 = true
                    · subst c26
                      have H1 : (some false) = some r := by rw [if_pos rfl] at H; exact H
                      clear H
                      have H := H1
                      clear H1
                      obtain rfl := Option.some.inj H
                      go_wp2
                      go_ret
                      exact ⟨by first | rfl | (simp [errW_none, errW_some] <;> rfl) | (simp only [← hji6]; first | rfl | (simp [errW_none, errW_some] <;> rfl)) | (simp [*, errW_none, errW_some] <;> rfl), by repeat (first | (with_reducible first | exact HB.out | apply below_alloc | apply pw_below_drewN | apply below_drew1) | exact HB.out)⟩
                    · replace c26 := Bool.eq_false_iff.mpr c26
                      subst c26
                      have H1 : (laws_FnBurst.l1 kj20 (wrap64 (1 + (Int.tmod t116 16))) (wrap64 (1 + (Int.tmod t117 20))) ji6 t123 (wrap64 (-ji6)) 0 0) = some r := by rw [if_neg (show ¬ (false = true) by decide)] at H; exact H
                      clear H
                      have H := H1
                      clear H1
                      have H' := Aside0.mk H
                      clear H
                      go_wp2
                      go_loopg [11, 12, 13] kj20 (fun kq v11 v12 v13 w' => ∃ (x11_3 : Int) (x12_3 : Int) (x13_3 : Int), v11 = .int .i64 x11_3 ∧ v12 = .int .i64 x12_3 ∧ v13 = .int .i64 x13_3 ∧ Aside0 (laws_FnBurst.l1 kq (wrap64 (1 + (Int.tmod t116 16))) (wrap64 (1 + (Int.tmod t117 20))) ji6 t123 x11_3 x12_3 x13_3 = some r) ∧ Aside0 (kq ≤ kj20) ∧ Aside0 (Kd.R (Kd.int .i64) 3 w' w.heap.size (fun _ => True) v125 t123) ∧ Aside0 (Below w.heap.size w w'))
                      case atStart => exact ⟨(wrap64 (-ji6)), (0), (0), (by first | rfl | (simp; done) | (simp only [← hji6] <;> (first | rfl | simp)) | (simp [*]; done)), (by first | rfl | (simp; done) | (simp [*]; done)), (by first | rfl | (simp; done) | (simp [*]; done)), H', ⟨Nat.le_refl _⟩, ⟨by (with_reducible repeat (first | apply Kd.R_alloc | apply Kd.R_drewN | apply Kd.R_drew)); exact HO_9.out⟩, ⟨by repeat (first | (with_reducible first | exact HB.out | apply below_alloc | apply pw_below_drewN | apply below_drew1) | exact HB.out)⟩⟩
                      case round =>
                        clear H'
                        try clear c1
                        try clear p1
                        try clear q1
                        try clear hx1
                        try clear hf1
                        try clear c2
                        try clear p2
                        try clear c3
                        try clear c5
                        try clear p6
                        try clear c7
                        try clear c7b0
                        try clear c7b1
                        try clear c8
                        try clear c8b0
                        try clear c8b1
                        try clear c10
                        try clear c10b0
                        try clear c10b1
                        try clear c13
                        try clear c13b0
                        try clear c15
                        try clear c15b0
                        try clear c16
                        try clear c16b0
                        try clear p17
                        try clear q17
                        try clear hx17
                        try clear hf17
                        try clear c19
                        try clear c20
                        try clear c21
                        try clear c24
                        try clear c26
                        try clear hx17_0
                        try clear p1
                        try clear p17
                        try clear p2
                        try clear p6
                        try clear q1
                        try clear q17
                        obtain ⟨x11_3, x12_3, x13_3, rfl, rfl, rfl, HA, HK3, HO_9, HB⟩ := hrel
                        cases gk with
                        | zero => exact absurd HA.out (by simp [laws_FnBurst.l1])
                        | succ k3 =>
                          have H := HA.out
                          clear HA
                          simp only [laws_FnBurst.l1] at H
                          by_cases c27 : x13_3 < ji6
                          · rw [if_pos c27] at H
                            have c27b0 : decide (x13_3 < ji6) = true := decide_eq_true c27
                            clear c27
                            by_cases c28 : 0 ≤ x13_3
                            · rw [if_pos c28] at H
                              have c28b0 : decide (0 ≤ x13_3) = true := decide_eq_true c28
                              clear c28
                              by_cases c29 : x13_3 < (t123.length : Int)
                              · rw [if_pos c29] at H
                                have c29b0 : decide (x13_3 < (t123.length : Int)) = true := decide_eq_true c29
                                clear c29
                                by_cases c30 : (rd t123 x13_3) = 1
                                · rw [if_pos c30] at H
                                  have c30b0 : ((rd t123 x13_3) == 1) = true := beq_iff_eq.mpr c30
                                  have c30b1 : ((rd t123 x13_3) != 1) = false := bne_eq_false_iff_eq.mpr c30
                                  clear c30
                                  by_cases c31 : (wrap64 (x13_3 - x11_3)) < (wrap64 ((wrap64 (1 + (Int.tmod t117 20))) - 1))
                                  · rw [if_pos c31] at H
                                    have c31b0 : decide ((wrap64 (x13_3 - x11_3)) < (wrap64 ((wrap64 (1 + (Int.tmod t117 20))) - 1))) = true := decide_eq_true c31
                                    clear c31
                                    obtain rfl := Option.some.inj H
                                    obtain ⟨Ao32, co32, eo32⟩ := Kd.R_slice HO_9.out
                                    subst eo32
                                    have p127 : 0 ≤ (x13_3 : Int) := of_decide_eq_true (by first | (with_reducible assumption) | assumption)
                                    have q127 : x13_3 < (t123.length : Int) := of_decide_eq_true (by first | (with_reducible assumption) | assumption)
                                    obtain ⟨ad127, e127, hx127_0⟩ := Kd.at_int (Kd.R_reads' HO_9.out).2.2 x13_3 p127 q127
                                    cases e127
                                    replace p127 := eq_true p127
                                    replace q127 := eq_true q127
                                    go_wp2
                                    go_ret
                                    exact ⟨by first | rfl | (simp [errW_none, errW_some] <;> rfl) | (simp only [← hji6]; first | rfl | (simp [errW_none, errW_some] <;> rfl)) | (simp [*, errW_none, errW_some] <;> rfl), by repeat (first | (with_reducible first | exact HB.out | apply below_alloc | apply pw_below_drewN | apply below_drew1) | exact HB.out)⟩
                                  · rw [if_neg c31] at H
                                    have c31b0 : decide ((wrap64 (x13_3 - x11_3)) < (wrap64 ((wrap64 (1 + (Int.tmod t117 20))) - 1))) = false := decide_eq_false c31
                                    clear c31
                                    have H' := Aside0.mk H
                                    clear H
                                    obtain ⟨Ao33, co33, eo33⟩ := Kd.R_slice HO_9.out
                                    subst eo33
                                    have p127 : 0 ≤ (x13_3 : Int) := of_decide_eq_true (by first | (with_reducible assumption) | assumption)
                                    have q127 : x13_3 < (t123.length : Int) := of_decide_eq_true (by first | (with_reducible assumption) | assumption)
                                    obtain ⟨ad127, e127, hx127_0⟩ := Kd.at_int (Kd.R_reads' HO_9.out).2.2 x13_3 p127 q127
                                    cases e127
                                    replace p127 := eq_true p127
                                    replace q127 := eq_true q127
                                    go_wp2
                                    go_roundg k3
                                    case measure => have := HK1.out; have := HJ20.out; have := HK3.out; omega
                                    case rel => exact ⟨(x13_3), (wrap64 (x12_3 + 1)), (wrap64 (x13_3 + 1)), (by first | rfl | (simp; done) | (simp [*]; done)), (by first | rfl | (simp; done) | (simp [*]; done)), (by first | rfl | (simp; done) | (simp [*]; done)), H', ⟨by have := HK1.out; have := HJ20.out; have := HK3.out; omega⟩, ⟨by (with_reducible repeat (first | apply Kd.R_alloc | apply Kd.R_drewN | apply Kd.R_drew)); exact HO_9.out⟩, ⟨by repeat (first | (with_reducible first | exact HB.out | apply below_alloc | apply pw_below_drewN | apply below_drew1) | exact HB.out)⟩⟩
                                · rw [if_neg c30] at H
                                  have c30b0 : ((rd t123 x13_3) == 1) = false := beq_eq_false_iff_ne.mpr c30
                                  have c30b1 : ((rd t123 x13_3) != 1) = true := bne_iff_ne.mpr c30
                                  have H' := Aside0.mk H
                                  clear H
                                  obtain ⟨Ao34, co34, eo34⟩ := Kd.R_slice HO_9.out
                                  subst eo34
                                  have p127 : 0 ≤ (x13_3 : Int) := of_decide_eq_true (by first | (with_reducible assumption) | assumption)
                                  have q127 : x13_3 < (t123.length : Int) := of_decide_eq_true (by first | (with_reducible assumption) | assumption)
                                  obtain ⟨ad127, e127, hx127_0⟩ := Kd.at_int (Kd.R_reads' HO_9.out).2.2 x13_3 p127 q127
                                  cases e127
                                  replace p127 := eq_true p127
                                  replace q127 := eq_true q127
                                  go_wp2
                                  go_roundg k3
                                  case measure => have := HK1.out; have := HJ20.out; have := HK3.out; omega
                                  case rel => exact ⟨(x11_3), (x12_3), (wrap64 (x13_3 + 1)), (by first | rfl | (simp; done) | (simp [*]; done)), (by first | rfl | (simp; done) | (simp [*]; done)), (by first | rfl | (simp; done) | (simp [*]; done)), H', ⟨by have := HK1.out; have := HJ20.out; have := HK3.out; omega⟩, ⟨by (with_reducible repeat (first | apply Kd.R_alloc | apply Kd.R_drewN | apply Kd.R_drew)); exact HO_9.out⟩, ⟨by repeat (first | (with_reducible first | exact HB.out | apply below_alloc | apply pw_below_drewN | apply below_drew1) | exact HB.out)⟩⟩
                              · rw [if_neg c29] at H
                                exact absurd H (by simp)
                            · rw [if_neg c28] at H
                              exact absurd H (by simp)
                          · rw [if_neg c27] at H
                            have c27b0 : decide (x13_3 < ji6) = false := decide_eq_false c27
                            clear c27
                            obtain rfl := Option.some.inj H
                            go_wp2
                            go_ret
                            exact ⟨by first | rfl | (simp [errW_none, errW_some] <;> rfl) | (simp only [← hji6]; first | rfl | (simp [errW_none, errW_some] <;> rfl)) | (simp [*, errW_none, errW_some] <;> rfl), by repeat (first | (with_reducible first | exact HB.out | apply below_alloc | apply pw_below_drewN | apply below_drew1) | exact HB.out)⟩
      · rw [if_neg c8] at H
        exact absurd H (by simp)
    · rw [if_neg c7] at H
      exact absurd H (by simp)

/-- THE ONE PURE STATEMENT of laws_FnBurst: yours. -/
def laws_FnBurst.Pure : Prop := ∀ (l0 : List Int), l0.length ≤ maxLen → l0.length * 1 ≤ 140737488351232 → (∀ x ∈ l0, (Lit.int .u8 x).wf = true) → ∃ k, laws_FnBurst.f k l0 = some true
theorem laws_FnBurst.walk (P : laws_FnBurst.Pure) (a0 : Option Addr) (len0 cap0 : Nat) (z0 : List Int) (w : World) (w0 : (a0 = none ∧ len0 = 0 ∧ cap0 = 0 ∧ z0 = []) ∨ ∃ x, a0 = some x ∧ len0 ≤ cap0 ∧ cap0 ≤ maxLen ∧ z0.length = cap0 ∧ (∀ i, i < z0.length → w.cell? (x.add i) = some (.int .u8 (z0.getD i 0))) ∧ ∀ n ∈ z0, (Lit.int .u8 n).wf = true) (y0 : len0 * 1 ≤ 140737488351232) :
    Calls Try.prog 5 #[.slice a0 len0 cap0] w fun e w' => e = .returned (.bool true) ∧ Below w.heap.size w w' := by
  obtain ⟨l0, rfl, hr0, hm0, hw0, hc0⟩ := ReadsInt.ofRowC w0
  obtain ⟨k, h⟩ := P l0 hm0 y0 hw0
  refine (laws_FnBurst.calls k _ _ l0 true w (Kd.C_of_reads (d := (0 : Int)) (h1 := fun _ => rfl) hr0) hc0 h).mono ?_
  rintro e w' ⟨rfl, hd⟩
  exact ⟨rfl, hd⟩

end Go.Proofs.Ytamgllkncpnmiaa.PFnBurst
