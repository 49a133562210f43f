/- The functions that FnThreshold reaches, each with its walk; written by a program (own.py). -/
import Derived.Test.YtonmdhaollhekaaQFnThresholdx0
import Derived.Test.YtonmdhaollhekaaQFnThresholdx1
import Derived.Test.YtonmdhaollhekaaQFnThresholdx3
import Derived.Test.YtonmdhaollhekaaQFnThresholdx4
namespace Go.Proofs.Ytonmdhaollhekaa.PFnThreshold
open Go.RowKit Go.Proofs.YtonmdhaollhekaaW.PrintWords Go.Proofs.YtonmdhaollhekaaW.PrintLast Go.Proofs.YtonmdhaollhekaaW.PrintMore
attribute [local go_sem] max2_int min2_int max_two min_two max_three min_three max_four min_four   -- for this text's walks alone
set_option linter.unusedVariables false
set_option linter.unusedSimpArgs false

/-! ### laws_FnThreshold: function 14 -/
mutual
def laws_FnThreshold.j0 : Nat → Int → Int → Int → Int → Bool → Bool → Option (Bool)
  | 0, _, _, _, _, _, _ => none
  | k + 1, x3, x4, x5, x6, x7, x51 => if x51 = true then (some false) else (if x7 = true then (laws_FnThreshold.j1 k x3 x4 x5 x6 (decide (x3 > 40))) else (laws_FnThreshold.j1 k x3 x4 x5 x6 true))
def laws_FnThreshold.j1 : Nat → Int → Int → Int → Int → Bool → Option (Bool)
  | 0, _, _, _, _, _ => none
  | k + 1, x3, x4, x5, x6, x57 => if x57 = true then (some true) else (if 0 ≤ (IntKind.u64.wrap (x3)) then ((impl_Ways.f k x3 x6).bind fun t249 => (if (wrap64 (t249 * x5)) ≤ (shl .i64 x4 (IntKind.u64.wrap (x3))) then (if x6 = (wrap64 (-x3)) then (some true) else ((impl_Ways.f k x3 (wrap64 (x6 - 1))).bind fun t250 => (some (decide ((wrap64 (t250 * x5)) > (shl .i64 x4 (IntKind.u64.wrap (x3)))))))) else (some false))) else (none))
end
def laws_FnThreshold.f (k : Nat) (l0 : List Int) : Option (Bool) := (laws_big.f l0).bind fun t238 => (if t238 = true then (some true) else ((spec_DrawThreshold.f k l0).bind fun bt239 => ((impl_Threshold.f k bt239.1 bt239.2.1 bt239.2.2).bind fun bt242 => ((spec_Threshold.f k bt239.1 bt239.2.1 bt239.2.2).bind fun bt244 => (if (bt242.2 != bt244.2) = true then (some false) else ((impl_Threshold.f k 2 1 4).bind fun bt246 => (if bt246.2 = true then (if bt246.1 = 1 then ((impl_Ways.f k 2 2).bind fun t248 => (laws_FnThreshold.j0 k bt239.1 bt239.2.1 bt239.2.2 bt242.1 bt242.2 (t248 != 1))) else (laws_FnThreshold.j0 k bt239.1 bt239.2.1 bt239.2.2 bt242.1 bt242.2 true)) else (laws_FnThreshold.j0 k bt239.1 bt239.2.1 bt239.2.2 bt242.1 bt242.2 true))))))))
theorem laws_FnThreshold.mono_l : ∀ k, (∀ y0 y1 y2 y3 y4 y5, LeO (laws_FnThreshold.j0 k y0 y1 y2 y3 y4 y5) (laws_FnThreshold.j0 (k + 1) y0 y1 y2 y3 y4 y5)) ∧ (∀ y0 y1 y2 y3 y4, LeO (laws_FnThreshold.j1 k y0 y1 y2 y3 y4) (laws_FnThreshold.j1 (k + 1) y0 y1 y2 y3 y4))
  | 0 => ⟨fun _ _ _ _ _ _ r h => by simp [laws_FnThreshold.j0] at h, fun _ _ _ _ _ r h => by simp [laws_FnThreshold.j1] at h⟩
  | k + 1 => by
    obtain ⟨ih0, ih1⟩ := laws_FnThreshold.mono_l k
    refine ⟨?_, ?_⟩
    · intro y0 y1 y2 y3 y4 y5
      unfold laws_FnThreshold.j0
      repeat' first
      | (with_reducible exact ih0 _ _ _ _ _ _)
      | (with_reducible exact ih1 _ _ _ _ _)
      | (with_reducible exact impl_Threshold.mono _ _ _ _)
      | (with_reducible exact impl_Ways.mono _ _ _)
      | (with_reducible exact spec_DrawThreshold.mono _ _)
      | (with_reducible exact spec_Threshold.mono _ _ _ _)
      | (with_reducible exact LeO.refl _)
      | (with_reducible exact LeO.none _)
      | (with_reducible refine LeO.ite ?_ ?_)
      | (with_reducible refine LeO.bind ?_ (fun _ => ?_))
      | exact ih0 _ _ _ _ _ _
      | exact ih1 _ _ _ _ _
      | exact impl_Threshold.mono _ _ _ _
      | exact impl_Ways.mono _ _ _
      | exact spec_DrawThreshold.mono _ _
      | exact spec_Threshold.mono _ _ _ _
      | exact LeO.none _
      | refine LeO.ite ?_ ?_
      | refine LeO.bind ?_ (fun _ => ?_)
    · intro y0 y1 y2 y3 y4
      unfold laws_FnThreshold.j1
      repeat' first
      | (with_reducible exact ih0 _ _ _ _ _ _)
      | (with_reducible exact ih1 _ _ _ _ _)
      | (with_reducible exact impl_Threshold.mono _ _ _ _)
      | (with_reducible exact impl_Ways.mono _ _ _)
      | (with_reducible exact spec_DrawThreshold.mono _ _)
      | (with_reducible exact spec_Threshold.mono _ _ _ _)
      | (with_reducible exact LeO.refl _)
      | (with_reducible exact LeO.none _)
      | (with_reducible refine LeO.ite ?_ ?_)
      | (with_reducible refine LeO.bind ?_ (fun _ => ?_))
      | exact ih0 _ _ _ _ _ _
      | exact ih1 _ _ _ _ _
      | exact impl_Threshold.mono _ _ _ _
      | exact impl_Ways.mono _ _ _
      | exact spec_DrawThreshold.mono _ _
      | exact spec_Threshold.mono _ _ _ _
      | exact LeO.none _
      | refine LeO.ite ?_ ?_
      | refine LeO.bind ?_ (fun _ => ?_)
theorem laws_FnThreshold.mono : ∀ a0 k, LeO (laws_FnThreshold.f k a0) (laws_FnThreshold.f (k + 1) a0) := by
  intro a0 k
  obtain ⟨ih0, ih1⟩ := laws_FnThreshold.mono_l k
  unfold laws_FnThreshold.f
  repeat' first
      | (with_reducible exact ih0 _ _ _ _ _ _)
      | (with_reducible exact ih1 _ _ _ _ _)
      | (with_reducible exact impl_Threshold.mono _ _ _ _)
      | (with_reducible exact impl_Ways.mono _ _ _)
      | (with_reducible exact spec_DrawThreshold.mono _ _)
      | (with_reducible exact spec_Threshold.mono _ _ _ _)
      | (with_reducible exact LeO.refl _)
      | (with_reducible exact LeO.none _)
      | (with_reducible refine LeO.ite ?_ ?_)
      | (with_reducible refine LeO.bind ?_ (fun _ => ?_))
      | exact ih0 _ _ _ _ _ _
      | exact ih1 _ _ _ _ _
      | exact impl_Threshold.mono _ _ _ _
      | exact impl_Ways.mono _ _ _
      | exact spec_DrawThreshold.mono _ _
      | exact spec_Threshold.mono _ _ _ _
      | exact LeO.none _
      | refine LeO.ite ?_ ?_
      | refine LeO.bind ?_ (fun _ => ?_)
set_option maxHeartbeats 8000000 in
set_option maxRecDepth 100000 in
theorem laws_FnThreshold.calls (k : Nat) (A0 : Option Addr) (c0 : Nat) (l0 : List Int) (r : Bool) (w : World) (hr0 : Kd.C (Kd.int .u8) w A0 l0.length l0) (hc0 : l0.length ≤ c0) (h : laws_FnThreshold.f k l0 = some r) :
    Calls Try.prog 14 #[.slice A0 l0.length c0] w fun e w' => e = .returned (.bool r) ∧ Below w.heap.size w w' := by
  have HR0 := Aside0.mk hr0
  have HC0 := Aside0.mk hc0
  clear hr0 hc0
  have HB := Aside0.mk (Below.refl w.heap.size w)
  have H : ((laws_big.f l0).bind fun t238 => (if t238 = true then (some true) else ((spec_DrawThreshold.f k l0).bind fun bt239 => ((impl_Threshold.f k bt239.1 bt239.2.1 bt239.2.2).bind fun bt242 => ((spec_Threshold.f k bt239.1 bt239.2.1 bt239.2.2).bind fun bt244 => (if (bt242.2 != bt244.2) = true then (some false) else ((impl_Threshold.f k 2 1 4).bind fun bt246 => (if bt246.2 = true then (if bt246.1 = 1 then ((impl_Ways.f k 2 2).bind fun t248 => (laws_FnThreshold.j0 k bt239.1 bt239.2.1 bt239.2.2 bt242.1 bt242.2 (t248 != 1))) else (laws_FnThreshold.j0 k bt239.1 bt239.2.1 bt239.2.2 bt242.1 bt242.2 true)) else (laws_FnThreshold.j0 k bt239.1 bt239.2.1 bt239.2.2 bt242.1 bt242.2 true))))))))) = some r := h
  clear h
  replace H := Option.bind_eq_some_iff.mp H
  obtain ⟨t238, A20, H⟩ := H
  replace H : (if t238 = true then (some true) else ((spec_DrawThreshold.f k l0).bind fun bt239 => ((impl_Threshold.f k bt239.1 bt239.2.1 bt239.2.2).bind fun bt242 => ((spec_Threshold.f k bt239.1 bt239.2.1 bt239.2.2).bind fun bt244 => (if (bt242.2 != bt244.2) = true then (some false) else ((impl_Threshold.f k 2 1 4).bind fun bt246 => (if bt246.2 = true then (if bt246.1 = 1 then ((impl_Ways.f k 2 2).bind fun t248 => (laws_FnThreshold.j0 k bt239.1 bt239.2.1 bt239.2.2 bt242.1 bt242.2 (t248 != 1))) else (laws_FnThreshold.j0 k bt239.1 bt239.2.1 bt239.2.2 bt242.1 bt242.2 true)) else (laws_FnThreshold.j0 k bt239.1 bt239.2.1 bt239.2.2 bt242.1 bt242.2 true)))))))) = some r := H
  have A2 := Aside0.mk A20
  clear A20
  by_cases c3 : t238 = true
  · subst c3
    have H1 : (some true) = some r := by rw [if_pos rfl] at H; exact H
    clear H
    have H := H1
    clear H1
    obtain rfl := Option.some.inj H
    go_enter Try.func14, Try.ntmps14
    go_wp2_with (first | ((with_reducible refine gate_callee (f := 27) rfl ?_); refine goesL_ (some 14) rfl rfl Try.func27 (by kernel_rfl) rfl #[.slice A0 l0.length c0] rfl (by (try simp only [List.map_toArray, List.map_cons, List.map_nil]); first | done | rfl | (simp only [List.length_drop, List.length_take]; rfl)) ?_; (with_reducible refine (laws_big.calls _ _ l0 true _ ?side1 ?side2 A2.out).mono ?_); (case side1 => repeat (first | exact HR0.out | (with_reducible refine Kd.C_alloc ?_ _) | (with_reducible refine Kd.C_drewN ?_ _) | (with_reducible refine Kd.C_drew ?_))); (case side2 => exact HC0.out); rintro e w' ⟨rfl, ⟨nd, rfl⟩⟩; refine ⟨_, rfl, ?_⟩))
    go_ret
    exact ⟨by first | rfl | (simp [errW_none, errW_some] <;> rfl) | (simp [*, errW_none, errW_some] <;> rfl), by repeat (first | (with_reducible first | exact HB.out | apply below_alloc | apply pw_below_drewN | apply below_drew1) | exact HB.out)⟩
  · replace c3 := Bool.eq_false_iff.mpr c3
    subst c3
    have H1 : ((spec_DrawThreshold.f k l0).bind fun bt239 => ((impl_Threshold.f k bt239.1 bt239.2.1 bt239.2.2).bind fun bt242 => ((spec_Threshold.f k bt239.1 bt239.2.1 bt239.2.2).bind fun bt244 => (if (bt242.2 != bt244.2) = true then (some false) else ((impl_Threshold.f k 2 1 4).bind fun bt246 => (if bt246.2 = true then (if bt246.1 = 1 then ((impl_Ways.f k 2 2).bind fun t248 => (laws_FnThreshold.j0 k bt239.1 bt239.2.1 bt239.2.2 bt242.1 bt242.2 (t248 != 1))) else (laws_FnThreshold.j0 k bt239.1 bt239.2.1 bt239.2.2 bt242.1 bt242.2 true)) else (laws_FnThreshold.j0 k bt239.1 bt239.2.1 bt239.2.2 bt242.1 bt242.2 true))))))) = some r := by rw [if_neg (show ¬ (false = true) by decide)] at H; exact H
    clear H
    have H := H1
    clear H1
    replace H := Option.bind_eq_some_iff.mp H
    obtain ⟨⟨t239, t240, t241⟩, A40, H⟩ := H
    replace H : ((impl_Threshold.f k t239 t240 t241).bind fun bt242 => ((spec_Threshold.f k t239 t240 t241).bind fun bt244 => (if (bt242.2 != bt244.2) = true then (some false) else ((impl_Threshold.f k 2 1 4).bind fun bt246 => (if bt246.2 = true then (if bt246.1 = 1 then ((impl_Ways.f k 2 2).bind fun t248 => (laws_FnThreshold.j0 k t239 t240 t241 bt242.1 bt242.2 (t248 != 1))) else (laws_FnThreshold.j0 k t239 t240 t241 bt242.1 bt242.2 true)) else (laws_FnThreshold.j0 k t239 t240 t241 bt242.1 bt242.2 true)))))) = some r := H
    have A4 := Aside0.mk A40
    clear A40
    replace H := Option.bind_eq_some_iff.mp H
    obtain ⟨⟨t242, t243⟩, A50, H⟩ := H
    replace H : ((spec_Threshold.f k t239 t240 t241).bind fun bt244 => (if (t243 != bt244.2) = true then (some false) else ((impl_Threshold.f k 2 1 4).bind fun bt246 => (if bt246.2 = true then (if bt246.1 = 1 then ((impl_Ways.f k 2 2).bind fun t248 => (laws_FnThreshold.j0 k t239 t240 t241 t242 t243 (t248 != 1))) else (laws_FnThreshold.j0 k t239 t240 t241 t242 t243 true)) else (laws_FnThreshold.j0 k t239 t240 t241 t242 t243 true))))) = some r := H
    have A5 := Aside0.mk A50
    clear A50
    replace H := Option.bind_eq_some_iff.mp H
    obtain ⟨⟨t244, t245⟩, A60, H⟩ := H
    replace H : (if (t243 != t245) = true then (some false) else ((impl_Threshold.f k 2 1 4).bind fun bt246 => (if bt246.2 = true then (if bt246.1 = 1 then ((impl_Ways.f k 2 2).bind fun t248 => (laws_FnThreshold.j0 k t239 t240 t241 t242 t243 (t248 != 1))) else (laws_FnThreshold.j0 k t239 t240 t241 t242 t243 true)) else (laws_FnThreshold.j0 k t239 t240 t241 t242 t243 true)))) = some r := H
    have A6 := Aside0.mk A60
    clear A60
    by_cases c7 : (t243 != t245) = true
    · rw [if_pos c7] at H
      have c7b0 : (t243 != t245) = true := c7
      (try (have c7b1 : decide (t243 = t245) = false := by simpa using c7))
      (try (have c7b2 : (t243 == t245) = false := by simpa using c7))
      (try (have c7b3 : ¬ (t243 = t245) := by simpa using c7))
      clear c7
      obtain rfl := Option.some.inj H
      go_enter Try.func14, Try.ntmps14
      go_wp2_with (first | ((with_reducible refine gate_callee (f := 27) rfl ?_); refine goesL_ (some 14) rfl rfl Try.func27 (by kernel_rfl) rfl #[.slice A0 l0.length c0] rfl (by (try simp only [List.map_toArray, List.map_cons, List.map_nil]); first | done | rfl | (simp only [List.length_drop, List.length_take]; rfl)) ?_; (with_reducible refine (laws_big.calls _ _ l0 false _ ?side1 ?side2 A2.out).mono ?_); (case side1 => repeat (first | exact HR0.out | (with_reducible refine Kd.C_alloc ?_ _) | (with_reducible refine Kd.C_drewN ?_ _) | (with_reducible refine Kd.C_drew ?_))); (case side2 => exact HC0.out); rintro e w' ⟨rfl, ⟨nd, rfl⟩⟩; refine ⟨_, rfl, ?_⟩) | ((with_reducible refine gate_callee (f := 45) rfl ?_); refine goesL_ (some 17) rfl rfl Try.func45 (by kernel_rfl) rfl #[.slice A0 l0.length c0] rfl (by (try simp only [List.map_toArray, List.map_cons, List.map_nil]); first | done | rfl | (simp only [List.length_drop, List.length_take]; rfl)) ?_; (with_reducible refine (spec_DrawThreshold.calls k _ _ l0 t239 t240 t241 _ ?side1 ?side2 A4.out).mono ?_); (case side1 => repeat (first | exact HR0.out | (with_reducible refine Kd.C_alloc ?_ _) | (with_reducible refine Kd.C_drewN ?_ _) | (with_reducible refine Kd.C_drew ?_))); (case side2 => exact HC0.out); rintro e w8 ⟨rfl, hb⟩; refine ⟨_, rfl, ?_⟩; have n0_ := Aside0.mk (below_step (by repeat (first | (with_reducible first | exact HB.out | apply below_alloc | apply pw_below_drewN | apply below_drew1) | exact HB.out)) hb); clear HB; have HB := n0_; clear n0_; (try clear hb); (try clear hb2); (try clear hk); (try clear hi)) | ((with_reducible refine gate_callee (f := 44) rfl ?_); refine goesL_ (some 25) rfl rfl Try.func44 (by kernel_rfl) rfl #[.int .i64 t239, .int .i64 t240, .int .i64 t241] rfl (by (try simp only [List.map_toArray, List.map_cons, List.map_nil]); first | done | rfl | (simp only [List.length_drop, List.length_take]; rfl)) ?_; (with_reducible refine (impl_Threshold.calls k t239 t240 t241 t242 t243 _ A5.out).mono ?_); rintro e w' ⟨rfl, ⟨nd, rfl⟩⟩; refine ⟨_, rfl, ?_⟩) | ((with_reducible refine gate_callee (f := 43) rfl ?_); refine goesL_ (some 32) rfl rfl Try.func43 (by kernel_rfl) rfl #[.int .i64 t239, .int .i64 t240, .int .i64 t241] rfl (by (try simp only [List.map_toArray, List.map_cons, List.map_nil]); first | done | rfl | (simp only [List.length_drop, List.length_take]; rfl)) ?_; (with_reducible refine (spec_Threshold.calls k t239 t240 t241 t244 t245 _ A6.out).mono ?_); rintro e w9 ⟨rfl, hb⟩; refine ⟨_, rfl, ?_⟩; have n0_ := Aside0.mk (below_step (by repeat (first | (with_reducible first | exact HB.out | apply below_alloc | apply pw_below_drewN | apply below_drew1) | exact HB.out)) hb); clear HB; have HB := n0_; clear n0_; (try clear hb); (try clear hb2); (try clear hk); (try clear hi)))
      go_ret
      exact ⟨by first | rfl | (simp [errW_none, errW_some] <;> rfl) | (simp [*, errW_none, errW_some] <;> rfl), by repeat (first | (with_reducible first | exact HB.out | apply below_alloc | apply pw_below_drewN | apply below_drew1) | exact HB.out)⟩
    · rw [if_neg c7] at H
      have c7b0 : (t243 != t245) = false := by simpa using c7
      (try (have c7b1 : decide (t243 = t245) = true := by simpa using c7))
      (try (have c7b2 : (t243 == t245) = true := by simpa using c7))
      clear c7
      replace H := Option.bind_eq_some_iff.mp H
      obtain ⟨⟨t246, t247⟩, A100, H⟩ := H
      replace H : (if t247 = true then (if t246 = 1 then ((impl_Ways.f k 2 2).bind fun t248 => (laws_FnThreshold.j0 k t239 t240 t241 t242 t243 (t248 != 1))) else (laws_FnThreshold.j0 k t239 t240 t241 t242 t243 true)) else (laws_FnThreshold.j0 k t239 t240 t241 t242 t243 true)) = some r := H
      have A10 := Aside0.mk A100
      clear A100
      have HC11 := Aside0.mk H
      clear H
      go_enter Try.func14, Try.ntmps14
      go_upto_region 9 with (first | ((with_reducible refine gate_callee (f := 27) rfl ?_); refine goesL_ (some 14) rfl rfl Try.func27 (by kernel_rfl) rfl #[.slice A0 l0.length c0] rfl (by (try simp only [List.map_toArray, List.map_cons, List.map_nil]); first | done | rfl | (simp only [List.length_drop, List.length_take]; rfl)) ?_; (with_reducible refine (laws_big.calls _ _ l0 false _ ?side1 ?side2 A2.out).mono ?_); (case side1 => repeat (first | exact HR0.out | (with_reducible refine Kd.C_alloc ?_ _) | (with_reducible refine Kd.C_drewN ?_ _) | (with_reducible refine Kd.C_drew ?_))); (case side2 => exact HC0.out); rintro e w' ⟨rfl, ⟨nd, rfl⟩⟩; refine ⟨_, rfl, ?_⟩) | ((with_reducible refine gate_callee (f := 45) rfl ?_); refine goesL_ (some 17) rfl rfl Try.func45 (by kernel_rfl) rfl #[.slice A0 l0.length c0] rfl (by (try simp only [List.map_toArray, List.map_cons, List.map_nil]); first | done | rfl | (simp only [List.length_drop, List.length_take]; rfl)) ?_; (with_reducible refine (spec_DrawThreshold.calls k _ _ l0 t239 t240 t241 _ ?side1 ?side2 A4.out).mono ?_); (case side1 => repeat (first | exact HR0.out | (with_reducible refine Kd.C_alloc ?_ _) | (with_reducible refine Kd.C_drewN ?_ _) | (with_reducible refine Kd.C_drew ?_))); (case side2 => exact HC0.out); rintro e w12 ⟨rfl, hb⟩; refine ⟨_, rfl, ?_⟩; have n0_ := Aside0.mk (below_step (by repeat (first | (with_reducible first | exact HB.out | apply below_alloc | apply pw_below_drewN | apply below_drew1) | exact HB.out)) hb); clear HB; have HB := n0_; clear n0_; (try clear hb); (try clear hb2); (try clear hk); (try clear hi)) | ((with_reducible refine gate_callee (f := 44) rfl ?_); refine goesL_ (some 25) rfl rfl Try.func44 (by kernel_rfl) rfl #[.int .i64 t239, .int .i64 t240, .int .i64 t241] rfl (by (try simp only [List.map_toArray, List.map_cons, List.map_nil]); first | done | rfl | (simp only [List.length_drop, List.length_take]; rfl)) ?_; (with_reducible refine (impl_Threshold.calls k t239 t240 t241 t242 t243 _ A5.out).mono ?_); rintro e w' ⟨rfl, ⟨nd, rfl⟩⟩; refine ⟨_, rfl, ?_⟩) | ((with_reducible refine gate_callee (f := 43) rfl ?_); refine goesL_ (some 32) rfl rfl Try.func43 (by kernel_rfl) rfl #[.int .i64 t239, .int .i64 t240, .int .i64 t241] rfl (by (try simp only [List.map_toArray, List.map_cons, List.map_nil]); first | done | rfl | (simp only [List.length_drop, List.length_take]; rfl)) ?_; (with_reducible refine (spec_Threshold.calls k t239 t240 t241 t244 t245 _ A6.out).mono ?_); rintro e w13 ⟨rfl, hb⟩; refine ⟨_, rfl, ?_⟩; have n0_ := Aside0.mk (below_step (by repeat (first | (with_reducible first | exact HB.out | apply below_alloc | apply pw_below_drewN | apply below_drew1) | exact HB.out)) hb); clear HB; have HB := n0_; clear n0_; (try clear hb); (try clear hb2); (try clear hk); (try clear hi)) | ((with_reducible refine gate_callee (f := 44) rfl ?_); refine goesL_ (some 39) rfl rfl Try.func44 (by kernel_rfl) rfl #[.int .i64 2, .int .i64 1, .int .i64 4] rfl (by (try simp only [List.map_toArray, List.map_cons, List.map_nil]); first | done | rfl | (simp only [List.length_drop, List.length_take]; rfl)) ?_; (with_reducible refine (impl_Threshold.calls k 2 1 4 t246 t247 _ A10.out).mono ?_); rintro e w' ⟨rfl, ⟨nd, rfl⟩⟩; refine ⟨_, rfl, ?_⟩))
      (try simp only [Act.put, List.setIfInBounds_toArray, List.set_cons_zero, List.set_cons_succ])
      go_cut [51] (fun v51 wc => ∃ (kq : Nat) (x51_10 : Bool), v51 = .bool x51_10 ∧ Aside0 (laws_FnThreshold.j0 kq t239 t240 t241 t242 t243 x51_10 = some r) ∧ Aside0 (kq ≤ k) ∧ Aside0 (Below w.heap.size w wc))
      case first =>
        have H := HC11.out
        clear HC11
        by_cases c14 : t247 = true
        · subst c14
          have H1 : (if t246 = 1 then ((impl_Ways.f k 2 2).bind fun t248 => (laws_FnThreshold.j0 k t239 t240 t241 t242 t243 (t248 != 1))) else (laws_FnThreshold.j0 k t239 t240 t241 t242 t243 true)) = some r := by rw [if_pos rfl] at H; exact H
          clear H
          have H := H1
          clear H1
          by_cases c15 : t246 = 1
          · rw [if_pos c15] at H
            have c15b0 : (t246 == 1) = true := beq_iff_eq.mpr c15
            have c15b1 : (t246 != 1) = false := bne_eq_false_iff_eq.mpr c15
            clear c15
            (first | rw [c15b0] | (simp only [i64_w, i32_w]; rw [c15b0]) | skip)
            replace H := Option.bind_eq_some_iff.mp H
            obtain ⟨t248, A160, H⟩ := H
            replace H : (laws_FnThreshold.j0 k t239 t240 t241 t242 t243 (t248 != 1)) = some r := H
            have A16 := Aside0.mk A160
            clear A160
            have H' := Aside0.mk H
            clear H
            go_wp2_with (first | (go_at_call 26; (with_reducible refine (impl_Ways.calls k 2 2 t248 _ A16.out).mono ?_); rintro e w' ⟨rfl, ⟨nd, rfl⟩⟩))
            go_meet
            case rel => exact ⟨_, ((t248 != 1)), (by first | rfl | (simp; done) | (simp [*]; done)), H', ⟨by first | omega | exact Nat.le_refl _⟩, ⟨by repeat (first | (with_reducible first | exact HB.out | apply below_alloc | apply pw_below_drewN | apply below_drew1) | exact HB.out)⟩⟩
          · rw [if_neg c15] at H
            have c15b0 : (t246 == 1) = false := beq_eq_false_iff_ne.mpr c15
            have c15b1 : (t246 != 1) = true := bne_iff_ne.mpr c15
            (first | rw [c15b0] | (simp only [i64_w, i32_w]; rw [c15b0]) | skip)
            have H' := Aside0.mk H
            clear H
            go_wp2
            go_meet
            case rel => exact ⟨_, (true), (by first | rfl | (simp; done) | (simp [*]; done)), H', ⟨by first | omega | exact Nat.le_refl _⟩, ⟨by repeat (first | (with_reducible first | exact HB.out | apply below_alloc | apply pw_below_drewN | apply below_drew1) | exact HB.out)⟩⟩
        · replace c14 := Bool.eq_false_iff.mpr c14
          subst c14
          have H1 : (laws_FnThreshold.j0 k t239 t240 t241 t242 t243 true) = some r := by rw [if_neg (show ¬ (false = true) by decide)] at H; exact H
          clear H
          have H := H1
          clear H1
          have H' := Aside0.mk H
          clear H
          go_wp2
          go_meet
          case rel => exact ⟨_, (true), (by first | rfl | (simp; done) | (simp [*]; done)), H', ⟨by first | omega | exact Nat.le_refl _⟩, ⟨by repeat (first | (with_reducible first | exact HB.out | apply below_alloc | apply pw_below_drewN | apply below_drew1) | exact HB.out)⟩⟩
      case rest =>
        clear HC11
        try clear c1
        try clear c2
        try clear p2
        try clear c3
        try clear c4
        try clear c7
        try clear c7b0
        try clear c7b1
        try clear c7b2
        try clear c14
        try clear c15
        try clear c15b0
        try clear c15b1
        obtain ⟨kq, x51_10, rfl, HA, HJ10, HB⟩ := hcut
        cases kq with
        | zero => exact absurd HA.out (by simp [laws_FnThreshold.j0])
        | succ kj10 =>
          have H := HA.out
          clear HA
          simp only [laws_FnThreshold.j0] at H
          by_cases c17 : x51_10 = true
          · subst c17
            have H1 : (some false) = some r := by rw [if_pos rfl] at H; exact H
            clear H
            have H := H1
            clear H1
            obtain rfl := Option.some.inj H
            go_wp2
            go_ret
            exact ⟨by first | rfl | (simp [errW_none, errW_some] <;> rfl) | (simp [*, errW_none, errW_some] <;> rfl), by repeat (first | (with_reducible first | exact HB.out | apply below_alloc | apply pw_below_drewN | apply below_drew1) | exact HB.out)⟩
          · replace c17 := Bool.eq_false_iff.mpr c17
            subst c17
            have H1 : (if t243 = true then (laws_FnThreshold.j1 kj10 t239 t240 t241 t242 (decide (t239 > 40))) else (laws_FnThreshold.j1 kj10 t239 t240 t241 t242 true)) = some r := by rw [if_neg (show ¬ (false = true) by decide)] at H; exact H
            clear H
            have H := H1
            clear H1
            have HC18 := Aside0.mk H
            clear H
            go_upto_region 11 with (fail)
            go_cut [57] (fun v57 wc => ∃ (kq : Nat) (x57_17 : Bool), v57 = .bool x57_17 ∧ Aside0 (laws_FnThreshold.j1 kq t239 t240 t241 t242 x57_17 = some r) ∧ Aside0 (kq ≤ kj10) ∧ Aside0 (Below w.heap.size w wc))
            case first =>
              have H := HC18.out
              clear HC18
              by_cases c19 : t243 = true
              · subst c19
                have H1 : (laws_FnThreshold.j1 kj10 t239 t240 t241 t242 (decide (t239 > 40))) = some r := by rw [if_pos rfl] at H; exact H
                clear H
                have H := H1
                clear H1
                have H' := Aside0.mk H
                clear H
                go_wp2
                go_meet
                case rel => exact ⟨_, (decide (t239 > 40)), (by first | rfl | (simp; done) | (simp [*]; done)), H', ⟨by have := HJ10.out; first | omega | exact Nat.le_refl _⟩, ⟨by repeat (first | (with_reducible first | exact HB.out | apply below_alloc | apply pw_below_drewN | apply below_drew1) | exact HB.out)⟩⟩
              · replace c19 := Bool.eq_false_iff.mpr c19
                subst c19
                have H1 : (laws_FnThreshold.j1 kj10 t239 t240 t241 t242 true) = some r := by rw [if_neg (show ¬ (false = true) by decide)] at H; exact H
                clear H
                have H := H1
                clear H1
                have H' := Aside0.mk H
                clear H
                go_wp2
                go_meet
                case rel => exact ⟨_, (true), (by first | rfl | (simp; done) | (simp [*]; done)), H', ⟨by have := HJ10.out; first | omega | exact Nat.le_refl _⟩, ⟨by repeat (first | (with_reducible first | exact HB.out | apply below_alloc | apply pw_below_drewN | apply below_drew1) | exact HB.out)⟩⟩
            case rest =>
              clear HC18
              try clear c1
              try clear c2
              try clear p2
              try clear c3
              try clear c4
              try clear c7
              try clear c7b0
              try clear c7b1
              try clear c7b2
              try clear c14
              try clear c15
              try clear c15b0
              try clear c15b1
              try clear c17
              try clear c19
              try clear p2
              obtain ⟨kq, x57_17, rfl, HA, HJ17, HB⟩ := hcut
              cases kq with
              | zero => exact absurd HA.out (by simp [laws_FnThreshold.j1])
              | succ kj17 =>
                have H := HA.out
                clear HA
                simp only [laws_FnThreshold.j1] at H
                by_cases c20 : x57_17 = true
                · subst c20
                  have H1 : (some true) = some r := by rw [if_pos rfl] at H; exact H
                  clear H
                  have H := H1
                  clear H1
                  obtain rfl := Option.some.inj H
                  go_wp2
                  go_ret
                  exact ⟨by first | rfl | (simp [errW_none, errW_some] <;> rfl) | (simp [*, errW_none, errW_some] <;> rfl), by repeat (first | (with_reducible first | exact HB.out | apply below_alloc | apply pw_below_drewN | apply below_drew1) | exact HB.out)⟩
                · replace c20 := Bool.eq_false_iff.mpr c20
                  subst c20
                  have H1 : (if 0 ≤ (IntKind.u64.wrap (t239)) then ((impl_Ways.f kj17 t239 t242).bind fun t249 => (if (wrap64 (t249 * t241)) ≤ (shl .i64 t240 (IntKind.u64.wrap (t239))) then (if t242 = (wrap64 (-t239)) then (some true) else ((impl_Ways.f kj17 t239 (wrap64 (t242 - 1))).bind fun t250 => (some (decide ((wrap64 (t250 * t241)) > (shl .i64 t240 (IntKind.u64.wrap (t239)))))))) else (some false))) else (none)) = some r := by rw [if_neg (show ¬ (false = true) by decide)] at H; exact H
                  clear H
                  have H := H1
                  clear H1
                  obtain ⟨ji21, hji21⟩ : ∃ j_ : Int, (IntKind.u64.wrap (t239)) = j_ := ⟨_, rfl⟩
                  replace H : (if 0 ≤ (ji21) then ((impl_Ways.f kj17 t239 t242).bind fun t249 => (if (wrap64 (t249 * t241)) ≤ (shl .i64 t240 (ji21)) then (if t242 = (wrap64 (-t239)) then (some true) else ((impl_Ways.f kj17 t239 (wrap64 (t242 - 1))).bind fun t250 => (some (decide ((wrap64 (t250 * t241)) > (shl .i64 t240 (ji21))))))) else (some false))) else (none)) = some r := by first | (rw [hji21] at H; exact H) | (simp only [hji21] at H ⊢; exact H)
                  by_cases c22 : 0 ≤ (ji21)
                  · rw [if_pos c22] at H
                    have c22b0 := eq_true c22
                    have c22b1 : decide (0 ≤ (ji21)) = true := decide_eq_true c22
                    clear c22
                    obtain ⟨ji23, hji23⟩ : ∃ j_ : Int, (shl .i64 t240 (ji21)) = j_ := ⟨_, rfl⟩
                    replace H : ((impl_Ways.f kj17 t239 t242).bind fun t249 => (if (wrap64 (t249 * t241)) ≤ (ji23) then (if t242 = (wrap64 (-t239)) then (some true) else ((impl_Ways.f kj17 t239 (wrap64 (t242 - 1))).bind fun t250 => (some (decide ((wrap64 (t250 * t241)) > (ji23)))))) else (some false))) = some r := by first | (rw [hji23] at H; exact H) | (simp only [hji23] at H ⊢; exact H)
                    have hji23_ : (IntKind.i64.wrap (t240 * 2 ^ min (ji21).toNat 64)) = ji23 := hji23
                    have hji23z : (ji21) ≤ 64 → (IntKind.i64.wrap (t240 * 2 ^ (ji21).toNat)) = ji23 := shl_small hji23
                    have hji23y : (wrap64 (t240 * 2 ^ min (ji21).toNat 64)) = ji23 := (i64_w _).symm.trans hji23_
                    have hji23x : (ji21) ≤ 64 → (wrap64 (t240 * 2 ^ (ji21).toNat)) = ji23 := fun h_ => (i64_w _).symm.trans (hji23z h_)
                    replace H := Option.bind_eq_some_iff.mp H
                    obtain ⟨t249, A240, H⟩ := H
                    replace H : (if (wrap64 (t249 * t241)) ≤ (ji23) then (if t242 = (wrap64 (-t239)) then (some true) else ((impl_Ways.f kj17 t239 (wrap64 (t242 - 1))).bind fun t250 => (some (decide ((wrap64 (t250 * t241)) > (ji23)))))) else (some false)) = some r := H
                    have A24 := Aside0.mk A240
                    clear A240
                    by_cases c25 : (wrap64 (t249 * t241)) ≤ (ji23)
                    · rw [if_pos c25] at H
                      have c25b0 : decide ((wrap64 (t249 * t241)) ≤ (ji23)) = true := decide_eq_true c25
                      clear c25
                      by_cases c26 : t242 = (wrap64 (-t239))
                      · rw [if_pos c26] at H
                        have c26b0 : (t242 == (wrap64 (-t239))) = true := beq_iff_eq.mpr c26
                        have c26b1 : (t242 != (wrap64 (-t239))) = false := bne_eq_false_iff_eq.mpr c26
                        clear c26
                        obtain rfl := Option.some.inj H
                        go_wp2_with (first | ((with_reducible refine gate_callee (f := 26) rfl ?_); refine goesL_ (some 64) rfl rfl Try.func26 (by kernel_rfl) rfl #[.int .i64 t239, .int .i64 t242] rfl (by (try simp only [List.map_toArray, List.map_cons, List.map_nil]); first | done | rfl | (simp only [List.length_drop, List.length_take]; rfl)) ?_; (with_reducible refine (impl_Ways.calls kj17 t239 t242 t249 _ A24.out).mono ?_); rintro e w' ⟨rfl, ⟨nd, rfl⟩⟩; refine ⟨_, rfl, ?_⟩))
                        go_ret
                        exact ⟨by first | rfl | (simp [errW_none, errW_some] <;> rfl) | (simp only [← hji21, ← hji23]; first | rfl | (simp [errW_none, errW_some] <;> rfl)) | (simp [*, errW_none, errW_some] <;> rfl), by repeat (first | (with_reducible first | exact HB.out | apply below_alloc | apply pw_below_drewN | apply below_drew1) | exact HB.out)⟩
                      · rw [if_neg c26] at H
                        have c26b0 : (t242 == (wrap64 (-t239))) = false := beq_eq_false_iff_ne.mpr c26
                        have c26b1 : (t242 != (wrap64 (-t239))) = true := bne_iff_ne.mpr c26
                        replace H := Option.bind_eq_some_iff.mp H
                        obtain ⟨t250, A270, H⟩ := H
                        replace H : (some (decide ((wrap64 (t250 * t241)) > (ji23)))) = some r := H
                        have A27 := Aside0.mk A270
                        clear A270
                        obtain rfl := Option.some.inj H
                        go_wp2_with (first | ((with_reducible refine gate_callee (f := 26) rfl ?_); refine goesL_ (some 64) rfl rfl Try.func26 (by kernel_rfl) rfl #[.int .i64 t239, .int .i64 t242] rfl (by (try simp only [List.map_toArray, List.map_cons, List.map_nil]); first | done | rfl | (simp only [List.length_drop, List.length_take]; rfl)) ?_; (with_reducible refine (impl_Ways.calls kj17 t239 t242 t249 _ A24.out).mono ?_); rintro e w' ⟨rfl, ⟨nd, rfl⟩⟩; refine ⟨_, rfl, ?_⟩) | (go_at_call 26; (with_reducible refine (impl_Ways.calls kj17 t239 (wrap64 (t242 - 1)) t250 _ A27.out).mono ?_); rintro e w' ⟨rfl, ⟨nd, rfl⟩⟩))
                        go_ret
                        exact ⟨by first | rfl | (simp [errW_none, errW_some] <;> rfl) | (simp only [← hji21, ← hji23]; first | rfl | (simp [errW_none, errW_some] <;> rfl)) | (simp [*, errW_none, errW_some] <;> rfl), by repeat (first | (with_reducible first | exact HB.out | apply below_alloc | apply pw_below_drewN | apply below_drew1) | exact HB.out)⟩
                    · rw [if_neg c25] at H
                      have c25b0 : decide ((wrap64 (t249 * t241)) ≤ (ji23)) = false := decide_eq_false c25
                      clear c25
                      obtain rfl := Option.some.inj H
                      go_wp2_with (first | ((with_reducible refine gate_callee (f := 26) rfl ?_); refine goesL_ (some 64) rfl rfl Try.func26 (by kernel_rfl) rfl #[.int .i64 t239, .int .i64 t242] rfl (by (try simp only [List.map_toArray, List.map_cons, List.map_nil]); first | done | rfl | (simp only [List.length_drop, List.length_take]; rfl)) ?_; (with_reducible refine (impl_Ways.calls kj17 t239 t242 t249 _ A24.out).mono ?_); rintro e w' ⟨rfl, ⟨nd, rfl⟩⟩; refine ⟨_, rfl, ?_⟩))
                      go_ret
                      exact ⟨by first | rfl | (simp [errW_none, errW_some] <;> rfl) | (simp only [← hji21, ← hji23]; first | rfl | (simp [errW_none, errW_some] <;> rfl)) | (simp [*, errW_none, errW_some] <;> rfl), by repeat (first | (with_reducible first | exact HB.out | apply below_alloc | apply pw_below_drewN | apply below_drew1) | exact HB.out)⟩
                  · rw [if_neg c22] at H
                    exact absurd H (by simp)

/-- THE ONE PURE STATEMENT of laws_FnThreshold: yours. -/
def laws_FnThreshold.Pure : Prop := ∀ (l0 : List Int), l0.length ≤ maxLen → l0.length * 1 ≤ 140737488351232 → (∀ x ∈ l0, (Lit.int .u8 x).wf = true) → ∃ k, laws_FnThreshold.f k l0 = some true
theorem laws_FnThreshold.walk (P : laws_FnThreshold.Pure) (a0 : Option Addr) (len0 cap0 : Nat) (z0 : List Int) (w : World) (w0 : (a0 = none ∧ len0 = 0 ∧ cap0 = 0 ∧ z0 = []) ∨ ∃ x, a0 = some x ∧ len0 ≤ cap0 ∧ cap0 ≤ maxLen ∧ z0.length = cap0 ∧ (∀ i, i < z0.length → w.cell? (x.add i) = some (.int .u8 (z0.getD i 0))) ∧ ∀ n ∈ z0, (Lit.int .u8 n).wf = true) (y0 : len0 * 1 ≤ 140737488351232) :
    Calls Try.prog 14 #[.slice a0 len0 cap0] w fun e w' => e = .returned (.bool true) ∧ Below w.heap.size w w' := by
  obtain ⟨l0, rfl, hr0, hm0, hw0, hc0⟩ := ReadsInt.ofRowC w0
  obtain ⟨k, h⟩ := P l0 hm0 y0 hw0
  refine (laws_FnThreshold.calls k _ _ l0 true w (Kd.C_of_reads (d := (0 : Int)) (h1 := fun _ => rfl) hr0) hc0 h).mono ?_
  rintro e w' ⟨rfl, hd⟩
  exact ⟨rfl, hd⟩

end Go.Proofs.Ytonmdhaollhekaa.PFnThreshold
