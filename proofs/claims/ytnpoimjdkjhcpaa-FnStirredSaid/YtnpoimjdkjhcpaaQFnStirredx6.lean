/- The functions that FnStirred reaches, each with its walk; written by a program (own.py). -/
import Derived.Test.YtnpoimjdkjhcpaaQFnStirredx0
import Derived.Test.YtnpoimjdkjhcpaaQFnStirredx1
import Derived.Test.YtnpoimjdkjhcpaaQFnStirredx2
import Derived.Test.YtnpoimjdkjhcpaaQFnStirredx3
import Derived.Test.YtnpoimjdkjhcpaaQFnStirredx4
import Derived.Test.YtnpoimjdkjhcpaaQFnStirredx5
namespace Go.Proofs.Ytnpoimjdkjhcpaa.PFnStirred
open Go.RowKit Go.Proofs.YtnpoimjdkjhcpaaW.PrintWords Go.Proofs.YtnpoimjdkjhcpaaW.PrintLast Go.Proofs.YtnpoimjdkjhcpaaW.PrintMore
attribute [local go_sem] max2_int min2_int max_two min_two max_three min_three max_four min_four   -- for this text's walks alone
set_option linter.unusedVariables false
set_option linter.unusedSimpArgs false

/-! ### laws_FnStirred: function 12 -/
mutual
def laws_FnStirred.j0 : Nat → List Int → List Int → Int → Int → Option (Bool)
  | 0, _, _, _, _ => none
  | k + 1, x0, x3, x4, x5 => (impl_Differ.f k x3).bind fun bt295 => ((impl_UnDiffer.f k bt295.1).bind fun bt299 => ((impl_Follow.f k x3 (Int.tmod x4 65536)).bind fun bt303 => ((impl_UnFollow.f k bt303.1 (Int.tmod x4 65536)).bind fun bt307 => ((laws_at.f x0 2).bind fun t311 => ((impl_Weave.f k x3 (wrap64 (1 + (Int.tmod t311 64)))).bind fun bt312 => ((laws_at.f x0 2).bind fun t316 => ((impl_Unweave.f k bt312.1 (wrap64 (1 + (Int.tmod t316 64)))).bind fun bt317 => ((impl_Pack8.f k x3).bind fun bt321 => ((impl_Unpack8.f k bt321.1 (x3.length : Int)).bind fun bt325 => (if bt295.2 = true then (if bt299.2 = true then (if bt303.2 = true then (if bt307.2 = true then (if bt312.2 = true then (if bt317.2 = true then (if bt321.2 = true then (laws_FnStirred.j1 k x3 x4 x5 bt299.1 bt307.1 bt317.1 bt325.1 (!bt325.2)) else (laws_FnStirred.j1 k x3 x4 x5 bt299.1 bt307.1 bt317.1 bt325.1 true)) else (laws_FnStirred.j1 k x3 x4 x5 bt299.1 bt307.1 bt317.1 bt325.1 true)) else (laws_FnStirred.j1 k x3 x4 x5 bt299.1 bt307.1 bt317.1 bt325.1 true)) else (laws_FnStirred.j1 k x3 x4 x5 bt299.1 bt307.1 bt317.1 bt325.1 true)) else (laws_FnStirred.j1 k x3 x4 x5 bt299.1 bt307.1 bt317.1 bt325.1 true)) else (laws_FnStirred.j1 k x3 x4 x5 bt299.1 bt307.1 bt317.1 bt325.1 true)) else (laws_FnStirred.j1 k x3 x4 x5 bt299.1 bt307.1 bt317.1 bt325.1 true)))))))))))
def laws_FnStirred.j1 : Nat → List Int → Int → Int → List Int → List Int → List Int → List Int → Bool → Option (Bool)
  | 0, _, _, _, _, _, _, _, _ => none
  | k + 1, x3, x4, x5, x8, x12, x16, x20, x123 => if x123 = true then (some false) else ((laws_sameInts.f k x8 x3).bind fun t329 => (if t329 = true then ((laws_sameInts.f k x12 x3).bind fun t330 => (if t330 = true then ((laws_sameInts.f k x16 x3).bind fun t331 => (if t331 = true then ((laws_sameInts.f k x20 x3).bind fun t332 => (laws_FnStirred.j2 k x3 x4 x5 (!t332))) else (laws_FnStirred.j2 k x3 x4 x5 true))) else (laws_FnStirred.j2 k x3 x4 x5 true))) else (laws_FnStirred.j2 k x3 x4 x5 true)))
def laws_FnStirred.j2 : Nat → List Int → Int → Int → Bool → Option (Bool)
  | 0, _, _, _, _ => none
  | k + 1, x3, x4, x5, x145 => if x145 = true then (some false) else ((impl_Stir.f k x3 x4 x5).bind fun bt333 => ((spec_Stir.f k x3 x4 x5).bind fun bt337 => (if (bt333.2 != bt337.2) = true then (some false) else ((impl_Stir.f k bt333.1 x4 x5).bind fun bt341 => (if bt333.2 = true then (if bt341.2 = true then ((laws_sameInts.f k bt341.1 x3).bind fun t345 => (some t345)) else (some false)) else (some true))))))
end
def laws_FnStirred.f (k : Nat) (l0 : List Int) : Option (Bool) := (laws_big.f l0).bind fun t285 => (if t285 = true then (some true) else ((spec_DrawStir.f k l0).bind fun bt286 => ((spec_BitsOk.f k bt286.1).bind fun t291 => (if t291 = true then (laws_FnStirred.j0 k l0 bt286.1 bt286.2.1 bt286.2.2) else (laws_FnStirred.j0 k l0 (([1, 0, 1] : List Int)) bt286.2.1 bt286.2.2)))))
theorem laws_FnStirred.mono_l : ∀ k, (∀ y0 y1 y2 y3, LeO (laws_FnStirred.j0 k y0 y1 y2 y3) (laws_FnStirred.j0 (k + 1) y0 y1 y2 y3)) ∧ (∀ y0 y1 y2 y3 y4 y5 y6 y7, LeO (laws_FnStirred.j1 k y0 y1 y2 y3 y4 y5 y6 y7) (laws_FnStirred.j1 (k + 1) y0 y1 y2 y3 y4 y5 y6 y7)) ∧ (∀ y0 y1 y2 y3, LeO (laws_FnStirred.j2 k y0 y1 y2 y3) (laws_FnStirred.j2 (k + 1) y0 y1 y2 y3))
  | 0 => ⟨fun _ _ _ _ r h => by simp [laws_FnStirred.j0] at h, fun _ _ _ _ _ _ _ _ r h => by simp [laws_FnStirred.j1] at h, fun _ _ _ _ r h => by simp [laws_FnStirred.j2] at h⟩
  | k + 1 => by
    obtain ⟨ih0, ih1, ih2⟩ := laws_FnStirred.mono_l k
    refine ⟨?_, ?_, ?_⟩
    · intro y0 y1 y2 y3
      unfold laws_FnStirred.j0
      repeat' first
      | (with_reducible exact ih0 _ _ _ _)
      | (with_reducible exact ih1 _ _ _ _ _ _ _ _)
      | (with_reducible exact ih2 _ _ _ _)
      | (with_reducible exact impl_Differ.mono _ _)
      | (with_reducible exact impl_Follow.mono _ _ _)
      | (with_reducible exact impl_Pack8.mono _ _)
      | (with_reducible exact impl_Stir.mono _ _ _ _)
      | (with_reducible exact impl_UnDiffer.mono _ _)
      | (with_reducible exact impl_UnFollow.mono _ _ _)
      | (with_reducible exact impl_Unpack8.mono _ _ _)
      | (with_reducible exact impl_Unweave.mono _ _ _)
      | (with_reducible exact impl_Weave.mono _ _ _)
      | (with_reducible exact laws_sameInts.mono _ _ _)
      | (with_reducible exact spec_BitsOk.mono _ _)
      | (with_reducible exact spec_DrawStir.mono _ _)
      | (with_reducible exact spec_Stir.mono _ _ _ _)
      | (with_reducible exact LeO.refl _)
      | (with_reducible exact LeO.none _)
      | (with_reducible refine LeO.ite ?_ ?_)
      | (with_reducible refine LeO.bind ?_ (fun _ => ?_))
      | exact ih0 _ _ _ _
      | exact ih1 _ _ _ _ _ _ _ _
      | exact ih2 _ _ _ _
      | exact impl_Differ.mono _ _
      | exact impl_Follow.mono _ _ _
      | exact impl_Pack8.mono _ _
      | exact impl_Stir.mono _ _ _ _
      | exact impl_UnDiffer.mono _ _
      | exact impl_UnFollow.mono _ _ _
      | exact impl_Unpack8.mono _ _ _
      | exact impl_Unweave.mono _ _ _
      | exact impl_Weave.mono _ _ _
      | exact laws_sameInts.mono _ _ _
      | exact spec_BitsOk.mono _ _
      | exact spec_DrawStir.mono _ _
      | exact spec_Stir.mono _ _ _ _
      | exact LeO.none _
      | refine LeO.ite ?_ ?_
      | refine LeO.bind ?_ (fun _ => ?_)
    · intro y0 y1 y2 y3 y4 y5 y6 y7
      unfold laws_FnStirred.j1
      repeat' first
      | (with_reducible exact ih0 _ _ _ _)
      | (with_reducible exact ih1 _ _ _ _ _ _ _ _)
      | (with_reducible exact ih2 _ _ _ _)
      | (with_reducible exact impl_Differ.mono _ _)
      | (with_reducible exact impl_Follow.mono _ _ _)
      | (with_reducible exact impl_Pack8.mono _ _)
      | (with_reducible exact impl_Stir.mono _ _ _ _)
      | (with_reducible exact impl_UnDiffer.mono _ _)
      | (with_reducible exact impl_UnFollow.mono _ _ _)
      | (with_reducible exact impl_Unpack8.mono _ _ _)
      | (with_reducible exact impl_Unweave.mono _ _ _)
      | (with_reducible exact impl_Weave.mono _ _ _)
      | (with_reducible exact laws_sameInts.mono _ _ _)
      | (with_reducible exact spec_BitsOk.mono _ _)
      | (with_reducible exact spec_DrawStir.mono _ _)
      | (with_reducible exact spec_Stir.mono _ _ _ _)
      | (with_reducible exact LeO.refl _)
      | (with_reducible exact LeO.none _)
      | (with_reducible refine LeO.ite ?_ ?_)
      | (with_reducible refine LeO.bind ?_ (fun _ => ?_))
      | exact ih0 _ _ _ _
      | exact ih1 _ _ _ _ _ _ _ _
      | exact ih2 _ _ _ _
      | exact impl_Differ.mono _ _
      | exact impl_Follow.mono _ _ _
      | exact impl_Pack8.mono _ _
      | exact impl_Stir.mono _ _ _ _
      | exact impl_UnDiffer.mono _ _
      | exact impl_UnFollow.mono _ _ _
      | exact impl_Unpack8.mono _ _ _
      | exact impl_Unweave.mono _ _ _
      | exact impl_Weave.mono _ _ _
      | exact laws_sameInts.mono _ _ _
      | exact spec_BitsOk.mono _ _
      | exact spec_DrawStir.mono _ _
      | exact spec_Stir.mono _ _ _ _
      | exact LeO.none _
      | refine LeO.ite ?_ ?_
      | refine LeO.bind ?_ (fun _ => ?_)
    · intro y0 y1 y2 y3
      unfold laws_FnStirred.j2
      repeat' first
      | (with_reducible exact ih0 _ _ _ _)
      | (with_reducible exact ih1 _ _ _ _ _ _ _ _)
      | (with_reducible exact ih2 _ _ _ _)
      | (with_reducible exact impl_Differ.mono _ _)
      | (with_reducible exact impl_Follow.mono _ _ _)
      | (with_reducible exact impl_Pack8.mono _ _)
      | (with_reducible exact impl_Stir.mono _ _ _ _)
      | (with_reducible exact impl_UnDiffer.mono _ _)
      | (with_reducible exact impl_UnFollow.mono _ _ _)
      | (with_reducible exact impl_Unpack8.mono _ _ _)
      | (with_reducible exact impl_Unweave.mono _ _ _)
      | (with_reducible exact impl_Weave.mono _ _ _)
      | (with_reducible exact laws_sameInts.mono _ _ _)
      | (with_reducible exact spec_BitsOk.mono _ _)
      | (with_reducible exact spec_DrawStir.mono _ _)
      | (with_reducible exact spec_Stir.mono _ _ _ _)
      | (with_reducible exact LeO.refl _)
      | (with_reducible exact LeO.none _)
      | (with_reducible refine LeO.ite ?_ ?_)
      | (with_reducible refine LeO.bind ?_ (fun _ => ?_))
      | exact ih0 _ _ _ _
      | exact ih1 _ _ _ _ _ _ _ _
      | exact ih2 _ _ _ _
      | exact impl_Differ.mono _ _
      | exact impl_Follow.mono _ _ _
      | exact impl_Pack8.mono _ _
      | exact impl_Stir.mono _ _ _ _
      | exact impl_UnDiffer.mono _ _
      | exact impl_UnFollow.mono _ _ _
      | exact impl_Unpack8.mono _ _ _
      | exact impl_Unweave.mono _ _ _
      | exact impl_Weave.mono _ _ _
      | exact laws_sameInts.mono _ _ _
      | exact spec_BitsOk.mono _ _
      | exact spec_DrawStir.mono _ _
      | exact spec_Stir.mono _ _ _ _
      | exact LeO.none _
      | refine LeO.ite ?_ ?_
      | refine LeO.bind ?_ (fun _ => ?_)
theorem laws_FnStirred.mono : ∀ a0 k, LeO (laws_FnStirred.f k a0) (laws_FnStirred.f (k + 1) a0) := by
  intro a0 k
  obtain ⟨ih0, ih1, ih2⟩ := laws_FnStirred.mono_l k
  unfold laws_FnStirred.f
  repeat' first
      | (with_reducible exact ih0 _ _ _ _)
      | (with_reducible exact ih1 _ _ _ _ _ _ _ _)
      | (with_reducible exact ih2 _ _ _ _)
      | (with_reducible exact impl_Differ.mono _ _)
      | (with_reducible exact impl_Follow.mono _ _ _)
      | (with_reducible exact impl_Pack8.mono _ _)
      | (with_reducible exact impl_Stir.mono _ _ _ _)
      | (with_reducible exact impl_UnDiffer.mono _ _)
      | (with_reducible exact impl_UnFollow.mono _ _ _)
      | (with_reducible exact impl_Unpack8.mono _ _ _)
      | (with_reducible exact impl_Unweave.mono _ _ _)
      | (with_reducible exact impl_Weave.mono _ _ _)
      | (with_reducible exact laws_sameInts.mono _ _ _)
      | (with_reducible exact spec_BitsOk.mono _ _)
      | (with_reducible exact spec_DrawStir.mono _ _)
      | (with_reducible exact spec_Stir.mono _ _ _ _)
      | (with_reducible exact LeO.refl _)
      | (with_reducible exact LeO.none _)
      | (with_reducible refine LeO.ite ?_ ?_)
      | (with_reducible refine LeO.bind ?_ (fun _ => ?_))
      | exact ih0 _ _ _ _
      | exact ih1 _ _ _ _ _ _ _ _
      | exact ih2 _ _ _ _
      | exact impl_Differ.mono _ _
      | exact impl_Follow.mono _ _ _
      | exact impl_Pack8.mono _ _
      | exact impl_Stir.mono _ _ _ _
      | exact impl_UnDiffer.mono _ _
      | exact impl_UnFollow.mono _ _ _
      | exact impl_Unpack8.mono _ _ _
      | exact impl_Unweave.mono _ _ _
      | exact impl_Weave.mono _ _ _
      | exact laws_sameInts.mono _ _ _
      | exact spec_BitsOk.mono _ _
      | exact spec_DrawStir.mono _ _
      | exact spec_Stir.mono _ _ _ _
      | exact LeO.none _
      | refine LeO.ite ?_ ?_
      | refine LeO.bind ?_ (fun _ => ?_)
set_option maxHeartbeats 8000000 in
set_option maxRecDepth 100000 in
theorem laws_FnStirred.calls (k : Nat) (A0 : Option Addr) (c0 : Nat) (l0 : List Int) (r : Bool) (w : World) (hr0 : Kd.C (Kd.int .u8) w A0 l0.length l0) (hc0 : l0.length ≤ c0) (h : laws_FnStirred.f k l0 = some r) :
    Calls Try.prog 12 #[.slice A0 l0.length c0] w fun e w' => e = .returned (.bool r) ∧ Below w.heap.size w w' := by
  have HR0 := Aside0.mk hr0
  have HC0 := Aside0.mk hc0
  clear hr0 hc0
  have HB := Aside0.mk (Below.refl w.heap.size w)
  have H : ((laws_big.f l0).bind fun t285 => (if t285 = true then (some true) else ((spec_DrawStir.f k l0).bind fun bt286 => ((spec_BitsOk.f k bt286.1).bind fun t291 => (if t291 = true then (laws_FnStirred.j0 k l0 bt286.1 bt286.2.1 bt286.2.2) else (laws_FnStirred.j0 k l0 (([1, 0, 1] : List Int)) bt286.2.1 bt286.2.2)))))) = some r := h
  clear h
  replace H := Option.bind_eq_some_iff.mp H
  obtain ⟨t285, A20, H⟩ := H
  replace H : (if t285 = true then (some true) else ((spec_DrawStir.f k l0).bind fun bt286 => ((spec_BitsOk.f k bt286.1).bind fun t291 => (if t291 = true then (laws_FnStirred.j0 k l0 bt286.1 bt286.2.1 bt286.2.2) else (laws_FnStirred.j0 k l0 (([1, 0, 1] : List Int)) bt286.2.1 bt286.2.2))))) = some r := H
  have A2 := Aside0.mk A20
  clear A20
  by_cases c3 : t285 = true
  · subst c3
    have H1 : (some true) = some r := by rw [if_pos rfl] at H; exact H
    clear H
    have H := H1
    clear H1
    obtain rfl := Option.some.inj H
    go_enter Try.func12, Try.ntmps12
    go_wp2_with (first | ((with_reducible refine gate_callee (f := 13) rfl ?_); refine goesL_ (some 29) rfl rfl Try.func13 (by kernel_rfl) rfl #[.slice A0 l0.length c0] rfl (by (try simp only [List.map_toArray, List.map_cons, List.map_nil]); first | done | rfl | (simp only [List.length_drop, List.length_take]; rfl)) ?_; (with_reducible refine (laws_big.calls _ _ l0 true _ ?side1 ?side2 A2.out).mono ?_); (case side1 => repeat (first | exact HR0.out | (with_reducible refine Kd.C_alloc ?_ _) | (with_reducible refine Kd.C_drewN ?_ _) | (with_reducible refine Kd.C_drew ?_))); (case side2 => exact HC0.out); rintro e w' ⟨rfl, ⟨nd, rfl⟩⟩; refine ⟨_, rfl, ?_⟩))
    go_ret
    exact ⟨by first | rfl | (simp [errW_none, errW_some] <;> rfl) | (simp [*, errW_none, errW_some] <;> rfl), by repeat (first | (with_reducible first | exact HB.out | apply below_alloc | apply pw_below_drewN | apply below_drew1) | exact HB.out)⟩
  · replace c3 := Bool.eq_false_iff.mpr c3
    subst c3
    have H1 : ((spec_DrawStir.f k l0).bind fun bt286 => ((spec_BitsOk.f k bt286.1).bind fun t291 => (if t291 = true then (laws_FnStirred.j0 k l0 bt286.1 bt286.2.1 bt286.2.2) else (laws_FnStirred.j0 k l0 (([1, 0, 1] : List Int)) bt286.2.1 bt286.2.2)))) = some r := by rw [if_neg (show ¬ (false = true) by decide)] at H; exact H
    clear H
    have H := H1
    clear H1
    replace H := Option.bind_eq_some_iff.mp H
    obtain ⟨⟨t286, t287, t288⟩, A40, H⟩ := H
    replace H : ((spec_BitsOk.f k t286).bind fun t291 => (if t291 = true then (laws_FnStirred.j0 k l0 t286 t287 t288) else (laws_FnStirred.j0 k l0 (([1, 0, 1] : List Int)) t287 t288))) = some r := H
    have A4 := Aside0.mk A40
    clear A40
    replace H := Option.bind_eq_some_iff.mp H
    obtain ⟨t291, A50, H⟩ := H
    replace H : (if t291 = true then (laws_FnStirred.j0 k l0 t286 t287 t288) else (laws_FnStirred.j0 k l0 (([1, 0, 1] : List Int)) t287 t288)) = some r := H
    have A5 := Aside0.mk A50
    clear A50
    have HC6 := Aside0.mk H
    clear H
    go_enter Try.func12, Try.ntmps12
    go_upto_if 38 with (first | ((with_reducible refine gate_callee (f := 13) rfl ?_); refine goesL_ (some 29) rfl rfl Try.func13 (by kernel_rfl) rfl #[.slice A0 l0.length c0] rfl (by (try simp only [List.map_toArray, List.map_cons, List.map_nil]); first | done | rfl | (simp only [List.length_drop, List.length_take]; rfl)) ?_; (with_reducible refine (laws_big.calls _ _ l0 false _ ?side1 ?side2 A2.out).mono ?_); (case side1 => repeat (first | exact HR0.out | (with_reducible refine Kd.C_alloc ?_ _) | (with_reducible refine Kd.C_drewN ?_ _) | (with_reducible refine Kd.C_drew ?_))); (case side2 => exact HC0.out); rintro e w' ⟨rfl, ⟨nd, rfl⟩⟩; refine ⟨_, rfl, ?_⟩) | ((with_reducible refine gate_callee (f := 59) rfl ?_); refine goesL_ (some 32) rfl rfl Try.func59 (by kernel_rfl) rfl #[.slice A0 l0.length c0] rfl (by (try simp only [List.map_toArray, List.map_cons, List.map_nil]); first | done | rfl | (simp only [List.length_drop, List.length_take]; rfl)) ?_; (with_reducible refine (spec_DrawStir.calls k _ _ l0 t286 t287 t288 _ ?side1 ?side2 A4.out).mono ?_); (case side1 => repeat (first | exact HR0.out | (with_reducible refine Kd.C_alloc ?_ _) | (with_reducible refine Kd.C_drewN ?_ _) | (with_reducible refine Kd.C_drew ?_))); (case side2 => exact HC0.out); rintro e w7 ⟨v289, rfl, ho0, hb⟩; refine ⟨_, rfl, ?_⟩; have n0_ := Aside0.mk (RC_lower ho0 (below_size (by repeat (first | (with_reducible first | exact HB.out | apply below_alloc | apply pw_below_drewN | apply below_drew1) | exact HB.out)))); have n1_ := Aside0.mk (below_step (by repeat (first | (with_reducible first | exact HB.out | apply below_alloc | apply pw_below_drewN | apply below_drew1) | exact HB.out)) hb); clear HB; have HO290 := n0_; have HB := n1_; clear n0_ n1_; (try clear hb); (try clear hb2); (try clear hk); (try clear hi); (try clear ho0); obtain ⟨Ao8, co8, eo8⟩ := RC_slice HO290.out; subst eo8) | ((with_reducible refine gate_callee (f := 60) rfl ?_); refine goesL_ (some 37) rfl rfl Try.func60 (by kernel_rfl) rfl #[.slice Ao8 t286.length co8] rfl (by (try simp only [List.map_toArray, List.map_cons, List.map_nil]); first | done | rfl | (simp only [List.length_drop, List.length_take]; rfl)) ?_; (with_reducible refine (spec_BitsOk.calls k _ _ t286 t291 _ ?side1 ?side2 A5.out).mono ?_); (case side1 => repeat (first | exact (RC_reads' HO290.out).2.2 | (with_reducible refine Kd.C_alloc ?_ _) | (with_reducible refine Kd.C_drewN ?_ _) | (with_reducible refine Kd.C_drew ?_))); (case side2 => exact (RC_reads' HO290.out).2.1); rintro e w' ⟨rfl, ⟨nd, rfl⟩⟩; refine ⟨_, rfl, ?_⟩))
    (try simp only [Act.put, List.setIfInBounds_toArray, List.set_cons_zero, List.set_cons_succ])
    go_cut [3] (fun v3 wc => ∃ (kq : Nat) (x3_5 : List Int), Aside0 (laws_FnStirred.j0 kq l0 x3_5 t287 t288 = some r) ∧ Aside0 (kq ≤ k) ∧ Aside0 (RC (Kd.int .i64) 3 wc w.heap.size (fun _ => True) v3 x3_5) ∧ Aside0 (Below w.heap.size w wc))
    case first =>
      have H := HC6.out
      clear HC6
      by_cases c9 : t291 = true
      · subst c9
        have H1 : (laws_FnStirred.j0 k l0 t286 t287 t288) = some r := by rw [if_pos rfl] at H; exact H
        clear H
        have H := H1
        clear H1
        have H' := Aside0.mk H
        clear H
        go_wp2
        go_meet
        case rel => exact ⟨_, (t286), H', ⟨by first | omega | exact Nat.le_refl _⟩, ⟨by (with_reducible repeat (first | apply RC_alloc | apply RC_drewN | apply RC_drew)); exact HO290.out⟩, ⟨by repeat (first | (with_reducible first | exact HB.out | apply below_alloc | apply pw_below_drewN | apply below_drew1) | exact HB.out)⟩⟩
      · replace c9 := Bool.eq_false_iff.mpr c9
        subst c9
        have H1 : (laws_FnStirred.j0 k l0 (([1, 0, 1] : List Int)) t287 t288) = some r := by rw [if_neg (show ¬ (false = true) by decide)] at H; exact H
        clear H
        have H := H1
        clear H1
        obtain ⟨y292, hy292⟩ : ∃ y_ : List Int, y_ = (([1, 0, 1] : List Int)) := ⟨_, rfl⟩
        replace H : (laws_FnStirred.j0 k l0 y292 t287 t288) = some r := by first | (rw [hy292]; with_reducible exact H) | (have H2_ := (Option.bind_some _ _).symm.trans H; rw [hy292]; with_reducible exact H2_) | (have H2_ := (Option.bind_some _ _).symm.trans H; with_reducible exact H2_) | with_reducible exact H | (rw [hy292]; exact H) | exact H
        have Ny292 := Aside0.mk hy292
        clear hy292
        have H' := Aside0.mk H
        clear H
        go_wp2_with (first | ((with_reducible refine gate_dst (N := 39) rfl ?_); refine Kd.R_lit (Kd.int .i64) _ 3 ?hg (N := 39) ?hd (xs := ([1, 0, 1] : List Int)) (inner := [.int .i64 1, .int .i64 0, .int .i64 1]) (ok := fun _ => True) (okp := fun _ => True) ?hr ?hp (fun _ hk => hk) trivial (Below.refl _ _) (Nat.le_refl _) (by simp) ?_; (case hd => rfl); (case hg => rfl); (case hr => first | (go_simp; done) | (go_simp; rfl)); (case hp => exact (Reps.one (show Kd.M (Kd.int .i64) _ _ _ 1 [.int .i64 1] from rfl) (Reps.one (show Kd.M (Kd.int .i64) _ _ _ 0 [.int .i64 0] from rfl) (Reps.one (show Kd.M (Kd.int .i64) _ _ _ 1 [.int .i64 1] from rfl) (Reps.none _ _))))); intro v293 w10 ho11 hb hg_ hnew_; clear hg_ hnew_; replace ho11 := RC_of ho11; (first | rw [← Ny292.out] at ho11 | (simp only [Int.reduceToNat] at ho11; rw [← Ny292.out] at ho11)); have n0_ := Aside0.mk (RC_elder' (by (with_reducible repeat (first | apply RC_alloc | apply RC_drewN | apply RC_drew)); exact HO290.out) (RC_base ho11) hb); have n1_ := Aside0.mk (RC_lower (RC_new' ho11 (RC_lt (by (with_reducible repeat (first | apply RC_alloc | apply RC_drewN | apply RC_drew)); exact HO290.out))) (below_size (by repeat (first | (with_reducible first | exact HB.out | apply below_alloc | apply pw_below_drewN | apply below_drew1) | exact HB.out)))); have n2_ := Aside0.mk (below_step (by repeat (first | (with_reducible first | exact HB.out | apply below_alloc | apply pw_below_drewN | apply below_drew1) | exact HB.out)) hb); clear HO290; clear HB; have HO290 := n0_; have HO294 := n1_; have HB := n2_; clear n0_ n1_ n2_; clear hb ho11))
        go_meet
        case rel => exact ⟨_, (y292), H', ⟨by first | omega | exact Nat.le_refl _⟩, ⟨by (with_reducible repeat (first | apply RC_alloc | apply RC_drewN | apply RC_drew)); exact RC_mono HO294.out (fun _ hk => trivial)⟩, ⟨by repeat (first | (with_reducible first | exact HB.out | apply below_alloc | apply pw_below_drewN | apply below_drew1) | exact HB.out)⟩⟩
    case rest =>
      clear HC6
      try clear c1
      try clear p2
      try clear c3
      try clear c5
      try clear c6
      try clear c9
      obtain ⟨kq, x3_5, HA, HJ5, HO_3, HB⟩ := hcut
      cases kq with
      | zero => exact absurd HA.out (by simp [laws_FnStirred.j0])
      | succ kj5 =>
        have H := HA.out
        clear HA
        simp only [laws_FnStirred.j0] at H
        replace H := Option.bind_eq_some_iff.mp H
        obtain ⟨⟨t295, t296⟩, A120, H⟩ := H
        replace H : ((impl_UnDiffer.f kj5 t295).bind fun bt299 => ((impl_Follow.f kj5 x3_5 (Int.tmod t287 65536)).bind fun bt303 => ((impl_UnFollow.f kj5 bt303.1 (Int.tmod t287 65536)).bind fun bt307 => ((laws_at.f l0 2).bind fun t311 => ((impl_Weave.f kj5 x3_5 (wrap64 (1 + (Int.tmod t311 64)))).bind fun bt312 => ((laws_at.f l0 2).bind fun t316 => ((impl_Unweave.f kj5 bt312.1 (wrap64 (1 + (Int.tmod t316 64)))).bind fun bt317 => ((impl_Pack8.f kj5 x3_5).bind fun bt321 => ((impl_Unpack8.f kj5 bt321.1 (x3_5.length : Int)).bind fun bt325 => (if t296 = true then (if bt299.2 = true then (if bt303.2 = true then (if bt307.2 = true then (if bt312.2 = true then (if bt317.2 = true then (if bt321.2 = true then (laws_FnStirred.j1 kj5 x3_5 t287 t288 bt299.1 bt307.1 bt317.1 bt325.1 (!bt325.2)) else (laws_FnStirred.j1 kj5 x3_5 t287 t288 bt299.1 bt307.1 bt317.1 bt325.1 true)) else (laws_FnStirred.j1 kj5 x3_5 t287 t288 bt299.1 bt307.1 bt317.1 bt325.1 true)) else (laws_FnStirred.j1 kj5 x3_5 t287 t288 bt299.1 bt307.1 bt317.1 bt325.1 true)) else (laws_FnStirred.j1 kj5 x3_5 t287 t288 bt299.1 bt307.1 bt317.1 bt325.1 true)) else (laws_FnStirred.j1 kj5 x3_5 t287 t288 bt299.1 bt307.1 bt317.1 bt325.1 true)) else (laws_FnStirred.j1 kj5 x3_5 t287 t288 bt299.1 bt307.1 bt317.1 bt325.1 true)) else (laws_FnStirred.j1 kj5 x3_5 t287 t288 bt299.1 bt307.1 bt317.1 bt325.1 true))))))))))) = some r := H
        have A12 := Aside0.mk A120
        clear A120
        replace H := Option.bind_eq_some_iff.mp H
        obtain ⟨⟨t299, t300⟩, A130, H⟩ := H
        replace H : ((impl_Follow.f kj5 x3_5 (Int.tmod t287 65536)).bind fun bt303 => ((impl_UnFollow.f kj5 bt303.1 (Int.tmod t287 65536)).bind fun bt307 => ((laws_at.f l0 2).bind fun t311 => ((impl_Weave.f kj5 x3_5 (wrap64 (1 + (Int.tmod t311 64)))).bind fun bt312 => ((laws_at.f l0 2).bind fun t316 => ((impl_Unweave.f kj5 bt312.1 (wrap64 (1 + (Int.tmod t316 64)))).bind fun bt317 => ((impl_Pack8.f kj5 x3_5).bind fun bt321 => ((impl_Unpack8.f kj5 bt321.1 (x3_5.length : Int)).bind fun bt325 => (if t296 = true then (if t300 = true then (if bt303.2 = true then (if bt307.2 = true then (if bt312.2 = true then (if bt317.2 = true then (if bt321.2 = true then (laws_FnStirred.j1 kj5 x3_5 t287 t288 t299 bt307.1 bt317.1 bt325.1 (!bt325.2)) else (laws_FnStirred.j1 kj5 x3_5 t287 t288 t299 bt307.1 bt317.1 bt325.1 true)) else (laws_FnStirred.j1 kj5 x3_5 t287 t288 t299 bt307.1 bt317.1 bt325.1 true)) else (laws_FnStirred.j1 kj5 x3_5 t287 t288 t299 bt307.1 bt317.1 bt325.1 true)) else (laws_FnStirred.j1 kj5 x3_5 t287 t288 t299 bt307.1 bt317.1 bt325.1 true)) else (laws_FnStirred.j1 kj5 x3_5 t287 t288 t299 bt307.1 bt317.1 bt325.1 true)) else (laws_FnStirred.j1 kj5 x3_5 t287 t288 t299 bt307.1 bt317.1 bt325.1 true)) else (laws_FnStirred.j1 kj5 x3_5 t287 t288 t299 bt307.1 bt317.1 bt325.1 true)))))))))) = some r := H
        have A13 := Aside0.mk A130
        clear A130
        replace H := Option.bind_eq_some_iff.mp H
        obtain ⟨⟨t303, t304⟩, A140, H⟩ := H
        replace H : ((impl_UnFollow.f kj5 t303 (Int.tmod t287 65536)).bind fun bt307 => ((laws_at.f l0 2).bind fun t311 => ((impl_Weave.f kj5 x3_5 (wrap64 (1 + (Int.tmod t311 64)))).bind fun bt312 => ((laws_at.f l0 2).bind fun t316 => ((impl_Unweave.f kj5 bt312.1 (wrap64 (1 + (Int.tmod t316 64)))).bind fun bt317 => ((impl_Pack8.f kj5 x3_5).bind fun bt321 => ((impl_Unpack8.f kj5 bt321.1 (x3_5.length : Int)).bind fun bt325 => (if t296 = true then (if t300 = true then (if t304 = true then (if bt307.2 = true then (if bt312.2 = true then (if bt317.2 = true then (if bt321.2 = true then (laws_FnStirred.j1 kj5 x3_5 t287 t288 t299 bt307.1 bt317.1 bt325.1 (!bt325.2)) else (laws_FnStirred.j1 kj5 x3_5 t287 t288 t299 bt307.1 bt317.1 bt325.1 true)) else (laws_FnStirred.j1 kj5 x3_5 t287 t288 t299 bt307.1 bt317.1 bt325.1 true)) else (laws_FnStirred.j1 kj5 x3_5 t287 t288 t299 bt307.1 bt317.1 bt325.1 true)) else (laws_FnStirred.j1 kj5 x3_5 t287 t288 t299 bt307.1 bt317.1 bt325.1 true)) else (laws_FnStirred.j1 kj5 x3_5 t287 t288 t299 bt307.1 bt317.1 bt325.1 true)) else (laws_FnStirred.j1 kj5 x3_5 t287 t288 t299 bt307.1 bt317.1 bt325.1 true)) else (laws_FnStirred.j1 kj5 x3_5 t287 t288 t299 bt307.1 bt317.1 bt325.1 true))))))))) = some r := H
        have A14 := Aside0.mk A140
        clear A140
        replace H := Option.bind_eq_some_iff.mp H
        obtain ⟨⟨t307, t308⟩, A150, H⟩ := H
        replace H : ((laws_at.f l0 2).bind fun t311 => ((impl_Weave.f kj5 x3_5 (wrap64 (1 + (Int.tmod t311 64)))).bind fun bt312 => ((laws_at.f l0 2).bind fun t316 => ((impl_Unweave.f kj5 bt312.1 (wrap64 (1 + (Int.tmod t316 64)))).bind fun bt317 => ((impl_Pack8.f kj5 x3_5).bind fun bt321 => ((impl_Unpack8.f kj5 bt321.1 (x3_5.length : Int)).bind fun bt325 => (if t296 = true then (if t300 = true then (if t304 = true then (if t308 = true then (if bt312.2 = true then (if bt317.2 = true then (if bt321.2 = true then (laws_FnStirred.j1 kj5 x3_5 t287 t288 t299 t307 bt317.1 bt325.1 (!bt325.2)) else (laws_FnStirred.j1 kj5 x3_5 t287 t288 t299 t307 bt317.1 bt325.1 true)) else (laws_FnStirred.j1 kj5 x3_5 t287 t288 t299 t307 bt317.1 bt325.1 true)) else (laws_FnStirred.j1 kj5 x3_5 t287 t288 t299 t307 bt317.1 bt325.1 true)) else (laws_FnStirred.j1 kj5 x3_5 t287 t288 t299 t307 bt317.1 bt325.1 true)) else (laws_FnStirred.j1 kj5 x3_5 t287 t288 t299 t307 bt317.1 bt325.1 true)) else (laws_FnStirred.j1 kj5 x3_5 t287 t288 t299 t307 bt317.1 bt325.1 true)) else (laws_FnStirred.j1 kj5 x3_5 t287 t288 t299 t307 bt317.1 bt325.1 true)))))))) = some r := H
        have A15 := Aside0.mk A150
        clear A150
        replace H := Option.bind_eq_some_iff.mp H
        obtain ⟨t311, A160, H⟩ := H
        replace H : ((impl_Weave.f kj5 x3_5 (wrap64 (1 + (Int.tmod t311 64)))).bind fun bt312 => ((laws_at.f l0 2).bind fun t316 => ((impl_Unweave.f kj5 bt312.1 (wrap64 (1 + (Int.tmod t316 64)))).bind fun bt317 => ((impl_Pack8.f kj5 x3_5).bind fun bt321 => ((impl_Unpack8.f kj5 bt321.1 (x3_5.length : Int)).bind fun bt325 => (if t296 = true then (if t300 = true then (if t304 = true then (if t308 = true then (if bt312.2 = true then (if bt317.2 = true then (if bt321.2 = true then (laws_FnStirred.j1 kj5 x3_5 t287 t288 t299 t307 bt317.1 bt325.1 (!bt325.2)) else (laws_FnStirred.j1 kj5 x3_5 t287 t288 t299 t307 bt317.1 bt325.1 true)) else (laws_FnStirred.j1 kj5 x3_5 t287 t288 t299 t307 bt317.1 bt325.1 true)) else (laws_FnStirred.j1 kj5 x3_5 t287 t288 t299 t307 bt317.1 bt325.1 true)) else (laws_FnStirred.j1 kj5 x3_5 t287 t288 t299 t307 bt317.1 bt325.1 true)) else (laws_FnStirred.j1 kj5 x3_5 t287 t288 t299 t307 bt317.1 bt325.1 true)) else (laws_FnStirred.j1 kj5 x3_5 t287 t288 t299 t307 bt317.1 bt325.1 true)) else (laws_FnStirred.j1 kj5 x3_5 t287 t288 t299 t307 bt317.1 bt325.1 true))))))) = some r := H
        have A16 := Aside0.mk A160
        clear A160
        replace H := Option.bind_eq_some_iff.mp H
        obtain ⟨⟨t312, t313⟩, A170, H⟩ := H
        replace H : ((laws_at.f l0 2).bind fun t316 => ((impl_Unweave.f kj5 t312 (wrap64 (1 + (Int.tmod t316 64)))).bind fun bt317 => ((impl_Pack8.f kj5 x3_5).bind fun bt321 => ((impl_Unpack8.f kj5 bt321.1 (x3_5.length : Int)).bind fun bt325 => (if t296 = true then (if t300 = true then (if t304 = true then (if t308 = true then (if t313 = true then (if bt317.2 = true then (if bt321.2 = true then (laws_FnStirred.j1 kj5 x3_5 t287 t288 t299 t307 bt317.1 bt325.1 (!bt325.2)) else (laws_FnStirred.j1 kj5 x3_5 t287 t288 t299 t307 bt317.1 bt325.1 true)) else (laws_FnStirred.j1 kj5 x3_5 t287 t288 t299 t307 bt317.1 bt325.1 true)) else (laws_FnStirred.j1 kj5 x3_5 t287 t288 t299 t307 bt317.1 bt325.1 true)) else (laws_FnStirred.j1 kj5 x3_5 t287 t288 t299 t307 bt317.1 bt325.1 true)) else (laws_FnStirred.j1 kj5 x3_5 t287 t288 t299 t307 bt317.1 bt325.1 true)) else (laws_FnStirred.j1 kj5 x3_5 t287 t288 t299 t307 bt317.1 bt325.1 true)) else (laws_FnStirred.j1 kj5 x3_5 t287 t288 t299 t307 bt317.1 bt325.1 true)))))) = some r := H
        have A17 := Aside0.mk A170
        clear A170
        replace H := Option.bind_eq_some_iff.mp H
        obtain ⟨t316, A180, H⟩ := H
        replace H : ((impl_Unweave.f kj5 t312 (wrap64 (1 + (Int.tmod t316 64)))).bind fun bt317 => ((impl_Pack8.f kj5 x3_5).bind fun bt321 => ((impl_Unpack8.f kj5 bt321.1 (x3_5.length : Int)).bind fun bt325 => (if t296 = true then (if t300 = true then (if t304 = true then (if t308 = true then (if t313 = true then (if bt317.2 = true then (if bt321.2 = true then (laws_FnStirred.j1 kj5 x3_5 t287 t288 t299 t307 bt317.1 bt325.1 (!bt325.2)) else (laws_FnStirred.j1 kj5 x3_5 t287 t288 t299 t307 bt317.1 bt325.1 true)) else (laws_FnStirred.j1 kj5 x3_5 t287 t288 t299 t307 bt317.1 bt325.1 true)) else (laws_FnStirred.j1 kj5 x3_5 t287 t288 t299 t307 bt317.1 bt325.1 true)) else (laws_FnStirred.j1 kj5 x3_5 t287 t288 t299 t307 bt317.1 bt325.1 true)) else (laws_FnStirred.j1 kj5 x3_5 t287 t288 t299 t307 bt317.1 bt325.1 true)) else (laws_FnStirred.j1 kj5 x3_5 t287 t288 t299 t307 bt317.1 bt325.1 true)) else (laws_FnStirred.j1 kj5 x3_5 t287 t288 t299 t307 bt317.1 bt325.1 true))))) = some r := H
        have A18 := Aside0.mk A180
        clear A180
        replace H := Option.bind_eq_some_iff.mp H
        obtain ⟨⟨t317, t318⟩, A190, H⟩ := H
        replace H : ((impl_Pack8.f kj5 x3_5).bind fun bt321 => ((impl_Unpack8.f kj5 bt321.1 (x3_5.length : Int)).bind fun bt325 => (if t296 = true then (if t300 = true then (if t304 = true then (if t308 = true then (if t313 = true then (if t318 = true then (if bt321.2 = true then (laws_FnStirred.j1 kj5 x3_5 t287 t288 t299 t307 t317 bt325.1 (!bt325.2)) else (laws_FnStirred.j1 kj5 x3_5 t287 t288 t299 t307 t317 bt325.1 true)) else (laws_FnStirred.j1 kj5 x3_5 t287 t288 t299 t307 t317 bt325.1 true)) else (laws_FnStirred.j1 kj5 x3_5 t287 t288 t299 t307 t317 bt325.1 true)) else (laws_FnStirred.j1 kj5 x3_5 t287 t288 t299 t307 t317 bt325.1 true)) else (laws_FnStirred.j1 kj5 x3_5 t287 t288 t299 t307 t317 bt325.1 true)) else (laws_FnStirred.j1 kj5 x3_5 t287 t288 t299 t307 t317 bt325.1 true)) else (laws_FnStirred.j1 kj5 x3_5 t287 t288 t299 t307 t317 bt325.1 true)))) = some r := H
        have A19 := Aside0.mk A190
        clear A190
        replace H := Option.bind_eq_some_iff.mp H
        obtain ⟨⟨t321, t322⟩, A200, H⟩ := H
        replace H : ((impl_Unpack8.f kj5 t321 (x3_5.length : Int)).bind fun bt325 => (if t296 = true then (if t300 = true then (if t304 = true then (if t308 = true then (if t313 = true then (if t318 = true then (if t322 = true then (laws_FnStirred.j1 kj5 x3_5 t287 t288 t299 t307 t317 bt325.1 (!bt325.2)) else (laws_FnStirred.j1 kj5 x3_5 t287 t288 t299 t307 t317 bt325.1 true)) else (laws_FnStirred.j1 kj5 x3_5 t287 t288 t299 t307 t317 bt325.1 true)) else (laws_FnStirred.j1 kj5 x3_5 t287 t288 t299 t307 t317 bt325.1 true)) else (laws_FnStirred.j1 kj5 x3_5 t287 t288 t299 t307 t317 bt325.1 true)) else (laws_FnStirred.j1 kj5 x3_5 t287 t288 t299 t307 t317 bt325.1 true)) else (laws_FnStirred.j1 kj5 x3_5 t287 t288 t299 t307 t317 bt325.1 true)) else (laws_FnStirred.j1 kj5 x3_5 t287 t288 t299 t307 t317 bt325.1 true))) = some r := H
        have A20 := Aside0.mk A200
        clear A200
        replace H := Option.bind_eq_some_iff.mp H
        obtain ⟨⟨t325, t326⟩, A210, H⟩ := H
        replace H : (if t296 = true then (if t300 = true then (if t304 = true then (if t308 = true then (if t313 = true then (if t318 = true then (if t322 = true then (laws_FnStirred.j1 kj5 x3_5 t287 t288 t299 t307 t317 t325 (!t326)) else (laws_FnStirred.j1 kj5 x3_5 t287 t288 t299 t307 t317 t325 true)) else (laws_FnStirred.j1 kj5 x3_5 t287 t288 t299 t307 t317 t325 true)) else (laws_FnStirred.j1 kj5 x3_5 t287 t288 t299 t307 t317 t325 true)) else (laws_FnStirred.j1 kj5 x3_5 t287 t288 t299 t307 t317 t325 true)) else (laws_FnStirred.j1 kj5 x3_5 t287 t288 t299 t307 t317 t325 true)) else (laws_FnStirred.j1 kj5 x3_5 t287 t288 t299 t307 t317 t325 true)) else (laws_FnStirred.j1 kj5 x3_5 t287 t288 t299 t307 t317 t325 true)) = some r := H
        have A21 := Aside0.mk A210
        clear A210
        have HC22 := Aside0.mk H
        clear H
        obtain ⟨Ao23, co23, eo23⟩ := RC_slice HO_3.out
        subst eo23
        go_upto_region 14 with (first | ((with_reducible refine gate_callee (f := 61) rfl ?_); refine goesL_ (some 42) rfl rfl Try.func61 (by kernel_rfl) rfl #[.slice Ao23 x3_5.length co23] rfl (by (try simp only [List.map_toArray, List.map_cons, List.map_nil]); first | done | rfl | (simp only [List.length_drop, List.length_take]; rfl)) ?_; (with_reducible refine (impl_Differ.calls kj5 _ _ x3_5 t295 t296 _ ?side1 ?side2 A12.out).mono ?_); (case side1 => repeat (first | exact (RC_reads' HO_3.out).2.2 | (with_reducible refine Kd.C_alloc ?_ _) | (with_reducible refine Kd.C_drewN ?_ _) | (with_reducible refine Kd.C_drew ?_))); (case side2 => exact (RC_reads' HO_3.out).2.1); rintro e w24 ⟨v297, rfl, ho0, hb⟩; refine ⟨_, rfl, ?_⟩; have n0_ := Aside0.mk (RC_elder' (by (with_reducible repeat (first | apply RC_alloc | apply RC_drewN | apply RC_drew)); exact HO_3.out) (RC_base ho0) hb); have n1_ := Aside0.mk (RC_lower (RC_new' ho0 (RC_lt (by (with_reducible repeat (first | apply RC_alloc | apply RC_drewN | apply RC_drew)); exact HO_3.out))) (below_size (by repeat (first | (with_reducible first | exact HB.out | apply below_alloc | apply pw_below_drewN | apply below_drew1) | exact HB.out)))); have n2_ := Aside0.mk (below_step (by repeat (first | (with_reducible first | exact HB.out | apply below_alloc | apply pw_below_drewN | apply below_drew1) | exact HB.out)) hb); clear HO_3; clear HB; have HO_3 := n0_; have HO298 := n1_; have HB := n2_; clear n0_ n1_ n2_; (try clear hb); (try clear hb2); (try clear hk); (try clear hi); (try clear ho0); obtain ⟨Ao25, co25, eo25⟩ := RC_slice HO298.out; subst eo25) | ((with_reducible refine gate_callee (f := 62) rfl ?_); refine goesL_ (some 47) rfl rfl Try.func62 (by kernel_rfl) rfl #[.slice Ao25 t295.length co25] rfl (by (try simp only [List.map_toArray, List.map_cons, List.map_nil]); first | done | rfl | (simp only [List.length_drop, List.length_take]; rfl)) ?_; (with_reducible refine (impl_UnDiffer.calls kj5 _ _ t295 t299 t300 _ ?side1 ?side2 A13.out).mono ?_); (case side1 => repeat (first | exact (RC_reads' HO298.out).2.2 | (with_reducible refine Kd.C_alloc ?_ _) | (with_reducible refine Kd.C_drewN ?_ _) | (with_reducible refine Kd.C_drew ?_))); (case side2 => exact (RC_reads' HO298.out).2.1); rintro e w26 ⟨v301, rfl, ho0, hb⟩; refine ⟨_, rfl, ?_⟩; have n0_ := Aside0.mk (RC_elder' (by (with_reducible repeat (first | apply RC_alloc | apply RC_drewN | apply RC_drew)); exact HO_3.out) (RC_base ho0) hb); have n1_ := Aside0.mk (RC_elder' (by (with_reducible repeat (first | apply RC_alloc | apply RC_drewN | apply RC_drew)); exact HO298.out) (RC_base ho0) hb); have n2_ := Aside0.mk (RC_lower (RC_new' (RC_new' ho0 (RC_lt (by (with_reducible repeat (first | apply RC_alloc | apply RC_drewN | apply RC_drew)); exact HO_3.out))) (RC_lt (by (with_reducible repeat (first | apply RC_alloc | apply RC_drewN | apply RC_drew)); exact HO298.out))) (below_size (by repeat (first | (with_reducible first | exact HB.out | apply below_alloc | apply pw_below_drewN | apply below_drew1) | exact HB.out)))); have n3_ := Aside0.mk (below_step (by repeat (first | (with_reducible first | exact HB.out | apply below_alloc | apply pw_below_drewN | apply below_drew1) | exact HB.out)) hb); clear HO_3; clear HO298; clear HB; have HO_3 := n0_; have HO298 := n1_; have HO302 := n2_; have HB := n3_; clear n0_ n1_ n2_ n3_; (try clear hb); (try clear hb2); (try clear hk); (try clear hi); (try clear ho0)) | ((with_reducible refine gate_callee (f := 63) rfl ?_); refine goesL_ (some 54) rfl rfl Try.func63 (by kernel_rfl) rfl #[.slice Ao23 x3_5.length co23, .int .i64 (Int.tmod t287 65536)] rfl (by (try simp only [List.map_toArray, List.map_cons, List.map_nil]); first | done | rfl | (simp only [List.length_drop, List.length_take]; rfl)) ?_; (with_reducible refine (impl_Follow.calls kj5 _ _ x3_5 (Int.tmod t287 65536) t303 t304 _ ?side1 ?side2 A14.out).mono ?_); (case side1 => repeat (first | exact (RC_reads' HO_3.out).2.2 | (with_reducible refine Kd.C_alloc ?_ _) | (with_reducible refine Kd.C_drewN ?_ _) | (with_reducible refine Kd.C_drew ?_))); (case side2 => exact (RC_reads' HO_3.out).2.1); rintro e w27 ⟨v305, rfl, ho0, hb⟩; refine ⟨_, rfl, ?_⟩; have n0_ := Aside0.mk (RC_elder' (by (with_reducible repeat (first | apply RC_alloc | apply RC_drewN | apply RC_drew)); exact HO_3.out) (RC_base ho0) hb); have n1_ := Aside0.mk (RC_elder' (by (with_reducible repeat (first | apply RC_alloc | apply RC_drewN | apply RC_drew)); exact HO298.out) (RC_base ho0) hb); have n2_ := Aside0.mk (RC_elder' (by (with_reducible repeat (first | apply RC_alloc | apply RC_drewN | apply RC_drew)); exact HO302.out) (RC_base ho0) hb); have n3_ := Aside0.mk (RC_lower (RC_new' (RC_new' (RC_new' ho0 (RC_lt (by (with_reducible repeat (first | apply RC_alloc | apply RC_drewN | apply RC_drew)); exact HO_3.out))) (RC_lt (by (with_reducible repeat (first | apply RC_alloc | apply RC_drewN | apply RC_drew)); exact HO298.out))) (RC_lt (by (with_reducible repeat (first | apply RC_alloc | apply RC_drewN | apply RC_drew)); exact HO302.out))) (below_size (by repeat (first | (with_reducible first | exact HB.out | apply below_alloc | apply pw_below_drewN | apply below_drew1) | exact HB.out)))); have n4_ := Aside0.mk (below_step (by repeat (first | (with_reducible first | exact HB.out | apply below_alloc | apply pw_below_drewN | apply below_drew1) | exact HB.out)) hb); clear HO_3; clear HO298; clear HO302; clear HB; have HO_3 := n0_; have HO298 := n1_; have HO302 := n2_; have HO306 := n3_; have HB := n4_; clear n0_ n1_ n2_ n3_ n4_; (try clear hb); (try clear hb2); (try clear hk); (try clear hi); (try clear ho0); obtain ⟨Ao28, co28, eo28⟩ := RC_slice HO306.out; subst eo28) | ((with_reducible refine gate_callee (f := 64) rfl ?_); refine goesL_ (some 61) rfl rfl Try.func64 (by kernel_rfl) rfl #[.slice Ao28 t303.length co28, .int .i64 (Int.tmod t287 65536)] rfl (by (try simp only [List.map_toArray, List.map_cons, List.map_nil]); first | done | rfl | (simp only [List.length_drop, List.length_take]; rfl)) ?_; (with_reducible refine (impl_UnFollow.calls kj5 _ _ t303 (Int.tmod t287 65536) t307 t308 _ ?side1 ?side2 A15.out).mono ?_); (case side1 => repeat (first | exact (RC_reads' HO306.out).2.2 | (with_reducible refine Kd.C_alloc ?_ _) | (with_reducible refine Kd.C_drewN ?_ _) | (with_reducible refine Kd.C_drew ?_))); (case side2 => exact (RC_reads' HO306.out).2.1); rintro e w29 ⟨v309, rfl, ho0, hb⟩; refine ⟨_, rfl, ?_⟩; have n0_ := Aside0.mk (RC_elder' (by (with_reducible repeat (first | apply RC_alloc | apply RC_drewN | apply RC_drew)); exact HO_3.out) (RC_base ho0) hb); have n1_ := Aside0.mk (RC_elder' (by (with_reducible repeat (first | apply RC_alloc | apply RC_drewN | apply RC_drew)); exact HO298.out) (RC_base ho0) hb); have n2_ := Aside0.mk (RC_elder' (by (with_reducible repeat (first | apply RC_alloc | apply RC_drewN | apply RC_drew)); exact HO302.out) (RC_base ho0) hb); have n3_ := Aside0.mk (RC_elder' (by (with_reducible repeat (first | apply RC_alloc | apply RC_drewN | apply RC_drew)); exact HO306.out) (RC_base ho0) hb); have n4_ := Aside0.mk (RC_lower (RC_new' (RC_new' (RC_new' (RC_new' ho0 (RC_lt (by (with_reducible repeat (first | apply RC_alloc | apply RC_drewN | apply RC_drew)); exact HO_3.out))) (RC_lt (by (with_reducible repeat (first | apply RC_alloc | apply RC_drewN | apply RC_drew)); exact HO298.out))) (RC_lt (by (with_reducible repeat (first | apply RC_alloc | apply RC_drewN | apply RC_drew)); exact HO302.out))) (RC_lt (by (with_reducible repeat (first | apply RC_alloc | apply RC_drewN | apply RC_drew)); exact HO306.out))) (below_size (by repeat (first | (with_reducible first | exact HB.out | apply below_alloc | apply pw_below_drewN | apply below_drew1) | exact HB.out)))); have n5_ := Aside0.mk (below_step (by repeat (first | (with_reducible first | exact HB.out | apply below_alloc | apply pw_below_drewN | apply below_drew1) | exact HB.out)) hb); clear HO_3; clear HO298; clear HO302; clear HO306; clear HB; have HO_3 := n0_; have HO298 := n1_; have HO302 := n2_; have HO306 := n3_; have HO310 := n4_; have HB := n5_; clear n0_ n1_ n2_ n3_ n4_ n5_; (try clear hb); (try clear hb2); (try clear hk); (try clear hi); (try clear ho0)) | ((with_reducible refine gate_callee (f := 15) rfl ?_); refine goesL_ (some 67) rfl rfl Try.func15 (by kernel_rfl) rfl #[.slice A0 l0.length c0, .int .i64 2] rfl (by (try simp only [List.map_toArray, List.map_cons, List.map_nil]); first | done | rfl | (simp only [List.length_drop, List.length_take]; rfl)) ?_; (with_reducible refine (laws_at.calls _ _ l0 2 t311 _ ?side1 ?side2 A16.out).mono ?_); (case side1 => repeat (first | exact (Kd.C_below HR0.out HB.out) | (with_reducible refine Kd.C_alloc ?_ _) | (with_reducible refine Kd.C_drewN ?_ _) | (with_reducible refine Kd.C_drew ?_))); (case side2 => exact HC0.out); rintro e w' ⟨rfl, ⟨nd, rfl⟩⟩; refine ⟨_, rfl, ?_⟩) | ((with_reducible refine gate_callee (f := 65) rfl ?_); refine goesL_ (some 70) rfl rfl Try.func65 (by kernel_rfl) rfl #[.slice Ao23 x3_5.length co23, .int .i64 (wrap64 (1 + (Int.tmod t311 64)))] rfl (by (try simp only [List.map_toArray, List.map_cons, List.map_nil]); first | done | rfl | (simp only [List.length_drop, List.length_take]; rfl)) ?_; (with_reducible refine (impl_Weave.calls kj5 _ _ x3_5 (wrap64 (1 + (Int.tmod t311 64))) t312 t313 _ ?side1 ?side2 A17.out).mono ?_); (case side1 => repeat (first | exact (RC_reads' HO_3.out).2.2 | (with_reducible refine Kd.C_alloc ?_ _) | (with_reducible refine Kd.C_drewN ?_ _) | (with_reducible refine Kd.C_drew ?_))); (case side2 => exact (RC_reads' HO_3.out).2.1); rintro e w30 ⟨v314, rfl, ho0, hb⟩; refine ⟨_, rfl, ?_⟩; have n0_ := Aside0.mk (RC_elder' (by (with_reducible repeat (first | apply RC_alloc | apply RC_drewN | apply RC_drew)); exact HO_3.out) (RC_base ho0) hb); have n1_ := Aside0.mk (RC_elder' (by (with_reducible repeat (first | apply RC_alloc | apply RC_drewN | apply RC_drew)); exact HO298.out) (RC_base ho0) hb); have n2_ := Aside0.mk (RC_elder' (by (with_reducible repeat (first | apply RC_alloc | apply RC_drewN | apply RC_drew)); exact HO302.out) (RC_base ho0) hb); have n3_ := Aside0.mk (RC_elder' (by (with_reducible repeat (first | apply RC_alloc | apply RC_drewN | apply RC_drew)); exact HO306.out) (RC_base ho0) hb); have n4_ := Aside0.mk (RC_elder' (by (with_reducible repeat (first | apply RC_alloc | apply RC_drewN | apply RC_drew)); exact HO310.out) (RC_base ho0) hb); have n5_ := Aside0.mk (RC_lower (RC_new' (RC_new' (RC_new' (RC_new' (RC_new' ho0 (RC_lt (by (with_reducible repeat (first | apply RC_alloc | apply RC_drewN | apply RC_drew)); exact HO_3.out))) (RC_lt (by (with_reducible repeat (first | apply RC_alloc | apply RC_drewN | apply RC_drew)); exact HO298.out))) (RC_lt (by (with_reducible repeat (first | apply RC_alloc | apply RC_drewN | apply RC_drew)); exact HO302.out))) (RC_lt (by (with_reducible repeat (first | apply RC_alloc | apply RC_drewN | apply RC_drew)); exact HO306.out))) (RC_lt (by (with_reducible repeat (first | apply RC_alloc | apply RC_drewN | apply RC_drew)); exact HO310.out))) (below_size (by repeat (first | (with_reducible first | exact HB.out | apply below_alloc | apply pw_below_drewN | apply below_drew1) | exact HB.out)))); have n6_ := Aside0.mk (below_step (by repeat (first | (with_reducible first | exact HB.out | apply below_alloc | apply pw_below_drewN | apply below_drew1) | exact HB.out)) hb); clear HO_3; clear HO298; clear HO302; clear HO306; clear HO310; clear HB; have HO_3 := n0_; have HO298 := n1_; have HO302 := n2_; have HO306 := n3_; have HO310 := n4_; have HO315 := n5_; have HB := n6_; clear n0_ n1_ n2_ n3_ n4_ n5_ n6_; (try clear hb); (try clear hb2); (try clear hk); (try clear hi); (try clear ho0)) | ((with_reducible refine gate_callee (f := 15) rfl ?_); refine goesL_ (some 76) rfl rfl Try.func15 (by kernel_rfl) rfl #[.slice A0 l0.length c0, .int .i64 2] rfl (by (try simp only [List.map_toArray, List.map_cons, List.map_nil]); first | done | rfl | (simp only [List.length_drop, List.length_take]; rfl)) ?_; (with_reducible refine (laws_at.calls _ _ l0 2 t316 _ ?side1 ?side2 A18.out).mono ?_); (case side1 => repeat (first | exact (Kd.C_below HR0.out HB.out) | (with_reducible refine Kd.C_alloc ?_ _) | (with_reducible refine Kd.C_drewN ?_ _) | (with_reducible refine Kd.C_drew ?_))); (case side2 => exact HC0.out); rintro e w' ⟨rfl, ⟨nd, rfl⟩⟩; refine ⟨_, rfl, ?_⟩; obtain ⟨Ao31, co31, eo31⟩ := RC_slice HO315.out; subst eo31) | ((with_reducible refine gate_callee (f := 66) rfl ?_); refine goesL_ (some 79) rfl rfl Try.func66 (by kernel_rfl) rfl #[.slice Ao31 t312.length co31, .int .i64 (wrap64 (1 + (Int.tmod t316 64)))] rfl (by (try simp only [List.map_toArray, List.map_cons, List.map_nil]); first | done | rfl | (simp only [List.length_drop, List.length_take]; rfl)) ?_; (with_reducible refine (impl_Unweave.calls kj5 _ _ t312 (wrap64 (1 + (Int.tmod t316 64))) t317 t318 _ ?side1 ?side2 A19.out).mono ?_); (case side1 => repeat (first | exact (RC_reads' HO315.out).2.2 | (with_reducible refine Kd.C_alloc ?_ _) | (with_reducible refine Kd.C_drewN ?_ _) | (with_reducible refine Kd.C_drew ?_))); (case side2 => exact (RC_reads' HO315.out).2.1); rintro e w32 ⟨v319, rfl, ho0, hb⟩; refine ⟨_, rfl, ?_⟩; have n0_ := Aside0.mk (RC_elder' (by (with_reducible repeat (first | apply RC_alloc | apply RC_drewN | apply RC_drew)); exact HO_3.out) (RC_base ho0) hb); have n1_ := Aside0.mk (RC_elder' (by (with_reducible repeat (first | apply RC_alloc | apply RC_drewN | apply RC_drew)); exact HO298.out) (RC_base ho0) hb); have n2_ := Aside0.mk (RC_elder' (by (with_reducible repeat (first | apply RC_alloc | apply RC_drewN | apply RC_drew)); exact HO302.out) (RC_base ho0) hb); have n3_ := Aside0.mk (RC_elder' (by (with_reducible repeat (first | apply RC_alloc | apply RC_drewN | apply RC_drew)); exact HO306.out) (RC_base ho0) hb); have n4_ := Aside0.mk (RC_elder' (by (with_reducible repeat (first | apply RC_alloc | apply RC_drewN | apply RC_drew)); exact HO310.out) (RC_base ho0) hb); have n5_ := Aside0.mk (RC_elder' (by (with_reducible repeat (first | apply RC_alloc | apply RC_drewN | apply RC_drew)); exact HO315.out) (RC_base ho0) hb); have n6_ := Aside0.mk (RC_lower (RC_new' (RC_new' (RC_new' (RC_new' (RC_new' (RC_new' ho0 (RC_lt (by (with_reducible repeat (first | apply RC_alloc | apply RC_drewN | apply RC_drew)); exact HO_3.out))) (RC_lt (by (with_reducible repeat (first | apply RC_alloc | apply RC_drewN | apply RC_drew)); exact HO298.out))) (RC_lt (by (with_reducible repeat (first | apply RC_alloc | apply RC_drewN | apply RC_drew)); exact HO302.out))) (RC_lt (by (with_reducible repeat (first | apply RC_alloc | apply RC_drewN | apply RC_drew)); exact HO306.out))) (RC_lt (by (with_reducible repeat (first | apply RC_alloc | apply RC_drewN | apply RC_drew)); exact HO310.out))) (RC_lt (by (with_reducible repeat (first | apply RC_alloc | apply RC_drewN | apply RC_drew)); exact HO315.out))) (below_size (by repeat (first | (with_reducible first | exact HB.out | apply below_alloc | apply pw_below_drewN | apply below_drew1) | exact HB.out)))); have n7_ := Aside0.mk (below_step (by repeat (first | (with_reducible first | exact HB.out | apply below_alloc | apply pw_below_drewN | apply below_drew1) | exact HB.out)) hb); clear HO_3; clear HO298; clear HO302; clear HO306; clear HO310; clear HO315; clear HB; have HO_3 := n0_; have HO298 := n1_; have HO302 := n2_; have HO306 := n3_; have HO310 := n4_; have HO315 := n5_; have HO320 := n6_; have HB := n7_; clear n0_ n1_ n2_ n3_ n4_ n5_ n6_ n7_; (try clear hb); (try clear hb2); (try clear hk); (try clear hi); (try clear ho0)) | ((with_reducible refine gate_callee (f := 67) rfl ?_); refine goesL_ (some 84) rfl rfl Try.func67 (by kernel_rfl) rfl #[.slice Ao23 x3_5.length co23] rfl (by (try simp only [List.map_toArray, List.map_cons, List.map_nil]); first | done | rfl | (simp only [List.length_drop, List.length_take]; rfl)) ?_; (with_reducible refine (impl_Pack8.calls kj5 _ _ x3_5 t321 t322 _ ?side1 ?side2 A20.out).mono ?_); (case side1 => repeat (first | exact (RC_reads' HO_3.out).2.2 | (with_reducible refine Kd.C_alloc ?_ _) | (with_reducible refine Kd.C_drewN ?_ _) | (with_reducible refine Kd.C_drew ?_))); (case side2 => exact (RC_reads' HO_3.out).2.1); rintro e w33 ⟨v323, rfl, ho0, hb⟩; refine ⟨_, rfl, ?_⟩; have n0_ := Aside0.mk (RC_below (by (with_reducible repeat (first | apply RC_alloc | apply RC_drewN | apply RC_drew)); exact HO_3.out) hb); have n1_ := Aside0.mk (RC_below (by (with_reducible repeat (first | apply RC_alloc | apply RC_drewN | apply RC_drew)); exact HO298.out) hb); have n2_ := Aside0.mk (RC_below (by (with_reducible repeat (first | apply RC_alloc | apply RC_drewN | apply RC_drew)); exact HO302.out) hb); have n3_ := Aside0.mk (RC_below (by (with_reducible repeat (first | apply RC_alloc | apply RC_drewN | apply RC_drew)); exact HO306.out) hb); have n4_ := Aside0.mk (RC_below (by (with_reducible repeat (first | apply RC_alloc | apply RC_drewN | apply RC_drew)); exact HO310.out) hb); have n5_ := Aside0.mk (RC_below (by (with_reducible repeat (first | apply RC_alloc | apply RC_drewN | apply RC_drew)); exact HO315.out) hb); have n6_ := Aside0.mk (RC_below (by (with_reducible repeat (first | apply RC_alloc | apply RC_drewN | apply RC_drew)); exact HO320.out) hb); have n7_ := Aside0.mk (RC_lower ho0 (below_size (by repeat (first | (with_reducible first | exact HB.out | apply below_alloc | apply pw_below_drewN | apply below_drew1) | exact HB.out)))); have n8_ := Aside0.mk (below_step (by repeat (first | (with_reducible first | exact HB.out | apply below_alloc | apply pw_below_drewN | apply below_drew1) | exact HB.out)) hb); clear HO_3; clear HO298; clear HO302; clear HO306; clear HO310; clear HO315; clear HO320; clear HB; have HO_3 := n0_; have HO298 := n1_; have HO302 := n2_; have HO306 := n3_; have HO310 := n4_; have HO315 := n5_; have HO320 := n6_; have HO324 := n7_; have HB := n8_; clear n0_ n1_ n2_ n3_ n4_ n5_ n6_ n7_ n8_; (try clear hb); (try clear hb2); (try clear hk); (try clear hi); (try clear ho0); obtain ⟨Ao34, co34, eo34⟩ := RC_slice HO324.out; subst eo34) | ((with_reducible refine gate_callee (f := 19) rfl ?_); refine goesL_ (some 91) rfl rfl Try.func19 (by kernel_rfl) rfl #[.slice Ao34 t321.length co34, .int .i64 (x3_5.length : Int)] rfl (by (try simp only [List.map_toArray, List.map_cons, List.map_nil]); first | done | rfl | (simp only [List.length_drop, List.length_take]; rfl)) ?_; (with_reducible refine (impl_Unpack8.calls kj5 _ _ t321 (x3_5.length : Int) t325 t326 _ ?side1 ?side2 A21.out).mono ?_); (case side1 => repeat (first | exact (RC_reads' HO324.out).2.2 | (with_reducible refine Kd.C_alloc ?_ _) | (with_reducible refine Kd.C_drewN ?_ _) | (with_reducible refine Kd.C_drew ?_))); (case side2 => exact (RC_reads' HO324.out).2.1); rintro e w35 ⟨v327, rfl, ho0, hb⟩; refine ⟨_, rfl, ?_⟩; have n0_ := Aside0.mk (RC_elder' (by (with_reducible repeat (first | apply RC_alloc | apply RC_drewN | apply RC_drew)); exact HO_3.out) (RC_base ho0) hb); have n1_ := Aside0.mk (RC_elder' (by (with_reducible repeat (first | apply RC_alloc | apply RC_drewN | apply RC_drew)); exact HO298.out) (RC_base ho0) hb); have n2_ := Aside0.mk (RC_elder' (by (with_reducible repeat (first | apply RC_alloc | apply RC_drewN | apply RC_drew)); exact HO302.out) (RC_base ho0) hb); have n3_ := Aside0.mk (RC_elder' (by (with_reducible repeat (first | apply RC_alloc | apply RC_drewN | apply RC_drew)); exact HO306.out) (RC_base ho0) hb); have n4_ := Aside0.mk (RC_elder' (by (with_reducible repeat (first | apply RC_alloc | apply RC_drewN | apply RC_drew)); exact HO310.out) (RC_base ho0) hb); have n5_ := Aside0.mk (RC_elder' (by (with_reducible repeat (first | apply RC_alloc | apply RC_drewN | apply RC_drew)); exact HO315.out) (RC_base ho0) hb); have n6_ := Aside0.mk (RC_elder' (by (with_reducible repeat (first | apply RC_alloc | apply RC_drewN | apply RC_drew)); exact HO320.out) (RC_base ho0) hb); have n7_ := Aside0.mk (RC_below (by (with_reducible repeat (first | apply RC_alloc | apply RC_drewN | apply RC_drew)); exact HO324.out) hb); have n8_ := Aside0.mk (RC_lower (RC_new' (RC_new' (RC_new' (RC_new' (RC_new' (RC_new' (RC_new' ho0 (RC_lt (by (with_reducible repeat (first | apply RC_alloc | apply RC_drewN | apply RC_drew)); exact HO_3.out))) (RC_lt (by (with_reducible repeat (first | apply RC_alloc | apply RC_drewN | apply RC_drew)); exact HO298.out))) (RC_lt (by (with_reducible repeat (first | apply RC_alloc | apply RC_drewN | apply RC_drew)); exact HO302.out))) (RC_lt (by (with_reducible repeat (first | apply RC_alloc | apply RC_drewN | apply RC_drew)); exact HO306.out))) (RC_lt (by (with_reducible repeat (first | apply RC_alloc | apply RC_drewN | apply RC_drew)); exact HO310.out))) (RC_lt (by (with_reducible repeat (first | apply RC_alloc | apply RC_drewN | apply RC_drew)); exact HO315.out))) (RC_lt (by (with_reducible repeat (first | apply RC_alloc | apply RC_drewN | apply RC_drew)); exact HO320.out))) (below_size (by repeat (first | (with_reducible first | exact HB.out | apply below_alloc | apply pw_below_drewN | apply below_drew1) | exact HB.out)))); have n9_ := Aside0.mk (below_step (by repeat (first | (with_reducible first | exact HB.out | apply below_alloc | apply pw_below_drewN | apply below_drew1) | exact HB.out)) hb); clear HO_3; clear HO298; clear HO302; clear HO306; clear HO310; clear HO315; clear HO320; clear HO324; clear HB; have HO_3 := n0_; have HO298 := n1_; have HO302 := n2_; have HO306 := n3_; have HO310 := n4_; have HO315 := n5_; have HO320 := n6_; have HO324 := n7_; have HO328 := n8_; have HB := n9_; clear n0_ n1_ n2_ n3_ n4_ n5_ n6_ n7_ n8_ n9_; (try clear hb); (try clear hb2); (try clear hk); (try clear hi); (try clear ho0)))
        (try simp only [Act.put, List.setIfInBounds_toArray, List.set_cons_zero, List.set_cons_succ])
        go_cut [123] (fun v123 wc => ∃ (kq : Nat) (x123_21 : Bool), v123 = .bool x123_21 ∧ Aside0 (laws_FnStirred.j1 kq x3_5 t287 t288 t299 t307 t317 t325 x123_21 = some r) ∧ Aside0 (kq ≤ kj5) ∧ Aside0 (RC (Kd.int .i64) 3 wc w.heap.size (fun k_ => some k_ ≠ (v301 : Value).ownBlock ∧ some k_ ≠ (v309 : Value).ownBlock ∧ some k_ ≠ (v319 : Value).ownBlock ∧ some k_ ≠ (v327 : Value).ownBlock) (.slice Ao23 x3_5.length co23) x3_5) ∧ Aside0 (RC (Kd.int .i64) 3 wc w.heap.size (fun k_ => some k_ ≠ ((.slice Ao23 x3_5.length co23) : Value).ownBlock ∧ some k_ ≠ (v309 : Value).ownBlock ∧ some k_ ≠ (v319 : Value).ownBlock ∧ some k_ ≠ (v327 : Value).ownBlock) v301 t299) ∧ Aside0 (RC (Kd.int .i64) 3 wc w.heap.size (fun k_ => some k_ ≠ ((.slice Ao23 x3_5.length co23) : Value).ownBlock ∧ some k_ ≠ (v301 : Value).ownBlock ∧ some k_ ≠ (v319 : Value).ownBlock ∧ some k_ ≠ (v327 : Value).ownBlock) v309 t307) ∧ Aside0 (RC (Kd.int .i64) 3 wc w.heap.size (fun k_ => some k_ ≠ ((.slice Ao23 x3_5.length co23) : Value).ownBlock ∧ some k_ ≠ (v301 : Value).ownBlock ∧ some k_ ≠ (v309 : Value).ownBlock ∧ some k_ ≠ (v327 : Value).ownBlock) v319 t317) ∧ Aside0 (RC (Kd.int .i64) 3 wc w.heap.size (fun k_ => some k_ ≠ ((.slice Ao23 x3_5.length co23) : Value).ownBlock ∧ some k_ ≠ (v301 : Value).ownBlock ∧ some k_ ≠ (v309 : Value).ownBlock ∧ some k_ ≠ (v319 : Value).ownBlock) v327 t325) ∧ Aside0 (Below w.heap.size w wc))
        case first =>
          have H := HC22.out
          clear HC22
          by_cases c36 : t296 = true
          · subst c36
            have H1 : (if t300 = true then (if t304 = true then (if t308 = true then (if t313 = true then (if t318 = true then (if t322 = true then (laws_FnStirred.j1 kj5 x3_5 t287 t288 t299 t307 t317 t325 (!t326)) else (laws_FnStirred.j1 kj5 x3_5 t287 t288 t299 t307 t317 t325 true)) else (laws_FnStirred.j1 kj5 x3_5 t287 t288 t299 t307 t317 t325 true)) else (laws_FnStirred.j1 kj5 x3_5 t287 t288 t299 t307 t317 t325 true)) else (laws_FnStirred.j1 kj5 x3_5 t287 t288 t299 t307 t317 t325 true)) else (laws_FnStirred.j1 kj5 x3_5 t287 t288 t299 t307 t317 t325 true)) else (laws_FnStirred.j1 kj5 x3_5 t287 t288 t299 t307 t317 t325 true)) = some r := by rw [if_pos rfl] at H; exact H
            clear H
            have H := H1
            clear H1
            by_cases c37 : t300 = true
            · subst c37
              have H1 : (if t304 = true then (if t308 = true then (if t313 = true then (if t318 = true then (if t322 = true then (laws_FnStirred.j1 kj5 x3_5 t287 t288 t299 t307 t317 t325 (!t326)) else (laws_FnStirred.j1 kj5 x3_5 t287 t288 t299 t307 t317 t325 true)) else (laws_FnStirred.j1 kj5 x3_5 t287 t288 t299 t307 t317 t325 true)) else (laws_FnStirred.j1 kj5 x3_5 t287 t288 t299 t307 t317 t325 true)) else (laws_FnStirred.j1 kj5 x3_5 t287 t288 t299 t307 t317 t325 true)) else (laws_FnStirred.j1 kj5 x3_5 t287 t288 t299 t307 t317 t325 true)) = some r := by rw [if_pos rfl] at H; exact H
              clear H
              have H := H1
              clear H1
              by_cases c38 : t304 = true
              · subst c38
                have H1 : (if t308 = true then (if t313 = true then (if t318 = true then (if t322 = true then (laws_FnStirred.j1 kj5 x3_5 t287 t288 t299 t307 t317 t325 (!t326)) else (laws_FnStirred.j1 kj5 x3_5 t287 t288 t299 t307 t317 t325 true)) else (laws_FnStirred.j1 kj5 x3_5 t287 t288 t299 t307 t317 t325 true)) else (laws_FnStirred.j1 kj5 x3_5 t287 t288 t299 t307 t317 t325 true)) else (laws_FnStirred.j1 kj5 x3_5 t287 t288 t299 t307 t317 t325 true)) = some r := by rw [if_pos rfl] at H; exact H
                clear H
                have H := H1
                clear H1
                by_cases c39 : t308 = true
                · subst c39
                  have H1 : (if t313 = true then (if t318 = true then (if t322 = true then (laws_FnStirred.j1 kj5 x3_5 t287 t288 t299 t307 t317 t325 (!t326)) else (laws_FnStirred.j1 kj5 x3_5 t287 t288 t299 t307 t317 t325 true)) else (laws_FnStirred.j1 kj5 x3_5 t287 t288 t299 t307 t317 t325 true)) else (laws_FnStirred.j1 kj5 x3_5 t287 t288 t299 t307 t317 t325 true)) = some r := by rw [if_pos rfl] at H; exact H
                  clear H
                  have H := H1
                  clear H1
                  by_cases c40 : t313 = true
                  · subst c40
                    have H1 : (if t318 = true then (if t322 = true then (laws_FnStirred.j1 kj5 x3_5 t287 t288 t299 t307 t317 t325 (!t326)) else (laws_FnStirred.j1 kj5 x3_5 t287 t288 t299 t307 t317 t325 true)) else (laws_FnStirred.j1 kj5 x3_5 t287 t288 t299 t307 t317 t325 true)) = some r := by rw [if_pos rfl] at H; exact H
                    clear H
                    have H := H1
                    clear H1
                    by_cases c41 : t318 = true
                    · subst c41
                      have H1 : (if t322 = true then (laws_FnStirred.j1 kj5 x3_5 t287 t288 t299 t307 t317 t325 (!t326)) else (laws_FnStirred.j1 kj5 x3_5 t287 t288 t299 t307 t317 t325 true)) = some r := by rw [if_pos rfl] at H; exact H
                      clear H
                      have H := H1
                      clear H1
                      by_cases c42 : t322 = true
                      · subst c42
                        have H1 : (laws_FnStirred.j1 kj5 x3_5 t287 t288 t299 t307 t317 t325 (!t326)) = some r := by rw [if_pos rfl] at H; exact H
                        clear H
                        have H := H1
                        clear H1
                        have H' := Aside0.mk H
                        clear H
                        go_wp2
                        go_meet
                        case rel => exact ⟨_, (!t326), (by first | rfl | (simp; done) | (simp [*]; done)), H', ⟨by have := HJ5.out; first | omega | exact Nat.le_refl _⟩, ⟨by (with_reducible repeat (first | apply RC_alloc | apply RC_drewN | apply RC_drew)); exact RC_mono HO_3.out (fun _ hk => ⟨hk.1.1.1.1.1.2, ⟨hk.1.1.1.2, ⟨hk.1.2, hk.2⟩⟩⟩)⟩, ⟨by (with_reducible repeat (first | apply RC_alloc | apply RC_drewN | apply RC_drew)); exact RC_mono HO302.out (fun _ hk => ⟨hk.1.1.1.1.1.1.2, ⟨hk.1.1.1.2, ⟨hk.1.2, hk.2⟩⟩⟩)⟩, ⟨by (with_reducible repeat (first | apply RC_alloc | apply RC_drewN | apply RC_drew)); exact RC_mono HO310.out (fun _ hk => ⟨hk.1.1.1.1.1.1.2, ⟨hk.1.1.1.1.2, ⟨hk.1.2, hk.2⟩⟩⟩)⟩, ⟨by (with_reducible repeat (first | apply RC_alloc | apply RC_drewN | apply RC_drew)); exact RC_mono HO320.out (fun _ hk => ⟨hk.1.1.1.1.1.1.2, ⟨hk.1.1.1.1.2, ⟨hk.1.1.2, hk.2⟩⟩⟩)⟩, ⟨by (with_reducible repeat (first | apply RC_alloc | apply RC_drewN | apply RC_drew)); exact RC_mono HO328.out (fun _ hk => ⟨hk.1.1.1.1.1.1.2, ⟨hk.1.1.1.1.2, ⟨hk.1.1.2, hk.2⟩⟩⟩)⟩, ⟨by repeat (first | (with_reducible first | exact HB.out | apply below_alloc | apply pw_below_drewN | apply below_drew1) | exact HB.out)⟩⟩
                      · replace c42 := Bool.eq_false_iff.mpr c42
                        subst c42
                        have H1 : (laws_FnStirred.j1 kj5 x3_5 t287 t288 t299 t307 t317 t325 true) = some r := by rw [if_neg (show ¬ (false = true) by decide)] at H; exact H
                        clear H
                        have H := H1
                        clear H1
                        have H' := Aside0.mk H
                        clear H
                        go_wp2
                        go_meet
                        case rel => exact ⟨_, (true), (by first | rfl | (simp; done) | (simp [*]; done)), H', ⟨by have := HJ5.out; first | omega | exact Nat.le_refl _⟩, ⟨by (with_reducible repeat (first | apply RC_alloc | apply RC_drewN | apply RC_drew)); exact RC_mono HO_3.out (fun _ hk => ⟨hk.1.1.1.1.1.2, ⟨hk.1.1.1.2, ⟨hk.1.2, hk.2⟩⟩⟩)⟩, ⟨by (with_reducible repeat (first | apply RC_alloc | apply RC_drewN | apply RC_drew)); exact RC_mono HO302.out (fun _ hk => ⟨hk.1.1.1.1.1.1.2, ⟨hk.1.1.1.2, ⟨hk.1.2, hk.2⟩⟩⟩)⟩, ⟨by (with_reducible repeat (first | apply RC_alloc | apply RC_drewN | apply RC_drew)); exact RC_mono HO310.out (fun _ hk => ⟨hk.1.1.1.1.1.1.2, ⟨hk.1.1.1.1.2, ⟨hk.1.2, hk.2⟩⟩⟩)⟩, ⟨by (with_reducible repeat (first | apply RC_alloc | apply RC_drewN | apply RC_drew)); exact RC_mono HO320.out (fun _ hk => ⟨hk.1.1.1.1.1.1.2, ⟨hk.1.1.1.1.2, ⟨hk.1.1.2, hk.2⟩⟩⟩)⟩, ⟨by (with_reducible repeat (first | apply RC_alloc | apply RC_drewN | apply RC_drew)); exact RC_mono HO328.out (fun _ hk => ⟨hk.1.1.1.1.1.1.2, ⟨hk.1.1.1.1.2, ⟨hk.1.1.2, hk.2⟩⟩⟩)⟩, ⟨by repeat (first | (with_reducible first | exact HB.out | apply below_alloc | apply pw_below_drewN | apply below_drew1) | exact HB.out)⟩⟩
                    · replace c41 := Bool.eq_false_iff.mpr c41
                      subst c41
                      have H1 : (laws_FnStirred.j1 kj5 x3_5 t287 t288 t299 t307 t317 t325 true) = some r := by rw [if_neg (show ¬ (false = true) by decide)] at H; exact H
                      clear H
                      have H := H1
                      clear H1
                      have H' := Aside0.mk H
                      clear H
                      go_wp2
                      go_meet
                      case rel => exact ⟨_, (true), (by first | rfl | (simp; done) | (simp [*]; done)), H', ⟨by have := HJ5.out; first | omega | exact Nat.le_refl _⟩, ⟨by (with_reducible repeat (first | apply RC_alloc | apply RC_drewN | apply RC_drew)); exact RC_mono HO_3.out (fun _ hk => ⟨hk.1.1.1.1.1.2, ⟨hk.1.1.1.2, ⟨hk.1.2, hk.2⟩⟩⟩)⟩, ⟨by (with_reducible repeat (first | apply RC_alloc | apply RC_drewN | apply RC_drew)); exact RC_mono HO302.out (fun _ hk => ⟨hk.1.1.1.1.1.1.2, ⟨hk.1.1.1.2, ⟨hk.1.2, hk.2⟩⟩⟩)⟩, ⟨by (with_reducible repeat (first | apply RC_alloc | apply RC_drewN | apply RC_drew)); exact RC_mono HO310.out (fun _ hk => ⟨hk.1.1.1.1.1.1.2, ⟨hk.1.1.1.1.2, ⟨hk.1.2, hk.2⟩⟩⟩)⟩, ⟨by (with_reducible repeat (first | apply RC_alloc | apply RC_drewN | apply RC_drew)); exact RC_mono HO320.out (fun _ hk => ⟨hk.1.1.1.1.1.1.2, ⟨hk.1.1.1.1.2, ⟨hk.1.1.2, hk.2⟩⟩⟩)⟩, ⟨by (with_reducible repeat (first | apply RC_alloc | apply RC_drewN | apply RC_drew)); exact RC_mono HO328.out (fun _ hk => ⟨hk.1.1.1.1.1.1.2, ⟨hk.1.1.1.1.2, ⟨hk.1.1.2, hk.2⟩⟩⟩)⟩, ⟨by repeat (first | (with_reducible first | exact HB.out | apply below_alloc | apply pw_below_drewN | apply below_drew1) | exact HB.out)⟩⟩
                  · replace c40 := Bool.eq_false_iff.mpr c40
                    subst c40
                    have H1 : (laws_FnStirred.j1 kj5 x3_5 t287 t288 t299 t307 t317 t325 true) = some r := by rw [if_neg (show ¬ (false = true) by decide)] at H; exact H
                    clear H
                    have H := H1
                    clear H1
                    have H' := Aside0.mk H
                    clear H
                    go_wp2
                    go_meet
                    case rel => exact ⟨_, (true), (by first | rfl | (simp; done) | (simp [*]; done)), H', ⟨by have := HJ5.out; first | omega | exact Nat.le_refl _⟩, ⟨by (with_reducible repeat (first | apply RC_alloc | apply RC_drewN | apply RC_drew)); exact RC_mono HO_3.out (fun _ hk => ⟨hk.1.1.1.1.1.2, ⟨hk.1.1.1.2, ⟨hk.1.2, hk.2⟩⟩⟩)⟩, ⟨by (with_reducible repeat (first | apply RC_alloc | apply RC_drewN | apply RC_drew)); exact RC_mono HO302.out (fun _ hk => ⟨hk.1.1.1.1.1.1.2, ⟨hk.1.1.1.2, ⟨hk.1.2, hk.2⟩⟩⟩)⟩, ⟨by (with_reducible repeat (first | apply RC_alloc | apply RC_drewN | apply RC_drew)); exact RC_mono HO310.out (fun _ hk => ⟨hk.1.1.1.1.1.1.2, ⟨hk.1.1.1.1.2, ⟨hk.1.2, hk.2⟩⟩⟩)⟩, ⟨by (with_reducible repeat (first | apply RC_alloc | apply RC_drewN | apply RC_drew)); exact RC_mono HO320.out (fun _ hk => ⟨hk.1.1.1.1.1.1.2, ⟨hk.1.1.1.1.2, ⟨hk.1.1.2, hk.2⟩⟩⟩)⟩, ⟨by (with_reducible repeat (first | apply RC_alloc | apply RC_drewN | apply RC_drew)); exact RC_mono HO328.out (fun _ hk => ⟨hk.1.1.1.1.1.1.2, ⟨hk.1.1.1.1.2, ⟨hk.1.1.2, hk.2⟩⟩⟩)⟩, ⟨by repeat (first | (with_reducible first | exact HB.out | apply below_alloc | apply pw_below_drewN | apply below_drew1) | exact HB.out)⟩⟩
                · replace c39 := Bool.eq_false_iff.mpr c39
                  subst c39
                  have H1 : (laws_FnStirred.j1 kj5 x3_5 t287 t288 t299 t307 t317 t325 true) = some r := by rw [if_neg (show ¬ (false = true) by decide)] at H; exact H
                  clear H
                  have H := H1
                  clear H1
                  have H' := Aside0.mk H
                  clear H
                  go_wp2
                  go_meet
                  case rel => exact ⟨_, (true), (by first | rfl | (simp; done) | (simp [*]; done)), H', ⟨by have := HJ5.out; first | omega | exact Nat.le_refl _⟩, ⟨by (with_reducible repeat (first | apply RC_alloc | apply RC_drewN | apply RC_drew)); exact RC_mono HO_3.out (fun _ hk => ⟨hk.1.1.1.1.1.2, ⟨hk.1.1.1.2, ⟨hk.1.2, hk.2⟩⟩⟩)⟩, ⟨by (with_reducible repeat (first | apply RC_alloc | apply RC_drewN | apply RC_drew)); exact RC_mono HO302.out (fun _ hk => ⟨hk.1.1.1.1.1.1.2, ⟨hk.1.1.1.2, ⟨hk.1.2, hk.2⟩⟩⟩)⟩, ⟨by (with_reducible repeat (first | apply RC_alloc | apply RC_drewN | apply RC_drew)); exact RC_mono HO310.out (fun _ hk => ⟨hk.1.1.1.1.1.1.2, ⟨hk.1.1.1.1.2, ⟨hk.1.2, hk.2⟩⟩⟩)⟩, ⟨by (with_reducible repeat (first | apply RC_alloc | apply RC_drewN | apply RC_drew)); exact RC_mono HO320.out (fun _ hk => ⟨hk.1.1.1.1.1.1.2, ⟨hk.1.1.1.1.2, ⟨hk.1.1.2, hk.2⟩⟩⟩)⟩, ⟨by (with_reducible repeat (first | apply RC_alloc | apply RC_drewN | apply RC_drew)); exact RC_mono HO328.out (fun _ hk => ⟨hk.1.1.1.1.1.1.2, ⟨hk.1.1.1.1.2, ⟨hk.1.1.2, hk.2⟩⟩⟩)⟩, ⟨by repeat (first | (with_reducible first | exact HB.out | apply below_alloc | apply pw_below_drewN | apply below_drew1) | exact HB.out)⟩⟩
              · replace c38 := Bool.eq_false_iff.mpr c38
                subst c38
                have H1 : (laws_FnStirred.j1 kj5 x3_5 t287 t288 t299 t307 t317 t325 true) = some r := by rw [if_neg (show ¬ (false = true) by decide)] at H; exact H
                clear H
                have H := H1
                clear H1
                have H' := Aside0.mk H
                clear H
                go_wp2
                go_meet
                case rel => exact ⟨_, (true), (by first | rfl | (simp; done) | (simp [*]; done)), H', ⟨by have := HJ5.out; first | omega | exact Nat.le_refl _⟩, ⟨by (with_reducible repeat (first | apply RC_alloc | apply RC_drewN | apply RC_drew)); exact RC_mono HO_3.out (fun _ hk => ⟨hk.1.1.1.1.1.2, ⟨hk.1.1.1.2, ⟨hk.1.2, hk.2⟩⟩⟩)⟩, ⟨by (with_reducible repeat (first | apply RC_alloc | apply RC_drewN | apply RC_drew)); exact RC_mono HO302.out (fun _ hk => ⟨hk.1.1.1.1.1.1.2, ⟨hk.1.1.1.2, ⟨hk.1.2, hk.2⟩⟩⟩)⟩, ⟨by (with_reducible repeat (first | apply RC_alloc | apply RC_drewN | apply RC_drew)); exact RC_mono HO310.out (fun _ hk => ⟨hk.1.1.1.1.1.1.2, ⟨hk.1.1.1.1.2, ⟨hk.1.2, hk.2⟩⟩⟩)⟩, ⟨by (with_reducible repeat (first | apply RC_alloc | apply RC_drewN | apply RC_drew)); exact RC_mono HO320.out (fun _ hk => ⟨hk.1.1.1.1.1.1.2, ⟨hk.1.1.1.1.2, ⟨hk.1.1.2, hk.2⟩⟩⟩)⟩, ⟨by (with_reducible repeat (first | apply RC_alloc | apply RC_drewN | apply RC_drew)); exact RC_mono HO328.out (fun _ hk => ⟨hk.1.1.1.1.1.1.2, ⟨hk.1.1.1.1.2, ⟨hk.1.1.2, hk.2⟩⟩⟩)⟩, ⟨by repeat (first | (with_reducible first | exact HB.out | apply below_alloc | apply pw_below_drewN | apply below_drew1) | exact HB.out)⟩⟩
            · replace c37 := Bool.eq_false_iff.mpr c37
              subst c37
              have H1 : (laws_FnStirred.j1 kj5 x3_5 t287 t288 t299 t307 t317 t325 true) = some r := by rw [if_neg (show ¬ (false = true) by decide)] at H; exact H
              clear H
              have H := H1
              clear H1
              have H' := Aside0.mk H
              clear H
              go_wp2
              go_meet
              case rel => exact ⟨_, (true), (by first | rfl | (simp; done) | (simp [*]; done)), H', ⟨by have := HJ5.out; first | omega | exact Nat.le_refl _⟩, ⟨by (with_reducible repeat (first | apply RC_alloc | apply RC_drewN | apply RC_drew)); exact RC_mono HO_3.out (fun _ hk => ⟨hk.1.1.1.1.1.2, ⟨hk.1.1.1.2, ⟨hk.1.2, hk.2⟩⟩⟩)⟩, ⟨by (with_reducible repeat (first | apply RC_alloc | apply RC_drewN | apply RC_drew)); exact RC_mono HO302.out (fun _ hk => ⟨hk.1.1.1.1.1.1.2, ⟨hk.1.1.1.2, ⟨hk.1.2, hk.2⟩⟩⟩)⟩, ⟨by (with_reducible repeat (first | apply RC_alloc | apply RC_drewN | apply RC_drew)); exact RC_mono HO310.out (fun _ hk => ⟨hk.1.1.1.1.1.1.2, ⟨hk.1.1.1.1.2, ⟨hk.1.2, hk.2⟩⟩⟩)⟩, ⟨by (with_reducible repeat (first | apply RC_alloc | apply RC_drewN | apply RC_drew)); exact RC_mono HO320.out (fun _ hk => ⟨hk.1.1.1.1.1.1.2, ⟨hk.1.1.1.1.2, ⟨hk.1.1.2, hk.2⟩⟩⟩)⟩, ⟨by (with_reducible repeat (first | apply RC_alloc | apply RC_drewN | apply RC_drew)); exact RC_mono HO328.out (fun _ hk => ⟨hk.1.1.1.1.1.1.2, ⟨hk.1.1.1.1.2, ⟨hk.1.1.2, hk.2⟩⟩⟩)⟩, ⟨by repeat (first | (with_reducible first | exact HB.out | apply below_alloc | apply pw_below_drewN | apply below_drew1) | exact HB.out)⟩⟩
          · replace c36 := Bool.eq_false_iff.mpr c36
            subst c36
            have H1 : (laws_FnStirred.j1 kj5 x3_5 t287 t288 t299 t307 t317 t325 true) = some r := by rw [if_neg (show ¬ (false = true) by decide)] at H; exact H
            clear H
            have H := H1
            clear H1
            have H' := Aside0.mk H
            clear H
            go_wp2
            go_meet
            case rel => exact ⟨_, (true), (by first | rfl | (simp; done) | (simp [*]; done)), H', ⟨by have := HJ5.out; first | omega | exact Nat.le_refl _⟩, ⟨by (with_reducible repeat (first | apply RC_alloc | apply RC_drewN | apply RC_drew)); exact RC_mono HO_3.out (fun _ hk => ⟨hk.1.1.1.1.1.2, ⟨hk.1.1.1.2, ⟨hk.1.2, hk.2⟩⟩⟩)⟩, ⟨by (with_reducible repeat (first | apply RC_alloc | apply RC_drewN | apply RC_drew)); exact RC_mono HO302.out (fun _ hk => ⟨hk.1.1.1.1.1.1.2, ⟨hk.1.1.1.2, ⟨hk.1.2, hk.2⟩⟩⟩)⟩, ⟨by (with_reducible repeat (first | apply RC_alloc | apply RC_drewN | apply RC_drew)); exact RC_mono HO310.out (fun _ hk => ⟨hk.1.1.1.1.1.1.2, ⟨hk.1.1.1.1.2, ⟨hk.1.2, hk.2⟩⟩⟩)⟩, ⟨by (with_reducible repeat (first | apply RC_alloc | apply RC_drewN | apply RC_drew)); exact RC_mono HO320.out (fun _ hk => ⟨hk.1.1.1.1.1.1.2, ⟨hk.1.1.1.1.2, ⟨hk.1.1.2, hk.2⟩⟩⟩)⟩, ⟨by (with_reducible repeat (first | apply RC_alloc | apply RC_drewN | apply RC_drew)); exact RC_mono HO328.out (fun _ hk => ⟨hk.1.1.1.1.1.1.2, ⟨hk.1.1.1.1.2, ⟨hk.1.1.2, hk.2⟩⟩⟩)⟩, ⟨by repeat (first | (with_reducible first | exact HB.out | apply below_alloc | apply pw_below_drewN | apply below_drew1) | exact HB.out)⟩⟩
        case rest =>
          clear HC22
          try clear c1
          try clear p2
          try clear c3
          try clear c4
          try clear c5
          try clear c6
          try clear p6
          try clear c9
          try clear c12
          try clear c13
          try clear c15
          try clear c19
          try clear c36
          try clear c37
          try clear c38
          try clear c39
          try clear c40
          try clear c41
          try clear c42
          try clear p2
          obtain ⟨kq, x123_21, rfl, HA, HJ21, HO_3, HO_8, HO_12, HO_16, HO_20, HB⟩ := hcut
          cases kq with
          | zero => exact absurd HA.out (by simp [laws_FnStirred.j1])
          | succ kj21 =>
            have H := HA.out
            clear HA
            simp only [laws_FnStirred.j1] at H
            by_cases c43 : x123_21 = true
            · subst c43
              have H1 : (some false) = some r := by rw [if_pos rfl] at H; exact H
              clear H
              have H := H1
              clear H1
              obtain rfl := Option.some.inj H
              go_wp2
              go_ret
              exact ⟨by first | rfl | (simp [errW_none, errW_some] <;> rfl) | (simp [*, errW_none, errW_some] <;> rfl), by repeat (first | (with_reducible first | exact HB.out | apply below_alloc | apply pw_below_drewN | apply below_drew1) | exact HB.out)⟩
            · replace c43 := Bool.eq_false_iff.mpr c43
              subst c43
              have H1 : ((laws_sameInts.f kj21 t299 x3_5).bind fun t329 => (if t329 = true then ((laws_sameInts.f kj21 t307 x3_5).bind fun t330 => (if t330 = true then ((laws_sameInts.f kj21 t317 x3_5).bind fun t331 => (if t331 = true then ((laws_sameInts.f kj21 t325 x3_5).bind fun t332 => (laws_FnStirred.j2 kj21 x3_5 t287 t288 (!t332))) else (laws_FnStirred.j2 kj21 x3_5 t287 t288 true))) else (laws_FnStirred.j2 kj21 x3_5 t287 t288 true))) else (laws_FnStirred.j2 kj21 x3_5 t287 t288 true))) = some r := by rw [if_neg (show ¬ (false = true) by decide)] at H; exact H
              clear H
              have H := H1
              clear H1
              have HC44 := Aside0.mk H
              clear H
              go_upto_region 16 with (fail)
              go_cut [145] (fun v145 wc => ∃ (kq : Nat) (x145_43 : Bool), v145 = .bool x145_43 ∧ Aside0 (laws_FnStirred.j2 kq x3_5 t287 t288 x145_43 = some r) ∧ Aside0 (kq ≤ kj21) ∧ Aside0 (RC (Kd.int .i64) 3 wc w.heap.size (fun _ => True) (.slice Ao23 x3_5.length co23) x3_5) ∧ Aside0 (Below w.heap.size w wc))
              case first =>
                have H := HC44.out
                clear HC44
                replace H := Option.bind_eq_some_iff.mp H
                obtain ⟨t329, A450, H⟩ := H
                replace H : (if t329 = true then ((laws_sameInts.f kj21 t307 x3_5).bind fun t330 => (if t330 = true then ((laws_sameInts.f kj21 t317 x3_5).bind fun t331 => (if t331 = true then ((laws_sameInts.f kj21 t325 x3_5).bind fun t332 => (laws_FnStirred.j2 kj21 x3_5 t287 t288 (!t332))) else (laws_FnStirred.j2 kj21 x3_5 t287 t288 true))) else (laws_FnStirred.j2 kj21 x3_5 t287 t288 true))) else (laws_FnStirred.j2 kj21 x3_5 t287 t288 true)) = some r := H
                have A45 := Aside0.mk A450
                clear A450
                by_cases c46 : t329 = true
                · subst c46
                  have H1 : ((laws_sameInts.f kj21 t307 x3_5).bind fun t330 => (if t330 = true then ((laws_sameInts.f kj21 t317 x3_5).bind fun t331 => (if t331 = true then ((laws_sameInts.f kj21 t325 x3_5).bind fun t332 => (laws_FnStirred.j2 kj21 x3_5 t287 t288 (!t332))) else (laws_FnStirred.j2 kj21 x3_5 t287 t288 true))) else (laws_FnStirred.j2 kj21 x3_5 t287 t288 true))) = some r := by rw [if_pos rfl] at H; exact H
                  clear H
                  have H := H1
                  clear H1
                  replace H := Option.bind_eq_some_iff.mp H
                  obtain ⟨t330, A470, H⟩ := H
                  replace H : (if t330 = true then ((laws_sameInts.f kj21 t317 x3_5).bind fun t331 => (if t331 = true then ((laws_sameInts.f kj21 t325 x3_5).bind fun t332 => (laws_FnStirred.j2 kj21 x3_5 t287 t288 (!t332))) else (laws_FnStirred.j2 kj21 x3_5 t287 t288 true))) else (laws_FnStirred.j2 kj21 x3_5 t287 t288 true)) = some r := H
                  have A47 := Aside0.mk A470
                  clear A470
                  by_cases c48 : t330 = true
                  · subst c48
                    have H1 : ((laws_sameInts.f kj21 t317 x3_5).bind fun t331 => (if t331 = true then ((laws_sameInts.f kj21 t325 x3_5).bind fun t332 => (laws_FnStirred.j2 kj21 x3_5 t287 t288 (!t332))) else (laws_FnStirred.j2 kj21 x3_5 t287 t288 true))) = some r := by rw [if_pos rfl] at H; exact H
                    clear H
                    have H := H1
                    clear H1
                    replace H := Option.bind_eq_some_iff.mp H
                    obtain ⟨t331, A490, H⟩ := H
                    replace H : (if t331 = true then ((laws_sameInts.f kj21 t325 x3_5).bind fun t332 => (laws_FnStirred.j2 kj21 x3_5 t287 t288 (!t332))) else (laws_FnStirred.j2 kj21 x3_5 t287 t288 true)) = some r := H
                    have A49 := Aside0.mk A490
                    clear A490
                    by_cases c50 : t331 = true
                    · subst c50
                      have H1 : ((laws_sameInts.f kj21 t325 x3_5).bind fun t332 => (laws_FnStirred.j2 kj21 x3_5 t287 t288 (!t332))) = some r := by rw [if_pos rfl] at H; exact H
                      clear H
                      have H := H1
                      clear H1
                      replace H := Option.bind_eq_some_iff.mp H
                      obtain ⟨t332, A510, H⟩ := H
                      replace H : (laws_FnStirred.j2 kj21 x3_5 t287 t288 (!t332)) = some r := H
                      have A51 := Aside0.mk A510
                      clear A510
                      have H' := Aside0.mk H
                      clear H
                      obtain ⟨Ao52, co52, eo52⟩ := RC_slice HO_8.out
                      subst eo52
                      go_wp2_with (first | ((with_reducible refine gate_callee (f := 35) rfl ?_); refine goesL_ (some 126) rfl rfl Try.func35 (by kernel_rfl) rfl #[.slice Ao52 t299.length co52, .slice Ao23 x3_5.length co23] rfl (by (try simp only [List.map_toArray, List.map_cons, List.map_nil]); first | done | rfl | (simp only [List.length_drop, List.length_take]; rfl)) ?_; (with_reducible refine (laws_sameInts.calls kj21 _ _ t299 _ _ x3_5 true _ ?side1 ?side2 ?side3 ?side4 A45.out).mono ?_); (case side1 => repeat (first | exact (RC_reads' HO_8.out).2.2 | (with_reducible refine Kd.C_alloc ?_ _) | (with_reducible refine Kd.C_drewN ?_ _) | (with_reducible refine Kd.C_drew ?_))); (case side2 => exact (RC_reads' HO_8.out).2.1); (case side3 => repeat (first | exact (RC_reads' HO_3.out).2.2 | (with_reducible refine Kd.C_alloc ?_ _) | (with_reducible refine Kd.C_drewN ?_ _) | (with_reducible refine Kd.C_drew ?_))); (case side4 => exact (RC_reads' HO_3.out).2.1); rintro e w' ⟨rfl, ⟨nd, rfl⟩⟩; refine ⟨_, rfl, ?_⟩; obtain ⟨Ao53, co53, eo53⟩ := RC_slice HO_12.out; subst eo53) | (go_at_call 35; (with_reducible refine (laws_sameInts.calls kj21 _ _ t307 _ _ x3_5 true _ ?side1 ?side2 ?side3 ?side4 A47.out).mono ?_); (case side1 => repeat (first | exact (RC_reads' HO_12.out).2.2 | (with_reducible refine Kd.C_alloc ?_ _) | (with_reducible refine Kd.C_drewN ?_ _) | (with_reducible refine Kd.C_drew ?_))); (case side2 => exact (RC_reads' HO_12.out).2.1); (case side3 => repeat (first | exact (RC_reads' HO_3.out).2.2 | (with_reducible refine Kd.C_alloc ?_ _) | (with_reducible refine Kd.C_drewN ?_ _) | (with_reducible refine Kd.C_drew ?_))); (case side4 => exact (RC_reads' HO_3.out).2.1); rintro e w' ⟨rfl, ⟨nd, rfl⟩⟩; obtain ⟨Ao54, co54, eo54⟩ := RC_slice HO_16.out; subst eo54) | (go_at_call 35; (with_reducible refine (laws_sameInts.calls kj21 _ _ t317 _ _ x3_5 true _ ?side1 ?side2 ?side3 ?side4 A49.out).mono ?_); (case side1 => repeat (first | exact (RC_reads' HO_16.out).2.2 | (with_reducible refine Kd.C_alloc ?_ _) | (with_reducible refine Kd.C_drewN ?_ _) | (with_reducible refine Kd.C_drew ?_))); (case side2 => exact (RC_reads' HO_16.out).2.1); (case side3 => repeat (first | exact (RC_reads' HO_3.out).2.2 | (with_reducible refine Kd.C_alloc ?_ _) | (with_reducible refine Kd.C_drewN ?_ _) | (with_reducible refine Kd.C_drew ?_))); (case side4 => exact (RC_reads' HO_3.out).2.1); rintro e w' ⟨rfl, ⟨nd, rfl⟩⟩; obtain ⟨Ao55, co55, eo55⟩ := RC_slice HO_20.out; subst eo55) | (go_at_call 35; (with_reducible refine (laws_sameInts.calls kj21 _ _ t325 _ _ x3_5 t332 _ ?side1 ?side2 ?side3 ?side4 A51.out).mono ?_); (case side1 => repeat (first | exact (RC_reads' HO_20.out).2.2 | (with_reducible refine Kd.C_alloc ?_ _) | (with_reducible refine Kd.C_drewN ?_ _) | (with_reducible refine Kd.C_drew ?_))); (case side2 => exact (RC_reads' HO_20.out).2.1); (case side3 => repeat (first | exact (RC_reads' HO_3.out).2.2 | (with_reducible refine Kd.C_alloc ?_ _) | (with_reducible refine Kd.C_drewN ?_ _) | (with_reducible refine Kd.C_drew ?_))); (case side4 => exact (RC_reads' HO_3.out).2.1); rintro e w' ⟨rfl, ⟨nd, rfl⟩⟩))
                      go_meet
                      case rel => exact ⟨_, (!t332), (by first | rfl | (simp; done) | (simp [*]; done)), H', ⟨by have := HJ5.out; have := HJ21.out; first | omega | exact Nat.le_refl _⟩, ⟨by (with_reducible repeat (first | apply RC_alloc | apply RC_drewN | apply RC_drew)); exact RC_mono HO_3.out (fun _ hk => trivial)⟩, ⟨by repeat (first | (with_reducible first | exact HB.out | apply below_alloc | apply pw_below_drewN | apply below_drew1) | exact HB.out)⟩⟩
                    · replace c50 := Bool.eq_false_iff.mpr c50
                      subst c50
                      have H1 : (laws_FnStirred.j2 kj21 x3_5 t287 t288 true) = some r := by rw [if_neg (show ¬ (false = true) by decide)] at H; exact H
                      clear H
                      have H := H1
                      clear H1
                      have H' := Aside0.mk H
                      clear H
                      obtain ⟨Ao56, co56, eo56⟩ := RC_slice HO_8.out
                      subst eo56
                      go_wp2_with (first | ((with_reducible refine gate_callee (f := 35) rfl ?_); refine goesL_ (some 126) rfl rfl Try.func35 (by kernel_rfl) rfl #[.slice Ao56 t299.length co56, .slice Ao23 x3_5.length co23] rfl (by (try simp only [List.map_toArray, List.map_cons, List.map_nil]); first | done | rfl | (simp only [List.length_drop, List.length_take]; rfl)) ?_; (with_reducible refine (laws_sameInts.calls kj21 _ _ t299 _ _ x3_5 true _ ?side1 ?side2 ?side3 ?side4 A45.out).mono ?_); (case side1 => repeat (first | exact (RC_reads' HO_8.out).2.2 | (with_reducible refine Kd.C_alloc ?_ _) | (with_reducible refine Kd.C_drewN ?_ _) | (with_reducible refine Kd.C_drew ?_))); (case side2 => exact (RC_reads' HO_8.out).2.1); (case side3 => repeat (first | exact (RC_reads' HO_3.out).2.2 | (with_reducible refine Kd.C_alloc ?_ _) | (with_reducible refine Kd.C_drewN ?_ _) | (with_reducible refine Kd.C_drew ?_))); (case side4 => exact (RC_reads' HO_3.out).2.1); rintro e w' ⟨rfl, ⟨nd, rfl⟩⟩; refine ⟨_, rfl, ?_⟩; obtain ⟨Ao57, co57, eo57⟩ := RC_slice HO_12.out; subst eo57) | (go_at_call 35; (with_reducible refine (laws_sameInts.calls kj21 _ _ t307 _ _ x3_5 true _ ?side1 ?side2 ?side3 ?side4 A47.out).mono ?_); (case side1 => repeat (first | exact (RC_reads' HO_12.out).2.2 | (with_reducible refine Kd.C_alloc ?_ _) | (with_reducible refine Kd.C_drewN ?_ _) | (with_reducible refine Kd.C_drew ?_))); (case side2 => exact (RC_reads' HO_12.out).2.1); (case side3 => repeat (first | exact (RC_reads' HO_3.out).2.2 | (with_reducible refine Kd.C_alloc ?_ _) | (with_reducible refine Kd.C_drewN ?_ _) | (with_reducible refine Kd.C_drew ?_))); (case side4 => exact (RC_reads' HO_3.out).2.1); rintro e w' ⟨rfl, ⟨nd, rfl⟩⟩; obtain ⟨Ao58, co58, eo58⟩ := RC_slice HO_16.out; subst eo58) | (go_at_call 35; (with_reducible refine (laws_sameInts.calls kj21 _ _ t317 _ _ x3_5 false _ ?side1 ?side2 ?side3 ?side4 A49.out).mono ?_); (case side1 => repeat (first | exact (RC_reads' HO_16.out).2.2 | (with_reducible refine Kd.C_alloc ?_ _) | (with_reducible refine Kd.C_drewN ?_ _) | (with_reducible refine Kd.C_drew ?_))); (case side2 => exact (RC_reads' HO_16.out).2.1); (case side3 => repeat (first | exact (RC_reads' HO_3.out).2.2 | (with_reducible refine Kd.C_alloc ?_ _) | (with_reducible refine Kd.C_drewN ?_ _) | (with_reducible refine Kd.C_drew ?_))); (case side4 => exact (RC_reads' HO_3.out).2.1); rintro e w' ⟨rfl, ⟨nd, rfl⟩⟩))
                      go_meet
                      case rel => exact ⟨_, (true), (by first | rfl | (simp; done) | (simp [*]; done)), H', ⟨by have := HJ5.out; have := HJ21.out; first | omega | exact Nat.le_refl _⟩, ⟨by (with_reducible repeat (first | apply RC_alloc | apply RC_drewN | apply RC_drew)); exact RC_mono HO_3.out (fun _ hk => trivial)⟩, ⟨by repeat (first | (with_reducible first | exact HB.out | apply below_alloc | apply pw_below_drewN | apply below_drew1) | exact HB.out)⟩⟩
                  · replace c48 := Bool.eq_false_iff.mpr c48
                    subst c48
                    have H1 : (laws_FnStirred.j2 kj21 x3_5 t287 t288 true) = some r := by rw [if_neg (show ¬ (false = true) by decide)] at H; exact H
                    clear H
                    have H := H1
                    clear H1
                    have H' := Aside0.mk H
                    clear H
                    obtain ⟨Ao59, co59, eo59⟩ := RC_slice HO_8.out
                    subst eo59
                    go_wp2_with (first | ((with_reducible refine gate_callee (f := 35) rfl ?_); refine goesL_ (some 126) rfl rfl Try.func35 (by kernel_rfl) rfl #[.slice Ao59 t299.length co59, .slice Ao23 x3_5.length co23] rfl (by (try simp only [List.map_toArray, List.map_cons, List.map_nil]); first | done | rfl | (simp only [List.length_drop, List.length_take]; rfl)) ?_; (with_reducible refine (laws_sameInts.calls kj21 _ _ t299 _ _ x3_5 true _ ?side1 ?side2 ?side3 ?side4 A45.out).mono ?_); (case side1 => repeat (first | exact (RC_reads' HO_8.out).2.2 | (with_reducible refine Kd.C_alloc ?_ _) | (with_reducible refine Kd.C_drewN ?_ _) | (with_reducible refine Kd.C_drew ?_))); (case side2 => exact (RC_reads' HO_8.out).2.1); (case side3 => repeat (first | exact (RC_reads' HO_3.out).2.2 | (with_reducible refine Kd.C_alloc ?_ _) | (with_reducible refine Kd.C_drewN ?_ _) | (with_reducible refine Kd.C_drew ?_))); (case side4 => exact (RC_reads' HO_3.out).2.1); rintro e w' ⟨rfl, ⟨nd, rfl⟩⟩; refine ⟨_, rfl, ?_⟩; obtain ⟨Ao60, co60, eo60⟩ := RC_slice HO_12.out; subst eo60) | (go_at_call 35; (with_reducible refine (laws_sameInts.calls kj21 _ _ t307 _ _ x3_5 false _ ?side1 ?side2 ?side3 ?side4 A47.out).mono ?_); (case side1 => repeat (first | exact (RC_reads' HO_12.out).2.2 | (with_reducible refine Kd.C_alloc ?_ _) | (with_reducible refine Kd.C_drewN ?_ _) | (with_reducible refine Kd.C_drew ?_))); (case side2 => exact (RC_reads' HO_12.out).2.1); (case side3 => repeat (first | exact (RC_reads' HO_3.out).2.2 | (with_reducible refine Kd.C_alloc ?_ _) | (with_reducible refine Kd.C_drewN ?_ _) | (with_reducible refine Kd.C_drew ?_))); (case side4 => exact (RC_reads' HO_3.out).2.1); rintro e w' ⟨rfl, ⟨nd, rfl⟩⟩))
                    go_meet
                    case rel => exact ⟨_, (true), (by first | rfl | (simp; done) | (simp [*]; done)), H', ⟨by have := HJ5.out; have := HJ21.out; first | omega | exact Nat.le_refl _⟩, ⟨by (with_reducible repeat (first | apply RC_alloc | apply RC_drewN | apply RC_drew)); exact RC_mono HO_3.out (fun _ hk => trivial)⟩, ⟨by repeat (first | (with_reducible first | exact HB.out | apply below_alloc | apply pw_below_drewN | apply below_drew1) | exact HB.out)⟩⟩
                · replace c46 := Bool.eq_false_iff.mpr c46
                  subst c46
                  have H1 : (laws_FnStirred.j2 kj21 x3_5 t287 t288 true) = some r := by rw [if_neg (show ¬ (false = true) by decide)] at H; exact H
                  clear H
                  have H := H1
                  clear H1
                  have H' := Aside0.mk H
                  clear H
                  obtain ⟨Ao61, co61, eo61⟩ := RC_slice HO_8.out
                  subst eo61
                  go_wp2_with (first | ((with_reducible refine gate_callee (f := 35) rfl ?_); refine goesL_ (some 126) rfl rfl Try.func35 (by kernel_rfl) rfl #[.slice Ao61 t299.length co61, .slice Ao23 x3_5.length co23] rfl (by (try simp only [List.map_toArray, List.map_cons, List.map_nil]); first | done | rfl | (simp only [List.length_drop, List.length_take]; rfl)) ?_; (with_reducible refine (laws_sameInts.calls kj21 _ _ t299 _ _ x3_5 false _ ?side1 ?side2 ?side3 ?side4 A45.out).mono ?_); (case side1 => repeat (first | exact (RC_reads' HO_8.out).2.2 | (with_reducible refine Kd.C_alloc ?_ _) | (with_reducible refine Kd.C_drewN ?_ _) | (with_reducible refine Kd.C_drew ?_))); (case side2 => exact (RC_reads' HO_8.out).2.1); (case side3 => repeat (first | exact (RC_reads' HO_3.out).2.2 | (with_reducible refine Kd.C_alloc ?_ _) | (with_reducible refine Kd.C_drewN ?_ _) | (with_reducible refine Kd.C_drew ?_))); (case side4 => exact (RC_reads' HO_3.out).2.1); rintro e w' ⟨rfl, ⟨nd, rfl⟩⟩; refine ⟨_, rfl, ?_⟩))
                  go_meet
                  case rel => exact ⟨_, (true), (by first | rfl | (simp; done) | (simp [*]; done)), H', ⟨by have := HJ5.out; have := HJ21.out; first | omega | exact Nat.le_refl _⟩, ⟨by (with_reducible repeat (first | apply RC_alloc | apply RC_drewN | apply RC_drew)); exact RC_mono HO_3.out (fun _ hk => trivial)⟩, ⟨by repeat (first | (with_reducible first | exact HB.out | apply below_alloc | apply pw_below_drewN | apply below_drew1) | exact HB.out)⟩⟩
              case rest =>
                clear HC44
                try clear c1
                try clear p2
                try clear c3
                try clear c4
                try clear c5
                try clear c6
                try clear p6
                try clear c9
                try clear c12
                try clear c13
                try clear c15
                try clear c19
                try clear c35
                try clear c36
                try clear c37
                try clear c38
                try clear c39
                try clear c40
                try clear c41
                try clear c42
                try clear c43
                try clear c46
                try clear c48
                try clear c50
                try clear c59
                try clear c60
                try clear c61
                try clear p2
                try clear p6
                obtain ⟨kq, x145_43, rfl, HA, HJ43, HO_3, HB⟩ := hcut
                cases kq with
                | zero => exact absurd HA.out (by simp [laws_FnStirred.j2])
                | succ kj43 =>
                  have H := HA.out
                  clear HA
                  simp only [laws_FnStirred.j2] at H
                  by_cases c62 : x145_43 = true
                  · subst c62
                    have H1 : (some false) = some r := by rw [if_pos rfl] at H; exact H
                    clear H
                    have H := H1
                    clear H1
                    obtain rfl := Option.some.inj H
                    go_wp2
                    go_ret
                    exact ⟨by first | rfl | (simp [errW_none, errW_some] <;> rfl) | (simp [*, errW_none, errW_some] <;> rfl), by repeat (first | (with_reducible first | exact HB.out | apply below_alloc | apply pw_below_drewN | apply below_drew1) | exact HB.out)⟩
                  · replace c62 := Bool.eq_false_iff.mpr c62
                    subst c62
                    have H1 : ((impl_Stir.f kj43 x3_5 t287 t288).bind fun bt333 => ((spec_Stir.f kj43 x3_5 t287 t288).bind fun bt337 => (if (bt333.2 != bt337.2) = true then (some false) else ((impl_Stir.f kj43 bt333.1 t287 t288).bind fun bt341 => (if bt333.2 = true then (if bt341.2 = true then ((laws_sameInts.f kj43 bt341.1 x3_5).bind fun t345 => (some t345)) else (some false)) else (some true)))))) = some r := by rw [if_neg (show ¬ (false = true) by decide)] at H; exact H
                    clear H
                    have H := H1
                    clear H1
                    replace H := Option.bind_eq_some_iff.mp H
                    obtain ⟨⟨t333, t334⟩, A630, H⟩ := H
                    replace H : ((spec_Stir.f kj43 x3_5 t287 t288).bind fun bt337 => (if (t334 != bt337.2) = true then (some false) else ((impl_Stir.f kj43 t333 t287 t288).bind fun bt341 => (if t334 = true then (if bt341.2 = true then ((laws_sameInts.f kj43 bt341.1 x3_5).bind fun t345 => (some t345)) else (some false)) else (some true))))) = some r := H
                    have A63 := Aside0.mk A630
                    clear A630
                    replace H := Option.bind_eq_some_iff.mp H
                    obtain ⟨⟨t337, t338⟩, A640, H⟩ := H
                    replace H : (if (t334 != t338) = true then (some false) else ((impl_Stir.f kj43 t333 t287 t288).bind fun bt341 => (if t334 = true then (if bt341.2 = true then ((laws_sameInts.f kj43 bt341.1 x3_5).bind fun t345 => (some t345)) else (some false)) else (some true)))) = some r := H
                    have A64 := Aside0.mk A640
                    clear A640
                    by_cases c65 : (t334 != t338) = true
                    · rw [if_pos c65] at H
                      have c65b0 : (t334 != t338) = true := c65
                      (try (have c65b1 : decide (t334 = t338) = false := by simpa using c65))
                      (try (have c65b2 : (t334 == t338) = false := by simpa using c65))
                      (try (have c65b3 : ¬ (t334 = t338) := by simpa using c65))
                      clear c65
                      obtain rfl := Option.some.inj H
                      go_wp2_with (first | ((with_reducible refine gate_callee (f := 68) rfl ?_); refine goesL_ (some 150) rfl rfl Try.func68 (by kernel_rfl) rfl #[.slice Ao23 x3_5.length co23, .int .i64 t287, .int .i64 t288] rfl (by (try simp only [List.map_toArray, List.map_cons, List.map_nil]); first | done | rfl | (simp only [List.length_drop, List.length_take]; rfl)) ?_; (with_reducible refine (impl_Stir.calls kj43 _ _ x3_5 t287 t288 t333 t334 _ ?side1 ?side2 A63.out).mono ?_); (case side1 => repeat (first | exact (RC_reads' HO_3.out).2.2 | (with_reducible refine Kd.C_alloc ?_ _) | (with_reducible refine Kd.C_drewN ?_ _) | (with_reducible refine Kd.C_drew ?_))); (case side2 => exact (RC_reads' HO_3.out).2.1); rintro e w66 ⟨v335, rfl, ho0, hb⟩; refine ⟨_, rfl, ?_⟩; have n0_ := Aside0.mk (RC_elder' (by (with_reducible repeat (first | apply RC_alloc | apply RC_drewN | apply RC_drew)); exact HO_3.out) (RC_base ho0) hb); have n1_ := Aside0.mk (RC_lower (RC_new' ho0 (RC_lt (by (with_reducible repeat (first | apply RC_alloc | apply RC_drewN | apply RC_drew)); exact HO_3.out))) (below_size (by repeat (first | (with_reducible first | exact HB.out | apply below_alloc | apply pw_below_drewN | apply below_drew1) | exact HB.out)))); have n2_ := Aside0.mk (below_step (by repeat (first | (with_reducible first | exact HB.out | apply below_alloc | apply pw_below_drewN | apply below_drew1) | exact HB.out)) hb); clear HO_3; clear HB; have HO_3 := n0_; have HO336 := n1_; have HB := n2_; clear n0_ n1_ n2_; (try clear hb); (try clear hb2); (try clear hk); (try clear hi); (try clear ho0)) | ((with_reducible refine gate_callee (f := 69) rfl ?_); refine goesL_ (some 157) rfl rfl Try.func69 (by kernel_rfl) rfl #[.slice Ao23 x3_5.length co23, .int .i64 t287, .int .i64 t288] rfl (by (try simp only [List.map_toArray, List.map_cons, List.map_nil]); first | done | rfl | (simp only [List.length_drop, List.length_take]; rfl)) ?_; (with_reducible refine (spec_Stir.calls kj43 _ _ x3_5 t287 t288 t337 t338 _ ?side1 ?side2 A64.out).mono ?_); (case side1 => repeat (first | exact (RC_reads' HO_3.out).2.2 | (with_reducible refine Kd.C_alloc ?_ _) | (with_reducible refine Kd.C_drewN ?_ _) | (with_reducible refine Kd.C_drew ?_))); (case side2 => exact (RC_reads' HO_3.out).2.1); rintro e w67 ⟨v339, rfl, ho0, hb⟩; refine ⟨_, rfl, ?_⟩; have n0_ := Aside0.mk (RC_elder' (by (with_reducible repeat (first | apply RC_alloc | apply RC_drewN | apply RC_drew)); exact HO_3.out) (RC_base ho0) hb); have n1_ := Aside0.mk (RC_elder' (by (with_reducible repeat (first | apply RC_alloc | apply RC_drewN | apply RC_drew)); exact HO336.out) (RC_base ho0) hb); have n2_ := Aside0.mk (RC_lower (RC_new' (RC_new' ho0 (RC_lt (by (with_reducible repeat (first | apply RC_alloc | apply RC_drewN | apply RC_drew)); exact HO_3.out))) (RC_lt (by (with_reducible repeat (first | apply RC_alloc | apply RC_drewN | apply RC_drew)); exact HO336.out))) (below_size (by repeat (first | (with_reducible first | exact HB.out | apply below_alloc | apply pw_below_drewN | apply below_drew1) | exact HB.out)))); have n3_ := Aside0.mk (below_step (by repeat (first | (with_reducible first | exact HB.out | apply below_alloc | apply pw_below_drewN | apply below_drew1) | exact HB.out)) hb); clear HO_3; clear HO336; clear HB; have HO_3 := n0_; have HO336 := n1_; have HO340 := n2_; have HB := n3_; clear n0_ n1_ n2_ n3_; (try clear hb); (try clear hb2); (try clear hk); (try clear hi); (try clear ho0)))
                      go_ret
                      exact ⟨by first | rfl | (simp [errW_none, errW_some] <;> rfl) | (simp [*, errW_none, errW_some] <;> rfl), by repeat (first | (with_reducible first | exact HB.out | apply below_alloc | apply pw_below_drewN | apply below_drew1) | exact HB.out)⟩
                    · rw [if_neg c65] at H
                      have c65b0 : (t334 != t338) = false := by simpa using c65
                      (try (have c65b1 : decide (t334 = t338) = true := by simpa using c65))
                      (try (have c65b2 : (t334 == t338) = true := by simpa using c65))
                      clear c65
                      replace H := Option.bind_eq_some_iff.mp H
                      obtain ⟨⟨t341, t342⟩, A680, H⟩ := H
                      replace H : (if t334 = true then (if t342 = true then ((laws_sameInts.f kj43 t341 x3_5).bind fun t345 => (some t345)) else (some false)) else (some true)) = some r := H
                      have A68 := Aside0.mk A680
                      clear A680
                      by_cases c69 : t334 = true
                      · subst c69
                        have H1 : (if t342 = true then ((laws_sameInts.f kj43 t341 x3_5).bind fun t345 => (some t345)) else (some false)) = some r := by rw [if_pos rfl] at H; exact H
                        clear H
                        have H := H1
                        clear H1
                        by_cases c70 : t342 = true
                        · subst c70
                          have H1 : ((laws_sameInts.f kj43 t341 x3_5).bind fun t345 => (some t345)) = some r := by rw [if_pos rfl] at H; exact H
                          clear H
                          have H := H1
                          clear H1
                          replace H := Option.bind_eq_some_iff.mp H
                          obtain ⟨t345, A710, H⟩ := H
                          replace H : (some t345) = some r := H
                          have A71 := Aside0.mk A710
                          clear A710
                          obtain rfl := Option.some.inj H
                          go_wp2_with (first | ((with_reducible refine gate_callee (f := 68) rfl ?_); refine goesL_ (some 150) rfl rfl Try.func68 (by kernel_rfl) rfl #[.slice Ao23 x3_5.length co23, .int .i64 t287, .int .i64 t288] rfl (by (try simp only [List.map_toArray, List.map_cons, List.map_nil]); first | done | rfl | (simp only [List.length_drop, List.length_take]; rfl)) ?_; (with_reducible refine (impl_Stir.calls kj43 _ _ x3_5 t287 t288 t333 true _ ?side1 ?side2 A63.out).mono ?_); (case side1 => repeat (first | exact (RC_reads' HO_3.out).2.2 | (with_reducible refine Kd.C_alloc ?_ _) | (with_reducible refine Kd.C_drewN ?_ _) | (with_reducible refine Kd.C_drew ?_))); (case side2 => exact (RC_reads' HO_3.out).2.1); rintro e w72 ⟨v335, rfl, ho0, hb⟩; refine ⟨_, rfl, ?_⟩; have n0_ := Aside0.mk (RC_elder' (by (with_reducible repeat (first | apply RC_alloc | apply RC_drewN | apply RC_drew)); exact HO_3.out) (RC_base ho0) hb); have n1_ := Aside0.mk (RC_lower (RC_new' ho0 (RC_lt (by (with_reducible repeat (first | apply RC_alloc | apply RC_drewN | apply RC_drew)); exact HO_3.out))) (below_size (by repeat (first | (with_reducible first | exact HB.out | apply below_alloc | apply pw_below_drewN | apply below_drew1) | exact HB.out)))); have n2_ := Aside0.mk (below_step (by repeat (first | (with_reducible first | exact HB.out | apply below_alloc | apply pw_below_drewN | apply below_drew1) | exact HB.out)) hb); clear HO_3; clear HB; have HO_3 := n0_; have HO336 := n1_; have HB := n2_; clear n0_ n1_ n2_; (try clear hb); (try clear hb2); (try clear hk); (try clear hi); (try clear ho0)) | ((with_reducible refine gate_callee (f := 69) rfl ?_); refine goesL_ (some 157) rfl rfl Try.func69 (by kernel_rfl) rfl #[.slice Ao23 x3_5.length co23, .int .i64 t287, .int .i64 t288] rfl (by (try simp only [List.map_toArray, List.map_cons, List.map_nil]); first | done | rfl | (simp only [List.length_drop, List.length_take]; rfl)) ?_; (with_reducible refine (spec_Stir.calls kj43 _ _ x3_5 t287 t288 t337 t338 _ ?side1 ?side2 A64.out).mono ?_); (case side1 => repeat (first | exact (RC_reads' HO_3.out).2.2 | (with_reducible refine Kd.C_alloc ?_ _) | (with_reducible refine Kd.C_drewN ?_ _) | (with_reducible refine Kd.C_drew ?_))); (case side2 => exact (RC_reads' HO_3.out).2.1); rintro e w73 ⟨v339, rfl, ho0, hb⟩; refine ⟨_, rfl, ?_⟩; have n0_ := Aside0.mk (RC_elder' (by (with_reducible repeat (first | apply RC_alloc | apply RC_drewN | apply RC_drew)); exact HO_3.out) (RC_base ho0) hb); have n1_ := Aside0.mk (RC_elder' (by (with_reducible repeat (first | apply RC_alloc | apply RC_drewN | apply RC_drew)); exact HO336.out) (RC_base ho0) hb); have n2_ := Aside0.mk (RC_lower (RC_new' (RC_new' ho0 (RC_lt (by (with_reducible repeat (first | apply RC_alloc | apply RC_drewN | apply RC_drew)); exact HO_3.out))) (RC_lt (by (with_reducible repeat (first | apply RC_alloc | apply RC_drewN | apply RC_drew)); exact HO336.out))) (below_size (by repeat (first | (with_reducible first | exact HB.out | apply below_alloc | apply pw_below_drewN | apply below_drew1) | exact HB.out)))); have n3_ := Aside0.mk (below_step (by repeat (first | (with_reducible first | exact HB.out | apply below_alloc | apply pw_below_drewN | apply below_drew1) | exact HB.out)) hb); clear HO_3; clear HO336; clear HB; have HO_3 := n0_; have HO336 := n1_; have HO340 := n2_; have HB := n3_; clear n0_ n1_ n2_ n3_; (try clear hb); (try clear hb2); (try clear hk); (try clear hi); (try clear ho0); obtain ⟨Ao74, co74, eo74⟩ := RC_slice HO336.out; subst eo74) | ((with_reducible refine gate_callee (f := 68) rfl ?_); refine goesL_ (some 167) rfl rfl Try.func68 (by kernel_rfl) rfl #[.slice Ao74 t333.length co74, .int .i64 t287, .int .i64 t288] rfl (by (try simp only [List.map_toArray, List.map_cons, List.map_nil]); first | done | rfl | (simp only [List.length_drop, List.length_take]; rfl)) ?_; (with_reducible refine (impl_Stir.calls kj43 _ _ t333 t287 t288 t341 true _ ?side1 ?side2 A68.out).mono ?_); (case side1 => repeat (first | exact (RC_reads' HO336.out).2.2 | (with_reducible refine Kd.C_alloc ?_ _) | (with_reducible refine Kd.C_drewN ?_ _) | (with_reducible refine Kd.C_drew ?_))); (case side2 => exact (RC_reads' HO336.out).2.1); rintro e w75 ⟨v343, rfl, ho0, hb⟩; refine ⟨_, rfl, ?_⟩; have n0_ := Aside0.mk (RC_elder' (by (with_reducible repeat (first | apply RC_alloc | apply RC_drewN | apply RC_drew)); exact HO_3.out) (RC_base ho0) hb); have n1_ := Aside0.mk (RC_elder' (by (with_reducible repeat (first | apply RC_alloc | apply RC_drewN | apply RC_drew)); exact HO336.out) (RC_base ho0) hb); have n2_ := Aside0.mk (RC_elder' (by (with_reducible repeat (first | apply RC_alloc | apply RC_drewN | apply RC_drew)); exact HO340.out) (RC_base ho0) hb); have n3_ := Aside0.mk (RC_lower (RC_new' (RC_new' (RC_new' ho0 (RC_lt (by (with_reducible repeat (first | apply RC_alloc | apply RC_drewN | apply RC_drew)); exact HO_3.out))) (RC_lt (by (with_reducible repeat (first | apply RC_alloc | apply RC_drewN | apply RC_drew)); exact HO336.out))) (RC_lt (by (with_reducible repeat (first | apply RC_alloc | apply RC_drewN | apply RC_drew)); exact HO340.out))) (below_size (by repeat (first | (with_reducible first | exact HB.out | apply below_alloc | apply pw_below_drewN | apply below_drew1) | exact HB.out)))); have n4_ := Aside0.mk (below_step (by repeat (first | (with_reducible first | exact HB.out | apply below_alloc | apply pw_below_drewN | apply below_drew1) | exact HB.out)) hb); clear HO_3; clear HO336; clear HO340; clear HB; have HO_3 := n0_; have HO336 := n1_; have HO340 := n2_; have HO344 := n3_; have HB := n4_; clear n0_ n1_ n2_ n3_ n4_; (try clear hb); (try clear hb2); (try clear hk); (try clear hi); (try clear ho0); obtain ⟨Ao76, co76, eo76⟩ := RC_slice HO344.out; subst eo76) | (go_at_call 35; (with_reducible refine (laws_sameInts.calls kj43 _ _ t341 _ _ x3_5 t345 _ ?side1 ?side2 ?side3 ?side4 A71.out).mono ?_); (case side1 => repeat (first | exact (RC_reads' HO344.out).2.2 | (with_reducible refine Kd.C_alloc ?_ _) | (with_reducible refine Kd.C_drewN ?_ _) | (with_reducible refine Kd.C_drew ?_))); (case side2 => exact (RC_reads' HO344.out).2.1); (case side3 => repeat (first | exact (RC_reads' HO_3.out).2.2 | (with_reducible refine Kd.C_alloc ?_ _) | (with_reducible refine Kd.C_drewN ?_ _) | (with_reducible refine Kd.C_drew ?_))); (case side4 => exact (RC_reads' HO_3.out).2.1); rintro e w' ⟨rfl, ⟨nd, rfl⟩⟩))
                          go_ret
                          exact ⟨by first | rfl | (simp [errW_none, errW_some] <;> rfl) | (simp [*, errW_none, errW_some] <;> rfl), by repeat (first | (with_reducible first | exact HB.out | apply below_alloc | apply pw_below_drewN | apply below_drew1) | exact HB.out)⟩
                        · replace c70 := Bool.eq_false_iff.mpr c70
                          subst c70
                          have H1 : (some false) = some r := by rw [if_neg (show ¬ (false = true) by decide)] at H; exact H
                          clear H
                          have H := H1
                          clear H1
                          obtain rfl := Option.some.inj H
                          go_wp2_with (first | ((with_reducible refine gate_callee (f := 68) rfl ?_); refine goesL_ (some 150) rfl rfl Try.func68 (by kernel_rfl) rfl #[.slice Ao23 x3_5.length co23, .int .i64 t287, .int .i64 t288] rfl (by (try simp only [List.map_toArray, List.map_cons, List.map_nil]); first | done | rfl | (simp only [List.length_drop, List.length_take]; rfl)) ?_; (with_reducible refine (impl_Stir.calls kj43 _ _ x3_5 t287 t288 t333 true _ ?side1 ?side2 A63.out).mono ?_); (case side1 => repeat (first | exact (RC_reads' HO_3.out).2.2 | (with_reducible refine Kd.C_alloc ?_ _) | (with_reducible refine Kd.C_drewN ?_ _) | (with_reducible refine Kd.C_drew ?_))); (case side2 => exact (RC_reads' HO_3.out).2.1); rintro e w77 ⟨v335, rfl, ho0, hb⟩; refine ⟨_, rfl, ?_⟩; have n0_ := Aside0.mk (RC_elder' (by (with_reducible repeat (first | apply RC_alloc | apply RC_drewN | apply RC_drew)); exact HO_3.out) (RC_base ho0) hb); have n1_ := Aside0.mk (RC_lower (RC_new' ho0 (RC_lt (by (with_reducible repeat (first | apply RC_alloc | apply RC_drewN | apply RC_drew)); exact HO_3.out))) (below_size (by repeat (first | (with_reducible first | exact HB.out | apply below_alloc | apply pw_below_drewN | apply below_drew1) | exact HB.out)))); have n2_ := Aside0.mk (below_step (by repeat (first | (with_reducible first | exact HB.out | apply below_alloc | apply pw_below_drewN | apply below_drew1) | exact HB.out)) hb); clear HO_3; clear HB; have HO_3 := n0_; have HO336 := n1_; have HB := n2_; clear n0_ n1_ n2_; (try clear hb); (try clear hb2); (try clear hk); (try clear hi); (try clear ho0)) | ((with_reducible refine gate_callee (f := 69) rfl ?_); refine goesL_ (some 157) rfl rfl Try.func69 (by kernel_rfl) rfl #[.slice Ao23 x3_5.length co23, .int .i64 t287, .int .i64 t288] rfl (by (try simp only [List.map_toArray, List.map_cons, List.map_nil]); first | done | rfl | (simp only [List.length_drop, List.length_take]; rfl)) ?_; (with_reducible refine (spec_Stir.calls kj43 _ _ x3_5 t287 t288 t337 t338 _ ?side1 ?side2 A64.out).mono ?_); (case side1 => repeat (first | exact (RC_reads' HO_3.out).2.2 | (with_reducible refine Kd.C_alloc ?_ _) | (with_reducible refine Kd.C_drewN ?_ _) | (with_reducible refine Kd.C_drew ?_))); (case side2 => exact (RC_reads' HO_3.out).2.1); rintro e w78 ⟨v339, rfl, ho0, hb⟩; refine ⟨_, rfl, ?_⟩; have n0_ := Aside0.mk (RC_elder' (by (with_reducible repeat (first | apply RC_alloc | apply RC_drewN | apply RC_drew)); exact HO_3.out) (RC_base ho0) hb); have n1_ := Aside0.mk (RC_elder' (by (with_reducible repeat (first | apply RC_alloc | apply RC_drewN | apply RC_drew)); exact HO336.out) (RC_base ho0) hb); have n2_ := Aside0.mk (RC_lower (RC_new' (RC_new' ho0 (RC_lt (by (with_reducible repeat (first | apply RC_alloc | apply RC_drewN | apply RC_drew)); exact HO_3.out))) (RC_lt (by (with_reducible repeat (first | apply RC_alloc | apply RC_drewN | apply RC_drew)); exact HO336.out))) (below_size (by repeat (first | (with_reducible first | exact HB.out | apply below_alloc | apply pw_below_drewN | apply below_drew1) | exact HB.out)))); have n3_ := Aside0.mk (below_step (by repeat (first | (with_reducible first | exact HB.out | apply below_alloc | apply pw_below_drewN | apply below_drew1) | exact HB.out)) hb); clear HO_3; clear HO336; clear HB; have HO_3 := n0_; have HO336 := n1_; have HO340 := n2_; have HB := n3_; clear n0_ n1_ n2_ n3_; (try clear hb); (try clear hb2); (try clear hk); (try clear hi); (try clear ho0); obtain ⟨Ao79, co79, eo79⟩ := RC_slice HO336.out; subst eo79) | ((with_reducible refine gate_callee (f := 68) rfl ?_); refine goesL_ (some 167) rfl rfl Try.func68 (by kernel_rfl) rfl #[.slice Ao79 t333.length co79, .int .i64 t287, .int .i64 t288] rfl (by (try simp only [List.map_toArray, List.map_cons, List.map_nil]); first | done | rfl | (simp only [List.length_drop, List.length_take]; rfl)) ?_; (with_reducible refine (impl_Stir.calls kj43 _ _ t333 t287 t288 t341 false _ ?side1 ?side2 A68.out).mono ?_); (case side1 => repeat (first | exact (RC_reads' HO336.out).2.2 | (with_reducible refine Kd.C_alloc ?_ _) | (with_reducible refine Kd.C_drewN ?_ _) | (with_reducible refine Kd.C_drew ?_))); (case side2 => exact (RC_reads' HO336.out).2.1); rintro e w80 ⟨v343, rfl, ho0, hb⟩; refine ⟨_, rfl, ?_⟩; have n0_ := Aside0.mk (RC_elder' (by (with_reducible repeat (first | apply RC_alloc | apply RC_drewN | apply RC_drew)); exact HO_3.out) (RC_base ho0) hb); have n1_ := Aside0.mk (RC_elder' (by (with_reducible repeat (first | apply RC_alloc | apply RC_drewN | apply RC_drew)); exact HO336.out) (RC_base ho0) hb); have n2_ := Aside0.mk (RC_elder' (by (with_reducible repeat (first | apply RC_alloc | apply RC_drewN | apply RC_drew)); exact HO340.out) (RC_base ho0) hb); have n3_ := Aside0.mk (RC_lower (RC_new' (RC_new' (RC_new' ho0 (RC_lt (by (with_reducible repeat (first | apply RC_alloc | apply RC_drewN | apply RC_drew)); exact HO_3.out))) (RC_lt (by (with_reducible repeat (first | apply RC_alloc | apply RC_drewN | apply RC_drew)); exact HO336.out))) (RC_lt (by (with_reducible repeat (first | apply RC_alloc | apply RC_drewN | apply RC_drew)); exact HO340.out))) (below_size (by repeat (first | (with_reducible first | exact HB.out | apply below_alloc | apply pw_below_drewN | apply below_drew1) | exact HB.out)))); have n4_ := Aside0.mk (below_step (by repeat (first | (with_reducible first | exact HB.out | apply below_alloc | apply pw_below_drewN | apply below_drew1) | exact HB.out)) hb); clear HO_3; clear HO336; clear HO340; clear HB; have HO_3 := n0_; have HO336 := n1_; have HO340 := n2_; have HO344 := n3_; have HB := n4_; clear n0_ n1_ n2_ n3_ n4_; (try clear hb); (try clear hb2); (try clear hk); (try clear hi); (try clear ho0)))
                          go_ret
                          exact ⟨by first | rfl | (simp [errW_none, errW_some] <;> rfl) | (simp [*, errW_none, errW_some] <;> rfl), by repeat (first | (with_reducible first | exact HB.out | apply below_alloc | apply pw_below_drewN | apply below_drew1) | exact HB.out)⟩
                      · replace c69 := Bool.eq_false_iff.mpr c69
                        subst c69
                        have H1 : (some true) = some r := by rw [if_neg (show ¬ (false = true) by decide)] at H; exact H
                        clear H
                        have H := H1
                        clear H1
                        obtain rfl := Option.some.inj H
                        go_wp2_with (first | ((with_reducible refine gate_callee (f := 68) rfl ?_); refine goesL_ (some 150) rfl rfl Try.func68 (by kernel_rfl) rfl #[.slice Ao23 x3_5.length co23, .int .i64 t287, .int .i64 t288] rfl (by (try simp only [List.map_toArray, List.map_cons, List.map_nil]); first | done | rfl | (simp only [List.length_drop, List.length_take]; rfl)) ?_; (with_reducible refine (impl_Stir.calls kj43 _ _ x3_5 t287 t288 t333 false _ ?side1 ?side2 A63.out).mono ?_); (case side1 => repeat (first | exact (RC_reads' HO_3.out).2.2 | (with_reducible refine Kd.C_alloc ?_ _) | (with_reducible refine Kd.C_drewN ?_ _) | (with_reducible refine Kd.C_drew ?_))); (case side2 => exact (RC_reads' HO_3.out).2.1); rintro e w81 ⟨v335, rfl, ho0, hb⟩; refine ⟨_, rfl, ?_⟩; have n0_ := Aside0.mk (RC_elder' (by (with_reducible repeat (first | apply RC_alloc | apply RC_drewN | apply RC_drew)); exact HO_3.out) (RC_base ho0) hb); have n1_ := Aside0.mk (RC_lower (RC_new' ho0 (RC_lt (by (with_reducible repeat (first | apply RC_alloc | apply RC_drewN | apply RC_drew)); exact HO_3.out))) (below_size (by repeat (first | (with_reducible first | exact HB.out | apply below_alloc | apply pw_below_drewN | apply below_drew1) | exact HB.out)))); have n2_ := Aside0.mk (below_step (by repeat (first | (with_reducible first | exact HB.out | apply below_alloc | apply pw_below_drewN | apply below_drew1) | exact HB.out)) hb); clear HO_3; clear HB; have HO_3 := n0_; have HO336 := n1_; have HB := n2_; clear n0_ n1_ n2_; (try clear hb); (try clear hb2); (try clear hk); (try clear hi); (try clear ho0)) | ((with_reducible refine gate_callee (f := 69) rfl ?_); refine goesL_ (some 157) rfl rfl Try.func69 (by kernel_rfl) rfl #[.slice Ao23 x3_5.length co23, .int .i64 t287, .int .i64 t288] rfl (by (try simp only [List.map_toArray, List.map_cons, List.map_nil]); first | done | rfl | (simp only [List.length_drop, List.length_take]; rfl)) ?_; (with_reducible refine (spec_Stir.calls kj43 _ _ x3_5 t287 t288 t337 t338 _ ?side1 ?side2 A64.out).mono ?_); (case side1 => repeat (first | exact (RC_reads' HO_3.out).2.2 | (with_reducible refine Kd.C_alloc ?_ _) | (with_reducible refine Kd.C_drewN ?_ _) | (with_reducible refine Kd.C_drew ?_))); (case side2 => exact (RC_reads' HO_3.out).2.1); rintro e w82 ⟨v339, rfl, ho0, hb⟩; refine ⟨_, rfl, ?_⟩; have n0_ := Aside0.mk (RC_elder' (by (with_reducible repeat (first | apply RC_alloc | apply RC_drewN | apply RC_drew)); exact HO_3.out) (RC_base ho0) hb); have n1_ := Aside0.mk (RC_elder' (by (with_reducible repeat (first | apply RC_alloc | apply RC_drewN | apply RC_drew)); exact HO336.out) (RC_base ho0) hb); have n2_ := Aside0.mk (RC_lower (RC_new' (RC_new' ho0 (RC_lt (by (with_reducible repeat (first | apply RC_alloc | apply RC_drewN | apply RC_drew)); exact HO_3.out))) (RC_lt (by (with_reducible repeat (first | apply RC_alloc | apply RC_drewN | apply RC_drew)); exact HO336.out))) (below_size (by repeat (first | (with_reducible first | exact HB.out | apply below_alloc | apply pw_below_drewN | apply below_drew1) | exact HB.out)))); have n3_ := Aside0.mk (below_step (by repeat (first | (with_reducible first | exact HB.out | apply below_alloc | apply pw_below_drewN | apply below_drew1) | exact HB.out)) hb); clear HO_3; clear HO336; clear HB; have HO_3 := n0_; have HO336 := n1_; have HO340 := n2_; have HB := n3_; clear n0_ n1_ n2_ n3_; (try clear hb); (try clear hb2); (try clear hk); (try clear hi); (try clear ho0); obtain ⟨Ao83, co83, eo83⟩ := RC_slice HO336.out; subst eo83) | ((with_reducible refine gate_callee (f := 68) rfl ?_); refine goesL_ (some 167) rfl rfl Try.func68 (by kernel_rfl) rfl #[.slice Ao83 t333.length co83, .int .i64 t287, .int .i64 t288] rfl (by (try simp only [List.map_toArray, List.map_cons, List.map_nil]); first | done | rfl | (simp only [List.length_drop, List.length_take]; rfl)) ?_; (with_reducible refine (impl_Stir.calls kj43 _ _ t333 t287 t288 t341 t342 _ ?side1 ?side2 A68.out).mono ?_); (case side1 => repeat (first | exact (RC_reads' HO336.out).2.2 | (with_reducible refine Kd.C_alloc ?_ _) | (with_reducible refine Kd.C_drewN ?_ _) | (with_reducible refine Kd.C_drew ?_))); (case side2 => exact (RC_reads' HO336.out).2.1); rintro e w84 ⟨v343, rfl, ho0, hb⟩; refine ⟨_, rfl, ?_⟩; have n0_ := Aside0.mk (RC_elder' (by (with_reducible repeat (first | apply RC_alloc | apply RC_drewN | apply RC_drew)); exact HO_3.out) (RC_base ho0) hb); have n1_ := Aside0.mk (RC_elder' (by (with_reducible repeat (first | apply RC_alloc | apply RC_drewN | apply RC_drew)); exact HO336.out) (RC_base ho0) hb); have n2_ := Aside0.mk (RC_elder' (by (with_reducible repeat (first | apply RC_alloc | apply RC_drewN | apply RC_drew)); exact HO340.out) (RC_base ho0) hb); have n3_ := Aside0.mk (RC_lower (RC_new' (RC_new' (RC_new' ho0 (RC_lt (by (with_reducible repeat (first | apply RC_alloc | apply RC_drewN | apply RC_drew)); exact HO_3.out))) (RC_lt (by (with_reducible repeat (first | apply RC_alloc | apply RC_drewN | apply RC_drew)); exact HO336.out))) (RC_lt (by (with_reducible repeat (first | apply RC_alloc | apply RC_drewN | apply RC_drew)); exact HO340.out))) (below_size (by repeat (first | (with_reducible first | exact HB.out | apply below_alloc | apply pw_below_drewN | apply below_drew1) | exact HB.out)))); have n4_ := Aside0.mk (below_step (by repeat (first | (with_reducible first | exact HB.out | apply below_alloc | apply pw_below_drewN | apply below_drew1) | exact HB.out)) hb); clear HO_3; clear HO336; clear HO340; clear HB; have HO_3 := n0_; have HO336 := n1_; have HO340 := n2_; have HO344 := n3_; have HB := n4_; clear n0_ n1_ n2_ n3_ n4_; (try clear hb); (try clear hb2); (try clear hk); (try clear hi); (try clear ho0)))
                        go_ret
                        exact ⟨by first | rfl | (simp [errW_none, errW_some] <;> rfl) | (simp [*, errW_none, errW_some] <;> rfl), by repeat (first | (with_reducible first | exact HB.out | apply below_alloc | apply pw_below_drewN | apply below_drew1) | exact HB.out)⟩

/-- THE ONE PURE STATEMENT of laws_FnStirred: yours. -/
def laws_FnStirred.Pure : Prop := ∀ (l0 : List Int), l0.length ≤ maxLen → l0.length * 1 ≤ 140737488351232 → (∀ x ∈ l0, (Lit.int .u8 x).wf = true) → ∃ k, laws_FnStirred.f k l0 = some true
theorem laws_FnStirred.walk (P : laws_FnStirred.Pure) (a0 : Option Addr) (len0 cap0 : Nat) (z0 : List Int) (w : World) (w0 : (a0 = none ∧ len0 = 0 ∧ cap0 = 0 ∧ z0 = []) ∨ ∃ x, a0 = some x ∧ len0 ≤ cap0 ∧ cap0 ≤ maxLen ∧ z0.length = cap0 ∧ (∀ i, i < z0.length → w.cell? (x.add i) = some (.int .u8 (z0.getD i 0))) ∧ ∀ n ∈ z0, (Lit.int .u8 n).wf = true) (y0 : len0 * 1 ≤ 140737488351232) :
    Calls Try.prog 12 #[.slice a0 len0 cap0] w fun e w' => e = .returned (.bool true) ∧ Below w.heap.size w w' := by
  obtain ⟨l0, rfl, hr0, hm0, hw0, hc0⟩ := ReadsInt.ofRowC w0
  obtain ⟨k, h⟩ := P l0 hm0 y0 hw0
  refine (laws_FnStirred.calls k _ _ l0 true w (Kd.C_of_reads (d := (0 : Int)) (h1 := fun _ => rfl) hr0) hc0 h).mono ?_
  rintro e w' ⟨rfl, hd⟩
  exact ⟨rfl, hd⟩

end Go.Proofs.Ytnpoimjdkjhcpaa.PFnStirred
