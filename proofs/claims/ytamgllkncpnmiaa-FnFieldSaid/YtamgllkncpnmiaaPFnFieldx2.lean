-- PRINTED BY print.sh 35421559b90ae4d0a3588c463048766b98c2df88dd9212a6774a882060cdf62d: not written by this session
import Derived.Test.YtamgllkncpnmiaaPFnFieldx0
import Derived.Test.YtamgllkncpnmiaaPFnFieldx1
namespace Go.Proofs.Ytamgllkncpnmiaa.PFnField
open Go.RowKit Go.Proofs.YtamgllkncpnmiaaW.PrintWords Go.Proofs.YtamgllkncpnmiaaW.PrintLast Go.Proofs.YtamgllkncpnmiaaW.PrintMore
attribute [local go_sem] max2_int min2_int max_two min_two max_three min_three max_four min_four   -- for this text's walks alone
set_option linter.unusedVariables false
set_option linter.unusedSimpArgs false

/-! ### laws_FnField: function 9 -/
def laws_FnField.j0 : Nat → Int → Int → Int → Int → Bool → Option (Bool)
  | 0, _, _, _, _, _ => none
  | k + 1, x3, x4, x5, x6, x40 => if x40 = true then (some false) else ((impl_GfMul.f k x3 (Go.bits .xor .i64 x4 x5)).bind fun t119 => ((impl_GfMul.f k x3 x5).bind fun t120 => (if t119 = (Go.bits .xor .i64 x6 t120) then (if x3 = 0 then ((impl_GfMul.f k 128 2).bind fun t121 => (some (t121 == 29))) else ((impl_GfInv.f k x3).bind fun t122 => ((impl_GfMul.f k x3 t122).bind fun t123 => (if t123 = 1 then ((impl_GfMul.f k 128 2).bind fun t124 => (some (t124 == 29))) else (some false))))) else (some false))))
def laws_FnField.f (k : Nat) (l0 : List Int) : Option (Bool) := (laws_big.f l0).bind fun t109 => (if t109 = true then (some true) else ((laws_at.f l0 0).bind fun t110 => ((laws_at.f l0 1).bind fun t111 => ((laws_at.f l0 2).bind fun t112 => ((impl_GfMul.f k t110 t111).bind fun t113 => ((spec_GfMul.f k t110 t111).bind fun t114 => (if t113 = t114 then ((impl_GfMul.f k t111 t110).bind fun t115 => (if t113 = t115 then ((impl_GfMul.f k t113 t112).bind fun t116 => ((impl_GfMul.f k t111 t112).bind fun t117 => ((impl_GfMul.f k t110 t117).bind fun t118 => (laws_FnField.j0 k t110 t111 t112 t113 (t116 != t118))))) else (laws_FnField.j0 k t110 t111 t112 t113 true))) else (laws_FnField.j0 k t110 t111 t112 t113 true))))))))
theorem laws_FnField.mono_l : ∀ k, (∀ y0 y1 y2 y3 y4, LeO (laws_FnField.j0 k y0 y1 y2 y3 y4) (laws_FnField.j0 (k + 1) y0 y1 y2 y3 y4))
  | 0 => fun _ _ _ _ _ r h => by simp [laws_FnField.j0] at h
  | k + 1 => by
    have ih0 := laws_FnField.mono_l k
    · intro y0 y1 y2 y3 y4
      unfold laws_FnField.j0
      repeat' first
      | (with_reducible exact ih0 _ _ _ _ _)
      | (with_reducible exact impl_GfInv.mono _ _)
      | (with_reducible exact impl_GfMul.mono _ _ _)
      | (with_reducible exact spec_GfMul.mono _ _ _)
      | (with_reducible exact LeO.refl _)
      | (with_reducible exact LeO.none _)
      | (with_reducible refine LeO.ite ?_ ?_)
      | (with_reducible refine LeO.bind ?_ (fun _ => ?_))
      | exact ih0 _ _ _ _ _
      | exact impl_GfInv.mono _ _
      | exact impl_GfMul.mono _ _ _
      | exact spec_GfMul.mono _ _ _
      | exact LeO.none _
      | refine LeO.ite ?_ ?_
      | refine LeO.bind ?_ (fun _ => ?_)
theorem laws_FnField.mono : ∀ a0 k, LeO (laws_FnField.f k a0) (laws_FnField.f (k + 1) a0) := by
  intro a0 k
  have ih0 := laws_FnField.mono_l k
  unfold laws_FnField.f
  repeat' first
      | (with_reducible exact ih0 _ _ _ _ _)
      | (with_reducible exact impl_GfInv.mono _ _)
      | (with_reducible exact impl_GfMul.mono _ _ _)
      | (with_reducible exact spec_GfMul.mono _ _ _)
      | (with_reducible exact LeO.refl _)
      | (with_reducible exact LeO.none _)
      | (with_reducible refine LeO.ite ?_ ?_)
      | (with_reducible refine LeO.bind ?_ (fun _ => ?_))
      | exact ih0 _ _ _ _ _
      | exact impl_GfInv.mono _ _
      | exact impl_GfMul.mono _ _ _
      | exact spec_GfMul.mono _ _ _
      | exact LeO.none _
      | refine LeO.ite ?_ ?_
      | refine LeO.bind ?_ (fun _ => ?_)
set_option maxHeartbeats 8000000 in
set_option maxRecDepth 100000 in
theorem laws_FnField.calls (k : Nat) (A0 : Option Addr) (c0 : Nat) (l0 : List Int) (r : Bool) (w : World) (hr0 : Kd.C (Kd.int .u8) w A0 l0.length l0) (hc0 : l0.length ≤ c0) (h : laws_FnField.f k l0 = some r) :
    Calls Try.prog 9 #[.slice A0 l0.length c0] w fun e w' => e = .returned (.bool r) ∧ Drawn0 w w' := by
  have HR0 := Aside0.mk hr0
  have HC0 := Aside0.mk hc0
  clear hr0 hc0
  have H : ((laws_big.f l0).bind fun t109 => (if t109 = true then (some true) else ((laws_at.f l0 0).bind fun t110 => ((laws_at.f l0 1).bind fun t111 => ((laws_at.f l0 2).bind fun t112 => ((impl_GfMul.f k t110 t111).bind fun t113 => ((spec_GfMul.f k t110 t111).bind fun t114 => (if t113 = t114 then ((impl_GfMul.f k t111 t110).bind fun t115 => (if t113 = t115 then ((impl_GfMul.f k t113 t112).bind fun t116 => ((impl_GfMul.f k t111 t112).bind fun t117 => ((impl_GfMul.f k t110 t117).bind fun t118 => (laws_FnField.j0 k t110 t111 t112 t113 (t116 != t118))))) else (laws_FnField.j0 k t110 t111 t112 t113 true))) else (laws_FnField.j0 k t110 t111 t112 t113 true))))))))) = some r := h
  clear h
  replace H := Option.bind_eq_some_iff.mp H
  obtain ⟨t109, A20, H⟩ := H
  replace H : (if t109 = true then (some true) else ((laws_at.f l0 0).bind fun t110 => ((laws_at.f l0 1).bind fun t111 => ((laws_at.f l0 2).bind fun t112 => ((impl_GfMul.f k t110 t111).bind fun t113 => ((spec_GfMul.f k t110 t111).bind fun t114 => (if t113 = t114 then ((impl_GfMul.f k t111 t110).bind fun t115 => (if t113 = t115 then ((impl_GfMul.f k t113 t112).bind fun t116 => ((impl_GfMul.f k t111 t112).bind fun t117 => ((impl_GfMul.f k t110 t117).bind fun t118 => (laws_FnField.j0 k t110 t111 t112 t113 (t116 != t118))))) else (laws_FnField.j0 k t110 t111 t112 t113 true))) else (laws_FnField.j0 k t110 t111 t112 t113 true)))))))) = some r := H
  have A2 := Aside0.mk A20
  clear A20
  by_cases c3 : t109 = true
  · subst c3
    have H1 : (some true) = some r := by rw [if_pos rfl] at H; exact H
    clear H
    have H := H1
    clear H1
    obtain rfl := Option.some.inj H
    go_enter Try.func9, Try.ntmps9
    go_wp2_with (first | ((with_reducible refine gate_callee (f := 19) rfl ?_); refine goesL_ (some 8) rfl rfl Try.func19 (by kernel_rfl) rfl #[.slice A0 l0.length c0] rfl (by (try simp only [List.map_toArray, List.map_cons, List.map_nil]); first | done | rfl | (simp only [List.length_drop, List.length_take]; rfl)) ?_; (with_reducible refine (laws_big.calls _ _ l0 true _ ?side1 ?side2 A2.out).mono ?_); (case side1 => repeat (first | exact HR0.out | (with_reducible refine Kd.C_alloc ?_ _) | (with_reducible refine Kd.C_drewN ?_ _) | (with_reducible refine Kd.C_drew ?_))); (case side2 => exact HC0.out); rintro e w' ⟨rfl, ⟨nd, rfl⟩⟩; refine ⟨_, rfl, ?_⟩))
    go_ret
    exact ⟨by first | rfl | (simp; done) | (simp [*]; done), by repeat (first | exact Drawn0.refl _ | apply Drawn0.step)⟩
  · replace c3 := Bool.eq_false_iff.mpr c3
    subst c3
    have H1 : ((laws_at.f l0 0).bind fun t110 => ((laws_at.f l0 1).bind fun t111 => ((laws_at.f l0 2).bind fun t112 => ((impl_GfMul.f k t110 t111).bind fun t113 => ((spec_GfMul.f k t110 t111).bind fun t114 => (if t113 = t114 then ((impl_GfMul.f k t111 t110).bind fun t115 => (if t113 = t115 then ((impl_GfMul.f k t113 t112).bind fun t116 => ((impl_GfMul.f k t111 t112).bind fun t117 => ((impl_GfMul.f k t110 t117).bind fun t118 => (laws_FnField.j0 k t110 t111 t112 t113 (t116 != t118))))) else (laws_FnField.j0 k t110 t111 t112 t113 true))) else (laws_FnField.j0 k t110 t111 t112 t113 true))))))) = some r := by rw [if_neg (show ¬ (false = true) by decide)] at H; exact H
    clear H
    have H := H1
    clear H1
    replace H := Option.bind_eq_some_iff.mp H
    obtain ⟨t110, A40, H⟩ := H
    replace H : ((laws_at.f l0 1).bind fun t111 => ((laws_at.f l0 2).bind fun t112 => ((impl_GfMul.f k t110 t111).bind fun t113 => ((spec_GfMul.f k t110 t111).bind fun t114 => (if t113 = t114 then ((impl_GfMul.f k t111 t110).bind fun t115 => (if t113 = t115 then ((impl_GfMul.f k t113 t112).bind fun t116 => ((impl_GfMul.f k t111 t112).bind fun t117 => ((impl_GfMul.f k t110 t117).bind fun t118 => (laws_FnField.j0 k t110 t111 t112 t113 (t116 != t118))))) else (laws_FnField.j0 k t110 t111 t112 t113 true))) else (laws_FnField.j0 k t110 t111 t112 t113 true)))))) = some r := H
    have A4 := Aside0.mk A40
    clear A40
    replace H := Option.bind_eq_some_iff.mp H
    obtain ⟨t111, A50, H⟩ := H
    replace H : ((laws_at.f l0 2).bind fun t112 => ((impl_GfMul.f k t110 t111).bind fun t113 => ((spec_GfMul.f k t110 t111).bind fun t114 => (if t113 = t114 then ((impl_GfMul.f k t111 t110).bind fun t115 => (if t113 = t115 then ((impl_GfMul.f k t113 t112).bind fun t116 => ((impl_GfMul.f k t111 t112).bind fun t117 => ((impl_GfMul.f k t110 t117).bind fun t118 => (laws_FnField.j0 k t110 t111 t112 t113 (t116 != t118))))) else (laws_FnField.j0 k t110 t111 t112 t113 true))) else (laws_FnField.j0 k t110 t111 t112 t113 true))))) = some r := H
    have A5 := Aside0.mk A50
    clear A50
    replace H := Option.bind_eq_some_iff.mp H
    obtain ⟨t112, A60, H⟩ := H
    replace H : ((impl_GfMul.f k t110 t111).bind fun t113 => ((spec_GfMul.f k t110 t111).bind fun t114 => (if t113 = t114 then ((impl_GfMul.f k t111 t110).bind fun t115 => (if t113 = t115 then ((impl_GfMul.f k t113 t112).bind fun t116 => ((impl_GfMul.f k t111 t112).bind fun t117 => ((impl_GfMul.f k t110 t117).bind fun t118 => (laws_FnField.j0 k t110 t111 t112 t113 (t116 != t118))))) else (laws_FnField.j0 k t110 t111 t112 t113 true))) else (laws_FnField.j0 k t110 t111 t112 t113 true)))) = some r := H
    have A6 := Aside0.mk A60
    clear A60
    replace H := Option.bind_eq_some_iff.mp H
    obtain ⟨t113, A70, H⟩ := H
    replace H : ((spec_GfMul.f k t110 t111).bind fun t114 => (if t113 = t114 then ((impl_GfMul.f k t111 t110).bind fun t115 => (if t113 = t115 then ((impl_GfMul.f k t113 t112).bind fun t116 => ((impl_GfMul.f k t111 t112).bind fun t117 => ((impl_GfMul.f k t110 t117).bind fun t118 => (laws_FnField.j0 k t110 t111 t112 t113 (t116 != t118))))) else (laws_FnField.j0 k t110 t111 t112 t113 true))) else (laws_FnField.j0 k t110 t111 t112 t113 true))) = some r := H
    have A7 := Aside0.mk A70
    clear A70
    have HC8 := Aside0.mk H
    clear H
    go_enter Try.func9, Try.ntmps9
    go_upto_region 5 with (first | ((with_reducible refine gate_callee (f := 19) rfl ?_); refine goesL_ (some 8) rfl rfl Try.func19 (by kernel_rfl) rfl #[.slice A0 l0.length c0] rfl (by (try simp only [List.map_toArray, List.map_cons, List.map_nil]); first | done | rfl | (simp only [List.length_drop, List.length_take]; rfl)) ?_; (with_reducible refine (laws_big.calls _ _ l0 false _ ?side1 ?side2 A2.out).mono ?_); (case side1 => repeat (first | exact HR0.out | (with_reducible refine Kd.C_alloc ?_ _) | (with_reducible refine Kd.C_drewN ?_ _) | (with_reducible refine Kd.C_drew ?_))); (case side2 => exact HC0.out); rintro e w' ⟨rfl, ⟨nd, rfl⟩⟩; refine ⟨_, rfl, ?_⟩) | ((with_reducible refine gate_callee (f := 20) rfl ?_); refine goesL_ (some 10) rfl rfl Try.func20 (by kernel_rfl) rfl #[.slice A0 l0.length c0, .int .i64 0] rfl (by (try simp only [List.map_toArray, List.map_cons, List.map_nil]); first | done | rfl | (simp only [List.length_drop, List.length_take]; rfl)) ?_; (with_reducible refine (laws_at.calls _ _ l0 0 t110 _ ?side1 ?side2 A4.out).mono ?_); (case side1 => repeat (first | exact HR0.out | (with_reducible refine Kd.C_alloc ?_ _) | (with_reducible refine Kd.C_drewN ?_ _) | (with_reducible refine Kd.C_drew ?_))); (case side2 => exact HC0.out); rintro e w' ⟨rfl, ⟨nd, rfl⟩⟩; refine ⟨_, rfl, ?_⟩) | ((with_reducible refine gate_callee (f := 20) rfl ?_); refine goesL_ (some 12) rfl rfl Try.func20 (by kernel_rfl) rfl #[.slice A0 l0.length c0, .int .i64 1] rfl (by (try simp only [List.map_toArray, List.map_cons, List.map_nil]); first | done | rfl | (simp only [List.length_drop, List.length_take]; rfl)) ?_; (with_reducible refine (laws_at.calls _ _ l0 1 t111 _ ?side1 ?side2 A5.out).mono ?_); (case side1 => repeat (first | exact HR0.out | (with_reducible refine Kd.C_alloc ?_ _) | (with_reducible refine Kd.C_drewN ?_ _) | (with_reducible refine Kd.C_drew ?_))); (case side2 => exact HC0.out); rintro e w' ⟨rfl, ⟨nd, rfl⟩⟩; refine ⟨_, rfl, ?_⟩) | ((with_reducible refine gate_callee (f := 20) rfl ?_); refine goesL_ (some 14) rfl rfl Try.func20 (by kernel_rfl) rfl #[.slice A0 l0.length c0, .int .i64 2] rfl (by (try simp only [List.map_toArray, List.map_cons, List.map_nil]); first | done | rfl | (simp only [List.length_drop, List.length_take]; rfl)) ?_; (with_reducible refine (laws_at.calls _ _ l0 2 t112 _ ?side1 ?side2 A6.out).mono ?_); (case side1 => repeat (first | exact HR0.out | (with_reducible refine Kd.C_alloc ?_ _) | (with_reducible refine Kd.C_drewN ?_ _) | (with_reducible refine Kd.C_drew ?_))); (case side2 => exact HC0.out); rintro e w' ⟨rfl, ⟨nd, rfl⟩⟩; refine ⟨_, rfl, ?_⟩) | ((with_reducible refine gate_callee (f := 23) rfl ?_); refine goesL_ (some 17) rfl rfl Try.func23 (by kernel_rfl) rfl #[.int .i64 t110, .int .i64 t111] rfl (by (try simp only [List.map_toArray, List.map_cons, List.map_nil]); first | done | rfl | (simp only [List.length_drop, List.length_take]; rfl)) ?_; (with_reducible refine (impl_GfMul.calls k t110 t111 t113 _ A7.out).mono ?_); rintro e w' ⟨rfl, ⟨nd, rfl⟩⟩; refine ⟨_, rfl, ?_⟩))
    (try simp only [Act.put, List.setIfInBounds_toArray, List.set_cons_zero, List.set_cons_succ])
    go_cut [40] (fun v40 wc => ∃ (kq : Nat) (x40_7 : Bool), v40 = .bool x40_7 ∧ Aside0 (laws_FnField.j0 kq t110 t111 t112 t113 x40_7 = some r) ∧ Aside0 (kq ≤ k) ∧ Drawn0 w wc)
    case first =>
      have H := HC8.out
      clear HC8
      replace H := Option.bind_eq_some_iff.mp H
      obtain ⟨t114, A90, H⟩ := H
      replace H : (if t113 = t114 then ((impl_GfMul.f k t111 t110).bind fun t115 => (if t113 = t115 then ((impl_GfMul.f k t113 t112).bind fun t116 => ((impl_GfMul.f k t111 t112).bind fun t117 => ((impl_GfMul.f k t110 t117).bind fun t118 => (laws_FnField.j0 k t110 t111 t112 t113 (t116 != t118))))) else (laws_FnField.j0 k t110 t111 t112 t113 true))) else (laws_FnField.j0 k t110 t111 t112 t113 true)) = some r := H
      have A9 := Aside0.mk A90
      clear A90
      by_cases c10 : t113 = t114
      · rw [if_pos c10] at H
        have c10b0 : (t113 == t114) = true := beq_iff_eq.mpr c10
        have c10b1 : (t113 != t114) = false := bne_eq_false_iff_eq.mpr c10
        clear c10
        (first | rw [c10b0] | (simp only [i64_w, i32_w]; rw [c10b0]) | skip)
        replace H := Option.bind_eq_some_iff.mp H
        obtain ⟨t115, A110, H⟩ := H
        replace H : (if t113 = t115 then ((impl_GfMul.f k t113 t112).bind fun t116 => ((impl_GfMul.f k t111 t112).bind fun t117 => ((impl_GfMul.f k t110 t117).bind fun t118 => (laws_FnField.j0 k t110 t111 t112 t113 (t116 != t118))))) else (laws_FnField.j0 k t110 t111 t112 t113 true)) = some r := H
        have A11 := Aside0.mk A110
        clear A110
        by_cases c12 : t113 = t115
        · rw [if_pos c12] at H
          have c12b0 : (t113 == t115) = true := beq_iff_eq.mpr c12
          have c12b1 : (t113 != t115) = false := bne_eq_false_iff_eq.mpr c12
          clear c12
          replace H := Option.bind_eq_some_iff.mp H
          obtain ⟨t116, A130, H⟩ := H
          replace H : ((impl_GfMul.f k t111 t112).bind fun t117 => ((impl_GfMul.f k t110 t117).bind fun t118 => (laws_FnField.j0 k t110 t111 t112 t113 (t116 != t118)))) = some r := H
          have A13 := Aside0.mk A130
          clear A130
          replace H := Option.bind_eq_some_iff.mp H
          obtain ⟨t117, A140, H⟩ := H
          replace H : ((impl_GfMul.f k t110 t117).bind fun t118 => (laws_FnField.j0 k t110 t111 t112 t113 (t116 != t118))) = some r := H
          have A14 := Aside0.mk A140
          clear A140
          replace H := Option.bind_eq_some_iff.mp H
          obtain ⟨t118, A150, H⟩ := H
          replace H : (laws_FnField.j0 k t110 t111 t112 t113 (t116 != t118)) = some r := H
          have A15 := Aside0.mk A150
          clear A150
          have H' := Aside0.mk H
          clear H
          go_wp2_with (first | ((with_reducible refine gate_callee (f := 22) rfl ?_); refine goesL_ (some 21) rfl rfl Try.func22 (by kernel_rfl) rfl #[.int .i64 t110, .int .i64 t111] rfl (by (try simp only [List.map_toArray, List.map_cons, List.map_nil]); first | done | rfl | (simp only [List.length_drop, List.length_take]; rfl)) ?_; (with_reducible refine (spec_GfMul.calls k t110 t111 t114 _ A9.out).mono ?_); rintro e w' ⟨rfl, ⟨nd, rfl⟩⟩; refine ⟨_, rfl, ?_⟩) | (go_at_call 23; (with_reducible refine (impl_GfMul.calls k t111 t110 t115 _ A11.out).mono ?_); rintro e w' ⟨rfl, ⟨nd, rfl⟩⟩) | (go_at_call 23; (with_reducible refine (impl_GfMul.calls k t113 t112 t116 _ A13.out).mono ?_); rintro e w' ⟨rfl, ⟨nd, rfl⟩⟩) | (go_at_call 23; (with_reducible refine (impl_GfMul.calls k t111 t112 t117 _ A14.out).mono ?_); rintro e w' ⟨rfl, ⟨nd, rfl⟩⟩) | (go_at_call 23; (with_reducible refine (impl_GfMul.calls k t110 t117 t118 _ A15.out).mono ?_); rintro e w' ⟨rfl, ⟨nd, rfl⟩⟩))
          go_meet
          case rel => exact ⟨_, ((t116 != t118)), (by first | rfl | (simp; done) | (simp [*]; done)), H', ⟨by first | omega | exact Nat.le_refl _⟩, by repeat (first | exact Drawn0.refl _ | apply Drawn0.step)⟩
        · rw [if_neg c12] at H
          have c12b0 : (t113 == t115) = false := beq_eq_false_iff_ne.mpr c12
          have c12b1 : (t113 != t115) = true := bne_iff_ne.mpr c12
          have H' := Aside0.mk H
          clear H
          go_wp2_with (first | ((with_reducible refine gate_callee (f := 22) rfl ?_); refine goesL_ (some 21) rfl rfl Try.func22 (by kernel_rfl) rfl #[.int .i64 t110, .int .i64 t111] rfl (by (try simp only [List.map_toArray, List.map_cons, List.map_nil]); first | done | rfl | (simp only [List.length_drop, List.length_take]; rfl)) ?_; (with_reducible refine (spec_GfMul.calls k t110 t111 t114 _ A9.out).mono ?_); rintro e w' ⟨rfl, ⟨nd, rfl⟩⟩; refine ⟨_, rfl, ?_⟩) | (go_at_call 23; (with_reducible refine (impl_GfMul.calls k t111 t110 t115 _ A11.out).mono ?_); rintro e w' ⟨rfl, ⟨nd, rfl⟩⟩))
          go_meet
          case rel => exact ⟨_, (true), (by first | rfl | (simp; done) | (simp [*]; done)), H', ⟨by first | omega | exact Nat.le_refl _⟩, by repeat (first | exact Drawn0.refl _ | apply Drawn0.step)⟩
      · rw [if_neg c10] at H
        have c10b0 : (t113 == t114) = false := beq_eq_false_iff_ne.mpr c10
        have c10b1 : (t113 != t114) = true := bne_iff_ne.mpr c10
        (first | rw [c10b0] | (simp only [i64_w, i32_w]; rw [c10b0]) | skip)
        have H' := Aside0.mk H
        clear H
        go_wp2_with (first | ((with_reducible refine gate_callee (f := 22) rfl ?_); refine goesL_ (some 21) rfl rfl Try.func22 (by kernel_rfl) rfl #[.int .i64 t110, .int .i64 t111] rfl (by (try simp only [List.map_toArray, List.map_cons, List.map_nil]); first | done | rfl | (simp only [List.length_drop, List.length_take]; rfl)) ?_; (with_reducible refine (spec_GfMul.calls k t110 t111 t114 _ A9.out).mono ?_); rintro e w' ⟨rfl, ⟨nd, rfl⟩⟩; refine ⟨_, rfl, ?_⟩))
        go_meet
        case rel => exact ⟨_, (true), (by first | rfl | (simp; done) | (simp [*]; done)), H', ⟨by first | omega | exact Nat.le_refl _⟩, by repeat (first | exact Drawn0.refl _ | apply Drawn0.step)⟩
    case rest =>
      clear HC8
      try clear c1
      try clear c2
      try clear p2
      try clear c3
      try clear c9
      try clear c10
      try clear c10b0
      try clear c10b1
      try clear c12
      try clear c12b0
      try clear c12b1
      obtain ⟨kq, x40_7, rfl, HA, HJ7, ⟨mc7, rfl⟩⟩ := hcut
      cases kq with
      | zero => exact absurd HA.out (by simp [laws_FnField.j0])
      | succ kj7 =>
        have H := HA.out
        clear HA
        simp only [laws_FnField.j0] at H
        by_cases c16 : x40_7 = true
        · subst c16
          have H1 : (some false) = some r := by rw [if_pos rfl] at H; exact H
          clear H
          have H := H1
          clear H1
          obtain rfl := Option.some.inj H
          go_wp2
          go_ret
          exact ⟨by first | rfl | (simp; done) | (simp [*]; done), by repeat (first | exact Drawn0.refl _ | apply Drawn0.step)⟩
        · replace c16 := Bool.eq_false_iff.mpr c16
          subst c16
          have H1 : ((impl_GfMul.f kj7 t110 (Go.bits .xor .i64 t111 t112)).bind fun t119 => ((impl_GfMul.f kj7 t110 t112).bind fun t120 => (if t119 = (Go.bits .xor .i64 t113 t120) then (if t110 = 0 then ((impl_GfMul.f kj7 128 2).bind fun t121 => (some (t121 == 29))) else ((impl_GfInv.f kj7 t110).bind fun t122 => ((impl_GfMul.f kj7 t110 t122).bind fun t123 => (if t123 = 1 then ((impl_GfMul.f kj7 128 2).bind fun t124 => (some (t124 == 29))) else (some false))))) else (some false)))) = some r := by rw [if_neg (show ¬ (false = true) by decide)] at H; exact H
          clear H
          have H := H1
          clear H1
          replace H := Option.bind_eq_some_iff.mp H
          obtain ⟨t119, A170, H⟩ := H
          replace H : ((impl_GfMul.f kj7 t110 t112).bind fun t120 => (if t119 = (Go.bits .xor .i64 t113 t120) then (if t110 = 0 then ((impl_GfMul.f kj7 128 2).bind fun t121 => (some (t121 == 29))) else ((impl_GfInv.f kj7 t110).bind fun t122 => ((impl_GfMul.f kj7 t110 t122).bind fun t123 => (if t123 = 1 then ((impl_GfMul.f kj7 128 2).bind fun t124 => (some (t124 == 29))) else (some false))))) else (some false))) = some r := H
          have A17 := Aside0.mk A170
          clear A170
          replace H := Option.bind_eq_some_iff.mp H
          obtain ⟨t120, A180, H⟩ := H
          replace H : (if t119 = (Go.bits .xor .i64 t113 t120) then (if t110 = 0 then ((impl_GfMul.f kj7 128 2).bind fun t121 => (some (t121 == 29))) else ((impl_GfInv.f kj7 t110).bind fun t122 => ((impl_GfMul.f kj7 t110 t122).bind fun t123 => (if t123 = 1 then ((impl_GfMul.f kj7 128 2).bind fun t124 => (some (t124 == 29))) else (some false))))) else (some false)) = some r := H
          have A18 := Aside0.mk A180
          clear A180
          by_cases c19 : t119 = (Go.bits .xor .i64 t113 t120)
          · rw [if_pos c19] at H
            have c19b0 : (t119 == (Go.bits .xor .i64 t113 t120)) = true := beq_iff_eq.mpr c19
            have c19b1 : (t119 != (Go.bits .xor .i64 t113 t120)) = false := bne_eq_false_iff_eq.mpr c19
            clear c19
            by_cases c20 : t110 = 0
            · rw [if_pos c20] at H
              have c20b0 : (t110 == 0) = true := beq_iff_eq.mpr c20
              have c20b1 : (t110 != 0) = false := bne_eq_false_iff_eq.mpr c20
              clear c20
              replace H := Option.bind_eq_some_iff.mp H
              obtain ⟨t121, A210, H⟩ := H
              replace H : (some (t121 == 29)) = some r := H
              have A21 := Aside0.mk A210
              clear A210
              obtain rfl := Option.some.inj H
              go_wp2_with (first | ((with_reducible refine gate_callee (f := 23) rfl ?_); refine goesL_ (some 45) rfl rfl Try.func23 (by kernel_rfl) rfl #[.int .i64 t110, .int .i64 (Go.bits .xor .i64 t111 t112)] rfl (by (try simp only [List.map_toArray, List.map_cons, List.map_nil]); first | done | rfl | (simp only [List.length_drop, List.length_take]; rfl)) ?_; (with_reducible refine (impl_GfMul.calls kj7 t110 (Go.bits .xor .i64 t111 t112) t119 _ A17.out).mono ?_); rintro e w' ⟨rfl, ⟨nd, rfl⟩⟩; refine ⟨_, rfl, ?_⟩) | ((with_reducible refine gate_callee (f := 23) rfl ?_); refine goesL_ (some 49) rfl rfl Try.func23 (by kernel_rfl) rfl #[.int .i64 t110, .int .i64 t112] rfl (by (try simp only [List.map_toArray, List.map_cons, List.map_nil]); first | done | rfl | (simp only [List.length_drop, List.length_take]; rfl)) ?_; (with_reducible refine (impl_GfMul.calls kj7 t110 t112 t120 _ A18.out).mono ?_); rintro e w' ⟨rfl, ⟨nd, rfl⟩⟩; refine ⟨_, rfl, ?_⟩) | (go_at_call 23; (with_reducible refine (impl_GfMul.calls kj7 128 2 t121 _ A21.out).mono ?_); rintro e w' ⟨rfl, ⟨nd, rfl⟩⟩))
              go_ret
              exact ⟨by first | rfl | (simp; done) | (simp [*]; done), by repeat (first | exact Drawn0.refl _ | apply Drawn0.step)⟩
            · rw [if_neg c20] at H
              have c20b0 : (t110 == 0) = false := beq_eq_false_iff_ne.mpr c20
              have c20b1 : (t110 != 0) = true := bne_iff_ne.mpr c20
              replace H := Option.bind_eq_some_iff.mp H
              obtain ⟨t122, A220, H⟩ := H
              replace H : ((impl_GfMul.f kj7 t110 t122).bind fun t123 => (if t123 = 1 then ((impl_GfMul.f kj7 128 2).bind fun t124 => (some (t124 == 29))) else (some false))) = some r := H
              have A22 := Aside0.mk A220
              clear A220
              replace H := Option.bind_eq_some_iff.mp H
              obtain ⟨t123, A230, H⟩ := H
              replace H : (if t123 = 1 then ((impl_GfMul.f kj7 128 2).bind fun t124 => (some (t124 == 29))) else (some false)) = some r := H
              have A23 := Aside0.mk A230
              clear A230
              by_cases c24 : t123 = 1
              · rw [if_pos c24] at H
                have c24b0 : (t123 == 1) = true := beq_iff_eq.mpr c24
                have c24b1 : (t123 != 1) = false := bne_eq_false_iff_eq.mpr c24
                clear c24
                replace H := Option.bind_eq_some_iff.mp H
                obtain ⟨t124, A250, H⟩ := H
                replace H : (some (t124 == 29)) = some r := H
                have A25 := Aside0.mk A250
                clear A250
                obtain rfl := Option.some.inj H
                go_wp2_with (first | ((with_reducible refine gate_callee (f := 23) rfl ?_); refine goesL_ (some 45) rfl rfl Try.func23 (by kernel_rfl) rfl #[.int .i64 t110, .int .i64 (Go.bits .xor .i64 t111 t112)] rfl (by (try simp only [List.map_toArray, List.map_cons, List.map_nil]); first | done | rfl | (simp only [List.length_drop, List.length_take]; rfl)) ?_; (with_reducible refine (impl_GfMul.calls kj7 t110 (Go.bits .xor .i64 t111 t112) t119 _ A17.out).mono ?_); rintro e w' ⟨rfl, ⟨nd, rfl⟩⟩; refine ⟨_, rfl, ?_⟩) | ((with_reducible refine gate_callee (f := 23) rfl ?_); refine goesL_ (some 49) rfl rfl Try.func23 (by kernel_rfl) rfl #[.int .i64 t110, .int .i64 t112] rfl (by (try simp only [List.map_toArray, List.map_cons, List.map_nil]); first | done | rfl | (simp only [List.length_drop, List.length_take]; rfl)) ?_; (with_reducible refine (impl_GfMul.calls kj7 t110 t112 t120 _ A18.out).mono ?_); rintro e w' ⟨rfl, ⟨nd, rfl⟩⟩; refine ⟨_, rfl, ?_⟩) | (go_at_call 32; (with_reducible refine (impl_GfInv.calls kj7 t110 t122 _ A22.out).mono ?_); rintro e w' ⟨rfl, ⟨nd, rfl⟩⟩) | (go_at_call 23; (with_reducible refine (impl_GfMul.calls kj7 t110 t122 t123 _ A23.out).mono ?_); rintro e w' ⟨rfl, ⟨nd, rfl⟩⟩) | (go_at_call 23; (with_reducible refine (impl_GfMul.calls kj7 128 2 t124 _ A25.out).mono ?_); rintro e w' ⟨rfl, ⟨nd, rfl⟩⟩))
                go_ret
                exact ⟨by first | rfl | (simp; done) | (simp [*]; done), by repeat (first | exact Drawn0.refl _ | apply Drawn0.step)⟩
              · rw [if_neg c24] at H
                have c24b0 : (t123 == 1) = false := beq_eq_false_iff_ne.mpr c24
                have c24b1 : (t123 != 1) = true := bne_iff_ne.mpr c24
                obtain rfl := Option.some.inj H
                go_wp2_with (first | ((with_reducible refine gate_callee (f := 23) rfl ?_); refine goesL_ (some 45) rfl rfl Try.func23 (by kernel_rfl) rfl #[.int .i64 t110, .int .i64 (Go.bits .xor .i64 t111 t112)] rfl (by (try simp only [List.map_toArray, List.map_cons, List.map_nil]); first | done | rfl | (simp only [List.length_drop, List.length_take]; rfl)) ?_; (with_reducible refine (impl_GfMul.calls kj7 t110 (Go.bits .xor .i64 t111 t112) t119 _ A17.out).mono ?_); rintro e w' ⟨rfl, ⟨nd, rfl⟩⟩; refine ⟨_, rfl, ?_⟩) | ((with_reducible refine gate_callee (f := 23) rfl ?_); refine goesL_ (some 49) rfl rfl Try.func23 (by kernel_rfl) rfl #[.int .i64 t110, .int .i64 t112] rfl (by (try simp only [List.map_toArray, List.map_cons, List.map_nil]); first | done | rfl | (simp only [List.length_drop, List.length_take]; rfl)) ?_; (with_reducible refine (impl_GfMul.calls kj7 t110 t112 t120 _ A18.out).mono ?_); rintro e w' ⟨rfl, ⟨nd, rfl⟩⟩; refine ⟨_, rfl, ?_⟩) | (go_at_call 32; (with_reducible refine (impl_GfInv.calls kj7 t110 t122 _ A22.out).mono ?_); rintro e w' ⟨rfl, ⟨nd, rfl⟩⟩) | (go_at_call 23; (with_reducible refine (impl_GfMul.calls kj7 t110 t122 t123 _ A23.out).mono ?_); rintro e w' ⟨rfl, ⟨nd, rfl⟩⟩))
                go_ret
                exact ⟨by first | rfl | (simp; done) | (simp [*]; done), by repeat (first | exact Drawn0.refl _ | apply Drawn0.step)⟩
          · rw [if_neg c19] at H
            have c19b0 : (t119 == (Go.bits .xor .i64 t113 t120)) = false := beq_eq_false_iff_ne.mpr c19
            have c19b1 : (t119 != (Go.bits .xor .i64 t113 t120)) = true := bne_iff_ne.mpr c19
            obtain rfl := Option.some.inj H
            go_wp2_with (first | ((with_reducible refine gate_callee (f := 23) rfl ?_); refine goesL_ (some 45) rfl rfl Try.func23 (by kernel_rfl) rfl #[.int .i64 t110, .int .i64 (Go.bits .xor .i64 t111 t112)] rfl (by (try simp only [List.map_toArray, List.map_cons, List.map_nil]); first | done | rfl | (simp only [List.length_drop, List.length_take]; rfl)) ?_; (with_reducible refine (impl_GfMul.calls kj7 t110 (Go.bits .xor .i64 t111 t112) t119 _ A17.out).mono ?_); rintro e w' ⟨rfl, ⟨nd, rfl⟩⟩; refine ⟨_, rfl, ?_⟩) | ((with_reducible refine gate_callee (f := 23) rfl ?_); refine goesL_ (some 49) rfl rfl Try.func23 (by kernel_rfl) rfl #[.int .i64 t110, .int .i64 t112] rfl (by (try simp only [List.map_toArray, List.map_cons, List.map_nil]); first | done | rfl | (simp only [List.length_drop, List.length_take]; rfl)) ?_; (with_reducible refine (impl_GfMul.calls kj7 t110 t112 t120 _ A18.out).mono ?_); rintro e w' ⟨rfl, ⟨nd, rfl⟩⟩; refine ⟨_, rfl, ?_⟩))
            go_ret
            exact ⟨by first | rfl | (simp; done) | (simp [*]; done), by repeat (first | exact Drawn0.refl _ | apply Drawn0.step)⟩

/-- THE ONE PURE STATEMENT of laws_FnField: yours. -/
def laws_FnField.Pure : Prop := ∀ (l0 : List Int), l0.length ≤ maxLen → l0.length * 1 ≤ 140737488351232 → (∀ x ∈ l0, (Lit.int .u8 x).wf = true) → ∃ k, laws_FnField.f k l0 = some true
theorem laws_FnField.walk (P : laws_FnField.Pure) (a0 : Option Addr) (len0 cap0 : Nat) (z0 : List Int) (w : World) (w0 : (a0 = none ∧ len0 = 0 ∧ cap0 = 0 ∧ z0 = []) ∨ ∃ x, a0 = some x ∧ len0 ≤ cap0 ∧ cap0 ≤ maxLen ∧ z0.length = cap0 ∧ (∀ i, i < z0.length → w.cell? (x.add i) = some (.int .u8 (z0.getD i 0))) ∧ ∀ n ∈ z0, (Lit.int .u8 n).wf = true) (y0 : len0 * 1 ≤ 140737488351232) :
    Calls Try.prog 9 #[.slice a0 len0 cap0] w fun e w' => e = .returned (.bool true) ∧ Below w.heap.size w w' := by
  obtain ⟨l0, rfl, hr0, hm0, hw0, hc0⟩ := ReadsInt.ofRowC w0
  obtain ⟨k, h⟩ := P l0 hm0 y0 hw0
  refine (laws_FnField.calls k _ _ l0 true w (Kd.C_of_reads (d := (0 : Int)) (h1 := fun _ => rfl) hr0) hc0 h).mono ?_
  rintro e w' ⟨rfl, hd⟩
  exact ⟨rfl, hd.below⟩

end Go.Proofs.Ytamgllkncpnmiaa.PFnField
