/- The functions that FnNearestWord reaches, each with its walk; written by a program (own.py). -/
import Derived.Test.YtdcjfcfiflpblaaSh
import Derived.Test.YtdcjfcfiflpblaaQFnNearestWordx0
import Derived.Test.YtdcjfcfiflpblaaQFnNearestWordx1
import Derived.Test.YtdcjfcfiflpblaaQFnNearestWordx2
import Derived.Test.YtdcjfcfiflpblaaQFnNearestWordx3
import Derived.Test.YtdcjfcfiflpblaaQFnNearestWordx6
import Derived.Test.YtdcjfcfiflpblaaQFnNearestWordx10
import Derived.Test.YtdcjfcfiflpblaaQFnNearestWordx13
namespace Go.Proofs.Ytdcjfcfiflpblaa.PFnNearestWord
open Go.RowKit Go.Proofs.YtdcjfcfiflpblaaW.PrintWords Go.Proofs.YtdcjfcfiflpblaaW.PrintLast Go.Proofs.YtdcjfcfiflpblaaW.PrintMore
attribute [local go_sem] max2_int min2_int max_two min_two max_three min_three max_four min_four   -- for this text's walks alone
set_option linter.unusedVariables false
set_option linter.unusedSimpArgs false

/-! ### laws_FnNearestWord: function 8 -/
mutual
def laws_FnNearestWord.l0 : Nat → List Int → Int → List Int → Int → Int → Int → Option (Bool)
  | 0, _, _, _, _, _, _ => none
  | k + 1, x3, x4, x5, x6, x13, x14 => if x14 < (x3.length : Int) then (laws_FnNearestWord.j1 k x3 x4 x5 x6 x13 x14 (decide (x14 < (x5.length : Int)))) else (laws_FnNearestWord.j1 k x3 x4 x5 x6 x13 x14 false)
def laws_FnNearestWord.j1 : Nat → List Int → Int → List Int → Int → Int → Int → Bool → Option (Bool)
  | 0, _, _, _, _, _, _, _ => none
  | k + 1, x3, x4, x5, x6, x13, x14, x61 => if x61 = true then (if 0 ≤ x14 then (if x14 < (x5.length : Int) then (if x14 < (x3.length : Int) then (if (rd x5 x14) = (rd x3 x14) then (laws_FnNearestWord.l0 k x3 x4 x5 x6 x13 (wrap64 (x14 + 1))) else (laws_FnNearestWord.l0 k x3 x4 x5 x6 (wrap64 (x13 + 1)) (wrap64 (x14 + 1)))) else (none)) else (none)) else (none)) else (if (x5.length : Int) = (x3.length : Int) then (if x13 = x6 then (if x6 ≤ x4 then ((impl_RsOk.f k x5 x4).bind fun t548 => (some t548)) else (some false)) else (some false)) else (some false))
end
def laws_FnNearestWord.f (k : Nat) (l0 : List Int) : Option (Bool) := (laws_big.f l0).bind fun t524 => (if t524 = true then (some true) else ((spec_DrawRsMend.f k l0).bind fun bt525 => ((impl_RsMend.f k bt525.1 bt525.2).bind fun bt529 => ((spec_RsMend.f k bt525.1 bt525.2).bind fun bt534 => (if (bt529.2.2 != bt534.2.2) = true then (some false) else (if bt529.2.2 = true then (laws_FnNearestWord.l0 k bt525.1 bt525.2 bt529.1 bt529.2.1 0 0) else ((impl_RsCode.f k (([1] : List Int)) 1).bind fun bt542 => (if bt542.2 = true then (some ((bt529.1.length : Int) == 0)) else (some false)))))))))
theorem laws_FnNearestWord.mono_l : ∀ k, (∀ y0 y1 y2 y3 y4 y5, LeO (laws_FnNearestWord.l0 k y0 y1 y2 y3 y4 y5) (laws_FnNearestWord.l0 (k + 1) y0 y1 y2 y3 y4 y5)) ∧ (∀ y0 y1 y2 y3 y4 y5 y6, LeO (laws_FnNearestWord.j1 k y0 y1 y2 y3 y4 y5 y6) (laws_FnNearestWord.j1 (k + 1) y0 y1 y2 y3 y4 y5 y6))
  | 0 => ⟨fun _ _ _ _ _ _ r h => by simp [laws_FnNearestWord.l0] at h, fun _ _ _ _ _ _ _ r h => by simp [laws_FnNearestWord.j1] at h⟩
  | k + 1 => by
    obtain ⟨ih0, ih1⟩ := laws_FnNearestWord.mono_l k
    refine ⟨?_, ?_⟩ <;> intros
    all_goals first | unfold laws_FnNearestWord.l0 | unfold laws_FnNearestWord.j1
    all_goals repeat' first
    | (with_reducible exact ih0 _ _ _ _ _ _)
    | (with_reducible exact ih1 _ _ _ _ _ _ _)
    | (with_reducible exact impl_RsCode.mono _ _ _)
    | (with_reducible exact impl_RsMend.mono _ _ _)
    | (with_reducible exact impl_RsOk.mono _ _ _)
    | (with_reducible exact spec_DrawRsMend.mono _ _)
    | (with_reducible exact spec_RsMend.mono _ _ _)
    | (with_reducible exact LeO.refl _)
    | (with_reducible exact LeO.none _)
    | (with_reducible refine LeO.ite ?_ ?_)
    | (with_reducible refine LeO.bind ?_ (fun _ => ?_))
    | exact ih0 _ _ _ _ _ _
    | exact ih1 _ _ _ _ _ _ _
    | exact impl_RsCode.mono _ _ _
    | exact impl_RsMend.mono _ _ _
    | exact impl_RsOk.mono _ _ _
    | exact spec_DrawRsMend.mono _ _
    | exact spec_RsMend.mono _ _ _
    | exact LeO.none _
    | refine LeO.ite ?_ ?_
    | refine LeO.bind ?_ (fun _ => ?_)
theorem laws_FnNearestWord.mono : ∀ a0 k, LeO (laws_FnNearestWord.f k a0) (laws_FnNearestWord.f (k + 1) a0) := by
  intro a0 k
  obtain ⟨ih0, ih1⟩ := laws_FnNearestWord.mono_l k
  unfold laws_FnNearestWord.f
  repeat' first
      | (with_reducible exact ih0 _ _ _ _ _ _)
      | (with_reducible exact ih1 _ _ _ _ _ _ _)
      | (with_reducible exact impl_RsCode.mono _ _ _)
      | (with_reducible exact impl_RsMend.mono _ _ _)
      | (with_reducible exact impl_RsOk.mono _ _ _)
      | (with_reducible exact spec_DrawRsMend.mono _ _)
      | (with_reducible exact spec_RsMend.mono _ _ _)
      | (with_reducible exact LeO.refl _)
      | (with_reducible exact LeO.none _)
      | (with_reducible refine LeO.ite ?_ ?_)
      | (with_reducible refine LeO.bind ?_ (fun _ => ?_))
      | exact ih0 _ _ _ _ _ _
      | exact ih1 _ _ _ _ _ _ _
      | exact impl_RsCode.mono _ _ _
      | exact impl_RsMend.mono _ _ _
      | exact impl_RsOk.mono _ _ _
      | exact spec_DrawRsMend.mono _ _
      | exact spec_RsMend.mono _ _ _
      | exact LeO.none _
      | refine LeO.ite ?_ ?_
      | refine LeO.bind ?_ (fun _ => ?_)
set_option maxHeartbeats 8000000 in
set_option maxRecDepth 100000 in
theorem laws_FnNearestWord.calls (k : Nat) (A0 : Option Addr) (c0 : Nat) (l0 : List Int) (r : Bool) (w : World) (hr0 : Kd.C (Kd.int .u8) w A0 l0.length l0) (hc0 : l0.length ≤ c0) (h : laws_FnNearestWord.f k l0 = some r) :
  Calls Try.prog 8 #[.slice A0 l0.length c0] w fun e w' => e = .returned (.bool r) ∧ Below w.heap.size w w' := by
 have HR0 := Aside0.mk hr0
 have HC0 := Aside0.mk hc0
 clear hr0 hc0
 have HB := Aside0.mk (Below.refl w.heap.size w)
 have H : ((laws_big.f l0).bind fun t524 => (if t524 = true then (some true) else ((spec_DrawRsMend.f k l0).bind fun bt525 => ((impl_RsMend.f k bt525.1 bt525.2).bind fun bt529 => ((spec_RsMend.f k bt525.1 bt525.2).bind fun bt534 => (if (bt529.2.2 != bt534.2.2) = true then (some false) else (if bt529.2.2 = true then (laws_FnNearestWord.l0 k bt525.1 bt525.2 bt529.1 bt529.2.1 0 0) else ((impl_RsCode.f k (([1] : List Int)) 1).bind fun bt542 => (if bt542.2 = true then (some ((bt529.1.length : Int) == 0)) else (some false)))))))))) = some r := h
 clear h
 replace H := zi H
 obtain ⟨t524, A2, H⟩ := H
 by_cases c3 : t524 = true
 ·subst c3
  have H1 : (some true) = some r := by rw [if_pos rfl] at H; exact H
  clear H
  have H := H1
  clear H1
  obtain rfl := Option.some.inj H
  go_enter Try.func8, Try.ntmps8
  go_wp2_with (first | (go_at_call 9; (with_reducible refine (laws_big.calls _ _ l0 true _ ?side1 ?side2 A2.out).mono ?_); (case side1 => exact zC HR0.out); (case side2 => exact HC0.out); rintro e w' ⟨rfl, ⟨nd, rfl⟩⟩; (try exact zZ)))
  repeat (go_quiet (first | (go_at_call 9; (with_reducible refine (laws_big.calls _ _ l0 true _ ?side1 ?side2 A2.out).mono ?_); (case side1 => exact zC HR0.out); (case side2 => exact HC0.out); rintro e w' ⟨rfl, ⟨nd, rfl⟩⟩; (try exact zZ))); try go_wp2_with (first | (go_at_call 9; (with_reducible refine (laws_big.calls _ _ l0 true _ ?side1 ?side2 A2.out).mono ?_); (case side1 => exact zC HR0.out); (case side2 => exact HC0.out); rintro e w' ⟨rfl, ⟨nd, rfl⟩⟩; (try exact zZ))))
  go_ret
  exact ⟨zE, zB⟩
 replace c3 := Bool.eq_false_iff.mpr c3
 subst c3
 have H1 : ((spec_DrawRsMend.f k l0).bind fun bt525 => ((impl_RsMend.f k bt525.1 bt525.2).bind fun bt529 => ((spec_RsMend.f k bt525.1 bt525.2).bind fun bt534 => (if (bt529.2.2 != bt534.2.2) = true then (some false) else (if bt529.2.2 = true then (laws_FnNearestWord.l0 k bt525.1 bt525.2 bt529.1 bt529.2.1 0 0) else ((impl_RsCode.f k (([1] : List Int)) 1).bind fun bt542 => (if bt542.2 = true then (some ((bt529.1.length : Int) == 0)) else (some false)))))))) = some r := by rw [if_neg (show ¬ (false = true) by decide)] at H; exact H
 clear H
 have H := H1
 clear H1
 replace H := Option.bind_eq_some_iff.mp H
 obtain ⟨⟨t525, t526⟩, A40, H⟩ := H
 replace H : ((impl_RsMend.f k t525 t526).bind fun bt529 => ((spec_RsMend.f k t525 t526).bind fun bt534 => (if (bt529.2.2 != bt534.2.2) = true then (some false) else (if bt529.2.2 = true then (laws_FnNearestWord.l0 k t525 t526 bt529.1 bt529.2.1 0 0) else ((impl_RsCode.f k (([1] : List Int)) 1).bind fun bt542 => (if bt542.2 = true then (some ((bt529.1.length : Int) == 0)) else (some false))))))) = some r := H
 have A4 := Aside0.mk A40
 clear A40
 replace H := Option.bind_eq_some_iff.mp H
 obtain ⟨⟨t529, t530, t531⟩, A50, H⟩ := H
 replace H : ((spec_RsMend.f k t525 t526).bind fun bt534 => (if (t531 != bt534.2.2) = true then (some false) else (if t531 = true then (laws_FnNearestWord.l0 k t525 t526 t529 t530 0 0) else ((impl_RsCode.f k (([1] : List Int)) 1).bind fun bt542 => (if bt542.2 = true then (some ((t529.length : Int) == 0)) else (some false)))))) = some r := H
 have A5 := Aside0.mk A50
 clear A50
 replace H := Option.bind_eq_some_iff.mp H
 obtain ⟨⟨t534, t535, t536⟩, A60, H⟩ := H
 replace H : (if (t531 != t536) = true then (some false) else (if t531 = true then (laws_FnNearestWord.l0 k t525 t526 t529 t530 0 0) else ((impl_RsCode.f k (([1] : List Int)) 1).bind fun bt542 => (if bt542.2 = true then (some ((t529.length : Int) == 0)) else (some false))))) = some r := H
 have A6 := Aside0.mk A60
 clear A60
 by_cases c7 : (t531 != t536) = true
 ·rw [if_pos c7] at H
  have c7b0 : (t531 != t536) = true := c7
  (try (have c7b1 : decide (t531 = t536) = false := by simpa using c7))
  (try (have c7b2 : (t531 == t536) = false := by simpa using c7))
  (try (have c7b3 : ¬ (t531 = t536) := by simpa using c7))
  clear c7
  obtain rfl := Option.some.inj H
  go_enter Try.func8, Try.ntmps8
  go_wp2_with (first | (go_at_call 9; (with_reducible refine (laws_big.calls _ _ l0 false _ ?side1 ?side2 A2.out).mono ?_); (case side1 => exact zC HR0.out); (case side2 => exact HC0.out); rintro e w' ⟨rfl, ⟨nd, rfl⟩⟩; (try exact zZ)) | (go_at_call 28; (with_reducible refine (spec_DrawRsMend.calls k _ _ l0 t525 t526 _ ?side1 ?side2 A4.out).mono ?_); (case side1 => exact zC HR0.out); (case side2 => exact HC0.out); rintro e w8 ⟨v527, rfl, ho0, hb⟩; have n0_ := Aside0.mk (Kd.R_lower ho0 (below_size zB)); have n1_ := Aside0.mk (below_step zB hb); clear HB; have HO528 := n0_; have HB := n1_; clear n0_ n1_; (try clear hb); (try clear hb2); (try clear hk); (try clear hi); (try clear ho0); obtain ⟨Ao9, co9, eo9⟩ := Kd.R_slice HO528.out; subst eo9) | (go_at_call 15; (with_reducible refine (impl_RsMend.calls k _ _ t525 t526 t529 t530 t531 _ ?side1 ?side2 A5.out).mono ?_); (case side1 => exact zC (Kd.R_reads' HO528.out).2.2); (case side2 => exact (Kd.R_reads' HO528.out).2.1); rintro e w10 ⟨v532, rfl, ho0, hb⟩; have n0_ := Aside0.mk (Kd.R_elder' (zR HO528.out) (Kd.R_base ho0) hb); have n1_ := Aside0.mk (Kd.R_lower (Kd.R_new' ho0 (Kd.R_lt (zR HO528.out))) (below_size zB)); have n2_ := Aside0.mk (below_step zB hb); clear HO528; clear HB; have HO528 := n0_; have HO533 := n1_; have HB := n2_; clear n0_ n1_ n2_; (try clear hb); (try clear hb2); (try clear hk); (try clear hi); (try clear ho0)) | (go_at_call 27; (with_reducible refine (spec_RsMend.calls k _ _ t525 t526 t534 t535 t536 _ ?side1 ?side2 A6.out).mono ?_); (case side1 => exact zC (Kd.R_reads' HO528.out).2.2); (case side2 => exact (Kd.R_reads' HO528.out).2.1); rintro e w11 ⟨v537, rfl, ho0, hb⟩; have n0_ := Aside0.mk (Kd.R_elder' (zR HO528.out) (Kd.R_base ho0) hb); have n1_ := Aside0.mk (Kd.R_elder' (zR HO533.out) (Kd.R_base ho0) hb); have n2_ := Aside0.mk (Kd.R_lower (Kd.R_new' (Kd.R_new' ho0 (Kd.R_lt (zR HO528.out))) (Kd.R_lt (zR HO533.out))) (below_size zB)); have n3_ := Aside0.mk (below_step zB hb); clear HO528; clear HO533; clear HB; have HO528 := n0_; have HO533 := n1_; have HO538 := n2_; have HB := n3_; clear n0_ n1_ n2_ n3_; (try clear hb); (try clear hb2); (try clear hk); (try clear hi); (try clear ho0)))
  repeat (go_quiet (first | (go_at_call 9; (with_reducible refine (laws_big.calls _ _ l0 false _ ?side1 ?side2 A2.out).mono ?_); (case side1 => exact zC HR0.out); (case side2 => exact HC0.out); rintro e w' ⟨rfl, ⟨nd, rfl⟩⟩; (try exact zZ)) | (go_at_call 28; (with_reducible refine (spec_DrawRsMend.calls k _ _ l0 t525 t526 _ ?side1 ?side2 A4.out).mono ?_); (case side1 => exact zC HR0.out); (case side2 => exact HC0.out); rintro e w8 ⟨v527, rfl, ho0, hb⟩; have n0_ := Aside0.mk (Kd.R_lower ho0 (below_size zB)); have n1_ := Aside0.mk (below_step zB hb); clear HB; have HO528 := n0_; have HB := n1_; clear n0_ n1_; (try clear hb); (try clear hb2); (try clear hk); (try clear hi); (try clear ho0); obtain ⟨Ao9, co9, eo9⟩ := Kd.R_slice HO528.out; subst eo9) | (go_at_call 15; (with_reducible refine (impl_RsMend.calls k _ _ t525 t526 t529 t530 t531 _ ?side1 ?side2 A5.out).mono ?_); (case side1 => exact zC (Kd.R_reads' HO528.out).2.2); (case side2 => exact (Kd.R_reads' HO528.out).2.1); rintro e w10 ⟨v532, rfl, ho0, hb⟩; have n0_ := Aside0.mk (Kd.R_elder' (zR HO528.out) (Kd.R_base ho0) hb); have n1_ := Aside0.mk (Kd.R_lower (Kd.R_new' ho0 (Kd.R_lt (zR HO528.out))) (below_size zB)); have n2_ := Aside0.mk (below_step zB hb); clear HO528; clear HB; have HO528 := n0_; have HO533 := n1_; have HB := n2_; clear n0_ n1_ n2_; (try clear hb); (try clear hb2); (try clear hk); (try clear hi); (try clear ho0)) | (go_at_call 27; (with_reducible refine (spec_RsMend.calls k _ _ t525 t526 t534 t535 t536 _ ?side1 ?side2 A6.out).mono ?_); (case side1 => exact zC (Kd.R_reads' HO528.out).2.2); (case side2 => exact (Kd.R_reads' HO528.out).2.1); rintro e w11 ⟨v537, rfl, ho0, hb⟩; have n0_ := Aside0.mk (Kd.R_elder' (zR HO528.out) (Kd.R_base ho0) hb); have n1_ := Aside0.mk (Kd.R_elder' (zR HO533.out) (Kd.R_base ho0) hb); have n2_ := Aside0.mk (Kd.R_lower (Kd.R_new' (Kd.R_new' ho0 (Kd.R_lt (zR HO528.out))) (Kd.R_lt (zR HO533.out))) (below_size zB)); have n3_ := Aside0.mk (below_step zB hb); clear HO528; clear HO533; clear HB; have HO528 := n0_; have HO533 := n1_; have HO538 := n2_; have HB := n3_; clear n0_ n1_ n2_ n3_; (try clear hb); (try clear hb2); (try clear hk); (try clear hi); (try clear ho0))); try go_wp2_with (first | (go_at_call 9; (with_reducible refine (laws_big.calls _ _ l0 false _ ?side1 ?side2 A2.out).mono ?_); (case side1 => exact zC HR0.out); (case side2 => exact HC0.out); rintro e w' ⟨rfl, ⟨nd, rfl⟩⟩; (try exact zZ)) | (go_at_call 28; (with_reducible refine (spec_DrawRsMend.calls k _ _ l0 t525 t526 _ ?side1 ?side2 A4.out).mono ?_); (case side1 => exact zC HR0.out); (case side2 => exact HC0.out); rintro e w8 ⟨v527, rfl, ho0, hb⟩; have n0_ := Aside0.mk (Kd.R_lower ho0 (below_size zB)); have n1_ := Aside0.mk (below_step zB hb); clear HB; have HO528 := n0_; have HB := n1_; clear n0_ n1_; (try clear hb); (try clear hb2); (try clear hk); (try clear hi); (try clear ho0); obtain ⟨Ao9, co9, eo9⟩ := Kd.R_slice HO528.out; subst eo9) | (go_at_call 15; (with_reducible refine (impl_RsMend.calls k _ _ t525 t526 t529 t530 t531 _ ?side1 ?side2 A5.out).mono ?_); (case side1 => exact zC (Kd.R_reads' HO528.out).2.2); (case side2 => exact (Kd.R_reads' HO528.out).2.1); rintro e w10 ⟨v532, rfl, ho0, hb⟩; have n0_ := Aside0.mk (Kd.R_elder' (zR HO528.out) (Kd.R_base ho0) hb); have n1_ := Aside0.mk (Kd.R_lower (Kd.R_new' ho0 (Kd.R_lt (zR HO528.out))) (below_size zB)); have n2_ := Aside0.mk (below_step zB hb); clear HO528; clear HB; have HO528 := n0_; have HO533 := n1_; have HB := n2_; clear n0_ n1_ n2_; (try clear hb); (try clear hb2); (try clear hk); (try clear hi); (try clear ho0)) | (go_at_call 27; (with_reducible refine (spec_RsMend.calls k _ _ t525 t526 t534 t535 t536 _ ?side1 ?side2 A6.out).mono ?_); (case side1 => exact zC (Kd.R_reads' HO528.out).2.2); (case side2 => exact (Kd.R_reads' HO528.out).2.1); rintro e w11 ⟨v537, rfl, ho0, hb⟩; have n0_ := Aside0.mk (Kd.R_elder' (zR HO528.out) (Kd.R_base ho0) hb); have n1_ := Aside0.mk (Kd.R_elder' (zR HO533.out) (Kd.R_base ho0) hb); have n2_ := Aside0.mk (Kd.R_lower (Kd.R_new' (Kd.R_new' ho0 (Kd.R_lt (zR HO528.out))) (Kd.R_lt (zR HO533.out))) (below_size zB)); have n3_ := Aside0.mk (below_step zB hb); clear HO528; clear HO533; clear HB; have HO528 := n0_; have HO533 := n1_; have HO538 := n2_; have HB := n3_; clear n0_ n1_ n2_ n3_; (try clear hb); (try clear hb2); (try clear hk); (try clear hi); (try clear ho0))))
  go_ret
  exact ⟨zE, zB⟩
 rw [if_neg c7] at H
 have c7b0 : (t531 != t536) = false := by simpa using c7
 (try (have c7b1 : decide (t531 = t536) = true := by simpa using c7))
 (try (have c7b2 : (t531 == t536) = true := by simpa using c7))
 clear c7
 by_cases c12 : t531 = true
 rotate_left
 ·replace c12 := Bool.eq_false_iff.mpr c12
  subst c12
  have H1 : ((impl_RsCode.f k (([1] : List Int)) 1).bind fun bt542 => (if bt542.2 = true then (some ((t529.length : Int) == 0)) else (some false))) = some r := by rw [if_neg (show ¬ (false = true) by decide)] at H; exact H
  clear H
  have H := H1
  clear H1
  obtain ⟨y539, hy539⟩ : ∃ y_ : List Int, y_ = (([1] : List Int)) := ⟨_, rfl⟩
  replace H : ((impl_RsCode.f k y539 1).bind fun bt542 => (if bt542.2 = true then (some ((t529.length : Int) == 0)) else (some false))) = some r := by first | (rw [hy539]; with_reducible exact H) | (have H2_ := (Option.bind_some _ _).symm.trans H; rw [hy539]; with_reducible exact H2_) | (have H2_ := (Option.bind_some _ _).symm.trans H; with_reducible exact H2_) | with_reducible exact H | (rw [hy539]; exact H) | exact H
  have Ny539 := Aside0.mk hy539
  clear hy539
  replace H := Option.bind_eq_some_iff.mp H
  obtain ⟨⟨t542, t543⟩, A350, H⟩ := H
  replace H : (if t543 = true then (some ((t529.length : Int) == 0)) else (some false)) = some r := H
  have A35 := Aside0.mk A350
  clear A350
  by_cases c36 : t543 = true
  ·subst c36
   have H1 : (some ((t529.length : Int) == 0)) = some r := by rw [if_pos rfl] at H; exact H
   clear H
   have H := H1
   clear H1
   obtain rfl := Option.some.inj H
   go_enter Try.func8, Try.ntmps8
   go_wp2_with (first | (go_at_call 9; (with_reducible refine (laws_big.calls _ _ l0 false _ ?side1 ?side2 A2.out).mono ?_); (case side1 => exact zC HR0.out); (case side2 => exact HC0.out); rintro e w' ⟨rfl, ⟨nd, rfl⟩⟩; (try exact zZ)) | (go_at_call 28; (with_reducible refine (spec_DrawRsMend.calls k _ _ l0 t525 t526 _ ?side1 ?side2 A4.out).mono ?_); (case side1 => exact zC HR0.out); (case side2 => exact HC0.out); rintro e w37 ⟨v527, rfl, ho0, hb⟩; have n0_ := Aside0.mk (Kd.R_lower ho0 (below_size zB)); have n1_ := Aside0.mk (below_step zB hb); clear HB; have HO528 := n0_; have HB := n1_; clear n0_ n1_; (try clear hb); (try clear hb2); (try clear hk); (try clear hi); (try clear ho0); obtain ⟨Ao38, co38, eo38⟩ := Kd.R_slice HO528.out; subst eo38) | (go_at_call 15; (with_reducible refine (impl_RsMend.calls k _ _ t525 t526 t529 t530 false _ ?side1 ?side2 A5.out).mono ?_); (case side1 => exact zC (Kd.R_reads' HO528.out).2.2); (case side2 => exact (Kd.R_reads' HO528.out).2.1); rintro e w39 ⟨v532, rfl, ho0, hb⟩; have n0_ := Aside0.mk (Kd.R_elder' (zR HO528.out) (Kd.R_base ho0) hb); have n1_ := Aside0.mk (Kd.R_lower (Kd.R_new' ho0 (Kd.R_lt (zR HO528.out))) (below_size zB)); have n2_ := Aside0.mk (below_step zB hb); clear HO528; clear HB; have HO528 := n0_; have HO533 := n1_; have HB := n2_; clear n0_ n1_ n2_; (try clear hb); (try clear hb2); (try clear hk); (try clear hi); (try clear ho0)) | (go_at_call 27; (with_reducible refine (spec_RsMend.calls k _ _ t525 t526 t534 t535 t536 _ ?side1 ?side2 A6.out).mono ?_); (case side1 => exact zC (Kd.R_reads' HO528.out).2.2); (case side2 => exact (Kd.R_reads' HO528.out).2.1); rintro e w40 ⟨v537, rfl, ho0, hb⟩; have n0_ := Aside0.mk (Kd.R_elder' (zR HO528.out) (Kd.R_base ho0) hb); have n1_ := Aside0.mk (Kd.R_elder' (zR HO533.out) (Kd.R_base ho0) hb); have n2_ := Aside0.mk (Kd.R_lower (Kd.R_new' (Kd.R_new' ho0 (Kd.R_lt (zR HO528.out))) (Kd.R_lt (zR HO533.out))) (below_size zB)); have n3_ := Aside0.mk (below_step zB hb); clear HO528; clear HO533; clear HB; have HO528 := n0_; have HO533 := n1_; have HO538 := n2_; have HB := n3_; clear n0_ n1_ n2_ n3_; (try clear hb); (try clear hb2); (try clear hk); (try clear hi); (try clear ho0)) | ((with_reducible refine gate_dst (N := 42) rfl ?_); (try (refine gate_guard (by rfl) ?_; dsimp only)); refine Kd.R_lit (Kd.int .u8) _ 5 ?hg (N := 42) ?hd (xs := ([1] : List Int)) (inner := [.int .u8 1]) (ok := fun _ => True) (okp := fun _ => True) ?hr ?hp (fun _ hk => hk) trivial (Below.refl _ _) (Nat.le_refl _) (by simp) ?_; (case hd => rfl); (case hg => rfl); (case hr => first | (go_simp; done) | (go_simp; rfl)); (case hp => exact (Reps.one (show Kd.M (Kd.int .u8) _ _ _ 1 [.int .u8 1] from rfl) (Reps.none _ _))); intro v540 w41 ho42 hb hg_ hnew_; clear hg_ hnew_; (first | rw [← Ny539.out] at ho42 | (simp only [Int.reduceToNat] at ho42; rw [← Ny539.out] at ho42)); have n0_ := Aside0.mk (Kd.R_elder' (zR HO528.out) (Kd.R_base ho42) hb); have n1_ := Aside0.mk (Kd.R_elder' (zR HO533.out) (Kd.R_base ho42) hb); have n2_ := Aside0.mk (Kd.R_elder' (zR HO538.out) (Kd.R_base ho42) hb); have n3_ := Aside0.mk (Kd.R_lower (Kd.R_new' (Kd.R_new' (Kd.R_new' ho42 (Kd.R_lt (zR HO528.out))) (Kd.R_lt (zR HO533.out))) (Kd.R_lt (zR HO538.out))) (below_size zB)); have n4_ := Aside0.mk (below_step zB hb); clear HO528; clear HO533; clear HO538; clear HB; have HO528 := n0_; have HO533 := n1_; have HO538 := n2_; have HO541 := n3_; have HB := n4_; clear n0_ n1_ n2_ n3_ n4_; clear hb ho42; obtain ⟨Ao43, co43, eo43⟩ := Kd.R_slice HO541.out; subst eo43) | (go_at_call 11; (with_reducible refine (impl_RsCode.calls k _ _ y539 1 t542 true _ ?side1 ?side2 A35.out).mono ?_); (case side1 => exact zC (Kd.R_reads' HO541.out).2.2); (case side2 => exact (Kd.R_reads' HO541.out).2.1); rintro e w44 ⟨v544, rfl, ho0, hb⟩; have n0_ := Aside0.mk (Kd.R_elder' (zR HO528.out) (Kd.R_base ho0) hb); have n1_ := Aside0.mk (Kd.R_elder' (zR HO533.out) (Kd.R_base ho0) hb); have n2_ := Aside0.mk (Kd.R_elder' (zR HO538.out) (Kd.R_base ho0) hb); have n3_ := Aside0.mk (Kd.R_elder' (zR HO541.out) (Kd.R_base ho0) hb); have n4_ := Aside0.mk (Kd.R_lower (Kd.R_new' (Kd.R_new' (Kd.R_new' (Kd.R_new' ho0 (Kd.R_lt (zR HO528.out))) (Kd.R_lt (zR HO533.out))) (Kd.R_lt (zR HO538.out))) (Kd.R_lt (zR HO541.out))) (below_size zB)); have n5_ := Aside0.mk (below_step zB hb); clear HO528; clear HO533; clear HO538; clear HO541; clear HB; have HO528 := n0_; have HO533 := n1_; have HO538 := n2_; have HO541 := n3_; have HO545 := n4_; have HB := n5_; clear n0_ n1_ n2_ n3_ n4_ n5_; (try clear hb); (try clear hb2); (try clear hk); (try clear hi); (try clear ho0); obtain ⟨Ao45, co45, eo45⟩ := Kd.R_slice HO533.out; subst eo45))
   repeat (go_quiet (first | (go_at_call 9; (with_reducible refine (laws_big.calls _ _ l0 false _ ?side1 ?side2 A2.out).mono ?_); (case side1 => exact zC HR0.out); (case side2 => exact HC0.out); rintro e w' ⟨rfl, ⟨nd, rfl⟩⟩; (try exact zZ)) | (go_at_call 28; (with_reducible refine (spec_DrawRsMend.calls k _ _ l0 t525 t526 _ ?side1 ?side2 A4.out).mono ?_); (case side1 => exact zC HR0.out); (case side2 => exact HC0.out); rintro e w37 ⟨v527, rfl, ho0, hb⟩; have n0_ := Aside0.mk (Kd.R_lower ho0 (below_size zB)); have n1_ := Aside0.mk (below_step zB hb); clear HB; have HO528 := n0_; have HB := n1_; clear n0_ n1_; (try clear hb); (try clear hb2); (try clear hk); (try clear hi); (try clear ho0); obtain ⟨Ao38, co38, eo38⟩ := Kd.R_slice HO528.out; subst eo38) | (go_at_call 15; (with_reducible refine (impl_RsMend.calls k _ _ t525 t526 t529 t530 false _ ?side1 ?side2 A5.out).mono ?_); (case side1 => exact zC (Kd.R_reads' HO528.out).2.2); (case side2 => exact (Kd.R_reads' HO528.out).2.1); rintro e w39 ⟨v532, rfl, ho0, hb⟩; have n0_ := Aside0.mk (Kd.R_elder' (zR HO528.out) (Kd.R_base ho0) hb); have n1_ := Aside0.mk (Kd.R_lower (Kd.R_new' ho0 (Kd.R_lt (zR HO528.out))) (below_size zB)); have n2_ := Aside0.mk (below_step zB hb); clear HO528; clear HB; have HO528 := n0_; have HO533 := n1_; have HB := n2_; clear n0_ n1_ n2_; (try clear hb); (try clear hb2); (try clear hk); (try clear hi); (try clear ho0)) | (go_at_call 27; (with_reducible refine (spec_RsMend.calls k _ _ t525 t526 t534 t535 t536 _ ?side1 ?side2 A6.out).mono ?_); (case side1 => exact zC (Kd.R_reads' HO528.out).2.2); (case side2 => exact (Kd.R_reads' HO528.out).2.1); rintro e w40 ⟨v537, rfl, ho0, hb⟩; have n0_ := Aside0.mk (Kd.R_elder' (zR HO528.out) (Kd.R_base ho0) hb); have n1_ := Aside0.mk (Kd.R_elder' (zR HO533.out) (Kd.R_base ho0) hb); have n2_ := Aside0.mk (Kd.R_lower (Kd.R_new' (Kd.R_new' ho0 (Kd.R_lt (zR HO528.out))) (Kd.R_lt (zR HO533.out))) (below_size zB)); have n3_ := Aside0.mk (below_step zB hb); clear HO528; clear HO533; clear HB; have HO528 := n0_; have HO533 := n1_; have HO538 := n2_; have HB := n3_; clear n0_ n1_ n2_ n3_; (try clear hb); (try clear hb2); (try clear hk); (try clear hi); (try clear ho0)) | ((with_reducible refine gate_dst (N := 42) rfl ?_); (try (refine gate_guard (by rfl) ?_; dsimp only)); refine Kd.R_lit (Kd.int .u8) _ 5 ?hg (N := 42) ?hd (xs := ([1] : List Int)) (inner := [.int .u8 1]) (ok := fun _ => True) (okp := fun _ => True) ?hr ?hp (fun _ hk => hk) trivial (Below.refl _ _) (Nat.le_refl _) (by simp) ?_; (case hd => rfl); (case hg => rfl); (case hr => first | (go_simp; done) | (go_simp; rfl)); (case hp => exact (Reps.one (show Kd.M (Kd.int .u8) _ _ _ 1 [.int .u8 1] from rfl) (Reps.none _ _))); intro v540 w41 ho42 hb hg_ hnew_; clear hg_ hnew_; (first | rw [← Ny539.out] at ho42 | (simp only [Int.reduceToNat] at ho42; rw [← Ny539.out] at ho42)); have n0_ := Aside0.mk (Kd.R_elder' (zR HO528.out) (Kd.R_base ho42) hb); have n1_ := Aside0.mk (Kd.R_elder' (zR HO533.out) (Kd.R_base ho42) hb); have n2_ := Aside0.mk (Kd.R_elder' (zR HO538.out) (Kd.R_base ho42) hb); have n3_ := Aside0.mk (Kd.R_lower (Kd.R_new' (Kd.R_new' (Kd.R_new' ho42 (Kd.R_lt (zR HO528.out))) (Kd.R_lt (zR HO533.out))) (Kd.R_lt (zR HO538.out))) (below_size zB)); have n4_ := Aside0.mk (below_step zB hb); clear HO528; clear HO533; clear HO538; clear HB; have HO528 := n0_; have HO533 := n1_; have HO538 := n2_; have HO541 := n3_; have HB := n4_; clear n0_ n1_ n2_ n3_ n4_; clear hb ho42; obtain ⟨Ao43, co43, eo43⟩ := Kd.R_slice HO541.out; subst eo43) | (go_at_call 11; (with_reducible refine (impl_RsCode.calls k _ _ y539 1 t542 true _ ?side1 ?side2 A35.out).mono ?_); (case side1 => exact zC (Kd.R_reads' HO541.out).2.2); (case side2 => exact (Kd.R_reads' HO541.out).2.1); rintro e w44 ⟨v544, rfl, ho0, hb⟩; have n0_ := Aside0.mk (Kd.R_elder' (zR HO528.out) (Kd.R_base ho0) hb); have n1_ := Aside0.mk (Kd.R_elder' (zR HO533.out) (Kd.R_base ho0) hb); have n2_ := Aside0.mk (Kd.R_elder' (zR HO538.out) (Kd.R_base ho0) hb); have n3_ := Aside0.mk (Kd.R_elder' (zR HO541.out) (Kd.R_base ho0) hb); have n4_ := Aside0.mk (Kd.R_lower (Kd.R_new' (Kd.R_new' (Kd.R_new' (Kd.R_new' ho0 (Kd.R_lt (zR HO528.out))) (Kd.R_lt (zR HO533.out))) (Kd.R_lt (zR HO538.out))) (Kd.R_lt (zR HO541.out))) (below_size zB)); have n5_ := Aside0.mk (below_step zB hb); clear HO528; clear HO533; clear HO538; clear HO541; clear HB; have HO528 := n0_; have HO533 := n1_; have HO538 := n2_; have HO541 := n3_; have HO545 := n4_; have HB := n5_; clear n0_ n1_ n2_ n3_ n4_ n5_; (try clear hb); (try clear hb2); (try clear hk); (try clear hi); (try clear ho0); obtain ⟨Ao45, co45, eo45⟩ := Kd.R_slice HO533.out; subst eo45)); try go_wp2_with (first | (go_at_call 9; (with_reducible refine (laws_big.calls _ _ l0 false _ ?side1 ?side2 A2.out).mono ?_); (case side1 => exact zC HR0.out); (case side2 => exact HC0.out); rintro e w' ⟨rfl, ⟨nd, rfl⟩⟩; (try exact zZ)) | (go_at_call 28; (with_reducible refine (spec_DrawRsMend.calls k _ _ l0 t525 t526 _ ?side1 ?side2 A4.out).mono ?_); (case side1 => exact zC HR0.out); (case side2 => exact HC0.out); rintro e w37 ⟨v527, rfl, ho0, hb⟩; have n0_ := Aside0.mk (Kd.R_lower ho0 (below_size zB)); have n1_ := Aside0.mk (below_step zB hb); clear HB; have HO528 := n0_; have HB := n1_; clear n0_ n1_; (try clear hb); (try clear hb2); (try clear hk); (try clear hi); (try clear ho0); obtain ⟨Ao38, co38, eo38⟩ := Kd.R_slice HO528.out; subst eo38) | (go_at_call 15; (with_reducible refine (impl_RsMend.calls k _ _ t525 t526 t529 t530 false _ ?side1 ?side2 A5.out).mono ?_); (case side1 => exact zC (Kd.R_reads' HO528.out).2.2); (case side2 => exact (Kd.R_reads' HO528.out).2.1); rintro e w39 ⟨v532, rfl, ho0, hb⟩; have n0_ := Aside0.mk (Kd.R_elder' (zR HO528.out) (Kd.R_base ho0) hb); have n1_ := Aside0.mk (Kd.R_lower (Kd.R_new' ho0 (Kd.R_lt (zR HO528.out))) (below_size zB)); have n2_ := Aside0.mk (below_step zB hb); clear HO528; clear HB; have HO528 := n0_; have HO533 := n1_; have HB := n2_; clear n0_ n1_ n2_; (try clear hb); (try clear hb2); (try clear hk); (try clear hi); (try clear ho0)) | (go_at_call 27; (with_reducible refine (spec_RsMend.calls k _ _ t525 t526 t534 t535 t536 _ ?side1 ?side2 A6.out).mono ?_); (case side1 => exact zC (Kd.R_reads' HO528.out).2.2); (case side2 => exact (Kd.R_reads' HO528.out).2.1); rintro e w40 ⟨v537, rfl, ho0, hb⟩; have n0_ := Aside0.mk (Kd.R_elder' (zR HO528.out) (Kd.R_base ho0) hb); have n1_ := Aside0.mk (Kd.R_elder' (zR HO533.out) (Kd.R_base ho0) hb); have n2_ := Aside0.mk (Kd.R_lower (Kd.R_new' (Kd.R_new' ho0 (Kd.R_lt (zR HO528.out))) (Kd.R_lt (zR HO533.out))) (below_size zB)); have n3_ := Aside0.mk (below_step zB hb); clear HO528; clear HO533; clear HB; have HO528 := n0_; have HO533 := n1_; have HO538 := n2_; have HB := n3_; clear n0_ n1_ n2_ n3_; (try clear hb); (try clear hb2); (try clear hk); (try clear hi); (try clear ho0)) | ((with_reducible refine gate_dst (N := 42) rfl ?_); (try (refine gate_guard (by rfl) ?_; dsimp only)); refine Kd.R_lit (Kd.int .u8) _ 5 ?hg (N := 42) ?hd (xs := ([1] : List Int)) (inner := [.int .u8 1]) (ok := fun _ => True) (okp := fun _ => True) ?hr ?hp (fun _ hk => hk) trivial (Below.refl _ _) (Nat.le_refl _) (by simp) ?_; (case hd => rfl); (case hg => rfl); (case hr => first | (go_simp; done) | (go_simp; rfl)); (case hp => exact (Reps.one (show Kd.M (Kd.int .u8) _ _ _ 1 [.int .u8 1] from rfl) (Reps.none _ _))); intro v540 w41 ho42 hb hg_ hnew_; clear hg_ hnew_; (first | rw [← Ny539.out] at ho42 | (simp only [Int.reduceToNat] at ho42; rw [← Ny539.out] at ho42)); have n0_ := Aside0.mk (Kd.R_elder' (zR HO528.out) (Kd.R_base ho42) hb); have n1_ := Aside0.mk (Kd.R_elder' (zR HO533.out) (Kd.R_base ho42) hb); have n2_ := Aside0.mk (Kd.R_elder' (zR HO538.out) (Kd.R_base ho42) hb); have n3_ := Aside0.mk (Kd.R_lower (Kd.R_new' (Kd.R_new' (Kd.R_new' ho42 (Kd.R_lt (zR HO528.out))) (Kd.R_lt (zR HO533.out))) (Kd.R_lt (zR HO538.out))) (below_size zB)); have n4_ := Aside0.mk (below_step zB hb); clear HO528; clear HO533; clear HO538; clear HB; have HO528 := n0_; have HO533 := n1_; have HO538 := n2_; have HO541 := n3_; have HB := n4_; clear n0_ n1_ n2_ n3_ n4_; clear hb ho42; obtain ⟨Ao43, co43, eo43⟩ := Kd.R_slice HO541.out; subst eo43) | (go_at_call 11; (with_reducible refine (impl_RsCode.calls k _ _ y539 1 t542 true _ ?side1 ?side2 A35.out).mono ?_); (case side1 => exact zC (Kd.R_reads' HO541.out).2.2); (case side2 => exact (Kd.R_reads' HO541.out).2.1); rintro e w44 ⟨v544, rfl, ho0, hb⟩; have n0_ := Aside0.mk (Kd.R_elder' (zR HO528.out) (Kd.R_base ho0) hb); have n1_ := Aside0.mk (Kd.R_elder' (zR HO533.out) (Kd.R_base ho0) hb); have n2_ := Aside0.mk (Kd.R_elder' (zR HO538.out) (Kd.R_base ho0) hb); have n3_ := Aside0.mk (Kd.R_elder' (zR HO541.out) (Kd.R_base ho0) hb); have n4_ := Aside0.mk (Kd.R_lower (Kd.R_new' (Kd.R_new' (Kd.R_new' (Kd.R_new' ho0 (Kd.R_lt (zR HO528.out))) (Kd.R_lt (zR HO533.out))) (Kd.R_lt (zR HO538.out))) (Kd.R_lt (zR HO541.out))) (below_size zB)); have n5_ := Aside0.mk (below_step zB hb); clear HO528; clear HO533; clear HO538; clear HO541; clear HB; have HO528 := n0_; have HO533 := n1_; have HO538 := n2_; have HO541 := n3_; have HO545 := n4_; have HB := n5_; clear n0_ n1_ n2_ n3_ n4_ n5_; (try clear hb); (try clear hb2); (try clear hk); (try clear hi); (try clear ho0); obtain ⟨Ao45, co45, eo45⟩ := Kd.R_slice HO533.out; subst eo45)))
   go_ret
   exact ⟨zE, zB⟩
  replace c36 := Bool.eq_false_iff.mpr c36
  subst c36
  have H1 : (some false) = some r := by rw [if_neg (show ¬ (false = true) by decide)] at H; exact H
  clear H
  have H := H1
  clear H1
  obtain rfl := Option.some.inj H
  go_enter Try.func8, Try.ntmps8
  go_wp2_with (first | (go_at_call 9; (with_reducible refine (laws_big.calls _ _ l0 false _ ?side1 ?side2 A2.out).mono ?_); (case side1 => exact zC HR0.out); (case side2 => exact HC0.out); rintro e w' ⟨rfl, ⟨nd, rfl⟩⟩; (try exact zZ)) | (go_at_call 28; (with_reducible refine (spec_DrawRsMend.calls k _ _ l0 t525 t526 _ ?side1 ?side2 A4.out).mono ?_); (case side1 => exact zC HR0.out); (case side2 => exact HC0.out); rintro e w46 ⟨v527, rfl, ho0, hb⟩; have n0_ := Aside0.mk (Kd.R_lower ho0 (below_size zB)); have n1_ := Aside0.mk (below_step zB hb); clear HB; have HO528 := n0_; have HB := n1_; clear n0_ n1_; (try clear hb); (try clear hb2); (try clear hk); (try clear hi); (try clear ho0); obtain ⟨Ao47, co47, eo47⟩ := Kd.R_slice HO528.out; subst eo47) | (go_at_call 15; (with_reducible refine (impl_RsMend.calls k _ _ t525 t526 t529 t530 false _ ?side1 ?side2 A5.out).mono ?_); (case side1 => exact zC (Kd.R_reads' HO528.out).2.2); (case side2 => exact (Kd.R_reads' HO528.out).2.1); rintro e w48 ⟨v532, rfl, ho0, hb⟩; have n0_ := Aside0.mk (Kd.R_elder' (zR HO528.out) (Kd.R_base ho0) hb); have n1_ := Aside0.mk (Kd.R_lower (Kd.R_new' ho0 (Kd.R_lt (zR HO528.out))) (below_size zB)); have n2_ := Aside0.mk (below_step zB hb); clear HO528; clear HB; have HO528 := n0_; have HO533 := n1_; have HB := n2_; clear n0_ n1_ n2_; (try clear hb); (try clear hb2); (try clear hk); (try clear hi); (try clear ho0)) | (go_at_call 27; (with_reducible refine (spec_RsMend.calls k _ _ t525 t526 t534 t535 t536 _ ?side1 ?side2 A6.out).mono ?_); (case side1 => exact zC (Kd.R_reads' HO528.out).2.2); (case side2 => exact (Kd.R_reads' HO528.out).2.1); rintro e w49 ⟨v537, rfl, ho0, hb⟩; have n0_ := Aside0.mk (Kd.R_elder' (zR HO528.out) (Kd.R_base ho0) hb); have n1_ := Aside0.mk (Kd.R_elder' (zR HO533.out) (Kd.R_base ho0) hb); have n2_ := Aside0.mk (Kd.R_lower (Kd.R_new' (Kd.R_new' ho0 (Kd.R_lt (zR HO528.out))) (Kd.R_lt (zR HO533.out))) (below_size zB)); have n3_ := Aside0.mk (below_step zB hb); clear HO528; clear HO533; clear HB; have HO528 := n0_; have HO533 := n1_; have HO538 := n2_; have HB := n3_; clear n0_ n1_ n2_ n3_; (try clear hb); (try clear hb2); (try clear hk); (try clear hi); (try clear ho0)) | ((with_reducible refine gate_dst (N := 42) rfl ?_); (try (refine gate_guard (by rfl) ?_; dsimp only)); refine Kd.R_lit (Kd.int .u8) _ 5 ?hg (N := 42) ?hd (xs := ([1] : List Int)) (inner := [.int .u8 1]) (ok := fun _ => True) (okp := fun _ => True) ?hr ?hp (fun _ hk => hk) trivial (Below.refl _ _) (Nat.le_refl _) (by simp) ?_; (case hd => rfl); (case hg => rfl); (case hr => first | (go_simp; done) | (go_simp; rfl)); (case hp => exact (Reps.one (show Kd.M (Kd.int .u8) _ _ _ 1 [.int .u8 1] from rfl) (Reps.none _ _))); intro v540 w50 ho51 hb hg_ hnew_; clear hg_ hnew_; (first | rw [← Ny539.out] at ho51 | (simp only [Int.reduceToNat] at ho51; rw [← Ny539.out] at ho51)); have n0_ := Aside0.mk (Kd.R_elder' (zR HO528.out) (Kd.R_base ho51) hb); have n1_ := Aside0.mk (Kd.R_elder' (zR HO533.out) (Kd.R_base ho51) hb); have n2_ := Aside0.mk (Kd.R_elder' (zR HO538.out) (Kd.R_base ho51) hb); have n3_ := Aside0.mk (Kd.R_lower (Kd.R_new' (Kd.R_new' (Kd.R_new' ho51 (Kd.R_lt (zR HO528.out))) (Kd.R_lt (zR HO533.out))) (Kd.R_lt (zR HO538.out))) (below_size zB)); have n4_ := Aside0.mk (below_step zB hb); clear HO528; clear HO533; clear HO538; clear HB; have HO528 := n0_; have HO533 := n1_; have HO538 := n2_; have HO541 := n3_; have HB := n4_; clear n0_ n1_ n2_ n3_ n4_; clear hb ho51; obtain ⟨Ao52, co52, eo52⟩ := Kd.R_slice HO541.out; subst eo52) | (go_at_call 11; (with_reducible refine (impl_RsCode.calls k _ _ y539 1 t542 false _ ?side1 ?side2 A35.out).mono ?_); (case side1 => exact zC (Kd.R_reads' HO541.out).2.2); (case side2 => exact (Kd.R_reads' HO541.out).2.1); rintro e w53 ⟨v544, rfl, ho0, hb⟩; have n0_ := Aside0.mk (Kd.R_elder' (zR HO528.out) (Kd.R_base ho0) hb); have n1_ := Aside0.mk (Kd.R_elder' (zR HO533.out) (Kd.R_base ho0) hb); have n2_ := Aside0.mk (Kd.R_elder' (zR HO538.out) (Kd.R_base ho0) hb); have n3_ := Aside0.mk (Kd.R_elder' (zR HO541.out) (Kd.R_base ho0) hb); have n4_ := Aside0.mk (Kd.R_lower (Kd.R_new' (Kd.R_new' (Kd.R_new' (Kd.R_new' ho0 (Kd.R_lt (zR HO528.out))) (Kd.R_lt (zR HO533.out))) (Kd.R_lt (zR HO538.out))) (Kd.R_lt (zR HO541.out))) (below_size zB)); have n5_ := Aside0.mk (below_step zB hb); clear HO528; clear HO533; clear HO538; clear HO541; clear HB; have HO528 := n0_; have HO533 := n1_; have HO538 := n2_; have HO541 := n3_; have HO545 := n4_; have HB := n5_; clear n0_ n1_ n2_ n3_ n4_ n5_; (try clear hb); (try clear hb2); (try clear hk); (try clear hi); (try clear ho0)))
  repeat (go_quiet (first | (go_at_call 9; (with_reducible refine (laws_big.calls _ _ l0 false _ ?side1 ?side2 A2.out).mono ?_); (case side1 => exact zC HR0.out); (case side2 => exact HC0.out); rintro e w' ⟨rfl, ⟨nd, rfl⟩⟩; (try exact zZ)) | (go_at_call 28; (with_reducible refine (spec_DrawRsMend.calls k _ _ l0 t525 t526 _ ?side1 ?side2 A4.out).mono ?_); (case side1 => exact zC HR0.out); (case side2 => exact HC0.out); rintro e w46 ⟨v527, rfl, ho0, hb⟩; have n0_ := Aside0.mk (Kd.R_lower ho0 (below_size zB)); have n1_ := Aside0.mk (below_step zB hb); clear HB; have HO528 := n0_; have HB := n1_; clear n0_ n1_; (try clear hb); (try clear hb2); (try clear hk); (try clear hi); (try clear ho0); obtain ⟨Ao47, co47, eo47⟩ := Kd.R_slice HO528.out; subst eo47) | (go_at_call 15; (with_reducible refine (impl_RsMend.calls k _ _ t525 t526 t529 t530 false _ ?side1 ?side2 A5.out).mono ?_); (case side1 => exact zC (Kd.R_reads' HO528.out).2.2); (case side2 => exact (Kd.R_reads' HO528.out).2.1); rintro e w48 ⟨v532, rfl, ho0, hb⟩; have n0_ := Aside0.mk (Kd.R_elder' (zR HO528.out) (Kd.R_base ho0) hb); have n1_ := Aside0.mk (Kd.R_lower (Kd.R_new' ho0 (Kd.R_lt (zR HO528.out))) (below_size zB)); have n2_ := Aside0.mk (below_step zB hb); clear HO528; clear HB; have HO528 := n0_; have HO533 := n1_; have HB := n2_; clear n0_ n1_ n2_; (try clear hb); (try clear hb2); (try clear hk); (try clear hi); (try clear ho0)) | (go_at_call 27; (with_reducible refine (spec_RsMend.calls k _ _ t525 t526 t534 t535 t536 _ ?side1 ?side2 A6.out).mono ?_); (case side1 => exact zC (Kd.R_reads' HO528.out).2.2); (case side2 => exact (Kd.R_reads' HO528.out).2.1); rintro e w49 ⟨v537, rfl, ho0, hb⟩; have n0_ := Aside0.mk (Kd.R_elder' (zR HO528.out) (Kd.R_base ho0) hb); have n1_ := Aside0.mk (Kd.R_elder' (zR HO533.out) (Kd.R_base ho0) hb); have n2_ := Aside0.mk (Kd.R_lower (Kd.R_new' (Kd.R_new' ho0 (Kd.R_lt (zR HO528.out))) (Kd.R_lt (zR HO533.out))) (below_size zB)); have n3_ := Aside0.mk (below_step zB hb); clear HO528; clear HO533; clear HB; have HO528 := n0_; have HO533 := n1_; have HO538 := n2_; have HB := n3_; clear n0_ n1_ n2_ n3_; (try clear hb); (try clear hb2); (try clear hk); (try clear hi); (try clear ho0)) | ((with_reducible refine gate_dst (N := 42) rfl ?_); (try (refine gate_guard (by rfl) ?_; dsimp only)); refine Kd.R_lit (Kd.int .u8) _ 5 ?hg (N := 42) ?hd (xs := ([1] : List Int)) (inner := [.int .u8 1]) (ok := fun _ => True) (okp := fun _ => True) ?hr ?hp (fun _ hk => hk) trivial (Below.refl _ _) (Nat.le_refl _) (by simp) ?_; (case hd => rfl); (case hg => rfl); (case hr => first | (go_simp; done) | (go_simp; rfl)); (case hp => exact (Reps.one (show Kd.M (Kd.int .u8) _ _ _ 1 [.int .u8 1] from rfl) (Reps.none _ _))); intro v540 w50 ho51 hb hg_ hnew_; clear hg_ hnew_; (first | rw [← Ny539.out] at ho51 | (simp only [Int.reduceToNat] at ho51; rw [← Ny539.out] at ho51)); have n0_ := Aside0.mk (Kd.R_elder' (zR HO528.out) (Kd.R_base ho51) hb); have n1_ := Aside0.mk (Kd.R_elder' (zR HO533.out) (Kd.R_base ho51) hb); have n2_ := Aside0.mk (Kd.R_elder' (zR HO538.out) (Kd.R_base ho51) hb); have n3_ := Aside0.mk (Kd.R_lower (Kd.R_new' (Kd.R_new' (Kd.R_new' ho51 (Kd.R_lt (zR HO528.out))) (Kd.R_lt (zR HO533.out))) (Kd.R_lt (zR HO538.out))) (below_size zB)); have n4_ := Aside0.mk (below_step zB hb); clear HO528; clear HO533; clear HO538; clear HB; have HO528 := n0_; have HO533 := n1_; have HO538 := n2_; have HO541 := n3_; have HB := n4_; clear n0_ n1_ n2_ n3_ n4_; clear hb ho51; obtain ⟨Ao52, co52, eo52⟩ := Kd.R_slice HO541.out; subst eo52) | (go_at_call 11; (with_reducible refine (impl_RsCode.calls k _ _ y539 1 t542 false _ ?side1 ?side2 A35.out).mono ?_); (case side1 => exact zC (Kd.R_reads' HO541.out).2.2); (case side2 => exact (Kd.R_reads' HO541.out).2.1); rintro e w53 ⟨v544, rfl, ho0, hb⟩; have n0_ := Aside0.mk (Kd.R_elder' (zR HO528.out) (Kd.R_base ho0) hb); have n1_ := Aside0.mk (Kd.R_elder' (zR HO533.out) (Kd.R_base ho0) hb); have n2_ := Aside0.mk (Kd.R_elder' (zR HO538.out) (Kd.R_base ho0) hb); have n3_ := Aside0.mk (Kd.R_elder' (zR HO541.out) (Kd.R_base ho0) hb); have n4_ := Aside0.mk (Kd.R_lower (Kd.R_new' (Kd.R_new' (Kd.R_new' (Kd.R_new' ho0 (Kd.R_lt (zR HO528.out))) (Kd.R_lt (zR HO533.out))) (Kd.R_lt (zR HO538.out))) (Kd.R_lt (zR HO541.out))) (below_size zB)); have n5_ := Aside0.mk (below_step zB hb); clear HO528; clear HO533; clear HO538; clear HO541; clear HB; have HO528 := n0_; have HO533 := n1_; have HO538 := n2_; have HO541 := n3_; have HO545 := n4_; have HB := n5_; clear n0_ n1_ n2_ n3_ n4_ n5_; (try clear hb); (try clear hb2); (try clear hk); (try clear hi); (try clear ho0))); try go_wp2_with (first | (go_at_call 9; (with_reducible refine (laws_big.calls _ _ l0 false _ ?side1 ?side2 A2.out).mono ?_); (case side1 => exact zC HR0.out); (case side2 => exact HC0.out); rintro e w' ⟨rfl, ⟨nd, rfl⟩⟩; (try exact zZ)) | (go_at_call 28; (with_reducible refine (spec_DrawRsMend.calls k _ _ l0 t525 t526 _ ?side1 ?side2 A4.out).mono ?_); (case side1 => exact zC HR0.out); (case side2 => exact HC0.out); rintro e w46 ⟨v527, rfl, ho0, hb⟩; have n0_ := Aside0.mk (Kd.R_lower ho0 (below_size zB)); have n1_ := Aside0.mk (below_step zB hb); clear HB; have HO528 := n0_; have HB := n1_; clear n0_ n1_; (try clear hb); (try clear hb2); (try clear hk); (try clear hi); (try clear ho0); obtain ⟨Ao47, co47, eo47⟩ := Kd.R_slice HO528.out; subst eo47) | (go_at_call 15; (with_reducible refine (impl_RsMend.calls k _ _ t525 t526 t529 t530 false _ ?side1 ?side2 A5.out).mono ?_); (case side1 => exact zC (Kd.R_reads' HO528.out).2.2); (case side2 => exact (Kd.R_reads' HO528.out).2.1); rintro e w48 ⟨v532, rfl, ho0, hb⟩; have n0_ := Aside0.mk (Kd.R_elder' (zR HO528.out) (Kd.R_base ho0) hb); have n1_ := Aside0.mk (Kd.R_lower (Kd.R_new' ho0 (Kd.R_lt (zR HO528.out))) (below_size zB)); have n2_ := Aside0.mk (below_step zB hb); clear HO528; clear HB; have HO528 := n0_; have HO533 := n1_; have HB := n2_; clear n0_ n1_ n2_; (try clear hb); (try clear hb2); (try clear hk); (try clear hi); (try clear ho0)) | (go_at_call 27; (with_reducible refine (spec_RsMend.calls k _ _ t525 t526 t534 t535 t536 _ ?side1 ?side2 A6.out).mono ?_); (case side1 => exact zC (Kd.R_reads' HO528.out).2.2); (case side2 => exact (Kd.R_reads' HO528.out).2.1); rintro e w49 ⟨v537, rfl, ho0, hb⟩; have n0_ := Aside0.mk (Kd.R_elder' (zR HO528.out) (Kd.R_base ho0) hb); have n1_ := Aside0.mk (Kd.R_elder' (zR HO533.out) (Kd.R_base ho0) hb); have n2_ := Aside0.mk (Kd.R_lower (Kd.R_new' (Kd.R_new' ho0 (Kd.R_lt (zR HO528.out))) (Kd.R_lt (zR HO533.out))) (below_size zB)); have n3_ := Aside0.mk (below_step zB hb); clear HO528; clear HO533; clear HB; have HO528 := n0_; have HO533 := n1_; have HO538 := n2_; have HB := n3_; clear n0_ n1_ n2_ n3_; (try clear hb); (try clear hb2); (try clear hk); (try clear hi); (try clear ho0)) | ((with_reducible refine gate_dst (N := 42) rfl ?_); (try (refine gate_guard (by rfl) ?_; dsimp only)); refine Kd.R_lit (Kd.int .u8) _ 5 ?hg (N := 42) ?hd (xs := ([1] : List Int)) (inner := [.int .u8 1]) (ok := fun _ => True) (okp := fun _ => True) ?hr ?hp (fun _ hk => hk) trivial (Below.refl _ _) (Nat.le_refl _) (by simp) ?_; (case hd => rfl); (case hg => rfl); (case hr => first | (go_simp; done) | (go_simp; rfl)); (case hp => exact (Reps.one (show Kd.M (Kd.int .u8) _ _ _ 1 [.int .u8 1] from rfl) (Reps.none _ _))); intro v540 w50 ho51 hb hg_ hnew_; clear hg_ hnew_; (first | rw [← Ny539.out] at ho51 | (simp only [Int.reduceToNat] at ho51; rw [← Ny539.out] at ho51)); have n0_ := Aside0.mk (Kd.R_elder' (zR HO528.out) (Kd.R_base ho51) hb); have n1_ := Aside0.mk (Kd.R_elder' (zR HO533.out) (Kd.R_base ho51) hb); have n2_ := Aside0.mk (Kd.R_elder' (zR HO538.out) (Kd.R_base ho51) hb); have n3_ := Aside0.mk (Kd.R_lower (Kd.R_new' (Kd.R_new' (Kd.R_new' ho51 (Kd.R_lt (zR HO528.out))) (Kd.R_lt (zR HO533.out))) (Kd.R_lt (zR HO538.out))) (below_size zB)); have n4_ := Aside0.mk (below_step zB hb); clear HO528; clear HO533; clear HO538; clear HB; have HO528 := n0_; have HO533 := n1_; have HO538 := n2_; have HO541 := n3_; have HB := n4_; clear n0_ n1_ n2_ n3_ n4_; clear hb ho51; obtain ⟨Ao52, co52, eo52⟩ := Kd.R_slice HO541.out; subst eo52) | (go_at_call 11; (with_reducible refine (impl_RsCode.calls k _ _ y539 1 t542 false _ ?side1 ?side2 A35.out).mono ?_); (case side1 => exact zC (Kd.R_reads' HO541.out).2.2); (case side2 => exact (Kd.R_reads' HO541.out).2.1); rintro e w53 ⟨v544, rfl, ho0, hb⟩; have n0_ := Aside0.mk (Kd.R_elder' (zR HO528.out) (Kd.R_base ho0) hb); have n1_ := Aside0.mk (Kd.R_elder' (zR HO533.out) (Kd.R_base ho0) hb); have n2_ := Aside0.mk (Kd.R_elder' (zR HO538.out) (Kd.R_base ho0) hb); have n3_ := Aside0.mk (Kd.R_elder' (zR HO541.out) (Kd.R_base ho0) hb); have n4_ := Aside0.mk (Kd.R_lower (Kd.R_new' (Kd.R_new' (Kd.R_new' (Kd.R_new' ho0 (Kd.R_lt (zR HO528.out))) (Kd.R_lt (zR HO533.out))) (Kd.R_lt (zR HO538.out))) (Kd.R_lt (zR HO541.out))) (below_size zB)); have n5_ := Aside0.mk (below_step zB hb); clear HO528; clear HO533; clear HO538; clear HO541; clear HB; have HO528 := n0_; have HO533 := n1_; have HO538 := n2_; have HO541 := n3_; have HO545 := n4_; have HB := n5_; clear n0_ n1_ n2_ n3_ n4_ n5_; (try clear hb); (try clear hb2); (try clear hk); (try clear hi); (try clear ho0))))
  go_ret
  exact ⟨zE, zB⟩
 subst c12
 have H1 : (laws_FnNearestWord.l0 k t525 t526 t529 t530 0 0) = some r := by rw [if_pos rfl] at H; exact H
 clear H
 have H := H1
 clear H1
 have H' := Aside0.mk H
 clear H
 go_enter Try.func8, Try.ntmps8
 go_wp2_with (first | (go_at_call 9; (with_reducible refine (laws_big.calls _ _ l0 false _ ?side1 ?side2 A2.out).mono ?_); (case side1 => exact zC HR0.out); (case side2 => exact HC0.out); rintro e w' ⟨rfl, ⟨nd, rfl⟩⟩; (try exact zZ)) | (go_at_call 28; (with_reducible refine (spec_DrawRsMend.calls k _ _ l0 t525 t526 _ ?side1 ?side2 A4.out).mono ?_); (case side1 => exact zC HR0.out); (case side2 => exact HC0.out); rintro e w13 ⟨v527, rfl, ho0, hb⟩; have n0_ := Aside0.mk (Kd.R_lower ho0 (below_size zB)); have n1_ := Aside0.mk (below_step zB hb); clear HB; have HO528 := n0_; have HB := n1_; clear n0_ n1_; (try clear hb); (try clear hb2); (try clear hk); (try clear hi); (try clear ho0); obtain ⟨Ao14, co14, eo14⟩ := Kd.R_slice HO528.out; subst eo14) | (go_at_call 15; (with_reducible refine (impl_RsMend.calls k _ _ t525 t526 t529 t530 true _ ?side1 ?side2 A5.out).mono ?_); (case side1 => exact zC (Kd.R_reads' HO528.out).2.2); (case side2 => exact (Kd.R_reads' HO528.out).2.1); rintro e w15 ⟨v532, rfl, ho0, hb⟩; have n0_ := Aside0.mk (Kd.R_elder' (zR HO528.out) (Kd.R_base ho0) hb); have n1_ := Aside0.mk (Kd.R_lower (Kd.R_new' ho0 (Kd.R_lt (zR HO528.out))) (below_size zB)); have n2_ := Aside0.mk (below_step zB hb); clear HO528; clear HB; have HO528 := n0_; have HO533 := n1_; have HB := n2_; clear n0_ n1_ n2_; (try clear hb); (try clear hb2); (try clear hk); (try clear hi); (try clear ho0)) | (go_at_call 27; (with_reducible refine (spec_RsMend.calls k _ _ t525 t526 t534 t535 t536 _ ?side1 ?side2 A6.out).mono ?_); (case side1 => exact zC (Kd.R_reads' HO528.out).2.2); (case side2 => exact (Kd.R_reads' HO528.out).2.1); rintro e w16 ⟨v537, rfl, ho0, hb⟩; have n0_ := Aside0.mk (Kd.R_elder' (zR HO528.out) (Kd.R_base ho0) hb); have n1_ := Aside0.mk (Kd.R_elder' (zR HO533.out) (Kd.R_base ho0) hb); have n2_ := Aside0.mk (Kd.R_lower (Kd.R_new' (Kd.R_new' ho0 (Kd.R_lt (zR HO528.out))) (Kd.R_lt (zR HO533.out))) (below_size zB)); have n3_ := Aside0.mk (below_step zB hb); clear HO528; clear HO533; clear HB; have HO528 := n0_; have HO533 := n1_; have HO538 := n2_; have HB := n3_; clear n0_ n1_ n2_ n3_; (try clear hb); (try clear hb2); (try clear hk); (try clear hi); (try clear ho0)))
 repeat (go_quiet (first | (go_at_call 9; (with_reducible refine (laws_big.calls _ _ l0 false _ ?side1 ?side2 A2.out).mono ?_); (case side1 => exact zC HR0.out); (case side2 => exact HC0.out); rintro e w' ⟨rfl, ⟨nd, rfl⟩⟩; (try exact zZ)) | (go_at_call 28; (with_reducible refine (spec_DrawRsMend.calls k _ _ l0 t525 t526 _ ?side1 ?side2 A4.out).mono ?_); (case side1 => exact zC HR0.out); (case side2 => exact HC0.out); rintro e w13 ⟨v527, rfl, ho0, hb⟩; have n0_ := Aside0.mk (Kd.R_lower ho0 (below_size zB)); have n1_ := Aside0.mk (below_step zB hb); clear HB; have HO528 := n0_; have HB := n1_; clear n0_ n1_; (try clear hb); (try clear hb2); (try clear hk); (try clear hi); (try clear ho0); obtain ⟨Ao14, co14, eo14⟩ := Kd.R_slice HO528.out; subst eo14) | (go_at_call 15; (with_reducible refine (impl_RsMend.calls k _ _ t525 t526 t529 t530 true _ ?side1 ?side2 A5.out).mono ?_); (case side1 => exact zC (Kd.R_reads' HO528.out).2.2); (case side2 => exact (Kd.R_reads' HO528.out).2.1); rintro e w15 ⟨v532, rfl, ho0, hb⟩; have n0_ := Aside0.mk (Kd.R_elder' (zR HO528.out) (Kd.R_base ho0) hb); have n1_ := Aside0.mk (Kd.R_lower (Kd.R_new' ho0 (Kd.R_lt (zR HO528.out))) (below_size zB)); have n2_ := Aside0.mk (below_step zB hb); clear HO528; clear HB; have HO528 := n0_; have HO533 := n1_; have HB := n2_; clear n0_ n1_ n2_; (try clear hb); (try clear hb2); (try clear hk); (try clear hi); (try clear ho0)) | (go_at_call 27; (with_reducible refine (spec_RsMend.calls k _ _ t525 t526 t534 t535 t536 _ ?side1 ?side2 A6.out).mono ?_); (case side1 => exact zC (Kd.R_reads' HO528.out).2.2); (case side2 => exact (Kd.R_reads' HO528.out).2.1); rintro e w16 ⟨v537, rfl, ho0, hb⟩; have n0_ := Aside0.mk (Kd.R_elder' (zR HO528.out) (Kd.R_base ho0) hb); have n1_ := Aside0.mk (Kd.R_elder' (zR HO533.out) (Kd.R_base ho0) hb); have n2_ := Aside0.mk (Kd.R_lower (Kd.R_new' (Kd.R_new' ho0 (Kd.R_lt (zR HO528.out))) (Kd.R_lt (zR HO533.out))) (below_size zB)); have n3_ := Aside0.mk (below_step zB hb); clear HO528; clear HO533; clear HB; have HO528 := n0_; have HO533 := n1_; have HO538 := n2_; have HB := n3_; clear n0_ n1_ n2_ n3_; (try clear hb); (try clear hb2); (try clear hk); (try clear hi); (try clear ho0))); try go_wp2_with (first | (go_at_call 9; (with_reducible refine (laws_big.calls _ _ l0 false _ ?side1 ?side2 A2.out).mono ?_); (case side1 => exact zC HR0.out); (case side2 => exact HC0.out); rintro e w' ⟨rfl, ⟨nd, rfl⟩⟩; (try exact zZ)) | (go_at_call 28; (with_reducible refine (spec_DrawRsMend.calls k _ _ l0 t525 t526 _ ?side1 ?side2 A4.out).mono ?_); (case side1 => exact zC HR0.out); (case side2 => exact HC0.out); rintro e w13 ⟨v527, rfl, ho0, hb⟩; have n0_ := Aside0.mk (Kd.R_lower ho0 (below_size zB)); have n1_ := Aside0.mk (below_step zB hb); clear HB; have HO528 := n0_; have HB := n1_; clear n0_ n1_; (try clear hb); (try clear hb2); (try clear hk); (try clear hi); (try clear ho0); obtain ⟨Ao14, co14, eo14⟩ := Kd.R_slice HO528.out; subst eo14) | (go_at_call 15; (with_reducible refine (impl_RsMend.calls k _ _ t525 t526 t529 t530 true _ ?side1 ?side2 A5.out).mono ?_); (case side1 => exact zC (Kd.R_reads' HO528.out).2.2); (case side2 => exact (Kd.R_reads' HO528.out).2.1); rintro e w15 ⟨v532, rfl, ho0, hb⟩; have n0_ := Aside0.mk (Kd.R_elder' (zR HO528.out) (Kd.R_base ho0) hb); have n1_ := Aside0.mk (Kd.R_lower (Kd.R_new' ho0 (Kd.R_lt (zR HO528.out))) (below_size zB)); have n2_ := Aside0.mk (below_step zB hb); clear HO528; clear HB; have HO528 := n0_; have HO533 := n1_; have HB := n2_; clear n0_ n1_ n2_; (try clear hb); (try clear hb2); (try clear hk); (try clear hi); (try clear ho0)) | (go_at_call 27; (with_reducible refine (spec_RsMend.calls k _ _ t525 t526 t534 t535 t536 _ ?side1 ?side2 A6.out).mono ?_); (case side1 => exact zC (Kd.R_reads' HO528.out).2.2); (case side2 => exact (Kd.R_reads' HO528.out).2.1); rintro e w16 ⟨v537, rfl, ho0, hb⟩; have n0_ := Aside0.mk (Kd.R_elder' (zR HO528.out) (Kd.R_base ho0) hb); have n1_ := Aside0.mk (Kd.R_elder' (zR HO533.out) (Kd.R_base ho0) hb); have n2_ := Aside0.mk (Kd.R_lower (Kd.R_new' (Kd.R_new' ho0 (Kd.R_lt (zR HO528.out))) (Kd.R_lt (zR HO533.out))) (below_size zB)); have n3_ := Aside0.mk (below_step zB hb); clear HO528; clear HO533; clear HB; have HO528 := n0_; have HO533 := n1_; have HO538 := n2_; have HB := n3_; clear n0_ n1_ n2_ n3_; (try clear hb); (try clear hb2); (try clear hk); (try clear hi); (try clear ho0))))
 go_loopg [13, 14] k (fun kq v13 v14 w' => ∃ (x13_1 : Int) (x14_1 : Int), v13 = .int .i64 x13_1 ∧ v14 = .int .i64 x14_1 ∧ Aside0 (laws_FnNearestWord.l0 kq t525 t526 t529 t530 x13_1 x14_1 = some r) ∧ Aside0 (kq ≤ k) ∧ Aside0 (Kd.R (Kd.int .u8) 5 w' w.heap.size (fun k_ => some k_ ≠ (v532 : Value).ownBlock) (.slice Ao14 t525.length co14) t525) ∧ Aside0 (Kd.R (Kd.int .u8) 5 w' w.heap.size (fun k_ => some k_ ≠ ((.slice Ao14 t525.length co14) : Value).ownBlock) v532 t529) ∧ Aside0 (Below w.heap.size w w'))
 case atStart => exact ⟨(0), (0), zO, zO, H', ⟨Nat.le_refl _⟩, ⟨by (with_reducible repeat (first | apply Kd.R_alloc | apply Kd.R_drewN | apply Kd.R_drew)); exact Kd.R_mono HO528.out (fun _ hk => hk.1.2)⟩, ⟨by (with_reducible repeat (first | apply Kd.R_alloc | apply Kd.R_drewN | apply Kd.R_drew)); exact Kd.R_mono HO533.out (fun _ hk => hk.1.2)⟩, ⟨zB⟩⟩
 case round =>
 clear H'
 try clear c1
 try clear p2
 try clear c3
 try clear c7
 try clear c7b0
 try clear c7b1
 try clear c7b2
 try clear c8
 try clear c12
 obtain ⟨x13_1, x14_1, rfl, rfl, HA, HK1, HO_3, HO_5, HB⟩ := hrel
 cases gk with
 | zero => exact absurd HA.out (by simp [laws_FnNearestWord.l0])
 | succ k1 =>
 have H := HA.out
 clear HA
 simp only [laws_FnNearestWord.l0] at H
 have HC17 := Aside0.mk H
 clear H
 go_upto_region 13 with (fail)
 repeat (go_quiet (fail); go_upto_region 13 with (fail))
 go_cut [61] (fun v61 wc => ∃ (kq : Nat) (x61_16 : Bool), v61 = .bool x61_16 ∧ Aside0 (laws_FnNearestWord.j1 kq t525 t526 t529 t530 x13_1 x14_1 x61_16 = some r) ∧ Aside0 (kq ≤ k1) ∧ Aside0 (Kd.R (Kd.int .u8) 5 wc w.heap.size (fun k_ => some k_ ≠ (v532 : Value).ownBlock) (.slice Ao14 t525.length co14) t525) ∧ Aside0 (Kd.R (Kd.int .u8) 5 wc w.heap.size (fun k_ => some k_ ≠ ((.slice Ao14 t525.length co14) : Value).ownBlock) v532 t529) ∧ Aside0 (Below w.heap.size w wc))
 case first =>
  have H := HC17.out
  clear HC17
  by_cases c18 : x14_1 < (t525.length : Int)
  rotate_left
  ·rw [if_neg c18] at H
   have c18b0 := decide_eq_false c18
   clear c18
   (first | rw [c18b0] | (simp only [i64_w, i32_w]; rw [c18b0]) | skip)
   have H' := Aside0.mk H
   clear H
   go_wp2
   repeat (go_quiet (fail); try go_wp2)
   go_meet
   case rel => exact ⟨_, (false), zO, H', ⟨by have := HK1.out; first | omega | exact Nat.le_refl _⟩, ⟨zR HO_3.out⟩, ⟨zR HO_5.out⟩, ⟨zB⟩⟩
  rw [if_pos c18] at H
  have c18b0 := decide_eq_true c18
  clear c18
  (first | rw [c18b0] | (simp only [i64_w, i32_w]; rw [c18b0]) | skip)
  have H' := Aside0.mk H
  clear H
  obtain ⟨Ao19, co19, eo19⟩ := Kd.R_slice HO_5.out
  subst eo19
  go_wp2
  repeat (go_quiet (fail); try go_wp2)
  go_meet
  case rel => exact ⟨_, (decide (x14_1 < (t529.length : Int))), zO, H', ⟨by have := HK1.out; first | omega | exact Nat.le_refl _⟩, ⟨zR HO_3.out⟩, ⟨zR HO_5.out⟩, ⟨zB⟩⟩
 case rest =>
 clear HC17
 try clear c1
 try clear p2
 try clear c3
 try clear c7
 try clear c7b0
 try clear c7b1
 try clear c7b2
 try clear c8
 try clear c12
 try clear c18
 try clear c18b0
 try clear p2
 obtain ⟨kq, x61_16, rfl, HA, HJ16, HO_3, HO_5, HB⟩ := hcut
 cases kq with
 | zero => exact absurd HA.out (by simp [laws_FnNearestWord.j1])
 | succ kj16 =>
 have H := HA.out
 clear HA
 simp only [laws_FnNearestWord.j1] at H
 by_cases c20 : x61_16 = true
 rotate_left
 ·replace c20 := Bool.eq_false_iff.mpr c20
  subst c20
  have H1 : (if (t529.length : Int) = (t525.length : Int) then (if x13_1 = t530 then (if t530 ≤ t526 then ((impl_RsOk.f kj16 t529 t526).bind fun t548 => (some t548)) else (some false)) else (some false)) else (some false)) = some r := by rw [if_neg (show ¬ (false = true) by decide)] at H; exact H
  clear H
  have H := H1
  clear H1
  by_cases c27 : (t529.length : Int) = (t525.length : Int)
  rotate_left
  ·rw [if_neg c27] at H
   have c27b0 : ((t529.length : Int) == (t525.length : Int)) = false := beq_eq_false_iff_ne.mpr c27
   have c27b1 : ((t529.length : Int) != (t525.length : Int)) = true := bne_iff_ne.mpr c27
   have c27b2 : (t529.length == t525.length) = false := by first | simpa using c27 | (simp at c27 ⊢; omega)
   obtain rfl := Option.some.inj H
   obtain ⟨Ao34, co34, eo34⟩ := Kd.R_slice HO_5.out
   subst eo34
   go_wp2
   repeat (go_quiet (fail); try go_wp2)
   go_ret
   exact ⟨zE, zB⟩
  rw [if_pos c27] at H
  have c27b0 : ((t529.length : Int) == (t525.length : Int)) = true := beq_iff_eq.mpr c27
  have c27b1 : ((t529.length : Int) != (t525.length : Int)) = false := bne_eq_false_iff_eq.mpr c27
  have c27b2 : (t529.length == t525.length) = true := by first | simpa using c27 | (simp at c27 ⊢; omega)
  clear c27
  by_cases c28 : x13_1 = t530
  rotate_left
  ·rw [if_neg c28] at H
   have c28b0 : (x13_1 == t530) = false := beq_eq_false_iff_ne.mpr c28
   have c28b1 : (x13_1 != t530) = true := bne_iff_ne.mpr c28
   obtain rfl := Option.some.inj H
   obtain ⟨Ao33, co33, eo33⟩ := Kd.R_slice HO_5.out
   subst eo33
   go_wp2
   repeat (go_quiet (fail); try go_wp2)
   go_ret
   exact ⟨zE, zB⟩
  rw [if_pos c28] at H
  have c28b0 : (x13_1 == t530) = true := beq_iff_eq.mpr c28
  have c28b1 : (x13_1 != t530) = false := bne_eq_false_iff_eq.mpr c28
  clear c28
  by_cases c29 : t530 ≤ t526
  rotate_left
  ·rw [if_neg c29] at H
   have c29b0 := decide_eq_false c29
   clear c29
   obtain rfl := Option.some.inj H
   obtain ⟨Ao32, co32, eo32⟩ := Kd.R_slice HO_5.out
   subst eo32
   go_wp2
   repeat (go_quiet (fail); try go_wp2)
   go_ret
   exact ⟨zE, zB⟩
  rw [if_pos c29] at H
  have c29b0 := decide_eq_true c29
  clear c29
  replace H := zi H
  obtain ⟨t548, A30, H⟩ := H
  obtain rfl := Option.some.inj H
  obtain ⟨Ao31, co31, eo31⟩ := Kd.R_slice HO_5.out
  subst eo31
  go_wp2_with (first | (go_at_call 12; (with_reducible refine (impl_RsOk.calls kj16 _ _ t529 t526 t548 _ ?side1 ?side2 A30.out).mono ?_); (case side1 => exact zC (Kd.R_reads' HO_5.out).2.2); (case side2 => exact (Kd.R_reads' HO_5.out).2.1); rintro e w' ⟨rfl, ⟨nd, rfl⟩⟩; (try exact zZ)))
  repeat (go_quiet (first | (go_at_call 12; (with_reducible refine (impl_RsOk.calls kj16 _ _ t529 t526 t548 _ ?side1 ?side2 A30.out).mono ?_); (case side1 => exact zC (Kd.R_reads' HO_5.out).2.2); (case side2 => exact (Kd.R_reads' HO_5.out).2.1); rintro e w' ⟨rfl, ⟨nd, rfl⟩⟩; (try exact zZ))); try go_wp2_with (first | (go_at_call 12; (with_reducible refine (impl_RsOk.calls kj16 _ _ t529 t526 t548 _ ?side1 ?side2 A30.out).mono ?_); (case side1 => exact zC (Kd.R_reads' HO_5.out).2.2); (case side2 => exact (Kd.R_reads' HO_5.out).2.1); rintro e w' ⟨rfl, ⟨nd, rfl⟩⟩; (try exact zZ))))
  go_ret
  exact ⟨zE, zB⟩
 subst c20
 have H1 : (if 0 ≤ x14_1 then (if x14_1 < (t529.length : Int) then (if x14_1 < (t525.length : Int) then (if (rd t529 x14_1) = (rd t525 x14_1) then (laws_FnNearestWord.l0 kj16 t525 t526 t529 t530 x13_1 (wrap64 (x14_1 + 1))) else (laws_FnNearestWord.l0 kj16 t525 t526 t529 t530 (wrap64 (x13_1 + 1)) (wrap64 (x14_1 + 1)))) else (none)) else (none)) else (none)) = some r := by rw [if_pos rfl] at H; exact H
 clear H
 have H := H1
 clear H1
 replace H := zg H
 obtain ⟨c21, H⟩ := H
 have c21b0 : decide (0 ≤ x14_1) = true := decide_eq_true c21
 clear c21
 replace H := zg H
 obtain ⟨c22, H⟩ := H
 have c22b0 : decide (x14_1 < (t529.length : Int)) = true := decide_eq_true c22
 clear c22
 replace H := zg H
 obtain ⟨c23, H⟩ := H
 have c23b0 : decide (x14_1 < (t525.length : Int)) = true := decide_eq_true c23
 clear c23
 by_cases c24 : (rd t529 x14_1) = (rd t525 x14_1)
 rotate_left
 ·rw [if_neg c24] at H
  have c24b0 : ((rd t529 x14_1) == (rd t525 x14_1)) = false := beq_eq_false_iff_ne.mpr c24
  have c24b1 : ((rd t529 x14_1) != (rd t525 x14_1)) = true := bne_iff_ne.mpr c24
  have H' := Aside0.mk H
  clear H
  obtain ⟨Ao26, co26, eo26⟩ := Kd.R_slice HO_5.out
  subst eo26
  have p546 : 0 ≤ (x14_1 : Int) := zD
  have q546 : x14_1 < (t529.length : Int) := zD
  obtain ⟨ad546, e546, hx546_0⟩ := Kd.at_int (Kd.R_reads' HO_5.out).2.2 x14_1 p546 q546
  cases e546
  replace p546 := eq_true p546
  replace q546 := eq_true q546
  have p547 : 0 ≤ (x14_1 : Int) := zD
  have q547 : x14_1 < (t525.length : Int) := zD
  obtain ⟨ad547, e547, hx547_0⟩ := Kd.at_int (Kd.R_reads' HO_3.out).2.2 x14_1 p547 q547
  cases e547
  replace p547 := eq_true p547
  replace q547 := eq_true q547
  go_wp2
  repeat (go_quiet (fail); try go_wp2)
  go_roundg kj16
  case measure => have := HK1.out; have := HJ16.out; omega
  case rel => exact ⟨(wrap64 (x13_1 + 1)), (wrap64 (x14_1 + 1)), zO, zO, H', ⟨by have := HK1.out; have := HJ16.out; omega⟩, ⟨zR HO_3.out⟩, ⟨zR HO_5.out⟩, ⟨zB⟩⟩
 rw [if_pos c24] at H
 have c24b0 : ((rd t529 x14_1) == (rd t525 x14_1)) = true := beq_iff_eq.mpr c24
 have c24b1 : ((rd t529 x14_1) != (rd t525 x14_1)) = false := bne_eq_false_iff_eq.mpr c24
 clear c24
 have H' := Aside0.mk H
 clear H
 obtain ⟨Ao25, co25, eo25⟩ := Kd.R_slice HO_5.out
 subst eo25
 have p546 : 0 ≤ (x14_1 : Int) := zD
 have q546 : x14_1 < (t529.length : Int) := zD
 obtain ⟨ad546, e546, hx546_0⟩ := Kd.at_int (Kd.R_reads' HO_5.out).2.2 x14_1 p546 q546
 cases e546
 replace p546 := eq_true p546
 replace q546 := eq_true q546
 have p547 : 0 ≤ (x14_1 : Int) := zD
 have q547 : x14_1 < (t525.length : Int) := zD
 obtain ⟨ad547, e547, hx547_0⟩ := Kd.at_int (Kd.R_reads' HO_3.out).2.2 x14_1 p547 q547
 cases e547
 replace p547 := eq_true p547
 replace q547 := eq_true q547
 go_wp2
 repeat (go_quiet (fail); try go_wp2)
 go_roundg kj16
 case measure => have := HK1.out; have := HJ16.out; omega
 case rel => exact ⟨(x13_1), (wrap64 (x14_1 + 1)), zO, zO, H', ⟨by have := HK1.out; have := HJ16.out; omega⟩, ⟨zR HO_3.out⟩, ⟨zR HO_5.out⟩, ⟨zB⟩⟩

/-- THE ONE PURE STATEMENT of laws_FnNearestWord: yours. -/
def laws_FnNearestWord.Pure : Prop := ∀ (l0 : List Int), l0.length ≤ maxLen → l0.length * 1 ≤ 140737488351232 → (∀ x ∈ l0, (Lit.int .u8 x).wf = true) → ∃ k, laws_FnNearestWord.f k l0 = some true
theorem laws_FnNearestWord.walk (P : laws_FnNearestWord.Pure) (a0 : Option Addr) (len0 cap0 : Nat) (z0 : List Int) (w : World) (w0 : (a0 = none ∧ len0 = 0 ∧ cap0 = 0 ∧ z0 = []) ∨ ∃ x, a0 = some x ∧ len0 ≤ cap0 ∧ cap0 ≤ maxLen ∧ z0.length = cap0 ∧ (∀ i, i < z0.length → w.cell? (x.add i) = some (.int .u8 (z0.getD i 0))) ∧ ∀ n ∈ z0, (Lit.int .u8 n).wf = true) (y0 : len0 * 1 ≤ 140737488351232) :
  Calls Try.prog 8 #[.slice a0 len0 cap0] w fun e w' => e = .returned (.bool true) ∧ Below w.heap.size w w' := by
 obtain ⟨l0, rfl, hr0, hm0, hw0, hc0⟩ := ReadsInt.ofRowC w0
 obtain ⟨k, h⟩ := P l0 hm0 y0 hw0
 refine (laws_FnNearestWord.calls k _ _ l0 true w (Kd.C_of_reads (d := (0 : Int)) (h1 := fun _ => rfl) hr0) hc0 h).mono ?_
 rintro e w' ⟨rfl, hd⟩
 exact ⟨rfl, hd⟩

end Go.Proofs.Ytdcjfcfiflpblaa.PFnNearestWord
