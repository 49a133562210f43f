/- The functions that FnNearestWord reaches, each with its walk; written by a program (own.py). -/
import Derived.Test.YtdcjfcfiflpblaaSh
import Derived.Test.YtdcjfcfiflpblaaQFnNearestWordx0
import Derived.Test.YtdcjfcfiflpblaaQFnNearestWordx1
import Derived.Test.YtdcjfcfiflpblaaQFnNearestWordx3
import Derived.Test.YtdcjfcfiflpblaaQFnNearestWordx4
import Derived.Test.YtdcjfcfiflpblaaQFnNearestWordx5
namespace Go.Proofs.Ytdcjfcfiflpblaa.PFnNearestWord
open Go.RowKit Go.Proofs.YtdcjfcfiflpblaaW.PrintWords Go.Proofs.YtdcjfcfiflpblaaW.PrintLast Go.Proofs.YtdcjfcfiflpblaaW.PrintMore
attribute [local go_sem] max2_int min2_int max_two min_two max_three min_three max_four min_four   -- for this text's walks alone
set_option linter.unusedVariables false
set_option linter.unusedSimpArgs false

/-! ### impl_RsMend: function 15 -/
mutual
def impl_RsMend.l0 : Nat → List Int → Int → List Int → Int → Int → Option (List Int × Int × Bool)
  | 0, _, _, _, _, _ => none
  | k + 1, x0, x1, x7, x24, x25 => if x25 < x24 then ((impl_value.f k x0 x25).bind fun t234 => (if x7.length < 17592186044416 then (impl_RsMend.l0 k x0 x1 (x7 ++ [t234]) x24 (wrap64 (x25 + 1))) else (none))) else ((impl_locator.f k x7).bind fun t238 => (impl_RsMend.l1 k x0 x1 t238 ([] : List Int) (x0.length : Int) 0))
def impl_RsMend.l1 : Nat → List Int → Int → List Int → List Int → Int → Int → Option (List Int × Int × Bool)
  | 0, _, _, _, _, _, _ => none
  | k + 1, x0, x1, x9, x10, x38, x39 => if x39 < x38 then ((impl_gfPow.f k (wrap64 (255 - (Int.tmod (wrap64 ((wrap64 ((x0.length : Int) - 1)) - x39)) 255)))).bind fun t241 => (impl_RsMend.l2 k x0 x1 x9 x10 x39 t241 0 (wrap64 ((x9.length : Int) - 1)) x38 x39)) else (if (x10.length : Int) > x1 then (impl_RsMend.j3 k x0 x1 x10 true) else (impl_RsMend.j3 k x0 x1 x10 ((x10.length : Int) != (wrap64 ((x9.length : Int) - 1)))))
def impl_RsMend.l2 : Nat → List Int → Int → List Int → List Int → Int → Int → Int → Int → Int → Int → Option (List Int × Int × Bool)
  | 0, _, _, _, _, _, _, _, _, _, _ => none
  | k + 1, x0, x1, x9, x10, x11, x12, x13, x14, x38, x39 => if x14 ≥ 0 then ((impl_GfMul.f k x13 x12).bind fun t242 => (if 0 ≤ x14 then (if x14 < (x9.length : Int) then (impl_RsMend.l2 k x0 x1 x9 x10 x11 x12 (Go.bits .xor .i64 t242 (rd x9 x14)) (wrap64 (x14 - 1)) x38 x39) else (none)) else (none))) else (if x13 = 0 then (if x10.length < 17592186044416 then (impl_RsMend.l1 k x0 x1 x9 (x10 ++ [x11]) x38 (wrap64 (x39 + 1))) else (none)) else (impl_RsMend.l1 k x0 x1 x9 x10 x38 (wrap64 (x39 + 1))))
def impl_RsMend.j3 : Nat → List Int → Int → List Int → Bool → Option (List Int × Int × Bool)
  | 0, _, _, _, _ => none
  | k + 1, x0, x1, x10, x83 => if x83 = true then (some (([] : List Int), 0, false)) else ((impl_fill.f k x0 x10 x1).bind fun bt247 => (if bt247.2 = true then ((impl_RsOk.f k bt247.1 x1).bind fun t251 => (impl_RsMend.j4 k x0 bt247.1 (!t251))) else (impl_RsMend.j4 k x0 bt247.1 true)))
def impl_RsMend.j4 : Nat → List Int → List Int → Bool → Option (List Int × Int × Bool)
  | 0, _, _, _ => none
  | k + 1, x0, x15, x98 => if x98 = true then (some (([] : List Int), 0, false)) else (impl_RsMend.l3 k x0 x15 0 (x15.length : Int) 0)
def impl_RsMend.l3 : Nat → List Int → List Int → Int → Int → Int → Option (List Int × Int × Bool)
  | 0, _, _, _, _, _ => none
  | k + 1, x0, x15, x17, x100, x101 => if x101 < x100 then (if 0 ≤ x101 then (if x101 < (x15.length : Int) then (if x101 < (x0.length : Int) then (if (rd x15 x101) = (rd x0 x101) then (impl_RsMend.l3 k x0 x15 x17 x100 (wrap64 (x101 + 1))) else (impl_RsMend.l3 k x0 x15 (wrap64 (x17 + 1)) x100 (wrap64 (x101 + 1)))) else (none)) else (none)) else (none)) else (some (x15, x17, true))
end
def impl_RsMend.f (k : Nat) (l0 : List Int) (a1 : Int) : Option (List Int × Int × Bool) := (impl_wordOk.f l0 a1).bind fun t233 => (if t233 = true then (impl_RsMend.l0 k l0 a1 ([] : List Int) (wrap64 (2 * a1)) 0) else (some (([] : List Int), 0, false)))
theorem impl_RsMend.mono_l : ∀ k, (∀ y0 y1 y2 y3 y4, LeO (impl_RsMend.l0 k y0 y1 y2 y3 y4) (impl_RsMend.l0 (k + 1) y0 y1 y2 y3 y4)) ∧ (∀ y0 y1 y2 y3 y4 y5, LeO (impl_RsMend.l1 k y0 y1 y2 y3 y4 y5) (impl_RsMend.l1 (k + 1) y0 y1 y2 y3 y4 y5)) ∧ (∀ y0 y1 y2 y3 y4 y5 y6 y7 y8 y9, LeO (impl_RsMend.l2 k y0 y1 y2 y3 y4 y5 y6 y7 y8 y9) (impl_RsMend.l2 (k + 1) y0 y1 y2 y3 y4 y5 y6 y7 y8 y9)) ∧ (∀ y0 y1 y2 y3, LeO (impl_RsMend.j3 k y0 y1 y2 y3) (impl_RsMend.j3 (k + 1) y0 y1 y2 y3)) ∧ (∀ y0 y1 y2, LeO (impl_RsMend.j4 k y0 y1 y2) (impl_RsMend.j4 (k + 1) y0 y1 y2)) ∧ (∀ y0 y1 y2 y3 y4, LeO (impl_RsMend.l3 k y0 y1 y2 y3 y4) (impl_RsMend.l3 (k + 1) y0 y1 y2 y3 y4))
  | 0 => ⟨fun _ _ _ _ _ r h => by simp [impl_RsMend.l0] at h, fun _ _ _ _ _ _ r h => by simp [impl_RsMend.l1] at h, fun _ _ _ _ _ _ _ _ _ _ r h => by simp [impl_RsMend.l2] at h, fun _ _ _ _ r h => by simp [impl_RsMend.j3] at h, fun _ _ _ r h => by simp [impl_RsMend.j4] at h, fun _ _ _ _ _ r h => by simp [impl_RsMend.l3] at h⟩
  | k + 1 => by
    obtain ⟨ih0, ih1, ih2, ih3, ih4, ih5⟩ := impl_RsMend.mono_l k
    refine ⟨?_, ?_, ?_, ?_, ?_, ?_⟩ <;> intros
    all_goals first | unfold impl_RsMend.l0 | unfold impl_RsMend.l1 | unfold impl_RsMend.l2 | unfold impl_RsMend.j3 | unfold impl_RsMend.j4 | unfold impl_RsMend.l3
    all_goals repeat' first
    | (with_reducible exact ih0 _ _ _ _ _)
    | (with_reducible exact ih1 _ _ _ _ _ _)
    | (with_reducible exact ih2 _ _ _ _ _ _ _ _ _ _)
    | (with_reducible exact ih3 _ _ _ _)
    | (with_reducible exact ih4 _ _ _)
    | (with_reducible exact ih5 _ _ _ _ _)
    | (with_reducible exact impl_GfMul.mono _ _ _)
    | (with_reducible exact impl_RsOk.mono _ _ _)
    | (with_reducible exact impl_fill.mono _ _ _ _)
    | (with_reducible exact impl_gfPow.mono _ _)
    | (with_reducible exact impl_locator.mono _ _)
    | (with_reducible exact impl_value.mono _ _ _)
    | (with_reducible exact LeO.refl _)
    | (with_reducible exact LeO.none _)
    | (with_reducible refine LeO.ite ?_ ?_)
    | (with_reducible refine LeO.bind ?_ (fun _ => ?_))
    | exact ih0 _ _ _ _ _
    | exact ih1 _ _ _ _ _ _
    | exact ih2 _ _ _ _ _ _ _ _ _ _
    | exact ih3 _ _ _ _
    | exact ih4 _ _ _
    | exact ih5 _ _ _ _ _
    | exact impl_GfMul.mono _ _ _
    | exact impl_RsOk.mono _ _ _
    | exact impl_fill.mono _ _ _ _
    | exact impl_gfPow.mono _ _
    | exact impl_locator.mono _ _
    | exact impl_value.mono _ _ _
    | exact LeO.none _
    | refine LeO.ite ?_ ?_
    | refine LeO.bind ?_ (fun _ => ?_)
theorem impl_RsMend.mono : ∀ a0 a1 k, LeO (impl_RsMend.f k a0 a1) (impl_RsMend.f (k + 1) a0 a1) := by
  intro a0 a1 k
  obtain ⟨ih0, ih1, ih2, ih3, ih4, ih5⟩ := impl_RsMend.mono_l k
  unfold impl_RsMend.f
  repeat' first
      | (with_reducible exact ih0 _ _ _ _ _)
      | (with_reducible exact ih1 _ _ _ _ _ _)
      | (with_reducible exact ih2 _ _ _ _ _ _ _ _ _ _)
      | (with_reducible exact ih3 _ _ _ _)
      | (with_reducible exact ih4 _ _ _)
      | (with_reducible exact ih5 _ _ _ _ _)
      | (with_reducible exact impl_GfMul.mono _ _ _)
      | (with_reducible exact impl_RsOk.mono _ _ _)
      | (with_reducible exact impl_fill.mono _ _ _ _)
      | (with_reducible exact impl_gfPow.mono _ _)
      | (with_reducible exact impl_locator.mono _ _)
      | (with_reducible exact impl_value.mono _ _ _)
      | (with_reducible exact LeO.refl _)
      | (with_reducible exact LeO.none _)
      | (with_reducible refine LeO.ite ?_ ?_)
      | (with_reducible refine LeO.bind ?_ (fun _ => ?_))
      | exact ih0 _ _ _ _ _
      | exact ih1 _ _ _ _ _ _
      | exact ih2 _ _ _ _ _ _ _ _ _ _
      | exact ih3 _ _ _ _
      | exact ih4 _ _ _
      | exact ih5 _ _ _ _ _
      | exact impl_GfMul.mono _ _ _
      | exact impl_RsOk.mono _ _ _
      | exact impl_fill.mono _ _ _ _
      | exact impl_gfPow.mono _ _
      | exact impl_locator.mono _ _
      | exact impl_value.mono _ _ _
      | exact LeO.none _
      | refine LeO.ite ?_ ?_
      | refine LeO.bind ?_ (fun _ => ?_)
set_option maxHeartbeats 8000000 in
set_option maxRecDepth 100000 in
theorem impl_RsMend.calls (k : Nat) (A0 : Option Addr) (c0 : Nat) (l0 : List Int) (a1 : Int) (r1 : List Int) (r2 : Int) (r3 : Bool) (w : World) (hr0 : Kd.C (Kd.int .u8) w A0 l0.length l0) (hc0 : l0.length ≤ c0) (h : impl_RsMend.f k l0 a1 = some (r1, r2, r3)) :
  Calls Try.prog 15 #[.slice A0 l0.length c0, .int .i64 a1] w fun e w' => ∃ v0_ : Value, e = .returned (.tuple #[v0_, .int .i64 r2, .bool r3]) ∧ Kd.R (Kd.int .u8) 5 w' w.heap.size (fun _ => True) v0_ r1 ∧ Below w.heap.size w w' := by
 have HR0 := Aside0.mk hr0
 have HC0 := Aside0.mk hc0
 clear hr0 hc0
 have HB := Aside0.mk (Below.refl w.heap.size w)
 have H : ((impl_wordOk.f l0 a1).bind fun t233 => (if t233 = true then (impl_RsMend.l0 k l0 a1 ([] : List Int) (wrap64 (2 * a1)) 0) else (some (([] : List Int), 0, false)))) = some (r1, r2, r3) := h
 clear h
 replace H := zi H
 obtain ⟨t233, A3, H⟩ := H
 by_cases c4 : t233 = true
 rotate_left
 ·replace c4 := Bool.eq_false_iff.mpr c4
  subst c4
  have H1 : (some (([] : List Int), 0, false)) = some (r1, r2, r3) := by rw [if_neg (show ¬ (false = true) by decide)] at H; exact H
  clear H
  have H := H1
  clear H1
  simp only [Option.some.injEq, Prod.mk.injEq] at H
  obtain ⟨rfl, rfl, rfl⟩ := H
  go_enter Try.func15, Try.ntmps15
  go_wp2_with (first | (go_at_call 37; (with_reducible refine (impl_wordOk.calls _ _ l0 a1 false _ ?side1 ?side2 A3.out).mono ?_); (case side1 => exact zC HR0.out); (case side2 => exact HC0.out); rintro e w' ⟨rfl, ⟨nd, rfl⟩⟩; (try exact zZ)))
  repeat (go_quiet (first | (go_at_call 37; (with_reducible refine (impl_wordOk.calls _ _ l0 a1 false _ ?side1 ?side2 A3.out).mono ?_); (case side1 => exact zC HR0.out); (case side2 => exact HC0.out); rintro e w' ⟨rfl, ⟨nd, rfl⟩⟩; (try exact zZ))); try go_wp2_with (first | (go_at_call 37; (with_reducible refine (impl_wordOk.calls _ _ l0 a1 false _ ?side1 ?side2 A3.out).mono ?_); (case side1 => exact zC HR0.out); (case side2 => exact HC0.out); rintro e w' ⟨rfl, ⟨nd, rfl⟩⟩; (try exact zZ))))
  go_ret3
  exact ⟨_, zE, by first | exact Kd.R_nil _ _ _ _ _ | exact Kd.N_nil _ _ _ _ _ | exact Kd.V_nil _ _ _ _ _ | exact Kd.Q_nil _ _ _ _ _ | exact Kd.S_nil _ _ _ _ _, zB⟩
 subst c4
 have H1 : (impl_RsMend.l0 k l0 a1 ([] : List Int) (wrap64 (2 * a1)) 0) = some (r1, r2, r3) := by rw [if_pos rfl] at H; exact H
 clear H
 have H := H1
 clear H1
 have H' := Aside0.mk H
 clear H
 go_enter Try.func15, Try.ntmps15
 go_wp2_with (first | (go_at_call 37; (with_reducible refine (impl_wordOk.calls _ _ l0 a1 true _ ?side1 ?side2 A3.out).mono ?_); (case side1 => exact zC HR0.out); (case side2 => exact HC0.out); rintro e w' ⟨rfl, ⟨nd, rfl⟩⟩; (try exact zZ)))
 repeat (go_quiet (first | (go_at_call 37; (with_reducible refine (impl_wordOk.calls _ _ l0 a1 true _ ?side1 ?side2 A3.out).mono ?_); (case side1 => exact zC HR0.out); (case side2 => exact HC0.out); rintro e w' ⟨rfl, ⟨nd, rfl⟩⟩; (try exact zZ))); try go_wp2_with (first | (go_at_call 37; (with_reducible refine (impl_wordOk.calls _ _ l0 a1 true _ ?side1 ?side2 A3.out).mono ?_); (case side1 => exact zC HR0.out); (case side2 => exact HC0.out); rintro e w' ⟨rfl, ⟨nd, rfl⟩⟩; (try exact zZ))))
 go_loopg [7, 25] k (fun kq v7 v25 w' => ∃ (x7_1 : List Int) (x25_1 : Int), v25 = .int .i64 x25_1 ∧ Aside0 (impl_RsMend.l0 kq l0 a1 x7_1 (wrap64 (2 * a1)) x25_1 = some (r1, r2, r3)) ∧ Aside0 (kq ≤ k) ∧ Aside0 (Kd.R (Kd.int .i64) 3 w' w.heap.size (fun _ => True) v7 x7_1) ∧ Aside0 (Below w.heap.size w w'))
 case atStart => exact ⟨(([] : List Int)), (0), zO, H', ⟨Nat.le_refl _⟩, ⟨by first | exact Kd.R_nil _ _ _ _ _ | exact Kd.N_nil _ _ _ _ _ | exact Kd.V_nil _ _ _ _ _ | exact Kd.Q_nil _ _ _ _ _ | exact Kd.S_nil _ _ _ _ _⟩, ⟨zB⟩⟩
 case round =>
 clear H'
 try clear c1
 try clear p2
 try clear c4
 obtain ⟨x7_1, x25_1, rfl, HA, HK1, HO_7, HB⟩ := hrel
 cases gk with
 | zero => exact absurd HA.out (by simp [impl_RsMend.l0])
 | succ k1 =>
 have H := HA.out
 clear HA
 simp only [impl_RsMend.l0] at H
 by_cases c5 : x25_1 < (wrap64 (2 * a1))
 ·rw [if_pos c5] at H
  have c5b0 := decide_eq_true c5
  clear c5
  replace H := zi H
  obtain ⟨t234, A6, H⟩ := H
  replace H := zg H
  obtain ⟨c7, H⟩ := H
  have LMc7 := Aside0.mk c7
  clear c7
  obtain ⟨y235, hy235⟩ : ∃ y_ : List Int, y_ = (x7_1 ++ [t234]) := ⟨_, rfl⟩
  replace H : (impl_RsMend.l0 k1 l0 a1 y235 (wrap64 (2 * a1)) (wrap64 (x25_1 + 1))) = some (r1, r2, r3) := by first | (rw [hy235]; with_reducible exact H) | (have H2_ := (Option.bind_some _ _).symm.trans H; rw [hy235]; with_reducible exact H2_) | (have H2_ := (Option.bind_some _ _).symm.trans H; with_reducible exact H2_) | with_reducible exact H | (rw [hy235]; exact H) | exact H
  have Ny235 := Aside0.mk hy235
  clear hy235
  have H' := Aside0.mk H
  clear H
  go_wp2_with (first | (go_at_call 38; (with_reducible refine (impl_value.calls k1 _ _ l0 x25_1 t234 _ ?side1 ?side2 A6.out).mono ?_); (case side1 => exact zC (Kd.C_below HR0.out HB.out)); (case side2 => exact HC0.out); rintro e w' ⟨rfl, ⟨nd, rfl⟩⟩; (try exact zZ)) | ((with_reducible refine gate_builtin (b := .append) (xs := #[.tmp 28, .tmp 32]) rfl ?_); (try (refine gate_guard (by rfl) ?_; dsimp only)); at_builtin; refine Kd.R_append (Kd.int .i64) (w0 := w) w.heap.size rfl (.tmp 28) (.tmp 32) 24 3 (.int .i64 0) 8 rfl Try.underlying24 info3 rfl (by decide) (by omega) u7 x7_1 t234 [.int .i64 t234] (fun _ => True) (fun _ => False) rfl rfl ?aP (fun _ hk => hk.elim) ?aF ?aO ?aB ?aS ?aL ?_; (case aP => exact rfl); (case aB => exact zB); (case aF => exact (fun _ _ => trivial)); (case aO => exact (zR HO_7.out)); (case aS => exact (below_size zB)); (case aL => have := LMc7.out; omega); intro v236 w8 ho hb hg hat; rw [← Ny235.out] at ho; have n0_ := Aside0.mk (hb); have n1_ := Aside0.mk (ho); clear HB; clear HO_7; have HB := n0_; have HO237 := n1_; clear n0_ n1_; clear ho hb hg hat))
  repeat (go_quiet (first | (go_at_call 38; (with_reducible refine (impl_value.calls k1 _ _ l0 x25_1 t234 _ ?side1 ?side2 A6.out).mono ?_); (case side1 => exact zC (Kd.C_below HR0.out HB.out)); (case side2 => exact HC0.out); rintro e w' ⟨rfl, ⟨nd, rfl⟩⟩; (try exact zZ)) | ((with_reducible refine gate_builtin (b := .append) (xs := #[.tmp 28, .tmp 32]) rfl ?_); (try (refine gate_guard (by rfl) ?_; dsimp only)); at_builtin; refine Kd.R_append (Kd.int .i64) (w0 := w) w.heap.size rfl (.tmp 28) (.tmp 32) 24 3 (.int .i64 0) 8 rfl Try.underlying24 info3 rfl (by decide) (by omega) u7 x7_1 t234 [.int .i64 t234] (fun _ => True) (fun _ => False) rfl rfl ?aP (fun _ hk => hk.elim) ?aF ?aO ?aB ?aS ?aL ?_; (case aP => exact rfl); (case aB => exact zB); (case aF => exact (fun _ _ => trivial)); (case aO => exact (zR HO_7.out)); (case aS => exact (below_size zB)); (case aL => have := LMc7.out; omega); intro v236 w8 ho hb hg hat; rw [← Ny235.out] at ho; have n0_ := Aside0.mk (hb); have n1_ := Aside0.mk (ho); clear HB; clear HO_7; have HB := n0_; have HO237 := n1_; clear n0_ n1_; clear ho hb hg hat)); try go_wp2_with (first | (go_at_call 38; (with_reducible refine (impl_value.calls k1 _ _ l0 x25_1 t234 _ ?side1 ?side2 A6.out).mono ?_); (case side1 => exact zC (Kd.C_below HR0.out HB.out)); (case side2 => exact HC0.out); rintro e w' ⟨rfl, ⟨nd, rfl⟩⟩; (try exact zZ)) | ((with_reducible refine gate_builtin (b := .append) (xs := #[.tmp 28, .tmp 32]) rfl ?_); (try (refine gate_guard (by rfl) ?_; dsimp only)); at_builtin; refine Kd.R_append (Kd.int .i64) (w0 := w) w.heap.size rfl (.tmp 28) (.tmp 32) 24 3 (.int .i64 0) 8 rfl Try.underlying24 info3 rfl (by decide) (by omega) u7 x7_1 t234 [.int .i64 t234] (fun _ => True) (fun _ => False) rfl rfl ?aP (fun _ hk => hk.elim) ?aF ?aO ?aB ?aS ?aL ?_; (case aP => exact rfl); (case aB => exact zB); (case aF => exact (fun _ _ => trivial)); (case aO => exact (zR HO_7.out)); (case aS => exact (below_size zB)); (case aL => have := LMc7.out; omega); intro v236 w8 ho hb hg hat; rw [← Ny235.out] at ho; have n0_ := Aside0.mk (hb); have n1_ := Aside0.mk (ho); clear HB; clear HO_7; have HB := n0_; have HO237 := n1_; clear n0_ n1_; clear ho hb hg hat)))
  go_roundg k1
  case measure => have := HK1.out; omega
  case rel => exact ⟨(y235), (wrap64 (x25_1 + 1)), zO, H', ⟨by have := HK1.out; omega⟩, ⟨zR HO237.out⟩, ⟨zB⟩⟩
 rw [if_neg c5] at H
 have c5b0 := decide_eq_false c5
 clear c5
 replace H := zi H
 obtain ⟨t238, A9, H⟩ := H
 have H' := Aside0.mk H
 clear H
 obtain ⟨Ao10, co10, eo10⟩ := Kd.R_slice HO_7.out
 subst eo10
 go_wp2_with (first | (go_at_call 39; (with_reducible refine (impl_locator.calls k1 _ _ x7_1 t238 _ ?side1 ?side2 A9.out).mono ?_); (case side1 => exact zC (Kd.R_reads' HO_7.out).2.2); (case side2 => exact (Kd.R_reads' HO_7.out).2.1); rintro e w11 ⟨v239, rfl, ho0, hb⟩; have n0_ := Aside0.mk (Kd.R_elder' (zR HO_7.out) (Kd.R_base ho0) hb); have n1_ := Aside0.mk (Kd.R_lower (Kd.R_new' ho0 (Kd.R_lt (zR HO_7.out))) (below_size zB)); have n2_ := Aside0.mk (below_step zB hb); clear HO_7; clear HB; have HO_7 := n0_; have HO240 := n1_; have HB := n2_; clear n0_ n1_ n2_; (try clear hb); (try clear hb2); (try clear hk); (try clear hi); (try clear ho0)))
 repeat (go_quiet (first | (go_at_call 39; (with_reducible refine (impl_locator.calls k1 _ _ x7_1 t238 _ ?side1 ?side2 A9.out).mono ?_); (case side1 => exact zC (Kd.R_reads' HO_7.out).2.2); (case side2 => exact (Kd.R_reads' HO_7.out).2.1); rintro e w11 ⟨v239, rfl, ho0, hb⟩; have n0_ := Aside0.mk (Kd.R_elder' (zR HO_7.out) (Kd.R_base ho0) hb); have n1_ := Aside0.mk (Kd.R_lower (Kd.R_new' ho0 (Kd.R_lt (zR HO_7.out))) (below_size zB)); have n2_ := Aside0.mk (below_step zB hb); clear HO_7; clear HB; have HO_7 := n0_; have HO240 := n1_; have HB := n2_; clear n0_ n1_ n2_; (try clear hb); (try clear hb2); (try clear hk); (try clear hi); (try clear ho0))); try go_wp2_with (first | (go_at_call 39; (with_reducible refine (impl_locator.calls k1 _ _ x7_1 t238 _ ?side1 ?side2 A9.out).mono ?_); (case side1 => exact zC (Kd.R_reads' HO_7.out).2.2); (case side2 => exact (Kd.R_reads' HO_7.out).2.1); rintro e w11 ⟨v239, rfl, ho0, hb⟩; have n0_ := Aside0.mk (Kd.R_elder' (zR HO_7.out) (Kd.R_base ho0) hb); have n1_ := Aside0.mk (Kd.R_lower (Kd.R_new' ho0 (Kd.R_lt (zR HO_7.out))) (below_size zB)); have n2_ := Aside0.mk (below_step zB hb); clear HO_7; clear HB; have HO_7 := n0_; have HO240 := n1_; have HB := n2_; clear n0_ n1_ n2_; (try clear hb); (try clear hb2); (try clear hk); (try clear hi); (try clear ho0))))
 go_loopg [10, 39] k1 (fun kq v10 v39 w' => ∃ (x10_2 : List Int) (x39_2 : Int), v39 = .int .i64 x39_2 ∧ Aside0 (impl_RsMend.l1 kq l0 a1 t238 x10_2 (l0.length : Int) x39_2 = some (r1, r2, r3)) ∧ Aside0 (kq ≤ k1) ∧ Aside0 (Kd.R (Kd.int .i64) 3 w' w.heap.size (fun k_ => some k_ ≠ (v10 : Value).ownBlock) v239 t238) ∧ Aside0 (Kd.R (Kd.int .i64) 3 w' w.heap.size (fun k_ => some k_ ≠ (v239 : Value).ownBlock) v10 x10_2) ∧ Aside0 (Below w.heap.size w w'))
 case atStart => exact ⟨(([] : List Int)), (0), zO, H', ⟨Nat.le_refl _⟩, ⟨by (with_reducible repeat (first | apply Kd.R_alloc | apply Kd.R_drewN | apply Kd.R_drew)); exact Kd.R_mono HO240.out (fun _ hk => (by simp [Value.ownBlock]))⟩, ⟨by first | exact Kd.R_nil _ _ _ _ _ | exact Kd.N_nil _ _ _ _ _ | exact Kd.V_nil _ _ _ _ _ | exact Kd.Q_nil _ _ _ _ _ | exact Kd.S_nil _ _ _ _ _⟩, ⟨zB⟩⟩
 case round =>
 clear H'
 try clear c1
 try clear p2
 try clear c4
 try clear c5
 try clear c5b0
 try clear p6
 try clear c7
 try clear p2
 obtain ⟨x10_2, x39_2, rfl, HA, HK2, HO_9, HO_10, HB⟩ := hrel
 cases gk with
 | zero => exact absurd HA.out (by simp [impl_RsMend.l1])
 | succ k2 =>
 have H := HA.out
 clear HA
 simp only [impl_RsMend.l1] at H
 by_cases c12 : x39_2 < (l0.length : Int)
 ·rw [if_pos c12] at H
  have c12b0 := decide_eq_true c12
  clear c12
  replace H := zi H
  obtain ⟨t241, A13, H⟩ := H
  have H' := Aside0.mk H
  clear H
  go_wp2_with (first | (go_at_call 33; (with_reducible refine (impl_gfPow.calls k2 (wrap64 (255 - (Int.tmod (wrap64 ((wrap64 ((l0.length : Int) - 1)) - x39_2)) 255))) t241 _ A13.out).mono ?_); rintro e w' ⟨rfl, ⟨nd, rfl⟩⟩; (try exact zZ); obtain ⟨Ao14, co14, eo14⟩ := Kd.R_slice HO_9.out; subst eo14))
  repeat (go_quiet (first | (go_at_call 33; (with_reducible refine (impl_gfPow.calls k2 (wrap64 (255 - (Int.tmod (wrap64 ((wrap64 ((l0.length : Int) - 1)) - x39_2)) 255))) t241 _ A13.out).mono ?_); rintro e w' ⟨rfl, ⟨nd, rfl⟩⟩; (try exact zZ); obtain ⟨Ao14, co14, eo14⟩ := Kd.R_slice HO_9.out; subst eo14)); try go_wp2_with (first | (go_at_call 33; (with_reducible refine (impl_gfPow.calls k2 (wrap64 (255 - (Int.tmod (wrap64 ((wrap64 ((l0.length : Int) - 1)) - x39_2)) 255))) t241 _ A13.out).mono ?_); rintro e w' ⟨rfl, ⟨nd, rfl⟩⟩; (try exact zZ); obtain ⟨Ao14, co14, eo14⟩ := Kd.R_slice HO_9.out; subst eo14)))
  go_loopg [13, 14] k2 (fun kq v13 v14 w' => ∃ (x13_3 : Int) (x14_3 : Int), v13 = .int .i64 x13_3 ∧ v14 = .int .i64 x14_3 ∧ Aside0 (impl_RsMend.l2 kq l0 a1 t238 x10_2 x39_2 t241 x13_3 x14_3 (l0.length : Int) x39_2 = some (r1, r2, r3)) ∧ Aside0 (kq ≤ k2) ∧ Aside0 (Kd.R (Kd.int .i64) 3 w' w.heap.size (fun k_ => some k_ ≠ (u10 : Value).ownBlock) (.slice Ao14 t238.length co14) t238) ∧ Aside0 (Kd.R (Kd.int .i64) 3 w' w.heap.size (fun k_ => some k_ ≠ ((.slice Ao14 t238.length co14) : Value).ownBlock) u10 x10_2) ∧ Aside0 (Below w.heap.size w w'))
  case atStart => exact ⟨(0), (wrap64 ((t238.length : Int) - 1)), zO, zO, H', ⟨Nat.le_refl _⟩, ⟨zR HO_9.out⟩, ⟨zR HO_10.out⟩, ⟨zB⟩⟩
  case round =>
  clear H'
  try clear c1
  try clear p2
  try clear c4
  try clear c5
  try clear c5b0
  try clear p6
  try clear c7
  try clear c12
  try clear c12b0
  try clear p2
  try clear p6
  obtain ⟨x13_3, x14_3, rfl, rfl, HA, HK3, HO_9, HO_10, HB⟩ := hrel
  cases gk with
  | zero => exact absurd HA.out (by simp [impl_RsMend.l2])
  | succ k3 =>
  have H := HA.out
  clear HA
  simp only [impl_RsMend.l2] at H
  by_cases c15 : x14_3 ≥ 0
  ·rw [if_pos c15] at H
   have c15b0 : decide (0 ≤ x14_3) = true := decide_eq_true c15
   clear c15
   replace H := zi H
   obtain ⟨t242, A16, H⟩ := H
   replace H := zg H
   obtain ⟨c17, H⟩ := H
   have c17b0 : decide (0 ≤ x14_3) = true := decide_eq_true c17
   clear c17
   replace H := zg H
   obtain ⟨c18, H⟩ := H
   have c18b0 : decide (x14_3 < (t238.length : Int)) = true := decide_eq_true c18
   clear c18
   have H' := Aside0.mk H
   clear H
   go_wp2_with (first | (go_at_call 35; (with_reducible refine (impl_GfMul.calls k3 x13_3 t241 t242 _ A16.out).mono ?_); rintro e w' ⟨rfl, ⟨nd, rfl⟩⟩; (try exact zZ); have p243 : 0 ≤ (x14_3 : Int) := zD; have q243 : x14_3 < (t238.length : Int) := zD; obtain ⟨ad243, e243, hx243_0⟩ := Kd.at_int (Kd.R_reads' HO_9.out).2.2 x14_3 p243 q243; cases e243; replace p243 := eq_true p243; replace q243 := eq_true q243))
   repeat (go_quiet (first | (go_at_call 35; (with_reducible refine (impl_GfMul.calls k3 x13_3 t241 t242 _ A16.out).mono ?_); rintro e w' ⟨rfl, ⟨nd, rfl⟩⟩; (try exact zZ); have p243 : 0 ≤ (x14_3 : Int) := zD; have q243 : x14_3 < (t238.length : Int) := zD; obtain ⟨ad243, e243, hx243_0⟩ := Kd.at_int (Kd.R_reads' HO_9.out).2.2 x14_3 p243 q243; cases e243; replace p243 := eq_true p243; replace q243 := eq_true q243)); try go_wp2_with (first | (go_at_call 35; (with_reducible refine (impl_GfMul.calls k3 x13_3 t241 t242 _ A16.out).mono ?_); rintro e w' ⟨rfl, ⟨nd, rfl⟩⟩; (try exact zZ); have p243 : 0 ≤ (x14_3 : Int) := zD; have q243 : x14_3 < (t238.length : Int) := zD; obtain ⟨ad243, e243, hx243_0⟩ := Kd.at_int (Kd.R_reads' HO_9.out).2.2 x14_3 p243 q243; cases e243; replace p243 := eq_true p243; replace q243 := eq_true q243)))
   go_roundg k3
   case measure => have := HK1.out; have := HK2.out; have := HK3.out; omega
   case rel => exact ⟨(Go.bits .xor .i64 t242 (rd t238 x14_3)), (wrap64 (x14_3 - 1)), zO, zO, H', ⟨by have := HK1.out; have := HK2.out; have := HK3.out; omega⟩, ⟨zR HO_9.out⟩, ⟨zR HO_10.out⟩, ⟨zB⟩⟩
  rw [if_neg c15] at H
  have c15b0 : decide (0 ≤ x14_3) = false := decide_eq_false c15
  clear c15
  by_cases c19 : x13_3 = 0
  rotate_left
  ·rw [if_neg c19] at H
   have c19b0 : (x13_3 == 0) = false := beq_eq_false_iff_ne.mpr c19
   have c19b1 : (x13_3 != 0) = true := bne_iff_ne.mpr c19
   have H' := Aside0.mk H
   clear H
   go_wp2
   repeat (go_quiet (fail); try go_wp2)
   go_roundg k3
   case measure => have := HK1.out; have := HK2.out; have := HK3.out; omega
   case rel => exact ⟨(x10_2), (wrap64 (x39_2 + 1)), zO, H', ⟨by have := HK1.out; have := HK2.out; have := HK3.out; omega⟩, ⟨zR HO_9.out⟩, ⟨zR HO_10.out⟩, ⟨zB⟩⟩
  rw [if_pos c19] at H
  have c19b0 : (x13_3 == 0) = true := beq_iff_eq.mpr c19
  have c19b1 : (x13_3 != 0) = false := bne_eq_false_iff_eq.mpr c19
  clear c19
  replace H := zg H
  obtain ⟨c20, H⟩ := H
  have LMc20 := Aside0.mk c20
  clear c20
  obtain ⟨y244, hy244⟩ : ∃ y_ : List Int, y_ = (x10_2 ++ [x39_2]) := ⟨_, rfl⟩
  replace H : (impl_RsMend.l1 k3 l0 a1 t238 y244 (l0.length : Int) (wrap64 (x39_2 + 1))) = some (r1, r2, r3) := by first | (rw [hy244]; with_reducible exact H) | (have H2_ := (Option.bind_some _ _).symm.trans H; rw [hy244]; with_reducible exact H2_) | (have H2_ := (Option.bind_some _ _).symm.trans H; with_reducible exact H2_) | with_reducible exact H | (rw [hy244]; exact H) | exact H
  have Ny244 := Aside0.mk hy244
  clear hy244
  have H' := Aside0.mk H
  clear H
  go_wp2_with (first | ((with_reducible refine gate_builtin (b := .append) (xs := #[.tmp 67, .tmp 69]) rfl ?_); (try (refine gate_guard (by rfl) ?_; dsimp only)); at_builtin; refine Kd.R_append (Kd.int .i64) (w0 := w) w.heap.size rfl (.tmp 67) (.tmp 69) 24 3 (.int .i64 0) 8 rfl Try.underlying24 info3 rfl (by decide) (by omega) u10 x10_2 x39_2 [.int .i64 x39_2] (fun k_ => some k_ ≠ (.slice Ao14 t238.length co14 : Value).ownBlock) (fun _ => False) rfl rfl ?aP (fun _ hk => hk.elim) ?aF ?aO ?aB ?aS ?aL ?_; (case aP => exact rfl); (case aB => exact zB); (case aF => exact (fun k_ hk => Kd.fresh' (Kd.R_lt (zR HO_9.out)) k_ hk)); (case aO => exact (zR HO_10.out)); (case aS => exact (below_size zB)); (case aL => have := LMc20.out; omega); intro v245 w21 ho hb hg hat; rw [← Ny244.out] at ho; have n0_ := Aside0.mk (Kd.R_after (ok := (fun _ => True)) (by (with_reducible repeat (first | apply Kd.R_alloc | apply Kd.R_drewN | apply Kd.R_drew)); exact Kd.R_mono HO_9.out (fun _ hk => ⟨trivial, hk⟩)) hg hat); have n1_ := Aside0.mk (hb); have n2_ := Aside0.mk (ho); clear HO_9; clear HB; clear HO_10; have HO_9 := n0_; have HB := n1_; have HO246 := n2_; clear n0_ n1_ n2_; clear ho hb hg hat))
  repeat (go_quiet (first | ((with_reducible refine gate_builtin (b := .append) (xs := #[.tmp 67, .tmp 69]) rfl ?_); (try (refine gate_guard (by rfl) ?_; dsimp only)); at_builtin; refine Kd.R_append (Kd.int .i64) (w0 := w) w.heap.size rfl (.tmp 67) (.tmp 69) 24 3 (.int .i64 0) 8 rfl Try.underlying24 info3 rfl (by decide) (by omega) u10 x10_2 x39_2 [.int .i64 x39_2] (fun k_ => some k_ ≠ (.slice Ao14 t238.length co14 : Value).ownBlock) (fun _ => False) rfl rfl ?aP (fun _ hk => hk.elim) ?aF ?aO ?aB ?aS ?aL ?_; (case aP => exact rfl); (case aB => exact zB); (case aF => exact (fun k_ hk => Kd.fresh' (Kd.R_lt (zR HO_9.out)) k_ hk)); (case aO => exact (zR HO_10.out)); (case aS => exact (below_size zB)); (case aL => have := LMc20.out; omega); intro v245 w21 ho hb hg hat; rw [← Ny244.out] at ho; have n0_ := Aside0.mk (Kd.R_after (ok := (fun _ => True)) (by (with_reducible repeat (first | apply Kd.R_alloc | apply Kd.R_drewN | apply Kd.R_drew)); exact Kd.R_mono HO_9.out (fun _ hk => ⟨trivial, hk⟩)) hg hat); have n1_ := Aside0.mk (hb); have n2_ := Aside0.mk (ho); clear HO_9; clear HB; clear HO_10; have HO_9 := n0_; have HB := n1_; have HO246 := n2_; clear n0_ n1_ n2_; clear ho hb hg hat)); try go_wp2_with (first | ((with_reducible refine gate_builtin (b := .append) (xs := #[.tmp 67, .tmp 69]) rfl ?_); (try (refine gate_guard (by rfl) ?_; dsimp only)); at_builtin; refine Kd.R_append (Kd.int .i64) (w0 := w) w.heap.size rfl (.tmp 67) (.tmp 69) 24 3 (.int .i64 0) 8 rfl Try.underlying24 info3 rfl (by decide) (by omega) u10 x10_2 x39_2 [.int .i64 x39_2] (fun k_ => some k_ ≠ (.slice Ao14 t238.length co14 : Value).ownBlock) (fun _ => False) rfl rfl ?aP (fun _ hk => hk.elim) ?aF ?aO ?aB ?aS ?aL ?_; (case aP => exact rfl); (case aB => exact zB); (case aF => exact (fun k_ hk => Kd.fresh' (Kd.R_lt (zR HO_9.out)) k_ hk)); (case aO => exact (zR HO_10.out)); (case aS => exact (below_size zB)); (case aL => have := LMc20.out; omega); intro v245 w21 ho hb hg hat; rw [← Ny244.out] at ho; have n0_ := Aside0.mk (Kd.R_after (ok := (fun _ => True)) (by (with_reducible repeat (first | apply Kd.R_alloc | apply Kd.R_drewN | apply Kd.R_drew)); exact Kd.R_mono HO_9.out (fun _ hk => ⟨trivial, hk⟩)) hg hat); have n1_ := Aside0.mk (hb); have n2_ := Aside0.mk (ho); clear HO_9; clear HB; clear HO_10; have HO_9 := n0_; have HB := n1_; have HO246 := n2_; clear n0_ n1_ n2_; clear ho hb hg hat)))
  go_roundg k3
  case measure => have := HK1.out; have := HK2.out; have := HK3.out; omega
  case rel => exact ⟨(y244), (wrap64 (x39_2 + 1)), zO, H', ⟨by have := HK1.out; have := HK2.out; have := HK3.out; omega⟩, ⟨by (with_reducible repeat (first | apply Kd.R_alloc | apply Kd.R_drewN | apply Kd.R_drew)); exact Kd.R_mono HO_9.out (fun _ hk => hk.2)⟩, ⟨zR HO246.out⟩, ⟨zB⟩⟩
 rw [if_neg c12] at H
 have c12b0 := decide_eq_false c12
 clear c12
 have HC22 := Aside0.mk H
 clear H
 go_upto_region 23 with (fail)
 repeat (go_quiet (fail); go_upto_region 23 with (fail))
 go_cut [83] (fun v83 wc => ∃ (kq : Nat) (x83_21 : Bool), v83 = .bool x83_21 ∧ Aside0 (impl_RsMend.j3 kq l0 a1 x10_2 x83_21 = some (r1, r2, r3)) ∧ Aside0 (kq ≤ k2) ∧ Aside0 (Kd.R (Kd.int .i64) 3 wc w.heap.size (fun _ => True) u10 x10_2) ∧ Aside0 (Below w.heap.size w wc))
 case first =>
  have H := HC22.out
  clear HC22
  by_cases c23 : (x10_2.length : Int) > a1
  ·rw [if_pos c23] at H
   have c23b0 : decide (a1 < (x10_2.length : Int)) = true := decide_eq_true c23
   clear c23
   (first | rw [c23b0] | (simp only [i64_w, i32_w]; rw [c23b0]) | skip)
   have H' := Aside0.mk H
   clear H
   obtain ⟨Ao24, co24, eo24⟩ := Kd.R_slice HO_10.out
   subst eo24
   go_wp2
   repeat (go_quiet (fail); try go_wp2)
   go_meet
   case rel => exact ⟨_, (true), zO, H', ⟨by have := HK1.out; have := HK2.out; first | omega | exact Nat.le_refl _⟩, ⟨by (with_reducible repeat (first | apply Kd.R_alloc | apply Kd.R_drewN | apply Kd.R_drew)); exact Kd.R_mono HO_10.out (fun _ hk => trivial)⟩, ⟨zB⟩⟩
  rw [if_neg c23] at H
  have c23b0 : decide (a1 < (x10_2.length : Int)) = false := decide_eq_false c23
  clear c23
  (first | rw [c23b0] | (simp only [i64_w, i32_w]; rw [c23b0]) | skip)
  have H' := Aside0.mk H
  clear H
  obtain ⟨Ao25, co25, eo25⟩ := Kd.R_slice HO_10.out
  subst eo25
  obtain ⟨Ao26, co26, eo26⟩ := Kd.R_slice HO_9.out
  subst eo26
  go_wp2
  repeat (go_quiet (fail); try go_wp2)
  go_meet
  case rel => exact ⟨_, (((x10_2.length : Int) != (wrap64 ((t238.length : Int) - 1)))), zO, H', ⟨by have := HK1.out; have := HK2.out; first | omega | exact Nat.le_refl _⟩, ⟨by (with_reducible repeat (first | apply Kd.R_alloc | apply Kd.R_drewN | apply Kd.R_drew)); exact Kd.R_mono HO_10.out (fun _ hk => trivial)⟩, ⟨zB⟩⟩
 case rest =>
 clear HC22
 try clear c1
 try clear c2
 try clear p2
 try clear q2
 try clear hx2
 try clear c4
 try clear c5
 try clear c5b0
 try clear p6
 try clear c7
 try clear c12
 try clear c12b0
 try clear c15
 try clear c15b0
 try clear c17
 try clear c17b0
 try clear c18
 try clear c18b0
 try clear c19
 try clear c19b0
 try clear c19b1
 try clear c20
 try clear c23
 try clear c23b0
 try clear p24
 try clear q24
 try clear hx24
 try clear hx243_0
 try clear p2
 try clear p243
 try clear p6
 try clear q243
 obtain ⟨kq, x83_21, rfl, HA, HJ21, HO_10, HB⟩ := hcut
 cases kq with
 | zero => exact absurd HA.out (by simp [impl_RsMend.j3])
 | succ kj21 =>
 have H := HA.out
 clear HA
 simp only [impl_RsMend.j3] at H
 by_cases c27 : x83_21 = true
 ·subst c27
  have H1 : (some (([] : List Int), 0, false)) = some (r1, r2, r3) := by rw [if_pos rfl] at H; exact H
  clear H
  have H := H1
  clear H1
  simp only [Option.some.injEq, Prod.mk.injEq] at H
  obtain ⟨rfl, rfl, rfl⟩ := H
  go_wp2
  repeat (go_quiet (fail); try go_wp2)
  go_ret3
  exact ⟨_, zE, by first | exact Kd.R_nil _ _ _ _ _ | exact Kd.N_nil _ _ _ _ _ | exact Kd.V_nil _ _ _ _ _ | exact Kd.Q_nil _ _ _ _ _ | exact Kd.S_nil _ _ _ _ _, zB⟩
 replace c27 := Bool.eq_false_iff.mpr c27
 subst c27
 have H1 : ((impl_fill.f kj21 l0 x10_2 a1).bind fun bt247 => (if bt247.2 = true then ((impl_RsOk.f kj21 bt247.1 a1).bind fun t251 => (impl_RsMend.j4 kj21 l0 bt247.1 (!t251))) else (impl_RsMend.j4 kj21 l0 bt247.1 true))) = some (r1, r2, r3) := by rw [if_neg (show ¬ (false = true) by decide)] at H; exact H
 clear H
 have H := H1
 clear H1
 replace H := Option.bind_eq_some_iff.mp H
 obtain ⟨⟨t247, t248⟩, A280, H⟩ := H
 replace H : (if t248 = true then ((impl_RsOk.f kj21 t247 a1).bind fun t251 => (impl_RsMend.j4 kj21 l0 t247 (!t251))) else (impl_RsMend.j4 kj21 l0 t247 true)) = some (r1, r2, r3) := H
 have A28 := Aside0.mk A280
 clear A280
 have HC29 := Aside0.mk H
 clear H
 obtain ⟨Ao30, co30, eo30⟩ := Kd.R_slice HO_10.out
 subst eo30
 go_upto_region 26 with (first | (go_at_call 40; (with_reducible refine (impl_fill.calls kj21 _ _ l0 _ _ x10_2 a1 t247 t248 _ ?side1 ?side2 ?side3 ?side4 A28.out).mono ?_); (case side1 => exact zC (Kd.C_below HR0.out HB.out)); (case side2 => exact HC0.out); (case side3 => exact zC (Kd.R_reads' HO_10.out).2.2); (case side4 => exact (Kd.R_reads' HO_10.out).2.1); rintro e w31 ⟨v249, rfl, ho0, hb⟩; have n0_ := Aside0.mk (Kd.R_below (zR HO_10.out) hb); have n1_ := Aside0.mk (Kd.R_lower ho0 (below_size zB)); have n2_ := Aside0.mk (below_step zB hb); clear HO_10; clear HB; have HO_10 := n0_; have HO250 := n1_; have HB := n2_; clear n0_ n1_ n2_; (try clear hb); (try clear hb2); (try clear hk); (try clear hi); (try clear ho0)))
 repeat (go_quiet (first | (go_at_call 40; (with_reducible refine (impl_fill.calls kj21 _ _ l0 _ _ x10_2 a1 t247 t248 _ ?side1 ?side2 ?side3 ?side4 A28.out).mono ?_); (case side1 => exact zC (Kd.C_below HR0.out HB.out)); (case side2 => exact HC0.out); (case side3 => exact zC (Kd.R_reads' HO_10.out).2.2); (case side4 => exact (Kd.R_reads' HO_10.out).2.1); rintro e w31 ⟨v249, rfl, ho0, hb⟩; have n0_ := Aside0.mk (Kd.R_below (zR HO_10.out) hb); have n1_ := Aside0.mk (Kd.R_lower ho0 (below_size zB)); have n2_ := Aside0.mk (below_step zB hb); clear HO_10; clear HB; have HO_10 := n0_; have HO250 := n1_; have HB := n2_; clear n0_ n1_ n2_; (try clear hb); (try clear hb2); (try clear hk); (try clear hi); (try clear ho0))); go_upto_region 26 with (first | (go_at_call 40; (with_reducible refine (impl_fill.calls kj21 _ _ l0 _ _ x10_2 a1 t247 t248 _ ?side1 ?side2 ?side3 ?side4 A28.out).mono ?_); (case side1 => exact zC (Kd.C_below HR0.out HB.out)); (case side2 => exact HC0.out); (case side3 => exact zC (Kd.R_reads' HO_10.out).2.2); (case side4 => exact (Kd.R_reads' HO_10.out).2.1); rintro e w31 ⟨v249, rfl, ho0, hb⟩; have n0_ := Aside0.mk (Kd.R_below (zR HO_10.out) hb); have n1_ := Aside0.mk (Kd.R_lower ho0 (below_size zB)); have n2_ := Aside0.mk (below_step zB hb); clear HO_10; clear HB; have HO_10 := n0_; have HO250 := n1_; have HB := n2_; clear n0_ n1_ n2_; (try clear hb); (try clear hb2); (try clear hk); (try clear hi); (try clear ho0))))
 (try simp only [Act.put, List.setIfInBounds_toArray, List.set_cons_zero, List.set_cons_succ])
 go_cut [98] (fun v98 wc => ∃ (kq : Nat) (x98_28 : Bool), v98 = .bool x98_28 ∧ Aside0 (impl_RsMend.j4 kq l0 t247 x98_28 = some (r1, r2, r3)) ∧ Aside0 (kq ≤ kj21) ∧ Aside0 (Kd.R (Kd.int .u8) 5 wc w.heap.size (fun _ => True) v249 t247) ∧ Aside0 (Below w.heap.size w wc))
 case first =>
  have H := HC29.out
  clear HC29
  by_cases c32 : t248 = true
  rotate_left
  ·replace c32 := Bool.eq_false_iff.mpr c32
   subst c32
   have H1 : (impl_RsMend.j4 kj21 l0 t247 true) = some (r1, r2, r3) := by rw [if_neg (show ¬ (false = true) by decide)] at H; exact H
   clear H
   have H := H1
   clear H1
   have H' := Aside0.mk H
   clear H
   go_wp2
   repeat (go_quiet (fail); try go_wp2)
   go_meet
   case rel => exact ⟨_, (true), zO, H', ⟨by have := HK1.out; have := HK2.out; have := HJ21.out; first | omega | exact Nat.le_refl _⟩, ⟨zR HO250.out⟩, ⟨zB⟩⟩
  subst c32
  have H1 : ((impl_RsOk.f kj21 t247 a1).bind fun t251 => (impl_RsMend.j4 kj21 l0 t247 (!t251))) = some (r1, r2, r3) := by rw [if_pos rfl] at H; exact H
  clear H
  have H := H1
  clear H1
  replace H := zi H
  obtain ⟨t251, A33, H⟩ := H
  have H' := Aside0.mk H
  clear H
  obtain ⟨Ao34, co34, eo34⟩ := Kd.R_slice HO250.out
  subst eo34
  go_wp2_with (first | (go_at_call 12; (with_reducible refine (impl_RsOk.calls kj21 _ _ t247 a1 t251 _ ?side1 ?side2 A33.out).mono ?_); (case side1 => exact zC (Kd.R_reads' HO250.out).2.2); (case side2 => exact (Kd.R_reads' HO250.out).2.1); rintro e w' ⟨rfl, ⟨nd, rfl⟩⟩; (try exact zZ)))
  repeat (go_quiet (first | (go_at_call 12; (with_reducible refine (impl_RsOk.calls kj21 _ _ t247 a1 t251 _ ?side1 ?side2 A33.out).mono ?_); (case side1 => exact zC (Kd.R_reads' HO250.out).2.2); (case side2 => exact (Kd.R_reads' HO250.out).2.1); rintro e w' ⟨rfl, ⟨nd, rfl⟩⟩; (try exact zZ))); try go_wp2_with (first | (go_at_call 12; (with_reducible refine (impl_RsOk.calls kj21 _ _ t247 a1 t251 _ ?side1 ?side2 A33.out).mono ?_); (case side1 => exact zC (Kd.R_reads' HO250.out).2.2); (case side2 => exact (Kd.R_reads' HO250.out).2.1); rintro e w' ⟨rfl, ⟨nd, rfl⟩⟩; (try exact zZ))))
  go_meet
  case rel => exact ⟨_, (!t251), zO, H', ⟨by have := HK1.out; have := HK2.out; have := HJ21.out; first | omega | exact Nat.le_refl _⟩, ⟨zR HO250.out⟩, ⟨zB⟩⟩
 case rest =>
 clear HC29
 try clear c1
 try clear c2
 try clear p2
 try clear q2
 try clear hx2
 try clear c3
 try clear c4
 try clear c5
 try clear c5b0
 try clear p6
 try clear c7
 try clear c12
 try clear c12b0
 try clear c15
 try clear c15b0
 try clear c17
 try clear c17b0
 try clear c18
 try clear c18b0
 try clear c19
 try clear c19b0
 try clear c19b1
 try clear c20
 try clear c23
 try clear c23b0
 try clear p24
 try clear q24
 try clear hx24
 try clear c27
 try clear c32
 try clear hx243_0
 try clear p2
 try clear p24
 try clear p243
 try clear p6
 try clear q2
 try clear q24
 try clear q243
 obtain ⟨kq, x98_28, rfl, HA, HJ28, HO_15, HB⟩ := hcut
 cases kq with
 | zero => exact absurd HA.out (by simp [impl_RsMend.j4])
 | succ kj28 =>
 have H := HA.out
 clear HA
 simp only [impl_RsMend.j4] at H
 by_cases c35 : x98_28 = true
 ·subst c35
  have H1 : (some (([] : List Int), 0, false)) = some (r1, r2, r3) := by rw [if_pos rfl] at H; exact H
  clear H
  have H := H1
  clear H1
  simp only [Option.some.injEq, Prod.mk.injEq] at H
  obtain ⟨rfl, rfl, rfl⟩ := H
  go_wp2
  repeat (go_quiet (fail); try go_wp2)
  go_ret3
  exact ⟨_, zE, by first | exact Kd.R_nil _ _ _ _ _ | exact Kd.N_nil _ _ _ _ _ | exact Kd.V_nil _ _ _ _ _ | exact Kd.Q_nil _ _ _ _ _ | exact Kd.S_nil _ _ _ _ _, zB⟩
 replace c35 := Bool.eq_false_iff.mpr c35
 subst c35
 have H1 : (impl_RsMend.l3 kj28 l0 t247 0 (t247.length : Int) 0) = some (r1, r2, r3) := by rw [if_neg (show ¬ (false = true) by decide)] at H; exact H
 clear H
 have H := H1
 clear H1
 have H' := Aside0.mk H
 clear H
 obtain ⟨Ao36, co36, eo36⟩ := Kd.R_slice HO_15.out
 subst eo36
 go_wp2
 repeat (go_quiet (fail); try go_wp2)
 go_loopg [17, 101] kj28 (fun kq v17 v101 w' => ∃ (x17_5 : Int) (x101_5 : Int), v17 = .int .i64 x17_5 ∧ v101 = .int .i64 x101_5 ∧ Aside0 (impl_RsMend.l3 kq l0 t247 x17_5 (t247.length : Int) x101_5 = some (r1, r2, r3)) ∧ Aside0 (kq ≤ kj28) ∧ Aside0 (Kd.R (Kd.int .u8) 5 w' w.heap.size (fun _ => True) (.slice Ao36 t247.length co36) t247) ∧ Aside0 (Below w.heap.size w w'))
 case atStart => exact ⟨(0), (0), zO, zO, H', ⟨Nat.le_refl _⟩, ⟨zR HO_15.out⟩, ⟨zB⟩⟩
 case round =>
 clear H'
 try clear c1
 try clear c2
 try clear p2
 try clear q2
 try clear hx2
 try clear c3
 try clear c4
 try clear c5
 try clear c5b0
 try clear p6
 try clear c7
 try clear c12
 try clear c12b0
 try clear c15
 try clear c15b0
 try clear c17
 try clear c17b0
 try clear c18
 try clear c18b0
 try clear c19
 try clear c19b0
 try clear c19b1
 try clear c20
 try clear c23
 try clear c23b0
 try clear p24
 try clear q24
 try clear hx24
 try clear c27
 try clear c32
 try clear c35
 try clear hx243_0
 try clear p2
 try clear p24
 try clear p243
 try clear p6
 try clear q2
 try clear q24
 try clear q243
 obtain ⟨x17_5, x101_5, rfl, rfl, HA, HK5, HO_15, HB⟩ := hrel
 cases gk with
 | zero => exact absurd HA.out (by simp [impl_RsMend.l3])
 | succ k5 =>
 have H := HA.out
 clear HA
 simp only [impl_RsMend.l3] at H
 by_cases c37 : x101_5 < (t247.length : Int)
 rotate_left
 ·rw [if_neg c37] at H
  have c37b0 := decide_eq_false c37
  clear c37
  simp only [Option.some.injEq, Prod.mk.injEq] at H
  obtain ⟨rfl, rfl, rfl⟩ := H
  go_wp2
  repeat (go_quiet (fail); try go_wp2)
  go_ret3
  exact ⟨_, zE, zR HO_15.out, zB⟩
 rw [if_pos c37] at H
 have c37b0 := decide_eq_true c37
 clear c37
 replace H := zg H
 obtain ⟨c38, H⟩ := H
 have c38b0 : decide (0 ≤ x101_5) = true := decide_eq_true c38
 clear c38
 replace H := zg H
 obtain ⟨c39, H⟩ := H
 have c39b0 : decide (x101_5 < (t247.length : Int)) = true := decide_eq_true c39
 clear c39
 replace H := zg H
 obtain ⟨c40, H⟩ := H
 have c40b0 : decide (x101_5 < (l0.length : Int)) = true := decide_eq_true c40
 clear c40
 by_cases c41 : (rd t247 x101_5) = (rd l0 x101_5)
 rotate_left
 ·rw [if_neg c41] at H
  have c41b0 : ((rd t247 x101_5) == (rd l0 x101_5)) = false := beq_eq_false_iff_ne.mpr c41
  have c41b1 : ((rd t247 x101_5) != (rd l0 x101_5)) = true := bne_iff_ne.mpr c41
  have H' := Aside0.mk H
  clear H
  have p252 : 0 ≤ (x101_5 : Int) := zD
  have q252 : x101_5 < (t247.length : Int) := zD
  obtain ⟨ad252, e252, hx252_0⟩ := Kd.at_int (Kd.R_reads' HO_15.out).2.2 x101_5 p252 q252
  cases e252
  replace p252 := eq_true p252
  replace q252 := eq_true q252
  have p253 : 0 ≤ (x101_5 : Int) := zD
  have q253 : x101_5 < (l0.length : Int) := zD
  obtain ⟨ad253, e253, hx253_0⟩ := Kd.at_int HR0.out x101_5 p253 q253
  cases e253
  replace hx253_0 := (HB.out.cell (World.block_lt_of_cell? w _ hx253_0)).trans hx253_0
  replace p253 := eq_true p253
  replace q253 := eq_true q253
  go_wp2
  repeat (go_quiet (fail); try go_wp2)
  go_roundg k5
  case measure => have := HK1.out; have := HK2.out; have := HJ21.out; have := HJ28.out; have := HK5.out; omega
  case rel => exact ⟨(wrap64 (x17_5 + 1)), (wrap64 (x101_5 + 1)), zO, zO, H', ⟨by have := HK1.out; have := HK2.out; have := HJ21.out; have := HJ28.out; have := HK5.out; omega⟩, ⟨zR HO_15.out⟩, ⟨zB⟩⟩
 rw [if_pos c41] at H
 have c41b0 : ((rd t247 x101_5) == (rd l0 x101_5)) = true := beq_iff_eq.mpr c41
 have c41b1 : ((rd t247 x101_5) != (rd l0 x101_5)) = false := bne_eq_false_iff_eq.mpr c41
 clear c41
 have H' := Aside0.mk H
 clear H
 have p252 : 0 ≤ (x101_5 : Int) := zD
 have q252 : x101_5 < (t247.length : Int) := zD
 obtain ⟨ad252, e252, hx252_0⟩ := Kd.at_int (Kd.R_reads' HO_15.out).2.2 x101_5 p252 q252
 cases e252
 replace p252 := eq_true p252
 replace q252 := eq_true q252
 have p253 : 0 ≤ (x101_5 : Int) := zD
 have q253 : x101_5 < (l0.length : Int) := zD
 obtain ⟨ad253, e253, hx253_0⟩ := Kd.at_int HR0.out x101_5 p253 q253
 cases e253
 replace hx253_0 := (HB.out.cell (World.block_lt_of_cell? w _ hx253_0)).trans hx253_0
 replace p253 := eq_true p253
 replace q253 := eq_true q253
 go_wp2
 repeat (go_quiet (fail); try go_wp2)
 go_roundg k5
 case measure => have := HK1.out; have := HK2.out; have := HJ21.out; have := HJ28.out; have := HK5.out; omega
 case rel => exact ⟨(x17_5), (wrap64 (x101_5 + 1)), zO, zO, H', ⟨by have := HK1.out; have := HK2.out; have := HJ21.out; have := HJ28.out; have := HK5.out; omega⟩, ⟨zR HO_15.out⟩, ⟨zB⟩⟩

/-! ### spec_l1In: function 45 -/
def spec_l1In.f (a0 : Int) (a1 : Int) (a2 : Int) : Option (Bool) := if a0 ≥ a1 then (some (decide (a0 ≤ a2))) else (some false)
set_option maxHeartbeats 8000000 in
set_option maxRecDepth 100000 in
theorem spec_l1In.calls (a0 : Int) (a1 : Int) (a2 : Int) (r : Bool) (w : World) (h : spec_l1In.f a0 a1 a2 = some r) :
  Calls Try.prog 45 #[.int .i64 a0, .int .i64 a1, .int .i64 a2] w fun e w' => e = .returned (.bool r) ∧ Drawn0 w w' := by
 have H : (if a0 ≥ a1 then (some (decide (a0 ≤ a2))) else (some false)) = some r := h
 clear h
 by_cases c4 : a0 ≥ a1
 ·rw [if_pos c4] at H
  have c4b0 : decide (a1 ≤ a0) = true := decide_eq_true c4
  clear c4
  obtain rfl := Option.some.inj H
  go_enter Try.func45, Try.ntmps45
  go_wp2
  go_ret
  exact ⟨zO, zW⟩
 rw [if_neg c4] at H
 have c4b0 : decide (a1 ≤ a0) = false := decide_eq_false c4
 clear c4
 obtain rfl := Option.some.inj H
 go_enter Try.func45, Try.ntmps45
 go_wp2
 go_ret
 exact ⟨zO, zW⟩

/-! ### spec_l14Mend: function 44 -/
def spec_l14Mend.f (a0 : Int) : Option (Bool) := (spec_l1In.f a0 1 8).bind fun t254 => (some t254)
set_option maxHeartbeats 8000000 in
set_option maxRecDepth 100000 in
theorem spec_l14Mend.calls (a0 : Int) (r : Bool) (w : World) (h : spec_l14Mend.f a0 = some r) :
  Calls Try.prog 44 #[.int .i64 a0] w fun e w' => e = .returned (.bool r) ∧ Drawn0 w w' := by
 have H : ((spec_l1In.f a0 1 8).bind fun t254 => (some t254)) = some r := h
 clear h
 replace H := zi H
 obtain ⟨t254, A2, H⟩ := H
 obtain rfl := Option.some.inj H
 go_enter Try.func44, Try.ntmps44
 go_wp2_with (first | ((with_reducible refine gate_callee (f := 45) rfl ?_); refine goesL_ (some 4) rfl rfl Try.func45 (by kernel_rfl) rfl #[.int .i64 a0, .int .i64 1, .int .i64 8] rfl zL ?_; (with_reducible refine (spec_l1In.calls a0 1 8 t254 _ A2.out).mono ?_); rintro e w' ⟨rfl, ⟨nd, rfl⟩⟩; refine ⟨_, rfl, ?_⟩))
 go_ret
 exact ⟨zO, zW⟩

end Go.Proofs.Ytdcjfcfiflpblaa.PFnNearestWord
