/- The functions that FnNearestWord reaches, each with its walk; written by a program (own.py). -/
import Derived.Test.YtdcjfcfiflpblaaSh
import Derived.Test.YtdcjfcfiflpblaaQFnNearestWordx0
import Derived.Test.YtdcjfcfiflpblaaQFnNearestWordx1
import Derived.Test.YtdcjfcfiflpblaaQFnNearestWordx3
namespace Go.Proofs.Ytdcjfcfiflpblaa.PFnNearestWord
open Go.RowKit Go.Proofs.YtdcjfcfiflpblaaW.PrintWords Go.Proofs.YtdcjfcfiflpblaaW.PrintLast Go.Proofs.YtdcjfcfiflpblaaW.PrintMore
attribute [local go_sem] max2_int min2_int max_two min_two max_three min_three max_four min_four   -- for this text's walks alone
set_option linter.unusedVariables false
set_option linter.unusedSimpArgs false

/-! ### impl_locator: function 39 -/
mutual
def impl_locator.l0 : Nat → List Int → List Int → List Int → Int → Int → Int → Int → Int → Option (List Int)
  | 0, _, _, _, _, _, _, _, _ => none
  | k + 1, x0, x3, x4, x5, x6, x7, x18, x19 => if x19 < x18 then (if 0 ≤ x19 then (if x19 < (x0.length : Int) then (impl_locator.l1 k x0 x3 x4 x5 x6 x7 x19 (rd x0 x19) 1 x18 x19) else (none)) else (none)) else (impl_locator.l4 k x3)
def impl_locator.j2 : Nat → List Int → List Int → List Int → Int → Int → Int → Int → Int → Int → Int → Option (List Int)
  | 0, _, _, _, _, _, _, _, _, _, _ => none
  | k + 1, x0, x3, x4, x5, x6, x7, x8, x9, x18, x19 => if x9 = 0 then (impl_locator.l0 k x0 x3 x4 x5 (wrap64 (x6 + 1)) x7 x18 (wrap64 (x19 + 1))) else ((slices_Clone_int_int.f x3).bind fun t158 => ((impl_GfInv.f k x7).bind fun t161 => ((impl_GfMul.f k x9 t161).bind fun t162 => (impl_locator.l2 k x0 x3 x4 x5 x6 x7 x8 x9 t158 t162 x18 x19))))
def impl_locator.l2 : Nat → List Int → List Int → List Int → Int → Int → Int → Int → Int → List Int → Int → Int → Int → Option (List Int)
  | 0, _, _, _, _, _, _, _, _, _, _, _, _ => none
  | k + 1, x0, x3, x4, x5, x6, x7, x8, x9, x11, x12, x18, x19 => if (x3.length : Int) < (wrap64 ((x4.length : Int) + x6)) then (if x3.length < 17592186044416 then (impl_locator.l2 k x0 (x3 ++ [0]) x4 x5 x6 x7 x8 x9 x11 x12 x18 x19) else (none)) else (impl_locator.l3 k x0 x3 x4 x5 x6 x7 x8 x9 x11 x12 x18 x19 x4 (x4.length : Int) 0)
def impl_locator.l3 : Nat → List Int → List Int → List Int → Int → Int → Int → Int → Int → List Int → Int → Int → Int → List Int → Int → Int → Option (List Int)
  | 0, _, _, _, _, _, _, _, _, _, _, _, _, _, _, _ => none
  | k + 1, x0, x3, x4, x5, x6, x7, x8, x9, x11, x12, x18, x19, x70, x71, x72 => if x72 < x71 then (if 0 ≤ x72 then (if x72 < (x70.length : Int) then (if 0 ≤ (wrap64 (x72 + x6)) then (if (wrap64 (x72 + x6)) < (x3.length : Int) then ((impl_GfMul.f k x12 (rd x70 x72)).bind fun t168 => (impl_locator.l3 k x0 (x3.set ((wrap64 (x72 + x6)) : Int).toNat (Go.bits .xor .i64 (rd x3 (wrap64 (x72 + x6))) t168)) x4 x5 x6 x7 x8 x9 x11 x12 x18 x19 x70 x71 (wrap64 (x72 + 1)))) else (none)) else (none)) else (none)) else (none)) else (if (wrap64 (2 * x5)) ≤ x8 then (impl_locator.l0 k x0 x3 x11 (wrap64 ((wrap64 (x8 + 1)) - x5)) 1 x9 x18 (wrap64 (x19 + 1))) else (impl_locator.l0 k x0 x3 x4 x5 (wrap64 (x6 + 1)) x7 x18 (wrap64 (x19 + 1))))
def impl_locator.l1 : Nat → List Int → List Int → List Int → Int → Int → Int → Int → Int → Int → Int → Int → Option (List Int)
  | 0, _, _, _, _, _, _, _, _, _, _, _ => none
  | k + 1, x0, x3, x4, x5, x6, x7, x8, x9, x10, x18, x19 => if x10 ≤ x5 then (if x10 < (x3.length : Int) then (if 0 ≤ x10 then (if 0 ≤ (wrap64 (x8 - x10)) then (if (wrap64 (x8 - x10)) < (x0.length : Int) then ((impl_GfMul.f k (rd x3 x10) (rd x0 (wrap64 (x8 - x10)))).bind fun t157 => (impl_locator.l1 k x0 x3 x4 x5 x6 x7 x8 (Go.bits .xor .i64 x9 t157) (wrap64 (x10 + 1)) x18 x19)) else (none)) else (none)) else (none)) else (impl_locator.j2 k x0 x3 x4 x5 x6 x7 x8 x9 x18 x19)) else (impl_locator.j2 k x0 x3 x4 x5 x6 x7 x8 x9 x18 x19)
def impl_locator.l4 : Nat → List Int → Option (List Int)
  | 0, _ => none
  | k + 1, x3 => if (x3.length : Int) > 0 then (if 0 ≤ (wrap64 ((x3.length : Int) - 1)) then (if (wrap64 ((x3.length : Int) - 1)) < (x3.length : Int) then (if (rd x3 (wrap64 ((x3.length : Int) - 1))) = 0 then (if (wrap64 ((x3.length : Int) - 1)) ≤ (x3.length : Int) then (impl_locator.l4 k (x3.take ((wrap64 ((x3.length : Int) - 1)) : Int).toNat)) else (none)) else (some x3)) else (none)) else (none)) else (some x3)
end
def impl_locator.f (k : Nat) (l0 : List Int) : Option (List Int) := impl_locator.l0 k l0 (([1] : List Int)) (([1] : List Int)) 0 1 1 (l0.length : Int) 0
theorem impl_locator.mono_l : ∀ k, (∀ y0 y1 y2 y3 y4 y5 y6 y7, LeO (impl_locator.l0 k y0 y1 y2 y3 y4 y5 y6 y7) (impl_locator.l0 (k + 1) y0 y1 y2 y3 y4 y5 y6 y7)) ∧ (∀ y0 y1 y2 y3 y4 y5 y6 y7 y8 y9, LeO (impl_locator.j2 k y0 y1 y2 y3 y4 y5 y6 y7 y8 y9) (impl_locator.j2 (k + 1) y0 y1 y2 y3 y4 y5 y6 y7 y8 y9)) ∧ (∀ y0 y1 y2 y3 y4 y5 y6 y7 y8 y9 y10 y11, LeO (impl_locator.l2 k y0 y1 y2 y3 y4 y5 y6 y7 y8 y9 y10 y11) (impl_locator.l2 (k + 1) y0 y1 y2 y3 y4 y5 y6 y7 y8 y9 y10 y11)) ∧ (∀ y0 y1 y2 y3 y4 y5 y6 y7 y8 y9 y10 y11 y12 y13 y14, LeO (impl_locator.l3 k y0 y1 y2 y3 y4 y5 y6 y7 y8 y9 y10 y11 y12 y13 y14) (impl_locator.l3 (k + 1) y0 y1 y2 y3 y4 y5 y6 y7 y8 y9 y10 y11 y12 y13 y14)) ∧ (∀ y0 y1 y2 y3 y4 y5 y6 y7 y8 y9 y10, LeO (impl_locator.l1 k y0 y1 y2 y3 y4 y5 y6 y7 y8 y9 y10) (impl_locator.l1 (k + 1) y0 y1 y2 y3 y4 y5 y6 y7 y8 y9 y10)) ∧ (∀ y0, LeO (impl_locator.l4 k y0) (impl_locator.l4 (k + 1) y0))
  | 0 => ⟨fun _ _ _ _ _ _ _ _ r h => by simp [impl_locator.l0] at h, fun _ _ _ _ _ _ _ _ _ _ r h => by simp [impl_locator.j2] at h, fun _ _ _ _ _ _ _ _ _ _ _ _ r h => by simp [impl_locator.l2] at h, fun _ _ _ _ _ _ _ _ _ _ _ _ _ _ _ r h => by simp [impl_locator.l3] at h, fun _ _ _ _ _ _ _ _ _ _ _ r h => by simp [impl_locator.l1] at h, fun _ r h => by simp [impl_locator.l4] at h⟩
  | k + 1 => by
    obtain ⟨ih0, ih1, ih2, ih3, ih4, ih5⟩ := impl_locator.mono_l k
    refine ⟨?_, ?_, ?_, ?_, ?_, ?_⟩ <;> intros
    all_goals first | unfold impl_locator.l0 | unfold impl_locator.j2 | unfold impl_locator.l2 | unfold impl_locator.l3 | unfold impl_locator.l1 | unfold impl_locator.l4
    all_goals repeat' first
    | (with_reducible exact ih0 _ _ _ _ _ _ _ _)
    | (with_reducible exact ih1 _ _ _ _ _ _ _ _ _ _)
    | (with_reducible exact ih2 _ _ _ _ _ _ _ _ _ _ _ _)
    | (with_reducible exact ih3 _ _ _ _ _ _ _ _ _ _ _ _ _ _ _)
    | (with_reducible exact ih4 _ _ _ _ _ _ _ _ _ _ _)
    | (with_reducible exact ih5 _)
    | (with_reducible exact impl_GfInv.mono _ _)
    | (with_reducible exact impl_GfMul.mono _ _ _)
    | (with_reducible exact LeO.refl _)
    | (with_reducible exact LeO.none _)
    | (with_reducible refine LeO.ite ?_ ?_)
    | (with_reducible refine LeO.bind ?_ (fun _ => ?_))
    | exact ih0 _ _ _ _ _ _ _ _
    | exact ih1 _ _ _ _ _ _ _ _ _ _
    | exact ih2 _ _ _ _ _ _ _ _ _ _ _ _
    | exact ih3 _ _ _ _ _ _ _ _ _ _ _ _ _ _ _
    | exact ih4 _ _ _ _ _ _ _ _ _ _ _
    | exact ih5 _
    | exact impl_GfInv.mono _ _
    | exact impl_GfMul.mono _ _ _
    | exact LeO.none _
    | refine LeO.ite ?_ ?_
    | refine LeO.bind ?_ (fun _ => ?_)
theorem impl_locator.mono : ∀ a0 k, LeO (impl_locator.f k a0) (impl_locator.f (k + 1) a0) := by
  intro a0 k
  obtain ⟨ih0, ih1, ih2, ih3, ih4, ih5⟩ := impl_locator.mono_l k
  unfold impl_locator.f
  repeat' first
      | (with_reducible exact ih0 _ _ _ _ _ _ _ _)
      | (with_reducible exact ih1 _ _ _ _ _ _ _ _ _ _)
      | (with_reducible exact ih2 _ _ _ _ _ _ _ _ _ _ _ _)
      | (with_reducible exact ih3 _ _ _ _ _ _ _ _ _ _ _ _ _ _ _)
      | (with_reducible exact ih4 _ _ _ _ _ _ _ _ _ _ _)
      | (with_reducible exact ih5 _)
      | (with_reducible exact impl_GfInv.mono _ _)
      | (with_reducible exact impl_GfMul.mono _ _ _)
      | (with_reducible exact LeO.refl _)
      | (with_reducible exact LeO.none _)
      | (with_reducible refine LeO.ite ?_ ?_)
      | (with_reducible refine LeO.bind ?_ (fun _ => ?_))
      | exact ih0 _ _ _ _ _ _ _ _
      | exact ih1 _ _ _ _ _ _ _ _ _ _
      | exact ih2 _ _ _ _ _ _ _ _ _ _ _ _
      | exact ih3 _ _ _ _ _ _ _ _ _ _ _ _ _ _ _
      | exact ih4 _ _ _ _ _ _ _ _ _ _ _
      | exact ih5 _
      | exact impl_GfInv.mono _ _
      | exact impl_GfMul.mono _ _ _
      | exact LeO.none _
      | refine LeO.ite ?_ ?_
      | refine LeO.bind ?_ (fun _ => ?_)
def impl_locator.T10 : Bool × List (List Nat × List Nat) := (true, [([], []), ([], []), ([], []), ([1, 2], [1, 2]), ([3], [3]), ([], []), ([], []), ([], []), ([6, 7], [6, 7]), ([5, 8], [5, 8]), ([9], [9]), ([4, 10], [4, 10]), ([0, 11], [0, 11]), ([12, 11, 0, 1, 2, 3, 4, 5, 6, 7, 8, 9, 10, 11, 12], [0, 12])])
def impl_locator.B10 : List Nat := [0, 0, 0, 6, 14, 0, 0, 0, 192, 480, 992, 2046, 4095, 8191]
theorem impl_locator.tab10 : rtab .any (opsOf Try.f39 10) = impl_locator.T10 := by kernel_rfl
theorem impl_locator.bits10 : waitsOk impl_locator.T10.2 impl_locator.B10 = true := by kernel_rfl
def impl_locator.T20 : Bool × List (List Nat × List Nat) := (true, [([], []), ([], []), ([], []), ([1, 2], [1, 2]), ([0, 3], [0, 3]), ([4], [4]), ([], []), ([], []), ([6, 7], [6, 7]), ([5, 8], [5, 8]), ([0, 3, 0, 1, 2, 3, 4, 5, 6, 7, 8, 9], [0, 3]), ([10, 9, 8, 0, 1, 2, 3, 4, 5, 6, 7, 8, 9], [9, 10])])
def impl_locator.B20 : List Nat := [0, 0, 0, 6, 15, 31, 0, 0, 192, 511, 1023, 2047]
theorem impl_locator.tab20 : rtab .any (opsOf Try.f39 20) = impl_locator.T20 := by kernel_rfl
theorem impl_locator.bits20 : waitsOk impl_locator.T20.2 impl_locator.B20 = true := by kernel_rfl
abbrev impl_locator.mk_0 : Array Bool := #[false, false, false, false, false, false, false, false, false, false, false, false, false, false]
abbrev impl_locator.mk_1 : Array Bool := #[true, false, false, false, false, false, false, false, false, false, false, false, false, false]
abbrev impl_locator.mk_2 : Array Bool := #[true, true, false, false, false, false, false, false, false, false, false, false, false, false]
abbrev impl_locator.mk_3 : Array Bool := #[true, true, true, false, false, false, false, false, false, false, false, false, false, false]
abbrev impl_locator.mk_4 : Array Bool := #[true, true, true, true, false, false, false, false, false, false, false, false, false, false]
abbrev impl_locator.mk_5 : Array Bool := #[true, true, true, true, false, true, false, false, false, false, false, false, false, false]
abbrev impl_locator.mk_6 : Array Bool := #[true, true, true, true, false, true, true, false, false, false, false, false, false, false]
abbrev impl_locator.mk_7 : Array Bool := #[true, true, true, true, false, true, true, true, false, false, false, false, false, false]
abbrev impl_locator.mk_8 : Array Bool := #[true, true, true, true, false, true, true, true, true, false, false, false, false, false]
abbrev impl_locator.mk_9 : Array Bool := #[true, true, true, true, false, true, true, true, true, true, false, false, false, false]
abbrev impl_locator.mk_10 : Array Bool := #[true, true, true, true, true, true, true, true, true, true, false, false, false, false]
abbrev impl_locator.mk_11 : Array Bool := #[true, true, true, true, true, true, true, true, true, true, true, false, false, false]
abbrev impl_locator.mk_12 : Array Bool := #[true, true, true, true, true, true, true, true, true, true, true, true, false, false]
abbrev impl_locator.mk_13 : Array Bool := #[true, true, true, true, true, true, true, true, true, true, true, true, true, false]
abbrev impl_locator.mk_14 : Array Bool := #[true, true, true, true, true, true, true, true, true, true, true, true, true, true]
abbrev impl_locator.mk_15 : Array Bool := #[false, false, false, false, false, false, false, false, false, false, false, false]
abbrev impl_locator.mk_16 : Array Bool := #[true, false, false, false, false, false, false, false, false, false, false, false]
abbrev impl_locator.mk_17 : Array Bool := #[true, true, false, false, false, false, false, false, false, false, false, false]
abbrev impl_locator.mk_18 : Array Bool := #[true, true, true, false, false, false, false, false, false, false, false, false]
abbrev impl_locator.mk_19 : Array Bool := #[true, true, true, true, false, false, false, false, false, false, false, false]
abbrev impl_locator.mk_20 : Array Bool := #[true, true, true, true, true, false, false, false, false, false, false, false]
abbrev impl_locator.mk_21 : Array Bool := #[true, true, true, true, true, false, true, false, false, false, false, false]
abbrev impl_locator.mk_22 : Array Bool := #[true, true, true, true, true, false, true, true, false, false, false, false]
abbrev impl_locator.mk_23 : Array Bool := #[true, true, true, true, true, true, true, true, false, false, false, false]
abbrev impl_locator.mk_24 : Array Bool := #[true, true, true, true, true, true, true, true, true, false, false, false]
abbrev impl_locator.mk_25 : Array Bool := #[true, true, true, true, true, true, true, true, true, true, false, false]
abbrev impl_locator.mk_26 : Array Bool := #[true, true, true, true, true, true, true, true, true, true, true, false]
abbrev impl_locator.mk_27 : Array Bool := #[true, true, true, true, true, true, true, true, true, true, true, true]
set_option maxHeartbeats 8000000 in
set_option maxRecDepth 100000 in
theorem impl_locator.calls (k : Nat) (A0 : Option Addr) (c0 : Nat) (l0 : List Int) (r : List Int) (w : World) (hr0 : Kd.C (Kd.int .i64) w A0 l0.length l0) (hc0 : l0.length ≤ c0) (h : impl_locator.f k l0 = some r) :
  Calls Try.prog 39 #[.slice A0 l0.length c0] w fun e w' => ∃ v0_ : Value, e = .returned (v0_) ∧ Kd.R (Kd.int .i64) 3 w' w.heap.size (fun _ => True) v0_ r ∧ Below w.heap.size w w' := by
 have HR0 := Aside0.mk hr0
 have HC0 := Aside0.mk hc0
 clear hr0 hc0
 have HB := Aside0.mk (Below.refl w.heap.size w)
 have H : (impl_locator.l0 k l0 (([1] : List Int)) (([1] : List Int)) 0 1 1 (l0.length : Int) 0) = some r := h
 clear h
 obtain ⟨y148, hy148⟩ : ∃ y_ : List Int, y_ = (([1] : List Int)) := ⟨_, rfl⟩
 replace H : (impl_locator.l0 k l0 y148 (([1] : List Int)) 0 1 1 (l0.length : Int) 0) = some r := by first | (rw [hy148]; with_reducible exact H) | (have H2_ := (Option.bind_some _ _).symm.trans H; rw [hy148]; with_reducible exact H2_) | (have H2_ := (Option.bind_some _ _).symm.trans H; with_reducible exact H2_) | with_reducible exact H | (rw [hy148]; exact H) | exact H
 have Ny148 := Aside0.mk hy148
 clear hy148
 obtain ⟨y151, hy151⟩ : ∃ y_ : List Int, y_ = (([1] : List Int)) := ⟨_, rfl⟩
 replace H : (impl_locator.l0 k l0 y148 y151 0 1 1 (l0.length : Int) 0) = some r := by first | (rw [hy151]; with_reducible exact H) | (have H2_ := (Option.bind_some _ _).symm.trans H; rw [hy151]; with_reducible exact H2_) | (have H2_ := (Option.bind_some _ _).symm.trans H; with_reducible exact H2_) | with_reducible exact H | (rw [hy151]; exact H) | exact H
 have Ny151 := Aside0.mk hy151
 clear hy151
 have H' := Aside0.mk H
 clear H
 go_enter Try.func39, Try.ntmps39
 go_wp2_with (first | ((with_reducible refine gate_dst (N := 15) rfl ?_); (try (refine gate_guard (by rfl) ?_; dsimp only)); refine Kd.R_lit (Kd.int .i64) _ 3 ?hg (N := 15) ?hd (xs := ([1] : List Int)) (inner := [.int .i64 1]) (ok := fun _ => True) (okp := fun _ => True) ?hr ?hp (fun _ hk => hk) trivial (Below.refl _ _) (Nat.le_refl _) (by simp) ?_; (case hd => rfl); (case hg => rfl); (case hr => first | (go_simp; done) | (go_simp; rfl)); (case hp => exact (Reps.one (show Kd.M (Kd.int .i64) _ _ _ 1 [.int .i64 1] from rfl) (Reps.none _ _))); intro v149 w2 ho3 hb hg_ hnew_; clear hg_ hnew_; (first | rw [← Ny148.out] at ho3 | (simp only [Int.reduceToNat] at ho3; rw [← Ny148.out] at ho3)); have n0_ := Aside0.mk (Kd.R_lower ho3 (below_size zB)); have n1_ := Aside0.mk (below_step zB hb); clear HB; have HO150 := n0_; have HB := n1_; clear n0_ n1_; clear hb ho3) | ((with_reducible refine gate_dst (N := 16) rfl ?_); (try (refine gate_guard (by rfl) ?_; dsimp only)); refine Kd.R_lit (Kd.int .i64) _ 3 ?hg (N := 16) ?hd (xs := ([1] : List Int)) (inner := [.int .i64 1]) (ok := fun _ => True) (okp := fun _ => True) ?hr ?hp (fun _ hk => hk) trivial (Below.refl _ _) (Nat.le_refl _) (by simp) ?_; (case hd => rfl); (case hg => rfl); (case hr => first | (go_simp; done) | (go_simp; rfl)); (case hp => exact (Reps.one (show Kd.M (Kd.int .i64) _ _ _ 1 [.int .i64 1] from rfl) (Reps.none _ _))); intro v152 w4 ho5 hb hg_ hnew_; clear hg_ hnew_; (first | rw [← Ny151.out] at ho5 | (simp only [Int.reduceToNat] at ho5; rw [← Ny151.out] at ho5)); have n0_ := Aside0.mk (Kd.R_elder' (zR HO150.out) (Kd.R_base ho5) hb); have n1_ := Aside0.mk (Kd.R_lower (Kd.R_new' ho5 (Kd.R_lt (zR HO150.out))) (below_size zB)); have n2_ := Aside0.mk (below_step zB hb); clear HO150; clear HB; have HO150 := n0_; have HO153 := n1_; have HB := n2_; clear n0_ n1_ n2_; clear hb ho5))
 go_loopg [3, 4, 5, 6, 7, 19] k (fun kq v3 v4 v5 v6 v7 v19 w' => ∃ (x3_1 : List Int) (x4_1 : List Int) (x5_1 : Int) (x6_1 : Int) (x7_1 : Int) (x19_1 : Int), v5 = .int .i64 x5_1 ∧ v6 = .int .i64 x6_1 ∧ v7 = .int .i64 x7_1 ∧ v19 = .int .i64 x19_1 ∧ Aside0 (impl_locator.l0 kq l0 x3_1 x4_1 x5_1 x6_1 x7_1 (l0.length : Int) x19_1 = some r) ∧ Aside0 (kq ≤ k) ∧ Aside0 (Kd.R (Kd.int .i64) 3 w' w.heap.size (fun k_ => some k_ ≠ (v4 : Value).ownBlock) v3 x3_1) ∧ Aside0 (Kd.R (Kd.int .i64) 3 w' w.heap.size (fun k_ => some k_ ≠ (v3 : Value).ownBlock) v4 x4_1) ∧ Aside0 (Below w.heap.size w w'))
 case atStart => exact ⟨(y148), (y151), (0), (1), (1), (0), zO, zO, zO, zO, H', ⟨Nat.le_refl _⟩, ⟨by (with_reducible repeat (first | apply Kd.R_alloc | apply Kd.R_drewN | apply Kd.R_drew)); exact Kd.R_mono HO150.out (fun _ hk => hk.2)⟩, ⟨by (with_reducible repeat (first | apply Kd.R_alloc | apply Kd.R_drewN | apply Kd.R_drew)); exact Kd.R_mono HO153.out (fun _ hk => hk.2)⟩, ⟨zB⟩⟩
 case round =>
 clear H'
 try clear p2
 try clear c3
 obtain ⟨x3_1, x4_1, x5_1, x6_1, x7_1, x19_1, rfl, rfl, rfl, rfl, HA, HK1, HO_3, HO_4, HB⟩ := hrel
 cases gk with
 | zero => exact absurd HA.out (by simp [impl_locator.l0])
 | succ k1 =>
 have H := HA.out
 clear HA
 simp only [impl_locator.l0] at H
 by_cases c6 : x19_1 < (l0.length : Int)
 rotate_left
 ·rw [if_neg c6] at H
  have c6b0 := decide_eq_false c6
  clear c6
  have H' := Aside0.mk H
  clear H
  go_wp2
  go_loopg [3] k1 (fun kq v3 w' => ∃ (x3_2 : List Int), Aside0 (impl_locator.l4 kq x3_2 = some r) ∧ Aside0 (kq ≤ k1) ∧ Aside0 (Kd.R (Kd.int .i64) 3 w' w.heap.size (fun _ => True) v3 x3_2) ∧ Aside0 (Below w.heap.size w w'))
  case atStart => exact ⟨(x3_1), H', ⟨Nat.le_refl _⟩, ⟨by (with_reducible repeat (first | apply Kd.R_alloc | apply Kd.R_drewN | apply Kd.R_drew)); exact Kd.R_mono HO_3.out (fun _ hk => trivial)⟩, ⟨zB⟩⟩
  case round =>
  clear H'
  try clear c1
  try clear p1
  try clear q1
  try clear hx1
  try clear c2
  try clear p2
  try clear c3
  try clear c4
  try clear p4
  try clear q4
  try clear hx4
  try clear hf4
  try clear c5
  try clear c6
  try clear c6b0
  try clear p6
  try clear c7
  try clear c7b0
  try clear c8
  try clear c8b0
  try clear c10
  try clear c10b0
  try clear c11
  try clear c11b0
  try clear c12
  try clear c12b0
  try clear c14
  try clear c14b0
  try clear c15
  try clear c15b0
  try clear p15
  try clear q15
  try clear hx15
  try clear p16
  try clear q16
  try clear hx16
  try clear c20
  try clear c20b0
  try clear c20b1
  try clear c26
  try clear c26b0
  try clear c27
  try clear c33
  try clear c33b0
  try clear c34
  try clear c34b0
  try clear c35
  try clear c35b0
  try clear c37
  try clear c37b0
  try clear c38
  try clear c38b0
  try clear p40
  try clear q40
  try clear hx40
  try clear hf40
  try clear c43
  try clear c43b0
  try clear hx154_0
  try clear hx155_0
  try clear hx156_0
  try clear hx166_0
  try clear hx167_0
  try clear hx40_0
  try clear p1
  try clear p15
  try clear p154
  try clear p155
  try clear p156
  try clear p166
  try clear p167
  try clear p2
  try clear p40
  try clear p6
  try clear q1
  try clear q15
  try clear q154
  try clear q155
  try clear q156
  try clear q166
  try clear q167
  try clear q40
  obtain ⟨x3_2, HA, HK2, HO_3, HB⟩ := hrel
  cases gk with
  | zero => exact absurd HA.out (by simp [impl_locator.l4])
  | succ k2 =>
  have H := HA.out
  clear HA
  simp only [impl_locator.l4] at H
  by_cases c44 : (x3_2.length : Int) > 0
  rotate_left
  ·rw [if_neg c44] at H
   have c44b0 : decide (0 < (x3_2.length : Int)) = false := decide_eq_false c44
   have c44b1 : decide (0 < x3_2.length) = false := decide_eq_false (by omega)
   clear c44
   obtain rfl := Option.some.inj H
   obtain ⟨Ao53, co53, eo53⟩ := Kd.R_slice HO_3.out
   subst eo53
   go_wp2
   go_ret
   exact ⟨_, zE, zR HO_3.out, zB⟩
  rw [if_pos c44] at H
  have c44b0 : decide (0 < (x3_2.length : Int)) = true := decide_eq_true c44
  have c44b1 : decide (0 < x3_2.length) = true := decide_eq_true (by omega)
  clear c44
  obtain ⟨ji45, hji45⟩ : ∃ j_ : Int, (wrap64 ((x3_2.length : Int) - 1)) = j_ := ⟨_, rfl⟩
  replace H : (if 0 ≤ (ji45) then (if (ji45) < (x3_2.length : Int) then (if (rd x3_2 (ji45)) = 0 then (if (ji45) ≤ (x3_2.length : Int) then (impl_locator.l4 k2 (x3_2.take ((ji45) : Int).toNat)) else (none)) else (some x3_2)) else (none)) else (none)) = some r := by first | (rw [hji45] at H; exact H) | (simp only [hji45] at H ⊢; exact H)
  have hji45w : (IntKind.i64.wrap ((x3_2.length : Int) - 1)) = ji45 := (i64_w _).trans hji45
  replace H := zg H
  obtain ⟨c46, H⟩ := H
  have c46b0 : decide (0 ≤ (ji45)) = true := decide_eq_true c46
  clear c46
  replace H := zg H
  obtain ⟨c47, H⟩ := H
  have c47b0 : decide ((ji45) < (x3_2.length : Int)) = true := decide_eq_true c47
  clear c47
  by_cases c48 : (rd x3_2 (ji45)) = 0
  rotate_left
  ·rw [if_neg c48] at H
   have c48b0 : ((rd x3_2 (ji45)) == 0) = false := beq_eq_false_iff_ne.mpr c48
   have c48b1 : ((rd x3_2 (ji45)) != 0) = true := bne_iff_ne.mpr c48
   obtain rfl := Option.some.inj H
   obtain ⟨Ao52, co52, eo52⟩ := Kd.R_slice HO_3.out
   subst eo52
   have p170 : 0 ≤ ((ji45) : Int) := zD
   have q170 : (ji45) < (x3_2.length : Int) := zD
   obtain ⟨ad170, e170, hx170_0⟩ := Kd.at_int (Kd.R_reads' HO_3.out).2.2 (ji45) p170 q170
   cases e170
   replace p170 := eq_true p170
   replace q170 := eq_true q170
   go_wp2
   go_ret
   exact ⟨_, by first | rfl | (simp [errW_none, errW_some] <;> rfl) | (simp only [← hji45]; first | rfl | (simp [errW_none, errW_some] <;> rfl)) | (simp [*, errW_none, errW_some] <;> rfl), zR HO_3.out, zB⟩
  rw [if_pos c48] at H
  have c48b0 : ((rd x3_2 (ji45)) == 0) = true := beq_iff_eq.mpr c48
  have c48b1 : ((rd x3_2 (ji45)) != 0) = false := bne_eq_false_iff_eq.mpr c48
  clear c48
  replace H := zg H
  obtain ⟨c49, H⟩ := H
  have c49b0 := eq_true c49
  have c49b1 : decide ((ji45) ≤ (x3_2.length : Int)) = true := decide_eq_true c49
  clear c49
  obtain ⟨y171, hy171⟩ : ∃ y_ : List Int, y_ = (x3_2.take ((ji45) : Int).toNat) := ⟨_, rfl⟩
  replace H : (impl_locator.l4 k2 y171) = some r := by first | (rw [hy171]; with_reducible exact H) | (have H2_ := (Option.bind_some _ _).symm.trans H; rw [hy171]; with_reducible exact H2_) | (have H2_ := (Option.bind_some _ _).symm.trans H; with_reducible exact H2_) | with_reducible exact H | (rw [hy171]; exact H) | exact H
  have Ny171 := Aside0.mk hy171
  clear hy171
  have H' := Aside0.mk H
  clear H
  obtain ⟨Ao50, co50, eo50⟩ := Kd.R_slice HO_3.out
  subst eo50
  have p170 : 0 ≤ ((ji45) : Int) := zD
  have q170 : (ji45) < (x3_2.length : Int) := zD
  obtain ⟨ad170, e170, hx170_0⟩ := Kd.at_int (Kd.R_reads' HO_3.out).2.2 (ji45) p170 q170
  cases e170
  replace p170 := eq_true p170
  replace q170 := eq_true q170
  have q51 : ((ji45) : Int) ≤ ((x3_2.length : Int) : Int) := zD
  obtain ⟨i051, hi051, _, hsz51, _⟩ := info_parts info3
  have hcut51 := cut_to (P := Try.prog) 24 3 .i64 Try.underlying24 hi051 (some ad170) x3_2.length co50 (ji45) zD q51 (Kd.R_reads' HO_3.out).2.1
  have hr51 := Kd.R_take (m := ((ji45) : Int).toNat) HO_3.out (by omega)
  have hy51 : y171.length = ((ji45) : Int).toNat := (by rw [Ny171.out, List.length_take]; omega)
  rw [← Ny171.out] at hr51
  rw [← hy51] at hr51 hcut51
  clear hy51 hi051 hsz51 HO_3
  have HO173 := Aside0.mk hr51
  clear hr51
  replace q51 := eq_true q51
  go_wp2
  go_roundg k2
  case measure => have := HK1.out; have := HK2.out; omega
  case rel => exact ⟨(y171), H', ⟨by have := HK1.out; have := HK2.out; omega⟩, ⟨zR HO173.out⟩, ⟨zB⟩⟩
 rw [if_pos c6] at H
 have c6b0 := decide_eq_true c6
 clear c6
 replace H := zg H
 obtain ⟨c7, H⟩ := H
 have c7b0 : decide (0 ≤ x19_1) = true := decide_eq_true c7
 clear c7
 replace H := zg H
 obtain ⟨c8, H⟩ := H
 have c8b0 : decide (x19_1 < (l0.length : Int)) = true := decide_eq_true c8
 clear c8
 have HC9 := Aside0.mk H
 clear H
 have p154 : 0 ≤ (x19_1 : Int) := zD
 have q154 : x19_1 < (l0.length : Int) := zD
 obtain ⟨ad154, e154, hx154_0⟩ := Kd.at_int HR0.out x19_1 p154 q154
 cases e154
 replace hx154_0 := (HB.out.cell (World.block_lt_of_cell? w _ hx154_0)).trans hx154_0
 replace p154 := eq_true p154
 replace q154 := eq_true q154
 go_upto_block 2 with (fail)
 go_cut [9] (fun v9 wc => ∃ (kq : Nat) (x9_8 : Int), v9 = .int .i64 x9_8 ∧ Aside0 (impl_locator.j2 kq l0 x3_1 x4_1 x5_1 x6_1 x7_1 x19_1 x9_8 (l0.length : Int) x19_1 = some r) ∧ Aside0 (kq ≤ k1) ∧ Aside0 (Kd.R (Kd.int .i64) 3 wc w.heap.size (fun k_ => some k_ ≠ (u4 : Value).ownBlock) u3 x3_1) ∧ Aside0 (Kd.R (Kd.int .i64) 3 wc w.heap.size (fun k_ => some k_ ≠ (u3 : Value).ownBlock) u4 x4_1) ∧ Aside0 (Below w.heap.size w wc))
 case first =>
  have H := HC9.out
  clear HC9
  have H' := Aside0.mk H
  clear H
  go_wp2
  go_loopg [9, 10] k1 (fun kq v9 v10 w' => ∃ (x9_2 : Int) (x10_2 : Int), v9 = .int .i64 x9_2 ∧ v10 = .int .i64 x10_2 ∧ Aside0 (impl_locator.l1 kq l0 x3_1 x4_1 x5_1 x6_1 x7_1 x19_1 x9_2 x10_2 (l0.length : Int) x19_1 = some r) ∧ Aside0 (kq ≤ k1) ∧ Aside0 (Kd.R (Kd.int .i64) 3 w' w.heap.size (fun k_ => some k_ ≠ (u4 : Value).ownBlock) u3 x3_1) ∧ Aside0 (Kd.R (Kd.int .i64) 3 w' w.heap.size (fun k_ => some k_ ≠ (u3 : Value).ownBlock) u4 x4_1) ∧ Aside0 (Below w.heap.size w w'))
  case atStart => exact ⟨(rd l0 x19_1), (1), zO, zO, H', ⟨Nat.le_refl _⟩, ⟨zR HO_3.out⟩, ⟨zR HO_4.out⟩, ⟨zB⟩⟩
  case round =>
  clear H'
  try clear p1
  try clear q1
  try clear hx1
  try clear p2
  try clear c3
  try clear c6
  try clear c6b0
  try clear c7
  try clear c7b0
  try clear c8
  try clear c8b0
  try clear hx154_0
  try clear p154
  try clear p2
  try clear q154
  obtain ⟨x9_2, x10_2, rfl, rfl, HA, HK2, HO_3, HO_4, HB⟩ := hrel
  cases gk with
  | zero => exact absurd HA.out (by simp [impl_locator.l1])
  | succ k2 =>
  have H := HA.out
  clear HA
  simp only [impl_locator.l1] at H
  by_cases c10 : x10_2 ≤ x5_1
  rotate_left
  ·rw [if_neg c10] at H
   have c10b0 := decide_eq_false c10
   clear c10
   (first | rw [c10b0] | (simp only [i64_w, i32_w]; rw [c10b0]) | skip)
   have H' := Aside0.mk H
   clear H
   go_wp2
   go_meet
   case rel => exact ⟨_, (x9_2), zO, H', ⟨by have := HK1.out; have := HK2.out; first | omega | exact Nat.le_refl _⟩, ⟨zR HO_3.out⟩, ⟨zR HO_4.out⟩, ⟨zB⟩⟩
  rw [if_pos c10] at H
  have c10b0 := decide_eq_true c10
  clear c10
  (first | rw [c10b0] | (simp only [i64_w, i32_w]; rw [c10b0]) | skip)
  by_cases c11 : x10_2 < (x3_1.length : Int)
  rotate_left
  ·rw [if_neg c11] at H
   have c11b0 := decide_eq_false c11
   clear c11
   have H' := Aside0.mk H
   clear H
   obtain ⟨Ao19, co19, eo19⟩ := Kd.R_slice HO_3.out
   subst eo19
   go_wp2
   go_meet
   case rel => exact ⟨_, (x9_2), zO, H', ⟨by have := HK1.out; have := HK2.out; first | omega | exact Nat.le_refl _⟩, ⟨zR HO_3.out⟩, ⟨zR HO_4.out⟩, ⟨zB⟩⟩
  rw [if_pos c11] at H
  have c11b0 := decide_eq_true c11
  clear c11
  replace H := zg H
  obtain ⟨c12, H⟩ := H
  have c12b0 : decide (0 ≤ x10_2) = true := decide_eq_true c12
  clear c12
  obtain ⟨ji13, hji13⟩ : ∃ j_ : Int, (wrap64 (x19_1 - x10_2)) = j_ := ⟨_, rfl⟩
  replace H : (if 0 ≤ (ji13) then (if (ji13) < (l0.length : Int) then ((impl_GfMul.f k2 (rd x3_1 x10_2) (rd l0 (ji13))).bind fun t157 => (impl_locator.l1 k2 l0 x3_1 x4_1 x5_1 x6_1 x7_1 x19_1 (Go.bits .xor .i64 x9_2 t157) (wrap64 (x10_2 + 1)) (l0.length : Int) x19_1)) else (none)) else (none)) = some r := by first | (rw [hji13] at H; exact H) | (simp only [hji13] at H ⊢; exact H)
  have hji13w : (IntKind.i64.wrap (x19_1 - x10_2)) = ji13 := (i64_w _).trans hji13
  replace H := zg H
  obtain ⟨c14, H⟩ := H
  have c14b0 : decide (0 ≤ (ji13)) = true := decide_eq_true c14
  clear c14
  replace H := zg H
  obtain ⟨c15, H⟩ := H
  have c15b0 : decide ((ji13) < (l0.length : Int)) = true := decide_eq_true c15
  clear c15
  replace H := zi H
  obtain ⟨t157, A16, H⟩ := H
  have H' := Aside0.mk H
  clear H
  obtain ⟨Ao17, co17, eo17⟩ := Kd.R_slice HO_3.out
  subst eo17
  try go_wp2
  have n0_ := Aside0.mk (Kd.R_drew HO_3.out)
  have n1_ := Aside0.mk (Kd.R_drew HO_4.out)
  have n2_ := Aside0.mk (below_drew1 HB.out)
  clear HO_3
  clear HO_4
  clear HB
  have HO_3 := n0_
  have HO_4 := n1_
  have HB := n2_
  clear n0_ n1_ n2_
  have p155 : 0 ≤ (x10_2 : Int) := zD
  have q155 : x10_2 < (x3_1.length : Int) := zD
  obtain ⟨ad155, e155, hx155_0⟩ := Kd.at_int (Kd.R_reads' HO_3.out).2.2 x10_2 p155 q155
  cases e155
  replace p155 := eq_true p155
  replace q155 := eq_true q155
  have p156 : 0 ≤ ((ji13) : Int) := zD
  have q156 : (ji13) < (l0.length : Int) := zD
  obtain ⟨ad156, e156, hx156_0⟩ := Kd.at_int HR0.out (ji13) p156 q156
  have hw156_0 := hx156_0
  obtain rfl : ad154 = ad156 := (by injection e156)
  replace hx156_0 := (HB.out.cell (World.block_lt_of_cell? w _ hx156_0)).trans hx156_0
  replace p156 := eq_true p156
  replace q156 := eq_true q156
  refine start_ (n := 14) (S := fun w' => w'.cell? (ad155.add (x10_2).toNat) = some (.int .i64 (rd x3_1 x10_2)) ∧ w'.cell? (ad154.add ((ji13)).toNat) = some (.int .i64 (rd l0 (ji13)))) (ds := []) impl_locator.mk_0 (by kernel_rfl) rfl rfl ⟨hx155_0, ((HB.out.cell (World.block_lt_of_cell? w _ hw156_0)).trans hw156_0)⟩ (fun hHeld => ?_); refine with_tabW impl_locator.tab10 impl_locator.bits10 (fun HT_ HW_ => ?_)
  generalize wr.drew = w18 at HO_3 HO_4 HB hx155_0 hx156_0 hHeld ⊢
  refine zP 0 37 impl_locator.mk_1 ?_
  refine zP 1 38 impl_locator.mk_2 ?_
  refine zP 2 39 impl_locator.mk_3 ?_
  refine zP 3 40 impl_locator.mk_4 ?_
  refine zP 5 42 impl_locator.mk_5 ?_
  refine zP 6 43 impl_locator.mk_6 ?_
  refine zP 7 44 impl_locator.mk_7 ?_
  refine zP 8 45 impl_locator.mk_8 ?_
  refine zP 9 46 impl_locator.mk_9 ?_
  refine zT2 4 41 impl_locator.mk_10 ?_
  refine zT2 10 47 impl_locator.mk_11 ?_
  refine one_ (i := 11) (N := some 48) impl_locator.mk_12 rfl rfl (one_of HT_.out (by kernel_rfl)) (by decide) (fun K hK => ?_)
  refine goes_ Try.func35 (by kernel_rfl) rfl #[.int .i64 (rd x3_1 x10_2), .int .i64 (rd l0 (ji13))] (by rfl) rfl rfl (by (try simp only [List.map_toArray, List.map_cons, List.map_nil]); first | done | (simp only [hji13]; rfl) | rfl | (simp only [List.length_drop, List.length_take]; rfl)) ?_
  with_reducible refine (impl_GfMul.calls k2 (rd x3_1 x10_2) (rd l0 (ji13)) t157 _ A16.out).mono ?_
  rintro e w' ⟨rfl, ⟨nd, rfl⟩⟩
  refine ⟨_, rfl, ?_⟩
  refine hK.out _ _ ⟨hHeld.1, ((HB.out.cell (World.block_lt_of_cell? w _ hw156_0)).trans hw156_0)⟩ (fun hHeld => ?_)
  clear hK K
  refine norm_ (a' := ?_) ?_ ?_
  rotate_left
  ·show Act.put _ (some 48) _ = _
   simp only [Act.put, List.setIfInBounds_toArray, List.set_cons_zero, List.set_cons_succ, i64_w, i32_w]
   rfl
  refine zP 12 49 impl_locator.mk_13 ?_
  refine zP 13 9 impl_locator.mk_14 ?_
  refine done_ (done_of HT_.out (by kernel_rfl)) ?_
  try go_wp2
  go_roundg k2
  case measure => have := HK1.out; have := HK2.out; omega
  case rel => exact ⟨(Go.bits .xor .i64 x9_2 t157), (wrap64 (x10_2 + 1)), zO, zO, H', ⟨by have := HK1.out; have := HK2.out; omega⟩, ⟨zR HO_3.out⟩, ⟨zR HO_4.out⟩, ⟨zB⟩⟩
 case rest =>
 clear HC9
 try clear c1
 try clear p1
 try clear q1
 try clear hx1
 try clear p2
 try clear c3
 try clear c6
 try clear c6b0
 try clear p6
 try clear c7
 try clear c7b0
 try clear c8
 try clear c8b0
 try clear c10
 try clear c10b0
 try clear c11
 try clear c11b0
 try clear c12
 try clear c12b0
 try clear c14
 try clear c14b0
 try clear c15
 try clear c15b0
 try clear p15
 try clear q15
 try clear hx15
 try clear hx154_0
 try clear hx155_0
 try clear hx156_0
 try clear p1
 try clear p154
 try clear p155
 try clear p156
 try clear p2
 try clear q1
 try clear q154
 try clear q155
 try clear q156
 obtain ⟨kq, x9_8, rfl, HA, HJ8, HO_3, HO_4, HB⟩ := hcut
 cases kq with
 | zero => exact absurd HA.out (by simp [impl_locator.j2])
 | succ kj8 =>
 have H := HA.out
 clear HA
 simp only [impl_locator.j2] at H
 by_cases c20 : x9_8 = 0
 ·rw [if_pos c20] at H
  have c20b0 : (x9_8 == 0) = true := beq_iff_eq.mpr c20
  have c20b1 : (x9_8 != 0) = false := bne_eq_false_iff_eq.mpr c20
  clear c20
  have H' := Aside0.mk H
  clear H
  go_wp2
  go_roundg kj8
  case measure => have := HK1.out; have := HJ8.out; omega
  case rel => exact ⟨(x3_1), (x4_1), (x5_1), (wrap64 (x6_1 + 1)), (x7_1), (wrap64 (x19_1 + 1)), zO, zO, zO, zO, H', ⟨by have := HK1.out; have := HJ8.out; omega⟩, ⟨zR HO_3.out⟩, ⟨zR HO_4.out⟩, ⟨zB⟩⟩
 rw [if_neg c20] at H
 have c20b0 : (x9_8 == 0) = false := beq_eq_false_iff_ne.mpr c20
 have c20b1 : (x9_8 != 0) = true := bne_iff_ne.mpr c20
 replace H := zi H
 obtain ⟨t158, A21, H⟩ := H
 replace H := zi H
 obtain ⟨t161, A22, H⟩ := H
 replace H := zi H
 obtain ⟨t162, A23, H⟩ := H
 have H' := Aside0.mk H
 clear H
 obtain ⟨Ao24, co24, eo24⟩ := Kd.R_slice HO_3.out
 subst eo24
 go_wp2_with (first | ((with_reducible refine gate_callee (f := 34) rfl ?_); refine goesL_ (some 55) rfl rfl Try.func34 (by kernel_rfl) rfl #[.slice Ao24 x3_1.length co24] rfl zL ?_; (with_reducible refine (slices_Clone_int_int.calls _ _ x3_1 t158 _ ?side1 ?side2 A21.out).mono ?_); (case side1 => exact zC (Kd.R_reads' HO_3.out).2.2); (case side2 => exact (Kd.R_reads' HO_3.out).2.1); rintro e w25 ⟨v159, rfl, ho0, hb⟩; refine ⟨_, rfl, ?_⟩; have n0_ := Aside0.mk (Kd.R_elder' (zR HO_3.out) (Kd.R_base ho0) hb); have n1_ := Aside0.mk (Kd.R_elder' (zR HO_4.out) (Kd.R_base ho0) hb); have n2_ := Aside0.mk (Kd.R_lower (Kd.R_new' (Kd.R_new' ho0 (Kd.R_lt (zR HO_3.out))) (Kd.R_lt (zR HO_4.out))) (below_size zB)); have n3_ := Aside0.mk (below_step zB hb); clear HO_3; clear HO_4; clear HB; have HO_3 := n0_; have HO_4 := n1_; have HO160 := n2_; have HB := n3_; clear n0_ n1_ n2_ n3_; (try clear hb); (try clear hb2); (try clear hk); (try clear hi); (try clear ho0)) | ((with_reducible refine gate_callee (f := 53) rfl ?_); refine goesL_ (some 58) rfl rfl Try.func53 (by kernel_rfl) rfl #[.int .i64 x7_1] rfl zL ?_; (with_reducible refine (impl_GfInv.calls kj8 x7_1 t161 _ A22.out).mono ?_); rintro e w' ⟨rfl, ⟨nd, rfl⟩⟩; refine ⟨_, rfl, ?_⟩) | ((with_reducible refine gate_callee (f := 35) rfl ?_); refine goesL_ (some 59) rfl rfl Try.func35 (by kernel_rfl) rfl #[.int .i64 x9_8, .int .i64 t161] rfl zL ?_; (with_reducible refine (impl_GfMul.calls kj8 x9_8 t161 t162 _ A23.out).mono ?_); rintro e w' ⟨rfl, ⟨nd, rfl⟩⟩; refine ⟨_, rfl, ?_⟩))
 go_loopg [3] kj8 (fun kq v3 w' => ∃ (x3_3 : List Int), Aside0 (impl_locator.l2 kq l0 x3_3 x4_1 x5_1 x6_1 x7_1 x19_1 x9_8 t158 t162 (l0.length : Int) x19_1 = some r) ∧ Aside0 (kq ≤ kj8) ∧ Aside0 (Kd.R (Kd.int .i64) 3 w' w.heap.size (fun k_ => some k_ ≠ (u4 : Value).ownBlock ∧ some k_ ≠ (v159 : Value).ownBlock) v3 x3_3) ∧ Aside0 (Kd.R (Kd.int .i64) 3 w' w.heap.size (fun k_ => some k_ ≠ (v3 : Value).ownBlock ∧ some k_ ≠ (v159 : Value).ownBlock) u4 x4_1) ∧ Aside0 (Kd.R (Kd.int .i64) 3 w' w.heap.size (fun k_ => some k_ ≠ (v3 : Value).ownBlock ∧ some k_ ≠ (u4 : Value).ownBlock) v159 t158) ∧ Aside0 (Below w.heap.size w w'))
 case atStart => exact ⟨(x3_1), H', ⟨Nat.le_refl _⟩, ⟨zR HO_3.out⟩, ⟨zR HO_4.out⟩, ⟨by (with_reducible repeat (first | apply Kd.R_alloc | apply Kd.R_drewN | apply Kd.R_drew)); exact Kd.R_mono HO160.out (fun _ hk => ⟨hk.1.2, hk.2⟩)⟩, ⟨zB⟩⟩
 case round =>
 clear H'
 try clear c1
 try clear p1
 try clear q1
 try clear hx1
 try clear c2
 try clear p2
 try clear c3
 try clear c5
 try clear c6
 try clear c6b0
 try clear p6
 try clear c7
 try clear c7b0
 try clear c8
 try clear c8b0
 try clear c10
 try clear c10b0
 try clear c11
 try clear c11b0
 try clear c12
 try clear c12b0
 try clear c14
 try clear c14b0
 try clear c15
 try clear c15b0
 try clear p15
 try clear q15
 try clear hx15
 try clear c20
 try clear c20b0
 try clear c20b1
 try clear hx154_0
 try clear hx155_0
 try clear hx156_0
 try clear p1
 try clear p15
 try clear p154
 try clear p155
 try clear p156
 try clear p2
 try clear p6
 try clear q1
 try clear q15
 try clear q154
 try clear q155
 try clear q156
 obtain ⟨x3_3, HA, HK3, HO_3, HO_4, HO_11, HB⟩ := hrel
 cases gk with
 | zero => exact absurd HA.out (by simp [impl_locator.l2])
 | succ k3 =>
 have H := HA.out
 clear HA
 simp only [impl_locator.l2] at H
 by_cases c26 : (x3_3.length : Int) < (wrap64 ((x4_1.length : Int) + x6_1))
 ·rw [if_pos c26] at H
  have c26b0 := decide_eq_true c26
  clear c26
  replace H := zg H
  obtain ⟨c27, H⟩ := H
  have LMc27 := Aside0.mk c27
  clear c27
  obtain ⟨y163, hy163⟩ : ∃ y_ : List Int, y_ = (x3_3 ++ [0]) := ⟨_, rfl⟩
  replace H : (impl_locator.l2 k3 l0 y163 x4_1 x5_1 x6_1 x7_1 x19_1 x9_8 t158 t162 (l0.length : Int) x19_1) = some r := by first | (rw [hy163]; with_reducible exact H) | (have H2_ := (Option.bind_some _ _).symm.trans H; rw [hy163]; with_reducible exact H2_) | (have H2_ := (Option.bind_some _ _).symm.trans H; with_reducible exact H2_) | with_reducible exact H | (rw [hy163]; exact H) | exact H
  have Ny163 := Aside0.mk hy163
  clear hy163
  have H' := Aside0.mk H
  clear H
  obtain ⟨Ao28, co28, eo28⟩ := Kd.R_slice HO_3.out
  subst eo28
  obtain ⟨Ao29, co29, eo29⟩ := Kd.R_slice HO_4.out
  subst eo29
  go_wp2_with (first | ((with_reducible refine gate_builtin (b := .append) (xs := #[.tmp 67, .tmp 68]) rfl ?_); (try (refine gate_guard (by rfl) ?_; dsimp only)); at_builtin; refine Kd.R_append (Kd.int .i64) (w0 := w) w.heap.size rfl (.tmp 67) (.tmp 68) 24 3 (.int .i64 0) 8 rfl Try.underlying24 info3 rfl (by decide) (by omega) (.slice Ao28 x3_3.length co28) x3_3 0 [.int .i64 0] (fun k_ => some k_ ≠ (.slice Ao29 x4_1.length co29 : Value).ownBlock ∧ some k_ ≠ (v159 : Value).ownBlock) (fun _ => False) rfl rfl ?aP (fun _ hk => hk.elim) ?aF ?aO ?aB ?aS ?aL ?_; (case aP => exact rfl); (case aB => exact zB); (case aF => exact (fun k_ hk => ⟨Kd.fresh' (Kd.R_lt (zR HO_4.out)) k_ hk, Kd.fresh' (Kd.R_lt (zR HO_11.out)) k_ hk⟩)); (case aO => exact (zR HO_3.out)); (case aS => exact (below_size zB)); (case aL => have := LMc27.out; omega); intro v164 w30 ho hb hg hat; rw [← Ny163.out] at ho; have n0_ := Aside0.mk (Kd.R_after (ok := (fun k_ => some k_ ≠ (v159 : Value).ownBlock)) (by (with_reducible repeat (first | apply Kd.R_alloc | apply Kd.R_drewN | apply Kd.R_drew)); exact Kd.R_mono HO_4.out (fun _ hk => ⟨hk.2, hk.1⟩)) hg hat); have n1_ := Aside0.mk (Kd.R_after (ok := (fun k_ => some k_ ≠ (.slice Ao29 x4_1.length co29 : Value).ownBlock)) (by (with_reducible repeat (first | apply Kd.R_alloc | apply Kd.R_drewN | apply Kd.R_drew)); exact Kd.R_mono HO_11.out (fun _ hk => ⟨hk.2, hk.1⟩)) hg hat); have n2_ := Aside0.mk (hb); have n3_ := Aside0.mk (ho); clear HO_4; clear HO_11; clear HB; clear HO_3; have HO_4 := n0_; have HO_11 := n1_; have HB := n2_; have HO165 := n3_; clear n0_ n1_ n2_ n3_; clear ho hb hg hat))
  go_roundg k3
  case measure => have := HK1.out; have := HJ8.out; have := HK3.out; omega
  case rel => exact ⟨(y163), H', ⟨by have := HK1.out; have := HJ8.out; have := HK3.out; omega⟩, ⟨zR HO165.out⟩, ⟨by (with_reducible repeat (first | apply Kd.R_alloc | apply Kd.R_drewN | apply Kd.R_drew)); exact Kd.R_mono HO_4.out (fun _ hk => ⟨hk.2, hk.1⟩)⟩, ⟨by (with_reducible repeat (first | apply Kd.R_alloc | apply Kd.R_drewN | apply Kd.R_drew)); exact Kd.R_mono HO_11.out (fun _ hk => ⟨hk.2, hk.1⟩)⟩, ⟨zB⟩⟩
 rw [if_neg c26] at H
 have c26b0 := decide_eq_false c26
 clear c26
 have H' := Aside0.mk H
 clear H
 obtain ⟨Ao31, co31, eo31⟩ := Kd.R_slice HO_3.out
 subst eo31
 obtain ⟨Ao32, co32, eo32⟩ := Kd.R_slice HO_4.out
 subst eo32
 go_wp2
 go_loopg [72] k3 (fun kq v72 w' => ∃ (x3_4 : List Int) (x72_4 : Int), v72 = .int .i64 x72_4 ∧ Aside0 (impl_locator.l3 kq l0 x3_4 x4_1 x5_1 x6_1 x7_1 x19_1 x9_8 t158 t162 (l0.length : Int) x19_1 x4_1 (x4_1.length : Int) x72_4 = some r) ∧ Aside0 (kq ≤ k3) ∧ Aside0 (Kd.R (Kd.int .i64) 3 w' w.heap.size (fun k_ => some k_ ≠ ((.slice Ao32 x4_1.length co32) : Value).ownBlock ∧ some k_ ≠ (v159 : Value).ownBlock ∧ some k_ ≠ ((.slice Ao32 x4_1.length co32) : Value).ownBlock) (.slice Ao31 x3_3.length co31) x3_4) ∧ Aside0 (Kd.R (Kd.int .i64) 3 w' w.heap.size (fun k_ => some k_ ≠ ((.slice Ao31 x3_3.length co31) : Value).ownBlock ∧ some k_ ≠ (v159 : Value).ownBlock) (.slice Ao32 x4_1.length co32) x4_1) ∧ Aside0 (Kd.R (Kd.int .i64) 3 w' w.heap.size (fun k_ => some k_ ≠ ((.slice Ao31 x3_3.length co31) : Value).ownBlock ∧ some k_ ≠ ((.slice Ao32 x4_1.length co32) : Value).ownBlock ∧ some k_ ≠ ((.slice Ao32 x4_1.length co32) : Value).ownBlock) v159 t158) ∧ Aside0 (Kd.R (Kd.int .i64) 3 w' w.heap.size (fun k_ => some k_ ≠ ((.slice Ao31 x3_3.length co31) : Value).ownBlock ∧ some k_ ≠ (v159 : Value).ownBlock) (.slice Ao32 x4_1.length co32) x4_1) ∧ Aside0 (Below w.heap.size w w'))
 case atStart => exact ⟨(x3_3), (0), zO, H', ⟨Nat.le_refl _⟩, ⟨by (with_reducible repeat (first | apply Kd.R_alloc | apply Kd.R_drewN | apply Kd.R_drew)); exact Kd.R_mono HO_3.out (fun _ hk => ⟨hk.1, ⟨hk.2, hk.1⟩⟩)⟩, ⟨zR HO_4.out⟩, ⟨by (with_reducible repeat (first | apply Kd.R_alloc | apply Kd.R_drewN | apply Kd.R_drew)); exact Kd.R_mono HO_11.out (fun _ hk => ⟨hk.1, ⟨hk.2, hk.2⟩⟩)⟩, ⟨zR HO_4.out⟩, ⟨zB⟩⟩
 case round =>
 clear H'
 try clear c1
 try clear p1
 try clear q1
 try clear hx1
 try clear c2
 try clear p2
 try clear c3
 try clear c5
 try clear c6
 try clear c6b0
 try clear p6
 try clear c7
 try clear c7b0
 try clear c8
 try clear c8b0
 try clear c10
 try clear c10b0
 try clear c11
 try clear c11b0
 try clear c12
 try clear c12b0
 try clear c14
 try clear c14b0
 try clear c15
 try clear c15b0
 try clear p15
 try clear q15
 try clear hx15
 try clear c20
 try clear c20b0
 try clear c20b1
 try clear c26
 try clear c26b0
 try clear c27
 try clear hx154_0
 try clear hx155_0
 try clear hx156_0
 try clear p1
 try clear p15
 try clear p154
 try clear p155
 try clear p156
 try clear p2
 try clear p6
 try clear q1
 try clear q15
 try clear q154
 try clear q155
 try clear q156
 obtain ⟨x3_4, x72_4, rfl, HA, HK4, HO_3, HO_4, HO_11, HO_70, HB⟩ := hrel
 have hl3_4 := (Kd.R_reads' HO_3.out).1
 rw [hl3_4] at HO_3
 (try simp only [hl3_4])
 (try simp only [hl3_4] at HO_4)
 (try simp only [hl3_4] at HO_11)
 (try simp only [hl3_4] at HO_70)
 cases gk with
 | zero => exact absurd HA.out (by simp [impl_locator.l3])
 | succ k4 =>
 have H := HA.out
 clear HA
 simp only [impl_locator.l3] at H
 by_cases c33 : x72_4 < (x4_1.length : Int)
 rotate_left
 ·rw [if_neg c33] at H
  have c33b0 := decide_eq_false c33
  clear c33
  by_cases c43 : (wrap64 (2 * x5_1)) ≤ x19_1
  ·rw [if_pos c43] at H
   have c43b0 := decide_eq_true c43
   clear c43
   have H' := Aside0.mk H
   clear H
   go_wp2
   (try simp only [← hl3_4])
   go_roundg k4
   case measure => have := HK1.out; have := HJ8.out; have := HK3.out; have := HK4.out; omega
   case rel => exact ⟨(x3_4), (t158), (wrap64 ((wrap64 (x19_1 + 1)) - x5_1)), (1), (x9_8), (wrap64 (x19_1 + 1)), zO, zO, zO, zO, H', ⟨by have := HK1.out; have := HJ8.out; have := HK3.out; have := HK4.out; omega⟩, ⟨by (try simp only [hl3_4]); (with_reducible repeat (first | apply Kd.R_alloc | apply Kd.R_drewN | apply Kd.R_drew)); exact Kd.R_mono HO_3.out (fun _ hk => hk.2.1)⟩, ⟨by (try simp only [hl3_4]); (with_reducible repeat (first | apply Kd.R_alloc | apply Kd.R_drewN | apply Kd.R_drew)); exact Kd.R_mono HO_11.out (fun _ hk => hk.1)⟩, ⟨zB⟩⟩
  rw [if_neg c43] at H
  have c43b0 := decide_eq_false c43
  clear c43
  have H' := Aside0.mk H
  clear H
  go_wp2
  (try simp only [← hl3_4])
  go_roundg k4
  case measure => have := HK1.out; have := HJ8.out; have := HK3.out; have := HK4.out; omega
  case rel => exact ⟨(x3_4), (x4_1), (x5_1), (wrap64 (x6_1 + 1)), (x7_1), (wrap64 (x19_1 + 1)), zO, zO, zO, zO, H', ⟨by have := HK1.out; have := HJ8.out; have := HK3.out; have := HK4.out; omega⟩, ⟨by (try simp only [hl3_4]); (with_reducible repeat (first | apply Kd.R_alloc | apply Kd.R_drewN | apply Kd.R_drew)); exact Kd.R_mono HO_3.out (fun _ hk => hk.1)⟩, ⟨by (try simp only [hl3_4]); (with_reducible repeat (first | apply Kd.R_alloc | apply Kd.R_drewN | apply Kd.R_drew)); exact Kd.R_mono HO_4.out (fun _ hk => hk.1)⟩, ⟨zB⟩⟩
 rw [if_pos c33] at H
 have c33b0 := decide_eq_true c33
 clear c33
 replace H := zg H
 obtain ⟨c34, H⟩ := H
 have c34b0 : decide (0 ≤ x72_4) = true := decide_eq_true c34
 clear c34
 replace H := zg H
 obtain ⟨c35, H⟩ := H
 have c35b0 : decide (x72_4 < (x4_1.length : Int)) = true := decide_eq_true c35
 clear c35
 obtain ⟨ji36, hji36⟩ : ∃ j_ : Int, (wrap64 (x72_4 + x6_1)) = j_ := ⟨_, rfl⟩
 replace H : (if 0 ≤ (ji36) then (if (ji36) < (x3_4.length : Int) then ((impl_GfMul.f k4 t162 (rd x4_1 x72_4)).bind fun t168 => (impl_locator.l3 k4 l0 (x3_4.set ((ji36) : Int).toNat (Go.bits .xor .i64 (rd x3_4 (ji36)) t168)) x4_1 x5_1 x6_1 x7_1 x19_1 x9_8 t158 t162 (l0.length : Int) x19_1 x4_1 (x4_1.length : Int) (wrap64 (x72_4 + 1)))) else (none)) else (none)) = some r := by first | (rw [hji36] at H; exact H) | (simp only [hji36] at H ⊢; exact H)
 have hji36w : (IntKind.i64.wrap (x72_4 + x6_1)) = ji36 := (i64_w _).trans hji36
 replace H := zg H
 obtain ⟨c37, H⟩ := H
 have c37b0 : decide (0 ≤ (ji36)) = true := decide_eq_true c37
 clear c37
 replace H := zg H
 obtain ⟨c38, H⟩ := H
 have c38b0 : decide ((ji36) < (x3_4.length : Int)) = true := decide_eq_true c38
 clear c38
 replace H := zi H
 obtain ⟨t168, A39, H⟩ := H
 obtain ⟨y169, hy169⟩ : ∃ y_ : List Int, y_ = (x3_4.set ((ji36) : Int).toNat (Go.bits .xor .i64 (rd x3_4 (ji36)) t168)) := ⟨_, rfl⟩
 replace H : (impl_locator.l3 k4 l0 y169 x4_1 x5_1 x6_1 x7_1 x19_1 x9_8 t158 t162 (l0.length : Int) x19_1 x4_1 (x4_1.length : Int) (wrap64 (x72_4 + 1))) = some r := by first | (rw [hy169]; with_reducible exact H) | (have H2_ := (Option.bind_some _ _).symm.trans H; rw [hy169]; with_reducible exact H2_) | (have H2_ := (Option.bind_some _ _).symm.trans H; with_reducible exact H2_) | with_reducible exact H | (rw [hy169]; exact H) | exact H
 have Ny169 := Aside0.mk hy169
 clear hy169
 have H' := Aside0.mk H
 clear H
 have p166 : 0 ≤ (x72_4 : Int) := zD
 have q166 : x72_4 < (x4_1.length : Int) := zD
 obtain ⟨ad166, e166, hx166_0⟩ := Kd.at_int (Kd.R_reads' HO_70.out).2.2 x72_4 p166 q166
 cases e166
 replace p166 := eq_true p166
 replace q166 := eq_true q166
 try go_wp2
 have n0_ := Aside0.mk (Kd.R_drew HO_3.out)
 have n1_ := Aside0.mk (Kd.R_drew HO_4.out)
 have n2_ := Aside0.mk (Kd.R_drew HO_11.out)
 have n3_ := Aside0.mk (Kd.R_drew HO_70.out)
 have n4_ := Aside0.mk (below_drew1 HB.out)
 clear HO_3
 clear HO_4
 clear HO_11
 clear HO_70
 clear HB
 have HO_3 := n0_
 have HO_4 := n1_
 have HO_11 := n2_
 have HO_70 := n3_
 have HB := n4_
 clear n0_ n1_ n2_ n3_ n4_
 have p167 : 0 ≤ ((ji36) : Int) := zD
 have q167 : (ji36) < (x3_4.length : Int) := zD
 obtain ⟨ad167, e167, hx167_0⟩ := Kd.at_int (Kd.R_reads' HO_3.out).2.2 (ji36) p167 q167
 cases e167
 replace p167 := eq_true p167
 replace q167 := eq_true q167
 refine start_ (n := 12) (S := fun w' => w'.cell? (ad167.add ((ji36)).toNat) = some (.int .i64 (rd x3_4 (ji36)))) (ds := [11]) impl_locator.mk_15 (by kernel_rfl) rfl rfl (hx167_0) (fun hHeld => ?_); refine with_tabW impl_locator.tab20 impl_locator.bits20 (fun HT_ HW_ => ?_)
 generalize wr.drew = w41 at HO_3 HO_4 HO_11 HO_70 HB hx167_0 hHeld ⊢
 refine zP 0 77 impl_locator.mk_16 ?_
 refine zP 1 78 impl_locator.mk_17 ?_
 refine zP 2 79 impl_locator.mk_18 ?_
 refine zP 3 80 impl_locator.mk_19 ?_
 refine zP 4 81 impl_locator.mk_20 ?_
 refine zP 6 83 impl_locator.mk_21 ?_
 refine zP 7 84 impl_locator.mk_22 ?_
 refine zT1 5 82 impl_locator.mk_23 ?_
 refine one_ (i := 8) (N := some 85) impl_locator.mk_24 rfl rfl (one_of HT_.out (by kernel_rfl)) (by decide) (fun K hK => ?_)
 refine goes_ Try.func35 (by kernel_rfl) rfl #[.int .i64 t162, .int .i64 (rd x4_1 x72_4)] (by rfl) rfl rfl zL ?_
 with_reducible refine (impl_GfMul.calls k4 t162 (rd x4_1 x72_4) t168 _ A39.out).mono ?_
 rintro e w' ⟨rfl, ⟨nd, rfl⟩⟩
 refine ⟨_, rfl, ?_⟩
 have p40 : 0 ≤ ((ji36) : Int) := zD
 have q40 : ((ji36) : Int) < ((x3_4.length : Int) : Int) := zD
 obtain ⟨go40, co40, eo40, gb40, gl40, cl40, HG40⟩ := Kd.R_form HO_3.out (by omega)
 (first | cases eo40 | (injection eo40 with ea_ en_ ec_; (first | subst ea_ | (injection ea_ with ea_; subst ea_)); subst ec_; clear en_))
 have GB40 := Aside0.mk gb40
 have GG40 := Aside0.mk HG40
 clear gb40 gl40 HG40
 (first | simp only [add_plain] at hx167_0 | skip)
 obtain ⟨hx40_0, hf40_0⟩ := Kd.R_celln 0 HO_3.out ((ji36) : Int) p40 q40
 replace p40 := eq_true p40
 replace q40 := eq_true q40
 have HP42 := Kd.R_putn HO_3.out ((ji36) : Int) (Go.bits .xor .i64 (rd x3_4 (ji36)) t168)
 rw [← Ny169.out] at HP42
 have HQ42 := Aside0.mk HP42
 clear HP42
 refine hK.out _ _ (hHeld) (fun hHeld => ?_)
 clear hK K
 refine norm_ (a' := ?_) ?_ ?_
 rotate_left
 ·show Act.put _ (some 85) _ = _
  simp only [Act.put, List.setIfInBounds_toArray, List.set_cons_zero, List.set_cons_succ, i64_w, i32_w]
  rfl
 refine zP 9 86 impl_locator.mk_25 ?_
 refine zP 10 87 impl_locator.mk_26 ?_
 refine last_ (i := 11) (N := none) impl_locator.mk_27 rfl rfl (one_of HT_.out (by kernel_rfl)) (by decide) (fun K hK => ?_)
 refine skip_ (w1 := ?_) (by rfl) rfl ?_ ?_
 rotate_left
 ·go_simp
  rfl
 refine hK.out _ _ ?_
 clear hK K
 refine done_ (done_of HT_.out (by kernel_rfl)) ?_
 try go_wp2
 (try simp only [← hl3_4])
 go_roundg k4
 case measure => have := HK1.out; have := HJ8.out; have := HK3.out; have := HK4.out; omega
 case rel => exact ⟨(y169), (wrap64 (x72_4 + 1)), zO, H', ⟨by have := HK1.out; have := HJ8.out; have := HK3.out; have := HK4.out; omega⟩, ⟨by (try simp only [hl3_4]); (with_reducible repeat (first | apply Kd.R_alloc | apply Kd.R_drewN | apply Kd.R_drew)); exact HQ42.out⟩, ⟨by (try simp only [hl3_4]); (with_reducible repeat (first | apply Kd.R_alloc | apply Kd.R_drewN | apply Kd.R_drew)); exact Kd.R_mono (Kd.R_far (p := ⟨go40, ((ji36) : Int).toNat, none⟩) (Kd.R_mono HO_4.out (fun k_ hk => (⟨hk, fun e_ => hk.1 (by rw [e_]; rfl)⟩ : _ ∧ k_ ≠ go40))) (fun _ hk => hk.2) (.int .i64 (Go.bits .xor .i64 (rd x3_4 (ji36)) t168))) (fun _ hk => ⟨hk.1.1, hk.1.2⟩)⟩, ⟨by (try simp only [hl3_4]); (with_reducible repeat (first | apply Kd.R_alloc | apply Kd.R_drewN | apply Kd.R_drew)); exact Kd.R_mono (Kd.R_far (p := ⟨go40, ((ji36) : Int).toNat, none⟩) (Kd.R_mono HO_11.out (fun k_ hk => (⟨hk, fun e_ => hk.1 (by rw [e_]; rfl)⟩ : _ ∧ k_ ≠ go40))) (fun _ hk => hk.2) (.int .i64 (Go.bits .xor .i64 (rd x3_4 (ji36)) t168))) (fun _ hk => ⟨hk.1.1, ⟨hk.1.2.1, hk.1.2.2⟩⟩)⟩, ⟨by (try simp only [hl3_4]); (with_reducible repeat (first | apply Kd.R_alloc | apply Kd.R_drewN | apply Kd.R_drew)); exact Kd.R_mono (Kd.R_far (p := ⟨go40, ((ji36) : Int).toNat, none⟩) (Kd.R_mono HO_70.out (fun k_ hk => (⟨hk, fun e_ => hk.1 (by rw [e_]; rfl)⟩ : _ ∧ k_ ≠ go40))) (fun _ hk => hk.2) (.int .i64 (Go.bits .xor .i64 (rd x3_4 (ji36)) t168))) (fun _ hk => ⟨hk.1.1, hk.1.2⟩)⟩, ⟨by repeat (first | (with_reducible first | exact HB.out | apply below_alloc | apply pw_below_drewN | apply below_drew1 | refine below_set ?_ GB40.out) | exact HB.out)⟩⟩

end Go.Proofs.Ytdcjfcfiflpblaa.PFnNearestWord
