/- The functions that FnNearestWord reaches, each with its walk; written by a program (own.py). -/
import Derived.Test.YtdcjfcfiflpblaaSh
import Derived.Test.YtdcjfcfiflpblaaQFnNearestWordx0
import Derived.Test.YtdcjfcfiflpblaaQFnNearestWordx7
import Derived.Test.YtdcjfcfiflpblaaQFnNearestWordx8
import Derived.Test.YtdcjfcfiflpblaaQFnNearestWordx9
namespace Go.Proofs.Ytdcjfcfiflpblaa.PFnNearestWord
open Go.RowKit Go.Proofs.YtdcjfcfiflpblaaW.PrintWords Go.Proofs.YtdcjfcfiflpblaaW.PrintLast Go.Proofs.YtdcjfcfiflpblaaW.PrintMore
attribute [local go_sem] max2_int min2_int max_two min_two max_three min_three max_four min_four   -- for this text's walks alone
set_option linter.unusedVariables false
set_option linter.unusedSimpArgs false

/-! ### spec_l14Places: function 49 -/
mutual
def spec_l14Places.l0 : Nat → List Int → Int → Int → List (List Int) → Int → Option (List Int × Bool)
  | 0, _, _, _, _, _ => none
  | k + 1, x0, x1, x2, x8, x9 => if x9 < x1 then (spec_l14Places.l1 k x0 x1 x2 x8 x9 (([] : List Int)) 0) else ((spec_l14Solve.f k x8).bind fun bt336 => (if bt336.2 = true then (spec_l14Places.l2 k x1 x2 bt336.1 (([] : List Int)) 0) else (some ((([] : List Int)), false))))
def spec_l14Places.l1 : Nat → List Int → Int → Int → List (List Int) → Int → List Int → Int → Option (List Int × Bool)
  | 0, _, _, _, _, _, _, _ => none
  | k + 1, x0, x1, x2, x8, x9, x10, x11 => if x11 < x1 then (if 0 ≤ (wrap64 (x9 + x11)) then (if (wrap64 (x9 + x11)) < (x0.length : Int) then (if x10.length < 17592186044416 then (spec_l14Places.l1 k x0 x1 x2 x8 x9 (x10 ++ [rd x0 (wrap64 (x9 + x11))]) (wrap64 (x11 + 1))) else (none)) else (none)) else (none)) else (if 0 ≤ (wrap64 (x9 + x1)) then (if (wrap64 (x9 + x1)) < (x0.length : Int) then (if x10.length < 17592186044416 then (if x8.length < 5864062014805 then (spec_l14Places.l0 k x0 x1 x2 (x8 ++ [(x10 ++ [rd x0 (wrap64 (x9 + x1))])]) (wrap64 (x9 + 1))) else (none)) else (none)) else (none)) else (none))
def spec_l14Places.l2 : Nat → Int → Int → List Int → List Int → Int → Option (List Int × Bool)
  | 0, _, _, _, _, _ => none
  | k + 1, x1, x2, x12, x14, x15 => if x15 < x2 then ((spec_l14Pow.f k (wrap64 ((wrap64 (x2 - 1)) - x15))).bind fun t346 => (spec_l14Places.l3 k x1 x2 x12 x14 x15 t346 1 (wrap64 (x1 - 1)))) else (some (x14, ((x14.length : Int) == x1)))
def spec_l14Places.l3 : Nat → Int → Int → List Int → List Int → Int → Int → Int → Int → Option (List Int × Bool)
  | 0, _, _, _, _, _, _, _, _ => none
  | k + 1, x1, x2, x12, x14, x15, x16, x17, x18 => if x18 ≥ 0 then ((spec_GfMul.f k x17 x16).bind fun t347 => (if 0 ≤ x18 then (if x18 < (x12.length : Int) then (spec_l14Places.l3 k x1 x2 x12 x14 x15 x16 (Go.bits .xor .i64 t347 (rd x12 x18)) (wrap64 (x18 - 1))) else (none)) else (none))) else (if x17 = 0 then (if x14.length < 17592186044416 then (spec_l14Places.l2 k x1 x2 x12 (x14 ++ [x15]) (wrap64 (x15 + 1))) else (none)) else (spec_l14Places.l2 k x1 x2 x12 x14 (wrap64 (x15 + 1))))
end
def spec_l14Places.f (k : Nat) (l0 : List Int) (a1 : Int) (a2 : Int) : Option (List Int × Bool) := spec_l14Places.l0 k l0 a1 a2 (([] : List (List Int))) 0
theorem spec_l14Places.mono_l : ∀ k, (∀ y0 y1 y2 y3 y4, LeO (spec_l14Places.l0 k y0 y1 y2 y3 y4) (spec_l14Places.l0 (k + 1) y0 y1 y2 y3 y4)) ∧ (∀ y0 y1 y2 y3 y4 y5 y6, LeO (spec_l14Places.l1 k y0 y1 y2 y3 y4 y5 y6) (spec_l14Places.l1 (k + 1) y0 y1 y2 y3 y4 y5 y6)) ∧ (∀ y0 y1 y2 y3 y4, LeO (spec_l14Places.l2 k y0 y1 y2 y3 y4) (spec_l14Places.l2 (k + 1) y0 y1 y2 y3 y4)) ∧ (∀ y0 y1 y2 y3 y4 y5 y6 y7, LeO (spec_l14Places.l3 k y0 y1 y2 y3 y4 y5 y6 y7) (spec_l14Places.l3 (k + 1) y0 y1 y2 y3 y4 y5 y6 y7))
  | 0 => ⟨fun _ _ _ _ _ r h => by simp [spec_l14Places.l0] at h, fun _ _ _ _ _ _ _ r h => by simp [spec_l14Places.l1] at h, fun _ _ _ _ _ r h => by simp [spec_l14Places.l2] at h, fun _ _ _ _ _ _ _ _ r h => by simp [spec_l14Places.l3] at h⟩
  | k + 1 => by
    obtain ⟨ih0, ih1, ih2, ih3⟩ := spec_l14Places.mono_l k
    refine ⟨?_, ?_, ?_, ?_⟩ <;> intros
    all_goals first | unfold spec_l14Places.l0 | unfold spec_l14Places.l1 | unfold spec_l14Places.l2 | unfold spec_l14Places.l3
    all_goals repeat' first
    | (with_reducible exact ih0 _ _ _ _ _)
    | (with_reducible exact ih1 _ _ _ _ _ _ _)
    | (with_reducible exact ih2 _ _ _ _ _)
    | (with_reducible exact ih3 _ _ _ _ _ _ _ _)
    | (with_reducible exact spec_GfMul.mono _ _ _)
    | (with_reducible exact spec_l14Pow.mono _ _)
    | (with_reducible exact spec_l14Solve.mono _ _)
    | (with_reducible exact LeO.refl _)
    | (with_reducible exact LeO.none _)
    | (with_reducible refine LeO.ite ?_ ?_)
    | (with_reducible refine LeO.bind ?_ (fun _ => ?_))
    | exact ih0 _ _ _ _ _
    | exact ih1 _ _ _ _ _ _ _
    | exact ih2 _ _ _ _ _
    | exact ih3 _ _ _ _ _ _ _ _
    | exact spec_GfMul.mono _ _ _
    | exact spec_l14Pow.mono _ _
    | exact spec_l14Solve.mono _ _
    | exact LeO.none _
    | refine LeO.ite ?_ ?_
    | refine LeO.bind ?_ (fun _ => ?_)
theorem spec_l14Places.mono : ∀ a0 a1 a2 k, LeO (spec_l14Places.f k a0 a1 a2) (spec_l14Places.f (k + 1) a0 a1 a2) := by
  intro a0 a1 a2 k
  obtain ⟨ih0, ih1, ih2, ih3⟩ := spec_l14Places.mono_l k
  unfold spec_l14Places.f
  repeat' first
      | (with_reducible exact ih0 _ _ _ _ _)
      | (with_reducible exact ih1 _ _ _ _ _ _ _)
      | (with_reducible exact ih2 _ _ _ _ _)
      | (with_reducible exact ih3 _ _ _ _ _ _ _ _)
      | (with_reducible exact spec_GfMul.mono _ _ _)
      | (with_reducible exact spec_l14Pow.mono _ _)
      | (with_reducible exact spec_l14Solve.mono _ _)
      | (with_reducible exact LeO.refl _)
      | (with_reducible exact LeO.none _)
      | (with_reducible refine LeO.ite ?_ ?_)
      | (with_reducible refine LeO.bind ?_ (fun _ => ?_))
      | exact ih0 _ _ _ _ _
      | exact ih1 _ _ _ _ _ _ _
      | exact ih2 _ _ _ _ _
      | exact ih3 _ _ _ _ _ _ _ _
      | exact spec_GfMul.mono _ _ _
      | exact spec_l14Pow.mono _ _
      | exact spec_l14Solve.mono _ _
      | exact LeO.none _
      | refine LeO.ite ?_ ?_
      | refine LeO.bind ?_ (fun _ => ?_)
set_option maxHeartbeats 8000000 in
set_option maxRecDepth 100000 in
theorem spec_l14Places.calls (k : Nat) (A0 : Option Addr) (c0 : Nat) (l0 : List Int) (a1 : Int) (a2 : Int) (r1 : List Int) (r2 : Bool) (w : World) (hr0 : Kd.C (Kd.int .i64) w A0 l0.length l0) (hc0 : l0.length ≤ c0) (h : spec_l14Places.f k l0 a1 a2 = some (r1, r2)) :
  Calls Try.prog 49 #[.slice A0 l0.length c0, .int .i64 a1, .int .i64 a2] w fun e w' => ∃ v0_ : Value, e = .returned (.tuple #[v0_, .bool r2]) ∧ Kd.R (Kd.int .i64) 3 w' w.heap.size (fun _ => True) v0_ r1 ∧ Below w.heap.size w w' := by
 have HR0 := Aside0.mk hr0
 have HC0 := Aside0.mk hc0
 clear hr0 hc0
 have HB := Aside0.mk (Below.refl w.heap.size w)
 have H : (spec_l14Places.l0 k l0 a1 a2 (([] : List (List Int))) 0) = some (r1, r2) := h
 clear h
 obtain ⟨y319, hy319⟩ : ∃ y_ : List (List Int), y_ = (([] : List (List Int))) := ⟨_, rfl⟩
 replace H : (spec_l14Places.l0 k l0 a1 a2 y319 0) = some (r1, r2) := by first | (rw [hy319]; with_reducible exact H) | (have H2_ := (Option.bind_some _ _).symm.trans H; rw [hy319]; with_reducible exact H2_) | (have H2_ := (Option.bind_some _ _).symm.trans H; with_reducible exact H2_) | with_reducible exact H | (rw [hy319]; exact H) | exact H
 have Ny319 := Aside0.mk hy319
 clear hy319
 have H' := Aside0.mk H
 clear H
 go_enter Try.func49, Try.ntmps49
 go_wp2_with (first | ((with_reducible refine gate_dst (N := 19) rfl ?_); refine Kd.S_lit (Kd.slice 3 (Kd.int .i64)) _ 24 ?hg (N := 19) ?hd (xs := ([] : List (List Int))) (inner := []) (ok := fun _ => True) (okp := fun _ => True) ?hr ?hp (fun _ hk => hk) trivial (Below.refl _ _) (Nat.le_refl _) (by simp) ?_; (case hd => rfl); (case hg => rfl); (case hr => first | (go_simp; done) | (go_simp; rfl)); (case hp => exact (Reps.none _ _)); intro v320 w4 ho5 hb hg_ hnew_; clear hg_ hnew_; (first | rw [← Ny319.out] at ho5 | (simp only [Int.reduceToNat] at ho5; rw [← Ny319.out] at ho5)); have n0_ := Aside0.mk (Kd.S_lower ho5 (below_size zB)); have n1_ := Aside0.mk (below_step zB hb); clear HB; have HO321 := n0_; have HB := n1_; clear n0_ n1_; clear hb ho5))
 repeat (go_quiet (first | ((with_reducible refine gate_dst (N := 19) rfl ?_); refine Kd.S_lit (Kd.slice 3 (Kd.int .i64)) _ 24 ?hg (N := 19) ?hd (xs := ([] : List (List Int))) (inner := []) (ok := fun _ => True) (okp := fun _ => True) ?hr ?hp (fun _ hk => hk) trivial (Below.refl _ _) (Nat.le_refl _) (by simp) ?_; (case hd => rfl); (case hg => rfl); (case hr => first | (go_simp; done) | (go_simp; rfl)); (case hp => exact (Reps.none _ _)); intro v320 w4 ho5 hb hg_ hnew_; clear hg_ hnew_; (first | rw [← Ny319.out] at ho5 | (simp only [Int.reduceToNat] at ho5; rw [← Ny319.out] at ho5)); have n0_ := Aside0.mk (Kd.S_lower ho5 (below_size zB)); have n1_ := Aside0.mk (below_step zB hb); clear HB; have HO321 := n0_; have HB := n1_; clear n0_ n1_; clear hb ho5)); try go_wp2_with (first | ((with_reducible refine gate_dst (N := 19) rfl ?_); refine Kd.S_lit (Kd.slice 3 (Kd.int .i64)) _ 24 ?hg (N := 19) ?hd (xs := ([] : List (List Int))) (inner := []) (ok := fun _ => True) (okp := fun _ => True) ?hr ?hp (fun _ hk => hk) trivial (Below.refl _ _) (Nat.le_refl _) (by simp) ?_; (case hd => rfl); (case hg => rfl); (case hr => first | (go_simp; done) | (go_simp; rfl)); (case hp => exact (Reps.none _ _)); intro v320 w4 ho5 hb hg_ hnew_; clear hg_ hnew_; (first | rw [← Ny319.out] at ho5 | (simp only [Int.reduceToNat] at ho5; rw [← Ny319.out] at ho5)); have n0_ := Aside0.mk (Kd.S_lower ho5 (below_size zB)); have n1_ := Aside0.mk (below_step zB hb); clear HB; have HO321 := n0_; have HB := n1_; clear n0_ n1_; clear hb ho5)))
 go_loopg [8, 9] k (fun kq v8 v9 w' => ∃ (x8_1 : List (List Int)) (x9_1 : Int), v9 = .int .i64 x9_1 ∧ Aside0 (spec_l14Places.l0 kq l0 a1 a2 x8_1 x9_1 = some (r1, r2)) ∧ Aside0 (kq ≤ k) ∧ Aside0 (Kd.S (Kd.slice 3 (Kd.int .i64)) 24 w' w.heap.size (fun _ => True) v8 x8_1) ∧ Aside0 (Below w.heap.size w w'))
 case atStart => exact ⟨(y319), (0), zO, H', ⟨Nat.le_refl _⟩, ⟨zS HO321.out⟩, ⟨zB⟩⟩
 case round =>
 clear H'
 try clear p2
 try clear c4
 obtain ⟨x8_1, x9_1, rfl, HA, HK1, HO_8, HB⟩ := hrel
 cases gk with
 | zero => exact absurd HA.out (by simp [spec_l14Places.l0])
 | succ k1 =>
 have H := HA.out
 clear HA
 simp only [spec_l14Places.l0] at H
 by_cases c6 : x9_1 < a1
 ·rw [if_pos c6] at H
  have c6b0 := decide_eq_true c6
  clear c6
  obtain ⟨y322, hy322⟩ : ∃ y_ : List Int, y_ = (([] : List Int)) := ⟨_, rfl⟩
  replace H : (spec_l14Places.l1 k1 l0 a1 a2 x8_1 x9_1 y322 0) = some (r1, r2) := by first | (rw [hy322]; with_reducible exact H) | (have H2_ := (Option.bind_some _ _).symm.trans H; rw [hy322]; with_reducible exact H2_) | (have H2_ := (Option.bind_some _ _).symm.trans H; with_reducible exact H2_) | with_reducible exact H | (rw [hy322]; exact H) | exact H
  have Ny322 := Aside0.mk hy322
  clear hy322
  have H' := Aside0.mk H
  clear H
  go_wp2_with (first | ((with_reducible refine gate_dst (N := 25) rfl ?_); refine Kd.R_lit (Kd.int .i64) _ 3 ?hg (N := 25) ?hd (xs := ([] : List Int)) (inner := []) (ok := fun _ => True) (okp := fun _ => True) ?hr ?hp (fun _ hk => hk) trivial (Below.refl _ _) (Nat.le_refl _) (by simp) ?_; (case hd => rfl); (case hg => rfl); (case hr => first | (go_simp; done) | (go_simp; rfl)); (case hp => exact (Reps.none _ _)); intro v323 w7 ho8 hb hg_ hnew_; clear hg_ hnew_; (first | rw [← Ny322.out] at ho8 | (simp only [Int.reduceToNat] at ho8; rw [← Ny322.out] at ho8)); have n0_ := Aside0.mk (Kd.S_elder' (zS HO_8.out) (Kd.R_base ho8) hb); have n1_ := Aside0.mk (Kd.R_lower ho8 (below_size zB)); have n2_ := Aside0.mk (below_step zB hb); clear HO_8; clear HB; have HO_8 := n0_; have HO324 := n1_; have HB := n2_; clear n0_ n1_ n2_; clear hb ho8))
  repeat (go_quiet (first | ((with_reducible refine gate_dst (N := 25) rfl ?_); refine Kd.R_lit (Kd.int .i64) _ 3 ?hg (N := 25) ?hd (xs := ([] : List Int)) (inner := []) (ok := fun _ => True) (okp := fun _ => True) ?hr ?hp (fun _ hk => hk) trivial (Below.refl _ _) (Nat.le_refl _) (by simp) ?_; (case hd => rfl); (case hg => rfl); (case hr => first | (go_simp; done) | (go_simp; rfl)); (case hp => exact (Reps.none _ _)); intro v323 w7 ho8 hb hg_ hnew_; clear hg_ hnew_; (first | rw [← Ny322.out] at ho8 | (simp only [Int.reduceToNat] at ho8; rw [← Ny322.out] at ho8)); have n0_ := Aside0.mk (Kd.S_elder' (zS HO_8.out) (Kd.R_base ho8) hb); have n1_ := Aside0.mk (Kd.R_lower ho8 (below_size zB)); have n2_ := Aside0.mk (below_step zB hb); clear HO_8; clear HB; have HO_8 := n0_; have HO324 := n1_; have HB := n2_; clear n0_ n1_ n2_; clear hb ho8)); try go_wp2_with (first | ((with_reducible refine gate_dst (N := 25) rfl ?_); refine Kd.R_lit (Kd.int .i64) _ 3 ?hg (N := 25) ?hd (xs := ([] : List Int)) (inner := []) (ok := fun _ => True) (okp := fun _ => True) ?hr ?hp (fun _ hk => hk) trivial (Below.refl _ _) (Nat.le_refl _) (by simp) ?_; (case hd => rfl); (case hg => rfl); (case hr => first | (go_simp; done) | (go_simp; rfl)); (case hp => exact (Reps.none _ _)); intro v323 w7 ho8 hb hg_ hnew_; clear hg_ hnew_; (first | rw [← Ny322.out] at ho8 | (simp only [Int.reduceToNat] at ho8; rw [← Ny322.out] at ho8)); have n0_ := Aside0.mk (Kd.S_elder' (zS HO_8.out) (Kd.R_base ho8) hb); have n1_ := Aside0.mk (Kd.R_lower ho8 (below_size zB)); have n2_ := Aside0.mk (below_step zB hb); clear HO_8; clear HB; have HO_8 := n0_; have HO324 := n1_; have HB := n2_; clear n0_ n1_ n2_; clear hb ho8)))
  go_loopg [10, 11] k1 (fun kq v10 v11 w' => ∃ (x10_2 : List Int) (x11_2 : Int), v11 = .int .i64 x11_2 ∧ Aside0 (spec_l14Places.l1 kq l0 a1 a2 x8_1 x9_1 x10_2 x11_2 = some (r1, r2)) ∧ Aside0 (kq ≤ k1) ∧ Aside0 (Kd.S (Kd.slice 3 (Kd.int .i64)) 24 w' w.heap.size (fun k_ => some k_ ≠ (v10 : Value).ownBlock) u8 x8_1) ∧ Aside0 (Kd.R (Kd.int .i64) 3 w' w.heap.size (fun _ => True) v10 x10_2) ∧ Aside0 (Below w.heap.size w w'))
  case atStart => exact ⟨(y322), (0), zO, H', ⟨Nat.le_refl _⟩, ⟨by (with_reducible repeat (first | apply Kd.S_alloc | apply Kd.S_drewN | apply Kd.S_drew)); exact Kd.S_mono HO_8.out (fun _ hk => hk.2)⟩, ⟨zR HO324.out⟩, ⟨zB⟩⟩
  case round =>
  clear H'
  try clear p2
  try clear c4
  try clear c6
  try clear c6b0
  try clear p2
  obtain ⟨x10_2, x11_2, rfl, HA, HK2, HO_8, HO_10, HB⟩ := hrel
  cases gk with
  | zero => exact absurd HA.out (by simp [spec_l14Places.l1])
  | succ k2 =>
  have H := HA.out
  clear HA
  simp only [spec_l14Places.l1] at H
  by_cases c9 : x11_2 < a1
  ·rw [if_pos c9] at H
   have c9b0 := decide_eq_true c9
   clear c9
   obtain ⟨ji10, hji10⟩ : ∃ j_ : Int, (wrap64 (x9_1 + x11_2)) = j_ := ⟨_, rfl⟩
   replace H : (if 0 ≤ (ji10) then (if (ji10) < (l0.length : Int) then (if x10_2.length < 17592186044416 then (spec_l14Places.l1 k2 l0 a1 a2 x8_1 x9_1 (x10_2 ++ [rd l0 (ji10)]) (wrap64 (x11_2 + 1))) else (none)) else (none)) else (none)) = some (r1, r2) := by first | (rw [hji10] at H; exact H) | (simp only [hji10] at H ⊢; exact H)
   have hji10w : (IntKind.i64.wrap (x9_1 + x11_2)) = ji10 := (i64_w _).trans hji10
   replace H := zg H
   obtain ⟨c11, H⟩ := H
   have c11b0 : decide (0 ≤ (ji10)) = true := decide_eq_true c11
   clear c11
   replace H := zg H
   obtain ⟨c12, H⟩ := H
   have c12b0 : decide ((ji10) < (l0.length : Int)) = true := decide_eq_true c12
   clear c12
   replace H := zg H
   obtain ⟨c13, H⟩ := H
   have LMc13 := Aside0.mk c13
   clear c13
   obtain ⟨y326, hy326⟩ : ∃ y_ : List Int, y_ = (x10_2 ++ [rd l0 (ji10)]) := ⟨_, rfl⟩
   replace H : (spec_l14Places.l1 k2 l0 a1 a2 x8_1 x9_1 y326 (wrap64 (x11_2 + 1))) = some (r1, r2) := by first | (rw [hy326]; with_reducible exact H) | (have H2_ := (Option.bind_some _ _).symm.trans H; rw [hy326]; with_reducible exact H2_) | (have H2_ := (Option.bind_some _ _).symm.trans H; with_reducible exact H2_) | with_reducible exact H | (rw [hy326]; exact H) | exact H
   have Ny326 := Aside0.mk hy326
   clear hy326
   have H' := Aside0.mk H
   clear H
   have p325 : 0 ≤ ((ji10) : Int) := zD
   have q325 : (ji10) < (l0.length : Int) := zD
   obtain ⟨ad325, e325, hx325_0⟩ := Kd.at_int HR0.out (ji10) p325 q325
   cases e325
   replace hx325_0 := (HB.out.cell (World.block_lt_of_cell? w _ hx325_0)).trans hx325_0
   replace p325 := eq_true p325
   replace q325 := eq_true q325
   go_wp2_with (first | ((with_reducible refine gate_builtin (b := .append) (xs := #[.tmp 31, .tmp 38]) rfl ?_); at_builtin; refine Kd.R_append (Kd.int .i64) (w0 := w) w.heap.size rfl (.tmp 31) (.tmp 38) 24 3 (.int .i64 0) 8 rfl Try.underlying24 info3 rfl (by decide) (by omega) u10 x10_2 (rd l0 (ji10)) [.int .i64 (rd l0 (ji10))] (fun _ => True) (fun _ => False) rfl rfl ?aP (fun _ hk => hk.elim) ?aF ?aO ?aB ?aS ?aL ?_; (case aP => exact rfl); (case aB => exact zB); (case aF => exact (fun _ _ => trivial)); (case aO => exact (zR HO_10.out)); (case aS => exact (below_size zB)); (case aL => have := LMc13.out; omega); intro v327 w14 ho hb hg hat; rw [← Ny326.out] at ho; have n0_ := Aside0.mk (Kd.S_after (ok := (fun _ => True)) (by (with_reducible repeat (first | apply Kd.S_alloc | apply Kd.S_drewN | apply Kd.S_drew)); exact Kd.S_mono HO_8.out (fun _ hk => ⟨trivial, hk⟩)) hg hat); have n1_ := Aside0.mk (hb); have n2_ := Aside0.mk (ho); clear HO_8; clear HB; clear HO_10; have HO_8 := n0_; have HB := n1_; have HO328 := n2_; clear n0_ n1_ n2_; clear ho hb hg hat))
   repeat (go_quiet (first | ((with_reducible refine gate_builtin (b := .append) (xs := #[.tmp 31, .tmp 38]) rfl ?_); at_builtin; refine Kd.R_append (Kd.int .i64) (w0 := w) w.heap.size rfl (.tmp 31) (.tmp 38) 24 3 (.int .i64 0) 8 rfl Try.underlying24 info3 rfl (by decide) (by omega) u10 x10_2 (rd l0 (ji10)) [.int .i64 (rd l0 (ji10))] (fun _ => True) (fun _ => False) rfl rfl ?aP (fun _ hk => hk.elim) ?aF ?aO ?aB ?aS ?aL ?_; (case aP => exact rfl); (case aB => exact zB); (case aF => exact (fun _ _ => trivial)); (case aO => exact (zR HO_10.out)); (case aS => exact (below_size zB)); (case aL => have := LMc13.out; omega); intro v327 w14 ho hb hg hat; rw [← Ny326.out] at ho; have n0_ := Aside0.mk (Kd.S_after (ok := (fun _ => True)) (by (with_reducible repeat (first | apply Kd.S_alloc | apply Kd.S_drewN | apply Kd.S_drew)); exact Kd.S_mono HO_8.out (fun _ hk => ⟨trivial, hk⟩)) hg hat); have n1_ := Aside0.mk (hb); have n2_ := Aside0.mk (ho); clear HO_8; clear HB; clear HO_10; have HO_8 := n0_; have HB := n1_; have HO328 := n2_; clear n0_ n1_ n2_; clear ho hb hg hat)); try go_wp2_with (first | ((with_reducible refine gate_builtin (b := .append) (xs := #[.tmp 31, .tmp 38]) rfl ?_); at_builtin; refine Kd.R_append (Kd.int .i64) (w0 := w) w.heap.size rfl (.tmp 31) (.tmp 38) 24 3 (.int .i64 0) 8 rfl Try.underlying24 info3 rfl (by decide) (by omega) u10 x10_2 (rd l0 (ji10)) [.int .i64 (rd l0 (ji10))] (fun _ => True) (fun _ => False) rfl rfl ?aP (fun _ hk => hk.elim) ?aF ?aO ?aB ?aS ?aL ?_; (case aP => exact rfl); (case aB => exact zB); (case aF => exact (fun _ _ => trivial)); (case aO => exact (zR HO_10.out)); (case aS => exact (below_size zB)); (case aL => have := LMc13.out; omega); intro v327 w14 ho hb hg hat; rw [← Ny326.out] at ho; have n0_ := Aside0.mk (Kd.S_after (ok := (fun _ => True)) (by (with_reducible repeat (first | apply Kd.S_alloc | apply Kd.S_drewN | apply Kd.S_drew)); exact Kd.S_mono HO_8.out (fun _ hk => ⟨trivial, hk⟩)) hg hat); have n1_ := Aside0.mk (hb); have n2_ := Aside0.mk (ho); clear HO_8; clear HB; clear HO_10; have HO_8 := n0_; have HB := n1_; have HO328 := n2_; clear n0_ n1_ n2_; clear ho hb hg hat)))
   go_roundg k2
   case measure => have := HK1.out; have := HK2.out; omega
   case rel => exact ⟨(y326), (wrap64 (x11_2 + 1)), zO, H', ⟨by have := HK1.out; have := HK2.out; omega⟩, ⟨by (with_reducible repeat (first | apply Kd.S_alloc | apply Kd.S_drewN | apply Kd.S_drew)); exact Kd.S_mono HO_8.out (fun _ hk => hk.2)⟩, ⟨zR HO328.out⟩, ⟨zB⟩⟩
  rw [if_neg c9] at H
  have c9b0 := decide_eq_false c9
  clear c9
  obtain ⟨ji15, hji15⟩ : ∃ j_ : Int, (wrap64 (x9_1 + a1)) = j_ := ⟨_, rfl⟩
  replace H : (if 0 ≤ (ji15) then (if (ji15) < (l0.length : Int) then (if x10_2.length < 17592186044416 then (if x8_1.length < 5864062014805 then (spec_l14Places.l0 k2 l0 a1 a2 (x8_1 ++ [(x10_2 ++ [rd l0 (ji15)])]) (wrap64 (x9_1 + 1))) else (none)) else (none)) else (none)) else (none)) = some (r1, r2) := by first | (rw [hji15] at H; exact H) | (simp only [hji15] at H ⊢; exact H)
  have hji15w : (IntKind.i64.wrap (x9_1 + a1)) = ji15 := (i64_w _).trans hji15
  replace H := zg H
  obtain ⟨c16, H⟩ := H
  have c16b0 : decide (0 ≤ (ji15)) = true := decide_eq_true c16
  clear c16
  replace H := zg H
  obtain ⟨c17, H⟩ := H
  have c17b0 : decide ((ji15) < (l0.length : Int)) = true := decide_eq_true c17
  clear c17
  replace H := zg H
  obtain ⟨c18, H⟩ := H
  have LMc18 := Aside0.mk c18
  clear c18
  obtain ⟨y330, hy330⟩ : ∃ y_ : List Int, y_ = (x10_2 ++ [rd l0 (ji15)]) := ⟨_, rfl⟩
  replace H : (if x8_1.length < 5864062014805 then (spec_l14Places.l0 k2 l0 a1 a2 (x8_1 ++ [y330]) (wrap64 (x9_1 + 1))) else (none)) = some (r1, r2) := by first | (rw [hy330]; with_reducible exact H) | (have H2_ := (Option.bind_some _ _).symm.trans H; rw [hy330]; with_reducible exact H2_) | (have H2_ := (Option.bind_some _ _).symm.trans H; with_reducible exact H2_) | with_reducible exact H | (rw [hy330]; exact H) | exact H
  have Ny330 := Aside0.mk hy330
  clear hy330
  replace H := zg H
  obtain ⟨c19, H⟩ := H
  have LMc19 := Aside0.mk c19
  clear c19
  obtain ⟨y333, hy333⟩ : ∃ y_ : List (List Int), y_ = (x8_1 ++ [y330]) := ⟨_, rfl⟩
  replace H : (spec_l14Places.l0 k2 l0 a1 a2 y333 (wrap64 (x9_1 + 1))) = some (r1, r2) := by first | (rw [hy333]; with_reducible exact H) | (have H2_ := (Option.bind_some _ _).symm.trans H; rw [hy333]; with_reducible exact H2_) | (have H2_ := (Option.bind_some _ _).symm.trans H; with_reducible exact H2_) | with_reducible exact H | (rw [hy333]; exact H) | exact H
  have Ny333 := Aside0.mk hy333
  clear hy333
  have H' := Aside0.mk H
  clear H
  have p329 : 0 ≤ ((ji15) : Int) := zD
  have q329 : (ji15) < (l0.length : Int) := zD
  obtain ⟨ad329, e329, hx329_0⟩ := Kd.at_int HR0.out (ji15) p329 q329
  cases e329
  replace hx329_0 := (HB.out.cell (World.block_lt_of_cell? w _ hx329_0)).trans hx329_0
  replace p329 := eq_true p329
  replace q329 := eq_true q329
  go_wp2_with (first | ((with_reducible refine gate_builtin (b := .append) (xs := #[.tmp 41, .tmp 48]) rfl ?_); at_builtin; refine Kd.R_append (Kd.int .i64) (w0 := w) w.heap.size rfl (.tmp 41) (.tmp 48) 24 3 (.int .i64 0) 8 rfl Try.underlying24 info3 rfl (by decide) (by omega) u10 x10_2 (rd l0 (ji15)) [.int .i64 (rd l0 (ji15))] (fun _ => True) (fun _ => False) rfl rfl ?aP (fun _ hk => hk.elim) ?aF ?aO ?aB ?aS ?aL ?_; (case aP => exact rfl); (case aB => exact zB); (case aF => exact (fun _ _ => trivial)); (case aO => exact (zR HO_10.out)); (case aS => exact (below_size zB)); (case aL => have := LMc18.out; omega); intro v331 w20 ho hb hg hat; rw [← Ny330.out] at ho; have n0_ := Aside0.mk (Kd.S_after (ok := (fun _ => True)) (by (with_reducible repeat (first | apply Kd.S_alloc | apply Kd.S_drewN | apply Kd.S_drew)); exact Kd.S_mono HO_8.out (fun _ hk => ⟨trivial, hk⟩)) hg hat); have n1_ := Aside0.mk (hb); have n2_ := Aside0.mk (ho); clear HO_8; clear HB; clear HO_10; have HO_8 := n0_; have HB := n1_; have HO332 := n2_; clear n0_ n1_ n2_; clear ho hb hg hat; obtain ⟨Ao22, co22, eo22⟩ := Kd.R_slice HO332.out; subst eo22) | ((with_reducible refine gate_builtin (b := .append) (xs := #[.tmp 40, .tmp 50]) rfl ?_); at_builtin; refine Kd.S_append (Kd.slice 3 (Kd.int .i64)) (w0 := w) w.heap.size rfl (.tmp 40) (.tmp 50) 60 24 (.slice none 0 0) 24 rfl Try.underlying60 info24 rfl (by decide) (by omega) u8 x8_1 y330 [.slice Ao22 y330.length co22] (fun _ => True) (fun k_ => some k_ = (.slice Ao22 y330.length co22 : Value).ownBlock) rfl rfl ?aP (fun k_ hk_ => ((Kd.R_mono (ok' := fun k_ => ((fun _ => True)) k_ ∧ some k_ ≠ (u8 : Value).ownBlock) (Kd.R_apart' (HO332.out) (Kd.S_typed HO_8.out) (by decide)) (fun k_ hk => ⟨trivial, hk.2⟩))).1 k_ hk_.symm) ?aF ?aO ?aB ?aS ?aL ?_; (case aP => exact Kd.M_row (Kd.R_mono (Kd.R_tight rfl (Kd.R_mono (ok' := fun k_ => ((fun _ => True)) k_ ∧ some k_ ≠ (u8 : Value).ownBlock) (Kd.R_apart' (HO332.out) (Kd.S_typed HO_8.out) (by decide)) (fun k_ hk => ⟨trivial, hk.2⟩))) (fun _ h_ => h_))); (case aB => exact zB); (case aF => exact (fun _ _ => trivial)); (case aO => exact (by (with_reducible repeat (first | apply Kd.S_alloc | apply Kd.S_drewN | apply Kd.S_drew)); exact Kd.S_mono HO_8.out (fun k_ hk => ⟨trivial, fun e_ => hk.2 e_⟩))); (case aS => exact (below_size zB)); (case aL => have := LMc19.out; omega); intro v334 w21 ho hb hg hat; rw [← Ny333.out] at ho; have n0_ := Aside0.mk (hb); have n1_ := Aside0.mk (ho); clear HB; clear HO_8; clear HO332; have HB := n0_; have HO335 := n1_; clear n0_ n1_; clear ho hb hg hat))
  repeat (go_quiet (first | ((with_reducible refine gate_builtin (b := .append) (xs := #[.tmp 41, .tmp 48]) rfl ?_); at_builtin; refine Kd.R_append (Kd.int .i64) (w0 := w) w.heap.size rfl (.tmp 41) (.tmp 48) 24 3 (.int .i64 0) 8 rfl Try.underlying24 info3 rfl (by decide) (by omega) u10 x10_2 (rd l0 (ji15)) [.int .i64 (rd l0 (ji15))] (fun _ => True) (fun _ => False) rfl rfl ?aP (fun _ hk => hk.elim) ?aF ?aO ?aB ?aS ?aL ?_; (case aP => exact rfl); (case aB => exact zB); (case aF => exact (fun _ _ => trivial)); (case aO => exact (zR HO_10.out)); (case aS => exact (below_size zB)); (case aL => have := LMc18.out; omega); intro v331 w20 ho hb hg hat; rw [← Ny330.out] at ho; have n0_ := Aside0.mk (Kd.S_after (ok := (fun _ => True)) (by (with_reducible repeat (first | apply Kd.S_alloc | apply Kd.S_drewN | apply Kd.S_drew)); exact Kd.S_mono HO_8.out (fun _ hk => ⟨trivial, hk⟩)) hg hat); have n1_ := Aside0.mk (hb); have n2_ := Aside0.mk (ho); clear HO_8; clear HB; clear HO_10; have HO_8 := n0_; have HB := n1_; have HO332 := n2_; clear n0_ n1_ n2_; clear ho hb hg hat; obtain ⟨Ao22, co22, eo22⟩ := Kd.R_slice HO332.out; subst eo22) | ((with_reducible refine gate_builtin (b := .append) (xs := #[.tmp 40, .tmp 50]) rfl ?_); at_builtin; refine Kd.S_append (Kd.slice 3 (Kd.int .i64)) (w0 := w) w.heap.size rfl (.tmp 40) (.tmp 50) 60 24 (.slice none 0 0) 24 rfl Try.underlying60 info24 rfl (by decide) (by omega) u8 x8_1 y330 [.slice Ao22 y330.length co22] (fun _ => True) (fun k_ => some k_ = (.slice Ao22 y330.length co22 : Value).ownBlock) rfl rfl ?aP (fun k_ hk_ => ((Kd.R_mono (ok' := fun k_ => ((fun _ => True)) k_ ∧ some k_ ≠ (u8 : Value).ownBlock) (Kd.R_apart' (HO332.out) (Kd.S_typed HO_8.out) (by decide)) (fun k_ hk => ⟨trivial, hk.2⟩))).1 k_ hk_.symm) ?aF ?aO ?aB ?aS ?aL ?_; (case aP => exact Kd.M_row (Kd.R_mono (Kd.R_tight rfl (Kd.R_mono (ok' := fun k_ => ((fun _ => True)) k_ ∧ some k_ ≠ (u8 : Value).ownBlock) (Kd.R_apart' (HO332.out) (Kd.S_typed HO_8.out) (by decide)) (fun k_ hk => ⟨trivial, hk.2⟩))) (fun _ h_ => h_))); (case aB => exact zB); (case aF => exact (fun _ _ => trivial)); (case aO => exact (by (with_reducible repeat (first | apply Kd.S_alloc | apply Kd.S_drewN | apply Kd.S_drew)); exact Kd.S_mono HO_8.out (fun k_ hk => ⟨trivial, fun e_ => hk.2 e_⟩))); (case aS => exact (below_size zB)); (case aL => have := LMc19.out; omega); intro v334 w21 ho hb hg hat; rw [← Ny333.out] at ho; have n0_ := Aside0.mk (hb); have n1_ := Aside0.mk (ho); clear HB; clear HO_8; clear HO332; have HB := n0_; have HO335 := n1_; clear n0_ n1_; clear ho hb hg hat)); try go_wp2_with (first | ((with_reducible refine gate_builtin (b := .append) (xs := #[.tmp 41, .tmp 48]) rfl ?_); at_builtin; refine Kd.R_append (Kd.int .i64) (w0 := w) w.heap.size rfl (.tmp 41) (.tmp 48) 24 3 (.int .i64 0) 8 rfl Try.underlying24 info3 rfl (by decide) (by omega) u10 x10_2 (rd l0 (ji15)) [.int .i64 (rd l0 (ji15))] (fun _ => True) (fun _ => False) rfl rfl ?aP (fun _ hk => hk.elim) ?aF ?aO ?aB ?aS ?aL ?_; (case aP => exact rfl); (case aB => exact zB); (case aF => exact (fun _ _ => trivial)); (case aO => exact (zR HO_10.out)); (case aS => exact (below_size zB)); (case aL => have := LMc18.out; omega); intro v331 w20 ho hb hg hat; rw [← Ny330.out] at ho; have n0_ := Aside0.mk (Kd.S_after (ok := (fun _ => True)) (by (with_reducible repeat (first | apply Kd.S_alloc | apply Kd.S_drewN | apply Kd.S_drew)); exact Kd.S_mono HO_8.out (fun _ hk => ⟨trivial, hk⟩)) hg hat); have n1_ := Aside0.mk (hb); have n2_ := Aside0.mk (ho); clear HO_8; clear HB; clear HO_10; have HO_8 := n0_; have HB := n1_; have HO332 := n2_; clear n0_ n1_ n2_; clear ho hb hg hat; obtain ⟨Ao22, co22, eo22⟩ := Kd.R_slice HO332.out; subst eo22) | ((with_reducible refine gate_builtin (b := .append) (xs := #[.tmp 40, .tmp 50]) rfl ?_); at_builtin; refine Kd.S_append (Kd.slice 3 (Kd.int .i64)) (w0 := w) w.heap.size rfl (.tmp 40) (.tmp 50) 60 24 (.slice none 0 0) 24 rfl Try.underlying60 info24 rfl (by decide) (by omega) u8 x8_1 y330 [.slice Ao22 y330.length co22] (fun _ => True) (fun k_ => some k_ = (.slice Ao22 y330.length co22 : Value).ownBlock) rfl rfl ?aP (fun k_ hk_ => ((Kd.R_mono (ok' := fun k_ => ((fun _ => True)) k_ ∧ some k_ ≠ (u8 : Value).ownBlock) (Kd.R_apart' (HO332.out) (Kd.S_typed HO_8.out) (by decide)) (fun k_ hk => ⟨trivial, hk.2⟩))).1 k_ hk_.symm) ?aF ?aO ?aB ?aS ?aL ?_; (case aP => exact Kd.M_row (Kd.R_mono (Kd.R_tight rfl (Kd.R_mono (ok' := fun k_ => ((fun _ => True)) k_ ∧ some k_ ≠ (u8 : Value).ownBlock) (Kd.R_apart' (HO332.out) (Kd.S_typed HO_8.out) (by decide)) (fun k_ hk => ⟨trivial, hk.2⟩))) (fun _ h_ => h_))); (case aB => exact zB); (case aF => exact (fun _ _ => trivial)); (case aO => exact (by (with_reducible repeat (first | apply Kd.S_alloc | apply Kd.S_drewN | apply Kd.S_drew)); exact Kd.S_mono HO_8.out (fun k_ hk => ⟨trivial, fun e_ => hk.2 e_⟩))); (case aS => exact (below_size zB)); (case aL => have := LMc19.out; omega); intro v334 w21 ho hb hg hat; rw [← Ny333.out] at ho; have n0_ := Aside0.mk (hb); have n1_ := Aside0.mk (ho); clear HB; clear HO_8; clear HO332; have HB := n0_; have HO335 := n1_; clear n0_ n1_; clear ho hb hg hat)))
  go_roundg k2
  case measure => have := HK1.out; have := HK2.out; omega
  case rel => exact ⟨(y333), (wrap64 (x9_1 + 1)), zO, H', ⟨by have := HK1.out; have := HK2.out; omega⟩, ⟨zS HO335.out⟩, ⟨zB⟩⟩
 rw [if_neg c6] at H
 have c6b0 := decide_eq_false c6
 clear c6
 replace H := Option.bind_eq_some_iff.mp H
 obtain ⟨⟨t336, t337⟩, A230, H⟩ := H
 replace H : (if t337 = true then (spec_l14Places.l2 k1 a1 a2 t336 (([] : List Int)) 0) else (some ((([] : List Int)), false))) = some (r1, r2) := H
 have A23 := Aside0.mk A230
 clear A230
 by_cases c24 : t337 = true
 rotate_left
 ·replace c24 := Bool.eq_false_iff.mpr c24
  subst c24
  have H1 : (some ((([] : List Int)), false)) = some (r1, r2) := by rw [if_neg (show ¬ (false = true) by decide)] at H; exact H
  clear H
  have H := H1
  clear H1
  obtain ⟨y340, hy340⟩ : ∃ y_ : List Int, y_ = (([] : List Int)) := ⟨_, rfl⟩
  replace H : (some (y340, false)) = some (r1, r2) := by first | (rw [hy340]; with_reducible exact H) | (have H2_ := (Option.bind_some _ _).symm.trans H; rw [hy340]; with_reducible exact H2_) | (have H2_ := (Option.bind_some _ _).symm.trans H; with_reducible exact H2_) | with_reducible exact H | (rw [hy340]; exact H) | exact H
  have Ny340 := Aside0.mk hy340
  clear hy340
  simp only [Option.some.injEq, Prod.mk.injEq] at H
  obtain ⟨rfl, rfl⟩ := H
  obtain ⟨Ao40, co40, eo40⟩ := Kd.S_slice HO_8.out
  subst eo40
  go_wp2_with (first | (go_at_call 55; (with_reducible refine (spec_l14Solve.calls k1 _ _ x8_1 t336 false _ ?side1 ?side2 A23.out).mono ?_); (case side1 => exact MX_of_S (zS HO_8.out)); (case side2 => exact (Kd.S_reads' HO_8.out).2.1); rintro e w41 ⟨v338, rfl, ho0, hb⟩; have n0_ : Aside0 (Kd.S (Kd.slice 3 (Kd.int .i64)) 24 w41 w.heap.size (fun _ => True) (.slice none 0 0) ([] : List (List Int))) := ⟨Kd.S_nil _ _ _ _ _⟩; have n1_ := Aside0.mk (Kd.R_lower ho0 (below_size zB)); have n2_ := Aside0.mk (pw_below_grown zB _ (below_size zB) hb (Kd.S_base HO_8.out)); clear HO_8; clear HB; have HO_8 := n0_; have HO339 := n1_; have HB := n2_; clear n0_ n1_ n2_; (try clear hb); (try clear hb2); (try clear hk); (try clear hi); (try clear ho0)) | ((with_reducible refine gate_dst (N := 59) rfl ?_); refine Kd.R_lit (Kd.int .i64) _ 3 ?hg (N := 59) ?hd (xs := ([] : List Int)) (inner := []) (ok := fun _ => True) (okp := fun _ => True) ?hr ?hp (fun _ hk => hk) trivial (Below.refl _ _) (Nat.le_refl _) (by simp) ?_; (case hd => rfl); (case hg => rfl); (case hr => first | (go_simp; done) | (go_simp; rfl)); (case hp => exact (Reps.none _ _)); intro v341 w42 ho43 hb hg_ hnew_; clear hg_ hnew_; (first | rw [← Ny340.out] at ho43 | (simp only [Int.reduceToNat] at ho43; rw [← Ny340.out] at ho43)); have n0_ := Aside0.mk (Kd.S_elder' (zS HO_8.out) (Kd.R_base ho43) hb); have n1_ := Aside0.mk (Kd.R_elder' (zR HO339.out) (Kd.R_base ho43) hb); have n2_ := Aside0.mk (Kd.R_lower (Kd.R_new' ho43 (Kd.R_lt (zR HO339.out))) (below_size zB)); have n3_ := Aside0.mk (below_step zB hb); clear HO_8; clear HO339; clear HB; have HO_8 := n0_; have HO339 := n1_; have HO342 := n2_; have HB := n3_; clear n0_ n1_ n2_ n3_; clear hb ho43))
  repeat (go_quiet (first | (go_at_call 55; (with_reducible refine (spec_l14Solve.calls k1 _ _ x8_1 t336 false _ ?side1 ?side2 A23.out).mono ?_); (case side1 => exact MX_of_S (zS HO_8.out)); (case side2 => exact (Kd.S_reads' HO_8.out).2.1); rintro e w41 ⟨v338, rfl, ho0, hb⟩; have n0_ : Aside0 (Kd.S (Kd.slice 3 (Kd.int .i64)) 24 w41 w.heap.size (fun _ => True) (.slice none 0 0) ([] : List (List Int))) := ⟨Kd.S_nil _ _ _ _ _⟩; have n1_ := Aside0.mk (Kd.R_lower ho0 (below_size zB)); have n2_ := Aside0.mk (pw_below_grown zB _ (below_size zB) hb (Kd.S_base HO_8.out)); clear HO_8; clear HB; have HO_8 := n0_; have HO339 := n1_; have HB := n2_; clear n0_ n1_ n2_; (try clear hb); (try clear hb2); (try clear hk); (try clear hi); (try clear ho0)) | ((with_reducible refine gate_dst (N := 59) rfl ?_); refine Kd.R_lit (Kd.int .i64) _ 3 ?hg (N := 59) ?hd (xs := ([] : List Int)) (inner := []) (ok := fun _ => True) (okp := fun _ => True) ?hr ?hp (fun _ hk => hk) trivial (Below.refl _ _) (Nat.le_refl _) (by simp) ?_; (case hd => rfl); (case hg => rfl); (case hr => first | (go_simp; done) | (go_simp; rfl)); (case hp => exact (Reps.none _ _)); intro v341 w42 ho43 hb hg_ hnew_; clear hg_ hnew_; (first | rw [← Ny340.out] at ho43 | (simp only [Int.reduceToNat] at ho43; rw [← Ny340.out] at ho43)); have n0_ := Aside0.mk (Kd.S_elder' (zS HO_8.out) (Kd.R_base ho43) hb); have n1_ := Aside0.mk (Kd.R_elder' (zR HO339.out) (Kd.R_base ho43) hb); have n2_ := Aside0.mk (Kd.R_lower (Kd.R_new' ho43 (Kd.R_lt (zR HO339.out))) (below_size zB)); have n3_ := Aside0.mk (below_step zB hb); clear HO_8; clear HO339; clear HB; have HO_8 := n0_; have HO339 := n1_; have HO342 := n2_; have HB := n3_; clear n0_ n1_ n2_ n3_; clear hb ho43)); try go_wp2_with (first | (go_at_call 55; (with_reducible refine (spec_l14Solve.calls k1 _ _ x8_1 t336 false _ ?side1 ?side2 A23.out).mono ?_); (case side1 => exact MX_of_S (zS HO_8.out)); (case side2 => exact (Kd.S_reads' HO_8.out).2.1); rintro e w41 ⟨v338, rfl, ho0, hb⟩; have n0_ : Aside0 (Kd.S (Kd.slice 3 (Kd.int .i64)) 24 w41 w.heap.size (fun _ => True) (.slice none 0 0) ([] : List (List Int))) := ⟨Kd.S_nil _ _ _ _ _⟩; have n1_ := Aside0.mk (Kd.R_lower ho0 (below_size zB)); have n2_ := Aside0.mk (pw_below_grown zB _ (below_size zB) hb (Kd.S_base HO_8.out)); clear HO_8; clear HB; have HO_8 := n0_; have HO339 := n1_; have HB := n2_; clear n0_ n1_ n2_; (try clear hb); (try clear hb2); (try clear hk); (try clear hi); (try clear ho0)) | ((with_reducible refine gate_dst (N := 59) rfl ?_); refine Kd.R_lit (Kd.int .i64) _ 3 ?hg (N := 59) ?hd (xs := ([] : List Int)) (inner := []) (ok := fun _ => True) (okp := fun _ => True) ?hr ?hp (fun _ hk => hk) trivial (Below.refl _ _) (Nat.le_refl _) (by simp) ?_; (case hd => rfl); (case hg => rfl); (case hr => first | (go_simp; done) | (go_simp; rfl)); (case hp => exact (Reps.none _ _)); intro v341 w42 ho43 hb hg_ hnew_; clear hg_ hnew_; (first | rw [← Ny340.out] at ho43 | (simp only [Int.reduceToNat] at ho43; rw [← Ny340.out] at ho43)); have n0_ := Aside0.mk (Kd.S_elder' (zS HO_8.out) (Kd.R_base ho43) hb); have n1_ := Aside0.mk (Kd.R_elder' (zR HO339.out) (Kd.R_base ho43) hb); have n2_ := Aside0.mk (Kd.R_lower (Kd.R_new' ho43 (Kd.R_lt (zR HO339.out))) (below_size zB)); have n3_ := Aside0.mk (below_step zB hb); clear HO_8; clear HO339; clear HB; have HO_8 := n0_; have HO339 := n1_; have HO342 := n2_; have HB := n3_; clear n0_ n1_ n2_ n3_; clear hb ho43)))
  go_ret2
  exact ⟨_, zE, by (with_reducible repeat (first | apply Kd.R_alloc | apply Kd.R_drewN | apply Kd.R_drew)); exact Kd.R_mono HO342.out (fun _ hk => trivial), zB⟩
 subst c24
 have H1 : (spec_l14Places.l2 k1 a1 a2 t336 (([] : List Int)) 0) = some (r1, r2) := by rw [if_pos rfl] at H; exact H
 clear H
 have H := H1
 clear H1
 obtain ⟨y343, hy343⟩ : ∃ y_ : List Int, y_ = (([] : List Int)) := ⟨_, rfl⟩
 replace H : (spec_l14Places.l2 k1 a1 a2 t336 y343 0) = some (r1, r2) := by first | (rw [hy343]; with_reducible exact H) | (have H2_ := (Option.bind_some _ _).symm.trans H; rw [hy343]; with_reducible exact H2_) | (have H2_ := (Option.bind_some _ _).symm.trans H; with_reducible exact H2_) | with_reducible exact H | (rw [hy343]; exact H) | exact H
 have Ny343 := Aside0.mk hy343
 clear hy343
 have H' := Aside0.mk H
 clear H
 obtain ⟨Ao25, co25, eo25⟩ := Kd.S_slice HO_8.out
 subst eo25
 go_wp2_with (first | (go_at_call 55; (with_reducible refine (spec_l14Solve.calls k1 _ _ x8_1 t336 true _ ?side1 ?side2 A23.out).mono ?_); (case side1 => exact MX_of_S (zS HO_8.out)); (case side2 => exact (Kd.S_reads' HO_8.out).2.1); rintro e w26 ⟨v338, rfl, ho0, hb⟩; have n0_ : Aside0 (Kd.S (Kd.slice 3 (Kd.int .i64)) 24 w26 w.heap.size (fun _ => True) (.slice none 0 0) ([] : List (List Int))) := ⟨Kd.S_nil _ _ _ _ _⟩; have n1_ := Aside0.mk (Kd.R_lower ho0 (below_size zB)); have n2_ := Aside0.mk (pw_below_grown zB _ (below_size zB) hb (Kd.S_base HO_8.out)); clear HO_8; clear HB; have HO_8 := n0_; have HO339 := n1_; have HB := n2_; clear n0_ n1_ n2_; (try clear hb); (try clear hb2); (try clear hk); (try clear hi); (try clear ho0)) | ((with_reducible refine gate_dst (N := 60) rfl ?_); refine Kd.R_lit (Kd.int .i64) _ 3 ?hg (N := 60) ?hd (xs := ([] : List Int)) (inner := []) (ok := fun _ => True) (okp := fun _ => True) ?hr ?hp (fun _ hk => hk) trivial (Below.refl _ _) (Nat.le_refl _) (by simp) ?_; (case hd => rfl); (case hg => rfl); (case hr => first | (go_simp; done) | (go_simp; rfl)); (case hp => exact (Reps.none _ _)); intro v344 w27 ho28 hb hg_ hnew_; clear hg_ hnew_; (first | rw [← Ny343.out] at ho28 | (simp only [Int.reduceToNat] at ho28; rw [← Ny343.out] at ho28)); have n0_ := Aside0.mk (Kd.S_elder' (zS HO_8.out) (Kd.R_base ho28) hb); have n1_ := Aside0.mk (Kd.R_elder' (zR HO339.out) (Kd.R_base ho28) hb); have n2_ := Aside0.mk (Kd.R_lower (Kd.R_new' ho28 (Kd.R_lt (zR HO339.out))) (below_size zB)); have n3_ := Aside0.mk (below_step zB hb); clear HO_8; clear HO339; clear HB; have HO_8 := n0_; have HO339 := n1_; have HO345 := n2_; have HB := n3_; clear n0_ n1_ n2_ n3_; clear hb ho28))
 repeat (go_quiet (first | (go_at_call 55; (with_reducible refine (spec_l14Solve.calls k1 _ _ x8_1 t336 true _ ?side1 ?side2 A23.out).mono ?_); (case side1 => exact MX_of_S (zS HO_8.out)); (case side2 => exact (Kd.S_reads' HO_8.out).2.1); rintro e w26 ⟨v338, rfl, ho0, hb⟩; have n0_ : Aside0 (Kd.S (Kd.slice 3 (Kd.int .i64)) 24 w26 w.heap.size (fun _ => True) (.slice none 0 0) ([] : List (List Int))) := ⟨Kd.S_nil _ _ _ _ _⟩; have n1_ := Aside0.mk (Kd.R_lower ho0 (below_size zB)); have n2_ := Aside0.mk (pw_below_grown zB _ (below_size zB) hb (Kd.S_base HO_8.out)); clear HO_8; clear HB; have HO_8 := n0_; have HO339 := n1_; have HB := n2_; clear n0_ n1_ n2_; (try clear hb); (try clear hb2); (try clear hk); (try clear hi); (try clear ho0)) | ((with_reducible refine gate_dst (N := 60) rfl ?_); refine Kd.R_lit (Kd.int .i64) _ 3 ?hg (N := 60) ?hd (xs := ([] : List Int)) (inner := []) (ok := fun _ => True) (okp := fun _ => True) ?hr ?hp (fun _ hk => hk) trivial (Below.refl _ _) (Nat.le_refl _) (by simp) ?_; (case hd => rfl); (case hg => rfl); (case hr => first | (go_simp; done) | (go_simp; rfl)); (case hp => exact (Reps.none _ _)); intro v344 w27 ho28 hb hg_ hnew_; clear hg_ hnew_; (first | rw [← Ny343.out] at ho28 | (simp only [Int.reduceToNat] at ho28; rw [← Ny343.out] at ho28)); have n0_ := Aside0.mk (Kd.S_elder' (zS HO_8.out) (Kd.R_base ho28) hb); have n1_ := Aside0.mk (Kd.R_elder' (zR HO339.out) (Kd.R_base ho28) hb); have n2_ := Aside0.mk (Kd.R_lower (Kd.R_new' ho28 (Kd.R_lt (zR HO339.out))) (below_size zB)); have n3_ := Aside0.mk (below_step zB hb); clear HO_8; clear HO339; clear HB; have HO_8 := n0_; have HO339 := n1_; have HO345 := n2_; have HB := n3_; clear n0_ n1_ n2_ n3_; clear hb ho28)); try go_wp2_with (first | (go_at_call 55; (with_reducible refine (spec_l14Solve.calls k1 _ _ x8_1 t336 true _ ?side1 ?side2 A23.out).mono ?_); (case side1 => exact MX_of_S (zS HO_8.out)); (case side2 => exact (Kd.S_reads' HO_8.out).2.1); rintro e w26 ⟨v338, rfl, ho0, hb⟩; have n0_ : Aside0 (Kd.S (Kd.slice 3 (Kd.int .i64)) 24 w26 w.heap.size (fun _ => True) (.slice none 0 0) ([] : List (List Int))) := ⟨Kd.S_nil _ _ _ _ _⟩; have n1_ := Aside0.mk (Kd.R_lower ho0 (below_size zB)); have n2_ := Aside0.mk (pw_below_grown zB _ (below_size zB) hb (Kd.S_base HO_8.out)); clear HO_8; clear HB; have HO_8 := n0_; have HO339 := n1_; have HB := n2_; clear n0_ n1_ n2_; (try clear hb); (try clear hb2); (try clear hk); (try clear hi); (try clear ho0)) | ((with_reducible refine gate_dst (N := 60) rfl ?_); refine Kd.R_lit (Kd.int .i64) _ 3 ?hg (N := 60) ?hd (xs := ([] : List Int)) (inner := []) (ok := fun _ => True) (okp := fun _ => True) ?hr ?hp (fun _ hk => hk) trivial (Below.refl _ _) (Nat.le_refl _) (by simp) ?_; (case hd => rfl); (case hg => rfl); (case hr => first | (go_simp; done) | (go_simp; rfl)); (case hp => exact (Reps.none _ _)); intro v344 w27 ho28 hb hg_ hnew_; clear hg_ hnew_; (first | rw [← Ny343.out] at ho28 | (simp only [Int.reduceToNat] at ho28; rw [← Ny343.out] at ho28)); have n0_ := Aside0.mk (Kd.S_elder' (zS HO_8.out) (Kd.R_base ho28) hb); have n1_ := Aside0.mk (Kd.R_elder' (zR HO339.out) (Kd.R_base ho28) hb); have n2_ := Aside0.mk (Kd.R_lower (Kd.R_new' ho28 (Kd.R_lt (zR HO339.out))) (below_size zB)); have n3_ := Aside0.mk (below_step zB hb); clear HO_8; clear HO339; clear HB; have HO_8 := n0_; have HO339 := n1_; have HO345 := n2_; have HB := n3_; clear n0_ n1_ n2_ n3_; clear hb ho28)))
 go_loopg [14, 15] k1 (fun kq v14 v15 w' => ∃ (x14_2 : List Int) (x15_2 : Int), v15 = .int .i64 x15_2 ∧ Aside0 (spec_l14Places.l2 kq a1 a2 t336 x14_2 x15_2 = some (r1, r2)) ∧ Aside0 (kq ≤ k1) ∧ Aside0 (Kd.R (Kd.int .i64) 3 w' w.heap.size (fun k_ => some k_ ≠ (v14 : Value).ownBlock) v338 t336) ∧ Aside0 (Kd.R (Kd.int .i64) 3 w' w.heap.size (fun k_ => some k_ ≠ (v338 : Value).ownBlock) v14 x14_2) ∧ Aside0 (Below w.heap.size w w'))
 case atStart => exact ⟨(y343), (0), zO, H', ⟨Nat.le_refl _⟩, ⟨by (with_reducible repeat (first | apply Kd.R_alloc | apply Kd.R_drewN | apply Kd.R_drew)); exact Kd.R_mono HO339.out (fun _ hk => hk.2)⟩, ⟨by (with_reducible repeat (first | apply Kd.R_alloc | apply Kd.R_drewN | apply Kd.R_drew)); exact Kd.R_mono HO345.out (fun _ hk => hk.2)⟩, ⟨zB⟩⟩
 case round =>
 clear H'
 try clear c1
 try clear c2
 try clear p2
 try clear p3
 try clear q3
 try clear hx3
 try clear c4
 try clear c6
 try clear c6b0
 try clear p6
 try clear c9
 try clear c9b0
 try clear c11
 try clear c11b0
 try clear c12
 try clear c12b0
 try clear c13
 try clear c16
 try clear c16b0
 try clear c17
 try clear c17b0
 try clear c18
 try clear c19
 try clear c24
 try clear hx325_0
 try clear hx329_0
 try clear p2
 try clear p325
 try clear p329
 try clear q325
 try clear q329
 obtain ⟨x14_2, x15_2, rfl, HA, HK2, HO_12, HO_14, HB⟩ := hrel
 cases gk with
 | zero => exact absurd HA.out (by simp [spec_l14Places.l2])
 | succ k2 =>
 have H := HA.out
 clear HA
 simp only [spec_l14Places.l2] at H
 by_cases c29 : x15_2 < a2
 rotate_left
 ·rw [if_neg c29] at H
  have c29b0 := decide_eq_false c29
  clear c29
  simp only [Option.some.injEq, Prod.mk.injEq] at H
  obtain ⟨rfl, rfl⟩ := H
  obtain ⟨Ao39, co39, eo39⟩ := Kd.R_slice HO_14.out
  subst eo39
  go_wp2
  repeat (go_quiet (fail); try go_wp2)
  go_ret2
  exact ⟨_, zE, by (with_reducible repeat (first | apply Kd.R_alloc | apply Kd.R_drewN | apply Kd.R_drew)); exact Kd.R_mono HO_14.out (fun _ hk => trivial), zB⟩
 rw [if_pos c29] at H
 have c29b0 := decide_eq_true c29
 clear c29
 replace H := zi H
 obtain ⟨t346, A30, H⟩ := H
 have H' := Aside0.mk H
 clear H
 go_wp2_with (first | (go_at_call 47; (with_reducible refine (spec_l14Pow.calls k2 (wrap64 ((wrap64 (a2 - 1)) - x15_2)) t346 _ A30.out).mono ?_); rintro e w' ⟨rfl, ⟨nd, rfl⟩⟩; (try exact zZ)))
 repeat (go_quiet (first | (go_at_call 47; (with_reducible refine (spec_l14Pow.calls k2 (wrap64 ((wrap64 (a2 - 1)) - x15_2)) t346 _ A30.out).mono ?_); rintro e w' ⟨rfl, ⟨nd, rfl⟩⟩; (try exact zZ))); try go_wp2_with (first | (go_at_call 47; (with_reducible refine (spec_l14Pow.calls k2 (wrap64 ((wrap64 (a2 - 1)) - x15_2)) t346 _ A30.out).mono ?_); rintro e w' ⟨rfl, ⟨nd, rfl⟩⟩; (try exact zZ))))
 go_loopg [17, 18] k2 (fun kq v17 v18 w' => ∃ (x17_3 : Int) (x18_3 : Int), v17 = .int .i64 x17_3 ∧ v18 = .int .i64 x18_3 ∧ Aside0 (spec_l14Places.l3 kq a1 a2 t336 x14_2 x15_2 t346 x17_3 x18_3 = some (r1, r2)) ∧ Aside0 (kq ≤ k2) ∧ Aside0 (Kd.R (Kd.int .i64) 3 w' w.heap.size (fun k_ => some k_ ≠ (u14 : Value).ownBlock) v338 t336) ∧ Aside0 (Kd.R (Kd.int .i64) 3 w' w.heap.size (fun k_ => some k_ ≠ (v338 : Value).ownBlock) u14 x14_2) ∧ Aside0 (Below w.heap.size w w'))
 case atStart => exact ⟨(1), (wrap64 (a1 - 1)), zO, zO, H', ⟨Nat.le_refl _⟩, ⟨zR HO_12.out⟩, ⟨zR HO_14.out⟩, ⟨zB⟩⟩
 case round =>
 clear H'
 try clear c1
 try clear c2
 try clear p2
 try clear p3
 try clear q3
 try clear hx3
 try clear c4
 try clear c6
 try clear c6b0
 try clear p6
 try clear c9
 try clear c9b0
 try clear c11
 try clear c11b0
 try clear c12
 try clear c12b0
 try clear c13
 try clear c16
 try clear c16b0
 try clear c17
 try clear c17b0
 try clear c18
 try clear c19
 try clear c24
 try clear c29
 try clear c29b0
 try clear hx325_0
 try clear hx329_0
 try clear p2
 try clear p3
 try clear p325
 try clear p329
 try clear p6
 try clear q3
 try clear q325
 try clear q329
 obtain ⟨x17_3, x18_3, rfl, rfl, HA, HK3, HO_12, HO_14, HB⟩ := hrel
 cases gk with
 | zero => exact absurd HA.out (by simp [spec_l14Places.l3])
 | succ k3 =>
 have H := HA.out
 clear HA
 simp only [spec_l14Places.l3] at H
 by_cases c31 : x18_3 ≥ 0
 ·rw [if_pos c31] at H
  have c31b0 : decide (0 ≤ x18_3) = true := decide_eq_true c31
  clear c31
  replace H := zi H
  obtain ⟨t347, A32, H⟩ := H
  replace H := zg H
  obtain ⟨c33, H⟩ := H
  have c33b0 : decide (0 ≤ x18_3) = true := decide_eq_true c33
  clear c33
  replace H := zg H
  obtain ⟨c34, H⟩ := H
  have c34b0 : decide (x18_3 < (t336.length : Int)) = true := decide_eq_true c34
  clear c34
  have H' := Aside0.mk H
  clear H
  go_wp2_with (first | (go_at_call 46; (with_reducible refine (spec_GfMul.calls k3 x17_3 t346 t347 _ A32.out).mono ?_); rintro e w' ⟨rfl, ⟨nd, rfl⟩⟩; (try exact zZ); obtain ⟨Ao35, co35, eo35⟩ := Kd.R_slice HO_12.out; subst eo35; have p348 : 0 ≤ (x18_3 : Int) := zD; have q348 : x18_3 < (t336.length : Int) := zD; obtain ⟨ad348, e348, hx348_0⟩ := Kd.at_int (Kd.R_reads' HO_12.out).2.2 x18_3 p348 q348; cases e348; replace p348 := eq_true p348; replace q348 := eq_true q348))
  repeat (go_quiet (first | (go_at_call 46; (with_reducible refine (spec_GfMul.calls k3 x17_3 t346 t347 _ A32.out).mono ?_); rintro e w' ⟨rfl, ⟨nd, rfl⟩⟩; (try exact zZ); obtain ⟨Ao35, co35, eo35⟩ := Kd.R_slice HO_12.out; subst eo35; have p348 : 0 ≤ (x18_3 : Int) := zD; have q348 : x18_3 < (t336.length : Int) := zD; obtain ⟨ad348, e348, hx348_0⟩ := Kd.at_int (Kd.R_reads' HO_12.out).2.2 x18_3 p348 q348; cases e348; replace p348 := eq_true p348; replace q348 := eq_true q348)); try go_wp2_with (first | (go_at_call 46; (with_reducible refine (spec_GfMul.calls k3 x17_3 t346 t347 _ A32.out).mono ?_); rintro e w' ⟨rfl, ⟨nd, rfl⟩⟩; (try exact zZ); obtain ⟨Ao35, co35, eo35⟩ := Kd.R_slice HO_12.out; subst eo35; have p348 : 0 ≤ (x18_3 : Int) := zD; have q348 : x18_3 < (t336.length : Int) := zD; obtain ⟨ad348, e348, hx348_0⟩ := Kd.at_int (Kd.R_reads' HO_12.out).2.2 x18_3 p348 q348; cases e348; replace p348 := eq_true p348; replace q348 := eq_true q348)))
  go_roundg k3
  case measure => have := HK1.out; have := HK2.out; have := HK3.out; omega
  case rel => exact ⟨(Go.bits .xor .i64 t347 (rd t336 x18_3)), (wrap64 (x18_3 - 1)), zO, zO, H', ⟨by have := HK1.out; have := HK2.out; have := HK3.out; omega⟩, ⟨zR HO_12.out⟩, ⟨zR HO_14.out⟩, ⟨zB⟩⟩
 rw [if_neg c31] at H
 have c31b0 : decide (0 ≤ x18_3) = false := decide_eq_false c31
 clear c31
 by_cases c36 : x17_3 = 0
 rotate_left
 ·rw [if_neg c36] at H
  have c36b0 : (x17_3 == 0) = false := beq_eq_false_iff_ne.mpr c36
  have c36b1 : (x17_3 != 0) = true := bne_iff_ne.mpr c36
  have H' := Aside0.mk H
  clear H
  go_wp2
  repeat (go_quiet (fail); try go_wp2)
  go_roundg k3
  case measure => have := HK1.out; have := HK2.out; have := HK3.out; omega
  case rel => exact ⟨(x14_2), (wrap64 (x15_2 + 1)), zO, H', ⟨by have := HK1.out; have := HK2.out; have := HK3.out; omega⟩, ⟨zR HO_12.out⟩, ⟨zR HO_14.out⟩, ⟨zB⟩⟩
 rw [if_pos c36] at H
 have c36b0 : (x17_3 == 0) = true := beq_iff_eq.mpr c36
 have c36b1 : (x17_3 != 0) = false := bne_eq_false_iff_eq.mpr c36
 clear c36
 replace H := zg H
 obtain ⟨c37, H⟩ := H
 have LMc37 := Aside0.mk c37
 clear c37
 obtain ⟨y349, hy349⟩ : ∃ y_ : List Int, y_ = (x14_2 ++ [x15_2]) := ⟨_, rfl⟩
 replace H : (spec_l14Places.l2 k3 a1 a2 t336 y349 (wrap64 (x15_2 + 1))) = some (r1, r2) := by first | (rw [hy349]; with_reducible exact H) | (have H2_ := (Option.bind_some _ _).symm.trans H; rw [hy349]; with_reducible exact H2_) | (have H2_ := (Option.bind_some _ _).symm.trans H; with_reducible exact H2_) | with_reducible exact H | (rw [hy349]; exact H) | exact H
 have Ny349 := Aside0.mk hy349
 clear hy349
 have H' := Aside0.mk H
 clear H
 go_wp2_with (first | ((with_reducible refine gate_builtin (b := .append) (xs := #[.tmp 87, .tmp 89]) rfl ?_); at_builtin; refine Kd.R_append (Kd.int .i64) (w0 := w) w.heap.size rfl (.tmp 87) (.tmp 89) 24 3 (.int .i64 0) 8 rfl Try.underlying24 info3 rfl (by decide) (by omega) u14 x14_2 x15_2 [.int .i64 x15_2] (fun k_ => some k_ ≠ (v338 : Value).ownBlock) (fun _ => False) rfl rfl ?aP (fun _ hk => hk.elim) ?aF ?aO ?aB ?aS ?aL ?_; (case aP => exact rfl); (case aB => exact zB); (case aF => exact (fun k_ hk => Kd.fresh' (Kd.R_lt (zR HO_12.out)) k_ hk)); (case aO => exact (zR HO_14.out)); (case aS => exact (below_size zB)); (case aL => have := LMc37.out; omega); intro v350 w38 ho hb hg hat; rw [← Ny349.out] at ho; have n0_ := Aside0.mk (Kd.R_after (ok := (fun _ => True)) (by (with_reducible repeat (first | apply Kd.R_alloc | apply Kd.R_drewN | apply Kd.R_drew)); exact Kd.R_mono HO_12.out (fun _ hk => ⟨trivial, hk⟩)) hg hat); have n1_ := Aside0.mk (hb); have n2_ := Aside0.mk (ho); clear HO_12; clear HB; clear HO_14; have HO_12 := n0_; have HB := n1_; have HO351 := n2_; clear n0_ n1_ n2_; clear ho hb hg hat))
 repeat (go_quiet (first | ((with_reducible refine gate_builtin (b := .append) (xs := #[.tmp 87, .tmp 89]) rfl ?_); at_builtin; refine Kd.R_append (Kd.int .i64) (w0 := w) w.heap.size rfl (.tmp 87) (.tmp 89) 24 3 (.int .i64 0) 8 rfl Try.underlying24 info3 rfl (by decide) (by omega) u14 x14_2 x15_2 [.int .i64 x15_2] (fun k_ => some k_ ≠ (v338 : Value).ownBlock) (fun _ => False) rfl rfl ?aP (fun _ hk => hk.elim) ?aF ?aO ?aB ?aS ?aL ?_; (case aP => exact rfl); (case aB => exact zB); (case aF => exact (fun k_ hk => Kd.fresh' (Kd.R_lt (zR HO_12.out)) k_ hk)); (case aO => exact (zR HO_14.out)); (case aS => exact (below_size zB)); (case aL => have := LMc37.out; omega); intro v350 w38 ho hb hg hat; rw [← Ny349.out] at ho; have n0_ := Aside0.mk (Kd.R_after (ok := (fun _ => True)) (by (with_reducible repeat (first | apply Kd.R_alloc | apply Kd.R_drewN | apply Kd.R_drew)); exact Kd.R_mono HO_12.out (fun _ hk => ⟨trivial, hk⟩)) hg hat); have n1_ := Aside0.mk (hb); have n2_ := Aside0.mk (ho); clear HO_12; clear HB; clear HO_14; have HO_12 := n0_; have HB := n1_; have HO351 := n2_; clear n0_ n1_ n2_; clear ho hb hg hat)); try go_wp2_with (first | ((with_reducible refine gate_builtin (b := .append) (xs := #[.tmp 87, .tmp 89]) rfl ?_); at_builtin; refine Kd.R_append (Kd.int .i64) (w0 := w) w.heap.size rfl (.tmp 87) (.tmp 89) 24 3 (.int .i64 0) 8 rfl Try.underlying24 info3 rfl (by decide) (by omega) u14 x14_2 x15_2 [.int .i64 x15_2] (fun k_ => some k_ ≠ (v338 : Value).ownBlock) (fun _ => False) rfl rfl ?aP (fun _ hk => hk.elim) ?aF ?aO ?aB ?aS ?aL ?_; (case aP => exact rfl); (case aB => exact zB); (case aF => exact (fun k_ hk => Kd.fresh' (Kd.R_lt (zR HO_12.out)) k_ hk)); (case aO => exact (zR HO_14.out)); (case aS => exact (below_size zB)); (case aL => have := LMc37.out; omega); intro v350 w38 ho hb hg hat; rw [← Ny349.out] at ho; have n0_ := Aside0.mk (Kd.R_after (ok := (fun _ => True)) (by (with_reducible repeat (first | apply Kd.R_alloc | apply Kd.R_drewN | apply Kd.R_drew)); exact Kd.R_mono HO_12.out (fun _ hk => ⟨trivial, hk⟩)) hg hat); have n1_ := Aside0.mk (hb); have n2_ := Aside0.mk (ho); clear HO_12; clear HB; clear HO_14; have HO_12 := n0_; have HB := n1_; have HO351 := n2_; clear n0_ n1_ n2_; clear ho hb hg hat)))
 go_roundg k3
 case measure => have := HK1.out; have := HK2.out; have := HK3.out; omega
 case rel => exact ⟨(y349), (wrap64 (x15_2 + 1)), zO, H', ⟨by have := HK1.out; have := HK2.out; have := HK3.out; omega⟩, ⟨by (with_reducible repeat (first | apply Kd.R_alloc | apply Kd.R_drewN | apply Kd.R_drew)); exact Kd.R_mono HO_12.out (fun _ hk => hk.2)⟩, ⟨zR HO351.out⟩, ⟨zB⟩⟩

/-! ### spec_RsMend: function 27 -/
mutual
def spec_RsMend.l0 : Nat → List Int → Int → List Int → Int → Option (List Int × Int × Bool)
  | 0, _, _, _, _ => none
  | k + 1, x0, x1, x7, x9 => if x9 ≤ x1 then ((spec_l14Places.f k x7 x9 (x0.length : Int)).bind fun bt369 => (if bt369.2 = true then ((spec_l14Put.f k x0 x7 bt369.1 x1).bind fun bt373 => (if bt373.2 = true then (spec_RsMend.l1 k x0 bt373.1 0 0) else (spec_RsMend.l0 k x0 x1 x7 (wrap64 (x9 + 1))))) else (spec_RsMend.l0 k x0 x1 x7 (wrap64 (x9 + 1))))) else (some ((([] : List Int)), 0, false))
def spec_RsMend.l1 : Nat → List Int → List Int → Int → Int → Option (List Int × Int × Bool)
  | 0, _, _, _, _ => none
  | k + 1, x0, x12, x14, x15 => if x15 < (x0.length : Int) then (if 0 ≤ x15 then (if x15 < (x12.length : Int) then (if (rd x12 x15) = (rd x0 x15) then (spec_RsMend.l1 k x0 x12 x14 (wrap64 (x15 + 1))) else (spec_RsMend.l1 k x0 x12 (wrap64 (x14 + 1)) (wrap64 (x15 + 1)))) else (none)) else (none)) else (some (x12, x14, true))
end
def spec_RsMend.f (k : Nat) (l0 : List Int) (a1 : Int) : Option (List Int × Int × Bool) := (spec_l14Word.f l0 a1).bind fun t352 => (if t352 = true then ((spec_l14Signs.f k l0 a1).bind fun bt356 => (if bt356.2 = true then ((some (([] : List Int) : List Int)).bind fun y360 => (if y360.length + l0.length < 140737488355328 then (some ((y360 ++ l0), 0, true)) else (none))) else (spec_RsMend.l0 k l0 a1 bt356.1 1))) else (some ((([] : List Int)), 0, false)))
theorem spec_RsMend.mono_l : ∀ k, (∀ y0 y1 y2 y3, LeO (spec_RsMend.l0 k y0 y1 y2 y3) (spec_RsMend.l0 (k + 1) y0 y1 y2 y3)) ∧ (∀ y0 y1 y2 y3, LeO (spec_RsMend.l1 k y0 y1 y2 y3) (spec_RsMend.l1 (k + 1) y0 y1 y2 y3))
  | 0 => ⟨fun _ _ _ _ r h => by simp [spec_RsMend.l0] at h, fun _ _ _ _ r h => by simp [spec_RsMend.l1] at h⟩
  | k + 1 => by
    obtain ⟨ih0, ih1⟩ := spec_RsMend.mono_l k
    refine ⟨?_, ?_⟩ <;> intros
    all_goals first | unfold spec_RsMend.l0 | unfold spec_RsMend.l1
    all_goals repeat' first
    | (with_reducible exact ih0 _ _ _ _)
    | (with_reducible exact ih1 _ _ _ _)
    | (with_reducible exact spec_l14Places.mono _ _ _ _)
    | (with_reducible exact spec_l14Put.mono _ _ _ _ _)
    | (with_reducible exact spec_l14Signs.mono _ _ _)
    | (with_reducible exact LeO.refl _)
    | (with_reducible exact LeO.none _)
    | (with_reducible refine LeO.ite ?_ ?_)
    | (with_reducible refine LeO.bind ?_ (fun _ => ?_))
    | exact ih0 _ _ _ _
    | exact ih1 _ _ _ _
    | exact spec_l14Places.mono _ _ _ _
    | exact spec_l14Put.mono _ _ _ _ _
    | exact spec_l14Signs.mono _ _ _
    | exact LeO.none _
    | refine LeO.ite ?_ ?_
    | refine LeO.bind ?_ (fun _ => ?_)
theorem spec_RsMend.mono : ∀ a0 a1 k, LeO (spec_RsMend.f k a0 a1) (spec_RsMend.f (k + 1) a0 a1) := by
  intro a0 a1 k
  obtain ⟨ih0, ih1⟩ := spec_RsMend.mono_l k
  unfold spec_RsMend.f
  repeat' first
      | (with_reducible exact ih0 _ _ _ _)
      | (with_reducible exact ih1 _ _ _ _)
      | (with_reducible exact spec_l14Places.mono _ _ _ _)
      | (with_reducible exact spec_l14Put.mono _ _ _ _ _)
      | (with_reducible exact spec_l14Signs.mono _ _ _)
      | (with_reducible exact LeO.refl _)
      | (with_reducible exact LeO.none _)
      | (with_reducible refine LeO.ite ?_ ?_)
      | (with_reducible refine LeO.bind ?_ (fun _ => ?_))
      | exact ih0 _ _ _ _
      | exact ih1 _ _ _ _
      | exact spec_l14Places.mono _ _ _ _
      | exact spec_l14Put.mono _ _ _ _ _
      | exact spec_l14Signs.mono _ _ _
      | exact LeO.none _
      | refine LeO.ite ?_ ?_
      | refine LeO.bind ?_ (fun _ => ?_)
set_option maxHeartbeats 8000000 in
set_option maxRecDepth 100000 in
theorem spec_RsMend.calls (k : Nat) (A0 : Option Addr) (c0 : Nat) (l0 : List Int) (a1 : Int) (r1 : List Int) (r2 : Int) (r3 : Bool) (w : World) (hr0 : Kd.C (Kd.int .u8) w A0 l0.length l0) (hc0 : l0.length ≤ c0) (h : spec_RsMend.f k l0 a1 = some (r1, r2, r3)) :
  Calls Try.prog 27 #[.slice A0 l0.length c0, .int .i64 a1] w fun e w' => ∃ v0_ : Value, e = .returned (.tuple #[v0_, .int .i64 r2, .bool r3]) ∧ Kd.R (Kd.int .u8) 5 w' w.heap.size (fun _ => True) v0_ r1 ∧ Below w.heap.size w w' := by
 have HR0 := Aside0.mk hr0
 have HC0 := Aside0.mk hc0
 clear hr0 hc0
 have HB := Aside0.mk (Below.refl w.heap.size w)
 have H : ((spec_l14Word.f l0 a1).bind fun t352 => (if t352 = true then ((spec_l14Signs.f k l0 a1).bind fun bt356 => (if bt356.2 = true then ((some (([] : List Int) : List Int)).bind fun y360 => (if y360.length + l0.length < 140737488355328 then (some ((y360 ++ l0), 0, true)) else (none))) else (spec_RsMend.l0 k l0 a1 bt356.1 1))) else (some ((([] : List Int)), 0, false)))) = some (r1, r2, r3) := h
 clear h
 replace H := zi H
 obtain ⟨t352, A3, H⟩ := H
 by_cases c4 : t352 = true
 rotate_left
 ·replace c4 := Bool.eq_false_iff.mpr c4
  subst c4
  have H1 : (some ((([] : List Int)), 0, false)) = some (r1, r2, r3) := by rw [if_neg (show ¬ (false = true) by decide)] at H; exact H
  clear H
  have H := H1
  clear H1
  obtain ⟨y353, hy353⟩ : ∃ y_ : List Int, y_ = (([] : List Int)) := ⟨_, rfl⟩
  replace H : (some (y353, 0, false)) = some (r1, r2, r3) := by first | (rw [hy353]; with_reducible exact H) | (have H2_ := (Option.bind_some _ _).symm.trans H; rw [hy353]; with_reducible exact H2_) | (have H2_ := (Option.bind_some _ _).symm.trans H; with_reducible exact H2_) | with_reducible exact H | (rw [hy353]; exact H) | exact H
  have Ny353 := Aside0.mk hy353
  clear hy353
  simp only [Option.some.injEq, Prod.mk.injEq] at H
  obtain ⟨rfl, rfl, rfl⟩ := H
  go_enter Try.func27, Try.ntmps27
  go_wp2_with (first | (go_at_call 42; (with_reducible refine (spec_l14Word.calls _ _ l0 a1 false _ ?side1 ?side2 A3.out).mono ?_); (case side1 => exact zC HR0.out); (case side2 => exact HC0.out); rintro e w' ⟨rfl, ⟨nd, rfl⟩⟩; (try exact zZ)) | ((with_reducible refine gate_dst (N := 20) rfl ?_); refine Kd.R_lit (Kd.int .u8) _ 5 ?hg (N := 20) ?hd (xs := ([] : List Int)) (inner := []) (ok := fun _ => True) (okp := fun _ => True) ?hr ?hp (fun _ hk => hk) trivial (Below.refl _ _) (Nat.le_refl _) (by simp) ?_; (case hd => rfl); (case hg => rfl); (case hr => first | (go_simp; done) | (go_simp; rfl)); (case hp => exact (Reps.none _ _)); intro v354 w36 ho37 hb hg_ hnew_; clear hg_ hnew_; (first | rw [← Ny353.out] at ho37 | (simp only [Int.reduceToNat] at ho37; rw [← Ny353.out] at ho37)); have n0_ := Aside0.mk (Kd.R_lower ho37 (below_size zB)); have n1_ := Aside0.mk (below_step zB hb); clear HB; have HO355 := n0_; have HB := n1_; clear n0_ n1_; clear hb ho37))
  repeat (go_quiet (first | (go_at_call 42; (with_reducible refine (spec_l14Word.calls _ _ l0 a1 false _ ?side1 ?side2 A3.out).mono ?_); (case side1 => exact zC HR0.out); (case side2 => exact HC0.out); rintro e w' ⟨rfl, ⟨nd, rfl⟩⟩; (try exact zZ)) | ((with_reducible refine gate_dst (N := 20) rfl ?_); refine Kd.R_lit (Kd.int .u8) _ 5 ?hg (N := 20) ?hd (xs := ([] : List Int)) (inner := []) (ok := fun _ => True) (okp := fun _ => True) ?hr ?hp (fun _ hk => hk) trivial (Below.refl _ _) (Nat.le_refl _) (by simp) ?_; (case hd => rfl); (case hg => rfl); (case hr => first | (go_simp; done) | (go_simp; rfl)); (case hp => exact (Reps.none _ _)); intro v354 w36 ho37 hb hg_ hnew_; clear hg_ hnew_; (first | rw [← Ny353.out] at ho37 | (simp only [Int.reduceToNat] at ho37; rw [← Ny353.out] at ho37)); have n0_ := Aside0.mk (Kd.R_lower ho37 (below_size zB)); have n1_ := Aside0.mk (below_step zB hb); clear HB; have HO355 := n0_; have HB := n1_; clear n0_ n1_; clear hb ho37)); try go_wp2_with (first | (go_at_call 42; (with_reducible refine (spec_l14Word.calls _ _ l0 a1 false _ ?side1 ?side2 A3.out).mono ?_); (case side1 => exact zC HR0.out); (case side2 => exact HC0.out); rintro e w' ⟨rfl, ⟨nd, rfl⟩⟩; (try exact zZ)) | ((with_reducible refine gate_dst (N := 20) rfl ?_); refine Kd.R_lit (Kd.int .u8) _ 5 ?hg (N := 20) ?hd (xs := ([] : List Int)) (inner := []) (ok := fun _ => True) (okp := fun _ => True) ?hr ?hp (fun _ hk => hk) trivial (Below.refl _ _) (Nat.le_refl _) (by simp) ?_; (case hd => rfl); (case hg => rfl); (case hr => first | (go_simp; done) | (go_simp; rfl)); (case hp => exact (Reps.none _ _)); intro v354 w36 ho37 hb hg_ hnew_; clear hg_ hnew_; (first | rw [← Ny353.out] at ho37 | (simp only [Int.reduceToNat] at ho37; rw [← Ny353.out] at ho37)); have n0_ := Aside0.mk (Kd.R_lower ho37 (below_size zB)); have n1_ := Aside0.mk (below_step zB hb); clear HB; have HO355 := n0_; have HB := n1_; clear n0_ n1_; clear hb ho37)))
  go_ret3
  exact ⟨_, zE, zR HO355.out, zB⟩
 subst c4
 have H1 : ((spec_l14Signs.f k l0 a1).bind fun bt356 => (if bt356.2 = true then ((some (([] : List Int) : List Int)).bind fun y360 => (if y360.length + l0.length < 140737488355328 then (some ((y360 ++ l0), 0, true)) else (none))) else (spec_RsMend.l0 k l0 a1 bt356.1 1))) = some (r1, r2, r3) := by rw [if_pos rfl] at H; exact H
 clear H
 have H := H1
 clear H1
 replace H := Option.bind_eq_some_iff.mp H
 obtain ⟨⟨t356, t357⟩, A50, H⟩ := H
 replace H : (if t357 = true then ((some (([] : List Int) : List Int)).bind fun y360 => (if y360.length + l0.length < 140737488355328 then (some ((y360 ++ l0), 0, true)) else (none))) else (spec_RsMend.l0 k l0 a1 t356 1)) = some (r1, r2, r3) := H
 have A5 := Aside0.mk A50
 clear A50
 by_cases c6 : t357 = true
 ·subst c6
  have H1 : ((some (([] : List Int) : List Int)).bind fun y360 => (if y360.length + l0.length < 140737488355328 then (some ((y360 ++ l0), 0, true)) else (none))) = some (r1, r2, r3) := by rw [if_pos rfl] at H; exact H
  clear H
  have H := H1
  clear H1
  replace H := zb H
  obtain ⟨y360, Ny360, H⟩ := H
  replace H := zg H
  obtain ⟨c7, H⟩ := H
  have LMc7 := Aside0.mk c7
  clear c7
  obtain ⟨y363, hy363⟩ : ∃ y_ : List Int, y_ = (y360 ++ l0) := ⟨_, rfl⟩
  replace H : (some (y363, 0, true)) = some (r1, r2, r3) := by first | (rw [hy363]; with_reducible exact H) | (have H2_ := (Option.bind_some _ _).symm.trans H; rw [hy363]; with_reducible exact H2_) | (have H2_ := (Option.bind_some _ _).symm.trans H; with_reducible exact H2_) | with_reducible exact H | (rw [hy363]; exact H) | exact H
  have Ny363 := Aside0.mk hy363
  clear hy363
  simp only [Option.some.injEq, Prod.mk.injEq] at H
  obtain ⟨rfl, rfl, rfl⟩ := H
  go_enter Try.func27, Try.ntmps27
  go_wp2_with (first | (go_at_call 42; (with_reducible refine (spec_l14Word.calls _ _ l0 a1 true _ ?side1 ?side2 A3.out).mono ?_); (case side1 => exact zC HR0.out); (case side2 => exact HC0.out); rintro e w' ⟨rfl, ⟨nd, rfl⟩⟩; (try exact zZ)) | (go_at_call 43; (with_reducible refine (spec_l14Signs.calls k _ _ l0 a1 t356 true _ ?side1 ?side2 A5.out).mono ?_); (case side1 => exact zC HR0.out); (case side2 => exact HC0.out); rintro e w8 ⟨v358, rfl, ho0, hb⟩; have n0_ := Aside0.mk (Kd.R_lower ho0 (below_size zB)); have n1_ := Aside0.mk (below_step zB hb); clear HB; have HO359 := n0_; have HB := n1_; clear n0_ n1_; (try clear hb); (try clear hb2); (try clear hk); (try clear hi); (try clear ho0)) | ((with_reducible refine gate_dst (N := 28) rfl ?_); refine Kd.R_lit (Kd.int .u8) _ 5 ?hg (N := 28) ?hd (xs := ([] : List Int)) (inner := []) (ok := fun _ => True) (okp := fun _ => True) ?hr ?hp (fun _ hk => hk) trivial (Below.refl _ _) (Nat.le_refl _) (by simp) ?_; (case hd => rfl); (case hg => rfl); (case hr => first | (go_simp; done) | (go_simp; rfl)); (case hp => exact (Reps.none _ _)); intro v361 w9 ho10 hb hg_ hnew_; clear hg_ hnew_; (first | rw [← Ny360.out] at ho10 | (simp only [Int.reduceToNat] at ho10; rw [← Ny360.out] at ho10)); have n0_ := Aside0.mk (Kd.R_below (zR HO359.out) hb); have n1_ := Aside0.mk (Kd.R_lower ho10 (below_size zB)); have n2_ := Aside0.mk (below_step zB hb); clear HO359; clear HB; have HO359 := n0_; have HO362 := n1_; have HB := n2_; clear n0_ n1_ n2_; clear hb ho10) | ((with_reducible refine gate_builtin (b := .append) (xs := #[.tmp 28, .tmp 29]) rfl ?_); at_builtin; refine Kd.R_append_rows (Kd.int .u8) (w0 := w) w.heap.size rfl (.tmp 28) (.tmp 29) 22 5 (.int .u8 0) 1 rfl Try.underlying22 info5 rfl (by decide) (by omega) v361 y360 l0 _ _ _ (fun _ => True) (fun _ => False) rfl rfl ?aO ?aR (fun _ _ h => h) (fun _ h => h.elim) ?aF ?aB ?aS ?aL ?_; (case aR => exact zC (Kd.C_below HR0.out HB.out)); (case aB => exact zB); (case aF => exact (fun _ _ => trivial)); (case aO => exact (zR HO362.out)); (case aS => exact (below_size zB)); (case aL => have := LMc7.out; omega); intro v364 w11 ho hb hg hat; rw [← Ny363.out] at ho; have n0_ := Aside0.mk (Kd.R_over' (zR HO359.out) (Kd.R_typed (zR HO362.out)) (by decide) hg); have n1_ := Aside0.mk (hb); have n2_ := Aside0.mk (ho); clear HO359; clear HB; clear HO362; have HO359 := n0_; have HB := n1_; have HO365 := n2_; clear n0_ n1_ n2_; clear ho hb hg hat))
  repeat (go_quiet (first | (go_at_call 42; (with_reducible refine (spec_l14Word.calls _ _ l0 a1 true _ ?side1 ?side2 A3.out).mono ?_); (case side1 => exact zC HR0.out); (case side2 => exact HC0.out); rintro e w' ⟨rfl, ⟨nd, rfl⟩⟩; (try exact zZ)) | (go_at_call 43; (with_reducible refine (spec_l14Signs.calls k _ _ l0 a1 t356 true _ ?side1 ?side2 A5.out).mono ?_); (case side1 => exact zC HR0.out); (case side2 => exact HC0.out); rintro e w8 ⟨v358, rfl, ho0, hb⟩; have n0_ := Aside0.mk (Kd.R_lower ho0 (below_size zB)); have n1_ := Aside0.mk (below_step zB hb); clear HB; have HO359 := n0_; have HB := n1_; clear n0_ n1_; (try clear hb); (try clear hb2); (try clear hk); (try clear hi); (try clear ho0)) | ((with_reducible refine gate_dst (N := 28) rfl ?_); refine Kd.R_lit (Kd.int .u8) _ 5 ?hg (N := 28) ?hd (xs := ([] : List Int)) (inner := []) (ok := fun _ => True) (okp := fun _ => True) ?hr ?hp (fun _ hk => hk) trivial (Below.refl _ _) (Nat.le_refl _) (by simp) ?_; (case hd => rfl); (case hg => rfl); (case hr => first | (go_simp; done) | (go_simp; rfl)); (case hp => exact (Reps.none _ _)); intro v361 w9 ho10 hb hg_ hnew_; clear hg_ hnew_; (first | rw [← Ny360.out] at ho10 | (simp only [Int.reduceToNat] at ho10; rw [← Ny360.out] at ho10)); have n0_ := Aside0.mk (Kd.R_below (zR HO359.out) hb); have n1_ := Aside0.mk (Kd.R_lower ho10 (below_size zB)); have n2_ := Aside0.mk (below_step zB hb); clear HO359; clear HB; have HO359 := n0_; have HO362 := n1_; have HB := n2_; clear n0_ n1_ n2_; clear hb ho10) | ((with_reducible refine gate_builtin (b := .append) (xs := #[.tmp 28, .tmp 29]) rfl ?_); at_builtin; refine Kd.R_append_rows (Kd.int .u8) (w0 := w) w.heap.size rfl (.tmp 28) (.tmp 29) 22 5 (.int .u8 0) 1 rfl Try.underlying22 info5 rfl (by decide) (by omega) v361 y360 l0 _ _ _ (fun _ => True) (fun _ => False) rfl rfl ?aO ?aR (fun _ _ h => h) (fun _ h => h.elim) ?aF ?aB ?aS ?aL ?_; (case aR => exact zC (Kd.C_below HR0.out HB.out)); (case aB => exact zB); (case aF => exact (fun _ _ => trivial)); (case aO => exact (zR HO362.out)); (case aS => exact (below_size zB)); (case aL => have := LMc7.out; omega); intro v364 w11 ho hb hg hat; rw [← Ny363.out] at ho; have n0_ := Aside0.mk (Kd.R_over' (zR HO359.out) (Kd.R_typed (zR HO362.out)) (by decide) hg); have n1_ := Aside0.mk (hb); have n2_ := Aside0.mk (ho); clear HO359; clear HB; clear HO362; have HO359 := n0_; have HB := n1_; have HO365 := n2_; clear n0_ n1_ n2_; clear ho hb hg hat)); try go_wp2_with (first | (go_at_call 42; (with_reducible refine (spec_l14Word.calls _ _ l0 a1 true _ ?side1 ?side2 A3.out).mono ?_); (case side1 => exact zC HR0.out); (case side2 => exact HC0.out); rintro e w' ⟨rfl, ⟨nd, rfl⟩⟩; (try exact zZ)) | (go_at_call 43; (with_reducible refine (spec_l14Signs.calls k _ _ l0 a1 t356 true _ ?side1 ?side2 A5.out).mono ?_); (case side1 => exact zC HR0.out); (case side2 => exact HC0.out); rintro e w8 ⟨v358, rfl, ho0, hb⟩; have n0_ := Aside0.mk (Kd.R_lower ho0 (below_size zB)); have n1_ := Aside0.mk (below_step zB hb); clear HB; have HO359 := n0_; have HB := n1_; clear n0_ n1_; (try clear hb); (try clear hb2); (try clear hk); (try clear hi); (try clear ho0)) | ((with_reducible refine gate_dst (N := 28) rfl ?_); refine Kd.R_lit (Kd.int .u8) _ 5 ?hg (N := 28) ?hd (xs := ([] : List Int)) (inner := []) (ok := fun _ => True) (okp := fun _ => True) ?hr ?hp (fun _ hk => hk) trivial (Below.refl _ _) (Nat.le_refl _) (by simp) ?_; (case hd => rfl); (case hg => rfl); (case hr => first | (go_simp; done) | (go_simp; rfl)); (case hp => exact (Reps.none _ _)); intro v361 w9 ho10 hb hg_ hnew_; clear hg_ hnew_; (first | rw [← Ny360.out] at ho10 | (simp only [Int.reduceToNat] at ho10; rw [← Ny360.out] at ho10)); have n0_ := Aside0.mk (Kd.R_below (zR HO359.out) hb); have n1_ := Aside0.mk (Kd.R_lower ho10 (below_size zB)); have n2_ := Aside0.mk (below_step zB hb); clear HO359; clear HB; have HO359 := n0_; have HO362 := n1_; have HB := n2_; clear n0_ n1_ n2_; clear hb ho10) | ((with_reducible refine gate_builtin (b := .append) (xs := #[.tmp 28, .tmp 29]) rfl ?_); at_builtin; refine Kd.R_append_rows (Kd.int .u8) (w0 := w) w.heap.size rfl (.tmp 28) (.tmp 29) 22 5 (.int .u8 0) 1 rfl Try.underlying22 info5 rfl (by decide) (by omega) v361 y360 l0 _ _ _ (fun _ => True) (fun _ => False) rfl rfl ?aO ?aR (fun _ _ h => h) (fun _ h => h.elim) ?aF ?aB ?aS ?aL ?_; (case aR => exact zC (Kd.C_below HR0.out HB.out)); (case aB => exact zB); (case aF => exact (fun _ _ => trivial)); (case aO => exact (zR HO362.out)); (case aS => exact (below_size zB)); (case aL => have := LMc7.out; omega); intro v364 w11 ho hb hg hat; rw [← Ny363.out] at ho; have n0_ := Aside0.mk (Kd.R_over' (zR HO359.out) (Kd.R_typed (zR HO362.out)) (by decide) hg); have n1_ := Aside0.mk (hb); have n2_ := Aside0.mk (ho); clear HO359; clear HB; clear HO362; have HO359 := n0_; have HB := n1_; have HO365 := n2_; clear n0_ n1_ n2_; clear ho hb hg hat)))
  go_ret3
  exact ⟨_, zE, zR HO365.out, zB⟩
 replace c6 := Bool.eq_false_iff.mpr c6
 subst c6
 have H1 : (spec_RsMend.l0 k l0 a1 t356 1) = some (r1, r2, r3) := by rw [if_neg (show ¬ (false = true) by decide)] at H; exact H
 clear H
 have H := H1
 clear H1
 have H' := Aside0.mk H
 clear H
 go_enter Try.func27, Try.ntmps27
 go_wp2_with (first | (go_at_call 42; (with_reducible refine (spec_l14Word.calls _ _ l0 a1 true _ ?side1 ?side2 A3.out).mono ?_); (case side1 => exact zC HR0.out); (case side2 => exact HC0.out); rintro e w' ⟨rfl, ⟨nd, rfl⟩⟩; (try exact zZ)) | (go_at_call 43; (with_reducible refine (spec_l14Signs.calls k _ _ l0 a1 t356 false _ ?side1 ?side2 A5.out).mono ?_); (case side1 => exact zC HR0.out); (case side2 => exact HC0.out); rintro e w12 ⟨v358, rfl, ho0, hb⟩; have n0_ := Aside0.mk (Kd.R_lower ho0 (below_size zB)); have n1_ := Aside0.mk (below_step zB hb); clear HB; have HO359 := n0_; have HB := n1_; clear n0_ n1_; (try clear hb); (try clear hb2); (try clear hk); (try clear hi); (try clear ho0)))
 repeat (go_quiet (first | (go_at_call 42; (with_reducible refine (spec_l14Word.calls _ _ l0 a1 true _ ?side1 ?side2 A3.out).mono ?_); (case side1 => exact zC HR0.out); (case side2 => exact HC0.out); rintro e w' ⟨rfl, ⟨nd, rfl⟩⟩; (try exact zZ)) | (go_at_call 43; (with_reducible refine (spec_l14Signs.calls k _ _ l0 a1 t356 false _ ?side1 ?side2 A5.out).mono ?_); (case side1 => exact zC HR0.out); (case side2 => exact HC0.out); rintro e w12 ⟨v358, rfl, ho0, hb⟩; have n0_ := Aside0.mk (Kd.R_lower ho0 (below_size zB)); have n1_ := Aside0.mk (below_step zB hb); clear HB; have HO359 := n0_; have HB := n1_; clear n0_ n1_; (try clear hb); (try clear hb2); (try clear hk); (try clear hi); (try clear ho0))); try go_wp2_with (first | (go_at_call 42; (with_reducible refine (spec_l14Word.calls _ _ l0 a1 true _ ?side1 ?side2 A3.out).mono ?_); (case side1 => exact zC HR0.out); (case side2 => exact HC0.out); rintro e w' ⟨rfl, ⟨nd, rfl⟩⟩; (try exact zZ)) | (go_at_call 43; (with_reducible refine (spec_l14Signs.calls k _ _ l0 a1 t356 false _ ?side1 ?side2 A5.out).mono ?_); (case side1 => exact zC HR0.out); (case side2 => exact HC0.out); rintro e w12 ⟨v358, rfl, ho0, hb⟩; have n0_ := Aside0.mk (Kd.R_lower ho0 (below_size zB)); have n1_ := Aside0.mk (below_step zB hb); clear HB; have HO359 := n0_; have HB := n1_; clear n0_ n1_; (try clear hb); (try clear hb2); (try clear hk); (try clear hi); (try clear ho0))))
 go_loopg [9] k (fun kq v9 w' => ∃ (x9_1 : Int), v9 = .int .i64 x9_1 ∧ Aside0 (spec_RsMend.l0 kq l0 a1 t356 x9_1 = some (r1, r2, r3)) ∧ Aside0 (kq ≤ k) ∧ Aside0 (Kd.R (Kd.int .i64) 3 w' w.heap.size (fun _ => True) v358 t356) ∧ Aside0 (Below w.heap.size w w'))
 case atStart => exact ⟨(1), zO, H', ⟨Nat.le_refl _⟩, ⟨zR HO359.out⟩, ⟨zB⟩⟩
 case round =>
 clear H'
 try clear c2
 try clear p2
 try clear c4
 try clear c6
 try clear c7
 obtain ⟨x9_1, rfl, HA, HK1, HO_7, HB⟩ := hrel
 cases gk with
 | zero => exact absurd HA.out (by simp [spec_RsMend.l0])
 | succ k1 =>
 have H := HA.out
 clear HA
 simp only [spec_RsMend.l0] at H
 by_cases c13 : x9_1 ≤ a1
 rotate_left
 ·rw [if_neg c13] at H
  have c13b0 := decide_eq_false c13
  clear c13
  obtain ⟨y366, hy366⟩ : ∃ y_ : List Int, y_ = (([] : List Int)) := ⟨_, rfl⟩
  replace H : (some (y366, 0, false)) = some (r1, r2, r3) := by first | (rw [hy366]; with_reducible exact H) | (have H2_ := (Option.bind_some _ _).symm.trans H; rw [hy366]; with_reducible exact H2_) | (have H2_ := (Option.bind_some _ _).symm.trans H; with_reducible exact H2_) | with_reducible exact H | (rw [hy366]; exact H) | exact H
  have Ny366 := Aside0.mk hy366
  clear hy366
  simp only [Option.some.injEq, Prod.mk.injEq] at H
  obtain ⟨rfl, rfl, rfl⟩ := H
  go_wp2_with (first | ((with_reducible refine gate_dst (N := 75) rfl ?_); refine Kd.R_lit (Kd.int .u8) _ 5 ?hg (N := 75) ?hd (xs := ([] : List Int)) (inner := []) (ok := fun _ => True) (okp := fun _ => True) ?hr ?hp (fun _ hk => hk) trivial (Below.refl _ _) (Nat.le_refl _) (by simp) ?_; (case hd => rfl); (case hg => rfl); (case hr => first | (go_simp; done) | (go_simp; rfl)); (case hp => exact (Reps.none _ _)); intro v367 w34 ho35 hb hg_ hnew_; clear hg_ hnew_; (first | rw [← Ny366.out] at ho35 | (simp only [Int.reduceToNat] at ho35; rw [← Ny366.out] at ho35)); have n0_ := Aside0.mk (Kd.R_below (zR HO_7.out) hb); have n1_ := Aside0.mk (Kd.R_lower ho35 (below_size zB)); have n2_ := Aside0.mk (below_step zB hb); clear HO_7; clear HB; have HO_7 := n0_; have HO368 := n1_; have HB := n2_; clear n0_ n1_ n2_; clear hb ho35))
  repeat (go_quiet (first | ((with_reducible refine gate_dst (N := 75) rfl ?_); refine Kd.R_lit (Kd.int .u8) _ 5 ?hg (N := 75) ?hd (xs := ([] : List Int)) (inner := []) (ok := fun _ => True) (okp := fun _ => True) ?hr ?hp (fun _ hk => hk) trivial (Below.refl _ _) (Nat.le_refl _) (by simp) ?_; (case hd => rfl); (case hg => rfl); (case hr => first | (go_simp; done) | (go_simp; rfl)); (case hp => exact (Reps.none _ _)); intro v367 w34 ho35 hb hg_ hnew_; clear hg_ hnew_; (first | rw [← Ny366.out] at ho35 | (simp only [Int.reduceToNat] at ho35; rw [← Ny366.out] at ho35)); have n0_ := Aside0.mk (Kd.R_below (zR HO_7.out) hb); have n1_ := Aside0.mk (Kd.R_lower ho35 (below_size zB)); have n2_ := Aside0.mk (below_step zB hb); clear HO_7; clear HB; have HO_7 := n0_; have HO368 := n1_; have HB := n2_; clear n0_ n1_ n2_; clear hb ho35)); try go_wp2_with (first | ((with_reducible refine gate_dst (N := 75) rfl ?_); refine Kd.R_lit (Kd.int .u8) _ 5 ?hg (N := 75) ?hd (xs := ([] : List Int)) (inner := []) (ok := fun _ => True) (okp := fun _ => True) ?hr ?hp (fun _ hk => hk) trivial (Below.refl _ _) (Nat.le_refl _) (by simp) ?_; (case hd => rfl); (case hg => rfl); (case hr => first | (go_simp; done) | (go_simp; rfl)); (case hp => exact (Reps.none _ _)); intro v367 w34 ho35 hb hg_ hnew_; clear hg_ hnew_; (first | rw [← Ny366.out] at ho35 | (simp only [Int.reduceToNat] at ho35; rw [← Ny366.out] at ho35)); have n0_ := Aside0.mk (Kd.R_below (zR HO_7.out) hb); have n1_ := Aside0.mk (Kd.R_lower ho35 (below_size zB)); have n2_ := Aside0.mk (below_step zB hb); clear HO_7; clear HB; have HO_7 := n0_; have HO368 := n1_; have HB := n2_; clear n0_ n1_ n2_; clear hb ho35)))
  go_ret3
  exact ⟨_, zE, zR HO368.out, zB⟩
 rw [if_pos c13] at H
 have c13b0 := decide_eq_true c13
 clear c13
 replace H := Option.bind_eq_some_iff.mp H
 obtain ⟨⟨t369, t370⟩, A140, H⟩ := H
 replace H : (if t370 = true then ((spec_l14Put.f k1 l0 t356 t369 a1).bind fun bt373 => (if bt373.2 = true then (spec_RsMend.l1 k1 l0 bt373.1 0 0) else (spec_RsMend.l0 k1 l0 a1 t356 (wrap64 (x9_1 + 1))))) else (spec_RsMend.l0 k1 l0 a1 t356 (wrap64 (x9_1 + 1)))) = some (r1, r2, r3) := H
 have A14 := Aside0.mk A140
 clear A140
 by_cases c15 : t370 = true
 rotate_left
 ·replace c15 := Bool.eq_false_iff.mpr c15
  subst c15
  have H1 : (spec_RsMend.l0 k1 l0 a1 t356 (wrap64 (x9_1 + 1))) = some (r1, r2, r3) := by rw [if_neg (show ¬ (false = true) by decide)] at H; exact H
  clear H
  have H := H1
  clear H1
  have H' := Aside0.mk H
  clear H
  obtain ⟨Ao32, co32, eo32⟩ := Kd.R_slice HO_7.out
  subst eo32
  go_wp2_with (first | (go_at_call 49; (with_reducible refine (spec_l14Places.calls k1 _ _ t356 x9_1 (l0.length : Int) t369 false _ ?side1 ?side2 A14.out).mono ?_); (case side1 => exact zC (Kd.R_reads' HO_7.out).2.2); (case side2 => exact (Kd.R_reads' HO_7.out).2.1); rintro e w33 ⟨v371, rfl, ho0, hb⟩; have n0_ := Aside0.mk (Kd.R_elder' (zR HO_7.out) (Kd.R_base ho0) hb); have n1_ := Aside0.mk (Kd.R_lower (Kd.R_new' ho0 (Kd.R_lt (zR HO_7.out))) (below_size zB)); have n2_ := Aside0.mk (below_step zB hb); clear HO_7; clear HB; have HO_7 := n0_; have HO372 := n1_; have HB := n2_; clear n0_ n1_ n2_; (try clear hb); (try clear hb2); (try clear hk); (try clear hi); (try clear ho0)))
  repeat (go_quiet (first | (go_at_call 49; (with_reducible refine (spec_l14Places.calls k1 _ _ t356 x9_1 (l0.length : Int) t369 false _ ?side1 ?side2 A14.out).mono ?_); (case side1 => exact zC (Kd.R_reads' HO_7.out).2.2); (case side2 => exact (Kd.R_reads' HO_7.out).2.1); rintro e w33 ⟨v371, rfl, ho0, hb⟩; have n0_ := Aside0.mk (Kd.R_elder' (zR HO_7.out) (Kd.R_base ho0) hb); have n1_ := Aside0.mk (Kd.R_lower (Kd.R_new' ho0 (Kd.R_lt (zR HO_7.out))) (below_size zB)); have n2_ := Aside0.mk (below_step zB hb); clear HO_7; clear HB; have HO_7 := n0_; have HO372 := n1_; have HB := n2_; clear n0_ n1_ n2_; (try clear hb); (try clear hb2); (try clear hk); (try clear hi); (try clear ho0))); try go_wp2_with (first | (go_at_call 49; (with_reducible refine (spec_l14Places.calls k1 _ _ t356 x9_1 (l0.length : Int) t369 false _ ?side1 ?side2 A14.out).mono ?_); (case side1 => exact zC (Kd.R_reads' HO_7.out).2.2); (case side2 => exact (Kd.R_reads' HO_7.out).2.1); rintro e w33 ⟨v371, rfl, ho0, hb⟩; have n0_ := Aside0.mk (Kd.R_elder' (zR HO_7.out) (Kd.R_base ho0) hb); have n1_ := Aside0.mk (Kd.R_lower (Kd.R_new' ho0 (Kd.R_lt (zR HO_7.out))) (below_size zB)); have n2_ := Aside0.mk (below_step zB hb); clear HO_7; clear HB; have HO_7 := n0_; have HO372 := n1_; have HB := n2_; clear n0_ n1_ n2_; (try clear hb); (try clear hb2); (try clear hk); (try clear hi); (try clear ho0))))
  go_roundg k1
  case measure => have := HK1.out; omega
  case rel => exact ⟨(wrap64 (x9_1 + 1)), zO, H', ⟨by have := HK1.out; omega⟩, ⟨by (with_reducible repeat (first | apply Kd.R_alloc | apply Kd.R_drewN | apply Kd.R_drew)); exact Kd.R_mono HO_7.out (fun _ hk => trivial)⟩, ⟨zB⟩⟩
 subst c15
 have H1 : ((spec_l14Put.f k1 l0 t356 t369 a1).bind fun bt373 => (if bt373.2 = true then (spec_RsMend.l1 k1 l0 bt373.1 0 0) else (spec_RsMend.l0 k1 l0 a1 t356 (wrap64 (x9_1 + 1))))) = some (r1, r2, r3) := by rw [if_pos rfl] at H; exact H
 clear H
 have H := H1
 clear H1
 replace H := Option.bind_eq_some_iff.mp H
 obtain ⟨⟨t373, t374⟩, A160, H⟩ := H
 replace H : (if t374 = true then (spec_RsMend.l1 k1 l0 t373 0 0) else (spec_RsMend.l0 k1 l0 a1 t356 (wrap64 (x9_1 + 1)))) = some (r1, r2, r3) := H
 have A16 := Aside0.mk A160
 clear A160
 by_cases c17 : t374 = true
 rotate_left
 ·replace c17 := Bool.eq_false_iff.mpr c17
  subst c17
  have H1 : (spec_RsMend.l0 k1 l0 a1 t356 (wrap64 (x9_1 + 1))) = some (r1, r2, r3) := by rw [if_neg (show ¬ (false = true) by decide)] at H; exact H
  clear H
  have H := H1
  clear H1
  have H' := Aside0.mk H
  clear H
  obtain ⟨Ao28, co28, eo28⟩ := Kd.R_slice HO_7.out
  subst eo28
  go_wp2_with (first | (go_at_call 49; (with_reducible refine (spec_l14Places.calls k1 _ _ t356 x9_1 (l0.length : Int) t369 true _ ?side1 ?side2 A14.out).mono ?_); (case side1 => exact zC (Kd.R_reads' HO_7.out).2.2); (case side2 => exact (Kd.R_reads' HO_7.out).2.1); rintro e w29 ⟨v371, rfl, ho0, hb⟩; have n0_ := Aside0.mk (Kd.R_elder' (zR HO_7.out) (Kd.R_base ho0) hb); have n1_ := Aside0.mk (Kd.R_lower (Kd.R_new' ho0 (Kd.R_lt (zR HO_7.out))) (below_size zB)); have n2_ := Aside0.mk (below_step zB hb); clear HO_7; clear HB; have HO_7 := n0_; have HO372 := n1_; have HB := n2_; clear n0_ n1_ n2_; (try clear hb); (try clear hb2); (try clear hk); (try clear hi); (try clear ho0); obtain ⟨Ao30, co30, eo30⟩ := Kd.R_slice HO372.out; subst eo30) | (go_at_call 48; (with_reducible refine (spec_l14Put.calls k1 _ _ l0 _ _ t356 _ _ t369 a1 t373 false _ ?side1 ?side2 ?side3 ?side4 ?side5 ?side6 A16.out).mono ?_); (case side1 => exact zC (Kd.C_below HR0.out HB.out)); (case side2 => exact HC0.out); (case side3 => exact zC (Kd.R_reads' HO_7.out).2.2); (case side4 => exact (Kd.R_reads' HO_7.out).2.1); (case side5 => exact zC (Kd.R_reads' HO372.out).2.2); (case side6 => exact (Kd.R_reads' HO372.out).2.1); rintro e w31 ⟨v375, rfl, ho0, hb⟩; have n0_ := Aside0.mk (Kd.R_below (zR HO_7.out) hb); have n1_ := Aside0.mk (Kd.R_below (zR HO372.out) hb); have n2_ := Aside0.mk (Kd.R_lower ho0 (below_size zB)); have n3_ := Aside0.mk (below_step zB hb); clear HO_7; clear HO372; clear HB; have HO_7 := n0_; have HO372 := n1_; have HO376 := n2_; have HB := n3_; clear n0_ n1_ n2_ n3_; (try clear hb); (try clear hb2); (try clear hk); (try clear hi); (try clear ho0)))
  repeat (go_quiet (first | (go_at_call 49; (with_reducible refine (spec_l14Places.calls k1 _ _ t356 x9_1 (l0.length : Int) t369 true _ ?side1 ?side2 A14.out).mono ?_); (case side1 => exact zC (Kd.R_reads' HO_7.out).2.2); (case side2 => exact (Kd.R_reads' HO_7.out).2.1); rintro e w29 ⟨v371, rfl, ho0, hb⟩; have n0_ := Aside0.mk (Kd.R_elder' (zR HO_7.out) (Kd.R_base ho0) hb); have n1_ := Aside0.mk (Kd.R_lower (Kd.R_new' ho0 (Kd.R_lt (zR HO_7.out))) (below_size zB)); have n2_ := Aside0.mk (below_step zB hb); clear HO_7; clear HB; have HO_7 := n0_; have HO372 := n1_; have HB := n2_; clear n0_ n1_ n2_; (try clear hb); (try clear hb2); (try clear hk); (try clear hi); (try clear ho0); obtain ⟨Ao30, co30, eo30⟩ := Kd.R_slice HO372.out; subst eo30) | (go_at_call 48; (with_reducible refine (spec_l14Put.calls k1 _ _ l0 _ _ t356 _ _ t369 a1 t373 false _ ?side1 ?side2 ?side3 ?side4 ?side5 ?side6 A16.out).mono ?_); (case side1 => exact zC (Kd.C_below HR0.out HB.out)); (case side2 => exact HC0.out); (case side3 => exact zC (Kd.R_reads' HO_7.out).2.2); (case side4 => exact (Kd.R_reads' HO_7.out).2.1); (case side5 => exact zC (Kd.R_reads' HO372.out).2.2); (case side6 => exact (Kd.R_reads' HO372.out).2.1); rintro e w31 ⟨v375, rfl, ho0, hb⟩; have n0_ := Aside0.mk (Kd.R_below (zR HO_7.out) hb); have n1_ := Aside0.mk (Kd.R_below (zR HO372.out) hb); have n2_ := Aside0.mk (Kd.R_lower ho0 (below_size zB)); have n3_ := Aside0.mk (below_step zB hb); clear HO_7; clear HO372; clear HB; have HO_7 := n0_; have HO372 := n1_; have HO376 := n2_; have HB := n3_; clear n0_ n1_ n2_ n3_; (try clear hb); (try clear hb2); (try clear hk); (try clear hi); (try clear ho0))); try go_wp2_with (first | (go_at_call 49; (with_reducible refine (spec_l14Places.calls k1 _ _ t356 x9_1 (l0.length : Int) t369 true _ ?side1 ?side2 A14.out).mono ?_); (case side1 => exact zC (Kd.R_reads' HO_7.out).2.2); (case side2 => exact (Kd.R_reads' HO_7.out).2.1); rintro e w29 ⟨v371, rfl, ho0, hb⟩; have n0_ := Aside0.mk (Kd.R_elder' (zR HO_7.out) (Kd.R_base ho0) hb); have n1_ := Aside0.mk (Kd.R_lower (Kd.R_new' ho0 (Kd.R_lt (zR HO_7.out))) (below_size zB)); have n2_ := Aside0.mk (below_step zB hb); clear HO_7; clear HB; have HO_7 := n0_; have HO372 := n1_; have HB := n2_; clear n0_ n1_ n2_; (try clear hb); (try clear hb2); (try clear hk); (try clear hi); (try clear ho0); obtain ⟨Ao30, co30, eo30⟩ := Kd.R_slice HO372.out; subst eo30) | (go_at_call 48; (with_reducible refine (spec_l14Put.calls k1 _ _ l0 _ _ t356 _ _ t369 a1 t373 false _ ?side1 ?side2 ?side3 ?side4 ?side5 ?side6 A16.out).mono ?_); (case side1 => exact zC (Kd.C_below HR0.out HB.out)); (case side2 => exact HC0.out); (case side3 => exact zC (Kd.R_reads' HO_7.out).2.2); (case side4 => exact (Kd.R_reads' HO_7.out).2.1); (case side5 => exact zC (Kd.R_reads' HO372.out).2.2); (case side6 => exact (Kd.R_reads' HO372.out).2.1); rintro e w31 ⟨v375, rfl, ho0, hb⟩; have n0_ := Aside0.mk (Kd.R_below (zR HO_7.out) hb); have n1_ := Aside0.mk (Kd.R_below (zR HO372.out) hb); have n2_ := Aside0.mk (Kd.R_lower ho0 (below_size zB)); have n3_ := Aside0.mk (below_step zB hb); clear HO_7; clear HO372; clear HB; have HO_7 := n0_; have HO372 := n1_; have HO376 := n2_; have HB := n3_; clear n0_ n1_ n2_ n3_; (try clear hb); (try clear hb2); (try clear hk); (try clear hi); (try clear ho0))))
  go_roundg k1
  case measure => have := HK1.out; omega
  case rel => exact ⟨(wrap64 (x9_1 + 1)), zO, H', ⟨by have := HK1.out; omega⟩, ⟨by (with_reducible repeat (first | apply Kd.R_alloc | apply Kd.R_drewN | apply Kd.R_drew)); exact Kd.R_mono HO_7.out (fun _ hk => trivial)⟩, ⟨zB⟩⟩
 subst c17
 have H1 : (spec_RsMend.l1 k1 l0 t373 0 0) = some (r1, r2, r3) := by rw [if_pos rfl] at H; exact H
 clear H
 have H := H1
 clear H1
 have H' := Aside0.mk H
 clear H
 obtain ⟨Ao18, co18, eo18⟩ := Kd.R_slice HO_7.out
 subst eo18
 go_wp2_with (first | (go_at_call 49; (with_reducible refine (spec_l14Places.calls k1 _ _ t356 x9_1 (l0.length : Int) t369 true _ ?side1 ?side2 A14.out).mono ?_); (case side1 => exact zC (Kd.R_reads' HO_7.out).2.2); (case side2 => exact (Kd.R_reads' HO_7.out).2.1); rintro e w19 ⟨v371, rfl, ho0, hb⟩; have n0_ := Aside0.mk (Kd.R_elder' (zR HO_7.out) (Kd.R_base ho0) hb); have n1_ := Aside0.mk (Kd.R_lower (Kd.R_new' ho0 (Kd.R_lt (zR HO_7.out))) (below_size zB)); have n2_ := Aside0.mk (below_step zB hb); clear HO_7; clear HB; have HO_7 := n0_; have HO372 := n1_; have HB := n2_; clear n0_ n1_ n2_; (try clear hb); (try clear hb2); (try clear hk); (try clear hi); (try clear ho0); obtain ⟨Ao20, co20, eo20⟩ := Kd.R_slice HO372.out; subst eo20) | (go_at_call 48; (with_reducible refine (spec_l14Put.calls k1 _ _ l0 _ _ t356 _ _ t369 a1 t373 true _ ?side1 ?side2 ?side3 ?side4 ?side5 ?side6 A16.out).mono ?_); (case side1 => exact zC (Kd.C_below HR0.out HB.out)); (case side2 => exact HC0.out); (case side3 => exact zC (Kd.R_reads' HO_7.out).2.2); (case side4 => exact (Kd.R_reads' HO_7.out).2.1); (case side5 => exact zC (Kd.R_reads' HO372.out).2.2); (case side6 => exact (Kd.R_reads' HO372.out).2.1); rintro e w21 ⟨v375, rfl, ho0, hb⟩; have n0_ := Aside0.mk (Kd.R_below (zR HO_7.out) hb); have n1_ := Aside0.mk (Kd.R_below (zR HO372.out) hb); have n2_ := Aside0.mk (Kd.R_lower ho0 (below_size zB)); have n3_ := Aside0.mk (below_step zB hb); clear HO_7; clear HO372; clear HB; have HO_7 := n0_; have HO372 := n1_; have HO376 := n2_; have HB := n3_; clear n0_ n1_ n2_ n3_; (try clear hb); (try clear hb2); (try clear hk); (try clear hi); (try clear ho0)))
 repeat (go_quiet (first | (go_at_call 49; (with_reducible refine (spec_l14Places.calls k1 _ _ t356 x9_1 (l0.length : Int) t369 true _ ?side1 ?side2 A14.out).mono ?_); (case side1 => exact zC (Kd.R_reads' HO_7.out).2.2); (case side2 => exact (Kd.R_reads' HO_7.out).2.1); rintro e w19 ⟨v371, rfl, ho0, hb⟩; have n0_ := Aside0.mk (Kd.R_elder' (zR HO_7.out) (Kd.R_base ho0) hb); have n1_ := Aside0.mk (Kd.R_lower (Kd.R_new' ho0 (Kd.R_lt (zR HO_7.out))) (below_size zB)); have n2_ := Aside0.mk (below_step zB hb); clear HO_7; clear HB; have HO_7 := n0_; have HO372 := n1_; have HB := n2_; clear n0_ n1_ n2_; (try clear hb); (try clear hb2); (try clear hk); (try clear hi); (try clear ho0); obtain ⟨Ao20, co20, eo20⟩ := Kd.R_slice HO372.out; subst eo20) | (go_at_call 48; (with_reducible refine (spec_l14Put.calls k1 _ _ l0 _ _ t356 _ _ t369 a1 t373 true _ ?side1 ?side2 ?side3 ?side4 ?side5 ?side6 A16.out).mono ?_); (case side1 => exact zC (Kd.C_below HR0.out HB.out)); (case side2 => exact HC0.out); (case side3 => exact zC (Kd.R_reads' HO_7.out).2.2); (case side4 => exact (Kd.R_reads' HO_7.out).2.1); (case side5 => exact zC (Kd.R_reads' HO372.out).2.2); (case side6 => exact (Kd.R_reads' HO372.out).2.1); rintro e w21 ⟨v375, rfl, ho0, hb⟩; have n0_ := Aside0.mk (Kd.R_below (zR HO_7.out) hb); have n1_ := Aside0.mk (Kd.R_below (zR HO372.out) hb); have n2_ := Aside0.mk (Kd.R_lower ho0 (below_size zB)); have n3_ := Aside0.mk (below_step zB hb); clear HO_7; clear HO372; clear HB; have HO_7 := n0_; have HO372 := n1_; have HO376 := n2_; have HB := n3_; clear n0_ n1_ n2_ n3_; (try clear hb); (try clear hb2); (try clear hk); (try clear hi); (try clear ho0))); try go_wp2_with (first | (go_at_call 49; (with_reducible refine (spec_l14Places.calls k1 _ _ t356 x9_1 (l0.length : Int) t369 true _ ?side1 ?side2 A14.out).mono ?_); (case side1 => exact zC (Kd.R_reads' HO_7.out).2.2); (case side2 => exact (Kd.R_reads' HO_7.out).2.1); rintro e w19 ⟨v371, rfl, ho0, hb⟩; have n0_ := Aside0.mk (Kd.R_elder' (zR HO_7.out) (Kd.R_base ho0) hb); have n1_ := Aside0.mk (Kd.R_lower (Kd.R_new' ho0 (Kd.R_lt (zR HO_7.out))) (below_size zB)); have n2_ := Aside0.mk (below_step zB hb); clear HO_7; clear HB; have HO_7 := n0_; have HO372 := n1_; have HB := n2_; clear n0_ n1_ n2_; (try clear hb); (try clear hb2); (try clear hk); (try clear hi); (try clear ho0); obtain ⟨Ao20, co20, eo20⟩ := Kd.R_slice HO372.out; subst eo20) | (go_at_call 48; (with_reducible refine (spec_l14Put.calls k1 _ _ l0 _ _ t356 _ _ t369 a1 t373 true _ ?side1 ?side2 ?side3 ?side4 ?side5 ?side6 A16.out).mono ?_); (case side1 => exact zC (Kd.C_below HR0.out HB.out)); (case side2 => exact HC0.out); (case side3 => exact zC (Kd.R_reads' HO_7.out).2.2); (case side4 => exact (Kd.R_reads' HO_7.out).2.1); (case side5 => exact zC (Kd.R_reads' HO372.out).2.2); (case side6 => exact (Kd.R_reads' HO372.out).2.1); rintro e w21 ⟨v375, rfl, ho0, hb⟩; have n0_ := Aside0.mk (Kd.R_below (zR HO_7.out) hb); have n1_ := Aside0.mk (Kd.R_below (zR HO372.out) hb); have n2_ := Aside0.mk (Kd.R_lower ho0 (below_size zB)); have n3_ := Aside0.mk (below_step zB hb); clear HO_7; clear HO372; clear HB; have HO_7 := n0_; have HO372 := n1_; have HO376 := n2_; have HB := n3_; clear n0_ n1_ n2_ n3_; (try clear hb); (try clear hb2); (try clear hk); (try clear hi); (try clear ho0))))
 go_loopg [14, 15] k1 (fun kq v14 v15 w' => ∃ (x14_2 : Int) (x15_2 : Int), v14 = .int .i64 x14_2 ∧ v15 = .int .i64 x15_2 ∧ Aside0 (spec_RsMend.l1 kq l0 t373 x14_2 x15_2 = some (r1, r2, r3)) ∧ Aside0 (kq ≤ k1) ∧ Aside0 (Kd.R (Kd.int .u8) 5 w' w.heap.size (fun _ => True) v375 t373) ∧ Aside0 (Below w.heap.size w w'))
 case atStart => exact ⟨(0), (0), zO, zO, H', ⟨Nat.le_refl _⟩, ⟨zR HO376.out⟩, ⟨zB⟩⟩
 case round =>
 clear H'
 try clear c1
 try clear c2
 try clear p2
 try clear c4
 try clear c6
 try clear p6
 try clear c7
 try clear c13
 try clear c13b0
 try clear c15
 try clear c17
 try clear p2
 obtain ⟨x14_2, x15_2, rfl, rfl, HA, HK2, HO_12, HB⟩ := hrel
 cases gk with
 | zero => exact absurd HA.out (by simp [spec_RsMend.l1])
 | succ k2 =>
 have H := HA.out
 clear HA
 simp only [spec_RsMend.l1] at H
 by_cases c22 : x15_2 < (l0.length : Int)
 rotate_left
 ·rw [if_neg c22] at H
  have c22b0 := decide_eq_false c22
  clear c22
  simp only [Option.some.injEq, Prod.mk.injEq] at H
  obtain ⟨rfl, rfl, rfl⟩ := H
  go_wp2
  repeat (go_quiet (fail); try go_wp2)
  go_ret3
  exact ⟨_, zE, zR HO_12.out, zB⟩
 rw [if_pos c22] at H
 have c22b0 := decide_eq_true c22
 clear c22
 replace H := zg H
 obtain ⟨c23, H⟩ := H
 have c23b0 : decide (0 ≤ x15_2) = true := decide_eq_true c23
 clear c23
 replace H := zg H
 obtain ⟨c24, H⟩ := H
 have c24b0 : decide (x15_2 < (t373.length : Int)) = true := decide_eq_true c24
 clear c24
 by_cases c25 : (rd t373 x15_2) = (rd l0 x15_2)
 rotate_left
 ·rw [if_neg c25] at H
  have c25b0 : ((rd t373 x15_2) == (rd l0 x15_2)) = false := beq_eq_false_iff_ne.mpr c25
  have c25b1 : ((rd t373 x15_2) != (rd l0 x15_2)) = true := bne_iff_ne.mpr c25
  have H' := Aside0.mk H
  clear H
  obtain ⟨Ao27, co27, eo27⟩ := Kd.R_slice HO_12.out
  subst eo27
  have p377 : 0 ≤ (x15_2 : Int) := zD
  have q377 : x15_2 < (t373.length : Int) := zD
  obtain ⟨ad377, e377, hx377_0⟩ := Kd.at_int (Kd.R_reads' HO_12.out).2.2 x15_2 p377 q377
  cases e377
  replace p377 := eq_true p377
  replace q377 := eq_true q377
  have p378 : 0 ≤ (x15_2 : Int) := zD
  have q378 : x15_2 < (l0.length : Int) := zD
  obtain ⟨ad378, e378, hx378_0⟩ := Kd.at_int HR0.out x15_2 p378 q378
  cases e378
  replace hx378_0 := (HB.out.cell (World.block_lt_of_cell? w _ hx378_0)).trans hx378_0
  replace p378 := eq_true p378
  replace q378 := eq_true q378
  go_wp2
  repeat (go_quiet (fail); try go_wp2)
  go_roundg k2
  case measure => have := HK1.out; have := HK2.out; omega
  case rel => exact ⟨(wrap64 (x14_2 + 1)), (wrap64 (x15_2 + 1)), zO, zO, H', ⟨by have := HK1.out; have := HK2.out; omega⟩, ⟨zR HO_12.out⟩, ⟨zB⟩⟩
 rw [if_pos c25] at H
 have c25b0 : ((rd t373 x15_2) == (rd l0 x15_2)) = true := beq_iff_eq.mpr c25
 have c25b1 : ((rd t373 x15_2) != (rd l0 x15_2)) = false := bne_eq_false_iff_eq.mpr c25
 clear c25
 have H' := Aside0.mk H
 clear H
 obtain ⟨Ao26, co26, eo26⟩ := Kd.R_slice HO_12.out
 subst eo26
 have p377 : 0 ≤ (x15_2 : Int) := zD
 have q377 : x15_2 < (t373.length : Int) := zD
 obtain ⟨ad377, e377, hx377_0⟩ := Kd.at_int (Kd.R_reads' HO_12.out).2.2 x15_2 p377 q377
 cases e377
 replace p377 := eq_true p377
 replace q377 := eq_true q377
 have p378 : 0 ≤ (x15_2 : Int) := zD
 have q378 : x15_2 < (l0.length : Int) := zD
 obtain ⟨ad378, e378, hx378_0⟩ := Kd.at_int HR0.out x15_2 p378 q378
 cases e378
 replace hx378_0 := (HB.out.cell (World.block_lt_of_cell? w _ hx378_0)).trans hx378_0
 replace p378 := eq_true p378
 replace q378 := eq_true q378
 go_wp2
 repeat (go_quiet (fail); try go_wp2)
 go_roundg k2
 case measure => have := HK1.out; have := HK2.out; omega
 case rel => exact ⟨(x14_2), (wrap64 (x15_2 + 1)), zO, zO, H', ⟨by have := HK1.out; have := HK2.out; omega⟩, ⟨zR HO_12.out⟩, ⟨zB⟩⟩

end Go.Proofs.Ytdcjfcfiflpblaa.PFnNearestWord
