/- The functions that FnNearestWord reaches, each with its walk; written by a program (own.py). -/
import Derived.Test.YtdcjfcfiflpblaaSh
import Derived.Test.YtdcjfcfiflpblaaQFnNearestWordx0
import Derived.Test.YtdcjfcfiflpblaaQFnNearestWordx7
import Derived.Test.YtdcjfcfiflpblaaQFnNearestWordx8
namespace Go.Proofs.Ytdcjfcfiflpblaa.PFnNearestWord
open Go.RowKit Go.Proofs.YtdcjfcfiflpblaaW.PrintWords Go.Proofs.YtdcjfcfiflpblaaW.PrintLast Go.Proofs.YtdcjfcfiflpblaaW.PrintMore
attribute [local go_sem] max2_int min2_int max_two min_two max_three min_three max_four min_four   -- for this text's walks alone
set_option linter.unusedVariables false
set_option linter.unusedSimpArgs false

/-! ### spec_l14Put: function 48 -/
mutual
def spec_l14Put.l0 : Nat → List Int → List Int → List Int → Int → List Int → List (List Int) → Int → Option (List Int × Bool)
  | 0, _, _, _, _, _, _, _ => none
  | k + 1, x0, x1, x2, x3, x10, x11, x12 => if x12 < (x2.length : Int) then (spec_l14Put.l1 k x0 x1 x2 x3 x10 x11 x12 (([] : List Int)) 0) else ((spec_l14Solve.f k x11).bind fun bt299 => (if bt299.2 = true then (spec_l14Put.l2 k x2 x3 x10 bt299.1 0) else (some ((([] : List Int)), false))))
def spec_l14Put.l1 : Nat → List Int → List Int → List Int → Int → List Int → List (List Int) → Int → List Int → Int → Option (List Int × Bool)
  | 0, _, _, _, _, _, _, _, _, _ => none
  | k + 1, x0, x1, x2, x3, x10, x11, x12, x13, x14 => if x14 < (x2.length : Int) then (if 0 ≤ x14 then ((spec_l14Pow.f k (wrap64 (x12 * (wrap64 ((wrap64 ((x0.length : Int) - 1)) - (rd x2 x14)))))).bind fun t288 => (if x13.length < 17592186044416 then (spec_l14Put.l1 k x0 x1 x2 x3 x10 x11 x12 (x13 ++ [t288]) (wrap64 (x14 + 1))) else (none))) else (none)) else (if 0 ≤ x12 then (if x12 < (x1.length : Int) then (if x13.length < 17592186044416 then (if x11.length < 5864062014805 then (spec_l14Put.l0 k x0 x1 x2 x3 x10 (x11 ++ [(x13 ++ [rd x1 x12])]) (wrap64 (x12 + 1))) else (none)) else (none)) else (none)) else (none))
def spec_l14Put.l2 : Nat → List Int → Int → List Int → List Int → Int → Option (List Int × Bool)
  | 0, _, _, _, _, _ => none
  | k + 1, x2, x3, x10, x15, x17 => if x17 < (x2.length : Int) then (if 0 ≤ x17 then (if 0 ≤ (rd x2 x17) then (if (rd x2 x17) < (x10.length : Int) then (if x17 < (x15.length : Int) then (spec_l14Put.l2 k x2 x3 (x10.set ((rd x2 x17) : Int).toNat (Go.bits .xor .u8 (rd x10 (rd x2 x17)) ((rd x15 x17) % 256))) x15 (wrap64 (x17 + 1))) else (none)) else (none)) else (none)) else (none)) else ((spec_l14Signs.f k x10 x3).bind fun bt311 => (some (x10, bt311.2)))
end
def spec_l14Put.f (k : Nat) (l0 : List Int) (l1 : List Int) (l2 : List Int) (a3 : Int) : Option (List Int × Bool) := (some (([] : List Int) : List Int)).bind fun y275 => (if y275.length + l0.length < 140737488355328 then ((some (y275 ++ l0 : List Int)).bind fun y278 => (if (l2.length : Int) > 0 then (spec_l14Put.l0 k l0 l1 l2 a3 y278 (([] : List (List Int))) 0) else ((spec_l14Signs.f k y278 a3).bind fun bt315 => (some (y278, bt315.2))))) else (none))
theorem spec_l14Put.mono_l : ∀ k, (∀ y0 y1 y2 y3 y4 y5 y6, LeO (spec_l14Put.l0 k y0 y1 y2 y3 y4 y5 y6) (spec_l14Put.l0 (k + 1) y0 y1 y2 y3 y4 y5 y6)) ∧ (∀ y0 y1 y2 y3 y4 y5 y6 y7 y8, LeO (spec_l14Put.l1 k y0 y1 y2 y3 y4 y5 y6 y7 y8) (spec_l14Put.l1 (k + 1) y0 y1 y2 y3 y4 y5 y6 y7 y8)) ∧ (∀ y0 y1 y2 y3 y4, LeO (spec_l14Put.l2 k y0 y1 y2 y3 y4) (spec_l14Put.l2 (k + 1) y0 y1 y2 y3 y4))
  | 0 => ⟨fun _ _ _ _ _ _ _ r h => by simp [spec_l14Put.l0] at h, fun _ _ _ _ _ _ _ _ _ r h => by simp [spec_l14Put.l1] at h, fun _ _ _ _ _ r h => by simp [spec_l14Put.l2] at h⟩
  | k + 1 => by
    obtain ⟨ih0, ih1, ih2⟩ := spec_l14Put.mono_l k
    refine ⟨?_, ?_, ?_⟩ <;> intros
    all_goals first | unfold spec_l14Put.l0 | unfold spec_l14Put.l1 | unfold spec_l14Put.l2
    all_goals repeat' first
    | (with_reducible exact ih0 _ _ _ _ _ _ _)
    | (with_reducible exact ih1 _ _ _ _ _ _ _ _ _)
    | (with_reducible exact ih2 _ _ _ _ _)
    | (with_reducible exact spec_l14Pow.mono _ _)
    | (with_reducible exact spec_l14Signs.mono _ _ _)
    | (with_reducible exact spec_l14Solve.mono _ _)
    | (with_reducible exact LeO.refl _)
    | (with_reducible exact LeO.none _)
    | (with_reducible refine LeO.ite ?_ ?_)
    | (with_reducible refine LeO.bind ?_ (fun _ => ?_))
    | exact ih0 _ _ _ _ _ _ _
    | exact ih1 _ _ _ _ _ _ _ _ _
    | exact ih2 _ _ _ _ _
    | exact spec_l14Pow.mono _ _
    | exact spec_l14Signs.mono _ _ _
    | exact spec_l14Solve.mono _ _
    | exact LeO.none _
    | refine LeO.ite ?_ ?_
    | refine LeO.bind ?_ (fun _ => ?_)
theorem spec_l14Put.mono : ∀ a0 a1 a2 a3 k, LeO (spec_l14Put.f k a0 a1 a2 a3) (spec_l14Put.f (k + 1) a0 a1 a2 a3) := by
  intro a0 a1 a2 a3 k
  obtain ⟨ih0, ih1, ih2⟩ := spec_l14Put.mono_l k
  unfold spec_l14Put.f
  repeat' first
      | (with_reducible exact ih0 _ _ _ _ _ _ _)
      | (with_reducible exact ih1 _ _ _ _ _ _ _ _ _)
      | (with_reducible exact ih2 _ _ _ _ _)
      | (with_reducible exact spec_l14Pow.mono _ _)
      | (with_reducible exact spec_l14Signs.mono _ _ _)
      | (with_reducible exact spec_l14Solve.mono _ _)
      | (with_reducible exact LeO.refl _)
      | (with_reducible exact LeO.none _)
      | (with_reducible refine LeO.ite ?_ ?_)
      | (with_reducible refine LeO.bind ?_ (fun _ => ?_))
      | exact ih0 _ _ _ _ _ _ _
      | exact ih1 _ _ _ _ _ _ _ _ _
      | exact ih2 _ _ _ _ _
      | exact spec_l14Pow.mono _ _
      | exact spec_l14Signs.mono _ _ _
      | exact spec_l14Solve.mono _ _
      | exact LeO.none _
      | refine LeO.ite ?_ ?_
      | refine LeO.bind ?_ (fun _ => ?_)
def spec_l14Put.T19 : Bool × List (List Nat × List Nat) := (true, [([], []), ([], []), ([], []), ([1, 2], [1, 2]), ([3], [3]), ([], []), ([], []), ([], []), ([6, 7], [6, 7]), ([8], [8]), ([5, 9], [5, 9]), ([10], [10]), ([], []), ([], []), ([12, 13], [12, 13]), ([14], [14]), ([15], [15]), ([11, 16], [11, 16]), ([0, 4, 0, 1, 2, 3, 4, 5, 6, 7, 8, 9, 10, 11, 12, 13, 14, 15, 16, 17], [0, 4]), ([18, 17, 0, 1, 2, 3, 4, 5, 6, 7, 8, 9, 10, 11, 12, 13, 14, 15, 16, 17], [17, 18])])
def spec_l14Put.B19 : List Nat := [0, 0, 0, 6, 14, 0, 0, 0, 192, 448, 992, 2016, 0, 0, 12288, 28672, 61440, 131040, 262143, 524287]
theorem spec_l14Put.tab19 : rtab .any (opsOf Try.f48 19) = spec_l14Put.T19 := by kernel_rfl
theorem spec_l14Put.bits19 : waitsOk spec_l14Put.T19.2 spec_l14Put.B19 = true := by kernel_rfl
abbrev spec_l14Put.mk_0 : Array Bool := #[false, false, false, false, false, false, false, false, false, false, false, false, false, false, false, false, false, false, false, false]
abbrev spec_l14Put.mk_1 : Array Bool := #[true, false, false, false, false, false, false, false, false, false, false, false, false, false, false, false, false, false, false, false]
abbrev spec_l14Put.mk_2 : Array Bool := #[true, true, false, false, false, false, false, false, false, false, false, false, false, false, false, false, false, false, false, false]
abbrev spec_l14Put.mk_3 : Array Bool := #[true, true, true, false, false, false, false, false, false, false, false, false, false, false, false, false, false, false, false, false]
abbrev spec_l14Put.mk_4 : Array Bool := #[true, true, true, true, false, false, false, false, false, false, false, false, false, false, false, false, false, false, false, false]
abbrev spec_l14Put.mk_5 : Array Bool := #[true, true, true, true, false, true, false, false, false, false, false, false, false, false, false, false, false, false, false, false]
abbrev spec_l14Put.mk_6 : Array Bool := #[true, true, true, true, false, true, true, false, false, false, false, false, false, false, false, false, false, false, false, false]
abbrev spec_l14Put.mk_7 : Array Bool := #[true, true, true, true, false, true, true, true, false, false, false, false, false, false, false, false, false, false, false, false]
abbrev spec_l14Put.mk_8 : Array Bool := #[true, true, true, true, false, true, true, true, true, false, false, false, false, false, false, false, false, false, false, false]
abbrev spec_l14Put.mk_9 : Array Bool := #[true, true, true, true, false, true, true, true, true, false, false, false, true, false, false, false, false, false, false, false]
abbrev spec_l14Put.mk_10 : Array Bool := #[true, true, true, true, false, true, true, true, true, false, false, false, true, true, false, false, false, false, false, false]
abbrev spec_l14Put.mk_11 : Array Bool := #[true, true, true, true, false, true, true, true, true, false, false, false, true, true, true, false, false, false, false, false]
abbrev spec_l14Put.mk_12 : Array Bool := #[true, true, true, true, true, true, true, true, true, false, false, false, true, true, true, false, false, false, false, false]
abbrev spec_l14Put.mk_13 : Array Bool := #[true, true, true, true, true, true, true, true, true, true, false, false, true, true, true, false, false, false, false, false]
abbrev spec_l14Put.mk_14 : Array Bool := #[true, true, true, true, true, true, true, true, true, true, true, false, true, true, true, false, false, false, false, false]
abbrev spec_l14Put.mk_15 : Array Bool := #[true, true, true, true, true, true, true, true, true, true, true, true, true, true, true, false, false, false, false, false]
abbrev spec_l14Put.mk_16 : Array Bool := #[true, true, true, true, true, true, true, true, true, true, true, true, true, true, true, true, false, false, false, false]
abbrev spec_l14Put.mk_17 : Array Bool := #[true, true, true, true, true, true, true, true, true, true, true, true, true, true, true, true, true, false, false, false]
abbrev spec_l14Put.mk_18 : Array Bool := #[true, true, true, true, true, true, true, true, true, true, true, true, true, true, true, true, true, true, false, false]
abbrev spec_l14Put.mk_19 : Array Bool := #[true, true, true, true, true, true, true, true, true, true, true, true, true, true, true, true, true, true, true, false]
abbrev spec_l14Put.mk_20 : Array Bool := #[true, true, true, true, true, true, true, true, true, true, true, true, true, true, true, true, true, true, true, true]
set_option maxHeartbeats 8000000 in
set_option maxRecDepth 100000 in
theorem spec_l14Put.calls (k : Nat) (A0 : Option Addr) (c0 : Nat) (l0 : List Int) (A1 : Option Addr) (c1 : Nat) (l1 : List Int) (A2 : Option Addr) (c2 : Nat) (l2 : List Int) (a3 : Int) (r1 : List Int) (r2 : Bool) (w : World) (hr0 : Kd.C (Kd.int .u8) w A0 l0.length l0) (hc0 : l0.length ≤ c0) (hr1 : Kd.C (Kd.int .i64) w A1 l1.length l1) (hc1 : l1.length ≤ c1) (hr2 : Kd.C (Kd.int .i64) w A2 l2.length l2) (hc2 : l2.length ≤ c2) (h : spec_l14Put.f k l0 l1 l2 a3 = some (r1, r2)) :
  Calls Try.prog 48 #[.slice A0 l0.length c0, .slice A1 l1.length c1, .slice A2 l2.length c2, .int .i64 a3] w fun e w' => ∃ v0_ : Value, e = .returned (.tuple #[v0_, .bool r2]) ∧ Kd.R (Kd.int .u8) 5 w' w.heap.size (fun _ => True) v0_ r1 ∧ Below w.heap.size w w' := by
 have HR0 := Aside0.mk hr0
 have HC0 := Aside0.mk hc0
 clear hr0 hc0
 have HR1 := Aside0.mk hr1
 have HC1 := Aside0.mk hc1
 clear hr1 hc1
 have HR2 := Aside0.mk hr2
 have HC2 := Aside0.mk hc2
 clear hr2 hc2
 have HB := Aside0.mk (Below.refl w.heap.size w)
 have H : ((some (([] : List Int) : List Int)).bind fun y275 => (if y275.length + l0.length < 140737488355328 then ((some (y275 ++ l0 : List Int)).bind fun y278 => (if (l2.length : Int) > 0 then (spec_l14Put.l0 k l0 l1 l2 a3 y278 (([] : List (List Int))) 0) else ((spec_l14Signs.f k y278 a3).bind fun bt315 => (some (y278, bt315.2))))) else (none))) = some (r1, r2) := h
 clear h
 replace H := zb H
 obtain ⟨y275, Ny275, H⟩ := H
 replace H := zg H
 obtain ⟨c5, H⟩ := H
 have LMc5 := Aside0.mk c5
 clear c5
 replace H := zb H
 obtain ⟨y278, Ny278, H⟩ := H
 by_cases c6 : (l2.length : Int) > 0
 rotate_left
 ·rw [if_neg c6] at H
  have c6b0 : decide (0 < (l2.length : Int)) = false := decide_eq_false c6
  have c6b1 : decide (0 < l2.length) = false := decide_eq_false (by omega)
  clear c6
  replace H := Option.bind_eq_some_iff.mp H
  obtain ⟨⟨t315, t316⟩, A480, H⟩ := H
  replace H : (some (y278, t316)) = some (r1, r2) := H
  have A48 := Aside0.mk A480
  clear A480
  simp only [Option.some.injEq, Prod.mk.injEq] at H
  obtain ⟨rfl, rfl⟩ := H
  go_enter Try.func48, Try.ntmps48
  go_wp2_with (first | ((with_reducible refine gate_dst (N := 20) rfl ?_); refine Kd.R_lit (Kd.int .u8) _ 5 ?hg (N := 20) ?hd (xs := ([] : List Int)) (inner := []) (ok := fun _ => True) (okp := fun _ => True) ?hr ?hp (fun _ hk => hk) trivial (Below.refl _ _) (Nat.le_refl _) (by simp) ?_; (case hd => rfl); (case hg => rfl); (case hr => first | (go_simp; done) | (go_simp; rfl)); (case hp => exact (Reps.none _ _)); intro v276 w49 ho50 hb hg_ hnew_; clear hg_ hnew_; (first | rw [← Ny275.out] at ho50 | (simp only [Int.reduceToNat] at ho50; rw [← Ny275.out] at ho50)); have n0_ := Aside0.mk (Kd.R_lower ho50 (below_size zB)); have n1_ := Aside0.mk (below_step zB hb); clear HB; have HO277 := n0_; have HB := n1_; clear n0_ n1_; clear hb ho50) | ((with_reducible refine gate_builtin (b := .append) (xs := #[.tmp 20, .tmp 21]) rfl ?_); at_builtin; refine Kd.R_append_rows (Kd.int .u8) (w0 := w) w.heap.size rfl (.tmp 20) (.tmp 21) 22 5 (.int .u8 0) 1 rfl Try.underlying22 info5 rfl (by decide) (by omega) v276 y275 l0 _ _ _ (fun _ => True) (fun _ => False) rfl rfl ?aO ?aR (fun _ _ h => h) (fun _ h => h.elim) ?aF ?aB ?aS ?aL ?_; (case aR => exact zC (Kd.C_below HR0.out HB.out)); (case aB => exact zB); (case aF => exact (fun _ _ => trivial)); (case aO => exact (zR HO277.out)); (case aS => exact (below_size zB)); (case aL => have := LMc5.out; omega); intro v279 w51 ho hb hg hat; rw [← Ny278.out] at ho; have n0_ := Aside0.mk (hb); have n1_ := Aside0.mk (ho); clear HB; clear HO277; have HB := n0_; have HO280 := n1_; clear n0_ n1_; clear ho hb hg hat; obtain ⟨Ao52, co52, eo52⟩ := Kd.R_slice HO280.out; subst eo52) | ((with_reducible refine gate_callee (f := 43) rfl ?_); refine goesL_ (some 100) rfl rfl Try.func43 (by kernel_rfl) rfl #[.slice Ao52 y278.length co52, .int .i64 a3] rfl zL ?_; (with_reducible refine (spec_l14Signs.calls k _ _ y278 a3 t315 t316 _ ?side1 ?side2 A48.out).mono ?_); (case side1 => exact zC (Kd.R_reads' HO280.out).2.2); (case side2 => exact (Kd.R_reads' HO280.out).2.1); rintro e w53 ⟨v317, rfl, ho0, hb⟩; refine ⟨_, rfl, ?_⟩; have n0_ := Aside0.mk (Kd.R_below (zR HO280.out) hb); have n1_ := Aside0.mk (Kd.R_lower ho0 (below_size zB)); have n2_ := Aside0.mk (below_step zB hb); clear HO280; clear HB; have HO280 := n0_; have HO318 := n1_; have HB := n2_; clear n0_ n1_ n2_; (try clear hb); (try clear hb2); (try clear hk); (try clear hi); (try clear ho0)))
  go_ret2
  exact ⟨_, zE, zR HO280.out, zB⟩
 rw [if_pos c6] at H
 have c6b0 : decide (0 < (l2.length : Int)) = true := decide_eq_true c6
 have c6b1 : decide (0 < l2.length) = true := decide_eq_true (by omega)
 clear c6
 obtain ⟨y281, hy281⟩ : ∃ y_ : List (List Int), y_ = (([] : List (List Int))) := ⟨_, rfl⟩
 replace H : (spec_l14Put.l0 k l0 l1 l2 a3 y278 y281 0) = some (r1, r2) := by first | (rw [hy281]; with_reducible exact H) | (have H2_ := (Option.bind_some _ _).symm.trans H; rw [hy281]; with_reducible exact H2_) | (have H2_ := (Option.bind_some _ _).symm.trans H; with_reducible exact H2_) | with_reducible exact H | (rw [hy281]; exact H) | exact H
 have Ny281 := Aside0.mk hy281
 clear hy281
 have H' := Aside0.mk H
 clear H
 go_enter Try.func48, Try.ntmps48
 go_wp2_with (first | ((with_reducible refine gate_dst (N := 20) rfl ?_); refine Kd.R_lit (Kd.int .u8) _ 5 ?hg (N := 20) ?hd (xs := ([] : List Int)) (inner := []) (ok := fun _ => True) (okp := fun _ => True) ?hr ?hp (fun _ hk => hk) trivial (Below.refl _ _) (Nat.le_refl _) (by simp) ?_; (case hd => rfl); (case hg => rfl); (case hr => first | (go_simp; done) | (go_simp; rfl)); (case hp => exact (Reps.none _ _)); intro v276 w7 ho8 hb hg_ hnew_; clear hg_ hnew_; (first | rw [← Ny275.out] at ho8 | (simp only [Int.reduceToNat] at ho8; rw [← Ny275.out] at ho8)); have n0_ := Aside0.mk (Kd.R_lower ho8 (below_size zB)); have n1_ := Aside0.mk (below_step zB hb); clear HB; have HO277 := n0_; have HB := n1_; clear n0_ n1_; clear hb ho8) | ((with_reducible refine gate_builtin (b := .append) (xs := #[.tmp 20, .tmp 21]) rfl ?_); at_builtin; refine Kd.R_append_rows (Kd.int .u8) (w0 := w) w.heap.size rfl (.tmp 20) (.tmp 21) 22 5 (.int .u8 0) 1 rfl Try.underlying22 info5 rfl (by decide) (by omega) v276 y275 l0 _ _ _ (fun _ => True) (fun _ => False) rfl rfl ?aO ?aR (fun _ _ h => h) (fun _ h => h.elim) ?aF ?aB ?aS ?aL ?_; (case aR => exact zC (Kd.C_below HR0.out HB.out)); (case aB => exact zB); (case aF => exact (fun _ _ => trivial)); (case aO => exact (zR HO277.out)); (case aS => exact (below_size zB)); (case aL => have := LMc5.out; omega); intro v279 w9 ho hb hg hat; rw [← Ny278.out] at ho; have n0_ := Aside0.mk (hb); have n1_ := Aside0.mk (ho); clear HB; clear HO277; have HB := n0_; have HO280 := n1_; clear n0_ n1_; clear ho hb hg hat) | ((with_reducible refine gate_dst (N := 26) rfl ?_); refine Kd.S_lit (Kd.slice 3 (Kd.int .i64)) _ 24 ?hg (N := 26) ?hd (xs := ([] : List (List Int))) (inner := []) (ok := fun _ => True) (okp := fun _ => True) ?hr ?hp (fun _ hk => hk) trivial (Below.refl _ _) (Nat.le_refl _) (by simp) ?_; (case hd => rfl); (case hg => rfl); (case hr => first | (go_simp; done) | (go_simp; rfl)); (case hp => exact (Reps.none _ _)); intro v282 w10 ho11 hb hg_ hnew_; clear hg_ hnew_; (first | rw [← Ny281.out] at ho11 | (simp only [Int.reduceToNat] at ho11; rw [← Ny281.out] at ho11)); have n0_ := Aside0.mk (Kd.R_below (zR HO280.out) hb); have n1_ := Aside0.mk (Kd.S_lower ho11 (below_size zB)); have n2_ := Aside0.mk (below_step zB hb); clear HO280; clear HB; have HO280 := n0_; have HO283 := n1_; have HB := n2_; clear n0_ n1_ n2_; clear hb ho11))
 go_loopg [11, 12] k (fun kq v11 v12 w' => ∃ (x11_1 : List (List Int)) (x12_1 : Int), v12 = .int .i64 x12_1 ∧ Aside0 (spec_l14Put.l0 kq l0 l1 l2 a3 y278 x11_1 x12_1 = some (r1, r2)) ∧ Aside0 (kq ≤ k) ∧ Aside0 (Kd.R (Kd.int .u8) 5 w' w.heap.size (fun _ => True) v279 y278) ∧ Aside0 (Kd.S (Kd.slice 3 (Kd.int .i64)) 24 w' w.heap.size (fun _ => True) v11 x11_1) ∧ Aside0 (Below w.heap.size w w'))
 case atStart => exact ⟨(y281), (0), zO, H', ⟨Nat.le_refl _⟩, ⟨zR HO280.out⟩, ⟨zS HO283.out⟩, ⟨zB⟩⟩
 case round =>
 clear H'
 try clear c1
 try clear c2
 try clear p2
 try clear c4
 try clear c5
 try clear c6
 try clear c6b0
 try clear c6b1
 obtain ⟨x11_1, x12_1, rfl, HA, HK1, HO_10, HO_11, HB⟩ := hrel
 cases gk with
 | zero => exact absurd HA.out (by simp [spec_l14Put.l0])
 | succ k1 =>
 have H := HA.out
 clear HA
 simp only [spec_l14Put.l0] at H
 by_cases c12 : x12_1 < (l2.length : Int)
 ·rw [if_pos c12] at H
  have c12b0 := decide_eq_true c12
  clear c12
  obtain ⟨y284, hy284⟩ : ∃ y_ : List Int, y_ = (([] : List Int)) := ⟨_, rfl⟩
  replace H : (spec_l14Put.l1 k1 l0 l1 l2 a3 y278 x11_1 x12_1 y284 0) = some (r1, r2) := by first | (rw [hy284]; with_reducible exact H) | (have H2_ := (Option.bind_some _ _).symm.trans H; rw [hy284]; with_reducible exact H2_) | (have H2_ := (Option.bind_some _ _).symm.trans H; with_reducible exact H2_) | with_reducible exact H | (rw [hy284]; exact H) | exact H
  have Ny284 := Aside0.mk hy284
  clear hy284
  have H' := Aside0.mk H
  clear H
  go_wp2_with (first | ((with_reducible refine gate_dst (N := 33) rfl ?_); refine Kd.R_lit (Kd.int .i64) _ 3 ?hg (N := 33) ?hd (xs := ([] : List Int)) (inner := []) (ok := fun _ => True) (okp := fun _ => True) ?hr ?hp (fun _ hk => hk) trivial (Below.refl _ _) (Nat.le_refl _) (by simp) ?_; (case hd => rfl); (case hg => rfl); (case hr => first | (go_simp; done) | (go_simp; rfl)); (case hp => exact (Reps.none _ _)); intro v285 w13 ho14 hb hg_ hnew_; clear hg_ hnew_; (first | rw [← Ny284.out] at ho14 | (simp only [Int.reduceToNat] at ho14; rw [← Ny284.out] at ho14)); have n0_ := Aside0.mk (Kd.R_below (zR HO_10.out) hb); have n1_ := Aside0.mk (Kd.S_elder' (zS HO_11.out) (Kd.R_base ho14) hb); have n2_ := Aside0.mk (Kd.R_lower ho14 (below_size zB)); have n3_ := Aside0.mk (below_step zB hb); clear HO_10; clear HO_11; clear HB; have HO_10 := n0_; have HO_11 := n1_; have HO286 := n2_; have HB := n3_; clear n0_ n1_ n2_ n3_; clear hb ho14))
  go_loopg [13, 14] k1 (fun kq v13 v14 w' => ∃ (x13_2 : List Int) (x14_2 : Int), v14 = .int .i64 x14_2 ∧ Aside0 (spec_l14Put.l1 kq l0 l1 l2 a3 y278 x11_1 x12_1 x13_2 x14_2 = some (r1, r2)) ∧ Aside0 (kq ≤ k1) ∧ Aside0 (Kd.R (Kd.int .u8) 5 w' w.heap.size (fun _ => True) v279 y278) ∧ Aside0 (Kd.S (Kd.slice 3 (Kd.int .i64)) 24 w' w.heap.size (fun k_ => some k_ ≠ (v13 : Value).ownBlock) u11 x11_1) ∧ Aside0 (Kd.R (Kd.int .i64) 3 w' w.heap.size (fun _ => True) v13 x13_2) ∧ Aside0 (Below w.heap.size w w'))
  case atStart => exact ⟨(y284), (0), zO, H', ⟨Nat.le_refl _⟩, ⟨zR HO_10.out⟩, ⟨by (with_reducible repeat (first | apply Kd.S_alloc | apply Kd.S_drewN | apply Kd.S_drew)); exact Kd.S_mono HO_11.out (fun _ hk => hk.2)⟩, ⟨zR HO286.out⟩, ⟨zB⟩⟩
  case round =>
  clear H'
  try clear c1
  try clear c2
  try clear p2
  try clear c4
  try clear c5
  try clear c6
  try clear c6b0
  try clear c6b1
  try clear c12
  try clear c12b0
  try clear p2
  obtain ⟨x13_2, x14_2, rfl, HA, HK2, HO_10, HO_11, HO_13, HB⟩ := hrel
  cases gk with
  | zero => exact absurd HA.out (by simp [spec_l14Put.l1])
  | succ k2 =>
  have H := HA.out
  clear HA
  simp only [spec_l14Put.l1] at H
  by_cases c15 : x14_2 < (l2.length : Int)
  ·rw [if_pos c15] at H
   have c15b0 := decide_eq_true c15
   clear c15
   replace H := zg H
   obtain ⟨c16, H⟩ := H
   have c16b0 : decide (0 ≤ x14_2) = true := decide_eq_true c16
   clear c16
   replace H := zi H
   obtain ⟨t288, A17, H⟩ := H
   replace H := zg H
   obtain ⟨c18, H⟩ := H
   have LMc18 := Aside0.mk c18
   clear c18
   obtain ⟨y289, hy289⟩ : ∃ y_ : List Int, y_ = (x13_2 ++ [t288]) := ⟨_, rfl⟩
   replace H : (spec_l14Put.l1 k2 l0 l1 l2 a3 y278 x11_1 x12_1 y289 (wrap64 (x14_2 + 1))) = some (r1, r2) := by first | (rw [hy289]; with_reducible exact H) | (have H2_ := (Option.bind_some _ _).symm.trans H; rw [hy289]; with_reducible exact H2_) | (have H2_ := (Option.bind_some _ _).symm.trans H; with_reducible exact H2_) | with_reducible exact H | (rw [hy289]; exact H) | exact H
   have Ny289 := Aside0.mk hy289
   clear hy289
   have H' := Aside0.mk H
   clear H
   have p287 : 0 ≤ (x14_2 : Int) := zD
   have q287 : x14_2 < (l2.length : Int) := zD
   obtain ⟨ad287, e287, hx287_0⟩ := Kd.at_int HR2.out x14_2 p287 q287
   cases e287
   replace hx287_0 := (HB.out.cell (World.block_lt_of_cell? w _ hx287_0)).trans hx287_0
   replace p287 := eq_true p287
   replace q287 := eq_true q287
   go_wp2_with (first | ((with_reducible refine gate_callee (f := 47) rfl ?_); refine goesL_ (some 51) rfl rfl Try.func47 (by kernel_rfl) rfl #[.int .i64 (wrap64 (x12_1 * (wrap64 ((wrap64 ((l0.length : Int) - 1)) - (rd l2 x14_2)))))] rfl zL ?_; (with_reducible refine (spec_l14Pow.calls k2 (wrap64 (x12_1 * (wrap64 ((wrap64 ((l0.length : Int) - 1)) - (rd l2 x14_2))))) t288 _ A17.out).mono ?_); rintro e w' ⟨rfl, ⟨nd, rfl⟩⟩; refine ⟨_, rfl, ?_⟩) | ((with_reducible refine gate_builtin (b := .append) (xs := #[.tmp 40, .tmp 52]) rfl ?_); at_builtin; refine Kd.R_append (Kd.int .i64) (w0 := w) w.heap.size rfl (.tmp 40) (.tmp 52) 24 3 (.int .i64 0) 8 rfl Try.underlying24 info3 rfl (by decide) (by omega) u13 x13_2 t288 [.int .i64 t288] (fun _ => True) (fun _ => False) rfl rfl ?aP (fun _ hk => hk.elim) ?aF ?aO ?aB ?aS ?aL ?_; (case aP => exact rfl); (case aB => exact zB); (case aF => exact (fun _ _ => trivial)); (case aO => exact (zR HO_13.out)); (case aS => exact (below_size zB)); (case aL => have := LMc18.out; omega); intro v290 w19 ho hb hg hat; rw [← Ny289.out] at ho; have n0_ := Aside0.mk (Kd.R_over' (zR HO_10.out) (Kd.R_typed (zR HO_13.out)) (by decide) hg); have n1_ := Aside0.mk (Kd.S_after (ok := (fun _ => True)) (by (with_reducible repeat (first | apply Kd.S_alloc | apply Kd.S_drewN | apply Kd.S_drew)); exact Kd.S_mono HO_11.out (fun _ hk => ⟨trivial, hk⟩)) hg hat); have n2_ := Aside0.mk (hb); have n3_ := Aside0.mk (ho); clear HO_10; clear HO_11; clear HB; clear HO_13; have HO_10 := n0_; have HO_11 := n1_; have HB := n2_; have HO291 := n3_; clear n0_ n1_ n2_ n3_; clear ho hb hg hat))
   go_roundg k2
   case measure => have := HK1.out; have := HK2.out; omega
   case rel => exact ⟨(y289), (wrap64 (x14_2 + 1)), zO, H', ⟨by have := HK1.out; have := HK2.out; omega⟩, ⟨zR HO_10.out⟩, ⟨by (with_reducible repeat (first | apply Kd.S_alloc | apply Kd.S_drewN | apply Kd.S_drew)); exact Kd.S_mono HO_11.out (fun _ hk => hk.2)⟩, ⟨zR HO291.out⟩, ⟨zB⟩⟩
  rw [if_neg c15] at H
  have c15b0 := decide_eq_false c15
  clear c15
  replace H := zg H
  obtain ⟨c20, H⟩ := H
  have c20b0 : decide (0 ≤ x12_1) = true := decide_eq_true c20
  clear c20
  replace H := zg H
  obtain ⟨c21, H⟩ := H
  have c21b0 : decide (x12_1 < (l1.length : Int)) = true := decide_eq_true c21
  clear c21
  replace H := zg H
  obtain ⟨c22, H⟩ := H
  have LMc22 := Aside0.mk c22
  clear c22
  obtain ⟨y293, hy293⟩ : ∃ y_ : List Int, y_ = (x13_2 ++ [rd l1 x12_1]) := ⟨_, rfl⟩
  replace H : (if x11_1.length < 5864062014805 then (spec_l14Put.l0 k2 l0 l1 l2 a3 y278 (x11_1 ++ [y293]) (wrap64 (x12_1 + 1))) else (none)) = some (r1, r2) := by first | (rw [hy293]; with_reducible exact H) | (have H2_ := (Option.bind_some _ _).symm.trans H; rw [hy293]; with_reducible exact H2_) | (have H2_ := (Option.bind_some _ _).symm.trans H; with_reducible exact H2_) | with_reducible exact H | (rw [hy293]; exact H) | exact H
  have Ny293 := Aside0.mk hy293
  clear hy293
  replace H := zg H
  obtain ⟨c23, H⟩ := H
  have LMc23 := Aside0.mk c23
  clear c23
  obtain ⟨y296, hy296⟩ : ∃ y_ : List (List Int), y_ = (x11_1 ++ [y293]) := ⟨_, rfl⟩
  replace H : (spec_l14Put.l0 k2 l0 l1 l2 a3 y278 y296 (wrap64 (x12_1 + 1))) = some (r1, r2) := by first | (rw [hy296]; with_reducible exact H) | (have H2_ := (Option.bind_some _ _).symm.trans H; rw [hy296]; with_reducible exact H2_) | (have H2_ := (Option.bind_some _ _).symm.trans H; with_reducible exact H2_) | with_reducible exact H | (rw [hy296]; exact H) | exact H
  have Ny296 := Aside0.mk hy296
  clear hy296
  have H' := Aside0.mk H
  clear H
  have p292 : 0 ≤ (x12_1 : Int) := zD
  have q292 : x12_1 < (l1.length : Int) := zD
  obtain ⟨ad292, e292, hx292_0⟩ := Kd.at_int HR1.out x12_1 p292 q292
  cases e292
  replace hx292_0 := (HB.out.cell (World.block_lt_of_cell? w _ hx292_0)).trans hx292_0
  replace p292 := eq_true p292
  replace q292 := eq_true q292
  go_wp2_with (first | ((with_reducible refine gate_builtin (b := .append) (xs := #[.tmp 55, .tmp 60]) rfl ?_); at_builtin; refine Kd.R_append (Kd.int .i64) (w0 := w) w.heap.size rfl (.tmp 55) (.tmp 60) 24 3 (.int .i64 0) 8 rfl Try.underlying24 info3 rfl (by decide) (by omega) u13 x13_2 (rd l1 x12_1) [.int .i64 (rd l1 x12_1)] (fun _ => True) (fun _ => False) rfl rfl ?aP (fun _ hk => hk.elim) ?aF ?aO ?aB ?aS ?aL ?_; (case aP => exact rfl); (case aB => exact zB); (case aF => exact (fun _ _ => trivial)); (case aO => exact (zR HO_13.out)); (case aS => exact (below_size zB)); (case aL => have := LMc22.out; omega); intro v294 w24 ho hb hg hat; rw [← Ny293.out] at ho; have n0_ := Aside0.mk (Kd.R_over' (zR HO_10.out) (Kd.R_typed (zR HO_13.out)) (by decide) hg); have n1_ := Aside0.mk (Kd.S_after (ok := (fun _ => True)) (by (with_reducible repeat (first | apply Kd.S_alloc | apply Kd.S_drewN | apply Kd.S_drew)); exact Kd.S_mono HO_11.out (fun _ hk => ⟨trivial, hk⟩)) hg hat); have n2_ := Aside0.mk (hb); have n3_ := Aside0.mk (ho); clear HO_10; clear HO_11; clear HB; clear HO_13; have HO_10 := n0_; have HO_11 := n1_; have HB := n2_; have HO295 := n3_; clear n0_ n1_ n2_ n3_; clear ho hb hg hat; obtain ⟨Ao26, co26, eo26⟩ := Kd.R_slice HO295.out; subst eo26) | ((with_reducible refine gate_builtin (b := .append) (xs := #[.tmp 54, .tmp 62]) rfl ?_); at_builtin; refine Kd.S_append (Kd.slice 3 (Kd.int .i64)) (w0 := w) w.heap.size rfl (.tmp 54) (.tmp 62) 60 24 (.slice none 0 0) 24 rfl Try.underlying60 info24 rfl (by decide) (by omega) u11 x11_1 y293 [.slice Ao26 y293.length co26] (fun _ => True) (fun k_ => some k_ = (.slice Ao26 y293.length co26 : Value).ownBlock) rfl rfl ?aP (fun k_ hk_ => ((Kd.R_mono (ok' := fun k_ => ((fun _ => True)) k_ ∧ some k_ ≠ (u11 : Value).ownBlock) (Kd.R_apart' (HO295.out) (Kd.S_typed HO_11.out) (by decide)) (fun k_ hk => ⟨trivial, hk.2⟩))).1 k_ hk_.symm) ?aF ?aO ?aB ?aS ?aL ?_; (case aP => exact Kd.M_row (Kd.R_mono (Kd.R_tight rfl (Kd.R_mono (ok' := fun k_ => ((fun _ => True)) k_ ∧ some k_ ≠ (u11 : Value).ownBlock) (Kd.R_apart' (HO295.out) (Kd.S_typed HO_11.out) (by decide)) (fun k_ hk => ⟨trivial, hk.2⟩))) (fun _ h_ => h_))); (case aB => exact zB); (case aF => exact (fun _ _ => trivial)); (case aO => exact (by (with_reducible repeat (first | apply Kd.S_alloc | apply Kd.S_drewN | apply Kd.S_drew)); exact Kd.S_mono HO_11.out (fun k_ hk => ⟨trivial, fun e_ => hk.2 e_⟩))); (case aS => exact (below_size zB)); (case aL => have := LMc23.out; omega); intro v297 w25 ho hb hg hat; rw [← Ny296.out] at ho; have n0_ := Aside0.mk (Kd.R_over' (zR HO_10.out) (Kd.S_typed (zS HO_11.out)) (by decide) hg); have n1_ := Aside0.mk (hb); have n2_ := Aside0.mk (ho); clear HO_10; clear HB; clear HO_11; clear HO295; have HO_10 := n0_; have HB := n1_; have HO298 := n2_; clear n0_ n1_ n2_; clear ho hb hg hat))
  go_roundg k2
  case measure => have := HK1.out; have := HK2.out; omega
  case rel => exact ⟨(y296), (wrap64 (x12_1 + 1)), zO, H', ⟨by have := HK1.out; have := HK2.out; omega⟩, ⟨zR HO_10.out⟩, ⟨zS HO298.out⟩, ⟨zB⟩⟩
 rw [if_neg c12] at H
 have c12b0 := decide_eq_false c12
 clear c12
 replace H := Option.bind_eq_some_iff.mp H
 obtain ⟨⟨t299, t300⟩, A270, H⟩ := H
 replace H : (if t300 = true then (spec_l14Put.l2 k1 l2 a3 y278 t299 0) else (some ((([] : List Int)), false))) = some (r1, r2) := H
 have A27 := Aside0.mk A270
 clear A270
 by_cases c28 : t300 = true
 rotate_left
 ·replace c28 := Bool.eq_false_iff.mpr c28
  subst c28
  have H1 : (some ((([] : List Int)), false)) = some (r1, r2) := by rw [if_neg (show ¬ (false = true) by decide)] at H; exact H
  clear H
  have H := H1
  clear H1
  obtain ⟨y303, hy303⟩ : ∃ y_ : List Int, y_ = (([] : List Int)) := ⟨_, rfl⟩
  replace H : (some (y303, false)) = some (r1, r2) := by first | (rw [hy303]; with_reducible exact H) | (have H2_ := (Option.bind_some _ _).symm.trans H; rw [hy303]; with_reducible exact H2_) | (have H2_ := (Option.bind_some _ _).symm.trans H; with_reducible exact H2_) | with_reducible exact H | (rw [hy303]; exact H) | exact H
  have Ny303 := Aside0.mk hy303
  clear hy303
  simp only [Option.some.injEq, Prod.mk.injEq] at H
  obtain ⟨rfl, rfl⟩ := H
  obtain ⟨Ao44, co44, eo44⟩ := Kd.S_slice HO_11.out
  subst eo44
  go_wp2_with (first | ((with_reducible refine gate_callee (f := 55) rfl ?_); refine goesL_ (some 66) rfl rfl Try.func55 (by kernel_rfl) rfl #[.slice Ao44 x11_1.length co44] rfl zL ?_; (with_reducible refine (spec_l14Solve.calls k1 _ _ x11_1 t299 false _ ?side1 ?side2 A27.out).mono ?_); (case side1 => exact MX_of_S (zS HO_11.out)); (case side2 => exact (Kd.S_reads' HO_11.out).2.1); rintro e w45 ⟨v301, rfl, ho0, hb⟩; refine ⟨_, rfl, ?_⟩; have n0_ := Aside0.mk (Kd.R_over' (zR HO_10.out) (Kd.S_typed (zS HO_11.out)) (by decide) hb); have n1_ : Aside0 (Kd.S (Kd.slice 3 (Kd.int .i64)) 24 w45 w.heap.size (fun _ => True) (.slice none 0 0) ([] : List (List Int))) := ⟨Kd.S_nil _ _ _ _ _⟩; have n2_ := Aside0.mk (Kd.R_lower ho0 (below_size zB)); have n3_ := Aside0.mk (pw_below_grown zB _ (below_size zB) hb (Kd.S_base HO_11.out)); clear HO_10; clear HO_11; clear HB; have HO_10 := n0_; have HO_11 := n1_; have HO302 := n2_; have HB := n3_; clear n0_ n1_ n2_ n3_; (try clear hb); (try clear hb2); (try clear hk); (try clear hi); (try clear ho0)) | ((with_reducible refine gate_dst (N := 71) rfl ?_); refine Kd.R_lit (Kd.int .u8) _ 5 ?hg (N := 71) ?hd (xs := ([] : List Int)) (inner := []) (ok := fun _ => True) (okp := fun _ => True) ?hr ?hp (fun _ hk => hk) trivial (Below.refl _ _) (Nat.le_refl _) (by simp) ?_; (case hd => rfl); (case hg => rfl); (case hr => first | (go_simp; done) | (go_simp; rfl)); (case hp => exact (Reps.none _ _)); intro v304 w46 ho47 hb hg_ hnew_; clear hg_ hnew_; (first | rw [← Ny303.out] at ho47 | (simp only [Int.reduceToNat] at ho47; rw [← Ny303.out] at ho47)); have n0_ := Aside0.mk (Kd.R_elder' (zR HO_10.out) (Kd.R_base ho47) hb); have n1_ := Aside0.mk (Kd.S_below (zS HO_11.out) hb); have n2_ := Aside0.mk (Kd.R_below (zR HO302.out) hb); have n3_ := Aside0.mk (Kd.R_lower (Kd.R_new' ho47 (Kd.R_lt (zR HO_10.out))) (below_size zB)); have n4_ := Aside0.mk (below_step zB hb); clear HO_10; clear HO_11; clear HO302; clear HB; have HO_10 := n0_; have HO_11 := n1_; have HO302 := n2_; have HO305 := n3_; have HB := n4_; clear n0_ n1_ n2_ n3_ n4_; clear hb ho47))
  go_ret2
  exact ⟨_, zE, by (with_reducible repeat (first | apply Kd.R_alloc | apply Kd.R_drewN | apply Kd.R_drew)); exact Kd.R_mono HO305.out (fun _ hk => trivial), zB⟩
 subst c28
 have H1 : (spec_l14Put.l2 k1 l2 a3 y278 t299 0) = some (r1, r2) := by rw [if_pos rfl] at H; exact H
 clear H
 have H := H1
 clear H1
 have H' := Aside0.mk H
 clear H
 obtain ⟨Ao29, co29, eo29⟩ := Kd.S_slice HO_11.out
 subst eo29
 go_wp2_with (first | ((with_reducible refine gate_callee (f := 55) rfl ?_); refine goesL_ (some 66) rfl rfl Try.func55 (by kernel_rfl) rfl #[.slice Ao29 x11_1.length co29] rfl zL ?_; (with_reducible refine (spec_l14Solve.calls k1 _ _ x11_1 t299 true _ ?side1 ?side2 A27.out).mono ?_); (case side1 => exact MX_of_S (zS HO_11.out)); (case side2 => exact (Kd.S_reads' HO_11.out).2.1); rintro e w30 ⟨v301, rfl, ho0, hb⟩; refine ⟨_, rfl, ?_⟩; have n0_ := Aside0.mk (Kd.R_over' (zR HO_10.out) (Kd.S_typed (zS HO_11.out)) (by decide) hb); have n1_ : Aside0 (Kd.S (Kd.slice 3 (Kd.int .i64)) 24 w30 w.heap.size (fun _ => True) (.slice none 0 0) ([] : List (List Int))) := ⟨Kd.S_nil _ _ _ _ _⟩; have n2_ := Aside0.mk (Kd.R_lower ho0 (below_size zB)); have n3_ := Aside0.mk (pw_below_grown zB _ (below_size zB) hb (Kd.S_base HO_11.out)); clear HO_10; clear HO_11; clear HB; have HO_10 := n0_; have HO_11 := n1_; have HO302 := n2_; have HB := n3_; clear n0_ n1_ n2_ n3_; (try clear hb); (try clear hb2); (try clear hk); (try clear hi); (try clear ho0)))
 go_loopg [17] k1 (fun kq v17 w' => ∃ (x10_2 : List Int) (x17_2 : Int), v17 = .int .i64 x17_2 ∧ Aside0 (spec_l14Put.l2 kq l2 a3 x10_2 t299 x17_2 = some (r1, r2)) ∧ Aside0 (kq ≤ k1) ∧ Aside0 (Kd.R (Kd.int .u8) 5 w' w.heap.size (fun _ => True) v279 x10_2) ∧ Aside0 (Kd.R (Kd.int .i64) 3 w' w.heap.size (fun _ => True) v301 t299) ∧ Aside0 (Below w.heap.size w w'))
 case atStart => exact ⟨(y278), (0), zO, H', ⟨Nat.le_refl _⟩, ⟨zR HO_10.out⟩, ⟨zR HO302.out⟩, ⟨zB⟩⟩
 case round =>
 clear H'
 try clear c1
 try clear c2
 try clear p2
 try clear q2
 try clear hx2
 try clear c4
 try clear c5
 try clear c6
 try clear c6b0
 try clear c6b1
 try clear p6
 try clear c12
 try clear c12b0
 try clear c15
 try clear c15b0
 try clear c16
 try clear c16b0
 try clear c18
 try clear c20
 try clear c20b0
 try clear c21
 try clear c21b0
 try clear c22
 try clear c23
 try clear c28
 try clear p28
 try clear q28
 try clear hx28
 try clear p29
 try clear q29
 try clear hx29
 try clear hx287_0
 try clear hx292_0
 try clear p2
 try clear p287
 try clear p292
 try clear q287
 try clear q292
 obtain ⟨x10_2, x17_2, rfl, HA, HK2, HO_10, HO_15, HB⟩ := hrel
 cases gk with
 | zero => exact absurd HA.out (by simp [spec_l14Put.l2])
 | succ k2 =>
 have H := HA.out
 clear HA
 simp only [spec_l14Put.l2] at H
 by_cases c31 : x17_2 < (l2.length : Int)
 rotate_left
 ·rw [if_neg c31] at H
  have c31b0 := decide_eq_false c31
  clear c31
  replace H := Option.bind_eq_some_iff.mp H
  obtain ⟨⟨t311, t312⟩, A410, H⟩ := H
  replace H : (some (x10_2, t312)) = some (r1, r2) := H
  have A41 := Aside0.mk A410
  clear A410
  simp only [Option.some.injEq, Prod.mk.injEq] at H
  obtain ⟨rfl, rfl⟩ := H
  obtain ⟨Ao42, co42, eo42⟩ := Kd.R_slice HO_10.out
  subst eo42
  go_wp2_with (first | ((with_reducible refine gate_callee (f := 43) rfl ?_); refine goesL_ (some 100) rfl rfl Try.func43 (by kernel_rfl) rfl #[.slice Ao42 x10_2.length co42, .int .i64 a3] rfl zL ?_; (with_reducible refine (spec_l14Signs.calls k2 _ _ x10_2 a3 t311 t312 _ ?side1 ?side2 A41.out).mono ?_); (case side1 => exact zC (Kd.R_reads' HO_10.out).2.2); (case side2 => exact (Kd.R_reads' HO_10.out).2.1); rintro e w43 ⟨v313, rfl, ho0, hb⟩; refine ⟨_, rfl, ?_⟩; have n0_ := Aside0.mk (Kd.R_below (zR HO_10.out) hb); have n1_ := Aside0.mk (Kd.R_elder' (zR HO_15.out) (Kd.R_base ho0) hb); have n2_ := Aside0.mk (Kd.R_lower (Kd.R_new' ho0 (Kd.R_lt (zR HO_15.out))) (below_size zB)); have n3_ := Aside0.mk (below_step zB hb); clear HO_10; clear HO_15; clear HB; have HO_10 := n0_; have HO_15 := n1_; have HO314 := n2_; have HB := n3_; clear n0_ n1_ n2_ n3_; (try clear hb); (try clear hb2); (try clear hk); (try clear hi); (try clear ho0)))
  go_ret2
  exact ⟨_, zE, zR HO_10.out, zB⟩
 rw [if_pos c31] at H
 have c31b0 := decide_eq_true c31
 clear c31
 replace H := zg H
 obtain ⟨c32, H⟩ := H
 have c32b0 : decide (0 ≤ x17_2) = true := decide_eq_true c32
 clear c32
 replace H := zg H
 obtain ⟨c33, H⟩ := H
 have c33b0 : decide (0 ≤ (rd l2 x17_2)) = true := decide_eq_true c33
 clear c33
 replace H := zg H
 obtain ⟨c34, H⟩ := H
 have c34b0 : decide ((rd l2 x17_2) < (x10_2.length : Int)) = true := decide_eq_true c34
 clear c34
 replace H := zg H
 obtain ⟨c35, H⟩ := H
 have c35b0 : decide (x17_2 < (t299.length : Int)) = true := decide_eq_true c35
 clear c35
 obtain ⟨y310, hy310⟩ : ∃ y_ : List Int, y_ = (x10_2.set ((rd l2 x17_2) : Int).toNat (Go.bits .xor .u8 (rd x10_2 (rd l2 x17_2)) ((rd t299 x17_2) % 256))) := ⟨_, rfl⟩
 replace H : (spec_l14Put.l2 k2 l2 a3 y310 t299 (wrap64 (x17_2 + 1))) = some (r1, r2) := by first | (rw [hy310]; with_reducible exact H) | (have H2_ := (Option.bind_some _ _).symm.trans H; rw [hy310]; with_reducible exact H2_) | (have H2_ := (Option.bind_some _ _).symm.trans H; with_reducible exact H2_) | with_reducible exact H | (rw [hy310]; exact H) | exact H
 have Ny310 := Aside0.mk hy310
 clear hy310
 have H' := Aside0.mk H
 clear H
 try go_wp2
 have n0_ := Aside0.mk (Kd.R_drew HO_10.out)
 have n1_ := Aside0.mk (Kd.R_drew HO_15.out)
 have n2_ := Aside0.mk (below_drew1 HB.out)
 clear HO_10
 clear HO_15
 clear HB
 have HO_10 := n0_
 have HO_15 := n1_
 have HB := n2_
 clear n0_ n1_ n2_
 have p306 : 0 ≤ (x17_2 : Int) := zD
 have q306 : x17_2 < (l2.length : Int) := zD
 obtain ⟨ad306, e306, hx306_0⟩ := Kd.at_int HR2.out x17_2 p306 q306
 have hw306_0 := hx306_0
 cases e306
 replace hx306_0 := (HB.out.cell (World.block_lt_of_cell? w _ hx306_0)).trans hx306_0
 replace p306 := eq_true p306
 replace q306 := eq_true q306
 have p307 : 0 ≤ (x17_2 : Int) := zD
 have q307 : x17_2 < (l2.length : Int) := zD
 obtain ⟨ad307, e307, hx307_0⟩ := Kd.at_int HR2.out x17_2 p307 q307
 have hw307_0 := hx307_0
 obtain rfl : ad306 = ad307 := (by injection e307)
 replace hx307_0 := (HB.out.cell (World.block_lt_of_cell? w _ hx307_0)).trans hx307_0
 replace p307 := eq_true p307
 replace q307 := eq_true q307
 obtain ⟨Ao38, co38, eo38⟩ := Kd.R_slice HO_10.out
 (first | subst eo38 | (injection eo38 with f1_ f2_ f3_; have f4_ := f1_.symm; have f5_ := f3_.symm; clear f1_ f2_ f3_; subst f4_; subst f5_))
 have p308 : 0 ≤ ((rd l2 x17_2) : Int) := zD
 have q308 : (rd l2 x17_2) < (x10_2.length : Int) := zD
 obtain ⟨ad308, e308, hx308_0⟩ := Kd.at_int (Kd.R_reads' HO_10.out).2.2 (rd l2 x17_2) p308 q308
 cases e308
 replace p308 := eq_true p308
 replace q308 := eq_true q308
 obtain ⟨Ao39, co39, eo39⟩ := Kd.R_slice HO_15.out
 (first | subst eo39 | (injection eo39 with f1_ f2_ f3_; have f4_ := f1_.symm; have f5_ := f3_.symm; clear f1_ f2_ f3_; subst f4_; subst f5_))
 have p309 : 0 ≤ (x17_2 : Int) := zD
 have q309 : x17_2 < (t299.length : Int) := zD
 obtain ⟨ad309, e309, hx309_0⟩ := Kd.at_int (Kd.R_reads' HO_15.out).2.2 x17_2 p309 q309
 cases e309
 replace p309 := eq_true p309
 replace q309 := eq_true q309
 have p36 : 0 ≤ ((rd l2 x17_2) : Int) := zD
 have q36 : ((rd l2 x17_2) : Int) < ((x10_2.length : Int) : Int) := zD
 obtain ⟨go36, co36, eo36, gb36, gl36, cl36, HG36⟩ := Kd.R_form HO_10.out (by omega)
 (first | cases eo36 | (injection eo36 with ea_ en_ ec_; (first | subst ea_ | (injection ea_ with ea_; subst ea_)); subst ec_; clear en_))
 have GB36 := Aside0.mk gb36
 have GG36 := Aside0.mk HG36
 clear gb36 gl36 HG36
 (first | simp only [add_plain] at hx308_0 | skip)
 obtain ⟨hx36_0, hf36_0⟩ := Kd.R_celln 0 HO_10.out ((rd l2 x17_2) : Int) p36 q36
 replace p36 := eq_true p36
 replace q36 := eq_true q36
 have HP40 := Kd.R_putn HO_10.out ((rd l2 x17_2) : Int) (Go.bits .xor .u8 (rd x10_2 (rd l2 x17_2)) ((rd t299 x17_2) % 256))
 rw [← Ny310.out] at HP40
 have HQ40 := Aside0.mk HP40
 clear HP40
 refine start_ (n := 20) (S := fun w' => w'.cell? (ad306.add (x17_2).toNat) = some (.int .i64 (rd l2 x17_2)) ∧ w'.cell? (ad306.add (x17_2).toNat) = some (.int .i64 (rd l2 x17_2)) ∧ w'.cell? ⟨go36, ((rd l2 x17_2)).toNat, none⟩ = some (.int .u8 (rd x10_2 (rd l2 x17_2))) ∧ w'.cell? (ad309.add (x17_2).toNat) = some (.int .i64 (rd t299 x17_2))) (ds := [19]) spec_l14Put.mk_0 (by kernel_rfl) rfl rfl ⟨((HB.out.cell (World.block_lt_of_cell? w _ hw306_0)).trans hw306_0), ((HB.out.cell (World.block_lt_of_cell? w _ hw307_0)).trans hw307_0), hx308_0, hx309_0⟩ (fun hHeld => ?_); refine with_tabW spec_l14Put.tab19 spec_l14Put.bits19 (fun HT_ HW_ => ?_)
 generalize wr.drew = w37 at HO_10 HO_15 HB GG36 HQ40 hf36_0 hx306_0 hx307_0 hx308_0 hx309_0 hx36_0 hHeld ⊢
 refine zP 0 78 spec_l14Put.mk_1 ?_
 refine zP 1 79 spec_l14Put.mk_2 ?_
 refine zP 2 80 spec_l14Put.mk_3 ?_
 refine zP 3 81 spec_l14Put.mk_4 ?_
 refine zP 5 83 spec_l14Put.mk_5 ?_
 refine zP 6 84 spec_l14Put.mk_6 ?_
 refine zP 7 85 spec_l14Put.mk_7 ?_
 refine zP 8 86 spec_l14Put.mk_8 ?_
 refine zP 12 90 spec_l14Put.mk_9 ?_
 refine zP 13 91 spec_l14Put.mk_10 ?_
 refine zP 14 92 spec_l14Put.mk_11 ?_
 refine zT4 4 82 spec_l14Put.mk_12 ?_
 refine zT4 9 87 spec_l14Put.mk_13 ?_
 refine zP 10 88 spec_l14Put.mk_14 ?_
 refine zT4 11 89 spec_l14Put.mk_15 ?_
 refine zT4 15 93 spec_l14Put.mk_16 ?_
 refine zP 16 94 spec_l14Put.mk_17 ?_
 refine zP 17 95 spec_l14Put.mk_18 ?_
 refine zP 18 96 spec_l14Put.mk_19 ?_
 refine last_ (i := 19) (N := none) spec_l14Put.mk_20 rfl rfl (one_of HT_.out (by kernel_rfl)) (by decide) (fun K hK => ?_)
 refine skip_ (w1 := ?_) (by rfl) rfl ?_ ?_
 rotate_left
 ·go_simp
  rfl
 refine hK.out _ _ ?_
 clear hK K
 refine done_ (done_of HT_.out (by kernel_rfl)) ?_
 try go_wp2
 go_roundg k2
 case measure => have := HK1.out; have := HK2.out; omega
 case rel => exact ⟨(y310), (wrap64 (x17_2 + 1)), zO, H', ⟨by have := HK1.out; have := HK2.out; omega⟩, ⟨zR HQ40.out⟩, ⟨by (with_reducible repeat (first | apply Kd.R_alloc | apply Kd.R_drewN | apply Kd.R_drew)); exact Kd.R_mono (Kd.R_far (p := ⟨go36, ((rd l2 x17_2) : Int).toNat, none⟩) (Kd.R_types HO_15.out GG36.out (by decide)) (fun _ hk => hk.2) (.int .u8 (Go.bits .xor .u8 (rd x10_2 (rd l2 x17_2)) ((rd t299 x17_2) % 256)))) (fun _ hk => trivial)⟩, ⟨by repeat (first | (with_reducible first | exact HB.out | apply below_alloc | apply pw_below_drewN | apply below_drew1 | refine below_set ?_ GB36.out) | exact HB.out)⟩⟩

end Go.Proofs.Ytdcjfcfiflpblaa.PFnNearestWord
