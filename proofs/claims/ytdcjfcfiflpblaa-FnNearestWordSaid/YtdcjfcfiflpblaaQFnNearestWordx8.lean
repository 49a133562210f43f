/- The functions that FnNearestWord reaches, each with its walk; written by a program (own.py). -/
import Derived.Test.YtdcjfcfiflpblaaSh
import Derived.Test.YtdcjfcfiflpblaaQFnNearestWordx0
import Derived.Test.YtdcjfcfiflpblaaQFnNearestWordx7
namespace Go.Proofs.Ytdcjfcfiflpblaa.PFnNearestWord
open Go.RowKit Go.Proofs.YtdcjfcfiflpblaaW.PrintWords Go.Proofs.YtdcjfcfiflpblaaW.PrintLast Go.Proofs.YtdcjfcfiflpblaaW.PrintMore
attribute [local go_sem] max2_int min2_int max_two min_two max_three min_three max_four min_four   -- for this text's walks alone
set_option linter.unusedVariables false
set_option linter.unusedSimpArgs false

/-! ### spec_l14Solve: function 55 -/
def spec_l14Solve.p1 : Nat → List (List Int) → Int → Int → Int → Option Int
  | 0, _, _, _, _ => none
  | k + 1, M, n, c, p => if p < n then (if 0 ≤ p ∧ p < (M.length : Int) ∧ 0 ≤ c ∧ c < ((rd_L3 M p).length : Int) then (if rd (rd_L3 M p) c = 0 then (spec_l14Solve.p1 k M n c (wrap64 (p + 1))) else (some p)) else (none)) else (some p)
theorem spec_l14Solve.mono_p1 : ∀ k, (∀ y0 y1 y2 y3, LeO (spec_l14Solve.p1 k y0 y1 y2 y3) (spec_l14Solve.p1 (k + 1) y0 y1 y2 y3))
  | 0 => fun _ _ _ _ r h => by simp [spec_l14Solve.p1] at h
  | k + 1 => by
    have ih0 := spec_l14Solve.mono_p1 k
    intro y0 y1 y2 y3
    unfold spec_l14Solve.p1
    repeat' first
      | (with_reducible exact ih0 _ _ _ _)
      | (with_reducible exact LeO.refl _)
      | (with_reducible exact LeO.none _)
      | (with_reducible refine LeO.ite ?_ ?_)
      | (with_reducible refine LeO.bind ?_ (fun _ => ?_))
      | exact ih0 _ _ _ _
      | exact LeO.none _
      | refine LeO.ite ?_ ?_
      | refine LeO.bind ?_ (fun _ => ?_)
def spec_l14Solve.p2 : Nat → List Int → Int → Int → List Int → Int → Option (List Int)
  | 0, _, _, _, _, _ => none
  | k + 1, x, n, v, y, j => if j ≤ n then (if 0 ≤ j ∧ j < (x.length : Int) then ((spec_GfMul.f k (rd x j) v).bind fun t => (if y.length < 17592186044416 then (spec_l14Solve.p2 k x n v (y ++ [t]) (wrap64 (j + 1))) else (none))) else (none)) else (some y)
theorem spec_l14Solve.mono_p2 : ∀ k, (∀ y0 y1 y2 y3 y4, LeO (spec_l14Solve.p2 k y0 y1 y2 y3 y4) (spec_l14Solve.p2 (k + 1) y0 y1 y2 y3 y4))
  | 0 => fun _ _ _ _ _ r h => by simp [spec_l14Solve.p2] at h
  | k + 1 => by
    have ih0 := spec_l14Solve.mono_p2 k
    intro y0 y1 y2 y3 y4
    unfold spec_l14Solve.p2
    repeat' first
      | (with_reducible exact ih0 _ _ _ _ _)
      | (with_reducible exact spec_GfMul.mono _ _ _)
      | (with_reducible exact LeO.refl _)
      | (with_reducible exact LeO.none _)
      | (with_reducible refine LeO.ite ?_ ?_)
      | (with_reducible refine LeO.bind ?_ (fun _ => ?_))
      | exact ih0 _ _ _ _ _
      | exact spec_GfMul.mono _ _ _
      | exact LeO.none _
      | refine LeO.ite ?_ ?_
      | refine LeO.bind ?_ (fun _ => ?_)
def spec_l14Solve.p4 : Nat → List Int → Int → Int → List Int → List Int → Int → Option (List Int)
  | 0, _, _, _, _, _, _ => none
  | k + 1, r, n, f, y, z, j => if j ≤ n then (if 0 ≤ j ∧ j < (r.length : Int) ∧ j < (y.length : Int) then ((spec_GfMul.f k f (rd y j)).bind fun t => (if z.length < 17592186044416 then (spec_l14Solve.p4 k r n f y (z ++ [Go.bits .xor .i64 (rd r j) t]) (wrap64 (j + 1))) else (none))) else (none)) else (some z)
theorem spec_l14Solve.mono_p4 : ∀ k, (∀ y0 y1 y2 y3 y4 y5, LeO (spec_l14Solve.p4 k y0 y1 y2 y3 y4 y5) (spec_l14Solve.p4 (k + 1) y0 y1 y2 y3 y4 y5))
  | 0 => fun _ _ _ _ _ _ r h => by simp [spec_l14Solve.p4] at h
  | k + 1 => by
    have ih0 := spec_l14Solve.mono_p4 k
    intro y0 y1 y2 y3 y4 y5
    unfold spec_l14Solve.p4
    repeat' first
      | (with_reducible exact ih0 _ _ _ _ _ _)
      | (with_reducible exact spec_GfMul.mono _ _ _)
      | (with_reducible exact LeO.refl _)
      | (with_reducible exact LeO.none _)
      | (with_reducible refine LeO.ite ?_ ?_)
      | (with_reducible refine LeO.bind ?_ (fun _ => ?_))
      | exact ih0 _ _ _ _ _ _
      | exact spec_GfMul.mono _ _ _
      | exact LeO.none _
      | refine LeO.ite ?_ ?_
      | refine LeO.bind ?_ (fun _ => ?_)
def spec_l14Solve.p3 : Nat → List (List Int) → Int → Int → List Int → Int → Option (List (List Int))
  | 0, _, _, _, _, _ => none
  | k + 1, M, n, c, y, i => if i < n then (if i = c then (spec_l14Solve.p3 k M n c y (wrap64 (i + 1))) else (if 0 ≤ i ∧ i < (M.length : Int) ∧ 0 ≤ c ∧ c < ((rd_L3 M i).length : Int) then ((spec_l14Solve.p4 k (rd_L3 M i) n (rd (rd_L3 M i) c) y ([] : List Int) 0).bind fun z => (spec_l14Solve.p3 k (M.set i.toNat z) n c y (wrap64 (i + 1)))) else (none))) else (some M)
theorem spec_l14Solve.mono_p3 : ∀ k, (∀ y0 y1 y2 y3 y4, LeO (spec_l14Solve.p3 k y0 y1 y2 y3 y4) (spec_l14Solve.p3 (k + 1) y0 y1 y2 y3 y4))
  | 0 => fun _ _ _ _ _ r h => by simp [spec_l14Solve.p3] at h
  | k + 1 => by
    have ih0 := spec_l14Solve.mono_p3 k
    intro y0 y1 y2 y3 y4
    unfold spec_l14Solve.p3
    repeat' first
      | (with_reducible exact ih0 _ _ _ _ _)
      | (with_reducible exact spec_l14Solve.mono_p4 _ _ _ _ _ _ _)
      | (with_reducible exact LeO.refl _)
      | (with_reducible exact LeO.none _)
      | (with_reducible refine LeO.ite ?_ ?_)
      | (with_reducible refine LeO.bind ?_ (fun _ => ?_))
      | exact ih0 _ _ _ _ _
      | exact spec_l14Solve.mono_p4 _ _ _ _ _ _ _
      | exact LeO.none _
      | refine LeO.ite ?_ ?_
      | refine LeO.bind ?_ (fun _ => ?_)
def spec_l14Solve.p0 : Nat → List (List Int) → Int → Int → Option (List (List Int) × Bool)
  | 0, _, _, _ => none
  | k + 1, M, n, c => if c < n then ((spec_l14Solve.p1 k M n c c).bind fun p => (if p = n then (some (M, false)) else (if 0 ≤ p ∧ p < (M.length : Int) ∧ 0 ≤ c ∧ c < (M.length : Int) ∧ c < ((rd_L3 M p).length : Int) then ((spec_GfInv.f k (rd (rd_L3 M p) c)).bind fun v => ((spec_l14Solve.p2 k (rd_L3 M p) n v ([] : List Int) 0).bind fun y => ((spec_l14Solve.p3 k ((M.set p.toNat (rd_L3 M c)).set c.toNat y) n c y 0).bind fun M2 => (spec_l14Solve.p0 k M2 n (wrap64 (c + 1)))))) else (none)))) else (some (M, true))
theorem spec_l14Solve.mono_p0 : ∀ k, (∀ y0 y1 y2, LeO (spec_l14Solve.p0 k y0 y1 y2) (spec_l14Solve.p0 (k + 1) y0 y1 y2))
  | 0 => fun _ _ _ r h => by simp [spec_l14Solve.p0] at h
  | k + 1 => by
    have ih0 := spec_l14Solve.mono_p0 k
    intro y0 y1 y2
    unfold spec_l14Solve.p0
    repeat' first
      | (with_reducible exact ih0 _ _ _)
      | (with_reducible exact spec_l14Solve.mono_p1 _ _ _ _ _)
      | (with_reducible exact spec_l14Solve.mono_p2 _ _ _ _ _ _)
      | (with_reducible exact spec_l14Solve.mono_p3 _ _ _ _ _ _)
      | (with_reducible exact spec_GfInv.mono _ _)
      | (with_reducible exact LeO.refl _)
      | (with_reducible exact LeO.none _)
      | (with_reducible refine LeO.ite ?_ ?_)
      | (with_reducible refine LeO.bind ?_ (fun _ => ?_))
      | exact ih0 _ _ _
      | exact spec_l14Solve.mono_p1 _ _ _ _ _
      | exact spec_l14Solve.mono_p2 _ _ _ _ _ _
      | exact spec_l14Solve.mono_p3 _ _ _ _ _ _
      | exact spec_GfInv.mono _ _
      | exact LeO.none _
      | refine LeO.ite ?_ ?_
      | refine LeO.bind ?_ (fun _ => ?_)
def spec_l14Solve.p5 : Nat → List (List Int) → Int → List Int → Int → Option (List Int)
  | 0, _, _, _, _ => none
  | k + 1, M, n, o, i => if i < n then (if 0 ≤ i ∧ i < (M.length : Int) ∧ 0 ≤ n ∧ n < ((rd_L3 M i).length : Int) then (if o.length < 17592186044416 then (spec_l14Solve.p5 k M n (o ++ [rd (rd_L3 M i) n]) (wrap64 (i + 1))) else (none)) else (none)) else (some o)
theorem spec_l14Solve.mono_p5 : ∀ k, (∀ y0 y1 y2 y3, LeO (spec_l14Solve.p5 k y0 y1 y2 y3) (spec_l14Solve.p5 (k + 1) y0 y1 y2 y3))
  | 0 => fun _ _ _ _ r h => by simp [spec_l14Solve.p5] at h
  | k + 1 => by
    have ih0 := spec_l14Solve.mono_p5 k
    intro y0 y1 y2 y3
    unfold spec_l14Solve.p5
    repeat' first
      | (with_reducible exact ih0 _ _ _ _)
      | (with_reducible exact LeO.refl _)
      | (with_reducible exact LeO.none _)
      | (with_reducible refine LeO.ite ?_ ?_)
      | (with_reducible refine LeO.bind ?_ (fun _ => ?_))
      | exact ih0 _ _ _ _
      | exact LeO.none _
      | refine LeO.ite ?_ ?_
      | refine LeO.bind ?_ (fun _ => ?_)
def spec_l14Solve.f (k : Nat) (l0 : List (List Int)) : Option (List Int × Bool) := ((spec_l14Solve.p0 k l0 (l0.length : Int) 0).bind fun rm => (if rm.2 = true then ((spec_l14Solve.p5 k rm.1 (l0.length : Int) ([] : List Int) 0).bind fun o => (some (o, true))) else (some (([] : List Int), false))))
theorem spec_l14Solve.mono : ∀ a0 k, LeO (spec_l14Solve.f k a0) (spec_l14Solve.f (k + 1) a0) := by
  intro a0 k
  unfold spec_l14Solve.f
  repeat' first
      | (with_reducible exact spec_l14Solve.mono_p0 _ _ _ _)
      | (with_reducible exact spec_l14Solve.mono_p5 _ _ _ _ _)
      | (with_reducible exact LeO.refl _)
      | (with_reducible exact LeO.none _)
      | (with_reducible refine LeO.ite ?_ ?_)
      | (with_reducible refine LeO.bind ?_ (fun _ => ?_))
      | exact spec_l14Solve.mono_p0 _ _ _ _
      | exact spec_l14Solve.mono_p5 _ _ _ _ _
      | exact LeO.none _
      | refine LeO.ite ?_ ?_
      | refine LeO.bind ?_ (fun _ => ?_)
/-- Rows in a row that may be written, each read where it lies; none lies in the row itself. -/
def MX (w : World) (A0 : Option Addr) (M : List (List Int)) : Prop := M = [] ∨ ∃ (g : Nat) (vs : Array Value), A0 = some ⟨g, 0, none⟩ ∧ w.heap[g]? = some (.cells vs 24 (0, 0)) ∧ ∀ i (h : i < M.length), ∃ A c, vs[i]? = some (.slice A M[i].length c) ∧ M[i].length ≤ c ∧ Kd.F (Kd.int .i64) w (fun k => k ≠ g) A M[i].length M[i]
theorem MX_below {w w1 : World} {A0 : Option Addr} {M : List (List Int)} (h : MX w A0 M) (hb : Below w.heap.size w w1) : MX w1 A0 M := by
  rcases h with h | ⟨g, vs, e, h1, h2⟩
  · exact .inl h
  · exact .inr ⟨g, vs, e, blk_below h1 hb, fun i hi => by obtain ⟨A, c, e1, e2, e3⟩ := h2 i hi; exact ⟨A, c, e1, e2, Kd.F_below e3 hb⟩⟩
theorem rd3_at {M : List (List Int)} {i : Int} (h0 : 0 ≤ i) (h1 : i < (M.length : Int)) : ∃ h : i.toNat < M.length, rd_L3 M i = M[i.toNat] := by
  have h : i.toNat < M.length := by omega
  refine ⟨h, ?_⟩
  unfold rd_L3
  rw [List.getD_eq_getElem?_getD, List.getElem?_eq_getElem h]; rfl
theorem MX_at {w : World} {A0 : Option Addr} {M : List (List Int)} (h : MX w A0 M) {i : Int} (h0 : 0 ≤ i) (h1 : i < (M.length : Int)) : ∃ (g : Nat) (vs : Array Value) (A : Option Addr) (c : Nat), A0 = some ⟨g, 0, none⟩ ∧ w.heap[g]? = some (.cells vs 24 (0, 0)) ∧ w.cell? ⟨g, i.toNat, none⟩ = some (.slice A (rd_L3 M i).length c) ∧ (rd_L3 M i).length ≤ c ∧ Kd.F (Kd.int .i64) w (fun k => k ≠ g) A (rd_L3 M i).length (rd_L3 M i) := by
  obtain ⟨hi, e⟩ := rd3_at h0 h1
  rcases h with h | ⟨g, vs, eA, h2, h3⟩
  · subst h; exact absurd hi (Nat.not_lt_zero _)
  · obtain ⟨A, c, e1, e2, e3⟩ := h3 i.toNat hi
    refine ⟨g, vs, A, c, eA, h2, ?_, by rw [e]; exact e2, by rw [e]; exact e3⟩
    rw [e, blk_cell h2]
    exact e1
theorem MX_set {w : World} {g : Nat} {M : List (List Int)} (h : MX w (some ⟨g, 0, none⟩) M) {i : Int} (h0 : 0 ≤ i) (h1 : i < (M.length : Int)) {A : Option Addr} {c : Nat} {l : List Int} (hl : l.length ≤ c) (hF : Kd.F (Kd.int .i64) w (fun k => k ≠ g) A l.length l) : MX (w.setCell ⟨g, i.toNat, none⟩ (.slice A l.length c)) (some ⟨g, 0, none⟩) (M.set i.toNat l) := by
  obtain ⟨hi, -⟩ := rd3_at h0 h1
  rcases h with h | ⟨g', vs, eA, h2, h3⟩
  · subst h; exact absurd hi (Nat.not_lt_zero _)
  · obtain rfl : g = g' := by injection eA with eA; injection eA
    refine .inr ⟨g, _, rfl, blk_set h2 i.toNat _, fun j hj => ?_⟩
    have hj' : j < M.length := by simpa using hj
    obtain ⟨A1, c1, e1, e2, e3⟩ := h3 j hj'
    by_cases ej : j = i.toNat
    · subst ej
      refine ⟨A, c, ?_, ?_, ?_⟩
      · have hs : i.toNat < vs.size := (Array.getElem?_eq_some_iff.1 e1).1
        simp [hs]
      · rw [List.getElem_set_self]; exact hl
      · rw [List.getElem_set_self]; exact Kd.F_far hF (fun _ hk => hk) _
    · refine ⟨A1, c1, ?_, ?_, ?_⟩
      · rw [List.getElem_set_ne (fun e => ej e.symm)]
        rw [← e1]
        simp [Array.getElem?_setIfInBounds, show ¬ i.toNat = j from fun e => ej e.symm]
      · rw [List.getElem_set_ne (fun e => ej e.symm)]; exact e2
      · rw [List.getElem_set_ne (fun e => ej e.symm)]; exact Kd.F_far e3 (fun _ hk => hk) _
theorem GB_below {w w1 w2 : World} {row : Option Nat} (h : w.grownBy w1 row) (hb : Below w1.heap.size w1 w2) : w.grownBy w2 row :=
  ⟨hb.os.trans h.os, hb.tape.trans h.tape, hb.output.trans h.output, Nat.le_trans h.size hb.size, fun k hk hn => (hb.block k (Nat.lt_of_lt_of_le hk h.size)).trans (h.block k hk hn)⟩
theorem GB_set {w w1 : World} {g j : Nat} {u : Value} (h : w.grownBy w1 (some g)) : w.grownBy (w1.setCell ⟨g, j, none⟩ u) (some g) :=
  ⟨h.os, h.tape, h.output, by simpa [World.setCell] using h.size, fun k hk hn => (Below.heap_setCell w1 ⟨g, j, none⟩ u k (fun e => hn (by rw [show k = g from e]))).trans (h.block k hk hn)⟩
theorem F_of_R {w : World} {base g : Nat} {ok : Nat → Prop} {A : Option Addr} {c : Nat} {l : List Int} {vs : Array Value} (h : Kd.R (Kd.int .i64) 3 w base ok (.slice A l.length c) l) (hb : w.heap[g]? = some (.cells vs 24 (0, 0))) : l.length ≤ c ∧ Kd.F (Kd.int .i64) w (fun k => k ≠ g) A l.length l :=
  ⟨(Kd.R_reads' h).2.1, Kd.F_mono (Kd.R_F (Kd.R_types h hb (by decide))) (fun _ hk => hk.2)⟩
theorem drawn_below {w w1 : World} (h : Drawn0 w w1) : Below w.heap.size w w1 := by
  obtain ⟨nd, rfl⟩ := h
  exact pw_below_drewN (Below.refl _ _) nd
def spec_l14Solve.T28 : Bool × List (List Nat × List Nat) := (true, [([], []), ([], []), ([], []), ([1, 2], [1, 2]), ([3], [3]), ([], []), ([4, 5], [4, 5]), ([6], [6]), ([], []), ([], []), ([], []), ([9, 10], [9, 10]), ([11], [11]), ([8, 12], [8, 12]), ([7, 13], [7, 13]), ([14], [14]), ([0, 15, 13], [0, 15]), ([16, 16, 0, 1, 2, 3, 4, 5, 6, 7, 8, 9, 10, 11, 12, 13, 14, 15, 16], [0, 16])])
def spec_l14Solve.B28 : List Nat := [0, 0, 0, 6, 14, 0, 62, 126, 0, 0, 0, 1536, 3584, 7936, 16382, 32766, 65535, 131071]
theorem spec_l14Solve.tab28 : rtab .any (opsOf Try.f55 28) = spec_l14Solve.T28 := by kernel_rfl
theorem spec_l14Solve.bits28 : waitsOk spec_l14Solve.T28.2 spec_l14Solve.B28 = true := by kernel_rfl
abbrev spec_l14Solve.mk_0 : Array Bool := #[false, false, false, false, false, false, false, false, false, false, false, false, false, false, false, false, false, false]
abbrev spec_l14Solve.mk_1 : Array Bool := #[true, false, false, false, false, false, false, false, false, false, false, false, false, false, false, false, false, false]
abbrev spec_l14Solve.mk_2 : Array Bool := #[true, true, false, false, false, false, false, false, false, false, false, false, false, false, false, false, false, false]
abbrev spec_l14Solve.mk_3 : Array Bool := #[true, true, true, false, false, false, false, false, false, false, false, false, false, false, false, false, false, false]
abbrev spec_l14Solve.mk_4 : Array Bool := #[true, true, true, true, false, false, false, false, false, false, false, false, false, false, false, false, false, false]
abbrev spec_l14Solve.mk_5 : Array Bool := #[true, true, true, true, true, false, false, false, false, false, false, false, false, false, false, false, false, false]
abbrev spec_l14Solve.mk_6 : Array Bool := #[true, true, true, true, true, true, false, false, false, false, false, false, false, false, false, false, false, false]
abbrev spec_l14Solve.mk_7 : Array Bool := #[true, true, true, true, true, true, true, false, false, false, false, false, false, false, false, false, false, false]
abbrev spec_l14Solve.mk_8 : Array Bool := #[true, true, true, true, true, true, true, true, false, false, false, false, false, false, false, false, false, false]
abbrev spec_l14Solve.mk_9 : Array Bool := #[true, true, true, true, true, true, true, true, true, false, false, false, false, false, false, false, false, false]
abbrev spec_l14Solve.mk_10 : Array Bool := #[true, true, true, true, true, true, true, true, true, true, false, false, false, false, false, false, false, false]
abbrev spec_l14Solve.mk_11 : Array Bool := #[true, true, true, true, true, true, true, true, true, true, true, false, false, false, false, false, false, false]
abbrev spec_l14Solve.mk_12 : Array Bool := #[true, true, true, true, true, true, true, true, true, true, true, true, false, false, false, false, false, false]
abbrev spec_l14Solve.mk_13 : Array Bool := #[true, true, true, true, true, true, true, true, true, true, true, true, true, false, false, false, false, false]
abbrev spec_l14Solve.mk_14 : Array Bool := #[true, true, true, true, true, true, true, true, true, true, true, true, true, true, false, false, false, false]
abbrev spec_l14Solve.mk_15 : Array Bool := #[true, true, true, true, true, true, true, true, true, true, true, true, true, true, true, false, false, false]
abbrev spec_l14Solve.mk_16 : Array Bool := #[true, true, true, true, true, true, true, true, true, true, true, true, true, true, true, true, false, false]
abbrev spec_l14Solve.mk_17 : Array Bool := #[true, true, true, true, true, true, true, true, true, true, true, true, true, true, true, true, true, false]
abbrev spec_l14Solve.mk_18 : Array Bool := #[true, true, true, true, true, true, true, true, true, true, true, true, true, true, true, true, true, true]
set_option maxHeartbeats 8000000 in
set_option maxRecDepth 100000 in
theorem spec_l14Solve.calls0 (k : Nat) (A0 : Option Addr) (c0 : Nat) (l0 : List (List Int)) (r1 : List Int) (r2 : Bool) (w : World) (hM : MX w A0 l0) (h : spec_l14Solve.f k l0 = some (r1, r2)) :
  Calls Try.prog 55 #[.slice A0 l0.length c0] w fun e w' => ∃ v0_ : Value, e = .returned (.tuple #[v0_, .bool r2]) ∧ Kd.R (Kd.int .i64) 3 w' w.heap.size (fun _ => True) v0_ r1 ∧ w.grownBy w' (A0.map (·.block)) := by
 have HM0 := Aside0.mk hM
 have HG0 : Aside0 (w.grownBy w (A0.map (·.block))) := ⟨grown_of_below (Below.refl _ _) _⟩
 clear hM
 have H : ((spec_l14Solve.p0 k l0 (l0.length : Int) 0).bind fun rm => (if rm.2 = true then ((spec_l14Solve.p5 k rm.1 (l0.length : Int) ([] : List Int) 0).bind fun o => (some (o, true))) else (some (([] : List Int), false)))) = some (r1, r2) := h
 clear h
 obtain ⟨rm, A00, H⟩ := Option.bind_eq_some_iff.mp H
 have A0_ := Aside0.mk A00
 clear A00
 have HQ := Aside0.mk H
 clear H
 go_enter Try.func55, Try.ntmps55
 go_wp2
 go_loopg [5] k (fun kq v5 w' => ∃ (M_1 : List (List Int)) (x5_1 : Int), v5 = .int .i64 x5_1 ∧ Aside0 (spec_l14Solve.p0 kq M_1 (l0.length : Int) x5_1 = some rm) ∧ Aside0 (kq ≤ k) ∧ Aside0 (M_1.length = l0.length) ∧ Aside0 (MX w' A0 M_1) ∧ Aside0 (w.grownBy w' (A0.map (·.block))))
 case atStart => exact ⟨l0, (0), zO, A0_, ⟨Nat.le_refl _⟩, ⟨rfl⟩, HM0, HG0⟩
 case round =>
 clear HM0 HG0 A0_
 obtain ⟨M_1, x5_1, rfl, HA, HK1, HL, HM, HG⟩ := hrel
 cases gk with
 | zero => exact absurd HA.out (by simp [spec_l14Solve.p0])
 | succ k1 =>
 have H := HA.out
 clear HA
 simp only [spec_l14Solve.p0] at H
 by_cases c7 : x5_1 < (l0.length : Int)
 rotate_left
 ·rw [if_neg c7] at H
  have c7b0 := decide_eq_false c7
  clear c7
  obtain rfl := Option.some.inj H
  clear H
  have H := HQ.out
  rw [if_pos rfl] at H
  obtain ⟨tq, A60, H⟩ := Option.bind_eq_some_iff.mp H
  have A6 := Aside0.mk A60
  clear A60
  simp only [Option.some.injEq, Prod.mk.injEq] at H
  obtain ⟨rfl, rfl⟩ := H
  go_wp2_with (first | ((with_reducible refine gate_dst (N := 121) rfl ?_); refine Kd.R_lit (Kd.int .i64) _ 3 ?hg (N := 121) ?hd (xs := ([] : List Int)) (inner := []) (ok := fun _ => True) (okp := fun _ => True) ?hr ?hp (fun _ hk => hk) trivial (Below.refl _ _) (Nat.le_refl _) (by simp) ?_; (case hd => rfl); (case hg => rfl); (case hr => first | (go_simp; done) | (go_simp; rfl)); (case hp => exact (Reps.none _ _)); intro vL wL ho hb hg_ hnew_; clear hg_ hnew_; have n_ : ∃ wA : World, MX wA A0 M_1 ∧ w.grownBy wA (A0.map (·.block)) ∧ Kd.R (Kd.int .i64) 3 wL wA.heap.size (fun _ => True) vL ([] : List Int) ∧ Below wA.heap.size wA wL := ⟨_, HM.out, HG.out, ho, hb⟩; clear HM HG ho hb; obtain ⟨wA, m1_, m2_, m5_, m6_⟩ := n_; have HM := Aside0.mk m1_; have HG := Aside0.mk m2_; have HO := Aside0.mk m5_; have HB := Aside0.mk m6_; clear m1_ m2_ m5_ m6_))
  go_loopg [15, 16] k (fun kq v15 v16 w' => ∃ (o_2 : List Int) (x16_2 : Int), v16 = .int .i64 x16_2 ∧ Aside0 (spec_l14Solve.p5 kq M_1 (l0.length : Int) o_2 x16_2 = some tq) ∧ Aside0 (kq ≤ k) ∧ Aside0 (Kd.R (Kd.int .i64) 3 w' wA.heap.size (fun _ => True) v15 o_2) ∧ Aside0 (Below wA.heap.size wA w'))
  case atStart => exact ⟨([] : List Int), (0), zO, A6, ⟨Nat.le_refl _⟩, ⟨(zR HO.out)⟩, ⟨zB⟩⟩
  case round =>
  clear HO HB A6
  obtain ⟨o_2, x16_2, rfl, HA, HK2, HO, HB⟩ := hrel
  cases gk with
  | zero => exact absurd HA.out (by simp [spec_l14Solve.p5])
  | succ k2 =>
  have H := HA.out
  clear HA
  simp only [spec_l14Solve.p5] at H
  by_cases c59 : x16_2 < (l0.length : Int)
  rotate_left
  ·rw [if_neg c59] at H
   have c59b0 := decide_eq_false c59
   clear c59
   obtain rfl := Option.some.inj H
   clear H
   go_wp2
   go_ret2
   exact ⟨_, zE, Kd.R_lower (zR HO.out) HG.out.size, GB_below HG.out zB⟩
  rw [if_pos c59] at H
  have c59b0 := decide_eq_true c59
  clear c59
  replace H := zg H
  obtain ⟨c60, H⟩ := H
  obtain ⟨p1, q1, p2, q2⟩ := c60
  replace H := zg H
  obtain ⟨c63, H⟩ := H
  have LMc := Aside0.mk c63
  clear c63
  have H' := Aside0.mk H
  clear H
  obtain ⟨g, vs, Ar, cr, rfl, hbk, hx1, hlr, Fr⟩ := MX_at HM.out p1 q1
  obtain ⟨adr, er, hx2⟩ := Kd.at_int (Kd.F_now Fr) (l0.length : Int) p2 q2
  cases er
  clear hbk hlr Fr
  replace hx1 := pw_cell_below HB.out hx1
  replace hx2 := pw_cell_below HB.out hx2
  (try simp only [Go.IntWalk.toNatUp] at hx2)
  have q1' : x16_2 < (l0.length : Int) := by rw [← HL.out]; exact q1
  have q2n : (l0.length < (rd_L3 M_1 x16_2).length) = True := eq_true (by omega)
  replace p1 := eq_true p1
  replace q1 := eq_true q1
  replace p2 := eq_true p2
  replace q2 := eq_true q2
  replace q1' := eq_true q1'
  go_wp2_with (first | ((with_reducible refine gate_builtin (b := .append) (xs := #[.tmp 127, .tmp 135]) rfl ?_); at_builtin; refine Kd.R_append (Kd.int .i64) (w0 := wA) wA.heap.size rfl (.tmp 127) (.tmp 135) 24 3 (.int .i64 0) 8 rfl Try.underlying24 info3 rfl (by decide) (by omega) _ o_2 (rd (rd_L3 M_1 x16_2) (l0.length : Int)) [.int .i64 (rd (rd_L3 M_1 x16_2) (l0.length : Int))] (fun _ => True) (fun _ => False) rfl rfl ?aP (fun _ hk => hk.elim) ?aF ?aO ?aB ?aS ?aL ?_; (case aP => exact rfl); (case aB => exact zB); (case aF => exact (fun _ _ => trivial)); (case aO => exact (zR HO.out)); (case aS => exact (below_size zB)); (case aL => have := LMc.out; omega); intro vN wN ho hb hg hat; have n0_ := Aside0.mk ho; have n1_ := Aside0.mk hb; clear HO HB ho hb hg hat; have HO := n0_; have HB := n1_; clear n0_ n1_; skip))
  go_roundg k2
  case measure => have := HK1.out; have := HK2.out; omega
  case rel => exact ⟨(o_2 ++ [rd (rd_L3 M_1 x16_2) (l0.length : Int)]), (wrap64 (x16_2 + 1)), zO, H', ⟨by have := HK1.out; have := HK2.out; omega⟩, ⟨(zR HO.out)⟩, ⟨zB⟩⟩
 rw [if_pos c7] at H
 have c7b0 := decide_eq_true c7
 clear c7
 obtain ⟨tp, A10, H⟩ := Option.bind_eq_some_iff.mp H
 have A1 := Aside0.mk A10
 clear A10
 have HC8 := Aside0.mk H
 clear H
 go_upto_block 2 with (fail)
 go_cut [6] (fun v6 wc => ∃ (x6_7 : Int), v6 = .int .i64 x6_7 ∧ Aside0 (x6_7 = tp) ∧ Aside0 (MX wc A0 M_1) ∧ Aside0 (w.grownBy wc (A0.map (·.block))))
 case first =>
  clear HC8
  go_wp2
  go_loopg [6] k1 (fun kq v6 w' => ∃ (x6_2 : Int), v6 = .int .i64 x6_2 ∧ Aside0 (spec_l14Solve.p1 kq M_1 (l0.length : Int) x5_1 x6_2 = some tp) ∧ Aside0 (kq ≤ k1) ∧ Aside0 (MX w' A0 M_1) ∧ Aside0 (w.grownBy w' (A0.map (·.block))))
  case atStart => exact ⟨x5_1, zO, A1, ⟨Nat.le_refl _⟩, HM, HG⟩
  case round =>
  clear HM HG A1
  obtain ⟨x6_2, rfl, HA, HK2, HM, HG⟩ := hrel
  cases gk with
  | zero => exact absurd HA.out (by simp [spec_l14Solve.p1])
  | succ k2 =>
  have H := HA.out
  clear HA
  simp only [spec_l14Solve.p1] at H
  by_cases c9 : x6_2 < (l0.length : Int)
  rotate_left
  ·rw [if_neg c9] at H
   have c9b0 := decide_eq_false c9
   clear c9
   (first | rw [c9b0] | (simp only [i64_w, i32_w]; rw [c9b0]) | skip)
   obtain rfl := Option.some.inj H
   clear H
   go_wp2
   go_meet
   case rel => exact ⟨x6_2, zO, ⟨rfl⟩, HM, HG⟩
  rw [if_pos c9] at H
  have c9b0 := decide_eq_true c9
  clear c9
  replace H := zg H
  obtain ⟨c10, H⟩ := H
  obtain ⟨p1, q1, p2, q2⟩ := c10
  obtain ⟨g, vs, Ar, cr, rfl, hbk, hx1, hlr, Fr⟩ := MX_at HM.out p1 q1
  obtain ⟨adr, er, hx2⟩ := Kd.at_int (Kd.F_now Fr) x5_1 p2 q2
  cases er
  have HL' := HL.out
  have q1' : x6_2 < (l0.length : Int) := by rw [← HL.out]; exact q1
  clear HL'
  replace p1 := eq_true p1
  replace q1 := eq_true q1
  replace q1' := eq_true q1'
  replace p2 := eq_true p2
  replace q2 := eq_true q2
  by_cases c14 : rd (rd_L3 M_1 x6_2) x5_1 = 0
  rotate_left
  ·rw [if_neg c14] at H
   have c14b0 : ((rd (rd_L3 M_1 x6_2) x5_1) == 0) = false := beq_eq_false_iff_ne.mpr c14
   clear c14
   obtain rfl := Option.some.inj H
   clear H
   go_wp2
   go_meet
   case rel => exact ⟨x6_2, zO, ⟨rfl⟩, HM, HG⟩
  rw [if_pos c14] at H
  have c14b0 : ((rd (rd_L3 M_1 x6_2) x5_1) == 0) = true := beq_iff_eq.mpr c14
  clear c14
  have H' := Aside0.mk H
  clear H
  go_wp2
  go_roundg k2
  case measure => have := HK1.out; have := HK2.out; omega
  case rel => exact ⟨(wrap64 (x6_2 + 1)), zO, H', ⟨by have := HK1.out; have := HK2.out; omega⟩, HM, HG⟩
 case rest =>
 clear HM HG A1
 obtain ⟨x6_7, rfl, hp7, HM, HG⟩ := hcut
 obtain rfl : x6_7 = tp := hp7.out
 clear hp7
 have H := HC8.out
 clear HC8
 by_cases c15 : x6_7 = (l0.length : Int)
 ·rw [if_pos c15] at H
  have c15b0 : (x6_7 == (l0.length : Int)) = true := beq_iff_eq.mpr c15
  clear c15
  obtain rfl := Option.some.inj H
  clear H
  have H := HQ.out
  rw [if_neg (show ¬ (false = true) by decide)] at H
  simp only [Option.some.injEq, Prod.mk.injEq] at H
  obtain ⟨rfl, rfl⟩ := H
  go_wp2_with (first | ((with_reducible refine gate_dst (N := 43) rfl ?_); refine Kd.R_lit (Kd.int .i64) _ 3 ?hg (N := 43) ?hd (xs := ([] : List Int)) (inner := []) (ok := fun _ => True) (okp := fun _ => True) ?hr ?hp (fun _ hk => hk) trivial (Below.refl _ _) (Nat.le_refl _) (by simp) ?_; (case hd => rfl); (case hg => rfl); (case hr => first | (go_simp; done) | (go_simp; rfl)); (case hp => exact (Reps.none _ _)); intro vL wL ho hb hg_ hnew_; clear hg_ hnew_; have HO : Aside0 (Kd.R (Kd.int .i64) 3 wL w.heap.size (fun _ => True) vL ([] : List Int)) := ⟨Kd.R_lower ho HG.out.size⟩; have n1_ := Aside0.mk (GB_below HG.out hb); clear HG HM ho hb; have HG := n1_; clear n1_))
  go_ret2
  exact ⟨_, zE, (zR HO.out), HG.out⟩
 rw [if_neg c15] at H
 have c15b0 : (x6_7 == (l0.length : Int)) = false := beq_eq_false_iff_ne.mpr c15
 clear c15
 replace H := zg H
 obtain ⟨c16, H⟩ := H
 obtain ⟨p1, q1, p2, q2, q3⟩ := c16
 obtain ⟨ti, A20, H⟩ := Option.bind_eq_some_iff.mp H
 obtain ⟨ty, A30, H⟩ := Option.bind_eq_some_iff.mp H
 obtain ⟨M2, A40, H⟩ := Option.bind_eq_some_iff.mp H
 have A2 := Aside0.mk A20
 have A3 := Aside0.mk A30
 have A4 := Aside0.mk A40
 have HN := Aside0.mk H
 clear A20 A30 A40 H
 obtain ⟨g, vs, Ax, cx, rfl, hbk, hx1, hlx, Fx⟩ := MX_at HM.out p1 q1
 obtain ⟨g', vs', Ac, cc, eg, hbk', hx2, hlc, Fc⟩ := MX_at HM.out p2 q2
 obtain rfl : g = g' := by injection eg with eg; injection eg
 clear eg hbk'
 have hf1 := blk_frozen hbk x6_7.toNat
 have HFx := Aside0.mk Fx
 have HFc := Aside0.mk Fc
 have HBK := Aside0.mk hbk
 have P0_ := Aside0.mk (And.intro p1 (And.intro q1 (And.intro p2 (And.intro q2 q3))))
 have HLC := Aside0.mk hlc
 clear Fx Fc hbk hlc hlx
 have q1' : x6_7 < (l0.length : Int) := by rw [← HL.out]; exact q1
 have q2' : x5_1 < (l0.length : Int) := by rw [← HL.out]; exact q2
 replace p1 := eq_true p1
 replace q1 := eq_true q1
 replace p2 := eq_true p2
 replace q2 := eq_true q2
 replace q1' := eq_true q1'
 replace q2' := eq_true q2'
 go_wp2_with (first | ((with_reducible refine gate_store (t := 24) (p := 54) rfl ?_); refine store_event (t := 24) (p := 54) (v := ?vo_) (w1 := (wc.setCell ⟨g, x6_7.toNat, none⟩ (.slice Ac (rd_L3 M_1 x5_1).length cc))) ?hg ?ho ?hn ?hr ?_; (case ho => rfl); (case hg => rfl); (case hn => rfl); (case hr => first | (go_simp; done) | (go_simp; rfl)); intro wS hw; have m1_ : MX wS (some ⟨g, 0, none⟩) (M_1.set x6_7.toNat (rd_L3 M_1 x5_1)) := (by rw [hw]; exact MX_set HM.out P0_.out.1 P0_.out.2.1 HLC.out HFc.out); have m2_ : w.grownBy wS (some g) := (by rw [hw]; exact GB_set HG.out); have m3_ : Kd.F (Kd.int .i64) wS (fun k => k ≠ g) Ax (rd_L3 M_1 x6_7).length (rd_L3 M_1 x6_7) := (by rw [hw]; exact Kd.F_far HFx.out (fun _ hk => hk) _); have m4_ : ∃ vs : Array Value, wS.heap[g]? = some (.cells vs 24 (0, 0)) := (by rw [hw]; exact ⟨_, blk_set HBK.out _ _⟩); obtain ⟨adx, ex, hx3⟩ := Kd.at_int (Kd.F_now m3_) x5_1 P0_.out.2.2.1 P0_.out.2.2.2.2; cases ex; have q3_ := eq_true P0_.out.2.2.2.2; clear HM HG HFx HFc HBK HLC hx1 hx2 hf1 hw; have HM := Aside0.mk m1_; have HG := Aside0.mk m2_; have HFx := Aside0.mk m3_; have HBK := Aside0.mk m4_; clear m1_ m2_ m3_ m4_) | ((with_reducible refine gate_callee (f := 59) rfl ?_); refine goesL_ (some 59) rfl rfl Try.func59 (by kernel_rfl) rfl #[.int .i64 (rd (rd_L3 M_1 x6_7) x5_1)] rfl zL ?_; (with_reducible refine (spec_GfInv.calls k1 (rd (rd_L3 M_1 x6_7) x5_1) ti _ A2.out).mono ?_); rintro e wq ⟨rfl, hd⟩; refine ⟨_, rfl, ?_⟩; have hb := drawn_below hd; clear hd; have n0_ := Aside0.mk (MX_below HM.out hb); have n1_ := Aside0.mk (GB_below HG.out hb); clear HM HG; have HM := n0_; have HG := n1_; clear n0_ n1_; have n2_ := Aside0.mk (Kd.F_below HFx.out hb); have n3_ : Aside0 (∃ vs : Array Value, wq.heap[g]? = some (.cells vs 24 (0, 0))) := ⟨by obtain ⟨vq, hq⟩ := HBK.out; exact ⟨vq, blk_below hq hb⟩⟩; clear HFx HBK hx3; have HFx := n2_; have HBK := n3_; clear n2_ n3_ hb) | ((with_reducible refine gate_dst (N := 60) rfl ?_); refine Kd.R_lit (Kd.int .i64) _ 3 ?hg (N := 60) ?hd (xs := ([] : List Int)) (inner := []) (ok := fun _ => True) (okp := fun _ => True) ?hr ?hp (fun _ hk => hk) trivial (Below.refl _ _) (Nat.le_refl _) (by simp) ?_; (case hd => rfl); (case hg => rfl); (case hr => first | (go_simp; done) | (go_simp; rfl)); (case hp => exact (Reps.none _ _)); intro vL wL ho hb hg_ hnew_; clear hg_ hnew_; have n_ : ∃ wA : World, MX wA (some ⟨g, 0, none⟩) (M_1.set x6_7.toNat (rd_L3 M_1 x5_1)) ∧ w.grownBy wA (some g) ∧ Kd.F (Kd.int .i64) wA (fun k => k ≠ g) (some adx) (rd_L3 M_1 x6_7).length (rd_L3 M_1 x6_7) ∧ (∃ vs : Array Value, wA.heap[g]? = some (.cells vs 24 (0, 0))) ∧ Kd.R (Kd.int .i64) 3 wL wA.heap.size (fun _ => True) vL ([] : List Int) ∧ Below wA.heap.size wA wL := ⟨_, HM.out, HG.out, HFx.out, HBK.out, ho, hb⟩; clear HM HG HFx HBK ho hb; obtain ⟨wA, m1_, m2_, m3_, ⟨vsA, m4_⟩, m5_, m6_⟩ := n_; have HM := Aside0.mk m1_; have HG := Aside0.mk m2_; have HFx := Aside0.mk m3_; have HBK := Aside0.mk m4_; have HO := Aside0.mk m5_; have HB := Aside0.mk m6_; clear m1_ m2_ m3_ m4_ m5_ m6_))
 go_loopg [9, 10] k1 (fun kq v9 v10 w' => ∃ (y_3 : List Int) (x10_3 : Int), v10 = .int .i64 x10_3 ∧ Aside0 (spec_l14Solve.p2 kq (rd_L3 M_1 x6_7) (l0.length : Int) ti y_3 x10_3 = some ty) ∧ Aside0 (kq ≤ k1) ∧ Aside0 (Kd.R (Kd.int .i64) 3 w' wA.heap.size (fun _ => True) v9 y_3) ∧ Aside0 (Below wA.heap.size wA w'))
 case atStart => exact ⟨([] : List Int), (0), zO, A3, ⟨Nat.le_refl _⟩, ⟨(zR HO.out)⟩, ⟨zB⟩⟩
 case round =>
 clear HO HB A3
 obtain ⟨y_3, x10_3, rfl, HA, HK3, HO, HB⟩ := hrel
 cases gk with
 | zero => exact absurd HA.out (by simp [spec_l14Solve.p2])
 | succ k3 =>
 have H := HA.out
 clear HA
 simp only [spec_l14Solve.p2] at H
 by_cases c29 : x10_3 ≤ (l0.length : Int)
 ·rw [if_pos c29] at H
  have c29b0 := decide_eq_true c29
  clear c29
  replace H := zg H
  obtain ⟨c30, H⟩ := H
  obtain ⟨p4, q4⟩ := c30
  obtain ⟨tm, A80, H⟩ := Option.bind_eq_some_iff.mp H
  have A8 := Aside0.mk A80
  clear A80
  replace H := zg H
  obtain ⟨c33, H⟩ := H
  have LMc := Aside0.mk c33
  clear c33
  have H' := Aside0.mk H
  clear H
  obtain ⟨ad4, e4, hx4⟩ := Kd.at_int (Kd.F_now HFx.out) x10_3 p4 q4
  obtain rfl : adx = ad4 := (by injection e4)
  replace hx4 := pw_cell_below HB.out hx4
  replace p4 := eq_true p4
  replace q4 := eq_true q4
  go_wp2_with (first | ((with_reducible refine gate_callee (f := 46) rfl ?_); refine goesL_ (some 72) rfl rfl Try.func46 (by kernel_rfl) rfl #[.int .i64 (rd (rd_L3 M_1 x6_7) x10_3), .int .i64 ti] rfl zL ?_; (with_reducible refine (spec_GfMul.calls k3 (rd (rd_L3 M_1 x6_7) x10_3) ti tm _ A8.out).mono ?_); rintro e wq ⟨rfl, hd⟩; refine ⟨_, rfl, ?_⟩; have hb := drawn_below hd; clear hd; have n0_ := Aside0.mk (Kd.R_below HO.out hb); have n1_ := Aside0.mk (below_step HB.out hb); clear HO HB hb; have HO := n0_; have HB := n1_; clear n0_ n1_) | ((with_reducible refine gate_builtin (b := .append) (xs := #[.tmp 66, .tmp 73]) rfl ?_); at_builtin; refine Kd.R_append (Kd.int .i64) (w0 := wA) wA.heap.size rfl (.tmp 66) (.tmp 73) 24 3 (.int .i64 0) 8 rfl Try.underlying24 info3 rfl (by decide) (by omega) _ y_3 tm [.int .i64 tm] (fun _ => True) (fun _ => False) rfl rfl ?aP (fun _ hk => hk.elim) ?aF ?aO ?aB ?aS ?aL ?_; (case aP => exact rfl); (case aB => exact zB); (case aF => exact (fun _ _ => trivial)); (case aO => exact (zR HO.out)); (case aS => exact (below_size zB)); (case aL => have := LMc.out; omega); intro vN wN ho hb hg hat; have n0_ := Aside0.mk ho; have n1_ := Aside0.mk hb; clear HO HB ho hb hg hat; have HO := n0_; have HB := n1_; clear n0_ n1_; skip))
  go_roundg k3
  case measure => have := HK1.out; have := HK3.out; omega
  case rel => exact ⟨(y_3 ++ [tm]), (wrap64 (x10_3 + 1)), zO, H', ⟨by have := HK1.out; have := HK3.out; omega⟩, ⟨(zR HO.out)⟩, ⟨zB⟩⟩
 rw [if_neg c29] at H
 have c29b0 := decide_eq_false c29
 clear c29
 obtain rfl := Option.some.inj H
 clear H
 obtain ⟨Ay, cy, ey⟩ := Kd.R_slice HO.out
 subst ey
 have hbk2 := blk_below HBK.out HB.out
 obtain ⟨hly, Fy⟩ := F_of_R HO.out hbk2
 have HM1 := Aside0.mk (MX_below HM.out HB.out)
 have HG1 := Aside0.mk (GB_below HG.out HB.out)
 have hcy := (blk_cell hbk2 x5_1.toNat)
 have hfy := blk_frozen hbk2 x5_1.toNat
 obtain ⟨pz, qz, p5, q5, q6⟩ := P0_.out
 obtain ⟨g', vs', Ac', cc', eg, hbk', hx5, hlc', Fc'⟩ := MX_at HM1.out p5 (by rw [List.length_set]; exact q5)
 obtain rfl : g = g' := by injection eg with eg; injection eg
 clear eg hbk' hlc' Fc' hcy
 have HFy := Aside0.mk Fy
 have HLY := Aside0.mk hly
 have P5 := Aside0.mk (And.intro p5 q5)
 clear Fy hly pz qz q6 hbk2
 clear HM HG
 have HM := HM1
 have HG := HG1
 clear HM1 HG1
 have q5' : x5_1 < (l0.length : Int) := by rw [← HL.out]; exact q5
 replace p5 := eq_true p5
 replace q5 := eq_true q5
 replace q5' := eq_true q5'
 go_wp2_with (first | ((with_reducible refine gate_store (t := 24) (p := 78) rfl ?_); refine store_event (t := 24) (p := 78) (v := ?vo_) (w1 := (wr.setCell ⟨g, x5_1.toNat, none⟩ (.slice Ay y_3.length cy))) ?hg ?ho ?hn ?hr ?_; (case ho => rfl); (case hg => rfl); (case hn => rfl); (case hr => first | (go_simp; done) | (go_simp; rfl)); intro wS hw; have m1_ : MX wS (some ⟨g, 0, none⟩) ((M_1.set x6_7.toNat (rd_L3 M_1 x5_1)).set x5_1.toNat y_3) := (by rw [hw]; exact MX_set HM.out P5.out.1 (by rw [List.length_set]; exact P5.out.2) HLY.out HFy.out); have m2_ : w.grownBy wS (some g) := (by rw [hw]; exact GB_set HG.out); have m3_ : Kd.F (Kd.int .i64) wS (fun k => k ≠ g) Ay y_3.length y_3 := (by rw [hw]; exact Kd.F_far HFy.out (fun _ hk => hk) _); clear HM HG HFy hx5 hfy hw; have HM := Aside0.mk m1_; have HG := Aside0.mk m2_; have HFy := Aside0.mk m3_; clear m1_ m2_ m3_))
 go_loopg [11] k1 (fun kq v11 w' => ∃ (M_4 : List (List Int)) (x11_4 : Int), v11 = .int .i64 x11_4 ∧ Aside0 (spec_l14Solve.p3 kq M_4 (l0.length : Int) x5_1 y_3 x11_4 = some M2) ∧ Aside0 (kq ≤ k1) ∧ Aside0 (M_4.length = l0.length) ∧ Aside0 (MX w' (some ⟨g, 0, none⟩) M_4) ∧ Aside0 (w.grownBy w' (some g)) ∧ Aside0 (Kd.F (Kd.int .i64) w' (fun k => k ≠ g) Ay y_3.length y_3))
 case atStart => exact ⟨((M_1.set x6_7.toNat (rd_L3 M_1 x5_1)).set x5_1.toNat y_3), (0), zO, A4, ⟨Nat.le_refl _⟩, ⟨by rw [List.length_set, List.length_set]; exact HL.out⟩, ⟨by first | exact HM.out | exact MX_set HM.out P5.out.1 (by rw [List.length_set]; exact P5.out.2) HLY.out HFy.out⟩, ⟨by first | exact HG.out | exact GB_set HG.out⟩, ⟨by first | exact HFy.out | exact Kd.F_far HFy.out (fun _ hk => hk) _⟩⟩
 case round =>
 clear HM HG HFy A4 HO HB
 obtain ⟨M_4, x11_4, rfl, HA, HK4, HL4, HM, HG, HFy⟩ := hrel
 cases gk with
 | zero => exact absurd HA.out (by simp [spec_l14Solve.p3])
 | succ k4 =>
 have H := HA.out
 clear HA
 simp only [spec_l14Solve.p3] at H
 by_cases c39 : x11_4 < (l0.length : Int)
 rotate_left
 ·rw [if_neg c39] at H
  have c39b0 := decide_eq_false c39
  clear c39
  obtain rfl := Option.some.inj H
  clear H
  have H := HN.out
  have H' := Aside0.mk H
  clear H
  go_wp2
  go_roundg k1
  case measure => have := HK1.out; omega
  case rel => exact ⟨M_4, (wrap64 (x5_1 + 1)), zO, H', ⟨by have := HK1.out; omega⟩, HL4, HM, HG⟩
 rw [if_pos c39] at H
 have c39b0 := decide_eq_true c39
 clear c39
 by_cases c40 : x11_4 = x5_1
 ·rw [if_pos c40] at H
  have c40b0 : (x11_4 == x5_1) = true := beq_iff_eq.mpr c40
  clear c40
  have H' := Aside0.mk H
  clear H
  go_wp2
  go_roundg k4
  case measure => have := HK1.out; have := HK4.out; omega
  case rel => exact ⟨M_4, (wrap64 (x11_4 + 1)), zO, H', ⟨by have := HK1.out; have := HK4.out; omega⟩, HL4, HM, HG, HFy⟩
 rw [if_neg c40] at H
 have c40b0 : (x11_4 == x5_1) = false := beq_eq_false_iff_ne.mpr c40
 clear c40
 replace H := zg H
 obtain ⟨c41, H⟩ := H
 obtain ⟨p1, q1, p2, q2⟩ := c41
 obtain ⟨tz, A50, H⟩ := Option.bind_eq_some_iff.mp H
 have A5 := Aside0.mk A50
 have HN4 := Aside0.mk H
 clear A50 H
 obtain ⟨g', vs4, Ar, cr, eg, hbk4, hx1, hlr, Fr⟩ := MX_at HM.out p1 q1
 obtain rfl : g = g' := by injection eg with eg; injection eg
 obtain ⟨adr, er, hx2⟩ := Kd.at_int (Kd.F_now Fr) x5_1 p2 q2
 cases er
 have HFr := Aside0.mk Fr
 have HBK4 := Aside0.mk hbk4
 have P4 := Aside0.mk (And.intro p1 q1)
 clear eg Fr hbk4 hlr
 have q1' : x11_4 < (l0.length : Int) := by rw [← HL4.out]; exact q1
 replace p1 := eq_true p1
 replace q1 := eq_true q1
 replace p2 := eq_true p2
 replace q2 := eq_true q2
 replace q1' := eq_true q1'
 go_wp2_with (first | ((with_reducible refine gate_dst (N := 94) rfl ?_); refine Kd.R_lit (Kd.int .i64) _ 3 ?hg (N := 94) ?hd (xs := ([] : List Int)) (inner := []) (ok := fun _ => True) (okp := fun _ => True) ?hr ?hp (fun _ hk => hk) trivial (Below.refl _ _) (Nat.le_refl _) (by simp) ?_; (case hd => rfl); (case hg => rfl); (case hr => first | (go_simp; done) | (go_simp; rfl)); (case hp => exact (Reps.none _ _)); intro vL wL ho hb hg_ hnew_; clear hg_ hnew_; have n_ : ∃ wB : World, MX wB (some ⟨g, 0, none⟩) M_4 ∧ w.grownBy wB (some g) ∧ Kd.F (Kd.int .i64) wB (fun k => k ≠ g) (some adr) (rd_L3 M_4 x11_4).length (rd_L3 M_4 x11_4) ∧ Kd.F (Kd.int .i64) wB (fun k => k ≠ g) Ay y_3.length y_3 ∧ wB.heap[g]? = some (.cells vs4 24 (0, 0)) ∧ wB.cell? ⟨g, x11_4.toNat, none⟩ = some (.slice (some adr) (rd_L3 M_4 x11_4).length cr) ∧ Kd.R (Kd.int .i64) 3 wL wB.heap.size (fun _ => True) vL ([] : List Int) ∧ Below wB.heap.size wB wL := ⟨_, HM.out, HG.out, HFr.out, HFy.out, HBK4.out, hx1, ho, hb⟩; clear HM HG HFr HFy HBK4 hx1 hx2 ho hb; obtain ⟨wB, m1_, m2_, m3_, m4_, m5_, m6_, m7_, m8_⟩ := n_; have HM := Aside0.mk m1_; have HG := Aside0.mk m2_; have HFr := Aside0.mk m3_; have HFy := Aside0.mk m4_; have HBK4 := Aside0.mk m5_; have HX1 := Aside0.mk m6_; have HO := Aside0.mk m7_; have HB := Aside0.mk m8_; clear m1_ m2_ m3_ m4_ m5_ m6_ m7_ m8_))
 go_loopg [13, 14] k4 (fun kq v13 v14 w' => ∃ (z_5 : List Int) (x14_5 : Int), v14 = .int .i64 x14_5 ∧ Aside0 (spec_l14Solve.p4 kq (rd_L3 M_4 x11_4) (l0.length : Int) (rd (rd_L3 M_4 x11_4) x5_1) y_3 z_5 x14_5 = some tz) ∧ Aside0 (kq ≤ k4) ∧ Aside0 (Kd.R (Kd.int .i64) 3 w' wB.heap.size (fun _ => True) v13 z_5) ∧ Aside0 (Below wB.heap.size wB w'))
 case atStart => exact ⟨([] : List Int), (0), zO, A5, ⟨Nat.le_refl _⟩, ⟨(zR HO.out)⟩, ⟨zB⟩⟩
 case round =>
 clear HO HB A5
 obtain ⟨z_5, x14_5, rfl, HA, HK5, HO, HB⟩ := hrel
 cases gk with
 | zero => exact absurd HA.out (by simp [spec_l14Solve.p4])
 | succ k5 =>
 have H := HA.out
 clear HA
 simp only [spec_l14Solve.p4] at H
 by_cases c50 : x14_5 ≤ (l0.length : Int)
 rotate_left
 ·rw [if_neg c50] at H
  have c50b0 := decide_eq_false c50
  clear c50
  obtain rfl := Option.some.inj H
  clear H
  obtain ⟨Az, cz, ez⟩ := Kd.R_slice HO.out
  subst ez
  have hbk5 := blk_below HBK4.out HB.out
  obtain ⟨hlz, Fz⟩ := F_of_R HO.out hbk5
  have HM1 := Aside0.mk (MX_below HM.out HB.out)
  have HG1 := Aside0.mk (GB_below HG.out HB.out)
  have HF1 := Aside0.mk (Kd.F_below HFy.out HB.out)
  have hx9 := pw_cell_below HB.out HX1.out
  have hf9 := blk_frozen hbk5 x11_4.toNat
  obtain ⟨p9, q9⟩ := P4.out
  have q9' : x11_4 < (l0.length : Int) := by rw [← HL4.out]; exact q9
  have P9 := Aside0.mk (And.intro p9 q9)
  have HFz := Aside0.mk Fz
  have HLZ := Aside0.mk hlz
  clear Fz hlz hbk5
  clear HM HG HFy
  have HM := HM1
  have HG := HG1
  have HFy := HF1
  clear HM1 HG1 HF1
  have H := HN4.out
  have H' := Aside0.mk H
  clear H
  replace p9 := eq_true p9
  replace q9 := eq_true q9
  replace q9' := eq_true q9'
  go_wp2_with (first | ((with_reducible refine gate_store (t := 24) (p := 120) rfl ?_); refine store_event (t := 24) (p := 120) (v := ?vo_) (w1 := (wr.setCell ⟨g, x11_4.toNat, none⟩ (.slice Az z_5.length cz))) ?hg ?ho ?hn ?hr ?_; (case ho => rfl); (case hg => rfl); (case hn => rfl); (case hr => first | (go_simp; done) | (go_simp; rfl)); intro wS hw; have m1_ : MX wS (some ⟨g, 0, none⟩) (M_4.set x11_4.toNat z_5) := (by rw [hw]; exact MX_set HM.out P9.out.1 P9.out.2 HLZ.out HFz.out); have m2_ : w.grownBy wS (some g) := (by rw [hw]; exact GB_set HG.out); have m3_ : Kd.F (Kd.int .i64) wS (fun k => k ≠ g) Ay y_3.length y_3 := (by rw [hw]; exact Kd.F_far HFy.out (fun _ hk => hk) _); clear HM HG HFy hx9 hf9 hw; have HM := Aside0.mk m1_; have HG := Aside0.mk m2_; have HFy := Aside0.mk m3_; clear m1_ m2_ m3_))
  go_roundg k4
  case measure => have := HK1.out; have := HK4.out; omega
  case rel => exact ⟨(M_4.set x11_4.toNat z_5), (wrap64 (x11_4 + 1)), zO, H', ⟨by have := HK1.out; have := HK4.out; omega⟩, ⟨by rw [List.length_set]; exact HL4.out⟩, ⟨by first | exact HM.out | exact MX_set HM.out P9.out.1 P9.out.2 HLZ.out HFz.out⟩, ⟨by first | exact HG.out | exact GB_set HG.out⟩, ⟨by first | exact HFy.out | exact Kd.F_far HFy.out (fun _ hk => hk) _⟩⟩
 rw [if_pos c50] at H
 have c50b0 := decide_eq_true c50
 clear c50
 replace H := zg H
 obtain ⟨c51, H⟩ := H
 obtain ⟨p6, q6, q7⟩ := c51
 obtain ⟨tm, A90, H⟩ := Option.bind_eq_some_iff.mp H
 have A9 := Aside0.mk A90
 clear A90
 replace H := zg H
 obtain ⟨c53, H⟩ := H
 have LMc := Aside0.mk c53
 clear c53
 have H' := Aside0.mk H
 clear H
 obtain ⟨adr', e6, hr2⟩ := Kd.at_int (Kd.F_now HFr.out) x14_5 p6 q6
 obtain rfl : adr = adr' := (by injection e6)
 obtain ⟨ady, e7, hr3⟩ := Kd.at_int (Kd.F_now HFy.out) x14_5 p6 q7
 cases e7
 have hr1d : (World.drew wr).cell? ⟨g, x11_4.toNat, none⟩ = some (.slice (some adr) (rd_L3 M_4 x11_4).length cr) := pw_cell_below HB.out HX1.out
 have hr2d : (World.drew wr).cell? (adr.add x14_5.toNat) = some (.int .i64 (rd (rd_L3 M_4 x11_4) x14_5)) := pw_cell_below HB.out hr2
 have hr3d : (World.drew wr).cell? (ady.add x14_5.toNat) = some (.int .i64 (rd y_3 x14_5)) := pw_cell_below HB.out hr3
 clear hr2 hr3 e6
 have pA := P4.out
 obtain ⟨p8, q8⟩ := pA
 have q8' : x11_4 < (l0.length : Int) := by rw [← HL4.out]; exact q8
 replace p6 := eq_true p6
 replace q6 := eq_true q6
 replace q7 := eq_true q7
 replace p8 := eq_true p8
 replace q8 := eq_true q8
 replace q8' := eq_true q8'
 try go_wp2
 have n0_ := Aside0.mk (Kd.R_drew HO.out)
 have n1_ := Aside0.mk (below_drew1 HB.out)
 clear HO HB
 have HO := n0_
 have HB := n1_
 clear n0_ n1_
 refine start_ (n := 18) (S := fun w' => w'.cell? ⟨g, x11_4.toNat, none⟩ = some (.slice (some adr) (rd_L3 M_4 x11_4).length cr) ∧ w'.cell? (adr.add x14_5.toNat) = some (.int .i64 (rd (rd_L3 M_4 x11_4) x14_5)) ∧ w'.cell? (ady.add x14_5.toNat) = some (.int .i64 (rd y_3 x14_5))) (ds := [15, 16]) spec_l14Solve.mk_0 (by kernel_rfl) rfl rfl ⟨hr1d, hr2d, hr3d⟩ (fun hHeld => ?_); refine with_tabW spec_l14Solve.tab28 spec_l14Solve.bits28 (fun HT_ HW_ => ?_)
 generalize World.drew wr = w53 at HO HB hr1d hr2d hr3d hHeld ⊢
 refine zP 0 100 spec_l14Solve.mk_1 ?_
 refine zP 1 101 spec_l14Solve.mk_2 ?_
 refine zP 2 102 spec_l14Solve.mk_3 ?_
 refine zP 3 103 spec_l14Solve.mk_4 ?_
 refine take_ (i := 4) (N := some 104) (v := ?_) (a' := ?_) spec_l14Solve.mk_5 rfl rfl (take_ofW HT_.out HW_.out (by kernel_rfl)) (fun _ _ _ h => h) (Or.inl ⟨by rfl, ?_⟩) hHeld ?_ ?_
 rotate_left
 ·intro w' s0
  obtain ⟨s1_, s2_, s3_⟩ := s0
  go_simp
  with_reducible rfl
 rotate_left
 ·simp only [Act.put, List.setIfInBounds_toArray, List.set_cons_zero, List.set_cons_succ, i64_w, i32_w]
  rfl
 refine zP 5 105 spec_l14Solve.mk_6 ?_
 refine zP 6 106 spec_l14Solve.mk_7 ?_
 refine take_ (i := 7) (N := some 107) (v := ?_) (a' := ?_) spec_l14Solve.mk_8 rfl rfl (take_ofW HT_.out HW_.out (by kernel_rfl)) (fun _ _ _ h => h) (Or.inl ⟨by rfl, ?_⟩) hHeld ?_ ?_
 rotate_left
 ·intro w' s0
  obtain ⟨s1_, s2_, s3_⟩ := s0
  go_simp
  with_reducible rfl
 rotate_left
 ·simp only [Act.put, List.setIfInBounds_toArray, List.set_cons_zero, List.set_cons_succ, i64_w, i32_w]
  rfl
 refine zP 8 108 spec_l14Solve.mk_9 ?_
 refine zP 9 109 spec_l14Solve.mk_10 ?_
 refine zP 10 110 spec_l14Solve.mk_11 ?_
 refine zP 11 111 spec_l14Solve.mk_12 ?_
 refine take_ (i := 12) (N := some 112) (v := ?_) (a' := ?_) spec_l14Solve.mk_13 rfl rfl (take_ofW HT_.out HW_.out (by kernel_rfl)) (fun _ _ _ h => h) (Or.inl ⟨by rfl, ?_⟩) hHeld ?_ ?_
 rotate_left
 ·intro w' s0
  obtain ⟨s1_, s2_, s3_⟩ := s0
  go_simp
  with_reducible rfl
 rotate_left
 ·simp only [Act.put, List.setIfInBounds_toArray, List.set_cons_zero, List.set_cons_succ, i64_w, i32_w]
  rfl
 refine one_ (i := 13) (N := some 113) spec_l14Solve.mk_14 rfl rfl (one_of HT_.out (by kernel_rfl)) (by decide) (fun K hK => ?_)
 refine goes_ Try.func46 (by kernel_rfl) rfl #[.int .i64 (rd (rd_L3 M_4 x11_4) x5_1), .int .i64 (rd y_3 x14_5)] (by rfl) rfl rfl (by (try simp only [List.map_toArray, List.map_cons, List.map_nil]); first | done | rfl | (simp; done)) ?_
 with_reducible refine (spec_GfMul.calls k5 (rd (rd_L3 M_4 x11_4) x5_1) (rd y_3 x14_5) tm _ A9.out).mono ?_
 rintro e wq ⟨rfl, hd⟩
 refine ⟨_, rfl, ?_⟩
 have hb := drawn_below hd
 clear hd
 have n0_ := Aside0.mk (Kd.R_below HO.out hb)
 have n1_ := Aside0.mk (below_step HB.out hb)
 clear HO HB
 have HO := n0_
 have HB := n1_
 clear n0_ n1_
 have e1_ := pw_cell_below hb hHeld.1
 have e2_ := pw_cell_below hb hHeld.2.1
 have e3_ := pw_cell_below hb hHeld.2.2
 clear hHeld hb
 refine hK.out _ _ ⟨e1_, e2_, e3_⟩ (fun hHeld => ?_)
 clear e1_ e2_ e3_
 clear hK K
 refine norm_ (a' := ?_) ?_ ?_
 rotate_left
 ·show Act.put _ (some 113) _ = _
  simp only [Act.put, List.setIfInBounds_toArray, List.set_cons_zero, List.set_cons_succ, i64_w, i32_w]
  rfl
 refine zP 14 114 spec_l14Solve.mk_15 ?_
 refine last_ (i := 15) (N := some 115) spec_l14Solve.mk_16 rfl rfl (one_of HT_.out (by kernel_rfl)) (by decide) (fun K hK => ?_)
 refine value_ (w1 := ?_) (v := ?_) (by rfl) rfl ?_ ?_
 rotate_left 2
 ·go_simp
  constructor
  ·rfl
  rfl
 refine hK.out _ _ ?_
 clear hK K
 refine norm_ (a' := ?_) ?_ ?_
 rotate_left
 ·show Act.put _ (some 115) _ = _
  simp only [Act.put, List.setIfInBounds_toArray, List.set_cons_zero, List.set_cons_succ, i64_w, i32_w]
  rfl
 refine last_ (i := 16) (N := some 116) spec_l14Solve.mk_17 rfl rfl (one_of HT_.out (by kernel_rfl)) (by decide) (fun K hK => ?_)
 refine Kd.R_append_step (Kd.int .i64) (w0 := wB) wB.heap.size (by rfl) (.tmp 100) (.tmp 115) 24 3 (.int .i64 0) 8 rfl Try.underlying24 info3 rfl (by decide) (by omega) _ z_5 (Go.bits .xor .i64 (rd (rd_L3 M_4 x11_4) x14_5) tm) [.int .i64 (Go.bits .xor .i64 (rd (rd_L3 M_4 x11_4) x14_5) tm)] (fun _ => True) (fun _ => False) rfl rfl ?aP (fun _ hk => hk.elim) ?aF ?aO ?aB ?aS ?aL ?_
 (case aP => exact rfl)
 (case aB => exact HB.out)
 (case aF => exact (fun _ _ => trivial))
 (case aO => exact HO.out)
 (case aS => exact (below_size HB.out))
 (case aL => have := LMc.out; omega)
 intro vN wN ho hb hg hat
 have n0_ := Aside0.mk ho
 have n1_ := Aside0.mk hb
 clear HO HB ho hb hg hat
 have HO := n0_
 have HB := n1_
 clear n0_ n1_
 refine hK.out _ _ ?_
 clear hK K
 refine norm_ (a' := ?_) ?_ ?_
 rotate_left
 ·show Act.put _ (some 116) _ = _
  simp only [Act.put, List.setIfInBounds_toArray, List.set_cons_zero, List.set_cons_succ, i64_w, i32_w]
  rfl
 refine zP 17 13 spec_l14Solve.mk_18 ?_
 refine done_ (done_of HT_.out (by kernel_rfl)) ?_
 try go_wp2
 go_roundg k5
 case measure => have := HK1.out; have := HK4.out; have := HK5.out; omega
 case rel => exact ⟨(z_5 ++ [Go.bits .xor .i64 (rd (rd_L3 M_4 x11_4) x14_5) tm]), (wrap64 (x14_5 + 1)), zO, H', ⟨by have := HK1.out; have := HK5.out; omega⟩, ⟨(zR HO.out)⟩, ⟨zB⟩⟩
theorem spec_l14Solve.calls (k : Nat) (A0 : Option Addr) (c0 : Nat) (l0 : List (List Int)) (r1 : List Int) (r2 : Bool) (w : World) (hM : MX w A0 l0) (hc0 : l0.length ≤ c0) (h : spec_l14Solve.f k l0 = some (r1, r2)) :
  Calls Try.prog 55 #[.slice A0 l0.length c0] w fun e w' => ∃ v0_ : Value, e = .returned (.tuple #[v0_, .bool r2]) ∧ Kd.R (Kd.int .i64) 3 w' w.heap.size (fun _ => True) v0_ r1 ∧ w.grownBy w' (Value.slice A0 l0.length c0).ownBlock :=
 (spec_l14Solve.calls0 k A0 c0 l0 r1 r2 w hM h).mono (fun e w' hh => by
  obtain ⟨v, h1, h2, h3⟩ := hh
  refine ⟨v, h1, h2, ?_⟩
  cases A0 <;> exact h3)
theorem MX_of_S {w : World} {base n c : Nat} {ok : Nat → Prop} {A : Option Addr} {M : List (List Int)} (h : Kd.S (Kd.slice 3 (Kd.int .i64)) 24 w base ok (.slice A n c) M) : MX w A M := by
 cases hM0 : M with
 | nil => exact .inl rfl
 | cons r0 rs =>
  rw [← hM0]
  obtain ⟨g, cap, e, _, _, cells, hb⟩ := Kd.S_form h (by rw [hM0]; simp)
  injection e with e1 e2 e3
  subst e1 e2 e3
  have hN := Kd.S_N h
  refine .inr ⟨g, cells, rfl, hb, fun i hi => ?_⟩
  obtain ⟨ce, hcl, hM, hcc, hfr⟩ := Kd.N_elem hN [] (i : Int) (by omega) (by omega)
  obtain ⟨ua, uc, rfl, ul, ge⟩ := Kd.FK_slice_open hM
  have hx := hcc 0 _ rfl
  have er : M.getD (i : Int).toNat [] = M[i] := by
   rw [Int.toNat_natCast, List.getD_eq_getElem?_getD, List.getElem?_eq_getElem hi]; rfl
  rw [er] at hx ul ge
  refine ⟨ua, uc, ?_, ul, Kd.F_mono ge (fun k hk => ?_)⟩
  ·rw [← blk_cell hb i]
   have hx2 : w.cell? ⟨g, (i : Int).toNat * 1 + 0, none⟩ = some (.slice ua M[i].length uc) := hx
   rw [Int.toNat_natCast, Nat.mul_one, Nat.add_zero] at hx2
   exact hx2
  ·first | exact hk.2 | (intro e; exact hk.2 (by rw [e]; rfl)) | exact fun e => hk.2 (by rw [e]; rfl)


end Go.Proofs.Ytdcjfcfiflpblaa.PFnNearestWord
