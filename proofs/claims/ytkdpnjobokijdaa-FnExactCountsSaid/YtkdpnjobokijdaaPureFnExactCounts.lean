/- Counts tells what the reference tells, leaves its arguments alone and answers new memory, for all arguments; no condition. -/
import Derived.Test.YtkdpnjobokijdaaQFnExactCountsx4
import Derived.Test.YtkdpnjobokijdaaCom
import Derived.Test.YtkdpnjobokijdaaMark
set_option linter.unusedVariables false
set_option linter.unusedSimpArgs false
namespace Go.Proofs.Ytkdpnjobokijdaa.Pure
open Go.RowKit Go.Proofs.Ytkdpnjobokijdaa.PFnExactCounts Go.Proofs.YtkdpnjobokijdaaW.PrintWords Go.Proofs.YtkdpnjobokijdaaW.PrintLast Go.Proofs.Ytkdpnjobokijdaa.Com Go.Proofs.Ytkdpnjobokijdaa.Mark

theorem l1In_eq (a b c : Int) : spec_l1In.f a b c = some (decide (b ≤ a ∧ a ≤ c)) := by
  unfold spec_l1In.f
  by_cases h : b ≤ a
  · rw [if_pos h]; simp [h]
  · rw [if_neg h]; simp [h]

/-- All numbers are of at most a size. -/
def wideB (s : Int) (l : List Int) : Bool := l.all fun x => decide (-s ≤ x ∧ x ≤ s)
def signalB (l : List Int) : Bool := decide (l.length ≤ 512) && wideB 1000000000 l
theorem wideB_all {s : Int} {l : List Int} (h : wideB s l = true) : ∀ x ∈ l, -s ≤ x ∧ x ≤ s := by
  intro x hx
  have := List.all_eq_true.mp h x hx
  simpa using this
theorem signalB_len {l : List Int} (h : signalB l = true) : l.length ≤ 512 := by
  unfold signalB at h
  rw [Bool.and_eq_true] at h
  exact of_decide_eq_true h.1
theorem signalB_wide {l : List Int} (h : signalB l = true) : ∀ x ∈ l, -1000000000 ≤ x ∧ x ≤ 1000000000 := by
  unfold signalB at h
  rw [Bool.and_eq_true] at h
  exact wideB_all h.2

theorem within_l0 (l : List Int) (s : Int) (hs : 0 ≤ s ∧ s ≤ 4000000000000000000) (hl : l.length ≤ 1048576) : ∀ (d i : Nat), i + d = l.length → Ev (fun k => impl_within.l0 k s l (l.length : Int) (i : Int)) (wideB s (l.drop i)) := by
  intro d
  induction d with
  | zero =>
    intro i hd
    refine Ev.fin (fun k => ?_)
    rw [impl_within.l0, if_neg (by omega), List.drop_of_length_le (by omega)]
    rfl
  | succ d ih =>
    intro i hd
    have ew : wrap64 (-s) = -s := w64 (by omega) (by omega)
    rw [drop_rd (i := i) (by omega)]
    have ec : wideB s (rd l (i : Int) :: l.drop (i + 1)) = (decide (-s ≤ rd l (i : Int) ∧ rd l (i : Int) ≤ s) && wideB s (l.drop (i + 1))) := rfl
    rw [ec]
    by_cases h : -s ≤ rd l (i : Int) ∧ rd l (i : Int) ≤ s
    · rw [decide_eq_true h, Bool.true_and]
      refine Ev.step (fun k => ?_) (ih (i + 1) (by omega))
      rw [impl_within.l0, if_pos (by omega), if_pos (by omega), if_pos (by omega), ew, if_neg (by omega), if_neg (by omega), wsucc (by omega)]
    · rw [decide_eq_false h, Bool.false_and]
      refine Ev.fin (fun k => ?_)
      rw [impl_within.l0, if_pos (by omega), if_pos (by omega), if_pos (by omega), ew]
      by_cases h1 : rd l (i : Int) < -s
      · rw [if_pos h1]
      · rw [if_neg h1, if_pos (by omega)]
theorem within_ev (l : List Int) (s : Int) (hs : 0 ≤ s ∧ s ≤ 4000000000000000000) (hl : l.length ≤ 1048576) : Ev (fun k => impl_within.f k l s) (wideB s l) := within_l0 l s hs hl l.length 0 (by omega)
theorem iSignalOk_ev (l : List Int) (hl : l.length ≤ 1048576) : Ev (fun k => impl_SignalOk.f k l) (signalB l) := by
  unfold impl_SignalOk.f signalB
  by_cases h : (l.length : Int) ≤ 512
  · rw [decide_eq_true (by omega), Bool.true_and]
    exact Ev.pos h (Ev.bind (within_ev l _ (by omega) hl) (Ev.now _))
  · rw [decide_eq_false (by omega), Bool.false_and]
    exact Ev.neg h (Ev.now _)

theorem sSignal_l0 (l : List Int) (hl : l.length ≤ 1048576) : ∀ (d i : Nat), i + d = l.length → Ev (fun k => spec_SignalOk.l0 k l (i : Int)) (decide (l.length ≤ 512) && wideB 1000000000 (l.drop i)) := by
  intro d
  induction d with
  | zero =>
    intro i hd
    refine Ev.fin (fun k => ?_)
    rw [spec_SignalOk.l0, if_neg (by omega), List.drop_of_length_le (by omega)]
    have : wideB 1000000000 [] = true := rfl
    rw [this, Bool.and_true]
    congr 1; rw [Bool.eq_iff_iff]; simp; omega
  | succ d ih =>
    intro i hd
    rw [drop_rd (i := i) (by omega)]
    have ec : wideB 1000000000 (rd l (i : Int) :: l.drop (i + 1)) = (decide (-1000000000 ≤ rd l (i : Int) ∧ rd l (i : Int) ≤ 1000000000) && wideB 1000000000 (l.drop (i + 1))) := rfl
    rw [ec]
    have e5 : spec_l5Sample.f (rd l (i : Int)) = some (decide (-1000000000 ≤ rd l (i : Int) ∧ rd l (i : Int) ≤ 1000000000)) := by
      unfold spec_l5Sample.f; rw [l1In_eq, Option.bind_some]
    by_cases h : -1000000000 ≤ rd l (i : Int) ∧ rd l (i : Int) ≤ 1000000000
    · rw [decide_eq_true h] at e5 ⊢
      rw [Bool.true_and]
      refine Ev.step (fun k => ?_) (ih (i + 1) (by omega))
      rw [spec_SignalOk.l0, if_pos (by omega), if_pos (by omega), e5, Option.bind_some, if_pos rfl, wsucc (by omega)]
    · rw [decide_eq_false h] at e5 ⊢
      rw [Bool.false_and, Bool.and_false]
      refine Ev.fin (fun k => ?_)
      rw [spec_SignalOk.l0, if_pos (by omega), if_pos (by omega), e5, Option.bind_some, if_neg (by decide)]
theorem sSignalOk_ev (l : List Int) (hl : l.length ≤ 1048576) : Ev (fun k => spec_SignalOk.f k l) (signalB l) := sSignal_l0 l hl l.length 0 (by omega)

/-- In which drawer a number lies. -/
def drawer (m : List Int) (x : Int) : Nat → Nat → Nat
  | 0, j => j
  | d + 1, j => if x ≥ rd m (j : Int) then drawer m x d (j + 1) else j
theorem drawer_le (m : List Int) (x : Int) : ∀ d j, drawer m x d j ≤ j + d
  | 0, j => Nat.le_refl _
  | d + 1, j => by
    unfold drawer
    have := drawer_le m x d (j + 1)
    split <;> omega
def countL (m : List Int) : List Int → List Int → List Int
  | [], out => out
  | x :: t, out => countL m t (out.set (drawer m x m.length 0) (wrap64 (rd out ((drawer m x m.length 0 : Nat) : Int) + 1)))
theorem countL_len (m : List Int) : ∀ (l out : List Int), (countL m l out).length = out.length
  | [], _ => rfl
  | x :: t, out => by rw [countL, countL_len m t, List.length_set]
theorem sCounts_l2 (l m : List Int) (hl : l.length ≤ 512) (hm : m.length ≤ 100) (i : Nat) (hi : i < l.length) (out : List Int) (ho : out.length = m.length + 1) (R : List Int × Bool) : ∀ (d j : Nat), j + d = m.length →
    Ev (fun k => spec_Counts.l1 k l m (out.set (drawer m (rd l (i : Int)) d j) (wrap64 (rd out ((drawer m (rd l (i : Int)) d j : Nat) : Int) + 1))) ((i + 1 : Nat) : Int)) R → Ev (fun k => spec_Counts.l2 k l m out (i : Int) (j : Int)) R := by
  intro d
  induction d with
  | zero =>
    intro j hd h
    refine Ev.step (fun k => ?_) h
    rw [spec_Counts.l2, if_neg (by omega), if_pos (by omega), if_pos (by omega), wsucc (by omega), Int.toNat_natCast]
    rfl
  | succ d ih =>
    intro j hd h
    unfold drawer at h
    by_cases hc : rd l (i : Int) ≥ rd m (j : Int)
    · rw [if_pos hc] at h
      refine Ev.step (fun k => ?_) (ih (j + 1) (by omega) h)
      rw [spec_Counts.l2, if_pos (by omega), if_pos (by omega), if_pos (by omega), if_pos (by omega), if_pos hc, wsucc (by omega)]
    · rw [if_neg hc] at h
      refine Ev.step (fun k => ?_) h
      rw [spec_Counts.l2, if_pos (by omega), if_pos (by omega), if_pos (by omega), if_pos (by omega), if_neg hc, if_pos (by omega), wsucc (by omega), Int.toNat_natCast]
theorem iCounts_l2 (l m : List Int) (hl : l.length ≤ 512) (hm : m.length ≤ 100) (i : Nat) (hi : i < l.length) (out : List Int) (ho : out.length = m.length + 1) (R : List Int × Bool) : ∀ (d j : Nat), j + d = m.length →
    Ev (fun k => impl_Counts.l1 k m (out.set (drawer m (rd l (i : Int)) d j) (wrap64 (rd out ((drawer m (rd l (i : Int)) d j : Nat) : Int) + 1))) l (l.length : Int) ((i + 1 : Nat) : Int)) R → Ev (fun k => impl_Counts.l2 k m out (rd l (i : Int)) (j : Int) l (l.length : Int) (i : Int)) R := by
  intro d
  induction d with
  | zero =>
    intro j hd h
    refine Ev.step (fun k => ?_) h
    rw [impl_Counts.l2, if_neg (by omega), if_pos (by omega), if_pos (by omega), wsucc (by omega), Int.toNat_natCast]
    rfl
  | succ d ih =>
    intro j hd h
    unfold drawer at h
    by_cases hc : rd l (i : Int) ≥ rd m (j : Int)
    · rw [if_pos hc] at h
      refine Ev.step (fun k => ?_) (ih (j + 1) (by omega) h)
      rw [impl_Counts.l2, if_pos (by omega), if_pos (by omega), if_pos hc, wsucc (by omega)]
    · rw [if_neg hc] at h
      refine Ev.step (fun k => ?_) h
      rw [impl_Counts.l2, if_pos (by omega), if_pos (by omega), if_neg hc, if_pos (by omega), wsucc (by omega), Int.toNat_natCast]
theorem Counts_l1 (l m : List Int) (hl : l.length ≤ 512) (hm : m.length ≤ 100) : ∀ (d i : Nat) (out : List Int), i + d = l.length → out.length = m.length + 1 →
    Ev (fun k => spec_Counts.l1 k l m out (i : Int)) (countL m (l.drop i) out, true) ∧ Ev (fun k => impl_Counts.l1 k m out l (l.length : Int) (i : Int)) (countL m (l.drop i) out, true) := by
  intro d
  induction d with
  | zero =>
    intro i out hd ho
    rw [List.drop_of_length_le (by omega), countL]
    exact ⟨Ev.fin (fun k => by rw [spec_Counts.l1, if_neg (by omega)]), Ev.fin (fun k => by rw [impl_Counts.l1, if_neg (by omega)])⟩
  | succ d ih =>
    intro i out hd ho
    rw [drop_rd (i := i) (by omega), countL]
    have ih := ih (i + 1) (out.set (drawer m (rd l (i : Int)) m.length 0) (wrap64 (rd out ((drawer m (rd l (i : Int)) m.length 0 : Nat) : Int) + 1))) (by omega) (by simpa using ho)
    refine ⟨Ev.step (fun k => ?_) (sCounts_l2 l m hl hm i (by omega) out ho _ m.length 0 (by omega) ih.1), Ev.step (fun k => ?_) (iCounts_l2 l m hl hm i (by omega) out ho _ m.length 0 (by omega) ih.2)⟩
    · rw [spec_Counts.l1, if_pos (by omega)]; rfl
    · rw [impl_Counts.l1, if_pos (by omega), if_pos (by omega), if_pos (by omega)]; rfl
/-- Do the numbers from place j on rise? -/
def rises (m : List Int) : Nat → Nat → Bool
  | 0, _ => true
  | d + 1, j => if rd m (j : Int) ≤ rd m ((j - 1 : Nat) : Int) then false else rises m d (j + 1)
def countsM (l m : List Int) : List Int × Bool := if signalB l = true ∧ m.length ≤ 100 ∧ rises m (m.length - 1) 1 = true then (countL m l (List.replicate (m.length + 1) 0), true) else ([], false)
theorem sCounts_l0 (l m : List Int) (hl : l.length ≤ 512) (hm : m.length ≤ 100) : ∀ (d j : Nat), 1 ≤ j → m.length ≤ j + d → (0 < d → j + d ≤ m.length) →
    Ev (fun k => spec_Counts.l0 k l m (j : Int)) (if rises m d j = true then (countL m l (List.replicate (m.length + 1) 0), true) else ([], false)) := by
  have e1 : wrap64 ((m.length : Int) + 1) = ((m.length + 1 : Nat) : Int) := by rw [w64 (by omega) (by omega)]; omega
  intro d
  induction d with
  | zero =>
    intro j h1 h2 h3
    rw [if_pos (by rfl)]
    refine Ev.step (fun k => ?_) (Counts_l1 l m hl hm l.length 0 (List.replicate (m.length + 1) 0) (by omega) (by simp)).1
    rw [spec_Counts.l0, if_neg (by omega), e1, if_pos (by omega), if_pos (by omega), Int.toNat_natCast]
    rfl
  | succ d ih =>
    intro j h1 h2 h3
    have e2 : wrap64 ((j : Int) - 1) = ((j - 1 : Nat) : Int) := by rw [w64 (by omega) (by omega)]; omega
    by_cases hj : j < m.length
    · unfold rises
      by_cases hc : rd m (j : Int) ≤ rd m ((j - 1 : Nat) : Int)
      · rw [if_pos hc, if_neg (by decide)]
        refine Ev.fin (fun k => ?_)
        rw [spec_Counts.l0, if_pos (by omega), e2, if_pos (by omega), if_pos (by omega), if_pos (by omega), if_pos hc]
      · rw [if_neg hc]
        refine Ev.step (fun k => ?_) (ih (j + 1) (by omega) (by omega) (fun h => by have := h3 (by omega); omega))
        rw [spec_Counts.l0, if_pos (by omega), e2, if_pos (by omega), if_pos (by omega), if_pos (by omega), if_neg hc, wsucc (by omega)]
    · have := h3 (by omega); omega
theorem iCounts_l0 (l m : List Int) (hl : l.length ≤ 512) (hm : m.length ≤ 100) : ∀ (d j : Nat), 1 ≤ j → m.length ≤ j + d → (0 < d → j + d ≤ m.length) →
    Ev (fun k => impl_Counts.l0 k l m (j : Int)) (if rises m d j = true then (countL m l (List.replicate (m.length + 1) 0), true) else ([], false)) := by
  have e1 : wrap64 ((m.length : Int) + 1) = ((m.length + 1 : Nat) : Int) := by rw [w64 (by omega) (by omega)]; omega
  intro d
  induction d with
  | zero =>
    intro j h1 h2 h3
    rw [if_pos (by rfl)]
    refine Ev.step (fun k => ?_) (Counts_l1 l m hl hm l.length 0 (List.replicate (m.length + 1) 0) (by omega) (by simp)).2
    rw [impl_Counts.l0, if_neg (by omega), e1, if_pos (by omega), if_pos (by omega), Int.toNat_natCast]
    rfl
  | succ d ih =>
    intro j h1 h2 h3
    have e2 : wrap64 ((j : Int) - 1) = ((j - 1 : Nat) : Int) := by rw [w64 (by omega) (by omega)]; omega
    by_cases hj : j < m.length
    · unfold rises
      by_cases hc : rd m (j : Int) ≤ rd m ((j - 1 : Nat) : Int)
      · rw [if_pos hc, if_neg (by decide)]
        refine Ev.fin (fun k => ?_)
        rw [impl_Counts.l0, if_pos (by omega), if_pos (by omega), e2, if_pos (by omega), if_pos (by omega), if_pos hc]
      · rw [if_neg hc]
        refine Ev.step (fun k => ?_) (ih (j + 1) (by omega) (by omega) (fun h => by have := h3 (by omega); omega))
        rw [impl_Counts.l0, if_pos (by omega), if_pos (by omega), e2, if_pos (by omega), if_pos (by omega), if_neg hc, wsucc (by omega)]
    · have := h3 (by omega); omega
theorem sCounts_ev (l m : List Int) (hl : l.length ≤ 1048576) : Ev (fun k => spec_Counts.f k l m) (countsM l m) := by
  unfold spec_Counts.f countsM
  refine Ev.bind (sSignalOk_ev l hl) ?_
  by_cases h1 : signalB l = true
  · refine Ev.pos h1 ?_
    by_cases h2 : (m.length : Int) > 100
    · rw [if_neg (by omega), decide_eq_true h2]
      exact Ev.fin (fun k => by rw [spec_Counts.j0]; rfl)
    · rw [decide_eq_false h2]
      refine Ev.cast (Ev.step (fun k => ?_) (sCounts_l0 l m (signalB_len h1) (by omega) (m.length - 1) 1 (by omega) (by omega) (by omega))) ?_
      · rw [spec_Counts.j0]; rfl
      · by_cases h3 : rises m (m.length - 1) 1 = true
        · rw [if_pos h3, if_pos ⟨h1, by omega, h3⟩]
        · rw [if_neg h3, if_neg (fun h => h3 h.2.2)]
  · rw [if_neg (fun h => h1 h.1)]
    exact Ev.neg h1 (Ev.fin (fun k => by rw [spec_Counts.j0]; rfl))
theorem iCounts_ev (l m : List Int) (hl : l.length ≤ 1048576) : Ev (fun k => impl_Counts.f k l m) (countsM l m) := by
  unfold impl_Counts.f countsM
  refine Ev.bind (iSignalOk_ev l hl) ?_
  by_cases h1 : signalB l = true
  · refine Ev.pos h1 ?_
    by_cases h2 : (m.length : Int) > 100
    · rw [if_neg (by omega), decide_eq_true h2]
      exact Ev.fin (fun k => by rw [impl_Counts.j0]; rfl)
    · rw [decide_eq_false h2]
      refine Ev.cast (Ev.step (fun k => ?_) (iCounts_l0 l m (signalB_len h1) (by omega) (m.length - 1) 1 (by omega) (by omega) (by omega))) ?_
      · rw [impl_Counts.j0]; rfl
      · by_cases h3 : rises m (m.length - 1) 1 = true
        · rw [if_pos h3, if_pos ⟨h1, by omega, h3⟩]
        · rw [if_neg h3, if_neg (fun h => h3 h.2.2)]
  · rw [if_neg (fun h => h1 h.1)]
    exact Ev.neg h1 (Ev.fin (fun k => by rw [impl_Counts.j0]; rfl))
theorem Counts_both (l m : List Int) (hl : l.length ≤ 1048576) (hm : m.length ≤ 1048576) : ∃ r ok, Ev (fun k => spec_Counts.f k l m) (r, ok) ∧ Ev (fun k => impl_Counts.f k l m) (r, ok) ∧ r.length ≤ 17592186044416 := by
  refine ⟨(countsM l m).1, (countsM l m).2, sCounts_ev l m hl, iCounts_ev l m hl, ?_⟩
  unfold countsM
  split
  · simp only [countL_len, List.length_replicate]; omega
  · simp

theorem toIntS_l0 (l : List Int) (hl : l.length ≤ 17592186044416) : ∀ (d i : Nat) (x : List Int), i + d = l.length → x.length = l.length → x.take i = l.take i →
    Ev (fun k => laws_toIntS.l0 k l x (i : Int)) l := by
  intro d
  induction d with
  | zero =>
    intro i x hd hx ht
    refine Ev.fin (fun k => ?_)
    rw [laws_toIntS.l0, if_neg (by omega)]
    rw [List.take_of_length_le (by omega), List.take_of_length_le (by omega)] at ht
    rw [ht]
  | succ d ih =>
    intro i x hd hx ht
    refine Ev.step (fun k => ?_) (ih (i + 1) (x.set i (rd l (i : Int))) (by omega) (by simpa using hx) ?_)
    · rw [laws_toIntS.l0, if_pos (by omega), if_pos (by omega), if_pos (by omega), wsucc (by omega), Int.toNat_natCast]
    · rw [take_rd (by simp; omega), take_rd (by omega), List.take_set_of_le (by omega), ht, rd_lt (by simp; omega), List.getElem_set_self]
theorem toIntS_ev (l : List Int) (hl : l.length ≤ 17592186044416) : Ev (fun k => laws_toIntS.f k l) l := by
  unfold laws_toIntS.f
  refine Ev.pos (by omega) (Ev.pos (by omega) ?_)
  exact toIntS_l0 l hl l.length 0 _ (by omega) (by simp) (by simp)

theorem eqIntS_l0 (l : List Int) (hl : l.length ≤ 17592186044416) : ∀ (d i : Nat), i + d = l.length → Ev (fun k => laws_eqIntS.l0 k l l (i : Int)) true := by
  intro d
  induction d with
  | zero =>
    intro i hd
    refine Ev.fin (fun k => ?_)
    rw [laws_eqIntS.l0, if_neg (by omega)]
  | succ d ih =>
    intro i hd
    refine Ev.step (fun k => ?_) (ih (i + 1) (by omega))
    rw [laws_eqIntS.l0, if_pos (by omega), if_pos (by omega), if_pos (by omega), if_pos rfl, wsucc (by omega)]
theorem eqIntS_ev (l : List Int) (hl : l.length ≤ 17592186044416) : Ev (fun k => laws_eqIntS.f k l l) true := by
  unfold laws_eqIntS.f
  exact Ev.pos rfl (eqIntS_l0 l hl l.length 0 (by omega))

theorem markIntS_l0 (n : Nat) (s : Int) (hs : 0 ≤ s ∧ s ≤ 100000000000000) (hn : n ≤ 17592186044416) : ∀ (d i : Nat) (x : List Int), i + d = n → x.length = n → x.take i = mkL s i →
    Ev (fun k => laws_markIntS.l0 k x (s + (i : Int)) (i : Int)) (s + (n : Int), mkL s n) := by
  intro d
  induction d with
  | zero =>
    intro i x hd hx ht
    refine Ev.fin (fun k => ?_)
    rw [laws_markIntS.l0, if_neg (by omega)]
    obtain rfl : i = n := by omega
    rw [List.take_of_length_le (by omega)] at ht
    rw [ht]
  | succ d ih =>
    intro i x hd hx ht
    refine Ev.step (fun k => ?_) (ih (i + 1) (x.set i (s + (i : Int))) (by omega) (by simpa using hx) ?_)
    · have e : wrap64 (s + (i : Int) + 1) = s + ((i + 1 : Nat) : Int) := by rw [w64 (by omega) (by omega)]; omega
      rw [laws_markIntS.l0, if_pos (by omega), if_pos (by omega), wsucc (by omega), e, Int.toNat_natCast]
    · rw [take_rd (by simp; omega), List.take_set_of_le (by omega), ht, rd_lt (by simp; omega), List.getElem_set_self]
      rfl
theorem markIntS_ev (x : List Int) (s : Int) (hs : 0 ≤ s ∧ s ≤ 100000000000000) (hl : x.length ≤ 17592186044416) : Ev (fun k => laws_markIntS.f k x s) (s + (x.length : Int), mkL s x.length) := by
  unfold laws_markIntS.f
  exact Ev.cast (Ev.congr (fun k => by rw [Int.natCast_zero, Int.add_zero]) (markIntS_l0 x.length s hs hl x.length 0 x (by omega) rfl (by simp [mkL]))) rfl

theorem heldIntS_l0 (n : Nat) (s : Int) (hs : 0 ≤ s ∧ s ≤ 100000000000000) (hn : n ≤ 17592186044416) : ∀ (d i : Nat), i + d = n → Ev (fun k => laws_heldIntS.l0 k (mkL s n) (s + (i : Int)) (i : Int)) (s + (n : Int)) := by
  intro d
  induction d with
  | zero =>
    intro i hd
    refine Ev.fin (fun k => ?_)
    rw [laws_heldIntS.l0, mkL_length, if_neg (by omega)]
    congr 1; omega
  | succ d ih =>
    intro i hd
    refine Ev.step (fun k => ?_) (ih (i + 1) (by omega))
    have e : wrap64 (s + (i : Int) + 1) = s + ((i + 1 : Nat) : Int) := by rw [w64 (by omega) (by omega)]; omega
    rw [laws_heldIntS.l0, mkL_length, if_pos (by omega), if_pos (by omega), if_pos (rd_mkL s (by omega)), wsucc (by omega), e]
theorem heldIntS_ev (n : Nat) (s : Int) (hs : 0 ≤ s ∧ s ≤ 100000000000000) (hl : n ≤ 17592186044416) : Ev (fun k => laws_heldIntS.f k (mkL s n) s) (s + (n : Int)) := by
  unfold laws_heldIntS.f
  exact Ev.congr (fun k => by rw [Int.natCast_zero, Int.add_zero]) (heldIntS_l0 n s hs hl n 0 (by omega))

theorem FnExactCounts : laws_FnExactCounts.Pure := by
  intro l m _ bl wl _ bm wm
  refine Ev.rounds ?_
  unfold laws_FnExactCounts.f
  by_cases gl : (l.length : Int) > 1048576
  · exact Ev.pos gl (Ev.now true)
  refine Ev.neg gl ?_
  have hl : l.length ≤ 1048576 := by omega
  have hl4 : l.length ≤ 17592186044416 := by omega
  by_cases gm : (m.length : Int) > 1048576
  · exact Ev.pos gm (Ev.now true)
  refine Ev.neg gm ?_
  have hm : m.length ≤ 1048576 := by omega
  have hm4 : m.length ≤ 17592186044416 := by omega
  obtain ⟨r, ok, hS, hI, hr⟩ := Counts_both l m hl hm
  have ml : 0 ≤ (1 : Int) ∧ (1 : Int) ≤ 100000000000000 := by omega
  have mm : 0 ≤ (1 + (l.length : Int) : Int) ∧ (1 + (l.length : Int) : Int) ≤ 100000000000000 := by omega
  have m1 : 0 ≤ (1 : Int) ∧ (1 : Int) ≤ 100000000000000 := by omega
  repeat (first
    | exact Ev.now true
    | with_reducible refine Ev.bind (toIntS_ev l hl4) ?_
    | with_reducible refine Ev.bind (toIntS_ev m hm4) ?_
    | with_reducible refine Ev.bind hS ?_
    | with_reducible refine Ev.bind hI ?_
    | with_reducible refine Ev.bind (eqIntS_ev l hl4) ?_
    | with_reducible refine Ev.bind (eqIntS_ev m hm4) ?_
    | with_reducible refine Ev.bind (eqIntS_ev r hr) ?_
    | with_reducible refine Ev.bind (markIntS_ev l (1) ml hl4) ?_
    | with_reducible refine Ev.bind (markIntS_ev m (1 + (l.length : Int)) mm hm4) ?_
    | with_reducible refine Ev.bind (markIntS_ev r 1 m1 hr) ?_
    | with_reducible refine Ev.bind (heldIntS_ev r.length 1 m1 hr) ?_
    | refine Ev.pos rfl ?_
    | (refine Ev.neg ?_ ?_; (· first | (simp; done) | omega))
    | refine Ev.step (fun k => by rw [laws_FnExactCounts.j0]) ?_
    | refine Ev.step (fun k => by rw [laws_FnExactCounts.j1]) ?_
    | refine Ev.step (fun k => by rw [laws_FnExactCounts.j2]) ?_)

end Go.Proofs.Ytkdpnjobokijdaa.Pure
