/- Best tells what the reference tells and leaves its arguments alone, for all arguments; no condition. -/
import Derived.Test.YtonmdhaollhekaaPFnExactBestx3
import Derived.Test.YtonmdhaollhekaaCom
set_option linter.unusedVariables false
set_option linter.unusedSimpArgs false
namespace Go.Proofs.Ytonmdhaollhekaa.Pure
open Go.RowKit Go.Proofs.Ytonmdhaollhekaa.PFnExactBest Go.Proofs.YtonmdhaollhekaaW.PrintWords Go.Proofs.YtonmdhaollhekaaW.PrintLast Go.Proofs.Ytonmdhaollhekaa.Com

theorem l1In_eq (a b c : Int) : spec_l1In.f a b c = some (decide (b ≤ a ∧ a ≤ c)) := by
  unfold spec_l1In.f
  by_cases h : b ≤ a
  · rw [if_pos h]; simp [h]
  · rw [if_neg h]; simp [h]

/-- All numbers are of at most a size. -/
def wideB (s : Int) (l : List Int) : Bool := l.all fun x => decide (-s ≤ x ∧ x ≤ s)
def signalB (l : List Int) : Bool := decide (l.length ≤ 512) && wideB 1000000000 l
theorem wideB_all {s : Int} {l : List Int} (h : wideB s l = true) : ∀ x ∈ l, -s ≤ x ∧ x ≤ s := by
  intro x hx
  have := List.all_eq_true.mp h x hx
  simpa using this
theorem signalB_len {l : List Int} (h : signalB l = true) : l.length ≤ 512 := by
  unfold signalB at h
  rw [Bool.and_eq_true] at h
  exact of_decide_eq_true h.1
theorem signalB_wide {l : List Int} (h : signalB l = true) : ∀ x ∈ l, -1000000000 ≤ x ∧ x ≤ 1000000000 := by
  unfold signalB at h
  rw [Bool.and_eq_true] at h
  exact wideB_all h.2

theorem within_l0 (l : List Int) (s : Int) (hs : 0 ≤ s ∧ s ≤ 4000000000000000000) (hl : l.length ≤ 1048576) : ∀ (d i : Nat), i + d = l.length → Ev (fun k => impl_within.l0 k s l (l.length : Int) (i : Int)) (wideB s (l.drop i)) := by
  intro d
  induction d with
  | zero =>
    intro i hd
    refine Ev.fin (fun k => ?_)
    rw [impl_within.l0, if_neg (by omega), List.drop_of_length_le (by omega)]
    rfl
  | succ d ih =>
    intro i hd
    have ew : wrap64 (-s) = -s := w64 (by omega) (by omega)
    rw [drop_rd (i := i) (by omega)]
    have ec : wideB s (rd l (i : Int) :: l.drop (i + 1)) = (decide (-s ≤ rd l (i : Int) ∧ rd l (i : Int) ≤ s) && wideB s (l.drop (i + 1))) := rfl
    rw [ec]
    by_cases h : -s ≤ rd l (i : Int) ∧ rd l (i : Int) ≤ s
    · rw [decide_eq_true h, Bool.true_and]
      refine Ev.step (fun k => ?_) (ih (i + 1) (by omega))
      rw [impl_within.l0, if_pos (by omega), if_pos (by omega), if_pos (by omega), ew, if_neg (by omega), if_neg (by omega), wsucc (by omega)]
    · rw [decide_eq_false h, Bool.false_and]
      refine Ev.fin (fun k => ?_)
      rw [impl_within.l0, if_pos (by omega), if_pos (by omega), if_pos (by omega), ew]
      by_cases h1 : rd l (i : Int) < -s
      · rw [if_pos h1]
      · rw [if_neg h1, if_pos (by omega)]
theorem within_ev (l : List Int) (s : Int) (hs : 0 ≤ s ∧ s ≤ 4000000000000000000) (hl : l.length ≤ 1048576) : Ev (fun k => impl_within.f k l s) (wideB s l) := within_l0 l s hs hl l.length 0 (by omega)
theorem iSignalOk_ev (l : List Int) (hl : l.length ≤ 1048576) : Ev (fun k => impl_SignalOk.f k l) (signalB l) := by
  unfold impl_SignalOk.f signalB
  by_cases h : (l.length : Int) ≤ 512
  · rw [decide_eq_true (by omega), Bool.true_and]
    exact Ev.pos h (Ev.bind (within_ev l _ (by omega) hl) (Ev.now _))
  · rw [decide_eq_false (by omega), Bool.false_and]
    exact Ev.neg h (Ev.now _)

theorem sSignal_l0 (l : List Int) (hl : l.length ≤ 1048576) : ∀ (d i : Nat), i + d = l.length → Ev (fun k => spec_SignalOk.l0 k l (i : Int)) (decide (l.length ≤ 512) && wideB 1000000000 (l.drop i)) := by
  intro d
  induction d with
  | zero =>
    intro i hd
    refine Ev.fin (fun k => ?_)
    rw [spec_SignalOk.l0, if_neg (by omega), List.drop_of_length_le (by omega)]
    have : wideB 1000000000 [] = true := rfl
    rw [this, Bool.and_true]
    congr 1; rw [Bool.eq_iff_iff]; simp; omega
  | succ d ih =>
    intro i hd
    rw [drop_rd (i := i) (by omega)]
    have ec : wideB 1000000000 (rd l (i : Int) :: l.drop (i + 1)) = (decide (-1000000000 ≤ rd l (i : Int) ∧ rd l (i : Int) ≤ 1000000000) && wideB 1000000000 (l.drop (i + 1))) := rfl
    rw [ec]
    have e5 : spec_l5Sample.f (rd l (i : Int)) = some (decide (-1000000000 ≤ rd l (i : Int) ∧ rd l (i : Int) ≤ 1000000000)) := by
      unfold spec_l5Sample.f; rw [l1In_eq, Option.bind_some]
    by_cases h : -1000000000 ≤ rd l (i : Int) ∧ rd l (i : Int) ≤ 1000000000
    · rw [decide_eq_true h] at e5 ⊢
      rw [Bool.true_and]
      refine Ev.step (fun k => ?_) (ih (i + 1) (by omega))
      rw [spec_SignalOk.l0, if_pos (by omega), if_pos (by omega), e5, Option.bind_some, if_pos rfl, wsucc (by omega)]
    · rw [decide_eq_false h] at e5 ⊢
      rw [Bool.false_and, Bool.and_false]
      refine Ev.fin (fun k => ?_)
      rw [spec_SignalOk.l0, if_pos (by omega), if_pos (by omega), e5, Option.bind_some, if_neg (by decide)]
theorem sSignalOk_ev (l : List Int) (hl : l.length ≤ 1048576) : Ev (fun k => spec_SignalOk.f k l) (signalB l) := sSignal_l0 l hl l.length 0 (by omega)

theorem l9Wide_l0 (l : List Int) (s : Int) (hs : 0 ≤ s ∧ s ≤ 4000000000000000000) (hl : l.length ≤ 1048576) : ∀ (d i : Nat), i + d = l.length → Ev (fun k => spec_l9Wide.l0 k l s (i : Int)) (wideB s (l.drop i)) := by
  intro d
  induction d with
  | zero =>
    intro i hd
    refine Ev.fin (fun k => ?_)
    rw [spec_l9Wide.l0, if_neg (by omega), List.drop_of_length_le (by omega)]
    rfl
  | succ d ih =>
    intro i hd
    have ew : wrap64 (-s) = -s := w64 (by omega) (by omega)
    rw [drop_rd (i := i) (by omega)]
    have ec : wideB s (rd l (i : Int) :: l.drop (i + 1)) = (decide (-s ≤ rd l (i : Int) ∧ rd l (i : Int) ≤ s) && wideB s (l.drop (i + 1))) := rfl
    rw [ec]
    by_cases h : -s ≤ rd l (i : Int) ∧ rd l (i : Int) ≤ s
    · rw [decide_eq_true h, Bool.true_and]
      refine Ev.step (fun k => ?_) (ih (i + 1) (by omega))
      rw [spec_l9Wide.l0, if_pos (by omega), if_pos (by omega), ew, l1In_eq, Option.bind_some, decide_eq_true h, if_pos rfl, wsucc (by omega)]
    · rw [decide_eq_false h, Bool.false_and]
      refine Ev.fin (fun k => ?_)
      rw [spec_l9Wide.l0, if_pos (by omega), if_pos (by omega), ew, l1In_eq, Option.bind_some, decide_eq_false h, if_neg (by decide)]
theorem l9Wide_ev (l : List Int) (s : Int) (hs : 0 ≤ s ∧ s ≤ 4000000000000000000) (hl : l.length ≤ 1048576) : Ev (fun k => spec_l9Wide.f k l s) (wideB s l) := l9Wide_l0 l s hs hl l.length 0 (by omega)

/-- The sum of products from a state on. -/
def dotG (l p : List Int) (at_ : Nat) : Nat → Nat → Int → Int
  | 0, _, s => s
  | d + 1, j, s => dotG l p at_ d (j + 1) (wrap64 (s + wrap64 (rd p (j : Int) * rd l ((at_ + j : Nat) : Int))))
def matchL (l p : List Int) : Nat → Nat → List Int
  | 0, _ => []
  | d + 1, i => dotG l p i p.length 0 0 :: matchL l p d (i + 1)
theorem matchL_len (l p : List Int) : ∀ d i, (matchL l p d i).length = d
  | 0, _ => rfl
  | d + 1, i => by simp [matchL, matchL_len l p d]
theorem Match_l1 (l p : List Int) (hl : l.length ≤ 512) (hp : p.length ≤ 512) (i : Nat) (hi : i + p.length ≤ l.length) (acc : List Int) (ha : acc.length ≤ 1024) (R : List Int × Bool) : ∀ (d j : Nat) (s : Int), j + d = p.length →
    (Ev (fun k => spec_Match.l0 k l p (acc ++ [dotG l p i d j s]) ((i + 1 : Nat) : Int)) R → Ev (fun k => spec_Match.l1 k l p acc (i : Int) s (j : Int)) R) ∧
    (Ev (fun k => impl_Match.l0 k l p (acc ++ [dotG l p i d j s]) ((i + 1 : Nat) : Int)) R → Ev (fun k => impl_Match.l1 k l p acc (i : Int) s p (p.length : Int) (j : Int)) R) := by
  intro d
  induction d with
  | zero =>
    intro j s hd
    refine ⟨fun h => Ev.step (fun k => ?_) h, fun h => Ev.step (fun k => ?_) h⟩
    · rw [spec_Match.l1, if_neg (by omega), if_pos (by omega), wsucc (by omega)]; rfl
    · rw [impl_Match.l1, if_neg (by omega), if_pos (by omega), wsucc (by omega)]; rfl
  | succ d ih =>
    intro j s hd
    have ih := ih (j + 1) (wrap64 (s + wrap64 (rd p (j : Int) * rd l ((i + j : Nat) : Int)))) (by omega)
    have e : wrap64 ((i : Int) + (j : Int)) = ((i + j : Nat) : Int) := by rw [w64 (by omega) (by omega)]; omega
    refine ⟨fun h => Ev.step (fun k => ?_) (ih.1 h), fun h => Ev.step (fun k => ?_) (ih.2 h)⟩
    · rw [spec_Match.l1, if_pos (by omega), if_pos (by omega), e, if_pos (by omega), if_pos (by omega), wsucc (by omega)]
    · rw [impl_Match.l1, if_pos (by omega), if_pos (by omega), if_pos (by omega), e, if_pos (by omega), if_pos (by omega), wsucc (by omega)]
theorem Match_l0 (l p : List Int) (hl : l.length ≤ 512) (hp : p.length ≤ l.length) : ∀ (d i : Nat) (acc : List Int), i + d + p.length = l.length + 1 → acc.length = i →
    Ev (fun k => spec_Match.l0 k l p acc (i : Int)) (acc ++ matchL l p d i, true) ∧ Ev (fun k => impl_Match.l0 k l p acc (i : Int)) (acc ++ matchL l p d i, true) := by
  intro d
  induction d with
  | zero =>
    intro i acc hd ha
    have e : wrap64 ((i : Int) + (p.length : Int)) = ((i + p.length : Nat) : Int) := by rw [w64 (by omega) (by omega)]; omega
    rw [matchL, List.append_nil]
    exact ⟨Ev.fin (fun k => by rw [spec_Match.l0, e, if_neg (by omega)]), Ev.fin (fun k => by rw [impl_Match.l0, e, if_neg (by omega)])⟩
  | succ d ih =>
    intro i acc hd ha
    have e : wrap64 ((i : Int) + (p.length : Int)) = ((i + p.length : Nat) : Int) := by rw [w64 (by omega) (by omega)]; omega
    have h1 := Match_l1 l p hl (by omega) i (by omega) acc (by omega) (acc ++ matchL l p (d + 1) i, true) p.length 0 0 (by omega)
    have ih := ih (i + 1) (acc ++ [dotG l p i p.length 0 0]) (by omega) (by simp; omega)
    rw [List.append_assoc] at ih
    refine ⟨Ev.step (fun k => ?_) (h1.1 ih.1), Ev.step (fun k => ?_) (h1.2 ih.2)⟩
    · rw [spec_Match.l0, e, if_pos (by omega)]; rfl
    · rw [impl_Match.l0, e, if_pos (by omega)]; rfl
def matchM (l p : List Int) : List Int × Bool := if signalB l = true ∧ signalB p = true ∧ p.length ≠ 0 ∧ p.length ≤ l.length ∧ wideB 1000000 l = true ∧ wideB 1000000 p = true then (matchL l p (l.length + 1 - p.length) 0, true) else ([], false)
theorem sMatch_ev (l p : List Int) (hl : l.length ≤ 1048576) (hp : p.length ≤ 1048576) : Ev (fun k => spec_Match.f k l p) (matchM l p) := by
  unfold spec_Match.f matchM
  refine Ev.bind0 rfl (Ev.bind (sSignalOk_ev l hl) ?_)
  by_cases h1 : signalB l = true
  · refine Ev.pos h1 (Ev.bind (sSignalOk_ev p hp) ?_)
    by_cases h2 : signalB p = true
    · refine Ev.pos h2 ?_
      by_cases h3 : (p.length : Int) = 0
      · rw [if_neg (fun h => h.2.2.1 (by omega))]
        exact Ev.pos h3 (Ev.fin (fun k => by rw [spec_Match.j0]; rfl))
      refine Ev.neg h3 ?_
      by_cases h4 : (p.length : Int) > (l.length : Int)
      · rw [if_neg (fun h => absurd h.2.2.2.1 (by omega))]
        exact Ev.pos h4 (Ev.fin (fun k => by rw [spec_Match.j0]; rfl))
      refine Ev.neg h4 (Ev.bind (l9Wide_ev l _ (by omega) hl) ?_)
      by_cases h5 : wideB 1000000 l = true
      · refine Ev.pos h5 (Ev.bind (l9Wide_ev p _ (by omega) hp) ?_)
        by_cases h6 : wideB 1000000 p = true
        · rw [if_pos ⟨h1, h2, by omega, by omega, h5, h6⟩, h6]
          have hn := signalB_len h1
          refine Ev.step (fun k => ?_) (Match_l0 l p hn (by omega) (l.length + 1 - p.length) 0 [] (by omega) rfl).1
          rw [spec_Match.j0]; rfl
        · rw [if_neg (fun h => h6 h.2.2.2.2.2), Bool.eq_false_iff.mpr h6]
          exact Ev.fin (fun k => by rw [spec_Match.j0]; rfl)
      · rw [if_neg (fun h => h5 h.2.2.2.2.1)]
        exact Ev.neg h5 (Ev.fin (fun k => by rw [spec_Match.j0]; rfl))
    · rw [if_neg (fun h => h2 h.2.1)]
      exact Ev.neg h2 (Ev.fin (fun k => by rw [spec_Match.j0]; rfl))
  · rw [if_neg (fun h => h1 h.1)]
    exact Ev.neg h1 (Ev.fin (fun k => by rw [spec_Match.j0]; rfl))
theorem iMatch_ev (l p : List Int) (hl : l.length ≤ 1048576) (hp : p.length ≤ 1048576) : Ev (fun k => impl_Match.f k l p) (matchM l p) := by
  unfold impl_Match.f matchM
  refine Ev.bind (iSignalOk_ev l hl) ?_
  by_cases h1 : signalB l = true
  · refine Ev.pos h1 (Ev.bind (iSignalOk_ev p hp) ?_)
    by_cases h2 : signalB p = true
    · refine Ev.pos h2 ?_
      by_cases h3 : (p.length : Int) = 0
      · rw [if_neg (fun h => h.2.2.1 (by omega))]
        exact Ev.pos h3 (Ev.fin (fun k => by rw [impl_Match.j0]; rfl))
      refine Ev.neg h3 ?_
      by_cases h4 : (p.length : Int) > (l.length : Int)
      · rw [if_neg (fun h => absurd h.2.2.2.1 (by omega))]
        exact Ev.pos h4 (Ev.fin (fun k => by rw [impl_Match.j0]; rfl))
      refine Ev.neg h4 (Ev.bind (within_ev l _ (by omega) hl) ?_)
      by_cases h5 : wideB 1000000 l = true
      · refine Ev.pos h5 (Ev.bind (within_ev p _ (by omega) hp) ?_)
        by_cases h6 : wideB 1000000 p = true
        · rw [if_pos ⟨h1, h2, by omega, by omega, h5, h6⟩, h6]
          have hn := signalB_len h1
          refine Ev.step (fun k => ?_) (Match_l0 l p hn (by omega) (l.length + 1 - p.length) 0 [] (by omega) rfl).2
          rw [impl_Match.j0]; rfl
        · rw [if_neg (fun h => h6 h.2.2.2.2.2), Bool.eq_false_iff.mpr h6]
          exact Ev.fin (fun k => by rw [impl_Match.j0]; rfl)
      · rw [if_neg (fun h => h5 h.2.2.2.2.1)]
        exact Ev.neg h5 (Ev.fin (fun k => by rw [impl_Match.j0]; rfl))
    · rw [if_neg (fun h => h2 h.2.1)]
      exact Ev.neg h2 (Ev.fin (fun k => by rw [impl_Match.j0]; rfl))
  · rw [if_neg (fun h => h1 h.1)]
    exact Ev.neg h1 (Ev.fin (fun k => by rw [impl_Match.j0]; rfl))
theorem Match_both (l p : List Int) (hl : l.length ≤ 1048576) (hp : p.length ≤ 1048576) : ∃ r ok, Ev (fun k => spec_Match.f k l p) (r, ok) ∧ Ev (fun k => impl_Match.f k l p) (r, ok) ∧ r.length ≤ 17592186044416 := by
  refine ⟨(matchM l p).1, (matchM l p).2, sMatch_ev l p hl hp, iMatch_ev l p hl hp, ?_⟩
  unfold matchM
  split
  · simp only [matchL_len]; omega
  · simp

/-- The place of the greatest number (the first of some). -/
def bestAt (r : List Int) : Nat → Nat → Nat → Nat
  | 0, _, a => a
  | d + 1, i, a => bestAt r d (i + 1) (if rd r (i : Int) > rd r (a : Int) then i else a)
theorem bestAt_ok (r : List Int) : ∀ (d i a : Nat), i + d = r.length → a < r.length → (∀ j, j < i → rd r (j : Int) ≤ rd r (a : Int)) →
    bestAt r d i a < r.length ∧ ∀ j, j < r.length → rd r (j : Int) ≤ rd r ((bestAt r d i a : Nat) : Int) := by
  intro d
  induction d with
  | zero => intro i a hd ha h; exact ⟨ha, fun j hj => h j (by omega)⟩
  | succ d ih =>
    intro i a hd ha h
    unfold bestAt
    by_cases hc : rd r (i : Int) > rd r (a : Int)
    · rw [if_pos hc]
      refine ih (i + 1) i (by omega) (by omega) (fun j hj => ?_)
      rcases Nat.lt_or_ge j i with h1 | h1
      · have := h j h1; omega
      · obtain rfl : j = i := by omega
        omega
    · rw [if_neg hc]
      refine ih (i + 1) a (by omega) ha (fun j hj => ?_)
      rcases Nat.lt_or_ge j i with h1 | h1
      · exact h j h1
      · obtain rfl : j = i := by omega
        omega
theorem Best_loops (r : List Int) (hr : r.length ≤ 1048576) : ∀ (d i a : Nat), i + d = r.length → a < r.length →
    Ev (fun k => spec_Best.l0 k r (a : Int) (i : Int)) (((bestAt r d i a : Nat) : Int), rd r ((bestAt r d i a : Nat) : Int)) ∧ Ev (fun k => impl_Best.l0 k r (a : Int) r (r.length : Int) (i : Int)) (((bestAt r d i a : Nat) : Int), rd r ((bestAt r d i a : Nat) : Int)) := by
  intro d
  induction d with
  | zero =>
    intro i a hd ha
    exact ⟨Ev.fin (fun k => by rw [spec_Best.l0, if_neg (by omega), if_pos (by omega), if_pos (by omega)]; rfl), Ev.fin (fun k => by rw [impl_Best.l0, if_neg (by omega), if_pos (by omega), if_pos (by omega)]; rfl)⟩
  | succ d ih =>
    intro i a hd ha
    unfold bestAt
    by_cases hc : rd r (i : Int) > rd r (a : Int)
    · rw [if_pos hc]
      obtain ⟨h1, h2⟩ := ih (i + 1) i (by omega) (by omega)
      refine ⟨Ev.step (fun k => ?_) h1, Ev.step (fun k => ?_) h2⟩
      · rw [spec_Best.l0, if_pos (by omega), if_pos (by omega), if_pos (by omega), if_pos (by omega), if_pos hc, wsucc (by omega)]
      · rw [impl_Best.l0, if_pos (by omega), if_pos (by omega), if_pos (by omega), if_pos (by omega), if_pos (by omega), if_pos hc, wsucc (by omega)]
    · rw [if_neg hc]
      obtain ⟨h1, h2⟩ := ih (i + 1) a (by omega) ha
      refine ⟨Ev.step (fun k => ?_) h1, Ev.step (fun k => ?_) h2⟩
      · rw [spec_Best.l0, if_pos (by omega), if_pos (by omega), if_pos (by omega), if_pos (by omega), if_neg hc, wsucc (by omega)]
      · rw [impl_Best.l0, if_pos (by omega), if_pos (by omega), if_pos (by omega), if_pos (by omega), if_pos (by omega), if_neg hc, wsucc (by omega)]
def bestM (l p : List Int) : Int × Int := if (matchM l p).2 = true then (((bestAt (matchM l p).1 (matchM l p).1.length 0 0 : Nat) : Int), rd (matchM l p).1 ((bestAt (matchM l p).1 (matchM l p).1.length 0 0 : Nat) : Int)) else (-1, 0)
theorem matchM_pos {l p : List Int} (h : (matchM l p).2 = true) : (matchM l p).1.length ≠ 0 ∧ (matchM l p).1.length ≤ 513 := by
  unfold matchM at h ⊢
  split at h
  · next hc =>
    rw [if_pos hc]
    have := signalB_len hc.1
    simp only [matchL_len]
    omega
  · simp at h
theorem sBest_ev (l p : List Int) (hl : l.length ≤ 1048576) (hp : p.length ≤ 1048576) : Ev (fun k => spec_Best.f k l p) (bestM l p) := by
  unfold spec_Best.f bestM
  refine Ev.bind (sMatch_ev l p hl hp) ?_
  by_cases h : (matchM l p).2 = true
  · rw [if_pos h]
    have := matchM_pos h
    exact Ev.pos h (Best_loops (matchM l p).1 (by omega) (matchM l p).1.length 0 0 (by omega) (by omega)).1
  · rw [if_neg h]
    exact Ev.neg h (Ev.now _)
theorem iBest_ev (l p : List Int) (hl : l.length ≤ 1048576) (hp : p.length ≤ 1048576) : Ev (fun k => impl_Best.f k l p) (bestM l p) := by
  unfold impl_Best.f bestM
  refine Ev.bind (iMatch_ev l p hl hp) ?_
  by_cases h : (matchM l p).2 = true
  · rw [if_pos h]
    have := matchM_pos h
    exact Ev.pos h (Best_loops (matchM l p).1 (by omega) (matchM l p).1.length 0 0 (by omega) (by omega)).2
  · rw [if_neg h]
    exact Ev.neg h (Ev.now _)

theorem toIntS_l0 (l : List Int) (hl : l.length ≤ 17592186044416) : ∀ (d i : Nat) (x : List Int), i + d = l.length → x.length = l.length → x.take i = l.take i →
    Ev (fun k => laws_toIntS.l0 k l x (i : Int)) l := by
  intro d
  induction d with
  | zero =>
    intro i x hd hx ht
    refine Ev.fin (fun k => ?_)
    rw [laws_toIntS.l0, if_neg (by omega)]
    rw [List.take_of_length_le (by omega), List.take_of_length_le (by omega)] at ht
    rw [ht]
  | succ d ih =>
    intro i x hd hx ht
    refine Ev.step (fun k => ?_) (ih (i + 1) (x.set i (rd l (i : Int))) (by omega) (by simpa using hx) ?_)
    · rw [laws_toIntS.l0, if_pos (by omega), if_pos (by omega), if_pos (by omega), wsucc (by omega), Int.toNat_natCast]
    · rw [take_rd (by simp; omega), take_rd (by omega), List.take_set_of_le (by omega), ht, rd_lt (by simp; omega), List.getElem_set_self]
theorem toIntS_ev (l : List Int) (hl : l.length ≤ 17592186044416) : Ev (fun k => laws_toIntS.f k l) l := by
  unfold laws_toIntS.f
  refine Ev.pos (by omega) (Ev.pos (by omega) ?_)
  exact toIntS_l0 l hl l.length 0 _ (by omega) (by simp) (by simp)

theorem eqIntS_l0 (l : List Int) (hl : l.length ≤ 17592186044416) : ∀ (d i : Nat), i + d = l.length → Ev (fun k => laws_eqIntS.l0 k l l (i : Int)) true := by
  intro d
  induction d with
  | zero =>
    intro i hd
    refine Ev.fin (fun k => ?_)
    rw [laws_eqIntS.l0, if_neg (by omega)]
  | succ d ih =>
    intro i hd
    refine Ev.step (fun k => ?_) (ih (i + 1) (by omega))
    rw [laws_eqIntS.l0, if_pos (by omega), if_pos (by omega), if_pos (by omega), if_pos rfl, wsucc (by omega)]
theorem eqIntS_ev (l : List Int) (hl : l.length ≤ 17592186044416) : Ev (fun k => laws_eqIntS.f k l l) true := by
  unfold laws_eqIntS.f
  exact Ev.pos rfl (eqIntS_l0 l hl l.length 0 (by omega))

theorem FnExactBest : laws_FnExactBest.Pure := by
  intro l p _ bl wl _ bp wp
  refine Ev.rounds ?_
  unfold laws_FnExactBest.f
  by_cases gl : (l.length : Int) > 1048576
  · exact Ev.pos gl (Ev.now true)
  refine Ev.neg gl ?_
  have hl : l.length ≤ 1048576 := by omega
  have hl4 : l.length ≤ 17592186044416 := by omega
  by_cases gp : (p.length : Int) > 1048576
  · exact Ev.pos gp (Ev.now true)
  refine Ev.neg gp ?_
  have hp : p.length ≤ 1048576 := by omega
  have hp4 : p.length ≤ 17592186044416 := by omega
  have hS := sBest_ev l p hl hp
  have hI := iBest_ev l p hl hp
  generalize bestM l p = q at hS hI
  obtain ⟨a, b⟩ := q
  repeat (first
    | exact Ev.now true
    | with_reducible refine Ev.bind (toIntS_ev l hl4) ?_
    | with_reducible refine Ev.bind (toIntS_ev p hp4) ?_
    | with_reducible refine Ev.bind hS ?_
    | with_reducible refine Ev.bind hI ?_
    | with_reducible refine Ev.bind (eqIntS_ev l hl4) ?_
    | with_reducible refine Ev.bind (eqIntS_ev p hp4) ?_
    | refine Ev.pos rfl ?_
    | (refine Ev.neg ?_ ?_; (· first | (simp; done) | omega))
    | refine Ev.step (fun k => by rw [laws_FnExactBest.j0]) ?_)

end Go.Proofs.Ytonmdhaollhekaa.Pure
