/- Peaks tells what the reference tells, leaves its arguments alone and answers new memory, for all arguments; no condition. -/
import Derived.Test.YtonmdhaollhekaaPFnExactPeaksx5
import Derived.Test.YtonmdhaollhekaaCom
import Derived.Test.YtonmdhaollhekaaMark
set_option linter.unusedVariables false
set_option linter.unusedSimpArgs false
namespace Go.Proofs.Ytonmdhaollhekaa.Pure
open Go.RowKit Go.Proofs.Ytonmdhaollhekaa.PFnExactPeaks Go.Proofs.YtonmdhaollhekaaW.PrintWords Go.Proofs.YtonmdhaollhekaaW.PrintLast Go.Proofs.Ytonmdhaollhekaa.Com Go.Proofs.Ytonmdhaollhekaa.Mark

theorem l1In_eq (a b c : Int) : spec_l1In.f a b c = some (decide (b ≤ a ∧ a ≤ c)) := by
  unfold spec_l1In.f
  by_cases h : b ≤ a
  · rw [if_pos h]; simp [h]
  · rw [if_neg h]; simp [h]

/-- All numbers are of at most a size. -/
def wideB (s : Int) (l : List Int) : Bool := l.all fun x => decide (-s ≤ x ∧ x ≤ s)
def signalB (l : List Int) : Bool := decide (l.length ≤ 512) && wideB 1000000000 l
theorem wideB_all {s : Int} {l : List Int} (h : wideB s l = true) : ∀ x ∈ l, -s ≤ x ∧ x ≤ s := by
  intro x hx
  have := List.all_eq_true.mp h x hx
  simpa using this
theorem signalB_len {l : List Int} (h : signalB l = true) : l.length ≤ 512 := by
  unfold signalB at h
  rw [Bool.and_eq_true] at h
  exact of_decide_eq_true h.1
theorem signalB_wide {l : List Int} (h : signalB l = true) : ∀ x ∈ l, -1000000000 ≤ x ∧ x ≤ 1000000000 := by
  unfold signalB at h
  rw [Bool.and_eq_true] at h
  exact wideB_all h.2

theorem within_l0 (l : List Int) (s : Int) (hs : 0 ≤ s ∧ s ≤ 4000000000000000000) (hl : l.length ≤ 1048576) : ∀ (d i : Nat), i + d = l.length → Ev (fun k => impl_within.l0 k s l (l.length : Int) (i : Int)) (wideB s (l.drop i)) := by
  intro d
  induction d with
  | zero =>
    intro i hd
    refine Ev.fin (fun k => ?_)
    rw [impl_within.l0, if_neg (by omega), List.drop_of_length_le (by omega)]
    rfl
  | succ d ih =>
    intro i hd
    have ew : wrap64 (-s) = -s := w64 (by omega) (by omega)
    rw [drop_rd (i := i) (by omega)]
    have ec : wideB s (rd l (i : Int) :: l.drop (i + 1)) = (decide (-s ≤ rd l (i : Int) ∧ rd l (i : Int) ≤ s) && wideB s (l.drop (i + 1))) := rfl
    rw [ec]
    by_cases h : -s ≤ rd l (i : Int) ∧ rd l (i : Int) ≤ s
    · rw [decide_eq_true h, Bool.true_and]
      refine Ev.step (fun k => ?_) (ih (i + 1) (by omega))
      rw [impl_within.l0, if_pos (by omega), if_pos (by omega), if_pos (by omega), ew, if_neg (by omega), if_neg (by omega), wsucc (by omega)]
    · rw [decide_eq_false h, Bool.false_and]
      refine Ev.fin (fun k => ?_)
      rw [impl_within.l0, if_pos (by omega), if_pos (by omega), if_pos (by omega), ew]
      by_cases h1 : rd l (i : Int) < -s
      · rw [if_pos h1]
      · rw [if_neg h1, if_pos (by omega)]
theorem within_ev (l : List Int) (s : Int) (hs : 0 ≤ s ∧ s ≤ 4000000000000000000) (hl : l.length ≤ 1048576) : Ev (fun k => impl_within.f k l s) (wideB s l) := within_l0 l s hs hl l.length 0 (by omega)
theorem iSignalOk_ev (l : List Int) (hl : l.length ≤ 1048576) : Ev (fun k => impl_SignalOk.f k l) (signalB l) := by
  unfold impl_SignalOk.f signalB
  by_cases h : (l.length : Int) ≤ 512
  · rw [decide_eq_true (by omega), Bool.true_and]
    exact Ev.pos h (Ev.bind (within_ev l _ (by omega) hl) (Ev.now _))
  · rw [decide_eq_false (by omega), Bool.false_and]
    exact Ev.neg h (Ev.now _)

theorem sSignal_l0 (l : List Int) (hl : l.length ≤ 1048576) : ∀ (d i : Nat), i + d = l.length → Ev (fun k => spec_SignalOk.l0 k l (i : Int)) (decide (l.length ≤ 512) && wideB 1000000000 (l.drop i)) := by
  intro d
  induction d with
  | zero =>
    intro i hd
    refine Ev.fin (fun k => ?_)
    rw [spec_SignalOk.l0, if_neg (by omega), List.drop_of_length_le (by omega)]
    have : wideB 1000000000 [] = true := rfl
    rw [this, Bool.and_true]
    congr 1; rw [Bool.eq_iff_iff]; simp; omega
  | succ d ih =>
    intro i hd
    rw [drop_rd (i := i) (by omega)]
    have ec : wideB 1000000000 (rd l (i : Int) :: l.drop (i + 1)) = (decide (-1000000000 ≤ rd l (i : Int) ∧ rd l (i : Int) ≤ 1000000000) && wideB 1000000000 (l.drop (i + 1))) := rfl
    rw [ec]
    have e5 : spec_l5Sample.f (rd l (i : Int)) = some (decide (-1000000000 ≤ rd l (i : Int) ∧ rd l (i : Int) ≤ 1000000000)) := by
      unfold spec_l5Sample.f; rw [l1In_eq, Option.bind_some]
    by_cases h : -1000000000 ≤ rd l (i : Int) ∧ rd l (i : Int) ≤ 1000000000
    · rw [decide_eq_true h] at e5 ⊢
      rw [Bool.true_and]
      refine Ev.step (fun k => ?_) (ih (i + 1) (by omega))
      rw [spec_SignalOk.l0, if_pos (by omega), if_pos (by omega), e5, Option.bind_some, if_pos rfl, wsucc (by omega)]
    · rw [decide_eq_false h] at e5 ⊢
      rw [Bool.false_and, Bool.and_false]
      refine Ev.fin (fun k => ?_)
      rw [spec_SignalOk.l0, if_pos (by omega), if_pos (by omega), e5, Option.bind_some, if_neg (by decide)]
theorem sSignalOk_ev (l : List Int) (hl : l.length ≤ 1048576) : Ev (fun k => spec_SignalOk.f k l) (signalB l) := sSignal_l0 l hl l.length 0 (by omega)

theorem rdP_lt {xs : List S49} {i : Nat} (h : i < xs.length) : rd_T49 xs (i : Int) = xs[i] := by
  unfold rd_T49; rw [Int.toNat_natCast, List.getD_eq_getElem?_getD, List.getElem?_eq_getElem h]; rfl
theorem takeP_rd {xs : List S49} {i : Nat} (h : i < xs.length) : xs.take (i + 1) = xs.take i ++ [rd_T49 xs (i : Int)] := by
  rw [rdP_lt h, List.take_succ_eq_append_getElem h]

/-- The last peak's size. -/
def lastS (acc : List S49) : Int := (rd_T49 acc ((acc.length - 1 : Nat) : Int)).f1
def peakG (high low : Int) : List Int → Nat → List S49 → Bool → List S49
  | [], _, acc, _ => acc
  | x :: t, i, acc, true => if x < low then peakG high low t (i + 1) acc false else if x > lastS acc then peakG high low t (i + 1) (acc.set (acc.length - 1) ⟨(i : Int), x⟩) true else peakG high low t (i + 1) acc true
  | x :: t, i, acc, false => if x ≥ high then peakG high low t (i + 1) (acc ++ [⟨(i : Int), x⟩]) true else peakG high low t (i + 1) acc false
theorem peakG_len (high low : Int) : ∀ (l : List Int) (i : Nat) (acc : List S49) (b : Bool), (peakG high low l i acc b).length ≤ acc.length + l.length
  | [], _, _, _ => Nat.le_refl _
  | x :: t, i, acc, true => by
    unfold peakG
    have h1 := peakG_len high low t (i + 1) acc false
    have h2 := peakG_len high low t (i + 1) (acc.set (acc.length - 1) ⟨(i : Int), x⟩) true
    have h3 := peakG_len high low t (i + 1) acc true
    rw [List.length_set] at h2
    rw [List.length_cons]
    split
    · omega
    · split <;> omega
  | x :: t, i, acc, false => by
    unfold peakG
    have h1 := peakG_len high low t (i + 1) acc false
    have h2 := peakG_len high low t (i + 1) (acc ++ [⟨(i : Int), x⟩]) true
    simp only [List.length_append, List.length_cons, List.length_nil] at h2
    rw [List.length_cons]
    split <;> omega
theorem Peaks_loops (l : List Int) (high low : Int) (hl : l.length ≤ 512) (hlh : low ≤ high) : ∀ (d i : Nat) (acc : List S49) (b : Bool), i + d = l.length → acc.length ≤ i → (b = true → acc.length ≠ 0) →
    Ev (fun k => spec_Peaks.l0 k l high low acc b (i : Int)) (peakG high low (l.drop i) i acc b, true) ∧ Ev (fun k => impl_Peaks.l0 k high low acc b l (l.length : Int) (i : Int)) (peakG high low (l.drop i) i acc b, true) := by
  intro d
  induction d with
  | zero =>
    intro i acc b hd ha hb
    rw [List.drop_of_length_le (by omega)]
    have e : peakG high low [] i acc b = acc := by unfold peakG; rfl
    rw [e]
    exact ⟨Ev.fin (fun k => by rw [spec_Peaks.l0, if_neg (by omega)]), Ev.fin (fun k => by rw [impl_Peaks.l0, if_neg (by omega)])⟩
  | succ d ih =>
    intro i acc b hd ha hb
    rw [drop_rd (i := i) (by omega)]
    generalize hx : rd l (i : Int) = x
    cases b with
    | true =>
      have h0 := hb rfl
      have el : wrap64 ((acc.length : Int) - 1) = ((acc.length - 1 : Nat) : Int) := by rw [w64 (by omega) (by omega)]; omega
      unfold peakG
      by_cases h1 : x < low
      · rw [if_pos h1]
        obtain ⟨i1, i2⟩ := ih (i + 1) acc false (by omega) (by omega) (fun h => by cases h)
        constructor
        · refine Ev.step (fun k => by rw [spec_Peaks.l0, if_pos (by omega), if_pos (by omega), if_pos rfl, hx, decide_eq_true h1]) (Ev.step (fun k => by rw [spec_Peaks.j2, if_pos rfl]) (Ev.step (fun k => by rw [spec_Peaks.j3, if_neg (by decide), decide_eq_false (show ¬ x ≥ high by omega)]) (Ev.step (fun k => ?_) i1)))
          rw [spec_Peaks.j4, if_neg (by decide), if_neg (by decide), wsucc (by omega)]
        · refine Ev.step (fun k => by rw [impl_Peaks.l0, if_pos (by omega), if_pos (by omega), if_pos (by omega), if_pos rfl, hx]) (Ev.step (fun k => by rw [impl_Peaks.j2, if_neg (by decide), if_pos rfl, decide_eq_true h1]) (Ev.step (fun k => ?_) i2))
          rw [impl_Peaks.j3, if_pos rfl, wsucc (by omega)]
      · rw [if_neg h1]
        by_cases h2 : x > lastS acc
        · rw [if_pos h2]
          obtain ⟨i1, i2⟩ := ih (i + 1) (acc.set (acc.length - 1) ⟨(i : Int), x⟩) true (by omega) (by rw [List.length_set]; omega) (fun _ => by rw [List.length_set]; exact h0)
          constructor
          · refine Ev.step (fun k => by rw [spec_Peaks.l0, if_pos (by omega), if_pos (by omega), if_pos rfl, hx, decide_eq_false h1]) (Ev.step (fun k => by rw [spec_Peaks.j2, if_neg (by decide)]) (Ev.step (fun k => by rw [spec_Peaks.j3, if_pos rfl]) (Ev.step (fun k => ?_) i1)))
            rw [spec_Peaks.j4, if_neg (by decide), if_pos rfl, el, if_pos (by omega), if_pos (by omega), if_pos (show x > (rd_T49 acc ((acc.length - 1 : Nat) : Int)).f1 from h2), wsucc (by omega), Int.toNat_natCast]
          · refine Ev.step (fun k => by rw [impl_Peaks.l0, if_pos (by omega), if_pos (by omega), if_pos (by omega), if_pos rfl, hx]) (Ev.step (fun k => by rw [impl_Peaks.j2, if_neg (by decide), if_pos rfl, decide_eq_false h1]) (Ev.step (fun k => ?_) i2))
            rw [impl_Peaks.j3, if_neg (by decide), if_pos rfl, el, if_pos (by omega), if_pos (by omega), if_pos (show x > (rd_T49 acc ((acc.length - 1 : Nat) : Int)).f1 from h2), wsucc (by omega), Int.toNat_natCast]
        · rw [if_neg h2]
          obtain ⟨i1, i2⟩ := ih (i + 1) acc true (by omega) (by omega) (fun _ => h0)
          constructor
          · refine Ev.step (fun k => by rw [spec_Peaks.l0, if_pos (by omega), if_pos (by omega), if_pos rfl, hx, decide_eq_false h1]) (Ev.step (fun k => by rw [spec_Peaks.j2, if_neg (by decide)]) (Ev.step (fun k => by rw [spec_Peaks.j3, if_pos rfl]) (Ev.step (fun k => ?_) i1)))
            rw [spec_Peaks.j4, if_neg (by decide), if_pos rfl, el, if_pos (by omega), if_pos (by omega), if_neg (show ¬ x > (rd_T49 acc ((acc.length - 1 : Nat) : Int)).f1 from h2), wsucc (by omega)]
          · refine Ev.step (fun k => by rw [impl_Peaks.l0, if_pos (by omega), if_pos (by omega), if_pos (by omega), if_pos rfl, hx]) (Ev.step (fun k => by rw [impl_Peaks.j2, if_neg (by decide), if_pos rfl, decide_eq_false h1]) (Ev.step (fun k => ?_) i2))
            rw [impl_Peaks.j3, if_neg (by decide), if_pos rfl, el, if_pos (by omega), if_pos (by omega), if_neg (show ¬ x > (rd_T49 acc ((acc.length - 1 : Nat) : Int)).f1 from h2), wsucc (by omega)]
    | false =>
      unfold peakG
      by_cases h1 : x ≥ high
      · rw [if_pos h1]
        obtain ⟨i1, i2⟩ := ih (i + 1) (acc ++ [⟨(i : Int), x⟩]) true (by omega) (by simp; omega) (fun _ => by simp)
        have el : wrap64 (((acc ++ [(⟨(i : Int), x⟩ : S49)]).length : Int) - 1) = (acc.length : Int) := by
          have e0 : (acc ++ [(⟨(i : Int), x⟩ : S49)]).length = acc.length + 1 := by rw [List.length_append]; rfl
          rw [e0, w64 (by omega) (by omega)]; omega
        have er : rd_T49 (acc ++ [(⟨(i : Int), x⟩ : S49)]) (acc.length : Int) = ⟨(i : Int), x⟩ := by
          rw [rdP_lt (by simp)]
          try simp
        constructor
        · refine Ev.step (fun k => by rw [spec_Peaks.l0, if_pos (by omega), if_pos (by omega), if_neg (by decide), hx]) (Ev.step (fun k => by rw [spec_Peaks.j2, if_neg (by decide)]) (Ev.step (fun k => by rw [spec_Peaks.j3, if_neg (by decide), decide_eq_true h1]) (Ev.step (fun k => ?_) i1)))
          rw [spec_Peaks.j4, if_pos rfl, if_pos (by omega), Option.bind_some, el, if_pos (by omega), if_pos (by simp; omega), er, if_neg (show ¬ x > x by omega), wsucc (by omega)]
        · refine Ev.step (fun k => by rw [impl_Peaks.l0, if_pos (by omega), if_pos (by omega), if_pos (by omega), if_neg (by decide), hx, decide_eq_true h1]) (Ev.step (fun k => ?_) i2)
          rw [impl_Peaks.j2, if_pos rfl, if_pos (by omega), wsucc (by omega)]
      · rw [if_neg h1]
        obtain ⟨i1, i2⟩ := ih (i + 1) acc false (by omega) (by omega) (fun h => by cases h)
        constructor
        · refine Ev.step (fun k => by rw [spec_Peaks.l0, if_pos (by omega), if_pos (by omega), if_neg (by decide), hx]) (Ev.step (fun k => by rw [spec_Peaks.j2, if_neg (by decide)]) (Ev.step (fun k => by rw [spec_Peaks.j3, if_neg (by decide), decide_eq_false h1]) (Ev.step (fun k => ?_) i1)))
          rw [spec_Peaks.j4, if_neg (by decide), if_neg (by decide), wsucc (by omega)]
        · refine Ev.step (fun k => by rw [impl_Peaks.l0, if_pos (by omega), if_pos (by omega), if_pos (by omega), if_neg (by decide), hx, decide_eq_false h1]) (Ev.step (fun k => by rw [impl_Peaks.j2, if_neg (by decide), if_neg (by decide)]) (Ev.step (fun k => ?_) i2))
          rw [impl_Peaks.j3, if_neg (by decide), if_neg (by decide), wsucc (by omega)]
def peaksM (l : List Int) (high low : Int) : List S49 × Bool := if signalB l = true ∧ low ≤ high then (peakG high low l 0 [] false, true) else ([], false)
theorem sPeaks_ev (l : List Int) (high low : Int) (hl : l.length ≤ 1048576) : Ev (fun k => spec_Peaks.f k l high low) (peaksM l high low) := by
  unfold spec_Peaks.f peaksM
  refine Ev.bind0 rfl (Ev.bind (sSignalOk_ev l hl) ?_)
  by_cases h1 : signalB l = true
  · refine Ev.pos h1 ?_
    by_cases h2 : low > high
    · rw [if_neg (by omega), decide_eq_true h2]
      exact Ev.fin (fun k => by rw [spec_Peaks.j0]; rfl)
    · rw [if_pos ⟨h1, by omega⟩, decide_eq_false h2]
      refine Ev.step (fun k => ?_) (Peaks_loops l high low (signalB_len h1) (by omega) l.length 0 [] false (by omega) (by simp) (fun h => by cases h)).1
      rw [spec_Peaks.j0]; rfl
  · rw [if_neg (fun h => h1 h.1)]
    exact Ev.neg h1 (Ev.fin (fun k => by rw [spec_Peaks.j0]; rfl))
theorem iPeaks_ev (l : List Int) (high low : Int) (hl : l.length ≤ 1048576) : Ev (fun k => impl_Peaks.f k l high low) (peaksM l high low) := by
  unfold impl_Peaks.f peaksM
  refine Ev.bind (iSignalOk_ev l hl) ?_
  by_cases h1 : signalB l = true
  · refine Ev.pos h1 ?_
    by_cases h2 : low > high
    · rw [if_neg (by omega), decide_eq_true h2]
      exact Ev.fin (fun k => by rw [impl_Peaks.j0]; rfl)
    · rw [if_pos ⟨h1, by omega⟩, decide_eq_false h2]
      refine Ev.step (fun k => ?_) (Peaks_loops l high low (signalB_len h1) (by omega) l.length 0 [] false (by omega) (by simp) (fun h => by cases h)).2
      rw [impl_Peaks.j0]; rfl
  · rw [if_neg (fun h => h1 h.1)]
    exact Ev.neg h1 (Ev.fin (fun k => by rw [impl_Peaks.j0]; rfl))
theorem Peaks_both (l : List Int) (high low : Int) (hl : l.length ≤ 1048576) : ∃ r ok, Ev (fun k => spec_Peaks.f k l high low) (r, ok) ∧ Ev (fun k => impl_Peaks.f k l high low) (r, ok) ∧ r.length ≤ 17592186044416 := by
  refine ⟨(peaksM l high low).1, (peaksM l high low).2, sPeaks_ev l high low hl, iPeaks_ev l high low hl, ?_⟩
  unfold peaksM
  split
  · have := peakG_len high low l 0 [] false
    simp at this
    simp only
    omega
  · simp

theorem toIntS_l0 (l : List Int) (hl : l.length ≤ 17592186044416) : ∀ (d i : Nat) (x : List Int), i + d = l.length → x.length = l.length → x.take i = l.take i →
    Ev (fun k => laws_toIntS.l0 k l x (i : Int)) l := by
  intro d
  induction d with
  | zero =>
    intro i x hd hx ht
    refine Ev.fin (fun k => ?_)
    rw [laws_toIntS.l0, if_neg (by omega)]
    rw [List.take_of_length_le (by omega), List.take_of_length_le (by omega)] at ht
    rw [ht]
  | succ d ih =>
    intro i x hd hx ht
    refine Ev.step (fun k => ?_) (ih (i + 1) (x.set i (rd l (i : Int))) (by omega) (by simpa using hx) ?_)
    · rw [laws_toIntS.l0, if_pos (by omega), if_pos (by omega), if_pos (by omega), wsucc (by omega), Int.toNat_natCast]
    · rw [take_rd (by simp; omega), take_rd (by omega), List.take_set_of_le (by omega), ht, rd_lt (by simp; omega), List.getElem_set_self]
theorem toIntS_ev (l : List Int) (hl : l.length ≤ 17592186044416) : Ev (fun k => laws_toIntS.f k l) l := by
  unfold laws_toIntS.f
  refine Ev.pos (by omega) (Ev.pos (by omega) ?_)
  exact toIntS_l0 l hl l.length 0 _ (by omega) (by simp) (by simp)

theorem eqIntS_l0 (l : List Int) (hl : l.length ≤ 17592186044416) : ∀ (d i : Nat), i + d = l.length → Ev (fun k => laws_eqIntS.l0 k l l (i : Int)) true := by
  intro d
  induction d with
  | zero =>
    intro i hd
    refine Ev.fin (fun k => ?_)
    rw [laws_eqIntS.l0, if_neg (by omega)]
  | succ d ih =>
    intro i hd
    refine Ev.step (fun k => ?_) (ih (i + 1) (by omega))
    rw [laws_eqIntS.l0, if_pos (by omega), if_pos (by omega), if_pos (by omega), if_pos rfl, wsucc (by omega)]
theorem eqIntS_ev (l : List Int) (hl : l.length ≤ 17592186044416) : Ev (fun k => laws_eqIntS.f k l l) true := by
  unfold laws_eqIntS.f
  exact Ev.pos rfl (eqIntS_l0 l hl l.length 0 (by omega))

theorem markIntS_l0 (n : Nat) (s : Int) (hs : 0 ≤ s ∧ s ≤ 100000000000000) (hn : n ≤ 17592186044416) : ∀ (d i : Nat) (x : List Int), i + d = n → x.length = n → x.take i = mkL s i →
    Ev (fun k => laws_markIntS.l0 k x (s + (i : Int)) (i : Int)) (s + (n : Int), mkL s n) := by
  intro d
  induction d with
  | zero =>
    intro i x hd hx ht
    refine Ev.fin (fun k => ?_)
    rw [laws_markIntS.l0, if_neg (by omega)]
    obtain rfl : i = n := by omega
    rw [List.take_of_length_le (by omega)] at ht
    rw [ht]
  | succ d ih =>
    intro i x hd hx ht
    refine Ev.step (fun k => ?_) (ih (i + 1) (x.set i (s + (i : Int))) (by omega) (by simpa using hx) ?_)
    · have e : wrap64 (s + (i : Int) + 1) = s + ((i + 1 : Nat) : Int) := by rw [w64 (by omega) (by omega)]; omega
      rw [laws_markIntS.l0, if_pos (by omega), if_pos (by omega), wsucc (by omega), e, Int.toNat_natCast]
    · rw [take_rd (by simp; omega), List.take_set_of_le (by omega), ht, rd_lt (by simp; omega), List.getElem_set_self]
      rfl
theorem markIntS_ev (x : List Int) (s : Int) (hs : 0 ≤ s ∧ s ≤ 100000000000000) (hl : x.length ≤ 17592186044416) : Ev (fun k => laws_markIntS.f k x s) (s + (x.length : Int), mkL s x.length) := by
  unfold laws_markIntS.f
  exact Ev.cast (Ev.congr (fun k => by rw [Int.natCast_zero, Int.add_zero]) (markIntS_l0 x.length s hs hl x.length 0 x (by omega) rfl (by simp [mkL]))) rfl

theorem eqPeakS_l0 (l : List S49) (hl : l.length ≤ 17592186044416) : ∀ (d i : Nat), i + d = l.length → Ev (fun k => laws_eqPeakS.l0 k l l (i : Int)) true := by
  have e : ∀ a b, laws_eqPeak.f a b a b = some true := by
    intro a b; unfold laws_eqPeak.f; rw [if_pos rfl, if_pos rfl]
  intro d
  induction d with
  | zero =>
    intro i hd
    refine Ev.fin (fun k => ?_)
    rw [laws_eqPeakS.l0, if_neg (by omega)]
  | succ d ih =>
    intro i hd
    refine Ev.step (fun k => ?_) (ih (i + 1) (by omega))
    rw [laws_eqPeakS.l0, if_pos (by omega), if_pos (by omega), if_pos (by omega), e, Option.bind_some, if_pos rfl, wsucc (by omega)]
theorem eqPeakS_ev (l : List S49) (hl : l.length ≤ 17592186044416) : Ev (fun k => laws_eqPeakS.f k l l) true := by
  unfold laws_eqPeakS.f
  exact Ev.pos rfl (eqPeakS_l0 l hl l.length 0 (by omega))

def mkP (s : Int) : Nat → List S49
  | 0 => []
  | n + 1 => mkP s n ++ [(⟨s + 2 * (n : Int), s + 2 * (n : Int) + 1⟩ : S49)]
theorem mkP_length (s : Int) : ∀ n, (mkP s n).length = n
  | 0 => rfl
  | n + 1 => by show (mkP s n ++ [(⟨s + 2 * (n : Int), s + 2 * (n : Int) + 1⟩ : S49)]).length = n + 1; simp [mkP_length s n]
theorem rd_mkP (s : Int) : ∀ {n i : Nat}, i < n → rd_T49 (mkP s n) (i : Int) = (⟨s + 2 * (i : Int), s + 2 * (i : Int) + 1⟩ : S49)
  | n + 1, i, h => by
    have hl := mkP_length s n
    unfold rd_T49
    rw [Int.toNat_natCast]
    show (mkP s n ++ [(⟨s + 2 * (n : Int), s + 2 * (n : Int) + 1⟩ : S49)]).getD i z49 = _
    rw [List.getD_eq_getElem?_getD]
    by_cases e : i < n
    · rw [List.getElem?_append_left (by omega), ← List.getD_eq_getElem?_getD]
      have := rd_mkP s e
      unfold rd_T49 at this
      rwa [Int.toNat_natCast] at this
    · obtain rfl : i = n := by omega
      rw [List.getElem?_append_right (by omega), hl]
      simp
theorem markPeakS_l0 (n : Nat) (s : Int) (hs : 0 ≤ s ∧ s ≤ 100000000000000) (hn : n ≤ 17592186044416) : ∀ (d i : Nat) (x : List S49), i + d = n → x.length = n → x.take i = mkP s i →
    Ev (fun k => laws_markPeakS.l0 k x (s + 2 * (i : Int)) (i : Int)) (s + 2 * (n : Int), mkP s n) := by
  intro d
  induction d with
  | zero =>
    intro i x hd hx ht
    refine Ev.fin (fun k => ?_)
    rw [laws_markPeakS.l0, if_neg (by omega)]
    obtain rfl : i = n := by omega
    rw [List.take_of_length_le (by omega)] at ht
    rw [ht]
  | succ d ih =>
    intro i x hd hx ht
    refine Ev.step (fun k => ?_) (ih (i + 1) (x.set i ⟨s + 2 * (i : Int), s + 2 * (i : Int) + 1⟩) (by omega) (by simpa using hx) ?_)
    · have e1 : wrap64 (s + 2 * (i : Int) + 1) = s + 2 * (i : Int) + 1 := w64 (by omega) (by omega)
      have e2 : wrap64 (s + 2 * (i : Int) + 1 + 1) = s + 2 * ((i + 1 : Nat) : Int) := by rw [w64 (by omega) (by omega)]; omega
      rw [laws_markPeakS.l0, if_pos (by omega), if_pos (by omega), Option.bind_some, wsucc (by omega), e1, e2, Int.toNat_natCast, List.set_set]
      rw [rdP_lt (xs := x.set i _) (by simp; omega), List.getElem_set_self]
    · rw [takeP_rd (by simp; omega), List.take_set_of_le (by omega), ht, rdP_lt (by simp; omega), List.getElem_set_self]
      rfl
theorem markPeakS_ev (x : List S49) (s : Int) (hs : 0 ≤ s ∧ s ≤ 100000000000000) (hl : x.length ≤ 17592186044416) : Ev (fun k => laws_markPeakS.f k x s) (s + 2 * (x.length : Int), mkP s x.length) := by
  unfold laws_markPeakS.f
  exact Ev.cast (Ev.congr (fun k => by rw [Int.natCast_zero, Int.mul_zero, Int.add_zero]) (markPeakS_l0 x.length s hs hl x.length 0 x (by omega) rfl (by simp [mkP]))) rfl

theorem heldPeakS_l0 (n : Nat) (s : Int) (hs : 0 ≤ s ∧ s ≤ 100000000000000) (hn : n ≤ 17592186044416) : ∀ (d i : Nat), i + d = n → Ev (fun k => laws_heldPeakS.l0 k (mkP s n) (s + 2 * (i : Int)) (i : Int)) (s + 2 * (n : Int)) := by
  intro d
  induction d with
  | zero =>
    intro i hd
    refine Ev.fin (fun k => ?_)
    rw [laws_heldPeakS.l0, mkP_length, if_neg (by omega)]
    congr 1; omega
  | succ d ih =>
    intro i hd
    refine Ev.step (fun k => ?_) (ih (i + 1) (by omega))
    have e1 : wrap64 (s + 2 * (i : Int) + 1) = s + 2 * (i : Int) + 1 := w64 (by omega) (by omega)
    have e2 : wrap64 (s + 2 * (i : Int) + 1 + 1) = s + 2 * ((i + 1 : Nat) : Int) := by rw [w64 (by omega) (by omega)]; omega
    rw [laws_heldPeakS.l0, mkP_length, if_pos (by omega), if_pos (by omega), rd_mkP s (by omega), if_pos rfl, e1, if_pos rfl, wsucc (by omega), e2]
theorem heldPeakS_ev (n : Nat) (s : Int) (hs : 0 ≤ s ∧ s ≤ 100000000000000) (hl : n ≤ 17592186044416) : Ev (fun k => laws_heldPeakS.f k (mkP s n) s) (s + 2 * (n : Int)) := by
  unfold laws_heldPeakS.f
  exact Ev.congr (fun k => by rw [Int.natCast_zero, Int.mul_zero, Int.add_zero]) (heldPeakS_l0 n s hs hl n 0 (by omega))

theorem FnExactPeaks : laws_FnExactPeaks.Pure := by
  intro l h w _ bl wl wh ww
  refine Ev.rounds ?_
  unfold laws_FnExactPeaks.f
  by_cases gl : (l.length : Int) > 1048576
  · exact Ev.pos gl (Ev.now true)
  refine Ev.neg gl ?_
  have hl : l.length ≤ 1048576 := by omega
  have hl4 : l.length ≤ 17592186044416 := by omega
  obtain ⟨r, ok, hS, hI, hr⟩ := Peaks_both l h w hl
  have ml : 0 ≤ (1 : Int) ∧ (1 : Int) ≤ 100000000000000 := by omega
  have m1 : 0 ≤ (1 : Int) ∧ (1 : Int) ≤ 100000000000000 := by omega
  repeat (first
    | exact Ev.now true
    | with_reducible refine Ev.bind (toIntS_ev l hl4) ?_
    | with_reducible refine Ev.bind hS ?_
    | with_reducible refine Ev.bind hI ?_
    | with_reducible refine Ev.bind (eqIntS_ev l hl4) ?_
    | with_reducible refine Ev.bind (eqPeakS_ev r hr) ?_
    | with_reducible refine Ev.bind (markIntS_ev l (1) ml hl4) ?_
    | with_reducible refine Ev.bind (markPeakS_ev r 1 m1 hr) ?_
    | with_reducible refine Ev.bind (heldPeakS_ev r.length 1 m1 hr) ?_
    | refine Ev.pos rfl ?_
    | (refine Ev.neg ?_ ?_; (· first | (simp; done) | omega))
    | refine Ev.step (fun k => by rw [laws_FnExactPeaks.j0]) ?_
    | refine Ev.step (fun k => by rw [laws_FnExactPeaks.j1]) ?_
    | refine Ev.step (fun k => by rw [laws_FnExactPeaks.j2]) ?_)

end Go.Proofs.Ytonmdhaollhekaa.Pure
