/- Chain tells what the reference tells, leaves its arguments alone and answers new memory, for all arguments; no condition. -/
import Derived.Test.YtnpoimjdkjhcpaaQFnExactChainx6
import Derived.Test.YtnpoimjdkjhcpaaCom
import Derived.Test.YtnpoimjdkjhcpaaMark
set_option linter.unusedVariables false
set_option linter.unusedSimpArgs false
namespace Go.Proofs.Ytnpoimjdkjhcpaa.Pure
open Go.RowKit Go.Proofs.Ytnpoimjdkjhcpaa.PFnExactChain Go.Proofs.YtnpoimjdkjhcpaaW.PrintWords Go.Proofs.YtnpoimjdkjhcpaaW.PrintLast Go.Proofs.Ytnpoimjdkjhcpaa.Com Go.Proofs.Ytnpoimjdkjhcpaa.Mark

theorem rdSc_lt {xs : List S109} {i : Nat} (h : i < xs.length) : rd_T109 xs (i : Int) = xs[i] := by
  unfold rd_T109; rw [Int.toNat_natCast, List.getD_eq_getElem?_getD, List.getElem?_eq_getElem h]; rfl
theorem takeSc_rd {xs : List S109} {i : Nat} (h : i < xs.length) : xs.take (i + 1) = xs.take i ++ [rd_T109 xs (i : Int)] := by
  rw [rdSc_lt h, List.take_succ_eq_append_getElem h]
theorem dropSc_rd {xs : List S109} {i : Nat} (h : i < xs.length) : xs.drop i = rd_T109 xs (i : Int) :: xs.drop (i + 1) := by
  rw [rdSc_lt h, List.drop_eq_getElem_cons h]
theorem rdSd_lt {xs : List S115} {i : Nat} (h : i < xs.length) : rd_T115 xs (i : Int) = xs[i] := by
  unfold rd_T115; rw [Int.toNat_natCast, List.getD_eq_getElem?_getD, List.getElem?_eq_getElem h]; rfl
def cvSc (x : S115) : S109 := ⟨x.f0, x.f1, x.f2, x.f3, x.f4⟩
theorem l1In_eq (a b c : Int) : spec_l1In.f a b c = some (decide (b ≤ a ∧ a ≤ c)) := by
  unfold spec_l1In.f
  by_cases h : b ≤ a
  · rw [if_pos h]; simp [h]
  · rw [if_neg h]; simp [h]
/-- All numbers are of at most a size. -/
def wideB (s : Int) (l : List Int) : Bool := l.all fun x => decide (-s ≤ x ∧ x ≤ s)
def signalB (l : List Int) : Bool := decide (l.length ≤ 512) && wideB 1000000000 l
theorem wideB_all {s : Int} {l : List Int} (h : wideB s l = true) : ∀ x ∈ l, -s ≤ x ∧ x ≤ s := by
  intro x hx
  have := List.all_eq_true.mp h x hx
  simpa using this
theorem signalB_len {l : List Int} (h : signalB l = true) : l.length ≤ 512 := by
  unfold signalB at h
  rw [Bool.and_eq_true] at h
  exact of_decide_eq_true h.1
theorem signalB_wide {l : List Int} (h : signalB l = true) : ∀ x ∈ l, -1000000000 ≤ x ∧ x ≤ 1000000000 := by
  unfold signalB at h
  rw [Bool.and_eq_true] at h
  exact wideB_all h.2
theorem l9Wide_l0 (l : List Int) (s : Int) (hs : 0 ≤ s ∧ s ≤ 4000000000000000000) (hl : l.length ≤ 1048576) : ∀ (d i : Nat), i + d = l.length → Ev (fun k => spec_l9Wide.l0 k l s (i : Int)) (wideB s (l.drop i)) := by
  intro d
  induction d with
  | zero =>
    intro i hd
    refine Ev.fin (fun k => ?_)
    rw [spec_l9Wide.l0, if_neg (by omega), List.drop_of_length_le (by omega)]
    rfl
  | succ d ih =>
    intro i hd
    have ew : wrap64 (-s) = -s := w64 (by omega) (by omega)
    rw [drop_rd (i := i) (by omega)]
    have ec : wideB s (rd l (i : Int) :: l.drop (i + 1)) = (decide (-s ≤ rd l (i : Int) ∧ rd l (i : Int) ≤ s) && wideB s (l.drop (i + 1))) := rfl
    rw [ec]
    by_cases h : -s ≤ rd l (i : Int) ∧ rd l (i : Int) ≤ s
    · rw [decide_eq_true h, Bool.true_and]
      refine Ev.step (fun k => ?_) (ih (i + 1) (by omega))
      rw [spec_l9Wide.l0, if_pos (by omega), if_pos (by omega), ew, l1In_eq, Option.bind_some, decide_eq_true h, if_pos rfl, wsucc (by omega)]
    · rw [decide_eq_false h, Bool.false_and]
      refine Ev.fin (fun k => ?_)
      rw [spec_l9Wide.l0, if_pos (by omega), if_pos (by omega), ew, l1In_eq, Option.bind_some, decide_eq_false h, if_neg (by decide)]
theorem l9Wide_ev (l : List Int) (s : Int) (hs : 0 ≤ s ∧ s ≤ 4000000000000000000) (hl : l.length ≤ 1048576) : Ev (fun k => spec_l9Wide.f k l s) (wideB s l) := l9Wide_l0 l s hs hl l.length 0 (by omega)
theorem within_l0 (l : List Int) (s : Int) (hs : 0 ≤ s ∧ s ≤ 4000000000000000000) (hl : l.length ≤ 1048576) : ∀ (d i : Nat), i + d = l.length → Ev (fun k => impl_within.l0 k s l (l.length : Int) (i : Int)) (wideB s (l.drop i)) := by
  intro d
  induction d with
  | zero =>
    intro i hd
    refine Ev.fin (fun k => ?_)
    rw [impl_within.l0, if_neg (by omega), List.drop_of_length_le (by omega)]
    rfl
  | succ d ih =>
    intro i hd
    have ew : wrap64 (-s) = -s := w64 (by omega) (by omega)
    rw [drop_rd (i := i) (by omega)]
    have ec : wideB s (rd l (i : Int) :: l.drop (i + 1)) = (decide (-s ≤ rd l (i : Int) ∧ rd l (i : Int) ≤ s) && wideB s (l.drop (i + 1))) := rfl
    rw [ec]
    by_cases h : -s ≤ rd l (i : Int) ∧ rd l (i : Int) ≤ s
    · rw [decide_eq_true h, Bool.true_and]
      refine Ev.step (fun k => ?_) (ih (i + 1) (by omega))
      rw [impl_within.l0, if_pos (by omega), if_pos (by omega), if_pos (by omega), ew, if_neg (by omega), if_neg (by omega), wsucc (by omega)]
    · rw [decide_eq_false h, Bool.false_and]
      refine Ev.fin (fun k => ?_)
      rw [impl_within.l0, if_pos (by omega), if_pos (by omega), if_pos (by omega), ew]
      by_cases h1 : rd l (i : Int) < -s
      · rw [if_pos h1]
      · rw [if_neg h1, if_pos (by omega)]
theorem within_ev (l : List Int) (s : Int) (hs : 0 ≤ s ∧ s ≤ 4000000000000000000) (hl : l.length ≤ 1048576) : Ev (fun k => impl_within.f k l s) (wideB s l) := within_l0 l s hs hl l.length 0 (by omega)
theorem iSignalOk_ev (l : List Int) (hl : l.length ≤ 1048576) : Ev (fun k => impl_SignalOk.f k l) (signalB l) := by
  unfold impl_SignalOk.f signalB
  by_cases h : (l.length : Int) ≤ 512
  · rw [decide_eq_true (by omega), Bool.true_and]
    exact Ev.pos h (Ev.bind (within_ev l _ (by omega) hl) (Ev.now _))
  · rw [decide_eq_false (by omega), Bool.false_and]
    exact Ev.neg h (Ev.now _)
theorem cloneI_eq (l : List Int) (hl : l.length ≤ 1048576) : slices_Clone_int_int.f l = some l := by
  unfold slices_Clone_int_int.f
  rw [if_pos (by rw [List.length_nil]; omega)]
/-- The sum that a step of a section divides. -/
def tcB (b0 b1 b2 a1 a2 x1 x2 y1 y2 e x : Int) : Int := wrap64 ((wrap64 ((wrap64 ((wrap64 ((wrap64 ((wrap64 (b0 * x)) + (wrap64 (b1 * x1)))) + (wrap64 (b2 * x2)))) - (wrap64 (a1 * y1)))) - (wrap64 (a2 * y2)))) + e)
theorem tcB_in (b0 b1 b2 a1 a2 x1 x2 y1 y2 e x : Int) : -9223372036854775808 ≤ tcB b0 b1 b2 a1 a2 x1 x2 y1 y2 e x ∧ tcB b0 b1 b2 a1 a2 x1 x2 y1 y2 e x ≤ 9223372036854775807 := by
  unfold tcB
  generalize (wrap64 ((wrap64 ((wrap64 ((wrap64 ((wrap64 (b0 * x)) + (wrap64 (b1 * x1)))) + (wrap64 (b2 * x2)))) - (wrap64 (a1 * y1)))) - (wrap64 (a2 * y2)))) + e = n
  unfold wrap64
  omega
def endB (q : Int) : Int := if q > 1000000 then 1000000 else if q < -1000000 then -1000000 else q
theorem l10End_eq (q : Int) : spec_l10End.f q = some (endB q) := by
  unfold spec_l10End.f endB
  by_cases h : q > 1000000
  · rw [if_pos h, if_pos h]
  · rw [if_neg h, if_neg h]
    by_cases h2 : q < -1000000
    · rw [if_pos h2, if_pos h2]
    · rw [if_neg h2, if_neg h2]
theorem nearer_end (q : Int) : impl_nearer.f q (-1000000) 1000000 = some (endB q) := by
  unfold impl_nearer.f endB mn mx
  congr 1
  repeat' split
  all_goals omega
theorem end_in (q : Int) : -1000000 ≤ endB q ∧ endB q ≤ 1000000 := by
  unfold endB
  repeat' split
  all_goals omega
theorem floorQ (t : Int) (h : -9223372036854775808 ≤ t ∧ t ≤ 9223372036854775807) : spec_l5Floor.f t 16384 = some (t / 16384) ∧ impl_down.f t 16384 = some (t / 16384, t % 16384) ∧ wrap64 (t - wrap64 (16384 * (t / 16384))) = t % 16384 := by
  have hq : -562949953421312 ≤ t / 16384 ∧ t / 16384 ≤ 562949953421311 := by omega
  have hm : 0 ≤ t % 16384 ∧ t % 16384 < 16384 := by omega
  refine ⟨?_, ?_, ?_⟩
  · unfold spec_l5Floor.f
    rw [if_neg (by decide)]
    by_cases hc : 0 ≤ t ∨ (16384 : Int) ∣ t
    · have em : Int.tmod t 16384 = t % 16384 := by rw [Int.tmod_eq_emod, if_pos hc]; omega
      have eq : Int.tdiv t 16384 = t / 16384 := by rw [Int.tdiv_eq_ediv, if_pos hc]; omega
      rw [em, eq, if_neg (by omega), w64 (by omega) (by omega)]
    · have em : Int.tmod t 16384 = t % 16384 - 16384 := by rw [Int.tmod_eq_emod, if_neg hc]; rfl
      have eq : Int.tdiv t 16384 = t / 16384 + 1 := by rw [Int.tdiv_eq_ediv, if_neg hc]; rfl
      rw [em, eq, if_pos (by omega), w64 (n := t / 16384 + 1) (by omega) (by omega), w64 (by omega) (by omega)]
      congr 1; omega
  · unfold impl_down.f
    rw [if_neg (by decide)]
    by_cases hc : 0 ≤ t ∨ (16384 : Int) ∣ t
    · have em : Int.tmod t 16384 = t % 16384 := by rw [Int.tmod_eq_emod, if_pos hc]; omega
      have eq : Int.tdiv t 16384 = t / 16384 := by rw [Int.tdiv_eq_ediv, if_pos hc]; omega
      rw [em, eq, if_neg (by omega), w64 (by omega) (by omega)]
    · have em : Int.tmod t 16384 = t % 16384 - 16384 := by rw [Int.tmod_eq_emod, if_neg hc]; rfl
      have eq : Int.tdiv t 16384 = t / 16384 + 1 := by rw [Int.tdiv_eq_ediv, if_neg hc]; rfl
      rw [em, eq, if_pos (by omega), w64 (n := t / 16384 + 1) (by omega) (by omega), w64 (n := t / 16384 + 1 - 1) (by omega) (by omega), w64 (by omega) (by omega)]
      congr 2 <;> omega
  · rw [w64 (n := 16384 * (t / 16384)) (by omega) (by omega), w64 (by omega) (by omega)]; omega
/-- What a section makes of a signal. -/
def stB (b0 b1 b2 a1 a2 : Int) : List Int → Int → Int → Int → Int → Int → List Int
  | [], _, _, _, _, _ => []
  | x :: r, x1, x2, y1, y2, e => endB (tcB b0 b1 b2 a1 a2 x1 x2 y1 y2 e x / 16384) :: stB b0 b1 b2 a1 a2 r x x1 (endB (tcB b0 b1 b2 a1 a2 x1 x2 y1 y2 e x / 16384)) y1 (tcB b0 b1 b2 a1 a2 x1 x2 y1 y2 e x % 16384)
theorem stB_len (b0 b1 b2 a1 a2 : Int) : ∀ (l : List Int) (x1 x2 y1 y2 e : Int), (stB b0 b1 b2 a1 a2 l x1 x2 y1 y2 e).length = l.length
  | [], _, _, _, _, _ => rfl
  | x :: r, x1, x2, y1, y2, e => by simp [stB, stB_len b0 b1 b2 a1 a2 r]
theorem stB_wide (b0 b1 b2 a1 a2 : Int) : ∀ (l : List Int) (x1 x2 y1 y2 e : Int), wideB 1000000 (stB b0 b1 b2 a1 a2 l x1 x2 y1 y2 e) = true
  | [], _, _, _, _, _ => rfl
  | x :: r, x1, x2, y1, y2, e => by
    show (decide (-1000000 ≤ endB (tcB b0 b1 b2 a1 a2 x1 x2 y1 y2 e x / 16384) ∧ endB (tcB b0 b1 b2 a1 a2 x1 x2 y1 y2 e x / 16384) ≤ 1000000) && wideB 1000000 (stB b0 b1 b2 a1 a2 r x x1 (endB (tcB b0 b1 b2 a1 a2 x1 x2 y1 y2 e x / 16384)) y1 (tcB b0 b1 b2 a1 a2 x1 x2 y1 y2 e x % 16384))) = true
    rw [decide_eq_true (end_in _), stB_wide b0 b1 b2 a1 a2 r]; rfl
theorem iIir_l0 (b0 b1 b2 a1 a2 : Int) (l : List Int) (hl : l.length ≤ 512) : ∀ (d i : Nat) (acc : List Int) (x1 x2 y1 y2 e : Int), i + d = l.length → acc.length = i →
    ∃ p, Ev (fun k => impl_iir.l0 k acc l (l.length : Int) (i : Int) b0 b1 b2 a1 a2 x1 x2 y1 y2 e) (acc ++ stB b0 b1 b2 a1 a2 (l.drop i) x1 x2 y1 y2 e, p) := by
  intro d
  induction d with
  | zero =>
    intro i acc x1 x2 y1 y2 e hd ha
    refine ⟨(x1, x2, y1, y2, e), Ev.fin (fun k => ?_)⟩
    rw [impl_iir.l0, if_neg (by omega), List.drop_of_length_le (by omega), stB, List.append_nil]
  | succ d ih =>
    intro i acc x1 x2 y1 y2 e hd ha
    have hT := tcB_in b0 b1 b2 a1 a2 x1 x2 y1 y2 e (rd l (i : Int))
    obtain ⟨-, h2, -⟩ := floorQ _ hT
    obtain ⟨p, hp⟩ := ih (i + 1) (acc ++ [endB (tcB b0 b1 b2 a1 a2 x1 x2 y1 y2 e (rd l (i : Int)) / 16384)]) (rd l (i : Int)) x1 (endB (tcB b0 b1 b2 a1 a2 x1 x2 y1 y2 e (rd l (i : Int)) / 16384)) y1 (tcB b0 b1 b2 a1 a2 x1 x2 y1 y2 e (rd l (i : Int)) % 16384) (by omega) (by simp; omega)
    refine ⟨p, ?_⟩
    rw [drop_rd (i := i) (by omega), stB]
    rw [List.append_assoc] at hp
    refine Ev.step (fun k => ?_) hp
    rw [impl_iir.l0, if_pos (by omega), if_pos (by omega), if_pos (by omega)]
    have h3 : impl_down.f (wrap64 ((wrap64 ((wrap64 ((wrap64 ((wrap64 ((wrap64 (b0 * (rd l (i : Int)))) + (wrap64 (b1 * x1)))) + (wrap64 (b2 * x2)))) - (wrap64 (a1 * y1)))) - (wrap64 (a2 * y2)))) + e)) 16384 = some (tcB b0 b1 b2 a1 a2 x1 x2 y1 y2 e (rd l (i : Int)) / 16384, tcB b0 b1 b2 a1 a2 x1 x2 y1 y2 e (rd l (i : Int)) % 16384) := h2
    rw [h3, Option.bind_some, nearer_end, Option.bind_some, if_pos (by omega), wsucc (by omega)]
theorem sIir_l0 (b0 b1 b2 a1 a2 : Int) (l : List Int) (hl : l.length ≤ 512) : ∀ (d i : Nat) (acc : List Int) (x1 x2 y1 y2 e : Int), i + d = l.length → acc.length = i →
    ∃ p0 p1 p2 p3 p4, Ev (fun k => spec_Iir.l0 k l acc (i : Int) b0 b1 b2 a1 a2 x1 x2 y1 y2 e) (acc ++ stB b0 b1 b2 a1 a2 (l.drop i) x1 x2 y1 y2 e, p0, p1, p2, p3, p4, true) := by
  intro d
  induction d with
  | zero =>
    intro i acc x1 x2 y1 y2 e hd ha
    refine ⟨x1, x2, y1, y2, e, Ev.fin (fun k => ?_)⟩
    rw [spec_Iir.l0, if_neg (by omega), List.drop_of_length_le (by omega), stB, List.append_nil]
  | succ d ih =>
    intro i acc x1 x2 y1 y2 e hd ha
    have hT := tcB_in b0 b1 b2 a1 a2 x1 x2 y1 y2 e (rd l (i : Int))
    obtain ⟨h2, -, h4⟩ := floorQ _ hT
    obtain ⟨p0, p1, p2, p3, p4, hp⟩ := ih (i + 1) (acc ++ [endB (tcB b0 b1 b2 a1 a2 x1 x2 y1 y2 e (rd l (i : Int)) / 16384)]) (rd l (i : Int)) x1 (endB (tcB b0 b1 b2 a1 a2 x1 x2 y1 y2 e (rd l (i : Int)) / 16384)) y1 (tcB b0 b1 b2 a1 a2 x1 x2 y1 y2 e (rd l (i : Int)) % 16384) (by omega) (by simp; omega)
    refine ⟨p0, p1, p2, p3, p4, ?_⟩
    rw [drop_rd (i := i) (by omega), stB]
    rw [List.append_assoc] at hp
    refine Ev.step (fun k => ?_) hp
    rw [spec_Iir.l0, if_pos (by omega), if_pos (by omega)]
    have h3 : spec_l5Floor.f (wrap64 ((wrap64 ((wrap64 ((wrap64 ((wrap64 ((wrap64 (b0 * (rd l (i : Int)))) + (wrap64 (b1 * x1)))) + (wrap64 (b2 * x2)))) - (wrap64 (a1 * y1)))) - (wrap64 (a2 * y2)))) + e)) 16384 = some (tcB b0 b1 b2 a1 a2 x1 x2 y1 y2 e (rd l (i : Int)) / 16384) := h2
    have h5 : wrap64 (wrap64 ((wrap64 ((wrap64 ((wrap64 ((wrap64 ((wrap64 (b0 * (rd l (i : Int)))) + (wrap64 (b1 * x1)))) + (wrap64 (b2 * x2)))) - (wrap64 (a1 * y1)))) - (wrap64 (a2 * y2)))) + e) - wrap64 (16384 * (tcB b0 b1 b2 a1 a2 x1 x2 y1 y2 e (rd l (i : Int)) / 16384))) = tcB b0 b1 b2 a1 a2 x1 x2 y1 y2 e (rd l (i : Int)) % 16384 := h4
    rw [h3, Option.bind_some, l10End_eq, Option.bind_some, if_pos (by omega), wsucc (by omega), h5]
/-- Is a section well? -/
def secB (s : S109) : Bool := wideB 65536 [s.f0, s.f1, s.f2, s.f3, s.f4]
theorem secOk_ev (s : S109) : Ev (fun k => impl_Section_ok.f k s.f0 s.f1 s.f2 s.f3 s.f4) (secB s) := by
  unfold impl_Section_ok.f
  exact Ev.bind (within_ev _ _ (by omega) (by simp)) (Ev.now _)
/-- May a chain take the signal? -/
def sigB (l : List Int) : Bool := decide (l.length ≤ 512) && wideB 1000000 l
theorem sigB_len {l : List Int} (h : sigB l = true) : l.length ≤ 512 := by
  unfold sigB at h
  rw [Bool.and_eq_true] at h
  exact of_decide_eq_true h.1
theorem l10Iir_ev (s : S109) (l : List Int) (hl : l.length ≤ 1048576) : Ev (fun k => spec_l10Iir.f k s.f0 s.f1 s.f2 s.f3 s.f4 0 0 0 0 0 l) (secB s && sigB l) := by
  unfold spec_l10Iir.f
  refine Ev.bind (l9Wide_ev _ _ (by omega) (by simp)) ?_
  show Ev _ (secB s && sigB l)
  have e0 : wideB 65536 [s.f0, s.f1, s.f2, s.f3, s.f4] = secB s := rfl
  rw [e0]
  cases secB s with
  | false => exact Ev.neg (by decide) (Ev.now _)
  | true =>
    refine Ev.pos rfl (Ev.bind (l9Wide_ev _ _ (by omega) (by simp)) ?_)
    refine Ev.pos (by decide) (Ev.bind0 (l1In_eq _ _ _) ?_)
    refine Ev.pos (by decide) ?_
    unfold sigB
    by_cases h : (l.length : Int) ≤ 512
    · rw [decide_eq_true (by omega), Bool.true_and, Bool.true_and]
      exact Ev.pos h (Ev.bind (l9Wide_ev l _ (by omega) hl) (Ev.now _))
    · rw [decide_eq_false (by omega), Bool.false_and, Bool.true_and]
      exact Ev.neg h (Ev.now _)
def nxB (s : S109) (l : List Int) : List Int := stB s.f0 s.f1 s.f2 s.f3 s.f4 l 0 0 0 0 0
theorem nxB_sig {s : S109} {l : List Int} (h : sigB l = true) : sigB (nxB s l) = true := by
  have h1 := sigB_len h
  have h2 : wideB 1000000 (nxB s l) = true := stB_wide ..
  have h3 : (nxB s l).length = l.length := stB_len ..
  unfold sigB
  rw [decide_eq_true (by omega), h2]; rfl
theorem iIir_ev (s : S109) (l : List Int) (h : sigB l = true) : ∃ p, Ev (fun k => impl_iir.f k s.f0 s.f1 s.f2 s.f3 s.f4 0 0 0 0 0 l) (nxB s l, p) := by
  obtain ⟨p, hp⟩ := iIir_l0 s.f0 s.f1 s.f2 s.f3 s.f4 l (sigB_len h) l.length 0 [] 0 0 0 0 0 (by omega) rfl
  exact ⟨p, hp⟩
theorem sIir_ev (s : S109) (l : List Int) (h : sigB l = true) (hs : secB s = true) : ∃ p0 p1 p2 p3 p4, Ev (fun k => spec_Iir.f k s.f0 s.f1 s.f2 s.f3 s.f4 0 0 0 0 0 l) (nxB s l, p0, p1, p2, p3, p4, true) := by
  obtain ⟨p0, p1, p2, p3, p4, hp⟩ := sIir_l0 s.f0 s.f1 s.f2 s.f3 s.f4 l (sigB_len h) l.length 0 [] 0 0 0 0 0 (by omega) rfl
  refine ⟨p0, p1, p2, p3, p4, ?_⟩
  have hl := sigB_len h
  have h1 := l10Iir_ev s l (by omega)
  rw [hs, h] at h1
  unfold spec_Iir.f
  refine Ev.bind0 rfl (Ev.bind h1 ?_)
  exact Ev.pos rfl hp
theorem sIir_bad (s : S109) (l : List Int) (h : sigB l = true) (hs : secB s = false) : Ev (fun k => spec_Iir.f k s.f0 s.f1 s.f2 s.f3 s.f4 0 0 0 0 0 l) ([], 0, 0, 0, 0, 0, false) := by
  have hl := sigB_len h
  have h1 := l10Iir_ev s l (by omega)
  rw [hs, Bool.false_and] at h1
  unfold spec_Iir.f
  refine Ev.bind0 rfl (Ev.bind h1 ?_)
  exact Ev.neg (by decide) (Ev.now _)
/-- A signal through sections. -/
def thruB : List S109 → List Int → List Int
  | [], l => l
  | s :: r, l => thruB r (nxB s l)
theorem thruB_sig : ∀ (x : List S109) (l : List Int), sigB l = true → sigB (thruB x l) = true
  | [], _, h => h
  | s :: r, l, h => thruB_sig r (nxB s l) (nxB_sig h)
theorem iChain_l1 (x : List S109) (hx : x.length ≤ 64) : ∀ (d i : Nat) (l : List Int), i + d = x.length → sigB l = true → Ev (fun k => impl_Chain.l1 k l x (x.length : Int) (i : Int)) (thruB (x.drop i) l, true) := by
  intro d
  induction d with
  | zero =>
    intro i l hd hs
    refine Ev.fin (fun k => ?_)
    rw [impl_Chain.l1, if_neg (by omega), List.drop_of_length_le (by omega), thruB]
  | succ d ih =>
    intro i l hd hs
    obtain ⟨p, hp⟩ := iIir_ev (rd_T109 x (i : Int)) l hs
    rw [dropSc_rd (i := i) (by omega), thruB]
    refine Ev.step (fun k => by rw [impl_Chain.l1, if_pos (by omega), if_pos (by omega), if_pos (by omega), wsucc (by omega)]) (Ev.bind hp ?_)
    exact ih (i + 1) (nxB (rd_T109 x (i : Int)) l) (by omega) (nxB_sig hs)
theorem iChain_l0 (x : List S109) (hx : x.length ≤ 64) (l : List Int) (hs : sigB l = true) : ∀ (d i : Nat), i + d = x.length → Ev (fun k => impl_Chain.l0 k x l x (x.length : Int) (i : Int)) (if (x.drop i).all secB = true then (thruB x l, true) else ([], false)) := by
  intro d
  induction d with
  | zero =>
    intro i hd
    have h1 := iChain_l1 x hx x.length 0 l (by omega) hs
    rw [List.drop_of_length_le (i := i) (by omega), if_pos (show ([] : List S109).all secB = true from rfl)]
    rw [List.drop_zero] at h1
    exact Ev.step (fun k => by rw [impl_Chain.l0, if_neg (by omega)]; rfl) h1
  | succ d ih =>
    intro i hd
    rw [dropSc_rd (i := i) (by omega), List.all_cons]
    refine Ev.step (fun k => by rw [impl_Chain.l0, if_pos (by omega), if_pos (by omega), if_pos (by omega), wsucc (by omega)]) (Ev.bind (secOk_ev _) ?_)
    cases secB (rd_T109 x (i : Int)) with
    | false => exact Ev.neg (by decide) (Ev.now _)
    | true =>
      rw [Bool.true_and]
      exact Ev.pos rfl (ih (i + 1) (by omega))
theorem sChain_l0 (x : List S109) (hx : x.length ≤ 64) : ∀ (d i : Nat) (l : List Int), i + d = x.length → sigB l = true → Ev (fun k => spec_Chain.l0 k x l (i : Int)) (if (x.drop i).all secB = true then (thruB (x.drop i) l, true) else ([], false)) := by
  intro d
  induction d with
  | zero =>
    intro i l hd hs
    rw [List.drop_of_length_le (i := i) (by omega), if_pos (show ([] : List S109).all secB = true from rfl)]
    exact Ev.fin (fun k => by rw [spec_Chain.l0, if_neg (by omega), thruB])
  | succ d ih =>
    intro i l hd hs
    rw [dropSc_rd (i := i) (by omega), List.all_cons]
    refine Ev.step (fun k => by rw [spec_Chain.l0, if_pos (by omega), if_pos (by omega), wsucc (by omega)]) ?_
    cases hc : secB (rd_T109 x (i : Int)) with
    | false =>
      exact Ev.bind (sIir_bad _ l hs hc) (Ev.neg (by decide) (Ev.now _))
    | true =>
      obtain ⟨p0, p1, p2, p3, p4, hp⟩ := sIir_ev (rd_T109 x (i : Int)) l hs hc
      rw [Bool.true_and, thruB]
      exact Ev.bind hp (Ev.pos rfl (ih (i + 1) _ (by omega) (nxB_sig hs)))
def chainM (x : List S109) (l : List Int) : List Int × Bool := if x.length ≤ 64 ∧ sigB l = true then (if x.all secB = true then (thruB x l, true) else ([], false)) else ([], false)
theorem sig_signal {l : List Int} (h : sigB l = true) : signalB l = true := by
  unfold sigB at h
  rw [Bool.and_eq_true] at h
  unfold signalB
  rw [h.1, Bool.true_and]
  unfold wideB at *
  rw [List.all_eq_true] at *
  intro x hx
  have := of_decide_eq_true (h.2 x hx)
  exact decide_eq_true ⟨by omega, by omega⟩
theorem iChain_ev (x : List S109) (l : List Int) (hl : l.length ≤ 1048576) : Ev (fun k => impl_Chain.f k x l) (chainM x l) := by
  unfold impl_Chain.f chainM
  have bad : Ev (fun k => impl_Chain.j0 k x l true) (([] : List Int), false) := Ev.fin (fun k => by rw [impl_Chain.j0, if_pos rfl])
  by_cases h : (x.length : Int) > 64
  · rw [if_neg (fun e => by omega)]
    exact Ev.pos h bad
  refine Ev.neg h (Ev.bind (iSignalOk_ev l hl) ?_)
  by_cases hs : sigB l = true
  · rw [sig_signal hs, if_pos ⟨by omega, hs⟩]
    have hw : wideB 1000000 l = true := by unfold sigB at hs; rw [Bool.and_eq_true] at hs; exact hs.2
    refine Ev.pos rfl (Ev.bind (within_ev l 1000000 (by omega) hl) ?_)
    rw [hw]
    refine Ev.step (fun k => by rw [impl_Chain.j0, if_neg (by decide), cloneI_eq l hl, Option.bind_some]) ?_
    exact iChain_l0 x (by omega) l hs x.length 0 (by omega)
  · rw [if_neg (fun e => hs e.2)]
    by_cases hg : signalB l = true
    · refine Ev.pos hg (Ev.bind (within_ev l 1000000 (by omega) hl) ?_)
      have hw : wideB 1000000 l = false := by
        cases hw : wideB 1000000 l with
        | false => rfl
        | true =>
          exfalso; apply hs
          unfold sigB
          rw [hw, decide_eq_true (signalB_len hg)]; rfl
      rw [hw]
      exact bad
    · exact Ev.neg hg bad
theorem sChain_ev (x : List S109) (l : List Int) (hl : l.length ≤ 1048576) : Ev (fun k => spec_Chain.f k x l) (chainM x l) := by
  unfold spec_Chain.f chainM
  have bad : Ev (fun k => spec_Chain.j0 k x l true) (([] : List Int), false) := Ev.fin (fun k => by rw [spec_Chain.j0, if_pos rfl])
  by_cases h : (x.length : Int) > 64
  · rw [if_neg (fun e => by omega)]
    exact Ev.pos h bad
  have h1 := l10Iir_ev ⟨0, 0, 0, 0, 0⟩ l hl
  rw [show secB ⟨0, 0, 0, 0, 0⟩ = true from rfl, Bool.true_and] at h1
  refine Ev.neg h (Ev.bind h1 ?_)
  by_cases hs : sigB l = true
  · rw [if_pos ⟨by omega, hs⟩, hs]
    refine Ev.step (fun k => by rw [spec_Chain.j0, if_neg (by decide), Option.bind_some, if_pos (by rw [List.length_nil]; omega)]) ?_
    exact sChain_l0 x (by omega) x.length 0 l (by omega) hs
  · rw [if_neg (fun e => hs e.2), Bool.eq_false_iff.mpr hs]
    exact bad
theorem chainM_len (x : List S109) (l : List Int) : (chainM x l).1.length ≤ 17592186044416 := by
  unfold chainM
  split
  · next h =>
    split
    · have := sigB_len (thruB_sig x l h.2)
      show (thruB x l).length ≤ _
      omega
    · simp
  · simp
theorem Chain_both (x : List S109) (l : List Int) (hl : l.length ≤ 1048576) : ∃ r ok, Ev (fun k => spec_Chain.f k x l) (r, ok) ∧ Ev (fun k => impl_Chain.f k x l) (r, ok) ∧ r.length ≤ 17592186044416 :=
  ⟨(chainM x l).1, (chainM x l).2, sChain_ev x l hl, iChain_ev x l hl, chainM_len x l⟩
theorem toSectionS_l0 (l : List S115) (hl : l.length ≤ 1048576) : ∀ (d i : Nat) (x : List S109), i + d = l.length → x.length = l.length → x.take i = (l.map cvSc).take i →
    Ev (fun k => laws_toSectionS.l0 k l x (i : Int)) (l.map cvSc) := by
  intro d
  induction d with
  | zero =>
    intro i x hd hx ht
    refine Ev.fin (fun k => ?_)
    rw [laws_toSectionS.l0, if_neg (by omega)]
    rw [List.take_of_length_le (by omega), List.take_of_length_le (by rw [List.length_map]; omega)] at ht
    rw [ht]
  | succ d ih =>
    intro i x hd hx ht
    have hi : i < l.length := by omega
    refine Ev.step (fun k => ?_) (ih (i + 1) (x.set i (cvSc (rd_T115 l (i : Int)))) (by omega) (by simpa using hx) ?_)
    · rw [laws_toSectionS.l0, if_pos (by omega), if_pos (by omega), laws_toSection.f, Option.bind_some, if_pos (by omega), wsucc (by omega), Int.toNat_natCast]
      rfl
    · rw [takeSc_rd (by simp; omega), takeSc_rd (by simp; omega), List.take_set_of_le (by omega), ht, rdSc_lt (by simp; omega), List.getElem_set_self, rdSc_lt (by simp; omega), List.getElem_map, rdSd_lt hi]
theorem toSectionS_ev (l : List S115) (hl : l.length ≤ 1048576) : Ev (fun k => laws_toSectionS.f k l) (l.map cvSc) := by
  unfold laws_toSectionS.f
  refine Ev.pos (by omega) (Ev.pos (by omega) ?_)
  exact toSectionS_l0 l hl l.length 0 _ (by omega) (by simp) (by simp)
theorem eqSectionS_l0 (l : List S109) (hl : l.length ≤ 17592186044416) : ∀ (d i : Nat), i + d = l.length → Ev (fun k => laws_eqSectionS.l0 k l l (i : Int)) true := by
  have e : ∀ a b c d e, laws_eqSection.f a b c d e a b c d e = some true := by
    intro a b c d e; unfold laws_eqSection.f; rw [if_pos rfl, if_pos rfl, if_pos rfl, if_pos rfl, if_pos rfl]
  intro d
  induction d with
  | zero =>
    intro i hd
    refine Ev.fin (fun k => ?_)
    rw [laws_eqSectionS.l0, if_neg (by omega)]
  | succ d ih =>
    intro i hd
    refine Ev.step (fun k => ?_) (ih (i + 1) (by omega))
    rw [laws_eqSectionS.l0, if_pos (by omega), if_pos (by omega), if_pos (by omega), e, Option.bind_some, if_pos rfl, wsucc (by omega)]
theorem eqSectionS_ev (l : List S109) (hl : l.length ≤ 17592186044416) : Ev (fun k => laws_eqSectionS.f k l l) true := by
  unfold laws_eqSectionS.f
  exact Ev.pos rfl (eqSectionS_l0 l hl l.length 0 (by omega))
theorem markSectionS_l0 (n : Nat) (s : Int) (hs : 0 ≤ s ∧ s ≤ 100000000000000) (hn : n ≤ 1048576) : ∀ (d i : Nat) (x : List S109), i + d = n → x.length = n →
    ∃ y, Ev (fun k => laws_markSectionS.l0 k x (s + 5 * (i : Int)) (i : Int)) (s + 5 * (n : Int), y) := by
  intro d
  induction d with
  | zero =>
    intro i x hd hx
    obtain rfl : i = n := by omega
    exact ⟨x, Ev.fin (fun k => by rw [laws_markSectionS.l0, if_neg (by omega)])⟩
  | succ d ih =>
    intro i x hd hx
    have e1 : wrap64 (s + 5 * (i : Int) + 1) = s + 5 * (i : Int) + 1 := w64 (by omega) (by omega)
    have e2 : wrap64 (s + 5 * (i : Int) + 1 + 1) = s + 5 * (i : Int) + 2 := by rw [w64 (by omega) (by omega)]; omega
    have e3 : wrap64 (s + 5 * (i : Int) + 2 + 1) = s + 5 * (i : Int) + 3 := by rw [w64 (by omega) (by omega)]; omega
    have e4 : wrap64 (s + 5 * (i : Int) + 3 + 1) = s + 5 * (i : Int) + 4 := by rw [w64 (by omega) (by omega)]; omega
    have e5 : wrap64 (s + 5 * (i : Int) + 4 + 1) = s + 5 * ((i + 1 : Nat) : Int) := by rw [w64 (by omega) (by omega)]; omega
    have h0 : ∀ k, ∃ x', x'.length = n ∧ laws_markSectionS.l0 (k + 1) x (s + 5 * (i : Int)) (i : Int) = laws_markSectionS.l0 k x' (s + 5 * ((i + 1 : Nat) : Int)) ((i + 1 : Nat) : Int) := by
      intro k
      rw [laws_markSectionS.l0, if_pos (by omega), if_pos (by omega), Option.bind_some, Option.bind_some, Option.bind_some, Option.bind_some, wsucc (by omega), e1, e2, e3, e4, e5]
      exact ⟨_, by simp only [List.length_set]; exact hx, rfl⟩
    obtain ⟨x', hx', -⟩ := h0 0
    have h1 : ∃ x', x'.length = n ∧ ∀ k, laws_markSectionS.l0 (k + 1) x (s + 5 * (i : Int)) (i : Int) = laws_markSectionS.l0 k x' (s + 5 * ((i + 1 : Nat) : Int)) ((i + 1 : Nat) : Int) := by
      refine ⟨_, ?_, fun k => by
        rw [laws_markSectionS.l0, if_pos (by omega), if_pos (by omega), Option.bind_some, Option.bind_some, Option.bind_some, Option.bind_some, wsucc (by omega), e1, e2, e3, e4, e5]⟩
      simp only [List.length_set]; exact hx
    obtain ⟨x', hx', h2⟩ := h1
    obtain ⟨y, hy⟩ := ih (i + 1) x' (by omega) hx'
    exact ⟨y, Ev.step h2 hy⟩
theorem markSectionS_ev (x : List S109) (s : Int) (hs : 0 ≤ s ∧ s ≤ 100000000000000) (hl : x.length ≤ 1048576) : ∃ y, Ev (fun k => laws_markSectionS.f k x s) (s + 5 * (x.length : Int), y) := by
  unfold laws_markSectionS.f
  obtain ⟨y, h⟩ := markSectionS_l0 x.length s hs hl x.length 0 x (by omega) rfl
  exact ⟨y, Ev.congr (fun k => by rw [Int.natCast_zero, Int.mul_zero, Int.add_zero]) h⟩
theorem toIntS_l0 (l : List Int) (hl : l.length ≤ 17592186044416) : ∀ (d i : Nat) (x : List Int), i + d = l.length → x.length = l.length → x.take i = l.take i →
    Ev (fun k => laws_toIntS.l0 k l x (i : Int)) l := by
  intro d
  induction d with
  | zero =>
    intro i x hd hx ht
    refine Ev.fin (fun k => ?_)
    rw [laws_toIntS.l0, if_neg (by omega)]
    rw [List.take_of_length_le (by omega), List.take_of_length_le (by omega)] at ht
    rw [ht]
  | succ d ih =>
    intro i x hd hx ht
    refine Ev.step (fun k => ?_) (ih (i + 1) (x.set i (rd l (i : Int))) (by omega) (by simpa using hx) ?_)
    · rw [laws_toIntS.l0, if_pos (by omega), if_pos (by omega), if_pos (by omega), wsucc (by omega), Int.toNat_natCast]
    · rw [take_rd (by simp; omega), take_rd (by omega), List.take_set_of_le (by omega), ht, rd_lt (by simp; omega), List.getElem_set_self]
theorem toIntS_ev (l : List Int) (hl : l.length ≤ 17592186044416) : Ev (fun k => laws_toIntS.f k l) l := by
  unfold laws_toIntS.f
  refine Ev.pos (by omega) (Ev.pos (by omega) ?_)
  exact toIntS_l0 l hl l.length 0 _ (by omega) (by simp) (by simp)
theorem eqIntS_l0 (l : List Int) (hl : l.length ≤ 17592186044416) : ∀ (d i : Nat), i + d = l.length → Ev (fun k => laws_eqIntS.l0 k l l (i : Int)) true := by
  intro d
  induction d with
  | zero =>
    intro i hd
    refine Ev.fin (fun k => ?_)
    rw [laws_eqIntS.l0, if_neg (by omega)]
  | succ d ih =>
    intro i hd
    refine Ev.step (fun k => ?_) (ih (i + 1) (by omega))
    rw [laws_eqIntS.l0, if_pos (by omega), if_pos (by omega), if_pos (by omega), if_pos rfl, wsucc (by omega)]
theorem eqIntS_ev (l : List Int) (hl : l.length ≤ 17592186044416) : Ev (fun k => laws_eqIntS.f k l l) true := by
  unfold laws_eqIntS.f
  exact Ev.pos rfl (eqIntS_l0 l hl l.length 0 (by omega))
theorem markIntS_l0 (n : Nat) (s : Int) (hs : 0 ≤ s ∧ s ≤ 100000000000000) (hn : n ≤ 17592186044416) : ∀ (d i : Nat) (x : List Int), i + d = n → x.length = n → x.take i = mkL s i →
    Ev (fun k => laws_markIntS.l0 k x (s + (i : Int)) (i : Int)) (s + (n : Int), mkL s n) := by
  intro d
  induction d with
  | zero =>
    intro i x hd hx ht
    refine Ev.fin (fun k => ?_)
    rw [laws_markIntS.l0, if_neg (by omega)]
    obtain rfl : i = n := by omega
    rw [List.take_of_length_le (by omega)] at ht
    rw [ht]
  | succ d ih =>
    intro i x hd hx ht
    refine Ev.step (fun k => ?_) (ih (i + 1) (x.set i (s + (i : Int))) (by omega) (by simpa using hx) ?_)
    · have e : wrap64 (s + (i : Int) + 1) = s + ((i + 1 : Nat) : Int) := by rw [w64 (by omega) (by omega)]; omega
      rw [laws_markIntS.l0, if_pos (by omega), if_pos (by omega), wsucc (by omega), e, Int.toNat_natCast]
    · rw [take_rd (by simp; omega), List.take_set_of_le (by omega), ht, rd_lt (by simp; omega), List.getElem_set_self]
      rfl
theorem markIntS_ev (x : List Int) (s : Int) (hs : 0 ≤ s ∧ s ≤ 100000000000000) (hl : x.length ≤ 17592186044416) : Ev (fun k => laws_markIntS.f k x s) (s + (x.length : Int), mkL s x.length) := by
  unfold laws_markIntS.f
  exact Ev.cast (Ev.congr (fun k => by rw [Int.natCast_zero, Int.add_zero]) (markIntS_l0 x.length s hs hl x.length 0 x (by omega) rfl (by simp [mkL]))) rfl
theorem heldIntS_l0 (n : Nat) (s : Int) (hs : 0 ≤ s ∧ s ≤ 100000000000000) (hn : n ≤ 17592186044416) : ∀ (d i : Nat), i + d = n → Ev (fun k => laws_heldIntS.l0 k (mkL s n) (s + (i : Int)) (i : Int)) (s + (n : Int)) := by
  intro d
  induction d with
  | zero =>
    intro i hd
    refine Ev.fin (fun k => ?_)
    rw [laws_heldIntS.l0, mkL_length, if_neg (by omega)]
    congr 1; omega
  | succ d ih =>
    intro i hd
    refine Ev.step (fun k => ?_) (ih (i + 1) (by omega))
    have e : wrap64 (s + (i : Int) + 1) = s + ((i + 1 : Nat) : Int) := by rw [w64 (by omega) (by omega)]; omega
    rw [laws_heldIntS.l0, mkL_length, if_pos (by omega), if_pos (by omega), if_pos (rd_mkL s (by omega)), wsucc (by omega), e]
theorem heldIntS_ev (n : Nat) (s : Int) (hs : 0 ≤ s ∧ s ≤ 100000000000000) (hl : n ≤ 17592186044416) : Ev (fun k => laws_heldIntS.f k (mkL s n) s) (s + (n : Int)) := by
  unfold laws_heldIntS.f
  exact Ev.congr (fun k => by rw [Int.natCast_zero, Int.add_zero]) (heldIntS_l0 n s hs hl n 0 (by omega))

theorem FnExactChain : laws_FnExactChain.Pure := by
  intro x l hx
  refine Ev.rounds ?_
  unfold laws_FnExactChain.f
  by_cases gl : (l.length : Int) > 1048576
  · exact Ev.pos gl (Ev.now true)
  refine Ev.neg gl ?_
  have hl : l.length ≤ 1048576 := by omega
  have hl4 : l.length ≤ 17592186044416 := by omega
  have ez : laws_szSectionS.f x 1048576 = some (if (1048576 : Int) - (x.length : Int) < 0 then -1 else 1048576 - (x.length : Int)) := by
    unfold laws_szSectionS.f
    rw [w64 (by unfold maxLen at hx; omega) (by omega)]
    split <;> rfl
  refine Ev.bind0 ez ?_
  by_cases gx : (1048576 : Int) - (x.length : Int) < 0
  · rw [if_pos gx]
    exact Ev.pos (by decide) (Ev.now true)
  rw [if_neg gx]
  refine Ev.neg gx ?_
  have hx1 : x.length ≤ 1048576 := by omega
  have hm : (x.map cvSc).length = x.length := List.length_map _
  have hm4 : (x.map cvSc).length ≤ 17592186044416 := by omega
  obtain ⟨r, ok, hS, hI, hr⟩ := Chain_both (x.map cvSc) l hl
  have m0 : 0 ≤ (1 : Int) ∧ (1 : Int) ≤ 100000000000000 := by omega
  obtain ⟨y, hy⟩ := markSectionS_ev (x.map cvSc) 1 m0 (by omega)
  have ml : 0 ≤ (1 + 5 * ((x.map cvSc).length : Int)) ∧ (1 + 5 * ((x.map cvSc).length : Int)) ≤ 100000000000000 := by omega
  have m1 : 0 ≤ (1 : Int) ∧ (1 : Int) ≤ 100000000000000 := by omega
  repeat (first
    | exact Ev.now true
    | with_reducible refine Ev.bind (toSectionS_ev x hx1) ?_
    | with_reducible refine Ev.bind (toIntS_ev l hl4) ?_
    | with_reducible refine Ev.bind hS ?_
    | with_reducible refine Ev.bind hI ?_
    | with_reducible refine Ev.bind (eqSectionS_ev (x.map cvSc) hm4) ?_
    | with_reducible refine Ev.bind (eqIntS_ev l hl4) ?_
    | with_reducible refine Ev.bind (eqIntS_ev r hr) ?_
    | with_reducible refine Ev.bind hy ?_
    | with_reducible refine Ev.bind (markIntS_ev l (1 + 5 * ((x.map cvSc).length : Int)) ml hl4) ?_
    | with_reducible refine Ev.bind (markIntS_ev r 1 m1 hr) ?_
    | with_reducible refine Ev.bind (heldIntS_ev r.length 1 m1 hr) ?_
    | refine Ev.pos rfl ?_
    | (refine Ev.neg ?_ ?_; (· first | (simp; done) | omega))
    | refine Ev.step (fun k => by rw [laws_FnExactChain.j0]) ?_
    | refine Ev.step (fun k => by rw [laws_FnExactChain.j1]) ?_
    | refine Ev.step (fun k => by rw [laws_FnExactChain.j2]) ?_)

end Go.Proofs.Ytnpoimjdkjhcpaa.Pure
