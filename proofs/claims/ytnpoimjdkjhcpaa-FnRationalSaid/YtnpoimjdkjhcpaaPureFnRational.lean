/- A drawn signal at a whole ratio of rates is made denser, filtered and thinned (where the denser one is a signal); no condition. -/
import Derived.Test.YtnpoimjdkjhcpaaQFnRationalx6
import Derived.Test.YtnpoimjdkjhcpaaCom
set_option linter.unusedVariables false
set_option linter.unusedSimpArgs false
namespace Go.Proofs.Ytnpoimjdkjhcpaa.Pure
open Go.RowKit Go.Proofs.Ytnpoimjdkjhcpaa.PFnRational Go.Proofs.YtnpoimjdkjhcpaaW.PrintWords Go.Proofs.YtnpoimjdkjhcpaaW.PrintLast Go.Proofs.Ytnpoimjdkjhcpaa.Com

theorem big_eq (l : List Int) : laws_big.f l = some (decide ((l.length : Int) > 1048576)) := rfl

theorem l1New_l0 (l : List Int) (hl : l.length ≤ 1048576) : ∀ (d i : Nat) (h : Int), i + d = l.length → ∃ h', Ev (fun k => spec_l1New.l0 k l h (i : Int)) (l, 0, h') := by
  intro d
  induction d with
  | zero =>
    intro i h hd
    exact ⟨h, Ev.fin (fun k => by rw [spec_l1New.l0, if_neg (by omega)])⟩
  | succ d ih =>
    intro i h hd
    by_cases h4 : i < 4000
    · obtain ⟨h', e⟩ := ih (i + 1) _ (by omega)
      exact ⟨h', Ev.step (fun k => by rw [spec_l1New.l0, if_pos (by omega), if_pos (by omega), if_pos (by omega), wsucc (by omega)]) e⟩
    · exact ⟨h, Ev.fin (fun k => by rw [spec_l1New.l0, if_pos (by omega), if_neg (by omega)])⟩
theorem l1New_ex (l : List Int) (hl : l.length ≤ 1048576) (hw : Bytes l) : ∃ h, CurOk l 0 ∧ Ev (fun k => spec_l1New.f k l) (l, 0, h) := by
  obtain ⟨h, e⟩ := l1New_l0 l hl l.length 0 (wrap64 (71933 + (l.length : Int))) (by omega)
  exact ⟨h, ⟨by omega, by omega, hl, hw⟩, e⟩

theorem l1Size_ex (l : List Int) (hl : l.length ≤ 1048576) (m : Int) (hm : 2 ≤ m) : ∃ t : Nat, 2 ≤ t ∧ (t : Int) ≤ m ∧ spec_l1Size.f l m = some (t : Int) := by
  unfold spec_l1Size.f
  rw [w64 (n := (l.length : Int) / 20) (by omega) (by omega), w64 (by omega) (by omega)]
  by_cases h : 2 + (l.length : Int) / 20 > m
  · exact ⟨m.toNat, by omega, by omega, by rw [if_pos h, Int.toNat_of_nonneg (by omega)]⟩
  · exact ⟨2 + l.length / 20, by omega, by omega, by rw [if_neg h]; congr 1⟩

theorem l1Byte_ex (s : List Int) (i h : Int) (hc : CurOk s i) : ∃ (x : Nat) (i' h' : Int), x < 256 ∧ CurOk s i' ∧ spec_l1Byte.f s i h = some ((x : Int), i', h') := by
  obtain ⟨h0, h1, h2, h3⟩ := hc
  unfold spec_l1Byte.f
  simp only [and64_255]
  by_cases hi : i < (s.length : Int)
  · rw [if_pos hi, if_pos h0]
    refine ⟨(wrap64 (bits .xor .i64 (wrap64 (wrap64 (h * 6364136223846793005) + 1442695040888963407) / 8589934592) (wrap64 (wrap64 (h * 6364136223846793005) + 1442695040888963407) / 35184372088832) % 256 + wrap64 (rd s i)) % 256).toNat, wrap64 (i + 1), wrap64 (wrap64 (h * 6364136223846793005) + 1442695040888963407), by omega, ⟨?_, ?_, h2, h3⟩, ?_⟩
    · rw [w64 (by omega) (by omega)]; omega
    · rw [w64 (by omega) (by omega)]; omega
    · rw [Int.toNat_of_nonneg (by omega)]
  · rw [if_neg hi]
    refine ⟨(bits .xor .i64 (wrap64 (wrap64 (h * 6364136223846793005) + 1442695040888963407) / 8589934592) (wrap64 (wrap64 (h * 6364136223846793005) + 1442695040888963407) / 35184372088832) % 256).toNat, i, wrap64 (wrap64 (h * 6364136223846793005) + 1442695040888963407), by omega, ⟨h0, h1, h2, h3⟩, ?_⟩
    rw [Int.toNat_of_nonneg (by omega)]

theorem l1Below_ex (s : List Int) (i h n : Int) (hc : CurOk s i) : ∃ (x : Nat) (i' h' : Int), ((x : Int) < n ∨ n ≤ 0 ∧ x = 0) ∧ CurOk s i' ∧ spec_l1Below.f s i h n = some ((x : Int), i', h') := by
  unfold spec_l1Below.f
  by_cases hn : n ≤ 0
  · exact ⟨0, i, h, .inr ⟨hn, rfl⟩, hc, by rw [if_pos hn]; rfl⟩
  rw [if_neg hn]
  obtain ⟨x, i1, h1, hx, c1, e1⟩ := l1Byte_ex s i h hc
  by_cases hn2 : n ≤ 256
  · rw [if_pos hn2, e1, Option.bind_some, if_neg (by omega)]
    have := Int.emod_lt_of_pos (x : Int) (show 0 < n by omega)
    have := Int.emod_nonneg (x : Int) (show n ≠ 0 by omega)
    refine ⟨((x : Int) % n).toNat, i1, h1, .inl (by omega), c1, ?_⟩
    rw [Int.tmod_eq_emod_of_nonneg (by omega), Int.toNat_of_nonneg (by omega)]
  · rw [if_neg hn2]
    obtain ⟨y, i2, h2, hy, c2, e2⟩ := l1Byte_ex s i1 h1 c1
    obtain ⟨z, i3, h3, hz, c3, e3⟩ := l1Byte_ex s i2 h2 c2
    obtain ⟨w, i4, h4, hw, c4, e4⟩ := l1Byte_ex s i3 h3 c3
    simp only [e1, e2, e3, e4, Option.bind_some]
    rw [if_neg (by omega), w64 (n := (x : Int) * 16777216) (by omega) (by omega), w64 (n := (y : Int) * 65536) (by omega) (by omega), w64 (n := (z : Int) * 256) (by omega) (by omega)]
    rw [w64 (n := (x : Int) * 16777216 + (y : Int) * 65536) (by omega) (by omega), w64 (n := (x : Int) * 16777216 + (y : Int) * 65536 + (z : Int) * 256) (by omega) (by omega), w64 (by omega) (by omega)]
    generalize hv : (x : Int) * 16777216 + (y : Int) * 65536 + (z : Int) * 256 + (w : Int) = v
    have hv0 : 0 ≤ v := by omega
    have := Int.emod_lt_of_pos v (show 0 < n by omega)
    have := Int.emod_nonneg v (show n ≠ 0 by omega)
    refine ⟨(v % n).toNat, i4, h4, .inl (by omega), c4, ?_⟩
    rw [Int.tmod_eq_emod_of_nonneg hv0, Int.toNat_of_nonneg (by omega)]

theorem l1Once_ex (s : List Int) (i h n : Int) (hc : CurOk s i) : ∃ (b : Bool) (i' h' : Int), CurOk s i' ∧ spec_l1Once.f s i h n = some (b, i', h') := by
  obtain ⟨x, i1, h1, _, c1, e1⟩ := l1Below_ex s i h n hc
  refine ⟨((x : Int) == 0), i1, h1, c1, ?_⟩
  unfold spec_l1Once.f
  rw [e1, Option.bind_some]

theorem l1PickInt_ex (s : List Int) (i h : Int) (l : List Int) (hl : l.length ≠ 0) (hc : CurOk s i) : ∃ (x : Int) (i' h' : Int), x ∈ l ∧ CurOk s i' ∧ spec_l1PickInt.f s i h l = some (x, i', h') := by
  obtain ⟨x, i1, h1, hx, c1, e1⟩ := l1Below_ex s i h (l.length : Int) hc
  have hlt : x < l.length := by omega
  refine ⟨rd l (x : Int), i1, h1, rd_mem hlt, c1, ?_⟩
  unfold spec_l1PickInt.f
  rw [e1, Option.bind_some, if_pos (by omega), if_pos (by omega)]

theorem l7Small_l0 (s : List Int) : ∀ (n : Nat) (acc : List Int) (i h : Int), acc.length + n ≤ 1000000 → CurOk s i → ∃ r i' h', r.length ≤ acc.length + n + 1 ∧ CurOk s i' ∧ Ev (fun k => spec_l7DrawSmall.l0 k acc (n : Int) s i h) (r, i', h') := by
  intro n
  induction n with
  | zero =>
    intro acc i h ha hc
    obtain ⟨b, i1, h1, c1, e1⟩ := l1Once_ex s i h 30 hc
    cases b with
    | true =>
      obtain ⟨x, i2, h2, hx, c2, e2⟩ := l1PickInt_ex s i1 h1 [1000001, (-1000001), 1000000001] (by decide) c1
      exact ⟨acc ++ [x], i2, h2, by rw [List.length_append, List.length_singleton]; omega, c2, Ev.fin (fun k => by rw [spec_l7DrawSmall.l0, if_neg (by omega), e1, Option.bind_some, if_pos rfl, e2, Option.bind_some, if_pos (by omega)])⟩
    | false =>
      exact ⟨acc, i1, h1, by omega, c1, Ev.fin (fun k => by rw [spec_l7DrawSmall.l0, if_neg (by omega), e1, Option.bind_some, if_neg (by simp)])⟩
  | succ n ih =>
    intro acc i h ha hc
    have en : wrap64 (((n + 1 : Nat) : Int) - 1) = (n : Int) := by rw [w64 (by omega) (by omega)]; omega
    obtain ⟨y, i1, h1, hy, c1, e1⟩ := l1Below_ex s i h 2001 hc
    obtain ⟨b, i2, h2, c2, e2⟩ := l1Once_ex s i1 h1 40 c1
    have hlen : (acc ++ [wrap64 ((y : Int) - 1000)]).length = acc.length + 1 := by rw [List.length_append]; rfl
    have el : wrap64 (((acc ++ [wrap64 ((y : Int) - 1000)]).length : Int) - 1) = (acc.length : Int) := by rw [hlen, w64 (by omega) (by omega)]; omega
    cases b with
    | true =>
      obtain ⟨x, i3, h3, hx, c3, e3⟩ := l1PickInt_ex s i2 h2 [1000000, (-1000000)] (by decide) c2
      obtain ⟨r, i4, h4, p1, p2, p3⟩ := ih ((acc ++ [wrap64 ((y : Int) - 1000)]).set acc.length x) i3 h3 (by rw [List.length_set, hlen]; omega) c3
      rw [List.length_set, hlen] at p1
      refine ⟨r, i4, h4, by omega, p2, Ev.step (fun k => ?_) p3⟩
      rw [spec_l7DrawSmall.l0, if_pos (by omega), e1, Option.bind_some, if_pos (by omega), Option.bind_some, e2, Option.bind_some, if_pos rfl, e3, Option.bind_some, el, if_pos (by omega), if_pos (by rw [hlen]; omega), Int.toNat_natCast, en]
    | false =>
      obtain ⟨r, i4, h4, p1, p2, p3⟩ := ih (acc ++ [wrap64 ((y : Int) - 1000)]) i2 h2 (by rw [hlen]; omega) c2
      rw [hlen] at p1
      refine ⟨r, i4, h4, by omega, p2, Ev.step (fun k => ?_) p3⟩
      rw [spec_l7DrawSmall.l0, if_pos (by omega), e1, Option.bind_some, if_pos (by omega), Option.bind_some, e2, Option.bind_some, if_neg (by simp), en]
theorem l7Small_ex (s : List Int) (i h : Int) (m : Nat) (hm : m ≤ 100000) (hc : CurOk s i) : ∃ r i' h', r.length ≤ 100001 ∧ CurOk s i' ∧ Ev (fun k => spec_l7DrawSmall.f k s i h (m : Int)) (r, i', h') := by
  unfold spec_l7DrawSmall.f
  obtain ⟨x, i1, h1, hx, c1, e1⟩ := l1Below_ex s i h ((m + 1 : Nat) : Int) hc
  obtain ⟨r, i2, h2, p1, p2, e⟩ := l7Small_l0 s x [] i1 h1 (by rw [List.length_nil]; omega) c1
  rw [List.length_nil] at p1
  exact ⟨r, i2, h2, by omega, p2, Ev.bind0 (by rw [wsucc (by omega)]; exact e1) e⟩
theorem l7Small_few (s : List Int) (i h : Int) (m : Nat) (hm : m ≤ 50) (hc : CurOk s i) : ∃ r i' h', r.length ≤ m + 1 ∧ CurOk s i' ∧ Ev (fun k => spec_l7DrawSmall.f k s i h (m : Int)) (r, i', h') := by
  unfold spec_l7DrawSmall.f
  obtain ⟨x, i1, h1, hx, c1, e1⟩ := l1Below_ex s i h ((m + 1 : Nat) : Int) hc
  obtain ⟨r, i2, h2, p1, p2, e⟩ := l7Small_l0 s x [] i1 h1 (by rw [List.length_nil]; omega) c1
  rw [List.length_nil] at p1
  exact ⟨r, i2, h2, by omega, p2, Ev.bind0 (by rw [wsucc (by omega)]; exact e1) e⟩

theorem l10Taps_j1 (s : List Int) (acc : List Int) (ha : acc.length ≤ 1000) (i h : Int) (hc : CurOk s i) : ∃ r i' h', r.length ≤ 1000 ∧ CurOk s i' ∧ Ev (fun k => spec_l10DrawTaps.j1 k acc s i h) (r, i', h') := by
  obtain ⟨b, i1, h1, c1, e1⟩ := l1Once_ex s i h 60 hc
  cases b with
  | true =>
    obtain ⟨x, i2, h2, hx, c2, e2⟩ := l1Below_ex s i1 h1 2 c1
    have ew : wrap64 (64 + (x : Int)) = 64 + (x : Int) := w64 (by omega) (by omega)
    exact ⟨List.replicate (64 + (x : Int)).toNat 0, i2, h2, by rw [List.length_replicate]; omega, c2, Ev.fin (fun k => by rw [spec_l10DrawTaps.j1, e1, Option.bind_some, if_pos rfl, e2, Option.bind_some, ew, if_pos (by omega), if_pos (by omega)])⟩
  | false =>
    exact ⟨acc, i1, h1, ha, c1, Ev.fin (fun k => by rw [spec_l10DrawTaps.j1, e1, Option.bind_some, if_neg (by simp)])⟩
theorem l10Taps_l0 (s : List Int) : ∀ (n : Nat) (acc : List Int) (i h : Int), acc.length + n ≤ 1000 → 1 ≤ acc.length + n → CurOk s i → ∃ r i' h', r.length ≤ 1000 ∧ CurOk s i' ∧ Ev (fun k => spec_l10DrawTaps.l0 k acc (n : Int) s i h) (r, i', h') := by
  intro n
  induction n with
  | zero =>
    intro acc i h ha h0 hc
    obtain ⟨b, i1, h1, c1, e1⟩ := l1Once_ex s i h 20 hc
    cases b with
    | true =>
      obtain ⟨x, i2, h2, hx, c2, e2⟩ := l1PickInt_ex s i1 h1 [1000000, (-1000000), 1000001] (by decide) c1
      obtain ⟨r, i3, h3, p1, p2, p3⟩ := l10Taps_j1 s (acc.set (0 : Int).toNat x) (by rw [List.length_set]; omega) i2 h2 c2
      exact ⟨r, i3, h3, p1, p2, Ev.step (fun k => by rw [spec_l10DrawTaps.l0, if_neg (by omega), e1, Option.bind_some, if_pos rfl, e2, Option.bind_some, if_pos (by omega)]) p3⟩
    | false =>
      obtain ⟨r, i3, h3, p1, p2, p3⟩ := l10Taps_j1 s acc (by omega) i1 h1 c1
      exact ⟨r, i3, h3, p1, p2, Ev.step (fun k => by rw [spec_l10DrawTaps.l0, if_neg (by omega), e1, Option.bind_some, if_neg (by simp)]) p3⟩
  | succ n ih =>
    intro acc i h ha h0 hc
    have en : wrap64 (((n + 1 : Nat) : Int) - 1) = (n : Int) := by rw [w64 (by omega) (by omega)]; omega
    obtain ⟨y, i1, h1, hy, c1, e1⟩ := l1Below_ex s i h 41 hc
    obtain ⟨r, i2, h2, p1, p2, p3⟩ := ih (acc ++ [wrap64 ((y : Int) - 20)]) i1 h1 (by rw [List.length_append, List.length_singleton]; omega) (by rw [List.length_append, List.length_singleton]; omega) c1
    refine ⟨r, i2, h2, p1, p2, Ev.step (fun k => ?_) p3⟩
    rw [spec_l10DrawTaps.l0, if_pos (by omega), e1, Option.bind_some, if_pos (by omega), en]
theorem l10Taps_ex (s : List Int) (i h : Int) (hc : CurOk s i) : ∃ r i' h', r.length ≤ 1000 ∧ CurOk s i' ∧ Ev (fun k => spec_l10DrawTaps.f k s i h) (r, i', h') := by
  unfold spec_l10DrawTaps.f
  obtain ⟨x, i1, h1, hx, c1, e1⟩ := l1Below_ex s i h 7 hc
  obtain ⟨r, i2, h2, p1, p2, e⟩ := l10Taps_l0 s (1 + x) [] i1 h1 (by rw [List.length_nil]; omega) (by rw [List.length_nil]; omega) c1
  refine ⟨r, i2, h2, p1, p2, Ev.bind0 e1 ?_⟩
  rw [show wrap64 (1 + (x : Int)) = ((1 + x : Nat) : Int) by rw [w64 (by omega) (by omega)]; omega]
  exact e

theorem l1In_eq (a b c : Int) : spec_l1In.f a b c = some (decide (b ≤ a ∧ a ≤ c)) := by
  unfold spec_l1In.f
  by_cases h : b ≤ a
  · rw [if_pos h]; simp [h]
  · rw [if_neg h]; simp [h]

/-- All numbers are of at most a size. -/
def wideB (s : Int) (l : List Int) : Bool := l.all fun x => decide (-s ≤ x ∧ x ≤ s)
def signalB (l : List Int) : Bool := decide (l.length ≤ 512) && wideB 1000000000 l
theorem wideB_all {s : Int} {l : List Int} (h : wideB s l = true) : ∀ x ∈ l, -s ≤ x ∧ x ≤ s := by
  intro x hx
  have := List.all_eq_true.mp h x hx
  simpa using this
theorem signalB_len {l : List Int} (h : signalB l = true) : l.length ≤ 512 := by
  unfold signalB at h
  rw [Bool.and_eq_true] at h
  exact of_decide_eq_true h.1
theorem signalB_wide {l : List Int} (h : signalB l = true) : ∀ x ∈ l, -1000000000 ≤ x ∧ x ≤ 1000000000 := by
  unfold signalB at h
  rw [Bool.and_eq_true] at h
  exact wideB_all h.2

theorem sSignal_l0 (l : List Int) (hl : l.length ≤ 1048576) : ∀ (d i : Nat), i + d = l.length → Ev (fun k => spec_SignalOk.l0 k l (i : Int)) (decide (l.length ≤ 512) && wideB 1000000000 (l.drop i)) := by
  intro d
  induction d with
  | zero =>
    intro i hd
    refine Ev.fin (fun k => ?_)
    rw [spec_SignalOk.l0, if_neg (by omega), List.drop_of_length_le (by omega)]
    have : wideB 1000000000 [] = true := rfl
    rw [this, Bool.and_true]
    congr 1; rw [Bool.eq_iff_iff]; simp; omega
  | succ d ih =>
    intro i hd
    rw [drop_rd (i := i) (by omega)]
    have ec : wideB 1000000000 (rd l (i : Int) :: l.drop (i + 1)) = (decide (-1000000000 ≤ rd l (i : Int) ∧ rd l (i : Int) ≤ 1000000000) && wideB 1000000000 (l.drop (i + 1))) := rfl
    rw [ec]
    have e5 : spec_l5Sample.f (rd l (i : Int)) = some (decide (-1000000000 ≤ rd l (i : Int) ∧ rd l (i : Int) ≤ 1000000000)) := by
      unfold spec_l5Sample.f; rw [l1In_eq, Option.bind_some]
    by_cases h : -1000000000 ≤ rd l (i : Int) ∧ rd l (i : Int) ≤ 1000000000
    · rw [decide_eq_true h] at e5 ⊢
      rw [Bool.true_and]
      refine Ev.step (fun k => ?_) (ih (i + 1) (by omega))
      rw [spec_SignalOk.l0, if_pos (by omega), if_pos (by omega), e5, Option.bind_some, if_pos rfl, wsucc (by omega)]
    · rw [decide_eq_false h] at e5 ⊢
      rw [Bool.false_and, Bool.and_false]
      refine Ev.fin (fun k => ?_)
      rw [spec_SignalOk.l0, if_pos (by omega), if_pos (by omega), e5, Option.bind_some, if_neg (by decide)]
theorem sSignalOk_ev (l : List Int) (hl : l.length ≤ 1048576) : Ev (fun k => spec_SignalOk.f k l) (signalB l) := sSignal_l0 l hl l.length 0 (by omega)

theorem within_l0 (l : List Int) (s : Int) (hs : 0 ≤ s ∧ s ≤ 4000000000000000000) (hl : l.length ≤ 1048576) : ∀ (d i : Nat), i + d = l.length → Ev (fun k => impl_within.l0 k s l (l.length : Int) (i : Int)) (wideB s (l.drop i)) := by
  intro d
  induction d with
  | zero =>
    intro i hd
    refine Ev.fin (fun k => ?_)
    rw [impl_within.l0, if_neg (by omega), List.drop_of_length_le (by omega)]
    rfl
  | succ d ih =>
    intro i hd
    have ew : wrap64 (-s) = -s := w64 (by omega) (by omega)
    rw [drop_rd (i := i) (by omega)]
    have ec : wideB s (rd l (i : Int) :: l.drop (i + 1)) = (decide (-s ≤ rd l (i : Int) ∧ rd l (i : Int) ≤ s) && wideB s (l.drop (i + 1))) := rfl
    rw [ec]
    by_cases h : -s ≤ rd l (i : Int) ∧ rd l (i : Int) ≤ s
    · rw [decide_eq_true h, Bool.true_and]
      refine Ev.step (fun k => ?_) (ih (i + 1) (by omega))
      rw [impl_within.l0, if_pos (by omega), if_pos (by omega), if_pos (by omega), ew, if_neg (by omega), if_neg (by omega), wsucc (by omega)]
    · rw [decide_eq_false h, Bool.false_and]
      refine Ev.fin (fun k => ?_)
      rw [impl_within.l0, if_pos (by omega), if_pos (by omega), if_pos (by omega), ew]
      by_cases h1 : rd l (i : Int) < -s
      · rw [if_pos h1]
      · rw [if_neg h1, if_pos (by omega)]
theorem within_ev (l : List Int) (s : Int) (hs : 0 ≤ s ∧ s ≤ 4000000000000000000) (hl : l.length ≤ 1048576) : Ev (fun k => impl_within.f k l s) (wideB s l) := within_l0 l s hs hl l.length 0 (by omega)
theorem iSignalOk_ev (l : List Int) (hl : l.length ≤ 1048576) : Ev (fun k => impl_SignalOk.f k l) (signalB l) := by
  unfold impl_SignalOk.f signalB
  by_cases h : (l.length : Int) ≤ 512
  · rw [decide_eq_true (by omega), Bool.true_and]
    exact Ev.pos h (Ev.bind (within_ev l _ (by omega) hl) (Ev.now _))
  · rw [decide_eq_false (by omega), Bool.false_and]
    exact Ev.neg h (Ev.now _)

theorem l9Wide_l0 (l : List Int) (s : Int) (hs : 0 ≤ s ∧ s ≤ 4000000000000000000) (hl : l.length ≤ 1048576) : ∀ (d i : Nat), i + d = l.length → Ev (fun k => spec_l9Wide.l0 k l s (i : Int)) (wideB s (l.drop i)) := by
  intro d
  induction d with
  | zero =>
    intro i hd
    refine Ev.fin (fun k => ?_)
    rw [spec_l9Wide.l0, if_neg (by omega), List.drop_of_length_le (by omega)]
    rfl
  | succ d ih =>
    intro i hd
    have ew : wrap64 (-s) = -s := w64 (by omega) (by omega)
    rw [drop_rd (i := i) (by omega)]
    have ec : wideB s (rd l (i : Int) :: l.drop (i + 1)) = (decide (-s ≤ rd l (i : Int) ∧ rd l (i : Int) ≤ s) && wideB s (l.drop (i + 1))) := rfl
    rw [ec]
    by_cases h : -s ≤ rd l (i : Int) ∧ rd l (i : Int) ≤ s
    · rw [decide_eq_true h, Bool.true_and]
      refine Ev.step (fun k => ?_) (ih (i + 1) (by omega))
      rw [spec_l9Wide.l0, if_pos (by omega), if_pos (by omega), ew, l1In_eq, Option.bind_some, decide_eq_true h, if_pos rfl, wsucc (by omega)]
    · rw [decide_eq_false h, Bool.false_and]
      refine Ev.fin (fun k => ?_)
      rw [spec_l9Wide.l0, if_pos (by omega), if_pos (by omega), ew, l1In_eq, Option.bind_some, decide_eq_false h, if_neg (by decide)]
theorem l9Wide_ev (l : List Int) (s : Int) (hs : 0 ≤ s ∧ s ≤ 4000000000000000000) (hl : l.length ≤ 1048576) : Ev (fun k => spec_l9Wide.f k l s) (wideB s l) := l9Wide_l0 l s hs hl l.length 0 (by omega)

theorem clone_eq (l : List Int) (hl : l.length ≤ 1048576) : slices_Clone_int_int.f l = some l := by
  unfold slices_Clone_int_int.f
  rw [if_pos (by rw [List.length_nil]; omega)]
theorem fir_l1 (t list : List Int) (hlist : list.length ≤ 100000) (i : Nat) (out past : List Int) (hp : past.length + 1 = t.length) (ht : t.length ≤ 1000) (ho : out.length ≤ 100000) (x : Int) (Q : List Int × List Int → Prop)
    (K : ∀ s p, p.length = past.length → ∃ R, Ev (fun k => impl_fir.l0 k t p (out ++ [s]) list (list.length : Int) (wrap64 ((i : Int) + 1))) R ∧ Q R) : ∀ (d j : Nat) (s : Int), j + d = past.length → ∃ R, Ev (fun k => impl_fir.l1 k t past out x s list (list.length : Int) (i : Int) past (past.length : Int) (j : Int)) R ∧ Q R := by
  intro d
  induction d with
  | zero =>
    intro j s hd
    obtain ⟨R, h1, h2⟩ := K s (([x] ++ past).take past.length) (by rw [List.length_take, List.length_append]; simp)
    refine ⟨R, Ev.step (fun k => ?_) h1, h2⟩
    have e : ([x] ++ past).length = past.length + 1 := by rw [List.length_append]; simp; omega
    rw [impl_fir.l1, if_neg (by omega), if_pos (by omega), Option.bind_some, if_pos (by simp; omega), Option.bind_some, if_pos (by omega), if_pos (by rw [e]; omega), Int.toNat_natCast]
  | succ d ih =>
    intro j s hd
    have e1 : wrap64 (1 + (j : Int)) = ((1 + j : Nat) : Int) := by rw [w64 (by omega) (by omega)]; omega
    obtain ⟨R, h1, h2⟩ := ih (j + 1) (wrap64 (s + wrap64 (rd t ((1 + j : Nat) : Int) * rd past (j : Int)))) (by omega)
    refine ⟨R, Ev.step (fun k => ?_) h1, h2⟩
    rw [impl_fir.l1, if_pos (by omega), if_pos (by omega), if_pos (by omega), e1, if_pos (by omega), if_pos (by omega), wsucc (by omega)]
theorem fir_l0 (t list : List Int) (hlist : list.length ≤ 100000) (ht : t.length ≤ 1000) (h1 : 1 ≤ t.length) : ∀ (d i : Nat) (out past : List Int), i + d = list.length → past.length + 1 = t.length → out.length = i → ∃ R, Ev (fun k => impl_fir.l0 k t past out list (list.length : Int) (i : Int)) R ∧ R.1.length = list.length := by
  intro d
  induction d with
  | zero =>
    intro i out past hd hp ho
    exact ⟨(out, past), Ev.fin (fun k => by rw [impl_fir.l0, if_neg (by omega)]), show out.length = list.length by omega⟩
  | succ d ih =>
    intro i out past hd hp ho
    obtain ⟨R, h2, h3⟩ := fir_l1 t list hlist i out past hp ht (by omega) (rd list (i : Int)) (fun R => R.1.length = list.length) (fun s p hpl => by
      rw [wsucc (by omega)]
      exact ih (i + 1) (out ++ [s]) p (by omega) (by omega) (by rw [List.length_append, ho]; rfl)) past.length 0 (wrap64 (rd t 0 * rd list (i : Int))) (by omega)
    refine ⟨R, Ev.step (f := fun k => impl_fir.l1 k t past out (rd list (i : Int)) (wrap64 (rd t 0 * rd list (i : Int))) list (list.length : Int) (i : Int) past (past.length : Int) ((0 : Nat) : Int)) (fun k => ?_) h2, h3⟩
    rw [impl_fir.l0, if_pos (by omega), if_pos (by omega), if_pos (by omega), if_pos (by omega)]
    rfl
theorem fir_ex (t st list : List Int) (hlist : list.length ≤ 100000) (ht : t.length ≤ 1000) (h1 : 1 ≤ t.length) (hs : st.length + 1 = t.length) : ∃ R, Ev (fun k => impl_fir.f k t st list) R ∧ R.1.length = list.length := by
  obtain ⟨R, h2, h3⟩ := fir_l0 t list hlist ht h1 list.length 0 [] st (by omega) hs rfl
  exact ⟨R, Ev.bind0 (clone_eq st (by omega)) h2, h3⟩
/-- Are the taps of a filter well? -/
def tapsB (t : List Int) : Bool := decide (1 ≤ t.length ∧ t.length ≤ 64) && wideB 1000000 t
theorem itapsOk_ev (t : List Int) (ht : t.length ≤ 1048576) : Ev (fun k => impl_tapsOk.f k t) (tapsB t) := by
  unfold impl_tapsOk.f tapsB
  by_cases h1 : (t.length : Int) ≥ 1
  · refine Ev.pos h1 ?_
    by_cases h2 : (t.length : Int) ≤ 64
    · rw [decide_eq_true (by omega), Bool.true_and]
      exact Ev.pos h2 (Ev.bind (within_ev t _ (by omega) ht) (Ev.now _))
    · rw [decide_eq_false (by omega), Bool.false_and]
      exact Ev.neg h2 (Ev.now _)
  · rw [decide_eq_false (by omega), Bool.false_and]
    exact Ev.neg h1 (Ev.now _)
theorem tapsB_len {t : List Int} (h : tapsB t = true) : 1 ≤ t.length ∧ t.length ≤ 64 := by
  unfold tapsB at h
  rw [Bool.and_eq_true] at h
  exact of_decide_eq_true h.1
theorem Fir_ex (t list : List Int) (hl : signalB list = true) (ht : tapsB t = true) : ∃ f p, Ev (fun k => impl_fir.f k t (List.replicate (t.length - 1) 0) list) (f, p) ∧ f.length = list.length ∧ Ev (fun k => impl_Fir.f k t (List.replicate (t.length - 1) 0) list) (f, p, true) := by
  have h1 := tapsB_len ht
  have h2 := signalB_len hl
  have hr : (List.replicate (t.length - 1) (0 : Int)).length = t.length - 1 := List.length_replicate
  obtain ⟨⟨f, p⟩, e, hf⟩ := fir_ex t (List.replicate (t.length - 1) 0) list (by omega) (by omega) (by omega) (by rw [hr]; omega)
  have hz : signalB (List.replicate (t.length - 1) 0) = true := by
    unfold signalB wideB
    rw [Bool.and_eq_true, decide_eq_true_eq, List.all_eq_true]
    exact ⟨by rw [hr]; omega, fun x hx => by rw [(List.mem_replicate.mp hx).2]; decide⟩
  refine ⟨f, p, e, hf, ?_⟩
  unfold impl_Fir.f
  have a1 := itapsOk_ev t (by omega)
  have a2 := iSignalOk_ev list (by omega)
  have a3 := iSignalOk_ev (List.replicate (t.length - 1) 0) (by rw [hr]; omega)
  rw [ht] at a1
  rw [hl] at a2
  rw [hz] at a3
  have ew : wrap64 ((t.length : Int) - 1) = ((t.length - 1 : Nat) : Int) := by rw [w64 (by omega) (by omega)]; omega
  refine Ev.bind a1 (Ev.pos rfl (Ev.bind a2 (Ev.pos rfl (Ev.bind a3 (Ev.pos rfl (Ev.pos ?_ (Ev.bind e (Ev.now _))))))))
  rw [ew, hr]
/-- There is one answer. -/
theorem ev_det {α : Type} {g : Nat → Option α} {a b : α} (h1 : Ev g a) (h2 : Ev g b) : a = b := by
  obtain ⟨m, hm⟩ := h1
  obtain ⟨n, hn⟩ := h2
  have e1 := hm (m + n) (Nat.le_add_right m n)
  have e2 := hn (m + n) (Nat.le_add_left n m)
  rw [e1] at e2
  exact Option.some.inj e2

/-- A signal made denser. -/
def upL (u : Nat) : List Int → List Int
  | [] => []
  | x :: t => x :: (List.replicate (u - 1) 0 ++ upL u t)
theorem upL_len {u : Nat} (hu : 1 ≤ u) : ∀ l, (upL u l).length = u * l.length
  | [] => by simp [upL]
  | x :: t => by
    show (List.replicate (u - 1) 0 ++ upL u t).length + 1 = u * (t.length + 1)
    rw [List.length_append, List.length_replicate, upL_len hu t, Nat.mul_add]; omega
theorem upL_mem {u : Nat} : ∀ {l : List Int} {x : Int}, x ∈ upL u l → x = 0 ∨ x ∈ l
  | y :: t, x, h => by
    rcases List.mem_cons.1 h with h1 | h1
    · exact .inr (by rw [h1]; exact List.mem_cons_self)
    · rcases List.mem_append.1 h1 with h2 | h2
      · exact .inl (List.mem_replicate.1 h2).2
      · rcases upL_mem h2 with h3 | h3
        · exact .inl h3
        · exact .inr (List.mem_cons_of_mem _ h3)
theorem up_l0 (l : List Int) (hl : l.length ≤ 512) (u : Nat) (hu : 1 ≤ u ∧ u ≤ 16) : ∀ (d i : Nat) (acc : List Int), i + d = l.length → acc.length ≤ 16 * i → Ev (fun k => impl_up.l0 k (u : Int) acc l (l.length : Int) (i : Int)) (acc ++ upL u (l.drop i)) := by
  have e1 : wrap64 ((u : Int) - 1) = ((u - 1 : Nat) : Int) := by rw [w64 (by omega) (by omega)]; omega
  intro d
  induction d with
  | zero =>
    intro i acc hd ha
    rw [List.drop_of_length_le (by omega)]
    exact Ev.fin (fun k => by rw [impl_up.l0, if_neg (by omega)]; simp [upL])
  | succ d ih =>
    intro i acc hd ha
    have h1 := ih (i + 1) (acc ++ [rd l (i : Int)] ++ List.replicate (u - 1) 0) (by omega) (by simp only [List.length_append, List.length_replicate, List.length_singleton]; omega)
    have e2 : acc ++ upL u (l.drop i) = acc ++ [rd l (i : Int)] ++ List.replicate (u - 1) 0 ++ upL u (l.drop (i + 1)) := by
      rw [drop_rd (i := i) (by omega)]
      show acc ++ (rd l (i : Int) :: (List.replicate (u - 1) 0 ++ upL u (l.drop (i + 1)))) = _
      simp
    rw [e2]
    refine Ev.step (fun k => ?_) h1
    rw [impl_up.l0, if_pos (by omega), if_pos (by omega), if_pos (by omega), if_pos (by omega), Option.bind_some, e1, if_pos (by omega), if_pos (by simp only [List.length_append, List.length_singleton, Int.toNat_natCast]; omega), Int.toNat_natCast, wsucc (by omega)]
theorem up_ev (l : List Int) (hl : l.length ≤ 512) (u : Nat) (hu : 1 ≤ u ∧ u ≤ 16) : Ev (fun k => impl_up.f k l (u : Int)) (upL u l) := by
  have h := up_l0 l hl u hu l.length 0 [] (by omega) (by simp)
  rw [List.nil_append, List.drop_zero] at h
  exact h
theorem sup_l1 (l : List Int) (hl : l.length ≤ 512) (u : Nat) (hu : 1 ≤ u ∧ u ≤ 16) (i : Nat) (hi : i < l.length) (Q : List Int → Prop) (K : ∀ acc, acc.length ≤ 16 * (i + 1) → ∃ r, Ev (fun k => spec_l11Up.l0 k l (u : Int) acc ((i + 1 : Nat) : Int)) r ∧ Q r) : ∀ (d j : Nat) (acc : List Int), j + d = u → acc.length ≤ 16 * i + j → ∃ r, Ev (fun k => spec_l11Up.l1 k l (u : Int) acc (i : Int) (j : Int)) r ∧ Q r := by
  intro d
  induction d with
  | zero =>
    intro j acc hd ha
    obtain ⟨r, h1, h2⟩ := K acc (by omega)
    exact ⟨r, Ev.step (fun k => by rw [spec_l11Up.l1, if_neg (by omega), wsucc (by omega)]) h1, h2⟩
  | succ d ih =>
    intro j acc hd ha
    obtain ⟨r, h1, h2⟩ := ih (j + 1) (acc ++ [0]) (by omega) (by rw [List.length_append, List.length_singleton]; omega)
    exact ⟨r, Ev.step (fun k => by rw [spec_l11Up.l1, if_pos (by omega), if_pos (by omega), wsucc (by omega)]) h1, h2⟩
theorem sup_l0 (l : List Int) (hl : l.length ≤ 512) (u : Nat) (hu : 1 ≤ u ∧ u ≤ 16) : ∀ (d i : Nat) (acc : List Int), i + d = l.length → acc.length ≤ 16 * i → ∃ r, Ev (fun k => spec_l11Up.l0 k l (u : Int) acc (i : Int)) r ∧ r.length ≤ 8192 := by
  intro d
  induction d with
  | zero =>
    intro i acc hd ha
    exact ⟨acc, Ev.fin (fun k => by rw [spec_l11Up.l0, if_neg (by omega)]), by omega⟩
  | succ d ih =>
    intro i acc hd ha
    obtain ⟨r, h1, h2⟩ := sup_l1 l hl u hu i (by omega) (fun r => r.length ≤ 8192) (fun acc ha => ih (i + 1) acc (by omega) ha) (u - 1) 1 (acc ++ [rd l (i : Int)]) (by omega) (by rw [List.length_append, List.length_singleton]; omega)
    exact ⟨r, Ev.step (f := fun k => spec_l11Up.l1 k l (u : Int) (acc ++ [rd l (i : Int)]) (i : Int) ((1 : Nat) : Int)) (fun k => by rw [spec_l11Up.l0, if_pos (by omega), if_pos (by omega), if_pos (by omega)]; rfl) h1, h2⟩
theorem sup_ex (l : List Int) (hl : l.length ≤ 512) (u : Nat) (hu : 1 ≤ u ∧ u ≤ 16) : ∃ r, Ev (fun k => spec_l11Up.f k l (u : Int)) r ∧ r.length ≤ 8192 := sup_l0 l hl u hu l.length 0 [] (by omega) (by simp)

theorem sameInts_l0 (l : List Int) (hl : l.length ≤ 1048576) : ∀ (d i : Nat), i + d = l.length → Ev (fun k => laws_sameInts.l0 k l l (i : Int)) true := by
  intro d
  induction d with
  | zero =>
    intro i hd
    exact Ev.fin (fun k => by rw [laws_sameInts.l0, if_neg (by omega)])
  | succ d ih =>
    intro i hd
    refine Ev.step (fun k => ?_) (ih (i + 1) (by omega))
    rw [laws_sameInts.l0, if_pos (by omega), if_pos (by omega), if_pos (by omega), if_pos rfl, wsucc (by omega)]
theorem sameInts_ev (l : List Int) (hl : l.length ≤ 1048576) : Ev (fun k => laws_sameInts.f k l l) true := by
  unfold laws_sameInts.f
  exact Ev.pos rfl (sameInts_l0 l hl l.length 0 (by omega))

def rateB (u : Int) : Bool := decide (1 ≤ u ∧ u ≤ 16)
theorem isRate_eq (u : Int) : impl_isRate.f u = some (rateB u) := by
  unfold impl_isRate.f rateB
  by_cases h : u ≥ 1
  · rw [if_pos h]; congr 1; rw [Bool.eq_iff_iff, decide_eq_true_eq, decide_eq_true_eq]; omega
  · rw [if_neg h]; congr 1; rw [decide_eq_false (by omega)]
theorem l11By_eq (u : Int) : spec_l11By.f u = some (rateB u) := by
  unfold spec_l11By.f rateB
  rw [l1In_eq, Option.bind_some]
theorem sl10Taps_ev (t : List Int) (ht : t.length ≤ 1048576) : Ev (fun k => spec_l10Taps.f k t) (tapsB t) := by
  unfold spec_l10Taps.f tapsB
  refine Ev.bind0 (l1In_eq _ _ _) ?_
  by_cases h : 1 ≤ t.length ∧ t.length ≤ 64
  · rw [decide_eq_true h, Bool.true_and, decide_eq_true (by omega)]
    exact Ev.pos rfl (Ev.bind (l9Wide_ev t _ (by omega) ht) (Ev.now _))
  · rw [decide_eq_false h, Bool.false_and, decide_eq_false (by omega)]
    exact Ev.neg (by decide) (Ev.now _)
def ratB (l t : List Int) (u d : Int) : Bool := signalB l && (wideB 1000000 l && (tapsB t && (rateB u && rateB d)))
theorem thin_both (d : Nat) (hd : 1 ≤ d) (hd2 : d ≤ 16) (f : List Int) (hf : f.length ≤ 10000) (x : List Int) (ok : Bool) (hok : ok = true) : ∀ (m i : Nat) (acc : List Int), f.length ≤ i + m → i ≤ 20000 → acc.length ≤ i →
    ∃ r, r.length ≤ 20000 ∧ Ev (fun k => impl_thin.l0 k f (d : Int) acc (i : Int)) r ∧ (r = x → Ev (fun k => laws_FnRational.l0 k (d : Int) x f ok acc (i : Int)) true) := by
  intro m
  induction m with
  | zero =>
    intro i acc hm hi ha
    refine ⟨acc, by omega, Ev.fin (fun k => by rw [impl_thin.l0, if_neg (by omega)]), fun e => ?_⟩
    subst e
    exact Ev.step (fun k => by rw [laws_FnRational.l0, if_neg (by omega), if_pos hok]) (Ev.bind (sameInts_ev acc (by omega)) (Ev.now _))
  | succ m ih =>
    intro i acc hm hi ha
    by_cases hlt : i < f.length
    · obtain ⟨r, h1, h2, h3⟩ := ih (i + d) (acc ++ [rd f (i : Int)]) (by omega) (by omega) (by rw [List.length_append, List.length_singleton]; omega)
      have ew : wrap64 ((i : Int) + (d : Int)) = ((i + d : Nat) : Int) := by rw [w64 (by omega) (by omega)]; omega
      refine ⟨r, h1, Ev.step (fun k => ?_) h2, fun e => Ev.step (fun k => ?_) (h3 e)⟩
      · rw [impl_thin.l0, if_pos (by omega), if_pos (by omega), if_pos (by omega), ew]
      · rw [laws_FnRational.l0, if_pos (by omega), if_pos (by omega), if_pos (by omega), ew]
    · refine ⟨acc, by omega, Ev.fin (fun k => by rw [impl_thin.l0, if_neg (by omega)]), fun e => ?_⟩
      subst e
      exact Ev.step (fun k => by rw [laws_FnRational.l0, if_neg (by omega), if_pos hok]) (Ev.bind (sameInts_ev acc (by omega)) (Ev.now _))
theorem iRat_in (l t : List Int) (u d : Nat) (h : ratB l t (u : Int) (d : Int) = true) : ∃ f p x, f.length ≤ 10000 ∧ Ev (fun k => impl_fir.f k t (List.replicate (t.length - 1) 0) (upL u l)) (f, p) ∧ Ev (fun k => impl_thin.l0 k f (d : Int) [] ((0 : Nat) : Int)) x ∧ x.length ≤ 20000 ∧ Ev (fun k => impl_Rational.f k l t (u : Int) (d : Int)) (x, true) := by
  unfold ratB rateB at h
  rw [Bool.and_eq_true, Bool.and_eq_true, Bool.and_eq_true, Bool.and_eq_true, decide_eq_true_eq, decide_eq_true_eq] at h
  obtain ⟨hs, hw, ht, hu, hd⟩ := h
  have h1 := tapsB_len ht
  have h2 := signalB_len hs
  have hul := upL_len (u := u) (by omega) l
  have hul2 : u * l.length ≤ 16 * 512 := Nat.mul_le_mul (by omega) h2
  have hr : (List.replicate (t.length - 1) (0 : Int)).length = t.length - 1 := List.length_replicate
  obtain ⟨⟨f, p⟩, e, hf⟩ := fir_ex t (List.replicate (t.length - 1) 0) (upL u l) (by rw [hul]; omega) (by omega) (by omega) (by rw [hr]; omega)
  have hf' : f.length ≤ 10000 := by rw [show f.length = (upL u l).length from hf, hul]; omega
  obtain ⟨x, hx, e2, _⟩ := thin_both d (by omega) (by omega) f hf' [] true rfl f.length 0 [] (by omega) (by omega) (by rw [List.length_nil]; omega)
  refine ⟨f, p, x, hf', e, e2, hx, ?_⟩
  have ew : wrap64 ((t.length : Int) - 1) = ((t.length - 1 : Nat) : Int) := by rw [w64 (by omega) (by omega)]; omega
  have a1 := iSignalOk_ev l (by omega)
  have a2 := within_ev l 1000000 (by omega) (by omega)
  have a3 := itapsOk_ev t (by omega)
  rw [hs] at a1
  rw [hw] at a2
  rw [ht] at a3
  have b1 : impl_isRate.f (u : Int) = some true := by rw [isRate_eq]; unfold rateB; rw [decide_eq_true hu]
  have b2 : impl_isRate.f (d : Int) = some true := by rw [isRate_eq]; unfold rateB; rw [decide_eq_true hd]
  have body : Ev (fun k => if 0 ≤ (wrap64 ((t.length : Int) - 1)) then (if (wrap64 ((t.length : Int) - 1) : Int).toNat ≤ 35184372088832 then ((impl_up.f k l (u : Int)).bind fun t271 => ((impl_fir.f k t (List.replicate (wrap64 ((t.length : Int) - 1) : Int).toNat 0) t271).bind fun bt274 => ((impl_thin.f k bt274.1 (d : Int) 0).bind fun t280 => (some (t280, true))))) else (none)) else (none)) (x, true) := by
    rw [ew, Int.toNat_natCast]
    exact Ev.pos (by omega) (Ev.pos (by omega) (Ev.bind (up_ev l h2 u (by omega)) (Ev.bind e (Ev.bind e2 (Ev.now _)))))
  unfold impl_Rational.f
  exact Ev.bind a1 (Ev.pos rfl (Ev.bind a2 (Ev.pos rfl (Ev.bind a3 (Ev.pos rfl (Ev.bind0 b1 (Ev.pos rfl (Ev.bind0 b2 (Ev.step (fun k => by rw [impl_Rational.j0, if_neg (by decide)]) body)))))))))
theorem iRat_out (l t : List Int) (u d : Int) (hl : l.length ≤ 1048576) (ht : t.length ≤ 1048576) (h : ratB l t u d ≠ true) : Ev (fun k => impl_Rational.f k l t u d) ([], false) := by
  have bad : Ev (fun k => impl_Rational.j0 k l t u d true) ([], false) := Ev.fin (fun k => by rw [impl_Rational.j0, if_pos rfl])
  unfold ratB at h
  unfold impl_Rational.f
  refine Ev.bind (iSignalOk_ev l hl) ?_
  by_cases h1 : signalB l = true
  · rw [h1, Bool.true_and] at h
    refine Ev.pos h1 (Ev.bind (within_ev l 1000000 (by omega) hl) ?_)
    by_cases h2 : wideB 1000000 l = true
    · rw [h2, Bool.true_and] at h
      refine Ev.pos h2 (Ev.bind (itapsOk_ev t ht) ?_)
      by_cases h3 : tapsB t = true
      · rw [h3, Bool.true_and] at h
        refine Ev.pos h3 (Ev.bind0 (isRate_eq u) ?_)
        by_cases h4 : rateB u = true
        · rw [h4, Bool.true_and] at h
          refine Ev.pos h4 (Ev.bind0 (isRate_eq d) ?_)
          rw [Bool.eq_false_iff.mpr h]; exact bad
        · exact Ev.neg h4 bad
      · exact Ev.neg h3 bad
    · exact Ev.neg h2 bad
  · exact Ev.neg h1 bad
theorem sRat_l1 (t all : List Int) (ht : t.length ≤ 64) (ha : all.length ≤ 8192) (d : Nat) (acc : List Int) (hacc : acc.length ≤ 20000) (i : Nat) (hi : i < all.length) (Q : List Int × Bool → Prop) (K : ∀ s, ∃ R, Ev (fun k => spec_Rational.l0 k t (d : Int) (acc ++ [s]) all (wrap64 ((i : Int) + (d : Int)))) R ∧ Q R) : ∀ (m j : Nat) (s : Int), t.length ≤ j + m → j ≤ i + 1 → ∃ R, Ev (fun k => spec_Rational.l1 k t (d : Int) acc all (i : Int) s (j : Int)) R ∧ Q R := by
  intro m
  induction m with
  | zero =>
    intro j s hm hj
    obtain ⟨R, h1, h2⟩ := K s
    exact ⟨R, Ev.step (fun k => by rw [spec_Rational.l1, if_neg (by omega), if_pos (by omega)]) h1, h2⟩
  | succ m ih =>
    intro j s hm hj
    by_cases h1 : j < t.length
    · by_cases h2 : j ≤ i
      · have ew : wrap64 ((i : Int) - (j : Int)) = ((i - j : Nat) : Int) := by rw [w64 (by omega) (by omega)]; omega
        obtain ⟨R, g1, g2⟩ := ih (j + 1) (wrap64 (s + wrap64 (rd t (j : Int) * rd all ((i - j : Nat) : Int)))) (by omega) (by omega)
        refine ⟨R, Ev.step (fun k => ?_) g1, g2⟩
        rw [spec_Rational.l1, if_pos (by omega), if_pos (by omega), if_pos (by omega), ew, if_pos (by omega), if_pos (by omega), wsucc (by omega)]
      · obtain ⟨R, g1, g2⟩ := K s
        exact ⟨R, Ev.step (fun k => by rw [spec_Rational.l1, if_pos (by omega), if_neg (by omega), if_pos (by omega)]) g1, g2⟩
    · obtain ⟨R, g1, g2⟩ := K s
      exact ⟨R, Ev.step (fun k => by rw [spec_Rational.l1, if_neg (by omega), if_pos (by omega)]) g1, g2⟩
theorem sRat_l0 (t all : List Int) (ht : t.length ≤ 64) (ha : all.length ≤ 8192) (d : Nat) (hd : 1 ≤ d ∧ d ≤ 16) : ∀ (m i : Nat) (acc : List Int), all.length ≤ i + m → i ≤ 10000 → acc.length ≤ i → ∃ R, Ev (fun k => spec_Rational.l0 k t (d : Int) acc all (i : Int)) R ∧ R.2 = true := by
  intro m
  induction m with
  | zero =>
    intro i acc hm hi hacc
    exact ⟨(acc, true), Ev.fin (fun k => by rw [spec_Rational.l0, if_neg (by omega)]), rfl⟩
  | succ m ih =>
    intro i acc hm hi hacc
    by_cases hlt : i < all.length
    · have ew : wrap64 ((i : Int) + (d : Int)) = ((i + d : Nat) : Int) := by rw [w64 (by omega) (by omega)]; omega
      obtain ⟨R, h1, h2⟩ := sRat_l1 t all ht ha d acc (by omega) i hlt (fun R => R.2 = true) (fun s => by
        rw [ew]
        exact ih (i + d) (acc ++ [s]) (by omega) (by omega) (by rw [List.length_append, List.length_singleton]; omega)) t.length 0 0 (by omega) (by omega)
      exact ⟨R, Ev.step (f := fun k => spec_Rational.l1 k t (d : Int) acc all (i : Int) 0 ((0 : Nat) : Int)) (fun k => by rw [spec_Rational.l0, if_pos (by omega)]; rfl) h1, h2⟩
    · exact ⟨(acc, true), Ev.fin (fun k => by rw [spec_Rational.l0, if_neg (by omega)]), rfl⟩
theorem sRat_ex (l t : List Int) (u d : Int) (hl : l.length ≤ 1048576) (ht : t.length ≤ 1048576) : ∃ r, Ev (fun k => spec_Rational.f k l t u d) (r, ratB l t u d) := by
  have bad : ∀ y, Ev (fun k => spec_Rational.j0 k l t u d y true) (y, false) := fun y => Ev.fin (fun k => by rw [spec_Rational.j0, if_pos rfl])
  unfold ratB spec_Rational.f
  by_cases h1 : signalB l = true
  · by_cases h2 : wideB 1000000 l = true
    · by_cases h3 : tapsB t = true
      · by_cases h4 : rateB u = true
        · by_cases h5 : rateB d = true
          · have hu := of_decide_eq_true h4
            have hd := of_decide_eq_true h5
            obtain ⟨u, rfl⟩ : ∃ m : Nat, u = m := ⟨u.toNat, by omega⟩
            obtain ⟨d, rfl⟩ : ∃ m : Nat, d = m := ⟨d.toNat, by omega⟩
            have g1 := tapsB_len h3
            have g2 := signalB_len h1
            obtain ⟨all, ea, hall⟩ := sup_ex l g2 u (by omega)
            obtain ⟨R, e, hR⟩ := sRat_l0 t all g1.2 hall d (by omega) all.length 0 [] (by omega) (by omega) (by rw [List.length_nil]; omega)
            refine ⟨R.1, Ev.bind0 rfl (Ev.bind (sSignalOk_ev l hl) (Ev.pos h1 (Ev.bind (l9Wide_ev l 1000000 (by omega) hl) (Ev.pos h2 (Ev.bind (sl10Taps_ev t ht) (Ev.pos h3 (Ev.bind0 (l11By_eq _) (Ev.pos h4 (Ev.bind0 (l11By_eq _) ?_)))))))))⟩
            rw [h1, h2, h3, h4, h5]
            have e' : Ev (fun k => (spec_l11Up.f k l (u : Int)).bind fun t309 => (spec_Rational.l0 k t (d : Int) [] t309 0)) (R.1, true) := by
              rw [← hR]; exact Ev.bind ea e
            exact Ev.step (fun k => by rw [spec_Rational.j0, if_neg (by decide)]) e'
          · refine ⟨[], Ev.bind0 rfl (Ev.bind (sSignalOk_ev l hl) (Ev.pos h1 (Ev.bind (l9Wide_ev l 1000000 (by omega) hl) (Ev.pos h2 (Ev.bind (sl10Taps_ev t ht) (Ev.pos h3 (Ev.bind0 (l11By_eq _) (Ev.pos h4 (Ev.bind0 (l11By_eq _) ?_)))))))))⟩
            rw [h1, h2, h3, h4, Bool.eq_false_iff.mpr h5]; exact bad []
        · refine ⟨[], Ev.bind0 rfl (Ev.bind (sSignalOk_ev l hl) (Ev.pos h1 (Ev.bind (l9Wide_ev l 1000000 (by omega) hl) (Ev.pos h2 (Ev.bind (sl10Taps_ev t ht) (Ev.pos h3 (Ev.bind0 (l11By_eq _) (Ev.neg h4 ?_))))))))⟩
          rw [h1, h2, h3, Bool.eq_false_iff.mpr h4]; exact bad []
      · refine ⟨[], Ev.bind0 rfl (Ev.bind (sSignalOk_ev l hl) (Ev.pos h1 (Ev.bind (l9Wide_ev l 1000000 (by omega) hl) (Ev.pos h2 (Ev.bind (sl10Taps_ev t ht) (Ev.neg h3 ?_))))))⟩
        rw [h1, h2, Bool.eq_false_iff.mpr h3]; exact bad []
    · refine ⟨[], Ev.bind0 rfl (Ev.bind (sSignalOk_ev l hl) (Ev.pos h1 (Ev.bind (l9Wide_ev l 1000000 (by omega) hl) (Ev.neg h2 ?_))))⟩
      rw [h1, Bool.eq_false_iff.mpr h2]; exact bad []
  · refine ⟨[], Ev.bind0 rfl (Ev.bind (sSignalOk_ev l hl) (Ev.neg h1 ?_))⟩
    rw [Bool.eq_false_iff.mpr h1]; exact bad []
def upB (l : List Int) (u : Int) : Bool := signalB l && (rateB u && decide ((l.length : Int) * u ≤ 512))
theorem Up_both (l : List Int) (u : Int) (hl : l.length ≤ 1048576) : ∃ r s, Ev (fun k => impl_Up.f k l u) (r, upB l u) ∧ Ev (fun k => spec_Up.f k l u) (s, upB l u) ∧ (upB l u = true → r = upL u.toNat l ∧ l.length * u.toNat ≤ 512) := by
  unfold upB impl_Up.f spec_Up.f
  by_cases h1 : signalB l = true
  · by_cases h2 : rateB u = true
    · have hu := of_decide_eq_true h2
      have h3 := signalB_len h1
      obtain ⟨u, rfl⟩ : ∃ m : Nat, u = m := ⟨u.toNat, by omega⟩
      have hm : l.length * u ≤ 512 * 16 := Nat.mul_le_mul h3 (by omega)
      have ew : wrap64 ((l.length : Int) * (u : Int)) = ((l.length * u : Nat) : Int) := by rw [← Int.natCast_mul]; exact w64 (by omega) (by omega)
      rw [h1, h2, Bool.true_and, Bool.true_and, ew, ← Int.natCast_mul, Int.toNat_natCast]
      have a1 := iSignalOk_ev l hl
      have a2 := sSignalOk_ev l hl
      rw [h1] at a1 a2
      have b1 := isRate_eq (u : Int)
      have b2 := l11By_eq (u : Int)
      rw [h2] at b1 b2
      by_cases h4 : ((l.length * u : Nat) : Int) ≤ 512
      · obtain ⟨s, es, _⟩ := sup_ex l h3 u (by omega)
        rw [decide_eq_true h4]
        exact ⟨upL u l, s, Ev.bind a1 (Ev.pos rfl (Ev.bind0 b1 (Ev.pos rfl (Ev.neg (by omega) (Ev.bind (up_ev l h3 u (by omega)) (Ev.now _)))))), Ev.bind a2 (Ev.pos rfl (Ev.bind0 b2 (Ev.pos rfl (Ev.neg (by omega) (Ev.bind es (Ev.now _)))))), fun _ => ⟨rfl, by omega⟩⟩
      · rw [decide_eq_false h4]
        exact ⟨[], [], Ev.bind a1 (Ev.pos rfl (Ev.bind0 b1 (Ev.pos rfl (Ev.pos (by omega) (Ev.now _))))), Ev.bind a2 (Ev.pos rfl (Ev.bind0 b2 (Ev.pos rfl (Ev.pos (by omega) (Ev.now _))))), fun h => by cases h⟩
    · have b1 := isRate_eq u
      have b2 := l11By_eq u
      rw [Bool.eq_false_iff.mpr h2] at b1 b2 ⊢
      rw [h1]
      have a1 := iSignalOk_ev l hl
      have a2 := sSignalOk_ev l hl
      rw [h1] at a1 a2
      exact ⟨[], [], Ev.bind a1 (Ev.pos rfl (Ev.bind0 b1 (Ev.neg (by decide) (Ev.now _)))), Ev.bind a2 (Ev.pos rfl (Ev.bind0 b2 (Ev.neg (by decide) (Ev.now _)))), fun h => by cases h⟩
  · rw [Bool.eq_false_iff.mpr h1]
    have a1 := iSignalOk_ev l hl
    have a2 := sSignalOk_ev l hl
    rw [Bool.eq_false_iff.mpr h1] at a1 a2
    exact ⟨[], [], Ev.bind a1 (Ev.neg (by decide) (Ev.now _)), Ev.bind a2 (Ev.neg (by decide) (Ev.now _)), fun h => by cases h⟩
theorem DrawRational_ex (l : List Int) (hl : l.length ≤ 1048576) (hw : Bytes l) : ∃ (a b : List Int) (u d : Int), a.length ≤ 1048576 ∧ b.length ≤ 1048576 ∧ Ev (fun k => spec_DrawRational.f k l) (a, b, u, d) := by
  obtain ⟨h, c0, e0⟩ := l1New_ex l hl hw
  obtain ⟨t, ht1, ht2, et⟩ := l1Size_ex l hl 24 (by omega)
  obtain ⟨a, i1, h1, p1, c1, e1⟩ := l7Small_ex l 0 h t (by omega) c0
  obtain ⟨b, i2, h2, p2, c2, e2⟩ := l10Taps_ex l i1 h1 c1
  obtain ⟨u, i3, h3, hu, c3, e3⟩ := l1PickInt_ex l i2 h2 [1, 2, 3, 4, 5, 7, 16, 17, 0] (by decide) c2
  obtain ⟨d, i4, h4, hd, c4, e4⟩ := l1PickInt_ex l i3 h3 [1, 2, 3, 4, 5, 7, 16, 17, 0] (by decide) c3
  have e3' : spec_l11DrawBy.f l i2 h2 = some (u, i3, h3) := by unfold spec_l11DrawBy.f; rw [e3, Option.bind_some]
  have e4' : spec_l11DrawBy.f l i3 h3 = some (d, i4, h4) := by unfold spec_l11DrawBy.f; rw [e4, Option.bind_some]
  exact ⟨a, b, u, d, by omega, by omega, Ev.bind e0 (Ev.bind0 et (Ev.bind e1 (Ev.bind e2 (Ev.bind0 e3' (Ev.bind0 e4' (Ev.now _))))))⟩
theorem four_ev : Ev (fun k => impl_Rational.f k [2, 4] [1, 1] 2 1) ([2, 2, 4, 4], true) := Ev.of (impl_Rational.mono _ _ _ _) (k := 60) (by decide +kernel)
theorem FnRational : laws_FnRational.Pure := by
  intro l hl hl8 hb
  refine Ev.rounds ?_
  unfold laws_FnRational.f
  refine Ev.bind0 rfl ?_
  by_cases hg : (l.length : Int) > 1048576
  · exact Ev.pos (decide_eq_true hg) (Ev.now true)
  refine Ev.neg (by rw [decide_eq_true_eq]; exact hg) ?_
  obtain ⟨a, t, u, d, ha, ht, e0⟩ := DrawRational_ex l (by omega) hb
  obtain ⟨sr, es⟩ := sRat_ex a t u d ha ht
  obtain ⟨r, s, eu, ev, hup⟩ := Up_both a u ha
  refine Ev.bind e0 ?_
  by_cases hok : ratB a t u d = true
  · have hok' := hok
    unfold ratB rateB at hok'
    rw [Bool.and_eq_true, Bool.and_eq_true, Bool.and_eq_true, Bool.and_eq_true, decide_eq_true_eq, decide_eq_true_eq] at hok'
    obtain ⟨hs, hw, htt, hu, hd⟩ := hok'
    obtain ⟨u, rfl⟩ : ∃ m : Nat, u = m := ⟨u.toNat, by omega⟩
    obtain ⟨d, rfl⟩ : ∃ m : Nat, d = m := ⟨d.toNat, by omega⟩
    obtain ⟨f, p, x, hf, ef, ex, hx, ei⟩ := iRat_in a t u d hok
    rw [hok] at es
    refine Ev.bind ei (Ev.bind es (Ev.neg (by simp) (Ev.bind eu (Ev.bind ev (Ev.neg (by simp) (Ev.bind four_ev (Ev.pos rfl (Ev.bind (sameInts_ev _ (by decide)) ?_))))))))
    have g1 := tapsB_len htt
    have ew : wrap64 ((t.length : Int) - 1) = ((t.length - 1 : Nat) : Int) := by rw [w64 (by omega) (by omega)]; omega
    by_cases hde : upB a (u : Int) = true
    · obtain ⟨hr, hlen⟩ := hup hde
      rw [Int.toNat_natCast] at hr hlen
      subst hr
      have hul := upL_len (u := u) (by omega) a
      have hsig : signalB (upL u a) = true := by
        unfold signalB wideB
        rw [Bool.and_eq_true, decide_eq_true_eq, List.all_eq_true]
        refine ⟨by rw [hul, Nat.mul_comm]; exact hlen, fun y hy => ?_⟩
        rw [decide_eq_true_eq]
        rcases upL_mem hy with h0 | h0
        · omega
        · exact signalB_wide hs y h0
      obtain ⟨f2, p2, ef2, hf2, eF⟩ := Fir_ex t (upL u a) hsig htt
      have same : (f2, p2) = (f, p) := ev_det ef2 ef
      obtain ⟨rfl, rfl⟩ : f2 = f ∧ p2 = p := by injection same with q1 q2; exact ⟨q1, q2⟩
      obtain ⟨x2, _, ex2, hfin⟩ := thin_both d (by omega) (by omega) f2 hf x true rfl f2.length 0 [] (by omega) (by omega) (by rw [List.length_nil]; omega)
      have hxx : x2 = x := ev_det ex2 ex
      have l0 := hfin hxx
      rw [hde]
      refine Ev.step (fun k => by rw [laws_FnRational.j0, if_neg (by simp), if_pos rfl]) ?_
      have body : Ev (fun k => if 0 ≤ (wrap64 ((t.length : Int) - 1)) then (if (wrap64 ((t.length : Int) - 1) : Int).toNat ≤ 35184372088832 then ((impl_Fir.f k t (List.replicate (wrap64 ((t.length : Int) - 1) : Int).toNat 0) (upL u a)).bind fun bt381 => (laws_FnRational.l0 k (d : Int) x bt381.1 bt381.2.2 (([] : List Int)) 0)) else (none)) else (none)) true := by
        rw [ew, Int.toNat_natCast]
        exact Ev.pos (by omega) (Ev.pos (by omega) (Ev.bind eF l0))
      exact Ev.step (fun k => by rw [laws_FnRational.j1, if_neg (by simp)]) body
    · rw [Bool.eq_false_iff.mpr hde]
      exact Ev.step (fun k => by rw [laws_FnRational.j0, if_neg (by simp), if_pos rfl]) (Ev.fin (fun k => by rw [laws_FnRational.j1, if_pos (by simp)]))
  · rw [Bool.eq_false_iff.mpr hok] at es
    refine Ev.bind (iRat_out a t u d ha ht hok) (Ev.bind es (Ev.neg (by simp) (Ev.bind eu (Ev.bind ev (Ev.neg (by simp) (Ev.bind four_ev (Ev.pos rfl (Ev.bind (sameInts_ev _ (by decide)) ?_))))))))
    exact Ev.step (fun k => by rw [laws_FnRational.j0, if_neg (by simp), if_neg (by simp)]) (Ev.fin (fun k => by rw [laws_FnRational.j1, if_pos (by simp)]))

end Go.Proofs.Ytnpoimjdkjhcpaa.Pure
