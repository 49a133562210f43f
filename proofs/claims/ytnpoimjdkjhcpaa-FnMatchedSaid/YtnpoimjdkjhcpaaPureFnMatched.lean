/- At each place a drawn pattern's match is what its filter turned around tells there; where Best stands none is greater; no condition. -/
import Derived.Test.YtnpoimjdkjhcpaaQFnMatchedx5
import Derived.Test.YtnpoimjdkjhcpaaCom
set_option linter.unusedVariables false
set_option linter.unusedSimpArgs false
namespace Go.Proofs.Ytnpoimjdkjhcpaa.Pure
open Go.RowKit Go.Proofs.Ytnpoimjdkjhcpaa.PFnMatched Go.Proofs.YtnpoimjdkjhcpaaW.PrintWords Go.Proofs.YtnpoimjdkjhcpaaW.PrintLast Go.Proofs.Ytnpoimjdkjhcpaa.Com

theorem big_eq (l : List Int) : laws_big.f l = some (decide ((l.length : Int) > 1048576)) := rfl

theorem l1New_l0 (l : List Int) (hl : l.length ≤ 1048576) : ∀ (d i : Nat) (h : Int), i + d = l.length → ∃ h', Ev (fun k => spec_l1New.l0 k l h (i : Int)) (l, 0, h') := by
  intro d
  induction d with
  | zero =>
    intro i h hd
    exact ⟨h, Ev.fin (fun k => by rw [spec_l1New.l0, if_neg (by omega)])⟩
  | succ d ih =>
    intro i h hd
    by_cases h4 : i < 4000
    · obtain ⟨h', e⟩ := ih (i + 1) _ (by omega)
      exact ⟨h', Ev.step (fun k => by rw [spec_l1New.l0, if_pos (by omega), if_pos (by omega), if_pos (by omega), wsucc (by omega)]) e⟩
    · exact ⟨h, Ev.fin (fun k => by rw [spec_l1New.l0, if_pos (by omega), if_neg (by omega)])⟩
theorem l1New_ex (l : List Int) (hl : l.length ≤ 1048576) (hw : Bytes l) : ∃ h, CurOk l 0 ∧ Ev (fun k => spec_l1New.f k l) (l, 0, h) := by
  obtain ⟨h, e⟩ := l1New_l0 l hl l.length 0 (wrap64 (71933 + (l.length : Int))) (by omega)
  exact ⟨h, ⟨by omega, by omega, hl, hw⟩, e⟩

theorem l1Size_ex (l : List Int) (hl : l.length ≤ 1048576) (m : Int) (hm : 2 ≤ m) : ∃ t : Nat, 2 ≤ t ∧ (t : Int) ≤ m ∧ spec_l1Size.f l m = some (t : Int) := by
  unfold spec_l1Size.f
  rw [w64 (n := (l.length : Int) / 20) (by omega) (by omega), w64 (by omega) (by omega)]
  by_cases h : 2 + (l.length : Int) / 20 > m
  · exact ⟨m.toNat, by omega, by omega, by rw [if_pos h, Int.toNat_of_nonneg (by omega)]⟩
  · exact ⟨2 + l.length / 20, by omega, by omega, by rw [if_neg h]; congr 1⟩

theorem l1Byte_ex (s : List Int) (i h : Int) (hc : CurOk s i) : ∃ (x : Nat) (i' h' : Int), x < 256 ∧ CurOk s i' ∧ spec_l1Byte.f s i h = some ((x : Int), i', h') := by
  obtain ⟨h0, h1, h2, h3⟩ := hc
  unfold spec_l1Byte.f
  simp only [and64_255]
  by_cases hi : i < (s.length : Int)
  · rw [if_pos hi, if_pos h0]
    refine ⟨(wrap64 (bits .xor .i64 (wrap64 (wrap64 (h * 6364136223846793005) + 1442695040888963407) / 8589934592) (wrap64 (wrap64 (h * 6364136223846793005) + 1442695040888963407) / 35184372088832) % 256 + wrap64 (rd s i)) % 256).toNat, wrap64 (i + 1), wrap64 (wrap64 (h * 6364136223846793005) + 1442695040888963407), by omega, ⟨?_, ?_, h2, h3⟩, ?_⟩
    · rw [w64 (by omega) (by omega)]; omega
    · rw [w64 (by omega) (by omega)]; omega
    · rw [Int.toNat_of_nonneg (by omega)]
  · rw [if_neg hi]
    refine ⟨(bits .xor .i64 (wrap64 (wrap64 (h * 6364136223846793005) + 1442695040888963407) / 8589934592) (wrap64 (wrap64 (h * 6364136223846793005) + 1442695040888963407) / 35184372088832) % 256).toNat, i, wrap64 (wrap64 (h * 6364136223846793005) + 1442695040888963407), by omega, ⟨h0, h1, h2, h3⟩, ?_⟩
    rw [Int.toNat_of_nonneg (by omega)]

theorem l1Below_ex (s : List Int) (i h n : Int) (hc : CurOk s i) : ∃ (x : Nat) (i' h' : Int), ((x : Int) < n ∨ n ≤ 0 ∧ x = 0) ∧ CurOk s i' ∧ spec_l1Below.f s i h n = some ((x : Int), i', h') := by
  unfold spec_l1Below.f
  by_cases hn : n ≤ 0
  · exact ⟨0, i, h, .inr ⟨hn, rfl⟩, hc, by rw [if_pos hn]; rfl⟩
  rw [if_neg hn]
  obtain ⟨x, i1, h1, hx, c1, e1⟩ := l1Byte_ex s i h hc
  by_cases hn2 : n ≤ 256
  · rw [if_pos hn2, e1, Option.bind_some, if_neg (by omega)]
    have := Int.emod_lt_of_pos (x : Int) (show 0 < n by omega)
    have := Int.emod_nonneg (x : Int) (show n ≠ 0 by omega)
    refine ⟨((x : Int) % n).toNat, i1, h1, .inl (by omega), c1, ?_⟩
    rw [Int.tmod_eq_emod_of_nonneg (by omega), Int.toNat_of_nonneg (by omega)]
  · rw [if_neg hn2]
    obtain ⟨y, i2, h2, hy, c2, e2⟩ := l1Byte_ex s i1 h1 c1
    obtain ⟨z, i3, h3, hz, c3, e3⟩ := l1Byte_ex s i2 h2 c2
    obtain ⟨w, i4, h4, hw, c4, e4⟩ := l1Byte_ex s i3 h3 c3
    simp only [e1, e2, e3, e4, Option.bind_some]
    rw [if_neg (by omega), w64 (n := (x : Int) * 16777216) (by omega) (by omega), w64 (n := (y : Int) * 65536) (by omega) (by omega), w64 (n := (z : Int) * 256) (by omega) (by omega)]
    rw [w64 (n := (x : Int) * 16777216 + (y : Int) * 65536) (by omega) (by omega), w64 (n := (x : Int) * 16777216 + (y : Int) * 65536 + (z : Int) * 256) (by omega) (by omega), w64 (by omega) (by omega)]
    generalize hv : (x : Int) * 16777216 + (y : Int) * 65536 + (z : Int) * 256 + (w : Int) = v
    have hv0 : 0 ≤ v := by omega
    have := Int.emod_lt_of_pos v (show 0 < n by omega)
    have := Int.emod_nonneg v (show n ≠ 0 by omega)
    refine ⟨(v % n).toNat, i4, h4, .inl (by omega), c4, ?_⟩
    rw [Int.tmod_eq_emod_of_nonneg hv0, Int.toNat_of_nonneg (by omega)]

theorem l1Once_ex (s : List Int) (i h n : Int) (hc : CurOk s i) : ∃ (b : Bool) (i' h' : Int), CurOk s i' ∧ spec_l1Once.f s i h n = some (b, i', h') := by
  obtain ⟨x, i1, h1, _, c1, e1⟩ := l1Below_ex s i h n hc
  refine ⟨((x : Int) == 0), i1, h1, c1, ?_⟩
  unfold spec_l1Once.f
  rw [e1, Option.bind_some]

theorem l1PickInt_ex (s : List Int) (i h : Int) (l : List Int) (hl : l.length ≠ 0) (hc : CurOk s i) : ∃ (x : Int) (i' h' : Int), x ∈ l ∧ CurOk s i' ∧ spec_l1PickInt.f s i h l = some (x, i', h') := by
  obtain ⟨x, i1, h1, hx, c1, e1⟩ := l1Below_ex s i h (l.length : Int) hc
  have hlt : x < l.length := by omega
  refine ⟨rd l (x : Int), i1, h1, rd_mem hlt, c1, ?_⟩
  unfold spec_l1PickInt.f
  rw [e1, Option.bind_some, if_pos (by omega), if_pos (by omega)]

theorem l7Small_l0 (s : List Int) : ∀ (n : Nat) (acc : List Int) (i h : Int), acc.length + n ≤ 1000000 → CurOk s i → ∃ r i' h', r.length ≤ acc.length + n + 1 ∧ CurOk s i' ∧ Ev (fun k => spec_l7DrawSmall.l0 k acc (n : Int) s i h) (r, i', h') := by
  intro n
  induction n with
  | zero =>
    intro acc i h ha hc
    obtain ⟨b, i1, h1, c1, e1⟩ := l1Once_ex s i h 30 hc
    cases b with
    | true =>
      obtain ⟨x, i2, h2, hx, c2, e2⟩ := l1PickInt_ex s i1 h1 [1000001, (-1000001), 1000000001] (by decide) c1
      exact ⟨acc ++ [x], i2, h2, by rw [List.length_append, List.length_singleton]; omega, c2, Ev.fin (fun k => by rw [spec_l7DrawSmall.l0, if_neg (by omega), e1, Option.bind_some, if_pos rfl, e2, Option.bind_some, if_pos (by omega)])⟩
    | false =>
      exact ⟨acc, i1, h1, by omega, c1, Ev.fin (fun k => by rw [spec_l7DrawSmall.l0, if_neg (by omega), e1, Option.bind_some, if_neg (by simp)])⟩
  | succ n ih =>
    intro acc i h ha hc
    have en : wrap64 (((n + 1 : Nat) : Int) - 1) = (n : Int) := by rw [w64 (by omega) (by omega)]; omega
    obtain ⟨y, i1, h1, hy, c1, e1⟩ := l1Below_ex s i h 2001 hc
    obtain ⟨b, i2, h2, c2, e2⟩ := l1Once_ex s i1 h1 40 c1
    have hlen : (acc ++ [wrap64 ((y : Int) - 1000)]).length = acc.length + 1 := by rw [List.length_append]; rfl
    have el : wrap64 (((acc ++ [wrap64 ((y : Int) - 1000)]).length : Int) - 1) = (acc.length : Int) := by rw [hlen, w64 (by omega) (by omega)]; omega
    cases b with
    | true =>
      obtain ⟨x, i3, h3, hx, c3, e3⟩ := l1PickInt_ex s i2 h2 [1000000, (-1000000)] (by decide) c2
      obtain ⟨r, i4, h4, p1, p2, p3⟩ := ih ((acc ++ [wrap64 ((y : Int) - 1000)]).set acc.length x) i3 h3 (by rw [List.length_set, hlen]; omega) c3
      rw [List.length_set, hlen] at p1
      refine ⟨r, i4, h4, by omega, p2, Ev.step (fun k => ?_) p3⟩
      rw [spec_l7DrawSmall.l0, if_pos (by omega), e1, Option.bind_some, if_pos (by omega), Option.bind_some, e2, Option.bind_some, if_pos rfl, e3, Option.bind_some, el, if_pos (by omega), if_pos (by rw [hlen]; omega), Int.toNat_natCast, en]
    | false =>
      obtain ⟨r, i4, h4, p1, p2, p3⟩ := ih (acc ++ [wrap64 ((y : Int) - 1000)]) i2 h2 (by rw [hlen]; omega) c2
      rw [hlen] at p1
      refine ⟨r, i4, h4, by omega, p2, Ev.step (fun k => ?_) p3⟩
      rw [spec_l7DrawSmall.l0, if_pos (by omega), e1, Option.bind_some, if_pos (by omega), Option.bind_some, e2, Option.bind_some, if_neg (by simp), en]
theorem l7Small_ex (s : List Int) (i h : Int) (m : Nat) (hm : m ≤ 100000) (hc : CurOk s i) : ∃ r i' h', r.length ≤ 100001 ∧ CurOk s i' ∧ Ev (fun k => spec_l7DrawSmall.f k s i h (m : Int)) (r, i', h') := by
  unfold spec_l7DrawSmall.f
  obtain ⟨x, i1, h1, hx, c1, e1⟩ := l1Below_ex s i h ((m + 1 : Nat) : Int) hc
  obtain ⟨r, i2, h2, p1, p2, e⟩ := l7Small_l0 s x [] i1 h1 (by rw [List.length_nil]; omega) c1
  rw [List.length_nil] at p1
  exact ⟨r, i2, h2, by omega, p2, Ev.bind0 (by rw [wsucc (by omega)]; exact e1) e⟩
theorem l7Small_few (s : List Int) (i h : Int) (m : Nat) (hm : m ≤ 50) (hc : CurOk s i) : ∃ r i' h', r.length ≤ m + 1 ∧ CurOk s i' ∧ Ev (fun k => spec_l7DrawSmall.f k s i h (m : Int)) (r, i', h') := by
  unfold spec_l7DrawSmall.f
  obtain ⟨x, i1, h1, hx, c1, e1⟩ := l1Below_ex s i h ((m + 1 : Nat) : Int) hc
  obtain ⟨r, i2, h2, p1, p2, e⟩ := l7Small_l0 s x [] i1 h1 (by rw [List.length_nil]; omega) c1
  rw [List.length_nil] at p1
  exact ⟨r, i2, h2, by omega, p2, Ev.bind0 (by rw [wsucc (by omega)]; exact e1) e⟩

theorem l1In_eq (a b c : Int) : spec_l1In.f a b c = some (decide (b ≤ a ∧ a ≤ c)) := by
  unfold spec_l1In.f
  by_cases h : b ≤ a
  · rw [if_pos h]; simp [h]
  · rw [if_neg h]; simp [h]

/-- All numbers are of at most a size. -/
def wideB (s : Int) (l : List Int) : Bool := l.all fun x => decide (-s ≤ x ∧ x ≤ s)
def signalB (l : List Int) : Bool := decide (l.length ≤ 512) && wideB 1000000000 l
theorem wideB_all {s : Int} {l : List Int} (h : wideB s l = true) : ∀ x ∈ l, -s ≤ x ∧ x ≤ s := by
  intro x hx
  have := List.all_eq_true.mp h x hx
  simpa using this
theorem signalB_len {l : List Int} (h : signalB l = true) : l.length ≤ 512 := by
  unfold signalB at h
  rw [Bool.and_eq_true] at h
  exact of_decide_eq_true h.1
theorem signalB_wide {l : List Int} (h : signalB l = true) : ∀ x ∈ l, -1000000000 ≤ x ∧ x ≤ 1000000000 := by
  unfold signalB at h
  rw [Bool.and_eq_true] at h
  exact wideB_all h.2

theorem within_l0 (l : List Int) (s : Int) (hs : 0 ≤ s ∧ s ≤ 4000000000000000000) (hl : l.length ≤ 1048576) : ∀ (d i : Nat), i + d = l.length → Ev (fun k => impl_within.l0 k s l (l.length : Int) (i : Int)) (wideB s (l.drop i)) := by
  intro d
  induction d with
  | zero =>
    intro i hd
    refine Ev.fin (fun k => ?_)
    rw [impl_within.l0, if_neg (by omega), List.drop_of_length_le (by omega)]
    rfl
  | succ d ih =>
    intro i hd
    have ew : wrap64 (-s) = -s := w64 (by omega) (by omega)
    rw [drop_rd (i := i) (by omega)]
    have ec : wideB s (rd l (i : Int) :: l.drop (i + 1)) = (decide (-s ≤ rd l (i : Int) ∧ rd l (i : Int) ≤ s) && wideB s (l.drop (i + 1))) := rfl
    rw [ec]
    by_cases h : -s ≤ rd l (i : Int) ∧ rd l (i : Int) ≤ s
    · rw [decide_eq_true h, Bool.true_and]
      refine Ev.step (fun k => ?_) (ih (i + 1) (by omega))
      rw [impl_within.l0, if_pos (by omega), if_pos (by omega), if_pos (by omega), ew, if_neg (by omega), if_neg (by omega), wsucc (by omega)]
    · rw [decide_eq_false h, Bool.false_and]
      refine Ev.fin (fun k => ?_)
      rw [impl_within.l0, if_pos (by omega), if_pos (by omega), if_pos (by omega), ew]
      by_cases h1 : rd l (i : Int) < -s
      · rw [if_pos h1]
      · rw [if_neg h1, if_pos (by omega)]
theorem within_ev (l : List Int) (s : Int) (hs : 0 ≤ s ∧ s ≤ 4000000000000000000) (hl : l.length ≤ 1048576) : Ev (fun k => impl_within.f k l s) (wideB s l) := within_l0 l s hs hl l.length 0 (by omega)
theorem iSignalOk_ev (l : List Int) (hl : l.length ≤ 1048576) : Ev (fun k => impl_SignalOk.f k l) (signalB l) := by
  unfold impl_SignalOk.f signalB
  by_cases h : (l.length : Int) ≤ 512
  · rw [decide_eq_true (by omega), Bool.true_and]
    exact Ev.pos h (Ev.bind (within_ev l _ (by omega) hl) (Ev.now _))
  · rw [decide_eq_false (by omega), Bool.false_and]
    exact Ev.neg h (Ev.now _)

theorem clone_eq (l : List Int) (hl : l.length ≤ 1048576) : slices_Clone_int_int.f l = some l := by
  unfold slices_Clone_int_int.f
  rw [if_pos (by rw [List.length_nil]; omega)]
theorem fir_l1 (t list : List Int) (hlist : list.length ≤ 100000) (i : Nat) (out past : List Int) (hp : past.length + 1 = t.length) (ht : t.length ≤ 1000) (ho : out.length ≤ 100000) (x : Int) (Q : List Int × List Int → Prop)
    (K : ∀ s p, p.length = past.length → ∃ R, Ev (fun k => impl_fir.l0 k t p (out ++ [s]) list (list.length : Int) (wrap64 ((i : Int) + 1))) R ∧ Q R) : ∀ (d j : Nat) (s : Int), j + d = past.length → ∃ R, Ev (fun k => impl_fir.l1 k t past out x s list (list.length : Int) (i : Int) past (past.length : Int) (j : Int)) R ∧ Q R := by
  intro d
  induction d with
  | zero =>
    intro j s hd
    obtain ⟨R, h1, h2⟩ := K s (([x] ++ past).take past.length) (by rw [List.length_take, List.length_append]; simp)
    refine ⟨R, Ev.step (fun k => ?_) h1, h2⟩
    have e : ([x] ++ past).length = past.length + 1 := by rw [List.length_append]; simp; omega
    rw [impl_fir.l1, if_neg (by omega), if_pos (by omega), Option.bind_some, if_pos (by simp; omega), Option.bind_some, if_pos (by omega), if_pos (by rw [e]; omega), Int.toNat_natCast]
  | succ d ih =>
    intro j s hd
    have e1 : wrap64 (1 + (j : Int)) = ((1 + j : Nat) : Int) := by rw [w64 (by omega) (by omega)]; omega
    obtain ⟨R, h1, h2⟩ := ih (j + 1) (wrap64 (s + wrap64 (rd t ((1 + j : Nat) : Int) * rd past (j : Int)))) (by omega)
    refine ⟨R, Ev.step (fun k => ?_) h1, h2⟩
    rw [impl_fir.l1, if_pos (by omega), if_pos (by omega), if_pos (by omega), e1, if_pos (by omega), if_pos (by omega), wsucc (by omega)]
theorem fir_l0 (t list : List Int) (hlist : list.length ≤ 100000) (ht : t.length ≤ 1000) (h1 : 1 ≤ t.length) : ∀ (d i : Nat) (out past : List Int), i + d = list.length → past.length + 1 = t.length → out.length = i → ∃ R, Ev (fun k => impl_fir.l0 k t past out list (list.length : Int) (i : Int)) R ∧ R.1.length = list.length := by
  intro d
  induction d with
  | zero =>
    intro i out past hd hp ho
    exact ⟨(out, past), Ev.fin (fun k => by rw [impl_fir.l0, if_neg (by omega)]), show out.length = list.length by omega⟩
  | succ d ih =>
    intro i out past hd hp ho
    obtain ⟨R, h2, h3⟩ := fir_l1 t list hlist i out past hp ht (by omega) (rd list (i : Int)) (fun R => R.1.length = list.length) (fun s p hpl => by
      rw [wsucc (by omega)]
      exact ih (i + 1) (out ++ [s]) p (by omega) (by omega) (by rw [List.length_append, ho]; rfl)) past.length 0 (wrap64 (rd t 0 * rd list (i : Int))) (by omega)
    refine ⟨R, Ev.step (f := fun k => impl_fir.l1 k t past out (rd list (i : Int)) (wrap64 (rd t 0 * rd list (i : Int))) list (list.length : Int) (i : Int) past (past.length : Int) ((0 : Nat) : Int)) (fun k => ?_) h2, h3⟩
    rw [impl_fir.l0, if_pos (by omega), if_pos (by omega), if_pos (by omega), if_pos (by omega)]
    rfl
theorem fir_ex (t st list : List Int) (hlist : list.length ≤ 100000) (ht : t.length ≤ 1000) (h1 : 1 ≤ t.length) (hs : st.length + 1 = t.length) : ∃ R, Ev (fun k => impl_fir.f k t st list) R ∧ R.1.length = list.length := by
  obtain ⟨R, h2, h3⟩ := fir_l0 t list hlist ht h1 list.length 0 [] st (by omega) hs rfl
  exact ⟨R, Ev.bind0 (clone_eq st (by omega)) h2, h3⟩
/-- Are the taps of a filter well? -/
def tapsB (t : List Int) : Bool := decide (1 ≤ t.length ∧ t.length ≤ 64) && wideB 1000000 t
theorem itapsOk_ev (t : List Int) (ht : t.length ≤ 1048576) : Ev (fun k => impl_tapsOk.f k t) (tapsB t) := by
  unfold impl_tapsOk.f tapsB
  by_cases h1 : (t.length : Int) ≥ 1
  · refine Ev.pos h1 ?_
    by_cases h2 : (t.length : Int) ≤ 64
    · rw [decide_eq_true (by omega), Bool.true_and]
      exact Ev.pos h2 (Ev.bind (within_ev t _ (by omega) ht) (Ev.now _))
    · rw [decide_eq_false (by omega), Bool.false_and]
      exact Ev.neg h2 (Ev.now _)
  · rw [decide_eq_false (by omega), Bool.false_and]
    exact Ev.neg h1 (Ev.now _)
theorem tapsB_len {t : List Int} (h : tapsB t = true) : 1 ≤ t.length ∧ t.length ≤ 64 := by
  unfold tapsB at h
  rw [Bool.and_eq_true] at h
  exact of_decide_eq_true h.1
theorem Fir_ex (t list : List Int) (hl : signalB list = true) (ht : tapsB t = true) : ∃ f p, Ev (fun k => impl_fir.f k t (List.replicate (t.length - 1) 0) list) (f, p) ∧ f.length = list.length ∧ Ev (fun k => impl_Fir.f k t (List.replicate (t.length - 1) 0) list) (f, p, true) := by
  have h1 := tapsB_len ht
  have h2 := signalB_len hl
  have hr : (List.replicate (t.length - 1) (0 : Int)).length = t.length - 1 := List.length_replicate
  obtain ⟨⟨f, p⟩, e, hf⟩ := fir_ex t (List.replicate (t.length - 1) 0) list (by omega) (by omega) (by omega) (by rw [hr]; omega)
  have hz : signalB (List.replicate (t.length - 1) 0) = true := by
    unfold signalB wideB
    rw [Bool.and_eq_true, decide_eq_true_eq, List.all_eq_true]
    exact ⟨by rw [hr]; omega, fun x hx => by rw [(List.mem_replicate.mp hx).2]; decide⟩
  refine ⟨f, p, e, hf, ?_⟩
  unfold impl_Fir.f
  have a1 := itapsOk_ev t (by omega)
  have a2 := iSignalOk_ev list (by omega)
  have a3 := iSignalOk_ev (List.replicate (t.length - 1) 0) (by rw [hr]; omega)
  rw [ht] at a1
  rw [hl] at a2
  rw [hz] at a3
  have ew : wrap64 ((t.length : Int) - 1) = ((t.length - 1 : Nat) : Int) := by rw [w64 (by omega) (by omega)]; omega
  refine Ev.bind a1 (Ev.pos rfl (Ev.bind a2 (Ev.pos rfl (Ev.bind a3 (Ev.pos rfl (Ev.pos ?_ (Ev.bind e (Ev.now _))))))))
  rw [ew, hr]
/-- There is one answer. -/
theorem ev_det {α : Type} {g : Nat → Option α} {a b : α} (h1 : Ev g a) (h2 : Ev g b) : a = b := by
  obtain ⟨m, hm⟩ := h1
  obtain ⟨n, hn⟩ := h2
  have e1 := hm (m + n) (Nat.le_add_right m n)
  have e2 := hn (m + n) (Nat.le_add_left n m)
  rw [e1] at e2
  exact Option.some.inj e2

theorem sSignal_l0 (l : List Int) (hl : l.length ≤ 1048576) : ∀ (d i : Nat), i + d = l.length → Ev (fun k => spec_SignalOk.l0 k l (i : Int)) (decide (l.length ≤ 512) && wideB 1000000000 (l.drop i)) := by
  intro d
  induction d with
  | zero =>
    intro i hd
    refine Ev.fin (fun k => ?_)
    rw [spec_SignalOk.l0, if_neg (by omega), List.drop_of_length_le (by omega)]
    have : wideB 1000000000 [] = true := rfl
    rw [this, Bool.and_true]
    congr 1; rw [Bool.eq_iff_iff]; simp; omega
  | succ d ih =>
    intro i hd
    rw [drop_rd (i := i) (by omega)]
    have ec : wideB 1000000000 (rd l (i : Int) :: l.drop (i + 1)) = (decide (-1000000000 ≤ rd l (i : Int) ∧ rd l (i : Int) ≤ 1000000000) && wideB 1000000000 (l.drop (i + 1))) := rfl
    rw [ec]
    have e5 : spec_l5Sample.f (rd l (i : Int)) = some (decide (-1000000000 ≤ rd l (i : Int) ∧ rd l (i : Int) ≤ 1000000000)) := by
      unfold spec_l5Sample.f; rw [l1In_eq, Option.bind_some]
    by_cases h : -1000000000 ≤ rd l (i : Int) ∧ rd l (i : Int) ≤ 1000000000
    · rw [decide_eq_true h] at e5 ⊢
      rw [Bool.true_and]
      refine Ev.step (fun k => ?_) (ih (i + 1) (by omega))
      rw [spec_SignalOk.l0, if_pos (by omega), if_pos (by omega), e5, Option.bind_some, if_pos rfl, wsucc (by omega)]
    · rw [decide_eq_false h] at e5 ⊢
      rw [Bool.false_and, Bool.and_false]
      refine Ev.fin (fun k => ?_)
      rw [spec_SignalOk.l0, if_pos (by omega), if_pos (by omega), e5, Option.bind_some, if_neg (by decide)]
theorem sSignalOk_ev (l : List Int) (hl : l.length ≤ 1048576) : Ev (fun k => spec_SignalOk.f k l) (signalB l) := sSignal_l0 l hl l.length 0 (by omega)

theorem l9Wide_l0 (l : List Int) (s : Int) (hs : 0 ≤ s ∧ s ≤ 4000000000000000000) (hl : l.length ≤ 1048576) : ∀ (d i : Nat), i + d = l.length → Ev (fun k => spec_l9Wide.l0 k l s (i : Int)) (wideB s (l.drop i)) := by
  intro d
  induction d with
  | zero =>
    intro i hd
    refine Ev.fin (fun k => ?_)
    rw [spec_l9Wide.l0, if_neg (by omega), List.drop_of_length_le (by omega)]
    rfl
  | succ d ih =>
    intro i hd
    have ew : wrap64 (-s) = -s := w64 (by omega) (by omega)
    rw [drop_rd (i := i) (by omega)]
    have ec : wideB s (rd l (i : Int) :: l.drop (i + 1)) = (decide (-s ≤ rd l (i : Int) ∧ rd l (i : Int) ≤ s) && wideB s (l.drop (i + 1))) := rfl
    rw [ec]
    by_cases h : -s ≤ rd l (i : Int) ∧ rd l (i : Int) ≤ s
    · rw [decide_eq_true h, Bool.true_and]
      refine Ev.step (fun k => ?_) (ih (i + 1) (by omega))
      rw [spec_l9Wide.l0, if_pos (by omega), if_pos (by omega), ew, l1In_eq, Option.bind_some, decide_eq_true h, if_pos rfl, wsucc (by omega)]
    · rw [decide_eq_false h, Bool.false_and]
      refine Ev.fin (fun k => ?_)
      rw [spec_l9Wide.l0, if_pos (by omega), if_pos (by omega), ew, l1In_eq, Option.bind_some, decide_eq_false h, if_neg (by decide)]
theorem l9Wide_ev (l : List Int) (s : Int) (hs : 0 ≤ s ∧ s ≤ 4000000000000000000) (hl : l.length ≤ 1048576) : Ev (fun k => spec_l9Wide.f k l s) (wideB s l) := l9Wide_l0 l s hs hl l.length 0 (by omega)

/-- The sum of products from a state on. -/
def dotG (l p : List Int) (at_ : Nat) : Nat → Nat → Int → Int
  | 0, _, s => s
  | d + 1, j, s => dotG l p at_ d (j + 1) (wrap64 (s + wrap64 (rd p (j : Int) * rd l ((at_ + j : Nat) : Int))))
def matchL (l p : List Int) : Nat → Nat → List Int
  | 0, _ => []
  | d + 1, i => dotG l p i p.length 0 0 :: matchL l p d (i + 1)
theorem matchL_len (l p : List Int) : ∀ d i, (matchL l p d i).length = d
  | 0, _ => rfl
  | d + 1, i => by simp [matchL, matchL_len l p d]
theorem Match_l1 (l p : List Int) (hl : l.length ≤ 512) (hp : p.length ≤ 512) (i : Nat) (hi : i + p.length ≤ l.length) (acc : List Int) (ha : acc.length ≤ 1024) (R : List Int × Bool) : ∀ (d j : Nat) (s : Int), j + d = p.length →
    (Ev (fun k => spec_Match.l0 k l p (acc ++ [dotG l p i d j s]) ((i + 1 : Nat) : Int)) R → Ev (fun k => spec_Match.l1 k l p acc (i : Int) s (j : Int)) R) ∧
    (Ev (fun k => impl_Match.l0 k l p (acc ++ [dotG l p i d j s]) ((i + 1 : Nat) : Int)) R → Ev (fun k => impl_Match.l1 k l p acc (i : Int) s p (p.length : Int) (j : Int)) R) := by
  intro d
  induction d with
  | zero =>
    intro j s hd
    refine ⟨fun h => Ev.step (fun k => ?_) h, fun h => Ev.step (fun k => ?_) h⟩
    · rw [spec_Match.l1, if_neg (by omega), if_pos (by omega), wsucc (by omega)]; rfl
    · rw [impl_Match.l1, if_neg (by omega), if_pos (by omega), wsucc (by omega)]; rfl
  | succ d ih =>
    intro j s hd
    have ih := ih (j + 1) (wrap64 (s + wrap64 (rd p (j : Int) * rd l ((i + j : Nat) : Int)))) (by omega)
    have e : wrap64 ((i : Int) + (j : Int)) = ((i + j : Nat) : Int) := by rw [w64 (by omega) (by omega)]; omega
    refine ⟨fun h => Ev.step (fun k => ?_) (ih.1 h), fun h => Ev.step (fun k => ?_) (ih.2 h)⟩
    · rw [spec_Match.l1, if_pos (by omega), if_pos (by omega), e, if_pos (by omega), if_pos (by omega), wsucc (by omega)]
    · rw [impl_Match.l1, if_pos (by omega), if_pos (by omega), if_pos (by omega), e, if_pos (by omega), if_pos (by omega), wsucc (by omega)]
theorem Match_l0 (l p : List Int) (hl : l.length ≤ 512) (hp : p.length ≤ l.length) : ∀ (d i : Nat) (acc : List Int), i + d + p.length = l.length + 1 → acc.length = i →
    Ev (fun k => spec_Match.l0 k l p acc (i : Int)) (acc ++ matchL l p d i, true) ∧ Ev (fun k => impl_Match.l0 k l p acc (i : Int)) (acc ++ matchL l p d i, true) := by
  intro d
  induction d with
  | zero =>
    intro i acc hd ha
    have e : wrap64 ((i : Int) + (p.length : Int)) = ((i + p.length : Nat) : Int) := by rw [w64 (by omega) (by omega)]; omega
    rw [matchL, List.append_nil]
    exact ⟨Ev.fin (fun k => by rw [spec_Match.l0, e, if_neg (by omega)]), Ev.fin (fun k => by rw [impl_Match.l0, e, if_neg (by omega)])⟩
  | succ d ih =>
    intro i acc hd ha
    have e : wrap64 ((i : Int) + (p.length : Int)) = ((i + p.length : Nat) : Int) := by rw [w64 (by omega) (by omega)]; omega
    have h1 := Match_l1 l p hl (by omega) i (by omega) acc (by omega) (acc ++ matchL l p (d + 1) i, true) p.length 0 0 (by omega)
    have ih := ih (i + 1) (acc ++ [dotG l p i p.length 0 0]) (by omega) (by simp; omega)
    rw [List.append_assoc] at ih
    refine ⟨Ev.step (fun k => ?_) (h1.1 ih.1), Ev.step (fun k => ?_) (h1.2 ih.2)⟩
    · rw [spec_Match.l0, e, if_pos (by omega)]; rfl
    · rw [impl_Match.l0, e, if_pos (by omega)]; rfl
def matchM (l p : List Int) : List Int × Bool := if signalB l = true ∧ signalB p = true ∧ p.length ≠ 0 ∧ p.length ≤ l.length ∧ wideB 1000000 l = true ∧ wideB 1000000 p = true then (matchL l p (l.length + 1 - p.length) 0, true) else ([], false)
theorem sMatch_ev (l p : List Int) (hl : l.length ≤ 1048576) (hp : p.length ≤ 1048576) : Ev (fun k => spec_Match.f k l p) (matchM l p) := by
  unfold spec_Match.f matchM
  refine Ev.bind0 rfl (Ev.bind (sSignalOk_ev l hl) ?_)
  by_cases h1 : signalB l = true
  · refine Ev.pos h1 (Ev.bind (sSignalOk_ev p hp) ?_)
    by_cases h2 : signalB p = true
    · refine Ev.pos h2 ?_
      by_cases h3 : (p.length : Int) = 0
      · rw [if_neg (fun h => h.2.2.1 (by omega))]
        exact Ev.pos h3 (Ev.fin (fun k => by rw [spec_Match.j0]; rfl))
      refine Ev.neg h3 ?_
      by_cases h4 : (p.length : Int) > (l.length : Int)
      · rw [if_neg (fun h => absurd h.2.2.2.1 (by omega))]
        exact Ev.pos h4 (Ev.fin (fun k => by rw [spec_Match.j0]; rfl))
      refine Ev.neg h4 (Ev.bind (l9Wide_ev l _ (by omega) hl) ?_)
      by_cases h5 : wideB 1000000 l = true
      · refine Ev.pos h5 (Ev.bind (l9Wide_ev p _ (by omega) hp) ?_)
        by_cases h6 : wideB 1000000 p = true
        · rw [if_pos ⟨h1, h2, by omega, by omega, h5, h6⟩, h6]
          have hn := signalB_len h1
          refine Ev.step (fun k => ?_) (Match_l0 l p hn (by omega) (l.length + 1 - p.length) 0 [] (by omega) rfl).1
          rw [spec_Match.j0]; rfl
        · rw [if_neg (fun h => h6 h.2.2.2.2.2), Bool.eq_false_iff.mpr h6]
          exact Ev.fin (fun k => by rw [spec_Match.j0]; rfl)
      · rw [if_neg (fun h => h5 h.2.2.2.2.1)]
        exact Ev.neg h5 (Ev.fin (fun k => by rw [spec_Match.j0]; rfl))
    · rw [if_neg (fun h => h2 h.2.1)]
      exact Ev.neg h2 (Ev.fin (fun k => by rw [spec_Match.j0]; rfl))
  · rw [if_neg (fun h => h1 h.1)]
    exact Ev.neg h1 (Ev.fin (fun k => by rw [spec_Match.j0]; rfl))
theorem iMatch_ev (l p : List Int) (hl : l.length ≤ 1048576) (hp : p.length ≤ 1048576) : Ev (fun k => impl_Match.f k l p) (matchM l p) := by
  unfold impl_Match.f matchM
  refine Ev.bind (iSignalOk_ev l hl) ?_
  by_cases h1 : signalB l = true
  · refine Ev.pos h1 (Ev.bind (iSignalOk_ev p hp) ?_)
    by_cases h2 : signalB p = true
    · refine Ev.pos h2 ?_
      by_cases h3 : (p.length : Int) = 0
      · rw [if_neg (fun h => h.2.2.1 (by omega))]
        exact Ev.pos h3 (Ev.fin (fun k => by rw [impl_Match.j0]; rfl))
      refine Ev.neg h3 ?_
      by_cases h4 : (p.length : Int) > (l.length : Int)
      · rw [if_neg (fun h => absurd h.2.2.2.1 (by omega))]
        exact Ev.pos h4 (Ev.fin (fun k => by rw [impl_Match.j0]; rfl))
      refine Ev.neg h4 (Ev.bind (within_ev l _ (by omega) hl) ?_)
      by_cases h5 : wideB 1000000 l = true
      · refine Ev.pos h5 (Ev.bind (within_ev p _ (by omega) hp) ?_)
        by_cases h6 : wideB 1000000 p = true
        · rw [if_pos ⟨h1, h2, by omega, by omega, h5, h6⟩, h6]
          have hn := signalB_len h1
          refine Ev.step (fun k => ?_) (Match_l0 l p hn (by omega) (l.length + 1 - p.length) 0 [] (by omega) rfl).2
          rw [impl_Match.j0]; rfl
        · rw [if_neg (fun h => h6 h.2.2.2.2.2), Bool.eq_false_iff.mpr h6]
          exact Ev.fin (fun k => by rw [impl_Match.j0]; rfl)
      · rw [if_neg (fun h => h5 h.2.2.2.2.1)]
        exact Ev.neg h5 (Ev.fin (fun k => by rw [impl_Match.j0]; rfl))
    · rw [if_neg (fun h => h2 h.2.1)]
      exact Ev.neg h2 (Ev.fin (fun k => by rw [impl_Match.j0]; rfl))
  · rw [if_neg (fun h => h1 h.1)]
    exact Ev.neg h1 (Ev.fin (fun k => by rw [impl_Match.j0]; rfl))
theorem Match_both (l p : List Int) (hl : l.length ≤ 1048576) (hp : p.length ≤ 1048576) : ∃ r ok, Ev (fun k => spec_Match.f k l p) (r, ok) ∧ Ev (fun k => impl_Match.f k l p) (r, ok) ∧ r.length ≤ 17592186044416 := by
  refine ⟨(matchM l p).1, (matchM l p).2, sMatch_ev l p hl hp, iMatch_ev l p hl hp, ?_⟩
  unfold matchM
  split
  · simp only [matchL_len]; omega
  · simp

/-- The place of the greatest number (the first of some). -/
def bestAt (r : List Int) : Nat → Nat → Nat → Nat
  | 0, _, a => a
  | d + 1, i, a => bestAt r d (i + 1) (if rd r (i : Int) > rd r (a : Int) then i else a)
theorem bestAt_ok (r : List Int) : ∀ (d i a : Nat), i + d = r.length → a < r.length → (∀ j, j < i → rd r (j : Int) ≤ rd r (a : Int)) →
    bestAt r d i a < r.length ∧ ∀ j, j < r.length → rd r (j : Int) ≤ rd r ((bestAt r d i a : Nat) : Int) := by
  intro d
  induction d with
  | zero => intro i a hd ha h; exact ⟨ha, fun j hj => h j (by omega)⟩
  | succ d ih =>
    intro i a hd ha h
    unfold bestAt
    by_cases hc : rd r (i : Int) > rd r (a : Int)
    · rw [if_pos hc]
      refine ih (i + 1) i (by omega) (by omega) (fun j hj => ?_)
      rcases Nat.lt_or_ge j i with h1 | h1
      · have := h j h1; omega
      · obtain rfl : j = i := by omega
        omega
    · rw [if_neg hc]
      refine ih (i + 1) a (by omega) ha (fun j hj => ?_)
      rcases Nat.lt_or_ge j i with h1 | h1
      · exact h j h1
      · obtain rfl : j = i := by omega
        omega
theorem iBest_loops (r : List Int) (hr : r.length ≤ 1048576) : ∀ (d i a : Nat), i + d = r.length → a < r.length →
    Ev (fun k => impl_Best.l0 k r (a : Int) r (r.length : Int) (i : Int)) (((bestAt r d i a : Nat) : Int), rd r ((bestAt r d i a : Nat) : Int)) := by
  intro d
  induction d with
  | zero =>
    intro i a hd ha
    exact Ev.fin (fun k => by rw [impl_Best.l0, if_neg (by omega), if_pos (by omega), if_pos (by omega)]; rfl)
  | succ d ih =>
    intro i a hd ha
    unfold bestAt
    by_cases hc : rd r (i : Int) > rd r (a : Int)
    · rw [if_pos hc]
      refine Ev.step (fun k => ?_) (ih (i + 1) i (by omega) (by omega))
      rw [impl_Best.l0, if_pos (by omega), if_pos (by omega), if_pos (by omega), if_pos (by omega), if_pos (by omega), if_pos hc, wsucc (by omega)]
    · rw [if_neg hc]
      refine Ev.step (fun k => ?_) (ih (i + 1) a (by omega) ha)
      rw [impl_Best.l0, if_pos (by omega), if_pos (by omega), if_pos (by omega), if_pos (by omega), if_pos (by omega), if_neg hc, wsucc (by omega)]
def bestM (l p : List Int) : Int × Int := if (matchM l p).2 = true then (((bestAt (matchM l p).1 (matchM l p).1.length 0 0 : Nat) : Int), rd (matchM l p).1 ((bestAt (matchM l p).1 (matchM l p).1.length 0 0 : Nat) : Int)) else (-1, 0)
theorem matchM_pos {l p : List Int} (h : (matchM l p).2 = true) : (matchM l p).1.length ≠ 0 ∧ (matchM l p).1.length ≤ 513 := by
  unfold matchM at h ⊢
  split at h
  · next hc =>
    rw [if_pos hc]
    have := signalB_len hc.1
    simp only [matchL_len]
    omega
  · simp at h
theorem iBest_ev (l p : List Int) (hl : l.length ≤ 1048576) (hp : p.length ≤ 1048576) : Ev (fun k => impl_Best.f k l p) (bestM l p) := by
  unfold impl_Best.f bestM
  refine Ev.bind (iMatch_ev l p hl hp) ?_
  by_cases h : (matchM l p).2 = true
  · rw [if_pos h]
    have := matchM_pos h
    exact Ev.pos h (iBest_loops (matchM l p).1 (by omega) (matchM l p).1.length 0 0 (by omega) (by omega))
  · rw [if_neg h]
    exact Ev.neg h (Ev.now _)

theorem sameInts_l0 (l : List Int) (hl : l.length ≤ 1048576) : ∀ (d i : Nat), i + d = l.length → Ev (fun k => laws_sameInts.l0 k l l (i : Int)) true := by
  intro d
  induction d with
  | zero =>
    intro i hd
    exact Ev.fin (fun k => by rw [laws_sameInts.l0, if_neg (by omega)])
  | succ d ih =>
    intro i hd
    refine Ev.step (fun k => ?_) (ih (i + 1) (by omega))
    rw [laws_sameInts.l0, if_pos (by omega), if_pos (by omega), if_pos (by omega), if_pos rfl, wsucc (by omega)]
theorem sameInts_ev (l : List Int) (hl : l.length ≤ 1048576) : Ev (fun k => laws_sameInts.f k l l) true := by
  unfold laws_sameInts.f
  exact Ev.pos rfl (sameInts_l0 l hl l.length 0 (by omega))

def pst (list : List Int) (i j : Nat) : Int := if j < i then rd list ((i - 1 - j : Nat) : Int) else 0
def pastL (list : List Int) (i : Nat) : Nat → List Int
  | 0 => []
  | L + 1 => pastL list i L ++ [pst list i L]
theorem pastL_len (list : List Int) (i : Nat) : ∀ L, (pastL list i L).length = L
  | 0 => rfl
  | L + 1 => by show (pastL list i L ++ [_]).length = L + 1; rw [List.length_append, pastL_len list i L]; rfl
theorem rd_snoc_lt {l : List Int} {i : Nat} (h : i < l.length) (x : Int) : rd (l ++ [x]) (i : Int) = rd l (i : Int) := by
  unfold rd
  rw [Int.toNat_natCast, List.getD_eq_getElem?_getD, List.getD_eq_getElem?_getD, List.getElem?_append_left h]
theorem rd_snoc_eq (l : List Int) (x : Int) : rd (l ++ [x]) (l.length : Int) = x := by
  unfold rd
  rw [Int.toNat_natCast, List.getD_eq_getElem?_getD, List.getElem?_append_right (Nat.le_refl _), Nat.sub_self]; rfl
theorem rd_pastL (list : List Int) (i : Nat) : ∀ {L j : Nat}, j < L → rd (pastL list i L) (j : Int) = pst list i j
  | L + 1, j, h => by
    have hl := pastL_len list i L
    show rd (pastL list i L ++ [_]) (j : Int) = _
    by_cases e : j < L
    · rw [rd_snoc_lt (by omega)]; exact rd_pastL list i e
    · obtain rfl : j = L := by omega
      have := rd_snoc_eq (pastL list i j) (pst list i j)
      rw [hl] at this; exact this
theorem pastL_step (list : List Int) (i : Nat) : ∀ L, ([rd list (i : Int)] ++ pastL list i L).take L = pastL list (i + 1) L
  | 0 => rfl
  | L + 1 => by
    have hl := pastL_len list i L
    have ih := pastL_step list i L
    have e1 : pst list (i + 1) L = rd ([rd list (i : Int)] ++ pastL list i (L + 1)) (L : Int) := by
      cases L with
      | zero =>
        unfold pst
        rw [if_pos (by omega)]; rfl
      | succ m =>
        have e2 : rd ([rd list (i : Int)] ++ pastL list i (m + 1 + 1)) ((m + 1 : Nat) : Int) = rd (pastL list i (m + 1 + 1)) (m : Int) := rfl
        rw [e2, rd_pastL list i (by omega)]
        unfold pst
        by_cases h : m < i
        · rw [if_pos h, if_pos (by omega), show i + 1 - 1 - (m + 1) = i - 1 - m by omega]
        · rw [if_neg h, if_neg (by omega)]
    have hlen : ([rd list (i : Int)] ++ pastL list i (L + 1)).length = L + 2 := by rw [List.length_append, pastL_len, List.length_singleton]; omega
    rw [take_rd (by rw [hlen]; omega), ← e1]
    show _ = pastL list (i + 1) L ++ [pst list (i + 1) L]
    rw [← ih]
    congr 1
    show ([rd list (i : Int)] ++ (pastL list i L ++ [pst list i L])).take L = _
    rw [← List.append_assoc, List.take_append_of_le_length (by rw [List.length_append, hl, List.length_singleton]; omega)]
theorem pastL_zero (list : List Int) : ∀ L, pastL list 0 L = List.replicate L 0
  | 0 => rfl
  | L + 1 => by
    show pastL list 0 L ++ [pst list 0 L] = _
    rw [pastL_zero list L, List.replicate_succ']
    rfl
/-- What the filter tells at i, as it reckons. -/
def firS (t list : List Int) (i : Nat) : Nat → Int
  | 0 => wrap64 (rd t 0 * rd list (i : Int))
  | m + 1 => wrap64 (firS t list i m + wrap64 (rd t ((1 + m : Nat) : Int) * pst list i m))
theorem firV_l1 (t list : List Int) (hlist : list.length ≤ 100000) (i L : Nat) (out : List Int) (hp : L + 1 = t.length) (ht : t.length ≤ 1000) (ho : out.length ≤ 100000) (R : List Int × List Int)
    (K : Ev (fun k => impl_fir.l0 k t (pastL list (i + 1) L) (out ++ [firS t list i L]) list (list.length : Int) (wrap64 ((i : Int) + 1))) R) : ∀ (d j : Nat), j + d = L → Ev (fun k => impl_fir.l1 k t (pastL list i L) out (rd list (i : Int)) (firS t list i j) list (list.length : Int) (i : Int) (pastL list i L) ((pastL list i L).length : Int) (j : Int)) R := by
  have hl := pastL_len list i L
  intro d
  induction d with
  | zero =>
    intro j hd
    obtain rfl : j = L := by omega
    refine Ev.step (fun k => ?_) K
    have e : ([rd list (i : Int)] ++ pastL list i j).length = j + 1 := by rw [List.length_append, hl, List.length_singleton]; omega
    rw [hl, impl_fir.l1, if_neg (by omega), if_pos (by omega), Option.bind_some, if_pos (by rw [List.length_singleton, hl]; omega), Option.bind_some, if_pos (by omega), hl, if_pos (by rw [e]; omega), Int.toNat_natCast, pastL_step]
  | succ d ih =>
    intro j hd
    have e1 : wrap64 (1 + (j : Int)) = ((1 + j : Nat) : Int) := by rw [w64 (by omega) (by omega)]; omega
    have h1 := ih (j + 1) (by omega)
    rw [hl] at h1 ⊢
    refine Ev.step (fun k => ?_) h1
    rw [impl_fir.l1, if_pos (by omega), if_pos (by omega), if_pos (by rw [hl]; omega), e1, if_pos (by omega), if_pos (by omega), rd_pastL list i (by omega), wsucc (by omega)]
    rfl
theorem firV_l0 (t list : List Int) (hlist : list.length ≤ 100000) (ht : t.length ≤ 1000) (L : Nat) (hp : L + 1 = t.length) : ∀ (d i : Nat) (out : List Int), i + d = list.length → out.length = i → (∀ j, j < i → rd out (j : Int) = firS t list j L) → ∃ R, Ev (fun k => impl_fir.l0 k t (pastL list i L) out list (list.length : Int) (i : Int)) R ∧ R.1.length = list.length ∧ ∀ j, j < list.length → rd R.1 (j : Int) = firS t list j L := by
  intro d
  induction d with
  | zero =>
    intro i out hd ho hv
    obtain rfl : i = list.length := by omega
    exact ⟨(out, _), Ev.fin (fun k => by rw [impl_fir.l0, if_neg (by omega)]), ho, hv⟩
  | succ d ih =>
    intro i out hd ho hv
    obtain ⟨R, h1, h2, h3⟩ := ih (i + 1) (out ++ [firS t list i L]) (by omega) (by rw [List.length_append, ho]; rfl) (fun j hj => by
      by_cases e : j < i
      · rw [rd_snoc_lt (by omega)]; exact hv j e
      · obtain rfl : j = i := by omega
        have := rd_snoc_eq out (firS t list j L)
        rw [ho] at this; exact this)
    have h4 := firV_l1 t list hlist i L out hp ht (by omega) R (by rw [wsucc (by omega)]; exact h1) L 0 (by omega)
    refine ⟨R, Ev.step (f := fun k => impl_fir.l1 k t (pastL list i L) out (rd list (i : Int)) (firS t list i 0) list (list.length : Int) (i : Int) (pastL list i L) ((pastL list i L).length : Int) ((0 : Nat) : Int)) (fun k => ?_) h4, h2, h3⟩
    rw [impl_fir.l0, if_pos (by omega), if_pos (by omega), if_pos (by omega), if_pos (by omega)]
    rfl
theorem firV (t list : List Int) (hlist : list.length ≤ 100000) (ht : t.length ≤ 1000) (h1 : 1 ≤ t.length) : ∃ R, Ev (fun k => impl_fir.f k t (List.replicate (t.length - 1) 0) list) R ∧ R.1.length = list.length ∧ ∀ j, j < list.length → rd R.1 (j : Int) = firS t list j (t.length - 1) := by
  obtain ⟨R, h2, h3, h4⟩ := firV_l0 t list hlist ht (t.length - 1) (by omega) list.length 0 [] (by omega) rfl (fun j hj => by omega)
  rw [pastL_zero] at h2
  exact ⟨R, Ev.bind0 (clone_eq _ (by rw [List.length_replicate]; omega)) h2, h3, h4⟩
/-! ### Sums of products -/
def zs (g : Nat → Int) : Nat → Int
  | 0 => 0
  | m + 1 => zs g m + g m
theorem zs_congr {g h : Nat → Int} : ∀ {m : Nat}, (∀ k, k < m → g k = h k) → zs g m = zs h m
  | 0, _ => rfl
  | m + 1, e => by
    show zs g m + g m = zs h m + h m
    rw [zs_congr (fun k hk => e k (by omega)), e m (by omega)]
theorem zs_first (g : Nat → Int) : ∀ m, zs g (m + 1) = g 0 + zs (fun k => g (k + 1)) m
  | 0 => by show (0 : Int) + g 0 = g 0 + 0; omega
  | m + 1 => by
    have h := zs_first g m
    show zs g (m + 1) + g (m + 1) = g 0 + (zs (fun k => g (k + 1)) m + g (m + 1))
    omega
theorem zs_rev : ∀ (m : Nat) (g : Nat → Int), zs (fun k => g (m - 1 - k)) m = zs g m
  | 0, _ => rfl
  | m + 1, g => by
    rw [zs_first g m, ← zs_rev m (fun k => g (k + 1))]
    show zs (fun k => g (m + 1 - 1 - k)) m + g (m + 1 - 1 - m) = _
    have e0 : m + 1 - 1 - m = 0 := by omega
    rw [e0, Int.add_comm]
    congr 1
    exact zs_congr fun k hk => by show g (m + 1 - 1 - k) = g (m - 1 - k + 1); congr 1; omega
theorem zs_bound {g : Nat → Int} (hg : ∀ k, -1000000000000 ≤ g k ∧ g k ≤ 1000000000000) : ∀ m : Nat, -1000000000000 * (m : Int) ≤ zs g m ∧ zs g m ≤ 1000000000000 * (m : Int)
  | 0 => by show -1000000000000 * 0 ≤ (0 : Int) ∧ (0 : Int) ≤ 1000000000000 * 0; omega
  | m + 1 => by
    have h1 := zs_bound hg m
    have h2 := hg m
    show _ ≤ zs g m + g m ∧ zs g m + g m ≤ _
    omega
theorem prod_bound {a b : Int} (ha : -1000000 ≤ a ∧ a ≤ 1000000) (hb : -1000000 ≤ b ∧ b ≤ 1000000) : -1000000000000 ≤ a * b ∧ a * b ≤ 1000000000000 := by
  have h : (a * b).natAbs ≤ 1000000 * 1000000 := by
    rw [Int.natAbs_mul]
    exact Nat.mul_le_mul (by omega) (by omega)
  omega
def Wide6 (l : List Int) : Prop := ∀ x ∈ l, -1000000 ≤ x ∧ x ≤ 1000000
theorem rd_wide {l : List Int} (h : Wide6 l) (i : Nat) : -1000000 ≤ rd l (i : Int) ∧ rd l (i : Int) ≤ 1000000 := by
  by_cases hi : i < l.length
  · exact h _ (rd_mem hi)
  · unfold rd
    rw [Int.toNat_natCast, List.getD_eq_getElem?_getD, List.getElem?_eq_none (by omega)]
    decide
theorem dotG_sum (l p : List Int) (hl : Wide6 l) (hp : Wide6 p) (hpl : p.length ≤ 512) (a : Nat) : ∀ (d j : Nat) (s : Int), j + d = p.length → s = zs (fun j => rd p (j : Int) * rd l ((a + j : Nat) : Int)) j → dotG l p a d j s = zs (fun j => rd p (j : Int) * rd l ((a + j : Nat) : Int)) p.length := by
  intro d
  induction d with
  | zero =>
    intro j s hd hs
    obtain rfl : j = p.length := by omega
    rw [dotG]; exact hs
  | succ d ih =>
    intro j s hd hs
    have hb := zs_bound (g := fun j => rd p (j : Int) * rd l ((a + j : Nat) : Int)) (fun k => prod_bound (rd_wide hp k) (rd_wide hl (a + k))) j
    have hpr := prod_bound (rd_wide hp j) (rd_wide hl (a + j))
    rw [dotG]
    refine ih (j + 1) _ (by omega) ?_
    show _ = zs (fun j => rd p (j : Int) * rd l ((a + j : Nat) : Int)) j + rd p (j : Int) * rd l ((a + j : Nat) : Int)
    rw [← hs] at hb ⊢
    generalize rd p (j : Int) * rd l ((a + j : Nat) : Int) = q at *
    rw [w64 (n := q) (by omega) (by omega), w64 (by omega) (by omega)]
theorem firS_sum (t list : List Int) (ht : Wide6 t) (hl : Wide6 list) (i L : Nat) (hL : L ≤ 500) (hi : L ≤ i) : ∀ m, m ≤ L → firS t list i m = zs (fun k => rd t (k : Int) * rd list ((i - k : Nat) : Int)) (m + 1) := by
  intro m
  induction m with
  | zero =>
    intro _
    have hpr := prod_bound (rd_wide ht 0) (rd_wide hl i)
    show wrap64 (rd t ((0 : Nat) : Int) * rd list (i : Int)) = 0 + rd t ((0 : Nat) : Int) * rd list (i : Int)
    rw [w64 (by omega) (by omega)]; omega
  | succ m ih =>
    intro hm
    have hb := zs_bound (g := fun k => rd t (k : Int) * rd list ((i - k : Nat) : Int)) (fun k => prod_bound (rd_wide ht k) (rd_wide hl (i - k))) (m + 1)
    have hpr := prod_bound (rd_wide ht (1 + m)) (rd_wide hl (i - 1 - m))
    show wrap64 (firS t list i m + wrap64 (rd t ((1 + m : Nat) : Int) * pst list i m)) = zs (fun k => rd t (k : Int) * rd list ((i - k : Nat) : Int)) (m + 1) + rd t ((m + 1 : Nat) : Int) * rd list ((i - (m + 1) : Nat) : Int)
    rw [ih (by omega)]
    unfold pst
    rw [if_pos (by omega), show 1 + m = m + 1 by omega, show i - (m + 1) = i - 1 - m by omega]
    rw [show 1 + m = m + 1 by omega] at hpr
    generalize rd t ((m + 1 : Nat) : Int) * rd list ((i - 1 - m : Nat) : Int) = q at *
    generalize zs (fun k => rd t (k : Int) * rd list ((i - k : Nat) : Int)) (m + 1) = z at *
    rw [w64 (n := q) (by omega) (by omega), w64 (by omega) (by omega)]
/-- A pattern turned around. -/
def trn (p : List Int) (L : Nat) : Nat → List Int
  | 0 => []
  | m + 1 => trn p L m ++ [rd p ((L - 1 - m : Nat) : Int)]
theorem trn_len (p : List Int) (L : Nat) : ∀ m, (trn p L m).length = m
  | 0 => rfl
  | m + 1 => by show (trn p L m ++ [_]).length = m + 1; rw [List.length_append, trn_len p L m]; rfl
theorem rd_trn (p : List Int) (L : Nat) : ∀ {m k : Nat}, k < m → rd (trn p L m) (k : Int) = rd p ((L - 1 - k : Nat) : Int)
  | m + 1, k, h => by
    have hl := trn_len p L m
    show rd (trn p L m ++ [_]) (k : Int) = _
    by_cases e : k < m
    · rw [rd_snoc_lt (by omega)]; exact rd_trn p L e
    · obtain rfl : k = m := by omega
      have := rd_snoc_eq (trn p L k) (rd p ((L - 1 - k : Nat) : Int))
      rw [hl] at this; exact this
theorem trn_wide {p : List Int} (h : Wide6 p) (L : Nat) : ∀ m, Wide6 (trn p L m)
  | 0, x, hx => by cases hx
  | m + 1, x, hx => by
    rcases List.mem_append.1 hx with h1 | h1
    · exact trn_wide h L m x h1
    · rw [List.mem_singleton.1 h1]; exact rd_wide h _
theorem match_fir (l p f : List Int) (hl : Wide6 l) (hp : Wide6 p) (hpl : 1 ≤ p.length ∧ p.length ≤ 64) (i : Nat) (hi : i + p.length ≤ l.length) (hf : ∀ j, j < l.length → rd f (j : Int) = firS (trn p p.length p.length) l j (p.length - 1)) :
    dotG l p i p.length 0 0 = rd f ((i + p.length - 1 : Nat) : Int) := by
  rw [dotG_sum l p hl hp (by omega) i p.length 0 0 (by omega) rfl, hf _ (by omega), firS_sum (trn p p.length p.length) l (trn_wide hp _ _) hl _ (p.length - 1) (by omega) (by omega) _ (Nat.le_refl _), show p.length - 1 + 1 = p.length by omega, ← zs_rev p.length]
  refine zs_congr fun k hk => ?_
  rw [rd_trn p p.length hk, show i + p.length - 1 - k = i + (p.length - 1 - k) by omega]
theorem matchL_rd (l p : List Int) : ∀ (d i j : Nat), j < d → rd (matchL l p d i) (j : Int) = dotG l p (i + j) p.length 0 0
  | d + 1, i, 0, _ => by rw [Nat.add_zero]; rfl
  | d + 1, i, j + 1, h => by
    have h1 := matchL_rd l p d (i + 1) j (by omega)
    have e : rd (matchL l p (d + 1) i) ((j + 1 : Nat) : Int) = rd (matchL l p d (i + 1)) (j : Int) := rfl
    rw [e, h1, show i + 1 + j = i + (j + 1) by omega]
theorem Matched_l1 (l p m f : List Int) (most : Int) (hl : l.length ≤ 512) (hpl : 1 ≤ p.length) (hm : m.length + p.length = l.length + 1) (hf : f.length = l.length) (he : ∀ i, i < m.length → rd m (i : Int) = rd f ((i + p.length - 1 : Nat) : Int)) (hmx : ∀ i, i < m.length → rd m (i : Int) ≤ most) : ∀ (d i : Nat), i + d = m.length → Ev (fun k => laws_FnMatched.l1 k l p m most f (i : Int)) true := by
  intro d
  induction d with
  | zero =>
    intro i hd
    have e : wrap64 (wrap64 ((l.length : Int) - (p.length : Int)) + 1) = (m.length : Int) := by rw [w64 (n := (l.length : Int) - (p.length : Int)) (by omega) (by omega), w64 (by omega) (by omega)]; omega
    exact Ev.fin (fun k => by rw [laws_FnMatched.l1, if_neg (by omega), e]; simp)
  | succ d ih =>
    intro i hd
    have e1 : wrap64 (wrap64 ((i : Int) + (p.length : Int)) - 1) = ((i + p.length - 1 : Nat) : Int) := by rw [w64 (n := (i : Int) + (p.length : Int)) (by omega) (by omega), w64 (by omega) (by omega)]; omega
    have h1 := he i (by omega)
    have h2 := hmx i (by omega)
    refine Ev.step (fun k => ?_) (ih (i + 1) (by omega))
    rw [laws_FnMatched.l1, if_pos (by omega), if_pos (by omega), e1, if_pos (by omega), if_pos (by omega), if_pos h1, if_neg (by omega), wsucc (by omega)]
theorem Matched_l0 (l p m : List Int) (w most : Int) (hpl : p.length ≤ 64) (R : Bool) (K : Ev (fun k => laws_FnMatched.l0 k l p m w most (trn p p.length p.length) (-1)) R) : ∀ (d i : Nat), i + d = p.length → Ev (fun k => laws_FnMatched.l0 k l p m w most (trn p p.length i) ((p.length : Int) - 1 - (i : Int))) R := by
  intro d
  induction d with
  | zero =>
    intro i hd
    obtain rfl : i = p.length := by omega
    rw [show (p.length : Int) - 1 - (p.length : Int) = -1 by omega]
    exact K
  | succ d ih =>
    intro i hd
    have hlen := trn_len p p.length i
    have e0 : (p.length : Int) - 1 - (i : Int) = ((p.length - 1 - i : Nat) : Int) := by omega
    have e1 : wrap64 (((p.length - 1 - i : Nat) : Int) - 1) = (p.length : Int) - 1 - ((i + 1 : Nat) : Int) := by rw [w64 (by omega) (by omega)]; omega
    refine Ev.step (fun k => ?_) (ih (i + 1) (by omega))
    rw [e0, laws_FnMatched.l0, if_pos (by omega), if_pos (by omega), if_pos (by omega), if_pos (by omega), e1]
    rfl
theorem DrawMatch_ex (l : List Int) (hl : l.length ≤ 1048576) (hw : Bytes l) : ∃ (a b : List Int), a.length ≤ 1048576 ∧ b.length ≤ 60 ∧ Ev (fun k => spec_DrawMatch.f k l) (a, b) := by
  obtain ⟨h, c0, e0⟩ := l1New_ex l hl hw
  obtain ⟨t, ht1, ht2, et⟩ := l1Size_ex l hl 30 (by omega)
  obtain ⟨a, i1, h1, p1, c1, e1⟩ := l7Small_ex l 0 h t (by omega) c0
  obtain ⟨b, i2, h2, p2, c2, e2⟩ := l7Small_few l i1 h1 6 (by omega) c1
  unfold spec_DrawMatch.f
  by_cases h4 : (a.length : Int) > 4
  · obtain ⟨o, i3, h3, c3, e3⟩ := l1Once_ex l i2 h2 2 c2
    cases o with
    | true =>
      obtain ⟨x, i4, h4', hx, c4, e4⟩ := l1Below_ex l i3 h3 (wrap64 ((a.length : Int) - 3)) c3
      have ew : wrap64 ((a.length : Int) - 3) = (a.length : Int) - 3 := w64 (by omega) (by omega)
      rw [ew] at hx
      have ex : wrap64 ((x : Int) + 3) = ((x + 3 : Nat) : Int) := by rw [w64 (by omega) (by omega)]; omega
      refine ⟨a, [] ++ (a.take (x + 3)).drop x, by omega, ?_, Ev.bind e0 (Ev.bind0 et (Ev.bind e1 (Ev.bind e2 (Ev.pos h4 (Ev.bind0 e3 (Ev.pos rfl (Ev.bind0 e4 (Ev.bind0 rfl (Ev.pos (by omega) (Ev.pos (by rw [ex]; omega) (Ev.pos (show wrap64 ((x : Int) + 3) ≤ (a.length : Int) by rw [ex]; omega) (Ev.bind0 rfl ?_))))))))))))⟩
      · rw [List.nil_append, List.length_drop, List.length_take]; omega
      · rw [ex, Int.toNat_natCast, Int.toNat_natCast]
        refine Ev.pos ?_ (Ev.now _)
        rw [List.length_nil, List.length_drop, List.length_take]; omega
    | false =>
      exact ⟨a, b, by omega, by omega, Ev.bind e0 (Ev.bind0 et (Ev.bind e1 (Ev.bind e2 (Ev.pos h4 (Ev.bind0 e3 (Ev.neg (by simp) (Ev.now _)))))))⟩
  · exact ⟨a, b, by omega, by omega, Ev.bind e0 (Ev.bind0 et (Ev.bind e1 (Ev.bind e2 (Ev.neg h4 (Ev.now _)))))⟩
theorem three_ev : Ev (fun k => impl_Match.f k [1, 2, 3] [1, 1]) ([3, 5], true) := Ev.of (impl_Match.mono _ _) (k := 40) (by decide +kernel)
theorem FnMatched : laws_FnMatched.Pure := by
  intro l hl hl8 hb
  refine Ev.rounds ?_
  unfold laws_FnMatched.f
  refine Ev.bind0 rfl ?_
  by_cases hg : (l.length : Int) > 1048576
  · exact Ev.pos (decide_eq_true hg) (Ev.now true)
  refine Ev.neg (by rw [decide_eq_true_eq]; exact hg) ?_
  obtain ⟨a, p, ha, hp, e0⟩ := DrawMatch_ex l (by omega) hb
  have hI := iMatch_ev a p ha (by omega)
  have hS := sMatch_ev a p ha (by omega)
  have hB := iBest_ev a p ha (by omega)
  refine Ev.bind e0 (Ev.bind hI (Ev.bind hS (Ev.neg (by rw [bne_self_eq_false]; decide) (Ev.bind hB ?_))))
  by_cases hok : (matchM a p).2 = true
  · refine Ev.pos hok ?_
    have hM : signalB a = true ∧ signalB p = true ∧ p.length ≠ 0 ∧ p.length ≤ a.length ∧ wideB 1000000 a = true ∧ wideB 1000000 p = true := by
      unfold matchM at hok
      by_cases h : signalB a = true ∧ signalB p = true ∧ p.length ≠ 0 ∧ p.length ≤ a.length ∧ wideB 1000000 a = true ∧ wideB 1000000 p = true
      · exact h
      · rw [if_neg h] at hok; cases hok
    have hm : (matchM a p).1 = matchL a p (a.length + 1 - p.length) 0 := by unfold matchM; rw [if_pos hM]
    obtain ⟨h1, h2, h3, h4, h5, h6⟩ := hM
    have hal := signalB_len h1
    have hmlen : (matchM a p).1.length = a.length + 1 - p.length := by rw [hm, matchL_len]
    have hba := bestAt_ok (matchM a p).1 (matchM a p).1.length 0 0 (by omega) (by omega) (fun j hj => by omega)
    have hbm : bestM a p = (((bestAt (matchM a p).1 (matchM a p).1.length 0 0 : Nat) : Int), rd (matchM a p).1 ((bestAt (matchM a p).1 (matchM a p).1.length 0 0 : Nat) : Int)) := by unfold bestM; rw [if_pos hok]
    have wa : Wide6 a := fun x hx => wideB_all h5 x hx
    have wp : Wide6 p := fun x hx => wideB_all h6 x hx
    have htl := trn_len p p.length p.length
    have htap : tapsB (trn p p.length p.length) = true := by
      unfold tapsB wideB
      rw [Bool.and_eq_true, decide_eq_true_eq, List.all_eq_true]
      exact ⟨by omega, fun x hx => by rw [decide_eq_true_eq]; exact trn_wide wp _ _ x hx⟩
    obtain ⟨f, q, ef, hf, eF⟩ := Fir_ex (trn p p.length p.length) a h1 htap
    obtain ⟨R, eR, hR1, hR2⟩ := firV (trn p p.length p.length) a (by omega) (by omega) (by omega)
    obtain rfl : R = (f, q) := ev_det eR ef
    rw [htl] at hR2 eF
    have hval : ∀ i, i < (matchM a p).1.length → rd (matchM a p).1 (i : Int) = rd f ((i + p.length - 1 : Nat) : Int) := by
      intro i hi
      rw [hmlen] at hi
      rw [hm, matchL_rd a p _ 0 i hi, Nat.zero_add]
      exact match_fir a p f wa wp (by omega) i (by omega) hR2
    rw [hbm]
    generalize bestAt (matchM a p).1 (matchM a p).1.length 0 0 = b at *
    generalize (matchM a p).1 = m at *
    have ew : wrap64 ((p.length : Int) - 1) = ((p.length - 1 : Nat) : Int) := by rw [w64 (by omega) (by omega)]; omega
    have l1 := Matched_l1 a p m f (rd m (b : Int)) hal (by omega) (by omega) hf hval (fun i hi => hba.2 i hi) m.length 0 (by omega)
    have j1 : Ev (fun k => laws_FnMatched.j1 k a p m (rd m (b : Int)) f (rd m (b : Int) != rd m (b : Int))) true := by
      rw [bne_self_eq_false]
      exact Ev.step (f := fun k => laws_FnMatched.l1 k a p m (rd m (b : Int)) f ((0 : Nat) : Int)) (fun k => by rw [laws_FnMatched.j1, if_neg (by decide)]; rfl) l1
    have body : Ev (fun k => if 0 ≤ (wrap64 ((p.length : Int) - 1)) then (if (wrap64 ((p.length : Int) - 1) : Int).toNat ≤ 35184372088832 then ((impl_Fir.f k (trn p p.length p.length) (List.replicate (wrap64 ((p.length : Int) - 1) : Int).toNat 0) a).bind fun bt299 => (if bt299.2.2 = true then (if (b : Int) < 0 then (laws_FnMatched.j1 k a p m (rd m (b : Int)) bt299.1 true) else (if (b : Int) ≥ (m.length : Int) then (laws_FnMatched.j1 k a p m (rd m (b : Int)) bt299.1 true) else (if 0 ≤ (b : Int) then (if (b : Int) < (m.length : Int) then (laws_FnMatched.j1 k a p m (rd m (b : Int)) bt299.1 ((rd m (b : Int)) != (rd m (b : Int)))) else (none)) else (none)))) else (laws_FnMatched.j1 k a p m (rd m (b : Int)) bt299.1 true))) else (none)) else (none)) true := by
      rw [ew, Int.toNat_natCast]
      refine Ev.pos (by omega) (Ev.pos (by omega) (Ev.bind eF (Ev.pos rfl (Ev.neg (by omega) (Ev.neg (by omega) (Ev.pos (by omega) (Ev.pos (by omega) j1)))))))
    have K : Ev (fun k => laws_FnMatched.l0 k a p m (b : Int) (rd m (b : Int)) (trn p p.length p.length) (-1)) true :=
      Ev.step (fun k => by rw [laws_FnMatched.l0, if_neg (by omega)]) body
    have l0 := Matched_l0 a p m (b : Int) (rd m (b : Int)) (by omega) true K p.length 0 (by omega)
    show Ev (fun k => laws_FnMatched.l0 k a p m (b : Int) (rd m (b : Int)) [] (wrap64 ((p.length : Int) - 1))) true
    have e0' : wrap64 ((p.length : Int) - 1) = (p.length : Int) - 1 - ((0 : Nat) : Int) := by rw [ew]; omega
    rw [e0']
    exact l0
  · refine Ev.neg hok ?_
    have hbm : bestM a p = (-1, 0) := by unfold bestM; rw [if_neg hok]
    rw [hbm]
    exact Ev.bind three_ev (Ev.pos rfl (Ev.bind (sameInts_ev _ (by decide)) (Ev.pos rfl (Ev.pos rfl (Ev.now true)))))

end Go.Proofs.Ytnpoimjdkjhcpaa.Pure
