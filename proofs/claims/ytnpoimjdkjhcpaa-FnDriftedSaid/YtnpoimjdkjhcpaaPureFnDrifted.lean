/- A drawn signal read at whole steps is thinned; read a whole number of samples late it is itself, moved on; no condition. -/
import Derived.Test.YtnpoimjdkjhcpaaQFnDriftedx5
import Derived.Test.YtnpoimjdkjhcpaaCom
set_option linter.unusedVariables false
set_option linter.unusedSimpArgs false
namespace Go.Proofs.Ytnpoimjdkjhcpaa.Pure
open Go.RowKit Go.Proofs.Ytnpoimjdkjhcpaa.PFnDrifted Go.Proofs.YtnpoimjdkjhcpaaW.PrintWords Go.Proofs.YtnpoimjdkjhcpaaW.PrintLast Go.Proofs.Ytnpoimjdkjhcpaa.Com

theorem big_eq (l : List Int) : laws_big.f l = some (decide ((l.length : Int) > 1048576)) := rfl

theorem at_ex (l : List Int) (i : Nat) (hi : i < 1000000) (hl : (l.length : Int) ≤ 1048576) (hw : ∀ x ∈ l, (Lit.int .u8 x).wf = true) : ∃ n : Nat, n < 256 ∧ laws_at.f l (i : Int) = some (n : Int) := by
  unfold laws_at.f
  by_cases h : i < l.length
  · have hb := wfb (hw _ (rd_mem h))
    refine ⟨(rd l (i : Int)).toNat, by omega, ?_⟩
    rw [if_pos (by omega), if_pos (by omega), w64 (by omega) (by omega), Int.toNat_of_nonneg hb.1]
  · refine ⟨(i * 7 + l.length) % 256, by omega, ?_⟩
    rw [if_neg (by omega), w64 (n := (i : Int) * 7) (by omega) (by omega), w64 (by omega) (by omega)]
    congr 1

theorem l1New_l0 (l : List Int) (hl : l.length ≤ 1048576) : ∀ (d i : Nat) (h : Int), i + d = l.length → ∃ h', Ev (fun k => spec_l1New.l0 k l h (i : Int)) (l, 0, h') := by
  intro d
  induction d with
  | zero =>
    intro i h hd
    exact ⟨h, Ev.fin (fun k => by rw [spec_l1New.l0, if_neg (by omega)])⟩
  | succ d ih =>
    intro i h hd
    by_cases h4 : i < 4000
    · obtain ⟨h', e⟩ := ih (i + 1) _ (by omega)
      exact ⟨h', Ev.step (fun k => by rw [spec_l1New.l0, if_pos (by omega), if_pos (by omega), if_pos (by omega), wsucc (by omega)]) e⟩
    · exact ⟨h, Ev.fin (fun k => by rw [spec_l1New.l0, if_pos (by omega), if_neg (by omega)])⟩
theorem l1New_ex (l : List Int) (hl : l.length ≤ 1048576) (hw : Bytes l) : ∃ h, CurOk l 0 ∧ Ev (fun k => spec_l1New.f k l) (l, 0, h) := by
  obtain ⟨h, e⟩ := l1New_l0 l hl l.length 0 (wrap64 (71933 + (l.length : Int))) (by omega)
  exact ⟨h, ⟨by omega, by omega, hl, hw⟩, e⟩

theorem l1Size_ex (l : List Int) (hl : l.length ≤ 1048576) (m : Int) (hm : 2 ≤ m) : ∃ t : Nat, 2 ≤ t ∧ (t : Int) ≤ m ∧ spec_l1Size.f l m = some (t : Int) := by
  unfold spec_l1Size.f
  rw [w64 (n := (l.length : Int) / 20) (by omega) (by omega), w64 (by omega) (by omega)]
  by_cases h : 2 + (l.length : Int) / 20 > m
  · exact ⟨m.toNat, by omega, by omega, by rw [if_pos h, Int.toNat_of_nonneg (by omega)]⟩
  · exact ⟨2 + l.length / 20, by omega, by omega, by rw [if_neg h]; congr 1⟩

theorem l1Byte_ex (s : List Int) (i h : Int) (hc : CurOk s i) : ∃ (x : Nat) (i' h' : Int), x < 256 ∧ CurOk s i' ∧ spec_l1Byte.f s i h = some ((x : Int), i', h') := by
  obtain ⟨h0, h1, h2, h3⟩ := hc
  unfold spec_l1Byte.f
  simp only [and64_255]
  by_cases hi : i < (s.length : Int)
  · rw [if_pos hi, if_pos h0]
    refine ⟨(wrap64 (bits .xor .i64 (wrap64 (wrap64 (h * 6364136223846793005) + 1442695040888963407) / 8589934592) (wrap64 (wrap64 (h * 6364136223846793005) + 1442695040888963407) / 35184372088832) % 256 + wrap64 (rd s i)) % 256).toNat, wrap64 (i + 1), wrap64 (wrap64 (h * 6364136223846793005) + 1442695040888963407), by omega, ⟨?_, ?_, h2, h3⟩, ?_⟩
    · rw [w64 (by omega) (by omega)]; omega
    · rw [w64 (by omega) (by omega)]; omega
    · rw [Int.toNat_of_nonneg (by omega)]
  · rw [if_neg hi]
    refine ⟨(bits .xor .i64 (wrap64 (wrap64 (h * 6364136223846793005) + 1442695040888963407) / 8589934592) (wrap64 (wrap64 (h * 6364136223846793005) + 1442695040888963407) / 35184372088832) % 256).toNat, i, wrap64 (wrap64 (h * 6364136223846793005) + 1442695040888963407), by omega, ⟨h0, h1, h2, h3⟩, ?_⟩
    rw [Int.toNat_of_nonneg (by omega)]

theorem l1Below_ex (s : List Int) (i h n : Int) (hc : CurOk s i) : ∃ (x : Nat) (i' h' : Int), ((x : Int) < n ∨ n ≤ 0 ∧ x = 0) ∧ CurOk s i' ∧ spec_l1Below.f s i h n = some ((x : Int), i', h') := by
  unfold spec_l1Below.f
  by_cases hn : n ≤ 0
  · exact ⟨0, i, h, .inr ⟨hn, rfl⟩, hc, by rw [if_pos hn]; rfl⟩
  rw [if_neg hn]
  obtain ⟨x, i1, h1, hx, c1, e1⟩ := l1Byte_ex s i h hc
  by_cases hn2 : n ≤ 256
  · rw [if_pos hn2, e1, Option.bind_some, if_neg (by omega)]
    have := Int.emod_lt_of_pos (x : Int) (show 0 < n by omega)
    have := Int.emod_nonneg (x : Int) (show n ≠ 0 by omega)
    refine ⟨((x : Int) % n).toNat, i1, h1, .inl (by omega), c1, ?_⟩
    rw [Int.tmod_eq_emod_of_nonneg (by omega), Int.toNat_of_nonneg (by omega)]
  · rw [if_neg hn2]
    obtain ⟨y, i2, h2, hy, c2, e2⟩ := l1Byte_ex s i1 h1 c1
    obtain ⟨z, i3, h3, hz, c3, e3⟩ := l1Byte_ex s i2 h2 c2
    obtain ⟨w, i4, h4, hw, c4, e4⟩ := l1Byte_ex s i3 h3 c3
    simp only [e1, e2, e3, e4, Option.bind_some]
    rw [if_neg (by omega), w64 (n := (x : Int) * 16777216) (by omega) (by omega), w64 (n := (y : Int) * 65536) (by omega) (by omega), w64 (n := (z : Int) * 256) (by omega) (by omega)]
    rw [w64 (n := (x : Int) * 16777216 + (y : Int) * 65536) (by omega) (by omega), w64 (n := (x : Int) * 16777216 + (y : Int) * 65536 + (z : Int) * 256) (by omega) (by omega), w64 (by omega) (by omega)]
    generalize hv : (x : Int) * 16777216 + (y : Int) * 65536 + (z : Int) * 256 + (w : Int) = v
    have hv0 : 0 ≤ v := by omega
    have := Int.emod_lt_of_pos v (show 0 < n by omega)
    have := Int.emod_nonneg v (show n ≠ 0 by omega)
    refine ⟨(v % n).toNat, i4, h4, .inl (by omega), c4, ?_⟩
    rw [Int.tmod_eq_emod_of_nonneg hv0, Int.toNat_of_nonneg (by omega)]

theorem l1Once_ex (s : List Int) (i h n : Int) (hc : CurOk s i) : ∃ (b : Bool) (i' h' : Int), CurOk s i' ∧ spec_l1Once.f s i h n = some (b, i', h') := by
  obtain ⟨x, i1, h1, _, c1, e1⟩ := l1Below_ex s i h n hc
  refine ⟨((x : Int) == 0), i1, h1, c1, ?_⟩
  unfold spec_l1Once.f
  rw [e1, Option.bind_some]

theorem l1PickInt_ex (s : List Int) (i h : Int) (l : List Int) (hl : l.length ≠ 0) (hc : CurOk s i) : ∃ (x : Int) (i' h' : Int), x ∈ l ∧ CurOk s i' ∧ spec_l1PickInt.f s i h l = some (x, i', h') := by
  obtain ⟨x, i1, h1, hx, c1, e1⟩ := l1Below_ex s i h (l.length : Int) hc
  have hlt : x < l.length := by omega
  refine ⟨rd l (x : Int), i1, h1, rd_mem hlt, c1, ?_⟩
  unfold spec_l1PickInt.f
  rw [e1, Option.bind_some, if_pos (by omega), if_pos (by omega)]

theorem l5DrawSample_ex (s : List Int) (i h : Int) (hc : CurOk s i) : ∃ (x i' h' : Int), (-1000000000 ≤ x ∧ x ≤ 1000000000) ∧ CurOk s i' ∧ spec_l5DrawSample.f s i h = some (x, i', h') := by
  obtain ⟨a, i1, h1, ha, c1, e1⟩ := l1Below_ex s i h 5 hc
  unfold spec_l5DrawSample.f
  rw [e1, Option.bind_some]
  by_cases h0 : (a : Int) = 0
  · obtain ⟨b, i2, h2, hb, c2, e2⟩ := l1Below_ex s i1 h1 21 c1
    exact ⟨wrap64 ((b : Int) - 10), i2, h2, by rw [w64 (by omega) (by omega)]; omega, c2, by rw [if_pos h0, e2, Option.bind_some]⟩
  · rw [if_neg h0]
    by_cases h1' : (a : Int) = 1
    · obtain ⟨b, i2, h2, hb, c2, e2⟩ := l1Below_ex s i1 h1 65536 c1
      exact ⟨wrap64 ((b : Int) - 32768), i2, h2, by rw [w64 (by omega) (by omega)]; omega, c2, by rw [if_pos h1', e2, Option.bind_some]⟩
    · rw [if_neg h1']
      by_cases h2' : (a : Int) = 2
      · rw [if_pos h2']
        obtain ⟨b, i2, h2, c2, e2⟩ := l1Once_ex s i1 h1 12 c1
        rw [e2, Option.bind_some]
        cases b with
        | true =>
          obtain ⟨x, i3, h3, hx, c3, e3⟩ := l1PickInt_ex s i2 h2 [1000000000, (-1000000000), 0] (by decide) c2
          refine ⟨x, i3, h3, ?_, c3, by rw [if_pos rfl, e3, Option.bind_some]⟩
          simp only [List.mem_cons, List.not_mem_nil, or_false] at hx
          omega
        | false =>
          obtain ⟨b, i3, h3, hb, c3, e3⟩ := l1Below_ex s i2 h2 2001 c2
          exact ⟨wrap64 ((b : Int) - 1000), i3, h3, by rw [w64 (by omega) (by omega)]; omega, c3, by rw [if_neg (by simp), e3, Option.bind_some]⟩
      · obtain ⟨b, i3, h3, hb, c3, e3⟩ := l1Below_ex s i1 h1 2001 c1
        exact ⟨wrap64 ((b : Int) - 1000), i3, h3, by rw [w64 (by omega) (by omega)]; omega, c3, by rw [if_neg h2', e3, Option.bind_some]⟩
/-- All numbers of a list within ten to the ninth, and one. -/
def Near (l : List Int) : Prop := ∀ x ∈ l, -1000000001 ≤ x ∧ x ≤ 1000000001
theorem Near.snoc {l : List Int} {x : Int} (h : Near l) (hx : -1000000001 ≤ x ∧ x ≤ 1000000001) : Near (l ++ [x]) := by
  intro y hy
  rcases List.mem_append.mp hy with hy | hy
  · exact h y hy
  · rw [List.mem_singleton.mp hy]; exact hx
theorem l5Draw_l0 (s : List Int) : ∀ (n : Nat) (acc : List Int) (i h : Int), acc.length + n ≤ 1048576 → Near acc → CurOk s i → ∃ r i' h', r.length = acc.length + n ∧ Near r ∧ CurOk s i' ∧ Ev (fun k => spec_l5Draw.l0 k acc (n : Int) s i h) (r, i', h') := by
  intro n
  induction n with
  | zero =>
    intro acc i h ha hb hc
    exact ⟨acc, i, h, rfl, hb, hc, Ev.fin (fun k => by rw [spec_l5Draw.l0, if_neg (by omega)])⟩
  | succ n ih =>
    intro acc i h ha hb hc
    obtain ⟨x, i1, h1, hx, c1, e1⟩ := l5DrawSample_ex s i h hc
    obtain ⟨r, i2, h2, p1, p2, p3, e⟩ := ih (acc ++ [x]) i1 h1 (by simp; omega) (hb.snoc (by omega)) c1
    refine ⟨r, i2, h2, by rw [p1]; simp; omega, p2, p3, Ev.step (fun k => ?_) e⟩
    rw [spec_l5Draw.l0, if_pos (by omega), e1, Option.bind_some, if_pos (by omega), w64 (by omega) (by omega), show ((n + 1 : Nat) : Int) - 1 = (n : Int) by omega]
theorem l5Draw_ex (s : List Int) (i h : Int) (m : Nat) (hm : m ≤ 1000000) (hc : CurOk s i) : ∃ r i' h', r.length ≤ m ∧ Near r ∧ CurOk s i' ∧ Ev (fun k => spec_l5Draw.f k s i h (m : Int)) (r, i', h') := by
  unfold spec_l5Draw.f
  obtain ⟨x, i1, h1, hx, c1, e1⟩ := l1Below_ex s i h ((m + 1 : Nat) : Int) hc
  obtain ⟨r, i2, h2, p1, p2, p3, e⟩ := l5Draw_l0 s x [] i1 h1 (by simp; omega) (fun y hy => by cases hy) c1
  refine ⟨r, i2, h2, by rw [p1]; simp; omega, p2, p3, Ev.bind0 (by rw [wsucc (by omega)]; exact e1) e⟩
theorem l5DrawAny_ex (s : List Int) (i h : Int) (m : Nat) (hm : m ≤ 1000000) (hc : CurOk s i) : ∃ r i' h', r.length ≤ 1000513 ∧ Near r ∧ CurOk s i' ∧ Ev (fun k => spec_l5DrawAny.f k s i h (m : Int)) (r, i', h') := by
  unfold spec_l5DrawAny.f
  obtain ⟨r, i1, h1, p1, p2, c1, e1⟩ := l5Draw_ex s i h m hm hc
  obtain ⟨b, i2, h2, c2, e2⟩ := l1Once_ex s i1 h1 25 c1
  have tail : ∀ (l : List Int) (i h : Int), l.length ≤ 1000001 → Near l → CurOk s i → ∃ r i' h', r.length ≤ 1000513 ∧ Near r ∧ CurOk s i' ∧ Ev (fun k => spec_l5DrawAny.j0 k l s i h) (r, i', h') := by
    intro l i h hl hn hc
    obtain ⟨b, i1, h1, c1, e1⟩ := l1Once_ex s i h 80 hc
    cases b with
    | true =>
      obtain ⟨x, i2, h2, hx, c2, e2⟩ := l1Below_ex s i1 h1 2 c1
      have ew : wrap64 (512 + (x : Int)) = 512 + (x : Int) := w64 (by omega) (by omega)
      refine ⟨List.replicate (512 + (x : Int)).toNat 0, i2, h2, by simp; omega, ?_, c2, Ev.fin (fun k => ?_)⟩
      · intro y hy
        rw [(List.mem_replicate.mp hy).2]
        omega
      · rw [spec_l5DrawAny.j0, e1, Option.bind_some, if_pos rfl, e2, Option.bind_some, ew, if_pos (by omega), if_pos (by omega)]
    | false =>
      refine ⟨l, i1, h1, by omega, hn, c1, Ev.fin (fun k => ?_)⟩
      rw [spec_l5DrawAny.j0, e1, Option.bind_some, if_neg (by simp)]
  cases b with
  | true =>
    obtain ⟨x, i3, h3, hx, c3, e3⟩ := l1PickInt_ex s i2 h2 [1000000001, (-1000000001)] (by decide) c2
    have hx2 : -1000000001 ≤ x ∧ x ≤ 1000000001 := by
      simp only [List.mem_cons, List.not_mem_nil, or_false] at hx
      omega
    obtain ⟨r2, i4, h4, q1, q2, q3, q4⟩ := tail (r ++ [x]) i3 h3 (by simp; omega) (p2.snoc hx2) c3
    exact ⟨r2, i4, h4, q1, q2, q3, Ev.bind e1 (Ev.bind0 e2 (Ev.pos rfl (Ev.bind0 e3 (Ev.pos (show r.length < 17592186044416 by omega) q4))))⟩
  | false =>
    obtain ⟨r2, i4, h4, q1, q2, q3, q4⟩ := tail r i2 h2 (by omega) p2 c2
    exact ⟨r2, i4, h4, q1, q2, q3, Ev.bind e1 (Ev.bind0 e2 (Ev.neg (by simp) q4))⟩

theorem l1In_eq (a b c : Int) : spec_l1In.f a b c = some (decide (b ≤ a ∧ a ≤ c)) := by
  unfold spec_l1In.f
  by_cases h : b ≤ a
  · rw [if_pos h]; simp [h]
  · rw [if_neg h]; simp [h]

/-- All numbers are of at most a size. -/
def wideB (s : Int) (l : List Int) : Bool := l.all fun x => decide (-s ≤ x ∧ x ≤ s)
def signalB (l : List Int) : Bool := decide (l.length ≤ 512) && wideB 1000000000 l
theorem wideB_all {s : Int} {l : List Int} (h : wideB s l = true) : ∀ x ∈ l, -s ≤ x ∧ x ≤ s := by
  intro x hx
  have := List.all_eq_true.mp h x hx
  simpa using this
theorem signalB_len {l : List Int} (h : signalB l = true) : l.length ≤ 512 := by
  unfold signalB at h
  rw [Bool.and_eq_true] at h
  exact of_decide_eq_true h.1
theorem signalB_wide {l : List Int} (h : signalB l = true) : ∀ x ∈ l, -1000000000 ≤ x ∧ x ≤ 1000000000 := by
  unfold signalB at h
  rw [Bool.and_eq_true] at h
  exact wideB_all h.2

theorem sSignal_l0 (l : List Int) (hl : l.length ≤ 1048576) : ∀ (d i : Nat), i + d = l.length → Ev (fun k => spec_SignalOk.l0 k l (i : Int)) (decide (l.length ≤ 512) && wideB 1000000000 (l.drop i)) := by
  intro d
  induction d with
  | zero =>
    intro i hd
    refine Ev.fin (fun k => ?_)
    rw [spec_SignalOk.l0, if_neg (by omega), List.drop_of_length_le (by omega)]
    have : wideB 1000000000 [] = true := rfl
    rw [this, Bool.and_true]
    congr 1; rw [Bool.eq_iff_iff]; simp; omega
  | succ d ih =>
    intro i hd
    rw [drop_rd (i := i) (by omega)]
    have ec : wideB 1000000000 (rd l (i : Int) :: l.drop (i + 1)) = (decide (-1000000000 ≤ rd l (i : Int) ∧ rd l (i : Int) ≤ 1000000000) && wideB 1000000000 (l.drop (i + 1))) := rfl
    rw [ec]
    have e5 : spec_l5Sample.f (rd l (i : Int)) = some (decide (-1000000000 ≤ rd l (i : Int) ∧ rd l (i : Int) ≤ 1000000000)) := by
      unfold spec_l5Sample.f; rw [l1In_eq, Option.bind_some]
    by_cases h : -1000000000 ≤ rd l (i : Int) ∧ rd l (i : Int) ≤ 1000000000
    · rw [decide_eq_true h] at e5 ⊢
      rw [Bool.true_and]
      refine Ev.step (fun k => ?_) (ih (i + 1) (by omega))
      rw [spec_SignalOk.l0, if_pos (by omega), if_pos (by omega), e5, Option.bind_some, if_pos rfl, wsucc (by omega)]
    · rw [decide_eq_false h] at e5 ⊢
      rw [Bool.false_and, Bool.and_false]
      refine Ev.fin (fun k => ?_)
      rw [spec_SignalOk.l0, if_pos (by omega), if_pos (by omega), e5, Option.bind_some, if_neg (by decide)]
theorem sSignalOk_ev (l : List Int) (hl : l.length ≤ 1048576) : Ev (fun k => spec_SignalOk.f k l) (signalB l) := sSignal_l0 l hl l.length 0 (by omega)

theorem within_l0 (l : List Int) (s : Int) (hs : 0 ≤ s ∧ s ≤ 4000000000000000000) (hl : l.length ≤ 1048576) : ∀ (d i : Nat), i + d = l.length → Ev (fun k => impl_within.l0 k s l (l.length : Int) (i : Int)) (wideB s (l.drop i)) := by
  intro d
  induction d with
  | zero =>
    intro i hd
    refine Ev.fin (fun k => ?_)
    rw [impl_within.l0, if_neg (by omega), List.drop_of_length_le (by omega)]
    rfl
  | succ d ih =>
    intro i hd
    have ew : wrap64 (-s) = -s := w64 (by omega) (by omega)
    rw [drop_rd (i := i) (by omega)]
    have ec : wideB s (rd l (i : Int) :: l.drop (i + 1)) = (decide (-s ≤ rd l (i : Int) ∧ rd l (i : Int) ≤ s) && wideB s (l.drop (i + 1))) := rfl
    rw [ec]
    by_cases h : -s ≤ rd l (i : Int) ∧ rd l (i : Int) ≤ s
    · rw [decide_eq_true h, Bool.true_and]
      refine Ev.step (fun k => ?_) (ih (i + 1) (by omega))
      rw [impl_within.l0, if_pos (by omega), if_pos (by omega), if_pos (by omega), ew, if_neg (by omega), if_neg (by omega), wsucc (by omega)]
    · rw [decide_eq_false h, Bool.false_and]
      refine Ev.fin (fun k => ?_)
      rw [impl_within.l0, if_pos (by omega), if_pos (by omega), if_pos (by omega), ew]
      by_cases h1 : rd l (i : Int) < -s
      · rw [if_pos h1]
      · rw [if_neg h1, if_pos (by omega)]
theorem within_ev (l : List Int) (s : Int) (hs : 0 ≤ s ∧ s ≤ 4000000000000000000) (hl : l.length ≤ 1048576) : Ev (fun k => impl_within.f k l s) (wideB s l) := within_l0 l s hs hl l.length 0 (by omega)
theorem iSignalOk_ev (l : List Int) (hl : l.length ≤ 1048576) : Ev (fun k => impl_SignalOk.f k l) (signalB l) := by
  unfold impl_SignalOk.f signalB
  by_cases h : (l.length : Int) ≤ 512
  · rw [decide_eq_true (by omega), Bool.true_and]
    exact Ev.pos h (Ev.bind (within_ev l _ (by omega) hl) (Ev.now _))
  · rw [decide_eq_false (by omega), Bool.false_and]
    exact Ev.neg h (Ev.now _)

theorem down_eq (t d : Int) (hd : 0 < d) (h0 : -4000000000000000000 ≤ t) (h1 : t ≤ 4000000000000000000) (hd2 : d ≤ 4000000000000000000) : impl_down.f t d = some (t / d, t % d) := by
  unfold impl_down.f
  rw [if_neg (by omega)]
  have l1 := Int.emod_nonneg t (show d ≠ 0 by omega)
  have l2 := Int.emod_lt_of_pos t hd
  have hq : -4000000000000000000 ≤ t / d ∧ t / d ≤ 4000000000000000000 := by
    constructor
    · rw [Int.le_ediv_iff_mul_le hd]
      have := Int.mul_le_mul_of_nonneg_left (show (1 : Int) ≤ d by omega) (show (0 : Int) ≤ 4000000000000000000 by omega)
      rw [Int.neg_mul]
      omega
    · by_cases h : 0 ≤ t
      · exact Int.le_trans (Int.ediv_le_self _ h) h1
      · have := Int.ediv_neg_of_neg_of_pos (show t < 0 by omega) hd
        omega
  have hna : ((d.natAbs : Nat) : Int) = d := Int.natAbs_of_nonneg (by omega)
  by_cases hc : 0 ≤ t ∨ d ∣ t
  · have em : Int.tmod t d = t % d := by rw [Int.tmod_eq_emod, if_pos hc]; omega
    have eq : Int.tdiv t d = t / d := by rw [Int.tdiv_eq_ediv, if_pos hc]; omega
    rw [em, eq, if_neg (by omega), w64 (by omega) (by omega)]
  · have em : Int.tmod t d = t % d - d := by rw [Int.tmod_eq_emod, if_neg hc, hna]
    have eq : Int.tdiv t d = t / d + 1 := by rw [Int.tdiv_eq_ediv, if_neg hc, Int.sign_eq_one_of_pos hd]
    rw [em, eq, if_pos (by omega), w64 (n := t / d + 1) (by omega) (by omega), w64 (by omega) (by omega), w64 (by omega) (by omega)]
    congr 2 <;> omega

/-- At a whole place. -/
theorem between_at (l : List Int) (j d : Int) (hd : 0 < d) (hd2 : d ≤ 1000000) (hj : -1000000 ≤ j) (hj2 : j < (l.length : Int)) (hl : l.length ≤ 512) : Ev (fun k => impl_between.f k l (j * d) d) (if j < 0 then 0 else rd l j) := by
  unfold impl_between.f
  have hb : -1000000000000 ≤ j * d ∧ j * d ≤ 1000000000000 := by
    constructor
    · have h1 := Int.mul_le_mul_of_nonneg_right (show -1000000 ≤ j by omega) (show 0 ≤ d by omega)
      have h2 := Int.mul_le_mul_of_nonneg_left hd2 (show (0 : Int) ≤ 1000000 by omega)
      rw [Int.neg_mul] at h1
      omega
    · by_cases h0 : 0 ≤ j
      · have h1 := Int.mul_le_mul (show j ≤ 1000000 by omega) hd2 (show 0 ≤ d by omega) (show (0 : Int) ≤ 1000000 by omega)
        omega
      · have h1 := Int.mul_nonneg (show 0 ≤ -j by omega) (show 0 ≤ d by omega)
        rw [Int.neg_mul] at h1
        omega
  have e1 : j * d / d = j := Int.mul_ediv_cancel _ (by omega)
  have e2 : j * d % d = 0 := Int.mul_emod_left _ _
  refine Ev.bind0 (down_eq (j * d) d hd (by omega) (by omega) (by omega)) ?_
  rw [e1, e2]
  refine Ev.pos rfl ?_
  refine Ev.pure (fun _ => ?_)
  unfold impl_between.get
  by_cases h0 : j < 0
  · rw [if_pos h0, if_pos h0]
  · rw [if_neg h0, if_neg h0, if_pos hj2]

theorem sameInts_l0 (l : List Int) (hl : l.length ≤ 1048576) : ∀ (d i : Nat), i + d = l.length → Ev (fun k => laws_sameInts.l0 k l l (i : Int)) true := by
  intro d
  induction d with
  | zero =>
    intro i hd
    exact Ev.fin (fun k => by rw [laws_sameInts.l0, if_neg (by omega)])
  | succ d ih =>
    intro i hd
    refine Ev.step (fun k => ?_) (ih (i + 1) (by omega))
    rw [laws_sameInts.l0, if_pos (by omega), if_pos (by omega), if_pos (by omega), if_pos rfl, wsucc (by omega)]
theorem sameInts_ev (l : List Int) (hl : l.length ≤ 1048576) : Ev (fun k => laws_sameInts.f k l l) true := by
  unfold laws_sameInts.f
  exact Ev.pos rfl (sameInts_l0 l hl l.length 0 (by omega))

theorem mulb {a b A B : Nat} (h1 : a ≤ A) (h2 : b ≤ B) : a * b ≤ A * B := Nat.mul_le_mul h1 h2
theorem Drift_whole (l : List Int) (b d : Nat) (hb : 1 ≤ b ∧ b ≤ 16) (hd : 1 ≤ d ∧ d ≤ 1000) (hl : l.length ≤ 512) : ∀ (m i : Nat) (acc : List Int), l.length ≤ i + m → i ≤ 600 → acc.length ≤ i → acc.length ≤ 512 →
    ∃ r, Ev (fun k => impl_Drift.l0 k l ((b * d : Nat) : Int) (d : Int) acc ((i * d : Nat) : Int)) (r, true) ∧ Ev (fun k => impl_thin.l0 k l (b : Int) acc (i : Int)) r ∧ r.length ≤ 512 := by
  intro m
  induction m with
  | zero =>
    intro i acc hm hi ha ha2
    refine ⟨acc, Ev.fin (fun k => ?_), Ev.fin (fun k => by rw [impl_thin.l0, if_neg (by omega)]), ha2⟩
    have h1 : (l.length : Int) - 1 < (i : Int) := by omega
    have h2 := Int.mul_lt_mul_of_pos_right h1 (show (0 : Int) < (d : Int) by omega)
    have h3 := mulb (show l.length ≤ 512 by omega) hd.2
    have h4 : wrap64 ((d : Int) * wrap64 ((l.length : Int) - 1)) = ((l.length : Int) - 1) * (d : Int) := by
      rw [w64 (n := (l.length : Int) - 1) (by omega) (by omega), Int.mul_comm, Int.sub_mul, ← Int.natCast_mul, Int.one_mul]
      exact w64 (by omega) (by omega)
    rw [impl_Drift.l0, h4, if_neg (by rw [Int.natCast_mul]; omega)]
  | succ m ih =>
    intro i acc hm hi ha ha2
    have h3 := mulb (show l.length ≤ 512 by omega) hd.2
    have h4 : wrap64 ((d : Int) * wrap64 ((l.length : Int) - 1)) = ((l.length : Int) - 1) * (d : Int) := by
      rw [w64 (n := (l.length : Int) - 1) (by omega) (by omega), Int.mul_comm, Int.sub_mul, ← Int.natCast_mul, Int.one_mul]
      exact w64 (by omega) (by omega)
    by_cases hlt : i < l.length
    · obtain ⟨r, e1, e2, e3⟩ := ih (i + b) (acc ++ [rd l (i : Int)]) (by omega) (by omega) (by simp; omega) (by simp; omega)
      have hbt := between_at l (i : Int) (d : Int) (by omega) (by omega) (by omega) (by omega) hl
      rw [if_neg (by omega), ← Int.natCast_mul] at hbt
      have h5 : ((i * d : Nat) : Int) ≤ ((l.length : Int) - 1) * (d : Int) := by
        rw [Int.natCast_mul]
        exact Int.mul_le_mul_of_nonneg_right (by omega) (by omega)
      have h6 := mulb (show i ≤ 600 by omega) hd.2
      have h7 := mulb hb.2 hd.2
      have h8 : wrap64 (((i * d : Nat) : Int) + ((b * d : Nat) : Int)) = (((i + b) * d : Nat) : Int) := by
        rw [Nat.add_mul, w64 (by omega) (by omega), Int.natCast_add]
      refine ⟨r, ?_, ?_, e3⟩
      · have h9 : Ev (fun k => (impl_between.f k l ((i * d : Nat) : Int) (d : Int)).bind fun t => if acc.length < 17592186044416 then impl_Drift.l0 k l ((b * d : Nat) : Int) (d : Int) (acc ++ [t]) (wrap64 (((i * d : Nat) : Int) + ((b * d : Nat) : Int))) else none) (r, true) := by
          refine Ev.bind hbt (Ev.pos (by omega) ?_)
          rw [h8]; exact e1
        refine Ev.step (fun k => ?_) h9
        rw [impl_Drift.l0, h4, if_pos h5, if_neg (by omega)]
      · refine Ev.step (fun k => ?_) e2
        rw [impl_thin.l0, if_pos (by omega), if_pos (by omega), if_pos (by omega), w64 (by omega) (by omega), Int.natCast_add]
    · refine ⟨acc, Ev.fin (fun k => ?_), Ev.fin (fun k => by rw [impl_thin.l0, if_neg (by omega)]), ha2⟩
      have h1 : (l.length : Int) - 1 < (i : Int) := by omega
      have h2 := Int.mul_lt_mul_of_pos_right h1 (show (0 : Int) < (d : Int) by omega)
      rw [impl_Drift.l0, h4, if_neg (by rw [Int.natCast_mul]; omega)]
/-- A signal moved on. -/
def late (l : List Int) (q : Nat) : Nat → List Int
  | 0 => []
  | n + 1 => late l q n ++ [if n < q then 0 else rd l ((n - q : Nat) : Int)]
theorem late_len (l : List Int) (q : Nat) : ∀ n, (late l q n).length = n
  | 0 => rfl
  | n + 1 => by show (late l q n ++ [_]).length = n + 1; rw [List.length_append, late_len l q n]; rfl
theorem rd_late (l : List Int) (q : Nat) : ∀ {n i : Nat}, i < n → rd (late l q n) (i : Int) = if i < q then 0 else rd l ((i - q : Nat) : Int)
  | n + 1, i, h => by
    have hl := late_len l q n
    unfold rd
    rw [Int.toNat_natCast]
    show (late l q n ++ [_]).getD i 0 = _
    rw [List.getD_eq_getElem?_getD]
    by_cases e : i < n
    · rw [List.getElem?_append_left (by omega), ← List.getD_eq_getElem?_getD]
      have := rd_late l q (n := n) (i := i) e
      unfold rd at this
      rw [Int.toNat_natCast] at this
      exact this
    · obtain rfl : i = n := by omega
      rw [List.getElem?_append_right (by omega), hl, Nat.sub_self]
      rfl
theorem Delay_whole (l : List Int) (q d : Nat) (hq : q ≤ 8) (hd : 1 ≤ d ∧ d ≤ 1000) (hl : l.length ≤ 512) : ∀ (m i : Nat), i + m = l.length →
    Ev (fun k => impl_Delay.l0 k l ((q * d : Nat) : Int) (d : Int) (late l q i) (l.length : Int) (i : Int)) (late l q l.length, true) := by
  intro m
  induction m with
  | zero =>
    intro i hm
    obtain rfl : i = l.length := by omega
    exact Ev.fin (fun k => by rw [impl_Delay.l0, if_neg (by omega)])
  | succ m ih =>
    intro i hm
    have hbt := between_at l ((i : Int) - (q : Int)) (d : Int) (by omega) (by omega) (by omega) (by omega) hl
    have h6 := mulb (show i ≤ 600 by omega) hd.2
    have h7 := mulb hq hd.2
    have e1 : wrap64 (wrap64 ((i : Int) * (d : Int)) - ((q * d : Nat) : Int)) = ((i : Int) - (q : Int)) * (d : Int) := by
      rw [Int.sub_mul, ← Int.natCast_mul, ← Int.natCast_mul, w64 (n := ((i * d : Nat) : Int)) (by omega) (by omega)]
      exact w64 (by omega) (by omega)
    have e2 : (if (i : Int) - (q : Int) < 0 then (0 : Int) else rd l ((i : Int) - (q : Int))) = if i < q then 0 else rd l ((i - q : Nat) : Int) := by
      by_cases h : i < q
      · rw [if_pos h, if_pos (by omega)]
      · rw [if_neg h, if_neg (by omega), show (i : Int) - (q : Int) = ((i - q : Nat) : Int) by omega]
    rw [e2] at hbt
    have h9 : Ev (fun k => (impl_between.f k l (((i : Int) - (q : Int)) * (d : Int)) (d : Int)).bind fun t => if (late l q i).length < 17592186044416 then impl_Delay.l0 k l ((q * d : Nat) : Int) (d : Int) (late l q i ++ [t]) (l.length : Int) (wrap64 ((i : Int) + 1)) else none) (late l q l.length, true) := by
      refine Ev.bind hbt (Ev.pos (by rw [late_len]; omega) ?_)
      rw [wsucc (by omega)]; exact ih (i + 1) (by omega)
    refine Ev.step (fun k => ?_) h9
    rw [impl_Delay.l0, if_pos (by omega), e1]
theorem half_ev : Ev (fun k => impl_Drift.f k [0, 10] 1 2 0) ([0, 5, 10], true) := Ev.of (impl_Drift.mono _ _ _ _) (k := 40) (by decide +kernel)
theorem Drifted_l0 (l : List Int) (q : Nat) (hl : l.length ≤ 512) : ∀ (m i : Nat), i + m = l.length → Ev (fun k => laws_FnDrifted.l0 k l (q : Int) (late l q l.length) (i : Int)) true := by
  intro m
  have hz := late_len l q l.length
  induction m with
  | zero =>
    intro i hm
    refine Ev.step (fun k => by rw [laws_FnDrifted.l0, if_neg (by omega)]) (Ev.bind half_ev (Ev.pos rfl (Ev.bind (sameInts_ev [0, 5, 10] (by decide)) (Ev.now true))))
  | succ m ih =>
    intro i hm
    refine Ev.step (fun k => ?_) (ih (i + 1) (by omega))
    have hr := rd_late l q (n := l.length) (i := i) (by omega)
    by_cases h : i < q
    · rw [if_pos h] at hr
      rw [laws_FnDrifted.l0, if_pos (by omega), if_pos (by omega), if_pos (by omega), if_pos hr, if_neg (by omega), wsucc (by omega)]
    · rw [if_neg h] at hr
      have e1 : wrap64 ((i : Int) - (q : Int)) = ((i - q : Nat) : Int) := by rw [w64 (by omega) (by omega)]; omega
      rw [laws_FnDrifted.l0, if_pos (by omega), if_neg (by omega), if_pos (by omega), if_pos (by omega), e1, if_pos (by omega), if_pos (by omega), if_pos hr, wsucc (by omega)]
theorem Drift_f (l r : List Int) (D d : Nat) (hD1 : 1 ≤ D ∧ D ≤ 16000) (hd : 1 ≤ d ∧ d ≤ 1000) (hs : signalB l = true) (hl : l.length ≤ 512) (dr : Ev (fun k => impl_Drift.l0 k l (D : Int) (d : Int) ([] : List Int) 0) (r, true)) : Ev (fun k => impl_Drift.f k l (D : Int) (d : Int) 0) (r, true) := by
  unfold impl_Drift.f
  refine Ev.bind (iSignalOk_ev l (by omega)) ?_
  rw [hs]
  refine Ev.pos rfl (Ev.neg (by omega) (Ev.neg (by omega) (Ev.neg (by omega) (Ev.neg (by omega) (Ev.neg (by omega) ?_)))))
  rw [decide_eq_false (show ¬ (0 : Int) ≥ (d : Int) by omega)]
  exact Ev.step (fun k => by rw [impl_Drift.j0, if_neg (by decide)]) dr
theorem Down_f (l r : List Int) (b : Nat) (hb : 1 ≤ b ∧ b ≤ 16) (hs : signalB l = true) (hl : l.length ≤ 512) (tn : Ev (fun k => impl_thin.l0 k l (b : Int) ([] : List Int) 0) r) : Ev (fun k => impl_Down.f k l (b : Int) 0) (r, true) := by
  unfold impl_Down.f
  refine Ev.bind (iSignalOk_ev l (by omega)) ?_
  rw [hs]
  refine Ev.pos rfl (Ev.bind0 (a := true) ?_ (Ev.pos rfl (Ev.neg (by omega) (Ev.neg (by omega) (Ev.bind tn (Ev.now _))))))
  unfold impl_isRate.f
  rw [if_pos (by omega), decide_eq_true (by omega)]
theorem Delay_f (l : List Int) (q d : Nat) (hq : q ≤ 8) (hd : 1 ≤ d ∧ d ≤ 1000) (hs : signalB l = true) (hl : l.length ≤ 512) : Ev (fun k => impl_Delay.f k l ((q * d : Nat) : Int) (d : Int)) (late l q l.length, true) := by
  have m2 := mulb hq hd.2
  unfold impl_Delay.f
  refine Ev.bind (iSignalOk_ev l (by omega)) ?_
  rw [hs]
  refine Ev.pos rfl (Ev.neg (by omega) (Ev.neg (by omega) (Ev.neg (by omega) ?_)))
  rw [decide_eq_false (show ¬ (d : Int) > 1000000 by omega)]
  exact Ev.step (f := fun k => impl_Delay.l0 k l ((q * d : Nat) : Int) (d : Int) (late l q 0) (l.length : Int) ((0 : Nat) : Int)) (fun k => by rw [impl_Delay.j0, if_neg (by decide)]; rfl) (Delay_whole l q d hq hd hl l.length 0 (by omega))
theorem wrs (p q d : Nat) (hp : p ≤ 15) (hq : q ≤ 8) (hd : 1 ≤ d ∧ d ≤ 1000) : wrap64 (wrap64 (1 + (p : Int)) * (d : Int)) = (((1 + p) * d : Nat) : Int) ∧ wrap64 (1 + (p : Int)) = ((1 + p : Nat) : Int) ∧ wrap64 ((q : Int) * (d : Int)) = ((q * d : Nat) : Int) := by
  have m1 := mulb (show 1 + p ≤ 16 by omega) hd.2
  have m2 := mulb hq hd.2
  have w1 : wrap64 (1 + (p : Int)) = ((1 + p : Nat) : Int) := by rw [w64 (by omega) (by omega)]; omega
  refine ⟨?_, w1, ?_⟩
  · rw [w1, ← Int.natCast_mul]
    clear w1
    exact w64 (by omega) (by omega)
  · clear w1
    rw [← Int.natCast_mul]
    exact w64 (by omega) (by omega)
theorem Drifted_j1 (c : List Int) (hc : (c.length : Int) ≤ 1048576) (hw : Bytes c) (l : List Int) (d : Nat) (hd : 1 ≤ d ∧ d ≤ 1000) (hs : signalB l = true) (hl : l.length ≤ 512) : Ev (fun k => laws_FnDrifted.j1 k c l (d : Int)) true := by
  obtain ⟨a, ha, ea⟩ := at_ex c 0 (by omega) hc hw
  obtain ⟨b, hb, eb⟩ := at_ex c 1 (by omega) hc hw
  have e1 : Int.tmod (a : Int) 16 = ((a % 16 : Nat) : Int) := rfl
  have e2 : Int.tmod (b : Int) 9 = ((b % 9 : Nat) : Int) := rfl
  have h1 : a % 16 ≤ 15 := by omega
  have h2 : b % 9 ≤ 8 := by omega
  generalize a % 16 = p at *
  generalize b % 9 = q at *
  have m1 := mulb (show 1 + p ≤ 16 by omega) hd.2
  have m3 : 1 ≤ (1 + p) * d := Nat.mul_pos (by omega) hd.1
  obtain ⟨r, dr, tn, hr⟩ := Drift_whole l (1 + p) d (by omega) hd hl l.length 0 [] (by omega) (by omega) (by simp) (by simp)
  rw [show ((0 * d : Nat) : Int) = 0 by rw [Nat.zero_mul]; rfl] at dr
  have hD := Drift_f l r ((1 + p) * d) d ⟨m3, m1⟩ hd hs hl dr
  have hT := Down_f l r (1 + p) (by omega) hs hl tn
  have hL := Delay_f l q d h2 hd hs hl
  obtain ⟨w2, w1, w3⟩ := wrs p q d h1 h2 hd
  have hz := late_len l q l.length
  have tail : Ev (fun k => laws_FnDrifted.j2 k l (q : Int) (late l q l.length) (((late l q l.length).length : Int) != (l.length : Int))) true := by
    rw [hz, bne_self_eq_false]
    exact Ev.step (f := fun k => laws_FnDrifted.l0 k l (q : Int) (late l q l.length) ((0 : Nat) : Int)) (fun k => by rw [laws_FnDrifted.j2, if_neg (by decide)]; rfl) (Drifted_l0 l q hl l.length 0 (by rw [Nat.zero_add]))
  have hr2 : r.length ≤ 1048576 := Nat.le_trans hr (by decide)
  have all : Ev (fun k => (laws_at.f c 0).bind fun t294 => ((impl_Drift.f k l (wrap64 ((wrap64 (1 + (Int.tmod t294 16))) * (d : Int))) (d : Int) 0).bind fun bt295 => ((impl_Down.f k l (wrap64 (1 + (Int.tmod t294 16))) 0).bind fun bt299 => ((laws_at.f c 1).bind fun t303 => ((impl_Delay.f k l (wrap64 ((Int.tmod t303 9) * (d : Int))) (d : Int)).bind fun bt304 => (if bt295.2 = true then (if bt299.2 = true then (if bt304.2 = true then ((laws_sameInts.f k bt295.1 bt299.1).bind fun t308 => (if t308 = true then (laws_FnDrifted.j2 k l (Int.tmod t303 9) bt304.1 ((bt304.1.length : Int) != (l.length : Int))) else (laws_FnDrifted.j2 k l (Int.tmod t303 9) bt304.1 true))) else (laws_FnDrifted.j2 k l (Int.tmod t303 9) bt304.1 true)) else (laws_FnDrifted.j2 k l (Int.tmod t303 9) bt304.1 true)) else (laws_FnDrifted.j2 k l (Int.tmod t303 9) bt304.1 true))))))) true := by
    refine Ev.bind0 ea ?_
    rw [e1, w2, w1]
    refine Ev.bind hD ?_
    refine Ev.bind hT ?_
    refine Ev.bind0 eb ?_
    rw [e2, w3]
    refine Ev.bind hL ?_
    refine Ev.pos rfl ?_
    refine Ev.pos rfl ?_
    refine Ev.pos rfl ?_
    refine Ev.bind (sameInts_ev r hr2) ?_
    refine Ev.pos rfl ?_
    exact tail
  exact Ev.step (fun k => by rw [laws_FnDrifted.j1]) all
theorem DrawDrift_ex (l : List Int) (hl : l.length ≤ 1048576) (hw : Bytes l) : ∃ (r : List Int) (a b c : Int), r.length ≤ 1000513 ∧ Near r ∧ Ev (fun k => spec_DrawDrift.f k l) (r, a, b, c) := by
  obtain ⟨h, c0, e0⟩ := l1New_ex l hl hw
  obtain ⟨x, i1, h1, hx, c1, e1⟩ := l1PickInt_ex l 0 h [1, 2, 7, 10, 1000, 1000000, 48000] (by decide) c0
  obtain ⟨y, i2, h2, hy, c2, e2⟩ := l1Below_ex l i1 h1 (wrap64 (2 * x)) c1
  obtain ⟨t, ht1, ht2, et⟩ := l1Size_ex l hl 30 (by omega)
  have tail : ∀ (p q i h : Int), CurOk l i → ∃ (r : List Int) (a b c : Int), r.length ≤ 1000513 ∧ Near r ∧ Ev (fun k => spec_DrawDrift.j0 k l p q l i h) (r, a, b, c) := by
    intro p q i h hc
    obtain ⟨u, i1, h1, hu, c1, e1⟩ := l1Below_ex l i h p hc
    obtain ⟨v, i2, h2, hv, c2, e2⟩ := l1Below_ex l i1 h1 24 c1
    have st : ∀ {A : Nat → Option (List Int × Int × Int × Int)} {r : List Int × Int × Int × Int}, Ev A r → (∀ k, spec_DrawDrift.j0 (k + 1) l p q l i h = A k) → Ev (fun k => spec_DrawDrift.j0 k l p q l i h) r := fun e hh => Ev.step hh e
    by_cases v0 : (v : Int) = 0
    · obtain ⟨z, i3, h3, hz, c3, e3⟩ := l1PickInt_ex l i2 h2 [0, 1000000, 1000001, 1] (by decide) c2
      obtain ⟨r, i4, h4, p1, p2, c4, e4⟩ := l5DrawAny_ex l i3 h3 t (by omega) c3
      exact ⟨r, z, p, u, p1, p2, st (Ev.bind e4 (Ev.now (r, z, p, (u : Int)))) (fun k => by rw [spec_DrawDrift.j0, e1, Option.bind_some, e2, Option.bind_some, if_pos v0, e3, Option.bind_some, et, Option.bind_some])⟩
    · by_cases v1 : (v : Int) = 1
      · obtain ⟨z, i3, h3, hz, c3, e3⟩ := l1PickInt_ex l i2 h2 [0, 1000001] (by decide) c2
        obtain ⟨r, i4, h4, p1, p2, c4, e4⟩ := l5DrawAny_ex l i3 h3 t (by omega) c3
        exact ⟨r, q, z, u, p1, p2, st (Ev.bind e4 (Ev.now (r, q, z, (u : Int)))) (fun k => by rw [spec_DrawDrift.j0, e1, Option.bind_some, e2, Option.bind_some, if_neg v0, if_pos v1, e3, Option.bind_some, et, Option.bind_some])⟩
      · by_cases v2 : (v : Int) = 2
        · obtain ⟨z, i3, h3, hz, c3, e3⟩ := l1PickInt_ex l i2 h2 [(-1), p] (by simp) c2
          obtain ⟨r, i4, h4, p1, p2, c4, e4⟩ := l5DrawAny_ex l i3 h3 t (by omega) c3
          exact ⟨r, q, p, z, p1, p2, st (Ev.bind e4 (Ev.now (r, q, p, z))) (fun k => by rw [spec_DrawDrift.j0, e1, Option.bind_some, e2, Option.bind_some, if_neg v0, if_neg v1, if_pos v2, e3, Option.bind_some, et, Option.bind_some])⟩
        · obtain ⟨r, i4, h4, p1, p2, c4, e4⟩ := l5DrawAny_ex l i2 h2 t (by omega) c2
          exact ⟨r, q, p, u, p1, p2, st (Ev.bind e4 (Ev.now (r, q, p, (u : Int)))) (fun k => by rw [spec_DrawDrift.j0, e1, Option.bind_some, e2, Option.bind_some, if_neg v0, if_neg v1, if_neg v2, et, Option.bind_some])⟩
  unfold spec_DrawDrift.f
  by_cases hbig : x > 10000
  · obtain ⟨z, i3, h3, hz, c3, e3⟩ := l1Below_ex l i2 h2 1001 c2
    obtain ⟨r, a, b, c, p1, p2, e4⟩ := tail x (wrap64 (wrap64 (x - 500) + (z : Int))) i3 h3 c3
    exact ⟨r, a, b, c, p1, p2, Ev.bind e0 (Ev.bind0 e1 (Ev.bind0 e2 (Ev.pos hbig (Ev.bind0 e3 e4))))⟩
  · obtain ⟨r, a, b, c, p1, p2, e4⟩ := tail x (wrap64 (1 + (y : Int))) i2 h2 c2
    exact ⟨r, a, b, c, p1, p2, Ev.bind e0 (Ev.bind0 e1 (Ev.bind0 e2 (Ev.neg hbig e4)))⟩
theorem FnDrifted : laws_FnDrifted.Pure := by
  intro l hl hl8 hb
  refine Ev.rounds ?_
  unfold laws_FnDrifted.f
  refine Ev.bind0 rfl ?_
  by_cases hg : (l.length : Int) > 1048576
  · exact Ev.pos (decide_eq_true hg) (Ev.now true)
  refine Ev.neg (by rw [decide_eq_true_eq]; exact hg) ?_
  obtain ⟨r, a, b, c, hr, hn, e0⟩ := DrawDrift_ex l (by omega) hb
  refine Ev.bind e0 (Ev.bind (sSignalOk_ev r (by omega)) ?_)
  have other : Ev (fun k => laws_FnDrifted.j0 k l r b true) true := by
    have h1 : Ev (fun k => laws_FnDrifted.j1 k l [4, 6, 9] 10) true := Drifted_j1 l (by omega) hb [4, 6, 9] 10 (by omega) (by decide) (by decide)
    exact Ev.step (fun k => by rw [laws_FnDrifted.j0, if_pos rfl]) h1
  by_cases hs : signalB r = true
  · rw [hs]
    refine Ev.pos rfl ?_
    by_cases h1 : b < 1
    · exact Ev.pos h1 other
    refine Ev.neg h1 ?_
    by_cases h2 : b > 1000
    · exact Ev.pos h2 other
    refine Ev.neg h2 ?_
    by_cases h3 : a < 1
    · rw [decide_eq_true h3]; exact other
    rw [decide_eq_false h3]
    obtain ⟨d, rfl⟩ : ∃ d : Nat, b = d := ⟨b.toNat, by omega⟩
    have hsl : r.length ≤ 512 := by
      unfold signalB at hs
      rw [Bool.and_eq_true] at hs
      exact of_decide_eq_true hs.1
    exact Ev.step (fun k => by rw [laws_FnDrifted.j0, if_neg (by decide)]) (Drifted_j1 l (by omega) hb r d (by omega) hs hsl)
  · rw [Bool.eq_false_iff.mpr hs]
    exact Ev.neg (by decide) other

end Go.Proofs.Ytnpoimjdkjhcpaa.Pure
