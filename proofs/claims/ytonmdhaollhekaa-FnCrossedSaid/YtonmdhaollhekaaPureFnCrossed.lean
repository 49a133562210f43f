/- At each crossing of a drawn signal the sample is beyond the band, on the other side than at the one ahead: for every code; no condition. -/
import Derived.Test.YtonmdhaollhekaaQFnCrossedx4
import Derived.Test.YtonmdhaollhekaaCom
set_option linter.unusedVariables false
set_option linter.unusedSimpArgs false
namespace Go.Proofs.Ytonmdhaollhekaa.Pure
open Go.RowKit Go.Proofs.Ytonmdhaollhekaa.PFnCrossed Go.Proofs.YtonmdhaollhekaaW.PrintWords Go.Proofs.YtonmdhaollhekaaW.PrintLast Go.Proofs.Ytonmdhaollhekaa.Com

theorem big_eq (l : List Int) : laws_big.f l = some (decide ((l.length : Int) > 1048576)) := rfl
theorem l1New_l0 (l : List Int) (hl : l.length ≤ 1048576) : ∀ (d i : Nat) (h : Int), i + d = l.length → ∃ h', Ev (fun k => spec_l1New.l0 k l h (i : Int)) (l, 0, h') := by
  intro d
  induction d with
  | zero =>
    intro i h hd
    exact ⟨h, Ev.fin (fun k => by rw [spec_l1New.l0, if_neg (by omega)])⟩
  | succ d ih =>
    intro i h hd
    by_cases h4 : i < 4000
    · obtain ⟨h', e⟩ := ih (i + 1) _ (by omega)
      exact ⟨h', Ev.step (fun k => by rw [spec_l1New.l0, if_pos (by omega), if_pos (by omega), if_pos (by omega), wsucc (by omega)]) e⟩
    · exact ⟨h, Ev.fin (fun k => by rw [spec_l1New.l0, if_pos (by omega), if_neg (by omega)])⟩
theorem l1New_ex (l : List Int) (hl : l.length ≤ 1048576) (hw : Bytes l) : ∃ h, CurOk l 0 ∧ Ev (fun k => spec_l1New.f k l) (l, 0, h) := by
  obtain ⟨h, e⟩ := l1New_l0 l hl l.length 0 (wrap64 (71933 + (l.length : Int))) (by omega)
  exact ⟨h, ⟨by omega, by omega, hl, hw⟩, e⟩
theorem l1Size_ex (l : List Int) (hl : l.length ≤ 1048576) (m : Int) (hm : 2 ≤ m) : ∃ t : Nat, 2 ≤ t ∧ (t : Int) ≤ m ∧ spec_l1Size.f l m = some (t : Int) := by
  unfold spec_l1Size.f
  rw [w64 (n := (l.length : Int) / 20) (by omega) (by omega), w64 (by omega) (by omega)]
  by_cases h : 2 + (l.length : Int) / 20 > m
  · exact ⟨m.toNat, by omega, by omega, by rw [if_pos h, Int.toNat_of_nonneg (by omega)]⟩
  · exact ⟨2 + l.length / 20, by omega, by omega, by rw [if_neg h]; congr 1⟩
theorem l1Byte_ex (s : List Int) (i h : Int) (hc : CurOk s i) : ∃ (x : Nat) (i' h' : Int), x < 256 ∧ CurOk s i' ∧ spec_l1Byte.f s i h = some ((x : Int), i', h') := by
  obtain ⟨h0, h1, h2, h3⟩ := hc
  unfold spec_l1Byte.f
  simp only [and64_255]
  by_cases hi : i < (s.length : Int)
  · rw [if_pos hi, if_pos h0]
    refine ⟨(wrap64 (bits .xor .i64 (wrap64 (wrap64 (h * 6364136223846793005) + 1442695040888963407) / 8589934592) (wrap64 (wrap64 (h * 6364136223846793005) + 1442695040888963407) / 35184372088832) % 256 + wrap64 (rd s i)) % 256).toNat, wrap64 (i + 1), wrap64 (wrap64 (h * 6364136223846793005) + 1442695040888963407), by omega, ⟨?_, ?_, h2, h3⟩, ?_⟩
    · rw [w64 (by omega) (by omega)]; omega
    · rw [w64 (by omega) (by omega)]; omega
    · rw [Int.toNat_of_nonneg (by omega)]
  · rw [if_neg hi]
    refine ⟨(bits .xor .i64 (wrap64 (wrap64 (h * 6364136223846793005) + 1442695040888963407) / 8589934592) (wrap64 (wrap64 (h * 6364136223846793005) + 1442695040888963407) / 35184372088832) % 256).toNat, i, wrap64 (wrap64 (h * 6364136223846793005) + 1442695040888963407), by omega, ⟨h0, h1, h2, h3⟩, ?_⟩
    rw [Int.toNat_of_nonneg (by omega)]
theorem l1Below_ex (s : List Int) (i h n : Int) (hc : CurOk s i) : ∃ (x : Nat) (i' h' : Int), ((x : Int) < n ∨ n ≤ 0 ∧ x = 0) ∧ CurOk s i' ∧ spec_l1Below.f s i h n = some ((x : Int), i', h') := by
  unfold spec_l1Below.f
  by_cases hn : n ≤ 0
  · exact ⟨0, i, h, .inr ⟨hn, rfl⟩, hc, by rw [if_pos hn]; rfl⟩
  rw [if_neg hn]
  obtain ⟨x, i1, h1, hx, c1, e1⟩ := l1Byte_ex s i h hc
  by_cases hn2 : n ≤ 256
  · rw [if_pos hn2, e1, Option.bind_some, if_neg (by omega)]
    have := Int.emod_lt_of_pos (x : Int) (show 0 < n by omega)
    have := Int.emod_nonneg (x : Int) (show n ≠ 0 by omega)
    refine ⟨((x : Int) % n).toNat, i1, h1, .inl (by omega), c1, ?_⟩
    rw [Int.tmod_eq_emod_of_nonneg (by omega), Int.toNat_of_nonneg (by omega)]
  · rw [if_neg hn2]
    obtain ⟨y, i2, h2, hy, c2, e2⟩ := l1Byte_ex s i1 h1 c1
    obtain ⟨z, i3, h3, hz, c3, e3⟩ := l1Byte_ex s i2 h2 c2
    obtain ⟨w, i4, h4, hw, c4, e4⟩ := l1Byte_ex s i3 h3 c3
    simp only [e1, e2, e3, e4, Option.bind_some]
    rw [if_neg (by omega), w64 (n := (x : Int) * 16777216) (by omega) (by omega), w64 (n := (y : Int) * 65536) (by omega) (by omega), w64 (n := (z : Int) * 256) (by omega) (by omega)]
    rw [w64 (n := (x : Int) * 16777216 + (y : Int) * 65536) (by omega) (by omega), w64 (n := (x : Int) * 16777216 + (y : Int) * 65536 + (z : Int) * 256) (by omega) (by omega), w64 (by omega) (by omega)]
    generalize hv : (x : Int) * 16777216 + (y : Int) * 65536 + (z : Int) * 256 + (w : Int) = v
    have hv0 : 0 ≤ v := by omega
    have := Int.emod_lt_of_pos v (show 0 < n by omega)
    have := Int.emod_nonneg v (show n ≠ 0 by omega)
    refine ⟨(v % n).toNat, i4, h4, .inl (by omega), c4, ?_⟩
    rw [Int.tmod_eq_emod_of_nonneg hv0, Int.toNat_of_nonneg (by omega)]
theorem l1Once_ex (s : List Int) (i h n : Int) (hc : CurOk s i) : ∃ (b : Bool) (i' h' : Int), CurOk s i' ∧ spec_l1Once.f s i h n = some (b, i', h') := by
  obtain ⟨x, i1, h1, _, c1, e1⟩ := l1Below_ex s i h n hc
  refine ⟨((x : Int) == 0), i1, h1, c1, ?_⟩
  unfold spec_l1Once.f
  rw [e1, Option.bind_some]
theorem l1PickInt_ex (s : List Int) (i h : Int) (l : List Int) (hl : l.length ≠ 0) (hc : CurOk s i) : ∃ (x : Int) (i' h' : Int), x ∈ l ∧ CurOk s i' ∧ spec_l1PickInt.f s i h l = some (x, i', h') := by
  obtain ⟨x, i1, h1, hx, c1, e1⟩ := l1Below_ex s i h (l.length : Int) hc
  have hlt : x < l.length := by omega
  refine ⟨rd l (x : Int), i1, h1, rd_mem hlt, c1, ?_⟩
  unfold spec_l1PickInt.f
  rw [e1, Option.bind_some, if_pos (by omega), if_pos (by omega)]
theorem l5DrawSample_ex (s : List Int) (i h : Int) (hc : CurOk s i) : ∃ (x i' h' : Int), (-1000000000 ≤ x ∧ x ≤ 1000000000) ∧ CurOk s i' ∧ spec_l5DrawSample.f s i h = some (x, i', h') := by
  obtain ⟨a, i1, h1, ha, c1, e1⟩ := l1Below_ex s i h 5 hc
  unfold spec_l5DrawSample.f
  rw [e1, Option.bind_some]
  by_cases h0 : (a : Int) = 0
  · obtain ⟨b, i2, h2, hb, c2, e2⟩ := l1Below_ex s i1 h1 21 c1
    exact ⟨wrap64 ((b : Int) - 10), i2, h2, by rw [w64 (by omega) (by omega)]; omega, c2, by rw [if_pos h0, e2, Option.bind_some]⟩
  · rw [if_neg h0]
    by_cases h1' : (a : Int) = 1
    · obtain ⟨b, i2, h2, hb, c2, e2⟩ := l1Below_ex s i1 h1 65536 c1
      exact ⟨wrap64 ((b : Int) - 32768), i2, h2, by rw [w64 (by omega) (by omega)]; omega, c2, by rw [if_pos h1', e2, Option.bind_some]⟩
    · rw [if_neg h1']
      by_cases h2' : (a : Int) = 2
      · rw [if_pos h2']
        obtain ⟨b, i2, h2, c2, e2⟩ := l1Once_ex s i1 h1 12 c1
        rw [e2, Option.bind_some]
        cases b with
        | true =>
          obtain ⟨x, i3, h3, hx, c3, e3⟩ := l1PickInt_ex s i2 h2 [1000000000, (-1000000000), 0] (by decide) c2
          refine ⟨x, i3, h3, ?_, c3, by rw [if_pos rfl, e3, Option.bind_some]⟩
          simp only [List.mem_cons, List.not_mem_nil, or_false] at hx
          omega
        | false =>
          obtain ⟨b, i3, h3, hb, c3, e3⟩ := l1Below_ex s i2 h2 2001 c2
          exact ⟨wrap64 ((b : Int) - 1000), i3, h3, by rw [w64 (by omega) (by omega)]; omega, c3, by rw [if_neg (by simp), e3, Option.bind_some]⟩
      · obtain ⟨b, i3, h3, hb, c3, e3⟩ := l1Below_ex s i1 h1 2001 c1
        exact ⟨wrap64 ((b : Int) - 1000), i3, h3, by rw [w64 (by omega) (by omega)]; omega, c3, by rw [if_neg h2', e3, Option.bind_some]⟩
/-- All numbers of a list within ten to the ninth, and one. -/
def Near (l : List Int) : Prop := ∀ x ∈ l, -1000000001 ≤ x ∧ x ≤ 1000000001
theorem Near.snoc {l : List Int} {x : Int} (h : Near l) (hx : -1000000001 ≤ x ∧ x ≤ 1000000001) : Near (l ++ [x]) := by
  intro y hy
  rcases List.mem_append.mp hy with hy | hy
  · exact h y hy
  · rw [List.mem_singleton.mp hy]; exact hx
theorem l5Draw_l0 (s : List Int) : ∀ (n : Nat) (acc : List Int) (i h : Int), acc.length + n ≤ 1048576 → Near acc → CurOk s i → ∃ r i' h', r.length = acc.length + n ∧ Near r ∧ CurOk s i' ∧ Ev (fun k => spec_l5Draw.l0 k acc (n : Int) s i h) (r, i', h') := by
  intro n
  induction n with
  | zero =>
    intro acc i h ha hb hc
    exact ⟨acc, i, h, rfl, hb, hc, Ev.fin (fun k => by rw [spec_l5Draw.l0, if_neg (by omega)])⟩
  | succ n ih =>
    intro acc i h ha hb hc
    obtain ⟨x, i1, h1, hx, c1, e1⟩ := l5DrawSample_ex s i h hc
    obtain ⟨r, i2, h2, p1, p2, p3, e⟩ := ih (acc ++ [x]) i1 h1 (by simp; omega) (hb.snoc (by omega)) c1
    refine ⟨r, i2, h2, by rw [p1]; simp; omega, p2, p3, Ev.step (fun k => ?_) e⟩
    rw [spec_l5Draw.l0, if_pos (by omega), e1, Option.bind_some, if_pos (by omega), w64 (by omega) (by omega), show ((n + 1 : Nat) : Int) - 1 = (n : Int) by omega]
theorem l5Draw_ex (s : List Int) (i h : Int) (m : Nat) (hm : m ≤ 1000000) (hc : CurOk s i) : ∃ r i' h', r.length ≤ m ∧ Near r ∧ CurOk s i' ∧ Ev (fun k => spec_l5Draw.f k s i h (m : Int)) (r, i', h') := by
  unfold spec_l5Draw.f
  obtain ⟨x, i1, h1, hx, c1, e1⟩ := l1Below_ex s i h ((m + 1 : Nat) : Int) hc
  obtain ⟨r, i2, h2, p1, p2, p3, e⟩ := l5Draw_l0 s x [] i1 h1 (by simp; omega) (fun y hy => by cases hy) c1
  refine ⟨r, i2, h2, by rw [p1]; simp; omega, p2, p3, Ev.bind0 (by rw [wsucc (by omega)]; exact e1) e⟩
theorem l5DrawAny_ex (s : List Int) (i h : Int) (m : Nat) (hm : m ≤ 1000000) (hc : CurOk s i) : ∃ r i' h', r.length ≤ 1000513 ∧ Near r ∧ CurOk s i' ∧ Ev (fun k => spec_l5DrawAny.f k s i h (m : Int)) (r, i', h') := by
  unfold spec_l5DrawAny.f
  obtain ⟨r, i1, h1, p1, p2, c1, e1⟩ := l5Draw_ex s i h m hm hc
  obtain ⟨b, i2, h2, c2, e2⟩ := l1Once_ex s i1 h1 25 c1
  have tail : ∀ (l : List Int) (i h : Int), l.length ≤ 1000001 → Near l → CurOk s i → ∃ r i' h', r.length ≤ 1000513 ∧ Near r ∧ CurOk s i' ∧ Ev (fun k => spec_l5DrawAny.j0 k l s i h) (r, i', h') := by
    intro l i h hl hn hc
    obtain ⟨b, i1, h1, c1, e1⟩ := l1Once_ex s i h 80 hc
    cases b with
    | true =>
      obtain ⟨x, i2, h2, hx, c2, e2⟩ := l1Below_ex s i1 h1 2 c1
      have ew : wrap64 (512 + (x : Int)) = 512 + (x : Int) := w64 (by omega) (by omega)
      refine ⟨List.replicate (512 + (x : Int)).toNat 0, i2, h2, by simp; omega, ?_, c2, Ev.fin (fun k => ?_)⟩
      · intro y hy
        rw [(List.mem_replicate.mp hy).2]
        omega
      · rw [spec_l5DrawAny.j0, e1, Option.bind_some, if_pos rfl, e2, Option.bind_some, ew, if_pos (by omega), if_pos (by omega)]
    | false =>
      refine ⟨l, i1, h1, by omega, hn, c1, Ev.fin (fun k => ?_)⟩
      rw [spec_l5DrawAny.j0, e1, Option.bind_some, if_neg (by simp)]
  cases b with
  | true =>
    obtain ⟨x, i3, h3, hx, c3, e3⟩ := l1PickInt_ex s i2 h2 [1000000001, (-1000000001)] (by decide) c2
    have hx2 : -1000000001 ≤ x ∧ x ≤ 1000000001 := by
      simp only [List.mem_cons, List.not_mem_nil, or_false] at hx
      omega
    obtain ⟨r2, i4, h4, q1, q2, q3, q4⟩ := tail (r ++ [x]) i3 h3 (by simp; omega) (p2.snoc hx2) c3
    exact ⟨r2, i4, h4, q1, q2, q3, Ev.bind e1 (Ev.bind0 e2 (Ev.pos rfl (Ev.bind0 e3 (Ev.pos (show r.length < 17592186044416 by omega) q4))))⟩
  | false =>
    obtain ⟨r2, i4, h4, q1, q2, q3, q4⟩ := tail r i2 h2 (by omega) p2 c2
    exact ⟨r2, i4, h4, q1, q2, q3, Ev.bind e1 (Ev.bind0 e2 (Ev.neg (by simp) q4))⟩
theorem l1In_eq (a b c : Int) : spec_l1In.f a b c = some (decide (b ≤ a ∧ a ≤ c)) := by
  unfold spec_l1In.f
  by_cases h : b ≤ a
  · rw [if_pos h]; simp [h]
  · rw [if_neg h]; simp [h]
/-- All numbers are of at most a size. -/
def wideB (s : Int) (l : List Int) : Bool := l.all fun x => decide (-s ≤ x ∧ x ≤ s)
def signalB (l : List Int) : Bool := decide (l.length ≤ 512) && wideB 1000000000 l
theorem wideB_all {s : Int} {l : List Int} (h : wideB s l = true) : ∀ x ∈ l, -s ≤ x ∧ x ≤ s := by
  intro x hx
  have := List.all_eq_true.mp h x hx
  simpa using this
theorem signalB_len {l : List Int} (h : signalB l = true) : l.length ≤ 512 := by
  unfold signalB at h
  rw [Bool.and_eq_true] at h
  exact of_decide_eq_true h.1
theorem signalB_wide {l : List Int} (h : signalB l = true) : ∀ x ∈ l, -1000000000 ≤ x ∧ x ≤ 1000000000 := by
  unfold signalB at h
  rw [Bool.and_eq_true] at h
  exact wideB_all h.2
theorem within_l0 (l : List Int) (s : Int) (hs : 0 ≤ s ∧ s ≤ 4000000000000000000) (hl : l.length ≤ 1048576) : ∀ (d i : Nat), i + d = l.length → Ev (fun k => impl_within.l0 k s l (l.length : Int) (i : Int)) (wideB s (l.drop i)) := by
  intro d
  induction d with
  | zero =>
    intro i hd
    refine Ev.fin (fun k => ?_)
    rw [impl_within.l0, if_neg (by omega), List.drop_of_length_le (by omega)]
    rfl
  | succ d ih =>
    intro i hd
    have ew : wrap64 (-s) = -s := w64 (by omega) (by omega)
    rw [drop_rd (i := i) (by omega)]
    have ec : wideB s (rd l (i : Int) :: l.drop (i + 1)) = (decide (-s ≤ rd l (i : Int) ∧ rd l (i : Int) ≤ s) && wideB s (l.drop (i + 1))) := rfl
    rw [ec]
    by_cases h : -s ≤ rd l (i : Int) ∧ rd l (i : Int) ≤ s
    · rw [decide_eq_true h, Bool.true_and]
      refine Ev.step (fun k => ?_) (ih (i + 1) (by omega))
      rw [impl_within.l0, if_pos (by omega), if_pos (by omega), if_pos (by omega), ew, if_neg (by omega), if_neg (by omega), wsucc (by omega)]
    · rw [decide_eq_false h, Bool.false_and]
      refine Ev.fin (fun k => ?_)
      rw [impl_within.l0, if_pos (by omega), if_pos (by omega), if_pos (by omega), ew]
      by_cases h1 : rd l (i : Int) < -s
      · rw [if_pos h1]
      · rw [if_neg h1, if_pos (by omega)]
theorem within_ev (l : List Int) (s : Int) (hs : 0 ≤ s ∧ s ≤ 4000000000000000000) (hl : l.length ≤ 1048576) : Ev (fun k => impl_within.f k l s) (wideB s l) := within_l0 l s hs hl l.length 0 (by omega)
theorem iSignalOk_ev (l : List Int) (hl : l.length ≤ 1048576) : Ev (fun k => impl_SignalOk.f k l) (signalB l) := by
  unfold impl_SignalOk.f signalB
  by_cases h : (l.length : Int) ≤ 512
  · rw [decide_eq_true (by omega), Bool.true_and]
    exact Ev.pos h (Ev.bind (within_ev l _ (by omega) hl) (Ev.now _))
  · rw [decide_eq_false (by omega), Bool.false_and]
    exact Ev.neg h (Ev.now _)
theorem sSignal_l0 (l : List Int) (hl : l.length ≤ 1048576) : ∀ (d i : Nat), i + d = l.length → Ev (fun k => spec_SignalOk.l0 k l (i : Int)) (decide (l.length ≤ 512) && wideB 1000000000 (l.drop i)) := by
  intro d
  induction d with
  | zero =>
    intro i hd
    refine Ev.fin (fun k => ?_)
    rw [spec_SignalOk.l0, if_neg (by omega), List.drop_of_length_le (by omega)]
    have : wideB 1000000000 [] = true := rfl
    rw [this, Bool.and_true]
    congr 1; rw [Bool.eq_iff_iff]; simp; omega
  | succ d ih =>
    intro i hd
    rw [drop_rd (i := i) (by omega)]
    have ec : wideB 1000000000 (rd l (i : Int) :: l.drop (i + 1)) = (decide (-1000000000 ≤ rd l (i : Int) ∧ rd l (i : Int) ≤ 1000000000) && wideB 1000000000 (l.drop (i + 1))) := rfl
    rw [ec]
    have e5 : spec_l5Sample.f (rd l (i : Int)) = some (decide (-1000000000 ≤ rd l (i : Int) ∧ rd l (i : Int) ≤ 1000000000)) := by
      unfold spec_l5Sample.f; rw [l1In_eq, Option.bind_some]
    by_cases h : -1000000000 ≤ rd l (i : Int) ∧ rd l (i : Int) ≤ 1000000000
    · rw [decide_eq_true h] at e5 ⊢
      rw [Bool.true_and]
      refine Ev.step (fun k => ?_) (ih (i + 1) (by omega))
      rw [spec_SignalOk.l0, if_pos (by omega), if_pos (by omega), e5, Option.bind_some, if_pos rfl, wsucc (by omega)]
    · rw [decide_eq_false h] at e5 ⊢
      rw [Bool.false_and, Bool.and_false]
      refine Ev.fin (fun k => ?_)
      rw [spec_SignalOk.l0, if_pos (by omega), if_pos (by omega), e5, Option.bind_some, if_neg (by decide)]
theorem sSignalOk_ev (l : List Int) (hl : l.length ≤ 1048576) : Ev (fun k => spec_SignalOk.f k l) (signalB l) := sSignal_l0 l hl l.length 0 (by omega)
/-- The places of crossings: band, side so far, place, rest. -/
def crossL (band : Int) : Int → Nat → List Int → List Int
  | _, _, [] => []
  | side, i, x :: l =>
    if x > band then (if side ≠ 0 ∧ side ≠ 1 then [(i : Int)] else []) ++ crossL band 1 (i + 1) l
    else if x < -band then (if side ≠ 0 ∧ side ≠ -1 then [(i : Int)] else []) ++ crossL band (-1) (i + 1) l
    else crossL band side (i + 1) l
theorem crossL_len (band : Int) : ∀ (l : List Int) (side : Int) (i : Nat), (crossL band side i l).length ≤ l.length
  | [], _, _ => Nat.le_refl _
  | x :: l, side, i => by
    unfold crossL
    have h1 := crossL_len band l 1 (i + 1)
    have h2 := crossL_len band l (-1) (i + 1)
    have h3 := crossL_len band l side (i + 1)
    rw [List.length_cons]
    split
    · rw [List.length_append]; split <;> simp <;> omega
    · split
      · rw [List.length_append]; split <;> simp <;> omega
      · omega
theorem Crossings_loops (l : List Int) (band : Int) (hl : l.length ≤ 512) (hs : ∀ x ∈ l, -1000000000 ≤ x ∧ x ≤ 1000000000) (hb : 0 ≤ band ∧ band ≤ 9223372036854775807) : ∀ (d i : Nat) (side : Int) (acc : List Int), i + d = l.length → acc.length ≤ i →
    Ev (fun k => spec_Crossings.l0 k l band acc side (i : Int)) (acc ++ crossL band side i (l.drop i)) ∧ Ev (fun k => impl_Crossings.l0 k band acc side l (l.length : Int) (i : Int)) (acc ++ crossL band side i (l.drop i)) := by
  intro d
  induction d with
  | zero =>
    intro i side acc hd ha
    rw [List.drop_of_length_le (by omega), crossL, List.append_nil]
    exact ⟨Ev.fin (fun k => by rw [spec_Crossings.l0, if_neg (by omega)]), Ev.fin (fun k => by rw [impl_Crossings.l0, if_neg (by omega)])⟩
  | succ d ih =>
    intro i side acc hd ha
    have hx := hs _ (rd_mem (xs := l) (i := i) (by omega))
    rw [drop_rd (i := i) (by omega), crossL]
    have en : wrap64 (-(rd l (i : Int))) = -(rd l (i : Int)) := w64 (by omega) (by omega)
    have eb : wrap64 (-band) = -band := w64 (by omega) (by omega)
    by_cases h1 : rd l (i : Int) > band
    · rw [if_pos h1]
      by_cases h2 : side ≠ 0 ∧ side ≠ 1
      · rw [if_pos h2, ← List.append_assoc]
        obtain ⟨i1, i2⟩ := ih (i + 1) 1 (acc ++ [(i : Int)]) (by omega) (by simp; omega)
        constructor
        · refine Ev.step (f := fun k => spec_Crossings.j2 k l band acc side (i : Int) 1) (fun k => by rw [spec_Crossings.l0, if_pos (by omega), if_pos (by omega), if_pos h1]) (Ev.step (fun k => ?_) i1)
          rw [spec_Crossings.j2, if_pos (by omega), if_pos (by omega), en, if_neg (by omega), if_neg (fun e => h2.2 e.symm), if_neg h2.1, if_pos (by omega), wsucc (by omega)]
        · refine Ev.step (f := fun k => impl_Crossings.j2 k band acc side (i : Int) 1 l (l.length : Int) (i : Int)) (fun k => by rw [impl_Crossings.l0, if_pos (by omega), if_pos (by omega), if_pos (by omega), if_pos h1]) (Ev.step (fun k => ?_) i2)
          rw [impl_Crossings.j2, if_neg (by decide), if_neg h2.1, if_neg (fun e => h2.2 e.symm), if_pos (by omega), wsucc (by omega)]
      · rw [if_neg h2, List.nil_append]
        obtain ⟨i1, i2⟩ := ih (i + 1) 1 acc (by omega) (by omega)
        constructor
        · refine Ev.step (f := fun k => spec_Crossings.j2 k l band acc side (i : Int) 1) (fun k => by rw [spec_Crossings.l0, if_pos (by omega), if_pos (by omega), if_pos h1]) (Ev.step (fun k => ?_) i1)
          rw [spec_Crossings.j2, if_pos (by omega), if_pos (by omega), en, if_neg (by omega), wsucc (by omega)]
          by_cases h3 : (1 : Int) = side
          · rw [if_pos h3]
          · rw [if_neg h3, if_pos (by omega)]
        · refine Ev.step (f := fun k => impl_Crossings.j2 k band acc side (i : Int) 1 l (l.length : Int) (i : Int)) (fun k => by rw [impl_Crossings.l0, if_pos (by omega), if_pos (by omega), if_pos (by omega), if_pos h1]) (Ev.step (fun k => ?_) i2)
          rw [impl_Crossings.j2, if_neg (by decide), wsucc (by omega)]
          by_cases h3 : side = 0
          · rw [if_pos h3]
          · rw [if_neg h3, if_pos (by omega)]
    · rw [if_neg h1]
      by_cases h4 : rd l (i : Int) < -band
      · rw [if_pos h4]
        by_cases h2 : side ≠ 0 ∧ side ≠ -1
        · rw [if_pos h2, ← List.append_assoc]
          obtain ⟨i1, i2⟩ := ih (i + 1) (-1) (acc ++ [(i : Int)]) (by omega) (by simp; omega)
          constructor
          · refine Ev.step (f := fun k => spec_Crossings.j2 k l band acc side (i : Int) side) (fun k => by rw [spec_Crossings.l0, if_pos (by omega), if_pos (by omega), if_neg h1]) (Ev.step (fun k => ?_) i1)
            rw [spec_Crossings.j2, if_pos (by omega), if_pos (by omega), en, if_pos (by omega), if_neg (fun e => h2.2 e.symm), if_neg h2.1, if_pos (by omega), wsucc (by omega)]
          · refine Ev.step (f := fun k => impl_Crossings.j2 k band acc side (i : Int) (-1) l (l.length : Int) (i : Int)) (fun k => by rw [impl_Crossings.l0, if_pos (by omega), if_pos (by omega), if_pos (by omega), if_neg h1, eb, if_pos h4]) (Ev.step (fun k => ?_) i2)
            rw [impl_Crossings.j2, if_neg (by decide), if_neg h2.1, if_neg (fun e => h2.2 e.symm), if_pos (by omega), wsucc (by omega)]
        · rw [if_neg h2, List.nil_append]
          obtain ⟨i1, i2⟩ := ih (i + 1) (-1) acc (by omega) (by omega)
          constructor
          · refine Ev.step (f := fun k => spec_Crossings.j2 k l band acc side (i : Int) side) (fun k => by rw [spec_Crossings.l0, if_pos (by omega), if_pos (by omega), if_neg h1]) (Ev.step (fun k => ?_) i1)
            rw [spec_Crossings.j2, if_pos (by omega), if_pos (by omega), en, if_pos (by omega), wsucc (by omega)]
            by_cases h3 : (-1 : Int) = side
            · rw [if_pos h3]
            · rw [if_neg h3, if_pos (by omega)]
          · refine Ev.step (f := fun k => impl_Crossings.j2 k band acc side (i : Int) (-1) l (l.length : Int) (i : Int)) (fun k => by rw [impl_Crossings.l0, if_pos (by omega), if_pos (by omega), if_pos (by omega), if_neg h1, eb, if_pos h4]) (Ev.step (fun k => ?_) i2)
            rw [impl_Crossings.j2, if_neg (by decide), wsucc (by omega)]
            by_cases h3 : side = 0
            · rw [if_pos h3]
            · rw [if_neg h3, if_pos (by omega)]
      · rw [if_neg h4]
        obtain ⟨i1, i2⟩ := ih (i + 1) side acc (by omega) (by omega)
        constructor
        · refine Ev.step (f := fun k => spec_Crossings.j2 k l band acc side (i : Int) side) (fun k => by rw [spec_Crossings.l0, if_pos (by omega), if_pos (by omega), if_neg h1]) (Ev.step (fun k => ?_) i1)
          rw [spec_Crossings.j2, if_pos (by omega), if_pos (by omega), en, if_neg (by omega), if_pos rfl, wsucc (by omega)]
        · refine Ev.step (f := fun k => impl_Crossings.j2 k band acc side (i : Int) 0 l (l.length : Int) (i : Int)) (fun k => by rw [impl_Crossings.l0, if_pos (by omega), if_pos (by omega), if_pos (by omega), if_neg h1, eb, if_neg h4]) (Ev.step (fun k => ?_) i2)
          rw [impl_Crossings.j2, if_pos rfl, wsucc (by omega)]
def crossM (l : List Int) (band : Int) : List Int := if signalB l = true ∧ 0 ≤ band then crossL band 0 0 l else []
theorem sCrossings_ev (l : List Int) (b : Int) (hl : l.length ≤ 1048576) (hb : b ≤ 9223372036854775807) : Ev (fun k => spec_Crossings.f k l b) (crossM l b) := by
  unfold spec_Crossings.f crossM
  refine Ev.bind0 rfl (Ev.bind (sSignalOk_ev l hl) ?_)
  by_cases h1 : signalB l = true
  · refine Ev.pos h1 ?_
    by_cases h2 : b < 0
    · rw [if_neg (by omega), decide_eq_true h2]
      exact Ev.fin (fun k => by rw [spec_Crossings.j0]; rfl)
    · rw [if_pos ⟨h1, by omega⟩, decide_eq_false h2]
      refine Ev.step (fun k => ?_) (Crossings_loops l b (signalB_len h1) (signalB_wide h1) ⟨by omega, hb⟩ l.length 0 0 [] (by omega) (by simp)).1
      rw [spec_Crossings.j0]; rfl
  · rw [if_neg (fun h => h1 h.1)]
    exact Ev.neg h1 (Ev.fin (fun k => by rw [spec_Crossings.j0]; rfl))
theorem iCrossings_ev (l : List Int) (b : Int) (hl : l.length ≤ 1048576) (hb : b ≤ 9223372036854775807) : Ev (fun k => impl_Crossings.f k l b) (crossM l b) := by
  unfold impl_Crossings.f crossM
  refine Ev.bind (iSignalOk_ev l hl) ?_
  by_cases h1 : signalB l = true
  · refine Ev.pos h1 ?_
    by_cases h2 : b < 0
    · rw [if_neg (by omega), decide_eq_true h2]
      exact Ev.fin (fun k => by rw [impl_Crossings.j0]; rfl)
    · rw [if_pos ⟨h1, by omega⟩, decide_eq_false h2]
      refine Ev.step (fun k => ?_) (Crossings_loops l b (signalB_len h1) (signalB_wide h1) ⟨by omega, hb⟩ l.length 0 0 [] (by omega) (by simp)).2
      rw [impl_Crossings.j0]; rfl
  · rw [if_neg (fun h => h1 h.1)]
    exact Ev.neg h1 (Ev.fin (fun k => by rw [impl_Crossings.j0]; rfl))
theorem sameInts_l0 (l : List Int) (hl : l.length ≤ 1048576) : ∀ (d i : Nat), i + d = l.length → Ev (fun k => laws_sameInts.l0 k l l (i : Int)) true := by
  intro d
  induction d with
  | zero =>
    intro i hd
    exact Ev.fin (fun k => by rw [laws_sameInts.l0, if_neg (by omega)])
  | succ d ih =>
    intro i hd
    refine Ev.step (fun k => ?_) (ih (i + 1) (by omega))
    rw [laws_sameInts.l0, if_pos (by omega), if_pos (by omega), if_pos (by omega), if_pos rfl, wsucc (by omega)]
theorem sameInts_ev (l : List Int) (hl : l.length ≤ 1048576) : Ev (fun k => laws_sameInts.f k l l) true := by
  unfold laws_sameInts.f
  exact Ev.pos rfl (sameInts_l0 l hl l.length 0 (by omega))

/-- Places from lo on, the samples there beyond the band, on the other side each time; side: the one ahead. -/
def Alt (L : List Int) (band : Int) : Nat → Int → List Int → Prop
  | _, _, [] => True
  | lo, side, p :: t => ∃ q : Nat, p = (q : Int) ∧ lo ≤ q ∧ q < L.length ∧ ((rd L (q : Int) > band ∧ side ≠ 1 ∧ Alt L band (q + 1) 1 t) ∨ (rd L (q : Int) < -band ∧ side ≠ -1 ∧ Alt L band (q + 1) (-1) t))
theorem Alt.down {L : List Int} {band : Int} {lo lo' : Nat} {side : Int} {c : List Int} (h : Alt L band lo side c) (hl : lo' ≤ lo) : Alt L band lo' side c := by
  cases c with
  | nil => trivial
  | cons p t =>
    obtain ⟨q, h1, h2, h3, h4⟩ := h
    exact ⟨q, h1, Nat.le_trans hl h2, h3, h4⟩
theorem Alt.any {L : List Int} {band : Int} {lo : Nat} {side : Int} {c : List Int} (h : Alt L band lo side c) : Alt L band lo 0 c := by
  cases c with
  | nil => trivial
  | cons p t =>
    obtain ⟨q, h1, h2, h3, h4⟩ := h
    refine ⟨q, h1, h2, h3, ?_⟩
    rcases h4 with h4 | h4
    · exact .inl ⟨h4.1, by decide, h4.2.2⟩
    · exact .inr ⟨h4.1, by decide, h4.2.2⟩
theorem cross_alt (L : List Int) (band : Int) (hb : 0 ≤ band) : ∀ (d i : Nat) (side : Int), i + d = L.length → (side = 0 ∨ side = 1 ∨ side = -1) → Alt L band (if side = 0 then i + 1 else i) side (crossL band side i (L.drop i)) := by
  intro d
  induction d with
  | zero =>
    intro i side hd hs
    rw [List.drop_of_length_le (by omega), crossL]
    trivial
  | succ d ih =>
    intro i side hd hs
    rw [drop_rd (i := i) (by omega), crossL]
    by_cases h1 : rd L (i : Int) > band
    · rw [if_pos h1]
      have h := ih (i + 1) 1 (by omega) (by omega)
      rw [if_neg (by decide)] at h
      by_cases h2 : side ≠ 0 ∧ side ≠ 1
      · rw [if_pos h2, if_neg h2.1]
        exact ⟨i, rfl, Nat.le_refl _, by omega, .inl ⟨h1, h2.2, h⟩⟩
      · rw [if_neg h2, List.nil_append]
        by_cases h0 : side = 0
        · subst h0; rw [if_pos rfl]; exact h.any
        · obtain rfl : side = 1 := by omega
          rw [if_neg h0]; exact h.down (by omega)
    · rw [if_neg h1]
      by_cases h4 : rd L (i : Int) < -band
      · rw [if_pos h4]
        have h := ih (i + 1) (-1) (by omega) (by omega)
        rw [if_neg (by decide)] at h
        by_cases h2 : side ≠ 0 ∧ side ≠ -1
        · rw [if_pos h2, if_neg h2.1]
          exact ⟨i, rfl, Nat.le_refl _, by omega, .inr ⟨h4, h2.2, h⟩⟩
        · rw [if_neg h2, List.nil_append]
          by_cases h0 : side = 0
          · subst h0; rw [if_pos rfl]; exact h.any
          · obtain rfl : side = -1 := by omega
            rw [if_neg h0]; exact h.down (by omega)
      · rw [if_neg h4]
        have h := ih (i + 1) side (by omega) hs
        exact h.down (by split <;> omega)
theorem end_ev : Ev (fun k => (impl_Crossings.f k (([5, (-5), 0, 5] : List Int)) 1).bind fun t254 => ((laws_sameInts.f k t254 (([1, 3] : List Int))).bind fun t260 => (some t260))) true := by
  have h := iCrossings_ev [5, (-5), 0, 5] 1 (by decide) (by decide)
  have e : crossM [5, (-5), 0, 5] 1 = [1, 3] := by decide +kernel
  rw [e] at h
  exact Ev.bind h (Ev.bind (sameInts_ev [1, 3] (by decide)) (Ev.now true))
theorem Crossed_l0 (L c : List Int) (band : Int) (hL : L.length ≤ 512) (hs : ∀ x ∈ L, -1000000000 ≤ x ∧ x ≤ 1000000000) (hb : 0 ≤ band) (hc : c.length ≤ 1000) : ∀ (d j lo : Nat) (side : Int), j + d = c.length → 1 ≤ lo → Alt L band lo side (c.drop j) →
    (∀ i, j = i + 1 → ∃ q : Nat, rd c (i : Int) = (q : Int) ∧ q < lo ∧ q < L.length ∧ ((side = 1 ∧ rd L (q : Int) > band) ∨ (side = -1 ∧ rd L (q : Int) < -band))) → Ev (fun k => laws_FnCrossed.l0 k L band c (j : Int)) true := by
  intro d
  induction d with
  | zero =>
    intro j lo side hd _ _ _
    exact Ev.step (fun k => by rw [laws_FnCrossed.l0, if_neg (by omega)]) end_ev
  | succ d ih =>
    intro j lo side hd h1 ha hp
    rw [drop_rd (i := j) (by omega)] at ha
    obtain ⟨q, e, hlo, hq, hh⟩ := ha
    have hx := hs _ (rd_mem (xs := L) (i := q) hq)
    have ew : wrap64 (-(rd L (q : Int))) = -(rd L (q : Int)) := w64 (by omega) (by omega)
    have eabs : ∃ a, laws_abs.f (rd L (q : Int)) = some a ∧ ¬ a ≤ band := by
      unfold laws_abs.f
      by_cases hn : rd L (q : Int) < 0
      · exact ⟨-(rd L (q : Int)), by rw [if_pos hn, ew], by omega⟩
      · exact ⟨rd L (q : Int), by rw [if_neg hn], by omega⟩
    obtain ⟨a, ea, hab⟩ := eabs
    obtain ⟨s2, hs2, hA⟩ : ∃ s2 : Int, ((s2 = 1 ∧ rd L (q : Int) > band) ∨ (s2 = -1 ∧ rd L (q : Int) < -band)) ∧ Alt L band (q + 1) s2 (c.drop (j + 1)) := by
      rcases hh with hh | hh
      · exact ⟨1, .inl ⟨rfl, hh.1⟩, hh.2.2⟩
      · exact ⟨-1, .inr ⟨rfl, hh.1⟩, hh.2.2⟩
    have next := ih (j + 1) (q + 1) s2 (by omega) (by omega) hA (fun i hi => by
      obtain rfl : i = j := by omega
      exact ⟨q, e, by omega, hq, hs2⟩)
    refine Ev.step (fun k => ?_) next
    rw [laws_FnCrossed.l0, if_pos (by omega), if_pos (by omega), e, if_neg (by omega), if_neg (by omega), if_pos (by omega), if_pos (by omega), ea, Option.bind_some, if_neg hab]
    cases j with
    | zero => rw [if_neg (by omega), wsucc (by omega)]
    | succ i =>
      obtain ⟨p, e2, hp1, hp2, hp3⟩ := hp i rfl
      have ej : wrap64 (((i + 1 : Nat) : Int) - 1) = (i : Int) := by rw [w64 (by omega) (by omega)]; omega
      have eb : ¬ ((decide (rd L (q : Int) > 0)) == (decide (rd L (p : Int) > 0))) = true := by
        rcases hp3 with ⟨rfl, hp3⟩ | ⟨rfl, hp3⟩
        · rcases hh with hh | hh
          · exact absurd rfl hh.2.1
          · rw [decide_eq_false (by omega), decide_eq_true (by omega)]; decide
        · rcases hh with hh | hh
          · rw [decide_eq_true (by omega), decide_eq_false (by omega)]; decide
          · exact absurd rfl hh.2.1
      rw [if_pos (by omega), ej, if_pos (by omega), if_pos (by omega), e2, if_neg (by omega), if_pos (by omega), if_pos (by omega), if_neg eb, wsucc (by omega)]
theorem DrawCrossings_ex (l : List Int) (hl : l.length ≤ 1048576) (hw : Bytes l) : ∃ (r : List Int) (b : Int), r.length ≤ 1000513 ∧ b ≤ 9223372036854775807 ∧ Ev (fun k => spec_DrawCrossings.f k l) (r, b) := by
  obtain ⟨h, c0, e0⟩ := l1New_ex l hl hw
  obtain ⟨t, ht1, ht2, et⟩ := l1Size_ex l hl 40 (by omega)
  obtain ⟨r, i2, h2, p1, p2, c2, e2⟩ := l5DrawAny_ex l 0 h t (by omega) c0
  obtain ⟨x, i3, h3, hx, c3, e3⟩ := l1PickInt_ex l i2 h2 [0, 1, 10, 500, (-1), 9223372036854775807] (by decide) c2
  refine ⟨r, x, p1, ?_, ?_⟩
  · simp only [List.mem_cons, List.not_mem_nil, or_false] at hx
    omega
  · unfold spec_DrawCrossings.f
    exact Ev.bind e0 (Ev.bind0 et (Ev.bind e2 (Ev.bind0 e3 (Ev.now _))))
theorem FnCrossed : laws_FnCrossed.Pure := by
  intro l hl hl8 hw
  refine Ev.rounds ?_
  unfold laws_FnCrossed.f
  refine Ev.bind0 rfl ?_
  by_cases hg : (l.length : Int) > 1048576
  · exact Ev.pos (decide_eq_true hg) (Ev.now true)
  refine Ev.neg (by rw [decide_eq_true_eq]; exact hg) ?_
  obtain ⟨r, b, hr, hb, e0⟩ := DrawCrossings_ex l (by omega) hw
  refine Ev.bind e0 (Ev.bind (iCrossings_ev r b (by omega) hb) (Ev.bind (sCrossings_ev r b (by omega) hb) (Ev.pos rfl ?_)))
  by_cases hM : signalB r = true ∧ 0 ≤ b
  · have hL := signalB_len hM.1
    have e : crossM r b = crossL b 0 0 r := if_pos hM
    have hA := cross_alt r b hM.2 r.length 0 0 (by omega) (by omega)
    have hlen := crossL_len b r 0 0
    rw [e]
    exact Crossed_l0 r (crossL b 0 0 r) b hL (signalB_wide hM.1) hM.2 (by omega) _ 0 1 0 (Nat.zero_add _) (Nat.le_refl _) hA (fun i hi => by omega)
  · have e : crossM r b = [] := if_neg hM
    rw [e]
    exact Ev.step (fun k => by rw [laws_FnCrossed.l0, if_neg (by simp)]) end_ev

end Go.Proofs.Ytonmdhaollhekaa.Pure
