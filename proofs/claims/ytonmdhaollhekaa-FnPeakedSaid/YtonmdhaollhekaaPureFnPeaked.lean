/- The peaks of a drawn signal are at least high, in order, with a sample below low between each two; behind the first sample of at least high there is one; and all samples are counted; no condition. -/
import Derived.Test.YtonmdhaollhekaaQFnPeakedx6
import Derived.Test.YtonmdhaollhekaaCom
set_option linter.unusedVariables false
set_option linter.unusedSimpArgs false
namespace Go.Proofs.Ytonmdhaollhekaa.Pure
open Go.RowKit Go.Proofs.Ytonmdhaollhekaa.PFnPeaked Go.Proofs.YtonmdhaollhekaaW.PrintWords Go.Proofs.YtonmdhaollhekaaW.PrintLast Go.Proofs.Ytonmdhaollhekaa.Com

theorem big_eq (l : List Int) : laws_big.f l = some (decide ((l.length : Int) > 1048576)) := rfl
theorem l1New_l0 (l : List Int) (hl : l.length ≤ 1048576) : ∀ (d i : Nat) (h : Int), i + d = l.length → ∃ h', Ev (fun k => spec_l1New.l0 k l h (i : Int)) (l, 0, h') := by
  intro d
  induction d with
  | zero =>
    intro i h hd
    exact ⟨h, Ev.fin (fun k => by rw [spec_l1New.l0, if_neg (by omega)])⟩
  | succ d ih =>
    intro i h hd
    by_cases h4 : i < 4000
    · obtain ⟨h', e⟩ := ih (i + 1) _ (by omega)
      exact ⟨h', Ev.step (fun k => by rw [spec_l1New.l0, if_pos (by omega), if_pos (by omega), if_pos (by omega), wsucc (by omega)]) e⟩
    · exact ⟨h, Ev.fin (fun k => by rw [spec_l1New.l0, if_pos (by omega), if_neg (by omega)])⟩
theorem l1New_ex (l : List Int) (hl : l.length ≤ 1048576) (hw : Bytes l) : ∃ h, CurOk l 0 ∧ Ev (fun k => spec_l1New.f k l) (l, 0, h) := by
  obtain ⟨h, e⟩ := l1New_l0 l hl l.length 0 (wrap64 (71933 + (l.length : Int))) (by omega)
  exact ⟨h, ⟨by omega, by omega, hl, hw⟩, e⟩
theorem l1Size_ex (l : List Int) (hl : l.length ≤ 1048576) (m : Int) (hm : 2 ≤ m) : ∃ t : Nat, 2 ≤ t ∧ (t : Int) ≤ m ∧ spec_l1Size.f l m = some (t : Int) := by
  unfold spec_l1Size.f
  rw [w64 (n := (l.length : Int) / 20) (by omega) (by omega), w64 (by omega) (by omega)]
  by_cases h : 2 + (l.length : Int) / 20 > m
  · exact ⟨m.toNat, by omega, by omega, by rw [if_pos h, Int.toNat_of_nonneg (by omega)]⟩
  · exact ⟨2 + l.length / 20, by omega, by omega, by rw [if_neg h]; congr 1⟩
theorem l1Byte_ex (s : List Int) (i h : Int) (hc : CurOk s i) : ∃ (x : Nat) (i' h' : Int), x < 256 ∧ CurOk s i' ∧ spec_l1Byte.f s i h = some ((x : Int), i', h') := by
  obtain ⟨h0, h1, h2, h3⟩ := hc
  unfold spec_l1Byte.f
  simp only [and64_255]
  by_cases hi : i < (s.length : Int)
  · rw [if_pos hi, if_pos h0]
    refine ⟨(wrap64 (bits .xor .i64 (wrap64 (wrap64 (h * 6364136223846793005) + 1442695040888963407) / 8589934592) (wrap64 (wrap64 (h * 6364136223846793005) + 1442695040888963407) / 35184372088832) % 256 + wrap64 (rd s i)) % 256).toNat, wrap64 (i + 1), wrap64 (wrap64 (h * 6364136223846793005) + 1442695040888963407), by omega, ⟨?_, ?_, h2, h3⟩, ?_⟩
    · rw [w64 (by omega) (by omega)]; omega
    · rw [w64 (by omega) (by omega)]; omega
    · rw [Int.toNat_of_nonneg (by omega)]
  · rw [if_neg hi]
    refine ⟨(bits .xor .i64 (wrap64 (wrap64 (h * 6364136223846793005) + 1442695040888963407) / 8589934592) (wrap64 (wrap64 (h * 6364136223846793005) + 1442695040888963407) / 35184372088832) % 256).toNat, i, wrap64 (wrap64 (h * 6364136223846793005) + 1442695040888963407), by omega, ⟨h0, h1, h2, h3⟩, ?_⟩
    rw [Int.toNat_of_nonneg (by omega)]
theorem l1Below_ex (s : List Int) (i h n : Int) (hc : CurOk s i) : ∃ (x : Nat) (i' h' : Int), ((x : Int) < n ∨ n ≤ 0 ∧ x = 0) ∧ CurOk s i' ∧ spec_l1Below.f s i h n = some ((x : Int), i', h') := by
  unfold spec_l1Below.f
  by_cases hn : n ≤ 0
  · exact ⟨0, i, h, .inr ⟨hn, rfl⟩, hc, by rw [if_pos hn]; rfl⟩
  rw [if_neg hn]
  obtain ⟨x, i1, h1, hx, c1, e1⟩ := l1Byte_ex s i h hc
  by_cases hn2 : n ≤ 256
  · rw [if_pos hn2, e1, Option.bind_some, if_neg (by omega)]
    have := Int.emod_lt_of_pos (x : Int) (show 0 < n by omega)
    have := Int.emod_nonneg (x : Int) (show n ≠ 0 by omega)
    refine ⟨((x : Int) % n).toNat, i1, h1, .inl (by omega), c1, ?_⟩
    rw [Int.tmod_eq_emod_of_nonneg (by omega), Int.toNat_of_nonneg (by omega)]
  · rw [if_neg hn2]
    obtain ⟨y, i2, h2, hy, c2, e2⟩ := l1Byte_ex s i1 h1 c1
    obtain ⟨z, i3, h3, hz, c3, e3⟩ := l1Byte_ex s i2 h2 c2
    obtain ⟨w, i4, h4, hw, c4, e4⟩ := l1Byte_ex s i3 h3 c3
    simp only [e1, e2, e3, e4, Option.bind_some]
    rw [if_neg (by omega), w64 (n := (x : Int) * 16777216) (by omega) (by omega), w64 (n := (y : Int) * 65536) (by omega) (by omega), w64 (n := (z : Int) * 256) (by omega) (by omega)]
    rw [w64 (n := (x : Int) * 16777216 + (y : Int) * 65536) (by omega) (by omega), w64 (n := (x : Int) * 16777216 + (y : Int) * 65536 + (z : Int) * 256) (by omega) (by omega), w64 (by omega) (by omega)]
    generalize hv : (x : Int) * 16777216 + (y : Int) * 65536 + (z : Int) * 256 + (w : Int) = v
    have hv0 : 0 ≤ v := by omega
    have := Int.emod_lt_of_pos v (show 0 < n by omega)
    have := Int.emod_nonneg v (show n ≠ 0 by omega)
    refine ⟨(v % n).toNat, i4, h4, .inl (by omega), c4, ?_⟩
    rw [Int.tmod_eq_emod_of_nonneg hv0, Int.toNat_of_nonneg (by omega)]
theorem l1Once_ex (s : List Int) (i h n : Int) (hc : CurOk s i) : ∃ (b : Bool) (i' h' : Int), CurOk s i' ∧ spec_l1Once.f s i h n = some (b, i', h') := by
  obtain ⟨x, i1, h1, _, c1, e1⟩ := l1Below_ex s i h n hc
  refine ⟨((x : Int) == 0), i1, h1, c1, ?_⟩
  unfold spec_l1Once.f
  rw [e1, Option.bind_some]
theorem l1PickInt_ex (s : List Int) (i h : Int) (l : List Int) (hl : l.length ≠ 0) (hc : CurOk s i) : ∃ (x : Int) (i' h' : Int), x ∈ l ∧ CurOk s i' ∧ spec_l1PickInt.f s i h l = some (x, i', h') := by
  obtain ⟨x, i1, h1, hx, c1, e1⟩ := l1Below_ex s i h (l.length : Int) hc
  have hlt : x < l.length := by omega
  refine ⟨rd l (x : Int), i1, h1, rd_mem hlt, c1, ?_⟩
  unfold spec_l1PickInt.f
  rw [e1, Option.bind_some, if_pos (by omega), if_pos (by omega)]
theorem l5DrawSample_ex (s : List Int) (i h : Int) (hc : CurOk s i) : ∃ (x i' h' : Int), (-1000000000 ≤ x ∧ x ≤ 1000000000) ∧ CurOk s i' ∧ spec_l5DrawSample.f s i h = some (x, i', h') := by
  obtain ⟨a, i1, h1, ha, c1, e1⟩ := l1Below_ex s i h 5 hc
  unfold spec_l5DrawSample.f
  rw [e1, Option.bind_some]
  by_cases h0 : (a : Int) = 0
  · obtain ⟨b, i2, h2, hb, c2, e2⟩ := l1Below_ex s i1 h1 21 c1
    exact ⟨wrap64 ((b : Int) - 10), i2, h2, by rw [w64 (by omega) (by omega)]; omega, c2, by rw [if_pos h0, e2, Option.bind_some]⟩
  · rw [if_neg h0]
    by_cases h1' : (a : Int) = 1
    · obtain ⟨b, i2, h2, hb, c2, e2⟩ := l1Below_ex s i1 h1 65536 c1
      exact ⟨wrap64 ((b : Int) - 32768), i2, h2, by rw [w64 (by omega) (by omega)]; omega, c2, by rw [if_pos h1', e2, Option.bind_some]⟩
    · rw [if_neg h1']
      by_cases h2' : (a : Int) = 2
      · rw [if_pos h2']
        obtain ⟨b, i2, h2, c2, e2⟩ := l1Once_ex s i1 h1 12 c1
        rw [e2, Option.bind_some]
        cases b with
        | true =>
          obtain ⟨x, i3, h3, hx, c3, e3⟩ := l1PickInt_ex s i2 h2 [1000000000, (-1000000000), 0] (by decide) c2
          refine ⟨x, i3, h3, ?_, c3, by rw [if_pos rfl, e3, Option.bind_some]⟩
          simp only [List.mem_cons, List.not_mem_nil, or_false] at hx
          omega
        | false =>
          obtain ⟨b, i3, h3, hb, c3, e3⟩ := l1Below_ex s i2 h2 2001 c2
          exact ⟨wrap64 ((b : Int) - 1000), i3, h3, by rw [w64 (by omega) (by omega)]; omega, c3, by rw [if_neg (by simp), e3, Option.bind_some]⟩
      · obtain ⟨b, i3, h3, hb, c3, e3⟩ := l1Below_ex s i1 h1 2001 c1
        exact ⟨wrap64 ((b : Int) - 1000), i3, h3, by rw [w64 (by omega) (by omega)]; omega, c3, by rw [if_neg h2', e3, Option.bind_some]⟩
/-- All numbers of a list within ten to the ninth, and one. -/
def Near (l : List Int) : Prop := ∀ x ∈ l, -1000000001 ≤ x ∧ x ≤ 1000000001
theorem Near.snoc {l : List Int} {x : Int} (h : Near l) (hx : -1000000001 ≤ x ∧ x ≤ 1000000001) : Near (l ++ [x]) := by
  intro y hy
  rcases List.mem_append.mp hy with hy | hy
  · exact h y hy
  · rw [List.mem_singleton.mp hy]; exact hx
theorem l5Draw_l0 (s : List Int) : ∀ (n : Nat) (acc : List Int) (i h : Int), acc.length + n ≤ 1048576 → Near acc → CurOk s i → ∃ r i' h', r.length = acc.length + n ∧ Near r ∧ CurOk s i' ∧ Ev (fun k => spec_l5Draw.l0 k acc (n : Int) s i h) (r, i', h') := by
  intro n
  induction n with
  | zero =>
    intro acc i h ha hb hc
    exact ⟨acc, i, h, rfl, hb, hc, Ev.fin (fun k => by rw [spec_l5Draw.l0, if_neg (by omega)])⟩
  | succ n ih =>
    intro acc i h ha hb hc
    obtain ⟨x, i1, h1, hx, c1, e1⟩ := l5DrawSample_ex s i h hc
    obtain ⟨r, i2, h2, p1, p2, p3, e⟩ := ih (acc ++ [x]) i1 h1 (by simp; omega) (hb.snoc (by omega)) c1
    refine ⟨r, i2, h2, by rw [p1]; simp; omega, p2, p3, Ev.step (fun k => ?_) e⟩
    rw [spec_l5Draw.l0, if_pos (by omega), e1, Option.bind_some, if_pos (by omega), w64 (by omega) (by omega), show ((n + 1 : Nat) : Int) - 1 = (n : Int) by omega]
theorem l5Draw_ex (s : List Int) (i h : Int) (m : Nat) (hm : m ≤ 1000000) (hc : CurOk s i) : ∃ r i' h', r.length ≤ m ∧ Near r ∧ CurOk s i' ∧ Ev (fun k => spec_l5Draw.f k s i h (m : Int)) (r, i', h') := by
  unfold spec_l5Draw.f
  obtain ⟨x, i1, h1, hx, c1, e1⟩ := l1Below_ex s i h ((m + 1 : Nat) : Int) hc
  obtain ⟨r, i2, h2, p1, p2, p3, e⟩ := l5Draw_l0 s x [] i1 h1 (by simp; omega) (fun y hy => by cases hy) c1
  refine ⟨r, i2, h2, by rw [p1]; simp; omega, p2, p3, Ev.bind0 (by rw [wsucc (by omega)]; exact e1) e⟩
theorem l5DrawAny_ex (s : List Int) (i h : Int) (m : Nat) (hm : m ≤ 1000000) (hc : CurOk s i) : ∃ r i' h', r.length ≤ 1000513 ∧ Near r ∧ CurOk s i' ∧ Ev (fun k => spec_l5DrawAny.f k s i h (m : Int)) (r, i', h') := by
  unfold spec_l5DrawAny.f
  obtain ⟨r, i1, h1, p1, p2, c1, e1⟩ := l5Draw_ex s i h m hm hc
  obtain ⟨b, i2, h2, c2, e2⟩ := l1Once_ex s i1 h1 25 c1
  have tail : ∀ (l : List Int) (i h : Int), l.length ≤ 1000001 → Near l → CurOk s i → ∃ r i' h', r.length ≤ 1000513 ∧ Near r ∧ CurOk s i' ∧ Ev (fun k => spec_l5DrawAny.j0 k l s i h) (r, i', h') := by
    intro l i h hl hn hc
    obtain ⟨b, i1, h1, c1, e1⟩ := l1Once_ex s i h 80 hc
    cases b with
    | true =>
      obtain ⟨x, i2, h2, hx, c2, e2⟩ := l1Below_ex s i1 h1 2 c1
      have ew : wrap64 (512 + (x : Int)) = 512 + (x : Int) := w64 (by omega) (by omega)
      refine ⟨List.replicate (512 + (x : Int)).toNat 0, i2, h2, by simp; omega, ?_, c2, Ev.fin (fun k => ?_)⟩
      · intro y hy
        rw [(List.mem_replicate.mp hy).2]
        omega
      · rw [spec_l5DrawAny.j0, e1, Option.bind_some, if_pos rfl, e2, Option.bind_some, ew, if_pos (by omega), if_pos (by omega)]
    | false =>
      refine ⟨l, i1, h1, by omega, hn, c1, Ev.fin (fun k => ?_)⟩
      rw [spec_l5DrawAny.j0, e1, Option.bind_some, if_neg (by simp)]
  cases b with
  | true =>
    obtain ⟨x, i3, h3, hx, c3, e3⟩ := l1PickInt_ex s i2 h2 [1000000001, (-1000000001)] (by decide) c2
    have hx2 : -1000000001 ≤ x ∧ x ≤ 1000000001 := by
      simp only [List.mem_cons, List.not_mem_nil, or_false] at hx
      omega
    obtain ⟨r2, i4, h4, q1, q2, q3, q4⟩ := tail (r ++ [x]) i3 h3 (by simp; omega) (p2.snoc hx2) c3
    exact ⟨r2, i4, h4, q1, q2, q3, Ev.bind e1 (Ev.bind0 e2 (Ev.pos rfl (Ev.bind0 e3 (Ev.pos (show r.length < 17592186044416 by omega) q4))))⟩
  | false =>
    obtain ⟨r2, i4, h4, q1, q2, q3, q4⟩ := tail r i2 h2 (by omega) p2 c2
    exact ⟨r2, i4, h4, q1, q2, q3, Ev.bind e1 (Ev.bind0 e2 (Ev.neg (by simp) q4))⟩
theorem l1In_eq (a b c : Int) : spec_l1In.f a b c = some (decide (b ≤ a ∧ a ≤ c)) := by
  unfold spec_l1In.f
  by_cases h : b ≤ a
  · rw [if_pos h]; simp [h]
  · rw [if_neg h]; simp [h]
/-- All numbers are of at most a size. -/
def wideB (s : Int) (l : List Int) : Bool := l.all fun x => decide (-s ≤ x ∧ x ≤ s)
def signalB (l : List Int) : Bool := decide (l.length ≤ 512) && wideB 1000000000 l
theorem wideB_all {s : Int} {l : List Int} (h : wideB s l = true) : ∀ x ∈ l, -s ≤ x ∧ x ≤ s := by
  intro x hx
  have := List.all_eq_true.mp h x hx
  simpa using this
theorem signalB_len {l : List Int} (h : signalB l = true) : l.length ≤ 512 := by
  unfold signalB at h
  rw [Bool.and_eq_true] at h
  exact of_decide_eq_true h.1
theorem signalB_wide {l : List Int} (h : signalB l = true) : ∀ x ∈ l, -1000000000 ≤ x ∧ x ≤ 1000000000 := by
  unfold signalB at h
  rw [Bool.and_eq_true] at h
  exact wideB_all h.2
theorem within_l0 (l : List Int) (s : Int) (hs : 0 ≤ s ∧ s ≤ 4000000000000000000) (hl : l.length ≤ 1048576) : ∀ (d i : Nat), i + d = l.length → Ev (fun k => impl_within.l0 k s l (l.length : Int) (i : Int)) (wideB s (l.drop i)) := by
  intro d
  induction d with
  | zero =>
    intro i hd
    refine Ev.fin (fun k => ?_)
    rw [impl_within.l0, if_neg (by omega), List.drop_of_length_le (by omega)]
    rfl
  | succ d ih =>
    intro i hd
    have ew : wrap64 (-s) = -s := w64 (by omega) (by omega)
    rw [drop_rd (i := i) (by omega)]
    have ec : wideB s (rd l (i : Int) :: l.drop (i + 1)) = (decide (-s ≤ rd l (i : Int) ∧ rd l (i : Int) ≤ s) && wideB s (l.drop (i + 1))) := rfl
    rw [ec]
    by_cases h : -s ≤ rd l (i : Int) ∧ rd l (i : Int) ≤ s
    · rw [decide_eq_true h, Bool.true_and]
      refine Ev.step (fun k => ?_) (ih (i + 1) (by omega))
      rw [impl_within.l0, if_pos (by omega), if_pos (by omega), if_pos (by omega), ew, if_neg (by omega), if_neg (by omega), wsucc (by omega)]
    · rw [decide_eq_false h, Bool.false_and]
      refine Ev.fin (fun k => ?_)
      rw [impl_within.l0, if_pos (by omega), if_pos (by omega), if_pos (by omega), ew]
      by_cases h1 : rd l (i : Int) < -s
      · rw [if_pos h1]
      · rw [if_neg h1, if_pos (by omega)]
theorem within_ev (l : List Int) (s : Int) (hs : 0 ≤ s ∧ s ≤ 4000000000000000000) (hl : l.length ≤ 1048576) : Ev (fun k => impl_within.f k l s) (wideB s l) := within_l0 l s hs hl l.length 0 (by omega)
theorem iSignalOk_ev (l : List Int) (hl : l.length ≤ 1048576) : Ev (fun k => impl_SignalOk.f k l) (signalB l) := by
  unfold impl_SignalOk.f signalB
  by_cases h : (l.length : Int) ≤ 512
  · rw [decide_eq_true (by omega), Bool.true_and]
    exact Ev.pos h (Ev.bind (within_ev l _ (by omega) hl) (Ev.now _))
  · rw [decide_eq_false (by omega), Bool.false_and]
    exact Ev.neg h (Ev.now _)
theorem sSignal_l0 (l : List Int) (hl : l.length ≤ 1048576) : ∀ (d i : Nat), i + d = l.length → Ev (fun k => spec_SignalOk.l0 k l (i : Int)) (decide (l.length ≤ 512) && wideB 1000000000 (l.drop i)) := by
  intro d
  induction d with
  | zero =>
    intro i hd
    refine Ev.fin (fun k => ?_)
    rw [spec_SignalOk.l0, if_neg (by omega), List.drop_of_length_le (by omega)]
    have : wideB 1000000000 [] = true := rfl
    rw [this, Bool.and_true]
    congr 1; rw [Bool.eq_iff_iff]; simp; omega
  | succ d ih =>
    intro i hd
    rw [drop_rd (i := i) (by omega)]
    have ec : wideB 1000000000 (rd l (i : Int) :: l.drop (i + 1)) = (decide (-1000000000 ≤ rd l (i : Int) ∧ rd l (i : Int) ≤ 1000000000) && wideB 1000000000 (l.drop (i + 1))) := rfl
    rw [ec]
    have e5 : spec_l5Sample.f (rd l (i : Int)) = some (decide (-1000000000 ≤ rd l (i : Int) ∧ rd l (i : Int) ≤ 1000000000)) := by
      unfold spec_l5Sample.f; rw [l1In_eq, Option.bind_some]
    by_cases h : -1000000000 ≤ rd l (i : Int) ∧ rd l (i : Int) ≤ 1000000000
    · rw [decide_eq_true h] at e5 ⊢
      rw [Bool.true_and]
      refine Ev.step (fun k => ?_) (ih (i + 1) (by omega))
      rw [spec_SignalOk.l0, if_pos (by omega), if_pos (by omega), e5, Option.bind_some, if_pos rfl, wsucc (by omega)]
    · rw [decide_eq_false h] at e5 ⊢
      rw [Bool.false_and, Bool.and_false]
      refine Ev.fin (fun k => ?_)
      rw [spec_SignalOk.l0, if_pos (by omega), if_pos (by omega), e5, Option.bind_some, if_neg (by decide)]
theorem sSignalOk_ev (l : List Int) (hl : l.length ≤ 1048576) : Ev (fun k => spec_SignalOk.f k l) (signalB l) := sSignal_l0 l hl l.length 0 (by omega)
theorem rdP_lt {xs : List S49} {i : Nat} (h : i < xs.length) : rd_T49 xs (i : Int) = xs[i] := by
  unfold rd_T49; rw [Int.toNat_natCast, List.getD_eq_getElem?_getD, List.getElem?_eq_getElem h]; rfl
theorem takeP_rd {xs : List S49} {i : Nat} (h : i < xs.length) : xs.take (i + 1) = xs.take i ++ [rd_T49 xs (i : Int)] := by
  rw [rdP_lt h, List.take_succ_eq_append_getElem h]
/-- The last peak's size. -/
def lastS (acc : List S49) : Int := (rd_T49 acc ((acc.length - 1 : Nat) : Int)).f1
def peakG (high low : Int) : List Int → Nat → List S49 → Bool → List S49
  | [], _, acc, _ => acc
  | x :: t, i, acc, true => if x < low then peakG high low t (i + 1) acc false else if x > lastS acc then peakG high low t (i + 1) (acc.set (acc.length - 1) ⟨(i : Int), x⟩) true else peakG high low t (i + 1) acc true
  | x :: t, i, acc, false => if x ≥ high then peakG high low t (i + 1) (acc ++ [⟨(i : Int), x⟩]) true else peakG high low t (i + 1) acc false
theorem peakG_len (high low : Int) : ∀ (l : List Int) (i : Nat) (acc : List S49) (b : Bool), (peakG high low l i acc b).length ≤ acc.length + l.length
  | [], _, _, _ => Nat.le_refl _
  | x :: t, i, acc, true => by
    unfold peakG
    have h1 := peakG_len high low t (i + 1) acc false
    have h2 := peakG_len high low t (i + 1) (acc.set (acc.length - 1) ⟨(i : Int), x⟩) true
    have h3 := peakG_len high low t (i + 1) acc true
    rw [List.length_set] at h2
    rw [List.length_cons]
    split
    · omega
    · split <;> omega
  | x :: t, i, acc, false => by
    unfold peakG
    have h1 := peakG_len high low t (i + 1) acc false
    have h2 := peakG_len high low t (i + 1) (acc ++ [⟨(i : Int), x⟩]) true
    simp only [List.length_append, List.length_cons, List.length_nil] at h2
    rw [List.length_cons]
    split <;> omega
theorem Peaks_loops (l : List Int) (high low : Int) (hl : l.length ≤ 512) (hlh : low ≤ high) : ∀ (d i : Nat) (acc : List S49) (b : Bool), i + d = l.length → acc.length ≤ i → (b = true → acc.length ≠ 0) →
    Ev (fun k => spec_Peaks.l0 k l high low acc b (i : Int)) (peakG high low (l.drop i) i acc b, true) ∧ Ev (fun k => impl_Peaks.l0 k high low acc b l (l.length : Int) (i : Int)) (peakG high low (l.drop i) i acc b, true) := by
  intro d
  induction d with
  | zero =>
    intro i acc b hd ha hb
    rw [List.drop_of_length_le (by omega)]
    have e : peakG high low [] i acc b = acc := by unfold peakG; rfl
    rw [e]
    exact ⟨Ev.fin (fun k => by rw [spec_Peaks.l0, if_neg (by omega)]), Ev.fin (fun k => by rw [impl_Peaks.l0, if_neg (by omega)])⟩
  | succ d ih =>
    intro i acc b hd ha hb
    rw [drop_rd (i := i) (by omega)]
    generalize hx : rd l (i : Int) = x
    cases b with
    | true =>
      have h0 := hb rfl
      have el : wrap64 ((acc.length : Int) - 1) = ((acc.length - 1 : Nat) : Int) := by rw [w64 (by omega) (by omega)]; omega
      unfold peakG
      by_cases h1 : x < low
      · rw [if_pos h1]
        obtain ⟨i1, i2⟩ := ih (i + 1) acc false (by omega) (by omega) (fun h => by cases h)
        constructor
        · refine Ev.step (fun k => by rw [spec_Peaks.l0, if_pos (by omega), if_pos (by omega), if_pos rfl, hx, decide_eq_true h1]) (Ev.step (fun k => by rw [spec_Peaks.j2, if_pos rfl]) (Ev.step (fun k => by rw [spec_Peaks.j3, if_neg (by decide), decide_eq_false (show ¬ x ≥ high by omega)]) (Ev.step (fun k => ?_) i1)))
          rw [spec_Peaks.j4, if_neg (by decide), if_neg (by decide), wsucc (by omega)]
        · refine Ev.step (fun k => by rw [impl_Peaks.l0, if_pos (by omega), if_pos (by omega), if_pos (by omega), if_pos rfl, hx]) (Ev.step (fun k => by rw [impl_Peaks.j2, if_neg (by decide), if_pos rfl, decide_eq_true h1]) (Ev.step (fun k => ?_) i2))
          rw [impl_Peaks.j3, if_pos rfl, wsucc (by omega)]
      · rw [if_neg h1]
        by_cases h2 : x > lastS acc
        · rw [if_pos h2]
          obtain ⟨i1, i2⟩ := ih (i + 1) (acc.set (acc.length - 1) ⟨(i : Int), x⟩) true (by omega) (by rw [List.length_set]; omega) (fun _ => by rw [List.length_set]; exact h0)
          constructor
          · refine Ev.step (fun k => by rw [spec_Peaks.l0, if_pos (by omega), if_pos (by omega), if_pos rfl, hx, decide_eq_false h1]) (Ev.step (fun k => by rw [spec_Peaks.j2, if_neg (by decide)]) (Ev.step (fun k => by rw [spec_Peaks.j3, if_pos rfl]) (Ev.step (fun k => ?_) i1)))
            rw [spec_Peaks.j4, if_neg (by decide), if_pos rfl, el, if_pos (by omega), if_pos (by omega), if_pos (show x > (rd_T49 acc ((acc.length - 1 : Nat) : Int)).f1 from h2), wsucc (by omega), Int.toNat_natCast]
          · refine Ev.step (fun k => by rw [impl_Peaks.l0, if_pos (by omega), if_pos (by omega), if_pos (by omega), if_pos rfl, hx]) (Ev.step (fun k => by rw [impl_Peaks.j2, if_neg (by decide), if_pos rfl, decide_eq_false h1]) (Ev.step (fun k => ?_) i2))
            rw [impl_Peaks.j3, if_neg (by decide), if_pos rfl, el, if_pos (by omega), if_pos (by omega), if_pos (show x > (rd_T49 acc ((acc.length - 1 : Nat) : Int)).f1 from h2), wsucc (by omega), Int.toNat_natCast]
        · rw [if_neg h2]
          obtain ⟨i1, i2⟩ := ih (i + 1) acc true (by omega) (by omega) (fun _ => h0)
          constructor
          · refine Ev.step (fun k => by rw [spec_Peaks.l0, if_pos (by omega), if_pos (by omega), if_pos rfl, hx, decide_eq_false h1]) (Ev.step (fun k => by rw [spec_Peaks.j2, if_neg (by decide)]) (Ev.step (fun k => by rw [spec_Peaks.j3, if_pos rfl]) (Ev.step (fun k => ?_) i1)))
            rw [spec_Peaks.j4, if_neg (by decide), if_pos rfl, el, if_pos (by omega), if_pos (by omega), if_neg (show ¬ x > (rd_T49 acc ((acc.length - 1 : Nat) : Int)).f1 from h2), wsucc (by omega)]
          · refine Ev.step (fun k => by rw [impl_Peaks.l0, if_pos (by omega), if_pos (by omega), if_pos (by omega), if_pos rfl, hx]) (Ev.step (fun k => by rw [impl_Peaks.j2, if_neg (by decide), if_pos rfl, decide_eq_false h1]) (Ev.step (fun k => ?_) i2))
            rw [impl_Peaks.j3, if_neg (by decide), if_pos rfl, el, if_pos (by omega), if_pos (by omega), if_neg (show ¬ x > (rd_T49 acc ((acc.length - 1 : Nat) : Int)).f1 from h2), wsucc (by omega)]
    | false =>
      unfold peakG
      by_cases h1 : x ≥ high
      · rw [if_pos h1]
        obtain ⟨i1, i2⟩ := ih (i + 1) (acc ++ [⟨(i : Int), x⟩]) true (by omega) (by simp; omega) (fun _ => by simp)
        have el : wrap64 (((acc ++ [(⟨(i : Int), x⟩ : S49)]).length : Int) - 1) = (acc.length : Int) := by
          have e0 : (acc ++ [(⟨(i : Int), x⟩ : S49)]).length = acc.length + 1 := by rw [List.length_append]; rfl
          rw [e0, w64 (by omega) (by omega)]; omega
        have er : rd_T49 (acc ++ [(⟨(i : Int), x⟩ : S49)]) (acc.length : Int) = ⟨(i : Int), x⟩ := by
          rw [rdP_lt (by simp)]
          try simp
        constructor
        · refine Ev.step (fun k => by rw [spec_Peaks.l0, if_pos (by omega), if_pos (by omega), if_neg (by decide), hx]) (Ev.step (fun k => by rw [spec_Peaks.j2, if_neg (by decide)]) (Ev.step (fun k => by rw [spec_Peaks.j3, if_neg (by decide), decide_eq_true h1]) (Ev.step (fun k => ?_) i1)))
          rw [spec_Peaks.j4, if_pos rfl, if_pos (by omega), Option.bind_some, el, if_pos (by omega), if_pos (by simp; omega), er, if_neg (show ¬ x > x by omega), wsucc (by omega)]
        · refine Ev.step (fun k => by rw [impl_Peaks.l0, if_pos (by omega), if_pos (by omega), if_pos (by omega), if_neg (by decide), hx, decide_eq_true h1]) (Ev.step (fun k => ?_) i2)
          rw [impl_Peaks.j2, if_pos rfl, if_pos (by omega), wsucc (by omega)]
      · rw [if_neg h1]
        obtain ⟨i1, i2⟩ := ih (i + 1) acc false (by omega) (by omega) (fun h => by cases h)
        constructor
        · refine Ev.step (fun k => by rw [spec_Peaks.l0, if_pos (by omega), if_pos (by omega), if_neg (by decide), hx]) (Ev.step (fun k => by rw [spec_Peaks.j2, if_neg (by decide)]) (Ev.step (fun k => by rw [spec_Peaks.j3, if_neg (by decide), decide_eq_false h1]) (Ev.step (fun k => ?_) i1)))
          rw [spec_Peaks.j4, if_neg (by decide), if_neg (by decide), wsucc (by omega)]
        · refine Ev.step (fun k => by rw [impl_Peaks.l0, if_pos (by omega), if_pos (by omega), if_pos (by omega), if_neg (by decide), hx, decide_eq_false h1]) (Ev.step (fun k => by rw [impl_Peaks.j2, if_neg (by decide), if_neg (by decide)]) (Ev.step (fun k => ?_) i2))
          rw [impl_Peaks.j3, if_neg (by decide), if_neg (by decide), wsucc (by omega)]
def peaksM (l : List Int) (high low : Int) : List S49 × Bool := if signalB l = true ∧ low ≤ high then (peakG high low l 0 [] false, true) else ([], false)
theorem sPeaks_ev (l : List Int) (high low : Int) (hl : l.length ≤ 1048576) : Ev (fun k => spec_Peaks.f k l high low) (peaksM l high low) := by
  unfold spec_Peaks.f peaksM
  refine Ev.bind0 rfl (Ev.bind (sSignalOk_ev l hl) ?_)
  by_cases h1 : signalB l = true
  · refine Ev.pos h1 ?_
    by_cases h2 : low > high
    · rw [if_neg (by omega), decide_eq_true h2]
      exact Ev.fin (fun k => by rw [spec_Peaks.j0]; rfl)
    · rw [if_pos ⟨h1, by omega⟩, decide_eq_false h2]
      refine Ev.step (fun k => ?_) (Peaks_loops l high low (signalB_len h1) (by omega) l.length 0 [] false (by omega) (by simp) (fun h => by cases h)).1
      rw [spec_Peaks.j0]; rfl
  · rw [if_neg (fun h => h1 h.1)]
    exact Ev.neg h1 (Ev.fin (fun k => by rw [spec_Peaks.j0]; rfl))
theorem iPeaks_ev (l : List Int) (high low : Int) (hl : l.length ≤ 1048576) : Ev (fun k => impl_Peaks.f k l high low) (peaksM l high low) := by
  unfold impl_Peaks.f peaksM
  refine Ev.bind (iSignalOk_ev l hl) ?_
  by_cases h1 : signalB l = true
  · refine Ev.pos h1 ?_
    by_cases h2 : low > high
    · rw [if_neg (by omega), decide_eq_true h2]
      exact Ev.fin (fun k => by rw [impl_Peaks.j0]; rfl)
    · rw [if_pos ⟨h1, by omega⟩, decide_eq_false h2]
      refine Ev.step (fun k => ?_) (Peaks_loops l high low (signalB_len h1) (by omega) l.length 0 [] false (by omega) (by simp) (fun h => by cases h)).2
      rw [impl_Peaks.j0]; rfl
  · rw [if_neg (fun h => h1 h.1)]
    exact Ev.neg h1 (Ev.fin (fun k => by rw [impl_Peaks.j0]; rfl))
theorem Peaks_both (l : List Int) (high low : Int) (hl : l.length ≤ 1048576) : ∃ r ok, Ev (fun k => spec_Peaks.f k l high low) (r, ok) ∧ Ev (fun k => impl_Peaks.f k l high low) (r, ok) ∧ r.length ≤ 17592186044416 := by
  refine ⟨(peaksM l high low).1, (peaksM l high low).2, sPeaks_ev l high low hl, iPeaks_ev l high low hl, ?_⟩
  unfold peaksM
  split
  · have := peakG_len high low l 0 [] false
    simp at this
    simp only
    omega
  · simp
/-- In which drawer a number lies. -/
def drawer (m : List Int) (x : Int) : Nat → Nat → Nat
  | 0, j => j
  | d + 1, j => if x ≥ rd m (j : Int) then drawer m x d (j + 1) else j
theorem drawer_le (m : List Int) (x : Int) : ∀ d j, drawer m x d j ≤ j + d
  | 0, j => Nat.le_refl _
  | d + 1, j => by
    unfold drawer
    have := drawer_le m x d (j + 1)
    split <;> omega
def countL (m : List Int) : List Int → List Int → List Int
  | [], out => out
  | x :: t, out => countL m t (out.set (drawer m x m.length 0) (wrap64 (rd out ((drawer m x m.length 0 : Nat) : Int) + 1)))
theorem countL_len (m : List Int) : ∀ (l out : List Int), (countL m l out).length = out.length
  | [], _ => rfl
  | x :: t, out => by rw [countL, countL_len m t, List.length_set]
theorem iCounts_l2 (l m : List Int) (hl : l.length ≤ 512) (hm : m.length ≤ 100) (i : Nat) (hi : i < l.length) (out : List Int) (ho : out.length = m.length + 1) (R : List Int × Bool) : ∀ (d j : Nat), j + d = m.length →
    Ev (fun k => impl_Counts.l1 k m (out.set (drawer m (rd l (i : Int)) d j) (wrap64 (rd out ((drawer m (rd l (i : Int)) d j : Nat) : Int) + 1))) l (l.length : Int) ((i + 1 : Nat) : Int)) R → Ev (fun k => impl_Counts.l2 k m out (rd l (i : Int)) (j : Int) l (l.length : Int) (i : Int)) R := by
  intro d
  induction d with
  | zero =>
    intro j hd h
    refine Ev.step (fun k => ?_) h
    rw [impl_Counts.l2, if_neg (by omega), if_pos (by omega), if_pos (by omega), wsucc (by omega), Int.toNat_natCast]
    rfl
  | succ d ih =>
    intro j hd h
    unfold drawer at h
    by_cases hc : rd l (i : Int) ≥ rd m (j : Int)
    · rw [if_pos hc] at h
      refine Ev.step (fun k => ?_) (ih (j + 1) (by omega) h)
      rw [impl_Counts.l2, if_pos (by omega), if_pos (by omega), if_pos hc, wsucc (by omega)]
    · rw [if_neg hc] at h
      refine Ev.step (fun k => ?_) h
      rw [impl_Counts.l2, if_pos (by omega), if_pos (by omega), if_neg hc, if_pos (by omega), wsucc (by omega), Int.toNat_natCast]
theorem iCounts_l1 (l m : List Int) (hl : l.length ≤ 512) (hm : m.length ≤ 100) : ∀ (d i : Nat) (out : List Int), i + d = l.length → out.length = m.length + 1 →
    Ev (fun k => impl_Counts.l1 k m out l (l.length : Int) (i : Int)) (countL m (l.drop i) out, true) := by
  intro d
  induction d with
  | zero =>
    intro i out hd ho
    rw [List.drop_of_length_le (by omega), countL]
    exact Ev.fin (fun k => by rw [impl_Counts.l1, if_neg (by omega)])
  | succ d ih =>
    intro i out hd ho
    rw [drop_rd (i := i) (by omega), countL]
    have ih := ih (i + 1) (out.set (drawer m (rd l (i : Int)) m.length 0) (wrap64 (rd out ((drawer m (rd l (i : Int)) m.length 0 : Nat) : Int) + 1))) (by omega) (by simpa using ho)
    refine Ev.step (fun k => ?_) (iCounts_l2 l m hl hm i (by omega) out ho _ m.length 0 (by omega) ih)
    rw [impl_Counts.l1, if_pos (by omega), if_pos (by omega), if_pos (by omega)]; rfl
/-- Do the numbers from place j on rise? -/
def rises (m : List Int) : Nat → Nat → Bool
  | 0, _ => true
  | d + 1, j => if rd m (j : Int) ≤ rd m ((j - 1 : Nat) : Int) then false else rises m d (j + 1)
def countsM (l m : List Int) : List Int × Bool := if signalB l = true ∧ m.length ≤ 100 ∧ rises m (m.length - 1) 1 = true then (countL m l (List.replicate (m.length + 1) 0), true) else ([], false)
theorem iCounts_l0 (l m : List Int) (hl : l.length ≤ 512) (hm : m.length ≤ 100) : ∀ (d j : Nat), 1 ≤ j → m.length ≤ j + d → (0 < d → j + d ≤ m.length) →
    Ev (fun k => impl_Counts.l0 k l m (j : Int)) (if rises m d j = true then (countL m l (List.replicate (m.length + 1) 0), true) else ([], false)) := by
  have e1 : wrap64 ((m.length : Int) + 1) = ((m.length + 1 : Nat) : Int) := by rw [w64 (by omega) (by omega)]; omega
  intro d
  induction d with
  | zero =>
    intro j h1 h2 h3
    rw [if_pos (by rfl)]
    refine Ev.step (fun k => ?_) (iCounts_l1 l m hl hm l.length 0 (List.replicate (m.length + 1) 0) (by omega) (by simp))
    rw [impl_Counts.l0, if_neg (by omega), e1, if_pos (by omega), if_pos (by omega), Int.toNat_natCast]
    rfl
  | succ d ih =>
    intro j h1 h2 h3
    have e2 : wrap64 ((j : Int) - 1) = ((j - 1 : Nat) : Int) := by rw [w64 (by omega) (by omega)]; omega
    by_cases hj : j < m.length
    · unfold rises
      by_cases hc : rd m (j : Int) ≤ rd m ((j - 1 : Nat) : Int)
      · rw [if_pos hc, if_neg (by decide)]
        refine Ev.fin (fun k => ?_)
        rw [impl_Counts.l0, if_pos (by omega), if_pos (by omega), e2, if_pos (by omega), if_pos (by omega), if_pos hc]
      · rw [if_neg hc]
        refine Ev.step (fun k => ?_) (ih (j + 1) (by omega) (by omega) (fun h => by have := h3 (by omega); omega))
        rw [impl_Counts.l0, if_pos (by omega), if_pos (by omega), e2, if_pos (by omega), if_pos (by omega), if_neg hc, wsucc (by omega)]
    · have := h3 (by omega); omega
theorem iCounts_ev (l m : List Int) (hl : l.length ≤ 1048576) : Ev (fun k => impl_Counts.f k l m) (countsM l m) := by
  unfold impl_Counts.f countsM
  refine Ev.bind (iSignalOk_ev l hl) ?_
  by_cases h1 : signalB l = true
  · refine Ev.pos h1 ?_
    by_cases h2 : (m.length : Int) > 100
    · rw [if_neg (by omega), decide_eq_true h2]
      exact Ev.fin (fun k => by rw [impl_Counts.j0]; rfl)
    · rw [decide_eq_false h2]
      refine Ev.cast (Ev.step (fun k => ?_) (iCounts_l0 l m (signalB_len h1) (by omega) (m.length - 1) 1 (by omega) (by omega) (by omega))) ?_
      · rw [impl_Counts.j0]; rfl
      · by_cases h3 : rises m (m.length - 1) 1 = true
        · rw [if_pos h3, if_pos ⟨h1, by omega, h3⟩]
        · rw [if_neg h3, if_neg (fun h => h3 h.2.2)]
  · rw [if_neg (fun h => h1 h.1)]
    exact Ev.neg h1 (Ev.fin (fun k => by rw [impl_Counts.j0]; rfl))

theorem rdP_set_eq {xs : List S49} {i : Nat} (h : i < xs.length) (v : S49) : rd_T49 (xs.set i v) (i : Int) = v := by
  rw [rdP_lt (by rw [List.length_set]; exact h), List.getElem_set_self]
theorem rdP_set_ne {xs : List S49} {i j : Nat} (h : i ≠ j) (v : S49) : rd_T49 (xs.set i v) (j : Int) = rd_T49 xs (j : Int) := by
  unfold rd_T49
  rw [Int.toNat_natCast, List.getD_eq_getElem?_getD, List.getD_eq_getElem?_getD, List.getElem?_set_ne h]
theorem rdP_app_lt {xs : List S49} {i : Nat} (h : i < xs.length) (v : S49) : rd_T49 (xs ++ [v]) (i : Int) = rd_T49 xs (i : Int) := by
  unfold rd_T49
  rw [Int.toNat_natCast, List.getD_eq_getElem?_getD, List.getD_eq_getElem?_getD, List.getElem?_append_left h]
theorem rdP_app_eq (xs : List S49) (v : S49) : rd_T49 (xs ++ [v]) (xs.length : Int) = v := by
  unfold rd_T49
  rw [Int.toNat_natCast, List.getD_eq_getElem?_getD, List.getElem?_append_right (Nat.le_refl _), Nat.sub_self]; rfl
/-- What holds of the peaks when i samples have been seen. -/
structure PG (l : List Int) (high low : Int) (i : Nat) (acc : List S49) (b : Bool) : Prop where
  at_ : ∀ j : Nat, j < acc.length → ∃ p : Nat, p < i ∧ (rd_T49 acc (j : Int)).f0 = (p : Int) ∧ rd l (p : Int) = (rd_T49 acc (j : Int)).f1 ∧ high ≤ (rd_T49 acc (j : Int)).f1
  gap : ∀ j : Nat, j + 1 < acc.length → ∃ q : Nat, (rd_T49 acc (j : Int)).f0 < (q : Int) ∧ (q : Int) < (rd_T49 acc ((j + 1 : Nat) : Int)).f0 ∧ rd l (q : Int) < low
  open_ : b = false → acc.length ≠ 0 → ∃ q : Nat, q < i ∧ (rd_T49 acc ((acc.length - 1 : Nat) : Int)).f0 < (q : Int) ∧ rd l (q : Int) < low
  none_ : acc.length = 0 → ∀ q : Nat, q < i → rd l (q : Int) < high
  bt : b = true → acc.length ≠ 0
theorem peakG_good (l : List Int) (high low : Int) : ∀ (t : List Int) (i : Nat) (acc : List S49) (b : Bool), l.drop i = t → i + t.length = l.length → PG l high low i acc b → ∃ b', PG l high low l.length (peakG high low t i acc b) b' := by
  intro t
  induction t with
  | nil =>
    intro i acc b hd hl hp
    obtain rfl : i = l.length := by simpa using hl
    refine ⟨b, ?_⟩
    unfold peakG
    exact hp
  | cons x t ih =>
    intro i acc b hd hl hp
    have hi : i < l.length := by rw [List.length_cons] at hl; omega
    have hdr := drop_rd hi
    rw [hd] at hdr
    have hx : rd l (i : Int) = x := (List.cons.inj hdr).1.symm
    have ht : l.drop (i + 1) = t := (List.cons.inj hdr).2.symm
    have hl' : i + 1 + t.length = l.length := by rw [List.length_cons] at hl; omega
    cases b with
    | true =>
      have h0 := hp.bt rfl
      unfold peakG
      by_cases h1 : x < low
      · rw [if_pos h1]
        refine ih (i + 1) acc false ht hl' ⟨?_, hp.gap, ?_, fun h => absurd h h0, fun h => by cases h⟩
        · intro j hj
          obtain ⟨p, e1, e2, e3, e4⟩ := hp.at_ j hj
          exact ⟨p, by omega, e2, e3, e4⟩
        · intro _ _
          obtain ⟨p, e1, e2, _, _⟩ := hp.at_ (acc.length - 1) (by omega)
          exact ⟨i, by omega, by rw [e2]; omega, by rw [hx]; exact h1⟩
      · rw [if_neg h1]
        by_cases h2 : x > lastS acc
        · rw [if_pos h2]
          obtain ⟨p0, f1, f2, f3, f4⟩ := hp.at_ (acc.length - 1) (by omega)
          have h2' : (rd_T49 acc ((acc.length - 1 : Nat) : Int)).f1 < x := h2
          refine ih (i + 1) _ true ht hl' ⟨?_, ?_, fun h => (by cases h), fun h => by rw [List.length_set] at h; exact absurd h h0, fun _ => by rw [List.length_set]; exact h0⟩
          · intro j hj
            rw [List.length_set] at hj
            by_cases hj2 : j = acc.length - 1
            · subst hj2
              rw [rdP_set_eq hj]
              exact ⟨i, by omega, rfl, hx, by show high ≤ x; omega⟩
            · rw [rdP_set_ne (fun e => hj2 e.symm)]
              obtain ⟨p, e1, e2, e3, e4⟩ := hp.at_ j hj
              exact ⟨p, by omega, e2, e3, e4⟩
          · intro j hj
            rw [List.length_set] at hj
            obtain ⟨q, g1, g2, g3⟩ := hp.gap j hj
            rw [rdP_set_ne (by omega)]
            by_cases hj2 : j + 1 = acc.length - 1
            · rw [hj2, rdP_set_eq (by omega)]
              rw [hj2, f2] at g2
              exact ⟨q, g1, by show (q : Int) < (i : Int); omega, g3⟩
            · rw [rdP_set_ne (fun e => hj2 e.symm)]
              exact ⟨q, g1, g2, g3⟩
        · rw [if_neg h2]
          refine ih (i + 1) acc true ht hl' ⟨?_, hp.gap, fun h => (by cases h), fun h => absurd h h0, fun _ => h0⟩
          intro j hj
          obtain ⟨p, e1, e2, e3, e4⟩ := hp.at_ j hj
          exact ⟨p, by omega, e2, e3, e4⟩
    | false =>
      unfold peakG
      by_cases h1 : x ≥ high
      · rw [if_pos h1]
        have hlen : (acc ++ [(⟨(i : Int), x⟩ : S49)]).length = acc.length + 1 := by rw [List.length_append]; rfl
        refine ih (i + 1) _ true ht hl' ⟨?_, ?_, fun h => (by cases h), fun h => by rw [hlen] at h; omega, fun _ => by rw [hlen]; omega⟩
        · intro j hj
          rw [hlen] at hj
          by_cases hj2 : j = acc.length
          · subst hj2
            rw [rdP_app_eq]
            exact ⟨i, by omega, rfl, hx, h1⟩
          · rw [rdP_app_lt (by omega)]
            obtain ⟨p, e1, e2, e3, e4⟩ := hp.at_ j (by omega)
            exact ⟨p, by omega, e2, e3, e4⟩
        · intro j hj
          rw [hlen] at hj
          rw [rdP_app_lt (by omega)]
          by_cases hj2 : j + 1 = acc.length
          · rw [hj2, rdP_app_eq]
            obtain ⟨q, g1, g2, g3⟩ := hp.open_ rfl (by omega)
            rw [show acc.length - 1 = j by omega] at g2
            exact ⟨q, g2, by show (q : Int) < (i : Int); omega, g3⟩
          · rw [rdP_app_lt (by omega)]
            exact hp.gap j (by omega)
      · rw [if_neg h1]
        refine ih (i + 1) acc false ht hl' ⟨?_, hp.gap, ?_, ?_, fun h => by cases h⟩
        · intro j hj
          obtain ⟨p, e1, e2, e3, e4⟩ := hp.at_ j hj
          exact ⟨p, by omega, e2, e3, e4⟩
        · intro _ h
          obtain ⟨q, g1, g2, g3⟩ := hp.open_ rfl h
          exact ⟨q, by omega, g2, g3⟩
        · intro h q hq
          by_cases hqi : q = i
          · subst hqi; rw [hx]; omega
          · exact hp.none_ h q (by omega)
/-- Is one of the first samples at least high? -/
def hasB (l : List Int) (high : Int) : Nat → Bool
  | 0 => false
  | i + 1 => hasB l high i || decide (rd l (i : Int) ≥ high)
theorem hasB_iff (l : List Int) (high : Int) : ∀ n, hasB l high n = true ↔ ∃ q : Nat, q < n ∧ high ≤ rd l (q : Int)
  | 0 => ⟨fun h => (by cases h), fun ⟨q, h, _⟩ => by omega⟩
  | n + 1 => by
    unfold hasB
    rw [Bool.or_eq_true, hasB_iff l high n, decide_eq_true_eq]
    constructor
    · rintro (⟨q, h1, h2⟩ | h)
      · exact ⟨q, by omega, h2⟩
      · exact ⟨n, by omega, h⟩
    · rintro ⟨q, h1, h2⟩
      by_cases e : q = n
      · subst e; exact .inr h2
      · exact .inl ⟨q, by omega, h2⟩
/-- Is one of the first samples, behind a, below low? -/
def scanB (l : List Int) (low a : Int) : Nat → Bool
  | 0 => false
  | i + 1 => scanB l low a i || (decide (a < (i : Int)) && decide (rd l (i : Int) < low))
theorem scanB_of {l : List Int} {low a : Int} {q : Nat} (h1 : a < (q : Int)) (h2 : rd l (q : Int) < low) : ∀ {n : Nat}, q < n → scanB l low a n = true
  | n + 1, h => by
    unfold scanB
    by_cases e : q = n
    · subst e; rw [decide_eq_true h1, decide_eq_true h2, Bool.and_true, Bool.or_true]
    · rw [scanB_of h1 h2 (n := n) (by omega), Bool.true_or]
def isum : List Int → Int
  | [] => 0
  | x :: t => x + isum t
theorem isum_set : ∀ (l : List Int) (j : Nat) (v : Int), j < l.length → isum (l.set j v) = isum l + v - rd l (j : Int)
  | [], _, _, h => by simp at h
  | x :: t, 0, v, _ => by
    show v + isum t = x + isum t + v - x
    omega
  | x :: t, j + 1, v, h => by
    have ih := isum_set t j v (by simpa using h)
    have er : rd (x :: t) ((j + 1 : Nat) : Int) = rd t (j : Int) := rfl
    rw [er]
    show x + isum (t.set j v) = x + isum t + v - rd t (j : Int)
    omega
theorem countL_sum (m : List Int) : ∀ (l out : List Int) (B : Nat), out.length = m.length + 1 → (∀ x ∈ out, 0 ≤ x ∧ x ≤ (B : Int)) → B + l.length ≤ 1000000 → isum (countL m l out) = isum out + (l.length : Int) ∧ ∀ x ∈ countL m l out, 0 ≤ x ∧ x ≤ 1000000
  | [], out, B, _, h, hB => by
    rw [countL]
    refine ⟨by simp, fun x hx => ?_⟩
    have := h x hx
    omega
  | x :: t, out, B, ho, h, hB => by
    have hd := drawer_le m x m.length 0
    have hj : drawer m x m.length 0 < out.length := by omega
    have hb := h _ (rd_mem hj)
    rw [List.length_cons] at hB
    have hw : wrap64 (rd out ((drawer m x m.length 0 : Nat) : Int) + 1) = rd out ((drawer m x m.length 0 : Nat) : Int) + 1 := w64 (by omega) (by omega)
    rw [countL, hw]
    obtain ⟨h1, h2⟩ := countL_sum m t (out.set (drawer m x m.length 0) (rd out ((drawer m x m.length 0 : Nat) : Int) + 1)) (B + 1) (by rw [List.length_set]; exact ho) (fun y hy => by
      rcases List.mem_or_eq_of_mem_set hy with h3 | h3
      · have := h y h3; omega
      · rw [h3]; omega) (by omega)
    refine ⟨?_, h2⟩
    rw [h1, isum_set _ _ _ hj, List.length_cons]
    omega
def sumW (s : Int) : List Int → Int
  | [] => s
  | x :: t => sumW (wrap64 (s + x)) t
theorem sumW_eq : ∀ (l : List Int) (s : Int), (∀ x ∈ l, 0 ≤ x ∧ x ≤ 1000000) → 0 ≤ s → s + 1000000 * (l.length : Int) ≤ 4000000000000000000 → sumW s l = s + isum l
  | [], s, _, _, _ => by show s = s + 0; omega
  | x :: t, s, h, h0, h1 => by
    have hx := h x List.mem_cons_self
    rw [List.length_cons] at h1
    show sumW (wrap64 (s + x)) t = s + (x + isum t)
    rw [w64 (by omega) (by omega), sumW_eq t (s + x) (fun y hy => h y (List.mem_cons_of_mem _ hy)) (by omega) (by omega)]
    omega
theorem one_peak : Ev (fun k => impl_Peaks.f k [1, 9, 2, 0] 5 2) ([⟨1, 9⟩], true) := by
  have h := iPeaks_ev [1, 9, 2, 0] 5 2 (by decide)
  have e : peaksM [1, 9, 2, 0] 5 2 = ([⟨1, 9⟩], true) := by
    unfold peaksM
    rw [if_pos (by decide)]; rfl
  rw [e] at h; exact h
theorem Peaked_l3 (l : List Int) (x7 : Bool) (c : List Int) (x16 : Bool) (hc : c.length ≤ 1000) : ∀ (d i : Nat) (s : Int), i + d = c.length → (x7 = true → x16 = true ∧ sumW s (c.drop i) = (l.length : Int)) → Ev (fun k => laws_FnPeaked.l3 k l x7 c x16 s (i : Int)) true := by
  intro d
  induction d with
  | zero =>
    intro i s hd h
    have e : c.drop i = [] := List.drop_of_length_le (by omega)
    rw [e] at h
    have h1 : Ev (fun k => (impl_Peaks.f k (([1, 9, 2, 0] : List Int)) 5 2).bind fun bt279 => (if bt279.2 = true then (if (bt279.1.length : Int) = 1 then (if 0 < (bt279.1.length : Int) then (if (((rd_T49 bt279.1 0).f0) == 1 && (((rd_T49 bt279.1 0).f1) == 9)) = true then (if x7 = true then (if x16 = true then (some (s == (l.length : Int))) else (some false)) else (some true)) else (some false)) else (none)) else (some false)) else (some false))) true := by
      refine Ev.bind one_peak (Ev.pos rfl (Ev.pos rfl (Ev.pos (by decide) (Ev.pos rfl ?_))))
      by_cases h7 : x7 = true
      · obtain ⟨h2, h3⟩ := h h7
        have h4 : s = (l.length : Int) := h3
        exact Ev.pos h7 (Ev.pos h2 (Ev.cast (Ev.now _) (by rw [h4]; simp)))
      · exact Ev.neg h7 (Ev.now true)
    exact Ev.step (fun k => by rw [laws_FnPeaked.l3, if_neg (by omega)]) h1
  | succ d ih =>
    intro i s hd h
    have e := drop_rd (xs := c) (i := i) (by omega)
    rw [e] at h
    refine Ev.step (fun k => ?_) (ih (i + 1) (wrap64 (s + rd c (i : Int))) (by omega) h)
    rw [laws_FnPeaked.l3, if_pos (by omega), if_pos (by omega), wsucc (by omega)]
theorem Peaked_l2 (l : List Int) (hl : l.length ≤ 1048576) (high low : Int) (P : List S49) (ok : Bool) (j : Nat) (hj : j + 1 < P.length) (hP : P.length ≤ 1048576) (p : Nat) (hp : p < l.length) (ep : (rd_T49 P ((j + 1 : Nat) : Int)).f0 = (p : Int)) (hs : scanB l low ((rd_T49 P (j : Int)).f0) p = true) (R : Bool)
    (K : Ev (fun k => laws_FnPeaked.l1 k l high low P ok ((j + 2 : Nat) : Int)) R) : ∀ (d q : Nat), q + d = p → Ev (fun k => laws_FnPeaked.l2 k l high low P ok ((j + 1 : Nat) : Int) (scanB l low ((rd_T49 P (j : Int)).f0) q) (q : Int)) R := by
  have ej : wrap64 (((j + 1 : Nat) : Int) - 1) = (j : Int) := by rw [w64 (by omega) (by omega)]; omega
  intro d
  induction d with
  | zero =>
    intro q hd
    obtain rfl : q = p := by omega
    refine Ev.step (fun k => ?_) K
    rw [hs, laws_FnPeaked.l2, if_pos (by omega), if_pos (by omega), if_pos (by omega), ep, if_neg (by omega), if_pos rfl, wsucc (by omega)]
  | succ d ih =>
    intro q hd
    have hn := ih (q + 1) (by omega)
    refine Ev.step (fun k => ?_) hn
    rw [laws_FnPeaked.l2, if_pos (by omega), if_pos (by omega), if_pos (by omega), ep, if_pos (by omega)]
    rw [show scanB l low ((rd_T49 P (j : Int)).f0) (q + 1) = (scanB l low ((rd_T49 P (j : Int)).f0) q || (decide ((rd_T49 P (j : Int)).f0 < (q : Int)) && decide (rd l (q : Int) < low))) from rfl]
    by_cases hb : scanB l low ((rd_T49 P (j : Int)).f0) q = true
    · rw [hb, if_pos rfl, Bool.true_or, wsucc (by omega)]
    · rw [Bool.eq_false_iff.mpr hb, if_neg (by decide), ej, if_pos (by omega), if_pos (by omega), Bool.false_or]
      by_cases hc : (q : Int) > (rd_T49 P (j : Int)).f0
      · rw [if_pos hc, if_pos (by omega), if_pos (by omega), decide_eq_true (show (rd_T49 P (j : Int)).f0 < (q : Int) from hc), Bool.true_and, wsucc (by omega)]
      · rw [if_neg hc, decide_eq_false (show ¬ (rd_T49 P (j : Int)).f0 < (q : Int) from hc), Bool.false_and, wsucc (by omega)]
theorem Peaked_l1 (l : List Int) (hl : l.length ≤ 1048576) (high low : Int) (P : List S49) (ok b : Bool) (hP : P.length ≤ 1048576) (g : PG l high low l.length P b) (R : Bool)
    (K : Ev (fun k => (impl_Counts.f k l (([low, wrap64 (high + 1)] : List Int))).bind fun bt271 => (laws_FnPeaked.l3 k l ok bt271.1 bt271.2 0 0)) R) : ∀ (d j : Nat), j + d = P.length → Ev (fun k => laws_FnPeaked.l1 k l high low P ok (j : Int)) R := by
  intro d
  induction d with
  | zero =>
    intro j hd
    exact Ev.step (fun k => by rw [laws_FnPeaked.l1, if_neg (by omega)]) K
  | succ d ih =>
    intro j hd
    have hn := ih (j + 1) (by omega)
    obtain ⟨p, e1, e2, e3, e4⟩ := g.at_ j (by omega)
    have h2 : Ev (fun k => laws_FnPeaked.l2 k l high low P ok (j : Int) ((j : Int) == 0) 0) R := by
      cases j with
      | zero =>
        refine Ev.step (fun k => ?_) hn
        rw [laws_FnPeaked.l2, if_neg (by omega), if_pos (by rfl), wsucc (by omega)]
      | succ j =>
        obtain ⟨q, g1, g2, g3⟩ := g.gap j (by omega)
        rw [e2] at g2
        have hsc := scanB_of g1 g3 (n := p) (by omega)
        have h3 := Peaked_l2 l hl high low P ok j (by omega) hP p e1 e2 hsc R hn p 0 (by omega)
        have e0 : (((j + 1 : Nat) : Int) == 0) = false := beq_eq_false_iff_ne.mpr (by omega)
        rw [e0]
        exact h3
    have h4 : Ev (fun k => laws_FnPeaked.j4 k l high low P ok (j : Int) (decide ((rd_T49 P (j : Int)).f1 < high))) R := by
      refine Ev.step (fun k => ?_) h2
      rw [laws_FnPeaked.j4, decide_eq_false (by omega), if_neg (by decide)]
    refine Ev.step (fun k => ?_) h4
    rw [laws_FnPeaked.l1, if_pos (by omega), if_pos (by omega), if_neg (by omega), if_neg (by omega), if_pos (by omega), if_pos (by omega), if_pos (by rw [e2]; exact e3)]
theorem Peaked_l0 (l : List Int) (hl : l.length ≤ 1048576) (high low : Int) (P : List S49) (ok : Bool) (R : Bool)
    (K : Ev (fun k => if ok = true then (laws_FnPeaked.j2 k l high low P ok (hasB l high l.length != (decide ((P.length : Int) > 0)))) else (laws_FnPeaked.j2 k l high low P ok false)) R) : ∀ (d i : Nat), i + d = l.length → Ev (fun k => laws_FnPeaked.l0 k l high low P ok (hasB l high i) (i : Int)) R := by
  intro d
  induction d with
  | zero =>
    intro i hd
    obtain rfl : i = l.length := by omega
    exact Ev.step (fun k => by rw [laws_FnPeaked.l0, if_neg (by omega)]) K
  | succ d ih =>
    intro i hd
    refine Ev.step (fun k => ?_) (ih (i + 1) (by omega))
    rw [laws_FnPeaked.l0, if_pos (by omega)]
    rw [show hasB l high (i + 1) = (hasB l high i || decide (rd l (i : Int) ≥ high)) from rfl]
    by_cases hb : hasB l high i = true
    · rw [hb, if_pos rfl, Bool.true_or, wsucc (by omega)]
    · rw [Bool.eq_false_iff.mpr hb, if_neg (by decide), if_pos (by omega), Bool.false_or, wsucc (by omega)]
theorem Peaked_j0 (l : List Int) (hl : l.length ≤ 1048576) (high low : Int) (hh : -1000 ≤ high ∧ high ≤ 1000) : Ev (fun k => laws_FnPeaked.j0 k l high low) true := by
  have ew : wrap64 (high + 1) = high + 1 := w64 (by omega) (by omega)
  have main : Ev (fun k => laws_FnPeaked.l0 k l high low (peaksM l high low).1 (peaksM l high low).2 false 0) true := by
    by_cases hok : signalB l = true ∧ low ≤ high
    · have hlen := signalB_len hok.1
      obtain ⟨b, g⟩ := peakG_good l high low l 0 [] false rfl (by omega) ⟨fun j hj => by simp at hj, fun j hj => by simp at hj, fun _ h => by simp at h, fun _ q hq => by omega, fun h => by cases h⟩
      have hPl := peakG_len high low l 0 [] false
      have eM : peaksM l high low = (peakG high low l 0 [] false, true) := by unfold peaksM; rw [if_pos hok]
      rw [eM]
      generalize peakG high low l 0 [] false = P at *
      rw [List.length_nil] at hPl
      have hcs := countL_sum [low, high + 1] l (List.replicate 3 0) 0 rfl (fun x hx => by rw [(List.mem_replicate.mp hx).2]; omega) (by omega)
      have hclen : (countL [low, high + 1] l (List.replicate 3 0)).length = 3 := by rw [countL_len, List.length_replicate]
      have eC : countsM l [low, high + 1] = (countL [low, high + 1] l (List.replicate 3 0), true) := by
        unfold countsM
        rw [if_pos]
        · rfl
        · refine ⟨hok.1, by simp, ?_⟩
          show (if high + 1 ≤ low then false else true) = true
          rw [if_neg (show ¬ high + 1 ≤ low by omega)]
      have hC := iCounts_ev l [low, high + 1] hl
      rw [eC] at hC
      have hsum : sumW 0 (countL [low, high + 1] l (List.replicate 3 0)) = (l.length : Int) := by
        rw [sumW_eq _ 0 hcs.2 (by omega) (by rw [hclen]; omega), hcs.1]
        show 0 + (isum [0, 0, 0] + (l.length : Int)) = _
        simp [isum]
      have h3 := Peaked_l3 l true (countL [low, high + 1] l (List.replicate 3 0)) true (by omega) 3 0 0 (by omega) (fun _ => ⟨rfl, by rw [List.drop_zero]; exact hsum⟩)
      have h1 := Peaked_l1 l hl high low P true b (by omega) g true (by
        rw [ew]
        exact Ev.bind hC h3) P.length 0 (by omega)
      have hb : hasB l high l.length = decide ((P.length : Int) > 0) := by
        rw [Bool.eq_iff_iff, hasB_iff, decide_eq_true_eq]
        constructor
        · rintro ⟨q, q1, q2⟩
          rcases Nat.eq_zero_or_pos P.length with h0 | h0
          · have := g.none_ h0 q q1; omega
          · omega
        · intro h
          obtain ⟨p, e1, e2, e3, e4⟩ := g.at_ 0 (by omega)
          exact ⟨p, e1, by omega⟩
      refine Peaked_l0 l hl high low P true true (Ev.pos rfl ?_) l.length 0 (by omega)
      rw [hb, bne_self_eq_false]
      exact Ev.step (fun k => by rw [laws_FnPeaked.j2, if_neg (by decide)]; rfl) h1
    · have eM : peaksM l high low = ([], false) := by unfold peaksM; rw [if_neg hok]
      rw [eM]
      refine Peaked_l0 l hl high low [] false true (Ev.neg (by decide) ?_) l.length 0 (by omega)
      have hC := iCounts_ev l [low, high + 1] hl
      have hcl : (countsM l [low, high + 1]).1.length ≤ 1000 := by
        unfold countsM
        split
        · simp only [countL_len, List.length_replicate]; simp
        · simp
      have h3 := Peaked_l3 l false (countsM l [low, high + 1]).1 (countsM l [low, high + 1]).2 hcl (countsM l [low, high + 1]).1.length 0 0 (by omega) (fun h => by cases h)
      refine Ev.step (fun k => by rw [laws_FnPeaked.j2, if_neg (by decide)]) (Ev.step (f := fun k => (impl_Counts.f k l (([low, wrap64 (high + 1)] : List Int))).bind fun bt271 => (laws_FnPeaked.l3 k l false bt271.1 bt271.2 0 0)) (fun k => by rw [laws_FnPeaked.l1, if_neg (by simp)]) ?_)
      rw [ew]
      exact Ev.bind hC h3
  have all : Ev (fun k => (impl_Peaks.f k l high low).bind fun bt250 => ((spec_Peaks.f k l high low).bind fun bt254 => (if (bt250.2 != bt254.2) = true then (some false) else (laws_FnPeaked.l0 k l high low bt250.1 bt250.2 false 0)))) true := by
    refine Ev.bind (iPeaks_ev l high low hl) (Ev.bind (sPeaks_ev l high low hl) (Ev.neg ?_ main))
    rw [bne_self_eq_false]; decide
  exact Ev.step (fun k => by rw [laws_FnPeaked.j0]) all
theorem DrawPeaks_ex (l : List Int) (hl : l.length ≤ 1048576) (hw : Bytes l) : ∃ (r : List Int) (a b : Int), r.length ≤ 1000513 ∧ (-1000 ≤ a ∧ a ≤ 1000) ∧ Ev (fun k => spec_DrawPeaks.f k l) (r, a, b) := by
  obtain ⟨h, c0, e0⟩ := l1New_ex l hl hw
  obtain ⟨x, i1, h1, hx, c1, e1⟩ := l1Below_ex l 0 h 400 c0
  obtain ⟨t, ht1, ht2, et⟩ := l1Size_ex l hl 40 (by omega)
  obtain ⟨r, i2, h2, p1, p2, c2, e2⟩ := l5DrawAny_ex l i1 h1 t (by omega) c1
  obtain ⟨y, i3, h3, hy, c3, e3⟩ := l1Below_ex l i2 h2 300 c2
  obtain ⟨z, i4, h4, hz, c4, e4⟩ := l1Below_ex l i3 h3 20 c3
  refine ⟨r, wrap64 ((x : Int) - 50), _, p1, ?_, Ev.bind e0 (Ev.bind0 e1 (Ev.bind0 et (Ev.bind e2 (Ev.bind0 e3 (Ev.bind0 e4 (Ev.now _))))))⟩
  rw [w64 (by omega) (by omega)]; omega
theorem FnPeaked : laws_FnPeaked.Pure := by
  intro l hl hl8 hb
  refine Ev.rounds ?_
  unfold laws_FnPeaked.f
  refine Ev.bind0 rfl ?_
  by_cases hg : (l.length : Int) > 1048576
  · exact Ev.pos (decide_eq_true hg) (Ev.now true)
  refine Ev.neg (by rw [decide_eq_true_eq]; exact hg) ?_
  obtain ⟨r, a, b, hr, ha, e0⟩ := DrawPeaks_ex l (by omega) hb
  refine Ev.bind e0 (Ev.neg (show ¬ a > 1099511627776 by omega) ?_)
  exact Peaked_j0 r (by omega) a b ha

end Go.Proofs.Ytonmdhaollhekaa.Pure
