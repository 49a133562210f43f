/- Drawn bits that are made differences, stirred, followed, woven or packed come back: for every code; no condition. -/
import Derived.Test.YtnpoimjdkjhcpaaQFnStirredx6
import Derived.Test.YtnpoimjdkjhcpaaCom
import Derived.Test.YtnpoimjdkjhcpaaHm
import Derived.Test.YtnpoimjdkjhcpaaPop
import Derived.Test.YtnpoimjdkjhcpaaWv
set_option linter.unusedVariables false
set_option linter.unusedSimpArgs false
namespace Go.Proofs.Ytnpoimjdkjhcpaa.Pure
open Go.RowKit Go.Proofs.Ytnpoimjdkjhcpaa.PFnStirred Go.Proofs.YtnpoimjdkjhcpaaW.PrintWords Go.Proofs.YtnpoimjdkjhcpaaW.PrintLast Go.Proofs.Ytnpoimjdkjhcpaa.Com Go.Proofs.Ytnpoimjdkjhcpaa.Hm Go.Proofs.Ytnpoimjdkjhcpaa.Pop Go.Proofs.Ytnpoimjdkjhcpaa.Wv

theorem big_eq (l : List Int) : laws_big.f l = some (decide ((l.length : Int) > 1048576)) := rfl
theorem at_ex (l : List Int) (i : Nat) (hi : i < 1000000) (hl : (l.length : Int) ≤ 1048576) (hw : ∀ x ∈ l, (Lit.int .u8 x).wf = true) : ∃ n : Nat, n < 256 ∧ laws_at.f l (i : Int) = some (n : Int) := by
  unfold laws_at.f
  by_cases h : i < l.length
  · have hb := wfb (hw _ (rd_mem h))
    refine ⟨(rd l (i : Int)).toNat, by omega, ?_⟩
    rw [if_pos (by omega), if_pos (by omega), w64 (by omega) (by omega), Int.toNat_of_nonneg hb.1]
  · refine ⟨(i * 7 + l.length) % 256, by omega, ?_⟩
    rw [if_neg (by omega), w64 (n := (i : Int) * 7) (by omega) (by omega), w64 (by omega) (by omega)]
    congr 1
theorem l1New_l0 (l : List Int) (hl : l.length ≤ 1048576) : ∀ (d i : Nat) (h : Int), i + d = l.length → ∃ h', Ev (fun k => spec_l1New.l0 k l h (i : Int)) (l, 0, h') := by
  intro d
  induction d with
  | zero =>
    intro i h hd
    exact ⟨h, Ev.fin (fun k => by rw [spec_l1New.l0, if_neg (by omega)])⟩
  | succ d ih =>
    intro i h hd
    by_cases h4 : i < 4000
    · obtain ⟨h', e⟩ := ih (i + 1) _ (by omega)
      exact ⟨h', Ev.step (fun k => by rw [spec_l1New.l0, if_pos (by omega), if_pos (by omega), if_pos (by omega), wsucc (by omega)]) e⟩
    · exact ⟨h, Ev.fin (fun k => by rw [spec_l1New.l0, if_pos (by omega), if_neg (by omega)])⟩
theorem l1New_ex (l : List Int) (hl : l.length ≤ 1048576) (hw : Bytes l) : ∃ h, CurOk l 0 ∧ Ev (fun k => spec_l1New.f k l) (l, 0, h) := by
  obtain ⟨h, e⟩ := l1New_l0 l hl l.length 0 (wrap64 (71933 + (l.length : Int))) (by omega)
  exact ⟨h, ⟨by omega, by omega, hl, hw⟩, e⟩
theorem l1Byte_ex (s : List Int) (i h : Int) (hc : CurOk s i) : ∃ (x : Nat) (i' h' : Int), x < 256 ∧ CurOk s i' ∧ spec_l1Byte.f s i h = some ((x : Int), i', h') := by
  obtain ⟨h0, h1, h2, h3⟩ := hc
  unfold spec_l1Byte.f
  simp only [and64_255]
  by_cases hi : i < (s.length : Int)
  · rw [if_pos hi, if_pos h0]
    refine ⟨(wrap64 (bits .xor .i64 (wrap64 (wrap64 (h * 6364136223846793005) + 1442695040888963407) / 8589934592) (wrap64 (wrap64 (h * 6364136223846793005) + 1442695040888963407) / 35184372088832) % 256 + wrap64 (rd s i)) % 256).toNat, wrap64 (i + 1), wrap64 (wrap64 (h * 6364136223846793005) + 1442695040888963407), by omega, ⟨?_, ?_, h2, h3⟩, ?_⟩
    · rw [w64 (by omega) (by omega)]; omega
    · rw [w64 (by omega) (by omega)]; omega
    · rw [Int.toNat_of_nonneg (by omega)]
  · rw [if_neg hi]
    refine ⟨(bits .xor .i64 (wrap64 (wrap64 (h * 6364136223846793005) + 1442695040888963407) / 8589934592) (wrap64 (wrap64 (h * 6364136223846793005) + 1442695040888963407) / 35184372088832) % 256).toNat, i, wrap64 (wrap64 (h * 6364136223846793005) + 1442695040888963407), by omega, ⟨h0, h1, h2, h3⟩, ?_⟩
    rw [Int.toNat_of_nonneg (by omega)]
theorem l1Below_ex (s : List Int) (i h n : Int) (hc : CurOk s i) : ∃ (x : Nat) (i' h' : Int), ((x : Int) < n ∨ n ≤ 0 ∧ x = 0) ∧ CurOk s i' ∧ spec_l1Below.f s i h n = some ((x : Int), i', h') := by
  unfold spec_l1Below.f
  by_cases hn : n ≤ 0
  · exact ⟨0, i, h, .inr ⟨hn, rfl⟩, hc, by rw [if_pos hn]; rfl⟩
  rw [if_neg hn]
  obtain ⟨x, i1, h1, hx, c1, e1⟩ := l1Byte_ex s i h hc
  by_cases hn2 : n ≤ 256
  · rw [if_pos hn2, e1, Option.bind_some, if_neg (by omega)]
    have := Int.emod_lt_of_pos (x : Int) (show 0 < n by omega)
    have := Int.emod_nonneg (x : Int) (show n ≠ 0 by omega)
    refine ⟨((x : Int) % n).toNat, i1, h1, .inl (by omega), c1, ?_⟩
    rw [Int.tmod_eq_emod_of_nonneg (by omega), Int.toNat_of_nonneg (by omega)]
  · rw [if_neg hn2]
    obtain ⟨y, i2, h2, hy, c2, e2⟩ := l1Byte_ex s i1 h1 c1
    obtain ⟨z, i3, h3, hz, c3, e3⟩ := l1Byte_ex s i2 h2 c2
    obtain ⟨w, i4, h4, hw, c4, e4⟩ := l1Byte_ex s i3 h3 c3
    simp only [e1, e2, e3, e4, Option.bind_some]
    rw [if_neg (by omega), w64 (n := (x : Int) * 16777216) (by omega) (by omega), w64 (n := (y : Int) * 65536) (by omega) (by omega), w64 (n := (z : Int) * 256) (by omega) (by omega)]
    rw [w64 (n := (x : Int) * 16777216 + (y : Int) * 65536) (by omega) (by omega), w64 (n := (x : Int) * 16777216 + (y : Int) * 65536 + (z : Int) * 256) (by omega) (by omega), w64 (by omega) (by omega)]
    generalize hv : (x : Int) * 16777216 + (y : Int) * 65536 + (z : Int) * 256 + (w : Int) = v
    have hv0 : 0 ≤ v := by omega
    have := Int.emod_lt_of_pos v (show 0 < n by omega)
    have := Int.emod_nonneg v (show n ≠ 0 by omega)
    refine ⟨(v % n).toNat, i4, h4, .inl (by omega), c4, ?_⟩
    rw [Int.tmod_eq_emod_of_nonneg hv0, Int.toNat_of_nonneg (by omega)]
theorem l1Once_ex (s : List Int) (i h n : Int) (hc : CurOk s i) : ∃ (b : Bool) (i' h' : Int), CurOk s i' ∧ spec_l1Once.f s i h n = some (b, i', h') := by
  obtain ⟨x, i1, h1, _, c1, e1⟩ := l1Below_ex s i h n hc
  refine ⟨((x : Int) == 0), i1, h1, c1, ?_⟩
  unfold spec_l1Once.f
  rw [e1, Option.bind_some]
theorem l1PickInt_ex (s : List Int) (i h : Int) (l : List Int) (hl : l.length ≠ 0) (hc : CurOk s i) : ∃ (x : Int) (i' h' : Int), x ∈ l ∧ CurOk s i' ∧ spec_l1PickInt.f s i h l = some (x, i', h') := by
  obtain ⟨x, i1, h1, hx, c1, e1⟩ := l1Below_ex s i h (l.length : Int) hc
  have hlt : x < l.length := by omega
  refine ⟨rd l (x : Int), i1, h1, rd_mem hlt, c1, ?_⟩
  unfold spec_l1PickInt.f
  rw [e1, Option.bind_some, if_pos (by omega), if_pos (by omega)]
theorem l1Size_ex (l : List Int) (hl : l.length ≤ 1048576) (m : Int) (hm : 2 ≤ m) : ∃ t : Nat, 2 ≤ t ∧ (t : Int) ≤ m ∧ spec_l1Size.f l m = some (t : Int) := by
  unfold spec_l1Size.f
  rw [w64 (n := (l.length : Int) / 20) (by omega) (by omega), w64 (by omega) (by omega)]
  by_cases h : 2 + (l.length : Int) / 20 > m
  · exact ⟨m.toNat, by omega, by omega, by rw [if_pos h, Int.toNat_of_nonneg (by omega)]⟩
  · exact ⟨2 + l.length / 20, by omega, by omega, by rw [if_neg h]; congr 1⟩
theorem l13Draw_l0 (s : List Int) : ∀ (n : Nat) (acc : List Int) (i h : Int), acc.length + n ≤ 1048576 → CurOk s i → ∃ r i' h', r.length = acc.length + n ∧ CurOk s i' ∧ Ev (fun k => spec_l13Draw.l0 k acc (n : Int) s i h) (r, i', h') := by
  intro n
  induction n with
  | zero =>
    intro acc i h ha hc
    exact ⟨acc, i, h, rfl, hc, Ev.fin (fun k => by rw [spec_l13Draw.l0, if_neg (by omega)])⟩
  | succ n ih =>
    intro acc i h ha hc
    obtain ⟨x, i1, h1, hx, c1, e1⟩ := l1Below_ex s i h 2 hc
    obtain ⟨r, i2, h2, p1, p3, e⟩ := ih (acc ++ [(x : Int)]) i1 h1 (by simp; omega) c1
    refine ⟨r, i2, h2, by rw [p1]; simp; omega, p3, Ev.step (fun k => ?_) e⟩
    rw [spec_l13Draw.l0, if_pos (by omega), e1, Option.bind_some, if_pos (by omega), w64 (by omega) (by omega), show ((n + 1 : Nat) : Int) - 1 = (n : Int) by omega]
theorem l13Draw_ex (s : List Int) (i h : Int) (m : Nat) (hm : m ≤ 1000) (hc : CurOk s i) : ∃ r i' h', r.length ≤ m ∧ CurOk s i' ∧ Ev (fun k => spec_l13Draw.f k s i h (m : Int)) (r, i', h') := by
  unfold spec_l13Draw.f
  obtain ⟨x, i1, h1, hx, c1, e1⟩ := l1Below_ex s i h ((m + 1 : Nat) : Int) hc
  obtain ⟨r, i2, h2, p1, p3, e⟩ := l13Draw_l0 s x [] i1 h1 (by simp; omega) c1
  refine ⟨r, i2, h2, by rw [p1]; simp; omega, p3, Ev.bind0 (by rw [wsucc (by omega)]; exact e1) e⟩
theorem l13DrawAny_ex (s : List Int) (i h : Int) (l : List Int) (hl : l.length ≤ 1048576) (hc : CurOk s i) : ∃ r i' h', r.length ≤ 1048576 ∧ CurOk s i' ∧ Ev (fun k => spec_l13DrawAny.f k s i h l) (r, i', h') := by
  unfold spec_l13DrawAny.f
  obtain ⟨t, ht0, ht, et⟩ := l1Size_ex l hl 30 (by omega)
  have ew : wrap64 (2 * (t : Int)) = ((2 * t : Nat) : Int) := by rw [w64 (by omega) (by omega)]; omega
  obtain ⟨r, i1, h1, p1, c1, e1⟩ := l13Draw_ex s i h (2 * t) (by omega) hc
  obtain ⟨b, i2, h2, c2, e2⟩ := l1Once_ex s i1 h1 30 c1
  have tail : ∀ (l : List Int) (i h : Int), l.length ≤ 1000001 → CurOk s i → ∃ r i' h', r.length ≤ 1048576 ∧ CurOk s i' ∧ Ev (fun k => spec_l13DrawAny.j0 k l s i h) (r, i', h') := by
    intro l i h hl hc
    obtain ⟨b, i1, h1, c1, e1⟩ := l1Once_ex s i h 80 hc
    cases b with
    | true =>
      obtain ⟨x, i2, h2, hx, c2, e2⟩ := l1Below_ex s i1 h1 2 c1
      have ew : wrap64 (1024 + (x : Int)) = 1024 + (x : Int) := w64 (by omega) (by omega)
      refine ⟨List.replicate (1024 + (x : Int)).toNat 0, i2, h2, by simp; omega, c2, Ev.fin (fun k => ?_)⟩
      rw [spec_l13DrawAny.j0, e1, Option.bind_some, if_pos rfl, e2, Option.bind_some, ew, if_pos (by omega), if_pos (by omega)]
    | false =>
      refine ⟨l, i1, h1, by omega, c1, Ev.fin (fun k => ?_)⟩
      rw [spec_l13DrawAny.j0, e1, Option.bind_some, if_neg (by simp)]
  rw [← ew] at e1
  cases b with
  | true =>
    obtain ⟨x, i3, h3, hx, c3, e3⟩ := l1PickInt_ex s i2 h2 [2, (-1)] (by decide) c2
    obtain ⟨r2, i4, h4, q1, q3, q4⟩ := tail (r ++ [x]) i3 h3 (by simp; omega) c3
    exact ⟨r2, i4, h4, q1, q3, Ev.bind0 et (Ev.bind e1 (Ev.bind0 e2 (Ev.pos rfl (Ev.bind0 e3 (Ev.pos (show r.length < 17592186044416 by omega) q4)))))⟩
  | false =>
    obtain ⟨r2, i4, h4, q1, q3, q4⟩ := tail r i2 h2 (by omega) c2
    exact ⟨r2, i4, h4, q1, q3, Ev.bind0 et (Ev.bind e1 (Ev.bind0 e2 (Ev.neg (by simp) q4)))⟩
theorem l1In_eq (a b c : Int) : spec_l1In.f a b c = some (decide (b ≤ a ∧ a ≤ c)) := by
  unfold spec_l1In.f
  by_cases h : b ≤ a
  · rw [if_pos h]; simp [h]
  · rw [if_neg h]; simp [h]
theorem sBitsOk_l0 (l : List Int) (hl : l.length ≤ 17592186044416) : ∀ (d i : Nat), i + d = l.length → Ev (fun k => spec_BitsOk.l0 k l (i : Int)) ((l.drop i).all isB && decide (l.length ≤ 1024)) := by
  intro d
  induction d with
  | zero =>
    intro i hd
    refine Ev.fin (fun k => ?_)
    rw [spec_BitsOk.l0, if_neg (by omega), List.drop_of_length_le (by omega)]
    simp
    omega
  | succ d ih =>
    intro i hd
    rw [drop_rd (by omega)]
    have e : spec_l1In.f (rd l (i : Int)) 0 1 = some (isB (rd l (i : Int))) := by
      rw [l1In_eq]; congr 1; unfold isB; rw [Bool.eq_iff_iff]; simp; omega
    by_cases hb : isB (rd l (i : Int)) = true
    · refine Ev.cast (Ev.step (fun k => ?_) (ih (i + 1) (by omega))) (by simp [hb])
      rw [spec_BitsOk.l0, if_pos (by omega), if_pos (by omega), e, Option.bind_some, if_pos hb, wsucc (by omega)]
    · refine Ev.fin (fun k => ?_)
      rw [spec_BitsOk.l0, if_pos (by omega), if_pos (by omega), e, Option.bind_some, if_neg hb]
      simp [hb]
theorem sBitsOk_ev (l : List Int) (hl : l.length ≤ 17592186044416) : Ev (fun k => spec_BitsOk.f k l) (bitsOk l) := by
  unfold spec_BitsOk.f
  exact sBitsOk_l0 l hl l.length 0 (by omega)
theorem isBit_eq (x : Int) : impl_isBit.f x = some (isB x) := by
  unfold impl_isBit.f isB
  by_cases h : x = 0
  · rw [if_pos h]; simp [h]
  · rw [if_neg h]; simp [h]
theorem iBitsOk_l0 (l : List Int) (hl : l.length ≤ 17592186044416) : ∀ (d i : Nat), i + d = l.length → Ev (fun k => impl_BitsOk.l0 k l l (l.length : Int) (i : Int)) ((l.drop i).all isB && decide (l.length ≤ 1024)) := by
  intro d
  induction d with
  | zero =>
    intro i hd
    refine Ev.fin (fun k => ?_)
    rw [impl_BitsOk.l0, if_neg (by omega), List.drop_of_length_le (by omega)]
    simp
    omega
  | succ d ih =>
    intro i hd
    rw [drop_rd (by omega)]
    by_cases hb : isB (rd l (i : Int)) = true
    · refine Ev.cast (Ev.step (fun k => ?_) (ih (i + 1) (by omega))) (by simp [hb])
      rw [impl_BitsOk.l0, if_pos (by omega), if_pos (by omega), if_pos (by omega), isBit_eq, Option.bind_some, if_pos hb, wsucc (by omega)]
    · refine Ev.fin (fun k => ?_)
      rw [impl_BitsOk.l0, if_pos (by omega), if_pos (by omega), if_pos (by omega), isBit_eq, Option.bind_some, if_neg hb]
      simp [hb]
theorem iBitsOk_ev (l : List Int) (hl : l.length ≤ 17592186044416) : Ev (fun k => impl_BitsOk.f k l) (bitsOk l) := by
  unfold impl_BitsOk.f
  exact iBitsOk_l0 l hl l.length 0 (by omega)
def dfL (last : Int) : List Int → List Int
  | [] => []
  | x :: t => bits .xor .i64 last x :: dfL (bits .xor .i64 last x) t
theorem dfL_len (l : List Int) : ∀ last, (dfL last l).length = l.length := by
  induction l with
  | nil => intro _; rfl
  | cons x t ih => intro last; simp [dfL, ih]
theorem iDiffer_l0 (l : List Int) (hl : l.length ≤ 1024) : ∀ (d i : Nat) (acc : List Int) (last : Int), i + d = l.length → acc.length = i →
    Ev (fun k => impl_Differ.l0 k acc last l (l.length : Int) (i : Int)) (acc ++ dfL last (l.drop i), true) := by
  intro d
  induction d with
  | zero =>
    intro i acc last hd ha
    refine Ev.fin (fun k => ?_)
    rw [impl_Differ.l0, if_neg (by omega), List.drop_of_length_le (by omega), dfL, List.append_nil]
  | succ d ih =>
    intro i acc last hd ha
    refine Ev.cast (Ev.step (fun k => ?_) (ih (i + 1) (acc ++ [bits .xor .i64 last (rd l (i : Int))]) (bits .xor .i64 last (rd l (i : Int))) (by omega) (by simp; omega))) ?_
    · rw [impl_Differ.l0, if_pos (by omega), if_pos (by omega), if_pos (by omega), if_pos (by omega), wsucc (by omega)]
    · rw [drop_rd (i := i) (by omega), dfL, List.append_assoc]; rfl
def differM (l : List Int) : List Int × Bool := if bitsOk l = true then (dfL 0 l, true) else ([], false)
theorem iDiffer_ev (l : List Int) (hl : l.length ≤ 1048576) : Ev (fun k => impl_Differ.f k l) (differM l) := by
  unfold impl_Differ.f differM
  refine Ev.bind (iBitsOk_ev l (by omega)) ?_
  by_cases hb : bitsOk l = true
  · rw [if_pos hb]; exact Ev.pos hb (iDiffer_l0 l (bitsOk_len hb) l.length 0 [] 0 (by omega) rfl)
  · rw [if_neg hb]; exact Ev.neg hb (Ev.now _)
def udL (last : Int) : List Int → List Int
  | [] => []
  | x :: t => bits .xor .i64 last x :: udL x t
theorem udL_len (l : List Int) : ∀ last, (udL last l).length = l.length := by
  induction l with
  | nil => intro _; rfl
  | cons x t ih => intro last; simp [udL, ih]
theorem iUnDiffer_l0 (l : List Int) (hl : l.length ≤ 1024) : ∀ (d i : Nat) (acc : List Int) (last : Int), i + d = l.length → acc.length = i →
    Ev (fun k => impl_UnDiffer.l0 k acc last l (l.length : Int) (i : Int)) (acc ++ udL last (l.drop i), true) := by
  intro d
  induction d with
  | zero =>
    intro i acc last hd ha
    refine Ev.fin (fun k => ?_)
    rw [impl_UnDiffer.l0, if_neg (by omega), List.drop_of_length_le (by omega), udL, List.append_nil]
  | succ d ih =>
    intro i acc last hd ha
    refine Ev.cast (Ev.step (fun k => ?_) (ih (i + 1) (acc ++ [bits .xor .i64 last (rd l (i : Int))]) (rd l (i : Int)) (by omega) (by simp; omega))) ?_
    · rw [impl_UnDiffer.l0, if_pos (by omega), if_pos (by omega), if_pos (by omega), if_pos (by omega), wsucc (by omega), bits_xor_comm .i64 _ last]
    · rw [drop_rd (i := i) (by omega), udL, List.append_assoc]; rfl
def unDifferM (l : List Int) : List Int × Bool := if bitsOk l = true then (udL 0 l, true) else ([], false)
theorem iUnDiffer_ev (l : List Int) (hl : l.length ≤ 1048576) : Ev (fun k => impl_UnDiffer.f k l) (unDifferM l) := by
  unfold impl_UnDiffer.f unDifferM
  refine Ev.bind (iBitsOk_ev l (by omega)) ?_
  by_cases hb : bitsOk l = true
  · rw [if_pos hb]; exact Ev.pos hb (iUnDiffer_l0 l (bitsOk_len hb) l.length 0 [] 0 (by omega) rfl)
  · rw [if_neg hb]; exact Ev.neg hb (Ev.now _)
theorem is16_eq (a b : Int) : impl_is16.f a b = some (decide (b ≤ a ∧ a ≤ 65535)) := by
  unfold impl_is16.f
  by_cases h : b ≤ a
  · rw [if_pos h]; simp [h]
  · rw [if_neg h]; simp [h]
/-- The register behind a bit. -/
def stR (t s : Nat) : Nat := if s % 2 = 1 then (s / 2) ^^^ t else s / 2
theorem stR_lt {t s : Nat} (ht : t ≤ 65535) (hs : s ≤ 65535) : stR t s ≤ 65535 := by
  unfold stR
  have : s / 2 ^^^ t < 2 ^ 16 := Nat.xor_lt_two_pow (by omega) (by omega)
  split <;> omega
def stL (t : Nat) : Nat → List Int → List Int
  | _, [] => []
  | s, x :: l => bits .xor .i64 x ((s % 2 : Nat) : Int) :: stL t (stR t s) l
theorem stL_len (t : Nat) : ∀ (l : List Int) (s : Nat), (stL t s l).length = l.length
  | [], _ => rfl
  | x :: l, s => by simp [stL, stL_len t l]
theorem Stir_loops (l : List Int) (t : Nat) (hl : l.length ≤ 1024) (ht : t ≤ 65535) : ∀ (d i s : Nat) (acc : List Int), i + d = l.length → acc.length = i → s ≤ 65535 →
    Ev (fun k => spec_Stir.l0 k l (t : Int) acc (s : Int) (i : Int)) (acc ++ stL t s (l.drop i), true) ∧ Ev (fun k => impl_Stir.l0 k (t : Int) (s : Int) acc l (l.length : Int) (i : Int)) (acc ++ stL t s (l.drop i), true) := by
  intro d
  induction d with
  | zero =>
    intro i s acc hd ha hs
    rw [List.drop_of_length_le (by omega), stL, List.append_nil]
    exact ⟨Ev.fin (fun k => by rw [spec_Stir.l0, if_neg (by omega)]), Ev.fin (fun k => by rw [impl_Stir.l0, if_neg (by omega)])⟩
  | succ d ih =>
    intro i s acc hd ha hs
    have e1 : Int.tmod (s : Int) 2 = ((s % 2 : Nat) : Int) := rfl
    have e2 : wrap64 (Int.tdiv (s : Int) 2) = ((s / 2 : Nat) : Int) := by
      rw [show Int.tdiv (s : Int) 2 = ((s / 2 : Nat) : Int) from rfl, w64 (by omega) (by omega)]
    have e3 : bits .and .i64 (s : Int) 1 = ((s % 2 : Nat) : Int) := by rw [and64_1]; omega
    have e4 : (s : Int) / 2 = ((s / 2 : Nat) : Int) := by omega
    have h := ih (i + 1) (stR t s) (acc ++ [bits .xor .i64 (rd l (i : Int)) ((s % 2 : Nat) : Int)]) (by omega) (by simp; omega) (stR_lt ht hs)
    have er : acc ++ stL t s (l.drop i) = acc ++ [bits .xor .i64 (rd l (i : Int)) ((s % 2 : Nat) : Int)] ++ stL t (stR t s) (l.drop (i + 1)) := by
      rw [drop_rd (i := i) (by omega), stL, List.append_assoc]; rfl
    rw [er]
    refine ⟨Ev.step (fun k => ?_) h.1, Ev.step (fun k => ?_) h.2⟩
    · rw [spec_Stir.l0, if_pos (by omega), if_pos (by omega), if_pos (by omega), Option.bind_some, e1, e2, wsucc (by omega), xor64 (s / 2) t (by omega) (by omega)]
      unfold stR
      by_cases hb : s % 2 = 1
      · rw [if_pos (by omega), if_pos hb]
      · rw [if_neg (by omega), if_neg hb]
    · rw [impl_Stir.l0, if_pos (by omega), if_pos (by omega), if_pos (by omega), if_pos (by omega), Option.bind_some, e3, e4, wsucc (by omega), xor64 (s / 2) t (by omega) (by omega)]
      unfold stR
      by_cases hb : s % 2 = 1
      · rw [if_pos (by omega), if_pos hb]
      · rw [if_neg (by omega), if_neg hb]
def stirM (l : List Int) (t s : Int) : List Int × Bool := if bitsOk l = true ∧ (1 ≤ t ∧ t ≤ 65535) ∧ 1 ≤ s ∧ s ≤ 65535 then (stL t.toNat s.toNat l, true) else ([], false)
theorem sStir_ev (l : List Int) (t s : Int) (hl : l.length ≤ 1048576) : Ev (fun k => spec_Stir.f k l t s) (stirM l t s) := by
  unfold spec_Stir.f stirM
  refine Ev.bind0 rfl (Ev.bind (sBitsOk_ev l (by omega)) ?_)
  by_cases hb : bitsOk l = true
  · refine Ev.pos hb (Ev.bind0 (l1In_eq _ _ _) ?_)
    by_cases ht : 1 ≤ t ∧ t ≤ 65535
    · refine Ev.pos (decide_eq_true ht) (Ev.bind0 (l1In_eq _ _ _) ?_)
      by_cases hs : 1 ≤ s ∧ s ≤ 65535
      · rw [if_pos ⟨hb, ht, hs⟩, decide_eq_true hs]
        obtain ⟨t, rfl⟩ : ∃ n : Nat, t = n := ⟨t.toNat, by omega⟩
        obtain ⟨s, rfl⟩ : ∃ n : Nat, s = n := ⟨s.toNat, by omega⟩
        refine Ev.step (fun k => ?_) (Stir_loops l t (bitsOk_len hb) (by omega) l.length 0 s [] (by omega) rfl (by omega)).1
        rw [spec_Stir.j0]; rfl
      · rw [if_neg (fun h => hs h.2.2), decide_eq_false hs]
        exact Ev.fin (fun k => by rw [spec_Stir.j0]; rfl)
    · rw [if_neg (fun h => ht h.2.1)]
      exact Ev.neg (by simpa using ht) (Ev.fin (fun k => by rw [spec_Stir.j0]; rfl))
  · rw [if_neg (fun h => hb h.1)]
    exact Ev.neg hb (Ev.fin (fun k => by rw [spec_Stir.j0]; rfl))
theorem iStir_ev (l : List Int) (t s : Int) (hl : l.length ≤ 1048576) : Ev (fun k => impl_Stir.f k l t s) (stirM l t s) := by
  unfold impl_Stir.f stirM
  refine Ev.bind (iBitsOk_ev l (by omega)) ?_
  by_cases hb : bitsOk l = true
  · refine Ev.pos hb (Ev.bind0 (is16_eq _ _) ?_)
    by_cases ht : 1 ≤ t ∧ t ≤ 65535
    · refine Ev.pos (decide_eq_true ht) (Ev.bind0 (is16_eq _ _) ?_)
      by_cases hs : 1 ≤ s ∧ s ≤ 65535
      · rw [if_pos ⟨hb, ht, hs⟩, decide_eq_true hs]
        obtain ⟨t, rfl⟩ : ∃ n : Nat, t = n := ⟨t.toNat, by omega⟩
        obtain ⟨s, rfl⟩ : ∃ n : Nat, s = n := ⟨s.toNat, by omega⟩
        refine Ev.step (fun k => ?_) (Stir_loops l t (bitsOk_len hb) (by omega) l.length 0 s [] (by omega) rfl (by omega)).2
        rw [impl_Stir.j0]; rfl
      · rw [if_neg (fun h => hs h.2.2), decide_eq_false hs]
        exact Ev.fin (fun k => by rw [impl_Stir.j0]; rfl)
    · rw [if_neg (fun h => ht h.2.1)]
      exact Ev.neg (by simpa using ht) (Ev.fin (fun k => by rw [impl_Stir.j0]; rfl))
  · rw [if_neg (fun h => hb h.1)]
    exact Ev.neg hb (Ev.fin (fun k => by rw [impl_Stir.j0]; rfl))
theorem Stir_both (l : List Int) (t s : Int) (hl : l.length ≤ 1048576) : ∃ r ok, Ev (fun k => spec_Stir.f k l t s) (r, ok) ∧ Ev (fun k => impl_Stir.f k l t s) (r, ok) ∧ r.length ≤ 17592186044416 := by
  refine ⟨(stirM l t s).1, (stirM l t s).2, sStir_ev l t s hl, iStir_ev l t s hl, ?_⟩
  unfold stirM
  split
  · simp only [stL_len]; omega
  · simp
theorem and_5 (x : Nat) (h : x < 18446744073709551616) : Go.bits .and .u64 (x : Int) 6148914691236517205 = ((x &&& 6148914691236517205 : Nat) : Int) := u64_and_nat x 6148914691236517205 h (by decide)
theorem and_3 (x : Nat) (h : x < 18446744073709551616) : Go.bits .and .u64 (x : Int) 3689348814741910323 = ((x &&& 3689348814741910323 : Nat) : Int) := u64_and_nat x 3689348814741910323 h (by decide)
theorem and_f (x : Nat) (h : x < 18446744073709551616) : Go.bits .and .u64 (x : Int) 1085102592571150095 = ((x &&& 1085102592571150095 : Nat) : Int) := u64_and_nat x 1085102592571150095 h (by decide)
theorem and_127 (x : Nat) (h : x < 9223372036854775808) : Go.bits .and .i64 (x : Int) 127 = ((x &&& 127 : Nat) : Int) := and64 x 127 h (by decide)
theorem u64s (a b : Nat) (h : a + b < 18446744073709551616) : IntKind.u64.wrap ((a : Int) + (b : Int)) = ((a + b : Nat) : Int) := by rw [u64w (by omega) (by omega)]; omega
theorem idiv (a b : Nat) : (a : Int) / (b : Int) = ((a / b : Nat) : Int) := (Int.natCast_ediv a b).symm
theorem OC16 (n : Nat) (h : n < 65536) : bits_OnesCount.f (n : Int) = some ((ones 16 n : Nat) : Int) := by
  rw [← oc_eq h]
  unfold ocN bits_OnesCount.f bits_OnesCount64.f
  have d2 : (n : Int) / 2 = ((n / 2 : Nat) : Int) := idiv n 2
  have l1 : n / 2 &&& 6148914691236517205 ≤ n / 2 := Nat.and_le_left
  have l2 : n &&& 6148914691236517205 ≤ n := Nat.and_le_left
  have hA : IntKind.u64.wrap (Go.bits .and .u64 ((n : Int) / 2) 6148914691236517205 + Go.bits .and .u64 (n : Int) 6148914691236517205) = ((oA n : Nat) : Int) := by
    rw [d2, and_5 _ (by omega), and_5 _ (by omega), u64s _ _ (by omega)]; rfl
  have bA : oA n < 131072 := by unfold oA; omega
  rw [hA]
  clear hA
  generalize oA n = a at *
  have d4 : (a : Int) / 4 = ((a / 4 : Nat) : Int) := idiv a 4
  have l3 : a / 4 &&& 3689348814741910323 ≤ a / 4 := Nat.and_le_left
  have l4 : a &&& 3689348814741910323 ≤ a := Nat.and_le_left
  have hB : IntKind.u64.wrap (Go.bits .and .u64 ((a : Int) / 4) 3689348814741910323 + Go.bits .and .u64 (a : Int) 3689348814741910323) = ((oB a : Nat) : Int) := by
    rw [d4, and_3 _ (by omega), and_3 _ (by omega), u64s _ _ (by omega)]; rfl
  have bB : oB a < 262144 := by unfold oB; omega
  rw [hB]
  clear hB
  generalize oB a = b at *
  have d16 : (b : Int) / 16 = ((b / 16 : Nat) : Int) := idiv b 16
  have hC : Go.bits .and .u64 (IntKind.u64.wrap ((b : Int) / 16 + (b : Int))) 1085102592571150095 = ((oC b : Nat) : Int) := by
    rw [d16, u64s _ _ (by omega), and_f _ (by omega)]; rfl
  have bC : oC b < 524288 := by
    have : b / 16 + b &&& 1085102592571150095 ≤ b / 16 + b := Nat.and_le_left
    unfold oC; omega
  rw [hC]
  clear hC
  generalize oC b = c at *
  have hE : IntKind.u64.wrap ((c : Int) + (c : Int) / 256) = ((oE c : Nat) : Int) := by
    rw [show (c : Int) / 256 = ((c / 256 : Nat) : Int) from idiv c 256, u64s _ _ (by omega)]; rfl
  have bE : oE c < 1048576 := by unfold oE; omega
  rw [hE]
  clear hE
  generalize oE c = e at *
  have hF : IntKind.u64.wrap ((e : Int) + (e : Int) / 65536) = ((oF e : Nat) : Int) := by
    rw [show (e : Int) / 65536 = ((e / 65536 : Nat) : Int) from idiv e 65536, u64s _ _ (by omega)]; rfl
  have bF : oF e < 2097152 := by unfold oF; omega
  rw [hF]
  clear hF
  generalize oF e = f at *
  have hG : IntKind.u64.wrap ((f : Int) + (f : Int) / 4294967296) = ((oG f : Nat) : Int) := by
    rw [show (f : Int) / 4294967296 = ((f / 4294967296 : Nat) : Int) from idiv f 4294967296, u64s _ _ (by omega)]; rfl
  have bG : oG f < 4194304 := by unfold oG; omega
  rw [hG, Option.bind_some, w64 (by omega) (by omega), and_127 _ (by omega)]
theorem parity_eq (n : Nat) (h : n < 65536) : impl_parity.f (n : Int) = some ((ones 16 n % 2 : Nat) : Int) := by
  unfold impl_parity.f
  rw [u64w (by omega) (by omega), OC16 n h, Option.bind_some, and64_1]
  congr 1
/-- The register behind a bit that comes in. -/
def flR (r : Nat) (y : Nat) : Nat := 2 * r % 65536 + y
/-- What is told: own: the register gets what was told, else what came. -/
def flL (t : Nat) (own_ : Bool) : Nat → List Int → List Int
  | _, [] => []
  | r, x :: l => (((x.toNat + ones 16 (r &&& t)) % 2 : Nat) : Int) :: flL t own_ (flR r (if own_ = true then (x.toNat + ones 16 (r &&& t)) % 2 else x.toNat)) l
theorem flL_len (t : Nat) (o : Bool) : ∀ (l : List Int) (r : Nat), (flL t o r l).length = l.length
  | [], _ => rfl
  | x :: l, r => by simp [flL, flL_len t o l]
theorem bitx (a b : Nat) (ha : a < 2) (hb : b < 2) : a ^^^ b = (a + b) % 2 := by
  have h1 : a = 0 ∨ a = 1 := by omega
  have h2 : b = 0 ∨ b = 1 := by omega
  rcases h1 with rfl | rfl <;> rcases h2 with rfl | rfl <;> rfl
theorem or_even (a y : Nat) (hy : y < 2) : (2 * a) ||| y = 2 * a + y := by
  have h := Nat.two_pow_add_eq_or_of_lt (i := 1) (b := y) (by omega) a
  rw [Nat.pow_one] at h
  exact h.symm
theorem reg_lt {r y : Nat} (hy : y < 2) : flR r y < 65536 := by unfold flR; omega
theorem iFollow_loop (l : List Int) (t : Nat) (o : Bool) (hl : l.length ≤ 1024) (ht : t ≤ 65535) (hb : ∀ x ∈ l, x = 0 ∨ x = 1) : ∀ (d i r : Nat) (acc : List Int), i + d = l.length → acc.length = i → r < 65536 →
    Ev (fun k => impl_follow.l0 k (t : Int) (!o) acc (r : Int) l (l.length : Int) (i : Int)) (acc ++ flL t (!o) r (l.drop i), true) := by
  intro d
  induction d with
  | zero =>
    intro i r acc hd ha hr
    rw [List.drop_of_length_le (by omega), flL, List.append_nil]
    exact Ev.fin (fun k => by rw [impl_follow.l0, if_neg (by omega)])
  | succ d ih =>
    intro i r acc hd ha hr
    have hx := hb _ (rd_mem (xs := l) (i := i) (by omega))
    obtain ⟨x, ex⟩ : ∃ x : Nat, rd l (i : Int) = (x : Int) := ⟨(rd l (i : Int)).toNat, by omega⟩
    have hx2 : x < 2 := by omega
    have hand : r &&& t < 65536 := Nat.lt_of_le_of_lt Nat.and_le_left hr
    obtain ⟨y, hy⟩ : ∃ y, y = (x + ones 16 (r &&& t)) % 2 := ⟨_, rfl⟩
    have hy2 : y < 2 := by omega
    have er : acc ++ flL t (!o) r (l.drop i) = acc ++ [(y : Int)] ++ flL t (!o) (flR r (if (!o) = true then y else x)) (l.drop (i + 1)) := by
      rw [drop_rd (i := i) (by omega), flL, List.append_assoc, ex, Int.toNat_natCast, ← hy]; rfl
    rw [er]
    have hin : (if (!o) = true then y else x) < 2 := by split <;> omega
    have h := ih (i + 1) (flR r (if (!o) = true then y else x)) (acc ++ [(y : Int)]) (by omega) (by simp; omega) (reg_lt hin)
    refine Ev.step (fun k => ?_) h
    have ep : ones 16 (r &&& t) % 2 < 2 := by omega
    have ey : x ^^^ ones 16 (r &&& t) % 2 = y := by rw [bitx _ _ hx2 ep, hy]; omega
    have e65 : Go.bits .and .i64 (wrap64 ((r : Int) * 2)) 65535 = ((2 * (r % 32768) : Nat) : Int) := by
      rw [w64 (by omega) (by omega), show (r : Int) * 2 = ((2 * r : Nat) : Int) by omega]
      have := and64 (2 * r) 65535 (by omega) (by omega)
      rw [show ((65535 : Nat) : Int) = 65535 from rfl] at this
      rw [this, show (65535 : Nat) = 2 ^ 16 - 1 from rfl, Nat.and_two_pow_sub_one_eq_mod]
      omega
    have eo : ∀ z : Nat, z < 2 → Go.bits .or .i64 ((2 * (r % 32768) : Nat) : Int) (z : Int) = ((flR r z : Nat) : Int) := by
      intro z hz
      rw [or64 _ _ (by omega) (by omega), or_even _ _ hz]
      unfold flR
      omega
    rw [impl_follow.l0, if_pos (by omega), if_pos (by omega), if_pos (by omega), and64 _ _ (by omega) (by omega), parity_eq _ hand, Option.bind_some, if_pos (by omega), Option.bind_some, ex, xor64 _ _ (by omega) (by omega), ey, e65, eo y hy2, eo x hx2, wsucc (by omega)]
    cases o
    · rfl
    · rfl
def followM (l : List Int) (t : Int) (own_ : Bool) : List Int × Bool := if bitsOk l = true ∧ 0 ≤ t ∧ t ≤ 65535 then (flL t.toNat own_ 0 l, true) else ([], false)
theorem iFollow_ev (l : List Int) (t : Int) (o : Bool) (hl : l.length ≤ 1048576) : Ev (fun k => impl_follow.f k l t o) (followM l t o) := by
  unfold impl_follow.f followM
  refine Ev.bind (iBitsOk_ev l (by omega)) ?_
  by_cases hb : bitsOk l = true
  · refine Ev.pos hb (Ev.bind0 (is16_eq _ _) ?_)
    by_cases ht : 0 ≤ t ∧ t ≤ 65535
    · rw [if_pos ⟨hb, ht⟩, decide_eq_true ht]
      obtain ⟨t, rfl⟩ : ∃ n : Nat, t = n := ⟨t.toNat, by omega⟩
      have h := (iFollow_loop l t (!o) (bitsOk_len hb) (by omega) (bitsOk_all hb) l.length 0 0 [] (by omega) rfl (by omega))
      rw [Bool.not_not] at h
      refine Ev.step (fun k => ?_) h
      rw [impl_follow.j0]; rfl
    · rw [if_neg (fun h => ht h.2), decide_eq_false ht]
      exact Ev.fin (fun k => by rw [impl_follow.j0]; rfl)
  · rw [if_neg (fun h => hb h.1)]
    exact Ev.neg hb (Ev.fin (fun k => by rw [impl_follow.j0]; rfl))
theorem followM_len (l : List Int) (t : Int) (o : Bool) : (followM l t o).1.length ≤ l.length := by
  unfold followM
  split
  · simp only [flL_len]; omega
  · simp
theorem weaves_eq (l : List Int) (r : Int) : impl_weaves.f l r = some (decide (l.length ≤ 1024 ∧ 1 ≤ r ∧ r ≤ 64)) := by
  unfold impl_weaves.f
  by_cases h1 : (l.length : Int) ≤ 1024
  · rw [if_pos h1]
    by_cases h2 : r ≥ 1
    · rw [if_pos h2]; congr 1; rw [Bool.eq_iff_iff]; simp; omega
    · rw [if_neg h2]; congr 1; symm; rw [decide_eq_false_iff_not]; omega
  · rw [if_neg h1]; congr 1; symm; rw [decide_eq_false_iff_not]; omega
def toI (l : List Nat) : List Int := l.map (fun n : Nat => (n : Int))
theorem toI_app (l m : List Nat) : toI (l ++ m) = toI l ++ toI m := by simp [toI]
theorem iwoven_l1 (n rows per c : Nat) (hn : n ≤ 1024) (hr : rows ≤ 64) (hp : per ≤ 2048) (hc : c ≤ 2048) (x : Int) (R : List Int) : ∀ (d r : Nat) (acc : List Int), r + d = rows → acc.length ≤ 1000000 + r →
    Ev (fun k => impl_woven.l0 k (n : Int) (rows : Int) (per : Int) (acc ++ toI (wIn n per c d r)) x ((c + 1 : Nat) : Int)) R →
    Ev (fun k => impl_woven.l1 k (n : Int) (rows : Int) (per : Int) acc (c : Int) x (c : Int) (rows : Int) (r : Int)) R := by
  intro d
  induction d with
  | zero =>
    intro r acc hd ha h
    refine Ev.step (fun k => ?_) h
    rw [impl_woven.l1, if_neg (by omega), wsucc (by omega)]
    simp [wIn, toI]
  | succ d ih =>
    intro r acc hd ha h
    have hm : r * per ≤ 64 * 2048 := Nat.mul_le_mul (by omega) hp
    have e1 : wrap64 ((r : Int) * (per : Int)) = ((r * per : Nat) : Int) := by rw [← Int.natCast_mul, w64 (by omega) (by omega)]
    have e2 : wrap64 (((r * per : Nat) : Int) + (c : Int)) = ((r * per + c : Nat) : Int) := by rw [w64 (by omega) (by omega)]; omega
    unfold wIn at h
    by_cases hlt : r * per + c < n
    · rw [if_pos hlt] at h
      refine Ev.step (fun k => ?_) (ih (r + 1) (acc ++ [((r * per + c : Nat) : Int)]) (by omega) (by simp; omega) ?_)
      · rw [impl_woven.l1, if_pos (by omega), e1, e2, if_pos (by omega), if_pos (by omega), wsucc (by omega)]
      · rw [List.append_assoc]; exact h
    · rw [if_neg hlt] at h
      refine Ev.step (fun k => ?_) (ih (r + 1) acc (by omega) (by omega) h)
      rw [impl_woven.l1, if_pos (by omega), e1, e2, if_neg (by omega), wsucc (by omega)]
theorem iwoven_l0 (n rows per : Nat) (hn : n ≤ 1024) (hr : rows ≤ 64) (hp : per ≤ 2048) : ∀ (d c : Nat) (acc : List Int), c + d = per → acc.length ≤ c * rows →
    Ev (fun k => impl_woven.l0 k (n : Int) (rows : Int) (per : Int) acc (per : Int) (c : Int)) (acc ++ toI (wOut n rows per d c)) := by
  intro d
  induction d with
  | zero =>
    intro c acc hd ha
    refine Ev.fin (fun k => ?_)
    rw [impl_woven.l0, if_neg (by omega)]
    simp [wOut, toI]
  | succ d ih =>
    intro c acc hd ha
    have hm : c * rows ≤ 2048 * 64 := Nat.mul_le_mul (by omega) hr
    have hin := wIn_le n per c rows 0
    refine Ev.step (f := fun k => impl_woven.l1 k (n : Int) (rows : Int) (per : Int) acc (c : Int) (per : Int) (c : Int) (rows : Int) 0) (fun k => ?_) ?_
    · rw [impl_woven.l0, if_pos (by omega)]
    · refine iwoven_l1 n rows per c hn hr hp (by omega) _ _ rows 0 acc (by omega) (by omega) ?_
      refine Ev.cast (ih (c + 1) (acc ++ toI (wIn n per c rows 0)) (by omega) ?_) ?_
      · rw [List.length_append, Nat.succ_mul]; simp only [toI, List.length_map]; omega
      · rw [List.append_assoc, ← toI_app]; rfl
theorem iwoven_ev (n rows : Nat) (hn : n ≤ 1024) (hr0 : 1 ≤ rows) (hr : rows ≤ 64) : Ev (fun k => impl_woven.f k (n : Int) (rows : Int)) (toI (order n rows)) := by
  unfold impl_woven.f
  have hp : perOf n rows ≤ 2048 := by
    unfold perOf
    exact Nat.le_trans (Nat.div_le_self _ _) (by omega)
  have ew : wrap64 (Int.tdiv (wrap64 (wrap64 ((n : Int) + (rows : Int)) - 1)) (rows : Int)) = ((perOf n rows : Nat) : Int) := by
    rw [w64 (n := (n : Int) + (rows : Int)) (by omega) (by omega), w64 (n := (n : Int) + (rows : Int) - 1) (by omega) (by omega)]
    have e : (n : Int) + (rows : Int) - 1 = ((n + rows - 1 : Nat) : Int) := by omega
    rw [e]
    have e2 : Int.tdiv ((n + rows - 1 : Nat) : Int) (rows : Int) = ((perOf n rows : Nat) : Int) := rfl
    rw [e2, w64 (by omega) (by omega)]
  refine Ev.neg (by omega) ?_
  rw [ew]
  exact iwoven_l0 n rows _ hn hr hp (perOf n rows) 0 [] (by omega) (by simp)
def pickAll (l : List Int) (ps : List Nat) : List Int := ps.map (fun p : Nat => rd l (p : Int))
theorem rd_toI2 (ps : List Nat) (i : Nat) (h : i < ps.length) : rd (toI ps) (i : Int) = ((ps[i] : Nat) : Int) := by
  rw [rd_lt (by simpa [toI] using h)]; simp [toI]
theorem iWeave_l0 (l : List Int) (ps : List Nat) (hl : l.length ≤ 1024) (hp : ps.length = l.length) (hb : ∀ p ∈ ps, p < l.length) : ∀ (d i : Nat) (acc : List Int), i + d = ps.length → acc.length = i →
    Ev (fun k => impl_Weave.l0 k l acc (toI ps) ((toI ps).length : Int) (i : Int)) (acc ++ pickAll l (ps.drop i), true) := by
  intro d
  have htl : (toI ps).length = ps.length := by simp [toI]
  induction d with
  | zero =>
    intro i acc hd ha
    refine Ev.fin (fun k => ?_)
    rw [impl_Weave.l0, if_neg (by omega), List.drop_of_length_le (by omega)]
    simp [pickAll]
  | succ d ih =>
    intro i acc hd ha
    have hpi := hb _ (List.getElem_mem (l := ps) (n := i) (by omega))
    refine Ev.cast (Ev.step (fun k => ?_) (ih (i + 1) (acc ++ [rd l ((ps[i]'(by omega) : Nat) : Int)]) (by omega) (by simp; omega))) ?_
    · rw [impl_Weave.l0, if_pos (by omega), if_pos (by omega), if_pos (by omega), rd_toI2 ps i (by omega), if_pos (by omega), if_pos (by omega), if_pos (by omega), wsucc (by omega)]
    · rw [List.drop_eq_getElem_cons (by omega : i < ps.length), List.append_assoc]; rfl
def weaveM (l : List Int) (r : Int) : List Int × Bool := if l.length ≤ 1024 ∧ 1 ≤ r ∧ r ≤ 64 then (pickAll l (order l.length r.toNat), true) else ([], false)
theorem iWeave_ev (l : List Int) (r : Int) : Ev (fun k => impl_Weave.f k l r) (weaveM l r) := by
  unfold impl_Weave.f weaveM
  refine Ev.bind0 (weaves_eq l r) ?_
  by_cases h : l.length ≤ 1024 ∧ 1 ≤ r ∧ r ≤ 64
  · rw [if_pos h]
    obtain ⟨rows, rfl⟩ : ∃ n : Nat, r = n := ⟨r.toNat, by omega⟩
    refine Ev.pos (decide_eq_true h) (Ev.bind (iwoven_ev l.length rows h.1 (by omega) (by omega)) ?_)
    exact iWeave_l0 l (order l.length rows) h.1 (order_len (by omega)) (fun p hp => (order_mem (by omega) p).mp hp) (order l.length rows).length 0 [] (by omega) rfl
  · rw [if_neg h]
    exact Ev.neg (by simpa using h) (Ev.now _)
theorem weaveM_len (l : List Int) (r : Int) : (weaveM l r).1.length ≤ 1024 := by
  unfold weaveM
  split
  · next h =>
    have := order_len (n := l.length) (rows := r.toNat) (by omega)
    simp only [pickAll, List.length_map]; omega
  · simp
/-- What unweaving writes: the k-th number goes to the k-th place of the order. -/
def putAll (l : List Int) : List Nat → Nat → List Int → List Int
  | [], _, out => out
  | p :: ps, k, out => putAll l ps (k + 1) (out.set p (rd l (k : Int)))
theorem putAll_length (l : List Int) : ∀ (ps : List Nat) (k : Nat) (out : List Int), (putAll l ps k out).length = out.length
  | [], _, _ => rfl
  | p :: ps, k, out => by unfold putAll; rw [putAll_length l ps]; simp
theorem rd_toI (ps : List Nat) (i : Nat) (h : i < ps.length) : rd (toI ps) (i : Int) = ((ps[i] : Nat) : Int) := by
  rw [rd_lt (by simpa [toI] using h)]; simp [toI]
theorem iUnweave_l0 (l : List Int) (ps : List Nat) (hl : l.length ≤ 1024) (hp : ps.length = l.length) (hb : ∀ p ∈ ps, p < l.length) : ∀ (d i : Nat) (out : List Int), i + d = ps.length → out.length = l.length →
    Ev (fun k => impl_Unweave.l0 k l out (toI ps) ((toI ps).length : Int) (i : Int)) (putAll l (ps.drop i) i out, true) := by
  intro d
  have htl : (toI ps).length = ps.length := by simp [toI]
  induction d with
  | zero =>
    intro i out hd ho
    refine Ev.fin (fun k => ?_)
    rw [impl_Unweave.l0, if_neg (by omega), List.drop_of_length_le (by omega)]
    rfl
  | succ d ih =>
    intro i out hd ho
    have hpi := hb _ (List.getElem_mem (l := ps) (n := i) (by omega))
    refine Ev.cast (Ev.step (fun k => ?_) (ih (i + 1) (out.set (ps[i]'(by omega)) (rd l (i : Int))) (by omega) (by simpa using ho))) ?_
    · rw [impl_Unweave.l0, if_pos (by omega), if_pos (by omega), if_pos (by omega), if_pos (by omega), rd_toI ps i (by omega), if_pos (by omega), if_pos (by omega), wsucc (by omega), Int.toNat_natCast]
    · rw [List.drop_eq_getElem_cons (by omega : i < ps.length)]; rfl
def unweaveM (l : List Int) (r : Int) : List Int × Bool := if l.length ≤ 1024 ∧ 1 ≤ r ∧ r ≤ 64 then (putAll l (order l.length r.toNat) 0 (List.replicate l.length 0), true) else ([], false)
theorem iUnweave_ev (l : List Int) (r : Int) (_hl : l.length ≤ 17592186044416) : Ev (fun k => impl_Unweave.f k l r) (unweaveM l r) := by
  unfold impl_Unweave.f unweaveM
  refine Ev.bind0 (weaves_eq l r) ?_
  by_cases h : l.length ≤ 1024 ∧ 1 ≤ r ∧ r ≤ 64
  · rw [if_pos h]
    obtain ⟨rows, rfl⟩ : ∃ n : Nat, r = n := ⟨r.toNat, by omega⟩
    refine Ev.pos (decide_eq_true h) (Ev.pos (by omega) (Ev.pos (by omega) (Ev.bind (iwoven_ev l.length rows h.1 (by omega) (by omega)) ?_)))
    exact iUnweave_l0 l (order l.length rows) h.1 (order_len (by omega)) (fun p hp => (order_mem (by omega) p).mp hp) (order l.length rows).length 0 _ (by omega) (by simp)
  · rw [if_neg h]
    exact Ev.neg (by simpa using h) (Ev.now _)
theorem unweaveM_len (l : List Int) (r : Int) : (unweaveM l r).1.length ≤ 1024 := by
  unfold unweaveM
  split
  · next h => simp only [putAll_length, List.length_replicate]; exact h.1
  · simp
/-- What stands at a place of the order, where no place stands twice. -/
theorem putAll_get (l : List Int) : ∀ (ps : List Nat) (k : Nat) (out : List Int), ps.Nodup → (∀ p ∈ ps, p < out.length) → ∀ j (hj : j < ps.length), (putAll l ps k out)[ps[j]]? = some (rd l ((k + j : Nat) : Int))
  | [], _, _, _, _, j, hj => by simp at hj
  | p :: ps, k, out, hn, hb, j, hj => by
    unfold putAll
    have hn2 := List.nodup_cons.mp hn
    cases j with
    | zero =>
      have key : ∀ (qs : List Nat) (m : Nat) (o : List Int), p ∉ qs → (putAll l qs m o)[p]? = o[p]? := by
        intro qs
        induction qs with
        | nil => intro m o _; rfl
        | cons q qs ih =>
          intro m o h
          unfold putAll
          rw [ih (m + 1) _ (fun hh => h (List.mem_cons_of_mem _ hh)), List.getElem?_set_ne (fun e => h (by rw [e]; exact List.mem_cons_self))]
      rw [List.getElem_cons_zero, key ps (k + 1) _ hn2.1, List.getElem?_set_self (hb p List.mem_cons_self)]
      simp
    | succ j =>
      rw [List.getElem_cons_succ, putAll_get l ps (k + 1) _ hn2.2 (fun q hq => by simpa using hb q (List.mem_cons_of_mem _ hq)) j (by simpa using hj), show k + 1 + j = k + (j + 1) by omega]
/-- Bits put into bytes from place i on. -/
def pkG : List Int → Nat → List Int → List Int
  | [], _, out => out
  | x :: t, i, out => pkG t (i + 1) (out.set (i / 8) (Go.bits .or .u8 (rd out ((i / 8 : Nat) : Int)) (x * 2 ^ (7 - i % 8))))
theorem pkG_len : ∀ (l : List Int) (i : Nat) (out : List Int), (pkG l i out).length = out.length
  | [], _, _ => rfl
  | x :: t, i, out => by rw [pkG, pkG_len t, List.length_set]
theorem shl_i (x : Nat) (s : Nat) (hx : x < 2) (hs : s ≤ 7) : (shl .i64 (x : Int) (s : Int)) % 256 = (x : Int) * 2 ^ s := by
  have h : ∀ x < 2, ∀ s < 8, (shl .i64 ((x : Nat) : Int) ((s : Nat) : Int)) % 256 = (x : Int) * 2 ^ s := by decide +kernel
  exact h x hx s (by omega)
theorem shl_u (x : Nat) (s : Nat) (hx : x < 2) (hs : s ≤ 7) : shl .u8 ((x : Int) % 256) (s : Int) = (x : Int) * 2 ^ s := by
  have h : ∀ x < 2, ∀ s < 8, shl .u8 (((x : Nat) : Int) % 256) ((s : Nat) : Int) = (x : Int) * 2 ^ s := by decide +kernel
  exact h x hx s (by omega)
theorem iPack8_loop (l : List Int) (hl : l.length ≤ 1024) (hb : ∀ x ∈ l, x = 0 ∨ x = 1) : ∀ (d i : Nat) (out : List Int), i + d = l.length → out.length = (l.length + 7) / 8 →
    Ev (fun k => impl_pack8.l0 k out l (l.length : Int) (i : Int)) (pkG (l.drop i) i out) := by
  intro d
  induction d with
  | zero =>
    intro i out hd ho
    rw [List.drop_of_length_le (by omega), pkG]
    exact Ev.fin (fun k => by rw [impl_pack8.l0, if_neg (by omega)])
  | succ d ih =>
    intro i out hd ho
    have hx := hb _ (rd_mem (xs := l) (i := i) (by omega))
    obtain ⟨x, ex⟩ : ∃ x : Nat, rd l (i : Int) = (x : Int) := ⟨(rd l (i : Int)).toNat, by omega⟩
    have hx2 : x < 2 := by omega
    have e8 : wrap64 (Int.tdiv (i : Int) 8) = ((i / 8 : Nat) : Int) := by
      rw [show Int.tdiv (i : Int) 8 = ((i / 8 : Nat) : Int) from rfl, w64 (by omega) (by omega)]
    have e7 : wrap64 (7 - Int.tmod (i : Int) 8) = ((7 - i % 8 : Nat) : Int) := by
      rw [show Int.tmod (i : Int) 8 = ((i % 8 : Nat) : Int) from rfl, w64 (by omega) (by omega)]; omega
    have eu : IntKind.u64.wrap ((7 - i % 8 : Nat) : Int) = ((7 - i % 8 : Nat) : Int) := u64w (by omega) (by omega)
    have hq : i / 8 < out.length := by omega
    rw [drop_rd (i := i) (by omega), pkG]
    have h2 := ih (i + 1) (out.set (i / 8) (Go.bits .or .u8 (rd out ((i / 8 : Nat) : Int)) (rd l (i : Int) * 2 ^ (7 - i % 8)))) (by omega) (by simpa using ho)
    refine Ev.step (fun k => ?_) h2
    rw [impl_pack8.l0, if_pos (by omega), if_pos (by omega), if_pos (by omega), e8, if_pos (by omega), if_pos (by omega), e7, if_pos (by omega), ex, shl_u x _ hx2 (by omega), wsucc (by omega), Int.toNat_natCast]
def pack8L (l : List Int) : List Int := pkG l 0 (List.replicate ((l.length + 7) / 8) 0)
theorem pack8L_len (l : List Int) : (pack8L l).length = (l.length + 7) / 8 := by unfold pack8L; rw [pkG_len, List.length_replicate]
theorem pk_size (l : List Int) (hl : l.length ≤ 1048576) : wrap64 (Int.tdiv (wrap64 ((l.length : Int) + 7)) 8) = (((l.length + 7) / 8 : Nat) : Int) := by
  rw [w64 (n := (l.length : Int) + 7) (by omega) (by omega), show (l.length : Int) + 7 = ((l.length + 7 : Nat) : Int) by omega, show Int.tdiv ((l.length + 7 : Nat) : Int) 8 = (((l.length + 7) / 8 : Nat) : Int) from rfl, w64 (by omega) (by omega)]
def pack8M (l : List Int) : List Int × Bool := if bitsOk l = true then (pack8L l, true) else ([], false)
theorem iPack8_ev (l : List Int) (hl : l.length ≤ 1048576) : Ev (fun k => impl_Pack8.f k l) (pack8M l) := by
  unfold impl_Pack8.f pack8M
  refine Ev.bind (iBitsOk_ev l (by omega)) ?_
  by_cases hb : bitsOk l = true
  · rw [if_pos hb]
    have h : Ev (fun k => impl_pack8.f k l) (pack8L l) := by
      unfold impl_pack8.f
      rw [pk_size l hl, Int.toNat_natCast]
      exact Ev.pos (by omega) (Ev.pos (by omega) (iPack8_loop l (bitsOk_len hb) (bitsOk_all hb) l.length 0 _ (by omega) (by simp)))
    exact Ev.pos hb (Ev.bind h (Ev.now _))
  · rw [if_neg hb]
    exact Ev.neg hb (Ev.now _)
theorem ub_tab : ((List.range 256).all fun x => (List.range 8).all fun s => decide (wrap64 (Go.bits .and .u8 (shr .u8 (x : Int) (s : Int)) 1) = ((x / 2 ^ s % 2 : Nat) : Int)) && decide (Int.tmod (wrap64 (shr .u8 (x : Int) (s : Int))) 2 = ((x / 2 ^ s % 2 : Nat) : Int))) = true := by decide +kernel
theorem ub_at {x s : Nat} (hx : x < 256) (hs : s < 8) : wrap64 (Go.bits .and .u8 (shr .u8 (x : Int) (s : Int)) 1) = ((x / 2 ^ s % 2 : Nat) : Int) ∧ Int.tmod (wrap64 (shr .u8 (x : Int) (s : Int))) 2 = ((x / 2 ^ s % 2 : Nat) : Int) := by
  have h := all2 (fun x s => decide (wrap64 (Go.bits .and .u8 (shr .u8 (x : Int) (s : Int)) 1) = ((x / 2 ^ s % 2 : Nat) : Int)) && decide (Int.tmod (wrap64 (shr .u8 (x : Int) (s : Int))) 2 = ((x / 2 ^ s % 2 : Nat) : Int))) ub_tab hx hs
  rw [Bool.and_eq_true] at h
  exact ⟨of_decide_eq_true h.1, of_decide_eq_true h.2⟩
/-- The j-th bit of bytes. -/
def ubit (b : List Int) (j : Nat) : Nat := (rd b ((j / 8 : Nat) : Int)).toNat / 2 ^ (7 - j % 8) % 2
def ubits (b : List Int) : Nat → List Int
  | 0 => []
  | m + 1 => ubits b m ++ [((ubit b m : Nat) : Int)]
theorem ubits_len (b : List Int) : ∀ m, (ubits b m).length = m
  | 0 => rfl
  | m + 1 => by show (ubits b m ++ [_]).length = m + 1; rw [List.length_append, ubits_len b m]; rfl
theorem ubits_take (b : List Int) : ∀ {m n : Nat}, n ≤ m → (ubits b m).take n = ubits b n
  | 0, n, h => by rw [Nat.le_zero.1 h]; rfl
  | m + 1, n, h => by
    have hl := ubits_len b m
    by_cases e : n = m + 1
    · subst e; exact List.take_of_length_le (by rw [ubits_len]; exact Nat.le_refl _)
    · show (ubits b m ++ [_]).take n = _
      rw [List.take_append_of_le_length (by omega), ubits_take b (m := m) (by omega)]
theorem rd_ubits (b : List Int) : ∀ {m j : Nat}, j < m → rd (ubits b m) (j : Int) = ((ubit b j : Nat) : Int)
  | m + 1, j, h => by
    have hl := ubits_len b m
    unfold rd
    rw [Int.toNat_natCast]
    show (ubits b m ++ [_]).getD j 0 = _
    rw [List.getD_eq_getElem?_getD]
    by_cases e : j < m
    · rw [List.getElem?_append_left (by omega), ← List.getD_eq_getElem?_getD]
      have := rd_ubits b (m := m) (j := j) e
      unfold rd at this
      rw [Int.toNat_natCast] at this
      exact this
    · obtain rfl : j = m := by omega
      rw [List.getElem?_append_right (by omega), hl, Nat.sub_self]; rfl
/-- Is one of the d bits from i on 1? -/
def uany (b : List Int) : Nat → Nat → Bool
  | 0, _ => false
  | d + 1, i => ubit b i == 1 || uany b d (i + 1)
theorem ubyte {b : List Int} (hb : Bytes b) {i : Nat} (hi : i < b.length) : ∃ x : Nat, x < 256 ∧ rd b (i : Int) = (x : Int) := by
  have h := wfb (hb _ (rd_mem hi))
  exact ⟨(rd b (i : Int)).toNat, by omega, by omega⟩
theorem unpack_l1 (b : List Int) (hb : Bytes b) (hl : b.length ≤ 128) (i : Nat) (hi : i < b.length) (R : List Int) (K : Ev (fun k => impl_unpack8.l0 k (ubits b (8 * (i + 1))) b (b.length : Int) ((i + 1 : Nat) : Int)) R) :
    ∀ (d t : Nat), t + d = 8 → Ev (fun k => impl_unpack8.l1 k (ubits b (8 * i + t)) (rd b (i : Int)) (7 - (t : Int)) b (b.length : Int) (i : Int)) R := by
  obtain ⟨x, hx, ex⟩ := ubyte hb hi
  intro d
  induction d with
  | zero =>
    intro t hd
    obtain rfl : t = 8 := by omega
    refine Ev.step (fun k => ?_) K
    rw [impl_unpack8.l1, if_neg (by omega), wsucc (by omega)]
    rfl
  | succ d ih =>
    intro t hd
    have e1 : (7 : Int) - (t : Int) = ((7 - t : Nat) : Int) := by omega
    have hu := (ub_at hx (show 7 - t < 8 by omega)).1
    have eb : ubit b (8 * i + t) = x / 2 ^ (7 - t) % 2 := by
      unfold ubit
      rw [show (8 * i + t) / 8 = i by omega, show (8 * i + t) % 8 = t by omega, ex, Int.toNat_natCast]
    have hlen := ubits_len b (8 * i + t)
    refine Ev.step (fun k => ?_) (ih (t + 1) (by omega))
    rw [impl_unpack8.l1, if_pos (by omega), if_pos (by omega), if_pos (by omega), ex, e1, hu, ← eb]
    show impl_unpack8.l1 k (ubits b (8 * i + t + 1)) (x : Int) (wrap64 (((7 - t : Nat) : Int) - 1)) b (b.length : Int) (i : Int) = _
    rw [show wrap64 (((7 - t : Nat) : Int) - 1) = 7 - ((t + 1 : Nat) : Int) by rw [w64 (by omega) (by omega)]; omega]
    rfl
theorem unpack_l0 (b : List Int) (hb : Bytes b) (hl : b.length ≤ 128) : ∀ (d i : Nat), i + d = b.length → Ev (fun k => impl_unpack8.l0 k (ubits b (8 * i)) b (b.length : Int) (i : Int)) (ubits b (8 * b.length)) := by
  intro d
  induction d with
  | zero =>
    intro i hd
    obtain rfl : i = b.length := by omega
    exact Ev.fin (fun k => by rw [impl_unpack8.l0, if_neg (by omega)])
  | succ d ih =>
    intro i hd
    have h1 := unpack_l1 b hb hl i (by omega) _ (ih (i + 1) (by omega)) 8 0 (by omega)
    exact Ev.step (f := fun k => impl_unpack8.l1 k (ubits b (8 * i + 0)) (rd b (i : Int)) (7 - ((0 : Nat) : Int)) b (b.length : Int) (i : Int)) (fun k => by rw [impl_unpack8.l0, if_pos (by omega), if_pos (by omega), if_pos (by omega)]; rfl) h1
def unpackR (b : List Int) (n : Nat) : List Int × Bool := if uany b (8 * b.length - n) n = true then ([], false) else (ubits b n, true)
theorem iUnpack_l0 (b : List Int) (hl : b.length ≤ 128) (n : Nat) (hn : n ≤ 8 * b.length) : ∀ (d j : Nat), n + j + d = 8 * b.length →
    Ev (fun k => impl_Unpack8.l0 k (n : Int) (ubits b (8 * b.length)) ((ubits b (8 * b.length)).drop n) ((((ubits b (8 * b.length)).drop n).length : Nat) : Int) (j : Int)) (if uany b d (n + j) = true then ([], false) else (ubits b n, true)) := by
  have hlen := ubits_len b (8 * b.length)
  have hdl : ((ubits b (8 * b.length)).drop n).length = 8 * b.length - n := by rw [List.length_drop, hlen]
  intro d
  induction d with
  | zero =>
    intro j hd
    refine Ev.fin (fun k => ?_)
    rw [hdl, impl_Unpack8.l0, if_neg (by omega), if_pos (by omega), if_pos (by omega), Int.toNat_natCast, ubits_take b hn]
    rfl
  | succ d ih =>
    intro j hd
    have er : rd ((ubits b (8 * b.length)).drop n) (j : Int) = ((ubit b (n + j) : Nat) : Int) := by
      rw [← rd_ubits b (show n + j < 8 * b.length by omega)]
      unfold rd
      rw [Int.toNat_natCast, Int.toNat_natCast, List.getD_eq_getElem?_getD, List.getD_eq_getElem?_getD, List.getElem?_drop]
    have hn2 := ih (j + 1) (by omega)
    rw [hdl] at hn2 ⊢
    unfold uany
    by_cases h1 : ubit b (n + j) = 1
    · rw [h1, show ((1 : Nat) == 1) = true from rfl, Bool.true_or, if_pos rfl]
      refine Ev.fin (fun k => ?_)
      rw [impl_Unpack8.l0, if_pos (by omega), if_pos (by omega), if_pos (by rw [hdl]; omega), er, h1, if_pos (show ((1 : Nat) : Int) = 1 from rfl)]
    · rw [beq_eq_false_iff_ne.mpr h1, Bool.false_or]
      refine Ev.step (fun k => ?_) hn2
      rw [impl_Unpack8.l0, if_pos (by omega), if_pos (by omega), if_pos (by rw [hdl]; omega), er, if_neg (by omega), wsucc (by omega)]
def unpackM (b : List Int) (n : Int) : List Int × Bool := if 0 ≤ n ∧ n ≤ 1024 ∧ b.length = (n.toNat + 7) / 8 then unpackR b n.toNat else ([], false)
theorem un_size (n : Nat) (hn : n ≤ 1024) : wrap64 (Int.tdiv (wrap64 ((n : Int) + 7)) 8) = (((n + 7) / 8 : Nat) : Int) := by
  rw [w64 (n := (n : Int) + 7) (by omega) (by omega), show (n : Int) + 7 = ((n + 7 : Nat) : Int) by omega, show Int.tdiv ((n + 7 : Nat) : Int) 8 = (((n + 7) / 8 : Nat) : Int) from rfl, w64 (by omega) (by omega)]
theorem iUnpack8_ev (b : List Int) (n : Int) (hb : Bytes b) : Ev (fun k => impl_Unpack8.f k b n) (unpackM b n) := by
  unfold impl_Unpack8.f
  have bad : Ev (fun k => impl_Unpack8.j0 k b n true) ([], false) := Ev.fin (fun k => by rw [impl_Unpack8.j0, if_pos rfl])
  by_cases h0 : n < 0
  · have e : unpackM b n = ([], false) := by unfold unpackM; rw [if_neg (fun hh => by omega)]
    rw [e]; exact Ev.pos h0 bad
  refine Ev.neg h0 ?_
  by_cases h1 : n > 1024
  · have e : unpackM b n = ([], false) := by unfold unpackM; rw [if_neg (fun hh => by omega)]
    rw [e]; exact Ev.pos h1 bad
  refine Ev.neg h1 ?_
  obtain ⟨n, rfl⟩ : ∃ m : Nat, n = m := ⟨n.toNat, by omega⟩
  rw [un_size n (by omega)]
  by_cases h2 : b.length = (n + 7) / 8
  · have e : unpackM b (n : Int) = unpackR b n := by unfold unpackM; rw [if_pos ⟨by omega, by omega, by rw [Int.toNat_natCast]; exact h2⟩, Int.toNat_natCast]
    have hlen := ubits_len b (8 * b.length)
    have hn : n ≤ 8 * b.length := by omega
    rw [e, h2, bne_self_eq_false]
    have hu : Ev (fun k => impl_unpack8.f k b) (ubits b (8 * b.length)) := by
      unfold impl_unpack8.f
      exact unpack_l0 b hb (by omega) b.length 0 (by omega)
    have hr := iUnpack_l0 b (by omega) n hn (8 * b.length - n) 0 (by omega)
    have all : Ev (fun k => (impl_unpack8.f k b).bind fun t121 => (if 0 ≤ (n : Int) then (if (n : Int) ≤ (t121.length : Int) then ((some (t121.drop ((n : Int) : Int).toNat : List Int)).bind fun y124 => (impl_Unpack8.l0 k (n : Int) t121 y124 (y124.length : Int) 0)) else (none)) else (none))) (unpackR b n) := by
      refine Ev.bind hu (Ev.pos (by omega) (Ev.pos (by rw [hlen]; omega) (Ev.bind0 rfl ?_)))
      rw [Int.toNat_natCast]
      exact hr
    exact Ev.step (fun k => by rw [impl_Unpack8.j0, if_neg (by decide)]) all
  · have e : unpackM b (n : Int) = ([], false) := by unfold unpackM; rw [if_neg (fun hh => h2 (by rw [Int.toNat_natCast] at hh; exact hh.2.2))]
    rw [e, bne_iff_ne.mpr (show (b.length : Int) ≠ (((n + 7) / 8 : Nat) : Int) by omega)]
    exact bad
theorem unpackM_len (b : List Int) (n : Int) : (unpackM b n).1.length ≤ 1024 := by
  unfold unpackM
  split
  · rename_i h
    unfold unpackR
    split
    · simp
    · simp only [ubits_len]; omega
  · simp
theorem sameInts_l0 (l : List Int) (hl : l.length ≤ 1048576) : ∀ (d i : Nat), i + d = l.length → Ev (fun k => laws_sameInts.l0 k l l (i : Int)) true := by
  intro d
  induction d with
  | zero =>
    intro i hd
    exact Ev.fin (fun k => by rw [laws_sameInts.l0, if_neg (by omega)])
  | succ d ih =>
    intro i hd
    refine Ev.step (fun k => ?_) (ih (i + 1) (by omega))
    rw [laws_sameInts.l0, if_pos (by omega), if_pos (by omega), if_pos (by omega), if_pos rfl, wsucc (by omega)]
theorem sameInts_ev (l : List Int) (hl : l.length ≤ 1048576) : Ev (fun k => laws_sameInts.f k l l) true := by
  unfold laws_sameInts.f
  exact Ev.pos rfl (sameInts_l0 l hl l.length 0 (by omega))

theorem all01 {l : List Int} (h : bitsOk l = true) : ∀ x ∈ l, x = 0 ∨ x = 1 := bitsOk_all h
theorem mk01 {l : List Int} (h : ∀ x ∈ l, x = 0 ∨ x = 1) (hl : l.length ≤ 1024) : bitsOk l = true := by
  unfold bitsOk
  rw [Bool.and_eq_true, decide_eq_true_eq, List.all_eq_true]
  exact ⟨fun x hx => by rcases h x hx with e | e <;> subst e <;> rfl, hl⟩
theorem ext_rd {a b : List Int} (hl : a.length = b.length) (h : ∀ i, i < a.length → rd a (i : Int) = rd b (i : Int)) : a = b := by
  apply List.ext_getElem hl
  intro i h1 h2
  have := h i h1
  rwa [rd_lt h1, rd_lt h2] at this
theorem rd_set_off {l : List Int} {i j : Nat} (h : i ≠ j) (v : Int) : rd (l.set i v) (j : Int) = rd l (j : Int) := by
  unfold rd; rw [Int.toNat_natCast]; simp only [List.getD_eq_getElem?_getD]; rw [List.getElem?_set_ne h]
theorem xb (x b : Int) (hx : x = 0 ∨ x = 1) (hb : b = 0 ∨ b = 1) : Go.bits .xor .i64 (Go.bits .xor .i64 x b) b = x ∧ Go.bits .xor .i64 b (Go.bits .xor .i64 b x) = x ∧ (Go.bits .xor .i64 b x = 0 ∨ Go.bits .xor .i64 b x = 1) ∧ (Go.bits .xor .i64 x b = 0 ∨ Go.bits .xor .i64 x b = 1) := by
  rcases hx with rfl | rfl <;> rcases hb with rfl | rfl <;> decide
/-! ### Differences -/
theorem df_back : ∀ (l : List Int) (a : Int), (a = 0 ∨ a = 1) → (∀ x ∈ l, x = 0 ∨ x = 1) → udL a (dfL a l) = l ∧ ∀ x ∈ dfL a l, x = 0 ∨ x = 1
  | [], a, _, _ => ⟨rfl, fun x h => by cases h⟩
  | x :: t, a, ha, h => by
    obtain ⟨_, q2, q3, _⟩ := xb x a (h x List.mem_cons_self) ha
    obtain ⟨r1, r2⟩ := df_back t (Go.bits .xor .i64 a x) q3 (fun y hy => h y (List.mem_cons_of_mem _ hy))
    constructor
    · show Go.bits .xor .i64 a (Go.bits .xor .i64 a x) :: udL (Go.bits .xor .i64 a x) (dfL (Go.bits .xor .i64 a x) t) = x :: t
      rw [q2, r1]
    · intro y hy
      rcases List.mem_cons.1 hy with rfl | hy
      · exact q3
      · exact r2 y hy
/-! ### Stirred twice -/
theorem st_back (t : Nat) : ∀ (l : List Int) (s : Nat), (∀ x ∈ l, x = 0 ∨ x = 1) → stL t s (stL t s l) = l ∧ ∀ x ∈ stL t s l, x = 0 ∨ x = 1
  | [], s, _ => ⟨rfl, fun x h => by cases h⟩
  | x :: l, s, h => by
    obtain ⟨q1, _, _, q4⟩ := xb x ((s % 2 : Nat) : Int) (h x List.mem_cons_self) (by omega)
    obtain ⟨r1, r2⟩ := st_back t l (stR t s) (fun y hy => h y (List.mem_cons_of_mem _ hy))
    constructor
    · show Go.bits .xor .i64 (Go.bits .xor .i64 x ((s % 2 : Nat) : Int)) ((s % 2 : Nat) : Int) :: stL t (stR t s) (stL t (stR t s) l) = x :: l
      rw [q1, r1]
    · intro y hy
      rcases List.mem_cons.1 hy with rfl | hy
      · exact q4
      · exact r2 y hy
/-! ### Followed -/
theorem fl_back (t : Nat) : ∀ (l : List Int) (r : Nat), (∀ x ∈ l, x = 0 ∨ x = 1) → flL t false r (flL t true r l) = l ∧ ∀ x ∈ flL t true r l, x = 0 ∨ x = 1
  | [], r, _ => ⟨rfl, fun x h => by cases h⟩
  | x :: l, r, h => by
    have hx := h x List.mem_cons_self
    obtain ⟨r1, r2⟩ := fl_back t l (flR r ((x.toNat + ones 16 (r &&& t)) % 2)) (fun y hy => h y (List.mem_cons_of_mem _ hy))
    have e : flL t true r (x :: l) = (((x.toNat + ones 16 (r &&& t)) % 2 : Nat) : Int) :: flL t true (flR r ((x.toNat + ones 16 (r &&& t)) % 2)) l := rfl
    have e2 : ∀ (y : Nat) (m : List Int), flL t false r ((y : Int) :: m) = (((y + ones 16 (r &&& t)) % 2 : Nat) : Int) :: flL t false (flR r y) m := fun y m => rfl
    constructor
    · rw [e, e2, r1]
      congr 1
      generalize ones 16 (r &&& t) = o
      omega
    · intro y hy
      rw [e] at hy
      rcases List.mem_cons.1 hy with rfl | hy
      · omega
      · exact r2 y hy
/-! ### Woven -/
theorem put_pick (l m : List Int) : ∀ (ps : List Nat) (k : Nat) (out : List Int), (∀ j (hj : j < ps.length), rd m ((k + j : Nat) : Int) = rd l ((ps[j] : Nat) : Int)) → (∀ p ∈ ps, p < out.length) → ∀ i, (i ∈ ps ∨ rd out (i : Int) = rd l (i : Int)) → rd (putAll m ps k out) (i : Int) = rd l (i : Int)
  | [], k, out, _, _, i, h => by
    rcases h with h | h
    · cases h
    · exact h
  | p :: ps, k, out, hm, hp, i, h => by
    show rd (putAll m ps (k + 1) (out.set p (rd m (k : Int)))) (i : Int) = rd l (i : Int)
    have h0 : rd m (k : Int) = rd l (p : Int) := hm 0 (by simp)
    refine put_pick l m ps (k + 1) _ (fun j hj => ?_) (fun q hq => by rw [List.length_set]; exact hp q (List.mem_cons_of_mem _ hq)) i ?_
    · have := hm (j + 1) (by simp; omega)
      rw [show k + 1 + j = k + (j + 1) by omega]
      exact this
    · by_cases e : i = p
      · subst e
        exact .inr (by rw [h0]; unfold rd; rw [Int.toNat_natCast, List.getD_eq_getElem?_getD, List.getElem?_set_self (hp i List.mem_cons_self)]; rfl)
      · rcases h with h | h
        · rcases List.mem_cons.1 h with h | h
          · exact absurd h e
          · exact .inl h
        · refine .inr ?_
          rw [← h]
          exact rd_set_off (fun h => e h.symm) _
theorem wv_back (l : List Int) (r : Nat) (hr : 0 < r) : putAll (pickAll l (order l.length r)) (order (pickAll l (order l.length r)).length r) 0 (List.replicate (pickAll l (order l.length r)).length 0) = l := by
  have hlen := order_len (n := l.length) hr
  have hp : (pickAll l (order l.length r)).length = l.length := by rw [pickAll, List.length_map, hlen]
  rw [hp]
  apply ext_rd
  · rw [putAll_length, List.length_replicate]
  · intro i hi
    rw [putAll_length, List.length_replicate] at hi
    refine put_pick l _ _ 0 _ (fun j hj => ?_) (fun p hp => by rw [List.length_replicate]; exact (order_mem hr p).1 hp) i (.inl ((order_mem hr i).2 hi))
    rw [Nat.zero_add, rd_lt (by rw [hp]; rw [hlen] at hj; exact hj)]
    simp only [pickAll, List.getElem_map]
/-! ### Packed -/
theorem pb_tab : ((List.range 256).all fun v => (List.range 8).all fun s => (List.range 2).all fun x =>
    decide (0 ≤ Go.bits .or .u8 (v : Int) ((x : Int) * 2 ^ s)) && decide (Go.bits .or .u8 (v : Int) ((x : Int) * 2 ^ s) ≤ 255) &&
    ((List.range 8).all fun q => decide ((Go.bits .or .u8 (v : Int) ((x : Int) * 2 ^ s)).toNat / 2 ^ q % 2 = if q = s then (if v / 2 ^ s % 2 = 1 then 1 else x) else v / 2 ^ q % 2))) = true := by decide +kernel
theorem pb_at {v s x : Nat} (hv : v < 256) (hs : s < 8) (hx : x < 2) : ∃ b : Nat, b < 256 ∧ Go.bits .or .u8 (v : Int) ((x : Int) * 2 ^ s) = (b : Int) ∧ ∀ q, q < 8 → b / 2 ^ q % 2 = if q = s then (if v / 2 ^ s % 2 = 1 then 1 else x) else v / 2 ^ q % 2 := by
  have h := all1 _ (all1 _ (all1 _ pb_tab hv) hs) hx
  rw [Bool.and_eq_true, Bool.and_eq_true, decide_eq_true_eq, decide_eq_true_eq] at h
  obtain ⟨⟨h1, h2⟩, h3⟩ := h
  refine ⟨(Go.bits .or .u8 (v : Int) ((x : Int) * 2 ^ s)).toNat, by omega, by omega, fun q hq => ?_⟩
  have := all1 _ h3 hq
  rw [decide_eq_true_eq] at this
  exact this
theorem pk_bits : ∀ (l : List Int) (i : Nat) (out : List Int), (∀ x ∈ l, x = 0 ∨ x = 1) → i + l.length ≤ 8 * out.length → Bytes out → (∀ j, i ≤ j → ubit out j = 0) →
    Bytes (pkG l i out) ∧ ∀ j, ubit (pkG l i out) j = if i ≤ j ∧ j < i + l.length then (rd l ((j - i : Nat) : Int)).toNat else ubit out j
  | [], i, out, _, _, hb, _ => ⟨hb, fun j => by rw [if_neg (by rw [List.length_nil]; omega)]; rfl⟩
  | x :: t, i, out, h, hl, hb, h0 => by
    rw [List.length_cons] at hl
    have hi : i / 8 < out.length := by omega
    have hx := h x List.mem_cons_self
    have hv := wfb (hb _ (rd_mem hi))
    obtain ⟨b, hb1, hb2, hb3⟩ := pb_at (v := (rd out ((i / 8 : Nat) : Int)).toNat) (s := 7 - i % 8) (x := x.toNat) (by omega) (by omega) (by omega)
    have ev : (((rd out ((i / 8 : Nat) : Int)).toNat : Nat) : Int) = rd out ((i / 8 : Nat) : Int) := Int.toNat_of_nonneg hv.1
    have ex : ((x.toNat : Nat) : Int) = x := Int.toNat_of_nonneg (by omega)
    rw [ev, ex] at hb2
    have e : pkG (x :: t) i out = pkG t (i + 1) (out.set (i / 8) (b : Int)) := by
      show pkG t (i + 1) (out.set (i / 8) (Go.bits .or .u8 (rd out ((i / 8 : Nat) : Int)) (x * 2 ^ (7 - i % 8)))) = _
      rw [hb2]
    have hset : ∀ j, ubit (out.set (i / 8) (b : Int)) j = if j = i then x.toNat else ubit out j := by
      intro j
      have h0i := h0 i (Nat.le_refl _)
      unfold ubit at h0i ⊢
      by_cases hj : j / 8 = i / 8
      · have er : rd (out.set (i / 8) (b : Int)) ((j / 8 : Nat) : Int) = (b : Int) := by
          unfold rd; rw [Int.toNat_natCast, hj, List.getD_eq_getElem?_getD, List.getElem?_set_self hi]; rfl
        rw [er, Int.toNat_natCast, hb3 _ (by omega), hj]
        by_cases hji : j = i
        · subst hji
          rw [if_pos rfl, if_neg (by omega), if_pos rfl]
        · rw [if_neg (by omega), if_neg hji]
      · have er : rd (out.set (i / 8) (b : Int)) ((j / 8 : Nat) : Int) = rd out ((j / 8 : Nat) : Int) := by
          exact rd_set_off (fun h => hj h.symm) _
        rw [er, if_neg (fun h => hj (by rw [h]))]
    have hb' : Bytes (out.set (i / 8) (b : Int)) := by
      intro y hy
      rcases List.mem_or_eq_of_mem_set hy with hy | rfl
      · exact hb y hy
      · exact byte_wf ⟨by omega, by omega⟩
    obtain ⟨r1, r2⟩ := pk_bits t (i + 1) (out.set (i / 8) (b : Int)) (fun y hy => h y (List.mem_cons_of_mem _ hy)) (by rw [List.length_set]; omega) hb' (fun j hj => by rw [hset, if_neg (by omega)]; exact h0 j (by omega))
    rw [e]
    refine ⟨r1, fun j => ?_⟩
    rw [r2, hset, List.length_cons]
    by_cases c1 : i + 1 ≤ j ∧ j < i + 1 + t.length
    · rw [if_pos c1, if_pos (by omega)]
      obtain ⟨d, rfl⟩ : ∃ d, j = i + 1 + d := ⟨j - (i + 1), by omega⟩
      rw [show i + 1 + d - (i + 1) = d by omega, show i + 1 + d - i = d + 1 by omega]
      unfold rd
      rw [Int.toNat_natCast, Int.toNat_natCast]
      rfl
    · rw [if_neg c1]
      by_cases c2 : j = i
      · subst c2
        rw [if_pos rfl, if_pos (by omega), Nat.sub_self]; rfl
      · rw [if_neg c2, if_neg (by omega)]
theorem uany_none (b : List Int) : ∀ (d i : Nat), (∀ j, i ≤ j → j < i + d → ubit b j = 0) → uany b d i = false
  | 0, _, _ => rfl
  | d + 1, i, h => by
    show (ubit b i == 1 || uany b d (i + 1)) = false
    rw [h i (Nat.le_refl _) (by omega), uany_none b d (i + 1) (fun j h1 h2 => h j (by omega) (by omega))]; rfl
theorem pack_back (l : List Int) (h : bitsOk l = true) : Bytes (pack8L l) ∧ unpackM (pack8L l) (l.length : Int) = (l, true) := by
  have hlen := bitsOk_len h
  have hB := all01 h
  have hz : ∀ n j, ubit (List.replicate n (0 : Int)) j = 0 := by
    intro n j
    unfold ubit rd
    rw [Int.toNat_natCast, List.getD_eq_getElem?_getD, List.getElem?_replicate]
    split <;> simp
  obtain ⟨b1, b2⟩ := pk_bits l 0 (List.replicate ((l.length + 7) / 8) 0) hB (by rw [List.length_replicate]; omega) (fun y hy => by rw [(List.mem_replicate.mp hy).2]; exact byte_wf ⟨by omega, by omega⟩) (fun j _ => hz _ j)
  refine ⟨b1, ?_⟩
  have hpl := pack8L_len l
  unfold unpackM unpackR
  rw [Int.toNat_natCast, if_pos ⟨by omega, by omega, hpl⟩]
  have e : ∀ j, ubit (pack8L l) j = if j < l.length then (rd l (j : Int)).toNat else 0 := by
    intro j
    unfold pack8L
    rw [b2 j, hz, Nat.sub_zero, Nat.zero_add]
    by_cases c : j < l.length
    · rw [if_pos ⟨Nat.zero_le _, c⟩, if_pos c]
    · rw [if_neg (fun h => c h.2), if_neg c]
  rw [uany_none _ _ _ (fun j h1 h2 => by rw [e, if_neg (by omega)]), if_neg (by simp)]
  congr 1
  apply ext_rd
  · rw [ubits_len]
  · intro i hi
    rw [ubits_len] at hi
    have := hB _ (rd_mem (xs := l) hi)
    rw [rd_ubits _ hi, e, if_pos hi]
    omega
/-! ### The law -/
theorem Stirred_j0 (c l : List Int) (t s : Int) (hc : c.length ≤ 1048576) (hw : Bytes c) (h : bitsOk l = true) (ht : 0 ≤ t ∧ t ≤ 65536) : Ev (fun k => laws_FnStirred.j0 k c l t s) true := by
  have hlen := bitsOk_len h
  have hB := all01 h
  have hl6 : l.length ≤ 1048576 := by omega
  obtain ⟨d1, d2⟩ := df_back l 0 (.inl rfl) hB
  have dlen := dfL_len l 0
  have db : bitsOk (dfL 0 l) = true := mk01 d2 (by omega)
  have eD : Ev (fun k => impl_Differ.f k l) (dfL 0 l, true) := by have := iDiffer_ev l hl6; unfold differM at this; rw [if_pos h] at this; exact this
  have eU : Ev (fun k => impl_UnDiffer.f k (dfL 0 l)) (l, true) := by have := iUnDiffer_ev (dfL 0 l) (by omega); unfold unDifferM at this; rw [if_pos db, d1] at this; exact this
  have hT : 0 ≤ Int.tmod t 65536 ∧ Int.tmod t 65536 ≤ 65535 := by
    rw [Int.tmod_eq_emod_of_nonneg ht.1]; omega
  obtain ⟨tt, htt⟩ : ∃ x, x = Int.tmod t 65536 := ⟨_, rfl⟩
  rw [← htt] at hT
  obtain ⟨f1, f2⟩ := fl_back tt.toNat l 0 hB
  have flen := flL_len tt.toNat true l 0
  have fb : bitsOk (flL tt.toNat true 0 l) = true := mk01 f2 (by omega)
  have eF : Ev (fun k => impl_Follow.f k l tt) (flL tt.toNat true 0 l, true) := by
    have := iFollow_ev l tt true hl6; unfold followM at this; rw [if_pos ⟨h, hT⟩] at this
    unfold impl_Follow.f; exact Ev.bind this (Ev.now _)
  have eG : Ev (fun k => impl_UnFollow.f k (flL tt.toNat true 0 l) tt) (l, true) := by
    have := iFollow_ev (flL tt.toNat true 0 l) tt false (by omega); unfold followM at this; rw [if_pos ⟨fb, hT⟩, f1] at this
    unfold impl_UnFollow.f; exact Ev.bind this (Ev.now _)
  obtain ⟨a, ha, eA⟩ := at_ex c 2 (by omega) (by omega) hw
  have eA2 : laws_at.f c 2 = some (a : Int) := eA
  have eR : wrap64 (1 + Int.tmod (a : Int) 64) = ((1 + a % 64 : Nat) : Int) := by
    have : Int.tmod (a : Int) 64 = ((a % 64 : Nat) : Int) := rfl
    rw [this, w64 (by omega) (by omega)]; omega
  have hr : 0 < 1 + a % 64 ∧ 1 + a % 64 ≤ 64 := by omega
  generalize 1 + a % 64 = r at eR hr
  have eW : Ev (fun k => impl_Weave.f k l (r : Int)) (pickAll l (order l.length r), true) := by
    have := iWeave_ev l (r : Int); unfold weaveM at this; rw [if_pos ⟨hlen, by omega, by omega⟩, Int.toNat_natCast] at this; exact this
  have hpl : (pickAll l (order l.length r)).length = l.length := by rw [pickAll, List.length_map, order_len hr.1]
  have eX : Ev (fun k => impl_Unweave.f k (pickAll l (order l.length r)) (r : Int)) (l, true) := by
    have := iUnweave_ev (pickAll l (order l.length r)) (r : Int) (by omega); unfold unweaveM at this
    rw [if_pos ⟨by omega, by omega, by omega⟩, Int.toNat_natCast, wv_back l r hr.1] at this; exact this
  obtain ⟨pb, pu⟩ := pack_back l h
  have eP : Ev (fun k => impl_Pack8.f k l) (pack8L l, true) := by have := iPack8_ev l hl6; unfold pack8M at this; rw [if_pos h] at this; exact this
  have eQ : Ev (fun k => impl_Unpack8.f k (pack8L l) (l.length : Int)) (l, true) := by have := iUnpack8_ev (pack8L l) (l.length : Int) pb; rw [pu] at this; exact this
  have same := sameInts_ev l hl6
  have j2 : Ev (fun k => laws_FnStirred.j2 k l t s (!true)) true := by
    refine Ev.step (fun k => by rw [laws_FnStirred.j2, if_neg (by simp)]) (Ev.bind (iStir_ev l t s hl6) (Ev.bind (sStir_ev l t s hl6) ?_))
    refine Ev.neg (by rw [bne_self_eq_false]; decide) ?_
    by_cases hs : bitsOk l = true ∧ (1 ≤ t ∧ t ≤ 65535) ∧ 1 ≤ s ∧ s ≤ 65535
    · have e1 : stirM l t s = (stL t.toNat s.toNat l, true) := by unfold stirM; rw [if_pos hs]
      obtain ⟨s1, s2⟩ := st_back t.toNat l s.toNat hB
      have slen := stL_len t.toNat l s.toNat
      have sb : bitsOk (stL t.toNat s.toNat l) = true := mk01 s2 (by omega)
      have e2 : stirM (stL t.toNat s.toNat l) t s = (l, true) := by unfold stirM; rw [if_pos ⟨sb, hs.2⟩, s1]
      have e3 := iStir_ev (stL t.toNat s.toNat l) t s (by omega)
      rw [e2] at e3
      rw [e1]
      exact Ev.bind e3 (Ev.pos rfl (Ev.pos rfl (Ev.bind same (Ev.now true))))
    · have e1 : stirM l t s = ([], false) := by unfold stirM; rw [if_neg hs]
      rw [e1]
      exact Ev.bind (iStir_ev [] t s (by simp)) (Ev.neg (by simp) (Ev.now true))
  have j1 : Ev (fun k => laws_FnStirred.j1 k l t s l l l l (!true)) true :=
    Ev.step (fun k => by rw [laws_FnStirred.j1, if_neg (by simp)]) (Ev.bind same (Ev.pos rfl (Ev.bind same (Ev.pos rfl (Ev.bind same (Ev.pos rfl (Ev.bind same j2)))))))
  refine Ev.step (fun k => by rw [laws_FnStirred.j0, ← htt]) ?_
  refine Ev.bind eD (Ev.bind eU (Ev.bind eF (Ev.bind eG (Ev.bind0 eA2 ?_))))
  rw [eR]
  refine Ev.bind eW (Ev.bind0 eA2 ?_)
  rw [eR]
  exact Ev.bind eX (Ev.bind eP (Ev.bind eQ (Ev.pos rfl (Ev.pos rfl (Ev.pos rfl (Ev.pos rfl (Ev.pos rfl (Ev.pos rfl (Ev.pos rfl j1)))))))))
theorem FnStirred : laws_FnStirred.Pure := by
  intro c _ _ hw
  refine Ev.rounds ?_
  unfold laws_FnStirred.f
  refine Ev.bind0 rfl ?_
  by_cases hg : (c.length : Int) > 1048576
  · exact Ev.pos (decide_eq_true hg) (Ev.now true)
  refine Ev.neg (by rw [decide_eq_true_eq]; exact hg) ?_
  have hc : c.length ≤ 1048576 := by omega
  obtain ⟨h, c0, e0⟩ := l1New_ex c hc hw
  obtain ⟨l, i1, h1, hl, c1, e1⟩ := l13DrawAny_ex c 0 h c hc c0
  obtain ⟨t, i2, h2, ht, c2, e2⟩ := l1PickInt_ex c i1 h1 [1, 46080, 33, 65535, 0, 65536, 40960] (by decide) c1
  obtain ⟨s, i3, h3, hs, c3, e3⟩ := l1PickInt_ex c i2 h2 [1, 44257, 65535, 0, 65536, 77] (by decide) c2
  have ht2 : 0 ≤ t ∧ t ≤ 65536 := by
    simp only [List.mem_cons, List.not_mem_nil, or_false] at ht
    omega
  have eD : Ev (fun k => spec_DrawStir.f k c) (l, t, s) := by
    unfold spec_DrawStir.f
    exact Ev.bind e0 (Ev.bind e1 (Ev.bind0 e2 (Ev.bind0 e3 (Ev.now _))))
  refine Ev.bind eD (Ev.bind (sBitsOk_ev l (by omega)) ?_)
  by_cases hb : bitsOk l = true
  · exact Ev.pos hb (Stirred_j0 c l t s hc hw hb ht2)
  · exact Ev.neg hb (Stirred_j0 c [1, 0, 1] t s hc hw (by decide) ht2)

end Go.Proofs.Ytnpoimjdkjhcpaa.Pure
