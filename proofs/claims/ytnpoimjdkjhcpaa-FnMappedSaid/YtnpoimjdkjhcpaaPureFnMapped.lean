/- Drawn bits come back from the points that they are mapped to, whole points with noughts behind; all their levels are odd and within the greatest: for every code; no condition. -/
import Derived.Test.YtnpoimjdkjhcpaaQFnMappedx7
import Derived.Test.YtnpoimjdkjhcpaaCom
import Derived.Test.YtnpoimjdkjhcpaaGry
set_option linter.unusedVariables false
set_option linter.unusedSimpArgs false
namespace Go.Proofs.Ytnpoimjdkjhcpaa.Pure
open Go.RowKit Go.Proofs.Ytnpoimjdkjhcpaa.PFnMapped Go.Proofs.YtnpoimjdkjhcpaaW.PrintWords Go.Proofs.YtnpoimjdkjhcpaaW.PrintLast Go.Proofs.Ytnpoimjdkjhcpaa.Com Go.Proofs.Ytnpoimjdkjhcpaa.Gry

theorem big_eq (l : List Int) : laws_big.f l = some (decide ((l.length : Int) > 1048576)) := rfl
theorem l1New_l0 (l : List Int) (hl : l.length ≤ 1048576) : ∀ (d i : Nat) (h : Int), i + d = l.length → ∃ h', Ev (fun k => spec_l1New.l0 k l h (i : Int)) (l, 0, h') := by
  intro d
  induction d with
  | zero =>
    intro i h hd
    exact ⟨h, Ev.fin (fun k => by rw [spec_l1New.l0, if_neg (by omega)])⟩
  | succ d ih =>
    intro i h hd
    by_cases h4 : i < 4000
    · obtain ⟨h', e⟩ := ih (i + 1) _ (by omega)
      exact ⟨h', Ev.step (fun k => by rw [spec_l1New.l0, if_pos (by omega), if_pos (by omega), if_pos (by omega), wsucc (by omega)]) e⟩
    · exact ⟨h, Ev.fin (fun k => by rw [spec_l1New.l0, if_pos (by omega), if_neg (by omega)])⟩
theorem l1New_ex (l : List Int) (hl : l.length ≤ 1048576) (hw : Bytes l) : ∃ h, CurOk l 0 ∧ Ev (fun k => spec_l1New.f k l) (l, 0, h) := by
  obtain ⟨h, e⟩ := l1New_l0 l hl l.length 0 (wrap64 (71933 + (l.length : Int))) (by omega)
  exact ⟨h, ⟨by omega, by omega, hl, hw⟩, e⟩
theorem l1Byte_ex (s : List Int) (i h : Int) (hc : CurOk s i) : ∃ (x : Nat) (i' h' : Int), x < 256 ∧ CurOk s i' ∧ spec_l1Byte.f s i h = some ((x : Int), i', h') := by
  obtain ⟨h0, h1, h2, h3⟩ := hc
  unfold spec_l1Byte.f
  simp only [and64_255]
  by_cases hi : i < (s.length : Int)
  · rw [if_pos hi, if_pos h0]
    refine ⟨(wrap64 (bits .xor .i64 (wrap64 (wrap64 (h * 6364136223846793005) + 1442695040888963407) / 8589934592) (wrap64 (wrap64 (h * 6364136223846793005) + 1442695040888963407) / 35184372088832) % 256 + wrap64 (rd s i)) % 256).toNat, wrap64 (i + 1), wrap64 (wrap64 (h * 6364136223846793005) + 1442695040888963407), by omega, ⟨?_, ?_, h2, h3⟩, ?_⟩
    · rw [w64 (by omega) (by omega)]; omega
    · rw [w64 (by omega) (by omega)]; omega
    · rw [Int.toNat_of_nonneg (by omega)]
  · rw [if_neg hi]
    refine ⟨(bits .xor .i64 (wrap64 (wrap64 (h * 6364136223846793005) + 1442695040888963407) / 8589934592) (wrap64 (wrap64 (h * 6364136223846793005) + 1442695040888963407) / 35184372088832) % 256).toNat, i, wrap64 (wrap64 (h * 6364136223846793005) + 1442695040888963407), by omega, ⟨h0, h1, h2, h3⟩, ?_⟩
    rw [Int.toNat_of_nonneg (by omega)]
theorem l1Below_ex (s : List Int) (i h n : Int) (hc : CurOk s i) : ∃ (x : Nat) (i' h' : Int), ((x : Int) < n ∨ n ≤ 0 ∧ x = 0) ∧ CurOk s i' ∧ spec_l1Below.f s i h n = some ((x : Int), i', h') := by
  unfold spec_l1Below.f
  by_cases hn : n ≤ 0
  · exact ⟨0, i, h, .inr ⟨hn, rfl⟩, hc, by rw [if_pos hn]; rfl⟩
  rw [if_neg hn]
  obtain ⟨x, i1, h1, hx, c1, e1⟩ := l1Byte_ex s i h hc
  by_cases hn2 : n ≤ 256
  · rw [if_pos hn2, e1, Option.bind_some, if_neg (by omega)]
    have := Int.emod_lt_of_pos (x : Int) (show 0 < n by omega)
    have := Int.emod_nonneg (x : Int) (show n ≠ 0 by omega)
    refine ⟨((x : Int) % n).toNat, i1, h1, .inl (by omega), c1, ?_⟩
    rw [Int.tmod_eq_emod_of_nonneg (by omega), Int.toNat_of_nonneg (by omega)]
  · rw [if_neg hn2]
    obtain ⟨y, i2, h2, hy, c2, e2⟩ := l1Byte_ex s i1 h1 c1
    obtain ⟨z, i3, h3, hz, c3, e3⟩ := l1Byte_ex s i2 h2 c2
    obtain ⟨w, i4, h4, hw, c4, e4⟩ := l1Byte_ex s i3 h3 c3
    simp only [e1, e2, e3, e4, Option.bind_some]
    rw [if_neg (by omega), w64 (n := (x : Int) * 16777216) (by omega) (by omega), w64 (n := (y : Int) * 65536) (by omega) (by omega), w64 (n := (z : Int) * 256) (by omega) (by omega)]
    rw [w64 (n := (x : Int) * 16777216 + (y : Int) * 65536) (by omega) (by omega), w64 (n := (x : Int) * 16777216 + (y : Int) * 65536 + (z : Int) * 256) (by omega) (by omega), w64 (by omega) (by omega)]
    generalize hv : (x : Int) * 16777216 + (y : Int) * 65536 + (z : Int) * 256 + (w : Int) = v
    have hv0 : 0 ≤ v := by omega
    have := Int.emod_lt_of_pos v (show 0 < n by omega)
    have := Int.emod_nonneg v (show n ≠ 0 by omega)
    refine ⟨(v % n).toNat, i4, h4, .inl (by omega), c4, ?_⟩
    rw [Int.tmod_eq_emod_of_nonneg hv0, Int.toNat_of_nonneg (by omega)]
theorem l1PickInt_ex (s : List Int) (i h : Int) (l : List Int) (hl : l.length ≠ 0) (hc : CurOk s i) : ∃ (x : Int) (i' h' : Int), x ∈ l ∧ CurOk s i' ∧ spec_l1PickInt.f s i h l = some (x, i', h') := by
  obtain ⟨x, i1, h1, hx, c1, e1⟩ := l1Below_ex s i h (l.length : Int) hc
  have hlt : x < l.length := by omega
  refine ⟨rd l (x : Int), i1, h1, rd_mem hlt, c1, ?_⟩
  unfold spec_l1PickInt.f
  rw [e1, Option.bind_some, if_pos (by omega), if_pos (by omega)]
theorem l1Once_ex (s : List Int) (i h n : Int) (hc : CurOk s i) : ∃ (b : Bool) (i' h' : Int), CurOk s i' ∧ spec_l1Once.f s i h n = some (b, i', h') := by
  obtain ⟨x, i1, h1, _, c1, e1⟩ := l1Below_ex s i h n hc
  refine ⟨((x : Int) == 0), i1, h1, c1, ?_⟩
  unfold spec_l1Once.f
  rw [e1, Option.bind_some]
theorem l1Size_ex (l : List Int) (hl : l.length ≤ 1048576) (m : Int) (hm : 2 ≤ m) : ∃ t : Nat, 2 ≤ t ∧ (t : Int) ≤ m ∧ spec_l1Size.f l m = some (t : Int) := by
  unfold spec_l1Size.f
  rw [w64 (n := (l.length : Int) / 20) (by omega) (by omega), w64 (by omega) (by omega)]
  by_cases h : 2 + (l.length : Int) / 20 > m
  · exact ⟨m.toNat, by omega, by omega, by rw [if_pos h, Int.toNat_of_nonneg (by omega)]⟩
  · exact ⟨2 + l.length / 20, by omega, by omega, by rw [if_neg h]; congr 1⟩
theorem l13Draw_l0 (s : List Int) : ∀ (n : Nat) (acc : List Int) (i h : Int), acc.length + n ≤ 1048576 → CurOk s i → ∃ r i' h', r.length = acc.length + n ∧ CurOk s i' ∧ Ev (fun k => spec_l13Draw.l0 k acc (n : Int) s i h) (r, i', h') := by
  intro n
  induction n with
  | zero =>
    intro acc i h ha hc
    exact ⟨acc, i, h, rfl, hc, Ev.fin (fun k => by rw [spec_l13Draw.l0, if_neg (by omega)])⟩
  | succ n ih =>
    intro acc i h ha hc
    obtain ⟨x, i1, h1, hx, c1, e1⟩ := l1Below_ex s i h 2 hc
    obtain ⟨r, i2, h2, p1, p3, e⟩ := ih (acc ++ [(x : Int)]) i1 h1 (by simp; omega) c1
    refine ⟨r, i2, h2, by rw [p1]; simp; omega, p3, Ev.step (fun k => ?_) e⟩
    rw [spec_l13Draw.l0, if_pos (by omega), e1, Option.bind_some, if_pos (by omega), w64 (by omega) (by omega), show ((n + 1 : Nat) : Int) - 1 = (n : Int) by omega]
theorem l13Draw_ex (s : List Int) (i h : Int) (m : Nat) (hm : m ≤ 1000) (hc : CurOk s i) : ∃ r i' h', r.length ≤ m ∧ CurOk s i' ∧ Ev (fun k => spec_l13Draw.f k s i h (m : Int)) (r, i', h') := by
  unfold spec_l13Draw.f
  obtain ⟨x, i1, h1, hx, c1, e1⟩ := l1Below_ex s i h ((m + 1 : Nat) : Int) hc
  obtain ⟨r, i2, h2, p1, p3, e⟩ := l13Draw_l0 s x [] i1 h1 (by simp; omega) c1
  refine ⟨r, i2, h2, by rw [p1]; simp; omega, p3, Ev.bind0 (by rw [wsucc (by omega)]; exact e1) e⟩
theorem l13DrawAny_ex (s : List Int) (i h : Int) (l : List Int) (hl : l.length ≤ 1048576) (hc : CurOk s i) : ∃ r i' h', r.length ≤ 1048576 ∧ CurOk s i' ∧ Ev (fun k => spec_l13DrawAny.f k s i h l) (r, i', h') := by
  unfold spec_l13DrawAny.f
  obtain ⟨t, ht0, ht, et⟩ := l1Size_ex l hl 30 (by omega)
  have ew : wrap64 (2 * (t : Int)) = ((2 * t : Nat) : Int) := by rw [w64 (by omega) (by omega)]; omega
  obtain ⟨r, i1, h1, p1, c1, e1⟩ := l13Draw_ex s i h (2 * t) (by omega) hc
  obtain ⟨b, i2, h2, c2, e2⟩ := l1Once_ex s i1 h1 30 c1
  have tail : ∀ (l : List Int) (i h : Int), l.length ≤ 1000001 → CurOk s i → ∃ r i' h', r.length ≤ 1048576 ∧ CurOk s i' ∧ Ev (fun k => spec_l13DrawAny.j0 k l s i h) (r, i', h') := by
    intro l i h hl hc
    obtain ⟨b, i1, h1, c1, e1⟩ := l1Once_ex s i h 80 hc
    cases b with
    | true =>
      obtain ⟨x, i2, h2, hx, c2, e2⟩ := l1Below_ex s i1 h1 2 c1
      have ew : wrap64 (1024 + (x : Int)) = 1024 + (x : Int) := w64 (by omega) (by omega)
      refine ⟨List.replicate (1024 + (x : Int)).toNat 0, i2, h2, by simp; omega, c2, Ev.fin (fun k => ?_)⟩
      rw [spec_l13DrawAny.j0, e1, Option.bind_some, if_pos rfl, e2, Option.bind_some, ew, if_pos (by omega), if_pos (by omega)]
    | false =>
      refine ⟨l, i1, h1, by omega, c1, Ev.fin (fun k => ?_)⟩
      rw [spec_l13DrawAny.j0, e1, Option.bind_some, if_neg (by simp)]
  rw [← ew] at e1
  cases b with
  | true =>
    obtain ⟨x, i3, h3, hx, c3, e3⟩ := l1PickInt_ex s i2 h2 [2, (-1)] (by decide) c2
    obtain ⟨r2, i4, h4, q1, q3, q4⟩ := tail (r ++ [x]) i3 h3 (by simp; omega) c3
    exact ⟨r2, i4, h4, q1, q3, Ev.bind0 et (Ev.bind e1 (Ev.bind0 e2 (Ev.pos rfl (Ev.bind0 e3 (Ev.pos (show r.length < 17592186044416 by omega) q4)))))⟩
  | false =>
    obtain ⟨r2, i4, h4, q1, q3, q4⟩ := tail r i2 h2 (by omega) c2
    exact ⟨r2, i4, h4, q1, q3, Ev.bind0 et (Ev.bind e1 (Ev.bind0 e2 (Ev.neg (by simp) q4)))⟩
theorem l1In_eq (a b c : Int) : spec_l1In.f a b c = some (decide (b ≤ a ∧ a ≤ c)) := by
  unfold spec_l1In.f
  by_cases h : b ≤ a
  · rw [if_pos h]; simp [h]
  · rw [if_neg h]; simp [h]
theorem sBitsOk_l0 (l : List Int) (hl : l.length ≤ 17592186044416) : ∀ (d i : Nat), i + d = l.length → Ev (fun k => spec_BitsOk.l0 k l (i : Int)) ((l.drop i).all isB && decide (l.length ≤ 1024)) := by
  intro d
  induction d with
  | zero =>
    intro i hd
    refine Ev.fin (fun k => ?_)
    rw [spec_BitsOk.l0, if_neg (by omega), List.drop_of_length_le (by omega)]
    simp
    omega
  | succ d ih =>
    intro i hd
    rw [drop_rd (by omega)]
    have e : spec_l1In.f (rd l (i : Int)) 0 1 = some (isB (rd l (i : Int))) := by
      rw [l1In_eq]; congr 1; unfold isB; rw [Bool.eq_iff_iff]; simp; omega
    by_cases hb : isB (rd l (i : Int)) = true
    · refine Ev.cast (Ev.step (fun k => ?_) (ih (i + 1) (by omega))) (by simp [hb])
      rw [spec_BitsOk.l0, if_pos (by omega), if_pos (by omega), e, Option.bind_some, if_pos hb, wsucc (by omega)]
    · refine Ev.fin (fun k => ?_)
      rw [spec_BitsOk.l0, if_pos (by omega), if_pos (by omega), e, Option.bind_some, if_neg hb]
      simp [hb]
theorem sBitsOk_ev (l : List Int) (hl : l.length ≤ 17592186044416) : Ev (fun k => spec_BitsOk.f k l) (bitsOk l) := by
  unfold spec_BitsOk.f
  exact sBitsOk_l0 l hl l.length 0 (by omega)
theorem isBit_eq (x : Int) : impl_isBit.f x = some (isB x) := by
  unfold impl_isBit.f isB
  by_cases h : x = 0
  · rw [if_pos h]; simp [h]
  · rw [if_neg h]; simp [h]
theorem iBitsOk_l0 (l : List Int) (hl : l.length ≤ 17592186044416) : ∀ (d i : Nat), i + d = l.length → Ev (fun k => impl_BitsOk.l0 k l l (l.length : Int) (i : Int)) ((l.drop i).all isB && decide (l.length ≤ 1024)) := by
  intro d
  induction d with
  | zero =>
    intro i hd
    refine Ev.fin (fun k => ?_)
    rw [impl_BitsOk.l0, if_neg (by omega), List.drop_of_length_le (by omega)]
    simp
    omega
  | succ d ih =>
    intro i hd
    rw [drop_rd (by omega)]
    by_cases hb : isB (rd l (i : Int)) = true
    · refine Ev.cast (Ev.step (fun k => ?_) (ih (i + 1) (by omega))) (by simp [hb])
      rw [impl_BitsOk.l0, if_pos (by omega), if_pos (by omega), if_pos (by omega), isBit_eq, Option.bind_some, if_pos hb, wsucc (by omega)]
    · refine Ev.fin (fun k => ?_)
      rw [impl_BitsOk.l0, if_pos (by omega), if_pos (by omega), if_pos (by omega), isBit_eq, Option.bind_some, if_neg hb]
      simp [hb]
theorem iBitsOk_ev (l : List Int) (hl : l.length ≤ 17592186044416) : Ev (fun k => impl_BitsOk.f k l) (bitsOk l) := by
  unfold impl_BitsOk.f
  exact iBitsOk_l0 l hl l.length 0 (by omega)
theorem shr_nat (x y : Nat) (h : y ≤ 64) : shr .i64 (x : Int) (y : Int) = ((x / 2 ^ y : Nat) : Int) := by
  unfold shr
  rw [Int.toNat_natCast, show min y (IntKind.bits .i64) = y from Nat.min_eq_left h]
  exact (Int.natCast_ediv x (2 ^ y)).symm
theorem iunGray_ev (n : Nat) (hn : n < 2 ^ 63) : Ev (fun k => impl_unGray.f k (n : Int)) ((px 64 n : Nat) : Int) := by
  unfold impl_unGray.f
  have step : ∀ m, m < 64 → Ev (fun k => impl_unGray.l0 k ((px (m + m) n : Nat) : Int) ((2 * m : Nat) : Int)) ((px 64 n : Nat) : Int) → Ev (fun k => impl_unGray.l0 k ((px m n : Nat) : Int) (m : Int)) ((px 64 n : Nat) : Int) := by
    intro m hm h
    refine Ev.step (fun k => ?_) h
    have h1 := px_lt 63 m n hn
    have h2 : px m n / 2 ^ m < 9223372036854775808 := Nat.lt_of_le_of_lt (Nat.div_le_self _ _) (by omega)
    have e2 : wrap64 ((m : Int) * 2) = ((2 * m : Nat) : Int) := by rw [w64 (by omega) (by omega)]; omega
    rw [impl_unGray.l0, if_pos (by omega), if_pos (by omega), shr_nat _ _ (by omega), xor64 _ _ (by omega) h2, px_double, e2]
  have h1 : px 1 n = n := by show n ^^^ 0 = n; rw [Nat.xor_zero]
  have := step 1 (by omega) (step 2 (by omega) (step 4 (by omega) (step 8 (by omega) (step 16 (by omega) (step 32 (by omega) (Ev.fin (fun k => by rw [impl_unGray.l0, if_neg (by omega)])))))))
  rw [h1] at this
  exact this
def ugM (a : Int) : Int := if 0 ≤ a ∧ a ≤ 4000000000000000000 then ((px 64 a.toNat : Nat) : Int) else 0
theorem sUnGray_l0 : ∀ (f n acc : Nat), n < 2 ^ f → n < 9223372036854775808 → acc < 9223372036854775808 → Ev (fun k => spec_UnGray.l0 k (n : Int) (acc : Int)) ((acc ^^^ px f n : Nat) : Int) := by
  intro f
  induction f with
  | zero =>
    intro n acc h _ _
    refine Ev.fin (fun k => ?_)
    rw [spec_UnGray.l0, if_neg (by omega)]
    show some (acc : Int) = some ((acc ^^^ 0 : Nat) : Int)
    rw [Nat.xor_zero]
  | succ f ih =>
    intro n acc h hn ha
    by_cases h0 : n = 0
    · refine Ev.fin (fun k => ?_)
      rw [spec_UnGray.l0, if_neg (by omega), h0, px_zero, Nat.xor_zero]
    · have hp : 2 ^ (f + 1) = 2 * 2 ^ f := by rw [Nat.pow_succ]; omega
      have hx : acc ^^^ n < 2 ^ 63 := Nat.xor_lt_two_pow (by omega) (by omega)
      refine Ev.cast (Ev.step (fun k => ?_) (ih (n / 2) (acc ^^^ n) (by omega) (by omega) (by omega))) ?_
      · rw [spec_UnGray.l0, if_pos (by omega), xor64 _ _ ha hn, Int.tdiv_eq_ediv_of_nonneg (by omega), w64 (by omega) (by omega)]
        rfl
      · show ((acc ^^^ n ^^^ px f (n / 2) : Nat) : Int) = ((acc ^^^ (n ^^^ px f (n / 2)) : Nat) : Int)
        rw [Nat.xor_assoc]
theorem sUnGray_ev (a : Int) : Ev (fun k => spec_UnGray.f k a) (ugM a) := by
  unfold spec_UnGray.f ugM
  refine Ev.bind0 (l1In_eq _ _ _) ?_
  by_cases h : 0 ≤ a ∧ a ≤ 4000000000000000000
  · rw [if_pos h]
    refine Ev.pos (decide_eq_true h) ?_
    obtain ⟨n, rfl⟩ : ∃ n : Nat, a = n := ⟨a.toNat, by omega⟩
    refine Ev.cast (sUnGray_l0 64 n 0 (by omega) (by omega) (by omega)) ?_
    rw [Nat.zero_xor, Int.toNat_natCast]
  · rw [if_neg h]
    exact Ev.neg (by simpa using h) (Ev.now 0)
/-- A number read bit by bit, the highest first: d bits from place i on, on top of g. -/
def gvB (l : List Int) : Nat → Nat → Nat → Nat
  | 0, _, g => g
  | d + 1, i, g => gvB l d (i + 1) (2 * g + (rd l (i : Int)).toNat)
theorem gvB_congr {a b : List Int} : ∀ (d i j g : Nat), (∀ t, t < d → rd a ((i + t : Nat) : Int) = rd b ((j + t : Nat) : Int)) → gvB a d i g = gvB b d j g
  | 0, _, _, _, _ => rfl
  | d + 1, i, j, g, h => by
    show gvB a d (i + 1) (2 * g + (rd a (i : Int)).toNat) = gvB b d (j + 1) (2 * g + (rd b (j : Int)).toNat)
    have h0 : rd a (i : Int) = rd b (j : Int) := h 0 (by omega)
    rw [h0]
    refine gvB_congr d (i + 1) (j + 1) _ (fun t ht => ?_)
    have := h (t + 1) (by omega)
    rw [show i + 1 + t = i + (t + 1) by omega, show j + 1 + t = j + (t + 1) by omega]
    exact this
theorem rd_bit {l : List Int} (hb : ∀ x ∈ l, x = 0 ∨ x = 1) (i : Nat) : rd l (i : Int) = 0 ∨ rd l (i : Int) = 1 := by
  by_cases h : i < l.length
  · exact hb _ (rd_mem h)
  · left; unfold rd; rw [Int.toNat_natCast, List.getD_eq_getElem?_getD, List.getElem?_eq_none (by omega)]; rfl
theorem rd_out {l : List Int} {i : Nat} (h : l.length ≤ i) : rd l (i : Int) = 0 := by
  unfold rd; rw [Int.toNat_natCast, List.getD_eq_getElem?_getD, List.getElem?_eq_none h]; rfl
def levB (h g : Nat) : Int := 2 * ((px 64 g : Nat) : Int) - (((2 ^ h : Nat) : Int) - 1)
theorem shl_one {h : Nat} (hh : h ≤ 4) : shl .i64 1 (h : Int) = ((2 ^ h : Nat) : Int) := by
  have t : (List.range 5).all (fun h => decide (shl .i64 1 (h : Int) = ((2 ^ h : Nat) : Int))) = true := by decide +kernel
  exact of_decide_eq_true (List.all_eq_true.mp t h (List.mem_range.mpr (by omega)))
theorem two_le {h : Nat} (hh : h ≤ 4) : 1 ≤ 2 ^ h ∧ 2 ^ h ≤ 16 := ⟨Nat.one_le_two_pow, Nat.pow_le_pow_right (n := 2) (by omega) hh⟩
theorem lev_end {h g : Nat} (hh : h ≤ 4) (hg : g < 2 ^ h) : wrap64 (wrap64 (2 * ((px 64 g : Nat) : Int)) - wrap64 (shl .i64 1 (h : Int) - 1)) = levB h g := by
  have h2 := two_le hh
  have h1 := px_lt 4 64 g (by omega)
  rw [shl_one hh, w64 (n := 2 * ((px 64 g : Nat) : Int)) (by omega) (by omega), w64 (n := ((2 ^ h : Nat) : Int) - 1) (by omega) (by omega), w64 (by omega) (by omega)]; rfl
theorem iLev_loop (l : List Int) (hb : ∀ x ∈ l, x = 0 ∨ x = 1) (hl : l.length ≤ 1024) (h p : Nat) (hh : h ≤ 4) (hp : p ≤ 2000) : ∀ (d i e g : Nat), i + d = p + h → e + d = h → g < 2 ^ e →
    Ev (fun k => impl_Map.v0 k l (h : Int) (p : Int) (g : Int) (i : Int)) (levB h (gvB l d i g)) := by
  have ew : wrap64 ((p : Int) + (h : Int)) = ((p + h : Nat) : Int) := by rw [w64 (by omega) (by omega)]; omega
  intro d
  induction d with
  | zero =>
    intro i e g hd he hg
    have h2 := two_le hh
    obtain rfl : e = h := by omega
    refine Ev.step (fun k => by rw [impl_Map.v0, ew, if_neg (by omega)]) (Ev.bind (iunGray_ev g (by omega)) ?_)
    refine Ev.pos (by omega) ?_
    rw [lev_end hh hg]
    exact Ev.now _
  | succ d ih =>
    intro i e g hd he hg
    have h2 := two_le (h := e) (by omega)
    have hx := rd_bit hb i
    have ep : 2 ^ (e + 1) = 2 * 2 ^ e := by rw [Nat.pow_succ]; omega
    refine Ev.step (fun k => ?_) (ih (i + 1) (e + 1) (2 * g + (rd l (i : Int)).toNat) (by omega) (by omega) (by omega))
    have e2 : wrap64 ((g : Int) * 2) = ((2 * g : Nat) : Int) := by rw [w64 (by omega) (by omega)]; omega
    rw [impl_Map.v0, ew, if_pos (by omega), e2, wsucc (by omega)]
    by_cases hi : i < l.length
    · rw [if_pos (by omega), if_pos (by omega), w64 (by omega) (by omega)]
      congr 1; omega
    · rw [if_neg (by omega), rd_out (by omega)]
      congr 1
theorem iLev_ev (l : List Int) (hb : ∀ x ∈ l, x = 0 ∨ x = 1) (hl : l.length ≤ 1024) (h p : Nat) (hh : h ≤ 4) (hp : p ≤ 2000) : Ev (fun k => impl_Map.v0 k l (h : Int) (p : Int) 0 (p : Int)) (levB h (gvB l h p 0)) :=
  iLev_loop l hb hl h p hh hp h p 0 0 rfl (by omega) (by omega)
theorem sLev_loop (b : List Int) (hb : ∀ x ∈ b, x = 0 ∨ x = 1) (hh : b.length ≤ 4) : ∀ (d i e g : Nat), i + d = b.length → e + d = b.length → g < 2 ^ e →
    Ev (fun k => spec_l13Level.l0 k b (g : Int) (i : Int)) (levB b.length (gvB b d i g)) := by
  intro d
  induction d with
  | zero =>
    intro i e g hd he hg
    have h2 := two_le hh
    obtain rfl : e = b.length := by omega
    have eu : IntKind.u64.wrap (b.length : Int) = (b.length : Int) := u64w (by omega) (by omega)
    have eg : ugM (g : Int) = ((px 64 g : Nat) : Int) := by unfold ugM; rw [if_pos (by omega), Int.toNat_natCast]
    refine Ev.step (fun k => by rw [spec_l13Level.l0, if_neg (by omega)]) (Ev.bind (sUnGray_ev _) ?_)
    rw [eu, eg]
    refine Ev.pos (by omega) ?_
    rw [lev_end hh hg]
    exact Ev.now _
  | succ d ih =>
    intro i e g hd he hg
    have h2 := two_le (h := e) (by omega)
    have hx := rd_bit hb i
    have ep : 2 ^ (e + 1) = 2 * 2 ^ e := by rw [Nat.pow_succ]; omega
    refine Ev.step (fun k => ?_) (ih (i + 1) (e + 1) (2 * g + (rd b (i : Int)).toNat) (by omega) (by omega) (by omega))
    have e2 : wrap64 (2 * (g : Int)) = ((2 * g : Nat) : Int) := by rw [w64 (by omega) (by omega)]; omega
    rw [spec_l13Level.l0, if_pos (by omega), if_pos (by omega), e2, wsucc (by omega), w64 (by omega) (by omega)]
    congr 1; omega
theorem sLev_ev (b : List Int) (hb : ∀ x ∈ b, x = 0 ∨ x = 1) (hh : b.length ≤ 4) : Ev (fun k => spec_l13Level.f k b) (levB b.length (gvB b b.length 0 0)) :=
  sLev_loop b hb hh b.length 0 0 0 (by omega) (by omega) (by omega)
/-- A width and its half. -/
def Wd (w h : Nat) : Prop := (w = 2 ∧ h = 1) ∨ (w = 4 ∧ h = 2) ∨ (w = 6 ∧ h = 3) ∨ (w = 8 ∧ h = 4)
def ptsB (l : List Int) (w h : Nat) : Nat → Nat → List S61
  | 0, _ => []
  | d + 1, j => (⟨levB h (gvB l h (w * j) 0), levB h (gvB l h (w * j + h) 0)⟩ : S61) :: ptsB l w h d (j + 1)
theorem ptsB_len (l : List Int) (w h : Nat) : ∀ d j, (ptsB l w h d j).length = d
  | 0, _ => rfl
  | d + 1, j => by simp [ptsB, ptsB_len l w h d]
def numB (n w : Nat) : Nat := (n + w - 1) / w
theorem numB_ok {w h : Nat} (hw : Wd w h) (n : Nat) (hn : n ≤ 1024) : h ≤ 4 ∧ w ≤ 8 ∧ w = 2 * h ∧ 1 ≤ h ∧ (∀ j, j < numB n w → w * j < n) ∧ n ≤ w * numB n w ∧ w * numB n w ≤ 1032 ∧ numB n w ≤ 1024 ∧ (w * numB n w) % w = 0 ∧ (∀ z, n + z < w * numB n w → (n + z) % w ≠ 0) := by
  unfold numB
  rcases hw with ⟨rfl, rfl⟩ | ⟨rfl, rfl⟩ | ⟨rfl, rfl⟩ | ⟨rfl, rfl⟩
  all_goals refine ⟨by omega, by omega, by omega, by omega, fun j hj => by omega, by omega, by omega, by omega, by omega, fun z hz => by omega⟩
theorem wadd_nat {p q : Nat} (h : p + q ≤ 4000000) : wrap64 ((p : Int) + (q : Int)) = ((p + q : Nat) : Int) := by rw [w64 (by omega) (by omega)]; omega
theorem iMap_loop (l : List Int) (hb : ∀ x ∈ l, x = 0 ∨ x = 1) (hl : l.length ≤ 1024) {w h : Nat} (hw : Wd w h) : ∀ (d j : Nat) (acc : List S61), j + d = numB l.length w → acc.length = j →
    Ev (fun k => impl_Map.l0 k (w : Int) l (h : Int) acc ((w * j : Nat) : Int)) (acc ++ ptsB l w h d j, true) := by
  obtain ⟨h1, h2, h3, h4, hlt, hge, hmx, hnm, hm0, _⟩ := numB_ok hw l.length hl
  clear hm0
  generalize numB l.length w = N at *
  intro d
  induction d with
  | zero =>
    intro j acc hd ha
    obtain rfl : j = N := by omega
    refine Ev.fin (fun k => ?_)
    rw [impl_Map.l0, if_neg (by omega), ptsB, List.append_nil]
  | succ d ih =>
    intro j acc hd ha
    have hj := hlt j (by omega)
    have en : w * (j + 1) = w * j + w := Nat.mul_succ w j
    have hn := ih (j + 1) (acc ++ [(⟨levB h (gvB l h (w * j) 0), levB h (gvB l h (w * j + h) 0)⟩ : S61)]) (by omega) (by simp; omega)
    rw [List.append_assoc, en] at hn
    show Ev _ (acc ++ ((⟨levB h (gvB l h (w * j) 0), levB h (gvB l h (w * j + h) 0)⟩ : S61) :: ptsB l w h d (j + 1)), true)
    clear hge hmx en ih hlt
    generalize w * j = p at *
    have e1 : wrap64 ((p : Int) + (h : Int)) = ((p + h : Nat) : Int) := by rw [w64 (by omega) (by omega)]; omega
    have e2 : wrap64 ((p : Int) + (w : Int)) = ((p + w : Nat) : Int) := by rw [w64 (by omega) (by omega)]; omega
    refine Ev.step (fun k => by rw [impl_Map.l0, if_pos (by omega), e1, e2]) (Ev.bind (iLev_ev l hb hl h p h1 (by omega)) (Ev.bind (iLev_ev l hb hl h (p + h) h1 (by omega)) ?_))
    refine Ev.pos (by omega) ?_
    exact hn
/-- Bits with z noughts behind them. -/
def padB (l : List Int) (z : Nat) : List Int := l ++ List.replicate z 0
theorem pad_len (l : List Int) (z : Nat) : (padB l z).length = l.length + z := by simp [padB]
theorem pad_rd (l : List Int) (z i : Nat) : rd (padB l z) (i : Int) = rd l (i : Int) := by
  by_cases h : i < l.length
  · unfold rd padB; rw [Int.toNat_natCast, List.getD_eq_getElem?_getD, List.getElem?_append_left h, ← List.getD_eq_getElem?_getD]
  · rw [rd_out (l := l) (by omega)]
    unfold rd padB; rw [Int.toNat_natCast, List.getD_eq_getElem?_getD, List.getElem?_append_right (by omega), List.getElem?_replicate]
    split <;> rfl
theorem pad_bits {l : List Int} (hb : ∀ x ∈ l, x = 0 ∨ x = 1) (z : Nat) : ∀ x ∈ padB l z, x = 0 ∨ x = 1 := by
  intro x hx
  rcases List.mem_append.1 hx with hx | hx
  · exact hb x hx
  · left; exact (List.mem_replicate.1 hx).2
theorem cut_lev (l : List Int) (hb : ∀ x ∈ l, x = 0 ∨ x = 1) (z p h : Nat) (hh : h ≤ 4) (hp : p + h ≤ l.length + z) : Ev (fun k => spec_l13Level.f k (((padB l z).take (p + h)).drop p)) (levB h (gvB l h p 0)) := by
  have hlen : (((padB l z).take (p + h)).drop p).length = h := by
    rw [List.length_drop, List.length_take, pad_len]; omega
  have h1 := sLev_ev (((padB l z).take (p + h)).drop p) (fun x hx => pad_bits hb z x (List.mem_of_mem_take (List.mem_of_mem_drop hx))) (by omega)
  rw [hlen] at h1
  rw [gvB_congr (b := l) h 0 p 0 (fun t ht => by
    rw [← pad_rd l z (p + t), Nat.zero_add]
    unfold rd
    rw [Int.toNat_natCast, Int.toNat_natCast, List.getD_eq_getElem?_getD, List.getD_eq_getElem?_getD, List.getElem?_drop, List.getElem?_take_of_lt (by omega)])] at h1
  exact h1
theorem sMap_loop (l : List Int) (hb : ∀ x ∈ l, x = 0 ∨ x = 1) (hl : l.length ≤ 1024) {w h : Nat} (hw : Wd w h) (z : Nat) (hz : l.length + z = w * numB l.length w) : ∀ (d j : Nat) (acc : List S61), j + d = numB l.length w → acc.length = j →
    Ev (fun k => spec_Map.l1 k (w : Int) acc (padB l z) (h : Int) ((w * j : Nat) : Int)) (acc ++ ptsB l w h d j, true) := by
  obtain ⟨h1, h2, h3, h4, hlt, hge, hmx, hnm, hm0, _⟩ := numB_ok hw l.length hl
  have hpl := pad_len l z
  clear hm0
  generalize numB l.length w = N at *
  intro d
  induction d with
  | zero =>
    intro j acc hd ha
    obtain rfl : j = N := by omega
    refine Ev.fin (fun k => ?_)
    rw [spec_Map.l1, hpl, hz, if_neg (by omega), ptsB, List.append_nil]
  | succ d ih =>
    intro j acc hd ha
    have hj := hlt j (by omega)
    have en : w * (j + 1) = w * j + w := Nat.mul_succ w j
    have hup : w * (j + 1) ≤ w * N := Nat.mul_le_mul_left w (by omega)
    have hn := ih (j + 1) (acc ++ [(⟨levB h (gvB l h (w * j) 0), levB h (gvB l h (w * j + h) 0)⟩ : S61)]) (by omega) (by simp; omega)
    rw [List.append_assoc, en] at hn
    rw [en, ← hz] at hup
    show Ev _ (acc ++ ((⟨levB h (gvB l h (w * j) 0), levB h (gvB l h (w * j + h) 0)⟩ : S61) :: ptsB l w h d (j + 1)), true)
    rw [← hz] at hmx
    clear hge en ih hlt hz
    generalize w * j = p at *
    have b1 : p + h ≤ l.length + z := by omega
    have b2 : p + h + h ≤ l.length + z := by omega
    have c1 := cut_lev l hb z p h h1 b1
    have c2 := cut_lev l hb z (p + h) h h1 b2
    have e3 : p + h + h = p + w := by omega
    rw [e3] at c2
    have q1 : (p : Int) < ((padB l z).length : Int) := by rw [hpl]; omega
    have q2 : (0 : Int) ≤ (p : Int) := by omega
    have q3 : (p : Int) ≤ ((p + h : Nat) : Int) := by omega
    have q4 : ((p + h : Nat) : Int) ≤ ((padB l z).length : Int) := by rw [hpl]; omega
    have q5 : (0 : Int) ≤ ((p + h : Nat) : Int) := by omega
    have q6 : ((p + h : Nat) : Int) ≤ ((p + w : Nat) : Int) := by omega
    have q7 : ((p + w : Nat) : Int) ≤ ((padB l z).length : Int) := by rw [hpl]; omega
    have q8 : acc.length < 8796093022208 := by omega
    have e1 : wrap64 ((p : Int) + (h : Int)) = ((p + h : Nat) : Int) := wadd_nat (by omega)
    have e2 : wrap64 ((p : Int) + (w : Int)) = ((p + w : Nat) : Int) := by clear e1; exact wadd_nat (by omega)
    refine Ev.step (fun k => by rw [spec_Map.l1, e1, e2, if_pos q1, if_pos q2, if_pos q3, if_pos q4, Int.toNat_natCast, Int.toNat_natCast, Int.toNat_natCast]) (Ev.bind c1 ?_)
    refine Ev.pos q5 (Ev.pos q6 (Ev.pos q7 (Ev.bind c2 ?_)))
    refine Ev.pos q8 ?_
    exact hn
theorem sMap_pad (l : List Int) (hb : ∀ x ∈ l, x = 0 ∨ x = 1) (hl : l.length ≤ 1024) {w h : Nat} (hw : Wd w h) : ∀ (d z : Nat), l.length + z + d = w * numB l.length w →
    Ev (fun k => spec_Map.l0 k (w : Int) [] (padB l z)) (ptsB l w h (numB l.length w) 0, true) := by
  obtain ⟨h1, h2, h3, h4, hlt, hge, hmx, hnm, hm0, hmz⟩ := numB_ok hw l.length hl
  intro d
  induction d with
  | zero =>
    intro z hd
    have hz : l.length + z = w * numB l.length w := by omega
    have ht := sMap_loop l hb hl hw z hz (numB l.length w) 0 [] (by omega) rfl
    rw [Nat.mul_zero] at ht
    have e0 : (((padB l z).length : Nat) : Int) % (w : Int) = 0 := by
      rw [pad_len, hz]
      have : ((w * numB l.length w % w : Nat) : Int) = 0 := by rw [hm0]; rfl
      exact this
    have e2 : wrap64 (Int.tdiv (w : Int) 2) = (h : Int) := by
      rw [show Int.tdiv (w : Int) 2 = ((w / 2 : Nat) : Int) from rfl, w64 (by omega) (by omega)]; omega
    refine Ev.step (fun k => ?_) ht
    rw [spec_Map.l0, if_neg (by omega), if_pos e0, e2]; rfl
  | succ d ih =>
    intro z hd
    have hn := ih (z + 1) (by omega)
    have e0 : ¬ (((padB l z).length : Nat) : Int) % (w : Int) = 0 := by
      rw [pad_len]
      intro h0
      have : ((l.length + z) % w : Nat) = 0 := by exact_mod_cast h0
      exact hmz z (by omega) this
    have ep : padB l z ++ [(0 : Int)] = padB l (z + 1) := by
      unfold padB; rw [List.append_assoc, List.replicate_succ']
    refine Ev.step (fun k => ?_) hn
    rw [spec_Map.l0, if_neg (by omega), if_neg e0, if_pos (by rw [pad_len]; omega), ep]
def mapM (w : Int) (l : List Int) : List S61 × Bool := if bitsOk l = true ∧ (w = 2 ∨ w = 4 ∨ w = 6 ∨ w = 8) then (ptsB l w.toNat (w.toNat / 2) (numB l.length w.toNat) 0, true) else ([], false)
theorem isWidth_eq (w : Int) : impl_isWidth.f w = some (decide (w = 2 ∨ w = 4 ∨ w = 6 ∨ w = 8)) := by
  unfold impl_isWidth.f
  by_cases h1 : w = 2
  · subst h1; rfl
  · rw [if_neg h1]
    by_cases h2 : w = 4
    · subst h2; rfl
    · rw [if_neg h2]
      by_cases h3 : w = 6
      · subst h3; rfl
      · rw [if_neg h3]
        congr 1
        rw [Bool.eq_iff_iff]; simp; omega
theorem l13Width_eq (w : Int) : spec_l13Width.f w = some (decide (w = 2 ∨ w = 4 ∨ w = 6 ∨ w = 8)) := isWidth_eq w
theorem wd_of {w : Int} (h : w = 2 ∨ w = 4 ∨ w = 6 ∨ w = 8) : ∃ n : Nat, w = (n : Int) ∧ Wd n (n / 2) := by
  unfold Wd
  rcases h with rfl | rfl | rfl | rfl
  · exact ⟨2, rfl, by decide⟩
  · exact ⟨4, rfl, by decide⟩
  · exact ⟨6, rfl, by decide⟩
  · exact ⟨8, rfl, by decide⟩
theorem iMap_ev (w : Int) (l : List Int) (hl : l.length ≤ 1048576) : Ev (fun k => impl_Map.f k w l) (mapM w l) := by
  unfold impl_Map.f mapM
  refine Ev.bind (iBitsOk_ev l (by omega)) ?_
  by_cases hb : bitsOk l = true
  · refine Ev.pos hb (Ev.bind0 (isWidth_eq w) ?_)
    by_cases hw : w = 2 ∨ w = 4 ∨ w = 6 ∨ w = 8
    · rw [if_pos ⟨hb, hw⟩, decide_eq_true hw]
      refine Ev.pos rfl ?_
      obtain ⟨n, rfl, hn⟩ := wd_of hw
      obtain ⟨h1, h2, h3, h4, _⟩ := numB_ok hn l.length (bitsOk_len hb)
      have e2 : wrap64 (Int.tdiv (n : Int) 2) = ((n / 2 : Nat) : Int) := by
        rw [show Int.tdiv (n : Int) 2 = ((n / 2 : Nat) : Int) from rfl, w64 (by omega) (by omega)]
      have h := iMap_loop l (bitsOk_all hb) (bitsOk_len hb) hn (numB l.length n) 0 [] (by omega) rfl
      rw [Nat.mul_zero, List.nil_append] at h
      rw [e2, Int.toNat_natCast]
      exact h
    · rw [if_neg (fun h => hw h.2), decide_eq_false hw]
      exact Ev.neg (by decide) (Ev.now _)
  · rw [if_neg (fun h => hb h.1)]
    exact Ev.neg hb (Ev.now _)
theorem sMap_ev (w : Int) (l : List Int) (hl : l.length ≤ 1048576) : Ev (fun k => spec_Map.f k w l) (mapM w l) := by
  unfold spec_Map.f mapM
  refine Ev.bind0 rfl (Ev.bind (sBitsOk_ev l (by omega)) ?_)
  by_cases hb : bitsOk l = true
  · refine Ev.pos hb (Ev.bind0 (l13Width_eq w) ?_)
    by_cases hw : w = 2 ∨ w = 4 ∨ w = 6 ∨ w = 8
    · rw [if_pos ⟨hb, hw⟩, decide_eq_true hw]
      obtain ⟨n, rfl, hn⟩ := wd_of hw
      have hlen := bitsOk_len hb
      obtain ⟨h1, h2, h3, h4, hlt, hge, _⟩ := numB_ok hn l.length hlen
      have h := sMap_pad l (bitsOk_all hb) hlen hn (n * numB l.length n - l.length) 0 (by omega)
      rw [Int.toNat_natCast]
      refine Ev.step (fun k => ?_) h
      rw [spec_Map.j0, if_neg (by decide), Option.bind_some, if_pos (by rw [List.length_nil]; omega)]
      congr 1
      show [] ++ l = l ++ List.replicate 0 0
      rw [List.replicate_zero, List.append_nil, List.nil_append]
    · rw [if_neg (fun h => hw h.2), decide_eq_false hw]
      exact Ev.fin (fun k => by rw [spec_Map.j0, if_pos (by decide)])
  · rw [if_neg (fun h => hb h.1)]
    exact Ev.neg hb (Ev.fin (fun k => by rw [spec_Map.j0, if_pos rfl]))
theorem mapM_len (w : Int) (l : List Int) : (mapM w l).1.length ≤ 17592186044416 := by
  unfold mapM
  split
  · next h =>
    obtain ⟨n, rfl, hn⟩ := wd_of h.2
    obtain ⟨_, _, _, _, _, _, _, h8, _⟩ := numB_ok hn l.length (bitsOk_len h.1)
    simp only [ptsB_len, Int.toNat_natCast]; omega
  · simp
theorem Map_both (w : Int) (l : List Int) (hl : l.length ≤ 1048576) : ∃ r ok, Ev (fun k => spec_Map.f k w l) (r, ok) ∧ Ev (fun k => impl_Map.f k w l) (r, ok) ∧ r.length ≤ 17592186044416 :=
  ⟨(mapM w l).1, (mapM w l).2, sMap_ev w l hl, iMap_ev w l hl, mapM_len w l⟩
theorem rdPt_lt {xs : List S61} {i : Nat} (h : i < xs.length) : rd_T61 xs (i : Int) = xs[i] := by
  unfold rd_T61; rw [Int.toNat_natCast, List.getD_eq_getElem?_getD, List.getElem?_eq_getElem h]; rfl
theorem takePt_rd {xs : List S61} {i : Nat} (h : i < xs.length) : xs.take (i + 1) = xs.take i ++ [rd_T61 xs (i : Int)] := by
  rw [rdPt_lt h, List.take_succ_eq_append_getElem h]
theorem dropPt_rd {xs : List S61} {i : Nat} (h : i < xs.length) : xs.drop i = rd_T61 xs (i : Int) :: xs.drop (i + 1) := by
  rw [rdPt_lt h, List.drop_eq_getElem_cons h]
theorem down2 (t : Int) (h : -4000000000 ≤ t ∧ t ≤ 4000000000) : impl_down.f t 2 = some (t / 2, t % 2) := by
  have hq : -2000000000 ≤ t / 2 ∧ t / 2 ≤ 2000000000 := by omega
  unfold impl_down.f
  rw [if_neg (by decide)]
  by_cases hc : 0 ≤ t ∨ (2 : Int) ∣ t
  · have em : Int.tmod t 2 = t % 2 := by rw [Int.tmod_eq_emod, if_pos hc]; omega
    have eq : Int.tdiv t 2 = t / 2 := by rw [Int.tdiv_eq_ediv, if_pos hc]; omega
    rw [em, eq, if_neg (by omega), w64 (by omega) (by omega)]
  · have em : Int.tmod t 2 = t % 2 - 2 := by rw [Int.tmod_eq_emod, if_neg hc]; rfl
    have eq : Int.tdiv t 2 = t / 2 + 1 := by rw [Int.tdiv_eq_ediv, if_neg hc]; rfl
    rw [em, eq, if_pos (by omega), w64 (n := t / 2 + 1) (by omega) (by omega), w64 (n := t / 2 + 1 - 1) (by omega) (by omega), w64 (by omega) (by omega)]
    congr 2 <;> omega
theorem half_r (t : Int) (h : -4000000000 ≤ t ∧ t ≤ 4000000000) : (if t % 2 ≥ wrap64 (2 - t % 2) then some (wrap64 (t / 2 + 1)) else some (t / 2)) = some ((t + 1) / 2) := by
  rw [w64 (n := 2 - t % 2) (by omega) (by omega), w64 (n := t / 2 + 1) (by omega) (by omega)]
  split
  · congr 1; omega
  · congr 1; omega
theorem iRound2 (t : Int) (h : -4000000000 ≤ t ∧ t ≤ 4000000000) : Ev (fun k => impl_RoundDiv.f k t 2) ((t + 1) / 2) := by
  unfold impl_RoundDiv.f
  have hb : impl_big18.f t = some true := by
    unfold impl_big18.f
    rw [if_pos (by omega), decide_eq_true (by omega)]
  refine Ev.neg (by decide) (Ev.neg (by decide) (Ev.bind0 hb ?_))
  refine Ev.fin (fun k => ?_)
  rw [impl_RoundDiv.j0, if_neg (by decide), down2 t h, Option.bind_some]
  exact half_r t h
/-- The bits of a number, the highest first. -/
def bitsB (g : Nat) : Nat → List Int
  | 0 => []
  | k + 1 => ((g / 2 ^ k % 2 : Nat) : Int) :: bitsB g k
theorem bitsB_len (g : Nat) : ∀ k, (bitsB g k).length = k
  | 0 => rfl
  | k + 1 => by simp [bitsB, bitsB_len g k]
/-- The place of the level nearest to x. -/
def nearB (h : Nat) (x : Int) : Nat := (if (x + (((2 ^ h : Nat) : Int) - 1) + 1) / 2 < 0 then 0 else if (x + (((2 ^ h : Nat) : Int) - 1) + 1) / 2 > ((2 ^ h : Nat) : Int) - 1 then ((2 ^ h : Nat) : Int) - 1 else (x + (((2 ^ h : Nat) : Int) - 1) + 1) / 2).toNat
def decB (h : Nat) (x : Int) : List Int := bitsB (nearB h x ^^^ nearB h x / 2) h
theorem decB_len (h : Nat) (x : Int) : (decB h x).length = h := bitsB_len _ _
theorem nearB_le {h : Nat} (hh : h ≤ 4) (x : Int) : nearB h x ≤ 15 := by
  have h2 := two_le hh
  unfold nearB
  repeat' split
  all_goals omega
theorem nearB_eq {h : Nat} (hh : h ≤ 4) (x : Int) : ((nearB h x : Nat) : Int) = (if (x + (((2 ^ h : Nat) : Int) - 1) + 1) / 2 < 0 then 0 else if (x + (((2 ^ h : Nat) : Int) - 1) + 1) / 2 > ((2 ^ h : Nat) : Int) - 1 then ((2 ^ h : Nat) : Int) - 1 else (x + (((2 ^ h : Nat) : Int) - 1) + 1) / 2) := by
  have h2 := two_le hh
  unfold nearB
  rw [Int.toNat_of_nonneg]
  repeat' split
  all_goals omega
theorem iGray_eq (u : Nat) (hu : u ≤ 15) : impl_Gray.f (u : Int) = some ((u ^^^ u / 2 : Nat) : Int) := by
  unfold impl_Gray.f
  rw [if_neg (by omega), if_neg (by omega)]
  rw [show (u : Int) / 2 = ((u / 2 : Nat) : Int) from rfl, xor64 _ _ (by omega) (by omega)]
theorem iPut_loop (g : Nat) : ∀ (d : Nat) (l : List Int), d ≤ 4 → l.length + d ≤ 100000000 → Ev (fun k => impl_Decide.v0 k l (g : Int) ((d : Int) - 1)) (l ++ bitsB g d) := by
  intro d
  induction d with
  | zero =>
    intro l _ _
    exact Ev.fin (fun k => by rw [impl_Decide.v0, if_neg (by omega), bitsB, List.append_nil])
  | succ d ih =>
    intro l hd hl
    have hn := ih (l ++ [((g / 2 ^ d % 2 : Nat) : Int)]) (by omega) (by simp; omega)
    rw [List.append_assoc] at hn
    have e0 : ((d + 1 : Nat) : Int) - 1 = (d : Int) := by omega
    have e1 : wrap64 ((d : Int) - 1) = (d : Int) - 1 := w64 (by omega) (by omega)
    refine Ev.step (fun k => ?_) hn
    rw [e0, impl_Decide.v0, if_pos (by omega), if_pos (by omega), e1, shr_nat _ _ (by omega), and64_1]
    rfl
theorem near_put {h : Nat} (hh : h ≤ 4) (x : Int) : impl_nearer.f ((x + (((2 ^ h : Nat) : Int) - 1) + 1) / 2) 0 (((2 ^ h : Nat) : Int) - 1) = some ((nearB h x : Nat) : Int) := by
  have h2 := two_le hh
  rw [nearB_eq hh]
  unfold impl_nearer.f mn mx
  congr 1
  repeat' split
  all_goals omega
theorem iPut_ev {h : Nat} (h1 : 1 ≤ h) (hh : h ≤ 4) (x : Int) (hx : -1000000000 ≤ x ∧ x ≤ 1000000000) (l : List Int) (hl : l.length ≤ 10000000) : Ev (fun k => impl_Decide.put k l (h : Int) x) (l ++ decB h x) := by
  have h2 := two_le hh
  have hu := nearB_le hh x
  unfold impl_Decide.put
  have e1 : wrap64 (wrap64 (x + shl .i64 1 (h : Int)) - 1) = x + (((2 ^ h : Nat) : Int) - 1) := by
    rw [shl_one hh, w64 (n := x + ((2 ^ h : Nat) : Int)) (by omega) (by omega), w64 (by omega) (by omega)]; omega
  have e2 : wrap64 (shl .i64 1 (h : Int) - 1) = ((2 ^ h : Nat) : Int) - 1 := by
    rw [shl_one hh, w64 (by omega) (by omega)]
  have e3 : wrap64 ((h : Int) - 1) = (h : Int) - 1 := w64 (by omega) (by omega)
  have b1 : -4000000000 ≤ x + (((2 ^ h : Nat) : Int) - 1) ∧ x + (((2 ^ h : Nat) : Int) - 1) ≤ 4000000000 := by clear e1 e2 e3; omega
  have q1 : (0 : Int) ≤ (h : Int) := by clear e1 e2 e3; omega
  have q2 : l.length + h ≤ 100000000 := by clear e1 e2 e3; omega
  rw [e1, e2, e3]
  refine Ev.pos q1 (Ev.bind (iRound2 _ b1) (Ev.bind0 (near_put hh x) (Ev.bind0 (iGray_eq _ hu) ?_)))
  exact iPut_loop _ h l hh q2
def smB (x : Int) : Bool := decide (-1000000000 ≤ x ∧ x ≤ 1000000000)
theorem sample_eq (x : Int) : impl_sample.f x = some (smB x) := by
  unfold impl_sample.f smB
  by_cases h : x ≥ -1000000000
  · rw [if_pos h]; simp [h]
  · rw [if_neg h]
    congr 1
    symm
    rw [decide_eq_false_iff_not]
    omega
/-- The bits of points, while they are samples. -/
def goB (h : Nat) : List Int → List S61 → List Int × Bool
  | acc, [] => (acc, true)
  | acc, p :: r => if smB p.f0 = true ∧ smB p.f1 = true then goB h ((acc ++ decB h p.f0) ++ decB h p.f1) r else ([], false)
theorem goB_len (h : Nat) (hh : h ≤ 4) : ∀ (r : List S61) (acc : List Int), (goB h acc r).1.length ≤ acc.length + 8 * r.length
  | [], acc => by simp [goB]
  | p :: r, acc => by
    rw [goB]
    split
    · have := goB_len h hh r ((acc ++ decB h p.f0) ++ decB h p.f1)
      simp only [List.length_append, decB_len, List.length_cons] at *
      omega
    · simp
theorem iDec_loop (x : List S61) (hx : x.length ≤ 1024) {h : Nat} (h1 : 1 ≤ h) (hh : h ≤ 4) : ∀ (d i : Nat) (acc : List Int), i + d = x.length → acc.length ≤ 8 * i → Ev (fun k => impl_Decide.l0 k x (h : Int) acc (i : Int)) (goB h acc (x.drop i)) := by
  intro d
  induction d with
  | zero =>
    intro i acc hd ha
    exact Ev.fin (fun k => by rw [impl_Decide.l0, if_neg (by omega), List.drop_of_length_le (by omega), goB])
  | succ d ih =>
    intro i acc hd ha
    rw [dropPt_rd (i := i) (by omega), goB]
    refine Ev.step (fun k => by rw [impl_Decide.l0, if_pos (by omega), if_pos (by omega), sample_eq, Option.bind_some, sample_eq, Option.bind_some, wsucc (by omega)]) ?_
    by_cases c1 : smB (rd_T61 x (i : Int)).f0 = true
    · refine Ev.pos c1 ?_
      by_cases c2 : smB (rd_T61 x (i : Int)).f1 = true
      · refine Ev.pos c2 ?_
        rw [if_pos ⟨c1, c2⟩]
        have l0 := decB_len h (rd_T61 x (i : Int)).f0
        have l1 := decB_len h (rd_T61 x (i : Int)).f1
        refine Ev.bind (iPut_ev h1 hh _ (of_decide_eq_true c1) acc (by omega)) (Ev.bind (iPut_ev h1 hh _ (of_decide_eq_true c2) _ (by rw [List.length_append]; omega)) ?_)
        exact ih (i + 1) _ (by omega) (by rw [List.length_append, List.length_append]; omega)
      · rw [if_neg (fun e => c2 e.2)]
        exact Ev.neg c2 (Ev.now _)
    · rw [if_neg (fun e => c1 e.1)]
      exact Ev.neg c1 (Ev.now _)
def decM (w : Int) (x : List S61) : List Int × Bool := if (w = 2 ∨ w = 4 ∨ w = 6 ∨ w = 8) ∧ (x.length : Int) * w ≤ 1024 then goB (w.toNat / 2) [] x else ([], false)
theorem wd_half {w : Int} (h : w = 2 ∨ w = 4 ∨ w = 6 ∨ w = 8) : 2 ≤ w ∧ w ≤ 8 ∧ 1 ≤ w.toNat / 2 ∧ w.toNat / 2 ≤ 4 ∧ wrap64 (Int.tdiv w 2) = ((w.toNat / 2 : Nat) : Int) := by
  rcases h with rfl | rfl | rfl | rfl <;> decide +kernel
theorem len_mul {w : Int} (x : List S61) (hx : x.length ≤ 1048576) (h : 2 ≤ w ∧ w ≤ 8) : wrap64 ((x.length : Int) * w) = (x.length : Int) * w ∧ ((x.length : Int) * w ≤ 1024 → x.length ≤ 1024) := by
  have a1 : (0 : Int) ≤ (x.length : Int) * w := Int.mul_nonneg (by omega) (by omega)
  have a2 : (x.length : Int) * w ≤ (x.length : Int) * 8 := Int.mul_le_mul_of_nonneg_left h.2 (by omega)
  have a3 : (x.length : Int) * 2 ≤ (x.length : Int) * w := Int.mul_le_mul_of_nonneg_left h.1 (by omega)
  generalize (x.length : Int) * w = m at *
  exact ⟨w64 (by omega) (by omega), fun e => by omega⟩
theorem iDecide_ev (w : Int) (x : List S61) (hx : x.length ≤ 1048576) : Ev (fun k => impl_Decide.f k w x) (decM w x) := by
  unfold impl_Decide.f decM
  refine Ev.bind0 (isWidth_eq w) ?_
  by_cases hw : w = 2 ∨ w = 4 ∨ w = 6 ∨ w = 8
  · obtain ⟨w1, w2, w3, w4, w5⟩ := wd_half hw
    obtain ⟨m1, m2⟩ := len_mul x hx ⟨w1, w2⟩
    rw [decide_eq_true hw, m1, w5]
    refine Ev.pos rfl ?_
    by_cases hm : (x.length : Int) * w > 1024
    · rw [if_neg (fun e => by omega)]
      exact Ev.pos hm (Ev.now _)
    · rw [if_pos ⟨hw, Int.not_lt.mp hm⟩]
      refine Ev.neg hm ?_
      exact iDec_loop x (m2 (Int.not_lt.mp hm)) w3 w4 x.length 0 [] (Nat.zero_add _) (Nat.zero_le _)
  · rw [if_neg (fun e => hw e.1), decide_eq_false hw]
    exact Ev.neg (by decide) (Ev.now _)
theorem decM_len (w : Int) (x : List S61) (hx : x.length ≤ 1048576) : (decM w x).1.length ≤ 17592186044416 := by
  unfold decM
  split
  · next h =>
    have := goB_len (w.toNat / 2) (wd_half h.1).2.2.2.1 x []
    rw [List.length_nil] at this
    omega
  · simp

theorem gvB_div (l : List Int) (hb : ∀ x ∈ l, x = 0 ∨ x = 1) : ∀ (d i g : Nat), gvB l d i g / 2 ^ d = g
  | 0, _, g => by simp [gvB]
  | d + 1, i, g => by
    have hx := rd_bit hb i
    have h := gvB_div l hb d (i + 1) (2 * g + (rd l (i : Int)).toNat)
    show gvB l d (i + 1) (2 * g + (rd l (i : Int)).toNat) / 2 ^ (d + 1) = g
    rw [Nat.pow_succ, ← Nat.div_div_eq_div_mul, h]
    omega
theorem gvB_lt (l : List Int) (hb : ∀ x ∈ l, x = 0 ∨ x = 1) (d i : Nat) : gvB l d i 0 < 2 ^ d := by
  have h := gvB_div l hb d i 0
  exact (Nat.div_eq_zero_iff_lt (Nat.pow_pos (by decide))).1 h
/-- Bits from a place on; noughts behind them. -/
def segB (l : List Int) : Nat → Nat → List Int
  | _, 0 => []
  | p, n + 1 => rd l (p : Int) :: segB l (p + 1) n
theorem segB_len (l : List Int) : ∀ (n p : Nat), (segB l p n).length = n
  | 0, _ => rfl
  | n + 1, p => by simp [segB, segB_len l n]
theorem segB_app (l : List Int) : ∀ (a p b : Nat), segB l p (a + b) = segB l p a ++ segB l (p + a) b
  | 0, p, b => by rw [Nat.zero_add]; rfl
  | a + 1, p, b => by
    rw [show a + 1 + b = (a + b) + 1 by omega, segB, segB, segB_app l a (p + 1) b, show p + 1 + a = p + (a + 1) by omega]; rfl
theorem segB_rd (l : List Int) : ∀ (n p i : Nat), i < n → rd (segB l p n) (i : Int) = rd l ((p + i : Nat) : Int)
  | n + 1, p, 0, _ => rfl
  | n + 1, p, i + 1, h => by
    have := segB_rd l n (p + 1) i (by omega)
    rw [show p + 1 + i = p + (i + 1) by omega] at this
    rw [← this]; rfl
theorem bits_gv (l : List Int) (hb : ∀ x ∈ l, x = 0 ∨ x = 1) : ∀ (d i g : Nat), bitsB (gvB l d i g) d = segB l i d
  | 0, _, _ => rfl
  | d + 1, i, g => by
    have hx := rd_bit hb i
    show ((gvB l d (i + 1) (2 * g + (rd l (i : Int)).toNat) / 2 ^ d % 2 : Nat) : Int) :: bitsB (gvB l d (i + 1) (2 * g + (rd l (i : Int)).toNat)) d = rd l (i : Int) :: segB l (i + 1) d
    rw [gvB_div l hb, bits_gv l hb d]
    congr 1
    omega
def levT : Bool := (List.range 5).all fun h => (List.range 16).all fun g => decide (1 ≤ h → g < 2 ^ h → decB h (levB h g) = bitsB g h ∧ smB (levB h g) = true ∧ levB h g ≤ ((2 ^ h : Nat) : Int) - 1 ∧ -(((2 ^ h : Nat) : Int) - 1) ≤ levB h g ∧ Int.tmod (levB h g) 2 ≠ 0)
theorem lev_tab : levT = true := by decide +kernel
theorem lev_all {h g : Nat} (h1 : 1 ≤ h) (hh : h ≤ 4) (hg : g < 2 ^ h) : decB h (levB h g) = bitsB g h ∧ smB (levB h g) = true ∧ levB h g ≤ ((2 ^ h : Nat) : Int) - 1 ∧ -(((2 ^ h : Nat) : Int) - 1) ≤ levB h g ∧ Int.tmod (levB h g) 2 ≠ 0 := by
  have h2 := two_le hh
  have t := List.all_eq_true.mp (List.all_eq_true.mp lev_tab h (List.mem_range.mpr (by omega))) g (List.mem_range.mpr (by omega))
  exact of_decide_eq_true t h1 hg
theorem go_pts (l : List Int) (hb : ∀ x ∈ l, x = 0 ∨ x = 1) {w h : Nat} (h1 : 1 ≤ h) (hh : h ≤ 4) (hw : w = 2 * h) : ∀ (d j : Nat) (acc : List Int), goB h acc (ptsB l w h d j) = (acc ++ segB l (w * j) (w * d), true)
  | 0, j, acc => by rw [ptsB, goB, Nat.mul_zero, segB, List.append_nil]
  | d + 1, j, acc => by
    obtain ⟨a1, a2, -⟩ := lev_all h1 hh (gvB_lt l hb h (w * j))
    obtain ⟨b1, b2, -⟩ := lev_all h1 hh (gvB_lt l hb h (w * j + h))
    have e1 : w * (d + 1) = h + (h + w * d) := by rw [Nat.mul_succ]; omega
    have e2 : w * (j + 1) = w * j + h + h := by rw [Nat.mul_succ]; omega
    rw [ptsB, goB, if_pos ⟨a2, b2⟩, a1, b1, bits_gv l hb, bits_gv l hb, go_pts l hb h1 hh hw d (j + 1), e1, segB_app, segB_app, e2, List.append_assoc, List.append_assoc]
theorem pts_at (l : List Int) (w h : Nat) : ∀ (d j i : Nat), i < d → rd_T61 (ptsB l w h d j) (i : Int) = ⟨levB h (gvB l h (w * (j + i)) 0), levB h (gvB l h (w * (j + i) + h) 0)⟩
  | d + 1, j, 0, _ => rfl
  | d + 1, j, i + 1, hi => by
    have := pts_at l w h d (j + 1) i (by omega)
    rw [show j + 1 + i = j + (i + 1) by omega] at this
    rw [← this]; rfl
theorem abs_in {x t : Int} (h0 : -t ≤ x) (h1 : x ≤ t) (ht : t ≤ 1000) : ∃ r, laws_abs.f x = some r ∧ ¬ r > t := by
  unfold laws_abs.f
  by_cases h : x < 0
  · rw [if_pos h, w64 (by omega) (by omega)]; exact ⟨_, rfl, by omega⟩
  · rw [if_neg h]; exact ⟨_, rfl, by omega⟩
theorem Mapped_l1 (l : List Int) (hb : ∀ x ∈ l, x = 0 ∨ x = 1) {w h n : Nat} (h1 : 1 ≤ h) (hh : h ≤ 4) (hn : n ≤ 1024) : ∀ (d i : Nat), i + d = n → Ev (fun k => laws_FnMapped.l1 k (ptsB l w h n 0) (((2 ^ h : Nat) : Int) - 1) (i : Int)) true := by
  have hl := ptsB_len l w h n 0
  have h2 := two_le hh
  intro d
  induction d with
  | zero =>
    intro i hd
    exact Ev.fin (fun k => by rw [laws_FnMapped.l1, hl, if_neg (by omega)])
  | succ d ih =>
    intro i hd
    have ep := pts_at l w h n 0 i (by omega)
    rw [Nat.zero_add] at ep
    obtain ⟨-, -, a3, a4, a5⟩ := lev_all h1 hh (gvB_lt l hb h (w * i))
    obtain ⟨-, -, b3, b4, b5⟩ := lev_all h1 hh (gvB_lt l hb h (w * i + h))
    obtain ⟨r1, f1, g1⟩ := abs_in a4 a3 (by omega)
    obtain ⟨r2, f2, g2⟩ := abs_in b4 b3 (by omega)
    have q1 : (i : Int) < (n : Int) := by omega
    have q2 : (0 : Int) ≤ (i : Int) := by omega
    have q3 : i < 4611686018427387904 := by omega
    refine Ev.step (fun k => ?_) (ih (i + 1) (by omega))
    rw [laws_FnMapped.l1, hl, if_pos q1, if_pos q2, ep]
    show ((laws_abs.f (levB h (gvB l h (w * i) 0))).bind _) = _
    rw [f1, Option.bind_some, if_neg g1, f2, Option.bind_some, if_neg g2, if_neg a5, if_neg b5, wsucc q3]
theorem Mapped_l0 (l : List Int) (hl : l.length ≤ 1024) (x3 : Int) (x5 : List S61) (m : Nat) (hm : m ≤ 4000) (h : Nat) (hh : h ≤ 4) (e3 : wrap64 (Int.tdiv x3 2) = (h : Int)) (hE : Ev (fun k => laws_FnMapped.l1 k x5 (((2 ^ h : Nat) : Int) - 1) ((0 : Nat) : Int)) true) : ∀ (d i : Nat), i + d = m → Ev (fun k => laws_FnMapped.l0 k x3 l x5 (segB l 0 m) (i : Int)) true := by
  have hs := segB_len l m 0
  have h2 := two_le hh
  have e4 : IntKind.u64.wrap (h : Int) = (h : Int) := u64w (by clear e3; omega) (by clear e3; omega)
  have e5 : wrap64 (shl .i64 1 (h : Int) - 1) = ((2 ^ h : Nat) : Int) - 1 := by
    rw [shl_one hh, w64 (by clear e3 e4; omega) (by clear e3 e4; omega)]
  have q0 : (0 : Int) ≤ (h : Int) := by clear e3 e4 e5; omega
  intro d
  induction d with
  | zero =>
    intro i hd
    have q1 : ¬ (i : Int) < (m : Int) := by clear e3 e4 e5; omega
    refine Ev.step (fun k => ?_) hE
    rw [laws_FnMapped.l0, hs, if_neg q1, e3, e4, if_pos q0, e5]; rfl
  | succ d ih =>
    intro i hd
    have er := segB_rd l m 0 i (by clear e3 e4 e5; omega)
    rw [Nat.zero_add] at er
    have q1 : (i : Int) < (m : Int) := by clear e3 e4 e5; omega
    have q2 : (0 : Int) ≤ (i : Int) := by clear e3 e4 e5; omega
    have q3 : i < 4611686018427387904 := by clear e3 e4 e5; omega
    refine Ev.step (fun k => ?_) (ih (i + 1) (by clear e3 e4 e5; omega))
    rw [laws_FnMapped.l0, hs, if_pos q1, er]
    by_cases c : (i : Int) < (l.length : Int)
    · have c2 : ¬ (i : Int) ≥ (l.length : Int) := by clear e3 e4 e5; omega
      rw [if_pos c, if_pos q2, if_pos rfl, if_neg c2, wsucc q3]
    · have c2 : (i : Int) ≥ (l.length : Int) := by clear e3 e4 e5; omega
      have c3 : rd l (i : Int) = 0 := rd_out (by clear e3 e4 e5; omega)
      rw [if_neg c, if_pos c2, if_pos q2, c3, if_pos rfl, wsucc q3]
theorem simple_map {x3 : Int} {x4 : List Int} {x5 : List S61} : Ev (fun k => laws_FnMapped.j0 k x3 x4 x5 true) true := by
  have hs := iMap_ev 2 [0, 1] (by decide)
  have e : mapM 2 [0, 1] = ([⟨-1, 1⟩], true) := by kernel_rfl
  rw [e] at hs
  refine Ev.step (fun k => by rw [laws_FnMapped.j0, if_pos rfl]) (Ev.bind hs ?_)
  exact Ev.pos rfl (Ev.pos rfl (Ev.pos (by decide) (Ev.now true)))
theorem FnMapped : laws_FnMapped.Pure := by
  intro c _ _ hw
  refine Ev.rounds ?_
  unfold laws_FnMapped.f
  refine Ev.bind0 rfl ?_
  by_cases hg : (c.length : Int) > 1048576
  · exact Ev.pos (decide_eq_true hg) (Ev.now true)
  refine Ev.neg (by rw [decide_eq_true_eq]; exact hg) ?_
  have hc : c.length ≤ 1048576 := by omega
  obtain ⟨h, c0, e0⟩ := l1New_ex c hc hw
  obtain ⟨w, i2, h2, ht, c2, e2⟩ := l1PickInt_ex c 0 h [2, 4, 6, 8, 2, 4, 3, 0, 10] (by decide) c0
  obtain ⟨l, i1, h1, hl, c1, e1⟩ := l13DrawAny_ex c i2 h2 c hc c2
  have eD : Ev (fun k => spec_DrawMap.f k c) (w, l) := by
    unfold spec_DrawMap.f
    exact Ev.bind e0 (Ev.bind0 e2 (Ev.bind e1 (Ev.now _)))
  refine Ev.bind eD (Ev.bind (iMap_ev w l hl) (Ev.bind (sMap_ev w l hl) ?_))
  refine Ev.neg (by simp) ?_
  by_cases hd : bitsOk l = true ∧ (w = 2 ∨ w = 4 ∨ w = 6 ∨ w = 8)
  · have eM : mapM w l = (ptsB l w.toNat (w.toNat / 2) (numB l.length w.toNat) 0, true) := if_pos hd
    rw [eM]
    refine Ev.pos rfl ?_
    show Ev (fun k => laws_FnMapped.j0 k w l (ptsB l w.toNat (w.toNat / 2) (numB l.length w.toNat) 0) (decide (wrap64 (((ptsB l w.toNat (w.toNat / 2) (numB l.length w.toNat) 0).length : Int) * w) > 1024))) true
    rw [ptsB_len]
    obtain ⟨n, en, hn⟩ := wd_of hd.2
    obtain ⟨w1, w2, w3, w4, w5⟩ := wd_half hd.2
    have hb := bitsOk_all hd.1
    have hlen := bitsOk_len hd.1
    subst en
    rw [Int.toNat_natCast] at *
    obtain ⟨-, k2, k3, -, -, k6, k7, k8, -, k10⟩ := numB_ok hn l.length hlen
    have hlt : n * numB l.length n < l.length + n := by
      have e9 : n * numB l.length n = numB l.length n * n := Nat.mul_comm _ _
      have e8 : numB l.length n * n ≤ l.length + n - 1 := Nat.div_mul_le_self _ _
      have e7 : 1 ≤ n := by clear w5; omega
      clear w5 k7 k8 k6 k10
      rw [e9]
      generalize numB l.length n * n = z at *
      omega
    clear k10
    generalize eN : numB l.length n = N at *
    have eMul : ((N : Nat) : Int) * ((n : Nat) : Int) = ((n * N : Nat) : Int) := by rw [Nat.mul_comm, Int.natCast_mul]
    have eW : wrap64 (((N : Nat) : Int) * ((n : Nat) : Int)) = ((n * N : Nat) : Int) := by
      rw [eMul, w64 (by clear eMul w5; omega) (by clear eMul w5; omega)]
    rw [eW]
    by_cases hm : ((n * N : Nat) : Int) > 1024
    · rw [decide_eq_true hm]
      exact simple_map
    · rw [decide_eq_false hm]
      have hgo := go_pts l hb w3 w4 k3 N 0 []
      rw [Nat.mul_zero, List.nil_append] at hgo
      have v4 : N ≤ 1048576 := by clear eW eMul w5 hgo; omega
      have v5 : n * N ≤ 4000 := by clear eW eMul w5 hgo; omega
      have v6 : ((n * N : Nat) : Int) ≤ 1024 := by clear eW eMul w5 hgo; omega
      have hdec := iDecide_ev (n : Int) (ptsB l n (n / 2) N 0) (by rw [ptsB_len]; exact v4)
      have eDm : decM (n : Int) (ptsB l n (n / 2) N 0) = (segB l 0 (n * N), true) := by
        unfold decM
        rw [if_pos ⟨hd.2, by rw [ptsB_len, eMul]; exact v6⟩, Int.toNat_natCast, hgo]
      rw [eDm] at hdec
      have hE := Mapped_l1 l hb (w := n) (h := n / 2) (n := N) w3 w4 k8 N 0 (Nat.zero_add _)
      have hF := Mapped_l0 l hlen (n : Int) (ptsB l n (n / 2) N 0) (n * N) v5 (n / 2) w4 w5 hE (n * N) 0 (Nat.zero_add _)
      have s1 := segB_len l (n * N) 0
      refine Ev.step (fun k => by rw [laws_FnMapped.j0, if_neg (by decide)]) (Ev.bind hdec (Ev.pos rfl ?_))
      show Ev (fun k => if ((segB l 0 (n * N)).length : Int) < (l.length : Int) then _ else _) true
      rw [s1]
      have v1 : ¬ ((n * N : Nat) : Int) < (l.length : Int) := by clear eW eMul w5 hE hF hdec eDm hgo; omega
      have v2 : l.length + n ≤ 4000000 := by clear eW eMul w5 hE hF hdec eDm hgo; omega
      have v3 : ¬ ((n * N : Nat) : Int) ≥ ((l.length + n : Nat) : Int) := by clear eW eMul w5 hE hF hdec eDm hgo; omega
      refine Ev.neg v1 ?_
      have e11 : wrap64 ((l.length : Int) + (n : Int)) = ((l.length + n : Nat) : Int) := wadd_nat v2
      rw [e11, decide_eq_false v3]
      exact Ev.step (fun k => by rw [laws_FnMapped.j1, if_neg (by decide)]; rfl) hF
  · have eM : mapM w l = ([], false) := if_neg hd
    rw [eM]
    exact Ev.neg (by decide) simple_map

end Go.Proofs.Ytnpoimjdkjhcpaa.Pure
