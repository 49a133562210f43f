/- A drawn number comes back from its Gray number, and that of the next number differs in one bit: for every code. -/
import Derived.Test.YtkdpnjobokijdaaQFnGrayx2
import Derived.Test.YtkdpnjobokijdaaCom
import Derived.Test.YtkdpnjobokijdaaGry
set_option linter.unusedVariables false
set_option linter.unusedSimpArgs false
namespace Go.Proofs.Ytkdpnjobokijdaa.Pure
open Go.RowKit Go.Proofs.Ytkdpnjobokijdaa.PFnGray Go.Proofs.YtkdpnjobokijdaaW.PrintWords Go.Proofs.YtkdpnjobokijdaaW.PrintLast Go.Proofs.Ytkdpnjobokijdaa.Com Go.Proofs.Ytkdpnjobokijdaa.Gry

theorem big_eq (l : List Int) : laws_big.f l = some (decide ((l.length : Int) > 1048576)) := rfl

theorem l1New_l0 (l : List Int) (hl : l.length ≤ 1048576) : ∀ (d i : Nat) (h : Int), i + d = l.length → ∃ h', Ev (fun k => spec_l1New.l0 k l h (i : Int)) (l, 0, h') := by
  intro d
  induction d with
  | zero =>
    intro i h hd
    exact ⟨h, Ev.fin (fun k => by rw [spec_l1New.l0, if_neg (by omega)])⟩
  | succ d ih =>
    intro i h hd
    by_cases h4 : i < 4000
    · obtain ⟨h', e⟩ := ih (i + 1) _ (by omega)
      exact ⟨h', Ev.step (fun k => by rw [spec_l1New.l0, if_pos (by omega), if_pos (by omega), if_pos (by omega), wsucc (by omega)]) e⟩
    · exact ⟨h, Ev.fin (fun k => by rw [spec_l1New.l0, if_pos (by omega), if_neg (by omega)])⟩
theorem l1New_ex (l : List Int) (hl : l.length ≤ 1048576) (hw : Bytes l) : ∃ h, CurOk l 0 ∧ Ev (fun k => spec_l1New.f k l) (l, 0, h) := by
  obtain ⟨h, e⟩ := l1New_l0 l hl l.length 0 (wrap64 (71933 + (l.length : Int))) (by omega)
  exact ⟨h, ⟨by omega, by omega, hl, hw⟩, e⟩

theorem l1Byte_ex (s : List Int) (i h : Int) (hc : CurOk s i) : ∃ (x : Nat) (i' h' : Int), x < 256 ∧ CurOk s i' ∧ spec_l1Byte.f s i h = some ((x : Int), i', h') := by
  obtain ⟨h0, h1, h2, h3⟩ := hc
  unfold spec_l1Byte.f
  simp only [and64_255]
  by_cases hi : i < (s.length : Int)
  · rw [if_pos hi, if_pos h0]
    refine ⟨(wrap64 (bits .xor .i64 (wrap64 (wrap64 (h * 6364136223846793005) + 1442695040888963407) / 8589934592) (wrap64 (wrap64 (h * 6364136223846793005) + 1442695040888963407) / 35184372088832) % 256 + wrap64 (rd s i)) % 256).toNat, wrap64 (i + 1), wrap64 (wrap64 (h * 6364136223846793005) + 1442695040888963407), by omega, ⟨?_, ?_, h2, h3⟩, ?_⟩
    · rw [w64 (by omega) (by omega)]; omega
    · rw [w64 (by omega) (by omega)]; omega
    · rw [Int.toNat_of_nonneg (by omega)]
  · rw [if_neg hi]
    refine ⟨(bits .xor .i64 (wrap64 (wrap64 (h * 6364136223846793005) + 1442695040888963407) / 8589934592) (wrap64 (wrap64 (h * 6364136223846793005) + 1442695040888963407) / 35184372088832) % 256).toNat, i, wrap64 (wrap64 (h * 6364136223846793005) + 1442695040888963407), by omega, ⟨h0, h1, h2, h3⟩, ?_⟩
    rw [Int.toNat_of_nonneg (by omega)]

theorem l1Below_ex (s : List Int) (i h n : Int) (hc : CurOk s i) : ∃ (x : Nat) (i' h' : Int), ((x : Int) < n ∨ n ≤ 0 ∧ x = 0) ∧ CurOk s i' ∧ spec_l1Below.f s i h n = some ((x : Int), i', h') := by
  unfold spec_l1Below.f
  by_cases hn : n ≤ 0
  · exact ⟨0, i, h, .inr ⟨hn, rfl⟩, hc, by rw [if_pos hn]; rfl⟩
  rw [if_neg hn]
  obtain ⟨x, i1, h1, hx, c1, e1⟩ := l1Byte_ex s i h hc
  by_cases hn2 : n ≤ 256
  · rw [if_pos hn2, e1, Option.bind_some, if_neg (by omega)]
    have := Int.emod_lt_of_pos (x : Int) (show 0 < n by omega)
    have := Int.emod_nonneg (x : Int) (show n ≠ 0 by omega)
    refine ⟨((x : Int) % n).toNat, i1, h1, .inl (by omega), c1, ?_⟩
    rw [Int.tmod_eq_emod_of_nonneg (by omega), Int.toNat_of_nonneg (by omega)]
  · rw [if_neg hn2]
    obtain ⟨y, i2, h2, hy, c2, e2⟩ := l1Byte_ex s i1 h1 c1
    obtain ⟨z, i3, h3, hz, c3, e3⟩ := l1Byte_ex s i2 h2 c2
    obtain ⟨w, i4, h4, hw, c4, e4⟩ := l1Byte_ex s i3 h3 c3
    simp only [e1, e2, e3, e4, Option.bind_some]
    rw [if_neg (by omega), w64 (n := (x : Int) * 16777216) (by omega) (by omega), w64 (n := (y : Int) * 65536) (by omega) (by omega), w64 (n := (z : Int) * 256) (by omega) (by omega)]
    rw [w64 (n := (x : Int) * 16777216 + (y : Int) * 65536) (by omega) (by omega), w64 (n := (x : Int) * 16777216 + (y : Int) * 65536 + (z : Int) * 256) (by omega) (by omega), w64 (by omega) (by omega)]
    generalize hv : (x : Int) * 16777216 + (y : Int) * 65536 + (z : Int) * 256 + (w : Int) = v
    have hv0 : 0 ≤ v := by omega
    have := Int.emod_lt_of_pos v (show 0 < n by omega)
    have := Int.emod_nonneg v (show n ≠ 0 by omega)
    refine ⟨(v % n).toNat, i4, h4, .inl (by omega), c4, ?_⟩
    rw [Int.tmod_eq_emod_of_nonneg hv0, Int.toNat_of_nonneg (by omega)]

theorem l1Once_ex (s : List Int) (i h n : Int) (hc : CurOk s i) : ∃ (b : Bool) (i' h' : Int), CurOk s i' ∧ spec_l1Once.f s i h n = some (b, i', h') := by
  obtain ⟨x, i1, h1, _, c1, e1⟩ := l1Below_ex s i h n hc
  refine ⟨((x : Int) == 0), i1, h1, c1, ?_⟩
  unfold spec_l1Once.f
  rw [e1, Option.bind_some]

theorem l1PickInt_ex (s : List Int) (i h : Int) (l : List Int) (hl : l.length ≠ 0) (hc : CurOk s i) : ∃ (x : Int) (i' h' : Int), x ∈ l ∧ CurOk s i' ∧ spec_l1PickInt.f s i h l = some (x, i', h') := by
  obtain ⟨x, i1, h1, hx, c1, e1⟩ := l1Below_ex s i h (l.length : Int) hc
  have hlt : x < l.length := by omega
  refine ⟨rd l (x : Int), i1, h1, rd_mem hlt, c1, ?_⟩
  unfold spec_l1PickInt.f
  rw [e1, Option.bind_some, if_pos (by omega), if_pos (by omega)]

/-- A drawn number: below 2^56 in size, or one of six great ones. -/
def BigDraw (r : Int) : Prop := (Lit.int .i64 r).wf = true ∧ (-72057594037927936 ≤ r ∧ r ≤ 72057594037927936 ∨ r ≥ 4000000000000000000 ∨ r ≤ -4000000000000000000)
theorem BigDraw.mk_ {r : Int} (h : -72057594037927936 ≤ r ∧ r ≤ 72057594037927936) : BigDraw r := ⟨WalkArith.wf_i64 (by omega), .inl h⟩
theorem l5DrawBig_j1 (s : List Int) (x i h : Int) (hx : BigDraw x) (hc : CurOk s i) : ∃ (r i' h' : Int), BigDraw r ∧ CurOk s i' ∧ Ev (fun k => spec_l5DrawBig.j1 k x s i h) (r, i', h') := by
  obtain ⟨b, i1, h1, c1, e1⟩ := l1Once_ex s i h 15 hc
  cases b with
  | true =>
    obtain ⟨r, i2, h2, hr, c2, e2⟩ := l1PickInt_ex s i1 h1 [4000000000000000000, 4000000000000000001, (-4000000000000000000), (-4000000000000000001), 9223372036854775807, (-9223372036854775808)] (by simp) c1
    refine ⟨r, i2, h2, ?_, c2, Ev.step (fun k => by rw [spec_l5DrawBig.j1]) (Ev.bind0 e1 (Ev.pos rfl (Ev.bind0 e2 (Ev.now _))))⟩
    simp at hr
    exact ⟨WalkArith.wf_i64 (by omega), by omega⟩
  | false =>
    refine ⟨x, i1, h1, hx, c1, Ev.step (fun k => by rw [spec_l5DrawBig.j1]) (Ev.bind0 e1 ?_)⟩
    exact Ev.neg (by simp) (Ev.now _)
theorem l5DrawBig_l0 (s : List Int) : ∀ (d m : Nat) (x i h : Int), 0 ≤ x ∧ x < 256 ^ m → m + d ≤ 7 → CurOk s i → ∃ (r i' h' : Int), BigDraw r ∧ CurOk s i' ∧ Ev (fun k => spec_l5DrawBig.l0 k x (d : Int) s i h) (r, i', h') := by
  intro d
  induction d with
  | zero =>
    intro m x i h hx hm hc
    have hp : (256 : Int) ^ m ≤ 256 ^ 7 := by
      have := Nat.pow_le_pow_right (n := 256) (by omega) (show m ≤ 7 by omega)
      have e1 : (256 : Int) ^ m = ((256 ^ m : Nat) : Int) := by simp
      have e2 : (256 : Int) ^ 7 = ((256 ^ 7 : Nat) : Int) := by decide
      rw [e1, e2]; exact Int.ofNat_le.mpr this
    have h7 : (256 : Int) ^ 7 = 72057594037927936 := by decide
    obtain ⟨b, i1, h1, c1, e1⟩ := l1Once_ex s i h 2 hc
    have hx2 : BigDraw (if b = true then wrap64 (-x) else x) := by
      split
      · rw [w64 (by omega) (by omega)]; exact BigDraw.mk_ (by omega)
      · exact BigDraw.mk_ (by omega)
    obtain ⟨r, i2, h2, hr, c2, e2⟩ := l5DrawBig_j1 s (if b = true then wrap64 (-x) else x) i1 h1 hx2 c1
    refine ⟨r, i2, h2, hr, c2, Ev.step (fun k => by rw [spec_l5DrawBig.l0, if_neg (by omega)]) (Ev.bind0 e1 ?_)⟩
    cases b with
    | true => exact Ev.pos rfl e2
    | false => exact Ev.neg (by simp) e2
  | succ d ih =>
    intro m x i h hx hm hc
    have hp : (256 : Int) ^ m ≤ 256 ^ 6 := by
      have := Nat.pow_le_pow_right (n := 256) (by omega) (show m ≤ 6 by omega)
      have e1 : (256 : Int) ^ m = ((256 ^ m : Nat) : Int) := by simp
      have e2 : (256 : Int) ^ 6 = ((256 ^ 6 : Nat) : Int) := by decide
      rw [e1, e2]; exact Int.ofNat_le.mpr this
    have h6 : (256 : Int) ^ 6 = 281474976710656 := by decide
    obtain ⟨y, i1, h1, hy, c1, e1⟩ := l1Byte_ex s i h hc
    have ex : wrap64 (wrap64 (x * 200) + (y : Int)) = x * 200 + y := by rw [w64 (n := x * 200) (by omega) (by omega), w64 (by omega) (by omega)]
    have hs : (256 : Int) ^ (m + 1) = 256 * 256 ^ m := by rw [Int.pow_succ]; omega
    obtain ⟨r, i2, h2, hr, c2, e2⟩ := ih (m + 1) (x * 200 + (y : Int)) i1 h1 (by rw [hs]; omega) (by omega) c1
    refine ⟨r, i2, h2, hr, c2, Ev.step (fun k => ?_) e2⟩
    have e : wrap64 (((d + 1 : Nat) : Int) - 1) = (d : Int) := by rw [w64 (by omega) (by omega)]; omega
    rw [spec_l5DrawBig.l0, if_pos (by omega), e1, Option.bind_some, e, ex]
theorem l5DrawBig_ex (s : List Int) (i h : Int) (hc : CurOk s i) : ∃ (r i' h' : Int), BigDraw r ∧ CurOk s i' ∧ Ev (fun k => spec_l5DrawBig.f k s i h) (r, i', h') := by
  obtain ⟨x, i1, h1, hx, c1, e1⟩ := l1Below_ex s i h 8 hc
  obtain ⟨r, i2, h2, hr, c2, e2⟩ := l5DrawBig_l0 s x 0 0 i1 h1 (by simp) (by omega) c1
  refine ⟨r, i2, h2, hr, c2, ?_⟩
  unfold spec_l5DrawBig.f
  exact Ev.bind0 e1 e2

theorem l1In_eq (a b c : Int) : spec_l1In.f a b c = some (decide (b ≤ a ∧ a ≤ c)) := by
  unfold spec_l1In.f
  by_cases h : b ≤ a
  · rw [if_pos h]; simp [h]
  · rw [if_neg h]; simp [h]

theorem shr_nat (x y : Nat) (h : y ≤ 64) : shr .i64 (x : Int) (y : Int) = ((x / 2 ^ y : Nat) : Int) := by
  unfold shr
  rw [Int.toNat_natCast, show min y (IntKind.bits .i64) = y from Nat.min_eq_left h]
  exact (Int.natCast_ediv x (2 ^ y)).symm

theorem iunGray_ev (n : Nat) (hn : n < 2 ^ 63) : Ev (fun k => impl_unGray.f k (n : Int)) ((px 64 n : Nat) : Int) := by
  unfold impl_unGray.f
  have step : ∀ m, m < 64 → Ev (fun k => impl_unGray.l0 k ((px (m + m) n : Nat) : Int) ((2 * m : Nat) : Int)) ((px 64 n : Nat) : Int) → Ev (fun k => impl_unGray.l0 k ((px m n : Nat) : Int) (m : Int)) ((px 64 n : Nat) : Int) := by
    intro m hm h
    refine Ev.step (fun k => ?_) h
    have h1 := px_lt 63 m n hn
    have h2 : px m n / 2 ^ m < 9223372036854775808 := Nat.lt_of_le_of_lt (Nat.div_le_self _ _) (by omega)
    have e2 : wrap64 ((m : Int) * 2) = ((2 * m : Nat) : Int) := by rw [w64 (by omega) (by omega)]; omega
    rw [impl_unGray.l0, if_pos (by omega), if_pos (by omega), shr_nat _ _ (by omega), xor64 _ _ (by omega) h2, px_double, e2]
  have h1 : px 1 n = n := by show n ^^^ 0 = n; rw [Nat.xor_zero]
  have := step 1 (by omega) (step 2 (by omega) (step 4 (by omega) (step 8 (by omega) (step 16 (by omega) (step 32 (by omega) (Ev.fin (fun k => by rw [impl_unGray.l0, if_neg (by omega)])))))))
  rw [h1] at this
  exact this

def ugM (a : Int) : Int := if 0 ≤ a ∧ a ≤ 4000000000000000000 then ((px 64 a.toNat : Nat) : Int) else 0

theorem iUnGray_ev (a : Int) : Ev (fun k => impl_UnGray.f k a) (ugM a) := by
  unfold impl_UnGray.f ugM
  by_cases h0 : a < 0
  · rw [if_neg (by omega)]
    exact Ev.pos h0 (Ev.now 0)
  · refine Ev.neg h0 ?_
    by_cases h1 : a > 4000000000000000000
    · rw [if_neg (by omega)]
      exact Ev.pos h1 (Ev.now 0)
    · rw [if_pos (by omega)]
      obtain ⟨n, rfl⟩ : ∃ n : Nat, a = n := ⟨a.toNat, by omega⟩
      rw [Int.toNat_natCast]
      exact Ev.neg h1 (Ev.bind (iunGray_ev n (by omega)) (Ev.now _))

theorem DrawGray_ex (l : List Int) (hl : l.length ≤ 1048576) (hw : Bytes l) : ∃ r : Int, BigDraw r ∧ Ev (fun k => spec_DrawGray.f k l) r := by
  obtain ⟨h, c0, e0⟩ := l1New_ex l hl hw
  obtain ⟨b, i1, h1, c1, e1⟩ := l1Once_ex l 0 h 2 c0
  unfold spec_DrawGray.f spec_l13DrawN.f
  cases b with
  | true =>
    obtain ⟨x, i2, h2, hx, c2, e2⟩ := l1Below_ex l i1 h1 300 c1
    refine ⟨(x : Int) - 2, BigDraw.mk_ (by omega), ?_⟩
    have ex : wrap64 ((x : Int) - 2) = (x : Int) - 2 := w64 (by omega) (by omega)
    rw [← ex]
    exact Ev.bind (Ev.bind e0 (Ev.bind0 e1 (Ev.pos rfl (Ev.bind0 e2 (Ev.now _))))) (Ev.now _)
  | false =>
    obtain ⟨x, i2, h2, hx, c2, e2⟩ := l5DrawBig_ex l i1 h1 c1
    exact ⟨x, hx, Ev.bind (Ev.bind e0 (Ev.bind0 e1 (Ev.neg (by simp) (Ev.bind e2 (Ev.now _))))) (Ev.now _)⟩
theorem gray_in {a : Int} (h : 0 ≤ a ∧ a ≤ 4000000000000000000) : impl_Gray.f a = some ((a.toNat ^^^ a.toNat / 2 : Nat) : Int) ∧ spec_Gray.f a = some ((a.toNat ^^^ a.toNat / 2 : Nat) : Int) := by
  obtain ⟨n, rfl⟩ : ∃ n : Nat, a = n := ⟨a.toNat, by omega⟩
  have e : (n : Int) / 2 = ((n / 2 : Nat) : Int) := by omega
  rw [Int.toNat_natCast]
  constructor
  · unfold impl_Gray.f
    rw [if_neg (by omega), if_neg (by omega), e, xor64 _ _ (by omega) (by omega)]
  · unfold spec_Gray.f
    rw [l1In_eq, Option.bind_some, decide_eq_true h, if_pos rfl, Int.tdiv_eq_ediv_of_nonneg h.1, w64 (by omega) (by omega), e, xor64 _ _ (by omega) (by omega)]
theorem gray_out {a : Int} (h : ¬ (0 ≤ a ∧ a ≤ 4000000000000000000)) : impl_Gray.f a = some 0 ∧ spec_Gray.f a = some 0 := by
  constructor
  · unfold impl_Gray.f
    by_cases h0 : a < 0
    · rw [if_pos h0]
    · rw [if_neg h0, if_pos (by omega)]
  · unfold spec_Gray.f
    rw [l1In_eq, Option.bind_some, decide_eq_false h, if_neg (by decide)]
theorem gray3 : impl_Gray.f 3 = some 2 := by decide +kernel
theorem FnGray : laws_FnGray.Pure := by
  intro l _ _ hw
  refine Ev.rounds ?_
  unfold laws_FnGray.f
  refine Ev.bind0 (big_eq l) ?_
  by_cases hb : (l.length : Int) > 1048576
  · exact Ev.pos (by simpa using hb) (Ev.now true)
  refine Ev.neg (by simpa using hb) ?_
  obtain ⟨a, ha, ea⟩ := DrawGray_ex l (by omega) hw
  refine Ev.bind ea ?_
  by_cases h : 0 ≤ a ∧ a ≤ 4000000000000000000
  · obtain ⟨g1, g2⟩ := gray_in h
    refine Ev.bind0 g1 (Ev.bind0 g2 (Ev.pos rfl (Ev.neg (by omega) ?_)))
    by_cases hm : a ≥ 4000000000000000000
    · rw [decide_eq_true hm]
      exact Ev.step (fun k => by rw [laws_FnGray.j0, if_pos rfl]) (Ev.bind0 gray3 (Ev.now _))
    · rw [decide_eq_false hm]
      obtain ⟨n, rfl⟩ : ∃ n : Nat, a = n := ⟨a.toNat, by omega⟩
      rw [Int.toNat_natCast]
      have en : wrap64 ((n : Int) + 1) = ((n + 1 : Nat) : Int) := wsucc (by omega)
      obtain ⟨g3, _⟩ := gray_in (a := ((n + 1 : Nat) : Int)) (by omega)
      rw [Int.toNat_natCast] at g3
      refine Ev.step (fun k => by rw [laws_FnGray.j0, if_neg (by decide), en]) (Ev.bind0 g3 ?_)
      have hx1 : n ^^^ n / 2 < 2 ^ 62 := Nat.xor_lt_two_pow (by omega) (by omega)
      have hx2 : (n + 1) ^^^ (n + 1) / 2 < 2 ^ 62 := Nat.xor_lt_two_pow (by omega) (by omega)
      rw [xor64 _ _ (by omega) (by omega)]
      obtain ⟨j, hj⟩ := gray_next n
      rw [hj]
      have hj2 : 2 ^ j < 2 ^ 62 := by rw [← hj]; exact Nat.xor_lt_two_pow hx1 hx2
      have hpos : 0 < 2 ^ j := Nat.pow_pos (by omega)
      have hsm : n ≤ 72057594037927936 := by
        have := ha.2
        omega
      have hg : n ^^^ n / 2 < 2 ^ 57 := Nat.xor_lt_two_pow (by omega) (by omega)
      have hU := iUnGray_ev ((n ^^^ n / 2 : Nat) : Int)
      have eU : ugM ((n ^^^ n / 2 : Nat) : Int) = (n : Int) := by
        unfold ugM
        rw [if_pos (by omega), Int.toNat_natCast, px_gray 64 n (by omega)]
      rw [eU] at hU
      have e1 : wrap64 (((2 ^ j : Nat) : Int) - 1) = ((2 ^ j - 1 : Nat) : Int) := by
        generalize 2 ^ j = p at *
        rw [w64 (by omega) (by omega)]; omega
      refine Ev.bind hU (Ev.pos rfl (Ev.pos (by generalize 2 ^ j = p at *; omega) ?_))
      rw [e1, and64 _ _ (by omega) (by omega), Nat.and_two_pow_sub_one_eq_mod, Nat.mod_self]
      exact Ev.now _
  · obtain ⟨g1, g2⟩ := gray_out h
    refine Ev.bind0 g1 (Ev.bind0 g2 (Ev.pos rfl ?_))
    by_cases h0 : a < 0
    · exact Ev.pos h0 (Ev.step (fun k => by rw [laws_FnGray.j0, if_pos rfl]) (Ev.bind0 gray3 (Ev.now _)))
    · refine Ev.neg h0 ?_
      rw [decide_eq_true (by omega)]
      exact Ev.step (fun k => by rw [laws_FnGray.j0, if_pos rfl]) (Ev.bind0 gray3 (Ev.now _))

end Go.Proofs.Ytkdpnjobokijdaa.Pure
