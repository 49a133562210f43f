/- Map tells what the reference tells, leaves its arguments alone and answers new memory, for all arguments; no condition. -/
import Derived.Test.YtnpoimjdkjhcpaaQFnExactMapx5
import Derived.Test.YtnpoimjdkjhcpaaCom
import Derived.Test.YtnpoimjdkjhcpaaGry
import Derived.Test.YtnpoimjdkjhcpaaMark
set_option linter.unusedVariables false
set_option linter.unusedSimpArgs false
namespace Go.Proofs.Ytnpoimjdkjhcpaa.Pure
open Go.RowKit Go.Proofs.Ytnpoimjdkjhcpaa.PFnExactMap Go.Proofs.YtnpoimjdkjhcpaaW.PrintWords Go.Proofs.YtnpoimjdkjhcpaaW.PrintLast Go.Proofs.Ytnpoimjdkjhcpaa.Com Go.Proofs.Ytnpoimjdkjhcpaa.Gry Go.Proofs.Ytnpoimjdkjhcpaa.Mark

theorem l1In_eq (a b c : Int) : spec_l1In.f a b c = some (decide (b ≤ a ∧ a ≤ c)) := by
  unfold spec_l1In.f
  by_cases h : b ≤ a
  · rw [if_pos h]; simp [h]
  · rw [if_neg h]; simp [h]
theorem sBitsOk_l0 (l : List Int) (hl : l.length ≤ 17592186044416) : ∀ (d i : Nat), i + d = l.length → Ev (fun k => spec_BitsOk.l0 k l (i : Int)) ((l.drop i).all isB && decide (l.length ≤ 1024)) := by
  intro d
  induction d with
  | zero =>
    intro i hd
    refine Ev.fin (fun k => ?_)
    rw [spec_BitsOk.l0, if_neg (by omega), List.drop_of_length_le (by omega)]
    simp
    omega
  | succ d ih =>
    intro i hd
    rw [drop_rd (by omega)]
    have e : spec_l1In.f (rd l (i : Int)) 0 1 = some (isB (rd l (i : Int))) := by
      rw [l1In_eq]; congr 1; unfold isB; rw [Bool.eq_iff_iff]; simp; omega
    by_cases hb : isB (rd l (i : Int)) = true
    · refine Ev.cast (Ev.step (fun k => ?_) (ih (i + 1) (by omega))) (by simp [hb])
      rw [spec_BitsOk.l0, if_pos (by omega), if_pos (by omega), e, Option.bind_some, if_pos hb, wsucc (by omega)]
    · refine Ev.fin (fun k => ?_)
      rw [spec_BitsOk.l0, if_pos (by omega), if_pos (by omega), e, Option.bind_some, if_neg hb]
      simp [hb]
theorem sBitsOk_ev (l : List Int) (hl : l.length ≤ 17592186044416) : Ev (fun k => spec_BitsOk.f k l) (bitsOk l) := by
  unfold spec_BitsOk.f
  exact sBitsOk_l0 l hl l.length 0 (by omega)
theorem isBit_eq (x : Int) : impl_isBit.f x = some (isB x) := by
  unfold impl_isBit.f isB
  by_cases h : x = 0
  · rw [if_pos h]; simp [h]
  · rw [if_neg h]; simp [h]
theorem iBitsOk_l0 (l : List Int) (hl : l.length ≤ 17592186044416) : ∀ (d i : Nat), i + d = l.length → Ev (fun k => impl_BitsOk.l0 k l l (l.length : Int) (i : Int)) ((l.drop i).all isB && decide (l.length ≤ 1024)) := by
  intro d
  induction d with
  | zero =>
    intro i hd
    refine Ev.fin (fun k => ?_)
    rw [impl_BitsOk.l0, if_neg (by omega), List.drop_of_length_le (by omega)]
    simp
    omega
  | succ d ih =>
    intro i hd
    rw [drop_rd (by omega)]
    by_cases hb : isB (rd l (i : Int)) = true
    · refine Ev.cast (Ev.step (fun k => ?_) (ih (i + 1) (by omega))) (by simp [hb])
      rw [impl_BitsOk.l0, if_pos (by omega), if_pos (by omega), if_pos (by omega), isBit_eq, Option.bind_some, if_pos hb, wsucc (by omega)]
    · refine Ev.fin (fun k => ?_)
      rw [impl_BitsOk.l0, if_pos (by omega), if_pos (by omega), if_pos (by omega), isBit_eq, Option.bind_some, if_neg hb]
      simp [hb]
theorem iBitsOk_ev (l : List Int) (hl : l.length ≤ 17592186044416) : Ev (fun k => impl_BitsOk.f k l) (bitsOk l) := by
  unfold impl_BitsOk.f
  exact iBitsOk_l0 l hl l.length 0 (by omega)
theorem shr_nat (x y : Nat) (h : y ≤ 64) : shr .i64 (x : Int) (y : Int) = ((x / 2 ^ y : Nat) : Int) := by
  unfold shr
  rw [Int.toNat_natCast, show min y (IntKind.bits .i64) = y from Nat.min_eq_left h]
  exact (Int.natCast_ediv x (2 ^ y)).symm
theorem iunGray_ev (n : Nat) (hn : n < 2 ^ 63) : Ev (fun k => impl_unGray.f k (n : Int)) ((px 64 n : Nat) : Int) := by
  unfold impl_unGray.f
  have step : ∀ m, m < 64 → Ev (fun k => impl_unGray.l0 k ((px (m + m) n : Nat) : Int) ((2 * m : Nat) : Int)) ((px 64 n : Nat) : Int) → Ev (fun k => impl_unGray.l0 k ((px m n : Nat) : Int) (m : Int)) ((px 64 n : Nat) : Int) := by
    intro m hm h
    refine Ev.step (fun k => ?_) h
    have h1 := px_lt 63 m n hn
    have h2 : px m n / 2 ^ m < 9223372036854775808 := Nat.lt_of_le_of_lt (Nat.div_le_self _ _) (by omega)
    have e2 : wrap64 ((m : Int) * 2) = ((2 * m : Nat) : Int) := by rw [w64 (by omega) (by omega)]; omega
    rw [impl_unGray.l0, if_pos (by omega), if_pos (by omega), shr_nat _ _ (by omega), xor64 _ _ (by omega) h2, px_double, e2]
  have h1 : px 1 n = n := by show n ^^^ 0 = n; rw [Nat.xor_zero]
  have := step 1 (by omega) (step 2 (by omega) (step 4 (by omega) (step 8 (by omega) (step 16 (by omega) (step 32 (by omega) (Ev.fin (fun k => by rw [impl_unGray.l0, if_neg (by omega)])))))))
  rw [h1] at this
  exact this
def ugM (a : Int) : Int := if 0 ≤ a ∧ a ≤ 4000000000000000000 then ((px 64 a.toNat : Nat) : Int) else 0
theorem sUnGray_l0 : ∀ (f n acc : Nat), n < 2 ^ f → n < 9223372036854775808 → acc < 9223372036854775808 → Ev (fun k => spec_UnGray.l0 k (n : Int) (acc : Int)) ((acc ^^^ px f n : Nat) : Int) := by
  intro f
  induction f with
  | zero =>
    intro n acc h _ _
    refine Ev.fin (fun k => ?_)
    rw [spec_UnGray.l0, if_neg (by omega)]
    show some (acc : Int) = some ((acc ^^^ 0 : Nat) : Int)
    rw [Nat.xor_zero]
  | succ f ih =>
    intro n acc h hn ha
    by_cases h0 : n = 0
    · refine Ev.fin (fun k => ?_)
      rw [spec_UnGray.l0, if_neg (by omega), h0, px_zero, Nat.xor_zero]
    · have hp : 2 ^ (f + 1) = 2 * 2 ^ f := by rw [Nat.pow_succ]; omega
      have hx : acc ^^^ n < 2 ^ 63 := Nat.xor_lt_two_pow (by omega) (by omega)
      refine Ev.cast (Ev.step (fun k => ?_) (ih (n / 2) (acc ^^^ n) (by omega) (by omega) (by omega))) ?_
      · rw [spec_UnGray.l0, if_pos (by omega), xor64 _ _ ha hn, Int.tdiv_eq_ediv_of_nonneg (by omega), w64 (by omega) (by omega)]
        rfl
      · show ((acc ^^^ n ^^^ px f (n / 2) : Nat) : Int) = ((acc ^^^ (n ^^^ px f (n / 2)) : Nat) : Int)
        rw [Nat.xor_assoc]
theorem sUnGray_ev (a : Int) : Ev (fun k => spec_UnGray.f k a) (ugM a) := by
  unfold spec_UnGray.f ugM
  refine Ev.bind0 (l1In_eq _ _ _) ?_
  by_cases h : 0 ≤ a ∧ a ≤ 4000000000000000000
  · rw [if_pos h]
    refine Ev.pos (decide_eq_true h) ?_
    obtain ⟨n, rfl⟩ : ∃ n : Nat, a = n := ⟨a.toNat, by omega⟩
    refine Ev.cast (sUnGray_l0 64 n 0 (by omega) (by omega) (by omega)) ?_
    rw [Nat.zero_xor, Int.toNat_natCast]
  · rw [if_neg h]
    exact Ev.neg (by simpa using h) (Ev.now 0)
/-- A number read bit by bit, the highest first: d bits from place i on, on top of g. -/
def gvB (l : List Int) : Nat → Nat → Nat → Nat
  | 0, _, g => g
  | d + 1, i, g => gvB l d (i + 1) (2 * g + (rd l (i : Int)).toNat)
theorem gvB_congr {a b : List Int} : ∀ (d i j g : Nat), (∀ t, t < d → rd a ((i + t : Nat) : Int) = rd b ((j + t : Nat) : Int)) → gvB a d i g = gvB b d j g
  | 0, _, _, _, _ => rfl
  | d + 1, i, j, g, h => by
    show gvB a d (i + 1) (2 * g + (rd a (i : Int)).toNat) = gvB b d (j + 1) (2 * g + (rd b (j : Int)).toNat)
    have h0 : rd a (i : Int) = rd b (j : Int) := h 0 (by omega)
    rw [h0]
    refine gvB_congr d (i + 1) (j + 1) _ (fun t ht => ?_)
    have := h (t + 1) (by omega)
    rw [show i + 1 + t = i + (t + 1) by omega, show j + 1 + t = j + (t + 1) by omega]
    exact this
theorem rd_bit {l : List Int} (hb : ∀ x ∈ l, x = 0 ∨ x = 1) (i : Nat) : rd l (i : Int) = 0 ∨ rd l (i : Int) = 1 := by
  by_cases h : i < l.length
  · exact hb _ (rd_mem h)
  · left; unfold rd; rw [Int.toNat_natCast, List.getD_eq_getElem?_getD, List.getElem?_eq_none (by omega)]; rfl
theorem rd_out {l : List Int} {i : Nat} (h : l.length ≤ i) : rd l (i : Int) = 0 := by
  unfold rd; rw [Int.toNat_natCast, List.getD_eq_getElem?_getD, List.getElem?_eq_none h]; rfl
def levB (h g : Nat) : Int := 2 * ((px 64 g : Nat) : Int) - (((2 ^ h : Nat) : Int) - 1)
theorem shl_one {h : Nat} (hh : h ≤ 4) : shl .i64 1 (h : Int) = ((2 ^ h : Nat) : Int) := by
  have t : (List.range 5).all (fun h => decide (shl .i64 1 (h : Int) = ((2 ^ h : Nat) : Int))) = true := by decide +kernel
  exact of_decide_eq_true (List.all_eq_true.mp t h (List.mem_range.mpr (by omega)))
theorem two_le {h : Nat} (hh : h ≤ 4) : 1 ≤ 2 ^ h ∧ 2 ^ h ≤ 16 := ⟨Nat.one_le_two_pow, Nat.pow_le_pow_right (n := 2) (by omega) hh⟩
theorem lev_end {h g : Nat} (hh : h ≤ 4) (hg : g < 2 ^ h) : wrap64 (wrap64 (2 * ((px 64 g : Nat) : Int)) - wrap64 (shl .i64 1 (h : Int) - 1)) = levB h g := by
  have h2 := two_le hh
  have h1 := px_lt 4 64 g (by omega)
  rw [shl_one hh, w64 (n := 2 * ((px 64 g : Nat) : Int)) (by omega) (by omega), w64 (n := ((2 ^ h : Nat) : Int) - 1) (by omega) (by omega), w64 (by omega) (by omega)]; rfl
theorem iLev_loop (l : List Int) (hb : ∀ x ∈ l, x = 0 ∨ x = 1) (hl : l.length ≤ 1024) (h p : Nat) (hh : h ≤ 4) (hp : p ≤ 2000) : ∀ (d i e g : Nat), i + d = p + h → e + d = h → g < 2 ^ e →
    Ev (fun k => impl_Map.v0 k l (h : Int) (p : Int) (g : Int) (i : Int)) (levB h (gvB l d i g)) := by
  have ew : wrap64 ((p : Int) + (h : Int)) = ((p + h : Nat) : Int) := by rw [w64 (by omega) (by omega)]; omega
  intro d
  induction d with
  | zero =>
    intro i e g hd he hg
    have h2 := two_le hh
    obtain rfl : e = h := by omega
    refine Ev.step (fun k => by rw [impl_Map.v0, ew, if_neg (by omega)]) (Ev.bind (iunGray_ev g (by omega)) ?_)
    refine Ev.pos (by omega) ?_
    rw [lev_end hh hg]
    exact Ev.now _
  | succ d ih =>
    intro i e g hd he hg
    have h2 := two_le (h := e) (by omega)
    have hx := rd_bit hb i
    have ep : 2 ^ (e + 1) = 2 * 2 ^ e := by rw [Nat.pow_succ]; omega
    refine Ev.step (fun k => ?_) (ih (i + 1) (e + 1) (2 * g + (rd l (i : Int)).toNat) (by omega) (by omega) (by omega))
    have e2 : wrap64 ((g : Int) * 2) = ((2 * g : Nat) : Int) := by rw [w64 (by omega) (by omega)]; omega
    rw [impl_Map.v0, ew, if_pos (by omega), e2, wsucc (by omega)]
    by_cases hi : i < l.length
    · rw [if_pos (by omega), if_pos (by omega), w64 (by omega) (by omega)]
      congr 1; omega
    · rw [if_neg (by omega), rd_out (by omega)]
      congr 1
theorem iLev_ev (l : List Int) (hb : ∀ x ∈ l, x = 0 ∨ x = 1) (hl : l.length ≤ 1024) (h p : Nat) (hh : h ≤ 4) (hp : p ≤ 2000) : Ev (fun k => impl_Map.v0 k l (h : Int) (p : Int) 0 (p : Int)) (levB h (gvB l h p 0)) :=
  iLev_loop l hb hl h p hh hp h p 0 0 rfl (by omega) (by omega)
theorem sLev_loop (b : List Int) (hb : ∀ x ∈ b, x = 0 ∨ x = 1) (hh : b.length ≤ 4) : ∀ (d i e g : Nat), i + d = b.length → e + d = b.length → g < 2 ^ e →
    Ev (fun k => spec_l13Level.l0 k b (g : Int) (i : Int)) (levB b.length (gvB b d i g)) := by
  intro d
  induction d with
  | zero =>
    intro i e g hd he hg
    have h2 := two_le hh
    obtain rfl : e = b.length := by omega
    have eu : IntKind.u64.wrap (b.length : Int) = (b.length : Int) := u64w (by omega) (by omega)
    have eg : ugM (g : Int) = ((px 64 g : Nat) : Int) := by unfold ugM; rw [if_pos (by omega), Int.toNat_natCast]
    refine Ev.step (fun k => by rw [spec_l13Level.l0, if_neg (by omega)]) (Ev.bind (sUnGray_ev _) ?_)
    rw [eu, eg]
    refine Ev.pos (by omega) ?_
    rw [lev_end hh hg]
    exact Ev.now _
  | succ d ih =>
    intro i e g hd he hg
    have h2 := two_le (h := e) (by omega)
    have hx := rd_bit hb i
    have ep : 2 ^ (e + 1) = 2 * 2 ^ e := by rw [Nat.pow_succ]; omega
    refine Ev.step (fun k => ?_) (ih (i + 1) (e + 1) (2 * g + (rd b (i : Int)).toNat) (by omega) (by omega) (by omega))
    have e2 : wrap64 (2 * (g : Int)) = ((2 * g : Nat) : Int) := by rw [w64 (by omega) (by omega)]; omega
    rw [spec_l13Level.l0, if_pos (by omega), if_pos (by omega), e2, wsucc (by omega), w64 (by omega) (by omega)]
    congr 1; omega
theorem sLev_ev (b : List Int) (hb : ∀ x ∈ b, x = 0 ∨ x = 1) (hh : b.length ≤ 4) : Ev (fun k => spec_l13Level.f k b) (levB b.length (gvB b b.length 0 0)) :=
  sLev_loop b hb hh b.length 0 0 0 (by omega) (by omega) (by omega)
/-- A width and its half. -/
def Wd (w h : Nat) : Prop := (w = 2 ∧ h = 1) ∨ (w = 4 ∧ h = 2) ∨ (w = 6 ∧ h = 3) ∨ (w = 8 ∧ h = 4)
def ptsB (l : List Int) (w h : Nat) : Nat → Nat → List S61
  | 0, _ => []
  | d + 1, j => (⟨levB h (gvB l h (w * j) 0), levB h (gvB l h (w * j + h) 0)⟩ : S61) :: ptsB l w h d (j + 1)
theorem ptsB_len (l : List Int) (w h : Nat) : ∀ d j, (ptsB l w h d j).length = d
  | 0, _ => rfl
  | d + 1, j => by simp [ptsB, ptsB_len l w h d]
def numB (n w : Nat) : Nat := (n + w - 1) / w
theorem numB_ok {w h : Nat} (hw : Wd w h) (n : Nat) (hn : n ≤ 1024) : h ≤ 4 ∧ w ≤ 8 ∧ w = 2 * h ∧ 1 ≤ h ∧ (∀ j, j < numB n w → w * j < n) ∧ n ≤ w * numB n w ∧ w * numB n w ≤ 1032 ∧ numB n w ≤ 1024 ∧ (w * numB n w) % w = 0 ∧ (∀ z, n + z < w * numB n w → (n + z) % w ≠ 0) := by
  unfold numB
  rcases hw with ⟨rfl, rfl⟩ | ⟨rfl, rfl⟩ | ⟨rfl, rfl⟩ | ⟨rfl, rfl⟩
  all_goals refine ⟨by omega, by omega, by omega, by omega, fun j hj => by omega, by omega, by omega, by omega, by omega, fun z hz => by omega⟩
theorem wadd_nat {p q : Nat} (h : p + q ≤ 4000000) : wrap64 ((p : Int) + (q : Int)) = ((p + q : Nat) : Int) := by rw [w64 (by omega) (by omega)]; omega
theorem iMap_loop (l : List Int) (hb : ∀ x ∈ l, x = 0 ∨ x = 1) (hl : l.length ≤ 1024) {w h : Nat} (hw : Wd w h) : ∀ (d j : Nat) (acc : List S61), j + d = numB l.length w → acc.length = j →
    Ev (fun k => impl_Map.l0 k (w : Int) l (h : Int) acc ((w * j : Nat) : Int)) (acc ++ ptsB l w h d j, true) := by
  obtain ⟨h1, h2, h3, h4, hlt, hge, hmx, hnm, hm0, _⟩ := numB_ok hw l.length hl
  clear hm0
  generalize numB l.length w = N at *
  intro d
  induction d with
  | zero =>
    intro j acc hd ha
    obtain rfl : j = N := by omega
    refine Ev.fin (fun k => ?_)
    rw [impl_Map.l0, if_neg (by omega), ptsB, List.append_nil]
  | succ d ih =>
    intro j acc hd ha
    have hj := hlt j (by omega)
    have en : w * (j + 1) = w * j + w := Nat.mul_succ w j
    have hn := ih (j + 1) (acc ++ [(⟨levB h (gvB l h (w * j) 0), levB h (gvB l h (w * j + h) 0)⟩ : S61)]) (by omega) (by simp; omega)
    rw [List.append_assoc, en] at hn
    show Ev _ (acc ++ ((⟨levB h (gvB l h (w * j) 0), levB h (gvB l h (w * j + h) 0)⟩ : S61) :: ptsB l w h d (j + 1)), true)
    clear hge hmx en ih hlt
    generalize w * j = p at *
    have e1 : wrap64 ((p : Int) + (h : Int)) = ((p + h : Nat) : Int) := by rw [w64 (by omega) (by omega)]; omega
    have e2 : wrap64 ((p : Int) + (w : Int)) = ((p + w : Nat) : Int) := by rw [w64 (by omega) (by omega)]; omega
    refine Ev.step (fun k => by rw [impl_Map.l0, if_pos (by omega), e1, e2]) (Ev.bind (iLev_ev l hb hl h p h1 (by omega)) (Ev.bind (iLev_ev l hb hl h (p + h) h1 (by omega)) ?_))
    refine Ev.pos (by omega) ?_
    exact hn
/-- Bits with z noughts behind them. -/
def padB (l : List Int) (z : Nat) : List Int := l ++ List.replicate z 0
theorem pad_len (l : List Int) (z : Nat) : (padB l z).length = l.length + z := by simp [padB]
theorem pad_rd (l : List Int) (z i : Nat) : rd (padB l z) (i : Int) = rd l (i : Int) := by
  by_cases h : i < l.length
  · unfold rd padB; rw [Int.toNat_natCast, List.getD_eq_getElem?_getD, List.getElem?_append_left h, ← List.getD_eq_getElem?_getD]
  · rw [rd_out (l := l) (by omega)]
    unfold rd padB; rw [Int.toNat_natCast, List.getD_eq_getElem?_getD, List.getElem?_append_right (by omega), List.getElem?_replicate]
    split <;> rfl
theorem pad_bits {l : List Int} (hb : ∀ x ∈ l, x = 0 ∨ x = 1) (z : Nat) : ∀ x ∈ padB l z, x = 0 ∨ x = 1 := by
  intro x hx
  rcases List.mem_append.1 hx with hx | hx
  · exact hb x hx
  · left; exact (List.mem_replicate.1 hx).2
theorem cut_lev (l : List Int) (hb : ∀ x ∈ l, x = 0 ∨ x = 1) (z p h : Nat) (hh : h ≤ 4) (hp : p + h ≤ l.length + z) : Ev (fun k => spec_l13Level.f k (((padB l z).take (p + h)).drop p)) (levB h (gvB l h p 0)) := by
  have hlen : (((padB l z).take (p + h)).drop p).length = h := by
    rw [List.length_drop, List.length_take, pad_len]; omega
  have h1 := sLev_ev (((padB l z).take (p + h)).drop p) (fun x hx => pad_bits hb z x (List.mem_of_mem_take (List.mem_of_mem_drop hx))) (by omega)
  rw [hlen] at h1
  rw [gvB_congr (b := l) h 0 p 0 (fun t ht => by
    rw [← pad_rd l z (p + t), Nat.zero_add]
    unfold rd
    rw [Int.toNat_natCast, Int.toNat_natCast, List.getD_eq_getElem?_getD, List.getD_eq_getElem?_getD, List.getElem?_drop, List.getElem?_take_of_lt (by omega)])] at h1
  exact h1
theorem sMap_loop (l : List Int) (hb : ∀ x ∈ l, x = 0 ∨ x = 1) (hl : l.length ≤ 1024) {w h : Nat} (hw : Wd w h) (z : Nat) (hz : l.length + z = w * numB l.length w) : ∀ (d j : Nat) (acc : List S61), j + d = numB l.length w → acc.length = j →
    Ev (fun k => spec_Map.l1 k (w : Int) acc (padB l z) (h : Int) ((w * j : Nat) : Int)) (acc ++ ptsB l w h d j, true) := by
  obtain ⟨h1, h2, h3, h4, hlt, hge, hmx, hnm, hm0, _⟩ := numB_ok hw l.length hl
  have hpl := pad_len l z
  clear hm0
  generalize numB l.length w = N at *
  intro d
  induction d with
  | zero =>
    intro j acc hd ha
    obtain rfl : j = N := by omega
    refine Ev.fin (fun k => ?_)
    rw [spec_Map.l1, hpl, hz, if_neg (by omega), ptsB, List.append_nil]
  | succ d ih =>
    intro j acc hd ha
    have hj := hlt j (by omega)
    have en : w * (j + 1) = w * j + w := Nat.mul_succ w j
    have hup : w * (j + 1) ≤ w * N := Nat.mul_le_mul_left w (by omega)
    have hn := ih (j + 1) (acc ++ [(⟨levB h (gvB l h (w * j) 0), levB h (gvB l h (w * j + h) 0)⟩ : S61)]) (by omega) (by simp; omega)
    rw [List.append_assoc, en] at hn
    rw [en, ← hz] at hup
    show Ev _ (acc ++ ((⟨levB h (gvB l h (w * j) 0), levB h (gvB l h (w * j + h) 0)⟩ : S61) :: ptsB l w h d (j + 1)), true)
    rw [← hz] at hmx
    clear hge en ih hlt hz
    generalize w * j = p at *
    have b1 : p + h ≤ l.length + z := by omega
    have b2 : p + h + h ≤ l.length + z := by omega
    have c1 := cut_lev l hb z p h h1 b1
    have c2 := cut_lev l hb z (p + h) h h1 b2
    have e3 : p + h + h = p + w := by omega
    rw [e3] at c2
    have q1 : (p : Int) < ((padB l z).length : Int) := by rw [hpl]; omega
    have q2 : (0 : Int) ≤ (p : Int) := by omega
    have q3 : (p : Int) ≤ ((p + h : Nat) : Int) := by omega
    have q4 : ((p + h : Nat) : Int) ≤ ((padB l z).length : Int) := by rw [hpl]; omega
    have q5 : (0 : Int) ≤ ((p + h : Nat) : Int) := by omega
    have q6 : ((p + h : Nat) : Int) ≤ ((p + w : Nat) : Int) := by omega
    have q7 : ((p + w : Nat) : Int) ≤ ((padB l z).length : Int) := by rw [hpl]; omega
    have q8 : acc.length < 8796093022208 := by omega
    have e1 : wrap64 ((p : Int) + (h : Int)) = ((p + h : Nat) : Int) := wadd_nat (by omega)
    have e2 : wrap64 ((p : Int) + (w : Int)) = ((p + w : Nat) : Int) := by clear e1; exact wadd_nat (by omega)
    refine Ev.step (fun k => by rw [spec_Map.l1, e1, e2, if_pos q1, if_pos q2, if_pos q3, if_pos q4, Int.toNat_natCast, Int.toNat_natCast, Int.toNat_natCast]) (Ev.bind c1 ?_)
    refine Ev.pos q5 (Ev.pos q6 (Ev.pos q7 (Ev.bind c2 ?_)))
    refine Ev.pos q8 ?_
    exact hn
theorem sMap_pad (l : List Int) (hb : ∀ x ∈ l, x = 0 ∨ x = 1) (hl : l.length ≤ 1024) {w h : Nat} (hw : Wd w h) : ∀ (d z : Nat), l.length + z + d = w * numB l.length w →
    Ev (fun k => spec_Map.l0 k (w : Int) [] (padB l z)) (ptsB l w h (numB l.length w) 0, true) := by
  obtain ⟨h1, h2, h3, h4, hlt, hge, hmx, hnm, hm0, hmz⟩ := numB_ok hw l.length hl
  intro d
  induction d with
  | zero =>
    intro z hd
    have hz : l.length + z = w * numB l.length w := by omega
    have ht := sMap_loop l hb hl hw z hz (numB l.length w) 0 [] (by omega) rfl
    rw [Nat.mul_zero] at ht
    have e0 : (((padB l z).length : Nat) : Int) % (w : Int) = 0 := by
      rw [pad_len, hz]
      have : ((w * numB l.length w % w : Nat) : Int) = 0 := by rw [hm0]; rfl
      exact this
    have e2 : wrap64 (Int.tdiv (w : Int) 2) = (h : Int) := by
      rw [show Int.tdiv (w : Int) 2 = ((w / 2 : Nat) : Int) from rfl, w64 (by omega) (by omega)]; omega
    refine Ev.step (fun k => ?_) ht
    rw [spec_Map.l0, if_neg (by omega), if_pos e0, e2]; rfl
  | succ d ih =>
    intro z hd
    have hn := ih (z + 1) (by omega)
    have e0 : ¬ (((padB l z).length : Nat) : Int) % (w : Int) = 0 := by
      rw [pad_len]
      intro h0
      have : ((l.length + z) % w : Nat) = 0 := by exact_mod_cast h0
      exact hmz z (by omega) this
    have ep : padB l z ++ [(0 : Int)] = padB l (z + 1) := by
      unfold padB; rw [List.append_assoc, List.replicate_succ']
    refine Ev.step (fun k => ?_) hn
    rw [spec_Map.l0, if_neg (by omega), if_neg e0, if_pos (by rw [pad_len]; omega), ep]
def mapM (w : Int) (l : List Int) : List S61 × Bool := if bitsOk l = true ∧ (w = 2 ∨ w = 4 ∨ w = 6 ∨ w = 8) then (ptsB l w.toNat (w.toNat / 2) (numB l.length w.toNat) 0, true) else ([], false)
theorem isWidth_eq (w : Int) : impl_isWidth.f w = some (decide (w = 2 ∨ w = 4 ∨ w = 6 ∨ w = 8)) := by
  unfold impl_isWidth.f
  by_cases h1 : w = 2
  · subst h1; rfl
  · rw [if_neg h1]
    by_cases h2 : w = 4
    · subst h2; rfl
    · rw [if_neg h2]
      by_cases h3 : w = 6
      · subst h3; rfl
      · rw [if_neg h3]
        congr 1
        rw [Bool.eq_iff_iff]; simp; omega
theorem l13Width_eq (w : Int) : spec_l13Width.f w = some (decide (w = 2 ∨ w = 4 ∨ w = 6 ∨ w = 8)) := isWidth_eq w
theorem wd_of {w : Int} (h : w = 2 ∨ w = 4 ∨ w = 6 ∨ w = 8) : ∃ n : Nat, w = (n : Int) ∧ Wd n (n / 2) := by
  unfold Wd
  rcases h with rfl | rfl | rfl | rfl
  · exact ⟨2, rfl, by decide⟩
  · exact ⟨4, rfl, by decide⟩
  · exact ⟨6, rfl, by decide⟩
  · exact ⟨8, rfl, by decide⟩
theorem iMap_ev (w : Int) (l : List Int) (hl : l.length ≤ 1048576) : Ev (fun k => impl_Map.f k w l) (mapM w l) := by
  unfold impl_Map.f mapM
  refine Ev.bind (iBitsOk_ev l (by omega)) ?_
  by_cases hb : bitsOk l = true
  · refine Ev.pos hb (Ev.bind0 (isWidth_eq w) ?_)
    by_cases hw : w = 2 ∨ w = 4 ∨ w = 6 ∨ w = 8
    · rw [if_pos ⟨hb, hw⟩, decide_eq_true hw]
      refine Ev.pos rfl ?_
      obtain ⟨n, rfl, hn⟩ := wd_of hw
      obtain ⟨h1, h2, h3, h4, _⟩ := numB_ok hn l.length (bitsOk_len hb)
      have e2 : wrap64 (Int.tdiv (n : Int) 2) = ((n / 2 : Nat) : Int) := by
        rw [show Int.tdiv (n : Int) 2 = ((n / 2 : Nat) : Int) from rfl, w64 (by omega) (by omega)]
      have h := iMap_loop l (bitsOk_all hb) (bitsOk_len hb) hn (numB l.length n) 0 [] (by omega) rfl
      rw [Nat.mul_zero, List.nil_append] at h
      rw [e2, Int.toNat_natCast]
      exact h
    · rw [if_neg (fun h => hw h.2), decide_eq_false hw]
      exact Ev.neg (by decide) (Ev.now _)
  · rw [if_neg (fun h => hb h.1)]
    exact Ev.neg hb (Ev.now _)
theorem sMap_ev (w : Int) (l : List Int) (hl : l.length ≤ 1048576) : Ev (fun k => spec_Map.f k w l) (mapM w l) := by
  unfold spec_Map.f mapM
  refine Ev.bind0 rfl (Ev.bind (sBitsOk_ev l (by omega)) ?_)
  by_cases hb : bitsOk l = true
  · refine Ev.pos hb (Ev.bind0 (l13Width_eq w) ?_)
    by_cases hw : w = 2 ∨ w = 4 ∨ w = 6 ∨ w = 8
    · rw [if_pos ⟨hb, hw⟩, decide_eq_true hw]
      obtain ⟨n, rfl, hn⟩ := wd_of hw
      have hlen := bitsOk_len hb
      obtain ⟨h1, h2, h3, h4, hlt, hge, _⟩ := numB_ok hn l.length hlen
      have h := sMap_pad l (bitsOk_all hb) hlen hn (n * numB l.length n - l.length) 0 (by omega)
      rw [Int.toNat_natCast]
      refine Ev.step (fun k => ?_) h
      rw [spec_Map.j0, if_neg (by decide), Option.bind_some, if_pos (by rw [List.length_nil]; omega)]
      congr 1
      show [] ++ l = l ++ List.replicate 0 0
      rw [List.replicate_zero, List.append_nil, List.nil_append]
    · rw [if_neg (fun h => hw h.2), decide_eq_false hw]
      exact Ev.fin (fun k => by rw [spec_Map.j0, if_pos (by decide)])
  · rw [if_neg (fun h => hb h.1)]
    exact Ev.neg hb (Ev.fin (fun k => by rw [spec_Map.j0, if_pos rfl]))
theorem mapM_len (w : Int) (l : List Int) : (mapM w l).1.length ≤ 17592186044416 := by
  unfold mapM
  split
  · next h =>
    obtain ⟨n, rfl, hn⟩ := wd_of h.2
    obtain ⟨_, _, _, _, _, _, _, h8, _⟩ := numB_ok hn l.length (bitsOk_len h.1)
    simp only [ptsB_len, Int.toNat_natCast]; omega
  · simp
theorem Map_both (w : Int) (l : List Int) (hl : l.length ≤ 1048576) : ∃ r ok, Ev (fun k => spec_Map.f k w l) (r, ok) ∧ Ev (fun k => impl_Map.f k w l) (r, ok) ∧ r.length ≤ 17592186044416 :=
  ⟨(mapM w l).1, (mapM w l).2, sMap_ev w l hl, iMap_ev w l hl, mapM_len w l⟩
theorem toIntS_l0 (l : List Int) (hl : l.length ≤ 17592186044416) : ∀ (d i : Nat) (x : List Int), i + d = l.length → x.length = l.length → x.take i = l.take i →
    Ev (fun k => laws_toIntS.l0 k l x (i : Int)) l := by
  intro d
  induction d with
  | zero =>
    intro i x hd hx ht
    refine Ev.fin (fun k => ?_)
    rw [laws_toIntS.l0, if_neg (by omega)]
    rw [List.take_of_length_le (by omega), List.take_of_length_le (by omega)] at ht
    rw [ht]
  | succ d ih =>
    intro i x hd hx ht
    refine Ev.step (fun k => ?_) (ih (i + 1) (x.set i (rd l (i : Int))) (by omega) (by simpa using hx) ?_)
    · rw [laws_toIntS.l0, if_pos (by omega), if_pos (by omega), if_pos (by omega), wsucc (by omega), Int.toNat_natCast]
    · rw [take_rd (by simp; omega), take_rd (by omega), List.take_set_of_le (by omega), ht, rd_lt (by simp; omega), List.getElem_set_self]
theorem toIntS_ev (l : List Int) (hl : l.length ≤ 17592186044416) : Ev (fun k => laws_toIntS.f k l) l := by
  unfold laws_toIntS.f
  refine Ev.pos (by omega) (Ev.pos (by omega) ?_)
  exact toIntS_l0 l hl l.length 0 _ (by omega) (by simp) (by simp)
theorem eqIntS_l0 (l : List Int) (hl : l.length ≤ 17592186044416) : ∀ (d i : Nat), i + d = l.length → Ev (fun k => laws_eqIntS.l0 k l l (i : Int)) true := by
  intro d
  induction d with
  | zero =>
    intro i hd
    refine Ev.fin (fun k => ?_)
    rw [laws_eqIntS.l0, if_neg (by omega)]
  | succ d ih =>
    intro i hd
    refine Ev.step (fun k => ?_) (ih (i + 1) (by omega))
    rw [laws_eqIntS.l0, if_pos (by omega), if_pos (by omega), if_pos (by omega), if_pos rfl, wsucc (by omega)]
theorem eqIntS_ev (l : List Int) (hl : l.length ≤ 17592186044416) : Ev (fun k => laws_eqIntS.f k l l) true := by
  unfold laws_eqIntS.f
  exact Ev.pos rfl (eqIntS_l0 l hl l.length 0 (by omega))
theorem markIntS_l0 (n : Nat) (s : Int) (hs : 0 ≤ s ∧ s ≤ 100000000000000) (hn : n ≤ 17592186044416) : ∀ (d i : Nat) (x : List Int), i + d = n → x.length = n → x.take i = mkL s i →
    Ev (fun k => laws_markIntS.l0 k x (s + (i : Int)) (i : Int)) (s + (n : Int), mkL s n) := by
  intro d
  induction d with
  | zero =>
    intro i x hd hx ht
    refine Ev.fin (fun k => ?_)
    rw [laws_markIntS.l0, if_neg (by omega)]
    obtain rfl : i = n := by omega
    rw [List.take_of_length_le (by omega)] at ht
    rw [ht]
  | succ d ih =>
    intro i x hd hx ht
    refine Ev.step (fun k => ?_) (ih (i + 1) (x.set i (s + (i : Int))) (by omega) (by simpa using hx) ?_)
    · have e : wrap64 (s + (i : Int) + 1) = s + ((i + 1 : Nat) : Int) := by rw [w64 (by omega) (by omega)]; omega
      rw [laws_markIntS.l0, if_pos (by omega), if_pos (by omega), wsucc (by omega), e, Int.toNat_natCast]
    · rw [take_rd (by simp; omega), List.take_set_of_le (by omega), ht, rd_lt (by simp; omega), List.getElem_set_self]
      rfl
theorem markIntS_ev (x : List Int) (s : Int) (hs : 0 ≤ s ∧ s ≤ 100000000000000) (hl : x.length ≤ 17592186044416) : Ev (fun k => laws_markIntS.f k x s) (s + (x.length : Int), mkL s x.length) := by
  unfold laws_markIntS.f
  exact Ev.cast (Ev.congr (fun k => by rw [Int.natCast_zero, Int.add_zero]) (markIntS_l0 x.length s hs hl x.length 0 x (by omega) rfl (by simp [mkL]))) rfl
theorem eqPointS_l0 (l : List S61) (hl : l.length ≤ 17592186044416) : ∀ (d i : Nat), i + d = l.length → Ev (fun k => laws_eqPointS.l0 k l l (i : Int)) true := by
  have e : ∀ a b, laws_eqPoint.f a b a b = some true := by
    intro a b; unfold laws_eqPoint.f; rw [if_pos rfl, if_pos rfl]
  intro d
  induction d with
  | zero =>
    intro i hd
    refine Ev.fin (fun k => ?_)
    rw [laws_eqPointS.l0, if_neg (by omega)]
  | succ d ih =>
    intro i hd
    refine Ev.step (fun k => ?_) (ih (i + 1) (by omega))
    rw [laws_eqPointS.l0, if_pos (by omega), if_pos (by omega), if_pos (by omega), e, Option.bind_some, if_pos rfl, wsucc (by omega)]
theorem eqPointS_ev (l : List S61) (hl : l.length ≤ 17592186044416) : Ev (fun k => laws_eqPointS.f k l l) true := by
  unfold laws_eqPointS.f
  exact Ev.pos rfl (eqPointS_l0 l hl l.length 0 (by omega))
theorem rdPt_lt {xs : List S61} {i : Nat} (h : i < xs.length) : rd_T61 xs (i : Int) = xs[i] := by
  unfold rd_T61; rw [Int.toNat_natCast, List.getD_eq_getElem?_getD, List.getElem?_eq_getElem h]; rfl
theorem takePt_rd {xs : List S61} {i : Nat} (h : i < xs.length) : xs.take (i + 1) = xs.take i ++ [rd_T61 xs (i : Int)] := by
  rw [rdPt_lt h, List.take_succ_eq_append_getElem h]
def mkPt (s : Int) : Nat → List S61
  | 0 => []
  | n + 1 => mkPt s n ++ [(⟨s + 2 * (n : Int), s + 2 * (n : Int) + 1⟩ : S61)]
theorem mkPt_length (s : Int) : ∀ n, (mkPt s n).length = n
  | 0 => rfl
  | n + 1 => by show (mkPt s n ++ [(⟨s + 2 * (n : Int), s + 2 * (n : Int) + 1⟩ : S61)]).length = n + 1; simp [mkPt_length s n]
theorem rd_mkPt (s : Int) : ∀ {n i : Nat}, i < n → rd_T61 (mkPt s n) (i : Int) = (⟨s + 2 * (i : Int), s + 2 * (i : Int) + 1⟩ : S61)
  | n + 1, i, h => by
    have hl := mkPt_length s n
    unfold rd_T61
    rw [Int.toNat_natCast]
    show (mkPt s n ++ [(⟨s + 2 * (n : Int), s + 2 * (n : Int) + 1⟩ : S61)]).getD i z61 = _
    rw [List.getD_eq_getElem?_getD]
    by_cases e : i < n
    · rw [List.getElem?_append_left (by omega), ← List.getD_eq_getElem?_getD]
      have := rd_mkPt s e
      unfold rd_T61 at this
      rwa [Int.toNat_natCast] at this
    · obtain rfl : i = n := by omega
      rw [List.getElem?_append_right (by omega), hl]
      simp
theorem markPointS_l0 (n : Nat) (s : Int) (hs : 0 ≤ s ∧ s ≤ 100000000000000) (hn : n ≤ 17592186044416) : ∀ (d i : Nat) (x : List S61), i + d = n → x.length = n → x.take i = mkPt s i →
    Ev (fun k => laws_markPointS.l0 k x (s + 2 * (i : Int)) (i : Int)) (s + 2 * (n : Int), mkPt s n) := by
  intro d
  induction d with
  | zero =>
    intro i x hd hx ht
    refine Ev.fin (fun k => ?_)
    rw [laws_markPointS.l0, if_neg (by omega)]
    obtain rfl : i = n := by omega
    rw [List.take_of_length_le (by omega)] at ht
    rw [ht]
  | succ d ih =>
    intro i x hd hx ht
    refine Ev.step (fun k => ?_) (ih (i + 1) (x.set i ⟨s + 2 * (i : Int), s + 2 * (i : Int) + 1⟩) (by omega) (by simpa using hx) ?_)
    · have e1 : wrap64 (s + 2 * (i : Int) + 1) = s + 2 * (i : Int) + 1 := w64 (by omega) (by omega)
      have e2 : wrap64 (s + 2 * (i : Int) + 1 + 1) = s + 2 * ((i + 1 : Nat) : Int) := by rw [w64 (by omega) (by omega)]; omega
      rw [laws_markPointS.l0, if_pos (by omega), if_pos (by omega), Option.bind_some, wsucc (by omega), e1, e2, Int.toNat_natCast, List.set_set]
      rw [rdPt_lt (xs := x.set i _) (by simp; omega), List.getElem_set_self]
    · rw [takePt_rd (by simp; omega), List.take_set_of_le (by omega), ht, rdPt_lt (by simp; omega), List.getElem_set_self]
      rfl
theorem markPointS_ev (x : List S61) (s : Int) (hs : 0 ≤ s ∧ s ≤ 100000000000000) (hl : x.length ≤ 17592186044416) : Ev (fun k => laws_markPointS.f k x s) (s + 2 * (x.length : Int), mkPt s x.length) := by
  unfold laws_markPointS.f
  exact Ev.cast (Ev.congr (fun k => by rw [Int.natCast_zero, Int.mul_zero, Int.add_zero]) (markPointS_l0 x.length s hs hl x.length 0 x (by omega) rfl (by simp [mkPt]))) rfl
theorem heldPointS_l0 (n : Nat) (s : Int) (hs : 0 ≤ s ∧ s ≤ 100000000000000) (hn : n ≤ 17592186044416) : ∀ (d i : Nat), i + d = n → Ev (fun k => laws_heldPointS.l0 k (mkPt s n) (s + 2 * (i : Int)) (i : Int)) (s + 2 * (n : Int)) := by
  intro d
  induction d with
  | zero =>
    intro i hd
    refine Ev.fin (fun k => ?_)
    rw [laws_heldPointS.l0, mkPt_length, if_neg (by omega)]
    congr 1; omega
  | succ d ih =>
    intro i hd
    refine Ev.step (fun k => ?_) (ih (i + 1) (by omega))
    have e1 : wrap64 (s + 2 * (i : Int) + 1) = s + 2 * (i : Int) + 1 := w64 (by omega) (by omega)
    have e2 : wrap64 (s + 2 * (i : Int) + 1 + 1) = s + 2 * ((i + 1 : Nat) : Int) := by rw [w64 (by omega) (by omega)]; omega
    rw [laws_heldPointS.l0, mkPt_length, if_pos (by omega), if_pos (by omega), rd_mkPt s (by omega), if_pos rfl, e1, if_pos rfl, wsucc (by omega), e2]
theorem heldPointS_ev (n : Nat) (s : Int) (hs : 0 ≤ s ∧ s ≤ 100000000000000) (hl : n ≤ 17592186044416) : Ev (fun k => laws_heldPointS.f k (mkPt s n) s) (s + 2 * (n : Int)) := by
  unfold laws_heldPointS.f
  exact Ev.congr (fun k => by rw [Int.natCast_zero, Int.mul_zero, Int.add_zero]) (heldPointS_l0 n s hs hl n 0 (by omega))

theorem FnExactMap : laws_FnExactMap.Pure := by
  intro w l ww _ bl wl
  refine Ev.rounds ?_
  unfold laws_FnExactMap.f
  by_cases gl : (l.length : Int) > 1048576
  · exact Ev.pos gl (Ev.now true)
  refine Ev.neg gl ?_
  have hl : l.length ≤ 1048576 := by omega
  have hl4 : l.length ≤ 17592186044416 := by omega
  obtain ⟨r, ok, hS, hI, hr⟩ := Map_both w l hl
  have ml : 0 ≤ (1 : Int) ∧ (1 : Int) ≤ 100000000000000 := by omega
  have m1 : 0 ≤ (1 : Int) ∧ (1 : Int) ≤ 100000000000000 := by omega
  repeat (first
    | exact Ev.now true
    | with_reducible refine Ev.bind (toIntS_ev l hl4) ?_
    | with_reducible refine Ev.bind hS ?_
    | with_reducible refine Ev.bind hI ?_
    | with_reducible refine Ev.bind (eqIntS_ev l hl4) ?_
    | with_reducible refine Ev.bind (eqPointS_ev r hr) ?_
    | with_reducible refine Ev.bind (markIntS_ev l (1) ml hl4) ?_
    | with_reducible refine Ev.bind (markPointS_ev r 1 m1 hr) ?_
    | with_reducible refine Ev.bind (heldPointS_ev r.length 1 m1 hr) ?_
    | refine Ev.pos rfl ?_
    | (refine Ev.neg ?_ ?_; (· first | (simp; done) | omega))
    | refine Ev.step (fun k => by rw [laws_FnExactMap.j0]) ?_
    | refine Ev.step (fun k => by rw [laws_FnExactMap.j1]) ?_
    | refine Ev.step (fun k => by rw [laws_FnExactMap.j2]) ?_)

end Go.Proofs.Ytnpoimjdkjhcpaa.Pure
