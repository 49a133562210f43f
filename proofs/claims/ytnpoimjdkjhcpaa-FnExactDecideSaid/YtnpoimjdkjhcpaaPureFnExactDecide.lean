/- Decide tells what the reference tells, leaves its arguments alone and answers new memory, for all arguments; no condition. -/
import Derived.Test.YtnpoimjdkjhcpaaQFnExactDecidex6
import Derived.Test.YtnpoimjdkjhcpaaCom
import Derived.Test.YtnpoimjdkjhcpaaGry
import Derived.Test.YtnpoimjdkjhcpaaMark
set_option linter.unusedVariables false
set_option linter.unusedSimpArgs false
namespace Go.Proofs.Ytnpoimjdkjhcpaa.Pure
open Go.RowKit Go.Proofs.Ytnpoimjdkjhcpaa.PFnExactDecide Go.Proofs.YtnpoimjdkjhcpaaW.PrintWords Go.Proofs.YtnpoimjdkjhcpaaW.PrintLast Go.Proofs.Ytnpoimjdkjhcpaa.Com Go.Proofs.Ytnpoimjdkjhcpaa.Gry Go.Proofs.Ytnpoimjdkjhcpaa.Mark

theorem l1In_eq (a b c : Int) : spec_l1In.f a b c = some (decide (b ≤ a ∧ a ≤ c)) := by
  unfold spec_l1In.f
  by_cases h : b ≤ a
  · rw [if_pos h]; simp [h]
  · rw [if_neg h]; simp [h]
theorem shr_nat (x y : Nat) (h : y ≤ 64) : shr .i64 (x : Int) (y : Int) = ((x / 2 ^ y : Nat) : Int) := by
  unfold shr
  rw [Int.toNat_natCast, show min y (IntKind.bits .i64) = y from Nat.min_eq_left h]
  exact (Int.natCast_ediv x (2 ^ y)).symm
def ugM (a : Int) : Int := if 0 ≤ a ∧ a ≤ 4000000000000000000 then ((px 64 a.toNat : Nat) : Int) else 0
/-- A number read bit by bit, the highest first: d bits from place i on, on top of g. -/
def gvB (l : List Int) : Nat → Nat → Nat → Nat
  | 0, _, g => g
  | d + 1, i, g => gvB l d (i + 1) (2 * g + (rd l (i : Int)).toNat)
theorem gvB_congr {a b : List Int} : ∀ (d i j g : Nat), (∀ t, t < d → rd a ((i + t : Nat) : Int) = rd b ((j + t : Nat) : Int)) → gvB a d i g = gvB b d j g
  | 0, _, _, _, _ => rfl
  | d + 1, i, j, g, h => by
    show gvB a d (i + 1) (2 * g + (rd a (i : Int)).toNat) = gvB b d (j + 1) (2 * g + (rd b (j : Int)).toNat)
    have h0 : rd a (i : Int) = rd b (j : Int) := h 0 (by omega)
    rw [h0]
    refine gvB_congr d (i + 1) (j + 1) _ (fun t ht => ?_)
    have := h (t + 1) (by omega)
    rw [show i + 1 + t = i + (t + 1) by omega, show j + 1 + t = j + (t + 1) by omega]
    exact this
theorem rd_bit {l : List Int} (hb : ∀ x ∈ l, x = 0 ∨ x = 1) (i : Nat) : rd l (i : Int) = 0 ∨ rd l (i : Int) = 1 := by
  by_cases h : i < l.length
  · exact hb _ (rd_mem h)
  · left; unfold rd; rw [Int.toNat_natCast, List.getD_eq_getElem?_getD, List.getElem?_eq_none (by omega)]; rfl
theorem rd_out {l : List Int} {i : Nat} (h : l.length ≤ i) : rd l (i : Int) = 0 := by
  unfold rd; rw [Int.toNat_natCast, List.getD_eq_getElem?_getD, List.getElem?_eq_none h]; rfl
def levB (h g : Nat) : Int := 2 * ((px 64 g : Nat) : Int) - (((2 ^ h : Nat) : Int) - 1)
theorem shl_one {h : Nat} (hh : h ≤ 4) : shl .i64 1 (h : Int) = ((2 ^ h : Nat) : Int) := by
  have t : (List.range 5).all (fun h => decide (shl .i64 1 (h : Int) = ((2 ^ h : Nat) : Int))) = true := by decide +kernel
  exact of_decide_eq_true (List.all_eq_true.mp t h (List.mem_range.mpr (by omega)))
theorem two_le {h : Nat} (hh : h ≤ 4) : 1 ≤ 2 ^ h ∧ 2 ^ h ≤ 16 := ⟨Nat.one_le_two_pow, Nat.pow_le_pow_right (n := 2) (by omega) hh⟩
theorem lev_end {h g : Nat} (hh : h ≤ 4) (hg : g < 2 ^ h) : wrap64 (wrap64 (2 * ((px 64 g : Nat) : Int)) - wrap64 (shl .i64 1 (h : Int) - 1)) = levB h g := by
  have h2 := two_le hh
  have h1 := px_lt 4 64 g (by omega)
  rw [shl_one hh, w64 (n := 2 * ((px 64 g : Nat) : Int)) (by omega) (by omega), w64 (n := ((2 ^ h : Nat) : Int) - 1) (by omega) (by omega), w64 (by omega) (by omega)]; rfl
/-- A width and its half. -/
def Wd (w h : Nat) : Prop := (w = 2 ∧ h = 1) ∨ (w = 4 ∧ h = 2) ∨ (w = 6 ∧ h = 3) ∨ (w = 8 ∧ h = 4)
def ptsB (l : List Int) (w h : Nat) : Nat → Nat → List S61
  | 0, _ => []
  | d + 1, j => (⟨levB h (gvB l h (w * j) 0), levB h (gvB l h (w * j + h) 0)⟩ : S61) :: ptsB l w h d (j + 1)
theorem ptsB_len (l : List Int) (w h : Nat) : ∀ d j, (ptsB l w h d j).length = d
  | 0, _ => rfl
  | d + 1, j => by simp [ptsB, ptsB_len l w h d]
def numB (n w : Nat) : Nat := (n + w - 1) / w
theorem numB_ok {w h : Nat} (hw : Wd w h) (n : Nat) (hn : n ≤ 1024) : h ≤ 4 ∧ w ≤ 8 ∧ w = 2 * h ∧ 1 ≤ h ∧ (∀ j, j < numB n w → w * j < n) ∧ n ≤ w * numB n w ∧ w * numB n w ≤ 1032 ∧ numB n w ≤ 1024 ∧ (w * numB n w) % w = 0 ∧ (∀ z, n + z < w * numB n w → (n + z) % w ≠ 0) := by
  unfold numB
  rcases hw with ⟨rfl, rfl⟩ | ⟨rfl, rfl⟩ | ⟨rfl, rfl⟩ | ⟨rfl, rfl⟩
  all_goals refine ⟨by omega, by omega, by omega, by omega, fun j hj => by omega, by omega, by omega, by omega, by omega, fun z hz => by omega⟩
theorem wadd_nat {p q : Nat} (h : p + q ≤ 4000000) : wrap64 ((p : Int) + (q : Int)) = ((p + q : Nat) : Int) := by rw [w64 (by omega) (by omega)]; omega
/-- Bits with z noughts behind them. -/
def padB (l : List Int) (z : Nat) : List Int := l ++ List.replicate z 0
theorem pad_len (l : List Int) (z : Nat) : (padB l z).length = l.length + z := by simp [padB]
theorem pad_rd (l : List Int) (z i : Nat) : rd (padB l z) (i : Int) = rd l (i : Int) := by
  by_cases h : i < l.length
  · unfold rd padB; rw [Int.toNat_natCast, List.getD_eq_getElem?_getD, List.getElem?_append_left h, ← List.getD_eq_getElem?_getD]
  · rw [rd_out (l := l) (by omega)]
    unfold rd padB; rw [Int.toNat_natCast, List.getD_eq_getElem?_getD, List.getElem?_append_right (by omega), List.getElem?_replicate]
    split <;> rfl
theorem pad_bits {l : List Int} (hb : ∀ x ∈ l, x = 0 ∨ x = 1) (z : Nat) : ∀ x ∈ padB l z, x = 0 ∨ x = 1 := by
  intro x hx
  rcases List.mem_append.1 hx with hx | hx
  · exact hb x hx
  · left; exact (List.mem_replicate.1 hx).2
def mapM (w : Int) (l : List Int) : List S61 × Bool := if bitsOk l = true ∧ (w = 2 ∨ w = 4 ∨ w = 6 ∨ w = 8) then (ptsB l w.toNat (w.toNat / 2) (numB l.length w.toNat) 0, true) else ([], false)
theorem isWidth_eq (w : Int) : impl_isWidth.f w = some (decide (w = 2 ∨ w = 4 ∨ w = 6 ∨ w = 8)) := by
  unfold impl_isWidth.f
  by_cases h1 : w = 2
  · subst h1; rfl
  · rw [if_neg h1]
    by_cases h2 : w = 4
    · subst h2; rfl
    · rw [if_neg h2]
      by_cases h3 : w = 6
      · subst h3; rfl
      · rw [if_neg h3]
        congr 1
        rw [Bool.eq_iff_iff]; simp; omega
theorem l13Width_eq (w : Int) : spec_l13Width.f w = some (decide (w = 2 ∨ w = 4 ∨ w = 6 ∨ w = 8)) := isWidth_eq w
theorem wd_of {w : Int} (h : w = 2 ∨ w = 4 ∨ w = 6 ∨ w = 8) : ∃ n : Nat, w = (n : Int) ∧ Wd n (n / 2) := by
  unfold Wd
  rcases h with rfl | rfl | rfl | rfl
  · exact ⟨2, rfl, by decide⟩
  · exact ⟨4, rfl, by decide⟩
  · exact ⟨6, rfl, by decide⟩
  · exact ⟨8, rfl, by decide⟩
theorem mapM_len (w : Int) (l : List Int) : (mapM w l).1.length ≤ 17592186044416 := by
  unfold mapM
  split
  · next h =>
    obtain ⟨n, rfl, hn⟩ := wd_of h.2
    obtain ⟨_, _, _, _, _, _, _, h8, _⟩ := numB_ok hn l.length (bitsOk_len h.1)
    simp only [ptsB_len, Int.toNat_natCast]; omega
  · simp
theorem rdPt_lt {xs : List S61} {i : Nat} (h : i < xs.length) : rd_T61 xs (i : Int) = xs[i] := by
  unfold rd_T61; rw [Int.toNat_natCast, List.getD_eq_getElem?_getD, List.getElem?_eq_getElem h]; rfl
theorem takePt_rd {xs : List S61} {i : Nat} (h : i < xs.length) : xs.take (i + 1) = xs.take i ++ [rd_T61 xs (i : Int)] := by
  rw [rdPt_lt h, List.take_succ_eq_append_getElem h]
theorem dropPt_rd {xs : List S61} {i : Nat} (h : i < xs.length) : xs.drop i = rd_T61 xs (i : Int) :: xs.drop (i + 1) := by
  rw [rdPt_lt h, List.drop_eq_getElem_cons h]
theorem floor2 (t : Int) (h : -4000000000 ≤ t ∧ t ≤ 4000000000) : spec_l5Floor.f t 2 = some (t / 2) := by
  have hq : -2000000000 ≤ t / 2 ∧ t / 2 ≤ 2000000000 := by omega
  unfold spec_l5Floor.f
  rw [if_neg (by decide)]
  by_cases hc : 0 ≤ t ∨ (2 : Int) ∣ t
  · have em : Int.tmod t 2 = t % 2 := by rw [Int.tmod_eq_emod, if_pos hc]; omega
    have eq : Int.tdiv t 2 = t / 2 := by rw [Int.tdiv_eq_ediv, if_pos hc]; omega
    rw [em, eq, if_neg (by omega), w64 (by omega) (by omega)]
  · have em : Int.tmod t 2 = t % 2 - 2 := by rw [Int.tmod_eq_emod, if_neg hc]; rfl
    have eq : Int.tdiv t 2 = t / 2 + 1 := by rw [Int.tdiv_eq_ediv, if_neg hc]; rfl
    rw [em, eq, if_pos (by omega), w64 (n := t / 2 + 1) (by omega) (by omega), w64 (by omega) (by omega)]
    congr 1; omega
theorem down2 (t : Int) (h : -4000000000 ≤ t ∧ t ≤ 4000000000) : impl_down.f t 2 = some (t / 2, t % 2) := by
  have hq : -2000000000 ≤ t / 2 ∧ t / 2 ≤ 2000000000 := by omega
  unfold impl_down.f
  rw [if_neg (by decide)]
  by_cases hc : 0 ≤ t ∨ (2 : Int) ∣ t
  · have em : Int.tmod t 2 = t % 2 := by rw [Int.tmod_eq_emod, if_pos hc]; omega
    have eq : Int.tdiv t 2 = t / 2 := by rw [Int.tdiv_eq_ediv, if_pos hc]; omega
    rw [em, eq, if_neg (by omega), w64 (by omega) (by omega)]
  · have em : Int.tmod t 2 = t % 2 - 2 := by rw [Int.tmod_eq_emod, if_neg hc]; rfl
    have eq : Int.tdiv t 2 = t / 2 + 1 := by rw [Int.tdiv_eq_ediv, if_neg hc]; rfl
    rw [em, eq, if_pos (by omega), w64 (n := t / 2 + 1) (by omega) (by omega), w64 (n := t / 2 + 1 - 1) (by omega) (by omega), w64 (by omega) (by omega)]
    congr 2 <;> omega
theorem half_r (t : Int) (h : -4000000000 ≤ t ∧ t ≤ 4000000000) : (if t % 2 ≥ wrap64 (2 - t % 2) then some (wrap64 (t / 2 + 1)) else some (t / 2)) = some ((t + 1) / 2) := by
  rw [w64 (n := 2 - t % 2) (by omega) (by omega), w64 (n := t / 2 + 1) (by omega) (by omega)]
  split
  · congr 1; omega
  · congr 1; omega
theorem iRound2 (t : Int) (h : -4000000000 ≤ t ∧ t ≤ 4000000000) : Ev (fun k => impl_RoundDiv.f k t 2) ((t + 1) / 2) := by
  unfold impl_RoundDiv.f
  have hb : impl_big18.f t = some true := by
    unfold impl_big18.f
    rw [if_pos (by omega), decide_eq_true (by omega)]
  refine Ev.neg (by decide) (Ev.neg (by decide) (Ev.bind0 hb ?_))
  refine Ev.fin (fun k => ?_)
  rw [impl_RoundDiv.j0, if_neg (by decide), down2 t h, Option.bind_some]
  exact half_r t h
theorem sRound2 (t : Int) (h : -4000000000 ≤ t ∧ t ≤ 4000000000) : Ev (fun k => spec_RoundDiv.f k t 2) ((t + 1) / 2) := by
  unfold spec_RoundDiv.f
  refine Ev.bind0 (l1In_eq _ _ _) (Ev.pos (by decide) (Ev.bind0 (l1In_eq _ _ _) ?_))
  rw [decide_eq_true (by omega)]
  refine Ev.fin (fun k => ?_)
  rw [spec_RoundDiv.j0, if_neg (by decide), floor2 t h, Option.bind_some]
  have e : wrap64 (t - wrap64 (t / 2 * 2)) = t % 2 := by
    rw [w64 (n := t / 2 * 2) (by omega) (by omega), w64 (by omega) (by omega)]; omega
  rw [e]
  exact half_r t h
/-- The bits of a number, the highest first. -/
def bitsB (g : Nat) : Nat → List Int
  | 0 => []
  | k + 1 => ((g / 2 ^ k % 2 : Nat) : Int) :: bitsB g k
theorem bitsB_len (g : Nat) : ∀ k, (bitsB g k).length = k
  | 0 => rfl
  | k + 1 => by simp [bitsB, bitsB_len g k]
/-- The place of the level nearest to x. -/
def nearB (h : Nat) (x : Int) : Nat := (if (x + (((2 ^ h : Nat) : Int) - 1) + 1) / 2 < 0 then 0 else if (x + (((2 ^ h : Nat) : Int) - 1) + 1) / 2 > ((2 ^ h : Nat) : Int) - 1 then ((2 ^ h : Nat) : Int) - 1 else (x + (((2 ^ h : Nat) : Int) - 1) + 1) / 2).toNat
def decB (h : Nat) (x : Int) : List Int := bitsB (nearB h x ^^^ nearB h x / 2) h
theorem decB_len (h : Nat) (x : Int) : (decB h x).length = h := bitsB_len _ _
theorem nearB_le {h : Nat} (hh : h ≤ 4) (x : Int) : nearB h x ≤ 15 := by
  have h2 := two_le hh
  unfold nearB
  repeat' split
  all_goals omega
theorem nearB_eq {h : Nat} (hh : h ≤ 4) (x : Int) : ((nearB h x : Nat) : Int) = (if (x + (((2 ^ h : Nat) : Int) - 1) + 1) / 2 < 0 then 0 else if (x + (((2 ^ h : Nat) : Int) - 1) + 1) / 2 > ((2 ^ h : Nat) : Int) - 1 then ((2 ^ h : Nat) : Int) - 1 else (x + (((2 ^ h : Nat) : Int) - 1) + 1) / 2) := by
  have h2 := two_le hh
  unfold nearB
  rw [Int.toNat_of_nonneg]
  repeat' split
  all_goals omega
theorem iGray_eq (u : Nat) (hu : u ≤ 15) : impl_Gray.f (u : Int) = some ((u ^^^ u / 2 : Nat) : Int) := by
  unfold impl_Gray.f
  rw [if_neg (by omega), if_neg (by omega)]
  rw [show (u : Int) / 2 = ((u / 2 : Nat) : Int) from rfl, xor64 _ _ (by omega) (by omega)]
theorem sGray_eq (u : Nat) (hu : u ≤ 15) : spec_Gray.f (u : Int) = some ((u ^^^ u / 2 : Nat) : Int) := by
  unfold spec_Gray.f
  rw [l1In_eq, Option.bind_some, decide_eq_true (by omega), if_pos rfl]
  rw [show Int.tdiv (u : Int) 2 = ((u / 2 : Nat) : Int) from rfl, w64 (by omega) (by omega), xor64 _ _ (by omega) (by omega)]
theorem iPut_loop (g : Nat) : ∀ (d : Nat) (l : List Int), d ≤ 4 → l.length + d ≤ 100000000 → Ev (fun k => impl_Decide.v0 k l (g : Int) ((d : Int) - 1)) (l ++ bitsB g d) := by
  intro d
  induction d with
  | zero =>
    intro l _ _
    exact Ev.fin (fun k => by rw [impl_Decide.v0, if_neg (by omega), bitsB, List.append_nil])
  | succ d ih =>
    intro l hd hl
    have hn := ih (l ++ [((g / 2 ^ d % 2 : Nat) : Int)]) (by omega) (by simp; omega)
    rw [List.append_assoc] at hn
    have e0 : ((d + 1 : Nat) : Int) - 1 = (d : Int) := by omega
    have e1 : wrap64 ((d : Int) - 1) = (d : Int) - 1 := w64 (by omega) (by omega)
    refine Ev.step (fun k => ?_) hn
    rw [e0, impl_Decide.v0, if_pos (by omega), if_pos (by omega), e1, shr_nat _ _ (by omega), and64_1]
    rfl
theorem near_put {h : Nat} (hh : h ≤ 4) (x : Int) : impl_nearer.f ((x + (((2 ^ h : Nat) : Int) - 1) + 1) / 2) 0 (((2 ^ h : Nat) : Int) - 1) = some ((nearB h x : Nat) : Int) := by
  have h2 := two_le hh
  rw [nearB_eq hh]
  unfold impl_nearer.f mn mx
  congr 1
  repeat' split
  all_goals omega
theorem iPut_ev {h : Nat} (h1 : 1 ≤ h) (hh : h ≤ 4) (x : Int) (hx : -1000000000 ≤ x ∧ x ≤ 1000000000) (l : List Int) (hl : l.length ≤ 10000000) : Ev (fun k => impl_Decide.put k l (h : Int) x) (l ++ decB h x) := by
  have h2 := two_le hh
  have hu := nearB_le hh x
  unfold impl_Decide.put
  have e1 : wrap64 (wrap64 (x + shl .i64 1 (h : Int)) - 1) = x + (((2 ^ h : Nat) : Int) - 1) := by
    rw [shl_one hh, w64 (n := x + ((2 ^ h : Nat) : Int)) (by omega) (by omega), w64 (by omega) (by omega)]; omega
  have e2 : wrap64 (shl .i64 1 (h : Int) - 1) = ((2 ^ h : Nat) : Int) - 1 := by
    rw [shl_one hh, w64 (by omega) (by omega)]
  have e3 : wrap64 ((h : Int) - 1) = (h : Int) - 1 := w64 (by omega) (by omega)
  have b1 : -4000000000 ≤ x + (((2 ^ h : Nat) : Int) - 1) ∧ x + (((2 ^ h : Nat) : Int) - 1) ≤ 4000000000 := by clear e1 e2 e3; omega
  have q1 : (0 : Int) ≤ (h : Int) := by clear e1 e2 e3; omega
  have q2 : l.length + h ≤ 100000000 := by clear e1 e2 e3; omega
  rw [e1, e2, e3]
  refine Ev.pos q1 (Ev.bind (iRound2 _ b1) (Ev.bind0 (near_put hh x) (Ev.bind0 (iGray_eq _ hu) ?_)))
  exact iPut_loop _ h l hh q2
theorem sBits_loop (g : Nat) : ∀ (d : Nat) (l : List Int), d ≤ 4 → l.length + d ≤ 100000000 → Ev (fun k => spec_l13Bits.l0 k (g : Int) l ((d : Int) - 1)) (l ++ bitsB g d) := by
  intro d
  induction d with
  | zero =>
    intro l _ _
    exact Ev.fin (fun k => by rw [spec_l13Bits.l0, if_neg (by omega), bitsB, List.append_nil])
  | succ d ih =>
    intro l hd hl
    have hn := ih (l ++ [((g / 2 ^ d % 2 : Nat) : Int)]) (by omega) (by simp; omega)
    rw [List.append_assoc] at hn
    have e0 : ((d + 1 : Nat) : Int) - 1 = (d : Int) := by omega
    have e1 : wrap64 ((d : Int) - 1) = (d : Int) - 1 := w64 (by omega) (by omega)
    have e2 : IntKind.u64.wrap (d : Int) = (d : Int) := u64w (by omega) (by omega)
    refine Ev.step (fun k => ?_) hn
    rw [e0, spec_l13Bits.l0, e2, if_pos (by omega), if_pos (by omega), if_pos (by omega), e1, shr_nat _ _ (by omega)]
    rfl
theorem sBits_ev {h : Nat} (h1 : 1 ≤ h) (hh : h ≤ 4) (x : Int) (hx : -1000000000 ≤ x ∧ x ≤ 1000000000) : Ev (fun k => spec_l13Bits.f k (h : Int) x) (decB h x) := by
  have h2 := two_le hh
  have hu := nearB_le hh x
  have en := nearB_eq hh x
  have e0 : IntKind.u64.wrap (h : Int) = (h : Int) := u64w (by omega) (by omega)
  have e2 : wrap64 (shl .i64 1 (h : Int) - 1) = ((2 ^ h : Nat) : Int) - 1 := by
    rw [shl_one hh, w64 (by omega) (by omega)]
  have e1 : wrap64 (x + (((2 ^ h : Nat) : Int) - 1)) = x + (((2 ^ h : Nat) : Int) - 1) := w64 (by clear e0 e2; omega) (by clear e0 e2; omega)
  have e3 : wrap64 ((h : Int) - 1) = (h : Int) - 1 := w64 (by clear e0 e1 e2; omega) (by clear e0 e1 e2; omega)
  have b1 : -4000000000 ≤ x + (((2 ^ h : Nat) : Int) - 1) ∧ x + (((2 ^ h : Nat) : Int) - 1) ≤ 4000000000 := by clear e0 e1 e2 e3; omega
  have q1 : (0 : Int) ≤ (h : Int) := by clear e0 e1 e2 e3; omega
  have q2 : ([] : List Int).length + h ≤ 100000000 := by clear e0 e1 e2 e3; simp; omega
  have fin : ∀ u : Int, u = ((nearB h x : Nat) : Int) → Ev (fun k => spec_l13Bits.j1 k (h : Int) u) (decB h x) := by
    intro u eu
    subst eu
    refine Ev.step (fun k => by rw [spec_l13Bits.j1, sGray_eq _ hu, Option.bind_some, e3]) (sBits_loop _ h [] hh q2)
  have mid : ∀ u : Int, (if u > ((2 ^ h : Nat) : Int) - 1 then ((2 ^ h : Nat) : Int) - 1 else u) = ((nearB h x : Nat) : Int) → Ev (fun k => spec_l13Bits.j0 k (h : Int) (((2 ^ h : Nat) : Int) - 1) u) (decB h x) := by
    intro u eu
    by_cases c : u > ((2 ^ h : Nat) : Int) - 1
    · rw [if_pos c] at eu
      exact Ev.step (fun k => by rw [spec_l13Bits.j0, if_pos c]) (fin _ eu)
    · rw [if_neg c] at eu
      exact Ev.step (fun k => by rw [spec_l13Bits.j0, if_neg c]) (fin _ eu)
  unfold spec_l13Bits.f
  rw [e0, e2, e1]
  refine Ev.pos q1 (Ev.bind (sRound2 _ b1) ?_)
  by_cases c : (x + (((2 ^ h : Nat) : Int) - 1) + 1) / 2 < 0
  · refine Ev.pos c (mid 0 ?_)
    rw [if_pos c] at en
    rw [en, if_neg (by clear e0 e1 e2 e3; omega)]
  · refine Ev.neg c (mid _ ?_)
    rw [if_neg c] at en
    exact en.symm
def smB (x : Int) : Bool := decide (-1000000000 ≤ x ∧ x ≤ 1000000000)
theorem sample_eq (x : Int) : impl_sample.f x = some (smB x) := by
  unfold impl_sample.f smB
  by_cases h : x ≥ -1000000000
  · rw [if_pos h]; simp [h]
  · rw [if_neg h]
    congr 1
    symm
    rw [decide_eq_false_iff_not]
    omega
theorem l5Sample_eq (x : Int) : spec_l5Sample.f x = some (smB x) := by
  unfold spec_l5Sample.f smB
  rw [l1In_eq, Option.bind_some]
/-- The bits of points, while they are samples. -/
def goB (h : Nat) : List Int → List S61 → List Int × Bool
  | acc, [] => (acc, true)
  | acc, p :: r => if smB p.f0 = true ∧ smB p.f1 = true then goB h ((acc ++ decB h p.f0) ++ decB h p.f1) r else ([], false)
theorem goB_len (h : Nat) (hh : h ≤ 4) : ∀ (r : List S61) (acc : List Int), (goB h acc r).1.length ≤ acc.length + 8 * r.length
  | [], acc => by simp [goB]
  | p :: r, acc => by
    rw [goB]
    split
    · have := goB_len h hh r ((acc ++ decB h p.f0) ++ decB h p.f1)
      simp only [List.length_append, decB_len, List.length_cons] at *
      omega
    · simp
theorem iDec_loop (x : List S61) (hx : x.length ≤ 1024) {h : Nat} (h1 : 1 ≤ h) (hh : h ≤ 4) : ∀ (d i : Nat) (acc : List Int), i + d = x.length → acc.length ≤ 8 * i → Ev (fun k => impl_Decide.l0 k x (h : Int) acc (i : Int)) (goB h acc (x.drop i)) := by
  intro d
  induction d with
  | zero =>
    intro i acc hd ha
    exact Ev.fin (fun k => by rw [impl_Decide.l0, if_neg (by omega), List.drop_of_length_le (by omega), goB])
  | succ d ih =>
    intro i acc hd ha
    rw [dropPt_rd (i := i) (by omega), goB]
    refine Ev.step (fun k => by rw [impl_Decide.l0, if_pos (by omega), if_pos (by omega), sample_eq, Option.bind_some, sample_eq, Option.bind_some, wsucc (by omega)]) ?_
    by_cases c1 : smB (rd_T61 x (i : Int)).f0 = true
    · refine Ev.pos c1 ?_
      by_cases c2 : smB (rd_T61 x (i : Int)).f1 = true
      · refine Ev.pos c2 ?_
        rw [if_pos ⟨c1, c2⟩]
        have l0 := decB_len h (rd_T61 x (i : Int)).f0
        have l1 := decB_len h (rd_T61 x (i : Int)).f1
        refine Ev.bind (iPut_ev h1 hh _ (of_decide_eq_true c1) acc (by omega)) (Ev.bind (iPut_ev h1 hh _ (of_decide_eq_true c2) _ (by rw [List.length_append]; omega)) ?_)
        exact ih (i + 1) _ (by omega) (by rw [List.length_append, List.length_append]; omega)
      · rw [if_neg (fun e => c2 e.2)]
        exact Ev.neg c2 (Ev.now _)
    · rw [if_neg (fun e => c1 e.1)]
      exact Ev.neg c1 (Ev.now _)
theorem sDec_loop (w : Int) (x : List S61) (hx : x.length ≤ 1024) {h : Nat} (h1 : 1 ≤ h) (hh : h ≤ 4) (hw : wrap64 (Int.tdiv w 2) = (h : Int)) : ∀ (d i : Nat) (acc : List Int), i + d = x.length → acc.length ≤ 8 * i → Ev (fun k => spec_Decide.l0 k w x acc (i : Int)) (goB h acc (x.drop i)) := by
  intro d
  induction d with
  | zero =>
    intro i acc hd ha
    exact Ev.fin (fun k => by rw [spec_Decide.l0, if_neg (by omega), List.drop_of_length_le (by omega), goB])
  | succ d ih =>
    intro i acc hd ha
    have q1 : (i : Int) < (x.length : Int) := by clear hw; omega
    have q2 : (0 : Int) ≤ (i : Int) := by clear hw; omega
    have q3 : i < 4611686018427387904 := by clear hw; omega
    have q4 : acc.length ≤ 10000 := by clear hw; omega
    have q5 : i + 1 + d = x.length := by clear hw; omega
    rw [dropPt_rd (i := i) (by clear hw; omega), goB]
    refine Ev.step (fun k => by rw [spec_Decide.l0, if_pos q1, if_pos q2, l5Sample_eq, Option.bind_some, l5Sample_eq, Option.bind_some]) ?_
    have bad : ∀ b, b = true → Ev (fun k => spec_Decide.j2 k w x acc (i : Int) b) (([] : List Int), false) := by
      intro b eb
      subst eb
      exact Ev.fin (fun k => by rw [spec_Decide.j2, if_pos rfl])
    by_cases c1 : smB (rd_T61 x (i : Int)).f0 = true
    · refine Ev.pos c1 ?_
      by_cases c2 : smB (rd_T61 x (i : Int)).f1 = true
      · rw [if_pos ⟨c1, c2⟩, c2]
        have l0 := decB_len h (rd_T61 x (i : Int)).f0
        have l1 := decB_len h (rd_T61 x (i : Int)).f1
        have q6 : acc.length + (decB h (rd_T61 x (i : Int)).f0).length < 17592186044416 := by clear hw; omega
        have q7 : (acc ++ decB h (rd_T61 x (i : Int)).f0).length + (decB h (rd_T61 x (i : Int)).f1).length < 17592186044416 := by clear hw; rw [List.length_append]; omega
        have q8 : ((acc ++ decB h (rd_T61 x (i : Int)).f0) ++ decB h (rd_T61 x (i : Int)).f1).length ≤ 8 * (i + 1) := by clear hw; rw [List.length_append, List.length_append]; omega
        refine Ev.step (fun k => by rw [spec_Decide.j2, if_neg (by decide), if_pos q2, if_pos q1, hw, wsucc q3]) (Ev.bind (sBits_ev h1 hh _ (of_decide_eq_true c1)) ?_)
        refine Ev.pos q6 (Ev.bind0 rfl (Ev.bind (sBits_ev h1 hh _ (of_decide_eq_true c2)) (Ev.pos q7 ?_)))
        exact ih (i + 1) _ q5 q8
      · rw [if_neg (fun e => c2 e.2)]
        exact bad _ (by rw [Bool.eq_false_iff.mpr c2]; rfl)
    · rw [if_neg (fun e => c1 e.1)]
      exact Ev.neg c1 (bad _ rfl)
def decM (w : Int) (x : List S61) : List Int × Bool := if (w = 2 ∨ w = 4 ∨ w = 6 ∨ w = 8) ∧ (x.length : Int) * w ≤ 1024 then goB (w.toNat / 2) [] x else ([], false)
theorem wd_half {w : Int} (h : w = 2 ∨ w = 4 ∨ w = 6 ∨ w = 8) : 2 ≤ w ∧ w ≤ 8 ∧ 1 ≤ w.toNat / 2 ∧ w.toNat / 2 ≤ 4 ∧ wrap64 (Int.tdiv w 2) = ((w.toNat / 2 : Nat) : Int) := by
  rcases h with rfl | rfl | rfl | rfl <;> decide +kernel
theorem len_mul {w : Int} (x : List S61) (hx : x.length ≤ 1048576) (h : 2 ≤ w ∧ w ≤ 8) : wrap64 ((x.length : Int) * w) = (x.length : Int) * w ∧ ((x.length : Int) * w ≤ 1024 → x.length ≤ 1024) := by
  have a1 : (0 : Int) ≤ (x.length : Int) * w := Int.mul_nonneg (by omega) (by omega)
  have a2 : (x.length : Int) * w ≤ (x.length : Int) * 8 := Int.mul_le_mul_of_nonneg_left h.2 (by omega)
  have a3 : (x.length : Int) * 2 ≤ (x.length : Int) * w := Int.mul_le_mul_of_nonneg_left h.1 (by omega)
  generalize (x.length : Int) * w = m at *
  exact ⟨w64 (by omega) (by omega), fun e => by omega⟩
theorem iDecide_ev (w : Int) (x : List S61) (hx : x.length ≤ 1048576) : Ev (fun k => impl_Decide.f k w x) (decM w x) := by
  unfold impl_Decide.f decM
  refine Ev.bind0 (isWidth_eq w) ?_
  by_cases hw : w = 2 ∨ w = 4 ∨ w = 6 ∨ w = 8
  · obtain ⟨w1, w2, w3, w4, w5⟩ := wd_half hw
    obtain ⟨m1, m2⟩ := len_mul x hx ⟨w1, w2⟩
    rw [decide_eq_true hw, m1, w5]
    refine Ev.pos rfl ?_
    by_cases hm : (x.length : Int) * w > 1024
    · rw [if_neg (fun e => by omega)]
      exact Ev.pos hm (Ev.now _)
    · rw [if_pos ⟨hw, Int.not_lt.mp hm⟩]
      refine Ev.neg hm ?_
      exact iDec_loop x (m2 (Int.not_lt.mp hm)) w3 w4 x.length 0 [] (Nat.zero_add _) (Nat.zero_le _)
  · rw [if_neg (fun e => hw e.1), decide_eq_false hw]
    exact Ev.neg (by decide) (Ev.now _)
theorem sDecide_ev (w : Int) (x : List S61) (hx : x.length ≤ 1048576) : Ev (fun k => spec_Decide.f k w x) (decM w x) := by
  unfold spec_Decide.f decM
  refine Ev.bind0 rfl (Ev.bind0 (l13Width_eq w) ?_)
  have bad : Ev (fun k => spec_Decide.j0 k w x [] true) (([] : List Int), false) := Ev.fin (fun k => by rw [spec_Decide.j0, if_pos rfl])
  by_cases hw : w = 2 ∨ w = 4 ∨ w = 6 ∨ w = 8
  · obtain ⟨w1, w2, w3, w4, w5⟩ := wd_half hw
    obtain ⟨m1, m2⟩ := len_mul x hx ⟨w1, w2⟩
    rw [decide_eq_true hw, m1]
    refine Ev.pos rfl ?_
    by_cases hm : (x.length : Int) * w > 1024
    · rw [if_neg (fun e => by omega), decide_eq_true hm]
      exact bad
    · rw [if_pos ⟨hw, Int.not_lt.mp hm⟩, decide_eq_false hm]
      refine Ev.step (fun k => by rw [spec_Decide.j0, if_neg (by decide)]) ?_
      exact sDec_loop w x (m2 (Int.not_lt.mp hm)) w3 w4 w5 x.length 0 [] (Nat.zero_add _) (Nat.zero_le _)
  · rw [if_neg (fun e => hw e.1), decide_eq_false hw]
    exact Ev.neg (by decide) bad
theorem decM_len (w : Int) (x : List S61) (hx : x.length ≤ 1048576) : (decM w x).1.length ≤ 17592186044416 := by
  unfold decM
  split
  · next h =>
    have := goB_len (w.toNat / 2) (wd_half h.1).2.2.2.1 x []
    rw [List.length_nil] at this
    omega
  · simp
theorem Decide_both (w : Int) (x : List S61) (hx : x.length ≤ 1048576) : ∃ r ok, Ev (fun k => spec_Decide.f k w x) (r, ok) ∧ Ev (fun k => impl_Decide.f k w x) (r, ok) ∧ r.length ≤ 17592186044416 :=
  ⟨(decM w x).1, (decM w x).2, sDecide_ev w x hx, iDecide_ev w x hx, decM_len w x hx⟩
theorem rdPd_lt {xs : List S96} {i : Nat} (h : i < xs.length) : rd_T96 xs (i : Int) = xs[i] := by
  unfold rd_T96; rw [Int.toNat_natCast, List.getD_eq_getElem?_getD, List.getElem?_eq_getElem h]; rfl
def cvPt (x : S96) : S61 := ⟨x.f0, x.f1⟩
theorem toPointS_l0 (l : List S96) (hl : l.length ≤ 1048576) : ∀ (d i : Nat) (x : List S61), i + d = l.length → x.length = l.length → x.take i = (l.map cvPt).take i →
    Ev (fun k => laws_toPointS.l0 k l x (i : Int)) (l.map cvPt) := by
  intro d
  induction d with
  | zero =>
    intro i x hd hx ht
    refine Ev.fin (fun k => ?_)
    rw [laws_toPointS.l0, if_neg (by omega)]
    rw [List.take_of_length_le (by omega), List.take_of_length_le (by rw [List.length_map]; omega)] at ht
    rw [ht]
  | succ d ih =>
    intro i x hd hx ht
    have hi : i < l.length := by omega
    refine Ev.step (fun k => ?_) (ih (i + 1) (x.set i (cvPt (rd_T96 l (i : Int)))) (by omega) (by simpa using hx) ?_)
    · rw [laws_toPointS.l0, if_pos (by omega), if_pos (by omega), laws_toPoint.f, Option.bind_some, if_pos (by omega), wsucc (by omega), Int.toNat_natCast]
      rfl
    · rw [takePt_rd (by simp; omega), takePt_rd (by simp; omega), List.take_set_of_le (by omega), ht, rdPt_lt (by simp; omega), List.getElem_set_self, rdPt_lt (by simp; omega), List.getElem_map, rdPd_lt hi]
theorem toPointS_ev (l : List S96) (hl : l.length ≤ 1048576) : Ev (fun k => laws_toPointS.f k l) (l.map cvPt) := by
  unfold laws_toPointS.f
  refine Ev.pos (by omega) (Ev.pos (by omega) ?_)
  exact toPointS_l0 l hl l.length 0 _ (by omega) (by simp) (by simp)
theorem eqPointS_l0 (l : List S61) (hl : l.length ≤ 17592186044416) : ∀ (d i : Nat), i + d = l.length → Ev (fun k => laws_eqPointS.l0 k l l (i : Int)) true := by
  have e : ∀ a b, laws_eqPoint.f a b a b = some true := by
    intro a b; unfold laws_eqPoint.f; rw [if_pos rfl, if_pos rfl]
  intro d
  induction d with
  | zero =>
    intro i hd
    refine Ev.fin (fun k => ?_)
    rw [laws_eqPointS.l0, if_neg (by omega)]
  | succ d ih =>
    intro i hd
    refine Ev.step (fun k => ?_) (ih (i + 1) (by omega))
    rw [laws_eqPointS.l0, if_pos (by omega), if_pos (by omega), if_pos (by omega), e, Option.bind_some, if_pos rfl, wsucc (by omega)]
theorem eqPointS_ev (l : List S61) (hl : l.length ≤ 17592186044416) : Ev (fun k => laws_eqPointS.f k l l) true := by
  unfold laws_eqPointS.f
  exact Ev.pos rfl (eqPointS_l0 l hl l.length 0 (by omega))
def mkPt (s : Int) : Nat → List S61
  | 0 => []
  | n + 1 => mkPt s n ++ [(⟨s + 2 * (n : Int), s + 2 * (n : Int) + 1⟩ : S61)]
theorem mkPt_length (s : Int) : ∀ n, (mkPt s n).length = n
  | 0 => rfl
  | n + 1 => by show (mkPt s n ++ [(⟨s + 2 * (n : Int), s + 2 * (n : Int) + 1⟩ : S61)]).length = n + 1; simp [mkPt_length s n]
theorem rd_mkPt (s : Int) : ∀ {n i : Nat}, i < n → rd_T61 (mkPt s n) (i : Int) = (⟨s + 2 * (i : Int), s + 2 * (i : Int) + 1⟩ : S61)
  | n + 1, i, h => by
    have hl := mkPt_length s n
    unfold rd_T61
    rw [Int.toNat_natCast]
    show (mkPt s n ++ [(⟨s + 2 * (n : Int), s + 2 * (n : Int) + 1⟩ : S61)]).getD i z61 = _
    rw [List.getD_eq_getElem?_getD]
    by_cases e : i < n
    · rw [List.getElem?_append_left (by omega), ← List.getD_eq_getElem?_getD]
      have := rd_mkPt s e
      unfold rd_T61 at this
      rwa [Int.toNat_natCast] at this
    · obtain rfl : i = n := by omega
      rw [List.getElem?_append_right (by omega), hl]
      simp
theorem markPointS_l0 (n : Nat) (s : Int) (hs : 0 ≤ s ∧ s ≤ 100000000000000) (hn : n ≤ 17592186044416) : ∀ (d i : Nat) (x : List S61), i + d = n → x.length = n → x.take i = mkPt s i →
    Ev (fun k => laws_markPointS.l0 k x (s + 2 * (i : Int)) (i : Int)) (s + 2 * (n : Int), mkPt s n) := by
  intro d
  induction d with
  | zero =>
    intro i x hd hx ht
    refine Ev.fin (fun k => ?_)
    rw [laws_markPointS.l0, if_neg (by omega)]
    obtain rfl : i = n := by omega
    rw [List.take_of_length_le (by omega)] at ht
    rw [ht]
  | succ d ih =>
    intro i x hd hx ht
    refine Ev.step (fun k => ?_) (ih (i + 1) (x.set i ⟨s + 2 * (i : Int), s + 2 * (i : Int) + 1⟩) (by omega) (by simpa using hx) ?_)
    · have e1 : wrap64 (s + 2 * (i : Int) + 1) = s + 2 * (i : Int) + 1 := w64 (by omega) (by omega)
      have e2 : wrap64 (s + 2 * (i : Int) + 1 + 1) = s + 2 * ((i + 1 : Nat) : Int) := by rw [w64 (by omega) (by omega)]; omega
      rw [laws_markPointS.l0, if_pos (by omega), if_pos (by omega), Option.bind_some, wsucc (by omega), e1, e2, Int.toNat_natCast, List.set_set]
      rw [rdPt_lt (xs := x.set i _) (by simp; omega), List.getElem_set_self]
    · rw [takePt_rd (by simp; omega), List.take_set_of_le (by omega), ht, rdPt_lt (by simp; omega), List.getElem_set_self]
      rfl
theorem markPointS_ev (x : List S61) (s : Int) (hs : 0 ≤ s ∧ s ≤ 100000000000000) (hl : x.length ≤ 17592186044416) : Ev (fun k => laws_markPointS.f k x s) (s + 2 * (x.length : Int), mkPt s x.length) := by
  unfold laws_markPointS.f
  exact Ev.cast (Ev.congr (fun k => by rw [Int.natCast_zero, Int.mul_zero, Int.add_zero]) (markPointS_l0 x.length s hs hl x.length 0 x (by omega) rfl (by simp [mkPt]))) rfl
theorem eqIntS_l0 (l : List Int) (hl : l.length ≤ 17592186044416) : ∀ (d i : Nat), i + d = l.length → Ev (fun k => laws_eqIntS.l0 k l l (i : Int)) true := by
  intro d
  induction d with
  | zero =>
    intro i hd
    refine Ev.fin (fun k => ?_)
    rw [laws_eqIntS.l0, if_neg (by omega)]
  | succ d ih =>
    intro i hd
    refine Ev.step (fun k => ?_) (ih (i + 1) (by omega))
    rw [laws_eqIntS.l0, if_pos (by omega), if_pos (by omega), if_pos (by omega), if_pos rfl, wsucc (by omega)]
theorem eqIntS_ev (l : List Int) (hl : l.length ≤ 17592186044416) : Ev (fun k => laws_eqIntS.f k l l) true := by
  unfold laws_eqIntS.f
  exact Ev.pos rfl (eqIntS_l0 l hl l.length 0 (by omega))
theorem markIntS_l0 (n : Nat) (s : Int) (hs : 0 ≤ s ∧ s ≤ 100000000000000) (hn : n ≤ 17592186044416) : ∀ (d i : Nat) (x : List Int), i + d = n → x.length = n → x.take i = mkL s i →
    Ev (fun k => laws_markIntS.l0 k x (s + (i : Int)) (i : Int)) (s + (n : Int), mkL s n) := by
  intro d
  induction d with
  | zero =>
    intro i x hd hx ht
    refine Ev.fin (fun k => ?_)
    rw [laws_markIntS.l0, if_neg (by omega)]
    obtain rfl : i = n := by omega
    rw [List.take_of_length_le (by omega)] at ht
    rw [ht]
  | succ d ih =>
    intro i x hd hx ht
    refine Ev.step (fun k => ?_) (ih (i + 1) (x.set i (s + (i : Int))) (by omega) (by simpa using hx) ?_)
    · have e : wrap64 (s + (i : Int) + 1) = s + ((i + 1 : Nat) : Int) := by rw [w64 (by omega) (by omega)]; omega
      rw [laws_markIntS.l0, if_pos (by omega), if_pos (by omega), wsucc (by omega), e, Int.toNat_natCast]
    · rw [take_rd (by simp; omega), List.take_set_of_le (by omega), ht, rd_lt (by simp; omega), List.getElem_set_self]
      rfl
theorem markIntS_ev (x : List Int) (s : Int) (hs : 0 ≤ s ∧ s ≤ 100000000000000) (hl : x.length ≤ 17592186044416) : Ev (fun k => laws_markIntS.f k x s) (s + (x.length : Int), mkL s x.length) := by
  unfold laws_markIntS.f
  exact Ev.cast (Ev.congr (fun k => by rw [Int.natCast_zero, Int.add_zero]) (markIntS_l0 x.length s hs hl x.length 0 x (by omega) rfl (by simp [mkL]))) rfl
theorem heldIntS_l0 (n : Nat) (s : Int) (hs : 0 ≤ s ∧ s ≤ 100000000000000) (hn : n ≤ 17592186044416) : ∀ (d i : Nat), i + d = n → Ev (fun k => laws_heldIntS.l0 k (mkL s n) (s + (i : Int)) (i : Int)) (s + (n : Int)) := by
  intro d
  induction d with
  | zero =>
    intro i hd
    refine Ev.fin (fun k => ?_)
    rw [laws_heldIntS.l0, mkL_length, if_neg (by omega)]
    congr 1; omega
  | succ d ih =>
    intro i hd
    refine Ev.step (fun k => ?_) (ih (i + 1) (by omega))
    have e : wrap64 (s + (i : Int) + 1) = s + ((i + 1 : Nat) : Int) := by rw [w64 (by omega) (by omega)]; omega
    rw [laws_heldIntS.l0, mkL_length, if_pos (by omega), if_pos (by omega), if_pos (rd_mkL s (by omega)), wsucc (by omega), e]
theorem heldIntS_ev (n : Nat) (s : Int) (hs : 0 ≤ s ∧ s ≤ 100000000000000) (hl : n ≤ 17592186044416) : Ev (fun k => laws_heldIntS.f k (mkL s n) s) (s + (n : Int)) := by
  unfold laws_heldIntS.f
  exact Ev.congr (fun k => by rw [Int.natCast_zero, Int.add_zero]) (heldIntS_l0 n s hs hl n 0 (by omega))

theorem FnExactDecide : laws_FnExactDecide.Pure := by
  intro w x _ hx
  refine Ev.rounds ?_
  unfold laws_FnExactDecide.f
  have ez : laws_szPointS.f x 1048576 = some (if (1048576 : Int) - (x.length : Int) < 0 then -1 else 1048576 - (x.length : Int)) := by
    unfold laws_szPointS.f
    rw [w64 (by unfold maxLen at hx; omega) (by omega)]
    split <;> rfl
  refine Ev.bind0 ez ?_
  by_cases gx : (1048576 : Int) - (x.length : Int) < 0
  · rw [if_pos gx]
    exact Ev.pos (by decide) (Ev.now true)
  rw [if_neg gx]
  refine Ev.neg gx ?_
  have hx1 : x.length ≤ 1048576 := by omega
  have hm : (x.map cvPt).length = x.length := List.length_map _
  have hm4 : (x.map cvPt).length ≤ 17592186044416 := by omega
  obtain ⟨r, ok, hS, hI, hr⟩ := Decide_both w (x.map cvPt) (by omega)
  have m1 : 0 ≤ (1 : Int) ∧ (1 : Int) ≤ 100000000000000 := by omega
  repeat (first
    | exact Ev.now true
    | with_reducible refine Ev.bind (toPointS_ev x hx1) ?_
    | with_reducible refine Ev.bind hS ?_
    | with_reducible refine Ev.bind hI ?_
    | with_reducible refine Ev.bind (eqPointS_ev (x.map cvPt) hm4) ?_
    | with_reducible refine Ev.bind (eqIntS_ev r hr) ?_
    | with_reducible refine Ev.bind (markPointS_ev (x.map cvPt) 1 m1 hm4) ?_
    | with_reducible refine Ev.bind (markIntS_ev r 1 m1 hr) ?_
    | with_reducible refine Ev.bind (heldIntS_ev r.length 1 m1 hr) ?_
    | refine Ev.pos rfl ?_
    | (refine Ev.neg ?_ ?_; (· first | (simp; done) | omega))
    | refine Ev.step (fun k => by rw [laws_FnExactDecide.j0]) ?_
    | refine Ev.step (fun k => by rw [laws_FnExactDecide.j1]) ?_
    | refine Ev.step (fun k => by rw [laws_FnExactDecide.j2]) ?_)

end Go.Proofs.Ytnpoimjdkjhcpaa.Pure
