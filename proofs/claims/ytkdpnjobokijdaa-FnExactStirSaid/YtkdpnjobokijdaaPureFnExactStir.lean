/- Stir tells what the reference tells, leaves its arguments alone and answers new memory, for all arguments; no condition. -/
import Derived.Test.YtkdpnjobokijdaaPFnExactStirx3
import Derived.Test.YtkdpnjobokijdaaCom
import Derived.Test.YtkdpnjobokijdaaMark
set_option linter.unusedVariables false
set_option linter.unusedSimpArgs false
namespace Go.Proofs.Ytkdpnjobokijdaa.Pure
open Go.RowKit Go.Proofs.Ytkdpnjobokijdaa.PFnExactStir Go.Proofs.YtkdpnjobokijdaaW.PrintWords Go.Proofs.YtkdpnjobokijdaaW.PrintLast Go.Proofs.Ytkdpnjobokijdaa.Com Go.Proofs.Ytkdpnjobokijdaa.Mark

theorem l1In_eq (a b c : Int) : spec_l1In.f a b c = some (decide (b ≤ a ∧ a ≤ c)) := by
  unfold spec_l1In.f
  by_cases h : b ≤ a
  · rw [if_pos h]; simp [h]
  · rw [if_neg h]; simp [h]

theorem sBitsOk_l0 (l : List Int) (hl : l.length ≤ 17592186044416) : ∀ (d i : Nat), i + d = l.length → Ev (fun k => spec_BitsOk.l0 k l (i : Int)) ((l.drop i).all isB && decide (l.length ≤ 1024)) := by
  intro d
  induction d with
  | zero =>
    intro i hd
    refine Ev.fin (fun k => ?_)
    rw [spec_BitsOk.l0, if_neg (by omega), List.drop_of_length_le (by omega)]
    simp
    omega
  | succ d ih =>
    intro i hd
    rw [drop_rd (by omega)]
    have e : spec_l1In.f (rd l (i : Int)) 0 1 = some (isB (rd l (i : Int))) := by
      rw [l1In_eq]; congr 1; unfold isB; rw [Bool.eq_iff_iff]; simp; omega
    by_cases hb : isB (rd l (i : Int)) = true
    · refine Ev.cast (Ev.step (fun k => ?_) (ih (i + 1) (by omega))) (by simp [hb])
      rw [spec_BitsOk.l0, if_pos (by omega), if_pos (by omega), e, Option.bind_some, if_pos hb, wsucc (by omega)]
    · refine Ev.fin (fun k => ?_)
      rw [spec_BitsOk.l0, if_pos (by omega), if_pos (by omega), e, Option.bind_some, if_neg hb]
      simp [hb]
theorem sBitsOk_ev (l : List Int) (hl : l.length ≤ 17592186044416) : Ev (fun k => spec_BitsOk.f k l) (bitsOk l) := by
  unfold spec_BitsOk.f
  exact sBitsOk_l0 l hl l.length 0 (by omega)

theorem isBit_eq (x : Int) : impl_isBit.f x = some (isB x) := by
  unfold impl_isBit.f isB
  by_cases h : x = 0
  · rw [if_pos h]; simp [h]
  · rw [if_neg h]; simp [h]

theorem iBitsOk_l0 (l : List Int) (hl : l.length ≤ 17592186044416) : ∀ (d i : Nat), i + d = l.length → Ev (fun k => impl_BitsOk.l0 k l l (l.length : Int) (i : Int)) ((l.drop i).all isB && decide (l.length ≤ 1024)) := by
  intro d
  induction d with
  | zero =>
    intro i hd
    refine Ev.fin (fun k => ?_)
    rw [impl_BitsOk.l0, if_neg (by omega), List.drop_of_length_le (by omega)]
    simp
    omega
  | succ d ih =>
    intro i hd
    rw [drop_rd (by omega)]
    by_cases hb : isB (rd l (i : Int)) = true
    · refine Ev.cast (Ev.step (fun k => ?_) (ih (i + 1) (by omega))) (by simp [hb])
      rw [impl_BitsOk.l0, if_pos (by omega), if_pos (by omega), if_pos (by omega), isBit_eq, Option.bind_some, if_pos hb, wsucc (by omega)]
    · refine Ev.fin (fun k => ?_)
      rw [impl_BitsOk.l0, if_pos (by omega), if_pos (by omega), if_pos (by omega), isBit_eq, Option.bind_some, if_neg hb]
      simp [hb]
theorem iBitsOk_ev (l : List Int) (hl : l.length ≤ 17592186044416) : Ev (fun k => impl_BitsOk.f k l) (bitsOk l) := by
  unfold impl_BitsOk.f
  exact iBitsOk_l0 l hl l.length 0 (by omega)

theorem is16_eq (a b : Int) : impl_is16.f a b = some (decide (b ≤ a ∧ a ≤ 65535)) := by
  unfold impl_is16.f
  by_cases h : b ≤ a
  · rw [if_pos h]; simp [h]
  · rw [if_neg h]; simp [h]
/-- The register behind a bit. -/
def stR (t s : Nat) : Nat := if s % 2 = 1 then (s / 2) ^^^ t else s / 2
theorem stR_lt {t s : Nat} (ht : t ≤ 65535) (hs : s ≤ 65535) : stR t s ≤ 65535 := by
  unfold stR
  have : s / 2 ^^^ t < 2 ^ 16 := Nat.xor_lt_two_pow (by omega) (by omega)
  split <;> omega
def stL (t : Nat) : Nat → List Int → List Int
  | _, [] => []
  | s, x :: l => bits .xor .i64 x ((s % 2 : Nat) : Int) :: stL t (stR t s) l
theorem stL_len (t : Nat) : ∀ (l : List Int) (s : Nat), (stL t s l).length = l.length
  | [], _ => rfl
  | x :: l, s => by simp [stL, stL_len t l]
theorem Stir_loops (l : List Int) (t : Nat) (hl : l.length ≤ 1024) (ht : t ≤ 65535) : ∀ (d i s : Nat) (acc : List Int), i + d = l.length → acc.length = i → s ≤ 65535 →
    Ev (fun k => spec_Stir.l0 k l (t : Int) acc (s : Int) (i : Int)) (acc ++ stL t s (l.drop i), true) ∧ Ev (fun k => impl_Stir.l0 k (t : Int) (s : Int) acc l (l.length : Int) (i : Int)) (acc ++ stL t s (l.drop i), true) := by
  intro d
  induction d with
  | zero =>
    intro i s acc hd ha hs
    rw [List.drop_of_length_le (by omega), stL, List.append_nil]
    exact ⟨Ev.fin (fun k => by rw [spec_Stir.l0, if_neg (by omega)]), Ev.fin (fun k => by rw [impl_Stir.l0, if_neg (by omega)])⟩
  | succ d ih =>
    intro i s acc hd ha hs
    have e1 : Int.tmod (s : Int) 2 = ((s % 2 : Nat) : Int) := rfl
    have e2 : wrap64 (Int.tdiv (s : Int) 2) = ((s / 2 : Nat) : Int) := by
      rw [show Int.tdiv (s : Int) 2 = ((s / 2 : Nat) : Int) from rfl, w64 (by omega) (by omega)]
    have e3 : bits .and .i64 (s : Int) 1 = ((s % 2 : Nat) : Int) := by rw [and64_1]; omega
    have e4 : (s : Int) / 2 = ((s / 2 : Nat) : Int) := by omega
    have h := ih (i + 1) (stR t s) (acc ++ [bits .xor .i64 (rd l (i : Int)) ((s % 2 : Nat) : Int)]) (by omega) (by simp; omega) (stR_lt ht hs)
    have er : acc ++ stL t s (l.drop i) = acc ++ [bits .xor .i64 (rd l (i : Int)) ((s % 2 : Nat) : Int)] ++ stL t (stR t s) (l.drop (i + 1)) := by
      rw [drop_rd (i := i) (by omega), stL, List.append_assoc]; rfl
    rw [er]
    refine ⟨Ev.step (fun k => ?_) h.1, Ev.step (fun k => ?_) h.2⟩
    · rw [spec_Stir.l0, if_pos (by omega), if_pos (by omega), if_pos (by omega), Option.bind_some, e1, e2, wsucc (by omega), xor64 (s / 2) t (by omega) (by omega)]
      unfold stR
      by_cases hb : s % 2 = 1
      · rw [if_pos (by omega), if_pos hb]
      · rw [if_neg (by omega), if_neg hb]
    · rw [impl_Stir.l0, if_pos (by omega), if_pos (by omega), if_pos (by omega), if_pos (by omega), Option.bind_some, e3, e4, wsucc (by omega), xor64 (s / 2) t (by omega) (by omega)]
      unfold stR
      by_cases hb : s % 2 = 1
      · rw [if_pos (by omega), if_pos hb]
      · rw [if_neg (by omega), if_neg hb]
def stirM (l : List Int) (t s : Int) : List Int × Bool := if bitsOk l = true ∧ (1 ≤ t ∧ t ≤ 65535) ∧ 1 ≤ s ∧ s ≤ 65535 then (stL t.toNat s.toNat l, true) else ([], false)
theorem sStir_ev (l : List Int) (t s : Int) (hl : l.length ≤ 1048576) : Ev (fun k => spec_Stir.f k l t s) (stirM l t s) := by
  unfold spec_Stir.f stirM
  refine Ev.bind0 rfl (Ev.bind (sBitsOk_ev l (by omega)) ?_)
  by_cases hb : bitsOk l = true
  · refine Ev.pos hb (Ev.bind0 (l1In_eq _ _ _) ?_)
    by_cases ht : 1 ≤ t ∧ t ≤ 65535
    · refine Ev.pos (decide_eq_true ht) (Ev.bind0 (l1In_eq _ _ _) ?_)
      by_cases hs : 1 ≤ s ∧ s ≤ 65535
      · rw [if_pos ⟨hb, ht, hs⟩, decide_eq_true hs]
        obtain ⟨t, rfl⟩ : ∃ n : Nat, t = n := ⟨t.toNat, by omega⟩
        obtain ⟨s, rfl⟩ : ∃ n : Nat, s = n := ⟨s.toNat, by omega⟩
        refine Ev.step (fun k => ?_) (Stir_loops l t (bitsOk_len hb) (by omega) l.length 0 s [] (by omega) rfl (by omega)).1
        rw [spec_Stir.j0]; rfl
      · rw [if_neg (fun h => hs h.2.2), decide_eq_false hs]
        exact Ev.fin (fun k => by rw [spec_Stir.j0]; rfl)
    · rw [if_neg (fun h => ht h.2.1)]
      exact Ev.neg (by simpa using ht) (Ev.fin (fun k => by rw [spec_Stir.j0]; rfl))
  · rw [if_neg (fun h => hb h.1)]
    exact Ev.neg hb (Ev.fin (fun k => by rw [spec_Stir.j0]; rfl))
theorem iStir_ev (l : List Int) (t s : Int) (hl : l.length ≤ 1048576) : Ev (fun k => impl_Stir.f k l t s) (stirM l t s) := by
  unfold impl_Stir.f stirM
  refine Ev.bind (iBitsOk_ev l (by omega)) ?_
  by_cases hb : bitsOk l = true
  · refine Ev.pos hb (Ev.bind0 (is16_eq _ _) ?_)
    by_cases ht : 1 ≤ t ∧ t ≤ 65535
    · refine Ev.pos (decide_eq_true ht) (Ev.bind0 (is16_eq _ _) ?_)
      by_cases hs : 1 ≤ s ∧ s ≤ 65535
      · rw [if_pos ⟨hb, ht, hs⟩, decide_eq_true hs]
        obtain ⟨t, rfl⟩ : ∃ n : Nat, t = n := ⟨t.toNat, by omega⟩
        obtain ⟨s, rfl⟩ : ∃ n : Nat, s = n := ⟨s.toNat, by omega⟩
        refine Ev.step (fun k => ?_) (Stir_loops l t (bitsOk_len hb) (by omega) l.length 0 s [] (by omega) rfl (by omega)).2
        rw [impl_Stir.j0]; rfl
      · rw [if_neg (fun h => hs h.2.2), decide_eq_false hs]
        exact Ev.fin (fun k => by rw [impl_Stir.j0]; rfl)
    · rw [if_neg (fun h => ht h.2.1)]
      exact Ev.neg (by simpa using ht) (Ev.fin (fun k => by rw [impl_Stir.j0]; rfl))
  · rw [if_neg (fun h => hb h.1)]
    exact Ev.neg hb (Ev.fin (fun k => by rw [impl_Stir.j0]; rfl))
theorem Stir_both (l : List Int) (t s : Int) (hl : l.length ≤ 1048576) : ∃ r ok, Ev (fun k => spec_Stir.f k l t s) (r, ok) ∧ Ev (fun k => impl_Stir.f k l t s) (r, ok) ∧ r.length ≤ 17592186044416 := by
  refine ⟨(stirM l t s).1, (stirM l t s).2, sStir_ev l t s hl, iStir_ev l t s hl, ?_⟩
  unfold stirM
  split
  · simp only [stL_len]; omega
  · simp

theorem toIntS_l0 (l : List Int) (hl : l.length ≤ 17592186044416) : ∀ (d i : Nat) (x : List Int), i + d = l.length → x.length = l.length → x.take i = l.take i →
    Ev (fun k => laws_toIntS.l0 k l x (i : Int)) l := by
  intro d
  induction d with
  | zero =>
    intro i x hd hx ht
    refine Ev.fin (fun k => ?_)
    rw [laws_toIntS.l0, if_neg (by omega)]
    rw [List.take_of_length_le (by omega), List.take_of_length_le (by omega)] at ht
    rw [ht]
  | succ d ih =>
    intro i x hd hx ht
    refine Ev.step (fun k => ?_) (ih (i + 1) (x.set i (rd l (i : Int))) (by omega) (by simpa using hx) ?_)
    · rw [laws_toIntS.l0, if_pos (by omega), if_pos (by omega), if_pos (by omega), wsucc (by omega), Int.toNat_natCast]
    · rw [take_rd (by simp; omega), take_rd (by omega), List.take_set_of_le (by omega), ht, rd_lt (by simp; omega), List.getElem_set_self]
theorem toIntS_ev (l : List Int) (hl : l.length ≤ 17592186044416) : Ev (fun k => laws_toIntS.f k l) l := by
  unfold laws_toIntS.f
  refine Ev.pos (by omega) (Ev.pos (by omega) ?_)
  exact toIntS_l0 l hl l.length 0 _ (by omega) (by simp) (by simp)

theorem eqIntS_l0 (l : List Int) (hl : l.length ≤ 17592186044416) : ∀ (d i : Nat), i + d = l.length → Ev (fun k => laws_eqIntS.l0 k l l (i : Int)) true := by
  intro d
  induction d with
  | zero =>
    intro i hd
    refine Ev.fin (fun k => ?_)
    rw [laws_eqIntS.l0, if_neg (by omega)]
  | succ d ih =>
    intro i hd
    refine Ev.step (fun k => ?_) (ih (i + 1) (by omega))
    rw [laws_eqIntS.l0, if_pos (by omega), if_pos (by omega), if_pos (by omega), if_pos rfl, wsucc (by omega)]
theorem eqIntS_ev (l : List Int) (hl : l.length ≤ 17592186044416) : Ev (fun k => laws_eqIntS.f k l l) true := by
  unfold laws_eqIntS.f
  exact Ev.pos rfl (eqIntS_l0 l hl l.length 0 (by omega))

theorem markIntS_l0 (n : Nat) (s : Int) (hs : 0 ≤ s ∧ s ≤ 100000000000000) (hn : n ≤ 17592186044416) : ∀ (d i : Nat) (x : List Int), i + d = n → x.length = n → x.take i = mkL s i →
    Ev (fun k => laws_markIntS.l0 k x (s + (i : Int)) (i : Int)) (s + (n : Int), mkL s n) := by
  intro d
  induction d with
  | zero =>
    intro i x hd hx ht
    refine Ev.fin (fun k => ?_)
    rw [laws_markIntS.l0, if_neg (by omega)]
    obtain rfl : i = n := by omega
    rw [List.take_of_length_le (by omega)] at ht
    rw [ht]
  | succ d ih =>
    intro i x hd hx ht
    refine Ev.step (fun k => ?_) (ih (i + 1) (x.set i (s + (i : Int))) (by omega) (by simpa using hx) ?_)
    · have e : wrap64 (s + (i : Int) + 1) = s + ((i + 1 : Nat) : Int) := by rw [w64 (by omega) (by omega)]; omega
      rw [laws_markIntS.l0, if_pos (by omega), if_pos (by omega), wsucc (by omega), e, Int.toNat_natCast]
    · rw [take_rd (by simp; omega), List.take_set_of_le (by omega), ht, rd_lt (by simp; omega), List.getElem_set_self]
      rfl
theorem markIntS_ev (x : List Int) (s : Int) (hs : 0 ≤ s ∧ s ≤ 100000000000000) (hl : x.length ≤ 17592186044416) : Ev (fun k => laws_markIntS.f k x s) (s + (x.length : Int), mkL s x.length) := by
  unfold laws_markIntS.f
  exact Ev.cast (Ev.congr (fun k => by rw [Int.natCast_zero, Int.add_zero]) (markIntS_l0 x.length s hs hl x.length 0 x (by omega) rfl (by simp [mkL]))) rfl

theorem heldIntS_l0 (n : Nat) (s : Int) (hs : 0 ≤ s ∧ s ≤ 100000000000000) (hn : n ≤ 17592186044416) : ∀ (d i : Nat), i + d = n → Ev (fun k => laws_heldIntS.l0 k (mkL s n) (s + (i : Int)) (i : Int)) (s + (n : Int)) := by
  intro d
  induction d with
  | zero =>
    intro i hd
    refine Ev.fin (fun k => ?_)
    rw [laws_heldIntS.l0, mkL_length, if_neg (by omega)]
    congr 1; omega
  | succ d ih =>
    intro i hd
    refine Ev.step (fun k => ?_) (ih (i + 1) (by omega))
    have e : wrap64 (s + (i : Int) + 1) = s + ((i + 1 : Nat) : Int) := by rw [w64 (by omega) (by omega)]; omega
    rw [laws_heldIntS.l0, mkL_length, if_pos (by omega), if_pos (by omega), if_pos (rd_mkL s (by omega)), wsucc (by omega), e]
theorem heldIntS_ev (n : Nat) (s : Int) (hs : 0 ≤ s ∧ s ≤ 100000000000000) (hl : n ≤ 17592186044416) : Ev (fun k => laws_heldIntS.f k (mkL s n) s) (s + (n : Int)) := by
  unfold laws_heldIntS.f
  exact Ev.congr (fun k => by rw [Int.natCast_zero, Int.add_zero]) (heldIntS_l0 n s hs hl n 0 (by omega))

theorem FnExactStir : laws_FnExactStir.Pure := by
  intro l t s _ bl wl wt ws
  refine Ev.rounds ?_
  unfold laws_FnExactStir.f
  by_cases gl : (l.length : Int) > 1048576
  · exact Ev.pos gl (Ev.now true)
  refine Ev.neg gl ?_
  have hl : l.length ≤ 1048576 := by omega
  have hl4 : l.length ≤ 17592186044416 := by omega
  obtain ⟨r, ok, hS, hI, hr⟩ := Stir_both l t s hl
  have ml : 0 ≤ (1 : Int) ∧ (1 : Int) ≤ 100000000000000 := by omega
  have m1 : 0 ≤ (1 : Int) ∧ (1 : Int) ≤ 100000000000000 := by omega
  repeat (first
    | exact Ev.now true
    | with_reducible refine Ev.bind (toIntS_ev l hl4) ?_
    | with_reducible refine Ev.bind hS ?_
    | with_reducible refine Ev.bind hI ?_
    | with_reducible refine Ev.bind (eqIntS_ev l hl4) ?_
    | with_reducible refine Ev.bind (eqIntS_ev r hr) ?_
    | with_reducible refine Ev.bind (markIntS_ev l (1) ml hl4) ?_
    | with_reducible refine Ev.bind (markIntS_ev r 1 m1 hr) ?_
    | with_reducible refine Ev.bind (heldIntS_ev r.length 1 m1 hr) ?_
    | refine Ev.pos rfl ?_
    | (refine Ev.neg ?_ ?_; (· first | (simp; done) | omega))
    | refine Ev.step (fun k => by rw [laws_FnExactStir.j0]) ?_
    | refine Ev.step (fun k => by rw [laws_FnExactStir.j1]) ?_
    | refine Ev.step (fun k => by rw [laws_FnExactStir.j2]) ?_)

end Go.Proofs.Ytkdpnjobokijdaa.Pure
