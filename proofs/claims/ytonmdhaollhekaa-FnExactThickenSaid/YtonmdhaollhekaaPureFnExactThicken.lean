/- Thicken tells what the reference tells, leaves its arguments alone and answers new memory, for all arguments; no condition. -/
import Derived.Test.YtonmdhaollhekaaQFnExactThickenx3
import Derived.Test.YtonmdhaollhekaaCom
import Derived.Test.YtonmdhaollhekaaMark
set_option linter.unusedVariables false
set_option linter.unusedSimpArgs false
namespace Go.Proofs.Ytonmdhaollhekaa.Pure
open Go.RowKit Go.Proofs.Ytonmdhaollhekaa.PFnExactThicken Go.Proofs.YtonmdhaollhekaaW.PrintWords Go.Proofs.YtonmdhaollhekaaW.PrintLast Go.Proofs.Ytonmdhaollhekaa.Com Go.Proofs.Ytonmdhaollhekaa.Mark

theorem l1In_eq (a b c : Int) : spec_l1In.f a b c = some (decide (b ≤ a ∧ a ≤ c)) := by
  unfold spec_l1In.f
  by_cases h : b ≤ a
  · rw [if_pos h]; simp [h]
  · rw [if_neg h]; simp [h]

theorem isBit_eq (x : Int) : impl_isBit.f x = some (isB x) := by
  unfold impl_isBit.f isB
  by_cases h : x = 0
  · rw [if_pos h]; simp [h]
  · rw [if_neg h]; simp [h]

/-- What keeps: bits, one of them 1, at most 32. -/
def keepG (some_ : Bool) (n : Nat) : List Int → Bool
  | [] => some_ && decide (n ≤ 32)
  | x :: t => isB x && keepG (some_ || x == 1) n t
def keepM (m : List Int) : Bool := keepG false m.length m
theorem sKeep_l0 (m : List Int) (hm : m.length ≤ 1048576) : ∀ (d i : Nat) (b : Bool), i + d = m.length → Ev (fun k => spec_l15Keep.l0 k m b (i : Int)) (keepG b m.length (m.drop i)) := by
  intro d
  induction d with
  | zero =>
    intro i b hd
    refine Ev.fin (fun k => ?_)
    rw [spec_l15Keep.l0, if_neg (by omega), List.drop_of_length_le (by omega), keepG]
    cases b
    · rfl
    · rw [if_pos rfl, Bool.true_and]; congr 1; rw [Bool.eq_iff_iff]; simp; omega
  | succ d ih =>
    intro i b hd
    rw [drop_rd (i := i) (by omega), keepG]
    have e : spec_l1In.f (rd m (i : Int)) 0 1 = some (isB (rd m (i : Int))) := by
      rw [l1In_eq]; congr 1; unfold isB; rw [Bool.eq_iff_iff]; simp; omega
    by_cases hb : isB (rd m (i : Int)) = true
    · refine Ev.cast (Ev.step (fun k => ?_) (ih (i + 1) (b || rd m (i : Int) == 1) (by omega))) (by rw [hb, Bool.true_and])
      rw [spec_l15Keep.l0, if_pos (by omega), if_pos (by omega), e, Option.bind_some, if_pos hb, wsucc (by omega)]
      cases b
      · rfl
      · rfl
    · refine Ev.fin (fun k => ?_)
      rw [spec_l15Keep.l0, if_pos (by omega), if_pos (by omega), e, Option.bind_some, if_neg hb, Bool.eq_false_iff.mpr hb, Bool.false_and]
theorem iKeep_l0 (m : List Int) (hm : m.length ≤ 1048576) : ∀ (d i : Nat) (b : Bool), i + d = m.length → Ev (fun k => impl_keepOk.l0 k m b m (m.length : Int) (i : Int)) (keepG b m.length (m.drop i)) := by
  intro d
  induction d with
  | zero =>
    intro i b hd
    refine Ev.fin (fun k => ?_)
    rw [impl_keepOk.l0, if_neg (by omega), List.drop_of_length_le (by omega), keepG]
    cases b
    · rfl
    · rw [if_pos rfl, Bool.true_and]; congr 1; rw [Bool.eq_iff_iff]; simp; omega
  | succ d ih =>
    intro i b hd
    rw [drop_rd (i := i) (by omega), keepG]
    by_cases hb : isB (rd m (i : Int)) = true
    · refine Ev.cast (Ev.step (fun k => ?_) (ih (i + 1) (b || rd m (i : Int) == 1) (by omega))) (by rw [hb, Bool.true_and])
      rw [impl_keepOk.l0, if_pos (by omega), if_pos (by omega), if_pos (by omega), isBit_eq, Option.bind_some, if_pos hb, wsucc (by omega)]
      cases b
      · rfl
      · rfl
    · refine Ev.fin (fun k => ?_)
      rw [impl_keepOk.l0, if_pos (by omega), if_pos (by omega), if_pos (by omega), isBit_eq, Option.bind_some, if_neg hb, Bool.eq_false_iff.mpr hb, Bool.false_and]
theorem sKeep_ev (m : List Int) (hm : m.length ≤ 1048576) : Ev (fun k => spec_l15Keep.f k m) (keepM m) := sKeep_l0 m hm m.length 0 false (by omega)
theorem iKeep_ev (m : List Int) (hm : m.length ≤ 1048576) : Ev (fun k => impl_keepOk.f k m) (keepM m) := iKeep_l0 m hm m.length 0 false (by omega)
theorem keepM_ne {m : List Int} (h : keepM m = true) : m.length ≠ 0 := by
  intro e
  rw [List.length_eq_zero_iff.mp e] at h
  exact absurd h (by decide)
theorem keepG_bits : ∀ {m : List Int} {b : Bool} {n : Nat}, keepG b n m = true → ∀ x ∈ m, x = 0 ∨ x = 1
  | [], _, _, _, x, hx => by cases hx
  | y :: t, b, n, h, x, hx => by
    rw [keepG, Bool.and_eq_true] at h
    rcases List.mem_cons.mp hx with rfl | hx
    · exact isB_or h.1
    · exact keepG_bits h.2 x hx

theorem Thicken_late (l m : List Int) (n : Nat) (hl : l.length ≤ 1048576) (h0 : m.length ≠ 0) (hn : n ≤ 1024) : ∀ (d i at_ : Nat) (arr : List Int), i + d = n → l.length < at_ → at_ ≤ 2000000 + i →
    Ev (fun k => impl_Thicken.l0 k l m arr (at_ : Int) (n : Int) (i : Int)) ([], false) := by
  intro d
  induction d with
  | zero =>
    intro i at_ arr hd h1 h2
    exact Ev.fin (fun k => by rw [impl_Thicken.l0, if_neg (by omega), if_neg (by omega)])
  | succ d ih =>
    intro i at_ arr hd h1 h2
    have hlt := Nat.mod_lt i (Nat.pos_of_ne_zero h0)
    have e : Int.tmod (i : Int) (m.length : Int) = ((i % m.length : Nat) : Int) := rfl
    generalize i % m.length = j at *
    by_cases hk : rd m (j : Int) = 0
    · refine Ev.step (fun k => ?_) (ih (i + 1) at_ arr (by omega) h1 (by omega))
      rw [impl_Thicken.l0, if_pos (by omega), if_neg (by omega), e, if_pos (by omega), if_pos (by omega), if_pos hk, wsucc (by omega)]
    · refine Ev.step (fun k => ?_) (ih (i + 1) (at_ + 1) arr (by omega) (by omega) (by omega))
      rw [impl_Thicken.l0, if_pos (by omega), if_neg (by omega), e, if_pos (by omega), if_pos (by omega), if_neg hk, if_neg (by omega), wsucc (by omega), wsucc (by omega)]
theorem Thicken_loops (l m : List Int) (n : Nat) (hl : l.length ≤ 1048576) (h0 : m.length ≠ 0) (hb : ∀ x ∈ m, x = 0 ∨ x = 1) (hn : n ≤ 1024) : ∀ (d i at_ : Nat) (acc : List Int), i + d = n → acc.length = i → at_ ≤ l.length →
    ∃ r ok, r.length ≤ 1024 ∧ Ev (fun k => spec_Thicken.l0 k l m (n : Int) acc (at_ : Int) (i : Int)) (r, ok) ∧ Ev (fun k => impl_Thicken.l0 k l m (acc ++ List.replicate d 0) (at_ : Int) (n : Int) (i : Int)) (r, ok) := by
  intro d
  induction d with
  | zero =>
    intro i at_ acc hd ha hat
    rw [List.replicate_zero, List.append_nil]
    by_cases he : at_ = l.length
    · exact ⟨acc, true, by omega, Ev.fin (fun k => by rw [spec_Thicken.l0, if_neg (by omega), if_pos (by omega)]), Ev.fin (fun k => by rw [impl_Thicken.l0, if_neg (by omega), if_pos (by omega)])⟩
    · exact ⟨[], false, by simp, Ev.fin (fun k => by rw [spec_Thicken.l0, if_neg (by omega), if_neg (by omega)]), Ev.fin (fun k => by rw [impl_Thicken.l0, if_neg (by omega), if_neg (by omega)])⟩
  | succ d ih =>
    intro i at_ acc hd ha hat
    have hlt := Nat.mod_lt i (Nat.pos_of_ne_zero h0)
    have e : Int.tmod (i : Int) (m.length : Int) = ((i % m.length : Nat) : Int) := rfl
    generalize i % m.length = j at *
    have hbit := hb _ (rd_mem hlt)
    have hlen : (acc ++ List.replicate (d + 1) (0 : Int)).length = n := by simp; omega
    by_cases hk : rd m (j : Int) = 1
    · by_cases he : at_ = l.length
      · refine ⟨[], false, by simp, Ev.fin (fun k => ?_), Ev.step (fun k => ?_) (Thicken_late l m n hl h0 hn d (i + 1) (at_ + 1) (acc ++ List.replicate (d + 1) 0) (by omega) (by omega) (by omega))⟩
        · rw [spec_Thicken.l0, if_pos (by omega), if_neg (by omega), e, if_pos (by omega), if_pos (by omega), if_pos hk, if_pos (by omega)]
        · rw [impl_Thicken.l0, if_pos (by omega), if_neg (by omega), e, if_pos (by omega), if_pos (by omega), if_neg (by omega), if_neg (by omega), wsucc (by omega), wsucc (by omega)]
      · obtain ⟨r, ok, h1, h2, h3⟩ := ih (i + 1) (at_ + 1) (acc ++ [rd l (at_ : Int)]) (by omega) (by simp; omega) (by omega)
        refine ⟨r, ok, h1, Ev.step (fun k => ?_) h2, Ev.step (fun k => ?_) h3⟩
        · rw [spec_Thicken.l0, if_pos (by omega), if_neg (by omega), e, if_pos (by omega), if_pos (by omega), if_pos hk, if_neg (by omega), if_pos (by omega), if_pos (by omega), if_pos (by omega), wsucc (by omega), wsucc (by omega)]
        · have es : (acc ++ List.replicate (d + 1) (0 : Int)).set i (rd l (at_ : Int)) = acc ++ [rd l (at_ : Int)] ++ List.replicate d 0 := by
            rw [List.set_append_right _ _ (by omega), ha, Nat.sub_self, List.replicate_succ, List.set_cons_zero, List.append_assoc]; rfl
          rw [impl_Thicken.l0, if_pos (by omega), if_neg (by omega), e, if_pos (by omega), if_pos (by omega), if_neg (by omega), if_pos (by omega), if_pos (by omega), if_pos (by omega), if_pos (by omega), wsucc (by omega), wsucc (by omega), Int.toNat_natCast, es]
    · obtain ⟨r, ok, h1, h2, h3⟩ := ih (i + 1) at_ (acc ++ [0]) (by omega) (by simp; omega) hat
      refine ⟨r, ok, h1, Ev.step (fun k => ?_) h2, Ev.step (fun k => ?_) h3⟩
      · rw [spec_Thicken.l0, if_pos (by omega), if_neg (by omega), e, if_pos (by omega), if_pos (by omega), if_neg hk, if_pos (by omega), wsucc (by omega)]
      · rw [impl_Thicken.l0, if_pos (by omega), if_neg (by omega), e, if_pos (by omega), if_pos (by omega), if_pos (by omega), wsucc (by omega), List.append_assoc, List.replicate_succ]; rfl
theorem Thicken_both (l m : List Int) (n : Int) (hl : l.length ≤ 1048576) (hm : m.length ≤ 1048576) : ∃ r ok, Ev (fun k => spec_Thicken.f k l m n) (r, ok) ∧ Ev (fun k => impl_Thicken.f k l m n) (r, ok) ∧ r.length ≤ 17592186044416 := by
  unfold spec_Thicken.f impl_Thicken.f
  by_cases hk : keepM m = true
  · by_cases hn : 0 ≤ n ∧ n ≤ 1024
    · obtain ⟨n, rfl⟩ : ∃ q : Nat, n = q := ⟨n.toNat, by omega⟩
      obtain ⟨r, ok, h1, h2, h3⟩ := Thicken_loops l m n hl (keepM_ne hk) (keepG_bits hk) (by omega) n 0 0 [] (by omega) rfl (by omega)
      rw [List.nil_append] at h3
      refine ⟨r, ok, Ev.bind0 rfl (Ev.bind (sKeep_ev m hm) (Ev.pos hk (Ev.bind0 (l1In_eq _ _ _) (Ev.step (fun k => ?_) h2)))), Ev.bind (iKeep_ev m hm) (Ev.pos hk (Ev.neg (by omega) (Ev.step (f := fun k => impl_Thicken.l0 k l m (List.replicate n 0) 0 ((List.replicate n (0 : Int)).length : Int) 0) (fun k => ?_) ?_))), by omega⟩
      · rw [spec_Thicken.j0, decide_eq_true hn]; rfl
      · rw [impl_Thicken.j0, decide_eq_false (by omega), if_neg (by decide), if_pos (by omega), if_pos (by omega), Option.bind_some, Int.toNat_natCast]
      · rw [List.length_replicate]; exact h3
    · refine ⟨[], false, Ev.bind0 rfl (Ev.bind (sKeep_ev m hm) (Ev.pos hk (Ev.bind0 (l1In_eq _ _ _) (Ev.fin (fun k => ?_))))), Ev.bind (iKeep_ev m hm) (Ev.pos hk ?_), by simp⟩
      · rw [spec_Thicken.j0, decide_eq_false hn]; rfl
      · by_cases h0 : n < 0
        · exact Ev.pos h0 (Ev.fin (fun k => by rw [impl_Thicken.j0]; rfl))
        · refine Ev.neg h0 (Ev.fin (fun k => ?_))
          rw [impl_Thicken.j0, decide_eq_true (by omega)]; rfl
  · refine ⟨[], false, Ev.bind0 rfl (Ev.bind (sKeep_ev m hm) (Ev.neg hk (Ev.fin (fun k => ?_)))), Ev.bind (iKeep_ev m hm) (Ev.neg hk (Ev.fin (fun k => ?_))), by simp⟩
    · rw [spec_Thicken.j0]; rfl
    · rw [impl_Thicken.j0]; rfl

theorem toIntS_l0 (l : List Int) (hl : l.length ≤ 17592186044416) : ∀ (d i : Nat) (x : List Int), i + d = l.length → x.length = l.length → x.take i = l.take i →
    Ev (fun k => laws_toIntS.l0 k l x (i : Int)) l := by
  intro d
  induction d with
  | zero =>
    intro i x hd hx ht
    refine Ev.fin (fun k => ?_)
    rw [laws_toIntS.l0, if_neg (by omega)]
    rw [List.take_of_length_le (by omega), List.take_of_length_le (by omega)] at ht
    rw [ht]
  | succ d ih =>
    intro i x hd hx ht
    refine Ev.step (fun k => ?_) (ih (i + 1) (x.set i (rd l (i : Int))) (by omega) (by simpa using hx) ?_)
    · rw [laws_toIntS.l0, if_pos (by omega), if_pos (by omega), if_pos (by omega), wsucc (by omega), Int.toNat_natCast]
    · rw [take_rd (by simp; omega), take_rd (by omega), List.take_set_of_le (by omega), ht, rd_lt (by simp; omega), List.getElem_set_self]
theorem toIntS_ev (l : List Int) (hl : l.length ≤ 17592186044416) : Ev (fun k => laws_toIntS.f k l) l := by
  unfold laws_toIntS.f
  refine Ev.pos (by omega) (Ev.pos (by omega) ?_)
  exact toIntS_l0 l hl l.length 0 _ (by omega) (by simp) (by simp)

theorem eqIntS_l0 (l : List Int) (hl : l.length ≤ 17592186044416) : ∀ (d i : Nat), i + d = l.length → Ev (fun k => laws_eqIntS.l0 k l l (i : Int)) true := by
  intro d
  induction d with
  | zero =>
    intro i hd
    refine Ev.fin (fun k => ?_)
    rw [laws_eqIntS.l0, if_neg (by omega)]
  | succ d ih =>
    intro i hd
    refine Ev.step (fun k => ?_) (ih (i + 1) (by omega))
    rw [laws_eqIntS.l0, if_pos (by omega), if_pos (by omega), if_pos (by omega), if_pos rfl, wsucc (by omega)]
theorem eqIntS_ev (l : List Int) (hl : l.length ≤ 17592186044416) : Ev (fun k => laws_eqIntS.f k l l) true := by
  unfold laws_eqIntS.f
  exact Ev.pos rfl (eqIntS_l0 l hl l.length 0 (by omega))

theorem markIntS_l0 (n : Nat) (s : Int) (hs : 0 ≤ s ∧ s ≤ 100000000000000) (hn : n ≤ 17592186044416) : ∀ (d i : Nat) (x : List Int), i + d = n → x.length = n → x.take i = mkL s i →
    Ev (fun k => laws_markIntS.l0 k x (s + (i : Int)) (i : Int)) (s + (n : Int), mkL s n) := by
  intro d
  induction d with
  | zero =>
    intro i x hd hx ht
    refine Ev.fin (fun k => ?_)
    rw [laws_markIntS.l0, if_neg (by omega)]
    obtain rfl : i = n := by omega
    rw [List.take_of_length_le (by omega)] at ht
    rw [ht]
  | succ d ih =>
    intro i x hd hx ht
    refine Ev.step (fun k => ?_) (ih (i + 1) (x.set i (s + (i : Int))) (by omega) (by simpa using hx) ?_)
    · have e : wrap64 (s + (i : Int) + 1) = s + ((i + 1 : Nat) : Int) := by rw [w64 (by omega) (by omega)]; omega
      rw [laws_markIntS.l0, if_pos (by omega), if_pos (by omega), wsucc (by omega), e, Int.toNat_natCast]
    · rw [take_rd (by simp; omega), List.take_set_of_le (by omega), ht, rd_lt (by simp; omega), List.getElem_set_self]
      rfl
theorem markIntS_ev (x : List Int) (s : Int) (hs : 0 ≤ s ∧ s ≤ 100000000000000) (hl : x.length ≤ 17592186044416) : Ev (fun k => laws_markIntS.f k x s) (s + (x.length : Int), mkL s x.length) := by
  unfold laws_markIntS.f
  exact Ev.cast (Ev.congr (fun k => by rw [Int.natCast_zero, Int.add_zero]) (markIntS_l0 x.length s hs hl x.length 0 x (by omega) rfl (by simp [mkL]))) rfl

theorem heldIntS_l0 (n : Nat) (s : Int) (hs : 0 ≤ s ∧ s ≤ 100000000000000) (hn : n ≤ 17592186044416) : ∀ (d i : Nat), i + d = n → Ev (fun k => laws_heldIntS.l0 k (mkL s n) (s + (i : Int)) (i : Int)) (s + (n : Int)) := by
  intro d
  induction d with
  | zero =>
    intro i hd
    refine Ev.fin (fun k => ?_)
    rw [laws_heldIntS.l0, mkL_length, if_neg (by omega)]
    congr 1; omega
  | succ d ih =>
    intro i hd
    refine Ev.step (fun k => ?_) (ih (i + 1) (by omega))
    have e : wrap64 (s + (i : Int) + 1) = s + ((i + 1 : Nat) : Int) := by rw [w64 (by omega) (by omega)]; omega
    rw [laws_heldIntS.l0, mkL_length, if_pos (by omega), if_pos (by omega), if_pos (rd_mkL s (by omega)), wsucc (by omega), e]
theorem heldIntS_ev (n : Nat) (s : Int) (hs : 0 ≤ s ∧ s ≤ 100000000000000) (hl : n ≤ 17592186044416) : Ev (fun k => laws_heldIntS.f k (mkL s n) s) (s + (n : Int)) := by
  unfold laws_heldIntS.f
  exact Ev.congr (fun k => by rw [Int.natCast_zero, Int.add_zero]) (heldIntS_l0 n s hs hl n 0 (by omega))

theorem FnExactThicken : laws_FnExactThicken.Pure := by
  intro l m n _ bl wl _ bm wm wn
  refine Ev.rounds ?_
  unfold laws_FnExactThicken.f
  by_cases gl : (l.length : Int) > 1048576
  · exact Ev.pos gl (Ev.now true)
  refine Ev.neg gl ?_
  have hl : l.length ≤ 1048576 := by omega
  have hl4 : l.length ≤ 17592186044416 := by omega
  by_cases gm : (m.length : Int) > 1048576
  · exact Ev.pos gm (Ev.now true)
  refine Ev.neg gm ?_
  have hm : m.length ≤ 1048576 := by omega
  have hm4 : m.length ≤ 17592186044416 := by omega
  obtain ⟨r, ok, hS, hI, hr⟩ := Thicken_both l m n hl hm
  have ml : 0 ≤ (1 : Int) ∧ (1 : Int) ≤ 100000000000000 := by omega
  have mm : 0 ≤ (1 + (l.length : Int) : Int) ∧ (1 + (l.length : Int) : Int) ≤ 100000000000000 := by omega
  have m1 : 0 ≤ (1 : Int) ∧ (1 : Int) ≤ 100000000000000 := by omega
  repeat (first
    | exact Ev.now true
    | with_reducible refine Ev.bind (toIntS_ev l hl4) ?_
    | with_reducible refine Ev.bind (toIntS_ev m hm4) ?_
    | with_reducible refine Ev.bind hS ?_
    | with_reducible refine Ev.bind hI ?_
    | with_reducible refine Ev.bind (eqIntS_ev l hl4) ?_
    | with_reducible refine Ev.bind (eqIntS_ev m hm4) ?_
    | with_reducible refine Ev.bind (eqIntS_ev r hr) ?_
    | with_reducible refine Ev.bind (markIntS_ev l (1) ml hl4) ?_
    | with_reducible refine Ev.bind (markIntS_ev m (1 + (l.length : Int)) mm hm4) ?_
    | with_reducible refine Ev.bind (markIntS_ev r 1 m1 hr) ?_
    | with_reducible refine Ev.bind (heldIntS_ev r.length 1 m1 hr) ?_
    | refine Ev.pos rfl ?_
    | (refine Ev.neg ?_ ?_; (· first | (simp; done) | omega))
    | refine Ev.step (fun k => by rw [laws_FnExactThicken.j0]) ?_
    | refine Ev.step (fun k => by rw [laws_FnExactThicken.j1]) ?_
    | refine Ev.step (fun k => by rw [laws_FnExactThicken.j2]) ?_)

end Go.Proofs.Ytonmdhaollhekaa.Pure
