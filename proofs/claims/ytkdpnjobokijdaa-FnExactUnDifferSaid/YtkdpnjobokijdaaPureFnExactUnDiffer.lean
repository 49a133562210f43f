/- UnDiffer tells what the reference tells, leaves its arguments alone and answers new memory, for all arguments; no condition. -/
import Derived.Test.YtkdpnjobokijdaaPFnExactUnDifferx2
import Derived.Test.YtkdpnjobokijdaaCom
import Derived.Test.YtkdpnjobokijdaaMark
set_option linter.unusedVariables false
set_option linter.unusedSimpArgs false
namespace Go.Proofs.Ytkdpnjobokijdaa.Pure
open Go.RowKit Go.Proofs.Ytkdpnjobokijdaa.PFnExactUnDiffer Go.Proofs.YtkdpnjobokijdaaW.PrintWords Go.Proofs.YtkdpnjobokijdaaW.PrintLast Go.Proofs.Ytkdpnjobokijdaa.Com Go.Proofs.Ytkdpnjobokijdaa.Mark

theorem l1In_eq (a b c : Int) : spec_l1In.f a b c = some (decide (b ≤ a ∧ a ≤ c)) := by
  unfold spec_l1In.f
  by_cases h : b ≤ a
  · rw [if_pos h]; simp [h]
  · rw [if_neg h]; simp [h]

theorem sBitsOk_l0 (l : List Int) (hl : l.length ≤ 17592186044416) : ∀ (d i : Nat), i + d = l.length → Ev (fun k => spec_BitsOk.l0 k l (i : Int)) ((l.drop i).all isB && decide (l.length ≤ 1024)) := by
  intro d
  induction d with
  | zero =>
    intro i hd
    refine Ev.fin (fun k => ?_)
    rw [spec_BitsOk.l0, if_neg (by omega), List.drop_of_length_le (by omega)]
    simp
    omega
  | succ d ih =>
    intro i hd
    rw [drop_rd (by omega)]
    have e : spec_l1In.f (rd l (i : Int)) 0 1 = some (isB (rd l (i : Int))) := by
      rw [l1In_eq]; congr 1; unfold isB; rw [Bool.eq_iff_iff]; simp; omega
    by_cases hb : isB (rd l (i : Int)) = true
    · refine Ev.cast (Ev.step (fun k => ?_) (ih (i + 1) (by omega))) (by simp [hb])
      rw [spec_BitsOk.l0, if_pos (by omega), if_pos (by omega), e, Option.bind_some, if_pos hb, wsucc (by omega)]
    · refine Ev.fin (fun k => ?_)
      rw [spec_BitsOk.l0, if_pos (by omega), if_pos (by omega), e, Option.bind_some, if_neg hb]
      simp [hb]
theorem sBitsOk_ev (l : List Int) (hl : l.length ≤ 17592186044416) : Ev (fun k => spec_BitsOk.f k l) (bitsOk l) := by
  unfold spec_BitsOk.f
  exact sBitsOk_l0 l hl l.length 0 (by omega)

theorem isBit_eq (x : Int) : impl_isBit.f x = some (isB x) := by
  unfold impl_isBit.f isB
  by_cases h : x = 0
  · rw [if_pos h]; simp [h]
  · rw [if_neg h]; simp [h]

theorem iBitsOk_l0 (l : List Int) (hl : l.length ≤ 17592186044416) : ∀ (d i : Nat), i + d = l.length → Ev (fun k => impl_BitsOk.l0 k l l (l.length : Int) (i : Int)) ((l.drop i).all isB && decide (l.length ≤ 1024)) := by
  intro d
  induction d with
  | zero =>
    intro i hd
    refine Ev.fin (fun k => ?_)
    rw [impl_BitsOk.l0, if_neg (by omega), List.drop_of_length_le (by omega)]
    simp
    omega
  | succ d ih =>
    intro i hd
    rw [drop_rd (by omega)]
    by_cases hb : isB (rd l (i : Int)) = true
    · refine Ev.cast (Ev.step (fun k => ?_) (ih (i + 1) (by omega))) (by simp [hb])
      rw [impl_BitsOk.l0, if_pos (by omega), if_pos (by omega), if_pos (by omega), isBit_eq, Option.bind_some, if_pos hb, wsucc (by omega)]
    · refine Ev.fin (fun k => ?_)
      rw [impl_BitsOk.l0, if_pos (by omega), if_pos (by omega), if_pos (by omega), isBit_eq, Option.bind_some, if_neg hb]
      simp [hb]
theorem iBitsOk_ev (l : List Int) (hl : l.length ≤ 17592186044416) : Ev (fun k => impl_BitsOk.f k l) (bitsOk l) := by
  unfold impl_BitsOk.f
  exact iBitsOk_l0 l hl l.length 0 (by omega)

def udL (last : Int) : List Int → List Int
  | [] => []
  | x :: t => bits .xor .i64 last x :: udL x t
theorem udL_len (l : List Int) : ∀ last, (udL last l).length = l.length := by
  induction l with
  | nil => intro _; rfl
  | cons x t ih => intro last; simp [udL, ih]
theorem sUnDiffer_l0 (l : List Int) (hl : l.length ≤ 1024) : ∀ (d i : Nat) (acc : List Int) (last : Int), i + d = l.length → acc.length = i →
    Ev (fun k => spec_UnDiffer.l0 k l acc last (i : Int)) (acc ++ udL last (l.drop i), true) := by
  intro d
  induction d with
  | zero =>
    intro i acc last hd ha
    refine Ev.fin (fun k => ?_)
    rw [spec_UnDiffer.l0, if_neg (by omega), List.drop_of_length_le (by omega), udL, List.append_nil]
  | succ d ih =>
    intro i acc last hd ha
    refine Ev.cast (Ev.step (fun k => ?_) (ih (i + 1) (acc ++ [bits .xor .i64 last (rd l (i : Int))]) (rd l (i : Int)) (by omega) (by simp; omega))) ?_
    · rw [spec_UnDiffer.l0, if_pos (by omega), if_pos (by omega), if_pos (by omega), wsucc (by omega)]
    · rw [drop_rd (i := i) (by omega), udL, List.append_assoc]; rfl
theorem iUnDiffer_l0 (l : List Int) (hl : l.length ≤ 1024) : ∀ (d i : Nat) (acc : List Int) (last : Int), i + d = l.length → acc.length = i →
    Ev (fun k => impl_UnDiffer.l0 k acc last l (l.length : Int) (i : Int)) (acc ++ udL last (l.drop i), true) := by
  intro d
  induction d with
  | zero =>
    intro i acc last hd ha
    refine Ev.fin (fun k => ?_)
    rw [impl_UnDiffer.l0, if_neg (by omega), List.drop_of_length_le (by omega), udL, List.append_nil]
  | succ d ih =>
    intro i acc last hd ha
    refine Ev.cast (Ev.step (fun k => ?_) (ih (i + 1) (acc ++ [bits .xor .i64 last (rd l (i : Int))]) (rd l (i : Int)) (by omega) (by simp; omega))) ?_
    · rw [impl_UnDiffer.l0, if_pos (by omega), if_pos (by omega), if_pos (by omega), if_pos (by omega), wsucc (by omega), bits_xor_comm .i64 _ last]
    · rw [drop_rd (i := i) (by omega), udL, List.append_assoc]; rfl
def unDifferM (l : List Int) : List Int × Bool := if bitsOk l = true then (udL 0 l, true) else ([], false)
theorem sUnDiffer_ev (l : List Int) (hl : l.length ≤ 1048576) : Ev (fun k => spec_UnDiffer.f k l) (unDifferM l) := by
  unfold spec_UnDiffer.f unDifferM
  refine Ev.bind0 rfl (Ev.bind (sBitsOk_ev l (by omega)) ?_)
  by_cases hb : bitsOk l = true
  · rw [if_pos hb]; exact Ev.pos hb (sUnDiffer_l0 l (bitsOk_len hb) l.length 0 [] 0 (by omega) rfl)
  · rw [if_neg hb]; exact Ev.neg hb (Ev.now _)
theorem iUnDiffer_ev (l : List Int) (hl : l.length ≤ 1048576) : Ev (fun k => impl_UnDiffer.f k l) (unDifferM l) := by
  unfold impl_UnDiffer.f unDifferM
  refine Ev.bind (iBitsOk_ev l (by omega)) ?_
  by_cases hb : bitsOk l = true
  · rw [if_pos hb]; exact Ev.pos hb (iUnDiffer_l0 l (bitsOk_len hb) l.length 0 [] 0 (by omega) rfl)
  · rw [if_neg hb]; exact Ev.neg hb (Ev.now _)
theorem UnDiffer_both (l : List Int) (hl : l.length ≤ 1048576) : ∃ r ok, Ev (fun k => spec_UnDiffer.f k l) (r, ok) ∧ Ev (fun k => impl_UnDiffer.f k l) (r, ok) ∧ r.length ≤ 17592186044416 := by
  refine ⟨(unDifferM l).1, (unDifferM l).2, sUnDiffer_ev l hl, iUnDiffer_ev l hl, ?_⟩
  unfold unDifferM
  split
  · simp only [udL_len]; omega
  · simp

theorem toIntS_l0 (l : List Int) (hl : l.length ≤ 17592186044416) : ∀ (d i : Nat) (x : List Int), i + d = l.length → x.length = l.length → x.take i = l.take i →
    Ev (fun k => laws_toIntS.l0 k l x (i : Int)) l := by
  intro d
  induction d with
  | zero =>
    intro i x hd hx ht
    refine Ev.fin (fun k => ?_)
    rw [laws_toIntS.l0, if_neg (by omega)]
    rw [List.take_of_length_le (by omega), List.take_of_length_le (by omega)] at ht
    rw [ht]
  | succ d ih =>
    intro i x hd hx ht
    refine Ev.step (fun k => ?_) (ih (i + 1) (x.set i (rd l (i : Int))) (by omega) (by simpa using hx) ?_)
    · rw [laws_toIntS.l0, if_pos (by omega), if_pos (by omega), if_pos (by omega), wsucc (by omega), Int.toNat_natCast]
    · rw [take_rd (by simp; omega), take_rd (by omega), List.take_set_of_le (by omega), ht, rd_lt (by simp; omega), List.getElem_set_self]
theorem toIntS_ev (l : List Int) (hl : l.length ≤ 17592186044416) : Ev (fun k => laws_toIntS.f k l) l := by
  unfold laws_toIntS.f
  refine Ev.pos (by omega) (Ev.pos (by omega) ?_)
  exact toIntS_l0 l hl l.length 0 _ (by omega) (by simp) (by simp)

theorem eqIntS_l0 (l : List Int) (hl : l.length ≤ 17592186044416) : ∀ (d i : Nat), i + d = l.length → Ev (fun k => laws_eqIntS.l0 k l l (i : Int)) true := by
  intro d
  induction d with
  | zero =>
    intro i hd
    refine Ev.fin (fun k => ?_)
    rw [laws_eqIntS.l0, if_neg (by omega)]
  | succ d ih =>
    intro i hd
    refine Ev.step (fun k => ?_) (ih (i + 1) (by omega))
    rw [laws_eqIntS.l0, if_pos (by omega), if_pos (by omega), if_pos (by omega), if_pos rfl, wsucc (by omega)]
theorem eqIntS_ev (l : List Int) (hl : l.length ≤ 17592186044416) : Ev (fun k => laws_eqIntS.f k l l) true := by
  unfold laws_eqIntS.f
  exact Ev.pos rfl (eqIntS_l0 l hl l.length 0 (by omega))

theorem markIntS_l0 (n : Nat) (s : Int) (hs : 0 ≤ s ∧ s ≤ 100000000000000) (hn : n ≤ 17592186044416) : ∀ (d i : Nat) (x : List Int), i + d = n → x.length = n → x.take i = mkL s i →
    Ev (fun k => laws_markIntS.l0 k x (s + (i : Int)) (i : Int)) (s + (n : Int), mkL s n) := by
  intro d
  induction d with
  | zero =>
    intro i x hd hx ht
    refine Ev.fin (fun k => ?_)
    rw [laws_markIntS.l0, if_neg (by omega)]
    obtain rfl : i = n := by omega
    rw [List.take_of_length_le (by omega)] at ht
    rw [ht]
  | succ d ih =>
    intro i x hd hx ht
    refine Ev.step (fun k => ?_) (ih (i + 1) (x.set i (s + (i : Int))) (by omega) (by simpa using hx) ?_)
    · have e : wrap64 (s + (i : Int) + 1) = s + ((i + 1 : Nat) : Int) := by rw [w64 (by omega) (by omega)]; omega
      rw [laws_markIntS.l0, if_pos (by omega), if_pos (by omega), wsucc (by omega), e, Int.toNat_natCast]
    · rw [take_rd (by simp; omega), List.take_set_of_le (by omega), ht, rd_lt (by simp; omega), List.getElem_set_self]
      rfl
theorem markIntS_ev (x : List Int) (s : Int) (hs : 0 ≤ s ∧ s ≤ 100000000000000) (hl : x.length ≤ 17592186044416) : Ev (fun k => laws_markIntS.f k x s) (s + (x.length : Int), mkL s x.length) := by
  unfold laws_markIntS.f
  exact Ev.cast (Ev.congr (fun k => by rw [Int.natCast_zero, Int.add_zero]) (markIntS_l0 x.length s hs hl x.length 0 x (by omega) rfl (by simp [mkL]))) rfl

theorem heldIntS_l0 (n : Nat) (s : Int) (hs : 0 ≤ s ∧ s ≤ 100000000000000) (hn : n ≤ 17592186044416) : ∀ (d i : Nat), i + d = n → Ev (fun k => laws_heldIntS.l0 k (mkL s n) (s + (i : Int)) (i : Int)) (s + (n : Int)) := by
  intro d
  induction d with
  | zero =>
    intro i hd
    refine Ev.fin (fun k => ?_)
    rw [laws_heldIntS.l0, mkL_length, if_neg (by omega)]
    congr 1; omega
  | succ d ih =>
    intro i hd
    refine Ev.step (fun k => ?_) (ih (i + 1) (by omega))
    have e : wrap64 (s + (i : Int) + 1) = s + ((i + 1 : Nat) : Int) := by rw [w64 (by omega) (by omega)]; omega
    rw [laws_heldIntS.l0, mkL_length, if_pos (by omega), if_pos (by omega), if_pos (rd_mkL s (by omega)), wsucc (by omega), e]
theorem heldIntS_ev (n : Nat) (s : Int) (hs : 0 ≤ s ∧ s ≤ 100000000000000) (hl : n ≤ 17592186044416) : Ev (fun k => laws_heldIntS.f k (mkL s n) s) (s + (n : Int)) := by
  unfold laws_heldIntS.f
  exact Ev.congr (fun k => by rw [Int.natCast_zero, Int.add_zero]) (heldIntS_l0 n s hs hl n 0 (by omega))

theorem FnExactUnDiffer : laws_FnExactUnDiffer.Pure := by
  intro l _ bl wl
  refine Ev.rounds ?_
  unfold laws_FnExactUnDiffer.f
  by_cases gl : (l.length : Int) > 1048576
  · exact Ev.pos gl (Ev.now true)
  refine Ev.neg gl ?_
  have hl : l.length ≤ 1048576 := by omega
  have hl4 : l.length ≤ 17592186044416 := by omega
  obtain ⟨r, ok, hS, hI, hr⟩ := UnDiffer_both l hl
  have ml : 0 ≤ (1 : Int) ∧ (1 : Int) ≤ 100000000000000 := by omega
  have m1 : 0 ≤ (1 : Int) ∧ (1 : Int) ≤ 100000000000000 := by omega
  repeat (first
    | exact Ev.now true
    | with_reducible refine Ev.bind (toIntS_ev l hl4) ?_
    | with_reducible refine Ev.bind hS ?_
    | with_reducible refine Ev.bind hI ?_
    | with_reducible refine Ev.bind (eqIntS_ev l hl4) ?_
    | with_reducible refine Ev.bind (eqIntS_ev r hr) ?_
    | with_reducible refine Ev.bind (markIntS_ev l (1) ml hl4) ?_
    | with_reducible refine Ev.bind (markIntS_ev r 1 m1 hr) ?_
    | with_reducible refine Ev.bind (heldIntS_ev r.length 1 m1 hr) ?_
    | refine Ev.pos rfl ?_
    | (refine Ev.neg ?_ ?_; (· first | (simp; done) | omega))
    | refine Ev.step (fun k => by rw [laws_FnExactUnDiffer.j0]) ?_
    | refine Ev.step (fun k => by rw [laws_FnExactUnDiffer.j1]) ?_
    | refine Ev.step (fun k => by rw [laws_FnExactUnDiffer.j2]) ?_)

end Go.Proofs.Ytkdpnjobokijdaa.Pure
