/- Soften tells what the reference tells, leaves its arguments alone and answers new memory, for all arguments; no condition. -/
import Derived.Test.YtamgllkncpnmiaaPFnExactSoftenx3
import Derived.Test.YtamgllkncpnmiaaCom
import Derived.Test.YtamgllkncpnmiaaMark
set_option linter.unusedVariables false
set_option linter.unusedSimpArgs false
namespace Go.Proofs.Ytamgllkncpnmiaa.Pure
open Go.RowKit Go.Proofs.Ytamgllkncpnmiaa.PFnExactSoften Go.Proofs.YtamgllkncpnmiaaW.PrintWords Go.Proofs.YtamgllkncpnmiaaW.PrintLast Go.Proofs.Ytamgllkncpnmiaa.Com Go.Proofs.Ytamgllkncpnmiaa.Mark

theorem l1In_eq (a b c : Int) : spec_l1In.f a b c = some (decide (b ≤ a ∧ a ≤ c)) := by
  unfold spec_l1In.f
  by_cases h : b ≤ a
  · rw [if_pos h]; simp [h]
  · rw [if_neg h]; simp [h]

theorem sBitsOk_l0 (l : List Int) (hl : l.length ≤ 17592186044416) : ∀ (d i : Nat), i + d = l.length → Ev (fun k => spec_BitsOk.l0 k l (i : Int)) ((l.drop i).all isB && decide (l.length ≤ 1024)) := by
  intro d
  induction d with
  | zero =>
    intro i hd
    refine Ev.fin (fun k => ?_)
    rw [spec_BitsOk.l0, if_neg (by omega), List.drop_of_length_le (by omega)]
    simp
    omega
  | succ d ih =>
    intro i hd
    rw [drop_rd (by omega)]
    have e : spec_l1In.f (rd l (i : Int)) 0 1 = some (isB (rd l (i : Int))) := by
      rw [l1In_eq]; congr 1; unfold isB; rw [Bool.eq_iff_iff]; simp; omega
    by_cases hb : isB (rd l (i : Int)) = true
    · refine Ev.cast (Ev.step (fun k => ?_) (ih (i + 1) (by omega))) (by simp [hb])
      rw [spec_BitsOk.l0, if_pos (by omega), if_pos (by omega), e, Option.bind_some, if_pos hb, wsucc (by omega)]
    · refine Ev.fin (fun k => ?_)
      rw [spec_BitsOk.l0, if_pos (by omega), if_pos (by omega), e, Option.bind_some, if_neg hb]
      simp [hb]
theorem sBitsOk_ev (l : List Int) (hl : l.length ≤ 17592186044416) : Ev (fun k => spec_BitsOk.f k l) (bitsOk l) := by
  unfold spec_BitsOk.f
  exact sBitsOk_l0 l hl l.length 0 (by omega)

theorem isBit_eq (x : Int) : impl_isBit.f x = some (isB x) := by
  unfold impl_isBit.f isB
  by_cases h : x = 0
  · rw [if_pos h]; simp [h]
  · rw [if_neg h]; simp [h]

theorem iBitsOk_l0 (l : List Int) (hl : l.length ≤ 17592186044416) : ∀ (d i : Nat), i + d = l.length → Ev (fun k => impl_BitsOk.l0 k l l (l.length : Int) (i : Int)) ((l.drop i).all isB && decide (l.length ≤ 1024)) := by
  intro d
  induction d with
  | zero =>
    intro i hd
    refine Ev.fin (fun k => ?_)
    rw [impl_BitsOk.l0, if_neg (by omega), List.drop_of_length_le (by omega)]
    simp
    omega
  | succ d ih =>
    intro i hd
    rw [drop_rd (by omega)]
    by_cases hb : isB (rd l (i : Int)) = true
    · refine Ev.cast (Ev.step (fun k => ?_) (ih (i + 1) (by omega))) (by simp [hb])
      rw [impl_BitsOk.l0, if_pos (by omega), if_pos (by omega), if_pos (by omega), isBit_eq, Option.bind_some, if_pos hb, wsucc (by omega)]
    · refine Ev.fin (fun k => ?_)
      rw [impl_BitsOk.l0, if_pos (by omega), if_pos (by omega), if_pos (by omega), isBit_eq, Option.bind_some, if_neg hb]
      simp [hb]
theorem iBitsOk_ev (l : List Int) (hl : l.length ≤ 17592186044416) : Ev (fun k => impl_BitsOk.f k l) (bitsOk l) := by
  unfold impl_BitsOk.f
  exact iBitsOk_l0 l hl l.length 0 (by omega)

def softV (s x : Int) : Int := wrap64 (s * wrap64 (wrap64 (2 * x) - 1))
def softM (l : List Int) (s : Int) : List Int × Bool := if bitsOk l = true ∧ 0 ≤ s ∧ s ≤ 100 then (l.map (softV s), true) else ([], false)
theorem sSoften_l0 (l : List Int) (s : Int) (hl : l.length ≤ 1024) : ∀ (d i : Nat) (acc : List Int), i + d = l.length → acc.length ≤ i →
    Ev (fun k => spec_Soften.l0 k l s acc (i : Int)) (acc ++ (l.drop i).map (softV s), true) := by
  intro d
  induction d with
  | zero =>
    intro i acc hd ha
    refine Ev.fin (fun k => ?_)
    rw [spec_Soften.l0, if_neg (by omega), List.drop_of_length_le (by omega)]
    simp
  | succ d ih =>
    intro i acc hd ha
    refine Ev.cast (Ev.step (fun k => ?_) (ih (i + 1) (acc ++ [softV s (rd l (i : Int))]) (by omega) (by simp; omega))) (by rw [drop_rd (i := i) (by omega)]; simp)
    rw [spec_Soften.l0, if_pos (by omega), if_pos (by omega), if_pos (by omega), wsucc (by omega)]
    rfl
theorem iSoften_l0 (l : List Int) (s : Int) (hl : l.length ≤ 1024) : ∀ (d i : Nat) (acc : List Int), i + d = l.length → acc.length ≤ i →
    Ev (fun k => impl_Soften.l0 k s acc l (l.length : Int) (i : Int)) (acc ++ (l.drop i).map (softV s), true) := by
  intro d
  induction d with
  | zero =>
    intro i acc hd ha
    refine Ev.fin (fun k => ?_)
    rw [impl_Soften.l0, if_neg (by omega), List.drop_of_length_le (by omega)]
    simp
  | succ d ih =>
    intro i acc hd ha
    refine Ev.cast (Ev.step (fun k => ?_) (ih (i + 1) (acc ++ [softV s (rd l (i : Int))]) (by omega) (by simp; omega))) (by rw [drop_rd (i := i) (by omega)]; simp)
    rw [impl_Soften.l0, if_pos (by omega), if_pos (by omega), if_pos (by omega), if_pos (by omega), wsucc (by omega), Int.mul_comm _ s]
    rfl
theorem sSoften_ev (l : List Int) (s : Int) (hl : l.length ≤ 17592186044416) : Ev (fun k => spec_Soften.f k l s) (softM l s) := by
  unfold spec_Soften.f softM
  refine Ev.bind0 rfl (Ev.bind (sBitsOk_ev l hl) ?_)
  by_cases hb : bitsOk l = true
  · refine Ev.pos hb (Ev.bind0 (l1In_eq _ _ _) ?_)
    by_cases hs : 0 ≤ s ∧ s ≤ 100
    · rw [if_pos ⟨hb, hs⟩, decide_eq_true hs]
      refine Ev.step (fun k => ?_) (sSoften_l0 l s (bitsOk_len hb) l.length 0 [] (by omega) (by simp))
      rw [spec_Soften.j0]; rfl
    · rw [if_neg (fun h => hs h.2), decide_eq_false hs]
      refine Ev.fin (fun k => ?_)
      rw [spec_Soften.j0]; rfl
  · rw [if_neg (fun h => hb h.1)]
    refine Ev.neg hb (Ev.fin (fun k => ?_))
    rw [spec_Soften.j0]; rfl
theorem iSoften_ev (l : List Int) (s : Int) (hl : l.length ≤ 17592186044416) : Ev (fun k => impl_Soften.f k l s) (softM l s) := by
  unfold impl_Soften.f softM
  refine Ev.bind (iBitsOk_ev l hl) ?_
  by_cases hb : bitsOk l = true
  · refine Ev.pos hb ?_
    by_cases h0 : s < 0
    · rw [if_neg (by omega)]
      refine Ev.pos h0 (Ev.fin (fun k => ?_))
      rw [impl_Soften.j0]; rfl
    · refine Ev.neg h0 ?_
      by_cases h1 : s > 100
      · rw [if_neg (by omega), decide_eq_true h1]
        refine Ev.fin (fun k => ?_)
        rw [impl_Soften.j0]; rfl
      · rw [if_pos ⟨hb, by omega, by omega⟩, decide_eq_false h1]
        refine Ev.step (fun k => ?_) (iSoften_l0 l s (bitsOk_len hb) l.length 0 [] (by omega) (by simp))
        rw [impl_Soften.j0]; rfl
  · rw [if_neg (fun h => hb h.1)]
    refine Ev.neg hb (Ev.fin (fun k => ?_))
    rw [impl_Soften.j0]; rfl
theorem softM_len (l : List Int) (s : Int) : (softM l s).1.length ≤ 1024 := by
  unfold softM
  split
  · next h => simpa using bitsOk_len h.1
  · simp

theorem toIntS_l0 (l : List Int) (hl : l.length ≤ 17592186044416) : ∀ (d i : Nat) (x : List Int), i + d = l.length → x.length = l.length → x.take i = l.take i →
    Ev (fun k => laws_toIntS.l0 k l x (i : Int)) l := by
  intro d
  induction d with
  | zero =>
    intro i x hd hx ht
    refine Ev.fin (fun k => ?_)
    rw [laws_toIntS.l0, if_neg (by omega)]
    rw [List.take_of_length_le (by omega), List.take_of_length_le (by omega)] at ht
    rw [ht]
  | succ d ih =>
    intro i x hd hx ht
    refine Ev.step (fun k => ?_) (ih (i + 1) (x.set i (rd l (i : Int))) (by omega) (by simpa using hx) ?_)
    · rw [laws_toIntS.l0, if_pos (by omega), if_pos (by omega), if_pos (by omega), wsucc (by omega), Int.toNat_natCast]
    · rw [take_rd (by simp; omega), take_rd (by omega), List.take_set_of_le (by omega), ht, rd_lt (by simp; omega), List.getElem_set_self]
theorem toIntS_ev (l : List Int) (hl : l.length ≤ 17592186044416) : Ev (fun k => laws_toIntS.f k l) l := by
  unfold laws_toIntS.f
  refine Ev.pos (by omega) (Ev.pos (by omega) ?_)
  exact toIntS_l0 l hl l.length 0 _ (by omega) (by simp) (by simp)

theorem eqIntS_l0 (l : List Int) (hl : l.length ≤ 17592186044416) : ∀ (d i : Nat), i + d = l.length → Ev (fun k => laws_eqIntS.l0 k l l (i : Int)) true := by
  intro d
  induction d with
  | zero =>
    intro i hd
    refine Ev.fin (fun k => ?_)
    rw [laws_eqIntS.l0, if_neg (by omega)]
  | succ d ih =>
    intro i hd
    refine Ev.step (fun k => ?_) (ih (i + 1) (by omega))
    rw [laws_eqIntS.l0, if_pos (by omega), if_pos (by omega), if_pos (by omega), if_pos rfl, wsucc (by omega)]
theorem eqIntS_ev (l : List Int) (hl : l.length ≤ 17592186044416) : Ev (fun k => laws_eqIntS.f k l l) true := by
  unfold laws_eqIntS.f
  exact Ev.pos rfl (eqIntS_l0 l hl l.length 0 (by omega))

theorem markIntS_l0 (n : Nat) (hn : n ≤ 17592186044416) : ∀ (d i : Nat) (x : List Int), i + d = n → x.length = n → x.take i = mkL i →
    Ev (fun k => laws_markIntS.l0 k x (1 + (i : Int)) (i : Int)) (1 + (n : Int), mkL n) := by
  intro d
  induction d with
  | zero =>
    intro i x hd hx ht
    refine Ev.fin (fun k => ?_)
    rw [laws_markIntS.l0, if_neg (by omega)]
    obtain rfl : i = n := by omega
    rw [List.take_of_length_le (by omega)] at ht
    rw [ht]
  | succ d ih =>
    intro i x hd hx ht
    refine Ev.step (fun k => ?_) (ih (i + 1) (x.set i (1 + (i : Int))) (by omega) (by simpa using hx) ?_)
    · have e : wrap64 (1 + (i : Int) + 1) = 1 + ((i + 1 : Nat) : Int) := by rw [w64 (by omega) (by omega)]; omega
      rw [laws_markIntS.l0, if_pos (by omega), if_pos (by omega), wsucc (by omega), e, Int.toNat_natCast]
    · rw [take_rd (by simp; omega), List.take_set_of_le (by omega), ht, rd_lt (by simp; omega), List.getElem_set_self]
      rfl
theorem markIntS_ev (x : List Int) (hl : x.length ≤ 17592186044416) : Ev (fun k => laws_markIntS.f k x 1) (1 + (x.length : Int), mkL x.length) := by
  unfold laws_markIntS.f
  exact markIntS_l0 x.length hl x.length 0 x (by omega) rfl (by simp [mkL])

theorem heldIntS_l0 (n : Nat) (hn : n ≤ 17592186044416) : ∀ (d i : Nat), i + d = n → Ev (fun k => laws_heldIntS.l0 k (mkL n) (1 + (i : Int)) (i : Int)) (1 + (n : Int)) := by
  intro d
  induction d with
  | zero =>
    intro i hd
    refine Ev.fin (fun k => ?_)
    rw [laws_heldIntS.l0, mkL_length, if_neg (by omega)]
    congr 1; omega
  | succ d ih =>
    intro i hd
    refine Ev.step (fun k => ?_) (ih (i + 1) (by omega))
    have e : wrap64 (1 + (i : Int) + 1) = 1 + ((i + 1 : Nat) : Int) := by rw [w64 (by omega) (by omega)]; omega
    rw [laws_heldIntS.l0, mkL_length, if_pos (by omega), if_pos (by omega), if_pos (rd_mkL (by omega)), wsucc (by omega), e]
theorem heldIntS_ev (n : Nat) (hl : n ≤ 17592186044416) : Ev (fun k => laws_heldIntS.f k (mkL n) 1) (1 + (n : Int)) := by
  unfold laws_heldIntS.f
  exact heldIntS_l0 n hl n 0 (by omega)

theorem FnExactSoften : laws_FnExactSoften.Pure := by
  intro l s _ bl wl ws
  refine Ev.rounds ?_
  unfold laws_FnExactSoften.f
  by_cases gl : (l.length : Int) > 1048576
  · exact Ev.pos gl (Ev.now true)
  refine Ev.neg gl ?_
  have hl : l.length ≤ 17592186044416 := by omega
  have hS := sSoften_ev l s hl
  have hI := iSoften_ev l s hl
  have hr := softM_len l s
  generalize softM l s = p at hS hI hr
  obtain ⟨r, ok⟩ := p
  have hr : r.length ≤ 17592186044416 := Nat.le_trans hr (by decide)
  repeat (first
    | exact Ev.now true
    | with_reducible refine Ev.bind (toIntS_ev l hl) ?_
    | with_reducible refine Ev.bind hS ?_
    | with_reducible refine Ev.bind hI ?_
    | with_reducible refine Ev.bind (eqIntS_ev l hl) ?_
    | with_reducible refine Ev.bind (eqIntS_ev r hr) ?_
    | with_reducible refine Ev.bind (markIntS_ev l hl) ?_
    | with_reducible refine Ev.bind (markIntS_ev r hr) ?_
    | with_reducible refine Ev.bind (heldIntS_ev r.length hr) ?_
    | refine Ev.pos rfl ?_
    | (refine Ev.neg ?_ ?_; (· first | (simp; done) | omega))
    | refine Ev.step (fun k => by rw [laws_FnExactSoften.j0]) ?_
    | refine Ev.step (fun k => by rw [laws_FnExactSoften.j1]) ?_
    | refine Ev.step (fun k => by rw [laws_FnExactSoften.j2]) ?_)

end Go.Proofs.Ytamgllkncpnmiaa.Pure
