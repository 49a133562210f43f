/- Weave tells what the reference tells, leaves its arguments alone and answers new memory, for all arguments; no condition. -/
import Derived.Test.YtkdpnjobokijdaaPFnExactWeavex3
import Derived.Test.YtkdpnjobokijdaaCom
import Derived.Test.YtkdpnjobokijdaaWv
import Derived.Test.YtkdpnjobokijdaaMark
set_option linter.unusedVariables false
set_option linter.unusedSimpArgs false
namespace Go.Proofs.Ytkdpnjobokijdaa.Pure
open Go.RowKit Go.Proofs.Ytkdpnjobokijdaa.PFnExactWeave Go.Proofs.YtkdpnjobokijdaaW.PrintWords Go.Proofs.YtkdpnjobokijdaaW.PrintLast Go.Proofs.Ytkdpnjobokijdaa.Com Go.Proofs.Ytkdpnjobokijdaa.Wv Go.Proofs.Ytkdpnjobokijdaa.Mark

theorem weaves_eq (l : List Int) (r : Int) : impl_weaves.f l r = some (decide (l.length ≤ 1024 ∧ 1 ≤ r ∧ r ≤ 64)) := by
  unfold impl_weaves.f
  by_cases h1 : (l.length : Int) ≤ 1024
  · rw [if_pos h1]
    by_cases h2 : r ≥ 1
    · rw [if_pos h2]; congr 1; rw [Bool.eq_iff_iff]; simp; omega
    · rw [if_neg h2]; congr 1; symm; rw [decide_eq_false_iff_not]; omega
  · rw [if_neg h1]; congr 1; symm; rw [decide_eq_false_iff_not]; omega

def toI (l : List Nat) : List Int := l.map (fun n : Nat => (n : Int))
theorem toI_app (l m : List Nat) : toI (l ++ m) = toI l ++ toI m := by simp [toI]
theorem iwoven_l1 (n rows per c : Nat) (hn : n ≤ 1024) (hr : rows ≤ 64) (hp : per ≤ 2048) (hc : c ≤ 2048) (x : Int) (R : List Int) : ∀ (d r : Nat) (acc : List Int), r + d = rows → acc.length ≤ 1000000 + r →
    Ev (fun k => impl_woven.l0 k (n : Int) (rows : Int) (per : Int) (acc ++ toI (wIn n per c d r)) x ((c + 1 : Nat) : Int)) R →
    Ev (fun k => impl_woven.l1 k (n : Int) (rows : Int) (per : Int) acc (c : Int) x (c : Int) (rows : Int) (r : Int)) R := by
  intro d
  induction d with
  | zero =>
    intro r acc hd ha h
    refine Ev.step (fun k => ?_) h
    rw [impl_woven.l1, if_neg (by omega), wsucc (by omega)]
    simp [wIn, toI]
  | succ d ih =>
    intro r acc hd ha h
    have hm : r * per ≤ 64 * 2048 := Nat.mul_le_mul (by omega) hp
    have e1 : wrap64 ((r : Int) * (per : Int)) = ((r * per : Nat) : Int) := by rw [← Int.natCast_mul, w64 (by omega) (by omega)]
    have e2 : wrap64 (((r * per : Nat) : Int) + (c : Int)) = ((r * per + c : Nat) : Int) := by rw [w64 (by omega) (by omega)]; omega
    unfold wIn at h
    by_cases hlt : r * per + c < n
    · rw [if_pos hlt] at h
      refine Ev.step (fun k => ?_) (ih (r + 1) (acc ++ [((r * per + c : Nat) : Int)]) (by omega) (by simp; omega) ?_)
      · rw [impl_woven.l1, if_pos (by omega), e1, e2, if_pos (by omega), if_pos (by omega), wsucc (by omega)]
      · rw [List.append_assoc]; exact h
    · rw [if_neg hlt] at h
      refine Ev.step (fun k => ?_) (ih (r + 1) acc (by omega) (by omega) h)
      rw [impl_woven.l1, if_pos (by omega), e1, e2, if_neg (by omega), wsucc (by omega)]
theorem iwoven_l0 (n rows per : Nat) (hn : n ≤ 1024) (hr : rows ≤ 64) (hp : per ≤ 2048) : ∀ (d c : Nat) (acc : List Int), c + d = per → acc.length ≤ c * rows →
    Ev (fun k => impl_woven.l0 k (n : Int) (rows : Int) (per : Int) acc (per : Int) (c : Int)) (acc ++ toI (wOut n rows per d c)) := by
  intro d
  induction d with
  | zero =>
    intro c acc hd ha
    refine Ev.fin (fun k => ?_)
    rw [impl_woven.l0, if_neg (by omega)]
    simp [wOut, toI]
  | succ d ih =>
    intro c acc hd ha
    have hm : c * rows ≤ 2048 * 64 := Nat.mul_le_mul (by omega) hr
    have hin := wIn_le n per c rows 0
    refine Ev.step (f := fun k => impl_woven.l1 k (n : Int) (rows : Int) (per : Int) acc (c : Int) (per : Int) (c : Int) (rows : Int) 0) (fun k => ?_) ?_
    · rw [impl_woven.l0, if_pos (by omega)]
    · refine iwoven_l1 n rows per c hn hr hp (by omega) _ _ rows 0 acc (by omega) (by omega) ?_
      refine Ev.cast (ih (c + 1) (acc ++ toI (wIn n per c rows 0)) (by omega) ?_) ?_
      · rw [List.length_append, Nat.succ_mul]; simp only [toI, List.length_map]; omega
      · rw [List.append_assoc, ← toI_app]; rfl
theorem iwoven_ev (n rows : Nat) (hn : n ≤ 1024) (hr0 : 1 ≤ rows) (hr : rows ≤ 64) : Ev (fun k => impl_woven.f k (n : Int) (rows : Int)) (toI (order n rows)) := by
  unfold impl_woven.f
  have hp : perOf n rows ≤ 2048 := by
    unfold perOf
    exact Nat.le_trans (Nat.div_le_self _ _) (by omega)
  have ew : wrap64 (Int.tdiv (wrap64 (wrap64 ((n : Int) + (rows : Int)) - 1)) (rows : Int)) = ((perOf n rows : Nat) : Int) := by
    rw [w64 (n := (n : Int) + (rows : Int)) (by omega) (by omega), w64 (n := (n : Int) + (rows : Int) - 1) (by omega) (by omega)]
    have e : (n : Int) + (rows : Int) - 1 = ((n + rows - 1 : Nat) : Int) := by omega
    rw [e]
    have e2 : Int.tdiv ((n + rows - 1 : Nat) : Int) (rows : Int) = ((perOf n rows : Nat) : Int) := rfl
    rw [e2, w64 (by omega) (by omega)]
  refine Ev.neg (by omega) ?_
  rw [ew]
  exact iwoven_l0 n rows _ hn hr hp (perOf n rows) 0 [] (by omega) (by simp)

def pickAll (l : List Int) (ps : List Nat) : List Int := ps.map (fun p : Nat => rd l (p : Int))
theorem rd_toI2 (ps : List Nat) (i : Nat) (h : i < ps.length) : rd (toI ps) (i : Int) = ((ps[i] : Nat) : Int) := by
  rw [rd_lt (by simpa [toI] using h)]; simp [toI]
theorem iWeave_l0 (l : List Int) (ps : List Nat) (hl : l.length ≤ 1024) (hp : ps.length = l.length) (hb : ∀ p ∈ ps, p < l.length) : ∀ (d i : Nat) (acc : List Int), i + d = ps.length → acc.length = i →
    Ev (fun k => impl_Weave.l0 k l acc (toI ps) ((toI ps).length : Int) (i : Int)) (acc ++ pickAll l (ps.drop i), true) := by
  intro d
  have htl : (toI ps).length = ps.length := by simp [toI]
  induction d with
  | zero =>
    intro i acc hd ha
    refine Ev.fin (fun k => ?_)
    rw [impl_Weave.l0, if_neg (by omega), List.drop_of_length_le (by omega)]
    simp [pickAll]
  | succ d ih =>
    intro i acc hd ha
    have hpi := hb _ (List.getElem_mem (l := ps) (n := i) (by omega))
    refine Ev.cast (Ev.step (fun k => ?_) (ih (i + 1) (acc ++ [rd l ((ps[i]'(by omega) : Nat) : Int)]) (by omega) (by simp; omega))) ?_
    · rw [impl_Weave.l0, if_pos (by omega), if_pos (by omega), if_pos (by omega), rd_toI2 ps i (by omega), if_pos (by omega), if_pos (by omega), if_pos (by omega), wsucc (by omega)]
    · rw [List.drop_eq_getElem_cons (by omega : i < ps.length), List.append_assoc]; rfl
def weaveM (l : List Int) (r : Int) : List Int × Bool := if l.length ≤ 1024 ∧ 1 ≤ r ∧ r ≤ 64 then (pickAll l (order l.length r.toNat), true) else ([], false)
theorem iWeave_ev (l : List Int) (r : Int) : Ev (fun k => impl_Weave.f k l r) (weaveM l r) := by
  unfold impl_Weave.f weaveM
  refine Ev.bind0 (weaves_eq l r) ?_
  by_cases h : l.length ≤ 1024 ∧ 1 ≤ r ∧ r ≤ 64
  · rw [if_pos h]
    obtain ⟨rows, rfl⟩ : ∃ n : Nat, r = n := ⟨r.toNat, by omega⟩
    refine Ev.pos (decide_eq_true h) (Ev.bind (iwoven_ev l.length rows h.1 (by omega) (by omega)) ?_)
    exact iWeave_l0 l (order l.length rows) h.1 (order_len (by omega)) (fun p hp => (order_mem (by omega) p).mp hp) (order l.length rows).length 0 [] (by omega) rfl
  · rw [if_neg h]
    exact Ev.neg (by simpa using h) (Ev.now _)
theorem weaveM_len (l : List Int) (r : Int) : (weaveM l r).1.length ≤ 1024 := by
  unfold weaveM
  split
  · next h =>
    have := order_len (n := l.length) (rows := r.toNat) (by omega)
    simp only [pickAll, List.length_map]; omega
  · simp

theorem sorder_l1 (n rows per c : Nat) (hn : n ≤ 1024) (hr : rows ≤ 64) (hp : per ≤ 2048) (hc : c ≤ 2048) (R : List Int) : ∀ (d r : Nat) (acc : List Int), r + d = rows → acc.length ≤ 1000000 + r →
    Ev (fun k => spec_l13Order.l0 k (n : Int) (rows : Int) (per : Int) (acc ++ toI (wIn n per c d r)) ((c + 1 : Nat) : Int)) R →
    Ev (fun k => spec_l13Order.l1 k (n : Int) (rows : Int) (per : Int) acc (c : Int) (r : Int)) R := by
  intro d
  induction d with
  | zero =>
    intro r acc hd ha h
    refine Ev.step (fun k => ?_) h
    rw [spec_l13Order.l1, if_neg (by omega), wsucc (by omega)]
    simp [wIn, toI]
  | succ d ih =>
    intro r acc hd ha h
    have hm : r * per ≤ 64 * 2048 := Nat.mul_le_mul (by omega) hp
    have e1 : wrap64 ((r : Int) * (per : Int)) = ((r * per : Nat) : Int) := by rw [← Int.natCast_mul, w64 (by omega) (by omega)]
    have e2 : wrap64 (((r * per : Nat) : Int) + (c : Int)) = ((r * per + c : Nat) : Int) := by rw [w64 (by omega) (by omega)]; omega
    unfold wIn at h
    by_cases hlt : r * per + c < n
    · rw [if_pos hlt] at h
      refine Ev.step (fun k => ?_) (ih (r + 1) (acc ++ [((r * per + c : Nat) : Int)]) (by omega) (by simp; omega) ?_)
      · rw [spec_l13Order.l1, if_pos (by omega), e1, e2, if_pos (by omega), if_pos (by omega), wsucc (by omega)]
      · rw [List.append_assoc]; exact h
    · rw [if_neg hlt] at h
      refine Ev.step (fun k => ?_) (ih (r + 1) acc (by omega) (by omega) h)
      rw [spec_l13Order.l1, if_pos (by omega), e1, e2, if_neg (by omega), wsucc (by omega)]
theorem sorder_l0 (n rows per : Nat) (hn : n ≤ 1024) (hr : rows ≤ 64) (hp : per ≤ 2048) : ∀ (d c : Nat) (acc : List Int), c + d = per → acc.length ≤ c * rows →
    Ev (fun k => spec_l13Order.l0 k (n : Int) (rows : Int) (per : Int) acc (c : Int)) (acc ++ toI (wOut n rows per d c)) := by
  intro d
  induction d with
  | zero =>
    intro c acc hd ha
    refine Ev.fin (fun k => ?_)
    rw [spec_l13Order.l0, if_neg (by omega)]
    simp [wOut, toI]
  | succ d ih =>
    intro c acc hd ha
    have hm : c * rows ≤ 2048 * 64 := Nat.mul_le_mul (by omega) hr
    have hin := wIn_le n per c rows 0
    refine Ev.step (f := fun k => spec_l13Order.l1 k (n : Int) (rows : Int) (per : Int) acc (c : Int) 0) (fun k => ?_) ?_
    · rw [spec_l13Order.l0, if_pos (by omega)]
    · refine sorder_l1 n rows per c hn hr hp (by omega) _ rows 0 acc (by omega) (by omega) ?_
      refine Ev.cast (ih (c + 1) (acc ++ toI (wIn n per c rows 0)) (by omega) ?_) ?_
      · rw [List.length_append, Nat.succ_mul]; simp only [toI, List.length_map]; omega
      · rw [List.append_assoc, ← toI_app]; rfl
theorem sorder_ev (n rows : Nat) (hn : n ≤ 1024) (hr0 : 1 ≤ rows) (hr : rows ≤ 64) : Ev (fun k => spec_l13Order.f k (n : Int) (rows : Int)) (toI (order n rows)) := by
  unfold spec_l13Order.f
  have hp : perOf n rows ≤ 2048 := by
    unfold perOf
    exact Nat.le_trans (Nat.div_le_self _ _) (by omega)
  have ew : wrap64 (Int.tdiv (wrap64 (wrap64 ((n : Int) + (rows : Int)) - 1)) (rows : Int)) = ((perOf n rows : Nat) : Int) := by
    rw [w64 (n := (n : Int) + (rows : Int)) (by omega) (by omega), w64 (n := (n : Int) + (rows : Int) - 1) (by omega) (by omega)]
    have e : (n : Int) + (rows : Int) - 1 = ((n + rows - 1 : Nat) : Int) := by omega
    rw [e]
    have e2 : Int.tdiv ((n + rows - 1 : Nat) : Int) (rows : Int) = ((perOf n rows : Nat) : Int) := rfl
    rw [e2, w64 (by omega) (by omega)]
  refine Ev.neg (by omega) ?_
  rw [ew]
  exact sorder_l0 n rows _ hn hr hp (perOf n rows) 0 [] (by omega) (by simp)

theorem l1In_eq (a b c : Int) : spec_l1In.f a b c = some (decide (b ≤ a ∧ a ≤ c)) := by
  unfold spec_l1In.f
  by_cases h : b ≤ a
  · rw [if_pos h]; simp [h]
  · rw [if_neg h]; simp [h]

theorem sWeave_l0 (l : List Int) (ps : List Nat) (hl : l.length ≤ 1024) (hp : ps.length = l.length) (hb : ∀ p ∈ ps, p < l.length) : ∀ (d i : Nat) (acc : List Int), i + d = ps.length → acc.length = i →
    Ev (fun k => spec_Weave.l0 k l acc (toI ps) (i : Int)) (acc ++ pickAll l (ps.drop i), true) := by
  intro d
  have htl : (toI ps).length = ps.length := by simp [toI]
  induction d with
  | zero =>
    intro i acc hd ha
    refine Ev.fin (fun k => ?_)
    rw [spec_Weave.l0, if_neg (by omega), List.drop_of_length_le (by omega)]
    simp [pickAll]
  | succ d ih =>
    intro i acc hd ha
    have hpi := hb _ (List.getElem_mem (l := ps) (n := i) (by omega))
    refine Ev.cast (Ev.step (fun k => ?_) (ih (i + 1) (acc ++ [rd l ((ps[i]'(by omega) : Nat) : Int)]) (by omega) (by simp; omega))) ?_
    · rw [spec_Weave.l0, if_pos (by omega), if_pos (by omega), rd_toI2 ps i (by omega), if_pos (by omega), if_pos (by omega), if_pos (by omega), wsucc (by omega)]
    · rw [List.drop_eq_getElem_cons (by omega : i < ps.length), List.append_assoc]; rfl
theorem sWeave_ev (l : List Int) (r : Int) : Ev (fun k => spec_Weave.f k l r) (weaveM l r) := by
  unfold spec_Weave.f weaveM
  refine Ev.bind0 rfl ?_
  by_cases h1 : (l.length : Int) > 1024
  · rw [if_neg (by omega)]
    exact Ev.pos h1 (Ev.fin (fun k => by rw [spec_Weave.j0]; rfl))
  refine Ev.neg h1 (Ev.bind0 (l1In_eq _ _ _) ?_)
  by_cases h : 1 ≤ r ∧ r ≤ 64
  · rw [if_pos ⟨by omega, h⟩, decide_eq_true h]
    obtain ⟨rows, rfl⟩ : ∃ n : Nat, r = n := ⟨r.toNat, by omega⟩
    refine Ev.step (fun k => by rw [spec_Weave.j0, if_neg (by decide)]) (Ev.bind (sorder_ev l.length rows (by omega) (by omega) (by omega)) ?_)
    exact sWeave_l0 l (order l.length rows) (by omega) (order_len (by omega)) (fun p hp => (order_mem (by omega) p).mp hp) (order l.length rows).length 0 [] (by omega) rfl
  · rw [if_neg (fun hh => h hh.2), decide_eq_false h]
    exact Ev.fin (fun k => by rw [spec_Weave.j0]; rfl)
theorem Weave_both (l : List Int) (r : Int) (hl : l.length ≤ 1048576) : ∃ q ok, Ev (fun k => spec_Weave.f k l r) (q, ok) ∧ Ev (fun k => impl_Weave.f k l r) (q, ok) ∧ q.length ≤ 17592186044416 :=
  ⟨_, _, sWeave_ev l r, iWeave_ev l r, Nat.le_trans (weaveM_len l r) (by decide)⟩

theorem toIntS_l0 (l : List Int) (hl : l.length ≤ 17592186044416) : ∀ (d i : Nat) (x : List Int), i + d = l.length → x.length = l.length → x.take i = l.take i →
    Ev (fun k => laws_toIntS.l0 k l x (i : Int)) l := by
  intro d
  induction d with
  | zero =>
    intro i x hd hx ht
    refine Ev.fin (fun k => ?_)
    rw [laws_toIntS.l0, if_neg (by omega)]
    rw [List.take_of_length_le (by omega), List.take_of_length_le (by omega)] at ht
    rw [ht]
  | succ d ih =>
    intro i x hd hx ht
    refine Ev.step (fun k => ?_) (ih (i + 1) (x.set i (rd l (i : Int))) (by omega) (by simpa using hx) ?_)
    · rw [laws_toIntS.l0, if_pos (by omega), if_pos (by omega), if_pos (by omega), wsucc (by omega), Int.toNat_natCast]
    · rw [take_rd (by simp; omega), take_rd (by omega), List.take_set_of_le (by omega), ht, rd_lt (by simp; omega), List.getElem_set_self]
theorem toIntS_ev (l : List Int) (hl : l.length ≤ 17592186044416) : Ev (fun k => laws_toIntS.f k l) l := by
  unfold laws_toIntS.f
  refine Ev.pos (by omega) (Ev.pos (by omega) ?_)
  exact toIntS_l0 l hl l.length 0 _ (by omega) (by simp) (by simp)

theorem eqIntS_l0 (l : List Int) (hl : l.length ≤ 17592186044416) : ∀ (d i : Nat), i + d = l.length → Ev (fun k => laws_eqIntS.l0 k l l (i : Int)) true := by
  intro d
  induction d with
  | zero =>
    intro i hd
    refine Ev.fin (fun k => ?_)
    rw [laws_eqIntS.l0, if_neg (by omega)]
  | succ d ih =>
    intro i hd
    refine Ev.step (fun k => ?_) (ih (i + 1) (by omega))
    rw [laws_eqIntS.l0, if_pos (by omega), if_pos (by omega), if_pos (by omega), if_pos rfl, wsucc (by omega)]
theorem eqIntS_ev (l : List Int) (hl : l.length ≤ 17592186044416) : Ev (fun k => laws_eqIntS.f k l l) true := by
  unfold laws_eqIntS.f
  exact Ev.pos rfl (eqIntS_l0 l hl l.length 0 (by omega))

theorem markIntS_l0 (n : Nat) (s : Int) (hs : 0 ≤ s ∧ s ≤ 100000000000000) (hn : n ≤ 17592186044416) : ∀ (d i : Nat) (x : List Int), i + d = n → x.length = n → x.take i = mkL s i →
    Ev (fun k => laws_markIntS.l0 k x (s + (i : Int)) (i : Int)) (s + (n : Int), mkL s n) := by
  intro d
  induction d with
  | zero =>
    intro i x hd hx ht
    refine Ev.fin (fun k => ?_)
    rw [laws_markIntS.l0, if_neg (by omega)]
    obtain rfl : i = n := by omega
    rw [List.take_of_length_le (by omega)] at ht
    rw [ht]
  | succ d ih =>
    intro i x hd hx ht
    refine Ev.step (fun k => ?_) (ih (i + 1) (x.set i (s + (i : Int))) (by omega) (by simpa using hx) ?_)
    · have e : wrap64 (s + (i : Int) + 1) = s + ((i + 1 : Nat) : Int) := by rw [w64 (by omega) (by omega)]; omega
      rw [laws_markIntS.l0, if_pos (by omega), if_pos (by omega), wsucc (by omega), e, Int.toNat_natCast]
    · rw [take_rd (by simp; omega), List.take_set_of_le (by omega), ht, rd_lt (by simp; omega), List.getElem_set_self]
      rfl
theorem markIntS_ev (x : List Int) (s : Int) (hs : 0 ≤ s ∧ s ≤ 100000000000000) (hl : x.length ≤ 17592186044416) : Ev (fun k => laws_markIntS.f k x s) (s + (x.length : Int), mkL s x.length) := by
  unfold laws_markIntS.f
  exact Ev.cast (Ev.congr (fun k => by rw [Int.natCast_zero, Int.add_zero]) (markIntS_l0 x.length s hs hl x.length 0 x (by omega) rfl (by simp [mkL]))) rfl

theorem heldIntS_l0 (n : Nat) (s : Int) (hs : 0 ≤ s ∧ s ≤ 100000000000000) (hn : n ≤ 17592186044416) : ∀ (d i : Nat), i + d = n → Ev (fun k => laws_heldIntS.l0 k (mkL s n) (s + (i : Int)) (i : Int)) (s + (n : Int)) := by
  intro d
  induction d with
  | zero =>
    intro i hd
    refine Ev.fin (fun k => ?_)
    rw [laws_heldIntS.l0, mkL_length, if_neg (by omega)]
    congr 1; omega
  | succ d ih =>
    intro i hd
    refine Ev.step (fun k => ?_) (ih (i + 1) (by omega))
    have e : wrap64 (s + (i : Int) + 1) = s + ((i + 1 : Nat) : Int) := by rw [w64 (by omega) (by omega)]; omega
    rw [laws_heldIntS.l0, mkL_length, if_pos (by omega), if_pos (by omega), if_pos (rd_mkL s (by omega)), wsucc (by omega), e]
theorem heldIntS_ev (n : Nat) (s : Int) (hs : 0 ≤ s ∧ s ≤ 100000000000000) (hl : n ≤ 17592186044416) : Ev (fun k => laws_heldIntS.f k (mkL s n) s) (s + (n : Int)) := by
  unfold laws_heldIntS.f
  exact Ev.congr (fun k => by rw [Int.natCast_zero, Int.add_zero]) (heldIntS_l0 n s hs hl n 0 (by omega))

theorem FnExactWeave : laws_FnExactWeave.Pure := by
  intro l q _ bl wl wq
  refine Ev.rounds ?_
  unfold laws_FnExactWeave.f
  by_cases gl : (l.length : Int) > 1048576
  · exact Ev.pos gl (Ev.now true)
  refine Ev.neg gl ?_
  have hl : l.length ≤ 1048576 := by omega
  have hl4 : l.length ≤ 17592186044416 := by omega
  obtain ⟨r, ok, hS, hI, hr⟩ := Weave_both l q hl
  have ml : 0 ≤ (1 : Int) ∧ (1 : Int) ≤ 100000000000000 := by omega
  have m1 : 0 ≤ (1 : Int) ∧ (1 : Int) ≤ 100000000000000 := by omega
  repeat (first
    | exact Ev.now true
    | with_reducible refine Ev.bind (toIntS_ev l hl4) ?_
    | with_reducible refine Ev.bind hS ?_
    | with_reducible refine Ev.bind hI ?_
    | with_reducible refine Ev.bind (eqIntS_ev l hl4) ?_
    | with_reducible refine Ev.bind (eqIntS_ev r hr) ?_
    | with_reducible refine Ev.bind (markIntS_ev l (1) ml hl4) ?_
    | with_reducible refine Ev.bind (markIntS_ev r 1 m1 hr) ?_
    | with_reducible refine Ev.bind (heldIntS_ev r.length 1 m1 hr) ?_
    | refine Ev.pos rfl ?_
    | (refine Ev.neg ?_ ?_; (· first | (simp; done) | omega))
    | refine Ev.step (fun k => by rw [laws_FnExactWeave.j0]) ?_
    | refine Ev.step (fun k => by rw [laws_FnExactWeave.j1]) ?_
    | refine Ev.step (fun k => by rw [laws_FnExactWeave.j2]) ?_)

end Go.Proofs.Ytkdpnjobokijdaa.Pure
