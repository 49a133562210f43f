/- Crossings tells what the reference tells, leaves its arguments alone and answers new memory, for all arguments; no condition. -/
import Derived.Test.YtonmdhaollhekaaPFnExactCrossingsx3
import Derived.Test.YtonmdhaollhekaaCom
import Derived.Test.YtonmdhaollhekaaMark
set_option linter.unusedVariables false
set_option linter.unusedSimpArgs false
namespace Go.Proofs.Ytonmdhaollhekaa.Pure
open Go.RowKit Go.Proofs.Ytonmdhaollhekaa.PFnExactCrossings Go.Proofs.YtonmdhaollhekaaW.PrintWords Go.Proofs.YtonmdhaollhekaaW.PrintLast Go.Proofs.Ytonmdhaollhekaa.Com Go.Proofs.Ytonmdhaollhekaa.Mark

theorem l1In_eq (a b c : Int) : spec_l1In.f a b c = some (decide (b ≤ a ∧ a ≤ c)) := by
  unfold spec_l1In.f
  by_cases h : b ≤ a
  · rw [if_pos h]; simp [h]
  · rw [if_neg h]; simp [h]

/-- All numbers are of at most a size. -/
def wideB (s : Int) (l : List Int) : Bool := l.all fun x => decide (-s ≤ x ∧ x ≤ s)
def signalB (l : List Int) : Bool := decide (l.length ≤ 512) && wideB 1000000000 l
theorem wideB_all {s : Int} {l : List Int} (h : wideB s l = true) : ∀ x ∈ l, -s ≤ x ∧ x ≤ s := by
  intro x hx
  have := List.all_eq_true.mp h x hx
  simpa using this
theorem signalB_len {l : List Int} (h : signalB l = true) : l.length ≤ 512 := by
  unfold signalB at h
  rw [Bool.and_eq_true] at h
  exact of_decide_eq_true h.1
theorem signalB_wide {l : List Int} (h : signalB l = true) : ∀ x ∈ l, -1000000000 ≤ x ∧ x ≤ 1000000000 := by
  unfold signalB at h
  rw [Bool.and_eq_true] at h
  exact wideB_all h.2

theorem within_l0 (l : List Int) (s : Int) (hs : 0 ≤ s ∧ s ≤ 4000000000000000000) (hl : l.length ≤ 1048576) : ∀ (d i : Nat), i + d = l.length → Ev (fun k => impl_within.l0 k s l (l.length : Int) (i : Int)) (wideB s (l.drop i)) := by
  intro d
  induction d with
  | zero =>
    intro i hd
    refine Ev.fin (fun k => ?_)
    rw [impl_within.l0, if_neg (by omega), List.drop_of_length_le (by omega)]
    rfl
  | succ d ih =>
    intro i hd
    have ew : wrap64 (-s) = -s := w64 (by omega) (by omega)
    rw [drop_rd (i := i) (by omega)]
    have ec : wideB s (rd l (i : Int) :: l.drop (i + 1)) = (decide (-s ≤ rd l (i : Int) ∧ rd l (i : Int) ≤ s) && wideB s (l.drop (i + 1))) := rfl
    rw [ec]
    by_cases h : -s ≤ rd l (i : Int) ∧ rd l (i : Int) ≤ s
    · rw [decide_eq_true h, Bool.true_and]
      refine Ev.step (fun k => ?_) (ih (i + 1) (by omega))
      rw [impl_within.l0, if_pos (by omega), if_pos (by omega), if_pos (by omega), ew, if_neg (by omega), if_neg (by omega), wsucc (by omega)]
    · rw [decide_eq_false h, Bool.false_and]
      refine Ev.fin (fun k => ?_)
      rw [impl_within.l0, if_pos (by omega), if_pos (by omega), if_pos (by omega), ew]
      by_cases h1 : rd l (i : Int) < -s
      · rw [if_pos h1]
      · rw [if_neg h1, if_pos (by omega)]
theorem within_ev (l : List Int) (s : Int) (hs : 0 ≤ s ∧ s ≤ 4000000000000000000) (hl : l.length ≤ 1048576) : Ev (fun k => impl_within.f k l s) (wideB s l) := within_l0 l s hs hl l.length 0 (by omega)
theorem iSignalOk_ev (l : List Int) (hl : l.length ≤ 1048576) : Ev (fun k => impl_SignalOk.f k l) (signalB l) := by
  unfold impl_SignalOk.f signalB
  by_cases h : (l.length : Int) ≤ 512
  · rw [decide_eq_true (by omega), Bool.true_and]
    exact Ev.pos h (Ev.bind (within_ev l _ (by omega) hl) (Ev.now _))
  · rw [decide_eq_false (by omega), Bool.false_and]
    exact Ev.neg h (Ev.now _)

theorem sSignal_l0 (l : List Int) (hl : l.length ≤ 1048576) : ∀ (d i : Nat), i + d = l.length → Ev (fun k => spec_SignalOk.l0 k l (i : Int)) (decide (l.length ≤ 512) && wideB 1000000000 (l.drop i)) := by
  intro d
  induction d with
  | zero =>
    intro i hd
    refine Ev.fin (fun k => ?_)
    rw [spec_SignalOk.l0, if_neg (by omega), List.drop_of_length_le (by omega)]
    have : wideB 1000000000 [] = true := rfl
    rw [this, Bool.and_true]
    congr 1; rw [Bool.eq_iff_iff]; simp; omega
  | succ d ih =>
    intro i hd
    rw [drop_rd (i := i) (by omega)]
    have ec : wideB 1000000000 (rd l (i : Int) :: l.drop (i + 1)) = (decide (-1000000000 ≤ rd l (i : Int) ∧ rd l (i : Int) ≤ 1000000000) && wideB 1000000000 (l.drop (i + 1))) := rfl
    rw [ec]
    have e5 : spec_l5Sample.f (rd l (i : Int)) = some (decide (-1000000000 ≤ rd l (i : Int) ∧ rd l (i : Int) ≤ 1000000000)) := by
      unfold spec_l5Sample.f; rw [l1In_eq, Option.bind_some]
    by_cases h : -1000000000 ≤ rd l (i : Int) ∧ rd l (i : Int) ≤ 1000000000
    · rw [decide_eq_true h] at e5 ⊢
      rw [Bool.true_and]
      refine Ev.step (fun k => ?_) (ih (i + 1) (by omega))
      rw [spec_SignalOk.l0, if_pos (by omega), if_pos (by omega), e5, Option.bind_some, if_pos rfl, wsucc (by omega)]
    · rw [decide_eq_false h] at e5 ⊢
      rw [Bool.false_and, Bool.and_false]
      refine Ev.fin (fun k => ?_)
      rw [spec_SignalOk.l0, if_pos (by omega), if_pos (by omega), e5, Option.bind_some, if_neg (by decide)]
theorem sSignalOk_ev (l : List Int) (hl : l.length ≤ 1048576) : Ev (fun k => spec_SignalOk.f k l) (signalB l) := sSignal_l0 l hl l.length 0 (by omega)

/-- The places of crossings: band, side so far, place, rest. -/
def crossL (band : Int) : Int → Nat → List Int → List Int
  | _, _, [] => []
  | side, i, x :: l =>
    if x > band then (if side ≠ 0 ∧ side ≠ 1 then [(i : Int)] else []) ++ crossL band 1 (i + 1) l
    else if x < -band then (if side ≠ 0 ∧ side ≠ -1 then [(i : Int)] else []) ++ crossL band (-1) (i + 1) l
    else crossL band side (i + 1) l
theorem crossL_len (band : Int) : ∀ (l : List Int) (side : Int) (i : Nat), (crossL band side i l).length ≤ l.length
  | [], _, _ => Nat.le_refl _
  | x :: l, side, i => by
    unfold crossL
    have h1 := crossL_len band l 1 (i + 1)
    have h2 := crossL_len band l (-1) (i + 1)
    have h3 := crossL_len band l side (i + 1)
    rw [List.length_cons]
    split
    · rw [List.length_append]; split <;> simp <;> omega
    · split
      · rw [List.length_append]; split <;> simp <;> omega
      · omega
theorem Crossings_loops (l : List Int) (band : Int) (hl : l.length ≤ 512) (hs : ∀ x ∈ l, -1000000000 ≤ x ∧ x ≤ 1000000000) (hb : 0 ≤ band ∧ band ≤ 9223372036854775807) : ∀ (d i : Nat) (side : Int) (acc : List Int), i + d = l.length → acc.length ≤ i →
    Ev (fun k => spec_Crossings.l0 k l band acc side (i : Int)) (acc ++ crossL band side i (l.drop i)) ∧ Ev (fun k => impl_Crossings.l0 k band acc side l (l.length : Int) (i : Int)) (acc ++ crossL band side i (l.drop i)) := by
  intro d
  induction d with
  | zero =>
    intro i side acc hd ha
    rw [List.drop_of_length_le (by omega), crossL, List.append_nil]
    exact ⟨Ev.fin (fun k => by rw [spec_Crossings.l0, if_neg (by omega)]), Ev.fin (fun k => by rw [impl_Crossings.l0, if_neg (by omega)])⟩
  | succ d ih =>
    intro i side acc hd ha
    have hx := hs _ (rd_mem (xs := l) (i := i) (by omega))
    rw [drop_rd (i := i) (by omega), crossL]
    have en : wrap64 (-(rd l (i : Int))) = -(rd l (i : Int)) := w64 (by omega) (by omega)
    have eb : wrap64 (-band) = -band := w64 (by omega) (by omega)
    by_cases h1 : rd l (i : Int) > band
    · rw [if_pos h1]
      by_cases h2 : side ≠ 0 ∧ side ≠ 1
      · rw [if_pos h2, ← List.append_assoc]
        obtain ⟨i1, i2⟩ := ih (i + 1) 1 (acc ++ [(i : Int)]) (by omega) (by simp; omega)
        constructor
        · refine Ev.step (f := fun k => spec_Crossings.j2 k l band acc side (i : Int) 1) (fun k => by rw [spec_Crossings.l0, if_pos (by omega), if_pos (by omega), if_pos h1]) (Ev.step (fun k => ?_) i1)
          rw [spec_Crossings.j2, if_pos (by omega), if_pos (by omega), en, if_neg (by omega), if_neg (fun e => h2.2 e.symm), if_neg h2.1, if_pos (by omega), wsucc (by omega)]
        · refine Ev.step (f := fun k => impl_Crossings.j2 k band acc side (i : Int) 1 l (l.length : Int) (i : Int)) (fun k => by rw [impl_Crossings.l0, if_pos (by omega), if_pos (by omega), if_pos (by omega), if_pos h1]) (Ev.step (fun k => ?_) i2)
          rw [impl_Crossings.j2, if_neg (by decide), if_neg h2.1, if_neg (fun e => h2.2 e.symm), if_pos (by omega), wsucc (by omega)]
      · rw [if_neg h2, List.nil_append]
        obtain ⟨i1, i2⟩ := ih (i + 1) 1 acc (by omega) (by omega)
        constructor
        · refine Ev.step (f := fun k => spec_Crossings.j2 k l band acc side (i : Int) 1) (fun k => by rw [spec_Crossings.l0, if_pos (by omega), if_pos (by omega), if_pos h1]) (Ev.step (fun k => ?_) i1)
          rw [spec_Crossings.j2, if_pos (by omega), if_pos (by omega), en, if_neg (by omega), wsucc (by omega)]
          by_cases h3 : (1 : Int) = side
          · rw [if_pos h3]
          · rw [if_neg h3, if_pos (by omega)]
        · refine Ev.step (f := fun k => impl_Crossings.j2 k band acc side (i : Int) 1 l (l.length : Int) (i : Int)) (fun k => by rw [impl_Crossings.l0, if_pos (by omega), if_pos (by omega), if_pos (by omega), if_pos h1]) (Ev.step (fun k => ?_) i2)
          rw [impl_Crossings.j2, if_neg (by decide), wsucc (by omega)]
          by_cases h3 : side = 0
          · rw [if_pos h3]
          · rw [if_neg h3, if_pos (by omega)]
    · rw [if_neg h1]
      by_cases h4 : rd l (i : Int) < -band
      · rw [if_pos h4]
        by_cases h2 : side ≠ 0 ∧ side ≠ -1
        · rw [if_pos h2, ← List.append_assoc]
          obtain ⟨i1, i2⟩ := ih (i + 1) (-1) (acc ++ [(i : Int)]) (by omega) (by simp; omega)
          constructor
          · refine Ev.step (f := fun k => spec_Crossings.j2 k l band acc side (i : Int) side) (fun k => by rw [spec_Crossings.l0, if_pos (by omega), if_pos (by omega), if_neg h1]) (Ev.step (fun k => ?_) i1)
            rw [spec_Crossings.j2, if_pos (by omega), if_pos (by omega), en, if_pos (by omega), if_neg (fun e => h2.2 e.symm), if_neg h2.1, if_pos (by omega), wsucc (by omega)]
          · refine Ev.step (f := fun k => impl_Crossings.j2 k band acc side (i : Int) (-1) l (l.length : Int) (i : Int)) (fun k => by rw [impl_Crossings.l0, if_pos (by omega), if_pos (by omega), if_pos (by omega), if_neg h1, eb, if_pos h4]) (Ev.step (fun k => ?_) i2)
            rw [impl_Crossings.j2, if_neg (by decide), if_neg h2.1, if_neg (fun e => h2.2 e.symm), if_pos (by omega), wsucc (by omega)]
        · rw [if_neg h2, List.nil_append]
          obtain ⟨i1, i2⟩ := ih (i + 1) (-1) acc (by omega) (by omega)
          constructor
          · refine Ev.step (f := fun k => spec_Crossings.j2 k l band acc side (i : Int) side) (fun k => by rw [spec_Crossings.l0, if_pos (by omega), if_pos (by omega), if_neg h1]) (Ev.step (fun k => ?_) i1)
            rw [spec_Crossings.j2, if_pos (by omega), if_pos (by omega), en, if_pos (by omega), wsucc (by omega)]
            by_cases h3 : (-1 : Int) = side
            · rw [if_pos h3]
            · rw [if_neg h3, if_pos (by omega)]
          · refine Ev.step (f := fun k => impl_Crossings.j2 k band acc side (i : Int) (-1) l (l.length : Int) (i : Int)) (fun k => by rw [impl_Crossings.l0, if_pos (by omega), if_pos (by omega), if_pos (by omega), if_neg h1, eb, if_pos h4]) (Ev.step (fun k => ?_) i2)
            rw [impl_Crossings.j2, if_neg (by decide), wsucc (by omega)]
            by_cases h3 : side = 0
            · rw [if_pos h3]
            · rw [if_neg h3, if_pos (by omega)]
      · rw [if_neg h4]
        obtain ⟨i1, i2⟩ := ih (i + 1) side acc (by omega) (by omega)
        constructor
        · refine Ev.step (f := fun k => spec_Crossings.j2 k l band acc side (i : Int) side) (fun k => by rw [spec_Crossings.l0, if_pos (by omega), if_pos (by omega), if_neg h1]) (Ev.step (fun k => ?_) i1)
          rw [spec_Crossings.j2, if_pos (by omega), if_pos (by omega), en, if_neg (by omega), if_pos rfl, wsucc (by omega)]
        · refine Ev.step (f := fun k => impl_Crossings.j2 k band acc side (i : Int) 0 l (l.length : Int) (i : Int)) (fun k => by rw [impl_Crossings.l0, if_pos (by omega), if_pos (by omega), if_pos (by omega), if_neg h1, eb, if_neg h4]) (Ev.step (fun k => ?_) i2)
          rw [impl_Crossings.j2, if_pos rfl, wsucc (by omega)]
def crossM (l : List Int) (band : Int) : List Int := if signalB l = true ∧ 0 ≤ band then crossL band 0 0 l else []
theorem sCrossings_ev (l : List Int) (b : Int) (hl : l.length ≤ 1048576) (hb : b ≤ 9223372036854775807) : Ev (fun k => spec_Crossings.f k l b) (crossM l b) := by
  unfold spec_Crossings.f crossM
  refine Ev.bind0 rfl (Ev.bind (sSignalOk_ev l hl) ?_)
  by_cases h1 : signalB l = true
  · refine Ev.pos h1 ?_
    by_cases h2 : b < 0
    · rw [if_neg (by omega), decide_eq_true h2]
      exact Ev.fin (fun k => by rw [spec_Crossings.j0]; rfl)
    · rw [if_pos ⟨h1, by omega⟩, decide_eq_false h2]
      refine Ev.step (fun k => ?_) (Crossings_loops l b (signalB_len h1) (signalB_wide h1) ⟨by omega, hb⟩ l.length 0 0 [] (by omega) (by simp)).1
      rw [spec_Crossings.j0]; rfl
  · rw [if_neg (fun h => h1 h.1)]
    exact Ev.neg h1 (Ev.fin (fun k => by rw [spec_Crossings.j0]; rfl))
theorem iCrossings_ev (l : List Int) (b : Int) (hl : l.length ≤ 1048576) (hb : b ≤ 9223372036854775807) : Ev (fun k => impl_Crossings.f k l b) (crossM l b) := by
  unfold impl_Crossings.f crossM
  refine Ev.bind (iSignalOk_ev l hl) ?_
  by_cases h1 : signalB l = true
  · refine Ev.pos h1 ?_
    by_cases h2 : b < 0
    · rw [if_neg (by omega), decide_eq_true h2]
      exact Ev.fin (fun k => by rw [impl_Crossings.j0]; rfl)
    · rw [if_pos ⟨h1, by omega⟩, decide_eq_false h2]
      refine Ev.step (fun k => ?_) (Crossings_loops l b (signalB_len h1) (signalB_wide h1) ⟨by omega, hb⟩ l.length 0 0 [] (by omega) (by simp)).2
      rw [impl_Crossings.j0]; rfl
  · rw [if_neg (fun h => h1 h.1)]
    exact Ev.neg h1 (Ev.fin (fun k => by rw [impl_Crossings.j0]; rfl))

theorem Crossings_both (l : List Int) (b : Int) (hl : l.length ≤ 1048576) (hb : (Lit.int .i64 b).wf = true) : ∃ r, Ev (fun k => spec_Crossings.f k l b) r ∧ Ev (fun k => impl_Crossings.f k l b) r ∧ r.length ≤ 17592186044416 := by
  have h := wfi hb
  refine ⟨crossM l b, sCrossings_ev l b hl h.2, iCrossings_ev l b hl h.2, ?_⟩
  unfold crossM
  split
  · have := crossL_len b l 0 0; omega
  · simp

theorem toIntS_l0 (l : List Int) (hl : l.length ≤ 17592186044416) : ∀ (d i : Nat) (x : List Int), i + d = l.length → x.length = l.length → x.take i = l.take i →
    Ev (fun k => laws_toIntS.l0 k l x (i : Int)) l := by
  intro d
  induction d with
  | zero =>
    intro i x hd hx ht
    refine Ev.fin (fun k => ?_)
    rw [laws_toIntS.l0, if_neg (by omega)]
    rw [List.take_of_length_le (by omega), List.take_of_length_le (by omega)] at ht
    rw [ht]
  | succ d ih =>
    intro i x hd hx ht
    refine Ev.step (fun k => ?_) (ih (i + 1) (x.set i (rd l (i : Int))) (by omega) (by simpa using hx) ?_)
    · rw [laws_toIntS.l0, if_pos (by omega), if_pos (by omega), if_pos (by omega), wsucc (by omega), Int.toNat_natCast]
    · rw [take_rd (by simp; omega), take_rd (by omega), List.take_set_of_le (by omega), ht, rd_lt (by simp; omega), List.getElem_set_self]
theorem toIntS_ev (l : List Int) (hl : l.length ≤ 17592186044416) : Ev (fun k => laws_toIntS.f k l) l := by
  unfold laws_toIntS.f
  refine Ev.pos (by omega) (Ev.pos (by omega) ?_)
  exact toIntS_l0 l hl l.length 0 _ (by omega) (by simp) (by simp)

theorem eqIntS_l0 (l : List Int) (hl : l.length ≤ 17592186044416) : ∀ (d i : Nat), i + d = l.length → Ev (fun k => laws_eqIntS.l0 k l l (i : Int)) true := by
  intro d
  induction d with
  | zero =>
    intro i hd
    refine Ev.fin (fun k => ?_)
    rw [laws_eqIntS.l0, if_neg (by omega)]
  | succ d ih =>
    intro i hd
    refine Ev.step (fun k => ?_) (ih (i + 1) (by omega))
    rw [laws_eqIntS.l0, if_pos (by omega), if_pos (by omega), if_pos (by omega), if_pos rfl, wsucc (by omega)]
theorem eqIntS_ev (l : List Int) (hl : l.length ≤ 17592186044416) : Ev (fun k => laws_eqIntS.f k l l) true := by
  unfold laws_eqIntS.f
  exact Ev.pos rfl (eqIntS_l0 l hl l.length 0 (by omega))

theorem markIntS_l0 (n : Nat) (s : Int) (hs : 0 ≤ s ∧ s ≤ 100000000000000) (hn : n ≤ 17592186044416) : ∀ (d i : Nat) (x : List Int), i + d = n → x.length = n → x.take i = mkL s i →
    Ev (fun k => laws_markIntS.l0 k x (s + (i : Int)) (i : Int)) (s + (n : Int), mkL s n) := by
  intro d
  induction d with
  | zero =>
    intro i x hd hx ht
    refine Ev.fin (fun k => ?_)
    rw [laws_markIntS.l0, if_neg (by omega)]
    obtain rfl : i = n := by omega
    rw [List.take_of_length_le (by omega)] at ht
    rw [ht]
  | succ d ih =>
    intro i x hd hx ht
    refine Ev.step (fun k => ?_) (ih (i + 1) (x.set i (s + (i : Int))) (by omega) (by simpa using hx) ?_)
    · have e : wrap64 (s + (i : Int) + 1) = s + ((i + 1 : Nat) : Int) := by rw [w64 (by omega) (by omega)]; omega
      rw [laws_markIntS.l0, if_pos (by omega), if_pos (by omega), wsucc (by omega), e, Int.toNat_natCast]
    · rw [take_rd (by simp; omega), List.take_set_of_le (by omega), ht, rd_lt (by simp; omega), List.getElem_set_self]
      rfl
theorem markIntS_ev (x : List Int) (s : Int) (hs : 0 ≤ s ∧ s ≤ 100000000000000) (hl : x.length ≤ 17592186044416) : Ev (fun k => laws_markIntS.f k x s) (s + (x.length : Int), mkL s x.length) := by
  unfold laws_markIntS.f
  exact Ev.cast (Ev.congr (fun k => by rw [Int.natCast_zero, Int.add_zero]) (markIntS_l0 x.length s hs hl x.length 0 x (by omega) rfl (by simp [mkL]))) rfl

theorem heldIntS_l0 (n : Nat) (s : Int) (hs : 0 ≤ s ∧ s ≤ 100000000000000) (hn : n ≤ 17592186044416) : ∀ (d i : Nat), i + d = n → Ev (fun k => laws_heldIntS.l0 k (mkL s n) (s + (i : Int)) (i : Int)) (s + (n : Int)) := by
  intro d
  induction d with
  | zero =>
    intro i hd
    refine Ev.fin (fun k => ?_)
    rw [laws_heldIntS.l0, mkL_length, if_neg (by omega)]
    congr 1; omega
  | succ d ih =>
    intro i hd
    refine Ev.step (fun k => ?_) (ih (i + 1) (by omega))
    have e : wrap64 (s + (i : Int) + 1) = s + ((i + 1 : Nat) : Int) := by rw [w64 (by omega) (by omega)]; omega
    rw [laws_heldIntS.l0, mkL_length, if_pos (by omega), if_pos (by omega), if_pos (rd_mkL s (by omega)), wsucc (by omega), e]
theorem heldIntS_ev (n : Nat) (s : Int) (hs : 0 ≤ s ∧ s ≤ 100000000000000) (hl : n ≤ 17592186044416) : Ev (fun k => laws_heldIntS.f k (mkL s n) s) (s + (n : Int)) := by
  unfold laws_heldIntS.f
  exact Ev.congr (fun k => by rw [Int.natCast_zero, Int.add_zero]) (heldIntS_l0 n s hs hl n 0 (by omega))

theorem FnExactCrossings : laws_FnExactCrossings.Pure := by
  intro l b _ bl wl wb
  refine Ev.rounds ?_
  unfold laws_FnExactCrossings.f
  by_cases gl : (l.length : Int) > 1048576
  · exact Ev.pos gl (Ev.now true)
  refine Ev.neg gl ?_
  have hl : l.length ≤ 1048576 := by omega
  have hl4 : l.length ≤ 17592186044416 := by omega
  obtain ⟨r, hS, hI, hr⟩ := Crossings_both l b hl wb
  have ml : 0 ≤ (1 : Int) ∧ (1 : Int) ≤ 100000000000000 := by omega
  have m1 : 0 ≤ (1 : Int) ∧ (1 : Int) ≤ 100000000000000 := by omega
  repeat (first
    | exact Ev.now true
    | with_reducible refine Ev.bind (toIntS_ev l hl4) ?_
    | with_reducible refine Ev.bind hS ?_
    | with_reducible refine Ev.bind hI ?_
    | with_reducible refine Ev.bind (eqIntS_ev l hl4) ?_
    | with_reducible refine Ev.bind (eqIntS_ev r hr) ?_
    | with_reducible refine Ev.bind (markIntS_ev l (1) ml hl4) ?_
    | with_reducible refine Ev.bind (markIntS_ev r 1 m1 hr) ?_
    | with_reducible refine Ev.bind (heldIntS_ev r.length 1 m1 hr) ?_
    | refine Ev.pos rfl ?_
    | (refine Ev.neg ?_ ?_; (· first | (simp; done) | omega))
    | refine Ev.step (fun k => by rw [laws_FnExactCrossings.j0]) ?_
    | refine Ev.step (fun k => by rw [laws_FnExactCrossings.j1]) ?_
    | refine Ev.step (fun k => by rw [laws_FnExactCrossings.j2]) ?_)

end Go.Proofs.Ytonmdhaollhekaa.Pure
