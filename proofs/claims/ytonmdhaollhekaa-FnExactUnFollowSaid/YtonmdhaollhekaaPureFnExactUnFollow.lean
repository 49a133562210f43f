/- UnFollow tells what the reference tells, leaves its arguments alone and answers new memory, for all arguments; no condition. -/
import Derived.Test.YtonmdhaollhekaaQFnExactUnFollowx3
import Derived.Test.YtonmdhaollhekaaCom
import Derived.Test.YtonmdhaollhekaaHm
import Derived.Test.YtonmdhaollhekaaPop
import Derived.Test.YtonmdhaollhekaaMark
set_option linter.unusedVariables false
set_option linter.unusedSimpArgs false
namespace Go.Proofs.Ytonmdhaollhekaa.Pure
open Go.RowKit Go.Proofs.Ytonmdhaollhekaa.PFnExactUnFollow Go.Proofs.YtonmdhaollhekaaW.PrintWords Go.Proofs.YtonmdhaollhekaaW.PrintLast Go.Proofs.Ytonmdhaollhekaa.Com Go.Proofs.Ytonmdhaollhekaa.Hm Go.Proofs.Ytonmdhaollhekaa.Pop Go.Proofs.Ytonmdhaollhekaa.Mark

theorem l1In_eq (a b c : Int) : spec_l1In.f a b c = some (decide (b ≤ a ∧ a ≤ c)) := by
  unfold spec_l1In.f
  by_cases h : b ≤ a
  · rw [if_pos h]; simp [h]
  · rw [if_neg h]; simp [h]

theorem sBitsOk_l0 (l : List Int) (hl : l.length ≤ 17592186044416) : ∀ (d i : Nat), i + d = l.length → Ev (fun k => spec_BitsOk.l0 k l (i : Int)) ((l.drop i).all isB && decide (l.length ≤ 1024)) := by
  intro d
  induction d with
  | zero =>
    intro i hd
    refine Ev.fin (fun k => ?_)
    rw [spec_BitsOk.l0, if_neg (by omega), List.drop_of_length_le (by omega)]
    simp
    omega
  | succ d ih =>
    intro i hd
    rw [drop_rd (by omega)]
    have e : spec_l1In.f (rd l (i : Int)) 0 1 = some (isB (rd l (i : Int))) := by
      rw [l1In_eq]; congr 1; unfold isB; rw [Bool.eq_iff_iff]; simp; omega
    by_cases hb : isB (rd l (i : Int)) = true
    · refine Ev.cast (Ev.step (fun k => ?_) (ih (i + 1) (by omega))) (by simp [hb])
      rw [spec_BitsOk.l0, if_pos (by omega), if_pos (by omega), e, Option.bind_some, if_pos hb, wsucc (by omega)]
    · refine Ev.fin (fun k => ?_)
      rw [spec_BitsOk.l0, if_pos (by omega), if_pos (by omega), e, Option.bind_some, if_neg hb]
      simp [hb]
theorem sBitsOk_ev (l : List Int) (hl : l.length ≤ 17592186044416) : Ev (fun k => spec_BitsOk.f k l) (bitsOk l) := by
  unfold spec_BitsOk.f
  exact sBitsOk_l0 l hl l.length 0 (by omega)

theorem isBit_eq (x : Int) : impl_isBit.f x = some (isB x) := by
  unfold impl_isBit.f isB
  by_cases h : x = 0
  · rw [if_pos h]; simp [h]
  · rw [if_neg h]; simp [h]

theorem iBitsOk_l0 (l : List Int) (hl : l.length ≤ 17592186044416) : ∀ (d i : Nat), i + d = l.length → Ev (fun k => impl_BitsOk.l0 k l l (l.length : Int) (i : Int)) ((l.drop i).all isB && decide (l.length ≤ 1024)) := by
  intro d
  induction d with
  | zero =>
    intro i hd
    refine Ev.fin (fun k => ?_)
    rw [impl_BitsOk.l0, if_neg (by omega), List.drop_of_length_le (by omega)]
    simp
    omega
  | succ d ih =>
    intro i hd
    rw [drop_rd (by omega)]
    by_cases hb : isB (rd l (i : Int)) = true
    · refine Ev.cast (Ev.step (fun k => ?_) (ih (i + 1) (by omega))) (by simp [hb])
      rw [impl_BitsOk.l0, if_pos (by omega), if_pos (by omega), if_pos (by omega), isBit_eq, Option.bind_some, if_pos hb, wsucc (by omega)]
    · refine Ev.fin (fun k => ?_)
      rw [impl_BitsOk.l0, if_pos (by omega), if_pos (by omega), if_pos (by omega), isBit_eq, Option.bind_some, if_neg hb]
      simp [hb]
theorem iBitsOk_ev (l : List Int) (hl : l.length ≤ 17592186044416) : Ev (fun k => impl_BitsOk.f k l) (bitsOk l) := by
  unfold impl_BitsOk.f
  exact iBitsOk_l0 l hl l.length 0 (by omega)

theorem and_5 (x : Nat) (h : x < 18446744073709551616) : Go.bits .and .u64 (x : Int) 6148914691236517205 = ((x &&& 6148914691236517205 : Nat) : Int) := u64_and_nat x 6148914691236517205 h (by decide)
theorem and_3 (x : Nat) (h : x < 18446744073709551616) : Go.bits .and .u64 (x : Int) 3689348814741910323 = ((x &&& 3689348814741910323 : Nat) : Int) := u64_and_nat x 3689348814741910323 h (by decide)
theorem and_f (x : Nat) (h : x < 18446744073709551616) : Go.bits .and .u64 (x : Int) 1085102592571150095 = ((x &&& 1085102592571150095 : Nat) : Int) := u64_and_nat x 1085102592571150095 h (by decide)
theorem and_127 (x : Nat) (h : x < 9223372036854775808) : Go.bits .and .i64 (x : Int) 127 = ((x &&& 127 : Nat) : Int) := and64 x 127 h (by decide)
theorem u64s (a b : Nat) (h : a + b < 18446744073709551616) : IntKind.u64.wrap ((a : Int) + (b : Int)) = ((a + b : Nat) : Int) := by rw [u64w (by omega) (by omega)]; omega
theorem idiv (a b : Nat) : (a : Int) / (b : Int) = ((a / b : Nat) : Int) := (Int.natCast_ediv a b).symm
theorem OC16 (n : Nat) (h : n < 65536) : bits_OnesCount.f (n : Int) = some ((ones 16 n : Nat) : Int) := by
  rw [← oc_eq h]
  unfold ocN bits_OnesCount.f bits_OnesCount64.f
  have d2 : (n : Int) / 2 = ((n / 2 : Nat) : Int) := idiv n 2
  have l1 : n / 2 &&& 6148914691236517205 ≤ n / 2 := Nat.and_le_left
  have l2 : n &&& 6148914691236517205 ≤ n := Nat.and_le_left
  have hA : IntKind.u64.wrap (Go.bits .and .u64 ((n : Int) / 2) 6148914691236517205 + Go.bits .and .u64 (n : Int) 6148914691236517205) = ((oA n : Nat) : Int) := by
    rw [d2, and_5 _ (by omega), and_5 _ (by omega), u64s _ _ (by omega)]; rfl
  have bA : oA n < 131072 := by unfold oA; omega
  rw [hA]
  clear hA
  generalize oA n = a at *
  have d4 : (a : Int) / 4 = ((a / 4 : Nat) : Int) := idiv a 4
  have l3 : a / 4 &&& 3689348814741910323 ≤ a / 4 := Nat.and_le_left
  have l4 : a &&& 3689348814741910323 ≤ a := Nat.and_le_left
  have hB : IntKind.u64.wrap (Go.bits .and .u64 ((a : Int) / 4) 3689348814741910323 + Go.bits .and .u64 (a : Int) 3689348814741910323) = ((oB a : Nat) : Int) := by
    rw [d4, and_3 _ (by omega), and_3 _ (by omega), u64s _ _ (by omega)]; rfl
  have bB : oB a < 262144 := by unfold oB; omega
  rw [hB]
  clear hB
  generalize oB a = b at *
  have d16 : (b : Int) / 16 = ((b / 16 : Nat) : Int) := idiv b 16
  have hC : Go.bits .and .u64 (IntKind.u64.wrap ((b : Int) / 16 + (b : Int))) 1085102592571150095 = ((oC b : Nat) : Int) := by
    rw [d16, u64s _ _ (by omega), and_f _ (by omega)]; rfl
  have bC : oC b < 524288 := by
    have : b / 16 + b &&& 1085102592571150095 ≤ b / 16 + b := Nat.and_le_left
    unfold oC; omega
  rw [hC]
  clear hC
  generalize oC b = c at *
  have hE : IntKind.u64.wrap ((c : Int) + (c : Int) / 256) = ((oE c : Nat) : Int) := by
    rw [show (c : Int) / 256 = ((c / 256 : Nat) : Int) from idiv c 256, u64s _ _ (by omega)]; rfl
  have bE : oE c < 1048576 := by unfold oE; omega
  rw [hE]
  clear hE
  generalize oE c = e at *
  have hF : IntKind.u64.wrap ((e : Int) + (e : Int) / 65536) = ((oF e : Nat) : Int) := by
    rw [show (e : Int) / 65536 = ((e / 65536 : Nat) : Int) from idiv e 65536, u64s _ _ (by omega)]; rfl
  have bF : oF e < 2097152 := by unfold oF; omega
  rw [hF]
  clear hF
  generalize oF e = f at *
  have hG : IntKind.u64.wrap ((f : Int) + (f : Int) / 4294967296) = ((oG f : Nat) : Int) := by
    rw [show (f : Int) / 4294967296 = ((f / 4294967296 : Nat) : Int) from idiv f 4294967296, u64s _ _ (by omega)]; rfl
  have bG : oG f < 4194304 := by unfold oG; omega
  rw [hG, Option.bind_some, w64 (by omega) (by omega), and_127 _ (by omega)]

theorem is16_eq (a b : Int) : impl_is16.f a b = some (decide (b ≤ a ∧ a ≤ 65535)) := by
  unfold impl_is16.f
  by_cases h : b ≤ a
  · rw [if_pos h]; simp [h]
  · rw [if_neg h]; simp [h]
theorem parity_eq (n : Nat) (h : n < 65536) : impl_parity.f (n : Int) = some ((ones 16 n % 2 : Nat) : Int) := by
  unfold impl_parity.f
  rw [u64w (by omega) (by omega), OC16 n h, Option.bind_some, and64_1]
  congr 1
/-- The register behind a bit that comes in. -/
def flR (r : Nat) (y : Nat) : Nat := 2 * r % 65536 + y
/-- What is told: own: the register gets what was told, else what came. -/
def flL (t : Nat) (own_ : Bool) : Nat → List Int → List Int
  | _, [] => []
  | r, x :: l => (((x.toNat + ones 16 (r &&& t)) % 2 : Nat) : Int) :: flL t own_ (flR r (if own_ = true then (x.toNat + ones 16 (r &&& t)) % 2 else x.toNat)) l
theorem flL_len (t : Nat) (o : Bool) : ∀ (l : List Int) (r : Nat), (flL t o r l).length = l.length
  | [], _ => rfl
  | x :: l, r => by simp [flL, flL_len t o l]
theorem bitx (a b : Nat) (ha : a < 2) (hb : b < 2) : a ^^^ b = (a + b) % 2 := by
  have h1 : a = 0 ∨ a = 1 := by omega
  have h2 : b = 0 ∨ b = 1 := by omega
  rcases h1 with rfl | rfl <;> rcases h2 with rfl | rfl <;> rfl
theorem or_even (a y : Nat) (hy : y < 2) : (2 * a) ||| y = 2 * a + y := by
  have h := Nat.two_pow_add_eq_or_of_lt (i := 1) (b := y) (by omega) a
  rw [Nat.pow_one] at h
  exact h.symm
theorem reg_lt {r y : Nat} (hy : y < 2) : flR r y < 65536 := by unfold flR; omega
theorem Follow_l1 (l : List Int) (t : Int) (o : Bool) (acc : List Int) (r : Int) (i : Int) (R : List Int × Bool) : ∀ (f m x : Nat), m < 2 ^ f → f ≤ 16 → x < 2 →
    Ev (fun k => spec_l13Follow.l1 k l t o acc r i (((x + ones f m) % 2 : Nat) : Int) 0) R → Ev (fun k => spec_l13Follow.l1 k l t o acc r i (x : Int) (m : Int)) R := by
  have zero : ∀ f, ones f 0 = 0 := by
    intro f
    induction f with
    | zero => rfl
    | succ f ih => unfold ones; rw [ih]
  intro f
  induction f with
  | zero =>
    intro m x hm _ hx h
    obtain rfl : m = 0 := by omega
    have e : (x + ones 0 0) % 2 = x := by unfold ones; omega
    rw [e] at h
    exact h
  | succ f ih =>
    intro m x hm hf hx h
    by_cases h0 : m = 0
    · subst h0
      have e : (x + ones (f + 1) 0) % 2 = x := by rw [zero]; omega
      rw [e] at h
      exact h
    · have hp : 2 ^ (f + 1) = 2 * 2 ^ f := by rw [Nat.pow_succ]; omega
      have h16 : 2 ^ (f + 1) ≤ 2 ^ 16 := Nat.pow_le_pow_right (by omega) hf
      refine Ev.step (fun k => ?_) (ih (m / 2) ((x + m % 2) % 2) (by omega) (by omega) (by omega) ?_)
      · rw [spec_l13Follow.l1, if_pos (by omega), show Int.tmod (m : Int) 2 = ((m % 2 : Nat) : Int) from rfl, show Int.tdiv (m : Int) 2 = ((m / 2 : Nat) : Int) from rfl, w64 (by omega) (by omega), xor64 _ _ (by omega) (by omega), bitx _ _ hx (by omega)]
      · have e : ((x + m % 2) % 2 + ones f (m / 2)) % 2 = (x + ones (f + 1) m) % 2 := by
          rw [show ones (f + 1) m = m % 2 + ones f (m / 2) from rfl]; omega
        rw [e]
        exact h
theorem Follow_loops (l : List Int) (t : Nat) (o : Bool) (hl : l.length ≤ 1024) (ht : t ≤ 65535) (hb : ∀ x ∈ l, x = 0 ∨ x = 1) : ∀ (d i r : Nat) (acc : List Int), i + d = l.length → acc.length = i → r < 65536 →
    Ev (fun k => spec_l13Follow.l0 k l (t : Int) o acc (r : Int) (i : Int)) (acc ++ flL t (!o) r (l.drop i), true) ∧
    Ev (fun k => impl_follow.l0 k (t : Int) (!o) acc (r : Int) l (l.length : Int) (i : Int)) (acc ++ flL t (!o) r (l.drop i), true) := by
  intro d
  induction d with
  | zero =>
    intro i r acc hd ha hr
    rw [List.drop_of_length_le (by omega), flL, List.append_nil]
    exact ⟨Ev.fin (fun k => by rw [spec_l13Follow.l0, if_neg (by omega)]), Ev.fin (fun k => by rw [impl_follow.l0, if_neg (by omega)])⟩
  | succ d ih =>
    intro i r acc hd ha hr
    have hx := hb _ (rd_mem (xs := l) (i := i) (by omega))
    obtain ⟨x, ex⟩ : ∃ x : Nat, rd l (i : Int) = (x : Int) := ⟨(rd l (i : Int)).toNat, by omega⟩
    have hx2 : x < 2 := by omega
    have hand : r &&& t < 65536 := Nat.lt_of_le_of_lt Nat.and_le_left hr
    obtain ⟨y, hy⟩ : ∃ y, y = (x + ones 16 (r &&& t)) % 2 := ⟨_, rfl⟩
    have hy2 : y < 2 := by omega
    have er : acc ++ flL t (!o) r (l.drop i) = acc ++ [(y : Int)] ++ flL t (!o) (flR r (if (!o) = true then y else x)) (l.drop (i + 1)) := by
      rw [drop_rd (i := i) (by omega), flL, List.append_assoc, ex, Int.toNat_natCast, ← hy]; rfl
    rw [er]
    have hin : (if (!o) = true then y else x) < 2 := by split <;> omega
    have h := ih (i + 1) (flR r (if (!o) = true then y else x)) (acc ++ [(y : Int)]) (by omega) (by simp; omega) (reg_lt hin)
    have eR : ∀ z : Nat, z < 2 → Int.tmod (wrap64 (wrap64 (2 * (r : Int)) + (z : Int))) 65536 = ((flR r z : Nat) : Int) := by
      intro z hz
      rw [w64 (n := 2 * (r : Int)) (by omega) (by omega), w64 (by omega) (by omega)]
      have e1 : 2 * (r : Int) + (z : Int) = ((2 * r + z : Nat) : Int) := by omega
      rw [e1, show Int.tmod ((2 * r + z : Nat) : Int) 65536 = (((2 * r + z) % 65536 : Nat) : Int) from rfl]
      unfold flR
      omega
    constructor
    · refine Ev.step (fun k => ?_) (Follow_l1 l (t : Int) o acc (r : Int) (i : Int) _ 16 (r &&& t) x (by omega) (by omega) hx2 ?_)
      · rw [spec_l13Follow.l0, if_pos (by omega), if_pos (by omega), ex, and64 _ _ (by omega) (by omega)]
      · rw [← hy]
        refine Ev.step (fun k => ?_) h.1
        rw [spec_l13Follow.l1, if_neg (by omega), if_pos (by omega), Option.bind_some, ex, eR x hx2, eR y hy2, wsucc (by omega)]
        cases o
        · rw [if_neg (by decide)]; rfl
        · rw [if_pos rfl, if_pos (by omega), if_pos (by omega)]; rfl
    · refine Ev.step (fun k => ?_) h.2
      have ep : ones 16 (r &&& t) % 2 < 2 := by omega
      have ey : x ^^^ ones 16 (r &&& t) % 2 = y := by rw [bitx _ _ hx2 ep, hy]; omega
      have e65 : Go.bits .and .i64 (wrap64 ((r : Int) * 2)) 65535 = ((2 * (r % 32768) : Nat) : Int) := by
        rw [w64 (by omega) (by omega), show (r : Int) * 2 = ((2 * r : Nat) : Int) by omega]
        have := and64 (2 * r) 65535 (by omega) (by omega)
        rw [show ((65535 : Nat) : Int) = 65535 from rfl] at this
        rw [this, show (65535 : Nat) = 2 ^ 16 - 1 from rfl, Nat.and_two_pow_sub_one_eq_mod]
        omega
      have eo : ∀ z : Nat, z < 2 → Go.bits .or .i64 ((2 * (r % 32768) : Nat) : Int) (z : Int) = ((flR r z : Nat) : Int) := by
        intro z hz
        rw [or64 _ _ (by omega) (by omega), or_even _ _ hz]
        unfold flR
        omega
      rw [impl_follow.l0, if_pos (by omega), if_pos (by omega), if_pos (by omega), and64 _ _ (by omega) (by omega), parity_eq _ hand, Option.bind_some, if_pos (by omega), Option.bind_some, ex, xor64 _ _ (by omega) (by omega), ey, e65, eo y hy2, eo x hx2, wsucc (by omega)]
      cases o
      · rfl
      · rfl
def followM (l : List Int) (t : Int) (own_ : Bool) : List Int × Bool := if bitsOk l = true ∧ 0 ≤ t ∧ t ≤ 65535 then (flL t.toNat own_ 0 l, true) else ([], false)
theorem sFollow_ev (l : List Int) (t : Int) (o : Bool) (hl : l.length ≤ 1048576) : Ev (fun k => spec_l13Follow.f k l t o) (followM l t (!o)) := by
  unfold spec_l13Follow.f followM
  refine Ev.bind0 rfl (Ev.bind (sBitsOk_ev l (by omega)) ?_)
  by_cases hb : bitsOk l = true
  · refine Ev.pos hb (Ev.bind0 (l1In_eq _ _ _) ?_)
    by_cases ht : 0 ≤ t ∧ t ≤ 65535
    · rw [if_pos ⟨hb, ht⟩, decide_eq_true ht]
      obtain ⟨t, rfl⟩ : ∃ n : Nat, t = n := ⟨t.toNat, by omega⟩
      refine Ev.step (fun k => ?_) (Follow_loops l t o (bitsOk_len hb) (by omega) (bitsOk_all hb) l.length 0 0 [] (by omega) rfl (by omega)).1
      rw [spec_l13Follow.j0]; rfl
    · rw [if_neg (fun h => ht h.2), decide_eq_false ht]
      exact Ev.fin (fun k => by rw [spec_l13Follow.j0]; rfl)
  · rw [if_neg (fun h => hb h.1)]
    exact Ev.neg hb (Ev.fin (fun k => by rw [spec_l13Follow.j0]; rfl))
theorem iFollow_ev (l : List Int) (t : Int) (o : Bool) (hl : l.length ≤ 1048576) : Ev (fun k => impl_follow.f k l t o) (followM l t o) := by
  unfold impl_follow.f followM
  refine Ev.bind (iBitsOk_ev l (by omega)) ?_
  by_cases hb : bitsOk l = true
  · refine Ev.pos hb (Ev.bind0 (is16_eq _ _) ?_)
    by_cases ht : 0 ≤ t ∧ t ≤ 65535
    · rw [if_pos ⟨hb, ht⟩, decide_eq_true ht]
      obtain ⟨t, rfl⟩ : ∃ n : Nat, t = n := ⟨t.toNat, by omega⟩
      have h := (Follow_loops l t (!o) (bitsOk_len hb) (by omega) (bitsOk_all hb) l.length 0 0 [] (by omega) rfl (by omega)).2
      rw [Bool.not_not] at h
      refine Ev.step (fun k => ?_) h
      rw [impl_follow.j0]; rfl
    · rw [if_neg (fun h => ht h.2), decide_eq_false ht]
      exact Ev.fin (fun k => by rw [impl_follow.j0]; rfl)
  · rw [if_neg (fun h => hb h.1)]
    exact Ev.neg hb (Ev.fin (fun k => by rw [impl_follow.j0]; rfl))
theorem followM_len (l : List Int) (t : Int) (o : Bool) : (followM l t o).1.length ≤ l.length := by
  unfold followM
  split
  · simp only [flL_len]; omega
  · simp

theorem UnFollow_both (l : List Int) (t : Int) (hl : l.length ≤ 1048576) : ∃ r ok, Ev (fun k => spec_UnFollow.f k l t) (r, ok) ∧ Ev (fun k => impl_UnFollow.f k l t) (r, ok) ∧ r.length ≤ 17592186044416 := by
  refine ⟨(followM l t false).1, (followM l t false).2, ?_, ?_, Nat.le_trans (followM_len l t false) (by omega)⟩
  · unfold spec_UnFollow.f; exact Ev.bind (sFollow_ev l t true hl) (Ev.now _)
  · unfold impl_UnFollow.f; exact Ev.bind (iFollow_ev l t false hl) (Ev.now _)

theorem toIntS_l0 (l : List Int) (hl : l.length ≤ 17592186044416) : ∀ (d i : Nat) (x : List Int), i + d = l.length → x.length = l.length → x.take i = l.take i →
    Ev (fun k => laws_toIntS.l0 k l x (i : Int)) l := by
  intro d
  induction d with
  | zero =>
    intro i x hd hx ht
    refine Ev.fin (fun k => ?_)
    rw [laws_toIntS.l0, if_neg (by omega)]
    rw [List.take_of_length_le (by omega), List.take_of_length_le (by omega)] at ht
    rw [ht]
  | succ d ih =>
    intro i x hd hx ht
    refine Ev.step (fun k => ?_) (ih (i + 1) (x.set i (rd l (i : Int))) (by omega) (by simpa using hx) ?_)
    · rw [laws_toIntS.l0, if_pos (by omega), if_pos (by omega), if_pos (by omega), wsucc (by omega), Int.toNat_natCast]
    · rw [take_rd (by simp; omega), take_rd (by omega), List.take_set_of_le (by omega), ht, rd_lt (by simp; omega), List.getElem_set_self]
theorem toIntS_ev (l : List Int) (hl : l.length ≤ 17592186044416) : Ev (fun k => laws_toIntS.f k l) l := by
  unfold laws_toIntS.f
  refine Ev.pos (by omega) (Ev.pos (by omega) ?_)
  exact toIntS_l0 l hl l.length 0 _ (by omega) (by simp) (by simp)

theorem eqIntS_l0 (l : List Int) (hl : l.length ≤ 17592186044416) : ∀ (d i : Nat), i + d = l.length → Ev (fun k => laws_eqIntS.l0 k l l (i : Int)) true := by
  intro d
  induction d with
  | zero =>
    intro i hd
    refine Ev.fin (fun k => ?_)
    rw [laws_eqIntS.l0, if_neg (by omega)]
  | succ d ih =>
    intro i hd
    refine Ev.step (fun k => ?_) (ih (i + 1) (by omega))
    rw [laws_eqIntS.l0, if_pos (by omega), if_pos (by omega), if_pos (by omega), if_pos rfl, wsucc (by omega)]
theorem eqIntS_ev (l : List Int) (hl : l.length ≤ 17592186044416) : Ev (fun k => laws_eqIntS.f k l l) true := by
  unfold laws_eqIntS.f
  exact Ev.pos rfl (eqIntS_l0 l hl l.length 0 (by omega))

theorem markIntS_l0 (n : Nat) (s : Int) (hs : 0 ≤ s ∧ s ≤ 100000000000000) (hn : n ≤ 17592186044416) : ∀ (d i : Nat) (x : List Int), i + d = n → x.length = n → x.take i = mkL s i →
    Ev (fun k => laws_markIntS.l0 k x (s + (i : Int)) (i : Int)) (s + (n : Int), mkL s n) := by
  intro d
  induction d with
  | zero =>
    intro i x hd hx ht
    refine Ev.fin (fun k => ?_)
    rw [laws_markIntS.l0, if_neg (by omega)]
    obtain rfl : i = n := by omega
    rw [List.take_of_length_le (by omega)] at ht
    rw [ht]
  | succ d ih =>
    intro i x hd hx ht
    refine Ev.step (fun k => ?_) (ih (i + 1) (x.set i (s + (i : Int))) (by omega) (by simpa using hx) ?_)
    · have e : wrap64 (s + (i : Int) + 1) = s + ((i + 1 : Nat) : Int) := by rw [w64 (by omega) (by omega)]; omega
      rw [laws_markIntS.l0, if_pos (by omega), if_pos (by omega), wsucc (by omega), e, Int.toNat_natCast]
    · rw [take_rd (by simp; omega), List.take_set_of_le (by omega), ht, rd_lt (by simp; omega), List.getElem_set_self]
      rfl
theorem markIntS_ev (x : List Int) (s : Int) (hs : 0 ≤ s ∧ s ≤ 100000000000000) (hl : x.length ≤ 17592186044416) : Ev (fun k => laws_markIntS.f k x s) (s + (x.length : Int), mkL s x.length) := by
  unfold laws_markIntS.f
  exact Ev.cast (Ev.congr (fun k => by rw [Int.natCast_zero, Int.add_zero]) (markIntS_l0 x.length s hs hl x.length 0 x (by omega) rfl (by simp [mkL]))) rfl

theorem heldIntS_l0 (n : Nat) (s : Int) (hs : 0 ≤ s ∧ s ≤ 100000000000000) (hn : n ≤ 17592186044416) : ∀ (d i : Nat), i + d = n → Ev (fun k => laws_heldIntS.l0 k (mkL s n) (s + (i : Int)) (i : Int)) (s + (n : Int)) := by
  intro d
  induction d with
  | zero =>
    intro i hd
    refine Ev.fin (fun k => ?_)
    rw [laws_heldIntS.l0, mkL_length, if_neg (by omega)]
    congr 1; omega
  | succ d ih =>
    intro i hd
    refine Ev.step (fun k => ?_) (ih (i + 1) (by omega))
    have e : wrap64 (s + (i : Int) + 1) = s + ((i + 1 : Nat) : Int) := by rw [w64 (by omega) (by omega)]; omega
    rw [laws_heldIntS.l0, mkL_length, if_pos (by omega), if_pos (by omega), if_pos (rd_mkL s (by omega)), wsucc (by omega), e]
theorem heldIntS_ev (n : Nat) (s : Int) (hs : 0 ≤ s ∧ s ≤ 100000000000000) (hl : n ≤ 17592186044416) : Ev (fun k => laws_heldIntS.f k (mkL s n) s) (s + (n : Int)) := by
  unfold laws_heldIntS.f
  exact Ev.congr (fun k => by rw [Int.natCast_zero, Int.add_zero]) (heldIntS_l0 n s hs hl n 0 (by omega))

theorem FnExactUnFollow : laws_FnExactUnFollow.Pure := by
  intro l t _ bl wl wt
  refine Ev.rounds ?_
  unfold laws_FnExactUnFollow.f
  by_cases gl : (l.length : Int) > 1048576
  · exact Ev.pos gl (Ev.now true)
  refine Ev.neg gl ?_
  have hl : l.length ≤ 1048576 := by omega
  have hl4 : l.length ≤ 17592186044416 := by omega
  obtain ⟨r, ok, hS, hI, hr⟩ := UnFollow_both l t hl
  have ml : 0 ≤ (1 : Int) ∧ (1 : Int) ≤ 100000000000000 := by omega
  have m1 : 0 ≤ (1 : Int) ∧ (1 : Int) ≤ 100000000000000 := by omega
  repeat (first
    | exact Ev.now true
    | with_reducible refine Ev.bind (toIntS_ev l hl4) ?_
    | with_reducible refine Ev.bind hS ?_
    | with_reducible refine Ev.bind hI ?_
    | with_reducible refine Ev.bind (eqIntS_ev l hl4) ?_
    | with_reducible refine Ev.bind (eqIntS_ev r hr) ?_
    | with_reducible refine Ev.bind (markIntS_ev l (1) ml hl4) ?_
    | with_reducible refine Ev.bind (markIntS_ev r 1 m1 hr) ?_
    | with_reducible refine Ev.bind (heldIntS_ev r.length 1 m1 hr) ?_
    | refine Ev.pos rfl ?_
    | (refine Ev.neg ?_ ?_; (· first | (simp; done) | omega))
    | refine Ev.step (fun k => by rw [laws_FnExactUnFollow.j0]) ?_
    | refine Ev.step (fun k => by rw [laws_FnExactUnFollow.j1]) ?_
    | refine Ev.step (fun k => by rw [laws_FnExactUnFollow.j2]) ?_)

end Go.Proofs.Ytonmdhaollhekaa.Pure
