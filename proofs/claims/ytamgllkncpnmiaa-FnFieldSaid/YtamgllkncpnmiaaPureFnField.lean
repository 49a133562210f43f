/- The field's laws at three numbers of the code: products exchanged, put together, handed out; inverses; for every code. -/
import Derived.Test.YtamgllkncpnmiaaPFnFieldx2
import Derived.Test.YtamgllkncpnmiaaCom
import Derived.Test.YtamgllkncpnmiaaGf
set_option linter.unusedVariables false
set_option linter.unusedSimpArgs false
namespace Go.Proofs.Ytamgllkncpnmiaa.Pure
open Go.RowKit Go.Proofs.Ytamgllkncpnmiaa.PFnField Go.Proofs.YtamgllkncpnmiaaW.PrintWords Go.Proofs.YtamgllkncpnmiaaW.PrintLast Go.Proofs.Ytamgllkncpnmiaa.Com Go.Proofs.Ytamgllkncpnmiaa.Gf

theorem big_eq (l : List Int) : laws_big.f l = some (decide ((l.length : Int) > 1048576)) := rfl

theorem at_ex (l : List Int) (i : Nat) (hi : i < 1000000) (hl : (l.length : Int) ≤ 1048576) (hw : ∀ x ∈ l, (Lit.int .u8 x).wf = true) : ∃ n : Nat, n < 256 ∧ laws_at.f l (i : Int) = some (n : Int) := by
  unfold laws_at.f
  by_cases h : i < l.length
  · have hb := wfb (hw _ (rd_mem h))
    refine ⟨(rd l (i : Int)).toNat, by omega, ?_⟩
    rw [if_pos (by omega), if_pos (by omega), w64 (by omega) (by omega), Int.toNat_of_nonneg hb.1]
  · refine ⟨(i * 7 + l.length) % 256, by omega, ?_⟩
    rw [if_neg (by omega), w64 (n := (i : Int) * 7) (by omega) (by omega), w64 (by omega) (by omega)]
    congr 1

theorem isByte_eq (a : Int) : impl_isByte.f a = some (decide (0 ≤ a ∧ a ≤ 255)) := by
  unfold impl_isByte.f
  by_cases h : 0 ≤ a
  · rw [if_pos h]; simp [h]
  · rw [if_neg h]; simp [h]

theorem iGfMul_l0 : ∀ (n a b r : Nat), a < 256 → b < 2 ^ n → n ≤ 8 → r < 256 → Ev (fun k => impl_GfMul.l0 k (a : Int) (b : Int) (r : Int)) ((r ^^^ gmF n a b : Nat) : Int) := by
  intro n
  induction n with
  | zero =>
    intro a b r _ hb _ _
    refine Ev.fin (fun k => ?_)
    rw [impl_GfMul.l0, if_neg (by omega)]
    show some (r : Int) = some ((r ^^^ 0 : Nat) : Int)
    rw [Nat.xor_zero]
  | succ n ih =>
    intro a b r ha hb hn hr
    by_cases h0 : b = 0
    · refine Ev.fin (fun k => ?_)
      rw [impl_GfMul.l0, if_neg (by omega), h0, gmF_zero, Nat.xor_zero]
    · have hp : 2 ^ (n + 1) = 2 * 2 ^ n := by rw [Nat.pow_succ]; omega
      refine Ev.cast (Ev.step (fun k => ?_) (ih (xt a) (b / 2) (r ^^^ (if b % 2 = 1 then a else 0)) (xt_lt ha) (by omega) (by omega) (xor_lt hr (by split <;> omega)))) ?_
      · have e2 : wrap64 ((a : Int) * 2) = ((2 * a : Nat) : Int) := by rw [wr (by omega) (by omega)]; omega
        have e3 : (b : Int) / 2 = ((b / 2 : Nat) : Int) := by omega
        rw [impl_GfMul.l0, if_pos (by omega), and64_1, e2, e3, x285 _ (by omega), xor64 r a (by omega) (by omega)]
        unfold xt
        by_cases ho : b % 2 = 1 <;> by_cases hx : 2 * a > 255
        · rw [if_pos (by omega), if_pos (by omega), if_pos hx, if_pos ho]
        · rw [if_pos (by omega), if_neg (by omega), if_neg hx, if_pos ho]
        · rw [if_neg (by omega), if_pos (by omega), if_pos hx, if_neg ho, Nat.xor_zero]
        · rw [if_neg (by omega), if_neg (by omega), if_neg hx, if_neg ho, Nat.xor_zero]
      · show (((r ^^^ (if b % 2 = 1 then a else 0)) ^^^ gmF n (xt a) (b / 2) : Nat) : Int) = ((r ^^^ ((if b % 2 = 1 then a else 0) ^^^ gmF n (xt a) (b / 2)) : Nat) : Int)
        rw [Nat.xor_assoc]
theorem iGfMul_ev (a b : Int) : Ev (fun k => impl_GfMul.f k a b) (gmI a b) := by
  unfold impl_GfMul.f gmI
  simp only [isByte_eq, Option.bind_some]
  by_cases ha : 0 ≤ a ∧ a ≤ 255
  · refine Ev.pos (by simp [ha]) ?_
    by_cases hb : 0 ≤ b ∧ b ≤ 255
    · rw [if_pos ⟨ha.1, ha.2, hb⟩, decide_eq_true hb]
      obtain ⟨a, rfl⟩ : ∃ n : Nat, a = n := ⟨a.toNat, by omega⟩
      obtain ⟨b, rfl⟩ : ∃ n : Nat, b = n := ⟨b.toNat, by omega⟩
      refine Ev.cast (Ev.step (fun k => ?_) (iGfMul_l0 8 a b 0 (by omega) (by omega) (by omega) (by omega))) ?_
      · rw [impl_GfMul.j0]; rfl
      · rw [Nat.zero_xor]; rfl
    · rw [if_neg (by omega), decide_eq_false hb]
      refine Ev.fin (fun k => ?_)
      rw [impl_GfMul.j0]; rfl
  · rw [if_neg (by omega)]
    refine Ev.neg (by simpa using ha) (Ev.fin (fun k => ?_))
    rw [impl_GfMul.j0]; rfl

theorem l1In_eq (a b c : Int) : spec_l1In.f a b c = some (decide (b ≤ a ∧ a ≤ c)) := by
  unfold spec_l1In.f
  by_cases h : b ≤ a
  · rw [if_pos h]; simp [h]
  · rw [if_neg h]; simp [h]

theorem l14Byte_eq (a : Int) : spec_l14Byte.f a = some (decide (0 ≤ a ∧ a ≤ 255)) := by
  unfold spec_l14Byte.f
  rw [l1In_eq, Option.bind_some]

theorem shr_nat (x y : Nat) (h : y ≤ 64) : shr .i64 (x : Int) (y : Int) = ((x / 2 ^ y : Nat) : Int) := by
  unfold shr
  rw [Int.toNat_natCast, show min y (IntKind.bits .i64) = y from Nat.min_eq_left h]
  exact (Int.natCast_ediv x (2 ^ y)).symm

theorem sGfMul_l0 (a b : Nat) (ha : a < 256) (hb : b < 256) : ∀ (n p : Nat), n ≤ 8 → p < 256 → Ev (fun k => spec_GfMul.l0 k (a : Int) (b : Int) (p : Int) ((n : Int) - 1)) ((xtN n p ^^^ gmF n a b : Nat) : Int) := by
  intro n
  induction n with
  | zero =>
    intro p _ _
    refine Ev.fin (fun k => ?_)
    rw [spec_GfMul.l0, if_neg (by omega)]
    show some (p : Int) = some ((p ^^^ 0 : Nat) : Int)
    rw [Nat.xor_zero]
  | succ n ih =>
    intro p hn hp
    have hx := xt_lt hp
    refine Ev.cast (Ev.step (fun k => ?_) (ih (xt p ^^^ (if b / 2 ^ n % 2 = 1 then a else 0)) (by omega) (xor_lt hx (by split <;> omega)))) ?_
    · have e2 : wrap64 (2 * (p : Int)) = ((2 * p : Nat) : Int) := by rw [wr (by omega) (by omega)]; omega
      have e1 : ((n + 1 : Nat) : Int) - 1 = (n : Int) := by omega
      have e3 : wrap64 ((n : Int) - 1) = (n : Int) - 1 := w64 (by omega) (by omega)
      have hq : b / 2 ^ n < 256 := Nat.lt_of_le_of_lt (Nat.div_le_self _ _) hb
      have e4 : Int.tmod ((b / 2 ^ n : Nat) : Int) 2 = ((b / 2 ^ n % 2 : Nat) : Int) := rfl
      have hxo : (2 * p) ^^^ 285 < 512 := Nat.xor_lt_two_pow (n := 9) (by omega) (by omega)
      rw [spec_GfMul.l0, e1, if_pos (by omega), e2, u64w (by omega) (by omega), shr_nat b n (by omega), e4, e3, x285 _ (by omega), xor64 (2 * p ^^^ 285) a (by omega) (by omega), xor64 (2 * p) a (by omega) (by omega)]
      unfold xt
      by_cases hc : 2 * p > 255 <;> by_cases ho : b / 2 ^ n % 2 = 1
      · rw [if_pos (by omega), if_pos (by omega), if_pos (by omega), if_pos hc, if_pos ho]
      · rw [if_pos (by omega), if_pos (by omega), if_neg (by omega), if_pos hc, if_neg ho, Nat.xor_zero]
      · rw [if_neg (by omega), if_pos (by omega), if_pos (by omega), if_neg hc, if_pos ho]
      · rw [if_neg (by omega), if_pos (by omega), if_neg (by omega), if_neg hc, if_neg ho, Nat.xor_zero]
    · rw [gmF_top, xtN_xor n hx (by split <;> omega)]
      show ((xtN n (xt p) ^^^ xtN n (if b / 2 ^ n % 2 = 1 then a else 0) ^^^ gmF n a b : Nat) : Int) = ((xtN n (xt p) ^^^ (gmF n a b ^^^ (if b / 2 ^ n % 2 = 1 then xtN n a else 0)) : Nat) : Int)
      rw [Nat.xor_assoc, Nat.xor_comm (gmF n a b)]
      congr 3
      split
      · rfl
      · exact xtN_zero n
theorem sGfMul_ev (a b : Int) : Ev (fun k => spec_GfMul.f k a b) (gmI a b) := by
  unfold spec_GfMul.f gmI
  simp only [l14Byte_eq, Option.bind_some]
  by_cases ha : 0 ≤ a ∧ a ≤ 255
  · refine Ev.pos (by simp [ha]) ?_
    by_cases hb : 0 ≤ b ∧ b ≤ 255
    · rw [if_pos ⟨ha.1, ha.2, hb⟩, decide_eq_true hb]
      obtain ⟨a, rfl⟩ : ∃ n : Nat, a = n := ⟨a.toNat, by omega⟩
      obtain ⟨b, rfl⟩ : ∃ n : Nat, b = n := ⟨b.toNat, by omega⟩
      refine Ev.cast (Ev.step (fun k => ?_) (sGfMul_l0 a b (by omega) (by omega) 8 0 (by omega) (by omega))) ?_
      · rw [spec_GfMul.j0]; rfl
      · rw [xtN_zero, Nat.zero_xor]; rfl
    · rw [if_neg (by omega), decide_eq_false hb]
      refine Ev.fin (fun k => ?_)
      rw [spec_GfMul.j0]; rfl
  · rw [if_neg (by omega)]
    refine Ev.neg (by simpa using ha) (Ev.fin (fun k => ?_))
    rw [spec_GfMul.j0]; rfl

theorem iGfInv_l0 (a : Nat) (ha : a < 256) : ∀ (d i : Nat), i + d = 254 → Ev (fun k => impl_GfInv.l0 k (a : Int) ((gp a i : Nat) : Int) (i : Int)) (if a = 0 then 0 else ((gp a 254 : Nat) : Int)) := by
  intro d
  induction d with
  | zero =>
    intro i hd
    obtain rfl : i = 254 := by omega
    refine Ev.fin (fun k => ?_)
    rw [impl_GfInv.l0, if_neg (by omega)]
    by_cases h : a = 0
    · rw [if_pos (by omega), if_pos h]
    · rw [if_neg (by omega), if_neg h]
  | succ d ih =>
    intro i hd
    refine Ev.step (f := fun k => (impl_GfMul.f k ((gp a i : Nat) : Int) (a : Int)).bind fun t => impl_GfInv.l0 k (a : Int) t ((i + 1 : Nat) : Int)) (fun k => ?_) ?_
    · rw [impl_GfInv.l0, if_pos (by omega), wsucc (by omega)]
    · refine Ev.bind (iGfMul_ev _ _) ?_
      rw [gmI_nat (gp_lt _) ha]
      exact ih (i + 1) (by omega)
def invI (a : Int) : Int := if 0 < a ∧ a ≤ 255 then ((gp a.toNat 254 : Nat) : Int) else 0
theorem iGfInv_ev (a : Int) : Ev (fun k => impl_GfInv.f k a) (invI a) := by
  unfold impl_GfInv.f invI
  simp only [isByte_eq, Option.bind_some]
  by_cases ha : 0 ≤ a ∧ a ≤ 255
  · refine Ev.pos (by simp [ha]) ?_
    obtain ⟨a, rfl⟩ : ∃ n : Nat, a = n := ⟨a.toNat, by omega⟩
    refine Ev.cast (iGfInv_l0 a (by omega) 254 0 (by omega)) ?_
    by_cases h : a = 0
    · rw [if_pos h, if_neg (by omega)]
    · rw [if_neg h, if_pos (by omega), Int.toNat_natCast]
  · rw [if_neg (by omega)]
    exact Ev.neg (by simpa using ha) (Ev.now 0)

theorem FnField : laws_FnField.Pure := by
  intro l _ hl hw
  refine Ev.rounds ?_
  unfold laws_FnField.f
  simp only [big_eq, Option.bind_some]
  by_cases hb : (l.length : Int) > 1048576
  · exact Ev.pos (by simpa using hb) (Ev.now true)
  refine Ev.neg (by simpa using hb) ?_
  obtain ⟨a, ha, ea⟩ := at_ex l 0 (by omega) (by omega) hw
  obtain ⟨b, hb, eb⟩ := at_ex l 1 (by omega) (by omega) hw
  obtain ⟨c, hc, ec⟩ := at_ex l 2 (by omega) (by omega) hw
  refine Ev.bind0 ea (Ev.bind0 eb (Ev.bind0 ec ?_))
  refine Ev.bind (iGfMul_ev _ _) (Ev.bind (sGfMul_ev _ _) (Ev.pos rfl (Ev.bind (iGfMul_ev _ _) ?_)))
  rw [gmI_nat ha hb, gmI_nat hb ha]
  refine Ev.pos (by rw [gm_comm ha hb]) (Ev.bind (iGfMul_ev _ _) (Ev.bind (iGfMul_ev _ _) (Ev.bind (iGfMul_ev _ _) ?_)))
  rw [gmI_nat hb hc, gmI_nat (gm_lt b ha) hc, gmI_nat ha (gm_lt c hb)]
  refine Ev.step (fun k => by rw [laws_FnField.j0, if_neg (by rw [gm_assoc ha hb hc]; simp)]) ?_
  rw [xor64 b c (by omega) (by omega)]
  refine Ev.bind (iGfMul_ev _ _) (Ev.bind (iGfMul_ev _ _) ?_)
  have hbc := xor_lt hb hc
  have h1 := gm_lt b ha
  have h2 := gm_lt c ha
  rw [gmI_nat ha hbc, gmI_nat ha hc, xor64 _ _ (by omega) (by omega)]
  refine Ev.pos (by rw [gm_add_right]) ?_
  have e29 : gmI 128 2 = 29 := by decide +kernel
  by_cases h0 : a = 0
  · refine Ev.pos (by omega) (Ev.bind (iGfMul_ev _ _) ?_)
    rw [e29]
    exact Ev.now true
  · refine Ev.neg (by omega) (Ev.bind (iGfInv_ev _) (Ev.bind (iGfMul_ev _ _) ?_))
    have e : gmI (a : Int) (invI (a : Int)) = 1 := by
      unfold invI
      rw [if_pos (by omega), Int.toNat_natCast, gmI_nat ha (gp_lt _), gm_inv h0 ha]
      rfl
    refine Ev.pos e (Ev.bind (iGfMul_ev _ _) ?_)
    rw [e29]
    exact Ev.now true

end Go.Proofs.Ytamgllkncpnmiaa.Pure
