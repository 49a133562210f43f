/- RsCode tells what the reference tells, leaves its arguments alone and answers new memory, for all arguments; no condition. -/
import Derived.Test.YtdcjfcfiflpblaaQFnExactRsCodex5
import Derived.Test.YtdcjfcfiflpblaaCom
import Derived.Test.YtdcjfcfiflpblaaGf
import Derived.Test.YtdcjfcfiflpblaaVec
import Derived.Test.YtdcjfcfiflpblaaMark
set_option linter.unusedVariables false
set_option linter.unusedSimpArgs false
namespace Go.Proofs.Ytdcjfcfiflpblaa.Pure
open Go.RowKit Go.Proofs.Ytdcjfcfiflpblaa.PFnExactRsCode Go.Proofs.YtdcjfcfiflpblaaW.PrintWords Go.Proofs.YtdcjfcfiflpblaaW.PrintLast Go.Proofs.Ytdcjfcfiflpblaa.Com Go.Proofs.Ytdcjfcfiflpblaa.Gf Go.Proofs.Ytdcjfcfiflpblaa.Vec Go.Proofs.Ytdcjfcfiflpblaa.Mark

theorem isByte_eq (a : Int) : impl_isByte.f a = some (decide (0 ≤ a ∧ a ≤ 255)) := by
  unfold impl_isByte.f
  by_cases h : 0 ≤ a
  · rw [if_pos h]; simp [h]
  · rw [if_neg h]; simp [h]

theorem iGfMul_l0 : ∀ (n a b r : Nat), a < 256 → b < 2 ^ n → n ≤ 8 → r < 256 → Ev (fun k => impl_GfMul.l0 k (a : Int) (b : Int) (r : Int)) ((r ^^^ gmF n a b : Nat) : Int) := by
  intro n
  induction n with
  | zero =>
    intro a b r _ hb _ _
    refine Ev.fin (fun k => ?_)
    rw [impl_GfMul.l0, if_neg (by omega)]
    show some (r : Int) = some ((r ^^^ 0 : Nat) : Int)
    rw [Nat.xor_zero]
  | succ n ih =>
    intro a b r ha hb hn hr
    by_cases h0 : b = 0
    · refine Ev.fin (fun k => ?_)
      rw [impl_GfMul.l0, if_neg (by omega), h0, gmF_zero, Nat.xor_zero]
    · have hp : 2 ^ (n + 1) = 2 * 2 ^ n := by rw [Nat.pow_succ]; omega
      refine Ev.cast (Ev.step (fun k => ?_) (ih (xt a) (b / 2) (r ^^^ (if b % 2 = 1 then a else 0)) (xt_lt ha) (by omega) (by omega) (xor_lt hr (by split <;> omega)))) ?_
      · have e2 : wrap64 ((a : Int) * 2) = ((2 * a : Nat) : Int) := by rw [wr (by omega) (by omega)]; omega
        have e3 : (b : Int) / 2 = ((b / 2 : Nat) : Int) := by omega
        rw [impl_GfMul.l0, if_pos (by omega), and64_1, e2, e3, x285 _ (by omega), xor64 r a (by omega) (by omega)]
        unfold xt
        by_cases ho : b % 2 = 1 <;> by_cases hx : 2 * a > 255
        · rw [if_pos (by omega), if_pos (by omega), if_pos hx, if_pos ho]
        · rw [if_pos (by omega), if_neg (by omega), if_neg hx, if_pos ho]
        · rw [if_neg (by omega), if_pos (by omega), if_pos hx, if_neg ho, Nat.xor_zero]
        · rw [if_neg (by omega), if_neg (by omega), if_neg hx, if_neg ho, Nat.xor_zero]
      · show (((r ^^^ (if b % 2 = 1 then a else 0)) ^^^ gmF n (xt a) (b / 2) : Nat) : Int) = ((r ^^^ ((if b % 2 = 1 then a else 0) ^^^ gmF n (xt a) (b / 2)) : Nat) : Int)
        rw [Nat.xor_assoc]
theorem iGfMul_ev (a b : Int) : Ev (fun k => impl_GfMul.f k a b) (gmI a b) := by
  unfold impl_GfMul.f gmI
  simp only [isByte_eq, Option.bind_some]
  by_cases ha : 0 ≤ a ∧ a ≤ 255
  · refine Ev.pos (by simp [ha]) ?_
    by_cases hb : 0 ≤ b ∧ b ≤ 255
    · rw [if_pos ⟨ha.1, ha.2, hb⟩, decide_eq_true hb]
      obtain ⟨a, rfl⟩ : ∃ n : Nat, a = n := ⟨a.toNat, by omega⟩
      obtain ⟨b, rfl⟩ : ∃ n : Nat, b = n := ⟨b.toNat, by omega⟩
      refine Ev.cast (Ev.step (fun k => ?_) (iGfMul_l0 8 a b 0 (by omega) (by omega) (by omega) (by omega))) ?_
      · rw [impl_GfMul.j0]; rfl
      · rw [Nat.zero_xor]; rfl
    · rw [if_neg (by omega), decide_eq_false hb]
      refine Ev.fin (fun k => ?_)
      rw [impl_GfMul.j0]; rfl
  · rw [if_neg (by omega)]
    refine Ev.neg (by simpa using ha) (Ev.fin (fun k => ?_))
    rw [impl_GfMul.j0]; rfl

/-- The n-th power of 2 in the field. -/
def pwN (n : Nat) : Nat := xtN (n % 255) 1
theorem pwN_lt (n : Nat) : pwN n < 256 := xtN_lt _ (by omega)
theorem gm2 {a : Nat} (h : a < 256) : gmI (a : Int) 2 = ((xt a : Nat) : Int) := by
  have := gmI_nat h (show 2 < 256 by omega)
  rw [gm_comm h (by omega), xt_is h] at this
  exact this
theorem igfPow_l0 (n : Nat) (hn : n ≤ 255) : ∀ (d i : Nat), i + d = n → Ev (fun k => impl_gfPow.l0 k ((xtN i 1 : Nat) : Int) (n : Int) (i : Int)) ((xtN n 1 : Nat) : Int) := by
  intro d
  induction d with
  | zero =>
    intro i hd
    obtain rfl : i = n := by omega
    exact Ev.fin (fun k => by rw [impl_gfPow.l0, if_neg (by omega)])
  | succ d ih =>
    intro i hd
    refine Ev.step (fun k => by rw [impl_gfPow.l0, if_pos (by omega)]) (Ev.bind (iGfMul_ev _ _) ?_)
    rw [gm2 (xtN_lt i (by omega)), ← xtN_succ, wsucc (by omega)]
    exact ih (i + 1) (by omega)
theorem igfPow_ev (n : Nat) : Ev (fun k => impl_gfPow.f k (n : Int)) ((pwN n : Nat) : Int) := by
  unfold impl_gfPow.f pwN
  have e : Int.tmod (n : Int) 255 = ((n % 255 : Nat) : Int) := rfl
  rw [e]
  exact igfPow_l0 (n % 255) (by omega) (n % 255) 0 (by omega)

theorem l1In_eq (a b c : Int) : spec_l1In.f a b c = some (decide (b ≤ a ∧ a ≤ c)) := by
  unfold spec_l1In.f
  by_cases h : b ≤ a
  · rw [if_pos h]; simp [h]
  · rw [if_neg h]; simp [h]

theorem l14Byte_eq (a : Int) : spec_l14Byte.f a = some (decide (0 ≤ a ∧ a ≤ 255)) := by
  unfold spec_l14Byte.f
  rw [l1In_eq, Option.bind_some]

theorem shr_nat (x y : Nat) (h : y ≤ 64) : shr .i64 (x : Int) (y : Int) = ((x / 2 ^ y : Nat) : Int) := by
  unfold shr
  rw [Int.toNat_natCast, show min y (IntKind.bits .i64) = y from Nat.min_eq_left h]
  exact (Int.natCast_ediv x (2 ^ y)).symm

theorem sGfMul_l0 (a b : Nat) (ha : a < 256) (hb : b < 256) : ∀ (n p : Nat), n ≤ 8 → p < 256 → Ev (fun k => spec_GfMul.l0 k (a : Int) (b : Int) (p : Int) ((n : Int) - 1)) ((xtN n p ^^^ gmF n a b : Nat) : Int) := by
  intro n
  induction n with
  | zero =>
    intro p _ _
    refine Ev.fin (fun k => ?_)
    rw [spec_GfMul.l0, if_neg (by omega)]
    show some (p : Int) = some ((p ^^^ 0 : Nat) : Int)
    rw [Nat.xor_zero]
  | succ n ih =>
    intro p hn hp
    have hx := xt_lt hp
    refine Ev.cast (Ev.step (fun k => ?_) (ih (xt p ^^^ (if b / 2 ^ n % 2 = 1 then a else 0)) (by omega) (xor_lt hx (by split <;> omega)))) ?_
    · have e2 : wrap64 (2 * (p : Int)) = ((2 * p : Nat) : Int) := by rw [wr (by omega) (by omega)]; omega
      have e1 : ((n + 1 : Nat) : Int) - 1 = (n : Int) := by omega
      have e3 : wrap64 ((n : Int) - 1) = (n : Int) - 1 := w64 (by omega) (by omega)
      have hq : b / 2 ^ n < 256 := Nat.lt_of_le_of_lt (Nat.div_le_self _ _) hb
      have e4 : Int.tmod ((b / 2 ^ n : Nat) : Int) 2 = ((b / 2 ^ n % 2 : Nat) : Int) := rfl
      have hxo : (2 * p) ^^^ 285 < 512 := Nat.xor_lt_two_pow (n := 9) (by omega) (by omega)
      rw [spec_GfMul.l0, e1, if_pos (by omega), e2, u64w (by omega) (by omega), shr_nat b n (by omega), e4, e3, x285 _ (by omega), xor64 (2 * p ^^^ 285) a (by omega) (by omega), xor64 (2 * p) a (by omega) (by omega)]
      unfold xt
      by_cases hc : 2 * p > 255 <;> by_cases ho : b / 2 ^ n % 2 = 1
      · rw [if_pos (by omega), if_pos (by omega), if_pos (by omega), if_pos hc, if_pos ho]
      · rw [if_pos (by omega), if_pos (by omega), if_neg (by omega), if_pos hc, if_neg ho, Nat.xor_zero]
      · rw [if_neg (by omega), if_pos (by omega), if_pos (by omega), if_neg hc, if_pos ho]
      · rw [if_neg (by omega), if_pos (by omega), if_neg (by omega), if_neg hc, if_neg ho, Nat.xor_zero]
    · rw [gmF_top, xtN_xor n hx (by split <;> omega)]
      show ((xtN n (xt p) ^^^ xtN n (if b / 2 ^ n % 2 = 1 then a else 0) ^^^ gmF n a b : Nat) : Int) = ((xtN n (xt p) ^^^ (gmF n a b ^^^ (if b / 2 ^ n % 2 = 1 then xtN n a else 0)) : Nat) : Int)
      rw [Nat.xor_assoc, Nat.xor_comm (gmF n a b)]
      congr 3
      split
      · rfl
      · exact xtN_zero n
theorem sGfMul_ev (a b : Int) : Ev (fun k => spec_GfMul.f k a b) (gmI a b) := by
  unfold spec_GfMul.f gmI
  simp only [l14Byte_eq, Option.bind_some]
  by_cases ha : 0 ≤ a ∧ a ≤ 255
  · refine Ev.pos (by simp [ha]) ?_
    by_cases hb : 0 ≤ b ∧ b ≤ 255
    · rw [if_pos ⟨ha.1, ha.2, hb⟩, decide_eq_true hb]
      obtain ⟨a, rfl⟩ : ∃ n : Nat, a = n := ⟨a.toNat, by omega⟩
      obtain ⟨b, rfl⟩ : ∃ n : Nat, b = n := ⟨b.toNat, by omega⟩
      refine Ev.cast (Ev.step (fun k => ?_) (sGfMul_l0 a b (by omega) (by omega) 8 0 (by omega) (by omega))) ?_
      · rw [spec_GfMul.j0]; rfl
      · rw [xtN_zero, Nat.zero_xor]; rfl
    · rw [if_neg (by omega), decide_eq_false hb]
      refine Ev.fin (fun k => ?_)
      rw [spec_GfMul.j0]; rfl
  · rw [if_neg (by omega)]
    refine Ev.neg (by simpa using ha) (Ev.fin (fun k => ?_))
    rw [spec_GfMul.j0]; rfl

theorem l14Pow_l0 (n : Nat) : ∀ (d i : Nat), i + d = n % 255 → Ev (fun k => spec_l14Pow.l0 k (n : Int) ((xtN i 1 : Nat) : Int) (i : Int)) ((pwN n : Nat) : Int) := by
  have e : Int.tmod (n : Int) 255 = ((n % 255 : Nat) : Int) := rfl
  intro d
  induction d with
  | zero =>
    intro i hd
    unfold pwN
    obtain rfl : i = n % 255 := by omega
    exact Ev.fin (fun k => by rw [spec_l14Pow.l0, e, if_neg (by omega)])
  | succ d ih =>
    intro i hd
    refine Ev.step (fun k => by rw [spec_l14Pow.l0, e, if_pos (by omega)]) (Ev.bind (sGfMul_ev _ _) ?_)
    rw [gm2 (xtN_lt i (by omega)), ← xtN_succ, wsucc (by omega)]
    exact ih (i + 1) (by omega)
theorem l14Pow_ev (n : Nat) : Ev (fun k => spec_l14Pow.f k (n : Int)) ((pwN n : Nat) : Int) := l14Pow_l0 n (n % 255) 0 (by omega)

/-! The generator's numbers, the highest power first; j steps have been made. -/
def genN : Nat → Nat → Nat
  | 0, p => if p = 0 then 1 else 0
  | j + 1, p => if 1 ≤ p ∧ p ≤ j + 1 then genN j p ^^^ gm (genN j (p - 1)) (pwN j) else genN j p
theorem genN_lt : ∀ j p, genN j p < 256
  | 0, p => by unfold genN; split <;> omega
  | j + 1, p => by
    unfold genN; split
    · exact xor_lt (genN_lt j p) (gm_lt _ (genN_lt j _))
    · exact genN_lt j p
theorem genN_end : ∀ j p, j < p → genN j p = 0
  | 0, p, h => by unfold genN; rw [if_neg (by omega)]
  | j + 1, p, h => by unfold genN; rw [if_neg (by omega), genN_end j p (by omega)]
/-- While a step is made: the places up to k are done. -/
def genM (j k p : Nat) : Nat := if 1 ≤ p ∧ p ≤ k then genN j p ^^^ gm (genN j (p - 1)) (pwN j) else genN j p
theorem genM_zero (j p : Nat) : genM j 0 p = genN j p := by unfold genM; rw [if_neg (by omega)]
theorem genM_step (j k p : Nat) : upd (genM j k) (k + 1) (genN j (k + 1) ^^^ gm (genN j k) (pwN j)) p = genM j (k + 1) p := by
  unfold upd genM
  by_cases h : p = k + 1
  · subst h; rw [if_pos rfl, if_pos (by omega)]; rfl
  · rw [if_neg h]
    by_cases h2 : 1 ≤ p ∧ p ≤ k
    · rw [if_pos h2, if_pos (by omega)]
    · rw [if_neg h2, if_neg (by omega)]
theorem gen_app (j : Nat) : vec (j + 1) (genN j) ++ [(0 : Int)] = vec (j + 2) (genM j 0) := by
  rw [vec_congr (s := genN j) (fun p _ => genM_zero j p), vec_snoc (j + 1), genN_end j (j + 1) (by omega)]; rfl
theorem gen_dn (j : Nat) : vec (j + 2) (genM j (j + 1)) = vec (j + 1 + 1) (genN (j + 1)) := vec_congr fun p _ => by unfold genM; rfl
theorem gmI_lt {a b : Nat} (ha : a < 256) (hb : b < 256) : gmI (a : Int) (b : Int) = ((gm a b : Nat) : Int) := gmI_nat ha hb
theorem iRs_l1 (l : List Int) (m : Int) (n2 : Int) (R : List Int × Bool) (j : Nat) (hj : j ≤ 100)
    (h : Ev (fun k => impl_RsCode.l0 k l m (vec (j + 2) (genN (j + 1))) n2 ((j + 1 : Nat) : Int)) R) : ∀ (d k : Nat), k + d = j + 1 →
    Ev (fun f => impl_RsCode.l1 f l m ((pwN j : Nat) : Int) (vec (j + 2) (genM j k)) n2 (j : Int) (vec (j + 1) (genN j)) ((vec (j + 1) (genN j)).length : Int) (k : Int)) R := by
  intro d
  rw [vec_len]
  induction d with
  | zero =>
    intro k hd
    obtain rfl : k = j + 1 := by omega
    refine Ev.step (fun f => ?_) h
    rw [impl_RsCode.l1, if_neg (by omega), wsucc (by omega), gen_dn]
  | succ d ih =>
    intro k hd
    have hg := genN_lt j k
    have hg1 := genN_lt j (k + 1)
    have hw := pwN_lt j
    refine Ev.step (fun f => by rw [impl_RsCode.l1, wsucc (by omega), vec_len, vec_len, if_pos (by omega), if_pos (by omega), if_pos (by omega), if_pos (by omega), if_pos (by omega)]) (Ev.bind (iGfMul_ev _ _) ?_)
    have e : genM j k (k + 1) = genN j (k + 1) := by unfold genM; rw [if_neg (by omega)]
    have hx := gm_lt (pwN j) hg
    rw [rd_vec _ (by omega), rd_vec _ (by omega), gmI_nat hg hw, e, xor64 _ _ (by omega) (by omega), Int.toNat_natCast, set_vec _ _ (by omega), vec_congr (fun p _ => genM_step j k p)]
    exact ih (k + 1) (by omega)
theorem sRs_l1 (l : List Int) (m : Int) (R : List Int × Bool) (j : Nat) (hj : j ≤ 100)
    (h : Ev (fun k => spec_RsCode.l0 k l m (vec (j + 2) (genN (j + 1))) ((j + 1 : Nat) : Int)) R) : ∀ (d k : Nat), k + d = j + 1 →
    Ev (fun f => spec_RsCode.l1 f l m (vec (j + 1) (genN j)) (j : Int) (vec (j + 2) (genM j k)) (k : Int)) R := by
  intro d
  induction d with
  | zero =>
    intro k hd
    obtain rfl : k = j + 1 := by omega
    refine Ev.step (fun f => ?_) h
    rw [spec_RsCode.l1, vec_len, if_neg (by omega), wsucc (by omega), gen_dn]
  | succ d ih =>
    intro k hd
    have hg := genN_lt j k
    have hg1 := genN_lt j (k + 1)
    have hw := pwN_lt j
    refine Ev.step (fun f => by rw [spec_RsCode.l1, wsucc (by omega), vec_len, vec_len, if_pos (by omega), if_pos (by omega), if_pos (by omega), if_pos (by omega)]) (Ev.bind (l14Pow_ev j) (Ev.bind (sGfMul_ev _ _) ?_))
    have e : genM j k (k + 1) = genN j (k + 1) := by unfold genM; rw [if_neg (by omega)]
    have hx := gm_lt (pwN j) hg
    rw [rd_vec _ (by omega), rd_vec _ (by omega), gmI_nat hg hw, e, xor64 _ _ (by omega) (by omega), Int.toNat_natCast, set_vec _ _ (by omega), vec_congr (fun p _ => genM_step j k p)]
    exact ih (k + 1) (by omega)
/-! The rests while the data are divided: dt is the data, g the generator, T the rest's length. -/
def lfs (T : Nat) (g dt : Nat → Nat) : Nat → Nat → Nat
  | 0, _ => 0
  | i + 1, k => (if k + 1 < T then lfs T g dt i (k + 1) else 0) ^^^ gm (lfs T g dt i 0 ^^^ dt i) (g (k + 1))
def dvs (T : Nat) (g dt : Nat → Nat) : Nat → Nat → Nat
  | 0, p => dt p
  | i + 1, p => if i ≤ p ∧ p < i + (T + 1) then dvs T g dt i p ^^^ gm (g (p - i)) (dvs T g dt i i) else dvs T g dt i p
theorem lfs_lt {T : Nat} {g dt : Nat → Nat} (hd : ∀ p, dt p < 256) : ∀ i k, lfs T g dt i k < 256
  | 0, k => by unfold lfs; omega
  | i + 1, k => by
    unfold lfs
    have := lfs_lt (T := T) (g := g) hd i (k + 1)
    exact xor_lt (by split <;> omega) (gm_lt _ (xor_lt (lfs_lt hd i 0) (hd i)))
theorem dvs_lt {T : Nat} {g dt : Nat → Nat} (hg : ∀ p, g p < 256) (hd : ∀ p, dt p < 256) : ∀ i k, dvs T g dt i k < 256
  | 0, k => by unfold dvs; exact hd k
  | i + 1, k => by
    unfold dvs
    split
    · exact xor_lt (dvs_lt hg hd i k) (gm_lt _ (hg _))
    · exact dvs_lt hg hd i k
theorem dvs_lfs {T : Nat} {g dt : Nat → Nat} (hT : 0 < T) (hg : ∀ p, g p < 256) (hd : ∀ p, dt p < 256) : ∀ i p, i ≤ p → dvs T g dt i p = (if p - i < T then lfs T g dt i (p - i) else 0) ^^^ dt p
  | 0, p, _ => by
    unfold dvs lfs
    split <;> rw [Nat.zero_xor]
  | i + 1, p, h => by
    have e0 := dvs_lfs hT hg hd i i (Nat.le_refl _)
    have e1 := dvs_lfs hT hg hd i p (by omega)
    rw [Nat.sub_self, if_pos hT] at e0
    obtain ⟨k, rfl⟩ : ∃ k, p = i + 1 + k := ⟨p - (i + 1), by omega⟩
    have ek : i + 1 + k - i = k + 1 := by omega
    have ek1 : i + 1 + k - (i + 1) = k := by omega
    rw [ek] at e1
    rw [ek1]
    unfold dvs
    rw [ek]
    by_cases hk : k < T
    · rw [if_pos (by omega), if_pos hk, e1, e0]
      conv => rhs; unfold lfs
      rw [gm_comm (hg _) (xor_lt (lfs_lt hd _ _) (hd _)), Nat.xor_assoc, Nat.xor_comm (dt _), ← Nat.xor_assoc]
    · rw [if_neg (by omega), if_neg hk, e1, if_neg (by omega)]
theorem set_upd {L : Nat} (r : Nat → Nat) {q : Nat} (v : Nat) (h : q < L) : (vec L r).set ((q : Nat) : Int).toNat ((v : Nat) : Int) = vec L (upd r q v) := by
  rw [Int.toNat_natCast, set_vec _ _ h]
/-- While one place is divided: the generator's places up to k are done. -/
def dvM (g r : Nat → Nat) (i x k p : Nat) : Nat := if i ≤ p ∧ p < i + k then r p ^^^ gm (g (p - i)) x else r p
theorem dvM_step (g r : Nat → Nat) (i x k p : Nat) : upd (dvM g r i x k) (i + k) (r (i + k) ^^^ gm (g k) x) p = dvM g r i x (k + 1) p := by
  unfold upd dvM
  by_cases h : p = i + k
  · subst h; rw [if_pos rfl, if_pos (by omega), Nat.add_sub_cancel_left]
  · rw [if_neg h]
    by_cases h2 : i ≤ p ∧ p < i + k
    · rw [if_pos h2, if_pos (by omega)]
    · rw [if_neg h2, if_neg (by omega)]
theorem iRs_l4 (l : List Int) (T L : Nat) (g r : Nat → Nat) (hg : ∀ p, g p < 256) (hr : ∀ p, r p < 256) (n : Int) (R : List Int × Bool) (i x : Nat) (hx : x < 256) (hi : i + (T + 1) ≤ L) (hL : L ≤ 1000)
    (h : Ev (fun f => impl_RsCode.l3 f l (vec (T + 1) g) (vec L (dvM g r i x (T + 1))) n ((i + 1 : Nat) : Int)) R) : ∀ (d k : Nat), k + d = T + 1 →
    Ev (fun f => impl_RsCode.l4 f l (vec (T + 1) g) (vec L (dvM g r i x k)) (i : Int) (x : Int) n (i : Int) (vec (T + 1) g) ((vec (T + 1) g).length : Int) (k : Int)) R := by
  intro d
  rw [vec_len]
  induction d with
  | zero =>
    intro k hd
    obtain rfl : k = T + 1 := by omega
    refine Ev.step (fun f => ?_) h
    rw [impl_RsCode.l4, if_neg (by omega), wsucc (by omega)]
  | succ d ih =>
    intro k hd
    have ew : wrap64 ((i : Int) + (k : Int)) = ((i + k : Nat) : Int) := by rw [w64 (by omega) (by omega)]; omega
    have hgk := hg k
    have hrk := hr (i + k)
    have hxx := gm_lt x hgk
    have e : dvM g r i x k (i + k) = r (i + k) := by unfold dvM; rw [if_neg (by omega)]
    refine Ev.step (fun f => by rw [impl_RsCode.l4, ew, wsucc (by omega), vec_len, vec_len, if_pos (by omega), if_pos (by omega), if_pos (by omega), if_pos (by omega), if_pos (by omega)]) (Ev.bind (iGfMul_ev _ _) ?_)
    rw [rd_vec _ (by omega), rd_vec _ (by omega), gmI_nat hgk hx, e, xor64 _ _ (by omega) (by omega), set_upd _ _ (by omega), vec_congr (fun p _ => dvM_step g r i x k p)]
    exact ih (k + 1) (by omega)
theorem iRs_l5 (acc : List Int) (T : Nat) (s : Nat → Nat) (hs : ∀ p, s p < 256) (ha : acc.length ≤ 1000) (hT : T ≤ 1000) : ∀ (d k : Nat), k + d = T →
    Ev (fun f => impl_RsCode.l5 f (acc ++ vec k s) (vec T s) ((vec T s).length : Int) (k : Int)) (acc ++ vec T s, true) := by
  intro d
  rw [vec_len]
  induction d with
  | zero =>
    intro k hd
    obtain rfl : k = T := by omega
    exact Ev.fin (fun f => by rw [impl_RsCode.l5, if_neg (by omega)])
  | succ d ih =>
    intro k hd
    have hsk := hs k
    refine Ev.step (fun f => ?_) (ih (k + 1) (by omega))
    have e : ((s k : Nat) : Int) % 256 = ((s k : Nat) : Int) := by omega
    rw [impl_RsCode.l5, wsucc (by omega), vec_len, if_pos (by omega), if_pos (by omega), if_pos (by omega), if_pos (by rw [List.length_append, vec_len]; omega), rd_vec _ (by omega), e, List.append_assoc, ← vec_snoc]
theorem sRs_l4 (acc : List Int) (T : Nat) (s : Nat → Nat) (hs : ∀ p, s p < 256) (ha : acc.length ≤ 1000) (hT : T ≤ 1000) : ∀ (d k : Nat), k + d = T →
    Ev (fun f => spec_RsCode.l4 f (vec T s) (acc ++ vec k s) (k : Int)) (acc ++ vec T s, true) := by
  intro d
  induction d with
  | zero =>
    intro k hd
    obtain rfl : k = T := by omega
    exact Ev.fin (fun f => by rw [spec_RsCode.l4, vec_len, if_neg (by omega)])
  | succ d ih =>
    intro k hd
    have hsk := hs k
    refine Ev.step (fun f => ?_) (ih (k + 1) (by omega))
    have e : ((s k : Nat) : Int) % 256 = ((s k : Nat) : Int) := by omega
    rw [spec_RsCode.l4, wsucc (by omega), vec_len, if_pos (by omega), if_pos (by omega), if_pos (by rw [List.length_append, vec_len]; omega), rd_vec _ (by omega), e, List.append_assoc, ← vec_snoc]
/-- The word of data: the data and what is left when they are divided. -/
def rsN (l : List Int) (m : Nat) : List Int := l ++ vec (2 * m) (lfs (2 * m) (genN (2 * m)) (tl l) l.length)
theorem tl_lt {l : List Int} (hb : Bytes l) (p : Nat) : tl l p < 256 := by
  by_cases h : p < l.length
  · have := wfb (hb _ (rd_mem (xs := l) (i := p) h)); unfold tl; omega
  · rw [tl_end (by omega)]; omega
theorem rd_tl {l : List Int} (hb : Bytes l) {p : Nat} (h : p < l.length) : rd l (p : Int) = ((tl l p : Nat) : Int) := by
  have := wfb (hb _ (rd_mem (xs := l) (i := p) h)); unfold tl; omega
theorem iRs_l3 (l : List Int) (hb : Bytes l) (m : Nat) (hm : 1 ≤ m ∧ m ≤ 8) (hl : l.length ≤ 255) : ∀ (d i : Nat), i + d = l.length →
    Ev (fun f => impl_RsCode.l3 f l (vec (2 * m + 1) (genN (2 * m))) (vec (l.length + 2 * m) (dvs (2 * m) (genN (2 * m)) (tl l) i)) (l.length : Int) (i : Int)) (rsN l m, true) := by
  have hg := genN_lt (2 * m)
  have ht := tl_lt hb
  have hlt : ∀ i p, dvs (2 * m) (genN (2 * m)) (tl l) i p < 256 := dvs_lt hg ht
  intro d
  induction d with
  | zero =>
    intro i hd
    obtain rfl : i = l.length := by omega
    refine Ev.step (fun f => by rw [impl_RsCode.l3, if_neg (by omega)]) (Ev.bind0 (a := l) (by unfold slices_Clone_byte_byte.f; rw [if_pos (by simp; omega)]) ?_)
    refine Ev.pos (by omega) (Ev.pos (by rw [vec_len]; omega) (Ev.bind0 rfl ?_))
    rw [Int.toNat_natCast, drop_vec, Nat.add_sub_cancel_left]
    unfold rsN
    rw [vec_congr (r := fun p => dvs (2 * m) (genN (2 * m)) (tl l) l.length (l.length + p)) (s := lfs (2 * m) (genN (2 * m)) (tl l) l.length) (fun p hp => by
      show dvs (2 * m) (genN (2 * m)) (tl l) l.length (l.length + p) = _
      rw [dvs_lfs (by omega) hg ht l.length (l.length + p) (by omega), Nat.add_sub_cancel_left, if_pos hp, tl_end (by omega), Nat.xor_zero])]
    have h := iRs_l5 l (2 * m) (lfs (2 * m) (genN (2 * m)) (tl l) l.length) (lfs_lt ht _) (by omega) (by omega) (2 * m) 0 (by omega)
    have e0 : ∀ s, vec 0 s = [] := fun s => rfl
    rw [e0, List.append_nil] at h
    exact h
  | succ d ih =>
    intro i hd
    refine Ev.step (fun f => by rw [impl_RsCode.l3, vec_len, if_pos (by omega), if_pos (by omega), if_pos (by omega), rd_vec _ (by omega)]) ?_
    have h := iRs_l4 l (2 * m) (l.length + 2 * m) (genN (2 * m)) (dvs (2 * m) (genN (2 * m)) (tl l) i) hg (hlt i) (l.length : Int) (rsN l m, true) i (dvs (2 * m) (genN (2 * m)) (tl l) i i) (hlt i i) (by omega) (by omega) (ih (i + 1) (by omega)) (2 * m + 1) 0 (by omega)
    have e : vec (l.length + 2 * m) (dvM (genN (2 * m)) (dvs (2 * m) (genN (2 * m)) (tl l) i) i (dvs (2 * m) (genN (2 * m)) (tl l) i i) 0) = vec (l.length + 2 * m) (dvs (2 * m) (genN (2 * m)) (tl l) i) := vec_congr fun p _ => by unfold dvM; rw [if_neg (by omega)]
    rw [e] at h
    exact h
/-- The data are laid at the start of the rest. -/
def ldM (l : List Int) (i p : Nat) : Nat := if p < i then tl l p else 0
theorem ldM_step (l : List Int) (i p : Nat) : upd (ldM l i) i (tl l i) p = ldM l (i + 1) p := by
  unfold upd ldM
  by_cases h : p = i
  · subst h; rw [if_pos rfl, if_pos (by omega)]
  · rw [if_neg h]
    by_cases h2 : p < i
    · rw [if_pos h2, if_pos (by omega)]
    · rw [if_neg h2, if_neg (by omega)]
theorem iRs_l2 (l : List Int) (hb : Bytes l) (m : Nat) (hm : 1 ≤ m ∧ m ≤ 8) (hl : l.length ≤ 255) : ∀ (d i : Nat), i + d = l.length →
    Ev (fun f => impl_RsCode.l2 f l (vec (2 * m + 1) (genN (2 * m))) (vec (l.length + 2 * m) (ldM l i)) l (l.length : Int) (i : Int)) (rsN l m, true) := by
  intro d
  induction d with
  | zero =>
    intro i hd
    obtain rfl : i = l.length := by omega
    refine Ev.step (fun f => ?_) (iRs_l3 l hb m hm hl l.length 0 (by omega))
    rw [impl_RsCode.l2, if_neg (by omega)]
    congr 1
    exact vec_congr fun p _ => by
      unfold ldM dvs
      by_cases h : p < l.length
      · rw [if_pos h]
      · rw [if_neg h, tl_end (by omega)]
  | succ d ih =>
    intro i hd
    have ht := tl_lt hb i
    refine Ev.step (fun f => ?_) (ih (i + 1) (by omega))
    rw [impl_RsCode.l2, vec_len, if_pos (by omega), if_pos (by omega), if_pos (by omega), if_pos (by omega), rd_tl hb (by omega), w64 (n := ((tl l i : Nat) : Int)) (by omega) (by omega), wsucc (by omega), set_upd _ _ (by omega), vec_congr (fun p _ => ldM_step l i p)]
theorem cloneI_some (l : List Int) (h : l.length ≤ 1000) : slices_Clone_int_int.f l = some l := by
  unfold slices_Clone_int_int.f; rw [if_pos (by simp; omega)]
theorem iRs_l0 (l : List Int) (hb : Bytes l) (m : Nat) (hm : 1 ≤ m ∧ m ≤ 8) (hl : l.length ≤ 255) : ∀ (d j : Nat), j + d = 2 * m →
    Ev (fun f => impl_RsCode.l0 f l (m : Int) (vec (j + 1) (genN j)) ((2 * m : Nat) : Int) (j : Int)) (rsN l m, true) := by
  have e2 : wrap64 (2 * (m : Int)) = ((2 * m : Nat) : Int) := by rw [w64 (by omega) (by omega)]; omega
  have e3 : wrap64 ((l.length : Int) + ((2 * m : Nat) : Int)) = ((l.length + 2 * m : Nat) : Int) := by rw [w64 (by omega) (by omega)]; omega
  intro d
  induction d with
  | zero =>
    intro j hd
    obtain rfl : j = 2 * m := by omega
    refine Ev.step (fun f => ?_) (iRs_l2 l hb m hm hl l.length 0 (by omega))
    rw [impl_RsCode.l0, if_neg (by omega), e2, e3, if_pos (by omega), if_pos (by omega), Int.toNat_natCast, vec_rep]
    congr 1
  | succ d ih =>
    intro j hd
    refine Ev.step (fun f => by rw [impl_RsCode.l0, if_pos (by omega)]) (Ev.bind (igfPow_ev j) (Ev.bind0 (cloneI_some (vec (j + 1) (genN j)) (by rw [vec_len]; omega)) ?_))
    refine Ev.pos (by rw [vec_len]; omega) ?_
    rw [gen_app]
    exact iRs_l1 l (m : Int) ((2 * m : Nat) : Int) (rsN l m, true) j (by omega) (ih (j + 1) (by omega)) (j + 1) 0 (by omega)
theorem sRs_l3 (l : List Int) (T : Nat) (g s : Nat → Nat) (hg : ∀ p, g p < 256) (hs : ∀ p, s p < 256) (R : List Int × Bool) (i x : Nat) (hi : i ≤ 1000) (hx : x < 256) (hT : T ≤ 100)
    (h : Ev (fun f => spec_RsCode.l2 f l (vec (T + 1) g) (vec T (fun p => s p ^^^ gm x (g (p + 1)))) ((i + 1 : Nat) : Int)) R) : ∀ (d k : Nat), k + d = T →
    Ev (fun f => spec_RsCode.l3 f l (vec (T + 1) g) (vec T (fun p => if p < k then s p ^^^ gm x (g (p + 1)) else s p)) (i : Int) (x : Int) (k : Int)) R := by
  intro d
  induction d with
  | zero =>
    intro k hd
    obtain rfl : k = T := by omega
    refine Ev.step (fun f => ?_) h
    rw [spec_RsCode.l3, vec_len, if_neg (by omega), wsucc (by omega), vec_congr (r := fun p => if p < k then s p ^^^ gm x (g (p + 1)) else s p) (s := fun p => s p ^^^ gm x (g (p + 1))) (fun p hp => if_pos hp)]
  | succ d ih =>
    intro k hd
    have hgk := hg (k + 1)
    have hsk := hs k
    have hxx := gm_lt (g (k + 1)) hx
    refine Ev.step (fun f => by rw [spec_RsCode.l3, wsucc (by omega), vec_len, vec_len, if_pos (by omega), if_pos (by omega), if_pos (by omega), if_pos (by omega)]) (Ev.bind (sGfMul_ev _ _) ?_)
    have hi2 := ih (k + 1) (by omega)
    rw [vec_congr (r := fun p => if p < k + 1 then s p ^^^ gm x (g (p + 1)) else s p) (s := upd (fun p => if p < k then s p ^^^ gm x (g (p + 1)) else s p) k (s k ^^^ gm x (g (k + 1)))) (fun p hp => by
      unfold upd
      by_cases h : p = k
      · subst h; rw [if_pos rfl]; exact if_pos (by omega)
      · rw [if_neg h]
        show _ = (if p < k then s p ^^^ gm x (g (p + 1)) else s p)
        by_cases h2 : p < k
        · rw [if_pos h2]; exact if_pos (by omega)
        · rw [if_neg h2]; exact if_neg (by omega))] at hi2
    rw [rd_vec _ (by omega), rd_vec _ (by omega), gmI_nat hx hgk, if_neg (by omega), xor64 _ _ (by omega) (by omega), set_upd _ _ (by omega)]
    exact hi2
theorem sRs_l2 (l : List Int) (hb : Bytes l) (m : Nat) (hm : 1 ≤ m ∧ m ≤ 8) (hl : l.length ≤ 255) : ∀ (d i : Nat), i + d = l.length →
    Ev (fun f => spec_RsCode.l2 f l (vec (2 * m + 1) (genN (2 * m))) (vec (2 * m) (lfs (2 * m) (genN (2 * m)) (tl l) i)) (i : Int)) (rsN l m, true) := by
  have hg := genN_lt (2 * m)
  have ht := tl_lt hb
  have hlt : ∀ i p, lfs (2 * m) (genN (2 * m)) (tl l) i p < 256 := lfs_lt ht
  intro d
  induction d with
  | zero =>
    intro i hd
    obtain rfl : i = l.length := by omega
    refine Ev.step (fun f => by rw [spec_RsCode.l2, if_neg (by omega)]) (Ev.bind0 rfl ?_)
    refine Ev.pos (by rw [List.length_nil]; omega) ?_
    have h := sRs_l4 l (2 * m) (lfs (2 * m) (genN (2 * m)) (tl l) l.length) (hlt _) (by omega) (by omega) (2 * m) 0 (by omega)
    have e0 : ∀ s, vec 0 s = [] := fun s => rfl
    rw [e0, List.append_nil] at h
    exact h
  | succ d ih =>
    intro i hd
    have h1 := hlt i 0
    have h2 := ht i
    have h3 : lfs (2 * m) (genN (2 * m)) (tl l) i 0 ^^^ tl l i < 256 := xor_lt h1 h2
    refine Ev.step (fun f => by rw [spec_RsCode.l2, vec_len, if_pos (by omega), if_pos (by omega), if_pos (by omega)]) (Ev.bind0 rfl ?_)
    refine Ev.pos (by omega) (Ev.bind0 rfl ?_)
    refine Ev.pos (by rw [drop_vec, vec_len, List.length_nil]; omega) (Ev.bind0 rfl ?_)
    refine Ev.pos (by rw [drop_vec, List.nil_append, vec_len]; omega) ?_
    have r0 := rd_vec (L := 2 * m) (lfs (2 * m) (genN (2 * m)) (tl l) i) (p := 0) (by omega)
    rw [Int.ofNat_zero] at r0
    rw [r0, rd_tl hb (by omega), w64 (n := ((tl l i : Nat) : Int)) (by omega) (by omega), xor64 _ _ (by omega) (by omega), drop_vec, List.nil_append]
    have e : vec (2 * m - 1) (fun p => lfs (2 * m) (genN (2 * m)) (tl l) i (1 + p)) ++ [(0 : Int)] = vec (2 * m) (fun p => if p < 0 then (if p + 1 < 2 * m then lfs (2 * m) (genN (2 * m)) (tl l) i (p + 1) else 0) ^^^ gm (lfs (2 * m) (genN (2 * m)) (tl l) i 0 ^^^ tl l i) (genN (2 * m) (p + 1)) else (if p + 1 < 2 * m then lfs (2 * m) (genN (2 * m)) (tl l) i (p + 1) else 0)) := by
      obtain ⟨T, hT⟩ : ∃ T, 2 * m = T + 1 := ⟨2 * m - 1, by omega⟩
      rw [hT, Nat.add_sub_cancel, vec_snoc, vec_congr (fun p hp => by
        show lfs (T + 1) (genN (T + 1)) (tl l) i (1 + p) = (fun p => if p < 0 then (if p + 1 < T + 1 then lfs (T + 1) (genN (T + 1)) (tl l) i (p + 1) else 0) ^^^ gm (lfs (T + 1) (genN (T + 1)) (tl l) i 0 ^^^ tl l i) (genN (T + 1) (p + 1)) else (if p + 1 < T + 1 then lfs (T + 1) (genN (T + 1)) (tl l) i (p + 1) else 0)) p
        dsimp only
        rw [if_neg (by omega), if_pos (by omega), Nat.add_comm 1 p])]
      congr 1
      rw [if_neg (by omega), if_neg (by omega)]; rfl
    rw [e]
    exact sRs_l3 l (2 * m) (genN (2 * m)) _ hg (fun p => by split <;> first | exact hlt _ _ | omega) (rsN l m, true) i _ (by omega) h3 (by omega) (ih (i + 1) (by omega)) (2 * m) 0 (by omega)
theorem sRs_l0 (l : List Int) (hb : Bytes l) (m : Nat) (hm : 1 ≤ m ∧ m ≤ 8) (hl : l.length ≤ 255) : ∀ (d j : Nat), j + d = 2 * m →
    Ev (fun f => spec_RsCode.l0 f l (m : Int) (vec (j + 1) (genN j)) (j : Int)) (rsN l m, true) := by
  have e2 : wrap64 (2 * (m : Int)) = ((2 * m : Nat) : Int) := by rw [w64 (by omega) (by omega)]; omega
  intro d
  induction d with
  | zero =>
    intro j hd
    obtain rfl : j = 2 * m := by omega
    refine Ev.step (fun f => ?_) (sRs_l2 l hb m hm hl l.length 0 (by omega))
    rw [spec_RsCode.l0, e2, if_neg (by omega), if_pos (by omega), if_pos (by omega), Int.toNat_natCast, vec_rep]
    congr 1
  | succ d ih =>
    intro j hd
    refine Ev.step (fun f => by rw [spec_RsCode.l0, e2, if_pos (by omega)]) (Ev.bind0 rfl ?_)
    refine Ev.pos (by rw [vec_len, List.length_nil]; omega) (Ev.bind0 rfl ?_)
    refine Ev.pos (by rw [List.nil_append, vec_len]; omega) ?_
    rw [List.nil_append, gen_app]
    exact sRs_l1 l (m : Int) (rsN l m, true) j (by omega) (ih (j + 1) (by omega)) (j + 1) 0 (by omega)
theorem l14Mend_eq (m : Int) : spec_l14Mend.f m = some (decide (1 ≤ m ∧ m ≤ 8)) := by unfold spec_l14Mend.f; rw [l1In_eq]; rfl
theorem RsCode_more (l : List Int) (hl : l.length ≤ 1048576) (hb : Bytes l) (m : Int) (hm : (Lit.int .i64 m).wf = true) : ∃ (r : List Int) (ok : Bool), Ev (fun k => spec_RsCode.f k l m) (r, ok) ∧ Ev (fun k => impl_RsCode.f k l m) (r, ok) ∧ r.length ≤ 17592186044416 ∧ (ok = true → ∃ n : Nat, m = n ∧ 1 ≤ n ∧ n ≤ 8 ∧ 1 ≤ l.length ∧ l.length + 2 * n ≤ 255 ∧ r = rsN l n) := by
  have hw := wfi hm
  by_cases h : 1 ≤ m ∧ m ≤ 8 ∧ 1 ≤ l.length ∧ (l.length : Int) + 2 * m ≤ 255
  · obtain ⟨n, rfl⟩ : ∃ n : Nat, m = n := ⟨m.toNat, by omega⟩
    have e2 : wrap64 (2 * (n : Int)) = ((2 * n : Nat) : Int) := by rw [w64 (by omega) (by omega)]; omega
    have e3 : wrap64 (255 - ((2 * n : Nat) : Int)) = 255 - ((2 * n : Nat) : Int) := w64 (by omega) (by omega)
    refine ⟨rsN l n, true, ?_, ?_, by unfold rsN; rw [List.length_append, vec_len]; omega, fun _ => ⟨n, rfl, by omega, by omega, by omega, by omega, rfl⟩⟩
    · unfold spec_RsCode.f
      refine Ev.bind0 (l14Mend_eq _) (Ev.pos (by rw [decide_eq_true_eq]; omega) (Ev.bind0 (l1In_eq _ _ _) ?_))
      rw [e2, e3, decide_eq_true (by omega)]
      exact Ev.step (fun f => by rw [spec_RsCode.j0, if_neg (by decide)]; rfl) (sRs_l0 l hb n (by omega) (by omega) (2 * n) 0 (by omega))
    · unfold impl_RsCode.f
      have em : impl_isMend.f (n : Int) = some true := by
        unfold impl_isMend.f
        simp only [ge_iff_le]
        repeat (first | rw [if_pos (by omega)] | rw [decide_eq_true (by omega)])
      refine Ev.bind0 em (Ev.pos rfl (Ev.neg (by omega) ?_))
      rw [e2, e3, decide_eq_false (by omega)]
      refine Ev.step (fun f => by rw [impl_RsCode.j0, if_neg (by decide), e2]; rfl) (iRs_l0 l hb n (by omega) (by omega) (2 * n) 0 (by omega))
  · refine ⟨[], false, ?_, ?_, by simp, fun h => absurd h (by simp)⟩
    · unfold spec_RsCode.f
      refine Ev.bind0 (l14Mend_eq _) ?_
      by_cases h1 : 1 ≤ m ∧ m ≤ 8
      · have e2 : wrap64 (2 * m) = 2 * m := w64 (by omega) (by omega)
        have e3 : wrap64 (255 - 2 * m) = 255 - 2 * m := w64 (by omega) (by omega)
        refine Ev.pos (by rw [decide_eq_true_eq]; omega) (Ev.bind0 (l1In_eq _ _ _) ?_)
        rw [e2, e3, decide_eq_false (by omega)]
        exact Ev.fin (fun f => by rw [spec_RsCode.j0, if_pos (by simp)])
      · exact Ev.neg (by rw [decide_eq_true_eq]; omega) (Ev.fin (fun f => by rw [spec_RsCode.j0, if_pos (by simp)]))
    · unfold impl_RsCode.f
      by_cases h1 : 1 ≤ m ∧ m ≤ 8
      · have em : impl_isMend.f m = some true := by
          unfold impl_isMend.f
          simp only [ge_iff_le]
          repeat (first | rw [if_pos (by omega)] | rw [decide_eq_true (by omega)])
        have e2 : wrap64 (2 * m) = 2 * m := w64 (by omega) (by omega)
        have e3 : wrap64 (255 - 2 * m) = 255 - 2 * m := w64 (by omega) (by omega)
        refine Ev.bind0 em (Ev.pos rfl ?_)
        rw [e2, e3]
        by_cases h2 : (l.length : Int) < 1
        · exact Ev.pos h2 (Ev.fin (fun f => by rw [impl_RsCode.j0, if_pos rfl]))
        · rw [decide_eq_true (by omega)]
          exact Ev.neg h2 (Ev.fin (fun f => by rw [impl_RsCode.j0, if_pos rfl]))
      · have em : impl_isMend.f m = some false := by
          unfold impl_isMend.f
          by_cases h3 : m ≥ 1
          · rw [if_pos h3, decide_eq_false (by omega)]
          · rw [if_neg h3]
        exact Ev.bind0 em (Ev.neg (by simp) (Ev.fin (fun f => by rw [impl_RsCode.j0, if_pos rfl])))
theorem RsCode_both (l : List Int) (m : Int) (hl : l.length ≤ 1048576) (hb : Bytes l) (hm : (Lit.int .i64 m).wf = true) : ∃ (r : List Int) (ok : Bool), Ev (fun k => spec_RsCode.f k l m) (r, ok) ∧ Ev (fun k => impl_RsCode.f k l m) (r, ok) ∧ r.length ≤ 17592186044416 := by
  obtain ⟨r, ok, h1, h2, h3, _⟩ := RsCode_more l hl hb m hm
  exact ⟨r, ok, h1, h2, h3⟩

theorem toByteS_l0 (l : List Int) (hl : l.length ≤ 17592186044416) : ∀ (d i : Nat) (x : List Int), i + d = l.length → x.length = l.length → x.take i = l.take i →
    Ev (fun k => laws_toByteS.l0 k l x (i : Int)) l := by
  intro d
  induction d with
  | zero =>
    intro i x hd hx ht
    refine Ev.fin (fun k => ?_)
    rw [laws_toByteS.l0, if_neg (by omega)]
    rw [List.take_of_length_le (by omega), List.take_of_length_le (by omega)] at ht
    rw [ht]
  | succ d ih =>
    intro i x hd hx ht
    refine Ev.step (fun k => ?_) (ih (i + 1) (x.set i (rd l (i : Int))) (by omega) (by simpa using hx) ?_)
    · rw [laws_toByteS.l0, if_pos (by omega), if_pos (by omega), if_pos (by omega), wsucc (by omega), Int.toNat_natCast]
    · rw [take_rd (by simp; omega), take_rd (by omega), List.take_set_of_le (by omega), ht, rd_lt (by simp; omega), List.getElem_set_self]
theorem toByteS_ev (l : List Int) (hl : l.length ≤ 17592186044416) : Ev (fun k => laws_toByteS.f k l) l := by
  unfold laws_toByteS.f
  refine Ev.pos (by omega) (Ev.pos (by omega) ?_)
  exact toByteS_l0 l hl l.length 0 _ (by omega) (by simp) (by simp)

theorem eqByteS_l0 (l : List Int) (hl : l.length ≤ 17592186044416) : ∀ (d i : Nat), i + d = l.length → Ev (fun k => laws_eqByteS.l0 k l l (i : Int)) true := by
  intro d
  induction d with
  | zero =>
    intro i hd
    refine Ev.fin (fun k => ?_)
    rw [laws_eqByteS.l0, if_neg (by omega)]
  | succ d ih =>
    intro i hd
    refine Ev.step (fun k => ?_) (ih (i + 1) (by omega))
    rw [laws_eqByteS.l0, if_pos (by omega), if_pos (by omega), if_pos (by omega), if_pos rfl, wsucc (by omega)]
theorem eqByteS_ev (l : List Int) (hl : l.length ≤ 17592186044416) : Ev (fun k => laws_eqByteS.f k l l) true := by
  unfold laws_eqByteS.f
  exact Ev.pos rfl (eqByteS_l0 l hl l.length 0 (by omega))

theorem markByteS_l0 (n : Nat) (s : Int) (hs : 0 ≤ s ∧ s ≤ 100000000000000) (hn : n ≤ 17592186044416) : ∀ (d i : Nat) (x : List Int), i + d = n → x.length = n → x.take i = mkB s i →
    Ev (fun k => laws_markByteS.l0 k x (s + (i : Int)) (i : Int)) (s + (n : Int), mkB s n) := by
  intro d
  induction d with
  | zero =>
    intro i x hd hx ht
    refine Ev.fin (fun k => ?_)
    rw [laws_markByteS.l0, if_neg (by omega)]
    obtain rfl : i = n := by omega
    rw [List.take_of_length_le (by omega)] at ht
    rw [ht]
  | succ d ih =>
    intro i x hd hx ht
    refine Ev.step (fun k => ?_) (ih (i + 1) (x.set i ((s + (i : Int)) % 256)) (by omega) (by simpa using hx) ?_)
    · have e : wrap64 (s + (i : Int) + 1) = s + ((i + 1 : Nat) : Int) := by rw [w64 (by omega) (by omega)]; omega
      rw [laws_markByteS.l0, if_pos (by omega), if_pos (by omega), wsucc (by omega), e, Int.toNat_natCast]
    · rw [take_rd (by simp; omega), List.take_set_of_le (by omega), ht, rd_lt (by simp; omega), List.getElem_set_self]
      rfl
theorem markByteS_ev (x : List Int) (s : Int) (hs : 0 ≤ s ∧ s ≤ 100000000000000) (hl : x.length ≤ 17592186044416) : Ev (fun k => laws_markByteS.f k x s) (s + (x.length : Int), mkB s x.length) := by
  unfold laws_markByteS.f
  exact Ev.cast (Ev.congr (fun k => by rw [Int.natCast_zero, Int.add_zero]) (markByteS_l0 x.length s hs hl x.length 0 x (by omega) rfl (by simp [mkB]))) rfl

theorem heldByteS_l0 (n : Nat) (s : Int) (hs : 0 ≤ s ∧ s ≤ 100000000000000) (hn : n ≤ 17592186044416) : ∀ (d i : Nat), i + d = n → Ev (fun k => laws_heldByteS.l0 k (mkB s n) (s + (i : Int)) (i : Int)) (s + (n : Int)) := by
  intro d
  induction d with
  | zero =>
    intro i hd
    refine Ev.fin (fun k => ?_)
    rw [laws_heldByteS.l0, mkB_length, if_neg (by omega)]
    congr 1; omega
  | succ d ih =>
    intro i hd
    refine Ev.step (fun k => ?_) (ih (i + 1) (by omega))
    have e : wrap64 (s + (i : Int) + 1) = s + ((i + 1 : Nat) : Int) := by rw [w64 (by omega) (by omega)]; omega
    rw [laws_heldByteS.l0, mkB_length, if_pos (by omega), if_pos (by omega), if_pos (rd_mkB s (by omega)), wsucc (by omega), e]
theorem heldByteS_ev (n : Nat) (s : Int) (hs : 0 ≤ s ∧ s ≤ 100000000000000) (hl : n ≤ 17592186044416) : Ev (fun k => laws_heldByteS.f k (mkB s n) s) (s + (n : Int)) := by
  unfold laws_heldByteS.f
  exact Ev.congr (fun k => by rw [Int.natCast_zero, Int.add_zero]) (heldByteS_l0 n s hs hl n 0 (by omega))

theorem FnExactRsCode : laws_FnExactRsCode.Pure := by
  intro l m _ bl wl wm
  refine Ev.rounds ?_
  unfold laws_FnExactRsCode.f
  by_cases gl : (l.length : Int) > 1048576
  · exact Ev.pos gl (Ev.now true)
  refine Ev.neg gl ?_
  have hl : l.length ≤ 1048576 := by omega
  have hl4 : l.length ≤ 17592186044416 := by omega
  obtain ⟨r, ok, hS, hI, hr⟩ := RsCode_both l m hl wl wm
  have ml : 0 ≤ (1 : Int) ∧ (1 : Int) ≤ 100000000000000 := by omega
  have m1 : 0 ≤ (1 : Int) ∧ (1 : Int) ≤ 100000000000000 := by omega
  repeat (first
    | exact Ev.now true
    | with_reducible refine Ev.bind (toByteS_ev l hl4) ?_
    | with_reducible refine Ev.bind hS ?_
    | with_reducible refine Ev.bind hI ?_
    | with_reducible refine Ev.bind (eqByteS_ev l hl4) ?_
    | with_reducible refine Ev.bind (eqByteS_ev r hr) ?_
    | with_reducible refine Ev.bind (markByteS_ev l (1) ml hl4) ?_
    | with_reducible refine Ev.bind (markByteS_ev r 1 m1 hr) ?_
    | with_reducible refine Ev.bind (heldByteS_ev r.length 1 m1 hr) ?_
    | refine Ev.pos rfl ?_
    | (refine Ev.neg ?_ ?_; (· first | (simp; done) | omega))
    | refine Ev.step (fun k => by rw [laws_FnExactRsCode.j0]) ?_
    | refine Ev.step (fun k => by rw [laws_FnExactRsCode.j1]) ?_
    | refine Ev.step (fun k => by rw [laws_FnExactRsCode.j2]) ?_)

end Go.Proofs.Ytdcjfcfiflpblaa.Pure
